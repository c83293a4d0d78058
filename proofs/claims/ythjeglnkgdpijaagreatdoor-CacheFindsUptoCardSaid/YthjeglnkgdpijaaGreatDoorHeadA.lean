/- The walks of strings.Cut at one byte, of fields.line and of head.version. Conditions: texts of at most 2^31 bytes; internal/bytealg.MaxLen holds some number. The walks of head.version and the document's. Condition: a text of at most 2^31 bytes. -/
import Derived.Test.YthjeglnkgdpijaaGreatDoorIdxAny
set_option maxHeartbeats 1000000
set_option maxRecDepth 100000
namespace Go.Proofs.YthjeglnkgdpijaaGreatDoor
open Go.RowKit
namespace P
theorem aHA (c:UInt8):∀ l:List UInt8,Lib.index l [c]=if from_ (·==c) l=[] then (-1:Int) else ((upto (·==c) l).length:Int):=by
 intro l
 rw[Lib.index_one]
 induction l with
 | nil=>rfl
 | cons x l ih =>
  unfold Lib.indexByte upto from_
  cases hx:(x==c)
  ·rw[if_neg (by simp)]
   simp only[List.dropWhile_cons,List.takeWhile_cons,hx,Bool.not_false,if_true]
   rw[ih]
   unfold from_ upto
   split
   ·rfl
   ·rw[if_neg (by simp)]
    simp
  ·rw[if_pos (by simp)]
   simp [hx]
theorem aQC (c:UInt8) (l:List UInt8):Lib.cut l [c]=(upto (·==c) l,(from_ (·==c) l).drop 1,!(from_ (·==c) l).isEmpty):=by
 unfold Lib.cut
 rw[aHA]
 have h:=sK (·==c) l
 by_cases he:from_ (·==c) l=[]
 ·rw[if_pos he,he,if_neg (by decide)]
  have:upto (·==c) l=l:=by
   conv=>rhs;rw[← h]
   rw[he,List.append_nil]
  rw[this]
  rfl
 ·rw[if_neg he,if_pos (by omega)]
  have key:∀ u f:List UInt8,u++f=l→l.take ((u.length:Int)).toNat=u∧l.drop (((u.length:Int)).toNat+[c].length)=f.drop 1:=by
   rintro u f rfl
   constructor
   ·simp
   ·rw[Int.toNat_natCast,List.drop_append,List.drop_of_length_le (by simp)]
    simp
  obtain⟨e1,e2⟩:=key _ _ h
  rw[e1,e2]
  have:(from_ (·==c) l).isEmpty=false:=by simpa using he
  rw[this];rfl
end P
theorem aEB (s:ByteArray) (c:UInt8) (w:World) (hs:s.size≤2147483648) (ht:lH w) :
  Calls Tryz.prog 193 #[.string s,.string ⟨#[c]⟩] w fun e w'=>e=.returned (.tuple #[.string (B (P.upto (·==c) (L s))),.string (B ((P.from_ (·==c) (L s)).drop 1)),.bool (!(P.from_ (·==c) (L s)).isEmpty)])∧Below w.heap.size w w':=by
 obtain⟨_,m,hm⟩:=ht
 refine (Tryz.strings_Cut s ⟨#[c]⟩ m w (by omega) hm).mono ?_
 rintro e w' ⟨rfl,q,rfl⟩
 have h:=P.aQC c (L s)
 have h2:Lib.cut s.data.toList (⟨#[c]⟩:ByteArray).data.toList=Lib.cut (L s) [c]:=rfl
 rw[h2,h]
 exact⟨rfl,below_drewN (zB _ _) q⟩
theorem iU (s p:ByteArray) (w:World):Calls Tryz.prog 58 #[.string s,.string p] w (vX w (.bool (Lib.hasPrefix (L s) (L p)))):=by
 refine (Tryz.strings_HasPrefix s p w).mono ?_
 rintro e w' ⟨rfl,rfl⟩
 exact⟨rfl,rfl⟩
theorem xM (l:List UInt8) (c:UInt8):Lib.hasPrefix l [c]=decide (l.head?=some c):=by
 unfold Lib.hasPrefix
 cases l with
 | nil=>simp
 | cons x l =>
  show (c==x&&true)=decide (some x=some c)
  rw[Bool.and_true]
  by_cases h:x=c
  ·subst h;simp
  ·have h1:(c==x)=false:=by simpa using fun e:c=x=>h e.symm
   have h2:¬ some x=some c:=fun e=>h (Option.some.inj e)
   rw[h1,decide_eq_false h2]
def RetF (w:World) (E:Int) (f:FD) (e:Ending) (w':World):Prop :=
 e=.returned (.tuple #[(if E=0 then .agg #[.string f.1,.string f.2] else .agg #[.string ⟨#[]⟩,.string ⟨#[]⟩]),.int .i64 E])∧Below w.heap.size w w'
theorem aMT (s:ByteArray) (w:World) (hs:s.size≤2147483648) (ht:lH w):Calls Tryz.prog 215 #[.string s] w (RetF w (P.aFB (L s)) (P.vW (L s))):=by
 have HP1:=aH (fun u=>iU s ⟨#[32]⟩ u)
 have HP2:=aH (fun u=>iU s ⟨#[9]⟩ u)
 have e1:Lib.hasPrefix (L s) (L ⟨#[32]⟩)=decide ((L s).head?=some 32):=xM (L s) 32
 have e2:Lib.hasPrefix (L s) (L ⟨#[9]⟩)=decide ((L s).head?=some 9):=xM (L s) 9
 rw[e1]at HP1
 rw[e2]at HP2
 clear e1 e2
 by_cases h1:(L s).head?=some 32∨(L s).head?=some 9
 ·have hE:P.aFB (L s)=41:=if_pos h1
  have HE:=aH hE
  clear hE
  by_cases h2:(L s).head?=some 32
  ·rw[decide_eq_true h2]at HP1
   clear h1 h2 HP2
   go_enter Tryz.func215,Tryz.ntmps215
   go_wp2_with fail
   refine (HP1.out _).mono ?_
   rintro e w' ⟨rfl,rfl⟩
   go_wp2
   refine bK (v:=.tuple #[.agg #[.string ⟨#[]⟩,.string ⟨#[]⟩],.int .i64 41]) (by simp [results,Tryz.results215,go_sem]) rfl ⟨by rw[HE.out,if_neg (by decide)],?_⟩
   exact (zB _ _).alloc (zA _) _
  ·rw[decide_eq_false h2]at HP1
   rw[decide_eq_true (h1.resolve_left h2)]at HP2
   clear h1 h2
   go_enter Tryz.func215,Tryz.ntmps215
   go_wp2_with fail
   refine (HP1.out _).mono ?_
   rintro e w' ⟨rfl,rfl⟩
   go_wp2_with fail
   refine (HP2.out _).mono ?_
   rintro e w' ⟨rfl,rfl⟩
   go_wp2
   refine bK (v:=.tuple #[.agg #[.string ⟨#[]⟩,.string ⟨#[]⟩],.int .i64 41]) (by simp [results,Tryz.results215,go_sem]) rfl ⟨by rw[HE.out,if_neg (by decide)],?_⟩
   exact (zB _ _).alloc (zA _) _
 ·rw[decide_eq_false (fun h=>h1 (.inl h))]at HP1
  rw[decide_eq_false (fun h=>h1 (.inr h))]at HP2
  have hE:P.aFB (L s)=if P.from_ (·==58) (L s)=[]∨T.token (P.nameOf (L s))=false∨F.good (B (P.valOf (L s)))=false then 40 else 0:=if_neg h1
  have hsz:=P.aBR (L s)
  have hls:(L s).length=s.size:=(aS s).symm
  have hsz1:(P.vW (L s)).1.size≤2147483648:=by omega
  have hsz2:(P.vW (L s)).2.size≤2147483648:=by omega
  have hsz3:(B ((P.from_ (·==58) (L s)).drop 1)).size≤2147483648:=by
   rw[iZ,List.length_drop]
   have:=P.jC (·==58) (L s)
   omega
  have HC:=aH (fun (u:World) (hb:Below w.heap.size w u)=>aEB s 58 u hs (ht.below hb))
  have HTR:=aH (fun (u:World)=>rM (B ((P.from_ (·==58) (L s)).drop 1)) u (by omega))
  have HTK:=aH (fun (u:World)=>aAW (P.vW (L s)).1 u (by omega))
  have HGD:=aH (fun (u:World)=>aFN (P.vW (L s)).2 u (by omega))
  replace HC:Hid (∀ u,Below w.heap.size w u→Calls Tryz.prog 193 #[.string s,.string ⟨#[58]⟩] u fun e w'=>e=.returned (.tuple #[.string (P.vW (L s)).1,.string (B ((P.from_ (·==58) (L s)).drop 1)),.bool (!(P.from_ (·==58) (L s)).isEmpty)])∧Below u.heap.size u w'):=HC
  replace HTR:Hid (∀ u,Calls Tryz.prog 159 #[.string (B ((P.from_ (·==58) (L s)).drop 1))] u (aEM u (P.vW (L s)).2)):=HTR
  replace HTK:Hid (∀ u,Calls Tryz.prog 199 #[.string (P.vW (L s)).1] u (vX u (.bool (T.token (P.nameOf (L s)))))):=HTK
  replace HGD:Hid (∀ u,Calls Tryz.prog 200 #[.string (P.vW (L s)).2] u (qP u (F.good (B (P.valOf (L s)))))):=HGD
  clear h1 hsz hsz1 hsz2 hsz3 hls ht
  obtain⟨nm,hnm⟩:∃ nm,(P.vW (L s)).1=nm:=⟨_,rfl⟩
  obtain⟨vl,hvl⟩:∃ vl,(P.vW (L s)).2=vl:=⟨_,rfl⟩
  rw[hnm]at HC HTK
  rw[hvl]at HTR HGD
  have HNV:Hid (Ending.returned (.tuple #[.agg #[.string nm,.string vl],.int .i64 0])=.returned (.tuple #[.agg #[.string (P.vW (L s)).1,.string (P.vW (L s)).2],.int .i64 0])):=aH (by rw[hnm,hvl])
  clear hnm hvl
  obtain⟨ok,hok,hokf⟩:∃ ok:Bool,ok=!(P.from_ (·==58) (L s)).isEmpty∧(P.from_ (·==58) (L s)=[]↔ok=false):=⟨_,rfl,by simp⟩
  rw[← hok]at HC
  simp only[hokf]at hE
  generalize T.token (P.nameOf (L s))=tk at *
  generalize F.good (B (P.valOf (L s)))=gd at *
  generalize B ((P.from_ (·==58) (L s)).drop 1)=v0 at *
  have HEE:=aH hE
  clear hE hok hokf
  go_enter Tryz.func215,Tryz.ntmps215
  go_wp2_with fail
  refine (HP1.out _).mono ?_
  rintro e w' ⟨rfl,rfl⟩
  go_wp2_with fail
  refine (HP2.out _).mono ?_
  rintro e w' ⟨rfl,rfl⟩
  clear HP1 HP2
  have HK0:=aH (Blk.new w #[.string ⟨#[]⟩,.string ⟨#[]⟩] 60)
  have HB0:=aH ((zB w.heap.size w).alloc (zA _) (.cells #[.string ⟨#[]⟩,.string ⟨#[]⟩] 60))
  go_wp2_with fail
  generalize w.alloc (.cells #[.string ⟨#[]⟩,.string ⟨#[]⟩] 60)=w0 at *
  refine (HC.out _ HB0.out).mono ?_
  rintro e w1 ⟨rfl,hb1⟩
  have HK1:=aH (HK0.out.below hb1)
  have HB1:=aH (aA HB0.out.size HB0.out hb1)
  clear hb1 HK0 HB0 HC
  go_wp2_with fail
  refine (HTR.out _).mono ?_
  rintro e w2 ⟨rfl,hb2⟩
  have HK2:=aH (HK1.out.below hb2)
  have HB2:=aH (aA HB1.out.size HB1.out hb2)
  clear hb2 HK1 HB1 HTR
  cases ok
  ·have HE:Hid (P.aFB (L s)=40):=aH (HEE.out.trans (if_pos (.inl rfl)))
   obtain⟨x0,x1⟩:=HK2.out.cells2
   have f0:=HK2.out.free 0
   have f1:=HK2.out.free 1
   go_wp2
   obtain⟨z0,z1⟩:=((HK2.out.set 0 (.string ⟨#[]⟩)).set 1 (.string ⟨#[]⟩)).cells2
   refine bK (v:=.tuple #[.agg #[.string ⟨#[]⟩,.string ⟨#[]⟩],.int .i64 40]) (by simp [results,Tryz.results215,go_sem,z0,z1]) rfl ⟨by rw[HE.out,if_neg (by decide)],?_⟩
   exact aK (aK HB2.out (zA _) 0 _) (zA _) 1 _
  ·cases tk
   ·have HE:Hid (P.aFB (L s)=40):=aH (HEE.out.trans (if_pos (.inr (.inl rfl))))
    go_wp2_with fail
    refine (HTK.out _).mono ?_
    rintro e w' ⟨rfl,rfl⟩
    obtain⟨x0,x1⟩:=HK2.out.cells2
    have f0:=HK2.out.free 0
    have f1:=HK2.out.free 1
    go_wp2
    obtain⟨z0,z1⟩:=((HK2.out.set 0 (.string ⟨#[]⟩)).set 1 (.string ⟨#[]⟩)).cells2
    refine bK (v:=.tuple #[.agg #[.string ⟨#[]⟩,.string ⟨#[]⟩],.int .i64 40]) (by simp [results,Tryz.results215,go_sem,z0,z1]) rfl ⟨by rw[HE.out,if_neg (by decide)],?_⟩
    exact aK (aK HB2.out (zA _) 0 _) (zA _) 1 _
   ·go_wp2_with fail
    refine (HTK.out _).mono ?_
    rintro e w' ⟨rfl,rfl⟩
    go_wp2_with fail
    refine (HGD.out _).mono ?_
    rintro e w3 ⟨rfl,hb3⟩
    have HK3:=aH (HK2.out.below hb3)
    have HB3:=aH (aA HB2.out.size HB2.out hb3)
    clear hb3 HK2 HB2 HGD HTK
    obtain⟨x0,x1⟩:=HK3.out.cells2
    have f0:=HK3.out.free 0
    have f1:=HK3.out.free 1
    cases gd
    ·have HE:Hid (P.aFB (L s)=40):=aH (HEE.out.trans (if_pos (.inr (.inr rfl))))
     go_wp2
     obtain⟨z0,z1⟩:=((HK3.out.set 0 (.string ⟨#[]⟩)).set 1 (.string ⟨#[]⟩)).cells2
     refine bK (v:=.tuple #[.agg #[.string ⟨#[]⟩,.string ⟨#[]⟩],.int .i64 40]) (by simp [results,Tryz.results215,go_sem,z0,z1]) rfl ⟨by rw[HE.out,if_neg (by decide)],?_⟩
     exact aK (aK HB3.out (zA _) 0 _) (zA _) 1 _
    ·have HE:Hid (P.aFB (L s)=0):=aH (HEE.out.trans (if_neg (by simp)))
     go_wp2
     obtain⟨z0,z1⟩:=((HK3.out.set 0 (.string nm)).set 1 (.string vl)).cells2
     refine bK (v:=.tuple #[.agg #[.string nm,.string vl],.int .i64 0]) (by simp [results,Tryz.results215,go_sem,z0,z1]) rfl ⟨by rw[HE.out,if_pos rfl];exact HNV.out,?_⟩
     exact aK (aK HB3.out (zA _) 0 _) (zA _) 1 _
theorem aCG (c:UInt8) (w:World):Calls Tryz.prog 213 #[.int .u8 c.toNat] w (vX w (.bool (P.dig c))):=by
 rcases (by omega:c.toNat < 48∨(48≤c.toNat∧c.toNat≤57)∨57 < c.toNat) with h | ⟨h,h'⟩ | h
 ·have e:P.dig c=false:=by unfold P.dig;rw[decide_eq_false (by omega:¬ 48≤c.toNat)];rfl
  rw[e]
  have g1:¬ (48:Int)≤(c.toNat:Int):=by omega
  clear e
  go_enter Tryz.func213,Tryz.ntmps213
  go_wp2
  go_ret
  exact⟨rfl,rfl⟩
 ·have e:P.dig c=true:=by unfold P.dig;rw[decide_eq_true h,decide_eq_true h'];rfl
  rw[e]
  have g1:(48:Int)≤(c.toNat:Int):=by omega
  have g2:(c.toNat:Int)≤57:=by omega
  clear e
  go_enter Tryz.func213,Tryz.ntmps213
  go_wp2
  go_ret
  exact⟨rfl,rfl⟩
 ·have e:P.dig c=false:=by unfold P.dig;rw[decide_eq_false (by omega:¬ c.toNat≤57),Bool.and_false]
  rw[e]
  have g1:(48:Int)≤(c.toNat:Int):=by omega
  have g2:¬ (c.toNat:Int)≤57:=by omega
  clear e
  go_enter Tryz.func213,Tryz.ntmps213
  go_wp2
  go_ret
  exact⟨rfl,rfl⟩
theorem aLR {l:List UInt8} (h:P.dX l=false):P.aC0 l=0:=by
 unfold P.aC0
 rw[if_neg]
 rintro rfl
 revert h
 decide
theorem sH {l:List UInt8} (h:P.dX l=false):P.sJ l=50∧P.aC0 l=0:=⟨if_pos h,aLR h⟩
def zU:List UInt8:=[72,84,84,80,47]
theorem aDS (l:List UInt8):Lib.hasPrefix l zU=decide (l.take 5=zU):=by
 rw[← Lib.hasPrefix_of_take]
 have e:zU.length=5:=rfl
 rw[e]
 by_cases h:l.take 5=zU
 ·have:5≤l.length:=by
   have:=congrArg List.length h
   rw[List.length_take,e]at this
   omega
  rw[decide_eq_true this,decide_eq_true h,h]
  decide
 ·have h2:(l.take 5==zU)=false:=by simpa using h
  rw[h2,decide_eq_false h,Bool.and_false]
theorem aLP (s:ByteArray):(s.size≠8∧P.dX (L s)=false)∨∃ h:s.size=8,
  ((L s).take 5≠zU∧P.dX (L s)=false)∨((L s).take 5=zU ∧
   ((P.dig (s[5]'(by omega))=false∧P.dX (L s)=false)∨(P.dig (s[5]'(by omega))=true ∧
    ((s[6]'(by omega)≠46∧P.dX (L s)=false)∨(s[6]'(by omega)=46 ∧
     ((P.dig (s[7]'(by omega))=false∧P.dX (L s)=false)∨(P.dig (s[7]'(by omega))=true∧P.dX (L s)=true))))))):=by
 by_cases h:s.size=8
 ·right
  refine⟨h,?_⟩
  have hl:(L s).length=8:=by rw[← aS];exact h
  have g:∀ j (hj:j < s.size),(L s).getD j 0=s[j]'hj:=fun j hj=>by
   rw[L_at s j hj]
   have:j < (L s).length:=by rw[← aS];exact hj
   simp [List.getD,this]
  unfold P.dX
  rw[decide_eq_true hl,g 5 (by omega),g 6 (by omega),g 7 (by omega)]
  change _∨(_∧_)
  by_cases h1:(L s).take 5=zU
  ·right
   refine⟨h1,?_⟩
   rw[decide_eq_true (show (L s).take 5=[72,84,84,80,47] from h1)]
   simp only[Bool.true_and]
   rcases tf (P.dig (s[5]'(by omega))) with h2 | h2
   ·right
    refine⟨h2,?_⟩
    rw[h2]
    by_cases h3:s[6]'(by omega)=46
    ·right
     refine⟨h3,?_⟩
     rw[decide_eq_true h3]
     rcases tf (P.dig (s[7]'(by omega))) with h4 | h4
     ·right;exact⟨h4,by rw[h4];rfl⟩
     ·left;exact⟨h4,by rw[h4];rfl⟩
    ·left
     exact⟨h3,by rw[decide_eq_false h3];rfl⟩
   ·left
    exact⟨h2,by rw[h2];rfl⟩
  ·left
   exact⟨h1,by rw[decide_eq_false (show ¬ (L s).take 5=[72,84,84,80,47] from h1)];rfl⟩
 ·left
  exact⟨h,by unfold P.dX;rw[decide_eq_false (fun e=>h (by rw[aS];exact e))];rfl⟩
theorem aLQ {l:List UInt8} (h:P.dX l=true):(l=P.aB7∧P.sJ l=0∧P.aC0 l=0)∨(l≠P.aB7∧l=P.aB6∧P.sJ l=0∧P.aC0 l=1)∨(l≠P.aB7∧l≠P.aB6∧P.sJ l=52∧P.aC0 l=0):=by
 unfold P.sJ P.aC0
 rw[h]
 by_cases h1:l=P.aB7
 ·left
  refine⟨h1,?_,?_⟩
  ·rw[if_neg (by decide),if_pos (.inl h1)]
  ·rw[if_neg];rw[h1];decide
 ·right
  by_cases h2:l=P.aB6
  ·left
   exact⟨h1,h2,by rw[if_neg (by decide),if_pos (.inr h2)],if_pos h2⟩
  ·right
   exact⟨h1,h2,by rw[if_neg (by decide),if_neg (fun h=>h.elim h1 h2)],if_neg h2⟩
def RetV (w:World) (s:ByteArray) (e:Ending) (w':World):Prop:=e=.returned (.tuple #[.int .i64 (P.aC0 (L s)),.int .i64 (P.sJ (L s))])∧w=w'
theorem aCZ (s:ByteArray) (w:World):Calls Tryz.prog 195 #[.string s] w (RetV w s):=by
 have HP:Hid (∀ u,Calls Tryz.prog 58 #[.string s,.string ⟨#[72,84,84,80,47]⟩] u (vX u (.bool (decide ((L s).take 5=zU))))):=aH (fun u=>by
  rw[← aDS]
  exact iU s ⟨#[72,84,84,80,47]⟩ u)
 rcases aLP s with ⟨h8,hv⟩ | ⟨h8,h⟩
 ·have HV:=aH (sH hv)
  have g1:((s.size:Int) != 8)=true:=by simpa using (show ¬ (s.size:Int)=8 by omega)
  clear hv HP
  go_enter Tryz.func195,Tryz.ntmps195
  go_wp2
  go_ret2
  exact⟨by rw[HV.out.1,HV.out.2];rfl,rfl⟩
 ·have g1:((s.size:Int) != 8)=false:=by simpa using (show (s.size:Int)=8 by omega)
  have g2:(5:Int) < (s.size:Int):=by omega
  have g3:(6:Int) < (s.size:Int):=by omega
  have g4:(7:Int) < (s.size:Int):=by omega
  have HD5:=aH (fun u=>aCG (s[5]'(by omega)) u)
  have HD7:=aH (fun u=>aCG (s[7]'(by omega)) u)
  rcases h with ⟨h1,hv⟩ | ⟨h1,h⟩
  ·have HV:=aH (sH hv)
   rw[decide_eq_false h1]at HP
   clear hv h1 HD5 HD7
   go_enter Tryz.func195,Tryz.ntmps195
   go_wp2_with fail
   refine (HP.out _).mono ?_
   rintro e w' ⟨rfl,rfl⟩
   go_wp2
   go_ret2
   exact⟨by rw[HV.out.1,HV.out.2];rfl,rfl⟩
  ·rw[decide_eq_true h1]at HP
   clear h1
   rcases h with ⟨h2,hv⟩ | ⟨h2,h⟩
   ·have HV:=aH (sH hv)
    rw[h2]at HD5
    clear hv h2 HD7
    go_enter Tryz.func195,Tryz.ntmps195
    go_wp2_with fail
    refine (HP.out _).mono ?_
    rintro e w' ⟨rfl,rfl⟩
    go_wp2_with fail
    refine (HD5.out _).mono ?_
    rintro e w' ⟨rfl,rfl⟩
    go_wp2
    go_ret2
    exact⟨by rw[HV.out.1,HV.out.2];rfl,rfl⟩
   ·rw[h2]at HD5
    clear h2
    rcases h with ⟨h3,hv⟩ | ⟨h3,h⟩
    ·have HV:=aH (sH hv)
     have g5a:(((s[6]'(by omega)).toNat:Int)==46)=false:=fK (y:=46) h3
     have g5:(((s[6]'(by omega)).toNat:Int) != 46)=true:=by rw[bne,g5a];rfl
     clear g5a
     clear hv h3 HD7
     go_enter Tryz.func195,Tryz.ntmps195
     go_wp2_with fail
     refine (HP.out _).mono ?_
     rintro e w' ⟨rfl,rfl⟩
     go_wp2_with fail
     refine (HD5.out _).mono ?_
     rintro e w' ⟨rfl,rfl⟩
     go_wp2
     go_ret2
     exact⟨by rw[HV.out.1,HV.out.2];rfl,rfl⟩
    ·have g5a:(((s[6]'(by omega)).toNat:Int)==46)=true:=gV (y:=46) h3
     have g5:(((s[6]'(by omega)).toNat:Int) != 46)=false:=by rw[bne,g5a];rfl
     clear g5a
     clear h3
     rcases h with ⟨h4,hv⟩ | ⟨h4,hv⟩
     ·have HV:=aH (sH hv)
      rw[h4]at HD7
      clear hv h4
      go_enter Tryz.func195,Tryz.ntmps195
      go_wp2_with fail
      refine (HP.out _).mono ?_
      rintro e w' ⟨rfl,rfl⟩
      go_wp2_with fail
      refine (HD5.out _).mono ?_
      rintro e w' ⟨rfl,rfl⟩
      go_wp2_with fail
      refine (HD7.out _).mono ?_
      rintro e w' ⟨rfl,rfl⟩
      go_wp2
      go_ret2
      exact⟨by rw[HV.out.1,HV.out.2];rfl,rfl⟩
     ·rw[h4]at HD7
      clear h4
      have ht:=aLQ hv
      rw[← fQ]at ht
      rcases ht with ⟨t1,t2⟩ | ⟨t1,t2,t3⟩ | ⟨t1,t2,t3⟩
      ·have HV:=aH t2
       have t4:s.toList=[72,84,84,80,47,49,46,48]:=t1
       clear hv t1 t2
       go_enter Tryz.func195,Tryz.ntmps195
       go_wp2_with fail
       refine (HP.out _).mono ?_
       rintro e w' ⟨rfl,rfl⟩
       go_wp2_with fail
       refine (HD5.out _).mono ?_
       rintro e w' ⟨rfl,rfl⟩
       go_wp2_with fail
       refine (HD7.out _).mono ?_
       rintro e w' ⟨rfl,rfl⟩
       go_wp2
       go_ret2
       exact⟨by rw[← fQ,HV.out.1,HV.out.2];rfl,rfl⟩
      ·have HV:=aH t3
       have t4:¬ s.toList=[72,84,84,80,47,49,46,48]:=t1
       have t4b:(s.toList==[72,84,84,80,47,49,46,48])=false:=by simpa using t4
       have t5b:(s.toList==[72,84,84,80,47,49,46,49])=true:=beq_iff_eq.2 t2
       clear hv t1 t2 t3
       go_enter Tryz.func195,Tryz.ntmps195
       go_wp2_with fail
       refine (HP.out _).mono ?_
       rintro e w' ⟨rfl,rfl⟩
       go_wp2_with fail
       refine (HD5.out _).mono ?_
       rintro e w' ⟨rfl,rfl⟩
       go_wp2_with fail
       refine (HD7.out _).mono ?_
       rintro e w' ⟨rfl,rfl⟩
       go_wp2
       go_ret2
       exact⟨by rw[← fQ,HV.out.1,HV.out.2];rfl,rfl⟩
      ·have HV:=aH t3
       have t4:¬ s.toList=[72,84,84,80,47,49,46,48]:=t1
       have t4b:(s.toList==[72,84,84,80,47,49,46,48])=false:=by simpa using t4
       have t5:¬ s.toList=[72,84,84,80,47,49,46,49]:=t2
       have t5b:(s.toList==[72,84,84,80,47,49,46,49])=false:=by simpa using t5
       clear hv t1 t2 t3
       go_enter Tryz.func195,Tryz.ntmps195
       go_wp2_with fail
       refine (HP.out _).mono ?_
       rintro e w' ⟨rfl,rfl⟩
       go_wp2_with fail
       refine (HD5.out _).mono ?_
       rintro e w' ⟨rfl,rfl⟩
       go_wp2_with fail
       refine (HD7.out _).mono ?_
       rintro e w' ⟨rfl,rfl⟩
       go_wp2
       go_ret2
       exact⟨by rw[← fQ,HV.out.1,HV.out.2];rfl,rfl⟩
end Go.Proofs.YthjeglnkgdpijaaGreatDoor
