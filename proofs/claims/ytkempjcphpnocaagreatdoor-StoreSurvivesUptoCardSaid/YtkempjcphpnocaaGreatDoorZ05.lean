/- What chunk.Decode computes, as plain functions on lists of bytes; what is told of some bytes is told of them with more behind. No program here. The walks of tok.Quote, of head.text and of the document's text. Conditions: texts of at most 2^40 bytes. The walks of tok.Quote and of head.text. Conditions: texts of at most 2^40 bytes. The walks of the document's Show, and the contract of strconv.Itoa. Conditions: the number is of 64 bits; for Itoa the library's table of powers of ten is as its text lays it. The walks of head.whole, head.PrintRequest and of the document's. Conditions: a list of bulk at most 2^30, texts of at most 2^30 bytes, a number of 64 bits, the library's table of powers of ten. -/
import Derived.Test.YtkempjcphpnocaaGreatDoorZ16
import Derived.Shelf.Strings.Builder1
import Derived.Lib.AppendIntMem
import Derived.Lib.ItoaLen
namespace Go.Proofs.YtkempjcphpnocaaGreatDoor
namespace C
open T (Bs)
def hex (c:UInt8):Int:=if 48≤c.toNat∧c.toNat≤57 then (c.toNat:Int) - 48 else if 65≤c.toNat∧c.toNat≤70 then (c.toNat:Int) - 55 else if 97≤c.toNat∧c.toNat≤102 then (c.toNat:Int) - 87 else -1
def isHex (c:UInt8):Bool:=decide (0≤hex c)
def val (l:Bs):Int:=l.foldl (fun a c=>a * 16+hex c) 0
def semi (c:UInt8):Bool:=c==59
def numOf (l:Bs):Bs:=P.upto semi l
def extOf (l:Bs):Bs:=(P.from_ semi l).drop 1
def sizeOf (l:Bs):Int:=if numOf l=[]∨8 < (numOf l).length∨(numOf l).all isHex=false∨F.text (B (extOf l))=false then -1 else val (numOf l)
def lf (c:UInt8):Bool:=c==10
def eolAt (l:Bs):Nat:=(P.upto lf l).length
def lineBad (l:Bs):Prop:=200≤eolAt l∨eolAt l=0∨l.getD (eolAt l - 1) 0≠13∨sizeOf (l.take (eolAt l - 1)) < 0
instance (l:Bs):Decidable (lineBad l):=inferInstanceAs (Decidable (_∨_))
def lineE (l:Bs):Int:=if eolAt l < l.length then (if lineBad l then 70 else 0) else if 200≤l.length then 70 else 0
def lineN (l:Bs):Nat:=if eolAt l < l.length∧¬ lineBad l then eolAt l+1 else 0
def lineS (l:Bs):Nat:=if eolAt l < l.length∧¬ lineBad l then (sizeOf (l.take (eolAt l - 1))).toNat else 0
structure CD where
 d:Bs
 f:List FD
 n:Nat
 e:Int
def CD.bad (e:Int):CD:=⟨[],[],0,e⟩
def tailE (l:Bs):Int:=if P.crlf.isPrefixOf l then 0 else if P.hE l 0≠0∨P.hN l 0=0 then P.hE l 0 else (P.parse [] (l.take (P.hN l 0 - 2).toNat)).2
def tailN (l:Bs):Nat:=if P.crlf.isPrefixOf l then 2 else if P.hE l 0≠0∨P.hN l 0=0 then 0 else if (P.parse [] (l.take (P.hN l 0 - 2).toNat)).2≠0 then 0 else (P.hN l 0).toNat
def tailF (l:Bs):List FD:=if P.crlf.isPrefixOf l then [] else if P.hE l 0≠0∨P.hN l 0=0 then [] else (P.parse [] (l.take (P.hN l 0 - 2).toNat)).1
def dec (data:Bs) (at_:Nat) (l:Bs):CD :=
 if lineE l≠0∨lineN l=0 then .bad (lineE l)
 else if lineS l=0 then
  (if tailE (l.drop (lineN l))≠0∨tailN (l.drop (lineN l))=0 then .bad (tailE (l.drop (lineN l))) else ⟨data,tailF (l.drop (lineN l)),at_+lineN l+tailN (l.drop (lineN l)),0⟩)
 else if 65536 < data.length+lineS l then .bad 71
 else if _h:(l.drop (lineN l)).length < lineS l+2 then .bad 0
 else if P.crlf.isPrefixOf (l.drop (lineN l+lineS l))=false then .bad 70
 else dec (data++(l.drop (lineN l)).take (lineS l)) (at_+lineN l+lineS l+2) (l.drop (lineN l+lineS l+2))
termination_by l.length
decreasing_by
 rw[List.length_drop]at _h ⊢
 omega
def decode (b:Bs):CD:=dec [] 0 b
end C
end Go.Proofs.YtkempjcphpnocaaGreatDoor
namespace Go.Proofs.YtkempjcphpnocaaGreatDoor
open Go.RowKit
def quoteRen:Go.Shelf.Ren:=⟨fun | 167=>147 | 240=>173 | 276=>199 | n=>n,fun | 0=>0 | 3=>3 | 4=>4 | 5=>5 | 9=>9 | 20=>20 | 37=>26 | 70=>205 | 72=>207 | 75=>196 | 80=>209 | 164=>259 | n=>n,fun | n=>n⟩
theorem lays167:Go.Proofs.Lays.n167 Tryz.prog quoteRen:={
 mixed:=by kernel_rfl
 f167:=Tryz.func147.trans (congrArg some (by kernel_rfl))
 f240:=Tryz.func173.trans (congrArg some (by kernel_rfl))
 f276:=Tryz.func199.trans (congrArg some (by kernel_rfl))
 t0:=Tryz.underlying0
 a0:=Tryz.isAgg0
 z0:=Tryz.sizeOf0
 v0:=Tryz.zeroValue0
 t4:=Tryz.underlying4
 a4:=Tryz.isAgg4
 z4:=Tryz.sizeOf4
 v4:=Tryz.zeroValue4
 t5:=Tryz.underlying5
 a5:=Tryz.isAgg5
 z5:=Tryz.sizeOf5
 v5:=Tryz.zeroValue5
 t9:=Tryz.underlying9
 a9:=Tryz.isAgg9
 z9:=Tryz.sizeOf9
 v9:=Tryz.zeroValue9
 t20:=Tryz.underlying20
 a20:=Tryz.isAgg20
 z20:=Tryz.sizeOf20
 v20:=Tryz.zeroValue20
 t37:=Tryz.underlying26
 a37:=Tryz.isAgg26
 z37:=Tryz.sizeOf26
 v37:=Tryz.zeroValue26
 t70:=Tryz.underlying205
 a70:=Tryz.isAgg205
 z70:=Tryz.sizeOf205
 v70:=Tryz.zeroValue205
 t72:=Tryz.underlying207
 a72:=Tryz.isAgg207
 z72:=Tryz.sizeOf207
 v72:=Tryz.zeroValue207
 t75:=Tryz.underlying196
 a75:=Tryz.isAgg196
 z75:=Tryz.sizeOf196
 v75:=Tryz.zeroValue196
 t164:=Tryz.underlying259
 a164:=Tryz.isAgg259
 z164:=Tryz.sizeOf259
 v164:=Tryz.zeroValue259 }
theorem extra167:Builder.Extra Tryz.prog quoteRen:={
 sizeBuilder:=by kernel_rfl
 liesBuilder:=by kernel_rfl
 t5:=Tryz.underlying5
 a5:=Tryz.isAgg5
 z5:=Tryz.sizeOf5
 v5:=Tryz.zeroValue5
 infoByte:=by kernel_rfl
 cellsByte:=by kernel_rfl
 sizeByte:=by kernel_rfl
 neB5:=by decide }
theorem writeByte_any (B b:Nat) (bs:List Value) (c:Int) (w:World) (h:Lib.IsBuilder 207 5 B b bs w) (hlen:bs.length+1≤140737488355328) (hBw:B≤w.heap.size) :
  Calls Tryz.prog 147 #[.pointer (some ⟨b,0,none⟩),.int .u8 c] w fun e w'=>e=.returned .nilIface∧(Lib.BuilderAt 207 5 B b (.pointer (some ⟨b,0,none⟩)) (bs++[.int .u8 c]) w'∧Below B w w') :=
 Any.Builder_WriteByte lays167 extra167 B b bs c w h hlen hBw
theorem textByte_any (c:UInt8) (w:World):Calls Tryz.prog 148 #[.int .u8 c.toNat] w (RetP w (.bool (T.textB c))):=by
 rcases textB_of c with ⟨h,g1,g2⟩ | ⟨h,g1,g2⟩ | ⟨h,g1,g2,g3⟩ | ⟨h,g1,g2,g3⟩
 case' inr.inr.inl=>have g4:((c.toNat:Int) != 127)=true:=by rw[bne,g3];rfl
 case' inr.inr.inr=>have g4:((c.toNat:Int) != 127)=false:=by rw[bne,g3];rfl
 all_goals
  rw[h]
  clear h
  go_enter Tryz.func148,Tryz.ntmps148
  go_wp2
  go_ret
  exact⟨rfl,rfl⟩
end Go.Proofs.YtkempjcphpnocaaGreatDoor
namespace Go.Proofs.YtkempjcphpnocaaGreatDoor
open Go.RowKit
def Wrote (w:World) (n:Nat) (e:Ending) (u:World):Prop:=e=.returned .nilIface∧∃ l:List UInt8,l.length≤n∧Lib.IsBuilder 207 5 w.heap.size w.heap.size (Lib.byteCells l) u∧Below w.heap.size w u
theorem write_more {w u:World} {n:Nat} (c:UInt8) (hn:n≤4398046511104) (h:∃ l:List UInt8,l.length≤n∧Lib.IsBuilder 207 5 w.heap.size w.heap.size (Lib.byteCells l) u∧Below w.heap.size w u) :
  Calls Tryz.prog 147 #[.pointer (some ⟨w.heap.size,0,none⟩),.int .u8 c.toNat] u (Wrote w (n+1)):=by
 obtain⟨l,hl,hb,hbel⟩:=h
 refine (writeByte_any w.heap.size w.heap.size (Lib.byteCells l) c.toNat u hb (by rw[Lib.byteCells_length];omega) hbel.size).mono ?_
 rintro e v ⟨he,hat,hb2⟩
 refine⟨he,l++[c],by rw[List.length_append];simp only[List.length_singleton];omega,?_,hbel.trans hb2⟩
 have e2:Lib.byteCells (l++[c])=Lib.byteCells l++[.int .u8 c.toNat]:=by simp [Lib.byteCells]
 rw[e2]
 exact .inr hat
def RetQuote (w:World) (ok:Bool) (e:Ending) (w':World):Prop:=∃ q:ByteArray,e=.returned (.tuple #[.string q,.int .i64 (if ok then 0 else 11)])∧Below w.heap.size w w'
set_option maxRecDepth 100000 in
set_option maxHeartbeats 1000000 in
theorem quote_any (s:ByteArray) (w:World) (hs:s.size≤1099511627776):Calls Tryz.prog 121 #[.string s] w (RetQuote w (F.text s)):=by
 have HZ:Hid ((L s).length=s.size):=(L_size s).symm
 have H0:Hid (∃ l:List UInt8,l.length≤0∧Lib.IsBuilder 207 5 w.heap.size w.heap.size (Lib.byteCells l) (w.alloc (.cells #[.pointer none,.slice none 0 0] 207))∧Below w.heap.size w (w.alloc (.cells #[.pointer none,.slice none 0 0] 207))) :=
  Lib.hid ⟨[],Nat.le_refl _,Lib.fresh_isBuilder 207 5 w,(Below.refl w.heap.size w).alloc (Nat.le_refl _) _⟩
 go_enter Tryz.func121,Tryz.ntmps121
 go_wp2_with fail
 generalize w.alloc (.cells #[.pointer none,.slice none 0 0] 207)=w0 at *
 refine (write_more 34 (by omega) H0.out).mono ?_
 rintro e w1 ⟨rfl,h1⟩
 have H1:=Lib.hid h1
 clear h1 H0
 go_wp2
 go_loopw [5,6,10,16,20] (fun _ _ i _ _ wr=>∃ k:Nat,k≤s.size∧i=.int .i64 k∧((L s).take k).all T.textB=true∧∃ l:List UInt8,l.length≤2 * k+1∧Lib.IsBuilder 207 5 w.heap.size w.heap.size (Lib.byteCells l) wr∧Below w.heap.size w wr) (fun _ _ i _ _ _=>s.size - (intOf i).toNat)
 case atStart=>exact⟨0,Nat.zero_le _,rfl,by simp,H1.out⟩
 case round =>
  clear H1
  obtain⟨k,hk,rfl,ha,hl⟩:=hrel
  have HAll:=Lib.hid ha
  have HL:=Lib.hid hl
  clear ha hl
  by_cases hlt:k < s.size
  ·have hL:k < (L s).length:=by rw[HZ.out];exact hlt
   have HB:=Lib.hid (textByte_any s[k])
   rcases tf (T.textB ((L s)[k]'hL)) with h | h
   ·have HN:=Lib.hid (all_step T.textB (L s) k hL HAll.out h)
    have hb:T.textB s[k]=true:=h
    rw[hb]at HB
    clear h hb
    rcases tf (((s[k]'hlt).toNat:Int)==34||((s[k]'hlt).toNat:Int)==92) with hq | hq
    ·have HW1:=Lib.hid (write_more 92 (by omega) HL.out)
     rcases tf (((s[k]'hlt).toNat:Int)==34) with g1 | g1
     case' inr =>
      have g2:(((s[k]'hlt).toNat:Int)==92)=true:=by rw[g1]at hq;exact hq
     all_goals
      clear hq
      go_wp2_with fail
      refine (HB.out _).mono ?_
      rintro e w' ⟨rfl,rfl⟩
      go_wp2_with fail
      refine HW1.out.mono ?_
      rintro e w2 ⟨rfl,h2⟩
      have HW2:=Lib.hid (write_more (s[k]'hlt) (by omega) h2)
      clear h2 HW1 HL
      go_wp2_with fail
      refine HW2.out.mono ?_
      rintro e w3 ⟨rfl,l3,z3,b3,d3⟩
      have HL3:=Lib.hid (And.intro z3 (And.intro b3 d3))
      clear z3 b3 d3 HW2
      go_wp2
      go_roundw
      case rel=>exact⟨k+1,by omega,by go_num,HN.out,l3,by have:=HL3.out.1;omega,HL3.out.2⟩
      case measure=>simp [intOf];omega
    ·have HW2:=Lib.hid (write_more (s[k]'hlt) (by omega) HL.out)
     have g1:(((s[k]'hlt).toNat:Int)==34)=false:=(Bool.or_eq_false_iff.1 hq).1
     have g2:(((s[k]'hlt).toNat:Int)==92)=false:=(Bool.or_eq_false_iff.1 hq).2
     clear hq
     go_wp2_with fail
     refine (HB.out _).mono ?_
     rintro e w' ⟨rfl,rfl⟩
     go_wp2_with fail
     refine HW2.out.mono ?_
     rintro e w3 ⟨rfl,l3,z3,b3,d3⟩
     have HL3:=Lib.hid (And.intro z3 (And.intro b3 d3))
     clear z3 b3 d3 HW2
     go_wp2
     go_roundw
     case rel=>exact⟨k+1,by omega,by go_num,HN.out,l3,by have:=HL3.out.1;omega,HL3.out.2⟩
     case measure=>simp [intOf];omega
   ·have HN:Hid (F.text s=false):=Lib.hid (all_no T.textB (L s) k hL h)
    have hb:T.textB s[k]=false:=h
    rw[hb]at HB
    clear h hb
    go_wp2_with fail
    refine (HB.out _).mono ?_
    rintro e w' ⟨rfl,rfl⟩
    go_wp2
    refine bodyPost_ret (v:=.tuple #[.string ⟨#[]⟩,.int .i64 11]) (by simp [results,Tryz.results121,go_sem]) rfl ?_
    obtain⟨l,_,_,d⟩:=HL.out
    exact⟨⟨#[]⟩,by rw[HN.out];rfl,d⟩
  ·have hks:k=s.size:=by omega
   have ha:=HAll.out
   rw[List.take_of_length_le (by rw[HZ.out];omega)]at ha
   have HT:Hid (F.text s=true):=Lib.hid ha
   have HW:=Lib.hid (write_more 34 (by omega) HL.out)
   clear ha hks HL
   go_wp2_with fail
   refine HW.out.mono ?_
   rintro e w3 ⟨rfl,l3,z3,b3,d3⟩
   have HS:=Lib.hid (Tryz.Builder_String_any w.heap.size w.heap.size l3 w3 b3 d3.size)
   have HD:=Lib.hid d3
   clear z3 b3 d3 HW
   go_wp2_with fail
   refine HS.out.mono ?_
   rintro e w4 ⟨rfl,hb4⟩
   have HD4:=Lib.hid (HD.out.trans hb4)
   clear hb4 HD HS
   go_wp2
   refine bodyPost_ret (v:=.tuple #[.string ⟨l3.toArray⟩,.int .i64 0]) (by simp [results,Tryz.results121,go_sem]) rfl ?_
   exact⟨_,by rw[HT.out];rfl,HD4.out⟩
theorem text_any (s:ByteArray) (w:World) (hs:s.size≤1099511627776):Calls Tryz.prog 100 #[.string s] w (RetB w (F.text s)):=by
 have HQ:=Lib.hid (quote_any s w hs)
 rcases tf (F.text s) with h | h
 all_goals
  rw[h]at HQ ⊢
  clear h
  go_enter Tryz.func100,Tryz.ntmps100
  go_wp2_with fail
  refine HQ.out.mono ?_
  rintro e w1 ⟨q,rfl,hb⟩
  have HB:=Lib.hid hb
  clear hb HQ
  go_wp2
  go_ret
  exact⟨rfl,HB.out⟩
end Go.Proofs.YtkempjcphpnocaaGreatDoor
namespace Go.Proofs.YtkempjcphpnocaaGreatDoor
open Go.RowKit
def TabOk (w:World):Prop:=Lib.TabIs Tryz.prog w "internal/strconv.uint64pow10" .u64 Lib.pow10Tab
theorem tab_named:∃ g,Tryz.prog.globalNamed "internal/strconv.uint64pow10"=some g:=⟨4,by kernel_rfl⟩
theorem TabOk.below {w w':World} (h:TabOk w) (hb:Below w.heap.size w w'):TabOk w':=by
 obtain⟨g,hg⟩:=tab_named
 unfold TabOk Lib.TabIs at h ⊢
 refine var?_below hb hg ?_ h
 unfold World.var? at h
 rw[hg]at h
 simp only[Option.bind_some]at h
 rcases Nat.lt_or_ge g w.heap.size with hlt | hge
 ·exact hlt
 ·rw[Array.getElem?_eq_none hge]at h;simp at h
theorem TabOk.alloc {w:World} (h:TabOk w) (o:Obj):TabOk (w.alloc o):=h.below ((Below.refl _ _).alloc (Nat.le_refl _) _)
theorem itoa_any (n:Int) (h0:-9223372036854775808≤n) (h1:n≤9223372036854775807) (w:World) (ht:TabOk w):Calls Tryz.prog 102 #[.int .i64 n] w (RetS w (B (Lib.itoa n))):=by
 refine (Tryz.strconv_Itoa n h0 h1 w ht).mono ?_
 rintro e w' ⟨rfl,k,os,rfl⟩
 exact⟨rfl,Lib.below_grow _ w (Nat.le_refl _) k os⟩
def lows:Nat→Nat→List UInt8
 | 0,_=>[]
 | n+1,u=>if u=0 then [] else UInt8.ofNat (48+u % 10)::lows n (u / 10)
theorem lows_enough:∀ (n m u:Nat),u≤n→u≤m→lows n u=lows m u
 | 0,0,u,_,_=>rfl
 | 0,m+1,u,h,_=>by
  have:u=0:=by omega
  subst this;rfl
 | n+1,0,u,_,h=>by
  have:u=0:=by omega
  subst this;rfl
 | n+1,m+1,u,h,h'=>by
  unfold lows
  split
  ·rfl
  ·rw[lows_enough n m (u / 10) (by omega) (by omega)]
def low (u:Nat):List UInt8:=lows u u
theorem low_zero:low 0=[]:=rfl
theorem low_pos {u:Nat} (h:0 < u):low u=UInt8.ofNat (48+u % 10)::low (u / 10):=by
 obtain⟨n,rfl⟩:∃ n,u=n+1:=⟨u - 1,by omega⟩
 show lows (n+1) (n+1)=_
 rw[lows,if_neg (by omega),low,lows_enough n ((n+1) / 10) ((n+1) / 10) (by omega) (Nat.le_refl _)]
theorem dec_low:∀ u:Nat,0 < u→Lib.decDigits u=(low u).reverse:=by
 intro u
 induction u using Nat.strongRecOn with
 | ind u ih =>
  intro h
  rw[low_pos h,List.reverse_cons]
  rw[Lib.decDigits]
  split
  ·rename_i h10
   have:u / 10=0:=by omega
   rw[this,low_zero,Nat.mod_eq_of_lt h10];rfl
  ·rw[ih (u / 10) (by omega) (by omega)]
theorem itoa_show (n:Int) (h:n≠0):Lib.itoa n=((low n.natAbs)++(if n < 0 then [45] else [])).reverse:=by
 unfold Lib.itoa
 split
 ·rw[dec_low n.natAbs (by omega)];simp
 ·rw[dec_low n.toNat (by omega)]
  have:n.toNat=n.natAbs:=by omega
  rw[this];simp
end Go.Proofs.YtkempjcphpnocaaGreatDoor
namespace Go.Proofs.YtkempjcphpnocaaGreatDoor
open Go.RowKit
theorem whole_bad {l:List UInt8} {fs:List FD} {c:Int} (h:F.printE fs=c) (hc:c≠0):F.wholeB l fs=[]∧F.wholeE l fs=c:=by
 have h1:F.wholeE l fs=c:=by unfold F.wholeE;rw[if_neg (by rw[h];exact hc),h]
 exact⟨if_neg (by rw[h1];exact hc),h1⟩
theorem whole_big {l:List UInt8} {fs:List FD} (h:F.printE fs=0) (hc:8192 < l.length+(F.lines fs).length+4):F.wholeB l fs=[]∧F.wholeE l fs=51:=by
 have h1:F.wholeE l fs=51:=by unfold F.wholeE;rw[if_pos h,if_pos hc]
 exact⟨if_neg (by rw[h1];decide),h1⟩
theorem whole_ok {l:List UInt8} {fs:List FD} (h:F.printE fs=0) (hc:¬ 8192 < l.length+(F.lines fs).length+4):F.wholeB l fs=l++[13,10]++F.lines fs++[13,10]∧F.wholeE l fs=0:=by
 have h1:F.wholeE l fs=0:=by unfold F.wholeE;rw[if_pos h,if_neg hc]
 exact⟨if_pos h1,h1⟩
set_option maxRecDepth 100000 in
set_option maxHeartbeats 1000000 in
theorem whole_any (l:ByteArray) (A:Option Addr) (c:Nat) (fs:List FD) (w:World) (hl:l.size≤8589934592) (hf:F.bulk fs≤1073741824) (hx:Rd w A fs.length 2 (fcells fs)) :
  Calls Tryz.prog 101 #[.string l,.slice A fs.length c] w (RetBE w (F.wholeB (L l) fs) (F.wholeE (L l) fs)):=by
 have HP:=Lib.hid (print_any A c fs w hf hx)
 have hll:=F.lines_len fs
 have hn1:(F.lines fs).length≤4294967296:=by omega
 have hlz:=L_size l
 rcases F.printE_cases fs with hp | hp | hp
 ·have HBIG:=Lib.hid (fun h=>whole_big (l:=L l) hp h)
  have HOK:=Lib.hid (fun h=>whole_ok (l:=L l) hp h)
  rw[F.printB_ok hp,hp]at HP
  have HLZ:=Lib.hid hlz
  generalize F.wholeB (L l) fs=WB at *
  generalize F.wholeE (L l) fs=WE at *
  obtain⟨T,hT⟩:∃ T,T=B (F.lines fs):=⟨_,rfl⟩
  have hTl:F.lines fs=L T:=by rw[hT];rfl
  obtain⟨N,hN⟩:∃ N,N=T.size:=⟨_,rfl⟩
  have hNl:(L T).length=N:=by rw[hN,L_size]
  rw[hTl]at HBIG HOK HP hn1
  rw[hNl]at HBIG HOK hn1
  have HNL:=Lib.hid hNl
  have HN:=Lib.hid hN
  clear hp hx hll hlz hT hTl hN hNl
  by_cases hbig:8192 < l.size+N+4
  ·have HB:=Lib.hid (HBIG.out (by have:=HLZ.out;omega))
   go_enter Tryz.func101,Tryz.ntmps101
   go_wp2_with fail
   refine HP.out.mono ?_
   rintro e w1 ⟨R,d,rfl,hr,hb1⟩
   rw[HNL.out]
   have HB1:=Lib.hid hb1
   clear HP hr hb1
   go_wp2
   refine bodyPost_ret (v:=.tuple #[.slice none 0 0,.int .i64 51]) (by simp [results,Tryz.results101,go_sem]) rfl ?_
   exact RetBE.none_ HB1.out HB.out.1 HB.out.2
  ·have HB:=Lib.hid (HOK.out (by have:=HLZ.out;omega))
   go_enter Tryz.func101,Tryz.ntmps101
   go_wp2_with fail
   refine HP.out.mono ?_
   rintro e w1 ⟨R,d,rfl,hr,hb1⟩
   rw[HNL.out]at hr ⊢
   have hcv1:=conv_bs hr.rd d
   rw[B_L]at hcv1
   have hs1:l.size+2≤9223372036854775807:=by omega
   have hs2:l.size+2+T.size≤9223372036854775807:=by have:=HN.out;omega
   have hs3:l.size+2+T.size+2≤9223372036854775807:=by have:=HN.out;omega
   obtain⟨cc,W,hcv2,hcr,hcb⟩:=conv_sbC w1 (l++⟨#[13,10]⟩++T++⟨#[13,10]⟩)
   have HCR:=Lib.hid hcr
   have HB1:=Lib.hid (below_next hb1 hcb)
   have hz1:=hb1.size
   clear HP hr hb1 hcr hcb
   go_wp2
   refine bodyPost_ret (v:=.tuple #[.slice (some ⟨w1.heap.size,0,none⟩) (l++⟨#[13,10]⟩++T++⟨#[13,10]⟩).size cc,.int .i64 0]) (by simp [results,Tryz.results101,go_sem]) rfl ?_
   have hL:L (l++⟨#[13,10]⟩++T++⟨#[13,10]⟩)=WB:=by
    rw[HB.out.1]
    simp only[L_append]
    rfl
   have hS:(l++⟨#[13,10]⟩++T++⟨#[13,10]⟩:ByteArray).size=WB.length:=by rw[L_size,hL]
   have hr:=HCR.out
   rw[hL,hS]at hr
   rw[HB.out.2,hS]
   exact⟨_,cc,rfl,hr.mono hz1,HB1.out⟩
 all_goals
  have HB:=Lib.hid (whole_bad (l:=L l) hp (by decide))
  rw[F.printB_bad (by rw[hp];decide),hp]at HP
  generalize F.wholeB (L l) fs=WB at *
  generalize F.wholeE (L l) fs=WE at *
  clear hp hx hll hlz hn1
  go_enter Tryz.func101,Tryz.ntmps101
  go_wp2_with fail
  refine HP.out.mono ?_
  rintro e w1 ⟨R,d,rfl,hr,hb1⟩
  have HB1:=Lib.hid hb1
  clear HP hr hb1
  go_wp2
  first
  | (refine bodyPost_ret (v:=.tuple #[.slice none 0 0,.int .i64 40]) (by simp [results,Tryz.results101,go_sem]) rfl ?_
     exact RetBE.none_ HB1.out HB.out.1 HB.out.2)
  | (refine bodyPost_ret (v:=.tuple #[.slice none 0 0,.int .i64 42]) (by simp [results,Tryz.results101,go_sem]) rfl ?_
     exact RetBE.none_ HB1.out HB.out.1 HB.out.2)
end Go.Proofs.YtkempjcphpnocaaGreatDoor
