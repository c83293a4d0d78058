/- The walk of head.Request. What head.Response computes, as a plain function; what is told of some bytes is told of them with more behind, and a head is told when its last byte has come. The walks of fields.Without, with the library's Clone, DeleteFunc, IndexFunc, ContainsFunc at its closures. The walk of the library's DeleteFunc at fields.Without's closure; fields.Without. The walk of the document's Without. The walks of hop.Strip and of its document's twin. The walks of fields.Print and of the document's. The walks of tok.Quote, of head.text and of the document's text. The walks of tok.Quote and of head.text. Conditions: as each theorem states them. -/
import Derived.Test.YthjeglnkgdpijaaGreatDoorHeadB
import Derived.Deep.CutBlock
set_option maxHeartbeats 1000000
set_option maxRecDepth 100000
namespace Go.Proofs.YthjeglnkgdpijaaGreatDoor
open Go.RowKit
namespace P
theorem aO3 (p:UInt8→Bool) (l:List UInt8):(upto p l).length≤l.length:=by have:=jC p l;omega
theorem uH (l:List UInt8):(methodOf l).length≤l.length:=aO3 _ _
theorem nS (l:List UInt8):(behind l).length≤l.length:=by
 unfold behind
 rw[List.length_drop]
 have:=jC sp l
 omega
theorem aFM (b:List UInt8) (s:Nat):(oV b s).length≤b.length:=by
 unfold oV gX
 rw[List.length_take,List.length_take,List.length_drop]
 omega
end P
def aOV (w:World) (r:P.RQ) (e:Ending) (w':World):Prop :=
 ∃ A c,e=.returned (.tuple #[.agg #[.string r.m,.string r.t,.int .i64 r.v,.slice A r.fs.length c],.int .i64 r.n,.int .i64 r.e])∧Row w' w.heap.size 60 2 A r.fs.length c (aJ r.fs)∧Below w.heap.size w w'
theorem aOV.bad {w w':World} {r:P.RQ} {code:Int} (hb:Below w.heap.size w w') (h:r=.bad code):aOV w r (.returned (.tuple #[.agg #[.string ⟨#[]⟩,.string ⟨#[]⟩,.int .i64 0,.slice none 0 0],.int .i64 0,.int .i64 code])) w':=by
 subst h
 exact⟨none,0,rfl,Row.empty _ _ _ _ _,hb⟩
end Go.Proofs.YthjeglnkgdpijaaGreatDoor
namespace Go.Proofs.YthjeglnkgdpijaaGreatDoor
namespace P
open T (Bs)
structure RS where
 s:Int
 r:ByteArray
 v:Int
 fs:List FD
 n:Int
 e:Int
def RS.bad (e:Int):RS:=⟨0,⟨#[]⟩,0,[],0,e⟩
def lY (l:Bs):Bool:=decide (l.length=3)&&l.all dig
def stat (l:Bs):Int:=l.foldl (fun a c=>a * 10+((c.toNat:Int) - 48)) 0
def aE4 (line block:Bs) (n:Int):RS :=
 if sJ (methodOf line)=50∨lY (methodOf (behind line))=false∨F.text (B (behind (behind line)))=false then .bad 50
 else if sJ (methodOf line)=0∧(stat (methodOf (behind line)) < 100∨599 < stat (methodOf (behind line))) then .bad 53
 else if sJ (methodOf line)≠0 then .bad (sJ (methodOf line))
 else if (parse [] block).2≠0 then .bad (parse [] block).2
 else ⟨stat (methodOf (behind line)),B (behind (behind line)),aC0 (methodOf line),(parse [] block).1,n,0⟩
def response (b:Bs):RS:=if hE b 0≠0∨hN b 0=0 then .bad (hE b 0) else aE4 (oV b 0) (jT b 0) (hN b 0)
theorem mG (p:UInt8→Bool):∀ (u:Bs) (x:UInt8) (r:Bs),(∀ y∈u,p y=false)→p x=true→upto p (u++x::r)=u∧from_ p (u++x::r)=x::r
 | [],x,r,_,hx=>by simp [upto,from_,hx]
 | y::u,x,r,hu,hx=>by
  have hy:p y=false:=hu y (by simp)
  have:=mG p u x r (fun z hz=>hu z (by simp [hz])) hx
  unfold upto from_ at this ⊢
  simp only[List.cons_append,List.takeWhile_cons,List.dropWhile_cons,hy,Bool.not_false,if_true]
  exact⟨by rw[this.1],this.2⟩
theorem aBS {s sub:Bs} {j:Nat}:Lib.occAt s sub j=true↔sub=(s.take (j+sub.length)).drop j:=by
 unfold Lib.occAt
 rw[List.isPrefixOf_iff_prefix,List.prefix_iff_eq_take,List.take_drop]
theorem xN {xs ys sub:Bs} {j m:Nat} (h:ys.take m=xs.take m) (hj:j+sub.length≤m):Lib.occAt ys sub j=Lib.occAt xs sub j:=by
 have e:ys.take (j+sub.length)=xs.take (j+sub.length):=by
  have:=congrArg (List.take (j+sub.length)) h
  rwa [List.take_take,List.take_take,Nat.min_eq_left hj]at this
 rw[Bool.eq_iff_iff,aBS,aBS,e]
theorem aD4 {xs ys sub:Bs} {i m:Nat} (h:ys.take m=xs.take m) (hi:Lib.index xs sub=(i:Int)) (hm:i+sub.length≤m) (hy:m≤ys.length):Lib.index ys sub=(i:Int):=by
 rcases Lib.index_spec xs sub with ⟨h1,_⟩ | ⟨k,h1,h2,h3,h4⟩
 ·omega
 ·obtain rfl:k=i:=by omega
  refine Lib.index_hit (fun j hj=>?_) (by omega) ?_
  ·rw[xN h (by omega)];exact h4 j hj
  ·rw[xN h hm];exact h3
theorem qI {xs ys:Bs} {m s:Nat} (h:ys.take m=xs.take m):(ys.drop s).take (m - s)=(xs.drop s).take (m - s):=by
 rw[← List.drop_take,← List.drop_take,h]
theorem aJW {b b':Bs} {s i m:Nat} (h:b'.take m=b.take m) (hi:hIdx b s=(i:Int)) (hm:s+i+4≤m) (hb:m≤b'.length):hIdx b' s=(i:Int)∧gX b' s=gX b s∧hE b' s=hE b s∧hN b' s=hN b s:=by
 have h0:hIdx b' s=(i:Int):=aD4 (m:=m - s) (qI h) hi (by show i+4≤_;omega) (by rw[List.length_drop];omega)
 refine⟨h0,?_,?_,?_⟩
 ·unfold gX
  rw[h0,hi]
  have e:=congrArg (List.take ((i:Int)+2).toNat) (qI (s:=s) h)
  rwa [List.take_take,List.take_take,Nat.min_eq_left (by omega)]at e
 ·unfold hE
  have hneg:¬ (i:Int) < 0:=by omega
  rw[h0,hi,if_neg hneg,if_neg hneg]
 ·unfold hN
  rw[h0,hi]
theorem aJX (b:Bs) (s:Nat):hIdx b s < 0∨∃ i:Nat,hIdx b s=(i:Int)∧s+i+4≤b.length:=by
 rcases (by omega:hIdx b s < 0∨0≤hIdx b s) with h | h
 ·exact .inl h
 ·obtain⟨i,j,hi,hr,_⟩:=lV b s h
  exact .inr ⟨i,hi,hr⟩
theorem hE_no {b:Bs} {s:Nat} (h:hIdx b s < 0):hE b s=if b.length < 8192 then 0 else 51:=if_pos h
theorem hN_no {b:Bs} {s:Nat} (h:hIdx b s < 0):hN b s=0:=if_pos (.inl h)
theorem aDJ {b:Bs} (h:hIdx b 0 < 0):response b=.bad (hE b 0):=if_pos (.inr (hN_no h))
end P
open Go.RowKit
theorem wB (A B:Option Addr) (n m c d:Nat) (xs ys:List FD) (w:World) (hn:n≤1099511627776) (hm:m≤1099511627776) (hx:Rd w A n 2 (aJ xs)) (hy:Rd w B m 2 (aJ ys)) (hxl:xs.length=n) (hyl:ys.length=m) :
  Calls Tryz.prog 86 #[.slice A n c,.slice B m d] w (qP w (decide (xs=ys))):=by
 have HX:=aH hxl
 have HY:=aH hyl
 clear hxl hyl
 by_cases hnm:n=m
 ·subst hnm
  go_enter Tryz.func86,Tryz.ntmps86
  go_wp2
  go_loopw [5] (fun i wr=>∃ k:Nat,k≤n∧i=.int .i64 k∧xs.take k=ys.take k∧∃ q,wr=w.drewN q) (fun i _=>n - (intOf i).toNat)
  case atStart=>exact⟨0,zF _,rfl,rfl,0,rfl⟩
  case round =>
   obtain⟨k,hk,rfl,he,q,rfl⟩:=hrel
   have HE:=aH he;clear he
   by_cases hlt:k < n
   ·obtain⟨b1,o1,rfl,hl1,c1,c2⟩:=hx.field hlt HX.out
    obtain⟨b2,o2,rfl,hl2,d1,d2⟩:=hy.field hlt HY.out
    have hneq:=fun w=>neqF (xs[k]'(by have:=HX.out;omega)) (ys[k]'(by have:=HY.out;omega)) w
    have hdec:=tf (decide (xs[k]'(by have:=HX.out;omega)=ys[k]'(by have:=HY.out;omega)))
    rcases hdec with hd | hd
    ·go_wp2
     go_region
     go_wp2
     go_roundw
     case rel=>exact⟨k+1,by omega,by go_num,qC _ _ HE.out (of_decide_eq_true hd),_,rfl⟩
     case measure=>simp [intOf];omega
    ·go_wp2
     go_region
     go_wp2
     go_ret
     exact⟨aQ (by
      symm;apply decide_eq_false
      intro e
      subst e
      simp at hd),below_drewN (zB _ _) _⟩
   ·have hkn:k=n:=by omega
    have hfin:xs=ys:=by
     have:=HE.out
     have h1:=HX.out
     have h2:=HY.out
     rw[List.take_of_length_le (by omega),List.take_of_length_le (by omega)]at this
     exact this
    have HF:=aH hfin
    clear hkn hfin
    go_wp2
    go_ret
    exact⟨aQ (by rw[decide_eq_true HF.out]),below_drewN (zB _ _) _⟩
 ·have h1:((n:Int)==(m:Int))=false:=by simp;omega
  have h2:((n:Int) != (m:Int))=true:=by simp;omega
  go_enter Tryz.func86,Tryz.ntmps86
  go_wp2
  go_ret
  exact⟨aQ (by have:=HX.out;have:=HY.out;symm;apply decide_eq_false;rintro rfl;omega),zB _ _⟩
theorem iM (A:Option Addr) (n c:Nat) (xs:List FD) (w:World) (hn:n≤1099511627776) (hx:Rd w A n 2 (aJ xs)) :
  Calls Tryz.prog 14 #[.slice A n c] w (eP w 60 2 n (aJ xs)):=by
 go_enter Tryz.func14,Tryz.ntmps14
 go_wp2_with (at_builtin;refine appF _ rfl (.tmp 5) (.tmp 6) rfl w.heap.size _ 0 0 [] rfl (Row.empty _ _ _ _ _) A n c xs rfl (hx.alloc _) (by omega) (by simp) ?_;intro A1 c1 w1 hr1 ha1;simp only[Nat.zero_add,List.nil_append]at hr1)
 go_ret
 exact⟨A1,c1,by simp,hr1,((zB _ _).alloc (zA _) _).trans (ha1.below (Row.empty _ _ 60 2 _) (by simp))⟩
theorem aLX:∀ fs:List FD,∀ name:ByteArray,(F.tokens fs name).length≤F.bulk fs:=by
 intro fs name
 induction fs with
 | nil=>simp [F.tokens,F.values,F.bulk]
 | cons f l ih =>
  have hl:=aFG f.2
  unfold F.tokens F.values at ih ⊢
  rw[List.filter_cons]
  simp only[F.bulk]
  split
  ·rw[List.map_cons,List.flatMap_cons,bC,List.length_map];omega
  ·omega
theorem aMM {fs:List FD} {name x:ByteArray} (hx:x∈F.tokens fs name):x.size≤F.bulk fs:=by
 unfold F.tokens at hx
 obtain⟨v,hv,hx⟩:=List.mem_flatMap.1 hx
 obtain⟨el,hel,rfl⟩:=List.mem_map.1 hx
 have h1:=aFF hel
 unfold F.values at hv
 obtain⟨f,hf,rfl⟩:=List.mem_map.1 hv
 have h2:=F.rU (List.mem_filter.1 hf).1
 rw[iZ]
 unfold T.fold
 rw[List.length_map,← aS]
 omega
def aSG (ns:List ByteArray):Prop:=∀ s∈ns,s.size≤1099511627776
def among (ns:List ByteArray) (f:FD):Bool:=ns.any fun n=>F.is f n
structure Names (w0:World) (X:Option Addr) (m d:Nat) (ns:List ByteArray) (g:Nat):Prop where
 hm:m≤1099511627776
 hl:ns.length=m
 hn:aSG ns
 hx:Rd w0 X m 1 (aF ns)
 c0:w0.cell? ⟨g,0,none⟩=some (.slice X m d)
def kept (p:FD→Bool) (fs:List FD):List FD:=fs.filter fun f=>!p f
theorem aB1 (p:FD→Bool) (fs:List FD) (k:Nat) (h:k < fs.length):kept p (fs.take (k+1))=kept p (fs.take k)++(if p fs[k] then [] else [fs[k]]):=by
 unfold kept
 rw[F.fJ _ _ _ h]
 congr 1
 by_cases hp:p fs[k]=true<;>simp [hp]
def aCV (p:FD→Bool) (fs xs:List FD) (i j:Nat):Prop:=xs.length=fs.length∧i < j∧j≤fs.length∧xs.take i=kept p (fs.take j)∧xs.drop j=fs.drop j
theorem aCV.at_ {p:FD→Bool} {fs xs:List FD} {i j:Nat} (h:aCV p fs xs i j) (hj:j < fs.length):∃ hx:j < xs.length,xs[j]=fs[j]:=by
 have hx:j < xs.length:=by rw[h.1];exact hj
 refine⟨hx,?_⟩
 have:=h.2.2.2.2
 rw[List.drop_eq_getElem_cons hx,List.drop_eq_getElem_cons hj]at this
 injection this
theorem aCV.skip {p:FD→Bool} {fs xs:List FD} {i j:Nat} (h:aCV p fs xs i j) (hj:j < fs.length) (hp:p fs[j]=true):aCV p fs xs i (j+1):=by
 obtain⟨h1,h2,h3,h4,h5⟩:=h
 refine⟨h1,by omega,by omega,?_,?_⟩
 ·rw[aB1 p fs j hj,if_pos hp,List.append_nil];exact h4
 ·rw[← List.drop_drop,← List.drop_drop,h5]
theorem aCV.move {p:FD→Bool} {fs xs:List FD} {i j:Nat} (h:aCV p fs xs i j) (hj:j < fs.length) (hp:p fs[j]=false):aCV p fs (xs.set i fs[j]) (i+1) (j+1):=by
 obtain⟨h1,h2,h3,h4,h5⟩:=h
 have hi:i < xs.length:=by omega
 refine⟨by simpa using h1,by omega,by omega,?_,?_⟩
 ·rw[aB1 p fs j hj,if_neg (by simp [hp]),← h4,bI (by simpa using hi)]
  simp [List.take_set_of_le]
 ·rw[List.drop_set_of_lt (by omega),← List.drop_drop,← List.drop_drop,h5]
theorem Row.nil {w:World} {base:Nat} {e:TypeId} {size:Nat} {A:Option Addr} {n c:Nat} {xs:List Value} (h:Row w base e size A n c xs) (hA:A=none):n=0∧c=0:=by
 subst hA
 rcases h with ⟨_,h | ⟨g,cap,cur,hv,_⟩⟩ | ⟨h1,h2,_⟩
 ·obtain⟨hv,h0⟩:=h
  cases hv
  exact⟨rfl,rfl⟩
 ·cases hv
 ·exact⟨h1,h2⟩
theorem jF {fs:List FD} (h:F.bulk fs≤1073741824):qQ fs:=fun f hf=>by
 have:=F.rU hf
 omega
def fM (w:World) (bs:List UInt8) (code:Int) (e:Ending) (w':World):Prop :=
 ∃ A c,e=.returned (.tuple #[.slice A bs.length c,.int .i64 code])∧bZ w' w.heap.size A bs.length c bs∧Below w.heap.size w w'
theorem fM.none_ {w w':World} {code:Int} {bs:List UInt8} {c:Int} (hb:Below w.heap.size w w') (h1:bs=[]) (h2:c=code):fM w bs c (.returned (.tuple #[.slice none 0 0,.int .i64 code])) w':=by
 subst h1
 subst h2
 exact⟨none,0,rfl,bZ.none_ _ _,hb⟩
theorem qL {B b:Nat} {bs:List Value} {w w':World} (h:Lib.IsBuffer 254 5 B b bs w) (hb:Below w.heap.size w w'):Lib.IsBuffer 254 5 B b bs w':=by
 have hlt:=h.lt
 obtain⟨hB,v,lr,hk,ho,hne⟩:=h
 refine⟨hB,v,lr,(hb.block b hlt).trans hk,ho.kept (row:=none) ⟨hb.os,hb.tape,hb.output,hb.size,fun k hk _=>hb.block k hk⟩ ?_,hne⟩
 cases v.ownBlock<;>simp
theorem aGL {w:World} {B n:Nat} {v:Value} {bs:List Value} (h:w.ownsRow B 5 1 v n bs):∃ A c,v=.slice A n c∧Row w B 5 1 A n c bs:=by
 obtain⟨h1,h2⟩:=h
 rcases h2 with ⟨hv,h0⟩ | ⟨g,cap,cur,hv,r⟩
 ·subst h0
  exact⟨none,0,hv,.inl ⟨h1,.inl ⟨hv ▸ hv,rfl⟩⟩⟩
 ·subst hv
  exact⟨_,_,rfl,.inl ⟨h1,.inr ⟨g,cap,cur,rfl,r⟩⟩⟩
def aQ1 (fs:List FD) (k:Nat):Prop:=(fs.take k).all F.okF=true
theorem aQ1.step {fs:List FD} {k:Nat} (h:aQ1 fs k) (hk:k < fs.length) (h1:T.token (L (fs[k]).1)=true) (h2:F.good (fs[k]).2=true):aQ1 fs (k+1):=by
 unfold aQ1 at *
 rw[F.aAM _ _ _ hk,h]
 unfold F.okF
 rw[h1,h2]
 rfl
theorem aRG {fs:List FD} {k:Nat} (hk:k < fs.length) (h1:T.token (L (fs[k]).1)=false):fs.all F.okF=false:=F.qN _ _ k hk (by unfold F.okF;rw[h1];rfl)
theorem aRF {fs:List FD} {k:Nat} (hk:k < fs.length) (h1:F.good (fs[k]).2=false):fs.all F.okF=false:=F.qN _ _ k hk (by unfold F.okF;rw[h1,Bool.and_false])
theorem aKX {fs:List FD} (h:fs.all F.okF=false):F.tN fs=[]∧F.dJ fs=40:=⟨F.oJ (by rw[F.xK h];decide),F.xK h⟩
theorem aG3 {fs:List FD} (h:fs.all F.okF=true) (h2:100 < fs.length):F.tN fs=[]∧F.dJ fs=42:=⟨F.oJ (by rw[F.tK h h2];decide),F.tK h h2⟩
theorem aHK {fs:List FD} (h:fs.all F.okF=true) (h2:¬ 100 < fs.length):F.tN fs=F.lines fs∧F.dJ fs=0:=⟨F.aBN (F.aBL h h2),F.aBL h h2⟩
theorem aJO (f:FD):L (f.1++⟨#[58,32]⟩++f.2++⟨#[13,10]⟩)=F.line f:=by
 simp only[dG]
 rfl
theorem aJN (f:FD):(f.1++⟨#[58,32]⟩++f.2++⟨#[13,10]⟩).size=f.1.size+f.2.size+4:=by
 rw[aS,aJO,F.zN]
theorem print_any (A:Option Addr) (c:Nat) (fs:List FD) (w:World) (hf:F.bulk fs≤1073741824) (hx:Rd w A fs.length 2 (aJ fs)) :
  Calls Tryz.prog 183 #[.slice A fs.length c] w (fM w (F.tN fs) (F.dJ fs)):=by
 have hn:fs.length≤1073741824:=by have:=F.bU fs;omega
 have HSM:=aH (jF hf)
 have hln:=F.uK fs
 have hlt2:(F.lines fs).length≤4294967296:=by omega
 clear hln
 generalize hB:F.tN fs=PB at *
 generalize hE:F.dJ fs=PE at *
 have HBAD:=aH (fun (h:fs.all F.okF=false)=>aKX h)
 have HMANY:=aH (fun (h:fs.all F.okF=true) (h2:100 < fs.length)=>aG3 h h2)
 have HGOOD:=aH (fun (h:fs.all F.okF=true) (h2:¬ 100 < fs.length)=>aHK h h2)
 rw[hB,hE]at HBAD HMANY HGOOD
 clear hB hE
 have HMB:=aH (fun f (h:f∈fs)=>F.rU h)
 go_enter Tryz.func183,Tryz.ntmps183
 go_wp2
 have HBUF0:=aH (Lib.fresh_isBuffer 254 5 w)
 have HB0:=aH ((zB w.heap.size w).alloc (zA _) (.cells #[.slice none 0 0,.int .i64 0,.int .i8 0] 254))
 generalize w.alloc (.cells #[.slice none 0 0,.int .i64 0,.int .i8 0] 254)=w0 at *
 go_loopw [9] (fun i wr=>∃ k:Nat,k≤fs.length∧i=.int .i64 k∧aQ1 fs k∧Lib.IsBuffer 254 5 w.heap.size w.heap.size (Lib.byteCells (F.lines (fs.take k))) wr∧Below w.heap.size w wr) (fun i _=>fs.length - (intOf i).toNat)
 case atStart=>exact⟨0,zF _,rfl,rfl,HBUF0.out,HB0.out⟩
 case round =>
  clear HBUF0 HB0
  obtain⟨k,hk,rfl,hw,hbuf,hbel⟩:=hrel
  have HW:=aH hw
  have HBUF:=aH hbuf
  have HBEL:=aH hbel
  clear hw hbuf hbel
  by_cases hlt:k < fs.length
  ·obtain⟨b,o,rfl,hb,d1,d2⟩:=(hx.below HBEL.out).field hlt rfl
   have hsn:=F.aG6 fs k hlt
   have hst:=fun h1 h2=>HW.out.step hlt h1 h2
   have hn1:=fun h=>aRG hlt h
   have hn2:=fun h=>aRF hlt h
   have hfm:=HMB.out _ (List.getElem_mem hlt)
   have hfs:=HSM.out _ (List.getElem_mem hlt)
   have htk:=F.aG5 fs k
   generalize hfk:fs[k]=f at *
   have HSN:=aH hsn
   have HST:=aH hst
   have HN1:=aH hn1
   have HN2:=aH hn2
   have ha1:=hfs.1
   have ha2:=hfs.2
   have HTOK:=aH (fun u=>aAW f.1 u ha1)
   have HGD:=aH (fun u=>aFN f.2 u ha2)
   have hz:=HBEL.out.size
   have hls:(F.lines (fs.take k)).length≤4294967296:=by omega
   have hls2:f.1.size+f.2.size+1≤1073741824:=by omega
   clear hsn hst hn1 hn2 hfs hfk hfm htk
   rcases tf (T.token (L f.1)) with h1 | h1
   ·rw[h1]at HTOK
    rcases tf (F.good f.2) with h2 | h2
    ·rw[h2]at HGD
     have HST2:=aH (HST.out h1 h2)
     clear h1 h2 HST HN1 HN2
     go_wp2_with fail
     refine (HTOK.out _).mono ?_
     rintro e w' ⟨rfl,rfl⟩
     go_wp2_with fail
     refine (HGD.out _).mono ?_
     rintro e w2 ⟨rfl,hb2⟩
     have hk2:=(Blk.new wr #[.string f.1,.string f.2] 60).below hb2
     obtain⟨x0,x1⟩:=hk2.cells2
     have HBUF2:=aH (qL (qL HBUF.out ((zB _ _).alloc (zA _) (.cells #[.string f.1,.string f.2] 60))) hb2)
     have HBEL2:=aH (nR HBEL.out hz hb2)
     have hz2:=HBEL2.out.size
     clear hk2 hb2 HBUF HBEL HTOK HGD d1 d2
     have hs1:f.1.size+2≤9223372036854775807:=by omega
     have hs2:f.1.size+2+f.2.size≤9223372036854775807:=by omega
     have hs3:f.1.size+2+f.2.size+2≤9223372036854775807:=by omega
     go_wp2_with fail
     refine (Tryz.Buffer_WriteString_k w.heap.size w.heap.size _ _ w2 HBUF2.out hz2 (Lib.byteCells_one _) (by rw[Lib.byteCells_length,aJN];omega)).mono ?_
     rintro e w3 ⟨rfl,hbuf3,hb3,_⟩
     have HBUF3:Hid (Lib.IsBuffer 254 5 w.heap.size w.heap.size (Lib.byteCells (F.lines (fs.take (k+1)))) w3):=by
      have:=hbuf3
      rw[show (f.1++⟨#[58,32]⟩++f.2++⟨#[13,10]⟩:ByteArray).data.toList=F.line f from aJO f,← Lib.byteCells_append,← HSN.out]at this
      exact aH this
     have HBEL3:=aH (HBEL2.out.trans hb3)
     clear hbuf3 hb3 HBUF2 HBEL2 x0 x1
     go_wp2
     go_roundw
     case rel=>exact⟨k+1,by omega,by go_num,HST2.out,HBUF3.out,HBEL3.out⟩
     case measure=>simp [intOf];omega
    ·rw[h2]at HGD
     have HBD:=aH (HBAD.out (HN2.out h2))
     clear h1 h2 HST HN1 HN2
     go_wp2_with fail
     refine (HTOK.out _).mono ?_
     rintro e w' ⟨rfl,rfl⟩
     go_wp2_with fail
     refine (HGD.out _).mono ?_
     rintro e w2 ⟨rfl,hb2⟩
     have HBEL2:=aH (nR HBEL.out hz hb2)
     clear hb2 HBUF HBEL HTOK HGD d1 d2
     go_wp2
     refine bK (v:=.tuple #[.slice none 0 0,.int .i64 40]) (by simp [results,Tryz.results183,go_sem]) rfl ?_
     exact fM.none_ HBEL2.out HBD.out.1 HBD.out.2
   ·rw[h1]at HTOK
    have HBD:=aH (HBAD.out (HN1.out h1))
    have HBEL2:=aH (HBEL.out.alloc hz (.cells #[.string f.1,.string f.2] 60))
    clear h1 HST HN1 HN2
    go_wp2_with fail
    refine (HTOK.out _).mono ?_
    rintro e w' ⟨rfl,rfl⟩
    clear HBUF HBEL HTOK HGD d1 d2
    go_wp2
    refine bK (v:=.tuple #[.slice none 0 0,.int .i64 40]) (by simp [results,Tryz.results183,go_sem]) rfl ?_
    exact fM.none_ HBEL2.out HBD.out.1 HBD.out.2
  ·have hkn:k=fs.length:=by omega
   subst hkn
   have hall:fs.all F.okF=true:=by have:=HW.out;unfold aQ1 at this;rwa [List.take_length]at this
   have hbuf:=HBUF.out
   rw[List.take_length]at hbuf
   have HBF:=aH hbuf
   clear hbuf HBUF HW hlt hk
   by_cases hm:100 < fs.length
   ·have HBD:=aH (HMANY.out hall hm)
    clear hall
    go_wp2
    refine bK (v:=.tuple #[.slice none 0 0,.int .i64 42]) (by simp [results,Tryz.results183,go_sem]) rfl ?_
    exact fM.none_ HBEL.out HBD.out.1 HBD.out.2
   ·have HBD:=aH (HGOOD.out hall hm)
    clear hall
    go_wp2_with fail
    refine (Tryz.Buffer_Bytes w.heap.size w.heap.size _ wr HBF.out).mono ?_
    rintro e w3 ⟨v,rfl,hown,q,rfl⟩
    obtain⟨R,d,rfl,hrow⟩:=aGL hown
    have HR:=aH hrow
    clear hown hrow
    go_wp2
    refine bK (v:=.tuple #[.slice R (Lib.byteCells (F.lines fs)).length d,.int .i64 0]) (by simp [results,Tryz.results183,go_sem]) rfl ?_
    rw[HBD.out.1,HBD.out.2]
    have hl:(Lib.byteCells (F.lines fs)).length=(F.lines fs).length:=Lib.byteCells_length _
    have hr:=HR.out
    rw[hl]at hr ⊢
    exact⟨R,d,rfl,Row.crow hr,below_drewN HBEL.out q⟩
def aE7:Go.Shelf.Ren:=⟨fun | 167=>84 | 240=>122 | 276=>158 | n=>n,fun | 0=>0 | 3=>3 | 4=>4 | 5=>5 | 9=>9 | 20=>20 | 37=>39 | 70=>138 | 72=>140 | 75=>142 | 80=>149 | 164=>213 | n=>n,fun | n=>n⟩
theorem lays167:Go.Proofs.Lays.n167 Tryz.prog aE7:={
 mixed:=by kernel_rfl
 f167:=Tryz.func84.trans (congrArg some (by kernel_rfl))
 f240:=Tryz.func122.trans (congrArg some (by kernel_rfl))
 f276:=Tryz.func158.trans (congrArg some (by kernel_rfl))
 t0:=Tryz.underlying0
 a0:=Tryz.isAgg0
 z0:=Tryz.sizeOf0
 v0:=Tryz.zeroValue0
 t4:=Tryz.underlying4
 a4:=Tryz.isAgg4
 z4:=Tryz.sizeOf4
 v4:=Tryz.zeroValue4
 t5:=Tryz.underlying5
 a5:=Tryz.isAgg5
 z5:=Tryz.sizeOf5
 v5:=Tryz.zeroValue5
 t9:=Tryz.underlying9
 a9:=Tryz.isAgg9
 z9:=Tryz.sizeOf9
 v9:=Tryz.zeroValue9
 t20:=Tryz.underlying20
 a20:=Tryz.isAgg20
 z20:=Tryz.sizeOf20
 v20:=Tryz.zeroValue20
 t37:=Tryz.underlying39
 a37:=Tryz.isAgg39
 z37:=Tryz.sizeOf39
 v37:=Tryz.zeroValue39
 t70:=Tryz.underlying138
 a70:=Tryz.isAgg138
 z70:=Tryz.sizeOf138
 v70:=Tryz.zeroValue138
 t72:=Tryz.underlying140
 a72:=Tryz.isAgg140
 z72:=Tryz.sizeOf140
 v72:=Tryz.zeroValue140
 t75:=Tryz.underlying142
 a75:=Tryz.isAgg142
 z75:=Tryz.sizeOf142
 v75:=Tryz.zeroValue142
 t164:=Tryz.underlying213
 a164:=Tryz.isAgg213
 z164:=Tryz.sizeOf213
 v164:=Tryz.zeroValue213 }
theorem aNB:Builder.Extra Tryz.prog aE7:={
 sizeBuilder:=by kernel_rfl
 liesBuilder:=by kernel_rfl
 t5:=Tryz.underlying5
 a5:=Tryz.isAgg5
 z5:=Tryz.sizeOf5
 v5:=Tryz.zeroValue5
 infoByte:=by kernel_rfl
 cellsByte:=by kernel_rfl
 sizeByte:=by kernel_rfl
 neB5:=by decide }
theorem mD (B b:Nat) (bs:List Value) (c:Int) (w:World) (h:Lib.IsBuilder 140 5 B b bs w) (hlen:bs.length+1≤140737488355328) (hBw:B≤w.heap.size) :
  Calls Tryz.prog 84 #[.pointer (some ⟨b,0,none⟩),.int .u8 c] w fun e w'=>e=.returned .nilIface∧(Lib.BuilderAt 140 5 B b (.pointer (some ⟨b,0,none⟩)) (bs++[.int .u8 c]) w'∧Below B w w') :=
 Any.Builder_WriteByte lays167 aNB B b bs c w h hlen hBw
theorem aAY (c:UInt8) (w:World):Calls Tryz.prog 198 #[.int .u8 c.toNat] w (vX w (.bool (T.gJ c))):=by
 rcases aEY c with ⟨h,g1,g2⟩ | ⟨h,g1,g2⟩ | ⟨h,g1,g2,g3⟩ | ⟨h,g1,g2,g3⟩
 case' inr.inr.inl=>have g4:((c.toNat:Int) != 127)=true:=by rw[bne,g3];rfl
 case' inr.inr.inr=>have g4:((c.toNat:Int) != 127)=false:=by rw[bne,g3];rfl
 all_goals
  rw[h]
  clear h
  go_enter Tryz.func198,Tryz.ntmps198
  go_wp2
  go_ret
  exact⟨rfl,rfl⟩
def Wrote (w:World) (n:Nat) (e:Ending) (u:World):Prop:=e=.returned .nilIface∧∃ l:List UInt8,l.length≤n∧Lib.IsBuilder 140 5 w.heap.size w.heap.size (Lib.byteCells l) u∧Below w.heap.size w u
theorem iQ {w u:World} {n:Nat} (c:UInt8) (hn:n≤4398046511104) (h:∃ l:List UInt8,l.length≤n∧Lib.IsBuilder 140 5 w.heap.size w.heap.size (Lib.byteCells l) u∧Below w.heap.size w u) :
  Calls Tryz.prog 84 #[.pointer (some ⟨w.heap.size,0,none⟩),.int .u8 c.toNat] u (Wrote w (n+1)):=by
 obtain⟨l,hl,hb,hbel⟩:=h
 refine (mD w.heap.size w.heap.size (Lib.byteCells l) c.toNat u hb (by rw[Lib.byteCells_length];omega) hbel.size).mono ?_
 rintro e v ⟨he,hat,hb2⟩
 refine⟨he,l++[c],by rw[bC];simp only[List.length_singleton];omega,?_,hbel.trans hb2⟩
 have e2:Lib.byteCells (l++[c])=Lib.byteCells l++[.int .u8 c.toNat]:=by simp [Lib.byteCells]
 rw[e2]
 exact .inr hat
def aN8 (w:World) (ok:Bool) (e:Ending) (w':World):Prop:=∃ q:ByteArray,e=.returned (.tuple #[.string q,.int .i64 (if ok then 0 else 11)])∧Below w.heap.size w w'
theorem aI2 (s:ByteArray) (w:World) (hs:s.size≤1099511627776):Calls Tryz.prog 182 #[.string s] w (aN8 w (F.text s)):=by
 have HZ:Hid ((L s).length=s.size):=(aS s).symm
 have H0:Hid (∃ l:List UInt8,l.length≤0∧Lib.IsBuilder 140 5 w.heap.size w.heap.size (Lib.byteCells l) (w.alloc (.cells #[.pointer none,.slice none 0 0] 140))∧Below w.heap.size w (w.alloc (.cells #[.pointer none,.slice none 0 0] 140))) :=
  aH ⟨[],zA _,Lib.fresh_isBuilder 140 5 w,(zB w.heap.size w).alloc (zA _) _⟩
 go_enter Tryz.func182,Tryz.ntmps182
 go_wp2_with fail
 generalize w.alloc (.cells #[.pointer none,.slice none 0 0] 140)=w0 at *
 refine (iQ 34 (by omega) H0.out).mono ?_
 rintro e w1 ⟨rfl,h1⟩
 have H1:=aH h1
 clear h1 H0
 go_wp2
 go_loopw [5,6,10,16,20] (fun _ _ i _ _ wr=>∃ k:Nat,k≤s.size∧i=.int .i64 k∧((L s).take k).all T.gJ=true∧∃ l:List UInt8,l.length≤2 * k+1∧Lib.IsBuilder 140 5 w.heap.size w.heap.size (Lib.byteCells l) wr∧Below w.heap.size w wr) (fun _ _ i _ _ _=>s.size - (intOf i).toNat)
 case atStart=>exact⟨0,zF _,rfl,by simp,H1.out⟩
 case round =>
  clear H1
  obtain⟨k,hk,rfl,ha,hl⟩:=hrel
  have HAll:=aH ha
  have HL:=aH hl
  clear ha hl
  by_cases hlt:k < s.size
  ·have hL:k < (L s).length:=by rw[HZ.out];exact hlt
   have HB:=aH (aAY s[k])
   rcases tf (T.gJ ((L s)[k]'hL)) with h | h
   ·have HN:=aH (sF T.gJ (L s) k hL HAll.out h)
    have hb:T.gJ s[k]=true:=h
    rw[hb]at HB
    clear h hb
    rcases tf (((s[k]'hlt).toNat:Int)==34||((s[k]'hlt).toNat:Int)==92) with hq | hq
    ·have HW1:=aH (iQ 92 (by omega) HL.out)
     rcases tf (((s[k]'hlt).toNat:Int)==34) with g1 | g1
     case' inr =>
      have g2:(((s[k]'hlt).toNat:Int)==92)=true:=by rw[g1]at hq;exact hq
     all_goals
      clear hq
      go_wp2_with fail
      refine (HB.out _).mono ?_
      rintro e w' ⟨rfl,rfl⟩
      go_wp2_with fail
      refine HW1.out.mono ?_
      rintro e w2 ⟨rfl,h2⟩
      have HW2:=aH (iQ (s[k]'hlt) (by omega) h2)
      clear h2 HW1 HL
      go_wp2_with fail
      refine HW2.out.mono ?_
      rintro e w3 ⟨rfl,l3,z3,b3,d3⟩
      have HL3:=aH (And.intro z3 (And.intro b3 d3))
      clear z3 b3 d3 HW2
      go_wp2
      go_roundw
      case rel=>exact⟨k+1,by omega,by go_num,HN.out,l3,by have:=HL3.out.1;omega,HL3.out.2⟩
      case measure=>simp [intOf];omega
    ·have HW2:=aH (iQ (s[k]'hlt) (by omega) HL.out)
     have g1:(((s[k]'hlt).toNat:Int)==34)=false:=(Bool.or_eq_false_iff.1 hq).1
     have g2:(((s[k]'hlt).toNat:Int)==92)=false:=(Bool.or_eq_false_iff.1 hq).2
     clear hq
     go_wp2_with fail
     refine (HB.out _).mono ?_
     rintro e w' ⟨rfl,rfl⟩
     go_wp2_with fail
     refine HW2.out.mono ?_
     rintro e w3 ⟨rfl,l3,z3,b3,d3⟩
     have HL3:=aH (And.intro z3 (And.intro b3 d3))
     clear z3 b3 d3 HW2
     go_wp2
     go_roundw
     case rel=>exact⟨k+1,by omega,by go_num,HN.out,l3,by have:=HL3.out.1;omega,HL3.out.2⟩
     case measure=>simp [intOf];omega
   ·have HN:Hid (F.text s=false):=aH (aF0 T.gJ (L s) k hL h)
    have hb:T.gJ s[k]=false:=h
    rw[hb]at HB
    clear h hb
    go_wp2_with fail
    refine (HB.out _).mono ?_
    rintro e w' ⟨rfl,rfl⟩
    go_wp2
    refine bK (v:=.tuple #[.string ⟨#[]⟩,.int .i64 11]) (by simp [results,Tryz.results182,go_sem]) rfl ?_
    obtain⟨l,_,_,d⟩:=HL.out
    exact⟨⟨#[]⟩,by rw[HN.out];rfl,d⟩
  ·have hks:k=s.size:=by omega
   have ha:=HAll.out
   rw[List.take_of_length_le (by rw[HZ.out];omega)]at ha
   have HT:Hid (F.text s=true):=aH ha
   have HW:=aH (iQ 34 (by omega) HL.out)
   clear ha hks HL
   go_wp2_with fail
   refine HW.out.mono ?_
   rintro e w3 ⟨rfl,l3,z3,b3,d3⟩
   have HS:=aH (Tryz.Builder_String_any w.heap.size w.heap.size l3 w3 b3 d3.size)
   have HD:=aH d3
   clear z3 b3 d3 HW
   go_wp2_with fail
   refine HS.out.mono ?_
   rintro e w4 ⟨rfl,hb4⟩
   have HD4:=aH (HD.out.trans hb4)
   clear hb4 HD HS
   go_wp2
   refine bK (v:=.tuple #[.string ⟨l3.toArray⟩,.int .i64 0]) (by simp [results,Tryz.results182,go_sem]) rfl ?_
   exact⟨_,by rw[HT.out];rfl,HD4.out⟩
theorem aEX (s:ByteArray) (w:World) (hs:s.size≤1099511627776):Calls Tryz.prog 154 #[.string s] w (qP w (F.text s)):=by
 have HQ:=aH (aI2 s w hs)
 rcases tf (F.text s) with h | h
 all_goals
  rw[h]at HQ ⊢
  clear h
  go_enter Tryz.func154,Tryz.ntmps154
  go_wp2_with fail
  refine HQ.out.mono ?_
  rintro e w1 ⟨q,rfl,hb⟩
  have HB:=aH hb
  clear hb HQ
  go_wp2
  go_ret
  exact⟨rfl,HB.out⟩
end Go.Proofs.YthjeglnkgdpijaaGreatDoor
