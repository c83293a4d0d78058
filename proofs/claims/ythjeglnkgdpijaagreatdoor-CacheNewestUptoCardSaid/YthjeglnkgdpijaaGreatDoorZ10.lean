/- What head.Response computes, as a plain function; what is told of some bytes is told of them with more behind, and a head is told when its last byte has come. No program here. What chunk.Decode computes, as plain functions on lists of bytes; what is told of some bytes is told of them with more behind. No program here. Rows written over and grown: what an append leaves of the row it began from; several rows of bytes of which no two share a block. No condition: plain lemmas. The walks of the document's Show, and the contract of strconv.Itoa. Conditions: the number is of 64 bits; for Itoa the library's table of powers of ten is as its text lays it. -/
import Derived.Test.YthjeglnkgdpijaaGreatDoorZ01
import Derived.Lib.AppendZerosOnto
import Derived.Lib.AppendIntMem
namespace Go.Proofs.YthjeglnkgdpijaaGreatDoor
namespace P
open T (Bs)
structure RS where
 s:Int
 r:ByteArray
 v:Int
 fs:List FD
 n:Int
 e:Int
def RS.bad (e:Int):RS:=⟨0,⟨#[]⟩,0,[],0,e⟩
def code3 (l:Bs):Bool:=decide (l.length=3)&&l.all dig
def stat (l:Bs):Int:=l.foldl (fun a c=>a * 10+((c.toNat:Int) - 48)) 0
def respOf (line block:Bs) (n:Int):RS :=
 if verE (methodOf line)=50∨code3 (methodOf (behind line))=false∨F.text (B (behind (behind line)))=false then .bad 50
 else if verE (methodOf line)=0∧(stat (methodOf (behind line)) < 100∨599 < stat (methodOf (behind line))) then .bad 53
 else if verE (methodOf line)≠0 then .bad (verE (methodOf line))
 else if (parse [] block).2≠0 then .bad (parse [] block).2
 else ⟨stat (methodOf (behind line)),B (behind (behind line)),verN (methodOf line),(parse [] block).1,n,0⟩
def response (b:Bs):RS:=if hE b 0≠0∨hN b 0=0 then .bad (hE b 0) else respOf (hLine b 0) (hBlock b 0) (hN b 0)
theorem upto_app (p:UInt8→Bool):∀ (u:Bs) (x:UInt8) (r:Bs),(∀ y∈u,p y=false)→p x=true→upto p (u++x::r)=u∧from_ p (u++x::r)=x::r
 | [],x,r,_,hx=>by simp [upto,from_,hx]
 | y::u,x,r,hu,hx=>by
  have hy:p y=false:=hu y (by simp)
  have:=upto_app p u x r (fun z hz=>hu z (by simp [hz])) hx
  unfold upto from_ at this ⊢
  simp only[List.cons_append,List.takeWhile_cons,List.dropWhile_cons,hy,Bool.not_false,if_true]
  exact⟨by rw[this.1],this.2⟩
theorem occAt_iff {s sub:Bs} {j:Nat}:Lib.occAt s sub j=true↔sub=(s.take (j+sub.length)).drop j:=by
 unfold Lib.occAt
 rw[List.isPrefixOf_iff_prefix,List.prefix_iff_eq_take,List.take_drop]
theorem occAt_take {xs ys sub:Bs} {j m:Nat} (h:ys.take m=xs.take m) (hj:j+sub.length≤m):Lib.occAt ys sub j=Lib.occAt xs sub j:=by
 have e:ys.take (j+sub.length)=xs.take (j+sub.length):=by
  have:=congrArg (List.take (j+sub.length)) h
  rwa [List.take_take,List.take_take,Nat.min_eq_left hj]at this
 rw[Bool.eq_iff_iff,occAt_iff,occAt_iff,e]
theorem index_front {xs ys sub:Bs} {i m:Nat} (h:ys.take m=xs.take m) (hi:Lib.index xs sub=(i:Int)) (hm:i+sub.length≤m) (hy:m≤ys.length):Lib.index ys sub=(i:Int):=by
 rcases Lib.index_spec xs sub with ⟨h1,_⟩ | ⟨k,h1,h2,h3,h4⟩
 ·omega
 ·obtain rfl:k=i:=by omega
  refine Lib.index_hit (fun j hj=>?_) (by omega) ?_
  ·rw[occAt_take h (by omega)];exact h4 j hj
  ·rw[occAt_take h hm];exact h3
theorem drop_take_eq {xs ys:Bs} {m s:Nat} (h:ys.take m=xs.take m):(ys.drop s).take (m - s)=(xs.drop s).take (m - s):=by
 rw[← List.drop_take,← List.drop_take,h]
theorem idx_front {b b':Bs} {s i m:Nat} (h:b'.take m=b.take m) (hi:hIdx b s=(i:Int)) (hm:s+i+4≤m) (hb:m≤b'.length):hIdx b' s=(i:Int)∧hText b' s=hText b s∧hE b' s=hE b s∧hN b' s=hN b s:=by
 have h0:hIdx b' s=(i:Int):=index_front (m:=m - s) (drop_take_eq h) hi (by show i+4≤_;omega) (by rw[List.length_drop];omega)
 refine⟨h0,?_,?_,?_⟩
 ·unfold hText
  rw[h0,hi]
  have e:=congrArg (List.take ((i:Int)+2).toNat) (drop_take_eq (s:=s) h)
  rwa [List.take_take,List.take_take,Nat.min_eq_left (by omega)]at e
 ·unfold hE
  have hneg:¬ (i:Int) < 0:=by omega
  rw[h0,hi,if_neg hneg,if_neg hneg]
 ·unfold hN
  rw[h0,hi]
theorem idx_cases (b:Bs) (s:Nat):hIdx b s < 0∨∃ i:Nat,hIdx b s=(i:Int)∧s+i+4≤b.length:=by
 rcases (by omega:hIdx b s < 0∨0≤hIdx b s) with h | h
 ·exact .inl h
 ·obtain⟨i,j,hi,hr,_⟩:=hText_facts b s h
  exact .inr ⟨i,hi,hr⟩
theorem hE_no {b:Bs} {s:Nat} (h:hIdx b s < 0):hE b s=if b.length < 8192 then 0 else 51:=if_pos h
theorem hN_no {b:Bs} {s:Nat} (h:hIdx b s < 0):hN b s=0:=if_pos (.inl h)
theorem response_no {b:Bs} (h:hIdx b 0 < 0):response b=.bad (hE b 0):=if_pos (.inr (hN_no h))
end P
namespace C
open T (Bs)
def hex (c:UInt8):Int:=if 48≤c.toNat∧c.toNat≤57 then (c.toNat:Int) - 48 else if 65≤c.toNat∧c.toNat≤70 then (c.toNat:Int) - 55 else if 97≤c.toNat∧c.toNat≤102 then (c.toNat:Int) - 87 else -1
def isHex (c:UInt8):Bool:=decide (0≤hex c)
def val (l:Bs):Int:=l.foldl (fun a c=>a * 16+hex c) 0
def semi (c:UInt8):Bool:=c==59
def numOf (l:Bs):Bs:=P.upto semi l
def extOf (l:Bs):Bs:=(P.from_ semi l).drop 1
def sizeOf (l:Bs):Int:=if numOf l=[]∨8 < (numOf l).length∨(numOf l).all isHex=false∨F.text (B (extOf l))=false then -1 else val (numOf l)
def lf (c:UInt8):Bool:=c==10
def eolAt (l:Bs):Nat:=(P.upto lf l).length
def lineBad (l:Bs):Prop:=200≤eolAt l∨eolAt l=0∨l.getD (eolAt l - 1) 0≠13∨sizeOf (l.take (eolAt l - 1)) < 0
instance (l:Bs):Decidable (lineBad l):=inferInstanceAs (Decidable (_∨_))
def lineE (l:Bs):Int:=if eolAt l < l.length then (if lineBad l then 70 else 0) else if 200≤l.length then 70 else 0
def lineN (l:Bs):Nat:=if eolAt l < l.length∧¬ lineBad l then eolAt l+1 else 0
def lineS (l:Bs):Nat:=if eolAt l < l.length∧¬ lineBad l then (sizeOf (l.take (eolAt l - 1))).toNat else 0
structure CD where
 d:Bs
 f:List FD
 n:Nat
 e:Int
def CD.bad (e:Int):CD:=⟨[],[],0,e⟩
def tailE (l:Bs):Int:=if P.crlf.isPrefixOf l then 0 else if P.hE l 0≠0∨P.hN l 0=0 then P.hE l 0 else (P.parse [] (l.take (P.hN l 0 - 2).toNat)).2
def tailN (l:Bs):Nat:=if P.crlf.isPrefixOf l then 2 else if P.hE l 0≠0∨P.hN l 0=0 then 0 else if (P.parse [] (l.take (P.hN l 0 - 2).toNat)).2≠0 then 0 else (P.hN l 0).toNat
def tailF (l:Bs):List FD:=if P.crlf.isPrefixOf l then [] else if P.hE l 0≠0∨P.hN l 0=0 then [] else (P.parse [] (l.take (P.hN l 0 - 2).toNat)).1
def dec (data:Bs) (at_:Nat) (l:Bs):CD :=
 if lineE l≠0∨lineN l=0 then .bad (lineE l)
 else if lineS l=0 then
  (if tailE (l.drop (lineN l))≠0∨tailN (l.drop (lineN l))=0 then .bad (tailE (l.drop (lineN l))) else ⟨data,tailF (l.drop (lineN l)),at_+lineN l+tailN (l.drop (lineN l)),0⟩)
 else if 65536 < data.length+lineS l then .bad 71
 else if _h:(l.drop (lineN l)).length < lineS l+2 then .bad 0
 else if P.crlf.isPrefixOf (l.drop (lineN l+lineS l))=false then .bad 70
 else dec (data++(l.drop (lineN l)).take (lineS l)) (at_+lineN l+lineS l+2) (l.drop (lineN l+lineS l+2))
termination_by l.length
decreasing_by
 rw[List.length_drop]at _h ⊢
 omega
def decode (b:Bs):CD:=dec [] 0 b
end C
open Go.RowKit
section
variable {w w' u u':World} {base n c m:Nat} {A:Option Addr} {bs:List UInt8} {r:Option Nat}
theorem CRow.kept (h:CRow w base A n c bs) (hg:w.grownBy w' r) (hr:∀ b,ownB A c=some b→r≠some b):CRow w' base A n c bs:=by
 obtain⟨h1,h2,h3⟩:=h
 refine⟨h1,h2,?_⟩
 rcases h3 with h3 | ⟨g,hA,hB,hlt,hf,hc⟩
 ·exact .inl h3
 ·by_cases hc0:c=0
  ·exact .inl hc0
  ·have hne:r≠some g:=hr g (by subst hA;unfold ownB;rw[if_neg hc0];rfl)
   have hb:w'.heap[g]?=w.heap[g]?:=hg.block g hlt (fun e=>hne e.symm)
   have hcell:∀ j,w'.cell? ⟨g,j,none⟩=w.cell? ⟨g,j,none⟩:=fun j=>World.cell?_of_block (w:=w) (a:=⟨g,j,none⟩) hb
   have hfr:∀ j,w'.frozen? ⟨g,j,none⟩=w.frozen? ⟨g,j,none⟩:=fun j=>by simp [World.frozen?,hb]
   exact .inr ⟨g,hA,hB,Nat.lt_of_lt_of_le hlt hg.size,fun j hj=>⟨by rw[hcell];exact (hf j hj).1,by rw[hfr];exact (hf j hj).2⟩,fun j v hv=>(hcell j).trans (hc j v hv)⟩
theorem CRow.front {xs:List UInt8} (h:CRow w base A n c xs) (hm:m≤n):CRow w base A m c (xs.take m):=by
 obtain⟨h1,h2,h3⟩:=h
 refine⟨by rw[List.length_take];omega,by omega,?_⟩
 rcases h3 with h3 | ⟨g,hA,hB,hlt,hf,hc⟩
 ·exact .inl h3
 ·refine .inr ⟨g,hA,hB,hlt,hf,fun j v hv=>hc j v ?_⟩
  unfold bcells at hv ⊢
  rw[List.map_take,List.getElem?_take]at hv
  split at hv
  ·exact hv
  ·cases hv
theorem grown_set (w:World) (g j:Nat) (v:Value):w.grownBy (w.setCell ⟨g,j,none⟩ v) (some g) :=
 ⟨rfl,rfl,rfl,by simp [World.setCell],fun k _ hne=>by
  unfold World.setCell
  simp only[Array.getElem?_modify]
  rw[if_neg (fun e=>hne (by rw[e]))]⟩
theorem CRow.set {g:Nat} (h:CRow w base (some ⟨g,0,none⟩) n c bs) {j:Nat} (hj:j < n) (x:UInt8):CRow (w.setCell ⟨g,j,none⟩ (.int .u8 x.toNat)) base (some ⟨g,0,none⟩) n c (bs.set j x):=by
 obtain⟨h1,h2,h3⟩:=h
 refine⟨by rw[List.length_set];exact h1,h2,?_⟩
 rcases h3 with h3 | ⟨g',hA,hB,hlt,hf,hc⟩
 ·omega
 ·cases hA
  have hsome:∀ i,i < [Value.int .u8 x.toNat].length→(w.cell? ⟨g,j+i,none⟩).isSome=true:=fun i hi=>by
   have:i=0:=by simpa using hi
   subst this
   exact (hf j (by omega)).1
  have e:w.setCell ⟨g,j,none⟩ (.int .u8 x.toNat)=w.setCells g j [Value.int .u8 x.toNat]:=rfl
  have hin:(w.setCell ⟨g,j,none⟩ (.int .u8 x.toNat)).cell? ⟨g,j,none⟩=some (.int .u8 x.toNat):=by
   have:=World.cell?_setCells_in g [Value.int .u8 x.toNat] j w hsome 0 (by simp)
   rw[e]
   simpa using this
  have hout:∀ i,i≠j→(w.setCell ⟨g,j,none⟩ (.int .u8 x.toNat)).cell? ⟨g,i,none⟩=w.cell? ⟨g,i,none⟩:=fun i hi=>by
   rw[e]
   refine World.cell?_setCells_out g [Value.int .u8 x.toNat] j w ⟨g,i,none⟩ (fun _ _=>?_)
   simp only[List.length_cons,List.length_nil]
   omega
  have hfr:∀ i,(w.setCell ⟨g,j,none⟩ (.int .u8 x.toNat)).frozen? ⟨g,i,none⟩=w.frozen? ⟨g,i,none⟩:=fun i=>by
   rw[e]
   exact World.frozen?_setCells ..
  refine .inr ⟨g,rfl,hB,Nat.lt_of_lt_of_le hlt (grown_set w g j _).size,fun i hi=>⟨?_,?_⟩,fun i v hv=>?_⟩
  ·by_cases hij:i=j
   ·subst hij;rw[hin];rfl
   ·rw[hout i hij];exact (hf i hi).1
  ·rw[hfr];exact (hf i hi).2
  ·unfold bcells at hv
   rw[List.map_set]at hv
   by_cases hij:i=j
   ·subst hij
    rw[List.getElem?_set_self (by rw[List.length_map];omega)]at hv
    cases hv
    exact hin
   ·rw[List.getElem?_set_ne (Ne.symm hij)]at hv
    rw[hout i hij]
    exact hc i v hv
end
structure LSt (w0:World) (base k:Nat) (A:Nat→Option Addr) (n c:Nat→Nat) (hb ho:Nat) (f:Nat→List UInt8) (u:World):Prop where
 row:∀ i,i < k→CRow u base (A i) (n i) (c i) (f i)
 cell:∀ i,i < k→u.cell? ⟨hb,ho+i,none⟩=some (.slice (A i) (n i) (c i))
 below:Below base w0 u
 keep:∀ b,b < w0.heap.size→(∀ i,i < k→ownB (A i) (c i)≠some b)→u.heap[b]?=w0.heap[b]?
structure LDis (k:Nat) (A:Nat→Option Addr) (c:Nat→Nat) (hb:Nat):Prop where
 two:∀ i j b,i < k→j < k→j≠i→ownB (A i) (c i)=some b→ownB (A j) (c j)≠some b
 head:∀ i b,i < k→ownB (A i) (c i)=some b→b≠hb
section
variable {w0 u u':World} {base k hb ho:Nat} {A:Nat→Option Addr} {n c:Nat→Nat} {f:Nat→List UInt8}
theorem LSt.under (h:LSt w0 base k A n c hb ho f u) (hk:Below u.heap.size u u') (hz:base≤u.heap.size):LSt w0 base k A n c hb ho f u' :=
 ⟨fun i hi=>(h.row i hi).below hk,fun i hi=>(hk.cell (p:=⟨hb,ho+i,none⟩) (cell_lt (h.cell i hi))).trans (h.cell i hi),below_then hz h.below hk,
  fun b hb hn=>(hk.block b (Nat.lt_of_lt_of_le hb h.below.size)).trans (h.keep b hb hn)⟩
theorem LSt.alloc (h:LSt w0 base k A n c hb ho f u) (hz:base≤u.heap.size) (o:Obj):LSt w0 base k A n c hb ho f (u.alloc o):=h.under ((Below.refl _ _).alloc (Nat.le_refl _) _) hz
theorem LSt.turn (h:LSt w0 base k A n c hb ho f u) {i:Nat} {xs:List UInt8} {r:Option Nat} (hg:u.grownBy u' r) (hz:base≤u.heap.size) (hr:∀ b,r=some b→base≤b∧b≠hb)
  (ho':∀ j,j < k→j≠i→∀ b,ownB (A j) (c j)=some b→r≠some b) (hw:∀ b,r=some b→b < w0.heap.size→∃ i,i < k∧ownB (A i) (c i)=some b) (hx:CRow u' base (A i) (n i) (c i) xs):LSt w0 base k A n c hb ho (fun j=>if j=i then xs else f j) u' :=
 ⟨fun j hj=>by
  by_cases e:j=i
  ·subst e;simpa using hx
  ·simp only[if_neg e]
   exact (h.row j hj).kept hg (ho' j hj e),
  fun j hj=>by
   have hlt:=cell_lt (h.cell j hj)
   have hbl:u'.heap[hb]?=u.heap[hb]?:=hg.block hb hlt (fun e=>(hr hb e.symm).2 rfl)
   exact (World.cell?_of_block (w:=u) (a:=⟨hb,ho+j,none⟩) hbl).trans (h.cell j hj),
  h.below.grown hg hz (fun b hb=>(hr b hb).1),
  fun b hb hn=>(hg.block b (Nat.lt_of_lt_of_le hb h.below.size) (fun e=>by
   obtain⟨i,hi,h2⟩:=hw b e.symm hb
   exact hn i hi h2)).trans (h.keep b hb hn)⟩
theorem LSt.same (h:LSt w0 base k A n c hb ho f u) {g:Nat→List UInt8} (e:∀ j,j < k→g j=f j):LSt w0 base k A n c hb ho g u :=
 ⟨fun j hj=>by rw[e j hj];exact h.row j hj,h.cell,h.below,h.keep⟩
theorem LSt.set (h:LSt w0 base k A n c hb ho f u) (hd:LDis k A c hb) {i g j:Nat} (hi:i < k) (hA:A i=some ⟨g,0,none⟩) (hj:j < n i) (hz:base≤u.heap.size) (x:UInt8) :
  LSt w0 base k A n c hb ho (fun t=>if t=i then (f i).set j x else f t) (u.setCell ⟨g,j,none⟩ (.int .u8 x.toNat)):=by
 have hrow:=h.row i hi
 have hcn:c i≠0:=by have:=hrow.2.1;omega
 have hown:ownB (A i) (c i)=some g:=by rw[hA];unfold ownB;rw[if_neg hcn];rfl
 refine h.turn (grown_set u g j _) hz (fun b e=>?_) (fun t ht hti b hb2 e=>?_) (fun b e _=>⟨i,hi,hown.trans e⟩) ?_
 ·cases e
  exact⟨(hrow.lt g hown).1,hd.head i g hi hown⟩
 ·cases e
  exact hd.two i t g hi ht hti hown hb2
 ·rw[hA]at hrow ⊢
  exact hrow.set hj x
theorem LSt.app (h:LSt w0 base k A n c hb ho f u) (hd:LDis k A c hb) {i j z c2 c3 m:Nat} {A2 A3:Option Addr} {xs news:List UInt8} (hi:i < k) (hz:base≤u.heap.size) (hx:xs.take (n i)=f i)
  (hlt:∀ t b,t < k→ownB (A t) (c t)=some b→b < z) (hbz:hb < z) (h1:CRow u base A2 (n i+j) c2 xs) (hwh:(A2=A i∧c2=c i)∨∀ b,ownB A2 c2=some b→z≤b) (ha:App u u' A2 c2 A3 c3) (h2:CRow u' base A2 (n i+j) c2 xs) (hzu:z≤u.heap.size) (hz0:w0.heap.size≤z) (_hm:CRow u' base A3 m c3 (xs++news)) :
  LSt w0 base k A n c hb ho f u'∧((A3=A i∧c3=c i)∨∀ b,ownB A3 c3=some b→z≤b):=by
 refine⟨?_,?_⟩
 ·have hr:∀ b,ownB A2 c2=some b→base≤b∧b≠hb:=fun b e=>⟨(h1.lt b e).1,by
   rcases hwh with ⟨rfl,rfl⟩ | hw
   ·exact hd.head i b hi e
   ·have:=hw b e;omega⟩
  have ho':∀ t,t < k→t≠i→∀ b,ownB (A t) (c t)=some b→ownB A2 c2≠some b:=fun t ht hti b e e2=>by
   rcases hwh with ⟨rfl,rfl⟩ | hw
   ·exact hd.two i t b hi ht hti e2 e
   ·have:=hw b e2;have:=hlt t b ht e;omega
  have hrow:CRow u' base (A i) (n i) (c i) (f i):=by
   rcases hwh with ⟨rfl,rfl⟩ | hw
   ·have:=h2.front (m:=n i) (by omega)
    rwa [hx]at this
   ·exact (h.row i hi).kept ha.grown (fun b e e2=>by have:=hw b e2;have:=hlt i b hi e;omega)
  have hw':∀ b,ownB A2 c2=some b→b < w0.heap.size→∃ i,i < k∧ownB (A i) (c i)=some b:=fun b e hb2=>by
   rcases hwh with ⟨rfl,rfl⟩ | hw
   ·exact⟨i,hi,e⟩
   ·have:=hw b e;omega
  exact (h.turn ha.grown hz hr ho' hw' hrow).same (fun t _=>by by_cases e:t=i<;>simp [e])
 ·rcases ha.moved with ⟨rfl,rfl⟩ | ⟨g,rfl,hg⟩
  ·exact hwh
  ·refine .inr fun b e=>?_
   unfold ownB at e
   split at e
   ·cases e
   ·simp at e
    omega
end
section
variable {w w' u u':World} {base n c c2 c3 size:Nat} {A A2 A3:Option Addr} {e:TypeId} {xs:List Value} {r:Option Nat}
theorem Row.kept (h:Row w base e size A n c xs) (hg:w.grownBy w' r) (hr:∀ b,ownB A c=some b→r≠some b):Row w' base e size A n c xs:=by
 by_cases hc0:c=0
 ·subst hc0
  have hn:n=0:=by have:=h.cap.1;omega
  subst hn
  exact .inr ⟨rfl,rfl,List.eq_nil_of_length_eq_zero (by have:=h.len;omega)⟩
 ·rcases h with ⟨h1,h2⟩ | h
  ·refine .inl ⟨h1,?_⟩
   rcases h2 with h2 | ⟨g,cap,cur,hv,hg0,hh,rest⟩
   ·exact .inl h2
   ·cases hv
    have hne:r≠some g:=hr g (by unfold ownB;rw[if_neg hc0];rfl)
    have hb:w'.heap[g]?=w.heap[g]?:=hg.block g (Array.getElem?_eq_some_iff.1 hh).1 (fun e=>hne e.symm)
    exact .inr ⟨g,c,cur,rfl,hg0,hb.trans hh,rest⟩
  ·exact .inr h
end
section
variable {u u':World} {base base2 n n2 c c2 size lo hi b:Nat} {A A2:Option Addr} {e:TypeId} {xs:List Value} {bs:List UInt8} {cs:Array Value} {t:TypeId}
theorem Row.after (h:Row u base2 e size A2 n2 c2 xs) (hg:u.grownBy u' (ownB A c)) (hlt:∀ k,ownB A c=some k→k < base2):Row u' base2 e size A2 n2 c2 xs :=
 h.kept hg (fun b hb e=>by have:=(h.lt b hb).1;have:=hlt b e;omega)
theorem CRow.after (h:CRow u base2 A2 n2 c2 bs) (hg:u.grownBy u' (ownB A c)) (hlt:∀ k,ownB A c=some k→k < base2):CRow u' base2 A2 n2 c2 bs :=
 h.kept hg (fun b hb e=>by have:=(h.lt b hb).1;have:=hlt b e;omega)
theorem Blk.after (h:Blk u b cs t) (hg:u.grownBy u' (ownB A c)) (hne:∀ k,ownB A c=some k→k≠b):Blk u' b cs t :=
 (hg.block b h.lt (fun e=>hne b e.symm rfl)).trans h
end
def TabOk (w:World):Prop:=Lib.TabIs Tryz.prog w "internal/strconv.uint64pow10" .u64 Lib.pow10Tab
theorem tab_named:∃ g,Tryz.prog.globalNamed "internal/strconv.uint64pow10"=some g:=⟨4,by kernel_rfl⟩
theorem TabOk.below {w w':World} (h:TabOk w) (hb:Below w.heap.size w w'):TabOk w':=by
 obtain⟨g,hg⟩:=tab_named
 unfold TabOk Lib.TabIs at h ⊢
 refine var?_below hb hg ?_ h
 unfold World.var? at h
 rw[hg]at h
 simp only[Option.bind_some]at h
 rcases Nat.lt_or_ge g w.heap.size with hlt | hge
 ·exact hlt
 ·rw[Array.getElem?_eq_none hge]at h;simp at h
theorem TabOk.alloc {w:World} (h:TabOk w) (o:Obj):TabOk (w.alloc o):=h.below ((Below.refl _ _).alloc (Nat.le_refl _) _)
theorem itoa_any (n:Int) (h0:-9223372036854775808≤n) (h1:n≤9223372036854775807) (w:World) (ht:TabOk w):Calls Tryz.prog 156 #[.int .i64 n] w (RetS w (B (Lib.itoa n))):=by
 refine (Tryz.strconv_Itoa n h0 h1 w ht).mono ?_
 rintro e w' ⟨rfl,k,os,rfl⟩
 exact⟨rfl,Lib.below_grow _ w (Nat.le_refl _) k os⟩
def lows:Nat→Nat→List UInt8
 | 0,_=>[]
 | n+1,u=>if u=0 then [] else UInt8.ofNat (48+u % 10)::lows n (u / 10)
theorem lows_enough:∀ (n m u:Nat),u≤n→u≤m→lows n u=lows m u
 | 0,0,u,_,_=>rfl
 | 0,m+1,u,h,_=>by
  have:u=0:=by omega
  subst this;rfl
 | n+1,0,u,_,h=>by
  have:u=0:=by omega
  subst this;rfl
 | n+1,m+1,u,h,h'=>by
  unfold lows
  split
  ·rfl
  ·rw[lows_enough n m (u / 10) (by omega) (by omega)]
def low (u:Nat):List UInt8:=lows u u
theorem low_zero:low 0=[]:=rfl
theorem low_pos {u:Nat} (h:0 < u):low u=UInt8.ofNat (48+u % 10)::low (u / 10):=by
 obtain⟨n,rfl⟩:∃ n,u=n+1:=⟨u - 1,by omega⟩
 show lows (n+1) (n+1)=_
 rw[lows,if_neg (by omega),low,lows_enough n ((n+1) / 10) ((n+1) / 10) (by omega) (Nat.le_refl _)]
theorem dec_low:∀ u:Nat,0 < u→Lib.decDigits u=(low u).reverse:=by
 intro u
 induction u using Nat.strongRecOn with
 | ind u ih =>
  intro h
  rw[low_pos h,List.reverse_cons]
  rw[Lib.decDigits]
  split
  ·rename_i h10
   have:u / 10=0:=by omega
   rw[this,low_zero,Nat.mod_eq_of_lt h10];rfl
  ·rw[ih (u / 10) (by omega) (by omega)]
theorem itoa_show (n:Int) (h:n≠0):Lib.itoa n=((low n.natAbs)++(if n < 0 then [45] else [])).reverse:=by
 unfold Lib.itoa
 split
 ·rw[dec_low n.natAbs (by omega)];simp
 ·rw[dec_low n.toNat (by omega)]
  have:n.toNat=n.natAbs:=by omega
  rw[this];simp
end Go.Proofs.YthjeglnkgdpijaaGreatDoor
