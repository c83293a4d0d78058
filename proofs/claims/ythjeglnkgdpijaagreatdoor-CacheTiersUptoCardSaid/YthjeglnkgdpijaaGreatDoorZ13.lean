/- The walks of CopyBytes, Spare and hop's length. The walk of head.Request. What head.Response computes, as a plain function; what is told of some bytes is told of them with more behind, and a head is told when its last byte has come. Out of the row's list and the shaped world: the two tables of UTF-8, internal/bytealg.MaxLen. Rows written over and grown: what an append leaves of the row it began from; several rows of bytes of which no two share a block. The stand-in disk in memory: which blocks it has, what they hold, what a step may turn. Conditions: as each theorem states them. -/
import Derived.Test.YthjeglnkgdpijaaGreatDoorHeadB
import Derived.Deep.CutBlock
import Derived.Test.YthjeglnkgdpijaaGreatDoorZ20
import Derived.Lib.LaidU8
import Derived.Lib.AppendZerosOnto
import Derived.Shelf.SlMaps.Clone
import Derived.Shelf.SlIter.Sorted
set_option maxHeartbeats 1000000
namespace Go.Proofs.YthjeglnkgdpijaaGreatDoor
open Go.RowKit
def marks:List UInt8:=[201,202,203,204,205,206,207,208]
theorem marks_at (k:Nat) (h:k < 8):marks.take (k+1)=marks.take k++[UInt8.ofNat (201+k)]:=by
 have:∀ j:Fin 8,marks.take (j.1+1)=marks.take j.1++[UInt8.ofNat (201+j.1)]:=by decide
 exact this ⟨k,h⟩
theorem aDG {a b c:World} {r:Option Nat} (h1:Below a.heap.size a b) (h2:b.grownBy c r):a.grownBy c r :=
 ⟨h2.os.trans h1.os,h2.tape.trans h1.tape,h2.output.trans h1.output,bD h1.size h2.size,fun k hk hne=>(h2.block k (Nat.lt_of_lt_of_le hk h1.size) hne).trans (h1.block k hk)⟩
namespace P
theorem aNT (p:UInt8→Bool) (l:List UInt8):(upto p l).length≤l.length:=by have:=iP p l;omega
theorem tC (l:List UInt8):(methodOf l).length≤l.length:=aNT _ _
theorem nD (l:List UInt8):(behind l).length≤l.length:=by
 unfold behind
 rw[List.length_drop]
 have:=iP sp l
 omega
theorem aER (b:List UInt8) (s:Nat):(oC b s).length≤b.length:=by
 unfold oC fZ
 rw[List.length_take,List.length_take,List.length_drop]
 omega
end P
def aNL (w:World) (r:P.RQ) (e:Ending) (w':World):Prop :=
 ∃ A c,e=.returned (.tuple #[.agg #[.string r.m,.string r.t,.int .i64 r.v,.slice A r.fs.length c],.int .i64 r.n,.int .i64 r.e])∧Row w' w.heap.size 60 2 A r.fs.length c (aI r.fs)∧Below w.heap.size w w'
theorem aNL.bad {w w':World} {r:P.RQ} {code:Int} (hb:Below w.heap.size w w') (h:r=.bad code):aNL w r (.returned (.tuple #[.agg #[.string ⟨#[]⟩,.string ⟨#[]⟩,.int .i64 0,.slice none 0 0],.int .i64 0,.int .i64 code])) w':=by
 subst h
 exact⟨none,0,rfl,Row.empty _ _ _ _ _,hb⟩
end Go.Proofs.YthjeglnkgdpijaaGreatDoor
namespace Go.Proofs.YthjeglnkgdpijaaGreatDoor
namespace P
open T (Bs)
structure RS where
 s:Int
 r:ByteArray
 v:Int
 fs:List FD
 n:Int
 e:Int
def RS.bad (e:Int):RS:=⟨0,⟨#[]⟩,0,[],0,e⟩
def lG (l:Bs):Bool:=decide (l.length=3)&&l.all dig
def stat (l:Bs):Int:=l.foldl (fun a c=>a * 10+((c.toNat:Int) - 48)) 0
def aD9 (line block:Bs) (n:Int):RS :=
 if rE (methodOf line)=50∨lG (methodOf (behind line))=false∨F.text (B (behind (behind line)))=false then .bad 50
 else if rE (methodOf line)=0∧(stat (methodOf (behind line)) < 100∨599 < stat (methodOf (behind line))) then .bad 53
 else if rE (methodOf line)≠0 then .bad (rE (methodOf line))
 else if (parse [] block).2≠0 then .bad (parse [] block).2
 else ⟨stat (methodOf (behind line)),B (behind (behind line)),aCF (methodOf line),(parse [] block).1,n,0⟩
def response (b:Bs):RS:=if hE b 0≠0∨hN b 0=0 then .bad (hE b 0) else aD9 (oC b 0) (jI b 0) (hN b 0)
theorem lK (p:UInt8→Bool):∀ (u:Bs) (x:UInt8) (r:Bs),(∀ y∈u,p y=false)→p x=true→upto p (u++x::r)=u∧from_ p (u++x::r)=x::r
 | [],x,r,_,hx=>by simp [upto,from_,hx]
 | y::u,x,r,hu,hx=>by
  have hy:p y=false:=hu y (by simp)
  have:=lK p u x r (fun z hz=>hu z (by simp [hz])) hx
  unfold upto from_ at this ⊢
  simp only[List.cons_append,List.takeWhile_cons,List.dropWhile_cons,hy,Bool.not_false,if_true]
  exact⟨by rw[this.1],this.2⟩
theorem aA7 {s sub:Bs} {j:Nat}:Lib.occAt s sub j=true↔sub=(s.take (j+sub.length)).drop j:=by
 unfold Lib.occAt
 rw[List.isPrefixOf_iff_prefix,List.prefix_iff_eq_take,List.take_drop]
theorem wP {xs ys sub:Bs} {j m:Nat} (h:ys.take m=xs.take m) (hj:j+sub.length≤m):Lib.occAt ys sub j=Lib.occAt xs sub j:=by
 have e:ys.take (j+sub.length)=xs.take (j+sub.length):=by
  have:=congrArg (List.take (j+sub.length)) h
  rwa [List.take_take,List.take_take,Nat.min_eq_left hj]at this
 rw[Bool.eq_iff_iff,aA7,aA7,e]
theorem aDD {xs ys sub:Bs} {i m:Nat} (h:ys.take m=xs.take m) (hi:Lib.index xs sub=(i:Int)) (hm:i+sub.length≤m) (hy:m≤ys.length):Lib.index ys sub=(i:Int):=by
 rcases Lib.index_spec xs sub with ⟨h1,_⟩ | ⟨k,h1,h2,h3,h4⟩
 ·omega
 ·obtain rfl:k=i:=by omega
  refine Lib.index_hit (fun j hj=>?_) (by omega) ?_
  ·rw[wP h (by omega)];exact h4 j hj
  ·rw[wP h hm];exact h3
theorem pG {xs ys:Bs} {m s:Nat} (h:ys.take m=xs.take m):(ys.drop s).take (m - s)=(xs.drop s).take (m - s):=by
 rw[← List.drop_take,← List.drop_take,h]
theorem aIY {b b':Bs} {s i m:Nat} (h:b'.take m=b.take m) (hi:hIdx b s=(i:Int)) (hm:s+i+4≤m) (hb:m≤b'.length):hIdx b' s=(i:Int)∧fZ b' s=fZ b s∧hE b' s=hE b s∧hN b' s=hN b s:=by
 have h0:hIdx b' s=(i:Int):=aDD (m:=m - s) (pG h) hi (by show i+4≤_;omega) (by rw[List.length_drop];omega)
 refine⟨h0,?_,?_,?_⟩
 ·unfold fZ
  rw[h0,hi]
  have e:=congrArg (List.take ((i:Int)+2).toNat) (pG (s:=s) h)
  rwa [List.take_take,List.take_take,Nat.min_eq_left (by omega)]at e
 ·unfold hE
  have hneg:¬ (i:Int) < 0:=by omega
  rw[h0,hi,if_neg hneg,if_neg hneg]
 ·unfold hN
  rw[h0,hi]
theorem aIZ (b:Bs) (s:Nat):hIdx b s < 0∨∃ i:Nat,hIdx b s=(i:Int)∧s+i+4≤b.length:=by
 rcases (by omega:hIdx b s < 0∨0≤hIdx b s) with h | h
 ·exact .inl h
 ·obtain⟨i,j,hi,hr,_⟩:=kZ b s h
  exact .inr ⟨i,hi,hr⟩
theorem hE_no {b:Bs} {s:Nat} (h:hIdx b s < 0):hE b s=if b.length < 8192 then 0 else 51:=if_pos h
theorem hN_no {b:Bs} {s:Nat} (h:hIdx b s < 0):hN b s=0:=if_pos (.inl h)
theorem aCT {b:Bs} (h:hIdx b 0 < 0):response b=.bad (hE b 0):=if_pos (.inr (hN_no h))
end P
open Go.Lib
theorem aL3:Rows.laid_unicode_utf8_first=firstData:=by kernel_rfl
theorem aJ7:(Rows.laid_unicode_utf8_acceptRanges:DataW Unit)=acceptData:=by kernel_rfl
theorem aKR:U8Extra Tryz.prog Tryz.lays260_ren :=
 ⟨by kernel_rfl,by kernel_rfl,by kernel_rfl,by kernel_rfl,by kernel_rfl,by kernel_rfl,by kernel_rfl⟩
theorem u8_of {W:World} {laid:List (String × DataW Unit)} (h:laidMetH Tryz.prog laid W)
  (hm:laid.filter (fun x=>x.1== "unicode/utf8.acceptRanges"||x.1== "unicode/utf8.first")=[("unicode/utf8.acceptRanges",Rows.laid_unicode_utf8_acceptRanges),("unicode/utf8.first",Rows.laid_unicode_utf8_first)]) :
  Lib.Utf8Tabs 1 2 W:=by
 have h1:=h.filter (fun x=>x.1== "unicode/utf8.acceptRanges"||x.1== "unicode/utf8.first")
 rw[hm]at h1
 have h2:laidMet Tryz.prog [("unicode/utf8.acceptRanges",Rows.laid_unicode_utf8_acceptRanges),("unicode/utf8.first",Rows.laid_unicode_utf8_first)] W:=h1
 exact utf8Tabs_of_reads Tryz.lays260 aKR (aL3 ▸ laidMet.reads h2 (by simp)) (aJ7 ▸ laidMet.reads h2 (by simp))
theorem aQA {W:World} {laid:List (String × DataW Unit)} (h:laidMetH Tryz.prog laid W) (hs:W.ShapedOpen Tryz.prog)
  (hm:laid.filter (fun x=>x.1== "unicode/utf8.acceptRanges"||x.1== "unicode/utf8.first")=[("unicode/utf8.acceptRanges",Rows.laid_unicode_utf8_acceptRanges),("unicode/utf8.first",Rows.laid_unicode_utf8_first)]):kP W :=
 ⟨u8_of h hm,Tryz.laysM145.s1_3 W hs⟩
end Go.Proofs.YthjeglnkgdpijaaGreatDoor
namespace Go.Proofs.YthjeglnkgdpijaaGreatDoor
open Go.RowKit
section
variable {w w' u u':World} {base n c m:Nat} {A:Option Addr} {bs:List UInt8} {r:Option Nat}
theorem bQ.kept (h:bQ w base A n c bs) (hg:w.grownBy w' r) (hr:∀ b,ownB A c=some b→r≠some b):bQ w' base A n c bs:=by
 obtain⟨h1,h2,h3⟩:=h
 refine⟨h1,h2,?_⟩
 rcases h3 with h3 | ⟨g,hA,hB,hlt,hf,hc⟩
 ·exact .inl h3
 ·by_cases hc0:c=0
  ·exact .inl hc0
  ·have hne:r≠some g:=hr g (by subst hA;unfold ownB;rw[if_neg hc0];rfl)
   have hb:w'.heap[g]?=w.heap[g]?:=hg.block g hlt (fun e=>hne e.symm)
   have hcell:∀ j,w'.cell? ⟨g,j,none⟩=w.cell? ⟨g,j,none⟩:=fun j=>World.cell?_of_block (w:=w) (a:=⟨g,j,none⟩) hb
   have hfr:∀ j,w'.frozen? ⟨g,j,none⟩=w.frozen? ⟨g,j,none⟩:=fun j=>by simp [World.frozen?,hb]
   exact .inr ⟨g,hA,hB,Nat.lt_of_lt_of_le hlt hg.size,fun j hj=>⟨by rw[hcell];exact (hf j hj).1,by rw[hfr];exact (hf j hj).2⟩,fun j v hv=>(hcell j).trans (hc j v hv)⟩
theorem bQ.front {xs:List UInt8} (h:bQ w base A n c xs) (hm:m≤n):bQ w base A m c (xs.take m):=by
 obtain⟨h1,h2,h3⟩:=h
 refine⟨by rw[List.length_take];omega,by omega,?_⟩
 rcases h3 with h3 | ⟨g,hA,hB,hlt,hf,hc⟩
 ·exact .inl h3
 ·refine .inr ⟨g,hA,hB,hlt,hf,fun j v hv=>hc j v ?_⟩
  unfold aB at hv ⊢
  rw[List.map_take,List.getElem?_take]at hv
  split at hv
  ·exact hv
  ·cases hv
theorem aT (w:World) (g j:Nat) (v:Value):w.grownBy (w.setCell ⟨g,j,none⟩ v) (some g) :=
 ⟨rfl,rfl,rfl,by simp [World.setCell],fun k _ hne=>by
  unfold World.setCell
  simp only[Array.getElem?_modify]
  rw[if_neg (fun e=>hne (by rw[e]))]⟩
theorem bQ.set {g:Nat} (h:bQ w base (some ⟨g,0,none⟩) n c bs) {j:Nat} (hj:j < n) (x:UInt8):bQ (w.setCell ⟨g,j,none⟩ (.int .u8 x.toNat)) base (some ⟨g,0,none⟩) n c (bs.set j x):=by
 obtain⟨h1,h2,h3⟩:=h
 refine⟨by rw[List.length_set];exact h1,h2,?_⟩
 rcases h3 with h3 | ⟨g',hA,hB,hlt,hf,hc⟩
 ·omega
 ·cases hA
  have hsome:∀ i,i < [Value.int .u8 x.toNat].length→(w.cell? ⟨g,j+i,none⟩).isSome=true:=fun i hi=>by
   have:i=0:=by simpa using hi
   subst this
   exact (hf j (by omega)).1
  have e:w.setCell ⟨g,j,none⟩ (.int .u8 x.toNat)=w.setCells g j [Value.int .u8 x.toNat]:=rfl
  have hin:(w.setCell ⟨g,j,none⟩ (.int .u8 x.toNat)).cell? ⟨g,j,none⟩=some (.int .u8 x.toNat):=by
   have:=World.cell?_setCells_in g [Value.int .u8 x.toNat] j w hsome 0 (by simp)
   rw[e]
   simpa using this
  have hout:∀ i,i≠j→(w.setCell ⟨g,j,none⟩ (.int .u8 x.toNat)).cell? ⟨g,i,none⟩=w.cell? ⟨g,i,none⟩:=fun i hi=>by
   rw[e]
   refine World.cell?_setCells_out g [Value.int .u8 x.toNat] j w ⟨g,i,none⟩ (fun _ _=>?_)
   simp only[List.length_cons,List.length_nil]
   omega
  have hfr:∀ i,(w.setCell ⟨g,j,none⟩ (.int .u8 x.toNat)).frozen? ⟨g,i,none⟩=w.frozen? ⟨g,i,none⟩:=fun i=>by
   rw[e]
   exact World.frozen?_setCells ..
  refine .inr ⟨g,rfl,hB,Nat.lt_of_lt_of_le hlt (aT w g j _).size,fun i hi=>⟨?_,?_⟩,fun i v hv=>?_⟩
  ·by_cases hij:i=j
   ·subst hij;rw[hin];rfl
   ·rw[hout i hij];exact (hf i hi).1
  ·rw[hfr];exact (hf i hi).2
  ·unfold aB at hv
   rw[List.map_set]at hv
   by_cases hij:i=j
   ·subst hij
    rw[List.getElem?_set_self (by rw[List.length_map];omega)]at hv
    cases hv
    exact hin
   ·rw[List.getElem?_set_ne (Ne.symm hij)]at hv
    rw[hout i hij]
    exact hc i v hv
end
structure LSt (w0:World) (base k:Nat) (A:Nat→Option Addr) (n c:Nat→Nat) (hb ho:Nat) (f:Nat→List UInt8) (u:World):Prop where
 row:∀ i,i < k→bQ u base (A i) (n i) (c i) (f i)
 cell:∀ i,i < k→u.cell? ⟨hb,ho+i,none⟩=some (.slice (A i) (n i) (c i))
 below:Below base w0 u
 keep:∀ b,b < w0.heap.size→(∀ i,i < k→ownB (A i) (c i)≠some b)→u.heap[b]?=w0.heap[b]?
structure LDis (k:Nat) (A:Nat→Option Addr) (c:Nat→Nat) (hb:Nat):Prop where
 two:∀ i j b,i < k→j < k→j≠i→ownB (A i) (c i)=some b→ownB (A j) (c j)≠some b
 head:∀ i b,i < k→ownB (A i) (c i)=some b→b≠hb
section
variable {w0 u u':World} {base k hb ho:Nat} {A:Nat→Option Addr} {n c:Nat→Nat} {f:Nat→List UInt8}
theorem LSt.under (h:LSt w0 base k A n c hb ho f u) (hk:Below u.heap.size u u') (hz:base≤u.heap.size):LSt w0 base k A n c hb ho f u' :=
 ⟨fun i hi=>(h.row i hi).below hk,fun i hi=>(hk.cell (p:=⟨hb,ho+i,none⟩) (cell_lt (h.cell i hi))).trans (h.cell i hi),aA hz h.below hk,
  fun b hb hn=>(hk.block b (Nat.lt_of_lt_of_le hb h.below.size)).trans (h.keep b hb hn)⟩
theorem LSt.alloc (h:LSt w0 base k A n c hb ho f u) (hz:base≤u.heap.size) (o:Obj):LSt w0 base k A n c hb ho f (u.alloc o):=h.under ((zB _ _).alloc (zA _) _) hz
theorem LSt.turn (h:LSt w0 base k A n c hb ho f u) {i:Nat} {xs:List UInt8} {r:Option Nat} (hg:u.grownBy u' r) (hz:base≤u.heap.size) (hr:∀ b,r=some b→base≤b∧b≠hb)
  (ho':∀ j,j < k→j≠i→∀ b,ownB (A j) (c j)=some b→r≠some b) (hw:∀ b,r=some b→b < w0.heap.size→∃ i,i < k∧ownB (A i) (c i)=some b) (hx:bQ u' base (A i) (n i) (c i) xs):LSt w0 base k A n c hb ho (fun j=>if j=i then xs else f j) u' :=
 ⟨fun j hj=>by
  by_cases e:j=i
  ·subst e;simpa using hx
  ·simp only[if_neg e]
   exact (h.row j hj).kept hg (ho' j hj e),
  fun j hj=>by
   have hlt:=cell_lt (h.cell j hj)
   have hbl:u'.heap[hb]?=u.heap[hb]?:=hg.block hb hlt (fun e=>(hr hb e.symm).2 rfl)
   exact (World.cell?_of_block (w:=u) (a:=⟨hb,ho+j,none⟩) hbl).trans (h.cell j hj),
  h.below.grown hg hz (fun b hb=>(hr b hb).1),
  fun b hb hn=>(hg.block b (Nat.lt_of_lt_of_le hb h.below.size) (fun e=>by
   obtain⟨i,hi,h2⟩:=hw b e.symm hb
   exact hn i hi h2)).trans (h.keep b hb hn)⟩
theorem LSt.same (h:LSt w0 base k A n c hb ho f u) {g:Nat→List UInt8} (e:∀ j,j < k→g j=f j):LSt w0 base k A n c hb ho g u :=
 ⟨fun j hj=>by rw[e j hj];exact h.row j hj,h.cell,h.below,h.keep⟩
theorem LSt.set (h:LSt w0 base k A n c hb ho f u) (hd:LDis k A c hb) {i g j:Nat} (hi:i < k) (hA:A i=some ⟨g,0,none⟩) (hj:j < n i) (hz:base≤u.heap.size) (x:UInt8) :
  LSt w0 base k A n c hb ho (fun t=>if t=i then (f i).set j x else f t) (u.setCell ⟨g,j,none⟩ (.int .u8 x.toNat)):=by
 have hrow:=h.row i hi
 have hcn:c i≠0:=by have:=hrow.2.1;omega
 have hown:ownB (A i) (c i)=some g:=by rw[hA];unfold ownB;rw[if_neg hcn];rfl
 refine h.turn (aT u g j _) hz (fun b e=>?_) (fun t ht hti b hb2 e=>?_) (fun b e _=>⟨i,hi,hown.trans e⟩) ?_
 ·cases e
  exact⟨(hrow.lt g hown).1,hd.head i g hi hown⟩
 ·cases e
  exact hd.two i t g hi ht hti hown hb2
 ·rw[hA]at hrow ⊢
  exact hrow.set hj x
theorem LSt.app (h:LSt w0 base k A n c hb ho f u) (hd:LDis k A c hb) {i j z c2 c3 m:Nat} {A2 A3:Option Addr} {xs news:List UInt8} (hi:i < k) (hz:base≤u.heap.size) (hx:xs.take (n i)=f i)
  (hlt:∀ t b,t < k→ownB (A t) (c t)=some b→b < z) (hbz:hb < z) (h1:bQ u base A2 (n i+j) c2 xs) (hwh:(A2=A i∧c2=c i)∨∀ b,ownB A2 c2=some b→z≤b) (ha:App u u' A2 c2 A3 c3) (h2:bQ u' base A2 (n i+j) c2 xs) (hzu:z≤u.heap.size) (hz0:w0.heap.size≤z) (_hm:bQ u' base A3 m c3 (xs++news)) :
  LSt w0 base k A n c hb ho f u'∧((A3=A i∧c3=c i)∨∀ b,ownB A3 c3=some b→z≤b):=by
 refine⟨?_,?_⟩
 ·have hr:∀ b,ownB A2 c2=some b→base≤b∧b≠hb:=fun b e=>⟨(h1.lt b e).1,by
   rcases hwh with ⟨rfl,rfl⟩ | hw
   ·exact hd.head i b hi e
   ·have:=hw b e;omega⟩
  have ho':∀ t,t < k→t≠i→∀ b,ownB (A t) (c t)=some b→ownB A2 c2≠some b:=fun t ht hti b e e2=>by
   rcases hwh with ⟨rfl,rfl⟩ | hw
   ·exact hd.two i t b hi ht hti e2 e
   ·have:=hw b e2;have:=hlt t b ht e;omega
  have hrow:bQ u' base (A i) (n i) (c i) (f i):=by
   rcases hwh with ⟨rfl,rfl⟩ | hw
   ·have:=h2.front (m:=n i) (by omega)
    rwa [hx]at this
   ·exact (h.row i hi).kept ha.grown (fun b e e2=>by have:=hw b e2;have:=hlt i b hi e;omega)
  have hw':∀ b,ownB A2 c2=some b→b < w0.heap.size→∃ i,i < k∧ownB (A i) (c i)=some b:=fun b e hb2=>by
   rcases hwh with ⟨rfl,rfl⟩ | hw
   ·exact⟨i,hi,e⟩
   ·have:=hw b e;omega
  exact (h.turn ha.grown hz hr ho' hw' hrow).same (fun t _=>by by_cases e:t=i<;>simp [e])
 ·rcases ha.moved with ⟨rfl,rfl⟩ | ⟨g,rfl,hg⟩
  ·exact hwh
  ·refine .inr fun b e=>?_
   unfold ownB at e
   split at e
   ·cases e
   ·simp at e
    omega
end
section
variable {w w' u u':World} {base n c c2 c3 size:Nat} {A A2 A3:Option Addr} {e:TypeId} {xs:List Value} {r:Option Nat}
theorem Row.kept (h:Row w base e size A n c xs) (hg:w.grownBy w' r) (hr:∀ b,ownB A c=some b→r≠some b):Row w' base e size A n c xs:=by
 by_cases hc0:c=0
 ·subst hc0
  have hn:n=0:=by have:=h.cap.1;omega
  subst hn
  exact .inr ⟨rfl,rfl,List.eq_nil_of_length_eq_zero (by have:=h.len;omega)⟩
 ·rcases h with ⟨h1,h2⟩ | h
  ·refine .inl ⟨h1,?_⟩
   rcases h2 with h2 | ⟨g,cap,cur,hv,hg0,hh,rest⟩
   ·exact .inl h2
   ·cases hv
    have hne:r≠some g:=hr g (by unfold ownB;rw[if_neg hc0];rfl)
    have hb:w'.heap[g]?=w.heap[g]?:=hg.block g (Array.getElem?_eq_some_iff.1 hh).1 (fun e=>hne e.symm)
    exact .inr ⟨g,c,cur,rfl,hg0,hb.trans hh,rest⟩
  ·exact .inr h
end
section
variable {u u':World} {base base2 n n2 c c2 size lo hi b:Nat} {A A2:Option Addr} {e:TypeId} {xs:List Value} {bs:List UInt8} {cs:Array Value} {t:TypeId}
theorem Row.after (h:Row u base2 e size A2 n2 c2 xs) (hg:u.grownBy u' (ownB A c)) (hlt:∀ k,ownB A c=some k→k < base2):Row u' base2 e size A2 n2 c2 xs :=
 h.kept hg (fun b hb e=>by have:=(h.lt b hb).1;have:=hlt b e;omega)
theorem bQ.after (h:bQ u base2 A2 n2 c2 bs) (hg:u.grownBy u' (ownB A c)) (hlt:∀ k,ownB A c=some k→k < base2):bQ u' base2 A2 n2 c2 bs :=
 h.kept hg (fun b hb e=>by have:=(h.lt b hb).1;have:=hlt b e;omega)
theorem Blk.after (h:Blk u b cs t) (hg:u.grownBy u' (ownB A c)) (hne:∀ k,ownB A c=some k→k≠b):Blk u' b cs t :=
 (hg.block b h.lt (fun e=>hne b e.symm rfl)).trans h
end
open Go Go.Maps
def Tag (w:World) (k:Nat) (t:TypeId):Prop:=∃ cs l,w.heap[k]?=some (.cells cs t l)
def aNO (w:World) (k:Nat):Prop:=∃ es cl,w.heap[k]?=some (.map es cl)
section
variable {w w':World} {b k m:Nat} {cs:Array Value} {t t' e:TypeId} {r:Option Nat} {A:Option Addr} {base s n c:Nat} {xs:List Value}
theorem Tag.ne (h:Tag w k t) (h':Tag w m t') (hn:t≠t'):k≠m:=by
 rintro rfl
 obtain⟨c1,l1,e1⟩:=h
 obtain⟨c2,l2,e2⟩:=h'
 rw[e1]at e2
 injection e2 with e2
 injection e2 with _ e3
 exact hn e3
theorem Tag.map (h:Tag w k t) (h':aNO w m):k≠m:=by
 rintro rfl
 obtain⟨c1,l1,e1⟩:=h
 obtain⟨c2,l2,e2⟩:=h'
 rw[e1]at e2
 cases e2
theorem Blk.tag (h:Blk w b cs t):Tag w b t:=⟨_,_,h⟩
theorem aF {K:TypeId} {R:Value→Option (DataW Unit × List MemPlace)} {D:DataW Unit} (h:w.ownsMap Tryz.prog K R b n D):aNO w b:=by
 obtain⟨es,cl,hb,_⟩:=h
 exact⟨es,cl,hb⟩
theorem Row.tag (h:Row w base e s A n c xs) (hk:ownB A c=some k):Tag w k e:=by
 unfold ownB at hk
 split at hk
 ·cases hk
 ·rename_i hc
  rcases h with h | h
  ·rcases h.2 with ⟨hv,_⟩ | ⟨g,cap,cur,hv,_,hg,_⟩
   ·injection hv with hA
    rw[hA]at hk
    cases hk
   ·injection hv with hA
    rw[hA]at hk
    obtain rfl:g=k:=by simpa using hk
    exact⟨_,_,hg⟩
  ·exact absurd h.2.1 hc
theorem Blk.keptG (h:Blk w b cs t) (hg:w.grownBy w' r) (hne:r≠some b):Blk w' b cs t:=(hg.block b h.lt (fun e=>hne e.symm)).trans h
theorem Row.keptG (h:Row w base e s A n c xs) (hg:w.grownBy w' r) (hne:∀ k,ownB A c=some k→r≠some k):Row w' base e s A n c xs:=by
 by_cases hc:c=0
 ·have hn:=h.cap.1
  have hn0:n=0:=by omega
  subst hn0
  exact .inr ⟨rfl,hc,List.eq_nil_of_length_eq_zero (by have:=h.len;simpa using this)⟩
 ·rcases h with h | h
  ·refine .inl (h.kept (row:=r) hg ?_)
   cases A with
   | none=>exact .inl rfl
   | some a =>
    refine .inr fun e=>hne a.block (by unfold ownB;rw[if_neg hc];rfl) ?_
    rw[← e]
    rfl
  ·exact .inr h
end
def aFC {α β:Type} (R:α→β→Prop):List α→List β→Prop
 | [],[]=>True
 | a::l,b::m=>R a b∧aFC R l m
 | _,_=>False
theorem aFC.imp {α β:Type} {R S:α→β→Prop}:∀ {l:List α} {m:List β},aFC R l m→(∀ a b,R a b→S a b)→aFC S l m
 | [],[],_,_=>trivial
 | _::_,_::_,h,hi=>⟨hi _ _ h.1,h.2.imp hi⟩
theorem aFC.len {α β:Type} {R:α→β→Prop}:∀ {l:List α} {m:List β},aFC R l m→l.length=m.length
 | [],[],_=>rfl
 | _::_,_::_,h=>by rw[List.length_cons,List.length_cons,aFC.len h.2]
theorem aFC.snoc {α β:Type} {R:α→β→Prop}:∀ {l:List α} {m:List β} {a:α} {b:β},aFC R l m→R a b→aFC R (l++[a]) (m++[b])
 | [],[],_,_,_,h=>⟨h,trivial⟩
 | _::_,_::_,_,_,h,hr=>⟨h.1,h.2.snoc hr⟩
structure DM where
 d:Nat
 mN:Nat
 mS:Nat
 PA:Option Addr
 pc:Nat
 pv:List Value
 fa:Nat→Nat
 da:Nat→Option Addr
 dc:Nat→Nat
 FA:Option Addr
 fc:Nat
def qJ (w:World) (B:Nat) (fa:Nat→Nat):D.Chg→Value→Prop
 | .put nm no,v=>∃ bf bn,v=.func (.func 134) #[] #[.pointer (some ⟨bf,0,none⟩),.pointer (some ⟨bn,0,none⟩)]∧B≤bf∧B≤bn ∧
   Blk w bf #[.pointer (some ⟨fa no,0,none⟩)] 98∧Blk w bn #[.string nm] 9
 | .del nm,v=>∃ bn,v=.func (.func 114) #[] #[.pointer (some ⟨bn,0,none⟩)]∧B≤bn∧Blk w bn #[.string nm] 9
 | .ren a b no,v=>∃ ba bf bb,v=.func (.func 141) #[] #[.pointer (some ⟨ba,0,none⟩),.pointer (some ⟨bf,0,none⟩),.pointer (some ⟨bb,0,none⟩)]∧B≤ba∧B≤bf∧B≤bb ∧
   Blk w ba #[.string a] 9∧Blk w bf #[.pointer (some ⟨fa no,0,none⟩)] 98∧Blk w bb #[.string b] 9
def fH (l:List Int):List Value:=l.map fun z=>.int .i64 z
structure aQ4 (B:Nat) (M:DM) (s:D.Dsk) (no:Nat) (w:World):Prop where
 blk:Blk w (M.fa no) #[.int .i64 no,.slice (M.da no) (s.size no) (M.dc no),.int .i64 (s.firm.getD no 0:Nat)] 100
 row:Row w B 5 1 (M.da no) (s.size no) (M.dc no) (aB (s.data.getD no []))
 ge:B≤M.fa no
structure bU (B:Nat) (M:DM) (s:D.Dsk) (w:World):Prop where
 blk:Blk w M.d #[.map (some M.mN),.map (some M.mS),.slice M.PA s.pend.length M.pc,.int .i64 s.data.length,.int .i64 s.room,.slice M.FA s.fails.length M.fc,.int .i64 s.power,.int .i64 s.n] 95
 now:w.ownsMap Tryz.prog 9 D.iM M.mN s.now.length (D.datum M.fa s.now)
 safe:w.ownsMap Tryz.prog 9 D.iM M.mS s.safe.length (D.datum M.fa s.safe)
 ne:M.mN≠M.mS
 pend:Row w B 200 1 M.PA s.pend.length M.pc M.pv
 chg:aFC (qJ w B M.fa) s.pend M.pv
 fails:Row w B 3 1 M.FA s.fails.length M.fc (fH s.fails)
 files:∀ no,no < s.data.length→aQ4 B M s no w
 apart:∀ i j,i < s.data.length→j < s.data.length→i≠j→M.fa i≠M.fa j∧∀ k,ownB (M.da i) (M.dc i)=some k→ownB (M.da j) (M.dc j)≠some k
 ge:B≤M.d∧B≤M.mN∧B≤M.mS
def DM.foot (M:DM) (s:D.Dsk) (k:Nat):Prop:=k=M.d∨k=M.mN∨k=M.mS∨ownB M.PA M.pc=some k∨∃ no,no < s.data.length∧(k=M.fa no∨ownB (M.da no) (M.dc no)=some k)
structure Stepped (M:DM) (s:D.Dsk) (w:World) (M':DM) (s':D.Dsk) (w':World):Prop where
 os:w'.os=w.os
 tape:w'.tape=w.tape
 output:w'.output=w.output
 size:w.heap.size≤w'.heap.size
 block:∀ k,k < w.heap.size→¬ M.foot s k→w'.heap[k]?=w.heap[k]?
 foot:∀ k,M'.foot s' k→M.foot s k∨w.heap.size≤k
 same:M'.d=M.d
theorem Stepped.refl (M:DM) (s:D.Dsk) (w:World):Stepped M s w M s w:=⟨rfl,rfl,rfl,zA _,fun _ _ _=>rfl,fun _ h=>.inl h,rfl⟩
theorem Stepped.trans {M1 M2 M3:DM} {s1 s2 s3:D.Dsk} {w1 w2 w3:World} (h:Stepped M1 s1 w1 M2 s2 w2) (k:Stepped M2 s2 w2 M3 s3 w3):Stepped M1 s1 w1 M3 s3 w3 :=
 ⟨k.os.trans h.os,k.tape.trans h.tape,k.output.trans h.output,bD h.size k.size,fun i hi hn=>(k.block i (Nat.lt_of_lt_of_le hi h.size) (fun hf=>by
  rcases h.foot i hf with h1 | h1
  ·exact hn h1
  ·omega)).trans (h.block i hi hn),fun i hf=>by
  rcases k.foot i hf with h1 | h1
  ·exact h.foot i h1
  ·exact .inr (bD h.size h1),k.same.trans h.same⟩
theorem Stepped.below {M:DM} {s:D.Dsk} {w w':World} (h:Below w.heap.size w w'):Stepped M s w M s w':=⟨h.os,h.tape,h.output,h.size,fun k hk _=>h.block k hk,fun _ h=>.inl h,rfl⟩
section
variable {B:Nat} {M:DM} {s:D.Dsk} {w w':World} {r:Option Nat}
theorem qJ.kept {fa:Nat→Nat} {c:D.Chg} {v:Value} (h:qJ w B fa c v) (hg:w.grownBy w' r) (hne:∀ k t,r=some k→Tag w k t→t≠98∧t≠9):qJ w' B fa c v:=by
 have hb:∀ {b:Nat} {cs:Array Value} {t:TypeId},(t=98∨t=9)→Blk w b cs t→Blk w' b cs t:=fun ht hb=>hb.keptG hg (fun e=>by
  have:=hne _ _ e hb.tag
  rcases ht with rfl | rfl
  ·exact this.1 rfl
  ·exact this.2 rfl)
 cases c with
 | put nm no =>
  obtain⟨bf,bn,h1,h2,h3,h4,h5⟩:=h
  exact⟨bf,bn,h1,h2,h3,hb (.inl rfl) h4,hb (.inr rfl) h5⟩
 | del nm =>
  obtain⟨bn,h1,h2,h3⟩:=h
  exact⟨bn,h1,h2,hb (.inr rfl) h3⟩
 | ren a b no =>
  obtain⟨ba,bf,bb,h1,h2,h3,h4,h5,h6,h7⟩:=h
  exact⟨ba,bf,bb,h1,h2,h3,h4,hb (.inr rfl) h5,hb (.inl rfl) h6,hb (.inr rfl) h7⟩
theorem bU.below (h:bU B M s w) (hb:Below w.heap.size w w'):bU B M s w':=by
 have hg:w.grownBy w' none:=⟨hb.os,hb.tape,hb.output,hb.size,fun k hk _=>hb.block k hk⟩
 exact⟨h.blk.below hb,h.now.kept hg (by simp),h.safe.kept hg (by simp),h.ne,h.pend.below hb,h.chg.imp (fun c v hc=>hc.kept hg (fun k t e=>by cases e)),h.fails.below hb,
  fun no hn=>⟨(h.files no hn).blk.below hb,(h.files no hn).row.below hb,(h.files no hn).ge⟩,h.apart,h.ge⟩
theorem bU.cells (h:bU B M s w):w.cell? ⟨M.d,0,none⟩=some (.map (some M.mN))∧w.cell? ⟨M.d,1,none⟩=some (.map (some M.mS))∧w.cell? ⟨M.d,2,none⟩=some (.slice M.PA s.pend.length M.pc)∧w.cell? ⟨M.d,3,none⟩=some (.int .i64 s.data.length) ∧
  w.cell? ⟨M.d,4,none⟩=some (.int .i64 s.room)∧w.cell? ⟨M.d,5,none⟩=some (.slice M.FA s.fails.length M.fc)∧w.cell? ⟨M.d,6,none⟩=some (.int .i64 s.power)∧w.cell? ⟨M.d,7,none⟩=some (.int .i64 s.n) :=
 ⟨h.blk.cell 0 rfl,h.blk.cell 1 rfl,h.blk.cell 2 rfl,h.blk.cell 3 rfl,h.blk.cell 4 rfl,h.blk.cell 5 rfl,h.blk.cell 6 rfl,h.blk.cell 7 rfl⟩
theorem bU.count (h:bU B M s w) (n:Int):bU B M { s with n:=n } (w.setCell ⟨M.d,7,none⟩ (.int .i64 n)):=by
 have hg:=aT w M.d 7 (.int .i64 n)
 have hT:=h.blk.tag
 have hne:∀ k t,some M.d=some k→Tag w k t→t≠98∧t≠9:=fun k t e ht=>by
  cases e
  obtain⟨c1,l1,e1⟩:=hT
  obtain⟨c2,l2,e2⟩:=ht
  rw[e1]at e2
  injection e2 with e2
  injection e2 with _ e3
  subst e3
  decide
 refine⟨h.blk.set 7 _,h.now.kept hg (fun e=>hT.map (aF h.now) (by simpa using e.symm)),h.safe.kept hg (fun e=>hT.map (aF h.safe) (by simpa using e.symm)),h.ne,
  h.pend.keptG hg (fun k hk e=>(hT.ne (h.pend.tag hk) (by decide)) (by simpa using e)),h.chg.imp (fun c v hc=>hc.kept hg hne),h.fails.keptG hg (fun k hk e=>(hT.ne (h.fails.tag hk) (by decide)) (by simpa using e)),
  fun no hn=>⟨(h.files no hn).blk.keptG hg (fun e=>(hT.ne (h.files no hn).blk.tag (by decide)) (by simpa using e)),(h.files no hn).row.keptG hg (fun k hk e=>(hT.ne ((h.files no hn).row.tag hk) (by decide)) (by simpa using e)),(h.files no hn).ge⟩,
  h.apart,h.ge⟩
theorem Stepped.set {M:DM} {s s':D.Dsk} {w:World} {i:Nat} {x:Value} (hs:s'.data.length=s.data.length):Stepped M s w M s' (w.setCell ⟨M.d,i,none⟩ x) :=
 ⟨rfl,rfl,rfl,by rw[World.size_setCell];exact zA _,fun k _ hn=>by
  unfold World.setCell
  simp only[Array.getElem?_modify]
  rw[if_neg (fun e=>hn (.inl e.symm))],fun k hf=>.inl (by unfold DM.foot at *;rw[hs]at hf;exact hf),rfl⟩
end
open Go.Sort Go.Shelf
def Tryz.renKD:Go.Shelf.Ren:=⟨fun | 7=>110 | 10=>142 | n=>n,fun | 0=>0 | 3=>98 | 4=>4 | 23=>91 | 26=>9 | 27=>161 | 28=>162 | 33=>77 | n=>n,fun n=>n⟩
theorem Tryz.keysD:SlLaysZ.n7 Tryz.prog Tryz.renKD:={
 mixed:=by kernel_rfl,
 f7:=⟨Tryz.f110.name,by decide,Tryz.func110.trans (congrArg some (by kernel_rfl))⟩,
 f10:=⟨Tryz.f142.name,by decide,Tryz.func142.trans (congrArg some (by kernel_rfl))⟩,
 t0:=Tryz.underlying0,a0:=Tryz.isAgg0,z0:=Tryz.sizeOf0,v0:=Tryz.zeroValue0,
 t4:=Tryz.underlying4,a4:=Tryz.isAgg4,z4:=Tryz.sizeOf4,v4:=Tryz.zeroValue4,
 t23:=Tryz.underlying91,a23:=Tryz.isAgg91,z23:=Tryz.sizeOf91,v23:=Tryz.zeroValue91,
 t26:=Tryz.underlying9,a26:=Tryz.isAgg9,z26:=Tryz.sizeOf9,v26:=Tryz.zeroValue9,
 t27:=Tryz.underlying161,a27:=Tryz.isAgg161,z27:=Tryz.sizeOf161,v27:=Tryz.zeroValue161,
 t28:=Tryz.underlying162,a28:=Tryz.isAgg162,z28:=Tryz.sizeOf162,v28:=Tryz.zeroValue162,
 t33:=Tryz.underlying77,a33:=Tryz.isAgg77,z33:=Tryz.sizeOf77,v33:=Tryz.zeroValue77
}
def Tryz.renKT:Go.Shelf.Ren:=⟨fun | 7=>99 | 10=>137 | n=>n,fun | 0=>0 | 3=>3 | 4=>4 | 23=>106 | 26=>9 | 27=>161 | 28=>162 | 33=>77 | n=>n,fun n=>n⟩
theorem Tryz.keysT:SlLaysZ.n7 Tryz.prog Tryz.renKT:={
 mixed:=by kernel_rfl,
 f7:=⟨Tryz.f99.name,by decide,Tryz.func99.trans (congrArg some (by kernel_rfl))⟩,
 f10:=⟨Tryz.f137.name,by decide,Tryz.func137.trans (congrArg some (by kernel_rfl))⟩,
 t0:=Tryz.underlying0,a0:=Tryz.isAgg0,z0:=Tryz.sizeOf0,v0:=Tryz.zeroValue0,
 t4:=Tryz.underlying4,a4:=Tryz.isAgg4,z4:=Tryz.sizeOf4,v4:=Tryz.zeroValue4,
 t23:=Tryz.underlying106,a23:=Tryz.isAgg106,z23:=Tryz.sizeOf106,v23:=Tryz.zeroValue106,
 t26:=Tryz.underlying9,a26:=Tryz.isAgg9,z26:=Tryz.sizeOf9,v26:=Tryz.zeroValue9,
 t27:=Tryz.underlying161,a27:=Tryz.isAgg161,z27:=Tryz.sizeOf161,v27:=Tryz.zeroValue161,
 t28:=Tryz.underlying162,a28:=Tryz.isAgg162,z28:=Tryz.sizeOf162,v28:=Tryz.zeroValue162,
 t33:=Tryz.underlying77,a33:=Tryz.isAgg77,z33:=Tryz.sizeOf77,v33:=Tryz.zeroValue77
}
def Tryz.renS:Go.Shelf.Ren:=⟨fun | 6=>98 | 8=>136 | 9=>63 | 11=>170 | n=>n,fun | 0=>0 | 24=>55 | 26=>9 | 28=>162 | 33=>77 | n=>n,fun n=>n⟩
theorem Tryz.sortedL:SlLaysZ.n6 Tryz.prog Tryz.renS:={
 mixed:=by kernel_rfl,
 f6:=⟨Tryz.f98.name,by decide,Tryz.func98.trans (congrArg some (by kernel_rfl))⟩,
 f8:=⟨Tryz.f136.name,by decide,Tryz.func136.trans (congrArg some (by kernel_rfl))⟩,
 f11:=⟨Tryz.f170.name,by decide,Tryz.func170.trans (congrArg some (by kernel_rfl))⟩,
 t0:=Tryz.underlying0,a0:=Tryz.isAgg0,z0:=Tryz.sizeOf0,v0:=Tryz.zeroValue0,
 t24:=Tryz.underlying55,a24:=Tryz.isAgg55,z24:=Tryz.sizeOf55,v24:=Tryz.zeroValue55,
 t26:=Tryz.underlying9,a26:=Tryz.isAgg9,z26:=Tryz.sizeOf9,v26:=Tryz.zeroValue9,
 t28:=Tryz.underlying162,a28:=Tryz.isAgg162,z28:=Tryz.sizeOf162,v28:=Tryz.zeroValue162,
 i26:=Tryz.infoS
}
def Tryz.renC:Go.Shelf.Ren:=⟨fun | 5=>50 | 7=>89 | n=>n,fun | 3=>98 | 4=>4 | 20=>20 | 23=>91 | 25=>9 | n=>n,fun n=>n⟩
theorem Tryz.cloneD:SlLaysW.n5 Tryz.prog Tryz.renC:={
 mixed:=by kernel_rfl,
 f5:=⟨Tryz.f50.name,by decide,Tryz.func50.trans (congrArg some (by kernel_rfl))⟩,
 f7:=Tryz.func89.trans (congrArg some (by kernel_rfl)),
 t4:=Tryz.underlying4,a4:=Tryz.isAgg4,z4:=Tryz.sizeOf4,v4:=Tryz.zeroValue4,
 t20:=Tryz.underlying20,a20:=Tryz.isAgg20,z20:=Tryz.sizeOf20,v20:=Tryz.zeroValue20,
 t23:=Tryz.underlying91,a23:=Tryz.isAgg91,z23:=Tryz.sizeOf91,v23:=Tryz.zeroValue91
}
theorem sZ {w0 w':World} {v:Value} {ss:List (List UInt8)} {l:List ByteArray} (hss:ss.mergeSort (fun x y=>decide (x≤y))=l.map L) (hln:ss.length=l.length)
  (hrow:w'.ownsRow w0.heap.size 9 1 v ss.length ((ss.mergeSort (fun x y=>decide (x≤y))).map encStr)) (hb:Below w0.heap.size w0 w') :
  dN w0 9 1 l.length (aC l) (.returned v) w':=by
 rw[hss,hln]at hrow
 have e:(l.map L).map encStr=aC l:=by
  rw[List.map_map]
  apply List.map_congr_left
  intro x _
  rfl
 rw[e]at hrow
 rcases hrow.2 with ⟨rfl,h0⟩ | ⟨g,cap,cur,rfl,r⟩
 ·have:l=[]:=List.eq_nil_of_length_eq_zero h0
  subst this
  exact⟨none,0,rfl,Row.none_ _ _ _ _,hb⟩
 ·exact⟨some ⟨g,0,none⟩,cap,rfl,.inl hrow,hb⟩
theorem aEF {fa:Nat→Nat} {l:D.NM} {ss:List (List UInt8)} (h:ss.Perm (strKeys (D.datum fa l))):ss.length=(l.map (·.1)).length:=by
 rw[h.length_eq,D.wS,List.length_map,List.length_map]
theorem aD7 (m:Nat):AnyZ.SortsIn Tryz.prog Tryz.renS Fence.wide m :=
 ⟨fun blk off cap ss W hH hblk hsz=>callsIn_wide.2 (Tryz.slices_Sort_string blk off cap ss W hH hblk hsz),
  fun p cap W=>callsIn_wide.2 (Tryz.slices_Sort_string_none p cap W)⟩
theorem aIV (mb:Option Nat) (w:World):Calls Tryz.prog 110 #[.map mb] w (fun e w'=>e=.returned (.func (.func 142) #[] #[.pointer (some ⟨w.heap.size,0,none⟩)])∧w'=w.alloc (.cells #[.map mb] 91)) :=
 (callsIn_wide (n:=5)).1 (AnyZ.keys_in Tryz.keysD Fence.wide 5 trivial rfl mb w)
theorem aCP {R:Value→Option (DataW Unit × List MemPlace)} (fa:Nat→Nat) (l:D.NM) (k b:Nat) (w:World) (hk:k < w.heap.size) (hm:w.cell? ⟨k,0,none⟩=some (.map (some b))) (h:w.ownsMap Tryz.prog 9 R b l.length (D.datum fa l)) (hu:D.Up l) (hl:l.length≤1073741824) :
  Calls Tryz.prog 98 #[.func (.func 142) #[] #[.pointer (some ⟨k,0,none⟩)]] w (dN w 9 1 (l.map (·.1)).length (aC (l.map (·.1)))):=by
 have hsz:Maps.size (D.datum fa l)=l.length:=by
  unfold D.datum
  rw[Maps.size_eq]
  simp
 have hseq:SeqGives Fence.wide 2 Tryz.prog 142 #[.pointer (some ⟨k,0,none⟩)] encStr (fun ss=>ss.Perm (strKeys (D.datum fa l))) (Maps.size (D.datum fa l)) w :=
  AnyZ.keys_gives (ρ:=Tryz.renKD) { Tryz.keysD with } Fence.wide 2 trivial rfl (by omega) k b l.length (D.datum fa l) w hk hm h
 have cS:=AnyZ.sorted_in Tryz.sortedL Fence.wide 5 trivial trivial trivial trivial rfl (by omega) (aD7 _) (enters_of Tryz.func63 (by kernel_rfl) rfl) 142 #[.pointer (some ⟨k,0,none⟩)] trivial (enters_of Tryz.func142 (by kernel_rfl) rfl) _ _ (by rw[hsz];simp only[maxLen];omega) (by rw[hsz];omega) w hseq
 refine ((callsIn_wide (n:=5)).1 cS).mono ?_
 rintro e w' ⟨v,ss,rfl,hS,hrow,hnil,hb⟩
 exact sZ ((D.tK hu hS).trans (by rw[List.map_map];rfl)) (aEF hS) hrow hb
theorem aIU (mb:Option Nat) (w:World):Calls Tryz.prog 99 #[.map mb] w (fun e w'=>e=.returned (.func (.func 137) #[] #[.pointer (some ⟨w.heap.size,0,none⟩)])∧w'=w.alloc (.cells #[.map mb] 106)) :=
 (callsIn_wide (n:=5)).1 (AnyZ.keys_in Tryz.keysT Fence.wide 5 trivial rfl mb w)
theorem aCO {R:Value→Option (DataW Unit × List MemPlace)} (fa:Nat→Nat) (l:D.NM) (k b:Nat) (w:World) (hk:k < w.heap.size) (hm:w.cell? ⟨k,0,none⟩=some (.map (some b))) (h:w.ownsMap Tryz.prog 9 R b l.length (D.datum fa l)) (hu:D.Up l) (hl:l.length≤1073741824) :
  Calls Tryz.prog 98 #[.func (.func 137) #[] #[.pointer (some ⟨k,0,none⟩)]] w (dN w 9 1 (l.map (·.1)).length (aC (l.map (·.1)))):=by
 have hsz:Maps.size (D.datum fa l)=l.length:=by
  unfold D.datum
  rw[Maps.size_eq]
  simp
 have hseq:SeqGives Fence.wide 2 Tryz.prog 137 #[.pointer (some ⟨k,0,none⟩)] encStr (fun ss=>ss.Perm (strKeys (D.datum fa l))) (Maps.size (D.datum fa l)) w :=
  AnyZ.keys_gives (ρ:=Tryz.renKT) { Tryz.keysT with } Fence.wide 2 trivial rfl (by omega) k b l.length (D.datum fa l) w hk hm h
 have cS:=AnyZ.sorted_in Tryz.sortedL Fence.wide 5 trivial trivial trivial trivial rfl (by omega) (aD7 _) (enters_of Tryz.func63 (by kernel_rfl) rfl) 137 #[.pointer (some ⟨k,0,none⟩)] trivial (enters_of Tryz.func137 (by kernel_rfl) rfl) _ _ (by rw[hsz];simp only[maxLen];omega) (by rw[hsz];omega) w hseq
 refine ((callsIn_wide (n:=5)).1 cS).mono ?_
 rintro e w' ⟨v,ss,rfl,hS,hrow,hnil,hb⟩
 exact sZ ((D.tK hu hS).trans (by rw[List.map_map];rfl)) (aEF hS) hrow hb
theorem xJ (M:DM) (l:D.NM) (b:Nat) (w:World) (h:w.ownsMap Tryz.prog 9 D.iM b l.length (D.datum M.fa l)) :
  Calls Tryz.prog 50 #[.map (some b)] w (fun e w'=>e=.returned (.map (some w.heap.size))∧w'.ownsMap Tryz.prog 9 D.iM w.heap.size l.length (D.datum M.fa l)∧Below w.heap.size w w'∧w.heap.size < w'.heap.size) :=
 (AnyW.maps_Clone_owns Tryz.cloneD 9 D.iM b l.length (D.datum M.fa l) w h).mono fun _ _ ⟨h1,h2,_,h4⟩=>⟨h1,h2,h4,h2.lt⟩
end Go.Proofs.YthjeglnkgdpijaaGreatDoor
