/- Rows written over and grown: what an append leaves of the row it began from; several rows of bytes of which no two share a block. What a response's reading tells of sizes, and its three ways. The walks of the document's Show, and the contract of strconv.Itoa. The walks of CopyBytes, Spare and hop's length. The walks of head.whole, head.PrintRequest and of the document's. Conditions: as each theorem states them. -/
import Derived.Lib.AppendZerosOnto
import Derived.Test.YthjeglnkgdpijaaGreatDoorZ25
import Derived.Lib.AppendIntMem
set_option maxHeartbeats 1000000
set_option maxRecDepth 100000
namespace Go.Proofs.YthjeglnkgdpijaaGreatDoor
open Go.RowKit
section
variable {w w' u u':World} {base n c m:Nat} {A:Option Addr} {bs:List UInt8} {r:Option Nat}
theorem bZ.kept (h:bZ w base A n c bs) (hg:w.grownBy w' r) (hr:∀ b,ownB A c=some b→r≠some b):bZ w' base A n c bs:=by
 obtain⟨h1,h2,h3⟩:=h
 refine⟨h1,h2,?_⟩
 rcases h3 with h3 | ⟨g,hA,hB,hlt,hf,hc⟩
 ·exact .inl h3
 ·by_cases hc0:c=0
  ·exact .inl hc0
  ·have hne:r≠some g:=hr g (by subst hA;unfold ownB;rw[if_neg hc0];rfl)
   have hb:w'.heap[g]?=w.heap[g]?:=hg.block g hlt (fun e=>hne e.symm)
   have hcell:∀ j,w'.cell? ⟨g,j,none⟩=w.cell? ⟨g,j,none⟩:=fun j=>World.cell?_of_block (w:=w) (a:=⟨g,j,none⟩) hb
   have hfr:∀ j,w'.frozen? ⟨g,j,none⟩=w.frozen? ⟨g,j,none⟩:=fun j=>by simp [World.frozen?,hb]
   exact .inr ⟨g,hA,hB,Nat.lt_of_lt_of_le hlt hg.size,fun j hj=>⟨by rw[hcell];exact (hf j hj).1,by rw[hfr];exact (hf j hj).2⟩,fun j v hv=>(hcell j).trans (hc j v hv)⟩
theorem bZ.front {xs:List UInt8} (h:bZ w base A n c xs) (hm:m≤n):bZ w base A m c (xs.take m):=by
 obtain⟨h1,h2,h3⟩:=h
 refine⟨by rw[List.length_take];omega,by omega,?_⟩
 rcases h3 with h3 | ⟨g,hA,hB,hlt,hf,hc⟩
 ·exact .inl h3
 ·refine .inr ⟨g,hA,hB,hlt,hf,fun j v hv=>hc j v ?_⟩
  unfold aB at hv ⊢
  rw[List.map_take,List.getElem?_take]at hv
  split at hv
  ·exact hv
  ·cases hv
theorem aT (w:World) (g j:Nat) (v:Value):w.grownBy (w.setCell ⟨g,j,none⟩ v) (some g) :=
 ⟨rfl,rfl,rfl,by simp [World.setCell],fun k _ hne=>by
  unfold World.setCell
  simp only[Array.getElem?_modify]
  rw[if_neg (fun e=>hne (by rw[e]))]⟩
theorem bZ.set {g:Nat} (h:bZ w base (some ⟨g,0,none⟩) n c bs) {j:Nat} (hj:j < n) (x:UInt8):bZ (w.setCell ⟨g,j,none⟩ (.int .u8 x.toNat)) base (some ⟨g,0,none⟩) n c (bs.set j x):=by
 obtain⟨h1,h2,h3⟩:=h
 refine⟨by rw[List.length_set];exact h1,h2,?_⟩
 rcases h3 with h3 | ⟨g',hA,hB,hlt,hf,hc⟩
 ·omega
 ·cases hA
  have hsome:∀ i,i < [Value.int .u8 x.toNat].length→(w.cell? ⟨g,j+i,none⟩).isSome=true:=fun i hi=>by
   have:i=0:=by simpa using hi
   subst this
   exact (hf j (by omega)).1
  have e:w.setCell ⟨g,j,none⟩ (.int .u8 x.toNat)=w.setCells g j [Value.int .u8 x.toNat]:=rfl
  have hin:(w.setCell ⟨g,j,none⟩ (.int .u8 x.toNat)).cell? ⟨g,j,none⟩=some (.int .u8 x.toNat):=by
   have:=World.cell?_setCells_in g [Value.int .u8 x.toNat] j w hsome 0 (by simp)
   rw[e]
   simpa using this
  have hout:∀ i,i≠j→(w.setCell ⟨g,j,none⟩ (.int .u8 x.toNat)).cell? ⟨g,i,none⟩=w.cell? ⟨g,i,none⟩:=fun i hi=>by
   rw[e]
   refine World.cell?_setCells_out g [Value.int .u8 x.toNat] j w ⟨g,i,none⟩ (fun _ _=>?_)
   simp only[List.length_cons,List.length_nil]
   omega
  have hfr:∀ i,(w.setCell ⟨g,j,none⟩ (.int .u8 x.toNat)).frozen? ⟨g,i,none⟩=w.frozen? ⟨g,i,none⟩:=fun i=>by
   rw[e]
   exact World.frozen?_setCells ..
  refine .inr ⟨g,rfl,hB,Nat.lt_of_lt_of_le hlt (aT w g j _).size,fun i hi=>⟨?_,?_⟩,fun i v hv=>?_⟩
  ·by_cases hij:i=j
   ·subst hij;rw[hin];rfl
   ·rw[hout i hij];exact (hf i hi).1
  ·rw[hfr];exact (hf i hi).2
  ·unfold aB at hv
   rw[List.map_set]at hv
   by_cases hij:i=j
   ·subst hij
    rw[List.getElem?_set_self (by rw[List.length_map];omega)]at hv
    cases hv
    exact hin
   ·rw[List.getElem?_set_ne (Ne.symm hij)]at hv
    rw[hout i hij]
    exact hc i v hv
end
structure LSt (w0:World) (base k:Nat) (A:Nat→Option Addr) (n c:Nat→Nat) (hb ho:Nat) (f:Nat→List UInt8) (u:World):Prop where
 row:∀ i,i < k→bZ u base (A i) (n i) (c i) (f i)
 cell:∀ i,i < k→u.cell? ⟨hb,ho+i,none⟩=some (.slice (A i) (n i) (c i))
 below:Below base w0 u
 keep:∀ b,b < w0.heap.size→(∀ i,i < k→ownB (A i) (c i)≠some b)→u.heap[b]?=w0.heap[b]?
structure LDis (k:Nat) (A:Nat→Option Addr) (c:Nat→Nat) (hb:Nat):Prop where
 two:∀ i j b,i < k→j < k→j≠i→ownB (A i) (c i)=some b→ownB (A j) (c j)≠some b
 head:∀ i b,i < k→ownB (A i) (c i)=some b→b≠hb
section
variable {w0 u u':World} {base k hb ho:Nat} {A:Nat→Option Addr} {n c:Nat→Nat} {f:Nat→List UInt8}
theorem LSt.under (h:LSt w0 base k A n c hb ho f u) (hk:Below u.heap.size u u') (hz:base≤u.heap.size):LSt w0 base k A n c hb ho f u' :=
 ⟨fun i hi=>(h.row i hi).below hk,fun i hi=>(hk.cell (p:=⟨hb,ho+i,none⟩) (cell_lt (h.cell i hi))).trans (h.cell i hi),aA hz h.below hk,
  fun b hb hn=>(hk.block b (Nat.lt_of_lt_of_le hb h.below.size)).trans (h.keep b hb hn)⟩
theorem LSt.alloc (h:LSt w0 base k A n c hb ho f u) (hz:base≤u.heap.size) (o:Obj):LSt w0 base k A n c hb ho f (u.alloc o):=h.under ((zB _ _).alloc (zA _) _) hz
theorem LSt.turn (h:LSt w0 base k A n c hb ho f u) {i:Nat} {xs:List UInt8} {r:Option Nat} (hg:u.grownBy u' r) (hz:base≤u.heap.size) (hr:∀ b,r=some b→base≤b∧b≠hb)
  (ho':∀ j,j < k→j≠i→∀ b,ownB (A j) (c j)=some b→r≠some b) (hw:∀ b,r=some b→b < w0.heap.size→∃ i,i < k∧ownB (A i) (c i)=some b) (hx:bZ u' base (A i) (n i) (c i) xs):LSt w0 base k A n c hb ho (fun j=>if j=i then xs else f j) u' :=
 ⟨fun j hj=>by
  by_cases e:j=i
  ·subst e;simpa using hx
  ·simp only[if_neg e]
   exact (h.row j hj).kept hg (ho' j hj e),
  fun j hj=>by
   have hlt:=cell_lt (h.cell j hj)
   have hbl:u'.heap[hb]?=u.heap[hb]?:=hg.block hb hlt (fun e=>(hr hb e.symm).2 rfl)
   exact (World.cell?_of_block (w:=u) (a:=⟨hb,ho+j,none⟩) hbl).trans (h.cell j hj),
  h.below.grown hg hz (fun b hb=>(hr b hb).1),
  fun b hb hn=>(hg.block b (Nat.lt_of_lt_of_le hb h.below.size) (fun e=>by
   obtain⟨i,hi,h2⟩:=hw b e.symm hb
   exact hn i hi h2)).trans (h.keep b hb hn)⟩
theorem LSt.same (h:LSt w0 base k A n c hb ho f u) {g:Nat→List UInt8} (e:∀ j,j < k→g j=f j):LSt w0 base k A n c hb ho g u :=
 ⟨fun j hj=>by rw[e j hj];exact h.row j hj,h.cell,h.below,h.keep⟩
theorem LSt.set (h:LSt w0 base k A n c hb ho f u) (hd:LDis k A c hb) {i g j:Nat} (hi:i < k) (hA:A i=some ⟨g,0,none⟩) (hj:j < n i) (hz:base≤u.heap.size) (x:UInt8) :
  LSt w0 base k A n c hb ho (fun t=>if t=i then (f i).set j x else f t) (u.setCell ⟨g,j,none⟩ (.int .u8 x.toNat)):=by
 have hrow:=h.row i hi
 have hcn:c i≠0:=by have:=hrow.2.1;omega
 have hown:ownB (A i) (c i)=some g:=by rw[hA];unfold ownB;rw[if_neg hcn];rfl
 refine h.turn (aT u g j _) hz (fun b e=>?_) (fun t ht hti b hb2 e=>?_) (fun b e _=>⟨i,hi,hown.trans e⟩) ?_
 ·cases e
  exact⟨(hrow.lt g hown).1,hd.head i g hi hown⟩
 ·cases e
  exact hd.two i t g hi ht hti hown hb2
 ·rw[hA]at hrow ⊢
  exact hrow.set hj x
theorem LSt.app (h:LSt w0 base k A n c hb ho f u) (hd:LDis k A c hb) {i j z c2 c3 m:Nat} {A2 A3:Option Addr} {xs news:List UInt8} (hi:i < k) (hz:base≤u.heap.size) (hx:xs.take (n i)=f i)
  (hlt:∀ t b,t < k→ownB (A t) (c t)=some b→b < z) (hbz:hb < z) (h1:bZ u base A2 (n i+j) c2 xs) (hwh:(A2=A i∧c2=c i)∨∀ b,ownB A2 c2=some b→z≤b) (ha:App u u' A2 c2 A3 c3) (h2:bZ u' base A2 (n i+j) c2 xs) (hzu:z≤u.heap.size) (hz0:w0.heap.size≤z) (_hm:bZ u' base A3 m c3 (xs++news)) :
  LSt w0 base k A n c hb ho f u'∧((A3=A i∧c3=c i)∨∀ b,ownB A3 c3=some b→z≤b):=by
 refine⟨?_,?_⟩
 ·have hr:∀ b,ownB A2 c2=some b→base≤b∧b≠hb:=fun b e=>⟨(h1.lt b e).1,by
   rcases hwh with ⟨rfl,rfl⟩ | hw
   ·exact hd.head i b hi e
   ·have:=hw b e;omega⟩
  have ho':∀ t,t < k→t≠i→∀ b,ownB (A t) (c t)=some b→ownB A2 c2≠some b:=fun t ht hti b e e2=>by
   rcases hwh with ⟨rfl,rfl⟩ | hw
   ·exact hd.two i t b hi ht hti e2 e
   ·have:=hw b e2;have:=hlt t b ht e;omega
  have hrow:bZ u' base (A i) (n i) (c i) (f i):=by
   rcases hwh with ⟨rfl,rfl⟩ | hw
   ·have:=h2.front (m:=n i) (by omega)
    rwa [hx]at this
   ·exact (h.row i hi).kept ha.grown (fun b e e2=>by have:=hw b e2;have:=hlt i b hi e;omega)
  have hw':∀ b,ownB A2 c2=some b→b < w0.heap.size→∃ i,i < k∧ownB (A i) (c i)=some b:=fun b e hb2=>by
   rcases hwh with ⟨rfl,rfl⟩ | hw
   ·exact⟨i,hi,e⟩
   ·have:=hw b e;omega
  exact (h.turn ha.grown hz hr ho' hw' hrow).same (fun t _=>by by_cases e:t=i<;>simp [e])
 ·rcases ha.moved with ⟨rfl,rfl⟩ | ⟨g,rfl,hg⟩
  ·exact hwh
  ·refine .inr fun b e=>?_
   unfold ownB at e
   split at e
   ·cases e
   ·simp at e
    omega
end
section
variable {w w' u u':World} {base n c c2 c3 size:Nat} {A A2 A3:Option Addr} {e:TypeId} {xs:List Value} {r:Option Nat}
theorem Row.kept (h:Row w base e size A n c xs) (hg:w.grownBy w' r) (hr:∀ b,ownB A c=some b→r≠some b):Row w' base e size A n c xs:=by
 by_cases hc0:c=0
 ·subst hc0
  have hn:n=0:=by have:=h.cap.1;omega
  subst hn
  exact .inr ⟨rfl,rfl,List.eq_nil_of_length_eq_zero (by have:=h.len;omega)⟩
 ·rcases h with ⟨h1,h2⟩ | h
  ·refine .inl ⟨h1,?_⟩
   rcases h2 with h2 | ⟨g,cap,cur,hv,hg0,hh,rest⟩
   ·exact .inl h2
   ·cases hv
    have hne:r≠some g:=hr g (by unfold ownB;rw[if_neg hc0];rfl)
    have hb:w'.heap[g]?=w.heap[g]?:=hg.block g (Array.getElem?_eq_some_iff.1 hh).1 (fun e=>hne e.symm)
    exact .inr ⟨g,c,cur,rfl,hg0,hb.trans hh,rest⟩
  ·exact .inr h
end
section
variable {u u':World} {base base2 n n2 c c2 size lo hi b:Nat} {A A2:Option Addr} {e:TypeId} {xs:List Value} {bs:List UInt8} {cs:Array Value} {t:TypeId}
theorem Row.after (h:Row u base2 e size A2 n2 c2 xs) (hg:u.grownBy u' (ownB A c)) (hlt:∀ k,ownB A c=some k→k < base2):Row u' base2 e size A2 n2 c2 xs :=
 h.kept hg (fun b hb e=>by have:=(h.lt b hb).1;have:=hlt b e;omega)
theorem bZ.after (h:bZ u base2 A2 n2 c2 bs) (hg:u.grownBy u' (ownB A c)) (hlt:∀ k,ownB A c=some k→k < base2):bZ u' base2 A2 n2 c2 bs :=
 h.kept hg (fun b hb e=>by have:=(h.lt b hb).1;have:=hlt b e;omega)
theorem Blk.after (h:Blk u b cs t) (hg:u.grownBy u' (ownB A c)) (hne:∀ k,ownB A c=some k→k≠b):Blk u' b cs t :=
 (hg.block b h.lt (fun e=>hne b e.symm rfl)).trans h
end
end Go.Proofs.YthjeglnkgdpijaaGreatDoor
namespace Go.Proofs.YthjeglnkgdpijaaGreatDoor
namespace P
open T (Bs)
theorem aH1 (bs:Bs) (s:Nat):(jT bs s).length≤bs.length:=by
 unfold jT gX
 rw[List.length_drop,List.length_take,List.length_drop]
 omega
theorem mW (bs:Bs):F.bulk (response bs).fs≤bs.length∧(response bs).r.size≤bs.length:=by
 have hp:=(lT _ [] (jT bs 0) (zA _) (zF _)).1
 have hb:=aH1 bs 0
 have hl:=aFM bs 0
 have h0:F.bulk []=0:=rfl
 have hz:∀ e:Int,F.bulk (RS.bad e).fs≤bs.length∧(RS.bad e).r.size≤bs.length:=fun e=>⟨zF _,zF _⟩
 unfold response
 split
 ·exact hz _
 ·unfold aE4
  split
  ·exact hz _
  ·split
   ·exact hz _
   ·split
    ·exact hz _
    ·split
     ·exact hz _
     ·refine⟨?_,?_⟩
      ·show F.bulk (parse [] (jT bs 0)).1≤_
       omega
      ·show (B (behind (behind (oV bs 0)))).size≤_
       rw[aEP]
       have h1:=nS (behind (oV bs 0))
       have h2:=nS (oV bs 0)
       omega
end P
open Go.RowKit
def iY (w:World):Prop:=Lib.TabIs Tryz.prog w "internal/strconv.uint64pow10" .u64 Lib.pow10Tab
theorem aIP:∃ g,Tryz.prog.globalNamed "internal/strconv.uint64pow10"=some g:=⟨4,by kernel_rfl⟩
theorem iY.below {w w':World} (h:iY w) (hb:Below w.heap.size w w'):iY w':=by
 obtain⟨g,hg⟩:=aIP
 unfold iY Lib.TabIs at h ⊢
 refine var?_below hb hg ?_ h
 unfold World.var? at h
 rw[hg]at h
 simp only[Option.bind_some]at h
 rcases Nat.lt_or_ge g w.heap.size with hlt | hge
 ·exact hlt
 ·rw[Array.getElem?_eq_none hge]at h;simp at h
theorem iY.alloc {w:World} (h:iY w) (o:Obj):iY (w.alloc o):=h.below ((zB _ _).alloc (zA _) _)
theorem aFJ (n:Int) (h0:-9223372036854775808≤n) (h1:n≤9223372036854775807) (w:World) (ht:iY w):Calls Tryz.prog 156 #[.int .i64 n] w (aEM w (B (Lib.itoa n))):=by
 refine (Tryz.strconv_Itoa n h0 h1 w ht).mono ?_
 rintro e w' ⟨rfl,k,os,rfl⟩
 exact⟨rfl,Lib.below_grow _ w (zA _) k os⟩
def aP0:Nat→Nat→List UInt8
 | 0,_=>[]
 | n+1,u=>if u=0 then [] else UInt8.ofNat (48+u % 10)::aP0 n (u / 10)
theorem uJ:∀ (n m u:Nat),u≤n→u≤m→aP0 n u=aP0 m u
 | 0,0,u,_,_=>rfl
 | 0,m+1,u,h,_=>by
  have:u=0:=by omega
  subst this;rfl
 | n+1,0,u,_,h=>by
  have:u=0:=by omega
  subst this;rfl
 | n+1,m+1,u,h,h'=>by
  unfold aP0
  split
  ·rfl
  ·rw[uJ n m (u / 10) (by omega) (by omega)]
def low (u:Nat):List UInt8:=aP0 u u
theorem aMR:low 0=[]:=rfl
theorem aP1 {u:Nat} (h:0 < u):low u=UInt8.ofNat (48+u % 10)::low (u / 10):=by
 obtain⟨n,rfl⟩:∃ n,u=n+1:=⟨u - 1,by omega⟩
 show aP0 (n+1) (n+1)=_
 rw[aP0,if_neg (by omega),low,uJ n ((n+1) / 10) ((n+1) / 10) (by omega) (zA _)]
theorem aKK:∀ u:Nat,0 < u→Lib.decDigits u=(low u).reverse:=by
 intro u
 induction u using Nat.strongRecOn with
 | ind u ih =>
  intro h
  rw[aP1 h,List.reverse_cons]
  rw[Lib.decDigits]
  split
  ·rename_i h10
   have:u / 10=0:=by omega
   rw[this,aMR,Nat.mod_eq_of_lt h10];rfl
  ·rw[ih (u / 10) (by omega) (by omega)]
theorem aB3 (n:Int) (h:n≠0):Lib.itoa n=((low n.natAbs)++(if n < 0 then [45] else [])).reverse:=by
 unfold Lib.itoa
 split
 ·rw[aKK n.natAbs (by omega)];simp
 ·rw[aKK n.toNat (by omega)]
  have:n.toNat=n.natAbs:=by omega
  rw[this];simp
def marks:List UInt8:=[201,202,203,204,205,206,207,208]
theorem marks_at (k:Nat) (h:k < 8):marks.take (k+1)=marks.take k++[UInt8.ofNat (201+k)]:=by
 have:∀ j:Fin 8,marks.take (j.1+1)=marks.take j.1++[UInt8.ofNat (201+j.1)]:=by decide
 exact this ⟨k,h⟩
theorem aD7 {a b c:World} {r:Option Nat} (h1:Below a.heap.size a b) (h2:b.grownBy c r):a.grownBy c r :=
 ⟨h2.os.trans h1.os,h2.tape.trans h1.tape,h2.output.trans h1.output,bD h1.size h2.size,fun k hk hne=>(h2.block k (Nat.lt_of_lt_of_le hk h1.size) hne).trans (h1.block k hk)⟩
theorem aIF {l:List UInt8} {fs:List FD} {c:Int} (h:F.dJ fs=c) (hc:c≠0):F.iR l fs=[]∧F.dP l fs=c:=by
 have h1:F.dP l fs=c:=by unfold F.dP;rw[if_neg (by rw[h];exact hc),h]
 exact⟨if_neg (by rw[h1];exact hc),h1⟩
theorem aIE {l:List UInt8} {fs:List FD} (h:F.dJ fs=0) (hc:8192 < l.length+(F.lines fs).length+4):F.iR l fs=[]∧F.dP l fs=51:=by
 have h1:F.dP l fs=51:=by unfold F.dP;rw[if_pos h,if_pos hc]
 exact⟨if_neg (by rw[h1];decide),h1⟩
theorem whole_ok {l:List UInt8} {fs:List FD} (h:F.dJ fs=0) (hc:¬ 8192 < l.length+(F.lines fs).length+4):F.iR l fs=l++[13,10]++F.lines fs++[13,10]∧F.dP l fs=0:=by
 have h1:F.dP l fs=0:=by unfold F.dP;rw[if_pos h,if_neg hc]
 exact⟨if_pos h1,h1⟩
theorem aIG (l:ByteArray) (A:Option Addr) (c:Nat) (fs:List FD) (w:World) (hl:l.size≤8589934592) (hf:F.bulk fs≤1073741824) (hx:Rd w A fs.length 2 (aJ fs)) :
  Calls Tryz.prog 155 #[.string l,.slice A fs.length c] w (fM w (F.iR (L l) fs) (F.dP (L l) fs)):=by
 have HP:=aH (print_any A c fs w hf hx)
 have hll:=F.uK fs
 have hn1:(F.lines fs).length≤4294967296:=by omega
 have hlz:=aS l
 rcases F.aBM fs with hp | hp | hp
 ·have HBIG:=aH (fun h=>aIE (l:=L l) hp h)
  have HOK:=aH (fun h=>whole_ok (l:=L l) hp h)
  rw[F.aBN hp,hp]at HP
  have HLZ:=aH hlz
  generalize F.iR (L l) fs=WB at *
  generalize F.dP (L l) fs=WE at *
  obtain⟨T,hT⟩:∃ T,T=B (F.lines fs):=⟨_,rfl⟩
  have hTl:F.lines fs=L T:=by rw[hT];rfl
  obtain⟨N,hN⟩:∃ N,N=T.size:=⟨_,rfl⟩
  have hNl:(L T).length=N:=by rw[hN,aS]
  rw[hTl]at HBIG HOK HP hn1
  rw[hNl]at HBIG HOK hn1
  have HNL:=aH hNl
  have HN:=aH hN
  clear hp hx hll hlz hT hTl hN hNl
  by_cases hbig:8192 < l.size+N+4
  ·have HB:=aH (HBIG.out (by have:=HLZ.out;omega))
   go_enter Tryz.func155,Tryz.ntmps155
   go_wp2_with fail
   refine HP.out.mono ?_
   rintro e w1 ⟨R,d,rfl,hr,hb1⟩
   rw[HNL.out]
   have HB1:=aH hb1
   clear HP hr hb1
   go_wp2
   refine bK (v:=.tuple #[.slice none 0 0,.int .i64 51]) (by simp [results,Tryz.results155,go_sem]) rfl ?_
   exact fM.none_ HB1.out HB.out.1 HB.out.2
  ·have HB:=aH (HOK.out (by have:=HLZ.out;omega))
   go_enter Tryz.func155,Tryz.ntmps155
   go_wp2_with fail
   refine HP.out.mono ?_
   rintro e w1 ⟨R,d,rfl,hr,hb1⟩
   rw[HNL.out]at hr ⊢
   have hcv1:=pF hr.rd d
   rw[B_L]at hcv1
   have hs1:l.size+2≤9223372036854775807:=by omega
   have hs2:l.size+2+T.size≤9223372036854775807:=by have:=HN.out;omega
   have hs3:l.size+2+T.size+2≤9223372036854775807:=by have:=HN.out;omega
   obtain⟨cc,W,hcv2,hcr,hcb⟩:=aAI w1 (l++⟨#[13,10]⟩++T++⟨#[13,10]⟩)
   have HCR:=aH hcr
   have HB1:=aH (pK hb1 hcb)
   have hz1:=hb1.size
   clear HP hr hb1 hcr hcb
   go_wp2
   refine bK (v:=.tuple #[.slice (some ⟨w1.heap.size,0,none⟩) (l++⟨#[13,10]⟩++T++⟨#[13,10]⟩).size cc,.int .i64 0]) (by simp [results,Tryz.results155,go_sem]) rfl ?_
   have hL:L (l++⟨#[13,10]⟩++T++⟨#[13,10]⟩)=WB:=by
    rw[HB.out.1]
    simp only[dG]
    rfl
   have hS:(l++⟨#[13,10]⟩++T++⟨#[13,10]⟩:ByteArray).size=WB.length:=by rw[aS,hL]
   have hr:=HCR.out
   rw[hL,hS]at hr
   rw[HB.out.2,hS]
   exact⟨_,cc,rfl,hr.mono hz1,HB1.out⟩
 all_goals
  have HB:=aH (aIF (l:=L l) hp (by decide))
  rw[F.oJ (by rw[hp];decide),hp]at HP
  generalize F.iR (L l) fs=WB at *
  generalize F.dP (L l) fs=WE at *
  clear hp hx hll hlz hn1
  go_enter Tryz.func155,Tryz.ntmps155
  go_wp2_with fail
  refine HP.out.mono ?_
  rintro e w1 ⟨R,d,rfl,hr,hb1⟩
  have HB1:=aH hb1
  clear HP hr hb1
  go_wp2
  first
  | (refine bK (v:=.tuple #[.slice none 0 0,.int .i64 40]) (by simp [results,Tryz.results155,go_sem]) rfl ?_
     exact fM.none_ HB1.out HB.out.1 HB.out.2)
  | (refine bK (v:=.tuple #[.slice none 0 0,.int .i64 42]) (by simp [results,Tryz.results155,go_sem]) rfl ?_
     exact fM.none_ HB1.out HB.out.1 HB.out.2)
end Go.Proofs.YthjeglnkgdpijaaGreatDoor
