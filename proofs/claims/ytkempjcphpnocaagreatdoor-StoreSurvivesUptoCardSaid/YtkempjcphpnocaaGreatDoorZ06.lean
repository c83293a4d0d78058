/- The walks of utf8.decodeRuneSlow and utf8.DecodeRune at a first byte above 127, in a row of bytes. Conditions: the library's two tables of UTF-8 as its text lays them. Rows written over and grown: what an append leaves of the row it began from; several rows of bytes of which no two share a block. No condition: plain lemmas. -/
import Derived.Shelf.Unicode.DecodeSlow
import Derived.Test.YtkempjcphpnocaaGreatDoorZ00
import Derived.Lib.AppendZerosOnto
namespace Go.Proofs.YtkempjcphpnocaaGreatDoor
open Go.RowKit Go.Lib
set_option maxHeartbeats 4000000 in
set_option maxRecDepth 1000000 in
theorem decodeSlow_any (b o n c:Nat) (x0 x1 x2 x3:Nat) (w:World) (hn:1≤n) (hnm:n≤1099511627776) (l0:x0 < 256) (l1:x1 < 256) (l2:x2 < 256) (l3:x3 < 256) (hb0:128≤x0)
  (k0:w.cell? ⟨b,o,none⟩=some (.int .u8 x0)) (k1:1 < n→w.cell? ⟨b,o+1,none⟩=some (.int .u8 x1)) (k2:2 < n→w.cell? ⟨b,o+2,none⟩=some (.int .u8 x2)) (k3:3 < n→w.cell? ⟨b,o+3,none⟩=some (.int .u8 x3)) (hT:Lib.Utf8Tabs 0 1 w) :
  Calls Tryz.prog 214 #[.slice (some ⟨b,o,none⟩) n c] w fun e w'=>e=.returned (.tuple #[.int .i32 (decodeN n x0 x1 x2 x3).1,.int .i64 (decodeN n x0 x1 x2 x3).2])∧Below w.heap.size w w':=by
 have hz0:(0:Int) < (n:Int):=by omega
 have hz0':¬ ((n:Int) < 1):=by omega
 have hc0:=hT.1 x0 (by omega)
 have hres:firstT x0 < 240→decodeN n x0 x1 x2 x3=slowN n x0 x1 x2 x3 (firstT x0 % 8) (accLo (firstT x0 / 16)) (accHi (firstT x0 / 16)) :=
  fun h=>(Lib.slow_eq _ _ _ _ _ (by omega) (by omega) (by omega) (by omega) h).symm
 have hblt:b < w.heap.size:=cell_lt k0
 have hne:∀ j v,w.cell? ⟨b,j,none⟩=some v→b < w.heap.size:=fun _ _ _=>hblt
 clear hne
 rcases Lib.firstT_cases x0 with hX | hX | hX | hX | hX | hX | hX | hX | hX
 ·exfalso
  unfold firstT at hX
  repeat' split at hX
  all_goals omega
 ·rw[Lib.bad_eq _ _ _ _ _ (by omega) hX]
  rw[hX]at hc0
  clear hres hT hX k1 k2 k3
  go_enter Tryz.func214,Tryz.ntmps214
  go_wp2
  rw[Utf8W.mask241,Utf8W.drop_byte ⟨x0,l0⟩]
  go_ret2
  exact⟨rfl,Below.refl _ _⟩
 all_goals replace hres:=hres (by omega)
 ·rw[hX]at hc0 hres
  have ha0:=(hT.2 0 (by omega)).1
  have ha1:=(hT.2 0 (by omega)).2
  simp only[accLo,accHi,Nat.reduceMul,Nat.reduceAdd,Nat.reduceEqDiff,if_true,if_false,Nat.reduceMod,Nat.reduceDiv]at ha0 ha1 hres
  rw[hres]
  clear hres hT hX
  by_cases hn':n < 2
  ·have hnz:(n:Int) < 2:=by omega
   clear k1 k2 k3
   go_enter Tryz.func214,Tryz.ntmps214
   go_wp2
   all_goals
    go_ret2
    refine⟨?_,(Below.refl _ _).alloc (Nat.le_refl _) _⟩
    unfold slowN
    repeat' split
    all_goals first
     | (exfalso;omega)
     | rfl
     | (simp only[Int.natCast_add,Int.natCast_mul,Int.natCast_emod,Int.natCast_ofNat];rfl)
  ·clear k2 k3
   have hz1:(1:Int) < (n:Int):=by omega
   replace k1:=k1 (by omega)
   go_enter Tryz.func214,Tryz.ntmps214
   go_wp2
   all_goals
    go_ret2
    refine⟨?_,(Below.refl _ _).alloc (Nat.le_refl _) _⟩
    unfold slowN
    repeat' split
    all_goals first
     | (exfalso;omega)
     | rfl
     | (simp only[Int.natCast_add,Int.natCast_mul,Int.natCast_emod,Int.natCast_ofNat];rfl)
 ·rw[hX]at hc0 hres
  have ha0:=(hT.2 1 (by omega)).1
  have ha1:=(hT.2 1 (by omega)).2
  simp only[accLo,accHi,Nat.reduceMul,Nat.reduceAdd,Nat.reduceEqDiff,if_true,if_false,Nat.reduceMod,Nat.reduceDiv]at ha0 ha1 hres
  rw[hres]
  clear hres hT hX
  by_cases hn':n < 3
  ·have hnz:(n:Int) < 3:=by omega
   clear k1 k2 k3
   go_enter Tryz.func214,Tryz.ntmps214
   go_wp2
   all_goals
    go_ret2
    refine⟨?_,(Below.refl _ _).alloc (Nat.le_refl _) _⟩
    unfold slowN
    repeat' split
    all_goals first
     | (exfalso;omega)
     | rfl
     | (simp only[Int.natCast_add,Int.natCast_mul,Int.natCast_emod,Int.natCast_ofNat];rfl)
  ·clear k3
   have hz1:(1:Int) < (n:Int):=by omega
   replace k1:=k1 (by omega)
   have hz2:(2:Int) < (n:Int):=by omega
   replace k2:=k2 (by omega)
   go_enter Tryz.func214,Tryz.ntmps214
   go_wp2
   all_goals
    go_ret2
    refine⟨?_,(Below.refl _ _).alloc (Nat.le_refl _) _⟩
    unfold slowN
    repeat' split
    all_goals first
     | (exfalso;omega)
     | rfl
     | (simp only[Int.natCast_add,Int.natCast_mul,Int.natCast_emod,Int.natCast_ofNat];rfl)
 ·rw[hX]at hc0 hres
  have ha0:=(hT.2 0 (by omega)).1
  have ha1:=(hT.2 0 (by omega)).2
  simp only[accLo,accHi,Nat.reduceMul,Nat.reduceAdd,Nat.reduceEqDiff,if_true,if_false,Nat.reduceMod,Nat.reduceDiv]at ha0 ha1 hres
  rw[hres]
  clear hres hT hX
  by_cases hn':n < 3
  ·have hnz:(n:Int) < 3:=by omega
   clear k1 k2 k3
   go_enter Tryz.func214,Tryz.ntmps214
   go_wp2
   all_goals
    go_ret2
    refine⟨?_,(Below.refl _ _).alloc (Nat.le_refl _) _⟩
    unfold slowN
    repeat' split
    all_goals first
     | (exfalso;omega)
     | rfl
     | (simp only[Int.natCast_add,Int.natCast_mul,Int.natCast_emod,Int.natCast_ofNat];rfl)
  ·clear k3
   have hz1:(1:Int) < (n:Int):=by omega
   replace k1:=k1 (by omega)
   have hz2:(2:Int) < (n:Int):=by omega
   replace k2:=k2 (by omega)
   go_enter Tryz.func214,Tryz.ntmps214
   go_wp2
   all_goals
    go_ret2
    refine⟨?_,(Below.refl _ _).alloc (Nat.le_refl _) _⟩
    unfold slowN
    repeat' split
    all_goals first
     | (exfalso;omega)
     | rfl
     | (simp only[Int.natCast_add,Int.natCast_mul,Int.natCast_emod,Int.natCast_ofNat];rfl)
 ·rw[hX]at hc0 hres
  have ha0:=(hT.2 2 (by omega)).1
  have ha1:=(hT.2 2 (by omega)).2
  simp only[accLo,accHi,Nat.reduceMul,Nat.reduceAdd,Nat.reduceEqDiff,if_true,if_false,Nat.reduceMod,Nat.reduceDiv]at ha0 ha1 hres
  rw[hres]
  clear hres hT hX
  by_cases hn':n < 3
  ·have hnz:(n:Int) < 3:=by omega
   clear k1 k2 k3
   go_enter Tryz.func214,Tryz.ntmps214
   go_wp2
   all_goals
    go_ret2
    refine⟨?_,(Below.refl _ _).alloc (Nat.le_refl _) _⟩
    unfold slowN
    repeat' split
    all_goals first
     | (exfalso;omega)
     | rfl
     | (simp only[Int.natCast_add,Int.natCast_mul,Int.natCast_emod,Int.natCast_ofNat];rfl)
  ·clear k3
   have hz1:(1:Int) < (n:Int):=by omega
   replace k1:=k1 (by omega)
   have hz2:(2:Int) < (n:Int):=by omega
   replace k2:=k2 (by omega)
   go_enter Tryz.func214,Tryz.ntmps214
   go_wp2
   all_goals
    go_ret2
    refine⟨?_,(Below.refl _ _).alloc (Nat.le_refl _) _⟩
    unfold slowN
    repeat' split
    all_goals first
     | (exfalso;omega)
     | rfl
     | (simp only[Int.natCast_add,Int.natCast_mul,Int.natCast_emod,Int.natCast_ofNat];rfl)
 ·rw[hX]at hc0 hres
  have ha0:=(hT.2 3 (by omega)).1
  have ha1:=(hT.2 3 (by omega)).2
  simp only[accLo,accHi,Nat.reduceMul,Nat.reduceAdd,Nat.reduceEqDiff,if_true,if_false,Nat.reduceMod,Nat.reduceDiv]at ha0 ha1 hres
  rw[hres]
  clear hres hT hX
  by_cases hn':n < 4
  ·have hnz:(n:Int) < 4:=by omega
   clear k1 k2 k3
   go_enter Tryz.func214,Tryz.ntmps214
   go_wp2
   all_goals
    go_ret2
    refine⟨?_,(Below.refl _ _).alloc (Nat.le_refl _) _⟩
    unfold slowN
    repeat' split
    all_goals first
     | (exfalso;omega)
     | rfl
     | (simp only[Int.natCast_add,Int.natCast_mul,Int.natCast_emod,Int.natCast_ofNat];rfl)
  ·skip
   have hz1:(1:Int) < (n:Int):=by omega
   replace k1:=k1 (by omega)
   have hz2:(2:Int) < (n:Int):=by omega
   replace k2:=k2 (by omega)
   have hz3:(3:Int) < (n:Int):=by omega
   replace k3:=k3 (by omega)
   go_enter Tryz.func214,Tryz.ntmps214
   go_wp2
   all_goals
    go_ret2
    refine⟨?_,(Below.refl _ _).alloc (Nat.le_refl _) _⟩
    unfold slowN
    repeat' split
    all_goals first
     | (exfalso;omega)
     | rfl
     | (simp only[Int.natCast_add,Int.natCast_mul,Int.natCast_emod,Int.natCast_ofNat];rfl)
 ·rw[hX]at hc0 hres
  have ha0:=(hT.2 0 (by omega)).1
  have ha1:=(hT.2 0 (by omega)).2
  simp only[accLo,accHi,Nat.reduceMul,Nat.reduceAdd,Nat.reduceEqDiff,if_true,if_false,Nat.reduceMod,Nat.reduceDiv]at ha0 ha1 hres
  rw[hres]
  clear hres hT hX
  by_cases hn':n < 4
  ·have hnz:(n:Int) < 4:=by omega
   clear k1 k2 k3
   go_enter Tryz.func214,Tryz.ntmps214
   go_wp2
   all_goals
    go_ret2
    refine⟨?_,(Below.refl _ _).alloc (Nat.le_refl _) _⟩
    unfold slowN
    repeat' split
    all_goals first
     | (exfalso;omega)
     | rfl
     | (simp only[Int.natCast_add,Int.natCast_mul,Int.natCast_emod,Int.natCast_ofNat];rfl)
  ·skip
   have hz1:(1:Int) < (n:Int):=by omega
   replace k1:=k1 (by omega)
   have hz2:(2:Int) < (n:Int):=by omega
   replace k2:=k2 (by omega)
   have hz3:(3:Int) < (n:Int):=by omega
   replace k3:=k3 (by omega)
   go_enter Tryz.func214,Tryz.ntmps214
   go_wp2
   all_goals
    go_ret2
    refine⟨?_,(Below.refl _ _).alloc (Nat.le_refl _) _⟩
    unfold slowN
    repeat' split
    all_goals first
     | (exfalso;omega)
     | rfl
     | (simp only[Int.natCast_add,Int.natCast_mul,Int.natCast_emod,Int.natCast_ofNat];rfl)
 ·rw[hX]at hc0 hres
  have ha0:=(hT.2 4 (by omega)).1
  have ha1:=(hT.2 4 (by omega)).2
  simp only[accLo,accHi,Nat.reduceMul,Nat.reduceAdd,Nat.reduceEqDiff,if_true,if_false,Nat.reduceMod,Nat.reduceDiv]at ha0 ha1 hres
  rw[hres]
  clear hres hT hX
  by_cases hn':n < 4
  ·have hnz:(n:Int) < 4:=by omega
   clear k1 k2 k3
   go_enter Tryz.func214,Tryz.ntmps214
   go_wp2
   all_goals
    go_ret2
    refine⟨?_,(Below.refl _ _).alloc (Nat.le_refl _) _⟩
    unfold slowN
    repeat' split
    all_goals first
     | (exfalso;omega)
     | rfl
     | (simp only[Int.natCast_add,Int.natCast_mul,Int.natCast_emod,Int.natCast_ofNat];rfl)
  ·skip
   have hz1:(1:Int) < (n:Int):=by omega
   replace k1:=k1 (by omega)
   have hz2:(2:Int) < (n:Int):=by omega
   replace k2:=k2 (by omega)
   have hz3:(3:Int) < (n:Int):=by omega
   replace k3:=k3 (by omega)
   go_enter Tryz.func214,Tryz.ntmps214
   go_wp2
   all_goals
    go_ret2
    refine⟨?_,(Below.refl _ _).alloc (Nat.le_refl _) _⟩
    unfold slowN
    repeat' split
    all_goals first
     | (exfalso;omega)
     | rfl
     | (simp only[Int.natCast_add,Int.natCast_mul,Int.natCast_emod,Int.natCast_ofNat];rfl)
set_option maxHeartbeats 1000000 in
set_option maxRecDepth 100000 in
theorem decodeRune_any (b o n c:Nat) (x0 x1 x2 x3:Nat) (w:World) (hn:1≤n) (hnm:n≤1099511627776) (l0:x0 < 256) (l1:x1 < 256) (l2:x2 < 256) (l3:x3 < 256) (hb0:128≤x0)
  (k0:w.cell? ⟨b,o,none⟩=some (.int .u8 x0)) (k1:1 < n→w.cell? ⟨b,o+1,none⟩=some (.int .u8 x1)) (k2:2 < n→w.cell? ⟨b,o+2,none⟩=some (.int .u8 x2)) (k3:3 < n→w.cell? ⟨b,o+3,none⟩=some (.int .u8 x3)) (hT:Lib.Utf8Tabs 0 1 w) :
  Calls Tryz.prog 197 #[.slice (some ⟨b,o,none⟩) n c] w fun e w'=>e=.returned (.tuple #[.int .i32 (decodeN n x0 x1 x2 x3).1,.int .i64 (decodeN n x0 x1 x2 x3).2])∧Below w.heap.size w w':=by
 have HC:=Lib.hid (decodeSlow_any b o n c x0 x1 x2 x3 w hn hnm l0 l1 l2 l3 hb0 k0 k1 k2 k3 hT)
 generalize (decodeN n x0 x1 x2 x3).1=r at *
 generalize (decodeN n x0 x1 x2 x3).2=k at *
 have hz0:(0:Int) < (n:Int):=by omega
 have hge:¬ ((x0:Int) < 128):=by omega
 clear k1 k2 k3 hT
 go_enter Tryz.func197,Tryz.ntmps197
 go_wp2_with fail
 go_loop [8] (fun i=>i=.int .i64 0) (fun _=>0)
 case atStart=>exact rfl
 case round =>
  subst hrel
  go_wp2_with fail
  refine HC.out.mono ?_
  rintro e w' ⟨rfl,hb⟩
  go_wp2
  go_ret2
  exact⟨rfl,hb⟩
end Go.Proofs.YtkempjcphpnocaaGreatDoor
namespace Go.Proofs.YtkempjcphpnocaaGreatDoor
open Go.RowKit
section
variable {w w' u u':World} {base n c m:Nat} {A:Option Addr} {bs:List UInt8} {r:Option Nat}
theorem CRow.kept (h:CRow w base A n c bs) (hg:w.grownBy w' r) (hr:∀ b,ownB A c=some b→r≠some b):CRow w' base A n c bs:=by
 obtain⟨h1,h2,h3⟩:=h
 refine⟨h1,h2,?_⟩
 rcases h3 with h3 | ⟨g,hA,hB,hlt,hf,hc⟩
 ·exact .inl h3
 ·by_cases hc0:c=0
  ·exact .inl hc0
  ·have hne:r≠some g:=hr g (by subst hA;unfold ownB;rw[if_neg hc0];rfl)
   have hb:w'.heap[g]?=w.heap[g]?:=hg.block g hlt (fun e=>hne e.symm)
   have hcell:∀ j,w'.cell? ⟨g,j,none⟩=w.cell? ⟨g,j,none⟩:=fun j=>World.cell?_of_block (w:=w) (a:=⟨g,j,none⟩) hb
   have hfr:∀ j,w'.frozen? ⟨g,j,none⟩=w.frozen? ⟨g,j,none⟩:=fun j=>by simp [World.frozen?,hb]
   exact .inr ⟨g,hA,hB,Nat.lt_of_lt_of_le hlt hg.size,fun j hj=>⟨by rw[hcell];exact (hf j hj).1,by rw[hfr];exact (hf j hj).2⟩,fun j v hv=>(hcell j).trans (hc j v hv)⟩
theorem CRow.front {xs:List UInt8} (h:CRow w base A n c xs) (hm:m≤n):CRow w base A m c (xs.take m):=by
 obtain⟨h1,h2,h3⟩:=h
 refine⟨by rw[List.length_take];omega,by omega,?_⟩
 rcases h3 with h3 | ⟨g,hA,hB,hlt,hf,hc⟩
 ·exact .inl h3
 ·refine .inr ⟨g,hA,hB,hlt,hf,fun j v hv=>hc j v ?_⟩
  unfold bcells at hv ⊢
  rw[List.map_take,List.getElem?_take]at hv
  split at hv
  ·exact hv
  ·cases hv
theorem grown_set (w:World) (g j:Nat) (v:Value):w.grownBy (w.setCell ⟨g,j,none⟩ v) (some g) :=
 ⟨rfl,rfl,rfl,by simp [World.setCell],fun k _ hne=>by
  unfold World.setCell
  simp only[Array.getElem?_modify]
  rw[if_neg (fun e=>hne (by rw[e]))]⟩
theorem CRow.set {g:Nat} (h:CRow w base (some ⟨g,0,none⟩) n c bs) {j:Nat} (hj:j < n) (x:UInt8):CRow (w.setCell ⟨g,j,none⟩ (.int .u8 x.toNat)) base (some ⟨g,0,none⟩) n c (bs.set j x):=by
 obtain⟨h1,h2,h3⟩:=h
 refine⟨by rw[List.length_set];exact h1,h2,?_⟩
 rcases h3 with h3 | ⟨g',hA,hB,hlt,hf,hc⟩
 ·omega
 ·cases hA
  have hsome:∀ i,i < [Value.int .u8 x.toNat].length→(w.cell? ⟨g,j+i,none⟩).isSome=true:=fun i hi=>by
   have:i=0:=by simpa using hi
   subst this
   exact (hf j (by omega)).1
  have e:w.setCell ⟨g,j,none⟩ (.int .u8 x.toNat)=w.setCells g j [Value.int .u8 x.toNat]:=rfl
  have hin:(w.setCell ⟨g,j,none⟩ (.int .u8 x.toNat)).cell? ⟨g,j,none⟩=some (.int .u8 x.toNat):=by
   have:=World.cell?_setCells_in g [Value.int .u8 x.toNat] j w hsome 0 (by simp)
   rw[e]
   simpa using this
  have hout:∀ i,i≠j→(w.setCell ⟨g,j,none⟩ (.int .u8 x.toNat)).cell? ⟨g,i,none⟩=w.cell? ⟨g,i,none⟩:=fun i hi=>by
   rw[e]
   refine World.cell?_setCells_out g [Value.int .u8 x.toNat] j w ⟨g,i,none⟩ (fun _ _=>?_)
   simp only[List.length_cons,List.length_nil]
   omega
  have hfr:∀ i,(w.setCell ⟨g,j,none⟩ (.int .u8 x.toNat)).frozen? ⟨g,i,none⟩=w.frozen? ⟨g,i,none⟩:=fun i=>by
   rw[e]
   exact World.frozen?_setCells ..
  refine .inr ⟨g,rfl,hB,Nat.lt_of_lt_of_le hlt (grown_set w g j _).size,fun i hi=>⟨?_,?_⟩,fun i v hv=>?_⟩
  ·by_cases hij:i=j
   ·subst hij;rw[hin];rfl
   ·rw[hout i hij];exact (hf i hi).1
  ·rw[hfr];exact (hf i hi).2
  ·unfold bcells at hv
   rw[List.map_set]at hv
   by_cases hij:i=j
   ·subst hij
    rw[List.getElem?_set_self (by rw[List.length_map];omega)]at hv
    cases hv
    exact hin
   ·rw[List.getElem?_set_ne (Ne.symm hij)]at hv
    rw[hout i hij]
    exact hc i v hv
end
structure LSt (w0:World) (base k:Nat) (A:Nat→Option Addr) (n c:Nat→Nat) (hb ho:Nat) (f:Nat→List UInt8) (u:World):Prop where
 row:∀ i,i < k→CRow u base (A i) (n i) (c i) (f i)
 cell:∀ i,i < k→u.cell? ⟨hb,ho+i,none⟩=some (.slice (A i) (n i) (c i))
 below:Below base w0 u
 keep:∀ b,b < w0.heap.size→(∀ i,i < k→ownB (A i) (c i)≠some b)→u.heap[b]?=w0.heap[b]?
structure LDis (k:Nat) (A:Nat→Option Addr) (c:Nat→Nat) (hb:Nat):Prop where
 two:∀ i j b,i < k→j < k→j≠i→ownB (A i) (c i)=some b→ownB (A j) (c j)≠some b
 head:∀ i b,i < k→ownB (A i) (c i)=some b→b≠hb
section
variable {w0 u u':World} {base k hb ho:Nat} {A:Nat→Option Addr} {n c:Nat→Nat} {f:Nat→List UInt8}
theorem LSt.under (h:LSt w0 base k A n c hb ho f u) (hk:Below u.heap.size u u') (hz:base≤u.heap.size):LSt w0 base k A n c hb ho f u' :=
 ⟨fun i hi=>(h.row i hi).below hk,fun i hi=>(hk.cell (p:=⟨hb,ho+i,none⟩) (cell_lt (h.cell i hi))).trans (h.cell i hi),below_then hz h.below hk,
  fun b hb hn=>(hk.block b (Nat.lt_of_lt_of_le hb h.below.size)).trans (h.keep b hb hn)⟩
theorem LSt.alloc (h:LSt w0 base k A n c hb ho f u) (hz:base≤u.heap.size) (o:Obj):LSt w0 base k A n c hb ho f (u.alloc o):=h.under ((Below.refl _ _).alloc (Nat.le_refl _) _) hz
theorem LSt.turn (h:LSt w0 base k A n c hb ho f u) {i:Nat} {xs:List UInt8} {r:Option Nat} (hg:u.grownBy u' r) (hz:base≤u.heap.size) (hr:∀ b,r=some b→base≤b∧b≠hb)
  (ho':∀ j,j < k→j≠i→∀ b,ownB (A j) (c j)=some b→r≠some b) (hw:∀ b,r=some b→b < w0.heap.size→∃ i,i < k∧ownB (A i) (c i)=some b) (hx:CRow u' base (A i) (n i) (c i) xs):LSt w0 base k A n c hb ho (fun j=>if j=i then xs else f j) u' :=
 ⟨fun j hj=>by
  by_cases e:j=i
  ·subst e;simpa using hx
  ·simp only[if_neg e]
   exact (h.row j hj).kept hg (ho' j hj e),
  fun j hj=>by
   have hlt:=cell_lt (h.cell j hj)
   have hbl:u'.heap[hb]?=u.heap[hb]?:=hg.block hb hlt (fun e=>(hr hb e.symm).2 rfl)
   exact (World.cell?_of_block (w:=u) (a:=⟨hb,ho+j,none⟩) hbl).trans (h.cell j hj),
  h.below.grown hg hz (fun b hb=>(hr b hb).1),
  fun b hb hn=>(hg.block b (Nat.lt_of_lt_of_le hb h.below.size) (fun e=>by
   obtain⟨i,hi,h2⟩:=hw b e.symm hb
   exact hn i hi h2)).trans (h.keep b hb hn)⟩
theorem LSt.same (h:LSt w0 base k A n c hb ho f u) {g:Nat→List UInt8} (e:∀ j,j < k→g j=f j):LSt w0 base k A n c hb ho g u :=
 ⟨fun j hj=>by rw[e j hj];exact h.row j hj,h.cell,h.below,h.keep⟩
theorem LSt.set (h:LSt w0 base k A n c hb ho f u) (hd:LDis k A c hb) {i g j:Nat} (hi:i < k) (hA:A i=some ⟨g,0,none⟩) (hj:j < n i) (hz:base≤u.heap.size) (x:UInt8) :
  LSt w0 base k A n c hb ho (fun t=>if t=i then (f i).set j x else f t) (u.setCell ⟨g,j,none⟩ (.int .u8 x.toNat)):=by
 have hrow:=h.row i hi
 have hcn:c i≠0:=by have:=hrow.2.1;omega
 have hown:ownB (A i) (c i)=some g:=by rw[hA];unfold ownB;rw[if_neg hcn];rfl
 refine h.turn (grown_set u g j _) hz (fun b e=>?_) (fun t ht hti b hb2 e=>?_) (fun b e _=>⟨i,hi,hown.trans e⟩) ?_
 ·cases e
  exact⟨(hrow.lt g hown).1,hd.head i g hi hown⟩
 ·cases e
  exact hd.two i t g hi ht hti hown hb2
 ·rw[hA]at hrow ⊢
  exact hrow.set hj x
theorem LSt.app (h:LSt w0 base k A n c hb ho f u) (hd:LDis k A c hb) {i j z c2 c3 m:Nat} {A2 A3:Option Addr} {xs news:List UInt8} (hi:i < k) (hz:base≤u.heap.size) (hx:xs.take (n i)=f i)
  (hlt:∀ t b,t < k→ownB (A t) (c t)=some b→b < z) (hbz:hb < z) (h1:CRow u base A2 (n i+j) c2 xs) (hwh:(A2=A i∧c2=c i)∨∀ b,ownB A2 c2=some b→z≤b) (ha:App u u' A2 c2 A3 c3) (h2:CRow u' base A2 (n i+j) c2 xs) (hzu:z≤u.heap.size) (hz0:w0.heap.size≤z) (_hm:CRow u' base A3 m c3 (xs++news)) :
  LSt w0 base k A n c hb ho f u'∧((A3=A i∧c3=c i)∨∀ b,ownB A3 c3=some b→z≤b):=by
 refine⟨?_,?_⟩
 ·have hr:∀ b,ownB A2 c2=some b→base≤b∧b≠hb:=fun b e=>⟨(h1.lt b e).1,by
   rcases hwh with ⟨rfl,rfl⟩ | hw
   ·exact hd.head i b hi e
   ·have:=hw b e;omega⟩
  have ho':∀ t,t < k→t≠i→∀ b,ownB (A t) (c t)=some b→ownB A2 c2≠some b:=fun t ht hti b e e2=>by
   rcases hwh with ⟨rfl,rfl⟩ | hw
   ·exact hd.two i t b hi ht hti e2 e
   ·have:=hw b e2;have:=hlt t b ht e;omega
  have hrow:CRow u' base (A i) (n i) (c i) (f i):=by
   rcases hwh with ⟨rfl,rfl⟩ | hw
   ·have:=h2.front (m:=n i) (by omega)
    rwa [hx]at this
   ·exact (h.row i hi).kept ha.grown (fun b e e2=>by have:=hw b e2;have:=hlt i b hi e;omega)
  have hw':∀ b,ownB A2 c2=some b→b < w0.heap.size→∃ i,i < k∧ownB (A i) (c i)=some b:=fun b e hb2=>by
   rcases hwh with ⟨rfl,rfl⟩ | hw
   ·exact⟨i,hi,e⟩
   ·have:=hw b e;omega
  exact (h.turn ha.grown hz hr ho' hw' hrow).same (fun t _=>by by_cases e:t=i<;>simp [e])
 ·rcases ha.moved with ⟨rfl,rfl⟩ | ⟨g,rfl,hg⟩
  ·exact hwh
  ·refine .inr fun b e=>?_
   unfold ownB at e
   split at e
   ·cases e
   ·simp at e
    omega
end
section
variable {w w' u u':World} {base n c c2 c3 size:Nat} {A A2 A3:Option Addr} {e:TypeId} {xs:List Value} {r:Option Nat}
theorem Row.kept (h:Row w base e size A n c xs) (hg:w.grownBy w' r) (hr:∀ b,ownB A c=some b→r≠some b):Row w' base e size A n c xs:=by
 by_cases hc0:c=0
 ·subst hc0
  have hn:n=0:=by have:=h.cap.1;omega
  subst hn
  exact .inr ⟨rfl,rfl,List.eq_nil_of_length_eq_zero (by have:=h.len;omega)⟩
 ·rcases h with ⟨h1,h2⟩ | h
  ·refine .inl ⟨h1,?_⟩
   rcases h2 with h2 | ⟨g,cap,cur,hv,hg0,hh,rest⟩
   ·exact .inl h2
   ·cases hv
    have hne:r≠some g:=hr g (by unfold ownB;rw[if_neg hc0];rfl)
    have hb:w'.heap[g]?=w.heap[g]?:=hg.block g (Array.getElem?_eq_some_iff.1 hh).1 (fun e=>hne e.symm)
    exact .inr ⟨g,c,cur,rfl,hg0,hb.trans hh,rest⟩
  ·exact .inr h
end
section
variable {u u':World} {base base2 n n2 c c2 size lo hi b:Nat} {A A2:Option Addr} {e:TypeId} {xs:List Value} {bs:List UInt8} {cs:Array Value} {t:TypeId}
theorem Row.after (h:Row u base2 e size A2 n2 c2 xs) (hg:u.grownBy u' (ownB A c)) (hlt:∀ k,ownB A c=some k→k < base2):Row u' base2 e size A2 n2 c2 xs :=
 h.kept hg (fun b hb e=>by have:=(h.lt b hb).1;have:=hlt b e;omega)
theorem CRow.after (h:CRow u base2 A2 n2 c2 bs) (hg:u.grownBy u' (ownB A c)) (hlt:∀ k,ownB A c=some k→k < base2):CRow u' base2 A2 n2 c2 bs :=
 h.kept hg (fun b hb e=>by have:=(h.lt b hb).1;have:=hlt b e;omega)
theorem Blk.after (h:Blk u b cs t) (hg:u.grownBy u' (ownB A c)) (hne:∀ k,ownB A c=some k→k≠b):Blk u' b cs t :=
 (hg.block b h.lt (fun e=>hne b e.symm rfl)).trans h
end
end Go.Proofs.YtkempjcphpnocaaGreatDoor
