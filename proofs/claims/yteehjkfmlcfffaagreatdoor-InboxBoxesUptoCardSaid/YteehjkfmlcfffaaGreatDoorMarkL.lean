/- Rows written over and grown: what an append leaves of the row it began from; several rows of bytes of which no two share a block. No condition: plain lemmas. -/
import Derived.Test.YteehjkfmlcfffaaGreatDoorRowA
import Derived.Lib.AppendZerosOnto
namespace Go.Proofs.YteehjkfmlcfffaaGreatDoor
open Go.RowKit

section
variable {w w' u u' : World} {base n c m : Nat} {A : Option Addr} {bs : List UInt8} {r : Option Nat}
theorem CRow.kept (h : CRow w base A n c bs) (hg : w.grownBy w' r) (hr : ∀ b, ownB A c = some b → r ≠ some b) : CRow w' base A n c bs := by
  obtain ⟨h1, h2, h3⟩ := h
  refine ⟨h1, h2, ?_⟩
  rcases h3 with h3 | ⟨g, hA, hB, hlt, hf, hc⟩
  · exact .inl h3
  · by_cases hc0 : c = 0
    · exact .inl hc0
    · have hne : r ≠ some g := hr g (by subst hA; unfold ownB; rw [if_neg hc0]; rfl)
      have hb : w'.heap[g]? = w.heap[g]? := hg.block g hlt (fun e => hne e.symm)
      have hcell : ∀ j, w'.cell? ⟨g, j, none⟩ = w.cell? ⟨g, j, none⟩ := fun j => World.cell?_of_block (w := w) (a := ⟨g, j, none⟩) hb
      have hfr : ∀ j, w'.frozen? ⟨g, j, none⟩ = w.frozen? ⟨g, j, none⟩ := fun j => by simp [World.frozen?, hb]
      exact .inr ⟨g, hA, hB, Nat.lt_of_lt_of_le hlt hg.size, fun j hj => ⟨by rw [hcell]; exact (hf j hj).1, by rw [hfr]; exact (hf j hj).2⟩, fun j v hv => (hcell j).trans (hc j v hv)⟩
theorem CRow.front {xs : List UInt8} (h : CRow w base A n c xs) (hm : m ≤ n) : CRow w base A m c (xs.take m) := by
  obtain ⟨h1, h2, h3⟩ := h
  refine ⟨by rw [List.length_take]; omega, by omega, ?_⟩
  rcases h3 with h3 | ⟨g, hA, hB, hlt, hf, hc⟩
  · exact .inl h3
  · refine .inr ⟨g, hA, hB, hlt, hf, fun j v hv => hc j v ?_⟩
    unfold bcells at hv ⊢
    rw [List.map_take, List.getElem?_take] at hv
    split at hv
    · exact hv
    · cases hv
theorem grown_set (w : World) (g j : Nat) (v : Value) : w.grownBy (w.setCell ⟨g, j, none⟩ v) (some g) :=
  ⟨rfl, rfl, rfl, by simp [World.setCell], fun k _ hne => by
    unfold World.setCell
    simp only [Array.getElem?_modify]
    rw [if_neg (fun e => hne (by rw [e]))]⟩
theorem CRow.set {g : Nat} (h : CRow w base (some ⟨g, 0, none⟩) n c bs) {j : Nat} (hj : j < n) (x : UInt8) : CRow (w.setCell ⟨g, j, none⟩ (.int .u8 x.toNat)) base (some ⟨g, 0, none⟩) n c (bs.set j x) := by
  obtain ⟨h1, h2, h3⟩ := h
  refine ⟨by rw [List.length_set]; exact h1, h2, ?_⟩
  rcases h3 with h3 | ⟨g', hA, hB, hlt, hf, hc⟩
  · omega
  · cases hA
    have hsome : ∀ i, i < [Value.int .u8 x.toNat].length → (w.cell? ⟨g, j + i, none⟩).isSome = true := fun i hi => by
      have : i = 0 := by simpa using hi
      subst this
      exact (hf j (by omega)).1
    have e : w.setCell ⟨g, j, none⟩ (.int .u8 x.toNat) = w.setCells g j [Value.int .u8 x.toNat] := rfl
    have hin : (w.setCell ⟨g, j, none⟩ (.int .u8 x.toNat)).cell? ⟨g, j, none⟩ = some (.int .u8 x.toNat) := by
      have := World.cell?_setCells_in g [Value.int .u8 x.toNat] j w hsome 0 (by simp)
      rw [e]
      simpa using this
    have hout : ∀ i, i ≠ j → (w.setCell ⟨g, j, none⟩ (.int .u8 x.toNat)).cell? ⟨g, i, none⟩ = w.cell? ⟨g, i, none⟩ := fun i hi => by
      rw [e]
      refine World.cell?_setCells_out g [Value.int .u8 x.toNat] j w ⟨g, i, none⟩ (fun _ _ => ?_)
      simp only [List.length_cons, List.length_nil]
      omega
    have hfr : ∀ i, (w.setCell ⟨g, j, none⟩ (.int .u8 x.toNat)).frozen? ⟨g, i, none⟩ = w.frozen? ⟨g, i, none⟩ := fun i => by
      rw [e]
      exact World.frozen?_setCells ..
    refine .inr ⟨g, rfl, hB, Nat.lt_of_lt_of_le hlt (grown_set w g j _).size, fun i hi => ⟨?_, ?_⟩, fun i v hv => ?_⟩
    · by_cases hij : i = j
      · subst hij; rw [hin]; rfl
      · rw [hout i hij]; exact (hf i hi).1
    · rw [hfr]; exact (hf i hi).2
    · unfold bcells at hv
      rw [List.map_set] at hv
      by_cases hij : i = j
      · subst hij
        rw [List.getElem?_set_self (by rw [List.length_map]; omega)] at hv
        cases hv
        exact hin
      · rw [List.getElem?_set_ne (Ne.symm hij)] at hv
        rw [hout i hij]
        exact hc i v hv
end

section
variable {P : Program} (w : World)
/-- An append leaves the row that it began from as it was, whether it had room or not. -/
theorem run_appC2 (t ty e : TypeId) (i : TypeInfo) (z : Value) (ht : P.underlying t = some (.slice e)) (hi : P.info? e = some i) (hz : i.zero = some z)
    (hsize : i.size = 1) (hby : i.bytes = 1) (hzs : z.cells.size = 1) (hE : e = 5)
    (base : Nat) (A : Option Addr) (n c : Nat) (bs : List UInt8) (hown : CRow w base A n c bs)
    (S : Option Addr) (m d : Nat) (news : List UInt8) (hr : Rd w S m 1 (bcells news)) (h63 : n + m ≤ 4398046511104) (hbase : base ≤ w.heap.size) :
    ∃ A' c' w', (Builtin.append_ #[t, t] ty #[.slice A n c, .slice S m d]).run P w = .ok (.slice A' (n + m) c') w' ∧ CRow w' base A' (n + m) c' (bs ++ news) ∧ App w w' A c A' c' ∧ CRow w' base A n c bs := by
  obtain ⟨A', c', w', hrun, h1, h2⟩ := run_appC (P := P) w t ty e i z ht hi hz hsize hby hzs hE base A n c bs hown S m d news hr h63 hbase
  refine ⟨A', c', w', hrun, h1, h2, ?_⟩
  have hnl : news.length = m := by have := hr.1; simpa [bcells] using this
  have hbl : bs.length = n := hown.1
  rcases Nat.eq_zero_or_pos m with h0 | h0
  · subst h0
    have hrun2 := run_append_nothing (P := P) w t ty e i ht hi A n c hown.2.1 S d
    rw [hrun2] at hrun
    injection hrun with _ hw
    subst hw
    exact hown
  · obtain ⟨hl, hnc, hcase⟩ := id hown
    rcases hcase with hc0 | ⟨g, rfl, hB, hg, hf, hcl⟩
    · subst hc0
      exact ⟨hl, hnc, .inl rfl⟩
    · obtain ⟨b, o, rfl, hlt, hc⟩ := hr.2 h0
      have hnews : ∀ j u, (bcells news)[j]? = some u → w.cell? ((⟨b, o, none⟩ : Addr).add j) = some u := hr.cells _ rfl h0
      have hnl' : (bcells news).length = m := by simp [bcells, hnl]
      by_cases hroom : n + m ≤ c
      · have hrun2 := run_append_room_cells (P := P) w t ty e i ht hi g 0 n c ⟨b, o, none⟩ m d (bcells news) (by rw [hsize, hnl']; omega) hnews (bcells_one news) hroom
          (fun j hj => by rw [hsize, Nat.zero_add, Nat.mul_one]; exact (hf _ (by omega)).1) (fun j hj => by rw [hsize, Nat.zero_add, Nat.mul_one]; exact (hf _ (by omega)).2)
        rw [hrun2] at hrun
        injection hrun with hv _
        injection hv with hA _ hcc
        subst hA
        subst hcc
        have := h1.front (m := n) (by omega)
        rwa [List.take_left' hbl] at this
      · obtain ⟨v', w2, hrun2, h4, h3⟩ := run_append_arg_grows (P := P) w t ty e i z 1 1 ht hi hz hsize hby hzs (by omega) ⟨g, 0, none⟩ n c (bcells bs) (by simp [bcells, hl]) (fun j u hu => by
            have : (⟨g, 0, none⟩ : Addr).add j = ⟨g, 0 + j, none⟩ := by unfold Addr.add; split <;> simp_all
            rw [this, Nat.zero_add]; exact hcl j u hu) ⟨b, o, none⟩ m d (bcells news) (by rw [hnl']; omega) hnews (by omega) (by simp only [maxLen]; omega) (by omega)
        rw [hrun2] at hrun
        injection hrun with _ hw
        subst hw
        exact hown.kept (r := none) ⟨h3.os, h3.tape, h3.output, h3.size, fun k hk _ => h3.block k hk (by simp)⟩ (fun b _ => by simp)
end
section
variable (w : World) {ops : Array Oper} {rest : List Oper} {o : Oper} {a : Act} {Q : Exit → Act → World → Prop}
theorem appC2 (hgd : o.guard = none) (s x : Operand) (ho : o.op = .call { callee := .builtin .append, args := #[s, x], argTypes := #[22, 22] })
    (base : Nat) (A : Option Addr) (n c : Nat) (xs : List UInt8) (hs : a.eval s = .slice A n c) (hown : CRow w base A n c xs)
    (S : Option Addr) (m d : Nat) (news : List UInt8) (hx : a.eval x = .slice S m d) (hr : Rd w S m 1 (bcells news)) (h63 : n + m ≤ 4398046511104) (hbase : base ≤ w.heap.size)
    (h : ∀ A' c' w', CRow w' base A' (n + m) c' (xs ++ news) → App w w' A c A' c' → CRow w' base A n c xs → wpList Tryz.prog ops Q rest (a.put o.dst (.slice A' (n + m) c')) w') : wpList Tryz.prog ops Q (o :: rest) a w :=
  wpList_plain hgd fun K hK => by
    obtain ⟨i0, hi0, hz0, hz1, hz2⟩ := info_parts Tryz.infoB
    obtain ⟨A', c', w', hrun, h2, h3, h4⟩ := run_appC2 (P := Tryz.prog) w 22 o.type 5 i0 _ Tryz.underlying22 hi0 hz0 hz1 hz2 rfl rfl base A n c xs hown S m d news hr h63 hbase
    unfold Oper.wp execOp
    simp only [ho, resolve, invoke, builtin, Sem.run_bind, Sem.run_pure, Result.andThen_ok, List.map_toArray, List.map_cons, List.map_nil, hs, hx, hrun]
    exact hK _ _ (h A' c' w' h2 h3 h4)
end

/-! ### append(s, make([]byte, k)...) -/
section
variable {P : Program} (w : World)
theorem run_append_room_zeros (t tn ty e : TypeId) (i : TypeInfo) (z : Value) (kq kn : IntKind) (ht : P.underlying t = some (.slice e)) (htn : P.underlying tn = some (.int kn)) (hi : P.info? e = some i) (hz : i.zero = some z)
    (b sLen sCap k : Nat) (hk0 : 0 < k) (hs : 0 < i.size) (h63 : (k : Int) ≤ 9223372036854775807) (h48 : k * i.bytes ≤ 281474976710656) (news : List Value) (hnews : (Builtin.zeroCells z.cells k).toList = news) (h1 : ∀ u ∈ news, u.oneCell' = true)
    (hroom : sLen + k ≤ sCap) (hc : ∀ j, j < news.length → (w.cell? ⟨b, 0 + sLen * i.size + j, none⟩).isSome = true) (hf : ∀ j, j < news.length → w.frozen? ⟨b, 0 + sLen * i.size + j, none⟩ = false) :
    (Builtin.append_ #[t, tn] ty #[.slice (some ⟨b, 0, none⟩) sLen sCap, .int kq k]).run P w = .ok (.slice (some ⟨b, 0, none⟩) (sLen + k) sCap) (w.setCells b (0 + sLen * i.size) news) := by
  have hst := run_storeCells_cells (P := P) b (0 + sLen * i.size) news 0 w (by simpa using hc) (by simpa using hf) h1
  simp only [Nat.add_zero] at hst
  have hw : IntKind.i64.wrap (k : Int) = k := by rw [IntKind.wrap_i64]; omega
  have h48i : ¬ (281474976710656 < (k : Int) * (i.bytes : Int)) := by
    rw [← Int.natCast_mul]
    omega
  have hneg : ¬ ((k : Int) < 0) := by omega
  have hns : ¬ (k * i.size = 0) := Nat.mul_ne_zero (by omega) (by omega)
  simp [Builtin.append_, run_underlying ht, run_underlying htn, sizeOf, typeInfo, zeroValue, hi, hz, asInt, asIntOf, hw, hneg, hns, h48i, hroom, hnews, Addr.add_lit] at hst ⊢
  rw [hst]
  rfl
theorem zeros_one (k : Nat) : ∀ u ∈ (Builtin.zeroCells (Value.int .u8 0).cells k).toList, u.oneCell' = true := by
  intro u hu
  unfold Builtin.zeroCells at hu
  simp only [Array.toList_map, List.mem_map] at hu
  obtain ⟨j, _, rfl⟩ := hu
  have : (Value.int .u8 0).cells = #[Value.int .u8 0] := rfl
  rw [this]
  simp [Nat.mod_one]
  rfl
/-- Zeros put behind a row: the row itself is left as it was. -/
theorem run_appZ (t tn ty e : TypeId) (i : TypeInfo) (z : Value) (kq kn : IntKind) (ht : P.underlying t = some (.slice e)) (htn : P.underlying tn = some (.int kn)) (hi : P.info? e = some i) (hz : i.zero = some z)
    (hsize : i.size = 1) (hby : i.bytes = 1) (hzs : z.cells.size = 1) (hE : z = .int .u8 0)
    (base : Nat) (A : Option Addr) (n c : Nat) (bs : List UInt8) (hown : CRow w base A n c bs) (k : Nat) (hk0 : 0 < k) (h63 : n + k ≤ 4398046511104) :
    ∃ A' c' w', (Builtin.append_ #[t, tn] ty #[.slice A n c, .int kq k]).run P w = .ok (.slice A' (n + k) c') w' ∧ w.grownBy w' (ownB A c) ∧ CRow w' base A n c bs := by
  subst hE
  obtain ⟨hl, hnc, hcase⟩ := id hown
  have hgrow : ∀ olds : List Value, (Builtin.firstCells i.size n (.slice A n c)).run P w.drew = .ok olds.toArray w.drew → c < n + k → ∃ A' c' w', (Builtin.append_ #[t, tn] ty #[.slice A n c, .int kq k]).run P w = .ok (.slice A' (n + k) c') w' ∧ w.grownBy w' (ownB A c) ∧ CRow w' base A n c bs := by
    intro olds hold hg
    have hrun := Lib.run_append_grow_zeros (P := P) w t tn ty e i (.int .u8 0) kq kn ht htn hi hz A n c olds hold k hk0 (by omega) hg (by omega) (by rw [hby]; omega) (by
      have := growslice_fits (bytes := i.bytes) hg (by rw [hby]; omega)
      omega)
    have hb : Below w.heap.size w (w.drew.alloc (.cells (olds.toArray ++ Builtin.zeroCells (Value.int .u8 0).cells k ++ Builtin.zeroCells (Value.int .u8 0).cells (grownCap w (n + k) c e - (n + k))) e)) := ((Below.refl w.heap.size w).drew).alloc (Nat.le_refl _) _
    exact ⟨_, _, _, hrun, ⟨hb.os, hb.tape, hb.output, hb.size, fun j hj _ => hb.block j hj⟩, hown.below hb⟩
  rcases hcase with hc0 | ⟨g, rfl, hB, hg, hf, hcl⟩
  · subst hc0
    have hn0 : n = 0 := by omega
    subst hn0
    cases A with
    | none => exact hgrow [] (run_firstCells_none (P := P) w.drew i.size 0 0 0) (by omega)
    | some a => exact hgrow [] (run_firstCells_some (P := P) w.drew i.size 0 a 0 0 [] (by simp) (by simp)) (by omega)
  · by_cases hroom : n + k ≤ c
    · have hzl : (Builtin.zeroCells (Value.int .u8 0).cells k).toList.length = k := by
        have := size_zeroCells (Value.int .u8 0).cells k
        rw [Array.length_toList, this, hzs, Nat.mul_one]
      have hrun := run_append_room_zeros (P := P) w t tn ty e i (.int .u8 0) kq kn ht htn hi hz g n c k hk0 (by omega) (by omega) (by rw [hby]; omega) _ rfl (zeros_one k) hroom
        (fun j hj => by rw [hzl] at hj; rw [hsize, Nat.zero_add, Nat.mul_one]; exact (hf _ (by omega)).1) (fun j hj => by rw [hzl] at hj; rw [hsize, Nat.zero_add, Nat.mul_one]; exact (hf _ (by omega)).2)
      rw [hsize, Nat.zero_add, Nat.mul_one] at hrun
      have hgb : w.grownBy (w.setCells g n (Builtin.zeroCells (Value.int .u8 0).cells k).toList) (some g) := by
        have : ∀ (vs : List Value) (o : Nat) (u : World), u.grownBy (u.setCells g o vs) (some g) := by
          intro vs
          induction vs with
          | nil => intro o u; exact World.grownBy.refl _ _
          | cons v vs ih => intro o u; exact (grown_set u g o v).trans (ih (o + 1) _)
        exact this _ _ _
      refine ⟨_, _, _, hrun, ?_, ?_⟩
      · have hob : ownB (some ⟨g, 0, none⟩) c = some g := by unfold ownB; rw [if_neg (by omega)]; rfl
        rw [hob]
        exact hgb
      · have hsome : ∀ j, j < (Builtin.zeroCells (Value.int .u8 0).cells k).toList.length → (w.cell? ⟨g, n + j, none⟩).isSome = true := fun j hj => by rw [hzl] at hj; exact (hf _ (by omega)).1
        refine ⟨hl, hnc, .inr ⟨g, rfl, hB, Nat.lt_of_lt_of_le hg hgb.size, fun j hj => ⟨?_, ?_⟩, fun j u hu => ?_⟩⟩
        · by_cases hin : n ≤ j ∧ j < n + (Builtin.zeroCells (Value.int .u8 0).cells k).toList.length
          · have := World.cell?_setCells_in g (Builtin.zeroCells (Value.int .u8 0).cells k).toList n w hsome (j - n) (by omega)
            rw [show n + (j - n) = j from by omega] at this
            rw [this]
            rfl
          · rw [World.cell?_setCells_out g _ n w ⟨g, j, none⟩ (fun _ _ => by simp only; omega)]
            exact (hf j hj).1
        · rw [World.frozen?_setCells]; exact (hf j hj).2
        · have hj : j < n := by
            have := (List.getElem?_eq_some_iff.1 hu).1
            simp [bcells] at this
            omega
          rw [World.cell?_setCells_out g _ n w ⟨g, j, none⟩ (fun _ _ => by simp only; omega)]
          exact hcl j u hu
    · exact hgrow (bcells bs) (run_firstCells_some (P := P) w.drew i.size n ⟨g, 0, none⟩ n c (bcells bs) (by simp [bcells, hl, hsize]) (fun j u hu => by
        have : (⟨g, 0, none⟩ : Addr).add j = ⟨g, 0 + j, none⟩ := by unfold Addr.add; split <;> simp_all
        rw [this, Nat.zero_add]; exact hcl j u hu)) (by omega)
end
section
variable (w : World) {ops : Array Oper} {rest : List Oper} {o : Oper} {a : Act} {Q : Exit → Act → World → Prop}
theorem appZ (hgd : o.guard = none) (s x : Operand) (ho : o.op = .call { callee := .builtin .append, args := #[s, x], argTypes := #[22, 3] })
    (base : Nat) (A : Option Addr) (n c : Nat) (xs : List UInt8) (hs : a.eval s = .slice A n c) (hown : CRow w base A n c xs) (k : Nat) (hx : a.eval x = .int .i64 k) (h0 : 0 < k) (h63 : n + k ≤ 4398046511104)
    (h : ∀ A' c' w', w.grownBy w' (ownB A c) → CRow w' base A n c xs → wpList Tryz.prog ops Q rest (a.put o.dst (.slice A' (n + k) c')) w') : wpList Tryz.prog ops Q (o :: rest) a w :=
  wpList_plain hgd fun K hK => by
    obtain ⟨i0, hi0, hz0, hz1, hz2⟩ := info_parts Tryz.infoB
    obtain ⟨A', c', w', hrun, h2, h3⟩ := run_appZ (P := Tryz.prog) w 22 3 o.type 5 i0 _ .i64 .i64 Tryz.underlying22 Tryz.underlying3 hi0 hz0 hz1 hz2 rfl rfl base A n c xs hown k h0 h63
    unfold Oper.wp execOp
    simp only [ho, resolve, invoke, builtin, Sem.run_bind, Sem.run_pure, Result.andThen_ok, List.map_toArray, List.map_cons, List.map_nil, hs, hx, hrun]
    exact hK _ _ (h A' c' w' h2 h3)
end

/-! ### Several rows -/
/-- k lists' rows with what they hold, and the cells that tell them. -/
structure LSt (w0 : World) (base k : Nat) (A : Nat → Option Addr) (n c : Nat → Nat) (hb ho : Nat) (f : Nat → List UInt8) (u : World) : Prop where
  row : ∀ i, i < k → CRow u base (A i) (n i) (c i) (f i)
  cell : ∀ i, i < k → u.cell? ⟨hb, ho + i, none⟩ = some (.slice (A i) (n i) (c i))
  below : Below base w0 u
  keep : ∀ b, b < w0.heap.size → (∀ i, i < k → ownB (A i) (c i) ≠ some b) → u.heap[b]? = w0.heap[b]?
/-- No two share a block, and none lies where the lists are told. -/
structure LDis (k : Nat) (A : Nat → Option Addr) (c : Nat → Nat) (hb : Nat) : Prop where
  two : ∀ i j b, i < k → j < k → j ≠ i → ownB (A i) (c i) = some b → ownB (A j) (c j) ≠ some b
  head : ∀ i b, i < k → ownB (A i) (c i) = some b → b ≠ hb
section
variable {w0 u u' : World} {base k hb ho : Nat} {A : Nat → Option Addr} {n c : Nat → Nat} {f : Nat → List UInt8}
theorem LSt.under (h : LSt w0 base k A n c hb ho f u) (hk : Below u.heap.size u u') (hz : base ≤ u.heap.size) : LSt w0 base k A n c hb ho f u' :=
  ⟨fun i hi => (h.row i hi).below hk, fun i hi => (hk.cell (p := ⟨hb, ho + i, none⟩) (cell_lt (h.cell i hi))).trans (h.cell i hi), below_then hz h.below hk,
   fun b hb hn => (hk.block b (Nat.lt_of_lt_of_le hb h.below.size)).trans (h.keep b hb hn)⟩
theorem LSt.alloc (h : LSt w0 base k A n c hb ho f u) (hz : base ≤ u.heap.size) (o : Obj) : LSt w0 base k A n c hb ho f (u.alloc o) := h.under ((Below.refl _ _).alloc (Nat.le_refl _) _) hz
/-- One row has turned: the others and what tells them have not. -/
theorem LSt.turn (h : LSt w0 base k A n c hb ho f u) {i : Nat} {xs : List UInt8} {r : Option Nat} (hg : u.grownBy u' r) (hz : base ≤ u.heap.size) (hr : ∀ b, r = some b → base ≤ b ∧ b ≠ hb)
    (ho' : ∀ j, j < k → j ≠ i → ∀ b, ownB (A j) (c j) = some b → r ≠ some b) (hw : ∀ b, r = some b → b < w0.heap.size → ∃ i, i < k ∧ ownB (A i) (c i) = some b) (hx : CRow u' base (A i) (n i) (c i) xs) : LSt w0 base k A n c hb ho (fun j => if j = i then xs else f j) u' :=
  ⟨fun j hj => by
    by_cases e : j = i
    · subst e; simpa using hx
    · simp only [if_neg e]
      exact (h.row j hj).kept hg (ho' j hj e),
   fun j hj => by
    have hlt := cell_lt (h.cell j hj)
    have hbl : u'.heap[hb]? = u.heap[hb]? := hg.block hb hlt (fun e => (hr hb e.symm).2 rfl)
    exact (World.cell?_of_block (w := u) (a := ⟨hb, ho + j, none⟩) hbl).trans (h.cell j hj),
   h.below.grown hg hz (fun b hb => (hr b hb).1),
   fun b hb hn => (hg.block b (Nat.lt_of_lt_of_le hb h.below.size) (fun e => by
     obtain ⟨i, hi, h2⟩ := hw b e.symm hb
     exact hn i hi h2)).trans (h.keep b hb hn)⟩
theorem LSt.same (h : LSt w0 base k A n c hb ho f u) {g : Nat → List UInt8} (e : ∀ j, j < k → g j = f j) : LSt w0 base k A n c hb ho g u :=
  ⟨fun j hj => by rw [e j hj]; exact h.row j hj, h.cell, h.below, h.keep⟩
theorem LSt.set (h : LSt w0 base k A n c hb ho f u) (hd : LDis k A c hb) {i g j : Nat} (hi : i < k) (hA : A i = some ⟨g, 0, none⟩) (hj : j < n i) (hz : base ≤ u.heap.size) (x : UInt8) :
    LSt w0 base k A n c hb ho (fun t => if t = i then (f i).set j x else f t) (u.setCell ⟨g, j, none⟩ (.int .u8 x.toNat)) := by
  have hrow := h.row i hi
  have hcn : c i ≠ 0 := by have := hrow.2.1; omega
  have hown : ownB (A i) (c i) = some g := by rw [hA]; unfold ownB; rw [if_neg hcn]; rfl
  refine h.turn (grown_set u g j _) hz (fun b e => ?_) (fun t ht hti b hb2 e => ?_) (fun b e _ => ⟨i, hi, hown.trans e⟩) ?_
  · cases e
    exact ⟨(hrow.lt g hown).1, hd.head i g hi hown⟩
  · cases e
    exact hd.two i t g hi ht hti hown hb2
  · rw [hA] at hrow ⊢
    exact hrow.set hj x
/-- What an append to a row that began as the i-th list leaves: z, where the walk of that row began. -/
theorem LSt.app (h : LSt w0 base k A n c hb ho f u) (hd : LDis k A c hb) {i j z c2 c3 m : Nat} {A2 A3 : Option Addr} {xs news : List UInt8} (hi : i < k) (hz : base ≤ u.heap.size) (hx : xs.take (n i) = f i)
    (hlt : ∀ t b, t < k → ownB (A t) (c t) = some b → b < z) (hbz : hb < z) (h1 : CRow u base A2 (n i + j) c2 xs) (hwh : (A2 = A i ∧ c2 = c i) ∨ ∀ b, ownB A2 c2 = some b → z ≤ b) (ha : App u u' A2 c2 A3 c3) (h2 : CRow u' base A2 (n i + j) c2 xs) (hzu : z ≤ u.heap.size) (hz0 : w0.heap.size ≤ z) (_hm : CRow u' base A3 m c3 (xs ++ news)) :
    LSt w0 base k A n c hb ho f u' ∧ ((A3 = A i ∧ c3 = c i) ∨ ∀ b, ownB A3 c3 = some b → z ≤ b) := by
  refine ⟨?_, ?_⟩
  · have hr : ∀ b, ownB A2 c2 = some b → base ≤ b ∧ b ≠ hb := fun b e => ⟨(h1.lt b e).1, by
      rcases hwh with ⟨rfl, rfl⟩ | hw
      · exact hd.head i b hi e
      · have := hw b e; omega⟩
    have ho' : ∀ t, t < k → t ≠ i → ∀ b, ownB (A t) (c t) = some b → ownB A2 c2 ≠ some b := fun t ht hti b e e2 => by
      rcases hwh with ⟨rfl, rfl⟩ | hw
      · exact hd.two i t b hi ht hti e2 e
      · have := hw b e2; have := hlt t b ht e; omega
    have hrow : CRow u' base (A i) (n i) (c i) (f i) := by
      rcases hwh with ⟨rfl, rfl⟩ | hw
      · have := h2.front (m := n i) (by omega)
        rwa [hx] at this
      · exact (h.row i hi).kept ha.grown (fun b e e2 => by have := hw b e2; have := hlt i b hi e; omega)
    have hw' : ∀ b, ownB A2 c2 = some b → b < w0.heap.size → ∃ i, i < k ∧ ownB (A i) (c i) = some b := fun b e hb2 => by
      rcases hwh with ⟨rfl, rfl⟩ | hw
      · exact ⟨i, hi, e⟩
      · have := hw b e; omega
    exact (h.turn ha.grown hz hr ho' hw' hrow).same (fun t _ => by by_cases e : t = i <;> simp [e])
  · rcases ha.moved with ⟨rfl, rfl⟩ | ⟨g, rfl, hg⟩
    · exact hwh
    · refine .inr fun b e => ?_
      unfold ownB at e
      split at e
      · cases e
      · simp at e
        omega
end

/-! ### A row of fields -/
section
variable {w w' u u' : World} {base n c c2 c3 size : Nat} {A A2 A3 : Option Addr} {e : TypeId} {xs : List Value} {r : Option Nat}
theorem Row.kept (h : Row w base e size A n c xs) (hg : w.grownBy w' r) (hr : ∀ b, ownB A c = some b → r ≠ some b) : Row w' base e size A n c xs := by
  by_cases hc0 : c = 0
  · subst hc0
    have hn : n = 0 := by have := h.cap.1; omega
    subst hn
    exact .inr ⟨rfl, rfl, List.eq_nil_of_length_eq_zero (by have := h.len; omega)⟩
  · rcases h with ⟨h1, h2⟩ | h
    · refine .inl ⟨h1, ?_⟩
      rcases h2 with h2 | ⟨g, cap, cur, hv, hg0, hh, rest⟩
      · exact .inl h2
      · cases hv
        have hne : r ≠ some g := hr g (by unfold ownB; rw [if_neg hc0]; rfl)
        have hb : w'.heap[g]? = w.heap[g]? := hg.block g (Array.getElem?_eq_some_iff.1 hh).1 (fun e => hne e.symm)
        exact .inr ⟨g, c, cur, rfl, hg0, hb.trans hh, rest⟩
    · exact .inr h
/-- A row that began as (A, c) in w has grown once more. -/
theorem grown_app (h1 : w.grownBy u (ownB A c)) (hw : (A2 = A ∧ c2 = c) ∨ ∀ b, ownB A2 c2 = some b → w.heap.size ≤ b) (h2 : App u u' A2 c2 A3 c3) : w.grownBy u' (ownB A c) ∧ ((A3 = A ∧ c3 = c) ∨ ∀ b, ownB A3 c3 = some b → w.heap.size ≤ b) := by
  refine ⟨h1.andThen h2.grown fun j hj => ?_, ?_⟩
  · rcases hw with ⟨rfl, rfl⟩ | hw
    · exact .inr hj
    · exact .inl (hw j hj)
  · rcases h2.moved with ⟨rfl, rfl⟩ | ⟨g, rfl, hg⟩
    · exact hw
    · refine .inr fun b e => ?_
      unfold ownB at e
      split at e
      · cases e
      · simp at e
        have := h1.size
        omega
theorem fcells_name : ∀ (l : List FD) (i : Nat) (h : i < l.length) (s : ByteArray), (fcells l).set (i * 2) (.string s) = fcells (l.set i (s, (l[i]).2))
  | g :: l, 0, _, s => by simp [fcells]
  | g :: l, i + 1, h, s => by
    rw [show (i + 1) * 2 = i * 2 + 1 + 1 from by omega]
    simp only [fcells, List.set_cons_succ, List.getElem_cons_succ]
    rw [fcells_name l i (by simpa using h) s]
end

/-! ### What else stands when a row has turned -/
section
variable {u u' : World} {base base2 n n2 c c2 size lo hi b : Nat} {A A2 : Option Addr} {e : TypeId} {xs : List Value} {bs : List UInt8} {cs : Array Value} {t : TypeId}
theorem Row.after (h : Row u base2 e size A2 n2 c2 xs) (hg : u.grownBy u' (ownB A c)) (hlt : ∀ k, ownB A c = some k → k < base2) : Row u' base2 e size A2 n2 c2 xs :=
  h.kept hg (fun b hb e => by have := (h.lt b hb).1; have := hlt b e; omega)
theorem CRow.after (h : CRow u base2 A2 n2 c2 bs) (hg : u.grownBy u' (ownB A c)) (hlt : ∀ k, ownB A c = some k → k < base2) : CRow u' base2 A2 n2 c2 bs :=
  h.kept hg (fun b hb e => by have := (h.lt b hb).1; have := hlt b e; omega)
theorem Blk.after (h : Blk u b cs t) (hg : u.grownBy u' (ownB A c)) (hne : ∀ k, ownB A c = some k → k ≠ b) : Blk u' b cs t :=
  (hg.block b h.lt (fun e => hne b e.symm rfl)).trans h
theorem below_after {B : Nat} {a : World} (h : Below B a u) (hg : u.grownBy u' (ownB A c)) (hB : B ≤ u.heap.size) (hlt : ∀ k, ownB A c = some k → B ≤ k) : Below B a u' := h.grown hg hB hlt
end
theorem LDis.of_iv {u : World} {k hb : Nat} {A : Nat → Option Addr} {n c : Nat → Nat} {f : Nat → List UInt8} (lo hi : Nat → Nat) (h : ∀ i, i < k → CRow u (lo i) (A i) (n i) (c i) (f i)) (hhi : ∀ i, i < k → ∀ b, ownB (A i) (c i) = some b → b < hi i)
    (hdis : ∀ i j, i < k → j < k → j ≠ i → hi i ≤ lo j ∨ hi j ≤ lo i) (hhb : ∀ i, i < k → hi i ≤ hb) : LDis k A c hb :=
  ⟨fun i j b hi' hj' hne e e2 => by
    have h1 := (h i hi').lt b e
    have h2 := (h j hj').lt b e2
    have h3 := hhi i hi' b e
    have h4 := hhi j hj' b e2
    rcases hdis i j hi' hj' hne with h5 | h5 <;> omega,
   fun i b hi' e => by
    have h3 := hhi i hi' b e
    have := hhb i hi'
    omega⟩
end Go.Proofs.YteehjkfmlcfffaaGreatDoor
