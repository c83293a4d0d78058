/- A row of bytes of the call's own that may begin within its block; append onto it (printed by gen/orow.py). No condition: plain lemmas. -/
import Derived.Test.YteehjkfmlcfffaaGreatDoorRowA
import Derived.Test.YteehjkfmlcfffaaGreatDoorChunkAA
namespace Go.Proofs.YteehjkfmlcfffaaGreatDoor
open Go.RowKit

def ORow (w : World) (base : Nat) (A : Option Addr) (n c : Nat) (bs : List UInt8) : Prop :=
  bs.length = n ∧ n ≤ c ∧ (c = 0 ∨ ∃ g o, A = some ⟨g, o, none⟩ ∧ base ≤ g ∧ g < w.heap.size ∧ (∀ j, j < c → (w.cell? ⟨g, o + j, none⟩).isSome = true ∧ w.frozen? ⟨g, o + j, none⟩ = false) ∧ ∀ j u, (bcells bs)[j]? = some u → w.cell? ⟨g, o + j, none⟩ = some u)
section
variable {w w' : World} {base n c : Nat} {A : Option Addr} {bs : List UInt8}
theorem ORow.none_ (w : World) (base : Nat) : ORow w base none 0 0 [] := ⟨rfl, Nat.le_refl _, .inl rfl⟩
theorem CRow.orow (h : CRow w base A n c bs) : ORow w base A n c bs := by
  refine ⟨h.1, h.2.1, h.2.2.imp id ?_⟩
  rintro ⟨g, hA, hB, hg, hf, hc⟩
  exact ⟨g, 0, hA, hB, hg, fun j hj => by rw [Nat.zero_add]; exact hf j hj, fun j u hu => by rw [Nat.zero_add]; exact hc j u hu⟩
theorem ORow.rd (h : ORow w base A n c bs) : Rd w A n 1 (bcells bs) := by
  obtain ⟨h1, h2, h3⟩ := h
  refine ⟨by simp [bcells, h1], fun hn => ?_⟩
  rcases h3 with h3 | ⟨g, o, hA, hb, hg, _, hc⟩
  · omega
  · exact ⟨g, o, hA, hg, hc⟩
theorem ORow.below (h : ORow w base A n c bs) (hb : Below w.heap.size w w') : ORow w' base A n c bs := by
  obtain ⟨h1, h2, h3⟩ := h
  refine ⟨h1, h2, ?_⟩
  rcases h3 with h3 | ⟨g, o, hA, hB, hg, hf, hc⟩
  · exact .inl h3
  · exact .inr ⟨g, o, hA, hB, Nat.lt_of_lt_of_le hg hb.size, fun j hj => ⟨by rw [hb.cell (p := ⟨g, o + j, none⟩) hg]; exact (hf j hj).1, by rw [hb.frozen (p := ⟨g, o + j, none⟩) hg]; exact (hf j hj).2⟩, fun j u hu => (hb.cell (p := ⟨g, o + j, none⟩) hg).trans (hc j u hu)⟩
theorem ORow.mono (h : ORow w base A n c bs) {base' : Nat} (hb : base' ≤ base) : ORow w base' A n c bs := by
  obtain ⟨h1, h2, h3⟩ := h
  refine ⟨h1, h2, h3.imp id ?_⟩
  rintro ⟨g, o, hA, hB, r⟩
  exact ⟨g, o, hA, Nat.le_trans hb hB, r⟩
theorem ORow.lt (h : ORow w base A n c bs) : ∀ k, ownB A c = some k → base ≤ k ∧ k < w.heap.size := by
  intro k hk
  unfold ownB at hk
  split at hk
  · cases hk
  · rename_i hc
    rcases h.2.2 with h3 | ⟨g, o, hA, hB, hg, _⟩
    · exact absurd h3 hc
    · subst hA
      simp at hk
      subst hk
      exact ⟨hB, hg⟩
/-- What stands behind the first k bytes. -/
theorem ORow.drop (h : ORow w base A n c bs) {k : Nat} (hk : k ≤ n) : ORow w base (addA A c k) (n - k) (c - k) (bs.drop k) := by
  obtain ⟨h1, h2, h3⟩ := h
  refine ⟨by rw [List.length_drop, h1], by omega, ?_⟩
  rcases h3 with h3 | ⟨g, o, rfl, hB, hg, hf, hc⟩
  · exact .inl (by omega)
  · by_cases he : k = c
    · exact .inl (by omega)
    · refine .inr ⟨g, o + k, addA_in he, hB, hg, fun j hj => ?_, fun j u hu => ?_⟩
      · rw [Nat.add_assoc]; exact hf (k + j) (by omega)
      · rw [Nat.add_assoc]
        refine hc (k + j) u ?_
        unfold bcells at hu ⊢
        rw [List.map_drop, List.getElem?_drop] at hu
        exact hu
/-- Cells of another block turn nothing. -/
theorem ORow.far {b : Nat} (h : ORow w base A n c bs) (hb : b < base) (i : Nat) (x : Value) : ORow (w.setCell ⟨b, i, none⟩ x) base A n c bs := by
  obtain ⟨h1, h2, h3⟩ := h
  refine ⟨h1, h2, ?_⟩
  rcases h3 with h3 | ⟨g, o, hA, hB, hg, hf, hc⟩
  · exact .inl h3
  · have hne : b ≠ g := by omega
    have hbl : (w.setCell ⟨b, i, none⟩ x).heap[g]? = w.heap[g]? := by
      unfold World.setCell
      simp only [Array.getElem?_modify]
      rw [if_neg hne]
    have hcc : ∀ j, (w.setCell ⟨b, i, none⟩ x).cell? ⟨g, j, none⟩ = w.cell? ⟨g, j, none⟩ := fun j => by
      unfold World.cell?
      simp only [hbl]
    have hff : ∀ j, (w.setCell ⟨b, i, none⟩ x).frozen? ⟨g, j, none⟩ = w.frozen? ⟨g, j, none⟩ := fun j => by
      unfold World.frozen?
      simp only [hbl]
    refine .inr ⟨g, o, hA, hB, by rw [World.size_setCell]; exact hg, fun j hj => ?_, fun j u hu => ?_⟩
    · rw [hcc, hff]; exact hf j hj
    · rw [hcc]; exact hc j u hu
end
section
variable {P : Program} (w : World)
theorem run_appO (t ty e : TypeId) (i : TypeInfo) (z : Value) (ht : P.underlying t = some (.slice e)) (hi : P.info? e = some i) (hz : i.zero = some z)
    (hsize : i.size = 1) (hby : i.bytes = 1) (hzs : z.cells.size = 1) (hE : e = 5)
    (base : Nat) (A : Option Addr) (n c : Nat) (bs : List UInt8) (hown : ORow w base A n c bs)
    (S : Option Addr) (m d : Nat) (news : List UInt8) (hr : Rd w S m 1 (bcells news)) (h63 : n + m ≤ 4398046511104) (hbase : base ≤ w.heap.size) :
    ∃ A' c' w', (Builtin.append_ #[t, t] ty #[.slice A n c, .slice S m d]).run P w = .ok (.slice A' (n + m) c') w' ∧ ORow w' base A' (n + m) c' (bs ++ news) ∧ App w w' A c A' c' := by
  have hnl : news.length = m := by have := hr.1; simpa [bcells] using this
  rcases Nat.eq_zero_or_pos m with h0 | h0
  · subst h0
    have hn : news = [] := List.eq_nil_of_length_eq_zero hnl
    subst hn
    exact ⟨A, c, w, run_append_nothing w t ty e i ht hi A n c hown.2.1 S d, by simpa using hown, ⟨World.grownBy.refl _ _, .inl ⟨rfl, rfl⟩⟩⟩
  · obtain ⟨hl, hnc, hcase⟩ := hown
    rcases hcase with hc0 | ⟨g, o2, rfl, hB, hg, hf, hcl⟩
    · subst hc0
      have hn0 : n = 0 := by omega
      subst hn0
      have hb0 : bs = [] := List.eq_nil_of_length_eq_zero hl
      subst hb0
      subst hE
      obtain ⟨A', c', w', hrun, h2, h3⟩ := run_app (P := P) w t ty 5 i z 1 1 ht hi hz hsize hby hzs (by omega) base A 0 0 [] (Row.empty _ _ _ _ _) S m d _ hr (bcells_one news) (by simp only [maxLen]; omega) (by omega) hbase
      exact ⟨A', c', w', hrun, (Row.crow (by simpa using h2)).orow, h3⟩
    · obtain ⟨b, o, rfl, hlt, hc⟩ := hr.2 h0
      have hnews : ∀ j u, (bcells news)[j]? = some u → w.cell? ((⟨b, o, none⟩ : Addr).add j) = some u := hr.cells _ rfl h0
      have hnl' : (bcells news).length = m := by simp [bcells, hnl]
      by_cases hroom : n + m ≤ c
      · have hrun := run_append_room_cells (P := P) w t ty e i ht hi g o2 n c ⟨b, o, none⟩ m d (bcells news) (by rw [hsize, hnl']; omega) hnews (bcells_one news) hroom
          (fun j hj => by rw [hsize, Nat.mul_one, Nat.add_assoc]; exact (hf _ (by omega)).1) (fun j hj => by rw [hsize, Nat.mul_one, Nat.add_assoc]; exact (hf _ (by omega)).2)
        rw [hsize, Nat.mul_one] at hrun
        have hsome : ∀ j, j < (bcells news).length → (w.cell? ⟨g, o2 + n + j, none⟩).isSome = true := fun j hj => by rw [Nat.add_assoc]; exact (hf _ (by omega)).1
        have hsz : (w.setCells g (o2 + n) (bcells news)).heap.size = w.heap.size := by
          have : ∀ (vs : List Value) (o : Nat) (u : World), (u.setCells g o vs).heap.size = u.heap.size := by
            intro vs
            induction vs with
            | nil => intro o u; rfl
            | cons v vs ih =>
              intro o u
              show ((u.setCell ⟨g, o, none⟩ v).setCells g (o + 1) vs).heap.size = _
              rw [ih]
              simp [World.setCell]
          exact this _ _ _
        have hoth : ∀ k, k ≠ g → (w.setCells g (o2 + n) (bcells news)).heap[k]? = w.heap[k]? := by
          have : ∀ (vs : List Value) (o : Nat) (u : World) (k : Nat), k ≠ g → (u.setCells g o vs).heap[k]? = u.heap[k]? := by
            intro vs
            induction vs with
            | nil => intro o u k _; rfl
            | cons v vs ih =>
              intro o u k hk
              show ((u.setCell ⟨g, o, none⟩ v).setCells g (o + 1) vs).heap[k]? = _
              rw [ih _ _ k hk]
              unfold World.setCell
              simp only [Array.getElem?_modify]
              rw [if_neg (Ne.symm hk)]
          exact fun k hk => this _ _ _ k hk
        refine ⟨_, c, _, hrun, ⟨by rw [List.length_append, hl, hnl], hroom, .inr ⟨g, o2, rfl, hB, by rw [hsz]; exact hg, fun j hj => ⟨?_, ?_⟩, fun j u hu => ?_⟩⟩, ⟨?_, .inl ⟨rfl, rfl⟩⟩⟩
        · by_cases hin : n ≤ j ∧ j < n + (bcells news).length
          · have := World.cell?_setCells_in g (bcells news) (o2 + n) w hsome (j - n) (by omega)
            rw [show o2 + n + (j - n) = o2 + j from by omega] at this
            rw [this]; rfl
          · rw [World.cell?_setCells_out g (bcells news) (o2 + n) w ⟨g, o2 + j, none⟩ (fun _ _ => by simp only; omega)]
            exact (hf j hj).1
        · rw [World.frozen?_setCells]; exact (hf j hj).2
        · have e : bcells (bs ++ news) = bcells bs ++ bcells news := bcells_append bs news
          rw [e] at hu
          have hbl : (bcells bs).length = n := by simp [bcells, hl]
          by_cases hin : j < n
          · rw [List.getElem?_append_left (by omega)] at hu
            rw [World.cell?_setCells_out g (bcells news) (o2 + n) w ⟨g, o2 + j, none⟩ (fun _ _ => by simp only; omega)]
            exact hcl j u hu
          · rw [List.getElem?_append_right (by omega), hbl] at hu
            have hj := (List.getElem?_eq_some_iff.1 hu).1
            have := World.cell?_setCells_in g (bcells news) (o2 + n) w hsome (j - n) hj
            rw [show o2 + n + (j - n) = o2 + j from by omega] at this
            rw [this, ← (List.getElem?_eq_some_iff.1 hu).2]
        · have hob : ownB (some ⟨g, o2, none⟩) c = some g := by unfold ownB; rw [if_neg (by omega)]; rfl
          rw [hob]
          have hfl : ∀ (vs : List Value) (o : Nat) (u : World), (u.setCells g o vs).os = u.os ∧ (u.setCells g o vs).tape = u.tape ∧ (u.setCells g o vs).output = u.output := by
            intro vs
            induction vs with
            | nil => intro o u; exact ⟨rfl, rfl, rfl⟩
            | cons v vs ih =>
              intro o u
              have := ih (o + 1) (u.setCell ⟨g, o, none⟩ v)
              exact ⟨this.1, this.2.1, this.2.2⟩
          exact ⟨(hfl _ _ _).1, (hfl _ _ _).2.1, (hfl _ _ _).2.2, by rw [hsz]; exact Nat.le_refl _, fun k _ hne => hoth k (fun e => hne (by rw [e]))⟩
      · obtain ⟨v', w', hrun, h2, h3⟩ := run_append_arg_grows (P := P) w t ty e i z 1 1 ht hi hz hsize hby hzs (by omega) ⟨g, o2, none⟩ n c (bcells bs) (by simp [bcells, hl]) (fun j u hu => by
            have : (⟨g, o2, none⟩ : Addr).add j = ⟨g, o2 + j, none⟩ := by unfold Addr.add; split <;> simp_all
            rw [this]; exact hcl j u hu) ⟨b, o, none⟩ m d (bcells news) (by rw [hnl']; omega) hnews (by omega) (by simp only [maxLen]; omega) (by omega)
        obtain ⟨g', cap, hv, hb', hh⟩ := h2.form (by omega)
        have ho : w'.ownsRow base e 1 v' (n + m) (bcells bs ++ bcells news) := by
          refine ⟨h2.1, ?_⟩
          rcases h2.2 with h | ⟨g2, cap2, cur2, hv2, hg2, r⟩
          · exact .inl h
          · exact .inr ⟨g2, cap2, cur2, hv2, Nat.le_trans hbase hg2, r⟩
        subst hv
        subst hE
        refine ⟨_, _, _, hrun, (Row.crow (.inl ?_)).orow, ⟨⟨h3.os, h3.tape, h3.output, h3.size, fun k hk _ => h3.block k hk (by simp)⟩, .inr ⟨g', rfl, hb'⟩⟩⟩
        rw [bcells_append]
        exact ho
end
section
variable (w : World) {ops : Array Oper} {rest : List Oper} {o : Oper} {a : Act} {K : Act → World → Prop} {Q : Exit → Act → World → Prop}
theorem appO (hgd : o.guard = none) (s x : Operand) (ho : o.op = .call { callee := .builtin .append, args := #[s, x], argTypes := #[22, 22] })
    (base : Nat) (A : Option Addr) (n c : Nat) (xs : List UInt8) (hs : a.eval s = .slice A n c) (hown : ORow w base A n c xs)
    (S : Option Addr) (m d : Nat) (news : List UInt8) (hx : a.eval x = .slice S m d) (hr : Rd w S m 1 (bcells news)) (h63 : n + m ≤ 4398046511104) (hbase : base ≤ w.heap.size)
    (h : ∀ A' c' w', ORow w' base A' (n + m) c' (xs ++ news) → App w w' A c A' c' → wpList Tryz.prog ops Q rest (a.put o.dst (.slice A' (n + m) c')) w') : wpList Tryz.prog ops Q (o :: rest) a w :=
  wpList_plain hgd fun K hK => by
    obtain ⟨i0, hi0, hz0, hz1, hz2⟩ := info_parts Tryz.infoB
    obtain ⟨A', c', w', hrun, h2, h3⟩ := run_appO (P := Tryz.prog) w 22 o.type 5 i0 _ Tryz.underlying22 hi0 hz0 hz1 hz2 rfl rfl base A n c xs hown S m d news hr h63 hbase
    unfold Oper.wp execOp
    simp only [ho, resolve, invoke, builtin, Sem.run_bind, Sem.run_pure, Result.andThen_ok, List.map_toArray, List.map_cons, List.map_nil, hs, hx, hrun]
    exact hK _ _ (h A' c' w' h2 h3)
end
end Go.Proofs.YteehjkfmlcfffaaGreatDoor
