/- Arguments opened: a list of lists of bytes, a list of numbers. No condition: plain lemmas. -/
import Derived.Test.YteehjkfmlcfffaaGreatDoorOpenA
import Derived.Test.YteehjkfmlcfffaaGreatDoorCut
namespace Go.Proofs.YteehjkfmlcfffaaGreatDoor
open Go.ChangeShapes Go.WideShapes Go.ChangeAt Go.RowKit Go.Deep

section
variable {H : Type} {enc : TypeId × Value → H} {W : World} {base : Nat} {held : Bool}
set_option maxRecDepth 100000 in
theorem cells_bytes_any {cs : List Value} {fuel : Nat} {x : DataW H × List MemPlace} (h : DataW.trod enc Tryz.prog W base (fun _ => true) held fuel 22 cs = some x) :
    ∃ A n c, cs = [.slice A n c] ∧ n + 1 ≤ Rows.uptoBulk x.1 := by
  rcases open_ints Tryz.underlying22 Tryz.underlying5 cellsB h with ⟨h0, rfl⟩ | ⟨a, len, cap, zs, hcs, _, hl, hm, hz, rfl, _⟩
  · exact ⟨_, _, _, h0, by simp [Rows.uptoBulk]⟩
  · refine ⟨_, _, _, hcs, ?_⟩
    simp only [if_true] at hz
    simp only [Rows.uptoBulk, bulk_lits, List.length_take]
    omega
theorem cellsP : Tryz.prog.cellsOf 22 = 1 := by kernel_rfl
theorem bulk_plist {D : Nat → DataW H} {g : Nat → PQ} : ∀ l : List Nat, (∀ i ∈ l, (g i).2.2.length + 1 ≤ Rows.uptoBulk (D i)) → ((l.map g).map (·.2.2)).flatten.length ≤ Rows.uptoBulkAll (l.map D) ∧ l.length ≤ Rows.uptoBulkAll (l.map D)
  | [], _ => ⟨by simp, by simp⟩
  | i :: l, h => by
    have h1 := h i (by simp)
    obtain ⟨h2, h3⟩ := bulk_plist l (fun j hj => h j (by simp [hj]))
    simp only [List.map_cons, List.flatten_cons, List.length_append, List.length_cons, Rows.uptoBulkAll]
    exact ⟨by omega, by omega⟩
theorem Rd.of_pieces {A : Addr} {n : Nat} {l : List PQ} (hl : l.length = n) (h : ∀ i (hi : i < l.length), W.cell? (A.add i) = some (pq (l[i]))) : Rd W (some A) n 1 (pcells l) := by
  refine ⟨by simp [pcells, hl], fun hn => ?_⟩
  have h0 := h 0 (by omega)
  have hspot : (A.add 0).spot = none := World.cell?_spot h0
  obtain ⟨b, o, sp⟩ := A
  have : sp = none := by cases sp <;> simp_all [Addr.add]
  subst this
  refine ⟨b, o, rfl, World.block_lt_of_cell? W _ h0, fun j u hu => ?_⟩
  have hj : j < l.length := by
    have := (List.getElem?_eq_some_iff.1 hu).1
    simpa [pcells] using this
  have ea : ∀ k, (⟨b, o, none⟩ : Addr).add k = ⟨b, o + k, none⟩ := fun k => by unfold Addr.add; split <;> simp_all
  have := h j hj
  rw [ea] at this
  rw [this]
  simp [pcells, hj] at hu
  rw [hu]
/-- A piece that can be read. -/
def PRd (W : World) (x : PQ) : Prop := Rd W x.1 x.2.2.length 1 (bcells x.2.2) ∧ x.2.2.length ≤ x.2.1
set_option maxRecDepth 100000 in
theorem cells_pieces {A : Option Addr} {n c : Nat} {fuel : Nat} {x : DataW H × List MemPlace} (h : DataW.trod enc Tryz.prog W base (fun _ => true) held fuel 42 [.slice A n c] = some x) :
    ∃ l : List PQ, l.length = n ∧ Rd W A n 1 (pcells l) ∧ (∀ y ∈ l, PRd W y) ∧ (l.map (·.2.2)).flatten.length ≤ Rows.uptoBulk x.1 ∧ l.length ≤ Rows.uptoBulk x.1 := by
  rcases open_slice Tryz.underlyingP h with ⟨h0, rfl⟩ | ⟨a, len, cap, m, k, D, Pl, hcs, _, hl, hm, hmm, rfl, hi⟩
  · simp only [List.cons.injEq, Value.slice.injEq, and_true] at h0
    obtain ⟨rfl, rfl, rfl⟩ := h0
    exact ⟨[], rfl, Rd.nil _ _ _, by simp, by simp, by simp⟩
  · simp only [List.cons.injEq, Value.slice.injEq, and_true] at hcs
    obtain ⟨rfl, rfl, rfl⟩ := hcs
    simp only [if_true] at hmm
    subst hmm
    have each : ∀ i, ∃ g : PQ, i < n → W.cell? (a.add i) = some (pq g) ∧ PRd W g ∧ g.2.2.length + 1 ≤ Rows.uptoBulk (D i) := by
      intro i
      by_cases hin : i < n
      · obtain ⟨cs', hc, ht⟩ := hi i (by omega)
        rw [cellsP] at hc
        obtain ⟨A', n', c', rfl, hb1⟩ := cells_bytes_any ht
        obtain ⟨bs, h1, h2, h3, h4, _, _⟩ := cells_bytes (A := A') (n := n') (c := c') ht
        obtain ⟨_, _, hat⟩ := World.cells?_some hc
        have h0 := hat 0 (by simp)
        rw [Go.Deep.add_add] at h0
        subst h1
        refine ⟨(A', c', bs), fun _ => ⟨?_, ⟨h2, h3⟩, hb1⟩⟩
        show W.cell? (a.add i) = some (.slice A' bs.length c')
        simpa using h0
      · exact ⟨(none, 0, []), fun h => absurd h hin⟩
    obtain ⟨g, hg⟩ : ∃ g : Nat → PQ, ∀ i, i < n → W.cell? (a.add i) = some (pq (g i)) ∧ PRd W (g i) ∧ (g i).2.2.length + 1 ≤ Rows.uptoBulk (D i) :=
      ⟨fun i => (each i).choose, fun i => (each i).choose_spec⟩
    obtain ⟨b1, b2⟩ := bulk_plist (D := D) (g := g) (List.range n) (fun i hi => (hg i (List.mem_range.1 hi)).2.2)
    refine ⟨(List.range n).map g, by simp, Rd.of_pieces (by simp) (fun i hi => ?_), fun y hy => ?_, ?_, ?_⟩
    · rw [List.length_map, List.length_range] at hi
      simp only [List.getElem_map, List.getElem_range]
      exact (hg i hi).1
    · obtain ⟨i, hi, rfl⟩ := List.mem_map.1 hy
      exact (hg i (List.mem_range.1 hi)).2.1
    · simp only [Rows.uptoBulk]
      omega
    · simp only [Rows.uptoBulk, List.length_map]
      omega
set_option maxRecDepth 100000 in
/-- A parameter that is a list of lists of bytes. -/
theorem open_pieces {r : Reach} {b0 : Nat} {v : Value} {d : DataW H} {p : List MemPlace} (hv : Value.okWide Tryz.prog W r b0 42 v) (h : DataW.Trod enc Tryz.prog W base (fun _ => true) held 42 v d p) :
    ∃ A n c l, v = .slice A n c ∧ l.length = n ∧ Rd W A n 1 (pcells l) ∧ (∀ y ∈ l, PRd W y) ∧ (l.map (·.2.2)).flatten.length ≤ Rows.uptoBulk d ∧ l.length ≤ Rows.uptoBulk d := by
  obtain ⟨A, n, c, rfl⟩ := okWide_slice Tryz.underlyingP hv
  obtain ⟨fuel, hf⟩ := h
  obtain ⟨l, h1, h2, h3, h4, h5⟩ := cells_pieces (A := A) (n := n) (c := c) hf
  exact ⟨A, n, c, l, rfl, h1, h2, h3, h4, h5⟩
theorem cellsI : Tryz.prog.cellsOf 3 = 1 := by kernel_rfl
set_option maxRecDepth 100000 in
/-- A parameter that is a list of numbers. -/
theorem open_numbers {r : Reach} {b0 : Nat} {v : Value} {d : DataW H} {p : List MemPlace} (hv : Value.okWide Tryz.prog W r b0 37 v) (h : DataW.Trod enc Tryz.prog W base (fun _ => true) held 37 v d p) :
    ∃ A n c, ∃ zs : List Int, v = .slice A n c ∧ zs.length = n ∧ Rd W A n 1 (zs.map fun z => .int .i64 z) ∧ n ≤ c ∧ zs.length ≤ Rows.uptoBulk d ∧ ∀ z ∈ zs, (Lit.int .i64 z).wf = true := by
  obtain ⟨A, n, c, rfl⟩ := okWide_slice Tryz.underlying37 hv
  obtain ⟨fuel, hf⟩ := h
  replace hf : DataW.trod enc Tryz.prog W base (fun _ => true) held fuel 37 [.slice A n c] = some (d, p) := hf
  rcases open_ints Tryz.underlying37 Tryz.underlying3 cellsI hf with ⟨h0, _⟩ | ⟨a, len, cap, zs, hcs, _, hl, hm, hz, hd, hcell, hwf⟩
  · have h0' := h0
    simp only [List.cons.injEq, Value.slice.injEq, and_true] at h0'
    obtain ⟨rfl, rfl, rfl⟩ := h0'
    exact ⟨none, 0, 0, [], rfl, rfl, Rd.nil _ _ _, Nat.le_refl _, by simp, by simp⟩
  · simp only [List.cons.injEq, Value.slice.injEq, and_true] at hcs
    obtain ⟨rfl, rfl, rfl⟩ := hcs
    simp only [if_true] at hz
    refine ⟨some a, n, c, zs.take n, rfl, by simp; omega, ?_, hl, ?_, fun z hz => hwf z (List.mem_of_mem_take hz)⟩
    · refine ⟨by simp; omega, fun hn => ?_⟩
      have h0 := hcell 0 (by omega)
      have hspot : (a.add 0).spot = none := World.cell?_spot h0
      obtain ⟨b, o, sp⟩ := a
      have : sp = none := by cases sp <;> simp_all [Addr.add]
      subst this
      have ea : ∀ k, (⟨b, o, none⟩ : Addr).add k = ⟨b, o + k, none⟩ := fun k => by unfold Addr.add; split <;> simp_all
      refine ⟨b, o, rfl, World.block_lt_of_cell? W _ h0, fun j u hu => ?_⟩
      have hj : j < n := by
        have := (List.getElem?_eq_some_iff.1 hu).1
        simp at this
        omega
      have h1 := hcell j (by omega)
      rw [ea] at h1
      rw [h1]
      have e : zs.getD j 0 = zs[j]'(by omega) := by simp [List.getD, List.getElem?_eq_getElem (show j < zs.length by omega)]
      rw [e]
      simp [hj, List.getElem?_eq_getElem (show j < zs.length by omega)] at hu
      rw [← hu]
    · have hd2 := congrArg Prod.fst hd
      dsimp only at hd2
      rw [hd2]
      simp only [Rows.uptoBulk, bulk_lits, List.length_take]
      omega
end
end Go.Proofs.YteehjkfmlcfffaaGreatDoor
