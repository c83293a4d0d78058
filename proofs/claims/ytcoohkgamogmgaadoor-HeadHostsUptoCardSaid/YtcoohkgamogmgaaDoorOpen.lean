/- An argument that is a list of fields, a string or a struct of these, opened to what a walk reads; its bulk; and read again behind the call. No condition: plain lemmas. -/
import Derived.Test.YtcoohkgamogmgaaDoorLaid
import Derived.Test.YtcoohkgamogmgaaDoorStrip
import Derived.Deep.Slices
import Derived.Deep.Fields
import Derived.ChangeSame
import Derived.DataReads
import Derived.WideKeyArgs
namespace Go.Proofs.YtcoohkgamogmgaaDoor
open Go.ChangeShapes Go.WideShapes Go.ChangeAt Go.RowKit Go.Deep

theorem laidOut_ : laidOutB Tryd.prog = true := by kernel_rfl
theorem fsz : (Tryd.prog.fieldsOf 67).size = 2 := by kernel_rfl
theorem fs0 : ((Tryd.prog.fieldsOf 67)[0]?).map (fun f => (f.type, f.offset)) = some (9, 0) := by kernel_rfl
theorem fs1 : ((Tryd.prog.fieldsOf 67)[1]?).map (fun f => (f.type, f.offset)) = some (9, 1) := by kernel_rfl
theorem cellsF : Tryd.prog.cellsOf 67 = 2 := by kernel_rfl
theorem cellsS : Tryd.prog.cellsOf 9 = 1 := by kernel_rfl
theorem array_two {α : Type} {a : Array α} (h : a.size = 2) : ∃ x y, a = #[x, y] := by
  obtain ⟨l⟩ := a
  match l, h with
  | [x, y], _ => exact ⟨x, y, rfl⟩
theorem field_two : ∃ f0 f1 : Field, Tryd.prog.underlying 67 = some (.struct #[f0, f1]) ∧ f0.type = 9 ∧ f0.offset = 0 ∧ f1.type = 9 ∧ f1.offset = 1 := by
  obtain ⟨f0, f1, h⟩ := array_two fsz
  have h0 := fs0
  have h1 := fs1
  rw [h] at h0 h1
  simp at h0 h1
  exact ⟨f0, f1, by rw [← h]; exact fieldT_st, h0.1, h0.2, h1.1, h1.2⟩

section
variable {H : Type} {enc : TypeId × Value → H} {W : World} {base : Nat} {spare : Nat → Bool} {held : Bool}
theorem open_field {fuel : Nat} {cs : List Value} {x : DataW H × List MemPlace} (h : DataW.trod enc Tryd.prog W base spare held fuel 67 cs = some x) :
    ∃ f : FD, cs = [.string f.1, .string f.2] ∧ x.1 = .agg [.lit (.string f.1.data.toList), .lit (.string f.2.data.toList)] := by
  obtain ⟨f0, f1, hs, t0, o0, t1, o1⟩ := field_two
  obtain ⟨y0, y1, n, rfl, hl, h0, h1⟩ := trod_struct2 hs h
  rw [t0, o0, cellsS] at h0
  rw [t1, o1, cellsS] at h1
  rw [cellsF] at hl
  obtain ⟨s0, e0, rfl, _⟩ := DataW.trod_string Tryd.underlying9 h0
  obtain ⟨s1, e1, rfl, _⟩ := DataW.trod_string Tryd.underlying9 h1
  refine ⟨(s0, s1), ?_, rfl⟩
  match cs, hl with
  | [a, b], _ =>
    simp at e0 e1
    rw [e0, e1]

/-- what a field's reading weighs -/
theorem bulk_field (f : FD) : f.1.size + f.2.size + 1 ≤ Rows.uptoBulk (DataW.agg (H := H) [.lit (.string f.1.data.toList), .lit (.string f.2.data.toList)]) := by
  simp only [Rows.uptoBulk, Rows.uptoBulkAll, Array.length_toList]
  have : f.1.size = f.1.data.size := rfl
  have : f.2.size = f.2.data.size := rfl
  omega
theorem bulk_list {D : Nat → DataW H} {g : Nat → FD} : ∀ l : List Nat, (∀ i ∈ l, (g i).1.size + (g i).2.size + 1 ≤ Rows.uptoBulk (D i)) → F.bulk (l.map g) ≤ Rows.uptoBulkAll (l.map D)
  | [], _ => by simp [F.bulk]
  | i :: l, h => by
    have h1 := h i (by simp)
    have h2 := bulk_list l (fun j hj => h j (by simp [hj]))
    simp only [List.map_cons, F.bulk, Rows.uptoBulkAll]
    omega

theorem Rd.of_at {A : Addr} {n : Nat} {fs : List FD} (hl : fs.length = n) (h : ∀ i (hi : i < fs.length), W.cell? (A.add (i * 2)) = some (.string (fs[i]).1) ∧ W.cell? (A.add (i * 2 + 1)) = some (.string (fs[i]).2)) : Rd W (some A) n 2 (fcells fs) := by
  refine ⟨by rw [fcells_length, hl], fun hn => ?_⟩
  have h0 := (h 0 (by omega)).1
  have hspot : (A.add (0 * 2)).spot = none := World.cell?_spot h0
  obtain ⟨b, o, sp⟩ := A
  have : sp = none := by cases sp <;> simp_all [Addr.add]
  subst this
  refine ⟨b, o, rfl, World.block_lt_of_cell? W _ h0, fun j u hu => ?_⟩
  have hj : j < fs.length * 2 := by rw [← fcells_length]; exact (List.getElem?_eq_some_iff.1 hu).1
  have ea : ∀ k, (⟨b, o, none⟩ : Addr).add k = ⟨b, o + k, none⟩ := fun k => by unfold Addr.add; split <;> simp_all
  obtain ⟨i, hi⟩ : ∃ i, j = i * 2 ∨ j = i * 2 + 1 := ⟨j / 2, by omega⟩
  rcases hi with rfl | rfl
  · have hil : i < fs.length := by omega
    have := (h i hil).1
    rw [ea] at this
    rw [this]
    exact (fcells_at fs i hil).1.symm.trans hu
  · have hil : i < fs.length := by omega
    have := (h i hil).2
    rw [ea] at this
    rw [this]
    exact (fcells_at fs i hil).2.symm.trans hu

theorem cells_fields {A : Option Addr} {n c : Nat} {fuel : Nat} {x : DataW H × List MemPlace} (h : DataW.trod enc Tryd.prog W base (fun _ => true) held fuel 22 [.slice A n c] = some x) :
    ∃ fs : List FD, fs.length = n ∧ Rd W A n 2 (fcells fs) ∧ F.bulk fs ≤ Rows.uptoBulk x.1 ∧ (A = none → n = 0 ∧ c = 0) := by
  rcases open_slice Tryd.underlying22 h with ⟨h0, rfl⟩ | ⟨a, len, cap, m, k, D, Pl, hcs, _, hl, hm, hmm, rfl, hi⟩
  · simp only [List.cons.injEq, Value.slice.injEq, and_true] at h0
    obtain ⟨rfl, rfl, rfl⟩ := h0
    exact ⟨[], rfl, Rd.nil _ _ _, by simp [F.bulk], fun _ => ⟨rfl, rfl⟩⟩
  · simp only [List.cons.injEq, Value.slice.injEq, and_true] at hcs
    obtain ⟨rfl, rfl, rfl⟩ := hcs
    simp only [if_true] at hmm
    subst hmm
    have each : ∀ i, ∃ f : FD, i < n → W.cell? (a.add (i * 2)) = some (.string f.1) ∧ W.cell? (a.add (i * 2 + 1)) = some (.string f.2) ∧ D i = .agg [.lit (.string f.1.data.toList), .lit (.string f.2.data.toList)] := by
      intro i
      by_cases hin : i < n
      · obtain ⟨cs', hc, ht⟩ := hi i (by omega)
        rw [cellsF] at hc
        obtain ⟨f, rfl, hx⟩ := open_field ht
        obtain ⟨_, _, hat⟩ := World.cells?_some hc
        have h0 := hat 0 (by omega)
        have h1 := hat 1 (by omega)
        rw [Go.Deep.add_add] at h0 h1
        exact ⟨f, fun _ => ⟨h0, h1, hx⟩⟩
      · exact ⟨(⟨#[]⟩, ⟨#[]⟩), fun h => absurd h hin⟩
    obtain ⟨g, hg⟩ : ∃ g : Nat → FD, ∀ i, i < n → W.cell? (a.add (i * 2)) = some (.string (g i).1) ∧ W.cell? (a.add (i * 2 + 1)) = some (.string (g i).2) ∧ D i = .agg [.lit (.string (g i).1.data.toList), .lit (.string (g i).2.data.toList)] :=
      ⟨fun i => (each i).choose, fun i => (each i).choose_spec⟩
    refine ⟨(List.range n).map g, by simp, Rd.of_at (by simp) (fun i hi => ?_), ?_, fun h => by cases h⟩
    · rw [List.length_map, List.length_range] at hi
      have := hg i hi
      simp only [List.getElem_map, List.getElem_range]
      exact ⟨this.1, this.2.1⟩
    · have := bulk_list (D := D) (g := g) (List.range n) (fun i hi => by
        have := hg i (List.mem_range.1 hi)
        rw [this.2.2]
        exact bulk_field _)
      simp only [Rows.uptoBulk]
      omega

set_option maxRecDepth 100000 in
/-- A parameter that is a list of fields. -/
theorem open_fields {r : Reach} {b0 : Nat} {v : Value} {d : DataW H} {p : List MemPlace} (hv : Value.okWide Tryd.prog W r b0 22 v) (h : DataW.Trod enc Tryd.prog W base (fun _ => true) held 22 v d p) :
    ∃ A n c fs, v = .slice A n c ∧ fs.length = n ∧ Rd W A n 2 (fcells fs) ∧ F.bulk fs ≤ Rows.uptoBulk d ∧ (A = none → n = 0 ∧ c = 0) := by
  obtain ⟨A, n, c, rfl⟩ := okWide_slice Tryd.underlying22 hv
  obtain ⟨fuel, hf⟩ := h
  obtain ⟨fs, h1, h2, h3, h4⟩ := cells_fields (A := A) (n := n) (c := c) hf
  exact ⟨A, n, c, fs, rfl, h1, h2, h3, h4⟩
end

/-- What an argument read, it reads behind a call that leaves what was there. -/
theorem again {H : Type} {enc : TypeId × Value → H} {t : TypeId} (hr : Tryd.prog.readableRec t = true) (hrow : t < Tryd.prog.types.size) {W W' : World} {v : Value} {d : DataW H} {ps : List MemPlace}
    (h : DataW.Trod enc Tryd.prog W 0 (fun _ => true) true t v d ps) (hb : Below W.heap.size W W') (hlt : ∀ x ∈ ps, x.block < W.heap.size) (sp : Nat → Bool) (hsp : ∀ x ∈ ps, sp x.block = true) :
    DataW.Trod enc Tryd.prog W' 0 sp true t v d ps :=
  WideElems.Trod_stays laidOut_ hr hrow h (fun x hx => hb.same (hlt x hx)) hsp
end Go.Proofs.YtcoohkgamogmgaaDoor
