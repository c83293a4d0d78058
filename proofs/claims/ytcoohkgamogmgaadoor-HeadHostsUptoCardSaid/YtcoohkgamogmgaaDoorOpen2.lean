/- A parameter that is a response, opened. No condition: plain lemmas. -/
import Derived.Test.YtcoohkgamogmgaaDoorOpen
import Derived.Lib.SmallJoins
namespace Go.Proofs.YtcoohkgamogmgaaDoor
open Go.ChangeShapes Go.WideShapes Go.ChangeAt Go.RowKit Go.Deep

theorem array_four {α : Type} {a : Array α} (h : a.size = 4) : ∃ x y z u, a = #[x, y, z, u] := by
  obtain ⟨l⟩ := a
  match l, h with
  | [x, y, z, u], _ => exact ⟨x, y, z, u, rfl⟩
theorem resp_sz : (Tryd.prog.fieldsOf 28).size = 4 := by kernel_rfl
theorem resp_ty : (Tryd.prog.fieldsOf 28).map (·.type) = #[3, 9, 3, 22] := by kernel_rfl
theorem resp_st : Tryd.prog.underlying 28 = some (.struct (Tryd.prog.fieldsOf 28)) := by kernel_rfl
theorem resp_one : oneCellFields Tryd.prog (Tryd.prog.fieldsOf 28) = true := by kernel_rfl
theorem resp_cells : Tryd.prog.cellsOf 28 = 4 := by kernel_rfl

section
variable {H : Type} {enc : TypeId × Value → H} {W : World} {base : Nat} {held : Bool}
theorem slice_shape {fuel : Nat} {v : Value} {x : DataW H × List MemPlace} (h : DataW.trod enc Tryd.prog W base (fun _ => true) held fuel 22 [v] = some x) : ∃ A n c, v = .slice A n c := by
  rcases open_slice Tryd.underlying22 h with ⟨h0, _⟩ | ⟨a, len, cap, m, k, D, Pl, hcs, _⟩
  · exact ⟨_, _, _, by simpa using h0⟩
  · exact ⟨_, _, _, by simpa using hcs⟩

set_option maxRecDepth 100000 in
theorem open_resp {r : Reach} {b0 : Nat} {v : Value} {d : DataW H} {p : List MemPlace} (hv : Value.okWide Tryd.prog W r b0 28 v) (h : DataW.Trod enc Tryd.prog W base (fun _ => true) held 28 v d p) :
    ∃ s t m A n c fs, v = .agg #[.int .i64 s, .string t, .int .i64 m, .slice A n c] ∧ (Lit.int .i64 s).wf = true ∧ (Lit.int .i64 m).wf = true ∧ fs.length = n ∧ Rd W A n 2 (fcells fs) ∧ F.bulk fs + t.size ≤ Rows.uptoBulk d ∧ (A = none → n = 0 ∧ c = 0) := by
  obtain ⟨f0, f1, f2, f3, hf⟩ := array_four resp_sz
  have ht := resp_ty
  have hs := resp_st
  have ho := resp_one
  rw [hf] at ht hs ho
  simp at ht
  obtain ⟨t0, t1, t2, t3⟩ := ht
  obtain ⟨v0, v1, v2, v3, y0, y1, y2, y3, n, rfl, rfl, rfl, h0, h1, h2, h3⟩ := Go.Joins.open_agg4 hs ho resp_cells hv h
  rw [t0] at h0
  rw [t1] at h1
  rw [t2] at h2
  rw [t3] at h3
  obtain ⟨s, e0, rfl, w0⟩ := DataW.trod_int Tryd.underlying3 h0
  obtain ⟨t, e1, rfl, _⟩ := DataW.trod_string Tryd.underlying9 h1
  obtain ⟨m, e2, rfl, w2⟩ := DataW.trod_int Tryd.underlying3 h2
  obtain ⟨A, k, c, rfl⟩ := slice_shape h3
  obtain ⟨fs, l1, l2, l3, l4⟩ := cells_fields h3
  simp only [List.cons.injEq, and_true] at e0 e1 e2
  subst e0
  subst e1
  subst e2
  refine ⟨s, t, m, A, k, c, fs, rfl, w0, w2, l1, l2, ?_, l4⟩
  simp only [Rows.uptoBulk, Rows.uptoBulkAll, Array.length_toList]
  have : t.size = t.data.size := rfl
  omega
end
end Go.Proofs.YtcoohkgamogmgaaDoor
