/- A parameter that is a request, a target, a list of bytes, opened. No condition: plain lemmas. -/
import Derived.Test.YtcoohkgamogmgaaDoorOpen2
import Derived.ChangeSlices
namespace Go.Proofs.YtcoohkgamogmgaaDoor
open Go.ChangeShapes Go.WideShapes Go.ChangeAt Go.RowKit Go.Deep

theorem array_three {α : Type} {a : Array α} (h : a.size = 3) : ∃ x y z, a = #[x, y, z] := by
  obtain ⟨l⟩ := a
  match l, h with
  | [x, y, z], _ => exact ⟨x, y, z, rfl⟩
theorem req_sz : (Tryd.prog.fieldsOf 50).size = 4 := by kernel_rfl
theorem req_ty : (Tryd.prog.fieldsOf 50).map (·.type) = #[9, 9, 3, 22] := by kernel_rfl
theorem req_st : Tryd.prog.underlying 50 = some (.struct (Tryd.prog.fieldsOf 50)) := by kernel_rfl
theorem req_one : oneCellFields Tryd.prog (Tryd.prog.fieldsOf 50) = true := by kernel_rfl
theorem req_cells : Tryd.prog.cellsOf 50 = 4 := by kernel_rfl
theorem tgt_sz : (Tryd.prog.fieldsOf 52).size = 3 := by kernel_rfl
theorem tgt_ty : (Tryd.prog.fieldsOf 52).map (·.type) = #[9, 3, 9] := by kernel_rfl
theorem tgt_st : Tryd.prog.underlying 52 = some (.struct (Tryd.prog.fieldsOf 52)) := by kernel_rfl
theorem tgt_one : oneCellFields Tryd.prog (Tryd.prog.fieldsOf 52) = true := by kernel_rfl
theorem tgt_cells : Tryd.prog.cellsOf 52 = 3 := by kernel_rfl
theorem cellsB : Tryd.prog.cellsOf 5 = 1 := by kernel_rfl

section
variable {H : Type} {enc : TypeId × Value → H} {W : World} {base : Nat} {held : Bool}
set_option maxRecDepth 100000 in
theorem open_req {r : Reach} {b0 : Nat} {v : Value} {d : DataW H} {p : List MemPlace} (hv : Value.okWide Tryd.prog W r b0 50 v) (h : DataW.Trod enc Tryd.prog W base (fun _ => true) held 50 v d p) :
    ∃ s t m A n c fs, v = .agg #[.string s, .string t, .int .i64 m, .slice A n c] ∧ (Lit.int .i64 m).wf = true ∧ fs.length = n ∧ Rd W A n 2 (fcells fs) ∧ F.bulk fs + s.size + t.size ≤ Rows.uptoBulk d ∧ (A = none → n = 0 ∧ c = 0) := by
  obtain ⟨f0, f1, f2, f3, hf⟩ := array_four req_sz
  have ht := req_ty
  have hs := req_st
  have ho := req_one
  rw [hf] at ht hs ho
  simp at ht
  obtain ⟨t0, t1, t2, t3⟩ := ht
  obtain ⟨v0, v1, v2, v3, y0, y1, y2, y3, n, rfl, rfl, rfl, h0, h1, h2, h3⟩ := Go.Joins.open_agg4 hs ho req_cells hv h
  rw [t0] at h0
  rw [t1] at h1
  rw [t2] at h2
  rw [t3] at h3
  obtain ⟨s, e0, rfl, _⟩ := DataW.trod_string Tryd.underlying9 h0
  obtain ⟨t, e1, rfl, _⟩ := DataW.trod_string Tryd.underlying9 h1
  obtain ⟨m, e2, rfl, w2⟩ := DataW.trod_int Tryd.underlying3 h2
  obtain ⟨A, k, c, rfl⟩ := slice_shape h3
  obtain ⟨fs, l1, l2, l3, l4⟩ := cells_fields h3
  simp only [List.cons.injEq, and_true] at e0 e1 e2
  subst e0
  subst e1
  subst e2
  refine ⟨s, t, m, A, k, c, fs, rfl, w2, l1, l2, ?_, l4⟩
  simp only [Rows.uptoBulk, Rows.uptoBulkAll, Array.length_toList]
  have : t.size = t.data.size := rfl
  have : s.size = s.data.size := rfl
  omega
set_option maxRecDepth 100000 in
theorem open_tgt {r : Reach} {b0 : Nat} {v : Value} {d : DataW H} {p : List MemPlace} (hv : Value.okWide Tryd.prog W r b0 52 v) (h : DataW.Trod enc Tryd.prog W base (fun _ => true) held 52 v d p) :
    ∃ s m t, v = .agg #[.string s, .int .i64 m, .string t] ∧ (Lit.int .i64 m).wf = true ∧ s.size + t.size ≤ Rows.uptoBulk d := by
  obtain ⟨f0, f1, f2, hf⟩ := array_three tgt_sz
  have ht := tgt_ty
  have hs := tgt_st
  have ho := tgt_one
  rw [hf] at ht hs ho
  simp at ht
  obtain ⟨t0, t1, t2⟩ := ht
  obtain ⟨v0, v1, v2, y0, y1, y2, n, rfl, rfl, rfl, h0, h1, h2⟩ := Go.Joins.open_agg3 hs ho tgt_cells hv h
  rw [t0] at h0
  rw [t1] at h1
  rw [t2] at h2
  obtain ⟨s, e0, rfl, _⟩ := DataW.trod_string Tryd.underlying9 h0
  obtain ⟨m, e1, rfl, w1⟩ := DataW.trod_int Tryd.underlying3 h1
  obtain ⟨t, e2, rfl, _⟩ := DataW.trod_string Tryd.underlying9 h2
  simp only [List.cons.injEq, and_true] at e0 e1 e2
  subst e0
  subst e1
  subst e2
  refine ⟨s, m, t, rfl, w1, ?_⟩
  simp only [Rows.uptoBulk, Rows.uptoBulkAll, Array.length_toList]
  have : t.size = t.data.size := rfl
  have : s.size = s.data.size := rfl
  omega

theorem Rd.of_bytes {A : Addr} {n : Nat} {bs : List UInt8} (hl : bs.length = n) (h : ∀ i (hi : i < bs.length), W.cell? (A.add i) = some (.int .u8 (bs[i]).toNat)) : Rd W (some A) n 1 (bcells bs) := by
  refine ⟨by simp [bcells, hl], fun hn => ?_⟩
  have h0 := h 0 (by omega)
  have hspot : (A.add 0).spot = none := World.cell?_spot h0
  obtain ⟨b, o, sp⟩ := A
  have : sp = none := by cases sp <;> simp_all [Addr.add]
  subst this
  refine ⟨b, o, rfl, World.block_lt_of_cell? W _ h0, fun j u hu => ?_⟩
  have hj : j < bs.length := by
    have := (List.getElem?_eq_some_iff.1 hu).1
    simpa [bcells] using this
  have ea : ∀ k, (⟨b, o, none⟩ : Addr).add k = ⟨b, o + k, none⟩ := fun k => by unfold Addr.add; split <;> simp_all
  have := h j hj
  rw [ea] at this
  rw [this]
  simp [bcells, hj] at hu
  rw [hu]
theorem u8_back {x : Int} (h : (Lit.int .u8 x).wf = true) : ((UInt8.ofNat x.toNat).toNat : Int) = x := by
  have h1 : IntKind.u8.min = 0 := rfl
  have h2 : IntKind.u8.max = 255 := rfl
  simp only [Lit.wf, Bool.and_eq_true, decide_eq_true_eq] at h
  simp only [UInt8.toNat_ofNat']
  omega
set_option maxRecDepth 100000 in
theorem bulk_lits (k : IntKind) : ∀ zs : List Int, Rows.uptoBulkAll (lits (H := H) k zs) = zs.length
  | [] => rfl
  | z :: zs => by
    have := bulk_lits k zs
    unfold lits at this ⊢
    simp only [List.map_cons, Rows.uptoBulkAll, Rows.uptoBulk, List.length_cons]
    omega
set_option maxRecDepth 100000 in
theorem cells_bytes {A : Option Addr} {n c : Nat} {fuel : Nat} {x : DataW H × List MemPlace} (h : DataW.trod enc Tryd.prog W base (fun _ => true) held fuel 29 [.slice A n c] = some x) :
    ∃ bs : List UInt8, bs.length = n ∧ Rd W A n 1 (bcells bs) ∧ n ≤ c ∧ bs.length ≤ Rows.uptoBulk x.1 ∧ (A = none → n = 0 ∧ c = 0) := by
  rcases open_ints Tryd.underlying29 Tryd.underlying5 cellsB h with ⟨h0, rfl⟩ | ⟨a, len, cap, zs, hcs, _, hl, hm, hz, rfl, hcell, hwf⟩
  · simp only [List.cons.injEq, Value.slice.injEq, and_true] at h0
    obtain ⟨rfl, rfl, rfl⟩ := h0
    exact ⟨[], rfl, Rd.nil _ _ _, Nat.le_refl _, by simp, fun _ => ⟨rfl, rfl⟩⟩
  · simp only [List.cons.injEq, Value.slice.injEq, and_true] at hcs
    obtain ⟨rfl, rfl, rfl⟩ := hcs
    simp only [if_true] at hz
    refine ⟨(zs.take n).map fun z => UInt8.ofNat z.toNat, by simp; omega, Rd.of_bytes (by simp; omega) (fun i hi => ?_), hl, ?_, fun h => by cases h⟩
    · have hi' : i < n := by simp at hi; omega
      rw [hcell i (by omega)]
      have e : zs.getD i 0 = zs[i]'(by omega) := by simp [List.getD, List.getElem?_eq_getElem (show i < zs.length by omega)]
      rw [e]
      simp only [List.getElem_map, List.getElem_take]
      rw [u8_back (hwf _ (List.getElem_mem _))]
    · simp only [Rows.uptoBulk, bulk_lits, List.length_map]
      omega
set_option maxRecDepth 100000 in
/-- A parameter that is a list of bytes. -/
theorem open_bytes {r : Reach} {b0 : Nat} {v : Value} {d : DataW H} {p : List MemPlace} (hv : Value.okWide Tryd.prog W r b0 29 v) (h : DataW.Trod enc Tryd.prog W base (fun _ => true) held 29 v d p) :
    ∃ A n c bs, v = .slice A n c ∧ bs.length = n ∧ Rd W A n 1 (bcells bs) ∧ n ≤ c ∧ bs.length ≤ Rows.uptoBulk d ∧ (A = none → n = 0 ∧ c = 0) := by
  obtain ⟨A, n, c, rfl⟩ := okWide_slice Tryd.underlying29 hv
  obtain ⟨fuel, hf⟩ := h
  obtain ⟨bs, h1, h2, h3, h4, h5⟩ := cells_bytes (A := A) (n := n) (c := c) hf
  exact ⟨A, n, c, bs, rfl, h1, h2, h3, h4, h5⟩
end
end Go.Proofs.YtcoohkgamogmgaaDoor
