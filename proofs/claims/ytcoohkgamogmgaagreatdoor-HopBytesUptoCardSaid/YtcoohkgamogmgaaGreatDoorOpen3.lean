/- A parameter that is a request, a target, a list of bytes, opened. No condition: plain lemmas. -/
import Derived.Test.YtcoohkgamogmgaaGreatDoorOpen2
import Derived.ChangeSlices
namespace Go.Proofs.YtcoohkgamogmgaaGreatDoor
open Go.ChangeShapes Go.WideShapes Go.ChangeAt Go.RowKit Go.Deep

theorem array_three {α : Type} {a : Array α} (h : a.size = 3) : ∃ x y z, a = #[x, y, z] := by
  obtain ⟨l⟩ := a
  match l, h with
  | [x, y, z], _ => exact ⟨x, y, z, rfl⟩
theorem cellsB : Tryz.prog.cellsOf 5 = 1 := by kernel_rfl

section
variable {H : Type} {enc : TypeId × Value → H} {W : World} {base : Nat} {held : Bool}
theorem Rd.of_bytes {A : Addr} {n : Nat} {bs : List UInt8} (hl : bs.length = n) (h : ∀ i (hi : i < bs.length), W.cell? (A.add i) = some (.int .u8 (bs[i]).toNat)) : Rd W (some A) n 1 (bcells bs) := by
  refine ⟨by simp [bcells, hl], fun hn => ?_⟩
  have h0 := h 0 (by omega)
  have hspot : (A.add 0).spot = none := World.cell?_spot h0
  obtain ⟨b, o, sp⟩ := A
  have : sp = none := by cases sp <;> simp_all [Addr.add]
  subst this
  refine ⟨b, o, rfl, World.block_lt_of_cell? W _ h0, fun j u hu => ?_⟩
  have hj : j < bs.length := by
    have := (List.getElem?_eq_some_iff.1 hu).1
    simpa [bcells] using this
  have ea : ∀ k, (⟨b, o, none⟩ : Addr).add k = ⟨b, o + k, none⟩ := fun k => by unfold Addr.add; split <;> simp_all
  have := h j hj
  rw [ea] at this
  rw [this]
  simp [bcells, hj] at hu
  rw [hu]
theorem u8_back {x : Int} (h : (Lit.int .u8 x).wf = true) : ((UInt8.ofNat x.toNat).toNat : Int) = x := by
  have h1 : IntKind.u8.min = 0 := rfl
  have h2 : IntKind.u8.max = 255 := rfl
  simp only [Lit.wf, Bool.and_eq_true, decide_eq_true_eq] at h
  simp only [UInt8.toNat_ofNat']
  omega
set_option maxRecDepth 100000 in
theorem bulk_lits (k : IntKind) : ∀ zs : List Int, Rows.uptoBulkAll (lits (H := H) k zs) = zs.length
  | [] => rfl
  | z :: zs => by
    have := bulk_lits k zs
    unfold lits at this ⊢
    simp only [List.map_cons, Rows.uptoBulkAll, Rows.uptoBulk, List.length_cons]
    omega
set_option maxRecDepth 100000 in
theorem cells_bytes {A : Option Addr} {n c : Nat} {fuel : Nat} {x : DataW H × List MemPlace} (h : DataW.trod enc Tryz.prog W base (fun _ => true) held fuel 25 [.slice A n c] = some x) :
    ∃ bs : List UInt8, bs.length = n ∧ Rd W A n 1 (bcells bs) ∧ n ≤ c ∧ bs.length ≤ Rows.uptoBulk x.1 ∧ (A = none → n = 0 ∧ c = 0) := by
  rcases open_ints Tryz.underlying25 Tryz.underlying5 cellsB h with ⟨h0, rfl⟩ | ⟨a, len, cap, zs, hcs, _, hl, hm, hz, rfl, hcell, hwf⟩
  · simp only [List.cons.injEq, Value.slice.injEq, and_true] at h0
    obtain ⟨rfl, rfl, rfl⟩ := h0
    exact ⟨[], rfl, Rd.nil _ _ _, Nat.le_refl _, by simp, fun _ => ⟨rfl, rfl⟩⟩
  · simp only [List.cons.injEq, Value.slice.injEq, and_true] at hcs
    obtain ⟨rfl, rfl, rfl⟩ := hcs
    simp only [if_true] at hz
    refine ⟨(zs.take n).map fun z => UInt8.ofNat z.toNat, by simp; omega, Rd.of_bytes (by simp; omega) (fun i hi => ?_), hl, ?_, fun h => by cases h⟩
    · have hi' : i < n := by simp at hi; omega
      rw [hcell i (by omega)]
      have e : zs.getD i 0 = zs[i]'(by omega) := by simp [List.getD, List.getElem?_eq_getElem (show i < zs.length by omega)]
      rw [e]
      simp only [List.getElem_map, List.getElem_take]
      rw [u8_back (hwf _ (List.getElem_mem _))]
    · simp only [Rows.uptoBulk, bulk_lits, List.length_map]
      omega
set_option maxRecDepth 100000 in
/-- A parameter that is a list of bytes. -/
theorem open_bytes {r : Reach} {b0 : Nat} {v : Value} {d : DataW H} {p : List MemPlace} (hv : Value.okWide Tryz.prog W r b0 25 v) (h : DataW.Trod enc Tryz.prog W base (fun _ => true) held 25 v d p) :
    ∃ A n c bs, v = .slice A n c ∧ bs.length = n ∧ Rd W A n 1 (bcells bs) ∧ n ≤ c ∧ bs.length ≤ Rows.uptoBulk d ∧ (A = none → n = 0 ∧ c = 0) := by
  obtain ⟨A, n, c, rfl⟩ := okWide_slice Tryz.underlying25 hv
  obtain ⟨fuel, hf⟩ := h
  obtain ⟨bs, h1, h2, h3, h4, h5⟩ := cells_bytes (A := A) (n := n) (c := c) hf
  exact ⟨A, n, c, bs, rfl, h1, h2, h3, h4, h5⟩
end
end Go.Proofs.YtcoohkgamogmgaaGreatDoor
