/- strconv.Atoi from whatever text, with its two error variables out of the row's list; strings.Trim at the ten digits. Conditions: a text of at most 2^31 bytes; the two variables hold errors. -/
import Derived.Test.YteehjkfmlcfffaaGreatDoorLaidU
import Derived.Test.YteehjkfmlcfffaaGreatDoorGrow
import Derived.Stop.LaidErr
import Derived.LaidLaws
namespace Go.Proofs.YteehjkfmlcfffaaGreatDoor
open Go.RowKit

/-- The variables strconv.ErrSyntax and strconv.ErrRange hold errors. -/
def ErrOk (w : World) : Prop := (∃ t p, w.cell? ⟨2, 0, none⟩ = some (.iface t p)) ∧ ∃ t p, w.cell? ⟨3, 0, none⟩ = some (.iface t p)
theorem ErrOk.below {w w' : World} (h : ErrOk w) (hb : Below w.heap.size w w') : ErrOk w' := by
  obtain ⟨⟨t, p, h1⟩, t2, p2, h2⟩ := h
  exact ⟨⟨t, p, (hb.cell (p := ⟨2, 0, none⟩) (cell_lt h1)).trans h1⟩, t2, p2, (hb.cell (p := ⟨3, 0, none⟩) (cell_lt h2)).trans h2⟩
theorem star_es : "*" ++ "errors.errorString" = "*errors.errorString" := by decide
theorem row_es (u : TypeId) (h : Tryz.prog.typeName? 3 u = some "*errors.errorString") : u = 407 :=
  typeName_ptr_named (nm := "errors.errorString") (by rw [star_es]; kernel_rfl) (by kernel_rfl) (by decide) u (by rw [star_es]; exact h)
theorem gS : Tryz.prog.globalNamed "strconv.ErrSyntax" = some 2 := by kernel_rfl
theorem gST : (Tryz.prog.globals[2]?).map (·.type) = some 275 := by kernel_rfl
theorem gR : Tryz.prog.globalNamed "strconv.ErrRange" = some 3 := by kernel_rfl
theorem gRT : (Tryz.prog.globals[3]?).map (·.type) = some 275 := by kernel_rfl
theorem cells_es : Tryz.prog.cellsOf 409 = 1 := by kernel_rfl
theorem cells_st : Tryz.prog.cellsOf 9 = 1 := by kernel_rfl
/-- Out of the row's list: both variables hold errors. -/
theorem err_of {W : World} {laid : List (String × DataW Unit)} (h : laidMetH Tryz.prog laid W)
    (hm1 : laid.filter (fun x => x.1 == "strconv.ErrSyntax") = [("strconv.ErrSyntax", Rows.laid_strconv_ErrSyntax)]) (hm2 : laid.filter (fun x => x.1 == "strconv.ErrRange") = [("strconv.ErrRange", Rows.laid_strconv_ErrRange)]) : ErrOk W := by
  have h1 := h.filter (fun x => x.1 == "strconv.ErrSyntax")
  have h2 := h.filter (fun x => x.1 == "strconv.ErrRange")
  rw [hm1] at h1
  rw [hm2] at h2
  obtain ⟨a0, s0, hv0, _⟩ := laid_sentinel (r := []) h1 gS gST Tryz.underlying275 row_es Tryz.underlying407 Tryz.underlying409 rfl rfl Tryz.underlying9 cells_es cells_st
  obtain ⟨a1, s1, hv1, _⟩ := laid_sentinel (r := []) h2 gR gRT Tryz.underlying275 row_es Tryz.underlying407 Tryz.underlying409 rfl rfl Tryz.underlying9 cells_es cells_st
  exact ⟨⟨_, _, by have h0 := World.var?_cell gS hv0 0; simpa using h0⟩, _, _, by have h0 := World.var?_cell gR hv1 0; simpa using h0⟩

/-- A number and an error, answered: nil just where the text spells one. -/
def RetA (w : World) (l : List UInt8) (e : Ending) (w' : World) : Prop :=
  ∃ v b, e = .returned (.tuple #[.int .i64 v, b]) ∧ ((b = .nilIface ∧ Lib.atoiAll l = .ok v) ∨ ((∃ t p, b = .iface t (.pointer p)) ∧ ∀ u, Lib.atoiAll l ≠ .ok u)) ∧ Below w.heap.size w w'
theorem atoi_any (s : ByteArray) (w : World) (hs : s.size ≤ 2147483648) (h : ErrOk w) : Calls Tryz.prog 214 #[.string s] w (RetA w (L s)) := by
  obtain ⟨⟨t1, p1, h1⟩, t2, p2, h2⟩ := h
  cases ha : Lib.atoiAll s.data.toList
  case ok v =>
    refine (Tryz.strconv_Atoi_ok s (by omega) v ha w).mono ?_
    rintro e w' ⟨rfl, hw⟩
    refine ⟨v, _, rfl, .inl ⟨rfl, ha⟩, ?_⟩
    rcases hw with rfl | ⟨t, rfl⟩
    · exact Below.refl _ _
    · exact Lib.bytesWorld_below _ _ _
  case range =>
    refine (Tryz.strconv_Atoi_range s (by omega) ha _ w h2 (.inr ⟨_, _, rfl⟩)).mono ?_
    rintro e w' ⟨N, rfl, _, _, hb⟩
    exact ⟨_, _, rfl, .inr ⟨⟨_, _, rfl⟩, fun u hu => by rw [show L s = s.data.toList from rfl, ha] at hu; cases hu⟩, hb⟩
  · refine (Any.strconv_Atoi_syntax Tryz.laysC172 s (by omega) ha _ w h1 (.inr ⟨_, _, rfl⟩)).mono ?_
    rintro e w' ⟨N, rfl, _, _, hb⟩
    exact ⟨_, _, rfl, .inr ⟨⟨_, _, rfl⟩, fun u hu => by rw [show L s = s.data.toList from rfl, ha] at hu; cases hu⟩, hb⟩

def digs : List UInt8 := [48, 49, 50, 51, 52, 53, 54, 55, 56, 57]
theorem dig_digs (c : UInt8) : P.dig c = digs.contains c := by
  have : ∀ n : Fin 256, P.dig (UInt8.ofNat n.1) = digs.contains (UInt8.ofNat n.1) := by decide +kernel
  have h := this ⟨c.toNat, c.toNat_lt⟩
  simpa using h
theorem drop_nil {p : UInt8 → Bool} : ∀ {l : List UInt8}, l.dropWhile p = [] ↔ ∀ x ∈ l, p x = true
  | [] => by simp
  | x :: l => by
    cases hx : p x
    · simp [hx]
    · simp [hx, drop_nil (l := l)]
theorem trim_digs (l : List UInt8) : Lib.trimS l digs = [] ↔ l.all P.dig = true := by
  have e : P.dig = fun c => digs.contains c := funext dig_digs
  unfold Lib.trimS Lib.trimLeftS Lib.trimRightS
  rw [← e, List.all_eq_true]
  constructor
  · intro h
    rw [drop_nil] at h
    have h2 : l.reverse.dropWhile P.dig = [] := by
      cases h3 : l.reverse.dropWhile P.dig with
      | nil => rfl
      | cons x r =>
        have h4 := List.head_dropWhile_not P.dig (l := l.reverse) (by rw [h3]; simp)
        simp only [h3, List.head_cons] at h4
        have h5 := h x (by rw [h3]; simp)
        rw [h4] at h5
        cases h5
    rw [drop_nil] at h2
    exact fun x hx => h2 x (by simpa using hx)
  · intro h
    have h2 : l.reverse.dropWhile P.dig = [] := by
      rw [drop_nil]
      exact fun x hx => h x (by simpa using hx)
    rw [h2]
    rfl
theorem digTrim (s : ByteArray) (w : World) (hs : s.size ≤ 1099511627776) : Calls Tryz.prog 173 #[.string s, .string ⟨#[48, 49, 50, 51, 52, 53, 54, 55, 56, 57]⟩] w (RetS w (B (Lib.trimS (L s) digs))) := by
  refine (Any.strings_Trim_laid Tryz.lays160 (by kernel_rfl) s ⟨#[48, 49, 50, 51, 52, 53, 54, 55, 56, 57]⟩ w (by omega) (by decide) (ascii_of_all (by decide))).mono ?_
  rintro e w' ⟨rfl, hb⟩
  exact ⟨rfl, hb⟩
theorem three_digits : ∀ a b c : Fin 10, (match Lib.atoiAll [UInt8.ofNat (48 + a.1), UInt8.ofNat (48 + b.1), UInt8.ofNat (48 + c.1)] with | .ok v => decide (v = P.stat [UInt8.ofNat (48 + a.1), UInt8.ofNat (48 + b.1), UInt8.ofNat (48 + c.1)]) | _ => false) = true := by decide +kernel
theorem dig_of {c : UInt8} (h : P.dig c = true) : ∃ a : Fin 10, c = UInt8.ofNat (48 + a.1) := by
  unfold P.dig at h
  rw [Bool.and_eq_true, decide_eq_true_eq, decide_eq_true_eq] at h
  refine ⟨⟨c.toNat - 48, by omega⟩, ?_⟩
  apply UInt8.toNat_inj.1
  rw [UInt8.toNat_ofNat']
  have := c.toNat_lt
  show c.toNat = (48 + (c.toNat - 48)) % 256
  omega
theorem atoi_code {l : List UInt8} (h : P.code3 l = true) : Lib.atoiAll l = .ok (P.stat l) := by
  unfold P.code3 at h
  rw [Bool.and_eq_true, decide_eq_true_eq, List.all_eq_true] at h
  match l, h with
  | [x, y, z], ⟨_, h⟩ =>
    obtain ⟨a, rfl⟩ := dig_of (h x (by simp))
    obtain ⟨b, rfl⟩ := dig_of (h y (by simp))
    obtain ⟨c, rfl⟩ := dig_of (h z (by simp))
    have := three_digits a b c
    split at this
    · rename_i v hv
      rw [hv, of_decide_eq_true this]
    · cases this
end Go.Proofs.YteehjkfmlcfffaaGreatDoor
