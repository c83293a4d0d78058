/- The walks of the document's Show, and the contract of strconv.Itoa. Conditions: the number is of 64 bits; for Itoa the library's table of powers of ten is as its text lays it. -/
import Derived.Test.YteehjkfmlcfffaaGreatDoorStripA
import Derived.Lib.AppendIntMem
namespace Go.Proofs.YteehjkfmlcfffaaGreatDoor
open Go.RowKit

/-! ### Itoa -/
/-- The table of powers of ten lies as the library's text lays it. -/
def TabOk (w : World) : Prop := Lib.TabIs Tryz.prog w "internal/strconv.uint64pow10" .u64 Lib.pow10Tab
theorem tab_named : ∃ g, Tryz.prog.globalNamed "internal/strconv.uint64pow10" = some g := ⟨1, by kernel_rfl⟩
theorem TabOk.below {w w' : World} (h : TabOk w) (hb : Below w.heap.size w w') : TabOk w' := by
  obtain ⟨g, hg⟩ := tab_named
  unfold TabOk Lib.TabIs at h ⊢
  refine var?_below hb hg ?_ h
  unfold World.var? at h
  rw [hg] at h
  simp only [Option.bind_some] at h
  rcases Nat.lt_or_ge g w.heap.size with hlt | hge
  · exact hlt
  · rw [Array.getElem?_eq_none hge] at h; simp at h
theorem TabOk.alloc {w : World} (h : TabOk w) (o : Obj) : TabOk (w.alloc o) := h.below ((Below.refl _ _).alloc (Nat.le_refl _) _)
theorem itoa_any (n : Int) (h0 : -9223372036854775808 ≤ n) (h1 : n ≤ 9223372036854775807) (w : World) (ht : TabOk w) : Calls Tryz.prog 89 #[.int .i64 n] w (RetS w (B (Lib.itoa n))) := by
  refine (Tryz.strconv_Itoa n h0 h1 w ht).mono ?_
  rintro e w' ⟨rfl, k, os, rfl⟩
  exact ⟨rfl, Lib.below_grow _ w (Nat.le_refl _) k os⟩

/-! ### Show -/
/-- The digits, the lowest first. -/
def lows : Nat → Nat → List UInt8
  | 0, _ => []
  | n + 1, u => if u = 0 then [] else UInt8.ofNat (48 + u % 10) :: lows n (u / 10)
theorem lows_enough : ∀ (n m u : Nat), u ≤ n → u ≤ m → lows n u = lows m u
  | 0, 0, u, _, _ => rfl
  | 0, m + 1, u, h, _ => by
    have : u = 0 := by omega
    subst this; rfl
  | n + 1, 0, u, _, h => by
    have : u = 0 := by omega
    subst this; rfl
  | n + 1, m + 1, u, h, h' => by
    unfold lows
    split
    · rfl
    · rw [lows_enough n m (u / 10) (by omega) (by omega)]
def low (u : Nat) : List UInt8 := lows u u
theorem low_zero : low 0 = [] := rfl
theorem low_pos {u : Nat} (h : 0 < u) : low u = UInt8.ofNat (48 + u % 10) :: low (u / 10) := by
  obtain ⟨n, rfl⟩ : ∃ n, u = n + 1 := ⟨u - 1, by omega⟩
  show lows (n + 1) (n + 1) = _
  rw [lows, if_neg (by omega), low, lows_enough n ((n + 1) / 10) ((n + 1) / 10) (by omega) (Nat.le_refl _)]
theorem dec_low : ∀ u : Nat, 0 < u → Lib.decDigits u = (low u).reverse := by
  intro u
  induction u using Nat.strongRecOn with
  | ind u ih =>
    intro h
    rw [low_pos h, List.reverse_cons]
    rw [Lib.decDigits]
    split
    · rename_i h10
      have : u / 10 = 0 := by omega
      rw [this, low_zero, Nat.mod_eq_of_lt h10]; rfl
    · rw [ih (u / 10) (by omega) (by omega)]
theorem itoa_show (n : Int) (h : n ≠ 0) : Lib.itoa n = ((low n.natAbs) ++ (if n < 0 then [45] else [])).reverse := by
  unfold Lib.itoa
  split
  · rw [dec_low n.natAbs (by omega)]; simp
  · rw [dec_low n.toNat (by omega)]
    have : n.toNat = n.natAbs := by omega
    rw [this]; simp
end Go.Proofs.YteehjkfmlcfffaaGreatDoor
