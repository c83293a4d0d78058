/- trial -/
import Derived.Test.YteehjkfmlcfffaaGreatDoorLib
namespace Go.Proofs.YteehjkfmlcfffaaGreatDoor
open Go.RowKit

set_option maxHeartbeats 400000 in
theorem sameFields_any (A B : Option Addr) (n m c d : Nat) (xs ys : List FD) (w : World) (hn : n ≤ 1099511627776) (hm : m ≤ 1099511627776) (hx : Rd w A n 2 (fcells xs)) (hy : Rd w B m 2 (fcells ys)) (hxl : xs.length = n) (hyl : ys.length = m) :
    Calls Tryz.prog 72 #[.slice A n c, .slice B m d] w (RetB w (decide (xs = ys))) := by
  have HX := Lib.hid hxl
  have HY := Lib.hid hyl
  clear hxl hyl
  by_cases hnm : n = m
  · subst hnm
    go_enter Tryz.func72, Tryz.ntmps72
    go_wp2
    go_loopw [5] (fun i wr => ∃ k : Nat, k ≤ n ∧ i = .int .i64 k ∧ xs.take k = ys.take k ∧ ∃ q, wr = w.drewN q) (fun i _ => n - (intOf i).toNat)
    case atStart => exact ⟨0, Nat.zero_le _, rfl, rfl, 0, rfl⟩
    case round =>
      obtain ⟨k, hk, rfl, he, q, rfl⟩ := hrel
      have HE := Lib.hid he; clear he
      by_cases hlt : k < n
      · obtain ⟨b1, o1, rfl, hl1, c1, c2⟩ := hx.field hlt HX.out
        obtain ⟨b2, o2, rfl, hl2, d1, d2⟩ := hy.field hlt HY.out
        have hneq := fun w => neqF (xs[k]'(by have := HX.out; omega)) (ys[k]'(by have := HY.out; omega)) w
        have hdec := tf (decide (xs[k]'(by have := HX.out; omega) = ys[k]'(by have := HY.out; omega)))
        rcases hdec with hd | hd
        · go_wp2
          go_region
          go_wp2
          go_roundw
          case rel => exact ⟨k + 1, by omega, by go_num, take_eq_snoc _ _ HE.out (of_decide_eq_true hd), _, rfl⟩
          case measure => simp [intOf]; omega
        · go_wp2
          go_region
          go_wp2
          go_ret
          exact ⟨ret_bool (by
            symm; apply decide_eq_false
            intro e
            subst e
            simp at hd), below_drewN (Below.refl _ _) _⟩
      · have hkn : k = n := by omega
        have hfin : xs = ys := by
          have := HE.out
          have h1 := HX.out
          have h2 := HY.out
          rw [List.take_of_length_le (by omega), List.take_of_length_le (by omega)] at this
          exact this
        have HF := Lib.hid hfin
        clear hkn hfin
        go_wp2
        go_ret
        exact ⟨ret_bool (by rw [decide_eq_true HF.out]), below_drewN (Below.refl _ _) _⟩
  · have h1 : ((n : Int) == (m : Int)) = false := by simp; omega
    have h2 : ((n : Int) != (m : Int)) = true := by simp; omega
    go_enter Tryz.func72, Tryz.ntmps72
    go_wp2
    go_ret
    exact ⟨ret_bool (by have := HX.out; have := HY.out; symm; apply decide_eq_false; rintro rfl; omega), Below.refl _ _⟩

set_option maxHeartbeats 400000 in
theorem copyFields_any (A : Option Addr) (n c : Nat) (xs : List FD) (w : World) (hn : n ≤ 1099511627776) (hx : Rd w A n 2 (fcells xs)) :
    Calls Tryz.prog 85 #[.slice A n c] w (RetRow w 148 2 n (fcells xs)) := by
  go_enter Tryz.func85, Tryz.ntmps85
  go_wp2_with (at_builtin; refine appF _ rfl (.tmp 5) (.tmp 6) rfl w.heap.size _ 0 0 [] rfl (Row.empty _ _ _ _ _) A n c xs rfl (hx.alloc _) (by omega) (by simp) ?_; intro A1 c1 w1 hr1 ha1; simp only [Nat.zero_add, List.nil_append] at hr1)
  go_ret
  exact ⟨A1, c1, by simp, hr1, ((Below.refl _ _).alloc (Nat.le_refl _) _).trans (ha1.below (Row.empty _ _ 148 2 _) (by simp))⟩
end Go.Proofs.YteehjkfmlcfffaaGreatDoor
