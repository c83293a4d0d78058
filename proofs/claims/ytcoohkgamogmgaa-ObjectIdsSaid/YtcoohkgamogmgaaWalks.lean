/- The walks of ObjectIds: object.Id answers key, a line end and vary; the law's two loops look for a byte 10. Conditions: the lengths are within the form's reach. -/
import Derived.Test.YtcoohkgamogmgaaRows
import Derived.WalkKit
import Derived.WalkSpells
import Derived.WalkLawsBesides
import Derived.Lib.Hide
namespace Go.Proofs.Ytcoohkgamogmgaa
open Go.RowKit

set_option maxHeartbeats 400000 in
theorem id_any (a b : ByteArray) (w : World) (ha : a.size ≤ 140737488351232) (hb : b.size ≤ 140737488351232) :
    Calls Try.prog 5 #[.string a, .string b] w fun e w' => e = .returned (.string (a ++ ⟨#[10]⟩ ++ b)) ∧ w = w' := by
  go_enter Try.func5, Try.ntmps5
  go_wp2
  go_ret
  exact ⟨rfl, rfl⟩

theorem id_one (w : World) : Calls Try.prog 5 #[.string ⟨#[107]⟩, .string ⟨#[118]⟩] w fun e w' => e = .returned (.string ⟨#[107, 10, 118]⟩) ∧ w = w' :=
  (id_any _ _ w (by decide) (by decide)).mono fun _ _ ⟨he, hw⟩ => ⟨he, hw⟩

def Clean (l : List UInt8) : Prop := ∀ x ∈ l, x ≠ 10

theorem clean_snoc {s : ByteArray} {k : Nat} (h : k < s.size) (hc : Clean (s.data.toList.take k)) (hn : ((s[k].toNat : Int) == 10) = false) : Clean (s.data.toList.take (k + 1)) := by
  rw [List.take_succ_eq_append_getElem (by simpa using h)]
  intro x hx
  rcases List.mem_append.1 hx with hx | hx
  · exact hc x hx
  · simp only [List.mem_singleton] at hx
    subst hx
    intro e
    simp only [beq_eq_false_iff_ne] at hn
    apply hn
    have : s[k] = s.data.toList[k]'(by simpa using h) := rfl
    rw [this, e]; rfl

theorem ret_bool {a b : Bool} (h : a = b) : Ending.returned (.bool a) = .returned (.bool b) := by rw [h]

theorem cat_inj : ∀ (l l' : List UInt8) (m m' : List UInt8), Clean l → Clean l' → (l ++ 10 :: m = l' ++ 10 :: m' ↔ l = l' ∧ m = m')
  | [], [], m, m', _, _ => by simp
  | [], y :: l', m, m', _, h' => by
    have := h' y (by simp)
    constructor
    · intro e
      simp only [List.nil_append, List.cons_append, List.cons.injEq] at e
      exact absurd e.1.symm this
    · intro e; cases e.1
  | x :: l, [], m, m', h, _ => by
    have := h x (by simp)
    constructor
    · intro e
      simp only [List.nil_append, List.cons_append, List.cons.injEq] at e
      exact absurd e.1 this
    · intro e; cases e.1
  | x :: l, y :: l', m, m', h, h' => by
    have ih := cat_inj l l' m m' (fun z hz => h z (by simp [hz])) (fun z hz => h' z (by simp [hz]))
    simp only [List.cons_append, List.cons.injEq, ih, and_assoc]

theorem toList_eq (s : ByteArray) : s.toList = s.data.toList := by
  rw [ByteArray.toList_eq]

theorem cat_beq (a b c d : ByteArray) (ha : Clean a.data.toList) (hc : Clean c.data.toList) :
    ((a ++ ⟨#[10]⟩ ++ b).toList == (c ++ ⟨#[10]⟩ ++ d).toList) = ((a.toList == c.toList) && (b.toList == d.toList)) := by
  have := cat_inj a.data.toList c.data.toList b.data.toList d.data.toList ha hc
  simp only [toList_eq, ByteArray.data_append, Array.toList_append, List.append_assoc, List.cons_append, List.nil_append]
  rw [Bool.eq_iff_iff]
  simp [this]

set_option maxHeartbeats 400000 in
theorem objectIds_any (a b c d : ByteArray) (w : World) (ha : a.size ≤ 140737488351232) (hb : b.size ≤ 140737488351232) (hc : c.size ≤ 140737488351232) (hd : d.size ≤ 140737488351232) :
    Calls Try.prog 3 #[.string a, .string b, .string c, .string d] w fun e w' => e = .returned (.bool true) ∧ w = w' := by
  go_enter Try.func3, Try.ntmps3
  go_wp2_with ((with_reducible refine (id_one _).mono ?_); rintro e w' ⟨rfl, rfl⟩)
  go_loop [9] (fun i => ∃ k : Nat, k ≤ a.size ∧ i = .int .i64 k ∧ Clean (a.data.toList.take k)) (fun i => a.size - (intOf i).toNat)
  case atStart => exact ⟨0, Nat.zero_le _, rfl, by intro x hx; simp at hx⟩
  case round =>
    obtain ⟨k, hk, rfl, hcl⟩ := hrel
    by_cases hlt : k < a.size
    · go_wp2
      · go_ret; exact ⟨rfl, rfl⟩
      · go_round
        case rel => exact ⟨k + 1, by omega, by go_num, clean_snoc hlt hcl (by assumption)⟩
        case measure => simp [intOf]; omega
    · have hka : k = a.size := by omega
      have hclA : Clean a.data.toList := by
        rw [hka, List.take_of_length_le (by simp)] at hcl; exact hcl
      clear hka hcl
      go_wp2
      go_loop [10] (fun i => ∃ k : Nat, k ≤ c.size ∧ i = .int .i64 k ∧ Clean (c.data.toList.take k)) (fun i => c.size - (intOf i).toNat)
      case atStart => exact ⟨0, Nat.zero_le _, rfl, by intro x hx; simp at hx⟩
      case round =>
        obtain ⟨m, hm, rfl, hcl⟩ := hrel
        by_cases hlt2 : m < c.size
        · go_wp2
          · go_ret; exact ⟨rfl, rfl⟩
          · go_round
            case rel => exact ⟨m + 1, by omega, by go_num, clean_snoc hlt2 hcl (by assumption)⟩
            case measure => simp [intOf]; omega
        · have hma : m = c.size := by omega
          have hclC : Clean c.data.toList := by
            rw [hma, List.take_of_length_le (by simp)] at hcl; exact hcl
          clear hma hcl
          have hfin := cat_beq a b c d hclA hclC
          have hne : (a.toList == c.toList) = true ∨ (a.toList == c.toList) = false := by cases (a.toList == c.toList) <;> simp
          rcases hne with hac | hac
          · rw [hac] at hfin
            have Hfin := Lib.hid hfin; clear hfin
            go_wp2_with ((with_reducible refine (id_any _ _ _ (by assumption) (by assumption)).mono ?_); rintro e w' ⟨rfl, rfl⟩)
            go_ret
            exact ⟨ret_bool (by rw [Hfin.out]; simp), rfl⟩
          · rw [hac] at hfin
            have Hfin := Lib.hid hfin; clear hfin
            go_wp2_with ((with_reducible refine (id_any _ _ _ (by assumption) (by assumption)).mono ?_); rintro e w' ⟨rfl, rfl⟩)
            go_ret
            exact ⟨ret_bool (by rw [Hfin.out]; simp), rfl⟩

end Go.Proofs.Ytcoohkgamogmgaa
