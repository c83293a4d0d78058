/- The walks of tok.tokenByte, Token, head.visible, fields.good and of their twins in the document. Condition: texts of at most 2^40 bytes. -/
import Derived.Test.YtcoohkgamogmgaaDoorTok3
import Derived.Test.YtcoohkgamogmgaaDoorPlain6
namespace Go.Proofs.YtcoohkgamogmgaaDoor
open Go.RowKit

/-- A value, answered; the world as it was. -/
def RetP (w : World) (v : Value) (e : Ending) (w' : World) : Prop := e = .returned v ∧ w = w'

theorem seven (n : Nat) : n < 48 ∨ (48 ≤ n ∧ n ≤ 57) ∨ (57 < n ∧ n < 65) ∨ (65 ≤ n ∧ n ≤ 90) ∨ (90 < n ∧ n < 97) ∨ (97 ≤ n ∧ n ≤ 122) ∨ 122 < n := by omega
theorem tokB_num {c : UInt8} (h : 48 ≤ c.toNat ∧ c.toNat ≤ 57 ∨ 65 ≤ c.toNat ∧ c.toNat ≤ 90 ∨ 97 ≤ c.toNat ∧ c.toNat ≤ 122) : T.tokB c = true := by
  unfold T.tokB
  rcases h with h | h | h
  · simp [h.1, h.2]
  · simp [h.1, h.2]
  · simp [h.1, h.2]
theorem tokB_other {c : UInt8} (h1 : ¬ (48 ≤ c.toNat ∧ c.toNat ≤ 57)) (h2 : ¬ (65 ≤ c.toNat ∧ c.toNat ≤ 90)) (h3 : ¬ (97 ≤ c.toNat ∧ c.toNat ≤ 122)) : T.tokB c = T.others.contains c := by
  unfold T.tokB
  have e1 : (decide (48 ≤ c.toNat) && decide (c.toNat ≤ 57)) = false := by simp; omega
  have e2 : (decide (65 ≤ c.toNat) && decide (c.toNat ≤ 90)) = false := by simp; omega
  have e3 : (decide (97 ≤ c.toNat) && decide (c.toNat ≤ 122)) = false := by simp; omega
  rw [e1, e2, e3]
  rfl
theorem indexByte_contains : ∀ (l : List UInt8) (c : UInt8), (l.contains c = true ∧ 0 ≤ Lib.indexByte l c) ∨ (l.contains c = false ∧ Lib.indexByte l c < 0)
  | [], _ => .inr ⟨rfl, by simp [Lib.indexByte]⟩
  | b :: l, c => by
    have ih := indexByte_contains l c
    by_cases h : b = c
    · subst h
      left
      simp [Lib.indexByte]
    · have h1 : (b == c) = false := by simpa using h
      have h2 : (c == b) = false := by simpa using Ne.symm h
      have hcc : (b :: l).contains c = l.contains c := by rw [List.contains_cons, h2, Bool.false_or]
      rw [hcc]
      unfold Lib.indexByte
      rw [h1]
      simp only [Bool.false_eq_true, if_false]
      rcases ih with ⟨i1, i2⟩ | ⟨i1, i2⟩
      · left
        refine ⟨i1, ?_⟩
        split
        · rename_i h3
          have : Lib.indexByte l c = -1 := by simpa using h3
          omega
        · omega
      · right
        refine ⟨i1, ?_⟩
        split
        · omega
        · rename_i h3
          have : ¬ Lib.indexByte l c = -1 := by simpa using h3
          have lo : ∀ (l : List UInt8), -1 ≤ Lib.indexByte l c := by
            intro l
            induction l with
            | nil => simp [Lib.indexByte]
            | cons x l ih =>
              unfold Lib.indexByte
              split
              · omega
              · split
                · omega
                · omega
          have := lo l
          omega

theorem u8_self (c : UInt8) : ((c.toNat : Int).toNat).toUInt8 = c := by simp
theorem index_any (c : UInt8) (w : World) : Calls Tryd.prog 132 #[.string ⟨#[33, 35, 36, 37, 38, 39, 42, 43, 45, 46, 94, 95, 124, 126, 96]⟩, .int .u8 c.toNat] w (RetP w (.int .i64 (Lib.indexByte T.others c))) := by
  refine (Tryd.strings_IndexByte ⟨#[33, 35, 36, 37, 38, 39, 42, 43, 45, 46, 94, 95, 124, 126, 96]⟩ c.toNat w).mono ?_
  rintro e w' ⟨rfl, rfl⟩
  rw [u8_self]
  exact ⟨rfl, rfl⟩

set_option maxHeartbeats 1000000 in
theorem tokenByte_any (c : UInt8) (w : World) : Calls Tryd.prog 108 #[.int .u8 c.toNat] w (RetP w (.bool (T.tokB c))) := by
  have HI := Lib.hid (index_any c)
  have hc := indexByte_contains T.others c
  have hc2 : c.toNat < 256 := c.toNat_lt
  rcases seven c.toNat with h | ⟨h, h'⟩ | ⟨h, h'⟩ | ⟨h, h'⟩ | ⟨h, h'⟩ | ⟨h, h'⟩ | h
  case inr.inl | inr.inr.inr.inl | inr.inr.inr.inr.inr.inl =>
    rw [tokB_num (by omega)]
    clear hc HI
    go_enter Tryd.func108, Tryd.ntmps108
    go_wp2
    go_ret
    exact ⟨rfl, rfl⟩
  all_goals
    rw [tokB_other (by omega) (by omega) (by omega)]
    generalize Lib.indexByte T.others c = i at *
    rcases hc with ⟨e1, e2⟩ | ⟨e1, e2⟩
    all_goals
      rw [e1]
      clear e1
      go_enter Tryd.func108, Tryd.ntmps108
      go_wp2_with fail
      refine (HI.out _).mono ?_
      rintro e w' ⟨rfl, rfl⟩
      go_wp2
      go_ret
      exact ⟨ret_bool (by first | (simp; done) | (simp; omega)), rfl⟩

theorem all_step (p : UInt8 → Bool) (l : List UInt8) (k : Nat) (h : k < l.length) (ha : (l.take k).all p = true) (hp : p l[k] = true) : (l.take (k + 1)).all p = true := by
  rw [List.take_succ_eq_append_getElem h, List.all_append, ha]
  simp [hp]
theorem all_no (p : UInt8 → Bool) (l : List UInt8) (k : Nat) (h : k < l.length) (hp : p l[k] = false) : l.all p = false := by
  rw [List.all_eq_false]
  exact ⟨l[k], List.getElem_mem h, by simp [hp]⟩
theorem token_no {l : List UInt8} (h : l.all T.tokB = false) : T.token l = false := by unfold T.token; rw [h]; rfl
theorem token_yes {l : List UInt8} (h : l.all T.tokB = true) : T.token l = decide (0 < l.length) := by
  unfold T.token; rw [h]; cases l <;> simp
theorem vis_no {s : ByteArray} (h : (L s).all F.visB = false) : F.visible s = false := by unfold F.visible; rw [h]; rfl
theorem vis_yes {s : ByteArray} (h : (L s).all F.visB = true) : F.visible s = decide (0 < s.size) := by
  unfold F.visible; rw [h, L_size]; cases L s <;> simp

set_option maxHeartbeats 400000 in
theorem token_any (s : ByteArray) (w : World) (hs : s.size ≤ 1099511627776) : Calls Tryd.prog 74 #[.string s] w (RetP w (.bool (T.token (L s)))) := by
  have HZ : Hid ((L s).length = s.size) := (L_size s).symm
  go_enter Tryd.func74, Tryd.ntmps74
  go_wp2
  go_loop [3, 6] (fun _ i => ∃ k : Nat, k ≤ s.size ∧ i = .int .i64 k ∧ ((L s).take k).all T.tokB = true) (fun _ i => s.size - (intOf i).toNat)
  case atStart => exact ⟨0, Nat.zero_le _, rfl, by simp⟩
  case round =>
    obtain ⟨k, hk, rfl, ha⟩ := hrel
    have HAll := Lib.hid ha
    clear ha
    by_cases hlt : k < s.size
    · have hL : k < (L s).length := by rw [HZ.out]; exact hlt
      have HB := Lib.hid (tokenByte_any s[k])
      rcases tf (T.tokB ((L s)[k]'hL)) with h | h
      · have HN := Lib.hid (all_step T.tokB (L s) k hL HAll.out h)
        have hb : T.tokB s[k] = true := h
        rw [hb] at HB
        clear h hb
        go_wp2_with fail
        refine (HB.out _).mono ?_
        rintro e w' ⟨rfl, rfl⟩
        go_wp2
        go_round
        case rel => exact ⟨k + 1, by omega, by go_num, HN.out⟩
        case measure => simp [intOf]; omega
      · have HN := Lib.hid (token_no (all_no T.tokB (L s) k hL h))
        have hb : T.tokB s[k] = false := h
        rw [hb] at HB
        clear h hb
        go_wp2_with fail
        refine (HB.out _).mono ?_
        rintro e w' ⟨rfl, rfl⟩
        go_wp2
        go_ret
        exact ⟨ret_bool HN.out.symm, rfl⟩
    · have hks : k = s.size := by omega
      have ha := HAll.out
      rw [List.take_of_length_le (by rw [HZ.out]; omega)] at ha
      have hT := token_yes ha
      rw [HZ.out] at hT
      have HT := Lib.hid hT
      clear ha hT hks
      go_wp2
      go_ret
      exact ⟨ret_bool (by rw [HT.out]), rfl⟩

theorem visB_of (c : UInt8) : (F.visB c = true ∧ 33 ≤ c.toNat ∧ c.toNat ≤ 126) ∨ (F.visB c = false ∧ c.toNat ≤ 32) ∨ (F.visB c = false ∧ 33 ≤ c.toNat ∧ 127 ≤ c.toNat) := by
  unfold F.visB
  by_cases h1 : 33 ≤ c.toNat
  · by_cases h2 : c.toNat ≤ 126
    · left; simp [h1, h2]
    · right; right; exact ⟨by rw [decide_eq_false h2, Bool.and_false], h1, by omega⟩
  · right; left; exact ⟨by rw [decide_eq_false h1]; rfl, by omega⟩
theorem empty_tests (s : ByteArray) : (s.size = 0 ∧ s = ⟨#[]⟩) ∨ (0 < s.size ∧ ¬ s.toList = [] ∧ s.toList.isEmpty = false) := by
  rcases Nat.eq_zero_or_pos s.size with h | h
  · left
    refine ⟨h, ?_⟩
    apply L_inj
    have : (L s).length = 0 := by rw [← L_size]; exact h
    rw [List.eq_nil_of_length_eq_zero this]
    rfl
  · right
    have h2 : ¬ s.toList = [] := by
      rw [L_toList]
      intro h'
      rw [L_size, h'] at h
      simp at h
    exact ⟨h, h2, by cases hh : s.toList <;> simp_all⟩

set_option maxHeartbeats 400000 in
theorem visible_any (s : ByteArray) (w : World) (hs : s.size ≤ 1099511627776) : Calls Tryd.prog 75 #[.string s] w (RetP w (.bool (F.visible s))) := by
  have HZ : Hid ((L s).length = s.size) := (L_size s).symm
  go_enter Tryd.func75, Tryd.ntmps75
  go_wp2
  go_loop [3, 6] (fun _ i => ∃ k : Nat, k ≤ s.size ∧ i = .int .i64 k ∧ ((L s).take k).all F.visB = true) (fun _ i => s.size - (intOf i).toNat)
  case atStart => exact ⟨0, Nat.zero_le _, rfl, by simp⟩
  case round =>
    obtain ⟨k, hk, rfl, ha⟩ := hrel
    have HAll := Lib.hid ha
    clear ha
    by_cases hlt : k < s.size
    · have hL : k < (L s).length := by rw [HZ.out]; exact hlt
      have hcell : s[k] = (L s)[k]'hL := L_at s k hlt
      have hv := visB_of ((L s)[k]'hL)
      rw [← hcell] at hv
      rcases hv with ⟨h, g1, g2⟩ | ⟨h, g1⟩ | ⟨h, g1, g2⟩
      · have HN := Lib.hid (all_step F.visB (L s) k hL HAll.out h)
        clear h hcell
        go_wp2
        go_round
        case rel => exact ⟨k + 1, by omega, by go_num, HN.out⟩
        case measure => simp [intOf]; omega
      all_goals
        have HN := Lib.hid (vis_no (all_no F.visB (L s) k hL h))
        clear h hcell
        go_wp2
        go_ret
        exact ⟨ret_bool HN.out.symm, rfl⟩
    · have hks : k = s.size := by omega
      have ha := HAll.out
      rw [List.take_of_length_le (by rw [HZ.out]; omega)] at ha
      have HT := Lib.hid (vis_yes ha)
      clear ha hks
      rcases empty_tests s with ⟨_, rfl⟩ | ⟨z1, z2, z3⟩
      · go_wp2
        go_ret
        exact ⟨ret_bool (by rw [HT.out]; rfl), rfl⟩
      · go_wp2
        go_ret
        exact ⟨ret_bool (by rw [HT.out]; simp [z1]), rfl⟩
end Go.Proofs.YtcoohkgamogmgaaDoor
