/- The walks of tok.tokenByte, Token, head.visible, fields.good and of their twins in the document. Condition: texts of at most 2^40 bytes. The walks of the document's Byte, Token, Text, Value and visible, and of fields.good. Condition: texts of at most 2^40 bytes. -/
import Derived.Test.YteehjkfmlcfffaaGreatDoorTokA
import Derived.Test.YteehjkfmlcfffaaGreatDoorPlainB
namespace Go.Proofs.YteehjkfmlcfffaaGreatDoor
open Go.RowKit

/-- A value, answered; the world as it was. -/
def RetP (w : World) (v : Value) (e : Ending) (w' : World) : Prop := e = .returned v ∧ w = w'

theorem seven (n : Nat) : n < 48 ∨ (48 ≤ n ∧ n ≤ 57) ∨ (57 < n ∧ n < 65) ∨ (65 ≤ n ∧ n ≤ 90) ∨ (90 < n ∧ n < 97) ∨ (97 ≤ n ∧ n ≤ 122) ∨ 122 < n := by omega
theorem tokB_num {c : UInt8} (h : 48 ≤ c.toNat ∧ c.toNat ≤ 57 ∨ 65 ≤ c.toNat ∧ c.toNat ≤ 90 ∨ 97 ≤ c.toNat ∧ c.toNat ≤ 122) : T.tokB c = true := by
  unfold T.tokB
  rcases h with h | h | h
  · simp [h.1, h.2]
  · simp [h.1, h.2]
  · simp [h.1, h.2]
theorem tokB_other {c : UInt8} (h1 : ¬ (48 ≤ c.toNat ∧ c.toNat ≤ 57)) (h2 : ¬ (65 ≤ c.toNat ∧ c.toNat ≤ 90)) (h3 : ¬ (97 ≤ c.toNat ∧ c.toNat ≤ 122)) : T.tokB c = T.others.contains c := by
  unfold T.tokB
  have e1 : (decide (48 ≤ c.toNat) && decide (c.toNat ≤ 57)) = false := by simp; omega
  have e2 : (decide (65 ≤ c.toNat) && decide (c.toNat ≤ 90)) = false := by simp; omega
  have e3 : (decide (97 ≤ c.toNat) && decide (c.toNat ≤ 122)) = false := by simp; omega
  rw [e1, e2, e3]
  rfl
theorem indexByte_contains : ∀ (l : List UInt8) (c : UInt8), (l.contains c = true ∧ 0 ≤ Lib.indexByte l c) ∨ (l.contains c = false ∧ Lib.indexByte l c < 0)
  | [], _ => .inr ⟨rfl, by simp [Lib.indexByte]⟩
  | b :: l, c => by
    have ih := indexByte_contains l c
    by_cases h : b = c
    · subst h
      left
      simp [Lib.indexByte]
    · have h1 : (b == c) = false := by simpa using h
      have h2 : (c == b) = false := by simpa using Ne.symm h
      have hcc : (b :: l).contains c = l.contains c := by rw [List.contains_cons, h2, Bool.false_or]
      rw [hcc]
      unfold Lib.indexByte
      rw [h1]
      simp only [Bool.false_eq_true, if_false]
      rcases ih with ⟨i1, i2⟩ | ⟨i1, i2⟩
      · left
        refine ⟨i1, ?_⟩
        split
        · rename_i h3
          have : Lib.indexByte l c = -1 := by simpa using h3
          omega
        · omega
      · right
        refine ⟨i1, ?_⟩
        split
        · omega
        · rename_i h3
          have : ¬ Lib.indexByte l c = -1 := by simpa using h3
          have lo : ∀ (l : List UInt8), -1 ≤ Lib.indexByte l c := by
            intro l
            induction l with
            | nil => simp [Lib.indexByte]
            | cons x l ih =>
              unfold Lib.indexByte
              split
              · omega
              · split
                · omega
                · omega
          have := lo l
          omega

theorem u8_self (c : UInt8) : ((c.toNat : Int).toNat).toUInt8 = c := by simp
theorem index_any (c : UInt8) (w : World) : Calls Tryz.prog 280 #[.string ⟨#[33, 35, 36, 37, 38, 39, 42, 43, 45, 46, 94, 95, 124, 126, 96]⟩, .int .u8 c.toNat] w (RetP w (.int .i64 (Lib.indexByte T.others c))) := by
  refine (Tryz.strings_IndexByte ⟨#[33, 35, 36, 37, 38, 39, 42, 43, 45, 46, 94, 95, 124, 126, 96]⟩ c.toNat w).mono ?_
  rintro e w' ⟨rfl, rfl⟩
  rw [u8_self]
  exact ⟨rfl, rfl⟩

set_option maxHeartbeats 1000000 in
theorem tokenByte_any (c : UInt8) (w : World) : Calls Tryz.prog 226 #[.int .u8 c.toNat] w (RetP w (.bool (T.tokB c))) := by
  have HI := Lib.hid (index_any c)
  have hc := indexByte_contains T.others c
  have hc2 : c.toNat < 256 := c.toNat_lt
  rcases seven c.toNat with h | ⟨h, h'⟩ | ⟨h, h'⟩ | ⟨h, h'⟩ | ⟨h, h'⟩ | ⟨h, h'⟩ | h
  case inr.inl | inr.inr.inr.inl | inr.inr.inr.inr.inr.inl =>
    rw [tokB_num (by omega)]
    clear hc HI
    go_enter Tryz.func226, Tryz.ntmps226
    go_wp2
    go_ret
    exact ⟨rfl, rfl⟩
  all_goals
    rw [tokB_other (by omega) (by omega) (by omega)]
    generalize Lib.indexByte T.others c = i at *
    rcases hc with ⟨e1, e2⟩ | ⟨e1, e2⟩
    all_goals
      rw [e1]
      clear e1
      go_enter Tryz.func226, Tryz.ntmps226
      go_wp2_with fail
      refine (HI.out _).mono ?_
      rintro e w' ⟨rfl, rfl⟩
      go_wp2
      go_ret
      exact ⟨ret_bool (by first | (simp; done) | (simp; omega)), rfl⟩

theorem all_step (p : UInt8 → Bool) (l : List UInt8) (k : Nat) (h : k < l.length) (ha : (l.take k).all p = true) (hp : p l[k] = true) : (l.take (k + 1)).all p = true := by
  rw [List.take_succ_eq_append_getElem h, List.all_append, ha]
  simp [hp]
theorem all_no (p : UInt8 → Bool) (l : List UInt8) (k : Nat) (h : k < l.length) (hp : p l[k] = false) : l.all p = false := by
  rw [List.all_eq_false]
  exact ⟨l[k], List.getElem_mem h, by simp [hp]⟩
theorem token_no {l : List UInt8} (h : l.all T.tokB = false) : T.token l = false := by unfold T.token; rw [h]; rfl
theorem token_yes {l : List UInt8} (h : l.all T.tokB = true) : T.token l = decide (0 < l.length) := by
  unfold T.token; rw [h]; cases l <;> simp
theorem vis_no {s : ByteArray} (h : (L s).all F.visB = false) : F.visible s = false := by unfold F.visible; rw [h]; rfl
theorem vis_yes {s : ByteArray} (h : (L s).all F.visB = true) : F.visible s = decide (0 < s.size) := by
  unfold F.visible; rw [h, L_size]; cases L s <;> simp

set_option maxHeartbeats 400000 in
theorem token_any (s : ByteArray) (w : World) (hs : s.size ≤ 1099511627776) : Calls Tryz.prog 150 #[.string s] w (RetP w (.bool (T.token (L s)))) := by
  have HZ : Hid ((L s).length = s.size) := (L_size s).symm
  go_enter Tryz.func150, Tryz.ntmps150
  go_wp2
  go_loop [3, 6] (fun _ i => ∃ k : Nat, k ≤ s.size ∧ i = .int .i64 k ∧ ((L s).take k).all T.tokB = true) (fun _ i => s.size - (intOf i).toNat)
  case atStart => exact ⟨0, Nat.zero_le _, rfl, by simp⟩
  case round =>
    obtain ⟨k, hk, rfl, ha⟩ := hrel
    have HAll := Lib.hid ha
    clear ha
    by_cases hlt : k < s.size
    · have hL : k < (L s).length := by rw [HZ.out]; exact hlt
      have HB := Lib.hid (tokenByte_any s[k])
      rcases tf (T.tokB ((L s)[k]'hL)) with h | h
      · have HN := Lib.hid (all_step T.tokB (L s) k hL HAll.out h)
        have hb : T.tokB s[k] = true := h
        rw [hb] at HB
        clear h hb
        go_wp2_with fail
        refine (HB.out _).mono ?_
        rintro e w' ⟨rfl, rfl⟩
        go_wp2
        go_round
        case rel => exact ⟨k + 1, by omega, by go_num, HN.out⟩
        case measure => simp [intOf]; omega
      · have HN := Lib.hid (token_no (all_no T.tokB (L s) k hL h))
        have hb : T.tokB s[k] = false := h
        rw [hb] at HB
        clear h hb
        go_wp2_with fail
        refine (HB.out _).mono ?_
        rintro e w' ⟨rfl, rfl⟩
        go_wp2
        go_ret
        exact ⟨ret_bool HN.out.symm, rfl⟩
    · have hks : k = s.size := by omega
      have ha := HAll.out
      rw [List.take_of_length_le (by rw [HZ.out]; omega)] at ha
      have hT := token_yes ha
      rw [HZ.out] at hT
      have HT := Lib.hid hT
      clear ha hT hks
      go_wp2
      go_ret
      exact ⟨ret_bool (by rw [HT.out]), rfl⟩

theorem visB_of (c : UInt8) : (F.visB c = true ∧ 33 ≤ c.toNat ∧ c.toNat ≤ 126) ∨ (F.visB c = false ∧ c.toNat ≤ 32) ∨ (F.visB c = false ∧ 33 ≤ c.toNat ∧ 127 ≤ c.toNat) := by
  unfold F.visB
  by_cases h1 : 33 ≤ c.toNat
  · by_cases h2 : c.toNat ≤ 126
    · left; simp [h1, h2]
    · right; right; exact ⟨by rw [decide_eq_false h2, Bool.and_false], h1, by omega⟩
  · right; left; exact ⟨by rw [decide_eq_false h1]; rfl, by omega⟩
theorem empty_tests (s : ByteArray) : (s.size = 0 ∧ s = ⟨#[]⟩) ∨ (0 < s.size ∧ ¬ s.toList = [] ∧ s.toList.isEmpty = false) := by
  rcases Nat.eq_zero_or_pos s.size with h | h
  · left
    refine ⟨h, ?_⟩
    apply L_inj
    have : (L s).length = 0 := by rw [← L_size]; exact h
    rw [List.eq_nil_of_length_eq_zero this]
    rfl
  · right
    have h2 : ¬ s.toList = [] := by
      rw [L_toList]
      intro h'
      rw [L_size, h'] at h
      simp at h
    exact ⟨h, h2, by cases hh : s.toList <;> simp_all⟩

set_option maxHeartbeats 400000 in
theorem visible_any (s : ByteArray) (w : World) (hs : s.size ≤ 1099511627776) : Calls Tryz.prog 151 #[.string s] w (RetP w (.bool (F.visible s))) := by
  have HZ : Hid ((L s).length = s.size) := (L_size s).symm
  go_enter Tryz.func151, Tryz.ntmps151
  go_wp2
  go_loop [3, 6] (fun _ i => ∃ k : Nat, k ≤ s.size ∧ i = .int .i64 k ∧ ((L s).take k).all F.visB = true) (fun _ i => s.size - (intOf i).toNat)
  case atStart => exact ⟨0, Nat.zero_le _, rfl, by simp⟩
  case round =>
    obtain ⟨k, hk, rfl, ha⟩ := hrel
    have HAll := Lib.hid ha
    clear ha
    by_cases hlt : k < s.size
    · have hL : k < (L s).length := by rw [HZ.out]; exact hlt
      have hcell : s[k] = (L s)[k]'hL := L_at s k hlt
      have hv := visB_of ((L s)[k]'hL)
      rw [← hcell] at hv
      rcases hv with ⟨h, g1, g2⟩ | ⟨h, g1⟩ | ⟨h, g1, g2⟩
      · have HN := Lib.hid (all_step F.visB (L s) k hL HAll.out h)
        clear h hcell
        go_wp2
        go_round
        case rel => exact ⟨k + 1, by omega, by go_num, HN.out⟩
        case measure => simp [intOf]; omega
      all_goals
        have HN := Lib.hid (vis_no (all_no F.visB (L s) k hL h))
        clear h hcell
        go_wp2
        go_ret
        exact ⟨ret_bool HN.out.symm, rfl⟩
    · have hks : k = s.size := by omega
      have ha := HAll.out
      rw [List.take_of_length_le (by rw [HZ.out]; omega)] at ha
      have HT := Lib.hid (vis_yes ha)
      clear ha hks
      rcases empty_tests s with ⟨_, rfl⟩ | ⟨z1, z2, z3⟩
      · go_wp2
        go_ret
        exact ⟨ret_bool (by rw [HT.out]; rfl), rfl⟩
      · go_wp2
        go_ret
        exact ⟨ret_bool (by rw [HT.out]; simp [z1]), rfl⟩
end Go.Proofs.YteehjkfmlcfffaaGreatDoor

namespace Go.Proofs.YteehjkfmlcfffaaGreatDoor
open Go.RowKit

def others14 : ByteArray := ⟨#[33, 35, 36, 37, 38, 39, 42, 43, 45, 46, 94, 95, 124, 126]⟩
theorem others_split (c : UInt8) : T.others.contains c = ((L others14).contains c || decide (c = 96)) := by
  have : T.others = L others14 ++ [96] := rfl
  rw [this]
  have h : ∀ l : List UInt8, (l ++ [96]).contains c = (l.contains c || decide (c = 96)) := by
    intro l
    induction l with
    | nil =>
      rw [Bool.eq_iff_iff]
      simp
    | cons x l ih => rw [List.cons_append, List.contains_cons, List.contains_cons, ih, Bool.or_assoc]
  exact h _
theorem contains_step (l : List UInt8) (c : UInt8) (k : Nat) (h : k < l.length) (h1 : (l.take k).contains c = false) (h2 : ¬ l[k] = c) : (l.take (k + 1)).contains c = false := by
  rw [List.take_succ_eq_append_getElem h]
  have : ∀ m : List UInt8, m.contains c = false → (m ++ [l[k]]).contains c = false := by
    intro m hm
    induction m with
    | nil => simp; exact fun e => h2 e.symm
    | cons x m ih =>
      rw [List.contains_cons, Bool.or_eq_false_iff] at hm
      rw [List.cons_append, List.contains_cons, hm.1, ih hm.2]
      rfl
  exact this _ h1
theorem contains_at (l : List UInt8) (c : UInt8) (k : Nat) (h : k < l.length) (h2 : l[k] = c) : l.contains c = true := by
  rw [List.contains_iff_mem, ← h2]
  exact List.getElem_mem h

def NotIn (l : List UInt8) (c : UInt8) (k : Nat) : Prop := (l.take k).contains c = false
set_option maxHeartbeats 1000000 in
theorem refByte_any (c : UInt8) (w : World) : Calls Tryz.prog 233 #[.int .u8 c.toNat] w (RetP w (.bool (T.tokB c))) := by
  have hc2 : c.toNat < 256 := c.toNat_lt
  rcases seven c.toNat with h | ⟨h, h'⟩ | ⟨h, h'⟩ | ⟨h, h'⟩ | ⟨h, h'⟩ | ⟨h, h'⟩ | h
  case inr.inl | inr.inr.inr.inl | inr.inr.inr.inr.inr.inl =>
    rw [tokB_num (by omega)]
    go_enter Tryz.func233, Tryz.ntmps233
    go_wp2
    go_ret
    exact ⟨rfl, rfl⟩
  all_goals
    have hR := others_split c
    rw [tokB_other (by omega) (by omega) (by omega)]
    generalize T.others.contains c = R at *
    have HR := Lib.hid hR
    clear hR
    have HOL : Hid ((L others14).length = 14) := rfl
    go_enter Tryz.func233, Tryz.ntmps233
    go_wp2
    have hos : others14.size = 14 := rfl
    change Code.wp _ _ _ ⟨#[_, _, _, .string others14, _, _, _, _, _, _, _, _, _, _, _, _, _, _, _, _, _, _, _, _, _, _, _, _, _, _, _, _, _, _, _, _, _, _, _, _], []⟩ _
    generalize others14 = O at *
    dsimp only
    go_loop [4] (fun i => ∃ k : Nat, k ≤ 14 ∧ i = .int .i64 k ∧ NotIn (L O) c k) (fun i => 14 - (intOf i).toNat)
    case atStart => exact ⟨0, Nat.zero_le _, rfl, rfl⟩
    case round =>
      obtain ⟨k, hk, rfl, ha⟩ := hrel
      have HA := Lib.hid ha
      clear ha
      by_cases hlt : k < 14
      · have hL : k < (L O).length := by rw [HOL.out]; exact hlt
        have hO : k < O.size := by omega
        have hcell : O[k] = (L O)[k]'hL := L_at O k hO
        by_cases hx : O[k] = c
        · have e1 := beqI_true hx
          have HN : Hid (R = true) := by
            have := contains_at (L O) c k hL (hcell.symm.trans hx)
            rw [HR.out, this]; exact Lib.hid rfl
          clear hx hcell
          go_wp2
          go_ret
          exact ⟨ret_bool HN.out.symm, rfl⟩
        · have e1 := beqI_false hx
          have HN : Hid (NotIn (L O) c (k + 1)) := Lib.hid (contains_step (L O) c k hL HA.out (fun h => hx (hcell.trans h)))
          clear hx hcell
          go_wp2
          go_round
          case rel => exact ⟨k + 1, by omega, by go_num, HN.out⟩
          case measure => simp [intOf]; omega
      · have hks : k = 14 := by omega
        subst hks
        have hN : ((L O).take 14).contains c = false := HA.out
        rw [List.take_of_length_le (by rw [HOL.out]; omega)] at hN
        have hR := HR.out
        rw [hN, Bool.false_or] at hR
        clear hN hlt HA HR
        by_cases hx : c = 96
        · have e1 : ((c.toNat : Int) == 96) = true := beqI_true hx
          have HX : Hid (R = true) := by rw [hR, decide_eq_true hx]; exact Lib.hid rfl
          clear hx hR
          go_wp2
          go_ret
          exact ⟨ret_bool HX.out.symm, rfl⟩
        · have e1 : ((c.toNat : Int) == 96) = false := beqI_false hx
          have HX : Hid (R = false) := by rw [hR, decide_eq_false hx]; exact Lib.hid rfl
          clear hx hR
          go_wp2
          go_ret
          exact ⟨ret_bool HX.out.symm, rfl⟩

theorem textB_of (c : UInt8) : (T.textB c = true ∧ ((c.toNat : Int) == 9) = true ∧ c.toNat < 32) ∨ (T.textB c = false ∧ ((c.toNat : Int) == 9) = false ∧ c.toNat < 32) ∨
    (T.textB c = true ∧ ((c.toNat : Int) == 9) = false ∧ 32 ≤ c.toNat ∧ ((c.toNat : Int) == 127) = false) ∨ (T.textB c = false ∧ ((c.toNat : Int) == 9) = false ∧ 32 ≤ c.toNat ∧ ((c.toNat : Int) == 127) = true) := by
  unfold T.textB
  by_cases h1 : c.toNat = 9
  · left; simp [h1]
  · by_cases h2 : 32 ≤ c.toNat
    · by_cases h3 : c.toNat = 127
      · right; right; right
        simp [h3]
      · right; right; left
        refine ⟨by simp [h2, h3], ?_, h2, ?_⟩
        · simp; omega
        · simp; omega
    · right; left
      refine ⟨by simp [h1]; omega, ?_, by omega⟩
      simp; omega

set_option maxHeartbeats 400000 in
theorem refText_any (c : UInt8) (w : World) : Calls Tryz.prog 215 #[.int .u8 c.toNat] w (RetP w (.bool (T.textB c))) := by
  rcases textB_of c with ⟨h, g1, g2⟩ | ⟨h, g1, g2⟩ | ⟨h, g1, g2, g3⟩ | ⟨h, g1, g2, g3⟩
  case' inr.inr.inl => have g4 : ((c.toNat : Int) != 127) = true := by rw [bne, g3]; rfl
  case' inr.inr.inr => have g4 : ((c.toNat : Int) != 127) = false := by rw [bne, g3]; rfl
  all_goals
    rw [h]
    clear h
    go_enter Tryz.func215, Tryz.ntmps215
    go_wp2
    go_ret
    exact ⟨rfl, rfl⟩

set_option maxHeartbeats 400000 in
theorem refToken_any (s : ByteArray) (w : World) (hs : s.size ≤ 1099511627776) : Calls Tryz.prog 157 #[.string s] w (RetP w (.bool (T.token (L s)))) := by
  have HZ : Hid ((L s).length = s.size) := (L_size s).symm
  go_enter Tryz.func157, Tryz.ntmps157
  go_wp2
  go_loop [3] (fun i => ∃ k : Nat, k ≤ s.size ∧ i = .int .i64 k ∧ ((L s).take k).all T.tokB = true) (fun i => s.size - (intOf i).toNat)
  case atStart => exact ⟨0, Nat.zero_le _, rfl, by simp⟩
  case round =>
    obtain ⟨k, hk, rfl, ha⟩ := hrel
    have HAll := Lib.hid ha
    clear ha
    by_cases hlt : k < s.size
    · have hL : k < (L s).length := by rw [HZ.out]; exact hlt
      have HB := Lib.hid (refByte_any s[k])
      rcases tf (T.tokB ((L s)[k]'hL)) with h | h
      · have HN := Lib.hid (all_step T.tokB (L s) k hL HAll.out h)
        have hb : T.tokB s[k] = true := h
        rw [hb] at HB
        clear h hb
        go_wp2_with fail
        refine (HB.out _).mono ?_
        rintro e w' ⟨rfl, rfl⟩
        go_wp2
        go_round
        case rel => exact ⟨k + 1, by omega, by go_num, HN.out⟩
        case measure => simp [intOf]; omega
      · have HN := Lib.hid (token_no (all_no T.tokB (L s) k hL h))
        have hb : T.tokB s[k] = false := h
        rw [hb] at HB
        clear h hb
        go_wp2_with fail
        refine (HB.out _).mono ?_
        rintro e w' ⟨rfl, rfl⟩
        go_wp2
        go_ret
        exact ⟨ret_bool HN.out.symm, rfl⟩
    · have hks : k = s.size := by omega
      have ha := HAll.out
      rw [List.take_of_length_le (by rw [HZ.out]; omega)] at ha
      have hT := token_yes ha
      rw [HZ.out] at hT
      have HT := Lib.hid hT
      clear ha hT hks
      rcases empty_tests s with ⟨_, rfl⟩ | ⟨z1, z2, z3⟩
      · go_wp2
        go_ret
        exact ⟨ret_bool (by rw [HT.out]; rfl), rfl⟩
      · go_wp2
        go_ret
        exact ⟨ret_bool (by rw [HT.out]; simp [z1]), rfl⟩

set_option maxHeartbeats 400000 in
theorem refVisible_any (s : ByteArray) (w : World) (hs : s.size ≤ 1099511627776) : Calls Tryz.prog 158 #[.string s] w (RetP w (.bool (F.visible s))) := by
  have HZ : Hid ((L s).length = s.size) := (L_size s).symm
  go_enter Tryz.func158, Tryz.ntmps158
  go_wp2
  go_loop [3] (fun i => ∃ k : Nat, k ≤ s.size ∧ i = .int .i64 k ∧ ((L s).take k).all F.visB = true) (fun i => s.size - (intOf i).toNat)
  case atStart => exact ⟨0, Nat.zero_le _, rfl, by simp⟩
  case round =>
    obtain ⟨k, hk, rfl, ha⟩ := hrel
    have HAll := Lib.hid ha
    clear ha
    by_cases hlt : k < s.size
    · have hL : k < (L s).length := by rw [HZ.out]; exact hlt
      have hcell : s[k] = (L s)[k]'hL := L_at s k hlt
      have hv := visB_of ((L s)[k]'hL)
      rw [← hcell] at hv
      rcases hv with ⟨h, g1, g2⟩ | ⟨h, g1⟩ | ⟨h, g1, g2⟩
      · have HN := Lib.hid (all_step F.visB (L s) k hL HAll.out h)
        clear h hcell
        go_wp2
        go_round
        case rel => exact ⟨k + 1, by omega, by go_num, HN.out⟩
        case measure => simp [intOf]; omega
      all_goals
        have HN := Lib.hid (vis_no (all_no F.visB (L s) k hL h))
        clear h hcell
        go_wp2
        go_ret
        exact ⟨ret_bool HN.out.symm, rfl⟩
    · have hks : k = s.size := by omega
      have ha := HAll.out
      rw [List.take_of_length_le (by rw [HZ.out]; omega)] at ha
      have HT := Lib.hid (vis_yes ha)
      clear ha hks
      rcases empty_tests s with ⟨_, rfl⟩ | ⟨z1, z2, z3⟩
      · go_wp2
        go_ret
        exact ⟨ret_bool (by rw [HT.out]; rfl), rfl⟩
      · go_wp2
        go_ret
        exact ⟨ret_bool (by rw [HT.out]; simp [z1]), rfl⟩

theorem good_no {s : ByteArray} (h : (L s).all T.textB = false) : F.good s = false := by unfold F.good; rw [h]; rfl
theorem good_yes {s : ByteArray} (h : (L s).all T.textB = true) : F.good s = ((B (T.trim (L s))).toList == s.toList) := by
  unfold F.good
  rw [h, Bool.true_and, beq_bytes]
  by_cases e : T.trim (L s) = L s
  · rw [decide_eq_true e, decide_eq_true (by rw [e]; exact B_L s)]
  · rw [decide_eq_false e, decide_eq_false (fun h' => e (by have := congrArg L h'; exact this))]

set_option maxHeartbeats 400000 in
theorem good_any (s : ByteArray) (w : World) (hs : s.size ≤ 1099511627776) : Calls Tryz.prog 288 #[.string s] w (RetB w (F.good s)) := by
  have HZ : Hid ((L s).length = s.size) := (L_size s).symm
  have HTR := Lib.hid (trim_any s w hs)
  go_enter Tryz.func288, Tryz.ntmps288
  go_wp2
  go_loop [3, 4, 7] (fun _ _ i => ∃ k : Nat, k ≤ s.size ∧ i = .int .i64 k ∧ ((L s).take k).all T.textB = true) (fun _ _ i => s.size - (intOf i).toNat)
  case atStart => exact ⟨0, Nat.zero_le _, rfl, by simp⟩
  case round =>
    obtain ⟨k, hk, rfl, ha⟩ := hrel
    have HAll := Lib.hid ha
    clear ha
    by_cases hlt : k < s.size
    · have hL : k < (L s).length := by rw [HZ.out]; exact hlt
      have hcell : s[k] = (L s)[k]'hL := L_at s k hlt
      have hv := textB_of ((L s)[k]'hL)
      rw [← hcell] at hv
      rcases hv with ⟨h, g1, g2⟩ | ⟨h, g1, g2⟩ | ⟨h, g1, g2, g3⟩ | ⟨h, g1, g2, g3⟩
      · have g5 : ((s[k].toNat : Int) != 9) = false := by rw [bne, g1]; rfl
        have g6 : decide ((s[k].toNat : Int) < 32) = true := by first | (rw [decide_eq_true_eq]; omega) | (rw [decide_eq_false_iff_not]; omega)
        have HN := Lib.hid (all_step T.textB (L s) k hL HAll.out h)
        clear h hcell
        go_wp2
        go_round
        case rel => exact ⟨k + 1, by omega, by go_num, HN.out⟩
        case measure => simp [intOf]; omega
      · have g5 : ((s[k].toNat : Int) != 9) = true := by rw [bne, g1]; rfl
        have g6 : decide ((s[k].toNat : Int) < 32) = true := by first | (rw [decide_eq_true_eq]; omega) | (rw [decide_eq_false_iff_not]; omega)
        have n1 : ¬ (s[k].toNat : Int) = 9 := by simpa using g1
        have n2 : (s[k].toNat : Int) < 32 := by omega
        have HN := Lib.hid (good_no (all_no T.textB (L s) k hL h))
        clear h hcell
        go_wp2
        go_ret
        exact ⟨ret_bool HN.out.symm, Below.refl _ _⟩
      · have g5 : ((s[k].toNat : Int) != 9) = true := by rw [bne, g1]; rfl
        have g6 : decide ((s[k].toNat : Int) < 32) = false := by first | (rw [decide_eq_true_eq]; omega) | (rw [decide_eq_false_iff_not]; omega)
        have n1 : ¬ (s[k].toNat : Int) = 9 := by simpa using g1
        have n2 : ¬ (s[k].toNat : Int) < 32 := by omega
        have n3 : ¬ (s[k].toNat : Int) = 127 := by simpa using g3
        have n5 : (((s[k].toNat : Int) != 9) && (decide ((s[k].toNat : Int) < 32) || ((s[k].toNat : Int) == 127))) = false := by rw [g5, g6, g3]; rfl
        have n6 : ¬ (((s[k].toNat : Int) != 9) = true ∧ ((s[k].toNat : Int) < 32 ∨ ((s[k].toNat : Int) == 127) = true)) := by rw [g3]; rintro ⟨_, h | h⟩ <;> first | exact n2 h | cases h
        have HN := Lib.hid (all_step T.textB (L s) k hL HAll.out h)
        clear h hcell
        go_wp2
        go_round
        case rel => exact ⟨k + 1, by omega, by go_num, HN.out⟩
        case measure => simp [intOf]; omega
      · have g5 : ((s[k].toNat : Int) != 9) = true := by rw [bne, g1]; rfl
        have g6 : decide ((s[k].toNat : Int) < 32) = false := by first | (rw [decide_eq_true_eq]; omega) | (rw [decide_eq_false_iff_not]; omega)
        have n1 : ¬ (s[k].toNat : Int) = 9 := by simpa using g1
        have n2 : ¬ (s[k].toNat : Int) < 32 := by omega
        have n3 : (s[k].toNat : Int) = 127 := by simpa using g3
        have n5 : (((s[k].toNat : Int) != 9) && (decide ((s[k].toNat : Int) < 32) || ((s[k].toNat : Int) == 127))) = true := by rw [g5, g6, g3]; rfl
        have n6 : ((s[k].toNat : Int) != 9) = true ∧ ((s[k].toNat : Int) < 32 ∨ ((s[k].toNat : Int) == 127) = true) := ⟨g5, .inr g3⟩
        have HN := Lib.hid (good_no (all_no T.textB (L s) k hL h))
        clear h hcell
        go_wp2
        · go_ret
          exact ⟨ret_bool HN.out.symm, Below.refl _ _⟩
        · exfalso
          have hh : ((s[k].toNat : Int) != 9) = false ∨ (32 : Int) ≤ (s[k].toNat : Int) ∧ ((s[k].toNat : Int) == 127) = false := by assumption
          rcases hh with h | ⟨_, h⟩
          · rw [g5] at h; cases h
          · rw [g3] at h; cases h
    · have hks : k = s.size := by omega
      have ha := HAll.out
      rw [List.take_of_length_le (by rw [HZ.out]; omega)] at ha
      have HT := Lib.hid (good_yes ha)
      clear ha hks
      go_wp2_with fail
      refine HTR.out.mono ?_
      rintro e w1 ⟨rfl, hb1⟩
      go_wp2
      go_ret
      exact ⟨ret_bool HT.out.symm, hb1⟩

set_option maxHeartbeats 400000 in
theorem refValue_any (s : ByteArray) (w : World) (hs : s.size ≤ 1099511627776) : Calls Tryz.prog 272 #[.string s] w (RetB w (F.good s)) := by
  have HZ : Hid ((L s).length = s.size) := (L_size s).symm
  have HTR := Lib.hid (refTrim_any s w hs)
  go_enter Tryz.func272, Tryz.ntmps272
  go_wp2
  go_loop [3] (fun i => ∃ k : Nat, k ≤ s.size ∧ i = .int .i64 k ∧ ((L s).take k).all T.textB = true) (fun i => s.size - (intOf i).toNat)
  case atStart => exact ⟨0, Nat.zero_le _, rfl, by simp⟩
  case round =>
    obtain ⟨k, hk, rfl, ha⟩ := hrel
    have HAll := Lib.hid ha
    clear ha
    by_cases hlt : k < s.size
    · have hL : k < (L s).length := by rw [HZ.out]; exact hlt
      have HB := Lib.hid (refText_any s[k])
      rcases tf (T.textB ((L s)[k]'hL)) with h | h
      · have HN := Lib.hid (all_step T.textB (L s) k hL HAll.out h)
        have hb : T.textB s[k] = true := h
        rw [hb] at HB
        clear h hb
        go_wp2_with fail
        refine (HB.out _).mono ?_
        rintro e w' ⟨rfl, rfl⟩
        go_wp2
        go_round
        case rel => exact ⟨k + 1, by omega, by go_num, HN.out⟩
        case measure => simp [intOf]; omega
      · have HN := Lib.hid (good_no (all_no T.textB (L s) k hL h))
        have hb : T.textB s[k] = false := h
        rw [hb] at HB
        clear h hb
        go_wp2_with fail
        refine (HB.out _).mono ?_
        rintro e w' ⟨rfl, rfl⟩
        go_wp2
        go_ret
        exact ⟨ret_bool HN.out.symm, Below.refl _ _⟩
    · have hks : k = s.size := by omega
      have ha := HAll.out
      rw [List.take_of_length_le (by rw [HZ.out]; omega)] at ha
      have HT := Lib.hid (good_yes ha)
      clear ha hks
      go_wp2_with fail
      refine HTR.out.mono ?_
      rintro e w1 ⟨rfl, hb1⟩
      go_wp2
      go_ret
      exact ⟨ret_bool HT.out.symm, hb1⟩
end Go.Proofs.YteehjkfmlcfffaaGreatDoor
