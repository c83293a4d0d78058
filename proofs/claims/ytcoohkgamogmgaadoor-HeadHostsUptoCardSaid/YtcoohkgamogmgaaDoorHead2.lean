/- The walks of head.version and the document's. Condition: a text of at most 2^31 bytes. -/
import Derived.Test.YtcoohkgamogmgaaDoorHead1
namespace Go.Proofs.YtcoohkgamogmgaaDoor
open Go.RowKit

theorem digit_any (c : UInt8) (w : World) : Calls Tryd.prog 109 #[.int .u8 c.toNat] w (RetP w (.bool (P.dig c))) := by
  rcases (by omega : c.toNat < 48 ∨ (48 ≤ c.toNat ∧ c.toNat ≤ 57) ∨ 57 < c.toNat) with h | ⟨h, h'⟩ | h
  · have e : P.dig c = false := by unfold P.dig; rw [decide_eq_false (by omega : ¬ 48 ≤ c.toNat)]; rfl
    rw [e]
    have g1 : ¬ (48 : Int) ≤ (c.toNat : Int) := by omega
    clear e
    go_enter Tryd.func109, Tryd.ntmps109
    go_wp2
    go_ret
    exact ⟨rfl, rfl⟩
  · have e : P.dig c = true := by unfold P.dig; rw [decide_eq_true h, decide_eq_true h']; rfl
    rw [e]
    have g1 : (48 : Int) ≤ (c.toNat : Int) := by omega
    have g2 : (c.toNat : Int) ≤ 57 := by omega
    clear e
    go_enter Tryd.func109, Tryd.ntmps109
    go_wp2
    go_ret
    exact ⟨rfl, rfl⟩
  · have e : P.dig c = false := by unfold P.dig; rw [decide_eq_false (by omega : ¬ c.toNat ≤ 57), Bool.and_false]
    rw [e]
    have g1 : (48 : Int) ≤ (c.toNat : Int) := by omega
    have g2 : ¬ (c.toNat : Int) ≤ 57 := by omega
    clear e
    go_enter Tryd.func109, Tryd.ntmps109
    go_wp2
    go_ret
    exact ⟨rfl, rfl⟩

theorem verN_bad {l : List UInt8} (h : P.verShape l = false) : P.verN l = 0 := by
  unfold P.verN
  rw [if_neg]
  rintro rfl
  revert h
  decide
theorem ver_bad {l : List UInt8} (h : P.verShape l = false) : P.verE l = 50 ∧ P.verN l = 0 := ⟨if_pos h, verN_bad h⟩
def httpP : List UInt8 := [72, 84, 84, 80, 47]
theorem prefix_take (l : List UInt8) : Lib.hasPrefix l httpP = decide (l.take 5 = httpP) := by
  rw [← Lib.hasPrefix_of_take]
  have e : httpP.length = 5 := rfl
  rw [e]
  by_cases h : l.take 5 = httpP
  · have : 5 ≤ l.length := by
      have := congrArg List.length h
      rw [List.length_take, e] at this
      omega
    rw [decide_eq_true this, decide_eq_true h, h]
    decide
  · have h2 : (l.take 5 == httpP) = false := by simpa using h
    rw [h2, decide_eq_false h, Bool.and_false]
/-- The six ways through a version's shape. -/
theorem ver_ways (s : ByteArray) : (s.size ≠ 8 ∧ P.verShape (L s) = false) ∨ ∃ h : s.size = 8,
    ((L s).take 5 ≠ httpP ∧ P.verShape (L s) = false) ∨ ((L s).take 5 = httpP ∧
      ((P.dig (s[5]'(by omega)) = false ∧ P.verShape (L s) = false) ∨ (P.dig (s[5]'(by omega)) = true ∧
        ((s[6]'(by omega) ≠ 46 ∧ P.verShape (L s) = false) ∨ (s[6]'(by omega) = 46 ∧
          ((P.dig (s[7]'(by omega)) = false ∧ P.verShape (L s) = false) ∨ (P.dig (s[7]'(by omega)) = true ∧ P.verShape (L s) = true))))))) := by
  by_cases h : s.size = 8
  · right
    refine ⟨h, ?_⟩
    have hl : (L s).length = 8 := by rw [← L_size]; exact h
    have g : ∀ j (hj : j < s.size), (L s).getD j 0 = s[j]'hj := fun j hj => by
      rw [L_at s j hj]
      have : j < (L s).length := by rw [← L_size]; exact hj
      simp [List.getD, this]
    unfold P.verShape
    rw [decide_eq_true hl, g 5 (by omega), g 6 (by omega), g 7 (by omega)]
    change _ ∨ (_ ∧ _)
    by_cases h1 : (L s).take 5 = httpP
    · right
      refine ⟨h1, ?_⟩
      rw [decide_eq_true (show (L s).take 5 = [72, 84, 84, 80, 47] from h1)]
      simp only [Bool.true_and]
      rcases tf (P.dig (s[5]'(by omega))) with h2 | h2
      · right
        refine ⟨h2, ?_⟩
        rw [h2]
        by_cases h3 : s[6]'(by omega) = 46
        · right
          refine ⟨h3, ?_⟩
          rw [decide_eq_true h3]
          rcases tf (P.dig (s[7]'(by omega))) with h4 | h4
          · right; exact ⟨h4, by rw [h4]; rfl⟩
          · left; exact ⟨h4, by rw [h4]; rfl⟩
        · left
          exact ⟨h3, by rw [decide_eq_false h3]; rfl⟩
      · left
        exact ⟨h2, by rw [h2]; rfl⟩
    · left
      exact ⟨h1, by rw [decide_eq_false (show ¬ (L s).take 5 = [72, 84, 84, 80, 47] from h1)]; rfl⟩
  · left
    exact ⟨h, by unfold P.verShape; rw [decide_eq_false (fun e => h (by rw [L_size]; exact e))]; rfl⟩
theorem ver_good {l : List UInt8} (h : P.verShape l = true) : (l = P.http10 ∧ P.verE l = 0 ∧ P.verN l = 0) ∨ (l ≠ P.http10 ∧ l = P.http11 ∧ P.verE l = 0 ∧ P.verN l = 1) ∨ (l ≠ P.http10 ∧ l ≠ P.http11 ∧ P.verE l = 52 ∧ P.verN l = 0) := by
  unfold P.verE P.verN
  rw [h]
  by_cases h1 : l = P.http10
  · left
    refine ⟨h1, ?_, ?_⟩
    · rw [if_neg (by decide), if_pos (.inl h1)]
    · rw [if_neg]; rw [h1]; decide
  · right
    by_cases h2 : l = P.http11
    · left
      exact ⟨h1, h2, by rw [if_neg (by decide), if_pos (.inr h2)], if_pos h2⟩
    · right
      exact ⟨h1, h2, by rw [if_neg (by decide), if_neg (fun h => h.elim h1 h2)], if_neg h2⟩

def RetV (w : World) (s : ByteArray) (e : Ending) (w' : World) : Prop := e = .returned (.tuple #[.int .i64 (P.verN (L s)), .int .i64 (P.verE (L s))]) ∧ w = w'

set_option maxRecDepth 100000 in
set_option maxHeartbeats 1000000 in
theorem version_any (s : ByteArray) (w : World) : Calls Tryd.prog 76 #[.string s] w (RetV w s) := by
  have HP : Hid (∀ u, Calls Tryd.prog 110 #[.string s, .string ⟨#[72, 84, 84, 80, 47]⟩] u (RetP u (.bool (decide ((L s).take 5 = httpP))))) := Lib.hid (fun u => by
    rw [← prefix_take]
    exact prefix_any s ⟨#[72, 84, 84, 80, 47]⟩ u)
  rcases ver_ways s with ⟨h8, hv⟩ | ⟨h8, h⟩
  · have HV := Lib.hid (ver_bad hv)
    have g1 : ((s.size : Int) != 8) = true := by simpa using (show ¬ (s.size : Int) = 8 by omega)
    clear hv HP
    go_enter Tryd.func76, Tryd.ntmps76
    go_wp2
    go_ret2
    exact ⟨by rw [HV.out.1, HV.out.2]; rfl, rfl⟩
  · have g1 : ((s.size : Int) != 8) = false := by simpa using (show (s.size : Int) = 8 by omega)
    have g2 : (5 : Int) < (s.size : Int) := by omega
    have g3 : (6 : Int) < (s.size : Int) := by omega
    have g4 : (7 : Int) < (s.size : Int) := by omega
    have HD5 := Lib.hid (fun u => digit_any (s[5]'(by omega)) u)
    have HD7 := Lib.hid (fun u => digit_any (s[7]'(by omega)) u)
    rcases h with ⟨h1, hv⟩ | ⟨h1, h⟩
    · have HV := Lib.hid (ver_bad hv)
      rw [decide_eq_false h1] at HP
      clear hv h1 HD5 HD7
      go_enter Tryd.func76, Tryd.ntmps76
      go_wp2_with fail
      refine (HP.out _).mono ?_
      rintro e w' ⟨rfl, rfl⟩
      go_wp2
      go_ret2
      exact ⟨by rw [HV.out.1, HV.out.2]; rfl, rfl⟩
    · rw [decide_eq_true h1] at HP
      clear h1
      rcases h with ⟨h2, hv⟩ | ⟨h2, h⟩
      · have HV := Lib.hid (ver_bad hv)
        rw [h2] at HD5
        clear hv h2 HD7
        go_enter Tryd.func76, Tryd.ntmps76
        go_wp2_with fail
        refine (HP.out _).mono ?_
        rintro e w' ⟨rfl, rfl⟩
        go_wp2_with fail
        refine (HD5.out _).mono ?_
        rintro e w' ⟨rfl, rfl⟩
        go_wp2
        go_ret2
        exact ⟨by rw [HV.out.1, HV.out.2]; rfl, rfl⟩
      · rw [h2] at HD5
        clear h2
        rcases h with ⟨h3, hv⟩ | ⟨h3, h⟩
        · have HV := Lib.hid (ver_bad hv)
          have g5a : (((s[6]'(by omega)).toNat : Int) == 46) = false := beqI_false (y := 46) h3
          have g5 : (((s[6]'(by omega)).toNat : Int) != 46) = true := by rw [bne, g5a]; rfl
          clear g5a
          clear hv h3 HD7
          go_enter Tryd.func76, Tryd.ntmps76
          go_wp2_with fail
          refine (HP.out _).mono ?_
          rintro e w' ⟨rfl, rfl⟩
          go_wp2_with fail
          refine (HD5.out _).mono ?_
          rintro e w' ⟨rfl, rfl⟩
          go_wp2
          go_ret2
          exact ⟨by rw [HV.out.1, HV.out.2]; rfl, rfl⟩
        · have g5a : (((s[6]'(by omega)).toNat : Int) == 46) = true := beqI_true (y := 46) h3
          have g5 : (((s[6]'(by omega)).toNat : Int) != 46) = false := by rw [bne, g5a]; rfl
          clear g5a
          clear h3
          rcases h with ⟨h4, hv⟩ | ⟨h4, hv⟩
          · have HV := Lib.hid (ver_bad hv)
            rw [h4] at HD7
            clear hv h4
            go_enter Tryd.func76, Tryd.ntmps76
            go_wp2_with fail
            refine (HP.out _).mono ?_
            rintro e w' ⟨rfl, rfl⟩
            go_wp2_with fail
            refine (HD5.out _).mono ?_
            rintro e w' ⟨rfl, rfl⟩
            go_wp2_with fail
            refine (HD7.out _).mono ?_
            rintro e w' ⟨rfl, rfl⟩
            go_wp2
            go_ret2
            exact ⟨by rw [HV.out.1, HV.out.2]; rfl, rfl⟩
          · rw [h4] at HD7
            clear h4
            have ht := ver_good hv
            rw [← L_toList] at ht
            rcases ht with ⟨t1, t2⟩ | ⟨t1, t2, t3⟩ | ⟨t1, t2, t3⟩
            · have HV := Lib.hid t2
              have t4 : s.toList = [72, 84, 84, 80, 47, 49, 46, 48] := t1
              clear hv t1 t2
              go_enter Tryd.func76, Tryd.ntmps76
              go_wp2_with fail
              refine (HP.out _).mono ?_
              rintro e w' ⟨rfl, rfl⟩
              go_wp2_with fail
              refine (HD5.out _).mono ?_
              rintro e w' ⟨rfl, rfl⟩
              go_wp2_with fail
              refine (HD7.out _).mono ?_
              rintro e w' ⟨rfl, rfl⟩
              go_wp2
              go_ret2
              exact ⟨by rw [← L_toList, HV.out.1, HV.out.2]; rfl, rfl⟩
            · have HV := Lib.hid t3
              have t4 : ¬ s.toList = [72, 84, 84, 80, 47, 49, 46, 48] := t1
              have t4b : (s.toList == [72, 84, 84, 80, 47, 49, 46, 48]) = false := by simpa using t4
              have t5b : (s.toList == [72, 84, 84, 80, 47, 49, 46, 49]) = true := beq_iff_eq.2 t2
              clear hv t1 t2 t3
              go_enter Tryd.func76, Tryd.ntmps76
              go_wp2_with fail
              refine (HP.out _).mono ?_
              rintro e w' ⟨rfl, rfl⟩
              go_wp2_with fail
              refine (HD5.out _).mono ?_
              rintro e w' ⟨rfl, rfl⟩
              go_wp2_with fail
              refine (HD7.out _).mono ?_
              rintro e w' ⟨rfl, rfl⟩
              go_wp2
              go_ret2
              exact ⟨by rw [← L_toList, HV.out.1, HV.out.2]; rfl, rfl⟩
            · have HV := Lib.hid t3
              have t4 : ¬ s.toList = [72, 84, 84, 80, 47, 49, 46, 48] := t1
              have t4b : (s.toList == [72, 84, 84, 80, 47, 49, 46, 48]) = false := by simpa using t4
              have t5 : ¬ s.toList = [72, 84, 84, 80, 47, 49, 46, 49] := t2
              have t5b : (s.toList == [72, 84, 84, 80, 47, 49, 46, 49]) = false := by simpa using t5
              clear hv t1 t2 t3
              go_enter Tryd.func76, Tryd.ntmps76
              go_wp2_with fail
              refine (HP.out _).mono ?_
              rintro e w' ⟨rfl, rfl⟩
              go_wp2_with fail
              refine (HD5.out _).mono ?_
              rintro e w' ⟨rfl, rfl⟩
              go_wp2_with fail
              refine (HD7.out _).mono ?_
              rintro e w' ⟨rfl, rfl⟩
              go_wp2
              go_ret2
              exact ⟨by rw [← L_toList, HV.out.1, HV.out.2]; rfl, rfl⟩
end Go.Proofs.YtcoohkgamogmgaaDoor
