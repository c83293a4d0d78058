/- The walks of the document's version, blank and one. Conditions: texts of at most 2^31 bytes. -/
import Derived.Test.YtnmldbcgpfglkaaGreatDoorHeadA
import Derived.Test.YtnmldbcgpfglkaaGreatDoorTokC
import Derived.Deep.CutBlock
import Derived.Deep.DeepCutAuto
namespace Go.Proofs.YtnmldbcgpfglkaaGreatDoor
open Go.RowKit

theorem dig_iff (c : UInt8) : P.dig c = true ↔ 48 ≤ c.toNat ∧ c.toNat ≤ 57 := by
  unfold P.dig
  simp
theorem dig_cases (c : UInt8) : (P.dig c = false ∧ c.toNat < 48) ∨ (P.dig c = false ∧ 57 < c.toNat ∧ 48 ≤ c.toNat) ∨ (P.dig c = true ∧ 48 ≤ c.toNat ∧ c.toNat ≤ 57) := by
  have h := dig_iff c
  rcases tf (P.dig c) with hd | hd
  · exact .inr (.inr ⟨hd, h.1 hd⟩)
  · have : ¬ (48 ≤ c.toNat ∧ c.toNat ≤ 57) := fun h2 => by rw [h.2 h2] at hd; cases hd
    by_cases h48 : c.toNat < 48
    · exact .inl ⟨hd, h48⟩
    · exact .inr (.inl ⟨hd, by omega, by omega⟩)

set_option maxRecDepth 100000 in
set_option maxHeartbeats 2000000 in
theorem refVersion_any (s : ByteArray) (w : World) : Calls Tryz.prog 102 #[.string s] w (RetV w s) := by
  rcases ver_ways s with ⟨h8, hv⟩ | ⟨h8, h⟩
  · have HV := Lib.hid (ver_bad hv)
    have g1 : ((s.size : Int) != 8) = true := by simpa using (show ¬ (s.size : Int) = 8 by omega)
    clear hv
    go_enter Tryz.func102, Tryz.ntmps102
    go_wp2
    go_ret2
    exact ⟨by rw [HV.out.1, HV.out.2]; rfl, rfl⟩
  · have g1 : ((s.size : Int) != 8) = false := by simpa using (show (s.size : Int) = 8 by omega)
    have g2 : (5 : Int) < (s.size : Int) := by omega
    have g3 : (6 : Int) < (s.size : Int) := by omega
    have g4 : (7 : Int) < (s.size : Int) := by omega
    have gx : (5 : Int) ≤ (s.size : Int) := by omega
    have e5 : (s.extract 0 5).toList = (L s).take 5 := by
      rw [L_toList, L_extract]
      rfl
    rcases h with ⟨h1, hv⟩ | ⟨h1, h⟩
    · have HV := Lib.hid (ver_bad hv)
      have p1 : ¬ (s.extract 0 5).toList = [72, 84, 84, 80, 47] := by rw [e5]; exact h1
      have p2 : ((s.extract 0 5).toList != [72, 84, 84, 80, 47]) = true := by simpa using p1
      have p3 : ((s.extract 0 5).toList == [72, 84, 84, 80, 47]) = false := by simpa using p1
      clear hv h1 e5
      go_enter Tryz.func102, Tryz.ntmps102
      go_wp2
      go_ret2
      exact ⟨by rw [HV.out.1, HV.out.2]; rfl, rfl⟩
    · have p2 : ((s.extract 0 5).toList != [72, 84, 84, 80, 47]) = false := by rw [e5, h1]; decide
      have p3 : ((s.extract 0 5).toList == [72, 84, 84, 80, 47]) = true := by rw [e5, h1]; decide
      clear h1 e5
      rcases h with ⟨h2, hv⟩ | ⟨h2, h⟩
      · have HV := Lib.hid (ver_bad hv)
        clear hv
        rcases dig_cases (s[5]'(by omega)) with ⟨_, hd⟩ | ⟨_, hd, hd2⟩ | ⟨hd, _⟩
        · have d1 : ((s[5]'(by omega)).toNat : Int) < 48 := by omega
          clear h2
          go_enter Tryz.func102, Tryz.ntmps102
          go_wp2
          go_ret2
          exact ⟨by rw [HV.out.1, HV.out.2]; rfl, rfl⟩
        · have d1 : ¬ ((s[5]'(by omega)).toNat : Int) < 48 := by omega
          have d2 : (57 : Int) < ((s[5]'(by omega)).toNat : Int) := by omega
          clear h2
          go_enter Tryz.func102, Tryz.ntmps102
          go_wp2
          go_ret2
          exact ⟨by rw [HV.out.1, HV.out.2]; rfl, rfl⟩
        · rw [h2] at hd; cases hd
      · have k5 := (dig_iff _).1 h2
        have d1 : ¬ ((s[5]'(by omega)).toNat : Int) < 48 := by omega
        have d2 : ¬ (57 : Int) < ((s[5]'(by omega)).toNat : Int) := by omega
        clear h2 k5
        rcases h with ⟨h3, hv⟩ | ⟨h3, h⟩
        · have HV := Lib.hid (ver_bad hv)
          have g5a : (((s[6]'(by omega)).toNat : Int) == 46) = false := beqI_false (y := 46) h3
          have g5 : (((s[6]'(by omega)).toNat : Int) != 46) = true := by rw [bne, g5a]; rfl
          clear hv h3 g5a
          go_enter Tryz.func102, Tryz.ntmps102
          go_wp2
          go_ret2
          exact ⟨by rw [HV.out.1, HV.out.2]; rfl, rfl⟩
        · have g5a : (((s[6]'(by omega)).toNat : Int) == 46) = true := beqI_true (y := 46) h3
          have g5 : (((s[6]'(by omega)).toNat : Int) != 46) = false := by rw [bne, g5a]; rfl
          clear h3 g5a
          rcases h with ⟨h4, hv⟩ | ⟨h4, hv⟩
          · have HV := Lib.hid (ver_bad hv)
            clear hv
            rcases dig_cases (s[7]'(by omega)) with ⟨_, hd⟩ | ⟨_, hd, hd2⟩ | ⟨hd, _⟩
            · have d3 : ((s[7]'(by omega)).toNat : Int) < 48 := by omega
              clear h4
              go_enter Tryz.func102, Tryz.ntmps102
              go_wp2
              go_ret2
              exact ⟨by rw [HV.out.1, HV.out.2]; rfl, rfl⟩
            · have d3 : ¬ ((s[7]'(by omega)).toNat : Int) < 48 := by omega
              have d4 : (57 : Int) < ((s[7]'(by omega)).toNat : Int) := by omega
              clear h4
              go_enter Tryz.func102, Tryz.ntmps102
              go_wp2
              go_ret2
              exact ⟨by rw [HV.out.1, HV.out.2]; rfl, rfl⟩
            · rw [h4] at hd; cases hd
          · have k7 := (dig_iff _).1 h4
            have d3 : ¬ ((s[7]'(by omega)).toNat : Int) < 48 := by omega
            have d4 : ¬ (57 : Int) < ((s[7]'(by omega)).toNat : Int) := by omega
            clear h4 k7
            have ht := ver_good hv
            rw [← L_toList] at ht
            rcases ht with ⟨t1, t2⟩ | ⟨t1, t2, t3⟩ | ⟨t1, t2, t3⟩
            · have HV := Lib.hid t2
              have t4b : (s.toList == [72, 84, 84, 80, 47, 49, 46, 48]) = true := beq_iff_eq.2 t1
              clear hv t1 t2
              go_enter Tryz.func102, Tryz.ntmps102
              go_wp2
              go_ret2
              exact ⟨by rw [← L_toList, HV.out.1, HV.out.2]; rfl, rfl⟩
            · have HV := Lib.hid t3
              have t4 : ¬ s.toList = [72, 84, 84, 80, 47, 49, 46, 48] := t1
              have t4b : (s.toList == [72, 84, 84, 80, 47, 49, 46, 48]) = false := by simpa using t4
              have t5b : (s.toList == [72, 84, 84, 80, 47, 49, 46, 49]) = true := beq_iff_eq.2 t2
              clear hv t1 t2 t3
              go_enter Tryz.func102, Tryz.ntmps102
              go_wp2
              go_ret2
              exact ⟨by rw [← L_toList, HV.out.1, HV.out.2]; rfl, rfl⟩
            · have HV := Lib.hid t3
              have t4 : ¬ s.toList = [72, 84, 84, 80, 47, 49, 46, 48] := t1
              have t4b : (s.toList == [72, 84, 84, 80, 47, 49, 46, 48]) = false := by simpa using t4
              have t5 : ¬ s.toList = [72, 84, 84, 80, 47, 49, 46, 49] := t2
              have t5b : (s.toList == [72, 84, 84, 80, 47, 49, 46, 49]) = false := by simpa using t5
              clear hv t1 t2 t3
              go_enter Tryz.func102, Tryz.ntmps102
              go_wp2
              go_ret2
              exact ⟨by rw [← L_toList, HV.out.1, HV.out.2]; rfl, rfl⟩

theorem upto_from_at {p : UInt8 → Bool} {l : List UInt8} {f k : Nat} (hfk : f ≤ k) (hk : k ≤ l.length) (hall : ∀ j (h : j < l.length), f ≤ j → j < k → p l[j] = false) (hstop : ∀ h : k < l.length, p l[k] = true) : (P.upto p (l.drop f)).length = k - f := by
  have h := P.upto_eq (p := p) (l := l.drop f) (k := k - f) (by rw [List.length_drop]; omega)
    (fun j h hj => by rw [List.getElem_drop]; exact hall _ _ (by omega) (by omega))
    (fun h => by
      rw [List.length_drop] at h
      have := hstop (by omega)
      rw [List.getElem_drop]
      simpa [show f + (k - f) = k by omega] using this)
  rw [h.1, List.length_take, List.length_drop]
  omega

/-- The first blank from a place on; the length, if there is none. -/
def blankAt (s : ByteArray) (f : Nat) : Nat := f + (P.upto P.sp ((L s).drop f)).length

set_option maxRecDepth 100000 in
set_option maxHeartbeats 1000000 in
theorem refBlank_any (s : ByteArray) (f : Nat) (w : World) (hs : s.size ≤ 2147483648) (hf : f ≤ s.size) :
    Calls Tryz.prog 114 #[.string s, .int .i64 f] w (RetP w (.int .i64 (blankAt s f))) := by
  have HZ : Hid ((L s).length = s.size) := (L_size s).symm
  go_enter Tryz.func114, Tryz.ntmps114
  go_wp2
  go_loop [1] (fun i => ∃ k : Nat, f ≤ k ∧ k ≤ s.size ∧ i = .int .i64 k ∧ ∀ j (h : j < (L s).length), f ≤ j → j < k → P.sp (L s)[j] = false) (fun i => s.size - (intOf i).toNat)
  case atStart => exact ⟨f, Nat.le_refl _, hf, rfl, fun j _ h1 h2 => absurd h1 (by omega)⟩
  case round =>
    obtain ⟨k, hfk, hk, rfl, hno⟩ := hrel
    have HNO := Lib.hid hno
    clear hno
    by_cases hlt : k < s.size
    · have hki : (k : Int) < (s.size : Int) := by omega
      have hkl : k < (L s).length := by rw [HZ.out]; exact hlt
      by_cases h32 : s[k] = 32
      · have g1 : (((s[k]).toNat : Int) == 32) = true := beqI_true (y := 32) h32
        have g2 : (((s[k]).toNat : Int) != 32) = false := by rw [bne, g1]; rfl
        have hsp : P.sp ((L s)[k]'hkl) = true := by
          show (s[k] == 32) = true
          rw [h32]; rfl
        have HR : Hid (blankAt s f = k) := Lib.hid (by
          unfold blankAt
          rw [upto_from_at hfk (Nat.le_of_lt hkl) HNO.out (fun _ => hsp)]
          omega)
        clear h32 hsp g1
        go_wp2
        go_ret
        exact ⟨by rw [HR.out]; rfl, rfl⟩
      · have g1 : (((s[k]).toNat : Int) == 32) = false := beqI_false (y := 32) h32
        have g2 : (((s[k]).toNat : Int) != 32) = true := by rw [bne, g1]; rfl
        have hsp : P.sp ((L s)[k]'hkl) = false := by
          show (s[k] == 32) = false
          simpa using h32
        have HSP := Lib.hid hsp
        clear h32 hsp g1
        go_wp2
        go_round
        case rel =>
          refine ⟨k + 1, by omega, by omega, by go_num, fun j h h1 h2 => ?_⟩
          by_cases hjk : j = k
          · subst hjk; exact HSP.out
          · exact HNO.out j h h1 (by omega)
        case measure => simp [intOf]; omega
    · have hks : k = s.size := by omega
      have hki : ¬ (k : Int) < (s.size : Int) := by omega
      have HR : Hid (blankAt s f = k) := Lib.hid (by
        unfold blankAt
        rw [upto_from_at hfk (by rw [HZ.out]; exact hk) HNO.out (fun h => absurd h (by rw [HZ.out]; omega))]
        omega)
      clear hks
      go_wp2
      go_ret
      exact ⟨by rw [HR.out]; rfl, rfl⟩

/-- Where a line's colon is; the length, if there is none. -/
def colonAt (s : ByteArray) : Nat := (P.upto (· == 58) (L s)).length
theorem colon_facts (s : ByteArray) : colonAt s ≤ s.size ∧ (P.from_ (· == 58) (L s) = [] ↔ colonAt s = s.size) ∧ P.nameOf (L s) = (L s).take (colonAt s) ∧ P.from_ (· == 58) (L s) = (L s).drop (colonAt s) := by
  have h := P.upto_from (· == 58) (L s)
  have hl := P.upto_len (· == 58) (L s)
  have hz := L_size s
  have e1 : P.nameOf (L s) = (L s).take (colonAt s) := by
    unfold P.nameOf colonAt
    have key : ∀ u f : List UInt8, u ++ f = L s → u = (L s).take u.length := by
      rintro u f h
      rw [← h]; simp
    exact key _ _ h
  have e2 : P.from_ (· == 58) (L s) = (L s).drop (colonAt s) := by
    unfold colonAt
    have key : ∀ u f : List UInt8, u ++ f = L s → f = (L s).drop u.length := by
      rintro u f h
      rw [← h]; simp
    exact key _ _ h
  refine ⟨by unfold colonAt; omega, ?_, e1, e2⟩
  constructor
  · intro h0
    rw [h0] at hl
    unfold colonAt
    simp only [List.length_nil] at hl
    omega
  · intro h0
    rw [e2, h0, hz, List.drop_length]

set_option maxRecDepth 100000 in
set_option maxHeartbeats 2000000 in
theorem refOne_any (s : ByteArray) (w : World) (hs : s.size ≤ 2147483648) : Calls Tryz.prog 126 #[.string s] w (RetF w (P.oneE (L s)) (P.oneF (L s))) := by
  have HZ : Hid ((L s).length = s.size) := (L_size s).symm
  by_cases h1 : (L s).head? = some 32 ∨ (L s).head? = some 9
  · have HE : Hid (P.oneE (L s) = 41) := Lib.hid (if_pos h1)
    have hpos : 0 < s.size := by
      rw [L_size]
      cases hl : L s with
      | nil => rw [hl] at h1; simp at h1
      | cons x l => simp
    have hem : s.toList.isEmpty = false := by
      rw [L_toList]
      cases hl : L s with
      | nil => rw [hl] at h1; simp at h1
      | cons x l => rfl
    have hne : ¬ s.toList = [] := by intro h; rw [h] at hem; cases hem
    have hne2 : (s.toList != []) = true := by simpa using hne
    have hhd : (L s).head? = some (s[0]'hpos) := by
      rw [List.head?_eq_getElem?, List.getElem?_eq_getElem (by rw [← L_size]; exact hpos), L_at s 0 hpos]
    rw [hhd] at h1
    have hposi : (0 : Int) < (s.size : Int) := by omega
    clear hhd
    by_cases h2 : s[0]'hpos = 32
    · have g1 : (((s[0]'hpos).toNat : Int) == 32) = true := beqI_true (y := 32) h2
      clear h1 h2
      go_enter Tryz.func126, Tryz.ntmps126
      go_wp2
      refine bodyPost_ret (v := .tuple #[.agg #[.string ⟨#[]⟩, .string ⟨#[]⟩], .int .i64 41]) (by simp [results, Tryz.results126, go_sem]) rfl ⟨by rw [HE.out, if_neg (by decide)], ?_⟩
      exact (Below.refl _ _).alloc (Nat.le_refl _) _
    · have h3 : s[0]'hpos = 9 := by
        rcases h1 with h | h
        · exact absurd (Option.some.inj h) h2
        · exact Option.some.inj h
      have g1 : (((s[0]'hpos).toNat : Int) == 32) = false := beqI_false (y := 32) h2
      have g2 : (((s[0]'hpos).toNat : Int) == 9) = true := beqI_true (y := 9) h3
      clear h1 h2 h3
      go_enter Tryz.func126, Tryz.ntmps126
      go_wp2
      refine bodyPost_ret (v := .tuple #[.agg #[.string ⟨#[]⟩, .string ⟨#[]⟩], .int .i64 41]) (by simp [results, Tryz.results126, go_sem]) rfl ⟨by rw [HE.out, if_neg (by decide)], ?_⟩
      exact (Below.refl _ _).alloc (Nat.le_refl _) _
  · have hE : P.oneE (L s) = if P.from_ (· == 58) (L s) = [] ∨ T.token (P.nameOf (L s)) = false ∨ F.good (B (P.valOf (L s))) = false then 40 else 0 := if_neg h1
    have hst : (s.toList = [] ∧ s.size = 0) ∨ ∃ h : 0 < s.size, ¬ s.toList = [] ∧ s.toList.isEmpty = false ∧ (((s[0]'h).toNat : Int) == 32) = false ∧ (((s[0]'h).toNat : Int) == 9) = false := by
      rcases Nat.eq_zero_or_pos s.size with h0 | h0
      · left
        refine ⟨?_, h0⟩
        rw [L_toList]
        exact List.eq_nil_of_length_eq_zero (by rw [← L_size]; exact h0)
      · right
        have hhd : (L s).head? = some (s[0]'h0) := by
          rw [List.head?_eq_getElem?, List.getElem?_eq_getElem (by rw [← L_size]; exact h0), L_at s 0 h0]
        rw [hhd] at h1
        have hne : ¬ s.toList = [] := by
          rw [L_toList]
          intro h
          rw [L_size, h] at h0
          simp at h0
        refine ⟨h0, hne, by simpa using hne, ?_, ?_⟩
        · exact beqI_false (y := 32) (fun h => h1 (.inl (by rw [h])))
        · exact beqI_false (y := 9) (fun h => h1 (.inr (by rw [h])))
    obtain ⟨c1, c2, c3, c4⟩ := colon_facts s
    have e1 : s.extract 0 (colonAt s) = (P.oneF (L s)).1 := by
      show _ = B (P.nameOf (L s))
      rw [extract_B, c3]
      rfl
    have e2 : B (T.trim (L (s.extract (colonAt s + 1) s.size))) = (P.oneF (L s)).2 := by
      show _ = B (P.valOf (L s))
      unfold P.valOf
      rw [c4, L_extract, List.drop_drop, List.take_of_length_le (by rw [List.length_drop, ← L_size]; exact Nat.le_refl _)]
    have hsz := P.one_small (L s)
    have hz1 : (P.oneF (L s)).1.size ≤ 1099511627776 := by rw [HZ.out] at hsz; omega
    have hz2 : (P.oneF (L s)).2.size ≤ 1099511627776 := by rw [HZ.out] at hsz; omega
    have HTK : Hid (∀ u, Calls Tryz.prog 88 #[.string (s.extract 0 (colonAt s))] u (RetP u (.bool (T.token (P.nameOf (L s)))))) := Lib.hid (fun u => by rw [e1]; exact refToken_any (P.oneF (L s)).1 u hz1)
    have HTR : Hid (∀ u, Calls Tryz.prog 137 #[.string (s.extract (colonAt s + 1) s.size)] u (RetS u (P.oneF (L s)).2)) := Lib.hid (fun u => by rw [← e2]; exact refTrim_any (s.extract (colonAt s + 1) s.size) u (by have := extract_le s (colonAt s + 1) s.size; omega))
    have HGD : Hid (∀ u, Calls Tryz.prog 89 #[.string (P.oneF (L s)).2] u (RetB u (F.good (B (P.valOf (L s)))))) := Lib.hid (fun u => refValue_any (P.oneF (L s)).2 u hz2)
    have HE1 := Lib.hid e1
    simp only [c2] at hE
    have HEE := Lib.hid hE
    have HCA : Hid (colonAt s = (P.upto (· == 58) (L s)).length) := Lib.hid rfl
    clear h1 hE c2 c3 c4 e1 e2 hsz hz1 hz2
    obtain ⟨ca, hca⟩ : ∃ ca, colonAt s = ca := ⟨_, rfl⟩
    rw [hca] at HTK HTR HE1 HEE HCA c1
    clear hca
    generalize T.token (P.nameOf (L s)) = tk at *
    generalize F.good (B (P.valOf (L s))) = gd at *
    obtain ⟨vl, hvl⟩ : ∃ vl, (P.oneF (L s)).2 = vl := ⟨_, rfl⟩
    rw [hvl] at HTR HGD
    have HVL := Lib.hid hvl
    clear hvl
    have HB0 := Lib.hid ((Below.refl w.heap.size w).alloc (Nat.le_refl _) (.cells #[.string ⟨#[]⟩, .string ⟨#[]⟩] 72))
    have HK0 := Lib.hid (Blk.new w #[.string ⟨#[]⟩, .string ⟨#[]⟩] 72)
    rcases hst with ⟨hs0, _⟩ | ⟨hp0, hs0, hs1, hs2, hs3⟩
    · obtain rfl : s = ⟨#[]⟩ := L_inj (by rw [← L_toList]; exact hs0)
      have HE : Hid (P.oneE (L ⟨#[]⟩) = 40) := Lib.hid (by decide)
      clear HEE HCA HTR HTK HGD HE1 HZ hs0 c1
      go_enter Tryz.func126, Tryz.ntmps126
      go_wp2_with fail
      go_loop [4] (fun i => i = .int .i64 0) (fun _ => 0)
      case atStart => exact rfl
      case round =>
        subst hrel
        go_wp2
        refine bodyPost_ret (v := .tuple #[.agg #[.string ⟨#[]⟩, .string ⟨#[]⟩], .int .i64 40]) (by simp [results, Tryz.results126, go_sem]) rfl ⟨by rw [HE.out, if_neg (by decide)], ?_⟩
        exact HB0.out
    · skip
      go_enter Tryz.func126, Tryz.ntmps126
      go_upto_block 0 with fail
      go_cut [4] (fun s4 wx => s4 = .int .i64 ca ∧ wx = w.alloc (.cells #[.string ⟨#[]⟩, .string ⟨#[]⟩] 72))
      case first =>
        go_wp2_with fail
        go_loop [4] (fun i => ∃ k : Nat, k ≤ s.size ∧ i = .int .i64 k ∧ ∀ j (h : j < (L s).length), j < k → ((L s)[j] == 58) = false) (fun i => s.size - (intOf i).toNat)
        case atStart => exact ⟨0, Nat.zero_le _, rfl, fun j _ h => absurd h (by omega)⟩
        case round =>
          obtain ⟨k, hk, rfl, hno⟩ := hrel
          have HNO := Lib.hid hno
          clear hno
          by_cases hlt : k < s.size
          · have hki : (k : Int) < (s.size : Int) := by omega
            have hkl : k < (L s).length := by rw [HZ.out]; exact hlt
            by_cases h58 : s[k] = 58
            · have g1 : (((s[k]).toNat : Int) == 58) = true := beqI_true (y := 58) h58
              have g2 : (((s[k]).toNat : Int) != 58) = false := by rw [bne, g1]; rfl
              have hcc : ((L s)[k]'hkl == 58) = true := by
                show (s[k] == 58) = true
                rw [h58]; rfl
              have HR : Hid (ca = k) := Lib.hid (by
                have := P.upto_eq (p := (· == 58)) (l := L s) (k := k) (Nat.le_of_lt hkl) HNO.out (fun _ => hcc)
                rw [HCA.out, this.1, List.length_take]
                omega)
              clear h58 hcc g1
              go_wp2_with fail
              go_meet
              exact ⟨by rw [HR.out], rfl⟩
            · have g1 : (((s[k]).toNat : Int) == 58) = false := beqI_false (y := 58) h58
              have g2 : (((s[k]).toNat : Int) != 58) = true := by rw [bne, g1]; rfl
              have hcc : ((L s)[k]'hkl == 58) = false := by
                show (s[k] == 58) = false
                simpa using h58
              have HSP := Lib.hid hcc
              clear h58 hcc g1
              go_wp2
              go_round
              case rel =>
                refine ⟨k + 1, by omega, by go_num, fun j h h2 => ?_⟩
                by_cases hjk : j = k
                · subst hjk; exact HSP.out
                · exact HNO.out j h (by omega)
              case measure => simp [intOf]; omega
          · have hks : k = s.size := by omega
            have hki : ¬ (k : Int) < (s.size : Int) := by omega
            have HR : Hid (ca = k) := Lib.hid (by
              have := P.upto_eq (p := (· == 58)) (l := L s) (k := k) (by rw [HZ.out]; exact hk) HNO.out (fun h => absurd h (by rw [HZ.out]; omega))
              rw [HCA.out, this.1, List.length_take, HZ.out]
              omega)
            clear hks
            go_wp2_with fail
            go_meet
            exact ⟨by rw [HR.out], rfl⟩
      case rest =>
        obtain ⟨rfl, rfl⟩ := hcut
        clear HCA
        have hcai : (ca : Int) ≤ (s.size : Int) := by omega
        by_cases hcs : ca = s.size
        · have HE : Hid (P.oneE (L s) = 40) := Lib.hid (HEE.out.trans (if_pos (.inl hcs)))
          have hcb : ((ca : Int) == (s.size : Int)) = true := beq_iff_eq.2 (by omega)
          clear hcs
          go_wp2
          refine bodyPost_ret (v := .tuple #[.agg #[.string ⟨#[]⟩, .string ⟨#[]⟩], .int .i64 40]) (by simp [results, Tryz.results126, go_sem]) rfl ⟨by rw [HE.out, if_neg (by decide)], ?_⟩
          exact HB0.out
        · have hcb : ((ca : Int) == (s.size : Int)) = false := beq_eq_false_iff_ne.2 (by omega)
          have hcb2 : ¬ (ca : Int) = (s.size : Int) := by omega
          have hcl : (ca : Int) + 1 ≤ (s.size : Int) := by omega
          have HE2 : Hid (P.oneE (L s) = if tk = false ∨ gd = false then 40 else 0) := Lib.hid (by rw [HEE.out]; simp only [hcs, false_or])
          clear HEE hcs
          go_wp2_with fail
          refine (HTK.out _).mono ?_
          rintro e w' ⟨rfl, rfl⟩
          cases tk
          · have HE : Hid (P.oneE (L s) = 40) := Lib.hid (HE2.out.trans (if_pos (.inl rfl)))
            go_wp2
            refine bodyPost_ret (v := .tuple #[.agg #[.string ⟨#[]⟩, .string ⟨#[]⟩], .int .i64 40]) (by simp [results, Tryz.results126, go_sem]) rfl ⟨by rw [HE.out, if_neg (by decide)], ?_⟩
            exact HB0.out
          · generalize w.alloc (.cells #[.string ⟨#[]⟩, .string ⟨#[]⟩] 72) = w0 at *
            go_wp2_with fail
            refine (HTR.out _).mono ?_
            rintro e w2 ⟨rfl, hb2⟩
            have HK2 := Lib.hid (HK0.out.below hb2)
            have HB2 := Lib.hid (below_then HB0.out.size HB0.out hb2)
            clear hb2 HK0 HB0 HTR HTK
            go_wp2_with fail
            refine (HGD.out _).mono ?_
            rintro e w3 ⟨rfl, hb3⟩
            have HK3 := Lib.hid (HK2.out.below hb3)
            have HB3 := Lib.hid (below_then HB2.out.size HB2.out hb3)
            clear hb3 HK2 HB2 HGD
            obtain ⟨x0, x1⟩ := HK3.out.cells2
            have f0 := HK3.out.free 0
            have f1 := HK3.out.free 1
            cases gd
            · have HE : Hid (P.oneE (L s) = 40) := Lib.hid (HE2.out.trans (if_pos (.inr rfl)))
              go_wp2
              obtain ⟨z0, z1⟩ := ((HK3.out.set 0 (.string ⟨#[]⟩)).set 1 (.string ⟨#[]⟩)).cells2
              refine bodyPost_ret (v := .tuple #[.agg #[.string ⟨#[]⟩, .string ⟨#[]⟩], .int .i64 40]) (by simp [results, Tryz.results126, go_sem, z0, z1]) rfl ⟨by rw [HE.out, if_neg (by decide)], ?_⟩
              exact below_set (below_set HB3.out (Nat.le_refl _) 0 _) (Nat.le_refl _) 1 _
            · have HE : Hid (P.oneE (L s) = 0) := Lib.hid (HE2.out.trans (if_neg (by simp)))
              go_wp2
              obtain ⟨z0, z1⟩ := ((HK3.out.set 0 (.string (s.extract 0 ca))).set 1 (.string vl)).cells2
              refine bodyPost_ret (v := .tuple #[.agg #[.string (s.extract 0 ca), .string vl], .int .i64 0]) (by simp [results, Tryz.results126, go_sem, z0, z1]) rfl ⟨?_, ?_⟩
              · rw [HE.out, if_pos rfl, ← HE1.out, HVL.out]
              · exact below_set (below_set HB3.out (Nat.le_refl _) 0 _) (Nat.le_refl _) 1 _
end Go.Proofs.YtnmldbcgpfglkaaGreatDoor
