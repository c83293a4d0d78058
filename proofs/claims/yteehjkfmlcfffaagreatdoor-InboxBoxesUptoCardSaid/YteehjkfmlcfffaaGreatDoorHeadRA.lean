/- The walks of the document's version, blank and one. Conditions: texts of at most 2^31 bytes. The walks of the document's end and split. Conditions: rows of at most 2^30 bytes. The walk of the document's Parse. Conditions: rows of at most 2^30 bytes. The walk of the document's Request. Conditions: a row of at most 2^30 bytes. -/
import Derived.Test.YteehjkfmlcfffaaGreatDoorHeadA
import Derived.Test.YteehjkfmlcfffaaGreatDoorTokC
import Derived.Deep.CutBlock
import Derived.Deep.DeepCutAuto
import Derived.Test.YteehjkfmlcfffaaGreatDoorHeadB
import Derived.Test.YteehjkfmlcfffaaGreatDoorRegionA
import Derived.IntWalk
import Derived.Test.YteehjkfmlcfffaaGreatDoorHead5
import Derived.Test.YteehjkfmlcfffaaGreatDoorFldA
namespace Go.Proofs.YteehjkfmlcfffaaGreatDoor
open Go.RowKit

theorem dig_iff (c : UInt8) : P.dig c = true ↔ 48 ≤ c.toNat ∧ c.toNat ≤ 57 := by
  unfold P.dig
  simp
theorem dig_cases (c : UInt8) : (P.dig c = false ∧ c.toNat < 48) ∨ (P.dig c = false ∧ 57 < c.toNat ∧ 48 ≤ c.toNat) ∨ (P.dig c = true ∧ 48 ≤ c.toNat ∧ c.toNat ≤ 57) := by
  have h := dig_iff c
  rcases tf (P.dig c) with hd | hd
  · exact .inr (.inr ⟨hd, h.1 hd⟩)
  · have : ¬ (48 ≤ c.toNat ∧ c.toNat ≤ 57) := fun h2 => by rw [h.2 h2] at hd; cases hd
    by_cases h48 : c.toNat < 48
    · exact .inl ⟨hd, h48⟩
    · exact .inr (.inl ⟨hd, by omega, by omega⟩)

set_option maxRecDepth 100000 in
set_option maxHeartbeats 2000000 in
theorem refVersion_any (s : ByteArray) (w : World) : Calls Tryz.prog 142 #[.string s] w (RetV w s) := by
  rcases ver_ways s with ⟨h8, hv⟩ | ⟨h8, h⟩
  · have HV := Lib.hid (ver_bad hv)
    have g1 : ((s.size : Int) != 8) = true := by simpa using (show ¬ (s.size : Int) = 8 by omega)
    clear hv
    go_enter Tryz.func142, Tryz.ntmps142
    go_wp2
    go_ret2
    exact ⟨by rw [HV.out.1, HV.out.2]; rfl, rfl⟩
  · have g1 : ((s.size : Int) != 8) = false := by simpa using (show (s.size : Int) = 8 by omega)
    have g2 : (5 : Int) < (s.size : Int) := by omega
    have g3 : (6 : Int) < (s.size : Int) := by omega
    have g4 : (7 : Int) < (s.size : Int) := by omega
    have gx : (5 : Int) ≤ (s.size : Int) := by omega
    have e5 : (s.extract 0 5).toList = (L s).take 5 := by
      rw [L_toList, L_extract]
      rfl
    rcases h with ⟨h1, hv⟩ | ⟨h1, h⟩
    · have HV := Lib.hid (ver_bad hv)
      have p1 : ¬ (s.extract 0 5).toList = [72, 84, 84, 80, 47] := by rw [e5]; exact h1
      have p2 : ((s.extract 0 5).toList != [72, 84, 84, 80, 47]) = true := by simpa using p1
      have p3 : ((s.extract 0 5).toList == [72, 84, 84, 80, 47]) = false := by simpa using p1
      clear hv h1 e5
      go_enter Tryz.func142, Tryz.ntmps142
      go_wp2
      go_ret2
      exact ⟨by rw [HV.out.1, HV.out.2]; rfl, rfl⟩
    · have p2 : ((s.extract 0 5).toList != [72, 84, 84, 80, 47]) = false := by rw [e5, h1]; decide
      have p3 : ((s.extract 0 5).toList == [72, 84, 84, 80, 47]) = true := by rw [e5, h1]; decide
      clear h1 e5
      rcases h with ⟨h2, hv⟩ | ⟨h2, h⟩
      · have HV := Lib.hid (ver_bad hv)
        clear hv
        rcases dig_cases (s[5]'(by omega)) with ⟨_, hd⟩ | ⟨_, hd, hd2⟩ | ⟨hd, _⟩
        · have d1 : ((s[5]'(by omega)).toNat : Int) < 48 := by omega
          clear h2
          go_enter Tryz.func142, Tryz.ntmps142
          go_wp2
          go_ret2
          exact ⟨by rw [HV.out.1, HV.out.2]; rfl, rfl⟩
        · have d1 : ¬ ((s[5]'(by omega)).toNat : Int) < 48 := by omega
          have d2 : (57 : Int) < ((s[5]'(by omega)).toNat : Int) := by omega
          clear h2
          go_enter Tryz.func142, Tryz.ntmps142
          go_wp2
          go_ret2
          exact ⟨by rw [HV.out.1, HV.out.2]; rfl, rfl⟩
        · rw [h2] at hd; cases hd
      · have k5 := (dig_iff _).1 h2
        have d1 : ¬ ((s[5]'(by omega)).toNat : Int) < 48 := by omega
        have d2 : ¬ (57 : Int) < ((s[5]'(by omega)).toNat : Int) := by omega
        clear h2 k5
        rcases h with ⟨h3, hv⟩ | ⟨h3, h⟩
        · have HV := Lib.hid (ver_bad hv)
          have g5a : (((s[6]'(by omega)).toNat : Int) == 46) = false := beqI_false (y := 46) h3
          have g5 : (((s[6]'(by omega)).toNat : Int) != 46) = true := by rw [bne, g5a]; rfl
          clear hv h3 g5a
          go_enter Tryz.func142, Tryz.ntmps142
          go_wp2
          go_ret2
          exact ⟨by rw [HV.out.1, HV.out.2]; rfl, rfl⟩
        · have g5a : (((s[6]'(by omega)).toNat : Int) == 46) = true := beqI_true (y := 46) h3
          have g5 : (((s[6]'(by omega)).toNat : Int) != 46) = false := by rw [bne, g5a]; rfl
          clear h3 g5a
          rcases h with ⟨h4, hv⟩ | ⟨h4, hv⟩
          · have HV := Lib.hid (ver_bad hv)
            clear hv
            rcases dig_cases (s[7]'(by omega)) with ⟨_, hd⟩ | ⟨_, hd, hd2⟩ | ⟨hd, _⟩
            · have d3 : ((s[7]'(by omega)).toNat : Int) < 48 := by omega
              clear h4
              go_enter Tryz.func142, Tryz.ntmps142
              go_wp2
              go_ret2
              exact ⟨by rw [HV.out.1, HV.out.2]; rfl, rfl⟩
            · have d3 : ¬ ((s[7]'(by omega)).toNat : Int) < 48 := by omega
              have d4 : (57 : Int) < ((s[7]'(by omega)).toNat : Int) := by omega
              clear h4
              go_enter Tryz.func142, Tryz.ntmps142
              go_wp2
              go_ret2
              exact ⟨by rw [HV.out.1, HV.out.2]; rfl, rfl⟩
            · rw [h4] at hd; cases hd
          · have k7 := (dig_iff _).1 h4
            have d3 : ¬ ((s[7]'(by omega)).toNat : Int) < 48 := by omega
            have d4 : ¬ (57 : Int) < ((s[7]'(by omega)).toNat : Int) := by omega
            clear h4 k7
            have ht := ver_good hv
            rw [← L_toList] at ht
            rcases ht with ⟨t1, t2⟩ | ⟨t1, t2, t3⟩ | ⟨t1, t2, t3⟩
            · have HV := Lib.hid t2
              have t4b : (s.toList == [72, 84, 84, 80, 47, 49, 46, 48]) = true := beq_iff_eq.2 t1
              clear hv t1 t2
              go_enter Tryz.func142, Tryz.ntmps142
              go_wp2
              go_ret2
              exact ⟨by rw [← L_toList, HV.out.1, HV.out.2]; rfl, rfl⟩
            · have HV := Lib.hid t3
              have t4 : ¬ s.toList = [72, 84, 84, 80, 47, 49, 46, 48] := t1
              have t4b : (s.toList == [72, 84, 84, 80, 47, 49, 46, 48]) = false := by simpa using t4
              have t5b : (s.toList == [72, 84, 84, 80, 47, 49, 46, 49]) = true := beq_iff_eq.2 t2
              clear hv t1 t2 t3
              go_enter Tryz.func142, Tryz.ntmps142
              go_wp2
              go_ret2
              exact ⟨by rw [← L_toList, HV.out.1, HV.out.2]; rfl, rfl⟩
            · have HV := Lib.hid t3
              have t4 : ¬ s.toList = [72, 84, 84, 80, 47, 49, 46, 48] := t1
              have t4b : (s.toList == [72, 84, 84, 80, 47, 49, 46, 48]) = false := by simpa using t4
              have t5 : ¬ s.toList = [72, 84, 84, 80, 47, 49, 46, 49] := t2
              have t5b : (s.toList == [72, 84, 84, 80, 47, 49, 46, 49]) = false := by simpa using t5
              clear hv t1 t2 t3
              go_enter Tryz.func142, Tryz.ntmps142
              go_wp2
              go_ret2
              exact ⟨by rw [← L_toList, HV.out.1, HV.out.2]; rfl, rfl⟩

theorem upto_from_at {p : UInt8 → Bool} {l : List UInt8} {f k : Nat} (hfk : f ≤ k) (hk : k ≤ l.length) (hall : ∀ j (h : j < l.length), f ≤ j → j < k → p l[j] = false) (hstop : ∀ h : k < l.length, p l[k] = true) : (P.upto p (l.drop f)).length = k - f := by
  have h := P.upto_eq (p := p) (l := l.drop f) (k := k - f) (by rw [List.length_drop]; omega)
    (fun j h hj => by rw [List.getElem_drop]; exact hall _ _ (by omega) (by omega))
    (fun h => by
      rw [List.length_drop] at h
      have := hstop (by omega)
      rw [List.getElem_drop]
      simpa [show f + (k - f) = k by omega] using this)
  rw [h.1, List.length_take, List.length_drop]
  omega

/-- The first blank from a place on; the length, if there is none. -/
def blankAt (s : ByteArray) (f : Nat) : Nat := f + (P.upto P.sp ((L s).drop f)).length

set_option maxRecDepth 100000 in
set_option maxHeartbeats 1000000 in
theorem refBlank_any (s : ByteArray) (f : Nat) (w : World) (hs : s.size ≤ 2147483648) (hf : f ≤ s.size) :
    Calls Tryz.prog 156 #[.string s, .int .i64 f] w (RetP w (.int .i64 (blankAt s f))) := by
  have HZ : Hid ((L s).length = s.size) := (L_size s).symm
  go_enter Tryz.func156, Tryz.ntmps156
  go_wp2
  go_loop [1] (fun i => ∃ k : Nat, f ≤ k ∧ k ≤ s.size ∧ i = .int .i64 k ∧ ∀ j (h : j < (L s).length), f ≤ j → j < k → P.sp (L s)[j] = false) (fun i => s.size - (intOf i).toNat)
  case atStart => exact ⟨f, Nat.le_refl _, hf, rfl, fun j _ h1 h2 => absurd h1 (by omega)⟩
  case round =>
    obtain ⟨k, hfk, hk, rfl, hno⟩ := hrel
    have HNO := Lib.hid hno
    clear hno
    by_cases hlt : k < s.size
    · have hki : (k : Int) < (s.size : Int) := by omega
      have hkl : k < (L s).length := by rw [HZ.out]; exact hlt
      by_cases h32 : s[k] = 32
      · have g1 : (((s[k]).toNat : Int) == 32) = true := beqI_true (y := 32) h32
        have g2 : (((s[k]).toNat : Int) != 32) = false := by rw [bne, g1]; rfl
        have hsp : P.sp ((L s)[k]'hkl) = true := by
          show (s[k] == 32) = true
          rw [h32]; rfl
        have HR : Hid (blankAt s f = k) := Lib.hid (by
          unfold blankAt
          rw [upto_from_at hfk (Nat.le_of_lt hkl) HNO.out (fun _ => hsp)]
          omega)
        clear h32 hsp g1
        go_wp2
        go_ret
        exact ⟨by rw [HR.out]; rfl, rfl⟩
      · have g1 : (((s[k]).toNat : Int) == 32) = false := beqI_false (y := 32) h32
        have g2 : (((s[k]).toNat : Int) != 32) = true := by rw [bne, g1]; rfl
        have hsp : P.sp ((L s)[k]'hkl) = false := by
          show (s[k] == 32) = false
          simpa using h32
        have HSP := Lib.hid hsp
        clear h32 hsp g1
        go_wp2
        go_round
        case rel =>
          refine ⟨k + 1, by omega, by omega, by go_num, fun j h h1 h2 => ?_⟩
          by_cases hjk : j = k
          · subst hjk; exact HSP.out
          · exact HNO.out j h h1 (by omega)
        case measure => simp [intOf]; omega
    · have hks : k = s.size := by omega
      have hki : ¬ (k : Int) < (s.size : Int) := by omega
      have HR : Hid (blankAt s f = k) := Lib.hid (by
        unfold blankAt
        rw [upto_from_at hfk (by rw [HZ.out]; exact hk) HNO.out (fun h => absurd h (by rw [HZ.out]; omega))]
        omega)
      clear hks
      go_wp2
      go_ret
      exact ⟨by rw [HR.out]; rfl, rfl⟩

/-- Where a line's colon is; the length, if there is none. -/
def colonAt (s : ByteArray) : Nat := (P.upto (· == 58) (L s)).length
theorem colon_facts (s : ByteArray) : colonAt s ≤ s.size ∧ (P.from_ (· == 58) (L s) = [] ↔ colonAt s = s.size) ∧ P.nameOf (L s) = (L s).take (colonAt s) ∧ P.from_ (· == 58) (L s) = (L s).drop (colonAt s) := by
  have h := P.upto_from (· == 58) (L s)
  have hl := P.upto_len (· == 58) (L s)
  have hz := L_size s
  have e1 : P.nameOf (L s) = (L s).take (colonAt s) := by
    unfold P.nameOf colonAt
    have key : ∀ u f : List UInt8, u ++ f = L s → u = (L s).take u.length := by
      rintro u f h
      rw [← h]; simp
    exact key _ _ h
  have e2 : P.from_ (· == 58) (L s) = (L s).drop (colonAt s) := by
    unfold colonAt
    have key : ∀ u f : List UInt8, u ++ f = L s → f = (L s).drop u.length := by
      rintro u f h
      rw [← h]; simp
    exact key _ _ h
  refine ⟨by unfold colonAt; omega, ?_, e1, e2⟩
  constructor
  · intro h0
    rw [h0] at hl
    unfold colonAt
    simp only [List.length_nil] at hl
    omega
  · intro h0
    rw [e2, h0, hz, List.drop_length]

set_option maxRecDepth 100000 in
set_option maxHeartbeats 2000000 in
theorem refOne_any (s : ByteArray) (w : World) (hs : s.size ≤ 2147483648) : Calls Tryz.prog 216 #[.string s] w (RetF w (P.oneE (L s)) (P.oneF (L s))) := by
  have HZ : Hid ((L s).length = s.size) := (L_size s).symm
  by_cases h1 : (L s).head? = some 32 ∨ (L s).head? = some 9
  · have HE : Hid (P.oneE (L s) = 41) := Lib.hid (if_pos h1)
    have hpos : 0 < s.size := by
      rw [L_size]
      cases hl : L s with
      | nil => rw [hl] at h1; simp at h1
      | cons x l => simp
    have hem : s.toList.isEmpty = false := by
      rw [L_toList]
      cases hl : L s with
      | nil => rw [hl] at h1; simp at h1
      | cons x l => rfl
    have hne : ¬ s.toList = [] := by intro h; rw [h] at hem; cases hem
    have hne2 : (s.toList != []) = true := by simpa using hne
    have hhd : (L s).head? = some (s[0]'hpos) := by
      rw [List.head?_eq_getElem?, List.getElem?_eq_getElem (by rw [← L_size]; exact hpos), L_at s 0 hpos]
    rw [hhd] at h1
    have hposi : (0 : Int) < (s.size : Int) := by omega
    clear hhd
    by_cases h2 : s[0]'hpos = 32
    · have g1 : (((s[0]'hpos).toNat : Int) == 32) = true := beqI_true (y := 32) h2
      clear h1 h2
      go_enter Tryz.func216, Tryz.ntmps216
      go_wp2
      refine bodyPost_ret (v := .tuple #[.agg #[.string ⟨#[]⟩, .string ⟨#[]⟩], .int .i64 41]) (by simp [results, Tryz.results216, go_sem]) rfl ⟨by rw [HE.out, if_neg (by decide)], ?_⟩
      exact (Below.refl _ _).alloc (Nat.le_refl _) _
    · have h3 : s[0]'hpos = 9 := by
        rcases h1 with h | h
        · exact absurd (Option.some.inj h) h2
        · exact Option.some.inj h
      have g1 : (((s[0]'hpos).toNat : Int) == 32) = false := beqI_false (y := 32) h2
      have g2 : (((s[0]'hpos).toNat : Int) == 9) = true := beqI_true (y := 9) h3
      clear h1 h2 h3
      go_enter Tryz.func216, Tryz.ntmps216
      go_wp2
      refine bodyPost_ret (v := .tuple #[.agg #[.string ⟨#[]⟩, .string ⟨#[]⟩], .int .i64 41]) (by simp [results, Tryz.results216, go_sem]) rfl ⟨by rw [HE.out, if_neg (by decide)], ?_⟩
      exact (Below.refl _ _).alloc (Nat.le_refl _) _
  · have hE : P.oneE (L s) = if P.from_ (· == 58) (L s) = [] ∨ T.token (P.nameOf (L s)) = false ∨ F.good (B (P.valOf (L s))) = false then 40 else 0 := if_neg h1
    have hst : (s.toList = [] ∧ s.size = 0) ∨ ∃ h : 0 < s.size, ¬ s.toList = [] ∧ s.toList.isEmpty = false ∧ (((s[0]'h).toNat : Int) == 32) = false ∧ (((s[0]'h).toNat : Int) == 9) = false := by
      rcases Nat.eq_zero_or_pos s.size with h0 | h0
      · left
        refine ⟨?_, h0⟩
        rw [L_toList]
        exact List.eq_nil_of_length_eq_zero (by rw [← L_size]; exact h0)
      · right
        have hhd : (L s).head? = some (s[0]'h0) := by
          rw [List.head?_eq_getElem?, List.getElem?_eq_getElem (by rw [← L_size]; exact h0), L_at s 0 h0]
        rw [hhd] at h1
        have hne : ¬ s.toList = [] := by
          rw [L_toList]
          intro h
          rw [L_size, h] at h0
          simp at h0
        refine ⟨h0, hne, by simpa using hne, ?_, ?_⟩
        · exact beqI_false (y := 32) (fun h => h1 (.inl (by rw [h])))
        · exact beqI_false (y := 9) (fun h => h1 (.inr (by rw [h])))
    obtain ⟨c1, c2, c3, c4⟩ := colon_facts s
    have e1 : s.extract 0 (colonAt s) = (P.oneF (L s)).1 := by
      show _ = B (P.nameOf (L s))
      rw [extract_B, c3]
      rfl
    have e2 : B (T.trim (L (s.extract (colonAt s + 1) s.size))) = (P.oneF (L s)).2 := by
      show _ = B (P.valOf (L s))
      unfold P.valOf
      rw [c4, L_extract, List.drop_drop, List.take_of_length_le (by rw [List.length_drop, ← L_size]; exact Nat.le_refl _)]
    have hsz := P.one_small (L s)
    have hz1 : (P.oneF (L s)).1.size ≤ 1099511627776 := by rw [HZ.out] at hsz; omega
    have hz2 : (P.oneF (L s)).2.size ≤ 1099511627776 := by rw [HZ.out] at hsz; omega
    have HTK : Hid (∀ u, Calls Tryz.prog 157 #[.string (s.extract 0 (colonAt s))] u (RetP u (.bool (T.token (P.nameOf (L s)))))) := Lib.hid (fun u => by rw [e1]; exact refToken_any (P.oneF (L s)).1 u hz1)
    have HTR : Hid (∀ u, Calls Tryz.prog 271 #[.string (s.extract (colonAt s + 1) s.size)] u (RetS u (P.oneF (L s)).2)) := Lib.hid (fun u => by rw [← e2]; exact refTrim_any (s.extract (colonAt s + 1) s.size) u (by have := extract_le s (colonAt s + 1) s.size; omega))
    have HGD : Hid (∀ u, Calls Tryz.prog 272 #[.string (P.oneF (L s)).2] u (RetB u (F.good (B (P.valOf (L s)))))) := Lib.hid (fun u => refValue_any (P.oneF (L s)).2 u hz2)
    have HE1 := Lib.hid e1
    simp only [c2] at hE
    have HEE := Lib.hid hE
    have HCA : Hid (colonAt s = (P.upto (· == 58) (L s)).length) := Lib.hid rfl
    clear h1 hE c2 c3 c4 e1 e2 hsz hz1 hz2
    obtain ⟨ca, hca⟩ : ∃ ca, colonAt s = ca := ⟨_, rfl⟩
    rw [hca] at HTK HTR HE1 HEE HCA c1
    clear hca
    generalize T.token (P.nameOf (L s)) = tk at *
    generalize F.good (B (P.valOf (L s))) = gd at *
    obtain ⟨vl, hvl⟩ : ∃ vl, (P.oneF (L s)).2 = vl := ⟨_, rfl⟩
    rw [hvl] at HTR HGD
    have HVL := Lib.hid hvl
    clear hvl
    have HB0 := Lib.hid ((Below.refl w.heap.size w).alloc (Nat.le_refl _) (.cells #[.string ⟨#[]⟩, .string ⟨#[]⟩] 148))
    have HK0 := Lib.hid (Blk.new w #[.string ⟨#[]⟩, .string ⟨#[]⟩] 148)
    rcases hst with ⟨hs0, _⟩ | ⟨hp0, hs0, hs1, hs2, hs3⟩
    · obtain rfl : s = ⟨#[]⟩ := L_inj (by rw [← L_toList]; exact hs0)
      have HE : Hid (P.oneE (L ⟨#[]⟩) = 40) := Lib.hid (by decide)
      clear HEE HCA HTR HTK HGD HE1 HZ hs0 c1
      go_enter Tryz.func216, Tryz.ntmps216
      go_wp2_with fail
      go_loop [4] (fun i => i = .int .i64 0) (fun _ => 0)
      case atStart => exact rfl
      case round =>
        subst hrel
        go_wp2
        refine bodyPost_ret (v := .tuple #[.agg #[.string ⟨#[]⟩, .string ⟨#[]⟩], .int .i64 40]) (by simp [results, Tryz.results216, go_sem]) rfl ⟨by rw [HE.out, if_neg (by decide)], ?_⟩
        exact HB0.out
    · skip
      go_enter Tryz.func216, Tryz.ntmps216
      go_upto_block 0 with fail
      go_cut [4] (fun s4 wx => s4 = .int .i64 ca ∧ wx = w.alloc (.cells #[.string ⟨#[]⟩, .string ⟨#[]⟩] 148))
      case first =>
        go_wp2_with fail
        go_loop [4] (fun i => ∃ k : Nat, k ≤ s.size ∧ i = .int .i64 k ∧ ∀ j (h : j < (L s).length), j < k → ((L s)[j] == 58) = false) (fun i => s.size - (intOf i).toNat)
        case atStart => exact ⟨0, Nat.zero_le _, rfl, fun j _ h => absurd h (by omega)⟩
        case round =>
          obtain ⟨k, hk, rfl, hno⟩ := hrel
          have HNO := Lib.hid hno
          clear hno
          by_cases hlt : k < s.size
          · have hki : (k : Int) < (s.size : Int) := by omega
            have hkl : k < (L s).length := by rw [HZ.out]; exact hlt
            by_cases h58 : s[k] = 58
            · have g1 : (((s[k]).toNat : Int) == 58) = true := beqI_true (y := 58) h58
              have g2 : (((s[k]).toNat : Int) != 58) = false := by rw [bne, g1]; rfl
              have hcc : ((L s)[k]'hkl == 58) = true := by
                show (s[k] == 58) = true
                rw [h58]; rfl
              have HR : Hid (ca = k) := Lib.hid (by
                have := P.upto_eq (p := (· == 58)) (l := L s) (k := k) (Nat.le_of_lt hkl) HNO.out (fun _ => hcc)
                rw [HCA.out, this.1, List.length_take]
                omega)
              clear h58 hcc g1
              go_wp2_with fail
              go_meet
              exact ⟨by rw [HR.out], rfl⟩
            · have g1 : (((s[k]).toNat : Int) == 58) = false := beqI_false (y := 58) h58
              have g2 : (((s[k]).toNat : Int) != 58) = true := by rw [bne, g1]; rfl
              have hcc : ((L s)[k]'hkl == 58) = false := by
                show (s[k] == 58) = false
                simpa using h58
              have HSP := Lib.hid hcc
              clear h58 hcc g1
              go_wp2
              go_round
              case rel =>
                refine ⟨k + 1, by omega, by go_num, fun j h h2 => ?_⟩
                by_cases hjk : j = k
                · subst hjk; exact HSP.out
                · exact HNO.out j h (by omega)
              case measure => simp [intOf]; omega
          · have hks : k = s.size := by omega
            have hki : ¬ (k : Int) < (s.size : Int) := by omega
            have HR : Hid (ca = k) := Lib.hid (by
              have := P.upto_eq (p := (· == 58)) (l := L s) (k := k) (by rw [HZ.out]; exact hk) HNO.out (fun h => absurd h (by rw [HZ.out]; omega))
              rw [HCA.out, this.1, List.length_take, HZ.out]
              omega)
            clear hks
            go_wp2_with fail
            go_meet
            exact ⟨by rw [HR.out], rfl⟩
      case rest =>
        obtain ⟨rfl, rfl⟩ := hcut
        clear HCA
        have hcai : (ca : Int) ≤ (s.size : Int) := by omega
        by_cases hcs : ca = s.size
        · have HE : Hid (P.oneE (L s) = 40) := Lib.hid (HEE.out.trans (if_pos (.inl hcs)))
          have hcb : ((ca : Int) == (s.size : Int)) = true := beq_iff_eq.2 (by omega)
          clear hcs
          go_wp2
          refine bodyPost_ret (v := .tuple #[.agg #[.string ⟨#[]⟩, .string ⟨#[]⟩], .int .i64 40]) (by simp [results, Tryz.results216, go_sem]) rfl ⟨by rw [HE.out, if_neg (by decide)], ?_⟩
          exact HB0.out
        · have hcb : ((ca : Int) == (s.size : Int)) = false := beq_eq_false_iff_ne.2 (by omega)
          have hcb2 : ¬ (ca : Int) = (s.size : Int) := by omega
          have hcl : (ca : Int) + 1 ≤ (s.size : Int) := by omega
          have HE2 : Hid (P.oneE (L s) = if tk = false ∨ gd = false then 40 else 0) := Lib.hid (by rw [HEE.out]; simp only [hcs, false_or])
          clear HEE hcs
          go_wp2_with fail
          refine (HTK.out _).mono ?_
          rintro e w' ⟨rfl, rfl⟩
          cases tk
          · have HE : Hid (P.oneE (L s) = 40) := Lib.hid (HE2.out.trans (if_pos (.inl rfl)))
            go_wp2
            refine bodyPost_ret (v := .tuple #[.agg #[.string ⟨#[]⟩, .string ⟨#[]⟩], .int .i64 40]) (by simp [results, Tryz.results216, go_sem]) rfl ⟨by rw [HE.out, if_neg (by decide)], ?_⟩
            exact HB0.out
          · generalize w.alloc (.cells #[.string ⟨#[]⟩, .string ⟨#[]⟩] 148) = w0 at *
            go_wp2_with fail
            refine (HTR.out _).mono ?_
            rintro e w2 ⟨rfl, hb2⟩
            have HK2 := Lib.hid (HK0.out.below hb2)
            have HB2 := Lib.hid (below_then HB0.out.size HB0.out hb2)
            clear hb2 HK0 HB0 HTR HTK
            go_wp2_with fail
            refine (HGD.out _).mono ?_
            rintro e w3 ⟨rfl, hb3⟩
            have HK3 := Lib.hid (HK2.out.below hb3)
            have HB3 := Lib.hid (below_then HB2.out.size HB2.out hb3)
            clear hb3 HK2 HB2 HGD
            obtain ⟨x0, x1⟩ := HK3.out.cells2
            have f0 := HK3.out.free 0
            have f1 := HK3.out.free 1
            cases gd
            · have HE : Hid (P.oneE (L s) = 40) := Lib.hid (HE2.out.trans (if_pos (.inr rfl)))
              go_wp2
              obtain ⟨z0, z1⟩ := ((HK3.out.set 0 (.string ⟨#[]⟩)).set 1 (.string ⟨#[]⟩)).cells2
              refine bodyPost_ret (v := .tuple #[.agg #[.string ⟨#[]⟩, .string ⟨#[]⟩], .int .i64 40]) (by simp [results, Tryz.results216, go_sem, z0, z1]) rfl ⟨by rw [HE.out, if_neg (by decide)], ?_⟩
              exact below_set (below_set HB3.out (Nat.le_refl _) 0 _) (Nat.le_refl _) 1 _
            · have HE : Hid (P.oneE (L s) = 0) := Lib.hid (HE2.out.trans (if_neg (by simp)))
              go_wp2
              obtain ⟨z0, z1⟩ := ((HK3.out.set 0 (.string (s.extract 0 ca))).set 1 (.string vl)).cells2
              refine bodyPost_ret (v := .tuple #[.agg #[.string (s.extract 0 ca), .string vl], .int .i64 0]) (by simp [results, Tryz.results216, go_sem, z0, z1]) rfl ⟨?_, ?_⟩
              · rw [HE.out, if_pos rfl, ← HE1.out, HVL.out]
              · exact below_set (below_set HB3.out (Nat.le_refl _) 0 _) (Nat.le_refl _) 1 _
end Go.Proofs.YteehjkfmlcfffaaGreatDoor

namespace Go.Proofs.YteehjkfmlcfffaaGreatDoor
open Go.RowKit

theorem occ4 (l : List UInt8) (i : Nat) (h : i + 3 < l.length) : Lib.occAt l P.crlf2 i = (decide (l[i]'(by omega) = 13) && decide (l[i + 1]'(by omega) = 10) && decide (l[i + 2]'(by omega) = 13) && decide (l[i + 3]'(by omega) = 10)) := by
  unfold Lib.occAt P.crlf2
  rw [List.drop_eq_getElem_cons (by omega : i < l.length), List.drop_eq_getElem_cons (by omega : i + 1 < l.length), List.drop_eq_getElem_cons (by omega : i + 1 + 1 < l.length), List.drop_eq_getElem_cons (by omega : i + 1 + 1 + 1 < l.length)]
  simp only [List.isPrefixOf, Bool.and_true]
  have hb : ∀ x y : UInt8, (x == y) = decide (y = x) := fun x y => by
    rw [Bool.eq_iff_iff, beq_iff_eq, decide_eq_true_iff]; exact eq_comm
  rw [hb, hb, hb, hb]
  simp only [Bool.and_assoc]
theorem occ2 (l : List UInt8) (i : Nat) (h : i + 1 < l.length) : Lib.occAt l P.crlf i = (decide (l[i]'(by omega) = 13) && decide (l[i + 1]'(by omega) = 10)) := by
  unfold Lib.occAt P.crlf
  rw [List.drop_eq_getElem_cons (by omega : i < l.length), List.drop_eq_getElem_cons (by omega : i + 1 < l.length)]
  simp only [List.isPrefixOf, Bool.and_true]
  have hb : ∀ x y : UInt8, (x == y) = decide (y = x) := fun x y => by
    rw [Bool.eq_iff_iff, beq_iff_eq, decide_eq_true_iff]; exact eq_comm
  rw [hb, hb]
theorem occ_drop (l p : List UInt8) (k j : Nat) : Lib.occAt (l.drop k) p j = Lib.occAt l p (k + j) := by
  unfold Lib.occAt
  rw [List.drop_drop]

def RetEnd (w : World) (bs : List UInt8) (k : Nat) (e : Ending) (w' : World) : Prop := e = .returned (.tuple #[.int .i64 (P.hN bs k), .int .i64 (P.hE bs k)]) ∧ w = w'

set_option maxRecDepth 100000 in
set_option maxHeartbeats 2000000 in
theorem refEnd_any (A : Option Addr) (n c k : Nat) (bs : List UInt8) (w : World) (hnm : n ≤ 1073741824) (hkn : k ≤ n) (hx : Rd w A n 1 (bcells bs)) :
    Calls Tryz.prog 139 #[.slice A n c, .int .i64 k] w (RetEnd w bs k) := by
  have hll := rd_len hx
  have HCL := Lib.hid (fun (j : Nat) (hj : j < bs.length) => show ∃ b o, A = some ⟨b, o, none⟩ ∧ w.cell? ⟨b, o + j, none⟩ = some (.int .u8 (bs[j]'hj).toNat) from by
    obtain ⟨b, o, e, _, hc⟩ := hx.2 (by omega)
    exact ⟨b, o, e, hc j _ (by simp [bcells, hj])⟩)
  clear hx
  obtain ⟨N0, hN0⟩ : ∃ N0, P.hN bs k = N0 := ⟨_, rfl⟩
  obtain ⟨E0, hE0⟩ : ∃ E0, P.hE bs k = E0 := ⟨_, rfl⟩
  unfold RetEnd
  rw [hN0, hE0]
  have HNE : Hid ((N0 = if P.hIdx bs k < 0 ∨ 8192 < k + P.hIdx bs k + 4 then 0 else k + P.hIdx bs k + 4) ∧ E0 = if P.hIdx bs k < 0 then (if bs.length < 8192 then 0 else 51) else if 8192 < k + P.hIdx bs k + 4 then 51 else 0) := Lib.hid ⟨hN0.symm, hE0.symm⟩
  clear hN0 hE0
  go_enter Tryz.func139, Tryz.ntmps139
  go_wp2
  go_loop [6] (fun s6 => ∃ i : Nat, k ≤ i ∧ i ≤ n ∧ s6 = .int .i64 i ∧ ∀ j, k ≤ j → j < i → Lib.occAt bs P.crlf2 j = false) (fun s6 => n - (intOf s6).toNat)
  case atStart => exact ⟨k, Nat.le_refl _, hkn, rfl, fun j h1 h2 => absurd h1 (by omega)⟩
  case round =>
    obtain ⟨i, hki, hin, rfl, hno⟩ := hrel
    have HNO := Lib.hid hno
    clear hno
    by_cases hlt : i + 3 < n
    · have hii : (i : Int) + 3 < (n : Int) := by omega
      have hi0 : (i : Int) < (n : Int) := by omega
      have hi1 : (i : Int) + 1 < (n : Int) := by omega
      have hi2 : (i : Int) + 2 < (n : Int) := by omega
      have HOC := Lib.hid (occ4 bs i (by omega))
      obtain ⟨b, o, rfl, q0⟩ := HCL.out i (by omega)
      have q1 : w.cell? ⟨b, o + (i + 1), none⟩ = some (.int .u8 (bs[i + 1]'(by omega)).toNat) := by
        obtain ⟨b', o', e, q⟩ := HCL.out (i + 1) (by omega)
        cases e; exact q
      have q2 : w.cell? ⟨b, o + (i + 2), none⟩ = some (.int .u8 (bs[i + 2]'(by omega)).toNat) := by
        obtain ⟨b', o', e, q⟩ := HCL.out (i + 2) (by omega)
        cases e; exact q
      have q3 : w.cell? ⟨b, o + (i + 3), none⟩ = some (.int .u8 (bs[i + 3]'(by omega)).toNat) := by
        obtain ⟨b', o', e, q⟩ := HCL.out (i + 3) (by omega)
        cases e; exact q
      have NEXT : Lib.occAt bs P.crlf2 i = false → ∀ j, k ≤ j → j < i + 1 → Lib.occAt bs P.crlf2 j = false := fun h j h1 h2 => by
        by_cases hji : j = i
        · subst hji; exact h
        · exact HNO.out j h1 (by omega)
      have HNX := Lib.hid NEXT
      clear NEXT
      generalize bs[i]'(by omega) = a0 at *
      generalize bs[i + 1]'(by omega) = a1 at *
      generalize bs[i + 2]'(by omega) = a2 at *
      generalize bs[i + 3]'(by omega) = a3 at *
      by_cases h0 : a0 = 13
      · have g0 : ((a0.toNat : Int) == 13) = true := beqI_true (y := 13) h0
        by_cases h1 : a1 = 10
        · have g1 : ((a1.toNat : Int) == 10) = true := beqI_true (y := 10) h1
          by_cases h2 : a2 = 13
          · have g2 : ((a2.toNat : Int) == 13) = true := beqI_true (y := 13) h2
            by_cases h3 : a3 = 10
            · have g3 : ((a3.toNat : Int) == 10) = true := beqI_true (y := 10) h3
              have hix : P.hIdx bs k = ((i - k : Nat) : Int) := by
                have hoc : Lib.occAt bs P.crlf2 i = true := by rw [HOC.out, decide_eq_true h0, decide_eq_true h1, decide_eq_true h2, decide_eq_true h3]; rfl
                refine Lib.index_hit ?_ (by rw [List.length_drop]; omega) (by rw [occ_drop, show k + (i - k) = i by omega]; exact hoc)
                intro j hj
                rw [occ_drop]
                exact HNO.out _ (by omega) (by omega)
              rw [hix] at HNE
              clear h0 h1 h2 h3 HOC HNX HNO hix HCL
              by_cases h8 : 8192 < i + 4
              · have HR : Hid (N0 = 0 ∧ E0 = 51) := Lib.hid ⟨HNE.out.1.trans (if_pos (.inr (by omega))), HNE.out.2.trans ((if_neg (by omega)).trans (if_pos (by omega)))⟩
                have h8i : (8192 : Int) < (i : Int) + 4 := by omega
                go_wp2
                go_ret2
                exact ⟨by rw [HR.out.1, HR.out.2]; rfl, rfl⟩
              · have HR : Hid (N0 = (i : Int) + 4 ∧ E0 = 0) := Lib.hid ⟨HNE.out.1.trans ((if_neg (by omega)).trans (by omega)), HNE.out.2.trans ((if_neg (by omega)).trans (if_neg (by omega)))⟩
                have h8i : ¬ (8192 : Int) < (i : Int) + 4 := by omega
                go_wp2
                go_ret2
                exact ⟨by rw [HR.out.1, HR.out.2]; rfl, rfl⟩
            · have g3 : ((a3.toNat : Int) == 10) = false := beqI_false (y := 10) h3
              have NEXT := Lib.hid (HNX.out (by rw [HOC.out, decide_eq_false h3, Bool.and_false]))
              clear h0 h1 h2 h3 HOC HNX HNO
              go_wp2
              go_round
              case rel => exact ⟨i + 1, by omega, by omega, by go_num, NEXT.out⟩
              case measure => simp [intOf]; omega
          · have g2 : ((a2.toNat : Int) == 13) = false := beqI_false (y := 13) h2
            have NEXT := Lib.hid (HNX.out (by rw [HOC.out, decide_eq_false h2, Bool.and_false, Bool.false_and]))
            clear h0 h1 h2 HOC HNX HNO
            go_wp2
            go_round
            case rel => exact ⟨i + 1, by omega, by omega, by go_num, NEXT.out⟩
            case measure => simp [intOf]; omega
        · have g1 : ((a1.toNat : Int) == 10) = false := beqI_false (y := 10) h1
          have NEXT := Lib.hid (HNX.out (by rw [HOC.out, decide_eq_false h1, Bool.and_false, Bool.false_and, Bool.false_and]))
          clear h0 h1 HOC HNX HNO
          go_wp2
          go_round
          case rel => exact ⟨i + 1, by omega, by omega, by go_num, NEXT.out⟩
          case measure => simp [intOf]; omega
      · have g0 : ((a0.toNat : Int) == 13) = false := beqI_false (y := 13) h0
        have NEXT := Lib.hid (HNX.out (by rw [HOC.out, decide_eq_false h0, Bool.false_and, Bool.false_and, Bool.false_and]))
        clear h0 HOC HNX HNO
        go_wp2
        go_round
        case rel => exact ⟨i + 1, by omega, by omega, by go_num, NEXT.out⟩
        case measure => simp [intOf]; omega
    · have hii : ¬ (i : Int) + 3 < (n : Int) := by omega
      have hix : P.hIdx bs k = -1 := Lib.index_past (i := i - k) (by decide) (fun j hj => by
          rw [occ_drop]
          exact HNO.out _ (by omega) (by omega)) (by rw [List.length_drop]; show bs.length - k < i - k + 4; omega)
      rw [hix] at HNE
      clear HNO HCL hix
      by_cases h8 : bs.length < 8192
      · have HR : Hid (N0 = 0 ∧ E0 = 0) := Lib.hid ⟨HNE.out.1.trans (if_pos (.inl (by decide))), HNE.out.2.trans ((if_pos (by decide)).trans (if_pos h8))⟩
        have h8i : ¬ (8192 : Int) ≤ (n : Int) := by omega
        go_wp2
        go_ret2
        exact ⟨by rw [HR.out.1, HR.out.2]; rfl, rfl⟩
      · have HR : Hid (N0 = 0 ∧ E0 = 51) := Lib.hid ⟨HNE.out.1.trans (if_pos (.inl (by decide))), HNE.out.2.trans ((if_pos (by decide)).trans (if_neg h8))⟩
        have h8i : (8192 : Int) ≤ (n : Int) := by omega
        go_wp2
        go_ret2
        exact ⟨by rw [HR.out.1, HR.out.2]; rfl, rfl⟩

/-- A text's first line and what stands behind it, answered. -/
def RetSplit (w : World) (b o m cc : Nat) (h : List UInt8) (j : Nat) (e : Ending) (w' : World) : Prop :=
  e = .returned (.tuple #[.string (B (h.take j)), .slice (some ⟨b, o + (j + 2), none⟩) (m - (j + 2)) (cc - (j + 2))]) ∧ Below w.heap.size w w'

set_option maxRecDepth 100000 in
set_option maxHeartbeats 2000000 in
theorem refSplit_any (b o m cc : Nat) (h : List UInt8) (j : Nat) (w : World) (hm : m ≤ 1073741824) (hjm : j + 2 ≤ m) (hmc : m < cc) (hx : Rd w (some ⟨b, o, none⟩) m 1 (bcells h)) (hj : Lib.index h P.crlf = j) :
    Calls Tryz.prog 140 #[.slice (some ⟨b, o, none⟩) m cc] w (RetSplit w b o m cc h j) := by
  have hll := rd_len hx
  have hspec : (∀ i, i < j → Lib.occAt h P.crlf i = false) ∧ Lib.occAt h P.crlf j = true := by
    rcases Lib.index_spec h P.crlf with ⟨h1, _⟩ | ⟨i, h1, h2, h3, h4⟩
    · rw [hj] at h1
      omega
    · rw [hj] at h1
      obtain rfl : j = i := by omega
      exact ⟨fun i hi => h4 i hi, h3⟩
  have HS := Lib.hid hspec
  have HX := Lib.hid hx
  have HCL := Lib.hid (fun (j : Nat) (hj : j < h.length) => show w.cell? ⟨b, o + j, none⟩ = some (.int .u8 (h[j]'hj).toNat) from by
    obtain ⟨b', o', e, _, hc⟩ := hx.2 (by omega)
    cases e
    exact hc j _ (by simp [bcells, hj]))
  clear hx hspec hj
  go_enter Tryz.func140, Tryz.ntmps140
  go_wp2
  go_loop [4] (fun s4 => ∃ i : Nat, i ≤ j ∧ s4 = .int .i64 i) (fun s4 => j - (intOf s4).toNat)
  case atStart => exact ⟨0, Nat.zero_le _, rfl⟩
  case round =>
    obtain ⟨i, hij, rfl⟩ := hrel
    have hi0 : (i : Int) < (m : Int) := by omega
    have hi1 : (i : Int) + 1 < (m : Int) := by omega
    have q0 := HCL.out i (by omega)
    have q1 := HCL.out (i + 1) (by omega)
    have HOC := Lib.hid (occ2 h i (by omega))
    generalize h[i]'(by omega) = a0 at *
    generalize h[i + 1]'(by omega) = a1 at *
    by_cases hlt : i < j
    · have hoc := HS.out.1 i hlt
      rw [HOC.out] at hoc
      by_cases h0 : a0 = 13
      · have h1 : ¬ a1 = 10 := fun h1 => by
          rw [decide_eq_true h0, decide_eq_true h1] at hoc
          cases hoc
        have g0a : ((a0.toNat : Int) == 13) = true := beqI_true (y := 13) h0
        have g0 : ((a0.toNat : Int) != 13) = false := by rw [bne, g0a]; rfl
        have g1a : ((a1.toNat : Int) == 10) = false := beqI_false (y := 10) h1
        have g1 : ((a1.toNat : Int) != 10) = true := by rw [bne, g1a]; rfl
        clear h0 h1 hoc g0a g1a HOC
        go_wp2
        go_round
        case rel => exact ⟨i + 1, by omega, by go_num⟩
        case measure => simp [intOf]; omega
      · have g0a : ((a0.toNat : Int) == 13) = false := beqI_false (y := 13) h0
        have g0 : ((a0.toNat : Int) != 13) = true := by rw [bne, g0a]; rfl
        clear h0 hoc g0a HOC
        go_wp2
        go_round
        case rel => exact ⟨i + 1, by omega, by go_num⟩
        case measure => simp [intOf]; omega
    · obtain rfl : i = j := by omega
      have hoc := HS.out.2
      rw [HOC.out, Bool.and_eq_true] at hoc
      have h0 : a0 = 13 := of_decide_eq_true hoc.1
      have h1 : a1 = 10 := of_decide_eq_true hoc.2
      have g0a : ((a0.toNat : Int) == 13) = true := beqI_true (y := 13) h0
      have g0 : ((a0.toNat : Int) != 13) = false := by rw [bne, g0a]; rfl
      have g1a : ((a1.toNat : Int) == 10) = true := beqI_true (y := 10) h1
      have g1 : ((a1.toNat : Int) != 10) = false := by rw [bne, g1a]; rfl
      clear h0 h1 hoc g0a g1a HOC HS HCL
      go_wp2
      have hS0 : Below w.heap.size w w.drew := (Below.refl _ _).drew
      have him : (i : Int) ≤ (m : Int) := by omega
      have him2 : (i : Int) + 2 ≤ (m : Int) := by omega
      have hic : (i : Int) + 2 < (cc : Int) := by omega
      have hicn : ¬ (i : Int) + 2 = (cc : Int) := by omega
      have hicn2 : ¬ cc = i + 2 := by omega
      have hicc : (i : Int) ≤ (cc : Int) := by omega
      have hw2 : IntKind.i64.wrap ((i : Int) + 2) = (i : Int) + 2 := IntWalk.i64_in _ (by omega)
      have hw3 : 0 ≤ (i : Int) + 2 := by omega
      have hw4 : ((i : Int) + 2).toNat = i + 2 := by omega
      refine wp_region_noPanic ?_
      refine HT.begin (n := 9) (S := Below w.heap.size w) (by kernel_rfl) hS0 ?_
      refine HT.take 0 (.slice (some ⟨b, o, none⟩) m cc) rfl (by kernel_rfl) (fun _ _ _ h => h) (Or.inl ⟨by rfl, ?_⟩) (?_ : HT _ _ _ _ _ _ _ ⟨#[_, _, _, _, _, _, _, _, _, _, _, _, _, _, _, _, _, _, _, _, .slice (some ⟨b, o, none⟩) m cc, _, _, _, _, _, _, _], []⟩ _)
      · intro u hu
        go_simp
      refine HT.take 1 (.int .i64 i) rfl (by kernel_rfl) (fun _ _ _ h => h) (Or.inl ⟨by rfl, ?_⟩) (?_ : HT _ _ _ _ _ _ _ ⟨#[_, _, _, _, _, _, _, _, _, _, _, _, _, _, _, _, _, _, _, _, .slice (some ⟨b, o, none⟩) m cc, .int .i64 i, _, _, _, _, _, _], []⟩ _)
      · intro u hu
        go_simp
      refine HT.take 2 (.slice (some ⟨b, o, none⟩) i cc) rfl (by kernel_rfl) (fun _ _ _ h => h) (Or.inl ⟨by rfl, ?_⟩) (?_ : HT _ _ _ _ _ _ _ ⟨#[_, _, _, _, _, _, _, _, _, _, _, _, _, _, _, _, _, _, _, _, .slice (some ⟨b, o, none⟩) m cc, .int .i64 i, .slice (some ⟨b, o, none⟩) i cc, _, _, _, _, _], []⟩ _)
      · intro u hu
        go_simp
      refine HT.take 3 (.string (B (h.take i))) rfl (by kernel_rfl) (fun _ _ _ h => h) (Or.inl ⟨by rfl, ?_⟩) (?_ : HT _ _ _ _ _ _ _ ⟨#[_, _, _, _, _, _, _, _, _, _, _, _, _, _, _, _, _, _, _, _, .slice (some ⟨b, o, none⟩) m cc, .int .i64 i, .slice (some ⟨b, o, none⟩) i cc, .string (B (h.take i)), _, _, _, _], []⟩ _)
      · intro u hu
        have hcv := conv_bs ((HX.out.below hu).upto (show i ≤ m by omega)) cc
        go_simp
      refine HT.take 4 (.slice (some ⟨b, o, none⟩) m cc) rfl (by kernel_rfl) (fun _ _ _ h => h) (Or.inl ⟨by rfl, ?_⟩) (?_ : HT _ _ _ _ _ _ _ ⟨#[_, _, _, _, _, _, _, _, _, _, _, _, _, _, _, _, _, _, _, _, .slice (some ⟨b, o, none⟩) m cc, .int .i64 i, .slice (some ⟨b, o, none⟩) i cc, .string (B (h.take i)), .slice (some ⟨b, o, none⟩) m cc, _, _, _], []⟩ _)
      · intro u hu
        go_simp
      refine HT.take 5 (.int .i64 i) rfl (by kernel_rfl) (fun _ _ _ h => h) (Or.inl ⟨by rfl, ?_⟩) (?_ : HT _ _ _ _ _ _ _ ⟨#[_, _, _, _, _, _, _, _, _, _, _, _, _, _, _, _, _, _, _, _, .slice (some ⟨b, o, none⟩) m cc, .int .i64 i, .slice (some ⟨b, o, none⟩) i cc, .string (B (h.take i)), .slice (some ⟨b, o, none⟩) m cc, .int .i64 i, _, _], []⟩ _)
      · intro u hu
        go_simp
      refine HT.take 6 (.int .i64 ((i : Int) + 2)) rfl (by kernel_rfl) (fun _ _ _ h => h) (Or.inl ⟨by rfl, ?_⟩) (?_ : HT _ _ _ _ _ _ _ ⟨#[_, _, _, _, _, _, _, _, _, _, _, _, _, _, _, _, _, _, _, _, .slice (some ⟨b, o, none⟩) m cc, .int .i64 i, .slice (some ⟨b, o, none⟩) i cc, .string (B (h.take i)), .slice (some ⟨b, o, none⟩) m cc, .int .i64 i, .int .i64 ((i : Int) + 2), _], []⟩ _)
      · intro u hu
        go_simp
      refine HT.take 7 (.slice (some ⟨b, o + (i + 2), none⟩) (m - (i + 2)) (cc - (i + 2))) rfl (by kernel_rfl) (fun _ _ _ h => h) (Or.inl ⟨by rfl, ?_⟩) (?_ : HT _ _ _ _ _ _ _ ⟨#[_, _, _, _, _, _, _, _, _, _, _, _, _, _, _, _, _, _, _, _, .slice (some ⟨b, o, none⟩) m cc, .int .i64 i, .slice (some ⟨b, o, none⟩) i cc, .string (B (h.take i)), .slice (some ⟨b, o, none⟩) m cc, .int .i64 i, .int .i64 ((i : Int) + 2), .slice (some ⟨b, o + (i + 2), none⟩) (m - (i + 2)) (cc - (i + 2))], []⟩ _)
      · intro u hu
        go_simp
      refine HT.take 8 (.string (B (h.take i))) rfl (by kernel_rfl) (fun _ _ _ h => h) (Or.inl ⟨by rfl, ?_⟩) (?_ : HT _ _ _ _ _ _ _ ⟨#[_, _, .string (B (h.take i)), _, _, _, _, _, _, _, _, _, _, _, _, _, _, _, _, _, .slice (some ⟨b, o, none⟩) m cc, .int .i64 i, .slice (some ⟨b, o, none⟩) i cc, .string (B (h.take i)), .slice (some ⟨b, o, none⟩) m cc, .int .i64 i, .int .i64 ((i : Int) + 2), .slice (some ⟨b, o + (i + 2), none⟩) (m - (i + 2)) (cc - (i + 2))], []⟩ _)
      · intro u hu
        go_simp
      refine HT.tail _ rfl rfl (by kernel_rfl) (fun hS => ?_)
      have HB := Lib.hid hS
      clear hS hS0
      go_wp2
      refine NoPanic.normal ?_
      go_wp2
      go_ret2
      exact ⟨rfl, HB.out⟩
end Go.Proofs.YteehjkfmlcfffaaGreatDoor

namespace Go.Proofs.YteehjkfmlcfffaaGreatDoor
open Go.RowKit

theorem eol_iff (x : UInt8) : P.eol x = false ↔ x ≠ 13 ∧ x ≠ 10 := by
  unfold P.eol
  rw [Bool.or_eq_false_iff, beq_eq_false_iff_ne, beq_eq_false_iff_ne]

set_option maxRecDepth 100000 in
set_option maxHeartbeats 4000000 in
theorem refParse_any (A : Option Addr) (n c : Nat) (bs : List UInt8) (w : World) (hnm : n ≤ 1073741824) (hnc : n ≤ c) (hx : Rd w A n 1 (bcells bs)) :
    Calls Tryz.prog 143 #[.slice A n c] w (RetL w (P.parse [] bs)) := by
  have hll := rd_len hx
  have HLL := Lib.hid hll
  have HX := Lib.hid hx
  have HCL := Lib.hid (fun (j : Nat) (hj : j < bs.length) (u : World) (hb : Below w.heap.size w u) => show ∃ b o, A = some ⟨b, o, none⟩ ∧ u.cell? ⟨b, o + j, none⟩ = some (.int .u8 (bs[j]'hj).toNat) from by
    obtain ⟨b, o, e, hlt, hc⟩ := hx.2 (by omega)
    exact ⟨b, o, e, (hb.cell (p := ⟨b, o + j, none⟩) hlt).trans (hc j _ (by simp [bcells, hj]))⟩)
  obtain ⟨R, hR⟩ : ∃ R, R = P.parse [] bs := ⟨_, rfl⟩
  have HR := Lib.hid hR
  rw [← hR]
  clear hx hR hll
  go_enter Tryz.func143, Tryz.ntmps143
  go_wp2
  go_loopw [4, 5] (fun o a wr => ∃ (k : Nat) (A1 : Option Addr) (N c1 : Nat) (out : List FD), k ≤ n ∧ a = .int .i64 k ∧ o = .slice A1 N c1 ∧ Row wr w.heap.size 148 2 A1 N c1 (fcells out) ∧ out.length = N ∧ N ≤ 100 ∧ R = P.parse out (bs.drop k) ∧ Below w.heap.size w wr) (fun _ a _ => n - (intOf a).toNat)
  case atStart => exact ⟨0, _, 0, 0, [], Nat.zero_le _, rfl, rfl, Row.empty _ _ _ _ _, rfl, by omega, HR.out, (Below.refl _ _).alloc (Nat.le_refl _) _⟩
  case round =>
    obtain ⟨wo, rfl⟩ : ∃ wo : World, wo = wr := ⟨_, rfl⟩
    obtain ⟨k, A1, N, c1, out, hk, rfl, rfl, hrow, hlen, hN, hpar, hbel⟩ := hrel
    have HROW := Lib.hid hrow
    have HLEN := Lib.hid hlen
    have HPAR := Lib.hid hpar
    have HB := Lib.hid hbel
    clear hrow hlen hpar hbel HR
    by_cases hkn : k < n
    · have hkni : (k : Int) < (n : Int) := by omega
      have hdl : (bs.drop k).length = n - k := by rw [List.length_drop, HLL.out]
      have hul := P.upto_len P.eol (bs.drop k)
      have hne : bs.drop k ≠ [] := fun h => by rw [h] at hdl; simp at hdl; omega
      obtain ⟨E, hE⟩ : ∃ E, E = k + (P.upto P.eol (bs.drop k)).length := ⟨_, rfl⟩
      have huf : P.upto P.eol (bs.drop k) = (bs.drop k).take (E - k) ∧ P.from_ P.eol (bs.drop k) = bs.drop E := by
        have h := P.upto_from P.eol (bs.drop k)
        have key : ∀ u f : List UInt8, u ++ f = bs.drop k → E = k + u.length → u = (bs.drop k).take (E - k) ∧ f = bs.drop E := by
          rintro u f h rfl
          constructor
          · rw [← h]; simp
          · rw [← List.drop_drop, ← h]; simp
        exact key _ _ h hE
      have hEn : E ≤ n := by omega
      have hkE : k ≤ E := by omega
      have HUF := Lib.hid huf
      have HE := Lib.hid hE
      obtain ⟨b, o, rfl, _⟩ := HCL.out k (by rw [HLL.out]; exact hkn) wo HB.out
      have HCB := Lib.hid (fun (j : Nat) (hj : j < bs.length) (u : World) (hb : Below w.heap.size w u) => show u.cell? ⟨b, o + j, none⟩ = some (.int .u8 (bs[j]'hj).toNat) from by
        obtain ⟨b', o', e, q⟩ := HCL.out j hj u hb
        cases e; exact q)
      clear huf hE hul
      go_upto_block 2 with fail
      go_cut [6] (fun s6 wx => s6 = .int .i64 E ∧ wx = wo)
      case first =>
        go_wp2_with fail
        go_loop [6] (fun s6 => ∃ i : Nat, k ≤ i ∧ i ≤ n ∧ s6 = .int .i64 i ∧ ∀ j (h : j < bs.length), k ≤ j → j < i → P.eol bs[j] = false) (fun s6 => n - (intOf s6).toNat)
        case atStart => exact ⟨k, Nat.le_refl _, hk, rfl, fun j _ h1 h2 => absurd h1 (by omega)⟩
        case round =>
          obtain ⟨i, hki, hin, rfl, hno⟩ := hrel
          have HNO := Lib.hid hno
          clear hno
          by_cases hlt : i < n
          · have hii : (i : Int) < (n : Int) := by omega
            have q0 := HCB.out i (by rw [HLL.out]; exact hlt) wo HB.out
            obtain ⟨x, hxx⟩ : ∃ x, bs[i]'(by rw [HLL.out]; exact hlt) = x := ⟨_, rfl⟩
            rw [hxx] at q0
            have HXX := Lib.hid hxx
            clear hxx
            by_cases he : P.eol x = false
            · obtain ⟨e1, e2⟩ := (eol_iff x).1 he
              have g1a : ((x.toNat : Int) == 13) = false := beqI_false (y := 13) e1
              have g1 : ((x.toNat : Int) != 13) = true := by rw [bne, g1a]; rfl
              have g2a : ((x.toNat : Int) == 10) = false := beqI_false (y := 10) e2
              have g2 : ((x.toNat : Int) != 10) = true := by rw [bne, g2a]; rfl
              have HEE := Lib.hid he
              clear he e1 e2 g1a g2a
              go_wp2
              go_round
              case rel =>
                refine ⟨i + 1, by omega, by omega, by go_num, fun j h h1 h2 => ?_⟩
                by_cases hji : j = i
                · subst hji; rw [HXX.out]; exact HEE.out
                · exact HNO.out j h h1 (by omega)
              case measure => simp [intOf]; omega
            · have HEQ : Hid (E = i) := Lib.hid (by
                rw [HE.out, upto_from_at (p := P.eol) hki (by rw [HLL.out]; exact hin) HNO.out (fun h => by rw [HXX.out]; simpa using he)]
                omega)
              have hx2 : x = 13 ∨ (x ≠ 13 ∧ x = 10) := by
                by_cases h13 : x = 13
                · exact .inl h13
                · refine .inr ⟨h13, ?_⟩
                  by_cases h10 : x = 10
                  · exact h10
                  · exact absurd ((eol_iff x).2 ⟨h13, h10⟩) he
              clear he
              rcases hx2 with h13 | ⟨h13, h10⟩
              · have g1a : ((x.toNat : Int) == 13) = true := beqI_true (y := 13) h13
                have g1 : ((x.toNat : Int) != 13) = false := by rw [bne, g1a]; rfl
                clear g1a h13
                go_wp2_with fail
                go_meet
                exact ⟨by rw [HEQ.out], rfl⟩
              · have g1a : ((x.toNat : Int) == 13) = false := beqI_false (y := 13) h13
                have g1 : ((x.toNat : Int) != 13) = true := by rw [bne, g1a]; rfl
                have g2a : ((x.toNat : Int) == 10) = true := beqI_true (y := 10) h10
                have g2 : ((x.toNat : Int) != 10) = false := by rw [bne, g2a]; rfl
                clear g1a g2a h13 h10
                go_wp2_with fail
                go_meet
                exact ⟨by rw [HEQ.out], rfl⟩
          · have hii : ¬ (i : Int) < (n : Int) := by omega
            have HEQ : Hid (E = i) := Lib.hid (by
              rw [HE.out, upto_from_at (p := P.eol) hki (by rw [HLL.out]; exact hin) HNO.out (fun h => absurd h (by rw [HLL.out]; omega))]
              omega)
            go_wp2_with fail
            go_meet
            exact ⟨by rw [HEQ.out], rfl⟩
      case rest =>
        obtain ⟨rfl, hwc⟩ := hcut
        subst hwc
        by_cases hE1 : E + 1 < n
        · have hE1i : (E : Int) + 1 < (n : Int) := by omega
          have hE0i : (E : Int) < (n : Int) := by omega
          have hE1j : ¬ (n : Int) ≤ (E : Int) + 1 := by omega
          have q0 := HCB.out E (by rw [HLL.out]; omega) _ HB.out
          have q1 := HCB.out (E + 1) (by rw [HLL.out]; omega) _ HB.out
          have hcons : bs.drop E = (bs[E]'(by rw [HLL.out]; omega)) :: (bs[E + 1]'(by rw [HLL.out]; omega)) :: bs.drop (E + 2) := by
            rw [List.drop_eq_getElem_cons (by rw [HLL.out]; omega : E < bs.length), List.drop_eq_getElem_cons (by rw [HLL.out]; omega : E + 1 < bs.length)]
          have HCONS := Lib.hid hcons
          clear hcons
          generalize bs[E]'(by rw [HLL.out]; omega) = x at *
          generalize bs[E + 1]'(by rw [HLL.out]; omega) = y at *
          by_cases hx13 : x = 13
          · have g1a : ((x.toNat : Int) == 13) = true := beqI_true (y := 13) hx13
            have g1 : ((x.toNat : Int) != 13) = false := by rw [bne, g1a]; rfl
            by_cases hy10 : y = 10
            · have g2a : ((y.toNat : Int) == 10) = true := beqI_true (y := 10) hy10
              have g2 : ((y.toNat : Int) != 10) = false := by rw [bne, g2a]; rfl
              have hfr : P.from_ P.eol (bs.drop k) = 13 :: 10 :: bs.drop (E + 2) := by rw [HUF.out.2, HCONS.out, hx13, hy10]
              have hstep := P.parse_step out hne hfr
              rw [HUF.out.1, ← HPAR.out] at hstep
              have HSTEP := Lib.hid hstep
              have hls : (B ((bs.drop k).take (E - k))).size ≤ 2147483648 := by rw [B_size, List.length_take]; omega
              have HLN := Lib.hid (fun (w1 : World) => refOne_any (B ((bs.drop k).take (E - k))) w1 hls)
              have HLL2 := Lib.hid (L_B ((bs.drop k).take (E - k)))
              have hkc : (k : Int) < (c : Int) := by omega
              have hkEi : (k : Int) ≤ (E : Int) := by omega
              have hEci : (E : Int) ≤ (c : Int) := by omega
              have hcv := conv_bs ((((HX.out.from_ hk).below HB.out)).upto (show E - k ≤ n - k by omega)) (c - k)
              clear hx13 hy10 g1a g2a hfr hstep hls hne hdl HCONS HUF HE
              go_wp2_with fail
              clear hcv q0 q1
              refine (HLN.out _).mono ?_
              rw [HLL2.out]
              obtain ⟨E0, hE0⟩ : ∃ E0, P.oneE ((bs.drop k).take (E - k)) = E0 := ⟨_, rfl⟩
              obtain ⟨f, hf⟩ : ∃ f, P.oneF ((bs.drop k).take (E - k)) = f := ⟨_, rfl⟩
              rw [hE0, hf]
              replace HSTEP : Hid (R = if E0 ≠ 0 then ([], E0) else if out.length = 100 then ([], 42) else P.parse (out ++ [f]) (bs.drop (E + 2))) := Lib.hid (by have := HSTEP.out; rwa [hE0, hf] at this)
              clear hE0 hf HLN HLL2 HPAR
              rintro e w3 ⟨rfl, hb3⟩
              have HB3' := Lib.hid (below_then HB.out.size HB.out hb3)
              have HROW3' := Lib.hid (HROW.out.below hb3)
              clear hb3 HB HROW
              by_cases hE0 : E0 = 0
              · subst hE0
                rw [if_pos rfl]
                have HS2 : Hid (R = if out.length = 100 then ([], 42) else P.parse (out ++ [f]) (bs.drop (E + 2))) := Lib.hid (HSTEP.out.trans (if_neg (by decide)))
                have HB3 := Lib.hid (HB3'.out.alloc HB3'.out.size (.cells #[.string f.1, .string f.2] 148))
                have HROW3 := Lib.hid (HROW3'.out.alloc (.cells #[.string f.1, .string f.2] 148))
                clear HSTEP HB3' HROW3'
                by_cases h100 : N = 100
                · have HRR : Hid (R = ([], 42)) := Lib.hid (HS2.out.trans (if_pos (HLEN.out.trans h100)))
                  subst h100
                  go_wp2
                  go_ret2
                  exact RetL.bad HB3.out HRR.out
                · have HRR : Hid (R = P.parse (out ++ [f]) (bs.drop (E + 2))) := Lib.hid (HS2.out.trans (if_neg (fun h => h100 (HLEN.out.symm.trans h))))
                  have h100b : ¬ (100 : Int) ≤ (N : Int) := by omega
                  have HNEW := Lib.hid (newF (w3.alloc (.cells #[.string f.1, .string f.2] 148)) f)
                  have HROW4 := Lib.hid (HROW3.out.alloc (.cells #[.string f.1, .string f.2] 148))
                  have HB4 := Lib.hid (HB3.out.alloc HB3.out.size (.cells #[.string f.1, .string f.2] 148))
                  have hz4 := HB4.out.size
                  rw [World.size_alloc] at HNEW
                  clear HS2 HB3 HROW3
                  go_wp2_with (at_builtin; refine appF _ rfl (.tmp 70) (.tmp 72) rfl w.heap.size A1 N c1 out rfl HROW4.out _ 1 1 [f] rfl HNEW.out (by omega) hz4 ?_; intro A5 c5 w5 hr5 ha5; have HR5 := Lib.hid hr5; have HB5 := Lib.hid (HB4.out.trans (ha5.below HROW4.out hz4)); clear hr5 ha5 HROW4 HB4 HNEW hz4)
                  go_roundw
                  case rel => exact ⟨E + 2, A5, N + 1, c5, out ++ [f], by omega, by go_num, rfl, HR5.out, by rw [List.length_append, HLEN.out]; rfl, by omega, HRR.out, HB5.out⟩
                  case measure => simp [intOf]; omega
              · rw [if_neg hE0]
                have HRR : Hid (R = ([], E0)) := Lib.hid (HSTEP.out.trans (if_pos hE0))
                have hEb : (E0 != 0) = true := by simpa using hE0
                have HB3 := Lib.hid (HB3'.out.alloc HB3'.out.size (.cells #[.string ⟨#[]⟩, .string ⟨#[]⟩] 148))
                clear HSTEP HB3' HROW3'
                go_wp2
                go_ret2
                exact RetL.bad HB3.out HRR.out
            · have g2a : ((y.toNat : Int) == 10) = false := beqI_false (y := 10) hy10
              have g2 : ((y.toNat : Int) != 10) = true := by rw [bne, g2a]; rfl
              have HRR : Hid (R = ([], 40)) := Lib.hid (by
                rw [HPAR.out, P.parse_bad out hne]
                intro r h
                rw [HUF.out.2, HCONS.out] at h
                injection h with _ h
                injection h with h _
                exact hy10 h)
              clear g1a g2a hx13 hy10 hne hdl HCONS HUF HE
              go_wp2
              go_ret2
              exact RetL.bad HB.out HRR.out
          · have g1a : ((x.toNat : Int) == 13) = false := beqI_false (y := 13) hx13
            have g1 : ((x.toNat : Int) != 13) = true := by rw [bne, g1a]; rfl
            have HRR : Hid (R = ([], 40)) := Lib.hid (by
              rw [HPAR.out, P.parse_bad out hne]
              intro r h
              rw [HUF.out.2, HCONS.out] at h
              injection h with h _
              exact hx13 h)
            clear g1a hx13 hne hdl HCONS HUF HE
            go_wp2
            go_ret2
            exact RetL.bad HB.out HRR.out
        · have hE1i : (n : Int) ≤ (E : Int) + 1 := by omega
          have HRR : Hid (R = ([], 40)) := Lib.hid (by
            rw [HPAR.out, P.parse_bad out hne]
            intro r h
            rw [HUF.out.2] at h
            have := congrArg List.length h
            rw [List.length_drop, HLL.out] at this
            simp only [List.length_cons] at this
            omega)
          clear hne hdl HUF HE
          go_wp2
          go_ret2
          exact RetL.bad HB.out HRR.out
    · have hkni : ¬ (k : Int) < (n : Int) := by omega
      have HRR : Hid (R = (out, 0)) := Lib.hid (by rw [HPAR.out, List.drop_of_length_le (by rw [HLL.out]; omega), P.parse_nil])
      go_wp2
      go_ret2
      rw [HRR.out]
      exact ⟨A1, c1, by rw [HLEN.out]; rfl, by rw [HLEN.out]; exact HROW.out, HB.out⟩
end Go.Proofs.YteehjkfmlcfffaaGreatDoor

namespace Go.Proofs.YteehjkfmlcfffaaGreatDoor
open Go.RowKit

theorem pre2 (l : List UInt8) (k : Nat) (h : k + 1 < l.length) : ([13, 10] : List UInt8).isPrefixOf (l.drop k) = (decide (l[k]'(by omega) = 13) && decide (l[k + 1]'(by omega) = 10)) := occ2 l k h
theorem pre2_no (l : List UInt8) (k : Nat) (h : ¬ k + 1 < l.length) : ([13, 10] : List UInt8).isPrefixOf (l.drop k) = false := by
  rcases tf (([13, 10] : List UInt8).isPrefixOf (l.drop k)) with hp | hp
  · have := (P.skip_step hp).2
    rw [List.length_drop] at this
    omega
  · exact hp
theorem verE_nil : P.verE [] = 50 := by decide
theorem visible_nil : F.visible (B []) = false := by decide
/-- What the two blanks of a line tell. -/
theorem blank_facts (l : List UInt8) : blankAt (B l) 0 = (P.methodOf l).length ∧ (blankAt (B l) 0 < l.length → P.behind l = l.drop (blankAt (B l) 0 + 1) ∧ blankAt (B l) (blankAt (B l) 0 + 1) = blankAt (B l) 0 + 1 + (P.methodOf (P.behind l)).length) ∧ (¬ blankAt (B l) 0 < l.length → P.behind l = []) ∧ P.methodOf l = l.take (blankAt (B l) 0) := by
  have h0 : blankAt (B l) 0 = (P.methodOf l).length := by
    unfold blankAt P.methodOf
    rw [L_B, List.drop_zero, Nat.zero_add]
  have h := P.upto_from P.sp l
  have hl := P.upto_len P.sp l
  have key : ∀ u f : List UInt8, u ++ f = l → f = l.drop u.length ∧ u = l.take u.length := by
    rintro u f rfl
    simp
  obtain ⟨k1, k2⟩ := key _ _ h
  have hb : P.behind l = l.drop (blankAt (B l) 0 + 1) := by
    unfold P.behind
    rw [h0, k1, List.drop_drop]
    rfl
  refine ⟨h0, fun _ => ⟨hb, ?_⟩, fun hn => ?_, ?_⟩
  · unfold blankAt P.methodOf at *
    rw [hb, L_B]
  · rw [hb]
    exact List.drop_of_length_le (by omega)
  · rw [h0]; exact k2

set_option maxRecDepth 100000 in
set_option maxHeartbeats 8000000 in
theorem refRequest_any2 (A : Option Addr) (n c : Nat) (bs : List UInt8) (w : World) (hnm : n ≤ 1073741824) (hnc : n ≤ c) (hx : Rd w A n 1 (bcells bs)) :
    Calls Tryz.prog 77 #[.slice A n c] w (RetReq w (P.request bs)) := by
  have hll := rd_len hx
  have hsk := P.skip_le bs.length bs (Nat.le_refl _)
  rw [hll] at hsk
  have HX := Lib.hid hx
  have HCL := Lib.hid (fun (j : Nat) (hj : j < bs.length) (u : World) (hb : Below w.heap.size w u) => show ∃ b o, A = some ⟨b, o, none⟩ ∧ u.cell? ⟨b, o + j, none⟩ = some (.int .u8 (bs[j]'hj).toNat) from by
    obtain ⟨b, o, e, hlt, hc⟩ := hx.2 (by omega)
    exact ⟨b, o, e, (hb.cell (p := ⟨b, o + j, none⟩) hlt).trans (hc j _ (by simp [bcells, hj]))⟩)
  have HEN := Lib.hid (fun (u : World) (hu : Below w.heap.size w u) => refEnd_any A n c (P.skip bs) bs u hnm hsk (hx.below hu))
  have HK0 := Lib.hid (Blk.new w #[.string ⟨#[]⟩, .string ⟨#[]⟩, .int .i64 0, .slice none 0 0] 25)
  have HB0 := Lib.hid ((Below.refl w.heap.size w).alloc (Nat.le_refl _) (.cells #[.string ⟨#[]⟩, .string ⟨#[]⟩, .int .i64 0, .slice none 0 0] 25))
  obtain ⟨Q, hQ⟩ : ∃ Q, P.request bs = Q := ⟨_, rfl⟩
  rw [hQ]
  have HQ : Hid (Q = if P.hE bs (P.skip bs) ≠ 0 ∨ P.hN bs (P.skip bs) = 0 then P.RQ.bad (P.hE bs (P.skip bs)) else P.reqOf (P.hLine bs (P.skip bs)) (P.hBlock bs (P.skip bs)) (P.hN bs (P.skip bs))) := Lib.hid (by rw [← hQ]; rfl)
  have HLLE := Lib.hid (P.hLine_le bs (P.skip bs))
  have HLL := Lib.hid hll
  clear hQ hx hll
  go_enter Tryz.func77, Tryz.ntmps77
  go_upto_block 0 with fail
  generalize w.alloc (.cells #[.string ⟨#[]⟩, .string ⟨#[]⟩, .int .i64 0, .slice none 0 0] 25) = w0 at *
  go_cut [5] (fun s5 wx => s5 = .int .i64 (P.skip bs) ∧ wx = w0)
  case first =>
    clear HEN HQ HLLE
    go_wp2_with fail
    go_loop [5] (fun i => ∃ k : Nat, k ≤ n ∧ i = .int .i64 k ∧ k + P.skip (bs.drop k) = P.skip bs) (fun i => n - (intOf i).toNat)
    case atStart => exact ⟨0, Nat.zero_le _, rfl, by simp⟩
    case round =>
      obtain ⟨k, hk, rfl, hsp⟩ := hrel
      have HSP := Lib.hid hsp
      clear hsp
      by_cases hlt : k + 1 < n
      · have hki : (k : Int) + 1 < (n : Int) := by omega
        have hki0 : (k : Int) < (n : Int) := by omega
        have HPR := Lib.hid (pre2 bs k (by rw [HLL.out]; exact hlt))
        obtain ⟨b, o, rfl, q0⟩ := HCL.out k (by rw [HLL.out]; omega) w0 HB0.out
        have q1 : w0.cell? ⟨b, o + (k + 1), none⟩ = some (.int .u8 (bs[k + 1]'(by rw [HLL.out]; omega)).toNat) := by
          obtain ⟨b', o', e, q⟩ := HCL.out (k + 1) (by rw [HLL.out]; omega) w0 HB0.out
          cases e; exact q
        generalize bs[k]'(by rw [HLL.out]; omega) = x at *
        generalize bs[k + 1]'(by rw [HLL.out]; omega) = y at *
        by_cases hx13 : x = 13
        · have g1 : ((x.toNat : Int) == 13) = true := beqI_true (y := 13) hx13
          by_cases hy10 : y = 10
          · have g2 : ((y.toNat : Int) == 10) = true := beqI_true (y := 10) hy10
            have hp : ([13, 10] : List UInt8).isPrefixOf (bs.drop k) = true := by rw [HPR.out, decide_eq_true hx13, decide_eq_true hy10]; rfl
            obtain ⟨h1, _⟩ := P.skip_step hp
            rw [List.drop_drop] at h1
            have HH1 := Lib.hid h1
            clear hp h1 hx13 hy10 HPR
            go_wp2
            go_round
            case rel => exact ⟨k + 2, by omega, by go_num, by have h3 := HSP.out; have h4 := HH1.out; omega⟩
            case measure => simp [intOf]; omega
          · have g2 : ((y.toNat : Int) == 10) = false := beqI_false (y := 10) hy10
            have HZ : Hid (P.skip bs = k) := Lib.hid (by
              have h := HSP.out
              rw [P.skip_stop (by rw [HPR.out, decide_eq_false hy10, Bool.and_false])] at h
              exact h.symm)
            clear hx13 hy10 HPR
            go_wp2_with fail
            go_meet
            exact ⟨by rw [HZ.out], rfl⟩
        · have g1 : ((x.toNat : Int) == 13) = false := beqI_false (y := 13) hx13
          have HZ : Hid (P.skip bs = k) := Lib.hid (by
            have h := HSP.out
            rw [P.skip_stop (by rw [HPR.out, decide_eq_false hx13, Bool.false_and])] at h
            exact h.symm)
          clear hx13 HPR
          go_wp2_with fail
          go_meet
          exact ⟨by rw [HZ.out], rfl⟩
      · have hki : ¬ (k : Int) + 1 < (n : Int) := by omega
        have HZ : Hid (P.skip bs = k) := Lib.hid (by
          have h := HSP.out
          rw [P.skip_stop (pre2_no bs k (by rw [HLL.out]; exact hlt))] at h
          exact h.symm)
        go_wp2_with fail
        go_meet
        exact ⟨by rw [HZ.out], rfl⟩
  case rest =>
    obtain ⟨rfl, rfl⟩ := hcut
    go_wp2_with fail
    refine (HEN.out _ HB0.out).mono ?_
    rintro e w' ⟨rfl, rfl⟩
    clear HEN
    have HF := Lib.hid (P.hText_facts bs (P.skip bs))
    have hge : -1 ≤ P.hIdx bs (P.skip bs) := Lib.index_ge _ _
    have HNE : Hid ((P.hN bs (P.skip bs) = if P.hIdx bs (P.skip bs) < 0 ∨ 8192 < P.skip bs + P.hIdx bs (P.skip bs) + 4 then 0 else P.skip bs + P.hIdx bs (P.skip bs) + 4) ∧ P.hText bs (P.skip bs) = (bs.drop (P.skip bs)).take (P.hIdx bs (P.skip bs) + 2).toNat ∧ P.hLine bs (P.skip bs) = (P.hText bs (P.skip bs)).take (Lib.index (P.hText bs (P.skip bs)) P.crlf).toNat ∧ P.hBlock bs (P.skip bs) = (P.hText bs (P.skip bs)).drop ((Lib.index (P.hText bs (P.skip bs)) P.crlf).toNat + 2)) := Lib.hid ⟨rfl, rfl, rfl, rfl⟩
    generalize P.hE bs (P.skip bs) = E0 at *
    generalize P.hN bs (P.skip bs) = N0 at *
    generalize P.hLine bs (P.skip bs) = LN at *
    generalize P.hBlock bs (P.skip bs) = BK at *
    generalize P.hText bs (P.skip bs) = TX at *
    generalize P.hIdx bs (P.skip bs) = ix at *
    generalize P.skip bs = sk at *
    by_cases hbad : E0 ≠ 0 ∨ N0 = 0
    · have HBAD : Hid (Q = .bad E0) := Lib.hid (HQ.out.trans (if_pos hbad))
      by_cases hE : E0 = 0
      · have hN : N0 = 0 := hbad.resolve_left (fun h => h hE)
        subst hE
        subst hN
        clear hbad HQ HNE HF
        obtain ⟨x0, x1, x2, x3⟩ := HK0.out.cells4
        obtain ⟨f0, f1, f2, f3⟩ := HK0.out.free4
        go_wp2
        obtain ⟨z0, z1, z2, z3⟩ := (HK0.out.set4 (.string ⟨#[]⟩) (.string ⟨#[]⟩) (.int .i64 0) (.slice none 0 0)).cells4
        refine bodyPost_ret (v := .tuple #[.agg #[.string ⟨#[]⟩, .string ⟨#[]⟩, .int .i64 0, .slice none 0 0], .int .i64 0, .int .i64 0]) (by simp [results, Tryz.results77, go_sem, z0, z1, z2, z3]) rfl ?_
        exact RetReq.bad (below_four HB0.out (Nat.le_refl _) _ _ _ _) HBAD.out
      · have hEb : (E0 != 0) = true := by simpa using hE
        clear hbad HQ HNE HF
        obtain ⟨x0, x1, x2, x3⟩ := HK0.out.cells4
        obtain ⟨f0, f1, f2, f3⟩ := HK0.out.free4
        go_wp2
        obtain ⟨z0, z1, z2, z3⟩ := (HK0.out.set4 (.string ⟨#[]⟩) (.string ⟨#[]⟩) (.int .i64 0) (.slice none 0 0)).cells4
        refine bodyPost_ret (v := .tuple #[.agg #[.string ⟨#[]⟩, .string ⟨#[]⟩, .int .i64 0, .slice none 0 0], .int .i64 0, .int .i64 E0]) (by simp [results, Tryz.results77, go_sem, z0, z1, z2, z3]) rfl ?_
        exact RetReq.bad (below_four HB0.out (Nat.le_refl _) _ _ _ _) HBAD.out
    · have HQ2 := Lib.hid (HQ.out.trans (if_neg hbad))
      have hE : E0 = 0 := by
        rcases (by omega : E0 = 0 ∨ E0 ≠ 0) with h | h
        · exact h
        · exact absurd (.inl h) hbad
      have hN : ¬ N0 = 0 := fun h => hbad (.inr h)
      subst hE
      have hNb : (N0 == 0) = false := by simpa using hN
      have hcond : ¬ (ix < 0 ∨ 8192 < sk + ix + 4) := fun h => hN (HNE.out.1.trans (if_pos h))
      have hpos : 0 ≤ ix := by omega
      obtain ⟨i, j, hi, hroom, hj, hji, hlen⟩ := HF.out hpos
      subst hi
      rw [HLL.out] at hroom
      have hN0 : N0 = (sk : Int) + (i : Int) + 4 := HNE.out.1.trans (if_neg hcond)
      have hTX : TX = (bs.drop sk).take (i + 2) := by rw [HNE.out.2.1]; congr 1
      have hLN : LN = TX.take j := by rw [HNE.out.2.2.1, hj, Int.toNat_natCast]
      have hBK : BK = TX.drop (j + 2) := by rw [HNE.out.2.2.2, hj, Int.toNat_natCast]
      obtain ⟨b, o, rfl, hq0⟩ := HCL.out sk (by rw [HLL.out]; omega) wc HB0.out
      clear hq0
      have HRT : Hid (∀ u, Below w.heap.size w u → Rd u (some ⟨b, o + sk, none⟩) (i + 2) 1 (bcells TX)) := Lib.hid (fun u hu => by
        rw [hTX]
        exact ((HX.out.from_ (show sk ≤ n by omega)).upto (show i + 2 ≤ n - sk by omega)).below hu)
      obtain ⟨M, hM⟩ : ∃ M : Nat, M = sk + i + 2 := ⟨_, rfl⟩
      have e6 : N0 - 2 = (M : Int) := by omega
      have hx6b : N0 ≤ 9000000000 := by omega
      have hx6a : 2 ≤ N0 := by omega
      have hkM : (sk : Int) ≤ (M : Int) := by omega
      have hMc : (M : Int) ≤ (c : Int) := by omega
      have hMk : i + 2 = M - sk := by omega
      have hMn : M ≤ n := by omega
      have hskc : (sk : Int) < (c : Int) := by omega
      have hskc2 : ¬ (sk : Int) = (c : Int) := by omega
      have HSPL := Lib.hid (fun (u : World) (hu : Below w.heap.size w u) => refSplit_any b (o + sk) (i + 2) (c - sk) TX j u (by omega) (by omega) (by omega) (HRT.out u hu) hj)
      have HBKR : Hid (∀ u, Below w.heap.size w u → Rd u (some ⟨b, o + sk + (j + 2), none⟩) (M - sk - (j + 2)) 1 (bcells BK)) := Lib.hid (fun u hu => by
        rw [hBK, ← hMk]
        exact (HRT.out u hu).from_ (by omega))
      rw [hMk] at HSPL
      have HLN := Lib.hid hLN
      have hn2 : M - sk - (j + 2) ≤ 1073741824 := by omega
      have hn2c : M - sk - (j + 2) ≤ c - sk - (j + 2) := by omega
      have hlle : LN.length ≤ 1073741824 := by have h1 := HLLE.out; rw [HLL.out] at h1; omega
      clear hN0 hTX hLN hBK hM hMk hj hlen hcond hroom hbad HQ HNE HF HRT HCL hpos hge hji
      have hbulk := P.parse_facts BK.length [] BK (Nat.le_refl _) (by simp)
      have hbl : BK.length ≤ 1073741824 := by have := rd_len (HBKR.out wc HB0.out); omega
      have HPF : Hid ((P.parse [] BK).1.length ≤ 100 ∧ FSmall (P.parse [] BK).1) := Lib.hid ⟨hbulk.2.1, fun f hf => by
        have h1 := F.mem_bulk hf
        have h2 := hbulk.1
        simp only [F.bulk] at h2
        omega⟩
      obtain ⟨c1, c2, c3, c4⟩ := blank_facts LN
      obtain ⟨d1, d2, d3, d4⟩ := blank_facts (P.behind LN)
      have hsz : (B LN).size = LN.length := B_size LN
      have HBL0 := Lib.hid (fun u => refBlank_any (B LN) 0 u (by omega) (Nat.zero_le _))
      have m1 := P.methodOf_le LN
      have m2 := P.behind_le LN
      have m3 := P.methodOf_le (P.behind LN)
      have HTK : Hid (∀ u, Calls Tryz.prog 157 #[.string (B (P.methodOf LN))] u (RetP u (.bool (T.token (P.methodOf LN))))) := Lib.hid (fun u => refToken_any (B (P.methodOf LN)) u (by rw [B_size]; omega))
      have HVS := Lib.hid (fun u => refVisible_any (B (P.methodOf (P.behind LN))) u (by rw [B_size]; omega))
      have HVR : Hid (∀ u, Calls Tryz.prog 142 #[.string (B (P.behind (P.behind LN)))] u fun e w' => e = .returned (.tuple #[.int .i64 (P.verN (P.behind (P.behind LN))), .int .i64 (P.verE (P.behind (P.behind LN)))]) ∧ u = w') := Lib.hid (fun u => refVersion_any (B (P.behind (P.behind LN))) u)
      have HPA := Lib.hid (fun u (hu : Below w.heap.size w u) => refParse_any (some ⟨b, o + sk + (j + 2), none⟩) (M - sk - (j + 2)) (c - sk - (j + 2)) BK u (by omega) hn2c (HBKR.out u hu))
      have HVL := Lib.hid (fun (u : World) A3 c3 (hr : Rd u A3 (P.parse [] BK).1.length 2 (fcells (P.parse [] BK).1)) => refValues_any A3 (P.parse [] BK).1.length c3 (P.parse [] BK).1 ⟨#[104, 111, 115, 116]⟩ u (by have := HPF.out.1; omega) rfl HPF.out.2 (by decide) hr)
      have hvn : P.verN (P.behind (P.behind LN)) = 0 ∨ P.verN (P.behind (P.behind LN)) = 1 := by
        unfold P.verN
        split
        · exact .inr rfl
        · exact .inl rfl
      have HQ3 : Hid (Q = if T.token (P.methodOf LN) = false ∨ F.visible (B (P.methodOf (P.behind LN))) = false then .bad 50
        else if P.verE (P.behind (P.behind LN)) ≠ 0 then .bad (P.verE (P.behind (P.behind LN)))
        else if (P.parse [] BK).2 ≠ 0 then .bad (P.parse [] BK).2
        else if P.hostsOf (P.parse [] BK).1 > 1 ∨ P.hostsOf (P.parse [] BK).1 < P.verN (P.behind (P.behind LN)) then .bad 40
        else ⟨B (P.methodOf LN), B (P.methodOf (P.behind LN)), P.verN (P.behind (P.behind LN)), (P.parse [] BK).1, N0, 0⟩) := HQ2
      clear HQ2 hbulk hbl HLLE HLL
      go_wp2_with fail
      refine (HSPL.out _ HB0.out).mono ?_
      rintro e w1 ⟨rfl, hb1⟩
      rw [← HLN.out]
      have HK1 := Lib.hid (HK0.out.below hb1)
      have HB1 := Lib.hid (below_then HB0.out.size HB0.out hb1)
      clear hb1 HSPL HK0 HB0 HLN
      go_wp2_with fail
      refine (HBL0.out _).mono ?_
      rintro e w' ⟨rfl, rfl⟩
      clear HBL0
      obtain ⟨i0, hi0⟩ : ∃ i0, blankAt (B LN) 0 = i0 := ⟨_, rfl⟩
      rw [hi0] at c1 c2 c3 c4 ⊢
      by_cases hi0l : i0 < LN.length
      · obtain ⟨c5, c6⟩ := c2 hi0l
        have hi0i : ¬ ((B LN).size : Int) ≤ (i0 : Int) := by omega
        have hi0a : (i0 : Int) < ((B LN).size : Int) := by omega
        have HBL1 := Lib.hid (fun u => refBlank_any (B LN) (i0 + 1) u (by omega) (by omega))
        obtain ⟨i1, hi1⟩ : ∃ i1, blankAt (B LN) (i0 + 1) = i1 := ⟨_, rfl⟩
        rw [hi1] at c6 HBL1
        have hml : (P.behind LN).length = LN.length - (i0 + 1) := by rw [c5, List.length_drop]
        have hd0 : blankAt (B (P.behind LN)) 0 = i1 - (i0 + 1) := by omega
        have x1 : (B LN).extract 0 i0 = B (P.methodOf LN) := by rw [extract_B, L_B, c4]; rfl
        have HX1 := Lib.hid x1
        have hi1l : i1 ≤ LN.length := by omega
        clear hi0 c1 c3
        go_wp2_with fail
        refine (HBL1.out _).mono ?_
        rintro e w' ⟨rfl, rfl⟩
        clear HBL1
        by_cases hi1n : i1 < LN.length
        · have x2 : (B LN).extract (i0 + 1) i1 = B (P.methodOf (P.behind LN)) := by
            rw [extract_B, L_B, d4, hd0, c5]
          have x3 : (B LN).extract (i1 + 1) (B LN).size = B (P.behind (P.behind LN)) := by
            rw [extract_B, L_B, (d2 (by omega)).1, hd0, c5, List.drop_drop, hsz, List.take_of_length_le (by rw [List.length_drop]; exact Nat.le_refl _), show i0 + 1 + (i1 - (i0 + 1) + 1) = i1 + 1 by omega]
          have HX2 := Lib.hid x2
          have HX3 := Lib.hid x3
          have hi1i : ¬ ((B LN).size : Int) ≤ (i1 : Int) := by omega
          have hi1a : (i1 : Int) < ((B LN).size : Int) := by omega
          have hi01 : (i0 : Int) + 1 ≤ (i1 : Int) := by omega
          have hi1b : (i1 : Int) + 1 ≤ ((B LN).size : Int) := by omega
          have hi0b : (i0 : Int) ≤ ((B LN).size : Int) := by omega
          have hi1c : (i1 : Int) ≤ ((B LN).size : Int) := by omega
          rw [← x1] at HTK
          rw [← x2] at HVS
          rw [← x3] at HVR
          clear x1 x2 x3 c2 c4 c5 c6 d1 d2 d3 d4 hd0 hml hi1
          have hvse : F.visible (B (P.methodOf (P.behind LN))) = F.visible ((B LN).extract (i0 + 1) i1) := by rw [HX2.out]
          rw [hvse] at HQ3
          clear hvse
          generalize T.token (P.methodOf LN) = tk at *
          generalize F.visible ((B LN).extract (i0 + 1) i1) = vs at *
          go_wp2_with fail
          refine (HTK.out _).mono ?_
          rintro e w' ⟨rfl, rfl⟩
          clear HTK
          cases tk
          · have HBAD : Hid (Q = .bad 50) := Lib.hid (HQ3.out.trans (if_pos (.inl rfl)))
            obtain ⟨x0, x1, x2, x3⟩ := HK1.out.cells4
            obtain ⟨f0, f1, f2, f3⟩ := HK1.out.free4
            go_wp2
            obtain ⟨z0, z1, z2, z3⟩ := (HK1.out.set4 (.string ⟨#[]⟩) (.string ⟨#[]⟩) (.int .i64 0) (.slice none 0 0)).cells4
            refine bodyPost_ret (v := .tuple #[.agg #[.string ⟨#[]⟩, .string ⟨#[]⟩, .int .i64 0, .slice none 0 0], .int .i64 0, .int .i64 50]) (by simp [results, Tryz.results77, go_sem, z0, z1, z2, z3]) rfl ?_
            exact RetReq.bad (below_four HB1.out (Nat.le_refl _) _ _ _ _) HBAD.out
          · go_wp2_with fail
            refine (HVS.out _).mono ?_
            rintro e w' ⟨rfl, rfl⟩
            clear HVS
            cases vs
            · have HBAD : Hid (Q = .bad 50) := Lib.hid (HQ3.out.trans (if_pos (.inr rfl)))
              obtain ⟨x0, x1, x2, x3⟩ := HK1.out.cells4
              obtain ⟨f0, f1, f2, f3⟩ := HK1.out.free4
              go_wp2
              obtain ⟨z0, z1, z2, z3⟩ := (HK1.out.set4 (.string ⟨#[]⟩) (.string ⟨#[]⟩) (.int .i64 0) (.slice none 0 0)).cells4
              refine bodyPost_ret (v := .tuple #[.agg #[.string ⟨#[]⟩, .string ⟨#[]⟩, .int .i64 0, .slice none 0 0], .int .i64 0, .int .i64 50]) (by simp [results, Tryz.results77, go_sem, z0, z1, z2, z3]) rfl ?_
              exact RetReq.bad (below_four HB1.out (Nat.le_refl _) _ _ _ _) HBAD.out
            · have HQ4 := Lib.hid (HQ3.out.trans (if_neg (by simp)))
              generalize P.verE (P.behind (P.behind LN)) = VE at *
              generalize P.verN (P.behind (P.behind LN)) = VN at *
              clear HQ3
              go_wp2_with fail
              refine (HVR.out _).mono ?_
              rintro e w' ⟨rfl, rfl⟩
              clear HVR
              by_cases hve : VE = 0
              · subst hve
                have HQ5 := Lib.hid (HQ4.out.trans (if_neg (by decide)))
                clear HQ4
                go_wp2_with fail
                refine (HPA.out _ HB1.out).mono ?_
                rintro e w2 ⟨A3, c3, rfl, hr2, hb2⟩
                have HK2 := Lib.hid (HK1.out.below hb2)
                have HB2 := Lib.hid (below_then HB1.out.size HB1.out hb2)
                have HR2 := Lib.hid (hr2.mono HB1.out.size)
                clear hb2 hr2 HPA HK1 HB1
                obtain ⟨FS, PE, hPP⟩ : ∃ FS PE, P.parse [] BK = (FS, PE) := ⟨_, _, rfl⟩
                have hP1 : (P.parse [] BK).1 = FS := by rw [hPP]
                have hP2 : (P.parse [] BK).2 = PE := by rw [hPP]
                rw [hPP] at HR2 HPF
                rw [hP1] at HVL
                replace HR2 : Hid (Row w2 w.heap.size 148 2 A3 FS.length c3 (fcells FS)) := HR2
                rw [hP1, hP2]
                have HQ6 : Hid (Q = if PE ≠ 0 then .bad PE else if P.hostsOf FS > 1 ∨ P.hostsOf FS < VN then .bad 40 else ⟨B (P.methodOf LN), B (P.methodOf (P.behind LN)), VN, FS, N0, 0⟩) := Lib.hid (by
                  have h := HQ5.out
                  rw [hP1, hP2] at h
                  exact h)
                clear hPP hP1 hP2 HQ5
                by_cases hpe : PE = 0
                · subst hpe
                  have HQ7 := Lib.hid (HQ6.out.trans (if_neg (by decide)))
                  clear HQ6
                  go_wp2_with fail
                  refine (HVL.out _ A3 c3 HR2.out.rd).mono ?_
                  rintro e w3 ⟨A4, c4, rfl, hr3, hb3⟩
                  have HK3 := Lib.hid (HK2.out.below hb3)
                  have HB3 := Lib.hid (below_then HB2.out.size HB2.out hb3)
                  have HR3 := Lib.hid (HR2.out.below hb3)
                  clear hb3 hr3 HVL HK2 HB2 HR2
                  have hhl : P.hostsOf FS = ((F.values FS ⟨#[104, 111, 115, 116]⟩).length : Int) := by
                    unfold P.hostsOf F.values
                    congr 2
                  rw [hhl] at HQ7
                  have hvl := F.values_le FS ⟨#[104, 111, 115, 116]⟩
                  have hfs100 : FS.length ≤ 100 := HPF.out.1
                  clear hhl
                  generalize (F.values FS ⟨#[104, 111, 115, 116]⟩).length = HN at *
                  by_cases hh : (HN : Int) > 1 ∨ (HN : Int) < VN
                  · have HBAD : Hid (Q = .bad 40) := Lib.hid (HQ7.out.trans (if_pos hh))
                    by_cases hh1 : (HN : Int) > 1
                    · have hh1b : decide ((HN : Int) > 1) = true := by simpa using hh1
                      clear hh
                      obtain ⟨x0, x1, x2, x3⟩ := HK3.out.cells4
                      obtain ⟨f0, f1, f2, f3⟩ := HK3.out.free4
                      go_wp2
                      obtain ⟨z0, z1, z2, z3⟩ := (HK3.out.set4 (.string ⟨#[]⟩) (.string ⟨#[]⟩) (.int .i64 0) (.slice none 0 0)).cells4
                      refine bodyPost_ret (v := .tuple #[.agg #[.string ⟨#[]⟩, .string ⟨#[]⟩, .int .i64 0, .slice none 0 0], .int .i64 0, .int .i64 40]) (by simp [results, Tryz.results77, go_sem, z0, z1, z2, z3]) rfl ?_
                      exact RetReq.bad (below_four HB3.out (Nat.le_refl _) _ _ _ _) HBAD.out
                    · have hh2 : (HN : Int) < VN := hh.resolve_left hh1
                      have hh1b : decide ((HN : Int) > 1) = false := by simpa using hh1
                      have hv1 : VN = 1 := by omega
                      have hh0 : HN = 0 := by omega
                      subst hv1
                      subst hh0
                      clear hh
                      obtain ⟨x0, x1, x2, x3⟩ := HK3.out.cells4
                      obtain ⟨f0, f1, f2, f3⟩ := HK3.out.free4
                      go_wp2
                      obtain ⟨z0, z1, z2, z3⟩ := (HK3.out.set4 (.string ⟨#[]⟩) (.string ⟨#[]⟩) (.int .i64 0) (.slice none 0 0)).cells4
                      refine bodyPost_ret (v := .tuple #[.agg #[.string ⟨#[]⟩, .string ⟨#[]⟩, .int .i64 0, .slice none 0 0], .int .i64 0, .int .i64 40]) (by simp [results, Tryz.results77, go_sem, z0, z1, z2, z3]) rfl ?_
                      exact RetReq.bad (below_four HB3.out (Nat.le_refl _) _ _ _ _) HBAD.out
                  · have hh1 : ¬ (HN : Int) > 1 := fun h => hh (.inl h)
                    have hh1b : decide ((HN : Int) > 1) = false := by simpa using hh1
                    have HRES := Lib.hid (HQ7.out.trans (if_neg hh))
                    have hvv : (VN == 1) = false ∨ ((VN == 1) = true ∧ ((HN : Int) == 0) = false) := by
                      rcases hvn with h | h
                      · left; rw [h]; rfl
                      · right
                        refine ⟨by rw [h]; rfl, beq_eq_false_iff_ne.2 (fun h0 => hh (.inr (by omega)))⟩
                    have hvni : 0 ≤ VN := by omega
                    clear hh hvn
                    rcases hvv with hvv | ⟨hvv, hhn⟩
                    all_goals
                      go_upto_region 23 with fail
                      have HKD : Hid (Blk w3.drew w.heap.size #[.string ⟨#[]⟩, .string ⟨#[]⟩, .int .i64 0, .slice none 0 0] 25) := Lib.hid HK3.out.drew
                      have HBD : Hid (Below w.heap.size w w3.drew) := Lib.hid HB3.out.drew
                      have HRD : Hid (Row w3.drew w.heap.size 148 2 A3 FS.length c3 (fcells FS)) := Lib.hid HR3.out.drew
                      obtain ⟨x0, x1, x2, x3⟩ := HK3.out.cells4
                      obtain ⟨f0, f1, f2, f3⟩ := HK3.out.free4
                      go_region
                      all_goals
                        go_wp2
                        have z0 := (HK3.out.set 0 (.string ((B LN).extract 0 i0))).cells4.1
                        have z1 := ((HK3.out.set 0 (.string ((B LN).extract 0 i0))).set 1 (.string ((B LN).extract (i0 + 1) i1))).cells4.2.1
                        have z2 := (((HK3.out.set 0 (.string ((B LN).extract 0 i0))).set 1 (.string ((B LN).extract (i0 + 1) i1))).set 2 (.int .i64 VN)).cells4.2.2.1
                        have z3 := ((((HK3.out.set 0 (.string ((B LN).extract 0 i0))).set 1 (.string ((B LN).extract (i0 + 1) i1))).set 2 (.int .i64 VN)).set 3 (.slice A3 FS.length c3)).cells4.2.2.2
                        refine bodyPost_ret (v := .tuple #[.agg #[.string ((B LN).extract 0 i0), .string ((B LN).extract (i0 + 1) i1), .int .i64 VN, .slice A3 FS.length c3], .int .i64 N0, .int .i64 0]) (by simp [results, Tryz.results77, go_sem, z0, z1, z2, z3]) rfl ?_
                        rw [HRES.out, HX1.out, HX2.out]
                        exact ⟨A3, c3, rfl, HRD.out.farT4 HKD.out (by decide) _ _ _ _, below_four HBD.out (Nat.le_refl _) _ _ _ _⟩
                · have hpeb : (PE != 0) = true := by simpa using hpe
                  have HBAD : Hid (Q = .bad PE) := Lib.hid (HQ6.out.trans (if_pos hpe))
                  clear HQ6
                  obtain ⟨x0, x1, x2, x3⟩ := HK2.out.cells4
                  obtain ⟨f0, f1, f2, f3⟩ := HK2.out.free4
                  go_wp2
                  obtain ⟨z0, z1, z2, z3⟩ := (HK2.out.set4 (.string ⟨#[]⟩) (.string ⟨#[]⟩) (.int .i64 0) (.slice none 0 0)).cells4
                  refine bodyPost_ret (v := .tuple #[.agg #[.string ⟨#[]⟩, .string ⟨#[]⟩, .int .i64 0, .slice none 0 0], .int .i64 0, .int .i64 PE]) (by simp [results, Tryz.results77, go_sem, z0, z1, z2, z3]) rfl ?_
                  exact RetReq.bad (below_four HB2.out (Nat.le_refl _) _ _ _ _) HBAD.out
              · have hveb : (VE != 0) = true := by simpa using hve
                have HBAD : Hid (Q = .bad VE) := Lib.hid (HQ4.out.trans (if_pos hve))
                clear HQ4
                obtain ⟨x0, x1, x2, x3⟩ := HK1.out.cells4
                obtain ⟨f0, f1, f2, f3⟩ := HK1.out.free4
                go_wp2
                obtain ⟨z0, z1, z2, z3⟩ := (HK1.out.set4 (.string ⟨#[]⟩) (.string ⟨#[]⟩) (.int .i64 0) (.slice none 0 0)).cells4
                refine bodyPost_ret (v := .tuple #[.agg #[.string ⟨#[]⟩, .string ⟨#[]⟩, .int .i64 0, .slice none 0 0], .int .i64 0, .int .i64 VE]) (by simp [results, Tryz.results77, go_sem, z0, z1, z2, z3]) rfl ?_
                exact RetReq.bad (below_four HB1.out (Nat.le_refl _) _ _ _ _) HBAD.out
        · have hi1i : ((B LN).size : Int) ≤ (i1 : Int) := by omega
          have hbb : P.behind (P.behind LN) = [] := d3 (by omega)
          have HBAD : Hid (Q = .bad 50) := Lib.hid (by
            rw [HQ3.out, hbb, verE_nil]
            split
            · rfl
            · rw [if_pos (by decide)])
          clear HQ3 hbb c2 c4 c5 c6 d1 d2 d3 d4 hd0 hml hi1 x1 HX1
          obtain ⟨x0, x1, x2, x3⟩ := HK1.out.cells4
          obtain ⟨f0, f1, f2, f3⟩ := HK1.out.free4
          go_wp2
          obtain ⟨z0, z1, z2, z3⟩ := (HK1.out.set4 (.string ⟨#[]⟩) (.string ⟨#[]⟩) (.int .i64 0) (.slice none 0 0)).cells4
          refine bodyPost_ret (v := .tuple #[.agg #[.string ⟨#[]⟩, .string ⟨#[]⟩, .int .i64 0, .slice none 0 0], .int .i64 0, .int .i64 50]) (by simp [results, Tryz.results77, go_sem, z0, z1, z2, z3]) rfl ?_
          exact RetReq.bad (below_four HB1.out (Nat.le_refl _) _ _ _ _) HBAD.out
      · have hi0i : ((B LN).size : Int) ≤ (i0 : Int) := by omega
        have hbb : P.behind LN = [] := c3 hi0l
        have HBAD : Hid (Q = .bad 50) := Lib.hid (by
          rw [HQ3.out, hbb, if_pos (.inr visible_nil)])
        clear HQ3 hbb c1 c2 c3 c4 d1 d2 d3 d4 hi0
        obtain ⟨x0, x1, x2, x3⟩ := HK1.out.cells4
        obtain ⟨f0, f1, f2, f3⟩ := HK1.out.free4
        go_wp2
        obtain ⟨z0, z1, z2, z3⟩ := (HK1.out.set4 (.string ⟨#[]⟩) (.string ⟨#[]⟩) (.int .i64 0) (.slice none 0 0)).cells4
        refine bodyPost_ret (v := .tuple #[.agg #[.string ⟨#[]⟩, .string ⟨#[]⟩, .int .i64 0, .slice none 0 0], .int .i64 0, .int .i64 50]) (by simp [results, Tryz.results77, go_sem, z0, z1, z2, z3]) rfl ?_
        exact RetReq.bad (below_four HB1.out (Nat.le_refl _) _ _ _ _) HBAD.out
end Go.Proofs.YteehjkfmlcfffaaGreatDoor
