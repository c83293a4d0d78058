/- The walks of the document's hex and size. -/
import Derived.Test.YtnmldbcgpfglkaaGreatDoorChunkL
import Derived.Test.YtnmldbcgpfglkaaGreatDoorTokC
namespace Go.Proofs.YtnmldbcgpfglkaaGreatDoor
open Go.RowKit

theorem refHex_any (c : UInt8) (w : World) : Calls Tryz.prog 124 #[.int .u8 c.toNat] w (RetP w (.int .i64 (C.hex c))) := by
  have h256 : c.toNat < 256 := c.toNat_lt
  have hh : C.hex c = if 48 ≤ c.toNat ∧ c.toNat ≤ 57 then (c.toNat : Int) - 48 else if 65 ≤ c.toNat ∧ c.toNat ≤ 70 then (c.toNat : Int) - 55 else if 97 ≤ c.toNat ∧ c.toNat ≤ 102 then (c.toNat : Int) - 87 else -1 := rfl
  rw [hh]
  clear hh
  generalize c.toNat = k at *
  rcases (by omega : k < 48 ∨ (48 ≤ k ∧ k ≤ 57) ∨ (57 < k ∧ k < 65) ∨ (65 ≤ k ∧ k ≤ 70) ∨ (70 < k ∧ k < 97) ∨ (97 ≤ k ∧ k ≤ 102) ∨ 102 < k) with h | ⟨h1, h2⟩ | ⟨h1, h2⟩ | ⟨h1, h2⟩ | ⟨h1, h2⟩ | ⟨h1, h2⟩ | h
  · rw [if_neg (by omega), if_neg (by omega), if_neg (by omega)]
    go_enter Tryz.func124, Tryz.ntmps124
    go_wp2
    go_ret
    exact ⟨rfl, rfl⟩
  · rw [if_pos (by omega)]
    go_enter Tryz.func124, Tryz.ntmps124
    go_wp2
    go_ret
    exact ⟨rfl, rfl⟩
  · rw [if_neg (by omega), if_neg (by omega), if_neg (by omega)]
    go_enter Tryz.func124, Tryz.ntmps124
    go_wp2
    go_ret
    exact ⟨rfl, rfl⟩
  · rw [if_neg (by omega), if_pos (by omega)]
    go_enter Tryz.func124, Tryz.ntmps124
    go_wp2
    go_ret
    exact ⟨rfl, rfl⟩
  · rw [if_neg (by omega), if_neg (by omega), if_neg (by omega)]
    go_enter Tryz.func124, Tryz.ntmps124
    go_wp2
    go_ret
    exact ⟨rfl, rfl⟩
  · rw [if_neg (by omega), if_neg (by omega), if_pos (by omega)]
    go_enter Tryz.func124, Tryz.ntmps124
    go_wp2
    go_ret
    exact ⟨rfl, rfl⟩
  · rw [if_neg (by omega), if_neg (by omega), if_neg (by omega)]
    go_enter Tryz.func124, Tryz.ntmps124
    go_wp2
    go_ret
    exact ⟨rfl, rfl⟩

namespace C
theorem hex_semi : hex 59 = -1 := by decide
theorem no_semi {c : UInt8} (h : isHex c = true) : semi c = false := by
  cases h1 : semi c
  · rfl
  · unfold semi at h1
    rw [beq_iff_eq] at h1
    rw [h1] at h
    exact absurd h (by decide)
theorem take_at {l : List UInt8} {p : UInt8 → Bool} {k j : Nat} (h : (l.take k).all p = true) (hj : j < k) (hl : j < l.length) : p l[j] = true := by
  rw [List.all_eq_true] at h
  exact h _ (List.mem_take_iff_getElem.2 ⟨j, by omega, rfl⟩)
/-- The digits ahead lie in the number. -/
theorem num_pre {l : List UInt8} {k : Nat} (hk : k ≤ l.length) (h : (l.take k).all isHex = true) : k ≤ (numOf l).length := by
  rcases Nat.lt_or_ge (numOf l).length k with h1 | h1
  · have h2 := P.upto_from semi l
    cases h3 : P.from_ semi l with
    | nil =>
      have h4 := P.upto_len semi l
      rw [h3] at h4
      unfold numOf at h1
      simp only [List.length_nil] at h4
      omega
    | cons x r =>
      have h5 := P.from_head h3
      rw [h3] at h2
      have hx : l[(numOf l).length]? = some x := by
        unfold numOf
        generalize P.upto semi l = u at *
        rw [← h2, List.getElem?_append_right (Nat.le_refl _), Nat.sub_self]
        rfl
      have hlt : (numOf l).length < l.length := by omega
      rw [List.getElem?_eq_getElem hlt] at hx
      injection hx with hx
      have := take_at h h1 hlt
      rw [hx] at this
      rw [no_semi this] at h5
      cases h5
  · exact h1
theorem num_take {l : List UInt8} (k : Nat) (h : k ≤ (numOf l).length) : (numOf l).take k = l.take k := by
  have h2 := P.upto_from semi l
  conv => rhs; rw [← h2]
  exact (List.take_append_of_le_length (l₁ := numOf l) h).symm
theorem num_at {l : List UInt8} {k : Nat} (h : k < (numOf l).length) (hl : k < l.length) : (numOf l)[k] = l[k] := by
  have h2 := P.upto_from semi l
  have : l[k]? = (numOf l)[k]? := by
    conv => lhs; rw [← h2]
    exact List.getElem?_append_left h
  rw [List.getElem?_eq_getElem hl, List.getElem?_eq_getElem h] at this
  injection this with this
  exact this.symm
/-- A byte behind the digits that is neither a digit nor a semicolon: it lies in the number. -/
theorem num_bad {l : List UInt8} {k : Nat} (hk : k < l.length) (h : (l.take k).all isHex = true) (h1 : isHex l[k] = false) (h2 : semi l[k] = false) : (numOf l).all isHex = false := by
  have hlt : k < (numOf l).length := by
    have h3 := num_pre (by omega) h
    rcases Nat.lt_or_ge k (numOf l).length with h4 | h4
    · exact h4
    · have h5 := P.upto_from semi l
      have hkk : k = (numOf l).length := by omega
      cases h6 : P.from_ semi l with
      | nil =>
        have h7 := P.upto_len semi l
        rw [h6] at h7
        unfold numOf at hkk
        simp only [List.length_nil] at h7
        omega
      | cons x r =>
        have h8 := P.from_head h6
        rw [h6] at h5
        have hx : l[(numOf l).length]? = some x := by
          unfold numOf
          generalize P.upto semi l = u at *
          rw [← h5, List.getElem?_append_right (Nat.le_refl _), Nat.sub_self]
          rfl
        rw [← hkk, List.getElem?_eq_getElem hk] at hx
        injection hx with hx
        rw [hx, h8] at h2
        cases h2
  rw [← Bool.not_eq_true, List.all_eq_true]
  intro h9
  have := h9 _ (List.getElem_mem hlt)
  rw [num_at hlt hk, h1] at this
  cases this
theorem num_end {l : List UInt8} {k : Nat} (hk : k ≤ l.length) (h : (l.take k).all isHex = true) (hs : ∀ hl : k < l.length, semi l[k] = true) : numOf l = l.take k ∧ extOf l = l.drop (k + 1) := by
  obtain ⟨h1, h2⟩ := P.upto_eq (p := semi) hk (fun j hj hjk => no_semi (take_at h hjk hj)) hs
  refine ⟨h1, ?_⟩
  unfold extOf
  rw [h2, List.drop_drop]
end C

theorem rd_byte {w : World} {A : Option Addr} {n : Nat} {l : List UInt8} (h : Rd w A n 1 (bcells l)) (k : Nat) (hk : k < l.length) : ∃ b o, A = some ⟨b, o, none⟩ ∧ w.cell? ⟨b, o + k, none⟩ = some (.int .u8 (l[k]'hk).toNat) := by
  have hl := rd_len h
  obtain ⟨b, o, hA, _, hc⟩ := h.2 (by omega)
  exact ⟨b, o, hA, hc k _ (by simp [bcells, hk])⟩
namespace C
/-- The text behind the number is well up to i. -/
def TextTo (l : List UInt8) (k i : Nat) : Prop := ∀ j (h : j < l.length), k ≤ j → j < i → T.textB l[j] = true
theorem text_semi : T.textB 59 = true := by decide
theorem size_text {l : List UInt8} {k i : Nat} (he : numOf l = l.take k ∧ extOf l = l.drop (k + 1)) (hki : k ≤ i) (hi : i < l.length) (hs : ∀ hl : k < l.length, semi l[k] = true) (hb : T.textB l[i] = false) : sizeOf l = -1 := by
  unfold sizeOf
  rw [if_pos]
  refine .inr (.inr (.inr ?_))
  unfold F.text
  rw [L_B, he.2, ← Bool.not_eq_true, List.all_eq_true]
  intro h
  have hne : i ≠ k := by
    rintro rfl
    have := hs hi
    unfold semi at this
    rw [beq_iff_eq] at this
    rw [this, text_semi] at hb
    cases hb
  have := h l[i] (List.mem_drop_iff_getElem.2 ⟨i - (k + 1), by omega, by congr 1; omega⟩)
  rw [hb] at this
  cases this
theorem size_done {l : List UInt8} {k : Nat} (hk0 : 0 < k) (hk8 : k ≤ 8) (hkl : k ≤ l.length) (hx : (l.take k).all isHex = true) (he : numOf l = l.take k ∧ extOf l = l.drop (k + 1)) (ht : TextTo l k l.length) : sizeOf l = val (l.take k) := by
  have hlen : (l.take k).length = k := by rw [List.length_take]; omega
  unfold sizeOf
  rw [he.1, he.2, if_neg]
  rintro (h | h | h | h)
  · rw [h] at hlen
    simp only [List.length_nil] at hlen
    omega
  · omega
  · rw [hx] at h; cases h
  · unfold F.text at h
    rw [L_B, ← Bool.not_eq_true, List.all_eq_true] at h
    refine h (fun x hx => ?_)
    obtain ⟨j, hj, rfl⟩ := List.mem_drop_iff_getElem.1 hx
    exact ht _ (by omega) (by omega) (by omega)
end C
set_option maxHeartbeats 4000000 in
set_option maxRecDepth 100000 in
theorem refSize_any (A : Option Addr) (c : Nat) (l : List UInt8) (w : World) (hn : l.length ≤ 1073741824) (hx : Rd w A l.length 1 (bcells l)) :
    Calls Tryz.prog 81 #[.slice A l.length c] w (RetP w (.int .i64 (C.sizeOf l))) := by
  have HX := Lib.hid (fun k hk => rd_byte hx k hk)
  have HH := Lib.hid (fun c => refHex_any c w)
  have HTX := Lib.hid (fun c => refText_any c w)
  clear hx
  go_enter Tryz.func81, Tryz.ntmps81
  go_wp2
  go_loop [3, 4] (fun vv vk => ∃ (k : Nat) (a : Int), k ≤ 8 ∧ k ≤ l.length ∧ vv = .int .i64 a ∧ vk = .int .i64 k ∧ Hid (a = C.val (l.take k) ∧ (l.take k).all C.isHex = true)) (fun _ vk => 8 - (intOf vk).toNat)
  case atStart => exact ⟨0, 0, by omega, by omega, rfl, rfl, Lib.hid ⟨rfl, rfl⟩⟩
  case round =>
    obtain ⟨k, a, hk8, hkl, rfl, rfl, hh⟩ := hrel
    obtain ⟨ha, hall⟩ := hh.out
    obtain ⟨hv0, hv1⟩ := C.val_bound _ hall
    have hpow : (16 : Int) ^ (l.take k).length ≤ 4294967296 := by
      have h1 : (l.take k).length ≤ 8 := by rw [List.length_take]; omega
      generalize (l.take k).length = q at h1
      rcases (by omega : q = 0 ∨ q = 1 ∨ q = 2 ∨ q = 3 ∨ q = 4 ∨ q = 5 ∨ q = 6 ∨ q = 7 ∨ q = 8) with h | h | h | h | h | h | h | h | h <;> subst h <;> decide
    rw [← ha] at hv0 hv1
    have a1 : a < 4294967296 := by omega
    clear hpow hv1
    by_cases hkn : k < l.length
    · obtain ⟨b, o, rfl, hc⟩ := HX.out k hkn
      have hhx := C.hex_lo (l[k]'hkn)
      have htk : l.take (k + 1) = l.take k ++ [l[k]'hkn] := (List.take_append_getElem hkn).symm
      by_cases hx0 : 0 ≤ C.hex (l[k]'hkn)
      · have hih : C.isHex (l[k]'hkn) = true := (C.isHex_iff _).2 hx0
        have hal2 : (l.take (k + 1)).all C.isHex = true := by rw [htk, List.all_append, hall]; simpa using hih
        by_cases h8 : k = 8
        · have HF : Hid (C.sizeOf l = -1) := Lib.hid (by
            have := C.num_pre (l := l) (k := k + 1) (by omega) hal2
            unfold C.sizeOf
            rw [if_pos (.inr (.inl (by omega)))])
          have HK := Lib.hid (HH.out (l[k]'hkn))
          generalize l[k]'hkn = x at *
          have hx256 : x.toNat < 256 := x.toNat_lt
          generalize C.hex x = q at *
          clear hal2 hih htk ha hall hh
          subst h8
          go_wp2_with (refine HK.out.mono ?_; rintro e w1 ⟨rfl, rfl⟩)
          go_ret
          exact ⟨by rw [HF.out]; rfl, rfl⟩
        · have HN : Hid (a * 16 + C.hex (l[k]'hkn) = C.val (l.take (k + 1)) ∧ (l.take (k + 1)).all C.isHex = true) := Lib.hid ⟨by rw [htk, C.val_snoc, ← ha], hal2⟩
          have HK := Lib.hid (HH.out (l[k]'hkn))
          generalize l[k]'hkn = x at *
          have hx256 : x.toNat < 256 := x.toNat_lt
          generalize C.hex x = q at *
          have h8i : ¬ (k : Int) = 8 := by omega
          clear hal2 hih htk ha hall hh
          go_wp2_with (refine HK.out.mono ?_; rintro e w1 ⟨rfl, rfl⟩)
          exact ⟨⟨k + 1, _, by omega, by omega, rfl, (by first | rfl | (congr 1; omega)), HN⟩, by simp [intOf]; omega⟩
      · have hx1 : C.hex (l[k]'hkn) = -1 := by omega
        have hih := C.isHex_no hx1
        have HK := Lib.hid (HH.out (l[k]'hkn))
        by_cases hs : C.semi (l[k]'hkn) = true
        · have he := C.num_end hkl hall (fun _ => hs)
          have h59 : (l[k]'hkn).toNat = 59 := by
            unfold C.semi at hs
            rw [beq_iff_eq] at hs
            rw [hs]
            rfl
          by_cases hk0 : k = 0
          · have HF : Hid (C.sizeOf l = -1) := Lib.hid (by
              unfold C.sizeOf
              rw [if_pos (.inl (by rw [he.1, hk0]; rfl))])
            generalize l[k]'hkn = x at *
            rw [hx1, h59] at HK
            rw [h59] at hc
            clear hx1 hx0 hih hs he h59 ha hall hh hhx htk
            have hk0i : (k : Int) = 0 := by omega
            have hc0 := hc
            rw [hk0, Nat.add_zero] at hc0
            go_wp2_with (refine HK.out.mono ?_; rintro e w1 ⟨rfl, rfl⟩)
            go_ret
            exact ⟨by rw [HF.out]; rfl, rfl⟩
          · have HEE := Lib.hid he
            have HSE : Hid (∀ hl : k < l.length, C.semi (l[k]'hl) = true) := Lib.hid (fun _ => hs)
            have HAL := Lib.hid hall
            have HDN := Lib.hid ha.symm
            generalize l[k]'hkn = x at *
            rw [hx1, h59] at HK
            rw [h59] at hc
            replace hk0 : 0 < k := by omega
            have hk0i : ¬ (k : Int) = 0 := by omega
            have hk0b : ((k : Int) == 0) = false := beq_eq_false_iff_ne.2 hk0i
            clear hx1 hx0 hih hs he h59 ha hall hh hhx htk
            go_wp2_with (refine HK.out.mono ?_; rintro e w1 ⟨rfl, rfl⟩)
            go_loopw [5] (fun vi wx => ∃ i : Nat, k ≤ i ∧ i ≤ l.length ∧ vi = .int .i64 i ∧ Hid (C.TextTo l k i) ∧ wx = w) (fun vi _ => l.length - (intOf vi).toNat)
            case atStart => exact ⟨k, Nat.le_refl _, by omega, rfl, Lib.hid (fun j _ h1 h2 => absurd h1 (by omega)), rfl⟩
            case round =>
              obtain ⟨i, hki, hil, rfl, HTT, hww⟩ := hrel
              subst hww
              by_cases hin : i < l.length
              · obtain ⟨b2, o2, hA2, hc2⟩ := HX.out i hin
                cases hA2
                have HK2 := Lib.hid (HTX.out (l[i]'hin))
                have hyes : T.textB (l[i]'hin) = true → C.TextTo l k (i + 1) := fun h j hj h1 h2 => by
                  by_cases hji : j = i
                  · subst hji; exact h
                  · exact HTT.out j hj h1 (by omega)
                have hno : T.textB (l[i]'hin) = false → C.sizeOf l = -1 := fun h => C.size_text HEE.out hki hin HSE.out h
                generalize l[i]'hin = y at *
                cases hty : T.textB y
                · have HF := Lib.hid (hno hty)
                  rw [hty] at HK2
                  clear hyes hno hty
                  go_wp2_with (refine HK2.out.mono ?_; rintro e w1 ⟨rfl, rfl⟩)
                  go_ret
                  exact ⟨by rw [HF.out]; rfl, rfl⟩
                · have HN := Lib.hid (hyes hty)
                  rw [hty] at HK2
                  clear hyes hno hty
                  go_wp2_with (refine HK2.out.mono ?_; rintro e w1 ⟨rfl, rfl⟩)
                  go_roundw
                  case rel =>
                    first | exact ⟨i + 1, by omega, by omega, by go_num, HN, rfl⟩ | exact ⟨i + 1, by omega, by omega, by go_num, HN, trivial⟩
                  case measure => simp [intOf]; omega
              · have hil2 : i = l.length := by omega
                have HF : Hid (C.sizeOf l = a) := Lib.hid (by
                  rw [← HDN.out]
                  exact C.size_done hk0 hk8 hkl HAL.out HEE.out (by have := HTT.out; rw [hil2] at this; exact this))
                clear hil2
                have hini : ¬ (i : Int) < (l.length : Int) := by omega
                go_wp2
                go_ret
                exact ⟨by rw [HF.out]; rfl, rfl⟩
        · rw [Bool.not_eq_true] at hs
          have hb := C.num_bad hkn hall hih hs
          have HF : Hid (C.sizeOf l = -1) := Lib.hid (by
            unfold C.sizeOf
            rw [if_pos (.inr (.inr (.inl hb)))])
          have h59 : ¬ (l[k]'hkn).toNat = 59 := fun h => by
            have : l[k]'hkn = 59 := UInt8.toNat_inj.1 h
            rw [this] at hs
            exact absurd hs (by decide)
          generalize l[k]'hkn = x at *
          rw [hx1] at HK
          have hx256 : x.toNat < 256 := x.toNat_lt
          have h59b : ((x.toNat : Int) != 59) = true := bne_iff_ne.2 (by omega)
          clear hx1 hx0 hih hs hb ha hall hh hhx htk
          by_cases hk0 : k = 0
          · have hk0i : (k : Int) = 0 := by omega
            have hc0 := hc
            rw [hk0, Nat.add_zero] at hc0
            go_wp2_with (refine HK.out.mono ?_; rintro e w1 ⟨rfl, rfl⟩)
            go_ret
            exact ⟨by rw [HF.out]; rfl, rfl⟩
          · have hk0i : ¬ (k : Int) = 0 := by omega
            go_wp2_with (refine HK.out.mono ?_; rintro e w1 ⟨rfl, rfl⟩)
            go_ret
            exact ⟨by rw [HF.out]; rfl, rfl⟩
    · have hkk : k = l.length := by omega
      have hki : ¬ (k : Int) < (l.length : Int) := by omega
      by_cases hk0 : k = 0
      · have HF : Hid (C.sizeOf l = -1) := Lib.hid (by
          have hl0 : l = [] := List.eq_nil_of_length_eq_zero (by omega)
          rw [hl0]
          rfl)
        have hk0i : (k : Int) = 0 := by omega
        clear ha hall hh hkk HX HH HTX
        go_wp2
        go_ret
        exact ⟨by rw [HF.out]; rfl, rfl⟩
      · have he := C.num_end hkl hall (fun hl => absurd hl (by omega))
        have HF : Hid (C.sizeOf l = a) := Lib.hid (by
          rw [ha]
          exact C.size_done (by omega) hk8 hkl hall he (fun j hj h1 _ => absurd hj (by omega)))
        have hk0i : ¬ (k : Int) = 0 := by omega
        have hk0b : ((k : Int) == 0) = false := beq_eq_false_iff_ne.2 hk0i
        clear ha hall hh hkk HX HH HTX he
        go_wp2
        go_loopw [5] (fun vi wx => vi = .int .i64 k ∧ wx = w) (fun _ _ => 0)
        case atStart => exact ⟨rfl, rfl⟩
        case round =>
          obtain ⟨rfl, hww⟩ := hrel
          subst hww
          go_wp2
          go_ret
          exact ⟨by rw [HF.out]; rfl, rfl⟩
end Go.Proofs.YtnmldbcgpfglkaaGreatDoor
