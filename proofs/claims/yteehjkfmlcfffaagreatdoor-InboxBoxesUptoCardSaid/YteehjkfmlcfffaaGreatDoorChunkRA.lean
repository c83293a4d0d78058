/- The walks of the document's hex and size. The walk of the document's size line. The walks of the document's tail and Decode of chunked bodies. -/
import Derived.Test.YteehjkfmlcfffaaGreatDoorChunkDA
import Derived.Test.YteehjkfmlcfffaaGreatDoorTokC
import Derived.Test.YteehjkfmlcfffaaGreatDoorChunkAA
import Derived.Test.YteehjkfmlcfffaaGreatDoorHeadRA
import Derived.Deep.DeepCutAuto
namespace Go.Proofs.YteehjkfmlcfffaaGreatDoor
open Go.RowKit

theorem refHex_any (c : UInt8) (w : World) : Calls Tryz.prog 329 #[.int .u8 c.toNat] w (RetP w (.int .i64 (C.hex c))) := by
  have h256 : c.toNat < 256 := c.toNat_lt
  have hh : C.hex c = if 48 ≤ c.toNat ∧ c.toNat ≤ 57 then (c.toNat : Int) - 48 else if 65 ≤ c.toNat ∧ c.toNat ≤ 70 then (c.toNat : Int) - 55 else if 97 ≤ c.toNat ∧ c.toNat ≤ 102 then (c.toNat : Int) - 87 else -1 := rfl
  rw [hh]
  clear hh
  generalize c.toNat = k at *
  rcases (by omega : k < 48 ∨ (48 ≤ k ∧ k ≤ 57) ∨ (57 < k ∧ k < 65) ∨ (65 ≤ k ∧ k ≤ 70) ∨ (70 < k ∧ k < 97) ∨ (97 ≤ k ∧ k ≤ 102) ∨ 102 < k) with h | ⟨h1, h2⟩ | ⟨h1, h2⟩ | ⟨h1, h2⟩ | ⟨h1, h2⟩ | ⟨h1, h2⟩ | h
  · rw [if_neg (by omega), if_neg (by omega), if_neg (by omega)]
    go_enter Tryz.func329, Tryz.ntmps329
    go_wp2
    go_ret
    exact ⟨rfl, rfl⟩
  · rw [if_pos (by omega)]
    go_enter Tryz.func329, Tryz.ntmps329
    go_wp2
    go_ret
    exact ⟨rfl, rfl⟩
  · rw [if_neg (by omega), if_neg (by omega), if_neg (by omega)]
    go_enter Tryz.func329, Tryz.ntmps329
    go_wp2
    go_ret
    exact ⟨rfl, rfl⟩
  · rw [if_neg (by omega), if_pos (by omega)]
    go_enter Tryz.func329, Tryz.ntmps329
    go_wp2
    go_ret
    exact ⟨rfl, rfl⟩
  · rw [if_neg (by omega), if_neg (by omega), if_neg (by omega)]
    go_enter Tryz.func329, Tryz.ntmps329
    go_wp2
    go_ret
    exact ⟨rfl, rfl⟩
  · rw [if_neg (by omega), if_neg (by omega), if_pos (by omega)]
    go_enter Tryz.func329, Tryz.ntmps329
    go_wp2
    go_ret
    exact ⟨rfl, rfl⟩
  · rw [if_neg (by omega), if_neg (by omega), if_neg (by omega)]
    go_enter Tryz.func329, Tryz.ntmps329
    go_wp2
    go_ret
    exact ⟨rfl, rfl⟩

namespace C
theorem no_semi {c : UInt8} (h : isHex c = true) : semi c = false := by
  cases h1 : semi c
  · rfl
  · unfold semi at h1
    rw [beq_iff_eq] at h1
    rw [h1] at h
    exact absurd h (by decide)
theorem take_at {l : List UInt8} {p : UInt8 → Bool} {k j : Nat} (h : (l.take k).all p = true) (hj : j < k) (hl : j < l.length) : p l[j] = true := by
  rw [List.all_eq_true] at h
  exact h _ (List.mem_take_iff_getElem.2 ⟨j, by omega, rfl⟩)
/-- The digits ahead lie in the number. -/
theorem num_pre {l : List UInt8} {k : Nat} (hk : k ≤ l.length) (h : (l.take k).all isHex = true) : k ≤ (numOf l).length := by
  rcases Nat.lt_or_ge (numOf l).length k with h1 | h1
  · have h2 := P.upto_from semi l
    cases h3 : P.from_ semi l with
    | nil =>
      have h4 := P.upto_len semi l
      rw [h3] at h4
      unfold numOf at h1
      simp only [List.length_nil] at h4
      omega
    | cons x r =>
      have h5 := P.from_head h3
      rw [h3] at h2
      have hx : l[(numOf l).length]? = some x := by
        unfold numOf
        generalize P.upto semi l = u at *
        rw [← h2, List.getElem?_append_right (Nat.le_refl _), Nat.sub_self]
        rfl
      have hlt : (numOf l).length < l.length := by omega
      rw [List.getElem?_eq_getElem hlt] at hx
      injection hx with hx
      have := take_at h h1 hlt
      rw [hx] at this
      rw [no_semi this] at h5
      cases h5
  · exact h1
theorem num_at {l : List UInt8} {k : Nat} (h : k < (numOf l).length) (hl : k < l.length) : (numOf l)[k] = l[k] := by
  have h2 := P.upto_from semi l
  have : l[k]? = (numOf l)[k]? := by
    conv => lhs; rw [← h2]
    exact List.getElem?_append_left h
  rw [List.getElem?_eq_getElem hl, List.getElem?_eq_getElem h] at this
  injection this with this
  exact this.symm
/-- A byte behind the digits that is neither a digit nor a semicolon: it lies in the number. -/
theorem num_bad {l : List UInt8} {k : Nat} (hk : k < l.length) (h : (l.take k).all isHex = true) (h1 : isHex l[k] = false) (h2 : semi l[k] = false) : (numOf l).all isHex = false := by
  have hlt : k < (numOf l).length := by
    have h3 := num_pre (by omega) h
    rcases Nat.lt_or_ge k (numOf l).length with h4 | h4
    · exact h4
    · have h5 := P.upto_from semi l
      have hkk : k = (numOf l).length := by omega
      cases h6 : P.from_ semi l with
      | nil =>
        have h7 := P.upto_len semi l
        rw [h6] at h7
        unfold numOf at hkk
        simp only [List.length_nil] at h7
        omega
      | cons x r =>
        have h8 := P.from_head h6
        rw [h6] at h5
        have hx : l[(numOf l).length]? = some x := by
          unfold numOf
          generalize P.upto semi l = u at *
          rw [← h5, List.getElem?_append_right (Nat.le_refl _), Nat.sub_self]
          rfl
        rw [← hkk, List.getElem?_eq_getElem hk] at hx
        injection hx with hx
        rw [hx, h8] at h2
        cases h2
  rw [← Bool.not_eq_true, List.all_eq_true]
  intro h9
  have := h9 _ (List.getElem_mem hlt)
  rw [num_at hlt hk, h1] at this
  cases this
theorem num_end {l : List UInt8} {k : Nat} (hk : k ≤ l.length) (h : (l.take k).all isHex = true) (hs : ∀ hl : k < l.length, semi l[k] = true) : numOf l = l.take k ∧ extOf l = l.drop (k + 1) := by
  obtain ⟨h1, h2⟩ := P.upto_eq (p := semi) hk (fun j hj hjk => no_semi (take_at h hjk hj)) hs
  refine ⟨h1, ?_⟩
  unfold extOf
  rw [h2, List.drop_drop]
end C

theorem rd_byte {w : World} {A : Option Addr} {n : Nat} {l : List UInt8} (h : Rd w A n 1 (bcells l)) (k : Nat) (hk : k < l.length) : ∃ b o, A = some ⟨b, o, none⟩ ∧ w.cell? ⟨b, o + k, none⟩ = some (.int .u8 (l[k]'hk).toNat) := by
  have hl := rd_len h
  obtain ⟨b, o, hA, _, hc⟩ := h.2 (by omega)
  exact ⟨b, o, hA, hc k _ (by simp [bcells, hk])⟩
namespace C
/-- The text behind the number is well up to i. -/
def TextTo (l : List UInt8) (k i : Nat) : Prop := ∀ j (h : j < l.length), k ≤ j → j < i → T.textB l[j] = true
theorem text_semi : T.textB 59 = true := by decide
theorem size_text {l : List UInt8} {k i : Nat} (he : numOf l = l.take k ∧ extOf l = l.drop (k + 1)) (hki : k ≤ i) (hi : i < l.length) (hs : ∀ hl : k < l.length, semi l[k] = true) (hb : T.textB l[i] = false) : sizeOf l = -1 := by
  unfold sizeOf
  rw [if_pos]
  refine .inr (.inr (.inr ?_))
  unfold F.text
  rw [L_B, he.2, ← Bool.not_eq_true, List.all_eq_true]
  intro h
  have hne : i ≠ k := by
    rintro rfl
    have := hs hi
    unfold semi at this
    rw [beq_iff_eq] at this
    rw [this, text_semi] at hb
    cases hb
  have := h l[i] (List.mem_drop_iff_getElem.2 ⟨i - (k + 1), by omega, by congr 1; omega⟩)
  rw [hb] at this
  cases this
theorem size_done {l : List UInt8} {k : Nat} (hk0 : 0 < k) (hk8 : k ≤ 8) (hkl : k ≤ l.length) (hx : (l.take k).all isHex = true) (he : numOf l = l.take k ∧ extOf l = l.drop (k + 1)) (ht : TextTo l k l.length) : sizeOf l = val (l.take k) := by
  have hlen : (l.take k).length = k := by rw [List.length_take]; omega
  unfold sizeOf
  rw [he.1, he.2, if_neg]
  rintro (h | h | h | h)
  · rw [h] at hlen
    simp only [List.length_nil] at hlen
    omega
  · omega
  · rw [hx] at h; cases h
  · unfold F.text at h
    rw [L_B, ← Bool.not_eq_true, List.all_eq_true] at h
    refine h (fun x hx => ?_)
    obtain ⟨j, hj, rfl⟩ := List.mem_drop_iff_getElem.1 hx
    exact ht _ (by omega) (by omega) (by omega)
end C
set_option maxHeartbeats 4000000 in
set_option maxRecDepth 100000 in
theorem refSize_any (A : Option Addr) (c : Nat) (l : List UInt8) (w : World) (hn : l.length ≤ 1073741824) (hx : Rd w A l.length 1 (bcells l)) :
    Calls Tryz.prog 274 #[.slice A l.length c] w (RetP w (.int .i64 (C.sizeOf l))) := by
  have HX := Lib.hid (fun k hk => rd_byte hx k hk)
  have HH := Lib.hid (fun c => refHex_any c w)
  have HTX := Lib.hid (fun c => refText_any c w)
  clear hx
  go_enter Tryz.func274, Tryz.ntmps274
  go_wp2
  go_loop [3, 4] (fun vv vk => ∃ (k : Nat) (a : Int), k ≤ 8 ∧ k ≤ l.length ∧ vv = .int .i64 a ∧ vk = .int .i64 k ∧ Hid (a = C.val (l.take k) ∧ (l.take k).all C.isHex = true)) (fun _ vk => 8 - (intOf vk).toNat)
  case atStart => exact ⟨0, 0, by omega, by omega, rfl, rfl, Lib.hid ⟨rfl, rfl⟩⟩
  case round =>
    obtain ⟨k, a, hk8, hkl, rfl, rfl, hh⟩ := hrel
    obtain ⟨ha, hall⟩ := hh.out
    obtain ⟨hv0, hv1⟩ := C.val_bound _ hall
    have hpow : (16 : Int) ^ (l.take k).length ≤ 4294967296 := by
      have h1 : (l.take k).length ≤ 8 := by rw [List.length_take]; omega
      generalize (l.take k).length = q at h1
      rcases (by omega : q = 0 ∨ q = 1 ∨ q = 2 ∨ q = 3 ∨ q = 4 ∨ q = 5 ∨ q = 6 ∨ q = 7 ∨ q = 8) with h | h | h | h | h | h | h | h | h <;> subst h <;> decide
    rw [← ha] at hv0 hv1
    have a1 : a < 4294967296 := by omega
    clear hpow hv1
    by_cases hkn : k < l.length
    · obtain ⟨b, o, rfl, hc⟩ := HX.out k hkn
      have hhx := C.hex_lo (l[k]'hkn)
      have htk : l.take (k + 1) = l.take k ++ [l[k]'hkn] := (List.take_append_getElem hkn).symm
      by_cases hx0 : 0 ≤ C.hex (l[k]'hkn)
      · have hih : C.isHex (l[k]'hkn) = true := (C.isHex_iff _).2 hx0
        have hal2 : (l.take (k + 1)).all C.isHex = true := by rw [htk, List.all_append, hall]; simpa using hih
        by_cases h8 : k = 8
        · have HF : Hid (C.sizeOf l = -1) := Lib.hid (by
            have := C.num_pre (l := l) (k := k + 1) (by omega) hal2
            unfold C.sizeOf
            rw [if_pos (.inr (.inl (by omega)))])
          have HK := Lib.hid (HH.out (l[k]'hkn))
          generalize l[k]'hkn = x at *
          have hx256 : x.toNat < 256 := x.toNat_lt
          generalize C.hex x = q at *
          clear hal2 hih htk ha hall hh
          subst h8
          go_wp2_with (refine HK.out.mono ?_; rintro e w1 ⟨rfl, rfl⟩)
          go_ret
          exact ⟨by rw [HF.out]; rfl, rfl⟩
        · have HN : Hid (a * 16 + C.hex (l[k]'hkn) = C.val (l.take (k + 1)) ∧ (l.take (k + 1)).all C.isHex = true) := Lib.hid ⟨by rw [htk, C.val_snoc, ← ha], hal2⟩
          have HK := Lib.hid (HH.out (l[k]'hkn))
          generalize l[k]'hkn = x at *
          have hx256 : x.toNat < 256 := x.toNat_lt
          generalize C.hex x = q at *
          have h8i : ¬ (k : Int) = 8 := by omega
          clear hal2 hih htk ha hall hh
          go_wp2_with (refine HK.out.mono ?_; rintro e w1 ⟨rfl, rfl⟩)
          exact ⟨⟨k + 1, _, by omega, by omega, rfl, (by first | rfl | (congr 1; omega)), HN⟩, by simp [intOf]; omega⟩
      · have hx1 : C.hex (l[k]'hkn) = -1 := by omega
        have hih := C.isHex_no hx1
        have HK := Lib.hid (HH.out (l[k]'hkn))
        by_cases hs : C.semi (l[k]'hkn) = true
        · have he := C.num_end hkl hall (fun _ => hs)
          have h59 : (l[k]'hkn).toNat = 59 := by
            unfold C.semi at hs
            rw [beq_iff_eq] at hs
            rw [hs]
            rfl
          by_cases hk0 : k = 0
          · have HF : Hid (C.sizeOf l = -1) := Lib.hid (by
              unfold C.sizeOf
              rw [if_pos (.inl (by rw [he.1, hk0]; rfl))])
            generalize l[k]'hkn = x at *
            rw [hx1, h59] at HK
            rw [h59] at hc
            clear hx1 hx0 hih hs he h59 ha hall hh hhx htk
            have hk0i : (k : Int) = 0 := by omega
            have hc0 := hc
            rw [hk0, Nat.add_zero] at hc0
            go_wp2_with (refine HK.out.mono ?_; rintro e w1 ⟨rfl, rfl⟩)
            go_ret
            exact ⟨by rw [HF.out]; rfl, rfl⟩
          · have HEE := Lib.hid he
            have HSE : Hid (∀ hl : k < l.length, C.semi (l[k]'hl) = true) := Lib.hid (fun _ => hs)
            have HAL := Lib.hid hall
            have HDN := Lib.hid ha.symm
            generalize l[k]'hkn = x at *
            rw [hx1, h59] at HK
            rw [h59] at hc
            replace hk0 : 0 < k := by omega
            have hk0i : ¬ (k : Int) = 0 := by omega
            have hk0b : ((k : Int) == 0) = false := beq_eq_false_iff_ne.2 hk0i
            clear hx1 hx0 hih hs he h59 ha hall hh hhx htk
            go_wp2_with (refine HK.out.mono ?_; rintro e w1 ⟨rfl, rfl⟩)
            go_loopw [5] (fun vi wx => ∃ i : Nat, k ≤ i ∧ i ≤ l.length ∧ vi = .int .i64 i ∧ Hid (C.TextTo l k i) ∧ wx = w) (fun vi _ => l.length - (intOf vi).toNat)
            case atStart => exact ⟨k, Nat.le_refl _, by omega, rfl, Lib.hid (fun j _ h1 h2 => absurd h1 (by omega)), rfl⟩
            case round =>
              obtain ⟨i, hki, hil, rfl, HTT, hww⟩ := hrel
              subst hww
              by_cases hin : i < l.length
              · obtain ⟨b2, o2, hA2, hc2⟩ := HX.out i hin
                cases hA2
                have HK2 := Lib.hid (HTX.out (l[i]'hin))
                have hyes : T.textB (l[i]'hin) = true → C.TextTo l k (i + 1) := fun h j hj h1 h2 => by
                  by_cases hji : j = i
                  · subst hji; exact h
                  · exact HTT.out j hj h1 (by omega)
                have hno : T.textB (l[i]'hin) = false → C.sizeOf l = -1 := fun h => C.size_text HEE.out hki hin HSE.out h
                generalize l[i]'hin = y at *
                cases hty : T.textB y
                · have HF := Lib.hid (hno hty)
                  rw [hty] at HK2
                  clear hyes hno hty
                  go_wp2_with (refine HK2.out.mono ?_; rintro e w1 ⟨rfl, rfl⟩)
                  go_ret
                  exact ⟨by rw [HF.out]; rfl, rfl⟩
                · have HN := Lib.hid (hyes hty)
                  rw [hty] at HK2
                  clear hyes hno hty
                  go_wp2_with (refine HK2.out.mono ?_; rintro e w1 ⟨rfl, rfl⟩)
                  go_roundw
                  case rel =>
                    first | exact ⟨i + 1, by omega, by omega, by go_num, HN, rfl⟩ | exact ⟨i + 1, by omega, by omega, by go_num, HN, trivial⟩
                  case measure => simp [intOf]; omega
              · have hil2 : i = l.length := by omega
                have HF : Hid (C.sizeOf l = a) := Lib.hid (by
                  rw [← HDN.out]
                  exact C.size_done hk0 hk8 hkl HAL.out HEE.out (by have := HTT.out; rw [hil2] at this; exact this))
                clear hil2
                have hini : ¬ (i : Int) < (l.length : Int) := by omega
                go_wp2
                go_ret
                exact ⟨by rw [HF.out]; rfl, rfl⟩
        · rw [Bool.not_eq_true] at hs
          have hb := C.num_bad hkn hall hih hs
          have HF : Hid (C.sizeOf l = -1) := Lib.hid (by
            unfold C.sizeOf
            rw [if_pos (.inr (.inr (.inl hb)))])
          have h59 : ¬ (l[k]'hkn).toNat = 59 := fun h => by
            have : l[k]'hkn = 59 := UInt8.toNat_inj.1 h
            rw [this] at hs
            exact absurd hs (by decide)
          generalize l[k]'hkn = x at *
          rw [hx1] at HK
          have hx256 : x.toNat < 256 := x.toNat_lt
          have h59b : ((x.toNat : Int) != 59) = true := bne_iff_ne.2 (by omega)
          clear hx1 hx0 hih hs hb ha hall hh hhx htk
          by_cases hk0 : k = 0
          · have hk0i : (k : Int) = 0 := by omega
            have hc0 := hc
            rw [hk0, Nat.add_zero] at hc0
            go_wp2_with (refine HK.out.mono ?_; rintro e w1 ⟨rfl, rfl⟩)
            go_ret
            exact ⟨by rw [HF.out]; rfl, rfl⟩
          · have hk0i : ¬ (k : Int) = 0 := by omega
            go_wp2_with (refine HK.out.mono ?_; rintro e w1 ⟨rfl, rfl⟩)
            go_ret
            exact ⟨by rw [HF.out]; rfl, rfl⟩
    · have hkk : k = l.length := by omega
      have hki : ¬ (k : Int) < (l.length : Int) := by omega
      by_cases hk0 : k = 0
      · have HF : Hid (C.sizeOf l = -1) := Lib.hid (by
          have hl0 : l = [] := List.eq_nil_of_length_eq_zero (by omega)
          rw [hl0]
          rfl)
        have hk0i : (k : Int) = 0 := by omega
        clear ha hall hh hkk HX HH HTX
        go_wp2
        go_ret
        exact ⟨by rw [HF.out]; rfl, rfl⟩
      · have he := C.num_end hkl hall (fun hl => absurd hl (by omega))
        have HF : Hid (C.sizeOf l = a) := Lib.hid (by
          rw [ha]
          exact C.size_done (by omega) hk8 hkl hall he (fun j hj h1 _ => absurd hj (by omega)))
        have hk0i : ¬ (k : Int) = 0 := by omega
        have hk0b : ((k : Int) == 0) = false := beq_eq_false_iff_ne.2 hk0i
        clear ha hall hh hkk HX HH HTX he
        go_wp2
        go_loopw [5] (fun vi wx => vi = .int .i64 k ∧ wx = w) (fun _ _ => 0)
        case atStart => exact ⟨rfl, rfl⟩
        case round =>
          obtain ⟨rfl, hww⟩ := hrel
          subst hww
          go_wp2
          go_ret
          exact ⟨by rw [HF.out]; rfl, rfl⟩
end Go.Proofs.YteehjkfmlcfffaaGreatDoor

namespace Go.Proofs.YteehjkfmlcfffaaGreatDoor
open Go.RowKit

set_option maxHeartbeats 4000000 in
set_option maxRecDepth 100000 in
theorem refLine_any (A : Option Addr) (c : Nat) (l : List UInt8) (w : World) (hn : l.length ≤ 1073741824) (hnc : l.length ≤ c) (hx : Rd w A l.length 1 (bcells l)) :
    Calls Tryz.prog 220 #[.slice A l.length c] w (RetP w (.tuple #[.int .i64 (C.lineS l), .int .i64 (C.lineN l), .int .i64 (C.lineE l)])) := by
  have HX := Lib.hid (fun k hk => rd_byte hx k hk)
  have HZ := Lib.hid (fun (j : Nat) (hj : j ≤ l.length) => show Calls Tryz.prog 274 #[.slice A j c] w (RetP w (.int .i64 (C.sizeOf (l.take j)))) from by
    have hlen : (l.take j).length = j := by rw [List.length_take]; omega
    have := refSize_any A c (l.take j) w (by omega) (by rw [hlen]; exact hx.upto hj)
    rwa [hlen] at this)
  clear hx
  go_enter Tryz.func220, Tryz.ntmps220
  go_wp2
  go_loop [5] (fun vk => ∃ k : Nat, k ≤ l.length ∧ vk = .int .i64 k ∧ Hid (∀ j (h : j < l.length), j < k → C.lf l[j] = false)) (fun vk => l.length - (intOf vk).toNat)
  case atStart => exact ⟨0, by omega, rfl, Lib.hid (fun j _ h => absurd h (by omega))⟩
  case round =>
    obtain ⟨k, hkl, rfl, HP⟩ := hrel
    by_cases hkn : k < l.length
    · obtain ⟨b, o, rfl, hc⟩ := HX.out k hkn
      by_cases hlf : C.lf (l[k]'hkn) = true
      · have heol : C.eolAt l = k := by
          have := (P.upto_eq (p := C.lf) hkl HP.out (fun _ => hlf)).1
          unfold C.eolAt
          rw [this, List.length_take]
          omega
        have h10 : (l[k]'hkn).toNat = 10 := by
          unfold C.lf at hlf
          rw [beq_iff_eq] at hlf
          rw [hlf]
          rfl
        rw [h10] at hc
        have hlt : C.eolAt l < l.length := by omega
        have HBAD : Hid (C.lineBad l → C.lineE l = 70 ∧ C.lineN l = 0 ∧ C.lineS l = 0) := Lib.hid fun h => by
          unfold C.lineE C.lineN C.lineS
          rw [if_pos hlt, if_pos h, if_neg (fun h2 => h2.2 h), if_neg (fun h2 => h2.2 h)]
          exact ⟨rfl, rfl, rfl⟩
        have HGOOD : Hid (¬ C.lineBad l → C.lineE l = 0 ∧ C.lineN l = k + 1 ∧ C.lineS l = (C.sizeOf (l.take (k - 1))).toNat) := Lib.hid fun h => by
          unfold C.lineE C.lineN C.lineS
          rw [if_pos hlt, if_neg h, if_pos ⟨hlt, h⟩, if_pos ⟨hlt, h⟩, heol]
          exact ⟨rfl, rfl, rfl⟩
        have HEO := Lib.hid heol
        clear heol hlt hlf h10 HP
        by_cases h2 : 200 ≤ k
        · have HE := Lib.hid (HBAD.out (.inl (by rw [HEO.out]; exact h2)))
          have h2i : (200 : Int) < (k : Int) + 1 := by omega
          clear HBAD HGOOD HZ HX
          go_wp2
          refine bodyPost_ret (v := .tuple #[.int .i64 0, .int .i64 0, .int .i64 70]) (by simp [results, Tryz.results220, go_sem]) rfl ?_
          exact ⟨by rw [HE.out.1, HE.out.2.1, HE.out.2.2]; rfl, rfl⟩
        · have h2i : ¬ (200 : Int) < (k : Int) + 1 := by omega
          by_cases h0 : k = 0
          · have HE := Lib.hid (HBAD.out (.inr (.inl (by rw [HEO.out]; exact h0))))
            have h0i : (k : Int) = 0 := by omega
            have hc0 := hc
            rw [h0, Nat.add_zero] at hc0
            clear HBAD HGOOD HZ HX
            go_wp2
            refine bodyPost_ret (v := .tuple #[.int .i64 0, .int .i64 0, .int .i64 70]) (by simp [results, Tryz.results220, go_sem]) rfl ?_
            exact ⟨by rw [HE.out.1, HE.out.2.1, HE.out.2.2]; rfl, rfl⟩
          · obtain ⟨j, rfl⟩ : ∃ j, k = j + 1 := ⟨k - 1, by omega⟩
            have hjl : j < l.length := by omega
            have hjb : ((j : Int) + 1 == 0) = false := beq_eq_false_iff_ne.2 (by omega)
            obtain ⟨b2, o2, hA2, hc2⟩ := HX.out j hjl
            cases hA2
            have hgd : l.getD j 0 = l[j]'hjl := by simp [List.getD, hjl]
            by_cases h13 : l[j]'hjl = 13
            · have h13n : (l[j]'hjl).toNat = 13 := by rw [h13]; rfl
              rw [h13n] at hc2
              have HK := Lib.hid (HZ.out j (by omega))
              have hjc : (j : Int) ≤ c := by omega
              by_cases hz : C.sizeOf (l.take j) < 0
              · have HE := Lib.hid (HBAD.out (.inr (.inr (.inr (by rw [HEO.out]; exact hz)))))
                clear HBAD HGOOD HZ HX h13 h13n hgd
                go_wp2_with (refine HK.out.mono ?_; rintro e w1 ⟨rfl, rfl⟩)
                refine bodyPost_ret (v := .tuple #[.int .i64 0, .int .i64 0, .int .i64 70]) (by simp [results, Tryz.results220, go_sem]) rfl ?_
                exact ⟨by rw [HE.out.1, HE.out.2.1, HE.out.2.2]; rfl, rfl⟩
              · have HE := Lib.hid (HGOOD.out (by
                  rintro (h | h | h | h)
                  · rw [HEO.out] at h; omega
                  · rw [HEO.out] at h; omega
                  · rw [HEO.out] at h; exact h (by rw [Nat.add_sub_cancel, hgd, h13])
                  · rw [HEO.out] at h; exact hz h))
                have HSS : Hid ((C.lineS l : Int) = C.sizeOf (l.take j)) := Lib.hid (by
                  rw [HE.out.2.2, Nat.add_sub_cancel]
                  omega)
                have hz0 : 0 ≤ C.sizeOf (l.take j) := by omega
                clear HBAD HGOOD HZ HX h13 h13n hgd
                generalize C.sizeOf (l.take j) = z at *
                go_wp2_with (refine HK.out.mono ?_; rintro e w1 ⟨rfl, rfl⟩)
                refine bodyPost_ret (v := .tuple #[.int .i64 z, .int .i64 ((j : Int) + 1 + 1), .int .i64 0]) (by simp [results, Tryz.results220, go_sem]) rfl ?_
                exact ⟨by rw [HE.out.1, HE.out.2.1, HSS.out]; rfl, rfl⟩
            · have HE := Lib.hid (HBAD.out (.inr (.inr (.inl (by rw [HEO.out, Nat.add_sub_cancel, hgd]; exact h13)))))
              have h13n : ¬ (l[j]'hjl).toNat = 13 := fun h => h13 (UInt8.toNat_inj.1 h)
              generalize l[j]'hjl = y at *
              have h13b : ((y.toNat : Int) != 13) = true := bne_iff_ne.2 (by omega)
              clear HBAD HGOOD HZ HX h13 hgd
              go_wp2
              refine bodyPost_ret (v := .tuple #[.int .i64 0, .int .i64 0, .int .i64 70]) (by simp [results, Tryz.results220, go_sem]) rfl ?_
              exact ⟨by rw [HE.out.1, HE.out.2.1, HE.out.2.2]; rfl, rfl⟩
      · rw [Bool.not_eq_true] at hlf
        have HN : Hid (∀ j (h : j < l.length), j < k + 1 → C.lf l[j] = false) := Lib.hid (fun j hj h => by
          by_cases hjk : j = k
          · subst hjk; exact hlf
          · exact HP.out j hj (by omega))
        have h10 : ¬ (l[k]'hkn).toNat = 10 := fun h => by
          have : l[k]'hkn = 10 := UInt8.toNat_inj.1 h
          rw [this] at hlf
          exact absurd hlf (by decide)
        generalize l[k]'hkn = x at *
        have h10b : ((x.toNat : Int) != 10) = true := bne_iff_ne.2 (by omega)
        clear hlf h10
        go_wp2
        exact ⟨⟨k + 1, by omega, (by first | rfl | (congr 1; omega)), HN⟩, by simp [intOf]; omega⟩
    · have hkk : k = l.length := by omega
      have heol : C.eolAt l = l.length := by
        have := (P.upto_eq (p := C.lf) hkl HP.out (fun h => absurd h hkn)).1
        unfold C.eolAt
        rw [this, List.length_take]
        omega
      have hL : C.lineE l = (if 200 ≤ l.length then 70 else 0) ∧ C.lineN l = 0 ∧ C.lineS l = 0 := by
        exact ⟨by unfold C.lineE; rw [heol, if_neg (Nat.lt_irrefl _)], by unfold C.lineN; rw [heol, if_neg (fun h => Nat.lt_irrefl _ h.1)], by unfold C.lineS; rw [heol, if_neg (fun h => Nat.lt_irrefl _ h.1)]⟩
      have HL := Lib.hid hL
      have hki : (k : Int) = l.length := by omega
      clear heol hL hkk HX HZ HP hkn
      by_cases h2 : 200 ≤ l.length
      · have HE := Lib.hid (HL.out.1.trans (if_pos h2))
        have h2i : (200 : Int) ≤ l.length := by omega
        go_wp2
        refine bodyPost_ret (v := .tuple #[.int .i64 0, .int .i64 0, .int .i64 70]) (by simp [results, Tryz.results220, go_sem]) rfl ?_
        exact ⟨by rw [HE.out, HL.out.2.1, HL.out.2.2]; rfl, rfl⟩
      · have HE := Lib.hid (HL.out.1.trans (if_neg h2))
        have h2i : ¬ (200 : Int) ≤ l.length := by omega
        go_wp2
        refine bodyPost_ret (v := .tuple #[.int .i64 0, .int .i64 0, .int .i64 0]) (by simp [results, Tryz.results220, go_sem]) rfl ?_
        exact ⟨by rw [HE.out, HL.out.2.1, HL.out.2.2]; rfl, rfl⟩
end Go.Proofs.YteehjkfmlcfffaaGreatDoor

namespace Go.Proofs.YteehjkfmlcfffaaGreatDoor
open Go.RowKit

/-- The trailers, answered. -/
def RetTail (w : World) (l : List UInt8) (e : Ending) (w' : World) : Prop :=
  ∃ A c, e = .returned (.tuple #[.slice A (C.tailF l).length c, .int .i64 (C.tailN l), .int .i64 (C.tailE l)]) ∧ Row w' w.heap.size 148 2 A (C.tailF l).length c (fcells (C.tailF l)) ∧ Below w.heap.size w w'
theorem RetTail.bad {w w' : World} {l : List UInt8} {N : Nat} {code : Int} (hb : Below w.heap.size w w') (hf : C.tailF l = []) (hn : C.tailN l = N) (he : C.tailE l = code) : RetTail w l (.returned (.tuple #[.slice none 0 0, .int .i64 N, .int .i64 code])) w' := by
  refine ⟨none, 0, ?_, ?_, hb⟩
  · rw [hf, hn, he]; rfl
  · rw [hf]; exact Row.none_ _ _ _ _
namespace C
theorem pre_iff (l : List UInt8) (h : 1 < l.length) : P.crlf.isPrefixOf l = (decide (l[0]'(by omega) = 13) && decide (l[1]'h = 10)) := by
  have := occ2 l 0 (by omega)
  unfold Lib.occAt at this
  rw [List.drop_zero] at this
  rw [this]
theorem pre_short (l : List UInt8) (h : ¬ 1 < l.length) : ¬ P.crlf.isPrefixOf l = true := by
  intro hp
  rw [List.isPrefixOf_iff_prefix] at hp
  have := hp.length_le
  simp only [P.crlf, List.length_cons, List.length_nil] at this
  omega
theorem tail_crlf {l : List UInt8} (h : P.crlf.isPrefixOf l = true) : tailF l = [] ∧ tailN l = 2 ∧ tailE l = 0 := ⟨if_pos h, if_pos h, if_pos h⟩
/-- No end of the trailers yet. -/
theorem tail_none {l : List UInt8} (h : ¬ P.crlf.isPrefixOf l = true) (hi : P.hIdx l 0 < 0) : tailF l = [] ∧ tailN l = 0 ∧ tailE l = if l.length < 8192 then 0 else 51 := by
  have h1 := P.hN_no hi
  refine ⟨?_, ?_, ?_⟩
  · unfold tailF; rw [if_neg h, if_pos (.inr h1)]
  · unfold tailN; rw [if_neg h, if_pos (.inr h1)]
  · unfold tailE; rw [if_neg h, if_pos (.inr h1), P.hE_no hi]
theorem tail_late {l : List UInt8} {i : Nat} (h : ¬ P.crlf.isPrefixOf l = true) (hi : P.hIdx l 0 = (i : Int)) (h8 : 8192 < i + 4) : tailF l = [] ∧ tailN l = 0 ∧ tailE l = 51 := by
  have hE : P.hE l 0 = 51 := by
    unfold P.hE
    rw [hi, if_neg (by omega), if_pos (by omega)]
  have hc : P.hE l 0 ≠ 0 ∨ P.hN l 0 = 0 := .inl (by rw [hE]; decide)
  refine ⟨?_, ?_, ?_⟩
  · unfold tailF; rw [if_neg h, if_pos hc]
  · unfold tailN; rw [if_neg h, if_pos hc]
  · unfold tailE; rw [if_neg h, if_pos hc, hE]
theorem tail_parse {l : List UInt8} {i : Nat} (h : ¬ P.crlf.isPrefixOf l = true) (hi : P.hIdx l 0 = (i : Int)) (h8 : ¬ 8192 < i + 4) :
    tailF l = (P.parse [] (l.take (i + 2))).1 ∧ tailN l = (if (P.parse [] (l.take (i + 2))).2 ≠ 0 then 0 else i + 4) ∧ tailE l = (P.parse [] (l.take (i + 2))).2 := by
  have hE : P.hE l 0 = 0 := by
    unfold P.hE
    rw [hi, if_neg (by omega), if_neg (by omega)]
  have hN : P.hN l 0 = ((i + 4 : Nat) : Int) := by
    unfold P.hN
    rw [hi, if_neg (by omega)]
    omega
  have hc : ¬ (P.hE l 0 ≠ 0 ∨ P.hN l 0 = 0) := by rw [hE, hN]; omega
  have hk : (P.hN l 0 - 2).toNat = i + 2 := by rw [hN]; omega
  refine ⟨?_, ?_, ?_⟩
  · unfold tailF; rw [if_neg h, if_neg hc, hk]
  · unfold tailN; rw [if_neg h, if_neg hc, hk, hN, Int.toNat_natCast]
  · unfold tailE; rw [if_neg h, if_neg hc, hk]
end C
set_option maxHeartbeats 4000000 in
set_option maxRecDepth 100000 in
theorem refTail_any (A : Option Addr) (c : Nat) (l : List UInt8) (w : World) (hn : l.length ≤ 1073741824) (hnc : l.length ≤ c) (hx : Rd w A l.length 1 (bcells l)) :
    Calls Tryz.prog 221 #[.slice A l.length c] w (RetTail w l) := by
  have HX := Lib.hid (fun k hk => rd_byte hx k hk)
  have HPA := Lib.hid (fun (j : Nat) (hj : j ≤ l.length) => show Calls Tryz.prog 143 #[.slice A j c] w (RetL w (P.parse [] (l.take j))) from refParse_any A j c (l.take j) w (by omega) (by omega) (hx.upto hj))
  clear hx
  by_cases hp : P.crlf.isPrefixOf l = true
  · have hl1 : 1 < l.length := by
      rcases Nat.lt_or_ge 1 l.length with h | h
      · exact h
      · exact absurd hp (C.pre_short l (by omega))
    have HT := Lib.hid (C.tail_crlf hp)
    rw [C.pre_iff l hl1, Bool.and_eq_true] at hp
    have h0 := of_decide_eq_true hp.1
    have h1 := of_decide_eq_true hp.2
    obtain ⟨b, o, rfl, q0⟩ := HX.out 0 (by omega)
    obtain ⟨b', o', e, q1⟩ := HX.out 1 hl1
    cases e
    rw [h0] at q0
    rw [h1] at q1
    rw [Nat.add_zero] at q0
    have hl2 : (2 : Int) ≤ (l.length : Int) := by omega
    clear HPA HX hp h0 h1
    go_enter Tryz.func221, Tryz.ntmps221
    go_wp2
    refine bodyPost_ret (v := .tuple #[.slice none 0 0, .int .i64 2, .int .i64 0]) (by simp [results, Tryz.results221, go_sem]) rfl ?_
    exact RetTail.bad (Below.refl _ _) HT.out.1 HT.out.2.1 HT.out.2.2
  · have HP0 := Lib.hid hp
    have HWAY : Hid (¬ 1 < l.length ∨ (∃ h : 1 < l.length, ¬ l[0]'(by omega) = 13) ∨ (∃ h : 1 < l.length, l[0]'(by omega) = 13 ∧ ¬ l[1]'h = 10)) := Lib.hid (by
      by_cases h : 1 < l.length
      · rw [C.pre_iff l h] at hp
        by_cases h0 : l[0]'(by omega) = 13
        · by_cases h1 : l[1]'h = 10
          · rw [decide_eq_true h0, decide_eq_true h1] at hp
            exact absurd rfl hp
          · exact .inr (.inr ⟨h, h0, h1⟩)
        · exact .inr (.inl ⟨h, h0⟩)
      · exact .inl h)
    clear hp
    go_enter Tryz.func221, Tryz.ntmps221
    go_upto_region 1 with fail
    go_cut [22] (fun s22 wx => s22 = .bool false ∧ wx = w)
    case first =>
      clear HPA HP0
      rcases HWAY.out with h | ⟨h, h0⟩ | ⟨h, h0, h1⟩
      · have hl2 : ¬ (2 : Int) ≤ (l.length : Int) := by omega
        clear HWAY HX
        go_wp2_with fail
        go_meet
        exact ⟨rfl, rfl⟩
      · have hl2 : (2 : Int) ≤ (l.length : Int) := by omega
        obtain ⟨b, o, rfl, q0⟩ := HX.out 0 (by omega)
        rw [Nat.add_zero] at q0
        generalize l[0]'(by omega) = x at *
        have g0 : ((x.toNat : Int) == 13) = false := beqI_false (y := 13) h0
        clear HWAY HX h0
        go_wp2_with fail
        go_meet
        exact ⟨rfl, rfl⟩
      · have hl2 : (2 : Int) ≤ (l.length : Int) := by omega
        obtain ⟨b, o, rfl, q0⟩ := HX.out 0 (by omega)
        obtain ⟨b', o', e, q1⟩ := HX.out 1 h
        cases e
        rw [Nat.add_zero] at q0
        rw [h0] at q0
        generalize l[1]'h = y at *
        have g1 : ((y.toNat : Int) == 10) = false := beqI_false (y := 10) h1
        clear HWAY HX h0 h1
        go_wp2_with fail
        go_meet
        exact ⟨rfl, rfl⟩
    case rest =>
      obtain ⟨rfl, hwc⟩ := hcut
      subst hwc
      clear HWAY
      go_wp2_with fail
      go_loop [5] (fun s4 => ∃ i : Nat, i ≤ l.length ∧ s4 = .int .i64 i ∧ Hid (∀ j, j < i → Lib.occAt l P.crlf2 j = false)) (fun s4 => l.length - (intOf s4).toNat)
      case atStart => exact ⟨0, Nat.zero_le _, rfl, Lib.hid (fun j h2 => absurd h2 (by omega))⟩
      case round =>
        obtain ⟨i, hin, rfl, HNO⟩ := hrel
        by_cases hlt : i + 3 < l.length
        · have hii : (i : Int) + 3 < (l.length : Int) := by omega
          have hi0 : (i : Int) < (l.length : Int) := by omega
          have hi1 : (i : Int) + 1 < (l.length : Int) := by omega
          have hi2 : (i : Int) + 2 < (l.length : Int) := by omega
          have HOC := Lib.hid (occ4 l i (by omega))
          obtain ⟨b, o, rfl, q0⟩ := HX.out i (by omega)
          have q1 : wc.cell? ⟨b, o + (i + 1), none⟩ = some (.int .u8 (l[i + 1]'(by omega)).toNat) := by
            obtain ⟨b', o', e, q⟩ := HX.out (i + 1) (by omega)
            cases e; exact q
          have q2 : wc.cell? ⟨b, o + (i + 2), none⟩ = some (.int .u8 (l[i + 2]'(by omega)).toNat) := by
            obtain ⟨b', o', e, q⟩ := HX.out (i + 2) (by omega)
            cases e; exact q
          have q3 : wc.cell? ⟨b, o + (i + 3), none⟩ = some (.int .u8 (l[i + 3]'(by omega)).toNat) := by
            obtain ⟨b', o', e, q⟩ := HX.out (i + 3) (by omega)
            cases e; exact q
          have NEXT : Lib.occAt l P.crlf2 i = false → ∀ j, j < i + 1 → Lib.occAt l P.crlf2 j = false := fun h j h2 => by
            by_cases hji : j = i
            · subst hji; exact h
            · exact HNO.out j (by omega)
          have HNX := Lib.hid NEXT
          clear NEXT
          generalize l[i]'(by omega) = a0 at *
          generalize l[i + 1]'(by omega) = a1 at *
          generalize l[i + 2]'(by omega) = a2 at *
          generalize l[i + 3]'(by omega) = a3 at *
          by_cases h0 : a0 = 13
          · have g0 : ((a0.toNat : Int) == 13) = true := beqI_true (y := 13) h0
            by_cases h1 : a1 = 10
            · have g1 : ((a1.toNat : Int) == 10) = true := beqI_true (y := 10) h1
              by_cases h2 : a2 = 13
              · have g2 : ((a2.toNat : Int) == 13) = true := beqI_true (y := 13) h2
                by_cases h3 : a3 = 10
                · have g3 : ((a3.toNat : Int) == 10) = true := beqI_true (y := 10) h3
                  have hix : P.hIdx l 0 = (i : Int) := by
                    have hoc : Lib.occAt l P.crlf2 i = true := by rw [HOC.out, decide_eq_true h0, decide_eq_true h1, decide_eq_true h2, decide_eq_true h3]; rfl
                    show Lib.index (l.drop 0) P.crlf2 = _
                    rw [List.drop_zero]
                    exact Lib.index_hit (fun j hj => HNO.out _ hj) (by omega) hoc
                  have HIX := Lib.hid hix
                  clear h0 h1 h2 h3 HOC HNX HNO hix HX
                  by_cases h8 : 8192 < i + 4
                  · have HR := Lib.hid (C.tail_late HP0.out HIX.out h8)
                    have h8i : (8192 : Int) < (i : Int) + 4 := by omega
                    clear HPA HP0 HIX
                    go_wp2
                    refine bodyPost_ret (v := .tuple #[.slice none 0 0, .int .i64 0, .int .i64 51]) (by simp [results, Tryz.results221, go_sem]) rfl ?_
                    exact RetTail.bad (Below.refl _ _) HR.out.1 HR.out.2.1 HR.out.2.2
                  · have HR := Lib.hid (C.tail_parse HP0.out HIX.out h8)
                    have h8i : ¬ (8192 : Int) < (i : Int) + 4 := by omega
                    have hic : (i : Int) + 2 ≤ (c : Int) := by omega
                    have HK := Lib.hid (HPA.out (i + 2) (by omega))
                    clear HPA HP0 HIX
                    have HPF := Lib.hid (P.parse_facts _ [] (l.take (i + 2)) (Nat.le_refl _) (by simp)).2.2
                    obtain ⟨R, hR⟩ : ∃ R, P.parse [] (l.take (i + 2)) = R := ⟨_, rfl⟩
                    rw [hR] at HK HR HPF
                    clear hR
                    obtain ⟨fs, e0⟩ := R
                    go_wp2_with fail
                    refine HK.out.mono ?_
                    rintro e w1 ⟨TA, tc, rfl, hr1, hb1⟩
                    have HR1 := Lib.hid (show Row w1 wc.heap.size 148 2 TA fs.length tc (fcells fs) from hr1)
                    have HB1 := Lib.hid hb1
                    clear hr1 hb1 HK
                    by_cases he0 : e0 = 0
                    · subst he0
                      have HRN : Hid (C.tailF l = fs ∧ C.tailN l = i + 4 ∧ C.tailE l = 0) := Lib.hid ⟨HR.out.1, HR.out.2.1.trans (if_neg (fun h => h rfl)), HR.out.2.2⟩
                      clear HR HPF
                      go_wp2
                      refine bodyPost_ret (v := .tuple #[.slice TA fs.length tc, .int .i64 ((i : Int) + 4), .int .i64 0]) (by simp [results, Tryz.results221, go_sem]) rfl ?_
                      refine ⟨TA, tc, ?_, ?_, HB1.out⟩
                      · rw [HRN.out.1, HRN.out.2.1, HRN.out.2.2]; rfl
                      · rw [HRN.out.1]; exact HR1.out
                    · have HRN : Hid (C.tailF l = fs ∧ C.tailN l = 0 ∧ C.tailE l = e0) := Lib.hid ⟨HR.out.1, HR.out.2.1.trans (if_pos he0), HR.out.2.2⟩
                      have HFN : Hid (C.tailF l = []) := Lib.hid (HRN.out.1.trans (HPF.out he0))
                      have heb : (e0 != 0) = true := by simpa using he0
                      clear HR HPF he0
                      go_wp2
                      refine bodyPost_ret (v := .tuple #[.slice none 0 0, .int .i64 0, .int .i64 e0]) (by simp [results, Tryz.results221, go_sem]) rfl ?_
                      exact RetTail.bad HB1.out HFN.out HRN.out.2.1 HRN.out.2.2
                · have g3 : ((a3.toNat : Int) == 10) = false := beqI_false (y := 10) h3
                  have NEXT := Lib.hid (HNX.out (by rw [HOC.out, decide_eq_false h3, Bool.and_false]))
                  clear h0 h1 h2 h3 HOC HNX HNO
                  go_wp2
                  go_round
                  case rel => exact ⟨i + 1, by omega, by go_num, NEXT⟩
                  case measure => simp [intOf]; omega
              · have g2 : ((a2.toNat : Int) == 13) = false := beqI_false (y := 13) h2
                have NEXT := Lib.hid (HNX.out (by rw [HOC.out, decide_eq_false h2, Bool.and_false, Bool.false_and]))
                clear h0 h1 h2 HOC HNX HNO
                go_wp2
                go_round
                case rel => exact ⟨i + 1, by omega, by go_num, NEXT⟩
                case measure => simp [intOf]; omega
            · have g1 : ((a1.toNat : Int) == 10) = false := beqI_false (y := 10) h1
              have NEXT := Lib.hid (HNX.out (by rw [HOC.out, decide_eq_false h1, Bool.and_false, Bool.false_and, Bool.false_and]))
              clear h0 h1 HOC HNX HNO
              go_wp2
              go_round
              case rel => exact ⟨i + 1, by omega, by go_num, NEXT⟩
              case measure => simp [intOf]; omega
          · have g0 : ((a0.toNat : Int) == 13) = false := beqI_false (y := 13) h0
            have NEXT := Lib.hid (HNX.out (by rw [HOC.out, decide_eq_false h0, Bool.false_and, Bool.false_and, Bool.false_and]))
            clear h0 HOC HNX HNO
            go_wp2
            go_round
            case rel => exact ⟨i + 1, by omega, by go_num, NEXT⟩
            case measure => simp [intOf]; omega
        · have hii : ¬ (i : Int) + 3 < (l.length : Int) := by omega
          have hix : P.hIdx l 0 = -1 := by
            show Lib.index (l.drop 0) P.crlf2 = _
            rw [List.drop_zero]
            exact Lib.index_past (i := i) (by decide) (fun j hj => HNO.out _ hj) (by show l.length < i + 4; omega)
          have HR := Lib.hid (C.tail_none HP0.out (by rw [hix]; decide))
          clear HNO HX hix HPA HP0
          by_cases h8 : l.length < 8192
          · have HE := Lib.hid (HR.out.2.2.trans (if_pos h8))
            have h8i : ¬ (8192 : Int) ≤ (l.length : Int) := by omega
            go_wp2
            refine bodyPost_ret (v := .tuple #[.slice none 0 0, .int .i64 0, .int .i64 0]) (by simp [results, Tryz.results221, go_sem]) rfl ?_
            exact RetTail.bad (Below.refl _ _) HR.out.1 HR.out.2.1 HE.out
          · have HE := Lib.hid (HR.out.2.2.trans (if_neg h8))
            have h8i : (8192 : Int) ≤ (l.length : Int) := by omega
            go_wp2
            refine bodyPost_ret (v := .tuple #[.slice none 0 0, .int .i64 0, .int .i64 51]) (by simp [results, Tryz.results221, go_sem]) rfl ?_
            exact RetTail.bad (Below.refl _ _) HR.out.1 HR.out.2.1 HE.out

namespace C
theorem tail_nil : tailF [] = [] ∧ tailN [] = 0 ∧ tailE [] = 0 := by
  have := tail_none (l := []) (by decide) (by decide +kernel)
  exact ⟨this.1, this.2.1, this.2.2⟩
theorem lineS_le (l : List UInt8) : lineS l < 4294967296 := by
  unfold lineS
  split
  · unfold sizeOf
    split
    · decide
    · rename_i h
      have h8 : ¬ 8 < (numOf (l.take (eolAt l - 1))).length := fun k => h (.inr (.inl k))
      have hx : (numOf (l.take (eolAt l - 1))).all isHex = true := by
        cases hh : (numOf (l.take (eolAt l - 1))).all isHex
        · exact absurd hh (fun k => h (.inr (.inr (.inl k))))
        · rfl
      obtain ⟨_, h2⟩ := val_bound _ hx
      have hpow : (16 : Int) ^ (numOf (l.take (eolAt l - 1))).length ≤ 4294967296 := by
        generalize (numOf (l.take (eolAt l - 1))).length = q at h8
        rcases (by omega : q = 0 ∨ q = 1 ∨ q = 2 ∨ q = 3 ∨ q = 4 ∨ q = 5 ∨ q = 6 ∨ q = 7 ∨ q = 8) with h | h | h | h | h | h | h | h | h <;> subst h <;> decide
      omega
  · decide
theorem line_nil : lineE [] = 0 ∧ lineN [] = 0 ∧ lineS [] = 0 := by decide +kernel
theorem pre_at (l : List UInt8) (k : Nat) (h : k + 1 < l.length) : P.crlf.isPrefixOf (l.drop k) = (decide (l[k]'(by omega) = 13) && decide (l[k + 1]'h = 10)) := occ2 l k h
end C
set_option maxHeartbeats 8000000 in
set_option maxRecDepth 100000 in
theorem refDecode_any (A : Option Addr) (c : Nat) (l : List UInt8) (w : World) (hn : l.length ≤ 1073741824) (hnc : l.length ≤ c) (hx : Rd w A l.length 1 (bcells l)) :
    Calls Tryz.prog 146 #[.slice A l.length c] w (RetCD w (C.decode l)) := by
  by_cases hl0 : l = []
  · subst hl0
    have HLN := Lib.hid (fun (A' : Option Addr) (c' : Nat) (u : World) => refLine_any A' c' [] u (Nat.zero_le _) (Nat.zero_le _) (Rd.nil u A' 1))
    obtain ⟨e1, e2, e3⟩ := C.line_nil
    have HR : Hid (C.decode [] = .bad 0) := Lib.hid (by
      unfold C.decode
      rw [C.dec_eq, e1, e2, if_pos (.inr rfl)])
    rw [e1, e2, e3] at HLN
    rw [HR.out]
    clear hx HR e1 e2 e3
    have HB0 := Lib.hid ((Below.refl w.heap.size w).alloc (Nat.le_refl _) (.cells #[] 5))
    go_enter Tryz.func146, Tryz.ntmps146
    go_wp2
    go_loopw [6, 7] (fun o a wr => (∃ v, o = v) ∧ a = .int .i64 0 ∧ Below w.heap.size w wr) (fun _ _ _ => 0)
    case atStart => exact ⟨⟨_, rfl⟩, rfl, HB0.out⟩
    case round =>
      clear HB0
      obtain ⟨⟨v, rfl⟩, rfl, hb⟩ := hrel
      have HB := Lib.hid hb
      clear hb
      go_wp2_with (refine (HLN.out _ _ _).mono ?_; rintro e w1 ⟨rfl, rfl⟩)
      all_goals
        refine bodyPost_ret (v := .tuple #[.slice none 0 0, .slice none 0 0, .int .i64 0, .int .i64 0]) (by simp [results, Tryz.results146, go_sem]) rfl ?_
        exact RetCD.bad HB.out rfl
  · have hl1 : 0 < l.length := List.length_pos_iff.2 hl0
    obtain ⟨b, o, rfl, _, _⟩ := hx.2 hl1
    have HCB := Lib.hid (fun (j : Nat) (hj : j < l.length) (u : World) (hu : Below w.heap.size w u) => show u.cell? ⟨b, o + j, none⟩ = some (.int .u8 (l[j]'hj).toNat) from by
      obtain ⟨b', o', e, q⟩ := rd_byte (hx.below hu) j hj
      cases e; exact q)
    have HLN := Lib.hid (fun (k : Nat) (hk : k ≤ l.length) (u : World) (hu : Below w.heap.size w u) => show Calls Tryz.prog 220 #[.slice (some ⟨b, o + k, none⟩) (l.length - k) (c - k)] u (RetP u (.tuple #[.int .i64 (C.lineS (l.drop k)), .int .i64 (C.lineN (l.drop k)), .int .i64 (C.lineE (l.drop k))])) from by
      have hlen : (l.drop k).length = l.length - k := List.length_drop
      have := refLine_any (some ⟨b, o + k, none⟩) (c - k) (l.drop k) u (by omega) (by omega) (by rw [hlen]; exact (hx.below hu).from_ hk)
      rwa [hlen] at this)
    have HLZ := Lib.hid (fun (u : World) => show Calls Tryz.prog 220 #[.slice (some ⟨b, o, none⟩) 0 0] u (RetP u (.tuple #[.int .i64 0, .int .i64 0, .int .i64 0])) from by
      have := refLine_any (some ⟨b, o, none⟩) 0 [] u (Nat.zero_le _) (Nat.zero_le _) (Rd.nil u _ 1)
      obtain ⟨e1, e2, e3⟩ := C.line_nil
      rw [e1, e2, e3] at this
      exact this)
    have HTL := Lib.hid (fun (k : Nat) (hk : k ≤ l.length) (u : World) (hu : Below w.heap.size w u) => show Calls Tryz.prog 221 #[.slice (some ⟨b, o + k, none⟩) (l.length - k) (c - k)] u (RetTail u (l.drop k)) from by
      have hlen : (l.drop k).length = l.length - k := List.length_drop
      have := refTail_any (some ⟨b, o + k, none⟩) (c - k) (l.drop k) u (by omega) (by omega) (by rw [hlen]; exact (hx.below hu).from_ hk)
      rwa [hlen] at this)
    have HTZ := Lib.hid (fun (u : World) => show Calls Tryz.prog 221 #[.slice (some ⟨b, o, none⟩) 0 0] u (RetTail u []) from refTail_any (some ⟨b, o, none⟩) 0 [] u (Nat.zero_le _) (Nat.zero_le _) (Rd.nil u _ 1))
    have HRD := Lib.hid (fun (k m : Nat) (hk : k + m ≤ l.length) (u : World) (hu : Below w.heap.size w u) => show Rd u (some ⟨b, o + k, none⟩) m 1 (bcells ((l.drop k).take m)) from ((hx.below hu).from_ (show k ≤ l.length by omega)).upto (by omega))
    obtain ⟨R, hR⟩ : ∃ R, R = C.decode l := ⟨_, rfl⟩
    have HR := Lib.hid hR
    rw [← hR]
    have HB0 := Lib.hid ((Below.refl w.heap.size w).alloc (Nat.le_refl _) (.cells #[] 5))
    clear hx hR hl0
    go_enter Tryz.func146, Tryz.ntmps146
    go_wp2
    go_loopw [6, 7] (fun ov av wr => ∃ (k : Nat) (Da : Option Addr) (dc : Nat) (data : List UInt8), k ≤ l.length ∧ av = .int .i64 k ∧ ov = .slice Da data.length dc ∧ Row wr w.heap.size 5 1 Da data.length dc (bcells data) ∧ data.length ≤ 65536 ∧ R = C.dec data k (l.drop k) ∧ Below w.heap.size w wr) (fun _ av _ => l.length - (intOf av).toNat)
    case atStart => exact ⟨0, _, 0, [], Nat.zero_le _, rfl, rfl, Row.empty _ _ _ _ _, Nat.zero_le _, HR.out, HB0.out⟩
    case round =>
      clear HB0 HR
      obtain ⟨wo, rfl⟩ : ∃ wo : World, wo = wr := ⟨_, rfl⟩
      obtain ⟨k, Da, dc, data, hk, rfl, rfl, hrow, hdl, hdec, hbel⟩ := hrel
      have HROW := Lib.hid hrow
      have HDEC := Lib.hid hdec
      have HB := Lib.hid hbel
      clear hrow hdec hbel
      by_cases hkc : k = c
      · have hkl : k = l.length := by omega
        have HF : Hid (R = .bad 0) := Lib.hid (by
          rw [HDEC.out, C.dec_eq, List.drop_of_length_le (by omega), C.line_nil.1, C.line_nil.2.1, if_pos (.inr rfl)])
        have e1 : l.length - k = 0 := by omega
        have e2 : c - k = 0 := by omega
        have hck : c = k := hkc.symm
        have hkci : (k : Int) ≤ (c : Int) := by omega
        have hkli : (k : Int) ≤ (l.length : Int) := by omega
        clear hkl hkc HLN HTL HTZ HCB HRD HDEC HROW
        go_wp2_with fail
        refine (HLZ.out _).mono ?_
        rintro e w1 ⟨rfl, rfl⟩
        go_wp2
        refine bodyPost_ret (v := .tuple #[.slice none 0 0, .slice none 0 0, .int .i64 0, .int .i64 0]) (by simp [results, Tryz.results146, go_sem]) rfl ?_
        exact RetCD.bad HB.out HF.out
      · have hck : ¬ c = k := fun h => hkc h.symm
        have hkci : (k : Int) ≤ (c : Int) := by omega
        have hkli : (k : Int) ≤ (l.length : Int) := by omega
        have HK := Lib.hid (HLN.out k hk _ HB.out)
        have hS2 := C.lineN_le (l.drop k)
        have hS9 := C.lineS_le (l.drop k)
        rw [List.length_drop] at hS2
        have hd := HDEC.out
        rw [C.dec_eq] at hd
        simp only [List.drop_drop] at hd
        have HD := Lib.hid hd
        clear hd HDEC
        obtain ⟨S, hS⟩ : ∃ S, C.lineS (l.drop k) = S := ⟨_, rfl⟩
        obtain ⟨N, hN⟩ : ∃ N, C.lineN (l.drop k) = N := ⟨_, rfl⟩
        obtain ⟨E, hE⟩ : ∃ E, C.lineE (l.drop k) = E := ⟨_, rfl⟩
        rw [hS, hN, hE] at HK
        rw [hS, hN, hE] at HD
        rw [hN] at hS2
        rw [hS] at hS9
        clear hS hN hE hkc HLN HLZ
        go_wp2_with fail
        refine HK.out.mono ?_
        rintro e w1 ⟨rfl, hw1⟩
        subst hw1
        clear HK
        by_cases hE0 : E = 0
        · subst hE0
          by_cases hN0 : N = 0
          · subst hN0
            have HF : Hid (R = .bad 0) := Lib.hid (HD.out.trans (if_pos (.inr rfl)))
            clear HD HTL HTZ HCB HRD HROW
            go_wp2
            refine bodyPost_ret (v := .tuple #[.slice none 0 0, .slice none 0 0, .int .i64 0, .int .i64 0]) (by simp [results, Tryz.results146, go_sem]) rfl ?_
            exact RetCD.bad HB.out HF.out
          · have hN0i : ¬ (N : Int) = 0 := by omega
            have hN0b : ((N : Int) == 0) = false := beq_eq_false_iff_ne.2 hN0i
            have HD2 := Lib.hid (HD.out.trans (if_neg (by rintro (h | h); exact h rfl; exact hN0 h)))
            clear HD
            have hkN : k + N ≤ l.length := by omega
            by_cases hS0 : S = 0
            · subst hS0
              have HD3 := Lib.hid (HD2.out.trans (if_pos rfl))
              clear HD2 HCB HRD
              by_cases hNc : k + N = c
              · have HF : Hid (R = .bad 0) := Lib.hid (by
                  rw [HD3.out, List.drop_of_length_le (by omega), C.tail_nil.2.1, C.tail_nil.2.2]
                  exact if_pos (.inr rfl))
                have e1 : l.length - (k + N) = 0 := by omega
                have e2 : c - (k + N) = 0 := by omega
                have hc2 : c = k + N := hNc.symm
                have hki : (k : Int) + (N : Int) ≤ (c : Int) := by omega
                have hkj : (k : Int) + (N : Int) ≤ (l.length : Int) := by omega
                have hkz : ((k : Int) + (N : Int)).toNat = k + N := by omega
                clear HTL HD3 hNc hck HROW
                go_wp2_with fail
                refine (HTZ.out _).mono ?_
                rintro e w1 ⟨TA, tc, rfl, hr, hb⟩
                have HB1 := Lib.hid (below_then HB.out.size HB.out hb)
                obtain ⟨q1, q2, q3⟩ := C.tail_nil
                rw [q1, q2, q3]
                clear hr hb HTZ q1 q2 q3
                go_wp2
                refine bodyPost_ret (v := .tuple #[.slice none 0 0, .slice none 0 0, .int .i64 0, .int .i64 0]) (by simp [results, Tryz.results146, go_sem]) rfl ?_
                exact RetCD.bad HB1.out HF.out
              · have hc2 : ¬ c = k + N := fun h => hNc h.symm
                have hki : (k : Int) + (N : Int) ≤ (c : Int) := by omega
                have hkj : (k : Int) + (N : Int) ≤ (l.length : Int) := by omega
                have hkz : ((k : Int) + (N : Int)).toNat = k + N := by omega
                have HK2 := Lib.hid (HTL.out (k + N) hkN _ HB.out)
                clear HTL HTZ hNc
                go_wp2_with fail
                refine HK2.out.mono ?_
                rintro e w1 ⟨TA, tc, rfl, hr, hb⟩
                have HB1 := Lib.hid (below_then HB.out.size HB.out hb)
                have HROW1 := Lib.hid (HROW.out.below hb)
                have HRT := Lib.hid (hr.mono HB.out.size)
                clear hr hb HK2 HB HROW
                obtain ⟨FS, hFS⟩ : ∃ FS, C.tailF (l.drop (k + N)) = FS := ⟨_, rfl⟩
                obtain ⟨M, hM⟩ : ∃ M, C.tailN (l.drop (k + N)) = M := ⟨_, rfl⟩
                obtain ⟨E2, hE2⟩ : ∃ E2, C.tailE (l.drop (k + N)) = E2 := ⟨_, rfl⟩
                have hMle : E2 = 0 → M ≠ 0 → M ≤ l.length := fun h1 h2 => by
                  have := (C.tail_pos (l := l.drop (k + N)) (by rw [hE2, hM]; rintro (h | h); exact h h1; exact h2 h)).1
                  rw [List.length_drop, hM] at this
                  omega
                rw [hFS, hM, hE2] at HD3
                rw [hFS] at HRT
                rw [hFS, hM, hE2]
                clear hFS hM hE2
                by_cases hE3 : E2 = 0
                · subst hE3
                  by_cases hM0 : M = 0
                  · subst hM0
                    have HF : Hid (R = .bad 0) := Lib.hid (HD3.out.trans (if_pos (.inr rfl)))
                    clear HD3 HRT HROW1
                    go_wp2
                    refine bodyPost_ret (v := .tuple #[.slice none 0 0, .slice none 0 0, .int .i64 0, .int .i64 0]) (by simp [results, Tryz.results146, go_sem]) rfl ?_
                    exact RetCD.bad HB1.out HF.out
                  · have hM9 := hMle rfl hM0
                    clear hMle
                    have hM0b : ((M : Int) == 0) = false := beq_eq_false_iff_ne.2 (by omega)
                    have HF : Hid (R = ⟨data, FS, k + N + M, 0⟩) := Lib.hid (HD3.out.trans (if_neg (by rintro (h | h); exact h rfl; exact hM0 h)))
                    clear HD3
                    go_wp2
                    refine bodyPost_ret (v := .tuple #[.slice Da data.length dc, .slice TA FS.length tc, .int .i64 ((k : Int) + (N : Int) + (M : Int)), .int .i64 0]) (by simp [results, Tryz.results146, go_sem]) rfl ?_
                    rw [HF.out]
                    exact ⟨Da, dc, TA, tc, rfl, HROW1.out, HRT.out, HB1.out⟩
                · have HF : Hid (R = .bad E2) := Lib.hid (HD3.out.trans (if_pos (.inl hE3)))
                  have hEb : (E2 != 0) = true := by simpa using hE3
                  clear HD3 HRT HROW1
                  go_wp2
                  refine bodyPost_ret (v := .tuple #[.slice none 0 0, .slice none 0 0, .int .i64 0, .int .i64 E2]) (by simp [results, Tryz.results146, go_sem]) rfl ?_
                  exact RetCD.bad HB1.out HF.out
            · have hS0i : ¬ (S : Int) = 0 := by omega
              have HD3 := Lib.hid (HD2.out.trans (if_neg hS0))
              clear HD2 HTL HTZ
              by_cases hbig : 65536 < data.length + S
              · have HF : Hid (R = .bad 71) := Lib.hid (HD3.out.trans (if_pos hbig))
                have hbi : (65536 : Int) < (data.length : Int) + (S : Int) := by omega
                clear HD3 HCB HRD HROW
                go_wp2
                refine bodyPost_ret (v := .tuple #[.slice none 0 0, .slice none 0 0, .int .i64 0, .int .i64 71]) (by simp [results, Tryz.results146, go_sem]) rfl ?_
                exact RetCD.bad HB.out HF.out
              · have hbi : ¬ (65536 : Int) < (data.length : Int) + (S : Int) := by omega
                have HD4 := Lib.hid (HD3.out.trans (if_neg hbig))
                clear HD3
                by_cases hsh : l.length < k + N + S + 2
                · have HF : Hid (R = .bad 0) := Lib.hid (HD4.out.trans (if_pos (by rw [List.length_drop]; omega)))
                  have hsi : (l.length : Int) - ((k : Int) + (N : Int)) < (S : Int) + 2 := by omega
                  clear HD4 HCB HRD HROW
                  go_wp2
                  refine bodyPost_ret (v := .tuple #[.slice none 0 0, .slice none 0 0, .int .i64 0, .int .i64 0]) (by simp [results, Tryz.results146, go_sem]) rfl ?_
                  exact RetCD.bad HB.out HF.out
                · have hsi : ¬ (l.length : Int) - ((k : Int) + (N : Int)) < (S : Int) + 2 := by omega
                  have HD5 := Lib.hid (HD4.out.trans (if_neg (by rw [List.length_drop]; omega)))
                  clear HD4
                  obtain ⟨j, hj⟩ : ∃ j, j = k + N + S := ⟨_, rfl⟩
                  have hj1 : j + 1 < l.length := by omega
                  have hpre := C.pre_at l j hj1
                  have q0 := HCB.out j (by omega) _ HB.out
                  have q1 := HCB.out (j + 1) hj1 _ HB.out
                  have hjz : (k : Int) + (N : Int) + (S : Int) = (j : Int) := by omega
                  rw [show k + (N + S) = j by omega, hpre] at HD5
                  have HJ := Lib.hid hj
                  have HJZ := Lib.hid hjz
                  have hjl : (j : Int) < (l.length : Int) := by omega
                  have hjl1 : (j : Int) + 1 < (l.length : Int) := by omega
                  clear hpre HCB
                  generalize l[j]'(by omega) = x at *
                  generalize l[j + 1]'hj1 = y at *
                  clear hj
                  by_cases hx13 : x = 13
                  · have g1a : ((x.toNat : Int) == 13) = true := beqI_true (y := 13) hx13
                    have g1 : ((x.toNat : Int) != 13) = false := by rw [bne, g1a]; rfl
                    by_cases hy10 : y = 10
                    · have g2a : ((y.toNat : Int) == 10) = true := beqI_true (y := 10) hy10
                      have g2 : ((y.toNat : Int) != 10) = false := by rw [bne, g2a]; rfl
                      have HF := Lib.hid (HD5.out.trans (if_neg (by rw [decide_eq_true hx13, decide_eq_true hy10]; decide)))
                      clear HD5 hx13 hy10 g1a g2a
                      have HRS := Lib.hid (HRD.out (k + N) S (by omega) _ HB.out)
                      have hc2 : ¬ c = k + N := by omega
                      have hkz : ((k : Int) + (N : Int)).toNat = k + N := by omega
                      have h63 : data.length + S ≤ 4398046511104 := by omega
                      have hz := HB.out.size
                      have hjc : (j : Int) ≤ (c : Int) := by omega
                      have hlow : (k : Int) + (N : Int) ≤ (j : Int) := by omega
                      have hSj : S = j - (k + N) := by have := HJ.out; omega
                      rw [hSj] at HRS
                      have h63' : data.length + (j - (k + N)) ≤ 4398046511104 := by omega
                      have HSJ := Lib.hid hSj
                      clear HRD hSj
                      go_upto_region 19 with (at_builtin; refine appB _ rfl (.tmp 84) (.tmp 90) rfl w.heap.size Da data.length dc data rfl HROW.out (some ⟨b, o + (k + N), none⟩) (j - (k + N)) (c - (k + N)) ((l.drop (k + N)).take (j - (k + N))) rfl HRS.out h63' hz ?_; intro A3 c3 w3 hr3 ha3; have HR3 := Lib.hid hr3; have HB3 := Lib.hid (HB.out.trans (ha3.below HROW.out hz)); clear hr3 ha3)
                      clear HROW HRS HB q0 q1
                      have hlen : (data ++ (l.drop (k + N)).take S).length = data.length + (j - (k + N)) := by
                        rw [List.length_append, List.length_take, List.length_drop, ← HSJ.out]
                        omega
                      have hr := HR3.out
                      rw [← HSJ.out] at hr
                      have HR4 := Lib.hid hr
                      clear hr HR3
                      go_wp2
                      go_roundw
                      case rel =>
                        refine ⟨k + N + S + 2, A3, c3, data ++ (l.drop (k + N)).take S, by omega, by go_num, ?_, ?_, by rw [hlen]; omega, ?_, HB3.out⟩
                        · rw [hlen]
                        · have := HR4.out
                          rw [List.length_append, List.length_take, List.length_drop, show min S (l.length - (k + N)) = S by omega]
                          exact this
                        · rw [HF.out, show k + (N + S + 2) = k + N + S + 2 by omega]
                      case measure => simp [intOf]; omega
                    · have g2a : ((y.toNat : Int) == 10) = false := beqI_false (y := 10) hy10
                      have g2 : ((y.toNat : Int) != 10) = true := by rw [bne, g2a]; rfl
                      have HF : Hid (R = .bad 70) := Lib.hid (HD5.out.trans (if_pos (by rw [decide_eq_false hy10, Bool.and_false])))
                      clear HD5 hx13 hy10 g1a g2a HRD HROW
                      go_wp2
                      refine bodyPost_ret (v := .tuple #[.slice none 0 0, .slice none 0 0, .int .i64 0, .int .i64 70]) (by simp [results, Tryz.results146, go_sem]) rfl ?_
                      exact RetCD.bad HB.out HF.out
                  · have g1a : ((x.toNat : Int) == 13) = false := beqI_false (y := 13) hx13
                    have g1 : ((x.toNat : Int) != 13) = true := by rw [bne, g1a]; rfl
                    have HF : Hid (R = .bad 70) := Lib.hid (HD5.out.trans (if_pos (by rw [decide_eq_false hx13, Bool.false_and])))
                    clear HD5 hx13 g1a HRD HROW
                    go_wp2
                    refine bodyPost_ret (v := .tuple #[.slice none 0 0, .slice none 0 0, .int .i64 0, .int .i64 70]) (by simp [results, Tryz.results146, go_sem]) rfl ?_
                    exact RetCD.bad HB.out HF.out
        · have HF : Hid (R = .bad E) := Lib.hid (HD.out.trans (if_pos (.inl hE0)))
          have hEb : (E != 0) = true := by simpa using hE0
          clear HD HTL HTZ HCB HRD HROW
          go_wp2
          refine bodyPost_ret (v := .tuple #[.slice none 0 0, .slice none 0 0, .int .i64 0, .int .i64 E]) (by simp [results, Tryz.results146, go_sem]) rfl ?_
          exact RetCD.bad HB.out HF.out
end Go.Proofs.YteehjkfmlcfffaaGreatDoor
