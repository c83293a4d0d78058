/- strconv.ParseUint at base 16 and 32 bits, a text of at most eight bytes: the number, or an error. -/
import Derived.Test.YtnmldbcgpfglkaaGreatDoorAtoi
import Derived.Test.YtnmldbcgpfglkaaGreatDoorChunkP
import Derived.Lib.AtoiAllMem
namespace Go.Proofs.YtnmldbcgpfglkaaGreatDoor
open Go.RowKit

namespace C
/-- The text spells a number. -/
def okH (l : List UInt8) : Bool := !l.isEmpty && l.all isHex
theorem val_snoc (l : List UInt8) (c : UInt8) : val (l ++ [c]) = val l * 16 + hex c := by
  unfold val
  rw [List.foldl_append]
  rfl
/-- What internal/strconv.lower answers. -/
def lw (c : UInt8) : Int := bits .or .u8 c.toNat 32
def kindOf (c : UInt8) : Bool :=
  if 48 ≤ c.toNat ∧ c.toNat ≤ 57 then decide (hex c = (c.toNat : Int) - 48) else
  if 97 ≤ lw c ∧ lw c ≤ 102 then decide (hex c = lw c - 87) && c != 95 else
  decide (hex c = -1) && decide (0 ≤ lw c) && decide (lw c < 256) && (c != 95 || decide (lw c = 127))
theorem kind_all : ∀ n : Fin 256, kindOf (UInt8.ofNat n.1) = true := by decide +kernel
theorem kind (c : UInt8) : (48 ≤ c.toNat ∧ c.toNat ≤ 57 ∧ hex c = (c.toNat : Int) - 48) ∨ (¬ (48 ≤ c.toNat ∧ c.toNat ≤ 57) ∧ c.toNat ≠ 95 ∧ 97 ≤ lw c ∧ lw c ≤ 102 ∧ hex c = lw c - 87) ∨ (¬ (48 ≤ c.toNat ∧ c.toNat ≤ 57) ∧ hex c = -1 ∧ 0 ≤ lw c ∧ lw c < 256 ∧ (lw c < 97 ∨ 103 ≤ lw c) ∧ (c.toNat = 95 → lw c = 127)) := by
  have h := kind_all ⟨c.toNat, c.toNat_lt⟩
  simp only [UInt8.ofNat_toNat] at h
  unfold kindOf at h
  split at h
  · rename_i h1
    exact .inl ⟨h1.1, h1.2, of_decide_eq_true h⟩
  · rename_i h1
    split at h
    · rename_i h2
      rw [Bool.and_eq_true, decide_eq_true_eq] at h
      refine .inr (.inl ⟨h1, fun h3 => ?_, h2.1, h2.2, h.1⟩)
      have h4 : c = 95 := UInt8.toNat_inj.1 h3
      rw [h4] at h
      exact absurd h.2 (by decide)
    · rename_i h2
      simp only [Bool.and_eq_true, decide_eq_true_eq, Bool.or_eq_true] at h
      refine .inr (.inr ⟨h1, h.1.1.1, h.1.1.2, h.1.2, by omega, fun h3 => ?_⟩)
      have h4 : c = 95 := UInt8.toNat_inj.1 h3
      rcases h.2 with h5 | h5
      · rw [h4] at h5
        exact absurd h5 (by decide)
      · exact h5
theorem hex_lo (c : UInt8) : -1 ≤ hex c ∧ hex c ≤ 15 := by
  rcases kind c with ⟨_, _, h⟩ | ⟨_, _, _, _, h⟩ | ⟨_, h, _⟩ <;> omega
theorem isHex_iff (c : UInt8) : isHex c = true ↔ 0 ≤ hex c := by unfold isHex; exact decide_eq_true_iff
theorem isHex_no {c : UInt8} (h : hex c = -1) : isHex c = false := by unfold isHex; rw [h]; rfl
theorem val_bound (l : List UInt8) (h : l.all isHex = true) : 0 ≤ val l ∧ val l < 16 ^ l.length := by
  have hgen : ∀ (k : Nat) (l : List UInt8), l.length = k → l.all isHex = true → 0 ≤ val l ∧ val l < 16 ^ l.length := by
    intro k
    induction k with
    | zero =>
      intro l hl _
      have : l = [] := List.eq_nil_of_length_eq_zero hl
      subst this
      exact ⟨by decide, by decide⟩
    | succ k ih =>
      intro l hl ha
      have hne : l ≠ [] := fun e => by rw [e] at hl; cases hl
      have e := (List.dropLast_concat_getLast hne).symm
      have hdl : l.dropLast.length = k := by rw [List.length_dropLast]; omega
      generalize l.dropLast = a at *
      generalize l.getLast hne = c at *
      subst e
      rw [List.all_append, Bool.and_eq_true] at ha
      obtain ⟨h1, h2⟩ := ih a hdl ha.1
      have hc : 0 ≤ hex c := (isHex_iff c).1 (by simpa using ha.2)
      have hc2 := (hex_lo c).2
      rw [val_snoc, hl, hdl, Int.pow_succ] at *
      omega
  exact hgen _ l rfl h
end C

theorem lowerH_any (c : UInt8) (w : World) : Calls Tryz.prog 215 #[.int .u8 c.toNat] w (RetP w (.int .u8 (C.lw c))) := by
  refine (Tryz.internal_strconv_lower c.toNat w).mono ?_
  rintro e w' ⟨rfl, rfl⟩
  exact ⟨rfl, rfl⟩

/-- A number and an error of the inner package, answered. -/
def RetH (w : World) (l : List UInt8) (e : Ending) (w' : World) : Prop :=
  e = .returned (.tuple #[.int .u64 (if C.okH l then C.val l else 0), if C.okH l then .nilIface else .iface 182 (.int .i64 2)]) ∧ Below w.heap.size w w'

set_option maxHeartbeats 8000000 in
set_option maxRecDepth 100000 in
theorem parseHexIn_any (t : ByteArray) (w : World) (hs : t.size ≤ 8) : Calls Tryz.prog 198 #[.string t, .int .i64 16, .int .i64 32] w (RetH w (L t)) := by
  have hmv : IntKind.u64.wrap (IntKind.u64.wrap 4294967296 - 1) = 4294967295 := by
    rw [IntKind.wrap_u64, IntKind.wrap_u64]
    decide
  by_cases hz : t.size = 0
  · obtain rfl : t = ⟨#[]⟩ := ByteArray.ext (Array.eq_empty_of_size_eq_zero hz)
    go_enter Tryz.func198, Tryz.ntmps198
    go_wp2
    go_ret2
    exact ⟨rfl, Below.refl _ _⟩
  · have hemp : t.toList.isEmpty = false := by
      rw [← decide_eq_emptyBytes]
      exact decide_eq_false (fun h => hz (by rw [h]; rfl))
    have hcv := Lib.run_convert_string_bytes (P := Tryz.prog) w 9 22 5 t (u := .string) Tryz.underlying9 Tryz.underlying22 Tryz.underlying5
    have hB : ∀ j, j < t.size → (Lib.bytesWorld w 5 t).cell? ⟨w.heap.size, j, none⟩ = some (.int .u8 (t.data.toList.getD j 0).toNat) := fun j hj => Lib.bytesWorld_cell w 5 t j hj
    have HBl := Lib.hid (Lib.bytesWorld_below w 5 t)
    obtain ⟨W1, hW1⟩ : ∃ W1, W1 = Lib.bytesWorld w 5 t := ⟨_, rfl⟩
    rw [← hW1] at hcv hB HBl
    clear hW1
    obtain ⟨bs, hL⟩ : ∃ bs, bs = t.data.toList := ⟨_, rfl⟩
    have hLn : bs.length = t.size := by rw [hL, Lib.size_eq]
    have hLL : L t = bs := hL.symm
    rw [← hL] at hB
    rw [hLL]
    clear hL hLL
    go_enter Tryz.func198, Tryz.ntmps198
    go_wp2
    go_loop [12, 13, 101] (fun vu vn vi => ∃ (k : Nat) (a : Int), vu = .bool false ∧ vn = .int .u64 a ∧ vi = .int .i64 k ∧ k ≤ t.size ∧ Hid (a = C.val (bs.take k) ∧ (bs.take k).all C.isHex = true))
      (fun _ _ vi => t.size - (intOf vi).toNat)
    case atStart => exact ⟨0, 0, rfl, rfl, rfl, by omega, rfl, rfl⟩
    case round =>
      obtain ⟨k, a, rfl, rfl, rfl, hk, hh⟩ := hrel
      obtain ⟨ha, hall⟩ := hh.out
      clear hh
      by_cases hkn : k < t.size
      · have hc := hB k hkn
        have hget : bs.getD k 0 = bs[k]'(by omega) := by simp [List.getD, List.getElem?_eq_getElem (show k < bs.length by omega)]
        have htk : bs.take (k + 1) = bs.take k ++ [bs[k]'(by omega)] := (List.take_append_getElem (by omega)).symm
        have hno : C.isHex (bs[k]'(by omega)) = false → C.okH bs = false := fun h => by
          unfold C.okH
          rw [show bs.all C.isHex = false from ?_, Bool.and_false]
          rw [← Bool.not_eq_true, List.all_eq_true]
          exact fun h2 => by rw [h2 _ (List.getElem_mem (show k < bs.length by omega))] at h; cases h
        rw [hget] at hc
        obtain ⟨hv0, hv1⟩ := C.val_bound _ hall
        have hpow : (16 : Int) ^ (bs.take k).length ≤ 268435456 := by
          have h1 : (bs.take k).length ≤ 7 := by rw [List.length_take]; omega
          generalize (bs.take k).length = q at h1
          rcases (by omega : q = 0 ∨ q = 1 ∨ q = 2 ∨ q = 3 ∨ q = 4 ∨ q = 5 ∨ q = 6 ∨ q = 7) with h | h | h | h | h | h | h | h <;> subst h <;> decide
        rw [← ha] at hv0 hv1
        have a1 : a < 268435456 := by omega
        generalize bs[k]'(by omega) = c at hc htk hno
        have hc256 : c.toNat < 256 := c.toNat_lt
        have HB := Lib.hid hB
        have HK := Lib.hid (lowerH_any c)
        have HA := Lib.hid ha
        clear hB hget hpow hv1 ha
        rcases C.kind c with ⟨k1, k2, k3⟩ | ⟨k1, k2, k3, k4, k5⟩ | ⟨k1, k2, k3, k4, k5, k6⟩
        · have HN : Hid (a * 16 + ((c.toNat : Int) - 48) = C.val (bs.take (k + 1)) ∧ (bs.take (k + 1)).all C.isHex = true) := Lib.hid ⟨by rw [htk, C.val_snoc, ← HA.out, k3], by rw [htk, List.all_append, hall]; simp [C.isHex_iff]; omega⟩
          clear hall htk hno HA HK
          go_wp2
          exact ⟨⟨k + 1, _, rfl, rfl, (by first | rfl | (congr 1; omega)), by omega, HN⟩, by simp [intOf]; omega⟩
        · have HN : Hid (a * 16 + (C.lw c - 97 + 10) = C.val (bs.take (k + 1)) ∧ (bs.take (k + 1)).all C.isHex = true) := Lib.hid ⟨by rw [htk, C.val_snoc, ← HA.out, k5]; omega, by rw [htk, List.all_append, hall]; simp [C.isHex_iff]; omega⟩
          clear hall htk hno HA
          generalize C.lw c = q at *
          go_wp2_with (refine (HK.out _).mono ?_; rintro e w' ⟨rfl, rfl⟩)
          all_goals exact ⟨⟨k + 1, _, rfl, rfl, (by first | rfl | (congr 1; omega)), by omega, HN⟩, by simp [intOf]; omega⟩
        · have HF := Lib.hid (hno (C.isHex_no k2))
          clear hno htk hall
          generalize C.lw c = q at *
          by_cases h95 : c.toNat = 95
          · obtain rfl := k6 h95
            rw [h95] at HK hc
            clear k6 k5 k4 k3 k1 k2 h95
            go_wp2_with (refine (HK.out _).mono ?_; rintro e w' ⟨rfl, rfl⟩)
            go_ret2
            exact ⟨by rw [HF.out]; rfl, HBl.out⟩
          · clear k6
            rcases k5 with k5 | k5
            · go_wp2_with (refine (HK.out _).mono ?_; rintro e w' ⟨rfl, rfl⟩)
              all_goals go_ret2
              all_goals exact ⟨by rw [HF.out]; rfl, HBl.out⟩
            · go_wp2_with (refine (HK.out _).mono ?_; rintro e w' ⟨rfl, rfl⟩)
              all_goals go_ret2
              all_goals exact ⟨by rw [HF.out]; rfl, HBl.out⟩
      · obtain rfl : k = t.size := by omega
        have HF : Hid (C.okH bs = true ∧ a = C.val bs) := by
          rw [List.take_of_length_le (by omega)] at ha hall
          refine Lib.hid ⟨?_, ha⟩
          unfold C.okH
          rw [hall, Bool.and_true]
          cases bs with
          | nil => simp at hLn; omega
          | cons x r => rfl
        have ha0 : 0 ≤ a := by
          rw [ha]
          exact (C.val_bound _ hall).1
        clear ha hall hB
        go_wp2
        go_ret2
        refine ⟨?_, HBl.out⟩
        rw [HF.out.1, ← HF.out.2]
        rfl

/-- A number and an error, answered. -/
def RetN (w : World) (l : List UInt8) (e : Ending) (w' : World) : Prop :=
  ∃ b, e = .returned (.tuple #[.int .u64 (if C.okH l then C.val l else 0), b]) ∧ ((C.okH l = true ∧ b = .nilIface) ∨ (C.okH l = false ∧ ∃ t p, b = .iface t (.pointer p))) ∧ Below w.heap.size w w'
theorem toErr_any (s : ByteArray) (w : World) (hs : s.size ≤ 8) (h : ErrOk w) : Calls Tryz.prog 141 #[.string ⟨#[80, 97, 114, 115, 101, 85, 105, 110, 116]⟩, .string s, .int .i64 16, .int .i64 32, .iface 182 (.int .i64 2)] w fun e w' => ∃ t p, e = .returned (.iface t (.pointer p)) ∧ Below w.heap.size w w' := by
  obtain ⟨⟨t1, p1, h1⟩, _⟩ := h
  refine (Any.strconv_toError_syntax Tryz.laysC245 ⟨#[80, 97, 114, 115, 101, 85, 105, 110, 116]⟩ s 16 32 _ w (by omega) h1 (.inr ⟨_, _, rfl⟩)).mono ?_
  rintro e w' ⟨N, rfl, _, _, hb⟩
  exact ⟨_, _, rfl, hb⟩
set_option maxHeartbeats 2000000 in
set_option maxRecDepth 100000 in
theorem parseHex_any (t : ByteArray) (w : World) (hs : t.size ≤ 8) (h : ErrOk w) : Calls Tryz.prog 164 #[.string t, .int .i64 16, .int .i64 32] w (RetN w (L t)) := by
  have HK := Lib.hid (parseHexIn_any t w hs)
  have HE := Lib.hid (fun (u : World) (hu : Below w.heap.size w u) => toErr_any t u hs (h.below hu))
  clear h
  go_enter Tryz.func164, Tryz.ntmps164
  by_cases hok : C.okH (L t) = true
  · go_wp2_with fail
    refine HK.out.mono ?_
    rintro e w1 ⟨rfl, hb1⟩
    rw [if_pos hok, if_pos hok]
    go_wp2
    go_ret2
    refine ⟨.nilIface, ?_, .inl ⟨hok, rfl⟩, hb1⟩
    rw [if_pos hok]
    rfl
  · rw [Bool.not_eq_true] at hok
    have hok2 : ¬ C.okH (L t) = true := by rw [hok]; decide
    have HOK := Lib.hid hok
    have HOK2 := Lib.hid hok2
    clear hok hok2
    go_wp2_with fail
    refine HK.out.mono ?_
    rintro e w1 ⟨rfl, hb1⟩
    rw [if_neg HOK2.out, if_neg HOK2.out]
    go_wp2_with fail
    refine (HE.out w1 hb1).mono ?_
    rintro e w2 ⟨ty, p, rfl, hb2⟩
    have HB := Lib.hid (below_then hb1.size hb1 hb2)
    clear hb1 hb2
    go_wp2
    go_ret2
    refine ⟨.iface ty (.pointer p), ?_, .inr ⟨HOK.out, _, _, rfl⟩, HB.out⟩
    rw [if_neg HOK2.out]
    rfl
end Go.Proofs.YtnmldbcgpfglkaaGreatDoor
