/- strconv.FormatInt at base 16: a number's hexadecimal digits. Conditions: a number from 1 to 1048575; the one cell of math/bits' table that base 16 reads is as the library's text lays it. -/
import Derived.Test.YtnmldbcgpfglkaaGreatDoorChunkV
import Derived.Test.YtnmldbcgpfglkaaGreatDoorLaid
import Derived.Laws.Bits64b
import Derived.Deep.Cut
namespace Go.Proofs.YtnmldbcgpfglkaaGreatDoor
open Go.RowKit

def BruOk (w : World) : Prop := w.cell? ⟨6, 15, none⟩ = some (.int .u8 4)
theorem BruOk.below {w w' : World} (h : BruOk w) (hb : Below w.heap.size w w') : BruOk w' := (hb.cell (p := ⟨6, 15, none⟩) (cell_lt h)).trans h
/-- The table, as the library's text lays it; out of a row's list. -/
def bruTab : List Int := [0, 1, 56, 2, 57, 49, 28, 3, 61, 58, 42, 50, 38, 29, 17, 4, 62, 47, 59, 36, 45, 43, 51, 22, 53, 39, 33, 30, 24, 18, 12, 5, 63, 55, 48, 27, 60, 41, 37, 16, 46, 35, 44, 21, 52, 32, 23, 11, 54, 26, 40, 15, 34, 20, 31, 10, 25, 14, 19, 9, 13, 8, 7, 6]
theorem bru_g : Tryz.prog.globalNamed "math/bits.deBruijn64tab" = some 6 := by kernel_rfl
theorem bru_t : (Tryz.prog.globals[6]?).map (·.type) = some 216 := by kernel_rfl
theorem bru_n : Tryz.prog.cellsOf 216 = 64 := by kernel_rfl
theorem bru_e : Tryz.prog.cellsOf 5 = 1 := by kernel_rfl
theorem bru_ul : Tryz.prog.underlying 216 = some (.array 64 5) := by kernel_rfl
theorem bru_of {W : World} {laid : List (String × DataW Unit)} (h : laidMetH Tryz.prog laid W)
    (hm : laid.filter (fun x => x.1 == "math/bits.deBruijn64tab") = [("math/bits.deBruijn64tab", Rows.laid_math_bits_deBruijn64tab)]) : BruOk W := by
  have h1 := h.filter (fun x => x.1 == "math/bits.deBruijn64tab")
  rw [hm] at h1
  have h2 : Lib.TabIs Tryz.prog W "math/bits.deBruijn64tab" .u8 bruTab := Lib.tabIs_of_head (rest := []) bru_g bru_t bru_ul Tryz.underlying5 bru_e bru_n h1
  have h3 := World.var?_cell bru_g h2 15
  exact h3
theorem tz16_key : IntKind.u64.wrap (bits BinOp.and IntKind.u64 16 (IntKind.u64.wrap (-16)) * 285870213051353865) / 288230376151711744 = 15 := by decide +kernel
theorem tz64_16 (w : World) (h : BruOk w) : Calls Tryz.prog 202 #[.int .u64 16] w (RetP w (.int .i64 4)) := by
  unfold BruOk at h
  have key := tz16_key
  go_enter Tryz.func202, Tryz.ntmps202
  go_wp2_with (simp only [key])
  go_ret
  exact ⟨rfl, rfl⟩
theorem tz_16 (w : World) (h : BruOk w) : Calls Tryz.prog 174 #[.int .u64 16] w (RetP w (.int .i64 4)) := by
  have HK := Lib.hid (tz64_16 w h)
  clear h
  go_enter Tryz.func174, Tryz.ntmps174
  go_wp2_with fail
  refine HK.out.mono ?_
  rintro e w1 ⟨rfl, rfl⟩
  go_wp2
  go_ret
  exact ⟨rfl, rfl⟩
theorem pow2_key : bits BinOp.and IntKind.i64 16 15 = 0 := by decide +kernel
theorem pow2_16 (w : World) : Calls Tryz.prog 173 #[.int .i64 16] w (RetP w (.bool true)) := by
  have key := pow2_key
  go_enter Tryz.func173, Tryz.ntmps173
  go_wp2_with (simp only [key])
  go_ret
  exact ⟨rfl, rfl⟩

/-- The digits stand at the array's end. -/
def HexBlk (u : World) (b : Nat) (ds : List UInt8) : Prop := ds.length ≤ 65 ∧ ∃ cs : Array Value, Blk u b cs 179 ∧ cs.size = 65 ∧ ∀ j v, (bcells ds)[j]? = some v → cs[65 - ds.length + j]? = some v
theorem HexBlk.push {u : World} {b : Nat} {ds : List UInt8} (h : HexBlk u b ds) (hl : ds.length < 65) (d : UInt8) : HexBlk (u.setCell ⟨b, 64 - ds.length, none⟩ (.int .u8 d.toNat)) b (d :: ds) := by
  obtain ⟨_, cs, hk, hs, hc⟩ := h
  refine ⟨hl, _, hk.set _ _, by rw [Array.size_setIfInBounds, hs], fun j v hj => ?_⟩
  rw [List.length_cons, show 65 - (ds.length + 1) = 64 - ds.length by omega]
  cases j with
  | zero =>
    simp only [bcells, List.map_cons, List.getElem?_cons_zero, Option.some.injEq] at hj
    subst hj
    rw [Nat.add_zero, Array.getElem?_setIfInBounds_self_of_lt (by omega)]
  | succ j =>
    have hj2 : (bcells ds)[j]? = some v := by simpa [bcells] using hj
    rw [Array.getElem?_setIfInBounds_ne (by omega), show 64 - ds.length + (j + 1) = 65 - ds.length + j by omega]
    exact hc j v hj2
theorem HexBlk.cell {u : World} {b : Nat} {ds : List UInt8} (h : HexBlk u b ds) (i : Nat) (hi : i < 65) : ∃ v, u.cell? ⟨b, i, none⟩ = some v ∧ u.frozen? ⟨b, i, none⟩ = false := by
  obtain ⟨_, cs, hk, hs, _⟩ := h
  exact ⟨cs[i], hk.cell i (Array.getElem?_eq_getElem (by omega)), hk.free i⟩
theorem HexBlk.rd {u : World} {b : Nat} {ds : List UInt8} (h : HexBlk u b ds) : Rd u (some ⟨b, 65 - ds.length, none⟩) ds.length 1 (bcells ds) := by
  obtain ⟨_, cs, hk, hs, hc⟩ := h
  exact ⟨by simp [bcells], fun _ => ⟨b, 65 - ds.length, rfl, hk.lt, fun j v hj => hk.cell _ (hc j v hj)⟩⟩
theorem HexBlk.size {u : World} {b : Nat} {ds : List UInt8} (h : HexBlk u b ds) : ∃ cs : Array Value, u.heap[b]? = some (.cells cs 179 (0, 0)) ∧ cs.size = 65 := by
  obtain ⟨_, cs, hk, hs, _⟩ := h
  exact ⟨cs, hk, hs⟩
def digits36 : ByteArray := ⟨#[48, 49, 50, 51, 52, 53, 54, 55, 56, 57, 97, 98, 99, 100, 101, 102, 103, 104, 105, 106, 107, 108, 109, 110, 111, 112, 113, 114, 115, 116, 117, 118, 119, 120, 121, 122]⟩
theorem digit36_at : ∀ k : Fin 16, digits36[k.1]'(by have := k.2; have h : digits36.size = 36 := rfl; omega) = C.dig16 k.1 := by decide +kernel
theorem and15 (x : Nat) (h : x < 18446744073709551616) : bits BinOp.and IntKind.u64 (x : Int) 15 = ((x % 16 : Nat) : Int) := by
  have := bits_and_u64_nat x 15 h (by omega)
  rw [show ((15 : Nat) : Int) = 15 from rfl] at this
  rw [this, show (15 : Nat) = 2 ^ 4 - 1 from rfl, Nat.and_two_pow_sub_one_eq_mod]
theorem slice65 (b j : Nat) (hj : j < 65) (W : World) : (Instr.sliceAt 179 (.pointer (some ⟨b, 0, none⟩)) (some (.int .i64 (j : Int))) none none).run Tryz.prog W = .ok (.slice (some ⟨b, j, none⟩) (65 - j) (65 - j)) W := by
  have hl : Tryz.prog.arrayLen 179 = 65 := by kernel_rfl
  have hs : (sizeOf (Tryz.prog.elem 179)).run Tryz.prog W = .ok 1 W := by kernel_rfl
  rw [run_sliceAt_array_l W 179 ⟨b, 0, none⟩ (by kernel_rfl) .i64 (j : Int) (by omega) (by rw [hl]; omega), hl, hs]
  have hne : ¬ 65 = j := by omega
  simp only [slicedAt, Result.andThen, Int.toNat_natCast, if_neg hne, Nat.mul_one]
  have ha : (⟨b, 0, none⟩ : Addr).add j = ⟨b, j, none⟩ := by unfold Addr.add; split <;> simp_all
  rw [ha]
theorem shr4 (x : Nat) (W : World) : (binOp .shr 127 (.int .u64 (x : Int)) (.int .u64 4)).run Tryz.prog W = .ok (.int .u64 ((x / 16 : Nat) : Int)) W := by
  rw [binOp_shr, shift_shr .u64 .u64 (x : Int) 4 (by decide) (by decide)]
  have : (x : Int) / 2 ^ (4 : Int).toNat = ((x / 16 : Nat) : Int) := by
    rw [show (2 : Int) ^ (4 : Int).toNat = 16 from rfl]
    omega
  rw [this]
  rfl

set_option maxHeartbeats 2000000 in
set_option maxRecDepth 100000 in
theorem formatBits_any (n : Nat) (hn : 0 < n) (hn2 : n ≤ 1048575) (w : World) (h : BruOk w) :
    Calls Tryz.prog 135 #[.slice none 0 0, .int .u64 n, .int .i64 16, .bool false, .bool false] w (fun e w' => e = .returned (.tuple #[.slice none 0 0, .string (B (C.hexT n))]) ∧ Below w.heap.size w w') := by
  have hlen := (C.hexT_facts 5 n (by have : (16 : Nat) ^ 5 = 1048576 := rfl; omega)).2.2
  have HP := Lib.hid (fun u => pow2_16 u)
  have HT := Lib.hid (fun (u : World) (hb : Below w.heap.size w u) => tz_16 u (h.below hb))
  obtain ⟨H, hH⟩ : ∃ H, C.hexT n = H := ⟨_, rfl⟩
  have HH := Lib.hid hH
  rw [hH] at hlen ⊢
  clear hH h
  go_enter Tryz.func135, Tryz.ntmps135
  go_wp2_with (first | (refine (HP.out _).mono ?_; rintro e w1 ⟨rfl, rfl⟩) | (refine (HT.out _ ((Below.refl _ _).alloc (Nat.le_refl _) _)).mono ?_; rintro e w1 ⟨rfl, rfl⟩))
  have HB0 := Lib.hid ((Below.refl w.heap.size w).alloc (Nat.le_refl _) (.cells Tryz.zeroCells179 179))
  have HX0 : Hid (HexBlk (w.alloc (.cells Tryz.zeroCells179 179)) w.heap.size []) := Lib.hid ⟨Nat.zero_le _, _, Blk.new w _ _, by kernel_rfl, fun j v h => by simp [bcells] at h⟩
  generalize w.alloc (.cells Tryz.zeroCells179 179) = w0 at *
  clear HP HT
  go_loopw [1, 13] (fun vu vi wr => ∃ (x i : Nat) (ds : List UInt8), 0 < x ∧ x ≤ n ∧ vu = .int .u64 x ∧ vi = .int .i64 i ∧ Hid (i + ds.length = 65) ∧ 59 < i ∧ i ≤ 65 ∧ H = C.hexT x ++ ds ∧ HexBlk wr w.heap.size ds ∧ Below w.heap.size w wr) (fun vu _ _ => (intOf vu).toNat)
  case atStart => exact ⟨n, 65, [], hn, Nat.le_refl _, rfl, rfl, Lib.hid rfl, by omega, by omega, by rw [List.append_nil, HH.out], HX0.out, HB0.out⟩
  case round =>
    clear HX0 HB0 HH
    obtain ⟨x, i, ds, hx0, hxn, rfl, rfl, HI, hi1, hi2, hho, hxb, hb⟩ := hrel
    have HO := Lib.hid hho
    have HXB := Lib.hid hxb
    have HB := Lib.hid hb
    clear hho hxb hb
    have hdl : ds.length ≤ 5 := by
      have := congrArg List.length HO.out
      rw [List.length_append] at this
      omega
    have hne : (C.hexT x).length ≠ 0 := by
      have := C.hexT_ne (n := x) (by omega)
      intro h
      exact this (List.eq_nil_of_length_eq_zero h)
    obtain ⟨j, rfl⟩ : ∃ j, i = j + 1 := ⟨i - 1, by omega⟩
    obtain ⟨v, hcell, hfrz⟩ := HXB.out.cell j (by omega)
    have hpos := C.hexT_pos (n := x) (by omega)
    have HD := Lib.hid (and15 x (by omega))
    have HM := Lib.hid (digit36_at ⟨x % 16, Nat.mod_lt _ (by decide)⟩)
    have hm : x % 16 < 16 := Nat.mod_lt _ (by decide)
    have hq : (x : Int) / 16 = ((x / 16 : Nat) : Int) := by omega
    by_cases hx : 16 ≤ x
    · have hxi : (16 : Int) ≤ (x : Int) := by omega
      have hand := HD.out
      have hml : x % 16 ≤ 15 := by omega
      have HPU := Lib.hid (HXB.out.push (by omega) (C.dig16 (x % 16)))
      have hw0 : 64 - ds.length = j := by have := HI.out; omega
      rw [hw0] at HPU
      have HB2 := Lib.hid (below_set HB.out (Nat.le_refl _) j (.int .u8 (C.dig16 (x % 16)).toNat))
      have HO2 : Hid (H = C.hexT (x / 16) ++ (C.dig16 (x % 16) :: ds)) := Lib.hid (by rw [HO.out, hpos, List.append_assoc]; rfl)
      have HI2 : Hid (j + (C.dig16 (x % 16) :: ds).length = 65) := Lib.hid (by rw [List.length_cons]; have := HI.out; omega)
      have hd3 : 59 < j := by
        have h1 := congrArg List.length HO2.out
        have h2 := HI2.out
        rw [List.length_append] at h1
        omega
      have hd0 : 0 < x / 16 := by omega
      have hd1 : x / 16 ≤ n := by omega
      have hd2 : x / 16 < x := by omega
      go_upto_region 14 with fail
      have hdg := HM.out
      unfold digits36 at hdg
      simp only [hdg]
      generalize wr.setCell ⟨w.heap.size, j, none⟩ (.int .u8 (C.dig16 (x % 16)).toNat) = w3 at *
      clear hcell hfrz hdg hpos hne HD HM hand HXB HB HO HI
      generalize x % 16 = m at *
      have hshr := shr4 x
      generalize x / 16 = q at *
      go_wp2
      simp [go_sem]
      go_wp2
      exact ⟨⟨q, hd0, hd1, rfl, j, rfl, C.dig16 m :: ds, HI2, hd3, by omega, HO2.out, HPU.out, HB2.out⟩, by simp [intOf]; omega⟩
    · have hxi : ¬ (16 : Int) ≤ (x : Int) := by omega
      have hsl := slice65 w.heap.size j (by omega)
      have HPU := Lib.hid (HXB.out.push (by omega) (C.dig16 x))
      have hw0 : 64 - ds.length = j := by have := HI.out; omega
      rw [hw0] at HPU
      have HB2 := Lib.hid (below_set HB.out (Nat.le_refl _) j (.int .u8 (C.dig16 x).toNat))
      have hxm : x % 16 = x := Nat.mod_eq_of_lt (by omega)
      have HO2 : Hid (H = C.dig16 x :: ds) := Lib.hid (by
        rw [HO.out, hpos, hxm, Nat.div_eq_of_lt (by omega), C.hexT_zero]; rfl)
      have HM2 : Hid (digits36[x]'(by have h : digits36.size = 36 := rfl; omega) = C.dig16 x) := Lib.hid (digit36_at ⟨x, by omega⟩)
      have hcv : ∀ c, (convert 22 9 (.slice (some ⟨w.heap.size, j, none⟩) (65 - j) c)).run Tryz.prog (wr.setCell ⟨w.heap.size, j, none⟩ (.int .u8 (C.dig16 x).toNat)) = .ok (.string (B (C.dig16 x :: ds))) (wr.setCell ⟨w.heap.size, j, none⟩ (.int .u8 (C.dig16 x).toNat)) := fun c => by
        have hr := HPU.out.rd
        have hi := HI.out
        rw [List.length_cons, show 65 - (ds.length + 1) = j by omega, show ds.length + 1 = 65 - j by omega] at hr
        exact conv_bs hr c
      go_upto_region 25 with fail
      have hdg := HM2.out
      unfold digits36 at hdg
      simp only [hdg]
      generalize wr.setCell ⟨w.heap.size, j, none⟩ (.int .u8 (C.dig16 x).toNat) = w3 at *
      clear hcell hfrz hdg hpos hne HD HM HM2 HXB HB HO HI HPU
      go_wp2
      refine bodyPost_ret (v := .tuple #[.slice none 0 0, .string (B (C.dig16 x :: ds))]) (by simp [results, Tryz.results135, go_sem]) rfl ?_
      exact ⟨by rw [HO2.out], HB2.out⟩
set_option maxRecDepth 100000 in
theorem innerFormatInt16_any (n : Nat) (hn : 0 < n) (hn2 : n ≤ 1048575) (w : World) (h : BruOk w) :
    Calls Tryz.prog 87 #[.int .i64 n, .int .i64 16] w (RetS w (B (C.hexT n))) := by
  have HF := Lib.hid (formatBits_any n hn hn2 w h)
  clear h
  go_enter Tryz.func87, Tryz.ntmps87
  go_wp2_with fail
  refine HF.out.mono ?_
  rintro e w1 ⟨rfl, hb⟩
  have HB := Lib.hid hb
  clear hb HF
  go_wp2
  go_ret
  exact ⟨rfl, HB.out⟩
theorem formatInt16_any (n : Nat) (hn : 0 < n) (hn2 : n ≤ 1048575) (w : World) (h : BruOk w) :
    Calls Tryz.prog 45 #[.int .i64 n, .int .i64 16] w (RetS w (B (C.hexT n))) := by
  have HF := Lib.hid (innerFormatInt16_any n hn hn2 w h)
  clear h
  go_enter Tryz.func45, Tryz.ntmps45
  go_wp2_with fail
  refine HF.out.mono ?_
  rintro e w1 ⟨rfl, hb⟩
  have HB := Lib.hid hb
  clear hb HF
  go_wp2
  go_ret
  exact ⟨rfl, HB.out⟩
end Go.Proofs.YtnmldbcgpfglkaaGreatDoor
