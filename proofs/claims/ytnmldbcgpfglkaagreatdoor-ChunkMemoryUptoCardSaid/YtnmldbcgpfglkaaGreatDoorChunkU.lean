/- The walk of chunk.Encode. Conditions: data of at most 2^30 bytes, fields of bulk at most 2^30; the one cell of math/bits' table that base 16 reads is as the library's text lays it. -/
import Derived.Test.YtnmldbcgpfglkaaGreatDoorHexFmt
import Derived.Deep.DeepCutAuto
namespace Go.Proofs.YtnmldbcgpfglkaaGreatDoor
open Go.RowKit

set_option maxHeartbeats 1000000 in
set_option maxRecDepth 100000 in
/-- (*bytes.Buffer).Write of no byte. -/
theorem write0_any (B b : Nat) (bs : List Value) (S : Option Addr) (c : Nat) (w : World) (h : Lib.IsBuffer 77 5 B b bs w) :
    Calls Tryz.prog 46 #[.pointer (some ⟨b, 0, none⟩), .slice S 0 c] w fun e w' => e = .returned (.tuple #[.int .i64 0, .nilIface]) ∧ Lib.IsBuffer 77 5 B b bs w' ∧ Below B w w' := by
  obtain ⟨hB, v0, lr, hbk, -, -⟩ := id h
  have c2 : w.cell? ⟨b, 2, none⟩ = some (.int .i8 lr) := by rw [Lib.cell_of_heap hbk]; rfl
  have f2 : w.frozen? ⟨b, 2, none⟩ = false := Lib.frozen_of_heap hbk 2
  have h' := h.setLast 0
  have hbel0 : Below B w (w.setCell ⟨b, 2, none⟩ (.int .i8 0)) := (Below.refl B w).setCell (p := ⟨b, 2, none⟩) hB _
  clear hbk v0
  obtain ⟨i0, hi0, hz0, hz1, hz2⟩ := info_parts Tryz.infoB
  have hinfo : (Tryz.prog.info? 5).map (·.size) = some 1 := by rw [hi0]; simp [hz1]
  have hce : ∀ d dLen dCap W, (Builtin.copy_ #[22, 22] 3 #[.slice d dLen dCap, .slice S 0 c]).run Tryz.prog W = .ok (goInt 0) W := fun d dLen dCap W => run_copy_none W 22 22 3 5 d S dLen dCap 0 c Tryz.underlying22 hinfo (by simp)
  have hT := Tryz.Buffer_tryGrow_own B b 0 bs _ h'
  go_enter Tryz.func46, Tryz.ntmps46
  go_wp2_with fail
  refine hT.mono ?_
  rintro e W1 (⟨rfl, xs, hxl, hI, hbel, hk, hg⟩ | ⟨rfl, rfl, hnr⟩)
  · clear h' c2 f2 hT
    have hx0 : xs = [] := List.eq_nil_of_length_eq_zero hxl
    subst hx0
    rw [List.append_nil] at hI
    obtain ⟨-, lr2, hc⟩ := hI.cases
    rcases hc with ⟨hb0, hbk2⟩ | ⟨g, cap, cur, hbk2, -, -, hnc, hcm, -, -, -⟩
    · subst hb0
      have d0 : W1.cell? ⟨b, 0, none⟩ = some (.slice none 0 0) := by rw [Lib.cell_of_heap hbk2]; rfl
      go_wp2
      all_goals (go_ret2; exact ⟨rfl, hI, hbel0.trans hbel⟩)
    · have d0 : W1.cell? ⟨b, 0, none⟩ = some (.slice (some ⟨g, 0, none⟩) bs.length cap) := by rw [Lib.cell_of_heap hbk2]; rfl
      unfold maxLen at hcm
      go_wp2
      all_goals (go_ret2; exact ⟨rfl, hI, hbel0.trans hbel⟩)
  · obtain ⟨_, _, _, _, hlt⟩ := hnr
    omega
set_option maxHeartbeats 4000000 in
set_option maxRecDepth 100000 in
theorem cencode_any (A : Option Addr) (c : Nat) (data : List UInt8) (size : Int) (T : Option Addr) (tc : Nat) (fs : List FD) (w : World) (hs0 : -9223372036854775808 ≤ size) (hs1 : size ≤ 9223372036854775807) (hn : data.length ≤ 1073741824) (hnc : data.length ≤ c) (hx : Rd w A data.length 1 (bcells data)) (hf : F.bulk fs ≤ 1073741824) (hy : Rd w T fs.length 2 (fcells fs)) (hb : BruOk w) :
    Calls Tryz.prog 22 #[.slice A data.length c, .int .i64 size, .slice T fs.length tc] w (RetBE w (C.encB data size fs) (C.encE data size fs)) := by
  by_cases hsz : size < 1 ∨ 65536 < size
  · have HB := Lib.hid (C.enc_size (data := data) (fs := fs) hsz)
    clear hx hy hb
    rcases (show size < 1 ∨ (¬ size < 1 ∧ 65536 < size) by omega) with h | ⟨h0, h⟩
    all_goals
      go_enter Tryz.func22, Tryz.ntmps22
      go_wp2
      refine bodyPost_ret (v := .tuple #[.slice none 0 0, .int .i64 70]) (by simp [results, Tryz.results22, go_sem]) rfl ?_
      exact RetBE.none_ (Below.refl _ _) HB.out.1 HB.out.2
  · obtain ⟨sN, rfl⟩ : ∃ sN : Nat, size = sN := ⟨size.toNat, by omega⟩
    have hs2 : 1 ≤ sN := by omega
    have hs3 : sN ≤ 65536 := by omega
    have g1 : ¬ (sN : Int) < 1 := by omega
    have g2 : ¬ 65536 < (sN : Int) := by omega
    by_cases hdl : 65536 < data.length
    · have HB := Lib.hid (C.enc_data (fs := fs) hsz hdl)
      have hdi : (65536 : Int) < data.length := by omega
      clear hx hy hb hsz
      go_enter Tryz.func22, Tryz.ntmps22
      go_wp2
      refine bodyPost_ret (v := .tuple #[.slice none 0 0, .int .i64 71]) (by simp [results, Tryz.results22, go_sem]) rfl ?_
      exact RetBE.none_ (Below.refl _ _) HB.out.1 HB.out.2
    · have hdi : ¬ (65536 : Int) < data.length := by omega
      have HP := Lib.hid (print_any T tc fs w hf hy)
      rcases F.printE_cases fs with hp | hp | hp
      · have HBIG := Lib.hid (fun h => C.enc_big (data := data) hsz hdl hp h)
        have HOK := Lib.hid (fun h => C.enc_good (data := data) hsz hdl hp h)
        rw [F.printB_ok hp, hp] at HP
        have hll := F.lines_len fs
        have hn1 : (F.lines fs).length ≤ 4294967296 := by omega
        have HW : Hid (C.encW data sN fs = C.encD sN data ++ ([48, 13, 10] ++ (F.lines fs ++ [13, 10]))) := Lib.hid (by unfold C.encW; rw [Int.toNat_natCast])
        generalize C.encB data sN fs = WB at *
        generalize C.encE data sN fs = WE at *
        generalize C.encW data sN fs = WW at *
        generalize F.lines fs = LT at *
        obtain ⟨N, hN⟩ : ∃ N, N = LT.length := ⟨_, rfl⟩
        rw [← hN] at HBIG HOK hn1
        have HLN := Lib.hid hN
        clear hp hsz hN hy hll
        by_cases hbig : 8192 < N + 2
        · have HB := Lib.hid (HBIG.out hbig)
          have hbi : (8192 : Int) < (N : Int) + 2 := by omega
          clear HBIG HOK HW hx hb
          go_enter Tryz.func22, Tryz.ntmps22
          go_wp2_with fail
          refine HP.out.mono ?_
          rintro e w1 ⟨R, d, rfl, hr, hb1⟩
          rw [← HLN.out]
          have HB1 := Lib.hid hb1
          clear HP hr hb1
          go_wp2
          refine bodyPost_ret (v := .tuple #[.slice none 0 0, .int .i64 51]) (by simp [results, Tryz.results22, go_sem]) rfl ?_
          exact RetBE.none_ HB1.out HB.out.1 HB.out.2
        · have HBW := Lib.hid (HOK.out hbig)
          have hbi : ¬ (8192 : Int) < (N : Int) + 2 := by omega
          have HX := Lib.hid (fun (k : Nat) (hk : k < data.length) => show ∃ b o, A = some ⟨b, o, none⟩ ∧ b < w.heap.size ∧ ∀ u, Below w.heap.size w u → Rd u (some ⟨b, o + k, none⟩) (data.length - k) 1 (bcells (data.drop k)) from by
            obtain ⟨b, o, rfl, hlt, _⟩ := hx.2 (by omega)
            exact ⟨b, o, rfl, hlt, fun u hu => (hx.below hu).from_ (by omega)⟩)
          have hel := C.encD_len data.length sN data (Nat.le_refl _) (by omega) hs3
          have hel2 : (C.encD sN data).length ≤ 655360 := by omega
          obtain ⟨EE, hEE⟩ : ∃ EE, C.encD sN data = EE := ⟨_, rfl⟩
          have HEE := Lib.hid hEE
          rw [hEE] at HW hel2
          clear hel hEE
          have HFI := Lib.hid (fun (n : Nat) (h0 : 0 < n) (h1 : n ≤ 1048575) (u : World) (hu : Below w.heap.size w u) => formatInt16_any n h0 h1 u (hb.below hu))
          clear HBIG HOK hx hb
          go_enter Tryz.func22, Tryz.ntmps22
          go_wp2_with fail
          refine HP.out.mono ?_
          rintro e w1 ⟨R, d, rfl, hr, hb1⟩
          rw [← HLN.out] at hr ⊢
          have HB1 := Lib.hid hb1
          have HR1 := Lib.hid hr
          have hz1 := hb1.size
          clear HP hr hb1
          go_upto_region 11 with fail
          have HBUF0 := Lib.hid (Lib.fresh_isBuffer 77 5 w1)
          have HB0 := Lib.hid ((Below.refl w1.heap.size w1).alloc (Nat.le_refl _) (.cells #[.slice none 0 0, .int .i64 0, .int .i8 0] 77))
          generalize w1.alloc (.cells #[.slice none 0 0, .int .i64 0, .int .i8 0] 77) = w2 at *
          go_loopw [0] (fun vd wr => ∃ (k m cc : Nat) (A' : Option Addr) (out : List UInt8), Hid (k + m = data.length) ∧ Hid (k + cc = c) ∧ vd = .slice A' m cc ∧ Hid (0 < m → ∀ b o, A = some ⟨b, o, none⟩ → A' = some ⟨b, o + k, none⟩) ∧ Hid (out ++ C.encD sN (data.drop k) = EE) ∧ Lib.IsBuffer 77 5 w1.heap.size w1.heap.size (Lib.byteCells out) wr ∧ Below w1.heap.size w1 wr) (fun vd _ => lenOf vd)
          case atStart => exact ⟨0, data.length, c, A, [], Lib.hid (Nat.zero_add _), Lib.hid (Nat.zero_add _), rfl, Lib.hid (fun _ b o h => h), Lib.hid HEE.out, HBUF0.out, HB0.out⟩
          case round =>
            clear HBUF0 HB0
            obtain ⟨wo, rfl⟩ : ∃ wo : World, wo = wr := ⟨_, rfl⟩
            obtain ⟨k, m, cc, A', out, HKM, HKC, rfl, HA', HOUT, hbuf, hbel⟩ := hrel
            have HBUF := Lib.hid hbuf
            have HB := Lib.hid hbel
            clear hbuf hbel
            have hol : out.length ≤ 655360 := by
              have := congrArg List.length HOUT.out
              rw [List.length_append] at this
              omega
            by_cases hm : m = 0
            · subst hm
              have HO : Hid (out = EE) := Lib.hid (by
                have := HOUT.out
                have hk := HKM.out
                rwa [List.drop_of_length_le (by omega), C.encD_nil, List.append_nil] at this)
              have hz := HB.out.size
              clear HX HFI HOUT HA' HKC HKM
              go_wp2_with fail
              refine (Tryz.Buffer_WriteString_k w1.heap.size w1.heap.size _ _ wo HBUF.out hz (Lib.byteCells_one _) (by rw [Lib.byteCells_length, C.zero_size]; omega)).mono ?_
              rintro e w3 ⟨rfl, hbuf3, hb3, _⟩
              rw [C.zero_data, ← Lib.byteCells_append] at hbuf3
              have HBUF3 := Lib.hid hbuf3
              have HB3 := Lib.hid (HB.out.trans hb3)
              have hz3 := HB3.out.size
              have HT : Hid (Calls Tryz.prog 46 #[.pointer (some ⟨w1.heap.size, 0, none⟩), .slice R N d] w3 fun e w' => e = .returned (.tuple #[.int .i64 N, .nilIface]) ∧ Lib.IsBuffer 77 5 w1.heap.size w1.heap.size (Lib.byteCells ((out ++ [48, 13, 10]) ++ LT)) w' ∧ Below w1.heap.size w1 w') := Lib.hid (by
                have hl := HR1.out.1
                by_cases hN0 : N = 0
                · subst hN0
                  have : LT = [] := List.eq_nil_of_length_eq_zero hl
                  subst this
                  rw [List.append_nil]
                  refine (write0_any w1.heap.size w1.heap.size _ R d w3 HBUF3.out).mono ?_
                  rintro e w4 ⟨rfl, hbuf, hb⟩
                  exact ⟨rfl, hbuf, HB3.out.trans hb⟩
                · have hr := (HR1.out.below HB3.out).rd
                  rcases HR1.out.2.2 with h | ⟨g, rfl, _, hg, _⟩
                  · have := HR1.out.2.1; omega
                  · refine (Tryz.Buffer_Write_k w1.heap.size w1.heap.size _ (Lib.byteCells LT) ⟨g, 0, none⟩ N d w3 HBUF3.out hz3 (Lib.byteCells_one _) (by rw [Lib.byteCells_length, hl]) hg (fun j v hj => hr.cells _ rfl (by omega) j v hj) (Lib.byteCells_one _) (by rw [Lib.byteCells_length, List.length_append]; simp only [List.length_cons, List.length_nil]; omega)).mono ?_
                    rintro e w4 ⟨rfl, hbuf, hb, _⟩
                    rw [← Lib.byteCells_append] at hbuf
                    exact ⟨rfl, hbuf, HB3.out.trans hb⟩)
              clear hbuf3 hb3 HBUF3 HB3 hz3 HBUF HB hz
              go_wp2_with fail
              refine HT.out.mono ?_
              rintro e w4 ⟨rfl, hbuf4, hb4⟩
              have HBUF4 := Lib.hid hbuf4
              have HB4 := Lib.hid hb4
              have hz4 := hb4.size
              clear hbuf4 hb4 HT
              have hLN : LT.length = N := HR1.out.1
              have HLL : Hid (((out ++ [48, 13, 10]) ++ LT).length ≤ 4398046511104) := Lib.hid (by rw [List.length_append, List.length_append, hLN]; simp only [List.length_cons, List.length_nil]; omega)
              clear hLN
              go_wp2_with fail
              refine (Tryz.Buffer_WriteString_k w1.heap.size w1.heap.size _ _ w4 HBUF4.out hz4 (Lib.byteCells_one _) (by have := HLL.out; rw [Lib.byteCells_length, C.crlf_size]; omega)).mono ?_
              rintro e w5 ⟨rfl, hbuf5, hb5, _⟩
              rw [C.crlf_data, ← Lib.byteCells_append] at hbuf5
              have HBUF5 := Lib.hid hbuf5
              have HB5 := Lib.hid (HB4.out.trans hb5)
              clear hbuf5 hb5 HBUF4 HB4 hz4 HLL
              go_wp2_with fail
              refine (Tryz.Buffer_Bytes w1.heap.size w1.heap.size _ w5 HBUF5.out).mono ?_
              rintro e w6 ⟨v, rfl, hown, q, rfl⟩
              obtain ⟨R6, d6, rfl, hrow⟩ := row_of_own hown
              have hbs : ((out ++ [48, 13, 10]) ++ LT) ++ [13, 10] = WB := by
                rw [HBW.out.1, HW.out, HO.out]
                simp only [List.append_assoc]
              rw [hbs] at hrow
              rw [hbs]
              have hl : (Lib.byteCells WB).length = WB.length := Lib.byteCells_length _
              have hr := hrow
              rw [hl] at hr ⊢
              have HR6 := Lib.hid (Row.crow hr)
              clear hown hrow hbs hr hl HBUF5
              go_wp2
              refine bodyPost_ret (v := .tuple #[.slice R6 WB.length d6, .int .i64 0]) (by simp [results, Tryz.results22, go_sem]) rfl ?_
              rw [HBW.out.2]
              exact ⟨R6, d6, rfl, HR6.out.mono hz1, below_drewN (below_then HB1.out.size HB1.out HB5.out) q⟩
            · have hm0 : 0 < m := by omega
              have hmi : (0 : Int) < (m : Int) := by omega
              obtain ⟨b, o, rfl, hlt, hrd⟩ := HX.out k (by have := HKM.out; omega)
              have hA2 := HA'.out hm0 b o rfl
              subst hA2
              have HRD := Lib.hid hrd
              obtain ⟨M, hM⟩ : ∃ M, M = min sN (data.length - k) := ⟨_, rfl⟩
              have hkl : k < data.length := by have := HKM.out; omega
              have HMORE := Lib.hid (C.enc_more hkl (by omega) hM (HOUT.out.trans HEE.out.symm))
              rw [HEE.out] at HMORE
              have hM1 : 1 ≤ M := by omega
              have hM2 : M ≤ 65536 := by omega
              have hM3 : M ≤ m := by have := HKM.out; omega
              have hMc : M ≤ cc := by have := HKM.out; have := HKC.out; omega
              have hM4 : (sN ≤ m ∧ M = sN) ∨ (m < sN ∧ M = m) := by have := HKM.out; omega
              clear hM hrd HOUT HA' hkl
              go_upto_region 12 with fail
              go_cut [11] (fun s11 wx => s11 = .int .i64 M ∧ wx = wo)
              case first =>
                clear HX HFI HRD HMORE HBUF
                rcases hM4 with ⟨h1, h2⟩ | ⟨h1, h2⟩
                · have h3 : ¬ (m : Int) < (sN : Int) := by omega
                  go_wp2_with fail
                  go_meet
                  exact ⟨congrArg (Value.int .i64) (by omega), rfl⟩
                · have h3 : (m : Int) < (sN : Int) := by omega
                  go_wp2_with fail
                  go_meet
                  exact ⟨congrArg (Value.int .i64) (by omega), rfl⟩
              case rest =>
                obtain ⟨rfl, hwc⟩ := hcut
                subst hwc
                have HFM := Lib.hid (HFI.out M (by omega) (by omega) _ (below_then HB1.out.size HB1.out HB.out))
                have hhl := (C.hexT_facts 5 M (by have : (16 : Nat) ^ 5 = 1048576 := rfl; omega)).2.2
                obtain ⟨H, hH⟩ : ∃ H, C.hexT M = H := ⟨_, rfl⟩
                rw [hH] at HFM HMORE hhl
                have hsz1 : (B H).size + 2 ≤ 9223372036854775807 := by rw [B_size]; omega
                have hMci : (M : Int) ≤ (cc : Int) := by omega
                clear hH hM4 HX HFI
                go_wp2_with fail
                refine HFM.out.mono ?_
                rintro e w3 ⟨rfl, hb3⟩
                have HBUF3 := Lib.hid (buffer_below HBUF.out hb3)
                have HB3 := Lib.hid (below_then HB.out.size HB.out hb3)
                have hz3 := HB3.out.size
                clear hb3 HBUF HB HFM
                go_wp2_with fail
                refine (Tryz.Buffer_WriteString_k w1.heap.size w1.heap.size _ _ w3 HBUF3.out hz3 (Lib.byteCells_one _) (by rw [Lib.byteCells_length, C.hex_size]; omega)).mono ?_
                rintro e w4 ⟨rfl, hbuf4, hb4, _⟩
                rw [C.hex_data, ← Lib.byteCells_append] at hbuf4
                have HBUF4 := Lib.hid hbuf4
                have HB4 := Lib.hid (HB3.out.trans hb4)
                have hz4 := HB4.out.size
                have HRD4 := Lib.hid ((HRD.out _ (below_then HB1.out.size HB1.out HB4.out)).upto (show M ≤ data.length - k by have := HKM.out; omega))
                have hb1' : b < w1.heap.size := by omega
                clear hbuf4 hb4 HBUF3 HB3 HRD hz3
                go_wp2_with fail
                refine (Tryz.Buffer_Write_k w1.heap.size w1.heap.size _ (Lib.byteCells ((data.drop k).take M)) ⟨b, o + k, none⟩ M cc w4 HBUF4.out hz4 (Lib.byteCells_one _) (by rw [Lib.byteCells_length, List.length_take, List.length_drop]; have := HKM.out; omega) hb1' (fun j v hj => HRD4.out.cells _ rfl (by omega) j v hj) (Lib.byteCells_one _) (by rw [Lib.byteCells_length, List.length_append, List.length_append]; simp only [List.length_cons, List.length_nil]; omega)).mono ?_
                rintro e w5 ⟨rfl, hbuf5, hb5, _⟩
                rw [← Lib.byteCells_append] at hbuf5
                have HBUF5 := Lib.hid hbuf5
                have HB5 := Lib.hid (HB4.out.trans hb5)
                have hz5 := HB5.out.size
                clear hbuf5 hb5 HBUF4 HB4 HRD4 hz4
                go_wp2_with fail
                refine (Tryz.Buffer_WriteString_k w1.heap.size w1.heap.size _ _ w5 HBUF5.out hz5 (Lib.byteCells_one _) (by rw [Lib.byteCells_length, List.length_append, List.length_append, List.length_append, List.length_take, C.crlf_size]; simp only [List.length_cons, List.length_nil]; omega)).mono ?_
                rintro e w6 ⟨rfl, hbuf6, hb6, _⟩
                rw [C.crlf_data, ← Lib.byteCells_append] at hbuf6
                have HBUF6 := Lib.hid hbuf6
                have HB6 := Lib.hid (HB5.out.trans hb6)
                have HKM2 : Hid (k + M + (m - M) = data.length) := Lib.hid (by have := HKM.out; omega)
                have HKC2 : Hid (k + M + (cc - M) = c) := Lib.hid (by have := HKC.out; omega)
                have hmc : m ≤ cc := by have := HKM.out; have := HKC.out; omega
                clear hbuf6 hb6 HBUF5 HB5 hz5
                have hMm : (M : Int) ≤ (m : Int) := by omega
                by_cases hcM : cc = M
                · have hmM : m - M = 0 := by omega
                  have hcM0 : cc - M = 0 := by omega
                  rw [hmM] at HKM2
                  rw [hcM0] at HKC2
                  go_wp2_with fail
                  go_roundw
                  case rel => exact ⟨k + M, 0, 0, _, _, HKM2, HKC2, rfl, Lib.hid (fun h => absurd h (by omega)), HMORE, HBUF6.out, HB6.out⟩
                  case measure => show 0 < m; omega
                · go_wp2_with fail
                  go_roundw
                  case rel => exact ⟨k + M, m - M, cc - M, _, _, HKM2, HKC2, rfl, Lib.hid (fun _ b' o' h => by cases h; rw [Nat.add_assoc]), HMORE, HBUF6.out, HB6.out⟩
                  case measure => show m - M < m; omega
      all_goals
        have HB := Lib.hid (C.enc_print hsz hdl hp (by decide))
        rw [F.printB_bad (by rw [hp]; decide), hp] at HP
        generalize C.encB data sN fs = WB at *
        generalize C.encE data sN fs = WE at *
        clear hp hx hy hb hsz
        go_enter Tryz.func22, Tryz.ntmps22
        go_wp2_with fail
        refine HP.out.mono ?_
        rintro e w1 ⟨R, d, rfl, hr, hb1⟩
        have HB1 := Lib.hid hb1
        clear HP hr hb1
        go_wp2
        first
        | (refine bodyPost_ret (v := .tuple #[.slice none 0 0, .int .i64 40]) (by simp [results, Tryz.results22, go_sem]) rfl ?_
           exact RetBE.none_ HB1.out HB.out.1 HB.out.2)
        | (refine bodyPost_ret (v := .tuple #[.slice none 0 0, .int .i64 42]) (by simp [results, Tryz.results22, go_sem]) rfl ?_
           exact RetBE.none_ HB1.out HB.out.1 HB.out.2)
end Go.Proofs.YtnmldbcgpfglkaaGreatDoor
