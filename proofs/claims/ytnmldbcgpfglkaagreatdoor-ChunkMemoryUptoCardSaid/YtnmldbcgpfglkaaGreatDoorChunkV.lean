/- The walks of the document's hexed and Encode of chunked bodies. Conditions: data of at most 2^30 bytes, fields of bulk at most 2^30. -/
import Derived.Test.YtnmldbcgpfglkaaGreatDoorChunkQ
import Derived.Test.YtnmldbcgpfglkaaGreatDoorPrint
import Derived.Test.YtnmldbcgpfglkaaGreatDoorHeadB
import Derived.Lib.SlBytesConst
import Derived.Deep.DeepCutAuto
namespace Go.Proofs.YtnmldbcgpfglkaaGreatDoor
open Go.RowKit

namespace C
def digits16 : ByteArray := ⟨#[48, 49, 50, 51, 52, 53, 54, 55, 56, 57, 97, 98, 99, 100, 101, 102]⟩
theorem digits_at : ∀ k : Fin 16, L (digits16.extract k.1 (k.1 + 1)) = [dig16 k.1] := by decide +kernel
theorem digits_one (k : Nat) (h : k < 16) : digits16.extract k (k + 1) = B [dig16 k] := L_inj (digits_at ⟨k, h⟩)
theorem B_append (a b : List UInt8) : B a ++ B b = B (a ++ b) := L_inj (by rw [L_append, L_B, L_B, L_B])
end C
set_option maxHeartbeats 2000000 in
set_option maxRecDepth 100000 in
theorem refHexed_any (v : Nat) (hv : v ≤ 1048575) (w : World) : Calls Tryz.prog 49 #[.int .i64 v] w (RetS w (B (C.hexT v))) := by
  have hlen := (C.hexT_facts 5 v (by have : (16 : Nat) ^ 5 = 1048576 := rfl; omega)).2.2
  obtain ⟨H, hH⟩ : ∃ H, C.hexT v = H := ⟨_, rfl⟩
  have HH := Lib.hid hH
  rw [hH] at hlen ⊢
  clear hH
  go_enter Tryz.func49, Tryz.ntmps49
  go_wp2
  go_loopw [0, 4] (fun vv vo wr => ∃ (x : Nat) (o : List UInt8), x ≤ v ∧ vv = .int .i64 x ∧ vo = .string (B o) ∧ o.length ≤ 5 ∧ H = C.hexT x ++ o ∧ Below w.heap.size w wr) (fun vv _ _ => (intOf vv).toNat)
  case atStart => exact ⟨v, [], Nat.le_refl _, rfl, rfl, Nat.zero_le _, by rw [List.append_nil, HH.out], Below.refl _ _⟩
  case round =>
    clear HH
    obtain ⟨x, o, hxv, rfl, rfl, hol, hho, hb⟩ := hrel
    have HO := Lib.hid hho
    have HB := Lib.hid hb
    have hos : (B o).size ≤ 5 := by rw [B_size]; exact hol
    clear hho hb
    by_cases hx : x = 0
    · have HF : Hid (B o = B H) := Lib.hid (by rw [HO.out, hx, C.hexT_zero, List.nil_append])
      have hxi : ¬ (0 : Int) < (x : Int) := by omega
      clear HO hx
      go_wp2
      go_ret
      exact ⟨by rw [HF.out]; rfl, HB.out⟩
    · have hxi : (0 : Int) < (x : Int) := by omega
      have hm : (x : Int) % 16 = ((x % 16 : Nat) : Int) := by omega
      have hd : (x : Int) / 16 = ((x / 16 : Nat) : Int) := by omega
      have hlt : x % 16 < 16 := Nat.mod_lt _ (by decide)
      have HN : Hid (H = C.hexT (x / 16) ++ ([C.dig16 (x % 16)] ++ o)) := Lib.hid (by rw [HO.out, C.hexT_pos hx, List.append_assoc])
      have hol2 : ([C.dig16 (x % 16)] ++ o).length ≤ 5 := by
        have := congrArg List.length HN.out
        rw [List.length_append] at this
        omega
      have hone := C.digits_one (x % 16) hlt
      have happ := C.B_append [C.dig16 (x % 16)] o
      unfold C.digits16 at hone
      have hdl : x / 16 < x := by omega
      have hdx : x / 16 ≤ v := by omega
      clear HO hx
      generalize x % 16 = m at *
      generalize x / 16 = q at *
      have hsz : (B [C.dig16 m]).size + (B o).size ≤ 9223372036854775807 := by
        have : (B [C.dig16 m]).size = 1 := rfl
        omega
      go_wp2
      exact ⟨⟨q, C.dig16 m :: o, hdx, rfl, rfl, hol2, HN.out, HB.out⟩, by simp [intOf]; omega⟩
namespace C
theorem enc_size {data : List UInt8} {size : Int} {fs : List FD} (h : size < 1 ∨ 65536 < size) : encB data size fs = [] ∧ encE data size fs = 70 := by
  have h1 : encE data size fs = 70 := if_pos h
  exact ⟨by unfold encB; rw [h1]; rfl, h1⟩
theorem enc_data {data : List UInt8} {size : Int} {fs : List FD} (h : ¬ (size < 1 ∨ 65536 < size)) (h2 : 65536 < data.length) : encB data size fs = [] ∧ encE data size fs = 71 := by
  have h1 : encE data size fs = 71 := by unfold encE; rw [if_neg h, if_pos h2]
  exact ⟨by unfold encB; rw [h1]; rfl, h1⟩
theorem enc_print {data : List UInt8} {size : Int} {fs : List FD} {c : Int} (h : ¬ (size < 1 ∨ 65536 < size)) (h2 : ¬ 65536 < data.length) (h3 : F.printE fs = c) (hc : c ≠ 0) : encB data size fs = [] ∧ encE data size fs = c := by
  have h1 : encE data size fs = c := by unfold encE; rw [if_neg h, if_neg h2, if_pos (by rw [h3]; exact hc), h3]
  exact ⟨by unfold encB; rw [h1, if_neg hc], h1⟩
theorem enc_big {data : List UInt8} {size : Int} {fs : List FD} (h : ¬ (size < 1 ∨ 65536 < size)) (h2 : ¬ 65536 < data.length) (h3 : F.printE fs = 0) (h4 : 8192 < (F.lines fs).length + 2) : encB data size fs = [] ∧ encE data size fs = 51 := by
  have h1 : encE data size fs = 51 := by unfold encE; rw [if_neg h, if_neg h2, if_neg (fun k => k h3), if_pos h4]
  exact ⟨by unfold encB; rw [h1]; rfl, h1⟩
theorem enc_good {data : List UInt8} {size : Int} {fs : List FD} (h : ¬ (size < 1 ∨ 65536 < size)) (h2 : ¬ 65536 < data.length) (h3 : F.printE fs = 0) (h4 : ¬ 8192 < (F.lines fs).length + 2) : encB data size fs = encW data size fs ∧ encE data size fs = 0 := by
  have h1 : encE data size fs = 0 := by unfold encE; rw [if_neg h, if_neg h2, if_neg (fun k => k h3), if_neg h4]
  exact ⟨by unfold encB; rw [h1]; rfl, h1⟩
theorem crlf_data : (⟨#[13, 10]⟩ : ByteArray).data.toList = [13, 10] := rfl
theorem zero_data : (⟨#[48, 13, 10]⟩ : ByteArray).data.toList = [48, 13, 10] := rfl
theorem crlf_size : (⟨#[13, 10]⟩ : ByteArray).size = 2 := rfl
theorem zero_size : (⟨#[48, 13, 10]⟩ : ByteArray).size = 3 := rfl
theorem hex_data (l : List UInt8) : (B l ++ ⟨#[13, 10]⟩ : ByteArray).data.toList = l ++ [13, 10] := by
  show L (B l ++ ⟨#[13, 10]⟩) = _
  rw [L_append, L_B]; rfl
theorem hex_size (l : List UInt8) : (B l ++ ⟨#[13, 10]⟩ : ByteArray).size = l.length + 2 := by rw [L_size]; show (L (B l ++ ⟨#[13, 10]⟩)).length = _; rw [L_append, L_B, List.length_append]; rfl
theorem drop_more (sN k : Nat) (data : List UInt8) : data.drop (k + min sN (data.length - k)) = data.drop (k + sN) := by
  rcases Nat.le_total sN (data.length - k) with h | h
  · rw [Nat.min_eq_left h]
  · rw [Nat.min_eq_right h, List.drop_of_length_le (by omega), List.drop_of_length_le (by omega)]
/-- One chunk more. -/
theorem enc_more {sN k N : Nat} {data out : List UInt8} (hk : k < data.length) (hs : sN ≠ 0) (hN : N = min sN (data.length - k)) (h : out ++ encD sN (data.drop k) = encD sN data) : (((out ++ (hexT N ++ [13, 10])) ++ (data.drop k).take N) ++ [13, 10]) ++ encD sN (data.drop (k + N)) = encD sN data := by
  have hne : data.drop k ≠ [] := fun e => by
    have := congrArg List.length e
    rw [List.length_drop] at this
    simp only [List.length_nil] at this
    omega
  have h1 : (data.drop k).take sN = (data.drop k).take N := by
    rw [List.take_eq_take_iff, List.length_drop, hN]
    omega
  have h2 : (data.drop k).drop sN = data.drop (k + N) := by
    rw [List.drop_drop]
    rw [hN, drop_more]
  rw [← h]
  conv => rhs; rw [encD_step hne hs]
  rw [h1, h2, List.length_drop, ← hN]
  simp only [List.append_assoc]
end C
set_option maxHeartbeats 8000000 in
set_option maxRecDepth 100000 in
theorem refCEncode_any (A : Option Addr) (c : Nat) (data : List UInt8) (size : Int) (T : Option Addr) (tc : Nat) (fs : List FD) (w : World) (hs0 : -9223372036854775808 ≤ size) (hs1 : size ≤ 9223372036854775807) (hn : data.length ≤ 1073741824) (hnc : data.length ≤ c) (hx : Rd w A data.length 1 (bcells data)) (hf : F.bulk fs ≤ 1073741824) (hy : Rd w T fs.length 2 (fcells fs)) :
    Calls Tryz.prog 23 #[.slice A data.length c, .int .i64 size, .slice T fs.length tc] w (RetBE w (C.encB data size fs) (C.encE data size fs)) := by
  by_cases hsz : size < 1 ∨ 65536 < size
  · have HB := Lib.hid (C.enc_size (data := data) (fs := fs) hsz)
    clear hx hy
    rcases (show size < 1 ∨ (¬ size < 1 ∧ 65536 < size) by omega) with h | ⟨h0, h⟩
    all_goals
      go_enter Tryz.func23, Tryz.ntmps23
      go_wp2
      refine bodyPost_ret (v := .tuple #[.slice none 0 0, .int .i64 70]) (by simp [results, Tryz.results23, go_sem]) rfl ?_
      exact RetBE.none_ (Below.refl _ _) HB.out.1 HB.out.2
  · obtain ⟨sN, rfl⟩ : ∃ sN : Nat, size = sN := ⟨size.toNat, by omega⟩
    have hs2 : 1 ≤ sN := by omega
    have hs3 : sN ≤ 65536 := by omega
    have g1 : ¬ (sN : Int) < 1 := by omega
    have g2 : ¬ 65536 < (sN : Int) := by omega
    by_cases hdl : 65536 < data.length
    · have HB := Lib.hid (C.enc_data (fs := fs) hsz hdl)
      have hdi : (65536 : Int) < data.length := by omega
      clear hx hy hsz
      go_enter Tryz.func23, Tryz.ntmps23
      go_wp2
      refine bodyPost_ret (v := .tuple #[.slice none 0 0, .int .i64 71]) (by simp [results, Tryz.results23, go_sem]) rfl ?_
      exact RetBE.none_ (Below.refl _ _) HB.out.1 HB.out.2
    · have hdi : ¬ (65536 : Int) < data.length := by omega
      have HP := Lib.hid (refPrint_any T tc fs w hf hy)
      rcases F.printE_cases fs with hp | hp | hp
      · have HBIG := Lib.hid (fun h => C.enc_big (data := data) hsz hdl hp h)
        have HOK := Lib.hid (fun h => C.enc_good (data := data) hsz hdl hp h)
        rw [F.printB_ok hp, hp] at HP
        have hll := F.lines_len fs
        have hn1 : (F.lines fs).length ≤ 4294967296 := by omega
        have HW : Hid (C.encW data sN fs = C.encD sN data ++ ([48, 13, 10] ++ (F.lines fs ++ [13, 10]))) := Lib.hid (by unfold C.encW; rw [Int.toNat_natCast])
        generalize C.encB data sN fs = WB at *
        generalize C.encE data sN fs = WE at *
        generalize C.encW data sN fs = WW at *
        generalize F.lines fs = LT at *
        obtain ⟨N, hN⟩ : ∃ N, N = LT.length := ⟨_, rfl⟩
        rw [← hN] at HBIG HOK hn1
        have HLN := Lib.hid hN
        clear hp hsz hN hy hll
        by_cases hbig : 8192 < N + 2
        · have HB := Lib.hid (HBIG.out hbig)
          have hbi : (8192 : Int) < (N : Int) + 2 := by omega
          clear HBIG HOK HW hx
          go_enter Tryz.func23, Tryz.ntmps23
          go_wp2_with fail
          refine HP.out.mono ?_
          rintro e w1 ⟨R, d, rfl, hr, hb1⟩
          rw [← HLN.out]
          have HB1 := Lib.hid hb1
          clear HP hr hb1
          go_wp2
          refine bodyPost_ret (v := .tuple #[.slice none 0 0, .int .i64 51]) (by simp [results, Tryz.results23, go_sem]) rfl ?_
          exact RetBE.none_ HB1.out HB.out.1 HB.out.2
        · have HBW := Lib.hid (HOK.out hbig)
          have hbi : ¬ (8192 : Int) < (N : Int) + 2 := by omega
          have HX := Lib.hid (fun (k : Nat) (hk : k < data.length) => show ∃ b o, A = some ⟨b, o, none⟩ ∧ ∀ (m : Nat) (u : World), m ≤ data.length - k → Below w.heap.size w u → Rd u (some ⟨b, o + k, none⟩) m 1 (bcells ((data.drop k).take m)) from by
            obtain ⟨b, o, rfl, hlt, _⟩ := hx.2 (by omega)
            exact ⟨b, o, rfl, fun m u hm hu => ((hx.below hu).from_ (show k ≤ data.length by omega)).upto hm⟩)
          have hel := C.encD_len data.length sN data (Nat.le_refl _) (by omega) hs3
          have hel2 : (C.encD sN data).length ≤ 655360 := by omega
          obtain ⟨EE, hEE⟩ : ∃ EE, C.encD sN data = EE := ⟨_, rfl⟩
          have HEE := Lib.hid hEE
          rw [hEE] at HW hel2
          clear HBIG HOK hx hel hEE
          go_enter Tryz.func23, Tryz.ntmps23
          go_wp2_with fail
          refine HP.out.mono ?_
          rintro e w1 ⟨R, d, rfl, hr, hb1⟩
          rw [← HLN.out] at hr ⊢
          have HB1 := Lib.hid hb1
          have HR1 := Lib.hid hr
          have hz1 := hb1.size
          clear HP hr hb1
          go_wp2_with fail
          have HB0 := Lib.hid ((Below.refl w1.heap.size w1).alloc (Nat.le_refl _) (.cells #[] 5))
          go_loopw [10, 11] (fun vo vi wr => ∃ (i P : Nat) (Da : Option Addr) (dc : Nat) (out : List UInt8), i ≤ data.length + sN ∧ P ≤ 655360 ∧ vi = .int .i64 i ∧ vo = .slice Da P dc ∧ CRow wr w1.heap.size Da P dc out ∧ out ++ C.encD sN (data.drop i) = EE ∧ Below w1.heap.size w1 wr) (fun _ vi _ => data.length - (intOf vi).toNat)
          case atStart => exact ⟨0, 0, _, 0, [], by omega, by omega, rfl, rfl, ⟨rfl, Nat.le_refl _, .inl rfl⟩, HEE.out, HB0.out⟩
          case round =>
            clear HB0
            obtain ⟨wo, rfl⟩ : ∃ wo : World, wo = wr := ⟨_, rfl⟩
            obtain ⟨i, P, Da, dc, out, hi, hP, rfl, rfl, hrow, hout, hbel⟩ := hrel
            have HROW := Lib.hid hrow
            have HOUT := Lib.hid hout
            have HB := Lib.hid hbel
            clear hrow hout hbel
            by_cases hil : i < data.length
            · have hili : (i : Int) < (data.length : Int) := by omega
              obtain ⟨b, o, rfl, hrd⟩ := HX.out i hil
              have HRD := Lib.hid hrd
              obtain ⟨M, hM⟩ : ∃ M, M = min sN (data.length - i) := ⟨_, rfl⟩
              have hM1 : 1 ≤ M := by omega
              have hM2 : M ≤ 65536 := by omega
              have hM3 : i + M ≤ data.length := by omega
              have HMORE := Lib.hid (C.enc_more hil (by omega) hM (HOUT.out.trans HEE.out.symm))
              rw [hM, C.drop_more, ← hM, HEE.out] at HMORE
              have hM4 : (sN ≤ data.length - i ∧ M = sN) ∨ (data.length - i < sN ∧ i + M = data.length) := by omega
              clear hM hrd
              go_upto_if 48 with fail
              go_cut [12] (fun s12 wx => s12 = .int .i64 ((i + M : Nat) : Int) ∧ wx = wo)
              case first =>
                rcases hM4 with ⟨h1, h2⟩ | ⟨h1, h2⟩
                · have h3 : ¬ (data.length : Int) < (i : Int) + (sN : Int) := by omega
                  clear HRD HMORE HROW HOUT HX
                  go_wp2_with fail
                  go_meet
                  exact ⟨by rw [h2]; rfl, rfl⟩
                · have h3 : (data.length : Int) < (i : Int) + (sN : Int) := by omega
                  clear HRD HMORE HROW HOUT HX
                  go_wp2_with fail
                  go_meet
                  exact ⟨by rw [h2], rfl⟩
              case rest =>
                obtain ⟨rfl, hwc⟩ := hcut
                subst hwc
                clear hM4
                obtain ⟨E, hE⟩ : ∃ E, i + M = E := ⟨_, rfl⟩
                rw [hE]
                have HHX := Lib.hid (fun (u : World) => show Calls Tryz.prog 49 #[.int .i64 ((E : Int) - (i : Int))] u (RetS u (B (C.hexT M))) from by
                  rw [show (E : Int) - (i : Int) = (M : Int) by omega]
                  exact refHexed_any M (by omega) u)
                have hhl := (C.hexT_facts 5 M (by have : (16 : Nat) ^ 5 = 1048576 := rfl; omega)).2.2
                have hEi : (i : Int) ≤ (E : Int) := by omega
                have hEc : (E : Int) ≤ (c : Int) := by omega
                have hic : ¬ c = i := by omega
                have hEM : E - i = M := by omega
                generalize C.hexT M = H at *
                have hsz1 : (B H).size + 2 ≤ 9223372036854775807 := by rw [B_size]; omega
                go_wp2_with fail
                refine (HHX.out _).mono ?_
                rintro e w2 ⟨rfl, hb2⟩
                have HB2 := Lib.hid (below_then HB.out.size HB.out hb2)
                have HROW2 := Lib.hid (HROW.out.below hb2)
                clear hb2 HHX HB HROW HOUT
                obtain ⟨cc, W, hcv, hcr, hcb⟩ := conv_sbC w2 (B H ++ ⟨#[13, 10]⟩)
                rw [C.hex_size] at hcv hcr
                have hHd : L (B H ++ ⟨#[13, 10]⟩) = H ++ [13, 10] := C.hex_data H
                rw [hHd] at hcr
                have HBW2 := Lib.hid (below_then HB2.out.size HB2.out hcb)
                have hzW := HBW2.out.size
                have HROWW := Lib.hid (HROW2.out.below hcb)
                have HCR := Lib.hid hcr.rd
                have h63 : P + (H.length + 2) ≤ 4398046511104 := by omega
                clear hcr hcb HB2 HROW2 hHd
                go_upto_region 18 with (at_builtin; refine appC _ rfl (.tmp 51) (.tmp 57) rfl w1.heap.size Da P dc out rfl HROWW.out (some ⟨w2.heap.size, 0, none⟩) (H.length + 2) cc (H ++ [13, 10]) rfl HCR.out h63 hzW ?_; intro A3 c3 w3 hr3 ha3; have HR3 := Lib.hid hr3; have HB3 := Lib.hid (HBW2.out.trans (ha3.belowC HROWW.out hzW)); clear hr3 ha3)
                have hz3 := HB3.out.size
                have HRD3 := Lib.hid (HRD.out M w3 (by omega) (below_then HB1.out.size HB1.out HB3.out))
                have h64 : P + (H.length + 2) + M ≤ 4398046511104 := by omega
                clear HRD HROWW HCR HBW2 hzW
                go_upto_region 19 with (at_builtin; refine appC _ rfl (.tmp 59) (.tmp 63) rfl w1.heap.size A3 (P + (H.length + 2)) c3 (out ++ (H ++ [13, 10])) rfl HR3.out (some ⟨b, o + i, none⟩) M (c - i) ((data.drop i).take M) rfl HRD3.out h64 hz3 ?_; intro A4 c4 w4 hr4 ha4; have HR4 := Lib.hid hr4; have HB4 := Lib.hid (HB3.out.trans (ha4.belowC HR3.out hz3)); clear hr4 ha4)
                have hz4 := HB4.out.size
                have h65 : P + (H.length + 2) + M + 2 ≤ 4398046511104 := by omega
                have HR4' := Lib.hid (HR4.out.alloc (.cells #[.int .u8 13, .int .u8 10] 5))
                have HB4' := Lib.hid (HB4.out.alloc hz4 (.cells #[.int .u8 13, .int .u8 10] 5))
                have hz4' := HB4'.out.size
                clear HR3 HB3 HRD3 hz3
                go_wp2_with (at_builtin; refine appC _ rfl (.tmp 65) (.tmp 66) rfl w1.heap.size A4 (P + (H.length + 2) + M) c4 ((out ++ (H ++ [13, 10])) ++ (data.drop i).take M) rfl HR4'.out (some ⟨w4.heap.size, 0, none⟩) 2 2 [13, 10] rfl (Rd.newRow _ _ #[.int .u8 13, .int .u8 10] 2 1 rfl) h65 hz4' ?_; intro A5 c5 w5 hr5 ha5; have HR5 := Lib.hid hr5; have HB5 := Lib.hid (HB4'.out.trans (ha5.belowC HR4'.out hz4')); clear hr5 ha5)
                go_roundw
                case rel =>
                  have hP5 : P + (H.length + 2) + M + 2 ≤ 655360 := by
                    have h1 := congrArg List.length HMORE.out
                    have h2 := HR5.out.1
                    rw [List.length_append, h2] at h1
                    omega
                  exact ⟨i + sN, P + (H.length + 2) + M + 2, A5, c5, _, by omega, hP5, by go_num, rfl, HR5.out, HMORE.out, HB5.out⟩
                case measure => simp [intOf]; omega
            · have hili : ¬ (i : Int) < (data.length : Int) := by omega
              have HO : Hid (out = EE) := Lib.hid (by
                have := HOUT.out
                rwa [List.drop_of_length_le (by omega), C.encD_nil, List.append_nil] at this)
              have hz := HB.out.size
              have HRW := Lib.hid (HROW.out.alloc (.cells #[.int .u8 48, .int .u8 13, .int .u8 10] 5 (3, 4)))
              have HBW1 := Lib.hid (HB.out.alloc hz (.cells #[.int .u8 48, .int .u8 13, .int .u8 10] 5 (3, 4)))
              have hcc := Lib.run_convert_bytes_const (P := Tryz.prog) wo 22 5 #[.int .u8 48, .int .u8 13, .int .u8 10] 3 3 Tryz.underlying22 Tryz.underlying5
              have hzw := HBW1.out.size
              have h63 : P + 3 ≤ 4398046511104 := by omega
              clear HX HOUT HROW
              go_upto_region 21 with (at_builtin; refine appC _ rfl (.tmp 68) (.tmp 70) rfl w1.heap.size Da P dc out rfl HRW.out (some ⟨wo.heap.size, 0, none⟩) 3 3 [48, 13, 10] rfl (Rd.newRowM _ _ #[.int .u8 48, .int .u8 13, .int .u8 10] (3, 4) 3 1 rfl) h63 hzw ?_; intro A3 c3 w3 hr3 ha3; have HR3 := Lib.hid hr3; have HB3 := Lib.hid (HBW1.out.trans (ha3.belowC HRW.out hzw)); clear hr3 ha3)
              have hz3 := HB3.out.size
              have HRT := Lib.hid (HR1.out.below HB3.out).rd
              have h64 : P + 3 + N ≤ 4398046511104 := by omega
              clear HRW HBW1 hzw HB hz hcc
              go_upto_region 22 with (at_builtin; refine appC _ rfl (.tmp 72) (.tmp 73) rfl w1.heap.size A3 (P + 3) c3 (out ++ [48, 13, 10]) rfl HR3.out R N d LT rfl HRT.out h64 hz3 ?_; intro A4 c4 w4 hr4 ha4; have HR4 := Lib.hid hr4; have HB4 := Lib.hid (HB3.out.trans (ha4.belowC HR3.out hz3)); clear hr4 ha4)
              have hz4 := HB4.out.size
              have h65 : P + 3 + N + 2 ≤ 4398046511104 := by omega
              have HR4' := Lib.hid (HR4.out.alloc (.cells #[.int .u8 13, .int .u8 10] 5))
              have HB4' := Lib.hid (HB4.out.alloc hz4 (.cells #[.int .u8 13, .int .u8 10] 5))
              have hz4' := HB4'.out.size
              clear HR3 HB3 HRT hz3
              go_wp2_with (at_builtin; refine appC _ rfl (.tmp 75) (.tmp 76) rfl w1.heap.size A4 (P + 3 + N) c4 ((out ++ [48, 13, 10]) ++ LT) rfl HR4'.out (some ⟨w4.heap.size, 0, none⟩) 2 2 [13, 10] rfl (Rd.newRow _ _ #[.int .u8 13, .int .u8 10] 2 1 rfl) h65 hz4' ?_; intro A5 c5 w5 hr5 ha5; have HR5 := Lib.hid hr5; have HB5 := Lib.hid (HB4'.out.trans (ha5.belowC HR4'.out hz4')); clear hr5 ha5)
              refine bodyPost_ret (v := .tuple #[.slice A5 (P + 3 + N + 2) c5, .int .i64 0]) (by simp [results, Tryz.results23, go_sem]) rfl ?_
              have hbs : ((out ++ [48, 13, 10]) ++ LT) ++ [13, 10] = WB := by
                rw [HBW.out.1, HW.out, HO.out]
                simp only [List.append_assoc]
              have hr := HR5.out
              rw [hbs] at hr
              rw [HBW.out.2, ← hr.1]
              have hr' := hr
              rw [← hr.1] at hr'
              exact ⟨A5, c5, rfl, hr'.mono hz1, below_then HB1.out.size HB1.out HB5.out⟩
      all_goals
        have HB := Lib.hid (C.enc_print hsz hdl hp (by decide))
        rw [F.printB_bad (by rw [hp]; decide), hp] at HP
        generalize C.encB data sN fs = WB at *
        generalize C.encE data sN fs = WE at *
        clear hp hx hy hsz
        go_enter Tryz.func23, Tryz.ntmps23
        go_wp2_with fail
        refine HP.out.mono ?_
        rintro e w1 ⟨R, d, rfl, hr, hb1⟩
        have HB1 := Lib.hid hb1
        clear HP hr hb1
        go_wp2
        first
        | (refine bodyPost_ret (v := .tuple #[.slice none 0 0, .int .i64 40]) (by simp [results, Tryz.results23, go_sem]) rfl ?_
           exact RetBE.none_ HB1.out HB.out.1 HB.out.2)
        | (refine bodyPost_ret (v := .tuple #[.slice none 0 0, .int .i64 42]) (by simp [results, Tryz.results23, go_sem]) rfl ?_
           exact RetBE.none_ HB1.out HB.out.1 HB.out.2)
end Go.Proofs.YtnmldbcgpfglkaaGreatDoor
