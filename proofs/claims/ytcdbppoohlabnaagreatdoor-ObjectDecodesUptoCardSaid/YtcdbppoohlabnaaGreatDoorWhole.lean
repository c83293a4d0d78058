/- The walks of head.whole, head.PrintRequest and of the document's. Conditions: a list of bulk at most 2^30, texts of at most 2^30 bytes, a number of 64 bits, the library's table of powers of ten. -/
import Derived.Test.YtcdbppoohlabnaaGreatDoorPrint
import Derived.Test.YtcdbppoohlabnaaGreatDoorShow
import Derived.Lib.ItoaLen
namespace Go.Proofs.YtcdbppoohlabnaaGreatDoor
open Go.RowKit

theorem whole_bad {l : List UInt8} {fs : List FD} {c : Int} (h : F.printE fs = c) (hc : c ≠ 0) : F.wholeB l fs = [] ∧ F.wholeE l fs = c := by
  have h1 : F.wholeE l fs = c := by unfold F.wholeE; rw [if_neg (by rw [h]; exact hc), h]
  exact ⟨if_neg (by rw [h1]; exact hc), h1⟩
theorem whole_big {l : List UInt8} {fs : List FD} (h : F.printE fs = 0) (hc : 8192 < l.length + (F.lines fs).length + 4) : F.wholeB l fs = [] ∧ F.wholeE l fs = 51 := by
  have h1 : F.wholeE l fs = 51 := by unfold F.wholeE; rw [if_pos h, if_pos hc]
  exact ⟨if_neg (by rw [h1]; decide), h1⟩
theorem whole_ok {l : List UInt8} {fs : List FD} (h : F.printE fs = 0) (hc : ¬ 8192 < l.length + (F.lines fs).length + 4) : F.wholeB l fs = l ++ [13, 10] ++ F.lines fs ++ [13, 10] ∧ F.wholeE l fs = 0 := by
  have h1 : F.wholeE l fs = 0 := by unfold F.wholeE; rw [if_pos h, if_neg hc]
  exact ⟨if_pos h1, h1⟩

set_option maxRecDepth 100000 in
set_option maxHeartbeats 1000000 in
theorem whole_any (l : ByteArray) (A : Option Addr) (c : Nat) (fs : List FD) (w : World) (hl : l.size ≤ 8589934592) (hf : F.bulk fs ≤ 1073741824) (hx : Rd w A fs.length 2 (fcells fs)) :
    Calls Tryz.prog 104 #[.string l, .slice A fs.length c] w (RetBE w (F.wholeB (L l) fs) (F.wholeE (L l) fs)) := by
  have HP := Lib.hid (print_any A c fs w hf hx)
  have hll := F.lines_len fs
  have hn1 : (F.lines fs).length ≤ 4294967296 := by omega
  have hlz := L_size l
  rcases F.printE_cases fs with hp | hp | hp
  · have HBIG := Lib.hid (fun h => whole_big (l := L l) hp h)
    have HOK := Lib.hid (fun h => whole_ok (l := L l) hp h)
    rw [F.printB_ok hp, hp] at HP
    have HLZ := Lib.hid hlz
    generalize F.wholeB (L l) fs = WB at *
    generalize F.wholeE (L l) fs = WE at *
    obtain ⟨T, hT⟩ : ∃ T, T = B (F.lines fs) := ⟨_, rfl⟩
    have hTl : F.lines fs = L T := by rw [hT]; rfl
    obtain ⟨N, hN⟩ : ∃ N, N = T.size := ⟨_, rfl⟩
    have hNl : (L T).length = N := by rw [hN, L_size]
    rw [hTl] at HBIG HOK HP hn1
    rw [hNl] at HBIG HOK hn1
    have HNL := Lib.hid hNl
    have HN := Lib.hid hN
    clear hp hx hll hlz hT hTl hN hNl
    by_cases hbig : 8192 < l.size + N + 4
    · have HB := Lib.hid (HBIG.out (by have := HLZ.out; omega))
      go_enter Tryz.func104, Tryz.ntmps104
      go_wp2_with fail
      refine HP.out.mono ?_
      rintro e w1 ⟨R, d, rfl, hr, hb1⟩
      rw [HNL.out]
      have HB1 := Lib.hid hb1
      clear HP hr hb1
      go_wp2
      refine bodyPost_ret (v := .tuple #[.slice none 0 0, .int .i64 51]) (by simp [results, Tryz.results104, go_sem]) rfl ?_
      exact RetBE.none_ HB1.out HB.out.1 HB.out.2
    · have HB := Lib.hid (HOK.out (by have := HLZ.out; omega))
      go_enter Tryz.func104, Tryz.ntmps104
      go_wp2_with fail
      refine HP.out.mono ?_
      rintro e w1 ⟨R, d, rfl, hr, hb1⟩
      rw [HNL.out] at hr ⊢
      have hcv1 := conv_bs hr.rd d
      rw [B_L] at hcv1
      have hs1 : l.size + 2 ≤ 9223372036854775807 := by omega
      have hs2 : l.size + 2 + T.size ≤ 9223372036854775807 := by have := HN.out; omega
      have hs3 : l.size + 2 + T.size + 2 ≤ 9223372036854775807 := by have := HN.out; omega
      obtain ⟨cc, W, hcv2, hcr, hcb⟩ := conv_sbC w1 (l ++ ⟨#[13, 10]⟩ ++ T ++ ⟨#[13, 10]⟩)
      have HCR := Lib.hid hcr
      have HB1 := Lib.hid (below_next hb1 hcb)
      have hz1 := hb1.size
      clear HP hr hb1 hcr hcb
      go_wp2
      refine bodyPost_ret (v := .tuple #[.slice (some ⟨w1.heap.size, 0, none⟩) (l ++ ⟨#[13, 10]⟩ ++ T ++ ⟨#[13, 10]⟩).size cc, .int .i64 0]) (by simp [results, Tryz.results104, go_sem]) rfl ?_
      have hL : L (l ++ ⟨#[13, 10]⟩ ++ T ++ ⟨#[13, 10]⟩) = WB := by
        rw [HB.out.1]
        simp only [L_append]
        rfl
      have hS : (l ++ ⟨#[13, 10]⟩ ++ T ++ ⟨#[13, 10]⟩ : ByteArray).size = WB.length := by rw [L_size, hL]
      have hr := HCR.out
      rw [hL, hS] at hr
      rw [HB.out.2, hS]
      exact ⟨_, cc, rfl, hr.mono hz1, HB1.out⟩
  all_goals
    have HB := Lib.hid (whole_bad (l := L l) hp (by decide))
    rw [F.printB_bad (by rw [hp]; decide), hp] at HP
    generalize F.wholeB (L l) fs = WB at *
    generalize F.wholeE (L l) fs = WE at *
    clear hp hx hll hlz hn1
    go_enter Tryz.func104, Tryz.ntmps104
    go_wp2_with fail
    refine HP.out.mono ?_
    rintro e w1 ⟨R, d, rfl, hr, hb1⟩
    have HB1 := Lib.hid hb1
    clear HP hr hb1
    go_wp2
    first
    | (refine bodyPost_ret (v := .tuple #[.slice none 0 0, .int .i64 40]) (by simp [results, Tryz.results104, go_sem]) rfl ?_
       exact RetBE.none_ HB1.out HB.out.1 HB.out.2)
    | (refine bodyPost_ret (v := .tuple #[.slice none 0 0, .int .i64 42]) (by simp [results, Tryz.results104, go_sem]) rfl ?_
       exact RetBE.none_ HB1.out HB.out.1 HB.out.2)

set_option maxRecDepth 100000 in
set_option maxHeartbeats 1000000 in
theorem refWhole_any (l : ByteArray) (A : Option Addr) (c : Nat) (fs : List FD) (w : World) (hl : l.size ≤ 8589934592) (hf : F.bulk fs ≤ 1073741824) (hx : Rd w A fs.length 2 (fcells fs)) :
    Calls Tryz.prog 106 #[.string l, .slice A fs.length c] w (RetBE w (F.wholeB (L l) fs) (F.wholeE (L l) fs)) := by
  have HP := Lib.hid (refPrint_any A c fs w hf hx)
  have hll := F.lines_len fs
  have hn1 : (F.lines fs).length ≤ 4294967296 := by omega
  have hlz := L_size l
  rcases F.printE_cases fs with hp | hp | hp
  · have HBIG := Lib.hid (fun h => whole_big (l := L l) hp h)
    have HOK := Lib.hid (fun h => whole_ok (l := L l) hp h)
    rw [F.printB_ok hp, hp] at HP
    have HLZ := Lib.hid hlz
    generalize F.wholeB (L l) fs = WB at *
    generalize F.wholeE (L l) fs = WE at *
    generalize hT : F.lines fs = T at *
    obtain ⟨N, hN⟩ : ∃ N, N = T.length := ⟨_, rfl⟩
    rw [← hN] at HBIG HOK hn1
    have HN := Lib.hid hN
    clear hp hx hll hlz hT hN
    have hs1 : l.size + 2 ≤ 9223372036854775807 := by omega
    go_enter Tryz.func106, Tryz.ntmps106
    go_wp2_with fail
    refine HP.out.mono ?_
    rintro e w1 ⟨R, d, rfl, hr, hb1⟩
    rw [← HN.out] at hr ⊢
    obtain ⟨cc, W, hcv2, hcr, hcb⟩ := conv_sbC w1 (l ++ ⟨#[13, 10]⟩)
    have hsz : (l ++ ⟨#[13, 10]⟩ : ByteArray).size = l.size + 2 := by rw [ByteArray.size_append]; rfl
    rw [hsz] at hcv2 hcr
    have HCR := Lib.hid (hcr.mono hb1.size)
    have HB1 := Lib.hid (below_next hb1 hcb)
    have hzW := HB1.out.size
    have hrT := (hr.below hcb).rd
    have h63 : l.size + 2 + N ≤ 4398046511104 := by omega
    clear HP hr hb1 hcr hcb hsz
    have hL1 : L (l ++ ⟨#[13, 10]⟩) = L l ++ [13, 10] := by rw [L_append]; rfl
    have HL1 := Lib.hid hL1
    clear hL1
    have HR2 := Lib.hid (fun A2 c2 w2 (hr2 : CRow w2 w.heap.size A2 (l.size + 2 + N) c2 (L (l ++ ⟨#[13, 10]⟩) ++ T)) => hr2.alloc (.cells #[.int .u8 13, .int .u8 10] 5))
    go_wp2_with (first | (at_builtin; refine appC _ rfl (.tmp 20) (.tmp 21) rfl w.heap.size _ (l.size + 2) cc (L (l ++ ⟨#[13, 10]⟩)) rfl HCR.out R N d T rfl hrT h63 hzW ?_; intro A2 c2 w2 hr2 ha2; have HB2 := Lib.hid (HB1.out.trans (ha2.belowC HCR.out hzW)); have hz2 := HB2.out.size; have HR2' := Lib.hid hr2; clear hr2 ha2) | (at_builtin; refine appC _ rfl (.tmp 23) (.tmp 24) rfl w.heap.size A2 (l.size + 2 + N) c2 (L (l ++ ⟨#[13, 10]⟩) ++ T) rfl (HR2.out A2 c2 w2 HR2'.out) (some ⟨w2.heap.size, 0, none⟩) 2 2 [13, 10] rfl (Rd.newRow _ _ #[.int .u8 13, .int .u8 10] 2 1 rfl) (by omega) (by rw [World.size_alloc]; omega) ?_; intro A3 c3 w3 hr3 ha3; have HB3 := Lib.hid ((HB2.out.alloc hz2 _).trans (ha3.belowC (HR2.out A2 c2 w2 HR2'.out) (by rw [World.size_alloc]; omega))); have HR3 := Lib.hid hr3; clear hr3 ha3))
    · have hbig : (8192 : Int) < (l.size : Int) + 2 + (N : Int) + 2 := by assumption
      have HB := HBIG.out (by have := HLZ.out; omega)
      refine bodyPost_ret (v := .tuple #[.slice none 0 0, .int .i64 51]) (by simp [results, Tryz.results106, go_sem]) rfl ?_
      exact RetBE.none_ HB3.out HB.1 HB.2
    · have hbig : (l.size : Int) + 2 + (N : Int) + 2 ≤ 8192 := by assumption
      have HB := HOK.out (by have := HLZ.out; omega)
      refine bodyPost_ret (v := .tuple #[.slice A3 (l.size + 2 + N + 2) c3, .int .i64 0]) (by simp [results, Tryz.results106, go_sem]) rfl ?_
      have hr := HR3.out
      rw [HL1.out, ← HB.1] at hr
      have hlen : WB.length = l.size + 2 + N + 2 := hr.1
      rw [HB.2]
      refine ⟨A3, c3, by rw [hlen], ?_, HB3.out⟩
      rw [hlen]
      exact hr
  all_goals
    have HB := Lib.hid (whole_bad (l := L l) hp (by decide))
    rw [F.printB_bad (by rw [hp]; decide), hp] at HP
    generalize F.wholeB (L l) fs = WB at *
    generalize F.wholeE (L l) fs = WE at *
    clear hp hx hll hlz hn1
    go_enter Tryz.func106, Tryz.ntmps106
    go_wp2_with fail
    refine HP.out.mono ?_
    rintro e w1 ⟨R, d, rfl, hr, hb1⟩
    have HB1 := Lib.hid hb1
    clear HP hr hb1
    go_wp2
    first
    | (refine bodyPost_ret (v := .tuple #[.slice none 0 0, .int .i64 40]) (by simp [results, Tryz.results106, go_sem]) rfl ?_
       exact RetBE.none_ HB1.out HB.out.1 HB.out.2)
    | (refine bodyPost_ret (v := .tuple #[.slice none 0 0, .int .i64 42]) (by simp [results, Tryz.results106, go_sem]) rfl ?_
       exact RetBE.none_ HB1.out HB.out.1 HB.out.2)
end Go.Proofs.YtcdbppoohlabnaaGreatDoor
