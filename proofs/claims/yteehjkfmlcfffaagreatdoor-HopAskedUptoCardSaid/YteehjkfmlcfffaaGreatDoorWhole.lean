/- The walks of head.whole, head.PrintRequest and of the document's. Conditions: a list of bulk at most 2^30, texts of at most 2^30 bytes, a number of 64 bits, the library's table of powers of ten. -/
import Derived.Test.YteehjkfmlcfffaaGreatDoorPrint
import Derived.Test.YteehjkfmlcfffaaGreatDoorShow
import Derived.Lib.ItoaLen
namespace Go.Proofs.YteehjkfmlcfffaaGreatDoor
open Go.RowKit

theorem whole_bad {l : List UInt8} {fs : List FD} {c : Int} (h : F.printE fs = c) (hc : c ≠ 0) : F.wholeB l fs = [] ∧ F.wholeE l fs = c := by
  have h1 : F.wholeE l fs = c := by unfold F.wholeE; rw [if_neg (by rw [h]; exact hc), h]
  exact ⟨if_neg (by rw [h1]; exact hc), h1⟩
theorem whole_big {l : List UInt8} {fs : List FD} (h : F.printE fs = 0) (hc : 8192 < l.length + (F.lines fs).length + 4) : F.wholeB l fs = [] ∧ F.wholeE l fs = 51 := by
  have h1 : F.wholeE l fs = 51 := by unfold F.wholeE; rw [if_pos h, if_pos hc]
  exact ⟨if_neg (by rw [h1]; decide), h1⟩
theorem whole_ok {l : List UInt8} {fs : List FD} (h : F.printE fs = 0) (hc : ¬ 8192 < l.length + (F.lines fs).length + 4) : F.wholeB l fs = l ++ [13, 10] ++ F.lines fs ++ [13, 10] ∧ F.wholeE l fs = 0 := by
  have h1 : F.wholeE l fs = 0 := by unfold F.wholeE; rw [if_pos h, if_neg hc]
  exact ⟨if_pos h1, h1⟩

set_option maxRecDepth 100000 in
set_option maxHeartbeats 1000000 in
theorem whole_any (l : ByteArray) (A : Option Addr) (c : Nat) (fs : List FD) (w : World) (hl : l.size ≤ 8589934592) (hf : F.bulk fs ≤ 1073741824) (hx : Rd w A fs.length 2 (fcells fs)) :
    Calls Tryz.prog 167 #[.string l, .slice A fs.length c] w (RetBE w (F.wholeB (L l) fs) (F.wholeE (L l) fs)) := by
  have HP := Lib.hid (print_any A c fs w hf hx)
  have hll := F.lines_len fs
  have hn1 : (F.lines fs).length ≤ 4294967296 := by omega
  have hlz := L_size l
  rcases F.printE_cases fs with hp | hp | hp
  · have HBIG := Lib.hid (fun h => whole_big (l := L l) hp h)
    have HOK := Lib.hid (fun h => whole_ok (l := L l) hp h)
    rw [F.printB_ok hp, hp] at HP
    have HLZ := Lib.hid hlz
    generalize F.wholeB (L l) fs = WB at *
    generalize F.wholeE (L l) fs = WE at *
    obtain ⟨T, hT⟩ : ∃ T, T = B (F.lines fs) := ⟨_, rfl⟩
    have hTl : F.lines fs = L T := by rw [hT]; rfl
    obtain ⟨N, hN⟩ : ∃ N, N = T.size := ⟨_, rfl⟩
    have hNl : (L T).length = N := by rw [hN, L_size]
    rw [hTl] at HBIG HOK HP hn1
    rw [hNl] at HBIG HOK hn1
    have HNL := Lib.hid hNl
    have HN := Lib.hid hN
    clear hp hx hll hlz hT hTl hN hNl
    by_cases hbig : 8192 < l.size + N + 4
    · have HB := Lib.hid (HBIG.out (by have := HLZ.out; omega))
      go_enter Tryz.func167, Tryz.ntmps167
      go_wp2_with fail
      refine HP.out.mono ?_
      rintro e w1 ⟨R, d, rfl, hr, hb1⟩
      rw [HNL.out]
      have HB1 := Lib.hid hb1
      clear HP hr hb1
      go_wp2
      refine bodyPost_ret (v := .tuple #[.slice none 0 0, .int .i64 51]) (by simp [results, Tryz.results167, go_sem]) rfl ?_
      exact RetBE.none_ HB1.out HB.out.1 HB.out.2
    · have HB := Lib.hid (HOK.out (by have := HLZ.out; omega))
      go_enter Tryz.func167, Tryz.ntmps167
      go_wp2_with fail
      refine HP.out.mono ?_
      rintro e w1 ⟨R, d, rfl, hr, hb1⟩
      rw [HNL.out] at hr ⊢
      have hcv1 := conv_bs hr.rd d
      rw [B_L] at hcv1
      have hs1 : l.size + 2 ≤ 9223372036854775807 := by omega
      have hs2 : l.size + 2 + T.size ≤ 9223372036854775807 := by have := HN.out; omega
      have hs3 : l.size + 2 + T.size + 2 ≤ 9223372036854775807 := by have := HN.out; omega
      obtain ⟨cc, W, hcv2, hcr, hcb⟩ := conv_sbC w1 (l ++ ⟨#[13, 10]⟩ ++ T ++ ⟨#[13, 10]⟩)
      have HCR := Lib.hid hcr
      have HB1 := Lib.hid (below_next hb1 hcb)
      have hz1 := hb1.size
      clear HP hr hb1 hcr hcb
      go_wp2
      refine bodyPost_ret (v := .tuple #[.slice (some ⟨w1.heap.size, 0, none⟩) (l ++ ⟨#[13, 10]⟩ ++ T ++ ⟨#[13, 10]⟩).size cc, .int .i64 0]) (by simp [results, Tryz.results167, go_sem]) rfl ?_
      have hL : L (l ++ ⟨#[13, 10]⟩ ++ T ++ ⟨#[13, 10]⟩) = WB := by
        rw [HB.out.1]
        simp only [L_append]
        rfl
      have hS : (l ++ ⟨#[13, 10]⟩ ++ T ++ ⟨#[13, 10]⟩ : ByteArray).size = WB.length := by rw [L_size, hL]
      have hr := HCR.out
      rw [hL, hS] at hr
      rw [HB.out.2, hS]
      exact ⟨_, cc, rfl, hr.mono hz1, HB1.out⟩
  all_goals
    have HB := Lib.hid (whole_bad (l := L l) hp (by decide))
    rw [F.printB_bad (by rw [hp]; decide), hp] at HP
    generalize F.wholeB (L l) fs = WB at *
    generalize F.wholeE (L l) fs = WE at *
    clear hp hx hll hlz hn1
    go_enter Tryz.func167, Tryz.ntmps167
    go_wp2_with fail
    refine HP.out.mono ?_
    rintro e w1 ⟨R, d, rfl, hr, hb1⟩
    have HB1 := Lib.hid hb1
    clear HP hr hb1
    go_wp2
    first
    | (refine bodyPost_ret (v := .tuple #[.slice none 0 0, .int .i64 40]) (by simp [results, Tryz.results167, go_sem]) rfl ?_
       exact RetBE.none_ HB1.out HB.out.1 HB.out.2)
    | (refine bodyPost_ret (v := .tuple #[.slice none 0 0, .int .i64 42]) (by simp [results, Tryz.results167, go_sem]) rfl ?_
       exact RetBE.none_ HB1.out HB.out.1 HB.out.2)

end Go.Proofs.YteehjkfmlcfffaaGreatDoor
