/- The walk of the law HeadResponses. Conditions: a row of at most 2^20 bytes; the library's two tables of UTF-8 as its text lays them; internal/bytealg.MaxLen holds some number; strconv's two error variables hold errors. -/
import Derived.Test.YtecopkcogobolaaGreatDoorRefResp
import Derived.Test.YtecopkcogobolaaGreatDoorHeads
import Derived.Test.YtecopkcogobolaaGreatDoorSameT
namespace Go.Proofs.YtecopkcogobolaaGreatDoor
open Go.RowKit

theorem response_fs (bs : List UInt8) : (P.response bs).fs.length ≤ 100 := by
  unfold P.response
  split
  · exact Nat.zero_le _
  · unfold P.respOf
    repeat' split
    all_goals first | exact Nat.zero_le _ | exact (P.parse_facts (P.hBlock bs 0).length [] (P.hBlock bs 0) (Nat.le_refl _) (by simp)).2.1
def aliveS : List UInt8 := [72, 84, 84, 80, 47, 49, 46, 49, 32, 50, 48, 48, 13, 10, 13, 10]
theorem alive_response : P.response aliveS = ⟨200, ⟨#[]⟩, 1, [], 16, 0⟩ := by
  have h1 : P.hE aliveS 0 = 0 := by decide +kernel
  have h2 : P.hN aliveS 0 = 16 := by decide +kernel
  have h3 : P.hLine aliveS 0 = [72, 84, 84, 80, 47, 49, 46, 49, 32, 50, 48, 48] := by decide +kernel
  have h4 : P.hBlock aliveS 0 = [] := by decide +kernel
  unfold P.response
  rw [h1, h2, if_neg (by decide), h3, h4]
  unfold P.respOf
  rw [P.parse_nil, if_neg (by decide +kernel), if_neg (by decide +kernel), if_neg (by decide +kernel), if_neg (by decide)]
  rfl

set_option maxRecDepth 100000 in
set_option maxHeartbeats 4000000 in
theorem headResponses_any (A : Option Addr) (n c : Nat) (bs : List UInt8) (w : World) (hnm : bs.length ≤ 1048576) (hl : bs.length = n) (hnc : n ≤ c) (hx : Rd w A n 1 (bcells bs)) (ht : LibOk w) (he : ErrOk w) :
    Calls Tryz.prog 6 #[.slice A n c] w (RetB w true) := by
  subst hl
  have HSP := Lib.hid (fun (u : World) (hu : Below w.heap.size w u) => spare_any A c bs u (by omega) (hx.below hu))
  have HRQ := Lib.hid (fun (g c3 : Nat) (u : World) (hu : Below w.heap.size w u) (hc : bs.length ≤ c3) (hr : Rd u (some ⟨g, 0, none⟩) bs.length 1 (bcells bs)) => hresponse_any (some ⟨g, 0, none⟩) bs.length c3 bs u (by omega) hc (fun h => by cases h) (fun a h => by cases h; exact .inl rfl) hr (ht.below hu) (he.below hu))
  have HRR := Lib.hid (fun (u : World) (hu : Below w.heap.size w u) => refHResponse_any A bs.length c bs u (by omega) hnc (hx.below hu))
  have HLM : Hid ((bs ++ marks).length = bs.length + 8) := by rw [List.length_append]; exact Lib.hid rfl
  have HMK : Hid (marks.length = 8) := Lib.hid rfl
  have hfl := response_fs bs
  have hb0 := (Below.refl w.heap.size w).alloc (Nat.le_refl _) (.cells #[.int .u8 72, .int .u8 84, .int .u8 84, .int .u8 80, .int .u8 47, .int .u8 49, .int .u8 46, .int .u8 49, .int .u8 32, .int .u8 50, .int .u8 48, .int .u8 48, .int .u8 13, .int .u8 10, .int .u8 13, .int .u8 10] 5 (16, 17))
  have HB0 := Lib.hid hb0
  have HQ : Hid (Calls Tryz.prog 34 #[.slice (some ⟨w.heap.size, 0, none⟩) 16 16] (w.alloc (.cells #[.int .u8 72, .int .u8 84, .int .u8 84, .int .u8 80, .int .u8 47, .int .u8 49, .int .u8 46, .int .u8 49, .int .u8 32, .int .u8 50, .int .u8 48, .int .u8 48, .int .u8 13, .int .u8 10, .int .u8 13, .int .u8 10] 5 (16, 17))) (RetResp (w.alloc (.cells #[.int .u8 72, .int .u8 84, .int .u8 84, .int .u8 80, .int .u8 47, .int .u8 49, .int .u8 46, .int .u8 49, .int .u8 32, .int .u8 50, .int .u8 48, .int .u8 48, .int .u8 13, .int .u8 10, .int .u8 13, .int .u8 10] 5 (16, 17))) ⟨200, ⟨#[]⟩, 1, [], 16, 0⟩)) := Lib.hid (by
    rw [← alive_response]
    exact hresponse_any (some ⟨w.heap.size, 0, none⟩) 16 16 aliveS _ (by decide) (Nat.le_refl _) (fun h => by cases h) (fun a h => by cases h; exact .inl rfl) (Rd.newRowM w 5 #[.int .u8 72, .int .u8 84, .int .u8 84, .int .u8 80, .int .u8 47, .int .u8 49, .int .u8 46, .int .u8 49, .int .u8 32, .int .u8 50, .int .u8 48, .int .u8 48, .int .u8 13, .int .u8 10, .int .u8 13, .int .u8 10] (16, 17) 16 1 rfl) (ht.below hb0) (he.below hb0))
  have hcc := Lib.run_convert_bytes_const (P := Tryz.prog) w 27 5 #[.int .u8 72, .int .u8 84, .int .u8 84, .int .u8 80, .int .u8 47, .int .u8 49, .int .u8 46, .int .u8 49, .int .u8 32, .int .u8 50, .int .u8 48, .int .u8 48, .int .u8 13, .int .u8 10, .int .u8 13, .int .u8 10] 16 16 Tryz.underlying27 Tryz.underlying5
  obtain ⟨Q, hQ⟩ : ∃ Q, P.response bs = Q := ⟨_, rfl⟩
  rw [hQ] at HRQ HRR hfl
  obtain ⟨s, r, v, fs, N, E⟩ := Q
  replace hfl : fs.length ≤ 100 := hfl
  clear hx ht he hQ hb0
  go_enter Tryz.func6, Tryz.ntmps6
  go_wp2_with fail
  clear hcc
  generalize w.alloc (.cells #[.int .u8 72, .int .u8 84, .int .u8 84, .int .u8 80, .int .u8 47, .int .u8 49, .int .u8 46, .int .u8 49, .int .u8 32, .int .u8 50, .int .u8 48, .int .u8 48, .int .u8 13, .int .u8 10, .int .u8 13, .int .u8 10] 5 (16, 17)) = w0 at *
  refine HQ.out.mono ?_
  rintro e w1 ⟨A1, c1, rfl, hr1, hb1⟩
  have hB1 := below_then HB0.out.size HB0.out hb1
  have HB1 := Lib.hid (hB1.alloc hB1.size (.cells #[.int .i64 200, .string ⟨#[]⟩, .int .i64 1, .slice A1 0 c1] 26))
  have HK1 := Lib.hid (Blk.new w1 #[.int .i64 200, .string ⟨#[]⟩, .int .i64 1, .slice A1 0 c1] 26)
  have HZ1 : Hid (w.heap.size ≤ w1.heap.size) := Lib.hid hB1.size
  clear hb1 hr1 hB1 HQ HB0
  obtain ⟨x0, x1, x2, x3⟩ := HK1.out.cells4
  go_wp2_with fail
  clear x0 x1 x2 x3
  generalize w1.heap.size = b1 at *
  generalize w1.alloc (.cells #[.int .i64 200, .string ⟨#[]⟩, .int .i64 1, .slice A1 0 c1] 26) = w2 at *
  refine (HSP.out _ HB1.out).mono ?_
  rintro e w3 ⟨A3, c3, e3, hr3, hb3⟩
  rw [HLM.out] at e3 hr3
  subst e3
  have hc3 := hr3.2.1
  obtain ⟨g, rfl, hgb⟩ : ∃ g, A3 = some ⟨g, 0, none⟩ ∧ w2.heap.size ≤ g := by
    rcases hr3.2.2 with h | ⟨g, h, h2, _⟩
    · omega
    · exact ⟨g, h, h2⟩
  have hbg : b1 ≠ g := by have := HK1.out.lt; omega
  have hrd := hr3.rd
  rw [← HMK.out] at hrd
  have HK3 := Lib.hid (HK1.out.below hb3)
  have HB3 := Lib.hid (below_then HB1.out.size HB1.out hb3)
  have HR3 := Lib.hid hrd
  have hc4 : bs.length ≤ c3 := by omega
  have hc5 : (bs.length : Int) ≤ (c3 : Int) := by omega
  clear hb3 hr3 hrd HK1 HB1
  go_wp2_with fail
  refine (HRQ.out g c3 _ HB3.out hc4 (rd_frontH HR3.out)).mono ?_
  rintro e w4 ⟨A4, c4, rfl, hr4, hb4⟩
  have HK4 := Lib.hid (HK3.out.below hb4)
  have HB4 := Lib.hid (below_then HB3.out.size HB3.out hb4)
  have HM4 := Lib.hid (HR3.out.below hb4)
  have HR4 := Lib.hid ((show Row w4 w3.heap.size 67 2 A4 fs.length c4 (fcells fs) from hr4).farT4 HK4.out (by decide) (.int .i64 s) (.string r) (.int .i64 v) (.slice A4 fs.length c4)).rd
  have HL4 := Lib.hid (HK4.out.set4 (.int .i64 s) (.string r) (.int .i64 v) (.slice A4 fs.length c4))
  have HN4 := Lib.hid (HM4.out.set4 b1 (fun _ p hp => by cases hp; exact fun h => hbg h.symm) (.int .i64 s) (.string r) (.int .i64 v) (.slice A4 fs.length c4))
  have HC4 := Lib.hid (below_four HB4.out HZ1.out (.int .i64 s) (.string r) (.int .i64 v) (.slice A4 fs.length c4))
  obtain ⟨x0, x1, x2, x3⟩ := HK4.out.cells4
  obtain ⟨f0, f1, f2, f3⟩ := HK4.out.free4
  clear hb4 hr4 HK3 HB3 HR3 HRQ HK4 HB4 HM4 hbg
  go_wp2_with fail
  clear x0 x1 x2 x3 f0 f1 f2 f3
  generalize ((((w4.setCell ⟨b1, 0, none⟩ (.int .i64 s)).setCell ⟨b1, 1, none⟩ (.string r)).setCell ⟨b1, 2, none⟩ (.int .i64 v)).setCell ⟨b1, 3, none⟩ (.slice A4 fs.length c4)) = w5 at *
  refine (HRR.out _ HC4.out).mono ?_
  rintro e w6 ⟨A6, c6, rfl, hr6, hb6⟩
  have hB6 := below_then HC4.out.size HC4.out hb6
  have HB6 := Lib.hid (hB6.alloc hB6.size (.cells #[.int .i64 s, .string r, .int .i64 v, .slice A6 fs.length c6] 26))
  have HK6 := Lib.hid ((HL4.out.below hb6).alloc (.cells #[.int .i64 s, .string r, .int .i64 v, .slice A6 fs.length c6] 26))
  have HL6 := Lib.hid (Blk.new w6 #[.int .i64 s, .string r, .int .i64 v, .slice A6 fs.length c6] 26)
  have HR46 := Lib.hid ((HR4.below hb6).alloc (.cells #[.int .i64 s, .string r, .int .i64 v, .slice A6 fs.length c6] 26))
  have HR6 := Lib.hid (hr6.rd.alloc (.cells #[.int .i64 s, .string r, .int .i64 v, .slice A6 fs.length c6] 26))
  have HM6 := Lib.hid ((HN4.out.below hb6).alloc (.cells #[.int .i64 s, .string r, .int .i64 v, .slice A6 fs.length c6] 26))
  clear hb6 hr6 hB6 HL4 HR4 HN4 HC4 HRR
  obtain ⟨x0, x1, x2, x3⟩ := HK6.out.cells4
  obtain ⟨y0, y1, y2, y3⟩ := HL6.out.cells4
  go_wp2_with fail
  clear x0 x1 x2 x3 y0 y1 y2 y3
  generalize w6.alloc (.cells #[.int .i64 s, .string r, .int .i64 v, .slice A6 fs.length c6] 26) = w7 at *
  refine (sameTR s v r A4 A6 c4 c6 fs w7 (by omega) HR46.out HR6.out).mono ?_
  rintro e w8 ⟨rfl, hb8⟩
  have HB8 := Lib.hid (below_then HB6.out.size HB6.out hb8)
  have HM8 := Lib.hid (HM6.out.below hb8)
  clear hb8 HB6 HM6 HK6 HL6 HR46 HR6
  go_wp2_with fail
  refine (HSP.out _ HB8.out).mono ?_
  rintro e w9 ⟨A9, c9, e9, hr9, hb9⟩
  rw [HLM.out] at e9 hr9
  subst e9
  have HR9 := Lib.hid hr9.rd
  have HB9 := Lib.hid (below_then HB8.out.size HB8.out hb9)
  have HM9 : Hid (Rd w9 (some ⟨g, 0, none⟩) (bs.length + 8) 1 (bcells (bs ++ marks))) := by
    have := HM8.out.below hb9
    rw [HMK.out] at this
    exact Lib.hid this
  clear hb9 hr9 HSP HB8 HM8
  go_wp2_with fail
  refine (sameTB (some ⟨g, 0, none⟩) A9 (bs.length + 8) c3 c9 (bs ++ marks) w9 (by omega) HLM.out HM9.out HR9.out).mono ?_
  rintro e w10 ⟨rfl, hb10⟩
  have HB10 := Lib.hid (below_then HB9.out.size HB9.out hb10)
  clear hb10 HB9 HM9 HR9
  go_wp2
  go_ret
  exact ⟨rfl, HB10.out⟩
end Go.Proofs.YtecopkcogobolaaGreatDoor
