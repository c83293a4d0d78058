/- The walk of the law InboxExpects. Conditions: a row of at most 2^20 bytes; the library's two tables of UTF-8; internal/bytealg.MaxLen. -/
import Derived.Test.YtnmldbcgpfglkaaGreatDoorInboxE
import Derived.Test.YtnmldbcgpfglkaaGreatDoorHeads
namespace Go.Proofs.YtnmldbcgpfglkaaGreatDoor
open Go.RowKit

namespace P
def expB : List UInt8 := [80, 32, 47, 32, 72, 84, 84, 80, 47, 49, 46, 49, 13, 10, 72, 111, 115, 116, 58, 32, 97, 13, 10, 69, 120, 112, 101, 99, 116, 58, 32, 49, 48, 48, 45, 67, 111, 110, 116, 105, 110, 117, 101, 13, 10, 67, 111, 110, 116, 101, 110, 116, 45, 76, 101, 110, 103, 116, 104, 58, 32, 49, 13, 10, 13, 10]
def expQ : RQ := ⟨⟨#[80]⟩, ⟨#[47]⟩, 1, [(⟨#[72, 111, 115, 116]⟩, ⟨#[97]⟩), (⟨#[69, 120, 112, 101, 99, 116]⟩, ⟨#[49, 48, 48, 45, 67, 111, 110, 116, 105, 110, 117, 101]⟩), (⟨#[67, 111, 110, 116, 101, 110, 116, 45, 76, 101, 110, 103, 116, 104]⟩, ⟨#[49]⟩)], 66, 0⟩
theorem exp_parse : parse [] [72, 111, 115, 116, 58, 32, 97, 13, 10, 69, 120, 112, 101, 99, 116, 58, 32, 49, 48, 48, 45, 67, 111, 110, 116, 105, 110, 117, 101, 13, 10, 67, 111, 110, 116, 101, 110, 116, 45, 76, 101, 110, 103, 116, 104, 58, 32, 49, 13, 10] = ([(⟨#[72, 111, 115, 116]⟩, ⟨#[97]⟩), (⟨#[69, 120, 112, 101, 99, 116]⟩, ⟨#[49, 48, 48, 45, 67, 111, 110, 116, 105, 110, 117, 101]⟩), (⟨#[67, 111, 110, 116, 101, 110, 116, 45, 76, 101, 110, 103, 116, 104]⟩, ⟨#[49]⟩)], 0) := by
  rw [parse_step _ (by decide) (show from_ eol [72, 111, 115, 116, 58, 32, 97, 13, 10, 69, 120, 112, 101, 99, 116, 58, 32, 49, 48, 48, 45, 67, 111, 110, 116, 105, 110, 117, 101, 13, 10, 67, 111, 110, 116, 101, 110, 116, 45, 76, 101, 110, 103, 116, 104, 58, 32, 49, 13, 10] = 13 :: 10 :: [69, 120, 112, 101, 99, 116, 58, 32, 49, 48, 48, 45, 67, 111, 110, 116, 105, 110, 117, 101, 13, 10, 67, 111, 110, 116, 101, 110, 116, 45, 76, 101, 110, 103, 116, 104, 58, 32, 49, 13, 10] by decide), if_neg (by decide +kernel), if_neg (by decide)]
  rw [parse_step _ (by decide) (show from_ eol [69, 120, 112, 101, 99, 116, 58, 32, 49, 48, 48, 45, 67, 111, 110, 116, 105, 110, 117, 101, 13, 10, 67, 111, 110, 116, 101, 110, 116, 45, 76, 101, 110, 103, 116, 104, 58, 32, 49, 13, 10] = 13 :: 10 :: [67, 111, 110, 116, 101, 110, 116, 45, 76, 101, 110, 103, 116, 104, 58, 32, 49, 13, 10] by decide), if_neg (by decide +kernel), if_neg (by decide)]
  rw [parse_step _ (by decide) (show from_ eol [67, 111, 110, 116, 101, 110, 116, 45, 76, 101, 110, 103, 116, 104, 58, 32, 49, 13, 10] = 13 :: 10 :: [] by decide), if_neg (by decide +kernel), if_neg (by decide)]
  rw [parse_nil]
  rfl
theorem exp_request : request expB = expQ := by
  have h1 : hE expB (skip expB) = 0 := by decide +kernel
  have h2 : hN expB (skip expB) = 66 := by decide +kernel
  have h3 : hLine expB (skip expB) = [80, 32, 47, 32, 72, 84, 84, 80, 47, 49, 46, 49] := by decide +kernel
  have h4 : hBlock expB (skip expB) = [72, 111, 115, 116, 58, 32, 97, 13, 10, 69, 120, 112, 101, 99, 116, 58, 32, 49, 48, 48, 45, 67, 111, 110, 116, 105, 110, 117, 101, 13, 10, 67, 111, 110, 116, 101, 110, 116, 45, 76, 101, 110, 103, 116, 104, 58, 32, 49, 13, 10] := by decide +kernel
  unfold request
  rw [h1, h2, if_neg (by decide), h3, h4]
  unfold reqOf
  rw [exp_parse, if_neg (by decide +kernel), if_neg (by decide +kernel), if_neg (by decide), if_neg (by decide +kernel)]
  rfl
theorem exp_yes : expR (request expB) = true := by
  rw [exp_request]
  decide +kernel
end P
set_option maxRecDepth 100000 in
set_option maxHeartbeats 2000000 in
theorem inboxExpects_any (A : Option Addr) (n c : Nat) (bs : List UInt8) (w : World) (hnm : bs.length ≤ 1048576) (hl : bs.length = n) (hnc : n ≤ c) (hx : Rd w A n 1 (bcells bs)) (ht : LibOk w) :
    Calls Tryz.prog 12 #[.slice A n c] w (RetB w true) := by
  subst hl
  have hb0 := (Below.refl w.heap.size w).alloc (Nat.le_refl _) (.cells #[.int .u8 80, .int .u8 32, .int .u8 47, .int .u8 32, .int .u8 72, .int .u8 84, .int .u8 84, .int .u8 80, .int .u8 47, .int .u8 49, .int .u8 46, .int .u8 49, .int .u8 13, .int .u8 10, .int .u8 72, .int .u8 111, .int .u8 115, .int .u8 116, .int .u8 58, .int .u8 32, .int .u8 97, .int .u8 13, .int .u8 10, .int .u8 69, .int .u8 120, .int .u8 112, .int .u8 101, .int .u8 99, .int .u8 116, .int .u8 58, .int .u8 32, .int .u8 49, .int .u8 48, .int .u8 48, .int .u8 45, .int .u8 67, .int .u8 111, .int .u8 110, .int .u8 116, .int .u8 105, .int .u8 110, .int .u8 117, .int .u8 101, .int .u8 13, .int .u8 10, .int .u8 67, .int .u8 111, .int .u8 110, .int .u8 116, .int .u8 101, .int .u8 110, .int .u8 116, .int .u8 45, .int .u8 76, .int .u8 101, .int .u8 110, .int .u8 103, .int .u8 116, .int .u8 104, .int .u8 58, .int .u8 32, .int .u8 49, .int .u8 13, .int .u8 10, .int .u8 13, .int .u8 10] 5 (66, 67))
  have HB0 := Lib.hid hb0
  have HQ : Hid (Calls Tryz.prog 34 #[.slice (some ⟨w.heap.size, 0, none⟩) 66 66] (w.alloc (.cells #[.int .u8 80, .int .u8 32, .int .u8 47, .int .u8 32, .int .u8 72, .int .u8 84, .int .u8 84, .int .u8 80, .int .u8 47, .int .u8 49, .int .u8 46, .int .u8 49, .int .u8 13, .int .u8 10, .int .u8 72, .int .u8 111, .int .u8 115, .int .u8 116, .int .u8 58, .int .u8 32, .int .u8 97, .int .u8 13, .int .u8 10, .int .u8 69, .int .u8 120, .int .u8 112, .int .u8 101, .int .u8 99, .int .u8 116, .int .u8 58, .int .u8 32, .int .u8 49, .int .u8 48, .int .u8 48, .int .u8 45, .int .u8 67, .int .u8 111, .int .u8 110, .int .u8 116, .int .u8 105, .int .u8 110, .int .u8 117, .int .u8 101, .int .u8 13, .int .u8 10, .int .u8 67, .int .u8 111, .int .u8 110, .int .u8 116, .int .u8 101, .int .u8 110, .int .u8 116, .int .u8 45, .int .u8 76, .int .u8 101, .int .u8 110, .int .u8 103, .int .u8 116, .int .u8 104, .int .u8 58, .int .u8 32, .int .u8 49, .int .u8 13, .int .u8 10, .int .u8 13, .int .u8 10] 5 (66, 67))) (RetB (w.alloc (.cells #[.int .u8 80, .int .u8 32, .int .u8 47, .int .u8 32, .int .u8 72, .int .u8 84, .int .u8 84, .int .u8 80, .int .u8 47, .int .u8 49, .int .u8 46, .int .u8 49, .int .u8 13, .int .u8 10, .int .u8 72, .int .u8 111, .int .u8 115, .int .u8 116, .int .u8 58, .int .u8 32, .int .u8 97, .int .u8 13, .int .u8 10, .int .u8 69, .int .u8 120, .int .u8 112, .int .u8 101, .int .u8 99, .int .u8 116, .int .u8 58, .int .u8 32, .int .u8 49, .int .u8 48, .int .u8 48, .int .u8 45, .int .u8 67, .int .u8 111, .int .u8 110, .int .u8 116, .int .u8 105, .int .u8 110, .int .u8 117, .int .u8 101, .int .u8 13, .int .u8 10, .int .u8 67, .int .u8 111, .int .u8 110, .int .u8 116, .int .u8 101, .int .u8 110, .int .u8 116, .int .u8 45, .int .u8 76, .int .u8 101, .int .u8 110, .int .u8 103, .int .u8 116, .int .u8 104, .int .u8 58, .int .u8 32, .int .u8 49, .int .u8 13, .int .u8 10, .int .u8 13, .int .u8 10] 5 (66, 67))) true)) := Lib.hid (by
    rw [← P.exp_yes]
    exact expects_any (some ⟨w.heap.size, 0, none⟩) 66 66 P.expB _ (by decide) (Nat.le_refl _) (fun h => by cases h) (fun a h => by cases h; exact .inl rfl) (Rd.newRowM w 5 #[.int .u8 80, .int .u8 32, .int .u8 47, .int .u8 32, .int .u8 72, .int .u8 84, .int .u8 84, .int .u8 80, .int .u8 47, .int .u8 49, .int .u8 46, .int .u8 49, .int .u8 13, .int .u8 10, .int .u8 72, .int .u8 111, .int .u8 115, .int .u8 116, .int .u8 58, .int .u8 32, .int .u8 97, .int .u8 13, .int .u8 10, .int .u8 69, .int .u8 120, .int .u8 112, .int .u8 101, .int .u8 99, .int .u8 116, .int .u8 58, .int .u8 32, .int .u8 49, .int .u8 48, .int .u8 48, .int .u8 45, .int .u8 67, .int .u8 111, .int .u8 110, .int .u8 116, .int .u8 105, .int .u8 110, .int .u8 117, .int .u8 101, .int .u8 13, .int .u8 10, .int .u8 67, .int .u8 111, .int .u8 110, .int .u8 116, .int .u8 101, .int .u8 110, .int .u8 116, .int .u8 45, .int .u8 76, .int .u8 101, .int .u8 110, .int .u8 103, .int .u8 116, .int .u8 104, .int .u8 58, .int .u8 32, .int .u8 49, .int .u8 13, .int .u8 10, .int .u8 13, .int .u8 10] (66, 67) 66 1 rfl) (ht.below hb0))
  have hcc := Lib.run_convert_bytes_const (P := Tryz.prog) w 22 5 #[.int .u8 80, .int .u8 32, .int .u8 47, .int .u8 32, .int .u8 72, .int .u8 84, .int .u8 84, .int .u8 80, .int .u8 47, .int .u8 49, .int .u8 46, .int .u8 49, .int .u8 13, .int .u8 10, .int .u8 72, .int .u8 111, .int .u8 115, .int .u8 116, .int .u8 58, .int .u8 32, .int .u8 97, .int .u8 13, .int .u8 10, .int .u8 69, .int .u8 120, .int .u8 112, .int .u8 101, .int .u8 99, .int .u8 116, .int .u8 58, .int .u8 32, .int .u8 49, .int .u8 48, .int .u8 48, .int .u8 45, .int .u8 67, .int .u8 111, .int .u8 110, .int .u8 116, .int .u8 105, .int .u8 110, .int .u8 117, .int .u8 101, .int .u8 13, .int .u8 10, .int .u8 67, .int .u8 111, .int .u8 110, .int .u8 116, .int .u8 101, .int .u8 110, .int .u8 116, .int .u8 45, .int .u8 76, .int .u8 101, .int .u8 110, .int .u8 103, .int .u8 116, .int .u8 104, .int .u8 58, .int .u8 32, .int .u8 49, .int .u8 13, .int .u8 10, .int .u8 13, .int .u8 10] 66 66 Tryz.underlying22 Tryz.underlying5
  have HCB := Lib.hid (fun (u : World) (hu : Below w.heap.size w u) => copyBytes_any A c bs u (by omega) (hx.below hu))
  have HE := Lib.hid (fun (A1 : Option Addr) (c1 : Nat) (u0 u : World) (hu : Below w.heap.size w u) (hr : CRow u u0.heap.size A1 bs.length c1 bs) => expects_any A1 bs.length c1 bs u (by omega) hr.2.1 hr.nilE hr.spotE hr.rd (ht.below hu))
  have HR := Lib.hid (fun (u : World) (hu : Below w.heap.size w u) => refExpects_any A bs.length c bs u (by omega) hnc (hx.below hu))
  obtain ⟨q, hq⟩ : ∃ q, P.expR (P.request bs) = q := ⟨_, rfl⟩
  rw [hq] at HE HR
  clear hb0 hx ht hq
  go_enter Tryz.func12, Tryz.ntmps12
  go_wp2_with fail
  clear hcc
  generalize w.alloc (.cells #[.int .u8 80, .int .u8 32, .int .u8 47, .int .u8 32, .int .u8 72, .int .u8 84, .int .u8 84, .int .u8 80, .int .u8 47, .int .u8 49, .int .u8 46, .int .u8 49, .int .u8 13, .int .u8 10, .int .u8 72, .int .u8 111, .int .u8 115, .int .u8 116, .int .u8 58, .int .u8 32, .int .u8 97, .int .u8 13, .int .u8 10, .int .u8 69, .int .u8 120, .int .u8 112, .int .u8 101, .int .u8 99, .int .u8 116, .int .u8 58, .int .u8 32, .int .u8 49, .int .u8 48, .int .u8 48, .int .u8 45, .int .u8 67, .int .u8 111, .int .u8 110, .int .u8 116, .int .u8 105, .int .u8 110, .int .u8 117, .int .u8 101, .int .u8 13, .int .u8 10, .int .u8 67, .int .u8 111, .int .u8 110, .int .u8 116, .int .u8 101, .int .u8 110, .int .u8 116, .int .u8 45, .int .u8 76, .int .u8 101, .int .u8 110, .int .u8 103, .int .u8 116, .int .u8 104, .int .u8 58, .int .u8 32, .int .u8 49, .int .u8 13, .int .u8 10, .int .u8 13, .int .u8 10] 5 (66, 67)) = w0 at *
  refine HQ.out.mono ?_
  rintro e w1 ⟨rfl, hb1⟩
  have HB1 := Lib.hid (below_then HB0.out.size HB0.out hb1)
  clear hb1 HQ HB0
  go_wp2_with fail
  refine (HCB.out _ HB1.out).mono ?_
  rintro e w2 ⟨A2, c2, rfl, hr2, hb2⟩
  have HB2 := Lib.hid (below_then HB1.out.size HB1.out hb2)
  have HR2 := Lib.hid hr2
  clear hr2 hb2 HCB HB1
  go_wp2_with fail
  refine (HE.out A2 c2 w1 _ HB2.out HR2.out).mono ?_
  rintro e w3 ⟨rfl, hb3⟩
  have HB3 := Lib.hid (below_then HB2.out.size HB2.out hb3)
  clear hb3 HE HB2 HR2
  go_wp2_with fail
  refine (HR.out _ HB3.out).mono ?_
  rintro e w4 ⟨rfl, hb4⟩
  have HB4 := Lib.hid (below_then HB3.out.size HB3.out hb4)
  clear hb4 HR HB3
  cases q
  all_goals
    go_wp2
    go_ret
    exact ⟨rfl, HB4.out⟩
end Go.Proofs.YtnmldbcgpfglkaaGreatDoor
