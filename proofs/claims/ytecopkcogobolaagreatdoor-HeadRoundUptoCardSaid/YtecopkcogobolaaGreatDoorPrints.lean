/- The walk of the law HeadPrints. Conditions: lists of bulk at most 2^20, texts of at most 2^20 bytes, numbers of 64 bits; the library's tables. -/
import Derived.Test.YtecopkcogobolaaGreatDoorHeads
import Derived.Test.YtecopkcogobolaaGreatDoorPReq
import Derived.Test.YtecopkcogobolaaGreatDoorRPResp
import Derived.Test.YtecopkcogobolaaGreatDoorSameT
namespace Go.Proofs.YtecopkcogobolaaGreatDoor
open Go.RowKit

theorem reqB_le (s t : ByteArray) (m : Int) (fs : List FD) : (F.reqB s t m fs).length ≤ 8192 := by
  unfold F.reqB
  split
  · exact F.wholeB_len _ _
  · simp
theorem respB_le (s : Int) (r : ByteArray) (m : Int) (fs : List FD) : (F.respB s r m fs).length ≤ 8192 := by
  unfold F.respB
  split
  · exact F.wholeB_len _ _
  · simp

set_option maxRecDepth 100000 in
set_option maxHeartbeats 4000000 in
theorem headPrints_any (s t : ByteArray) (m : Int) (A : Option Addr) (c : Nat) (fs : List FD) (k : Int) (r : ByteArray) (v : Int) (B0 : Option Addr) (d : Nat) (gs : List FD) (w : World)
    (hs : s.size ≤ 1048576) (hts : t.size ≤ 1048576) (h0 : -9223372036854775808 ≤ m) (h1 : m ≤ 9223372036854775807) (hf : F.bulk fs ≤ 1048576) (hx : Rd w A fs.length 2 (fcells fs)) (hr : r.size ≤ 1048576) (hg : F.bulk gs ≤ 1048576) (hy : Rd w B0 gs.length 2 (fcells gs)) (ht : TabOk w) (hlib : LibOk w) :
    Calls Tryz.prog 4 #[.agg #[.string s, .string t, .int .i64 m, .slice A fs.length c], .agg #[.int .i64 k, .string r, .int .i64 v, .slice B0 gs.length d]] w (RetB w true) := by
  have hn : fs.length ≤ 1048576 := by have := F.len_le_bulk fs; omega
  have hn2 : gs.length ≤ 1048576 := by have := F.len_le_bulk gs; omega
  have hpl := reqB_le s t m fs
  have hpl2 := respB_le k r v gs
  have HA := Lib.hid (fun (u : World) (hb : Below w.heap.size w u) => headAlive_any u (hlib.below hb))
  have H1 := Lib.hid (fun (u : World) (hb : Below w.heap.size w u) => copyRequest_any m s t A fs.length c fs u rfl (by omega) (hx.below hb))
  have H2 := Lib.hid (fun (u : World) (hb : Below w.heap.size w u) => copyResponse_any k v r B0 gs.length d gs u rfl (by omega) (hy.below hb))
  have HP := Lib.hid (fun (A1 : Option Addr) (c1 : Nat) (u : World) (hb : Below w.heap.size w u) (hx1 : Rd u A1 fs.length 2 (fcells fs)) => printRequest_any s t m A1 c1 fs u (by omega) (by omega) h0 h1 (by omega) hx1 (ht.below hb))
  have HPR := Lib.hid (fun (u : World) (hb : Below w.heap.size w u) => refPrintRequest_any s t m A c fs u (by omega) (by omega) h0 h1 (by omega) (hx.below hb))
  have HS := Lib.hid (fun (A1 : Option Addr) (c1 : Nat) (u : World) (hb : Below w.heap.size w u) (hx1 : Rd u A1 gs.length 2 (fcells gs)) => printResponse_any k r v A1 c1 gs u (by omega) (by omega) hx1 (ht.below hb))
  have HSR := Lib.hid (fun (u : World) (hb : Below w.heap.size w u) => refPrintResponse_any k r v B0 d gs u (by omega) (by omega) (hy.below hb))
  have HQ := Lib.hid (fun (A1 : Option Addr) (c1 : Nat) (u : World) (hb : Below w.heap.size w u) (hx1 : Rd u A1 fs.length 2 (fcells fs)) => sameTQ m s t A1 A c1 c fs u (by omega) hx1 (hx.below hb))
  have HR := Lib.hid (fun (A1 : Option Addr) (c1 : Nat) (u : World) (hb : Below w.heap.size w u) (hx1 : Rd u A1 gs.length 2 (fcells gs)) => sameTR k v r A1 B0 c1 d gs u (by omega) hx1 (hy.below hb))
  generalize F.reqB s t m fs = PB at *
  generalize F.reqE s t m fs = PE at *
  generalize F.respB k r v gs = SB at *
  generalize F.respE k r v gs = SE at *
  clear hx hy ht hlib hs hts h0 h1 hf hr hg
  have HS0 := Lib.hid (Two.start w #[.string s, .string t, .int .i64 m, .slice A fs.length c] 24 #[.int .i64 k, .string r, .int .i64 v, .slice B0 gs.length d] 26)
  go_enter Tryz.func4, Tryz.ntmps4
  go_wp2_with fail
  generalize (w.alloc (.cells #[.string s, .string t, .int .i64 m, .slice A fs.length c] 24)).alloc (.cells #[.int .i64 k, .string r, .int .i64 v, .slice B0 gs.length d] 26) = w0 at *
  refine (HA.out _ HS0.out.2.2).mono ?_
  rintro e w1 ⟨rfl, hb1⟩
  have HS1 := Lib.hid (HS0.out.below hb1)
  obtain ⟨x0, x1, x2, x3⟩ := HS1.out.1.cells4
  clear hb1 HS0 HA
  go_wp2_with fail
  clear x0 x1 x2 x3
  refine (H1.out _ HS1.out.2.2).mono ?_
  rintro e w2 ⟨A1, c1, rfl, hr2, hb2⟩
  have HS2 := Lib.hid ((HS1.out.below hb2).alloc (.cells #[.string s, .string t, .int .i64 m, .slice A1 fs.length c1] 24))
  have HK2 := Lib.hid (Blk.new w2 #[.string s, .string t, .int .i64 m, .slice A1 fs.length c1] 24)
  have HR2 := Lib.hid (hr2.rd.alloc (.cells #[.string s, .string t, .int .i64 m, .slice A1 fs.length c1] 24))
  clear hb2 hr2 HS1 H1
  obtain ⟨x0, x1, x2, x3⟩ := HK2.out.cells4
  go_wp2_with fail
  clear x0 x1 x2 x3
  generalize w2.heap.size = b2 at *
  generalize w2.alloc (.cells #[.string s, .string t, .int .i64 m, .slice A1 fs.length c1] 24) = w3 at *
  refine (HP.out A1 c1 _ HS2.out.2.2 HR2.out).mono ?_
  rintro e w4 ⟨A4, c4, rfl, hr4, hb4⟩
  have HS4 := Lib.hid (HS2.out.below hb4)
  have HK4 := Lib.hid (HK2.out.below hb4)
  have HR24 := Lib.hid (HR2.out.below hb4)
  have HR4 := Lib.hid hr4.rd
  obtain ⟨x0, x1, x2, x3⟩ := HS4.out.1.cells4
  clear hb4 hr4 HS2 HK2 HR2 HP
  go_wp2_with fail
  clear x0 x1 x2 x3
  refine (HPR.out _ HS4.out.2.2).mono ?_
  rintro e w5 ⟨A5, c5, rfl, hr5, hb5⟩
  have HS5 := Lib.hid (HS4.out.below hb5)
  have HK5 := Lib.hid (HK4.out.below hb5)
  have HR25 := Lib.hid (HR24.out.below hb5)
  have HR45 := Lib.hid (HR4.out.below hb5)
  have HR5 := Lib.hid hr5.rd
  clear hb5 hr5 HS4 HK4 HR24 HR4 HPR
  go_wp2_with fail
  refine (sameTB A4 A5 PB.length c4 c5 PB _ (by omega) rfl HR45.out HR5.out).mono ?_
  rintro e w6 ⟨rfl, hb6⟩
  have HS6 := Lib.hid (HS5.out.below hb6)
  have HK6 := Lib.hid (HK5.out.below hb6)
  have HR26 := Lib.hid (HR25.out.below hb6)
  clear hb6 HS5 HK5 HR25 HR45 HR5
  obtain ⟨x0, x1, x2, x3⟩ := HS6.out.1.cells4
  obtain ⟨y0, y1, y2, y3⟩ := HK6.out.cells4
  go_wp2_with fail
  clear x0 x1 x2 x3 y0 y1 y2 y3
  refine (HQ.out A1 c1 _ HS6.out.2.2 HR26.out).mono ?_
  rintro e w7 ⟨rfl, hb7⟩
  have HS7 := Lib.hid (HS6.out.below hb7)
  clear hb7 HS6 HK6 HR26 HQ
  obtain ⟨x0, x1, x2, x3⟩ := HS7.out.2.1.cells4
  go_wp2_with fail
  clear x0 x1 x2 x3
  refine (H2.out _ HS7.out.2.2).mono ?_
  rintro e w8 ⟨A8, c8, rfl, hr8, hb8⟩
  have HS8 := Lib.hid ((HS7.out.below hb8).alloc (.cells #[.int .i64 k, .string r, .int .i64 v, .slice A8 gs.length c8] 26))
  have HK8 := Lib.hid (Blk.new w8 #[.int .i64 k, .string r, .int .i64 v, .slice A8 gs.length c8] 26)
  have HR8 := Lib.hid (hr8.rd.alloc (.cells #[.int .i64 k, .string r, .int .i64 v, .slice A8 gs.length c8] 26))
  clear hb8 hr8 HS7 H2
  obtain ⟨x0, x1, x2, x3⟩ := HK8.out.cells4
  go_wp2_with fail
  clear x0 x1 x2 x3
  generalize w8.heap.size = b8 at *
  generalize w8.alloc (.cells #[.int .i64 k, .string r, .int .i64 v, .slice A8 gs.length c8] 26) = w9 at *
  refine (HS.out A8 c8 _ HS8.out.2.2 HR8.out).mono ?_
  rintro e w10 ⟨A10, c10, rfl, hr10, hb10⟩
  have HS10 := Lib.hid (HS8.out.below hb10)
  have HK10 := Lib.hid (HK8.out.below hb10)
  have HR810 := Lib.hid (HR8.out.below hb10)
  have HR10 := Lib.hid hr10.rd
  obtain ⟨x0, x1, x2, x3⟩ := HS10.out.2.1.cells4
  clear hb10 hr10 HS8 HK8 HR8 HS
  go_wp2_with fail
  clear x0 x1 x2 x3
  refine (HSR.out _ HS10.out.2.2).mono ?_
  rintro e w11 ⟨A11, c11, rfl, hr11, hb11⟩
  have HS11 := Lib.hid (HS10.out.below hb11)
  have HK11 := Lib.hid (HK10.out.below hb11)
  have HR811 := Lib.hid (HR810.out.below hb11)
  have HR1011 := Lib.hid (HR10.out.below hb11)
  have HR11 := Lib.hid hr11.rd
  clear hb11 hr11 HS10 HK10 HR810 HR10 HSR
  go_wp2_with fail
  refine (sameTB A10 A11 SB.length c10 c11 SB _ (by omega) rfl HR1011.out HR11.out).mono ?_
  rintro e w12 ⟨rfl, hb12⟩
  have HS12 := Lib.hid (HS11.out.below hb12)
  have HK12 := Lib.hid (HK11.out.below hb12)
  have HR812 := Lib.hid (HR811.out.below hb12)
  clear hb12 HS11 HK11 HR811 HR1011 HR11
  obtain ⟨x0, x1, x2, x3⟩ := HS12.out.2.1.cells4
  obtain ⟨y0, y1, y2, y3⟩ := HK12.out.cells4
  go_wp2_with fail
  clear x0 x1 x2 x3 y0 y1 y2 y3
  refine (HR.out A8 c8 _ HS12.out.2.2 HR812.out).mono ?_
  rintro e w13 ⟨rfl, hb13⟩
  have HS13 := Lib.hid (HS12.out.below hb13)
  clear hb13 HS12 HK12 HR812 HR
  go_wp2
  go_ret
  exact ⟨rfl, HS13.out.2.2⟩
end Go.Proofs.YtecopkcogobolaaGreatDoor
