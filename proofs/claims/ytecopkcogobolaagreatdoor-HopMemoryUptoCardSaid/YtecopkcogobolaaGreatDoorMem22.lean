/- The walk of the law HopMemory. Conditions: lists of bulk at most 2^20, texts and bodies of at most 2^20 bytes, numbers of 64 bits; the library's table of powers of ten. -/
import Derived.Test.YtecopkcogobolaaGreatDoorSends
import Derived.Test.YtecopkcogobolaaGreatDoorBytes
import Derived.Test.YtecopkcogobolaaGreatDoorAsk
import Derived.Test.YtecopkcogobolaaGreatDoorMark
import Derived.Test.YtecopkcogobolaaGreatDoorSameT
namespace Go.Proofs.YtecopkcogobolaaGreatDoor
open Go.RowKit

def tri {α : Type} (a b c : α) : Nat → α
  | 0 => a
  | 1 => b
  | _ => c
theorem askM_len (s t : ByteArray) (m : Int) (fs : List FD) (body : List UInt8) : (F.askB s t m fs body).length ≤ 8192 + body.length := by
  have h := reqB_len s t m (F.askF s fs body.length)
  unfold F.askB
  split
  · rw [List.length_append]; omega
  · simp

set_option maxRecDepth 100000 in
set_option maxHeartbeats 8000000 in
theorem hopMemory_any (s t : ByteArray) (m : Int) (A : Option Addr) (c : Nat) (fs : List FD) (k : Int) (r : ByteArray) (v : Int) (B0 : Option Addr) (d : Nat) (gs : List FD) (C0 : Option Addr) (e0 : Nat) (body : List UInt8) (w : World)
    (hs : s.size ≤ 1048576) (hts : t.size ≤ 1048576) (h0 : -9223372036854775808 ≤ m) (h1 : m ≤ 9223372036854775807) (hf : F.bulk fs ≤ 1048576) (hx : Rd w A fs.length 2 (fcells fs)) (k0 : -9223372036854775808 ≤ k) (k1 : k ≤ 9223372036854775807) (v0 : -9223372036854775808 ≤ v) (v1 : v ≤ 9223372036854775807) (hr : r.size ≤ 1048576) (hg : F.bulk gs ≤ 1048576) (hy : Rd w B0 gs.length 2 (fcells gs))
    (hbl : body.length ≤ 1048576) (hbx : Rd w C0 body.length 1 (bcells body)) (ht : TabOk w) :
    Calls Tryz.prog 3 #[.agg #[.string s, .string t, .int .i64 m, .slice A fs.length c], .agg #[.int .i64 k, .string r, .int .i64 v, .slice B0 gs.length d], .slice C0 body.length e0] w (RetB w true) := by
  have zH := hostOf_size ⟨#[97]⟩ 80 (by decide) (by decide)
  have zV := viaOf_size fs m ⟨#[118]⟩ h0 h1
  have zW := viaOf_size gs v ⟨#[118]⟩ v0 v1
  have hn := F.len_le_bulk fs
  have hk := F.len_le_bulk gs
  have zP := F.bulk_sent fs m ⟨#[118]⟩ ⟨#[97]⟩ 80
  have hPL := F.len_le_bulk (F.sent fs m ⟨#[118]⟩ ⟨#[97]⟩ 80)
  have zR := F.bulk_put (F.strip gs) F.via3 (F.viaOf gs v ⟨#[118]⟩)
  have zS := F.bulk_strip gs
  have zT := F.bulk_strip fs
  have e3 : F.via3.size = 3 := rfl
  have e1 : (⟨#[97]⟩ : ByteArray).size = 1 := rfl
  have e2 : (⟨#[118]⟩ : ByteArray).size = 1 := rfl
  have hRL := F.len_le_bulk (F.put (F.strip gs) F.via3 (F.viaOf gs v ⟨#[118]⟩))
  have hTL := F.len_le_bulk (F.strip fs)
  have hal := askM_len s t m fs body
  have hbb := bytesB_len k r v gs (F.bareOf k ⟨#[71, 69, 84]⟩) true body
  have HA := Lib.hid (fun (u : World) (hb : Below w.heap.size w u) => alive_any u (ht.below hb))
  have H1 := Lib.hid (fun (u : World) (hb : Below w.heap.size w u) => copyRequest_any m s t A fs.length c fs u rfl (by omega) (hx.below hb))
  have H2 := Lib.hid (fun (u : World) (hb : Below w.heap.size w u) => copyResponse_any k v r B0 gs.length d gs u rfl (by omega) (hy.below hb))
  have H3 := Lib.hid (fun (A1 : Option Addr) (c1 : Nat) (hn1 : A1 = none → fs.length = 0 ∧ c1 = 0) (u : World) (hb : Below w.heap.size w u) (hx1 : Rd u A1 fs.length 2 (fcells fs)) => request_any s t ⟨#[118]⟩ ⟨#[97]⟩ ⟨#[47]⟩ m 80 A1 fs.length c1 fs u rfl hf hx1 hn1 h0 h1 (by decide) (by decide) (by decide) (by decide) (ht.below hb))
  have H4 := Lib.hid (fun (A1 : Option Addr) (c1 : Nat) (hn1 : A1 = none → gs.length = 0 ∧ c1 = 0) (u : World) (hb : Below w.heap.size w u) (hx1 : Rd u A1 gs.length 2 (fcells gs)) => response_any k v r ⟨#[118]⟩ A1 gs.length c1 gs u rfl (by omega) hx1 hn1 v0 v1 (by decide) (ht.below hb))
  have H5 := Lib.hid (fun (A1 : Option Addr) (c1 : Nat) (hn1 : A1 = none → fs.length = 0 ∧ c1 = 0) (u : World) (hx1 : Rd u A1 fs.length 2 (fcells fs)) => strip_any A1 fs.length c1 fs u rfl (by omega) hx1 hn1)
  have H6 := Lib.hid (fun (A1 : Option Addr) (c1 : Nat) (hn1 : A1 = none → fs.length = 0 ∧ c1 = 0) (u : World) (hb : Below w.heap.size w u) (hx1 : Rd u A1 fs.length 2 (fcells fs)) => ask_any s t m A1 c1 fs C0 e0 body u hs hts h0 h1 hf hx1 hn1 hbl (hbx.below hb) (ht.below hb))
  have H7 := Lib.hid (fun (A1 : Option Addr) (c1 : Nat) (hn1 : A1 = none → gs.length = 0 ∧ c1 = 0) (u : World) (hb : Below w.heap.size w u) (hx1 : Rd u A1 gs.length 2 (fcells gs)) => bytes_any k v r A1 c1 gs C0 e0 body ⟨#[71, 69, 84]⟩ true u k0 k1 hr hg hx1 hn1 hbl (hbx.below hb) (ht.below hb))
  have H8 := Lib.hid (fun (u : World) (hb : Below w.heap.size w u) => copyBytes_any C0 e0 body u (by omega) (hbx.below hb))
  have H9 := Lib.hid (fun (A1 : Option Addr) (c1 : Nat) (u : World) (hb : Below w.heap.size w u) (hx1 : Rd u A1 fs.length 2 (fcells fs)) => printRequest_any s t m A1 c1 fs u (by omega) (by omega) h0 h1 (by omega) hx1 (ht.below hb))
  have HXX := Lib.hid (fun (u : World) (hb : Below w.heap.size w u) => hx.below hb)
  have HYY := Lib.hid (fun (u : World) (hb : Below w.heap.size w u) => hy.below hb)
  replace hPL : (F.sent fs m ⟨#[118]⟩ ⟨#[97]⟩ 80).length ≤ 1099511627776 := by omega
  replace hRL : (F.put (F.strip gs) F.via3 (F.viaOf gs v ⟨#[118]⟩)).length ≤ 1099511627776 := by omega
  replace hTL : (F.strip fs).length ≤ 1099511627776 := by omega
  replace hn : fs.length ≤ 1048576 := by omega
  replace hk : gs.length ≤ 1048576 := by omega
  generalize F.sent fs m ⟨#[118]⟩ ⟨#[97]⟩ 80 = PL at *
  generalize F.put (F.strip gs) F.via3 (F.viaOf gs v ⟨#[118]⟩) = RL at *
  generalize F.strip fs = TL at *
  generalize F.askB s t m fs body = AB at *
  generalize F.askE s t m fs body.length = AE at *
  generalize F.bytesB k r v gs (F.bareOf k ⟨#[71, 69, 84]⟩) true body = BB at *
  generalize F.bytesE k r v gs (F.bareOf k ⟨#[71, 69, 84]⟩) true body.length = BE at *
  generalize F.pathOf ⟨#[47]⟩ = PT at *
  generalize F.reqB s t m fs = QB at *
  generalize F.reqE s t m fs = QE at *
  clear hx hy hbx ht hs hts h0 h1 hf k0 k1 v0 v1 hr hg zH zV zW zP zR zS zT e1 e2 e3
  have HS0 := Lib.hid (Two.start w #[.string s, .string t, .int .i64 m, .slice A fs.length c] 24 #[.int .i64 k, .string r, .int .i64 v, .slice B0 gs.length d] 26)
  go_enter Tryz.func3, Tryz.ntmps3
  go_wp2_with fail
  generalize (w.alloc (.cells #[.string s, .string t, .int .i64 m, .slice A fs.length c] 24)).alloc (.cells #[.int .i64 k, .string r, .int .i64 v, .slice B0 gs.length d] 26) = w0 at *
  refine (HA.out _ HS0.out.2.2).mono ?_
  rintro e w1 ⟨rfl, hb1⟩
  have HS1 := Lib.hid (HS0.out.below hb1)
  obtain ⟨x0, x1, x2, x3⟩ := HS1.out.1.cells4
  clear hb1 HS0 HA
  go_wp2_with fail
  clear x0 x1 x2 x3
  -- the copies
  refine (H1.out _ HS1.out.2.2).mono ?_
  rintro e w2 ⟨A1, c1, rfl, hr2, hb2⟩
  have HN1 := Lib.hid (fun h => hr2.nilB h)
  have HS2 := Lib.hid ((HS1.out.below hb2).alloc (.cells #[.string s, .string t, .int .i64 m, .slice A1 fs.length c1] 24))
  have HQ2 := Lib.hid (Blk.new w2 #[.string s, .string t, .int .i64 m, .slice A1 fs.length c1] 24)
  have HR2 := Lib.hid (hr2.rd.alloc (.cells #[.string s, .string t, .int .i64 m, .slice A1 fs.length c1] 24))
  clear hb2 hr2 HS1 H1
  obtain ⟨x0, x1, x2, x3⟩ := HS2.out.2.1.cells4
  go_wp2_with fail
  clear x0 x1 x2 x3
  generalize w2.heap.size = b2 at *
  generalize w2.alloc (.cells #[.string s, .string t, .int .i64 m, .slice A1 fs.length c1] 24) = w3 at *
  refine (H2.out _ HS2.out.2.2).mono ?_
  rintro e w4 ⟨A4, c4, rfl, hr4, hb4⟩
  have HN4 := Lib.hid (fun h => hr4.nilB h)
  have HS4 := Lib.hid (((HS2.out.below hb4).alloc (.cells #[.int .i64 k, .string r, .int .i64 v, .slice A4 gs.length c4] 26)).alloc (.cells #[.string ⟨#[97]⟩, .int .i64 80, .string ⟨#[47]⟩] 32))
  have HQ4 := Lib.hid (((HQ2.out.below hb4).alloc (.cells #[.int .i64 k, .string r, .int .i64 v, .slice A4 gs.length c4] 26)).alloc (.cells #[.string ⟨#[97]⟩, .int .i64 80, .string ⟨#[47]⟩] 32))
  have HR24 := Lib.hid (((HR2.out.below hb4).alloc (.cells #[.int .i64 k, .string r, .int .i64 v, .slice A4 gs.length c4] 26)).alloc (.cells #[.string ⟨#[97]⟩, .int .i64 80, .string ⟨#[47]⟩] 32))
  have HP4 := Lib.hid ((Blk.new w4 #[.int .i64 k, .string r, .int .i64 v, .slice A4 gs.length c4] 26).alloc (.cells #[.string ⟨#[97]⟩, .int .i64 80, .string ⟨#[47]⟩] 32))
  have HR4 := Lib.hid ((hr4.rd.alloc (.cells #[.int .i64 k, .string r, .int .i64 v, .slice A4 gs.length c4] 26)).alloc (.cells #[.string ⟨#[97]⟩, .int .i64 80, .string ⟨#[47]⟩] 32))
  have HT4 : Hid (Blk ((w4.alloc (.cells #[.int .i64 k, .string r, .int .i64 v, .slice A4 gs.length c4] 26)).alloc (.cells #[.string ⟨#[97]⟩, .int .i64 80, .string ⟨#[47]⟩] 32)) (w4.heap.size + 1) #[.string ⟨#[97]⟩, .int .i64 80, .string ⟨#[47]⟩] 32) := by
    have := Blk.new (w4.alloc (.cells #[.int .i64 k, .string r, .int .i64 v, .slice A4 gs.length c4] 26)) #[.string ⟨#[97]⟩, .int .i64 80, .string ⟨#[47]⟩] 32
    rw [World.size_alloc] at this
    exact Lib.hid this
  clear hb4 hr4 HS2 HQ2 HR2 H2
  obtain ⟨x0, x1, x2, x3⟩ := HQ4.out.cells4
  obtain ⟨y0, y1, y2⟩ := HT4.out.cells3
  go_wp2_with fail
  clear x0 x1 x2 x3 y0 y1 y2
  generalize (w4.alloc (.cells #[.int .i64 k, .string r, .int .i64 v, .slice A4 gs.length c4] 26)).alloc (.cells #[.string ⟨#[97]⟩, .int .i64 80, .string ⟨#[47]⟩] 32) = wz at *
  generalize w4.heap.size = b4 at *
  -- the request that is sent on
  refine (H3.out A1 c1 HN1.out _ HS4.out.2.2 HR24.out).mono ?_
  rintro e w5 ⟨A5, c5, rfl, hr5, hb5⟩
  have HZ5 := Lib.hid (hb5.alloc hb5.size (.cells #[.string s, .string PT, .int .i64 1, .slice A5 PL.length c5] 24))
  have HX5 := Lib.hid (Blk.new w5 #[.string s, .string PT, .int .i64 1, .slice A5 PL.length c5] 24)
  have HR5 := Lib.hid (Row.alloc (show Row w5 wz.heap.size 67 2 A5 PL.length c5 (fcells PL) from hr5) (.cells #[.string s, .string PT, .int .i64 1, .slice A5 PL.length c5] 24))
  have HI5 : Hid (∀ b, ownB A5 c5 = some b → wz.heap.size ≤ b ∧ b < w5.heap.size) := Lib.hid (fun b e => hr5.lt b e)
  have hz5 := hb5.size
  have HP5 := Lib.hid (HP4.out.below HZ5.out)
  clear hb5 hr5 H3
  obtain ⟨x0, x1, x2, x3⟩ := HP5.out.cells4
  go_wp2_with fail
  clear x0 x1 x2 x3 HP5
  have hz6 := HX5.out.lt
  generalize w5.alloc (.cells #[.string s, .string PT, .int .i64 1, .slice A5 PL.length c5] 24) = w6 at *
  generalize w5.heap.size = b5 at *
  -- the response that is sent on
  refine (H4.out A4 c4 HN4.out _ (below_then HS4.out.2.2.size HS4.out.2.2 HZ5.out) (HR4.out.below HZ5.out)).mono ?_
  rintro e w7 ⟨A7, c7, rfl, hr7, hb7⟩
  have hZ7 := below_then HZ5.out.size HZ5.out hb7
  have HZ7 := Lib.hid (hZ7.alloc hZ7.size (.cells #[.int .i64 k, .string r, .int .i64 1, .slice A7 RL.length c7] 26))
  have HX7 := Lib.hid ((HX5.out.below hb7).alloc (.cells #[.int .i64 k, .string r, .int .i64 1, .slice A7 RL.length c7] 26))
  have HR57 := Lib.hid ((HR5.out.below hb7).alloc (.cells #[.int .i64 k, .string r, .int .i64 1, .slice A7 RL.length c7] 26))
  have HY7 := Lib.hid (Blk.new w7 #[.int .i64 k, .string r, .int .i64 1, .slice A7 RL.length c7] 26)
  have HR7 := Lib.hid (Row.alloc (show Row w7 w6.heap.size 67 2 A7 RL.length c7 (fcells RL) from hr7) (.cells #[.int .i64 k, .string r, .int .i64 1, .slice A7 RL.length c7] 26))
  have HI7 : Hid (∀ b, ownB A7 c7 = some b → w6.heap.size ≤ b ∧ b < w7.heap.size) := Lib.hid (fun b e => hr7.lt b e)
  have hz7 := hb7.size
  have HQ7 := Lib.hid (HQ4.out.below HZ7.out)
  clear hb7 hr7 hZ7 HZ5 HX5 HR5 H4
  obtain ⟨x0, x1, x2, x3⟩ := HQ7.out.cells4
  go_wp2_with fail
  clear x0 x1 x2 x3 HQ7
  have hz8 := HY7.out.lt
  generalize w7.alloc (.cells #[.int .i64 k, .string r, .int .i64 1, .slice A7 RL.length c7] 26) = w8 at *
  generalize w7.heap.size = b7 at *
  generalize w6.heap.size = z6 at *
  -- the fields stripped
  refine (H5.out A1 c1 HN1.out _ (HR24.out.below HZ7.out)).mono ?_
  rintro e w9 ⟨A9, c9, rfl, hr9, hb9⟩
  have HZ9 := Lib.hid (below_then HZ7.out.size HZ7.out hb9)
  have HX9 := Lib.hid (HX7.out.below hb9)
  have HY9 := Lib.hid (HY7.out.below hb9)
  have HR59 := Lib.hid (HR57.out.below hb9)
  have HR79 := Lib.hid (HR7.out.below hb9)
  have HR9 := Lib.hid (show Row w9 w8.heap.size 67 2 A9 TL.length c9 (fcells TL) from hr9)
  have HI9 : Hid (∀ b, ownB A9 c9 = some b → w8.heap.size ≤ b ∧ b < w9.heap.size) := Lib.hid (fun b e => hr9.lt b e)
  have hz9 := hb9.size
  have HQ9 := Lib.hid (HQ4.out.below HZ9.out)
  clear hb9 hr9 HZ7 HX7 HY7 HR57 HR7 H5
  obtain ⟨x0, x1, x2, x3⟩ := HQ9.out.cells4
  go_wp2_with fail
  clear x0 x1 x2 x3 HQ9
  generalize w8.heap.size = z8 at *
  -- the bytes that go to an origin
  refine (H6.out A1 c1 HN1.out _ (below_then HS4.out.2.2.size HS4.out.2.2 HZ9.out) (HR24.out.below HZ9.out)).mono ?_
  rintro e w10 ⟨A10, c10, rfl, hr10, hb10⟩
  have HZ10 := Lib.hid (below_then HZ9.out.size HZ9.out hb10)
  have HX10 := Lib.hid (HX9.out.below hb10)
  have HY10 := Lib.hid (HY9.out.below hb10)
  have HR510 := Lib.hid (HR59.out.below hb10)
  have HR710 := Lib.hid (HR79.out.below hb10)
  have HR910 := Lib.hid (HR9.out.below hb10)
  have HC10 := Lib.hid (show CRow w10 w9.heap.size A10 AB.length c10 AB from hr10)
  have HI10 : Hid (∀ b, ownB A10 c10 = some b → b < w10.heap.size) := Lib.hid (fun b e => (hr10.lt b e).2)
  have hz10 := hb10.size
  have HP10 := Lib.hid (HP4.out.below HZ10.out)
  clear hb10 hr10 HZ9 HX9 HY9 HR59 HR79 HR9 H6
  obtain ⟨x0, x1, x2, x3⟩ := HP10.out.cells4
  go_wp2_with fail
  clear x0 x1 x2 x3 HP10
  generalize w9.heap.size = z9 at *
  -- the bytes that go to a client
  refine (H7.out A4 c4 HN4.out _ (below_then HS4.out.2.2.size HS4.out.2.2 HZ10.out) (HR4.out.below HZ10.out)).mono ?_
  rintro e w11 ⟨A11, c11, rfl, hr11, hb11⟩
  have HZ11 := Lib.hid (below_then HZ10.out.size HZ10.out hb11)
  have HX11 := Lib.hid (HX10.out.below hb11)
  have HY11 := Lib.hid (HY10.out.below hb11)
  have HR511 := Lib.hid (HR510.out.below hb11)
  have HR711 := Lib.hid (HR710.out.below hb11)
  have HR911 := Lib.hid (HR910.out.below hb11)
  have HC1011 := Lib.hid (HC10.out.below hb11)
  have HC11 := Lib.hid (show CRow w11 w10.heap.size A11 BB.length c11 BB from hr11)
  have HI11 : Hid (∀ b, ownB A11 c11 = some b → b < w11.heap.size) := Lib.hid (fun b e => (hr11.lt b e).2)
  have hz11 := hb11.size
  clear hb11 hr11 HZ10 HX10 HY10 HR510 HR710 HR910 HC10 H7
  generalize w10.heap.size = z10 at *
  have HI5a : Hid (∀ b, ownB A5 c5 = some b → b < z6) := Lib.hid (fun b e => by have := (HI5.out b e).2; omega)
  have HI7a : Hid (∀ b, ownB A7 c7 = some b → b < z8) := Lib.hid (fun b e => by have := (HI7.out b e).2; omega)
  obtain ⟨x0, x1, x2, x3⟩ := HX11.out.cells4
  go_wp2_with fail
  clear x0 x1 x2 x3
  -- the marks
  refine (marked_any wz.heap.size A5 c5 PL _ (by omega) HR511.out (by omega)).mono ?_
  rintro e w12 ⟨rfl, hg12⟩
  have HZ12 := Lib.hid (below_after HZ11.out hg12 HZ11.out.size (fun b e => (HI5.out b e).1))
  have HY12 := Lib.hid (HY11.out.after hg12 (fun b e => by have := (HI5.out b e).2; omega))
  have HR712 := Lib.hid (HR711.out.after hg12 HI5a.out)
  have HR912 := Lib.hid (HR911.out.after hg12 (fun b e => by have := HI5a.out b e; omega))
  have HC1012 := Lib.hid (HC1011.out.after hg12 (fun b e => by have := HI5a.out b e; omega))
  have HC1112 := Lib.hid (HC11.out.after hg12 (fun b e => by have := HI5a.out b e; omega))
  have hz12 := hg12.size
  clear hg12 HZ11 HX11 HY11 HR511 HR711 HR911 HC1011 HC11
  obtain ⟨x0, x1, x2, x3⟩ := HY12.out.cells4
  go_wp2_with fail
  clear x0 x1 x2 x3
  refine (marked_any z6 A7 c7 RL _ (by omega) HR712.out (by omega)).mono ?_
  rintro e w13 ⟨rfl, hg13⟩
  have HZ13 := Lib.hid (below_after HZ12.out hg13 HZ12.out.size (fun b e => by have := (HI7.out b e).1; omega))
  have HR913 := Lib.hid (HR912.out.after hg13 HI7a.out)
  have HC1013 := Lib.hid (HC1012.out.after hg13 (fun b e => by have := HI7a.out b e; omega))
  have HC1113 := Lib.hid (HC1112.out.after hg13 (fun b e => by have := HI7a.out b e; omega))
  have hz13 := hg13.size
  clear hg13 HZ12 HY12 HR712 HR912 HC1012 HC1112
  go_wp2_with fail
  refine (marked_any z8 A9 c9 TL _ (by omega) HR913.out (by omega)).mono ?_
  rintro e w14 ⟨rfl, hg14⟩
  have HZ14 := Lib.hid (below_after HZ13.out hg14 HZ13.out.size (fun b e => by have := (HI9.out b e).1; omega))
  have HC1014 := Lib.hid (HC1013.out.after hg14 (fun b e => (HI9.out b e).2))
  have HC1114 := Lib.hid (HC1113.out.after hg14 (fun b e => by have := (HI9.out b e).2; omega))
  have hz14 := hg14.size
  clear hg14 HZ13 HR913 HC1013 HC1113
  go_wp2_with fail
  -- the three lists of bytes
  refine (H8.out _ (below_then HS4.out.2.2.size HS4.out.2.2 HZ14.out)).mono ?_
  rintro e w15 ⟨A15, c15, rfl, hr15, hb15⟩
  have hZ15 := below_then HZ14.out.size HZ14.out hb15
  have HZ15 := Lib.hid (hZ15.alloc hZ15.size (.cells #[.slice A10 AB.length c10, .slice A11 BB.length c11, .slice A15 body.length c15] 27))
  have HC1015 := Lib.hid ((HC1014.out.below hb15).alloc (.cells #[.slice A10 AB.length c10, .slice A11 BB.length c11, .slice A15 body.length c15] 27))
  have HC1115 := Lib.hid ((HC1114.out.below hb15).alloc (.cells #[.slice A10 AB.length c10, .slice A11 BB.length c11, .slice A15 body.length c15] 27))
  have HC15 := Lib.hid ((show CRow w15 w14.heap.size A15 body.length c15 body from hr15).alloc (.cells #[.slice A10 AB.length c10, .slice A11 BB.length c11, .slice A15 body.length c15] 27))
  have HI15 : Hid (∀ b, ownB A15 c15 = some b → b < w15.heap.size) := Lib.hid (fun b e => (hr15.lt b e).2)
  have HH15 := Lib.hid (Blk.new w15 #[.slice A10 AB.length c10, .slice A11 BB.length c11, .slice A15 body.length c15] 27)
  have hz15 := hb15.size
  clear hb15 hr15 hZ15 HZ14 HC1014 HC1114 H8
  go_wp2_with fail
  generalize w15.alloc (.cells #[.slice A10 AB.length c10, .slice A11 BB.length c11, .slice A15 body.length c15] 27) = w16 at *
  generalize w15.heap.size = b15 at *
  have hL : LSt w16 wz.heap.size 3 (tri A10 A11 A15) (tri AB.length BB.length body.length) (tri c10 c11 c15) b15 0 (tri AB BB body) w16 := by
    refine ⟨fun i hi => ?_, fun i hi => ?_, Below.refl _ _⟩
    · match i, hi with
      | 0, _ => exact HC1015.out.mono (by omega)
      | 1, _ => exact HC1115.out.mono (by omega)
      | 2, _ => exact HC15.out.mono (by omega)
    · match i, hi with
      | 0, _ => exact HH15.out.cells3.1
      | 1, _ => exact HH15.out.cells3.2.1
      | 2, _ => exact HH15.out.cells3.2.2
  have hD : LDis 3 (tri A10 A11 A15) (tri c10 c11 c15) b15 := by
    refine LDis.of_iv (u := w16) (n := tri AB.length BB.length body.length) (f := tri AB BB body) (tri z9 z10 w14.heap.size) (tri z10 w11.heap.size b15) (fun i hi => ?_) (fun i hi b e => ?_) (fun i j hi hj hne => ?_) (fun i hi => ?_)
    · match i, hi with
      | 0, _ => exact HC1015.out
      | 1, _ => exact HC1115.out
      | 2, _ => exact HC15.out
    · match i, hi with
      | 0, _ => exact HI10.out b e
      | 1, _ => exact HI11.out b e
      | 2, _ => exact HI15.out b e
    · match i, hi, j, hj with
      | 0, _, 0, _ => exact absurd rfl hne
      | 0, _, 1, _ => exact .inl (Nat.le_refl _)
      | 0, _, 2, _ => left; show z10 ≤ w14.heap.size; omega
      | 1, _, 0, _ => exact .inr (Nat.le_refl _)
      | 1, _, 1, _ => exact absurd rfl hne
      | 1, _, 2, _ => left; show w11.heap.size ≤ w14.heap.size; omega
      | 2, _, 0, _ => right; show z10 ≤ w14.heap.size; omega
      | 2, _, 1, _ => right; show w11.heap.size ≤ w14.heap.size; omega
      | 2, _, 2, _ => exact absurd rfl hne
    · match i, hi with
      | 0, _ => show z10 ≤ b15; omega
      | 1, _ => show w11.heap.size ≤ b15; omega
      | 2, _ => exact Nat.le_refl _
  refine (apart_any wz.heap.size 3 (tri A10 A11 A15) (tri AB.length BB.length body.length) (tri c10 c11 c15) b15 0 3 (tri AB BB body) w16 (by omega) (fun i hi => ?_) hD hL HZ15.out.size).mono ?_
  · match i, hi with
    | 0, _ => show AB.length ≤ _; omega
    | 1, _ => show BB.length ≤ _; omega
    | 2, _ => show body.length ≤ _; omega
  rintro e w17 ⟨rfl, hb17⟩
  have HZ17 := Lib.hid (HZ15.out.trans hb17)
  clear hb17 HZ15 hL hD HC1015 HC1115 HC15 HH15
  -- what was handed in
  have HS17 := Lib.hid (HS4.out.below HZ17.out)
  have HQ17 := Lib.hid (HQ4.out.below HZ17.out)
  have HP17 := Lib.hid (HP4.out.below HZ17.out)
  have HR217 := Lib.hid (HR24.out.below HZ17.out)
  have HR417 := Lib.hid (HR4.out.below HZ17.out)
  clear HS4 HQ4 HP4 HR24 HR4 HT4 HZ17
  obtain ⟨x0, x1, x2, x3⟩ := HQ17.out.cells4
  go_wp2_with fail
  clear x0 x1 x2 x3
  refine (H9.out A1 c1 _ HS17.out.2.2 HR217.out).mono ?_
  rintro e w18 ⟨A18, c18, rfl, hr18, hb18⟩
  have HS18 := Lib.hid (HS17.out.below hb18)
  have HQ18 := Lib.hid (HQ17.out.below hb18)
  have HP18 := Lib.hid (HP17.out.below hb18)
  have HR218 := Lib.hid (HR217.out.below hb18)
  have HR418 := Lib.hid (HR417.out.below hb18)
  clear hb18 hr18 HS17 HQ17 HP17 HR217 HR417
  obtain ⟨x0, x1, x2, x3⟩ := HS18.out.1.cells4
  go_wp2_with fail
  clear x0 x1 x2 x3
  refine (H9.out A c _ HS18.out.2.2 (HXX.out _ HS18.out.2.2)).mono ?_
  rintro e w19 ⟨A19, c19, rfl, hr19, hb19⟩
  have HS19 := Lib.hid (HS18.out.below hb19)
  have HQ19 := Lib.hid (HQ18.out.below hb19)
  have HP19 := Lib.hid (HP18.out.below hb19)
  have HR219 := Lib.hid (HR218.out.below hb19)
  have HR419 := Lib.hid (HR418.out.below hb19)
  clear hb19 hr19 HS18 HQ18 HP18 HR218 HR418 H9
  obtain ⟨x0, x1, x2, x3⟩ := HS19.out.1.cells4
  obtain ⟨y0, y1, y2, y3⟩ := HQ19.out.cells4
  go_wp2_with fail
  clear x0 x1 x2 x3 y0 y1 y2 y3
  refine (sameTQ m s t A1 A c1 c fs _ (by omega) HR219.out (HXX.out _ HS19.out.2.2)).mono ?_
  rintro e w20 ⟨rfl, hb20⟩
  have HS20 := Lib.hid (HS19.out.below hb20)
  have HP20 := Lib.hid (HP19.out.below hb20)
  have HR420 := Lib.hid (HR419.out.below hb20)
  clear hb20 HS19 HQ19 HP19 HR219 HR419
  obtain ⟨x0, x1, x2, x3⟩ := HS20.out.2.1.cells4
  obtain ⟨y0, y1, y2, y3⟩ := HP20.out.cells4
  go_wp2_with fail
  clear x0 x1 x2 x3 y0 y1 y2 y3
  refine (sameTR k v r A4 B0 c4 d gs _ (by omega) HR420.out (HYY.out _ HS20.out.2.2)).mono ?_
  rintro e w21 ⟨rfl, hb21⟩
  have HS21 := Lib.hid (HS20.out.below hb21)
  clear hb21 HS20 HP20 HR420
  go_wp2
  go_ret
  exact ⟨rfl, HS21.out.2.2⟩
end Go.Proofs.YtecopkcogobolaaGreatDoor
