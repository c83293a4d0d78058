/- The walk of the law HeadMemory. Conditions: a row of at most 2^20 bytes, a list of bulk at most 2^20, texts of at most 2^20 bytes, a number of 64 bits; the library's tables. -/
import Derived.Test.YtecopkcogobolaaGreatDoorPrints
import Derived.Test.YtecopkcogobolaaGreatDoorMark
namespace Go.Proofs.YtecopkcogobolaaGreatDoor
open Go.RowKit

def two {α : Type} (a b : α) : Nat → α
  | 0 => a
  | _ => b
set_option maxRecDepth 100000 in
set_option maxHeartbeats 4000000 in
theorem headMemory_any (A : Option Addr) (n c : Nat) (bs : List UInt8) (s t : ByteArray) (k : Int) (C : Option Addr) (d : Nat) (gs : List FD) (w : World) (hnm : bs.length ≤ 1048576) (hl : bs.length = n) (hnc : n ≤ c) (hA : A = none → n = 0 ∧ c = 0) (hpl : ∀ a, A = some a → a.spot = none ∨ c = 0) (hx : Rd w A n 1 (bcells bs))
    (hs : s.size ≤ 1048576) (hts : t.size ≤ 1048576) (h0 : -9223372036854775808 ≤ k) (h1 : k ≤ 9223372036854775807) (hg : F.bulk gs ≤ 1048576) (hy : Rd w C gs.length 2 (fcells gs)) (ht : TabOk w) (hlib : LibOk w) :
    Calls Tryz.prog 5 #[.slice A n c, .agg #[.string s, .string t, .int .i64 k, .slice C gs.length d]] w (RetB w true) := by
  subst hl
  have hpl2 := reqB_le s t k gs
  have HA := Lib.hid (fun (u : World) (hb : Below w.heap.size w u) => headAlive_any u (hlib.below hb))
  have HRQ := Lib.hid (fun (u : World) (hu : Below w.heap.size w u) => request_any A bs.length c bs u (by omega) hnc hA hpl (hx.below hu) (hlib.below hu))
  have HRR := Lib.hid (fun (u : World) (hu : Below w.heap.size w u) => refRequest_any2 A bs.length c bs u (by omega) hnc (hx.below hu))
  have HP := Lib.hid (fun (u : World) (hb : Below w.heap.size w u) => printRequest_any s t k C d gs u (by omega) (by omega) h0 h1 (by omega) (hy.below hb) (ht.below hb))
  have HPR := Lib.hid (fun (u : World) (hb : Below w.heap.size w u) => refPrintRequest_any s t k C d gs u (by omega) (by omega) h0 h1 (by omega) (hy.below hb))
  have hfl := (request_facts bs).1
  obtain ⟨Q, hQ⟩ : ∃ Q, P.request bs = Q := ⟨_, rfl⟩
  rw [hQ] at HRQ HRR hfl
  obtain ⟨qm, qt, qv, fs, N, E⟩ := Q
  replace hfl : fs.length ≤ 100 := hfl
  generalize F.reqB s t k gs = PB at *
  generalize F.reqE s t k gs = PE at *
  clear hx hy ht hlib hs hts h0 h1 hg hQ hA hpl
  have HK0 := Lib.hid (Blk.new w #[.string s, .string t, .int .i64 k, .slice C gs.length d] 24)
  have HB0 := Lib.hid ((Below.refl w.heap.size w).alloc (Nat.le_refl _) (.cells #[.string s, .string t, .int .i64 k, .slice C gs.length d] 24))
  go_enter Tryz.func5, Tryz.ntmps5
  go_wp2_with fail
  generalize w.alloc (.cells #[.string s, .string t, .int .i64 k, .slice C gs.length d] 24) = w0 at *
  refine (HA.out _ HB0.out).mono ?_
  rintro e w1 ⟨rfl, hb1⟩
  have HK1 := Lib.hid (HK0.out.below hb1)
  have HB1 := Lib.hid (below_then HB0.out.size HB0.out hb1)
  clear hb1 HK0 HB0 HA
  go_wp2_with fail
  -- the first head
  refine (HRQ.out _ HB1.out).mono ?_
  rintro e w2 ⟨A2, c2, rfl, hr2, hb2⟩
  have HK2 := Lib.hid ((HK1.out.below hb2).alloc (.cells #[.string qm, .string qt, .int .i64 qv, .slice A2 fs.length c2] 24))
  have hB2 := below_then HB1.out.size HB1.out hb2
  have HB2 := Lib.hid (hB2.alloc hB2.size (.cells #[.string qm, .string qt, .int .i64 qv, .slice A2 fs.length c2] 24))
  have HX2 := Lib.hid (Blk.new w2 #[.string qm, .string qt, .int .i64 qv, .slice A2 fs.length c2] 24)
  have HR2 := Lib.hid (Row.alloc (show Row w2 w1.heap.size 67 2 A2 fs.length c2 (fcells fs) from hr2) (.cells #[.string qm, .string qt, .int .i64 qv, .slice A2 fs.length c2] 24))
  have HI2 : Hid (∀ b, ownB A2 c2 = some b → w1.heap.size ≤ b ∧ b < w2.heap.size) := Lib.hid (fun b e => hr2.lt b e)
  have hz1 := HK1.out.lt
  have hz12 := hb2.size
  clear hb2 hr2 hB2 HK1 HB1
  go_wp2_with fail
  have hz3 := HX2.out.lt
  generalize w2.alloc (.cells #[.string qm, .string qt, .int .i64 qv, .slice A2 fs.length c2] 24) = w3 at *
  generalize w2.heap.size = b3 at *
  generalize w1.heap.size = z1 at *
  -- the second
  refine (HRQ.out _ HB2.out).mono ?_
  rintro e w4 ⟨A4, c4, rfl, hr4, hb4⟩
  have HK4 := Lib.hid ((HK2.out.below hb4).alloc (.cells #[.string qm, .string qt, .int .i64 qv, .slice A4 fs.length c4] 24))
  have hB4 := below_then HB2.out.size HB2.out hb4
  have HB4 := Lib.hid (hB4.alloc hB4.size (.cells #[.string qm, .string qt, .int .i64 qv, .slice A4 fs.length c4] 24))
  have HX4 := Lib.hid ((HX2.out.below hb4).alloc (.cells #[.string qm, .string qt, .int .i64 qv, .slice A4 fs.length c4] 24))
  have HR24 := Lib.hid ((HR2.out.below hb4).alloc (.cells #[.string qm, .string qt, .int .i64 qv, .slice A4 fs.length c4] 24))
  have HY4 := Lib.hid (Blk.new w4 #[.string qm, .string qt, .int .i64 qv, .slice A4 fs.length c4] 24)
  have HR4 := Lib.hid (Row.alloc (show Row w4 w3.heap.size 67 2 A4 fs.length c4 (fcells fs) from hr4) (.cells #[.string qm, .string qt, .int .i64 qv, .slice A4 fs.length c4] 24))
  have hz34 := hb4.size
  clear hb4 hr4 hB4 HK2 HB2 HX2 HR2 HRQ
  go_wp2_with fail
  generalize w4.alloc (.cells #[.string qm, .string qt, .int .i64 qv, .slice A4 fs.length c4] 24) = w5 at *
  generalize w4.heap.size = b5 at *
  generalize w3.heap.size = z3 at *
  -- the document's
  refine (HRR.out _ HB4.out).mono ?_
  rintro e w6 ⟨A6, c6, rfl, hr6, hb6⟩
  have HK6 := Lib.hid ((HK4.out.below hb6).alloc (.cells #[.string qm, .string qt, .int .i64 qv, .slice A6 fs.length c6] 24))
  have hB6 := below_then HB4.out.size HB4.out hb6
  have HB6 := Lib.hid (hB6.alloc hB6.size (.cells #[.string qm, .string qt, .int .i64 qv, .slice A6 fs.length c6] 24))
  have HX6 := Lib.hid ((HX4.out.below hb6).alloc (.cells #[.string qm, .string qt, .int .i64 qv, .slice A6 fs.length c6] 24))
  have HY6 := Lib.hid ((HY4.out.below hb6).alloc (.cells #[.string qm, .string qt, .int .i64 qv, .slice A6 fs.length c6] 24))
  have HR26 := Lib.hid ((HR24.out.below hb6).alloc (.cells #[.string qm, .string qt, .int .i64 qv, .slice A6 fs.length c6] 24))
  have HR46 := Lib.hid ((HR4.out.below hb6).alloc (.cells #[.string qm, .string qt, .int .i64 qv, .slice A6 fs.length c6] 24))
  have HZ6 := Lib.hid (Blk.new w6 #[.string qm, .string qt, .int .i64 qv, .slice A6 fs.length c6] 24)
  have HR6 := Lib.hid (Row.alloc (show Row w6 w5.heap.size 67 2 A6 fs.length c6 (fcells fs) from hr6) (.cells #[.string qm, .string qt, .int .i64 qv, .slice A6 fs.length c6] 24))
  have hz5 := HY4.out.lt
  have hz56 := hb6.size
  clear hb6 hr6 hB6 HK4 HB4 HX4 HY4 HR24 HR4 HRR
  obtain ⟨x0, x1, x2, x3⟩ := HK6.out.cells4
  go_wp2_with fail
  clear x0 x1 x2 x3
  have hz7 := HZ6.out.lt
  generalize w6.alloc (.cells #[.string qm, .string qt, .int .i64 qv, .slice A6 fs.length c6] 24) = w7 at *
  generalize w6.heap.size = b7 at *
  generalize w5.heap.size = z5 at *
  -- the bytes, twice
  refine (HP.out _ HB6.out).mono ?_
  rintro e w8 ⟨A8, c8, rfl, hr8, hb8⟩
  have HK8 := Lib.hid (HK6.out.below hb8)
  have HB8 := Lib.hid (below_then HB6.out.size HB6.out hb8)
  have HX8 := Lib.hid (HX6.out.below hb8)
  have HY8 := Lib.hid (HY6.out.below hb8)
  have HZ8 := Lib.hid (HZ6.out.below hb8)
  have HR28 := Lib.hid (HR26.out.below hb8)
  have HR48 := Lib.hid (HR46.out.below hb8)
  have HR68 := Lib.hid (HR6.out.below hb8)
  have HP8 := Lib.hid (show CRow w8 w7.heap.size A8 PB.length c8 PB from hr8)
  have HI8 : Hid (∀ b, ownB A8 c8 = some b → b < w8.heap.size) := Lib.hid (fun b e => (hr8.lt b e).2)
  have hz78 := hb8.size
  clear hb8 hr8 HK6 HB6 HX6 HY6 HZ6 HR26 HR46 HR6
  obtain ⟨x0, x1, x2, x3⟩ := HK8.out.cells4
  go_wp2_with fail
  clear x0 x1 x2 x3
  refine (HP.out _ HB8.out).mono ?_
  rintro e w9 ⟨A9, c9, rfl, hr9, hb9⟩
  have HK9 := Lib.hid (HK8.out.below hb9)
  have HB9 := Lib.hid (below_then HB8.out.size HB8.out hb9)
  have HX9 := Lib.hid (HX8.out.below hb9)
  have HY9 := Lib.hid (HY8.out.below hb9)
  have HZ9 := Lib.hid (HZ8.out.below hb9)
  have HR29 := Lib.hid (HR28.out.below hb9)
  have HR49 := Lib.hid (HR48.out.below hb9)
  have HR69 := Lib.hid (HR68.out.below hb9)
  have HP89 := Lib.hid (HP8.out.below hb9)
  have HP9 := Lib.hid (show CRow w9 w8.heap.size A9 PB.length c9 PB from hr9)
  have HI9 : Hid (∀ b, ownB A9 c9 = some b → b < w9.heap.size) := Lib.hid (fun b e => (hr9.lt b e).2)
  have hz89 := hb9.size
  clear hb9 hr9 HK8 HB8 HX8 HY8 HZ8 HR28 HR48 HR68 HP8 HP
  obtain ⟨x0, x1, x2, x3⟩ := HK9.out.cells4
  go_wp2_with fail
  clear x0 x1 x2 x3
  refine (HPR.out _ HB9.out).mono ?_
  rintro e w10 ⟨A10, c10, rfl, hr10, hb10⟩
  have HB10 := Lib.hid (below_then HB9.out.size HB9.out hb10)
  have HX10 := Lib.hid (HX9.out.below hb10)
  have HY10 := Lib.hid (HY9.out.below hb10)
  have HZ10 := Lib.hid (HZ9.out.below hb10)
  have HR210 := Lib.hid (HR29.out.below hb10)
  have HR410 := Lib.hid (HR49.out.below hb10)
  have HR610 := Lib.hid (HR69.out.below hb10)
  have HP810 := Lib.hid (HP89.out.below hb10)
  have HP910 := Lib.hid (HP9.out.below hb10)
  have HW10 := Lib.hid hr10.rd
  have hz910 := hb10.size
  clear hb10 hr10 HK9 HB9 HX9 HY9 HZ9 HR29 HR49 HR69 HP89 HP9 HPR
  generalize w9.heap.size = z9 at *
  generalize w8.heap.size = z8 at *
  generalize w7.heap.size = z7 at *
  -- the comparisons
  obtain ⟨x0, x1, x2, x3⟩ := HX10.out.cells4
  obtain ⟨y0, y1, y2, y3⟩ := HZ10.out.cells4
  go_wp2_with fail
  clear x0 x1 x2 x3 y0 y1 y2 y3
  refine (sameTQ qv qm qt A2 A6 c2 c6 fs _ (by omega) HR210.out.rd HR610.out.rd).mono ?_
  rintro e w11 ⟨rfl, hb11⟩
  have HB11 := Lib.hid (below_then HB10.out.size HB10.out hb11)
  have HX11 := Lib.hid (HX10.out.below hb11)
  have HY11 := Lib.hid (HY10.out.below hb11)
  have HZ11 := Lib.hid (HZ10.out.below hb11)
  have HR211 := Lib.hid (HR210.out.below hb11)
  have HR411 := Lib.hid (HR410.out.below hb11)
  have HR611 := Lib.hid (HR610.out.below hb11)
  have HP811 := Lib.hid (HP810.out.below hb11)
  have HP911 := Lib.hid (HP910.out.below hb11)
  have HW11 := Lib.hid (HW10.out.below hb11)
  have hz11 := hb11.size
  clear hb11 HB10 HX10 HY10 HZ10 HR210 HR410 HR610 HP810 HP910 HW10
  obtain ⟨x0, x1, x2, x3⟩ := HY11.out.cells4
  obtain ⟨y0, y1, y2, y3⟩ := HZ11.out.cells4
  go_wp2_with fail
  clear x0 x1 x2 x3 y0 y1 y2 y3
  refine (sameTQ qv qm qt A4 A6 c4 c6 fs _ (by omega) HR411.out.rd HR611.out.rd).mono ?_
  rintro e w12 ⟨rfl, hb12⟩
  have HB12 := Lib.hid (below_then HB11.out.size HB11.out hb12)
  have HX12 := Lib.hid (HX11.out.below hb12)
  have HY12 := Lib.hid (HY11.out.below hb12)
  have HZ12 := Lib.hid (HZ11.out.below hb12)
  have HR212 := Lib.hid (HR211.out.below hb12)
  have HR412 := Lib.hid (HR411.out.below hb12)
  have HR612 := Lib.hid (HR611.out.below hb12)
  have HP812 := Lib.hid (HP811.out.below hb12)
  have HP912 := Lib.hid (HP911.out.below hb12)
  have HW12 := Lib.hid (HW11.out.below hb12)
  have hz12' := hb12.size
  clear hb12 HB11 HX11 HY11 HZ11 HR211 HR411 HR611 HP811 HP911 HW11
  go_wp2_with fail
  refine (sameTB A8 A10 PB.length c8 c10 PB _ (by omega) rfl HP812.out.rd HW12.out).mono ?_
  rintro e w13 ⟨rfl, hb13⟩
  have HB13 := Lib.hid (below_then HB12.out.size HB12.out hb13)
  have HX13 := Lib.hid (HX12.out.below hb13)
  have HY13 := Lib.hid (HY12.out.below hb13)
  have HZ13 := Lib.hid (HZ12.out.below hb13)
  have HR213 := Lib.hid (HR212.out.below hb13)
  have HR413 := Lib.hid (HR412.out.below hb13)
  have HR613 := Lib.hid (HR612.out.below hb13)
  have HP813 := Lib.hid (HP812.out.below hb13)
  have HP913 := Lib.hid (HP912.out.below hb13)
  have HW13 := Lib.hid (HW12.out.below hb13)
  have hz13 := hb13.size
  clear hb13 HB12 HX12 HY12 HZ12 HR212 HR412 HR612 HP812 HP912 HW12
  go_wp2_with fail
  refine (sameTB A9 A10 PB.length c9 c10 PB _ (by omega) rfl HP913.out.rd HW13.out).mono ?_
  rintro e w14 ⟨rfl, hb14⟩
  have HB14 := Lib.hid (below_then HB13.out.size HB13.out hb14)
  have HX14 := Lib.hid (HX13.out.below hb14)
  have HY14 := Lib.hid (HY13.out.below hb14)
  have HZ14 := Lib.hid (HZ13.out.below hb14)
  have HR214 := Lib.hid (HR213.out.below hb14)
  have HR414 := Lib.hid (HR413.out.below hb14)
  have HR614 := Lib.hid (HR613.out.below hb14)
  have HP814 := Lib.hid (HP813.out.below hb14)
  have HP914 := Lib.hid (HP913.out.below hb14)
  have hz14 := hb14.size
  clear hb14 HB13 HX13 HY13 HZ13 HR213 HR413 HR613 HP813 HP913 HW13
  obtain ⟨x0, x1, x2, x3⟩ := HX14.out.cells4
  go_wp2_with fail
  clear x0 x1 x2 x3
  -- the marks
  refine (marked_any z1 A2 c2 fs _ (by omega) HR214.out (by omega)).mono ?_
  rintro e w15 ⟨rfl, hg15⟩
  have HI2a : Hid (∀ b, ownB A2 c2 = some b → b < z3) := Lib.hid (fun b e => by have := (HI2.out b e).2; omega)
  have HI2b : Hid (∀ b, ownB A2 c2 = some b → w.heap.size ≤ b) := Lib.hid (fun b e => by have := (HI2.out b e).1; omega)
  have HB15 := Lib.hid (below_after HB14.out hg15 HB14.out.size HI2b.out)
  have HY15 := Lib.hid (HY14.out.after hg15 (fun b e => by have := (HI2.out b e).2; omega))
  have HZ15 := Lib.hid (HZ14.out.after hg15 (fun b e => by have := (HI2.out b e).2; omega))
  have HR415 := Lib.hid (HR414.out.after hg15 HI2a.out)
  have HR615 := Lib.hid (HR614.out.after hg15 (fun b e => by have := HI2a.out b e; omega))
  have HP815 := Lib.hid (HP814.out.after hg15 (fun b e => by have := HI2a.out b e; omega))
  have HP915 := Lib.hid (HP914.out.after hg15 (fun b e => by have := HI2a.out b e; omega))
  have hz15 := hg15.size
  clear hg15 HB14 HX14 HY14 HZ14 HR214 HR414 HR614 HP814 HP914
  obtain ⟨x0, x1, x2, x3⟩ := HY15.out.cells4
  obtain ⟨y0, y1, y2, y3⟩ := HZ15.out.cells4
  go_wp2_with fail
  clear x0 x1 x2 x3 y0 y1 y2 y3
  refine (sameTQ qv qm qt A4 A6 c4 c6 fs _ (by omega) HR415.out.rd HR615.out.rd).mono ?_
  rintro e w16 ⟨rfl, hb16⟩
  have hB16 := below_then HB15.out.size HB15.out hb16
  have HB16 := Lib.hid (hB16.alloc hB16.size (.cells #[.slice A8 PB.length c8, .slice A9 PB.length c9] 27))
  have HH16 := Lib.hid (Blk.new w16 #[.slice A8 PB.length c8, .slice A9 PB.length c9] 27)
  have HP816 := Lib.hid ((HP815.out.below hb16).alloc (.cells #[.slice A8 PB.length c8, .slice A9 PB.length c9] 27))
  have HP916 := Lib.hid ((HP915.out.below hb16).alloc (.cells #[.slice A8 PB.length c8, .slice A9 PB.length c9] 27))
  have hz16 := hb16.size
  clear hb16 hB16 HB15 HY15 HZ15 HR415 HR615 HP815 HP915
  go_wp2_with fail
  have hz17 := HH16.out.lt
  generalize w16.alloc (.cells #[.slice A8 PB.length c8, .slice A9 PB.length c9] 27) = w17 at *
  generalize w16.heap.size = b17 at *
  have hL : LSt w17 w.heap.size 2 (two A8 A9) (two PB.length PB.length) (two c8 c9) b17 0 (two PB PB) w17 := by
    refine ⟨fun i hi => ?_, fun i hi => ?_, Below.refl _ _⟩
    · match i, hi with
      | 0, _ => exact HP816.out.mono (by omega)
      | 1, _ => exact HP916.out.mono (by omega)
    · match i, hi with
      | 0, _ => exact HH16.out.cells2.1
      | 1, _ => exact HH16.out.cells2.2
  have hD : LDis 2 (two A8 A9) (two c8 c9) b17 := by
    refine LDis.of_iv (u := w17) (n := two PB.length PB.length) (f := two PB PB) (two z7 z8) (two z8 z9) (fun i hi => ?_) (fun i hi b e => ?_) (fun i j hi hj hne => ?_) (fun i hi => ?_)
    · match i, hi with
      | 0, _ => exact HP816.out
      | 1, _ => exact HP916.out
    · match i, hi with
      | 0, _ => exact HI8.out b e
      | 1, _ => exact HI9.out b e
    · match i, hi, j, hj with
      | 0, _, 0, _ => exact absurd rfl hne
      | 0, _, 1, _ => exact .inl (Nat.le_refl _)
      | 1, _, 0, _ => exact .inr (Nat.le_refl _)
      | 1, _, 1, _ => exact absurd rfl hne
    · match i, hi with
      | 0, _ => show z8 ≤ b17; omega
      | 1, _ => show z9 ≤ b17; omega
  refine (apart_any w.heap.size 2 (two A8 A9) (two PB.length PB.length) (two c8 c9) b17 0 2 (two PB PB) w17 (by omega) (fun i hi => ?_) hD hL HB16.out.size).mono ?_
  · match i, hi with
    | 0, _ => show PB.length ≤ _; omega
    | 1, _ => show PB.length ≤ _; omega
  rintro e w18 ⟨rfl, hb18⟩
  have HB18 := Lib.hid (HB16.out.trans hb18)
  clear hb18 HB16 hL hD
  go_wp2
  go_ret
  exact ⟨rfl, HB18.out⟩
end Go.Proofs.YtecopkcogobolaaGreatDoor
