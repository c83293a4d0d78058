/- The walk of CopyEntry once more: its lists are the call's own (printed by gen/omem.py). Conditions: lists of at most 2^40 elements. -/
import Derived.Test.YtcdbppoohlabnaaGreatDoorObjA
namespace Go.Proofs.YtcdbppoohlabnaaGreatDoor
open Go.RowKit

def RetEntR (k v : ByteArray) (s : Int) (r : ByteArray) (m : Int) (fs : List FD) (body : List UInt8) (asked got : Int) (w : World) (e : Ending) (w' : World) : Prop :=
  ∃ A c X d, e = .returned (.agg #[.string k, .string v, .int .i64 s, .string r, .int .i64 m, .slice A fs.length c, .slice X body.length d, .int .i64 asked, .int .i64 got]) ∧ Row w' w.heap.size 94 2 A fs.length c (fcells fs) ∧ CRow w' w.heap.size X body.length d body ∧ Below w.heap.size w w'

set_option maxRecDepth 100000 in
set_option maxHeartbeats 2000000 in
theorem copyEntryR_any (k v : ByteArray) (s : Int) (r : ByteArray) (m : Int) (A : Option Addr) (cf : Nat) (fs : List FD) (X : Option Addr) (cb : Nat) (body : List UInt8) (asked got : Int) (w : World) (hn : fs.length ≤ 1099511627776) (hbn : body.length ≤ 1099511627776) (hx : Rd w A fs.length 2 (fcells fs)) (hX : Rd w X body.length 1 (bcells body)) :
    Calls Tryz.prog 21 #[.agg #[.string k, .string v, .int .i64 s, .string r, .int .i64 m, .slice A fs.length cf, .slice X body.length cb, .int .i64 asked, .int .i64 got]] w (RetEntR k v s r m fs body asked got w) := by
  have HCR := Lib.hid (fun (u : World) (hu : Below w.heap.size w u) => copyResponse_any s m r A fs.length cf fs u rfl hn (hx.below hu))
  have HCB := Lib.hid (fun (u : World) (hu : Below w.heap.size w u) => copyBytesR_any X cb body u hbn (hX.below hu))
  have HK := Lib.hid ((Blk.new w #[.string k, .string v, .int .i64 s, .string r, .int .i64 m, .slice A fs.length cf, .slice X body.length cb, .int .i64 asked, .int .i64 got] 29).alloc (.cells #[.string ⟨#[]⟩, .string ⟨#[]⟩, .int .i64 0, .string ⟨#[]⟩, .int .i64 0, .slice none 0 0, .slice none 0 0, .int .i64 0, .int .i64 0] 29))
  have HL := Lib.hid (Blk.new (w.alloc (.cells #[.string k, .string v, .int .i64 s, .string r, .int .i64 m, .slice A fs.length cf, .slice X body.length cb, .int .i64 asked, .int .i64 got] 29)) #[.string ⟨#[]⟩, .string ⟨#[]⟩, .int .i64 0, .string ⟨#[]⟩, .int .i64 0, .slice none 0 0, .slice none 0 0, .int .i64 0, .int .i64 0] 29)
  have HB := Lib.hid (((Below.refl w.heap.size w).alloc (Nat.le_refl _) (.cells #[.string k, .string v, .int .i64 s, .string r, .int .i64 m, .slice A fs.length cf, .slice X body.length cb, .int .i64 asked, .int .i64 got] 29)).alloc (by rw [World.size_alloc]; omega) (.cells #[.string ⟨#[]⟩, .string ⟨#[]⟩, .int .i64 0, .string ⟨#[]⟩, .int .i64 0, .slice none 0 0, .slice none 0 0, .int .i64 0, .int .i64 0] 29))
  have hz0 : w.heap.size + 2 = ((w.alloc (.cells #[.string k, .string v, .int .i64 s, .string r, .int .i64 m, .slice A fs.length cf, .slice X body.length cb, .int .i64 asked, .int .i64 got] 29)).alloc (.cells #[.string ⟨#[]⟩, .string ⟨#[]⟩, .int .i64 0, .string ⟨#[]⟩, .int .i64 0, .slice none 0 0, .slice none 0 0, .int .i64 0, .int .i64 0] 29)).heap.size := by rw [World.size_alloc, World.size_alloc]
  rw [World.size_alloc] at HL
  clear hx hX
  go_enter Tryz.func21, Tryz.ntmps21
  obtain ⟨x0, x1, x2, x3, x4, x5, x6, x7, x8⟩ := HK.out.cells9
  go_wp2_with fail
  clear x0 x1 x2 x3 x4 x5 x6 x7 x8
  refine (HCR.out _ HB.out).mono ?_
  rintro e w1 ⟨A1, c1, rfl, hr1, hb1⟩
  rw [← hz0] at hr1
  have HR1 := Lib.hid hr1
  have HK1 := Lib.hid (HK.out.below hb1)
  have HL1 := Lib.hid (HL.out.below hb1)
  have HB1 := Lib.hid (below_then HB.out.size HB.out hb1)
  clear HK HL HB HCR hb1 hr1 hz0
  obtain ⟨x0, x1, x2, x3, x4, x5, x6, x7, x8⟩ := HK1.out.cells9
  obtain ⟨f2, f3, f4, f5⟩ : _ ∧ _ ∧ _ ∧ _ := ⟨HK1.out.free 2, HK1.out.free 3, HK1.out.free 4, HK1.out.free 5⟩
  have HK2 : Hid (Blk ((((w1.setCell ⟨w.heap.size, 2, none⟩ (.int .i64 s)).setCell ⟨w.heap.size, 3, none⟩ (.string r)).setCell ⟨w.heap.size, 4, none⟩ (.int .i64 m)).setCell ⟨w.heap.size, 5, none⟩ (.slice A1 fs.length c1)) w.heap.size #[.string k, .string v, .int .i64 s, .string r, .int .i64 m, .slice A1 fs.length c1, .slice X body.length cb, .int .i64 asked, .int .i64 got] 29) := Lib.hid ((((HK1.out.set 2 (.int .i64 s)).set 3 (.string r)).set 4 (.int .i64 m)).set 5 (.slice A1 fs.length c1))
  have y6 := HK2.out.cell 6 (v := .slice X body.length cb) rfl
  have hne : w.heap.size ≠ w.heap.size + 1 := by omega
  have HL2 : Hid (Blk ((((w1.setCell ⟨w.heap.size, 2, none⟩ (.int .i64 s)).setCell ⟨w.heap.size, 3, none⟩ (.string r)).setCell ⟨w.heap.size, 4, none⟩ (.int .i64 m)).setCell ⟨w.heap.size, 5, none⟩ (.slice A1 fs.length c1)) (w.heap.size + 1) #[.string ⟨#[]⟩, .string ⟨#[]⟩, .int .i64 0, .string ⟨#[]⟩, .int .i64 0, .slice none 0 0, .slice none 0 0, .int .i64 0, .int .i64 0] 29) := Lib.hid ((((HL1.out.far 2 (.int .i64 s) hne).far 3 (.string r) hne).far 4 (.int .i64 m) hne).far 5 (.slice A1 fs.length c1) hne)
  have HB2 : Hid (Below w.heap.size w ((((w1.setCell ⟨w.heap.size, 2, none⟩ (.int .i64 s)).setCell ⟨w.heap.size, 3, none⟩ (.string r)).setCell ⟨w.heap.size, 4, none⟩ (.int .i64 m)).setCell ⟨w.heap.size, 5, none⟩ (.slice A1 fs.length c1))) := Lib.hid (below_set (below_set (below_set (below_set HB1.out (Nat.le_refl _) 2 _) (Nat.le_refl _) 3 _) (Nat.le_refl _) 4 _) (Nat.le_refl _) 5 _)
  have hl2 : w.heap.size < w.heap.size + 2 := by omega
  have HR2 : Hid (Row ((((w1.setCell ⟨w.heap.size, 2, none⟩ (.int .i64 s)).setCell ⟨w.heap.size, 3, none⟩ (.string r)).setCell ⟨w.heap.size, 4, none⟩ (.int .i64 m)).setCell ⟨w.heap.size, 5, none⟩ (.slice A1 fs.length c1)) (w.heap.size + 2) 94 2 A1 fs.length c1 (fcells fs)) := Lib.hid ((((HR1.out.far (i := 2) hl2 (.int .i64 s)).far (i := 3) hl2 (.string r)).far (i := 4) hl2 (.int .i64 m)).far (i := 5) hl2 (.slice A1 fs.length c1))
  go_wp2_with fail
  clear x0 x1 x2 x3 x4 x5 x6 x7 x8 f2 f3 f4 f5 y6 HK1 HL1 HB1 HR1
  generalize ((((w1.setCell ⟨w.heap.size, 2, none⟩ (.int .i64 s)).setCell ⟨w.heap.size, 3, none⟩ (.string r)).setCell ⟨w.heap.size, 4, none⟩ (.int .i64 m)).setCell ⟨w.heap.size, 5, none⟩ (.slice A1 fs.length c1)) = w2 at *
  refine (HCB.out _ HB2.out).mono ?_
  rintro e w3 ⟨X1, d1, rfl, hr3, hb3⟩
  have hz2 : w.heap.size + 1 < w2.heap.size := HL2.out.lt
  have HR3 := Lib.hid (HR2.out.below hb3)
  have HX3 := Lib.hid (hr3.mono (base' := w.heap.size + 2) (by omega))
  have HK3 := Lib.hid (HK2.out.below hb3)
  have HL3 := Lib.hid (HL2.out.below hb3)
  have HB3 := Lib.hid (below_then HB2.out.size HB2.out hb3)
  clear HCB hr3 hb3 HK2 HL2 HB2 HR2 hz2
  have k6 := HK3.out.cell 6 (v := .slice X body.length cb) rfl
  have f6 := HK3.out.free 6
  have HK4 : Hid (Blk (w3.setCell ⟨w.heap.size, 6, none⟩ (.slice X1 body.length d1)) w.heap.size #[.string k, .string v, .int .i64 s, .string r, .int .i64 m, .slice A1 fs.length c1, .slice X1 body.length d1, .int .i64 asked, .int .i64 got] 29) := Lib.hid (HK3.out.set 6 (.slice X1 body.length d1))
  have HL4 : Hid (Blk (w3.setCell ⟨w.heap.size, 6, none⟩ (.slice X1 body.length d1)) (w.heap.size + 1) #[.string ⟨#[]⟩, .string ⟨#[]⟩, .int .i64 0, .string ⟨#[]⟩, .int .i64 0, .slice none 0 0, .slice none 0 0, .int .i64 0, .int .i64 0] 29) := Lib.hid (HL3.out.far 6 (.slice X1 body.length d1) hne)
  have HB4 : Hid (Below w.heap.size w (w3.setCell ⟨w.heap.size, 6, none⟩ (.slice X1 body.length d1))) := Lib.hid (below_set HB3.out (Nat.le_refl _) 6 _)
  have HR4 : Hid (Row (w3.setCell ⟨w.heap.size, 6, none⟩ (.slice X1 body.length d1)) (w.heap.size + 2) 94 2 A1 fs.length c1 (fcells fs)) := Lib.hid (HR3.out.farT HK3.out neEF 6 _)
  have HX4 : Hid (Row (w3.setCell ⟨w.heap.size, 6, none⟩ (.slice X1 body.length d1)) (w.heap.size + 2) 5 1 X1 body.length d1 (bcells body)) := Lib.hid (HX3.out.farT HK3.out neEU 6 _)
  obtain ⟨x0, x1, x2, x3, x4, x5, x6, x7, x8⟩ := HK4.out.cells9
  obtain ⟨y0, y1, y2, y3, y4, y5, y6, y7, y8⟩ := HL4.out.cells9
  obtain ⟨g0, g1, g2, g3, g4, g5, g6, g7, g8⟩ : _ ∧ _ ∧ _ ∧ _ ∧ _ ∧ _ ∧ _ ∧ _ ∧ _ := ⟨HL4.out.free 0, HL4.out.free 1, HL4.out.free 2, HL4.out.free 3, HL4.out.free 4, HL4.out.free 5, HL4.out.free 6, HL4.out.free 7, HL4.out.free 8⟩
  go_wp2
  clear x0 x1 x2 x3 x4 x5 x6 x7 x8 y0 y1 y2 y3 y4 y5 y6 y7 y8 g0 g1 g2 g3 g4 g5 g6 g7 g8 k6 f6 HK3 HL3 HB3 HR3 HX3
  generalize (w3.setCell ⟨w.heap.size, 6, none⟩ (.slice X1 body.length d1)) = w4 at *
  obtain ⟨z0, z1, z2, z3, z4, z5, z6, z7, z8⟩ := (HL4.out.set9 (.string k) (.string v) (.int .i64 s) (.string r) (.int .i64 m) (.slice A1 fs.length c1) (.slice X1 body.length d1) (.int .i64 asked) (.int .i64 got)).cells9
  unfold nine at z0 z1 z2 z3 z4 z5 z6 z7 z8
  refine bodyPost_ret (v := .agg #[.string k, .string v, .int .i64 s, .string r, .int .i64 m, .slice A1 fs.length c1, .slice X1 body.length d1, .int .i64 asked, .int .i64 got]) (by simp [results, Tryz.results21, go_sem, z0, z1, z2, z3, z4, z5, z6, z7, z8]) rfl ?_
  exact ⟨A1, c1, X1, d1, rfl, (HR4.out.farT9 HL4.out neEF (.string k) (.string v) (.int .i64 s) (.string r) (.int .i64 m) (.slice A1 fs.length c1) (.slice X1 body.length d1) (.int .i64 asked) (.int .i64 got)).mono (by omega), Row.crow ((HX4.out.farT9 HL4.out neEU (.string k) (.string v) (.int .i64 s) (.string r) (.int .i64 m) (.slice A1 fs.length c1) (.slice X1 body.length d1) (.int .i64 asked) (.int .i64 got)).mono (by omega)), below_nine HB4.out (show w.heap.size ≤ w.heap.size + 1 by omega) (.string k) (.string v) (.int .i64 s) (.string r) (.int .i64 m) (.slice A1 fs.length c1) (.slice X1 body.length d1) (.int .i64 asked) (.int .i64 got)⟩
end Go.Proofs.YtcdbppoohlabnaaGreatDoor
