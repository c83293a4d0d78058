/- The walk of the law ObjectDecodes (printed by gen/olaw.py). Conditions: a row of at most 2^20 bytes; the library's tables. -/
import Derived.Test.YtcdbppoohlabnaaGreatDoorObjB
import Derived.Test.YtcdbppoohlabnaaGreatDoorObjV
import Derived.Test.YtcdbppoohlabnaaGreatDoorObjA
import Derived.Test.YtcdbppoohlabnaaGreatDoorObjLaw
namespace Go.Proofs.YtcdbppoohlabnaaGreatDoor
open Go.RowKit

theorem rd_frontX {w : World} {A : Option Addr} {xs ys : List UInt8} (h : Rd w A (xs.length + ys.length) 1 (bcells (xs ++ ys))) : Rd w A xs.length 1 (bcells xs) := by
  have := h.upto (show xs.length ≤ xs.length + ys.length by omega)
  rwa [List.take_left] at this
set_option maxRecDepth 100000 in
set_option maxHeartbeats 4000000 in
theorem objectDecodes_any (A : Option Addr) (n c : Nat) (bs : List UInt8) (w : World) (hnm : bs.length ≤ 1048576) (hl : bs.length = n) (hnc : n ≤ c) (hx : Rd w A n 1 (bcells bs)) (ht : LibOk w) (he : ErrOk w) (htab : TabOk w) :
    Calls Tryz.prog 3 #[.slice A n c] w (RetB w true) := by
  subst hl
  have HA := Lib.hid (fun (u : World) (hb : Below w.heap.size w u) => objAlive_any u (htab.below hb))
  have HSP := Lib.hid (fun (u : World) (hu : Below w.heap.size w u) => spare_any A c bs u (by omega) (hx.below hu))
  have HRQ := Lib.hid (fun (g c3 : Nat) (u : World) (hu : Below w.heap.size w u) (hc : bs.length ≤ c3) (hr : Rd u (some ⟨g, 0, none⟩) bs.length 1 (bcells bs)) => (odecode_any (some ⟨g, 0, none⟩) c3 bs u (by omega) hc hr (ht.below hu) (he.below hu) (htab.below hu)).mono (fun _ _ h => h.u))
  have HRR := Lib.hid (fun (u : World) (hu : Below w.heap.size w u) => (refODecode_any A c bs u (by omega) hnc (hx.below hu)).mono (fun _ _ h => h.u))
  have HLM : Hid ((bs ++ marks).length = bs.length + 8) := by rw [List.length_append]; exact Lib.hid rfl
  have HMK : Hid (marks.length = 8) := Lib.hid rfl
  have hf := O.entU_lens bs
  obtain ⟨Q, hQ⟩ : ∃ Q, O.entU bs = Q := ⟨_, rfl⟩
  rw [hQ] at HRQ HRR hf
  generalize O.codeU bs = code at *
  obtain ⟨k, v, s, r, m, fs, body, asked, got⟩ := Q
  replace hf : F.bulk fs ≤ bs.length ∧ r.size ≤ bs.length ∧ body.length ≤ bs.length ∧ _ := hf
  obtain ⟨hf1, _, hf3, _⟩ := hf
  have hf2 := F.len_le_bulk fs
  clear hx ht he hQ htab
  go_enter Tryz.func3, Tryz.ntmps3
  go_wp2_with fail
  refine (HA.out _ (Below.refl _ _)).mono ?_
  rintro e w1 ⟨rfl, hb1⟩
  have HB1 := Lib.hid hb1
  clear hb1 HA
  go_wp2_with fail
  refine (HSP.out _ HB1.out).mono ?_
  rintro e w3 ⟨A3, c3, e3, hr3, hb3⟩
  rw [HLM.out] at e3 hr3
  subst e3
  have hc3 := hr3.2.1
  obtain ⟨g, rfl, hgb⟩ : ∃ g, A3 = some ⟨g, 0, none⟩ ∧ w1.heap.size ≤ g := by
    rcases hr3.2.2 with h | ⟨g, h, h2, _⟩
    · omega
    · exact ⟨g, h, h2⟩
  have hrd := hr3.rd
  rw [← HMK.out] at hrd
  have HB3 := Lib.hid (below_then HB1.out.size HB1.out hb3)
  have HR3 := Lib.hid hrd
  have hc4 : bs.length ≤ c3 := by omega
  have hc5 : (bs.length : Int) ≤ (c3 : Int) := by omega
  clear hb3 hr3 hrd HB1 hgb
  go_wp2_with fail
  refine (HRQ.out g c3 _ HB3.out hc4 (rd_frontX HR3.out)).mono ?_
  rintro e w4 ⟨A4, a4, D4, d4, rfl, hr4, hd4, hb4⟩
  have HB5 := Lib.hid ((below_then HB3.out.size HB3.out hb4).alloc (by have := HB3.out.size; have := hb4.size; omega) (.cells #[.string k, .string v, .int .i64 s, .string r, .int .i64 m, .slice A4 fs.length a4, .slice D4 body.length d4, .int .i64 asked, .int .i64 got] 29))
  have HM5 := Lib.hid ((HR3.out.below hb4).alloc (.cells #[.string k, .string v, .int .i64 s, .string r, .int .i64 m, .slice A4 fs.length a4, .slice D4 body.length d4, .int .i64 asked, .int .i64 got] 29))
  have HX5 := Lib.hid (Blk.new w4 #[.string k, .string v, .int .i64 s, .string r, .int .i64 m, .slice A4 fs.length a4, .slice D4 body.length d4, .int .i64 asked, .int .i64 got] 29)
  have HR5 := Lib.hid (hr4.rd.alloc (.cells #[.string k, .string v, .int .i64 s, .string r, .int .i64 m, .slice A4 fs.length a4, .slice D4 body.length d4, .int .i64 asked, .int .i64 got] 29))
  have HD5 := Lib.hid (hd4.rd.alloc (.cells #[.string k, .string v, .int .i64 s, .string r, .int .i64 m, .slice A4 fs.length a4, .slice D4 body.length d4, .int .i64 asked, .int .i64 got] 29))
  clear hb4 hr4 hd4 HB3 HR3 HRQ
  go_upto_region 5 with fail
  generalize w4.alloc (.cells #[.string k, .string v, .int .i64 s, .string r, .int .i64 m, .slice A4 fs.length a4, .slice D4 body.length d4, .int .i64 asked, .int .i64 got] 29) = w5 at *
  go_wp2_with fail
  refine (HRR.out _ HB5.out).mono ?_
  rintro e w6 ⟨A6, a6, D6, d6, rfl, hr6, hd6, hb6⟩
  have HB7 := Lib.hid ((below_then HB5.out.size HB5.out hb6).alloc (by have := HB5.out.size; have := hb6.size; omega) (.cells #[.string k, .string v, .int .i64 s, .string r, .int .i64 m, .slice A6 fs.length a6, .slice D6 body.length d6, .int .i64 asked, .int .i64 got] 29))
  have HM7 := Lib.hid ((HM5.out.below hb6).alloc (.cells #[.string k, .string v, .int .i64 s, .string r, .int .i64 m, .slice A6 fs.length a6, .slice D6 body.length d6, .int .i64 asked, .int .i64 got] 29))
  have HX7 := Lib.hid ((HX5.out.below hb6).alloc (.cells #[.string k, .string v, .int .i64 s, .string r, .int .i64 m, .slice A6 fs.length a6, .slice D6 body.length d6, .int .i64 asked, .int .i64 got] 29))
  have HY7 := Lib.hid (Blk.new w6 #[.string k, .string v, .int .i64 s, .string r, .int .i64 m, .slice A6 fs.length a6, .slice D6 body.length d6, .int .i64 asked, .int .i64 got] 29)
  have HSM := Lib.hid (sameEntry_any k v s r m A4 a4 fs D4 d4 body asked got A6 a6 D6 d6 (w6.alloc (.cells #[.string k, .string v, .int .i64 s, .string r, .int .i64 m, .slice A6 fs.length a6, .slice D6 body.length d6, .int .i64 asked, .int .i64 got] 29)) (by omega) (by omega)
    ((HR5.out.below hb6).alloc (.cells #[.string k, .string v, .int .i64 s, .string r, .int .i64 m, .slice A6 fs.length a6, .slice D6 body.length d6, .int .i64 asked, .int .i64 got] 29)) (hr6.rd.alloc (.cells #[.string k, .string v, .int .i64 s, .string r, .int .i64 m, .slice A6 fs.length a6, .slice D6 body.length d6, .int .i64 asked, .int .i64 got] 29)) ((HD5.out.below hb6).alloc (.cells #[.string k, .string v, .int .i64 s, .string r, .int .i64 m, .slice A6 fs.length a6, .slice D6 body.length d6, .int .i64 asked, .int .i64 got] 29)) (hd6.rd.alloc (.cells #[.string k, .string v, .int .i64 s, .string r, .int .i64 m, .slice A6 fs.length a6, .slice D6 body.length d6, .int .i64 asked, .int .i64 got] 29)))
  clear hb6 hr6 hd6 HB5 HM5 HX5 HR5 HD5 HRR
  go_upto_region 6 with fail
  generalize w6.alloc (.cells #[.string k, .string v, .int .i64 s, .string r, .int .i64 m, .slice A6 fs.length a6, .slice D6 body.length d6, .int .i64 asked, .int .i64 got] 29) = w7 at *
  obtain ⟨x0, x1, x2, x3, x4, x5, x6, x7, x8⟩ := HX7.out.cells9
  obtain ⟨y0, y1, y2, y3, y4, y5, y6, y7, y8⟩ := HY7.out.cells9
  go_wp2_with fail
  clear x0 x1 x2 x3 x4 x5 x6 x7 x8 y0 y1 y2 y3 y4 y5 y6 y7 y8 HX7 HY7
  refine HSM.out.mono ?_
  rintro e w8 ⟨rfl, hb8⟩
  have HB8 := Lib.hid (below_then HB7.out.size HB7.out hb8)
  have HM8 := Lib.hid (HM7.out.below hb8)
  clear hb8 HB7 HM7 HSM
  go_wp2_with fail
  refine (HSP.out _ HB8.out).mono ?_
  rintro e w9 ⟨A9, c9, e9, hr9, hb9⟩
  rw [HLM.out] at e9 hr9
  subst e9
  have HR9 := Lib.hid hr9.rd
  have HB9 := Lib.hid (below_then HB8.out.size HB8.out hb9)
  have HM9 : Hid (Rd w9 (some ⟨g, 0, none⟩) (bs.length + 8) 1 (bcells (bs ++ marks))) := by
    have := HM8.out.below hb9
    rw [HMK.out] at this
    exact Lib.hid this
  clear hb9 hr9 HSP HB8 HM8
  go_wp2_with fail
  refine (sameBO (some ⟨g, 0, none⟩) A9 (bs.length + 8) c3 c9 (bs ++ marks) w9 (by omega) HLM.out HM9.out HR9.out).mono ?_
  rintro e w10 ⟨rfl, hb10⟩
  have HB10 := Lib.hid (below_then HB9.out.size HB9.out hb10)
  clear hb10 HB9 HM9 HR9
  go_wp2
  go_ret
  exact ⟨rfl, HB10.out⟩
end Go.Proofs.YtcdbppoohlabnaaGreatDoor
