/- The walk of the law InboxEnds (printed by gen/irlaw.py). Conditions: a row of at most 2^20 bytes; the library's two tables of UTF-8; internal/bytealg.MaxLen; strconv's two error variables. -/
import Derived.Test.YtcdbppoohlabnaaGreatDoorInbR
namespace Go.Proofs.YtcdbppoohlabnaaGreatDoor
open Go.RowKit

namespace M
/-- What is told while more may come, and at the end. -/
theorem ends (bs : List UInt8) (method : ByteArray) :
    (∃ e : Int, e ≠ 0 ∧ response bs method false = .bad e ∧ response bs method true = .bad e) ∨
    ((response bs method false).e = 0 ∧ 0 < (response bs method false).n ∧ response bs method true = response bs method false) ∨
    (response bs method false = .bad 0 ∧ (response bs method true = .bad 80 ∨ ((response bs method true).e = 0 ∧ (response bs method true).n = (bs.length : Int)))) := by
  unfold response
  by_cases h1 : (P.response bs).e ≠ 0
  · rw [if_pos h1, if_pos h1]
    exact .inl ⟨_, h1, rfl, rfl⟩
  rw [if_neg h1, if_neg h1]
  by_cases h2 : (P.response bs).n = 0
  · rw [if_pos h2, if_pos h2]
    exact .inr (.inr ⟨rfl, .inl rfl⟩)
  rw [if_neg h2, if_neg h2]
  have hkr := frameR_range (P.response bs).s (P.response bs).v (P.response bs).fs method
  have hn : 0 < (P.response bs).n := by
    rcases P.resp_ways bs with h | h | ⟨_, k, hk, _, h⟩
    · exact absurd h.2 h2
    · exact absurd h.2 h2
    · omega
  generalize F.frameR (P.response bs).s (P.response bs).v (P.response bs).fs method = R at *
  unfold framedR
  by_cases h3 : R.e ≠ 0
  · rw [if_pos h3, if_pos h3]
    exact .inl ⟨_, h3, rfl, rfl⟩
  rw [if_neg h3, if_neg h3]
  by_cases h4 : R.k = 3
  · rw [if_pos h4, if_pos h4]
    unfold closed
    by_cases h5 : (65536 : Int) < (bs.length : Int) - (P.response bs).n
    · rw [if_pos h5, if_pos h5]
      exact .inl ⟨71, by decide, rfl, rfl⟩
    · rw [if_neg h5, if_neg h5, if_neg (by decide), if_pos rfl]
      exact .inr (.inr ⟨rfl, .inr ⟨rfl, rfl⟩⟩)
  rw [if_neg h4, if_neg h4]
  unfold wholeR
  by_cases h5 : (body bs (P.response bs).n.toNat R.k R.n).e ≠ 0
  · rw [if_pos h5, if_pos h5]
    exact .inl ⟨_, h5, rfl, rfl⟩
  rw [if_neg h5, if_neg h5]
  by_cases h6 : (body bs (P.response bs).n.toNat R.k R.n).n = 0
  · rw [if_pos h6, if_pos h6]
    exact .inr (.inr ⟨rfl, .inl rfl⟩)
  rw [if_neg h6, if_neg h6]
  refine .inr (.inl ⟨rfl, ?_, rfl⟩)
  show 0 < (body bs (P.response bs).n.toNat R.k R.n).n
  have : 0 ≤ (body bs (P.response bs).n.toNat R.k R.n).n := by
    unfold body
    repeat' split
    all_goals first | exact Int.le_refl 0 | (show (0 : Int) ≤ _ + _; omega)
  omega
end M
set_option maxRecDepth 100000 in
set_option maxHeartbeats 4000000 in
theorem inboxEnds_any (A : Option Addr) (n c : Nat) (bs : List UInt8) (method : ByteArray) (w : World) (hnm : bs.length ≤ 1048576) (hl : bs.length = n) (hx : Rd w A n 1 (bcells bs)) (ht : LibOk w) (he : ErrOk w) :
    Calls Tryz.prog 10 #[.slice A n c, .string method] w (RetB w true) := by
  subst hl
  have HA := Lib.hid (fun (u : World) (hb : Below w.heap.size w u) => inboxAlive_any u (ht.below hb) (he.below hb))
  have HCB := Lib.hid (fun (u : World) (hu : Below w.heap.size w u) => copyBytes_any A c bs u (by omega) (hx.below hu))
  have HRQ := Lib.hid (fun (ended : Bool) (A1 : Option Addr) (c1 : Nat) (u0 u : World) (hu : Below w.heap.size w u) (hr : CRow u u0.heap.size A1 bs.length c1 bs) => inboxResponse_any A1 bs.length c1 bs method ended u (by omega) hr.2.1 hr.nilE hr.spotE hr.rd (ht.below hu) (he.below hu))
  have hf := M.response_len bs method false
  have hways := M.ends bs method
  have HQF := Lib.hid (HRQ.out false)
  have HQT := Lib.hid (HRQ.out true)
  clear HRQ
  generalize M.response bs method false = X at *
  generalize M.response bs method true = Y at *
  obtain ⟨hf1, hf2, hf3⟩ := hf
  clear hx ht he
  go_enter Tryz.func10, Tryz.ntmps10
  go_wp2_with fail
  refine (HA.out _ (Below.refl _ _)).mono ?_
  rintro e w1 ⟨rfl, hb1⟩
  have HB1 := Lib.hid hb1
  clear hb1 HA
  go_wp2_with fail
  refine (HCB.out _ HB1.out).mono ?_
  rintro e w2 ⟨A2, c2, rfl, hr2, hb2⟩
  have HB2 := Lib.hid (below_then HB1.out.size HB1.out hb2)
  have HR2 := Lib.hid hr2
  clear hb2 hr2 HB1
  go_wp2_with fail
  refine (HQF.out A2 c2 w1 _ HB2.out HR2.out).mono ?_
  rintro e w3 ⟨A4, a4, D4, d4, T4, t4, rfl, hr4, hd4, hf4, hb3⟩
  have HB4 := Lib.hid ((below_then HB2.out.size HB2.out hb3).alloc (by have := HB2.out.size; have := hb3.size; omega) (.cells #[.string ⟨#[]⟩, .string ⟨#[]⟩, .int .i64 0, .slice none 0 0, .int .i64 X.s, .string X.r, .int .i64 X.v, .slice A4 X.fs.length a4, .slice D4 X.d.length d4, .slice T4 X.f.length t4] 49))
  have HX4 := Lib.hid (Blk.new w3 #[.string ⟨#[]⟩, .string ⟨#[]⟩, .int .i64 0, .slice none 0 0, .int .i64 X.s, .string X.r, .int .i64 X.v, .slice A4 X.fs.length a4, .slice D4 X.d.length d4, .slice T4 X.f.length t4] 49)
  have HR4 := Lib.hid (hr4.rd.alloc (.cells #[.string ⟨#[]⟩, .string ⟨#[]⟩, .int .i64 0, .slice none 0 0, .int .i64 X.s, .string X.r, .int .i64 X.v, .slice A4 X.fs.length a4, .slice D4 X.d.length d4, .slice T4 X.f.length t4] 49))
  have HD4 := Lib.hid (hd4.rd.alloc (.cells #[.string ⟨#[]⟩, .string ⟨#[]⟩, .int .i64 0, .slice none 0 0, .int .i64 X.s, .string X.r, .int .i64 X.v, .slice A4 X.fs.length a4, .slice D4 X.d.length d4, .slice T4 X.f.length t4] 49))
  have HF4 := Lib.hid (hf4.rd.alloc (.cells #[.string ⟨#[]⟩, .string ⟨#[]⟩, .int .i64 0, .slice none 0 0, .int .i64 X.s, .string X.r, .int .i64 X.v, .slice A4 X.fs.length a4, .slice D4 X.d.length d4, .slice T4 X.f.length t4] 49))
  clear hb3 hr4 hd4 hf4 HB2 HR2 HQF
  go_upto_region 4 with fail
  generalize w3.alloc (.cells #[.string ⟨#[]⟩, .string ⟨#[]⟩, .int .i64 0, .slice none 0 0, .int .i64 X.s, .string X.r, .int .i64 X.v, .slice A4 X.fs.length a4, .slice D4 X.d.length d4, .slice T4 X.f.length t4] 49) = w4 at *
  generalize w3.heap.size = b4 at *
  go_wp2_with fail
  refine (HCB.out _ HB4.out).mono ?_
  rintro e w5 ⟨A5, c5, rfl, hr5, hb5⟩
  have HB5 := Lib.hid (below_then HB4.out.size HB4.out hb5)
  have HO5 := Lib.hid hr5
  have HX5 := Lib.hid (HX4.out.below hb5)
  have HR5 := Lib.hid (HR4.out.below hb5)
  have HD5 := Lib.hid (HD4.out.below hb5)
  have HF5 := Lib.hid (HF4.out.below hb5)
  clear hb5 hr5 HB4 HX4 HR4 HD4 HF4 HCB
  go_wp2_with fail
  refine (HQT.out A5 c5 w4 _ HB5.out HO5.out).mono ?_
  rintro e w6 ⟨A7, a7, D7, d7, T7, t7, rfl, hr7, hd7, hf7, hb6⟩
  have HB7 := Lib.hid ((below_then HB5.out.size HB5.out hb6).alloc (by have := HB5.out.size; have := hb6.size; omega) (.cells #[.string ⟨#[]⟩, .string ⟨#[]⟩, .int .i64 0, .slice none 0 0, .int .i64 Y.s, .string Y.r, .int .i64 Y.v, .slice A7 Y.fs.length a7, .slice D7 Y.d.length d7, .slice T7 Y.f.length t7] 49))
  have HY7 := Lib.hid (Blk.new w6 #[.string ⟨#[]⟩, .string ⟨#[]⟩, .int .i64 0, .slice none 0 0, .int .i64 Y.s, .string Y.r, .int .i64 Y.v, .slice A7 Y.fs.length a7, .slice D7 Y.d.length d7, .slice T7 Y.f.length t7] 49)
  have HX7 := Lib.hid ((HX5.out.below hb6).alloc (.cells #[.string ⟨#[]⟩, .string ⟨#[]⟩, .int .i64 0, .slice none 0 0, .int .i64 Y.s, .string Y.r, .int .i64 Y.v, .slice A7 Y.fs.length a7, .slice D7 Y.d.length d7, .slice T7 Y.f.length t7] 49))
  have HR7 := Lib.hid ((HR5.out.below hb6).alloc (.cells #[.string ⟨#[]⟩, .string ⟨#[]⟩, .int .i64 0, .slice none 0 0, .int .i64 Y.s, .string Y.r, .int .i64 Y.v, .slice A7 Y.fs.length a7, .slice D7 Y.d.length d7, .slice T7 Y.f.length t7] 49))
  have HD7 := Lib.hid ((HD5.out.below hb6).alloc (.cells #[.string ⟨#[]⟩, .string ⟨#[]⟩, .int .i64 0, .slice none 0 0, .int .i64 Y.s, .string Y.r, .int .i64 Y.v, .slice A7 Y.fs.length a7, .slice D7 Y.d.length d7, .slice T7 Y.f.length t7] 49))
  have HF7 := Lib.hid ((HF5.out.below hb6).alloc (.cells #[.string ⟨#[]⟩, .string ⟨#[]⟩, .int .i64 0, .slice none 0 0, .int .i64 Y.s, .string Y.r, .int .i64 Y.v, .slice A7 Y.fs.length a7, .slice D7 Y.d.length d7, .slice T7 Y.f.length t7] 49))
  have HR8 := Lib.hid (hr7.rd.alloc (.cells #[.string ⟨#[]⟩, .string ⟨#[]⟩, .int .i64 0, .slice none 0 0, .int .i64 Y.s, .string Y.r, .int .i64 Y.v, .slice A7 Y.fs.length a7, .slice D7 Y.d.length d7, .slice T7 Y.f.length t7] 49))
  have HD8 := Lib.hid (hd7.rd.alloc (.cells #[.string ⟨#[]⟩, .string ⟨#[]⟩, .int .i64 0, .slice none 0 0, .int .i64 Y.s, .string Y.r, .int .i64 Y.v, .slice A7 Y.fs.length a7, .slice D7 Y.d.length d7, .slice T7 Y.f.length t7] 49))
  have HF8 := Lib.hid (hf7.rd.alloc (.cells #[.string ⟨#[]⟩, .string ⟨#[]⟩, .int .i64 0, .slice none 0 0, .int .i64 Y.s, .string Y.r, .int .i64 Y.v, .slice A7 Y.fs.length a7, .slice D7 Y.d.length d7, .slice T7 Y.f.length t7] 49))
  clear hb6 hr7 hd7 hf7 HB5 HX5 HR5 HD5 HF5 HQT HO5
  go_upto_region 5 with fail
  generalize w6.alloc (.cells #[.string ⟨#[]⟩, .string ⟨#[]⟩, .int .i64 0, .slice none 0 0, .int .i64 Y.s, .string Y.r, .int .i64 Y.v, .slice A7 Y.fs.length a7, .slice D7 Y.d.length d7, .slice T7 Y.f.length t7] 49) = w7 at *
  generalize w6.heap.size = b7 at *
  rcases hways with ⟨E, hE, hX, hY⟩ | ⟨hE, hn, hY⟩ | ⟨hX, hY⟩
  · have e1 : X.e = E := by rw [hX]; rfl
    have e2 : Y.e = E := by rw [hY]; rfl
    have e3 : X.n = 0 := by rw [hX]; rfl
    have e4 : Y.n = 0 := by rw [hY]; rfl
    have e5 : (E != 0) = true := by rw [bne_iff_ne]; exact hE
    clear hX hY hE HX7 HY7 HR7 HD7 HF7 HR8 HD8 HF8
    rw [e1, e2, e3, e4]
    clear e1 e2 e3 e4
    go_wp2
    go_ret
    exact ⟨rfl, HB7.out⟩
  · subst hY
    rw [hE]
    have hm : 0 < Y.n := hn
    have HSM := Lib.hid (sameMessage_any ⟨#[]⟩ ⟨#[]⟩ 0 [] Y.s Y.r Y.v Y.fs Y.d Y.f none none A4 A7 D4 D7 T4 T7 0 0 a4 a7 d4 d7 t4 t7 w7 (by decide) (by omega) (by omega) (by omega)
      (Rd.nil _ _ _) (Rd.nil _ _ _) HR7.out HR8.out HD7.out HD8.out HF7.out HF8.out)
    clear HR7 HD7 HF7 HR8 HD8 HF8 hn hE
    obtain ⟨x0, x1, x2, x3, x4, x5, x6, x7, x8, x9⟩ := HX7.out.cells10
    obtain ⟨y0, y1, y2, y3, y4, y5, y6, y7, y8, y9⟩ := HY7.out.cells10
    go_wp2_with fail
    refine HSM.out.mono ?_
    rintro e w8 ⟨rfl, hb8⟩
    have HB8 := Lib.hid (below_then HB7.out.size HB7.out hb8)
    clear hb8 HB7 HSM x0 x1 x2 x3 x4 x5 x6 x7 x8 x9 y0 y1 y2 y3 y4 y5 y6 y7 y8 y9 HX7 HY7
    go_wp2
    go_ret
    exact ⟨rfl, HB8.out⟩
  · have e1 : X.e = 0 := by rw [hX]; rfl
    have e3 : X.n = 0 := by rw [hX]; rfl
    rw [e1, e3]
    clear hX e1 e3 HX7 HY7 HR7 HD7 HF7 HR8 HD8 HF8
    rcases hY with hY | ⟨h1, h2⟩
    · have e2 : Y.e = 80 := by rw [hY]; rfl
      have e4 : Y.n = 0 := by rw [hY]; rfl
      rw [e2, e4]
      clear hY e2 e4
      go_wp2
      go_ret
      exact ⟨rfl, HB7.out⟩
    · rw [h1, h2]
      clear h1 h2
      go_wp2
      go_ret
      exact ⟨rfl, HB7.out⟩
end Go.Proofs.YtcdbppoohlabnaaGreatDoor
