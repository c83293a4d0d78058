/- The walk of the law InboxResponses (printed by gen/irlaw.py). Conditions: a row of at most 2^20 bytes; the library's two tables of UTF-8; internal/bytealg.MaxLen; strconv's two error variables. -/
import Derived.Test.YteehjkfmlcfffaaGreatDoorRMsgA
import Derived.Test.YteehjkfmlcfffaaGreatDoorMsgX
import Derived.Test.YteehjkfmlcfffaaGreatDoorChunkDA
namespace Go.Proofs.YteehjkfmlcfffaaGreatDoor
open Go.RowKit

namespace M
theorem response_len (bs : List UInt8) (method : ByteArray) (ended : Bool) : (response bs method ended).fs.length ≤ bs.length ∧ (response bs method ended).d.length ≤ bs.length + 65536 ∧ (response bs method ended).f.length ≤ 100 := by
  have hz : ∀ e : Int, (MP.bad e).fs.length ≤ bs.length ∧ (MP.bad e).d.length ≤ bs.length + 65536 ∧ (MP.bad e).f.length ≤ 100 := fun e => ⟨Nat.zero_le _, Nat.zero_le _, Nat.zero_le _⟩
  have hfb := (P.response_bulk bs).1
  have hlb := F.len_le_bulk (P.response bs).fs
  unfold response
  split
  · exact hz _
  · split
    · exact hz _
    · unfold framedR
      split
      · exact hz _
      · split
        · unfold closed
          split
          · exact hz _
          · split
            · refine ⟨by show (P.response bs).fs.length ≤ _; omega, ?_, Nat.zero_le _⟩
              show (bs.drop _).length ≤ _
              rw [List.length_drop]
              omega
            · exact hz _
        · unfold wholeR
          split
          · exact hz _
          · split
            · exact hz _
            · have hb := body_lens bs (P.response bs).n.toNat (F.frameR (P.response bs).s (P.response bs).v (P.response bs).fs method).k (F.frameR (P.response bs).s (P.response bs).v (P.response bs).fs method).n
              exact ⟨by show (P.response bs).fs.length ≤ _; omega, hb.1, hb.2⟩
theorem ali_cut : response [72, 84, 84, 80, 47, 49, 46, 49, 32, 50, 48, 48] ⟨#[71, 69, 84]⟩ true = .bad 80 := by
  have h1 : P.response [72, 84, 84, 80, 47, 49, 46, 49, 32, 50, 48, 48] = .bad 0 := by
    rw [P.response_no (by decide +kernel), P.hE_no (by decide +kernel)]
    rfl
  unfold response
  rw [h1]
  rfl
end M
set_option maxRecDepth 100000 in
set_option maxHeartbeats 4000000 in
theorem inboxResponses_any (A : Option Addr) (n c : Nat) (bs : List UInt8) (method : ByteArray) (ended : Bool) (w : World) (hnm : bs.length ≤ 1048576) (hl : bs.length = n) (hnc : n ≤ c) (hx : Rd w A n 1 (bcells bs)) (ht : LibOk w) (he : ErrOk w) :
    Calls Tryz.prog 3 #[.slice A n c, .string method, .bool ended] w (RetB w true) := by
  subst hl
  have hb0 := (Below.refl w.heap.size w).alloc (Nat.le_refl _) (.cells #[.int .u8 72, .int .u8 84, .int .u8 84, .int .u8 80, .int .u8 47, .int .u8 49, .int .u8 46, .int .u8 49, .int .u8 32, .int .u8 50, .int .u8 48, .int .u8 48] 5 (12, 13))
  have HB0 := Lib.hid hb0
  have HQ : Hid (Calls Tryz.prog 13 #[.slice (some ⟨w.heap.size, 0, none⟩) 12 12, .string ⟨#[71, 69, 84]⟩, .bool true] (w.alloc (.cells #[.int .u8 72, .int .u8 84, .int .u8 84, .int .u8 80, .int .u8 47, .int .u8 49, .int .u8 46, .int .u8 49, .int .u8 32, .int .u8 50, .int .u8 48, .int .u8 48] 5 (12, 13))) (RetMsp (w.alloc (.cells #[.int .u8 72, .int .u8 84, .int .u8 84, .int .u8 80, .int .u8 47, .int .u8 49, .int .u8 46, .int .u8 49, .int .u8 32, .int .u8 50, .int .u8 48, .int .u8 48] 5 (12, 13))) (.bad 80))) := Lib.hid (by
    rw [← M.ali_cut]
    exact inboxResponse_any (some ⟨w.heap.size, 0, none⟩) 12 12 [72, 84, 84, 80, 47, 49, 46, 49, 32, 50, 48, 48] _ true _ (by decide) (Nat.le_refl _) (fun h => by cases h) (fun a h => by cases h; exact .inl rfl) (Rd.newRowM w 5 #[.int .u8 72, .int .u8 84, .int .u8 84, .int .u8 80, .int .u8 47, .int .u8 49, .int .u8 46, .int .u8 49, .int .u8 32, .int .u8 50, .int .u8 48, .int .u8 48] (12, 13) 12 1 rfl) (ht.below hb0) (he.below hb0))
  have hcc := Lib.run_convert_bytes_const (P := Tryz.prog) w 22 5 #[.int .u8 72, .int .u8 84, .int .u8 84, .int .u8 80, .int .u8 47, .int .u8 49, .int .u8 46, .int .u8 49, .int .u8 32, .int .u8 50, .int .u8 48, .int .u8 48] 12 12 Tryz.underlying22 Tryz.underlying5
  have HSP := Lib.hid (fun (u : World) (hu : Below w.heap.size w u) => spare_any A c bs u (by omega) (hx.below hu))
  have HRQ := Lib.hid (fun (g c3 : Nat) (u : World) (hu : Below w.heap.size w u) (hc : bs.length ≤ c3) (hr : Rd u (some ⟨g, 0, none⟩) bs.length 1 (bcells bs)) => inboxResponse_any (some ⟨g, 0, none⟩) bs.length c3 bs method ended u (by omega) hc (fun h => by cases h) (fun a h => by cases h; exact .inl rfl) hr (ht.below hu) (he.below hu))
  have HRR := Lib.hid (fun (u : World) (hu : Below w.heap.size w u) => refMessageR_any A bs.length c bs method ended u (by omega) hnc (hx.below hu))
  have HLM : Hid ((bs ++ marks).length = bs.length + 8) := by rw [List.length_append]; exact Lib.hid rfl
  have HMK : Hid (marks.length = 8) := Lib.hid rfl
  have hf := M.response_len bs method ended
  obtain ⟨X, hX⟩ : ∃ X, M.response bs method ended = X := ⟨_, rfl⟩
  rw [hX] at HRQ HRR hf
  obtain ⟨hf1, hf2, hf3⟩ := hf
  clear hx ht he hX hb0
  go_enter Tryz.func3, Tryz.ntmps3
  go_wp2_with fail
  clear hcc
  generalize w.alloc (.cells #[.int .u8 72, .int .u8 84, .int .u8 84, .int .u8 80, .int .u8 47, .int .u8 49, .int .u8 46, .int .u8 49, .int .u8 32, .int .u8 50, .int .u8 48, .int .u8 48] 5 (12, 13)) = w0 at *
  refine HQ.out.mono ?_
  rintro e w1 ⟨A1, a1, D1, d1, T1, t1, rfl, hr1, hd1, hf01, hb1⟩
  have HB1 := Lib.hid ((below_then HB0.out.size HB0.out hb1).alloc (by have := HB0.out.size; have := hb1.size; omega) (.cells #[.string ⟨#[]⟩, .string ⟨#[]⟩, .int .i64 0, .slice none 0 0, .int .i64 (M.MP.bad 80).s, .string (M.MP.bad 80).r, .int .i64 (M.MP.bad 80).v, .slice A1 (M.MP.bad 80).fs.length a1, .slice D1 (M.MP.bad 80).d.length d1, .slice T1 (M.MP.bad 80).f.length t1] 29))
  have he80 : (M.MP.bad 80).e = 80 := rfl
  clear hb1 hr1 hd1 hf01 HB0 HQ
  go_upto_region 2 with fail
  generalize w1.alloc (.cells #[.string ⟨#[]⟩, .string ⟨#[]⟩, .int .i64 0, .slice none 0 0, .int .i64 (M.MP.bad 80).s, .string (M.MP.bad 80).r, .int .i64 (M.MP.bad 80).v, .slice A1 (M.MP.bad 80).fs.length a1, .slice D1 (M.MP.bad 80).d.length d1, .slice T1 (M.MP.bad 80).f.length t1] 29) = w2 at *
  go_wp2_with fail
  refine (HSP.out _ HB1.out).mono ?_
  rintro e w3 ⟨A3, c3, e3, hr3, hb3⟩
  rw [HLM.out] at e3 hr3
  subst e3
  have hc3 := hr3.2.1
  obtain ⟨g, rfl, hgb⟩ : ∃ g, A3 = some ⟨g, 0, none⟩ ∧ w2.heap.size ≤ g := by
    rcases hr3.2.2 with h | ⟨g, h, h2, _⟩
    · omega
    · exact ⟨g, h, h2⟩
  have hrd := hr3.rd
  rw [← HMK.out] at hrd
  have HB3 := Lib.hid (below_then HB1.out.size HB1.out hb3)
  have HR3 := Lib.hid hrd
  have hc4 : bs.length ≤ c3 := by omega
  have hc5 : (bs.length : Int) ≤ (c3 : Int) := by omega
  clear hb3 hr3 hrd HB1 hgb
  go_wp2_with fail
  refine (HRQ.out g c3 _ HB3.out hc4 (rd_frontH HR3.out)).mono ?_
  rintro e w4 ⟨A4, a4, D4, d4, T4, t4, rfl, hr4, hd4, hf4, hb4⟩
  have HB5 := Lib.hid ((below_then HB3.out.size HB3.out hb4).alloc (by have := HB3.out.size; have := hb4.size; omega) (.cells #[.string ⟨#[]⟩, .string ⟨#[]⟩, .int .i64 0, .slice none 0 0, .int .i64 X.s, .string X.r, .int .i64 X.v, .slice A4 X.fs.length a4, .slice D4 X.d.length d4, .slice T4 X.f.length t4] 29))
  have HM5 := Lib.hid ((HR3.out.below hb4).alloc (.cells #[.string ⟨#[]⟩, .string ⟨#[]⟩, .int .i64 0, .slice none 0 0, .int .i64 X.s, .string X.r, .int .i64 X.v, .slice A4 X.fs.length a4, .slice D4 X.d.length d4, .slice T4 X.f.length t4] 29))
  have HX5 := Lib.hid (Blk.new w4 #[.string ⟨#[]⟩, .string ⟨#[]⟩, .int .i64 0, .slice none 0 0, .int .i64 X.s, .string X.r, .int .i64 X.v, .slice A4 X.fs.length a4, .slice D4 X.d.length d4, .slice T4 X.f.length t4] 29)
  have HR5 := Lib.hid (hr4.rd.alloc (.cells #[.string ⟨#[]⟩, .string ⟨#[]⟩, .int .i64 0, .slice none 0 0, .int .i64 X.s, .string X.r, .int .i64 X.v, .slice A4 X.fs.length a4, .slice D4 X.d.length d4, .slice T4 X.f.length t4] 29))
  have HD5 := Lib.hid (hd4.rd.alloc (.cells #[.string ⟨#[]⟩, .string ⟨#[]⟩, .int .i64 0, .slice none 0 0, .int .i64 X.s, .string X.r, .int .i64 X.v, .slice A4 X.fs.length a4, .slice D4 X.d.length d4, .slice T4 X.f.length t4] 29))
  have HF5 := Lib.hid (hf4.rd.alloc (.cells #[.string ⟨#[]⟩, .string ⟨#[]⟩, .int .i64 0, .slice none 0 0, .int .i64 X.s, .string X.r, .int .i64 X.v, .slice A4 X.fs.length a4, .slice D4 X.d.length d4, .slice T4 X.f.length t4] 29))
  clear hb4 hr4 hd4 hf4 HB3 HR3 HRQ
  go_upto_region 6 with fail
  generalize w4.alloc (.cells #[.string ⟨#[]⟩, .string ⟨#[]⟩, .int .i64 0, .slice none 0 0, .int .i64 X.s, .string X.r, .int .i64 X.v, .slice A4 X.fs.length a4, .slice D4 X.d.length d4, .slice T4 X.f.length t4] 29) = w5 at *
  go_wp2_with fail
  refine (HRR.out _ HB5.out).mono ?_
  rintro e w6 ⟨A6, a6, D6, d6, T6, t6, rfl, hr6, hd6, hf6, hb6⟩
  have HB7 := Lib.hid ((below_then HB5.out.size HB5.out hb6).alloc (by have := HB5.out.size; have := hb6.size; omega) (.cells #[.string ⟨#[]⟩, .string ⟨#[]⟩, .int .i64 0, .slice none 0 0, .int .i64 X.s, .string X.r, .int .i64 X.v, .slice A6 X.fs.length a6, .slice D6 X.d.length d6, .slice T6 X.f.length t6] 29))
  have HM7 := Lib.hid ((HM5.out.below hb6).alloc (.cells #[.string ⟨#[]⟩, .string ⟨#[]⟩, .int .i64 0, .slice none 0 0, .int .i64 X.s, .string X.r, .int .i64 X.v, .slice A6 X.fs.length a6, .slice D6 X.d.length d6, .slice T6 X.f.length t6] 29))
  have HX7 := Lib.hid ((HX5.out.below hb6).alloc (.cells #[.string ⟨#[]⟩, .string ⟨#[]⟩, .int .i64 0, .slice none 0 0, .int .i64 X.s, .string X.r, .int .i64 X.v, .slice A6 X.fs.length a6, .slice D6 X.d.length d6, .slice T6 X.f.length t6] 29))
  have HY7 := Lib.hid (Blk.new w6 #[.string ⟨#[]⟩, .string ⟨#[]⟩, .int .i64 0, .slice none 0 0, .int .i64 X.s, .string X.r, .int .i64 X.v, .slice A6 X.fs.length a6, .slice D6 X.d.length d6, .slice T6 X.f.length t6] 29)
  have HSM := Lib.hid (sameMessage_any ⟨#[]⟩ ⟨#[]⟩ 0 [] X.s X.r X.v X.fs X.d X.f none none A4 A6 D4 D6 T4 T6 0 0 a4 a6 d4 d6 t4 t6 (w6.alloc (.cells #[.string ⟨#[]⟩, .string ⟨#[]⟩, .int .i64 0, .slice none 0 0, .int .i64 X.s, .string X.r, .int .i64 X.v, .slice A6 X.fs.length a6, .slice D6 X.d.length d6, .slice T6 X.f.length t6] 29)) (by decide) (by omega) (by omega) (by omega)
    (Rd.nil _ _ _) (Rd.nil _ _ _) ((HR5.out.below hb6).alloc (.cells #[.string ⟨#[]⟩, .string ⟨#[]⟩, .int .i64 0, .slice none 0 0, .int .i64 X.s, .string X.r, .int .i64 X.v, .slice A6 X.fs.length a6, .slice D6 X.d.length d6, .slice T6 X.f.length t6] 29)) (hr6.rd.alloc (.cells #[.string ⟨#[]⟩, .string ⟨#[]⟩, .int .i64 0, .slice none 0 0, .int .i64 X.s, .string X.r, .int .i64 X.v, .slice A6 X.fs.length a6, .slice D6 X.d.length d6, .slice T6 X.f.length t6] 29))
    ((HD5.out.below hb6).alloc (.cells #[.string ⟨#[]⟩, .string ⟨#[]⟩, .int .i64 0, .slice none 0 0, .int .i64 X.s, .string X.r, .int .i64 X.v, .slice A6 X.fs.length a6, .slice D6 X.d.length d6, .slice T6 X.f.length t6] 29)) (hd6.rd.alloc (.cells #[.string ⟨#[]⟩, .string ⟨#[]⟩, .int .i64 0, .slice none 0 0, .int .i64 X.s, .string X.r, .int .i64 X.v, .slice A6 X.fs.length a6, .slice D6 X.d.length d6, .slice T6 X.f.length t6] 29)) ((HF5.out.below hb6).alloc (.cells #[.string ⟨#[]⟩, .string ⟨#[]⟩, .int .i64 0, .slice none 0 0, .int .i64 X.s, .string X.r, .int .i64 X.v, .slice A6 X.fs.length a6, .slice D6 X.d.length d6, .slice T6 X.f.length t6] 29)) (hf6.rd.alloc (.cells #[.string ⟨#[]⟩, .string ⟨#[]⟩, .int .i64 0, .slice none 0 0, .int .i64 X.s, .string X.r, .int .i64 X.v, .slice A6 X.fs.length a6, .slice D6 X.d.length d6, .slice T6 X.f.length t6] 29)))
  clear hb6 hr6 hd6 hf6 HB5 HM5 HX5 HR5 HD5 HF5 HRR
  go_upto_region 7 with fail
  generalize w6.alloc (.cells #[.string ⟨#[]⟩, .string ⟨#[]⟩, .int .i64 0, .slice none 0 0, .int .i64 X.s, .string X.r, .int .i64 X.v, .slice A6 X.fs.length a6, .slice D6 X.d.length d6, .slice T6 X.f.length t6] 29) = w7 at *
  obtain ⟨x0, x1, x2, x3, x4, x5, x6, x7, x8, x9⟩ := HX7.out.cells10
  obtain ⟨y0, y1, y2, y3, y4, y5, y6, y7, y8, y9⟩ := HY7.out.cells10
  go_wp2_with fail
  clear x0 x1 x2 x3 x4 x5 x6 x7 x8 x9 y0 y1 y2 y3 y4 y5 y6 y7 y8 y9 HX7 HY7
  refine HSM.out.mono ?_
  rintro e w8 ⟨rfl, hb8⟩
  have HB8 := Lib.hid (below_then HB7.out.size HB7.out hb8)
  have HM8 := Lib.hid (HM7.out.below hb8)
  clear hb8 HB7 HM7 HSM
  go_wp2_with fail
  refine (HSP.out _ HB8.out).mono ?_
  rintro e w9 ⟨A9, c9, e9, hr9, hb9⟩
  rw [HLM.out] at e9 hr9
  subst e9
  have HR9 := Lib.hid hr9.rd
  have HB9 := Lib.hid (below_then HB8.out.size HB8.out hb9)
  have HM9 : Hid (Rd w9 (some ⟨g, 0, none⟩) (bs.length + 8) 1 (bcells (bs ++ marks))) := by
    have := HM8.out.below hb9
    rw [HMK.out] at this
    exact Lib.hid this
  clear hb9 hr9 HSP HB8 HM8
  go_wp2_with fail
  refine (sameBC (some ⟨g, 0, none⟩) A9 (bs.length + 8) c3 c9 (bs ++ marks) w9 (by omega) HLM.out HM9.out HR9.out).mono ?_
  rintro e w10 ⟨rfl, hb10⟩
  have HB10 := Lib.hid (below_then HB9.out.size HB9.out hb10)
  clear hb10 HB9 HM9 HR9
  go_wp2
  go_ret
  exact ⟨rfl, HB10.out⟩
end Go.Proofs.YteehjkfmlcfffaaGreatDoor
