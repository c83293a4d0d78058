/- The walk of the law InboxRequests (printed by gen/msgx.py). Conditions: a row of at most 2^20 bytes; the library's two tables of UTF-8; internal/bytealg.MaxLen; strconv's two error variables. -/
import Derived.Test.YtnmldbcgpfglkaaGreatDoorMsgB
namespace Go.Proofs.YtnmldbcgpfglkaaGreatDoor
open Go.RowKit

namespace M
def aliB : List UInt8 := [80, 79, 83, 84, 32, 47, 32, 72, 84, 84, 80, 47, 49, 46, 49, 13, 10, 72, 111, 115, 116, 58, 32, 97, 13, 10, 67, 111, 110, 116, 101, 110, 116, 45, 76, 101, 110, 103, 116, 104, 58, 32, 50, 13, 10, 13, 10, 120, 121, 122]
def aliF : List FD := [(⟨#[72, 111, 115, 116]⟩, ⟨#[97]⟩), (⟨#[67, 111, 110, 116, 101, 110, 116, 45, 76, 101, 110, 103, 116, 104]⟩, ⟨#[50]⟩)]
theorem ali_parse : P.parse [] [72, 111, 115, 116, 58, 32, 97, 13, 10, 67, 111, 110, 116, 101, 110, 116, 45, 76, 101, 110, 103, 116, 104, 58, 32, 50, 13, 10] = (aliF, 0) := by
  rw [P.parse_step _ (by decide) (show P.from_ P.eol [72, 111, 115, 116, 58, 32, 97, 13, 10, 67, 111, 110, 116, 101, 110, 116, 45, 76, 101, 110, 103, 116, 104, 58, 32, 50, 13, 10] = 13 :: 10 :: [67, 111, 110, 116, 101, 110, 116, 45, 76, 101, 110, 103, 116, 104, 58, 32, 50, 13, 10] by decide), if_neg (by decide +kernel), if_neg (by decide)]
  rw [P.parse_step _ (by decide) (show P.from_ P.eol [67, 111, 110, 116, 101, 110, 116, 45, 76, 101, 110, 103, 116, 104, 58, 32, 50, 13, 10] = 13 :: 10 :: [] by decide), if_neg (by decide +kernel), if_neg (by decide)]
  rw [P.parse_nil]
  rfl
theorem ali_request : P.request aliB = ⟨⟨#[80, 79, 83, 84]⟩, ⟨#[47]⟩, 1, aliF, 47, 0⟩ := by
  have h1 : P.hE aliB (P.skip aliB) = 0 := by decide +kernel
  have h2 : P.hN aliB (P.skip aliB) = 47 := by decide +kernel
  have h3 : P.hLine aliB (P.skip aliB) = [80, 79, 83, 84, 32, 47, 32, 72, 84, 84, 80, 47, 49, 46, 49] := by decide +kernel
  have h4 : P.hBlock aliB (P.skip aliB) = [72, 111, 115, 116, 58, 32, 97, 13, 10, 67, 111, 110, 116, 101, 110, 116, 45, 76, 101, 110, 103, 116, 104, 58, 32, 50, 13, 10] := by decide +kernel
  unfold P.request
  rw [h1, h2, if_neg (by decide), h3, h4]
  unfold P.reqOf
  rw [ali_parse, if_neg (by decide +kernel), if_neg (by decide +kernel), if_neg (by decide), if_neg (by decide +kernel)]
  rfl
theorem ali_frame : F.frame 1 aliF 0 = ⟨1, 2, 0⟩ := by
  have h : (F.frame 1 aliF 0).k = 1 ∧ (F.frame 1 aliF 0).n = 2 ∧ (F.frame 1 aliF 0).e = 0 := by decide +kernel
  generalize F.frame 1 aliF 0 = R at *
  obtain ⟨a, b, c⟩ := R
  obtain ⟨h1, h2, h3⟩ := h
  rw [show a = 1 from h1, show b = 2 from h2, show c = 0 from h3]
theorem ali_message : request aliB = ⟨⟨#[80, 79, 83, 84]⟩, ⟨#[47]⟩, 1, aliF, [120, 121], [], 49, 0⟩ := by
  unfold request
  rw [ali_request, if_neg (by decide)]
  show framed aliB _ (F.frame 1 aliF 0) = _
  rw [ali_frame]
  rfl
theorem body_lens (bs : List UInt8) (N : Nat) (k z : Int) : (body bs N k z).d.length ≤ bs.length + 65536 ∧ (body bs N k z).f.length ≤ 100 := by
  have hd := C.decode_len (bs.drop N)
  unfold body
  repeat' split
  · exact ⟨Nat.zero_le _, Nat.zero_le _⟩
  · refine ⟨?_, Nat.zero_le _⟩
    show ((bs.drop N).take z.toNat).length ≤ _
    rw [List.length_take, List.length_drop]
    omega
  · exact ⟨Nat.zero_le _, Nat.zero_le _⟩
  · exact ⟨by show (C.decode (bs.drop N)).d.length ≤ _; omega, hd.2⟩
  · exact ⟨Nat.zero_le _, Nat.zero_le _⟩
theorem request_len (bs : List UInt8) : (request bs).fs.length ≤ bs.length ∧ (request bs).d.length ≤ bs.length + 65536 ∧ (request bs).f.length ≤ 100 := by
  have hz : ∀ e : Int, (MQ.bad e).fs.length ≤ bs.length ∧ (MQ.bad e).d.length ≤ bs.length + 65536 ∧ (MQ.bad e).f.length ≤ 100 := fun e => ⟨Nat.zero_le _, Nat.zero_le _, Nat.zero_le _⟩
  have hfb := P.request_bulk bs
  have hlb := F.len_le_bulk (P.request bs).fs
  unfold request
  split
  · exact hz _
  · unfold framed
    split
    · exact hz _
    · unfold whole
      split
      · exact hz _
      · have hb := body_lens bs (P.request bs).n.toNat (F.frame (P.request bs).v (P.request bs).fs 0).k (F.frame (P.request bs).v (P.request bs).fs 0).n
        exact ⟨by show (P.request bs).fs.length ≤ _; omega, hb.1, hb.2⟩
end M
set_option maxRecDepth 100000 in
set_option maxHeartbeats 4000000 in
theorem inboxAlive_any (w : World) (ht : LibOk w) (he : ErrOk w) : Calls Tryz.prog 36 #[] w (RetB w true) := by
  have hb0 := (Below.refl w.heap.size w).alloc (Nat.le_refl _) (.cells #[.int .u8 80, .int .u8 79, .int .u8 83, .int .u8 84, .int .u8 32, .int .u8 47, .int .u8 32, .int .u8 72, .int .u8 84, .int .u8 84, .int .u8 80, .int .u8 47, .int .u8 49, .int .u8 46, .int .u8 49, .int .u8 13, .int .u8 10, .int .u8 72, .int .u8 111, .int .u8 115, .int .u8 116, .int .u8 58, .int .u8 32, .int .u8 97, .int .u8 13, .int .u8 10, .int .u8 67, .int .u8 111, .int .u8 110, .int .u8 116, .int .u8 101, .int .u8 110, .int .u8 116, .int .u8 45, .int .u8 76, .int .u8 101, .int .u8 110, .int .u8 103, .int .u8 116, .int .u8 104, .int .u8 58, .int .u8 32, .int .u8 50, .int .u8 13, .int .u8 10, .int .u8 13, .int .u8 10, .int .u8 120, .int .u8 121, .int .u8 122] 5 (50, 51))
  have HB0 := Lib.hid hb0
  have HQ : Hid (Calls Tryz.prog 37 #[.slice (some ⟨w.heap.size, 0, none⟩) 50 50] (w.alloc (.cells #[.int .u8 80, .int .u8 79, .int .u8 83, .int .u8 84, .int .u8 32, .int .u8 47, .int .u8 32, .int .u8 72, .int .u8 84, .int .u8 84, .int .u8 80, .int .u8 47, .int .u8 49, .int .u8 46, .int .u8 49, .int .u8 13, .int .u8 10, .int .u8 72, .int .u8 111, .int .u8 115, .int .u8 116, .int .u8 58, .int .u8 32, .int .u8 97, .int .u8 13, .int .u8 10, .int .u8 67, .int .u8 111, .int .u8 110, .int .u8 116, .int .u8 101, .int .u8 110, .int .u8 116, .int .u8 45, .int .u8 76, .int .u8 101, .int .u8 110, .int .u8 103, .int .u8 116, .int .u8 104, .int .u8 58, .int .u8 32, .int .u8 50, .int .u8 13, .int .u8 10, .int .u8 13, .int .u8 10, .int .u8 120, .int .u8 121, .int .u8 122] 5 (50, 51))) (RetMsg (w.alloc (.cells #[.int .u8 80, .int .u8 79, .int .u8 83, .int .u8 84, .int .u8 32, .int .u8 47, .int .u8 32, .int .u8 72, .int .u8 84, .int .u8 84, .int .u8 80, .int .u8 47, .int .u8 49, .int .u8 46, .int .u8 49, .int .u8 13, .int .u8 10, .int .u8 72, .int .u8 111, .int .u8 115, .int .u8 116, .int .u8 58, .int .u8 32, .int .u8 97, .int .u8 13, .int .u8 10, .int .u8 67, .int .u8 111, .int .u8 110, .int .u8 116, .int .u8 101, .int .u8 110, .int .u8 116, .int .u8 45, .int .u8 76, .int .u8 101, .int .u8 110, .int .u8 103, .int .u8 116, .int .u8 104, .int .u8 58, .int .u8 32, .int .u8 50, .int .u8 13, .int .u8 10, .int .u8 13, .int .u8 10, .int .u8 120, .int .u8 121, .int .u8 122] 5 (50, 51))) ⟨⟨#[80, 79, 83, 84]⟩, ⟨#[47]⟩, 1, M.aliF, [120, 121], [], 49, 0⟩)) := Lib.hid (by
    rw [← M.ali_message]
    exact inboxRequest_any (some ⟨w.heap.size, 0, none⟩) 50 50 M.aliB _ (by decide) (Nat.le_refl _) (fun h => by cases h) (fun a h => by cases h; exact .inl rfl) (Rd.newRowM w 5 #[.int .u8 80, .int .u8 79, .int .u8 83, .int .u8 84, .int .u8 32, .int .u8 47, .int .u8 32, .int .u8 72, .int .u8 84, .int .u8 84, .int .u8 80, .int .u8 47, .int .u8 49, .int .u8 46, .int .u8 49, .int .u8 13, .int .u8 10, .int .u8 72, .int .u8 111, .int .u8 115, .int .u8 116, .int .u8 58, .int .u8 32, .int .u8 97, .int .u8 13, .int .u8 10, .int .u8 67, .int .u8 111, .int .u8 110, .int .u8 116, .int .u8 101, .int .u8 110, .int .u8 116, .int .u8 45, .int .u8 76, .int .u8 101, .int .u8 110, .int .u8 103, .int .u8 116, .int .u8 104, .int .u8 58, .int .u8 32, .int .u8 50, .int .u8 13, .int .u8 10, .int .u8 13, .int .u8 10, .int .u8 120, .int .u8 121, .int .u8 122] (50, 51) 50 1 rfl) (ht.below hb0) (he.below hb0))
  have hcc := Lib.run_convert_bytes_const (P := Tryz.prog) w 22 5 #[.int .u8 80, .int .u8 79, .int .u8 83, .int .u8 84, .int .u8 32, .int .u8 47, .int .u8 32, .int .u8 72, .int .u8 84, .int .u8 84, .int .u8 80, .int .u8 47, .int .u8 49, .int .u8 46, .int .u8 49, .int .u8 13, .int .u8 10, .int .u8 72, .int .u8 111, .int .u8 115, .int .u8 116, .int .u8 58, .int .u8 32, .int .u8 97, .int .u8 13, .int .u8 10, .int .u8 67, .int .u8 111, .int .u8 110, .int .u8 116, .int .u8 101, .int .u8 110, .int .u8 116, .int .u8 45, .int .u8 76, .int .u8 101, .int .u8 110, .int .u8 103, .int .u8 116, .int .u8 104, .int .u8 58, .int .u8 32, .int .u8 50, .int .u8 13, .int .u8 10, .int .u8 13, .int .u8 10, .int .u8 120, .int .u8 121, .int .u8 122] 50 50 Tryz.underlying22 Tryz.underlying5
  clear hb0 ht he
  go_enter Tryz.func36, Tryz.ntmps36
  go_wp2_with fail
  clear hcc
  generalize w.alloc (.cells #[.int .u8 80, .int .u8 79, .int .u8 83, .int .u8 84, .int .u8 32, .int .u8 47, .int .u8 32, .int .u8 72, .int .u8 84, .int .u8 84, .int .u8 80, .int .u8 47, .int .u8 49, .int .u8 46, .int .u8 49, .int .u8 13, .int .u8 10, .int .u8 72, .int .u8 111, .int .u8 115, .int .u8 116, .int .u8 58, .int .u8 32, .int .u8 97, .int .u8 13, .int .u8 10, .int .u8 67, .int .u8 111, .int .u8 110, .int .u8 116, .int .u8 101, .int .u8 110, .int .u8 116, .int .u8 45, .int .u8 76, .int .u8 101, .int .u8 110, .int .u8 103, .int .u8 116, .int .u8 104, .int .u8 58, .int .u8 32, .int .u8 50, .int .u8 13, .int .u8 10, .int .u8 13, .int .u8 10, .int .u8 120, .int .u8 121, .int .u8 122] 5 (50, 51)) = w0 at *
  refine HQ.out.mono ?_
  rintro e w1 ⟨A, c, D, d, T, k, rfl, hr1, hd1, hf1, hb1⟩
  replace hd1 : CRow w1 w0.heap.size D 2 d [120, 121] := hd1
  have HK1 := Lib.hid (Blk.new w1 #[.string ⟨#[80, 79, 83, 84]⟩, .string ⟨#[47]⟩, .int .i64 1, .slice A M.aliF.length c, .int .i64 0, .string ⟨#[]⟩, .int .i64 0, .slice none 0 0, .slice D 2 d, .slice T 0 k] 57)
  have HB1 := Lib.hid ((below_then HB0.out.size HB0.out hb1).alloc (by have := HB0.out.size; have := hb1.size; omega) (.cells #[.string ⟨#[80, 79, 83, 84]⟩, .string ⟨#[47]⟩, .int .i64 1, .slice A M.aliF.length c, .int .i64 0, .string ⟨#[]⟩, .int .i64 0, .slice none 0 0, .slice D 2 d, .slice T 0 k] 57))
  have hcv := conv_bs (hd1.rd.alloc (.cells #[.string ⟨#[80, 79, 83, 84]⟩, .string ⟨#[47]⟩, .int .i64 1, .slice A M.aliF.length c, .int .i64 0, .string ⟨#[]⟩, .int .i64 0, .slice none 0 0, .slice D 2 d, .slice T 0 k] 57)) d
  rw [show B [120, 121] = ⟨#[120, 121]⟩ from rfl] at hcv
  clear hr1 hd1 hf1 hb1 HQ HB0
  obtain ⟨a0, a1, a2, a3, a4, a5, a6, a7, a8, a9⟩ := HK1.out.cells10
  go_wp2
  go_ret
  exact ⟨rfl, HB1.out⟩
set_option maxRecDepth 100000 in
set_option maxHeartbeats 4000000 in
theorem inboxRequests_any (A : Option Addr) (n c : Nat) (bs : List UInt8) (w : World) (hnm : bs.length ≤ 1048576) (hl : bs.length = n) (hnc : n ≤ c) (hx : Rd w A n 1 (bcells bs)) (ht : LibOk w) (he : ErrOk w) :
    Calls Tryz.prog 13 #[.slice A n c] w (RetB w true) := by
  subst hl
  have HA := Lib.hid (fun (u : World) (hb : Below w.heap.size w u) => inboxAlive_any u (ht.below hb) (he.below hb))
  have HSP := Lib.hid (fun (u : World) (hu : Below w.heap.size w u) => spare_any A c bs u (by omega) (hx.below hu))
  have HRQ := Lib.hid (fun (g c3 : Nat) (u : World) (hu : Below w.heap.size w u) (hc : bs.length ≤ c3) (hr : Rd u (some ⟨g, 0, none⟩) bs.length 1 (bcells bs)) => inboxRequest_any (some ⟨g, 0, none⟩) bs.length c3 bs u (by omega) hc (fun h => by cases h) (fun a h => by cases h; exact .inl rfl) hr (ht.below hu) (he.below hu))
  have HRR := Lib.hid (fun (u : World) (hu : Below w.heap.size w u) => refMessage_any A bs.length c bs u (by omega) hnc (hx.below hu))
  have HLM : Hid ((bs ++ marks).length = bs.length + 8) := by rw [List.length_append]; exact Lib.hid rfl
  have HMK : Hid (marks.length = 8) := Lib.hid rfl
  have hf := M.request_len bs
  obtain ⟨Q, hQ⟩ : ∃ Q, M.request bs = Q := ⟨_, rfl⟩
  rw [hQ] at HRQ HRR hf
  obtain ⟨m, t, v, fs, d, f, N, E⟩ := Q
  replace hf : fs.length ≤ bs.length ∧ d.length ≤ bs.length + 65536 ∧ f.length ≤ 100 := hf
  obtain ⟨hf1, hf2, hf3⟩ := hf
  clear hx ht he hQ
  go_enter Tryz.func13, Tryz.ntmps13
  go_wp2_with fail
  refine (HA.out _ (Below.refl _ _)).mono ?_
  rintro e w1 ⟨rfl, hb1⟩
  have HB1 := Lib.hid hb1
  clear hb1 HA
  go_wp2_with fail
  refine (HSP.out _ HB1.out).mono ?_
  rintro e w3 ⟨A3, c3, e3, hr3, hb3⟩
  rw [HLM.out] at e3 hr3
  subst e3
  have hc3 := hr3.2.1
  obtain ⟨g, rfl, hgb⟩ : ∃ g, A3 = some ⟨g, 0, none⟩ ∧ w1.heap.size ≤ g := by
    rcases hr3.2.2 with h | ⟨g, h, h2, _⟩
    · omega
    · exact ⟨g, h, h2⟩
  have hrd := hr3.rd
  rw [← HMK.out] at hrd
  have HB3 := Lib.hid (below_then HB1.out.size HB1.out hb3)
  have HR3 := Lib.hid hrd
  have hc4 : bs.length ≤ c3 := by omega
  have hc5 : (bs.length : Int) ≤ (c3 : Int) := by omega
  clear hb3 hr3 hrd HB1 hgb
  go_wp2_with fail
  refine (HRQ.out g c3 _ HB3.out hc4 (rd_frontH HR3.out)).mono ?_
  rintro e w4 ⟨A4, a4, D4, d4, T4, t4, rfl, hr4, hd4, hf4, hb4⟩
  have HB5 := Lib.hid ((below_then HB3.out.size HB3.out hb4).alloc (by have := HB3.out.size; have := hb4.size; omega) (.cells #[.string m, .string t, .int .i64 v, .slice A4 fs.length a4, .int .i64 0, .string ⟨#[]⟩, .int .i64 0, .slice none 0 0, .slice D4 d.length d4, .slice T4 f.length t4] 57))
  have HM5 := Lib.hid ((HR3.out.below hb4).alloc (.cells #[.string m, .string t, .int .i64 v, .slice A4 fs.length a4, .int .i64 0, .string ⟨#[]⟩, .int .i64 0, .slice none 0 0, .slice D4 d.length d4, .slice T4 f.length t4] 57))
  have HX5 := Lib.hid (Blk.new w4 #[.string m, .string t, .int .i64 v, .slice A4 fs.length a4, .int .i64 0, .string ⟨#[]⟩, .int .i64 0, .slice none 0 0, .slice D4 d.length d4, .slice T4 f.length t4] 57)
  have HR5 := Lib.hid (hr4.rd.alloc (.cells #[.string m, .string t, .int .i64 v, .slice A4 fs.length a4, .int .i64 0, .string ⟨#[]⟩, .int .i64 0, .slice none 0 0, .slice D4 d.length d4, .slice T4 f.length t4] 57))
  have HD5 := Lib.hid (hd4.rd.alloc (.cells #[.string m, .string t, .int .i64 v, .slice A4 fs.length a4, .int .i64 0, .string ⟨#[]⟩, .int .i64 0, .slice none 0 0, .slice D4 d.length d4, .slice T4 f.length t4] 57))
  have HF5 := Lib.hid (hf4.rd.alloc (.cells #[.string m, .string t, .int .i64 v, .slice A4 fs.length a4, .int .i64 0, .string ⟨#[]⟩, .int .i64 0, .slice none 0 0, .slice D4 d.length d4, .slice T4 f.length t4] 57))
  clear hb4 hr4 hd4 hf4 HB3 HR3 HRQ
  go_upto_region 5 with fail
  generalize w4.alloc (.cells #[.string m, .string t, .int .i64 v, .slice A4 fs.length a4, .int .i64 0, .string ⟨#[]⟩, .int .i64 0, .slice none 0 0, .slice D4 d.length d4, .slice T4 f.length t4] 57) = w5 at *
  go_wp2_with fail
  refine (HRR.out _ HB5.out).mono ?_
  rintro e w6 ⟨A6, a6, D6, d6, T6, t6, rfl, hr6, hd6, hf6, hb6⟩
  have HB7 := Lib.hid ((below_then HB5.out.size HB5.out hb6).alloc (by have := HB5.out.size; have := hb6.size; omega) (.cells #[.string m, .string t, .int .i64 v, .slice A6 fs.length a6, .int .i64 0, .string ⟨#[]⟩, .int .i64 0, .slice none 0 0, .slice D6 d.length d6, .slice T6 f.length t6] 57))
  have HM7 := Lib.hid ((HM5.out.below hb6).alloc (.cells #[.string m, .string t, .int .i64 v, .slice A6 fs.length a6, .int .i64 0, .string ⟨#[]⟩, .int .i64 0, .slice none 0 0, .slice D6 d.length d6, .slice T6 f.length t6] 57))
  have HX7 := Lib.hid ((HX5.out.below hb6).alloc (.cells #[.string m, .string t, .int .i64 v, .slice A6 fs.length a6, .int .i64 0, .string ⟨#[]⟩, .int .i64 0, .slice none 0 0, .slice D6 d.length d6, .slice T6 f.length t6] 57))
  have HY7 := Lib.hid (Blk.new w6 #[.string m, .string t, .int .i64 v, .slice A6 fs.length a6, .int .i64 0, .string ⟨#[]⟩, .int .i64 0, .slice none 0 0, .slice D6 d.length d6, .slice T6 f.length t6] 57)
  have HSM := Lib.hid (sameMessage_any m t v fs 0 ⟨#[]⟩ 0 [] d f A4 A6 none none D4 D6 T4 T6 a4 a6 0 0 d4 d6 t4 t6 (w6.alloc (.cells #[.string m, .string t, .int .i64 v, .slice A6 fs.length a6, .int .i64 0, .string ⟨#[]⟩, .int .i64 0, .slice none 0 0, .slice D6 d.length d6, .slice T6 f.length t6] 57)) (by omega) (by decide) (by omega) (by omega)
    ((HR5.out.below hb6).alloc (.cells #[.string m, .string t, .int .i64 v, .slice A6 fs.length a6, .int .i64 0, .string ⟨#[]⟩, .int .i64 0, .slice none 0 0, .slice D6 d.length d6, .slice T6 f.length t6] 57)) (hr6.rd.alloc (.cells #[.string m, .string t, .int .i64 v, .slice A6 fs.length a6, .int .i64 0, .string ⟨#[]⟩, .int .i64 0, .slice none 0 0, .slice D6 d.length d6, .slice T6 f.length t6] 57)) (Rd.nil _ _ _) (Rd.nil _ _ _)
    ((HD5.out.below hb6).alloc (.cells #[.string m, .string t, .int .i64 v, .slice A6 fs.length a6, .int .i64 0, .string ⟨#[]⟩, .int .i64 0, .slice none 0 0, .slice D6 d.length d6, .slice T6 f.length t6] 57)) (hd6.rd.alloc (.cells #[.string m, .string t, .int .i64 v, .slice A6 fs.length a6, .int .i64 0, .string ⟨#[]⟩, .int .i64 0, .slice none 0 0, .slice D6 d.length d6, .slice T6 f.length t6] 57)) ((HF5.out.below hb6).alloc (.cells #[.string m, .string t, .int .i64 v, .slice A6 fs.length a6, .int .i64 0, .string ⟨#[]⟩, .int .i64 0, .slice none 0 0, .slice D6 d.length d6, .slice T6 f.length t6] 57)) (hf6.rd.alloc (.cells #[.string m, .string t, .int .i64 v, .slice A6 fs.length a6, .int .i64 0, .string ⟨#[]⟩, .int .i64 0, .slice none 0 0, .slice D6 d.length d6, .slice T6 f.length t6] 57)))
  clear hb6 hr6 hd6 hf6 HB5 HM5 HX5 HR5 HD5 HF5 HRR
  go_upto_region 6 with fail
  generalize w6.alloc (.cells #[.string m, .string t, .int .i64 v, .slice A6 fs.length a6, .int .i64 0, .string ⟨#[]⟩, .int .i64 0, .slice none 0 0, .slice D6 d.length d6, .slice T6 f.length t6] 57) = w7 at *
  obtain ⟨x0, x1, x2, x3, x4, x5, x6, x7, x8, x9⟩ := HX7.out.cells10
  obtain ⟨y0, y1, y2, y3, y4, y5, y6, y7, y8, y9⟩ := HY7.out.cells10
  go_wp2_with fail
  clear x0 y0 x1 y1 x2 y2 x3 y3 x4 y4 x5 y5 x6 y6 x7 y7 x8 y8 x9 y9 HX7 HY7
  refine HSM.out.mono ?_
  rintro e w8 ⟨rfl, hb8⟩
  have HB8 := Lib.hid (below_then HB7.out.size HB7.out hb8)
  have HM8 := Lib.hid (HM7.out.below hb8)
  clear hb8 HB7 HM7 HSM
  go_wp2_with fail
  refine (HSP.out _ HB8.out).mono ?_
  rintro e w9 ⟨A9, c9, e9, hr9, hb9⟩
  rw [HLM.out] at e9 hr9
  subst e9
  have HR9 := Lib.hid hr9.rd
  have HB9 := Lib.hid (below_then HB8.out.size HB8.out hb9)
  have HM9 : Hid (Rd w9 (some ⟨g, 0, none⟩) (bs.length + 8) 1 (bcells (bs ++ marks))) := by
    have := HM8.out.below hb9
    rw [HMK.out] at this
    exact Lib.hid this
  clear hb9 hr9 HSP HB8 HM8
  go_wp2_with fail
  refine (sameBC (some ⟨g, 0, none⟩) A9 (bs.length + 8) c3 c9 (bs ++ marks) w9 (by omega) HLM.out HM9.out HR9.out).mono ?_
  rintro e w10 ⟨rfl, hb10⟩
  have HB10 := Lib.hid (below_then HB9.out.size HB9.out hb10)
  clear hb10 HB9 HM9 HR9
  go_wp2
  go_ret
  exact ⟨rfl, HB10.out⟩
end Go.Proofs.YtnmldbcgpfglkaaGreatDoor
