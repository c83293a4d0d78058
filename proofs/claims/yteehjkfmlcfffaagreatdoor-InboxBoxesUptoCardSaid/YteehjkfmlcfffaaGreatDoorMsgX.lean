/- The walk of the law InboxRequests (printed by gen/msgx.py). Conditions: a row of at most 2^20 bytes; the library's two tables of UTF-8; internal/bytealg.MaxLen; strconv's two error variables. -/
import Derived.Test.YteehjkfmlcfffaaGreatDoorMsgB
namespace Go.Proofs.YteehjkfmlcfffaaGreatDoor
open Go.RowKit

namespace M
def aliB : List UInt8 := [80, 79, 83, 84, 32, 47, 32, 72, 84, 84, 80, 47, 49, 46, 49, 13, 10, 72, 111, 115, 116, 58, 32, 97, 13, 10, 67, 111, 110, 116, 101, 110, 116, 45, 76, 101, 110, 103, 116, 104, 58, 32, 50, 13, 10, 13, 10, 120, 121, 122]
def aliF : List FD := [(⟨#[72, 111, 115, 116]⟩, ⟨#[97]⟩), (⟨#[67, 111, 110, 116, 101, 110, 116, 45, 76, 101, 110, 103, 116, 104]⟩, ⟨#[50]⟩)]
theorem ali_parse : P.parse [] [72, 111, 115, 116, 58, 32, 97, 13, 10, 67, 111, 110, 116, 101, 110, 116, 45, 76, 101, 110, 103, 116, 104, 58, 32, 50, 13, 10] = (aliF, 0) := by
  rw [P.parse_step _ (by decide) (show P.from_ P.eol [72, 111, 115, 116, 58, 32, 97, 13, 10, 67, 111, 110, 116, 101, 110, 116, 45, 76, 101, 110, 103, 116, 104, 58, 32, 50, 13, 10] = 13 :: 10 :: [67, 111, 110, 116, 101, 110, 116, 45, 76, 101, 110, 103, 116, 104, 58, 32, 50, 13, 10] by decide), if_neg (by decide +kernel), if_neg (by decide)]
  rw [P.parse_step _ (by decide) (show P.from_ P.eol [67, 111, 110, 116, 101, 110, 116, 45, 76, 101, 110, 103, 116, 104, 58, 32, 50, 13, 10] = 13 :: 10 :: [] by decide), if_neg (by decide +kernel), if_neg (by decide)]
  rw [P.parse_nil]
  rfl
theorem ali_request : P.request aliB = ⟨⟨#[80, 79, 83, 84]⟩, ⟨#[47]⟩, 1, aliF, 47, 0⟩ := by
  have h1 : P.hE aliB (P.skip aliB) = 0 := by decide +kernel
  have h2 : P.hN aliB (P.skip aliB) = 47 := by decide +kernel
  have h3 : P.hLine aliB (P.skip aliB) = [80, 79, 83, 84, 32, 47, 32, 72, 84, 84, 80, 47, 49, 46, 49] := by decide +kernel
  have h4 : P.hBlock aliB (P.skip aliB) = [72, 111, 115, 116, 58, 32, 97, 13, 10, 67, 111, 110, 116, 101, 110, 116, 45, 76, 101, 110, 103, 116, 104, 58, 32, 50, 13, 10] := by decide +kernel
  unfold P.request
  rw [h1, h2, if_neg (by decide), h3, h4]
  unfold P.reqOf
  rw [ali_parse, if_neg (by decide +kernel), if_neg (by decide +kernel), if_neg (by decide), if_neg (by decide +kernel)]
  rfl
theorem ali_frame : F.frame 1 aliF 0 = ⟨1, 2, 0⟩ := by
  have h : (F.frame 1 aliF 0).k = 1 ∧ (F.frame 1 aliF 0).n = 2 ∧ (F.frame 1 aliF 0).e = 0 := by decide +kernel
  generalize F.frame 1 aliF 0 = R at *
  obtain ⟨a, b, c⟩ := R
  obtain ⟨h1, h2, h3⟩ := h
  rw [show a = 1 from h1, show b = 2 from h2, show c = 0 from h3]
theorem ali_message : request aliB = ⟨⟨#[80, 79, 83, 84]⟩, ⟨#[47]⟩, 1, aliF, [120, 121], [], 49, 0⟩ := by
  unfold request
  rw [ali_request, if_neg (by decide)]
  show framed aliB _ (F.frame 1 aliF 0) = _
  rw [ali_frame]
  rfl
theorem body_lens (bs : List UInt8) (N : Nat) (k z : Int) : (body bs N k z).d.length ≤ bs.length + 65536 ∧ (body bs N k z).f.length ≤ 100 := by
  have hd := C.decode_len (bs.drop N)
  unfold body
  repeat' split
  · exact ⟨Nat.zero_le _, Nat.zero_le _⟩
  · refine ⟨?_, Nat.zero_le _⟩
    show ((bs.drop N).take z.toNat).length ≤ _
    rw [List.length_take, List.length_drop]
    omega
  · exact ⟨Nat.zero_le _, Nat.zero_le _⟩
  · exact ⟨by show (C.decode (bs.drop N)).d.length ≤ _; omega, hd.2⟩
  · exact ⟨Nat.zero_le _, Nat.zero_le _⟩
theorem request_len (bs : List UInt8) : (request bs).fs.length ≤ bs.length ∧ (request bs).d.length ≤ bs.length + 65536 ∧ (request bs).f.length ≤ 100 := by
  have hz : ∀ e : Int, (MQ.bad e).fs.length ≤ bs.length ∧ (MQ.bad e).d.length ≤ bs.length + 65536 ∧ (MQ.bad e).f.length ≤ 100 := fun e => ⟨Nat.zero_le _, Nat.zero_le _, Nat.zero_le _⟩
  have hfb := P.request_bulk bs
  have hlb := F.len_le_bulk (P.request bs).fs
  unfold request
  split
  · exact hz _
  · unfold framed
    split
    · exact hz _
    · unfold whole
      split
      · exact hz _
      · have hb := body_lens bs (P.request bs).n.toNat (F.frame (P.request bs).v (P.request bs).fs 0).k (F.frame (P.request bs).v (P.request bs).fs 0).n
        exact ⟨by show (P.request bs).fs.length ≤ _; omega, hb.1, hb.2⟩
end M
set_option maxRecDepth 100000 in
set_option maxHeartbeats 4000000 in
theorem inboxAlive_any (w : World) (ht : LibOk w) (he : ErrOk w) : Calls Tryz.prog 18 #[] w (RetB w true) := by
  have hb0 := (Below.refl w.heap.size w).alloc (Nat.le_refl _) (.cells #[.int .u8 80, .int .u8 79, .int .u8 83, .int .u8 84, .int .u8 32, .int .u8 47, .int .u8 32, .int .u8 72, .int .u8 84, .int .u8 84, .int .u8 80, .int .u8 47, .int .u8 49, .int .u8 46, .int .u8 49, .int .u8 13, .int .u8 10, .int .u8 72, .int .u8 111, .int .u8 115, .int .u8 116, .int .u8 58, .int .u8 32, .int .u8 97, .int .u8 13, .int .u8 10, .int .u8 67, .int .u8 111, .int .u8 110, .int .u8 116, .int .u8 101, .int .u8 110, .int .u8 116, .int .u8 45, .int .u8 76, .int .u8 101, .int .u8 110, .int .u8 103, .int .u8 116, .int .u8 104, .int .u8 58, .int .u8 32, .int .u8 50, .int .u8 13, .int .u8 10, .int .u8 13, .int .u8 10, .int .u8 120, .int .u8 121, .int .u8 122] 5 (50, 51))
  have HB0 := Lib.hid hb0
  have HQ : Hid (Calls Tryz.prog 20 #[.slice (some ⟨w.heap.size, 0, none⟩) 50 50] (w.alloc (.cells #[.int .u8 80, .int .u8 79, .int .u8 83, .int .u8 84, .int .u8 32, .int .u8 47, .int .u8 32, .int .u8 72, .int .u8 84, .int .u8 84, .int .u8 80, .int .u8 47, .int .u8 49, .int .u8 46, .int .u8 49, .int .u8 13, .int .u8 10, .int .u8 72, .int .u8 111, .int .u8 115, .int .u8 116, .int .u8 58, .int .u8 32, .int .u8 97, .int .u8 13, .int .u8 10, .int .u8 67, .int .u8 111, .int .u8 110, .int .u8 116, .int .u8 101, .int .u8 110, .int .u8 116, .int .u8 45, .int .u8 76, .int .u8 101, .int .u8 110, .int .u8 103, .int .u8 116, .int .u8 104, .int .u8 58, .int .u8 32, .int .u8 50, .int .u8 13, .int .u8 10, .int .u8 13, .int .u8 10, .int .u8 120, .int .u8 121, .int .u8 122] 5 (50, 51))) (RetMsg (w.alloc (.cells #[.int .u8 80, .int .u8 79, .int .u8 83, .int .u8 84, .int .u8 32, .int .u8 47, .int .u8 32, .int .u8 72, .int .u8 84, .int .u8 84, .int .u8 80, .int .u8 47, .int .u8 49, .int .u8 46, .int .u8 49, .int .u8 13, .int .u8 10, .int .u8 72, .int .u8 111, .int .u8 115, .int .u8 116, .int .u8 58, .int .u8 32, .int .u8 97, .int .u8 13, .int .u8 10, .int .u8 67, .int .u8 111, .int .u8 110, .int .u8 116, .int .u8 101, .int .u8 110, .int .u8 116, .int .u8 45, .int .u8 76, .int .u8 101, .int .u8 110, .int .u8 103, .int .u8 116, .int .u8 104, .int .u8 58, .int .u8 32, .int .u8 50, .int .u8 13, .int .u8 10, .int .u8 13, .int .u8 10, .int .u8 120, .int .u8 121, .int .u8 122] 5 (50, 51))) ⟨⟨#[80, 79, 83, 84]⟩, ⟨#[47]⟩, 1, M.aliF, [120, 121], [], 49, 0⟩)) := Lib.hid (by
    rw [← M.ali_message]
    exact inboxRequest_any (some ⟨w.heap.size, 0, none⟩) 50 50 M.aliB _ (by decide) (Nat.le_refl _) (fun h => by cases h) (fun a h => by cases h; exact .inl rfl) (Rd.newRowM w 5 #[.int .u8 80, .int .u8 79, .int .u8 83, .int .u8 84, .int .u8 32, .int .u8 47, .int .u8 32, .int .u8 72, .int .u8 84, .int .u8 84, .int .u8 80, .int .u8 47, .int .u8 49, .int .u8 46, .int .u8 49, .int .u8 13, .int .u8 10, .int .u8 72, .int .u8 111, .int .u8 115, .int .u8 116, .int .u8 58, .int .u8 32, .int .u8 97, .int .u8 13, .int .u8 10, .int .u8 67, .int .u8 111, .int .u8 110, .int .u8 116, .int .u8 101, .int .u8 110, .int .u8 116, .int .u8 45, .int .u8 76, .int .u8 101, .int .u8 110, .int .u8 103, .int .u8 116, .int .u8 104, .int .u8 58, .int .u8 32, .int .u8 50, .int .u8 13, .int .u8 10, .int .u8 13, .int .u8 10, .int .u8 120, .int .u8 121, .int .u8 122] (50, 51) 50 1 rfl) (ht.below hb0) (he.below hb0))
  have hcc := Lib.run_convert_bytes_const (P := Tryz.prog) w 22 5 #[.int .u8 80, .int .u8 79, .int .u8 83, .int .u8 84, .int .u8 32, .int .u8 47, .int .u8 32, .int .u8 72, .int .u8 84, .int .u8 84, .int .u8 80, .int .u8 47, .int .u8 49, .int .u8 46, .int .u8 49, .int .u8 13, .int .u8 10, .int .u8 72, .int .u8 111, .int .u8 115, .int .u8 116, .int .u8 58, .int .u8 32, .int .u8 97, .int .u8 13, .int .u8 10, .int .u8 67, .int .u8 111, .int .u8 110, .int .u8 116, .int .u8 101, .int .u8 110, .int .u8 116, .int .u8 45, .int .u8 76, .int .u8 101, .int .u8 110, .int .u8 103, .int .u8 116, .int .u8 104, .int .u8 58, .int .u8 32, .int .u8 50, .int .u8 13, .int .u8 10, .int .u8 13, .int .u8 10, .int .u8 120, .int .u8 121, .int .u8 122] 50 50 Tryz.underlying22 Tryz.underlying5
  clear hb0 ht he
  go_enter Tryz.func18, Tryz.ntmps18
  go_wp2_with fail
  clear hcc
  generalize w.alloc (.cells #[.int .u8 80, .int .u8 79, .int .u8 83, .int .u8 84, .int .u8 32, .int .u8 47, .int .u8 32, .int .u8 72, .int .u8 84, .int .u8 84, .int .u8 80, .int .u8 47, .int .u8 49, .int .u8 46, .int .u8 49, .int .u8 13, .int .u8 10, .int .u8 72, .int .u8 111, .int .u8 115, .int .u8 116, .int .u8 58, .int .u8 32, .int .u8 97, .int .u8 13, .int .u8 10, .int .u8 67, .int .u8 111, .int .u8 110, .int .u8 116, .int .u8 101, .int .u8 110, .int .u8 116, .int .u8 45, .int .u8 76, .int .u8 101, .int .u8 110, .int .u8 103, .int .u8 116, .int .u8 104, .int .u8 58, .int .u8 32, .int .u8 50, .int .u8 13, .int .u8 10, .int .u8 13, .int .u8 10, .int .u8 120, .int .u8 121, .int .u8 122] 5 (50, 51)) = w0 at *
  refine HQ.out.mono ?_
  rintro e w1 ⟨A, c, D, d, T, k, rfl, hr1, hd1, hf1, hb1⟩
  replace hd1 : CRow w1 w0.heap.size D 2 d [120, 121] := hd1
  have HK1 := Lib.hid (Blk.new w1 #[.string ⟨#[80, 79, 83, 84]⟩, .string ⟨#[47]⟩, .int .i64 1, .slice A M.aliF.length c, .int .i64 0, .string ⟨#[]⟩, .int .i64 0, .slice none 0 0, .slice D 2 d, .slice T 0 k] 29)
  have HB1 := Lib.hid ((below_then HB0.out.size HB0.out hb1).alloc (by have := HB0.out.size; have := hb1.size; omega) (.cells #[.string ⟨#[80, 79, 83, 84]⟩, .string ⟨#[47]⟩, .int .i64 1, .slice A M.aliF.length c, .int .i64 0, .string ⟨#[]⟩, .int .i64 0, .slice none 0 0, .slice D 2 d, .slice T 0 k] 29))
  have hcv := conv_bs (hd1.rd.alloc (.cells #[.string ⟨#[80, 79, 83, 84]⟩, .string ⟨#[47]⟩, .int .i64 1, .slice A M.aliF.length c, .int .i64 0, .string ⟨#[]⟩, .int .i64 0, .slice none 0 0, .slice D 2 d, .slice T 0 k] 29)) d
  rw [show B [120, 121] = ⟨#[120, 121]⟩ from rfl] at hcv
  clear hr1 hd1 hf1 hb1 HQ HB0
  obtain ⟨a0, a1, a2, a3, a4, a5, a6, a7, a8, a9⟩ := HK1.out.cells10
  go_wp2
  go_ret
  exact ⟨rfl, HB1.out⟩
end Go.Proofs.YteehjkfmlcfffaaGreatDoor
