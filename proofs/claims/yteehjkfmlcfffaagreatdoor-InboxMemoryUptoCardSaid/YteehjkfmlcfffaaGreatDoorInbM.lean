/- The walk of the law InboxMemory (printed by gen/imem.py). Conditions: a row of at most 2^20 bytes; the library's two tables of UTF-8; internal/bytealg.MaxLen; strconv's two error variables. -/
import Derived.Test.YteehjkfmlcfffaaGreatDoorInbR
import Derived.Test.YteehjkfmlcfffaaGreatDoorMsgK
import Derived.Test.YteehjkfmlcfffaaGreatDoorMark
namespace Go.Proofs.YteehjkfmlcfffaaGreatDoor
open Go.RowKit

def fiveI {α : Type} (a b c d e : α) : Nat → α
  | 0 => a
  | 1 => b
  | 2 => c
  | 3 => d
  | _ => e
theorem Row.keepI {u u' : World} {base : Nat} {e : TypeId} {size n c : Nat} {A : Option Addr} {xs : List Value} (h : Row u base e size A n c xs) (hk : ∀ b, ownB A c = some b → u'.heap[b]? = u.heap[b]?) : Row u' base e size A n c xs := by
  by_cases hc0 : c = 0
  · subst hc0
    have hn : n = 0 := by have := h.cap.1; omega
    subst hn
    exact .inr ⟨rfl, rfl, List.eq_nil_of_length_eq_zero (by have := h.len; omega)⟩
  · rcases h with ⟨h1, h2⟩ | h
    · refine .inl ⟨h1, ?_⟩
      rcases h2 with h2 | ⟨g, cap, cur, hv, hg0, hh, rest⟩
      · exact .inl h2
      · cases hv
        exact .inr ⟨g, c, cur, rfl, hg0, (hk g (by unfold ownB; rw [if_neg hc0]; rfl)).trans hh, rest⟩
    · exact .inr h
/-- Two rows of different elements do not share a block. -/
theorem Row.apartI {w : World} {b1 b2 : Nat} {e1 e2 : TypeId} {s1 s2 n1 n2 c1 c2 : Nat} {A1 A2 : Option Addr} {x1 x2 : List Value} (h1 : Row w b1 e1 s1 A1 n1 c1 x1) (h2 : Row w b2 e2 s2 A2 n2 c2 x2) (hne : e1 ≠ e2) (b : Nat) (k1 : ownB A1 c1 = some b) : ownB A2 c2 ≠ some b := by
  intro k2
  have form : ∀ {bb e s n c A x}, Row w bb e s A n c x → ownB A c = some b → ∃ cur : Array Value, w.heap[b]? = some (.cells cur e (0, 0)) := by
    intro bb e s n c A x h k
    unfold ownB at k
    split at k
    · cases k
    · rename_i hc
      rcases h with ⟨_, h⟩ | ⟨_, h, _⟩
      · rcases h with ⟨hv, _⟩ | ⟨g, cap, cur, hv, _, hh, _⟩
        · cases hv; exact absurd rfl hc
        · cases hv
          simp at k
          subst k
          exact ⟨cur, hh⟩
      · exact absurd h hc
  obtain ⟨u1, g1⟩ := form h1 k1
  obtain ⟨u2, g2⟩ := form h2 k2
  rw [g1] at g2
  injection g2 with g2
  injection g2 with _ g2
  exact hne g2
set_option maxRecDepth 100000 in
set_option maxHeartbeats 8000000 in
theorem inboxMemory_any (A : Option Addr) (n c : Nat) (bs : List UInt8) (method : ByteArray) (w : World) (hnm : bs.length ≤ 1048576) (hl : bs.length = n) (hnc : n ≤ c) (hx : Rd w A n 1 (bcells bs)) (ht : LibOk w) (he : ErrOk w) :
    Calls Tryz.prog 6 #[.slice A n c, .string method] w (RetB w true) := by
  subst hl
  have HA := Lib.hid (fun (u : World) (hb : Below w.heap.size w u) => inboxAlive_any u (ht.below hb) (he.below hb))
  have HCB := Lib.hid (fun (u : World) (hu : Below w.heap.size w u) => copyBytes_any A c bs u (by omega) (hx.below hu))
  have HRQ := Lib.hid (fun (A1 : Option Addr) (c1 : Nat) (b0 : Nat) (u : World) (hu : Below w.heap.size w u) (hr : CRow u b0 A1 bs.length c1 bs) => inboxRequestK_any A1 bs.length c1 bs u (by omega) hr.2.1 hr.nilE hr.spotE hr.rd (ht.below hu) (he.below hu))
  have HRP := Lib.hid (fun (A1 : Option Addr) (c1 : Nat) (b0 : Nat) (u : World) (hu : Below w.heap.size w u) (hr : CRow u b0 A1 bs.length c1 bs) => inboxResponse_any A1 bs.length c1 bs method true u (by omega) hr.2.1 hr.nilE hr.spotE hr.rd (ht.below hu) (he.below hu))
  have HMQ := Lib.hid (fun (u : World) (hu : Below w.heap.size w u) => refMessage_any A bs.length c bs u (by omega) hnc (hx.below hu))
  have HMP := Lib.hid (fun (u : World) (hu : Below w.heap.size w u) => refMessageR_any A bs.length c bs method true u (by omega) hnc (hx.below hu))
  have hf := M.request_len bs
  have hg := M.response_len bs method true
  generalize M.request bs = Q at *
  generalize M.response bs method true = X at *
  obtain ⟨hf1, hf2, hf3⟩ := hf
  obtain ⟨hg1, hg2, hg3⟩ := hg
  have HB0 := Lib.hid (Below.refl w.heap.size w)
  clear hx ht he
  go_enter Tryz.func6, Tryz.ntmps6
  go_wp2_with fail
  refine (HA.out _ HB0.out).mono ?_
  rintro e w1 ⟨rfl, hb1⟩
  have HB1 := Lib.hid (below_then HB0.out.size HB0.out hb1)
  have HZ1 := Lib.hid hb1.size
  clear hb1 HB0 HA
  go_wp2_with fail
  refine (HCB.out _ HB1.out).mono ?_
  rintro e w2 ⟨AO, co, rfl, hr, hb2⟩
  have IO : Hid (∀ b, ownB AO co = some b → w1.heap.size ≤ b ∧ b < w2.heap.size) := Lib.hid hr.lt
  have HB2 := Lib.hid (below_then HB1.out.size HB1.out hb2)
  have HZ2 := Lib.hid hb2.size
  have OO_2 := Lib.hid (hr)
  clear hb2 HB1 hr HCB
  go_wp2_with fail
  refine (HRQ.out AO co _ _ HB2.out OO_2.out).mono ?_
  rintro e w3 ⟨A3, a3, D3, d3, T3, t3, rfl, hr, hd, hf, hb3⟩
  have IQXF : Hid (∀ b, ownB A3 a3 = some b → w2.heap.size ≤ b ∧ b < w3.heap.size) := Lib.hid hr.lt
  have IQXD : Hid (∀ b, ownB D3 d3 = some b → w2.heap.size ≤ b ∧ b < w3.heap.size) := Lib.hid hd.lt
  have HB3 := Lib.hid (below_then HB2.out.size HB2.out hb3)
  have HZ3 := Lib.hid hb3.size
  have OO_3 := Lib.hid (OO_2.out.below hb3)
  have QXF_3 := Lib.hid (hr)
  have QXD_3 := Lib.hid (hd)
  have QXT_3 := Lib.hid (hf.rd)
  clear hb3 HB2 OO_2 hr hd hf
  have HB4 := Lib.hid (HB3.out.alloc HB3.out.size (.cells #[.string Q.m, .string Q.t, .int .i64 Q.v, .slice A3 Q.fs.length a3, .int .i64 0, .string ⟨#[]⟩, .int .i64 0, .slice none 0 0, .slice D3 Q.d.length d3, .slice T3 Q.f.length t3] 29))
  have HZ4 : Hid (w3.heap.size < (w3.alloc (.cells #[.string Q.m, .string Q.t, .int .i64 Q.v, .slice A3 Q.fs.length a3, .int .i64 0, .string ⟨#[]⟩, .int .i64 0, .slice none 0 0, .slice D3 Q.d.length d3, .slice T3 Q.f.length t3] 29)).heap.size) := Lib.hid (by rw [World.size_alloc]; omega)
  have OO_4 := Lib.hid (OO_3.out.alloc (.cells #[.string Q.m, .string Q.t, .int .i64 Q.v, .slice A3 Q.fs.length a3, .int .i64 0, .string ⟨#[]⟩, .int .i64 0, .slice none 0 0, .slice D3 Q.d.length d3, .slice T3 Q.f.length t3] 29))
  have QXF_4 := Lib.hid (QXF_3.out.alloc (.cells #[.string Q.m, .string Q.t, .int .i64 Q.v, .slice A3 Q.fs.length a3, .int .i64 0, .string ⟨#[]⟩, .int .i64 0, .slice none 0 0, .slice D3 Q.d.length d3, .slice T3 Q.f.length t3] 29))
  have QXD_4 := Lib.hid (QXD_3.out.alloc (.cells #[.string Q.m, .string Q.t, .int .i64 Q.v, .slice A3 Q.fs.length a3, .int .i64 0, .string ⟨#[]⟩, .int .i64 0, .slice none 0 0, .slice D3 Q.d.length d3, .slice T3 Q.f.length t3] 29))
  have QXT_4 := Lib.hid (QXT_3.out.alloc (.cells #[.string Q.m, .string Q.t, .int .i64 Q.v, .slice A3 Q.fs.length a3, .int .i64 0, .string ⟨#[]⟩, .int .i64 0, .slice none 0 0, .slice D3 Q.d.length d3, .slice T3 Q.f.length t3] 29))
  have QXB_4 := Lib.hid (Blk.new w3 #[.string Q.m, .string Q.t, .int .i64 Q.v, .slice A3 Q.fs.length a3, .int .i64 0, .string ⟨#[]⟩, .int .i64 0, .slice none 0 0, .slice D3 Q.d.length d3, .slice T3 Q.f.length t3] 29)
  clear HB3 OO_3 QXF_3 QXD_3 QXT_3
  go_upto_region 5 with fail
  generalize w3.alloc (.cells #[.string Q.m, .string Q.t, .int .i64 Q.v, .slice A3 Q.fs.length a3, .int .i64 0, .string ⟨#[]⟩, .int .i64 0, .slice none 0 0, .slice D3 Q.d.length d3, .slice T3 Q.f.length t3] 29) = w4 at *
  go_wp2_with fail
  refine (HRQ.out AO co _ _ HB4.out OO_4.out).mono ?_
  rintro e w5 ⟨A5, a5, D5, d5, T5, t5, rfl, hr, hd, hf, hb5⟩
  have IQYF : Hid (∀ b, ownB A5 a5 = some b → w4.heap.size ≤ b ∧ b < w5.heap.size) := Lib.hid hr.lt
  have IQYD : Hid (∀ b, ownB D5 d5 = some b → w4.heap.size ≤ b ∧ b < w5.heap.size) := Lib.hid hd.lt
  have HB5 := Lib.hid (below_then HB4.out.size HB4.out hb5)
  have HZ5 := Lib.hid hb5.size
  have OO_5 := Lib.hid (OO_4.out.below hb5)
  have QXF_5 := Lib.hid (QXF_4.out.below hb5)
  have QXD_5 := Lib.hid (QXD_4.out.below hb5)
  have QXT_5 := Lib.hid (QXT_4.out.below hb5)
  have QXB_5 := Lib.hid (QXB_4.out.below hb5)
  have QYF_5 := Lib.hid (hr)
  have QYD_5 := Lib.hid (hd)
  have QYT_5 := Lib.hid (hf.rd)
  clear hb5 HB4 OO_4 QXF_4 QXD_4 QXT_4 QXB_4 hr hd hf HRQ
  have HB6 := Lib.hid (HB5.out.alloc HB5.out.size (.cells #[.string Q.m, .string Q.t, .int .i64 Q.v, .slice A5 Q.fs.length a5, .int .i64 0, .string ⟨#[]⟩, .int .i64 0, .slice none 0 0, .slice D5 Q.d.length d5, .slice T5 Q.f.length t5] 29))
  have HZ6 : Hid (w5.heap.size < (w5.alloc (.cells #[.string Q.m, .string Q.t, .int .i64 Q.v, .slice A5 Q.fs.length a5, .int .i64 0, .string ⟨#[]⟩, .int .i64 0, .slice none 0 0, .slice D5 Q.d.length d5, .slice T5 Q.f.length t5] 29)).heap.size) := Lib.hid (by rw [World.size_alloc]; omega)
  have OO_6 := Lib.hid (OO_5.out.alloc (.cells #[.string Q.m, .string Q.t, .int .i64 Q.v, .slice A5 Q.fs.length a5, .int .i64 0, .string ⟨#[]⟩, .int .i64 0, .slice none 0 0, .slice D5 Q.d.length d5, .slice T5 Q.f.length t5] 29))
  have QXF_6 := Lib.hid (QXF_5.out.alloc (.cells #[.string Q.m, .string Q.t, .int .i64 Q.v, .slice A5 Q.fs.length a5, .int .i64 0, .string ⟨#[]⟩, .int .i64 0, .slice none 0 0, .slice D5 Q.d.length d5, .slice T5 Q.f.length t5] 29))
  have QXD_6 := Lib.hid (QXD_5.out.alloc (.cells #[.string Q.m, .string Q.t, .int .i64 Q.v, .slice A5 Q.fs.length a5, .int .i64 0, .string ⟨#[]⟩, .int .i64 0, .slice none 0 0, .slice D5 Q.d.length d5, .slice T5 Q.f.length t5] 29))
  have QXT_6 := Lib.hid (QXT_5.out.alloc (.cells #[.string Q.m, .string Q.t, .int .i64 Q.v, .slice A5 Q.fs.length a5, .int .i64 0, .string ⟨#[]⟩, .int .i64 0, .slice none 0 0, .slice D5 Q.d.length d5, .slice T5 Q.f.length t5] 29))
  have QXB_6 := Lib.hid (QXB_5.out.alloc (.cells #[.string Q.m, .string Q.t, .int .i64 Q.v, .slice A5 Q.fs.length a5, .int .i64 0, .string ⟨#[]⟩, .int .i64 0, .slice none 0 0, .slice D5 Q.d.length d5, .slice T5 Q.f.length t5] 29))
  have QYF_6 := Lib.hid (QYF_5.out.alloc (.cells #[.string Q.m, .string Q.t, .int .i64 Q.v, .slice A5 Q.fs.length a5, .int .i64 0, .string ⟨#[]⟩, .int .i64 0, .slice none 0 0, .slice D5 Q.d.length d5, .slice T5 Q.f.length t5] 29))
  have QYD_6 := Lib.hid (QYD_5.out.alloc (.cells #[.string Q.m, .string Q.t, .int .i64 Q.v, .slice A5 Q.fs.length a5, .int .i64 0, .string ⟨#[]⟩, .int .i64 0, .slice none 0 0, .slice D5 Q.d.length d5, .slice T5 Q.f.length t5] 29))
  have QYT_6 := Lib.hid (QYT_5.out.alloc (.cells #[.string Q.m, .string Q.t, .int .i64 Q.v, .slice A5 Q.fs.length a5, .int .i64 0, .string ⟨#[]⟩, .int .i64 0, .slice none 0 0, .slice D5 Q.d.length d5, .slice T5 Q.f.length t5] 29))
  have QYB_6 := Lib.hid (Blk.new w5 #[.string Q.m, .string Q.t, .int .i64 Q.v, .slice A5 Q.fs.length a5, .int .i64 0, .string ⟨#[]⟩, .int .i64 0, .slice none 0 0, .slice D5 Q.d.length d5, .slice T5 Q.f.length t5] 29)
  clear HB5 OO_5 QXF_5 QXD_5 QXT_5 QXB_5 QYF_5 QYD_5 QYT_5
  go_upto_region 6 with fail
  generalize w5.alloc (.cells #[.string Q.m, .string Q.t, .int .i64 Q.v, .slice A5 Q.fs.length a5, .int .i64 0, .string ⟨#[]⟩, .int .i64 0, .slice none 0 0, .slice D5 Q.d.length d5, .slice T5 Q.f.length t5] 29) = w6 at *
  go_wp2_with fail
  refine (HRP.out AO co _ _ HB6.out OO_6.out).mono ?_
  rintro e w7 ⟨A7, a7, D7, d7, T7, t7, rfl, hr, hd, hf, hb7⟩
  have IPXF : Hid (∀ b, ownB A7 a7 = some b → w6.heap.size ≤ b ∧ b < w7.heap.size) := Lib.hid hr.lt
  have IPXD : Hid (∀ b, ownB D7 d7 = some b → w6.heap.size ≤ b ∧ b < w7.heap.size) := Lib.hid hd.lt
  have HB7 := Lib.hid (below_then HB6.out.size HB6.out hb7)
  have HZ7 := Lib.hid hb7.size
  have OO_7 := Lib.hid (OO_6.out.below hb7)
  have QXF_7 := Lib.hid (QXF_6.out.below hb7)
  have QXD_7 := Lib.hid (QXD_6.out.below hb7)
  have QXT_7 := Lib.hid (QXT_6.out.below hb7)
  have QXB_7 := Lib.hid (QXB_6.out.below hb7)
  have QYF_7 := Lib.hid (QYF_6.out.below hb7)
  have QYD_7 := Lib.hid (QYD_6.out.below hb7)
  have QYT_7 := Lib.hid (QYT_6.out.below hb7)
  have QYB_7 := Lib.hid (QYB_6.out.below hb7)
  have PXF_7 := Lib.hid (hr)
  have PXD_7 := Lib.hid (hd)
  have PXT_7 := Lib.hid (hf.rd)
  clear hb7 HB6 OO_6 QXF_6 QXD_6 QXT_6 QXB_6 QYF_6 QYD_6 QYT_6 QYB_6 hr hd hf
  have HB8 := Lib.hid (HB7.out.alloc HB7.out.size (.cells #[.string ⟨#[]⟩, .string ⟨#[]⟩, .int .i64 0, .slice none 0 0, .int .i64 X.s, .string X.r, .int .i64 X.v, .slice A7 X.fs.length a7, .slice D7 X.d.length d7, .slice T7 X.f.length t7] 29))
  have HZ8 : Hid (w7.heap.size < (w7.alloc (.cells #[.string ⟨#[]⟩, .string ⟨#[]⟩, .int .i64 0, .slice none 0 0, .int .i64 X.s, .string X.r, .int .i64 X.v, .slice A7 X.fs.length a7, .slice D7 X.d.length d7, .slice T7 X.f.length t7] 29)).heap.size) := Lib.hid (by rw [World.size_alloc]; omega)
  have OO_8 := Lib.hid (OO_7.out.alloc (.cells #[.string ⟨#[]⟩, .string ⟨#[]⟩, .int .i64 0, .slice none 0 0, .int .i64 X.s, .string X.r, .int .i64 X.v, .slice A7 X.fs.length a7, .slice D7 X.d.length d7, .slice T7 X.f.length t7] 29))
  have QXF_8 := Lib.hid (QXF_7.out.alloc (.cells #[.string ⟨#[]⟩, .string ⟨#[]⟩, .int .i64 0, .slice none 0 0, .int .i64 X.s, .string X.r, .int .i64 X.v, .slice A7 X.fs.length a7, .slice D7 X.d.length d7, .slice T7 X.f.length t7] 29))
  have QXD_8 := Lib.hid (QXD_7.out.alloc (.cells #[.string ⟨#[]⟩, .string ⟨#[]⟩, .int .i64 0, .slice none 0 0, .int .i64 X.s, .string X.r, .int .i64 X.v, .slice A7 X.fs.length a7, .slice D7 X.d.length d7, .slice T7 X.f.length t7] 29))
  have QXT_8 := Lib.hid (QXT_7.out.alloc (.cells #[.string ⟨#[]⟩, .string ⟨#[]⟩, .int .i64 0, .slice none 0 0, .int .i64 X.s, .string X.r, .int .i64 X.v, .slice A7 X.fs.length a7, .slice D7 X.d.length d7, .slice T7 X.f.length t7] 29))
  have QXB_8 := Lib.hid (QXB_7.out.alloc (.cells #[.string ⟨#[]⟩, .string ⟨#[]⟩, .int .i64 0, .slice none 0 0, .int .i64 X.s, .string X.r, .int .i64 X.v, .slice A7 X.fs.length a7, .slice D7 X.d.length d7, .slice T7 X.f.length t7] 29))
  have QYF_8 := Lib.hid (QYF_7.out.alloc (.cells #[.string ⟨#[]⟩, .string ⟨#[]⟩, .int .i64 0, .slice none 0 0, .int .i64 X.s, .string X.r, .int .i64 X.v, .slice A7 X.fs.length a7, .slice D7 X.d.length d7, .slice T7 X.f.length t7] 29))
  have QYD_8 := Lib.hid (QYD_7.out.alloc (.cells #[.string ⟨#[]⟩, .string ⟨#[]⟩, .int .i64 0, .slice none 0 0, .int .i64 X.s, .string X.r, .int .i64 X.v, .slice A7 X.fs.length a7, .slice D7 X.d.length d7, .slice T7 X.f.length t7] 29))
  have QYT_8 := Lib.hid (QYT_7.out.alloc (.cells #[.string ⟨#[]⟩, .string ⟨#[]⟩, .int .i64 0, .slice none 0 0, .int .i64 X.s, .string X.r, .int .i64 X.v, .slice A7 X.fs.length a7, .slice D7 X.d.length d7, .slice T7 X.f.length t7] 29))
  have QYB_8 := Lib.hid (QYB_7.out.alloc (.cells #[.string ⟨#[]⟩, .string ⟨#[]⟩, .int .i64 0, .slice none 0 0, .int .i64 X.s, .string X.r, .int .i64 X.v, .slice A7 X.fs.length a7, .slice D7 X.d.length d7, .slice T7 X.f.length t7] 29))
  have PXF_8 := Lib.hid (PXF_7.out.alloc (.cells #[.string ⟨#[]⟩, .string ⟨#[]⟩, .int .i64 0, .slice none 0 0, .int .i64 X.s, .string X.r, .int .i64 X.v, .slice A7 X.fs.length a7, .slice D7 X.d.length d7, .slice T7 X.f.length t7] 29))
  have PXD_8 := Lib.hid (PXD_7.out.alloc (.cells #[.string ⟨#[]⟩, .string ⟨#[]⟩, .int .i64 0, .slice none 0 0, .int .i64 X.s, .string X.r, .int .i64 X.v, .slice A7 X.fs.length a7, .slice D7 X.d.length d7, .slice T7 X.f.length t7] 29))
  have PXT_8 := Lib.hid (PXT_7.out.alloc (.cells #[.string ⟨#[]⟩, .string ⟨#[]⟩, .int .i64 0, .slice none 0 0, .int .i64 X.s, .string X.r, .int .i64 X.v, .slice A7 X.fs.length a7, .slice D7 X.d.length d7, .slice T7 X.f.length t7] 29))
  have PXB_8 := Lib.hid (Blk.new w7 #[.string ⟨#[]⟩, .string ⟨#[]⟩, .int .i64 0, .slice none 0 0, .int .i64 X.s, .string X.r, .int .i64 X.v, .slice A7 X.fs.length a7, .slice D7 X.d.length d7, .slice T7 X.f.length t7] 29)
  clear HB7 OO_7 QXF_7 QXD_7 QXT_7 QXB_7 QYF_7 QYD_7 QYT_7 QYB_7 PXF_7 PXD_7 PXT_7
  go_upto_region 7 with fail
  generalize w7.alloc (.cells #[.string ⟨#[]⟩, .string ⟨#[]⟩, .int .i64 0, .slice none 0 0, .int .i64 X.s, .string X.r, .int .i64 X.v, .slice A7 X.fs.length a7, .slice D7 X.d.length d7, .slice T7 X.f.length t7] 29) = w8 at *
  go_wp2_with fail
  refine (HRP.out AO co _ _ HB8.out OO_8.out).mono ?_
  rintro e w9 ⟨A9, a9, D9, d9, T9, t9, rfl, hr, hd, hf, hb9⟩
  have IPYF : Hid (∀ b, ownB A9 a9 = some b → w8.heap.size ≤ b ∧ b < w9.heap.size) := Lib.hid hr.lt
  have IPYD : Hid (∀ b, ownB D9 d9 = some b → w8.heap.size ≤ b ∧ b < w9.heap.size) := Lib.hid hd.lt
  have HB9 := Lib.hid (below_then HB8.out.size HB8.out hb9)
  have HZ9 := Lib.hid hb9.size
  have OO_9 := Lib.hid (OO_8.out.below hb9)
  have QXF_9 := Lib.hid (QXF_8.out.below hb9)
  have QXD_9 := Lib.hid (QXD_8.out.below hb9)
  have QXT_9 := Lib.hid (QXT_8.out.below hb9)
  have QXB_9 := Lib.hid (QXB_8.out.below hb9)
  have QYF_9 := Lib.hid (QYF_8.out.below hb9)
  have QYD_9 := Lib.hid (QYD_8.out.below hb9)
  have QYT_9 := Lib.hid (QYT_8.out.below hb9)
  have QYB_9 := Lib.hid (QYB_8.out.below hb9)
  have PXF_9 := Lib.hid (PXF_8.out.below hb9)
  have PXD_9 := Lib.hid (PXD_8.out.below hb9)
  have PXT_9 := Lib.hid (PXT_8.out.below hb9)
  have PXB_9 := Lib.hid (PXB_8.out.below hb9)
  have PYF_9 := Lib.hid (hr)
  have PYD_9 := Lib.hid (hd)
  have PYT_9 := Lib.hid (hf.rd)
  clear hb9 HB8 OO_8 QXF_8 QXD_8 QXT_8 QXB_8 QYF_8 QYD_8 QYT_8 QYB_8 PXF_8 PXD_8 PXT_8 PXB_8 hr hd hf HRP
  have HB10 := Lib.hid (HB9.out.alloc HB9.out.size (.cells #[.string ⟨#[]⟩, .string ⟨#[]⟩, .int .i64 0, .slice none 0 0, .int .i64 X.s, .string X.r, .int .i64 X.v, .slice A9 X.fs.length a9, .slice D9 X.d.length d9, .slice T9 X.f.length t9] 29))
  have HZ10 : Hid (w9.heap.size < (w9.alloc (.cells #[.string ⟨#[]⟩, .string ⟨#[]⟩, .int .i64 0, .slice none 0 0, .int .i64 X.s, .string X.r, .int .i64 X.v, .slice A9 X.fs.length a9, .slice D9 X.d.length d9, .slice T9 X.f.length t9] 29)).heap.size) := Lib.hid (by rw [World.size_alloc]; omega)
  have OO_10 := Lib.hid (OO_9.out.alloc (.cells #[.string ⟨#[]⟩, .string ⟨#[]⟩, .int .i64 0, .slice none 0 0, .int .i64 X.s, .string X.r, .int .i64 X.v, .slice A9 X.fs.length a9, .slice D9 X.d.length d9, .slice T9 X.f.length t9] 29))
  have QXF_10 := Lib.hid (QXF_9.out.alloc (.cells #[.string ⟨#[]⟩, .string ⟨#[]⟩, .int .i64 0, .slice none 0 0, .int .i64 X.s, .string X.r, .int .i64 X.v, .slice A9 X.fs.length a9, .slice D9 X.d.length d9, .slice T9 X.f.length t9] 29))
  have QXD_10 := Lib.hid (QXD_9.out.alloc (.cells #[.string ⟨#[]⟩, .string ⟨#[]⟩, .int .i64 0, .slice none 0 0, .int .i64 X.s, .string X.r, .int .i64 X.v, .slice A9 X.fs.length a9, .slice D9 X.d.length d9, .slice T9 X.f.length t9] 29))
  have QXT_10 := Lib.hid (QXT_9.out.alloc (.cells #[.string ⟨#[]⟩, .string ⟨#[]⟩, .int .i64 0, .slice none 0 0, .int .i64 X.s, .string X.r, .int .i64 X.v, .slice A9 X.fs.length a9, .slice D9 X.d.length d9, .slice T9 X.f.length t9] 29))
  have QXB_10 := Lib.hid (QXB_9.out.alloc (.cells #[.string ⟨#[]⟩, .string ⟨#[]⟩, .int .i64 0, .slice none 0 0, .int .i64 X.s, .string X.r, .int .i64 X.v, .slice A9 X.fs.length a9, .slice D9 X.d.length d9, .slice T9 X.f.length t9] 29))
  have QYF_10 := Lib.hid (QYF_9.out.alloc (.cells #[.string ⟨#[]⟩, .string ⟨#[]⟩, .int .i64 0, .slice none 0 0, .int .i64 X.s, .string X.r, .int .i64 X.v, .slice A9 X.fs.length a9, .slice D9 X.d.length d9, .slice T9 X.f.length t9] 29))
  have QYD_10 := Lib.hid (QYD_9.out.alloc (.cells #[.string ⟨#[]⟩, .string ⟨#[]⟩, .int .i64 0, .slice none 0 0, .int .i64 X.s, .string X.r, .int .i64 X.v, .slice A9 X.fs.length a9, .slice D9 X.d.length d9, .slice T9 X.f.length t9] 29))
  have QYT_10 := Lib.hid (QYT_9.out.alloc (.cells #[.string ⟨#[]⟩, .string ⟨#[]⟩, .int .i64 0, .slice none 0 0, .int .i64 X.s, .string X.r, .int .i64 X.v, .slice A9 X.fs.length a9, .slice D9 X.d.length d9, .slice T9 X.f.length t9] 29))
  have QYB_10 := Lib.hid (QYB_9.out.alloc (.cells #[.string ⟨#[]⟩, .string ⟨#[]⟩, .int .i64 0, .slice none 0 0, .int .i64 X.s, .string X.r, .int .i64 X.v, .slice A9 X.fs.length a9, .slice D9 X.d.length d9, .slice T9 X.f.length t9] 29))
  have PXF_10 := Lib.hid (PXF_9.out.alloc (.cells #[.string ⟨#[]⟩, .string ⟨#[]⟩, .int .i64 0, .slice none 0 0, .int .i64 X.s, .string X.r, .int .i64 X.v, .slice A9 X.fs.length a9, .slice D9 X.d.length d9, .slice T9 X.f.length t9] 29))
  have PXD_10 := Lib.hid (PXD_9.out.alloc (.cells #[.string ⟨#[]⟩, .string ⟨#[]⟩, .int .i64 0, .slice none 0 0, .int .i64 X.s, .string X.r, .int .i64 X.v, .slice A9 X.fs.length a9, .slice D9 X.d.length d9, .slice T9 X.f.length t9] 29))
  have PXT_10 := Lib.hid (PXT_9.out.alloc (.cells #[.string ⟨#[]⟩, .string ⟨#[]⟩, .int .i64 0, .slice none 0 0, .int .i64 X.s, .string X.r, .int .i64 X.v, .slice A9 X.fs.length a9, .slice D9 X.d.length d9, .slice T9 X.f.length t9] 29))
  have PXB_10 := Lib.hid (PXB_9.out.alloc (.cells #[.string ⟨#[]⟩, .string ⟨#[]⟩, .int .i64 0, .slice none 0 0, .int .i64 X.s, .string X.r, .int .i64 X.v, .slice A9 X.fs.length a9, .slice D9 X.d.length d9, .slice T9 X.f.length t9] 29))
  have PYF_10 := Lib.hid (PYF_9.out.alloc (.cells #[.string ⟨#[]⟩, .string ⟨#[]⟩, .int .i64 0, .slice none 0 0, .int .i64 X.s, .string X.r, .int .i64 X.v, .slice A9 X.fs.length a9, .slice D9 X.d.length d9, .slice T9 X.f.length t9] 29))
  have PYD_10 := Lib.hid (PYD_9.out.alloc (.cells #[.string ⟨#[]⟩, .string ⟨#[]⟩, .int .i64 0, .slice none 0 0, .int .i64 X.s, .string X.r, .int .i64 X.v, .slice A9 X.fs.length a9, .slice D9 X.d.length d9, .slice T9 X.f.length t9] 29))
  have PYT_10 := Lib.hid (PYT_9.out.alloc (.cells #[.string ⟨#[]⟩, .string ⟨#[]⟩, .int .i64 0, .slice none 0 0, .int .i64 X.s, .string X.r, .int .i64 X.v, .slice A9 X.fs.length a9, .slice D9 X.d.length d9, .slice T9 X.f.length t9] 29))
  have PYB_10 := Lib.hid (Blk.new w9 #[.string ⟨#[]⟩, .string ⟨#[]⟩, .int .i64 0, .slice none 0 0, .int .i64 X.s, .string X.r, .int .i64 X.v, .slice A9 X.fs.length a9, .slice D9 X.d.length d9, .slice T9 X.f.length t9] 29)
  clear HB9 OO_9 QXF_9 QXD_9 QXT_9 QXB_9 QYF_9 QYD_9 QYT_9 QYB_9 PXF_9 PXD_9 PXT_9 PXB_9 PYF_9 PYD_9 PYT_9
  go_upto_region 8 with fail
  generalize w9.alloc (.cells #[.string ⟨#[]⟩, .string ⟨#[]⟩, .int .i64 0, .slice none 0 0, .int .i64 X.s, .string X.r, .int .i64 X.v, .slice A9 X.fs.length a9, .slice D9 X.d.length d9, .slice T9 X.f.length t9] 29) = w10 at *
  go_wp2_with fail
  refine (HMQ.out _ HB10.out).mono ?_
  rintro e w11 ⟨A11, a11, D11, d11, T11, t11, rfl, hr, hd, hf, hb11⟩
  have IQMF : Hid (∀ b, ownB A11 a11 = some b → w10.heap.size ≤ b ∧ b < w11.heap.size) := Lib.hid hr.lt
  have IQMD : Hid (∀ b, ownB D11 d11 = some b → w10.heap.size ≤ b ∧ b < w11.heap.size) := Lib.hid hd.lt
  have HB11 := Lib.hid (below_then HB10.out.size HB10.out hb11)
  have HZ11 := Lib.hid hb11.size
  have OO_11 := Lib.hid (OO_10.out.below hb11)
  have QXF_11 := Lib.hid (QXF_10.out.below hb11)
  have QXD_11 := Lib.hid (QXD_10.out.below hb11)
  have QXT_11 := Lib.hid (QXT_10.out.below hb11)
  have QXB_11 := Lib.hid (QXB_10.out.below hb11)
  have QYF_11 := Lib.hid (QYF_10.out.below hb11)
  have QYD_11 := Lib.hid (QYD_10.out.below hb11)
  have QYT_11 := Lib.hid (QYT_10.out.below hb11)
  have QYB_11 := Lib.hid (QYB_10.out.below hb11)
  have PXF_11 := Lib.hid (PXF_10.out.below hb11)
  have PXD_11 := Lib.hid (PXD_10.out.below hb11)
  have PXT_11 := Lib.hid (PXT_10.out.below hb11)
  have PXB_11 := Lib.hid (PXB_10.out.below hb11)
  have PYF_11 := Lib.hid (PYF_10.out.below hb11)
  have PYD_11 := Lib.hid (PYD_10.out.below hb11)
  have PYT_11 := Lib.hid (PYT_10.out.below hb11)
  have PYB_11 := Lib.hid (PYB_10.out.below hb11)
  have QMF_11 := Lib.hid (hr)
  have QMD_11 := Lib.hid (hd)
  have QMT_11 := Lib.hid (hf.rd)
  clear hb11 HB10 OO_10 QXF_10 QXD_10 QXT_10 QXB_10 QYF_10 QYD_10 QYT_10 QYB_10 PXF_10 PXD_10 PXT_10 PXB_10 PYF_10 PYD_10 PYT_10 PYB_10 hr hd hf HMQ
  have HB12 := Lib.hid (HB11.out.alloc HB11.out.size (.cells #[.string Q.m, .string Q.t, .int .i64 Q.v, .slice A11 Q.fs.length a11, .int .i64 0, .string ⟨#[]⟩, .int .i64 0, .slice none 0 0, .slice D11 Q.d.length d11, .slice T11 Q.f.length t11] 29))
  have HZ12 : Hid (w11.heap.size < (w11.alloc (.cells #[.string Q.m, .string Q.t, .int .i64 Q.v, .slice A11 Q.fs.length a11, .int .i64 0, .string ⟨#[]⟩, .int .i64 0, .slice none 0 0, .slice D11 Q.d.length d11, .slice T11 Q.f.length t11] 29)).heap.size) := Lib.hid (by rw [World.size_alloc]; omega)
  have OO_12 := Lib.hid (OO_11.out.alloc (.cells #[.string Q.m, .string Q.t, .int .i64 Q.v, .slice A11 Q.fs.length a11, .int .i64 0, .string ⟨#[]⟩, .int .i64 0, .slice none 0 0, .slice D11 Q.d.length d11, .slice T11 Q.f.length t11] 29))
  have QXF_12 := Lib.hid (QXF_11.out.alloc (.cells #[.string Q.m, .string Q.t, .int .i64 Q.v, .slice A11 Q.fs.length a11, .int .i64 0, .string ⟨#[]⟩, .int .i64 0, .slice none 0 0, .slice D11 Q.d.length d11, .slice T11 Q.f.length t11] 29))
  have QXD_12 := Lib.hid (QXD_11.out.alloc (.cells #[.string Q.m, .string Q.t, .int .i64 Q.v, .slice A11 Q.fs.length a11, .int .i64 0, .string ⟨#[]⟩, .int .i64 0, .slice none 0 0, .slice D11 Q.d.length d11, .slice T11 Q.f.length t11] 29))
  have QXT_12 := Lib.hid (QXT_11.out.alloc (.cells #[.string Q.m, .string Q.t, .int .i64 Q.v, .slice A11 Q.fs.length a11, .int .i64 0, .string ⟨#[]⟩, .int .i64 0, .slice none 0 0, .slice D11 Q.d.length d11, .slice T11 Q.f.length t11] 29))
  have QXB_12 := Lib.hid (QXB_11.out.alloc (.cells #[.string Q.m, .string Q.t, .int .i64 Q.v, .slice A11 Q.fs.length a11, .int .i64 0, .string ⟨#[]⟩, .int .i64 0, .slice none 0 0, .slice D11 Q.d.length d11, .slice T11 Q.f.length t11] 29))
  have QYF_12 := Lib.hid (QYF_11.out.alloc (.cells #[.string Q.m, .string Q.t, .int .i64 Q.v, .slice A11 Q.fs.length a11, .int .i64 0, .string ⟨#[]⟩, .int .i64 0, .slice none 0 0, .slice D11 Q.d.length d11, .slice T11 Q.f.length t11] 29))
  have QYD_12 := Lib.hid (QYD_11.out.alloc (.cells #[.string Q.m, .string Q.t, .int .i64 Q.v, .slice A11 Q.fs.length a11, .int .i64 0, .string ⟨#[]⟩, .int .i64 0, .slice none 0 0, .slice D11 Q.d.length d11, .slice T11 Q.f.length t11] 29))
  have QYT_12 := Lib.hid (QYT_11.out.alloc (.cells #[.string Q.m, .string Q.t, .int .i64 Q.v, .slice A11 Q.fs.length a11, .int .i64 0, .string ⟨#[]⟩, .int .i64 0, .slice none 0 0, .slice D11 Q.d.length d11, .slice T11 Q.f.length t11] 29))
  have QYB_12 := Lib.hid (QYB_11.out.alloc (.cells #[.string Q.m, .string Q.t, .int .i64 Q.v, .slice A11 Q.fs.length a11, .int .i64 0, .string ⟨#[]⟩, .int .i64 0, .slice none 0 0, .slice D11 Q.d.length d11, .slice T11 Q.f.length t11] 29))
  have PXF_12 := Lib.hid (PXF_11.out.alloc (.cells #[.string Q.m, .string Q.t, .int .i64 Q.v, .slice A11 Q.fs.length a11, .int .i64 0, .string ⟨#[]⟩, .int .i64 0, .slice none 0 0, .slice D11 Q.d.length d11, .slice T11 Q.f.length t11] 29))
  have PXD_12 := Lib.hid (PXD_11.out.alloc (.cells #[.string Q.m, .string Q.t, .int .i64 Q.v, .slice A11 Q.fs.length a11, .int .i64 0, .string ⟨#[]⟩, .int .i64 0, .slice none 0 0, .slice D11 Q.d.length d11, .slice T11 Q.f.length t11] 29))
  have PXT_12 := Lib.hid (PXT_11.out.alloc (.cells #[.string Q.m, .string Q.t, .int .i64 Q.v, .slice A11 Q.fs.length a11, .int .i64 0, .string ⟨#[]⟩, .int .i64 0, .slice none 0 0, .slice D11 Q.d.length d11, .slice T11 Q.f.length t11] 29))
  have PXB_12 := Lib.hid (PXB_11.out.alloc (.cells #[.string Q.m, .string Q.t, .int .i64 Q.v, .slice A11 Q.fs.length a11, .int .i64 0, .string ⟨#[]⟩, .int .i64 0, .slice none 0 0, .slice D11 Q.d.length d11, .slice T11 Q.f.length t11] 29))
  have PYF_12 := Lib.hid (PYF_11.out.alloc (.cells #[.string Q.m, .string Q.t, .int .i64 Q.v, .slice A11 Q.fs.length a11, .int .i64 0, .string ⟨#[]⟩, .int .i64 0, .slice none 0 0, .slice D11 Q.d.length d11, .slice T11 Q.f.length t11] 29))
  have PYD_12 := Lib.hid (PYD_11.out.alloc (.cells #[.string Q.m, .string Q.t, .int .i64 Q.v, .slice A11 Q.fs.length a11, .int .i64 0, .string ⟨#[]⟩, .int .i64 0, .slice none 0 0, .slice D11 Q.d.length d11, .slice T11 Q.f.length t11] 29))
  have PYT_12 := Lib.hid (PYT_11.out.alloc (.cells #[.string Q.m, .string Q.t, .int .i64 Q.v, .slice A11 Q.fs.length a11, .int .i64 0, .string ⟨#[]⟩, .int .i64 0, .slice none 0 0, .slice D11 Q.d.length d11, .slice T11 Q.f.length t11] 29))
  have PYB_12 := Lib.hid (PYB_11.out.alloc (.cells #[.string Q.m, .string Q.t, .int .i64 Q.v, .slice A11 Q.fs.length a11, .int .i64 0, .string ⟨#[]⟩, .int .i64 0, .slice none 0 0, .slice D11 Q.d.length d11, .slice T11 Q.f.length t11] 29))
  have QMF_12 := Lib.hid (QMF_11.out.alloc (.cells #[.string Q.m, .string Q.t, .int .i64 Q.v, .slice A11 Q.fs.length a11, .int .i64 0, .string ⟨#[]⟩, .int .i64 0, .slice none 0 0, .slice D11 Q.d.length d11, .slice T11 Q.f.length t11] 29))
  have QMD_12 := Lib.hid (QMD_11.out.alloc (.cells #[.string Q.m, .string Q.t, .int .i64 Q.v, .slice A11 Q.fs.length a11, .int .i64 0, .string ⟨#[]⟩, .int .i64 0, .slice none 0 0, .slice D11 Q.d.length d11, .slice T11 Q.f.length t11] 29))
  have QMT_12 := Lib.hid (QMT_11.out.alloc (.cells #[.string Q.m, .string Q.t, .int .i64 Q.v, .slice A11 Q.fs.length a11, .int .i64 0, .string ⟨#[]⟩, .int .i64 0, .slice none 0 0, .slice D11 Q.d.length d11, .slice T11 Q.f.length t11] 29))
  have QMB_12 := Lib.hid (Blk.new w11 #[.string Q.m, .string Q.t, .int .i64 Q.v, .slice A11 Q.fs.length a11, .int .i64 0, .string ⟨#[]⟩, .int .i64 0, .slice none 0 0, .slice D11 Q.d.length d11, .slice T11 Q.f.length t11] 29)
  clear HB11 OO_11 QXF_11 QXD_11 QXT_11 QXB_11 QYF_11 QYD_11 QYT_11 QYB_11 PXF_11 PXD_11 PXT_11 PXB_11 PYF_11 PYD_11 PYT_11 PYB_11 QMF_11 QMD_11 QMT_11
  go_upto_region 9 with fail
  generalize w11.alloc (.cells #[.string Q.m, .string Q.t, .int .i64 Q.v, .slice A11 Q.fs.length a11, .int .i64 0, .string ⟨#[]⟩, .int .i64 0, .slice none 0 0, .slice D11 Q.d.length d11, .slice T11 Q.f.length t11] 29) = w12 at *
  go_wp2_with fail
  refine (HMP.out _ HB12.out).mono ?_
  rintro e w13 ⟨A13, a13, D13, d13, T13, t13, rfl, hr, hd, hf, hb13⟩
  have IPMF : Hid (∀ b, ownB A13 a13 = some b → w12.heap.size ≤ b ∧ b < w13.heap.size) := Lib.hid hr.lt
  have IPMD : Hid (∀ b, ownB D13 d13 = some b → w12.heap.size ≤ b ∧ b < w13.heap.size) := Lib.hid hd.lt
  have HB13 := Lib.hid (below_then HB12.out.size HB12.out hb13)
  have HZ13 := Lib.hid hb13.size
  have OO_13 := Lib.hid (OO_12.out.below hb13)
  have QXF_13 := Lib.hid (QXF_12.out.below hb13)
  have QXD_13 := Lib.hid (QXD_12.out.below hb13)
  have QXT_13 := Lib.hid (QXT_12.out.below hb13)
  have QXB_13 := Lib.hid (QXB_12.out.below hb13)
  have QYF_13 := Lib.hid (QYF_12.out.below hb13)
  have QYD_13 := Lib.hid (QYD_12.out.below hb13)
  have QYT_13 := Lib.hid (QYT_12.out.below hb13)
  have QYB_13 := Lib.hid (QYB_12.out.below hb13)
  have PXF_13 := Lib.hid (PXF_12.out.below hb13)
  have PXD_13 := Lib.hid (PXD_12.out.below hb13)
  have PXT_13 := Lib.hid (PXT_12.out.below hb13)
  have PXB_13 := Lib.hid (PXB_12.out.below hb13)
  have PYF_13 := Lib.hid (PYF_12.out.below hb13)
  have PYD_13 := Lib.hid (PYD_12.out.below hb13)
  have PYT_13 := Lib.hid (PYT_12.out.below hb13)
  have PYB_13 := Lib.hid (PYB_12.out.below hb13)
  have QMF_13 := Lib.hid (QMF_12.out.below hb13)
  have QMD_13 := Lib.hid (QMD_12.out.below hb13)
  have QMT_13 := Lib.hid (QMT_12.out.below hb13)
  have QMB_13 := Lib.hid (QMB_12.out.below hb13)
  have PMF_13 := Lib.hid (hr)
  have PMD_13 := Lib.hid (hd)
  have PMT_13 := Lib.hid (hf.rd)
  clear hb13 HB12 OO_12 QXF_12 QXD_12 QXT_12 QXB_12 QYF_12 QYD_12 QYT_12 QYB_12 PXF_12 PXD_12 PXT_12 PXB_12 PYF_12 PYD_12 PYT_12 PYB_12 QMF_12 QMD_12 QMT_12 QMB_12 hr hd hf HMP
  have HB14 := Lib.hid (HB13.out.alloc HB13.out.size (.cells #[.string ⟨#[]⟩, .string ⟨#[]⟩, .int .i64 0, .slice none 0 0, .int .i64 X.s, .string X.r, .int .i64 X.v, .slice A13 X.fs.length a13, .slice D13 X.d.length d13, .slice T13 X.f.length t13] 29))
  have HZ14 : Hid (w13.heap.size < (w13.alloc (.cells #[.string ⟨#[]⟩, .string ⟨#[]⟩, .int .i64 0, .slice none 0 0, .int .i64 X.s, .string X.r, .int .i64 X.v, .slice A13 X.fs.length a13, .slice D13 X.d.length d13, .slice T13 X.f.length t13] 29)).heap.size) := Lib.hid (by rw [World.size_alloc]; omega)
  have OO_14 := Lib.hid (OO_13.out.alloc (.cells #[.string ⟨#[]⟩, .string ⟨#[]⟩, .int .i64 0, .slice none 0 0, .int .i64 X.s, .string X.r, .int .i64 X.v, .slice A13 X.fs.length a13, .slice D13 X.d.length d13, .slice T13 X.f.length t13] 29))
  have QXF_14 := Lib.hid (QXF_13.out.alloc (.cells #[.string ⟨#[]⟩, .string ⟨#[]⟩, .int .i64 0, .slice none 0 0, .int .i64 X.s, .string X.r, .int .i64 X.v, .slice A13 X.fs.length a13, .slice D13 X.d.length d13, .slice T13 X.f.length t13] 29))
  have QXD_14 := Lib.hid (QXD_13.out.alloc (.cells #[.string ⟨#[]⟩, .string ⟨#[]⟩, .int .i64 0, .slice none 0 0, .int .i64 X.s, .string X.r, .int .i64 X.v, .slice A13 X.fs.length a13, .slice D13 X.d.length d13, .slice T13 X.f.length t13] 29))
  have QXT_14 := Lib.hid (QXT_13.out.alloc (.cells #[.string ⟨#[]⟩, .string ⟨#[]⟩, .int .i64 0, .slice none 0 0, .int .i64 X.s, .string X.r, .int .i64 X.v, .slice A13 X.fs.length a13, .slice D13 X.d.length d13, .slice T13 X.f.length t13] 29))
  have QXB_14 := Lib.hid (QXB_13.out.alloc (.cells #[.string ⟨#[]⟩, .string ⟨#[]⟩, .int .i64 0, .slice none 0 0, .int .i64 X.s, .string X.r, .int .i64 X.v, .slice A13 X.fs.length a13, .slice D13 X.d.length d13, .slice T13 X.f.length t13] 29))
  have QYF_14 := Lib.hid (QYF_13.out.alloc (.cells #[.string ⟨#[]⟩, .string ⟨#[]⟩, .int .i64 0, .slice none 0 0, .int .i64 X.s, .string X.r, .int .i64 X.v, .slice A13 X.fs.length a13, .slice D13 X.d.length d13, .slice T13 X.f.length t13] 29))
  have QYD_14 := Lib.hid (QYD_13.out.alloc (.cells #[.string ⟨#[]⟩, .string ⟨#[]⟩, .int .i64 0, .slice none 0 0, .int .i64 X.s, .string X.r, .int .i64 X.v, .slice A13 X.fs.length a13, .slice D13 X.d.length d13, .slice T13 X.f.length t13] 29))
  have QYT_14 := Lib.hid (QYT_13.out.alloc (.cells #[.string ⟨#[]⟩, .string ⟨#[]⟩, .int .i64 0, .slice none 0 0, .int .i64 X.s, .string X.r, .int .i64 X.v, .slice A13 X.fs.length a13, .slice D13 X.d.length d13, .slice T13 X.f.length t13] 29))
  have QYB_14 := Lib.hid (QYB_13.out.alloc (.cells #[.string ⟨#[]⟩, .string ⟨#[]⟩, .int .i64 0, .slice none 0 0, .int .i64 X.s, .string X.r, .int .i64 X.v, .slice A13 X.fs.length a13, .slice D13 X.d.length d13, .slice T13 X.f.length t13] 29))
  have PXF_14 := Lib.hid (PXF_13.out.alloc (.cells #[.string ⟨#[]⟩, .string ⟨#[]⟩, .int .i64 0, .slice none 0 0, .int .i64 X.s, .string X.r, .int .i64 X.v, .slice A13 X.fs.length a13, .slice D13 X.d.length d13, .slice T13 X.f.length t13] 29))
  have PXD_14 := Lib.hid (PXD_13.out.alloc (.cells #[.string ⟨#[]⟩, .string ⟨#[]⟩, .int .i64 0, .slice none 0 0, .int .i64 X.s, .string X.r, .int .i64 X.v, .slice A13 X.fs.length a13, .slice D13 X.d.length d13, .slice T13 X.f.length t13] 29))
  have PXT_14 := Lib.hid (PXT_13.out.alloc (.cells #[.string ⟨#[]⟩, .string ⟨#[]⟩, .int .i64 0, .slice none 0 0, .int .i64 X.s, .string X.r, .int .i64 X.v, .slice A13 X.fs.length a13, .slice D13 X.d.length d13, .slice T13 X.f.length t13] 29))
  have PXB_14 := Lib.hid (PXB_13.out.alloc (.cells #[.string ⟨#[]⟩, .string ⟨#[]⟩, .int .i64 0, .slice none 0 0, .int .i64 X.s, .string X.r, .int .i64 X.v, .slice A13 X.fs.length a13, .slice D13 X.d.length d13, .slice T13 X.f.length t13] 29))
  have PYF_14 := Lib.hid (PYF_13.out.alloc (.cells #[.string ⟨#[]⟩, .string ⟨#[]⟩, .int .i64 0, .slice none 0 0, .int .i64 X.s, .string X.r, .int .i64 X.v, .slice A13 X.fs.length a13, .slice D13 X.d.length d13, .slice T13 X.f.length t13] 29))
  have PYD_14 := Lib.hid (PYD_13.out.alloc (.cells #[.string ⟨#[]⟩, .string ⟨#[]⟩, .int .i64 0, .slice none 0 0, .int .i64 X.s, .string X.r, .int .i64 X.v, .slice A13 X.fs.length a13, .slice D13 X.d.length d13, .slice T13 X.f.length t13] 29))
  have PYT_14 := Lib.hid (PYT_13.out.alloc (.cells #[.string ⟨#[]⟩, .string ⟨#[]⟩, .int .i64 0, .slice none 0 0, .int .i64 X.s, .string X.r, .int .i64 X.v, .slice A13 X.fs.length a13, .slice D13 X.d.length d13, .slice T13 X.f.length t13] 29))
  have PYB_14 := Lib.hid (PYB_13.out.alloc (.cells #[.string ⟨#[]⟩, .string ⟨#[]⟩, .int .i64 0, .slice none 0 0, .int .i64 X.s, .string X.r, .int .i64 X.v, .slice A13 X.fs.length a13, .slice D13 X.d.length d13, .slice T13 X.f.length t13] 29))
  have QMF_14 := Lib.hid (QMF_13.out.alloc (.cells #[.string ⟨#[]⟩, .string ⟨#[]⟩, .int .i64 0, .slice none 0 0, .int .i64 X.s, .string X.r, .int .i64 X.v, .slice A13 X.fs.length a13, .slice D13 X.d.length d13, .slice T13 X.f.length t13] 29))
  have QMD_14 := Lib.hid (QMD_13.out.alloc (.cells #[.string ⟨#[]⟩, .string ⟨#[]⟩, .int .i64 0, .slice none 0 0, .int .i64 X.s, .string X.r, .int .i64 X.v, .slice A13 X.fs.length a13, .slice D13 X.d.length d13, .slice T13 X.f.length t13] 29))
  have QMT_14 := Lib.hid (QMT_13.out.alloc (.cells #[.string ⟨#[]⟩, .string ⟨#[]⟩, .int .i64 0, .slice none 0 0, .int .i64 X.s, .string X.r, .int .i64 X.v, .slice A13 X.fs.length a13, .slice D13 X.d.length d13, .slice T13 X.f.length t13] 29))
  have QMB_14 := Lib.hid (QMB_13.out.alloc (.cells #[.string ⟨#[]⟩, .string ⟨#[]⟩, .int .i64 0, .slice none 0 0, .int .i64 X.s, .string X.r, .int .i64 X.v, .slice A13 X.fs.length a13, .slice D13 X.d.length d13, .slice T13 X.f.length t13] 29))
  have PMF_14 := Lib.hid (PMF_13.out.alloc (.cells #[.string ⟨#[]⟩, .string ⟨#[]⟩, .int .i64 0, .slice none 0 0, .int .i64 X.s, .string X.r, .int .i64 X.v, .slice A13 X.fs.length a13, .slice D13 X.d.length d13, .slice T13 X.f.length t13] 29))
  have PMD_14 := Lib.hid (PMD_13.out.alloc (.cells #[.string ⟨#[]⟩, .string ⟨#[]⟩, .int .i64 0, .slice none 0 0, .int .i64 X.s, .string X.r, .int .i64 X.v, .slice A13 X.fs.length a13, .slice D13 X.d.length d13, .slice T13 X.f.length t13] 29))
  have PMT_14 := Lib.hid (PMT_13.out.alloc (.cells #[.string ⟨#[]⟩, .string ⟨#[]⟩, .int .i64 0, .slice none 0 0, .int .i64 X.s, .string X.r, .int .i64 X.v, .slice A13 X.fs.length a13, .slice D13 X.d.length d13, .slice T13 X.f.length t13] 29))
  have PMB_14 := Lib.hid (Blk.new w13 #[.string ⟨#[]⟩, .string ⟨#[]⟩, .int .i64 0, .slice none 0 0, .int .i64 X.s, .string X.r, .int .i64 X.v, .slice A13 X.fs.length a13, .slice D13 X.d.length d13, .slice T13 X.f.length t13] 29)
  clear HB13 OO_13 QXF_13 QXD_13 QXT_13 QXB_13 QYF_13 QYD_13 QYT_13 QYB_13 PXF_13 PXD_13 PXT_13 PXB_13 PYF_13 PYD_13 PYT_13 PYB_13 QMF_13 QMD_13 QMT_13 QMB_13 PMF_13 PMD_13 PMT_13
  go_upto_region 10 with fail
  generalize w13.alloc (.cells #[.string ⟨#[]⟩, .string ⟨#[]⟩, .int .i64 0, .slice none 0 0, .int .i64 X.s, .string X.r, .int .i64 X.v, .slice A13 X.fs.length a13, .slice D13 X.d.length d13, .slice T13 X.f.length t13] 29) = w14 at *
  obtain ⟨x0, x1, x2, x3, x4, x5, x6, x7, x8, x9⟩ := QXB_14.out.cells10
  obtain ⟨y0, y1, y2, y3, y4, y5, y6, y7, y8, y9⟩ := QMB_14.out.cells10
  go_wp2_with fail
  refine (sameMessage_any Q.m Q.t Q.v Q.fs 0 ⟨#[]⟩ 0 [] Q.d Q.f A3 A11 none none D3 D11 T3 T11 a3 a11 0 0 d3 d11 t3 t11 w14 (by omega) (by decide) (by omega) (by omega) QXF_14.out.rd QMF_14.out.rd (Rd.nil _ _ _) (Rd.nil _ _ _) QXD_14.out.rd QMD_14.out.rd QXT_14.out QMT_14.out).mono ?_
  rintro e w15 ⟨rfl, hb15⟩
  have HB15 := Lib.hid (below_then HB14.out.size HB14.out hb15)
  have HZ15 := Lib.hid hb15.size
  have OO_15 := Lib.hid (OO_14.out.below hb15)
  have QXF_15 := Lib.hid (QXF_14.out.below hb15)
  have QXD_15 := Lib.hid (QXD_14.out.below hb15)
  have QXT_15 := Lib.hid (QXT_14.out.below hb15)
  have QXB_15 := Lib.hid (QXB_14.out.below hb15)
  have QYF_15 := Lib.hid (QYF_14.out.below hb15)
  have QYD_15 := Lib.hid (QYD_14.out.below hb15)
  have QYT_15 := Lib.hid (QYT_14.out.below hb15)
  have QYB_15 := Lib.hid (QYB_14.out.below hb15)
  have PXF_15 := Lib.hid (PXF_14.out.below hb15)
  have PXD_15 := Lib.hid (PXD_14.out.below hb15)
  have PXT_15 := Lib.hid (PXT_14.out.below hb15)
  have PXB_15 := Lib.hid (PXB_14.out.below hb15)
  have PYF_15 := Lib.hid (PYF_14.out.below hb15)
  have PYD_15 := Lib.hid (PYD_14.out.below hb15)
  have PYT_15 := Lib.hid (PYT_14.out.below hb15)
  have PYB_15 := Lib.hid (PYB_14.out.below hb15)
  have QMF_15 := Lib.hid (QMF_14.out.below hb15)
  have QMD_15 := Lib.hid (QMD_14.out.below hb15)
  have QMT_15 := Lib.hid (QMT_14.out.below hb15)
  have QMB_15 := Lib.hid (QMB_14.out.below hb15)
  have PMF_15 := Lib.hid (PMF_14.out.below hb15)
  have PMD_15 := Lib.hid (PMD_14.out.below hb15)
  have PMT_15 := Lib.hid (PMT_14.out.below hb15)
  have PMB_15 := Lib.hid (PMB_14.out.below hb15)
  clear hb15 HB14 OO_14 QXF_14 QXD_14 QXT_14 QXB_14 QYF_14 QYD_14 QYT_14 QYB_14 PXF_14 PXD_14 PXT_14 PXB_14 PYF_14 PYD_14 PYT_14 PYB_14 QMF_14 QMD_14 QMT_14 QMB_14 PMF_14 PMD_14 PMT_14 PMB_14 x0 x1 x2 x3 x4 x5 x6 x7 x8 x9 y0 y1 y2 y3 y4 y5 y6 y7 y8 y9
  obtain ⟨x0, x1, x2, x3, x4, x5, x6, x7, x8, x9⟩ := QYB_15.out.cells10
  obtain ⟨y0, y1, y2, y3, y4, y5, y6, y7, y8, y9⟩ := QMB_15.out.cells10
  go_wp2_with fail
  refine (sameMessage_any Q.m Q.t Q.v Q.fs 0 ⟨#[]⟩ 0 [] Q.d Q.f A5 A11 none none D5 D11 T5 T11 a5 a11 0 0 d5 d11 t5 t11 w15 (by omega) (by decide) (by omega) (by omega) QYF_15.out.rd QMF_15.out.rd (Rd.nil _ _ _) (Rd.nil _ _ _) QYD_15.out.rd QMD_15.out.rd QYT_15.out QMT_15.out).mono ?_
  rintro e w16 ⟨rfl, hb16⟩
  have HB16 := Lib.hid (below_then HB15.out.size HB15.out hb16)
  have HZ16 := Lib.hid hb16.size
  have OO_16 := Lib.hid (OO_15.out.below hb16)
  have QXF_16 := Lib.hid (QXF_15.out.below hb16)
  have QXD_16 := Lib.hid (QXD_15.out.below hb16)
  have QXT_16 := Lib.hid (QXT_15.out.below hb16)
  have QXB_16 := Lib.hid (QXB_15.out.below hb16)
  have QYF_16 := Lib.hid (QYF_15.out.below hb16)
  have QYD_16 := Lib.hid (QYD_15.out.below hb16)
  have QYT_16 := Lib.hid (QYT_15.out.below hb16)
  have QYB_16 := Lib.hid (QYB_15.out.below hb16)
  have PXF_16 := Lib.hid (PXF_15.out.below hb16)
  have PXD_16 := Lib.hid (PXD_15.out.below hb16)
  have PXT_16 := Lib.hid (PXT_15.out.below hb16)
  have PXB_16 := Lib.hid (PXB_15.out.below hb16)
  have PYF_16 := Lib.hid (PYF_15.out.below hb16)
  have PYD_16 := Lib.hid (PYD_15.out.below hb16)
  have PYT_16 := Lib.hid (PYT_15.out.below hb16)
  have PYB_16 := Lib.hid (PYB_15.out.below hb16)
  have QMF_16 := Lib.hid (QMF_15.out.below hb16)
  have QMD_16 := Lib.hid (QMD_15.out.below hb16)
  have QMT_16 := Lib.hid (QMT_15.out.below hb16)
  have QMB_16 := Lib.hid (QMB_15.out.below hb16)
  have PMF_16 := Lib.hid (PMF_15.out.below hb16)
  have PMD_16 := Lib.hid (PMD_15.out.below hb16)
  have PMT_16 := Lib.hid (PMT_15.out.below hb16)
  have PMB_16 := Lib.hid (PMB_15.out.below hb16)
  clear hb16 HB15 OO_15 QXF_15 QXD_15 QXT_15 QXB_15 QYF_15 QYD_15 QYT_15 QYB_15 PXF_15 PXD_15 PXT_15 PXB_15 PYF_15 PYD_15 PYT_15 PYB_15 QMF_15 QMD_15 QMT_15 QMB_15 PMF_15 PMD_15 PMT_15 PMB_15 x0 x1 x2 x3 x4 x5 x6 x7 x8 x9 y0 y1 y2 y3 y4 y5 y6 y7 y8 y9
  obtain ⟨x0, x1, x2, x3, x4, x5, x6, x7, x8, x9⟩ := PXB_16.out.cells10
  obtain ⟨y0, y1, y2, y3, y4, y5, y6, y7, y8, y9⟩ := PMB_16.out.cells10
  go_wp2_with fail
  refine (sameMessage_any ⟨#[]⟩ ⟨#[]⟩ 0 [] X.s X.r X.v X.fs X.d X.f none none A7 A13 D7 D13 T7 T13 0 0 a7 a13 d7 d13 t7 t13 w16 (by decide) (by omega) (by omega) (by omega) (Rd.nil _ _ _) (Rd.nil _ _ _) PXF_16.out.rd PMF_16.out.rd PXD_16.out.rd PMD_16.out.rd PXT_16.out PMT_16.out).mono ?_
  rintro e w17 ⟨rfl, hb17⟩
  have HB17 := Lib.hid (below_then HB16.out.size HB16.out hb17)
  have HZ17 := Lib.hid hb17.size
  have OO_17 := Lib.hid (OO_16.out.below hb17)
  have QXF_17 := Lib.hid (QXF_16.out.below hb17)
  have QXD_17 := Lib.hid (QXD_16.out.below hb17)
  have QXT_17 := Lib.hid (QXT_16.out.below hb17)
  have QXB_17 := Lib.hid (QXB_16.out.below hb17)
  have QYF_17 := Lib.hid (QYF_16.out.below hb17)
  have QYD_17 := Lib.hid (QYD_16.out.below hb17)
  have QYT_17 := Lib.hid (QYT_16.out.below hb17)
  have QYB_17 := Lib.hid (QYB_16.out.below hb17)
  have PXF_17 := Lib.hid (PXF_16.out.below hb17)
  have PXD_17 := Lib.hid (PXD_16.out.below hb17)
  have PXT_17 := Lib.hid (PXT_16.out.below hb17)
  have PXB_17 := Lib.hid (PXB_16.out.below hb17)
  have PYF_17 := Lib.hid (PYF_16.out.below hb17)
  have PYD_17 := Lib.hid (PYD_16.out.below hb17)
  have PYT_17 := Lib.hid (PYT_16.out.below hb17)
  have PYB_17 := Lib.hid (PYB_16.out.below hb17)
  have QMF_17 := Lib.hid (QMF_16.out.below hb17)
  have QMD_17 := Lib.hid (QMD_16.out.below hb17)
  have QMT_17 := Lib.hid (QMT_16.out.below hb17)
  have QMB_17 := Lib.hid (QMB_16.out.below hb17)
  have PMF_17 := Lib.hid (PMF_16.out.below hb17)
  have PMD_17 := Lib.hid (PMD_16.out.below hb17)
  have PMT_17 := Lib.hid (PMT_16.out.below hb17)
  have PMB_17 := Lib.hid (PMB_16.out.below hb17)
  clear hb17 HB16 OO_16 QXF_16 QXD_16 QXT_16 QXB_16 QYF_16 QYD_16 QYT_16 QYB_16 PXF_16 PXD_16 PXT_16 PXB_16 PYF_16 PYD_16 PYT_16 PYB_16 QMF_16 QMD_16 QMT_16 QMB_16 PMF_16 PMD_16 PMT_16 PMB_16 x0 x1 x2 x3 x4 x5 x6 x7 x8 x9 y0 y1 y2 y3 y4 y5 y6 y7 y8 y9
  obtain ⟨x0, x1, x2, x3, x4, x5, x6, x7, x8, x9⟩ := PYB_17.out.cells10
  obtain ⟨y0, y1, y2, y3, y4, y5, y6, y7, y8, y9⟩ := PMB_17.out.cells10
  go_wp2_with fail
  refine (sameMessage_any ⟨#[]⟩ ⟨#[]⟩ 0 [] X.s X.r X.v X.fs X.d X.f none none A9 A13 D9 D13 T9 T13 0 0 a9 a13 d9 d13 t9 t13 w17 (by decide) (by omega) (by omega) (by omega) (Rd.nil _ _ _) (Rd.nil _ _ _) PYF_17.out.rd PMF_17.out.rd PYD_17.out.rd PMD_17.out.rd PYT_17.out PMT_17.out).mono ?_
  rintro e w18 ⟨rfl, hb18⟩
  have HB18 := Lib.hid (below_then HB17.out.size HB17.out hb18)
  have HZ18 := Lib.hid hb18.size
  have OO_18 := Lib.hid (OO_17.out.below hb18)
  have QXF_18 := Lib.hid (QXF_17.out.below hb18)
  have QXD_18 := Lib.hid (QXD_17.out.below hb18)
  have QXT_18 := Lib.hid (QXT_17.out.below hb18)
  have QXB_18 := Lib.hid (QXB_17.out.below hb18)
  have QYF_18 := Lib.hid (QYF_17.out.below hb18)
  have QYD_18 := Lib.hid (QYD_17.out.below hb18)
  have QYT_18 := Lib.hid (QYT_17.out.below hb18)
  have QYB_18 := Lib.hid (QYB_17.out.below hb18)
  have PXF_18 := Lib.hid (PXF_17.out.below hb18)
  have PXD_18 := Lib.hid (PXD_17.out.below hb18)
  have PXT_18 := Lib.hid (PXT_17.out.below hb18)
  have PXB_18 := Lib.hid (PXB_17.out.below hb18)
  have PYF_18 := Lib.hid (PYF_17.out.below hb18)
  have PYD_18 := Lib.hid (PYD_17.out.below hb18)
  have PYT_18 := Lib.hid (PYT_17.out.below hb18)
  have PYB_18 := Lib.hid (PYB_17.out.below hb18)
  have QMF_18 := Lib.hid (QMF_17.out.below hb18)
  have QMD_18 := Lib.hid (QMD_17.out.below hb18)
  have QMT_18 := Lib.hid (QMT_17.out.below hb18)
  have QMB_18 := Lib.hid (QMB_17.out.below hb18)
  have PMF_18 := Lib.hid (PMF_17.out.below hb18)
  have PMD_18 := Lib.hid (PMD_17.out.below hb18)
  have PMT_18 := Lib.hid (PMT_17.out.below hb18)
  have PMB_18 := Lib.hid (PMB_17.out.below hb18)
  clear hb18 HB17 OO_17 QXF_17 QXD_17 QXT_17 QXB_17 QYF_17 QYD_17 QYT_17 QYB_17 PXF_17 PXD_17 PXT_17 PXB_17 PYF_17 PYD_17 PYT_17 PYB_17 QMF_17 QMD_17 QMT_17 QMB_17 PMF_17 PMD_17 PMT_17 PMB_17 x0 x1 x2 x3 x4 x5 x6 x7 x8 x9 y0 y1 y2 y3 y4 y5 y6 y7 y8 y9
  obtain ⟨x0, x1, x2, x3, x4, x5, x6, x7, x8, x9⟩ := QXB_18.out.cells10
  obtain ⟨y0, y1, y2, y3, y4, y5, y6, y7, y8, y9⟩ := QYB_18.out.cells10
  obtain ⟨q0, q1, q2, q3, q4, q5, q6, q7, q8, q9⟩ := PXB_18.out.cells10
  obtain ⟨r0, r1, r2, r3, r4, r5, r6, r7, r8, r9⟩ := PYB_18.out.cells10
  have HH := Lib.hid (Blk.new w18 #[.slice D3 Q.d.length d3, .slice D5 Q.d.length d5, .slice D7 X.d.length d7, .slice D9 X.d.length d9, .slice AO bs.length co] 22)
  have HBa := Lib.hid (HB18.out.alloc HB18.out.size (.cells #[.slice D3 Q.d.length d3, .slice D5 Q.d.length d5, .slice D7 X.d.length d7, .slice D9 X.d.length d9, .slice AO bs.length co] 22))
  have QXFa := Lib.hid (QXF_18.out.alloc (.cells #[.slice D3 Q.d.length d3, .slice D5 Q.d.length d5, .slice D7 X.d.length d7, .slice D9 X.d.length d9, .slice AO bs.length co] 22))
  have QYFa := Lib.hid (QYF_18.out.alloc (.cells #[.slice D3 Q.d.length d3, .slice D5 Q.d.length d5, .slice D7 X.d.length d7, .slice D9 X.d.length d9, .slice AO bs.length co] 22))
  have QMFa := Lib.hid (QMF_18.out.alloc (.cells #[.slice D3 Q.d.length d3, .slice D5 Q.d.length d5, .slice D7 X.d.length d7, .slice D9 X.d.length d9, .slice AO bs.length co] 22))
  have QXBa := Lib.hid (QXB_18.out.alloc (.cells #[.slice D3 Q.d.length d3, .slice D5 Q.d.length d5, .slice D7 X.d.length d7, .slice D9 X.d.length d9, .slice AO bs.length co] 22))
  have QYBa := Lib.hid (QYB_18.out.alloc (.cells #[.slice D3 Q.d.length d3, .slice D5 Q.d.length d5, .slice D7 X.d.length d7, .slice D9 X.d.length d9, .slice AO bs.length co] 22))
  have QMBa := Lib.hid (QMB_18.out.alloc (.cells #[.slice D3 Q.d.length d3, .slice D5 Q.d.length d5, .slice D7 X.d.length d7, .slice D9 X.d.length d9, .slice AO bs.length co] 22))
  have QXDa := Lib.hid (QXD_18.out.alloc (.cells #[.slice D3 Q.d.length d3, .slice D5 Q.d.length d5, .slice D7 X.d.length d7, .slice D9 X.d.length d9, .slice AO bs.length co] 22))
  have QYDa := Lib.hid (QYD_18.out.alloc (.cells #[.slice D3 Q.d.length d3, .slice D5 Q.d.length d5, .slice D7 X.d.length d7, .slice D9 X.d.length d9, .slice AO bs.length co] 22))
  have PXDa := Lib.hid (PXD_18.out.alloc (.cells #[.slice D3 Q.d.length d3, .slice D5 Q.d.length d5, .slice D7 X.d.length d7, .slice D9 X.d.length d9, .slice AO bs.length co] 22))
  have PYDa := Lib.hid (PYD_18.out.alloc (.cells #[.slice D3 Q.d.length d3, .slice D5 Q.d.length d5, .slice D7 X.d.length d7, .slice D9 X.d.length d9, .slice AO bs.length co] 22))
  have OOa := Lib.hid (OO_18.out.alloc (.cells #[.slice D3 Q.d.length d3, .slice D5 Q.d.length d5, .slice D7 X.d.length d7, .slice D9 X.d.length d9, .slice AO bs.length co] 22))
  clear HB18 OO_18 QXF_18 QXD_18 QXT_18 QXB_18 QYF_18 QYD_18 QYT_18 QYB_18 PXF_18 PXD_18 PXT_18 PXB_18 PYF_18 PYD_18 PYT_18 PYB_18 QMF_18 QMD_18 QMT_18 QMB_18 PMF_18 PMD_18 PMT_18 PMB_18
  go_wp2_with fail
  clear x0 x1 x2 x3 x4 x5 x6 x7 x8 x9 y0 y1 y2 y3 y4 y5 y6 y7 y8 y9 q0 q1 q2 q3 q4 q5 q6 q7 q8 q9 r0 r1 r2 r3 r4 r5 r6 r7 r8 r9
  have hzl := HH.out.lt
  generalize w18.alloc (.cells #[.slice D3 Q.d.length d3, .slice D5 Q.d.length d5, .slice D7 X.d.length d7, .slice D9 X.d.length d9, .slice AO bs.length co] 22) = v0 at *
  have hL : LSt v0 w.heap.size 5 (fiveI D3 D5 D7 D9 AO) (fiveI Q.d.length Q.d.length X.d.length X.d.length bs.length) (fiveI d3 d5 d7 d9 co) w18.heap.size 0 (fiveI Q.d Q.d X.d X.d bs) v0 := by
    have hz1 := HZ1.out; have hz2 := HZ2.out; have hz3 := HZ3.out; have hz4 := HZ4.out; have hz5 := HZ5.out; have hz6 := HZ6.out; have hz7 := HZ7.out; have hz8 := HZ8.out; have hz9 := HZ9.out; have hz10 := HZ10.out; have hz11 := HZ11.out; have hz12 := HZ12.out; have hz13 := HZ13.out; have hz14 := HZ14.out; have hz15 := HZ15.out; have hz16 := HZ16.out; have hz17 := HZ17.out; have hz18 := HZ18.out;
    refine ⟨fun i hi => ?_, fun i hi => ?_, Below.refl _ _, fun _ _ _ => rfl⟩
    · match i, hi with
      | 0, _ => exact QXDa.out.crow.mono (by omega)
      | 1, _ => exact QYDa.out.crow.mono (by omega)
      | 2, _ => exact PXDa.out.mono (by omega)
      | 3, _ => exact PYDa.out.mono (by omega)
      | 4, _ => exact OOa.out.mono (by omega)
    · match i, hi with
      | 0, _ => exact HH.out.cell 0 rfl
      | 1, _ => exact HH.out.cell 1 rfl
      | 2, _ => exact HH.out.cell 2 rfl
      | 3, _ => exact HH.out.cell 3 rfl
      | 4, _ => exact HH.out.cell 4 rfl
  have hD : LDis 5 (fiveI D3 D5 D7 D9 AO) (fiveI d3 d5 d7 d9 co) w18.heap.size := by
    have hz1 := HZ1.out; have hz2 := HZ2.out; have hz3 := HZ3.out; have hz4 := HZ4.out; have hz5 := HZ5.out; have hz6 := HZ6.out; have hz7 := HZ7.out; have hz8 := HZ8.out; have hz9 := HZ9.out; have hz10 := HZ10.out; have hz11 := HZ11.out; have hz12 := HZ12.out; have hz13 := HZ13.out; have hz14 := HZ14.out; have hz15 := HZ15.out; have hz16 := HZ16.out; have hz17 := HZ17.out; have hz18 := HZ18.out;
    refine LDis.of_iv (u := v0) (n := (fiveI Q.d.length Q.d.length X.d.length X.d.length bs.length)) (f := (fiveI Q.d Q.d X.d X.d bs)) (fiveI w2.heap.size w4.heap.size w6.heap.size w8.heap.size w1.heap.size) (fiveI w3.heap.size w5.heap.size w7.heap.size w9.heap.size w2.heap.size) (fun i hi => ?_) (fun i hi b e => ?_) (fun i j hi hj hne => ?_) (fun i hi => ?_)
    · match i, hi with
      | 0, _ => exact QXDa.out.crow
      | 1, _ => exact QYDa.out.crow
      | 2, _ => exact PXDa.out
      | 3, _ => exact PYDa.out
      | 4, _ => exact OOa.out
    · match i, hi with
      | 0, _ => exact (IQXD.out b e).2
      | 1, _ => exact (IQYD.out b e).2
      | 2, _ => exact (IPXD.out b e).2
      | 3, _ => exact (IPYD.out b e).2
      | 4, _ => exact (IO.out b e).2
    · match i, hi, j, hj with
      | 0, _, 0, _ => exact absurd rfl hne
      | 0, _, 1, _ => exact .inl (by show w3.heap.size ≤ w4.heap.size; omega)
      | 0, _, 2, _ => exact .inl (by show w3.heap.size ≤ w6.heap.size; omega)
      | 0, _, 3, _ => exact .inl (by show w3.heap.size ≤ w8.heap.size; omega)
      | 0, _, 4, _ => exact .inr (by show w2.heap.size ≤ w2.heap.size; omega)
      | 1, _, 0, _ => exact .inr (by show w3.heap.size ≤ w4.heap.size; omega)
      | 1, _, 1, _ => exact absurd rfl hne
      | 1, _, 2, _ => exact .inl (by show w5.heap.size ≤ w6.heap.size; omega)
      | 1, _, 3, _ => exact .inl (by show w5.heap.size ≤ w8.heap.size; omega)
      | 1, _, 4, _ => exact .inr (by show w2.heap.size ≤ w4.heap.size; omega)
      | 2, _, 0, _ => exact .inr (by show w3.heap.size ≤ w6.heap.size; omega)
      | 2, _, 1, _ => exact .inr (by show w5.heap.size ≤ w6.heap.size; omega)
      | 2, _, 2, _ => exact absurd rfl hne
      | 2, _, 3, _ => exact .inl (by show w7.heap.size ≤ w8.heap.size; omega)
      | 2, _, 4, _ => exact .inr (by show w2.heap.size ≤ w6.heap.size; omega)
      | 3, _, 0, _ => exact .inr (by show w3.heap.size ≤ w8.heap.size; omega)
      | 3, _, 1, _ => exact .inr (by show w5.heap.size ≤ w8.heap.size; omega)
      | 3, _, 2, _ => exact .inr (by show w7.heap.size ≤ w8.heap.size; omega)
      | 3, _, 3, _ => exact absurd rfl hne
      | 3, _, 4, _ => exact .inr (by show w2.heap.size ≤ w8.heap.size; omega)
      | 4, _, 0, _ => exact .inl (by show w2.heap.size ≤ w2.heap.size; omega)
      | 4, _, 1, _ => exact .inl (by show w2.heap.size ≤ w4.heap.size; omega)
      | 4, _, 2, _ => exact .inl (by show w2.heap.size ≤ w6.heap.size; omega)
      | 4, _, 3, _ => exact .inl (by show w2.heap.size ≤ w8.heap.size; omega)
      | 4, _, 4, _ => exact absurd rfl hne
    · match i, hi with
      | 0, _ => show w3.heap.size ≤ w18.heap.size; omega
      | 1, _ => show w5.heap.size ≤ w18.heap.size; omega
      | 2, _ => show w7.heap.size ≤ w18.heap.size; omega
      | 3, _ => show w9.heap.size ≤ w18.heap.size; omega
      | 4, _ => show w2.heap.size ≤ w18.heap.size; omega
  have hOWN : ∀ (b : Nat), (ownB D3 d3 ≠ some b ∧ ownB D5 d5 ≠ some b ∧ ownB D7 d7 ≠ some b ∧ ownB D9 d9 ≠ some b ∧ ownB AO co ≠ some b) → ∀ i, i < 5 → ownB ((fiveI D3 D5 D7 D9 AO) i) ((fiveI d3 d5 d7 d9 co) i) ≠ some b := fun b h i hi => by
    match i, hi with
    | 0, _ => exact h.1
    | 1, _ => exact h.2.1
    | 2, _ => exact h.2.2.1
    | 3, _ => exact h.2.2.2.1
    | 4, _ => exact h.2.2.2.2
  refine (apart_anyK w.heap.size 5 (fiveI D3 D5 D7 D9 AO) (fiveI Q.d.length Q.d.length X.d.length X.d.length bs.length) (fiveI d3 d5 d7 d9 co) w18.heap.size 0 5 (fiveI Q.d Q.d X.d X.d bs) v0 (by omega) (fun i hi => ?_) hD hL HBa.out.size).mono ?_
  · match i, hi with
    | 0, _ => show Q.d.length ≤ _; omega
    | 1, _ => show Q.d.length ≤ _; omega
    | 2, _ => show X.d.length ≤ _; omega
    | 3, _ => show X.d.length ≤ _; omega
    | 4, _ => show bs.length ≤ _; omega
  rintro e v1 ⟨rfl, hbv, hkv⟩
  have hkeep : ∀ b, b < v0.heap.size → ownB D3 d3 ≠ some b → ownB D5 d5 ≠ some b → ownB D7 d7 ≠ some b → ownB D9 d9 ≠ some b → ownB AO co ≠ some b → v1.heap[b]? = v0.heap[b]? := fun b hb h0 h1 h2 h3 h4 => hkv b hb (hOWN b ⟨h0, h1, h2, h3, h4⟩)
  have hz1 := HZ1.out; have hz2 := HZ2.out; have hz3 := HZ3.out; have hz4 := HZ4.out; have hz5 := HZ5.out; have hz6 := HZ6.out; have hz7 := HZ7.out; have hz8 := HZ8.out; have hz9 := HZ9.out; have hz10 := HZ10.out; have hz11 := HZ11.out; have hz12 := HZ12.out; have hz13 := HZ13.out; have hz14 := HZ14.out; have hz15 := HZ15.out; have hz16 := HZ16.out; have hz17 := HZ17.out; have hz18 := HZ18.out;
  have HXb : Hid (Blk v1 w3.heap.size #[.string Q.m, .string Q.t, .int .i64 Q.v, .slice A3 Q.fs.length a3, .int .i64 0, .string ⟨#[]⟩, .int .i64 0, .slice none 0 0, .slice D3 Q.d.length d3, .slice T3 Q.f.length t3] 29) := Lib.hid ((hkeep w3.heap.size QXBa.out.lt (fun h => by have h1 := IQXD.out _ h;  omega) (fun h => by have h1 := IQYD.out _ h;  omega) (fun h => by have h1 := IPXD.out _ h;  omega) (fun h => by have h1 := IPYD.out _ h;  omega) (fun h => by have h1 := IO.out _ h;  omega)).trans QXBa.out)
  have HYb : Hid (Blk v1 w5.heap.size #[.string Q.m, .string Q.t, .int .i64 Q.v, .slice A5 Q.fs.length a5, .int .i64 0, .string ⟨#[]⟩, .int .i64 0, .slice none 0 0, .slice D5 Q.d.length d5, .slice T5 Q.f.length t5] 29) := Lib.hid ((hkeep w5.heap.size QYBa.out.lt (fun h => by have h1 := IQXD.out _ h;  omega) (fun h => by have h1 := IQYD.out _ h;  omega) (fun h => by have h1 := IPXD.out _ h;  omega) (fun h => by have h1 := IPYD.out _ h;  omega) (fun h => by have h1 := IO.out _ h;  omega)).trans QYBa.out)
  have HMb : Hid (Blk v1 w11.heap.size #[.string Q.m, .string Q.t, .int .i64 Q.v, .slice A11 Q.fs.length a11, .int .i64 0, .string ⟨#[]⟩, .int .i64 0, .slice none 0 0, .slice D11 Q.d.length d11, .slice T11 Q.f.length t11] 29) := Lib.hid ((hkeep w11.heap.size QMBa.out.lt (fun h => by have h1 := IQXD.out _ h;  omega) (fun h => by have h1 := IQYD.out _ h;  omega) (fun h => by have h1 := IPXD.out _ h;  omega) (fun h => by have h1 := IPYD.out _ h;  omega) (fun h => by have h1 := IO.out _ h;  omega)).trans QMBa.out)
  have HXF := Lib.hid (QXFa.out.keepI (u' := v1) (fun b hb => hkeep b (QXFa.out.lt b hb).2 (QXFa.out.apartI QXDa.out (by decide) b hb) (fun h => by have h1 := IQYD.out _ h; have h2 := IQXF.out b hb; omega) (fun h => by have h1 := IPXD.out _ h; have h2 := IQXF.out b hb; omega) (fun h => by have h1 := IPYD.out _ h; have h2 := IQXF.out b hb; omega) (fun h => by have h1 := IO.out _ h; have h2 := IQXF.out b hb; omega)))
  have HYF := Lib.hid (QYFa.out.keepI (u' := v1) (fun b hb => hkeep b (QYFa.out.lt b hb).2 (fun h => by have h1 := IQXD.out _ h; have h2 := IQYF.out b hb; omega) (QYFa.out.apartI QYDa.out (by decide) b hb) (fun h => by have h1 := IPXD.out _ h; have h2 := IQYF.out b hb; omega) (fun h => by have h1 := IPYD.out _ h; have h2 := IQYF.out b hb; omega) (fun h => by have h1 := IO.out _ h; have h2 := IQYF.out b hb; omega)))
  have HMF := Lib.hid (QMFa.out.keepI (u' := v1) (fun b hb => hkeep b (QMFa.out.lt b hb).2 (fun h => by have h1 := IQXD.out _ h; have h2 := IQMF.out b hb; omega) (fun h => by have h1 := IQYD.out _ h; have h2 := IQMF.out b hb; omega) (fun h => by have h1 := IPXD.out _ h; have h2 := IQMF.out b hb; omega) (fun h => by have h1 := IPYD.out _ h; have h2 := IQMF.out b hb; omega) (fun h => by have h1 := IO.out _ h; have h2 := IQMF.out b hb; omega)))
  have HBv := Lib.hid (HBa.out.trans hbv)
  clear hL hD hOWN hkv hkeep hbv HH HBa QXFa QYFa QMFa QXBa QYBa QMBa QXDa QYDa PXDa PYDa OOa IQXD IQYD IPXD IPYD IO
  obtain ⟨x0, x1, x2, x3, x4, x5, x6, x7, x8, x9⟩ := HXb.out.cells10
  obtain ⟨y0, y1, y2, y3, y4, y5, y6, y7, y8, y9⟩ := HYb.out.cells10
  obtain ⟨q0, q1, q2, q3, q4, q5, q6, q7, q8, q9⟩ := HMb.out.cells10
  go_wp2_with fail
  refine (marked_any w2.heap.size A3 a3 Q.fs v1 (by omega) HXF.out (by have := HXb.out.lt; omega)).mono ?_
  rintro e v2 ⟨rfl, hg⟩
  have HYc := Lib.hid (HYb.out.after hg (fun b h => by have := (IQXF.out b h).2; omega))
  have HMc := Lib.hid (HMb.out.after hg (fun b h => by have := (IQXF.out b h).2; omega))
  have HYG := Lib.hid (HYF.out.after hg (fun b h => by have := (IQXF.out b h).2; omega))
  have HMG := Lib.hid (HMF.out.after hg (fun b h => by have := (IQXF.out b h).2; omega))
  have HBw := Lib.hid (below_after HBv.out hg HBv.out.size (fun b h => by have := (IQXF.out b h).1; have := hz1; omega))
  clear hg HXb HYb HMb HXF HYF HMF HBv x0 x1 x2 x3 x4 x5 x6 x7 x8 x9 y0 y1 y2 y3 y4 y5 y6 y7 y8 y9 q0 q1 q2 q3 q4 q5 q6 q7 q8 q9
  obtain ⟨y0, y1, y2, y3, y4, y5, y6, y7, y8, y9⟩ := HYc.out.cells10
  obtain ⟨q0, q1, q2, q3, q4, q5, q6, q7, q8, q9⟩ := HMc.out.cells10
  go_wp2_with fail
  refine (sameReqT Q.m Q.t Q.v Q.fs A5 A11 a5 a11 v2 (by omega) HYG.out.rd HMG.out.rd).mono ?_
  rintro e v3 ⟨rfl, hb3⟩
  have HBx := Lib.hid (below_then HBw.out.size HBw.out hb3)
  clear hb3 HBw HYG HMG HYc HMc y0 y1 y2 y3 y4 y5 y6 y7 y8 y9 q0 q1 q2 q3 q4 q5 q6 q7 q8 q9
  go_wp2
  go_ret
  exact ⟨rfl, HBx.out⟩
end Go.Proofs.YteehjkfmlcfffaaGreatDoor
