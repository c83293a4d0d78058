/- What is told of a message is told of its own bytes alone, and of them with anything behind; the walk of the law InboxFirst (printed by gen/first.py). Conditions: rows of at most 2^20 bytes; the library's two tables of UTF-8; internal/bytealg.MaxLen; strconv's two error variables. -/
import Derived.Test.YtnmldbcgpfglkaaGreatDoorMsgX
namespace Go.Proofs.YtnmldbcgpfglkaaGreatDoor
open Go.RowKit

namespace M
theorem body_reach {bs : List UInt8} {N c : Nat} {k z : Int} (hz : 0 ≤ z) (hz1 : k ≠ 1 → z = 0) (hk : k = 0 ∨ k = 1 ∨ k = 2) (hn : (body bs N k z).n = (c : Int)) (hc : c ≠ 0) (hN : N ≤ bs.length) : N ≤ c ∧ c ≤ bs.length := by
  rcases hk with rfl | rfl | rfl
  · have h0 := hz1 (by decide)
    rw [body_none] at hn
    replace hn : (N : Int) + z = c := hn
    exact ⟨by omega, by omega⟩
  · by_cases hs : (bs.length : Int) < (N : Int) + z
    · rw [body_short hs] at hn
      exact absurd (show ((c : Nat) : Int) = 0 from hn.symm) (by omega)
    · rw [body_len hs] at hn
      replace hn : (N : Int) + z = c := hn
      exact ⟨by omega, by omega⟩
  · by_cases hb : (C.decode (bs.drop N)).e ≠ 0 ∨ (C.decode (bs.drop N)).n = 0
    · rw [body_cut hb] at hn
      exact absurd (show ((c : Nat) : Int) = 0 from hn.symm) (by omega)
    · rw [body_chunks hb] at hn
      replace hn : (N : Int) + ((C.decode (bs.drop N)).n : Int) = c := hn
      have h1 := (C.decode_cut (fun h => hb (.inr h))).1
      rw [List.length_drop] at h1
      exact ⟨by omega, by omega⟩
theorem body_front {bs b' : List UInt8} {N c : Nat} {k z : Int} (hz : 0 ≤ z) (hk : k = 0 ∨ k = 1 ∨ k = 2) (hn : (body bs N k z).n = (c : Int)) (hc : c ≠ 0) (ht : b'.take c = bs.take c) (hl : c ≤ b'.length) :
    body b' N k z = body bs N k z := by
  rcases hk with rfl | rfl | rfl
  · rfl
  · by_cases hs : (bs.length : Int) < (N : Int) + z
    · rw [body_short hs] at hn
      exact absurd (show ((c : Nat) : Int) = 0 from hn.symm) (by omega)
    · rw [body_len hs] at hn ⊢
      replace hn : (N : Int) + z = c := hn
      have hs' : ¬ (b'.length : Int) < (N : Int) + z := by omega
      rw [body_len hs']
      have e := P.drop_take_eq (s := N) ht
      have hzn : z.toNat = c - N := by omega
      rw [hzn, e]
  · by_cases hb : (C.decode (bs.drop N)).e ≠ 0 ∨ (C.decode (bs.drop N)).n = 0
    · rw [body_cut hb] at hn
      exact absurd (show ((c : Nat) : Int) = 0 from hn.symm) (by omega)
    · rw [body_chunks hb] at hn
      replace hn : (N : Int) + ((C.decode (bs.drop N)).n : Int) = c := hn
      obtain ⟨_, j, h1, h2, h3⟩ := C.dec_ok (bs.drop N).length [] 0 (bs.drop N) (Nat.le_refl _) (fun h => hb (.inr h))
      have h2' : (C.decode (bs.drop N)).n = j := by rw [show (C.decode (bs.drop N)).n = (C.dec [] 0 (bs.drop N)).n from rfl, h2]; omega
      rw [List.length_drop] at h1
      have hj : j = c - N := by omega
      have e : C.decode (b'.drop N) = C.decode (bs.drop N) := h3 (b'.drop N) (by rw [hj]; exact P.drop_take_eq (s := N) ht) (by rw [List.length_drop]; omega)
      have hb' : ¬ ((C.decode (b'.drop N)).e ≠ 0 ∨ (C.decode (b'.drop N)).n = 0) := by rw [e]; exact hb
      rw [body_chunks hb', body_chunks hb, e]
theorem whole_ways (q : P.RQ) (b : BD) : whole q b = .bad b.e ∨ (b.e = 0 ∧ b.n ≠ 0 ∧ whole q b = ⟨q.m, q.t, q.v, q.fs, b.d, b.f, b.n, 0⟩) := by
  unfold whole
  split
  · exact .inl rfl
  · rename_i h
    refine .inr ⟨?_, fun hn => h (.inr hn), rfl⟩
    by_cases he : b.e = 0
    · exact he
    · exact absurd (.inl he) h
/-- The ways that a message's reading ends: it is told of no byte behind it. -/
theorem msg_ways (bs : List UInt8) : (∃ e, request bs = .bad e) ∨ ((request bs).e = 0 ∧ ∃ k : Nat, 0 < k ∧ k ≤ bs.length ∧ (request bs).n = (k : Int) ∧ ∀ b' : List UInt8, b'.take k = bs.take k → k ≤ b'.length → request b' = request bs) := by
  by_cases h1 : (P.request bs).e ≠ 0 ∨ (P.request bs).n = 0
  · exact .inl ⟨_, if_pos h1⟩
  · obtain ⟨i, hi, hle, hn⟩ := P.request_n (fun h => h1 (.inr h))
    have hr : request bs = framed bs (P.request bs) (F.frame (P.request bs).v (P.request bs).fs 0) := if_neg h1
    by_cases h2 : (F.frame (P.request bs).v (P.request bs).fs 0).e ≠ 0
    · exact .inl ⟨_, hr.trans (if_pos h2)⟩
    · have hkd := P.frame_kinds (P.request bs).v (P.request bs).fs
      have hkr := F.frame_range (P.request bs).v (P.request bs).fs 0
      have hr2 : request bs = whole (P.request bs) (body bs (P.request bs).n.toNat (F.frame (P.request bs).v (P.request bs).fs 0).k (F.frame (P.request bs).v (P.request bs).fs 0).n) := hr.trans (if_neg h2)
      have hN : (P.request bs).n.toNat = P.skip bs + i + 4 := by omega
      rcases whole_ways (P.request bs) (body bs (P.request bs).n.toNat (F.frame (P.request bs).v (P.request bs).fs 0).k (F.frame (P.request bs).v (P.request bs).fs 0).n) with h3 | ⟨_, h4, h5⟩
      · exact .inl ⟨_, hr2.trans h3⟩
      · have hbn : 0 ≤ (body bs (P.request bs).n.toNat (F.frame (P.request bs).v (P.request bs).fs 0).k (F.frame (P.request bs).v (P.request bs).fs 0).n).n := by
          have := hkr.1
          unfold body
          repeat' split
          all_goals first | exact Int.le_refl 0 | (show 0 ≤ ((P.request bs).n.toNat : Int) + _; omega)
        obtain ⟨c, hc⟩ : ∃ c : Nat, (body bs (P.request bs).n.toNat (F.frame (P.request bs).v (P.request bs).fs 0).k (F.frame (P.request bs).v (P.request bs).fs 0).n).n = (c : Int) := ⟨_, (Int.toNat_of_nonneg hbn).symm⟩
        have hc0 : c ≠ 0 := fun h => h4 (by rw [hc, h]; rfl)
        have hNle : (P.request bs).n.toNat ≤ bs.length := by omega
        have hbf := fun (b' : List UInt8) (ht : b'.take c = bs.take c) (hl : c ≤ b'.length) => body_front hkr.1 hkd hc hc0 ht hl
        obtain ⟨hNc, hcl⟩ := body_reach (bs := bs) (N := (P.request bs).n.toNat) hkr.1 hkr.2.2 hkd hc hc0 hNle
        refine .inr ⟨by rw [hr2, h5], c, by omega, hcl, by rw [hr2, h5]; exact hc, fun b' ht hl => ?_⟩
        have hbody := hbf b' ht hl
        have hq : P.request b' = P.request bs := P.request_front (m := P.skip bs + i + 4) (C.take_front ht (by omega)) hi (Nat.le_refl _) (by omega)
        have h1' : ¬ ((P.request b').e ≠ 0 ∨ (P.request b').n = 0) := by rw [hq]; exact h1
        have hr' : request b' = framed b' (P.request b') (F.frame (P.request b').v (P.request b').fs 0) := if_neg h1'
        rw [hr', hq, hr]
        unfold framed
        rw [hbody]
end M
set_option maxRecDepth 100000 in
set_option maxHeartbeats 4000000 in
theorem inboxFirst_any (A : Option Addr) (n c : Nat) (bs : List UInt8) (B0 : Option Addr) (m0 d0 : Nat) (ms : List UInt8) (w : World) (hnm : bs.length ≤ 1048576) (hl : bs.length = n) (hnc : n ≤ c) (hx : Rd w A n 1 (bcells bs)) (hmm : ms.length ≤ 1048576) (hml : ms.length = m0) (hy : Rd w B0 m0 1 (bcells ms)) (ht : LibOk w) (he : ErrOk w) :
    Calls Tryz.prog 14 #[.slice A n c, .slice B0 m0 d0] w (RetB w true) := by
  subst hl
  subst hml
  have HA := Lib.hid (fun (u : World) (hb : Below w.heap.size w u) => inboxAlive_any u (ht.below hb) (he.below hb))
  have HCB := Lib.hid (fun (u : World) (hu : Below w.heap.size w u) => copyBytes_any A c bs u (by omega) (hx.below hu))
  have hwz : (0 : Nat) ≤ 0 := Nat.le_refl _
  rcases M.msg_ways bs with ⟨E, hq⟩ | ⟨hE, k, hk0, hkl, hN, hall⟩
  · have HQ := Lib.hid (fun (A1 : Option Addr) (c1 : Nat) (u0 u : World) (hu : Below w.heap.size w u) (hr : CRow u u0.heap.size A1 bs.length c1 bs) => show Calls Tryz.prog 37 #[.slice A1 bs.length c1] u (RetMsg u ⟨⟨#[]⟩, ⟨#[]⟩, 0, [], [], [], 0, E⟩) from by
      rw [← show M.request bs = ⟨⟨#[]⟩, ⟨#[]⟩, 0, [], [], [], 0, E⟩ from hq]
      exact inboxRequest_any A1 bs.length c1 bs u (by omega) hr.2.1 hr.nilE hr.spotE hr.rd (ht.below hu) (he.below hu))
    clear hx hy ht he hq hwz
    go_enter Tryz.func14, Tryz.ntmps14
    go_wp2_with fail
    refine (HA.out _ (Below.refl _ _)).mono ?_
    rintro e w1 ⟨rfl, hb1⟩
    have HB1 := Lib.hid hb1
    clear hb1 HA
    go_wp2_with fail
    refine (HCB.out _ HB1.out).mono ?_
    rintro e w2 ⟨A2, c2, rfl, hr2, hb2⟩
    have HB2 := Lib.hid (below_then HB1.out.size HB1.out hb2)
    have HR2 := Lib.hid hr2
    clear hb2 hr2 HB1 HCB
    go_wp2_with fail
    refine (HQ.out A2 c2 w1 _ HB2.out HR2.out).mono ?_
    rintro e w3 ⟨A3, a3, D3, d3, T3, t3, rfl, hr3, hd3, hf3, hb3⟩
    have HB4 := Lib.hid ((below_then HB2.out.size HB2.out hb3).alloc (by have := HB2.out.size; have := hb3.size; omega) (.cells #[.string ⟨#[]⟩, .string ⟨#[]⟩, .int .i64 0, .slice A3 0 a3, .int .i64 0, .string ⟨#[]⟩, .int .i64 0, .slice none 0 0, .slice D3 0 d3, .slice T3 0 t3] 57))
    have HX4 := Lib.hid (Blk.new w3 #[.string ⟨#[]⟩, .string ⟨#[]⟩, .int .i64 0, .slice A3 0 a3, .int .i64 0, .string ⟨#[]⟩, .int .i64 0, .slice none 0 0, .slice D3 0 d3, .slice T3 0 t3] 57)
    clear hb3 hr3 hd3 hf3 HB2 HR2 HQ
    obtain ⟨x0, x1, x2, x3, x4, x5, x6, x7, x8, x9⟩ := HX4.out.cells10
    by_cases hE : E = 0
    · subst hE
      go_wp2
      go_ret
      exact ⟨rfl, HB4.out⟩
    · have hEb : (E != 0) = true := by rw [bne_iff_ne]; exact hE
      go_wp2
      go_ret
      exact ⟨rfl, HB4.out⟩
  · have hq2 := hall (bs.take k) (by rw [List.take_take, Nat.min_self]) (by rw [List.length_take]; omega)
    have hq3 := hall (bs ++ ms) (by rw [List.take_append_of_le_length hkl]) (by rw [List.length_append]; omega)
    have hlk : (bs.take k).length = k := by rw [List.length_take]; omega
    have hlm : (bs ++ ms).length = bs.length + ms.length := List.length_append
    have hfl := M.request_len bs
    have HTK := Lib.hid (fun (u : World) (hu : Below w.heap.size w u) => show Calls Tryz.prog 24 #[.slice A k c] u (fun e w' => ∃ A' c', e = .returned (.slice A' k c') ∧ CRow w' u.heap.size A' k c' (bs.take k) ∧ Below u.heap.size u w') from by
      have := copyBytes_any A c (bs.take k) u (by omega) (by rw [hlk]; exact (hx.below hu).upto hkl)
      rw [hlk] at this
      refine this.mono ?_
      rintro e w' ⟨A', c', h1, h2, h3⟩
      rw [hlk] at h1 h2
      exact ⟨A', c', h1, h2, h3⟩)
    have HQ1 := Lib.hid (fun (A1 : Option Addr) (c1 : Nat) (u0 u : World) (hu : Below w.heap.size w u) (hr : CRow u u0.heap.size A1 bs.length c1 bs) => inboxRequest_any A1 bs.length c1 bs u (by omega) hr.2.1 hr.nilE hr.spotE hr.rd (ht.below hu) (he.below hu))
    have HQ2 := Lib.hid (fun (A1 : Option Addr) (c1 : Nat) (u0 u : World) (hu : Below w.heap.size w u) (hr : CRow u u0.heap.size A1 k c1 (bs.take k)) => inboxRequest_any A1 k c1 (bs.take k) u (by omega) hr.2.1 hr.nilE hr.spotE hr.rd (ht.below hu) (he.below hu))
    have HQ3 := Lib.hid (fun (A1 : Option Addr) (c1 : Nat) (u0 u : World) (hu : Below w.heap.size w u) (hr : CRow u u0.heap.size A1 (bs.length + ms.length) c1 (bs ++ ms)) => inboxRequest_any A1 (bs.length + ms.length) c1 (bs ++ ms) u (by omega) hr.2.1 hr.nilE hr.spotE hr.rd (ht.below hu) (he.below hu))
    have HY := Lib.hid (fun (u : World) (hu : Below w.heap.size w u) => hy.below hu)
    rw [hq2] at HQ2
    rw [hq3] at HQ3
    clear hx hy ht he hall hq2 hq3 hlk hlm
    obtain ⟨Q, hQ⟩ : ∃ Q, M.request bs = Q := ⟨_, rfl⟩
    rw [hQ] at HQ1 HQ2 HQ3 hfl hE hN
    obtain ⟨m, t, v, fs, d, f, N, E⟩ := Q
    replace hfl : fs.length ≤ bs.length ∧ d.length ≤ bs.length + 65536 ∧ f.length ≤ 100 := hfl
    obtain ⟨hf1, hf2, hf3⟩ := hfl
    obtain rfl : E = 0 := hE
    obtain rfl : N = (k : Int) := hN
    clear hQ
    have hki : ¬ (k : Int) = 0 := by omega
    have hkb : ((k : Int) == 0) = false := beq_eq_false_iff_ne.2 hki
    have hkli : ¬ (bs.length : Int) < (k : Int) := by omega
    have hkci : (k : Int) ≤ (c : Int) := by omega
    clear hwz
    go_enter Tryz.func14, Tryz.ntmps14
    go_wp2_with fail
    refine (HA.out _ (Below.refl _ _)).mono ?_
    rintro e w1 ⟨rfl, hb1⟩
    have HB1 := Lib.hid hb1
    clear hb1 HA
    go_wp2_with fail
    refine (HCB.out _ HB1.out).mono ?_
    rintro e w2 ⟨A2, c2, rfl, hr2, hb2⟩
    have HB2 := Lib.hid (below_then HB1.out.size HB1.out hb2)
    have HR2 := Lib.hid hr2
    clear hb2 hr2 HB1
    go_wp2_with fail
    refine (HQ1.out A2 c2 w1 _ HB2.out HR2.out).mono ?_
    rintro e w3 ⟨A3, a3, D3, d3, T3, t3, rfl, hr3, hd3, hf3, hb3⟩
    have HB4 := Lib.hid ((below_then HB2.out.size HB2.out hb3).alloc (by have := HB2.out.size; have := hb3.size; omega) (.cells #[.string m, .string t, .int .i64 v, .slice A3 fs.length a3, .int .i64 0, .string ⟨#[]⟩, .int .i64 0, .slice none 0 0, .slice D3 d.length d3, .slice T3 f.length t3] 57))
    have HX4 := Lib.hid (Blk.new w3 #[.string m, .string t, .int .i64 v, .slice A3 fs.length a3, .int .i64 0, .string ⟨#[]⟩, .int .i64 0, .slice none 0 0, .slice D3 d.length d3, .slice T3 f.length t3] 57)
    have HF4 := Lib.hid (hr3.rd.alloc (.cells #[.string m, .string t, .int .i64 v, .slice A3 fs.length a3, .int .i64 0, .string ⟨#[]⟩, .int .i64 0, .slice none 0 0, .slice D3 d.length d3, .slice T3 f.length t3] 57))
    have HD4 := Lib.hid (hd3.rd.alloc (.cells #[.string m, .string t, .int .i64 v, .slice A3 fs.length a3, .int .i64 0, .string ⟨#[]⟩, .int .i64 0, .slice none 0 0, .slice D3 d.length d3, .slice T3 f.length t3] 57))
    have HT4 := Lib.hid (hf3.rd.alloc (.cells #[.string m, .string t, .int .i64 v, .slice A3 fs.length a3, .int .i64 0, .string ⟨#[]⟩, .int .i64 0, .slice none 0 0, .slice D3 d.length d3, .slice T3 f.length t3] 57))
    clear hb3 hr3 hd3 hf3 HB2 HR2 HQ1
    go_upto_region 4 with fail
    generalize w3.alloc (.cells #[.string m, .string t, .int .i64 v, .slice A3 fs.length a3, .int .i64 0, .string ⟨#[]⟩, .int .i64 0, .slice none 0 0, .slice D3 d.length d3, .slice T3 f.length t3] 57) = w4 at *
    -- of its own bytes alone
    go_wp2_with fail
    refine (HTK.out _ HB4.out).mono ?_
    rintro e w5 ⟨A5, c5, rfl, hr5, hb5⟩
    have HB5 := Lib.hid (below_then HB4.out.size HB4.out hb5)
    have HX5 := Lib.hid (HX4.out.below hb5)
    have HF5 := Lib.hid (HF4.out.below hb5)
    have HD5 := Lib.hid (HD4.out.below hb5)
    have HT5 := Lib.hid (HT4.out.below hb5)
    have HR5 := Lib.hid hr5
    clear hb5 hr5 HB4 HX4 HF4 HD4 HT4 HTK
    go_wp2_with fail
    refine (HQ2.out A5 c5 w4 _ HB5.out HR5.out).mono ?_
    rintro e w6 ⟨A6, a6, D6, d6, T6, t6, rfl, hr6, hd6, hf6, hb6⟩
    have HB7 := Lib.hid ((below_then HB5.out.size HB5.out hb6).alloc (by have := HB5.out.size; have := hb6.size; omega) (.cells #[.string m, .string t, .int .i64 v, .slice A6 fs.length a6, .int .i64 0, .string ⟨#[]⟩, .int .i64 0, .slice none 0 0, .slice D6 d.length d6, .slice T6 f.length t6] 57))
    have HX7 := Lib.hid ((HX5.out.below hb6).alloc (.cells #[.string m, .string t, .int .i64 v, .slice A6 fs.length a6, .int .i64 0, .string ⟨#[]⟩, .int .i64 0, .slice none 0 0, .slice D6 d.length d6, .slice T6 f.length t6] 57))
    have HF7 := Lib.hid ((HF5.out.below hb6).alloc (.cells #[.string m, .string t, .int .i64 v, .slice A6 fs.length a6, .int .i64 0, .string ⟨#[]⟩, .int .i64 0, .slice none 0 0, .slice D6 d.length d6, .slice T6 f.length t6] 57))
    have HD7 := Lib.hid ((HD5.out.below hb6).alloc (.cells #[.string m, .string t, .int .i64 v, .slice A6 fs.length a6, .int .i64 0, .string ⟨#[]⟩, .int .i64 0, .slice none 0 0, .slice D6 d.length d6, .slice T6 f.length t6] 57))
    have HT7 := Lib.hid ((HT5.out.below hb6).alloc (.cells #[.string m, .string t, .int .i64 v, .slice A6 fs.length a6, .int .i64 0, .string ⟨#[]⟩, .int .i64 0, .slice none 0 0, .slice D6 d.length d6, .slice T6 f.length t6] 57))
    have HXB7 := Lib.hid (Blk.new w6 #[.string m, .string t, .int .i64 v, .slice A6 fs.length a6, .int .i64 0, .string ⟨#[]⟩, .int .i64 0, .slice none 0 0, .slice D6 d.length d6, .slice T6 f.length t6] 57)
    have HFB7 := Lib.hid (hr6.rd.alloc (.cells #[.string m, .string t, .int .i64 v, .slice A6 fs.length a6, .int .i64 0, .string ⟨#[]⟩, .int .i64 0, .slice none 0 0, .slice D6 d.length d6, .slice T6 f.length t6] 57))
    have HDB7 := Lib.hid (hd6.rd.alloc (.cells #[.string m, .string t, .int .i64 v, .slice A6 fs.length a6, .int .i64 0, .string ⟨#[]⟩, .int .i64 0, .slice none 0 0, .slice D6 d.length d6, .slice T6 f.length t6] 57))
    have HTB7 := Lib.hid (hf6.rd.alloc (.cells #[.string m, .string t, .int .i64 v, .slice A6 fs.length a6, .int .i64 0, .string ⟨#[]⟩, .int .i64 0, .slice none 0 0, .slice D6 d.length d6, .slice T6 f.length t6] 57))
    clear hb6 hr6 hd6 hf6 HB5 HX5 HF5 HD5 HT5 HR5 HQ2
    go_upto_region 9 with fail
    generalize w6.alloc (.cells #[.string m, .string t, .int .i64 v, .slice A6 fs.length a6, .int .i64 0, .string ⟨#[]⟩, .int .i64 0, .slice none 0 0, .slice D6 d.length d6, .slice T6 f.length t6] 57) = w7 at *
    -- with more behind
    go_wp2_with fail
    refine (HCB.out _ HB7.out).mono ?_
    rintro e w8 ⟨A8, c8, rfl, hr8, hb8⟩
    have hz8 := hb8.size
    have hz7 := HB7.out.size
    have HB8 := Lib.hid (below_then HB7.out.size HB7.out hb8)
    have HR8 := Lib.hid hr8
    have HC8 := Lib.hid hb8
    have HY8 := Lib.hid (HY.out _ HB8.out)
    clear hb8 hr8 HCB HY
    go_wp2_with (at_builtin; refine appC _ rfl (.tmp 58) (.tmp 59) rfl w7.heap.size A8 bs.length c8 bs rfl HR8.out B0 ms.length d0 ms rfl HY8.out (by omega) (by omega) ?_; intro A9 c9 w9 hr9 ha9; have HR9 := Lib.hid hr9; have HC9 := Lib.hid (HC8.out.trans (ha9.belowC HR8.out (by omega))); clear hr9 ha9 HR8 HC8 HY8 HB8)
    have HB9 := Lib.hid (below_then hz7 HB7.out HC9.out)
    have HX9 := Lib.hid (HX7.out.below HC9.out)
    have HF9 := Lib.hid (HF7.out.below HC9.out)
    have HD9 := Lib.hid (HD7.out.below HC9.out)
    have HT9 := Lib.hid (HT7.out.below HC9.out)
    have HXB9 := Lib.hid (HXB7.out.below HC9.out)
    have HFB9 := Lib.hid (HFB7.out.below HC9.out)
    have HDB9 := Lib.hid (HDB7.out.below HC9.out)
    have HTB9 := Lib.hid (HTB7.out.below HC9.out)
    clear HB7 HC9 hz7 hz8 HX7 HF7 HD7 HT7 HXB7 HFB7 HDB7 HTB7
    refine (HQ3.out A9 c9 w7 _ HB9.out HR9.out).mono ?_
    rintro e w10 ⟨A10, a10, D10, d10, T10, t10, rfl, hr10, hd10, hf10, hb10⟩
    have HB11 := Lib.hid ((below_then HB9.out.size HB9.out hb10).alloc (by have := HB9.out.size; have := hb10.size; omega) (.cells #[.string m, .string t, .int .i64 v, .slice A10 fs.length a10, .int .i64 0, .string ⟨#[]⟩, .int .i64 0, .slice none 0 0, .slice D10 d.length d10, .slice T10 f.length t10] 57))
    have HX11 := Lib.hid ((HX9.out.below hb10).alloc (.cells #[.string m, .string t, .int .i64 v, .slice A10 fs.length a10, .int .i64 0, .string ⟨#[]⟩, .int .i64 0, .slice none 0 0, .slice D10 d.length d10, .slice T10 f.length t10] 57))
    have HF11 := Lib.hid ((HF9.out.below hb10).alloc (.cells #[.string m, .string t, .int .i64 v, .slice A10 fs.length a10, .int .i64 0, .string ⟨#[]⟩, .int .i64 0, .slice none 0 0, .slice D10 d.length d10, .slice T10 f.length t10] 57))
    have HD11 := Lib.hid ((HD9.out.below hb10).alloc (.cells #[.string m, .string t, .int .i64 v, .slice A10 fs.length a10, .int .i64 0, .string ⟨#[]⟩, .int .i64 0, .slice none 0 0, .slice D10 d.length d10, .slice T10 f.length t10] 57))
    have HT11 := Lib.hid ((HT9.out.below hb10).alloc (.cells #[.string m, .string t, .int .i64 v, .slice A10 fs.length a10, .int .i64 0, .string ⟨#[]⟩, .int .i64 0, .slice none 0 0, .slice D10 d.length d10, .slice T10 f.length t10] 57))
    have HXB11 := Lib.hid ((HXB9.out.below hb10).alloc (.cells #[.string m, .string t, .int .i64 v, .slice A10 fs.length a10, .int .i64 0, .string ⟨#[]⟩, .int .i64 0, .slice none 0 0, .slice D10 d.length d10, .slice T10 f.length t10] 57))
    have HFB11 := Lib.hid ((HFB9.out.below hb10).alloc (.cells #[.string m, .string t, .int .i64 v, .slice A10 fs.length a10, .int .i64 0, .string ⟨#[]⟩, .int .i64 0, .slice none 0 0, .slice D10 d.length d10, .slice T10 f.length t10] 57))
    have HDB11 := Lib.hid ((HDB9.out.below hb10).alloc (.cells #[.string m, .string t, .int .i64 v, .slice A10 fs.length a10, .int .i64 0, .string ⟨#[]⟩, .int .i64 0, .slice none 0 0, .slice D10 d.length d10, .slice T10 f.length t10] 57))
    have HTB11 := Lib.hid ((HTB9.out.below hb10).alloc (.cells #[.string m, .string t, .int .i64 v, .slice A10 fs.length a10, .int .i64 0, .string ⟨#[]⟩, .int .i64 0, .slice none 0 0, .slice D10 d.length d10, .slice T10 f.length t10] 57))
    have HXC11 := Lib.hid (Blk.new w10 #[.string m, .string t, .int .i64 v, .slice A10 fs.length a10, .int .i64 0, .string ⟨#[]⟩, .int .i64 0, .slice none 0 0, .slice D10 d.length d10, .slice T10 f.length t10] 57)
    have HS1 := Lib.hid (fun (u : World) (hu : Below (w10.alloc (.cells #[.string m, .string t, .int .i64 v, .slice A10 fs.length a10, .int .i64 0, .string ⟨#[]⟩, .int .i64 0, .slice none 0 0, .slice D10 d.length d10, .slice T10 f.length t10] 57)).heap.size (w10.alloc (.cells #[.string m, .string t, .int .i64 v, .slice A10 fs.length a10, .int .i64 0, .string ⟨#[]⟩, .int .i64 0, .slice none 0 0, .slice D10 d.length d10, .slice T10 f.length t10] 57)) u) => sameMessage_any m t v fs 0 ⟨#[]⟩ 0 [] d f A6 A3 none none D6 D3 T6 T3 a6 a3 0 0 d6 d3 t6 t3 u (by omega) (by decide) (by omega) (by omega)
      (HFB11.out.below hu) (HF11.out.below hu) (Rd.nil _ _ _) (Rd.nil _ _ _) (HDB11.out.below hu) (HD11.out.below hu) (HTB11.out.below hu) (HT11.out.below hu))
    have HS2 := Lib.hid (fun (u : World) (hu : Below (w10.alloc (.cells #[.string m, .string t, .int .i64 v, .slice A10 fs.length a10, .int .i64 0, .string ⟨#[]⟩, .int .i64 0, .slice none 0 0, .slice D10 d.length d10, .slice T10 f.length t10] 57)).heap.size (w10.alloc (.cells #[.string m, .string t, .int .i64 v, .slice A10 fs.length a10, .int .i64 0, .string ⟨#[]⟩, .int .i64 0, .slice none 0 0, .slice D10 d.length d10, .slice T10 f.length t10] 57)) u) => sameMessage_any m t v fs 0 ⟨#[]⟩ 0 [] d f A10 A3 none none D10 D3 T10 T3 a10 a3 0 0 d10 d3 t10 t3 u (by omega) (by decide) (by omega) (by omega)
      ((hr10.rd.alloc (.cells #[.string m, .string t, .int .i64 v, .slice A10 fs.length a10, .int .i64 0, .string ⟨#[]⟩, .int .i64 0, .slice none 0 0, .slice D10 d.length d10, .slice T10 f.length t10] 57)).below hu) (HF11.out.below hu) (Rd.nil _ _ _) (Rd.nil _ _ _) ((hd10.rd.alloc (.cells #[.string m, .string t, .int .i64 v, .slice A10 fs.length a10, .int .i64 0, .string ⟨#[]⟩, .int .i64 0, .slice none 0 0, .slice D10 d.length d10, .slice T10 f.length t10] 57)).below hu) (HD11.out.below hu) ((hf10.rd.alloc (.cells #[.string m, .string t, .int .i64 v, .slice A10 fs.length a10, .int .i64 0, .string ⟨#[]⟩, .int .i64 0, .slice none 0 0, .slice D10 d.length d10, .slice T10 f.length t10] 57)).below hu) (HT11.out.below hu))
    clear hb10 hr10 hd10 hf10 HB9 HR9 HQ3 HX9 HF9 HD9 HT9 HXB9 HFB9 HDB9 HTB9 HF11 HD11 HT11 HFB11 HDB11 HTB11
    go_upto_region 12 with fail
    generalize w10.alloc (.cells #[.string m, .string t, .int .i64 v, .slice A10 fs.length a10, .int .i64 0, .string ⟨#[]⟩, .int .i64 0, .slice none 0 0, .slice D10 d.length d10, .slice T10 f.length t10] 57) = w11 at *
    obtain ⟨x0, x1, x2, x3, x4, x5, x6, x7, x8, x9⟩ := HX11.out.cells10
    obtain ⟨y0, y1, y2, y3, y4, y5, y6, y7, y8, y9⟩ := HXB11.out.cells10
    go_wp2_with fail
    clear x0 y0 x1 y1 x2 y2 x3 y3 x4 y4 x5 y5 x6 y6 x7 y7 x8 y8 x9 y9 HXB11
    refine (HS1.out _ (Below.refl _ _)).mono ?_
    rintro e w12 ⟨rfl, hb12⟩
    have HB12 := Lib.hid (below_then HB11.out.size HB11.out hb12)
    have HX12 := Lib.hid (HX11.out.below hb12)
    have HZ12 := Lib.hid (HXC11.out.below hb12)
    have HS3 := Lib.hid (HS2.out _ hb12)
    clear hb12 HB11 HX11 HXC11 HS1 HS2
    obtain ⟨x0, x1, x2, x3, x4, x5, x6, x7, x8, x9⟩ := HX12.out.cells10
    obtain ⟨y0, y1, y2, y3, y4, y5, y6, y7, y8, y9⟩ := HZ12.out.cells10
    go_wp2_with fail
    clear x0 y0 x1 y1 x2 y2 x3 y3 x4 y4 x5 y5 x6 y6 x7 y7 x8 y8 x9 y9 HX12 HZ12
    refine HS3.out.mono ?_
    rintro e w13 ⟨rfl, hb13⟩
    have HB13 := Lib.hid (below_then HB12.out.size HB12.out hb13)
    clear hb13 HB12 HS3
    go_wp2
    go_ret
    exact ⟨rfl, HB13.out⟩
end Go.Proofs.YtnmldbcgpfglkaaGreatDoor
