/- What is told of a message is told of its own bytes alone, and of them with anything behind; the walk of the law InboxFirst (printed by gen/first.py). Conditions: rows of at most 2^20 bytes; the library's two tables of UTF-8; internal/bytealg.MaxLen; strconv's two error variables. -/
import Derived.Test.YteehjkfmlcfffaaGreatDoorMsgX
namespace Go.Proofs.YteehjkfmlcfffaaGreatDoor
open Go.RowKit

namespace M
theorem body_reach {bs : List UInt8} {N c : Nat} {k z : Int} (hz : 0 ≤ z) (hz1 : k ≠ 1 → z = 0) (hk : k = 0 ∨ k = 1 ∨ k = 2) (hn : (body bs N k z).n = (c : Int)) (hc : c ≠ 0) (hN : N ≤ bs.length) : N ≤ c ∧ c ≤ bs.length := by
  rcases hk with rfl | rfl | rfl
  · have h0 := hz1 (by decide)
    rw [body_none] at hn
    replace hn : (N : Int) + z = c := hn
    exact ⟨by omega, by omega⟩
  · by_cases hs : (bs.length : Int) < (N : Int) + z
    · rw [body_short hs] at hn
      exact absurd (show ((c : Nat) : Int) = 0 from hn.symm) (by omega)
    · rw [body_len hs] at hn
      replace hn : (N : Int) + z = c := hn
      exact ⟨by omega, by omega⟩
  · by_cases hb : (C.decode (bs.drop N)).e ≠ 0 ∨ (C.decode (bs.drop N)).n = 0
    · rw [body_cut hb] at hn
      exact absurd (show ((c : Nat) : Int) = 0 from hn.symm) (by omega)
    · rw [body_chunks hb] at hn
      replace hn : (N : Int) + ((C.decode (bs.drop N)).n : Int) = c := hn
      have h1 := (C.decode_cut (fun h => hb (.inr h))).1
      rw [List.length_drop] at h1
      exact ⟨by omega, by omega⟩
theorem body_front {bs b' : List UInt8} {N c : Nat} {k z : Int} (hz : 0 ≤ z) (hk : k = 0 ∨ k = 1 ∨ k = 2) (hn : (body bs N k z).n = (c : Int)) (hc : c ≠ 0) (ht : b'.take c = bs.take c) (hl : c ≤ b'.length) :
    body b' N k z = body bs N k z := by
  rcases hk with rfl | rfl | rfl
  · rfl
  · by_cases hs : (bs.length : Int) < (N : Int) + z
    · rw [body_short hs] at hn
      exact absurd (show ((c : Nat) : Int) = 0 from hn.symm) (by omega)
    · rw [body_len hs] at hn ⊢
      replace hn : (N : Int) + z = c := hn
      have hs' : ¬ (b'.length : Int) < (N : Int) + z := by omega
      rw [body_len hs']
      have e := P.drop_take_eq (s := N) ht
      have hzn : z.toNat = c - N := by omega
      rw [hzn, e]
  · by_cases hb : (C.decode (bs.drop N)).e ≠ 0 ∨ (C.decode (bs.drop N)).n = 0
    · rw [body_cut hb] at hn
      exact absurd (show ((c : Nat) : Int) = 0 from hn.symm) (by omega)
    · rw [body_chunks hb] at hn
      replace hn : (N : Int) + ((C.decode (bs.drop N)).n : Int) = c := hn
      obtain ⟨_, j, h1, h2, h3⟩ := C.dec_ok (bs.drop N).length [] 0 (bs.drop N) (Nat.le_refl _) (fun h => hb (.inr h))
      have h2' : (C.decode (bs.drop N)).n = j := by rw [show (C.decode (bs.drop N)).n = (C.dec [] 0 (bs.drop N)).n from rfl, h2]; omega
      rw [List.length_drop] at h1
      have hj : j = c - N := by omega
      have e : C.decode (b'.drop N) = C.decode (bs.drop N) := h3 (b'.drop N) (by rw [hj]; exact P.drop_take_eq (s := N) ht) (by rw [List.length_drop]; omega)
      have hb' : ¬ ((C.decode (b'.drop N)).e ≠ 0 ∨ (C.decode (b'.drop N)).n = 0) := by rw [e]; exact hb
      rw [body_chunks hb', body_chunks hb, e]
theorem whole_ways (q : P.RQ) (b : BD) : whole q b = .bad b.e ∨ (b.e = 0 ∧ b.n ≠ 0 ∧ whole q b = ⟨q.m, q.t, q.v, q.fs, b.d, b.f, b.n, 0⟩) := by
  unfold whole
  split
  · exact .inl rfl
  · rename_i h
    refine .inr ⟨?_, fun hn => h (.inr hn), rfl⟩
    by_cases he : b.e = 0
    · exact he
    · exact absurd (.inl he) h
/-- The ways that a message's reading ends: it is told of no byte behind it. -/
theorem msg_ways (bs : List UInt8) : (∃ e, request bs = .bad e) ∨ ((request bs).e = 0 ∧ ∃ k : Nat, 0 < k ∧ k ≤ bs.length ∧ (request bs).n = (k : Int) ∧ ∀ b' : List UInt8, b'.take k = bs.take k → k ≤ b'.length → request b' = request bs) := by
  by_cases h1 : (P.request bs).e ≠ 0 ∨ (P.request bs).n = 0
  · exact .inl ⟨_, if_pos h1⟩
  · obtain ⟨i, hi, hle, hn⟩ := P.request_n (fun h => h1 (.inr h))
    have hr : request bs = framed bs (P.request bs) (F.frame (P.request bs).v (P.request bs).fs 0) := if_neg h1
    by_cases h2 : (F.frame (P.request bs).v (P.request bs).fs 0).e ≠ 0
    · exact .inl ⟨_, hr.trans (if_pos h2)⟩
    · have hkd := P.frame_kinds (P.request bs).v (P.request bs).fs
      have hkr := F.frame_range (P.request bs).v (P.request bs).fs 0
      have hr2 : request bs = whole (P.request bs) (body bs (P.request bs).n.toNat (F.frame (P.request bs).v (P.request bs).fs 0).k (F.frame (P.request bs).v (P.request bs).fs 0).n) := hr.trans (if_neg h2)
      have hN : (P.request bs).n.toNat = P.skip bs + i + 4 := by omega
      rcases whole_ways (P.request bs) (body bs (P.request bs).n.toNat (F.frame (P.request bs).v (P.request bs).fs 0).k (F.frame (P.request bs).v (P.request bs).fs 0).n) with h3 | ⟨_, h4, h5⟩
      · exact .inl ⟨_, hr2.trans h3⟩
      · have hbn : 0 ≤ (body bs (P.request bs).n.toNat (F.frame (P.request bs).v (P.request bs).fs 0).k (F.frame (P.request bs).v (P.request bs).fs 0).n).n := by
          have := hkr.1
          unfold body
          repeat' split
          all_goals first | exact Int.le_refl 0 | (show 0 ≤ ((P.request bs).n.toNat : Int) + _; omega)
        obtain ⟨c, hc⟩ : ∃ c : Nat, (body bs (P.request bs).n.toNat (F.frame (P.request bs).v (P.request bs).fs 0).k (F.frame (P.request bs).v (P.request bs).fs 0).n).n = (c : Int) := ⟨_, (Int.toNat_of_nonneg hbn).symm⟩
        have hc0 : c ≠ 0 := fun h => h4 (by rw [hc, h]; rfl)
        have hNle : (P.request bs).n.toNat ≤ bs.length := by omega
        have hbf := fun (b' : List UInt8) (ht : b'.take c = bs.take c) (hl : c ≤ b'.length) => body_front hkr.1 hkd hc hc0 ht hl
        obtain ⟨hNc, hcl⟩ := body_reach (bs := bs) (N := (P.request bs).n.toNat) hkr.1 hkr.2.2 hkd hc hc0 hNle
        refine .inr ⟨by rw [hr2, h5], c, by omega, hcl, by rw [hr2, h5]; exact hc, fun b' ht hl => ?_⟩
        have hbody := hbf b' ht hl
        have hq : P.request b' = P.request bs := P.request_front (m := P.skip bs + i + 4) (C.take_front ht (by omega)) hi (Nat.le_refl _) (by omega)
        have h1' : ¬ ((P.request b').e ≠ 0 ∨ (P.request b').n = 0) := by rw [hq]; exact h1
        have hr' : request b' = framed b' (P.request b') (F.frame (P.request b').v (P.request b').fs 0) := if_neg h1'
        rw [hr', hq, hr]
        unfold framed
        rw [hbody]
end M
end Go.Proofs.YteehjkfmlcfffaaGreatDoor
