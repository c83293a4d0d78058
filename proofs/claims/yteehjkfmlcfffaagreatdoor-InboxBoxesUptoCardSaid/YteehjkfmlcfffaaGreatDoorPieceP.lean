/- What a box of messages tells, however its bytes come. No program here. -/
import Derived.Test.YteehjkfmlcfffaaGreatDoorFirst
namespace Go.Proofs.YteehjkfmlcfffaaGreatDoor

namespace M
theorem body_more {bs more : List UInt8} {N : Nat} {k z : Int} (hN : N ≤ bs.length) (hk : k = 0 ∨ k = 1 ∨ k = 2) (h : (body bs N k z).e ≠ 0 ∨ (body bs N k z).n ≠ 0) : body (bs ++ more) N k z = body bs N k z := by
  have e0 : (bs ++ more).drop N = bs.drop N ++ more := List.drop_append_of_le_length hN
  rcases hk with rfl | rfl | rfl
  · rfl
  · by_cases hs : (bs.length : Int) < (N : Int) + z
    · rw [body_short hs] at h
      rcases h with h | h <;> exact absurd rfl h
    · rw [body_len hs, body_len (by rw [List.length_append]; omega), e0, List.take_append_of_le_length (by rw [List.length_drop]; omega)]
  · by_cases hb : (C.decode (bs.drop N)).e ≠ 0 ∨ (C.decode (bs.drop N)).n = 0
    · by_cases he : (C.decode (bs.drop N)).e ≠ 0
      · have e1 : C.decode ((bs ++ more).drop N) = C.decode (bs.drop N) := by rw [e0]; exact C.decode_more _ _ (.inl he)
        rw [body_cut hb, body_cut (by rw [e1]; exact hb), e1]
      · rw [body_cut hb] at h
        rcases h with h | h
        · exact absurd h he
        · exact absurd rfl h
    · have e1 : C.decode ((bs ++ more).drop N) = C.decode (bs.drop N) := by rw [e0]; exact C.decode_more _ _ (.inr (fun h => hb (.inr h)))
      rw [body_chunks hb, body_chunks (by rw [e1]; exact hb), e1]
theorem whole_told {q : P.RQ} {b : BD} (h : (whole q b).e ≠ 0 ∨ (whole q b).n ≠ 0) : b.e ≠ 0 ∨ b.n ≠ 0 := by
  by_cases hb : b.e ≠ 0
  · exact .inl hb
  · refine .inr fun hn => ?_
    unfold whole at h
    rw [if_pos (.inr hn)] at h
    rcases h with h | h
    · exact hb h
    · exact h rfl
/-- What is told of some bytes is told of them with more behind. -/
theorem request_more (b more : List UInt8) (h : (request b).e ≠ 0 ∨ (request b).n ≠ 0) : request (b ++ more) = request b := by
  by_cases h1 : (P.request b).e ≠ 0 ∨ (P.request b).n = 0
  · have e1 : request b = .bad (P.request b).e := if_pos h1
    have he : (P.request b).e ≠ 0 := by
      rw [e1] at h
      rcases h with h | h
      · exact h
      · exact absurd rfl h
    rw [e1]
    unfold request
    rw [P.request_more b more (.inl he)]
    exact if_pos h1
  · have hq := P.request_more b more (.inr (fun e => h1 (.inr e)))
    have hr : request b = framed b (P.request b) (F.frame (P.request b).v (P.request b).fs 0) := if_neg h1
    have hr' : request (b ++ more) = framed (b ++ more) (P.request b) (F.frame (P.request b).v (P.request b).fs 0) := by
      unfold request
      rw [hq]
      exact if_neg h1
    rw [hr']
    rw [hr] at h ⊢
    unfold framed at h ⊢
    by_cases hf : (F.frame (P.request b).v (P.request b).fs 0).e ≠ 0
    · rw [if_pos hf, if_pos hf]
    · rw [if_neg hf] at h
      rw [if_neg hf, if_neg hf]
      obtain ⟨i, _, h3, h4⟩ := P.request_n (fun e => h1 (.inr e))
      rw [body_more (by omega) (P.frame_kinds _ _) (whole_told h)]
/-- What Next tells, and what the box is behind it. -/
structure NX where
  q : MQ
  ok : Bool
  e : Int
  h : List UInt8
  bad : Int
def next (held : List UInt8) (bad : Int) : NX :=
  if bad ≠ 0 then ⟨.bad 0, false, bad, held, bad⟩
  else if (request held).e ≠ 0 then ⟨.bad 0, false, (request held).e, held, (request held).e⟩
  else if (request held).n = 0 then ⟨.bad 0, false, 0, held, 0⟩
  else ⟨request held, true, 0, held.drop (request held).n.toNat, 0⟩
/-- The box and the bytes that are still to be read: either these are what is held and what is to come, or their message is told bad. -/
def Stands (held : List UInt8) (bad : Int) (R T : List UInt8) : Prop := (bad = 0 ∧ R = held ++ T) ∨ (bad ≠ 0 ∧ request R = .bad bad)
theorem Stands.feed {held p R T : List UInt8} {bad : Int} (h : Stands held bad R (p ++ T)) : Stands (if bad = 0 then held ++ p else held) bad R T := by
  rcases h with ⟨h1, h2⟩ | ⟨h1, h2⟩
  · rw [if_pos h1]
    exact .inl ⟨h1, by rw [h2, List.append_assoc]⟩
  · rw [if_neg h1]
    exact .inr ⟨h1, h2⟩
/-- The ways of Next. -/
theorem next_ways {held R T : List UInt8} {bad : Int} (h : Stands held bad R T) :
    (∃ held' bad', next held bad = ⟨.bad 0, false, bad', held', bad'⟩ ∧ held'.length ≤ held.length ∧ Stands held' bad' R T ∧ (bad' = 0 → request held' = .bad 0)) ∨
    (∃ k : Nat, 0 < k ∧ k ≤ held.length ∧ k ≤ R.length ∧ bad = 0 ∧ next held bad = ⟨request held, true, 0, held.drop k, 0⟩ ∧ request R = request held ∧ (request held).n = (k : Int) ∧ (request held).e = 0 ∧ Stands (held.drop k) 0 (R.drop k) T) := by
  rcases h with ⟨h1, h2⟩ | ⟨h1, h2⟩
  · subst h1
    have hmore := request_more held T
    rw [← h2] at hmore
    have hnx : next held 0 = if (request held).e ≠ 0 then ⟨.bad 0, false, (request held).e, held, (request held).e⟩ else if (request held).n = 0 then ⟨.bad 0, false, 0, held, 0⟩ else ⟨request held, true, 0, held.drop (request held).n.toNat, 0⟩ := if_neg (fun h => h rfl)
    rcases msg_ways held with ⟨E, hq⟩ | ⟨hE, k, hk0, hkl, hN, _⟩
    · left
      by_cases hE : E = 0
      · subst hE
        refine ⟨held, 0, ?_, Nat.le_refl _, .inl ⟨rfl, h2⟩, fun _ => hq⟩
        rw [hnx, hq]
        rfl
      · refine ⟨held, E, ?_, Nat.le_refl _, .inr ⟨hE, ?_⟩, fun e => absurd e hE⟩
        · rw [hnx, hq, if_pos (show (MQ.bad E).e ≠ 0 from hE)]
          rfl
        · rw [hmore (.inl (by rw [hq]; exact hE)), hq]
    · right
      have hn0 : (request held).n ≠ 0 := by omega
      refine ⟨k, hk0, hkl, by rw [h2, List.length_append]; omega, rfl, ?_, hmore (.inr hn0), hN, hE, .inl ⟨rfl, ?_⟩⟩
      · rw [hnx, if_neg (by omega), if_neg hn0, hN, Int.toNat_natCast]
      · rw [h2, List.drop_append_of_le_length hkl]
  · left
    exact ⟨held, bad, if_pos h1, Nat.le_refl _, .inr ⟨h1, h2⟩, fun e => absurd e h1⟩
theorem Stands.done {held R : List UInt8} {bad : Int} (h : Stands held bad R []) (h0 : bad = 0 → request held = .bad 0) : request R = .bad bad ∧ next held bad = ⟨.bad 0, false, bad, held, bad⟩ ∧ (bad = 0 → R = held) := by
  rcases h with ⟨h1, h2⟩ | ⟨h1, h2⟩
  · subst h1
    rw [List.append_nil] at h2
    subst h2
    refine ⟨h0 rfl, ?_, fun _ => rfl⟩
    unfold next
    rw [h0 rfl]
    rfl
  · exact ⟨h2, if_pos h1, fun e => absurd e h1⟩
end M
end Go.Proofs.YteehjkfmlcfffaaGreatDoor
