/- What head.Response computes, as a plain function; what is told of some bytes is told of them with more behind, and a head is told when its last byte has come. No program here. -/
import Derived.Test.YteehjkfmlcfffaaGreatDoorHead5
namespace Go.Proofs.YteehjkfmlcfffaaGreatDoor
namespace P
open T (Bs)
structure RS where
  s : Int
  r : ByteArray
  v : Int
  fs : List FD
  n : Int
  e : Int
def RS.bad (e : Int) : RS := ⟨0, ⟨#[]⟩, 0, [], 0, e⟩
def code3 (l : Bs) : Bool := decide (l.length = 3) && l.all dig
/-- A number's value by its decimal digits. -/
def stat (l : Bs) : Int := l.foldl (fun a c => a * 10 + ((c.toNat : Int) - 48)) 0
def respOf (line block : Bs) (n : Int) : RS :=
  if verE (methodOf line) = 50 ∨ code3 (methodOf (behind line)) = false ∨ F.text (B (behind (behind line))) = false then .bad 50
  else if verE (methodOf line) = 0 ∧ (stat (methodOf (behind line)) < 100 ∨ 599 < stat (methodOf (behind line))) then .bad 53
  else if verE (methodOf line) ≠ 0 then .bad (verE (methodOf line))
  else if (parse [] block).2 ≠ 0 then .bad (parse [] block).2
  else ⟨stat (methodOf (behind line)), B (behind (behind line)), verN (methodOf line), (parse [] block).1, n, 0⟩
def response (b : Bs) : RS := if hE b 0 ≠ 0 ∨ hN b 0 = 0 then .bad (hE b 0) else respOf (hLine b 0) (hBlock b 0) (hN b 0)

theorem upto_app (p : UInt8 → Bool) : ∀ (u : Bs) (x : UInt8) (r : Bs), (∀ y ∈ u, p y = false) → p x = true → upto p (u ++ x :: r) = u ∧ from_ p (u ++ x :: r) = x :: r
  | [], x, r, _, hx => by simp [upto, from_, hx]
  | y :: u, x, r, hu, hx => by
    have hy : p y = false := hu y (by simp)
    have := upto_app p u x r (fun z hz => hu z (by simp [hz])) hx
    unfold upto from_ at this ⊢
    simp only [List.cons_append, List.takeWhile_cons, List.dropWhile_cons, hy, Bool.not_false, if_true]
    exact ⟨by rw [this.1], this.2⟩
theorem occAt_iff {s sub : Bs} {j : Nat} : Lib.occAt s sub j = true ↔ sub = (s.take (j + sub.length)).drop j := by
  unfold Lib.occAt
  rw [List.isPrefixOf_iff_prefix, List.prefix_iff_eq_take, List.take_drop]
theorem occAt_take {xs ys sub : Bs} {j m : Nat} (h : ys.take m = xs.take m) (hj : j + sub.length ≤ m) : Lib.occAt ys sub j = Lib.occAt xs sub j := by
  have e : ys.take (j + sub.length) = xs.take (j + sub.length) := by
    have := congrArg (List.take (j + sub.length)) h
    rwa [List.take_take, List.take_take, Nat.min_eq_left hj] at this
  rw [Bool.eq_iff_iff, occAt_iff, occAt_iff, e]
theorem index_front {xs ys sub : Bs} {i m : Nat} (h : ys.take m = xs.take m) (hi : Lib.index xs sub = (i : Int)) (hm : i + sub.length ≤ m) (hy : m ≤ ys.length) : Lib.index ys sub = (i : Int) := by
  rcases Lib.index_spec xs sub with ⟨h1, _⟩ | ⟨k, h1, h2, h3, h4⟩
  · omega
  · obtain rfl : k = i := by omega
    refine Lib.index_hit (fun j hj => ?_) (by omega) ?_
    · rw [occAt_take h (by omega)]; exact h4 j hj
    · rw [occAt_take h hm]; exact h3
theorem drop_take_eq {xs ys : Bs} {m s : Nat} (h : ys.take m = xs.take m) : (ys.drop s).take (m - s) = (xs.drop s).take (m - s) := by
  rw [← List.drop_take, ← List.drop_take, h]
theorem skip_front : ∀ (k : Nat) (b b' : Bs) (m : Nat), b.length ≤ k → b'.take m = b.take m → skip b + 2 ≤ m → skip b' = skip b
  | k, b, b', m, hk, h, hm => by
    have hp : ([13, 10] : Bs).isPrefixOf b' = ([13, 10] : Bs).isPrefixOf b := by
      have := occAt_take (sub := [13, 10]) (j := 0) h (by show 0 + 2 ≤ m; omega)
      simpa [Lib.occAt] using this
    rcases tf (([13, 10] : Bs).isPrefixOf b) with hb | hb
    · rw [hb] at hp
      obtain ⟨h1, h2⟩ := skip_step hb
      obtain ⟨h3, _⟩ := skip_step hp
      cases k with
      | zero => omega
      | succ k =>
        rw [h1, h3, skip_front k (b.drop 2) (b'.drop 2) (m - 2) (by rw [List.length_drop]; omega) (drop_take_eq h) (by omega)]
    · rw [hb] at hp
      rw [skip_stop hb, skip_stop hp]
/-- Where the empty line is told from the bytes up to it. -/
theorem idx_front {b b' : Bs} {s i m : Nat} (h : b'.take m = b.take m) (hi : hIdx b s = (i : Int)) (hm : s + i + 4 ≤ m) (hb : m ≤ b'.length) : hIdx b' s = (i : Int) ∧ hText b' s = hText b s ∧ hE b' s = hE b s ∧ hN b' s = hN b s := by
  have h0 : hIdx b' s = (i : Int) := index_front (m := m - s) (drop_take_eq h) hi (by show i + 4 ≤ _; omega) (by rw [List.length_drop]; omega)
  refine ⟨h0, ?_, ?_, ?_⟩
  · unfold hText
    rw [h0, hi]
    have e := congrArg (List.take ((i : Int) + 2).toNat) (drop_take_eq (s := s) h)
    rwa [List.take_take, List.take_take, Nat.min_eq_left (by omega)] at e
  · unfold hE
    have hneg : ¬ (i : Int) < 0 := by omega
    rw [h0, hi, if_neg hneg, if_neg hneg]
  · unfold hN
    rw [h0, hi]
theorem hdr_front {b b' : Bs} {s i m : Nat} (h : b'.take m = b.take m) (hi : hIdx b s = (i : Int)) (hm : s + i + 4 ≤ m) (hb : m ≤ b'.length) : hE b' s = hE b s ∧ hN b' s = hN b s ∧ hLine b' s = hLine b s ∧ hBlock b' s = hBlock b s := by
  obtain ⟨_, h1, h2, h3⟩ := idx_front h hi hm hb
  refine ⟨h2, h3, ?_, ?_⟩
  · unfold hLine; rw [h1]
  · unfold hBlock; rw [h1]
theorem idx_cases (b : Bs) (s : Nat) : hIdx b s < 0 ∨ ∃ i : Nat, hIdx b s = (i : Int) ∧ s + i + 4 ≤ b.length := by
  rcases (by omega : hIdx b s < 0 ∨ 0 ≤ hIdx b s) with h | h
  · exact .inl h
  · obtain ⟨i, j, hi, hr, _⟩ := hText_facts b s h
    exact .inr ⟨i, hi, hr⟩
theorem take_app (b more : Bs) : (b ++ more).take b.length = b.take b.length := by simp
/-- Without an empty line, but as long as a head may be: an error, with more behind too. -/
theorem late (b more : Bs) (s s' : Nat) (hlen : 8192 ≤ b.length) (h : hIdx b s < 0) (hs : ∀ i : Nat, hIdx (b ++ more) s' = (i : Int) → s' + i + 4 ≤ b.length → s = s') : hE (b ++ more) s' = 51 := by
  unfold hE
  have hl : (b ++ more).length = b.length + more.length := List.length_append
  rcases idx_cases (b ++ more) s' with h1 | ⟨i, h1, h2⟩
  · rw [if_pos h1, if_neg (by omega)]
  · rw [h1, if_neg (by omega), if_pos]
    rcases (by omega : 8192 < (s' : Int) + (i : Int) + 4 ∨ s' + i + 4 ≤ 8192) with h3 | h3
    · exact h3
    · have := hs i h1 (by omega)
      subst this
      have := (idx_front (b := b ++ more) (b' := b) (m := b.length) (take_app b more).symm h1 (by omega) (Nat.le_refl _)).1
      omega

theorem request_front {b b' : Bs} {i m : Nat} (h : b'.take m = b.take m) (hi : hIdx b (skip b) = (i : Int)) (hm : skip b + i + 4 ≤ m) (hb : m ≤ b'.length) : request b' = request b := by
  have hs : skip b' = skip b := skip_front b.length b b' m (Nat.le_refl _) h (by omega)
  unfold request
  rw [hs]
  obtain ⟨h1, h2, h3, h4⟩ := hdr_front h hi hm hb
  rw [h1, h2, h3, h4]
theorem hE_no {b : Bs} {s : Nat} (h : hIdx b s < 0) : hE b s = if b.length < 8192 then 0 else 51 := if_pos h
theorem hN_no {b : Bs} {s : Nat} (h : hIdx b s < 0) : hN b s = 0 := if_pos (.inl h)
theorem request_no {b : Bs} (h : hIdx b (skip b) < 0) : request b = .bad (hE b (skip b)) := if_pos (.inr (hN_no h))
theorem response_no {b : Bs} (h : hIdx b 0 < 0) : response b = .bad (hE b 0) := if_pos (.inr (hN_no h))
theorem request_more (b more : Bs) (h : (request b).e ≠ 0 ∨ (request b).n ≠ 0) : request (b ++ more) = request b := by
  rcases idx_cases b (skip b) with h1 | ⟨i, h1, h2⟩
  · have hr := request_no h1
    rw [hE_no h1] at hr
    by_cases hl : b.length < 8192
    · rw [hr, if_pos hl] at h
      rcases h with h | h <;> exact absurd rfl h
    · rw [if_neg hl] at hr
      have he := late b more (skip b) (skip (b ++ more)) (by omega) h1 (fun i hi hle => skip_front (b ++ more).length (b ++ more) b b.length (Nat.le_refl _) (take_app b more).symm (by omega))
      rw [hr]
      unfold request
      rw [he, if_pos (.inl (by decide))]
  · exact request_front (take_app b more) h1 (by omega) (by rw [List.length_append]; omega)
theorem reqOf_n (line block : Bs) (n : Int) : (reqOf line block n).n = 0 ∨ (reqOf line block n).n = n := by
  unfold reqOf
  repeat' split
  all_goals first | exact .inl rfl | exact .inr rfl
theorem respOf_n (line block : Bs) (n : Int) : (respOf line block n).n = 0 ∨ (respOf line block n).n = n := by
  unfold respOf
  repeat' split
  all_goals first | exact .inl rfl | exact .inr rfl
theorem request_n {b : Bs} (h : (request b).n ≠ 0) : ∃ i : Nat, hIdx b (skip b) = (i : Int) ∧ skip b + i + 4 ≤ b.length ∧ (request b).n = ((skip b + i + 4 : Nat) : Int) := by
  rcases idx_cases b (skip b) with h1 | ⟨i, h1, h2⟩
  · rw [request_no h1] at h
    exact absurd rfl h
  · refine ⟨i, h1, h2, ?_⟩
    by_cases hc : hE b (skip b) ≠ 0 ∨ hN b (skip b) = 0
    · have hb : request b = .bad (hE b (skip b)) := if_pos hc
      rw [hb] at h
      exact absurd rfl h
    · have hb : request b = reqOf (hLine b (skip b)) (hBlock b (skip b)) (hN b (skip b)) := if_neg hc
      have hNN : hN b (skip b) = ((skip b + i + 4 : Nat) : Int) := by
        have h3 : ¬ hN b (skip b) = 0 := fun h => hc (.inr h)
        unfold hN at h3 ⊢
        split
        · rename_i h4
          rw [if_pos h4] at h3
          exact absurd rfl h3
        · rw [h1]; omega
      rw [hb] at h ⊢
      rcases reqOf_n (hLine b (skip b)) (hBlock b (skip b)) (hN b (skip b)) with h5 | h5
      · exact absurd h5 h
      · rw [h5, hNN]
theorem response_n {b : Bs} (h : (response b).n ≠ 0) : ∃ i : Nat, hIdx b 0 = (i : Int) ∧ 0 + i + 4 ≤ b.length ∧ (response b).n = ((i + 4 : Nat) : Int) := by
  rcases idx_cases b 0 with h1 | ⟨i, h1, h2⟩
  · rw [response_no h1] at h
    exact absurd rfl h
  · refine ⟨i, h1, h2, ?_⟩
    by_cases hc : hE b 0 ≠ 0 ∨ hN b 0 = 0
    · have hb : response b = .bad (hE b 0) := if_pos hc
      rw [hb] at h
      exact absurd rfl h
    · have hb : response b = respOf (hLine b 0) (hBlock b 0) (hN b 0) := if_neg hc
      have hNN : hN b 0 = ((i + 4 : Nat) : Int) := by
        have h3 : ¬ hN b 0 = 0 := fun h => hc (.inr h)
        unfold hN at h3 ⊢
        split
        · rename_i h4
          rw [if_pos h4] at h3
          exact absurd rfl h3
        · rw [h1]; omega
      rw [hb] at h ⊢
      rcases respOf_n (hLine b 0) (hBlock b 0) (hN b 0) with h5 | h5
      · exact absurd h5 h
      · rw [h5, hNN]
end P
end Go.Proofs.YteehjkfmlcfffaaGreatDoor
