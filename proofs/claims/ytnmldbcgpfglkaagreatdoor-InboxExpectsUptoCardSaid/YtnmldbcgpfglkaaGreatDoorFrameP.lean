/- How a message's body ends, as plain functions on its fields. No program here. -/
import Derived.Test.YtnmldbcgpfglkaaGreatDoorAtoi
import Derived.Test.YtnmldbcgpfglkaaGreatDoorFldA
namespace Go.Proofs.YtnmldbcgpfglkaaGreatDoor
namespace F
def teN : ByteArray := ⟨#[84, 114, 97, 110, 115, 102, 101, 114, 45, 69, 110, 99, 111, 100, 105, 110, 103]⟩
def teL : ByteArray := ⟨#[116, 114, 97, 110, 115, 102, 101, 114, 45, 101, 110, 99, 111, 100, 105, 110, 103]⟩
def clN : ByteArray := ⟨#[67, 111, 110, 116, 101, 110, 116, 45, 76, 101, 110, 103, 116, 104]⟩
def clL : ByteArray := ⟨#[99, 111, 110, 116, 101, 110, 116, 45, 108, 101, 110, 103, 116, 104]⟩
def chW : ByteArray := ⟨#[99, 104, 117, 110, 107, 101, 100]⟩
theorem te_values (fs : List FD) : values fs teL = values fs teN := values_fold (by decide) fs
theorem cl_values (fs : List FD) : values fs clL = values fs clN := values_fold (by decide) fs
theorem te_tokens (fs : List FD) : tokens fs teL = tokens fs teN := by rw [tokens_eq, tokens_eq, te_values]
/-- The number of one to 18 digits; -1: it is none. -/
def num (s : ByteArray) : Int := if s.size ≤ 18 then (match Lib.decNat (L s) with | some v => (v : Int) | none => -1) else -1
theorem num_ok {s : ByteArray} {v : Nat} (h : s.size ≤ 18) (h2 : Lib.decNat (L s) = some v) : num s = v := by
  unfold num
  rw [if_pos h, h2]
theorem num_long {s : ByteArray} (h : ¬ s.size ≤ 18) : num s = -1 := if_neg h
theorem num_none {s : ByteArray} (h : Lib.decNat (L s) = none) : num s = -1 := by
  unfold num
  rw [h]
  split <;> rfl
theorem num_cases (s : ByteArray) : num s = -1 ∨ (s.size ≤ 18 ∧ ∃ v : Nat, Lib.decNat (L s) = some v ∧ num s = v) := by
  by_cases h : s.size ≤ 18
  · cases h2 : Lib.decNat (L s) with
    | none => exact .inl (num_none h2)
    | some v => exact .inr ⟨h, v, rfl, num_ok h h2⟩
  · exact .inl (num_long h)
theorem dig_val (c : UInt8) : P.dig c = true ↔ ∃ d, Lib.digitVal c = some d := by
  unfold P.dig Lib.digitVal
  rw [Bool.and_eq_true, decide_eq_true_eq, decide_eq_true_eq]
  constructor
  · intro h; exact ⟨_, if_pos h⟩
  · rintro ⟨d, h⟩
    split at h
    · rename_i h1; exact h1
    · cases h
theorem dec_all : ∀ (l : List UInt8) (acc : Nat), (∃ v, Lib.decFrom acc l = some v) ↔ l.all P.dig = true
  | [], acc => ⟨fun _ => rfl, fun _ => ⟨acc, rfl⟩⟩
  | x :: r, acc => by
    rw [List.all_cons, Bool.and_eq_true, dig_val]
    simp only [Lib.decFrom]
    cases h : Lib.digitVal x with
    | none => simp
    | some d => simp only [dec_all r]; simp
theorem decNat_iff (l : List UInt8) : (∃ v, Lib.decNat l = some v) ↔ l ≠ [] ∧ l.all P.dig = true := by
  unfold Lib.decNat
  cases l with
  | nil => simp
  | cons x r =>
    simp only [List.isEmpty_cons, Bool.false_eq_true, if_false, ne_eq, reduceCtorEq, not_false_eq_true, true_and]
    exact dec_all _ 0
/-- Digits alone: no sign. -/
theorem atoi_dec {l : List UInt8} {v : Nat} (h : Lib.decNat l = some v) : Lib.atoi l = some (v : Int) := by
  obtain ⟨h0, h1⟩ := (decNat_iff l).1 ⟨v, h⟩
  cases l with
  | nil => exact absurd rfl h0
  | cons x r =>
    rw [List.all_cons, Bool.and_eq_true] at h1
    have hx := h1.1
    unfold P.dig at hx
    rw [Bool.and_eq_true, decide_eq_true_eq, decide_eq_true_eq] at hx
    have e1 : (x == 45) = false := by
      rw [beq_eq_false_iff_ne]
      rintro rfl
      exact absurd hx.1 (by decide)
    have e2 : (x == 43) = false := by
      rw [beq_eq_false_iff_ne]
      rintro rfl
      exact absurd hx.1 (by decide)
    unfold Lib.atoi
    simp only [e1, e2, h, Bool.false_eq_true, if_false, Option.map_some]
/-- All elements of all lengths. -/
def els (vs : List ByteArray) : List ByteArray := vs.flatMap list
theorem els_snoc (vs : List ByteArray) (k : Nat) (h : k < vs.length) : els (vs.take (k + 1)) = els (vs.take k) ++ list vs[k] := by
  unfold els
  rw [List.take_succ_eq_append_getElem h, List.flatMap_append]
  simp only [List.flatMap_cons, List.flatMap_nil, List.append_nil]
theorem els_take (vs : List ByteArray) (k : Nat) : (els (vs.take k)).length ≤ (els vs).length := by
  conv => rhs; rw [← List.take_append_drop k vs]
  unfold els
  rw [List.flatMap_append, List.length_append]
  omega
theorem els_split (vs : List ByteArray) (k : Nat) (h : k < vs.length) : ∃ r, els vs = els (vs.take k) ++ (list vs[k] ++ r) := by
  refine ⟨els (vs.drop (k + 1)), ?_⟩
  unfold els
  conv => lhs; rw [← List.take_append_drop k vs, List.drop_eq_getElem_cons h]
  rw [List.flatMap_append, List.flatMap_cons]
theorem els_sum : ∀ vs : List ByteArray, ∀ fs : List FD, ∀ name : ByteArray, vs = values fs name → (els vs).length ≤ bulk fs := by
  intro vs fs
  induction fs generalizing vs with
  | nil => rintro name rfl; exact Nat.zero_le _
  | cons f fs ih =>
    rintro name rfl
    have h1 := ih _ name rfl
    have hb : bulk (f :: fs) = f.1.size + f.2.size + 1 + bulk fs := by rfl
    unfold values at h1 ⊢
    rw [List.filter_cons, hb]
    split
    · rw [List.map_cons]
      unfold els at h1 ⊢
      rw [List.flatMap_cons, List.length_append]
      have := list_len f.2
      omega
    · omega
theorem els_len (fs : List FD) (name : ByteArray) : (els (values fs name)).length ≤ bulk fs := els_sum _ fs name rfl
theorem list_ne {s p : ByteArray} (h : p ∈ list s) : L p ≠ [] := by
  unfold list at h
  have := (List.mem_filter.1 h).2
  simpa using this
/-- What the elements tell: a number, or an error. -/
def lensB (l : List ByteArray) : Bool := l.any fun y => decide (num y < 0 ∨ num y ≠ num (l.headD ⟨#[]⟩))
def lens (l : List ByteArray) : Int × Int := if l = [] ∨ lensB l = true then (0, 60) else if 65536 < num (l.headD ⟨#[]⟩) then (0, 71) else (num (l.headD ⟨#[]⟩), 0)
def Seen (D : List ByteArray) (z : Int) : Prop := (D = [] ∧ z = -1) ∨ (D ≠ [] ∧ 0 ≤ z ∧ ∀ x ∈ D, num x = z)
theorem Seen.head {D r : List ByteArray} {z : Int} (h : Seen D z) (h0 : 0 ≤ z) : num ((D ++ r).headD ⟨#[]⟩) = z := by
  rcases h with ⟨rfl, h⟩ | ⟨h1, _, h2⟩
  · omega
  · cases D with
    | nil => exact absurd rfl h1
    | cons x t => exact h2 x (by simp)
theorem lens_bad {l : List ByteArray} {x : ByteArray} (hx : x ∈ l) (h : num x < 0 ∨ num x ≠ num (l.headD ⟨#[]⟩)) : lens l = (0, 60) := by
  have hb : lensB l = true := by
    unfold lensB
    rw [List.any_eq_true]
    exact ⟨x, hx, decide_eq_true h⟩
  exact if_pos (.inr hb)
theorem lens_neg {D r : List ByteArray} {x : ByteArray} (h : num x < 0) : lens (D ++ x :: r) = (0, 60) := lens_bad (x := x) (by simp) (.inl h)
theorem lens_diff {D r : List ByteArray} {x : ByteArray} {z : Int} (hs : Seen D z) (h0 : 0 ≤ z) (h : z ≠ num x) : lens (D ++ x :: r) = (0, 60) :=
  lens_bad (x := x) (by simp) (.inr (by rw [hs.head h0]; exact fun e => h e.symm))
theorem Seen.next {D : List ByteArray} {x : ByteArray} {z : Int} (hs : Seen D z) (h : 0 ≤ num x) (he : 0 ≤ z → z = num x) : Seen (D ++ [x]) (num x) := by
  refine .inr ⟨by simp, h, fun y hy => ?_⟩
  rcases List.mem_append.1 hy with hy | hy
  · rcases hs with ⟨rfl, _⟩ | ⟨_, h0, h2⟩
    · cases hy
    · rw [h2 y hy, he h0]
  · simp only [List.mem_cons, List.mem_nil_iff, or_false] at hy
    rw [hy]
theorem Seen.le {D : List ByteArray} {z : Int} (h : Seen D z) : -1 ≤ z := by
  rcases h with ⟨_, h⟩ | ⟨_, h, _⟩ <;> omega
theorem lens_done {l : List ByteArray} {z : Int} (h : Seen l z) : lens l = if z < 0 then (0, 60) else if 65536 < z then (0, 71) else (z, 0) := by
  rcases h with ⟨rfl, rfl⟩ | ⟨h1, h2, h3⟩
  · rfl
  · have hh : num (l.headD ⟨#[]⟩) = z := by
      have := Seen.head (r := []) (.inr ⟨h1, h2, h3⟩) h2
      rwa [List.append_nil] at this
    have hb : lensB l = false := by
      unfold lensB
      rw [← Bool.not_eq_true, List.any_eq_true]
      rintro ⟨y, hy, hd⟩
      have := of_decide_eq_true hd
      rw [h3 y hy, hh] at this
      omega
    unfold lens
    rw [if_neg (by rintro (h | h); exact h1 h; rw [hb] at h; cases h), hh, if_neg (show ¬ z < 0 by omega)]
theorem head_at {l : List ByteArray} (h : 0 < l.length) : l.headD ⟨#[]⟩ = l[0]'h := by
  cases l with
  | nil => exact absurd h (Nat.lt_irrefl _)
  | cons => rfl
theorem lens_all {l : List ByteArray} (h : 0 < l.length) (hg : ∀ t (ht : t < l.length), ¬ (num l[t] < 0 ∨ num l[t] ≠ num (l[0]'h))) : lens l = (if (65536 : Int) < num (l[0]'h) then ((0, 71) : Int × Int) else (num (l[0]'h), 0)) := by
  have hb : lensB l = false := by
    unfold lensB
    rw [← Bool.not_eq_true, List.any_eq_true]
    rintro ⟨y, hy, hd⟩
    obtain ⟨t, ht, rfl⟩ := List.mem_iff_getElem.1 hy
    have := of_decide_eq_true hd
    rw [head_at h] at this
    exact hg t ht this
  have h0 : l ≠ [] := fun e => by rw [e] at h; exact Nat.lt_irrefl _ h
  unfold lens
  rw [if_neg (by rintro (h | h); exact h0 h; rw [hb] at h; cases h), head_at h]
theorem num_lt (s : ByteArray) : num s < 1000000000000000000 := by
  rcases num_cases s with h | ⟨h, v, h2, h3⟩
  · omega
  · have := Lib.decFrom_lt (L s) 0 v (Lib.decNat_some h2).2
    have hp : (10 : Nat) ^ (L s).length ≤ 10 ^ 18 := Nat.pow_le_pow_right (by decide) (by rw [← L_size]; exact h)
    have e : (10 : Nat) ^ 18 = 1000000000000000000 := rfl
    omega
/-- The body's kind, its length, the error. -/
structure FR where
  k : Int
  n : Int
  e : Int
def frame (m : Int) (fs : List FD) (other : Int) : FR :=
  if values fs teN ≠ [] ∧ values fs clN ≠ [] then ⟨0, 0, 61⟩
  else if values fs teN ≠ [] then (if m = 0 ∨ tokens fs teN ≠ [chW] then ⟨0, 0, 62⟩ else ⟨2, 0, 0⟩)
  else if values fs clN = [] then ⟨other, 0, 0⟩
  else if (lens (els (values fs clN))).2 ≠ 0 then ⟨0, 0, (lens (els (values fs clN))).2⟩
  else ⟨1, (lens (els (values fs clN))).1, 0⟩
end F
end Go.Proofs.YtnmldbcgpfglkaaGreatDoor
