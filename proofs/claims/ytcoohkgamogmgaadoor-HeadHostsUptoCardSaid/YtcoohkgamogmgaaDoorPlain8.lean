/- What head.Request and fields.Parse compute, as plain functions on lists of bytes. No program here. -/
import Derived.Test.YtcoohkgamogmgaaDoorPlain6
import Derived.Lib.IndexMore
namespace Go.Proofs.YtcoohkgamogmgaaDoor

theorem B_size' (l : List UInt8) : (B l).size = l.length := by
  show l.toArray.size = l.length
  simp
namespace P
open T (Bs)
def crlf : Bs := [13, 10]
def crlf2 : Bs := [13, 10, 13, 10]
def eol (c : UInt8) : Bool := c == 13 || c == 10
def upto (p : UInt8 → Bool) (l : Bs) : Bs := l.takeWhile fun c => !p c
def from_ (p : UInt8 → Bool) (l : Bs) : Bs := l.dropWhile fun c => !p c
theorem upto_from (p : UInt8 → Bool) (l : Bs) : upto p l ++ from_ p l = l := List.takeWhile_append_dropWhile
theorem upto_len (p : UInt8 → Bool) (l : Bs) : (upto p l).length + (from_ p l).length = l.length := by
  have := congrArg List.length (upto_from p l)
  rwa [List.length_append] at this
/-- A line's name, value, error, field. -/
def nameOf (l : Bs) : Bs := upto (· == 58) l
def valOf (l : Bs) : Bs := T.trim ((from_ (· == 58) l).drop 1)
def oneE (l : Bs) : Int := if l.head? = some 32 ∨ l.head? = some 9 then 41 else if from_ (· == 58) l = [] ∨ T.token (nameOf l) = false ∨ F.good (B (valOf l)) = false then 40 else 0
def oneF (l : Bs) : FD := (B (nameOf l), B (valOf l))
theorem one_small (l : Bs) : (oneF l).1.size + (oneF l).2.size ≤ l.length := by
  have h1 := upto_len (· == 58) l
  have h2 := T.trim_len ((from_ (· == 58) l).drop 1)
  unfold oneF
  rw [B_size', B_size']
  unfold nameOf valOf
  rw [List.length_drop] at h2
  omega
/-- The fields of lines: what stands behind 'out', and the error. -/
def parse (out : List FD) (l : Bs) : List FD × Int :=
  if l = [] then (out, 0) else
  match _h : from_ eol l with
  | 13 :: 10 :: r => if oneE (upto eol l) ≠ 0 then ([], oneE (upto eol l)) else if out.length = 100 then ([], 42) else parse (out ++ [oneF (upto eol l)]) r
  | _ => ([], 40)
termination_by l.length
decreasing_by
  have h1 := upto_len eol l
  rw [_h] at h1
  simp only [List.length_cons] at h1
  omega
theorem upto_eq {p : UInt8 → Bool} {l : Bs} {k : Nat} (hk : k ≤ l.length) (hall : ∀ j (h : j < l.length), j < k → p l[j] = false) (hstop : ∀ h : k < l.length, p l[k] = true) : upto p l = l.take k ∧ from_ p l = l.drop k := by
  induction l generalizing k with
  | nil => simp [upto, from_]
  | cons x l ih =>
    cases k with
    | zero =>
      have hx : p x = true := hstop (by simp)
      simp [upto, from_, hx]
    | succ k =>
      have hx : p x = false := hall 0 (by simp) (by omega)
      have := ih (k := k) (by simpa using hk) (fun j h hj => by have := hall (j + 1) (by simpa using h) (by omega); simpa using this) (fun h => by have := hstop (by simpa using h); simpa using this)
      unfold upto from_ at this ⊢
      simp [hx, this.1, this.2]
theorem from_nil {p : UInt8 → Bool} {l : Bs} : from_ p l = [] ↔ ∀ x ∈ l, p x = false := by
  unfold from_
  induction l with
  | nil => simp
  | cons x l ih =>
    cases hx : p x
    · simp [hx, ih]
    · simp [hx]
theorem upto_all {p : UInt8 → Bool} {l : Bs} : ∀ x ∈ upto p l, p x = false := by
  unfold upto
  induction l with
  | nil => simp
  | cons x l ih =>
    cases hx : p x
    · simp only [List.takeWhile_cons, hx, Bool.not_false, if_true]
      intro y hy
      rcases List.mem_cons.1 hy with rfl | hy
      · exact hx
      · exact ih y hy
    · simp [hx]
theorem from_head {p : UInt8 → Bool} {l : Bs} {x : UInt8} {r : Bs} (h : from_ p l = x :: r) : p x = true := by
  have := List.head_dropWhile_not (fun c => !p c) (l := l) (by unfold from_ at h; rw [h]; simp)
  unfold from_ at h
  simp only [h, List.head_cons] at this
  simpa using this

theorem parse_nil (out : List FD) : parse out [] = (out, 0) := by
  rw [parse.eq_def, if_pos rfl]
theorem parse_bad {l : Bs} (out : List FD) (h0 : l ≠ []) (h : ∀ r, from_ eol l ≠ 13 :: 10 :: r) : parse out l = ([], 40) := by
  rw [parse.eq_def, if_neg h0]
  split
  · rename_i r hr
    exact absurd hr (h r)
  · rfl
theorem parse_step {l r : Bs} (out : List FD) (h0 : l ≠ []) (h : from_ eol l = 13 :: 10 :: r) : parse out l = if oneE (upto eol l) ≠ 0 then ([], oneE (upto eol l)) else if out.length = 100 then ([], 42) else parse (out ++ [oneF (upto eol l)]) r := by
  rw [parse.eq_def, if_neg h0]
  split
  · rename_i r' hr
    rw [h] at hr
    injection hr with _ hr
    injection hr with _ hr
    subst hr
    rfl
  · rename_i hr
    exact absurd h (hr r)
theorem parse_cases (l : Bs) : l = [] ∨ (l ≠ [] ∧ ∀ r, from_ eol l ≠ 13 :: 10 :: r) ∨ (l ≠ [] ∧ ∃ r, from_ eol l = 13 :: 10 :: r) := by
  by_cases h0 : l = []
  · exact .inl h0
  · by_cases h : ∃ r, from_ eol l = 13 :: 10 :: r
    · exact .inr (.inr ⟨h0, h⟩)
    · exact .inr (.inl ⟨h0, fun r hr => h ⟨r, hr⟩⟩)
theorem parse_facts : ∀ (k : Nat) (out : List FD) (l : Bs), l.length ≤ k → out.length ≤ 100 → F.bulk (parse out l).1 ≤ F.bulk out + l.length ∧ (parse out l).1.length ≤ 100 ∧ ((parse out l).2 ≠ 0 → (parse out l).1 = [])
  | k, out, l, hk, ho => by
    rcases parse_cases l with h | ⟨h0, h⟩ | ⟨h0, r, h⟩
    · subst h
      rw [parse_nil]
      exact ⟨Nat.le_add_right _ _, ho, fun h => absurd rfl h⟩
    · rw [parse_bad out h0 h]
      exact ⟨Nat.zero_le _, Nat.zero_le _, fun _ => rfl⟩
    · rw [parse_step out h0 h]
      have hl := upto_len eol l
      rw [h] at hl
      simp only [List.length_cons] at hl
      split
      · exact ⟨Nat.zero_le _, Nat.zero_le _, fun _ => rfl⟩
      · split
        · exact ⟨Nat.zero_le _, Nat.zero_le _, fun _ => rfl⟩
        · rename_i h100
          cases k with
          | zero => omega
          | succ k =>
            obtain ⟨g1, g2, g3⟩ := parse_facts k (out ++ [oneF (upto eol l)]) r (by omega) (by rw [List.length_append]; simp only [List.length_cons, List.length_nil]; omega)
            refine ⟨?_, g2, g3⟩
            rw [F.bulk_append] at g1
            simp only [F.bulk] at g1
            have := one_small (upto eol l)
            omega

/-! ### The head -/
def skip : Bs → Nat
  | 13 :: 10 :: r => skip r + 2
  | _ => 0
/-- Where the empty line is, from a place on; -1: nowhere. -/
def hIdx (b : Bs) (s : Nat) : Int := Lib.index (b.drop s) crlf2
def hE (b : Bs) (s : Nat) : Int := if hIdx b s < 0 then (if b.length < 8192 then 0 else 51) else if 8192 < s + hIdx b s + 4 then 51 else 0
def hN (b : Bs) (s : Nat) : Int := if hIdx b s < 0 ∨ 8192 < s + hIdx b s + 4 then 0 else s + hIdx b s + 4
def hText (b : Bs) (s : Nat) : Bs := (b.drop s).take (hIdx b s + 2).toNat
def hLine (b : Bs) (s : Nat) : Bs := (hText b s).take (Lib.index (hText b s) crlf).toNat
def hBlock (b : Bs) (s : Nat) : Bs := (hText b s).drop ((Lib.index (hText b s) crlf).toNat + 2)

def dig (c : UInt8) : Bool := decide (48 ≤ c.toNat) && decide (c.toNat ≤ 57)
def http10 : Bs := [72, 84, 84, 80, 47, 49, 46, 48]
def http11 : Bs := [72, 84, 84, 80, 47, 49, 46, 49]
def verShape (l : Bs) : Bool := decide (l.length = 8) && decide (l.take 5 = [72, 84, 84, 80, 47]) && dig (l.getD 5 0) && decide (l.getD 6 0 = 46) && dig (l.getD 7 0)
def verE (l : Bs) : Int := if verShape l = false then 50 else if l = http10 ∨ l = http11 then 0 else 52
def verN (l : Bs) : Int := if l = http11 then 1 else 0

structure RQ where
  m : ByteArray
  t : ByteArray
  v : Int
  fs : List FD
  n : Int
  e : Int
def RQ.bad (e : Int) : RQ := ⟨⟨#[]⟩, ⟨#[]⟩, 0, [], 0, e⟩
def sp (c : UInt8) : Bool := c == 32
def methodOf (l : Bs) : Bs := upto sp l
def behind (l : Bs) : Bs := (from_ sp l).drop 1
def hostsOf (fs : List FD) : Int := (F.values fs ⟨#[72, 111, 115, 116]⟩).length
def reqOf (line block : Bs) (n : Int) : RQ :=
  if T.token (methodOf line) = false ∨ F.visible (B (methodOf (behind line))) = false then .bad 50
  else if verE (behind (behind line)) ≠ 0 then .bad (verE (behind (behind line)))
  else if (parse [] block).2 ≠ 0 then .bad (parse [] block).2
  else if hostsOf (parse [] block).1 > 1 ∨ hostsOf (parse [] block).1 < verN (behind (behind line)) then .bad 40
  else ⟨B (methodOf line), B (methodOf (behind line)), verN (behind (behind line)), (parse [] block).1, n, 0⟩
def request (b : Bs) : RQ := if hE b (skip b) ≠ 0 ∨ hN b (skip b) = 0 then .bad (hE b (skip b)) else reqOf (hLine b (skip b)) (hBlock b (skip b)) (hN b (skip b))
end P
end Go.Proofs.YtcoohkgamogmgaaDoor
