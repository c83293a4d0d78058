/- What Get and Via compute; bounds by the bulk of the fields. No program here. What is stripped is stripped again as it is; a Via that was put is got. No program here. What is sent to an origin: its fields, and that they are clean. No program here. What head.PrintRequest, PrintResponse and fields.Print compute. No program here. What Bytes answers, in plain Lean. What head.Request and fields.Parse compute, as plain functions on lists of bytes. No program here. -/
import Derived.Test.YtkempjcphpnocaaGreatDoorZ16
import Derived.Test.YtkempjcphpnocaaGreatDoorLib
import Derived.Lib.Join
import Derived.Lib.ItoaNum
import Derived.Lib.ItoaLen
import Derived.Lib.IndexMore
namespace Go.Proofs.YtkempjcphpnocaaGreatDoor
open Go
namespace F
def sep : List UInt8 := [44, 32]
/-- The values, put together. -/
def glue (vs : List ByteArray) : List UInt8 := Lib.join (vs.map L) sep
def joined (fs : List FD) (name : ByteArray) : ByteArray := B (glue (values fs name))
def has (fs : List FD) (name : ByteArray) : Bool := !(values fs name).isEmpty
def via3 : ByteArray := ⟨#[86, 105, 97]⟩
/-- The value of Via with one more. -/
def viaOf (fs : List FD) (minor : Int) (name : ByteArray) : ByteArray :=
  (if has fs via3 then joined fs via3 ++ ⟨#[44, 32]⟩ else joined fs via3) ++ ⟨#[49, 46]⟩ ++ B (Lib.itoa minor) ++ ⟨#[32]⟩ ++ name
end F
end Go.Proofs.YtkempjcphpnocaaGreatDoor


namespace Go.Proofs.YtkempjcphpnocaaGreatDoor
open Go
namespace F
def hostN : ByteArray := ⟨#[72, 111, 115, 116]⟩
def expectN : ByteArray := ⟨#[69, 120, 112, 101, 99, 116]⟩
def clenN : ByteArray := ⟨#[67, 111, 110, 116, 101, 110, 116, 45, 76, 101, 110, 103, 116, 104]⟩
def three : List ByteArray := [hostN, expectN, clenN]
def four : List ByteArray := [⟨#[104, 111, 115, 116]⟩, ⟨#[101, 120, 112, 101, 99, 116]⟩, ⟨#[99, 111, 110, 116, 101, 110, 116, 45, 108, 101, 110, 103, 116, 104]⟩, ⟨#[118, 105, 97]⟩]
/-- The value of Host. -/
def hostOf (host : ByteArray) (port : Int) : ByteArray := if port = 80 then host else host ++ (⟨#[58]⟩ ++ B (Lib.itoa port))
/-- The fields of a request that is sent on. -/
def sent (fs : List FD) (m : Int) (via host : ByteArray) (port : Int) : List FD :=
  put ((hostN, hostOf host port) :: without (strip fs) three) via3 (viaOf fs m via)

/-- The ten names of which nothing is sent. -/
def ten : List ByteArray := [⟨#[67, 111, 110, 110, 101, 99, 116, 105, 111, 110]⟩, ⟨#[75, 101, 101, 112, 45, 65, 108, 105, 118, 101]⟩, ⟨#[80, 114, 111, 120, 121, 45, 67, 111, 110, 110, 101, 99, 116, 105, 111, 110]⟩, ⟨#[80, 114, 111, 120, 121, 45, 65, 117, 116, 104, 111, 114, 105, 122, 97, 116, 105, 111, 110]⟩, ⟨#[84, 69]⟩, ⟨#[84, 114, 97, 105, 108, 101, 114]⟩, ⟨#[84, 114, 97, 110, 115, 102, 101, 114, 45, 69, 110, 99, 111, 100, 105, 110, 103]⟩, ⟨#[85, 112, 103, 114, 97, 100, 101]⟩, clenN, expectN]
end F
end Go.Proofs.YtkempjcphpnocaaGreatDoor

namespace Go.Proofs.YtkempjcphpnocaaGreatDoor
open Go
namespace F
def good (v : ByteArray) : Bool := (L v).all T.textB && decide (T.trim (L v) = L v)
def okF (f : FD) : Bool := T.token (L f.1) && good f.2
def line (f : FD) : List UInt8 := L f.1 ++ [58, 32] ++ L f.2 ++ [13, 10]
def lines (fs : List FD) : List UInt8 := fs.flatMap line
def visB (c : UInt8) : Bool := decide (33 ≤ c.toNat) && decide (c.toNat ≤ 126)
def visible (s : ByteArray) : Bool := (L s).all visB && !(L s).isEmpty
def text (s : ByteArray) : Bool := (L s).all T.textB
/-- The error of Print. -/
def printE (fs : List FD) : Int := if fs.all okF then (if 100 < fs.length then 42 else 0) else 40
def printB (fs : List FD) : List UInt8 := if printE fs = 0 then lines fs else []
/-- The error and the bytes of a head with that first line. -/
def wholeE (l : List UInt8) (fs : List FD) : Int := if printE fs = 0 then (if 8192 < l.length + (lines fs).length + 4 then 51 else 0) else printE fs
def wholeB (l : List UInt8) (fs : List FD) : List UInt8 := if wholeE l fs = 0 then l ++ [13, 10] ++ lines fs ++ [13, 10] else []
def respLine (s : Int) (r : ByteArray) (n : Int) : List UInt8 := [72, 84, 84, 80, 47, 49, 46] ++ Lib.itoa n ++ [32] ++ Lib.itoa s ++ [32] ++ L r
def respE (s : Int) (r : ByteArray) (n : Int) (fs : List FD) : Int := if n < 0 ∨ 1 < n ∨ text r = false then 50 else if s < 100 ∨ 599 < s then 53 else wholeE (respLine s r n) fs
def respB (s : Int) (r : ByteArray) (n : Int) (fs : List FD) : List UInt8 := if respE s r n fs = 0 then wholeB (respLine s r n) fs else []

theorem lines_snoc (fs : List FD) (k : Nat) (h : k < fs.length) : lines (fs.take (k + 1)) = lines (fs.take k) ++ line fs[k] := by
  unfold lines
  rw [List.take_succ_eq_append_getElem h, List.flatMap_append]
  simp
theorem line_len (f : FD) : (line f).length = f.1.size + f.2.size + 4 := by
  unfold line
  simp only [List.length_append, List.length_cons, List.length_nil, L_size]
  omega
theorem lines_len : ∀ fs : List FD, (lines fs).length ≤ 4 * bulk fs
  | [] => Nat.le_refl _
  | f :: l => by
    have := lines_len l
    have h := line_len f
    unfold lines at this ⊢
    rw [List.flatMap_cons, List.length_append, h]
    simp only [bulk]
    omega
theorem lines_take (fs : List FD) (k : Nat) : (lines (fs.take k)).length ≤ (lines fs).length := by
  conv => rhs; rw [← List.take_append_drop k fs]
  unfold lines
  rw [List.flatMap_append, List.length_append]
  omega
theorem all_take_succ (p : FD → Bool) (fs : List FD) (k : Nat) (h : k < fs.length) : (fs.take (k + 1)).all p = ((fs.take k).all p && p fs[k]) := by
  rw [List.take_succ_eq_append_getElem h, List.all_append]
  simp
theorem all_false_at (p : FD → Bool) (fs : List FD) (k : Nat) (h : k < fs.length) (hp : p fs[k] = false) : fs.all p = false := by
  rw [List.all_eq_false]
  exact ⟨_, List.getElem_mem h, by simp [hp]⟩
theorem printE_bad {fs : List FD} (h : fs.all okF = false) : printE fs = 40 := by unfold printE; simp [h]
theorem printE_many {fs : List FD} (h : fs.all okF = true) (h2 : 100 < fs.length) : printE fs = 42 := by unfold printE; simp [h, h2]
theorem printE_ok {fs : List FD} (h : fs.all okF = true) (h2 : ¬ 100 < fs.length) : printE fs = 0 := by unfold printE; simp [h, h2]
theorem printB_ok {fs : List FD} (h : printE fs = 0) : printB fs = lines fs := if_pos h
theorem printB_bad {fs : List FD} (h : printE fs ≠ 0) : printB fs = [] := if_neg h
theorem printE_cases (fs : List FD) : printE fs = 0 ∨ printE fs = 40 ∨ printE fs = 42 := by
  unfold printE
  split <;> (try split) <;> simp
theorem wholeB_len (l : List UInt8) (fs : List FD) : (wholeB l fs).length ≤ 8192 := by
  unfold wholeB
  split
  · rename_i h
    unfold wholeE at h
    split at h
    · split at h
      · cases h
      · simp only [List.length_append, List.length_cons, List.length_nil]; omega
    · rename_i h2
      exact absurd h h2
  · simp
end F
end Go.Proofs.YtkempjcphpnocaaGreatDoor

namespace Go.Proofs.YtkempjcphpnocaaGreatDoor

namespace F
def connN : ByteArray := ⟨#[67, 111, 110, 110, 101, 99, 116, 105, 111, 110]⟩
/-- 'Connection' and 'Transfer-Encoding'; the same in small letters. -/
def two : List ByteArray := [connN, ⟨#[84, 114, 97, 110, 115, 102, 101, 114, 45, 69, 110, 99, 111, 100, 105, 110, 103]⟩]
end F
theorem respB_len (s : Int) (r : ByteArray) (m : Int) (fs : List FD) : (F.respB s r m fs).length ≤ 8192 := by
  unfold F.respB
  split
  · exact F.wholeB_len _ _
  · simp
end Go.Proofs.YtkempjcphpnocaaGreatDoor

namespace Go.Proofs.YtkempjcphpnocaaGreatDoor

theorem B_size' (l : List UInt8) : (B l).size = l.length := by
  show l.toArray.size = l.length
  simp
namespace P
open T (Bs)
def crlf : Bs := [13, 10]
def crlf2 : Bs := [13, 10, 13, 10]
def eol (c : UInt8) : Bool := c == 13 || c == 10
def upto (p : UInt8 → Bool) (l : Bs) : Bs := l.takeWhile fun c => !p c
def from_ (p : UInt8 → Bool) (l : Bs) : Bs := l.dropWhile fun c => !p c
theorem upto_from (p : UInt8 → Bool) (l : Bs) : upto p l ++ from_ p l = l := List.takeWhile_append_dropWhile
theorem upto_len (p : UInt8 → Bool) (l : Bs) : (upto p l).length + (from_ p l).length = l.length := by
  have := congrArg List.length (upto_from p l)
  rwa [List.length_append] at this
/-- A line's name, value, error, field. -/
def nameOf (l : Bs) : Bs := upto (· == 58) l
def valOf (l : Bs) : Bs := T.trim ((from_ (· == 58) l).drop 1)
def oneE (l : Bs) : Int := if l.head? = some 32 ∨ l.head? = some 9 then 41 else if from_ (· == 58) l = [] ∨ T.token (nameOf l) = false ∨ F.good (B (valOf l)) = false then 40 else 0
def oneF (l : Bs) : FD := (B (nameOf l), B (valOf l))
theorem one_small (l : Bs) : (oneF l).1.size + (oneF l).2.size ≤ l.length := by
  have h1 := upto_len (· == 58) l
  have h2 := T.trim_len ((from_ (· == 58) l).drop 1)
  unfold oneF
  rw [B_size', B_size']
  unfold nameOf valOf
  rw [List.length_drop] at h2
  omega
/-- The fields of lines: what stands behind 'out', and the error. -/
def parse (out : List FD) (l : Bs) : List FD × Int :=
  if l = [] then (out, 0) else
  match _h : from_ eol l with
  | 13 :: 10 :: r => if oneE (upto eol l) ≠ 0 then ([], oneE (upto eol l)) else if out.length = 100 then ([], 42) else parse (out ++ [oneF (upto eol l)]) r
  | _ => ([], 40)
termination_by l.length
decreasing_by
  have h1 := upto_len eol l
  rw [_h] at h1
  simp only [List.length_cons] at h1
  omega
theorem upto_eq {p : UInt8 → Bool} {l : Bs} {k : Nat} (hk : k ≤ l.length) (hall : ∀ j (h : j < l.length), j < k → p l[j] = false) (hstop : ∀ h : k < l.length, p l[k] = true) : upto p l = l.take k ∧ from_ p l = l.drop k := by
  induction l generalizing k with
  | nil => simp [upto, from_]
  | cons x l ih =>
    cases k with
    | zero =>
      have hx : p x = true := hstop (by simp)
      simp [upto, from_, hx]
    | succ k =>
      have hx : p x = false := hall 0 (by simp) (by omega)
      have := ih (k := k) (by simpa using hk) (fun j h hj => by have := hall (j + 1) (by simpa using h) (by omega); simpa using this) (fun h => by have := hstop (by simpa using h); simpa using this)
      unfold upto from_ at this ⊢
      simp [hx, this.1, this.2]
theorem from_nil {p : UInt8 → Bool} {l : Bs} : from_ p l = [] ↔ ∀ x ∈ l, p x = false := by
  unfold from_
  induction l with
  | nil => simp
  | cons x l ih =>
    cases hx : p x
    · simp [hx, ih]
    · simp [hx]
theorem parse_nil (out : List FD) : parse out [] = (out, 0) := by
  rw [parse.eq_def, if_pos rfl]
theorem parse_bad {l : Bs} (out : List FD) (h0 : l ≠ []) (h : ∀ r, from_ eol l ≠ 13 :: 10 :: r) : parse out l = ([], 40) := by
  rw [parse.eq_def, if_neg h0]
  split
  · rename_i r hr
    exact absurd hr (h r)
  · rfl
theorem parse_step {l r : Bs} (out : List FD) (h0 : l ≠ []) (h : from_ eol l = 13 :: 10 :: r) : parse out l = if oneE (upto eol l) ≠ 0 then ([], oneE (upto eol l)) else if out.length = 100 then ([], 42) else parse (out ++ [oneF (upto eol l)]) r := by
  rw [parse.eq_def, if_neg h0]
  split
  · rename_i r' hr
    rw [h] at hr
    injection hr with _ hr
    injection hr with _ hr
    subst hr
    rfl
  · rename_i hr
    exact absurd h (hr r)
theorem parse_cases (l : Bs) : l = [] ∨ (l ≠ [] ∧ ∀ r, from_ eol l ≠ 13 :: 10 :: r) ∨ (l ≠ [] ∧ ∃ r, from_ eol l = 13 :: 10 :: r) := by
  by_cases h0 : l = []
  · exact .inl h0
  · by_cases h : ∃ r, from_ eol l = 13 :: 10 :: r
    · exact .inr (.inr ⟨h0, h⟩)
    · exact .inr (.inl ⟨h0, fun r hr => h ⟨r, hr⟩⟩)
theorem parse_facts : ∀ (k : Nat) (out : List FD) (l : Bs), l.length ≤ k → out.length ≤ 100 → F.bulk (parse out l).1 ≤ F.bulk out + l.length ∧ (parse out l).1.length ≤ 100 ∧ ((parse out l).2 ≠ 0 → (parse out l).1 = [])
  | k, out, l, hk, ho => by
    rcases parse_cases l with h | ⟨h0, h⟩ | ⟨h0, r, h⟩
    · subst h
      rw [parse_nil]
      exact ⟨Nat.le_add_right _ _, ho, fun h => absurd rfl h⟩
    · rw [parse_bad out h0 h]
      exact ⟨Nat.zero_le _, Nat.zero_le _, fun _ => rfl⟩
    · rw [parse_step out h0 h]
      have hl := upto_len eol l
      rw [h] at hl
      simp only [List.length_cons] at hl
      split
      · exact ⟨Nat.zero_le _, Nat.zero_le _, fun _ => rfl⟩
      · split
        · exact ⟨Nat.zero_le _, Nat.zero_le _, fun _ => rfl⟩
        · rename_i h100
          cases k with
          | zero => omega
          | succ k =>
            obtain ⟨g1, g2, g3⟩ := parse_facts k (out ++ [oneF (upto eol l)]) r (by omega) (by rw [List.length_append]; simp only [List.length_cons, List.length_nil]; omega)
            refine ⟨?_, g2, g3⟩
            rw [F.bulk_append] at g1
            simp only [F.bulk] at g1
            have := one_small (upto eol l)
            omega

/-! ### The head -/
def skip : Bs → Nat
  | 13 :: 10 :: r => skip r + 2
  | _ => 0
/-- Where the empty line is, from a place on; -1: nowhere. -/
def hIdx (b : Bs) (s : Nat) : Int := Lib.index (b.drop s) crlf2
def hE (b : Bs) (s : Nat) : Int := if hIdx b s < 0 then (if b.length < 8192 then 0 else 51) else if 8192 < s + hIdx b s + 4 then 51 else 0
def hN (b : Bs) (s : Nat) : Int := if hIdx b s < 0 ∨ 8192 < s + hIdx b s + 4 then 0 else s + hIdx b s + 4
def hText (b : Bs) (s : Nat) : Bs := (b.drop s).take (hIdx b s + 2).toNat
def hLine (b : Bs) (s : Nat) : Bs := (hText b s).take (Lib.index (hText b s) crlf).toNat
def hBlock (b : Bs) (s : Nat) : Bs := (hText b s).drop ((Lib.index (hText b s) crlf).toNat + 2)

def dig (c : UInt8) : Bool := decide (48 ≤ c.toNat) && decide (c.toNat ≤ 57)
def http10 : Bs := [72, 84, 84, 80, 47, 49, 46, 48]
def http11 : Bs := [72, 84, 84, 80, 47, 49, 46, 49]
def verShape (l : Bs) : Bool := decide (l.length = 8) && decide (l.take 5 = [72, 84, 84, 80, 47]) && dig (l.getD 5 0) && decide (l.getD 6 0 = 46) && dig (l.getD 7 0)
def verE (l : Bs) : Int := if verShape l = false then 50 else if l = http10 ∨ l = http11 then 0 else 52
def verN (l : Bs) : Int := if l = http11 then 1 else 0

structure RQ where
  m : ByteArray
  t : ByteArray
  v : Int
  fs : List FD
  n : Int
  e : Int
def RQ.bad (e : Int) : RQ := ⟨⟨#[]⟩, ⟨#[]⟩, 0, [], 0, e⟩
def sp (c : UInt8) : Bool := c == 32
def methodOf (l : Bs) : Bs := upto sp l
def behind (l : Bs) : Bs := (from_ sp l).drop 1
def hostsOf (fs : List FD) : Int := (F.values fs ⟨#[72, 111, 115, 116]⟩).length
def reqOf (line block : Bs) (n : Int) : RQ :=
  if T.token (methodOf line) = false ∨ F.visible (B (methodOf (behind line))) = false then .bad 50
  else if verE (behind (behind line)) ≠ 0 then .bad (verE (behind (behind line)))
  else if (parse [] block).2 ≠ 0 then .bad (parse [] block).2
  else if hostsOf (parse [] block).1 > 1 ∨ hostsOf (parse [] block).1 < verN (behind (behind line)) then .bad 40
  else ⟨B (methodOf line), B (methodOf (behind line)), verN (behind (behind line)), (parse [] block).1, n, 0⟩
def request (b : Bs) : RQ := if hE b (skip b) ≠ 0 ∨ hN b (skip b) = 0 then .bad (hE b (skip b)) else reqOf (hLine b (skip b)) (hBlock b (skip b)) (hN b (skip b))
end P
end Go.Proofs.YtkempjcphpnocaaGreatDoor
