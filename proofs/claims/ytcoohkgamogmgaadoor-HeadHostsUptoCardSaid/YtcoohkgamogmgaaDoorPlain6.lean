/- What head.PrintRequest, PrintResponse and fields.Print compute. No program here. -/
import Derived.Test.YtcoohkgamogmgaaDoorPlain3
namespace Go.Proofs.YtcoohkgamogmgaaDoor
open Go
namespace F
def good (v : ByteArray) : Bool := (L v).all T.textB && decide (T.trim (L v) = L v)
def okF (f : FD) : Bool := T.token (L f.1) && good f.2
def line (f : FD) : List UInt8 := L f.1 ++ [58, 32] ++ L f.2 ++ [13, 10]
def lines (fs : List FD) : List UInt8 := fs.flatMap line
def visB (c : UInt8) : Bool := decide (33 ≤ c.toNat) && decide (c.toNat ≤ 126)
def visible (s : ByteArray) : Bool := (L s).all visB && !(L s).isEmpty
def text (s : ByteArray) : Bool := (L s).all T.textB
/-- The error of Print. -/
def printE (fs : List FD) : Int := if fs.all okF then (if 100 < fs.length then 42 else 0) else 40
def printB (fs : List FD) : List UInt8 := if printE fs = 0 then lines fs else []
/-- The error and the bytes of a head with that first line. -/
def wholeE (l : List UInt8) (fs : List FD) : Int := if printE fs = 0 then (if 8192 < l.length + (lines fs).length + 4 then 51 else 0) else printE fs
def wholeB (l : List UInt8) (fs : List FD) : List UInt8 := if wholeE l fs = 0 then l ++ [13, 10] ++ lines fs ++ [13, 10] else []
def httpT : List UInt8 := [32, 72, 84, 84, 80, 47, 49, 46]
def reqLine (m t : ByteArray) (n : Int) : List UInt8 := L m ++ [32] ++ L t ++ httpT ++ Lib.itoa n
def reqOk (m t : ByteArray) (n : Int) : Bool := T.token (L m) && visible t && decide (0 ≤ n) && decide (n ≤ 1)
def reqE (m t : ByteArray) (n : Int) (fs : List FD) : Int := if reqOk m t n then wholeE (reqLine m t n) fs else 50
def reqB (m t : ByteArray) (n : Int) (fs : List FD) : List UInt8 := if reqOk m t n then wholeB (reqLine m t n) fs else []
def respLine (s : Int) (r : ByteArray) (n : Int) : List UInt8 := [72, 84, 84, 80, 47, 49, 46] ++ Lib.itoa n ++ [32] ++ Lib.itoa s ++ [32] ++ L r
def respE (s : Int) (r : ByteArray) (n : Int) (fs : List FD) : Int := if n < 0 ∨ 1 < n ∨ text r = false then 50 else if s < 100 ∨ 599 < s then 53 else wholeE (respLine s r n) fs
def respB (s : Int) (r : ByteArray) (n : Int) (fs : List FD) : List UInt8 := if respE s r n fs = 0 then wholeB (respLine s r n) fs else []

theorem lines_snoc (fs : List FD) (k : Nat) (h : k < fs.length) : lines (fs.take (k + 1)) = lines (fs.take k) ++ line fs[k] := by
  unfold lines
  rw [List.take_succ_eq_append_getElem h, List.flatMap_append]
  simp
theorem line_len (f : FD) : (line f).length = f.1.size + f.2.size + 4 := by
  unfold line
  simp only [List.length_append, List.length_cons, List.length_nil, L_size]
  omega
theorem lines_len : ∀ fs : List FD, (lines fs).length ≤ 4 * bulk fs
  | [] => Nat.le_refl _
  | f :: l => by
    have := lines_len l
    have h := line_len f
    unfold lines at this ⊢
    rw [List.flatMap_cons, List.length_append, h]
    simp only [bulk]
    omega
theorem lines_take (fs : List FD) (k : Nat) : (lines (fs.take k)).length ≤ (lines fs).length := by
  conv => rhs; rw [← List.take_append_drop k fs]
  unfold lines
  rw [List.flatMap_append, List.length_append]
  omega
theorem all_take_succ (p : FD → Bool) (fs : List FD) (k : Nat) (h : k < fs.length) : (fs.take (k + 1)).all p = ((fs.take k).all p && p fs[k]) := by
  rw [List.take_succ_eq_append_getElem h, List.all_append]
  simp
theorem all_false_at (p : FD → Bool) (fs : List FD) (k : Nat) (h : k < fs.length) (hp : p fs[k] = false) : fs.all p = false := by
  rw [List.all_eq_false]
  exact ⟨_, List.getElem_mem h, by simp [hp]⟩
theorem printE_bad {fs : List FD} (h : fs.all okF = false) : printE fs = 40 := by unfold printE; simp [h]
theorem printE_many {fs : List FD} (h : fs.all okF = true) (h2 : 100 < fs.length) : printE fs = 42 := by unfold printE; simp [h, h2]
theorem printE_ok {fs : List FD} (h : fs.all okF = true) (h2 : ¬ 100 < fs.length) : printE fs = 0 := by unfold printE; simp [h, h2]
theorem printB_ok {fs : List FD} (h : printE fs = 0) : printB fs = lines fs := if_pos h
theorem printB_bad {fs : List FD} (h : printE fs ≠ 0) : printB fs = [] := if_neg h
theorem printE_cases (fs : List FD) : printE fs = 0 ∨ printE fs = 40 ∨ printE fs = 42 := by
  unfold printE
  split <;> (try split) <;> simp
theorem wholeE_cases (l : List UInt8) (fs : List FD) : wholeE l fs = 0 ∨ wholeE l fs = 40 ∨ wholeE l fs = 42 ∨ wholeE l fs = 51 := by
  unfold wholeE
  rcases printE_cases fs with h | h | h
  · rw [if_pos h]
    split
    · exact .inr (.inr (.inr rfl))
    · exact .inl rfl
  · rw [if_neg (by rw [h]; decide)]; exact .inr (.inl h)
  · rw [if_neg (by rw [h]; decide)]; exact .inr (.inr (.inl h))
theorem wholeB_len (l : List UInt8) (fs : List FD) : (wholeB l fs).length ≤ 8192 := by
  unfold wholeB
  split
  · rename_i h
    unfold wholeE at h
    split at h
    · split at h
      · cases h
      · simp only [List.length_append, List.length_cons, List.length_nil]; omega
    · rename_i h2
      exact absurd h h2
  · simp
end F
end Go.Proofs.YtcoohkgamogmgaaDoor
