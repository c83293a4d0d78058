/- What Bytes answers, in plain Lean. -/
import Derived.Test.YtcoohkgamogmgaaGreatDoorPlain6
import Derived.Test.YtcoohkgamogmgaaGreatDoorPlain5
import Derived.Lib.ItoaLen
namespace Go.Proofs.YtcoohkgamogmgaaGreatDoor

namespace F
def connN : ByteArray := ⟨#[67, 111, 110, 110, 101, 99, 116, 105, 111, 110]⟩
def closeN : ByteArray := ⟨#[99, 108, 111, 115, 101]⟩
/-- 'Connection' and 'Transfer-Encoding'; the same in small letters. -/
def two : List ByteArray := [connN, ⟨#[84, 114, 97, 110, 115, 102, 101, 114, 45, 69, 110, 99, 111, 100, 105, 110, 103]⟩]
def twoLow : List ByteArray := [⟨#[99, 111, 110, 110, 101, 99, 116, 105, 111, 110]⟩, ⟨#[116, 114, 97, 110, 115, 102, 101, 114, 45, 101, 110, 99, 111, 100, 105, 110, 103]⟩]
theorem without_two (fs : List FD) : without fs two = without fs twoLow := without_fold fs (by decide +kernel)
/-- A response without a body. -/
def bareOf (s : Int) (method : ByteArray) : Bool := decide (L method = [72, 69, 65, 68]) || decide (100 ≤ s ∧ s ≤ 199) || decide (s = 204) || decide (s = 304) || (decide (L method = [67, 79, 78, 78, 69, 67, 84]) && decide (200 ≤ s ∧ s ≤ 299))
def lastF (last : Bool) : List FD := if last then [(connN, closeN)] else []
def outF (fs : List FD) (bare last : Bool) (k : Nat) : List FD := (if bare then without fs two else put (without fs two) clenN (B (Lib.itoa k))) ++ lastF last
def bytesE (s : Int) (r : ByteArray) (m : Int) (fs : List FD) (bare last : Bool) (k : Nat) : Int := if 65536 < k then 71 else respE s r m (outF fs bare last k)
def bytesB (s : Int) (r : ByteArray) (m : Int) (fs : List FD) (bare last : Bool) (body : List UInt8) : List UInt8 :=
  if bytesE s r m fs bare last body.length = 0 then respB s r m (outF fs bare last body.length) ++ (if bare then [] else body) else []
theorem bulk_out (fs : List FD) (bare last : Bool) (k : Nat) (hk : k ≤ 1099511627776) : bulk (outF fs bare last k) ≤ bulk fs + 64 := by
  have h3 : (B (Lib.itoa k)).size ≤ 21 := by rw [B_size]; exact Lib.itoa_length_le k (by omega) (by omega)
  have e1 : clenN.size = 14 := rfl
  have e2 : connN.size = 10 := rfl
  have e3 : closeN.size = 5 := rfl
  have h1 := bulk_without fs two
  have h2 := bulk_without (without fs two) [clenN]
  have h4 : bulk (lastF last) ≤ 16 := by
    unfold lastF
    split
    · simp only [bulk]; omega
    · simp only [bulk]; omega
  unfold outF
  rw [bulk_append]
  split
  · omega
  · unfold put
    rw [bulk_append]
    simp only [bulk]
    omega
end F
theorem div_hundred (s : Int) : (Int.tdiv s 100 = 1 ↔ 100 ≤ s ∧ s ≤ 199) ∧ (Int.tdiv s 100 = 2 ↔ 200 ≤ s ∧ s ≤ 299) := by
  rcases Int.le_total 0 s with h | h
  · rw [Int.tdiv_eq_ediv_of_nonneg h]
    constructor <;> omega
  · have e : Int.tdiv s 100 ≤ 0 := by
      have := Int.tdiv_nonneg (a := -s) (b := 100) (by omega) (by omega)
      rw [Int.neg_tdiv] at this
      omega
    constructor <;> omega
theorem respB_len (s : Int) (r : ByteArray) (m : Int) (fs : List FD) : (F.respB s r m fs).length ≤ 8192 := by
  unfold F.respB
  split
  · exact F.wholeB_len _ _
  · simp
theorem bytesB_len (s : Int) (r : ByteArray) (m : Int) (fs : List FD) (bare last : Bool) (body : List UInt8) : (F.bytesB s r m fs bare last body).length ≤ 8192 + body.length := by
  have h := respB_len s r m (F.outF fs bare last body.length)
  unfold F.bytesB
  split
  · rw [List.length_append]
    split
    · simp only [List.length_nil]; omega
    · omega
  · simp
end Go.Proofs.YtcoohkgamogmgaaGreatDoor
