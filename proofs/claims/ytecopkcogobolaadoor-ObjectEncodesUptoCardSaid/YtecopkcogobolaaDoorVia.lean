/- The walks of Get, Put, withVia and the document's Get and via. Conditions: a list of bulk at most 2^30, texts of at most 2^30 bytes, a number of 64 bits, the library's table of powers of ten. -/
import Derived.Test.YtecopkcogobolaaDoorPlainB
import Derived.Test.YtecopkcogobolaaDoorStripA
import Derived.Test.YtecopkcogobolaaDoorShow
import Derived.Lib.ItoaLen
namespace Go.Proofs.YtecopkcogobolaaDoor
open Go.RowKit

def RetSB (w : World) (s : ByteArray) (b : Bool) (e : Ending) (w' : World) : Prop := e = .returned (.tuple #[.string s, .bool b]) ∧ Below w.heap.size w w'

theorem nil_app (x : ByteArray) : (⟨#[]⟩ : ByteArray) ++ x = x := by
  apply data_inj; simp [ByteArray.data_append]
theorem len_pos {n : Nat} {vs : List ByteArray} (h : vs.length = n) : decide (0 < n) = !vs.isEmpty := by
  cases vs with
  | nil => subst h; rfl
  | cons a l => subst h; simp

theorem viaOf_size (fs : List FD) (minor : Int) (name : ByteArray) (h0 : -9223372036854775808 ≤ minor) (h1 : minor ≤ 9223372036854775807) : (F.viaOf fs minor name).size ≤ 2 * F.bulk fs + name.size + 26 := by
  have h2 := F.joined_size fs F.via3
  have h3 : (B (Lib.itoa minor)).size ≤ 21 := by rw [B_size]; exact Lib.itoa_length_le minor h0 h1
  unfold F.viaOf
  simp only [ByteArray.size_append]
  have e1 : (⟨#[49, 46]⟩ : ByteArray).size = 2 := rfl
  have e2 : (⟨#[32]⟩ : ByteArray).size = 1 := rfl
  have e3 : (⟨#[44, 32]⟩ : ByteArray).size = 2 := rfl
  split
  · rw [ByteArray.size_append]; omega
  · omega

end Go.Proofs.YtecopkcogobolaaDoor
