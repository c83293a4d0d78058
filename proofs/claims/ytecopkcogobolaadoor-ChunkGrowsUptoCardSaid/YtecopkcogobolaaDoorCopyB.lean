/- The walks of CopyBytes, Spare and hop's length. Conditions: lists of at most 2^40 elements, a number of 64 bits, the library's table of powers of ten. -/
import Derived.Test.YtecopkcogobolaaDoorRowA
import Derived.Test.YtecopkcogobolaaDoorShow
import Derived.Test.YtecopkcogobolaaDoorPlainB
import Derived.IntWalk
namespace Go.Proofs.YtecopkcogobolaaDoor
open Go.RowKit

/-- A list of bytes of its own, answered. -/
def RetC (w : World) (bs : List UInt8) (e : Ending) (w' : World) : Prop :=
  ∃ A c, e = .returned (.slice A bs.length c) ∧ CRow w' w.heap.size A bs.length c bs ∧ Below w.heap.size w w'

set_option maxHeartbeats 400000 in
theorem copyBytes_any (A : Option Addr) (c : Nat) (bs : List UInt8) (w : World) (hn : bs.length ≤ 1099511627776) (hx : Rd w A bs.length 1 (bcells bs)) :
    Calls Tryd.prog 14 #[.slice A bs.length c] w (RetC w bs) := by
  have HX := Lib.hid (hx.alloc (.cells #[] 5))
  clear hx
  go_enter Tryd.func14, Tryd.ntmps14
  go_wp2_with (at_builtin; refine appC _ rfl (.tmp 5) (.tmp 6) rfl w.heap.size _ 0 0 [] rfl ⟨rfl, Nat.le_refl _, .inl rfl⟩ A bs.length c bs rfl HX.out (by omega) (by rw [World.size_alloc]; omega) ?_; intro A1 c1 w1 hr1 ha1)
  have hb := ((Below.refl w.heap.size w).alloc (Nat.le_refl _) (.cells #[] 5)).trans (ha1.belowC (⟨rfl, Nat.le_refl _, .inl rfl⟩ : CRow _ w.heap.size _ 0 0 []) (by rw [World.size_alloc]; omega))
  have e : 0 + bs.length = bs.length := Nat.zero_add _
  rw [e] at hr1
  go_ret
  exact ⟨A1, c1, rfl, hr1, hb⟩

def marks : List UInt8 := [201, 202, 203, 204, 205, 206, 207, 208]
theorem marks_at (k : Nat) (h : k < 8) : marks.take (k + 1) = marks.take k ++ [UInt8.ofNat (201 + k)] := by
  have : ∀ j : Fin 8, marks.take (j.1 + 1) = marks.take j.1 ++ [UInt8.ofNat (201 + j.1)] := by decide
  exact this ⟨k, h⟩
theorem mark_nat (k : Nat) (h : k < 8) : ((UInt8.ofNat (201 + k)).toNat : Int) = 201 + (k : Int) := by
  rw [UInt8.toNat_ofNat']
  omega

/-- Grown but for one block. -/
theorem grown_trans {a b c : World} {r : Option Nat} (h1 : Below a.heap.size a b) (h2 : b.grownBy c r) : a.grownBy c r :=
  ⟨h2.os.trans h1.os, h2.tape.trans h1.tape, h2.output.trans h1.output, Nat.le_trans h1.size h2.size, fun k hk hne => (h2.block k (Nat.lt_of_lt_of_le hk h1.size) hne).trans (h1.block k hk)⟩

end Go.Proofs.YtecopkcogobolaaDoor
