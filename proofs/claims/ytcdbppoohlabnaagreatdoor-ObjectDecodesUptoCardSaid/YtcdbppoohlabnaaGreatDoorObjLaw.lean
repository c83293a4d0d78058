/- The walk of the law ObjectEncodes. Conditions: what it reads is of bulk at most 2^20, the library's table of powers of ten. -/
import Derived.Test.YtcdbppoohlabnaaGreatDoorObjL
namespace Go.Proofs.YtcdbppoohlabnaaGreatDoor
open Go.RowKit

theorem objB_len (k v : ByteArray) (s : Int) (r : ByteArray) (m : Int) (fs : List FD) (body : List UInt8) (asked got : Int) : (objB k v s r m fs body asked got).length ≤ 400000 := by
  unfold objB
  split
  · rename_i h
    have hok := (of_decide_eq_true h).2
    obtain ⟨h1, h2, h3, _⟩ := okE_facts hok
    have hd : ∀ i, (datO k v (F.respB s r m fs) body asked got i).length ≤ 65536 := by
      intro i
      match i with
      | 0 => show (L k).length ≤ _; rw [← L_size]; omega
      | 1 => show (L v).length ≤ _; rw [← L_size]; omega
      | 2 => show (F.respB s r m fs).length ≤ _; have := respB_len s r m fs; omega
      | 3 => show body.length ≤ _; omega
      | 4 => show (beN asked.toNat 8 ++ beN got.toNat 8).length ≤ _; rw [List.length_append, beN_len, beN_len]; decide
      | n + 5 => exact Nat.zero_le _
    have := preO_len _ hd 5
    unfold objW
    rw [List.length_append, beN_len]
    omega
  · exact Nat.zero_le _

/-- What the walk holds: both entries' blocks, the copy's lists, both answers. -/
def ObjS (w : World) (b5 : Nat) (Xc Yc : Array Value) (A1 X1 A4 A5 : Option Addr) (fs : List FD) (body PB : List UInt8) (u : World) : Prop :=
  Blk u w.heap.size Xc 29 ∧ Blk u b5 Yc 29 ∧ Rd u A1 fs.length 2 (fcells fs) ∧ Rd u X1 body.length 1 (bcells body) ∧ Rd u A4 PB.length 1 (bcells PB) ∧ Rd u A5 PB.length 1 (bcells PB) ∧ Below w.heap.size w u
theorem ObjS.below {w u u' : World} {b5 : Nat} {Xc Yc : Array Value} {A1 X1 A4 A5 : Option Addr} {fs : List FD} {body PB : List UInt8} (h : ObjS w b5 Xc Yc A1 X1 A4 A5 fs body PB u) (hb : Below u.heap.size u u') : ObjS w b5 Xc Yc A1 X1 A4 A5 fs body PB u' :=
  ⟨h.1.below hb, h.2.1.below hb, h.2.2.1.below hb, h.2.2.2.1.below hb, h.2.2.2.2.1.below hb, h.2.2.2.2.2.1.below hb, below_then h.2.2.2.2.2.2.size h.2.2.2.2.2.2 hb⟩

end Go.Proofs.YtcdbppoohlabnaaGreatDoor
