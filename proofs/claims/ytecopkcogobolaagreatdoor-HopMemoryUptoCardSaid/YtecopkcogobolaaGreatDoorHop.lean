/- The walks of the laws HopReplies and HopStrips. Conditions: the number is of 64 bits; the list's bulk is at most 2^30; the library's table of powers of ten is as its text lays it. -/
import Derived.Test.YtecopkcogobolaaGreatDoorReplyA
namespace Go.Proofs.YtecopkcogobolaaGreatDoor
open Go.RowKit

theorem size_of {s : ByteArray} {l : List UInt8} (h : l = L s) : l.length = s.size := by rw [h, L_size]

end Go.Proofs.YtecopkcogobolaaGreatDoor
