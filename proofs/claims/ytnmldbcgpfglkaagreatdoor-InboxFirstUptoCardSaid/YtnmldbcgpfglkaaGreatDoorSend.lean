/- The walk of hop.Request, from the contracts of what it calls. -/
import Derived.Test.YtnmldbcgpfglkaaGreatDoorRowA
import Derived.Test.YtnmldbcgpfglkaaGreatDoorRegionA
import Derived.Test.YtnmldbcgpfglkaaGreatDoorPlainB
import Derived.Outline
namespace Go.Proofs.YtnmldbcgpfglkaaGreatDoor
open Go.RowKit

/-- A request, answered. -/
def RetQ (w : World) (s r : ByteArray) (m : Int) (xs : List FD) (e : Ending) (w' : World) : Prop :=
  ∃ A c, e = .returned (.agg #[.string s, .string r, .int .i64 m, .slice A xs.length c]) ∧ Row w' w.heap.size 72 2 A xs.length c (fcells xs) ∧ Below w.heap.size w w'
def F.pathOf (p : ByteArray) : ByteArray := if p = ⟨#[]⟩ then ⟨#[47]⟩ else p
end Go.Proofs.YtnmldbcgpfglkaaGreatDoor
