/-
  DERIVED. GIVEN WITH THE SEED: THE CARDS: each row of YtcoohkgamogmgaaGreatDoorRows.lean that lists a variable, with what it lists TIED to the program's text (the seventh form; the later family's looks); each row that meets fmt, with fmt's text TOLD by the authors' own Lean function (tested against real Go, not proved from fmt's source: count such statements apart). THE CARD IS WHAT COUNTS. Prove the row's statement (the work); the ties are given (YtcoohkgamogmgaaGreatDoorTie.lean); close each card by the builder's one call (the guide's Derived/Test/ToyasCard.lean, 'card_holds'). Laid BY PROGRAM, IN A SANDBOX (cutbox-door.mjs). By AI agents, Wed Nov 11 2026. No macro, syntax, notation, axiom, sorry.
-/
import Derived.Test.YtcoohkgamogmgaaGreatDoorRows
import GoSem.ClaimSeven
namespace Go.Proofs.YtcoohkgamogmgaaGreatDoor
namespace Rows

/-- THE TIED CARD OF 'conduitlaw22.HopBytes'. -/
def hopBytesCard : Claim7 := { stood := { row := hopBytesRow, standIns := [], harness := (true, "0547938ceaf1510dc39e81346845d3eec14883242d2acdbe349a32b5660c738a"), looks := false }, kinds := [], alts := [], laidByText := true, laidKinds := [.data, .data, .data, .data, .sentinel, .pinned], laidTests := true, laidLooks := .later }
def HopBytesCardSaid : Prop := Claim7.holds Tryz.pinned (.plain (OpenSpec.ofChange hopBytesSpec)) hopBytesCard

/-- THE SECOND FORM's CARD OF 'conduitlaw22.HopBytes'. -/
def hopBytesUptoCard : Claim7 := { stood := { row := hopBytesUptoRow, standIns := [], harness := (true, "0547938ceaf1510dc39e81346845d3eec14883242d2acdbe349a32b5660c738a"), looks := false }, kinds := [], alts := [], laidByText := true, laidKinds := [.data, .data, .data, .data, .sentinel, .pinned], laidTests := true, laidLooks := .later }
def HopBytesUptoCardSaid : Prop := Claim7.holds Tryz.pinned (.plain (OpenSpec.upto hopBytesSpec)) hopBytesUptoCard
end Rows
end Go.Proofs.YtcoohkgamogmgaaGreatDoor
