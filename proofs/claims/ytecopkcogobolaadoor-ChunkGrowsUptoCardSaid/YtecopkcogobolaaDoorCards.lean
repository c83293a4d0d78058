/-
  DERIVED. GIVEN WITH THE SEED: THE CARDS: each row of YtecopkcogobolaaDoorRows.lean that lists a variable, with what it lists TIED to the program's text (the seventh form; the later family's looks); each row that meets fmt, with fmt's text TOLD by the authors' own Lean function (tested against real Go, not proved from fmt's source: count such statements apart). THE CARD IS WHAT COUNTS. Prove the row's statement (the work); the ties are given (YtecopkcogobolaaDoorTie.lean); close each card by the builder's one call (the guide's Derived/Test/ToyasCard.lean, 'card_holds'). Laid BY PROGRAM, IN A SANDBOX (cutbox-door.mjs). By AI agents, Wed Nov 11 2026. No macro, syntax, notation, axiom, sorry.
-/
import Derived.Test.YtecopkcogobolaaDoorRows
import GoSem.ClaimSeven
namespace Go.Proofs.YtecopkcogobolaaDoor
namespace Rows

/-- THE TIED CARD OF 'conduitlaw12.ObjectEncodes'. -/
def objectEncodesCard : Claim7 := { stood := { row := objectEncodesRow, standIns := [], harness := (true, "5a35b272d9515ac6998e002d8fffeb14c8154fa09b6dd9929ce9c103ee19bb91"), looks := true }, kinds := [], alts := [], laidByText := true, laidKinds := [.data, .data, .data, .data, .sentinel, .pinned], laidTests := true, laidLooks := .later }
def ObjectEncodesCardSaid : Prop := Claim7.holds Tryd.pinned (.plain (OpenSpec.ofChange objectEncodesSpec)) objectEncodesCard

/-- THE TIED CARD OF 'conduitlaw07.ChunkGrows'. -/
def chunkGrowsCard : Claim7 := { stood := { row := chunkGrowsRow, standIns := [], harness := (true, "5a35b272d9515ac6998e002d8fffeb14c8154fa09b6dd9929ce9c103ee19bb91"), looks := true }, kinds := [], alts := [], laidByText := true, laidKinds := [.data, .data, .data, .data, .sentinel, .sentinel, .pinned], laidTests := true, laidLooks := .later }
def ChunkGrowsCardSaid : Prop := Claim7.holds Tryd.pinned (.plain (OpenSpec.ofChange chunkGrowsSpec)) chunkGrowsCard

/-- THE SECOND FORM's CARD OF 'conduitlaw12.ObjectEncodes'. -/
def objectEncodesUptoCard : Claim7 := { stood := { row := objectEncodesUptoRow, standIns := [], harness := (true, "5a35b272d9515ac6998e002d8fffeb14c8154fa09b6dd9929ce9c103ee19bb91"), looks := true }, kinds := [], alts := [], laidByText := true, laidKinds := [.data, .data, .data, .data, .sentinel, .pinned], laidTests := true, laidLooks := .later }
def ObjectEncodesUptoCardSaid : Prop := Claim7.holds Tryd.pinned (.plain (OpenSpec.upto objectEncodesSpec)) objectEncodesUptoCard

/-- THE SECOND FORM's CARD OF 'conduitlaw07.ChunkGrows'. -/
def chunkGrowsUptoCard : Claim7 := { stood := { row := chunkGrowsUptoRow, standIns := [], harness := (true, "5a35b272d9515ac6998e002d8fffeb14c8154fa09b6dd9929ce9c103ee19bb91"), looks := true }, kinds := [], alts := [], laidByText := true, laidKinds := [.data, .data, .data, .data, .sentinel, .sentinel, .pinned], laidTests := true, laidLooks := .later }
def ChunkGrowsUptoCardSaid : Prop := Claim7.holds Tryd.pinned (.plain (OpenSpec.upto chunkGrowsSpec)) chunkGrowsUptoCard
end Rows
end Go.Proofs.YtecopkcogobolaaDoor
