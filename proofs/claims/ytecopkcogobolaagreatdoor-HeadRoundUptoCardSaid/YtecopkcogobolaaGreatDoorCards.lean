/-
  DERIVED. GIVEN WITH THE SEED: THE CARDS: each row of YtecopkcogobolaaGreatDoorRows.lean that lists a variable, with what it lists TIED to the program's text (the seventh form; the later family's looks); each row that meets fmt, with fmt's text TOLD by the authors' own Lean function (tested against real Go, not proved from fmt's source: count such statements apart). THE CARD IS WHAT COUNTS. Prove the row's statement (the work); the ties are given (YtecopkcogobolaaGreatDoorTie.lean); close each card by the builder's one call (the guide's Derived/Test/ToyasCard.lean, 'card_holds'). Laid BY PROGRAM, IN A SANDBOX (cutbox-door.mjs). By AI agents, Wed Nov 11 2026. No macro, syntax, notation, axiom, sorry.
-/
import Derived.Test.YtecopkcogobolaaGreatDoorRows
import GoSem.ClaimSeven
namespace Go.Proofs.YtecopkcogobolaaGreatDoor
namespace Rows

/-- THE TIED CARD OF 'conduitlaw22.HopMemory'. -/
def hopMemoryCard : Claim7 := { stood := { row := hopMemoryRow, standIns := [], harness := (true, "cc22729eacc9591711d74f5d99c8b62de1b4ced544e29231f526357e4c81b0cb"), looks := true }, kinds := [], alts := [], laidByText := true, laidKinds := [.data, .data, .data, .data, .sentinel, .pinned], laidTests := true, laidLooks := .later }
def HopMemoryCardSaid : Prop := Claim7.holds Tryz.pinned (.plain (OpenSpec.ofChange hopMemorySpec)) hopMemoryCard

/-- THE TIED CARD OF 'conduitlaw05.HeadPrints'. -/
def headPrintsCard : Claim7 := { stood := { row := headPrintsRow, standIns := [], harness := (true, "cc22729eacc9591711d74f5d99c8b62de1b4ced544e29231f526357e4c81b0cb"), looks := true }, kinds := [], alts := [], laidByText := true, laidKinds := [.data, .data, .data, .data, .sentinel, .pinned], laidTests := true, laidLooks := .later }
def HeadPrintsCardSaid : Prop := Claim7.holds Tryz.pinned (.plain (OpenSpec.ofChange headPrintsSpec)) headPrintsCard

/-- THE TIED CARD OF 'conduitlaw05.HeadMemory'. -/
def headMemoryCard : Claim7 := { stood := { row := headMemoryRow, standIns := [], harness := (true, "cc22729eacc9591711d74f5d99c8b62de1b4ced544e29231f526357e4c81b0cb"), looks := true }, kinds := [], alts := [], laidByText := true, laidKinds := [.data, .data, .data, .data, .sentinel, .pinned], laidTests := true, laidLooks := .later }
def HeadMemoryCardSaid : Prop := Claim7.holds Tryz.pinned (.plain (OpenSpec.ofChange headMemorySpec)) headMemoryCard

/-- THE TIED CARD OF 'conduitlaw05.HeadResponses'. -/
def headResponsesCard : Claim7 := { stood := { row := headResponsesRow, standIns := [], harness := (true, "cc22729eacc9591711d74f5d99c8b62de1b4ced544e29231f526357e4c81b0cb"), looks := true }, kinds := [], alts := [], laidByText := true, laidKinds := [.data, .data, .data, .data, .sentinel, .sentinel, .pinned], laidTests := true, laidLooks := .later }
def HeadResponsesCardSaid : Prop := Claim7.holds Tryz.pinned (.plain (OpenSpec.ofChange headResponsesSpec)) headResponsesCard

/-- THE TIED CARD OF 'conduitlaw05.HeadGrows'. -/
def headGrowsCard : Claim7 := { stood := { row := headGrowsRow, standIns := [], harness := (true, "cc22729eacc9591711d74f5d99c8b62de1b4ced544e29231f526357e4c81b0cb"), looks := true }, kinds := [], alts := [], laidByText := true, laidKinds := [.data, .data, .data, .data, .sentinel, .sentinel, .pinned], laidTests := true, laidLooks := .later }
def HeadGrowsCardSaid : Prop := Claim7.holds Tryz.pinned (.plain (OpenSpec.ofChange headGrowsSpec)) headGrowsCard

/-- THE TIED CARD OF 'conduitlaw05.HeadRound'. -/
def headRoundCard : Claim7 := { stood := { row := headRoundRow, standIns := [], harness := (true, "cc22729eacc9591711d74f5d99c8b62de1b4ced544e29231f526357e4c81b0cb"), looks := true }, kinds := [], alts := [], laidByText := true, laidKinds := [.data, .data, .data, .data, .sentinel, .sentinel, .sentinel, .pinned], laidTests := true, laidLooks := .later }
def HeadRoundCardSaid : Prop := Claim7.holds Tryz.pinned (.plain (OpenSpec.ofChange headRoundSpec)) headRoundCard

/-- THE TIED CARD OF 'conduitlaw07.ChunkDecodes'. -/
def chunkDecodesCard : Claim7 := { stood := { row := chunkDecodesRow, standIns := [], harness := (true, "cc22729eacc9591711d74f5d99c8b62de1b4ced544e29231f526357e4c81b0cb"), looks := true }, kinds := [], alts := [], laidByText := true, laidKinds := [.data, .data, .data, .data, .sentinel, .sentinel, .pinned], laidTests := true, laidLooks := .later }
def ChunkDecodesCardSaid : Prop := Claim7.holds Tryz.pinned (.plain (OpenSpec.ofChange chunkDecodesSpec)) chunkDecodesCard

/-- THE TIED CARD OF 'conduitlaw07.ChunkEncodes'. -/
def chunkEncodesCard : Claim7 := { stood := { row := chunkEncodesRow, standIns := [], harness := (true, "cc22729eacc9591711d74f5d99c8b62de1b4ced544e29231f526357e4c81b0cb"), looks := true }, kinds := [], alts := [], laidByText := true, laidKinds := [.data, .data, .data, .data, .sentinel, .sentinel, .sentinel, .pinned], laidTests := true, laidLooks := .later }
def ChunkEncodesCardSaid : Prop := Claim7.holds Tryz.pinned (.plain (OpenSpec.ofChange chunkEncodesSpec)) chunkEncodesCard

/-- THE TIED CARD OF 'conduitlaw07.ChunkRound'. -/
def chunkRoundCard : Claim7 := { stood := { row := chunkRoundRow, standIns := [], harness := (true, "cc22729eacc9591711d74f5d99c8b62de1b4ced544e29231f526357e4c81b0cb"), looks := true }, kinds := [], alts := [], laidByText := true, laidKinds := [.data, .data, .data, .data, .sentinel, .sentinel, .sentinel, .pinned], laidTests := true, laidLooks := .later }
def ChunkRoundCardSaid : Prop := Claim7.holds Tryz.pinned (.plain (OpenSpec.ofChange chunkRoundSpec)) chunkRoundCard

/-- THE TIED CARD OF 'conduitlaw07.ChunkMemory'. -/
def chunkMemoryCard : Claim7 := { stood := { row := chunkMemoryRow, standIns := [], harness := (true, "cc22729eacc9591711d74f5d99c8b62de1b4ced544e29231f526357e4c81b0cb"), looks := true }, kinds := [], alts := [], laidByText := true, laidKinds := [.data, .data, .data, .data, .sentinel, .sentinel, .sentinel, .pinned], laidTests := true, laidLooks := .later }
def ChunkMemoryCardSaid : Prop := Claim7.holds Tryz.pinned (.plain (OpenSpec.ofChange chunkMemorySpec)) chunkMemoryCard

/-- THE SECOND FORM's CARD OF 'conduitlaw22.HopMemory'. -/
def hopMemoryUptoCard : Claim7 := { stood := { row := hopMemoryUptoRow, standIns := [], harness := (true, "cc22729eacc9591711d74f5d99c8b62de1b4ced544e29231f526357e4c81b0cb"), looks := true }, kinds := [], alts := [], laidByText := true, laidKinds := [.data, .data, .data, .data, .sentinel, .pinned], laidTests := true, laidLooks := .later }
def HopMemoryUptoCardSaid : Prop := Claim7.holds Tryz.pinned (.plain (OpenSpec.upto hopMemorySpec)) hopMemoryUptoCard

/-- THE SECOND FORM's CARD OF 'conduitlaw05.HeadPrints'. -/
def headPrintsUptoCard : Claim7 := { stood := { row := headPrintsUptoRow, standIns := [], harness := (true, "cc22729eacc9591711d74f5d99c8b62de1b4ced544e29231f526357e4c81b0cb"), looks := true }, kinds := [], alts := [], laidByText := true, laidKinds := [.data, .data, .data, .data, .sentinel, .pinned], laidTests := true, laidLooks := .later }
def HeadPrintsUptoCardSaid : Prop := Claim7.holds Tryz.pinned (.plain (OpenSpec.upto headPrintsSpec)) headPrintsUptoCard

/-- THE SECOND FORM's CARD OF 'conduitlaw05.HeadMemory'. -/
def headMemoryUptoCard : Claim7 := { stood := { row := headMemoryUptoRow, standIns := [], harness := (true, "cc22729eacc9591711d74f5d99c8b62de1b4ced544e29231f526357e4c81b0cb"), looks := true }, kinds := [], alts := [], laidByText := true, laidKinds := [.data, .data, .data, .data, .sentinel, .pinned], laidTests := true, laidLooks := .later }
def HeadMemoryUptoCardSaid : Prop := Claim7.holds Tryz.pinned (.plain (OpenSpec.upto headMemorySpec)) headMemoryUptoCard

/-- THE SECOND FORM's CARD OF 'conduitlaw05.HeadResponses'. -/
def headResponsesUptoCard : Claim7 := { stood := { row := headResponsesUptoRow, standIns := [], harness := (true, "cc22729eacc9591711d74f5d99c8b62de1b4ced544e29231f526357e4c81b0cb"), looks := true }, kinds := [], alts := [], laidByText := true, laidKinds := [.data, .data, .data, .data, .sentinel, .sentinel, .pinned], laidTests := true, laidLooks := .later }
def HeadResponsesUptoCardSaid : Prop := Claim7.holds Tryz.pinned (.plain (OpenSpec.upto headResponsesSpec)) headResponsesUptoCard

/-- THE SECOND FORM's CARD OF 'conduitlaw05.HeadGrows'. -/
def headGrowsUptoCard : Claim7 := { stood := { row := headGrowsUptoRow, standIns := [], harness := (true, "cc22729eacc9591711d74f5d99c8b62de1b4ced544e29231f526357e4c81b0cb"), looks := true }, kinds := [], alts := [], laidByText := true, laidKinds := [.data, .data, .data, .data, .sentinel, .sentinel, .pinned], laidTests := true, laidLooks := .later }
def HeadGrowsUptoCardSaid : Prop := Claim7.holds Tryz.pinned (.plain (OpenSpec.upto headGrowsSpec)) headGrowsUptoCard

/-- THE SECOND FORM's CARD OF 'conduitlaw05.HeadRound'. -/
def headRoundUptoCard : Claim7 := { stood := { row := headRoundUptoRow, standIns := [], harness := (true, "cc22729eacc9591711d74f5d99c8b62de1b4ced544e29231f526357e4c81b0cb"), looks := true }, kinds := [], alts := [], laidByText := true, laidKinds := [.data, .data, .data, .data, .sentinel, .sentinel, .sentinel, .pinned], laidTests := true, laidLooks := .later }
def HeadRoundUptoCardSaid : Prop := Claim7.holds Tryz.pinned (.plain (OpenSpec.upto headRoundSpec)) headRoundUptoCard

/-- THE SECOND FORM's CARD OF 'conduitlaw07.ChunkDecodes'. -/
def chunkDecodesUptoCard : Claim7 := { stood := { row := chunkDecodesUptoRow, standIns := [], harness := (true, "cc22729eacc9591711d74f5d99c8b62de1b4ced544e29231f526357e4c81b0cb"), looks := true }, kinds := [], alts := [], laidByText := true, laidKinds := [.data, .data, .data, .data, .sentinel, .sentinel, .pinned], laidTests := true, laidLooks := .later }
def ChunkDecodesUptoCardSaid : Prop := Claim7.holds Tryz.pinned (.plain (OpenSpec.upto chunkDecodesSpec)) chunkDecodesUptoCard

/-- THE SECOND FORM's CARD OF 'conduitlaw07.ChunkEncodes'. -/
def chunkEncodesUptoCard : Claim7 := { stood := { row := chunkEncodesUptoRow, standIns := [], harness := (true, "cc22729eacc9591711d74f5d99c8b62de1b4ced544e29231f526357e4c81b0cb"), looks := true }, kinds := [], alts := [], laidByText := true, laidKinds := [.data, .data, .data, .data, .sentinel, .sentinel, .sentinel, .pinned], laidTests := true, laidLooks := .later }
def ChunkEncodesUptoCardSaid : Prop := Claim7.holds Tryz.pinned (.plain (OpenSpec.upto chunkEncodesSpec)) chunkEncodesUptoCard

/-- THE SECOND FORM's CARD OF 'conduitlaw07.ChunkRound'. -/
def chunkRoundUptoCard : Claim7 := { stood := { row := chunkRoundUptoRow, standIns := [], harness := (true, "cc22729eacc9591711d74f5d99c8b62de1b4ced544e29231f526357e4c81b0cb"), looks := true }, kinds := [], alts := [], laidByText := true, laidKinds := [.data, .data, .data, .data, .sentinel, .sentinel, .sentinel, .pinned], laidTests := true, laidLooks := .later }
def ChunkRoundUptoCardSaid : Prop := Claim7.holds Tryz.pinned (.plain (OpenSpec.upto chunkRoundSpec)) chunkRoundUptoCard

/-- THE SECOND FORM's CARD OF 'conduitlaw07.ChunkMemory'. -/
def chunkMemoryUptoCard : Claim7 := { stood := { row := chunkMemoryUptoRow, standIns := [], harness := (true, "cc22729eacc9591711d74f5d99c8b62de1b4ced544e29231f526357e4c81b0cb"), looks := true }, kinds := [], alts := [], laidByText := true, laidKinds := [.data, .data, .data, .data, .sentinel, .sentinel, .sentinel, .pinned], laidTests := true, laidLooks := .later }
def ChunkMemoryUptoCardSaid : Prop := Claim7.holds Tryz.pinned (.plain (OpenSpec.upto chunkMemorySpec)) chunkMemoryUptoCard
end Rows
end Go.Proofs.YtecopkcogobolaaGreatDoor
