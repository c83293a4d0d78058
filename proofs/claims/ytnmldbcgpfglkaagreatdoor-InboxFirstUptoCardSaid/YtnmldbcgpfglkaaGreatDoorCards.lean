/-
  DERIVED. GIVEN WITH THE SEED: THE CARDS: each row of YtnmldbcgpfglkaaGreatDoorRows.lean that lists a variable, with what it lists TIED to the program's text (the seventh form; the later family's looks); each row that meets fmt, with fmt's text TOLD by the authors' own Lean function (tested against real Go, not proved from fmt's source: count such statements apart). THE CARD IS WHAT COUNTS. Prove the row's statement (the work); the ties are given (YtnmldbcgpfglkaaGreatDoorTie.lean); close each card by the builder's one call (the guide's Derived/Test/ToyasCard.lean, 'card_holds'). Laid BY PROGRAM, IN A SANDBOX (cutbox-door.mjs). By AI agents, Wed Nov 11 2026. No macro, syntax, notation, axiom, sorry.
-/
import Derived.Test.YtnmldbcgpfglkaaGreatDoorRows
import GoSem.ClaimSeven
namespace Go.Proofs.YtnmldbcgpfglkaaGreatDoor
namespace Rows

/-- THE TIED CARD OF 'conduitlaw07.ChunkDecodes'. -/
def chunkDecodesCard : Claim7 := { stood := { row := chunkDecodesRow, standIns := [], harness := (true, "c3fb4a85a970ab1689c13213444658d630ad762827c8e28185b718a609ba8507"), looks := true }, kinds := [], alts := [], laidByText := true, laidKinds := [.data, .data, .data, .data, .sentinel, .sentinel, .pinned], laidTests := true, laidLooks := .later }
def ChunkDecodesCardSaid : Prop := Claim7.holds Tryz.pinned (.plain (OpenSpec.ofChange chunkDecodesSpec)) chunkDecodesCard

/-- THE TIED CARD OF 'conduitlaw07.ChunkEncodes'. -/
def chunkEncodesCard : Claim7 := { stood := { row := chunkEncodesRow, standIns := [], harness := (true, "c3fb4a85a970ab1689c13213444658d630ad762827c8e28185b718a609ba8507"), looks := true }, kinds := [], alts := [], laidByText := true, laidKinds := [.data, .data, .data, .data, .sentinel, .sentinel, .sentinel, .pinned], laidTests := true, laidLooks := .later }
def ChunkEncodesCardSaid : Prop := Claim7.holds Tryz.pinned (.plain (OpenSpec.ofChange chunkEncodesSpec)) chunkEncodesCard

/-- THE TIED CARD OF 'conduitlaw07.ChunkRound'. -/
def chunkRoundCard : Claim7 := { stood := { row := chunkRoundRow, standIns := [], harness := (true, "c3fb4a85a970ab1689c13213444658d630ad762827c8e28185b718a609ba8507"), looks := true }, kinds := [], alts := [], laidByText := true, laidKinds := [.data, .data, .data, .data, .sentinel, .sentinel, .sentinel, .pinned], laidTests := true, laidLooks := .later }
def ChunkRoundCardSaid : Prop := Claim7.holds Tryz.pinned (.plain (OpenSpec.ofChange chunkRoundSpec)) chunkRoundCard

/-- THE TIED CARD OF 'conduitlaw07.ChunkSizes'. -/
def chunkSizesCard : Claim7 := { stood := { row := chunkSizesRow, standIns := [], harness := (true, "c3fb4a85a970ab1689c13213444658d630ad762827c8e28185b718a609ba8507"), looks := true }, kinds := [], alts := [], laidByText := true, laidKinds := [.data, .data, .data, .data, .sentinel, .sentinel, .sentinel, .pinned], laidTests := true, laidLooks := .later }
def ChunkSizesCardSaid : Prop := Claim7.holds Tryz.pinned (.plain (OpenSpec.ofChange chunkSizesSpec)) chunkSizesCard

/-- THE TIED CARD OF 'conduitlaw07.ChunkMemory'. -/
def chunkMemoryCard : Claim7 := { stood := { row := chunkMemoryRow, standIns := [], harness := (true, "c3fb4a85a970ab1689c13213444658d630ad762827c8e28185b718a609ba8507"), looks := true }, kinds := [], alts := [], laidByText := true, laidKinds := [.data, .data, .data, .data, .sentinel, .sentinel, .sentinel, .pinned], laidTests := true, laidLooks := .later }
def ChunkMemoryCardSaid : Prop := Claim7.holds Tryz.pinned (.plain (OpenSpec.ofChange chunkMemorySpec)) chunkMemoryCard

/-- THE TIED CARD OF 'conduitlaw12.ObjectDecodes'. -/
def objectDecodesCard : Claim7 := { stood := { row := objectDecodesRow, standIns := [], harness := (true, "c3fb4a85a970ab1689c13213444658d630ad762827c8e28185b718a609ba8507"), looks := true }, kinds := [], alts := [], laidByText := true, laidKinds := [.data, .data, .data, .data, .sentinel, .sentinel, .sentinel, .pinned], laidTests := true, laidLooks := .later }
def ObjectDecodesCardSaid : Prop := Claim7.holds Tryz.pinned (.plain (OpenSpec.ofChange objectDecodesSpec)) objectDecodesCard

/-- THE TIED CARD OF 'conduitlaw12.ObjectRound'. -/
def objectRoundCard : Claim7 := { stood := { row := objectRoundRow, standIns := [], harness := (true, "c3fb4a85a970ab1689c13213444658d630ad762827c8e28185b718a609ba8507"), looks := true }, kinds := [], alts := [], laidByText := true, laidKinds := [.data, .data, .data, .data, .sentinel, .sentinel, .sentinel, .pinned], laidTests := true, laidLooks := .later }
def ObjectRoundCardSaid : Prop := Claim7.holds Tryz.pinned (.plain (OpenSpec.ofChange objectRoundSpec)) objectRoundCard

/-- THE TIED CARD OF 'conduitlaw12.ObjectTells'. -/
def objectTellsCard : Claim7 := { stood := { row := objectTellsRow, standIns := [], harness := (true, "c3fb4a85a970ab1689c13213444658d630ad762827c8e28185b718a609ba8507"), looks := true }, kinds := [], alts := [], laidByText := true, laidKinds := [.data, .data, .data, .data, .sentinel, .sentinel, .sentinel, .pinned], laidTests := true, laidLooks := .later }
def ObjectTellsCardSaid : Prop := Claim7.holds Tryz.pinned (.plain (OpenSpec.ofChange objectTellsSpec)) objectTellsCard

/-- THE TIED CARD OF 'conduitlaw12.ObjectMemory'. -/
def objectMemoryCard : Claim7 := { stood := { row := objectMemoryRow, standIns := [], harness := (true, "c3fb4a85a970ab1689c13213444658d630ad762827c8e28185b718a609ba8507"), looks := true }, kinds := [], alts := [], laidByText := true, laidKinds := [.data, .data, .data, .data, .sentinel, .sentinel, .sentinel, .pinned], laidTests := true, laidLooks := .later }
def ObjectMemoryCardSaid : Prop := Claim7.holds Tryz.pinned (.plain (OpenSpec.ofChange objectMemorySpec)) objectMemoryCard

/-- THE TIED CARD OF 'conduitlaw08.InboxExpects'. -/
def inboxExpectsCard : Claim7 := { stood := { row := inboxExpectsRow, standIns := [], harness := (true, "c3fb4a85a970ab1689c13213444658d630ad762827c8e28185b718a609ba8507"), looks := true }, kinds := [], alts := [], laidByText := true, laidKinds := [.data, .data, .data, .data, .sentinel, .sentinel, .pinned], laidTests := true, laidLooks := .later }
def InboxExpectsCardSaid : Prop := Claim7.holds Tryz.pinned (.plain (OpenSpec.ofChange inboxExpectsSpec)) inboxExpectsCard

/-- THE TIED CARD OF 'conduitlaw08.InboxRequests'. -/
def inboxRequestsCard : Claim7 := { stood := { row := inboxRequestsRow, standIns := [], harness := (true, "c3fb4a85a970ab1689c13213444658d630ad762827c8e28185b718a609ba8507"), looks := true }, kinds := [], alts := [], laidByText := true, laidKinds := [.data, .data, .data, .data, .sentinel, .sentinel, .pinned], laidTests := true, laidLooks := .later }
def InboxRequestsCardSaid : Prop := Claim7.holds Tryz.pinned (.plain (OpenSpec.ofChange inboxRequestsSpec)) inboxRequestsCard

/-- THE TIED CARD OF 'conduitlaw08.InboxFirst'. -/
def inboxFirstCard : Claim7 := { stood := { row := inboxFirstRow, standIns := [], harness := (true, "c3fb4a85a970ab1689c13213444658d630ad762827c8e28185b718a609ba8507"), looks := true }, kinds := [], alts := [], laidByText := true, laidKinds := [.data, .data, .data, .data, .sentinel, .sentinel, .pinned], laidTests := true, laidLooks := .later }
def InboxFirstCardSaid : Prop := Claim7.holds Tryz.pinned (.plain (OpenSpec.ofChange inboxFirstSpec)) inboxFirstCard

/-- THE SECOND FORM's CARD OF 'conduitlaw07.ChunkDecodes'. -/
def chunkDecodesUptoCard : Claim7 := { stood := { row := chunkDecodesUptoRow, standIns := [], harness := (true, "c3fb4a85a970ab1689c13213444658d630ad762827c8e28185b718a609ba8507"), looks := true }, kinds := [], alts := [], laidByText := true, laidKinds := [.data, .data, .data, .data, .sentinel, .sentinel, .pinned], laidTests := true, laidLooks := .later }
def ChunkDecodesUptoCardSaid : Prop := Claim7.holds Tryz.pinned (.plain (OpenSpec.upto chunkDecodesSpec)) chunkDecodesUptoCard

/-- THE SECOND FORM's CARD OF 'conduitlaw07.ChunkEncodes'. -/
def chunkEncodesUptoCard : Claim7 := { stood := { row := chunkEncodesUptoRow, standIns := [], harness := (true, "c3fb4a85a970ab1689c13213444658d630ad762827c8e28185b718a609ba8507"), looks := true }, kinds := [], alts := [], laidByText := true, laidKinds := [.data, .data, .data, .data, .sentinel, .sentinel, .sentinel, .pinned], laidTests := true, laidLooks := .later }
def ChunkEncodesUptoCardSaid : Prop := Claim7.holds Tryz.pinned (.plain (OpenSpec.upto chunkEncodesSpec)) chunkEncodesUptoCard

/-- THE SECOND FORM's CARD OF 'conduitlaw07.ChunkRound'. -/
def chunkRoundUptoCard : Claim7 := { stood := { row := chunkRoundUptoRow, standIns := [], harness := (true, "c3fb4a85a970ab1689c13213444658d630ad762827c8e28185b718a609ba8507"), looks := true }, kinds := [], alts := [], laidByText := true, laidKinds := [.data, .data, .data, .data, .sentinel, .sentinel, .sentinel, .pinned], laidTests := true, laidLooks := .later }
def ChunkRoundUptoCardSaid : Prop := Claim7.holds Tryz.pinned (.plain (OpenSpec.upto chunkRoundSpec)) chunkRoundUptoCard

/-- THE SECOND FORM's CARD OF 'conduitlaw07.ChunkSizes'. -/
def chunkSizesUptoCard : Claim7 := { stood := { row := chunkSizesUptoRow, standIns := [], harness := (true, "c3fb4a85a970ab1689c13213444658d630ad762827c8e28185b718a609ba8507"), looks := true }, kinds := [], alts := [], laidByText := true, laidKinds := [.data, .data, .data, .data, .sentinel, .sentinel, .sentinel, .pinned], laidTests := true, laidLooks := .later }
def ChunkSizesUptoCardSaid : Prop := Claim7.holds Tryz.pinned (.plain (OpenSpec.upto chunkSizesSpec)) chunkSizesUptoCard

/-- THE SECOND FORM's CARD OF 'conduitlaw07.ChunkMemory'. -/
def chunkMemoryUptoCard : Claim7 := { stood := { row := chunkMemoryUptoRow, standIns := [], harness := (true, "c3fb4a85a970ab1689c13213444658d630ad762827c8e28185b718a609ba8507"), looks := true }, kinds := [], alts := [], laidByText := true, laidKinds := [.data, .data, .data, .data, .sentinel, .sentinel, .sentinel, .pinned], laidTests := true, laidLooks := .later }
def ChunkMemoryUptoCardSaid : Prop := Claim7.holds Tryz.pinned (.plain (OpenSpec.upto chunkMemorySpec)) chunkMemoryUptoCard

/-- THE SECOND FORM's CARD OF 'conduitlaw12.ObjectDecodes'. -/
def objectDecodesUptoCard : Claim7 := { stood := { row := objectDecodesUptoRow, standIns := [], harness := (true, "c3fb4a85a970ab1689c13213444658d630ad762827c8e28185b718a609ba8507"), looks := true }, kinds := [], alts := [], laidByText := true, laidKinds := [.data, .data, .data, .data, .sentinel, .sentinel, .sentinel, .pinned], laidTests := true, laidLooks := .later }
def ObjectDecodesUptoCardSaid : Prop := Claim7.holds Tryz.pinned (.plain (OpenSpec.upto objectDecodesSpec)) objectDecodesUptoCard

/-- THE SECOND FORM's CARD OF 'conduitlaw12.ObjectRound'. -/
def objectRoundUptoCard : Claim7 := { stood := { row := objectRoundUptoRow, standIns := [], harness := (true, "c3fb4a85a970ab1689c13213444658d630ad762827c8e28185b718a609ba8507"), looks := true }, kinds := [], alts := [], laidByText := true, laidKinds := [.data, .data, .data, .data, .sentinel, .sentinel, .sentinel, .pinned], laidTests := true, laidLooks := .later }
def ObjectRoundUptoCardSaid : Prop := Claim7.holds Tryz.pinned (.plain (OpenSpec.upto objectRoundSpec)) objectRoundUptoCard

/-- THE SECOND FORM's CARD OF 'conduitlaw12.ObjectTells'. -/
def objectTellsUptoCard : Claim7 := { stood := { row := objectTellsUptoRow, standIns := [], harness := (true, "c3fb4a85a970ab1689c13213444658d630ad762827c8e28185b718a609ba8507"), looks := true }, kinds := [], alts := [], laidByText := true, laidKinds := [.data, .data, .data, .data, .sentinel, .sentinel, .sentinel, .pinned], laidTests := true, laidLooks := .later }
def ObjectTellsUptoCardSaid : Prop := Claim7.holds Tryz.pinned (.plain (OpenSpec.upto objectTellsSpec)) objectTellsUptoCard

/-- THE SECOND FORM's CARD OF 'conduitlaw12.ObjectMemory'. -/
def objectMemoryUptoCard : Claim7 := { stood := { row := objectMemoryUptoRow, standIns := [], harness := (true, "c3fb4a85a970ab1689c13213444658d630ad762827c8e28185b718a609ba8507"), looks := true }, kinds := [], alts := [], laidByText := true, laidKinds := [.data, .data, .data, .data, .sentinel, .sentinel, .sentinel, .pinned], laidTests := true, laidLooks := .later }
def ObjectMemoryUptoCardSaid : Prop := Claim7.holds Tryz.pinned (.plain (OpenSpec.upto objectMemorySpec)) objectMemoryUptoCard

/-- THE SECOND FORM's CARD OF 'conduitlaw08.InboxExpects'. -/
def inboxExpectsUptoCard : Claim7 := { stood := { row := inboxExpectsUptoRow, standIns := [], harness := (true, "c3fb4a85a970ab1689c13213444658d630ad762827c8e28185b718a609ba8507"), looks := true }, kinds := [], alts := [], laidByText := true, laidKinds := [.data, .data, .data, .data, .sentinel, .sentinel, .pinned], laidTests := true, laidLooks := .later }
def InboxExpectsUptoCardSaid : Prop := Claim7.holds Tryz.pinned (.plain (OpenSpec.upto inboxExpectsSpec)) inboxExpectsUptoCard

/-- THE SECOND FORM's CARD OF 'conduitlaw08.InboxRequests'. -/
def inboxRequestsUptoCard : Claim7 := { stood := { row := inboxRequestsUptoRow, standIns := [], harness := (true, "c3fb4a85a970ab1689c13213444658d630ad762827c8e28185b718a609ba8507"), looks := true }, kinds := [], alts := [], laidByText := true, laidKinds := [.data, .data, .data, .data, .sentinel, .sentinel, .pinned], laidTests := true, laidLooks := .later }
def InboxRequestsUptoCardSaid : Prop := Claim7.holds Tryz.pinned (.plain (OpenSpec.upto inboxRequestsSpec)) inboxRequestsUptoCard

/-- THE SECOND FORM's CARD OF 'conduitlaw08.InboxFirst'. -/
def inboxFirstUptoCard : Claim7 := { stood := { row := inboxFirstUptoRow, standIns := [], harness := (true, "c3fb4a85a970ab1689c13213444658d630ad762827c8e28185b718a609ba8507"), looks := true }, kinds := [], alts := [], laidByText := true, laidKinds := [.data, .data, .data, .data, .sentinel, .sentinel, .pinned], laidTests := true, laidLooks := .later }
def InboxFirstUptoCardSaid : Prop := Claim7.holds Tryz.pinned (.plain (OpenSpec.upto inboxFirstSpec)) inboxFirstUptoCard
end Rows
end Go.Proofs.YtnmldbcgpfglkaaGreatDoor
