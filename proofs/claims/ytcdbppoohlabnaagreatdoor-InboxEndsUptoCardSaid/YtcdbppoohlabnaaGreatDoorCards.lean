/-
  DERIVED. GIVEN WITH THE SEED: THE CARDS: each row of YtcdbppoohlabnaaGreatDoorRows.lean that lists a variable, with what it lists TIED to the program's text (the seventh form; the later family's looks); each row that meets fmt, with fmt's text TOLD by the authors' own Lean function (tested against real Go, not proved from fmt's source: count such statements apart). THE CARD IS WHAT COUNTS. Prove the row's statement (the work); the ties are given (YtcdbppoohlabnaaGreatDoorTie.lean); close each card by the builder's one call (the guide's Derived/Test/ToyasCard.lean, 'card_holds'). Laid BY PROGRAM, IN A SANDBOX (cutbox-door.mjs). By AI agents, Wed Nov 11 2026. No macro, syntax, notation, axiom, sorry.
-/
import Derived.Test.YtcdbppoohlabnaaGreatDoorRows
import GoSem.ClaimSeven
namespace Go.Proofs.YtcdbppoohlabnaaGreatDoor
namespace Rows

/-- THE TIED CARD OF 'conduitlaw12.ObjectDecodes'. -/
def objectDecodesCard : Claim7 := { stood := { row := objectDecodesRow, standIns := [], harness := (true, "d2620971294658f9cc4f8a4ad6734029d13af8a03f013d7cacba4051fdc3a6f2"), looks := true }, kinds := [], alts := [], laidByText := true, laidKinds := [.data, .data, .data, .data, .sentinel, .sentinel, .sentinel, .pinned], laidTests := true, laidLooks := .later }
def ObjectDecodesCardSaid : Prop := Claim7.holds Tryz.pinned (.plain (OpenSpec.ofChange objectDecodesSpec)) objectDecodesCard

/-- THE TIED CARD OF 'conduitlaw12.ObjectRound'. -/
def objectRoundCard : Claim7 := { stood := { row := objectRoundRow, standIns := [], harness := (true, "d2620971294658f9cc4f8a4ad6734029d13af8a03f013d7cacba4051fdc3a6f2"), looks := true }, kinds := [], alts := [], laidByText := true, laidKinds := [.data, .data, .data, .data, .sentinel, .sentinel, .sentinel, .pinned], laidTests := true, laidLooks := .later }
def ObjectRoundCardSaid : Prop := Claim7.holds Tryz.pinned (.plain (OpenSpec.ofChange objectRoundSpec)) objectRoundCard

/-- THE TIED CARD OF 'conduitlaw12.ObjectTells'. -/
def objectTellsCard : Claim7 := { stood := { row := objectTellsRow, standIns := [], harness := (true, "d2620971294658f9cc4f8a4ad6734029d13af8a03f013d7cacba4051fdc3a6f2"), looks := true }, kinds := [], alts := [], laidByText := true, laidKinds := [.data, .data, .data, .data, .sentinel, .sentinel, .sentinel, .pinned], laidTests := true, laidLooks := .later }
def ObjectTellsCardSaid : Prop := Claim7.holds Tryz.pinned (.plain (OpenSpec.ofChange objectTellsSpec)) objectTellsCard

/-- THE TIED CARD OF 'conduitlaw12.ObjectMemory'. -/
def objectMemoryCard : Claim7 := { stood := { row := objectMemoryRow, standIns := [], harness := (true, "d2620971294658f9cc4f8a4ad6734029d13af8a03f013d7cacba4051fdc3a6f2"), looks := true }, kinds := [], alts := [], laidByText := true, laidKinds := [.data, .data, .data, .data, .sentinel, .sentinel, .sentinel, .pinned], laidTests := true, laidLooks := .later }
def ObjectMemoryCardSaid : Prop := Claim7.holds Tryz.pinned (.plain (OpenSpec.ofChange objectMemorySpec)) objectMemoryCard

/-- THE TIED CARD OF 'conduitlaw08.InboxResponses'. -/
def inboxResponsesCard : Claim7 := { stood := { row := inboxResponsesRow, standIns := [], harness := (true, "d2620971294658f9cc4f8a4ad6734029d13af8a03f013d7cacba4051fdc3a6f2"), looks := true }, kinds := [], alts := [], laidByText := true, laidKinds := [.data, .data, .data, .data, .sentinel, .sentinel, .pinned], laidTests := true, laidLooks := .later }
def InboxResponsesCardSaid : Prop := Claim7.holds Tryz.pinned (.plain (OpenSpec.ofChange inboxResponsesSpec)) inboxResponsesCard

/-- THE TIED CARD OF 'conduitlaw08.InboxPieces'. -/
def inboxPiecesCard : Claim7 := { stood := { row := inboxPiecesRow, standIns := [], harness := (true, "d2620971294658f9cc4f8a4ad6734029d13af8a03f013d7cacba4051fdc3a6f2"), looks := true }, kinds := [], alts := [], laidByText := true, laidKinds := [.data, .data, .data, .data, .sentinel, .sentinel, .pinned], laidTests := true, laidLooks := .later }
def InboxPiecesCardSaid : Prop := Claim7.holds Tryz.pinned (.plain (OpenSpec.ofChange inboxPiecesSpec)) inboxPiecesCard

/-- THE TIED CARD OF 'conduitlaw08.InboxBoxes'. -/
def inboxBoxesCard : Claim7 := { stood := { row := inboxBoxesRow, standIns := [], harness := (true, "d2620971294658f9cc4f8a4ad6734029d13af8a03f013d7cacba4051fdc3a6f2"), looks := true }, kinds := [], alts := [], laidByText := true, laidKinds := [.data, .data, .data, .data, .sentinel, .sentinel, .pinned], laidTests := true, laidLooks := .later }
def InboxBoxesCardSaid : Prop := Claim7.holds Tryz.pinned (.plain (OpenSpec.ofChange inboxBoxesSpec)) inboxBoxesCard

/-- THE TIED CARD OF 'conduitlaw08.InboxEnds'. -/
def inboxEndsCard : Claim7 := { stood := { row := inboxEndsRow, standIns := [], harness := (true, "d2620971294658f9cc4f8a4ad6734029d13af8a03f013d7cacba4051fdc3a6f2"), looks := true }, kinds := [], alts := [], laidByText := true, laidKinds := [.data, .data, .data, .data, .sentinel, .sentinel, .pinned], laidTests := true, laidLooks := .later }
def InboxEndsCardSaid : Prop := Claim7.holds Tryz.pinned (.plain (OpenSpec.ofChange inboxEndsSpec)) inboxEndsCard

/-- THE TIED CARD OF 'conduitlaw08.InboxMemory'. -/
def inboxMemoryCard : Claim7 := { stood := { row := inboxMemoryRow, standIns := [], harness := (true, "d2620971294658f9cc4f8a4ad6734029d13af8a03f013d7cacba4051fdc3a6f2"), looks := true }, kinds := [], alts := [], laidByText := true, laidKinds := [.data, .data, .data, .data, .sentinel, .sentinel, .pinned], laidTests := true, laidLooks := .later }
def InboxMemoryCardSaid : Prop := Claim7.holds Tryz.pinned (.plain (OpenSpec.ofChange inboxMemorySpec)) inboxMemoryCard

/-- THE TIED CARD OF 'conduitlaw22.HopFramed'. -/
def hopFramedCard : Claim7 := { stood := { row := hopFramedRow, standIns := [], harness := (true, "d2620971294658f9cc4f8a4ad6734029d13af8a03f013d7cacba4051fdc3a6f2"), looks := true }, kinds := [], alts := [], laidByText := true, laidKinds := [.data, .data, .data, .data, .sentinel, .sentinel, .sentinel, .pinned], laidTests := true, laidLooks := .later }
def HopFramedCardSaid : Prop := Claim7.holds Tryz.pinned (.plain (OpenSpec.ofChange hopFramedSpec)) hopFramedCard

/-- THE TIED CARD OF 'conduitlaw22.HopAsked'. -/
def hopAskedCard : Claim7 := { stood := { row := hopAskedRow, standIns := [], harness := (true, "d2620971294658f9cc4f8a4ad6734029d13af8a03f013d7cacba4051fdc3a6f2"), looks := true }, kinds := [], alts := [], laidByText := true, laidKinds := [.data, .data, .data, .data, .sentinel, .sentinel, .sentinel, .pinned], laidTests := true, laidLooks := .later }
def HopAskedCardSaid : Prop := Claim7.holds Tryz.pinned (.plain (OpenSpec.ofChange hopAskedSpec)) hopAskedCard

/-- THE SECOND FORM's CARD OF 'conduitlaw12.ObjectDecodes'. -/
def objectDecodesUptoCard : Claim7 := { stood := { row := objectDecodesUptoRow, standIns := [], harness := (true, "d2620971294658f9cc4f8a4ad6734029d13af8a03f013d7cacba4051fdc3a6f2"), looks := true }, kinds := [], alts := [], laidByText := true, laidKinds := [.data, .data, .data, .data, .sentinel, .sentinel, .sentinel, .pinned], laidTests := true, laidLooks := .later }
def ObjectDecodesUptoCardSaid : Prop := Claim7.holds Tryz.pinned (.plain (OpenSpec.upto objectDecodesSpec)) objectDecodesUptoCard

/-- THE SECOND FORM's CARD OF 'conduitlaw12.ObjectRound'. -/
def objectRoundUptoCard : Claim7 := { stood := { row := objectRoundUptoRow, standIns := [], harness := (true, "d2620971294658f9cc4f8a4ad6734029d13af8a03f013d7cacba4051fdc3a6f2"), looks := true }, kinds := [], alts := [], laidByText := true, laidKinds := [.data, .data, .data, .data, .sentinel, .sentinel, .sentinel, .pinned], laidTests := true, laidLooks := .later }
def ObjectRoundUptoCardSaid : Prop := Claim7.holds Tryz.pinned (.plain (OpenSpec.upto objectRoundSpec)) objectRoundUptoCard

/-- THE SECOND FORM's CARD OF 'conduitlaw12.ObjectTells'. -/
def objectTellsUptoCard : Claim7 := { stood := { row := objectTellsUptoRow, standIns := [], harness := (true, "d2620971294658f9cc4f8a4ad6734029d13af8a03f013d7cacba4051fdc3a6f2"), looks := true }, kinds := [], alts := [], laidByText := true, laidKinds := [.data, .data, .data, .data, .sentinel, .sentinel, .sentinel, .pinned], laidTests := true, laidLooks := .later }
def ObjectTellsUptoCardSaid : Prop := Claim7.holds Tryz.pinned (.plain (OpenSpec.upto objectTellsSpec)) objectTellsUptoCard

/-- THE SECOND FORM's CARD OF 'conduitlaw12.ObjectMemory'. -/
def objectMemoryUptoCard : Claim7 := { stood := { row := objectMemoryUptoRow, standIns := [], harness := (true, "d2620971294658f9cc4f8a4ad6734029d13af8a03f013d7cacba4051fdc3a6f2"), looks := true }, kinds := [], alts := [], laidByText := true, laidKinds := [.data, .data, .data, .data, .sentinel, .sentinel, .sentinel, .pinned], laidTests := true, laidLooks := .later }
def ObjectMemoryUptoCardSaid : Prop := Claim7.holds Tryz.pinned (.plain (OpenSpec.upto objectMemorySpec)) objectMemoryUptoCard

/-- THE SECOND FORM's CARD OF 'conduitlaw08.InboxResponses'. -/
def inboxResponsesUptoCard : Claim7 := { stood := { row := inboxResponsesUptoRow, standIns := [], harness := (true, "d2620971294658f9cc4f8a4ad6734029d13af8a03f013d7cacba4051fdc3a6f2"), looks := true }, kinds := [], alts := [], laidByText := true, laidKinds := [.data, .data, .data, .data, .sentinel, .sentinel, .pinned], laidTests := true, laidLooks := .later }
def InboxResponsesUptoCardSaid : Prop := Claim7.holds Tryz.pinned (.plain (OpenSpec.upto inboxResponsesSpec)) inboxResponsesUptoCard

/-- THE SECOND FORM's CARD OF 'conduitlaw08.InboxPieces'. -/
def inboxPiecesUptoCard : Claim7 := { stood := { row := inboxPiecesUptoRow, standIns := [], harness := (true, "d2620971294658f9cc4f8a4ad6734029d13af8a03f013d7cacba4051fdc3a6f2"), looks := true }, kinds := [], alts := [], laidByText := true, laidKinds := [.data, .data, .data, .data, .sentinel, .sentinel, .pinned], laidTests := true, laidLooks := .later }
def InboxPiecesUptoCardSaid : Prop := Claim7.holds Tryz.pinned (.plain (OpenSpec.upto inboxPiecesSpec)) inboxPiecesUptoCard

/-- THE SECOND FORM's CARD OF 'conduitlaw08.InboxBoxes'. -/
def inboxBoxesUptoCard : Claim7 := { stood := { row := inboxBoxesUptoRow, standIns := [], harness := (true, "d2620971294658f9cc4f8a4ad6734029d13af8a03f013d7cacba4051fdc3a6f2"), looks := true }, kinds := [], alts := [], laidByText := true, laidKinds := [.data, .data, .data, .data, .sentinel, .sentinel, .pinned], laidTests := true, laidLooks := .later }
def InboxBoxesUptoCardSaid : Prop := Claim7.holds Tryz.pinned (.plain (OpenSpec.upto inboxBoxesSpec)) inboxBoxesUptoCard

/-- THE SECOND FORM's CARD OF 'conduitlaw08.InboxEnds'. -/
def inboxEndsUptoCard : Claim7 := { stood := { row := inboxEndsUptoRow, standIns := [], harness := (true, "d2620971294658f9cc4f8a4ad6734029d13af8a03f013d7cacba4051fdc3a6f2"), looks := true }, kinds := [], alts := [], laidByText := true, laidKinds := [.data, .data, .data, .data, .sentinel, .sentinel, .pinned], laidTests := true, laidLooks := .later }
def InboxEndsUptoCardSaid : Prop := Claim7.holds Tryz.pinned (.plain (OpenSpec.upto inboxEndsSpec)) inboxEndsUptoCard

/-- THE SECOND FORM's CARD OF 'conduitlaw08.InboxMemory'. -/
def inboxMemoryUptoCard : Claim7 := { stood := { row := inboxMemoryUptoRow, standIns := [], harness := (true, "d2620971294658f9cc4f8a4ad6734029d13af8a03f013d7cacba4051fdc3a6f2"), looks := true }, kinds := [], alts := [], laidByText := true, laidKinds := [.data, .data, .data, .data, .sentinel, .sentinel, .pinned], laidTests := true, laidLooks := .later }
def InboxMemoryUptoCardSaid : Prop := Claim7.holds Tryz.pinned (.plain (OpenSpec.upto inboxMemorySpec)) inboxMemoryUptoCard

/-- THE SECOND FORM's CARD OF 'conduitlaw22.HopFramed'. -/
def hopFramedUptoCard : Claim7 := { stood := { row := hopFramedUptoRow, standIns := [], harness := (true, "d2620971294658f9cc4f8a4ad6734029d13af8a03f013d7cacba4051fdc3a6f2"), looks := true }, kinds := [], alts := [], laidByText := true, laidKinds := [.data, .data, .data, .data, .sentinel, .sentinel, .sentinel, .pinned], laidTests := true, laidLooks := .later }
def HopFramedUptoCardSaid : Prop := Claim7.holds Tryz.pinned (.plain (OpenSpec.upto hopFramedSpec)) hopFramedUptoCard

/-- THE SECOND FORM's CARD OF 'conduitlaw22.HopAsked'. -/
def hopAskedUptoCard : Claim7 := { stood := { row := hopAskedUptoRow, standIns := [], harness := (true, "d2620971294658f9cc4f8a4ad6734029d13af8a03f013d7cacba4051fdc3a6f2"), looks := true }, kinds := [], alts := [], laidByText := true, laidKinds := [.data, .data, .data, .data, .sentinel, .sentinel, .sentinel, .pinned], laidTests := true, laidLooks := .later }
def HopAskedUptoCardSaid : Prop := Claim7.holds Tryz.pinned (.plain (OpenSpec.upto hopAskedSpec)) hopAskedUptoCard
end Rows
end Go.Proofs.YtcdbppoohlabnaaGreatDoor
