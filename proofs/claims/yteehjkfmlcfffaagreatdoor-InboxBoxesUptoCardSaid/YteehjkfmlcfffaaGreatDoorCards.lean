/-
  DERIVED. GIVEN WITH THE SEED: THE CARDS: each row of YteehjkfmlcfffaaGreatDoorRows.lean that lists a variable, with what it lists TIED to the program's text (the seventh form; the later family's looks); each row that meets fmt, with fmt's text TOLD by the authors' own Lean function (tested against real Go, not proved from fmt's source: count such statements apart). THE CARD IS WHAT COUNTS. Prove the row's statement (the work); the ties are given (YteehjkfmlcfffaaGreatDoorTie.lean); close each card by the builder's one call (the guide's Derived/Test/ToyasCard.lean, 'card_holds'). Laid BY PROGRAM, IN A SANDBOX (cutbox-door.mjs). By AI agents, Wed Nov 11 2026. No macro, syntax, notation, axiom, sorry.
-/
import Derived.Test.YteehjkfmlcfffaaGreatDoorRows
import GoSem.ClaimSeven
namespace Go.Proofs.YteehjkfmlcfffaaGreatDoor
namespace Rows

/-- THE TIED CARD OF 'conduitlaw08.InboxResponses'. -/
def inboxResponsesCard : Claim7 := { stood := { row := inboxResponsesRow, standIns := [], harness := (true, "92b085ce35e161f5c25ffbcd8866ab790a79f43fea091e1467ee8bce8f63f8b0"), looks := true }, kinds := [], alts := [], laidByText := true, laidKinds := [.data, .data, .data, .data, .sentinel, .sentinel, .pinned], laidTests := true, laidLooks := .later }
def InboxResponsesCardSaid : Prop := Claim7.holds Tryz.pinned (.plain (OpenSpec.ofChange inboxResponsesSpec)) inboxResponsesCard

/-- THE TIED CARD OF 'conduitlaw08.InboxPieces'. -/
def inboxPiecesCard : Claim7 := { stood := { row := inboxPiecesRow, standIns := [], harness := (true, "92b085ce35e161f5c25ffbcd8866ab790a79f43fea091e1467ee8bce8f63f8b0"), looks := true }, kinds := [], alts := [], laidByText := true, laidKinds := [.data, .data, .data, .data, .sentinel, .sentinel, .pinned], laidTests := true, laidLooks := .later }
def InboxPiecesCardSaid : Prop := Claim7.holds Tryz.pinned (.plain (OpenSpec.ofChange inboxPiecesSpec)) inboxPiecesCard

/-- THE TIED CARD OF 'conduitlaw08.InboxBoxes'. -/
def inboxBoxesCard : Claim7 := { stood := { row := inboxBoxesRow, standIns := [], harness := (true, "92b085ce35e161f5c25ffbcd8866ab790a79f43fea091e1467ee8bce8f63f8b0"), looks := true }, kinds := [], alts := [], laidByText := true, laidKinds := [.data, .data, .data, .data, .sentinel, .sentinel, .pinned], laidTests := true, laidLooks := .later }
def InboxBoxesCardSaid : Prop := Claim7.holds Tryz.pinned (.plain (OpenSpec.ofChange inboxBoxesSpec)) inboxBoxesCard

/-- THE TIED CARD OF 'conduitlaw08.InboxMemory'. -/
def inboxMemoryCard : Claim7 := { stood := { row := inboxMemoryRow, standIns := [], harness := (true, "92b085ce35e161f5c25ffbcd8866ab790a79f43fea091e1467ee8bce8f63f8b0"), looks := true }, kinds := [], alts := [], laidByText := true, laidKinds := [.data, .data, .data, .data, .sentinel, .sentinel, .pinned], laidTests := true, laidLooks := .later }
def InboxMemoryCardSaid : Prop := Claim7.holds Tryz.pinned (.plain (OpenSpec.ofChange inboxMemorySpec)) inboxMemoryCard

/-- THE TIED CARD OF 'conduitlaw22.HopFramed'. -/
def hopFramedCard : Claim7 := { stood := { row := hopFramedRow, standIns := [], harness := (true, "92b085ce35e161f5c25ffbcd8866ab790a79f43fea091e1467ee8bce8f63f8b0"), looks := true }, kinds := [], alts := [], laidByText := true, laidKinds := [.data, .data, .data, .data, .sentinel, .sentinel, .sentinel, .pinned], laidTests := true, laidLooks := .later }
def HopFramedCardSaid : Prop := Claim7.holds Tryz.pinned (.plain (OpenSpec.ofChange hopFramedSpec)) hopFramedCard

/-- THE TIED CARD OF 'conduitlaw22.HopAsked'. -/
def hopAskedCard : Claim7 := { stood := { row := hopAskedRow, standIns := [], harness := (true, "92b085ce35e161f5c25ffbcd8866ab790a79f43fea091e1467ee8bce8f63f8b0"), looks := true }, kinds := [], alts := [], laidByText := true, laidKinds := [.data, .data, .data, .data, .sentinel, .sentinel, .sentinel, .pinned], laidTests := true, laidLooks := .later }
def HopAskedCardSaid : Prop := Claim7.holds Tryz.pinned (.plain (OpenSpec.ofChange hopAskedSpec)) hopAskedCard

/-- THE TIED CARD OF 'conduitlaw13.StoreRefused'. -/
def storeRefusedCard : Claim7 := { stood := { row := storeRefusedRow, standIns := [], harness := (true, "92b085ce35e161f5c25ffbcd8866ab790a79f43fea091e1467ee8bce8f63f8b0"), looks := true }, kinds := [], alts := [], laidByText := true, laidKinds := [.data, .data, .data, .data, .sentinel, .sentinel, .sentinel, .pinned], laidTests := true, laidLooks := .later }
def StoreRefusedCardSaid : Prop := Claim7.holds Tryz.pinned (.plain (OpenSpec.ofChange storeRefusedSpec)) storeRefusedCard

/-- THE TIED CARD OF 'conduitlaw13.StoreSteps'. -/
def storeStepsCard : Claim7 := { stood := { row := storeStepsRow, standIns := [], harness := (true, "92b085ce35e161f5c25ffbcd8866ab790a79f43fea091e1467ee8bce8f63f8b0"), looks := true }, kinds := [], alts := [], laidByText := true, laidKinds := [.data, .data, .data, .data, .sentinel, .sentinel, .sentinel, .pinned], laidTests := true, laidLooks := .later }
def StoreStepsCardSaid : Prop := Claim7.holds Tryz.pinned (.plain (OpenSpec.ofChange storeStepsSpec)) storeStepsCard

/-- THE TIED CARD OF 'conduitlaw13.StoreSurvives'. -/
def storeSurvivesCard : Claim7 := { stood := { row := storeSurvivesRow, standIns := [], harness := (true, "92b085ce35e161f5c25ffbcd8866ab790a79f43fea091e1467ee8bce8f63f8b0"), looks := true }, kinds := [], alts := [], laidByText := true, laidKinds := [.data, .data, .data, .data, .sentinel, .sentinel, .sentinel, .pinned], laidTests := true, laidLooks := .later }
def StoreSurvivesCardSaid : Prop := Claim7.holds Tryz.pinned (.plain (OpenSpec.ofChange storeSurvivesSpec)) storeSurvivesCard

/-- THE TIED CARD OF 'conduitlaw13.StoreKeeps'. -/
def storeKeepsCard : Claim7 := { stood := { row := storeKeepsRow, standIns := [], harness := (true, "92b085ce35e161f5c25ffbcd8866ab790a79f43fea091e1467ee8bce8f63f8b0"), looks := true }, kinds := [], alts := [], laidByText := true, laidKinds := [.data, .data, .data, .data, .sentinel, .sentinel, .sentinel, .pinned], laidTests := true, laidLooks := .later }
def StoreKeepsCardSaid : Prop := Claim7.holds Tryz.pinned (.plain (OpenSpec.ofChange storeKeepsSpec)) storeKeepsCard

/-- THE SECOND FORM's CARD OF 'conduitlaw08.InboxResponses'. -/
def inboxResponsesUptoCard : Claim7 := { stood := { row := inboxResponsesUptoRow, standIns := [], harness := (true, "92b085ce35e161f5c25ffbcd8866ab790a79f43fea091e1467ee8bce8f63f8b0"), looks := true }, kinds := [], alts := [], laidByText := true, laidKinds := [.data, .data, .data, .data, .sentinel, .sentinel, .pinned], laidTests := true, laidLooks := .later }
def InboxResponsesUptoCardSaid : Prop := Claim7.holds Tryz.pinned (.plain (OpenSpec.upto inboxResponsesSpec)) inboxResponsesUptoCard

/-- THE SECOND FORM's CARD OF 'conduitlaw08.InboxPieces'. -/
def inboxPiecesUptoCard : Claim7 := { stood := { row := inboxPiecesUptoRow, standIns := [], harness := (true, "92b085ce35e161f5c25ffbcd8866ab790a79f43fea091e1467ee8bce8f63f8b0"), looks := true }, kinds := [], alts := [], laidByText := true, laidKinds := [.data, .data, .data, .data, .sentinel, .sentinel, .pinned], laidTests := true, laidLooks := .later }
def InboxPiecesUptoCardSaid : Prop := Claim7.holds Tryz.pinned (.plain (OpenSpec.upto inboxPiecesSpec)) inboxPiecesUptoCard

/-- THE SECOND FORM's CARD OF 'conduitlaw08.InboxBoxes'. -/
def inboxBoxesUptoCard : Claim7 := { stood := { row := inboxBoxesUptoRow, standIns := [], harness := (true, "92b085ce35e161f5c25ffbcd8866ab790a79f43fea091e1467ee8bce8f63f8b0"), looks := true }, kinds := [], alts := [], laidByText := true, laidKinds := [.data, .data, .data, .data, .sentinel, .sentinel, .pinned], laidTests := true, laidLooks := .later }
def InboxBoxesUptoCardSaid : Prop := Claim7.holds Tryz.pinned (.plain (OpenSpec.upto inboxBoxesSpec)) inboxBoxesUptoCard

/-- THE SECOND FORM's CARD OF 'conduitlaw08.InboxMemory'. -/
def inboxMemoryUptoCard : Claim7 := { stood := { row := inboxMemoryUptoRow, standIns := [], harness := (true, "92b085ce35e161f5c25ffbcd8866ab790a79f43fea091e1467ee8bce8f63f8b0"), looks := true }, kinds := [], alts := [], laidByText := true, laidKinds := [.data, .data, .data, .data, .sentinel, .sentinel, .pinned], laidTests := true, laidLooks := .later }
def InboxMemoryUptoCardSaid : Prop := Claim7.holds Tryz.pinned (.plain (OpenSpec.upto inboxMemorySpec)) inboxMemoryUptoCard

/-- THE SECOND FORM's CARD OF 'conduitlaw22.HopFramed'. -/
def hopFramedUptoCard : Claim7 := { stood := { row := hopFramedUptoRow, standIns := [], harness := (true, "92b085ce35e161f5c25ffbcd8866ab790a79f43fea091e1467ee8bce8f63f8b0"), looks := true }, kinds := [], alts := [], laidByText := true, laidKinds := [.data, .data, .data, .data, .sentinel, .sentinel, .sentinel, .pinned], laidTests := true, laidLooks := .later }
def HopFramedUptoCardSaid : Prop := Claim7.holds Tryz.pinned (.plain (OpenSpec.upto hopFramedSpec)) hopFramedUptoCard

/-- THE SECOND FORM's CARD OF 'conduitlaw22.HopAsked'. -/
def hopAskedUptoCard : Claim7 := { stood := { row := hopAskedUptoRow, standIns := [], harness := (true, "92b085ce35e161f5c25ffbcd8866ab790a79f43fea091e1467ee8bce8f63f8b0"), looks := true }, kinds := [], alts := [], laidByText := true, laidKinds := [.data, .data, .data, .data, .sentinel, .sentinel, .sentinel, .pinned], laidTests := true, laidLooks := .later }
def HopAskedUptoCardSaid : Prop := Claim7.holds Tryz.pinned (.plain (OpenSpec.upto hopAskedSpec)) hopAskedUptoCard

/-- THE SECOND FORM's CARD OF 'conduitlaw13.StoreRefused'. -/
def storeRefusedUptoCard : Claim7 := { stood := { row := storeRefusedUptoRow, standIns := [], harness := (true, "92b085ce35e161f5c25ffbcd8866ab790a79f43fea091e1467ee8bce8f63f8b0"), looks := true }, kinds := [], alts := [], laidByText := true, laidKinds := [.data, .data, .data, .data, .sentinel, .sentinel, .sentinel, .pinned], laidTests := true, laidLooks := .later }
def StoreRefusedUptoCardSaid : Prop := Claim7.holds Tryz.pinned (.plain (OpenSpec.upto storeRefusedSpec)) storeRefusedUptoCard

/-- THE SECOND FORM's CARD OF 'conduitlaw13.StoreSteps'. -/
def storeStepsUptoCard : Claim7 := { stood := { row := storeStepsUptoRow, standIns := [], harness := (true, "92b085ce35e161f5c25ffbcd8866ab790a79f43fea091e1467ee8bce8f63f8b0"), looks := true }, kinds := [], alts := [], laidByText := true, laidKinds := [.data, .data, .data, .data, .sentinel, .sentinel, .sentinel, .pinned], laidTests := true, laidLooks := .later }
def StoreStepsUptoCardSaid : Prop := Claim7.holds Tryz.pinned (.plain (OpenSpec.upto storeStepsSpec)) storeStepsUptoCard

/-- THE SECOND FORM's CARD OF 'conduitlaw13.StoreSurvives'. -/
def storeSurvivesUptoCard : Claim7 := { stood := { row := storeSurvivesUptoRow, standIns := [], harness := (true, "92b085ce35e161f5c25ffbcd8866ab790a79f43fea091e1467ee8bce8f63f8b0"), looks := true }, kinds := [], alts := [], laidByText := true, laidKinds := [.data, .data, .data, .data, .sentinel, .sentinel, .sentinel, .pinned], laidTests := true, laidLooks := .later }
def StoreSurvivesUptoCardSaid : Prop := Claim7.holds Tryz.pinned (.plain (OpenSpec.upto storeSurvivesSpec)) storeSurvivesUptoCard

/-- THE SECOND FORM's CARD OF 'conduitlaw13.StoreKeeps'. -/
def storeKeepsUptoCard : Claim7 := { stood := { row := storeKeepsUptoRow, standIns := [], harness := (true, "92b085ce35e161f5c25ffbcd8866ab790a79f43fea091e1467ee8bce8f63f8b0"), looks := true }, kinds := [], alts := [], laidByText := true, laidKinds := [.data, .data, .data, .data, .sentinel, .sentinel, .sentinel, .pinned], laidTests := true, laidLooks := .later }
def StoreKeepsUptoCardSaid : Prop := Claim7.holds Tryz.pinned (.plain (OpenSpec.upto storeKeepsSpec)) storeKeepsUptoCard
end Rows
end Go.Proofs.YteehjkfmlcfffaaGreatDoor
