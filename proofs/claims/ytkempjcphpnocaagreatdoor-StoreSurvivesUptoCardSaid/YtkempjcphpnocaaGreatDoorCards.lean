/-
  DERIVED. GIVEN WITH THE SEED: THE CARDS: each row of YtkempjcphpnocaaGreatDoorRows.lean that lists a variable, with what it lists TIED to the program's text (the seventh form; the later family's looks); each row that meets fmt, with fmt's text TOLD by the authors' own Lean function (tested against real Go, not proved from fmt's source: count such statements apart). THE CARD IS WHAT COUNTS. Prove the row's statement (the work); the ties are given (YtkempjcphpnocaaGreatDoorTie.lean); close each card by the builder's one call (the guide's Derived/Test/ToyasCard.lean, 'card_holds'). Laid BY PROGRAM, IN A SANDBOX (cutbox-door.mjs). By AI agents, Wed Nov 11 2026. No macro, syntax, notation, axiom, sorry.
-/
import Derived.Test.YtkempjcphpnocaaGreatDoorRows
import GoSem.ClaimSeven
namespace Go.Proofs.YtkempjcphpnocaaGreatDoor
namespace Rows

/-- THE TIED CARD OF 'conduitlaw13.StoreRefused'. -/
def storeRefusedCard : Claim7 := { stood := { row := storeRefusedRow, standIns := [], harness := (true, "621a79f830d3ed1c8a2abae8a386a69fa04feba8cc13f0bb54cad2b1e82e0309"), looks := true }, kinds := [], alts := [], laidByText := true, laidKinds := [.data, .data, .data, .data, .sentinel, .sentinel, .sentinel, .pinned], laidTests := true, laidLooks := .later }
def StoreRefusedCardSaid : Prop := Claim7.holds Tryz.pinned (.plain (OpenSpec.ofChange storeRefusedSpec)) storeRefusedCard

/-- THE TIED CARD OF 'conduitlaw13.StoreSurvives'. -/
def storeSurvivesCard : Claim7 := { stood := { row := storeSurvivesRow, standIns := [], harness := (true, "621a79f830d3ed1c8a2abae8a386a69fa04feba8cc13f0bb54cad2b1e82e0309"), looks := true }, kinds := [], alts := [], laidByText := true, laidKinds := [.data, .data, .data, .data, .sentinel, .sentinel, .sentinel, .pinned], laidTests := true, laidLooks := .later }
def StoreSurvivesCardSaid : Prop := Claim7.holds Tryz.pinned (.plain (OpenSpec.ofChange storeSurvivesSpec)) storeSurvivesCard

/-- THE TIED CARD OF 'conduitlaw13.StoreKeeps'. -/
def storeKeepsCard : Claim7 := { stood := { row := storeKeepsRow, standIns := [], harness := (true, "621a79f830d3ed1c8a2abae8a386a69fa04feba8cc13f0bb54cad2b1e82e0309"), looks := true }, kinds := [], alts := [], laidByText := true, laidKinds := [.data, .data, .data, .data, .sentinel, .sentinel, .sentinel, .pinned], laidTests := true, laidLooks := .later }
def StoreKeepsCardSaid : Prop := Claim7.holds Tryz.pinned (.plain (OpenSpec.ofChange storeKeepsSpec)) storeKeepsCard

/-- THE SECOND FORM's CARD OF 'conduitlaw13.StoreRefused'. -/
def storeRefusedUptoCard : Claim7 := { stood := { row := storeRefusedUptoRow, standIns := [], harness := (true, "621a79f830d3ed1c8a2abae8a386a69fa04feba8cc13f0bb54cad2b1e82e0309"), looks := true }, kinds := [], alts := [], laidByText := true, laidKinds := [.data, .data, .data, .data, .sentinel, .sentinel, .sentinel, .pinned], laidTests := true, laidLooks := .later }
def StoreRefusedUptoCardSaid : Prop := Claim7.holds Tryz.pinned (.plain (OpenSpec.upto storeRefusedSpec)) storeRefusedUptoCard

/-- THE SECOND FORM's CARD OF 'conduitlaw13.StoreSurvives'. -/
def storeSurvivesUptoCard : Claim7 := { stood := { row := storeSurvivesUptoRow, standIns := [], harness := (true, "621a79f830d3ed1c8a2abae8a386a69fa04feba8cc13f0bb54cad2b1e82e0309"), looks := true }, kinds := [], alts := [], laidByText := true, laidKinds := [.data, .data, .data, .data, .sentinel, .sentinel, .sentinel, .pinned], laidTests := true, laidLooks := .later }
def StoreSurvivesUptoCardSaid : Prop := Claim7.holds Tryz.pinned (.plain (OpenSpec.upto storeSurvivesSpec)) storeSurvivesUptoCard

/-- THE SECOND FORM's CARD OF 'conduitlaw13.StoreKeeps'. -/
def storeKeepsUptoCard : Claim7 := { stood := { row := storeKeepsUptoRow, standIns := [], harness := (true, "621a79f830d3ed1c8a2abae8a386a69fa04feba8cc13f0bb54cad2b1e82e0309"), looks := true }, kinds := [], alts := [], laidByText := true, laidKinds := [.data, .data, .data, .data, .sentinel, .sentinel, .sentinel, .pinned], laidTests := true, laidLooks := .later }
def StoreKeepsUptoCardSaid : Prop := Claim7.holds Tryz.pinned (.plain (OpenSpec.upto storeKeepsSpec)) storeKeepsUptoCard
end Rows
end Go.Proofs.YtkempjcphpnocaaGreatDoor
