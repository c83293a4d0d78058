/-
  DERIVED. GIVEN WITH THE SEED: THE CARDS: each row of YtcoohkgamogmgaaDoorRows.lean that lists a variable, with what it lists TIED to the program's text (the seventh form; the later family's looks); each row that meets fmt, with fmt's text TOLD by the authors' own Lean function (tested against real Go, not proved from fmt's source: count such statements apart). THE CARD IS WHAT COUNTS. Prove the row's statement (the work); the ties are given (YtcoohkgamogmgaaDoorTie.lean); close each card by the builder's one call (the guide's Derived/Test/ToyasCard.lean, 'card_holds'). Laid BY PROGRAM, IN A SANDBOX (cutbox-door.mjs). By AI agents, Wed Nov 11 2026. No macro, syntax, notation, axiom, sorry.
-/
import Derived.Test.YtcoohkgamogmgaaDoorRows
import GoSem.ClaimSeven
namespace Go.Proofs.YtcoohkgamogmgaaDoor
namespace Rows

/-- THE TIED CARD OF 'conduitlaw22.HopStrips'. -/
def hopStripsCard : Claim7 := { stood := { row := hopStripsRow, standIns := [], harness := (true, "3999192e076aa6066ee618abb47805d19214283b0790e41bd93fc9fc2e52ddde"), looks := false }, kinds := [], alts := [], laidByText := true, laidKinds := [.data, .data, .data, .data, .pinned], laidTests := true, laidLooks := .later }
def HopStripsCardSaid : Prop := Claim7.holds Tryd.pinned (.plain (OpenSpec.ofChange hopStripsSpec)) hopStripsCard

/-- THE TIED CARD OF 'conduitlaw22.HopReplies'. -/
def hopRepliesCard : Claim7 := { stood := { row := hopRepliesRow, standIns := [], harness := (true, "3999192e076aa6066ee618abb47805d19214283b0790e41bd93fc9fc2e52ddde"), looks := false }, kinds := [], alts := [], laidByText := true, laidKinds := [.data, .data, .data, .data, .pinned], laidTests := true, laidLooks := .later }
def HopRepliesCardSaid : Prop := Claim7.holds Tryd.pinned (.plain (OpenSpec.ofChange hopRepliesSpec)) hopRepliesCard

/-- THE TIED CARD OF 'conduitlaw22.HopTwice'. -/
def hopTwiceCard : Claim7 := { stood := { row := hopTwiceRow, standIns := [], harness := (true, "3999192e076aa6066ee618abb47805d19214283b0790e41bd93fc9fc2e52ddde"), looks := false }, kinds := [], alts := [], laidByText := true, laidKinds := [.data, .data, .data, .data, .pinned], laidTests := true, laidLooks := .later }
def HopTwiceCardSaid : Prop := Claim7.holds Tryd.pinned (.plain (OpenSpec.ofChange hopTwiceSpec)) hopTwiceCard

/-- THE TIED CARD OF 'conduitlaw12.ObjectEncodes'. -/
def objectEncodesCard : Claim7 := { stood := { row := objectEncodesRow, standIns := [], harness := (true, "3999192e076aa6066ee618abb47805d19214283b0790e41bd93fc9fc2e52ddde"), looks := false }, kinds := [], alts := [], laidByText := true, laidKinds := [.data, .data, .data, .data, .sentinel, .pinned], laidTests := true, laidLooks := .later }
def ObjectEncodesCardSaid : Prop := Claim7.holds Tryd.pinned (.plain (OpenSpec.ofChange objectEncodesSpec)) objectEncodesCard

/-- THE TIED CARD OF 'conduitlaw22.HopClean'. -/
def hopCleanCard : Claim7 := { stood := { row := hopCleanRow, standIns := [], harness := (true, "3999192e076aa6066ee618abb47805d19214283b0790e41bd93fc9fc2e52ddde"), looks := false }, kinds := [], alts := [], laidByText := true, laidKinds := [.data, .data, .data, .data, .pinned], laidTests := true, laidLooks := .later }
def HopCleanCardSaid : Prop := Claim7.holds Tryd.pinned (.plain (OpenSpec.ofChange hopCleanSpec)) hopCleanCard

/-- THE TIED CARD OF 'conduitlaw22.HopSends'. -/
def hopSendsCard : Claim7 := { stood := { row := hopSendsRow, standIns := [], harness := (true, "3999192e076aa6066ee618abb47805d19214283b0790e41bd93fc9fc2e52ddde"), looks := false }, kinds := [], alts := [], laidByText := true, laidKinds := [.data, .data, .data, .data, .pinned], laidTests := true, laidLooks := .later }
def HopSendsCardSaid : Prop := Claim7.holds Tryd.pinned (.plain (OpenSpec.ofChange hopSendsSpec)) hopSendsCard

/-- THE TIED CARD OF 'conduitlaw22.HopAsks'. -/
def hopAsksCard : Claim7 := { stood := { row := hopAsksRow, standIns := [], harness := (true, "3999192e076aa6066ee618abb47805d19214283b0790e41bd93fc9fc2e52ddde"), looks := false }, kinds := [], alts := [], laidByText := true, laidKinds := [.data, .data, .data, .data, .sentinel, .pinned], laidTests := true, laidLooks := .later }
def HopAsksCardSaid : Prop := Claim7.holds Tryd.pinned (.plain (OpenSpec.ofChange hopAsksSpec)) hopAsksCard

/-- THE TIED CARD OF 'conduitlaw05.HeadRequests'. -/
def headRequestsCard : Claim7 := { stood := { row := headRequestsRow, standIns := [], harness := (true, "3999192e076aa6066ee618abb47805d19214283b0790e41bd93fc9fc2e52ddde"), looks := false }, kinds := [], alts := [], laidByText := true, laidKinds := [.data, .pinned], laidTests := true, laidLooks := .later }
def HeadRequestsCardSaid : Prop := Claim7.holds Tryd.pinned (.plain (OpenSpec.ofChange headRequestsSpec)) headRequestsCard

/-- THE TIED CARD OF 'conduitlaw05.HeadHosts'. -/
def headHostsCard : Claim7 := { stood := { row := headHostsRow, standIns := [], harness := (true, "3999192e076aa6066ee618abb47805d19214283b0790e41bd93fc9fc2e52ddde"), looks := false }, kinds := [], alts := [], laidByText := true, laidKinds := [.data, .pinned], laidTests := true, laidLooks := .later }
def HeadHostsCardSaid : Prop := Claim7.holds Tryd.pinned (.plain (OpenSpec.ofChange headHostsSpec)) headHostsCard

/-- THE SECOND FORM's CARD OF 'conduitlaw22.HopStrips'. -/
def hopStripsUptoCard : Claim7 := { stood := { row := hopStripsUptoRow, standIns := [], harness := (true, "3999192e076aa6066ee618abb47805d19214283b0790e41bd93fc9fc2e52ddde"), looks := false }, kinds := [], alts := [], laidByText := true, laidKinds := [.data, .data, .data, .data, .pinned], laidTests := true, laidLooks := .later }
def HopStripsUptoCardSaid : Prop := Claim7.holds Tryd.pinned (.plain (OpenSpec.upto hopStripsSpec)) hopStripsUptoCard

/-- THE SECOND FORM's CARD OF 'conduitlaw22.HopReplies'. -/
def hopRepliesUptoCard : Claim7 := { stood := { row := hopRepliesUptoRow, standIns := [], harness := (true, "3999192e076aa6066ee618abb47805d19214283b0790e41bd93fc9fc2e52ddde"), looks := false }, kinds := [], alts := [], laidByText := true, laidKinds := [.data, .data, .data, .data, .pinned], laidTests := true, laidLooks := .later }
def HopRepliesUptoCardSaid : Prop := Claim7.holds Tryd.pinned (.plain (OpenSpec.upto hopRepliesSpec)) hopRepliesUptoCard

/-- THE SECOND FORM's CARD OF 'conduitlaw22.HopTwice'. -/
def hopTwiceUptoCard : Claim7 := { stood := { row := hopTwiceUptoRow, standIns := [], harness := (true, "3999192e076aa6066ee618abb47805d19214283b0790e41bd93fc9fc2e52ddde"), looks := false }, kinds := [], alts := [], laidByText := true, laidKinds := [.data, .data, .data, .data, .pinned], laidTests := true, laidLooks := .later }
def HopTwiceUptoCardSaid : Prop := Claim7.holds Tryd.pinned (.plain (OpenSpec.upto hopTwiceSpec)) hopTwiceUptoCard

/-- THE SECOND FORM's CARD OF 'conduitlaw12.ObjectEncodes'. -/
def objectEncodesUptoCard : Claim7 := { stood := { row := objectEncodesUptoRow, standIns := [], harness := (true, "3999192e076aa6066ee618abb47805d19214283b0790e41bd93fc9fc2e52ddde"), looks := false }, kinds := [], alts := [], laidByText := true, laidKinds := [.data, .data, .data, .data, .sentinel, .pinned], laidTests := true, laidLooks := .later }
def ObjectEncodesUptoCardSaid : Prop := Claim7.holds Tryd.pinned (.plain (OpenSpec.upto objectEncodesSpec)) objectEncodesUptoCard

/-- THE SECOND FORM's CARD OF 'conduitlaw22.HopClean'. -/
def hopCleanUptoCard : Claim7 := { stood := { row := hopCleanUptoRow, standIns := [], harness := (true, "3999192e076aa6066ee618abb47805d19214283b0790e41bd93fc9fc2e52ddde"), looks := false }, kinds := [], alts := [], laidByText := true, laidKinds := [.data, .data, .data, .data, .pinned], laidTests := true, laidLooks := .later }
def HopCleanUptoCardSaid : Prop := Claim7.holds Tryd.pinned (.plain (OpenSpec.upto hopCleanSpec)) hopCleanUptoCard

/-- THE SECOND FORM's CARD OF 'conduitlaw22.HopSends'. -/
def hopSendsUptoCard : Claim7 := { stood := { row := hopSendsUptoRow, standIns := [], harness := (true, "3999192e076aa6066ee618abb47805d19214283b0790e41bd93fc9fc2e52ddde"), looks := false }, kinds := [], alts := [], laidByText := true, laidKinds := [.data, .data, .data, .data, .pinned], laidTests := true, laidLooks := .later }
def HopSendsUptoCardSaid : Prop := Claim7.holds Tryd.pinned (.plain (OpenSpec.upto hopSendsSpec)) hopSendsUptoCard

/-- THE SECOND FORM's CARD OF 'conduitlaw22.HopAsks'. -/
def hopAsksUptoCard : Claim7 := { stood := { row := hopAsksUptoRow, standIns := [], harness := (true, "3999192e076aa6066ee618abb47805d19214283b0790e41bd93fc9fc2e52ddde"), looks := false }, kinds := [], alts := [], laidByText := true, laidKinds := [.data, .data, .data, .data, .sentinel, .pinned], laidTests := true, laidLooks := .later }
def HopAsksUptoCardSaid : Prop := Claim7.holds Tryd.pinned (.plain (OpenSpec.upto hopAsksSpec)) hopAsksUptoCard

/-- THE SECOND FORM's CARD OF 'conduitlaw05.HeadRequests'. -/
def headRequestsUptoCard : Claim7 := { stood := { row := headRequestsUptoRow, standIns := [], harness := (true, "3999192e076aa6066ee618abb47805d19214283b0790e41bd93fc9fc2e52ddde"), looks := false }, kinds := [], alts := [], laidByText := true, laidKinds := [.data, .pinned], laidTests := true, laidLooks := .later }
def HeadRequestsUptoCardSaid : Prop := Claim7.holds Tryd.pinned (.plain (OpenSpec.upto headRequestsSpec)) headRequestsUptoCard

/-- THE SECOND FORM's CARD OF 'conduitlaw05.HeadHosts'. -/
def headHostsUptoCard : Claim7 := { stood := { row := headHostsUptoRow, standIns := [], harness := (true, "3999192e076aa6066ee618abb47805d19214283b0790e41bd93fc9fc2e52ddde"), looks := false }, kinds := [], alts := [], laidByText := true, laidKinds := [.data, .pinned], laidTests := true, laidLooks := .later }
def HeadHostsUptoCardSaid : Prop := Claim7.holds Tryd.pinned (.plain (OpenSpec.upto headHostsSpec)) headHostsUptoCard
end Rows
end Go.Proofs.YtcoohkgamogmgaaDoor
