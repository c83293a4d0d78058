/-
  DERIVED. GIVEN WITH THE SEED: THE CARDS: each row of YthjeglnkgdpijaaGreatDoorRows.lean that lists a variable, with what it lists TIED to the program's text (the seventh form; the later family's looks); each row that meets fmt, with fmt's text TOLD by the authors' own Lean function (tested against real Go, not proved from fmt's source: count such statements apart). THE CARD IS WHAT COUNTS. Prove the row's statement (the work); the ties are given (YthjeglnkgdpijaaGreatDoorTie.lean); close each card by the builder's one call (the guide's Derived/Test/ToyasCard.lean, 'card_holds'). Laid BY PROGRAM, IN A SANDBOX (cutbox-door.mjs). By AI agents, Wed Nov 11 2026. No macro, syntax, notation, axiom, sorry.
-/
import Derived.Test.YthjeglnkgdpijaaGreatDoorRows
import GoSem.ClaimSeven
namespace Go.Proofs.YthjeglnkgdpijaaGreatDoor
namespace Rows

/-- THE TIED CARD OF 'conduitlaw20.CacheFinds'. -/
def cacheFindsCard : Claim7 := { stood := { row := cacheFindsRow, standIns := [], harness := (true, "6489fb89b69f2956564687c9f3e0e82d0b099a3d3ccff236f2552afc470c3347"), looks := true }, kinds := [], alts := [], laidByText := true, laidKinds := [.data, .data, .data, .data, .sentinel, .sentinel, .sentinel, .pinned], laidTests := true, laidLooks := .later }
def CacheFindsCardSaid : Prop := Claim7.holds Tryz.pinned (.plain (OpenSpec.ofChange cacheFindsSpec)) cacheFindsCard

/-- THE TIED CARD OF 'conduitlaw20.CacheTiers'. -/
def cacheTiersCard : Claim7 := { stood := { row := cacheTiersRow, standIns := [], harness := (true, "6489fb89b69f2956564687c9f3e0e82d0b099a3d3ccff236f2552afc470c3347"), looks := true }, kinds := [], alts := [], laidByText := true, laidKinds := [.data, .data, .data, .data, .sentinel, .sentinel, .sentinel, .pinned], laidTests := true, laidLooks := .later }
def CacheTiersCardSaid : Prop := Claim7.holds Tryz.pinned (.plain (OpenSpec.ofChange cacheTiersSpec)) cacheTiersCard

/-- THE TIED CARD OF 'conduitlaw20.CacheNewest'. -/
def cacheNewestCard : Claim7 := { stood := { row := cacheNewestRow, standIns := [], harness := (true, "6489fb89b69f2956564687c9f3e0e82d0b099a3d3ccff236f2552afc470c3347"), looks := true }, kinds := [], alts := [], laidByText := true, laidKinds := [.data, .data, .data, .data, .sentinel, .sentinel, .sentinel, .pinned], laidTests := true, laidLooks := .later }
def CacheNewestCardSaid : Prop := Claim7.holds Tryz.pinned (.plain (OpenSpec.ofChange cacheNewestSpec)) cacheNewestCard

/-- THE SECOND FORM's CARD OF 'conduitlaw20.CacheFinds'. -/
def cacheFindsUptoCard : Claim7 := { stood := { row := cacheFindsUptoRow, standIns := [], harness := (true, "6489fb89b69f2956564687c9f3e0e82d0b099a3d3ccff236f2552afc470c3347"), looks := true }, kinds := [], alts := [], laidByText := true, laidKinds := [.data, .data, .data, .data, .sentinel, .sentinel, .sentinel, .pinned], laidTests := true, laidLooks := .later }
def CacheFindsUptoCardSaid : Prop := Claim7.holds Tryz.pinned (.plain (OpenSpec.upto cacheFindsSpec)) cacheFindsUptoCard

/-- THE SECOND FORM's CARD OF 'conduitlaw20.CacheTiers'. -/
def cacheTiersUptoCard : Claim7 := { stood := { row := cacheTiersUptoRow, standIns := [], harness := (true, "6489fb89b69f2956564687c9f3e0e82d0b099a3d3ccff236f2552afc470c3347"), looks := true }, kinds := [], alts := [], laidByText := true, laidKinds := [.data, .data, .data, .data, .sentinel, .sentinel, .sentinel, .pinned], laidTests := true, laidLooks := .later }
def CacheTiersUptoCardSaid : Prop := Claim7.holds Tryz.pinned (.plain (OpenSpec.upto cacheTiersSpec)) cacheTiersUptoCard

/-- THE SECOND FORM's CARD OF 'conduitlaw20.CacheNewest'. -/
def cacheNewestUptoCard : Claim7 := { stood := { row := cacheNewestUptoRow, standIns := [], harness := (true, "6489fb89b69f2956564687c9f3e0e82d0b099a3d3ccff236f2552afc470c3347"), looks := true }, kinds := [], alts := [], laidByText := true, laidKinds := [.data, .data, .data, .data, .sentinel, .sentinel, .sentinel, .pinned], laidTests := true, laidLooks := .later }
def CacheNewestUptoCardSaid : Prop := Claim7.holds Tryz.pinned (.plain (OpenSpec.upto cacheNewestSpec)) cacheNewestUptoCard
end Rows
end Go.Proofs.YthjeglnkgdpijaaGreatDoor
