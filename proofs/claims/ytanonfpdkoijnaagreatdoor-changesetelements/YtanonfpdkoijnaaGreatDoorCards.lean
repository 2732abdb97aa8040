/-
  DERIVED. GIVEN WITH THE SEED: THE CARDS: each row of YtanonfpdkoijnaaGreatDoorRows.lean that lists a variable, with what it lists TIED to the program's text (the seventh form; the later family's looks); each row that meets fmt, with fmt's text TOLD by the authors' own Lean function (tested against real Go, not proved from fmt's source: count such statements apart). THE CARD IS WHAT COUNTS. Prove the row's statement (the work); the ties are given (YtanonfpdkoijnaaGreatDoorTie.lean); close each card by the builder's one call (the guide's Derived/Test/ToyasCard.lean, 'card_holds'). Laid BY PROGRAM, IN A SANDBOX (cutbox-door.mjs). By AI agents, Wed Nov 11 2026. No macro, syntax, notation, axiom, sorry.
-/
import Derived.Test.YtanonfpdkoijnaaGreatDoorRows
import GoSem.ClaimSeven
namespace Go.Proofs.YtanonfpdkoijnaaGreatDoor
namespace Rows

/-- THE TIED CARD OF 'mapsheetslaw28.ChangesetElements'. -/
def changesetElementsCard : Claim7 := { stood := { row := changesetElementsRow, standIns := [], harness := (true, "81b7727abbcd2df420f409016c33e39131021e71c5666dc3c700c6ec36114905"), looks := false }, kinds := [], alts := [], laidByText := true, laidKinds := [.data], laidTests := true, laidLooks := .later }
def ChangesetElementsCardSaid : Prop := Claim7.holds Tryz.pinned (.plain (OpenSpec.ofChange changesetElementsSpec)) changesetElementsCard

/-- THE TIED CARD OF 'mapsheetslaw28.ChangesetCompacts'. -/
def changesetCompactsCard : Claim7 := { stood := { row := changesetCompactsRow, standIns := [], harness := (true, "81b7727abbcd2df420f409016c33e39131021e71c5666dc3c700c6ec36114905"), looks := false }, kinds := [], alts := [], laidByText := true, laidKinds := [.data], laidTests := true, laidLooks := .later }
def ChangesetCompactsCardSaid : Prop := Claim7.holds Tryz.pinned (.plain (OpenSpec.ofChange changesetCompactsSpec)) changesetCompactsCard

/-- THE SECOND FORM's CARD OF 'mapsheetslaw28.ChangesetElements'. -/
def changesetElementsUptoCard : Claim7 := { stood := { row := changesetElementsUptoRow, standIns := [], harness := (true, "81b7727abbcd2df420f409016c33e39131021e71c5666dc3c700c6ec36114905"), looks := false }, kinds := [], alts := [], laidByText := true, laidKinds := [.data], laidTests := true, laidLooks := .later }
def ChangesetElementsUptoCardSaid : Prop := Claim7.holds Tryz.pinned (.plain (OpenSpec.upto changesetElementsSpec)) changesetElementsUptoCard

/-- THE SECOND FORM's CARD OF 'mapsheetslaw28.ChangesetCompacts'. -/
def changesetCompactsUptoCard : Claim7 := { stood := { row := changesetCompactsUptoRow, standIns := [], harness := (true, "81b7727abbcd2df420f409016c33e39131021e71c5666dc3c700c6ec36114905"), looks := false }, kinds := [], alts := [], laidByText := true, laidKinds := [.data], laidTests := true, laidLooks := .later }
def ChangesetCompactsUptoCardSaid : Prop := Claim7.holds Tryz.pinned (.plain (OpenSpec.upto changesetCompactsSpec)) changesetCompactsUptoCard
end Rows
end Go.Proofs.YtanonfpdkoijnaaGreatDoor
