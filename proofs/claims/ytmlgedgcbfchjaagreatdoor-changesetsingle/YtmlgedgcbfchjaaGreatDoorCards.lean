/-
  DERIVED. GIVEN WITH THE SEED: THE CARDS: each row of YtmlgedgcbfchjaaGreatDoorRows.lean that lists a variable, with what it lists TIED to the program's text (the seventh form; the later family's looks); each row that meets fmt, with fmt's text TOLD by the authors' own Lean function (tested against real Go, not proved from fmt's source: count such statements apart). THE CARD IS WHAT COUNTS. Prove the row's statement (the work); the ties are given (YtmlgedgcbfchjaaGreatDoorTie.lean); close each card by the builder's one call (the guide's Derived/Test/ToyasCard.lean, 'card_holds'). Laid BY PROGRAM, IN A SANDBOX (cutbox-door.mjs). By AI agents, Wed Nov 11 2026. No macro, syntax, notation, axiom, sorry.
-/
import Derived.Test.YtmlgedgcbfchjaaGreatDoorRows
import GoSem.ClaimSeven
namespace Go.Proofs.YtmlgedgcbfchjaaGreatDoor
namespace Rows

/-- THE TIED CARD OF 'mapsheetslaw28.ChangesetSingle'. -/
def changesetSingleCard : Claim7 := { stood := { row := changesetSingleRow, standIns := [], harness := (true, "8ded7b73e8ce7513124d450069fa2681492d4b9f9d8f53802c389207cfad793a"), looks := false }, kinds := [], alts := [], laidByText := true, laidKinds := [.data], laidTests := true, laidLooks := .later }
def ChangesetSingleCardSaid : Prop := Claim7.holds Tryz.pinned (.plain (OpenSpec.ofChange changesetSingleSpec)) changesetSingleCard

/-- THE SECOND FORM's CARD OF 'mapsheetslaw28.ChangesetSingle'. -/
def changesetSingleUptoCard : Claim7 := { stood := { row := changesetSingleUptoRow, standIns := [], harness := (true, "8ded7b73e8ce7513124d450069fa2681492d4b9f9d8f53802c389207cfad793a"), looks := false }, kinds := [], alts := [], laidByText := true, laidKinds := [.data], laidTests := true, laidLooks := .later }
def ChangesetSingleUptoCardSaid : Prop := Claim7.holds Tryz.pinned (.plain (OpenSpec.upto changesetSingleSpec)) changesetSingleUptoCard
end Rows
end Go.Proofs.YtmlgedgcbfchjaaGreatDoor
