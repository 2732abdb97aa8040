/-
  DERIVED. GIVEN WITH THE SEED: THE CARDS: each row of YtabioopnpgiijaaGreatDoorRows.lean that lists a variable, with what it lists TIED to the program's text (the seventh form; the later family's looks); each row that meets fmt, with fmt's text TOLD by the authors' own Lean function (tested against real Go, not proved from fmt's source: count such statements apart). THE CARD IS WHAT COUNTS. Prove the row's statement (the work); the ties are given (YtabioopnpgiijaaGreatDoorTie.lean); close each card by the builder's one call (the guide's Derived/Test/ToyasCard.lean, 'card_holds'). Laid BY PROGRAM, IN A SANDBOX (cutbox-door.mjs). By AI agents, Wed Nov 11 2026. No macro, syntax, notation, axiom, sorry.
-/
import Derived.Test.YtabioopnpgiijaaGreatDoorRows
import GoSem.ClaimSeven
namespace Go.Proofs.YtabioopnpgiijaaGreatDoor
namespace Rows

/-- THE TIED CARD OF 'mapsheetslaw20.EditOutside'. -/
def editOutsideCard : Claim7 := { stood := { row := editOutsideRow, standIns := [], harness := (true, "840ba4ae51e0abe49a9fc47521eecafb130921000781108fe3f944600d4ccb88"), looks := false }, kinds := [], alts := [], laidByText := true, laidKinds := [.data], laidTests := true, laidLooks := .later }
def EditOutsideCardSaid : Prop := Claim7.holds Tryz.pinned (.plain (OpenSpec.ofChange editOutsideSpec)) editOutsideCard

/-- THE TIED CARD OF 'mapsheetslaw20.EditFaces'. -/
def editFacesCard : Claim7 := { stood := { row := editFacesRow, standIns := [], harness := (true, "840ba4ae51e0abe49a9fc47521eecafb130921000781108fe3f944600d4ccb88"), looks := false }, kinds := [], alts := [], laidByText := true, laidKinds := [.data], laidTests := true, laidLooks := .later }
def EditFacesCardSaid : Prop := Claim7.holds Tryz.pinned (.plain (OpenSpec.ofChange editFacesSpec)) editFacesCard

/-- THE SECOND FORM's CARD OF 'mapsheetslaw20.EditOutside'. -/
def editOutsideUptoCard : Claim7 := { stood := { row := editOutsideUptoRow, standIns := [], harness := (true, "840ba4ae51e0abe49a9fc47521eecafb130921000781108fe3f944600d4ccb88"), looks := false }, kinds := [], alts := [], laidByText := true, laidKinds := [.data], laidTests := true, laidLooks := .later }
def EditOutsideUptoCardSaid : Prop := Claim7.holds Tryz.pinned (.plain (OpenSpec.upto editOutsideSpec)) editOutsideUptoCard

/-- THE SECOND FORM's CARD OF 'mapsheetslaw20.EditFaces'. -/
def editFacesUptoCard : Claim7 := { stood := { row := editFacesUptoRow, standIns := [], harness := (true, "840ba4ae51e0abe49a9fc47521eecafb130921000781108fe3f944600d4ccb88"), looks := false }, kinds := [], alts := [], laidByText := true, laidKinds := [.data], laidTests := true, laidLooks := .later }
def EditFacesUptoCardSaid : Prop := Claim7.holds Tryz.pinned (.plain (OpenSpec.upto editFacesSpec)) editFacesUptoCard
end Rows
end Go.Proofs.YtabioopnpgiijaaGreatDoor
