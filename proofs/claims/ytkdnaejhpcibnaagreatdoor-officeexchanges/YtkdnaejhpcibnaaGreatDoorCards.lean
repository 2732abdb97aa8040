/-
  DERIVED. GIVEN WITH THE SEED: THE CARDS: each row of YtkdnaejhpcibnaaGreatDoorRows.lean that lists a variable, with what it lists TIED to the program's text (the seventh form; the later family's looks); each row that meets fmt, with fmt's text TOLD by the authors' own Lean function (tested against real Go, not proved from fmt's source: count such statements apart). THE CARD IS WHAT COUNTS. Prove the row's statement (the work); the ties are given (YtkdnaejhpcibnaaGreatDoorTie.lean); close each card by the builder's one call (the guide's Derived/Test/ToyasCard.lean, 'card_holds'). Laid BY PROGRAM, IN A SANDBOX (cutbox-door.mjs). By AI agents, Wed Nov 11 2026. No macro, syntax, notation, axiom, sorry.
-/
import Derived.Test.YtkdnaejhpcibnaaGreatDoorRows
import GoSem.ClaimSeven
namespace Go.Proofs.YtkdnaejhpcibnaaGreatDoor
namespace Rows

/-- THE TIED CARD OF 'mapsheetslaw30.OfficeEdits'. -/
def officeEditsCard : Claim7 := { stood := { row := officeEditsRow, standIns := [], harness := (true, "13ef1da9d887c7b8949677d6daa88fa6b1e024909eb534004b64fd53ef0d4880"), looks := false }, kinds := [], alts := [], laidByText := true, laidKinds := [.data], laidTests := true, laidLooks := .later }
def OfficeEditsCardSaid : Prop := Claim7.holds Tryz.pinned (.plain (OpenSpec.ofChange officeEditsSpec)) officeEditsCard

/-- THE TIED CARD OF 'mapsheetslaw30.OfficeExchanges'. -/
def officeExchangesCard : Claim7 := { stood := { row := officeExchangesRow, standIns := [], harness := (true, "13ef1da9d887c7b8949677d6daa88fa6b1e024909eb534004b64fd53ef0d4880"), looks := false }, kinds := [], alts := [], laidByText := true, laidKinds := [.data], laidTests := true, laidLooks := .later }
def OfficeExchangesCardSaid : Prop := Claim7.holds Tryz.pinned (.plain (OpenSpec.ofChange officeExchangesSpec)) officeExchangesCard

/-- THE TIED CARD OF 'mapsheetslaw30.OfficeMeets'. -/
def officeMeetsCard : Claim7 := { stood := { row := officeMeetsRow, standIns := [], harness := (true, "13ef1da9d887c7b8949677d6daa88fa6b1e024909eb534004b64fd53ef0d4880"), looks := false }, kinds := [], alts := [], laidByText := true, laidKinds := [.data], laidTests := true, laidLooks := .later }
def OfficeMeetsCardSaid : Prop := Claim7.holds Tryz.pinned (.plain (OpenSpec.ofChange officeMeetsSpec)) officeMeetsCard

/-- THE SECOND FORM's CARD OF 'mapsheetslaw30.OfficeEdits'. -/
def officeEditsUptoCard : Claim7 := { stood := { row := officeEditsUptoRow, standIns := [], harness := (true, "13ef1da9d887c7b8949677d6daa88fa6b1e024909eb534004b64fd53ef0d4880"), looks := false }, kinds := [], alts := [], laidByText := true, laidKinds := [.data], laidTests := true, laidLooks := .later }
def OfficeEditsUptoCardSaid : Prop := Claim7.holds Tryz.pinned (.plain (OpenSpec.upto officeEditsSpec)) officeEditsUptoCard

/-- THE SECOND FORM's CARD OF 'mapsheetslaw30.OfficeExchanges'. -/
def officeExchangesUptoCard : Claim7 := { stood := { row := officeExchangesUptoRow, standIns := [], harness := (true, "13ef1da9d887c7b8949677d6daa88fa6b1e024909eb534004b64fd53ef0d4880"), looks := false }, kinds := [], alts := [], laidByText := true, laidKinds := [.data], laidTests := true, laidLooks := .later }
def OfficeExchangesUptoCardSaid : Prop := Claim7.holds Tryz.pinned (.plain (OpenSpec.upto officeExchangesSpec)) officeExchangesUptoCard

/-- THE SECOND FORM's CARD OF 'mapsheetslaw30.OfficeMeets'. -/
def officeMeetsUptoCard : Claim7 := { stood := { row := officeMeetsUptoRow, standIns := [], harness := (true, "13ef1da9d887c7b8949677d6daa88fa6b1e024909eb534004b64fd53ef0d4880"), looks := false }, kinds := [], alts := [], laidByText := true, laidKinds := [.data], laidTests := true, laidLooks := .later }
def OfficeMeetsUptoCardSaid : Prop := Claim7.holds Tryz.pinned (.plain (OpenSpec.upto officeMeetsSpec)) officeMeetsUptoCard
end Rows
end Go.Proofs.YtkdnaejhpcibnaaGreatDoor
