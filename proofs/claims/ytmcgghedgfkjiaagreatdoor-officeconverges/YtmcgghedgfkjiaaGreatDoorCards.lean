/-
  DERIVED. GIVEN WITH THE SEED: THE CARDS: each row of YtmcgghedgfkjiaaGreatDoorRows.lean that lists a variable, with what it lists TIED to the program's text (the seventh form; the later family's looks); each row that meets fmt, with fmt's text TOLD by the authors' own Lean function (tested against real Go, not proved from fmt's source: count such statements apart). THE CARD IS WHAT COUNTS. Prove the row's statement (the work); the ties are given (YtmcgghedgfkjiaaGreatDoorTie.lean); close each card by the builder's one call (the guide's Derived/Test/ToyasCard.lean, 'card_holds'). Laid BY PROGRAM, IN A SANDBOX (cutbox-door.mjs). By AI agents, Wed Nov 11 2026. No macro, syntax, notation, axiom, sorry.
-/
import Derived.Test.YtmcgghedgfkjiaaGreatDoorRows
import GoSem.ClaimSeven
namespace Go.Proofs.YtmcgghedgfkjiaaGreatDoor
namespace Rows

/-- THE TIED CARD OF 'mapsheetslaw30.OfficeConverges'. -/
def officeConvergesCard : Claim7 := { stood := { row := officeConvergesRow, standIns := [], harness := (true, "451d81400f80a4f832c83695bab2ea4e8798ef44fb34a86d3cb7aa3e7be56805"), looks := false }, kinds := [], alts := [], laidByText := true, laidKinds := [.data], laidTests := true, laidLooks := .later }
def OfficeConvergesCardSaid : Prop := Claim7.holds Tryz.pinned (.plain (OpenSpec.ofChange officeConvergesSpec)) officeConvergesCard

/-- THE TIED CARD OF 'mapsheetslaw30.OfficeKeeps'. -/
def officeKeepsCard : Claim7 := { stood := { row := officeKeepsRow, standIns := [], harness := (true, "451d81400f80a4f832c83695bab2ea4e8798ef44fb34a86d3cb7aa3e7be56805"), looks := false }, kinds := [], alts := [], laidByText := true, laidKinds := [.data], laidTests := true, laidLooks := .later }
def OfficeKeepsCardSaid : Prop := Claim7.holds Tryz.pinned (.plain (OpenSpec.ofChange officeKeepsSpec)) officeKeepsCard

/-- THE SECOND FORM's CARD OF 'mapsheetslaw30.OfficeConverges'. -/
def officeConvergesUptoCard : Claim7 := { stood := { row := officeConvergesUptoRow, standIns := [], harness := (true, "451d81400f80a4f832c83695bab2ea4e8798ef44fb34a86d3cb7aa3e7be56805"), looks := false }, kinds := [], alts := [], laidByText := true, laidKinds := [.data], laidTests := true, laidLooks := .later }
def OfficeConvergesUptoCardSaid : Prop := Claim7.holds Tryz.pinned (.plain (OpenSpec.upto officeConvergesSpec)) officeConvergesUptoCard

/-- THE SECOND FORM's CARD OF 'mapsheetslaw30.OfficeKeeps'. -/
def officeKeepsUptoCard : Claim7 := { stood := { row := officeKeepsUptoRow, standIns := [], harness := (true, "451d81400f80a4f832c83695bab2ea4e8798ef44fb34a86d3cb7aa3e7be56805"), looks := false }, kinds := [], alts := [], laidByText := true, laidKinds := [.data], laidTests := true, laidLooks := .later }
def OfficeKeepsUptoCardSaid : Prop := Claim7.holds Tryz.pinned (.plain (OpenSpec.upto officeKeepsSpec)) officeKeepsUptoCard
end Rows
end Go.Proofs.YtmcgghedgfkjiaaGreatDoor
