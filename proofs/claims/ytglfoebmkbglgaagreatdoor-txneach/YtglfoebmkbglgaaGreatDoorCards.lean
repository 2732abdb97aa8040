/-
  DERIVED. GIVEN WITH THE SEED: THE CARDS: each row of YtglfoebmkbglgaaGreatDoorRows.lean that lists a variable, with what it lists TIED to the program's text (the seventh form; the later family's looks); each row that meets fmt, with fmt's text TOLD by the authors' own Lean function (tested against real Go, not proved from fmt's source: count such statements apart). THE CARD IS WHAT COUNTS. Prove the row's statement (the work); the ties are given (YtglfoebmkbglgaaGreatDoorTie.lean); close each card by the builder's one call (the guide's Derived/Test/ToyasCard.lean, 'card_holds'). Laid BY PROGRAM, IN A SANDBOX (cutbox-door.mjs). By AI agents, Wed Nov 11 2026. No macro, syntax, notation, axiom, sorry.
-/
import Derived.Test.YtglfoebmkbglgaaGreatDoorRows
import GoSem.ClaimSeven
namespace Go.Proofs.YtglfoebmkbglgaaGreatDoor
namespace Rows

/-- THE TIED CARD OF 'mapsheetslaw23.TxnWhole'. -/
def txnWholeCard : Claim7 := { stood := { row := txnWholeRow, standIns := [], harness := (true, "5f2e44b848a283ad6590559d892537b2f394330b1648daa94e42d46b75f41e2f"), looks := false }, kinds := [], alts := [], laidByText := true, laidKinds := [.data], laidTests := true, laidLooks := .later }
def TxnWholeCardSaid : Prop := Claim7.holds Tryz.pinned (.plain (OpenSpec.ofChange txnWholeSpec)) txnWholeCard

/-- THE TIED CARD OF 'mapsheetslaw23.TxnEach'. -/
def txnEachCard : Claim7 := { stood := { row := txnEachRow, standIns := [], harness := (true, "5f2e44b848a283ad6590559d892537b2f394330b1648daa94e42d46b75f41e2f"), looks := false }, kinds := [], alts := [], laidByText := true, laidKinds := [.data], laidTests := true, laidLooks := .later }
def TxnEachCardSaid : Prop := Claim7.holds Tryz.pinned (.plain (OpenSpec.ofChange txnEachSpec)) txnEachCard

/-- THE SECOND FORM's CARD OF 'mapsheetslaw23.TxnWhole'. -/
def txnWholeUptoCard : Claim7 := { stood := { row := txnWholeUptoRow, standIns := [], harness := (true, "5f2e44b848a283ad6590559d892537b2f394330b1648daa94e42d46b75f41e2f"), looks := false }, kinds := [], alts := [], laidByText := true, laidKinds := [.data], laidTests := true, laidLooks := .later }
def TxnWholeUptoCardSaid : Prop := Claim7.holds Tryz.pinned (.plain (OpenSpec.upto txnWholeSpec)) txnWholeUptoCard

/-- THE SECOND FORM's CARD OF 'mapsheetslaw23.TxnEach'. -/
def txnEachUptoCard : Claim7 := { stood := { row := txnEachUptoRow, standIns := [], harness := (true, "5f2e44b848a283ad6590559d892537b2f394330b1648daa94e42d46b75f41e2f"), looks := false }, kinds := [], alts := [], laidByText := true, laidKinds := [.data], laidTests := true, laidLooks := .later }
def TxnEachUptoCardSaid : Prop := Claim7.holds Tryz.pinned (.plain (OpenSpec.upto txnEachSpec)) txnEachUptoCard
end Rows
end Go.Proofs.YtglfoebmkbglgaaGreatDoor
