/-
  DERIVED. GIVEN WITH THE SEED: THE CARDS: each row of YthadajkojciapaaGreatDoorRows.lean that lists a variable, with what it lists TIED to the program's text (the seventh form; the later family's looks); each row that meets fmt, with fmt's text TOLD by the authors' own Lean function (tested against real Go, not proved from fmt's source: count such statements apart). THE CARD IS WHAT COUNTS. Prove the row's statement (the work); the ties are given (YthadajkojciapaaGreatDoorTie.lean); close each card by the builder's one call (the guide's Derived/Test/ToyasCard.lean, 'card_holds'). Laid BY PROGRAM, IN A SANDBOX (cutbox-door.mjs). By AI agents, Wed Nov 11 2026. No macro, syntax, notation, axiom, sorry.
-/
import Derived.Test.YthadajkojciapaaGreatDoorRows
import GoSem.ClaimSeven
namespace Go.Proofs.YthadajkojciapaaGreatDoor
namespace Rows

/-- THE TIED CARD OF 'mapsheetslaw22.CodecTxns'. -/
def codecTxnsCard : Claim7 := { stood := { row := codecTxnsRow, standIns := [], harness := (true, "b2f529f39ffebf23ec139143c71f3fb2078551bd6edc59e6f80363d6e67fb306"), looks := true }, kinds := [], alts := [], laidByText := true, laidKinds := [.data, .data], laidTests := true, laidLooks := .later }
def CodecTxnsCardSaid : Prop := Claim7.holds Tryz.pinned (.plain (OpenSpec.ofChange codecTxnsSpec)) codecTxnsCard

/-- THE TIED CARD OF 'mapsheetslaw22.CodecReadsTxn'. -/
def codecReadsTxnCard : Claim7 := { stood := { row := codecReadsTxnRow, standIns := [], harness := (true, "b2f529f39ffebf23ec139143c71f3fb2078551bd6edc59e6f80363d6e67fb306"), looks := true }, kinds := [], alts := [], laidByText := true, laidKinds := [.data, .data], laidTests := true, laidLooks := .later }
def CodecReadsTxnCardSaid : Prop := Claim7.holds Tryz.pinned (.plain (OpenSpec.ofChange codecReadsTxnSpec)) codecReadsTxnCard

/-- THE SECOND FORM's CARD OF 'mapsheetslaw22.CodecTxns'. -/
def codecTxnsUptoCard : Claim7 := { stood := { row := codecTxnsUptoRow, standIns := [], harness := (true, "b2f529f39ffebf23ec139143c71f3fb2078551bd6edc59e6f80363d6e67fb306"), looks := true }, kinds := [], alts := [], laidByText := true, laidKinds := [.data, .data], laidTests := true, laidLooks := .later }
def CodecTxnsUptoCardSaid : Prop := Claim7.holds Tryz.pinned (.plain (OpenSpec.upto codecTxnsSpec)) codecTxnsUptoCard

/-- THE SECOND FORM's CARD OF 'mapsheetslaw22.CodecReadsTxn'. -/
def codecReadsTxnUptoCard : Claim7 := { stood := { row := codecReadsTxnUptoRow, standIns := [], harness := (true, "b2f529f39ffebf23ec139143c71f3fb2078551bd6edc59e6f80363d6e67fb306"), looks := true }, kinds := [], alts := [], laidByText := true, laidKinds := [.data, .data], laidTests := true, laidLooks := .later }
def CodecReadsTxnUptoCardSaid : Prop := Claim7.holds Tryz.pinned (.plain (OpenSpec.upto codecReadsTxnSpec)) codecReadsTxnUptoCard
end Rows
end Go.Proofs.YthadajkojciapaaGreatDoor
