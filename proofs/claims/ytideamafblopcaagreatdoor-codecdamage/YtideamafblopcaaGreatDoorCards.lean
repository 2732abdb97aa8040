/-
  DERIVED. GIVEN WITH THE SEED: THE CARDS: each row of YtideamafblopcaaGreatDoorRows.lean that lists a variable, with what it lists TIED to the program's text (the seventh form; the later family's looks); each row that meets fmt, with fmt's text TOLD by the authors' own Lean function (tested against real Go, not proved from fmt's source: count such statements apart). THE CARD IS WHAT COUNTS. Prove the row's statement (the work); the ties are given (YtideamafblopcaaGreatDoorTie.lean); close each card by the builder's one call (the guide's Derived/Test/ToyasCard.lean, 'card_holds'). Laid BY PROGRAM, IN A SANDBOX (cutbox-door.mjs). By AI agents, Wed Nov 11 2026. No macro, syntax, notation, axiom, sorry.
-/
import Derived.Test.YtideamafblopcaaGreatDoorRows
import GoSem.ClaimSeven
namespace Go.Proofs.YtideamafblopcaaGreatDoor
namespace Rows

/-- THE TIED CARD OF 'mapsheetslaw22.CodecDamage'. -/
def codecDamageCard : Claim7 := { stood := { row := codecDamageRow, standIns := [], harness := (true, "03310e52eccc3a88c76eb8eaa765e82b8359edf8aa07e6ea191ff507add9f51f"), looks := true }, kinds := [], alts := [], laidByText := true, laidKinds := [.data, .data], laidTests := true, laidLooks := .later }
def CodecDamageCardSaid : Prop := Claim7.holds Tryz.pinned (.plain (OpenSpec.ofChange codecDamageSpec)) codecDamageCard

/-- THE SECOND FORM's CARD OF 'mapsheetslaw22.CodecDamage'. -/
def codecDamageUptoCard : Claim7 := { stood := { row := codecDamageUptoRow, standIns := [], harness := (true, "03310e52eccc3a88c76eb8eaa765e82b8359edf8aa07e6ea191ff507add9f51f"), looks := true }, kinds := [], alts := [], laidByText := true, laidKinds := [.data, .data], laidTests := true, laidLooks := .later }
def CodecDamageUptoCardSaid : Prop := Claim7.holds Tryz.pinned (.plain (OpenSpec.upto codecDamageSpec)) codecDamageUptoCard
end Rows
end Go.Proofs.YtideamafblopcaaGreatDoor
