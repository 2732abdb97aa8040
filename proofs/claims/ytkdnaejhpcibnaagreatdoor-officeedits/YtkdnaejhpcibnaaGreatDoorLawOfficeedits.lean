/- OfficeEdits: New and Edit return the specified office or error (of the pruned copy, tied by the given tie). No conditions but what the card's row lists: the package variable glyph.scripts starts as the program's text lays it. -/
import Derived.Test.YtkdnaejhpcibnaaGreatDoorVoE0
namespace Go.Proofs.YtkdnaejhpcibnaaGreatDoor
theorem officeedits_holds : Rows.OfficeEditsCardSaid := Av.edits_card
#print axioms officeedits_holds
end Go.Proofs.YtkdnaejhpcibnaaGreatDoor
