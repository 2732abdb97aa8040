/- OfficeMeets: after two offices without contradictions have sent each other what they miss, both know the same (of the pruned copy, tied by the given tie). No conditions but what the card's row lists: the package variable glyph.scripts starts as the program's text lays it. -/
import Derived.Test.YtkdnaejhpcibnaaGreatDoorVoE2
namespace Go.Proofs.YtkdnaejhpcibnaaGreatDoor
theorem officemeets_holds : Rows.OfficeMeetsCardSaid := Av.meets_card
#print axioms officemeets_holds
end Go.Proofs.YtkdnaejhpcibnaaGreatDoor
