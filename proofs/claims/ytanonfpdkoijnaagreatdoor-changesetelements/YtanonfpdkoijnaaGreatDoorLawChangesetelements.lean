/- ChangesetElements: Elements and Independent return the defined results (of the pruned copy, tied by the given tie). No conditions but what the card's row lists: the package variable glyph.scripts starts as the program's text lays it. -/
import Derived.Test.YtanonfpdkoijnaaGreatDoorVcCmp
set_option linter.all false
namespace Go.Proofs.YtanonfpdkoijnaaGreatDoor
theorem changesetelements_holds : Rows.ChangesetElementsCardSaid := Av.elements_card
#print axioms changesetelements_holds
end Go.Proofs.YtanonfpdkoijnaaGreatDoor
