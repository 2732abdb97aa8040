/- EditChecks: Check returns the defined error, for any edit (of the pruned copy, tied by the given tie). No conditions but what the card's row lists: the package variable glyph.scripts starts as the program's text lays it. -/
import Derived.Test.YtmflphfmefakfaaGreatDoorVeCms
set_option linter.all false
namespace Go.Proofs.YtmflphfmefakfaaGreatDoor
theorem editchecks_holds : Rows.EditChecksCardSaid := Av.checks_card
#print axioms editchecks_holds
end Go.Proofs.YtmflphfmefakfaaGreatDoor
