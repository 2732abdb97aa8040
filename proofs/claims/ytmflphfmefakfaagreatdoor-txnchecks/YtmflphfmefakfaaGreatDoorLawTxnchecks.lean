/- TxnChecks: Check returns the first error of any transaction (of the pruned copy, tied by the given tie). No conditions but what the card's row lists: the package variable glyph.scripts starts as the program's text lays it. -/
import Derived.Test.YtmflphfmefakfaaGreatDoorVtCms
set_option linter.all false
namespace Go.Proofs.YtmflphfmefakfaaGreatDoor
theorem txnchecks_holds : Rows.TxnChecksCardSaid := Av.checks_card
#print axioms txnchecks_holds
end Go.Proofs.YtmflphfmefakfaaGreatDoor
