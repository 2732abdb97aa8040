/- A transaction is performed completely or not at all: the survey after it is that of all its edits, or there is an error and the repository is as it was; a valid repository stays valid (for light repositories and transactions). -/
import Derived.Test.YtglfoebmkbglgaaGreatDoorP11
namespace Go.Proofs.YtglfoebmkbglgaaGreatDoor
theorem txnwhole_holds : Rows.TxnWholeCardSaid := Av.whole_card
#print axioms txnwhole_holds
end Go.Proofs.YtglfoebmkbglgaaGreatDoor
