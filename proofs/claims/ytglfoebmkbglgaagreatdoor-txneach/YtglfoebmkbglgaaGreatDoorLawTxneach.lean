/- Each element of a valid repository has one origin, made and changed by transactions that exist; without its last transaction, the elements that this one did not touch have the same origins (for light repositories). -/
import Derived.Test.YtglfoebmkbglgaaGreatDoorP11
namespace Go.Proofs.YtglfoebmkbglgaaGreatDoor
theorem txneach_holds : Rows.TxnEachCardSaid := Av.each_card
#print axioms txneach_holds
end Go.Proofs.YtglfoebmkbglgaaGreatDoor
