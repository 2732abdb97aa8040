/- The stage's theorem: two offices that receive the same transactions in two orders have the same survey. -/
import Derived.Test.YtmcgghedgfkjiaaGreatDoorP10
namespace Go.Proofs.YtmcgghedgfkjiaaGreatDoor
theorem officeconverges_holds : Rows.OfficeConvergesCardSaid := Av.conv_card
#print axioms officeconverges_holds
end Go.Proofs.YtmcgghedgfkjiaaGreatDoor
