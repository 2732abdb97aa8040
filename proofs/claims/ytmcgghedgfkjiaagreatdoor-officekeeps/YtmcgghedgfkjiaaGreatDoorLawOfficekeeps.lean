/- The repository of State is valid, and it and the rejected transactions are all transactions of the office, in its order (at most 14 transactions). -/
import Derived.Test.YtmcgghedgfkjiaaGreatDoorP11
namespace Go.Proofs.YtmcgghedgfkjiaaGreatDoor
theorem officekeeps_holds : Rows.OfficeKeepsCardSaid := Av.keeps_card
#print axioms officekeeps_holds
end Go.Proofs.YtmcgghedgfkjiaaGreatDoor
