/- OfficeExchanges: Send and Receive return what is specified, for any office, clock and transactions (of the pruned copy, tied by the given tie). No conditions but what the card's row lists: the package variable glyph.scripts starts as the program's text lays it. -/
import Derived.Test.YtkdnaejhpcibnaaGreatDoorVoE1
namespace Go.Proofs.YtkdnaejhpcibnaaGreatDoor
theorem officeexchanges_holds : Rows.OfficeExchangesCardSaid := Av.exchanges_card
#print axioms officeexchanges_holds
end Go.Proofs.YtkdnaejhpcibnaaGreatDoor
