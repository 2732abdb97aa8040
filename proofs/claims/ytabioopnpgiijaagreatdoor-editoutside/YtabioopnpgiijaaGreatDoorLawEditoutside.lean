/- EditOutside: the law is true whatever survey and edit it is given: outside the box that Touched tells, an edit leaves every node and every feature as it was. -/
import Derived.Test.YtabioopnpgiijaaGreatDoorP11
namespace Go.Proofs.YtabioopnpgiijaaGreatDoor
theorem editoutside_holds : Rows.EditOutsideCardSaid := Av.outs_card
#print axioms editoutside_holds
end Go.Proofs.YtabioopnpgiijaaGreatDoor
