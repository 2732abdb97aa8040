/- EditFaces: the law is true whatever survey and edit it is given: applying an edit leaves as many faces as the edit's kind says. -/
import Derived.Test.YtabioopnpgiijaaGreatDoorP11
namespace Go.Proofs.YtabioopnpgiijaaGreatDoor
theorem editfaces_holds : Rows.EditFacesCardSaid := Av.faces_card
#print axioms editfaces_holds
end Go.Proofs.YtabioopnpgiijaaGreatDoor
