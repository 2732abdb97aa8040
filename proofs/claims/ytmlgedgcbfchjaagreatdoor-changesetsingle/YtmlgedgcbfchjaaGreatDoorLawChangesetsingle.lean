/- ChangesetSingle: the law is true whatever survey and edit it is given: the difference after a renaming, a change of a class, or the movement of a node or an arc is this edit alone. -/
import Derived.Test.YtmlgedgcbfchjaaGreatDoorP12
namespace Go.Proofs.YtmlgedgcbfchjaaGreatDoor
theorem changesetsingle_holds : Rows.ChangesetSingleCardSaid := Av.single_card
#print axioms changesetsingle_holds
end Go.Proofs.YtmlgedgcbfchjaaGreatDoor
