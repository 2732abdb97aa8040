/- CodecDamage: the law is true whatever survey, transaction, place and change it is given: where they are small and the change is not 0, reading the changed bytes answers ErrSum. -/
import Derived.Test.YtideamafblopcaaGreatDoorP11
namespace Go.Proofs.YtideamafblopcaaGreatDoor
theorem codecdamage_holds : Rows.CodecDamageCardSaid := Av.dmg_card
#print axioms codecdamage_holds
end Go.Proofs.YtideamafblopcaaGreatDoor
