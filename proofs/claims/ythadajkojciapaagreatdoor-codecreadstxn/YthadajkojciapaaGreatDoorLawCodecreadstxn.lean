/- CodecReadsTxn: the law is true whatever bytes it is given: where they are at most 5000, codec.ReadTxn answers the transaction and the error that the reference answers. -/
import Derived.Test.YthadajkojciapaaGreatDoorP11
namespace Go.Proofs.YthadajkojciapaaGreatDoor
theorem codecreadstxn_holds : Rows.CodecReadsTxnCardSaid := Av.reads_card
#print axioms codecreadstxn_holds
end Go.Proofs.YthadajkojciapaaGreatDoor
