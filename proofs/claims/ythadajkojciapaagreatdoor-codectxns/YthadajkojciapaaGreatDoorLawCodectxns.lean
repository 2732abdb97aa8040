/- CodecTxns: the law is true whatever transaction it is given: where the transaction is small, codec.Txn answers the bytes and the error that the reference answers. -/
import Derived.Test.YthadajkojciapaaGreatDoorP10
namespace Go.Proofs.YthadajkojciapaaGreatDoor
theorem codectxns_holds : Rows.CodecTxnsCardSaid := Av.txns_card
#print axioms codectxns_holds
end Go.Proofs.YthadajkojciapaaGreatDoor
