/- For every list of edits ChangesetCompacts returns true and leaves its argument as it was. No conditions but what the card's row lists: the package variable glyph.scripts starts as the program's text lays it. -/
import Derived.Test.YtanonfpdkoijnaaGreatDoorAvCmp
namespace Go.Proofs.YtanonfpdkoijnaaGreatDoor
theorem changesetcompacts_holds : Rows.ChangesetCompactsCardSaid := Av.compacts_card
#print axioms changesetcompacts_holds
end Go.Proofs.YtanonfpdkoijnaaGreatDoor
