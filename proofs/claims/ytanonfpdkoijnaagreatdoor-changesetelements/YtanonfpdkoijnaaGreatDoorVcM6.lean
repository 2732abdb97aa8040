/- A part of the proof of ChangesetElementsCardSaid: an evaluator of the program, proved sound, and what it says. -/
import Derived.Test.YtanonfpdkoijnaaGreatDoorVcM5
set_option linter.all false
namespace Go.Proofs.YtanonfpdkoijnaaGreatDoor.Av
open Go
abbrev A9 : List AV := [(.agg [(.sl false [[(Vi 1), (Vi 0), (Vi 0)]]), (.sl false []), (.sl false []), (.sl false [])]), (.agg [(Vi 4), (Vi 1), (Vi 1), (Vi 1), (Vi 2), (Vi 0), (Vi 0), (.sl false [[(Vi 10), (Vi 0)], [(Vi 10), (Vi 10)], [(Vi 0), (Vi 10)]]), (.lit (.string ⟨#[]⟩)), (.sl false [])])]
abbrev R9 : AV := (.tup [(.agg [(.sl false [[(Vi 1), (Vi 0), (Vi 0)]]), (.sl false [[(Vi 1), (Vi 1), (Vi 1), (.sl false [[(Vi 10), (Vi 0)], [(Vi 10), (Vi 10)], [(Vi 0), (Vi 10)]]), (Vi 2), (Vi 0)]]), (.sl false [[(Vi 2)]]), (.sl false [])]), (Vi 0)])
theorem m9 : pv PP T 660 61 A9 = some R9 := pv_fast M9 M9_ok (by kernel_rfl)
def M10 : Memo := (660, 61, A9, R9) :: M9
theorem M10_ok : MemoOK PP T M10 := ⟨m9, M9_ok⟩
end Go.Proofs.YtanonfpdkoijnaaGreatDoor.Av
