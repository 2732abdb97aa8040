/- A part of the proof of ChangesetElementsCardSaid: an evaluator of the program, proved sound, and what it says. -/
import Derived.Test.YtanonfpdkoijnaaGreatDoorVcM4
set_option linter.all false
namespace Go.Proofs.YtanonfpdkoijnaaGreatDoor.Av
open Go
abbrev A8 : List AV := [(.agg [(.sl false [[(Vi 1), (Vi 0), (Vi 0)]]), (.sl false [[(Vi 1), (Vi 1), (Vi 1), (.sl false [[(Vi 10), (Vi 0)], [(Vi 10), (Vi 10)], [(Vi 0), (Vi 10)]]), (Vi 2), (Vi 0)]]), (.sl false [[(Vi 2)]])])]
abbrev R8 : AV := (Vi 0)
theorem m8 : pv PP T 620 33 A8 = some R8 := pv_fast M8 M8_ok (by kernel_rfl)
def M9 : Memo := (620, 33, A8, R8) :: M8
theorem M9_ok : MemoOK PP T M9 := ⟨m8, M8_ok⟩
end Go.Proofs.YtanonfpdkoijnaaGreatDoor.Av
