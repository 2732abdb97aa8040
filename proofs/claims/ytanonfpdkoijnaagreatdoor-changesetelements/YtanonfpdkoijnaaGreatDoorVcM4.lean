/- A part of the proof of ChangesetElementsCardSaid: an evaluator of the program, proved sound, and what it says. -/
import Derived.Test.YtanonfpdkoijnaaGreatDoorVcM3
set_option linter.all false
namespace Go.Proofs.YtanonfpdkoijnaaGreatDoor.Av
open Go
abbrev A6 : List AV := [(.agg [(.sl false [[(Vi 1), (Vi 0), (Vi 0)]]), (.sl false [[(Vi 1), (Vi 1), (Vi 1), (.sl false [[(Vi 10), (Vi 0)], [(Vi 10), (Vi 10)], [(Vi 0), (Vi 10)]]), (Vi 2), (Vi 0)]]), (.sl false [[(Vi 2)]])])]
abbrev R6 : AV := (.lit (.bool true))
theorem m6 : pv PP T 540 97 A6 = some R6 := pv_fast M6 M6_ok (by kernel_rfl)
def M7 : Memo := (540, 97, A6, R6) :: M6
theorem M7_ok : MemoOK PP T M7 := ⟨m6, M6_ok⟩
abbrev A7 : List AV := [(.agg [(.sl false [[(Vi 1), (Vi 0), (Vi 0)]]), (.sl false [[(Vi 1), (Vi 1), (Vi 1), (.sl false [[(Vi 10), (Vi 0)], [(Vi 10), (Vi 10)], [(Vi 0), (Vi 10)]]), (Vi 2), (Vi 0)]]), (.sl false [[(Vi 2)]])])]
abbrev R7 : AV := (.tup [(.sl false [[(.sl false [[(Vi (-1))]])], [(.sl false [[(Vi 1)]])]]), (Vi 0)])
theorem m7 : pv PP T 580 64 A7 = some R7 := pv_fast M7 M7_ok (by kernel_rfl)
def M8 : Memo := (580, 64, A7, R7) :: M7
theorem M8_ok : MemoOK PP T M8 := ⟨m7, M7_ok⟩
end Go.Proofs.YtanonfpdkoijnaaGreatDoor.Av
