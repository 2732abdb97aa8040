/- A part of the proof of ChangesetElementsCardSaid: an evaluator of the program, proved sound, and what it says. -/
import Derived.Test.YtanonfpdkoijnaaGreatDoorVcM1
set_option linter.all false
namespace Go.Proofs.YtanonfpdkoijnaaGreatDoor.Av
open Go
abbrev A4 : List AV := [(.agg [(.sl false [[(Vi 1), (Vi 0), (Vi 0)]]), (.sl false [[(Vi 1), (Vi 1), (Vi 1), (.sl false [[(Vi 10), (Vi 0)], [(Vi 10), (Vi 10)], [(Vi 0), (Vi 10)]]), (Vi 0), (Vi 0)]]), (.sl false [])])]
abbrev R4 : AV := (.lit (.bool true))
theorem m4 : pv PP T 460 97 A4 = some R4 := pv_fast M4 M4_ok (by kernel_rfl)
def M5 : Memo := (460, 97, A4, R4) :: M4
theorem M5_ok : MemoOK PP T M5 := ⟨m4, M4_ok⟩
end Go.Proofs.YtanonfpdkoijnaaGreatDoor.Av
