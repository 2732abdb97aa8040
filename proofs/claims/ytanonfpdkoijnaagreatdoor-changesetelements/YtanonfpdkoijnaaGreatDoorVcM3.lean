/- A part of the proof of ChangesetElementsCardSaid: an evaluator of the program, proved sound, and what it says. -/
import Derived.Test.YtanonfpdkoijnaaGreatDoorVcM2
set_option linter.all false
namespace Go.Proofs.YtanonfpdkoijnaaGreatDoor.Av
open Go
abbrev A5 : List AV := [(.agg [(.sl false [[(Vi 1), (Vi 0), (Vi 0)]]), (.sl false []), (.sl false []), (.sl false [])]), (.agg [(Vi 4), (Vi 1), (Vi 1), (Vi 1), (Vi 0), (Vi 0), (Vi 0), (.sl false [[(Vi 10), (Vi 0)], [(Vi 10), (Vi 10)], [(Vi 0), (Vi 10)]]), (.lit (.string ⟨#[]⟩)), (.sl false [])])]
abbrev R5 : AV := (.tup [(.agg [(.sl false []), (.sl false []), (.sl false []), (.sl false [])]), (Vi 12)])
theorem m5 : pv PP T 500 61 A5 = some R5 := pv_fast M5 M5_ok (by kernel_rfl)
def M6 : Memo := (500, 61, A5, R5) :: M5
theorem M6_ok : MemoOK PP T M6 := ⟨m5, M5_ok⟩
end Go.Proofs.YtanonfpdkoijnaaGreatDoor.Av
