/- A part of the proof of ChangesetElementsCardSaid: an evaluator of the program, proved sound, and what it says. -/
import Derived.Test.YtanonfpdkoijnaaGreatDoorVcM0
set_option linter.all false
namespace Go.Proofs.YtanonfpdkoijnaaGreatDoor.Av
open Go
abbrev A2 : List AV := [(.agg [(.sl false [[(Vi 1), (Vi 0), (Vi 0)]]), (.sl false [[(Vi 1), (Vi 1), (Vi 1), (.sl false [[(Vi 10), (Vi 0)], [(Vi 10), (Vi 10)], [(Vi 0), (Vi 10)]]), (Vi 1), (Vi 0)]]), (.sl false [[(Vi 1)]])])]
abbrev R2 : AV := (Vi 0)
theorem m2 : pv PP T 380 33 A2 = some R2 := pv_fast M2 M2_ok (by kernel_rfl)
def M3 : Memo := (380, 33, A2, R2) :: M2
theorem M3_ok : MemoOK PP T M3 := ⟨m2, M2_ok⟩
abbrev A3 : List AV := [(.agg [(.sl false []), (.sl false []), (.sl false []), (.sl false [])]), (.agg [(Vi 1), (Vi 1), (Vi 0), (Vi 0), (Vi 0), (Vi 0), (Vi 0), (.sl false []), (.lit (.string ⟨#[]⟩)), (.sl false [])])]
abbrev R3 : AV := (.tup [(.agg [(.sl false [[(Vi 1), (Vi 0), (Vi 0)]]), (.sl false []), (.sl false []), (.sl false [])]), (Vi 0)])
theorem m3 : pv PP T 420 61 A3 = some R3 := pv_fast M3 M3_ok (by kernel_rfl)
def M4 : Memo := (420, 61, A3, R3) :: M3
theorem M4_ok : MemoOK PP T M4 := ⟨m3, M3_ok⟩
end Go.Proofs.YtanonfpdkoijnaaGreatDoor.Av
