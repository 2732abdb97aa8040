/- A part of the proof of ChangesetElementsCardSaid: an evaluator of the program, proved sound, and what it says. -/
import Derived.Test.YtanonfpdkoijnaaGreatDoorVcTab
import Derived.Test.YtanonfpdkoijnaaGreatDoorAvClone
set_option linter.all false
namespace Go.Proofs.YtanonfpdkoijnaaGreatDoor.Av
open Go
def M0 : Memo := []
theorem M0_ok : MemoOK PP T M0 := trivial
abbrev A0 : List AV := [(.agg [(.sl false [[(Vi 1), (Vi 0), (Vi 0)]]), (.sl false [[(Vi 1), (Vi 1), (Vi 1), (.sl false [[(Vi 10), (Vi 0)], [(Vi 10), (Vi 10)], [(Vi 0), (Vi 10)]]), (Vi 1), (Vi 0)]]), (.sl false [[(Vi 1)]])])]
abbrev R0 : AV := (.lit (.bool true))
theorem m0 : pv PP T 300 97 A0 = some R0 := pv_fast M0 M0_ok (by kernel_rfl)
def M1 : Memo := (300, 97, A0, R0) :: M0
theorem M1_ok : MemoOK PP T M1 := ⟨m0, M0_ok⟩
abbrev A1 : List AV := [(.agg [(.sl false [[(Vi 1), (Vi 0), (Vi 0)]]), (.sl false [[(Vi 1), (Vi 1), (Vi 1), (.sl false [[(Vi 10), (Vi 0)], [(Vi 10), (Vi 10)], [(Vi 0), (Vi 10)]]), (Vi 1), (Vi 0)]]), (.sl false [[(Vi 1)]])])]
abbrev R1 : AV := (.tup [(.sl false [[(.sl false [[(Vi (-1))]])], [(.sl false [[(Vi 1)]])]]), (Vi 0)])
theorem m1 : pv PP T 340 64 A1 = some R1 := pv_fast M1 M1_ok (by kernel_rfl)
def M2 : Memo := (340, 64, A1, R1) :: M1
theorem M2_ok : MemoOK PP T M2 := ⟨m1, M1_ok⟩
end Go.Proofs.YtanonfpdkoijnaaGreatDoor.Av
