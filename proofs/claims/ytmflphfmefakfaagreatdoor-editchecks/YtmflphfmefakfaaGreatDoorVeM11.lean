/- A part of the proof of EditChecksCardSaid: an evaluator of the program, proved sound, and what it says. -/
import Derived.Test.YtmflphfmefakfaaGreatDoorVeM10
namespace Go.Proofs.YtmflphfmefakfaaGreatDoor.Av
open Go
abbrev A160 : List AV := [(.agg [(.sl false [[(Vi 1), (Vi 0), (Vi 0)]]), (.sl false [[(Vi 1), (Vi 1), (Vi 1), (.sl false [[(Vi 10), (Vi 0)], [(Vi 10), (Vi 10)], [(Vi 0), (Vi 10)]]), (Vi 7), (Vi 0)], [(Vi 2), (Vi 1), (Vi 1), (.sl false [[(Vi 1), (Vi 4)], [(Vi 5), (Vi 5)], [(Vi 4), (Vi 1)]]), (Vi 7), (Vi 1)]]), (.sl false [[(Vi 1)], [(Vi 7)]])])]
abbrev R160 : AV := (.lit (.bool true))
theorem m160 : pv PP T 6700 131 A160 = some R160 := pv_fast M160 M160_ok (by kernel_rfl)
def M161 : Memo := (6700, 131, A160, R160) :: M160
theorem M161_ok : MemoOK PP T M161 := ⟨m160, M160_ok⟩
abbrev A161 : List AV := [(.agg [(.sl false [[(Vi 1), (Vi 0), (Vi 0)]]), (.sl false [[(Vi 1), (Vi 1), (Vi 1), (.sl false [[(Vi 10), (Vi 0)], [(Vi 10), (Vi 10)], [(Vi 0), (Vi 10)]]), (Vi 7), (Vi 0)], [(Vi 2), (Vi 1), (Vi 1), (.sl false [[(Vi 1), (Vi 4)], [(Vi 5), (Vi 5)], [(Vi 4), (Vi 1)]]), (Vi 7), (Vi 1)]]), (.sl false [[(Vi 1)], [(Vi 7)]])])]
abbrev R161 : AV := (Vi 0)
theorem m161 : pv PP T 6740 104 A161 = some R161 := pv_fast M161 M161_ok (by kernel_rfl)
def M162 : Memo := (6740, 104, A161, R161) :: M161
theorem M162_ok : MemoOK PP T M162 := ⟨m161, M161_ok⟩
end Go.Proofs.YtmflphfmefakfaaGreatDoor.Av
