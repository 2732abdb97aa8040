/- A part of the proof of EditChecksCardSaid: an evaluator of the program, proved sound, and what it says. -/
import Derived.Test.YtmflphfmefakfaaGreatDoorVeM8
namespace Go.Proofs.YtmflphfmefakfaaGreatDoor.Av
open Go
abbrev A149 : List AV := [(.agg [(.sl false [[(Vi 1), (Vi 0), (Vi 0)]]), (.sl false [[(Vi 1), (Vi 1), (Vi 1), (.sl false [[(Vi 10), (Vi 0)], [(Vi 10), (Vi 10)], [(Vi 0), (Vi 10)]]), (Vi 1), (Vi 0)], [(Vi 2), (Vi 1), (Vi 1), (.sl false [[(Vi 1), (Vi 4)], [(Vi 5), (Vi 5)], [(Vi 4), (Vi 1)]]), (Vi 1), (Vi 2)]]), (.sl false [[(Vi 1)], [(Vi 2)]])])]
abbrev R149 : AV := (.lit (.bool true))
theorem m149 : pv PP T 6260 131 A149 = some R149 := pv_fast M149 M149_ok (by kernel_rfl)
def M150 : Memo := (6260, 131, A149, R149) :: M149
theorem M150_ok : MemoOK PP T M150 := ⟨m149, M149_ok⟩
abbrev A150 : List AV := [(.agg [(.sl false [[(Vi 1), (Vi 0), (Vi 0)]]), (.sl false [[(Vi 1), (Vi 1), (Vi 1), (.sl false [[(Vi 10), (Vi 0)], [(Vi 10), (Vi 10)], [(Vi 0), (Vi 10)]]), (Vi 1), (Vi 0)], [(Vi 2), (Vi 1), (Vi 1), (.sl false [[(Vi 1), (Vi 4)], [(Vi 5), (Vi 5)], [(Vi 4), (Vi 1)]]), (Vi 1), (Vi 2)]]), (.sl false [[(Vi 1)], [(Vi 2)]])])]
abbrev R150 : AV := (Vi 0)
theorem m150 : pv PP T 6300 104 A150 = some R150 := pv_fast M150 M150_ok (by kernel_rfl)
def M151 : Memo := (6300, 104, A150, R150) :: M150
theorem M151_ok : MemoOK PP T M151 := ⟨m150, M150_ok⟩
abbrev A151 : List AV := [(.agg [(.sl false [[(Vi 1), (Vi 0), (Vi 0)]]), (.sl false [[(Vi 1), (Vi 1), (Vi 1), (.sl false [[(Vi 10), (Vi 0)], [(Vi 10), (Vi 10)], [(Vi 0), (Vi 10)]]), (Vi 1), (Vi 0)], [(Vi 2), (Vi 1), (Vi 1), (.sl false [[(Vi 1), (Vi 4)], [(Vi 5), (Vi 5)], [(Vi 4), (Vi 1)]]), (Vi 1), (Vi 2)]]), (.sl false [[(Vi 1)], [(Vi 2)]])]), (.sl false [[(Vi (-2))]])]
abbrev R151 : AV := (Vi 30)
theorem m151 : pv PP T 6340 120 A151 = some R151 := pv_fast M151 M151_ok (by kernel_rfl)
def M152 : Memo := (6340, 120, A151, R151) :: M151
theorem M152_ok : MemoOK PP T M152 := ⟨m151, M151_ok⟩
end Go.Proofs.YtmflphfmefakfaaGreatDoor.Av
