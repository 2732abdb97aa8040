/- A part of the proof of EditChecksCardSaid: an evaluator of the program, proved sound, and what it says. -/
import Derived.Test.YtmflphfmefakfaaGreatDoorVeM5
namespace Go.Proofs.YtmflphfmefakfaaGreatDoor.Av
open Go
abbrev A127 : List AV := [(.agg [(.sl false [[(Vi 1), (Vi 0), (Vi 0)]]), (.sl false [[(Vi 1), (Vi 1), (Vi 1), (.sl false [[(Vi 10), (Vi 0)], [(Vi 10), (Vi 10)], [(Vi 0), (Vi 10)]]), (Vi 1), (Vi 0)], [(Vi 2), (Vi 1), (Vi 1), (.sl false [[(Vi 1), (Vi 4)], [(Vi 5), (Vi 5)], [(Vi 4), (Vi 1)]]), (Vi 0), (Vi 0)]]), (.sl false [[(Vi 1)]])])]
abbrev R127 : AV := (.lit (.bool true))
theorem m127 : pv PP T 5380 131 A127 = some R127 := pv_fast M127 M127_ok (by kernel_rfl)
def M128 : Memo := (5380, 131, A127, R127) :: M127
theorem M128_ok : MemoOK PP T M128 := ⟨m127, M127_ok⟩
abbrev A128 : List AV := [(.agg [(.sl false [[(Vi 1), (Vi 0), (Vi 0)]]), (.sl false [[(Vi 1), (Vi 1), (Vi 1), (.sl false [[(Vi 10), (Vi 0)], [(Vi 10), (Vi 10)], [(Vi 0), (Vi 10)]]), (Vi 1), (Vi 0)], [(Vi 2), (Vi 1), (Vi 1), (.sl false [[(Vi 1), (Vi 4)], [(Vi 5), (Vi 5)], [(Vi 4), (Vi 1)]]), (Vi 0), (Vi 0)]]), (.sl false [[(Vi 1)]])])]
abbrev R128 : AV := (Vi 0)
theorem m128 : pv PP T 5420 104 A128 = some R128 := pv_fast M128 M128_ok (by kernel_rfl)
def M129 : Memo := (5420, 104, A128, R128) :: M128
theorem M129_ok : MemoOK PP T M129 := ⟨m128, M128_ok⟩
abbrev A129 : List AV := [(.agg [(.sl false [[(Vi 1), (Vi 0), (Vi 0)]]), (.sl false [[(Vi 1), (Vi 1), (Vi 1), (.sl false [[(Vi 10), (Vi 0)], [(Vi 10), (Vi 10)], [(Vi 0), (Vi 10)]]), (Vi 0), (Vi 0)], [(Vi 2), (Vi 1), (Vi 1), (.sl false [[(Vi 1), (Vi 4)], [(Vi 5), (Vi 5)], [(Vi 4), (Vi 1)]]), (Vi 0), (Vi 0)]]), (.sl false [])])]
abbrev R129 : AV := (.lit (.bool true))
theorem m129 : pv PP T 5460 129 A129 = some R129 := pv_fast M129 M129_ok (by kernel_rfl)
def M130 : Memo := (5460, 129, A129, R129) :: M129
theorem M130_ok : MemoOK PP T M130 := ⟨m129, M129_ok⟩
end Go.Proofs.YtmflphfmefakfaaGreatDoor.Av
