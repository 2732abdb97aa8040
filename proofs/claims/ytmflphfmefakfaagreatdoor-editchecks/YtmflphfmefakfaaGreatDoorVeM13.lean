/- A part of the proof of EditChecksCardSaid. -/
import Derived.Test.YtmflphfmefakfaaGreatDoorVeM12
set_option linter.all false
namespace Go.Proofs.YtmflphfmefakfaaGreatDoor.Av
open Go
abbrev A170 : List AV := [(.agg [(.sl false [[(Vi 1), (Vi 0), (Vi 0)]]), (.sl false [[(Vi 1), (Vi 1), (Vi 1), (.sl false [[(Vi 10), (Vi 0)], [(Vi 10), (Vi 10)], [(Vi 0), (Vi 10)]]), (Vi 1), (Vi 0)]]), (.sl false [[(Vi 1)]]), (.sl false [[(Vi 5), (Vi 5), (Vi 1), (.lit (.string ⟨#[85, 114]⟩)), (.sl false [[(Vi 1)]])]])]), (.agg [(Vi 4), (Vi 2), (Vi 1), (Vi 1), (Vi 7), (Vi 0), (Vi 0), (.sl false [[(Vi 1), (Vi 4)], [(Vi 5), (Vi 5)], [(Vi 4), (Vi 1)]]), (.lit (.string ⟨#[]⟩)), (.sl false [])])]
abbrev R170 : AV := (.tup [(.agg [(.sl false [[(Vi 1), (Vi 0), (Vi 0)]]), (.sl false [[(Vi 1), (Vi 1), (Vi 1), (.sl false [[(Vi 10), (Vi 0)], [(Vi 10), (Vi 10)], [(Vi 0), (Vi 10)]]), (Vi 7), (Vi 0)], [(Vi 2), (Vi 1), (Vi 1), (.sl false [[(Vi 1), (Vi 4)], [(Vi 5), (Vi 5)], [(Vi 4), (Vi 1)]]), (Vi 7), (Vi 1)]]), (.sl false [[(Vi 1)], [(Vi 7)]]), (.sl false [[(Vi 5), (Vi 5), (Vi 1), (.lit (.string ⟨#[85, 114]⟩)), (.sl false [[(Vi 1)], [(Vi 7)]])]])]), (Vi 0)])
theorem m170 : pv PP T 7100 16 A170 = some R170 := pv_fast M170 M170_ok (by kernel_rfl)
def M171 : Memo := (7100, 16, A170, R170) :: M170
theorem M171_ok : MemoOK PP T M171 := ⟨m170, M170_ok⟩
end Go.Proofs.YtmflphfmefakfaaGreatDoor.Av
