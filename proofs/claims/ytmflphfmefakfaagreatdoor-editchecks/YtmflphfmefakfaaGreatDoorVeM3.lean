/- A part of the proof of EditChecksCardSaid. -/
import Derived.Test.YtmflphfmefakfaaGreatDoorVeM2
set_option linter.all false
namespace Go.Proofs.YtmflphfmefakfaaGreatDoor.Av
open Go
abbrev A58 : List AV := [(.agg [(.sl false []), (.sl false []), (.sl false []), (.sl false [])]), (.sl false [[(Vi 1), (Vi 1), (Vi 0), (Vi 0), (Vi 0), (Vi 0), (Vi 0), (.sl false []), (.lit (.string ⟨#[]⟩)), (.sl false [])], [(Vi 4), (Vi 1), (Vi 1), (Vi 1), (Vi 0), (Vi 0), (Vi 0), (.sl false [[(Vi 10), (Vi 0)], [(Vi 10), (Vi 10)], [(Vi 0), (Vi 10)]]), (.lit (.string ⟨#[]⟩)), (.sl false [])]])]
abbrev R58 : AV := (.tup [(.agg [(.sl false []), (.sl false []), (.sl false []), (.sl false [])]), (Vi 1), (Vi 12)])
theorem m58 : pv PP T 2620 15 A58 = some R58 := pv_fast M58 M58_ok (by kernel_rfl)
def M59 : Memo := (2620, 15, A58, R58) :: M58
theorem M59_ok : MemoOK PP T M59 := ⟨m58, M58_ok⟩
abbrev A59 : List AV := [(.agg [(Vi 4), (Vi 1), (Vi 1), (Vi 1), (Vi (-1)), (Vi 0), (Vi 0), (.sl false [[(Vi 10), (Vi 0)], [(Vi 10), (Vi 10)], [(Vi 0), (Vi 10)]]), (.lit (.string ⟨#[]⟩)), (.sl false [])])]
abbrev R59 : AV := (.lit (.bool true))
theorem m59 : pv PP T 2660 6 A59 = some R59 := pv_fast M59 M59_ok (by kernel_rfl)
def M60 : Memo := (2660, 6, A59, R59) :: M59
theorem M60_ok : MemoOK PP T M60 := ⟨m59, M59_ok⟩
end Go.Proofs.YtmflphfmefakfaaGreatDoor.Av
