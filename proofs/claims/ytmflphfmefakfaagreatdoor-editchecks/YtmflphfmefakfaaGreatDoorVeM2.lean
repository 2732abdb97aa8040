/- A part of the proof of EditChecksCardSaid. -/
import Derived.Test.YtmflphfmefakfaaGreatDoorVeM1
set_option linter.all false
namespace Go.Proofs.YtmflphfmefakfaaGreatDoor.Av
open Go
abbrev A54 : List AV := [(.agg [(.sl false [[(Vi 1), (Vi 0), (Vi 0)]]), (.sl false [[(Vi 1), (Vi 1), (Vi 1), (.sl false [[(Vi 10), (Vi 0)], [(Vi 10), (Vi 10)], [(Vi 0), (Vi 10)]]), (Vi 1), (Vi 0)]]), (.sl false [[(Vi 1)]])])]
abbrev R54 : AV := (Vi 0)
theorem m54 : pv PP T 2460 56 A54 = some R54 := pv_fast M54 M54_ok (by kernel_rfl)
def M55 : Memo := (2460, 56, A54, R54) :: M54
theorem M55_ok : MemoOK PP T M55 := ⟨m54, M54_ok⟩
abbrev A55 : List AV := [(.agg [(.sl false [[(Vi 1), (Vi 0), (Vi 0)]]), (.sl false [[(Vi 1), (Vi 1), (Vi 1), (.sl false [[(Vi 10), (Vi 0)], [(Vi 10), (Vi 10)], [(Vi 0), (Vi 10)]]), (Vi 1), (Vi 0)]]), (.sl false [[(Vi 1)]]), (.sl false [])])]
abbrev R55 : AV := (Vi 0)
theorem m55 : pv PP T 2500 33 A55 = some R55 := pv_fast M55 M55_ok (by kernel_rfl)
def M56 : Memo := (2500, 33, A55, R55) :: M55
theorem M56_ok : MemoOK PP T M56 := ⟨m55, M55_ok⟩
abbrev A56 : List AV := [(.agg [(.sl false []), (.sl false []), (.sl false []), (.sl false [])]), (.sl false [[(Vi 1), (Vi 1), (Vi 0), (Vi 0), (Vi 0), (Vi 0), (Vi 0), (.sl false []), (.lit (.string ⟨#[]⟩)), (.sl false [])], [(Vi 4), (Vi 1), (Vi 1), (Vi 1), (Vi 1), (Vi 0), (Vi 0), (.sl false [[(Vi 10), (Vi 0)], [(Vi 10), (Vi 10)], [(Vi 0), (Vi 10)]]), (.lit (.string ⟨#[]⟩)), (.sl false [])]])]
abbrev R56 : AV := (.tup [(.agg [(.sl false [[(Vi 1), (Vi 0), (Vi 0)]]), (.sl false [[(Vi 1), (Vi 1), (Vi 1), (.sl false [[(Vi 10), (Vi 0)], [(Vi 10), (Vi 10)], [(Vi 0), (Vi 10)]]), (Vi 1), (Vi 0)]]), (.sl false [[(Vi 1)]]), (.sl false [])]), (Vi 2), (Vi 0)])
theorem m56 : pv PP T 2540 15 A56 = some R56 := pv_fast M56 M56_ok (by kernel_rfl)
def M57 : Memo := (2540, 15, A56, R56) :: M56
theorem M57_ok : MemoOK PP T M57 := ⟨m56, M56_ok⟩
abbrev A57 : List AV := [(.agg [(Vi 4), (Vi 1), (Vi 1), (Vi 1), (Vi 0), (Vi 0), (Vi 0), (.sl false [[(Vi 10), (Vi 0)], [(Vi 10), (Vi 10)], [(Vi 0), (Vi 10)]]), (.lit (.string ⟨#[]⟩)), (.sl false [])])]
abbrev R57 : AV := (.lit (.bool true))
theorem m57 : pv PP T 2580 6 A57 = some R57 := pv_fast M57 M57_ok (by kernel_rfl)
def M58 : Memo := (2580, 6, A57, R57) :: M57
theorem M58_ok : MemoOK PP T M58 := ⟨m57, M57_ok⟩
end Go.Proofs.YtmflphfmefakfaaGreatDoor.Av
