/- A part of the proof of EditChecksCardSaid. -/
import Derived.Test.YtmflphfmefakfaaGreatDoorVeM9
set_option linter.all false
namespace Go.Proofs.YtmflphfmefakfaaGreatDoor.Av
open Go
abbrev A152 : List AV := [(.agg [(.sl false [[(Vi 1), (Vi 0), (Vi 0)]]), (.sl false [[(Vi 1), (Vi 1), (Vi 1), (.sl false [[(Vi 10), (Vi 0)], [(Vi 10), (Vi 10)], [(Vi 0), (Vi 10)]]), (Vi 1), (Vi 0)], [(Vi 2), (Vi 1), (Vi 1), (.sl false [[(Vi 1), (Vi 4)], [(Vi 5), (Vi 5)], [(Vi 4), (Vi 1)]]), (Vi 1), (Vi 2)]]), (.sl false [[(Vi 1)], [(Vi 2)]])]), (.sl false [[(Vi (-1))]])]
abbrev R152 : AV := (Vi (-200))
theorem m152 : pv PP T 6380 120 A152 = some R152 := pv_fast M152 M152_ok (by kernel_rfl)
def M153 : Memo := (6380, 120, A152, R152) :: M152
theorem M153_ok : MemoOK PP T M153 := ⟨m152, M152_ok⟩
abbrev A153 : List AV := [(.agg [(.sl false [[(Vi 1), (Vi 0), (Vi 0)]]), (.sl false [[(Vi 1), (Vi 1), (Vi 1), (.sl false [[(Vi 10), (Vi 0)], [(Vi 10), (Vi 10)], [(Vi 0), (Vi 10)]]), (Vi 1), (Vi 0)], [(Vi 2), (Vi 1), (Vi 1), (.sl false [[(Vi 1), (Vi 4)], [(Vi 5), (Vi 5)], [(Vi 4), (Vi 1)]]), (Vi 1), (Vi 2)]]), (.sl false [[(Vi 1)], [(Vi 2)]])]), (.sl false [[(Vi 1)], [(Vi 2)]])]
abbrev R153 : AV := (Vi 170)
theorem m153 : pv PP T 6420 120 A153 = some R153 := pv_fast M153 M153_ok (by kernel_rfl)
def M154 : Memo := (6420, 120, A153, R153) :: M153
theorem M154_ok : MemoOK PP T M154 := ⟨m153, M153_ok⟩
abbrev A154 : List AV := [(.agg [(.sl false [[(Vi 1), (Vi 0), (Vi 0)]]), (.sl false [[(Vi 1), (Vi 1), (Vi 1), (.sl false [[(Vi 10), (Vi 0)], [(Vi 10), (Vi 10)], [(Vi 0), (Vi 10)]]), (Vi 1), (Vi 0)], [(Vi 2), (Vi 1), (Vi 1), (.sl false [[(Vi 1), (Vi 4)], [(Vi 5), (Vi 5)], [(Vi 4), (Vi 1)]]), (Vi 1), (Vi 1)]]), (.sl false [[(Vi 1)]]), (.sl false [[(Vi 5), (Vi 5), (Vi 1), (.lit (.string ⟨#[85, 114]⟩)), (.sl false [[(Vi 1)]])]])]), (Vi 1)]
abbrev R154 : AV := (.tup [(Vi 0), (.lit (.bool true))])
theorem m154 : pv PP T 6460 86 A154 = some R154 := pv_fast M154 M154_ok (by kernel_rfl)
def M155 : Memo := (6460, 86, A154, R154) :: M154
theorem M155_ok : MemoOK PP T M155 := ⟨m154, M154_ok⟩
abbrev A155 : List AV := [(.agg [(.sl false [[(Vi 1), (Vi 0), (Vi 0)]]), (.sl false [[(Vi 1), (Vi 1), (Vi 1), (.sl false [[(Vi 10), (Vi 0)], [(Vi 10), (Vi 10)], [(Vi 0), (Vi 10)]]), (Vi 7), (Vi 0)], [(Vi 2), (Vi 1), (Vi 1), (.sl false [[(Vi 1), (Vi 4)], [(Vi 5), (Vi 5)], [(Vi 4), (Vi 1)]]), (Vi 1), (Vi 1)]]), (.sl false [[(Vi 1)]]), (.sl false [[(Vi 5), (Vi 5), (Vi 1), (.lit (.string ⟨#[85, 114]⟩)), (.sl false [[(Vi 1)]])]])]), (Vi 2)]
abbrev R155 : AV := (.tup [(Vi 1), (.lit (.bool true))])
theorem m155 : pv PP T 6500 86 A155 = some R155 := pv_fast M155 M155_ok (by kernel_rfl)
def M156 : Memo := (6500, 86, A155, R155) :: M155
theorem M156_ok : MemoOK PP T M156 := ⟨m155, M155_ok⟩
abbrev A156 : List AV := [(.agg [(.sl false [[(Vi 1), (Vi 0), (Vi 0)]]), (.sl false [[(Vi 1), (Vi 1), (Vi 1), (.sl false [[(Vi 10), (Vi 0)], [(Vi 10), (Vi 10)], [(Vi 0), (Vi 10)]]), (Vi 7), (Vi 0)], [(Vi 2), (Vi 1), (Vi 1), (.sl false [[(Vi 1), (Vi 4)], [(Vi 5), (Vi 5)], [(Vi 4), (Vi 1)]]), (Vi 7), (Vi 1)]]), (.sl false [[(Vi 1)], [(Vi 7)]])])]
abbrev R156 : AV := (.lit (.bool true))
theorem m156 : pv PP T 6540 129 A156 = some R156 := pv_fast M156 M156_ok (by kernel_rfl)
def M157 : Memo := (6540, 129, A156, R156) :: M156
theorem M157_ok : MemoOK PP T M157 := ⟨m156, M156_ok⟩
abbrev A157 : List AV := [(.agg [(.sl false [[(Vi 1), (Vi 0), (Vi 0)]]), (.sl false [[(Vi 1), (Vi 1), (Vi 1), (.sl false [[(Vi 10), (Vi 0)], [(Vi 10), (Vi 10)], [(Vi 0), (Vi 10)]]), (Vi 7), (Vi 0)], [(Vi 2), (Vi 1), (Vi 1), (.sl false [[(Vi 1), (Vi 4)], [(Vi 5), (Vi 5)], [(Vi 4), (Vi 1)]]), (Vi 7), (Vi 1)]]), (.sl false [[(Vi 1)], [(Vi 7)]])]), (.sl false [[(Vi 1)]])]
abbrev R157 : AV := (Vi 0)
theorem m157 : pv PP T 6580 130 A157 = some R157 := pv_fast M157 M157_ok (by kernel_rfl)
def M158 : Memo := (6580, 130, A157, R157) :: M157
theorem M158_ok : MemoOK PP T M158 := ⟨m157, M157_ok⟩
abbrev A158 : List AV := [(.agg [(.sl false [[(Vi 1), (Vi 0), (Vi 0)]]), (.sl false [[(Vi 1), (Vi 1), (Vi 1), (.sl false [[(Vi 10), (Vi 0)], [(Vi 10), (Vi 10)], [(Vi 0), (Vi 10)]]), (Vi 7), (Vi 0)], [(Vi 2), (Vi 1), (Vi 1), (.sl false [[(Vi 1), (Vi 4)], [(Vi 5), (Vi 5)], [(Vi 4), (Vi 1)]]), (Vi 7), (Vi 1)]]), (.sl false [[(Vi 1)], [(Vi 7)]])]), (Vi 1)]
abbrev R158 : AV := (.tup [(.sl false [[(Vi 0), (Vi 0)], [(Vi 10), (Vi 0)], [(Vi 10), (Vi 10)], [(Vi 0), (Vi 10)], [(Vi 0), (Vi 0)]]), (Vi 0)])
theorem m158 : pv PP T 6620 91 A158 = some R158 := pv_fast M158 M158_ok (by kernel_rfl)
def M159 : Memo := (6620, 91, A158, R158) :: M158
theorem M159_ok : MemoOK PP T M159 := ⟨m158, M158_ok⟩
abbrev A159 : List AV := [(.agg [(.sl false [[(Vi 1), (Vi 0), (Vi 0)]]), (.sl false [[(Vi 1), (Vi 1), (Vi 1), (.sl false [[(Vi 10), (Vi 0)], [(Vi 10), (Vi 10)], [(Vi 0), (Vi 10)]]), (Vi 7), (Vi 0)], [(Vi 2), (Vi 1), (Vi 1), (.sl false [[(Vi 1), (Vi 4)], [(Vi 5), (Vi 5)], [(Vi 4), (Vi 1)]]), (Vi 7), (Vi 1)]]), (.sl false [[(Vi 1)], [(Vi 7)]])]), (Vi 2)]
abbrev R159 : AV := (.tup [(.sl false [[(Vi 0), (Vi 0)], [(Vi 1), (Vi 4)], [(Vi 5), (Vi 5)], [(Vi 4), (Vi 1)], [(Vi 0), (Vi 0)]]), (Vi 0)])
theorem m159 : pv PP T 6660 91 A159 = some R159 := pv_fast M159 M159_ok (by kernel_rfl)
def M160 : Memo := (6660, 91, A159, R159) :: M159
theorem M160_ok : MemoOK PP T M160 := ⟨m159, M159_ok⟩
end Go.Proofs.YtmflphfmefakfaaGreatDoor.Av
