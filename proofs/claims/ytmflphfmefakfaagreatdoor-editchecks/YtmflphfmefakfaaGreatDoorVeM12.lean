/- A part of the proof of EditChecksCardSaid. -/
import Derived.Test.YtmflphfmefakfaaGreatDoorVeM11
set_option linter.all false
namespace Go.Proofs.YtmflphfmefakfaaGreatDoor.Av
open Go
abbrev A162 : List AV := [(.agg [(.sl false [[(Vi 1), (Vi 0), (Vi 0)]]), (.sl false [[(Vi 1), (Vi 1), (Vi 1), (.sl false [[(Vi 10), (Vi 0)], [(Vi 10), (Vi 10)], [(Vi 0), (Vi 10)]]), (Vi 7), (Vi 0)], [(Vi 2), (Vi 1), (Vi 1), (.sl false [[(Vi 1), (Vi 4)], [(Vi 5), (Vi 5)], [(Vi 4), (Vi 1)]]), (Vi 7), (Vi 1)]]), (.sl false [[(Vi 1)], [(Vi 7)]])]), (Vi 1)]
abbrev R162 : AV := (.sl false [[(Vi 1)], [(Vi (-2))], [(Vi 2)], [(Vi (-1))]])
theorem m162 : pv PP T 6780 116 A162 = some R162 := pv_fast M162 M162_ok (by kernel_rfl)
def M163 : Memo := (6780, 116, A162, R162) :: M162
theorem M163_ok : MemoOK PP T M163 := ⟨m162, M162_ok⟩
abbrev A163 : List AV := [(.agg [(.sl false [[(Vi 1), (Vi 0), (Vi 0)]]), (.sl false [[(Vi 1), (Vi 1), (Vi 1), (.sl false [[(Vi 10), (Vi 0)], [(Vi 10), (Vi 10)], [(Vi 0), (Vi 10)]]), (Vi 7), (Vi 0)], [(Vi 2), (Vi 1), (Vi 1), (.sl false [[(Vi 1), (Vi 4)], [(Vi 5), (Vi 5)], [(Vi 4), (Vi 1)]]), (Vi 7), (Vi 1)]]), (.sl false [[(Vi 1)], [(Vi 7)]])])]
abbrev R163 : AV := (.tup [(.sl false [[(.sl false [[(Vi (-2))]])], [(.sl false [[(Vi (-1))]])], [(.sl false [[(Vi 1)], [(Vi 2)]])]]), (Vi 0)])
theorem m163 : pv PP T 6820 96 A163 = some R163 := pv_fast M163 M163_ok (by kernel_rfl)
def M164 : Memo := (6820, 96, A163, R163) :: M163
theorem M164_ok : MemoOK PP T M164 := ⟨m163, M163_ok⟩
abbrev A164 : List AV := [(.agg [(.sl false [[(Vi 1), (Vi 0), (Vi 0)]]), (.sl false [[(Vi 1), (Vi 1), (Vi 1), (.sl false [[(Vi 10), (Vi 0)], [(Vi 10), (Vi 10)], [(Vi 0), (Vi 10)]]), (Vi 7), (Vi 0)], [(Vi 2), (Vi 1), (Vi 1), (.sl false [[(Vi 1), (Vi 4)], [(Vi 5), (Vi 5)], [(Vi 4), (Vi 1)]]), (Vi 7), (Vi 1)]]), (.sl false [[(Vi 1)], [(Vi 7)]])]), (.sl false [[(Vi (-2))]])]
abbrev R164 : AV := (Vi 30)
theorem m164 : pv PP T 6860 120 A164 = some R164 := pv_fast M164 M164_ok (by kernel_rfl)
def M165 : Memo := (6860, 120, A164, R164) :: M164
theorem M165_ok : MemoOK PP T M165 := ⟨m164, M164_ok⟩
abbrev A165 : List AV := [(.agg [(.sl false [[(Vi 1), (Vi 0), (Vi 0)]]), (.sl false [[(Vi 1), (Vi 1), (Vi 1), (.sl false [[(Vi 10), (Vi 0)], [(Vi 10), (Vi 10)], [(Vi 0), (Vi 10)]]), (Vi 7), (Vi 0)], [(Vi 2), (Vi 1), (Vi 1), (.sl false [[(Vi 1), (Vi 4)], [(Vi 5), (Vi 5)], [(Vi 4), (Vi 1)]]), (Vi 7), (Vi 1)]]), (.sl false [[(Vi 1)], [(Vi 7)]])]), (.sl false [[(Vi (-1))]])]
abbrev R165 : AV := (Vi (-200))
theorem m165 : pv PP T 6900 120 A165 = some R165 := pv_fast M165 M165_ok (by kernel_rfl)
def M166 : Memo := (6900, 120, A165, R165) :: M165
theorem M166_ok : MemoOK PP T M166 := ⟨m165, M165_ok⟩
abbrev A166 : List AV := [(.agg [(.sl false [[(Vi 1), (Vi 0), (Vi 0)]]), (.sl false [[(Vi 1), (Vi 1), (Vi 1), (.sl false [[(Vi 10), (Vi 0)], [(Vi 10), (Vi 10)], [(Vi 0), (Vi 10)]]), (Vi 7), (Vi 0)], [(Vi 2), (Vi 1), (Vi 1), (.sl false [[(Vi 1), (Vi 4)], [(Vi 5), (Vi 5)], [(Vi 4), (Vi 1)]]), (Vi 7), (Vi 1)]]), (.sl false [[(Vi 1)], [(Vi 7)]])]), (.sl false [[(Vi 1)], [(Vi 2)]])]
abbrev R166 : AV := (Vi 170)
theorem m166 : pv PP T 6940 120 A166 = some R166 := pv_fast M166 M166_ok (by kernel_rfl)
def M167 : Memo := (6940, 120, A166, R166) :: M166
theorem M167_ok : MemoOK PP T M167 := ⟨m166, M166_ok⟩
abbrev A167 : List AV := [(.agg [(.sl false [[(Vi 1), (Vi 0), (Vi 0)]]), (.sl false [[(Vi 1), (Vi 1), (Vi 1), (.sl false [[(Vi 10), (Vi 0)], [(Vi 10), (Vi 10)], [(Vi 0), (Vi 10)]]), (Vi 7), (Vi 0)], [(Vi 2), (Vi 1), (Vi 1), (.sl false [[(Vi 1), (Vi 4)], [(Vi 5), (Vi 5)], [(Vi 4), (Vi 1)]]), (Vi 7), (Vi 1)]]), (.sl false [[(Vi 1)], [(Vi 7)]])])]
abbrev R167 : AV := (Vi 0)
theorem m167 : pv PP T 6980 56 A167 = some R167 := pv_fast M167 M167_ok (by kernel_rfl)
def M168 : Memo := (6980, 56, A167, R167) :: M167
theorem M168_ok : MemoOK PP T M168 := ⟨m167, M167_ok⟩
abbrev A168 : List AV := [(.agg [(.sl false [[(Vi 1), (Vi 0), (Vi 0)]]), (.sl false [[(Vi 1), (Vi 1), (Vi 1), (.sl false [[(Vi 10), (Vi 0)], [(Vi 10), (Vi 10)], [(Vi 0), (Vi 10)]]), (Vi 7), (Vi 0)], [(Vi 2), (Vi 1), (Vi 1), (.sl false [[(Vi 1), (Vi 4)], [(Vi 5), (Vi 5)], [(Vi 4), (Vi 1)]]), (Vi 7), (Vi 1)]]), (.sl false [[(Vi 1)], [(Vi 7)]])]), (.agg [(Vi 5), (Vi 5), (Vi 1), (.lit (.string ⟨#[85, 114]⟩)), (.sl false [[(Vi 1)], [(Vi 7)]])])]
abbrev R168 : AV := (.lit (.bool false))
theorem m168 : pv PP T 7020 80 A168 = some R168 := pv_fast M168 M168_ok (by kernel_rfl)
def M169 : Memo := (7020, 80, A168, R168) :: M168
theorem M169_ok : MemoOK PP T M169 := ⟨m168, M168_ok⟩
abbrev A169 : List AV := [(.agg [(.sl false [[(Vi 1), (Vi 0), (Vi 0)]]), (.sl false [[(Vi 1), (Vi 1), (Vi 1), (.sl false [[(Vi 10), (Vi 0)], [(Vi 10), (Vi 10)], [(Vi 0), (Vi 10)]]), (Vi 7), (Vi 0)], [(Vi 2), (Vi 1), (Vi 1), (.sl false [[(Vi 1), (Vi 4)], [(Vi 5), (Vi 5)], [(Vi 4), (Vi 1)]]), (Vi 7), (Vi 1)]]), (.sl false [[(Vi 1)], [(Vi 7)]]), (.sl false [[(Vi 5), (Vi 5), (Vi 1), (.lit (.string ⟨#[85, 114]⟩)), (.sl false [[(Vi 1)], [(Vi 7)]])]])])]
abbrev R169 : AV := (Vi 0)
theorem m169 : pv PP T 7060 33 A169 = some R169 := pv_fast M169 M169_ok (by kernel_rfl)
def M170 : Memo := (7060, 33, A169, R169) :: M169
theorem M170_ok : MemoOK PP T M170 := ⟨m169, M169_ok⟩
end Go.Proofs.YtmflphfmefakfaaGreatDoor.Av
