/- A part of the proof of EditChecksCardSaid. -/
import Derived.Test.YtmflphfmefakfaaGreatDoorVeM7
set_option linter.all false
namespace Go.Proofs.YtmflphfmefakfaaGreatDoor.Av
open Go
abbrev A134 : List AV := [(.agg [(.sl false [[(Vi 1), (Vi 0), (Vi 0)]]), (.sl false [[(Vi 1), (Vi 1), (Vi 1), (.sl false [[(Vi 10), (Vi 0)], [(Vi 10), (Vi 10)], [(Vi 0), (Vi 10)]]), (Vi 0), (Vi 0)], [(Vi 2), (Vi 1), (Vi 1), (.sl false [[(Vi 1), (Vi 4)], [(Vi 5), (Vi 5)], [(Vi 4), (Vi 1)]]), (Vi 0), (Vi 0)]]), (.sl false [])])]
abbrev R134 : AV := (Vi 0)
theorem m134 : pv PP T 5660 104 A134 = some R134 := pv_fast M134 M134_ok (by kernel_rfl)
def M135 : Memo := (5660, 104, A134, R134) :: M134
theorem M135_ok : MemoOK PP T M135 := ⟨m134, M134_ok⟩
abbrev A135 : List AV := [(.agg [(Vi 0), (Vi 0)]), (.agg [(Vi 1), (Vi 4)]), (.agg [(Vi 0), (Vi 10)])]
abbrev R135 : AV := (.lit (.bool true))
theorem m135 : pv PP T 5700 165 A135 = some R135 := pv_fast M135 M135_ok (by kernel_rfl)
def M136 : Memo := (5700, 165, A135, R135) :: M135
theorem M136_ok : MemoOK PP T M136 := ⟨m135, M135_ok⟩
abbrev A136 : List AV := [(.agg [(Vi 0), (Vi 0)]), (.agg [(Vi 1), (Vi 4)]), (.agg [(Vi 10), (Vi 0)])]
abbrev R136 : AV := (.lit (.bool false))
theorem m136 : pv PP T 5740 165 A136 = some R136 := pv_fast M136 M136_ok (by kernel_rfl)
def M137 : Memo := (5740, 165, A136, R136) :: M136
theorem M137_ok : MemoOK PP T M137 := ⟨m136, M136_ok⟩
abbrev A137 : List AV := [(.agg [(Vi 0), (Vi 0)]), (.agg [(Vi 10), (Vi 0)]), (.agg [(Vi 1), (Vi 4)])]
abbrev R137 : AV := (.lit (.bool true))
theorem m137 : pv PP T 5780 165 A137 = some R137 := pv_fast M137 M137_ok (by kernel_rfl)
def M138 : Memo := (5780, 165, A137, R137) :: M137
theorem M138_ok : MemoOK PP T M138 := ⟨m137, M137_ok⟩
abbrev A138 : List AV := [(.agg [(Vi 0), (Vi 0)]), (.agg [(Vi 4), (Vi 1)]), (.agg [(Vi 0), (Vi 10)])]
abbrev R138 : AV := (.lit (.bool true))
theorem m138 : pv PP T 5820 165 A138 = some R138 := pv_fast M138 M138_ok (by kernel_rfl)
def M139 : Memo := (5820, 165, A138, R138) :: M138
theorem M139_ok : MemoOK PP T M139 := ⟨m138, M138_ok⟩
abbrev A139 : List AV := [(.agg [(Vi 0), (Vi 0)]), (.agg [(Vi 4), (Vi 1)]), (.agg [(Vi 1), (Vi 4)])]
abbrev R139 : AV := (.lit (.bool true))
theorem m139 : pv PP T 5860 165 A139 = some R139 := pv_fast M139 M139_ok (by kernel_rfl)
def M140 : Memo := (5860, 165, A139, R139) :: M139
theorem M140_ok : MemoOK PP T M140 := ⟨m139, M139_ok⟩
abbrev A140 : List AV := [(.agg [(Vi 0), (Vi 0)]), (.agg [(Vi 4), (Vi 1)]), (.agg [(Vi 10), (Vi 0)])]
abbrev R140 : AV := (.lit (.bool false))
theorem m140 : pv PP T 5900 165 A140 = some R140 := pv_fast M140 M140_ok (by kernel_rfl)
def M141 : Memo := (5900, 165, A140, R140) :: M140
theorem M141_ok : MemoOK PP T M141 := ⟨m140, M140_ok⟩
abbrev A141 : List AV := [(.agg [(Vi 0), (Vi 0)]), (.agg [(Vi 10), (Vi 0)]), (.agg [(Vi 4), (Vi 1)])]
abbrev R141 : AV := (.lit (.bool true))
theorem m141 : pv PP T 5940 165 A141 = some R141 := pv_fast M141 M141_ok (by kernel_rfl)
def M142 : Memo := (5940, 165, A141, R141) :: M141
theorem M142_ok : MemoOK PP T M142 := ⟨m141, M141_ok⟩
abbrev A142 : List AV := [(.agg [(.sl false [[(Vi 1), (Vi 0), (Vi 0)]]), (.sl false [[(Vi 1), (Vi 1), (Vi 1), (.sl false [[(Vi 10), (Vi 0)], [(Vi 10), (Vi 10)], [(Vi 0), (Vi 10)]]), (Vi 0), (Vi 0)], [(Vi 2), (Vi 1), (Vi 1), (.sl false [[(Vi 1), (Vi 4)], [(Vi 5), (Vi 5)], [(Vi 4), (Vi 1)]]), (Vi 0), (Vi 0)]]), (.sl false [])]), (.sl false [[(Vi (-2))]])]
abbrev R142 : AV := (Vi 30)
theorem m142 : pv PP T 5980 120 A142 = some R142 := pv_fast M142 M142_ok (by kernel_rfl)
def M143 : Memo := (5980, 120, A142, R142) :: M142
theorem M143_ok : MemoOK PP T M143 := ⟨m142, M142_ok⟩
abbrev A143 : List AV := [(.agg [(.sl false [[(Vi 1), (Vi 0), (Vi 0)]]), (.sl false [[(Vi 1), (Vi 1), (Vi 1), (.sl false [[(Vi 10), (Vi 0)], [(Vi 10), (Vi 10)], [(Vi 0), (Vi 10)]]), (Vi 0), (Vi 0)], [(Vi 2), (Vi 1), (Vi 1), (.sl false [[(Vi 1), (Vi 4)], [(Vi 5), (Vi 5)], [(Vi 4), (Vi 1)]]), (Vi 0), (Vi 0)]]), (.sl false [])]), (.sl false [[(Vi (-1))]])]
abbrev R143 : AV := (Vi (-200))
theorem m143 : pv PP T 6020 120 A143 = some R143 := pv_fast M143 M143_ok (by kernel_rfl)
def M144 : Memo := (6020, 120, A143, R143) :: M143
theorem M144_ok : MemoOK PP T M144 := ⟨m143, M143_ok⟩
abbrev A144 : List AV := [(.agg [(.sl false [[(Vi 1), (Vi 0), (Vi 0)]]), (.sl false [[(Vi 1), (Vi 1), (Vi 1), (.sl false [[(Vi 10), (Vi 0)], [(Vi 10), (Vi 10)], [(Vi 0), (Vi 10)]]), (Vi 0), (Vi 0)], [(Vi 2), (Vi 1), (Vi 1), (.sl false [[(Vi 1), (Vi 4)], [(Vi 5), (Vi 5)], [(Vi 4), (Vi 1)]]), (Vi 0), (Vi 0)]]), (.sl false [])]), (.sl false [[(Vi 1)], [(Vi 2)]])]
abbrev R144 : AV := (Vi 170)
theorem m144 : pv PP T 6060 120 A144 = some R144 := pv_fast M144 M144_ok (by kernel_rfl)
def M145 : Memo := (6060, 120, A144, R144) :: M144
theorem M145_ok : MemoOK PP T M145 := ⟨m144, M144_ok⟩
abbrev A145 : List AV := [(.agg [(.sl false [[(Vi 1), (Vi 0), (Vi 0)]]), (.sl false [[(Vi 1), (Vi 1), (Vi 1), (.sl false [[(Vi 10), (Vi 0)], [(Vi 10), (Vi 10)], [(Vi 0), (Vi 10)]]), (Vi 1), (Vi 0)], [(Vi 2), (Vi 1), (Vi 1), (.sl false [[(Vi 1), (Vi 4)], [(Vi 5), (Vi 5)], [(Vi 4), (Vi 1)]]), (Vi 1), (Vi 2)]]), (.sl false [[(Vi 1)], [(Vi 2)]])])]
abbrev R145 : AV := (.lit (.bool true))
theorem m145 : pv PP T 6100 129 A145 = some R145 := pv_fast M145 M145_ok (by kernel_rfl)
def M146 : Memo := (6100, 129, A145, R145) :: M145
theorem M146_ok : MemoOK PP T M146 := ⟨m145, M145_ok⟩
abbrev A146 : List AV := [(.agg [(.sl false [[(Vi 1), (Vi 0), (Vi 0)]]), (.sl false [[(Vi 1), (Vi 1), (Vi 1), (.sl false [[(Vi 10), (Vi 0)], [(Vi 10), (Vi 10)], [(Vi 0), (Vi 10)]]), (Vi 1), (Vi 0)], [(Vi 2), (Vi 1), (Vi 1), (.sl false [[(Vi 1), (Vi 4)], [(Vi 5), (Vi 5)], [(Vi 4), (Vi 1)]]), (Vi 1), (Vi 2)]]), (.sl false [[(Vi 1)], [(Vi 2)]])]), (.sl false [[(Vi 1)]])]
abbrev R146 : AV := (Vi 0)
theorem m146 : pv PP T 6140 130 A146 = some R146 := pv_fast M146 M146_ok (by kernel_rfl)
def M147 : Memo := (6140, 130, A146, R146) :: M146
theorem M147_ok : MemoOK PP T M147 := ⟨m146, M146_ok⟩
abbrev A147 : List AV := [(.agg [(.sl false [[(Vi 1), (Vi 0), (Vi 0)]]), (.sl false [[(Vi 1), (Vi 1), (Vi 1), (.sl false [[(Vi 10), (Vi 0)], [(Vi 10), (Vi 10)], [(Vi 0), (Vi 10)]]), (Vi 1), (Vi 0)], [(Vi 2), (Vi 1), (Vi 1), (.sl false [[(Vi 1), (Vi 4)], [(Vi 5), (Vi 5)], [(Vi 4), (Vi 1)]]), (Vi 1), (Vi 2)]]), (.sl false [[(Vi 1)], [(Vi 2)]])]), (Vi 1)]
abbrev R147 : AV := (.tup [(.sl false [[(Vi 0), (Vi 0)], [(Vi 10), (Vi 0)], [(Vi 10), (Vi 10)], [(Vi 0), (Vi 10)], [(Vi 0), (Vi 0)]]), (Vi 0)])
theorem m147 : pv PP T 6180 91 A147 = some R147 := pv_fast M147 M147_ok (by kernel_rfl)
def M148 : Memo := (6180, 91, A147, R147) :: M147
theorem M148_ok : MemoOK PP T M148 := ⟨m147, M147_ok⟩
abbrev A148 : List AV := [(.agg [(.sl false [[(Vi 1), (Vi 0), (Vi 0)]]), (.sl false [[(Vi 1), (Vi 1), (Vi 1), (.sl false [[(Vi 10), (Vi 0)], [(Vi 10), (Vi 10)], [(Vi 0), (Vi 10)]]), (Vi 1), (Vi 0)], [(Vi 2), (Vi 1), (Vi 1), (.sl false [[(Vi 1), (Vi 4)], [(Vi 5), (Vi 5)], [(Vi 4), (Vi 1)]]), (Vi 1), (Vi 2)]]), (.sl false [[(Vi 1)], [(Vi 2)]])]), (Vi 2)]
abbrev R148 : AV := (.tup [(.sl false [[(Vi 0), (Vi 0)], [(Vi 1), (Vi 4)], [(Vi 5), (Vi 5)], [(Vi 4), (Vi 1)], [(Vi 0), (Vi 0)]]), (Vi 0)])
theorem m148 : pv PP T 6220 91 A148 = some R148 := pv_fast M148 M148_ok (by kernel_rfl)
def M149 : Memo := (6220, 91, A148, R148) :: M148
theorem M149_ok : MemoOK PP T M149 := ⟨m148, M148_ok⟩
end Go.Proofs.YtmflphfmefakfaaGreatDoor.Av
