/- A part of the proof of EditChecksCardSaid. -/
import Derived.Test.YtmflphfmefakfaaGreatDoorVeM13
set_option linter.all false
namespace Go.Proofs.YtmflphfmefakfaaGreatDoor.Av
open Go
abbrev A171 : List AV := [(.agg [(.sl false [[(Vi 1), (Vi 0), (Vi 0)]]), (.sl false [[(Vi 1), (Vi 1), (Vi 1), (.sl false [[(Vi 10), (Vi 0)], [(Vi 10), (Vi 10)], [(Vi 0), (Vi 10)]]), (Vi 1), (Vi 0)]]), (.sl false [[(Vi 1)]]), (.sl false [[(Vi 5), (Vi 5), (Vi 1), (.lit (.string ⟨#[85, 114]⟩)), (.sl false [[(Vi 1)]])]])]), (.agg [(Vi 4), (Vi 2), (Vi 1), (Vi 1), (Vi 7), (Vi 0), (Vi 0), (.sl false [[(Vi 1), (Vi 4)], [(Vi 5), (Vi 5)], [(Vi 4), (Vi 1)]]), (.lit (.string ⟨#[]⟩)), (.sl false [])])]
abbrev R171 : AV := (.tup [(.sl false [[(Vi 5), (Vi 2), (Vi 0), (Vi 0), (Vi 0), (Vi 0), (Vi 0), (.sl false []), (.lit (.string ⟨#[]⟩)), (.sl false [])]]), (Vi 0)])
theorem m171 : pv PP T 7140 17 A171 = some R171 := pv_fast M171 M171_ok (by kernel_rfl)
def M172 : Memo := (7140, 17, A171, R171) :: M171
theorem M172_ok : MemoOK PP T M172 := ⟨m171, M171_ok⟩
abbrev A172 : List AV := [(.agg [(.sl false [[(Vi 1), (Vi 0), (Vi 0)]]), (.sl false [[(Vi 1), (Vi 1), (Vi 1), (.sl false [[(Vi 10), (Vi 0)], [(Vi 10), (Vi 10)], [(Vi 0), (Vi 10)]]), (Vi 1), (Vi 0)]]), (.sl false [[(Vi 1)]])]), (.agg [(.sl false [[(Vi 1), (Vi 0), (Vi 0)]]), (.sl false [[(Vi 1), (Vi 1), (Vi 1), (.sl false [[(Vi 10), (Vi 0)], [(Vi 10), (Vi 10)], [(Vi 0), (Vi 10)]]), (Vi 7), (Vi 0)], [(Vi 2), (Vi 1), (Vi 1), (.sl false [[(Vi 1), (Vi 4)], [(Vi 5), (Vi 5)], [(Vi 4), (Vi 1)]]), (Vi 7), (Vi 1)]]), (.sl false [[(Vi 1)], [(Vi 7)]])])]
abbrev R172 : AV := (.sl false [[(Vi 0), (Vi 0)], [(Vi 10), (Vi 0)], [(Vi 10), (Vi 10)], [(Vi 0), (Vi 10)], [(Vi 0), (Vi 0)]])
theorem m172 : pv PP T 7180 73 A172 = some R172 := pv_fast M172 M172_ok (by kernel_rfl)
def M173 : Memo := (7180, 73, A172, R172) :: M172
theorem M173_ok : MemoOK PP T M173 := ⟨m172, M172_ok⟩
abbrev A173 : List AV := [(.agg [(.sl false [[(Vi 1), (Vi 0), (Vi 0)]]), (.sl false [[(Vi 1), (Vi 1), (Vi 1), (.sl false [[(Vi 10), (Vi 0)], [(Vi 10), (Vi 10)], [(Vi 0), (Vi 10)]]), (Vi 1), (Vi 0)]]), (.sl false [[(Vi 1)]]), (.sl false [[(Vi 5), (Vi 5), (Vi 1), (.lit (.string ⟨#[85, 114]⟩)), (.sl false [[(Vi 1)]])]])]), (Vi 5)]
abbrev R173 : AV := (.tup [(.agg [(Vi 0), (Vi 0), (Vi 10), (Vi 10)]), (.lit (.bool true))])
theorem m173 : pv PP T 7220 75 A173 = some R173 := pv_fast M173 M173_ok (by kernel_rfl)
def M174 : Memo := (7220, 75, A173, R173) :: M173
theorem M174_ok : MemoOK PP T M174 := ⟨m173, M173_ok⟩
abbrev A174 : List AV := [(.agg [(.sl false [[(Vi 1), (Vi 0), (Vi 0)]]), (.sl false [[(Vi 1), (Vi 1), (Vi 1), (.sl false [[(Vi 10), (Vi 0)], [(Vi 10), (Vi 10)], [(Vi 0), (Vi 10)]]), (Vi 7), (Vi 0)], [(Vi 2), (Vi 1), (Vi 1), (.sl false [[(Vi 1), (Vi 4)], [(Vi 5), (Vi 5)], [(Vi 4), (Vi 1)]]), (Vi 7), (Vi 1)]]), (.sl false [[(Vi 1)], [(Vi 7)]])]), (.agg [(.sl false [[(Vi 1), (Vi 0), (Vi 0)]]), (.sl false [[(Vi 1), (Vi 1), (Vi 1), (.sl false [[(Vi 10), (Vi 0)], [(Vi 10), (Vi 10)], [(Vi 0), (Vi 10)]]), (Vi 1), (Vi 0)]]), (.sl false [[(Vi 1)]])])]
abbrev R174 : AV := (.sl false [[(Vi 0), (Vi 0)], [(Vi 10), (Vi 0)], [(Vi 10), (Vi 10)], [(Vi 0), (Vi 10)], [(Vi 0), (Vi 0)], [(Vi 0), (Vi 0)], [(Vi 1), (Vi 4)], [(Vi 5), (Vi 5)], [(Vi 4), (Vi 1)], [(Vi 0), (Vi 0)]])
theorem m174 : pv PP T 7260 73 A174 = some R174 := pv_fast M174 M174_ok (by kernel_rfl)
def M175 : Memo := (7260, 73, A174, R174) :: M174
theorem M175_ok : MemoOK PP T M175 := ⟨m174, M174_ok⟩
abbrev A175 : List AV := [(.agg [(.sl false [[(Vi 1), (Vi 0), (Vi 0)]]), (.sl false [[(Vi 1), (Vi 1), (Vi 1), (.sl false [[(Vi 10), (Vi 0)], [(Vi 10), (Vi 10)], [(Vi 0), (Vi 10)]]), (Vi 7), (Vi 0)], [(Vi 2), (Vi 1), (Vi 1), (.sl false [[(Vi 1), (Vi 4)], [(Vi 5), (Vi 5)], [(Vi 4), (Vi 1)]]), (Vi 7), (Vi 1)]]), (.sl false [[(Vi 1)], [(Vi 7)]]), (.sl false [[(Vi 5), (Vi 5), (Vi 1), (.lit (.string ⟨#[85, 114]⟩)), (.sl false [[(Vi 1)], [(Vi 7)]])]])]), (Vi 5)]
abbrev R175 : AV := (.tup [(.agg [(Vi 0), (Vi 0), (Vi 10), (Vi 10)]), (.lit (.bool true))])
theorem m175 : pv PP T 7300 75 A175 = some R175 := pv_fast M175 M175_ok (by kernel_rfl)
def M176 : Memo := (7300, 75, A175, R175) :: M175
theorem M176_ok : MemoOK PP T M176 := ⟨m175, M175_ok⟩
abbrev A176 : List AV := [(.agg [(.sl false [[(Vi 1), (Vi 0), (Vi 0)]]), (.sl false [[(Vi 1), (Vi 1), (Vi 1), (.sl false [[(Vi 10), (Vi 0)], [(Vi 10), (Vi 10)], [(Vi 0), (Vi 10)]]), (Vi 7), (Vi 0)], [(Vi 2), (Vi 1), (Vi 1), (.sl false [[(Vi 1), (Vi 4)], [(Vi 5), (Vi 5)], [(Vi 4), (Vi 1)]]), (Vi 7), (Vi 1)]]), (.sl false [[(Vi 1)], [(Vi 7)]]), (.sl false [[(Vi 5), (Vi 5), (Vi 1), (.lit (.string ⟨#[85, 114]⟩)), (.sl false [[(Vi 1)], [(Vi 7)]])]])]), (.agg [(.sl false [[(Vi 1), (Vi 0), (Vi 0)]]), (.sl false [[(Vi 1), (Vi 1), (Vi 1), (.sl false [[(Vi 10), (Vi 0)], [(Vi 10), (Vi 10)], [(Vi 0), (Vi 10)]]), (Vi 1), (Vi 0)]]), (.sl false [[(Vi 1)]]), (.sl false [[(Vi 5), (Vi 5), (Vi 1), (.lit (.string ⟨#[85, 114]⟩)), (.sl false [[(Vi 1)]])]])])]
abbrev R176 : AV := (.sl false [[(Vi 0), (Vi 0)], [(Vi 10), (Vi 0)], [(Vi 10), (Vi 10)], [(Vi 0), (Vi 10)], [(Vi 0), (Vi 0)], [(Vi 0), (Vi 0)], [(Vi 1), (Vi 4)], [(Vi 5), (Vi 5)], [(Vi 4), (Vi 1)], [(Vi 0), (Vi 0)], [(Vi 0), (Vi 0)], [(Vi 10), (Vi 10)]])
theorem m176 : pv PP T 7340 39 A176 = some R176 := pv_fast M176 M176_ok (by kernel_rfl)
def M177 : Memo := (7340, 39, A176, R176) :: M176
theorem M177_ok : MemoOK PP T M177 := ⟨m176, M176_ok⟩
abbrev A177 : List AV := [(.agg [(.sl false [[(Vi 1), (Vi 0), (Vi 0)]]), (.sl false [[(Vi 1), (Vi 1), (Vi 1), (.sl false [[(Vi 10), (Vi 0)], [(Vi 10), (Vi 10)], [(Vi 0), (Vi 10)]]), (Vi 1), (Vi 0)]]), (.sl false [[(Vi 1)]]), (.sl false [[(Vi 5), (Vi 5), (Vi 1), (.lit (.string ⟨#[85, 114]⟩)), (.sl false [[(Vi 1)]])]])]), (.agg [(Vi 4), (Vi 2), (Vi 1), (Vi 1), (Vi 7), (Vi 0), (Vi 0), (.sl false [[(Vi 1), (Vi 4)], [(Vi 5), (Vi 5)], [(Vi 4), (Vi 1)]]), (.lit (.string ⟨#[]⟩)), (.sl false [])])]
abbrev R177 : AV := (.tup [(.agg [(Vi 0), (Vi 0), (Vi 10), (Vi 10)]), (Vi 0)])
theorem m177 : pv PP T 7380 18 A177 = some R177 := pv_fast M177 M177_ok (by kernel_rfl)
def M178 : Memo := (7380, 18, A177, R177) :: M177
theorem M178_ok : MemoOK PP T M178 := ⟨m177, M177_ok⟩
theorem awake_pv3 : pv PP T 10000 3 [] = some (.lit (.bool true)) := pv_fast M178 M178_ok (by kernel_rfl)
end Go.Proofs.YtmflphfmefakfaaGreatDoor.Av
