/- A part of the proof of EditChecksCardSaid. -/
import Derived.Test.YtmflphfmefakfaaGreatDoorVeM3
set_option linter.all false
namespace Go.Proofs.YtmflphfmefakfaaGreatDoor.Av
open Go
abbrev A60 : List AV := [(.agg [(.sl false []), (.sl false []), (.sl false []), (.sl false [])]), (.sl false [[(Vi 1), (Vi 1), (Vi 0), (Vi 0), (Vi 0), (Vi 0), (Vi 0), (.sl false []), (.lit (.string ⟨#[]⟩)), (.sl false [])], [(Vi 4), (Vi 1), (Vi 1), (Vi 1), (Vi (-1)), (Vi 0), (Vi 0), (.sl false [[(Vi 10), (Vi 0)], [(Vi 10), (Vi 10)], [(Vi 0), (Vi 10)]]), (.lit (.string ⟨#[]⟩)), (.sl false [])]])]
abbrev R60 : AV := (.tup [(.agg [(.sl false []), (.sl false []), (.sl false []), (.sl false [])]), (Vi 1), (Vi 12)])
theorem m60 : pv PP T 2700 15 A60 = some R60 := pv_fast M60 M60_ok (by kernel_rfl)
def M61 : Memo := (2700, 15, A60, R60) :: M60
theorem M61_ok : MemoOK PP T M61 := ⟨m60, M60_ok⟩
abbrev A61 : List AV := [(.agg [(Vi 7), (Vi 5), (Vi 5), (Vi 1), (Vi 0), (Vi 0), (Vi 0), (.sl false []), (.lit (.string ⟨#[85, 114]⟩)), (.sl false [[(Vi 1)]])])]
abbrev R61 : AV := (.lit (.bool true))
theorem m61 : pv PP T 2740 6 A61 = some R61 := pv_fast M61 M61_ok (by kernel_rfl)
def M62 : Memo := (2740, 6, A61, R61) :: M61
theorem M62_ok : MemoOK PP T M62 := ⟨m61, M61_ok⟩
abbrev A62 : List AV := [(.lit (.string ⟨#[85, 114]⟩))]
abbrev R62 : AV := (.tup [(.sl false [[(Vi 85)], [(Vi 114)]]), (Vi 0)])
theorem m62 : pv PP T 2780 45 A62 = some R62 := pv_fast M62 M62_ok (by kernel_rfl)
def M63 : Memo := (2780, 45, A62, R62) :: M62
theorem M63_ok : MemoOK PP T M63 := ⟨m62, M62_ok⟩
abbrev A63 : List AV := [(.lit (.string ⟨#[85, 114]⟩))]
abbrev R63 : AV := (.tup [(.sl false [[(Vi 85)], [(Vi 114)]]), (Vi 0)])
theorem m63 : pv PP T 2820 26 A63 = some R63 := pv_fast M63 M63_ok (by kernel_rfl)
def M64 : Memo := (2820, 26, A63, R63) :: M63
theorem M64_ok : MemoOK PP T M64 := ⟨m63, M63_ok⟩
abbrev A64 : List AV := [(.agg [(Vi 7), (Vi 5), (Vi 5), (Vi 1), (Vi 0), (Vi 0), (Vi 0), (.sl false []), (.lit (.string ⟨#[85, 114]⟩)), (.sl false [[(Vi 1)]])])]
abbrev R64 : AV := (Vi 0)
theorem m64 : pv PP T 2860 1 A64 = some R64 := pv_fast M64 M64_ok (by kernel_rfl)
def M65 : Memo := (2860, 1, A64, R64) :: M64
theorem M65_ok : MemoOK PP T M65 := ⟨m64, M64_ok⟩
abbrev A65 : List AV := [(.agg [(.sl false [[(Vi 1), (Vi 0), (Vi 0)]]), (.sl false [[(Vi 1), (Vi 1), (Vi 1), (.sl false [[(Vi 10), (Vi 0)], [(Vi 10), (Vi 10)], [(Vi 0), (Vi 10)]]), (Vi 1), (Vi 0)]]), (.sl false [[(Vi 1)]]), (.sl false [[(Vi 5), (Vi 5), (Vi 1), (.lit (.string ⟨#[85, 114]⟩)), (.sl false [[(Vi 1)]])]])])]
abbrev R65 : AV := (Vi 0)
theorem m65 : pv PP T 2900 33 A65 = some R65 := pv_fast M65 M65_ok (by kernel_rfl)
def M66 : Memo := (2900, 33, A65, R65) :: M65
theorem M66_ok : MemoOK PP T M66 := ⟨m65, M65_ok⟩
abbrev A66 : List AV := [(.agg [(.sl false [[(Vi 1), (Vi 0), (Vi 0)]]), (.sl false [[(Vi 1), (Vi 1), (Vi 1), (.sl false [[(Vi 10), (Vi 0)], [(Vi 10), (Vi 10)], [(Vi 0), (Vi 10)]]), (Vi 1), (Vi 0)]]), (.sl false [[(Vi 1)]]), (.sl false [])]), (.agg [(Vi 7), (Vi 5), (Vi 5), (Vi 1), (Vi 0), (Vi 0), (Vi 0), (.sl false []), (.lit (.string ⟨#[85, 114]⟩)), (.sl false [[(Vi 1)]])])]
abbrev R66 : AV := (.tup [(.agg [(.sl false [[(Vi 1), (Vi 0), (Vi 0)]]), (.sl false [[(Vi 1), (Vi 1), (Vi 1), (.sl false [[(Vi 10), (Vi 0)], [(Vi 10), (Vi 10)], [(Vi 0), (Vi 10)]]), (Vi 1), (Vi 0)]]), (.sl false [[(Vi 1)]]), (.sl false [[(Vi 5), (Vi 5), (Vi 1), (.lit (.string ⟨#[85, 114]⟩)), (.sl false [[(Vi 1)]])]])]), (Vi 0)])
theorem m66 : pv PP T 2940 16 A66 = some R66 := pv_fast M66 M66_ok (by kernel_rfl)
def M67 : Memo := (2940, 16, A66, R66) :: M66
theorem M67_ok : MemoOK PP T M67 := ⟨m66, M66_ok⟩
abbrev A67 : List AV := [(.agg [(Vi 5), (Vi 1), (Vi 0), (Vi 0), (Vi 0), (Vi 0), (Vi 0), (.sl false []), (.lit (.string ⟨#[]⟩)), (.sl false [])])]
abbrev R67 : AV := (.lit (.bool true))
theorem m67 : pv PP T 2980 6 A67 = some R67 := pv_fast M67 M67_ok (by kernel_rfl)
def M68 : Memo := (2980, 6, A67, R67) :: M67
theorem M68_ok : MemoOK PP T M68 := ⟨m67, M67_ok⟩
abbrev A68 : List AV := [(.agg [(Vi 5), (Vi 1), (Vi 0), (Vi 0), (Vi 0), (Vi 0), (Vi 0), (.sl false []), (.lit (.string ⟨#[]⟩)), (.sl false [])])]
abbrev R68 : AV := (Vi 0)
theorem m68 : pv PP T 3020 1 A68 = some R68 := pv_fast M68 M68_ok (by kernel_rfl)
def M69 : Memo := (3020, 1, A68, R68) :: M68
theorem M69_ok : MemoOK PP T M69 := ⟨m68, M68_ok⟩
abbrev A69 : List AV := [(.agg [(.sl false [[(Vi 1), (Vi 0), (Vi 0)]]), (.sl false [[(Vi 1), (Vi 1), (Vi 1), (.sl false [[(Vi 10), (Vi 0)], [(Vi 10), (Vi 10)], [(Vi 0), (Vi 10)]]), (Vi 1), (Vi 0)]]), (.sl false [[(Vi 1)]]), (.sl false [[(Vi 5), (Vi 5), (Vi 1), (.lit (.string ⟨#[85, 114]⟩)), (.sl false [[(Vi 1)]])]])]), (Vi 1)]
abbrev R69 : AV := (.tup [(Vi 0), (.lit (.bool true))])
theorem m69 : pv PP T 3060 86 A69 = some R69 := pv_fast M69 M69_ok (by kernel_rfl)
def M70 : Memo := (3060, 86, A69, R69) :: M69
theorem M70_ok : MemoOK PP T M70 := ⟨m69, M69_ok⟩
abbrev A70 : List AV := [(.agg [(.sl false [[(Vi 1), (Vi 0), (Vi 0)]]), (.sl false [[(Vi 1), (Vi 1), (Vi 1), (.sl false [[(Vi 10), (Vi 0)], [(Vi 10), (Vi 10)], [(Vi 0), (Vi 10)]]), (Vi 1), (Vi 0)]]), (.sl false [[(Vi 1)]]), (.sl false [[(Vi 5), (Vi 5), (Vi 1), (.lit (.string ⟨#[85, 114]⟩)), (.sl false [[(Vi 1)]])]])]), (.agg [(Vi 5), (Vi 1), (Vi 0), (Vi 0), (Vi 0), (Vi 0), (Vi 0), (.sl false []), (.lit (.string ⟨#[]⟩)), (.sl false [])])]
abbrev R70 : AV := (.tup [(.agg [(.sl false []), (.sl false []), (.sl false []), (.sl false [])]), (Vi 13)])
theorem m70 : pv PP T 3100 16 A70 = some R70 := pv_fast M70 M70_ok (by kernel_rfl)
def M71 : Memo := (3100, 16, A70, R70) :: M70
theorem M71_ok : MemoOK PP T M71 := ⟨m70, M70_ok⟩
abbrev A71 : List AV := [(.agg [(Vi 12), (Vi 1), (Vi 1), (Vi 0), (Vi 0), (Vi 0), (Vi 0), (.sl false []), (.lit (.string ⟨#[]⟩)), (.sl false [])])]
abbrev R71 : AV := (.lit (.bool true))
theorem m71 : pv PP T 3140 6 A71 = some R71 := pv_fast M71 M71_ok (by kernel_rfl)
def M72 : Memo := (3140, 6, A71, R71) :: M71
theorem M72_ok : MemoOK PP T M72 := ⟨m71, M71_ok⟩
abbrev A72 : List AV := [(.agg [(Vi 12), (Vi 1), (Vi 1), (Vi 0), (Vi 0), (Vi 0), (Vi 0), (.sl false []), (.lit (.string ⟨#[]⟩)), (.sl false [])])]
abbrev R72 : AV := (Vi 0)
theorem m72 : pv PP T 3180 1 A72 = some R72 := pv_fast M72 M72_ok (by kernel_rfl)
def M73 : Memo := (3180, 1, A72, R72) :: M72
theorem M73_ok : MemoOK PP T M73 := ⟨m72, M72_ok⟩
abbrev A73 : List AV := [(.agg [(.sl false [[(Vi 1), (Vi 0), (Vi 0)]]), (.sl false [[(Vi 1), (Vi 1), (Vi 1), (.sl false [[(Vi 10), (Vi 0)], [(Vi 10), (Vi 10)], [(Vi 0), (Vi 10)]]), (Vi 1), (Vi 0)]]), (.sl false [[(Vi 1)]]), (.sl false [[(Vi 5), (Vi 5), (Vi 1), (.lit (.string ⟨#[85, 114]⟩)), (.sl false [[(Vi 1)]])]])]), (.agg [(Vi 12), (Vi 1), (Vi 1), (Vi 0), (Vi 0), (Vi 0), (Vi 0), (.sl false []), (.lit (.string ⟨#[]⟩)), (.sl false [])])]
abbrev R73 : AV := (.tup [(.agg [(.sl false []), (.sl false []), (.sl false []), (.sl false [])]), (Vi 8)])
theorem m73 : pv PP T 3220 16 A73 = some R73 := pv_fast M73 M73_ok (by kernel_rfl)
def M74 : Memo := (3220, 16, A73, R73) :: M73
theorem M74_ok : MemoOK PP T M74 := ⟨m73, M73_ok⟩
abbrev A74 : List AV := [(.agg [(Vi 4), (Vi 2), (Vi 1), (Vi 1), (Vi 7), (Vi 0), (Vi 0), (.sl false [[(Vi 1), (Vi 4)], [(Vi 5), (Vi 5)], [(Vi 4), (Vi 1)]]), (.lit (.string ⟨#[]⟩)), (.sl false [])])]
abbrev R74 : AV := (.lit (.bool true))
theorem m74 : pv PP T 3260 6 A74 = some R74 := pv_fast M74 M74_ok (by kernel_rfl)
def M75 : Memo := (3260, 6, A74, R74) :: M74
theorem M75_ok : MemoOK PP T M75 := ⟨m74, M74_ok⟩
abbrev A75 : List AV := [(.agg [(.sl false [[(Vi 1), (Vi 0), (Vi 0)]]), (.sl false [[(Vi 1), (Vi 1), (Vi 1), (.sl false [[(Vi 10), (Vi 0)], [(Vi 10), (Vi 10)], [(Vi 0), (Vi 10)]]), (Vi 1), (Vi 0)]]), (.sl false [[(Vi 1)]]), (.sl false [[(Vi 5), (Vi 5), (Vi 1), (.lit (.string ⟨#[85, 114]⟩)), (.sl false [[(Vi 1)]])]])]), (Vi 1)]
abbrev R75 : AV := (.tup [(Vi 0), (.lit (.bool true))])
theorem m75 : pv PP T 3300 83 A75 = some R75 := pv_fast M75 M75_ok (by kernel_rfl)
def M76 : Memo := (3300, 83, A75, R75) :: M75
theorem M76_ok : MemoOK PP T M76 := ⟨m75, M75_ok⟩
abbrev A76 : List AV := [(.agg [(.sl false [[(Vi 1), (Vi 0), (Vi 0)]]), (.sl false [[(Vi 1), (Vi 1), (Vi 1), (.sl false [[(Vi 10), (Vi 0)], [(Vi 10), (Vi 10)], [(Vi 0), (Vi 10)]]), (Vi 1), (Vi 0)], [(Vi 2), (Vi 1), (Vi 1), (.sl false [[(Vi 1), (Vi 4)], [(Vi 5), (Vi 5)], [(Vi 4), (Vi 1)]]), (Vi 0), (Vi 0)]]), (.sl false [[(Vi 1)]])])]
abbrev R76 : AV := (.lit (.bool true))
theorem m76 : pv PP T 3340 129 A76 = some R76 := pv_fast M76 M76_ok (by kernel_rfl)
def M77 : Memo := (3340, 129, A76, R76) :: M76
theorem M77_ok : MemoOK PP T M77 := ⟨m76, M76_ok⟩
abbrev A77 : List AV := [(.agg [(.sl false [[(Vi 1), (Vi 0), (Vi 0)]]), (.sl false [[(Vi 1), (Vi 1), (Vi 1), (.sl false [[(Vi 10), (Vi 0)], [(Vi 10), (Vi 10)], [(Vi 0), (Vi 10)]]), (Vi 1), (Vi 0)], [(Vi 2), (Vi 1), (Vi 1), (.sl false [[(Vi 1), (Vi 4)], [(Vi 5), (Vi 5)], [(Vi 4), (Vi 1)]]), (Vi 0), (Vi 0)]]), (.sl false [[(Vi 1)]])]), (.sl false [[(Vi 1)]])]
abbrev R77 : AV := (Vi 0)
theorem m77 : pv PP T 3380 130 A77 = some R77 := pv_fast M77 M77_ok (by kernel_rfl)
def M78 : Memo := (3380, 130, A77, R77) :: M77
theorem M78_ok : MemoOK PP T M78 := ⟨m77, M77_ok⟩
abbrev A78 : List AV := [(.agg [(.sl false [[(Vi 1), (Vi 0), (Vi 0)]]), (.sl false [[(Vi 1), (Vi 1), (Vi 1), (.sl false [[(Vi 10), (Vi 0)], [(Vi 10), (Vi 10)], [(Vi 0), (Vi 10)]]), (Vi 1), (Vi 0)], [(Vi 2), (Vi 1), (Vi 1), (.sl false [[(Vi 1), (Vi 4)], [(Vi 5), (Vi 5)], [(Vi 4), (Vi 1)]]), (Vi 0), (Vi 0)]]), (.sl false [[(Vi 1)]])]), (Vi 1)]
abbrev R78 : AV := (.tup [(.sl false [[(Vi 0), (Vi 0)], [(Vi 10), (Vi 0)], [(Vi 10), (Vi 10)], [(Vi 0), (Vi 10)], [(Vi 0), (Vi 0)]]), (Vi 0)])
theorem m78 : pv PP T 3420 91 A78 = some R78 := pv_fast M78 M78_ok (by kernel_rfl)
def M79 : Memo := (3420, 91, A78, R78) :: M78
theorem M79_ok : MemoOK PP T M79 := ⟨m78, M78_ok⟩
end Go.Proofs.YtmflphfmefakfaaGreatDoor.Av
