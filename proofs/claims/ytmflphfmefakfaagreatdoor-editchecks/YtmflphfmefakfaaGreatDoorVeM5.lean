/- A part of the proof of EditChecksCardSaid. -/
import Derived.Test.YtmflphfmefakfaaGreatDoorVeM4
set_option linter.all false
namespace Go.Proofs.YtmflphfmefakfaaGreatDoor.Av
open Go
abbrev A79 : List AV := [(.agg [(.sl false [[(Vi 1), (Vi 0), (Vi 0)]]), (.sl false [[(Vi 1), (Vi 1), (Vi 1), (.sl false [[(Vi 10), (Vi 0)], [(Vi 10), (Vi 10)], [(Vi 0), (Vi 10)]]), (Vi 1), (Vi 0)], [(Vi 2), (Vi 1), (Vi 1), (.sl false [[(Vi 1), (Vi 4)], [(Vi 5), (Vi 5)], [(Vi 4), (Vi 1)]]), (Vi 0), (Vi 0)]]), (.sl false [[(Vi 1)]])]), (Vi 2)]
abbrev R79 : AV := (.tup [(.sl false [[(Vi 0), (Vi 0)], [(Vi 1), (Vi 4)], [(Vi 5), (Vi 5)], [(Vi 4), (Vi 1)], [(Vi 0), (Vi 0)]]), (Vi 0)])
theorem m79 : pv PP T 3460 91 A79 = some R79 := pv_fast M79 M79_ok (by kernel_rfl)
def M80 : Memo := (3460, 91, A79, R79) :: M79
theorem M80_ok : MemoOK PP T M80 := ⟨m79, M79_ok⟩
abbrev A80 : List AV := [(.agg [(Vi 0), (Vi 0)]), (.agg [(Vi 10), (Vi 0)]), (.agg [(Vi 1), (Vi 4)])]
abbrev R80 : AV := (Vi 40)
theorem m80 : pv PP T 3500 186 A80 = some R80 := pv_fast M80 M80_ok (by kernel_rfl)
def M81 : Memo := (3500, 186, A80, R80) :: M80
theorem M81_ok : MemoOK PP T M81 := ⟨m80, M80_ok⟩
abbrev A81 : List AV := [(.agg [(Vi 0), (Vi 0)]), (.agg [(Vi 1), (Vi 4)]), (.agg [(Vi 0), (Vi 0)])]
abbrev R81 : AV := (Vi 0)
theorem m81 : pv PP T 3540 186 A81 = some R81 := pv_fast M81 M81_ok (by kernel_rfl)
def M82 : Memo := (3540, 186, A81, R81) :: M81
theorem M82_ok : MemoOK PP T M82 := ⟨m81, M81_ok⟩
abbrev A82 : List AV := [(.agg [(Vi 0), (Vi 0)]), (.agg [(Vi 1), (Vi 4)]), (.agg [(Vi 10), (Vi 0)])]
abbrev R82 : AV := (Vi (-40))
theorem m82 : pv PP T 3580 186 A82 = some R82 := pv_fast M82 M82_ok (by kernel_rfl)
def M83 : Memo := (3580, 186, A82, R82) :: M82
theorem M83_ok : MemoOK PP T M83 := ⟨m82, M82_ok⟩
abbrev A83 : List AV := [(.agg [(Vi 0), (Vi 0)]), (.agg [(Vi 10), (Vi 0)]), (.agg [(Vi 0), (Vi 0)]), (.agg [(Vi 1), (Vi 4)])]
abbrev R83 : AV := (Vi 1)
theorem m83 : pv PP T 3620 172 A83 = some R83 := pv_fast M83 M83_ok (by kernel_rfl)
def M84 : Memo := (3620, 172, A83, R83) :: M83
theorem M84_ok : MemoOK PP T M84 := ⟨m83, M83_ok⟩
abbrev A84 : List AV := [(.agg [(Vi 0), (Vi 0)]), (.agg [(Vi 1), (Vi 4)]), (.agg [(Vi 0), (Vi 0)])]
abbrev R84 : AV := (.lit (.bool true))
theorem m84 : pv PP T 3660 156 A84 = some R84 := pv_fast M84 M84_ok (by kernel_rfl)
def M85 : Memo := (3660, 156, A84, R84) :: M84
theorem M85_ok : MemoOK PP T M85 := ⟨m84, M84_ok⟩
abbrev A85 : List AV := [(.agg [(Vi 0), (Vi 0)]), (.agg [(Vi 10), (Vi 0)]), (.agg [(Vi 4), (Vi 1)])]
abbrev R85 : AV := (Vi 10)
theorem m85 : pv PP T 3700 186 A85 = some R85 := pv_fast M85 M85_ok (by kernel_rfl)
def M86 : Memo := (3700, 186, A85, R85) :: M85
theorem M86_ok : MemoOK PP T M86 := ⟨m85, M85_ok⟩
abbrev A86 : List AV := [(.agg [(Vi 4), (Vi 1)]), (.agg [(Vi 0), (Vi 0)]), (.agg [(Vi 0), (Vi 0)])]
abbrev R86 : AV := (Vi 0)
theorem m86 : pv PP T 3740 186 A86 = some R86 := pv_fast M86 M86_ok (by kernel_rfl)
def M87 : Memo := (3740, 186, A86, R86) :: M86
theorem M87_ok : MemoOK PP T M87 := ⟨m86, M86_ok⟩
abbrev A87 : List AV := [(.agg [(Vi 4), (Vi 1)]), (.agg [(Vi 0), (Vi 0)]), (.agg [(Vi 10), (Vi 0)])]
abbrev R87 : AV := (Vi 10)
theorem m87 : pv PP T 3780 186 A87 = some R87 := pv_fast M87 M87_ok (by kernel_rfl)
def M88 : Memo := (3780, 186, A87, R87) :: M87
theorem M88_ok : MemoOK PP T M88 := ⟨m87, M87_ok⟩
abbrev A88 : List AV := [(.agg [(Vi 0), (Vi 0)]), (.agg [(Vi 10), (Vi 0)]), (.agg [(Vi 4), (Vi 1)]), (.agg [(Vi 0), (Vi 0)])]
abbrev R88 : AV := (Vi 1)
theorem m88 : pv PP T 3820 172 A88 = some R88 := pv_fast M88 M88_ok (by kernel_rfl)
def M89 : Memo := (3820, 172, A88, R88) :: M88
theorem M89_ok : MemoOK PP T M89 := ⟨m88, M88_ok⟩
abbrev A89 : List AV := [(.agg [(Vi 4), (Vi 1)]), (.agg [(Vi 0), (Vi 0)]), (.agg [(Vi 0), (Vi 0)])]
abbrev R89 : AV := (.lit (.bool true))
theorem m89 : pv PP T 3860 156 A89 = some R89 := pv_fast M89 M89_ok (by kernel_rfl)
def M90 : Memo := (3860, 156, A89, R89) :: M89
theorem M90_ok : MemoOK PP T M90 := ⟨m89, M89_ok⟩
abbrev A90 : List AV := [(.agg [(Vi 0), (Vi 0)]), (.agg [(Vi 10), (Vi 0)]), (.agg [(Vi 5), (Vi 5)])]
abbrev R90 : AV := (Vi 50)
theorem m90 : pv PP T 3900 186 A90 = some R90 := pv_fast M90 M90_ok (by kernel_rfl)
def M91 : Memo := (3900, 186, A90, R90) :: M90
theorem M91_ok : MemoOK PP T M91 := ⟨m90, M90_ok⟩
abbrev A91 : List AV := [(.agg [(Vi 0), (Vi 0)]), (.agg [(Vi 10), (Vi 0)]), (.agg [(Vi 1), (Vi 4)]), (.agg [(Vi 5), (Vi 5)])]
abbrev R91 : AV := (Vi 0)
theorem m91 : pv PP T 3940 172 A91 = some R91 := pv_fast M91 M91_ok (by kernel_rfl)
def M92 : Memo := (3940, 172, A91, R91) :: M91
theorem M92_ok : MemoOK PP T M92 := ⟨m91, M91_ok⟩
abbrev A92 : List AV := [(.agg [(Vi 0), (Vi 0)]), (.agg [(Vi 10), (Vi 0)]), (.agg [(Vi 5), (Vi 5)]), (.agg [(Vi 4), (Vi 1)])]
abbrev R92 : AV := (Vi 0)
theorem m92 : pv PP T 3980 172 A92 = some R92 := pv_fast M92 M92_ok (by kernel_rfl)
def M93 : Memo := (3980, 172, A92, R92) :: M92
theorem M93_ok : MemoOK PP T M93 := ⟨m92, M92_ok⟩
abbrev A93 : List AV := [(.agg [(Vi 10), (Vi 10)]), (.agg [(Vi 0), (Vi 10)]), (.agg [(Vi 1), (Vi 4)])]
abbrev R93 : AV := (Vi 60)
theorem m93 : pv PP T 4020 186 A93 = some R93 := pv_fast M93 M93_ok (by kernel_rfl)
def M94 : Memo := (4020, 186, A93, R93) :: M93
theorem M94_ok : MemoOK PP T M94 := ⟨m93, M93_ok⟩
abbrev A94 : List AV := [(.agg [(Vi 10), (Vi 10)]), (.agg [(Vi 0), (Vi 10)]), (.agg [(Vi 0), (Vi 0)]), (.agg [(Vi 1), (Vi 4)])]
abbrev R94 : AV := (Vi 0)
theorem m94 : pv PP T 4060 172 A94 = some R94 := pv_fast M94 M94_ok (by kernel_rfl)
def M95 : Memo := (4060, 172, A94, R94) :: M94
theorem M95_ok : MemoOK PP T M95 := ⟨m94, M94_ok⟩
abbrev A95 : List AV := [(.agg [(Vi 10), (Vi 10)]), (.agg [(Vi 0), (Vi 10)]), (.agg [(Vi 4), (Vi 1)])]
abbrev R95 : AV := (Vi 90)
theorem m95 : pv PP T 4100 186 A95 = some R95 := pv_fast M95 M95_ok (by kernel_rfl)
def M96 : Memo := (4100, 186, A95, R95) :: M95
theorem M96_ok : MemoOK PP T M96 := ⟨m95, M95_ok⟩
abbrev A96 : List AV := [(.agg [(Vi 10), (Vi 10)]), (.agg [(Vi 0), (Vi 10)]), (.agg [(Vi 4), (Vi 1)]), (.agg [(Vi 0), (Vi 0)])]
abbrev R96 : AV := (Vi 0)
theorem m96 : pv PP T 4140 172 A96 = some R96 := pv_fast M96 M96_ok (by kernel_rfl)
def M97 : Memo := (4140, 172, A96, R96) :: M96
theorem M97_ok : MemoOK PP T M97 := ⟨m96, M96_ok⟩
abbrev A97 : List AV := [(.agg [(Vi 10), (Vi 10)]), (.agg [(Vi 0), (Vi 10)]), (.agg [(Vi 5), (Vi 5)])]
abbrev R97 : AV := (Vi 50)
theorem m97 : pv PP T 4180 186 A97 = some R97 := pv_fast M97 M97_ok (by kernel_rfl)
def M98 : Memo := (4180, 186, A97, R97) :: M97
theorem M98_ok : MemoOK PP T M98 := ⟨m97, M97_ok⟩
abbrev A98 : List AV := [(.agg [(Vi 10), (Vi 10)]), (.agg [(Vi 0), (Vi 10)]), (.agg [(Vi 1), (Vi 4)]), (.agg [(Vi 5), (Vi 5)])]
abbrev R98 : AV := (Vi 0)
theorem m98 : pv PP T 4220 172 A98 = some R98 := pv_fast M98 M98_ok (by kernel_rfl)
def M99 : Memo := (4220, 172, A98, R98) :: M98
theorem M99_ok : MemoOK PP T M99 := ⟨m98, M98_ok⟩
abbrev A99 : List AV := [(.agg [(Vi 10), (Vi 10)]), (.agg [(Vi 0), (Vi 10)]), (.agg [(Vi 5), (Vi 5)]), (.agg [(Vi 4), (Vi 1)])]
abbrev R99 : AV := (Vi 0)
theorem m99 : pv PP T 4260 172 A99 = some R99 := pv_fast M99 M99_ok (by kernel_rfl)
def M100 : Memo := (4260, 172, A99, R99) :: M99
theorem M100_ok : MemoOK PP T M100 := ⟨m99, M99_ok⟩
abbrev A100 : List AV := [(.agg [(Vi 0), (Vi 10)]), (.agg [(Vi 0), (Vi 0)]), (.agg [(Vi 1), (Vi 4)])]
abbrev R100 : AV := (Vi 10)
theorem m100 : pv PP T 4300 186 A100 = some R100 := pv_fast M100 M100_ok (by kernel_rfl)
def M101 : Memo := (4300, 186, A100, R100) :: M100
theorem M101_ok : MemoOK PP T M101 := ⟨m100, M100_ok⟩
abbrev A101 : List AV := [(.agg [(Vi 0), (Vi 0)]), (.agg [(Vi 1), (Vi 4)]), (.agg [(Vi 0), (Vi 10)])]
abbrev R101 : AV := (Vi 10)
theorem m101 : pv PP T 4340 186 A101 = some R101 := pv_fast M101 M101_ok (by kernel_rfl)
def M102 : Memo := (4340, 186, A101, R101) :: M101
theorem M102_ok : MemoOK PP T M102 := ⟨m101, M101_ok⟩
abbrev A102 : List AV := [(.agg [(Vi 0), (Vi 10)]), (.agg [(Vi 0), (Vi 0)]), (.agg [(Vi 0), (Vi 0)]), (.agg [(Vi 1), (Vi 4)])]
abbrev R102 : AV := (Vi 1)
theorem m102 : pv PP T 4380 172 A102 = some R102 := pv_fast M102 M102_ok (by kernel_rfl)
def M103 : Memo := (4380, 172, A102, R102) :: M102
theorem M103_ok : MemoOK PP T M103 := ⟨m102, M102_ok⟩
abbrev A103 : List AV := [(.agg [(Vi 0), (Vi 10)]), (.agg [(Vi 0), (Vi 0)]), (.agg [(Vi 4), (Vi 1)])]
abbrev R103 : AV := (Vi 40)
theorem m103 : pv PP T 4420 186 A103 = some R103 := pv_fast M103 M103_ok (by kernel_rfl)
def M104 : Memo := (4420, 186, A103, R103) :: M103
theorem M104_ok : MemoOK PP T M104 := ⟨m103, M103_ok⟩
abbrev A104 : List AV := [(.agg [(Vi 4), (Vi 1)]), (.agg [(Vi 0), (Vi 0)]), (.agg [(Vi 0), (Vi 10)])]
abbrev R104 : AV := (Vi (-40))
theorem m104 : pv PP T 4460 186 A104 = some R104 := pv_fast M104 M104_ok (by kernel_rfl)
def M105 : Memo := (4460, 186, A104, R104) :: M104
theorem M105_ok : MemoOK PP T M105 := ⟨m104, M104_ok⟩
abbrev A105 : List AV := [(.agg [(Vi 0), (Vi 10)]), (.agg [(Vi 0), (Vi 0)]), (.agg [(Vi 4), (Vi 1)]), (.agg [(Vi 0), (Vi 0)])]
abbrev R105 : AV := (Vi 1)
theorem m105 : pv PP T 4500 172 A105 = some R105 := pv_fast M105 M105_ok (by kernel_rfl)
def M106 : Memo := (4500, 172, A105, R105) :: M105
theorem M106_ok : MemoOK PP T M106 := ⟨m105, M105_ok⟩
abbrev A106 : List AV := [(.agg [(Vi 0), (Vi 0)]), (.agg [(Vi 1), (Vi 4)]), (.agg [(Vi 4), (Vi 1)])]
abbrev R106 : AV := (Vi (-15))
theorem m106 : pv PP T 4540 186 A106 = some R106 := pv_fast M106 M106_ok (by kernel_rfl)
def M107 : Memo := (4540, 186, A106, R106) :: M106
theorem M107_ok : MemoOK PP T M107 := ⟨m106, M106_ok⟩
abbrev A107 : List AV := [(.agg [(Vi 4), (Vi 1)]), (.agg [(Vi 0), (Vi 0)]), (.agg [(Vi 1), (Vi 4)])]
abbrev R107 : AV := (Vi (-15))
theorem m107 : pv PP T 4580 186 A107 = some R107 := pv_fast M107 M107_ok (by kernel_rfl)
def M108 : Memo := (4580, 186, A107, R107) :: M107
theorem M108_ok : MemoOK PP T M108 := ⟨m107, M107_ok⟩
abbrev A108 : List AV := [(.agg [(Vi 0), (Vi 0)]), (.agg [(Vi 1), (Vi 4)]), (.agg [(Vi 4), (Vi 1)]), (.agg [(Vi 0), (Vi 0)])]
abbrev R108 : AV := (Vi 1)
theorem m108 : pv PP T 4620 172 A108 = some R108 := pv_fast M108 M108_ok (by kernel_rfl)
def M109 : Memo := (4620, 172, A108, R108) :: M108
theorem M109_ok : MemoOK PP T M109 := ⟨m108, M108_ok⟩
abbrev A109 : List AV := [(.agg [(Vi 0), (Vi 0)]), (.agg [(Vi 1), (Vi 4)]), (.agg [(Vi 1), (Vi 4)])]
abbrev R109 : AV := (Vi 0)
theorem m109 : pv PP T 4660 186 A109 = some R109 := pv_fast M109 M109_ok (by kernel_rfl)
def M110 : Memo := (4660, 186, A109, R109) :: M109
theorem M110_ok : MemoOK PP T M110 := ⟨m109, M109_ok⟩
abbrev A110 : List AV := [(.agg [(Vi 0), (Vi 0)]), (.agg [(Vi 1), (Vi 4)]), (.agg [(Vi 5), (Vi 5)])]
abbrev R110 : AV := (Vi (-15))
theorem m110 : pv PP T 4700 186 A110 = some R110 := pv_fast M110 M110_ok (by kernel_rfl)
def M111 : Memo := (4700, 186, A110, R110) :: M110
theorem M111_ok : MemoOK PP T M111 := ⟨m110, M110_ok⟩
abbrev A111 : List AV := [(.agg [(Vi 1), (Vi 4)]), (.agg [(Vi 5), (Vi 5)]), (.agg [(Vi 0), (Vi 0)])]
abbrev R111 : AV := (Vi (-15))
theorem m111 : pv PP T 4740 186 A111 = some R111 := pv_fast M111 M111_ok (by kernel_rfl)
def M112 : Memo := (4740, 186, A111, R111) :: M111
theorem M112_ok : MemoOK PP T M112 := ⟨m111, M111_ok⟩
abbrev A112 : List AV := [(.agg [(Vi 1), (Vi 4)]), (.agg [(Vi 5), (Vi 5)]), (.agg [(Vi 1), (Vi 4)])]
abbrev R112 : AV := (Vi 0)
theorem m112 : pv PP T 4780 186 A112 = some R112 := pv_fast M112 M112_ok (by kernel_rfl)
def M113 : Memo := (4780, 186, A112, R112) :: M112
theorem M113_ok : MemoOK PP T M113 := ⟨m112, M112_ok⟩
abbrev A113 : List AV := [(.agg [(Vi 0), (Vi 0)]), (.agg [(Vi 1), (Vi 4)]), (.agg [(Vi 1), (Vi 4)]), (.agg [(Vi 5), (Vi 5)])]
abbrev R113 : AV := (Vi 1)
theorem m113 : pv PP T 4820 172 A113 = some R113 := pv_fast M113 M113_ok (by kernel_rfl)
def M114 : Memo := (4820, 172, A113, R113) :: M113
theorem M114_ok : MemoOK PP T M114 := ⟨m113, M113_ok⟩
abbrev A114 : List AV := [(.agg [(Vi 4), (Vi 1)]), (.agg [(Vi 0), (Vi 0)]), (.agg [(Vi 5), (Vi 5)])]
abbrev R114 : AV := (Vi (-15))
theorem m114 : pv PP T 4860 186 A114 = some R114 := pv_fast M114 M114_ok (by kernel_rfl)
def M115 : Memo := (4860, 186, A114, R114) :: M114
theorem M115_ok : MemoOK PP T M115 := ⟨m114, M114_ok⟩
abbrev A115 : List AV := [(.agg [(Vi 4), (Vi 1)]), (.agg [(Vi 0), (Vi 0)]), (.agg [(Vi 1), (Vi 4)]), (.agg [(Vi 5), (Vi 5)])]
abbrev R115 : AV := (Vi 0)
theorem m115 : pv PP T 4900 172 A115 = some R115 := pv_fast M115 M115_ok (by kernel_rfl)
def M116 : Memo := (4900, 172, A115, R115) :: M115
theorem M116_ok : MemoOK PP T M116 := ⟨m115, M115_ok⟩
abbrev A116 : List AV := [(.agg [(Vi 4), (Vi 1)]), (.agg [(Vi 0), (Vi 0)]), (.agg [(Vi 4), (Vi 1)])]
abbrev R116 : AV := (Vi 0)
theorem m116 : pv PP T 4940 186 A116 = some R116 := pv_fast M116 M116_ok (by kernel_rfl)
def M117 : Memo := (4940, 186, A116, R116) :: M116
theorem M117_ok : MemoOK PP T M117 := ⟨m116, M116_ok⟩
abbrev A117 : List AV := [(.agg [(Vi 5), (Vi 5)]), (.agg [(Vi 4), (Vi 1)]), (.agg [(Vi 4), (Vi 1)])]
abbrev R117 : AV := (Vi 0)
theorem m117 : pv PP T 4980 186 A117 = some R117 := pv_fast M117 M117_ok (by kernel_rfl)
def M118 : Memo := (4980, 186, A117, R117) :: M117
theorem M118_ok : MemoOK PP T M118 := ⟨m117, M117_ok⟩
abbrev A118 : List AV := [(.agg [(Vi 5), (Vi 5)]), (.agg [(Vi 4), (Vi 1)]), (.agg [(Vi 0), (Vi 0)])]
abbrev R118 : AV := (Vi (-15))
theorem m118 : pv PP T 5020 186 A118 = some R118 := pv_fast M118 M118_ok (by kernel_rfl)
def M119 : Memo := (5020, 186, A118, R118) :: M118
theorem M119_ok : MemoOK PP T M119 := ⟨m118, M118_ok⟩
abbrev A119 : List AV := [(.agg [(Vi 4), (Vi 1)]), (.agg [(Vi 0), (Vi 0)]), (.agg [(Vi 5), (Vi 5)]), (.agg [(Vi 4), (Vi 1)])]
abbrev R119 : AV := (Vi 1)
theorem m119 : pv PP T 5060 172 A119 = some R119 := pv_fast M119 M119_ok (by kernel_rfl)
def M120 : Memo := (5060, 172, A119, R119) :: M119
theorem M120_ok : MemoOK PP T M120 := ⟨m119, M119_ok⟩
abbrev A120 : List AV := [(.agg [(Vi 1), (Vi 4)]), (.agg [(Vi 5), (Vi 5)]), (.agg [(Vi 5), (Vi 5)])]
abbrev R120 : AV := (Vi 0)
theorem m120 : pv PP T 5100 186 A120 = some R120 := pv_fast M120 M120_ok (by kernel_rfl)
def M121 : Memo := (5100, 186, A120, R120) :: M120
theorem M121_ok : MemoOK PP T M121 := ⟨m120, M120_ok⟩
abbrev A121 : List AV := [(.agg [(Vi 1), (Vi 4)]), (.agg [(Vi 5), (Vi 5)]), (.agg [(Vi 4), (Vi 1)])]
abbrev R121 : AV := (Vi (-15))
theorem m121 : pv PP T 5140 186 A121 = some R121 := pv_fast M121 M121_ok (by kernel_rfl)
def M122 : Memo := (5140, 186, A121, R121) :: M121
theorem M122_ok : MemoOK PP T M122 := ⟨m121, M121_ok⟩
abbrev A122 : List AV := [(.agg [(Vi 5), (Vi 5)]), (.agg [(Vi 4), (Vi 1)]), (.agg [(Vi 1), (Vi 4)])]
abbrev R122 : AV := (Vi (-15))
theorem m122 : pv PP T 5180 186 A122 = some R122 := pv_fast M122 M122_ok (by kernel_rfl)
def M123 : Memo := (5180, 186, A122, R122) :: M122
theorem M123_ok : MemoOK PP T M123 := ⟨m122, M122_ok⟩
abbrev A123 : List AV := [(.agg [(Vi 5), (Vi 5)]), (.agg [(Vi 4), (Vi 1)]), (.agg [(Vi 5), (Vi 5)])]
abbrev R123 : AV := (Vi 0)
theorem m123 : pv PP T 5220 186 A123 = some R123 := pv_fast M123 M123_ok (by kernel_rfl)
def M124 : Memo := (5220, 186, A123, R123) :: M123
theorem M124_ok : MemoOK PP T M124 := ⟨m123, M123_ok⟩
abbrev A124 : List AV := [(.agg [(Vi 1), (Vi 4)]), (.agg [(Vi 5), (Vi 5)]), (.agg [(Vi 5), (Vi 5)]), (.agg [(Vi 4), (Vi 1)])]
abbrev R124 : AV := (Vi 1)
theorem m124 : pv PP T 5260 172 A124 = some R124 := pv_fast M124 M124_ok (by kernel_rfl)
def M125 : Memo := (5260, 172, A124, R124) :: M124
theorem M125_ok : MemoOK PP T M125 := ⟨m124, M124_ok⟩
abbrev A125 : List AV := [(.agg [(Vi 1), (Vi 4)]), (.agg [(Vi 5), (Vi 5)]), (.agg [(Vi 0), (Vi 0)])]
abbrev R125 : AV := (.lit (.bool false))
theorem m125 : pv PP T 5300 156 A125 = some R125 := pv_fast M125 M125_ok (by kernel_rfl)
def M126 : Memo := (5300, 156, A125, R125) :: M125
theorem M126_ok : MemoOK PP T M126 := ⟨m125, M125_ok⟩
abbrev A126 : List AV := [(.agg [(Vi 5), (Vi 5)]), (.agg [(Vi 4), (Vi 1)]), (.agg [(Vi 0), (Vi 0)])]
abbrev R126 : AV := (.lit (.bool false))
theorem m126 : pv PP T 5340 156 A126 = some R126 := pv_fast M126 M126_ok (by kernel_rfl)
def M127 : Memo := (5340, 156, A126, R126) :: M126
theorem M127_ok : MemoOK PP T M127 := ⟨m126, M126_ok⟩
end Go.Proofs.YtmflphfmefakfaaGreatDoor.Av
