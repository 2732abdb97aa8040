/- A part of the proof of EditChecksCardSaid. -/
import Derived.Test.YtmflphfmefakfaaGreatDoorVeTab
import Derived.Test.YtmflphfmefakfaaGreatDoorAvClone
set_option linter.all false
namespace Go.Proofs.YtmflphfmefakfaaGreatDoor.Av
open Go
def M0 : Memo := []
theorem M0_ok : MemoOK PP T M0 := trivial
abbrev A0 : List AV := [(.agg [(Vi 1), (Vi 1), (Vi 0), (Vi 0), (Vi 0), (Vi 0), (Vi 0), (.sl false []), (.lit (.string ⟨#[]⟩)), (.sl false [])])]
abbrev R0 : AV := (.lit (.bool true))
theorem m0 : pv PP T 300 6 A0 = some R0 := pv_fast M0 M0_ok (by kernel_rfl)
def M1 : Memo := (300, 6, A0, R0) :: M0
theorem M1_ok : MemoOK PP T M1 := ⟨m0, M0_ok⟩
abbrev A1 : List AV := [(.agg [(.sl false []), (.sl false []), (.sl false [])])]
abbrev R1 : AV := (Vi 0)
theorem m1 : pv PP T 340 104 A1 = some R1 := pv_fast M1 M1_ok (by kernel_rfl)
def M2 : Memo := (340, 104, A1, R1) :: M1
theorem M2_ok : MemoOK PP T M2 := ⟨m1, M1_ok⟩
abbrev A2 : List AV := [(.agg [(.sl false []), (.sl false []), (.sl false [])])]
abbrev R2 : AV := (Vi 0)
theorem m2 : pv PP T 380 56 A2 = some R2 := pv_fast M2 M2_ok (by kernel_rfl)
def M3 : Memo := (380, 56, A2, R2) :: M2
theorem M3_ok : MemoOK PP T M3 := ⟨m2, M2_ok⟩
abbrev A3 : List AV := [(.agg [(.sl false []), (.sl false []), (.sl false []), (.sl false [])])]
abbrev R3 : AV := (Vi 0)
theorem m3 : pv PP T 420 33 A3 = some R3 := pv_fast M3 M3_ok (by kernel_rfl)
def M4 : Memo := (420, 33, A3, R3) :: M3
theorem M4_ok : MemoOK PP T M4 := ⟨m3, M3_ok⟩
abbrev A4 : List AV := [(.agg [(.sl false [[(Vi 1), (Vi 0), (Vi 0)]]), (.sl false []), (.sl false [])])]
abbrev R4 : AV := (Vi 0)
theorem m4 : pv PP T 460 104 A4 = some R4 := pv_fast M4 M4_ok (by kernel_rfl)
def M5 : Memo := (460, 104, A4, R4) :: M4
theorem M5_ok : MemoOK PP T M5 := ⟨m4, M4_ok⟩
abbrev A5 : List AV := [(.agg [(.sl false [[(Vi 1), (Vi 0), (Vi 0)]]), (.sl false []), (.sl false [])])]
abbrev R5 : AV := (.tup [(.sl false []), (Vi 0)])
theorem m5 : pv PP T 500 96 A5 = some R5 := pv_fast M5 M5_ok (by kernel_rfl)
def M6 : Memo := (500, 96, A5, R5) :: M5
theorem M6_ok : MemoOK PP T M6 := ⟨m5, M5_ok⟩
abbrev A6 : List AV := [(.agg [(.sl false [[(Vi 1), (Vi 0), (Vi 0)]]), (.sl false []), (.sl false [])])]
abbrev R6 : AV := (Vi 0)
theorem m6 : pv PP T 540 56 A6 = some R6 := pv_fast M6 M6_ok (by kernel_rfl)
def M7 : Memo := (540, 56, A6, R6) :: M6
theorem M7_ok : MemoOK PP T M7 := ⟨m6, M6_ok⟩
abbrev A7 : List AV := [(.agg [(.sl false [[(Vi 1), (Vi 0), (Vi 0)]]), (.sl false []), (.sl false []), (.sl false [])])]
abbrev R7 : AV := (Vi 0)
theorem m7 : pv PP T 580 33 A7 = some R7 := pv_fast M7 M7_ok (by kernel_rfl)
def M8 : Memo := (580, 33, A7, R7) :: M7
theorem M8_ok : MemoOK PP T M8 := ⟨m7, M7_ok⟩
abbrev A8 : List AV := [(.agg [(Vi 4), (Vi 1), (Vi 1), (Vi 1), (Vi 1), (Vi 0), (Vi 0), (.sl false [[(Vi 10), (Vi 0)], [(Vi 10), (Vi 10)], [(Vi 0), (Vi 10)]]), (.lit (.string ⟨#[]⟩)), (.sl false [])])]
abbrev R8 : AV := (.lit (.bool true))
theorem m8 : pv PP T 620 6 A8 = some R8 := pv_fast M8 M8_ok (by kernel_rfl)
def M9 : Memo := (620, 6, A8, R8) :: M8
theorem M9_ok : MemoOK PP T M9 := ⟨m8, M8_ok⟩
abbrev A9 : List AV := [(.agg [(.sl false [[(Vi 1), (Vi 0), (Vi 0)]]), (.sl false []), (.sl false []), (.sl false [])]), (Vi 1)]
abbrev R9 : AV := (.tup [(Vi 0), (.lit (.bool true))])
theorem m9 : pv PP T 660 83 A9 = some R9 := pv_fast M9 M9_ok (by kernel_rfl)
def M10 : Memo := (660, 83, A9, R9) :: M9
theorem M10_ok : MemoOK PP T M10 := ⟨m9, M9_ok⟩
abbrev A10 : List AV := [(.agg [(.sl false [[(Vi 1), (Vi 0), (Vi 0)]]), (.sl false [[(Vi 1), (Vi 1), (Vi 1), (.sl false [[(Vi 10), (Vi 0)], [(Vi 10), (Vi 10)], [(Vi 0), (Vi 10)]]), (Vi 0), (Vi 0)]]), (.sl false [])])]
abbrev R10 : AV := (.lit (.bool true))
theorem m10 : pv PP T 700 129 A10 = some R10 := pv_fast M10 M10_ok (by kernel_rfl)
def M11 : Memo := (700, 129, A10, R10) :: M10
theorem M11_ok : MemoOK PP T M11 := ⟨m10, M10_ok⟩
abbrev A11 : List AV := [(.agg [(.sl false [[(Vi 1), (Vi 0), (Vi 0)]]), (.sl false [[(Vi 1), (Vi 1), (Vi 1), (.sl false [[(Vi 10), (Vi 0)], [(Vi 10), (Vi 10)], [(Vi 0), (Vi 10)]]), (Vi 0), (Vi 0)]]), (.sl false [])]), (.sl false [[(Vi 1)]])]
abbrev R11 : AV := (Vi 0)
theorem m11 : pv PP T 740 130 A11 = some R11 := pv_fast M11 M11_ok (by kernel_rfl)
def M12 : Memo := (740, 130, A11, R11) :: M11
theorem M12_ok : MemoOK PP T M12 := ⟨m11, M11_ok⟩
abbrev A12 : List AV := [(.agg [(.sl false [[(Vi 1), (Vi 0), (Vi 0)]]), (.sl false [[(Vi 1), (Vi 1), (Vi 1), (.sl false [[(Vi 10), (Vi 0)], [(Vi 10), (Vi 10)], [(Vi 0), (Vi 10)]]), (Vi 0), (Vi 0)]]), (.sl false [])]), (Vi 1)]
abbrev R12 : AV := (.tup [(.sl false [[(Vi 0), (Vi 0)], [(Vi 10), (Vi 0)], [(Vi 10), (Vi 10)], [(Vi 0), (Vi 10)], [(Vi 0), (Vi 0)]]), (Vi 0)])
theorem m12 : pv PP T 780 91 A12 = some R12 := pv_fast M12 M12_ok (by kernel_rfl)
def M13 : Memo := (780, 91, A12, R12) :: M12
theorem M13_ok : MemoOK PP T M13 := ⟨m12, M12_ok⟩
abbrev A13 : List AV := [(.agg [(Vi 0), (Vi 0)]), (.agg [(Vi 10), (Vi 0)]), (.agg [(Vi 10), (Vi 10)])]
abbrev R13 : AV := (Vi 100)
theorem m13 : pv PP T 820 186 A13 = some R13 := pv_fast M13 M13_ok (by kernel_rfl)
def M14 : Memo := (820, 186, A13, R13) :: M13
theorem M14_ok : MemoOK PP T M14 := ⟨m13, M13_ok⟩
abbrev A14 : List AV := [(.agg [(Vi 0), (Vi 0)]), (.agg [(Vi 10), (Vi 0)]), (.agg [(Vi 0), (Vi 10)])]
abbrev R14 : AV := (Vi 100)
theorem m14 : pv PP T 860 186 A14 = some R14 := pv_fast M14 M14_ok (by kernel_rfl)
def M15 : Memo := (860, 186, A14, R14) :: M14
theorem M15_ok : MemoOK PP T M15 := ⟨m14, M14_ok⟩
abbrev A15 : List AV := [(.agg [(Vi 0), (Vi 0)]), (.agg [(Vi 10), (Vi 0)]), (.agg [(Vi 10), (Vi 10)]), (.agg [(Vi 0), (Vi 10)])]
abbrev R15 : AV := (Vi 0)
theorem m15 : pv PP T 900 172 A15 = some R15 := pv_fast M15 M15_ok (by kernel_rfl)
def M16 : Memo := (900, 172, A15, R15) :: M15
theorem M16_ok : MemoOK PP T M16 := ⟨m15, M15_ok⟩
abbrev A16 : List AV := [(.agg [(Vi 0), (Vi 0)]), (.agg [(Vi 10), (Vi 0)]), (.agg [(Vi 0), (Vi 0)])]
abbrev R16 : AV := (Vi 0)
theorem m16 : pv PP T 940 186 A16 = some R16 := pv_fast M16 M16_ok (by kernel_rfl)
def M17 : Memo := (940, 186, A16, R16) :: M16
theorem M17_ok : MemoOK PP T M17 := ⟨m16, M16_ok⟩
abbrev A17 : List AV := [(.agg [(Vi 0), (Vi 10)]), (.agg [(Vi 0), (Vi 0)]), (.agg [(Vi 0), (Vi 0)])]
abbrev R17 : AV := (Vi 0)
theorem m17 : pv PP T 980 186 A17 = some R17 := pv_fast M17 M17_ok (by kernel_rfl)
def M18 : Memo := (980, 186, A17, R17) :: M17
theorem M18_ok : MemoOK PP T M18 := ⟨m17, M17_ok⟩
abbrev A18 : List AV := [(.agg [(Vi 0), (Vi 10)]), (.agg [(Vi 0), (Vi 0)]), (.agg [(Vi 10), (Vi 0)])]
abbrev R18 : AV := (Vi 100)
theorem m18 : pv PP T 1020 186 A18 = some R18 := pv_fast M18 M18_ok (by kernel_rfl)
def M19 : Memo := (1020, 186, A18, R18) :: M18
theorem M19_ok : MemoOK PP T M19 := ⟨m18, M18_ok⟩
abbrev A19 : List AV := [(.agg [(Vi 0), (Vi 0)]), (.agg [(Vi 10), (Vi 0)]), (.agg [(Vi 0), (Vi 10)]), (.agg [(Vi 0), (Vi 0)])]
abbrev R19 : AV := (Vi 1)
theorem m19 : pv PP T 1060 172 A19 = some R19 := pv_fast M19 M19_ok (by kernel_rfl)
def M20 : Memo := (1060, 172, A19, R19) :: M19
theorem M20_ok : MemoOK PP T M20 := ⟨m19, M19_ok⟩
abbrev A20 : List AV := [(.agg [(Vi 0), (Vi 0)]), (.agg [(Vi 10), (Vi 0)]), (.agg [(Vi 10), (Vi 0)])]
abbrev R20 : AV := (Vi 0)
theorem m20 : pv PP T 1100 186 A20 = some R20 := pv_fast M20 M20_ok (by kernel_rfl)
def M21 : Memo := (1100, 186, A20, R20) :: M20
theorem M21_ok : MemoOK PP T M21 := ⟨m20, M20_ok⟩
abbrev A21 : List AV := [(.agg [(Vi 10), (Vi 0)]), (.agg [(Vi 10), (Vi 10)]), (.agg [(Vi 0), (Vi 0)])]
abbrev R21 : AV := (Vi 100)
theorem m21 : pv PP T 1140 186 A21 = some R21 := pv_fast M21 M21_ok (by kernel_rfl)
def M22 : Memo := (1140, 186, A21, R21) :: M21
theorem M22_ok : MemoOK PP T M22 := ⟨m21, M21_ok⟩
abbrev A22 : List AV := [(.agg [(Vi 10), (Vi 0)]), (.agg [(Vi 10), (Vi 10)]), (.agg [(Vi 10), (Vi 0)])]
abbrev R22 : AV := (Vi 0)
theorem m22 : pv PP T 1180 186 A22 = some R22 := pv_fast M22 M22_ok (by kernel_rfl)
def M23 : Memo := (1180, 186, A22, R22) :: M22
theorem M23_ok : MemoOK PP T M23 := ⟨m22, M22_ok⟩
abbrev A23 : List AV := [(.agg [(Vi 0), (Vi 0)]), (.agg [(Vi 10), (Vi 0)]), (.agg [(Vi 10), (Vi 0)]), (.agg [(Vi 10), (Vi 10)])]
abbrev R23 : AV := (Vi 1)
theorem m23 : pv PP T 1220 172 A23 = some R23 := pv_fast M23 M23_ok (by kernel_rfl)
def M24 : Memo := (1220, 172, A23, R23) :: M23
theorem M24_ok : MemoOK PP T M24 := ⟨m23, M23_ok⟩
abbrev A24 : List AV := [(.agg [(Vi 0), (Vi 0)]), (.agg [(Vi 10), (Vi 0)]), (.agg [(Vi 0), (Vi 0)])]
abbrev R24 : AV := (.lit (.bool true))
theorem m24 : pv PP T 1260 156 A24 = some R24 := pv_fast M24 M24_ok (by kernel_rfl)
def M25 : Memo := (1260, 156, A24, R24) :: M24
theorem M25_ok : MemoOK PP T M25 := ⟨m24, M24_ok⟩
abbrev A25 : List AV := [(.agg [(Vi 10), (Vi 10)]), (.agg [(Vi 0), (Vi 10)]), (.agg [(Vi 0), (Vi 10)])]
abbrev R25 : AV := (Vi 0)
theorem m25 : pv PP T 1300 186 A25 = some R25 := pv_fast M25 M25_ok (by kernel_rfl)
def M26 : Memo := (1300, 186, A25, R25) :: M25
theorem M26_ok : MemoOK PP T M26 := ⟨m25, M25_ok⟩
abbrev A26 : List AV := [(.agg [(Vi 10), (Vi 10)]), (.agg [(Vi 0), (Vi 10)]), (.agg [(Vi 0), (Vi 0)])]
abbrev R26 : AV := (Vi 100)
theorem m26 : pv PP T 1340 186 A26 = some R26 := pv_fast M26 M26_ok (by kernel_rfl)
def M27 : Memo := (1340, 186, A26, R26) :: M26
theorem M27_ok : MemoOK PP T M27 := ⟨m26, M26_ok⟩
abbrev A27 : List AV := [(.agg [(Vi 0), (Vi 10)]), (.agg [(Vi 0), (Vi 0)]), (.agg [(Vi 10), (Vi 10)])]
abbrev R27 : AV := (Vi 100)
theorem m27 : pv PP T 1380 186 A27 = some R27 := pv_fast M27 M27_ok (by kernel_rfl)
def M28 : Memo := (1380, 186, A27, R27) :: M27
theorem M28_ok : MemoOK PP T M28 := ⟨m27, M27_ok⟩
abbrev A28 : List AV := [(.agg [(Vi 0), (Vi 10)]), (.agg [(Vi 0), (Vi 0)]), (.agg [(Vi 0), (Vi 10)])]
abbrev R28 : AV := (Vi 0)
theorem m28 : pv PP T 1420 186 A28 = some R28 := pv_fast M28 M28_ok (by kernel_rfl)
def M29 : Memo := (1420, 186, A28, R28) :: M28
theorem M29_ok : MemoOK PP T M29 := ⟨m28, M28_ok⟩
abbrev A29 : List AV := [(.agg [(Vi 10), (Vi 10)]), (.agg [(Vi 0), (Vi 10)]), (.agg [(Vi 0), (Vi 10)]), (.agg [(Vi 0), (Vi 0)])]
abbrev R29 : AV := (Vi 1)
theorem m29 : pv PP T 1460 172 A29 = some R29 := pv_fast M29 M29_ok (by kernel_rfl)
def M30 : Memo := (1460, 172, A29, R29) :: M29
theorem M30_ok : MemoOK PP T M30 := ⟨m29, M29_ok⟩
abbrev A30 : List AV := [(.agg [(Vi 10), (Vi 10)]), (.agg [(Vi 0), (Vi 10)]), (.agg [(Vi 10), (Vi 0)])]
abbrev R30 : AV := (Vi 100)
theorem m30 : pv PP T 1500 186 A30 = some R30 := pv_fast M30 M30_ok (by kernel_rfl)
def M31 : Memo := (1500, 186, A30, R30) :: M30
theorem M31_ok : MemoOK PP T M31 := ⟨m30, M30_ok⟩
abbrev A31 : List AV := [(.agg [(Vi 10), (Vi 10)]), (.agg [(Vi 0), (Vi 10)]), (.agg [(Vi 10), (Vi 10)])]
abbrev R31 : AV := (Vi 0)
theorem m31 : pv PP T 1540 186 A31 = some R31 := pv_fast M31 M31_ok (by kernel_rfl)
def M32 : Memo := (1540, 186, A31, R31) :: M31
theorem M32_ok : MemoOK PP T M32 := ⟨m31, M31_ok⟩
abbrev A32 : List AV := [(.agg [(Vi 10), (Vi 0)]), (.agg [(Vi 10), (Vi 10)]), (.agg [(Vi 10), (Vi 10)])]
abbrev R32 : AV := (Vi 0)
theorem m32 : pv PP T 1580 186 A32 = some R32 := pv_fast M32 M32_ok (by kernel_rfl)
def M33 : Memo := (1580, 186, A32, R32) :: M32
theorem M33_ok : MemoOK PP T M33 := ⟨m32, M32_ok⟩
abbrev A33 : List AV := [(.agg [(Vi 10), (Vi 0)]), (.agg [(Vi 10), (Vi 10)]), (.agg [(Vi 0), (Vi 10)])]
abbrev R33 : AV := (Vi 100)
theorem m33 : pv PP T 1620 186 A33 = some R33 := pv_fast M33 M33_ok (by kernel_rfl)
def M34 : Memo := (1620, 186, A33, R33) :: M33
theorem M34_ok : MemoOK PP T M34 := ⟨m33, M33_ok⟩
abbrev A34 : List AV := [(.agg [(Vi 10), (Vi 10)]), (.agg [(Vi 0), (Vi 10)]), (.agg [(Vi 10), (Vi 0)]), (.agg [(Vi 10), (Vi 10)])]
abbrev R34 : AV := (Vi 1)
theorem m34 : pv PP T 1660 172 A34 = some R34 := pv_fast M34 M34_ok (by kernel_rfl)
def M35 : Memo := (1660, 172, A34, R34) :: M34
theorem M35_ok : MemoOK PP T M35 := ⟨m34, M34_ok⟩
abbrev A35 : List AV := [(.agg [(Vi 10), (Vi 10)]), (.agg [(Vi 0), (Vi 10)]), (.agg [(Vi 0), (Vi 0)])]
abbrev R35 : AV := (.lit (.bool false))
theorem m35 : pv PP T 1700 156 A35 = some R35 := pv_fast M35 M35_ok (by kernel_rfl)
def M36 : Memo := (1700, 156, A35, R35) :: M35
theorem M36_ok : MemoOK PP T M36 := ⟨m35, M35_ok⟩
abbrev A36 : List AV := [(.agg [(Vi 0), (Vi 10)]), (.agg [(Vi 0), (Vi 0)]), (.agg [(Vi 0), (Vi 0)])]
abbrev R36 : AV := (.lit (.bool true))
theorem m36 : pv PP T 1740 156 A36 = some R36 := pv_fast M36 M36_ok (by kernel_rfl)
def M37 : Memo := (1740, 156, A36, R36) :: M36
theorem M37_ok : MemoOK PP T M37 := ⟨m36, M36_ok⟩
abbrev A37 : List AV := [(.agg [(Vi 10), (Vi 0)]), (.agg [(Vi 10), (Vi 10)]), (.agg [(Vi 0), (Vi 0)])]
abbrev R37 : AV := (.lit (.bool false))
theorem m37 : pv PP T 1780 156 A37 = some R37 := pv_fast M37 M37_ok (by kernel_rfl)
def M38 : Memo := (1780, 156, A37, R37) :: M37
theorem M38_ok : MemoOK PP T M38 := ⟨m37, M37_ok⟩
end Go.Proofs.YtmflphfmefakfaaGreatDoor.Av
