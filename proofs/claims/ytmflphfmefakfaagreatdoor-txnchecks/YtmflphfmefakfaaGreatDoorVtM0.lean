/- A part of the proof of TxnChecksCardSaid: an evaluator of the program, proved sound, and what it says. -/
import Derived.Test.YtmflphfmefakfaaGreatDoorVtTab
import Derived.Test.YtmflphfmefakfaaGreatDoorAvClone
set_option linter.all false
namespace Go.Proofs.YtmflphfmefakfaaGreatDoor.Av
open Go
def M0 : Memo := []
theorem M0_ok : MemoOK PP T M0 := trivial
abbrev A0 : List AV := [(.agg [(Vi 1), (Vi 1), (Vi 0), (Vi 0), (Vi 0), (Vi 0), (Vi 0), (.sl false []), (.lit (.string ⟨#[]⟩)), (.sl false [])])]
abbrev R0 : AV := (.lit (.bool true))
theorem m0 : pv PP T 300 29 A0 = some R0 := pv_fast M0 M0_ok (by kernel_rfl)
def M1 : Memo := (300, 29, A0, R0) :: M0
theorem M1_ok : MemoOK PP T M1 := ⟨m0, M0_ok⟩
abbrev A1 : List AV := [(.agg [(Vi 2), (Vi 1), (Vi 5), (.lit (.string ⟨#[]⟩)), (.sl false [[(Vi 1), (Vi 1), (Vi 0), (Vi 0), (Vi 0), (Vi 0), (Vi 0), (.sl false []), (.lit (.string ⟨#[]⟩)), (.sl false [])]])])]
abbrev R1 : AV := (Vi 0)
theorem m1 : pv PP T 340 2 A1 = some R1 := pv_fast M1 M1_ok (by kernel_rfl)
def M2 : Memo := (340, 2, A1, R1) :: M1
theorem M2_ok : MemoOK PP T M2 := ⟨m1, M1_ok⟩
abbrev A2 : List AV := [(.agg [(.sl false []), (.sl false []), (.sl false [])])]
abbrev R2 : AV := (Vi 0)
theorem m2 : pv PP T 380 101 A2 = some R2 := pv_fast M2 M2_ok (by kernel_rfl)
def M3 : Memo := (380, 101, A2, R2) :: M2
theorem M3_ok : MemoOK PP T M3 := ⟨m2, M2_ok⟩
abbrev A3 : List AV := [(.agg [(.sl false []), (.sl false []), (.sl false [])])]
abbrev R3 : AV := (Vi 0)
theorem m3 : pv PP T 420 67 A3 = some R3 := pv_fast M3 M3_ok (by kernel_rfl)
def M4 : Memo := (420, 67, A3, R3) :: M3
theorem M4_ok : MemoOK PP T M4 := ⟨m3, M3_ok⟩
abbrev A4 : List AV := [(.agg [(.sl false []), (.sl false []), (.sl false []), (.sl false [])])]
abbrev R4 : AV := (Vi 0)
theorem m4 : pv PP T 460 39 A4 = some R4 := pv_fast M4 M4_ok (by kernel_rfl)
def M5 : Memo := (460, 39, A4, R4) :: M4
theorem M5_ok : MemoOK PP T M5 := ⟨m4, M4_ok⟩
abbrev A5 : List AV := [(.agg [(.sl false [[(Vi 1), (Vi 0), (Vi 0)]]), (.sl false []), (.sl false [])])]
abbrev R5 : AV := (Vi 0)
theorem m5 : pv PP T 500 101 A5 = some R5 := pv_fast M5 M5_ok (by kernel_rfl)
def M6 : Memo := (500, 101, A5, R5) :: M5
theorem M6_ok : MemoOK PP T M6 := ⟨m5, M5_ok⟩
abbrev A6 : List AV := [(.agg [(.sl false [[(Vi 1), (Vi 0), (Vi 0)]]), (.sl false []), (.sl false [])])]
abbrev R6 : AV := (.tup [(.sl false []), (Vi 0)])
theorem m6 : pv PP T 540 95 A6 = some R6 := pv_fast M6 M6_ok (by kernel_rfl)
def M7 : Memo := (540, 95, A6, R6) :: M6
theorem M7_ok : MemoOK PP T M7 := ⟨m6, M6_ok⟩
abbrev A7 : List AV := [(.agg [(.sl false [[(Vi 1), (Vi 0), (Vi 0)]]), (.sl false []), (.sl false [])])]
abbrev R7 : AV := (Vi 0)
theorem m7 : pv PP T 580 67 A7 = some R7 := pv_fast M7 M7_ok (by kernel_rfl)
def M8 : Memo := (580, 67, A7, R7) :: M7
theorem M8_ok : MemoOK PP T M8 := ⟨m7, M7_ok⟩
abbrev A8 : List AV := [(.agg [(.sl false [[(Vi 1), (Vi 0), (Vi 0)]]), (.sl false []), (.sl false []), (.sl false [])])]
abbrev R8 : AV := (Vi 0)
theorem m8 : pv PP T 620 39 A8 = some R8 := pv_fast M8 M8_ok (by kernel_rfl)
def M9 : Memo := (620, 39, A8, R8) :: M8
theorem M9_ok : MemoOK PP T M9 := ⟨m8, M8_ok⟩
abbrev A9 : List AV := [(.agg [(.sl false []), (.sl false []), (.sl false []), (.sl false [])]), (.sl false [[(Vi 1), (Vi 1), (Vi 0), (Vi 0), (Vi 0), (Vi 0), (Vi 0), (.sl false []), (.lit (.string ⟨#[]⟩)), (.sl false [])]])]
abbrev R9 : AV := (.tup [(.agg [(.sl false [[(Vi 1), (Vi 0), (Vi 0)]]), (.sl false []), (.sl false []), (.sl false [])]), (Vi 1), (Vi 0)])
theorem m9 : pv PP T 660 15 A9 = some R9 := pv_fast M9 M9_ok (by kernel_rfl)
def M10 : Memo := (660, 15, A9, R9) :: M9
theorem M10_ok : MemoOK PP T M10 := ⟨m9, M9_ok⟩
abbrev A10 : List AV := [(.agg [(Vi 2), (Vi 3), (Vi 5), (.lit (.string ⟨#[]⟩)), (.sl false [[(Vi 1), (Vi 1), (Vi 0), (Vi 0), (Vi 0), (Vi 0), (Vi 0), (.sl false []), (.lit (.string ⟨#[]⟩)), (.sl false [])]])])]
abbrev R10 : AV := (Vi 0)
theorem m10 : pv PP T 700 2 A10 = some R10 := pv_fast M10 M10_ok (by kernel_rfl)
def M11 : Memo := (700, 2, A10, R10) :: M10
theorem M11_ok : MemoOK PP T M11 := ⟨m10, M10_ok⟩
abbrev A11 : List AV := [(.agg [(Vi 3), (Vi 1), (Vi 0), (Vi 0), (Vi 0), (Vi 4), (Vi 0), (.sl false []), (.lit (.string ⟨#[]⟩)), (.sl false [])])]
abbrev R11 : AV := (.lit (.bool true))
theorem m11 : pv PP T 740 29 A11 = some R11 := pv_fast M11 M11_ok (by kernel_rfl)
def M12 : Memo := (740, 29, A11, R11) :: M11
theorem M12_ok : MemoOK PP T M12 := ⟨m11, M11_ok⟩
abbrev A12 : List AV := [(.agg [(Vi 2), (Vi 2), (Vi 5), (.lit (.string ⟨#[]⟩)), (.sl false [[(Vi 3), (Vi 1), (Vi 0), (Vi 0), (Vi 0), (Vi 4), (Vi 0), (.sl false []), (.lit (.string ⟨#[]⟩)), (.sl false [])]])])]
abbrev R12 : AV := (Vi 0)
theorem m12 : pv PP T 780 2 A12 = some R12 := pv_fast M12 M12_ok (by kernel_rfl)
def M13 : Memo := (780, 2, A12, R12) :: M12
theorem M13_ok : MemoOK PP T M13 := ⟨m12, M12_ok⟩
abbrev A13 : List AV := [(.agg [(.sl false [[(Vi 1), (Vi 0), (Vi 0)]]), (.sl false []), (.sl false []), (.sl false [])]), (Vi 1)]
abbrev R13 : AV := (.tup [(Vi 0), (.lit (.bool true))])
theorem m13 : pv PP T 820 93 A13 = some R13 := pv_fast M13 M13_ok (by kernel_rfl)
def M14 : Memo := (820, 93, A13, R13) :: M13
theorem M14_ok : MemoOK PP T M14 := ⟨m13, M13_ok⟩
abbrev A14 : List AV := [(.agg [(.sl false [[(Vi 1), (Vi 4), (Vi 0)]]), (.sl false []), (.sl false [])])]
abbrev R14 : AV := (Vi 0)
theorem m14 : pv PP T 860 101 A14 = some R14 := pv_fast M14 M14_ok (by kernel_rfl)
def M15 : Memo := (860, 101, A14, R14) :: M14
theorem M15_ok : MemoOK PP T M15 := ⟨m14, M14_ok⟩
abbrev A15 : List AV := [(.agg [(.sl false [[(Vi 1), (Vi 4), (Vi 0)]]), (.sl false []), (.sl false [])])]
abbrev R15 : AV := (.tup [(.sl false []), (Vi 0)])
theorem m15 : pv PP T 900 95 A15 = some R15 := pv_fast M15 M15_ok (by kernel_rfl)
def M16 : Memo := (900, 95, A15, R15) :: M15
theorem M16_ok : MemoOK PP T M16 := ⟨m15, M15_ok⟩
abbrev A16 : List AV := [(.agg [(.sl false [[(Vi 1), (Vi 4), (Vi 0)]]), (.sl false []), (.sl false [])])]
abbrev R16 : AV := (Vi 0)
theorem m16 : pv PP T 940 67 A16 = some R16 := pv_fast M16 M16_ok (by kernel_rfl)
def M17 : Memo := (940, 67, A16, R16) :: M16
theorem M17_ok : MemoOK PP T M17 := ⟨m16, M16_ok⟩
abbrev A17 : List AV := [(.agg [(.sl false [[(Vi 1), (Vi 4), (Vi 0)]]), (.sl false []), (.sl false []), (.sl false [])])]
abbrev R17 : AV := (Vi 0)
theorem m17 : pv PP T 980 39 A17 = some R17 := pv_fast M17 M17_ok (by kernel_rfl)
def M18 : Memo := (980, 39, A17, R17) :: M17
theorem M18_ok : MemoOK PP T M18 := ⟨m17, M17_ok⟩
abbrev A18 : List AV := [(.agg [(.sl false [[(Vi 1), (Vi 0), (Vi 0)]]), (.sl false []), (.sl false []), (.sl false [])]), (.sl false [[(Vi 3), (Vi 1), (Vi 0), (Vi 0), (Vi 0), (Vi 4), (Vi 0), (.sl false []), (.lit (.string ⟨#[]⟩)), (.sl false [])]])]
abbrev R18 : AV := (.tup [(.agg [(.sl false [[(Vi 1), (Vi 4), (Vi 0)]]), (.sl false []), (.sl false []), (.sl false [])]), (Vi 1), (Vi 0)])
theorem m18 : pv PP T 1020 15 A18 = some R18 := pv_fast M18 M18_ok (by kernel_rfl)
def M19 : Memo := (1020, 15, A18, R18) :: M18
theorem M19_ok : MemoOK PP T M19 := ⟨m18, M18_ok⟩
abbrev A19 : List AV := [(.agg [(.sl false [[(Vi 1), (Vi 0), (Vi 0)]]), (.sl false []), (.sl false []), (.sl false []), (.sl false [[(Vi 2), (Vi 1), (Vi 5), (.lit (.string ⟨#[]⟩)), (.sl false [[(Vi 1), (Vi 1), (Vi 0), (Vi 0), (Vi 0), (Vi 0), (Vi 0), (.sl false []), (.lit (.string ⟨#[]⟩)), (.sl false [])]])]])]), (.agg [(Vi 2), (Vi 2), (Vi 5), (.lit (.string ⟨#[]⟩)), (.sl false [[(Vi 3), (Vi 1), (Vi 0), (Vi 0), (Vi 0), (Vi 4), (Vi 0), (.sl false []), (.lit (.string ⟨#[]⟩)), (.sl false [])]])])]
abbrev R19 : AV := (.tup [(.agg [(.sl false [[(Vi 1), (Vi 4), (Vi 0)]]), (.sl false []), (.sl false []), (.sl false []), (.sl false [[(Vi 2), (Vi 1), (Vi 5), (.lit (.string ⟨#[]⟩)), (.sl false [[(Vi 1), (Vi 1), (Vi 0), (Vi 0), (Vi 0), (Vi 0), (Vi 0), (.sl false []), (.lit (.string ⟨#[]⟩)), (.sl false [])]])], [(Vi 2), (Vi 2), (Vi 5), (.lit (.string ⟨#[]⟩)), (.sl false [[(Vi 3), (Vi 1), (Vi 0), (Vi 0), (Vi 0), (Vi 4), (Vi 0), (.sl false []), (.lit (.string ⟨#[]⟩)), (.sl false [])]])]])]), (Vi 0)])
theorem m19 : pv PP T 1060 5 A19 = some R19 := pv_fast M19 M19_ok (by kernel_rfl)
def M20 : Memo := (1060, 5, A19, R19) :: M19
theorem M20_ok : MemoOK PP T M20 := ⟨m19, M19_ok⟩
abbrev A20 : List AV := [(.agg [(.sl false [[(Vi 1), (Vi 4), (Vi 0)]]), (.sl false []), (.sl false []), (.sl false []), (.sl false [[(Vi 2), (Vi 1), (Vi 5), (.lit (.string ⟨#[]⟩)), (.sl false [[(Vi 1), (Vi 1), (Vi 0), (Vi 0), (Vi 0), (Vi 0), (Vi 0), (.sl false []), (.lit (.string ⟨#[]⟩)), (.sl false [])]])], [(Vi 2), (Vi 2), (Vi 5), (.lit (.string ⟨#[]⟩)), (.sl false [[(Vi 3), (Vi 1), (Vi 0), (Vi 0), (Vi 0), (Vi 4), (Vi 0), (.sl false []), (.lit (.string ⟨#[]⟩)), (.sl false [])]])]])])]
abbrev R20 : AV := (.sl false [[(Vi 1), (Vi 1), (Vi 1), (Vi 2)]])
theorem m20 : pv PP T 1100 6 A20 = some R20 := pv_fast M20 M20_ok (by kernel_rfl)
def M21 : Memo := (1100, 6, A20, R20) :: M20
theorem M21_ok : MemoOK PP T M21 := ⟨m20, M20_ok⟩
abbrev A21 : List AV := [(.sl false [[(Vi 2), (Vi 1), (Vi 5), (.lit (.string ⟨#[]⟩)), (.sl false [[(Vi 1), (Vi 1), (Vi 0), (Vi 0), (Vi 0), (Vi 0), (Vi 0), (.sl false []), (.lit (.string ⟨#[]⟩)), (.sl false [])]])]])]
abbrev R21 : AV := (.tup [(.agg [(.sl false [[(Vi 1), (Vi 0), (Vi 0)]]), (.sl false []), (.sl false []), (.sl false []), (.sl false [[(Vi 2), (Vi 1), (Vi 5), (.lit (.string ⟨#[]⟩)), (.sl false [[(Vi 1), (Vi 1), (Vi 0), (Vi 0), (Vi 0), (Vi 0), (Vi 0), (.sl false []), (.lit (.string ⟨#[]⟩)), (.sl false [])]])]])]), (Vi 1), (Vi 0)])
theorem m21 : pv PP T 1140 23 A21 = some R21 := pv_fast M21 M21_ok (by kernel_rfl)
def M22 : Memo := (1140, 23, A21, R21) :: M21
theorem M22_ok : MemoOK PP T M22 := ⟨m21, M21_ok⟩
abbrev A22 : List AV := [(.sl false [[(Vi 2), (Vi 1), (Vi 5), (.lit (.string ⟨#[]⟩)), (.sl false [[(Vi 1), (Vi 1), (Vi 0), (Vi 0), (Vi 0), (Vi 0), (Vi 0), (.sl false []), (.lit (.string ⟨#[]⟩)), (.sl false [])]])], [(Vi 2), (Vi 2), (Vi 5), (.lit (.string ⟨#[]⟩)), (.sl false [[(Vi 3), (Vi 1), (Vi 0), (Vi 0), (Vi 0), (Vi 4), (Vi 0), (.sl false []), (.lit (.string ⟨#[]⟩)), (.sl false [])]])]])]
abbrev R22 : AV := (.tup [(.agg [(.sl false [[(Vi 1), (Vi 4), (Vi 0)]]), (.sl false []), (.sl false []), (.sl false []), (.sl false [[(Vi 2), (Vi 1), (Vi 5), (.lit (.string ⟨#[]⟩)), (.sl false [[(Vi 1), (Vi 1), (Vi 0), (Vi 0), (Vi 0), (Vi 0), (Vi 0), (.sl false []), (.lit (.string ⟨#[]⟩)), (.sl false [])]])], [(Vi 2), (Vi 2), (Vi 5), (.lit (.string ⟨#[]⟩)), (.sl false [[(Vi 3), (Vi 1), (Vi 0), (Vi 0), (Vi 0), (Vi 4), (Vi 0), (.sl false []), (.lit (.string ⟨#[]⟩)), (.sl false [])]])]])]), (Vi 2), (Vi 0)])
theorem m22 : pv PP T 1180 23 A22 = some R22 := pv_fast M22 M22_ok (by kernel_rfl)
def M23 : Memo := (1180, 23, A22, R22) :: M22
theorem M23_ok : MemoOK PP T M23 := ⟨m22, M22_ok⟩
abbrev A23 : List AV := [(.agg [(.sl false [[(Vi 1), (Vi 4), (Vi 0)]]), (.sl false []), (.sl false []), (.sl false []), (.sl false [[(Vi 2), (Vi 1), (Vi 5), (.lit (.string ⟨#[]⟩)), (.sl false [[(Vi 1), (Vi 1), (Vi 0), (Vi 0), (Vi 0), (Vi 0), (Vi 0), (.sl false []), (.lit (.string ⟨#[]⟩)), (.sl false [])]])], [(Vi 2), (Vi 2), (Vi 5), (.lit (.string ⟨#[]⟩)), (.sl false [[(Vi 3), (Vi 1), (Vi 0), (Vi 0), (Vi 0), (Vi 4), (Vi 0), (.sl false []), (.lit (.string ⟨#[]⟩)), (.sl false [])]])]])])]
abbrev R23 : AV := (.lit (.bool true))
theorem m23 : pv PP T 1220 10 A23 = some R23 := pv_fast M23 M23_ok (by kernel_rfl)
def M24 : Memo := (1220, 10, A23, R23) :: M23
theorem M24_ok : MemoOK PP T M24 := ⟨m23, M23_ok⟩
theorem awake_pv1 : pv PP T 10000 1 [] = some (.lit (.bool true)) := pv_fast M24 M24_ok (by kernel_rfl)
end Go.Proofs.YtmflphfmefakfaaGreatDoor.Av
