/- A part of the proofs of laws of the chapter office: an evaluator of the program, proved sound, and what it says. -/
import Derived.Test.YtkdnaejhpcibnaaGreatDoorVoTab
import Derived.Test.YtkdnaejhpcibnaaGreatDoorAvFast
set_option linter.unusedVariables false
set_option linter.unusedSimpArgs false
namespace Go.Proofs.YtkdnaejhpcibnaaGreatDoor.Av
open Go
def M0 : Memo:=[]
theorem bBe : mF PP T M0:=trivial
abbrev A0 : List AV:=[(.agg [(Vi 1),(Vi 1),(Vi 0),(Vi 0),(Vi 0),(Vi 0),(Vi 0),(.sl false []),(.lit (.string ⟨#[]⟩)),(.sl false [])])]
abbrev R0 : AV:=(.lit (.bool true))
theorem m0 : pv PP T 300 68 A0 = some R0:=lY M0 bBe (by kernel_rfl)
def M1 : Memo:=(300,68,A0,R0) :: M0
theorem bBd : mF PP T M1:=⟨m0,bBe⟩
abbrev A1 : List AV:=[(.agg [(Vi 1),(Vi 1),(Vi 1),(.lit (.string ⟨#[]⟩)),(.sl false [[(Vi 1),(Vi 1),(Vi 0),(Vi 0),(Vi 0),(Vi 0),(Vi 0),(.sl false []),(.lit (.string ⟨#[]⟩)),(.sl false [])]])])]
abbrev R1 : AV:=(Vi 0)
theorem m1 : pv PP T 340 22 A1 = some R1:=lY M1 bBd (by kernel_rfl)
def M2 : Memo:=(340,22,A1,R1) :: M1
theorem bBc : mF PP T M2:=⟨m1,bBd⟩
abbrev A2 : List AV:=[(.agg [(Vi 1),(.sl false [])]),(Vi 1),(.lit (.string ⟨#[]⟩)),(.sl false [[(Vi 1),(Vi 1),(Vi 0),(Vi 0),(Vi 0),(Vi 0),(Vi 0),(.sl false []),(.lit (.string ⟨#[]⟩)),(.sl false [])]])]
abbrev R2 : AV:=(.tup [(.agg [(Vi 1),(.sl false [[(Vi 1),(Vi 1),(Vi 1),(.lit (.string ⟨#[]⟩)),(.sl false [[(Vi 1),(Vi 1),(Vi 0),(Vi 0),(Vi 0),(Vi 0),(Vi 0),(.sl false []),(.lit (.string ⟨#[]⟩)),(.sl false [])]])]])]),(Vi 0)])
theorem m2 : pv PP T 380 6 A2 = some R2:=lY M2 bBc (by kernel_rfl)
def M3 : Memo:=(380,6,A2,R2) :: M2
theorem bBa : mF PP T M3:=⟨m2,bBc⟩
abbrev A3 : List AV:=[(.lit (.string ⟨#[85,114]⟩))]
abbrev R3 : AV:=(.tup [(.sl false [[(Vi 85)],[(Vi 114)]]),(Vi 0)])
theorem m3 : pv PP T 420 85 A3 = some R3:=lY M3 bBa (by kernel_rfl)
def M4 : Memo:=(420,85,A3,R3) :: M3
theorem bA9 : mF PP T M4:=⟨m3,bBa⟩
abbrev A4 : List AV:=[(.lit (.string ⟨#[85,114]⟩))]
abbrev R4 : AV:=(.tup [(.sl false [[(Vi 85)],[(Vi 114)]]),(Vi 0)])
theorem m4 : pv PP T 460 65 A4 = some R4:=lY M4 bA9 (by kernel_rfl)
def M5 : Memo:=(460,65,A4,R4) :: M4
theorem bA8 : mF PP T M5:=⟨m4,bA9⟩
abbrev A5 : List AV:=[(.agg [(Vi 1),(Vi 1),(Vi 0),(Vi 0),(Vi 0),(Vi 5),(Vi 0),(.sl false []),(.lit (.string ⟨#[]⟩)),(.sl false [])])]
abbrev R5 : AV:=(.lit (.bool true))
theorem m5 : pv PP T 500 68 A5 = some R5:=lY M5 bA8 (by kernel_rfl)
def M6 : Memo:=(500,68,A5,R5) :: M5
theorem bA7 : mF PP T M6:=⟨m5,bA8⟩
abbrev A6 : List AV:=[(.agg [(Vi 2),(Vi 1),(Vi 2),(.lit (.string ⟨#[85,114]⟩)),(.sl false [[(Vi 1),(Vi 1),(Vi 0),(Vi 0),(Vi 0),(Vi 5),(Vi 0),(.sl false []),(.lit (.string ⟨#[]⟩)),(.sl false [])]])])]
abbrev R6 : AV:=(Vi 0)
theorem m6 : pv PP T 540 22 A6 = some R6:=lY M6 bA7 (by kernel_rfl)
def M7 : Memo:=(540,22,A6,R6) :: M6
theorem bA6 : mF PP T M7:=⟨m6,bA7⟩
abbrev A7 : List AV:=[(.agg [(Vi 2),(.sl false [])]),(Vi 2),(.lit (.string ⟨#[85,114]⟩)),(.sl false [[(Vi 1),(Vi 1),(Vi 0),(Vi 0),(Vi 0),(Vi 5),(Vi 0),(.sl false []),(.lit (.string ⟨#[]⟩)),(.sl false [])]])]
abbrev R7 : AV:=(.tup [(.agg [(Vi 2),(.sl false [[(Vi 2),(Vi 1),(Vi 2),(.lit (.string ⟨#[85,114]⟩)),(.sl false [[(Vi 1),(Vi 1),(Vi 0),(Vi 0),(Vi 0),(Vi 5),(Vi 0),(.sl false []),(.lit (.string ⟨#[]⟩)),(.sl false [])]])]])]),(Vi 0)])
theorem m7 : pv PP T 580 6 A7 = some R7:=lY M7 bA6 (by kernel_rfl)
def M8 : Memo:=(580,6,A7,R7) :: M7
theorem bA5 : mF PP T M8:=⟨m7,bA6⟩
abbrev A8 : List AV:=[(.sl false [[(Vi 1),(Vi 1),(Vi 1),(.lit (.string ⟨#[]⟩)),(.sl false [[(Vi 1),(Vi 1),(Vi 0),(Vi 0),(Vi 0),(Vi 0),(Vi 0),(.sl false []),(.lit (.string ⟨#[]⟩)),(.sl false [])]])]])]
abbrev R8 : AV:=(.agg [(.sl false [[(Vi 1)]])])
theorem m8 : pv PP T 620 16 A8 = some R8:=lY M8 bA5 (by kernel_rfl)
def M9 : Memo:=(620,16,A8,R8) :: M8
theorem bA4 : mF PP T M9:=⟨m8,bA5⟩
abbrev A9 : List AV:=[(.agg [(Vi 1),(.sl false [[(Vi 1),(Vi 1),(Vi 1),(.lit (.string ⟨#[]⟩)),(.sl false [[(Vi 1),(Vi 1),(Vi 0),(Vi 0),(Vi 0),(Vi 0),(Vi 0),(.sl false []),(.lit (.string ⟨#[]⟩)),(.sl false [])]])]])]),(.sl false [[(Vi 2),(Vi 1),(Vi 2),(.lit (.string ⟨#[85,114]⟩)),(.sl false [[(Vi 1),(Vi 1),(Vi 0),(Vi 0),(Vi 0),(Vi 5),(Vi 0),(.sl false []),(.lit (.string ⟨#[]⟩)),(.sl false [])]])]])]
abbrev R9 : AV:=(.tup [(.agg [(Vi 1),(.sl false [[(Vi 1),(Vi 1),(Vi 1),(.lit (.string ⟨#[]⟩)),(.sl false [[(Vi 1),(Vi 1),(Vi 0),(Vi 0),(Vi 0),(Vi 0),(Vi 0),(.sl false []),(.lit (.string ⟨#[]⟩)),(.sl false [])]])],[(Vi 2),(Vi 1),(Vi 2),(.lit (.string ⟨#[85,114]⟩)),(.sl false [[(Vi 1),(Vi 1),(Vi 0),(Vi 0),(Vi 0),(Vi 5),(Vi 0),(.sl false []),(.lit (.string ⟨#[]⟩)),(.sl false [])]])]])]),(Vi 0)])
theorem m9 : pv PP T 660 11 A9 = some R9:=lY M9 bA4 (by kernel_rfl)
def M10 : Memo:=(660,11,A9,R9) :: M9
theorem aTx : mF PP T M10:=⟨m9,bA4⟩
abbrev A10 : List AV:=[(.sl false [[(Vi 2),(Vi 1),(Vi 2),(.lit (.string ⟨#[85,114]⟩)),(.sl false [[(Vi 1),(Vi 1),(Vi 0),(Vi 0),(Vi 0),(Vi 5),(Vi 0),(.sl false []),(.lit (.string ⟨#[]⟩)),(.sl false [])]])]])]
abbrev R10 : AV:=(.agg [(.sl false [[(Vi 0)],[(Vi 1)]])])
theorem m10 : pv PP T 700 16 A10 = some R10:=lY M10 aTx (by kernel_rfl)
def M11 : Memo:=(700,16,A10,R10) :: M10
theorem aTw : mF PP T M11:=⟨m10,aTx⟩
abbrev A11 : List AV:=[(.agg [(Vi 1),(.sl false [[(Vi 1),(Vi 1),(Vi 1),(.lit (.string ⟨#[]⟩)),(.sl false [[(Vi 1),(Vi 1),(Vi 0),(Vi 0),(Vi 0),(Vi 0),(Vi 0),(.sl false []),(.lit (.string ⟨#[]⟩)),(.sl false [])]])]])]),(.agg [(.sl false [[(Vi 0)],[(Vi 1)]])])]
abbrev R11 : AV:=(.sl false [[(Vi 1),(Vi 1),(Vi 1),(.lit (.string ⟨#[]⟩)),(.sl false [[(Vi 1),(Vi 1),(Vi 0),(Vi 0),(Vi 0),(Vi 0),(Vi 0),(.sl false []),(.lit (.string ⟨#[]⟩)),(.sl false [])]])]])
theorem m11 : pv PP T 740 13 A11 = some R11:=lY M11 aTw (by kernel_rfl)
def M12 : Memo:=(740,13,A11,R11) :: M11
theorem aTv : mF PP T M12:=⟨m11,aTw⟩
abbrev A12 : List AV:=[(.agg [(Vi 2),(.sl false [[(Vi 2),(Vi 1),(Vi 2),(.lit (.string ⟨#[85,114]⟩)),(.sl false [[(Vi 1),(Vi 1),(Vi 0),(Vi 0),(Vi 0),(Vi 5),(Vi 0),(.sl false []),(.lit (.string ⟨#[]⟩)),(.sl false [])]])]])]),(.sl false [[(Vi 1),(Vi 1),(Vi 1),(.lit (.string ⟨#[]⟩)),(.sl false [[(Vi 1),(Vi 1),(Vi 0),(Vi 0),(Vi 0),(Vi 0),(Vi 0),(.sl false []),(.lit (.string ⟨#[]⟩)),(.sl false [])]])]])]
abbrev R12 : AV:=(.tup [(.agg [(Vi 2),(.sl false [[(Vi 1),(Vi 1),(Vi 1),(.lit (.string ⟨#[]⟩)),(.sl false [[(Vi 1),(Vi 1),(Vi 0),(Vi 0),(Vi 0),(Vi 0),(Vi 0),(.sl false []),(.lit (.string ⟨#[]⟩)),(.sl false [])]])],[(Vi 2),(Vi 1),(Vi 2),(.lit (.string ⟨#[85,114]⟩)),(.sl false [[(Vi 1),(Vi 1),(Vi 0),(Vi 0),(Vi 0),(Vi 5),(Vi 0),(.sl false []),(.lit (.string ⟨#[]⟩)),(.sl false [])]])]])]),(Vi 0)])
theorem m12 : pv PP T 780 11 A12 = some R12:=lY M12 aTv (by kernel_rfl)
def M13 : Memo:=(780,11,A12,R12) :: M12
theorem aTu : mF PP T M13:=⟨m12,aTv⟩
abbrev A13 : List AV:=[(.agg [(Vi 1),(.sl false [[(Vi 1),(Vi 1),(Vi 1),(.lit (.string ⟨#[]⟩)),(.sl false [[(Vi 1),(Vi 1),(Vi 0),(Vi 0),(Vi 0),(Vi 0),(Vi 0),(.sl false []),(.lit (.string ⟨#[]⟩)),(.sl false [])]])],[(Vi 2),(Vi 1),(Vi 2),(.lit (.string ⟨#[85,114]⟩)),(.sl false [[(Vi 1),(Vi 1),(Vi 0),(Vi 0),(Vi 0),(Vi 5),(Vi 0),(.sl false []),(.lit (.string ⟨#[]⟩)),(.sl false [])]])]])])]
abbrev R13 : AV:=(.lit (.bool true))
theorem m13 : pv PP T 820 21 A13 = some R13:=lY M13 aTu (by kernel_rfl)
def M14 : Memo:=(820,21,A13,R13) :: M13
theorem aTt : mF PP T M14:=⟨m13,aTu⟩
abbrev A14 : List AV:=[(.sl false [[(Vi 1),(Vi 1),(Vi 1),(.lit (.string ⟨#[]⟩)),(.sl false [[(Vi 1),(Vi 1),(Vi 0),(Vi 0),(Vi 0),(Vi 0),(Vi 0),(.sl false []),(.lit (.string ⟨#[]⟩)),(.sl false [])]])],[(Vi 2),(Vi 1),(Vi 2),(.lit (.string ⟨#[85,114]⟩)),(.sl false [[(Vi 1),(Vi 1),(Vi 0),(Vi 0),(Vi 0),(Vi 5),(Vi 0),(.sl false []),(.lit (.string ⟨#[]⟩)),(.sl false [])]])]])]
abbrev R14 : AV:=(.agg [(.sl false [[(Vi 1)],[(Vi 1)]])])
theorem m14 : pv PP T 860 16 A14 = some R14:=lY M14 aTt (by kernel_rfl)
def M15 : Memo:=(860,16,A14,R14) :: M14
theorem aTs : mF PP T M15:=⟨m14,aTt⟩
abbrev A15 : List AV:=[(.agg [(.sl false []),(.sl false []),(.sl false [])])]
abbrev R15 : AV:=(Vi 0)
theorem m15 : pv PP T 900 132 A15 = some R15:=lY M15 aTs (by kernel_rfl)
def M16 : Memo:=(900,132,A15,R15) :: M15
theorem aTr : mF PP T M16:=⟨m15,aTs⟩
abbrev A16 : List AV:=[(.agg [(.sl false []),(.sl false []),(.sl false [])])]
abbrev R16 : AV:=(Vi 0)
theorem m16 : pv PP T 940 104 A16 = some R16:=lY M16 aTr (by kernel_rfl)
def M17 : Memo:=(940,104,A16,R16) :: M16
theorem aTq : mF PP T M17:=⟨m16,aTr⟩
abbrev A17 : List AV:=[(.agg [(.sl false []),(.sl false []),(.sl false []),(.sl false [])])]
abbrev R17 : AV:=(Vi 0)
theorem m17 : pv PP T 980 82 A17 = some R17:=lY M17 aTq (by kernel_rfl)
def M18 : Memo:=(980,82,A17,R17) :: M17
theorem aTp : mF PP T M18:=⟨m17,aTq⟩
abbrev A18 : List AV:=[(.agg [(.sl false [[(Vi 1),(Vi 0),(Vi 0)]]),(.sl false []),(.sl false [])])]
abbrev R18 : AV:=(Vi 0)
theorem m18 : pv PP T 1020 132 A18 = some R18:=lY M18 aTp (by kernel_rfl)
def M19 : Memo:=(1020,132,A18,R18) :: M18
theorem aTo : mF PP T M19:=⟨m18,aTp⟩
abbrev A19 : List AV:=[(.agg [(.sl false [[(Vi 1),(Vi 0),(Vi 0)]]),(.sl false []),(.sl false [])])]
abbrev R19 : AV:=(.tup [(.sl false []),(Vi 0)])
theorem m19 : pv PP T 1060 126 A19 = some R19:=lY M19 aTo (by kernel_rfl)
def M20 : Memo:=(1060,126,A19,R19) :: M19
theorem aTn : mF PP T M20:=⟨m19,aTo⟩
abbrev A20 : List AV:=[(.agg [(.sl false [[(Vi 1),(Vi 0),(Vi 0)]]),(.sl false []),(.sl false [])])]
abbrev R20 : AV:=(Vi 0)
theorem m20 : pv PP T 1100 104 A20 = some R20:=lY M20 aTn (by kernel_rfl)
def M21 : Memo:=(1100,104,A20,R20) :: M20
theorem aTm : mF PP T M21:=⟨m20,aTn⟩
abbrev A21 : List AV:=[(.agg [(.sl false [[(Vi 1),(Vi 0),(Vi 0)]]),(.sl false []),(.sl false []),(.sl false [])])]
abbrev R21 : AV:=(Vi 0)
theorem m21 : pv PP T 1140 82 A21 = some R21:=lY M21 aTm (by kernel_rfl)
def M22 : Memo:=(1140,82,A21,R21) :: M21
theorem aTl : mF PP T M22:=⟨m21,aTm⟩
abbrev A22 : List AV:=[(.agg [(.sl false []),(.sl false []),(.sl false []),(.sl false [])]),(.sl false [[(Vi 1),(Vi 1),(Vi 0),(Vi 0),(Vi 0),(Vi 0),(Vi 0),(.sl false []),(.lit (.string ⟨#[]⟩)),(.sl false [])]])]
abbrev R22 : AV:=(.tup [(.agg [(.sl false [[(Vi 1),(Vi 0),(Vi 0)]]),(.sl false []),(.sl false []),(.sl false [])]),(Vi 1),(Vi 0)])
theorem m22 : pv PP T 1180 57 A22 = some R22:=lY M22 aTl (by kernel_rfl)
def M23 : Memo:=(1180,57,A22,R22) :: M22
theorem aTk : mF PP T M23:=⟨m22,aTl⟩
abbrev A23 : List AV:=[(.agg [(.sl false [[(Vi 1),(Vi 0),(Vi 0)]]),(.sl false []),(.sl false []),(.sl false [])]),(Vi 1)]
abbrev R23 : AV:=(.tup [(Vi 0),(.lit (.bool true))])
theorem m23 : pv PP T 1220 124 A23 = some R23:=lY M23 aTk (by kernel_rfl)
def M24 : Memo:=(1220,124,A23,R23) :: M23
theorem aTj : mF PP T M24:=⟨m23,aTk⟩
abbrev A24 : List AV:=[(.agg [(.sl false [[(Vi 1),(Vi 0),(Vi 0)]]),(.sl false []),(.sl false []),(.sl false [])]),(.sl false [[(Vi 1),(Vi 1),(Vi 0),(Vi 0),(Vi 0),(Vi 5),(Vi 0),(.sl false []),(.lit (.string ⟨#[]⟩)),(.sl false [])]])]
abbrev R24 : AV:=(.tup [(.agg [(.sl false []),(.sl false []),(.sl false []),(.sl false [])]),(Vi 0),(Vi 8)])
theorem m24 : pv PP T 1260 57 A24 = some R24:=lY M24 aTj (by kernel_rfl)
def M25 : Memo:=(1260,57,A24,R24) :: M24
theorem aTi : mF PP T M25:=⟨m24,aTj⟩
abbrev A25 : List AV:=[(.agg [(Vi 1),(.sl false [[(Vi 1),(Vi 1),(Vi 1),(.lit (.string ⟨#[]⟩)),(.sl false [[(Vi 1),(Vi 1),(Vi 0),(Vi 0),(Vi 0),(Vi 0),(Vi 0),(.sl false []),(.lit (.string ⟨#[]⟩)),(.sl false [])]])],[(Vi 2),(Vi 1),(Vi 2),(.lit (.string ⟨#[85,114]⟩)),(.sl false [[(Vi 1),(Vi 1),(Vi 0),(Vi 0),(Vi 0),(Vi 5),(Vi 0),(.sl false []),(.lit (.string ⟨#[]⟩)),(.sl false [])]])]])])]
abbrev R25 : AV:=(.tup [(.agg [(.sl false [[(Vi 1),(Vi 0),(Vi 0)]]),(.sl false []),(.sl false []),(.sl false []),(.sl false [[(Vi 1),(Vi 1),(Vi 1),(.lit (.string ⟨#[]⟩)),(.sl false [[(Vi 1),(Vi 1),(Vi 0),(Vi 0),(Vi 0),(Vi 0),(Vi 0),(.sl false []),(.lit (.string ⟨#[]⟩)),(.sl false [])]])]])]),(.sl false [[(Vi 2),(Vi 1),(Vi 2),(.lit (.string ⟨#[85,114]⟩)),(.sl false [[(Vi 1),(Vi 1),(Vi 0),(Vi 0),(Vi 0),(Vi 5),(Vi 0),(.sl false []),(.lit (.string ⟨#[]⟩)),(.sl false [])]])]]),(Vi 0)])
theorem m25 : pv PP T 1300 19 A25 = some R25:=lY M25 aTi (by kernel_rfl)
def M26 : Memo:=(1300,19,A25,R25) :: M25
theorem aTh : mF PP T M26:=⟨m25,aTi⟩
abbrev A26 : List AV:=[(.agg [(Vi 2),(.sl false [[(Vi 1),(Vi 1),(Vi 1),(.lit (.string ⟨#[]⟩)),(.sl false [[(Vi 1),(Vi 1),(Vi 0),(Vi 0),(Vi 0),(Vi 0),(Vi 0),(.sl false []),(.lit (.string ⟨#[]⟩)),(.sl false [])]])],[(Vi 2),(Vi 1),(Vi 2),(.lit (.string ⟨#[85,114]⟩)),(.sl false [[(Vi 1),(Vi 1),(Vi 0),(Vi 0),(Vi 0),(Vi 5),(Vi 0),(.sl false []),(.lit (.string ⟨#[]⟩)),(.sl false [])]])]])])]
abbrev R26 : AV:=(.lit (.bool true))
theorem m26 : pv PP T 1340 21 A26 = some R26:=lY M26 aTh (by kernel_rfl)
def M27 : Memo:=(1340,21,A26,R26) :: M26
theorem aTg : mF PP T M27:=⟨m26,aTh⟩
abbrev A27 : List AV:=[(.agg [(Vi 2),(.sl false [[(Vi 1),(Vi 1),(Vi 1),(.lit (.string ⟨#[]⟩)),(.sl false [[(Vi 1),(Vi 1),(Vi 0),(Vi 0),(Vi 0),(Vi 0),(Vi 0),(.sl false []),(.lit (.string ⟨#[]⟩)),(.sl false [])]])],[(Vi 2),(Vi 1),(Vi 2),(.lit (.string ⟨#[85,114]⟩)),(.sl false [[(Vi 1),(Vi 1),(Vi 0),(Vi 0),(Vi 0),(Vi 5),(Vi 0),(.sl false []),(.lit (.string ⟨#[]⟩)),(.sl false [])]])]])])]
abbrev R27 : AV:=(.tup [(.agg [(.sl false [[(Vi 1),(Vi 0),(Vi 0)]]),(.sl false []),(.sl false []),(.sl false []),(.sl false [[(Vi 1),(Vi 1),(Vi 1),(.lit (.string ⟨#[]⟩)),(.sl false [[(Vi 1),(Vi 1),(Vi 0),(Vi 0),(Vi 0),(Vi 0),(Vi 0),(.sl false []),(.lit (.string ⟨#[]⟩)),(.sl false [])]])]])]),(.sl false [[(Vi 2),(Vi 1),(Vi 2),(.lit (.string ⟨#[85,114]⟩)),(.sl false [[(Vi 1),(Vi 1),(Vi 0),(Vi 0),(Vi 0),(Vi 5),(Vi 0),(.sl false []),(.lit (.string ⟨#[]⟩)),(.sl false [])]])]]),(Vi 0)])
theorem m27 : pv PP T 1380 19 A27 = some R27:=lY M27 aTg (by kernel_rfl)
def M28 : Memo:=(1380,19,A27,R27) :: M27
theorem aTf : mF PP T M28:=⟨m27,aTg⟩
abbrev A28 : List AV:=[(.agg [(Vi 1),(Vi 1),(Vi 1),(.lit (.string ⟨#[]⟩)),(.sl false [[(Vi 1),(Vi 1),(Vi 0),(Vi 0),(Vi 0),(Vi 0),(Vi 0),(.sl false []),(.lit (.string ⟨#[]⟩)),(.sl false [])]])]),(.agg [(Vi 1),(Vi 1),(Vi 1),(.lit (.string ⟨#[]⟩)),(.sl false [[(Vi 1),(Vi 1),(Vi 0),(Vi 0),(Vi 0),(Vi 0),(Vi 0),(.sl false []),(.lit (.string ⟨#[]⟩)),(.sl false [])]])])]
abbrev R28 : AV:=(.lit (.bool true))
theorem m28 : pv PP T 1420 17 A28 = some R28:=lY M28 aTf (by kernel_rfl)
def M29 : Memo:=(1420,17,A28,R28) :: M28
theorem aTe : mF PP T M29:=⟨m28,aTf⟩
abbrev A29 : List AV:=[(.agg [(Vi 2),(Vi 1),(Vi 2),(.lit (.string ⟨#[85,114]⟩)),(.sl false [[(Vi 1),(Vi 1),(Vi 0),(Vi 0),(Vi 0),(Vi 5),(Vi 0),(.sl false []),(.lit (.string ⟨#[]⟩)),(.sl false [])]])]),(.agg [(Vi 2),(Vi 1),(Vi 2),(.lit (.string ⟨#[85,114]⟩)),(.sl false [[(Vi 1),(Vi 1),(Vi 0),(Vi 0),(Vi 0),(Vi 5),(Vi 0),(.sl false []),(.lit (.string ⟨#[]⟩)),(.sl false [])]])])]
abbrev R29 : AV:=(.lit (.bool true))
theorem m29 : pv PP T 1460 17 A29 = some R29:=lY M29 aTe (by kernel_rfl)
def M30 : Memo:=(1460,17,A29,R29) :: M29
theorem aTd : mF PP T M30:=⟨m29,aTe⟩
abbrev A30 : List AV:=[(.agg [(.sl false [[(Vi 1),(Vi 0),(Vi 0)]]),(.sl false []),(.sl false []),(.sl false []),(.sl false [[(Vi 1),(Vi 1),(Vi 1),(.lit (.string ⟨#[]⟩)),(.sl false [[(Vi 1),(Vi 1),(Vi 0),(Vi 0),(Vi 0),(Vi 0),(Vi 0),(.sl false []),(.lit (.string ⟨#[]⟩)),(.sl false [])]])]])]),(.agg [(.sl false [[(Vi 1),(Vi 0),(Vi 0)]]),(.sl false []),(.sl false []),(.sl false []),(.sl false [[(Vi 1),(Vi 1),(Vi 1),(.lit (.string ⟨#[]⟩)),(.sl false [[(Vi 1),(Vi 1),(Vi 0),(Vi 0),(Vi 0),(Vi 0),(Vi 0),(.sl false []),(.lit (.string ⟨#[]⟩)),(.sl false [])]])]])])]
abbrev R30 : AV:=(.lit (.bool true))
theorem m30 : pv PP T 1500 20 A30 = some R30:=lY M30 aTd (by kernel_rfl)
def M31 : Memo:=(1500,20,A30,R30) :: M30
theorem bBb : mF PP T M31:=⟨m30,aTd⟩
theorem aPw : pv PP T 10000 5 [] = some (.lit (.bool true)):=lY M31 bBb (by kernel_rfl)
end Go.Proofs.YtkdnaejhpcibnaaGreatDoor.Av
