/- A part of the proof of a law of the chapter warp: an evaluator of the program, proved sound, and what it says. -/
import Derived.Test.YtapabkfjeiknbaaGreatWeTab
import Derived.Test.YtapabkfjeiknbaaGreatWeTl2
set_option linter.unusedVariables false
set_option linter.unusedSimpArgs false
namespace Go.Proofs.YtapabkfjeiknbaaGreat.Av
open Go
def M0 : Memo:=[]
theorem bGr : iA PP T M0:=trivial
abbrev A0 : List AV:=[(.agg [(.vw [[(Vi 1),(Vi 0),(Vi 0)],[(Vi 2),(Vi 1800),(Vi 1800)]]),(.vw [[(Vi 1),(Vi 1),(Vi 1),(.sl false [[(Vi 3600),(Vi 0)],[(Vi 3600),(Vi 3600)],[(Vi 0),(Vi 3600)]]),(Vi 1),(Vi 0)]]),(.vw [[(Vi 1)]])]),(Vi 1)]
abbrev R0 : AV:=(.tup [(.sl false [[(Vi 0),(Vi 0)],[(Vi 3600),(Vi 0)],[(Vi 3600),(Vi 3600)],[(Vi 0),(Vi 3600)],[(Vi 0),(Vi 0)]]),(Vi 0)])
theorem m0 : pv PP T 300 37 A0=some R0:=gI M0 bGr (by kernel_rfl)
def M1 : Memo:=(300,37,A0,R0) :: M0
theorem bGq : iA PP T M1:=⟨m0,bGr⟩
abbrev A1 : List AV:=[(.agg [(Vi 0),(Vi 0)]),(.agg [(Vi 3600),(Vi 0)]),(.agg [(Vi 3600),(Vi 3600)]),(.agg [(Vi 0),(Vi 3600)])]
abbrev R1 : AV:=(Vi 0)
theorem m1 : pv PP T 340 89 A1=some R1:=gI M1 bGq (by kernel_rfl)
def M2 : Memo:=(340,89,A1,R1) :: M1
theorem bGp : iA PP T M2:=⟨m1,bGq⟩
abbrev A2 : List AV:=[(.agg [(Vi 0),(Vi 0)]),(.agg [(Vi 3600),(Vi 0)]),(.agg [(Vi 0),(Vi 3600)]),(.agg [(Vi 0),(Vi 0)])]
abbrev R2 : AV:=(Vi 1)
theorem m2 : pv PP T 380 89 A2=some R2:=gI M2 bGp (by kernel_rfl)
def M3 : Memo:=(380,89,A2,R2) :: M2
theorem bGo : iA PP T M3:=⟨m2,bGp⟩
abbrev A3 : List AV:=[(.agg [(Vi 0),(Vi 0)]),(.agg [(Vi 3600),(Vi 0)]),(.agg [(Vi 3600),(Vi 0)]),(.agg [(Vi 3600),(Vi 3600)])]
abbrev R3 : AV:=(Vi 1)
theorem m3 : pv PP T 420 89 A3=some R3:=gI M3 bGo (by kernel_rfl)
def M4 : Memo:=(420,89,A3,R3) :: M3
theorem bGm : iA PP T M4:=⟨m3,bGo⟩
abbrev A4 : List AV:=[(.agg [(Vi 3600),(Vi 3600)]),(.agg [(Vi 0),(Vi 3600)]),(.agg [(Vi 0),(Vi 3600)]),(.agg [(Vi 0),(Vi 0)])]
abbrev R4 : AV:=(Vi 1)
theorem m4 : pv PP T 460 89 A4=some R4:=gI M4 bGm (by kernel_rfl)
def M5 : Memo:=(460,89,A4,R4) :: M4
theorem bGl : iA PP T M5:=⟨m4,bGm⟩
abbrev A5 : List AV:=[(.agg [(Vi 3600),(Vi 3600)]),(.agg [(Vi 0),(Vi 3600)]),(.agg [(Vi 3600),(Vi 0)]),(.agg [(Vi 3600),(Vi 3600)])]
abbrev R5 : AV:=(Vi 1)
theorem m5 : pv PP T 500 89 A5=some R5:=gI M5 bGl (by kernel_rfl)
def M6 : Memo:=(500,89,A5,R5) :: M5
theorem bGk : iA PP T M6:=⟨m5,bGl⟩
abbrev A6 : List AV:=[(.agg [(.vw [[(Vi 1),(Vi 0),(Vi 0)],[(Vi 2),(Vi 1800),(Vi 1800)]]),(.vw [[(Vi 1),(Vi 1),(Vi 1),(.sl false [[(Vi 3600),(Vi 0)],[(Vi 3600),(Vi 3600)],[(Vi 0),(Vi 3600)]]),(Vi 1),(Vi 0)]]),(.vw [[(Vi 1)]])])]
abbrev R6 : AV:=(.lit (.bool true))
theorem m6 : pv PP T 540 51 A6=some R6:=gI M6 bGk (by kernel_rfl)
def M7 : Memo:=(540,51,A6,R6) :: M6
theorem bGj : iA PP T M7:=⟨m6,bGk⟩
end Go.Proofs.YtapabkfjeiknbaaGreat.Av
namespace Go.Proofs.YtapabkfjeiknbaaGreat.Av
open Go
abbrev A7 : List AV:=[(.agg [(.vw [[(Vi 1),(Vi 0),(Vi 0)],[(Vi 2),(Vi 1800),(Vi 1800)]]),(.vw [[(Vi 1),(Vi 1),(Vi 1),(.sl false [[(Vi 3600),(Vi 0)],[(Vi 3600),(Vi 3600)],[(Vi 0),(Vi 3600)]]),(Vi 1),(Vi 0)]]),(.vw [[(Vi 1)]])])]
abbrev R7 : AV:=(Vi 0)
theorem m7 : pv PP T 580 32 A7=some R7:=gI M7 bGj (by kernel_rfl)
def M8 : Memo:=(580,32,A7,R7) :: M7
theorem bGi : iA PP T M8:=⟨m7,bGj⟩
abbrev A8 : List AV:=[(.agg [(.vw [[(Vi 1),(Vi 0),(Vi 0)],[(Vi 2),(Vi 1800),(Vi 1800)]]),(.vw [[(Vi 1),(Vi 1),(Vi 1),(.sl false [[(Vi 3600),(Vi 0)],[(Vi 3600),(Vi 3600)],[(Vi 0),(Vi 3600)]]),(Vi 1),(Vi 0)]]),(.vw [[(Vi 1)]])]),(Vi 1)]
abbrev R8 : AV:=(.sl false [[(Vi 1)],[(Vi (-1))]])
theorem m8 : pv PP T 620 33 A8=some R8:=gI M8 bGi (by kernel_rfl)
def M9 : Memo:=(620,33,A8,R8) :: M8
theorem bGh : iA PP T M9:=⟨m8,bGi⟩
abbrev A9 : List AV:=[(.agg [(.vw [[(Vi 1),(Vi 0),(Vi 0)],[(Vi 2),(Vi 1800),(Vi 1800)]]),(.vw [[(Vi 1),(Vi 1),(Vi 1),(.sl false [[(Vi 3600),(Vi 0)],[(Vi 3600),(Vi 3600)],[(Vi 0),(Vi 3600)]]),(Vi 1),(Vi 0)]]),(.vw [[(Vi 1)]])])]
abbrev R9 : AV:=(.tup [(.sl false [[(.sl false [[(Vi (-1))]])],[(.sl false [[(Vi 1)]])]]),(Vi 0)])
theorem m9 : pv PP T 660 25 A9=some R9:=gI M9 bGh (by kernel_rfl)
def M10 : Memo:=(660,25,A9,R9) :: M9
theorem bDb : iA PP T M10:=⟨m9,bGh⟩
abbrev A10 : List AV:=[(.agg [(.vw [[(Vi 1),(Vi 0),(Vi 0)],[(Vi 2),(Vi 1800),(Vi 1800)]]),(.vw [[(Vi 1),(Vi 1),(Vi 1),(.sl false [[(Vi 3600),(Vi 0)],[(Vi 3600),(Vi 3600)],[(Vi 0),(Vi 3600)]]),(Vi 1),(Vi 0)]]),(.vw [[(Vi 1)]])]),(.vw [[(Vi (-1))]])]
abbrev R10 : AV:=(Vi (-25920000))
theorem m10 : pv PP T 700 38 A10=some R10:=gI M10 bDb (by kernel_rfl)
def M11 : Memo:=(700,38,A10,R10) :: M10
theorem bDa : iA PP T M11:=⟨m10,bDb⟩
abbrev A11 : List AV:=[(.agg [(.vw [[(Vi 1),(Vi 0),(Vi 0)],[(Vi 2),(Vi 1800),(Vi 1800)]]),(.vw [[(Vi 1),(Vi 1),(Vi 1),(.sl false [[(Vi 3600),(Vi 0)],[(Vi 3600),(Vi 3600)],[(Vi 0),(Vi 3600)]]),(Vi 1),(Vi 0)]]),(.vw [[(Vi 1)]])]),(.vw [[(Vi 1)]])]
abbrev R11 : AV:=(Vi 25920000)
theorem m11 : pv PP T 740 38 A11=some R11:=gI M11 bDa (by kernel_rfl)
def M12 : Memo:=(740,38,A11,R11) :: M11
theorem bC9 : iA PP T M12:=⟨m11,bDa⟩
abbrev A12 : List AV:=[(.rmp [((.int .i64 1),(.sl false [[(Vi 0),(Vi 0)],[(Vi 3600),(Vi 0)],[(Vi 3600),(Vi 3600)],[(Vi 0),(Vi 3600)],[(Vi 0),(Vi 0)]]))]),(.vw [[(Vi 1)]]),(.agg [(Vi 0),(Vi 0)])]
abbrev R12 : AV:=(.lit (.bool false))
theorem m12 : pv PP T 780 60 A12=some R12:=gI M12 bC9 (by kernel_rfl)
def M13 : Memo:=(780,60,A12,R12) :: M12
theorem bC8 : iA PP T M13:=⟨m12,bC9⟩
abbrev A13 : List AV:=[(.rmp [((.int .i64 1),(.sl false [[(Vi 0),(Vi 0)],[(Vi 3600),(Vi 0)],[(Vi 3600),(Vi 3600)],[(Vi 0),(Vi 3600)],[(Vi 0),(Vi 0)]]))]),(.vw [[(Vi 1)]]),(.agg [(Vi 1800),(Vi 1800)])]
abbrev R13 : AV:=(.lit (.bool true))
theorem m13 : pv PP T 820 60 A13=some R13:=gI M13 bC8 (by kernel_rfl)
def M14 : Memo:=(820,60,A13,R13) :: M13
theorem bC7 : iA PP T M14:=⟨m13,bC8⟩
abbrev A14 : List AV:=[(.agg [(.vw [[(Vi 1),(Vi 0),(Vi 0)],[(Vi 2),(Vi 1800),(Vi 1800)]]),(.vw [[(Vi 1),(Vi 1),(Vi 1),(.sl false [[(Vi 3600),(Vi 0)],[(Vi 3600),(Vi 3600)],[(Vi 0),(Vi 3600)]]),(Vi 1),(Vi 0)]]),(.vw [[(Vi 1)]])]),(.vw [[(.sl false [[(Vi (-1))]])],[(.sl false [[(Vi 1)]])]]),(.rmp [((.int .i64 1),(.sl false [[(Vi 0),(Vi 0)],[(Vi 3600),(Vi 0)],[(Vi 3600),(Vi 3600)],[(Vi 0),(Vi 3600)],[(Vi 0),(Vi 0)]]))])]
abbrev R14 : AV:=(.sl false [[(Vi 0),(.sl false []),(.sl false [[(.sl false [[(Vi (-1))]])]]),(.sl false [])],[(Vi 25920000),(.sl false [[(Vi 1)]]),(.sl false []),(.sl false [[(Vi 2)]])]])
theorem m14 : pv PP T 860 27 A14=some R14:=gI M14 bC7 (by kernel_rfl)
def M15 : Memo:=(860,27,A14,R14) :: M14
theorem bC6 : iA PP T M15:=⟨m14,bC7⟩
abbrev A15 : List AV:=[(.agg [(.vw [[(Vi 1),(Vi 0),(Vi 0)],[(Vi 2),(Vi 1800),(Vi 1800)]]),(.vw [[(Vi 1),(Vi 1),(Vi 1),(.sl false [[(Vi 3600),(Vi 0)],[(Vi 3600),(Vi 3600)],[(Vi 0),(Vi 3600)]]),(Vi 1),(Vi 0)]]),(.vw [[(Vi 1)]])]),(.vw [[(Vi 0),(.sl false []),(.sl false [[(.sl false [[(Vi (-1))]])]]),(.sl false [])],[(Vi 25920000),(.sl false [[(Vi 1)]]),(.sl false []),(.sl false [[(Vi 2)]])]])]
abbrev R15 : AV:=(.tup [(.sl false [[(Vi 0)],[(Vi 1)]]),(.lit (.bool true))])
theorem m15 : pv PP T 900 28 A15=some R15:=gI M15 bC6 (by kernel_rfl)
def M16 : Memo:=(900,28,A15,R15) :: M15
theorem bC5 : iA PP T M16:=⟨m15,bC6⟩
abbrev A16 : List AV:=[(.agg [(Vi 1),(Vi 0),(Vi 0),(Vi 262144)]),(.agg [(Vi 0),(Vi 0)])]
abbrev R16 : AV:=(.tup [(.agg [(Vi 0),(Vi 0)]),(Vi 0)])
theorem m16 : pv PP T 940 30 A16=some R16:=gI M16 bC5 (by kernel_rfl)
def M17 : Memo:=(940,30,A16,R16) :: M16
theorem bC4 : iA PP T M17:=⟨m16,bC5⟩
abbrev A17 : List AV:=[(.agg [(Vi 1),(Vi 0),(Vi 0),(Vi 262144)]),(.agg [(Vi 1800),(Vi 1800)])]
abbrev R17 : AV:=(.tup [(.agg [(Vi 2288),(Vi 2288)]),(Vi 0)])
theorem m17 : pv PP T 980 30 A17=some R17:=gI M17 bC4 (by kernel_rfl)
def M18 : Memo:=(980,30,A17,R17) :: M17
theorem bC3 : iA PP T M18:=⟨m17,bC4⟩
abbrev A18 : List AV:=[(.agg [(Vi 1),(Vi 0),(Vi 0),(Vi 262144)]),(.agg [(Vi 3600),(Vi 0)])]
abbrev R18 : AV:=(.tup [(.agg [(Vi 4575),(Vi 0)]),(Vi 0)])
theorem m18 : pv PP T 1020 30 A18=some R18:=gI M18 bC3 (by kernel_rfl)
def M19 : Memo:=(1020,30,A18,R18) :: M18
theorem bC2 : iA PP T M19:=⟨m18,bC3⟩
abbrev A19 : List AV:=[(.agg [(Vi 1),(Vi 0),(Vi 0),(Vi 262144)]),(.agg [(Vi 3600),(Vi 3600)])]
abbrev R19 : AV:=(.tup [(.agg [(Vi 4575),(Vi 4575)]),(Vi 0)])
theorem m19 : pv PP T 1060 30 A19=some R19:=gI M19 bC2 (by kernel_rfl)
def M20 : Memo:=(1060,30,A19,R19) :: M19
theorem bC1 : iA PP T M20:=⟨m19,bC2⟩
abbrev A20 : List AV:=[(.agg [(Vi 1),(Vi 0),(Vi 0),(Vi 262144)]),(.agg [(Vi 0),(Vi 3600)])]
abbrev R20 : AV:=(.tup [(.agg [(Vi 0),(Vi 4575)]),(Vi 0)])
theorem m20 : pv PP T 1100 30 A20=some R20:=gI M20 bC1 (by kernel_rfl)
def M21 : Memo:=(1100,30,A20,R20) :: M20
theorem bC0 : iA PP T M21:=⟨m20,bC1⟩
abbrev A21 : List AV:=[(.agg [(.vw [[(Vi 1),(Vi 0),(Vi 0)],[(Vi 2),(Vi 2288),(Vi 2288)]]),(.vw [[(Vi 1),(Vi 1),(Vi 1),(.sl false [[(Vi 4575),(Vi 0)],[(Vi 4575),(Vi 4575)],[(Vi 0),(Vi 4575)]]),(Vi 1),(Vi 0)]]),(.vw [[(Vi 1)]])]),(Vi 1)]
abbrev R21 : AV:=(.tup [(.sl false [[(Vi 0),(Vi 0)],[(Vi 4575),(Vi 0)],[(Vi 4575),(Vi 4575)],[(Vi 0),(Vi 4575)],[(Vi 0),(Vi 0)]]),(Vi 0)])
theorem m21 : pv PP T 1140 37 A21=some R21:=gI M21 bC0 (by kernel_rfl)
def M22 : Memo:=(1140,37,A21,R21) :: M21
theorem bCz : iA PP T M22:=⟨m21,bC0⟩
abbrev A22 : List AV:=[(.agg [(Vi 0),(Vi 0)]),(.agg [(Vi 4575),(Vi 0)]),(.agg [(Vi 4575),(Vi 4575)]),(.agg [(Vi 0),(Vi 4575)])]
abbrev R22 : AV:=(Vi 0)
theorem m22 : pv PP T 1180 89 A22=some R22:=gI M22 bCz (by kernel_rfl)
def M23 : Memo:=(1180,89,A22,R22) :: M22
theorem bCy : iA PP T M23:=⟨m22,bCz⟩
end Go.Proofs.YtapabkfjeiknbaaGreat.Av
namespace Go.Proofs.YtapabkfjeiknbaaGreat.Av
open Go
abbrev A23 : List AV:=[(.agg [(Vi 0),(Vi 0)]),(.agg [(Vi 4575),(Vi 0)]),(.agg [(Vi 0),(Vi 4575)]),(.agg [(Vi 0),(Vi 0)])]
abbrev R23 : AV:=(Vi 1)
theorem m23 : pv PP T 1220 89 A23=some R23:=gI M23 bCy (by kernel_rfl)
def M24 : Memo:=(1220,89,A23,R23) :: M23
theorem bCx : iA PP T M24:=⟨m23,bCy⟩
abbrev A24 : List AV:=[(.agg [(Vi 0),(Vi 0)]),(.agg [(Vi 4575),(Vi 0)]),(.agg [(Vi 4575),(Vi 0)]),(.agg [(Vi 4575),(Vi 4575)])]
abbrev R24 : AV:=(Vi 1)
theorem m24 : pv PP T 1260 89 A24=some R24:=gI M24 bCx (by kernel_rfl)
def M25 : Memo:=(1260,89,A24,R24) :: M24
theorem bCw : iA PP T M25:=⟨m24,bCx⟩
abbrev A25 : List AV:=[(.agg [(Vi 4575),(Vi 4575)]),(.agg [(Vi 0),(Vi 4575)]),(.agg [(Vi 0),(Vi 4575)]),(.agg [(Vi 0),(Vi 0)])]
abbrev R25 : AV:=(Vi 1)
theorem m25 : pv PP T 1300 89 A25=some R25:=gI M25 bCw (by kernel_rfl)
def M26 : Memo:=(1300,89,A25,R25) :: M25
theorem bCv : iA PP T M26:=⟨m25,bCw⟩
abbrev A26 : List AV:=[(.agg [(Vi 4575),(Vi 4575)]),(.agg [(Vi 0),(Vi 4575)]),(.agg [(Vi 4575),(Vi 0)]),(.agg [(Vi 4575),(Vi 4575)])]
abbrev R26 : AV:=(Vi 1)
theorem m26 : pv PP T 1340 89 A26=some R26:=gI M26 bCv (by kernel_rfl)
def M27 : Memo:=(1340,89,A26,R26) :: M26
theorem bCu : iA PP T M27:=⟨m26,bCv⟩
abbrev A27 : List AV:=[(.agg [(.vw [[(Vi 1),(Vi 0),(Vi 0)],[(Vi 2),(Vi 2288),(Vi 2288)]]),(.vw [[(Vi 1),(Vi 1),(Vi 1),(.sl false [[(Vi 4575),(Vi 0)],[(Vi 4575),(Vi 4575)],[(Vi 0),(Vi 4575)]]),(Vi 1),(Vi 0)]]),(.vw [[(Vi 1)]])])]
abbrev R27 : AV:=(.lit (.bool true))
theorem m27 : pv PP T 1380 51 A27=some R27:=gI M27 bCu (by kernel_rfl)
def M28 : Memo:=(1380,51,A27,R27) :: M27
theorem bCt : iA PP T M28:=⟨m27,bCu⟩
abbrev A28 : List AV:=[(.agg [(.vw [[(Vi 1),(Vi 0),(Vi 0)],[(Vi 2),(Vi 2288),(Vi 2288)]]),(.vw [[(Vi 1),(Vi 1),(Vi 1),(.sl false [[(Vi 4575),(Vi 0)],[(Vi 4575),(Vi 4575)],[(Vi 0),(Vi 4575)]]),(Vi 1),(Vi 0)]]),(.vw [[(Vi 1)]])])]
abbrev R28 : AV:=(Vi 0)
theorem m28 : pv PP T 1420 32 A28=some R28:=gI M28 bCt (by kernel_rfl)
def M29 : Memo:=(1420,32,A28,R28) :: M28
theorem bCs : iA PP T M29:=⟨m28,bCt⟩
abbrev A29 : List AV:=[(.agg [(.vw [[(Vi 1),(Vi 0),(Vi 0)],[(Vi 2),(Vi 2288),(Vi 2288)]]),(.vw [[(Vi 1),(Vi 1),(Vi 1),(.sl false [[(Vi 4575),(Vi 0)],[(Vi 4575),(Vi 4575)],[(Vi 0),(Vi 4575)]]),(Vi 1),(Vi 0)]]),(.vw [[(Vi 1)]])]),(Vi 1)]
abbrev R29 : AV:=(.sl false [[(Vi 1)],[(Vi (-1))]])
theorem m29 : pv PP T 1460 33 A29=some R29:=gI M29 bCs (by kernel_rfl)
def M30 : Memo:=(1460,33,A29,R29) :: M29
theorem bCr : iA PP T M30:=⟨m29,bCs⟩
end Go.Proofs.YtapabkfjeiknbaaGreat.Av
namespace Go.Proofs.YtapabkfjeiknbaaGreat.Av
open Go
abbrev A30 : List AV:=[(.agg [(.vw [[(Vi 1),(Vi 0),(Vi 0)],[(Vi 2),(Vi 2288),(Vi 2288)]]),(.vw [[(Vi 1),(Vi 1),(Vi 1),(.sl false [[(Vi 4575),(Vi 0)],[(Vi 4575),(Vi 4575)],[(Vi 0),(Vi 4575)]]),(Vi 1),(Vi 0)]]),(.vw [[(Vi 1)]])])]
abbrev R30 : AV:=(.tup [(.sl false [[(.sl false [[(Vi (-1))]])],[(.sl false [[(Vi 1)]])]]),(Vi 0)])
theorem m30 : pv PP T 1500 25 A30=some R30:=gI M30 bCr (by kernel_rfl)
def M31 : Memo:=(1500,25,A30,R30) :: M30
theorem bCq : iA PP T M31:=⟨m30,bCr⟩
abbrev A31 : List AV:=[(.agg [(.vw [[(Vi 1),(Vi 0),(Vi 0)],[(Vi 2),(Vi 2288),(Vi 2288)]]),(.vw [[(Vi 1),(Vi 1),(Vi 1),(.sl false [[(Vi 4575),(Vi 0)],[(Vi 4575),(Vi 4575)],[(Vi 0),(Vi 4575)]]),(Vi 1),(Vi 0)]]),(.vw [[(Vi 1)]])]),(.vw [[(Vi (-1))]])]
abbrev R31 : AV:=(Vi (-41861250))
theorem m31 : pv PP T 1540 38 A31=some R31:=gI M31 bCq (by kernel_rfl)
def M32 : Memo:=(1540,38,A31,R31) :: M31
theorem bCp : iA PP T M32:=⟨m31,bCq⟩
abbrev A32 : List AV:=[(.agg [(.vw [[(Vi 1),(Vi 0),(Vi 0)],[(Vi 2),(Vi 2288),(Vi 2288)]]),(.vw [[(Vi 1),(Vi 1),(Vi 1),(.sl false [[(Vi 4575),(Vi 0)],[(Vi 4575),(Vi 4575)],[(Vi 0),(Vi 4575)]]),(Vi 1),(Vi 0)]]),(.vw [[(Vi 1)]])]),(.vw [[(Vi 1)]])]
abbrev R32 : AV:=(Vi 41861250)
theorem m32 : pv PP T 1580 38 A32=some R32:=gI M32 bCp (by kernel_rfl)
def M33 : Memo:=(1580,38,A32,R32) :: M32
theorem bCo : iA PP T M33:=⟨m32,bCp⟩
abbrev A33 : List AV:=[(.rmp [((.int .i64 1),(.sl false [[(Vi 0),(Vi 0)],[(Vi 4575),(Vi 0)],[(Vi 4575),(Vi 4575)],[(Vi 0),(Vi 4575)],[(Vi 0),(Vi 0)]]))]),(.vw [[(Vi 1)]]),(.agg [(Vi 0),(Vi 0)])]
abbrev R33 : AV:=(.lit (.bool false))
theorem m33 : pv PP T 1620 60 A33=some R33:=gI M33 bCo (by kernel_rfl)
def M34 : Memo:=(1620,60,A33,R33) :: M33
theorem bCn : iA PP T M34:=⟨m33,bCo⟩
abbrev A34 : List AV:=[(.rmp [((.int .i64 1),(.sl false [[(Vi 0),(Vi 0)],[(Vi 4575),(Vi 0)],[(Vi 4575),(Vi 4575)],[(Vi 0),(Vi 4575)],[(Vi 0),(Vi 0)]]))]),(.vw [[(Vi 1)]]),(.agg [(Vi 2288),(Vi 2288)])]
abbrev R34 : AV:=(.lit (.bool true))
theorem m34 : pv PP T 1660 60 A34=some R34:=gI M34 bCn (by kernel_rfl)
def M35 : Memo:=(1660,60,A34,R34) :: M34
theorem bCm : iA PP T M35:=⟨m34,bCn⟩
abbrev A35 : List AV:=[(.agg [(.vw [[(Vi 1),(Vi 0),(Vi 0)],[(Vi 2),(Vi 2288),(Vi 2288)]]),(.vw [[(Vi 1),(Vi 1),(Vi 1),(.sl false [[(Vi 4575),(Vi 0)],[(Vi 4575),(Vi 4575)],[(Vi 0),(Vi 4575)]]),(Vi 1),(Vi 0)]]),(.vw [[(Vi 1)]])]),(.vw [[(.sl false [[(Vi (-1))]])],[(.sl false [[(Vi 1)]])]]),(.rmp [((.int .i64 1),(.sl false [[(Vi 0),(Vi 0)],[(Vi 4575),(Vi 0)],[(Vi 4575),(Vi 4575)],[(Vi 0),(Vi 4575)],[(Vi 0),(Vi 0)]]))])]
abbrev R35 : AV:=(.sl false [[(Vi 0),(.sl false []),(.sl false [[(.sl false [[(Vi (-1))]])]]),(.sl false [])],[(Vi 41861250),(.sl false [[(Vi 1)]]),(.sl false []),(.sl false [[(Vi 2)]])]])
theorem m35 : pv PP T 1700 27 A35=some R35:=gI M35 bCm (by kernel_rfl)
def M36 : Memo:=(1700,27,A35,R35) :: M35
theorem bCl : iA PP T M36:=⟨m35,bCm⟩
abbrev A36 : List AV:=[(.agg [(.vw [[(Vi 1),(Vi 0),(Vi 0)],[(Vi 2),(Vi 2288),(Vi 2288)]]),(.vw [[(Vi 1),(Vi 1),(Vi 1),(.sl false [[(Vi 4575),(Vi 0)],[(Vi 4575),(Vi 4575)],[(Vi 0),(Vi 4575)]]),(Vi 1),(Vi 0)]]),(.vw [[(Vi 1)]])]),(.vw [[(Vi 0),(.sl false []),(.sl false [[(.sl false [[(Vi (-1))]])]]),(.sl false [])],[(Vi 41861250),(.sl false [[(Vi 1)]]),(.sl false []),(.sl false [[(Vi 2)]])]])]
abbrev R36 : AV:=(.tup [(.sl false [[(Vi 0)],[(Vi 1)]]),(.lit (.bool true))])
theorem m36 : pv PP T 1740 28 A36=some R36:=gI M36 bCl (by kernel_rfl)
def M37 : Memo:=(1740,28,A36,R36) :: M36
theorem bCk : iA PP T M37:=⟨m36,bCl⟩
abbrev A37 : List AV:=[(.agg [(.sl false [[(Vi 1),(Vi 0),(Vi 0)],[(Vi 2),(Vi 1800),(Vi 1800)]]),(.sl false [[(Vi 1),(Vi 1),(Vi 1),(.sl false [[(Vi 3600),(Vi 0)],[(Vi 3600),(Vi 3600)],[(Vi 0),(Vi 3600)]]),(Vi 1),(Vi 0)]]),(.sl false [[(Vi 1)]])]),(.agg [(.sl false [[(Vi 1),(Vi 0),(Vi 0)],[(Vi 2),(Vi 2288),(Vi 2288)]]),(.sl false [[(Vi 1),(Vi 1),(Vi 1),(.sl false [[(Vi 4575),(Vi 0)],[(Vi 4575),(Vi 4575)],[(Vi 0),(Vi 4575)]]),(Vi 1),(Vi 0)]]),(.sl false [[(Vi 1)]])])]
abbrev R37 : AV:=(.lit (.bool true))
theorem m37 : pv PP T 1780 3 A37=some R37:=gI M37 bCk (by kernel_rfl)
def M38 : Memo:=(1780,3,A37,R37) :: M37
theorem bCj : iA PP T M38:=⟨m37,bCk⟩
abbrev A38 : List AV:=[(.agg [(.sl false [[(Vi 1),(Vi 0),(Vi 0)],[(Vi 2),(Vi 1800),(Vi 1800)]]),(.sl false [[(Vi 1),(Vi 1),(Vi 1),(.sl false [[(Vi 3600),(Vi 0)],[(Vi 3600),(Vi 3600)],[(Vi 0),(Vi 3600)]]),(Vi 1),(Vi 0)]]),(.sl false [[(Vi 1)]])]),(.agg [(Vi 1),(Vi 0),(Vi 0),(Vi 262144)])]
abbrev R38 : AV:=(.tup [(.agg [(.sl false [[(Vi 1),(Vi 0),(Vi 0)],[(Vi 2),(Vi 2288),(Vi 2288)]]),(.sl false [[(Vi 1),(Vi 1),(Vi 1),(.sl false [[(Vi 4575),(Vi 0)],[(Vi 4575),(Vi 4575)],[(Vi 0),(Vi 4575)]]),(Vi 1),(Vi 0)]]),(.sl false [[(Vi 1)]])]),(Vi 0)])
theorem m38 : pv PP T 1820 6 A38=some R38:=gI M38 bCj (by kernel_rfl)
def M39 : Memo:=(1820,6,A38,R38) :: M38
theorem bCi : iA PP T M39:=⟨m38,bCj⟩
abbrev A39 : List AV:=[(.agg [(Vi 1),(Vi 0),(Vi 0),(Vi 1)]),(.agg [(Vi 0),(Vi 0)])]
abbrev R39 : AV:=(.tup [(.agg [(Vi 0),(Vi 0)]),(Vi 0)])
theorem m39 : pv PP T 1860 30 A39=some R39:=gI M39 bCi (by kernel_rfl)
def M40 : Memo:=(1860,30,A39,R39) :: M39
theorem bCh : iA PP T M40:=⟨m39,bCi⟩
abbrev A40 : List AV:=[(.agg [(Vi 1),(Vi 0),(Vi 0),(Vi 1)]),(.agg [(Vi 1800),(Vi 1800)])]
abbrev R40 : AV:=(.tup [(.agg [(Vi 0),(Vi 0)]),(Vi 0)])
theorem m40 : pv PP T 1900 30 A40=some R40:=gI M40 bCh (by kernel_rfl)
def M41 : Memo:=(1900,30,A40,R40) :: M40
theorem bCg : iA PP T M41:=⟨m40,bCh⟩
abbrev A41 : List AV:=[(.agg [(Vi 1),(Vi 0),(Vi 0),(Vi 1)]),(.agg [(Vi 3600),(Vi 0)])]
abbrev R41 : AV:=(.tup [(.agg [(Vi 0),(Vi 0)]),(Vi 0)])
theorem m41 : pv PP T 1940 30 A41=some R41:=gI M41 bCg (by kernel_rfl)
def M42 : Memo:=(1940,30,A41,R41) :: M41
theorem bCf : iA PP T M42:=⟨m41,bCg⟩
abbrev A42 : List AV:=[(.agg [(Vi 1),(Vi 0),(Vi 0),(Vi 1)]),(.agg [(Vi 3600),(Vi 3600)])]
abbrev R42 : AV:=(.tup [(.agg [(Vi 0),(Vi 0)]),(Vi 0)])
theorem m42 : pv PP T 1980 30 A42=some R42:=gI M42 bCf (by kernel_rfl)
def M43 : Memo:=(1980,30,A42,R42) :: M42
theorem bCe : iA PP T M43:=⟨m42,bCf⟩
abbrev A43 : List AV:=[(.agg [(Vi 1),(Vi 0),(Vi 0),(Vi 1)]),(.agg [(Vi 0),(Vi 3600)])]
abbrev R43 : AV:=(.tup [(.agg [(Vi 0),(Vi 0)]),(Vi 0)])
theorem m43 : pv PP T 2020 30 A43=some R43:=gI M43 bCe (by kernel_rfl)
def M44 : Memo:=(2020,30,A43,R43) :: M43
theorem bCd : iA PP T M44:=⟨m43,bCe⟩
abbrev A44 : List AV:=[(.agg [(.vw [[(Vi 1),(Vi 0),(Vi 0)],[(Vi 2),(Vi 0),(Vi 0)]]),(.vw [[(Vi 1),(Vi 1),(Vi 1),(.sl false []),(Vi 1),(Vi 0)]]),(.vw [[(Vi 1)]])])]
abbrev R44 : AV:=(Vi 8)
theorem m44 : pv PP T 2060 32 A44=some R44:=gI M44 bCd (by kernel_rfl)
def M45 : Memo:=(2060,32,A44,R44) :: M44
theorem bCc : iA PP T M45:=⟨m44,bCd⟩
abbrev A45 : List AV:=[(.agg [(.sl false [[(Vi 1),(Vi 0),(Vi 0)],[(Vi 2),(Vi 1800),(Vi 1800)]]),(.sl false [[(Vi 1),(Vi 1),(Vi 1),(.sl false [[(Vi 3600),(Vi 0)],[(Vi 3600),(Vi 3600)],[(Vi 0),(Vi 3600)]]),(Vi 1),(Vi 0)]]),(.sl false [[(Vi 1)]])]),(.agg [(Vi 1),(Vi 0),(Vi 0),(Vi 1)])]
abbrev R45 : AV:=(.tup [(.agg [(.sl false []),(.sl false []),(.sl false [])]),(Vi 8)])
theorem m45 : pv PP T 2100 6 A45=some R45:=gI M45 bCc (by kernel_rfl)
def M46 : Memo:=(2100,6,A45,R45) :: M45
theorem bCb : iA PP T M46:=⟨m45,bCc⟩
abbrev A46 : List AV:=[(.agg [(.vw []),(.vw []),(.vw [])])]
abbrev R46 : AV:=(Vi 0)
theorem m46 : pv PP T 2140 32 A46=some R46:=gI M46 bCb (by kernel_rfl)
def M47 : Memo:=(2140,32,A46,R46) :: M46
theorem bCa : iA PP T M47:=⟨m46,bCb⟩
end Go.Proofs.YtapabkfjeiknbaaGreat.Av
namespace Go.Proofs.YtapabkfjeiknbaaGreat.Av
open Go
abbrev A47 : List AV:=[(.agg [(.vw []),(.vw []),(.vw [])])]
abbrev R47 : AV:=(.tup [(.sl false [[(Vi 0),(.sl false []),(.sl false []),(.sl false [])]]),(Vi 0)])
theorem m47 : pv PP T 2180 7 A47=some R47:=gI M47 bCa (by kernel_rfl)
def M48 : Memo:=(2180,7,A47,R47) :: M47
theorem bB9 : iA PP T M48:=⟨m47,bCa⟩
abbrev A48 : List AV:=[(.agg [(.sl false [[(Vi 1),(Vi 0),(Vi 0)],[(Vi 2),(Vi 1800),(Vi 1800)]]),(.sl false [[(Vi 1),(Vi 1),(Vi 1),(.sl false [[(Vi 3600),(Vi 0)],[(Vi 3600),(Vi 3600)],[(Vi 0),(Vi 3600)]]),(Vi 1),(Vi 0)]]),(.sl false [[(Vi 1)]])]),(.agg [(.sl false []),(.sl false []),(.sl false [])])]
abbrev R48 : AV:=(.lit (.bool false))
theorem m48 : pv PP T 2220 3 A48=some R48:=gI M48 bB9 (by kernel_rfl)
def M49 : Memo:=(2220,3,A48,R48) :: M48
theorem bGn : iA PP T M49:=⟨m48,bB9⟩
theorem bBb : pv PP T 10000 2 []=some (.lit (.bool true)):=gI M49 bGn (by kernel_rfl)
end Go.Proofs.YtapabkfjeiknbaaGreat.Av
namespace Go.Proofs.YtapabkfjeiknbaaGreat.Av
open Go
theorem aFc (n : Nat) (aA : GPlan) (r : ((List Garea) × (List Int) × Unit × Int)) (h : zX n aA=some r) : pv PP T n 14 [(kU aA)]=some (.tup [(.sl false (List.map gO r.1)),(.sl false (List.map dS r.2.1)),U,(iv r.2.2.2)]):=by
 cases n with
 | zero=>cases h
 | succ n =>
  rw [zX] at h
  obtain ⟨aI,aJ,h⟩:=dQ h
  have aC:=aLu n aA _ aJ
  rcases cn h with ⟨aK,aB,h⟩ | ⟨aK,aB,h⟩
  ·obtain rfl:=si h
   exact pv_q F14 (qp trivial<|qa 14 aB<|qa 10 aC<|q0) [] []
  obtain ⟨aL,aM,h⟩:=dQ h
  have aE:=aHp n aA _ aM
  obtain ⟨aF,aN,h⟩:=dQ h
  have aG:=aI3 n aA aI.1 aL _ aN
  obtain ⟨aR,aH,h⟩:=dQ h
  rcases cn h with ⟨aD,aO,h⟩ | ⟨aD,aO,h⟩
  ·have aP:=by have q:=aDx n aA aF _ aH; rw [aD] at q; exact q
   obtain rfl:=si h
   exact pv_q F14 (qp trivial<|qa 25 aP<|qa 21 aG<|qa 17 aE<|qa 14 aB<|qa 10 aC<|q0) [] []
  have aQ:=by have q:=aDx n aA aF _ aH; rw [aD] at q; exact q
  obtain rfl:=si h
  exact pv_q F14 (qp trivial<|qa 25 aQ<|qa 21 aG<|qa 17 aE<|qa 14 aB<|qa 10 aC<|q0) [] []
def lO : Nat→GRegion→GRegion→Option Int
 | 0,_,_=>none
 | n + 1,aA,aB=>(bnd (rB n aA.Face aB.Face) fun aC=>(some aC))
theorem aE4 (n : Nat) (aA : GRegion) (aB : GRegion) (r : Int) (h : lO n aA aB=some r) : pv PP T n 20 [(aOq aA),(aOq aB)]=some (iv r):=by
 cases n with
 | zero=>cases h
 | succ n =>
  rw [lO] at h
  obtain ⟨aE,aC,h⟩:=dQ h
  have aD:=aA6 n aA.Face aB.Face _ aC
  obtain rfl:=si h
  exact pv_q F20 (qa 9 aD<|q0) [] []
abbrev hp90 (aA : GPlan) : Heap:=[(.blk 3 [[(.vw (List.map dP aA.Nodes)),(.vw (List.map dR aA.Arcs)),(.vw (List.map dS aA.Faces))]]),(.blk 4 (List.map eP []))]
def uH (aA : ((List Garea) × (List Int) × Unit × Int)) (aB : GPlan) (aC : (List GRegion)) (aD : Int) : St:=⟨sp 44 [(2,(.ms 1 aC.length 0 aC.length)),(5,(.sl false (List.map dS aA.2.1))),(19,(.sl false (List.map gO aA.1))),(20,(iv ((aA.1.length : Nat) : Int))),(21,(iv aD))],[(.blk 3 [[(.vw (List.map dP aB.Nodes)),(.vw (List.map dR aB.Arcs)),(.vw (List.map dS aB.Faces))]]),(.blk 4 (List.map eP aC))]⟩
theorem aFu (aA : ((List Garea) × (List Int) × Unit × Int)) (aB : GPlan) (aC : (List GRegion)) (aD : Int) : eS true 0 2 (uH aA aB aC aD).heap:=(by exact (clo rfl (clo (hU (aAu 2)) rfl)))
def sG (aC : ((List Garea) × (List Int) × Unit × Int)) (aA : GPlan) (aB : (List GRegion)) : St:=⟨sp 44 [(2,(.ms 1 aB.length 0 aB.length))],[(.blk 3 [[(.vw (List.map dP aA.Nodes)),(.vw (List.map dR aA.Arcs)),(.vw (List.map dS aA.Faces))]]),(.blk 4 (List.map eP aB))]⟩
abbrev hp91 (aA : GPlan) (aB : (List GRegion)) : Heap:=[(.blk 3 [[(.vw (List.map dP aA.Nodes)),(.vw (List.map dR aA.Arcs)),(.vw (List.map dS aA.Faces))]]),(.blk 4 (List.map eP aB))]
abbrev hp92 (aA : GPlan) (aB : (List GRegion)) (aC : Garea) : Heap:=[(.blk 3 [[(.vw (List.map dP aA.Nodes)),(.vw (List.map dR aA.Arcs)),(.vw (List.map dS aA.Faces))]]),(.blk 4 (List.map eP aB)),(.blk 4 [(gO aC)])]
def oG (n : Nat) (aA : ((List Garea) × (List Int) × Unit × Int)) (aE : GPlan) : Nat→(List GRegion)→Int→Option (List GRegion)
 | 0,_,_=>none
 | m + 1,aD,aB=>(cnd (decide (aB < ((aA.1.length : Nat) : Int))) (bnd (idx aA.1 aB) fun aC=>(bnd (idx aA.2.1 aB) fun aF=>(bnd (app aD [(GRegion.mk aF aC.outer aC.inner aC.alone)]) fun aG=>(oG n aA aE m aG (IntKind.i64.wrap (aB + 1)))))) (some aD))
theorem zB (n : Nat) (aC : ((List Garea) × (List Int) × Unit × Int)) (aA : GPlan) : ∀ (m : Nat) (aB : (List GRegion)) (aD : Int) (r : (List GRegion)),oG n aC aA m aB aD=some r→eT [false,false,true] [false,false,true,true] true 0 2 (eG (eO (some lv75) true 0 2) (evC PP (evF PP T n) n 0 L7_0) m (uH aC aA aB aD))=some ((.exit 0),sG aC aA r)
 | 0,_,_,_,h=>by cases h
 | m + 1,aB,aD,r,h=>by
  rw [oG] at h
  rcases cn h with ⟨aH,aE,h⟩ | ⟨aH,aE,h⟩
  rotate_left
  ·obtain rfl:=si h
   exact eQ (some lv75) true (sG aC aA aB) (qa 22 aE<|q0) [] [] (by exact (clo rfl (clo (hU (aAu 2)) rfl)))
  obtain ⟨aF,aI,h⟩:=dQ h
  have aJ:=idxl (H:=(hp91 aA aB)) (f:=false) (c:=gO) aI (aLo _)
  obtain ⟨aO,aK,h⟩:=dQ h
  have aL:=idxl (H:=(hp92 aA aB aF)) (f:=false) (c:=dS) aK (iD _)
  obtain ⟨aG,aM,h⟩:=dQ h
  have aN:=yN (fl:=0) (H:=(hp92 aA aB aF)) (id:=1) (s:=4) (bytes:=80) (c:=eP) (l:=aB) aM rfl aC2 (by omega) (by omega) (by omega)
  exact nx_q (uH aC aA aG (IntKind.i64.wrap (aD + 1))) (qc 39 aN<|qa 29 aL<|qa 24 aJ<|qa 22 aE<|q0) [] [none] (aFu _ _ _ _) (zB n aC aA m aG (IntKind.i64.wrap (aD + 1)) r h)
def lJ : Nat→GPlan→Option ((List GRegion) × Int)
 | 0,_=>none
 | n + 1,aB=>(bnd (zX n aB) fun aA=>(cnd (aA.2.2.2 != 0) (some ([],aA.2.2.2)) (bnd (oG n aA aB n [] 0) fun aC=>(bnd (prd n) fun aD=>(bnd (grd (decide (List.length aC ≤ 1000000))) fun aF=>(bnd (aLx (fun x y=>lO aD x y) aC) fun aE=>(some (aE,0))))))))
theorem aB2 (n : Nat) (aA : GPlan) (r : ((List GRegion) × Int)) (h : lJ n aA=some r) : pv PP T n 7 [(kU aA)]=some (.tup [(.sl false (List.map eP r.1)),(iv r.2)]):=by
 cases n with
 | zero=>cases h
 | succ n =>
  rw [lJ] at h
  obtain ⟨aD,aI,h⟩:=dQ h
  have aF:=aFc n aA _ aI
  rcases cn h with ⟨aJ,aE,h⟩ | ⟨aJ,aE,h⟩
  ·obtain rfl:=si h
   exact pv_q F7 (qa 17 aE<|qa 11 aF<|q0) [] []
  have aK:=nP (P:=PP) (cf:=evF PP T n) (fl:=0) (H:=(hp90 aA)) (f:=false) (c:=gO) (l:=aD.1)
  have aL : eS true 0 2 [(.blk 3 [[(.vw (List.map dP aA.Nodes)),(.vw (List.map dR aA.Arcs)),(.vw (List.map dS aA.Faces))]]),(.blk 4 (List.map eP []))]:=(by exact (clo rfl (clo (hU (aAu 2)) rfl)))
  obtain ⟨aB,aM,h⟩:=dQ h
  have aN:=zB n aD aA n [] 0 _ aM
  obtain ⟨aG,aO,h⟩:=dQ h
  have aP:=pQ aO
  obtain ⟨aT,aQ,h⟩:=dQ h
  obtain ⟨aC,aH,h⟩:=dQ h
  have aR:=aJ4 aH
  have aS : evF PP T n 0 19 [(.ms 1 aB.length 0 aB.length),(.fn 20 [])] (hp91 aA aB)=some ((.tup []),(hp91 aA aC)):=by rw [aP]; exact aQ2 (s:=4) (agg:=true) (c:=eP) (l:=aB) (F:=fun x y=>lO aG x y) rfl (by omega) rfl (of_decide_eq_true (aEw aQ)) (fun x y z hz=>bB8 rfl (aE4 aG x y z hz)) aH
  obtain rfl:=si h
  refine aFd (iT F7 (qc 42 aS<|qp aN<|qp aL<|qb 20 aK<|qa 17 aE<|qa 11 aF<|q0) [((.exit 0),sG aD aA aB)] [] (r:=(.tup [(.ms 1 aB.length 0 aB.length),(iv 0)])) (H':=(hp91 aA aC))) ?_
  show (AV.tup [(jX (hp91 aA aC) 0 (.ms 1 aB.length 0 aB.length)),(jX (hp91 aA aC) 0 (iv 0))])=_
  rw [aO7 (tot:=aB.length) aR (H:=(hp91 aA aC)) (id:=1) (s:=4) (c:=eP) (l:=aC) rfl (aMa _ _ _)]
  first | done | rfl
def xO : Nat→GArc→Option Gframe
 | 0,_=>none
 | n + 1,aA=>(some (Gframe.mk aA.ID aA.From aA.To aA.Left aA.Right))
theorem aDl (n : Nat) (aA : GArc) (r : Gframe) (h : xO n aA=some r) : pv PP T n 21 [(bFc aA)]=some (.agg (aJt r)):=by
 cases n with
 | zero=>cases h
 | succ n =>
  rw [xO] at h
  obtain rfl:=si h
  exact pv_q F21 q0 [] [none]
def xU (aA : (List Int)) (aB : (List Int)) (aC : Int) : St:=⟨sp 26 [(0,(.vw (List.map dS aA))),(1,(.vw (List.map dS aB))),(12,(iv ((aA.length : Nat) : Int))),(13,(iv aC))],[]⟩
def qF (aA : (List Int)) (aB : (List Int)) : St:=⟨sp 26 [(4,bf)],[]⟩
def qE (aA : (List Int)) (aB : (List Int)) : St:=⟨sp 26 [],[]⟩
def mB (n : Nat) (aB : (List Int)) (aC : (List Int)) : Nat→Int→Option (Unit ⊕ Unit)
 | 0,_=>none
 | m + 1,aA=>(cnd (decide (aA < ((aB.length : Nat) : Int))) (bnd (idx aB aA) fun aD=>(bnd (idx aC aA) fun aE=>(cnd (aD != aE) (some (Sum.inl ())) (mB n aB aC m (IntKind.i64.wrap (aA + 1)))))) (some (Sum.inr ())))
theorem qD (n : Nat) (aA : (List Int)) (aB : (List Int)) : ∀ (m : Nat) (aC : Int) (r : (Unit ⊕ Unit)),mB n aA aB m aC=some r→eT [] lv4 false 0 0 (eG (eO (some lv76) false 0 0) (evC PP (evF PP T n) n 0 bIk) m (xU aA aB aC))=(match r with | (.inl r)=>some (.ret,qF aA aB) | (.inr r)=>some ((.exit 0),qE aA aB))
 | 0,_,_,h=>by cases h
 | m + 1,aC,r,h=>by
  rw [mB] at h
  rcases cn h with ⟨aH,aD,h⟩ | ⟨aH,aD,h⟩
  rotate_left
  ·obtain rfl:=si h
   exact eQ (some lv76) false (qE aA aB) (qa 14 aD<|q0) [] [] trivial
  obtain ⟨aL,aI,h⟩:=dQ h
  have aF:=idxv (H:=[]) (c:=dS) aI (iD _)
  obtain ⟨aM,aJ,h⟩:=dQ h
  have aG:=idxv (H:=[]) (c:=dS) aJ (iD _)
  rcases cn h with ⟨aK,aE,h⟩ | ⟨aK,aE,h⟩
  ·obtain rfl:=si h
   exact eQ (some lv76) false (qF aA aB) (qa 24 aE<|qa 22 aG<|qa 18 aF<|qa 14 aD<|q0) [] [] trivial
  exact nx_q (xU aA aB (IntKind.i64.wrap (aC + 1))) (qa 24 aE<|qa 22 aG<|qa 18 aF<|qa 14 aD<|q0) [] [] trivial (qD n aA aB m (IntKind.i64.wrap (aC + 1)) r h)
def mO : Nat→(List Int)→(List Int)→Option Bool
 | 0,_,_=>none
 | n + 1,aA,aB=>(cnd (((aA.length : Nat) : Int) != ((aB.length : Nat) : Int)) (some false) (bnd2 (mB n aA aB n 0) (fun aC=>(some false)) (fun aD=>(some true))))
theorem kD (n : Nat) (aA : (List Int)) (aB : (List Int)) (r : Bool) (h : mO n aA aB=some r) : pv PP T n 22 [(.vw (List.map dS aA)),(.vw (List.map dS aB))]=some (bv r):=by
 cases n with
 | zero=>cases h
 | succ n =>
  rw [mO] at h
  have aD:=iM (P:=PP) (cf:=evF PP T n) (fl:=0) (H:=[]) (c:=dS) (l:=aA)
  have aE:=iM (P:=PP) (cf:=evF PP T n) (fl:=0) (H:=[]) (c:=dS) (l:=aB)
  rcases cn h with ⟨aJ,aC,h⟩ | ⟨aJ,aC,h⟩
  ·obtain rfl:=si h
   exact pv_q F22 (qa 10 aC<|qb 9 aE<|qb 7 aD<|q0) [] []
  have aH:=iM (P:=PP) (cf:=evF PP T n) (fl:=0) (H:=[]) (c:=dS) (l:=aA)
  have aI : eS false 0 0 []:=trivial
  rcases gF h with ⟨aK,aF,h⟩ | ⟨aL,aF,h⟩
  ·have aG:=qD n aA aB n 0 _ aF
   obtain rfl:=si h
   exact pv_q F22 (qp aG<|qp aI<|qb 12 aH<|qa 10 aC<|qb 9 aE<|qb 7 aD<|q0) [(.ret,qF aA aB)] []
  have aG:=qD n aA aB n 0 _ aF
  obtain rfl:=si h
  exact pv_q F22 (qp aG<|qp aI<|qb 12 aH<|qa 10 aC<|qb 9 aE<|qb 7 aD<|q0) [((.exit 0),qE aA aB)] []
abbrev hp95 (aA : GPlan) (aB : GPlan) : Heap:=[(.blk 3 [[(.vw (List.map dP aA.Nodes)),(.vw (List.map dR aA.Arcs)),(.vw (List.map dS aA.Faces))]]),(.blk 3 [[(.vw (List.map dP aB.Nodes)),(.vw (List.map dR aB.Arcs)),(.vw (List.map dS aB.Faces))]])]
def uZ (aB : GPlan) (aA : GPlan) (aC : Int) : St:=⟨sp 32 [(1,(.vw (List.map dP aB.Nodes))),(2,(.fn 9 [])),(15,(.vw (List.map dP aA.Nodes))),(16,(iv ((aA.Nodes.length : Nat) : Int))),(17,(iv aC))],[(.blk 3 [[(.vw (List.map dP aA.Nodes)),(.vw (List.map dR aA.Arcs)),(.vw (List.map dS aA.Faces))]]),(.blk 3 [[(.vw (List.map dP aB.Nodes)),(.vw (List.map dR aB.Arcs)),(.vw (List.map dS aB.Faces))]])]⟩
theorem aGi (aA : GPlan) (aB : GPlan) (aC : Int) : eS true 0 2 (uZ aA aB aC).heap:=(by exact (clo rfl (clo rfl rfl)))
def uD (aA : GPlan) (aB : GPlan) (aC : Int) (aD : Int) (aE : Int) (aF : Int) (aG : Int) (aH : Int) (aI : Int) (aJ : Int) (aK : Int) (aL : Int) (aM : Int) (aN : Int) : St:=⟨sp 32 [(6,bf)],[(.blk 3 [[(.vw (List.map dP aB.Nodes)),(.vw (List.map dR aB.Arcs)),(.vw (List.map dS aB.Faces))]]),(.blk 3 [[(.vw (List.map dP aA.Nodes)),(.vw (List.map dR aA.Arcs)),(.vw (List.map dS aA.Faces))]]),(.blk 3 [[(iv aC),(iv aD),(iv aE)]]),(.blk 3 [[(iv aF),(iv aG),(iv aH)]]),(.blk 3 [[(iv aI),(iv aJ),(iv aK)]]),(.blk 3 [[(iv aL),(iv aM),(iv aN)]])]⟩
def uC (aA : GPlan) (aB : GPlan) : St:=⟨sp 32 [],[(.blk 3 [[(.vw (List.map dP aB.Nodes)),(.vw (List.map dR aB.Arcs)),(.vw (List.map dS aB.Faces))]]),(.blk 3 [[(.vw (List.map dP aA.Nodes)),(.vw (List.map dR aA.Arcs)),(.vw (List.map dS aA.Faces))]])]⟩
abbrev hp96 (aA : GPlan) (aB : GPlan) (aC : GNode) : Heap:=[(.blk 3 [[(.vw (List.map dP aA.Nodes)),(.vw (List.map dR aA.Arcs)),(.vw (List.map dS aA.Faces))]]),(.blk 3 [[(.vw (List.map dP aB.Nodes)),(.vw (List.map dR aB.Arcs)),(.vw (List.map dS aB.Faces))]]),(.blk 3 [(dP aC)])]
abbrev hp97 (aA : GPlan) (aB : GPlan) (aC : GNode) (aD : GNode) : Heap:=[(.blk 3 [[(.vw (List.map dP aA.Nodes)),(.vw (List.map dR aA.Arcs)),(.vw (List.map dS aA.Faces))]]),(.blk 3 [[(.vw (List.map dP aB.Nodes)),(.vw (List.map dR aB.Arcs)),(.vw (List.map dS aB.Faces))]]),(.blk 3 [(dP aC)]),(.blk 3 [(dP aD)])]
abbrev hp98 (aA : GPlan) (aB : GPlan) (aC : GNode) (aD : GNode) : Heap:=[(.blk 3 [[(.vw (List.map dP aA.Nodes)),(.vw (List.map dR aA.Arcs)),(.vw (List.map dS aA.Faces))]]),(.blk 3 [[(.vw (List.map dP aB.Nodes)),(.vw (List.map dR aB.Arcs)),(.vw (List.map dS aB.Faces))]]),(.blk 3 [(dP aC)]),(.blk 3 [(dP aD)]),(.blk 3 [(dP aC)]),(.blk 3 [(dP aD)])]
def mM (n : Nat) (aE : GPlan) (aD : GPlan) : Nat→Int→Option ((Int × Int × Int × Int × Int × Int × Int × Int × Int × Int × Int × Int) ⊕ Unit)
 | 0,_=>none
 | m + 1,aC=>(cnd (decide (aC < ((aD.Nodes.length : Nat) : Int))) (bnd (idx aD.Nodes aC) fun aA=>(bnd (idx aE.Nodes aC) fun aB=>(bnd (prd n) fun aF=>(cnd (aA.ID == aB.ID) (mM n aE aD m (IntKind.i64.wrap (aC + 1))) (some (Sum.inl (aA.ID,aA.At.X,aA.At.Y,aB.ID,aB.At.X,aB.At.Y,aA.ID,aA.At.X,aA.At.Y,aB.ID,aB.At.X,aB.At.Y))))))) (some (Sum.inr ())))
theorem uB (n : Nat) (aC : GPlan) (aD : GPlan) : ∀ (m : Nat) (aE : Int) (r : ((Int × Int × Int × Int × Int × Int × Int × Int × Int × Int × Int × Int) ⊕ Unit)),mM n aC aD m aE=some r→eT [] lv18 true 0 2 (eG (eO (some lv77) true 0 2) (evC PP (evF PP T n) n 0 L8_0) m (uZ aC aD aE))=(match r with | (.inl r)=>some (.ret,uD aC aD r.1 r.2.1 r.2.2.1 r.2.2.2.1 r.2.2.2.2.1 r.2.2.2.2.2.1 r.2.2.2.2.2.2.1 r.2.2.2.2.2.2.2.1 r.2.2.2.2.2.2.2.2.1 r.2.2.2.2.2.2.2.2.2.1 r.2.2.2.2.2.2.2.2.2.2.1 r.2.2.2.2.2.2.2.2.2.2.2) | (.inr r)=>some ((.exit 0),uC aC aD))
 | 0,_,_,h=>by cases h
 | m + 1,aE,r,h=>by
  rw [mM] at h
  rcases cn h with ⟨aK,aF,h⟩ | ⟨aK,aF,h⟩
  rotate_left
  ·obtain rfl:=si h
   exact eQ (some lv77) true (uC aC aD) (qa 18 aF<|q0) [] [] (by exact (clo rfl (clo rfl rfl)))
  obtain ⟨aA,aL,h⟩:=dQ h
  have aH:=idxv (H:=(hp95 aD aC)) (c:=dP) aL (jQ _)
  obtain ⟨aB,aM,h⟩:=dQ h
  have aI:=idxv (H:=(hp96 aD aC aA)) (c:=dP) aM (jQ _)
  obtain ⟨aR,aN,h⟩:=dQ h
  have aJ:=pQ aN
  rcases cn h with ⟨aO,aG,h⟩ | ⟨aO,aG,h⟩
  ·have aP : evF PP T n 0 9 [(.agg [(iv aA.ID),(iv aA.At.X),(iv aA.At.Y)]),(.agg [(iv aB.ID),(iv aB.At.X),(iv aB.At.Y)])] (hp97 aD aC aA aB)=some (bt,(hp98 aD aC aA aB)):=by
    rw [aJ]; exact iT F9 (qa 9 aG<|q0) [] []
   exact nx_q (uZ aC aD (IntKind.i64.wrap (aE + 1))) (qc 29 aP<|qa 24 aI<|qa 20 aH<|qa 18 aF<|q0) [] [none,none] (aGi _ _ _) (uB n aC aD m (IntKind.i64.wrap (aE + 1)) r h)
  have aQ : evF PP T n 0 9 [(.agg [(iv aA.ID),(iv aA.At.X),(iv aA.At.Y)]),(.agg [(iv aB.ID),(iv aB.At.X),(iv aB.At.Y)])] (hp97 aD aC aA aB)=some (bf,(hp98 aD aC aA aB)):=by
   rw [aJ]; exact iT F9 (qa 9 aG<|q0) [] []
  obtain rfl:=si h
  exact eQ (some lv77) true (uD aC aD aA.ID aA.At.X aA.At.Y aB.ID aB.At.X aB.At.Y aA.ID aA.At.X aA.At.Y aB.ID aB.At.X aB.At.Y) (qc 29 aQ<|qa 24 aI<|qa 20 aH<|qa 18 aF<|q0) [] [none,none] trivial
abbrev hp99 (aB : GPlan) (aC : GPlan) (aA : (Int × Int × Int × Int × Int × Int × Int × Int × Int × Int × Int × Int)) : Heap:=[(.blk 3 [[(.vw (List.map dP aB.Nodes)),(.vw (List.map dR aB.Arcs)),(.vw (List.map dS aB.Faces))]]),(.blk 3 [[(.vw (List.map dP aC.Nodes)),(.vw (List.map dR aC.Arcs)),(.vw (List.map dS aC.Faces))]]),(.blk 3 [[(iv aA.1),(iv aA.2.1),(iv aA.2.2.1)]]),(.blk 3 [[(iv aA.2.2.2.1),(iv aA.2.2.2.2.1),(iv aA.2.2.2.2.2.1)]]),(.blk 3 [[(iv aA.2.2.2.2.2.2.1),(iv aA.2.2.2.2.2.2.2.1),(iv aA.2.2.2.2.2.2.2.2.1)]]),(.blk 3 [[(iv aA.2.2.2.2.2.2.2.2.2.1),(iv aA.2.2.2.2.2.2.2.2.2.2.1),(iv aA.2.2.2.2.2.2.2.2.2.2.2)]])]
def uG (aB : GPlan) (aA : GPlan) (aC : Int) : St:=⟨sp 32 [(1,(.vw (List.map dR aB.Arcs))),(2,(.fn 11 [])),(15,(.vw (List.map dR aA.Arcs))),(16,(iv ((aA.Arcs.length : Nat) : Int))),(17,(iv aC))],[(.blk 3 [[(.vw (List.map dP aA.Nodes)),(.vw (List.map dR aA.Arcs)),(.vw (List.map dS aA.Faces))]]),(.blk 3 [[(.vw (List.map dP aB.Nodes)),(.vw (List.map dR aB.Arcs)),(.vw (List.map dS aB.Faces))]])]⟩
theorem aFo (aA : GPlan) (aB : GPlan) (aC : Int) : eS true 0 2 (uG aA aB aC).heap:=(by exact (clo rfl (clo rfl rfl)))
def rX (aA : GPlan) (aB : GPlan) (aC : Int) (aD : Int) (aE : Int) (aF : (List GPoint)) (aG : Int) (aH : Int) (aI : Int) (aJ : Int) (aK : Int) (aL : (List GPoint)) (aM : Int) (aN : Int) (aO : Int) (aP : Int) (aQ : Int) (aR : (List GPoint)) (aS : Int) (aT : Int) (aU : Int) (aV : Int) (aW : Int) (aX : (List GPoint)) (aY : Int) (aZ : Int) : St:=⟨sp 32 [(6,bf)],[(.blk 3 [[(.vw (List.map dP aB.Nodes)),(.vw (List.map dR aB.Arcs)),(.vw (List.map dS aB.Faces))]]),(.blk 3 [[(.vw (List.map dP aA.Nodes)),(.vw (List.map dR aA.Arcs)),(.vw (List.map dS aA.Faces))]]),(.blk 6 [[(iv aC),(iv aD),(iv aE),(.sl false (List.map dW aF)),(iv aG),(iv aH)]]),(.blk 6 [[(iv aI),(iv aJ),(iv aK),(.sl false (List.map dW aL)),(iv aM),(iv aN)]]),(.blk 6 [[(iv aO),(iv aP),(iv aQ),(.sl false (List.map dW aR)),(iv aS),(iv aT)]]),(.blk 6 [[(iv aU),(iv aV),(iv aW),(.sl false (List.map dW aX)),(iv aY),(iv aZ)]])]⟩
def rW (aA : GPlan) (aB : GPlan) : St:=⟨sp 32 [],[(.blk 3 [[(.vw (List.map dP aB.Nodes)),(.vw (List.map dR aB.Arcs)),(.vw (List.map dS aB.Faces))]]),(.blk 3 [[(.vw (List.map dP aA.Nodes)),(.vw (List.map dR aA.Arcs)),(.vw (List.map dS aA.Faces))]])]⟩
abbrev bI0 (aA : GPlan) (aB : GPlan) (aC : GArc) : Heap:=[(.blk 3 [[(.vw (List.map dP aA.Nodes)),(.vw (List.map dR aA.Arcs)),(.vw (List.map dS aA.Faces))]]),(.blk 3 [[(.vw (List.map dP aB.Nodes)),(.vw (List.map dR aB.Arcs)),(.vw (List.map dS aB.Faces))]]),(.blk 6 [(dR aC)])]
abbrev bF1 (aA : GPlan) (aB : GPlan) (aC : GArc) (aD : GArc) : Heap:=[(.blk 3 [[(.vw (List.map dP aA.Nodes)),(.vw (List.map dR aA.Arcs)),(.vw (List.map dS aA.Faces))]]),(.blk 3 [[(.vw (List.map dP aB.Nodes)),(.vw (List.map dR aB.Arcs)),(.vw (List.map dS aB.Faces))]]),(.blk 6 [(dR aC)]),(.blk 6 [(dR aD)])]
abbrev bAv (aA : GPlan) (aB : GPlan) (aC : GArc) (aD : GArc) : Heap:=[(.blk 3 [[(.vw (List.map dP aA.Nodes)),(.vw (List.map dR aA.Arcs)),(.vw (List.map dS aA.Faces))]]),(.blk 3 [[(.vw (List.map dP aB.Nodes)),(.vw (List.map dR aB.Arcs)),(.vw (List.map dS aB.Faces))]]),(.blk 6 [(dR aC)]),(.blk 6 [(dR aD)]),(.blk 6 [(dR aC)]),(.blk 6 [(dR aD)])]
def lM (n : Nat) (aE : GPlan) (aD : GPlan) : Nat→Int→Option ((Int × Int × Int × (List GPoint) × Int × Int × Int × Int × Int × (List GPoint) × Int × Int × Int × Int × Int × (List GPoint) × Int × Int × Int × Int × Int × (List GPoint) × Int × Int) ⊕ Unit)
 | 0,_=>none
 | m + 1,aC=>(cnd (decide (aC < ((aD.Arcs.length : Nat) : Int))) (bnd (idx aD.Arcs aC) fun aA=>(bnd (idx aE.Arcs aC) fun aB=>(bnd (prd n) fun aF=>(bnd (xO aF aA) fun aG=>(bnd (xO aF aB) fun aH=>(cnd (decide (aG=aH)) (lM n aE aD m (IntKind.i64.wrap (aC + 1))) (some (Sum.inl (aA.ID,aA.From,aA.To,aA.Via,aA.Left,aA.Right,aB.ID,aB.From,aB.To,aB.Via,aB.Left,aB.Right,aA.ID,aA.From,aA.To,aA.Via,aA.Left,aA.Right,aB.ID,aB.From,aB.To,aB.Via,aB.Left,aB.Right))))))))) (some (Sum.inr ())))
theorem rV (n : Nat) (aC : GPlan) (aD : GPlan) : ∀ (m : Nat) (aE : Int) (r : ((Int × Int × Int × (List GPoint) × Int × Int × Int × Int × Int × (List GPoint) × Int × Int × Int × Int × Int × (List GPoint) × Int × Int × Int × Int × Int × (List GPoint) × Int × Int) ⊕ Unit)),lM n aC aD m aE=some r→eT [] lv18 true 0 2 (eG (eO (some lv77) true 0 2) (evC PP (evF PP T n) n 0 bIm) m (uG aC aD aE))=(match r with | (.inl r)=>some (.ret,rX aC aD r.1 r.2.1 r.2.2.1 r.2.2.2.1 r.2.2.2.2.1 r.2.2.2.2.2.1 r.2.2.2.2.2.2.1 r.2.2.2.2.2.2.2.1 r.2.2.2.2.2.2.2.2.1 r.2.2.2.2.2.2.2.2.2.1 r.2.2.2.2.2.2.2.2.2.2.1 r.2.2.2.2.2.2.2.2.2.2.2.1 r.2.2.2.2.2.2.2.2.2.2.2.2.1 r.2.2.2.2.2.2.2.2.2.2.2.2.2.1 r.2.2.2.2.2.2.2.2.2.2.2.2.2.2.1 r.2.2.2.2.2.2.2.2.2.2.2.2.2.2.2.1 r.2.2.2.2.2.2.2.2.2.2.2.2.2.2.2.2.1 r.2.2.2.2.2.2.2.2.2.2.2.2.2.2.2.2.2.1 r.2.2.2.2.2.2.2.2.2.2.2.2.2.2.2.2.2.2.1 r.2.2.2.2.2.2.2.2.2.2.2.2.2.2.2.2.2.2.2.1 r.2.2.2.2.2.2.2.2.2.2.2.2.2.2.2.2.2.2.2.2.1 r.2.2.2.2.2.2.2.2.2.2.2.2.2.2.2.2.2.2.2.2.2.1 r.2.2.2.2.2.2.2.2.2.2.2.2.2.2.2.2.2.2.2.2.2.2.1 r.2.2.2.2.2.2.2.2.2.2.2.2.2.2.2.2.2.2.2.2.2.2.2) | (.inr r)=>some ((.exit 0),rW aC aD))
 | 0,_,_,h=>by cases h
 | m + 1,aE,r,h=>by
  rw [lM] at h
  rcases cn h with ⟨aP,aF,h⟩ | ⟨aP,aF,h⟩
  rotate_left
  ·obtain rfl:=si h
   exact eQ (some lv77) true (rW aC aD) (qa 18 aF<|q0) [] [] (by exact (clo rfl (clo rfl rfl)))
  obtain ⟨aA,aQ,h⟩:=dQ h
  have aI:=idxv (H:=(hp95 aD aC)) (c:=dR) aQ (lY _)
  obtain ⟨aB,aR,h⟩:=dQ h
  have aJ:=idxv (H:=(bI0 aD aC aA)) (c:=dR) aR (lY _)
  obtain ⟨aG,aS,h⟩:=dQ h
  have aK:=pQ aS
  obtain ⟨aL,aT,h⟩:=dQ h
  have aM:=aDl aG aA _ aT
  obtain ⟨aN,aU,h⟩:=dQ h
  have aO:=aDl aG aB _ aU
  rcases cn h with ⟨aH,aV,h⟩ | ⟨aH,aV,h⟩
  ·have aW:=aIz (cf:=evF PP T aG) (fl:=0) (H:=(bAv aD aC aA aB)) (a:=aL) (b:=aN) aH
   have aX : evF PP T n 0 11 [(.agg [(iv aA.ID),(iv aA.From),(iv aA.To),(.sl false (List.map dW aA.Via)),(iv aA.Left),(iv aA.Right)]),(.agg [(iv aB.ID),(iv aB.From),(iv aB.To),(.sl false (List.map dW aB.Via)),(iv aB.Left),(iv aB.Right)])] (bF1 aD aC aA aB)=some (bt,(bAv aD aC aA aB)):=by
    rw [aK]; exact iT F11 (qb 9 aW<|qa 8 aO<|qa 6 aM<|q0) [] []
   exact nx_q (uG aC aD (IntKind.i64.wrap (aE + 1))) (qc 29 aX<|qa 24 aJ<|qa 20 aI<|qa 18 aF<|q0) [] [none,none] (aFo _ _ _) (rV n aC aD m (IntKind.i64.wrap (aE + 1)) r h)
  have aY:=aIz (cf:=evF PP T aG) (fl:=0) (H:=(bAv aD aC aA aB)) (a:=aL) (b:=aN) aH
  have aZ : evF PP T n 0 11 [(.agg [(iv aA.ID),(iv aA.From),(iv aA.To),(.sl false (List.map dW aA.Via)),(iv aA.Left),(iv aA.Right)]),(.agg [(iv aB.ID),(iv aB.From),(iv aB.To),(.sl false (List.map dW aB.Via)),(iv aB.Left),(iv aB.Right)])] (bF1 aD aC aA aB)=some (bf,(bAv aD aC aA aB)):=by
   rw [aK]; exact iT F11 (qb 9 aY<|qa 8 aO<|qa 6 aM<|q0) [] []
  obtain rfl:=si h
  exact eQ (some lv77) true (rX aC aD aA.ID aA.From aA.To aA.Via aA.Left aA.Right aB.ID aB.From aB.To aB.Via aB.Left aB.Right aA.ID aA.From aA.To aA.Via aA.Left aA.Right aB.ID aB.From aB.To aB.Via aB.Left aB.Right) (qc 29 aZ<|qa 24 aJ<|qa 20 aI<|qa 18 aF<|q0) [] [none,none] trivial
abbrev bIz (aB : GPlan) (aC : GPlan) (aA : (Int × Int × Int × (List GPoint) × Int × Int × Int × Int × Int × (List GPoint) × Int × Int × Int × Int × Int × (List GPoint) × Int × Int × Int × Int × Int × (List GPoint) × Int × Int)) : Heap:=[(.blk 3 [[(.vw (List.map dP aB.Nodes)),(.vw (List.map dR aB.Arcs)),(.vw (List.map dS aB.Faces))]]),(.blk 3 [[(.vw (List.map dP aC.Nodes)),(.vw (List.map dR aC.Arcs)),(.vw (List.map dS aC.Faces))]]),(.blk 6 [[(iv aA.1),(iv aA.2.1),(iv aA.2.2.1),(.sl false (List.map dW aA.2.2.2.1)),(iv aA.2.2.2.2.1),(iv aA.2.2.2.2.2.1)]]),(.blk 6 [[(iv aA.2.2.2.2.2.2.1),(iv aA.2.2.2.2.2.2.2.1),(iv aA.2.2.2.2.2.2.2.2.1),(.sl false (List.map dW aA.2.2.2.2.2.2.2.2.2.1)),(iv aA.2.2.2.2.2.2.2.2.2.2.1),(iv aA.2.2.2.2.2.2.2.2.2.2.2.1)]]),(.blk 6 [[(iv aA.2.2.2.2.2.2.2.2.2.2.2.2.1),(iv aA.2.2.2.2.2.2.2.2.2.2.2.2.2.1),(iv aA.2.2.2.2.2.2.2.2.2.2.2.2.2.2.1),(.sl false (List.map dW aA.2.2.2.2.2.2.2.2.2.2.2.2.2.2.2.1)),(iv aA.2.2.2.2.2.2.2.2.2.2.2.2.2.2.2.2.1),(iv aA.2.2.2.2.2.2.2.2.2.2.2.2.2.2.2.2.2.1)]]),(.blk 6 [[(iv aA.2.2.2.2.2.2.2.2.2.2.2.2.2.2.2.2.2.2.1),(iv aA.2.2.2.2.2.2.2.2.2.2.2.2.2.2.2.2.2.2.2.1),(iv aA.2.2.2.2.2.2.2.2.2.2.2.2.2.2.2.2.2.2.2.2.1),(.sl false (List.map dW aA.2.2.2.2.2.2.2.2.2.2.2.2.2.2.2.2.2.2.2.2.2.1)),(iv aA.2.2.2.2.2.2.2.2.2.2.2.2.2.2.2.2.2.2.2.2.2.2.1),(iv aA.2.2.2.2.2.2.2.2.2.2.2.2.2.2.2.2.2.2.2.2.2.2.2)]])]
def uF (aD : ((List GRegion) × Int)) (aC : ((List GRegion) × Int)) (aA : GPlan) (aB : GPlan) (aE : Int) : St:=⟨sp 32 [(1,(.sl false (List.map eP aD.1))),(2,(.fn 13 [])),(15,(.sl false (List.map eP aC.1))),(16,(iv ((aC.1.length : Nat) : Int))),(17,(iv aE))],[(.blk 3 [[(.vw (List.map dP aA.Nodes)),(.vw (List.map dR aA.Arcs)),(.vw (List.map dS aA.Faces))]]),(.blk 3 [[(.vw (List.map dP aB.Nodes)),(.vw (List.map dR aB.Arcs)),(.vw (List.map dS aB.Faces))]])]⟩
theorem aFn (aA : ((List GRegion) × Int)) (aB : ((List GRegion) × Int)) (aC : GPlan) (aD : GPlan) (aE : Int) : eS true 0 2 (uF aA aB aC aD aE).heap:=(by exact (clo rfl (clo rfl rfl)))
def iV (aS : ((List GRegion) × Int)) (aT : ((List GRegion) × Int)) (aA : GPlan) (aB : GPlan) (aC : Int) (aD : (List Int)) (aE : (List (List Int))) (aF : (List Int)) (aG : Int) (aH : (List Int)) (aI : (List (List Int))) (aJ : (List Int)) (aK : Int) (aL : (List Int)) (aM : (List (List Int))) (aN : (List Int)) (aO : Int) (aP : (List Int)) (aQ : (List (List Int))) (aR : (List Int)) : St:=⟨sp 32 [(6,bf)],[(.blk 3 [[(.vw (List.map dP aA.Nodes)),(.vw (List.map dR aA.Arcs)),(.vw (List.map dS aA.Faces))]]),(.blk 3 [[(.vw (List.map dP aB.Nodes)),(.vw (List.map dR aB.Arcs)),(.vw (List.map dS aB.Faces))]]),(.blk 4 [[(iv aC),(.sl false (List.map dS aD)),(.sl false (List.map eR aE)),(.sl false (List.map dS aF))]]),(.blk 4 [[(iv aG),(.sl false (List.map dS aH)),(.sl false (List.map eR aI)),(.sl false (List.map dS aJ))]]),(.blk 4 [[(iv aK),(.sl false (List.map dS aL)),(.sl false (List.map eR aM)),(.sl false (List.map dS aN))]]),(.blk 4 [[(iv aO),(.sl false (List.map dS aP)),(.sl false (List.map eR aQ)),(.sl false (List.map dS aR))]])]⟩
def rU (aC : ((List GRegion) × Int)) (aD : ((List GRegion) × Int)) (aA : GPlan) (aB : GPlan) : St:=⟨sp 32 [],[(.blk 3 [[(.vw (List.map dP aA.Nodes)),(.vw (List.map dR aA.Arcs)),(.vw (List.map dS aA.Faces))]]),(.blk 3 [[(.vw (List.map dP aB.Nodes)),(.vw (List.map dR aB.Arcs)),(.vw (List.map dS aB.Faces))]])]⟩
abbrev bIy (aA : GPlan) (aB : GPlan) (aC : GRegion) : Heap:=[(.blk 3 [[(.vw (List.map dP aA.Nodes)),(.vw (List.map dR aA.Arcs)),(.vw (List.map dS aA.Faces))]]),(.blk 3 [[(.vw (List.map dP aB.Nodes)),(.vw (List.map dR aB.Arcs)),(.vw (List.map dS aB.Faces))]]),(.blk 4 [(eP aC)])]
abbrev aU7 (aA : GPlan) (aB : GPlan) (aC : GRegion) (aD : GRegion) : Heap:=[(.blk 3 [[(.vw (List.map dP aA.Nodes)),(.vw (List.map dR aA.Arcs)),(.vw (List.map dS aA.Faces))]]),(.blk 3 [[(.vw (List.map dP aB.Nodes)),(.vw (List.map dR aB.Arcs)),(.vw (List.map dS aB.Faces))]]),(.blk 4 [(eP aC)]),(.blk 4 [(eP aD)])]
abbrev aBp (aA : GPlan) (aB : GPlan) (aC : GRegion) (aD : GRegion) : Heap:=[(.blk 3 [[(.vw (List.map dP aA.Nodes)),(.vw (List.map dR aA.Arcs)),(.vw (List.map dS aA.Faces))]]),(.blk 3 [[(.vw (List.map dP aB.Nodes)),(.vw (List.map dR aB.Arcs)),(.vw (List.map dS aB.Faces))]]),(.blk 4 [(eP aC)]),(.blk 4 [(eP aD)]),(.blk 4 [(eP aC)]),(.blk 4 [(eP aD)])]
def uE (aB : GRegion) (aA : GRegion) (aC : GPlan) (aD : GPlan) (aE : Int) : St:=⟨sp 32 [(1,(.sl false (List.map eR aB.Inner))),(2,(.fn 24 [])),(15,(.sl false (List.map eR aA.Inner))),(16,(iv ((aA.Inner.length : Nat) : Int))),(17,(iv aE))],[(.blk 3 [[(.vw (List.map dP aC.Nodes)),(.vw (List.map dR aC.Arcs)),(.vw (List.map dS aC.Faces))]]),(.blk 3 [[(.vw (List.map dP aD.Nodes)),(.vw (List.map dR aD.Arcs)),(.vw (List.map dS aD.Faces))]]),(.blk 4 [(eP aA)]),(.blk 4 [(eP aB)]),(.blk 4 [(eP aA)]),(.blk 4 [(eP aB)])]⟩
theorem aFm (aA : GRegion) (aB : GRegion) (aC : GPlan) (aD : GPlan) (aE : Int) : eS true 0 6 (uE aA aB aC aD aE).heap:=(by exact (clo rfl (clo rfl (clo rfl (clo rfl (clo rfl (clo rfl rfl)))))))
def rS (aC : GRegion) (aD : GRegion) (aA : GPlan) (aB : GPlan) : St:=⟨sp 32 [(6,bf)],[(.blk 3 [[(.vw (List.map dP aA.Nodes)),(.vw (List.map dR aA.Arcs)),(.vw (List.map dS aA.Faces))]]),(.blk 3 [[(.vw (List.map dP aB.Nodes)),(.vw (List.map dR aB.Arcs)),(.vw (List.map dS aB.Faces))]]),(.blk 4 [(eP aD)]),(.blk 4 [(eP aC)]),(.blk 4 [(eP aD)]),(.blk 4 [(eP aC)])]⟩
def rR (aC : GRegion) (aD : GRegion) (aA : GPlan) (aB : GPlan) : St:=⟨sp 32 [],[(.blk 3 [[(.vw (List.map dP aA.Nodes)),(.vw (List.map dR aA.Arcs)),(.vw (List.map dS aA.Faces))]]),(.blk 3 [[(.vw (List.map dP aB.Nodes)),(.vw (List.map dR aB.Arcs)),(.vw (List.map dS aB.Faces))]]),(.blk 4 [(eP aD)]),(.blk 4 [(eP aC)]),(.blk 4 [(eP aD)]),(.blk 4 [(eP aC)])]⟩
def lL (n : Nat) (aC : GRegion) (aB : GRegion) (aD : GPlan) (aE : GPlan) : Nat→Int→Option (Unit ⊕ Unit)
 | 0,_=>none
 | m + 1,aA=>(cnd (decide (aA < ((aB.Inner.length : Nat) : Int))) (bnd (idx aB.Inner aA) fun aF=>(bnd (idx aC.Inner aA) fun aG=>(bnd (prd n) fun aH=>(bnd (mO aH aF aG) fun aI=>(cnd (aI) (lL n aC aB aD aE m (IntKind.i64.wrap (aA + 1))) (some (Sum.inl ()))))))) (some (Sum.inr ())))
theorem rQ (n : Nat) (aA : GRegion) (aB : GRegion) (aC : GPlan) (aD : GPlan) : ∀ (m : Nat) (aE : Int) (r : (Unit ⊕ Unit)),lL n aA aB aC aD m aE=some r→eT [] lv18 true 0 6 (eG (eO (some lv77) true 0 6) (evC PP (evF PP T n) n 0 bIj) m (uE aA aB aC aD aE))=(match r with | (.inl r)=>some (.ret,rS aA aB aC aD) | (.inr r)=>some ((.exit 0),rR aA aB aC aD))
 | 0,_,_,h=>by cases h
 | m + 1,aE,r,h=>by
  rw [lL] at h
  rcases cn h with ⟨aO,aF,h⟩ | ⟨aO,aF,h⟩
  rotate_left
  ·obtain rfl:=si h
   exact eQ (some lv77) true (rR aA aB aC aD) (qa 18 aF<|q0) [] [] (by exact (clo rfl (clo rfl (clo rfl (clo rfl (clo rfl (clo rfl rfl)))))))
  obtain ⟨aG,aP,h⟩:=dQ h
  have aJ:=idxl (H:=(aBp aC aD aB aA)) (f:=false) (c:=eR) aP (pZ _)
  obtain ⟨aH,aQ,h⟩:=dQ h
  have aK:=idxl (H:=(aBp aC aD aB aA)) (f:=false) (c:=eR) aQ (pZ _)
  obtain ⟨aL,aR,h⟩:=dQ h
  have aM:=pQ aR
  obtain ⟨aX,aN,h⟩:=dQ h
  rcases cn h with ⟨aI,aS,h⟩ | ⟨aI,aS,h⟩
  rotate_left
  ·have aT:=by have q:=kD aL aG aH _ aN; rw [aI] at q; exact q
   have aU : evF PP T n 0 24 [(.sl false (List.map dS aG)),(.sl false (List.map dS aH))] (aBp aC aD aB aA)=some (bf,(aBp aC aD aB aA)):=by
    rw [aM]; exact iT F24 (qa 7 aT<|q0) [] []
   obtain rfl:=si h
   exact eQ (some lv77) true (rS aA aB aC aD) (qb 29 aU<|qa 24 aK<|qa 20 aJ<|qa 18 aF<|q0) [] [] trivial
  have aV:=by have q:=kD aL aG aH _ aN; rw [aI] at q; exact q
  have aW : evF PP T n 0 24 [(.sl false (List.map dS aG)),(.sl false (List.map dS aH))] (aBp aC aD aB aA)=some (bt,(aBp aC aD aB aA)):=by
   rw [aM]; exact iT F24 (qa 7 aV<|q0) [] []
  exact nx_q (uE aA aB aC aD (IntKind.i64.wrap (aE + 1))) (qb 29 aW<|qa 24 aK<|qa 20 aJ<|qa 18 aF<|q0) [] [] (aFm _ _ _ _ _) (rQ n aA aB aC aD m (IntKind.i64.wrap (aE + 1)) r h)
def kB (n : Nat) (aF : ((List GRegion) × Int)) (aD : ((List GRegion) × Int)) (aG : GPlan) (aH : GPlan) : Nat→Int→Option ((Int × (List Int) × (List (List Int)) × (List Int) × Int × (List Int) × (List (List Int)) × (List Int) × Int × (List Int) × (List (List Int)) × (List Int) × Int × (List Int) × (List (List Int)) × (List Int)) ⊕ Unit)
 | 0,_=>none
 | m + 1,aC=>(cnd (decide (aC < ((aD.1.length : Nat) : Int))) (bnd (idx aD.1 aC) fun aA=>(bnd (idx aF.1 aC) fun aB=>(bnd (prd n) fun aE=>(cnd (aA.Face == aB.Face) (bnd (mO aE aA.Outer aB.Outer) fun aJ=>(cnd (aJ) (bnd (mO aE aA.Alone aB.Alone) fun aK=>(cnd (aK) (bnd (prd aE) fun aI=>(cnd (((aA.Inner.length : Nat) : Int) != ((aB.Inner.length : Nat) : Int)) (some (Sum.inl (aA.Face,aA.Outer,aA.Inner,aA.Alone,aB.Face,aB.Outer,aB.Inner,aB.Alone,aA.Face,aA.Outer,aA.Inner,aA.Alone,aB.Face,aB.Outer,aB.Inner,aB.Alone))) (bnd2 (lL aI aB aA aG aH aI 0) (fun aL=>(some (Sum.inl (aA.Face,aA.Outer,aA.Inner,aA.Alone,aB.Face,aB.Outer,aB.Inner,aB.Alone,aA.Face,aA.Outer,aA.Inner,aA.Alone,aB.Face,aB.Outer,aB.Inner,aB.Alone)))) (fun aM=>(kB n aF aD aG aH m (IntKind.i64.wrap (aC + 1))))))) (some (Sum.inl (aA.Face,aA.Outer,aA.Inner,aA.Alone,aB.Face,aB.Outer,aB.Inner,aB.Alone,aA.Face,aA.Outer,aA.Inner,aA.Alone,aB.Face,aB.Outer,aB.Inner,aB.Alone))))) (some (Sum.inl (aA.Face,aA.Outer,aA.Inner,aA.Alone,aB.Face,aB.Outer,aB.Inner,aB.Alone,aA.Face,aA.Outer,aA.Inner,aA.Alone,aB.Face,aB.Outer,aB.Inner,aB.Alone))))) (some (Sum.inl (aA.Face,aA.Outer,aA.Inner,aA.Alone,aB.Face,aB.Outer,aB.Inner,aB.Alone,aA.Face,aA.Outer,aA.Inner,aA.Alone,aB.Face,aB.Outer,aB.Inner,aB.Alone))))))) (some (Sum.inr ())))
theorem rT (n : Nat) (aE : ((List GRegion) × Int)) (aF : ((List GRegion) × Int)) (aC : GPlan) (aD : GPlan) : ∀ (m : Nat) (aN : Int) (r : ((Int × (List Int) × (List (List Int)) × (List Int) × Int × (List Int) × (List (List Int)) × (List Int) × Int × (List Int) × (List (List Int)) × (List Int) × Int × (List Int) × (List (List Int)) × (List Int)) ⊕ Unit)),kB n aE aF aC aD m aN=some r→eT [] lv18 true 0 2 (eG (eO (some lv77) true 0 2) (evC PP (evF PP T n) n 0 bIl) m (uF aE aF aC aD aN))=(match r with | (.inl r)=>some (.ret,iV aE aF aC aD r.1 r.2.1 r.2.2.1 r.2.2.2.1 r.2.2.2.2.1 r.2.2.2.2.2.1 r.2.2.2.2.2.2.1 r.2.2.2.2.2.2.2.1 r.2.2.2.2.2.2.2.2.1 r.2.2.2.2.2.2.2.2.2.1 r.2.2.2.2.2.2.2.2.2.2.1 r.2.2.2.2.2.2.2.2.2.2.2.1 r.2.2.2.2.2.2.2.2.2.2.2.2.1 r.2.2.2.2.2.2.2.2.2.2.2.2.2.1 r.2.2.2.2.2.2.2.2.2.2.2.2.2.2.1 r.2.2.2.2.2.2.2.2.2.2.2.2.2.2.2) | (.inr r)=>some ((.exit 0),rU aE aF aC aD))
 | 0,_,_,h=>by cases h
 | m + 1,aN,r,h=>by
  rw [kB] at h
  rcases cn h with ⟨ac,aG,h⟩ | ⟨ac,aG,h⟩
  rotate_left
  ·obtain rfl:=si h
   exact eQ (some lv77) true (rU aE aF aC aD) (qa 18 aG<|q0) [] [] (by exact (clo rfl (clo rfl rfl)))
  obtain ⟨aA,ad,h⟩:=dQ h
  have aK:=idxl (H:=(hp95 aC aD)) (f:=false) (c:=eP) ad (aC2 _)
  obtain ⟨aB,ae,h⟩:=dQ h
  have aL:=idxl (H:=(bIy aC aD aA)) (f:=false) (c:=eP) ae (aC2 _)
  obtain ⟨aH,af,h⟩:=dQ h
  have aM:=pQ af
  rcases cn h with ⟨ag,aI,h⟩ | ⟨ag,aI,h⟩
  rotate_left
  ·have ah : evF PP T n 0 13 [(.agg [(iv aA.Face),(.sl false (List.map dS aA.Outer)),(.sl false (List.map eR aA.Inner)),(.sl false (List.map dS aA.Alone))]),(.agg [(iv aB.Face),(.sl false (List.map dS aB.Outer)),(.sl false (List.map eR aB.Inner)),(.sl false (List.map dS aB.Alone))])] (aU7 aC aD aA aB)=some (bf,(aBp aC aD aA aB)):=by
    rw [aM]; exact iT F13 (qa 9 aI<|q0) [] []
   obtain rfl:=si h
   exact eQ (some lv77) true (iV aE aF aC aD aA.Face aA.Outer aA.Inner aA.Alone aB.Face aB.Outer aB.Inner aB.Alone aA.Face aA.Outer aA.Inner aA.Alone aB.Face aB.Outer aB.Inner aB.Alone) (qc 29 ah<|qa 24 aL<|qa 20 aK<|qa 18 aG<|q0) [] [none,none] trivial
  obtain ⟨ay,aY,h⟩:=dQ h
  rcases cn h with ⟨aQ,ai,h⟩ | ⟨aQ,ai,h⟩
  rotate_left
  ·have aj:=by have q:=kD aH aA.Outer aB.Outer _ aY; rw [aQ] at q; exact q
   have ak : evF PP T n 0 13 [(.agg [(iv aA.Face),(.sl false (List.map dS aA.Outer)),(.sl false (List.map eR aA.Inner)),(.sl false (List.map dS aA.Alone))]),(.agg [(iv aB.Face),(.sl false (List.map dS aB.Outer)),(.sl false (List.map eR aB.Inner)),(.sl false (List.map dS aB.Alone))])] (aU7 aC aD aA aB)=some (bf,(aBp aC aD aA aB)):=by
    rw [aM]; exact iT F13 (qa 15 aj<|qa 9 aI<|q0) [] []
   obtain rfl:=si h
   exact eQ (some lv77) true (iV aE aF aC aD aA.Face aA.Outer aA.Inner aA.Alone aB.Face aB.Outer aB.Inner aB.Alone aA.Face aA.Outer aA.Inner aA.Alone aB.Face aB.Outer aB.Inner aB.Alone) (qc 29 ak<|qa 24 aL<|qa 20 aK<|qa 18 aG<|q0) [] [none,none] trivial
  have aO:=by have q:=kD aH aA.Outer aB.Outer _ aY; rw [aQ] at q; exact q
  obtain ⟨az,aZ,h⟩:=dQ h
  rcases cn h with ⟨aR,al,h⟩ | ⟨aR,al,h⟩
  rotate_left
  ·have am:=by have q:=kD aH aA.Alone aB.Alone _ aZ; rw [aR] at q; exact q
   have an : evF PP T n 0 13 [(.agg [(iv aA.Face),(.sl false (List.map dS aA.Outer)),(.sl false (List.map eR aA.Inner)),(.sl false (List.map dS aA.Alone))]),(.agg [(iv aB.Face),(.sl false (List.map dS aB.Outer)),(.sl false (List.map eR aB.Inner)),(.sl false (List.map dS aB.Alone))])] (aU7 aC aD aA aB)=some (bf,(aBp aC aD aA aB)):=by
    rw [aM]; exact iT F13 (qa 22 am<|qa 15 aO<|qa 9 aI<|q0) [] []
   obtain rfl:=si h
   exact eQ (some lv77) true (iV aE aF aC aD aA.Face aA.Outer aA.Inner aA.Alone aB.Face aB.Outer aB.Inner aB.Alone aA.Face aA.Outer aA.Inner aA.Alone aB.Face aB.Outer aB.Inner aB.Alone) (qc 29 an<|qa 24 aL<|qa 20 aK<|qa 18 aG<|q0) [] [none,none] trivial
  have aS:=by have q:=kD aH aA.Alone aB.Alone _ aZ; rw [aR] at q; exact q
  obtain ⟨aJ,ao,h⟩:=dQ h
  have aT:=pQ ao
  have aU:=nP (P:=PP) (cf:=evF PP T aJ) (fl:=0) (H:=(aBp aC aD aA aB)) (f:=false) (c:=eR) (l:=aA.Inner)
  have aV:=nP (P:=PP) (cf:=evF PP T aJ) (fl:=0) (H:=(aBp aC aD aA aB)) (f:=false) (c:=eR) (l:=aB.Inner)
  rcases cn h with ⟨ap,aP,h⟩ | ⟨ap,aP,h⟩
  ·have aq : evF PP T aH 0 23 [(.sl false (List.map eR aA.Inner)),(.sl false (List.map eR aB.Inner)),(.fn 24 [])] (aBp aC aD aA aB)=some (bf,(aBp aC aD aA aB)):=by
    rw [aT]; exact iT F23 (qa 14 aP<|qb 13 aV<|qb 11 aU<|q0) [] []
   have ar : evF PP T n 0 13 [(.agg [(iv aA.Face),(.sl false (List.map dS aA.Outer)),(.sl false (List.map eR aA.Inner)),(.sl false (List.map dS aA.Alone))]),(.agg [(iv aB.Face),(.sl false (List.map dS aB.Outer)),(.sl false (List.map eR aB.Inner)),(.sl false (List.map dS aB.Alone))])] (aU7 aC aD aA aB)=some (bf,(aBp aC aD aA aB)):=by
    rw [aM]; exact iT F13 (qb 29 aq<|qa 22 aS<|qa 15 aO<|qa 9 aI<|q0) [] []
   obtain rfl:=si h
   exact eQ (some lv77) true (iV aE aF aC aD aA.Face aA.Outer aA.Inner aA.Alone aB.Face aB.Outer aB.Inner aB.Alone aA.Face aA.Outer aA.Inner aA.Alone aB.Face aB.Outer aB.Inner aB.Alone) (qc 29 ar<|qa 24 aL<|qa 20 aK<|qa 18 aG<|q0) [] [none,none] trivial
  have aa:=nP (P:=PP) (cf:=evF PP T aJ) (fl:=0) (H:=(aBp aC aD aA aB)) (f:=false) (c:=eR) (l:=aA.Inner)
  have ab : eS true 0 6 [(.blk 3 [[(.vw (List.map dP aC.Nodes)),(.vw (List.map dR aC.Arcs)),(.vw (List.map dS aC.Faces))]]),(.blk 3 [[(.vw (List.map dP aD.Nodes)),(.vw (List.map dR aD.Arcs)),(.vw (List.map dS aD.Faces))]]),(.blk 4 [(eP aA)]),(.blk 4 [(eP aB)]),(.blk 4 [(eP aA)]),(.blk 4 [(eP aB)])]:=(by exact (clo rfl (clo rfl (clo rfl (clo rfl (clo rfl (clo rfl rfl)))))))
  rcases gF h with ⟨bA,aW,h⟩ | ⟨bB,aW,h⟩
  rotate_left
  ·have aX:=rQ aJ aB aA aC aD aJ 0 _ aW
   have au : evF PP T aH 0 23 [(.sl false (List.map eR aA.Inner)),(.sl false (List.map eR aB.Inner)),(.fn 24 [])] (aBp aC aD aA aB)=some (bt,(aBp aC aD aA aB)):=by
    rw [aT]; exact iT F23 (qp aX<|qp ab<|qb 16 aa<|qa 14 aP<|qb 13 aV<|qb 11 aU<|q0) [((.exit 0),rR aB aA aC aD)] []
   have av : evF PP T n 0 13 [(.agg [(iv aA.Face),(.sl false (List.map dS aA.Outer)),(.sl false (List.map eR aA.Inner)),(.sl false (List.map dS aA.Alone))]),(.agg [(iv aB.Face),(.sl false (List.map dS aB.Outer)),(.sl false (List.map eR aB.Inner)),(.sl false (List.map dS aB.Alone))])] (aU7 aC aD aA aB)=some (bt,(aBp aC aD aA aB)):=by
    rw [aM]; exact iT F13 (qb 29 au<|qa 22 aS<|qa 15 aO<|qa 9 aI<|q0) [] []
   exact nx_q (uF aE aF aC aD (IntKind.i64.wrap (aN + 1))) (qc 29 av<|qa 24 aL<|qa 20 aK<|qa 18 aG<|q0) [] [none,none] (aFn _ _ _ _ _) (rT n aE aF aC aD m (IntKind.i64.wrap (aN + 1)) r h)
  have aX:=rQ aJ aB aA aC aD aJ 0 _ aW
  have aw : evF PP T aH 0 23 [(.sl false (List.map eR aA.Inner)),(.sl false (List.map eR aB.Inner)),(.fn 24 [])] (aBp aC aD aA aB)=some (bf,(aBp aC aD aA aB)):=by
   rw [aT]; exact iT F23 (qp aX<|qp ab<|qb 16 aa<|qa 14 aP<|qb 13 aV<|qb 11 aU<|q0) [(.ret,rS aB aA aC aD)] []
  have ax : evF PP T n 0 13 [(.agg [(iv aA.Face),(.sl false (List.map dS aA.Outer)),(.sl false (List.map eR aA.Inner)),(.sl false (List.map dS aA.Alone))]),(.agg [(iv aB.Face),(.sl false (List.map dS aB.Outer)),(.sl false (List.map eR aB.Inner)),(.sl false (List.map dS aB.Alone))])] (aU7 aC aD aA aB)=some (bf,(aBp aC aD aA aB)):=by
   rw [aM]; exact iT F13 (qb 29 aw<|qa 22 aS<|qa 15 aO<|qa 9 aI<|q0) [] []
  obtain rfl:=si h
  exact eQ (some lv77) true (iV aE aF aC aD aA.Face aA.Outer aA.Inner aA.Alone aB.Face aB.Outer aB.Inner aB.Alone aA.Face aA.Outer aA.Inner aA.Alone aB.Face aB.Outer aB.Inner aB.Alone) (qc 29 ax<|qa 24 aL<|qa 20 aK<|qa 18 aG<|q0) [] [none,none] trivial
abbrev bIx (aB : GPlan) (aC : GPlan) (aA : (Int × (List Int) × (List (List Int)) × (List Int) × Int × (List Int) × (List (List Int)) × (List Int) × Int × (List Int) × (List (List Int)) × (List Int) × Int × (List Int) × (List (List Int)) × (List Int))) : Heap:=[(.blk 3 [[(.vw (List.map dP aB.Nodes)),(.vw (List.map dR aB.Arcs)),(.vw (List.map dS aB.Faces))]]),(.blk 3 [[(.vw (List.map dP aC.Nodes)),(.vw (List.map dR aC.Arcs)),(.vw (List.map dS aC.Faces))]]),(.blk 4 [[(iv aA.1),(.sl false (List.map dS aA.2.1)),(.sl false (List.map eR aA.2.2.1)),(.sl false (List.map dS aA.2.2.2.1))]]),(.blk 4 [[(iv aA.2.2.2.2.1),(.sl false (List.map dS aA.2.2.2.2.2.1)),(.sl false (List.map eR aA.2.2.2.2.2.2.1)),(.sl false (List.map dS aA.2.2.2.2.2.2.2.1))]]),(.blk 4 [[(iv aA.2.2.2.2.2.2.2.2.1),(.sl false (List.map dS aA.2.2.2.2.2.2.2.2.2.1)),(.sl false (List.map eR aA.2.2.2.2.2.2.2.2.2.2.1)),(.sl false (List.map dS aA.2.2.2.2.2.2.2.2.2.2.2.1))]]),(.blk 4 [[(iv aA.2.2.2.2.2.2.2.2.2.2.2.2.1),(.sl false (List.map dS aA.2.2.2.2.2.2.2.2.2.2.2.2.2.1)),(.sl false (List.map eR aA.2.2.2.2.2.2.2.2.2.2.2.2.2.2.1)),(.sl false (List.map dS aA.2.2.2.2.2.2.2.2.2.2.2.2.2.2.2))]])]
def jR : Nat→GPlan→GPlan→Option Bool
 | 0,_,_=>none
 | n + 1,aA,aB=>(bnd (lJ n aA) fun aC=>(cnd (aC.2 != 0) (some false) (bnd (lJ n aB) fun aD=>(cnd (aD.2 != 0) (some false) (bnd (prd n) fun aE=>(cnd (((aA.Nodes.length : Nat) : Int) != ((aB.Nodes.length : Nat) : Int)) (some false) (bnd2 (mM aE aB aA aE 0) (fun aH=>(some false)) (fun aI=>(bnd (prd n) fun aF=>(cnd (((aA.Arcs.length : Nat) : Int) != ((aB.Arcs.length : Nat) : Int)) (some false) (bnd2 (lM aF aB aA aF 0) (fun aJ=>(some false)) (fun aK=>(bnd (prd n) fun aG=>(cnd (((aC.1.length : Nat) : Int) != ((aD.1.length : Nat) : Int)) (some false) (bnd2 (kB aG aD aC aA aB aG 0) (fun aL=>(some false)) (fun aM=>(some true)))))))))))))))))
theorem eZ (n : Nat) (aA : GPlan) (aB : GPlan) (r : Bool) (h : jR n aA aB=some r) : pv PP T n 3 [(kU aA),(kU aB)]=some (bv r):=by
 cases n with
 | zero=>cases h
 | succ n =>
  rw [jR] at h
  obtain ⟨aG,ao,h⟩:=dQ h
  have aH:=aB2 n aA _ ao
  rcases cn h with ⟨ap,aF,h⟩ | ⟨ap,aF,h⟩
  ·obtain rfl:=si h
   exact pv_q F3 (qa 14 aF<|qa 10 aH<|q0) [] []
  obtain ⟨aJ,aq,h⟩:=dQ h
  have aK:=aB2 n aB _ aq
  rcases cn h with ⟨ar,aI,h⟩ | ⟨ar,aI,h⟩
  ·obtain rfl:=si h
   exact pv_q F3 (qa 21 aI<|qa 17 aK<|qa 14 aF<|qa 10 aH<|q0) [] []
  obtain ⟨aL,au,h⟩:=dQ h
  have aS:=pQ au
  have aT:=iM (P:=PP) (cf:=evF PP T aL) (fl:=0) (H:=(hp95 aA aB)) (c:=dP) (l:=aA.Nodes)
  have aU:=iM (P:=PP) (cf:=evF PP T aL) (fl:=0) (H:=(hp95 aA aB)) (c:=dP) (l:=aB.Nodes)
  rcases cn h with ⟨av,aP,h⟩ | ⟨av,aP,h⟩
  ·have aw : evF PP T n 0 8 [(.vw (List.map dP aA.Nodes)),(.vw (List.map dP aB.Nodes)),(.fn 9 [])] (hp95 aA aB)=some (bf,(hp95 aA aB)):=by
    rw [aS]; exact iT F8 (qa 14 aP<|qb 13 aU<|qb 11 aT<|q0) [] []
   obtain rfl:=si h
   exact pv_q F3 (qb 26 aw<|qa 21 aI<|qa 17 aK<|qa 14 aF<|qa 10 aH<|q0) [] []
  have ai:=iM (P:=PP) (cf:=evF PP T aL) (fl:=0) (H:=(hp95 aA aB)) (c:=dP) (l:=aA.Nodes)
  have aj : eS true 0 2 [(.blk 3 [[(.vw (List.map dP aA.Nodes)),(.vw (List.map dR aA.Arcs)),(.vw (List.map dS aA.Faces))]]),(.blk 3 [[(.vw (List.map dP aB.Nodes)),(.vw (List.map dR aB.Arcs)),(.vw (List.map dS aB.Faces))]])]:=(by exact (clo rfl (clo rfl rfl)))
  rcases gF h with ⟨aE,aV,h⟩ | ⟨bH,aV,h⟩
  ·have aW:=uB aL aB aA aL 0 _ aV
   have ax : evF PP T n 0 8 [(.vw (List.map dP aA.Nodes)),(.vw (List.map dP aB.Nodes)),(.fn 9 [])] (hp95 aA aB)=some (bf,(hp99 aA aB aE)):=by
    rw [aS]; exact iT F8 (qp aW<|qp aj<|qb 16 ai<|qa 14 aP<|qb 13 aU<|qb 11 aT<|q0) [(.ret,uD aB aA aE.1 aE.2.1 aE.2.2.1 aE.2.2.2.1 aE.2.2.2.2.1 aE.2.2.2.2.2.1 aE.2.2.2.2.2.2.1 aE.2.2.2.2.2.2.2.1 aE.2.2.2.2.2.2.2.2.1 aE.2.2.2.2.2.2.2.2.2.1 aE.2.2.2.2.2.2.2.2.2.2.1 aE.2.2.2.2.2.2.2.2.2.2.2)] []
   obtain rfl:=si h
   exact pv_q F3 (qc 26 ax<|qa 21 aI<|qa 17 aK<|qa 14 aF<|qa 10 aH<|q0) [] []
  have aW:=uB aL aB aA aL 0 _ aV
  have aO : evF PP T n 0 8 [(.vw (List.map dP aA.Nodes)),(.vw (List.map dP aB.Nodes)),(.fn 9 [])] (hp95 aA aB)=some (bt,(hp95 aA aB)):=by
   rw [aS]; exact iT F8 (qp aW<|qp aj<|qb 16 ai<|qa 14 aP<|qb 13 aU<|qb 11 aT<|q0) [((.exit 0),uC aB aA)] []
  obtain ⟨aM,ay,h⟩:=dQ h
  have aX:=pQ ay
  have aY:=iM (P:=PP) (cf:=evF PP T aM) (fl:=0) (H:=(hp95 aA aB)) (c:=dR) (l:=aA.Arcs)
  have aZ:=iM (P:=PP) (cf:=evF PP T aM) (fl:=0) (H:=(hp95 aA aB)) (c:=dR) (l:=aB.Arcs)
  rcases cn h with ⟨az,aQ,h⟩ | ⟨az,aQ,h⟩
  ·have bA : evF PP T n 0 10 [(.vw (List.map dR aA.Arcs)),(.vw (List.map dR aB.Arcs)),(.fn 11 [])] (hp95 aA aB)=some (bf,(hp95 aA aB)):=by
    rw [aX]; exact iT F10 (qa 14 aQ<|qb 13 aZ<|qb 11 aY<|q0) [] []
   obtain rfl:=si h
   exact pv_q F3 (qb 32 bA<|qb 26 aO<|qa 21 aI<|qa 17 aK<|qa 14 aF<|qa 10 aH<|q0) [] []
  have ak:=iM (P:=PP) (cf:=evF PP T aM) (fl:=0) (H:=(hp95 aA aB)) (c:=dR) (l:=aA.Arcs)
  have al : eS true 0 2 [(.blk 3 [[(.vw (List.map dP aA.Nodes)),(.vw (List.map dR aA.Arcs)),(.vw (List.map dS aA.Faces))]]),(.blk 3 [[(.vw (List.map dP aB.Nodes)),(.vw (List.map dR aB.Arcs)),(.vw (List.map dS aB.Faces))]])]:=(by exact (clo rfl (clo rfl rfl)))
  rcases gF h with ⟨aC,aa,h⟩ | ⟨bI,aa,h⟩
  ·have ab:=rV aM aB aA aM 0 _ aa
   have bB : evF PP T n 0 10 [(.vw (List.map dR aA.Arcs)),(.vw (List.map dR aB.Arcs)),(.fn 11 [])] (hp95 aA aB)=some (bf,(bIz aA aB aC)):=by
    rw [aX]; exact iT F10 (qp ab<|qp al<|qb 16 ak<|qa 14 aQ<|qb 13 aZ<|qb 11 aY<|q0) [(.ret,rX aB aA aC.1 aC.2.1 aC.2.2.1 aC.2.2.2.1 aC.2.2.2.2.1 aC.2.2.2.2.2.1 aC.2.2.2.2.2.2.1 aC.2.2.2.2.2.2.2.1 aC.2.2.2.2.2.2.2.2.1 aC.2.2.2.2.2.2.2.2.2.1 aC.2.2.2.2.2.2.2.2.2.2.1 aC.2.2.2.2.2.2.2.2.2.2.2.1 aC.2.2.2.2.2.2.2.2.2.2.2.2.1 aC.2.2.2.2.2.2.2.2.2.2.2.2.2.1 aC.2.2.2.2.2.2.2.2.2.2.2.2.2.2.1 aC.2.2.2.2.2.2.2.2.2.2.2.2.2.2.2.1 aC.2.2.2.2.2.2.2.2.2.2.2.2.2.2.2.2.1 aC.2.2.2.2.2.2.2.2.2.2.2.2.2.2.2.2.2.1 aC.2.2.2.2.2.2.2.2.2.2.2.2.2.2.2.2.2.2.1 aC.2.2.2.2.2.2.2.2.2.2.2.2.2.2.2.2.2.2.2.1 aC.2.2.2.2.2.2.2.2.2.2.2.2.2.2.2.2.2.2.2.2.1 aC.2.2.2.2.2.2.2.2.2.2.2.2.2.2.2.2.2.2.2.2.2.1 aC.2.2.2.2.2.2.2.2.2.2.2.2.2.2.2.2.2.2.2.2.2.2.1 aC.2.2.2.2.2.2.2.2.2.2.2.2.2.2.2.2.2.2.2.2.2.2.2)] []
   obtain rfl:=si h
   exact pv_q F3 (qc 32 bB<|qb 26 aO<|qa 21 aI<|qa 17 aK<|qa 14 aF<|qa 10 aH<|q0) [] []
  have ab:=rV aM aB aA aM 0 _ aa
  have ac : evF PP T n 0 10 [(.vw (List.map dR aA.Arcs)),(.vw (List.map dR aB.Arcs)),(.fn 11 [])] (hp95 aA aB)=some (bt,(hp95 aA aB)):=by
   rw [aX]; exact iT F10 (qp ab<|qp al<|qb 16 ak<|qa 14 aQ<|qb 13 aZ<|qb 11 aY<|q0) [((.exit 0),rW aB aA)] []
  obtain ⟨aN,bC,h⟩:=dQ h
  have ad:=pQ bC
  have ae:=nP (P:=PP) (cf:=evF PP T aN) (fl:=0) (H:=(hp95 aA aB)) (f:=false) (c:=eP) (l:=aG.1)
  have af:=nP (P:=PP) (cf:=evF PP T aN) (fl:=0) (H:=(hp95 aA aB)) (f:=false) (c:=eP) (l:=aJ.1)
  rcases cn h with ⟨bD,aR,h⟩ | ⟨bD,aR,h⟩
  ·have bE : evF PP T n 0 12 [(.sl false (List.map eP aG.1)),(.sl false (List.map eP aJ.1)),(.fn 13 [])] (hp95 aA aB)=some (bf,(hp95 aA aB)):=by
    rw [ad]; exact iT F12 (qa 14 aR<|qb 13 af<|qb 11 ae<|q0) [] []
   obtain rfl:=si h
   exact pv_q F3 (qb 37 bE<|qb 32 ac<|qb 26 aO<|qa 21 aI<|qa 17 aK<|qa 14 aF<|qa 10 aH<|q0) [] []
  have am:=nP (P:=PP) (cf:=evF PP T aN) (fl:=0) (H:=(hp95 aA aB)) (f:=false) (c:=eP) (l:=aG.1)
  have an : eS true 0 2 [(.blk 3 [[(.vw (List.map dP aA.Nodes)),(.vw (List.map dR aA.Arcs)),(.vw (List.map dS aA.Faces))]]),(.blk 3 [[(.vw (List.map dP aB.Nodes)),(.vw (List.map dR aB.Arcs)),(.vw (List.map dS aB.Faces))]])]:=(by exact (clo rfl (clo rfl rfl)))
  rcases gF h with ⟨aD,ag,h⟩ | ⟨bJ,ag,h⟩
  rotate_left
  ·have ah:=rT aN aJ aG aA aB aN 0 _ ag
   have bF : evF PP T n 0 12 [(.sl false (List.map eP aG.1)),(.sl false (List.map eP aJ.1)),(.fn 13 [])] (hp95 aA aB)=some (bt,(hp95 aA aB)):=by
    rw [ad]; exact iT F12 (qp ah<|qp an<|qb 16 am<|qa 14 aR<|qb 13 af<|qb 11 ae<|q0) [((.exit 0),rU aJ aG aA aB)] []
   obtain rfl:=si h
   exact pv_q F3 (qb 37 bF<|qb 32 ac<|qb 26 aO<|qa 21 aI<|qa 17 aK<|qa 14 aF<|qa 10 aH<|q0) [] []
  have ah:=rT aN aJ aG aA aB aN 0 _ ag
  have bG : evF PP T n 0 12 [(.sl false (List.map eP aG.1)),(.sl false (List.map eP aJ.1)),(.fn 13 [])] (hp95 aA aB)=some (bf,(bIx aA aB aD)):=by
   rw [ad]; exact iT F12 (qp ah<|qp an<|qb 16 am<|qa 14 aR<|qb 13 af<|qb 11 ae<|q0) [(.ret,iV aJ aG aA aB aD.1 aD.2.1 aD.2.2.1 aD.2.2.2.1 aD.2.2.2.2.1 aD.2.2.2.2.2.1 aD.2.2.2.2.2.2.1 aD.2.2.2.2.2.2.2.1 aD.2.2.2.2.2.2.2.2.1 aD.2.2.2.2.2.2.2.2.2.1 aD.2.2.2.2.2.2.2.2.2.2.1 aD.2.2.2.2.2.2.2.2.2.2.2.1 aD.2.2.2.2.2.2.2.2.2.2.2.2.1 aD.2.2.2.2.2.2.2.2.2.2.2.2.2.1 aD.2.2.2.2.2.2.2.2.2.2.2.2.2.2.1 aD.2.2.2.2.2.2.2.2.2.2.2.2.2.2.2)] []
  obtain rfl:=si h
  exact pv_q F3 (qc 37 bG<|qb 32 ac<|qb 26 aO<|qa 21 aI<|qa 17 aK<|qa 14 aF<|qa 10 aH<|q0) [] []
def jH : Nat→GPlan→Option Int
 | 0,_=>none
 | n + 1,aA=>(bnd (zX n aA) fun aB=>(some aB.2.2.2))
theorem kN (n : Nat) (aA : GPlan) (r : Int) (h : jH n aA=some r) : pv PP T n 4 [(kU aA)]=some (iv r):=by
 cases n with
 | zero=>cases h
 | succ n =>
  rw [jH] at h
  obtain ⟨aD,aB,h⟩:=dQ h
  have aC:=aFc n aA _ aB
  obtain rfl:=si h
  exact pv_q F4 (qa 5 aC<|q0) [] []
def eV (n : Nat) : Option Bool:=if 10000 ≤ n then some true else none
theorem eF (n : Nat) (r : Bool) (h : eV n=some r) : pv PP T n 2 []=some (bv r):=by
 unfold eV at h
 split at h
 ·rename_i hn; cases h; exact aWc hn bBb
 ·cases h
def yG (aA : GPlan) (aB : GPlan) (aC : GPlan) : St:=⟨sp 56 [(3,(.ptr 0 1 0 0)),(4,(.ptr 1 1 0 0)),(5,(.ptr 2 1 0 0))],[(.blk 3 [(iQ aA)]),(.blk 3 [(iQ aB)]),(.blk 3 [(iQ aC)])]⟩
def dT (aA : GPlan) (aB : GPlan) (aC : GPlan) (aD : Bool) : St:=⟨sp 56 [(3,(.ptr 0 1 0 0)),(4,(.ptr 1 1 0 0)),(5,(.ptr 2 1 0 0)),(21,(bv aD))],[(.blk 3 [(iQ aA)]),(.blk 3 [(iQ aB)]),(.blk 3 [(iQ aC)])]⟩
def lF (n : Nat) (aA : GPlan) (aB : GPlan) (aC : GPlan) : Option Bool:=(bnd (jV n aA) fun aD=>(cnd (aD) (bnd (jV n aB) fun aE=>(cnd (aE) (bnd (jV n aC) fun aF=>(cnd (aF) (some false) (some true))) (some true))) (some true)))
theorem oS (n : Nat) (aA : GPlan) (aB : GPlan) (aC : GPlan) (r : Bool) (h : lF n aA aB aC=some r) : eT lv78 lv18 false 0 3 (evC PP (evF PP T n) n 0 L0_0 (yG aA aB aC))=some (.normal,dT aA aB aC r):=by
 unfold lF at h
 obtain ⟨aS,aH,h⟩:=dQ h
 rcases cn h with ⟨aD,aL,h⟩ | ⟨aD,aL,h⟩
 rotate_left
 ·have aM:=by have q:=iU n aA _ aH; rw [aD] at q; exact q
  obtain rfl:=si h
  exact dY (dT aA aB aC true) (qa 10 aM<|q0) [] []
 have aE:=by have q:=iU n aA _ aH; rw [aD] at q; exact q
 obtain ⟨aT,aI,h⟩:=dQ h
 rcases cn h with ⟨aF,aN,h⟩ | ⟨aF,aN,h⟩
 rotate_left
 ·have aO:=by have q:=iU n aB _ aI; rw [aF] at q; exact q
  obtain rfl:=si h
  exact dY (dT aA aB aC true) (qa 14 aO<|qa 10 aE<|q0) [] []
 have aJ:=by have q:=iU n aB _ aI; rw [aF] at q; exact q
 obtain ⟨aU,aK,h⟩:=dQ h
 rcases cn h with ⟨aG,aP,h⟩ | ⟨aG,aP,h⟩
 rotate_left
 ·have aQ:=by have q:=iU n aC _ aK; rw [aG] at q; exact q
  obtain rfl:=si h
  exact dY (dT aA aB aC true) (qa 19 aQ<|qa 14 aJ<|qa 10 aE<|q0) [] []
 have aR:=by have q:=iU n aC _ aK; rw [aG] at q; exact q
 obtain rfl:=si h
 exact dY (dT aA aB aC false) (qa 19 aR<|qa 14 aJ<|qa 10 aE<|q0) [] []
def yF (aA : GPlan) (aB : GPlan) (aC : GPlan) : St:=⟨sp 56 [(3,(.ptr 0 1 0 0)),(4,(.ptr 1 1 0 0)),(5,(.ptr 2 1 0 0)),(7,bt),(8,bt)],[(.blk 3 [(iQ aA)]),(.blk 3 [(iQ aB)]),(.blk 3 [(iQ aC)])]⟩
def eJ (aA : GPlan) (aB : GPlan) (aC : GPlan) (aD : Bool) : St:=⟨sp 56 [(3,(.ptr 0 1 0 0)),(45,(bv aD))],[(.blk 3 [(iQ aA)]),(.blk 3 [(iQ aB)]),(.blk 3 [(iQ aC)])]⟩
def lE (n : Nat) (aA : GPlan) (aB : GPlan) (aC : GPlan) : Option Bool:=(bnd (jR n aB aA) fun aD=>(cnd (aD) (bnd (jR n aA aC) fun aE=>(cnd (aE) (some false) (some true))) (some true)))
theorem oR (n : Nat) (aA : GPlan) (aB : GPlan) (aC : GPlan) (r : Bool) (h : lE n aA aB aC=some r) : eT lv79 lv18 false 0 3 (evC PP (evF PP T n) n 0 L0_1 (yF aA aB aC))=some (.normal,eJ aA aB aC r):=by
 unfold lE at h
 obtain ⟨aN,aF,h⟩:=dQ h
 rcases cn h with ⟨aD,aI,h⟩ | ⟨aD,aI,h⟩
 rotate_left
 ·have aJ:=by have q:=eZ n aB aA _ aF; rw [aD] at q; exact q
  obtain rfl:=si h
  exact dY (eJ aA aB aC true) (qa 32 aJ<|q0) [] []
 have aG:=by have q:=eZ n aB aA _ aF; rw [aD] at q; exact q
 obtain ⟨aO,aH,h⟩:=dQ h
 rcases cn h with ⟨aE,aK,h⟩ | ⟨aE,aK,h⟩
 rotate_left
 ·have aL:=by have q:=eZ n aA aC _ aH; rw [aE] at q; exact q
  obtain rfl:=si h
  exact dY (eJ aA aB aC true) (qa 42 aL<|qa 32 aG<|q0) [] []
 have aM:=by have q:=eZ n aA aC _ aH; rw [aE] at q; exact q
 obtain rfl:=si h
 exact dY (eJ aA aB aC false) (qa 42 aM<|qa 32 aG<|q0) [] []
def vY (aA : GPlan) (aB : GPlan) (aC : GPlan) : St:=⟨sp 56 [(3,(.ptr 0 1 0 0)),(4,(.ptr 1 1 0 0)),(5,(.ptr 2 1 0 0)),(7,bt),(8,bf)],[(.blk 3 [(iQ aA)]),(.blk 3 [(iQ aB)]),(.blk 3 [(iQ aC)])]⟩
def eN (aA : GPlan) (aB : GPlan) (aC : GPlan) (aD : Bool) : St:=⟨sp 56 [(3,(.ptr 0 1 0 0)),(45,(bv aD))],[(.blk 3 [(iQ aA)]),(.blk 3 [(iQ aB)]),(.blk 3 [(iQ aC)])]⟩
def kQ (n : Nat) (aA : GPlan) (aB : GPlan) (aD : GPlan) : Option Bool:=(bnd (jR n aB aA) fun aC=>(cnd (aC) (some false) (some true)))
theorem nG (n : Nat) (aA : GPlan) (aB : GPlan) (aC : GPlan) (r : Bool) (h : kQ n aA aB aC=some r) : eT lv79 lv18 false 0 3 (evC PP (evF PP T n) n 0 L0_1 (vY aA aB aC))=some (.normal,eN aA aB aC r):=by
 unfold kQ at h
 obtain ⟨aI,aE,h⟩:=dQ h
 rcases cn h with ⟨aD,aF,h⟩ | ⟨aD,aF,h⟩
 rotate_left
 ·have aG:=by have q:=eZ n aB aA _ aE; rw [aD] at q; exact q
  obtain rfl:=si h
  exact dY (eN aA aB aC true) (qa 32 aG<|q0) [] []
 have aH:=by have q:=eZ n aB aA _ aE; rw [aD] at q; exact q
 obtain rfl:=si h
 exact dY (eN aA aB aC false) (qa 32 aH<|q0) [] []
def vX (aA : GPlan) (aB : GPlan) (aC : GPlan) : St:=⟨sp 56 [(3,(.ptr 0 1 0 0)),(4,(.ptr 1 1 0 0)),(5,(.ptr 2 1 0 0)),(7,bf),(8,bt)],[(.blk 3 [(iQ aA)]),(.blk 3 [(iQ aB)]),(.blk 3 [(iQ aC)])]⟩
def eM (aA : GPlan) (aB : GPlan) (aC : GPlan) (aD : Bool) : St:=⟨sp 56 [(3,(.ptr 0 1 0 0)),(45,(bv aD))],[(.blk 3 [(iQ aA)]),(.blk 3 [(iQ aB)]),(.blk 3 [(iQ aC)])]⟩
def kP (n : Nat) (aA : GPlan) (aB : GPlan) (aD : GPlan) : Option Bool:=(bnd (jR n aB aA) fun aC=>(cnd (aC) (some true) (some false)))
theorem nF (n : Nat) (aA : GPlan) (aB : GPlan) (aC : GPlan) (r : Bool) (h : kP n aA aB aC=some r) : eT lv79 lv18 false 0 3 (evC PP (evF PP T n) n 0 L0_1 (vX aA aB aC))=some (.normal,eM aA aB aC r):=by
 unfold kP at h
 obtain ⟨aI,aE,h⟩:=dQ h
 rcases cn h with ⟨aD,aF,h⟩ | ⟨aD,aF,h⟩
 ·have aG:=by have q:=eZ n aB aA _ aE; rw [aD] at q; exact q
  obtain rfl:=si h
  exact dY (eM aA aB aC true) (qa 32 aG<|q0) [] []
 have aH:=by have q:=eZ n aB aA _ aE; rw [aD] at q; exact q
 obtain rfl:=si h
 exact dY (eM aA aB aC false) (qa 32 aH<|q0) [] []
def vW (aA : GPlan) (aB : GPlan) (aC : GPlan) : St:=⟨sp 56 [(3,(.ptr 0 1 0 0)),(4,(.ptr 1 1 0 0)),(5,(.ptr 2 1 0 0)),(7,bf),(8,bf)],[(.blk 3 [(iQ aA)]),(.blk 3 [(iQ aB)]),(.blk 3 [(iQ aC)])]⟩
def eL (aA : GPlan) (aB : GPlan) (aC : GPlan) (aD : Bool) : St:=⟨sp 56 [(3,(.ptr 0 1 0 0)),(45,(bv aD))],[(.blk 3 [(iQ aA)]),(.blk 3 [(iQ aB)]),(.blk 3 [(iQ aC)])]⟩
def kO (n : Nat) (aA : GPlan) (aB : GPlan) (aD : GPlan) : Option Bool:=(bnd (jR n aB aA) fun aC=>(cnd (aC) (some true) (some false)))
theorem nE (n : Nat) (aA : GPlan) (aB : GPlan) (aC : GPlan) (r : Bool) (h : kO n aA aB aC=some r) : eT lv79 lv18 false 0 3 (evC PP (evF PP T n) n 0 L0_1 (vW aA aB aC))=some (.normal,eL aA aB aC r):=by
 unfold kO at h
 obtain ⟨aI,aE,h⟩:=dQ h
 rcases cn h with ⟨aD,aF,h⟩ | ⟨aD,aF,h⟩
 ·have aG:=by have q:=eZ n aB aA _ aE; rw [aD] at q; exact q
  obtain rfl:=si h
  exact dY (eL aA aB aC true) (qa 32 aG<|q0) [] []
 have aH:=by have q:=eZ n aB aA _ aE; rw [aD] at q; exact q
 obtain rfl:=si h
 exact dY (eL aA aB aC false) (qa 32 aH<|q0) [] []
def kJ : Nat→GPlan→GPlan→GPlan→Option Bool
 | 0,_,_,_=>none
 | n + 1,aA,aB,aC=>(bnd (lF n aA aB aC) fun aD=>(cnd (aD) (bnd (eV n ) fun aE=>(cnd (aE) (some true) (some false))) (bnd (jR n aA aB) fun aF=>(cnd (aF) (bnd (jR n aB aC) fun aG=>(cnd (aG) (bnd (lE n aA aB aC) fun aH=>(cnd (aH) (some false) (bnd (jR n aA aA) fun aI=>(cnd (aI) (bnd (jH n aA) fun aJ=>(cnd (aJ == 0) (bnd (eV n ) fun aK=>(cnd (aK) (some true) (some false))) (some false))) (bnd (jH n aA) fun aL=>(cnd (aL == 0) (some false) (bnd (eV n ) fun aM=>(cnd (aM) (some true) (some false))))))))) (bnd (kQ n aA aB aC) fun aN=>(cnd (aN) (some false) (bnd (jR n aA aA) fun aO=>(cnd (aO) (bnd (jH n aA) fun aP=>(cnd (aP == 0) (bnd (eV n ) fun aQ=>(cnd (aQ) (some true) (some false))) (some false))) (bnd (jH n aA) fun aR=>(cnd (aR == 0) (some false) (bnd (eV n ) fun aS=>(cnd (aS) (some true) (some false))))))))))) (bnd (jR n aB aC) fun aT=>(cnd (aT) (bnd (kP n aA aB aC) fun aU=>(cnd (aU) (some false) (bnd (jR n aA aA) fun aV=>(cnd (aV) (bnd (jH n aA) fun aW=>(cnd (aW == 0) (bnd (eV n ) fun aX=>(cnd (aX) (some true) (some false))) (some false))) (bnd (jH n aA) fun aY=>(cnd (aY == 0) (some false) (bnd (eV n ) fun aZ=>(cnd (aZ) (some true) (some false))))))))) (bnd (kO n aA aB aC) fun aa=>(cnd (aa) (some false) (bnd (jR n aA aA) fun ab=>(cnd (ab) (bnd (jH n aA) fun ac=>(cnd (ac == 0) (bnd (eV n ) fun ad=>(cnd (ad) (some true) (some false))) (some false))) (bnd (jH n aA) fun ae=>(cnd (ae == 0) (some false) (bnd (eV n ) fun af=>(cnd (af) (some true) (some false)))))))))))))))
theorem zQ (n : Nat) (aA : GPlan) (aB : GPlan) (aC : GPlan) (r : Bool) (h : kJ n aA aB aC=some r) : pv PP T n 0 [(.agg (iQ aA)),(.agg (iQ aB)),(.agg (iQ aC))]=some (bv r):=by
 cases n with
 | zero=>cases h
 | succ n =>
  rw [kJ] at h
  obtain ⟨cl,bJ,h⟩:=dQ h
  rcases cn h with ⟨aW,be,h⟩ | ⟨aW,be,h⟩
  ·have aD:=oS n aA aB aC _ bJ
   rw [aW] at aD
   obtain ⟨cm,bK,h⟩:=dQ h
   rcases cn h with ⟨aX,bg,h⟩ | ⟨aX,bg,h⟩
   ·have bh:=by have q:=eF n  _ bK; rw [aX] at q; exact q
    obtain rfl:=si h
    exact pv_q F0 (qa 22 bh<|qp aD<|q0) [(.normal,dT aA aB aC true)] []
   have bi:=by have q:=eF n  _ bK; rw [aX] at q; exact q
   obtain rfl:=si h
   exact pv_q F0 (qa 22 bi<|qp aD<|q0) [(.normal,dT aA aB aC true)] []
  have aD:=oS n aA aB aC _ bJ
  rw [aW] at aD
  obtain ⟨co,bL,h⟩:=dQ h
  rcases cn h with ⟨aY,bj,h⟩ | ⟨aY,bj,h⟩
  ·have aE:=by have q:=eZ n aA aB _ bL; rw [aY] at q; exact q
   obtain ⟨cp,bM,h⟩:=dQ h
   rcases cn h with ⟨aZ,bk,h⟩ | ⟨aZ,bk,h⟩
   ·have aK:=by have q:=eZ n aB aC _ bM; rw [aZ] at q; exact q
    obtain ⟨cq,bN,h⟩:=dQ h
    rcases cn h with ⟨aa,bl,h⟩ | ⟨aa,bl,h⟩
    ·have aG:=oR n aA aB aC _ bN
     rw [aa] at aG
     obtain rfl:=si h
     exact pv_q F0 (qp aG<|qa 28 aK<|qa 25 aE<|qp aD<|q0) [(.normal,dT aA aB aC false),(.normal,eJ aA aB aC true)] []
    have aG:=oR n aA aB aC _ bN
    rw [aa] at aG
    obtain ⟨cr,bO,h⟩:=dQ h
    rcases cn h with ⟨ab,bm,h⟩ | ⟨ab,bm,h⟩
    ·have ac:=by have q:=eZ n aA aA _ bO; rw [ab] at q; exact q
     obtain ⟨cs,bn,h⟩:=dQ h
     have ad:=kN n aA _ bn
     rcases cn h with ⟨bo,aO,h⟩ | ⟨bo,aO,h⟩
     rotate_left
     ·obtain rfl:=si h
      exact pv_q F0 (qa 51 aO<|qa 50 ad<|qa 48 ac<|qp aG<|qa 28 aK<|qa 25 aE<|qp aD<|q0) [(.normal,dT aA aB aC false),(.normal,eJ aA aB aC false)] []
     obtain ⟨ct,bP,h⟩:=dQ h
     rcases cn h with ⟨ae,bp,h⟩ | ⟨ae,bp,h⟩
     ·have bq:=by have q:=eF n  _ bP; rw [ae] at q; exact q
      obtain rfl:=si h
      exact pv_q F0 (qa 54 bq<|qa 51 aO<|qa 50 ad<|qa 48 ac<|qp aG<|qa 28 aK<|qa 25 aE<|qp aD<|q0) [(.normal,dT aA aB aC false),(.normal,eJ aA aB aC false)] []
     have br:=by have q:=eF n  _ bP; rw [ae] at q; exact q
     obtain rfl:=si h
     exact pv_q F0 (qa 54 br<|qa 51 aO<|qa 50 ad<|qa 48 ac<|qp aG<|qa 28 aK<|qa 25 aE<|qp aD<|q0) [(.normal,dT aA aB aC false),(.normal,eJ aA aB aC false)] []
    have af:=by have q:=eZ n aA aA _ bO; rw [ab] at q; exact q
    obtain ⟨cu,bs,h⟩:=dQ h
    have ag:=kN n aA _ bs
    rcases cn h with ⟨bu,aP,h⟩ | ⟨bu,aP,h⟩
    ·obtain rfl:=si h
     exact pv_q F0 (qa 51 aP<|qa 50 ag<|qa 48 af<|qp aG<|qa 28 aK<|qa 25 aE<|qp aD<|q0) [(.normal,dT aA aB aC false),(.normal,eJ aA aB aC false)] []
    obtain ⟨cv,bQ,h⟩:=dQ h
    rcases cn h with ⟨ah,bw,h⟩ | ⟨ah,bw,h⟩
    ·have bx:=by have q:=eF n  _ bQ; rw [ah] at q; exact q
     obtain rfl:=si h
     exact pv_q F0 (qa 54 bx<|qa 51 aP<|qa 50 ag<|qa 48 af<|qp aG<|qa 28 aK<|qa 25 aE<|qp aD<|q0) [(.normal,dT aA aB aC false),(.normal,eJ aA aB aC false)] []
    have bz:=by have q:=eF n  _ bQ; rw [ah] at q; exact q
    obtain rfl:=si h
    exact pv_q F0 (qa 54 bz<|qa 51 aP<|qa 50 ag<|qa 48 af<|qp aG<|qa 28 aK<|qa 25 aE<|qp aD<|q0) [(.normal,dT aA aB aC false),(.normal,eJ aA aB aC false)] []
   have aL:=by have q:=eZ n aB aC _ bM; rw [aZ] at q; exact q
   obtain ⟨cw,bR,h⟩:=dQ h
   rcases cn h with ⟨ai,cA,h⟩ | ⟨ai,cA,h⟩
   ·have aH:=nG n aA aB aC _ bR
    rw [ai] at aH
    obtain rfl:=si h
    exact pv_q F0 (qp aH<|qa 28 aL<|qa 25 aE<|qp aD<|q0) [(.normal,dT aA aB aC false),(.normal,eN aA aB aC true)] []
   have aH:=nG n aA aB aC _ bR
   rw [ai] at aH
   obtain ⟨cx,bS,h⟩:=dQ h
   rcases cn h with ⟨aj,cB,h⟩ | ⟨aj,cB,h⟩
   ·have ak:=by have q:=eZ n aA aA _ bS; rw [aj] at q; exact q
    obtain ⟨cy,cC,h⟩:=dQ h
    have al:=kN n aA _ cC
    rcases cn h with ⟨cD,aQ,h⟩ | ⟨cD,aQ,h⟩
    rotate_left
    ·obtain rfl:=si h
     exact pv_q F0 (qa 51 aQ<|qa 50 al<|qa 48 ak<|qp aH<|qa 28 aL<|qa 25 aE<|qp aD<|q0) [(.normal,dT aA aB aC false),(.normal,eN aA aB aC false)] []
    obtain ⟨cz,bT,h⟩:=dQ h
    rcases cn h with ⟨am,cE,h⟩ | ⟨am,cE,h⟩
    ·have cF:=by have q:=eF n  _ bT; rw [am] at q; exact q
     obtain rfl:=si h
     exact pv_q F0 (qa 54 cF<|qa 51 aQ<|qa 50 al<|qa 48 ak<|qp aH<|qa 28 aL<|qa 25 aE<|qp aD<|q0) [(.normal,dT aA aB aC false),(.normal,eN aA aB aC false)] []
    have cG:=by have q:=eF n  _ bT; rw [am] at q; exact q
    obtain rfl:=si h
    exact pv_q F0 (qa 54 cG<|qa 51 aQ<|qa 50 al<|qa 48 ak<|qp aH<|qa 28 aL<|qa 25 aE<|qp aD<|q0) [(.normal,dT aA aB aC false),(.normal,eN aA aB aC false)] []
   have an:=by have q:=eZ n aA aA _ bS; rw [aj] at q; exact q
   obtain ⟨dA,cH,h⟩:=dQ h
   have ao:=kN n aA _ cH
   rcases cn h with ⟨cI,aR,h⟩ | ⟨cI,aR,h⟩
   ·obtain rfl:=si h
    exact pv_q F0 (qa 51 aR<|qa 50 ao<|qa 48 an<|qp aH<|qa 28 aL<|qa 25 aE<|qp aD<|q0) [(.normal,dT aA aB aC false),(.normal,eN aA aB aC false)] []
   obtain ⟨dB,bU,h⟩:=dQ h
   rcases cn h with ⟨ap,cJ,h⟩ | ⟨ap,cJ,h⟩
   ·have cK:=by have q:=eF n  _ bU; rw [ap] at q; exact q
    obtain rfl:=si h
    exact pv_q F0 (qa 54 cK<|qa 51 aR<|qa 50 ao<|qa 48 an<|qp aH<|qa 28 aL<|qa 25 aE<|qp aD<|q0) [(.normal,dT aA aB aC false),(.normal,eN aA aB aC false)] []
   have cL:=by have q:=eF n  _ bU; rw [ap] at q; exact q
   obtain rfl:=si h
   exact pv_q F0 (qa 54 cL<|qa 51 aR<|qa 50 ao<|qa 48 an<|qp aH<|qa 28 aL<|qa 25 aE<|qp aD<|q0) [(.normal,dT aA aB aC false),(.normal,eN aA aB aC false)] []
  have aF:=by have q:=eZ n aA aB _ bL; rw [aY] at q; exact q
  obtain ⟨dC,bV,h⟩:=dQ h
  rcases cn h with ⟨aq,cM,h⟩ | ⟨aq,cM,h⟩
  ·have aM:=by have q:=eZ n aB aC _ bV; rw [aq] at q; exact q
   obtain ⟨dD,bW,h⟩:=dQ h
   rcases cn h with ⟨ar,cN,h⟩ | ⟨ar,cN,h⟩
   ·have aI:=nF n aA aB aC _ bW
    rw [ar] at aI
    obtain rfl:=si h
    exact pv_q F0 (qp aI<|qa 28 aM<|qa 25 aF<|qp aD<|q0) [(.normal,dT aA aB aC false),(.normal,eM aA aB aC true)] []
   have aI:=nF n aA aB aC _ bW
   rw [ar] at aI
   obtain ⟨dE,bX,h⟩:=dQ h
   rcases cn h with ⟨au,cO,h⟩ | ⟨au,cO,h⟩
   ·have av:=by have q:=eZ n aA aA _ bX; rw [au] at q; exact q
    obtain ⟨dF,cP,h⟩:=dQ h
    have aw:=kN n aA _ cP
    rcases cn h with ⟨cQ,aS,h⟩ | ⟨cQ,aS,h⟩
    rotate_left
    ·obtain rfl:=si h
     exact pv_q F0 (qa 51 aS<|qa 50 aw<|qa 48 av<|qp aI<|qa 28 aM<|qa 25 aF<|qp aD<|q0) [(.normal,dT aA aB aC false),(.normal,eM aA aB aC false)] []
    obtain ⟨dG,bY,h⟩:=dQ h
    rcases cn h with ⟨ax,cR,h⟩ | ⟨ax,cR,h⟩
    ·have cS:=by have q:=eF n  _ bY; rw [ax] at q; exact q
     obtain rfl:=si h
     exact pv_q F0 (qa 54 cS<|qa 51 aS<|qa 50 aw<|qa 48 av<|qp aI<|qa 28 aM<|qa 25 aF<|qp aD<|q0) [(.normal,dT aA aB aC false),(.normal,eM aA aB aC false)] []
    have cT:=by have q:=eF n  _ bY; rw [ax] at q; exact q
    obtain rfl:=si h
    exact pv_q F0 (qa 54 cT<|qa 51 aS<|qa 50 aw<|qa 48 av<|qp aI<|qa 28 aM<|qa 25 aF<|qp aD<|q0) [(.normal,dT aA aB aC false),(.normal,eM aA aB aC false)] []
   have ay:=by have q:=eZ n aA aA _ bX; rw [au] at q; exact q
   obtain ⟨dH,cU,h⟩:=dQ h
   have az:=kN n aA _ cU
   rcases cn h with ⟨cV,aT,h⟩ | ⟨cV,aT,h⟩
   ·obtain rfl:=si h
    exact pv_q F0 (qa 51 aT<|qa 50 az<|qa 48 ay<|qp aI<|qa 28 aM<|qa 25 aF<|qp aD<|q0) [(.normal,dT aA aB aC false),(.normal,eM aA aB aC false)] []
   obtain ⟨dI,bZ,h⟩:=dQ h
   rcases cn h with ⟨bA,cW,h⟩ | ⟨bA,cW,h⟩
   ·have cX:=by have q:=eF n  _ bZ; rw [bA] at q; exact q
    obtain rfl:=si h
    exact pv_q F0 (qa 54 cX<|qa 51 aT<|qa 50 az<|qa 48 ay<|qp aI<|qa 28 aM<|qa 25 aF<|qp aD<|q0) [(.normal,dT aA aB aC false),(.normal,eM aA aB aC false)] []
   have cY:=by have q:=eF n  _ bZ; rw [bA] at q; exact q
   obtain rfl:=si h
   exact pv_q F0 (qa 54 cY<|qa 51 aT<|qa 50 az<|qa 48 ay<|qp aI<|qa 28 aM<|qa 25 aF<|qp aD<|q0) [(.normal,dT aA aB aC false),(.normal,eM aA aB aC false)] []
  have aN:=by have q:=eZ n aB aC _ bV; rw [aq] at q; exact q
  obtain ⟨dJ,ba,h⟩:=dQ h
  rcases cn h with ⟨bB,cZ,h⟩ | ⟨bB,cZ,h⟩
  ·have aJ:=nE n aA aB aC _ ba
   rw [bB] at aJ
   obtain rfl:=si h
   exact pv_q F0 (qp aJ<|qa 28 aN<|qa 25 aF<|qp aD<|q0) [(.normal,dT aA aB aC false),(.normal,eL aA aB aC true)] []
  have aJ:=nE n aA aB aC _ ba
  rw [bB] at aJ
  obtain ⟨dK,bb,h⟩:=dQ h
  rcases cn h with ⟨bC,ca,h⟩ | ⟨bC,ca,h⟩
  ·have bD:=by have q:=eZ n aA aA _ bb; rw [bC] at q; exact q
   obtain ⟨dL,cb,h⟩:=dQ h
   have bE:=kN n aA _ cb
   rcases cn h with ⟨cc,aU,h⟩ | ⟨cc,aU,h⟩
   rotate_left
   ·obtain rfl:=si h
    exact pv_q F0 (qa 51 aU<|qa 50 bE<|qa 48 bD<|qp aJ<|qa 28 aN<|qa 25 aF<|qp aD<|q0) [(.normal,dT aA aB aC false),(.normal,eL aA aB aC false)] []
   obtain ⟨dM,bc,h⟩:=dQ h
   rcases cn h with ⟨bF,cd,h⟩ | ⟨bF,cd,h⟩
   ·have ce:=by have q:=eF n  _ bc; rw [bF] at q; exact q
    obtain rfl:=si h
    exact pv_q F0 (qa 54 ce<|qa 51 aU<|qa 50 bE<|qa 48 bD<|qp aJ<|qa 28 aN<|qa 25 aF<|qp aD<|q0) [(.normal,dT aA aB aC false),(.normal,eL aA aB aC false)] []
   have cf:=by have q:=eF n  _ bc; rw [bF] at q; exact q
   obtain rfl:=si h
   exact pv_q F0 (qa 54 cf<|qa 51 aU<|qa 50 bE<|qa 48 bD<|qp aJ<|qa 28 aN<|qa 25 aF<|qp aD<|q0) [(.normal,dT aA aB aC false),(.normal,eL aA aB aC false)] []
  have bG:=by have q:=eZ n aA aA _ bb; rw [bC] at q; exact q
  obtain ⟨dN,cg,h⟩:=dQ h
  have bH:=kN n aA _ cg
  rcases cn h with ⟨ch,aV,h⟩ | ⟨ch,aV,h⟩
  ·obtain rfl:=si h
   exact pv_q F0 (qa 51 aV<|qa 50 bH<|qa 48 bG<|qp aJ<|qa 28 aN<|qa 25 aF<|qp aD<|q0) [(.normal,dT aA aB aC false),(.normal,eL aA aB aC false)] []
  obtain ⟨dO,bd,h⟩:=dQ h
  rcases cn h with ⟨bI,ci,h⟩ | ⟨bI,ci,h⟩
  ·have cj:=by have q:=eF n  _ bd; rw [bI] at q; exact q
   obtain rfl:=si h
   exact pv_q F0 (qa 54 cj<|qa 51 aV<|qa 50 bH<|qa 48 bG<|qp aJ<|qa 28 aN<|qa 25 aF<|qp aD<|q0) [(.normal,dT aA aB aC false),(.normal,eL aA aB aC false)] []
  have ck:=by have q:=eF n  _ bd; rw [bI] at q; exact q
  obtain rfl:=si h
  exact pv_q F0 (qa 54 ck<|qa 51 aV<|qa 50 bH<|qa 48 bG<|qp aJ<|qa 28 aN<|qa 25 aF<|qp aD<|q0) [(.normal,dT aA aB aC false),(.normal,eL aA aB aC false)] []
end Go.Proofs.YtapabkfjeiknbaaGreat.Av
