/- A part of the proofs of laws of the chapter office: an evaluator of the program, proved sound, and what it says. -/
import Derived.Test.YtkdnaejhpcibnaaGreatDoorVoTl1
set_option linter.unusedVariables false
set_option linter.unusedSimpArgs false
namespace Go.Proofs.YtkdnaejhpcibnaaGreatDoor.Av
open Go
def f11 : Nat → GOffice → (List GTxn) → Option (GOffice × Int)
 | 0,_,_ => none
 | n + 1,aA,aD => (bnd (f21 n aA) fun aE => (cnd (aE) (bnd (prd n) fun aB => (bnd (f11_I23_L0 aB aA aB [] 0) fun aC => (bnd2 (f11_L0 n aD aA aC n aC 0) (fun aF => (some ((GOffice.mk 0 []),aF.2.2.2.2.2.2.2.2.2.2.2))) (fun aG => (some ((GOffice.mk aA.ID aG),0)))))) (some ((GOffice.mk 0 []),19))))
def f93 : Nat → ByteArray → Option Int
 | 0,_ => none
 | n + 1,aA => (cnd (((aA.size : Nat) : Int) == 1) (bnd (sat aA 0) fun aB => (some (IntKind.i64.wrap aB))) (cnd (((aA.size : Nat) : Int) == 2) (bnd (sat aA 0) fun aC => (bnd (sat aA 1) fun aD => (some (IntKind.i64.wrap ((IntKind.i64.wrap ((Int.tmod (IntKind.i64.wrap aC) 32) * 64)) + (Int.tmod (IntKind.i64.wrap aD) 64)))))) (bnd (sat aA 0) fun aE => (bnd (sat aA 1) fun aF => (bnd (sat aA 2) fun aG => (some (IntKind.i64.wrap ((IntKind.i64.wrap ((IntKind.i64.wrap ((Int.tmod (IntKind.i64.wrap aE) 16) * 4096)) + (IntKind.i64.wrap ((Int.tmod (IntKind.i64.wrap aF) 64) * 64)))) + (Int.tmod (IntKind.i64.wrap aG) 64)))))))))
theorem f93_ok (n : Nat) (aB : ByteArray) (r : Int) (h : f93 n aB = some r) : pv PP T n 93 [(sv aB)] = some (iv r):=by
 cases n with
 | zero => cases h
 | succ n =>
  rw [f93] at h
  have aC:=lenStr_9 (cf:=evF PP T n) (fl:=0) (H:=[]) aB
  rcases cn h with ⟨aE,aA,h⟩ | ⟨aE,aA,h⟩
  ·obtain ⟨ac,aF,h⟩:=bnd_some h
   have aG:=strIdx_ok (P:=PP) (cf:=evF PP T n) (fl:=0) (H:=[]) (t:=9) (by kernel_rfl) aF
   obtain rfl:=si h
   exact pv_q F93 (qb 8 aG <| qa 6 aA <| qb 4 aC <| q0) [] []
  rcases cn h with ⟨aH,aD,h⟩ | ⟨aH,aD,h⟩
  ·obtain ⟨aI,aJ,h⟩:=bnd_some h
   have aK:=strIdx_ok (P:=PP) (cf:=evF PP T n) (fl:=0) (H:=[]) (t:=9) (by kernel_rfl) aJ
   have aL:=rem_ok (P:=PP) (cf:=evF PP T n) (fl:=0) (H:=[]) (t:=3) (k:=.i64) (a:=(IntKind.i64.wrap aI)) (d:=32) (by decide)
   obtain ⟨aM,aN,h⟩:=bnd_some h
   have aO:=strIdx_ok (P:=PP) (cf:=evF PP T n) (fl:=0) (H:=[]) (t:=9) (by kernel_rfl) aN
   have aP:=rem_ok (P:=PP) (cf:=evF PP T n) (fl:=0) (H:=[]) (t:=3) (k:=.i64) (a:=(IntKind.i64.wrap aM)) (d:=64) (by decide)
   obtain rfl:=si h
   exact pv_q F93 (qb 20 aP <| qb 18 aO <| qb 15 aL <| qb 13 aK <| qa 11 aD <| qa 6 aA <| qb 4 aC <| q0) [] []
  obtain ⟨aQ,aR,h⟩:=bnd_some h
  have aS:=strIdx_ok (P:=PP) (cf:=evF PP T n) (fl:=0) (H:=[]) (t:=9) (by kernel_rfl) aR
  have aT:=rem_ok (P:=PP) (cf:=evF PP T n) (fl:=0) (H:=[]) (t:=3) (k:=.i64) (a:=(IntKind.i64.wrap aQ)) (d:=16) (by decide)
  obtain ⟨aU,aV,h⟩:=bnd_some h
  have aW:=strIdx_ok (P:=PP) (cf:=evF PP T n) (fl:=0) (H:=[]) (t:=9) (by kernel_rfl) aV
  have aX:=rem_ok (P:=PP) (cf:=evF PP T n) (fl:=0) (H:=[]) (t:=3) (k:=.i64) (a:=(IntKind.i64.wrap aU)) (d:=64) (by decide)
  obtain ⟨aY,aZ,h⟩:=bnd_some h
  have aa:=strIdx_ok (P:=PP) (cf:=evF PP T n) (fl:=0) (H:=[]) (t:=9) (by kernel_rfl) aZ
  have ab:=rem_ok (P:=PP) (cf:=evF PP T n) (fl:=0) (H:=[]) (t:=3) (k:=.i64) (a:=(IntKind.i64.wrap aY)) (d:=64) (by decide)
  obtain rfl:=si h
  exact pv_q F93 (qb 36 ab <| qb 34 aa <| qb 30 aX <| qb 28 aW <| qb 25 aT <| qb 23 aS <| qa 11 aD <| qa 6 aA <| qb 4 aC <| q0) [] []
def f119 : Nat → Int → Option Bool
 | 0,_ => none
 | n + 1,aA => (cnd (decide (aA ≥ 48)) (cnd (decide (aA ≤ 57)) (some true) (some false)) (some false))
theorem f119_ok (n : Nat) (aC : Int) (r : Bool) (h : f119 n aC = some r) : pv PP T n 119 [(iv aC)] = some (bv r):=by
 cases n with
 | zero => cases h
 | succ n =>
  rw [f119] at h
  rcases cn h with ⟨aD,aA,h⟩ | ⟨aD,aA,h⟩
  rotate_left
  ·obtain rfl:=si h
   exact pv_q F119 (qa 4 aA <| q0) [] []
  rcases cn h with ⟨aE,aB,h⟩ | ⟨aE,aB,h⟩
  ·obtain rfl:=si h
   exact pv_q F119 (qa 7 aB <| qa 4 aA <| q0) [] []
  obtain rfl:=si h
  exact pv_q F119 (qa 7 aB <| qa 4 aA <| q0) [] []
def f94 : Nat → Int → Option Int
 | 0,_ => none
 | n + 1,aA => (cnd (aA == 32) (some 0) (cnd (aA == 39) (some 0) (cnd (aA == 40) (some 0) (cnd (aA == 41) (some 0) (cnd (aA == 45) (some 0) (cnd (aA == 46) (some 0) (bnd (f119 n aA) fun aB => (cnd (aB) (some 0) (cnd (decide (aA ≥ 65)) (cnd (decide (aA ≤ 90)) (some 1) (cnd (decide (aA ≥ 97)) (cnd (decide (aA ≤ 122)) (some 1) (cnd (decide (aA ≥ 192)) (cnd (decide (aA ≤ 591)) (cnd (aA != 215) (cnd (aA != 247) (some 1) (some (-1))) (some (-1))) (cnd (decide (aA ≥ 880)) (cnd (decide (aA ≤ 1023)) (some 2) (cnd (decide (aA ≤ 1279)) (some 3) (cnd (decide (aA ≥ 1488)) (cnd (decide (aA ≤ 1514)) (some 4) (cnd (decide (aA ≥ 19968)) (cnd (decide (aA ≤ 40959)) (some 5) (some (-1))) (some (-1)))) (some (-1))))) (some (-1)))) (some (-1)))) (some (-1)))) (some (-1)))))))))))
theorem f94_ok (n : Nat) (aA : Int) (r : Int) (h : f94 n aA = some r) : pv PP T n 94 [(iv aA)] = some (iv r):=by
 cases n with
 | zero => cases h
 | succ n =>
  rw [f94] at h
  rcases cn h with ⟨am,aB,h⟩ | ⟨am,aB,h⟩
  ·obtain rfl:=si h
   exact pv_q F94 (qa 5 aB <| q0) [] []
  rcases cn h with ⟨an,aC,h⟩ | ⟨an,aC,h⟩
  ·obtain rfl:=si h
   exact pv_q F94 (qa 8 aC <| qa 5 aB <| q0) [] []
  rcases cn h with ⟨ao,aD,h⟩ | ⟨ao,aD,h⟩
  ·obtain rfl:=si h
   exact pv_q F94 (qa 12 aD <| qa 8 aC <| qa 5 aB <| q0) [] []
  rcases cn h with ⟨ap,aE,h⟩ | ⟨ap,aE,h⟩
  ·obtain rfl:=si h
   exact pv_q F94 (qa 16 aE <| qa 12 aD <| qa 8 aC <| qa 5 aB <| q0) [] []
  rcases cn h with ⟨aq,aF,h⟩ | ⟨aq,aF,h⟩
  ·obtain rfl:=si h
   exact pv_q F94 (qa 20 aF <| qa 16 aE <| qa 12 aD <| qa 8 aC <| qa 5 aB <| q0) [] []
  rcases cn h with ⟨ar,aG,h⟩ | ⟨ar,aG,h⟩
  ·obtain rfl:=si h
   exact pv_q F94 (qa 24 aG <| qa 20 aF <| qa 16 aE <| qa 12 aD <| qa 8 aC <| qa 5 aB <| q0) [] []
  obtain ⟨cG,ai,h⟩:=bnd_some h
  rcases cn h with ⟨af,au,h⟩ | ⟨af,au,h⟩
  ·have av:=by have q:=f119_ok n aA _ ai; rw [af] at q; exact q
   obtain rfl:=si h
   exact pv_q F94 (qa 28 av <| qa 24 aG <| qa 20 aF <| qa 16 aE <| qa 12 aD <| qa 8 aC <| qa 5 aB <| q0) [] []
  have aI:=by have q:=f119_ok n aA _ ai; rw [af] at q; exact q
  rcases cn h with ⟨aQ,aH,h⟩ | ⟨aQ,aH,h⟩
  rotate_left
  ·have aw : (decide (aA ≥ 97)) = false:=by have q0:=of_decide_eq_false aQ; exact decide_eq_false (by omega)
   have ax:=bool_eq aw
   have ay : (decide (aA ≥ 192)) = false:=by have q0:=of_decide_eq_false aQ; exact decide_eq_false (by omega)
   have az:=bool_eq ay
   have bA : (decide (aA ≥ 880)) = false:=by have q0:=of_decide_eq_false aQ; exact decide_eq_false (by omega)
   have bB:=bool_eq bA
   have bC : (decide (aA ≥ 1024)) = false:=by have q0:=of_decide_eq_false aQ; exact decide_eq_false (by omega)
   have bD:=bool_eq bC
   have bE : (decide (aA ≥ 1488)) = false:=by have q0:=of_decide_eq_false aQ; exact decide_eq_false (by omega)
   have bF:=bool_eq bE
   have bG : (decide (aA ≥ 19968)) = false:=by have q0:=of_decide_eq_false aQ; exact decide_eq_false (by omega)
   have bH:=bool_eq bG
   obtain rfl:=si h
   exact pv_q F94 (qa 83 bH <| qa 76 bF <| qa 69 bD <| qa 62 bB <| qa 47 az <| qa 39 ax <| qa 32 aH <| qa 28 aI <| qa 24 aG <| qa 20 aF <| qa 16 aE <| qa 12 aD <| qa 8 aC <| qa 5 aB <| q0) [] []
  rcases cn h with ⟨aS,aJ,h⟩ | ⟨aS,aJ,h⟩
  ·obtain rfl:=si h
   exact pv_q F94 (qa 35 aJ <| qa 32 aH <| qa 28 aI <| qa 24 aG <| qa 20 aF <| qa 16 aE <| qa 12 aD <| qa 8 aC <| qa 5 aB <| q0) [] []
  rcases cn h with ⟨aT,aK,h⟩ | ⟨aT,aK,h⟩
  rotate_left
  ·have bI : (decide (aA ≥ 192)) = false:=by have q0:=of_decide_eq_false aS; have q1:=of_decide_eq_false aT; exact decide_eq_false (by omega)
   have bJ:=bool_eq bI
   have bK : (decide (aA ≥ 880)) = false:=by have q0:=of_decide_eq_false aS; have q1:=of_decide_eq_false aT; exact decide_eq_false (by omega)
   have bL:=bool_eq bK
   have bM : (decide (aA ≥ 1024)) = false:=by have q0:=of_decide_eq_false aS; have q1:=of_decide_eq_false aT; exact decide_eq_false (by omega)
   have bN:=bool_eq bM
   have bO : (decide (aA ≥ 1488)) = false:=by have q0:=of_decide_eq_false aS; have q1:=of_decide_eq_false aT; exact decide_eq_false (by omega)
   have bP:=bool_eq bO
   have bQ : (decide (aA ≥ 19968)) = false:=by have q0:=of_decide_eq_false aS; have q1:=of_decide_eq_false aT; exact decide_eq_false (by omega)
   have bR:=bool_eq bQ
   obtain rfl:=si h
   exact pv_q F94 (qa 83 bR <| qa 76 bP <| qa 69 bN <| qa 62 bL <| qa 47 bJ <| qa 39 aK <| qa 35 aJ <| qa 32 aH <| qa 28 aI <| qa 24 aG <| qa 20 aF <| qa 16 aE <| qa 12 aD <| qa 8 aC <| qa 5 aB <| q0) [] []
  rcases cn h with ⟨aW,aL,h⟩ | ⟨aW,aL,h⟩
  ·obtain rfl:=si h
   exact pv_q F94 (qa 42 aL <| qa 39 aK <| qa 35 aJ <| qa 32 aH <| qa 28 aI <| qa 24 aG <| qa 20 aF <| qa 16 aE <| qa 12 aD <| qa 8 aC <| qa 5 aB <| q0) [] []
  rcases cn h with ⟨aX,aM,h⟩ | ⟨aX,aM,h⟩
  rotate_left
  ·have bS : (decide (aA ≥ 880)) = false:=by have q0:=of_decide_eq_false aW; have q1:=of_decide_eq_false aX; exact decide_eq_false (by omega)
   have bT:=bool_eq bS
   have bU : (decide (aA ≥ 1024)) = false:=by have q0:=of_decide_eq_false aW; have q1:=of_decide_eq_false aX; exact decide_eq_false (by omega)
   have bV:=bool_eq bU
   have bW : (decide (aA ≥ 1488)) = false:=by have q0:=of_decide_eq_false aW; have q1:=of_decide_eq_false aX; exact decide_eq_false (by omega)
   have bX:=bool_eq bW
   have bY : (decide (aA ≥ 19968)) = false:=by have q0:=of_decide_eq_false aW; have q1:=of_decide_eq_false aX; exact decide_eq_false (by omega)
   have bZ:=bool_eq bY
   obtain rfl:=si h
   exact pv_q F94 (qa 83 bZ <| qa 76 bX <| qa 69 bV <| qa 62 bT <| qa 47 aM <| qa 42 aL <| qa 39 aK <| qa 35 aJ <| qa 32 aH <| qa 28 aI <| qa 24 aG <| qa 20 aF <| qa 16 aE <| qa 12 aD <| qa 8 aC <| qa 5 aB <| q0) [] []
  rcases cn h with ⟨ab,aN,h⟩ | ⟨ab,aN,h⟩
  ·rcases cn h with ⟨aY,ac,h⟩ | ⟨aY,ac,h⟩
   rotate_left
   ·have ba : (decide (aA ≥ 880)) = false:=by have q0:=(show aA = 215 by simpa using aY); exact decide_eq_false (by omega)
    have bb:=bool_eq ba
    have bc : (decide (aA ≥ 1024)) = false:=by have q0:=(show aA = 215 by simpa using aY); exact decide_eq_false (by omega)
    have bd:=bool_eq bc
    have be : (decide (aA ≥ 1488)) = false:=by have q0:=(show aA = 215 by simpa using aY); exact decide_eq_false (by omega)
    have bg:=bool_eq be
    have bh : (decide (aA ≥ 19968)) = false:=by have q0:=(show aA = 215 by simpa using aY); exact decide_eq_false (by omega)
    have bi:=bool_eq bh
    obtain rfl:=si h
    exact pv_q F94 (qa 83 bi <| qa 76 bg <| qa 69 bd <| qa 62 bb <| qa 54 ac <| qa 50 aN <| qa 47 aM <| qa 42 aL <| qa 39 aK <| qa 35 aJ <| qa 32 aH <| qa 28 aI <| qa 24 aG <| qa 20 aF <| qa 16 aE <| qa 12 aD <| qa 8 aC <| qa 5 aB <| q0) [] []
   rcases cn h with ⟨aZ,ag,h⟩ | ⟨aZ,ag,h⟩
   ·obtain rfl:=si h
    exact pv_q F94 (qa 58 ag <| qa 54 ac <| qa 50 aN <| qa 47 aM <| qa 42 aL <| qa 39 aK <| qa 35 aJ <| qa 32 aH <| qa 28 aI <| qa 24 aG <| qa 20 aF <| qa 16 aE <| qa 12 aD <| qa 8 aC <| qa 5 aB <| q0) [] []
   have bj : (decide (aA ≥ 880)) = false:=by have q0:=(show aA = 247 by simpa using aZ); exact decide_eq_false (by omega)
   have bk:=bool_eq bj
   have bl : (decide (aA ≥ 1024)) = false:=by have q0:=(show aA = 247 by simpa using aZ); exact decide_eq_false (by omega)
   have bm:=bool_eq bl
   have bn : (decide (aA ≥ 1488)) = false:=by have q0:=(show aA = 247 by simpa using aZ); exact decide_eq_false (by omega)
   have bo:=bool_eq bn
   have bp : (decide (aA ≥ 19968)) = false:=by have q0:=(show aA = 247 by simpa using aZ); exact decide_eq_false (by omega)
   have bq:=bool_eq bp
   obtain rfl:=si h
   exact pv_q F94 (qa 83 bq <| qa 76 bo <| qa 69 bm <| qa 62 bk <| qa 58 ag <| qa 54 ac <| qa 50 aN <| qa 47 aM <| qa 42 aL <| qa 39 aK <| qa 35 aJ <| qa 32 aH <| qa 28 aI <| qa 24 aG <| qa 20 aF <| qa 16 aE <| qa 12 aD <| qa 8 aC <| qa 5 aB <| q0) [] []
  rcases cn h with ⟨ad,aO,h⟩ | ⟨ad,aO,h⟩
  rotate_left
  ·have br : (decide (aA ≥ 1024)) = false:=by have q0:=of_decide_eq_false ab; have q1:=of_decide_eq_false ad; exact decide_eq_false (by omega)
   have bs:=bool_eq br
   have bu : (decide (aA ≥ 1488)) = false:=by have q0:=of_decide_eq_false ab; have q1:=of_decide_eq_false ad; exact decide_eq_false (by omega)
   have bw:=bool_eq bu
   have bx : (decide (aA ≥ 19968)) = false:=by have q0:=of_decide_eq_false ab; have q1:=of_decide_eq_false ad; exact decide_eq_false (by omega)
   have bz:=bool_eq bx
   obtain rfl:=si h
   exact pv_q F94 (qa 83 bz <| qa 76 bw <| qa 69 bs <| qa 62 aO <| qa 50 aN <| qa 47 aM <| qa 42 aL <| qa 39 aK <| qa 35 aJ <| qa 32 aH <| qa 28 aI <| qa 24 aG <| qa 20 aF <| qa 16 aE <| qa 12 aD <| qa 8 aC <| qa 5 aB <| q0) [] []
  rcases cn h with ⟨aj,aP,h⟩ | ⟨aj,aP,h⟩
  ·obtain rfl:=si h
   exact pv_q F94 (qa 65 aP <| qa 62 aO <| qa 50 aN <| qa 47 aM <| qa 42 aL <| qa 39 aK <| qa 35 aJ <| qa 32 aH <| qa 28 aI <| qa 24 aG <| qa 20 aF <| qa 16 aE <| qa 12 aD <| qa 8 aC <| qa 5 aB <| q0) [] []
  have cA : (decide (aA ≥ 1024)) = true:=by have q0:=of_decide_eq_false aj; exact decide_eq_true (by omega)
  have aU:=bool_eq cA
  rcases cn h with ⟨ak,aR,h⟩ | ⟨ak,aR,h⟩
  ·obtain rfl:=si h
   exact pv_q F94 (qa 72 aR <| qa 69 aU <| qa 65 aP <| qa 62 aO <| qa 50 aN <| qa 47 aM <| qa 42 aL <| qa 39 aK <| qa 35 aJ <| qa 32 aH <| qa 28 aI <| qa 24 aG <| qa 20 aF <| qa 16 aE <| qa 12 aD <| qa 8 aC <| qa 5 aB <| q0) [] []
  rcases cn h with ⟨al,aV,h⟩ | ⟨al,aV,h⟩
  rotate_left
  ·have cB : (decide (aA ≥ 19968)) = false:=by have q0:=of_decide_eq_false ak; have q1:=of_decide_eq_false al; exact decide_eq_false (by omega)
   have cC:=bool_eq cB
   obtain rfl:=si h
   exact pv_q F94 (qa 83 cC <| qa 76 aV <| qa 72 aR <| qa 69 aU <| qa 65 aP <| qa 62 aO <| qa 50 aN <| qa 47 aM <| qa 42 aL <| qa 39 aK <| qa 35 aJ <| qa 32 aH <| qa 28 aI <| qa 24 aG <| qa 20 aF <| qa 16 aE <| qa 12 aD <| qa 8 aC <| qa 5 aB <| q0) [] []
  rcases cn h with ⟨cD,aa,h⟩ | ⟨cD,aa,h⟩
  ·obtain rfl:=si h
   exact pv_q F94 (qa 79 aa <| qa 76 aV <| qa 72 aR <| qa 69 aU <| qa 65 aP <| qa 62 aO <| qa 50 aN <| qa 47 aM <| qa 42 aL <| qa 39 aK <| qa 35 aJ <| qa 32 aH <| qa 28 aI <| qa 24 aG <| qa 20 aF <| qa 16 aE <| qa 12 aD <| qa 8 aC <| qa 5 aB <| q0) [] []
  rcases cn h with ⟨cE,ae,h⟩ | ⟨cE,ae,h⟩
  rotate_left
  ·obtain rfl:=si h
   exact pv_q F94 (qa 83 ae <| qa 79 aa <| qa 76 aV <| qa 72 aR <| qa 69 aU <| qa 65 aP <| qa 62 aO <| qa 50 aN <| qa 47 aM <| qa 42 aL <| qa 39 aK <| qa 35 aJ <| qa 32 aH <| qa 28 aI <| qa 24 aG <| qa 20 aF <| qa 16 aE <| qa 12 aD <| qa 8 aC <| qa 5 aB <| q0) [] []
  rcases cn h with ⟨cF,ah,h⟩ | ⟨cF,ah,h⟩
  ·obtain rfl:=si h
   exact pv_q F94 (qa 86 ah <| qa 83 ae <| qa 79 aa <| qa 76 aV <| qa 72 aR <| qa 69 aU <| qa 65 aP <| qa 62 aO <| qa 50 aN <| qa 47 aM <| qa 42 aL <| qa 39 aK <| qa 35 aJ <| qa 32 aH <| qa 28 aI <| qa 24 aG <| qa 20 aF <| qa 16 aE <| qa 12 aD <| qa 8 aC <| qa 5 aB <| q0) [] []
  obtain rfl:=si h
  exact pv_q F94 (qa 86 ah <| qa 83 ae <| qa 79 aa <| qa 76 aV <| qa 72 aR <| qa 69 aU <| qa 65 aP <| qa 62 aO <| qa 50 aN <| qa 47 aM <| qa 42 aL <| qa 39 aK <| qa 35 aJ <| qa 32 aH <| qa 28 aI <| qa 24 aG <| qa 20 aF <| qa 16 aE <| qa 12 aD <| qa 8 aC <| qa 5 aB <| q0) [] []
def f95 : Nat → Int → Option ByteArray
 | 0,_ => none
 | n + 1,aA => (cnd (decide (aA < 128)) (some (strOfB [(IntKind.u8.wrap aA)])) (cnd (decide (aA < 2048)) (some (strOfB [(IntKind.u8.wrap (IntKind.i64.wrap (192 + (IntKind.i64.wrap (Int.tdiv aA 64))))),(IntKind.u8.wrap (IntKind.i64.wrap (128 + (Int.tmod aA 64))))])) (some (strOfB [(IntKind.u8.wrap (IntKind.i64.wrap (224 + (IntKind.i64.wrap (Int.tdiv aA 4096))))),(IntKind.u8.wrap (IntKind.i64.wrap (128 + (Int.tmod (IntKind.i64.wrap (Int.tdiv aA 64)) 64)))),(IntKind.u8.wrap (IntKind.i64.wrap (128 + (Int.tmod aA 64))))]))))
theorem f95_ok (n : Nat) (aA : Int) (r : ByteArray) (h : f95 n aA = some r) : pv PP T n 95 [(iv aA)] = some (sv r):=by
 cases n with
 | zero => cases h
 | succ n =>
  rw [f95] at h
  rcases cn h with ⟨aD,aB,h⟩ | ⟨aD,aB,h⟩
  ·obtain rfl:=si h
   exact pv_q F95 (qa 5 aB <| q0) [] []
  rcases cn h with ⟨aE,aC,h⟩ | ⟨aE,aC,h⟩
  ·have aF:=quo_ok (P:=PP) (cf:=evF PP T n) (fl:=0) (H:=[]) (t:=3) (k:=.i64) (a:=aA) (d:=64) (by decide)
   have aG:=rem_ok (P:=PP) (cf:=evF PP T n) (fl:=0) (H:=[]) (t:=3) (k:=.i64) (a:=aA) (d:=64) (by decide)
   obtain rfl:=si h
   exact pv_q F95 (qb 18 aG <| qb 14 aF <| qa 12 aC <| qa 5 aB <| q0) [] []
  have aH:=quo_ok (P:=PP) (cf:=evF PP T n) (fl:=0) (H:=[]) (t:=3) (k:=.i64) (a:=aA) (d:=4096) (by decide)
  have aI:=quo_ok (P:=PP) (cf:=evF PP T n) (fl:=0) (H:=[]) (t:=3) (k:=.i64) (a:=aA) (d:=64) (by decide)
  have aJ:=rem_ok (P:=PP) (cf:=evF PP T n) (fl:=0) (H:=[]) (t:=3) (k:=.i64) (a:=(IntKind.i64.wrap (Int.tdiv aA 64))) (d:=64) (by decide)
  have aK:=rem_ok (P:=PP) (cf:=evF PP T n) (fl:=0) (H:=[]) (t:=3) (k:=.i64) (a:=aA) (d:=64) (by decide)
  obtain rfl:=si h
  exact pv_q F95 (qb 33 aK <| qb 29 aJ <| qb 28 aI <| qb 24 aH <| qa 12 aC <| qa 5 aB <| q0) [] []
def f70_L0_S (aB : ByteArray) (aA : (List Int)) (aC : Int) : St:=⟨[(sv aB),U,U,U,(.ms 0 aA.length 0 aA.length),(iv aC),U,U,U,U,U,U,U,U,U,U,U,U,U,U,U,U,U,U,U,U,U,U,U,U,U,U,U,U,U,U,U,U,U,U,U,U,U,U,U,U,U,U,U,U,U,U,U,U,U,U,U,U,U,U,U],[(.blk 1 (List.map c_i64 aA))]⟩
def f70_L0_E0 (aB : ByteArray) (aA : (List Int)) : St:=⟨[U,U,(.sl false []),(iv 4),U,U,U,U,U,U,U,U,U,U,U,U,U,U,U,U,U,U,U,U,U,U,U,U,U,U,U,U,U,U,U,U,U,U,U,U,U,U,U,U,U,U,U,U,U,U,U,U,U,U,U,U,U,U,U,U,U],[(.blk 1 (List.map c_i64 aA))]⟩
def f70_L0_E1 (aB : ByteArray) (aA : (List Int)) : St:=⟨[U,U,U,U,(.ms 0 aA.length 0 aA.length),U,U,U,U,U,U,U,U,U,U,U,U,U,U,U,U,U,U,U,U,U,U,U,U,U,U,U,U,U,U,U,U,U,U,U,U,U,U,U,U,U,U,U,U,U,U,U,U,U,U,U,U,U,U,U,U],[(.blk 1 (List.map c_i64 aA))]⟩
def f70_L1_S (aB : ByteArray) (aC : Int) (aA : (List Int)) (aD : Int) (aE : Int) : St:=⟨[(sv aB),U,U,U,(.ms 0 aA.length 0 aA.length),(iv aC),(iv aD),(iv aE),U,U,U,U,U,U,U,U,U,U,U,U,U,U,U,U,U,U,U,U,U,U,U,U,U,U,U,U,U,U,U,U,U,U,U,U,U,U,U,U,U,U,U,U,U,U,U,U,U,U,U,U,U],[(.blk 1 (List.map c_i64 aA))]⟩
def f70_L1_E0 (aB : ByteArray) (aC : Int) (aA : (List Int)) (aD : Int) : St:=⟨[(sv aB),U,U,U,(.ms 0 aA.length 0 aA.length),(iv aC),(iv aD),U,U,U,U,U,U,U,U,U,U,U,U,U,U,U,U,U,U,U,U,U,U,U,U,U,U,U,U,U,U,U,U,U,U,U,U,U,U,U,U,U,U,U,U,U,U,U,U,U,U,U,U,U,U],[(.blk 1 (List.map c_i64 aA))]⟩
def f70_L1 (n : Nat) (aC : ByteArray) (aA : Int) : Nat → (List Int) → Int → Int → Option ((List Int) × Int)
 | 0,_,_,_ => none
 | m + 1,aD,aE,aB => (cnd (decide (aB ≤ 3)) (cnd (decide ((IntKind.i64.wrap (aA + aB)) ≤ ((aC.size : Nat) : Int))) (cnd (aE == 0) (bnd (cutS aC aA (IntKind.i64.wrap (aA + aB))) fun aG => (bnd (f93 n aG) fun aF => (bnd (f94 n aF) fun aH => (cnd (decide (aH ≥ 0)) (bnd (f95 n aF) fun aI => (bnd (cutS aC aA (IntKind.i64.wrap (aA + aB))) fun aJ => (cnd (decide (aI = aJ)) (bnd (app aD [aF]) fun aK => (f70_L1 n aC aA m aK aB (IntKind.i64.wrap (aB + 1)))) (f70_L1 n aC aA m aD aE (IntKind.i64.wrap (aB + 1)))))) (f70_L1 n aC aA m aD aE (IntKind.i64.wrap (aB + 1))))))) (some (aD,aE))) (some (aD,aE))) (some (aD,aE)))
theorem f70_L1_ok (n : Nat) (aB : ByteArray) (aC : Int) : ∀ (m : Nat) (aA : (List Int)) (aE : Int) (aD : Int) (r : ((List Int) × Int)),f70_L1 n aB aC m aA aE aD = some r → maskR lv30 [false,false,true,true] false 0 1 (evLoopH (headSt (some lv29) false 0 1) (evC PP (evF PP T n) n 0 L70_1) m (f70_L1_S aB aC aA aE aD)) = some ((.exit 2),f70_L1_E0 aB aC r.1 r.2)
 | 0,_,_,_,_,h => by cases h
 | m + 1,aA,aE,aD,r,h => by
  rw [f70_L1] at h
  rcases cn h with ⟨aS,aF,h⟩ | ⟨aS,aF,h⟩
  rotate_left
  ·obtain rfl:=si h
   exact last_q (some lv29) false (f70_L1_E0 aB aC aA aE) (qa 14 aF <| q0) [] [] trivial
  have aH:=lenStr_9 (cf:=evF PP T n) (fl:=0) (H:=[(.blk 1 (List.map c_i64 aA))]) aB
  rcases cn h with ⟨aT,aG,h⟩ | ⟨aT,aG,h⟩
  rotate_left
  ·obtain rfl:=si h
   exact last_q (some lv29) false (f70_L1_E0 aB aC aA aE) (qa 21 aG <| qb 20 aH <| qa 14 aF <| q0) [] [] trivial
  rcases cn h with ⟨aU,aI,h⟩ | ⟨aU,aI,h⟩
  rotate_left
  ·obtain rfl:=si h
   exact last_q (some lv29) false (f70_L1_E0 aB aC aA aE) (qa 25 aI <| qa 21 aG <| qb 20 aH <| qa 14 aF <| q0) [] [] trivial
  obtain ⟨aV,aW,h⟩:=bnd_some h
  have aK:=strCut11 (P:=PP) (cf:=evF PP T n) (fl:=0) (H:=[(.blk 1 (List.map c_i64 aA))]) (t:=9) aW
  obtain ⟨aO,aX,h⟩:=bnd_some h
  have aL:=f93_ok n aV _ aX
  obtain ⟨ah,aY,h⟩:=bnd_some h
  have aM:=f94_ok n aO _ aY
  rcases cn h with ⟨aZ,aJ,h⟩ | ⟨aZ,aJ,h⟩
  rotate_left
  ·exact nx_q (f70_L1_S aB aC aA aE (IntKind.i64.wrap (aD + 1))) (qa 38 aJ <| qa 37 aM <| qa 35 aL <| qb 34 aK <| qa 25 aI <| qa 21 aG <| qb 20 aH <| qa 14 aF <| q0) [] [] trivial (f70_L1_ok n aB aC m aA aE (IntKind.i64.wrap (aD + 1)) r h)
  obtain ⟨ai,aa,h⟩:=bnd_some h
  have aP:=f95_ok n aO _ aa
  obtain ⟨aj,ab,h⟩:=bnd_some h
  have aQ:=strCut11 (P:=PP) (cf:=evF PP T n) (fl:=0) (H:=[(.blk 1 (List.map c_i64 aA))]) (t:=9) ab
  rcases cn h with ⟨aN,ac,h⟩ | ⟨aN,ac,h⟩
  rotate_left
  ·have ad:=c_str_eql (P:=PP) (cf:=evF PP T n) (fl:=0) (H:=[(.blk 1 (List.map c_i64 aA))]) (t:=9) aN
   exact nx_q (f70_L1_S aB aC aA aE (IntKind.i64.wrap (aD + 1))) (qb 48 ad <| qb 47 aQ <| qa 41 aP <| qa 38 aJ <| qa 37 aM <| qa 35 aL <| qb 34 aK <| qa 25 aI <| qa 21 aG <| qb 20 aH <| qa 14 aF <| q0) [] [] trivial (f70_L1_ok n aB aC m aA aE (IntKind.i64.wrap (aD + 1)) r h)
  have ae:=c_str_eql (P:=PP) (cf:=evF PP T n) (fl:=0) (H:=[(.blk 1 (List.map c_i64 aA))]) (t:=9) aN
  obtain ⟨aR,af,h⟩:=bnd_some h
  have ag:=app_ms (fl:=0) (H:=[(.blk 1 (List.map c_i64 aA))]) (id:=0) (s:=1) (bytes:=8) (c:=c_i64) (l:=aA) af rfl c_i64_len (by omega) (by omega) (by omega)
  exact nx_q (f70_L1_S aB aC aR aD (IntKind.i64.wrap (aD + 1))) (qc 54 ag <| qb 48 ae <| qb 47 aQ <| qa 41 aP <| qa 38 aJ <| qa 37 aM <| qa 35 aL <| qb 34 aK <| qa 25 aI <| qa 21 aG <| qb 20 aH <| qa 14 aF <| q0) [] [] trivial (f70_L1_ok n aB aC m aR aD (IntKind.i64.wrap (aD + 1)) r h)
def f70_L0 (n : Nat) (aB : ByteArray) : Nat → (List Int) → Int → Option ((List Int) ⊕ (List Int))
 | 0,_,_ => none
 | m + 1,aD,aC => (cnd (decide (aC < ((aB.size : Nat) : Int))) (bnd (f70_L1 n aB aC n aD 0 1) fun aA => (cnd (aA.2 == 0) (some (Sum.inl aA.1)) (f70_L0 n aB m aA.1 (IntKind.i64.wrap (aC + aA.2))))) (some (Sum.inr aD)))
theorem f70_L0_ok (n : Nat) (aA : ByteArray) : ∀ (m : Nat) (aD : (List Int)) (aC : Int) (r : ((List Int) ⊕ (List Int))),f70_L0 n aA m aD aC = some r → maskR lv1 [false,false,true,true] false 0 1 (evLoopH (headSt (some lv28) false 0 1) (evC PP (evF PP T n) n 0 L70_0) m (f70_L0_S aA aD aC)) = (match r with | .inl r => some (.ret,f70_L0_E0 aA r) | .inr r => some ((.exit 0),f70_L0_E1 aA r))
 | 0,_,_,_,h => by cases h
 | m + 1,aD,aC,r,h => by
  rw [f70_L0] at h
  have aF:=lenStr_9 (cf:=evF PP T n) (fl:=0) (H:=[(.blk 1 (List.map c_i64 aD))]) aA
  rcases cn h with ⟨aJ,aE,h⟩ | ⟨aJ,aE,h⟩
  rotate_left
  ·obtain rfl:=si h
   exact last_q (some lv28) false (f70_L0_E1 aA aD) (qa 12 aE <| qb 11 aF <| q0) [] [] trivial
  have aH : cleanQ false 0 1 [(.blk 1 (List.map c_i64 aD))]:=trivial
  obtain ⟨aB,aK,h⟩:=bnd_some h
  have aI:=f70_L1_ok n aA aC n aD 0 1 _ aK
  rcases cn h with ⟨aL,aG,h⟩ | ⟨aL,aG,h⟩
  ·obtain rfl:=si h
   exact last_q (some lv28) false (f70_L0_E0 aA aB.1) (qa 56 aG <| qp aI <| qp aH <| qa 12 aE <| qb 11 aF <| q0) [((.exit 2),f70_L1_E0 aA aC aB.1 aB.2)] [] trivial
  exact nx_q (f70_L0_S aA aB.1 (IntKind.i64.wrap (aC + aB.2))) (qa 56 aG <| qp aI <| qp aH <| qa 12 aE <| qb 11 aF <| q0) [((.exit 2),f70_L1_E0 aA aC aB.1 aB.2)] [] trivial (f70_L0_ok n aA m aB.1 (IntKind.i64.wrap (aC + aB.2)) r h)
def f70 : Nat → ByteArray → Option ((List Int) × Int)
 | 0,_ => none
 | n + 1,aA => (bnd2 (f70_L0 n aA n [] 0) (fun aC => (some ([],4))) (fun aB => (some (aB,0))))
theorem f70_ok (n : Nat) (aB : ByteArray) (r : ((List Int) × Int)) (h : f70 n aB = some r) : pv PP T n 70 [(sv aB)] = some (.tup [(.sl false (List.map c_i64 r.1)),(iv r.2)]):=by
 cases n with
 | zero => cases h
 | succ n =>
  rw [f70] at h
  have aE : cleanQ false 0 1 [(.blk 1 (List.map c_i64 []))]:=trivial
  rcases bnd2_some h with ⟨aF,aC,h⟩ | ⟨aA,aC,h⟩
  ·have aD:=f70_L0_ok n aB n [] 0 _ aC
   obtain rfl:=si h
   exact pv_q F70 (qp aD <| qp aE <| q0) [(.ret,f70_L0_E0 aB aF)] []
  have aD:=f70_L0_ok n aB n [] 0 _ aC
  obtain rfl:=si h
  refine pv_evF (evF_q F70 (qp aD <| qp aE <| q0) [((.exit 0),f70_L0_E1 aB aA)] [] (r:=(.tup [(.ms 0 aA.length 0 aA.length),(iv 0)])) (H':=[(.blk 1 (List.map c_i64 aA))])) ?_
  show (AV.tup [(seal1 [(.blk 1 (List.map c_i64 aA))] 0 (.ms 0 aA.length 0 aA.length)),(seal1 [(.blk 1 (List.map c_i64 aA))] 0 (iv 0))]) = _
  rw [seal1_ms (H:=[(.blk 1 (List.map c_i64 aA))]) (id:=0) (s:=1) (c:=c_i64) (l:=aA) rfl (c_i64_seal _ _ _)]
  first | done | rfl
def f71_L0_S (aA : (List Int)) (aB : Int) : St:=⟨[(.sl false (List.map c_i64 aA)),U,U,(iv aB),U,U,U,U,U,U,U,U,U,U,U,U,U,U,U,U,U,U,U,U,U,U,U,U,U,U,U,U,U,U,U,U],[]⟩
def f71_L0_E0 (aA : (List Int)) : St:=⟨[U,U,bt,U,U,U,U,U,U,U,U,U,U,U,U,U,U,U,U,U,U,U,U,U,U,U,U,U,U,U,U,U,U,U,U,U],[]⟩
def f71_L0_E1 (aA : (List Int)) : St:=⟨[U,U,U,U,U,U,U,U,U,U,U,U,U,U,U,U,U,U,U,U,U,U,U,U,U,U,U,U,U,U,U,U,U,U,U,U],[]⟩
def f71_L0 (n : Nat) (aA : (List Int)) : Nat → Int → Option (Unit ⊕ Unit)
 | 0,_ => none
 | m + 1,aB => (cnd (decide (aB < ((aA.length : Nat) : Int))) (bnd (idx aA aB) fun aC => (cnd (aC == 32) (bnd (idx aA (IntKind.i64.wrap (aB - 1))) fun aD => (cnd (aD == 32) (some (Sum.inl ())) (f71_L0 n aA m (IntKind.i64.wrap (aB + 1))))) (f71_L0 n aA m (IntKind.i64.wrap (aB + 1))))) (some (Sum.inr ())))
theorem f71_L0_ok (n : Nat) (aA : (List Int)) : ∀ (m : Nat) (aB : Int) (r : (Unit ⊕ Unit)),f71_L0 n aA m aB = some r → maskR [] [false,false,true] false 0 0 (evLoopH (headSt (some [true,false,false,true]) false 0 0) (evC PP (evF PP T n) n 0 L71_0) m (f71_L0_S aA aB)) = (match r with | .inl r => some (.ret,f71_L0_E0 aA) | .inr r => some ((.exit 0),f71_L0_E1 aA))
 | 0,_,_,h => by cases h
 | m + 1,aB,r,h => by
  rw [f71_L0] at h
  have aD:=len_sl (P:=PP) (cf:=evF PP T n) (fl:=0) (H:=[]) (f:=false) (c:=c_i64) (l:=aA)
  rcases cn h with ⟨aI,aC,h⟩ | ⟨aI,aC,h⟩
  rotate_left
  ·obtain rfl:=si h
   exact last_q (some [true,false,false,true]) false (f71_L0_E1 aA) (qa 20 aC <| qb 19 aD <| q0) [] [] trivial
  obtain ⟨aN,aJ,h⟩:=bnd_some h
  have aF:=idxl (H:=[]) (f:=false) (c:=c_i64) aJ (c_i64_len _)
  rcases cn h with ⟨aK,aE,h⟩ | ⟨aK,aE,h⟩
  rotate_left
  ·exact nx_q (f71_L0_S aA (IntKind.i64.wrap (aB + 1))) (qa 27 aE <| qa 25 aF <| qa 20 aC <| qb 19 aD <| q0) [] [] trivial (f71_L0_ok n aA m (IntKind.i64.wrap (aB + 1)) r h)
  obtain ⟨aO,aL,h⟩:=bnd_some h
  have aH:=idxl (H:=[]) (f:=false) (c:=c_i64) aL (c_i64_len _)
  rcases cn h with ⟨aM,aG,h⟩ | ⟨aM,aG,h⟩
  ·obtain rfl:=si h
   exact last_q (some [true,false,false,true]) false (f71_L0_E0 aA) (qa 34 aG <| qa 32 aH <| qa 27 aE <| qa 25 aF <| qa 20 aC <| qb 19 aD <| q0) [] [] trivial
  exact nx_q (f71_L0_S aA (IntKind.i64.wrap (aB + 1))) (qa 34 aG <| qa 32 aH <| qa 27 aE <| qa 25 aF <| qa 20 aC <| qb 19 aD <| q0) [] [] trivial (f71_L0_ok n aA m (IntKind.i64.wrap (aB + 1)) r h)
def f71 : Nat → (List Int) → Option Bool
 | 0,_ => none
 | n + 1,aA => (bnd (idx aA 0) fun aB => (cnd (aB == 32) (some true) (bnd (idx aA (IntKind.i64.wrap (((aA.length : Nat) : Int) - 1))) fun aC => (cnd (aC == 32) (some true) (bnd2 (f71_L0 n aA n 1) (fun aD => (some true)) (fun aE => (some false)))))))
theorem f71_ok (n : Nat) (aA : (List Int)) (r : Bool) (h : f71 n aA = some r) : pv PP T n 71 [(.sl false (List.map c_i64 aA))] = some (bv r):=by
 cases n with
 | zero => cases h
 | succ n =>
  rw [f71] at h
  obtain ⟨aN,aJ,h⟩:=bnd_some h
  have aC:=idxl (H:=[]) (f:=false) (c:=c_i64) aJ (c_i64_len _)
  rcases cn h with ⟨aK,aB,h⟩ | ⟨aK,aB,h⟩
  ·obtain rfl:=si h
   exact pv_q F71 (qa 7 aB <| qa 5 aC <| q0) [] []
  have aE:=len_sl (P:=PP) (cf:=evF PP T n) (fl:=0) (H:=[]) (f:=false) (c:=c_i64) (l:=aA)
  obtain ⟨aO,aL,h⟩:=bnd_some h
  have aF:=idxl (H:=[]) (f:=false) (c:=c_i64) aL (c_i64_len _)
  rcases cn h with ⟨aM,aD,h⟩ | ⟨aM,aD,h⟩
  ·obtain rfl:=si h
   exact pv_q F71 (qa 15 aD <| qa 13 aF <| qb 11 aE <| qa 7 aB <| qa 5 aC <| q0) [] []
  have aI : cleanQ false 0 0 []:=trivial
  rcases bnd2_some h with ⟨aP,aG,h⟩ | ⟨aQ,aG,h⟩
  ·have aH:=f71_L0_ok n aA n 1 _ aG
   obtain rfl:=si h
   exact pv_q F71 (qp aH <| qp aI <| qa 15 aD <| qa 13 aF <| qb 11 aE <| qa 7 aB <| qa 5 aC <| q0) [(.ret,f71_L0_E0 aA)] []
  have aH:=f71_L0_ok n aA n 1 _ aG
  obtain rfl:=si h
  exact pv_q F71 (qp aH <| qp aI <| qa 15 aD <| qa 13 aF <| qb 11 aE <| qa 7 aB <| qa 5 aC <| q0) [((.exit 0),f71_L0_E1 aA)] []
def f72_L0_S (aA : (List Int)) (aB : Int) : St:=⟨[(.sl false (List.map c_i64 aA)),U,U,(iv aB),U,U,U,U,U,U,U,U,U,U,U,U],[]⟩
def f72_L0_E0 (aA : (List Int)) : St:=⟨[U,U,bf,U,U,U,U,U,U,U,U,U,U,U,U,U],[]⟩
def f72_L0_E1 (aA : (List Int)) : St:=⟨[U,U,U,U,U,U,U,U,U,U,U,U,U,U,U,U],[]⟩
def f72_L0 (n : Nat) (aA : (List Int)) : Nat → Int → Option (Unit ⊕ Unit)
 | 0,_ => none
 | m + 1,aB => (cnd (decide (aB < ((aA.length : Nat) : Int))) (bnd (idx aA aB) fun aC => (bnd (f94 n aC) fun aD => (cnd (aD != 0) (some (Sum.inl ())) (f72_L0 n aA m (IntKind.i64.wrap (aB + 1)))))) (some (Sum.inr ())))
theorem f72_L0_ok (n : Nat) (aA : (List Int)) : ∀ (m : Nat) (aB : Int) (r : (Unit ⊕ Unit)),f72_L0 n aA m aB = some r → maskR [] [false,false,true] false 0 0 (evLoopH (headSt (some [true,false,false,true]) false 0 0) (evC PP (evF PP T n) n 0 L72_0) m (f72_L0_S aA aB)) = (match r with | .inl r => some (.ret,f72_L0_E0 aA) | .inr r => some ((.exit 0),f72_L0_E1 aA))
 | 0,_,_,h => by cases h
 | m + 1,aB,r,h => by
  rw [f72_L0] at h
  have aD:=len_sl (P:=PP) (cf:=evF PP T n) (fl:=0) (H:=[]) (f:=false) (c:=c_i64) (l:=aA)
  rcases cn h with ⟨aH,aC,h⟩ | ⟨aH,aC,h⟩
  rotate_left
  ·obtain rfl:=si h
   exact last_q (some [true,false,false,true]) false (f72_L0_E1 aA) (qa 7 aC <| qb 6 aD <| q0) [] [] trivial
  obtain ⟨aI,aJ,h⟩:=bnd_some h
  have aF:=idxl (H:=[]) (f:=false) (c:=c_i64) aJ (c_i64_len _)
  obtain ⟨aM,aK,h⟩:=bnd_some h
  have aG:=f94_ok n aI _ aK
  rcases cn h with ⟨aL,aE,h⟩ | ⟨aL,aE,h⟩
  ·obtain rfl:=si h
   exact last_q (some [true,false,false,true]) false (f72_L0_E0 aA) (qa 15 aE <| qa 14 aG <| qa 12 aF <| qa 7 aC <| qb 6 aD <| q0) [] [] trivial
  exact nx_q (f72_L0_S aA (IntKind.i64.wrap (aB + 1))) (qa 15 aE <| qa 14 aG <| qa 12 aF <| qa 7 aC <| qb 6 aD <| q0) [] [] trivial (f72_L0_ok n aA m (IntKind.i64.wrap (aB + 1)) r h)
def f72 : Nat → (List Int) → Option Bool
 | 0,_ => none
 | n + 1,aA => (bnd2 (f72_L0 n aA n 0) (fun aB => (some false)) (fun aC => (some true)))
theorem f72_ok (n : Nat) (aA : (List Int)) (r : Bool) (h : f72 n aA = some r) : pv PP T n 72 [(.sl false (List.map c_i64 aA))] = some (bv r):=by
 cases n with
 | zero => cases h
 | succ n =>
  rw [f72] at h
  have aD : cleanQ false 0 0 []:=trivial
  rcases bnd2_some h with ⟨aE,aB,h⟩ | ⟨aF,aB,h⟩
  ·have aC:=f72_L0_ok n aA n 0 _ aB
   obtain rfl:=si h
   exact pv_q F72 (qp aC <| qp aD <| q0) [(.ret,f72_L0_E0 aA)] []
  have aC:=f72_L0_ok n aA n 0 _ aB
  obtain rfl:=si h
  exact pv_q F72 (qp aC <| qp aD <| q0) [((.exit 0),f72_L0_E1 aA)] []
def f45 : Nat → ByteArray → Option Int
 | 0,_ => none
 | n + 1,aB => (cnd (decide (aB = (⟨#[]⟩ : ByteArray))) (some 14) (cnd (decide (((aB.size : Nat) : Int) > 40)) (some 3) (bnd (f70 n aB) fun aA => (cnd (aA.2 != 0) (some aA.2) (cnd (((aA.1.length : Nat) : Int) == 0) (some 14) (bnd (f71 n aA.1) fun aC => (cnd (aC) (some 14) (bnd (f72 n aA.1) fun aD => (cnd (aD) (some 14) (some 0))))))))))
theorem f45_ok (n : Nat) (aH : ByteArray) (r : Int) (h : f45 n aH = some r) : pv PP T n 45 [(sv aH)] = some (iv r):=by
 cases n with
 | zero => cases h
 | succ n =>
  rw [f45] at h
  rcases cn h with ⟨aJ,aP,h⟩ | ⟨aJ,aP,h⟩
  ·have aQ:=c_str_eql (P:=PP) (cf:=evF PP T n) (fl:=0) (H:=[]) (t:=9) aJ
   obtain rfl:=si h
   exact pv_q F45 (qb 6 aQ <| q0) [] []
  have aB:=c_str_eql (P:=PP) (cf:=evF PP T n) (fl:=0) (H:=[]) (t:=9) aJ
  have aC:=lenStr_9 (cf:=evF PP T n) (fl:=0) (H:=[]) aH
  rcases cn h with ⟨aR,aA,h⟩ | ⟨aR,aA,h⟩
  ·obtain rfl:=si h
   exact pv_q F45 (qa 9 aA <| qb 8 aC <| qb 6 aB <| q0) [] []
  obtain ⟨aE,aS,h⟩:=bnd_some h
  have aF:=f70_ok n aH _ aS
  rcases cn h with ⟨aT,aD,h⟩ | ⟨aT,aD,h⟩
  ·obtain rfl:=si h
   exact pv_q F45 (qa 16 aD <| qa 12 aF <| qa 9 aA <| qb 8 aC <| qb 6 aB <| q0) [] []
  have aI:=len_sl (P:=PP) (cf:=evF PP T n) (fl:=0) (H:=[]) (f:=false) (c:=c_i64) (l:=aE.1)
  rcases cn h with ⟨aU,aG,h⟩ | ⟨aU,aG,h⟩
  ·obtain rfl:=si h
   exact pv_q F45 (qa 20 aG <| qb 19 aI <| qa 16 aD <| qa 12 aF <| qa 9 aA <| qb 8 aC <| qb 6 aB <| q0) [] []
  obtain ⟨aa,aM,h⟩:=bnd_some h
  rcases cn h with ⟨aK,aV,h⟩ | ⟨aK,aV,h⟩
  ·have aW:=by have q:=f71_ok n aE.1 _ aM; rw [aK] at q; exact q
   obtain rfl:=si h
   exact pv_q F45 (qa 23 aW <| qa 20 aG <| qb 19 aI <| qa 16 aD <| qa 12 aF <| qa 9 aA <| qb 8 aC <| qb 6 aB <| q0) [] []
  have aN:=by have q:=f71_ok n aE.1 _ aM; rw [aK] at q; exact q
  obtain ⟨ab,aO,h⟩:=bnd_some h
  rcases cn h with ⟨aL,aX,h⟩ | ⟨aL,aX,h⟩
  ·have aY:=by have q:=f72_ok n aE.1 _ aO; rw [aL] at q; exact q
   obtain rfl:=si h
   exact pv_q F45 (qa 27 aY <| qa 23 aN <| qa 20 aG <| qb 19 aI <| qa 16 aD <| qa 12 aF <| qa 9 aA <| qb 8 aC <| qb 6 aB <| q0) [] []
  have aZ:=by have q:=f72_ok n aE.1 _ aO; rw [aL] at q; exact q
  obtain rfl:=si h
  exact pv_q F45 (qa 27 aZ <| qa 23 aN <| qa 20 aG <| qb 19 aI <| qa 16 aD <| qa 12 aF <| qa 9 aA <| qb 8 aC <| qb 6 aB <| q0) [] []
def f73 : Nat → Int → Option Int
 | 0,_ => none
 | n + 1,aA => (cnd (aA == 1) (some 1) (cnd (aA == 2) (some 1) (cnd (aA == 8) (some 1) (cnd (aA == 3) (some 2) (cnd (aA == 4) (some 2) (cnd (aA == 5) (some 3) (cnd (aA == 6) (some 3) (cnd (aA == 7) (some 3) (some 0)))))))))
theorem f73_ok (n : Nat) (aI : Int) (r : Int) (h : f73 n aI = some r) : pv PP T n 73 [(iv aI)] = some (iv r):=by
 cases n with
 | zero => cases h
 | succ n =>
  rw [f73] at h
  rcases cn h with ⟨aJ,aA,h⟩ | ⟨aJ,aA,h⟩
  ·obtain rfl:=si h
   exact pv_q F73 (qa 5 aA <| q0) [] []
  rcases cn h with ⟨aK,aB,h⟩ | ⟨aK,aB,h⟩
  ·obtain rfl:=si h
   exact pv_q F73 (qa 6 aB <| qa 5 aA <| q0) [] []
  rcases cn h with ⟨aL,aC,h⟩ | ⟨aL,aC,h⟩
  ·obtain rfl:=si h
   exact pv_q F73 (qa 7 aC <| qa 6 aB <| qa 5 aA <| q0) [] []
  rcases cn h with ⟨aM,aD,h⟩ | ⟨aM,aD,h⟩
  ·obtain rfl:=si h
   exact pv_q F73 (qa 9 aD <| qa 7 aC <| qa 6 aB <| qa 5 aA <| q0) [] []
  rcases cn h with ⟨aN,aE,h⟩ | ⟨aN,aE,h⟩
  ·obtain rfl:=si h
   exact pv_q F73 (qa 10 aE <| qa 9 aD <| qa 7 aC <| qa 6 aB <| qa 5 aA <| q0) [] []
  rcases cn h with ⟨aO,aF,h⟩ | ⟨aO,aF,h⟩
  ·obtain rfl:=si h
   exact pv_q F73 (qa 12 aF <| qa 10 aE <| qa 9 aD <| qa 7 aC <| qa 6 aB <| qa 5 aA <| q0) [] []
  rcases cn h with ⟨aP,aG,h⟩ | ⟨aP,aG,h⟩
  ·obtain rfl:=si h
   exact pv_q F73 (qa 13 aG <| qa 12 aF <| qa 10 aE <| qa 9 aD <| qa 7 aC <| qa 6 aB <| qa 5 aA <| q0) [] []
  rcases cn h with ⟨aQ,aH,h⟩ | ⟨aQ,aH,h⟩
  ·obtain rfl:=si h
   exact pv_q F73 (qa 14 aH <| qa 13 aG <| qa 12 aF <| qa 10 aE <| qa 9 aD <| qa 7 aC <| qa 6 aB <| qa 5 aA <| q0) [] []
  obtain rfl:=si h
  exact pv_q F73 (qa 14 aH <| qa 13 aG <| qa 12 aF <| qa 10 aE <| qa 9 aD <| qa 7 aC <| qa 6 aB <| qa 5 aA <| q0) [] []
def f74 : Nat → Int → Option ByteArray
 | 0,_ => none
 | n + 1,aA => (cnd (aA == 1) (some ⟨#[116]⟩) (cnd (aA == 3) (some ⟨#[116]⟩) (cnd (aA == 4) (some ⟨#[97,98,99,118]⟩) (cnd (aA == 6) (some ⟨#[118]⟩) (cnd (aA == 7) (some ⟨#[97,98,110,112]⟩) (cnd (aA == 9) (some ⟨#[110]⟩) (cnd (aA == 10) (some ⟨#[98]⟩) (cnd (aA == 11) (some ⟨#[112]⟩) (cnd (aA == 12) (some ⟨#[97]⟩) (some ⟨#[]⟩))))))))))
theorem f74_ok (n : Nat) (aJ : Int) (r : ByteArray) (h : f74 n aJ = some r) : pv PP T n 74 [(iv aJ)] = some (sv r):=by
 cases n with
 | zero => cases h
 | succ n =>
  rw [f74] at h
  rcases cn h with ⟨aK,aA,h⟩ | ⟨aK,aA,h⟩
  ·obtain rfl:=si h
   exact pv_q F74 (qa 5 aA <| q0) [] []
  rcases cn h with ⟨aL,aB,h⟩ | ⟨aL,aB,h⟩
  ·obtain rfl:=si h
   exact pv_q F74 (qa 6 aB <| qa 5 aA <| q0) [] []
  rcases cn h with ⟨aM,aC,h⟩ | ⟨aM,aC,h⟩
  ·obtain rfl:=si h
   exact pv_q F74 (qa 8 aC <| qa 6 aB <| qa 5 aA <| q0) [] []
  rcases cn h with ⟨aN,aD,h⟩ | ⟨aN,aD,h⟩
  ·obtain rfl:=si h
   exact pv_q F74 (qa 10 aD <| qa 8 aC <| qa 6 aB <| qa 5 aA <| q0) [] []
  rcases cn h with ⟨aO,aE,h⟩ | ⟨aO,aE,h⟩
  ·obtain rfl:=si h
   exact pv_q F74 (qa 12 aE <| qa 10 aD <| qa 8 aC <| qa 6 aB <| qa 5 aA <| q0) [] []
  rcases cn h with ⟨aP,aF,h⟩ | ⟨aP,aF,h⟩
  ·obtain rfl:=si h
   exact pv_q F74 (qa 14 aF <| qa 12 aE <| qa 10 aD <| qa 8 aC <| qa 6 aB <| qa 5 aA <| q0) [] []
  rcases cn h with ⟨aQ,aG,h⟩ | ⟨aQ,aG,h⟩
  ·obtain rfl:=si h
   exact pv_q F74 (qa 16 aG <| qa 14 aF <| qa 12 aE <| qa 10 aD <| qa 8 aC <| qa 6 aB <| qa 5 aA <| q0) [] []
  rcases cn h with ⟨aR,aH,h⟩ | ⟨aR,aH,h⟩
  ·obtain rfl:=si h
   exact pv_q F74 (qa 18 aH <| qa 16 aG <| qa 14 aF <| qa 12 aE <| qa 10 aD <| qa 8 aC <| qa 6 aB <| qa 5 aA <| q0) [] []
  rcases cn h with ⟨aS,aI,h⟩ | ⟨aS,aI,h⟩
  ·obtain rfl:=si h
   exact pv_q F74 (qa 20 aI <| qa 18 aH <| qa 16 aG <| qa 14 aF <| qa 12 aE <| qa 10 aD <| qa 8 aC <| qa 6 aB <| qa 5 aA <| q0) [] []
  obtain rfl:=si h
  exact pv_q F74 (qa 20 aI <| qa 18 aH <| qa 16 aG <| qa 14 aF <| qa 12 aE <| qa 10 aD <| qa 8 aC <| qa 6 aB <| qa 5 aA <| q0) [] []
def f75_0 : Nat → GEdit → Option Bool
 | 0,_ => none
 | n + 1,aA => (bnd (prdk 1 n) fun aB => (cnd (decide (aA.At = (GPoint.mk 0 0))) (cnd (aA.A != 0) (some false) (cnd (aA.B != 0) (some false) (cnd (aA.C != 0) (some false) (cnd (((aA.Via.length : Nat) : Int) == 0) (cnd (decide (aA.Name = (⟨#[]⟩ : ByteArray))) (cnd (((aA.Parts.length : Nat) : Int) == 0) (some true) (some false)) (some false)) (some false))))) (some false)))
theorem f75_0_ok (n : Nat) (aA : GEdit) (r : Bool) (h : f75_0 n aA = some r) : pv PP T n 75 [(.agg (c_GEdit aA)),(sv (⟨#[]⟩))] = some (bv r):=by
 cases n with
 | zero => cases h
 | succ n =>
  rw [f75_0] at h
  obtain ⟨aZ,aO,h⟩:=bnd_some h
  have aP:=prdk_eq aO
  have aB : cleanQ false 0 1 [(.blk 10 [(c_GEdit aA)])]:=trivial
  have aC : maskR lv31 lv1 false 0 1 (evLoopH (headSt (some lv32) false 0 1) (evC PP (evF PP T n) n 0 L75_0) n ⟨[U,(sv (⟨#[]⟩)),(.ptr 0 1 0 0),U,U,bf,bf,bf,bf,bf,bf,bf,(iv 0),U,U,U,U,U,U,U,U,U,U,U,U,U,U,U,U,U,U,U,U,U,U,U,U,U,U,U,U,U,U,U,U,U,U,U,U,U,U,U,U,U,U,U,U,U,U,U,U,U,U,U,U,U,U,U,U,U,U,U,U,U,U,U,U,U,U,U,U,U,U,U,U,U,U,U,U,U,U,U,U,U,U],[(.blk 10 [(c_GEdit aA)])]⟩) = some ((.exit 0),⟨[U,U,(.ptr 0 1 0 0),U,U,bf,bf,bf,bf,bf,bf,bf,U,U,U,U,U,U,U,U,U,U,U,U,U,U,U,U,U,U,U,U,U,U,U,U,U,U,U,U,U,U,U,U,U,U,U,U,U,U,U,U,U,U,U,U,U,U,U,U,U,U,U,U,U,U,U,U,U,U,U,U,U,U,U,U,U,U,U,U,U,U,U,U,U,U,U,U,U,U,U,U,U,U,U],[(.blk 10 [(c_GEdit aA)])]⟩):=by rw [aP]; kernel_rfl
  rcases cn h with ⟨aJ,aQ,h⟩ | ⟨aJ,aQ,h⟩
  rotate_left
  ·have aR:=c_GPoint_neq (cf:=evF PP T n) (fl:=0) (H:=[(.blk 10 [(c_GEdit aA)])]) (a:=aA.At) (b:=(GPoint.mk 0 0)) aJ
   obtain rfl:=si h
   exact pv_q F75 (qb 42 aR <| qp aC <| qp aB <| q0) [((.exit 0),⟨[U,U,(.ptr 0 1 0 0),U,U,bf,bf,bf,bf,bf,bf,bf,U,U,U,U,U,U,U,U,U,U,U,U,U,U,U,U,U,U,U,U,U,U,U,U,U,U,U,U,U,U,U,U,U,U,U,U,U,U,U,U,U,U,U,U,U,U,U,U,U,U,U,U,U,U,U,U,U,U,U,U,U,U,U,U,U,U,U,U,U,U,U,U,U,U,U,U,U,U,U,U,U,U,U],[(.blk 10 [(c_GEdit aA)])]⟩)] []
  have aE:=c_GPoint_neq (cf:=evF PP T n) (fl:=0) (H:=[(.blk 10 [(c_GEdit aA)])]) (a:=aA.At) (b:=(GPoint.mk 0 0)) aJ
  rcases cn h with ⟨aS,aD,h⟩ | ⟨aS,aD,h⟩
  ·obtain rfl:=si h
   exact pv_q F75 (qa 50 aD <| qb 42 aE <| qp aC <| qp aB <| q0) [((.exit 0),⟨[U,U,(.ptr 0 1 0 0),U,U,bf,bf,bf,bf,bf,bf,bf,U,U,U,U,U,U,U,U,U,U,U,U,U,U,U,U,U,U,U,U,U,U,U,U,U,U,U,U,U,U,U,U,U,U,U,U,U,U,U,U,U,U,U,U,U,U,U,U,U,U,U,U,U,U,U,U,U,U,U,U,U,U,U,U,U,U,U,U,U,U,U,U,U,U,U,U,U,U,U,U,U,U,U],[(.blk 10 [(c_GEdit aA)])]⟩)] []
  rcases cn h with ⟨aT,aF,h⟩ | ⟨aT,aF,h⟩
  ·obtain rfl:=si h
   exact pv_q F75 (qa 59 aF <| qa 50 aD <| qb 42 aE <| qp aC <| qp aB <| q0) [((.exit 0),⟨[U,U,(.ptr 0 1 0 0),U,U,bf,bf,bf,bf,bf,bf,bf,U,U,U,U,U,U,U,U,U,U,U,U,U,U,U,U,U,U,U,U,U,U,U,U,U,U,U,U,U,U,U,U,U,U,U,U,U,U,U,U,U,U,U,U,U,U,U,U,U,U,U,U,U,U,U,U,U,U,U,U,U,U,U,U,U,U,U,U,U,U,U,U,U,U,U,U,U,U,U,U,U,U,U],[(.blk 10 [(c_GEdit aA)])]⟩)] []
  rcases cn h with ⟨aU,aG,h⟩ | ⟨aU,aG,h⟩
  ·obtain rfl:=si h
   exact pv_q F75 (qa 68 aG <| qa 59 aF <| qa 50 aD <| qb 42 aE <| qp aC <| qp aB <| q0) [((.exit 0),⟨[U,U,(.ptr 0 1 0 0),U,U,bf,bf,bf,bf,bf,bf,bf,U,U,U,U,U,U,U,U,U,U,U,U,U,U,U,U,U,U,U,U,U,U,U,U,U,U,U,U,U,U,U,U,U,U,U,U,U,U,U,U,U,U,U,U,U,U,U,U,U,U,U,U,U,U,U,U,U,U,U,U,U,U,U,U,U,U,U,U,U,U,U,U,U,U,U,U,U,U,U,U,U,U,U],[(.blk 10 [(c_GEdit aA)])]⟩)] []
  have aI:=len_sl (P:=PP) (cf:=evF PP T n) (fl:=0) (H:=[(.blk 10 [(c_GEdit aA)])]) (f:=false) (c:=c_GPoint) (l:=aA.Via)
  rcases cn h with ⟨aV,aH,h⟩ | ⟨aV,aH,h⟩
  rotate_left
  ·obtain rfl:=si h
   exact pv_q F75 (qa 76 aH <| qb 75 aI <| qa 68 aG <| qa 59 aF <| qa 50 aD <| qb 42 aE <| qp aC <| qp aB <| q0) [((.exit 0),⟨[U,U,(.ptr 0 1 0 0),U,U,bf,bf,bf,bf,bf,bf,bf,U,U,U,U,U,U,U,U,U,U,U,U,U,U,U,U,U,U,U,U,U,U,U,U,U,U,U,U,U,U,U,U,U,U,U,U,U,U,U,U,U,U,U,U,U,U,U,U,U,U,U,U,U,U,U,U,U,U,U,U,U,U,U,U,U,U,U,U,U,U,U,U,U,U,U,U,U,U,U,U,U,U,U],[(.blk 10 [(c_GEdit aA)])]⟩)] []
  rcases cn h with ⟨aK,aW,h⟩ | ⟨aK,aW,h⟩
  rotate_left
  ·have aX:=c_str_eql (P:=PP) (cf:=evF PP T n) (fl:=0) (H:=[(.blk 10 [(c_GEdit aA)])]) (t:=9) aK
   obtain rfl:=si h
   exact pv_q F75 (qb 83 aX <| qa 76 aH <| qb 75 aI <| qa 68 aG <| qa 59 aF <| qa 50 aD <| qb 42 aE <| qp aC <| qp aB <| q0) [((.exit 0),⟨[U,U,(.ptr 0 1 0 0),U,U,bf,bf,bf,bf,bf,bf,bf,U,U,U,U,U,U,U,U,U,U,U,U,U,U,U,U,U,U,U,U,U,U,U,U,U,U,U,U,U,U,U,U,U,U,U,U,U,U,U,U,U,U,U,U,U,U,U,U,U,U,U,U,U,U,U,U,U,U,U,U,U,U,U,U,U,U,U,U,U,U,U,U,U,U,U,U,U,U,U,U,U,U,U],[(.blk 10 [(c_GEdit aA)])]⟩)] []
  have aM:=c_str_eql (P:=PP) (cf:=evF PP T n) (fl:=0) (H:=[(.blk 10 [(c_GEdit aA)])]) (t:=9) aK
  have aN:=len_sl (P:=PP) (cf:=evF PP T n) (fl:=0) (H:=[(.blk 10 [(c_GEdit aA)])]) (f:=false) (c:=c_i64) (l:=aA.Parts)
  rcases cn h with ⟨aY,aL,h⟩ | ⟨aY,aL,h⟩
  ·obtain rfl:=si h
   exact pv_q F75 (qa 92 aL <| qb 91 aN <| qb 83 aM <| qa 76 aH <| qb 75 aI <| qa 68 aG <| qa 59 aF <| qa 50 aD <| qb 42 aE <| qp aC <| qp aB <| q0) [((.exit 0),⟨[U,U,(.ptr 0 1 0 0),U,U,bf,bf,bf,bf,bf,bf,bf,U,U,U,U,U,U,U,U,U,U,U,U,U,U,U,U,U,U,U,U,U,U,U,U,U,U,U,U,U,U,U,U,U,U,U,U,U,U,U,U,U,U,U,U,U,U,U,U,U,U,U,U,U,U,U,U,U,U,U,U,U,U,U,U,U,U,U,U,U,U,U,U,U,U,U,U,U,U,U,U,U,U,U],[(.blk 10 [(c_GEdit aA)])]⟩)] []
  obtain rfl:=si h
  exact pv_q F75 (qa 92 aL <| qb 91 aN <| qb 83 aM <| qa 76 aH <| qb 75 aI <| qa 68 aG <| qa 59 aF <| qa 50 aD <| qb 42 aE <| qp aC <| qp aB <| q0) [((.exit 0),⟨[U,U,(.ptr 0 1 0 0),U,U,bf,bf,bf,bf,bf,bf,bf,U,U,U,U,U,U,U,U,U,U,U,U,U,U,U,U,U,U,U,U,U,U,U,U,U,U,U,U,U,U,U,U,U,U,U,U,U,U,U,U,U,U,U,U,U,U,U,U,U,U,U,U,U,U,U,U,U,U,U,U,U,U,U,U,U,U,U,U,U,U,U,U,U,U,U,U,U,U,U,U,U,U,U],[(.blk 10 [(c_GEdit aA)])]⟩)] []
def f75_1 : Nat → GEdit → Option Bool
 | 0,_ => none
 | n + 1,aA => (bnd (prdk 2 n) fun aB => (cnd (aA.A != 0) (some false) (cnd (aA.B != 0) (some false) (cnd (aA.C != 0) (some false) (cnd (((aA.Via.length : Nat) : Int) == 0) (cnd (decide (aA.Name = (⟨#[]⟩ : ByteArray))) (cnd (((aA.Parts.length : Nat) : Int) == 0) (some true) (some false)) (some false)) (some false))))))
theorem f75_1_ok (n : Nat) (aA : GEdit) (r : Bool) (h : f75_1 n aA = some r) : pv PP T n 75 [(.agg (c_GEdit aA)),(sv (⟨#[116]⟩))] = some (bv r):=by
 cases n with
 | zero => cases h
 | succ n =>
  rw [f75_1] at h
  obtain ⟨aV,aM,h⟩:=bnd_some h
  have aN:=prdk_eq aM
  have aC : cleanQ false 0 1 [(.blk 10 [(c_GEdit aA)])]:=trivial
  have aD : maskR lv31 lv1 false 0 1 (evLoopH (headSt (some lv32) false 0 1) (evC PP (evF PP T n) n 0 L75_0) n ⟨[U,(sv (⟨#[116]⟩)),(.ptr 0 1 0 0),U,U,bf,bf,bf,bf,bf,bf,bf,(iv 0),U,U,U,U,U,U,U,U,U,U,U,U,U,U,U,U,U,U,U,U,U,U,U,U,U,U,U,U,U,U,U,U,U,U,U,U,U,U,U,U,U,U,U,U,U,U,U,U,U,U,U,U,U,U,U,U,U,U,U,U,U,U,U,U,U,U,U,U,U,U,U,U,U,U,U,U,U,U,U,U,U,U],[(.blk 10 [(c_GEdit aA)])]⟩) = some ((.exit 0),⟨[U,U,(.ptr 0 1 0 0),U,U,bt,bf,bf,bf,bf,bf,bf,U,U,U,U,U,U,U,U,U,U,U,U,U,U,U,U,U,U,U,U,U,U,U,U,U,U,U,U,U,U,U,U,U,U,U,U,U,U,U,U,U,U,U,U,U,U,U,U,U,U,U,U,U,U,U,U,U,U,U,U,U,U,U,U,U,U,U,U,U,U,U,U,U,U,U,U,U,U,U,U,U,U,U],[(.blk 10 [(c_GEdit aA)])]⟩):=by rw [aN]; kernel_rfl
  rcases cn h with ⟨aO,aB,h⟩ | ⟨aO,aB,h⟩
  ·obtain rfl:=si h
   exact pv_q F75 (qa 50 aB <| qp aD <| qp aC <| q0) [((.exit 0),⟨[U,U,(.ptr 0 1 0 0),U,U,bt,bf,bf,bf,bf,bf,bf,U,U,U,U,U,U,U,U,U,U,U,U,U,U,U,U,U,U,U,U,U,U,U,U,U,U,U,U,U,U,U,U,U,U,U,U,U,U,U,U,U,U,U,U,U,U,U,U,U,U,U,U,U,U,U,U,U,U,U,U,U,U,U,U,U,U,U,U,U,U,U,U,U,U,U,U,U,U,U,U,U,U,U],[(.blk 10 [(c_GEdit aA)])]⟩)] []
  rcases cn h with ⟨aP,aE,h⟩ | ⟨aP,aE,h⟩
  ·obtain rfl:=si h
   exact pv_q F75 (qa 59 aE <| qa 50 aB <| qp aD <| qp aC <| q0) [((.exit 0),⟨[U,U,(.ptr 0 1 0 0),U,U,bt,bf,bf,bf,bf,bf,bf,U,U,U,U,U,U,U,U,U,U,U,U,U,U,U,U,U,U,U,U,U,U,U,U,U,U,U,U,U,U,U,U,U,U,U,U,U,U,U,U,U,U,U,U,U,U,U,U,U,U,U,U,U,U,U,U,U,U,U,U,U,U,U,U,U,U,U,U,U,U,U,U,U,U,U,U,U,U,U,U,U,U,U],[(.blk 10 [(c_GEdit aA)])]⟩)] []
  rcases cn h with ⟨aQ,aF,h⟩ | ⟨aQ,aF,h⟩
  ·obtain rfl:=si h
   exact pv_q F75 (qa 68 aF <| qa 59 aE <| qa 50 aB <| qp aD <| qp aC <| q0) [((.exit 0),⟨[U,U,(.ptr 0 1 0 0),U,U,bt,bf,bf,bf,bf,bf,bf,U,U,U,U,U,U,U,U,U,U,U,U,U,U,U,U,U,U,U,U,U,U,U,U,U,U,U,U,U,U,U,U,U,U,U,U,U,U,U,U,U,U,U,U,U,U,U,U,U,U,U,U,U,U,U,U,U,U,U,U,U,U,U,U,U,U,U,U,U,U,U,U,U,U,U,U,U,U,U,U,U,U,U],[(.blk 10 [(c_GEdit aA)])]⟩)] []
  have aH:=len_sl (P:=PP) (cf:=evF PP T n) (fl:=0) (H:=[(.blk 10 [(c_GEdit aA)])]) (f:=false) (c:=c_GPoint) (l:=aA.Via)
  rcases cn h with ⟨aR,aG,h⟩ | ⟨aR,aG,h⟩
  rotate_left
  ·obtain rfl:=si h
   exact pv_q F75 (qa 76 aG <| qb 75 aH <| qa 68 aF <| qa 59 aE <| qa 50 aB <| qp aD <| qp aC <| q0) [((.exit 0),⟨[U,U,(.ptr 0 1 0 0),U,U,bt,bf,bf,bf,bf,bf,bf,U,U,U,U,U,U,U,U,U,U,U,U,U,U,U,U,U,U,U,U,U,U,U,U,U,U,U,U,U,U,U,U,U,U,U,U,U,U,U,U,U,U,U,U,U,U,U,U,U,U,U,U,U,U,U,U,U,U,U,U,U,U,U,U,U,U,U,U,U,U,U,U,U,U,U,U,U,U,U,U,U,U,U],[(.blk 10 [(c_GEdit aA)])]⟩)] []
  rcases cn h with ⟨aI,aS,h⟩ | ⟨aI,aS,h⟩
  rotate_left
  ·have aT:=c_str_eql (P:=PP) (cf:=evF PP T n) (fl:=0) (H:=[(.blk 10 [(c_GEdit aA)])]) (t:=9) aI
   obtain rfl:=si h
   exact pv_q F75 (qb 83 aT <| qa 76 aG <| qb 75 aH <| qa 68 aF <| qa 59 aE <| qa 50 aB <| qp aD <| qp aC <| q0) [((.exit 0),⟨[U,U,(.ptr 0 1 0 0),U,U,bt,bf,bf,bf,bf,bf,bf,U,U,U,U,U,U,U,U,U,U,U,U,U,U,U,U,U,U,U,U,U,U,U,U,U,U,U,U,U,U,U,U,U,U,U,U,U,U,U,U,U,U,U,U,U,U,U,U,U,U,U,U,U,U,U,U,U,U,U,U,U,U,U,U,U,U,U,U,U,U,U,U,U,U,U,U,U,U,U,U,U,U,U],[(.blk 10 [(c_GEdit aA)])]⟩)] []
  have aK:=c_str_eql (P:=PP) (cf:=evF PP T n) (fl:=0) (H:=[(.blk 10 [(c_GEdit aA)])]) (t:=9) aI
  have aL:=len_sl (P:=PP) (cf:=evF PP T n) (fl:=0) (H:=[(.blk 10 [(c_GEdit aA)])]) (f:=false) (c:=c_i64) (l:=aA.Parts)
  rcases cn h with ⟨aU,aJ,h⟩ | ⟨aU,aJ,h⟩
  ·obtain rfl:=si h
   exact pv_q F75 (qa 92 aJ <| qb 91 aL <| qb 83 aK <| qa 76 aG <| qb 75 aH <| qa 68 aF <| qa 59 aE <| qa 50 aB <| qp aD <| qp aC <| q0) [((.exit 0),⟨[U,U,(.ptr 0 1 0 0),U,U,bt,bf,bf,bf,bf,bf,bf,U,U,U,U,U,U,U,U,U,U,U,U,U,U,U,U,U,U,U,U,U,U,U,U,U,U,U,U,U,U,U,U,U,U,U,U,U,U,U,U,U,U,U,U,U,U,U,U,U,U,U,U,U,U,U,U,U,U,U,U,U,U,U,U,U,U,U,U,U,U,U,U,U,U,U,U,U,U,U,U,U,U,U],[(.blk 10 [(c_GEdit aA)])]⟩)] []
  obtain rfl:=si h
  exact pv_q F75 (qa 92 aJ <| qb 91 aL <| qb 83 aK <| qa 76 aG <| qb 75 aH <| qa 68 aF <| qa 59 aE <| qa 50 aB <| qp aD <| qp aC <| q0) [((.exit 0),⟨[U,U,(.ptr 0 1 0 0),U,U,bt,bf,bf,bf,bf,bf,bf,U,U,U,U,U,U,U,U,U,U,U,U,U,U,U,U,U,U,U,U,U,U,U,U,U,U,U,U,U,U,U,U,U,U,U,U,U,U,U,U,U,U,U,U,U,U,U,U,U,U,U,U,U,U,U,U,U,U,U,U,U,U,U,U,U,U,U,U,U,U,U,U,U,U,U,U,U,U,U,U,U,U,U],[(.blk 10 [(c_GEdit aA)])]⟩)] []
def f75_2 : Nat → GEdit → Option Bool
 | 0,_ => none
 | n + 1,aA => (bnd (prdk 5 n) fun aB => (cnd (decide (aA.At = (GPoint.mk 0 0))) (cnd (decide (aA.Name = (⟨#[]⟩ : ByteArray))) (cnd (((aA.Parts.length : Nat) : Int) == 0) (some true) (some false)) (some false)) (some false)))
theorem f75_2_ok (n : Nat) (aA : GEdit) (r : Bool) (h : f75_2 n aA = some r) : pv PP T n 75 [(.agg (c_GEdit aA)),(sv (⟨#[97,98,99,118]⟩))] = some (bv r):=by
 cases n with
 | zero => cases h
 | succ n =>
  rw [f75_2] at h
  obtain ⟨aQ,aJ,h⟩:=bnd_some h
  have aK:=prdk_eq aJ
  have aB : cleanQ false 0 1 [(.blk 10 [(c_GEdit aA)])]:=trivial
  have aC : maskR lv31 lv1 false 0 1 (evLoopH (headSt (some lv32) false 0 1) (evC PP (evF PP T n) n 0 L75_0) n ⟨[U,(sv (⟨#[97,98,99,118]⟩)),(.ptr 0 1 0 0),U,U,bf,bf,bf,bf,bf,bf,bf,(iv 0),U,U,U,U,U,U,U,U,U,U,U,U,U,U,U,U,U,U,U,U,U,U,U,U,U,U,U,U,U,U,U,U,U,U,U,U,U,U,U,U,U,U,U,U,U,U,U,U,U,U,U,U,U,U,U,U,U,U,U,U,U,U,U,U,U,U,U,U,U,U,U,U,U,U,U,U,U,U,U,U,U,U],[(.blk 10 [(c_GEdit aA)])]⟩) = some ((.exit 0),⟨[U,U,(.ptr 0 1 0 0),U,U,bf,bt,bt,bt,bt,bf,bf,U,U,U,U,U,U,U,U,U,U,U,U,U,U,U,U,U,U,U,U,U,U,U,U,U,U,U,U,U,U,U,U,U,U,U,U,U,U,U,U,U,U,U,U,U,U,U,U,U,U,U,U,U,U,U,U,U,U,U,U,U,U,U,U,U,U,U,U,U,U,U,U,U,U,U,U,U,U,U,U,U,U,U],[(.blk 10 [(c_GEdit aA)])]⟩):=by rw [aK]; kernel_rfl
  rcases cn h with ⟨aD,aL,h⟩ | ⟨aD,aL,h⟩
  rotate_left
  ·have aM:=c_GPoint_neq (cf:=evF PP T n) (fl:=0) (H:=[(.blk 10 [(c_GEdit aA)])]) (a:=aA.At) (b:=(GPoint.mk 0 0)) aD
   obtain rfl:=si h
   exact pv_q F75 (qb 42 aM <| qp aC <| qp aB <| q0) [((.exit 0),⟨[U,U,(.ptr 0 1 0 0),U,U,bf,bt,bt,bt,bt,bf,bf,U,U,U,U,U,U,U,U,U,U,U,U,U,U,U,U,U,U,U,U,U,U,U,U,U,U,U,U,U,U,U,U,U,U,U,U,U,U,U,U,U,U,U,U,U,U,U,U,U,U,U,U,U,U,U,U,U,U,U,U,U,U,U,U,U,U,U,U,U,U,U,U,U,U,U,U,U,U,U,U,U,U,U],[(.blk 10 [(c_GEdit aA)])]⟩)] []
  have aE:=c_GPoint_neq (cf:=evF PP T n) (fl:=0) (H:=[(.blk 10 [(c_GEdit aA)])]) (a:=aA.At) (b:=(GPoint.mk 0 0)) aD
  rcases cn h with ⟨aF,aN,h⟩ | ⟨aF,aN,h⟩
  rotate_left
  ·have aO:=c_str_eql (P:=PP) (cf:=evF PP T n) (fl:=0) (H:=[(.blk 10 [(c_GEdit aA)])]) (t:=9) aF
   obtain rfl:=si h
   exact pv_q F75 (qb 83 aO <| qb 42 aE <| qp aC <| qp aB <| q0) [((.exit 0),⟨[U,U,(.ptr 0 1 0 0),U,U,bf,bt,bt,bt,bt,bf,bf,U,U,U,U,U,U,U,U,U,U,U,U,U,U,U,U,U,U,U,U,U,U,U,U,U,U,U,U,U,U,U,U,U,U,U,U,U,U,U,U,U,U,U,U,U,U,U,U,U,U,U,U,U,U,U,U,U,U,U,U,U,U,U,U,U,U,U,U,U,U,U,U,U,U,U,U,U,U,U,U,U,U,U],[(.blk 10 [(c_GEdit aA)])]⟩)] []
  have aH:=c_str_eql (P:=PP) (cf:=evF PP T n) (fl:=0) (H:=[(.blk 10 [(c_GEdit aA)])]) (t:=9) aF
  have aI:=len_sl (P:=PP) (cf:=evF PP T n) (fl:=0) (H:=[(.blk 10 [(c_GEdit aA)])]) (f:=false) (c:=c_i64) (l:=aA.Parts)
  rcases cn h with ⟨aP,aG,h⟩ | ⟨aP,aG,h⟩
  ·obtain rfl:=si h
   exact pv_q F75 (qa 92 aG <| qb 91 aI <| qb 83 aH <| qb 42 aE <| qp aC <| qp aB <| q0) [((.exit 0),⟨[U,U,(.ptr 0 1 0 0),U,U,bf,bt,bt,bt,bt,bf,bf,U,U,U,U,U,U,U,U,U,U,U,U,U,U,U,U,U,U,U,U,U,U,U,U,U,U,U,U,U,U,U,U,U,U,U,U,U,U,U,U,U,U,U,U,U,U,U,U,U,U,U,U,U,U,U,U,U,U,U,U,U,U,U,U,U,U,U,U,U,U,U,U,U,U,U,U,U,U,U,U,U,U,U],[(.blk 10 [(c_GEdit aA)])]⟩)] []
  obtain rfl:=si h
  exact pv_q F75 (qa 92 aG <| qb 91 aI <| qb 83 aH <| qb 42 aE <| qp aC <| qp aB <| q0) [((.exit 0),⟨[U,U,(.ptr 0 1 0 0),U,U,bf,bt,bt,bt,bt,bf,bf,U,U,U,U,U,U,U,U,U,U,U,U,U,U,U,U,U,U,U,U,U,U,U,U,U,U,U,U,U,U,U,U,U,U,U,U,U,U,U,U,U,U,U,U,U,U,U,U,U,U,U,U,U,U,U,U,U,U,U,U,U,U,U,U,U,U,U,U,U,U,U,U,U,U,U,U,U,U,U,U,U,U,U],[(.blk 10 [(c_GEdit aA)])]⟩)] []
def f75_3 : Nat → GEdit → Option Bool
 | 0,_ => none
 | n + 1,aA => (bnd (prdk 2 n) fun aB => (cnd (decide (aA.At = (GPoint.mk 0 0))) (cnd (aA.A != 0) (some false) (cnd (aA.B != 0) (some false) (cnd (aA.C != 0) (some false) (cnd (decide (aA.Name = (⟨#[]⟩ : ByteArray))) (cnd (((aA.Parts.length : Nat) : Int) == 0) (some true) (some false)) (some false))))) (some false)))
theorem f75_3_ok (n : Nat) (aA : GEdit) (r : Bool) (h : f75_3 n aA = some r) : pv PP T n 75 [(.agg (c_GEdit aA)),(sv (⟨#[118]⟩))] = some (bv r):=by
 cases n with
 | zero => cases h
 | succ n =>
  rw [f75_3] at h
  obtain ⟨aW,aM,h⟩:=bnd_some h
  have aN:=prdk_eq aM
  have aB : cleanQ false 0 1 [(.blk 10 [(c_GEdit aA)])]:=trivial
  have aC : maskR lv31 lv1 false 0 1 (evLoopH (headSt (some lv32) false 0 1) (evC PP (evF PP T n) n 0 L75_0) n ⟨[U,(sv (⟨#[118]⟩)),(.ptr 0 1 0 0),U,U,bf,bf,bf,bf,bf,bf,bf,(iv 0),U,U,U,U,U,U,U,U,U,U,U,U,U,U,U,U,U,U,U,U,U,U,U,U,U,U,U,U,U,U,U,U,U,U,U,U,U,U,U,U,U,U,U,U,U,U,U,U,U,U,U,U,U,U,U,U,U,U,U,U,U,U,U,U,U,U,U,U,U,U,U,U,U,U,U,U,U,U,U,U,U,U],[(.blk 10 [(c_GEdit aA)])]⟩) = some ((.exit 0),⟨[U,U,(.ptr 0 1 0 0),U,U,bf,bf,bf,bf,bt,bf,bf,U,U,U,U,U,U,U,U,U,U,U,U,U,U,U,U,U,U,U,U,U,U,U,U,U,U,U,U,U,U,U,U,U,U,U,U,U,U,U,U,U,U,U,U,U,U,U,U,U,U,U,U,U,U,U,U,U,U,U,U,U,U,U,U,U,U,U,U,U,U,U,U,U,U,U,U,U,U,U,U,U,U,U],[(.blk 10 [(c_GEdit aA)])]⟩):=by rw [aN]; kernel_rfl
  rcases cn h with ⟨aH,aO,h⟩ | ⟨aH,aO,h⟩
  rotate_left
  ·have aP:=c_GPoint_neq (cf:=evF PP T n) (fl:=0) (H:=[(.blk 10 [(c_GEdit aA)])]) (a:=aA.At) (b:=(GPoint.mk 0 0)) aH
   obtain rfl:=si h
   exact pv_q F75 (qb 42 aP <| qp aC <| qp aB <| q0) [((.exit 0),⟨[U,U,(.ptr 0 1 0 0),U,U,bf,bf,bf,bf,bt,bf,bf,U,U,U,U,U,U,U,U,U,U,U,U,U,U,U,U,U,U,U,U,U,U,U,U,U,U,U,U,U,U,U,U,U,U,U,U,U,U,U,U,U,U,U,U,U,U,U,U,U,U,U,U,U,U,U,U,U,U,U,U,U,U,U,U,U,U,U,U,U,U,U,U,U,U,U,U,U,U,U,U,U,U,U],[(.blk 10 [(c_GEdit aA)])]⟩)] []
  have aE:=c_GPoint_neq (cf:=evF PP T n) (fl:=0) (H:=[(.blk 10 [(c_GEdit aA)])]) (a:=aA.At) (b:=(GPoint.mk 0 0)) aH
  rcases cn h with ⟨aQ,aD,h⟩ | ⟨aQ,aD,h⟩
  ·obtain rfl:=si h
   exact pv_q F75 (qa 50 aD <| qb 42 aE <| qp aC <| qp aB <| q0) [((.exit 0),⟨[U,U,(.ptr 0 1 0 0),U,U,bf,bf,bf,bf,bt,bf,bf,U,U,U,U,U,U,U,U,U,U,U,U,U,U,U,U,U,U,U,U,U,U,U,U,U,U,U,U,U,U,U,U,U,U,U,U,U,U,U,U,U,U,U,U,U,U,U,U,U,U,U,U,U,U,U,U,U,U,U,U,U,U,U,U,U,U,U,U,U,U,U,U,U,U,U,U,U,U,U,U,U,U,U],[(.blk 10 [(c_GEdit aA)])]⟩)] []
  rcases cn h with ⟨aR,aF,h⟩ | ⟨aR,aF,h⟩
  ·obtain rfl:=si h
   exact pv_q F75 (qa 59 aF <| qa 50 aD <| qb 42 aE <| qp aC <| qp aB <| q0) [((.exit 0),⟨[U,U,(.ptr 0 1 0 0),U,U,bf,bf,bf,bf,bt,bf,bf,U,U,U,U,U,U,U,U,U,U,U,U,U,U,U,U,U,U,U,U,U,U,U,U,U,U,U,U,U,U,U,U,U,U,U,U,U,U,U,U,U,U,U,U,U,U,U,U,U,U,U,U,U,U,U,U,U,U,U,U,U,U,U,U,U,U,U,U,U,U,U,U,U,U,U,U,U,U,U,U,U,U,U],[(.blk 10 [(c_GEdit aA)])]⟩)] []
  rcases cn h with ⟨aS,aG,h⟩ | ⟨aS,aG,h⟩
  ·obtain rfl:=si h
   exact pv_q F75 (qa 68 aG <| qa 59 aF <| qa 50 aD <| qb 42 aE <| qp aC <| qp aB <| q0) [((.exit 0),⟨[U,U,(.ptr 0 1 0 0),U,U,bf,bf,bf,bf,bt,bf,bf,U,U,U,U,U,U,U,U,U,U,U,U,U,U,U,U,U,U,U,U,U,U,U,U,U,U,U,U,U,U,U,U,U,U,U,U,U,U,U,U,U,U,U,U,U,U,U,U,U,U,U,U,U,U,U,U,U,U,U,U,U,U,U,U,U,U,U,U,U,U,U,U,U,U,U,U,U,U,U,U,U,U,U],[(.blk 10 [(c_GEdit aA)])]⟩)] []
  rcases cn h with ⟨aI,aT,h⟩ | ⟨aI,aT,h⟩
  rotate_left
  ·have aU:=c_str_eql (P:=PP) (cf:=evF PP T n) (fl:=0) (H:=[(.blk 10 [(c_GEdit aA)])]) (t:=9) aI
   obtain rfl:=si h
   exact pv_q F75 (qb 83 aU <| qa 68 aG <| qa 59 aF <| qa 50 aD <| qb 42 aE <| qp aC <| qp aB <| q0) [((.exit 0),⟨[U,U,(.ptr 0 1 0 0),U,U,bf,bf,bf,bf,bt,bf,bf,U,U,U,U,U,U,U,U,U,U,U,U,U,U,U,U,U,U,U,U,U,U,U,U,U,U,U,U,U,U,U,U,U,U,U,U,U,U,U,U,U,U,U,U,U,U,U,U,U,U,U,U,U,U,U,U,U,U,U,U,U,U,U,U,U,U,U,U,U,U,U,U,U,U,U,U,U,U,U,U,U,U,U],[(.blk 10 [(c_GEdit aA)])]⟩)] []
  have aK:=c_str_eql (P:=PP) (cf:=evF PP T n) (fl:=0) (H:=[(.blk 10 [(c_GEdit aA)])]) (t:=9) aI
  have aL:=len_sl (P:=PP) (cf:=evF PP T n) (fl:=0) (H:=[(.blk 10 [(c_GEdit aA)])]) (f:=false) (c:=c_i64) (l:=aA.Parts)
  rcases cn h with ⟨aV,aJ,h⟩ | ⟨aV,aJ,h⟩
  ·obtain rfl:=si h
   exact pv_q F75 (qa 92 aJ <| qb 91 aL <| qb 83 aK <| qa 68 aG <| qa 59 aF <| qa 50 aD <| qb 42 aE <| qp aC <| qp aB <| q0) [((.exit 0),⟨[U,U,(.ptr 0 1 0 0),U,U,bf,bf,bf,bf,bt,bf,bf,U,U,U,U,U,U,U,U,U,U,U,U,U,U,U,U,U,U,U,U,U,U,U,U,U,U,U,U,U,U,U,U,U,U,U,U,U,U,U,U,U,U,U,U,U,U,U,U,U,U,U,U,U,U,U,U,U,U,U,U,U,U,U,U,U,U,U,U,U,U,U,U,U,U,U,U,U,U,U,U,U,U,U],[(.blk 10 [(c_GEdit aA)])]⟩)] []
  obtain rfl:=si h
  exact pv_q F75 (qa 92 aJ <| qb 91 aL <| qb 83 aK <| qa 68 aG <| qa 59 aF <| qa 50 aD <| qb 42 aE <| qp aC <| qp aB <| q0) [((.exit 0),⟨[U,U,(.ptr 0 1 0 0),U,U,bf,bf,bf,bf,bt,bf,bf,U,U,U,U,U,U,U,U,U,U,U,U,U,U,U,U,U,U,U,U,U,U,U,U,U,U,U,U,U,U,U,U,U,U,U,U,U,U,U,U,U,U,U,U,U,U,U,U,U,U,U,U,U,U,U,U,U,U,U,U,U,U,U,U,U,U,U,U,U,U,U,U,U,U,U,U,U,U,U,U,U,U,U],[(.blk 10 [(c_GEdit aA)])]⟩)] []
def f75_4 : Nat → GEdit → Option Bool
 | 0,_ => none
 | n + 1,aA => (bnd (prdk 5 n) fun aB => (cnd (decide (aA.At = (GPoint.mk 0 0))) (cnd (aA.C != 0) (some false) (cnd (((aA.Via.length : Nat) : Int) == 0) (some true) (some false))) (some false)))
theorem f75_4_ok (n : Nat) (aA : GEdit) (r : Bool) (h : f75_4 n aA = some r) : pv PP T n 75 [(.agg (c_GEdit aA)),(sv (⟨#[97,98,110,112]⟩))] = some (bv r):=by
 cases n with
 | zero => cases h
 | succ n =>
  rw [f75_4] at h
  obtain ⟨aO,aI,h⟩:=bnd_some h
  have aJ:=prdk_eq aI
  have aB : cleanQ false 0 1 [(.blk 10 [(c_GEdit aA)])]:=trivial
  have aC : maskR lv31 lv1 false 0 1 (evLoopH (headSt (some lv32) false 0 1) (evC PP (evF PP T n) n 0 L75_0) n ⟨[U,(sv (⟨#[97,98,110,112]⟩)),(.ptr 0 1 0 0),U,U,bf,bf,bf,bf,bf,bf,bf,(iv 0),U,U,U,U,U,U,U,U,U,U,U,U,U,U,U,U,U,U,U,U,U,U,U,U,U,U,U,U,U,U,U,U,U,U,U,U,U,U,U,U,U,U,U,U,U,U,U,U,U,U,U,U,U,U,U,U,U,U,U,U,U,U,U,U,U,U,U,U,U,U,U,U,U,U,U,U,U,U,U,U,U,U],[(.blk 10 [(c_GEdit aA)])]⟩) = some ((.exit 0),⟨[U,U,(.ptr 0 1 0 0),U,U,bf,bt,bt,bf,bf,bt,bt,U,U,U,U,U,U,U,U,U,U,U,U,U,U,U,U,U,U,U,U,U,U,U,U,U,U,U,U,U,U,U,U,U,U,U,U,U,U,U,U,U,U,U,U,U,U,U,U,U,U,U,U,U,U,U,U,U,U,U,U,U,U,U,U,U,U,U,U,U,U,U,U,U,U,U,U,U,U,U,U,U,U,U],[(.blk 10 [(c_GEdit aA)])]⟩):=by rw [aJ]; kernel_rfl
  rcases cn h with ⟨aE,aK,h⟩ | ⟨aE,aK,h⟩
  rotate_left
  ·have aL:=c_GPoint_neq (cf:=evF PP T n) (fl:=0) (H:=[(.blk 10 [(c_GEdit aA)])]) (a:=aA.At) (b:=(GPoint.mk 0 0)) aE
   obtain rfl:=si h
   exact pv_q F75 (qb 42 aL <| qp aC <| qp aB <| q0) [((.exit 0),⟨[U,U,(.ptr 0 1 0 0),U,U,bf,bt,bt,bf,bf,bt,bt,U,U,U,U,U,U,U,U,U,U,U,U,U,U,U,U,U,U,U,U,U,U,U,U,U,U,U,U,U,U,U,U,U,U,U,U,U,U,U,U,U,U,U,U,U,U,U,U,U,U,U,U,U,U,U,U,U,U,U,U,U,U,U,U,U,U,U,U,U,U,U,U,U,U,U,U,U,U,U,U,U,U,U],[(.blk 10 [(c_GEdit aA)])]⟩)] []
  have aF:=c_GPoint_neq (cf:=evF PP T n) (fl:=0) (H:=[(.blk 10 [(c_GEdit aA)])]) (a:=aA.At) (b:=(GPoint.mk 0 0)) aE
  rcases cn h with ⟨aM,aD,h⟩ | ⟨aM,aD,h⟩
  ·obtain rfl:=si h
   exact pv_q F75 (qa 68 aD <| qb 42 aF <| qp aC <| qp aB <| q0) [((.exit 0),⟨[U,U,(.ptr 0 1 0 0),U,U,bf,bt,bt,bf,bf,bt,bt,U,U,U,U,U,U,U,U,U,U,U,U,U,U,U,U,U,U,U,U,U,U,U,U,U,U,U,U,U,U,U,U,U,U,U,U,U,U,U,U,U,U,U,U,U,U,U,U,U,U,U,U,U,U,U,U,U,U,U,U,U,U,U,U,U,U,U,U,U,U,U,U,U,U,U,U,U,U,U,U,U,U,U],[(.blk 10 [(c_GEdit aA)])]⟩)] []
  have aH:=len_sl (P:=PP) (cf:=evF PP T n) (fl:=0) (H:=[(.blk 10 [(c_GEdit aA)])]) (f:=false) (c:=c_GPoint) (l:=aA.Via)
  rcases cn h with ⟨aN,aG,h⟩ | ⟨aN,aG,h⟩
  ·obtain rfl:=si h
   exact pv_q F75 (qa 76 aG <| qb 75 aH <| qa 68 aD <| qb 42 aF <| qp aC <| qp aB <| q0) [((.exit 0),⟨[U,U,(.ptr 0 1 0 0),U,U,bf,bt,bt,bf,bf,bt,bt,U,U,U,U,U,U,U,U,U,U,U,U,U,U,U,U,U,U,U,U,U,U,U,U,U,U,U,U,U,U,U,U,U,U,U,U,U,U,U,U,U,U,U,U,U,U,U,U,U,U,U,U,U,U,U,U,U,U,U,U,U,U,U,U,U,U,U,U,U,U,U,U,U,U,U,U,U,U,U,U,U,U,U],[(.blk 10 [(c_GEdit aA)])]⟩)] []
  obtain rfl:=si h
  exact pv_q F75 (qa 76 aG <| qb 75 aH <| qa 68 aD <| qb 42 aF <| qp aC <| qp aB <| q0) [((.exit 0),⟨[U,U,(.ptr 0 1 0 0),U,U,bf,bt,bt,bf,bf,bt,bt,U,U,U,U,U,U,U,U,U,U,U,U,U,U,U,U,U,U,U,U,U,U,U,U,U,U,U,U,U,U,U,U,U,U,U,U,U,U,U,U,U,U,U,U,U,U,U,U,U,U,U,U,U,U,U,U,U,U,U,U,U,U,U,U,U,U,U,U,U,U,U,U,U,U,U,U,U,U,U,U,U,U,U],[(.blk 10 [(c_GEdit aA)])]⟩)] []
def f75_5 : Nat → GEdit → Option Bool
 | 0,_ => none
 | n + 1,aA => (bnd (prdk 2 n) fun aB => (cnd (decide (aA.At = (GPoint.mk 0 0))) (cnd (aA.A != 0) (some false) (cnd (aA.B != 0) (some false) (cnd (aA.C != 0) (some false) (cnd (((aA.Via.length : Nat) : Int) == 0) (cnd (((aA.Parts.length : Nat) : Int) == 0) (some true) (some false)) (some false))))) (some false)))
theorem f75_5_ok (n : Nat) (aA : GEdit) (r : Bool) (h : f75_5 n aA = some r) : pv PP T n 75 [(.agg (c_GEdit aA)),(sv (⟨#[110]⟩))] = some (bv r):=by
 cases n with
 | zero => cases h
 | succ n =>
  rw [f75_5] at h
  obtain ⟨aV,aM,h⟩:=bnd_some h
  have aN:=prdk_eq aM
  have aB : cleanQ false 0 1 [(.blk 10 [(c_GEdit aA)])]:=trivial
  have aC : maskR lv31 lv1 false 0 1 (evLoopH (headSt (some lv32) false 0 1) (evC PP (evF PP T n) n 0 L75_0) n ⟨[U,(sv (⟨#[110]⟩)),(.ptr 0 1 0 0),U,U,bf,bf,bf,bf,bf,bf,bf,(iv 0),U,U,U,U,U,U,U,U,U,U,U,U,U,U,U,U,U,U,U,U,U,U,U,U,U,U,U,U,U,U,U,U,U,U,U,U,U,U,U,U,U,U,U,U,U,U,U,U,U,U,U,U,U,U,U,U,U,U,U,U,U,U,U,U,U,U,U,U,U,U,U,U,U,U,U,U,U,U,U,U,U,U],[(.blk 10 [(c_GEdit aA)])]⟩) = some ((.exit 0),⟨[U,U,(.ptr 0 1 0 0),U,U,bf,bf,bf,bf,bf,bt,bf,U,U,U,U,U,U,U,U,U,U,U,U,U,U,U,U,U,U,U,U,U,U,U,U,U,U,U,U,U,U,U,U,U,U,U,U,U,U,U,U,U,U,U,U,U,U,U,U,U,U,U,U,U,U,U,U,U,U,U,U,U,U,U,U,U,U,U,U,U,U,U,U,U,U,U,U,U,U,U,U,U,U,U],[(.blk 10 [(c_GEdit aA)])]⟩):=by rw [aN]; kernel_rfl
  rcases cn h with ⟨aI,aO,h⟩ | ⟨aI,aO,h⟩
  rotate_left
  ·have aP:=c_GPoint_neq (cf:=evF PP T n) (fl:=0) (H:=[(.blk 10 [(c_GEdit aA)])]) (a:=aA.At) (b:=(GPoint.mk 0 0)) aI
   obtain rfl:=si h
   exact pv_q F75 (qb 42 aP <| qp aC <| qp aB <| q0) [((.exit 0),⟨[U,U,(.ptr 0 1 0 0),U,U,bf,bf,bf,bf,bf,bt,bf,U,U,U,U,U,U,U,U,U,U,U,U,U,U,U,U,U,U,U,U,U,U,U,U,U,U,U,U,U,U,U,U,U,U,U,U,U,U,U,U,U,U,U,U,U,U,U,U,U,U,U,U,U,U,U,U,U,U,U,U,U,U,U,U,U,U,U,U,U,U,U,U,U,U,U,U,U,U,U,U,U,U,U],[(.blk 10 [(c_GEdit aA)])]⟩)] []
  have aE:=c_GPoint_neq (cf:=evF PP T n) (fl:=0) (H:=[(.blk 10 [(c_GEdit aA)])]) (a:=aA.At) (b:=(GPoint.mk 0 0)) aI
  rcases cn h with ⟨aQ,aD,h⟩ | ⟨aQ,aD,h⟩
  ·obtain rfl:=si h
   exact pv_q F75 (qa 50 aD <| qb 42 aE <| qp aC <| qp aB <| q0) [((.exit 0),⟨[U,U,(.ptr 0 1 0 0),U,U,bf,bf,bf,bf,bf,bt,bf,U,U,U,U,U,U,U,U,U,U,U,U,U,U,U,U,U,U,U,U,U,U,U,U,U,U,U,U,U,U,U,U,U,U,U,U,U,U,U,U,U,U,U,U,U,U,U,U,U,U,U,U,U,U,U,U,U,U,U,U,U,U,U,U,U,U,U,U,U,U,U,U,U,U,U,U,U,U,U,U,U,U,U],[(.blk 10 [(c_GEdit aA)])]⟩)] []
  rcases cn h with ⟨aR,aF,h⟩ | ⟨aR,aF,h⟩
  ·obtain rfl:=si h
   exact pv_q F75 (qa 59 aF <| qa 50 aD <| qb 42 aE <| qp aC <| qp aB <| q0) [((.exit 0),⟨[U,U,(.ptr 0 1 0 0),U,U,bf,bf,bf,bf,bf,bt,bf,U,U,U,U,U,U,U,U,U,U,U,U,U,U,U,U,U,U,U,U,U,U,U,U,U,U,U,U,U,U,U,U,U,U,U,U,U,U,U,U,U,U,U,U,U,U,U,U,U,U,U,U,U,U,U,U,U,U,U,U,U,U,U,U,U,U,U,U,U,U,U,U,U,U,U,U,U,U,U,U,U,U,U],[(.blk 10 [(c_GEdit aA)])]⟩)] []
  rcases cn h with ⟨aS,aG,h⟩ | ⟨aS,aG,h⟩
  ·obtain rfl:=si h
   exact pv_q F75 (qa 68 aG <| qa 59 aF <| qa 50 aD <| qb 42 aE <| qp aC <| qp aB <| q0) [((.exit 0),⟨[U,U,(.ptr 0 1 0 0),U,U,bf,bf,bf,bf,bf,bt,bf,U,U,U,U,U,U,U,U,U,U,U,U,U,U,U,U,U,U,U,U,U,U,U,U,U,U,U,U,U,U,U,U,U,U,U,U,U,U,U,U,U,U,U,U,U,U,U,U,U,U,U,U,U,U,U,U,U,U,U,U,U,U,U,U,U,U,U,U,U,U,U,U,U,U,U,U,U,U,U,U,U,U,U],[(.blk 10 [(c_GEdit aA)])]⟩)] []
  have aJ:=len_sl (P:=PP) (cf:=evF PP T n) (fl:=0) (H:=[(.blk 10 [(c_GEdit aA)])]) (f:=false) (c:=c_GPoint) (l:=aA.Via)
  rcases cn h with ⟨aT,aH,h⟩ | ⟨aT,aH,h⟩
  rotate_left
  ·obtain rfl:=si h
   exact pv_q F75 (qa 76 aH <| qb 75 aJ <| qa 68 aG <| qa 59 aF <| qa 50 aD <| qb 42 aE <| qp aC <| qp aB <| q0) [((.exit 0),⟨[U,U,(.ptr 0 1 0 0),U,U,bf,bf,bf,bf,bf,bt,bf,U,U,U,U,U,U,U,U,U,U,U,U,U,U,U,U,U,U,U,U,U,U,U,U,U,U,U,U,U,U,U,U,U,U,U,U,U,U,U,U,U,U,U,U,U,U,U,U,U,U,U,U,U,U,U,U,U,U,U,U,U,U,U,U,U,U,U,U,U,U,U,U,U,U,U,U,U,U,U,U,U,U,U],[(.blk 10 [(c_GEdit aA)])]⟩)] []
  have aL:=len_sl (P:=PP) (cf:=evF PP T n) (fl:=0) (H:=[(.blk 10 [(c_GEdit aA)])]) (f:=false) (c:=c_i64) (l:=aA.Parts)
  rcases cn h with ⟨aU,aK,h⟩ | ⟨aU,aK,h⟩
  ·obtain rfl:=si h
   exact pv_q F75 (qa 92 aK <| qb 91 aL <| qa 76 aH <| qb 75 aJ <| qa 68 aG <| qa 59 aF <| qa 50 aD <| qb 42 aE <| qp aC <| qp aB <| q0) [((.exit 0),⟨[U,U,(.ptr 0 1 0 0),U,U,bf,bf,bf,bf,bf,bt,bf,U,U,U,U,U,U,U,U,U,U,U,U,U,U,U,U,U,U,U,U,U,U,U,U,U,U,U,U,U,U,U,U,U,U,U,U,U,U,U,U,U,U,U,U,U,U,U,U,U,U,U,U,U,U,U,U,U,U,U,U,U,U,U,U,U,U,U,U,U,U,U,U,U,U,U,U,U,U,U,U,U,U,U],[(.blk 10 [(c_GEdit aA)])]⟩)] []
  obtain rfl:=si h
  exact pv_q F75 (qa 92 aK <| qb 91 aL <| qa 76 aH <| qb 75 aJ <| qa 68 aG <| qa 59 aF <| qa 50 aD <| qb 42 aE <| qp aC <| qp aB <| q0) [((.exit 0),⟨[U,U,(.ptr 0 1 0 0),U,U,bf,bf,bf,bf,bf,bt,bf,U,U,U,U,U,U,U,U,U,U,U,U,U,U,U,U,U,U,U,U,U,U,U,U,U,U,U,U,U,U,U,U,U,U,U,U,U,U,U,U,U,U,U,U,U,U,U,U,U,U,U,U,U,U,U,U,U,U,U,U,U,U,U,U,U,U,U,U,U,U,U,U,U,U,U,U,U,U,U,U,U,U,U],[(.blk 10 [(c_GEdit aA)])]⟩)] []
def f75_6 : Nat → GEdit → Option Bool
 | 0,_ => none
 | n + 1,aA => (bnd (prdk 2 n) fun aB => (cnd (decide (aA.At = (GPoint.mk 0 0))) (cnd (aA.A != 0) (some false) (cnd (aA.C != 0) (some false) (cnd (((aA.Via.length : Nat) : Int) == 0) (cnd (decide (aA.Name = (⟨#[]⟩ : ByteArray))) (cnd (((aA.Parts.length : Nat) : Int) == 0) (some true) (some false)) (some false)) (some false)))) (some false)))
theorem f75_6_ok (n : Nat) (aA : GEdit) (r : Bool) (h : f75_6 n aA = some r) : pv PP T n 75 [(.agg (c_GEdit aA)),(sv (⟨#[98]⟩))] = some (bv r):=by
 cases n with
 | zero => cases h
 | succ n =>
  rw [f75_6] at h
  obtain ⟨aX,aN,h⟩:=bnd_some h
  have aO:=prdk_eq aN
  have aB : cleanQ false 0 1 [(.blk 10 [(c_GEdit aA)])]:=trivial
  have aC : maskR lv31 lv1 false 0 1 (evLoopH (headSt (some lv32) false 0 1) (evC PP (evF PP T n) n 0 L75_0) n ⟨[U,(sv (⟨#[98]⟩)),(.ptr 0 1 0 0),U,U,bf,bf,bf,bf,bf,bf,bf,(iv 0),U,U,U,U,U,U,U,U,U,U,U,U,U,U,U,U,U,U,U,U,U,U,U,U,U,U,U,U,U,U,U,U,U,U,U,U,U,U,U,U,U,U,U,U,U,U,U,U,U,U,U,U,U,U,U,U,U,U,U,U,U,U,U,U,U,U,U,U,U,U,U,U,U,U,U,U,U,U,U,U,U,U],[(.blk 10 [(c_GEdit aA)])]⟩) = some ((.exit 0),⟨[U,U,(.ptr 0 1 0 0),U,U,bf,bf,bt,bf,bf,bf,bf,U,U,U,U,U,U,U,U,U,U,U,U,U,U,U,U,U,U,U,U,U,U,U,U,U,U,U,U,U,U,U,U,U,U,U,U,U,U,U,U,U,U,U,U,U,U,U,U,U,U,U,U,U,U,U,U,U,U,U,U,U,U,U,U,U,U,U,U,U,U,U,U,U,U,U,U,U,U,U,U,U,U,U],[(.blk 10 [(c_GEdit aA)])]⟩):=by rw [aO]; kernel_rfl
  rcases cn h with ⟨aI,aP,h⟩ | ⟨aI,aP,h⟩
  rotate_left
  ·have aQ:=c_GPoint_neq (cf:=evF PP T n) (fl:=0) (H:=[(.blk 10 [(c_GEdit aA)])]) (a:=aA.At) (b:=(GPoint.mk 0 0)) aI
   obtain rfl:=si h
   exact pv_q F75 (qb 42 aQ <| qp aC <| qp aB <| q0) [((.exit 0),⟨[U,U,(.ptr 0 1 0 0),U,U,bf,bf,bt,bf,bf,bf,bf,U,U,U,U,U,U,U,U,U,U,U,U,U,U,U,U,U,U,U,U,U,U,U,U,U,U,U,U,U,U,U,U,U,U,U,U,U,U,U,U,U,U,U,U,U,U,U,U,U,U,U,U,U,U,U,U,U,U,U,U,U,U,U,U,U,U,U,U,U,U,U,U,U,U,U,U,U,U,U,U,U,U,U],[(.blk 10 [(c_GEdit aA)])]⟩)] []
  have aE:=c_GPoint_neq (cf:=evF PP T n) (fl:=0) (H:=[(.blk 10 [(c_GEdit aA)])]) (a:=aA.At) (b:=(GPoint.mk 0 0)) aI
  rcases cn h with ⟨aR,aD,h⟩ | ⟨aR,aD,h⟩
  ·obtain rfl:=si h
   exact pv_q F75 (qa 50 aD <| qb 42 aE <| qp aC <| qp aB <| q0) [((.exit 0),⟨[U,U,(.ptr 0 1 0 0),U,U,bf,bf,bt,bf,bf,bf,bf,U,U,U,U,U,U,U,U,U,U,U,U,U,U,U,U,U,U,U,U,U,U,U,U,U,U,U,U,U,U,U,U,U,U,U,U,U,U,U,U,U,U,U,U,U,U,U,U,U,U,U,U,U,U,U,U,U,U,U,U,U,U,U,U,U,U,U,U,U,U,U,U,U,U,U,U,U,U,U,U,U,U,U],[(.blk 10 [(c_GEdit aA)])]⟩)] []
  rcases cn h with ⟨aS,aF,h⟩ | ⟨aS,aF,h⟩
  ·obtain rfl:=si h
   exact pv_q F75 (qa 68 aF <| qa 50 aD <| qb 42 aE <| qp aC <| qp aB <| q0) [((.exit 0),⟨[U,U,(.ptr 0 1 0 0),U,U,bf,bf,bt,bf,bf,bf,bf,U,U,U,U,U,U,U,U,U,U,U,U,U,U,U,U,U,U,U,U,U,U,U,U,U,U,U,U,U,U,U,U,U,U,U,U,U,U,U,U,U,U,U,U,U,U,U,U,U,U,U,U,U,U,U,U,U,U,U,U,U,U,U,U,U,U,U,U,U,U,U,U,U,U,U,U,U,U,U,U,U,U,U],[(.blk 10 [(c_GEdit aA)])]⟩)] []
  have aH:=len_sl (P:=PP) (cf:=evF PP T n) (fl:=0) (H:=[(.blk 10 [(c_GEdit aA)])]) (f:=false) (c:=c_GPoint) (l:=aA.Via)
  rcases cn h with ⟨aT,aG,h⟩ | ⟨aT,aG,h⟩
  rotate_left
  ·obtain rfl:=si h
   exact pv_q F75 (qa 76 aG <| qb 75 aH <| qa 68 aF <| qa 50 aD <| qb 42 aE <| qp aC <| qp aB <| q0) [((.exit 0),⟨[U,U,(.ptr 0 1 0 0),U,U,bf,bf,bt,bf,bf,bf,bf,U,U,U,U,U,U,U,U,U,U,U,U,U,U,U,U,U,U,U,U,U,U,U,U,U,U,U,U,U,U,U,U,U,U,U,U,U,U,U,U,U,U,U,U,U,U,U,U,U,U,U,U,U,U,U,U,U,U,U,U,U,U,U,U,U,U,U,U,U,U,U,U,U,U,U,U,U,U,U,U,U,U,U],[(.blk 10 [(c_GEdit aA)])]⟩)] []
  rcases cn h with ⟨aJ,aU,h⟩ | ⟨aJ,aU,h⟩
  rotate_left
  ·have aV:=c_str_eql (P:=PP) (cf:=evF PP T n) (fl:=0) (H:=[(.blk 10 [(c_GEdit aA)])]) (t:=9) aJ
   obtain rfl:=si h
   exact pv_q F75 (qb 83 aV <| qa 76 aG <| qb 75 aH <| qa 68 aF <| qa 50 aD <| qb 42 aE <| qp aC <| qp aB <| q0) [((.exit 0),⟨[U,U,(.ptr 0 1 0 0),U,U,bf,bf,bt,bf,bf,bf,bf,U,U,U,U,U,U,U,U,U,U,U,U,U,U,U,U,U,U,U,U,U,U,U,U,U,U,U,U,U,U,U,U,U,U,U,U,U,U,U,U,U,U,U,U,U,U,U,U,U,U,U,U,U,U,U,U,U,U,U,U,U,U,U,U,U,U,U,U,U,U,U,U,U,U,U,U,U,U,U,U,U,U,U],[(.blk 10 [(c_GEdit aA)])]⟩)] []
  have aL:=c_str_eql (P:=PP) (cf:=evF PP T n) (fl:=0) (H:=[(.blk 10 [(c_GEdit aA)])]) (t:=9) aJ
  have aM:=len_sl (P:=PP) (cf:=evF PP T n) (fl:=0) (H:=[(.blk 10 [(c_GEdit aA)])]) (f:=false) (c:=c_i64) (l:=aA.Parts)
  rcases cn h with ⟨aW,aK,h⟩ | ⟨aW,aK,h⟩
  ·obtain rfl:=si h
   exact pv_q F75 (qa 92 aK <| qb 91 aM <| qb 83 aL <| qa 76 aG <| qb 75 aH <| qa 68 aF <| qa 50 aD <| qb 42 aE <| qp aC <| qp aB <| q0) [((.exit 0),⟨[U,U,(.ptr 0 1 0 0),U,U,bf,bf,bt,bf,bf,bf,bf,U,U,U,U,U,U,U,U,U,U,U,U,U,U,U,U,U,U,U,U,U,U,U,U,U,U,U,U,U,U,U,U,U,U,U,U,U,U,U,U,U,U,U,U,U,U,U,U,U,U,U,U,U,U,U,U,U,U,U,U,U,U,U,U,U,U,U,U,U,U,U,U,U,U,U,U,U,U,U,U,U,U,U],[(.blk 10 [(c_GEdit aA)])]⟩)] []
  obtain rfl:=si h
  exact pv_q F75 (qa 92 aK <| qb 91 aM <| qb 83 aL <| qa 76 aG <| qb 75 aH <| qa 68 aF <| qa 50 aD <| qb 42 aE <| qp aC <| qp aB <| q0) [((.exit 0),⟨[U,U,(.ptr 0 1 0 0),U,U,bf,bf,bt,bf,bf,bf,bf,U,U,U,U,U,U,U,U,U,U,U,U,U,U,U,U,U,U,U,U,U,U,U,U,U,U,U,U,U,U,U,U,U,U,U,U,U,U,U,U,U,U,U,U,U,U,U,U,U,U,U,U,U,U,U,U,U,U,U,U,U,U,U,U,U,U,U,U,U,U,U,U,U,U,U,U,U,U,U,U,U,U,U],[(.blk 10 [(c_GEdit aA)])]⟩)] []
def f75_7 : Nat → GEdit → Option Bool
 | 0,_ => none
 | n + 1,aA => (bnd (prdk 2 n) fun aB => (cnd (decide (aA.At = (GPoint.mk 0 0))) (cnd (aA.A != 0) (some false) (cnd (aA.B != 0) (some false) (cnd (aA.C != 0) (some false) (cnd (((aA.Via.length : Nat) : Int) == 0) (cnd (decide (aA.Name = (⟨#[]⟩ : ByteArray))) (some true) (some false)) (some false))))) (some false)))
theorem f75_7_ok (n : Nat) (aA : GEdit) (r : Bool) (h : f75_7 n aA = some r) : pv PP T n 75 [(.agg (c_GEdit aA)),(sv (⟨#[112]⟩))] = some (bv r):=by
 cases n with
 | zero => cases h
 | succ n =>
  rw [f75_7] at h
  obtain ⟨aW,aL,h⟩:=bnd_some h
  have aM:=prdk_eq aL
  have aB : cleanQ false 0 1 [(.blk 10 [(c_GEdit aA)])]:=trivial
  have aC : maskR lv31 lv1 false 0 1 (evLoopH (headSt (some lv32) false 0 1) (evC PP (evF PP T n) n 0 L75_0) n ⟨[U,(sv (⟨#[112]⟩)),(.ptr 0 1 0 0),U,U,bf,bf,bf,bf,bf,bf,bf,(iv 0),U,U,U,U,U,U,U,U,U,U,U,U,U,U,U,U,U,U,U,U,U,U,U,U,U,U,U,U,U,U,U,U,U,U,U,U,U,U,U,U,U,U,U,U,U,U,U,U,U,U,U,U,U,U,U,U,U,U,U,U,U,U,U,U,U,U,U,U,U,U,U,U,U,U,U,U,U,U,U,U,U,U],[(.blk 10 [(c_GEdit aA)])]⟩) = some ((.exit 0),⟨[U,U,(.ptr 0 1 0 0),U,U,bf,bf,bf,bf,bf,bf,bt,U,U,U,U,U,U,U,U,U,U,U,U,U,U,U,U,U,U,U,U,U,U,U,U,U,U,U,U,U,U,U,U,U,U,U,U,U,U,U,U,U,U,U,U,U,U,U,U,U,U,U,U,U,U,U,U,U,U,U,U,U,U,U,U,U,U,U,U,U,U,U,U,U,U,U,U,U,U,U,U,U,U,U],[(.blk 10 [(c_GEdit aA)])]⟩):=by rw [aM]; kernel_rfl
  rcases cn h with ⟨aI,aN,h⟩ | ⟨aI,aN,h⟩
  rotate_left
  ·have aO:=c_GPoint_neq (cf:=evF PP T n) (fl:=0) (H:=[(.blk 10 [(c_GEdit aA)])]) (a:=aA.At) (b:=(GPoint.mk 0 0)) aI
   obtain rfl:=si h
   exact pv_q F75 (qb 42 aO <| qp aC <| qp aB <| q0) [((.exit 0),⟨[U,U,(.ptr 0 1 0 0),U,U,bf,bf,bf,bf,bf,bf,bt,U,U,U,U,U,U,U,U,U,U,U,U,U,U,U,U,U,U,U,U,U,U,U,U,U,U,U,U,U,U,U,U,U,U,U,U,U,U,U,U,U,U,U,U,U,U,U,U,U,U,U,U,U,U,U,U,U,U,U,U,U,U,U,U,U,U,U,U,U,U,U,U,U,U,U,U,U,U,U,U,U,U,U],[(.blk 10 [(c_GEdit aA)])]⟩)] []
  have aE:=c_GPoint_neq (cf:=evF PP T n) (fl:=0) (H:=[(.blk 10 [(c_GEdit aA)])]) (a:=aA.At) (b:=(GPoint.mk 0 0)) aI
  rcases cn h with ⟨aP,aD,h⟩ | ⟨aP,aD,h⟩
  ·obtain rfl:=si h
   exact pv_q F75 (qa 50 aD <| qb 42 aE <| qp aC <| qp aB <| q0) [((.exit 0),⟨[U,U,(.ptr 0 1 0 0),U,U,bf,bf,bf,bf,bf,bf,bt,U,U,U,U,U,U,U,U,U,U,U,U,U,U,U,U,U,U,U,U,U,U,U,U,U,U,U,U,U,U,U,U,U,U,U,U,U,U,U,U,U,U,U,U,U,U,U,U,U,U,U,U,U,U,U,U,U,U,U,U,U,U,U,U,U,U,U,U,U,U,U,U,U,U,U,U,U,U,U,U,U,U,U],[(.blk 10 [(c_GEdit aA)])]⟩)] []
  rcases cn h with ⟨aQ,aF,h⟩ | ⟨aQ,aF,h⟩
  ·obtain rfl:=si h
   exact pv_q F75 (qa 59 aF <| qa 50 aD <| qb 42 aE <| qp aC <| qp aB <| q0) [((.exit 0),⟨[U,U,(.ptr 0 1 0 0),U,U,bf,bf,bf,bf,bf,bf,bt,U,U,U,U,U,U,U,U,U,U,U,U,U,U,U,U,U,U,U,U,U,U,U,U,U,U,U,U,U,U,U,U,U,U,U,U,U,U,U,U,U,U,U,U,U,U,U,U,U,U,U,U,U,U,U,U,U,U,U,U,U,U,U,U,U,U,U,U,U,U,U,U,U,U,U,U,U,U,U,U,U,U,U],[(.blk 10 [(c_GEdit aA)])]⟩)] []
  rcases cn h with ⟨aR,aG,h⟩ | ⟨aR,aG,h⟩
  ·obtain rfl:=si h
   exact pv_q F75 (qa 68 aG <| qa 59 aF <| qa 50 aD <| qb 42 aE <| qp aC <| qp aB <| q0) [((.exit 0),⟨[U,U,(.ptr 0 1 0 0),U,U,bf,bf,bf,bf,bf,bf,bt,U,U,U,U,U,U,U,U,U,U,U,U,U,U,U,U,U,U,U,U,U,U,U,U,U,U,U,U,U,U,U,U,U,U,U,U,U,U,U,U,U,U,U,U,U,U,U,U,U,U,U,U,U,U,U,U,U,U,U,U,U,U,U,U,U,U,U,U,U,U,U,U,U,U,U,U,U,U,U,U,U,U,U],[(.blk 10 [(c_GEdit aA)])]⟩)] []
  have aJ:=len_sl (P:=PP) (cf:=evF PP T n) (fl:=0) (H:=[(.blk 10 [(c_GEdit aA)])]) (f:=false) (c:=c_GPoint) (l:=aA.Via)
  rcases cn h with ⟨aS,aH,h⟩ | ⟨aS,aH,h⟩
  rotate_left
  ·obtain rfl:=si h
   exact pv_q F75 (qa 76 aH <| qb 75 aJ <| qa 68 aG <| qa 59 aF <| qa 50 aD <| qb 42 aE <| qp aC <| qp aB <| q0) [((.exit 0),⟨[U,U,(.ptr 0 1 0 0),U,U,bf,bf,bf,bf,bf,bf,bt,U,U,U,U,U,U,U,U,U,U,U,U,U,U,U,U,U,U,U,U,U,U,U,U,U,U,U,U,U,U,U,U,U,U,U,U,U,U,U,U,U,U,U,U,U,U,U,U,U,U,U,U,U,U,U,U,U,U,U,U,U,U,U,U,U,U,U,U,U,U,U,U,U,U,U,U,U,U,U,U,U,U,U],[(.blk 10 [(c_GEdit aA)])]⟩)] []
  rcases cn h with ⟨aK,aT,h⟩ | ⟨aK,aT,h⟩
  ·have aU:=c_str_eql (P:=PP) (cf:=evF PP T n) (fl:=0) (H:=[(.blk 10 [(c_GEdit aA)])]) (t:=9) aK
   obtain rfl:=si h
   exact pv_q F75 (qb 83 aU <| qa 76 aH <| qb 75 aJ <| qa 68 aG <| qa 59 aF <| qa 50 aD <| qb 42 aE <| qp aC <| qp aB <| q0) [((.exit 0),⟨[U,U,(.ptr 0 1 0 0),U,U,bf,bf,bf,bf,bf,bf,bt,U,U,U,U,U,U,U,U,U,U,U,U,U,U,U,U,U,U,U,U,U,U,U,U,U,U,U,U,U,U,U,U,U,U,U,U,U,U,U,U,U,U,U,U,U,U,U,U,U,U,U,U,U,U,U,U,U,U,U,U,U,U,U,U,U,U,U,U,U,U,U,U,U,U,U,U,U,U,U,U,U,U,U],[(.blk 10 [(c_GEdit aA)])]⟩)] []
  have aV:=c_str_eql (P:=PP) (cf:=evF PP T n) (fl:=0) (H:=[(.blk 10 [(c_GEdit aA)])]) (t:=9) aK
  obtain rfl:=si h
  exact pv_q F75 (qb 83 aV <| qa 76 aH <| qb 75 aJ <| qa 68 aG <| qa 59 aF <| qa 50 aD <| qb 42 aE <| qp aC <| qp aB <| q0) [((.exit 0),⟨[U,U,(.ptr 0 1 0 0),U,U,bf,bf,bf,bf,bf,bf,bt,U,U,U,U,U,U,U,U,U,U,U,U,U,U,U,U,U,U,U,U,U,U,U,U,U,U,U,U,U,U,U,U,U,U,U,U,U,U,U,U,U,U,U,U,U,U,U,U,U,U,U,U,U,U,U,U,U,U,U,U,U,U,U,U,U,U,U,U,U,U,U,U,U,U,U,U,U,U,U,U,U,U,U],[(.blk 10 [(c_GEdit aA)])]⟩)] []
def f75_8 : Nat → GEdit → Option Bool
 | 0,_ => none
 | n + 1,aA => (bnd (prdk 2 n) fun aB => (cnd (decide (aA.At = (GPoint.mk 0 0))) (cnd (aA.B != 0) (some false) (cnd (aA.C != 0) (some false) (cnd (((aA.Via.length : Nat) : Int) == 0) (cnd (decide (aA.Name = (⟨#[]⟩ : ByteArray))) (cnd (((aA.Parts.length : Nat) : Int) == 0) (some true) (some false)) (some false)) (some false)))) (some false)))
theorem f75_8_ok (n : Nat) (aA : GEdit) (r : Bool) (h : f75_8 n aA = some r) : pv PP T n 75 [(.agg (c_GEdit aA)),(sv (⟨#[97]⟩))] = some (bv r):=by
 cases n with
 | zero => cases h
 | succ n =>
  rw [f75_8] at h
  obtain ⟨aX,aN,h⟩:=bnd_some h
  have aO:=prdk_eq aN
  have aB : cleanQ false 0 1 [(.blk 10 [(c_GEdit aA)])]:=trivial
  have aC : maskR lv31 lv1 false 0 1 (evLoopH (headSt (some lv32) false 0 1) (evC PP (evF PP T n) n 0 L75_0) n ⟨[U,(sv (⟨#[97]⟩)),(.ptr 0 1 0 0),U,U,bf,bf,bf,bf,bf,bf,bf,(iv 0),U,U,U,U,U,U,U,U,U,U,U,U,U,U,U,U,U,U,U,U,U,U,U,U,U,U,U,U,U,U,U,U,U,U,U,U,U,U,U,U,U,U,U,U,U,U,U,U,U,U,U,U,U,U,U,U,U,U,U,U,U,U,U,U,U,U,U,U,U,U,U,U,U,U,U,U,U,U,U,U,U,U],[(.blk 10 [(c_GEdit aA)])]⟩) = some ((.exit 0),⟨[U,U,(.ptr 0 1 0 0),U,U,bf,bt,bf,bf,bf,bf,bf,U,U,U,U,U,U,U,U,U,U,U,U,U,U,U,U,U,U,U,U,U,U,U,U,U,U,U,U,U,U,U,U,U,U,U,U,U,U,U,U,U,U,U,U,U,U,U,U,U,U,U,U,U,U,U,U,U,U,U,U,U,U,U,U,U,U,U,U,U,U,U,U,U,U,U,U,U,U,U,U,U,U,U],[(.blk 10 [(c_GEdit aA)])]⟩):=by rw [aO]; kernel_rfl
  rcases cn h with ⟨aI,aP,h⟩ | ⟨aI,aP,h⟩
  rotate_left
  ·have aQ:=c_GPoint_neq (cf:=evF PP T n) (fl:=0) (H:=[(.blk 10 [(c_GEdit aA)])]) (a:=aA.At) (b:=(GPoint.mk 0 0)) aI
   obtain rfl:=si h
   exact pv_q F75 (qb 42 aQ <| qp aC <| qp aB <| q0) [((.exit 0),⟨[U,U,(.ptr 0 1 0 0),U,U,bf,bt,bf,bf,bf,bf,bf,U,U,U,U,U,U,U,U,U,U,U,U,U,U,U,U,U,U,U,U,U,U,U,U,U,U,U,U,U,U,U,U,U,U,U,U,U,U,U,U,U,U,U,U,U,U,U,U,U,U,U,U,U,U,U,U,U,U,U,U,U,U,U,U,U,U,U,U,U,U,U,U,U,U,U,U,U,U,U,U,U,U,U],[(.blk 10 [(c_GEdit aA)])]⟩)] []
  have aE:=c_GPoint_neq (cf:=evF PP T n) (fl:=0) (H:=[(.blk 10 [(c_GEdit aA)])]) (a:=aA.At) (b:=(GPoint.mk 0 0)) aI
  rcases cn h with ⟨aR,aD,h⟩ | ⟨aR,aD,h⟩
  ·obtain rfl:=si h
   exact pv_q F75 (qa 59 aD <| qb 42 aE <| qp aC <| qp aB <| q0) [((.exit 0),⟨[U,U,(.ptr 0 1 0 0),U,U,bf,bt,bf,bf,bf,bf,bf,U,U,U,U,U,U,U,U,U,U,U,U,U,U,U,U,U,U,U,U,U,U,U,U,U,U,U,U,U,U,U,U,U,U,U,U,U,U,U,U,U,U,U,U,U,U,U,U,U,U,U,U,U,U,U,U,U,U,U,U,U,U,U,U,U,U,U,U,U,U,U,U,U,U,U,U,U,U,U,U,U,U,U],[(.blk 10 [(c_GEdit aA)])]⟩)] []
  rcases cn h with ⟨aS,aF,h⟩ | ⟨aS,aF,h⟩
  ·obtain rfl:=si h
   exact pv_q F75 (qa 68 aF <| qa 59 aD <| qb 42 aE <| qp aC <| qp aB <| q0) [((.exit 0),⟨[U,U,(.ptr 0 1 0 0),U,U,bf,bt,bf,bf,bf,bf,bf,U,U,U,U,U,U,U,U,U,U,U,U,U,U,U,U,U,U,U,U,U,U,U,U,U,U,U,U,U,U,U,U,U,U,U,U,U,U,U,U,U,U,U,U,U,U,U,U,U,U,U,U,U,U,U,U,U,U,U,U,U,U,U,U,U,U,U,U,U,U,U,U,U,U,U,U,U,U,U,U,U,U,U],[(.blk 10 [(c_GEdit aA)])]⟩)] []
  have aH:=len_sl (P:=PP) (cf:=evF PP T n) (fl:=0) (H:=[(.blk 10 [(c_GEdit aA)])]) (f:=false) (c:=c_GPoint) (l:=aA.Via)
  rcases cn h with ⟨aT,aG,h⟩ | ⟨aT,aG,h⟩
  rotate_left
  ·obtain rfl:=si h
   exact pv_q F75 (qa 76 aG <| qb 75 aH <| qa 68 aF <| qa 59 aD <| qb 42 aE <| qp aC <| qp aB <| q0) [((.exit 0),⟨[U,U,(.ptr 0 1 0 0),U,U,bf,bt,bf,bf,bf,bf,bf,U,U,U,U,U,U,U,U,U,U,U,U,U,U,U,U,U,U,U,U,U,U,U,U,U,U,U,U,U,U,U,U,U,U,U,U,U,U,U,U,U,U,U,U,U,U,U,U,U,U,U,U,U,U,U,U,U,U,U,U,U,U,U,U,U,U,U,U,U,U,U,U,U,U,U,U,U,U,U,U,U,U,U],[(.blk 10 [(c_GEdit aA)])]⟩)] []
  rcases cn h with ⟨aJ,aU,h⟩ | ⟨aJ,aU,h⟩
  rotate_left
  ·have aV:=c_str_eql (P:=PP) (cf:=evF PP T n) (fl:=0) (H:=[(.blk 10 [(c_GEdit aA)])]) (t:=9) aJ
   obtain rfl:=si h
   exact pv_q F75 (qb 83 aV <| qa 76 aG <| qb 75 aH <| qa 68 aF <| qa 59 aD <| qb 42 aE <| qp aC <| qp aB <| q0) [((.exit 0),⟨[U,U,(.ptr 0 1 0 0),U,U,bf,bt,bf,bf,bf,bf,bf,U,U,U,U,U,U,U,U,U,U,U,U,U,U,U,U,U,U,U,U,U,U,U,U,U,U,U,U,U,U,U,U,U,U,U,U,U,U,U,U,U,U,U,U,U,U,U,U,U,U,U,U,U,U,U,U,U,U,U,U,U,U,U,U,U,U,U,U,U,U,U,U,U,U,U,U,U,U,U,U,U,U,U],[(.blk 10 [(c_GEdit aA)])]⟩)] []
  have aL:=c_str_eql (P:=PP) (cf:=evF PP T n) (fl:=0) (H:=[(.blk 10 [(c_GEdit aA)])]) (t:=9) aJ
  have aM:=len_sl (P:=PP) (cf:=evF PP T n) (fl:=0) (H:=[(.blk 10 [(c_GEdit aA)])]) (f:=false) (c:=c_i64) (l:=aA.Parts)
  rcases cn h with ⟨aW,aK,h⟩ | ⟨aW,aK,h⟩
  ·obtain rfl:=si h
   exact pv_q F75 (qa 92 aK <| qb 91 aM <| qb 83 aL <| qa 76 aG <| qb 75 aH <| qa 68 aF <| qa 59 aD <| qb 42 aE <| qp aC <| qp aB <| q0) [((.exit 0),⟨[U,U,(.ptr 0 1 0 0),U,U,bf,bt,bf,bf,bf,bf,bf,U,U,U,U,U,U,U,U,U,U,U,U,U,U,U,U,U,U,U,U,U,U,U,U,U,U,U,U,U,U,U,U,U,U,U,U,U,U,U,U,U,U,U,U,U,U,U,U,U,U,U,U,U,U,U,U,U,U,U,U,U,U,U,U,U,U,U,U,U,U,U,U,U,U,U,U,U,U,U,U,U,U,U],[(.blk 10 [(c_GEdit aA)])]⟩)] []
  obtain rfl:=si h
  exact pv_q F75 (qa 92 aK <| qb 91 aM <| qb 83 aL <| qa 76 aG <| qb 75 aH <| qa 68 aF <| qa 59 aD <| qb 42 aE <| qp aC <| qp aB <| q0) [((.exit 0),⟨[U,U,(.ptr 0 1 0 0),U,U,bf,bt,bf,bf,bf,bf,bf,U,U,U,U,U,U,U,U,U,U,U,U,U,U,U,U,U,U,U,U,U,U,U,U,U,U,U,U,U,U,U,U,U,U,U,U,U,U,U,U,U,U,U,U,U,U,U,U,U,U,U,U,U,U,U,U,U,U,U,U,U,U,U,U,U,U,U,U,U,U,U,U,U,U,U,U,U,U,U,U,U,U,U],[(.blk 10 [(c_GEdit aA)])]⟩)] []
def f75 (n : Nat) (x : GEdit) (s : ByteArray) : Option Bool:=if s = ⟨#[]⟩ then f75_0 n x else if s = ⟨#[116]⟩ then f75_1 n x else if s = ⟨#[97,98,99,118]⟩ then f75_2 n x else if s = ⟨#[118]⟩ then f75_3 n x else if s = ⟨#[97,98,110,112]⟩ then f75_4 n x else if s = ⟨#[110]⟩ then f75_5 n x else if s = ⟨#[98]⟩ then f75_6 n x else if s = ⟨#[112]⟩ then f75_7 n x else if s = ⟨#[97]⟩ then f75_8 n x else none
theorem f75_ok (n : Nat) (x : GEdit) (s : ByteArray) (r : Bool) (h : f75 n x s = some r) : pv PP T n 75 [.agg (c_GEdit x),sv s] = some (bv r):=by
 unfold f75 at h
 split at h
 ·rename_i e; subst e; exact f75_0_ok n x r h
 split at h
 ·rename_i e; subst e; exact f75_1_ok n x r h
 split at h
 ·rename_i e; subst e; exact f75_2_ok n x r h
 split at h
 ·rename_i e; subst e; exact f75_3_ok n x r h
 split at h
 ·rename_i e; subst e; exact f75_4_ok n x r h
 split at h
 ·rename_i e; subst e; exact f75_5_ok n x r h
 split at h
 ·rename_i e; subst e; exact f75_6_ok n x r h
 split at h
 ·rename_i e; subst e; exact f75_7_ok n x r h
 split at h
 ·rename_i e; subst e; exact f75_8_ok n x r h
 cases h
def f96 : Nat → Int → Option Bool
 | 0,_ => none
 | n + 1,aA => (cnd (decide (aA ≥ 1)) (cnd (decide (aA ≤ 1073741824)) (some true) (some false)) (some false))
theorem f96_ok (n : Nat) (aC : Int) (r : Bool) (h : f96 n aC = some r) : pv PP T n 96 [(iv aC)] = some (bv r):=by
 cases n with
 | zero => cases h
 | succ n =>
  rw [f96] at h
  rcases cn h with ⟨aD,aA,h⟩ | ⟨aD,aA,h⟩
  rotate_left
  ·obtain rfl:=si h
   exact pv_q F96 (qa 4 aA <| q0) [] []
  rcases cn h with ⟨aE,aB,h⟩ | ⟨aE,aB,h⟩
  ·obtain rfl:=si h
   exact pv_q F96 (qa 7 aB <| qa 4 aA <| q0) [] []
  obtain rfl:=si h
  exact pv_q F96 (qa 7 aB <| qa 4 aA <| q0) [] []
def f97 : Nat → GPoint → Option Bool
 | 0,_ => none
 | n + 1,aA => (cnd (decide (aA.X ≥ (-1048576))) (cnd (decide (aA.X ≤ 1048576)) (cnd (decide (aA.Y ≥ (-1048576))) (cnd (decide (aA.Y ≤ 1048576)) (some true) (some false)) (some false)) (some false)) (some false))
theorem f97_ok (n : Nat) (aE : GPoint) (r : Bool) (h : f97 n aE = some r) : pv PP T n 97 [(.agg (c_GPoint aE))] = some (bv r):=by
 cases n with
 | zero => cases h
 | succ n =>
  rw [f97] at h
  rcases cn h with ⟨aF,aA,h⟩ | ⟨aF,aA,h⟩
  rotate_left
  ·obtain rfl:=si h
   exact pv_q F97 (qa 5 aA <| q0) [] []
  rcases cn h with ⟨aG,aB,h⟩ | ⟨aG,aB,h⟩
  rotate_left
  ·obtain rfl:=si h
   exact pv_q F97 (qa 9 aB <| qa 5 aA <| q0) [] []
  rcases cn h with ⟨aH,aC,h⟩ | ⟨aH,aC,h⟩
  rotate_left
  ·obtain rfl:=si h
   exact pv_q F97 (qa 14 aC <| qa 9 aB <| qa 5 aA <| q0) [] []
  rcases cn h with ⟨aI,aD,h⟩ | ⟨aI,aD,h⟩
  ·obtain rfl:=si h
   exact pv_q F97 (qa 19 aD <| qa 14 aC <| qa 9 aB <| qa 5 aA <| q0) [] []
  obtain rfl:=si h
  exact pv_q F97 (qa 19 aD <| qa 14 aC <| qa 9 aB <| qa 5 aA <| q0) [] []
def f76_L0_S (aA : GEdit) (aB : Int) : St:=⟨[U,(.ptr 0 1 0 0),U,(iv aB),U,U,U,U,U,U,U,U,U,U,U,U,U,U,U,U,U,U,U,U,U,U,U,U,U,U,U,U,U,U,U,U,U,U,U,U,U,U,U,U,U,U,U,U,U,U,U,U,U,U,U,U,U,U,U,U,U,U,U,U,U,U,U,U,U,U,U,U,U,U,U,U,U,U,U,U,U,U,U,U,U,U,U,U,U,U,U,U,U,U,U,U],[(.blk 10 [(c_GEdit aA)])]⟩
def f76_L0_E0 (aA : GEdit) : St:=⟨[U,U,bf,U,U,U,U,U,U,U,U,U,U,U,U,U,U,U,U,U,U,U,U,U,U,U,U,U,U,U,U,U,U,U,U,U,U,U,U,U,U,U,U,U,U,U,U,U,U,U,U,U,U,U,U,U,U,U,U,U,U,U,U,U,U,U,U,U,U,U,U,U,U,U,U,U,U,U,U,U,U,U,U,U,U,U,U,U,U,U,U,U,U,U,U,U],[(.blk 10 [(c_GEdit aA)])]⟩
def f76_L0_E1 (aA : GEdit) : St:=⟨[U,(.ptr 0 1 0 0),U,U,U,U,U,U,U,U,U,U,U,U,U,U,U,U,U,U,U,U,U,U,U,U,U,U,U,U,U,U,U,U,U,U,U,U,U,U,U,U,U,U,U,U,U,U,U,U,U,U,U,U,U,U,U,U,U,U,U,U,U,U,U,U,U,U,U,U,U,U,U,U,U,U,U,U,U,U,U,U,U,U,U,U,U,U,U,U,U,U,U,U,U,U],[(.blk 10 [(c_GEdit aA)])]⟩
def f76_L0 (n : Nat) (aA : GEdit) : Nat → Int → Option (Unit ⊕ Unit)
 | 0,_ => none
 | m + 1,aB => (cnd (decide (aB < ((aA.Via.length : Nat) : Int))) (bnd (idx aA.Via aB) fun aC => (bnd (f97 n aC) fun aD => (cnd (aD) (f76_L0 n aA m (IntKind.i64.wrap (aB + 1))) (some (Sum.inl ()))))) (some (Sum.inr ())))
theorem f76_L0_ok (n : Nat) (aA : GEdit) : ∀ (m : Nat) (aB : Int) (r : (Unit ⊕ Unit)),f76_L0 n aA m aB = some r → maskR [false,true] [false,false,true] false 0 1 (evLoopH (headSt (some [false,true,false,true]) false 0 1) (evC PP (evF PP T n) n 0 L76_0) m (f76_L0_S aA aB)) = (match r with | .inl r => some (.ret,f76_L0_E0 aA) | .inr r => some ((.exit 0),f76_L0_E1 aA))
 | 0,_,_,h => by cases h
 | m + 1,aB,r,h => by
  rw [f76_L0] at h
  have aD:=len_sl (P:=PP) (cf:=evF PP T n) (fl:=0) (H:=[(.blk 10 [(c_GEdit aA)])]) (f:=false) (c:=c_GPoint) (l:=aA.Via)
  rcases cn h with ⟨aI,aC,h⟩ | ⟨aI,aC,h⟩
  rotate_left
  ·obtain rfl:=si h
   exact last_q (some [false,true,false,true]) false (f76_L0_E1 aA) (qa 69 aC <| qb 68 aD <| q0) [] [] trivial
  obtain ⟨aF,aJ,h⟩:=bnd_some h
  have aG:=idxl (H:=[(.blk 10 [(c_GEdit aA)])]) (f:=false) (c:=c_GPoint) aJ (c_GPoint_len _)
  obtain ⟨aN,aH,h⟩:=bnd_some h
  rcases cn h with ⟨aE,aK,h⟩ | ⟨aE,aK,h⟩
  rotate_left
  ·have aL:=by have q:=f97_ok n aF _ aH; rw [aE] at q; exact q
   obtain rfl:=si h
   exact last_q (some [false,true,false,true]) false (f76_L0_E0 aA) (qa 77 aL <| qa 75 aG <| qa 69 aC <| qb 68 aD <| q0) [] [] trivial
  have aM:=by have q:=f97_ok n aF _ aH; rw [aE] at q; exact q
  exact nx_q (f76_L0_S aA (IntKind.i64.wrap (aB + 1))) (qa 77 aM <| qa 75 aG <| qa 69 aC <| qb 68 aD <| q0) [] [] trivial (f76_L0_ok n aA m (IntKind.i64.wrap (aB + 1)) r h)
def f76_L1_S (aA : GEdit) (aB : Int) : St:=⟨[U,(.ptr 0 1 0 0),U,U,(iv aB),U,U,U,U,U,U,U,U,U,U,U,U,U,U,U,U,U,U,U,U,U,U,U,U,U,U,U,U,U,U,U,U,U,U,U,U,U,U,U,U,U,U,U,U,U,U,U,U,U,U,U,U,U,U,U,U,U,U,U,U,U,U,U,U,U,U,U,U,U,U,U,U,U,U,U,U,U,U,U,U,U,U,U,U,U,U,U,U,U,U,U],[(.blk 10 [(c_GEdit aA)])]⟩
def f76_L1_E0 (aA : GEdit) : St:=⟨[U,U,bf,U,U,U,U,U,U,U,U,U,U,U,U,U,U,U,U,U,U,U,U,U,U,U,U,U,U,U,U,U,U,U,U,U,U,U,U,U,U,U,U,U,U,U,U,U,U,U,U,U,U,U,U,U,U,U,U,U,U,U,U,U,U,U,U,U,U,U,U,U,U,U,U,U,U,U,U,U,U,U,U,U,U,U,U,U,U,U,U,U,U,U,U,U],[(.blk 10 [(c_GEdit aA)])]⟩
def f76_L1_E1 (aA : GEdit) : St:=⟨[U,(.ptr 0 1 0 0),U,U,U,U,U,U,U,U,U,U,U,U,U,U,U,U,U,U,U,U,U,U,U,U,U,U,U,U,U,U,U,U,U,U,U,U,U,U,U,U,U,U,U,U,U,U,U,U,U,U,U,U,U,U,U,U,U,U,U,U,U,U,U,U,U,U,U,U,U,U,U,U,U,U,U,U,U,U,U,U,U,U,U,U,U,U,U,U,U,U,U,U,U,U],[(.blk 10 [(c_GEdit aA)])]⟩
def f76_L1 (n : Nat) (aA : GEdit) : Nat → Int → Option (Unit ⊕ Unit)
 | 0,_ => none
 | m + 1,aB => (cnd (decide (aB < ((aA.Parts.length : Nat) : Int))) (bnd (idx aA.Parts aB) fun aC => (bnd (f96 n aC) fun aD => (cnd (aD) (f76_L1 n aA m (IntKind.i64.wrap (aB + 1))) (some (Sum.inl ()))))) (some (Sum.inr ())))
theorem f76_L1_ok (n : Nat) (aA : GEdit) : ∀ (m : Nat) (aB : Int) (r : (Unit ⊕ Unit)),f76_L1 n aA m aB = some r → maskR [false,true] [false,false,true] false 0 1 (evLoopH (headSt (some lv33) false 0 1) (evC PP (evF PP T n) n 0 L76_1) m (f76_L1_S aA aB)) = (match r with | .inl r => some (.ret,f76_L1_E0 aA) | .inr r => some ((.exit 2),f76_L1_E1 aA))
 | 0,_,_,h => by cases h
 | m + 1,aB,r,h => by
  rw [f76_L1] at h
  have aD:=len_sl (P:=PP) (cf:=evF PP T n) (fl:=0) (H:=[(.blk 10 [(c_GEdit aA)])]) (f:=false) (c:=c_i64) (l:=aA.Parts)
  rcases cn h with ⟨aI,aC,h⟩ | ⟨aI,aC,h⟩
  rotate_left
  ·obtain rfl:=si h
   exact last_q (some lv33) false (f76_L1_E1 aA) (qa 83 aC <| qb 82 aD <| q0) [] [] trivial
  obtain ⟨aF,aJ,h⟩:=bnd_some h
  have aG:=idxl (H:=[(.blk 10 [(c_GEdit aA)])]) (f:=false) (c:=c_i64) aJ (c_i64_len _)
  obtain ⟨aN,aH,h⟩:=bnd_some h
  rcases cn h with ⟨aE,aK,h⟩ | ⟨aE,aK,h⟩
  rotate_left
  ·have aL:=by have q:=f96_ok n aF _ aH; rw [aE] at q; exact q
   obtain rfl:=si h
   exact last_q (some lv33) false (f76_L1_E0 aA) (qa 91 aL <| qa 89 aG <| qa 83 aC <| qb 82 aD <| q0) [] [] trivial
  have aM:=by have q:=f96_ok n aF _ aH; rw [aE] at q; exact q
  exact nx_q (f76_L1_S aA (IntKind.i64.wrap (aB + 1))) (qa 91 aM <| qa 89 aG <| qa 83 aC <| qb 82 aD <| q0) [] [] trivial (f76_L1_ok n aA m (IntKind.i64.wrap (aB + 1)) r h)
def f76 : Nat → GEdit → Option Bool
 | 0,_ => none
 | n + 1,aA => (bnd (f96 n aA.ID) fun aB => (cnd (aB) (cnd (aA.Kind == 4) (bnd (f96 n aA.A) fun aC => (cnd (aC) (bnd (f96 n aA.B) fun aD => (cnd (aD) (cnd (decide (aA.C < (-1073741824))) (some false) (cnd (decide (aA.C > 1073741824)) (some false) (bnd2 (f76_L0 n aA n 0) (fun aK => (some false)) (fun aL => (bnd2 (f76_L1 n aA n 0) (fun aM => (some false)) (fun aN => (bnd (f97 n aA.At) fun aE => (cnd (aE) (some true) (some false))))))))) (some false))) (some false))) (cnd (aA.Kind == 12) (bnd (f96 n aA.A) fun aF => (cnd (aF) (cnd (decide (aA.C < (-1073741824))) (some false) (cnd (decide (aA.C > 1073741824)) (some false) (bnd2 (f76_L0 n aA n 0) (fun aO => (some false)) (fun aP => (bnd2 (f76_L1 n aA n 0) (fun aQ => (some false)) (fun aR => (bnd (f97 n aA.At) fun aG => (cnd (aG) (some true) (some false))))))))) (some false))) (cnd (decide (aA.C < (-1073741824))) (some false) (cnd (decide (aA.C > 1073741824)) (some false) (cnd (aA.Kind == 7) (cnd (decide (aA.B < 1)) (some false) (cnd (decide (aA.B > 9)) (some false) (bnd2 (f76_L0 n aA n 0) (fun aS => (some false)) (fun aT => (bnd2 (f76_L1 n aA n 0) (fun aU => (some false)) (fun aV => (bnd (f97 n aA.At) fun aH => (cnd (aH) (some true) (some false))))))))) (cnd (aA.Kind == 10) (cnd (decide (aA.B < 1)) (some false) (cnd (decide (aA.B > 9)) (some false) (bnd2 (f76_L0 n aA n 0) (fun aW => (some false)) (fun aX => (bnd2 (f76_L1 n aA n 0) (fun aY => (some false)) (fun aZ => (bnd (f97 n aA.At) fun aI => (cnd (aI) (some true) (some false))))))))) (bnd2 (f76_L0 n aA n 0) (fun aa => (some false)) (fun ab => (bnd2 (f76_L1 n aA n 0) (fun ac => (some false)) (fun ad => (bnd (f97 n aA.At) fun aJ => (cnd (aJ) (some true) (some false))))))))))))) (some false)))
theorem f76_ok (n : Nat) (aA : GEdit) (r : Bool) (h : f76 n aA = some r) : pv PP T n 76 [(.agg (c_GEdit aA))] = some (bv r):=by
 cases n with
 | zero => cases h
 | succ n =>
  rw [f76] at h
  obtain ⟨cQ,bP,h⟩:=bnd_some h
  rcases cn h with ⟨ao,bY,h⟩ | ⟨ao,bY,h⟩
  rotate_left
  ·have bZ:=by have q:=f96_ok n aA.ID _ bP; rw [ao] at q; exact q
   obtain rfl:=si h
   exact pv_q F76 (qa 7 bZ <| q0) [] []
  have aC:=by have q:=f96_ok n aA.ID _ bP; rw [ao] at q; exact q
  rcases cn h with ⟨aZ,aB,h⟩ | ⟨aZ,aB,h⟩
  ·obtain ⟨cR,bQ,h⟩:=bnd_some h
   rcases cn h with ⟨ap,ba,h⟩ | ⟨ap,ba,h⟩
   rotate_left
   ·have bb:=by have q:=f96_ok n aA.A _ bQ; rw [ap] at q; exact q
    obtain rfl:=si h
    exact pv_q F76 (qa 16 bb <| qa 12 aB <| qa 7 aC <| q0) [] []
   have aI:=by have q:=f96_ok n aA.A _ bQ; rw [ap] at q; exact q
   obtain ⟨cS,bR,h⟩:=bnd_some h
   rcases cn h with ⟨aq,bc,h⟩ | ⟨aq,bc,h⟩
   rotate_left
   ·have bd:=by have q:=f96_ok n aA.B _ bR; rw [aq] at q; exact q
    obtain rfl:=si h
    exact pv_q F76 (qa 21 bd <| qa 16 aI <| qa 12 aB <| qa 7 aC <| q0) [] []
   have aN:=by have q:=f96_ok n aA.B _ bR; rw [aq] at q; exact q
   have be : (aA.Kind == 12) = false:=by have q0:=eq_of_beq aZ; exact beq_eq_false_iff_ne.2 (by omega)
   have aO:=bool_eq be
   rcases cn h with ⟨bg,aJ,h⟩ | ⟨bg,aJ,h⟩
   ·obtain rfl:=si h
    exact pv_q F76 (qa 39 aJ <| qa 29 aO <| qa 21 aN <| qa 16 aI <| qa 12 aB <| qa 7 aC <| q0) [] []
   rcases cn h with ⟨bh,aP,h⟩ | ⟨bh,aP,h⟩
   ·obtain rfl:=si h
    exact pv_q F76 (qa 43 aP <| qa 39 aJ <| qa 29 aO <| qa 21 aN <| qa 16 aI <| qa 12 aB <| qa 7 aC <| q0) [] []
   have bi : (aA.Kind == 7) = false:=by have q0:=eq_of_beq aZ; exact beq_eq_false_iff_ne.2 (by omega)
   have aa:=bool_eq bi
   have bj : (aA.Kind == 10) = false:=by have q0:=eq_of_beq aZ; exact beq_eq_false_iff_ne.2 (by omega)
   have ab:=bool_eq bj
   have ac : cleanQ false 0 1 [(.blk 10 [(c_GEdit aA)])]:=trivial
   rcases bnd2_some h with ⟨cT,ar,h⟩ | ⟨cU,ar,h⟩
   ·have aU:=f76_L0_ok n aA n 0 _ ar
    obtain rfl:=si h
    exact pv_q F76 (qp aU <| qp ac <| qa 52 ab <| qa 48 aa <| qa 43 aP <| qa 39 aJ <| qa 29 aO <| qa 21 aN <| qa 16 aI <| qa 12 aB <| qa 7 aC <| q0) [(.ret,f76_L0_E0 aA)] []
   have aU:=f76_L0_ok n aA n 0 _ ar
   have au : cleanQ false 0 1 [(.blk 10 [(c_GEdit aA)])]:=trivial
   rcases bnd2_some h with ⟨cV,av,h⟩ | ⟨cW,av,h⟩
   ·have ad:=f76_L1_ok n aA n 0 _ av
    obtain rfl:=si h
    exact pv_q F76 (qp ad <| qp au <| qp aU <| qp ac <| qa 52 ab <| qa 48 aa <| qa 43 aP <| qa 39 aJ <| qa 29 aO <| qa 21 aN <| qa 16 aI <| qa 12 aB <| qa 7 aC <| q0) [((.exit 0),f76_L0_E1 aA),(.ret,f76_L1_E0 aA)] []
   have ad:=f76_L1_ok n aA n 0 _ av
   obtain ⟨cX,bS,h⟩:=bnd_some h
   rcases cn h with ⟨aw,bk,h⟩ | ⟨aw,bk,h⟩
   ·have bl:=by have q:=f97_ok n aA.At _ bS; rw [aw] at q; exact q
    obtain rfl:=si h
    exact pv_q F76 (qa 95 bl <| qp ad <| qp au <| qp aU <| qp ac <| qa 52 ab <| qa 48 aa <| qa 43 aP <| qa 39 aJ <| qa 29 aO <| qa 21 aN <| qa 16 aI <| qa 12 aB <| qa 7 aC <| q0) [((.exit 0),f76_L0_E1 aA),((.exit 2),f76_L1_E1 aA)] []
   have bm:=by have q:=f97_ok n aA.At _ bS; rw [aw] at q; exact q
   obtain rfl:=si h
   exact pv_q F76 (qa 95 bm <| qp ad <| qp au <| qp aU <| qp ac <| qa 52 ab <| qa 48 aa <| qa 43 aP <| qa 39 aJ <| qa 29 aO <| qa 21 aN <| qa 16 aI <| qa 12 aB <| qa 7 aC <| q0) [((.exit 0),f76_L0_E1 aA),((.exit 2),f76_L1_E1 aA)] []
  rcases cn h with ⟨ax,aD,h⟩ | ⟨ax,aD,h⟩
  ·obtain ⟨cY,bT,h⟩:=bnd_some h
   rcases cn h with ⟨ay,bn,h⟩ | ⟨ay,bn,h⟩
   rotate_left
   ·have bo:=by have q:=f96_ok n aA.A _ bT; rw [ay] at q; exact q
    obtain rfl:=si h
    exact pv_q F76 (qa 33 bo <| qa 29 aD <| qa 12 aB <| qa 7 aC <| q0) [] []
   have aQ:=by have q:=f96_ok n aA.A _ bT; rw [ay] at q; exact q
   rcases cn h with ⟨bp,aK,h⟩ | ⟨bp,aK,h⟩
   ·obtain rfl:=si h
    exact pv_q F76 (qa 39 aK <| qa 33 aQ <| qa 29 aD <| qa 12 aB <| qa 7 aC <| q0) [] []
   rcases cn h with ⟨bq,aR,h⟩ | ⟨bq,aR,h⟩
   ·obtain rfl:=si h
    exact pv_q F76 (qa 43 aR <| qa 39 aK <| qa 33 aQ <| qa 29 aD <| qa 12 aB <| qa 7 aC <| q0) [] []
   have br : (aA.Kind == 7) = false:=by have q0:=eq_of_beq ax; exact beq_eq_false_iff_ne.2 (by omega)
   have ae:=bool_eq br
   have bs : (aA.Kind == 10) = false:=by have q0:=eq_of_beq ax; exact beq_eq_false_iff_ne.2 (by omega)
   have af:=bool_eq bs
   have ag : cleanQ false 0 1 [(.blk 10 [(c_GEdit aA)])]:=trivial
   rcases bnd2_some h with ⟨cZ,az,h⟩ | ⟨ca,az,h⟩
   ·have aV:=f76_L0_ok n aA n 0 _ az
    obtain rfl:=si h
    exact pv_q F76 (qp aV <| qp ag <| qa 52 af <| qa 48 ae <| qa 43 aR <| qa 39 aK <| qa 33 aQ <| qa 29 aD <| qa 12 aB <| qa 7 aC <| q0) [(.ret,f76_L0_E0 aA)] []
   have aV:=f76_L0_ok n aA n 0 _ az
   have bA : cleanQ false 0 1 [(.blk 10 [(c_GEdit aA)])]:=trivial
   rcases bnd2_some h with ⟨cb,bB,h⟩ | ⟨cc,bB,h⟩
   ·have ah:=f76_L1_ok n aA n 0 _ bB
    obtain rfl:=si h
    exact pv_q F76 (qp ah <| qp bA <| qp aV <| qp ag <| qa 52 af <| qa 48 ae <| qa 43 aR <| qa 39 aK <| qa 33 aQ <| qa 29 aD <| qa 12 aB <| qa 7 aC <| q0) [((.exit 0),f76_L0_E1 aA),(.ret,f76_L1_E0 aA)] []
   have ah:=f76_L1_ok n aA n 0 _ bB
   obtain ⟨cd,bU,h⟩:=bnd_some h
   rcases cn h with ⟨bC,bu,h⟩ | ⟨bC,bu,h⟩
   ·have bw:=by have q:=f97_ok n aA.At _ bU; rw [bC] at q; exact q
    obtain rfl:=si h
    exact pv_q F76 (qa 95 bw <| qp ah <| qp bA <| qp aV <| qp ag <| qa 52 af <| qa 48 ae <| qa 43 aR <| qa 39 aK <| qa 33 aQ <| qa 29 aD <| qa 12 aB <| qa 7 aC <| q0) [((.exit 0),f76_L0_E1 aA),((.exit 2),f76_L1_E1 aA)] []
   have bx:=by have q:=f97_ok n aA.At _ bU; rw [bC] at q; exact q
   obtain rfl:=si h
   exact pv_q F76 (qa 95 bx <| qp ah <| qp bA <| qp aV <| qp ag <| qa 52 af <| qa 48 ae <| qa 43 aR <| qa 39 aK <| qa 33 aQ <| qa 29 aD <| qa 12 aB <| qa 7 aC <| q0) [((.exit 0),f76_L0_E1 aA),((.exit 2),f76_L1_E1 aA)] []
  rcases cn h with ⟨bz,aE,h⟩ | ⟨bz,aE,h⟩
  ·obtain rfl:=si h
   exact pv_q F76 (qa 39 aE <| qa 29 aD <| qa 12 aB <| qa 7 aC <| q0) [] []
  rcases cn h with ⟨cA,aF,h⟩ | ⟨cA,aF,h⟩
  ·obtain rfl:=si h
   exact pv_q F76 (qa 43 aF <| qa 39 aE <| qa 29 aD <| qa 12 aB <| qa 7 aC <| q0) [] []
  rcases cn h with ⟨cB,aG,h⟩ | ⟨cB,aG,h⟩
  ·rcases cn h with ⟨cC,aL,h⟩ | ⟨cC,aL,h⟩
   ·obtain rfl:=si h
    exact pv_q F76 (qa 57 aL <| qa 48 aG <| qa 43 aF <| qa 39 aE <| qa 29 aD <| qa 12 aB <| qa 7 aC <| q0) [] []
   rcases cn h with ⟨cD,aS,h⟩ | ⟨cD,aS,h⟩
   ·obtain rfl:=si h
    exact pv_q F76 (qa 61 aS <| qa 57 aL <| qa 48 aG <| qa 43 aF <| qa 39 aE <| qa 29 aD <| qa 12 aB <| qa 7 aC <| q0) [] []
   have ai : cleanQ false 0 1 [(.blk 10 [(c_GEdit aA)])]:=trivial
   rcases bnd2_some h with ⟨ce,bD,h⟩ | ⟨cf,bD,h⟩
   ·have aW:=f76_L0_ok n aA n 0 _ bD
    obtain rfl:=si h
    exact pv_q F76 (qp aW <| qp ai <| qa 61 aS <| qa 57 aL <| qa 48 aG <| qa 43 aF <| qa 39 aE <| qa 29 aD <| qa 12 aB <| qa 7 aC <| q0) [(.ret,f76_L0_E0 aA)] []
   have aW:=f76_L0_ok n aA n 0 _ bD
   have bE : cleanQ false 0 1 [(.blk 10 [(c_GEdit aA)])]:=trivial
   rcases bnd2_some h with ⟨cg,bF,h⟩ | ⟨ch,bF,h⟩
   ·have aj:=f76_L1_ok n aA n 0 _ bF
    obtain rfl:=si h
    exact pv_q F76 (qp aj <| qp bE <| qp aW <| qp ai <| qa 61 aS <| qa 57 aL <| qa 48 aG <| qa 43 aF <| qa 39 aE <| qa 29 aD <| qa 12 aB <| qa 7 aC <| q0) [((.exit 0),f76_L0_E1 aA),(.ret,f76_L1_E0 aA)] []
   have aj:=f76_L1_ok n aA n 0 _ bF
   obtain ⟨ci,bV,h⟩:=bnd_some h
   rcases cn h with ⟨bG,cE,h⟩ | ⟨bG,cE,h⟩
   ·have cF:=by have q:=f97_ok n aA.At _ bV; rw [bG] at q; exact q
    obtain rfl:=si h
    exact pv_q F76 (qa 95 cF <| qp aj <| qp bE <| qp aW <| qp ai <| qa 61 aS <| qa 57 aL <| qa 48 aG <| qa 43 aF <| qa 39 aE <| qa 29 aD <| qa 12 aB <| qa 7 aC <| q0) [((.exit 0),f76_L0_E1 aA),((.exit 2),f76_L1_E1 aA)] []
   have cG:=by have q:=f97_ok n aA.At _ bV; rw [bG] at q; exact q
   obtain rfl:=si h
   exact pv_q F76 (qa 95 cG <| qp aj <| qp bE <| qp aW <| qp ai <| qa 61 aS <| qa 57 aL <| qa 48 aG <| qa 43 aF <| qa 39 aE <| qa 29 aD <| qa 12 aB <| qa 7 aC <| q0) [((.exit 0),f76_L0_E1 aA),((.exit 2),f76_L1_E1 aA)] []
  rcases cn h with ⟨cH,aH,h⟩ | ⟨cH,aH,h⟩
  rotate_left
  ·have ak : cleanQ false 0 1 [(.blk 10 [(c_GEdit aA)])]:=trivial
   rcases bnd2_some h with ⟨cj,bH,h⟩ | ⟨ck,bH,h⟩
   ·have aX:=f76_L0_ok n aA n 0 _ bH
    obtain rfl:=si h
    exact pv_q F76 (qp aX <| qp ak <| qa 52 aH <| qa 48 aG <| qa 43 aF <| qa 39 aE <| qa 29 aD <| qa 12 aB <| qa 7 aC <| q0) [(.ret,f76_L0_E0 aA)] []
   have aX:=f76_L0_ok n aA n 0 _ bH
   have bI : cleanQ false 0 1 [(.blk 10 [(c_GEdit aA)])]:=trivial
   rcases bnd2_some h with ⟨cl,bJ,h⟩ | ⟨cm,bJ,h⟩
   ·have al:=f76_L1_ok n aA n 0 _ bJ
    obtain rfl:=si h
    exact pv_q F76 (qp al <| qp bI <| qp aX <| qp ak <| qa 52 aH <| qa 48 aG <| qa 43 aF <| qa 39 aE <| qa 29 aD <| qa 12 aB <| qa 7 aC <| q0) [((.exit 0),f76_L0_E1 aA),(.ret,f76_L1_E0 aA)] []
   have al:=f76_L1_ok n aA n 0 _ bJ
   obtain ⟨co,bW,h⟩:=bnd_some h
   rcases cn h with ⟨bK,cI,h⟩ | ⟨bK,cI,h⟩
   ·have cJ:=by have q:=f97_ok n aA.At _ bW; rw [bK] at q; exact q
    obtain rfl:=si h
    exact pv_q F76 (qa 95 cJ <| qp al <| qp bI <| qp aX <| qp ak <| qa 52 aH <| qa 48 aG <| qa 43 aF <| qa 39 aE <| qa 29 aD <| qa 12 aB <| qa 7 aC <| q0) [((.exit 0),f76_L0_E1 aA),((.exit 2),f76_L1_E1 aA)] []
   have cK:=by have q:=f97_ok n aA.At _ bW; rw [bK] at q; exact q
   obtain rfl:=si h
   exact pv_q F76 (qa 95 cK <| qp al <| qp bI <| qp aX <| qp ak <| qa 52 aH <| qa 48 aG <| qa 43 aF <| qa 39 aE <| qa 29 aD <| qa 12 aB <| qa 7 aC <| q0) [((.exit 0),f76_L0_E1 aA),((.exit 2),f76_L1_E1 aA)] []
  rcases cn h with ⟨cL,aM,h⟩ | ⟨cL,aM,h⟩
  ·obtain rfl:=si h
   exact pv_q F76 (qa 57 aM <| qa 52 aH <| qa 48 aG <| qa 43 aF <| qa 39 aE <| qa 29 aD <| qa 12 aB <| qa 7 aC <| q0) [] []
  rcases cn h with ⟨cM,aT,h⟩ | ⟨cM,aT,h⟩
  ·obtain rfl:=si h
   exact pv_q F76 (qa 61 aT <| qa 57 aM <| qa 52 aH <| qa 48 aG <| qa 43 aF <| qa 39 aE <| qa 29 aD <| qa 12 aB <| qa 7 aC <| q0) [] []
  have am : cleanQ false 0 1 [(.blk 10 [(c_GEdit aA)])]:=trivial
  rcases bnd2_some h with ⟨cp,bL,h⟩ | ⟨cq,bL,h⟩
  ·have aY:=f76_L0_ok n aA n 0 _ bL
   obtain rfl:=si h
   exact pv_q F76 (qp aY <| qp am <| qa 61 aT <| qa 57 aM <| qa 52 aH <| qa 48 aG <| qa 43 aF <| qa 39 aE <| qa 29 aD <| qa 12 aB <| qa 7 aC <| q0) [(.ret,f76_L0_E0 aA)] []
  have aY:=f76_L0_ok n aA n 0 _ bL
  have bM : cleanQ false 0 1 [(.blk 10 [(c_GEdit aA)])]:=trivial
  rcases bnd2_some h with ⟨cr,bN,h⟩ | ⟨cs,bN,h⟩
  ·have an:=f76_L1_ok n aA n 0 _ bN
   obtain rfl:=si h
   exact pv_q F76 (qp an <| qp bM <| qp aY <| qp am <| qa 61 aT <| qa 57 aM <| qa 52 aH <| qa 48 aG <| qa 43 aF <| qa 39 aE <| qa 29 aD <| qa 12 aB <| qa 7 aC <| q0) [((.exit 0),f76_L0_E1 aA),(.ret,f76_L1_E0 aA)] []
  have an:=f76_L1_ok n aA n 0 _ bN
  obtain ⟨ct,bX,h⟩:=bnd_some h
  rcases cn h with ⟨bO,cN,h⟩ | ⟨bO,cN,h⟩
  ·have cO:=by have q:=f97_ok n aA.At _ bX; rw [bO] at q; exact q
   obtain rfl:=si h
   exact pv_q F76 (qa 95 cO <| qp an <| qp bM <| qp aY <| qp am <| qa 61 aT <| qa 57 aM <| qa 52 aH <| qa 48 aG <| qa 43 aF <| qa 39 aE <| qa 29 aD <| qa 12 aB <| qa 7 aC <| q0) [((.exit 0),f76_L0_E1 aA),((.exit 2),f76_L1_E1 aA)] []
  have cP:=by have q:=f97_ok n aA.At _ bX; rw [bO] at q; exact q
  obtain rfl:=si h
  exact pv_q F76 (qa 95 cP <| qp an <| qp bM <| qp aY <| qp am <| qa 61 aT <| qa 57 aM <| qa 52 aH <| qa 48 aG <| qa 43 aF <| qa 39 aE <| qa 29 aD <| qa 12 aB <| qa 7 aC <| q0) [((.exit 0),f76_L0_E1 aA),((.exit 2),f76_L1_E1 aA)] []
def f46_L0_S (aA : GEdit) (aB : Int) : St:=⟨[U,(.ptr 0 1 0 0),U,(iv aB),U,U,U,U,U,U,U,U,U,U,U,U,U,U,U,U,U,U,U,U,U,U,U,U,U,U,U,U,U,U,U,U,U,U,U,U,U,U,U,U,U,U,U,U,U,U,U,U,U,U,U,U,U,U,U,U,U,U,U,U,U,U,U,U,U,U],[(.blk 10 [(c_GEdit aA)])]⟩
def f46_L0_E0 (aA : GEdit) : St:=⟨[U,U,(iv 10),U,U,U,U,U,U,U,U,U,U,U,U,U,U,U,U,U,U,U,U,U,U,U,U,U,U,U,U,U,U,U,U,U,U,U,U,U,U,U,U,U,U,U,U,U,U,U,U,U,U,U,U,U,U,U,U,U,U,U,U,U,U,U,U,U,U,U],[(.blk 10 [(c_GEdit aA)])]⟩
def f46_L0_E1 (aA : GEdit) : St:=⟨[U,(.ptr 0 1 0 0),U,U,U,U,U,U,U,U,U,U,U,U,U,U,U,U,U,U,U,U,U,U,U,U,U,U,U,U,U,U,U,U,U,U,U,U,U,U,U,U,U,U,U,U,U,U,U,U,U,U,U,U,U,U,U,U,U,U,U,U,U,U,U,U,U,U,U,U],[(.blk 10 [(c_GEdit aA)])]⟩
def f46_L0 (n : Nat) (aA : GEdit) : Nat → Int → Option (Unit ⊕ Unit)
 | 0,_ => none
 | m + 1,aB => (cnd (decide (aB < ((aA.Parts.length : Nat) : Int))) (bnd (idx aA.Parts (IntKind.i64.wrap (aB - 1))) fun aC => (bnd (idx aA.Parts aB) fun aD => (cnd (decide (aC ≥ aD)) (some (Sum.inl ())) (f46_L0 n aA m (IntKind.i64.wrap (aB + 1)))))) (some (Sum.inr ())))
theorem f46_L0_ok (n : Nat) (aA : GEdit) : ∀ (m : Nat) (aB : Int) (r : (Unit ⊕ Unit)),f46_L0 n aA m aB = some r → maskR [false,true] [false,false,true] false 0 1 (evLoopH (headSt (some [false,true,false,true]) false 0 1) (evC PP (evF PP T n) n 0 L46_0) m (f46_L0_S aA aB)) = (match r with | .inl r => some (.ret,f46_L0_E0 aA) | .inr r => some ((.exit 0),f46_L0_E1 aA))
 | 0,_,_,h => by cases h
 | m + 1,aB,r,h => by
  rw [f46_L0] at h
  have aD:=len_sl (P:=PP) (cf:=evF PP T n) (fl:=0) (H:=[(.blk 10 [(c_GEdit aA)])]) (f:=false) (c:=c_i64) (l:=aA.Parts)
  rcases cn h with ⟨aH,aC,h⟩ | ⟨aH,aC,h⟩
  rotate_left
  ·obtain rfl:=si h
   exact last_q (some [false,true,false,true]) false (f46_L0_E1 aA) (qa 46 aC <| qb 45 aD <| q0) [] [] trivial
  obtain ⟨aL,aI,h⟩:=bnd_some h
  have aF:=idxl (H:=[(.blk 10 [(c_GEdit aA)])]) (f:=false) (c:=c_i64) aI (c_i64_len _)
  obtain ⟨aM,aJ,h⟩:=bnd_some h
  have aG:=idxl (H:=[(.blk 10 [(c_GEdit aA)])]) (f:=false) (c:=c_i64) aJ (c_i64_len _)
  rcases cn h with ⟨aK,aE,h⟩ | ⟨aK,aE,h⟩
  ·obtain rfl:=si h
   exact last_q (some [false,true,false,true]) false (f46_L0_E0 aA) (qa 60 aE <| qa 58 aG <| qa 53 aF <| qa 46 aC <| qb 45 aD <| q0) [] [] trivial
  exact nx_q (f46_L0_S aA (IntKind.i64.wrap (aB + 1))) (qa 60 aE <| qa 58 aG <| qa 53 aF <| qa 46 aC <| qb 45 aD <| q0) [] [] trivial (f46_L0_ok n aA m (IntKind.i64.wrap (aB + 1)) r h)
def f46 : Nat → GEdit → Option Int
 | 0,_ => none
 | n + 1,aA => (cnd (decide (aA.Kind < 1)) (some 9) (cnd (decide (aA.Kind > 12)) (some 9) (cnd (aA.Kind == 7) (bnd (f73 n aA.A) fun aB => (cnd (aB == 0) (some 9) (bnd (f74 n aA.Kind) fun aC => (bnd (f75 n aA aC) fun aD => (cnd (aD) (cnd (decide (((aA.Via.length : Nat) : Int) > 64)) (some 3) (cnd (decide (((aA.Parts.length : Nat) : Int) > 64)) (some 3) (bnd (f76 n aA) fun aE => (cnd (aE) (bnd2 (f46_L0 n aA n 1) (fun aK => (some 10)) (fun aL => (cnd (decide (aA.Name = (⟨#[]⟩ : ByteArray))) (some 0) (bnd (f45 n aA.Name) fun aF => (cnd (aF != 0) (some 14) (some 0)))))) (some 2))))) (some 1)))))) (bnd (f74 n aA.Kind) fun aG => (bnd (f75 n aA aG) fun aH => (cnd (aH) (cnd (decide (((aA.Via.length : Nat) : Int) > 64)) (some 3) (cnd (decide (((aA.Parts.length : Nat) : Int) > 64)) (some 3) (bnd (f76 n aA) fun aI => (cnd (aI) (bnd2 (f46_L0 n aA n 1) (fun aM => (some 10)) (fun aN => (cnd (decide (aA.Name = (⟨#[]⟩ : ByteArray))) (some 0) (bnd (f45 n aA.Name) fun aJ => (cnd (aJ != 0) (some 14) (some 0)))))) (some 2))))) (some 1)))))))
theorem f46_ok (n : Nat) (aA : GEdit) (r : Int) (h : f46 n aA = some r) : pv PP T n 46 [(.agg (c_GEdit aA))] = some (iv r):=by
 cases n with
 | zero => cases h
 | succ n =>
  rw [f46] at h
  rcases cn h with ⟨au,aB,h⟩ | ⟨au,aB,h⟩
  ·obtain rfl:=si h
   exact pv_q F46 (qa 6 aB <| q0) [] []
  rcases cn h with ⟨av,aC,h⟩ | ⟨av,aC,h⟩
  ·obtain rfl:=si h
   exact pv_q F46 (qa 10 aC <| qa 6 aB <| q0) [] []
  rcases cn h with ⟨aw,aD,h⟩ | ⟨aw,aD,h⟩
  rotate_left
  ·obtain ⟨ai,ax,h⟩:=bnd_some h
   have aG:=f74_ok n aA.Kind _ ax
   obtain ⟨bV,aj,h⟩:=bnd_some h
   rcases cn h with ⟨aY,ay,h⟩ | ⟨aY,ay,h⟩
   rotate_left
   ·have az:=by have q:=f75_ok n aA ai _ aj; rw [aY] at q; exact q
    obtain rfl:=si h
    exact pv_q F46 (qa 27 az <| qa 26 aG <| qa 15 aD <| qa 10 aC <| qa 6 aB <| q0) [] []
   have aK:=by have q:=f75_ok n aA ai _ aj; rw [aY] at q; exact q
   have aL:=len_sl (P:=PP) (cf:=evF PP T n) (fl:=0) (H:=[(.blk 10 [(c_GEdit aA)])]) (f:=false) (c:=c_GPoint) (l:=aA.Via)
   rcases cn h with ⟨bA,aH,h⟩ | ⟨bA,aH,h⟩
   ·obtain rfl:=si h
    exact pv_q F46 (qa 32 aH <| qb 31 aL <| qa 27 aK <| qa 26 aG <| qa 15 aD <| qa 10 aC <| qa 6 aB <| q0) [] []
   have aQ:=len_sl (P:=PP) (cf:=evF PP T n) (fl:=0) (H:=[(.blk 10 [(c_GEdit aA)])]) (f:=false) (c:=c_i64) (l:=aA.Parts)
   rcases cn h with ⟨bB,aM,h⟩ | ⟨bB,aM,h⟩
   ·obtain rfl:=si h
    exact pv_q F46 (qa 37 aM <| qb 36 aQ <| qa 32 aH <| qb 31 aL <| qa 27 aK <| qa 26 aG <| qa 15 aD <| qa 10 aC <| qa 6 aB <| q0) [] []
   obtain ⟨bW,ak,h⟩:=bnd_some h
   rcases cn h with ⟨aZ,bC,h⟩ | ⟨aZ,bC,h⟩
   rotate_left
   ·have bD:=by have q:=f76_ok n aA _ ak; rw [aZ] at q; exact q
    obtain rfl:=si h
    exact pv_q F46 (qa 40 bD <| qa 37 aM <| qb 36 aQ <| qa 32 aH <| qb 31 aL <| qa 27 aK <| qa 26 aG <| qa 15 aD <| qa 10 aC <| qa 6 aB <| q0) [] []
   have aU:=by have q:=f76_ok n aA _ ak; rw [aZ] at q; exact q
   have aV : cleanQ false 0 1 [(.blk 10 [(c_GEdit aA)])]:=trivial
   rcases bnd2_some h with ⟨bX,aa,h⟩ | ⟨bY,aa,h⟩
   ·have aS:=f46_L0_ok n aA n 1 _ aa
    obtain rfl:=si h
    exact pv_q F46 (qp aS <| qp aV <| qa 40 aU <| qa 37 aM <| qb 36 aQ <| qa 32 aH <| qb 31 aL <| qa 27 aK <| qa 26 aG <| qa 15 aD <| qa 10 aC <| qa 6 aB <| q0) [(.ret,f46_L0_E0 aA)] []
   have aS:=f46_L0_ok n aA n 1 _ aa
   rcases cn h with ⟨ab,bE,h⟩ | ⟨ab,bE,h⟩
   ·have bF:=c_str_neq (P:=PP) (cf:=evF PP T n) (fl:=0) (H:=[(.blk 10 [(c_GEdit aA)])]) (t:=9) ab
    obtain rfl:=si h
    exact pv_q F46 (qb 63 bF <| qp aS <| qp aV <| qa 40 aU <| qa 37 aM <| qb 36 aQ <| qa 32 aH <| qb 31 aL <| qa 27 aK <| qa 26 aG <| qa 15 aD <| qa 10 aC <| qa 6 aB <| q0) [((.exit 0),f46_L0_E1 aA)] []
   have al:=c_str_neq (P:=PP) (cf:=evF PP T n) (fl:=0) (H:=[(.blk 10 [(c_GEdit aA)])]) (t:=9) ab
   obtain ⟨bZ,bG,h⟩:=bnd_some h
   have am:=f45_ok n aA.Name _ bG
   rcases cn h with ⟨bH,ac,h⟩ | ⟨bH,ac,h⟩
   ·obtain rfl:=si h
    exact pv_q F46 (qa 68 ac <| qa 67 am <| qb 63 al <| qp aS <| qp aV <| qa 40 aU <| qa 37 aM <| qb 36 aQ <| qa 32 aH <| qb 31 aL <| qa 27 aK <| qa 26 aG <| qa 15 aD <| qa 10 aC <| qa 6 aB <| q0) [((.exit 0),f46_L0_E1 aA)] []
   obtain rfl:=si h
   exact pv_q F46 (qa 68 ac <| qa 67 am <| qb 63 al <| qp aS <| qp aV <| qa 40 aU <| qa 37 aM <| qb 36 aQ <| qa 32 aH <| qb 31 aL <| qa 27 aK <| qa 26 aG <| qa 15 aD <| qa 10 aC <| qa 6 aB <| q0) [((.exit 0),f46_L0_E1 aA)] []
  obtain ⟨ba,bI,h⟩:=bnd_some h
  have aF:=f73_ok n aA.A _ bI
  rcases cn h with ⟨bJ,aE,h⟩ | ⟨bJ,aE,h⟩
  ·obtain rfl:=si h
   exact pv_q F46 (qa 20 aE <| qa 19 aF <| qa 15 aD <| qa 10 aC <| qa 6 aB <| q0) [] []
  obtain ⟨an,bK,h⟩:=bnd_some h
  have aI:=f74_ok n aA.Kind _ bK
  obtain ⟨bb,ao,h⟩:=bnd_some h
  rcases cn h with ⟨ad,bL,h⟩ | ⟨ad,bL,h⟩
  rotate_left
  ·have bM:=by have q:=f75_ok n aA an _ ao; rw [ad] at q; exact q
   obtain rfl:=si h
   exact pv_q F46 (qa 27 bM <| qa 26 aI <| qa 20 aE <| qa 19 aF <| qa 15 aD <| qa 10 aC <| qa 6 aB <| q0) [] []
  have aN:=by have q:=f75_ok n aA an _ ao; rw [ad] at q; exact q
  have aO:=len_sl (P:=PP) (cf:=evF PP T n) (fl:=0) (H:=[(.blk 10 [(c_GEdit aA)])]) (f:=false) (c:=c_GPoint) (l:=aA.Via)
  rcases cn h with ⟨bN,aJ,h⟩ | ⟨bN,aJ,h⟩
  ·obtain rfl:=si h
   exact pv_q F46 (qa 32 aJ <| qb 31 aO <| qa 27 aN <| qa 26 aI <| qa 20 aE <| qa 19 aF <| qa 15 aD <| qa 10 aC <| qa 6 aB <| q0) [] []
  have aR:=len_sl (P:=PP) (cf:=evF PP T n) (fl:=0) (H:=[(.blk 10 [(c_GEdit aA)])]) (f:=false) (c:=c_i64) (l:=aA.Parts)
  rcases cn h with ⟨bO,aP,h⟩ | ⟨bO,aP,h⟩
  ·obtain rfl:=si h
   exact pv_q F46 (qa 37 aP <| qb 36 aR <| qa 32 aJ <| qb 31 aO <| qa 27 aN <| qa 26 aI <| qa 20 aE <| qa 19 aF <| qa 15 aD <| qa 10 aC <| qa 6 aB <| q0) [] []
  obtain ⟨bc,ap,h⟩:=bnd_some h
  rcases cn h with ⟨ae,bP,h⟩ | ⟨ae,bP,h⟩
  rotate_left
  ·have bQ:=by have q:=f76_ok n aA _ ap; rw [ae] at q; exact q
   obtain rfl:=si h
   exact pv_q F46 (qa 40 bQ <| qa 37 aP <| qb 36 aR <| qa 32 aJ <| qb 31 aO <| qa 27 aN <| qa 26 aI <| qa 20 aE <| qa 19 aF <| qa 15 aD <| qa 10 aC <| qa 6 aB <| q0) [] []
  have aW:=by have q:=f76_ok n aA _ ap; rw [ae] at q; exact q
  have aX : cleanQ false 0 1 [(.blk 10 [(c_GEdit aA)])]:=trivial
  rcases bnd2_some h with ⟨bd,af,h⟩ | ⟨be,af,h⟩
  ·have aT:=f46_L0_ok n aA n 1 _ af
   obtain rfl:=si h
   exact pv_q F46 (qp aT <| qp aX <| qa 40 aW <| qa 37 aP <| qb 36 aR <| qa 32 aJ <| qb 31 aO <| qa 27 aN <| qa 26 aI <| qa 20 aE <| qa 19 aF <| qa 15 aD <| qa 10 aC <| qa 6 aB <| q0) [(.ret,f46_L0_E0 aA)] []
  have aT:=f46_L0_ok n aA n 1 _ af
  rcases cn h with ⟨ag,bR,h⟩ | ⟨ag,bR,h⟩
  ·have bS:=c_str_neq (P:=PP) (cf:=evF PP T n) (fl:=0) (H:=[(.blk 10 [(c_GEdit aA)])]) (t:=9) ag
   obtain rfl:=si h
   exact pv_q F46 (qb 63 bS <| qp aT <| qp aX <| qa 40 aW <| qa 37 aP <| qb 36 aR <| qa 32 aJ <| qb 31 aO <| qa 27 aN <| qa 26 aI <| qa 20 aE <| qa 19 aF <| qa 15 aD <| qa 10 aC <| qa 6 aB <| q0) [((.exit 0),f46_L0_E1 aA)] []
  have aq:=c_str_neq (P:=PP) (cf:=evF PP T n) (fl:=0) (H:=[(.blk 10 [(c_GEdit aA)])]) (t:=9) ag
  obtain ⟨bg,bT,h⟩:=bnd_some h
  have ar:=f45_ok n aA.Name _ bT
  rcases cn h with ⟨bU,ah,h⟩ | ⟨bU,ah,h⟩
  ·obtain rfl:=si h
   exact pv_q F46 (qa 68 ah <| qa 67 ar <| qb 63 aq <| qp aT <| qp aX <| qa 40 aW <| qa 37 aP <| qb 36 aR <| qa 32 aJ <| qb 31 aO <| qa 27 aN <| qa 26 aI <| qa 20 aE <| qa 19 aF <| qa 15 aD <| qa 10 aC <| qa 6 aB <| q0) [((.exit 0),f46_L0_E1 aA)] []
  obtain rfl:=si h
  exact pv_q F46 (qa 68 ah <| qa 67 ar <| qb 63 aq <| qp aT <| qp aX <| qa 40 aW <| qa 37 aP <| qb 36 aR <| qa 32 aJ <| qb 31 aO <| qa 27 aN <| qa 26 aI <| qa 20 aE <| qa 19 aF <| qa 15 aD <| qa 10 aC <| qa 6 aB <| q0) [((.exit 0),f46_L0_E1 aA)] []
def f26_L0_S (aA : GTxn) (aB : Int) : St:=⟨[U,(.ptr 0 1 0 0),U,U,(iv aB),U,U,U,U,U,U,U,U,U,U,U,U,U,U,U,U,U,U,U,U,U,U,U,U,U,U,U,U,U,U,U,U,U,U,U,U,U,U,U,U,U,U,U,U,U,U,U,U,U,U,U,U,U,U,U,U,U,U,U,U,U,U,U,U],[(.blk 5 [(c_GTxn aA)])]⟩
def f26_L0_E0 (aA : GTxn) (aB : Int) : St:=⟨[U,U,(iv aB),U,U,U,U,U,U,U,U,U,U,U,U,U,U,U,U,U,U,U,U,U,U,U,U,U,U,U,U,U,U,U,U,U,U,U,U,U,U,U,U,U,U,U,U,U,U,U,U,U,U,U,U,U,U,U,U,U,U,U,U,U,U,U,U,U,U],[(.blk 5 [(c_GTxn aA)])]⟩
def f26_L0_E1 (aA : GTxn) : St:=⟨[U,U,U,U,U,U,U,U,U,U,U,U,U,U,U,U,U,U,U,U,U,U,U,U,U,U,U,U,U,U,U,U,U,U,U,U,U,U,U,U,U,U,U,U,U,U,U,U,U,U,U,U,U,U,U,U,U,U,U,U,U,U,U,U,U,U,U,U,U],[(.blk 5 [(c_GTxn aA)])]⟩
def f26_L0 (n : Nat) (aA : GTxn) : Nat → Int → Option (Int ⊕ Unit)
 | 0,_ => none
 | m + 1,aB => (cnd (decide (aB < ((aA.Edits.length : Nat) : Int))) (bnd (idx aA.Edits aB) fun aD => (bnd (f46 n aD) fun aC => (cnd (aC != 0) (some (Sum.inl aC)) (f26_L0 n aA m (IntKind.i64.wrap (aB + 1)))))) (some (Sum.inr ())))
theorem f26_L0_ok (n : Nat) (aA : GTxn) : ∀ (m : Nat) (aB : Int) (r : (Int ⊕ Unit)),f26_L0 n aA m aB = some r → maskR [] [false,false,true] false 0 1 (evLoopH (headSt (some lv33) false 0 1) (evC PP (evF PP T n) n 0 L26_0) m (f26_L0_S aA aB)) = (match r with | .inl r => some (.ret,f26_L0_E0 aA r) | .inr r => some ((.exit 0),f26_L0_E1 aA))
 | 0,_,_,h => by cases h
 | m + 1,aB,r,h => by
  rw [f26_L0] at h
  have aD:=len_sl (P:=PP) (cf:=evF PP T n) (fl:=0) (H:=[(.blk 5 [(c_GTxn aA)])]) (f:=false) (c:=c_GEdit) (l:=aA.Edits)
  rcases cn h with ⟨aH,aC,h⟩ | ⟨aH,aC,h⟩
  rotate_left
  ·obtain rfl:=si h
   exact last_q (some lv33) false (f26_L0_E1 aA) (qa 57 aC <| qb 56 aD <| q0) [] [] trivial
  obtain ⟨aI,aJ,h⟩:=bnd_some h
  have aF:=idxl (H:=[(.blk 5 [(c_GTxn aA)])]) (f:=false) (c:=c_GEdit) aJ (c_GEdit_len _)
  obtain ⟨aK,aL,h⟩:=bnd_some h
  have aG:=f46_ok n aI _ aL
  rcases cn h with ⟨aM,aE,h⟩ | ⟨aM,aE,h⟩
  ·obtain rfl:=si h
   exact last_q (some lv33) false (f26_L0_E0 aA aK) (qa 67 aE <| qa 65 aG <| qa 63 aF <| qa 57 aC <| qb 56 aD <| q0) [] [] trivial
  exact nx_q (f26_L0_S aA (IntKind.i64.wrap (aB + 1))) (qa 67 aE <| qa 65 aG <| qa 63 aF <| qa 57 aC <| qb 56 aD <| q0) [] [] trivial (f26_L0_ok n aA m (IntKind.i64.wrap (aB + 1)) r h)
def f26 : Nat → GTxn → Option Int
 | 0,_ => none
 | n + 1,aA => (cnd (decide (aA.Office < 1)) (some 2) (cnd (decide (aA.Office > 8)) (some 2) (cnd (decide (aA.Seq < 1)) (some 2) (cnd (decide (aA.Seq > 1073741824)) (some 2) (cnd (decide (aA.Time < 0)) (some 2) (cnd (decide (aA.Time > 1073741824)) (some 2) (cnd (decide (aA.Source = (⟨#[]⟩ : ByteArray))) (cnd (decide (((aA.Edits.length : Nat) : Int) < 1)) (some 3) (cnd (decide (((aA.Edits.length : Nat) : Int) > 64)) (some 3) (bnd2 (f26_L0 n aA n 0) (fun aC => (some aC)) (fun aE => (some 0))))) (bnd (f45 n aA.Source) fun aB => (cnd (aB != 0) (some aB) (cnd (decide (((aA.Edits.length : Nat) : Int) < 1)) (some 3) (cnd (decide (((aA.Edits.length : Nat) : Int) > 64)) (some 3) (bnd2 (f26_L0 n aA n 0) (fun aD => (some aD)) (fun aF => (some 0))))))))))))))
theorem f26_ok (n : Nat) (aA : GTxn) (r : Int) (h : f26 n aA = some r) : pv PP T n 26 [(.agg (c_GTxn aA))] = some (iv r):=by
 cases n with
 | zero => cases h
 | succ n =>
  rw [f26] at h
  rcases cn h with ⟨aa,aB,h⟩ | ⟨aa,aB,h⟩
  ·obtain rfl:=si h
   exact pv_q F26 (qa 8 aB <| q0) [] []
  rcases cn h with ⟨ab,aC,h⟩ | ⟨ab,aC,h⟩
  ·obtain rfl:=si h
   exact pv_q F26 (qa 12 aC <| qa 8 aB <| q0) [] []
  rcases cn h with ⟨ac,aD,h⟩ | ⟨ac,aD,h⟩
  ·obtain rfl:=si h
   exact pv_q F26 (qa 17 aD <| qa 12 aC <| qa 8 aB <| q0) [] []
  rcases cn h with ⟨ad,aE,h⟩ | ⟨ad,aE,h⟩
  ·obtain rfl:=si h
   exact pv_q F26 (qa 22 aE <| qa 17 aD <| qa 12 aC <| qa 8 aB <| q0) [] []
  rcases cn h with ⟨ae,aF,h⟩ | ⟨ae,aF,h⟩
  ·obtain rfl:=si h
   exact pv_q F26 (qa 27 aF <| qa 22 aE <| qa 17 aD <| qa 12 aC <| qa 8 aB <| q0) [] []
  rcases cn h with ⟨af,aG,h⟩ | ⟨af,aG,h⟩
  ·obtain rfl:=si h
   exact pv_q F26 (qa 32 aG <| qa 27 aF <| qa 22 aE <| qa 17 aD <| qa 12 aC <| qa 8 aB <| q0) [] []
  rcases cn h with ⟨aR,ag,h⟩ | ⟨aR,ag,h⟩
  ·have aM:=c_str_neq (P:=PP) (cf:=evF PP T n) (fl:=0) (H:=[(.blk 5 [(c_GTxn aA)])]) (t:=9) aR
   have aN:=len_sl (P:=PP) (cf:=evF PP T n) (fl:=0) (H:=[(.blk 5 [(c_GTxn aA)])]) (f:=false) (c:=c_GEdit) (l:=aA.Edits)
   rcases cn h with ⟨ah,aI,h⟩ | ⟨ah,aI,h⟩
   ·obtain rfl:=si h
    exact pv_q F26 (qa 46 aI <| qb 45 aN <| qb 36 aM <| qa 32 aG <| qa 27 aF <| qa 22 aE <| qa 17 aD <| qa 12 aC <| qa 8 aB <| q0) [] []
   have aS:=len_sl (P:=PP) (cf:=evF PP T n) (fl:=0) (H:=[(.blk 5 [(c_GTxn aA)])]) (f:=false) (c:=c_GEdit) (l:=aA.Edits)
   rcases cn h with ⟨ai,aO,h⟩ | ⟨ai,aO,h⟩
   ·obtain rfl:=si h
    exact pv_q F26 (qa 51 aO <| qb 50 aS <| qa 46 aI <| qb 45 aN <| qb 36 aM <| qa 32 aG <| qa 27 aF <| qa 22 aE <| qa 17 aD <| qa 12 aC <| qa 8 aB <| q0) [] []
   have aY : cleanQ false 0 1 [(.blk 5 [(c_GTxn aA)])]:=trivial
   rcases bnd2_some h with ⟨aj,aT,h⟩ | ⟨ap,aT,h⟩
   rotate_left
   ·have aU:=f26_L0_ok n aA n 0 _ aT
    obtain rfl:=si h
    exact pv_q F26 (qp aU <| qp aY <| qa 51 aO <| qb 50 aS <| qa 46 aI <| qb 45 aN <| qb 36 aM <| qa 32 aG <| qa 27 aF <| qa 22 aE <| qa 17 aD <| qa 12 aC <| qa 8 aB <| q0) [((.exit 0),f26_L0_E1 aA)] []
   have aU:=f26_L0_ok n aA n 0 _ aT
   obtain rfl:=si h
   exact pv_q F26 (qp aU <| qp aY <| qa 51 aO <| qb 50 aS <| qa 46 aI <| qb 45 aN <| qb 36 aM <| qa 32 aG <| qa 27 aF <| qa 22 aE <| qa 17 aD <| qa 12 aC <| qa 8 aB <| q0) [(.ret,f26_L0_E0 aA aj)] []
  have aJ:=c_str_neq (P:=PP) (cf:=evF PP T n) (fl:=0) (H:=[(.blk 5 [(c_GTxn aA)])]) (t:=9) aR
  obtain ⟨aq,ak,h⟩:=bnd_some h
  have aK:=f45_ok n aA.Source _ ak
  rcases cn h with ⟨al,aH,h⟩ | ⟨al,aH,h⟩
  ·obtain rfl:=si h
   exact pv_q F26 (qa 41 aH <| qa 39 aK <| qb 36 aJ <| qa 32 aG <| qa 27 aF <| qa 22 aE <| qa 17 aD <| qa 12 aC <| qa 8 aB <| q0) [] []
  have aP:=len_sl (P:=PP) (cf:=evF PP T n) (fl:=0) (H:=[(.blk 5 [(c_GTxn aA)])]) (f:=false) (c:=c_GEdit) (l:=aA.Edits)
  rcases cn h with ⟨am,aL,h⟩ | ⟨am,aL,h⟩
  ·obtain rfl:=si h
   exact pv_q F26 (qa 46 aL <| qb 45 aP <| qa 41 aH <| qa 39 aK <| qb 36 aJ <| qa 32 aG <| qa 27 aF <| qa 22 aE <| qa 17 aD <| qa 12 aC <| qa 8 aB <| q0) [] []
  have aV:=len_sl (P:=PP) (cf:=evF PP T n) (fl:=0) (H:=[(.blk 5 [(c_GTxn aA)])]) (f:=false) (c:=c_GEdit) (l:=aA.Edits)
  rcases cn h with ⟨an,aQ,h⟩ | ⟨an,aQ,h⟩
  ·obtain rfl:=si h
   exact pv_q F26 (qa 51 aQ <| qb 50 aV <| qa 46 aL <| qb 45 aP <| qa 41 aH <| qa 39 aK <| qb 36 aJ <| qa 32 aG <| qa 27 aF <| qa 22 aE <| qa 17 aD <| qa 12 aC <| qa 8 aB <| q0) [] []
  have aZ : cleanQ false 0 1 [(.blk 5 [(c_GTxn aA)])]:=trivial
  rcases bnd2_some h with ⟨ao,aW,h⟩ | ⟨ar,aW,h⟩
  rotate_left
  ·have aX:=f26_L0_ok n aA n 0 _ aW
   obtain rfl:=si h
   exact pv_q F26 (qp aX <| qp aZ <| qa 51 aQ <| qb 50 aV <| qa 46 aL <| qb 45 aP <| qa 41 aH <| qa 39 aK <| qb 36 aJ <| qa 32 aG <| qa 27 aF <| qa 22 aE <| qa 17 aD <| qa 12 aC <| qa 8 aB <| q0) [((.exit 0),f26_L0_E1 aA)] []
  have aX:=f26_L0_ok n aA n 0 _ aW
  obtain rfl:=si h
  exact pv_q F26 (qp aX <| qp aZ <| qa 51 aQ <| qb 50 aV <| qa 46 aL <| qb 45 aP <| qa 41 aH <| qa 39 aK <| qb 36 aJ <| qa 32 aG <| qa 27 aF <| qa 22 aE <| qa 17 aD <| qa 12 aC <| qa 8 aB <| q0) [(.ret,f26_L0_E0 aA ao)] []
def f44 : Nat → GTxn → GTxn → Option Bool
 | 0,_,_ => none
 | n + 1,aA,aB => (cnd (aA.Time != aB.Time) (cnd (decide (aA.Time < aB.Time)) (some true) (some false)) (cnd (aA.Office != aB.Office) (cnd (decide (aA.Office < aB.Office)) (some true) (some false)) (cnd (decide (aA.Seq < aB.Seq)) (some true) (some false))))
end Go.Proofs.YtkdnaejhpcibnaaGreatDoor.Av
