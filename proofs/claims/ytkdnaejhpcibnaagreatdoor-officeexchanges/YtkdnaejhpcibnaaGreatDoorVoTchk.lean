/- A part of the proofs of laws of the chapter office: an evaluator of the program, proved sound, and what it says. -/
import Derived.Test.YtkdnaejhpcibnaaGreatDoorVoTab
import Derived.Test.YtkdnaejhpcibnaaGreatDoorAvStr
import Derived.KernelRfl
set_option linter.unusedVariables false
set_option linter.unusedSimpArgs false
namespace Go.Proofs.YtkdnaejhpcibnaaGreatDoor.Av
open Go
theorem chk0 : kJ PP T F0 = true:=by kernel_rfl
theorem chk1 : kJ PP T F1 = true:=by kernel_rfl
theorem chk2 : kJ PP T F2 = true:=by kernel_rfl
theorem chk3 : kJ PP T F3 = true:=by kernel_rfl
theorem chk4 : kJ PP T F4 = true:=by kernel_rfl
theorem chk5 : kJ PP T F5 = true:=by kernel_rfl
theorem chk6 : kJ PP T F6 = true:=by kernel_rfl
theorem chk7 : kJ PP T F7 = true:=by kernel_rfl
theorem chk8 : kJ PP T F8 = true:=by kernel_rfl
theorem chk9 : kJ PP T F9 = true:=by kernel_rfl
theorem bGq : kJ PP T F10 = true:=by kernel_rfl
theorem bGp : kJ PP T F11 = true:=by kernel_rfl
theorem bGo : kJ PP T F12 = true:=by kernel_rfl
theorem bGn : kJ PP T F13 = true:=by kernel_rfl
theorem bGm : kJ PP T F14 = true:=by kernel_rfl
theorem bGl : kJ PP T F15 = true:=by kernel_rfl
theorem bGk : kJ PP T F16 = true:=by kernel_rfl
theorem bGj : kJ PP T F17 = true:=by kernel_rfl
theorem bGi : kJ PP T F18 = true:=by kernel_rfl
theorem bGh : kJ PP T F19 = true:=by kernel_rfl
theorem bGg : kJ PP T F20 = true:=by kernel_rfl
theorem bGf : kJ PP T F21 = true:=by kernel_rfl
theorem bGe : kJ PP T F22 = true:=by kernel_rfl
theorem bGd : kJ PP T F23 = true:=by kernel_rfl
theorem bGc : kJ PP T F24 = true:=by kernel_rfl
theorem bGb : kJ PP T F25 = true:=by kernel_rfl
theorem bGa : kJ PP T F26 = true:=by kernel_rfl
theorem bF9 : kJ PP T F27 = true:=by kernel_rfl
theorem bF8 : kJ PP T F28 = true:=by kernel_rfl
theorem bF7 : kJ PP T F29 = true:=by kernel_rfl
theorem bF6 : kJ PP T F30 = true:=by kernel_rfl
theorem bF5 : kJ PP T F31 = true:=by kernel_rfl
theorem bF4 : kJ PP T F32 = true:=by kernel_rfl
theorem bF3 : kJ PP T F33 = true:=by kernel_rfl
theorem bF2 : kJ PP T F34 = true:=by kernel_rfl
theorem bF1 : kJ PP T F35 = true:=by kernel_rfl
theorem bF0 : kJ PP T F36 = true:=by kernel_rfl
theorem bFz : kJ PP T F37 = true:=by kernel_rfl
theorem bFy : kJ PP T F38 = true:=by kernel_rfl
theorem bFx : kJ PP T F39 = true:=by kernel_rfl
end Go.Proofs.YtkdnaejhpcibnaaGreatDoor.Av
namespace Go.Proofs.YtkdnaejhpcibnaaGreatDoor.Av
open Go
theorem bFw : kJ PP T F40 = true:=by kernel_rfl
theorem bFv : kJ PP T F41 = true:=by kernel_rfl
theorem bFu : kJ PP T F42 = true:=by kernel_rfl
theorem bFt : kJ PP T F43 = true:=by kernel_rfl
theorem bFs : kJ PP T F44 = true:=by kernel_rfl
theorem bFr : kJ PP T F45 = true:=by kernel_rfl
theorem bFq : kJ PP T F46 = true:=by kernel_rfl
theorem bFp : kJ PP T F47 = true:=by kernel_rfl
theorem bFo : kJ PP T F48 = true:=by kernel_rfl
theorem bFn : kJ PP T F49 = true:=by kernel_rfl
theorem bFm : kJ PP T F50 = true:=by kernel_rfl
theorem bFl : kJ PP T F51 = true:=by kernel_rfl
theorem bFk : kJ PP T F52 = true:=by kernel_rfl
theorem bFj : kJ PP T F53 = true:=by kernel_rfl
theorem bFi : kJ PP T F54 = true:=by kernel_rfl
theorem bFh : kJ PP T F55 = true:=by kernel_rfl
theorem bFg : kJ PP T F56 = true:=by kernel_rfl
theorem bFf : kJ PP T F57 = true:=by kernel_rfl
theorem bFe : kJ PP T F58 = true:=by kernel_rfl
theorem bFd : kJ PP T F59 = true:=by kernel_rfl
theorem bFc : kJ PP T F60 = true:=by kernel_rfl
theorem bFb : kJ PP T F61 = true:=by kernel_rfl
theorem bFa : kJ PP T F62 = true:=by kernel_rfl
theorem bE9 : kJ PP T F63 = true:=by kernel_rfl
theorem bE8 : kJ PP T F64 = true:=by kernel_rfl
theorem bE7 : kJ PP T F65 = true:=by kernel_rfl
theorem bE6 : kJ PP T F66 = true:=by kernel_rfl
theorem bE5 : kJ PP T F67 = true:=by kernel_rfl
theorem bE4 : kJ PP T F68 = true:=by kernel_rfl
theorem bE3 : kJ PP T F69 = true:=by kernel_rfl
theorem bE2 : kJ PP T F70 = true:=by kernel_rfl
theorem bE1 : kJ PP T F71 = true:=by kernel_rfl
theorem bE0 : kJ PP T F72 = true:=by kernel_rfl
theorem bEz : kJ PP T F73 = true:=by kernel_rfl
theorem bEy : kJ PP T F74 = true:=by kernel_rfl
theorem bEx : kJ PP T F75 = true:=by kernel_rfl
theorem bEw : kJ PP T F76 = true:=by kernel_rfl
theorem bEv : kJ PP T F77 = true:=by kernel_rfl
theorem bEu : kJ PP T F78 = true:=by kernel_rfl
theorem bEt : kJ PP T F79 = true:=by kernel_rfl
theorem bEs : kJ PP T F80 = true:=by kernel_rfl
end Go.Proofs.YtkdnaejhpcibnaaGreatDoor.Av
namespace Go.Proofs.YtkdnaejhpcibnaaGreatDoor.Av
open Go
theorem bEr : kJ PP T F81 = true:=by kernel_rfl
theorem bEq : kJ PP T F82 = true:=by kernel_rfl
theorem bEp : kJ PP T F83 = true:=by kernel_rfl
theorem bEo : kJ PP T F84 = true:=by kernel_rfl
theorem bEn : kJ PP T F85 = true:=by kernel_rfl
theorem bEm : kJ PP T F86 = true:=by kernel_rfl
theorem bEl : kJ PP T F87 = true:=by kernel_rfl
theorem bEk : kJ PP T F88 = true:=by kernel_rfl
theorem bEj : kJ PP T F89 = true:=by kernel_rfl
theorem bEi : kJ PP T F90 = true:=by kernel_rfl
theorem bEh : kJ PP T F91 = true:=by kernel_rfl
theorem bEg : kJ PP T F92 = true:=by kernel_rfl
theorem bEf : kJ PP T F93 = true:=by kernel_rfl
theorem bEe : kJ PP T F94 = true:=by kernel_rfl
theorem bEd : kJ PP T F95 = true:=by kernel_rfl
theorem bEc : kJ PP T F96 = true:=by kernel_rfl
theorem bEb : kJ PP T F97 = true:=by kernel_rfl
theorem bEa : kJ PP T F98 = true:=by kernel_rfl
theorem bD9 : kJ PP T F99 = true:=by kernel_rfl
theorem bAy : kJ PP T F100 = true:=by kernel_rfl
theorem bAx : kJ PP T F101 = true:=by kernel_rfl
theorem bAw : kJ PP T F102 = true:=by kernel_rfl
theorem bAv : kJ PP T F103 = true:=by kernel_rfl
theorem bAu : kJ PP T F104 = true:=by kernel_rfl
theorem bAt : kJ PP T F105 = true:=by kernel_rfl
theorem bAs : kJ PP T F106 = true:=by kernel_rfl
theorem bAr : kJ PP T F107 = true:=by kernel_rfl
theorem bAq : kJ PP T F108 = true:=by kernel_rfl
theorem bAp : kJ PP T F109 = true:=by kernel_rfl
theorem bAo : kJ PP T F110 = true:=by kernel_rfl
theorem bAn : kJ PP T F111 = true:=by kernel_rfl
theorem bAm : kJ PP T F112 = true:=by kernel_rfl
theorem bAl : kJ PP T F113 = true:=by kernel_rfl
theorem bAk : kJ PP T F114 = true:=by kernel_rfl
theorem bAj : kJ PP T F115 = true:=by kernel_rfl
theorem bAi : kJ PP T F116 = true:=by kernel_rfl
theorem bAh : kJ PP T F117 = true:=by kernel_rfl
theorem bAg : kJ PP T F118 = true:=by kernel_rfl
theorem bAf : kJ PP T F119 = true:=by kernel_rfl
theorem bAe : kJ PP T F120 = true:=by kernel_rfl
end Go.Proofs.YtkdnaejhpcibnaaGreatDoor.Av
namespace Go.Proofs.YtkdnaejhpcibnaaGreatDoor.Av
open Go
theorem bAd : kJ PP T F121 = true:=by kernel_rfl
theorem bAc : kJ PP T F122 = true:=by kernel_rfl
theorem bAb : kJ PP T F123 = true:=by kernel_rfl
theorem bAa : kJ PP T F124 = true:=by kernel_rfl
theorem aZ9 : kJ PP T F125 = true:=by kernel_rfl
theorem aZ8 : kJ PP T F126 = true:=by kernel_rfl
theorem aZ7 : kJ PP T F127 = true:=by kernel_rfl
theorem aZ6 : kJ PP T F128 = true:=by kernel_rfl
theorem aZ5 : kJ PP T F129 = true:=by kernel_rfl
theorem aZ4 : kJ PP T F130 = true:=by kernel_rfl
theorem aZ3 : kJ PP T F131 = true:=by kernel_rfl
theorem aZ2 : kJ PP T F132 = true:=by kernel_rfl
theorem aZ1 : kJ PP T F133 = true:=by kernel_rfl
theorem aZ0 : kJ PP T F134 = true:=by kernel_rfl
theorem aZz : kJ PP T F135 = true:=by kernel_rfl
theorem aZy : kJ PP T F136 = true:=by kernel_rfl
theorem aZx : kJ PP T F137 = true:=by kernel_rfl
theorem aZw : kJ PP T F138 = true:=by kernel_rfl
theorem aZv : kJ PP T F139 = true:=by kernel_rfl
theorem aZu : kJ PP T F140 = true:=by kernel_rfl
theorem aZt : kJ PP T F141 = true:=by kernel_rfl
theorem aZs : kJ PP T F142 = true:=by kernel_rfl
theorem aZr : kJ PP T F143 = true:=by kernel_rfl
theorem aZq : kJ PP T F144 = true:=by kernel_rfl
theorem aZp : kJ PP T F145 = true:=by kernel_rfl
theorem aZo : kJ PP T F146 = true:=by kernel_rfl
theorem aZn : kJ PP T F147 = true:=by kernel_rfl
theorem aZm : kJ PP T F148 = true:=by kernel_rfl
theorem aZl : kJ PP T F149 = true:=by kernel_rfl
theorem aZk : kJ PP T F150 = true:=by kernel_rfl
theorem aZj : kJ PP T F151 = true:=by kernel_rfl
theorem aZi : kJ PP T F152 = true:=by kernel_rfl
theorem aZh : kJ PP T F153 = true:=by kernel_rfl
theorem aZg : kJ PP T F154 = true:=by kernel_rfl
theorem aZf : kJ PP T F155 = true:=by kernel_rfl
theorem aZe : kJ PP T F156 = true:=by kernel_rfl
theorem aZd : kJ PP T F157 = true:=by kernel_rfl
theorem aZc : kJ PP T F158 = true:=by kernel_rfl
theorem aZb : kJ PP T F159 = true:=by kernel_rfl
theorem aZa : kJ PP T F160 = true:=by kernel_rfl
theorem aY9 : kJ PP T F161 = true:=by kernel_rfl
end Go.Proofs.YtkdnaejhpcibnaaGreatDoor.Av
namespace Go.Proofs.YtkdnaejhpcibnaaGreatDoor.Av
open Go
set_option maxRecDepth 20000
theorem kH {F : AFun} {l : List AFun} (h : kJ PP T F = true) (hl : ∀ G ∈ l,kJ PP T G = true) : ∀ G ∈ F :: l,kJ PP T G = true:=by
 intro G hG
 cases hG with
 | head => exact h
 | tail _ hG => exact hl G hG
theorem aVv : ∀ G ∈ ([] : List AFun),kJ PP T G = true:=fun _ h => by cases h
def aV1 : List AFun:=F160 :: F161 :: []
theorem aY3 : ∀ G ∈ aV1,kJ PP T G = true:=kH aZa (kH aY9 (aVv))
def aV2 : List AFun:=F140 :: F141 :: F142 :: F143 :: F144 :: F145 :: F146 :: F147 :: F148 :: F149 :: F150 :: F151 :: F152 :: F153 :: F154 :: F155 :: F156 :: F157 :: F158 :: F159 :: aV1
theorem aY4 : ∀ G ∈ aV2,kJ PP T G = true:=kH aZu (kH aZt (kH aZs (kH aZr (kH aZq (kH aZp (kH aZo (kH aZn (kH aZm (kH aZl (kH aZk (kH aZj (kH aZi (kH aZh (kH aZg (kH aZf (kH aZe (kH aZd (kH aZc (kH aZb (aY3))))))))))))))))))))
def aV3 : List AFun:=F120 :: F121 :: F122 :: F123 :: F124 :: F125 :: F126 :: F127 :: F128 :: F129 :: F130 :: F131 :: F132 :: F133 :: F134 :: F135 :: F136 :: F137 :: F138 :: F139 :: aV2
theorem aY5 : ∀ G ∈ aV3,kJ PP T G = true:=kH bAe (kH bAd (kH bAc (kH bAb (kH bAa (kH aZ9 (kH aZ8 (kH aZ7 (kH aZ6 (kH aZ5 (kH aZ4 (kH aZ3 (kH aZ2 (kH aZ1 (kH aZ0 (kH aZz (kH aZy (kH aZx (kH aZw (kH aZv (aY4))))))))))))))))))))
def aV4 : List AFun:=F100 :: F101 :: F102 :: F103 :: F104 :: F105 :: F106 :: F107 :: F108 :: F109 :: F110 :: F111 :: F112 :: F113 :: F114 :: F115 :: F116 :: F117 :: F118 :: F119 :: aV3
theorem aY6 : ∀ G ∈ aV4,kJ PP T G = true:=kH bAy (kH bAx (kH bAw (kH bAv (kH bAu (kH bAt (kH bAs (kH bAr (kH bAq (kH bAp (kH bAo (kH bAn (kH bAm (kH bAl (kH bAk (kH bAj (kH bAi (kH bAh (kH bAg (kH bAf (aY5))))))))))))))))))))
def tl80 : List AFun:=F80 :: F81 :: F82 :: F83 :: F84 :: F85 :: F86 :: F87 :: F88 :: F89 :: F90 :: F91 :: F92 :: F93 :: F94 :: F95 :: F96 :: F97 :: F98 :: F99 :: aV4
theorem bD2 : ∀ G ∈ tl80,kJ PP T G = true:=kH bEs (kH bEr (kH bEq (kH bEp (kH bEo (kH bEn (kH bEm (kH bEl (kH bEk (kH bEj (kH bEi (kH bEh (kH bEg (kH bEf (kH bEe (kH bEd (kH bEc (kH bEb (kH bEa (kH bD9 (aY6))))))))))))))))))))
def tl60 : List AFun:=F60 :: F61 :: F62 :: F63 :: F64 :: F65 :: F66 :: F67 :: F68 :: F69 :: F70 :: F71 :: F72 :: F73 :: F74 :: F75 :: F76 :: F77 :: F78 :: F79 :: tl80
theorem bD3 : ∀ G ∈ tl60,kJ PP T G = true:=kH bFc (kH bFb (kH bFa (kH bE9 (kH bE8 (kH bE7 (kH bE6 (kH bE5 (kH bE4 (kH bE3 (kH bE2 (kH bE1 (kH bE0 (kH bEz (kH bEy (kH bEx (kH bEw (kH bEv (kH bEu (kH bEt (bD2))))))))))))))))))))
def tl40 : List AFun:=F40 :: F41 :: F42 :: F43 :: F44 :: F45 :: F46 :: F47 :: F48 :: F49 :: F50 :: F51 :: F52 :: F53 :: F54 :: F55 :: F56 :: F57 :: F58 :: F59 :: tl60
theorem bD4 : ∀ G ∈ tl40,kJ PP T G = true:=kH bFw (kH bFv (kH bFu (kH bFt (kH bFs (kH bFr (kH bFq (kH bFp (kH bFo (kH bFn (kH bFm (kH bFl (kH bFk (kH bFj (kH bFi (kH bFh (kH bFg (kH bFf (kH bFe (kH bFd (bD3))))))))))))))))))))
def tl20 : List AFun:=F20 :: F21 :: F22 :: F23 :: F24 :: F25 :: F26 :: F27 :: F28 :: F29 :: F30 :: F31 :: F32 :: F33 :: F34 :: F35 :: F36 :: F37 :: F38 :: F39 :: tl40
theorem bD5 : ∀ G ∈ tl20,kJ PP T G = true:=kH bGg (kH bGf (kH bGe (kH bGd (kH bGc (kH bGb (kH bGa (kH bF9 (kH bF8 (kH bF7 (kH bF6 (kH bF5 (kH bF4 (kH bF3 (kH bF2 (kH bF1 (kH bF0 (kH bFz (kH bFy (kH bFx (bD4))))))))))))))))))))
def tl0 : List AFun:=F0 :: F1 :: F2 :: F3 :: F4 :: F5 :: F6 :: F7 :: F8 :: F9 :: F10 :: F11 :: F12 :: F13 :: F14 :: F15 :: F16 :: F17 :: F18 :: F19 :: tl20
theorem ctl0 : ∀ G ∈ tl0,kJ PP T G = true:=kH chk0 (kH chk1 (kH chk2 (kH chk3 (kH chk4 (kH chk5 (kH chk6 (kH chk7 (kH chk8 (kH chk9 (kH bGq (kH bGp (kH bGo (kH bGn (kH bGm (kH bGl (kH bGk (kH bGj (kH bGi (kH bGh (bD5))))))))))))))))))))
theorem checked : Checked PP T:=ctl0
end Go.Proofs.YtkdnaejhpcibnaaGreatDoor.Av
