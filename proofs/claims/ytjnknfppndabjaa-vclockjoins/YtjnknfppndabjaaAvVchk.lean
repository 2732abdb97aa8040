/- A part of the proof of VclockJoinsSaid: an evaluator of the program, proved sound, and what it says. -/
import Derived.Test.YtjnknfppndabjaaAvVcl
import Derived.Test.YtjnknfppndabjaaAvSym
import Derived.KernelRfl
namespace Go.Proofs.Ytjnknfppndabjaa.Av
open Go
theorem chk0 : chkFun Go.Proofs.Try.prog T F0 = true := by kernel_rfl
theorem chk1 : chkFun Go.Proofs.Try.prog T F1 = true := by kernel_rfl
theorem chk2 : chkFun Go.Proofs.Try.prog T F2 = true := by kernel_rfl
theorem chk3 : chkFun Go.Proofs.Try.prog T F3 = true := by kernel_rfl
theorem chk4 : chkFun Go.Proofs.Try.prog T F4 = true := by kernel_rfl
theorem chk5 : chkFun Go.Proofs.Try.prog T F5 = true := by kernel_rfl
theorem chk6 : chkFun Go.Proofs.Try.prog T F6 = true := by kernel_rfl
theorem chk7 : chkFun Go.Proofs.Try.prog T F7 = true := by kernel_rfl
theorem chk8 : chkFun Go.Proofs.Try.prog T F8 = true := by kernel_rfl
theorem chk9 : chkFun Go.Proofs.Try.prog T F9 = true := by kernel_rfl
theorem chk10 : chkFun Go.Proofs.Try.prog T F10 = true := by kernel_rfl
theorem chk11 : chkFun Go.Proofs.Try.prog T F11 = true := by kernel_rfl
theorem chk12 : chkFun Go.Proofs.Try.prog T F12 = true := by kernel_rfl
theorem chk13 : chkFun Go.Proofs.Try.prog T F13 = true := by kernel_rfl
theorem chk14 : chkFun Go.Proofs.Try.prog T F14 = true := by kernel_rfl
theorem chk15 : chkFun Go.Proofs.Try.prog T F15 = true := by kernel_rfl
theorem chk16 : chkFun Go.Proofs.Try.prog T F16 = true := by kernel_rfl
theorem chk17 : chkFun Go.Proofs.Try.prog T F17 = true := by kernel_rfl
theorem chk18 : chkFun Go.Proofs.Try.prog T F18 = true := by kernel_rfl
theorem chk19 : chkFun Go.Proofs.Try.prog T F19 = true := by kernel_rfl
theorem chk20 : chkFun Go.Proofs.Try.prog T F20 = true := by kernel_rfl
theorem chk21 : chkFun Go.Proofs.Try.prog T F21 = true := by kernel_rfl
theorem chk22 : chkFun Go.Proofs.Try.prog T F22 = true := by kernel_rfl
theorem chk23 : chkFun Go.Proofs.Try.prog T F23 = true := by kernel_rfl
theorem chk24 : chkFun Go.Proofs.Try.prog T F24 = true := by kernel_rfl
theorem chk25 : chkFun Go.Proofs.Try.prog T F25 = true := by kernel_rfl
theorem chk26 : chkFun Go.Proofs.Try.prog T F26 = true := by kernel_rfl
theorem chk27 : chkFun Go.Proofs.Try.prog T F27 = true := by kernel_rfl
theorem chk28 : chkFun Go.Proofs.Try.prog T F28 = true := by kernel_rfl
theorem chk29 : chkFun Go.Proofs.Try.prog T F29 = true := by kernel_rfl
theorem chk30 : chkFun Go.Proofs.Try.prog T F30 = true := by kernel_rfl
theorem chk31 : chkFun Go.Proofs.Try.prog T F31 = true := by kernel_rfl
theorem chk32 : chkFun Go.Proofs.Try.prog T F32 = true := by kernel_rfl
theorem chk33 : chkFun Go.Proofs.Try.prog T F33 = true := by kernel_rfl
theorem chk34 : chkFun Go.Proofs.Try.prog T F34 = true := by kernel_rfl
theorem chk35 : chkFun Go.Proofs.Try.prog T F35 = true := by kernel_rfl
theorem chk36 : chkFun Go.Proofs.Try.prog T F36 = true := by kernel_rfl
theorem chk37 : chkFun Go.Proofs.Try.prog T F37 = true := by kernel_rfl

theorem checked : Checked Go.Proofs.Try.prog T := by
  intro F hF
  simp only [T, List.mem_cons, List.not_mem_nil, or_false] at hF
  rcases hF with rfl | rfl | rfl | rfl | rfl | rfl | rfl | rfl | rfl | rfl | rfl | rfl | rfl | rfl | rfl | rfl | rfl | rfl | rfl | rfl | rfl | rfl | rfl | rfl | rfl | rfl | rfl | rfl | rfl | rfl | rfl | rfl | rfl | rfl | rfl | rfl | rfl | rfl
  · exact chk0
  · exact chk1
  · exact chk2
  · exact chk3
  · exact chk4
  · exact chk5
  · exact chk6
  · exact chk7
  · exact chk8
  · exact chk9
  · exact chk10
  · exact chk11
  · exact chk12
  · exact chk13
  · exact chk14
  · exact chk15
  · exact chk16
  · exact chk17
  · exact chk18
  · exact chk19
  · exact chk20
  · exact chk21
  · exact chk22
  · exact chk23
  · exact chk24
  · exact chk25
  · exact chk26
  · exact chk27
  · exact chk28
  · exact chk29
  · exact chk30
  · exact chk31
  · exact chk32
  · exact chk33
  · exact chk34
  · exact chk35
  · exact chk36
  · exact chk37

def isT : Option (AV × Heap) → Bool
  | some (.lit (.bool true), _) => true
  | _ => false
theorem awake_ev : isT (evF Go.Proofs.Try.prog T 200 0 0 [] []) = true := by kernel_rfl

theorem awake_pv : pv Go.Proofs.Try.prog T 200 0 [] = some (.lit (.bool true)) := by
  have h := awake_ev
  unfold isT at h
  unfold pv
  split at h
  · rename_i H he
    rw [he]; rfl
  · cases h
theorem mixed : Go.Proofs.Try.prog.follows .mixedOrders = true := by kernel_rfl
end Go.Proofs.Ytjnknfppndabjaa.Av
