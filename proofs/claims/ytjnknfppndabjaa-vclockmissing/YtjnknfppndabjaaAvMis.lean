/- A part of the proof of VclockMissingSaid: an evaluator of the program, proved sound, and what it says. -/
import Derived.Test.YtjnknfppndabjaaAvT11
import Derived.Test.YtjnknfppndabjaaAvArg2
namespace Go.Proofs.Ytjnknfppndabjaa.Av
open Go Go.Proofs

open Go.Proofs.Ytjnknfppndabjaa in
set_option maxRecDepth 100000 in
theorem missing_lifted (os : Os) (started : os.Started) (H : Type) (enc : TypeId × Value → H) :
    ReturnsInHanded {} Try.checked os 6 .any (Rows.vclockMissingSpec.pre6 enc Try.prog Try.f6 Rows.vclockMissingRow.domain false) (Rows.vclockMissingSpec.post enc Try.prog Try.f6 false true false false) := by
  refine returnsInHanded_of_change (C := Try.checked) own started (by kernel_rfl) Try.func6
    (ChangeSpec.witness6 (enc := enc) (C := Try.checked) false ⟨#[], #[.agg #[.slice none 0 0], .slice none 0 0], []⟩ 8 (by kernel_rfl) (by kernel_rfl) (by kernel_rfl) (by kernel_rfl)) ?_
  intro W base args ds gs before hval hW _ _
  have hds : ∃ d0 d1, ds = [d0, d1] ∧ gs = [] := by
    obtain ⟨p, q, hA, hV, _⟩ := hW
    have r : DataW.TrodAll enc Try.prog W 0 (fun _ => true) true [27, 22] args.toList ds p := by
      have := hA
      rw [Try.params6] at this
      exact this
    obtain ⟨v0, vs0, e0, ds0, p0, q0, _, rfl, rfl, h0, r⟩ := ChangeShapes.trodAll_cons r
    obtain ⟨v1, vs1, e1, ds1, p1, q1, _, rfl, rfl, h1, r⟩ := ChangeShapes.trodAll_cons r
    obtain ⟨rfl, rfl, rfl⟩ := ChangeShapes.trodAll_nil r
    obtain ⟨rfl, rfl⟩ := ChangeShapes.trodVars_none hV
    exact ⟨_, _,  rfl, rfl⟩
  obtain ⟨d0, d1, rfl, rfl⟩ := hds
  refine law_contract (n := 6) (vi := 4) mixed checked (by kernel_rfl) rfl (tb := 4) (by kernel_rfl) Try.underlying4 laid (by rw [Try.params6]; intro t ht; simp at ht; rcases ht with rfl | rfl <;> exact ⟨by kernel_rfl, of_decide_eq_true (by kernel_rfl)⟩) (by kernel_rfl) ?_ ⟨rfl, rfl, rfl⟩ hval hW
  intro xs hxs
  rw [Try.params6] at hxs
  obtain ⟨x0, x1, rfl, k0, k1⟩ := shapeAll2 hxs
  obtain ⟨l0, rfl⟩ := arg_clock k0
  obtain ⟨l1, rfl⟩ := arg_marks k1
  exact ⟨201, evF_of_pv (missing_law awake_pv l0 l1)⟩

open Go.Proofs.Ytjnknfppndabjaa in
theorem missing_proved : Rows.VclockMissingSaid :=
  OpenClaim.holds_of_wide 6 Try.f6 rfl rfl rfl rfl rfl rfl rfl ⟨rfl, rfl, rfl, rfl, rfl⟩ rfl rfl rfl rfl rfl (by kernel_rfl) Try.func6 (by kernel_rfl)
    (of_decide_eq_true (by kernel_rfl)) (by unfold Func.isWrapper; first | (rw [if_pos (by decide +kernel)]; kernel_rfl) | (rw [if_neg (by decide +kernel)]; exact ⟨rfl, rfl⟩))
    (fun os started H enc _ => missing_lifted os started H enc)
end Go.Proofs.Ytjnknfppndabjaa.Av
