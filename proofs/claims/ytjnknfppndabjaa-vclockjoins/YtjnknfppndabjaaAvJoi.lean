/- A part of the proof of VclockJoinsSaid: an evaluator of the program, proved sound, and what it says. -/
import Derived.Test.YtjnknfppndabjaaAvT11
import Derived.Test.YtjnknfppndabjaaAvArg2
namespace Go.Proofs.Ytjnknfppndabjaa.Av
open Go Go.Proofs

open Go.Proofs.Ytjnknfppndabjaa in
set_option maxRecDepth 100000 in
theorem joins_lifted (os : Os) (started : os.Started) (H : Type) (enc : TypeId × Value → H) :
    ReturnsInHanded {} Try.checked os 8 .any (Rows.vclockJoinsSpec.pre6 enc Try.prog Try.f8 Rows.vclockJoinsRow.domain false) (Rows.vclockJoinsSpec.post enc Try.prog Try.f8 false true false false) := by
  refine returnsInHanded_of_change (C := Try.checked) own started (by kernel_rfl) Try.func8
    (ChangeSpec.witness6 (enc := enc) (C := Try.checked) false ⟨#[], #[.slice none 0 0, .slice none 0 0], []⟩ 8 (by kernel_rfl) (by kernel_rfl) (by kernel_rfl) (by kernel_rfl)) ?_
  intro W base args ds gs before hval hW _ _
  have hds : ∃ d0 d1, ds = [d0, d1] ∧ gs = [] := by
    obtain ⟨p, q, hA, hV, _⟩ := hW
    have r : DataW.TrodAll enc Try.prog W 0 (fun _ => true) true [22, 22] args.toList ds p := by
      have := hA
      rw [Try.params8] at this
      exact this
    obtain ⟨v0, vs0, e0, ds0, p0, q0, _, rfl, rfl, h0, r⟩ := ChangeShapes.trodAll_cons r
    obtain ⟨v1, vs1, e1, ds1, p1, q1, _, rfl, rfl, h1, r⟩ := ChangeShapes.trodAll_cons r
    obtain ⟨rfl, rfl, rfl⟩ := ChangeShapes.trodAll_nil r
    obtain ⟨rfl, rfl⟩ := ChangeShapes.trodVars_none hV
    exact ⟨_, _,  rfl, rfl⟩
  obtain ⟨d0, d1, rfl, rfl⟩ := hds
  refine law_contract (n := 6) (vi := 6) mixed checked (by kernel_rfl) rfl (tb := 4) (by kernel_rfl) Try.underlying4 laid (by rw [Try.params8]; intro t ht; simp at ht; subst ht <;> exact ⟨by kernel_rfl, of_decide_eq_true (by kernel_rfl)⟩) (by kernel_rfl) ?_ ⟨rfl, rfl, rfl⟩ hval hW
  intro xs hxs
  rw [Try.params8] at hxs
  obtain ⟨x0, x1, rfl, k0, k1⟩ := shapeAll2 hxs
  obtain ⟨l0, rfl⟩ := arg_marks k0
  obtain ⟨l1, rfl⟩ := arg_marks k1
  exact ⟨201, evF_of_pv (joins_pv awake_pv l0 l1)⟩

open Go.Proofs.Ytjnknfppndabjaa in
theorem joins_proved : Rows.VclockJoinsSaid :=
  OpenClaim.holds_of_wide 8 Try.f8 rfl rfl rfl rfl rfl rfl rfl ⟨rfl, rfl, rfl, rfl, rfl⟩ rfl rfl rfl rfl rfl (by kernel_rfl) Try.func8 (by kernel_rfl)
    (of_decide_eq_true (by kernel_rfl)) (by unfold Func.isWrapper; first | (rw [if_pos (by decide +kernel)]; kernel_rfl) | (rw [if_neg (by decide +kernel)]; exact ⟨rfl, rfl⟩))
    (fun os started H enc _ => joins_lifted os started H enc)
end Go.Proofs.Ytjnknfppndabjaa.Av
