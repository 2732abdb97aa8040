/- A part of the proof of VclockOrdersSaid: an evaluator of the program, proved sound, and what it says. -/
import Derived.Test.YtjnknfppndabjaaAvT6
import Derived.Test.YtjnknfppndabjaaAvArg
namespace Go.Proofs.Ytjnknfppndabjaa.Av
open Go Go.Proofs

open Go.Proofs.Ytjnknfppndabjaa in
set_option maxRecDepth 100000 in
theorem orders_lifted (os : Os) (started : os.Started) (H : Type) (enc : TypeId × Value → H) :
    ReturnsInHanded {} Try.checked os 7 .any (Rows.vclockOrdersSpec.pre6 enc Try.prog Try.f7 Rows.vclockOrdersRow.domain false) (Rows.vclockOrdersSpec.post enc Try.prog Try.f7 false true false false) := by
  refine returnsInHanded_of_change (C := Try.checked) own started (by kernel_rfl) Try.func7
    (ChangeSpec.witness6 (enc := enc) (C := Try.checked) false ⟨#[], #[.agg #[.slice none 0 0], .agg #[.slice none 0 0], .agg #[.slice none 0 0]], []⟩ 8 (by kernel_rfl) (by kernel_rfl) (by kernel_rfl) (by kernel_rfl)) ?_
  intro W base args ds gs before hval hW _ _
  have hds : ∃ d0 d1 d2, ds = [d0, d1, d2] ∧ gs = [] := by
    obtain ⟨p, q, hA, hV, _⟩ := hW
    have r : DataW.TrodAll enc Try.prog W 0 (fun _ => true) true [27, 27, 27] args.toList ds p := by
      have := hA
      rw [Try.params7] at this
      exact this
    obtain ⟨v0, vs0, e0, ds0, p0, q0, _, rfl, rfl, h0, r⟩ := ChangeShapes.trodAll_cons r
    obtain ⟨v1, vs1, e1, ds1, p1, q1, _, rfl, rfl, h1, r⟩ := ChangeShapes.trodAll_cons r
    obtain ⟨v2, vs2, e2, ds2, p2, q2, _, rfl, rfl, h2, r⟩ := ChangeShapes.trodAll_cons r
    obtain ⟨rfl, rfl, rfl⟩ := ChangeShapes.trodAll_nil r
    obtain ⟨rfl, rfl⟩ := ChangeShapes.trodVars_none hV
    exact ⟨_, _, _,  rfl, rfl⟩
  obtain ⟨d0, d1, d2, rfl, rfl⟩ := hds
  refine law_contract (n := 6) (vi := 5) mixed checked (by kernel_rfl) rfl (tb := 4) (by kernel_rfl) Try.underlying4 laid (by rw [Try.params7]; intro t ht; simp at ht; subst ht <;> exact ⟨by kernel_rfl, of_decide_eq_true (by kernel_rfl)⟩) (by kernel_rfl) ?_ ⟨rfl, rfl, rfl⟩ hval hW
  intro xs hxs
  rw [Try.params7] at hxs
  obtain ⟨x0, x1, x2, rfl, k0, k1, k2⟩ := shapeAll3 hxs
  obtain ⟨l0, rfl⟩ := arg_clock k0
  obtain ⟨l1, rfl⟩ := arg_clock k1
  obtain ⟨l2, rfl⟩ := arg_clock k2
  exact ⟨201, evF_of_pv (orders_pv awake_pv false false false l0 l1 l2)⟩

open Go.Proofs.Ytjnknfppndabjaa in
theorem orders_proved : Rows.VclockOrdersSaid :=
  OpenClaim.holds_of_wide 7 Try.f7 rfl rfl rfl rfl rfl rfl rfl ⟨rfl, rfl, rfl, rfl, rfl⟩ rfl rfl rfl rfl rfl (by kernel_rfl) Try.func7 (by kernel_rfl)
    (of_decide_eq_true (by kernel_rfl)) (by unfold Func.isWrapper; first | (rw [if_pos (by decide +kernel)]; kernel_rfl) | (rw [if_neg (by decide +kernel)]; exact ⟨rfl, rfl⟩))
    (fun os started H enc _ => orders_lifted os started H enc)
end Go.Proofs.Ytjnknfppndabjaa.Av
