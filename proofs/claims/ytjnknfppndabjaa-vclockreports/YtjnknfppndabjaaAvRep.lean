/- A part of the proof of VclockReportsSaid: an evaluator of the program, proved sound, and what it says. -/
import Derived.Test.YtjnknfppndabjaaAvArg
namespace Go.Proofs.Ytjnknfppndabjaa.Av
open Go Go.Proofs

open Go.Proofs.Ytjnknfppndabjaa in
set_option maxRecDepth 100000 in
theorem reports_lifted (os : Os) (started : os.Started) (H : Type) (enc : TypeId × Value → H) :
    ReturnsInHanded {} Try.checked os 4 .any (Rows.vclockReportsSpec.pre6 enc Try.prog Try.f4 Rows.vclockReportsRow.domain false) (Rows.vclockReportsSpec.post enc Try.prog Try.f4 false true false false) := by
  refine returnsInHanded_of_change (C := Try.checked) own started (by kernel_rfl) Try.func4
    (ChangeSpec.witness6 (enc := enc) (C := Try.checked) false ⟨#[], #[.agg #[.slice none 0 0], .int .i64 0, .int .i64 0], []⟩ 8 (by kernel_rfl) (by kernel_rfl) (by kernel_rfl) (by kernel_rfl)) ?_
  intro W base args ds gs before hval hW _ _
  have hds : ∃ d1 d2 d3, ds = [d1, d2, d3] ∧ gs = [] := by
    obtain ⟨p, q, hA, hV, _⟩ := hW
    have hA' : DataW.TrodAll enc Try.prog W 0 (fun _ => true) true [27, 3, 3] args.toList ds p := by
      have := hA
      rw [Try.params4] at this
      exact this
    obtain ⟨v0, vs0, d0, ds0, p0, q0, _, rfl, rfl, h0, r0⟩ := ChangeShapes.trodAll_cons hA'
    obtain ⟨v1, vs1, d1, ds1, p1, q1, _, rfl, rfl, h1, r1⟩ := ChangeShapes.trodAll_cons r0
    obtain ⟨v2, vs2, d2, ds2, p2, q2, _, rfl, rfl, h2, r2⟩ := ChangeShapes.trodAll_cons r1
    obtain ⟨rfl, rfl, rfl⟩ := ChangeShapes.trodAll_nil r2
    obtain ⟨rfl, rfl⟩ := ChangeShapes.trodVars_none hV
    exact ⟨_, _, _, rfl, rfl⟩
  obtain ⟨d1, d2, d3, rfl, rfl⟩ := hds
  refine law_contract (n := 6) (vi := 2) mixed checked (by kernel_rfl) rfl (tb := 4) (by kernel_rfl) Try.underlying4 laid (by rw [Try.params4]; intro t ht; simp at ht; rcases ht with rfl | rfl <;> exact ⟨by kernel_rfl, of_decide_eq_true (by kernel_rfl)⟩) (by kernel_rfl) ?_ ⟨rfl, rfl, rfl⟩ hval hW
  intro xs hxs
  rw [Try.params4] at hxs
  obtain ⟨x, y, z, rfl, h1, h2, h3⟩ := shapeAll3 hxs
  obtain ⟨l, rfl⟩ := arg_clock h1
  obtain ⟨o, rfl⟩ := arg_int h2
  obtain ⟨s, rfl⟩ := arg_int h3
  exact ⟨201, evF_of_pv (reports_pv awake_pv false l o s)⟩

open Go.Proofs.Ytjnknfppndabjaa in
theorem reports_proved : Rows.VclockReportsSaid :=
  OpenClaim.holds_of_wide 4 Try.f4 rfl rfl rfl rfl rfl rfl rfl ⟨rfl, rfl, rfl, rfl, rfl⟩ rfl rfl rfl rfl rfl (by kernel_rfl) Try.func4 (by kernel_rfl)
    (of_decide_eq_true (by kernel_rfl)) (by unfold Func.isWrapper; first | (rw [if_pos (by decide +kernel)]; kernel_rfl) | (rw [if_neg (by decide +kernel)]; exact ⟨rfl, rfl⟩))
    (fun os started H enc _ => reports_lifted os started H enc)
end Go.Proofs.Ytjnknfppndabjaa.Av
