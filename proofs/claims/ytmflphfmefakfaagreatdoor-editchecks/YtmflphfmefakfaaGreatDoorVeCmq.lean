/- A part of the proof of EditChecksCardSaid. -/
import Derived.Test.YtmflphfmefakfaaGreatDoorVeCmp
set_option linter.all false
namespace Go.Proofs.YtmflphfmefakfaaGreatDoor.Av
open Go Go.Proofs
set_option maxRecDepth 100000
open Go.Proofs.YtmflphfmefakfaaGreatDoor in
theorem checks_lifted (os : Os) (started : os.Started) (H : Type) (enc : TypeId × Value → H) :
  ReturnsInHanded {} Tryz.checked os 3 .any (fun w args => (Rows.editChecksSpec.pre enc Tryz.prog Tryz.f3 [] false w args ∧ laidMetH Tryz.prog Rows.editChecksRow.laid w) ∧ sizedMet enc Tryz.prog Tryz.f3 (OpenSpec.ofChange Rows.editChecksSpec) false w args)
   (Rows.editChecksSpec.post enc Tryz.prog Tryz.f3 false true false false) := by
 refine handed_shaped (C := Tryz.checked) (X := fun w _ => laidMetH Tryz.prog Rows.editChecksRow.laid w) (fun _ _ _ hh h => h.of_heap hh) own started (by kernel_rfl) Tryz.func3
  (ChangeSpec.witness_shaped (enc := enc) (C := Tryz.checked) (os := os) (X := fun w _ => laidMetH Tryz.prog Rows.editChecksRow.laid w) false (World.laidAll Tryz.prog os Rows.editChecksRow.laid) #[.agg #[.int .i64 0, .int .i64 0, .int .i64 0, .int .i64 0, .int .i64 0, .int .i64 0, .int .i64 0, .slice none 0 0, .string ⟨#[]⟩, .slice none 0 0]] 8 (World.laidAll_os _ _ _)
   (World.shaped_of_ZipB (by kernel_rfl) (by kernel_rfl)) (by kernel_rfl) (by kernel_rfl) (by kernel_rfl)
   (by rw [MakeChecks.laidMetH_plain _ _ _ (by kernel_rfl)]; exact laidMet_laidAll _ (by kernel_rfl) (by kernel_rfl))) ?_
 intro W base args ds gs before hval hW hlaid hsh
 have hds : ∃ d1, ds = [d1] ∧ gs = [] := by
  obtain ⟨p, q, hA, hV, _⟩ := hW
  have hA' : DataW.TrodAll enc Tryz.prog W 0 (fun _ => true) true [27] args.toList ds p := by
   have := hA
   rw [Tryz.params3] at this
   exact this
  obtain ⟨v0, vs0, d0, ds0, p0, q0, _, rfl, rfl, h0, r0⟩ := ChangeShapes.trodAll_cons hA'
  obtain ⟨rfl, rfl, rfl⟩ := ChangeShapes.trodAll_nil r0
  obtain ⟨rfl, rfl⟩ := ChangeShapes.trodVars_none hV
  exact ⟨_, rfl, rfl⟩
 obtain ⟨d1, rfl, rfl⟩ := hds
 refine law_contract (T := T) (n := 6) (vi := 0) mixed checked prim_ok (by kernel_rfl) rfl (tb := 4) (by kernel_rfl) (by kernel_rfl) laid (by rw [Tryz.params3]; intro t ht; simp at ht; subst ht; exact ⟨by kernel_rfl, of_decide_eq_true (by kernel_rfl)⟩) (by kernel_rfl) ?_ (glob_top hlaid hsh) ⟨rfl, rfl, rfl⟩ hval hW
 intro xs hxs
 rw [Tryz.params3] at hxs
 obtain ⟨x, rfl, h1⟩ := shapeAll1 hxs
 obtain ⟨a, rfl⟩ := arg_edit h1
 exact ⟨20000, evF_of_pv (f0_ok 20000 a true (law_plain a))⟩
end Go.Proofs.YtmflphfmefakfaaGreatDoor.Av
