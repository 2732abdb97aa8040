/- A part of the proof of ChangesetElementsCardSaid: an evaluator of the program, proved sound, and what it says. -/
import Derived.Test.YtanonfpdkoijnaaGreatDoorVcArg
import Derived.Test.YtanonfpdkoijnaaGreatDoorVcPrm
import Derived.Test.YtanonfpdkoijnaaGreatDoorRows
import Derived.Test.YtanonfpdkoijnaaGreatDoorTie
import Derived.Test.YtanonfpdkoijnaaGreatDoorCards
import Derived.ChangeSame
import Derived.ChangeVars
import Derived.JoinedOf
import Derived.LaidLaws
import Derived.Lay
import Derived.MakeChecks
import Derived.Stop.Joined
import Derived.SevenTiedAt
set_option linter.all false
namespace Go.Proofs.YtanonfpdkoijnaaGreatDoor.Av
open Go Go.Proofs
set_option maxRecDepth 100000
theorem own : ownKnob PP.godebug = none := by kernel_rfl
theorem laid : laidOutB PP = true := by kernel_rfl
open Go.Proofs.YtanonfpdkoijnaaGreatDoor in
theorem elements_lifted (os : Os) (started : os.Started) (H : Type) (enc : TypeId × Value → H) :
  ReturnsInHanded {} Tryz.checked os 3 .any (fun w args => (Rows.changesetElementsSpec.pre enc Tryz.prog Tryz.f3 [] false w args ∧ laidMetH Tryz.prog Rows.changesetElementsRow.laid w) ∧ sizedMet enc Tryz.prog Tryz.f3 (OpenSpec.ofChange Rows.changesetElementsSpec) false w args)
   (Rows.changesetElementsSpec.post enc Tryz.prog Tryz.f3 false true false false) := by
 refine returnsInHanded_of_change_and (C := Tryz.checked) (X := fun w _ => laidMetH Tryz.prog Rows.changesetElementsRow.laid w) (fun _ _ _ hh h => h.of_heap hh) own started (by kernel_rfl) Tryz.func3
  (ChangeSpec.witness_shaped (enc := enc) (C := Tryz.checked) (os := os) (X := fun w _ => laidMetH Tryz.prog Rows.changesetElementsRow.laid w) false (World.laidAll Tryz.prog os Rows.changesetElementsRow.laid) #[.slice none 0 0, .slice none 0 0] 8 (World.laidAll_os _ _ _)
   (World.shaped_of_ZipB (by kernel_rfl) (by kernel_rfl)) (by kernel_rfl) (by kernel_rfl) (by kernel_rfl)
   (by rw [MakeChecks.laidMetH_plain _ _ _ (by kernel_rfl)]; exact laidMet_laidAll _ (by kernel_rfl) (by kernel_rfl))) ?_
 intro W base args ds gs before hval hW _ _ _ _
 have hds : ∃ d1 d2, ds = [d1, d2] ∧ gs = [] := by
  obtain ⟨p, q, hA, hV, _⟩ := hW
  have hA' : DataW.TrodAll enc Tryz.prog W 0 (fun _ => true) true [22, 22] args.toList ds p := by
   have := hA
   rw [Tryz.params3] at this
   exact this
  obtain ⟨v0, vs0, d0, ds0, p0, q0, _, rfl, rfl, h0, r0⟩ := ChangeShapes.trodAll_cons hA'
  obtain ⟨v1, vs1, d1, ds1, p1, q1, _, rfl, rfl, h1, r1⟩ := ChangeShapes.trodAll_cons r0
  obtain ⟨rfl, rfl, rfl⟩ := ChangeShapes.trodAll_nil r1
  obtain ⟨rfl, rfl⟩ := ChangeShapes.trodVars_none hV
  exact ⟨_, _, rfl, rfl⟩
 obtain ⟨d1, d2, rfl, rfl⟩ := hds
 refine law_contract (T := T) (n := 6) (vi := 0) mixed checked prim_ok (by kernel_rfl) rfl (tb := 4) (by kernel_rfl) (by kernel_rfl) laid (by rw [Tryz.params3]; intro t ht; simp at ht; subst ht; exact ⟨by kernel_rfl, of_decide_eq_true (by kernel_rfl)⟩) (by kernel_rfl) ?_ (fun g cs h => by cases h) ⟨rfl, rfl, rfl⟩ hval hW
 intro xs hxs
 rw [Tryz.params3] at hxs
 obtain ⟨x, y, rfl, h1, h2⟩ := shapeAll2 hxs
 obtain ⟨l, rfl⟩ := arg_edits h1
 obtain ⟨m, rfl⟩ := arg_edits h2
 exact ⟨20001, evF_of_pv (f0_ok 20001 l m true (law_plain l m))⟩
open Go.Proofs.YtanonfpdkoijnaaGreatDoor in
theorem elements_said : Rows.ChangesetElementsSaid :=
 OpenClaim.holds_of_wide 3 Tryz.f3 rfl rfl rfl rfl rfl rfl rfl ⟨rfl, rfl, rfl, rfl, rfl⟩ rfl rfl rfl rfl rfl (by kernel_rfl) Tryz.func3 (by kernel_rfl)
  (of_decide_eq_true (by kernel_rfl)) (by unfold Func.isWrapper; first | (rw [if_pos (by decide +kernel)]; kernel_rfl) | (rw [if_neg (by decide +kernel)]; exact ⟨rfl, rfl⟩))
  (fun os started H enc _ => elements_lifted os started H enc)
open Go.Proofs.YtanonfpdkoijnaaGreatDoor in
theorem elements_card : Rows.ChangesetElementsCardSaid :=
 Claim7.holds_tied_plain_at .later [] [.data] true (true, "81b7727abbcd2df420f409016c33e39131021e71c5666dc3c700c6ec36114905") false
  elements_said (fun _ h => by cases h) (by kernel_rfl) (fun _ h => by cases h) changesetElements_row_tie rfl ⟨rfl, rfl⟩ (by kernel_rfl) rfl
  (fun f fn hf hfn => by
   obtain rfl : f = 3 := Option.some.inj ((show Tryz.prog.funcNamed "mapsheets/mapsheetslaw28.ChangesetElements" = some 3 by kernel_rfl).symm.trans hf) |>.symm
   obtain rfl : fn = Tryz.f3 := (Option.some.inj (Tryz.func3.symm.trans hfn)).symm
   exact ⟨by kernel_rfl, fun j t ht => by
    rw [Tryz.params3] at ht
    have h3 : t = 22 := by
     rcases j with _ | _ | j
     ·simpa using ht.symm
     ·simpa using ht.symm
     ·simp at ht
    subst h3
    exact (show Tryz.prog.wantsStandIn 22 = false by kernel_rfl)⟩)
  (by kernel_rfl)
#print axioms elements_card
end Go.Proofs.YtanonfpdkoijnaaGreatDoor.Av
