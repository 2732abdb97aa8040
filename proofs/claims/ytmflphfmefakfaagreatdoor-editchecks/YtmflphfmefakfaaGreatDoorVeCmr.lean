/- A part of the proof of EditChecksCardSaid. -/
import Derived.Test.YtmflphfmefakfaaGreatDoorVeCmq
set_option linter.all false
namespace Go.Proofs.YtmflphfmefakfaaGreatDoor.Av
open Go Go.Proofs
set_option maxRecDepth 100000
theorem and_t {a b : Bool} (h : a = true) (k : b = true) : (a && b) = true := by rw [h, k]; rfl
open Go.Proofs.YtmflphfmefakfaaGreatDoor in
theorem jf0 : (Rows.editChecksRow.wf (OpenSpec.ofChange Rows.editChecksSpec)) = true := by kernel_rfl
open Go.Proofs.YtmflphfmefakfaaGreatDoor in
theorem jf1 : (laidOutB Tryz.prog) = true := by kernel_rfl
open Go.Proofs.YtmflphfmefakfaaGreatDoor in
theorem jf2 : (mapsRowed Tryz.prog) = true := by kernel_rfl
open Go.Proofs.YtmflphfmefakfaaGreatDoor in
theorem jf3 : (Tryz.f3.params.all (Tryz.prog.readableRec ·)) = true := by kernel_rfl
open Go.Proofs.YtmflphfmefakfaaGreatDoor in
theorem jf4 : (namedTie Tryz.prog Rows.editChecksRow.named Rows.editChecksSpec.vars) = true := by kernel_rfl
open Go.Proofs.YtmflphfmefakfaaGreatDoor in
theorem jf5 : ((Rows.editChecksRow.stops == [])) = true := by kernel_rfl
open Go.Proofs.YtmflphfmefakfaaGreatDoor in
theorem jf6 : ((Tryz.prog.stops == [])) = true := by kernel_rfl
open Go.Proofs.YtmflphfmefakfaaGreatDoor in
theorem jf7 : ((Rows.editChecksRow.knobs == [])) = true := by kernel_rfl
open Go.Proofs.YtmflphfmefakfaaGreatDoor in
theorem jf8 : ((Tryz.prog.stopKnobs == [])) = true := by kernel_rfl
open Go.Proofs.YtmflphfmefakfaaGreatDoor in
theorem jf9 : ((Rows.editChecksRow.inPlace == Tryz.prog.inPlace 3)) = true := by kernel_rfl
open Go.Proofs.YtmflphfmefakfaaGreatDoor in
theorem jf10 : ((Rows.editChecksRow.unfollowed == Tryz.prog.unfollowed 3)) = true := by kernel_rfl
open Go.Proofs.YtmflphfmefakfaaGreatDoor in
theorem jf11 : ((Rows.editChecksRow.recurses == Tryz.prog.recurses 3)) = true := by kernel_rfl
open Go.Proofs.YtmflphfmefakfaaGreatDoor in
theorem jf12 : ((Rows.editChecksRow.named == Tryz.prog.varsNamed 3)) = true := by kernel_rfl
open Go.Proofs.YtmflphfmefakfaaGreatDoor in
theorem jf13 : ((Rows.editChecksRow.maps == (Tryz.f3.params.toList ++ Rows.editChecksSpec.plain.varTypes Tryz.prog).any (Tryz.prog.mapsRec ·))) = true := by kernel_rfl
open Go.Proofs.YtmflphfmefakfaaGreatDoor in
theorem jf14 : ((Rows.editChecksRow.ifaces == (Tryz.f3.params.toList ++ Rows.editChecksSpec.plain.varTypes Tryz.prog).any (Tryz.prog.ifacesRec ·))) = true := by kernel_rfl
open Go.Proofs.YtmflphfmefakfaaGreatDoor in
theorem jf15 : ((Rows.editChecksRow.mapsOut == Tryz.prog.mapsAmong Tryz.f3.resultTypes.toList)) = true := by kernel_rfl
open Go.Proofs.YtmflphfmefakfaaGreatDoor in
theorem jf16 : ((Rows.editChecksRow.loops == (Tryz.f3.params.toList ++ Rows.editChecksSpec.plain.varTypes Tryz.prog).any (Tryz.prog.loopsFrom ·))) = true := by kernel_rfl
open Go.Proofs.YtmflphfmefakfaaGreatDoor in
theorem jf17 : ((Rows.editChecksRow.wideKeys == (Tryz.f3.params.toList ++ Rows.editChecksSpec.plain.varTypes Tryz.prog ++ Tryz.f3.resultTypes.toList).any (Tryz.prog.wideKeysFrom ·))) = true := by kernel_rfl
open Go.Proofs.YtmflphfmefakfaaGreatDoor in
theorem jf18 : (Rows.editChecksSpec.vars.all (Tryz.prog.varReadable ·)) = true := by kernel_rfl
open Go.Proofs.YtmflphfmefakfaaGreatDoor in
theorem jf19 : (Tryz.f3.resultTypes.all (fun t => Tryz.prog.readableRec t && decide (t < Tryz.prog.types.size))) = true := by kernel_rfl
open Go.Proofs.YtmflphfmefakfaaGreatDoor in
theorem jf20 : ((Rows.editChecksRow.ifacesOut == Tryz.f3.resultTypes.toList.any (Tryz.prog.ifacesRec ·))) = true := by kernel_rfl
open Go.Proofs.YtmflphfmefakfaaGreatDoor in
theorem jf21 : ((Rows.editChecksRow.loopsOut == Tryz.f3.resultTypes.toList.any (Tryz.prog.loopsFrom ·))) = true := by kernel_rfl
open Go.Proofs.YtmflphfmefakfaaGreatDoor in
theorem jf22 : ((Rows.editChecksRow.plainKeys == Tryz.prog.plainKeys)) = true := by kernel_rfl
open Go.Proofs.YtmflphfmefakfaaGreatDoor in
theorem jf23 : (Rows.editChecksRow.shortTexts.isNone) = true := by kernel_rfl
open Go.Proofs.YtmflphfmefakfaaGreatDoor in
theorem jf24 : (Tryz.prog.stopsHeard) = true := by kernel_rfl
open Go.Proofs.YtmflphfmefakfaaGreatDoor in
theorem jf25 : (Tryz.prog.mayEnter) = true := by kernel_rfl
open Go.Proofs.YtmflphfmefakfaaGreatDoor in
theorem jf26 : ((Rows.editChecksRow.lifted == Tryz.prog.liftsFinal)) = true := by kernel_rfl
open Go.Proofs.YtmflphfmefakfaaGreatDoor in
theorem jf27 : ((Tryz.prog.make == some Rows.editChecksRow.make)) = true := by kernel_rfl
open Go.Proofs.YtmflphfmefakfaaGreatDoor in
theorem jf28 : ((Rows.editChecksRow.kinds == (if Rows.editChecksRow.domain.isEmpty then [] else Tryz.f3.params.toList.map fun t => match Tryz.prog.underlying t with | some (.int k) => some k | _ => none))) = true := by kernel_rfl
open Go.Proofs.YtmflphfmefakfaaGreatDoor in
theorem jf29 : ((Rows.editChecksRow.pinned == Rows.editChecksRow.pinnedBy)) = true := by kernel_rfl
open Go.Proofs.YtmflphfmefakfaaGreatDoor in
theorem jf30 : ((Rows.editChecksRow.veiled == (Tryz.f3.params.toList ++ Rows.editChecksSpec.plain.varTypes Tryz.prog ++ Tryz.f3.resultTypes.toList).any (Tryz.prog.veiledRec ·))) = true := by kernel_rfl
open Go.Proofs.YtmflphfmefakfaaGreatDoor in
theorem jf31 : (Rows.editChecksRow.veiledFits Tryz.prog Tryz.f3.params.toList (Tryz.f3.params.toList ++ Rows.editChecksSpec.plain.varTypes Tryz.prog ++ Tryz.f3.resultTypes.toList)) = true := by kernel_rfl
open Go.Proofs.YtmflphfmefakfaaGreatDoor in
theorem closed : joinedFacts Tryz.prog 3 Tryz.f3 Rows.editChecksSpec Rows.editChecksRow = true := by
 unfold joinedFacts
 exact and_t (and_t (and_t (and_t (and_t (and_t (and_t (and_t (and_t (and_t (and_t (and_t (and_t (and_t (and_t (and_t (and_t (and_t (and_t (and_t (and_t (and_t (and_t (and_t (and_t (and_t (and_t (and_t (and_t (and_t (and_t (jf0) jf1) jf2) jf3) jf4) jf5) jf6) jf7) jf8) jf9) jf10) jf11) jf12) jf13) jf14) jf15) jf16) jf17) jf18) jf19) jf20) jf21) jf22) jf23) jf24) jf25) jf26) jf27) jf28) jf29) jf30) jf31
open Go.Proofs.YtmflphfmefakfaaGreatDoor in
theorem checks_said : Rows.EditChecksSaid :=
 OpenClaim.holds_of_wide 3 Tryz.f3 rfl rfl rfl rfl rfl rfl rfl ⟨rfl, rfl, rfl, rfl, rfl⟩ rfl rfl rfl rfl rfl (by kernel_rfl) Tryz.func3 closed
  (of_decide_eq_true (by kernel_rfl)) (by unfold Func.isWrapper; first | (rw [if_pos (by decide +kernel)]; kernel_rfl) | (rw [if_neg (by decide +kernel)]; exact ⟨rfl, rfl⟩))
  (fun os started H enc _ => checks_lifted os started H enc)
end Go.Proofs.YtmflphfmefakfaaGreatDoor.Av
