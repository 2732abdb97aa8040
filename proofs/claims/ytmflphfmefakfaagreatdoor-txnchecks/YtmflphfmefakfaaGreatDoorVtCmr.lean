/- A part of the proof of TxnChecksCardSaid: an evaluator of the program, proved sound, and what it says. -/
import Derived.Test.YtmflphfmefakfaaGreatDoorVtCmq
set_option linter.all false
namespace Go.Proofs.YtmflphfmefakfaaGreatDoor.Av
open Go Go.Proofs
set_option maxRecDepth 100000
theorem and_t {a b : Bool} (h : a = true) (k : b = true) : (a && b) = true := by rw [h, k]; rfl
open Go.Proofs.YtmflphfmefakfaaGreatDoor in
theorem jf0 : (Rows.txnChecksRow.wf (OpenSpec.ofChange Rows.txnChecksSpec)) = true := by kernel_rfl
open Go.Proofs.YtmflphfmefakfaaGreatDoor in
theorem jf1 : (laidOutB Tryz.prog) = true := by kernel_rfl
open Go.Proofs.YtmflphfmefakfaaGreatDoor in
theorem jf2 : (mapsRowed Tryz.prog) = true := by kernel_rfl
open Go.Proofs.YtmflphfmefakfaaGreatDoor in
theorem jf3 : (Tryz.f4.params.all (Tryz.prog.readableRec ·)) = true := by kernel_rfl
open Go.Proofs.YtmflphfmefakfaaGreatDoor in
theorem jf4 : (namedTie Tryz.prog Rows.txnChecksRow.named Rows.txnChecksSpec.vars) = true := by kernel_rfl
open Go.Proofs.YtmflphfmefakfaaGreatDoor in
theorem jf5 : ((Rows.txnChecksRow.stops == [])) = true := by kernel_rfl
open Go.Proofs.YtmflphfmefakfaaGreatDoor in
theorem jf6 : ((Tryz.prog.stops == [])) = true := by kernel_rfl
open Go.Proofs.YtmflphfmefakfaaGreatDoor in
theorem jf7 : ((Rows.txnChecksRow.knobs == [])) = true := by kernel_rfl
open Go.Proofs.YtmflphfmefakfaaGreatDoor in
theorem jf8 : ((Tryz.prog.stopKnobs == [])) = true := by kernel_rfl
open Go.Proofs.YtmflphfmefakfaaGreatDoor in
theorem jf9 : ((Rows.txnChecksRow.inPlace == Tryz.prog.inPlace 4)) = true := by kernel_rfl
open Go.Proofs.YtmflphfmefakfaaGreatDoor in
theorem jf10 : ((Rows.txnChecksRow.unfollowed == Tryz.prog.unfollowed 4)) = true := by kernel_rfl
open Go.Proofs.YtmflphfmefakfaaGreatDoor in
theorem jf11 : ((Rows.txnChecksRow.recurses == Tryz.prog.recurses 4)) = true := by kernel_rfl
open Go.Proofs.YtmflphfmefakfaaGreatDoor in
theorem jf12 : ((Rows.txnChecksRow.named == Tryz.prog.varsNamed 4)) = true := by kernel_rfl
open Go.Proofs.YtmflphfmefakfaaGreatDoor in
theorem jf13 : ((Rows.txnChecksRow.maps == (Tryz.f4.params.toList ++ Rows.txnChecksSpec.plain.varTypes Tryz.prog).any (Tryz.prog.mapsRec ·))) = true := by kernel_rfl
open Go.Proofs.YtmflphfmefakfaaGreatDoor in
theorem jf14 : ((Rows.txnChecksRow.ifaces == (Tryz.f4.params.toList ++ Rows.txnChecksSpec.plain.varTypes Tryz.prog).any (Tryz.prog.ifacesRec ·))) = true := by kernel_rfl
open Go.Proofs.YtmflphfmefakfaaGreatDoor in
theorem jf15 : ((Rows.txnChecksRow.mapsOut == Tryz.prog.mapsAmong Tryz.f4.resultTypes.toList)) = true := by kernel_rfl
open Go.Proofs.YtmflphfmefakfaaGreatDoor in
theorem jf16 : ((Rows.txnChecksRow.loops == (Tryz.f4.params.toList ++ Rows.txnChecksSpec.plain.varTypes Tryz.prog).any (Tryz.prog.loopsFrom ·))) = true := by kernel_rfl
open Go.Proofs.YtmflphfmefakfaaGreatDoor in
theorem jf17 : ((Rows.txnChecksRow.wideKeys == (Tryz.f4.params.toList ++ Rows.txnChecksSpec.plain.varTypes Tryz.prog ++ Tryz.f4.resultTypes.toList).any (Tryz.prog.wideKeysFrom ·))) = true := by kernel_rfl
open Go.Proofs.YtmflphfmefakfaaGreatDoor in
theorem jf18 : (Rows.txnChecksSpec.vars.all (Tryz.prog.varReadable ·)) = true := by kernel_rfl
open Go.Proofs.YtmflphfmefakfaaGreatDoor in
theorem jf19 : (Tryz.f4.resultTypes.all (fun t => Tryz.prog.readableRec t && decide (t < Tryz.prog.types.size))) = true := by kernel_rfl
open Go.Proofs.YtmflphfmefakfaaGreatDoor in
theorem jf20 : ((Rows.txnChecksRow.ifacesOut == Tryz.f4.resultTypes.toList.any (Tryz.prog.ifacesRec ·))) = true := by kernel_rfl
open Go.Proofs.YtmflphfmefakfaaGreatDoor in
theorem jf21 : ((Rows.txnChecksRow.loopsOut == Tryz.f4.resultTypes.toList.any (Tryz.prog.loopsFrom ·))) = true := by kernel_rfl
open Go.Proofs.YtmflphfmefakfaaGreatDoor in
theorem jf22 : ((Rows.txnChecksRow.plainKeys == Tryz.prog.plainKeys)) = true := by kernel_rfl
open Go.Proofs.YtmflphfmefakfaaGreatDoor in
theorem jf23 : (Rows.txnChecksRow.shortTexts.isNone) = true := by kernel_rfl
open Go.Proofs.YtmflphfmefakfaaGreatDoor in
theorem jf24 : (Tryz.prog.stopsHeard) = true := by kernel_rfl
open Go.Proofs.YtmflphfmefakfaaGreatDoor in
theorem jf25 : (Tryz.prog.mayEnter) = true := by kernel_rfl
open Go.Proofs.YtmflphfmefakfaaGreatDoor in
theorem jf26 : ((Rows.txnChecksRow.lifted == Tryz.prog.liftsFinal)) = true := by kernel_rfl
open Go.Proofs.YtmflphfmefakfaaGreatDoor in
theorem jf27 : ((Tryz.prog.make == some Rows.txnChecksRow.make)) = true := by kernel_rfl
open Go.Proofs.YtmflphfmefakfaaGreatDoor in
theorem jf28 : ((Rows.txnChecksRow.kinds == (if Rows.txnChecksRow.domain.isEmpty then [] else Tryz.f4.params.toList.map fun t => match Tryz.prog.underlying t with | some (.int k) => some k | _ => none))) = true := by kernel_rfl
open Go.Proofs.YtmflphfmefakfaaGreatDoor in
theorem jf29 : ((Rows.txnChecksRow.pinned == Rows.txnChecksRow.pinnedBy)) = true := by kernel_rfl
open Go.Proofs.YtmflphfmefakfaaGreatDoor in
theorem jf30 : ((Rows.txnChecksRow.veiled == (Tryz.f4.params.toList ++ Rows.txnChecksSpec.plain.varTypes Tryz.prog ++ Tryz.f4.resultTypes.toList).any (Tryz.prog.veiledRec ·))) = true := by kernel_rfl
open Go.Proofs.YtmflphfmefakfaaGreatDoor in
theorem jf31 : (Rows.txnChecksRow.veiledFits Tryz.prog Tryz.f4.params.toList (Tryz.f4.params.toList ++ Rows.txnChecksSpec.plain.varTypes Tryz.prog ++ Tryz.f4.resultTypes.toList)) = true := by kernel_rfl
open Go.Proofs.YtmflphfmefakfaaGreatDoor in
theorem closed : joinedFacts Tryz.prog 4 Tryz.f4 Rows.txnChecksSpec Rows.txnChecksRow = true := by
 unfold joinedFacts
 exact and_t (and_t (and_t (and_t (and_t (and_t (and_t (and_t (and_t (and_t (and_t (and_t (and_t (and_t (and_t (and_t (and_t (and_t (and_t (and_t (and_t (and_t (and_t (and_t (and_t (and_t (and_t (and_t (and_t (and_t (and_t (jf0) jf1) jf2) jf3) jf4) jf5) jf6) jf7) jf8) jf9) jf10) jf11) jf12) jf13) jf14) jf15) jf16) jf17) jf18) jf19) jf20) jf21) jf22) jf23) jf24) jf25) jf26) jf27) jf28) jf29) jf30) jf31
open Go.Proofs.YtmflphfmefakfaaGreatDoor in
theorem checks_said : Rows.TxnChecksSaid :=
 OpenClaim.holds_of_wide 4 Tryz.f4 rfl rfl rfl rfl rfl rfl rfl ⟨rfl, rfl, rfl, rfl, rfl⟩ rfl rfl rfl rfl rfl (by kernel_rfl) Tryz.func4 closed
  (of_decide_eq_true (by kernel_rfl)) (by unfold Func.isWrapper; first | (rw [if_pos (by decide +kernel)]; kernel_rfl) | (rw [if_neg (by decide +kernel)]; exact ⟨rfl, rfl⟩))
  (fun os started H enc _ => checks_lifted os started H enc)
end Go.Proofs.YtmflphfmefakfaaGreatDoor.Av
