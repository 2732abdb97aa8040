/- A part of the proofs of laws of the chapter office: an evaluator of the program, proved sound, and what it says. -/
import Derived.Test.YtkdnaejhpcibnaaGreatDoorRows
import Derived.Test.YtkdnaejhpcibnaaGreatDoorTie
import Derived.Test.YtkdnaejhpcibnaaGreatDoorCards
import Derived.ChangeSame
import Derived.ChangeVars
import Derived.JoinedOf
import Derived.LaidLaws
import Derived.Lay
import Derived.MakeChecks
import Derived.Stop.Joined
import Derived.SevenTiedAt
set_option linter.unusedVariables false
set_option linter.unusedSimpArgs false
namespace Go.Proofs.YtkdnaejhpcibnaaGreatDoor.Av
open Go Go.Proofs
set_option maxRecDepth 100000
theorem and_t_me {a b : Bool} (h : a = true) (k : b = true) : (a && b) = true:=by rw [h,k]; rfl
open Go.Proofs.YtkdnaejhpcibnaaGreatDoor in
theorem jf0_me : (Rows.officeMeetsRow.wf (OpenSpec.ofChange Rows.officeMeetsSpec)) = true:=by kernel_rfl
open Go.Proofs.YtkdnaejhpcibnaaGreatDoor in
theorem jf1_me : (laidOutB Tryz.prog) = true:=by kernel_rfl
open Go.Proofs.YtkdnaejhpcibnaaGreatDoor in
theorem jf2_me : (mapsRowed Tryz.prog) = true:=by kernel_rfl
open Go.Proofs.YtkdnaejhpcibnaaGreatDoor in
theorem jf3_me : (Tryz.f5.params.all (Tryz.prog.readableRec ·)) = true:=by kernel_rfl
open Go.Proofs.YtkdnaejhpcibnaaGreatDoor in
theorem jf4_me : (namedTie Tryz.prog Rows.officeMeetsRow.named Rows.officeMeetsSpec.vars) = true:=by kernel_rfl
open Go.Proofs.YtkdnaejhpcibnaaGreatDoor in
theorem jf5_me : ((Rows.officeMeetsRow.stops == [])) = true:=by kernel_rfl
open Go.Proofs.YtkdnaejhpcibnaaGreatDoor in
theorem jf6_me : ((Tryz.prog.stops == [])) = true:=by kernel_rfl
open Go.Proofs.YtkdnaejhpcibnaaGreatDoor in
theorem jf7_me : ((Rows.officeMeetsRow.knobs == [])) = true:=by kernel_rfl
open Go.Proofs.YtkdnaejhpcibnaaGreatDoor in
theorem jf8_me : ((Tryz.prog.stopKnobs == [])) = true:=by kernel_rfl
open Go.Proofs.YtkdnaejhpcibnaaGreatDoor in
theorem jf9_me : ((Rows.officeMeetsRow.inPlace == Tryz.prog.inPlace 5)) = true:=by kernel_rfl
open Go.Proofs.YtkdnaejhpcibnaaGreatDoor in
theorem jf10_me : ((Rows.officeMeetsRow.unfollowed == Tryz.prog.unfollowed 5)) = true:=by kernel_rfl
open Go.Proofs.YtkdnaejhpcibnaaGreatDoor in
theorem jf11_me : ((Rows.officeMeetsRow.recurses == Tryz.prog.recurses 5)) = true:=by kernel_rfl
open Go.Proofs.YtkdnaejhpcibnaaGreatDoor in
theorem jf12_me : ((Rows.officeMeetsRow.named == Tryz.prog.varsNamed 5)) = true:=by kernel_rfl
open Go.Proofs.YtkdnaejhpcibnaaGreatDoor in
theorem jf13_me : ((Rows.officeMeetsRow.maps == (Tryz.f5.params.toList ++ Rows.officeMeetsSpec.plain.varTypes Tryz.prog).any (Tryz.prog.mapsRec ·))) = true:=by kernel_rfl
open Go.Proofs.YtkdnaejhpcibnaaGreatDoor in
theorem jf14_me : ((Rows.officeMeetsRow.ifaces == (Tryz.f5.params.toList ++ Rows.officeMeetsSpec.plain.varTypes Tryz.prog).any (Tryz.prog.ifacesRec ·))) = true:=by kernel_rfl
open Go.Proofs.YtkdnaejhpcibnaaGreatDoor in
theorem jf15_me : ((Rows.officeMeetsRow.mapsOut == Tryz.prog.mapsAmong Tryz.f5.resultTypes.toList)) = true:=by kernel_rfl
open Go.Proofs.YtkdnaejhpcibnaaGreatDoor in
theorem jf16_me : ((Rows.officeMeetsRow.loops == (Tryz.f5.params.toList ++ Rows.officeMeetsSpec.plain.varTypes Tryz.prog).any (Tryz.prog.loopsFrom ·))) = true:=by kernel_rfl
open Go.Proofs.YtkdnaejhpcibnaaGreatDoor in
theorem jf17_me : ((Rows.officeMeetsRow.wideKeys == (Tryz.f5.params.toList ++ Rows.officeMeetsSpec.plain.varTypes Tryz.prog ++ Tryz.f5.resultTypes.toList).any (Tryz.prog.wideKeysFrom ·))) = true:=by kernel_rfl
open Go.Proofs.YtkdnaejhpcibnaaGreatDoor in
theorem jf18_me : (Rows.officeMeetsSpec.vars.all (Tryz.prog.varReadable ·)) = true:=by kernel_rfl
open Go.Proofs.YtkdnaejhpcibnaaGreatDoor in
theorem jf19_me : (Tryz.f5.resultTypes.all (fun t => Tryz.prog.readableRec t && decide (t < Tryz.prog.types.size))) = true:=by kernel_rfl
open Go.Proofs.YtkdnaejhpcibnaaGreatDoor in
theorem jf20_me : ((Rows.officeMeetsRow.ifacesOut == Tryz.f5.resultTypes.toList.any (Tryz.prog.ifacesRec ·))) = true:=by kernel_rfl
open Go.Proofs.YtkdnaejhpcibnaaGreatDoor in
theorem jf21_me : ((Rows.officeMeetsRow.loopsOut == Tryz.f5.resultTypes.toList.any (Tryz.prog.loopsFrom ·))) = true:=by kernel_rfl
open Go.Proofs.YtkdnaejhpcibnaaGreatDoor in
theorem jf22_me : ((Rows.officeMeetsRow.plainKeys == Tryz.prog.plainKeys)) = true:=by kernel_rfl
open Go.Proofs.YtkdnaejhpcibnaaGreatDoor in
theorem jf23_me : (Rows.officeMeetsRow.shortTexts.isNone) = true:=by kernel_rfl
open Go.Proofs.YtkdnaejhpcibnaaGreatDoor in
theorem jf24_me : (Tryz.prog.stopsHeard) = true:=by kernel_rfl
open Go.Proofs.YtkdnaejhpcibnaaGreatDoor in
theorem jf25_me : (Tryz.prog.mayEnter) = true:=by kernel_rfl
open Go.Proofs.YtkdnaejhpcibnaaGreatDoor in
theorem jf26_me : ((Rows.officeMeetsRow.lifted == Tryz.prog.liftsFinal)) = true:=by kernel_rfl
open Go.Proofs.YtkdnaejhpcibnaaGreatDoor in
theorem jf27_me : ((Tryz.prog.make == some Rows.officeMeetsRow.make)) = true:=by kernel_rfl
open Go.Proofs.YtkdnaejhpcibnaaGreatDoor in
theorem jf28_me : ((Rows.officeMeetsRow.kinds == (if Rows.officeMeetsRow.domain.isEmpty then [] else Tryz.f5.params.toList.map fun t => match Tryz.prog.underlying t with | some (.int k) => some k | _ => none))) = true:=by kernel_rfl
open Go.Proofs.YtkdnaejhpcibnaaGreatDoor in
theorem jf29_me : ((Rows.officeMeetsRow.pinned == Rows.officeMeetsRow.pinnedBy)) = true:=by kernel_rfl
open Go.Proofs.YtkdnaejhpcibnaaGreatDoor in
theorem jf30_me : ((Rows.officeMeetsRow.veiled == (Tryz.f5.params.toList ++ Rows.officeMeetsSpec.plain.varTypes Tryz.prog ++ Tryz.f5.resultTypes.toList).any (Tryz.prog.veiledRec ·))) = true:=by kernel_rfl
open Go.Proofs.YtkdnaejhpcibnaaGreatDoor in
theorem jf31_me : (Rows.officeMeetsRow.veiledFits Tryz.prog Tryz.f5.params.toList (Tryz.f5.params.toList ++ Rows.officeMeetsSpec.plain.varTypes Tryz.prog ++ Tryz.f5.resultTypes.toList)) = true:=by kernel_rfl
open Go.Proofs.YtkdnaejhpcibnaaGreatDoor in
theorem closed_me : joinedFacts Tryz.prog 5 Tryz.f5 Rows.officeMeetsSpec Rows.officeMeetsRow = true:=by
 unfold joinedFacts
 exact and_t_me (and_t_me (and_t_me (and_t_me (and_t_me (and_t_me (and_t_me (and_t_me (and_t_me (and_t_me (and_t_me (and_t_me (and_t_me (and_t_me (and_t_me (and_t_me (and_t_me (and_t_me (and_t_me (and_t_me (and_t_me (and_t_me (and_t_me (and_t_me (and_t_me (and_t_me (and_t_me (and_t_me (and_t_me (and_t_me (and_t_me (jf0_me) jf1_me) jf2_me) jf3_me) jf4_me) jf5_me) jf6_me) jf7_me) jf8_me) jf9_me) jf10_me) jf11_me) jf12_me) jf13_me) jf14_me) jf15_me) jf16_me) jf17_me) jf18_me) jf19_me) jf20_me) jf21_me) jf22_me) jf23_me) jf24_me) jf25_me) jf26_me) jf27_me) jf28_me) jf29_me) jf30_me) jf31_me
open Go.Proofs.YtkdnaejhpcibnaaGreatDoor in
theorem kw_me : Rows.officeMeetsRow.wfByText (OpenSpec.ofChange Rows.officeMeetsSpec) = true:=by kernel_rfl
theorem km_me : Tryz.prog.mainIs = some (true, "13ef1da9d887c7b8949677d6daa88fa6b1e024909eb534004b64fd53ef0d4880".toList) := by kernel_rfl
theorem kf_me : Tryz.prog.funcNamed "mapsheets/mapsheetslaw30.OfficeMeets" = some 5 := by kernel_rfl
theorem kl_me : false = Tryz.prog.looks []:=by kernel_rfl
theorem ks24_me : Tryz.prog.wantsStandIn 24 = false:=by kernel_rfl
open Go.Proofs.YtkdnaejhpcibnaaGreatDoor in
theorem kg_me : false = Rows.officeMeetsRow.goesBy Tryz.prog:=by kernel_rfl
end Go.Proofs.YtkdnaejhpcibnaaGreatDoor.Av
