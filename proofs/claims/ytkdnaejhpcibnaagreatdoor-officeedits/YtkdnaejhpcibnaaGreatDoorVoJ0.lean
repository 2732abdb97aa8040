/- A part of the proofs of laws of the chapter office: an evaluator of the program, proved sound, and what it says. -/
import Derived.Test.YtkdnaejhpcibnaaGreatDoorRows
import Derived.Test.YtkdnaejhpcibnaaGreatDoorTie
import Derived.Test.YtkdnaejhpcibnaaGreatDoorCards
import Derived.ChangeSame
import Derived.ChangeVars
import Derived.JoinedOf
import Derived.LaidLaws
import Derived.Lay
import Derived.MakeChecks
import Derived.Stop.Joined
import Derived.SevenTiedAt
set_option linter.unusedVariables false
set_option linter.unusedSimpArgs false
namespace Go.Proofs.YtkdnaejhpcibnaaGreatDoor.Av
open Go Go.Proofs
set_option maxRecDepth 100000
theorem and_t_ed {a b : Bool} (h : a = true) (k : b = true) : (a && b) = true:=by rw [h,k]; rfl
open Go.Proofs.YtkdnaejhpcibnaaGreatDoor in
theorem jf0_ed : (Rows.officeEditsRow.wf (OpenSpec.ofChange Rows.officeEditsSpec)) = true:=by kernel_rfl
open Go.Proofs.YtkdnaejhpcibnaaGreatDoor in
theorem jf1_ed : (laidOutB Tryz.prog) = true:=by kernel_rfl
open Go.Proofs.YtkdnaejhpcibnaaGreatDoor in
theorem jf2_ed : (mapsRowed Tryz.prog) = true:=by kernel_rfl
open Go.Proofs.YtkdnaejhpcibnaaGreatDoor in
theorem jf3_ed : (Tryz.f3.params.all (Tryz.prog.readableRec ·)) = true:=by kernel_rfl
open Go.Proofs.YtkdnaejhpcibnaaGreatDoor in
theorem jf4_ed : (namedTie Tryz.prog Rows.officeEditsRow.named Rows.officeEditsSpec.vars) = true:=by kernel_rfl
open Go.Proofs.YtkdnaejhpcibnaaGreatDoor in
theorem jf5_ed : ((Rows.officeEditsRow.stops == [])) = true:=by kernel_rfl
open Go.Proofs.YtkdnaejhpcibnaaGreatDoor in
theorem jf6_ed : ((Tryz.prog.stops == [])) = true:=by kernel_rfl
open Go.Proofs.YtkdnaejhpcibnaaGreatDoor in
theorem jf7_ed : ((Rows.officeEditsRow.knobs == [])) = true:=by kernel_rfl
open Go.Proofs.YtkdnaejhpcibnaaGreatDoor in
theorem jf8_ed : ((Tryz.prog.stopKnobs == [])) = true:=by kernel_rfl
open Go.Proofs.YtkdnaejhpcibnaaGreatDoor in
theorem jf9_ed : ((Rows.officeEditsRow.inPlace == Tryz.prog.inPlace 3)) = true:=by kernel_rfl
open Go.Proofs.YtkdnaejhpcibnaaGreatDoor in
theorem jf10_ed : ((Rows.officeEditsRow.unfollowed == Tryz.prog.unfollowed 3)) = true:=by kernel_rfl
open Go.Proofs.YtkdnaejhpcibnaaGreatDoor in
theorem jf11_ed : ((Rows.officeEditsRow.recurses == Tryz.prog.recurses 3)) = true:=by kernel_rfl
open Go.Proofs.YtkdnaejhpcibnaaGreatDoor in
theorem jf12_ed : ((Rows.officeEditsRow.named == Tryz.prog.varsNamed 3)) = true:=by kernel_rfl
open Go.Proofs.YtkdnaejhpcibnaaGreatDoor in
theorem jf13_ed : ((Rows.officeEditsRow.maps == (Tryz.f3.params.toList ++ Rows.officeEditsSpec.plain.varTypes Tryz.prog).any (Tryz.prog.mapsRec ·))) = true:=by kernel_rfl
open Go.Proofs.YtkdnaejhpcibnaaGreatDoor in
theorem jf14_ed : ((Rows.officeEditsRow.ifaces == (Tryz.f3.params.toList ++ Rows.officeEditsSpec.plain.varTypes Tryz.prog).any (Tryz.prog.ifacesRec ·))) = true:=by kernel_rfl
open Go.Proofs.YtkdnaejhpcibnaaGreatDoor in
theorem jf15_ed : ((Rows.officeEditsRow.mapsOut == Tryz.prog.mapsAmong Tryz.f3.resultTypes.toList)) = true:=by kernel_rfl
open Go.Proofs.YtkdnaejhpcibnaaGreatDoor in
theorem jf16_ed : ((Rows.officeEditsRow.loops == (Tryz.f3.params.toList ++ Rows.officeEditsSpec.plain.varTypes Tryz.prog).any (Tryz.prog.loopsFrom ·))) = true:=by kernel_rfl
open Go.Proofs.YtkdnaejhpcibnaaGreatDoor in
theorem jf17_ed : ((Rows.officeEditsRow.wideKeys == (Tryz.f3.params.toList ++ Rows.officeEditsSpec.plain.varTypes Tryz.prog ++ Tryz.f3.resultTypes.toList).any (Tryz.prog.wideKeysFrom ·))) = true:=by kernel_rfl
open Go.Proofs.YtkdnaejhpcibnaaGreatDoor in
theorem jf18_ed : (Rows.officeEditsSpec.vars.all (Tryz.prog.varReadable ·)) = true:=by kernel_rfl
open Go.Proofs.YtkdnaejhpcibnaaGreatDoor in
theorem jf19_ed : (Tryz.f3.resultTypes.all (fun t => Tryz.prog.readableRec t && decide (t < Tryz.prog.types.size))) = true:=by kernel_rfl
open Go.Proofs.YtkdnaejhpcibnaaGreatDoor in
theorem jf20_ed : ((Rows.officeEditsRow.ifacesOut == Tryz.f3.resultTypes.toList.any (Tryz.prog.ifacesRec ·))) = true:=by kernel_rfl
open Go.Proofs.YtkdnaejhpcibnaaGreatDoor in
theorem jf21_ed : ((Rows.officeEditsRow.loopsOut == Tryz.f3.resultTypes.toList.any (Tryz.prog.loopsFrom ·))) = true:=by kernel_rfl
open Go.Proofs.YtkdnaejhpcibnaaGreatDoor in
theorem jf22_ed : ((Rows.officeEditsRow.plainKeys == Tryz.prog.plainKeys)) = true:=by kernel_rfl
open Go.Proofs.YtkdnaejhpcibnaaGreatDoor in
theorem jf23_ed : (Rows.officeEditsRow.shortTexts.isNone) = true:=by kernel_rfl
open Go.Proofs.YtkdnaejhpcibnaaGreatDoor in
theorem jf24_ed : (Tryz.prog.stopsHeard) = true:=by kernel_rfl
open Go.Proofs.YtkdnaejhpcibnaaGreatDoor in
theorem jf25_ed : (Tryz.prog.mayEnter) = true:=by kernel_rfl
open Go.Proofs.YtkdnaejhpcibnaaGreatDoor in
theorem jf26_ed : ((Rows.officeEditsRow.lifted == Tryz.prog.liftsFinal)) = true:=by kernel_rfl
open Go.Proofs.YtkdnaejhpcibnaaGreatDoor in
theorem jf27_ed : ((Tryz.prog.make == some Rows.officeEditsRow.make)) = true:=by kernel_rfl
open Go.Proofs.YtkdnaejhpcibnaaGreatDoor in
theorem jf28_ed : ((Rows.officeEditsRow.kinds == (if Rows.officeEditsRow.domain.isEmpty then [] else Tryz.f3.params.toList.map fun t => match Tryz.prog.underlying t with | some (.int k) => some k | _ => none))) = true:=by kernel_rfl
open Go.Proofs.YtkdnaejhpcibnaaGreatDoor in
theorem jf29_ed : ((Rows.officeEditsRow.pinned == Rows.officeEditsRow.pinnedBy)) = true:=by kernel_rfl
open Go.Proofs.YtkdnaejhpcibnaaGreatDoor in
theorem jf30_ed : ((Rows.officeEditsRow.veiled == (Tryz.f3.params.toList ++ Rows.officeEditsSpec.plain.varTypes Tryz.prog ++ Tryz.f3.resultTypes.toList).any (Tryz.prog.veiledRec ·))) = true:=by kernel_rfl
open Go.Proofs.YtkdnaejhpcibnaaGreatDoor in
theorem jf31_ed : (Rows.officeEditsRow.veiledFits Tryz.prog Tryz.f3.params.toList (Tryz.f3.params.toList ++ Rows.officeEditsSpec.plain.varTypes Tryz.prog ++ Tryz.f3.resultTypes.toList)) = true:=by kernel_rfl
open Go.Proofs.YtkdnaejhpcibnaaGreatDoor in
theorem closed_ed : joinedFacts Tryz.prog 3 Tryz.f3 Rows.officeEditsSpec Rows.officeEditsRow = true:=by
 unfold joinedFacts
 exact and_t_ed (and_t_ed (and_t_ed (and_t_ed (and_t_ed (and_t_ed (and_t_ed (and_t_ed (and_t_ed (and_t_ed (and_t_ed (and_t_ed (and_t_ed (and_t_ed (and_t_ed (and_t_ed (and_t_ed (and_t_ed (and_t_ed (and_t_ed (and_t_ed (and_t_ed (and_t_ed (and_t_ed (and_t_ed (and_t_ed (and_t_ed (and_t_ed (and_t_ed (and_t_ed (and_t_ed (jf0_ed) jf1_ed) jf2_ed) jf3_ed) jf4_ed) jf5_ed) jf6_ed) jf7_ed) jf8_ed) jf9_ed) jf10_ed) jf11_ed) jf12_ed) jf13_ed) jf14_ed) jf15_ed) jf16_ed) jf17_ed) jf18_ed) jf19_ed) jf20_ed) jf21_ed) jf22_ed) jf23_ed) jf24_ed) jf25_ed) jf26_ed) jf27_ed) jf28_ed) jf29_ed) jf30_ed) jf31_ed
open Go.Proofs.YtkdnaejhpcibnaaGreatDoor in
theorem kw_ed : Rows.officeEditsRow.wfByText (OpenSpec.ofChange Rows.officeEditsSpec) = true:=by kernel_rfl
theorem km_ed : Tryz.prog.mainIs = some (true, "13ef1da9d887c7b8949677d6daa88fa6b1e024909eb534004b64fd53ef0d4880".toList) := by kernel_rfl
theorem kf_ed : Tryz.prog.funcNamed "mapsheets/mapsheetslaw30.OfficeEdits" = some 3 := by kernel_rfl
theorem kl_ed : false = Tryz.prog.looks []:=by kernel_rfl
theorem ks3_ed : Tryz.prog.wantsStandIn 3 = false:=by kernel_rfl
theorem ks9_ed : Tryz.prog.wantsStandIn 9 = false:=by kernel_rfl
theorem ks24_ed : Tryz.prog.wantsStandIn 24 = false:=by kernel_rfl
theorem ks25_ed : Tryz.prog.wantsStandIn 25 = false:=by kernel_rfl
open Go.Proofs.YtkdnaejhpcibnaaGreatDoor in
theorem kg_ed : false = Rows.officeEditsRow.goesBy Tryz.prog:=by kernel_rfl
end Go.Proofs.YtkdnaejhpcibnaaGreatDoor.Av
