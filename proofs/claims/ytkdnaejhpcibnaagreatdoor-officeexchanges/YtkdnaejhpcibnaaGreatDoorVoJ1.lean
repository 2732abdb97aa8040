/- A part of the proofs of laws of the chapter office: an evaluator of the program, proved sound, and what it says. -/
import Derived.Test.YtkdnaejhpcibnaaGreatDoorRows
import Derived.Test.YtkdnaejhpcibnaaGreatDoorTie
import Derived.Test.YtkdnaejhpcibnaaGreatDoorCards
import Derived.ChangeSame
import Derived.ChangeVars
import Derived.JoinedOf
import Derived.LaidLaws
import Derived.Lay
import Derived.MakeChecks
import Derived.Stop.Joined
import Derived.SevenTiedAt
set_option linter.unusedVariables false
set_option linter.unusedSimpArgs false
namespace Go.Proofs.YtkdnaejhpcibnaaGreatDoor.Av
open Go Go.Proofs
set_option maxRecDepth 100000
theorem lN {a b : Bool} (h : a = true) (k : b = true) : (a && b) = true:=by rw [h,k]; rfl
open Go.Proofs.YtkdnaejhpcibnaaGreatDoor in
theorem aW8 : (Rows.officeExchangesRow.wf (OpenSpec.ofChange Rows.officeExchangesSpec)) = true:=by kernel_rfl
open Go.Proofs.YtkdnaejhpcibnaaGreatDoor in
theorem aW7 : (laidOutB Tryz.prog) = true:=by kernel_rfl
open Go.Proofs.YtkdnaejhpcibnaaGreatDoor in
theorem aW6 : (mapsRowed Tryz.prog) = true:=by kernel_rfl
open Go.Proofs.YtkdnaejhpcibnaaGreatDoor in
theorem aW5 : (Tryz.f4.params.all (Tryz.prog.readableRec ·)) = true:=by kernel_rfl
open Go.Proofs.YtkdnaejhpcibnaaGreatDoor in
theorem aW4 : (namedTie Tryz.prog Rows.officeExchangesRow.named Rows.officeExchangesSpec.vars) = true:=by kernel_rfl
open Go.Proofs.YtkdnaejhpcibnaaGreatDoor in
theorem aW3 : ((Rows.officeExchangesRow.stops == [])) = true:=by kernel_rfl
open Go.Proofs.YtkdnaejhpcibnaaGreatDoor in
theorem aW2 : ((Tryz.prog.stops == [])) = true:=by kernel_rfl
open Go.Proofs.YtkdnaejhpcibnaaGreatDoor in
theorem aW1 : ((Rows.officeExchangesRow.knobs == [])) = true:=by kernel_rfl
open Go.Proofs.YtkdnaejhpcibnaaGreatDoor in
theorem aW0 : ((Tryz.prog.stopKnobs == [])) = true:=by kernel_rfl
open Go.Proofs.YtkdnaejhpcibnaaGreatDoor in
theorem aWz : ((Rows.officeExchangesRow.inPlace == Tryz.prog.inPlace 4)) = true:=by kernel_rfl
open Go.Proofs.YtkdnaejhpcibnaaGreatDoor in
theorem aVe : ((Rows.officeExchangesRow.unfollowed == Tryz.prog.unfollowed 4)) = true:=by kernel_rfl
open Go.Proofs.YtkdnaejhpcibnaaGreatDoor in
theorem aVd : ((Rows.officeExchangesRow.recurses == Tryz.prog.recurses 4)) = true:=by kernel_rfl
open Go.Proofs.YtkdnaejhpcibnaaGreatDoor in
theorem aVc : ((Rows.officeExchangesRow.named == Tryz.prog.varsNamed 4)) = true:=by kernel_rfl
open Go.Proofs.YtkdnaejhpcibnaaGreatDoor in
theorem aVb : ((Rows.officeExchangesRow.maps == (Tryz.f4.params.toList ++ Rows.officeExchangesSpec.plain.varTypes Tryz.prog).any (Tryz.prog.mapsRec ·))) = true:=by kernel_rfl
open Go.Proofs.YtkdnaejhpcibnaaGreatDoor in
theorem aVa : ((Rows.officeExchangesRow.ifaces == (Tryz.f4.params.toList ++ Rows.officeExchangesSpec.plain.varTypes Tryz.prog).any (Tryz.prog.ifacesRec ·))) = true:=by kernel_rfl
open Go.Proofs.YtkdnaejhpcibnaaGreatDoor in
theorem aU9 : ((Rows.officeExchangesRow.mapsOut == Tryz.prog.mapsAmong Tryz.f4.resultTypes.toList)) = true:=by kernel_rfl
open Go.Proofs.YtkdnaejhpcibnaaGreatDoor in
theorem aU8 : ((Rows.officeExchangesRow.loops == (Tryz.f4.params.toList ++ Rows.officeExchangesSpec.plain.varTypes Tryz.prog).any (Tryz.prog.loopsFrom ·))) = true:=by kernel_rfl
open Go.Proofs.YtkdnaejhpcibnaaGreatDoor in
theorem aU7 : ((Rows.officeExchangesRow.wideKeys == (Tryz.f4.params.toList ++ Rows.officeExchangesSpec.plain.varTypes Tryz.prog ++ Tryz.f4.resultTypes.toList).any (Tryz.prog.wideKeysFrom ·))) = true:=by kernel_rfl
open Go.Proofs.YtkdnaejhpcibnaaGreatDoor in
theorem aU6 : (Rows.officeExchangesSpec.vars.all (Tryz.prog.varReadable ·)) = true:=by kernel_rfl
open Go.Proofs.YtkdnaejhpcibnaaGreatDoor in
theorem aU5 : (Tryz.f4.resultTypes.all (fun t => Tryz.prog.readableRec t && decide (t < Tryz.prog.types.size))) = true:=by kernel_rfl
open Go.Proofs.YtkdnaejhpcibnaaGreatDoor in
theorem aU4 : ((Rows.officeExchangesRow.ifacesOut == Tryz.f4.resultTypes.toList.any (Tryz.prog.ifacesRec ·))) = true:=by kernel_rfl
open Go.Proofs.YtkdnaejhpcibnaaGreatDoor in
theorem aU3 : ((Rows.officeExchangesRow.loopsOut == Tryz.f4.resultTypes.toList.any (Tryz.prog.loopsFrom ·))) = true:=by kernel_rfl
open Go.Proofs.YtkdnaejhpcibnaaGreatDoor in
theorem aU2 : ((Rows.officeExchangesRow.plainKeys == Tryz.prog.plainKeys)) = true:=by kernel_rfl
open Go.Proofs.YtkdnaejhpcibnaaGreatDoor in
theorem aU1 : (Rows.officeExchangesRow.shortTexts.isNone) = true:=by kernel_rfl
open Go.Proofs.YtkdnaejhpcibnaaGreatDoor in
theorem aU0 : (Tryz.prog.stopsHeard) = true:=by kernel_rfl
open Go.Proofs.YtkdnaejhpcibnaaGreatDoor in
theorem aUz : (Tryz.prog.mayEnter) = true:=by kernel_rfl
open Go.Proofs.YtkdnaejhpcibnaaGreatDoor in
theorem aUy : ((Rows.officeExchangesRow.lifted == Tryz.prog.liftsFinal)) = true:=by kernel_rfl
open Go.Proofs.YtkdnaejhpcibnaaGreatDoor in
theorem aUx : ((Tryz.prog.make == some Rows.officeExchangesRow.make)) = true:=by kernel_rfl
open Go.Proofs.YtkdnaejhpcibnaaGreatDoor in
theorem aUw : ((Rows.officeExchangesRow.kinds == (if Rows.officeExchangesRow.domain.isEmpty then [] else Tryz.f4.params.toList.map fun t => match Tryz.prog.underlying t with | some (.int k) => some k | _ => none))) = true:=by kernel_rfl
open Go.Proofs.YtkdnaejhpcibnaaGreatDoor in
theorem aUv : ((Rows.officeExchangesRow.pinned == Rows.officeExchangesRow.pinnedBy)) = true:=by kernel_rfl
open Go.Proofs.YtkdnaejhpcibnaaGreatDoor in
theorem aUu : ((Rows.officeExchangesRow.veiled == (Tryz.f4.params.toList ++ Rows.officeExchangesSpec.plain.varTypes Tryz.prog ++ Tryz.f4.resultTypes.toList).any (Tryz.prog.veiledRec ·))) = true:=by kernel_rfl
open Go.Proofs.YtkdnaejhpcibnaaGreatDoor in
theorem aUt : (Rows.officeExchangesRow.veiledFits Tryz.prog Tryz.f4.params.toList (Tryz.f4.params.toList ++ Rows.officeExchangesSpec.plain.varTypes Tryz.prog ++ Tryz.f4.resultTypes.toList)) = true:=by kernel_rfl
open Go.Proofs.YtkdnaejhpcibnaaGreatDoor in
theorem aPm : joinedFacts Tryz.prog 4 Tryz.f4 Rows.officeExchangesSpec Rows.officeExchangesRow = true:=by
 unfold joinedFacts
 exact lN (lN (lN (lN (lN (lN (lN (lN (lN (lN (lN (lN (lN (lN (lN (lN (lN (lN (lN (lN (lN (lN (lN (lN (lN (lN (lN (lN (lN (lN (lN (aW8) aW7) aW6) aW5) aW4) aW3) aW2) aW1) aW0) aWz) aVe) aVd) aVc) aVb) aVa) aU9) aU8) aU7) aU6) aU5) aU4) aU3) aU2) aU1) aU0) aUz) aUy) aUx) aUw) aUv) aUu) aUt
open Go.Proofs.YtkdnaejhpcibnaaGreatDoor in
theorem bDo : Rows.officeExchangesRow.wfByText (OpenSpec.ofChange Rows.officeExchangesSpec) = true:=by kernel_rfl
theorem bDp : Tryz.prog.mainIs = some (true, "13ef1da9d887c7b8949677d6daa88fa6b1e024909eb534004b64fd53ef0d4880".toList) := by kernel_rfl
theorem kf_ex : Tryz.prog.funcNamed "mapsheets/mapsheetslaw30.OfficeExchanges" = some 4 := by kernel_rfl
theorem bDq : false = Tryz.prog.looks []:=by kernel_rfl
theorem aUo : Tryz.prog.wantsStandIn 22 = false:=by kernel_rfl
theorem aUn : Tryz.prog.wantsStandIn 24 = false:=by kernel_rfl
theorem aUm : Tryz.prog.wantsStandIn 37 = false:=by kernel_rfl
open Go.Proofs.YtkdnaejhpcibnaaGreatDoor in
theorem bDr : false = Rows.officeExchangesRow.goesBy Tryz.prog:=by kernel_rfl
end Go.Proofs.YtkdnaejhpcibnaaGreatDoor.Av
