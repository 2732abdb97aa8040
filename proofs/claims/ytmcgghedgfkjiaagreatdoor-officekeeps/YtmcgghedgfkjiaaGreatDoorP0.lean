/- A part of the proof of a law. -/
import Derived.Test.YtmcgghedgfkjiaaGreatDoorRows
import Derived.Test.YtmcgghedgfkjiaaGreatDoorTie
import Derived.Test.YtmcgghedgfkjiaaGreatDoorCards
import Derived.ChangeSame
import Derived.ChangeVars
import Derived.JoinedOf
import Derived.LaidLaws
import Derived.Lay
import Derived.MakeChecks
import Derived.Stop.Joined
import Derived.SevenTiedAt
set_option maxRecDepth 100000
set_option maxHeartbeats 4000000
set_option linter.all false
namespace Go.Proofs.YtmcgghedgfkjiaaGreatDoor.Av
open Go
section
open Go.Proofs
theorem cK{a b:Bool}(h:a=true)(k:b=true): (a&&b)=true:=by rw[h,k];rfl
set_option maxHeartbeats 0 in
theorem aJH: joinedFacts Tryz.prog 4 Tryz.f4 Rows.officeKeepsSpec Rows.officeKeepsRow=true:=by
 unfold joinedFacts
 exact cK (cK (cK (cK (cK (cK (cK (cK (cK (cK (cK (cK (cK (cK (cK (cK (cK (cK (cK (cK (cK (cK (cK (cK (cK (cK (cK (cK (cK (cK (cK (by kernel_rfl) (by kernel_rfl)) (by kernel_rfl)) (by kernel_rfl)) (by kernel_rfl)) (by kernel_rfl)) (by kernel_rfl)) (by kernel_rfl)) (by kernel_rfl)) (by kernel_rfl)) (by kernel_rfl)) (by kernel_rfl)) (by kernel_rfl)) (by kernel_rfl)) (by kernel_rfl)) (by kernel_rfl)) (by kernel_rfl)) (by kernel_rfl)) (by kernel_rfl)) (by kernel_rfl)) (by kernel_rfl)) (by kernel_rfl)) (by kernel_rfl)) (by kernel_rfl)) (by kernel_rfl)) (by kernel_rfl)) (by kernel_rfl)) (by kernel_rfl)) (by kernel_rfl)) (by kernel_rfl)) (by kernel_rfl)) (by kernel_rfl)
theorem aUq: Rows.officeKeepsRow.wfByText (OpenSpec.ofChange Rows.officeKeepsSpec)=true:=by kernel_rfl
theorem aUr: Tryz.prog.mainIs=some (true,"451d81400f80a4f832c83695bab2ea4e8798ef44fb34a86d3cb7aa3e7be56805".toList):=by kernel_rfl
theorem aUu: Tryz.prog.funcNamed "mapsheets/mapsheetslaw30.OfficeKeeps"=some 4:=by kernel_rfl
theorem aUs: false=Tryz.prog.looks []:=by kernel_rfl
theorem aO5: Tryz.prog.wantsStandIn 24=false:=by kernel_rfl
theorem aUt: false=Rows.officeKeepsRow.goesBy Tryz.prog:=by kernel_rfl
end
end Go.Proofs.YtmcgghedgfkjiaaGreatDoor.Av
