/- A part of the proof of a law. -/
import Derived.Test.YtmcgghedgfkjiaaGreatDoorRows
import Derived.Test.YtmcgghedgfkjiaaGreatDoorTie
import Derived.Test.YtmcgghedgfkjiaaGreatDoorCards
import Derived.ChangeSame
import Derived.ChangeVars
import Derived.JoinedOf
import Derived.LaidLaws
import Derived.Lay
import Derived.MakeChecks
import Derived.Stop.Joined
import Derived.SevenTiedAt
set_option maxRecDepth 100000
set_option maxHeartbeats 4000000
set_option linter.all false
namespace Go.Proofs.YtmcgghedgfkjiaaGreatDoor.Av
open Go
section
open Go.Proofs
theorem cM{a b:Bool}(h:a=true)(k:b=true): (a&&b)=true:=by rw[h,k];rfl
set_option maxHeartbeats 0 in
theorem aJT: joinedFacts Tryz.prog 3 Tryz.f3 Rows.officeConvergesSpec Rows.officeConvergesRow=true:=by
 unfold joinedFacts
 exact cM (cM (cM (cM (cM (cM (cM (cM (cM (cM (cM (cM (cM (cM (cM (cM (cM (cM (cM (cM (cM (cM (cM (cM (cM (cM (cM (cM (cM (cM (cM (by kernel_rfl) (by kernel_rfl)) (by kernel_rfl)) (by kernel_rfl)) (by kernel_rfl)) (by kernel_rfl)) (by kernel_rfl)) (by kernel_rfl)) (by kernel_rfl)) (by kernel_rfl)) (by kernel_rfl)) (by kernel_rfl)) (by kernel_rfl)) (by kernel_rfl)) (by kernel_rfl)) (by kernel_rfl)) (by kernel_rfl)) (by kernel_rfl)) (by kernel_rfl)) (by kernel_rfl)) (by kernel_rfl)) (by kernel_rfl)) (by kernel_rfl)) (by kernel_rfl)) (by kernel_rfl)) (by kernel_rfl)) (by kernel_rfl)) (by kernel_rfl)) (by kernel_rfl)) (by kernel_rfl)) (by kernel_rfl)) (by kernel_rfl)
theorem aU6: Rows.officeConvergesRow.wfByText (OpenSpec.ofChange Rows.officeConvergesSpec)=true:=by kernel_rfl
theorem aU7: Tryz.prog.mainIs=some (true,"451d81400f80a4f832c83695bab2ea4e8798ef44fb34a86d3cb7aa3e7be56805".toList):=by kernel_rfl
theorem aUA: Tryz.prog.funcNamed "mapsheets/mapsheetslaw30.OfficeConverges"=some 3:=by kernel_rfl
theorem aU8: false=Tryz.prog.looks []:=by kernel_rfl
theorem aIi: Tryz.prog.wantsStandIn 22=false:=by kernel_rfl
theorem aIh: Tryz.prog.wantsStandIn 24=false:=by kernel_rfl
theorem aU9: false=Rows.officeConvergesRow.goesBy Tryz.prog:=by kernel_rfl
end
end Go.Proofs.YtmcgghedgfkjiaaGreatDoor.Av
