/- A part of the proof of a law on transactions. -/
import Derived.Test.YtglfoebmkbglgaaGreatDoorRows
import Derived.Test.YtglfoebmkbglgaaGreatDoorTie
import Derived.Test.YtglfoebmkbglgaaGreatDoorCards
import Derived.ChangeSame
import Derived.ChangeVars
import Derived.JoinedOf
import Derived.LaidLaws
import Derived.Lay
import Derived.MakeChecks
import Derived.Stop.Joined
import Derived.SevenTiedAt
set_option maxRecDepth 100000
set_option maxHeartbeats 4000000
set_option linter.all false
namespace Go.Proofs.YtglfoebmkbglgaaGreatDoor.Av
open Go
section
open Go.Proofs
theorem cL{a b:Bool}(h:a=true)(k:b=true): (a&&b)=true:=by rw[h,k];rfl
set_option maxHeartbeats 0 in
theorem aJu: joinedFacts Tryz.prog 4 Tryz.f4 Rows.txnEachSpec Rows.txnEachRow=true:=by
 unfold joinedFacts
 exact cL (cL (cL (cL (cL (cL (cL (cL (cL (cL (cL (cL (cL (cL (cL (cL (cL (cL (cL (cL (cL (cL (cL (cL (cL (cL (cL (cL (cL (cL (cL (by kernel_rfl) (by kernel_rfl)) (by kernel_rfl)) (by kernel_rfl)) (by kernel_rfl)) (by kernel_rfl)) (by kernel_rfl)) (by kernel_rfl)) (by kernel_rfl)) (by kernel_rfl)) (by kernel_rfl)) (by kernel_rfl)) (by kernel_rfl)) (by kernel_rfl)) (by kernel_rfl)) (by kernel_rfl)) (by kernel_rfl)) (by kernel_rfl)) (by kernel_rfl)) (by kernel_rfl)) (by kernel_rfl)) (by kernel_rfl)) (by kernel_rfl)) (by kernel_rfl)) (by kernel_rfl)) (by kernel_rfl)) (by kernel_rfl)) (by kernel_rfl)) (by kernel_rfl)) (by kernel_rfl)) (by kernel_rfl)) (by kernel_rfl)
theorem aTN: Rows.txnEachRow.wfByText (OpenSpec.ofChange Rows.txnEachSpec)=true:=by kernel_rfl
theorem aTO: Tryz.prog.mainIs=some (true,"5f2e44b848a283ad6590559d892537b2f394330b1648daa94e42d46b75f41e2f".toList):=by kernel_rfl
theorem aTR: Tryz.prog.funcNamed "mapsheets/mapsheetslaw23.TxnEach"=some 4:=by kernel_rfl
theorem aTP: false=Tryz.prog.looks []:=by kernel_rfl
theorem aOl: Tryz.prog.wantsStandIn 32=false:=by kernel_rfl
theorem aTQ: false=Rows.txnEachRow.goesBy Tryz.prog:=by kernel_rfl
end
end Go.Proofs.YtglfoebmkbglgaaGreatDoor.Av
