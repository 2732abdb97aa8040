/- A part of the proof of a law on transactions. -/
import Derived.Test.YtglfoebmkbglgaaGreatDoorRows
import Derived.Test.YtglfoebmkbglgaaGreatDoorTie
import Derived.Test.YtglfoebmkbglgaaGreatDoorCards
import Derived.ChangeSame
import Derived.ChangeVars
import Derived.JoinedOf
import Derived.LaidLaws
import Derived.Lay
import Derived.MakeChecks
import Derived.Stop.Joined
import Derived.SevenTiedAt
set_option maxRecDepth 100000
set_option maxHeartbeats 4000000
set_option linter.all false
namespace Go.Proofs.YtglfoebmkbglgaaGreatDoor.Av
open Go
section
open Go.Proofs
theorem cL{a b:Bool}(h:a=true)(k:b=true): (a&&b)=true:=by rw[h,k];rfl
set_option maxHeartbeats 0 in
theorem aJf: joinedFacts Tryz.prog 3 Tryz.f3 Rows.txnWholeSpec Rows.txnWholeRow=true:=by
 unfold joinedFacts
 exact cL (cL (cL (cL (cL (cL (cL (cL (cL (cL (cL (cL (cL (cL (cL (cL (cL (cL (cL (cL (cL (cL (cL (cL (cL (cL (cL (cL (cL (cL (cL (by kernel_rfl) (by kernel_rfl)) (by kernel_rfl)) (by kernel_rfl)) (by kernel_rfl)) (by kernel_rfl)) (by kernel_rfl)) (by kernel_rfl)) (by kernel_rfl)) (by kernel_rfl)) (by kernel_rfl)) (by kernel_rfl)) (by kernel_rfl)) (by kernel_rfl)) (by kernel_rfl)) (by kernel_rfl)) (by kernel_rfl)) (by kernel_rfl)) (by kernel_rfl)) (by kernel_rfl)) (by kernel_rfl)) (by kernel_rfl)) (by kernel_rfl)) (by kernel_rfl)) (by kernel_rfl)) (by kernel_rfl)) (by kernel_rfl)) (by kernel_rfl)) (by kernel_rfl)) (by kernel_rfl)) (by kernel_rfl)) (by kernel_rfl)
theorem aTw: Rows.txnWholeRow.wfByText (OpenSpec.ofChange Rows.txnWholeSpec)=true:=by kernel_rfl
theorem aTx: Tryz.prog.mainIs=some (true,"5f2e44b848a283ad6590559d892537b2f394330b1648daa94e42d46b75f41e2f".toList):=by kernel_rfl
theorem aT0: Tryz.prog.funcNamed "mapsheets/mapsheetslaw23.TxnWhole"=some 3:=by kernel_rfl
theorem aTy: false=Tryz.prog.looks []:=by kernel_rfl
theorem aNS: Tryz.prog.wantsStandIn 32=false:=by kernel_rfl
theorem aNR: Tryz.prog.wantsStandIn 35=false:=by kernel_rfl
theorem aTz: false=Rows.txnWholeRow.goesBy Tryz.prog:=by kernel_rfl
end
end Go.Proofs.YtglfoebmkbglgaaGreatDoor.Av
