/- A part of the proof of a law. -/
import Derived.Test.YthadajkojciapaaGreatDoorRows
import Derived.Test.YthadajkojciapaaGreatDoorTie
import Derived.Test.YthadajkojciapaaGreatDoorCards
import Derived.ChangeSame
import Derived.ChangeVars
import Derived.JoinedOf
import Derived.LaidLaws
import Derived.Lay
import Derived.MakeChecks
import Derived.Stop.Joined
import Derived.SevenTiedAt
set_option maxRecDepth 100000
set_option maxHeartbeats 4000000
set_option linter.all false
namespace Go.Proofs.YthadajkojciapaaGreatDoor.Av
open Go
section
open Go.Proofs
theorem bS{a b:Bool}(h:a=true)(k:b=true): (a&&b)=true:=by rw[h,k];rfl
set_option maxHeartbeats 0 in
theorem PT: joinedFacts Tryz.prog 4 Tryz.f4 Rows.codecReadsTxnSpec Rows.codecReadsTxnRow=true:=by
 unfold joinedFacts
 exact bS (bS (bS (bS (bS (bS (bS (bS (bS (bS (bS (bS (bS (bS (bS (bS (bS (bS (bS (bS (bS (bS (bS (bS (bS (bS (bS (bS (bS (bS (bS (by kernel_rfl) (by kernel_rfl)) (by kernel_rfl)) (by kernel_rfl)) (by kernel_rfl)) (by kernel_rfl)) (by kernel_rfl)) (by kernel_rfl)) (by kernel_rfl)) (by kernel_rfl)) (by kernel_rfl)) (by kernel_rfl)) (by kernel_rfl)) (by kernel_rfl)) (by kernel_rfl)) (by kernel_rfl)) (by kernel_rfl)) (by kernel_rfl)) (by kernel_rfl)) (by kernel_rfl)) (by kernel_rfl)) (by kernel_rfl)) (by kernel_rfl)) (by kernel_rfl)) (by kernel_rfl)) (by kernel_rfl)) (by kernel_rfl)) (by kernel_rfl)) (by kernel_rfl)) (by kernel_rfl)) (by kernel_rfl)) (by kernel_rfl)
theorem aBa: Rows.codecReadsTxnRow.wfByText (OpenSpec.ofChange Rows.codecReadsTxnSpec)=true:=by kernel_rfl
theorem aBb: Tryz.prog.mainIs=some (true,"b2f529f39ffebf23ec139143c71f3fb2078551bd6edc59e6f80363d6e67fb306".toList):=by kernel_rfl
theorem aBe: Tryz.prog.funcNamed "mapsheets/mapsheetslaw22.CodecReadsTxn"=some 4:=by kernel_rfl
theorem aBc: true=Tryz.prog.looks []:=by kernel_rfl
theorem o9: Tryz.prog.wantsStandIn 27=false:=by kernel_rfl
theorem aBd: false=Rows.codecReadsTxnRow.goesBy Tryz.prog:=by kernel_rfl
end
end Go.Proofs.YthadajkojciapaaGreatDoor.Av
