/- A part of the proof of a law. -/
import Derived.Test.YthadajkojciapaaGreatDoorRows
import Derived.Test.YthadajkojciapaaGreatDoorTie
import Derived.Test.YthadajkojciapaaGreatDoorCards
import Derived.ChangeSame
import Derived.ChangeVars
import Derived.JoinedOf
import Derived.LaidLaws
import Derived.Lay
import Derived.MakeChecks
import Derived.Stop.Joined
import Derived.SevenTiedAt
set_option maxRecDepth 100000
set_option maxHeartbeats 4000000
set_option linter.all false
namespace Go.Proofs.YthadajkojciapaaGreatDoor.Av
open Go
section
open Go.Proofs
theorem and_t_tc{a b:Bool}(h:a=true)(k:b=true): (a&&b)=true:=by rw[h,k];rfl
set_option maxHeartbeats 0 in
theorem closed_tc: joinedFacts Tryz.prog 3 Tryz.f3 Rows.codecTxnsSpec Rows.codecTxnsRow=true:=by
 unfold joinedFacts
 exact and_t_tc (and_t_tc (and_t_tc (and_t_tc (and_t_tc (and_t_tc (and_t_tc (and_t_tc (and_t_tc (and_t_tc (and_t_tc (and_t_tc (and_t_tc (and_t_tc (and_t_tc (and_t_tc (and_t_tc (and_t_tc (and_t_tc (and_t_tc (and_t_tc (and_t_tc (and_t_tc (and_t_tc (and_t_tc (and_t_tc (and_t_tc (and_t_tc (and_t_tc (and_t_tc (and_t_tc (by kernel_rfl) (by kernel_rfl)) (by kernel_rfl)) (by kernel_rfl)) (by kernel_rfl)) (by kernel_rfl)) (by kernel_rfl)) (by kernel_rfl)) (by kernel_rfl)) (by kernel_rfl)) (by kernel_rfl)) (by kernel_rfl)) (by kernel_rfl)) (by kernel_rfl)) (by kernel_rfl)) (by kernel_rfl)) (by kernel_rfl)) (by kernel_rfl)) (by kernel_rfl)) (by kernel_rfl)) (by kernel_rfl)) (by kernel_rfl)) (by kernel_rfl)) (by kernel_rfl)) (by kernel_rfl)) (by kernel_rfl)) (by kernel_rfl)) (by kernel_rfl)) (by kernel_rfl)) (by kernel_rfl)) (by kernel_rfl)) (by kernel_rfl)
theorem kw_tc: Rows.codecTxnsRow.wfByText (OpenSpec.ofChange Rows.codecTxnsSpec)=true:=by kernel_rfl
theorem km_tc: Tryz.prog.mainIs=some (true,"b2f529f39ffebf23ec139143c71f3fb2078551bd6edc59e6f80363d6e67fb306".toList):=by kernel_rfl
theorem kf_tc: Tryz.prog.funcNamed "mapsheets/mapsheetslaw22.CodecTxns"=some 3:=by kernel_rfl
theorem kl_tc: true=Tryz.prog.looks []:=by kernel_rfl
theorem ks24_tc: Tryz.prog.wantsStandIn 24=false:=by kernel_rfl
theorem kg_tc: false=Rows.codecTxnsRow.goesBy Tryz.prog:=by kernel_rfl
end
end Go.Proofs.YthadajkojciapaaGreatDoor.Av
