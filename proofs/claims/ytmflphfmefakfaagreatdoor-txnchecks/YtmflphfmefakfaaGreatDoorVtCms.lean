/- A part of the proof of TxnChecksCardSaid: an evaluator of the program, proved sound, and what it says. -/
import Derived.Test.YtmflphfmefakfaaGreatDoorVtCmr
set_option linter.all false
namespace Go.Proofs.YtmflphfmefakfaaGreatDoor.Av
open Go Go.Proofs
set_option maxRecDepth 100000
open Go.Proofs.YtmflphfmefakfaaGreatDoor in
theorem kw : Rows.txnChecksRow.wfByText (OpenSpec.ofChange Rows.txnChecksSpec) = true := by kernel_rfl
theorem km : Tryz.prog.mainIs = some (true, "5631d30c6386b6adf2b28bd4413c8ce354aaf01b9152ae8cecdfcf16ec853865".toList) := by kernel_rfl
theorem kf : Tryz.prog.funcNamed "mapsheets/mapsheetslaw23.TxnChecks" = some 4 := by kernel_rfl
theorem kl : false = Tryz.prog.looks [] := by kernel_rfl
theorem ks : Tryz.prog.wantsStandIn 34 = false := by kernel_rfl
open Go.Proofs.YtmflphfmefakfaaGreatDoor in
theorem kg : false = Rows.txnChecksRow.goesBy Tryz.prog := by kernel_rfl
open Go.Proofs.YtmflphfmefakfaaGreatDoor in
theorem checks_card : Rows.TxnChecksCardSaid :=
 Claim7.holds_tied_plain_at .later [] [.data] true (true, "5631d30c6386b6adf2b28bd4413c8ce354aaf01b9152ae8cecdfcf16ec853865") false
  checks_said (fun _ h => by cases h) kw (fun _ h => by cases h) txnChecks_row_tie rfl ⟨rfl, rfl⟩ km rfl
  (fun f fn hf hfn => by
   obtain rfl : f = 4 := Option.some.inj (kf.symm.trans hf) |>.symm
   obtain rfl : fn = Tryz.f4 := (Option.some.inj (Tryz.func4.symm.trans hfn)).symm
   exact ⟨kl, fun j t ht => by
    rw [Tryz.params4] at ht
    have h3 : t = 34 := by
     rcases j with _ | j
     ·simpa using ht.symm
     ·simp at ht
    subst h3
    exact ks⟩)
  kg
#print axioms checks_card
end Go.Proofs.YtmflphfmefakfaaGreatDoor.Av
