/- A part of the proof of EditChecksCardSaid. -/
import Derived.Test.YtmflphfmefakfaaGreatDoorVeCmr
set_option linter.all false
namespace Go.Proofs.YtmflphfmefakfaaGreatDoor.Av
open Go Go.Proofs
set_option maxRecDepth 100000
open Go.Proofs.YtmflphfmefakfaaGreatDoor in
theorem kw : Rows.editChecksRow.wfByText (OpenSpec.ofChange Rows.editChecksSpec) = true := by kernel_rfl
theorem km : Tryz.prog.mainIs = some (true, "5631d30c6386b6adf2b28bd4413c8ce354aaf01b9152ae8cecdfcf16ec853865".toList) := by kernel_rfl
theorem kf : Tryz.prog.funcNamed "mapsheets/mapsheetslaw20.EditChecks" = some 3 := by kernel_rfl
theorem kl : false = Tryz.prog.looks [] := by kernel_rfl
theorem ks : Tryz.prog.wantsStandIn 27 = false := by kernel_rfl
open Go.Proofs.YtmflphfmefakfaaGreatDoor in
theorem kg : false = Rows.editChecksRow.goesBy Tryz.prog := by kernel_rfl
open Go.Proofs.YtmflphfmefakfaaGreatDoor in
theorem checks_card : Rows.EditChecksCardSaid :=
 Claim7.holds_tied_plain_at .later [] [.data] true (true, "5631d30c6386b6adf2b28bd4413c8ce354aaf01b9152ae8cecdfcf16ec853865") false
  checks_said (fun _ h => by cases h) kw (fun _ h => by cases h) editChecks_row_tie rfl ⟨rfl, rfl⟩ km rfl
  (fun f fn hf hfn => by
   obtain rfl : f = 3 := Option.some.inj (kf.symm.trans hf) |>.symm
   obtain rfl : fn = Tryz.f3 := (Option.some.inj (Tryz.func3.symm.trans hfn)).symm
   exact ⟨kl, fun j t ht => by
    rw [Tryz.params3] at ht
    have h3 : t = 27 := by
     rcases j with _ | j
     ·simpa using ht.symm
     ·simp at ht
    subst h3
    exact ks⟩)
  kg
#print axioms checks_card
end Go.Proofs.YtmflphfmefakfaaGreatDoor.Av
