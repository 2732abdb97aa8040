/- A part of the proof of EditChecksCardSaid. -/
import Derived.Test.YtmflphfmefakfaaGreatDoorVeGlb
import Derived.Test.YtmflphfmefakfaaGreatDoorRows
import Derived.Test.YtmflphfmefakfaaGreatDoorTie
import Derived.Test.YtmflphfmefakfaaGreatDoorCards
import Derived.ChangeSame
import Derived.ChangeVars
import Derived.JoinedOf
import Derived.LaidLaws
import Derived.Lay
import Derived.MakeChecks
import Derived.Stop.Joined
import Derived.SevenTiedAt
set_option linter.all false
namespace Go.Proofs.YtmflphfmefakfaaGreatDoor.Av
open Go Go.Proofs
set_option maxRecDepth 100000
theorem own : ownKnob PP.godebug = none := by kernel_rfl
theorem laid : laidOutB PP = true := by kernel_rfl
theorem mixed : PP.follows .mixedOrders = true := by kernel_rfl
def scrV : List Value := flat2 (Go.Proofs.YtmflphfmefakfaaGreatDoor.Rows.laid_mapsheets_glyph_scripts)
open Go.Proofs.YtmflphfmefakfaaGreatDoor in
theorem glob_top {W : World} (hl : laidMetH Tryz.prog Rows.editChecksRow.laid W) (hsh : W.ShapedOpen Tryz.prog) : GlobInv (top W) := by
 intro g cs hcs
 match g with
 | 0 =>
  obtain rfl : scrT = cs := Option.some.inj hcs
  obtain ⟨ps, hv, _, _⟩ : laidMet Tryz.prog [("mapsheets/glyph.scripts", Rows.laid_mapsheets_glyph_scripts)] W := hl
  obtain ⟨g, t, cv, fuel, p, q, h1, h2, h3, h4, _, _⟩ := hv
  obtain rfl : 0 = g := Option.some.inj ((show Tryz.prog.globalNamed "mapsheets/glyph.scripts" = some 0 by kernel_rfl).symm.trans h1)
  obtain rfl : 197 = t := Option.some.inj ((show (Tryz.prog.globals[0]?).map (·.type) = some 197 by kernel_rfl).symm.trans h2)
  have hcv : cv.toList = scrV := trod_table (m := 13) (e := 196) (ta := 21) (tb := 21) (tc := 3) (ka := .i32) (kb := .i32) (kc := .i64) (f0 := { name := "first", type := 21, offset := 0, embedded := false, tag := "", pkgPath := "mapsheets/glyph", byteOffset := 0 }) (f1 := { name := "last", type := 21, offset := 1, embedded := false, tag := "", pkgPath := "mapsheets/glyph", byteOffset := 4 }) (f2 := { name := "script", type := 3, offset := 2, embedded := false, tag := "", pkgPath := "mapsheets/glyph", byteOffset := 8 }) (by kernel_rfl) (by kernel_rfl) (by kernel_rfl) (by kernel_rfl) rfl rfl rfl rfl rfl rfl (by kernel_rfl) (by kernel_rfl) (by kernel_rfl) (by kernel_rfl) (by kernel_rfl) (by kernel_rfl) h4
  have hheap : ∃ T fz, W.heap[0]? = some (.cells cv T fz) := by
   unfold World.var? at h3
   rw [h1] at h3
   simp only [Option.bind_some] at h3
   split at h3
   ·rename_i c T fz hb
    cases h3
    exact ⟨T, fz, hb⟩
   ·cases h3
  obtain ⟨T, fz, hheap⟩ := hheap
  have key : ∀ (j : Nat) (x : AV), scrT[j]? = some x → ∃ v, scrV[j]? = some v ∧ scalarB v = true ∧ x = AV.lit v := by
   have e : scrT = scrV.map AV.lit := by kernel_rfl
   have hs : scrV.all scalarB = true := by kernel_rfl
   intro j x hx
   rw [e, List.getElem?_map, Option.map_eq_some_iff] at hx
   obtain ⟨v, h5, rfl⟩ := hx
   exact ⟨v, h5, List.all_eq_true.1 hs v (List.mem_of_getElem? h5), rfl⟩
  refine ⟨cv, T, fz, fun j => (scrV[j]?).getD undef, top_imm W 0, hheap, (fun h => absurd h (by decide)), ?_, ?_⟩
  ·intro j x hx
   obtain ⟨v, k1, k2, _⟩ := key j x hx
   have e : (scrV[j]?).getD undef = v := by rw [k1]; rfl
   show cv[0 + j]? = some ((scrV[j]?).getD undef) ∧ scalarB ((scrV[j]?).getD undef) = true
   rw [e, Nat.zero_add, ← Array.getElem?_toList, hcv]
   exact ⟨k1, k2⟩
  ·intro j x hx
   obtain ⟨v, k1, _, rfl⟩ := key j x hx
   have e : (scrV[j]?).getD undef = v := by rw [k1]; rfl
   show RP _ _ (AV.lit v) ((scrV[j]?).getD undef)
   rw [e]
   exact .lit _
 | 1 =>
  obtain rfl : [AV.undef] = cs := Option.some.inj hcs
  obtain ⟨m, hm⟩ := cell_of_shapedOpen_int (g := 1) (t := 3) (zero := #[.int .i64 0]) (k := .i64) hsh (of_decide_eq_true (by kernel_rfl)) (by kernel_rfl) rfl (by kernel_rfl) (by kernel_rfl) (by kernel_rfl)
  obtain ⟨c, T, fz, hb, _, hc⟩ := cell?_inv hm
  refine ⟨c, T, fz, fun _ => .int .i64 m, top_imm W 1, hb, fun _ => ⟨m, hc⟩, ?_, ?_⟩
  ·intro j x hx
   cases j with
   | zero => exact ⟨hc, rfl⟩
   | succ j => simp at hx
  ·intro j x hx
   cases j with
   | zero =>
    simp only [List.getElem?_cons_zero, Option.some.injEq] at hx
    subst hx
    exact .undef _
   | succ j => simp at hx
 | n + 2 => cases hcs
end Go.Proofs.YtmflphfmefakfaaGreatDoor.Av
