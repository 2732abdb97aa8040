/- A part of the proof of ChangesetElementsCardSaid: an evaluator of the program, proved sound, and what it says. -/
import Derived.Test.YtanonfpdkoijnaaGreatDoorVcTl0
set_option linter.all false
namespace Go.Proofs.YtanonfpdkoijnaaGreatDoor.Av
open Go
set_option linter.unusedVariables false
set_option linter.unusedSimpArgs false
instance gT0 : GlobT := { tab := fun _ => none }
def q51 : Nat → Int → Option Bool
 | 0, _ => none
 | n + 1, a1270 => (cnd (a1270 != a1270) (some true) (some false))
theorem q51_ok (n : Nat) (a1270 : Int) (r : Bool) (h : q51 n a1270 = some r) : pv PP T n 51 [(iv a1270)] = some (bv r) := by
 cases n with
 | zero => cases h
 | succ n =>
  rw [q51] at h
  rcases cnd_or h with ⟨h1271, h⟩ | ⟨h1271, h⟩
  ·have g1272 := bool_eq h1271
   have hr := Option.some.inj h
   subst hr
   exact pv_z (F := F51) ⟨[(5, bt, none)], []⟩ [] [] rfl (Z g1272 <| Z0) (by kernel_rfl)
  have g1273 := bool_eq h1271
  have hr := Option.some.inj h
  subst hr
  exact pv_z (F := F51) ⟨[(5, bf, none)], []⟩ [] [] rfl (Z g1273 <| Z0) (by kernel_rfl)
def q30 : Nat → Int → Int → Option Int
 | 0, _, _ => none
 | n + 1, a1274, a1275 => (bnd (q51 n a1274) fun v1276 => (cnd (v1276) (bnd (q51 n a1275) fun v1280 => (cnd (v1280) (some 0) (some (-1)))) (bnd (q51 n a1275) fun v1286 => (cnd (v1286) (some 1) (cnd (decide (a1274 < a1275)) (some (-1)) (cnd (decide (a1274 > a1275)) (some 1) (some 0)))))))
theorem q30_ok (n : Nat) (a1274 : Int) (a1275 : Int) (r : Int) (h : q30 n a1274 a1275 = some r) : pv PP T n 30 [(iv a1274), (iv a1275)] = some (iv r) := by
 cases n with
 | zero => cases h
 | succ n =>
  rw [q30] at h
  obtain ⟨v1276, e1277, h⟩ := bnd_some h
  rcases cnd_or h with ⟨h1278, h⟩ | ⟨h1278, h⟩
  ·have g1279 := by have q := q51_ok n a1274 _ e1277; rw [h1278] at q; exact q
   obtain ⟨v1280, e1281, h⟩ := bnd_some h
   rcases cnd_or h with ⟨h1282, h⟩ | ⟨h1282, h⟩
   ·have g1283 := by have q := q51_ok n a1275 _ e1281; rw [h1282] at q; exact q
    have hr := Option.some.inj h
    subst hr
    exact pv_z (F := F30) ⟨[(8, bt, none), (10, bt, none)], []⟩ [] [] rfl (Z g1283 <| Z g1279 <| Z0) (by kernel_rfl)
   have g1284 := by have q := q51_ok n a1275 _ e1281; rw [h1282] at q; exact q
   have hr := Option.some.inj h
   subst hr
   exact pv_z (F := F30) ⟨[(8, bt, none), (10, bf, none)], []⟩ [] [] rfl (Z g1284 <| Z g1279 <| Z0) (by kernel_rfl)
  have g1285 := by have q := q51_ok n a1274 _ e1277; rw [h1278] at q; exact q
  obtain ⟨v1286, e1287, h⟩ := bnd_some h
  rcases cnd_or h with ⟨h1288, h⟩ | ⟨h1288, h⟩
  ·have g1289 := by have q := q51_ok n a1275 _ e1287; rw [h1288] at q; exact q
   have hr := Option.some.inj h
   subst hr
   exact pv_z (F := F30) ⟨[(8, bf, none), (10, bt, none)], []⟩ [] [] rfl (Z g1289 <| Z g1285 <| Z0) (by kernel_rfl)
  have g1290 := by have q := q51_ok n a1275 _ e1287; rw [h1288] at q; exact q
  rcases cnd_or h with ⟨h1291, h⟩ | ⟨h1291, h⟩
  ·have g1292 := bool_eq h1291
   have hr := Option.some.inj h
   subst hr
   exact pv_z (F := F30) ⟨[(8, bf, none), (10, bf, none), (16, bt, none)], []⟩ [] [] rfl (Z g1292 <| Z g1290 <| Z g1285 <| Z0) (by kernel_rfl)
  have g1293 := bool_eq h1291
  rcases cnd_or h with ⟨h1294, h⟩ | ⟨h1294, h⟩
  ·have g1295 := bool_eq h1294
   have hr := Option.some.inj h
   subst hr
   exact pv_z (F := F30) ⟨[(8, bf, none), (10, bf, none), (16, bf, none), (19, bt, none)], []⟩ [] [] rfl (Z g1295 <| Z g1293 <| Z g1290 <| Z g1285 <| Z0) (by kernel_rfl)
  have g1296 := bool_eq h1294
  have hr := Option.some.inj h
  subst hr
  exact pv_z (F := F30) ⟨[(8, bf, none), (10, bf, none), (16, bf, none), (19, bf, none)], []⟩ [] [] rfl (Z g1296 <| Z g1293 <| Z g1290 <| Z g1285 <| Z0) (by kernel_rfl)
def q31_L0_S (a1297 : (List Int)) (i1308 : Int) : St := ⟨[U, U, U, (iv 0), U, U, (.sl false (List.map c_i64 a1297)), (iv ((a1297.length : Nat) : Int)), (iv i1308), U, U, U, U, U, U, U, U, U], []⟩
def q31_L0_E0 (a1297 : (List Int)) (i1318 : Int) : St := ⟨[U, U, (iv i1318), U, U, U, U, U, U, U, U, U, U, U, U, U, U, U], []⟩
def q31_L0_E1 (a1297 : (List Int)) : St := ⟨[U, U, U, (iv 0), U, U, U, U, U, U, U, U, U, U, U, U, U, U], []⟩
def q31_L0 (n : Nat) (a1297 : (List Int)) : Nat → Int → Option (Int ⊕ Unit)
 | 0, _ => none
 | m + 1, i1308 => (cnd (decide (i1308 < ((a1297.length : Nat) : Int))) (bnd (idx a1297 i1308) fun x1321 => (cnd (x1321 != 0) (some (Sum.inl x1321)) (q31_L0 n a1297 m (IntKind.i64.wrap (i1308 + 1))))) (some (Sum.inr ())))
theorem q31_L0_ok (n : Nat) (a1297 : (List Int)) : ∀ (m : Nat) (i1308 : Int) (r : (Int ⊕ Unit)), q31_L0 n a1297 m i1308 = some r → maskR [false, false, false, true] [false, false, true] false 0 0 (evLoopH (headSt (some [false, false, false, true, false, false, true, true, true]) false 0 0) (evC PP (evF PP T n) n 0 L31_0) m (q31_L0_S a1297 i1308)) = (match r with | .inl r => some (.ret, q31_L0_E0 a1297 r) | .inr r => some ((.exit 0), q31_L0_E1 a1297))
 | 0, _, _, h => by cases h
 | m + 1, i1308, r, h => by
  rw [q31_L0] at h
  rcases cnd_or h with ⟨h1319, h⟩ | ⟨h1319, h⟩
  rotate_left
  ·have g1327 := bool_eq h1319
   have hr := Option.some.inj h
   subst hr
   exact last_z (live := some [false, false, false, true, false, false, true, true, true]) (tr' := false) (st' := q31_L0_E1 a1297) ⟨[(9, bf, none)], []⟩ [] [] rfl (Z g1327 <| Z0) (by kernel_rfl) trivial
  have g1320 := bool_eq h1319
  obtain ⟨x1321, e1322, h⟩ := bnd_some h
  have g1323 := idxl (H := []) (f := false) (c := c_i64) e1322 (c_i64_len _)
  rcases cnd_or h with ⟨h1324, h⟩ | ⟨h1324, h⟩
  ·have g1325 := bool_eq h1324
   have hr := Option.some.inj h
   subst hr
   exact last_z (live := some [false, false, false, true, false, false, true, true, true]) (tr' := false) (st' := q31_L0_E0 a1297 x1321) ⟨[(9, bt, none), (10, (.rptr [(iv x1321)]), none), (14, bt, none)], []⟩ [] [] rfl (Z g1325 <| Z g1323 <| Z g1320 <| Z0) (by kernel_rfl) trivial
  have g1326 := bool_eq h1324
  exact (congrArg (maskR [false, false, false, true] [false, false, true] false 0 0) (next_z (live := some [false, false, false, true, false, false, true, true, true]) (tr := false) (st' := q31_L0_S a1297 (IntKind.i64.wrap (i1308 + 1))) ⟨[(9, bt, none), (10, (.rptr [(iv x1321)]), none), (14, bf, none)], []⟩ [] [] rfl (Z g1326 <| Z g1323 <| Z g1320 <| Z0) (by kernel_rfl) trivial rfl)).trans (q31_L0_ok n a1297 m (IntKind.i64.wrap (i1308 + 1)) r h)
def q31 : Nat → (List Int) → Option Int
 | 0, _ => none
 | n + 1, a1297 => (bnd2 (q31_L0 n a1297 n 0) (fun v1331 => (some v1331)) (fun v1332 => (some 0)))
theorem q31_ok (n : Nat) (a1297 : (List Int)) (r : Int) (h : q31 n a1297 = some r) : pv PP T n 31 [(.sl false (List.map c_i64 a1297))] = some (iv r) := by
 cases n with
 | zero => cases h
 | succ n =>
  rw [q31] at h
  have g1298 := len_sl (P := PP) (cf := evF PP T n) (fl := 0) (H := []) (f := false) (c := c_i64) (l := a1297)
  have g1328 : cleanQ false 0 0 [] := trivial
  rcases bnd2_some h with ⟨v1331, e1329, h⟩ | ⟨v1332, e1329, h⟩
  rotate_left
  ·have g1330 := q31_L0_ok n a1297 n 0 _ e1329
   have hr := Option.some.inj h
   subst hr
   exact pv_z (F := F31) ⟨[(7, (iv ((a1297.length : Nat) : Int)), none)], []⟩ [((.exit 0), q31_L0_E1 a1297)] [] rfl (Z g1330 <| Z g1328 <| Z g1298 <| Z0) (by kernel_rfl)
  have g1330 := q31_L0_ok n a1297 n 0 _ e1329
  have hr := Option.some.inj h
  subst hr
  exact pv_z (F := F31) ⟨[(7, (iv ((a1297.length : Nat) : Int)), none)], []⟩ [(.ret, q31_L0_E0 a1297 v1331)] [] rfl (Z g1330 <| Z g1328 <| Z g1298 <| Z0) (by kernel_rfl)
def q12 : Nat → GConflict → GConflict → Option Int
 | 0, _, _ => none
 | n + 1, a1333, a1334 => (bnd (q30 n a1333.Kind a1334.Kind) fun v1335 => (bnd (q30 n a1333.ID a1334.ID) fun v1338 => (bnd (q31 n [v1335, v1338]) fun v1341 => (some v1341))))
theorem q12_ok (n : Nat) (a1333 : GConflict) (a1334 : GConflict) (r : Int) (h : q12 n a1333 a1334 = some r) : pv PP T n 12 [(.agg (c_GConflict a1333)), (.agg (c_GConflict a1334))] = some (iv r) := by
 cases n with
 | zero => cases h
 | succ n =>
  rw [q12] at h
  obtain ⟨v1335, e1336, h⟩ := bnd_some h
  have g1337 := q30_ok n a1333.Kind a1334.Kind _ e1336
  obtain ⟨v1338, e1339, h⟩ := bnd_some h
  have g1340 := q30_ok n a1333.ID a1334.ID _ e1339
  obtain ⟨v1341, e1342, h⟩ := bnd_some h
  have g1343 := q31_ok n [v1335, v1338] _ e1342
  have hr := Option.some.inj h
  subst hr
  exact pv_z (F := F12) ⟨[(9, (iv v1335), none), (14, (iv v1338), none), (16, (iv v1341), none)], []⟩ [] [] rfl (Z g1343 <| Z g1340 <| Z g1337 <| Z0) (by kernel_rfl)
end Go.Proofs.YtanonfpdkoijnaaGreatDoor.Av
