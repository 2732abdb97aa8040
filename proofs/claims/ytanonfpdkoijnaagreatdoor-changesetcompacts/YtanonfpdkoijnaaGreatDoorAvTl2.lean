/- A part of the proof of ChangesetCompactsCardSaid: an evaluator of the program, proved sound, and what it says. -/
import Derived.Test.YtanonfpdkoijnaaGreatDoorAvTl1
namespace Go.Proofs.YtanonfpdkoijnaaGreatDoor.Av
open Go
set_option linter.unusedVariables false
set_option linter.unusedSimpArgs false
def f31_L0_S (a1424 : (List GPoint)) (a1425 : (List GPoint)) (i1444 : Int) : St := ⟨[(.sl false (List.map c_GPoint a1424)), (.sl false (List.map c_GPoint a1425)), .undef, .undef, .undef, (.lit (.int .i64 i1444)), .undef, .undef, .undef, .undef, .undef, .undef, .undef, .undef, .undef, .undef, .undef, .undef, .undef, .undef, .undef, .undef, .undef, .undef, .undef, .undef], []⟩
def f31_L0_E0 (a1424 : (List GPoint)) (a1425 : (List GPoint)) : St := ⟨[.undef, .undef, .undef, .undef, (.lit (.bool false)), .undef, .undef, .undef, .undef, .undef, .undef, .undef, .undef, .undef, .undef, .undef, .undef, .undef, .undef, .undef, .undef, .undef, .undef, .undef, .undef, .undef], []⟩
def f31_L0_E1 (a1424 : (List GPoint)) (a1425 : (List GPoint)) : St := ⟨[.undef, .undef, .undef, .undef, .undef, .undef, .undef, .undef, .undef, .undef, .undef, .undef, .undef, .undef, .undef, .undef, .undef, .undef, .undef, .undef, .undef, .undef, .undef, .undef, .undef, .undef], []⟩
def f31_L0 (n : Nat) (a1424 : (List GPoint)) (a1425 : (List GPoint)) : Nat → Int → Option (Unit ⊕ Unit)
  | 0, _ => none
  | m + 1, i1444 => (cnd (decide (i1444 < ((a1424.length : Nat) : Int))) (bnd (idx a1424 i1444) fun x1461 => (bnd (idx a1425 i1444) fun x1464 => (cnd (decide (x1461 = x1464)) (f31_L0 n a1424 a1425 m (IntKind.i64.wrap (i1444 + 1))) (some (Sum.inl ()))))) (some (Sum.inr ())))
theorem f31_L0_ok (n : Nat) (a1424 : (List GPoint)) (a1425 : (List GPoint)) : ∀ (m : Nat) (i1444 : Int) (r : (Unit ⊕ Unit)), f31_L0 n a1424 a1425 m i1444 = some r → maskR [] [false, false, false, false, true] false 0 0 (evLoopH (headSt (some [true, true, false, false, false, true]) false 0 0) (evC PP (evF PP T n) n 0 L31_0) m (f31_L0_S a1424 a1425 i1444)) = (match r with | .inl r => some (.ret, f31_L0_E0 a1424 a1425) | .inr r => some ((.exit 0), f31_L0_E1 a1424 a1425))
  | 0, _, _, h => by cases h
  | m + 1, i1444, r, h => by
    rw [f31_L0] at h
    have g1458 := len_sl (P := PP) (cf := evF PP T n) (fl := 0) (H := []) (f := false) (c := c_GPoint) (l := a1424)
    rcases Bool.eq_false_or_eq_true (decide (i1444 < ((a1424.length : Nat) : Int))) with h1459 | h1459
    · replace h := (cnd_t h1459).trans h
      have g1460 := bool_eq h1459
      obtain ⟨x1461, e1462, h⟩ := bnd_some h
      have g1463 := idxl (H := []) (f := false) (c := c_GPoint) e1462 (c_GPoint_len _)
      obtain ⟨x1464, e1465, h⟩ := bnd_some h
      have g1466 := idxl (H := []) (f := false) (c := c_GPoint) e1465 (c_GPoint_len _)
      rcases Bool.eq_false_or_eq_true (decide (x1461 = x1464)) with h1467 | h1467
      · replace h := (cnd_t h1467).trans h
        have g1468 := c_GPoint_neq (cf := evF PP T n) (fl := 0) (H := []) (a := x1461) (b := x1464) h1467
        exact (congrArg (maskR [] [false, false, false, false, true] false 0 0) (next_m (live := some [true, true, false, false, false, true]) (tr := false) (st' := f31_L0_S a1424 a1425 (IntKind.i64.wrap (i1444 + 1))) ⟨[(13, (.lit (.int .i64 ((a1424.length : Nat) : Int))), none), (14, (.lit (.bool true)), none), (19, (.rptr [(.lit (.int .i64 x1461.X)), (.lit (.int .i64 x1461.Y))]), none), (23, (.rptr [(.lit (.int .i64 x1464.X)), (.lit (.int .i64 x1464.Y))]), none), (25, (.lit (.bool false)), none)], []⟩ [] [] rfl (ps := [PropOf g1468, PropOf g1466, PropOf g1463, PropOf g1460, PropOf g1458]) (by kernel_rfl) ⟨g1468, g1466, g1463, g1460, g1458, trivial⟩ trivial rfl)).trans (f31_L0_ok n a1424 a1425 m (IntKind.i64.wrap (i1444 + 1)) r h)
      · replace h := (cnd_f h1467).trans h
        have g1469 := c_GPoint_neq (cf := evF PP T n) (fl := 0) (H := []) (a := x1461) (b := x1464) h1467
        have hr := Option.some.inj h
        subst hr
        exact last_m (live := some [true, true, false, false, false, true]) (tr' := false) (st' := f31_L0_E0 a1424 a1425) ⟨[(13, (.lit (.int .i64 ((a1424.length : Nat) : Int))), none), (14, (.lit (.bool true)), none), (19, (.rptr [(.lit (.int .i64 x1461.X)), (.lit (.int .i64 x1461.Y))]), none), (23, (.rptr [(.lit (.int .i64 x1464.X)), (.lit (.int .i64 x1464.Y))]), none), (25, (.lit (.bool true)), none)], []⟩ [] [] rfl (ps := [PropOf g1469, PropOf g1466, PropOf g1463, PropOf g1460, PropOf g1458]) (by kernel_rfl) ⟨g1469, g1466, g1463, g1460, g1458, trivial⟩ trivial
    · replace h := (cnd_f h1459).trans h
      have g1470 := bool_eq h1459
      have hr := Option.some.inj h
      subst hr
      exact last_m (live := some [true, true, false, false, false, true]) (tr' := false) (st' := f31_L0_E1 a1424 a1425) ⟨[(13, (.lit (.int .i64 ((a1424.length : Nat) : Int))), none), (14, (.lit (.bool false)), none)], []⟩ [] [] rfl (ps := [PropOf g1470, PropOf g1458]) (by kernel_rfl) ⟨g1470, g1458, trivial⟩ trivial
def f31 : Nat → (List GPoint) → (List GPoint) → Option Bool
  | 0, _, _ => none
  | n + 1, a1424, a1425 => (cnd (((a1424.length : Nat) : Int) != ((a1425.length : Nat) : Int)) (some false) (bnd2 (f31_L0 n a1424 a1425 n 0) (fun v1474 => (some false)) (fun v1475 => (some true))))
theorem f31_ok (n : Nat) (a1424 : (List GPoint)) (a1425 : (List GPoint)) (r : Bool) (h : f31 n a1424 a1425 = some r) : pv PP T n 31 [(.sl false (List.map c_GPoint a1424)), (.sl false (List.map c_GPoint a1425))] = some (.lit (.bool r)) := by
  cases n with
  | zero => cases h
  | succ n =>
    rw [f31] at h
    have g1426 := len_sl (P := PP) (cf := evF PP T n) (fl := 0) (H := []) (f := false) (c := c_GPoint) (l := a1424)
    have g1427 := len_sl (P := PP) (cf := evF PP T n) (fl := 0) (H := []) (f := false) (c := c_GPoint) (l := a1425)
    rcases Bool.eq_false_or_eq_true (((a1424.length : Nat) : Int) != ((a1425.length : Nat) : Int)) with h1428 | h1428
    · replace h := (cnd_t h1428).trans h
      have g1429 := bool_eq h1428
      have hr := Option.some.inj h
      subst hr
      exact pv_o (F := F31) ⟨[(7, (.lit (.int .i64 ((a1424.length : Nat) : Int))), none), (9, (.lit (.int .i64 ((a1425.length : Nat) : Int))), none), (10, (.lit (.bool true)), none)], []⟩ [] [] rfl (ps := [PropOf g1429, PropOf g1427, PropOf g1426]) (by kernel_rfl) ⟨g1429, g1427, g1426, trivial⟩
    · replace h := (cnd_f h1428).trans h
      have g1430 := bool_eq h1428
      have g1471 : cleanQ false 0 0 [] := trivial
      rcases bnd2_some h with ⟨v1474, e1472, h⟩ | ⟨v1475, e1472, h⟩
      · have g1473 := f31_L0_ok n a1424 a1425 n 0 _ e1472
        have hr := Option.some.inj h
        subst hr
        exact pv_o (F := F31) ⟨[(7, (.lit (.int .i64 ((a1424.length : Nat) : Int))), none), (9, (.lit (.int .i64 ((a1425.length : Nat) : Int))), none), (10, (.lit (.bool false)), none)], []⟩ [(.ret, f31_L0_E0 a1424 a1425)] [] rfl (ps := [PropOf g1473, PropOf g1471, PropOf g1430, PropOf g1427, PropOf g1426]) (by kernel_rfl) ⟨g1473, g1471, g1430, g1427, g1426, trivial⟩
      · have g1473 := f31_L0_ok n a1424 a1425 n 0 _ e1472
        have hr := Option.some.inj h
        subst hr
        exact pv_o (F := F31) ⟨[(7, (.lit (.int .i64 ((a1424.length : Nat) : Int))), none), (9, (.lit (.int .i64 ((a1425.length : Nat) : Int))), none), (10, (.lit (.bool false)), none)], []⟩ [((.exit 0), f31_L0_E1 a1424 a1425)] [] rfl (ps := [PropOf g1473, PropOf g1471, PropOf g1430, PropOf g1427, PropOf g1426]) (by kernel_rfl) ⟨g1473, g1471, g1430, g1427, g1426, trivial⟩
def f32_L0_S (a1476 : (List Int)) (a1477 : (List Int)) (i1496 : Int) : St := ⟨[(.sl false (List.map c_i64 a1476)), (.sl false (List.map c_i64 a1477)), .undef, .undef, .undef, (.lit (.int .i64 i1496)), .undef, .undef, .undef, .undef, .undef, .undef, .undef, .undef, .undef, .undef, .undef, .undef, .undef, .undef, .undef, .undef, .undef, .undef, .undef, .undef], []⟩
def f32_L0_E0 (a1476 : (List Int)) (a1477 : (List Int)) : St := ⟨[.undef, .undef, .undef, .undef, (.lit (.bool false)), .undef, .undef, .undef, .undef, .undef, .undef, .undef, .undef, .undef, .undef, .undef, .undef, .undef, .undef, .undef, .undef, .undef, .undef, .undef, .undef, .undef], []⟩
def f32_L0_E1 (a1476 : (List Int)) (a1477 : (List Int)) : St := ⟨[.undef, .undef, .undef, .undef, .undef, .undef, .undef, .undef, .undef, .undef, .undef, .undef, .undef, .undef, .undef, .undef, .undef, .undef, .undef, .undef, .undef, .undef, .undef, .undef, .undef, .undef], []⟩
def f32_L0 (n : Nat) (a1476 : (List Int)) (a1477 : (List Int)) : Nat → Int → Option (Unit ⊕ Unit)
  | 0, _ => none
  | m + 1, i1496 => (cnd (decide (i1496 < ((a1476.length : Nat) : Int))) (bnd (idx a1476 i1496) fun x1513 => (bnd (idx a1477 i1496) fun x1516 => (cnd (x1513 != x1516) (some (Sum.inl ())) (f32_L0 n a1476 a1477 m (IntKind.i64.wrap (i1496 + 1)))))) (some (Sum.inr ())))
theorem f32_L0_ok (n : Nat) (a1476 : (List Int)) (a1477 : (List Int)) : ∀ (m : Nat) (i1496 : Int) (r : (Unit ⊕ Unit)), f32_L0 n a1476 a1477 m i1496 = some r → maskR [] [false, false, false, false, true] false 0 0 (evLoopH (headSt (some [true, true, false, false, false, true]) false 0 0) (evC PP (evF PP T n) n 0 L32_0) m (f32_L0_S a1476 a1477 i1496)) = (match r with | .inl r => some (.ret, f32_L0_E0 a1476 a1477) | .inr r => some ((.exit 0), f32_L0_E1 a1476 a1477))
  | 0, _, _, h => by cases h
  | m + 1, i1496, r, h => by
    rw [f32_L0] at h
    have g1510 := len_sl (P := PP) (cf := evF PP T n) (fl := 0) (H := []) (f := false) (c := c_i64) (l := a1476)
    rcases Bool.eq_false_or_eq_true (decide (i1496 < ((a1476.length : Nat) : Int))) with h1511 | h1511
    · replace h := (cnd_t h1511).trans h
      have g1512 := bool_eq h1511
      obtain ⟨x1513, e1514, h⟩ := bnd_some h
      have g1515 := idxl (H := []) (f := false) (c := c_i64) e1514 (c_i64_len _)
      obtain ⟨x1516, e1517, h⟩ := bnd_some h
      have g1518 := idxl (H := []) (f := false) (c := c_i64) e1517 (c_i64_len _)
      rcases Bool.eq_false_or_eq_true (x1513 != x1516) with h1519 | h1519
      · replace h := (cnd_t h1519).trans h
        have g1520 := bool_eq h1519
        have hr := Option.some.inj h
        subst hr
        exact last_m (live := some [true, true, false, false, false, true]) (tr' := false) (st' := f32_L0_E0 a1476 a1477) ⟨[(13, (.lit (.int .i64 ((a1476.length : Nat) : Int))), none), (14, (.lit (.bool true)), none), (19, (.rptr [(.lit (.int .i64 x1513))]), none), (23, (.rptr [(.lit (.int .i64 x1516))]), none), (25, (.lit (.bool true)), none)], []⟩ [] [] rfl (ps := [PropOf g1520, PropOf g1518, PropOf g1515, PropOf g1512, PropOf g1510]) (by kernel_rfl) ⟨g1520, g1518, g1515, g1512, g1510, trivial⟩ trivial
      · replace h := (cnd_f h1519).trans h
        have g1521 := bool_eq h1519
        exact (congrArg (maskR [] [false, false, false, false, true] false 0 0) (next_m (live := some [true, true, false, false, false, true]) (tr := false) (st' := f32_L0_S a1476 a1477 (IntKind.i64.wrap (i1496 + 1))) ⟨[(13, (.lit (.int .i64 ((a1476.length : Nat) : Int))), none), (14, (.lit (.bool true)), none), (19, (.rptr [(.lit (.int .i64 x1513))]), none), (23, (.rptr [(.lit (.int .i64 x1516))]), none), (25, (.lit (.bool false)), none)], []⟩ [] [] rfl (ps := [PropOf g1521, PropOf g1518, PropOf g1515, PropOf g1512, PropOf g1510]) (by kernel_rfl) ⟨g1521, g1518, g1515, g1512, g1510, trivial⟩ trivial rfl)).trans (f32_L0_ok n a1476 a1477 m (IntKind.i64.wrap (i1496 + 1)) r h)
    · replace h := (cnd_f h1511).trans h
      have g1522 := bool_eq h1511
      have hr := Option.some.inj h
      subst hr
      exact last_m (live := some [true, true, false, false, false, true]) (tr' := false) (st' := f32_L0_E1 a1476 a1477) ⟨[(13, (.lit (.int .i64 ((a1476.length : Nat) : Int))), none), (14, (.lit (.bool false)), none)], []⟩ [] [] rfl (ps := [PropOf g1522, PropOf g1510]) (by kernel_rfl) ⟨g1522, g1510, trivial⟩ trivial
def f32 : Nat → (List Int) → (List Int) → Option Bool
  | 0, _, _ => none
  | n + 1, a1476, a1477 => (cnd (((a1476.length : Nat) : Int) != ((a1477.length : Nat) : Int)) (some false) (bnd2 (f32_L0 n a1476 a1477 n 0) (fun v1526 => (some false)) (fun v1527 => (some true))))
theorem f32_ok (n : Nat) (a1476 : (List Int)) (a1477 : (List Int)) (r : Bool) (h : f32 n a1476 a1477 = some r) : pv PP T n 32 [(.sl false (List.map c_i64 a1476)), (.sl false (List.map c_i64 a1477))] = some (.lit (.bool r)) := by
  cases n with
  | zero => cases h
  | succ n =>
    rw [f32] at h
    have g1478 := len_sl (P := PP) (cf := evF PP T n) (fl := 0) (H := []) (f := false) (c := c_i64) (l := a1476)
    have g1479 := len_sl (P := PP) (cf := evF PP T n) (fl := 0) (H := []) (f := false) (c := c_i64) (l := a1477)
    rcases Bool.eq_false_or_eq_true (((a1476.length : Nat) : Int) != ((a1477.length : Nat) : Int)) with h1480 | h1480
    · replace h := (cnd_t h1480).trans h
      have g1481 := bool_eq h1480
      have hr := Option.some.inj h
      subst hr
      exact pv_o (F := F32) ⟨[(7, (.lit (.int .i64 ((a1476.length : Nat) : Int))), none), (9, (.lit (.int .i64 ((a1477.length : Nat) : Int))), none), (10, (.lit (.bool true)), none)], []⟩ [] [] rfl (ps := [PropOf g1481, PropOf g1479, PropOf g1478]) (by kernel_rfl) ⟨g1481, g1479, g1478, trivial⟩
    · replace h := (cnd_f h1480).trans h
      have g1482 := bool_eq h1480
      have g1523 : cleanQ false 0 0 [] := trivial
      rcases bnd2_some h with ⟨v1526, e1524, h⟩ | ⟨v1527, e1524, h⟩
      · have g1525 := f32_L0_ok n a1476 a1477 n 0 _ e1524
        have hr := Option.some.inj h
        subst hr
        exact pv_o (F := F32) ⟨[(7, (.lit (.int .i64 ((a1476.length : Nat) : Int))), none), (9, (.lit (.int .i64 ((a1477.length : Nat) : Int))), none), (10, (.lit (.bool false)), none)], []⟩ [(.ret, f32_L0_E0 a1476 a1477)] [] rfl (ps := [PropOf g1525, PropOf g1523, PropOf g1482, PropOf g1479, PropOf g1478]) (by kernel_rfl) ⟨g1525, g1523, g1482, g1479, g1478, trivial⟩
      · have g1525 := f32_L0_ok n a1476 a1477 n 0 _ e1524
        have hr := Option.some.inj h
        subst hr
        exact pv_o (F := F32) ⟨[(7, (.lit (.int .i64 ((a1476.length : Nat) : Int))), none), (9, (.lit (.int .i64 ((a1477.length : Nat) : Int))), none), (10, (.lit (.bool false)), none)], []⟩ [((.exit 0), f32_L0_E1 a1476 a1477)] [] rfl (ps := [PropOf g1525, PropOf g1523, PropOf g1482, PropOf g1479, PropOf g1478]) (by kernel_rfl) ⟨g1525, g1523, g1482, g1479, g1478, trivial⟩
def f19 : Nat → GEdit → GEdit → Option Bool
  | 0, _, _ => none
  | n + 1, a1528, a1529 => (cnd (a1528.Kind == a1529.Kind) (cnd (a1528.ID == a1529.ID) (cnd (a1528.A == a1529.A) (cnd (a1528.B == a1529.B) (cnd (a1528.C == a1529.C) (cnd (decide (a1528.At = a1529.At)) (cnd (decide (a1528.Name = a1529.Name)) (bnd (f31 n a1528.Via a1529.Via) fun v1544 => (cnd (v1544) (bnd (f32 n a1528.Parts a1529.Parts) fun v1548 => (cnd (v1548) (some true) (some false))) (some false))) (some false)) (some false)) (some false)) (some false)) (some false)) (some false)) (some false))
theorem f19_ok (n : Nat) (a1528 : GEdit) (a1529 : GEdit) (r : Bool) (h : f19 n a1528 a1529 = some r) : pv PP T n 19 [(.agg (c_GEdit a1528)), (.agg (c_GEdit a1529))] = some (.lit (.bool r)) := by
  cases n with
  | zero => cases h
  | succ n =>
    rw [f19] at h
    rcases Bool.eq_false_or_eq_true (a1528.Kind == a1529.Kind) with h1530 | h1530
    · replace h := (cnd_t h1530).trans h
      have g1531 := bool_eq h1530
      rcases Bool.eq_false_or_eq_true (a1528.ID == a1529.ID) with h1532 | h1532
      · replace h := (cnd_t h1532).trans h
        have g1533 := bool_eq h1532
        rcases Bool.eq_false_or_eq_true (a1528.A == a1529.A) with h1534 | h1534
        · replace h := (cnd_t h1534).trans h
          have g1535 := bool_eq h1534
          rcases Bool.eq_false_or_eq_true (a1528.B == a1529.B) with h1536 | h1536
          · replace h := (cnd_t h1536).trans h
            have g1537 := bool_eq h1536
            rcases Bool.eq_false_or_eq_true (a1528.C == a1529.C) with h1538 | h1538
            · replace h := (cnd_t h1538).trans h
              have g1539 := bool_eq h1538
              rcases Bool.eq_false_or_eq_true (decide (a1528.At = a1529.At)) with h1540 | h1540
              · replace h := (cnd_t h1540).trans h
                have g1541 := c_GPoint_eql (cf := evF PP T n) (fl := 0) (H := [(.blk 10 [[(.lit (.int .i64 a1528.Kind)), (.lit (.int .i64 a1528.ID)), (.lit (.int .i64 a1528.A)), (.lit (.int .i64 a1528.B)), (.lit (.int .i64 a1528.C)), (.lit (.int .i64 a1528.At.X)), (.lit (.int .i64 a1528.At.Y)), (.sl false (List.map c_GPoint a1528.Via)), (.lit (.string a1528.Name)), (.sl false (List.map c_i64 a1528.Parts))]]), (.blk 10 [[(.lit (.int .i64 a1529.Kind)), (.lit (.int .i64 a1529.ID)), (.lit (.int .i64 a1529.A)), (.lit (.int .i64 a1529.B)), (.lit (.int .i64 a1529.C)), (.lit (.int .i64 a1529.At.X)), (.lit (.int .i64 a1529.At.Y)), (.sl false (List.map c_GPoint a1529.Via)), (.lit (.string a1529.Name)), (.sl false (List.map c_i64 a1529.Parts))]])]) (a := a1528.At) (b := a1529.At) h1540
                rcases Bool.eq_false_or_eq_true (decide (a1528.Name = a1529.Name)) with h1542 | h1542
                · replace h := (cnd_t h1542).trans h
                  have g1543 := c_str_eql (P := PP) (cf := evF PP T n) (fl := 0) (H := [(.blk 10 [[(.lit (.int .i64 a1528.Kind)), (.lit (.int .i64 a1528.ID)), (.lit (.int .i64 a1528.A)), (.lit (.int .i64 a1528.B)), (.lit (.int .i64 a1528.C)), (.lit (.int .i64 a1528.At.X)), (.lit (.int .i64 a1528.At.Y)), (.sl false (List.map c_GPoint a1528.Via)), (.lit (.string a1528.Name)), (.sl false (List.map c_i64 a1528.Parts))]]), (.blk 10 [[(.lit (.int .i64 a1529.Kind)), (.lit (.int .i64 a1529.ID)), (.lit (.int .i64 a1529.A)), (.lit (.int .i64 a1529.B)), (.lit (.int .i64 a1529.C)), (.lit (.int .i64 a1529.At.X)), (.lit (.int .i64 a1529.At.Y)), (.sl false (List.map c_GPoint a1529.Via)), (.lit (.string a1529.Name)), (.sl false (List.map c_i64 a1529.Parts))]])]) (t := 9) h1542
                  obtain ⟨v1544, e1545, h⟩ := bnd_some h
                  rcases Bool.eq_false_or_eq_true (v1544) with h1546 | h1546
                  · replace h := (cnd_t h1546).trans h
                    have g1547 := by have q := f31_ok n a1528.Via a1529.Via _ e1545; rw [h1546] at q; exact q
                    obtain ⟨v1548, e1549, h⟩ := bnd_some h
                    rcases Bool.eq_false_or_eq_true (v1548) with h1550 | h1550
                    · replace h := (cnd_t h1550).trans h
                      have g1551 := by have q := f32_ok n a1528.Parts a1529.Parts _ e1549; rw [h1550] at q; exact q
                      have hr := Option.some.inj h
                      subst hr
                      exact pv_o (F := F19) ⟨[(9, (.lit (.bool true)), none), (15, (.lit (.bool true)), none), (22, (.lit (.bool true)), none), (29, (.lit (.bool true)), none), (36, (.lit (.bool true)), none), (43, (.lit (.bool true)), none), (50, (.lit (.bool true)), none), (57, (.lit (.bool true)), none), (64, (.lit (.bool true)), none)], []⟩ [] [] rfl (ps := [PropOf g1551, PropOf g1547, PropOf g1543, PropOf g1541, PropOf g1539, PropOf g1537, PropOf g1535, PropOf g1533, PropOf g1531]) (by kernel_rfl) ⟨g1551, g1547, g1543, g1541, g1539, g1537, g1535, g1533, g1531, trivial⟩
                    · replace h := (cnd_f h1550).trans h
                      have g1552 := by have q := f32_ok n a1528.Parts a1529.Parts _ e1549; rw [h1550] at q; exact q
                      have hr := Option.some.inj h
                      subst hr
                      exact pv_o (F := F19) ⟨[(9, (.lit (.bool true)), none), (15, (.lit (.bool true)), none), (22, (.lit (.bool true)), none), (29, (.lit (.bool true)), none), (36, (.lit (.bool true)), none), (43, (.lit (.bool true)), none), (50, (.lit (.bool true)), none), (57, (.lit (.bool true)), none), (64, (.lit (.bool false)), none)], []⟩ [] [] rfl (ps := [PropOf g1552, PropOf g1547, PropOf g1543, PropOf g1541, PropOf g1539, PropOf g1537, PropOf g1535, PropOf g1533, PropOf g1531]) (by kernel_rfl) ⟨g1552, g1547, g1543, g1541, g1539, g1537, g1535, g1533, g1531, trivial⟩
                  · replace h := (cnd_f h1546).trans h
                    have g1553 := by have q := f31_ok n a1528.Via a1529.Via _ e1545; rw [h1546] at q; exact q
                    have hr := Option.some.inj h
                    subst hr
                    exact pv_o (F := F19) ⟨[(9, (.lit (.bool true)), none), (15, (.lit (.bool true)), none), (22, (.lit (.bool true)), none), (29, (.lit (.bool true)), none), (36, (.lit (.bool true)), none), (43, (.lit (.bool true)), none), (50, (.lit (.bool true)), none), (57, (.lit (.bool false)), none)], []⟩ [] [] rfl (ps := [PropOf g1553, PropOf g1543, PropOf g1541, PropOf g1539, PropOf g1537, PropOf g1535, PropOf g1533, PropOf g1531]) (by kernel_rfl) ⟨g1553, g1543, g1541, g1539, g1537, g1535, g1533, g1531, trivial⟩
                · replace h := (cnd_f h1542).trans h
                  have g1554 := c_str_eql (P := PP) (cf := evF PP T n) (fl := 0) (H := [(.blk 10 [[(.lit (.int .i64 a1528.Kind)), (.lit (.int .i64 a1528.ID)), (.lit (.int .i64 a1528.A)), (.lit (.int .i64 a1528.B)), (.lit (.int .i64 a1528.C)), (.lit (.int .i64 a1528.At.X)), (.lit (.int .i64 a1528.At.Y)), (.sl false (List.map c_GPoint a1528.Via)), (.lit (.string a1528.Name)), (.sl false (List.map c_i64 a1528.Parts))]]), (.blk 10 [[(.lit (.int .i64 a1529.Kind)), (.lit (.int .i64 a1529.ID)), (.lit (.int .i64 a1529.A)), (.lit (.int .i64 a1529.B)), (.lit (.int .i64 a1529.C)), (.lit (.int .i64 a1529.At.X)), (.lit (.int .i64 a1529.At.Y)), (.sl false (List.map c_GPoint a1529.Via)), (.lit (.string a1529.Name)), (.sl false (List.map c_i64 a1529.Parts))]])]) (t := 9) h1542
                  have hr := Option.some.inj h
                  subst hr
                  exact pv_o (F := F19) ⟨[(9, (.lit (.bool true)), none), (15, (.lit (.bool true)), none), (22, (.lit (.bool true)), none), (29, (.lit (.bool true)), none), (36, (.lit (.bool true)), none), (43, (.lit (.bool true)), none), (50, (.lit (.bool false)), none)], []⟩ [] [] rfl (ps := [PropOf g1554, PropOf g1541, PropOf g1539, PropOf g1537, PropOf g1535, PropOf g1533, PropOf g1531]) (by kernel_rfl) ⟨g1554, g1541, g1539, g1537, g1535, g1533, g1531, trivial⟩
              · replace h := (cnd_f h1540).trans h
                have g1555 := c_GPoint_eql (cf := evF PP T n) (fl := 0) (H := [(.blk 10 [[(.lit (.int .i64 a1528.Kind)), (.lit (.int .i64 a1528.ID)), (.lit (.int .i64 a1528.A)), (.lit (.int .i64 a1528.B)), (.lit (.int .i64 a1528.C)), (.lit (.int .i64 a1528.At.X)), (.lit (.int .i64 a1528.At.Y)), (.sl false (List.map c_GPoint a1528.Via)), (.lit (.string a1528.Name)), (.sl false (List.map c_i64 a1528.Parts))]]), (.blk 10 [[(.lit (.int .i64 a1529.Kind)), (.lit (.int .i64 a1529.ID)), (.lit (.int .i64 a1529.A)), (.lit (.int .i64 a1529.B)), (.lit (.int .i64 a1529.C)), (.lit (.int .i64 a1529.At.X)), (.lit (.int .i64 a1529.At.Y)), (.sl false (List.map c_GPoint a1529.Via)), (.lit (.string a1529.Name)), (.sl false (List.map c_i64 a1529.Parts))]])]) (a := a1528.At) (b := a1529.At) h1540
                have hr := Option.some.inj h
                subst hr
                exact pv_o (F := F19) ⟨[(9, (.lit (.bool true)), none), (15, (.lit (.bool true)), none), (22, (.lit (.bool true)), none), (29, (.lit (.bool true)), none), (36, (.lit (.bool true)), none), (43, (.lit (.bool false)), none)], []⟩ [] [] rfl (ps := [PropOf g1555, PropOf g1539, PropOf g1537, PropOf g1535, PropOf g1533, PropOf g1531]) (by kernel_rfl) ⟨g1555, g1539, g1537, g1535, g1533, g1531, trivial⟩
            · replace h := (cnd_f h1538).trans h
              have g1556 := bool_eq h1538
              have hr := Option.some.inj h
              subst hr
              exact pv_o (F := F19) ⟨[(9, (.lit (.bool true)), none), (15, (.lit (.bool true)), none), (22, (.lit (.bool true)), none), (29, (.lit (.bool true)), none), (36, (.lit (.bool false)), none)], []⟩ [] [] rfl (ps := [PropOf g1556, PropOf g1537, PropOf g1535, PropOf g1533, PropOf g1531]) (by kernel_rfl) ⟨g1556, g1537, g1535, g1533, g1531, trivial⟩
          · replace h := (cnd_f h1536).trans h
            have g1557 := bool_eq h1536
            have hr := Option.some.inj h
            subst hr
            exact pv_o (F := F19) ⟨[(9, (.lit (.bool true)), none), (15, (.lit (.bool true)), none), (22, (.lit (.bool true)), none), (29, (.lit (.bool false)), none)], []⟩ [] [] rfl (ps := [PropOf g1557, PropOf g1535, PropOf g1533, PropOf g1531]) (by kernel_rfl) ⟨g1557, g1535, g1533, g1531, trivial⟩
        · replace h := (cnd_f h1534).trans h
          have g1558 := bool_eq h1534
          have hr := Option.some.inj h
          subst hr
          exact pv_o (F := F19) ⟨[(9, (.lit (.bool true)), none), (15, (.lit (.bool true)), none), (22, (.lit (.bool false)), none)], []⟩ [] [] rfl (ps := [PropOf g1558, PropOf g1533, PropOf g1531]) (by kernel_rfl) ⟨g1558, g1533, g1531, trivial⟩
      · replace h := (cnd_f h1532).trans h
        have g1559 := bool_eq h1532
        have hr := Option.some.inj h
        subst hr
        exact pv_o (F := F19) ⟨[(9, (.lit (.bool true)), none), (15, (.lit (.bool false)), none)], []⟩ [] [] rfl (ps := [PropOf g1559, PropOf g1531]) (by kernel_rfl) ⟨g1559, g1531, trivial⟩
    · replace h := (cnd_f h1530).trans h
      have g1560 := bool_eq h1530
      have hr := Option.some.inj h
      subst hr
      exact pv_o (F := F19) ⟨[(9, (.lit (.bool false)), none)], []⟩ [] [] rfl (ps := [PropOf g1560]) (by kernel_rfl) ⟨g1560, trivial⟩
def f5_L0_S (a1561 : (List GEdit)) (a1562 : (List GEdit)) (i1583 : Int) : St := ⟨[(.sl false (List.map c_GEdit a1561)), (.sl false (List.map c_GEdit a1562)), .undef, .undef, .undef, (.lit (.int .i64 i1583)), .undef, .undef, .undef, .undef, .undef, .undef, .undef, .undef, .undef, .undef, .undef, .undef, .undef, .undef, .undef, .undef, .undef, .undef, .undef, .undef, .undef], []⟩
def f5_L0_E0 (a1561 : (List GEdit)) (a1562 : (List GEdit)) : St := ⟨[.undef, .undef, .undef, .undef, (.lit (.bool false)), .undef, .undef, .undef, .undef, .undef, .undef, .undef, .undef, .undef, .undef, .undef, .undef, .undef, .undef, .undef, .undef, .undef, .undef, .undef, .undef, .undef, .undef], []⟩
def f5_L0_E1 (a1561 : (List GEdit)) (a1562 : (List GEdit)) : St := ⟨[.undef, .undef, .undef, .undef, .undef, .undef, .undef, .undef, .undef, .undef, .undef, .undef, .undef, .undef, .undef, .undef, .undef, .undef, .undef, .undef, .undef, .undef, .undef, .undef, .undef, .undef, .undef], []⟩
def f5_L0 (n : Nat) (a1561 : (List GEdit)) (a1562 : (List GEdit)) : Nat → Int → Option (Unit ⊕ Unit)
  | 0, _ => none
  | m + 1, i1583 => (cnd (decide (i1583 < ((a1561.length : Nat) : Int))) (bnd (idx a1561 i1583) fun x1602 => (bnd (idx a1562 i1583) fun x1605 => (bnd (f19 n x1602 x1605) fun v1608 => (cnd (v1608) (f5_L0 n a1561 a1562 m (IntKind.i64.wrap (i1583 + 1))) (some (Sum.inl ())))))) (some (Sum.inr ())))
theorem f5_L0_ok (n : Nat) (a1561 : (List GEdit)) (a1562 : (List GEdit)) : ∀ (m : Nat) (i1583 : Int) (r : (Unit ⊕ Unit)), f5_L0 n a1561 a1562 m i1583 = some r → maskR [] [false, false, false, false, true] false 0 0 (evLoopH (headSt (some [true, true, false, false, false, true]) false 0 0) (evC PP (evF PP T n) n 0 L5_0) m (f5_L0_S a1561 a1562 i1583)) = (match r with | .inl r => some (.ret, f5_L0_E0 a1561 a1562) | .inr r => some ((.exit 0), f5_L0_E1 a1561 a1562))
  | 0, _, _, h => by cases h
  | m + 1, i1583, r, h => by
    rw [f5_L0] at h
    have g1599 := len_sl (P := PP) (cf := evF PP T n) (fl := 0) (H := []) (f := false) (c := c_GEdit) (l := a1561)
    rcases Bool.eq_false_or_eq_true (decide (i1583 < ((a1561.length : Nat) : Int))) with h1600 | h1600
    · replace h := (cnd_t h1600).trans h
      have g1601 := bool_eq h1600
      obtain ⟨x1602, e1603, h⟩ := bnd_some h
      have g1604 := idxl (H := []) (f := false) (c := c_GEdit) e1603 (c_GEdit_len _)
      obtain ⟨x1605, e1606, h⟩ := bnd_some h
      have g1607 := idxl (H := []) (f := false) (c := c_GEdit) e1606 (c_GEdit_len _)
      obtain ⟨v1608, e1609, h⟩ := bnd_some h
      rcases Bool.eq_false_or_eq_true (v1608) with h1610 | h1610
      · replace h := (cnd_t h1610).trans h
        have g1611 := by have q := f19_ok n x1602 x1605 _ e1609; rw [h1610] at q; exact q
        exact (congrArg (maskR [] [false, false, false, false, true] false 0 0) (next_m (live := some [true, true, false, false, false, true]) (tr := false) (st' := f5_L0_S a1561 a1562 (IntKind.i64.wrap (i1583 + 1))) ⟨[(13, (.lit (.int .i64 ((a1561.length : Nat) : Int))), none), (14, (.lit (.bool true)), none), (19, (.rptr [(.lit (.int .i64 x1602.Kind)), (.lit (.int .i64 x1602.ID)), (.lit (.int .i64 x1602.A)), (.lit (.int .i64 x1602.B)), (.lit (.int .i64 x1602.C)), (.lit (.int .i64 x1602.At.X)), (.lit (.int .i64 x1602.At.Y)), (.sl false (List.map c_GPoint x1602.Via)), (.lit (.string x1602.Name)), (.sl false (List.map c_i64 x1602.Parts))]), none), (23, (.rptr [(.lit (.int .i64 x1605.Kind)), (.lit (.int .i64 x1605.ID)), (.lit (.int .i64 x1605.A)), (.lit (.int .i64 x1605.B)), (.lit (.int .i64 x1605.C)), (.lit (.int .i64 x1605.At.X)), (.lit (.int .i64 x1605.At.Y)), (.sl false (List.map c_GPoint x1605.Via)), (.lit (.string x1605.Name)), (.sl false (List.map c_i64 x1605.Parts))]), none), (25, (.lit (.bool true)), none)], []⟩ [] [] rfl (ps := [PropOf g1611, PropOf g1607, PropOf g1604, PropOf g1601, PropOf g1599]) (by kernel_rfl) ⟨g1611, g1607, g1604, g1601, g1599, trivial⟩ trivial rfl)).trans (f5_L0_ok n a1561 a1562 m (IntKind.i64.wrap (i1583 + 1)) r h)
      · replace h := (cnd_f h1610).trans h
        have g1612 := by have q := f19_ok n x1602 x1605 _ e1609; rw [h1610] at q; exact q
        have hr := Option.some.inj h
        subst hr
        exact last_m (live := some [true, true, false, false, false, true]) (tr' := false) (st' := f5_L0_E0 a1561 a1562) ⟨[(13, (.lit (.int .i64 ((a1561.length : Nat) : Int))), none), (14, (.lit (.bool true)), none), (19, (.rptr [(.lit (.int .i64 x1602.Kind)), (.lit (.int .i64 x1602.ID)), (.lit (.int .i64 x1602.A)), (.lit (.int .i64 x1602.B)), (.lit (.int .i64 x1602.C)), (.lit (.int .i64 x1602.At.X)), (.lit (.int .i64 x1602.At.Y)), (.sl false (List.map c_GPoint x1602.Via)), (.lit (.string x1602.Name)), (.sl false (List.map c_i64 x1602.Parts))]), none), (23, (.rptr [(.lit (.int .i64 x1605.Kind)), (.lit (.int .i64 x1605.ID)), (.lit (.int .i64 x1605.A)), (.lit (.int .i64 x1605.B)), (.lit (.int .i64 x1605.C)), (.lit (.int .i64 x1605.At.X)), (.lit (.int .i64 x1605.At.Y)), (.sl false (List.map c_GPoint x1605.Via)), (.lit (.string x1605.Name)), (.sl false (List.map c_i64 x1605.Parts))]), none), (25, (.lit (.bool false)), none)], []⟩ [] [] rfl (ps := [PropOf g1612, PropOf g1607, PropOf g1604, PropOf g1601, PropOf g1599]) (by kernel_rfl) ⟨g1612, g1607, g1604, g1601, g1599, trivial⟩ trivial
    · replace h := (cnd_f h1600).trans h
      have g1613 := bool_eq h1600
      have hr := Option.some.inj h
      subst hr
      exact last_m (live := some [true, true, false, false, false, true]) (tr' := false) (st' := f5_L0_E1 a1561 a1562) ⟨[(13, (.lit (.int .i64 ((a1561.length : Nat) : Int))), none), (14, (.lit (.bool false)), none)], []⟩ [] [] rfl (ps := [PropOf g1613, PropOf g1599]) (by kernel_rfl) ⟨g1613, g1599, trivial⟩ trivial
def f5 : Nat → (List GEdit) → (List GEdit) → Option Bool
  | 0, _, _ => none
  | n + 1, a1561, a1562 => (cnd (((a1561.length : Nat) : Int) != ((a1562.length : Nat) : Int)) (some false) (bnd2 (f5_L0 n a1561 a1562 n 0) (fun v1617 => (some false)) (fun v1618 => (some true))))
theorem f5_ok (n : Nat) (a1561 : (List GEdit)) (a1562 : (List GEdit)) (r : Bool) (h : f5 n a1561 a1562 = some r) : pv PP T n 5 [(.sl false (List.map c_GEdit a1561)), (.sl false (List.map c_GEdit a1562))] = some (.lit (.bool r)) := by
  cases n with
  | zero => cases h
  | succ n =>
    rw [f5] at h
    have g1563 := len_sl (P := PP) (cf := evF PP T n) (fl := 0) (H := []) (f := false) (c := c_GEdit) (l := a1561)
    have g1564 := len_sl (P := PP) (cf := evF PP T n) (fl := 0) (H := []) (f := false) (c := c_GEdit) (l := a1562)
    rcases Bool.eq_false_or_eq_true (((a1561.length : Nat) : Int) != ((a1562.length : Nat) : Int)) with h1565 | h1565
    · replace h := (cnd_t h1565).trans h
      have g1566 := bool_eq h1565
      have hr := Option.some.inj h
      subst hr
      exact pv_o (F := F5) ⟨[(7, (.lit (.int .i64 ((a1561.length : Nat) : Int))), none), (9, (.lit (.int .i64 ((a1562.length : Nat) : Int))), none), (10, (.lit (.bool true)), none)], []⟩ [] [] rfl (ps := [PropOf g1566, PropOf g1564, PropOf g1563]) (by kernel_rfl) ⟨g1566, g1564, g1563, trivial⟩
    · replace h := (cnd_f h1565).trans h
      have g1567 := bool_eq h1565
      have g1614 : cleanQ false 0 0 [] := trivial
      rcases bnd2_some h with ⟨v1617, e1615, h⟩ | ⟨v1618, e1615, h⟩
      · have g1616 := f5_L0_ok n a1561 a1562 n 0 _ e1615
        have hr := Option.some.inj h
        subst hr
        exact pv_o (F := F5) ⟨[(7, (.lit (.int .i64 ((a1561.length : Nat) : Int))), none), (9, (.lit (.int .i64 ((a1562.length : Nat) : Int))), none), (10, (.lit (.bool false)), none)], []⟩ [(.ret, f5_L0_E0 a1561 a1562)] [] rfl (ps := [PropOf g1616, PropOf g1614, PropOf g1567, PropOf g1564, PropOf g1563]) (by kernel_rfl) ⟨g1616, g1614, g1567, g1564, g1563, trivial⟩
      · have g1616 := f5_L0_ok n a1561 a1562 n 0 _ e1615
        have hr := Option.some.inj h
        subst hr
        exact pv_o (F := F5) ⟨[(7, (.lit (.int .i64 ((a1561.length : Nat) : Int))), none), (9, (.lit (.int .i64 ((a1562.length : Nat) : Int))), none), (10, (.lit (.bool false)), none)], []⟩ [((.exit 0), f5_L0_E1 a1561 a1562)] [] rfl (ps := [PropOf g1616, PropOf g1614, PropOf g1567, PropOf g1564, PropOf g1563]) (by kernel_rfl) ⟨g1616, g1614, g1567, g1564, g1563, trivial⟩
def f0 : Nat → (List GEdit) → Option Bool
  | 0, _ => none
  | n + 1, a1619 => (cnd (decide (((a1619.length : Nat) : Int) > 300)) (bnd (f2 n ) fun v1623 => (cnd (v1623) (some true) (some false))) (bnd (f1 n a1619 5000) fun v1629 => (cnd (v1629) (bnd (f3 n a1619) fun v1633 => (bnd (f4 n a1619) fun v1636 => (bnd (f5 n v1633 v1636) fun v1639 => (cnd (v1639) (cnd (decide (((v1633.length : Nat) : Int) ≤ ((a1619.length : Nat) : Int))) (bnd (f3 n v1633) fun v1647 => (bnd (f5 n v1647 v1633) fun v1650 => (cnd (v1650) (bnd (f2 n ) fun v1654 => (cnd (v1654) (some true) (some false))) (some false)))) (some false)) (some false))))) (bnd (f2 n ) fun v1663 => (cnd (v1663) (some true) (some false))))))
theorem f0_ok (n : Nat) (a1619 : (List GEdit)) (r : Bool) (h : f0 n a1619 = some r) : pv PP T n 0 [(.sl false (List.map c_GEdit a1619))] = some (.lit (.bool r)) := by
  cases n with
  | zero => cases h
  | succ n =>
    rw [f0] at h
    have g1620 := len_sl (P := PP) (cf := evF PP T n) (fl := 0) (H := []) (f := false) (c := c_GEdit) (l := a1619)
    rcases Bool.eq_false_or_eq_true (decide (((a1619.length : Nat) : Int) > 300)) with h1621 | h1621
    · replace h := (cnd_t h1621).trans h
      have g1622 := bool_eq h1621
      obtain ⟨v1623, e1624, h⟩ := bnd_some h
      rcases Bool.eq_false_or_eq_true (v1623) with h1625 | h1625
      · replace h := (cnd_t h1625).trans h
        have g1626 := by have q := f2_ok n  _ e1624; rw [h1625] at q; exact q
        have hr := Option.some.inj h
        subst hr
        exact pv_o (F := F0) ⟨[(5, (.lit (.int .i64 ((a1619.length : Nat) : Int))), none), (6, (.lit (.bool true)), none), (12, (.lit (.bool true)), none)], []⟩ [] [] rfl (ps := [PropOf g1626, PropOf g1622, PropOf g1620]) (by kernel_rfl) ⟨g1626, g1622, g1620, trivial⟩
      · replace h := (cnd_f h1625).trans h
        have g1627 := by have q := f2_ok n  _ e1624; rw [h1625] at q; exact q
        have hr := Option.some.inj h
        subst hr
        exact pv_o (F := F0) ⟨[(5, (.lit (.int .i64 ((a1619.length : Nat) : Int))), none), (6, (.lit (.bool true)), none), (12, (.lit (.bool false)), none)], []⟩ [] [] rfl (ps := [PropOf g1627, PropOf g1622, PropOf g1620]) (by kernel_rfl) ⟨g1627, g1622, g1620, trivial⟩
    · replace h := (cnd_f h1621).trans h
      have g1628 := bool_eq h1621
      obtain ⟨v1629, e1630, h⟩ := bnd_some h
      rcases Bool.eq_false_or_eq_true (v1629) with h1631 | h1631
      · replace h := (cnd_t h1631).trans h
        have g1632 := by have q := f1_ok n a1619 5000 _ e1630; rw [h1631] at q; exact q
        obtain ⟨v1633, e1634, h⟩ := bnd_some h
        have g1635 := f3_ok n a1619 _ e1634
        obtain ⟨v1636, e1637, h⟩ := bnd_some h
        have g1638 := f4_ok n a1619 _ e1637
        obtain ⟨v1639, e1640, h⟩ := bnd_some h
        rcases Bool.eq_false_or_eq_true (v1639) with h1641 | h1641
        · replace h := (cnd_t h1641).trans h
          have g1642 := by have q := f5_ok n v1633 v1636 _ e1640; rw [h1641] at q; exact q
          have g1643 := len_sl (P := PP) (cf := evF PP T n) (fl := 0) (H := []) (f := false) (c := c_GEdit) (l := v1633)
          have g1644 := len_sl (P := PP) (cf := evF PP T n) (fl := 0) (H := []) (f := false) (c := c_GEdit) (l := a1619)
          rcases Bool.eq_false_or_eq_true (decide (((v1633.length : Nat) : Int) ≤ ((a1619.length : Nat) : Int))) with h1645 | h1645
          · replace h := (cnd_t h1645).trans h
            have g1646 := bool_eq h1645
            obtain ⟨v1647, e1648, h⟩ := bnd_some h
            have g1649 := f3_ok n v1633 _ e1648
            obtain ⟨v1650, e1651, h⟩ := bnd_some h
            rcases Bool.eq_false_or_eq_true (v1650) with h1652 | h1652
            · replace h := (cnd_t h1652).trans h
              have g1653 := by have q := f5_ok n v1647 v1633 _ e1651; rw [h1652] at q; exact q
              obtain ⟨v1654, e1655, h⟩ := bnd_some h
              rcases Bool.eq_false_or_eq_true (v1654) with h1656 | h1656
              · replace h := (cnd_t h1656).trans h
                have g1657 := by have q := f2_ok n  _ e1655; rw [h1656] at q; exact q
                have hr := Option.some.inj h
                subst hr
                exact pv_o (F := F0) ⟨[(5, (.lit (.int .i64 ((a1619.length : Nat) : Int))), none), (6, (.lit (.bool false)), none), (9, (.lit (.bool true)), none), (14, (.sl false (List.map c_GEdit v1633)), none), (17, (.sl false (List.map c_GEdit v1636)), none), (18, (.lit (.bool true)), none), (21, (.lit (.int .i64 ((v1633.length : Nat) : Int))), none), (23, (.lit (.int .i64 ((a1619.length : Nat) : Int))), none), (24, (.lit (.bool true)), none), (28, (.sl false (List.map c_GEdit v1647)), none), (30, (.lit (.bool true)), none), (33, (.lit (.bool true)), none)], []⟩ [] [] rfl (ps := [PropOf g1657, PropOf g1653, PropOf g1649, PropOf g1646, PropOf g1644, PropOf g1643, PropOf g1642, PropOf g1638, PropOf g1635, PropOf g1632, PropOf g1628, PropOf g1620]) (by kernel_rfl) ⟨g1657, g1653, g1649, g1646, g1644, g1643, g1642, g1638, g1635, g1632, g1628, g1620, trivial⟩
              · replace h := (cnd_f h1656).trans h
                have g1658 := by have q := f2_ok n  _ e1655; rw [h1656] at q; exact q
                have hr := Option.some.inj h
                subst hr
                exact pv_o (F := F0) ⟨[(5, (.lit (.int .i64 ((a1619.length : Nat) : Int))), none), (6, (.lit (.bool false)), none), (9, (.lit (.bool true)), none), (14, (.sl false (List.map c_GEdit v1633)), none), (17, (.sl false (List.map c_GEdit v1636)), none), (18, (.lit (.bool true)), none), (21, (.lit (.int .i64 ((v1633.length : Nat) : Int))), none), (23, (.lit (.int .i64 ((a1619.length : Nat) : Int))), none), (24, (.lit (.bool true)), none), (28, (.sl false (List.map c_GEdit v1647)), none), (30, (.lit (.bool true)), none), (33, (.lit (.bool false)), none)], []⟩ [] [] rfl (ps := [PropOf g1658, PropOf g1653, PropOf g1649, PropOf g1646, PropOf g1644, PropOf g1643, PropOf g1642, PropOf g1638, PropOf g1635, PropOf g1632, PropOf g1628, PropOf g1620]) (by kernel_rfl) ⟨g1658, g1653, g1649, g1646, g1644, g1643, g1642, g1638, g1635, g1632, g1628, g1620, trivial⟩
            · replace h := (cnd_f h1652).trans h
              have g1659 := by have q := f5_ok n v1647 v1633 _ e1651; rw [h1652] at q; exact q
              have hr := Option.some.inj h
              subst hr
              exact pv_o (F := F0) ⟨[(5, (.lit (.int .i64 ((a1619.length : Nat) : Int))), none), (6, (.lit (.bool false)), none), (9, (.lit (.bool true)), none), (14, (.sl false (List.map c_GEdit v1633)), none), (17, (.sl false (List.map c_GEdit v1636)), none), (18, (.lit (.bool true)), none), (21, (.lit (.int .i64 ((v1633.length : Nat) : Int))), none), (23, (.lit (.int .i64 ((a1619.length : Nat) : Int))), none), (24, (.lit (.bool true)), none), (28, (.sl false (List.map c_GEdit v1647)), none), (30, (.lit (.bool false)), none)], []⟩ [] [] rfl (ps := [PropOf g1659, PropOf g1649, PropOf g1646, PropOf g1644, PropOf g1643, PropOf g1642, PropOf g1638, PropOf g1635, PropOf g1632, PropOf g1628, PropOf g1620]) (by kernel_rfl) ⟨g1659, g1649, g1646, g1644, g1643, g1642, g1638, g1635, g1632, g1628, g1620, trivial⟩
          · replace h := (cnd_f h1645).trans h
            have g1660 := bool_eq h1645
            have hr := Option.some.inj h
            subst hr
            exact pv_o (F := F0) ⟨[(5, (.lit (.int .i64 ((a1619.length : Nat) : Int))), none), (6, (.lit (.bool false)), none), (9, (.lit (.bool true)), none), (14, (.sl false (List.map c_GEdit v1633)), none), (17, (.sl false (List.map c_GEdit v1636)), none), (18, (.lit (.bool true)), none), (21, (.lit (.int .i64 ((v1633.length : Nat) : Int))), none), (23, (.lit (.int .i64 ((a1619.length : Nat) : Int))), none), (24, (.lit (.bool false)), none)], []⟩ [] [] rfl (ps := [PropOf g1660, PropOf g1644, PropOf g1643, PropOf g1642, PropOf g1638, PropOf g1635, PropOf g1632, PropOf g1628, PropOf g1620]) (by kernel_rfl) ⟨g1660, g1644, g1643, g1642, g1638, g1635, g1632, g1628, g1620, trivial⟩
        · replace h := (cnd_f h1641).trans h
          have g1661 := by have q := f5_ok n v1633 v1636 _ e1640; rw [h1641] at q; exact q
          have hr := Option.some.inj h
          subst hr
          exact pv_o (F := F0) ⟨[(5, (.lit (.int .i64 ((a1619.length : Nat) : Int))), none), (6, (.lit (.bool false)), none), (9, (.lit (.bool true)), none), (14, (.sl false (List.map c_GEdit v1633)), none), (17, (.sl false (List.map c_GEdit v1636)), none), (18, (.lit (.bool false)), none)], []⟩ [] [] rfl (ps := [PropOf g1661, PropOf g1638, PropOf g1635, PropOf g1632, PropOf g1628, PropOf g1620]) (by kernel_rfl) ⟨g1661, g1638, g1635, g1632, g1628, g1620, trivial⟩
      · replace h := (cnd_f h1631).trans h
        have g1662 := by have q := f1_ok n a1619 5000 _ e1630; rw [h1631] at q; exact q
        obtain ⟨v1663, e1664, h⟩ := bnd_some h
        rcases Bool.eq_false_or_eq_true (v1663) with h1665 | h1665
        · replace h := (cnd_t h1665).trans h
          have g1666 := by have q := f2_ok n  _ e1664; rw [h1665] at q; exact q
          have hr := Option.some.inj h
          subst hr
          exact pv_o (F := F0) ⟨[(5, (.lit (.int .i64 ((a1619.length : Nat) : Int))), none), (6, (.lit (.bool false)), none), (9, (.lit (.bool false)), none), (12, (.lit (.bool true)), none)], []⟩ [] [] rfl (ps := [PropOf g1666, PropOf g1662, PropOf g1628, PropOf g1620]) (by kernel_rfl) ⟨g1666, g1662, g1628, g1620, trivial⟩
        · replace h := (cnd_f h1665).trans h
          have g1667 := by have q := f2_ok n  _ e1664; rw [h1665] at q; exact q
          have hr := Option.some.inj h
          subst hr
          exact pv_o (F := F0) ⟨[(5, (.lit (.int .i64 ((a1619.length : Nat) : Int))), none), (6, (.lit (.bool false)), none), (9, (.lit (.bool false)), none), (12, (.lit (.bool false)), none)], []⟩ [] [] rfl (ps := [PropOf g1667, PropOf g1662, PropOf g1628, PropOf g1620]) (by kernel_rfl) ⟨g1667, g1662, g1628, g1620, trivial⟩
end Go.Proofs.YtanonfpdkoijnaaGreatDoor.Av
