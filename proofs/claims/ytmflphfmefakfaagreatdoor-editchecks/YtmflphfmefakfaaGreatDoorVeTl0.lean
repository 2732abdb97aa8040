/- A part of the proof of EditChecksCardSaid. -/
import Derived.Test.YtmflphfmefakfaaGreatDoorVeTab
import Derived.Test.YtmflphfmefakfaaGreatDoorAvMono
import Derived.Test.YtmflphfmefakfaaGreatDoorAvClone
set_option linter.all false
namespace Go.Proofs.YtmflphfmefakfaaGreatDoor.Av
open Go
def W2 {p q : Prop} (a : p) (b : q) (z : PZ) : PZ := Z a (Z b z)
def W4 {p q r s : Prop} (a : p) (b : q) (c : r) (d : s) (z : PZ) : PZ := W2 a b (W2 c d z)
def W8 {p q r s p' q' r' s' : Prop} (a : p) (b : q) (c : r) (d : s) (a' : p') (b' : q') (c' : r') (d' : s') (z : PZ) : PZ := W4 a b c d (W4 a' b' c' d' z)
abbrev ff (k : Nat) : Nat × AV × Option Heap := (k, bf, none)
abbrev tt (k : Nat) : Nat × AV × Option Heap := (k, bt, none)
theorem pz [GlobT] {P : Program} {T : List AFun} {n vi : Nat} {args : List AV} {r : AV} (F : AFun) (o : Orc) (z : PZ) (h : oF P T n o [] [] F args = some (r, z.ps) := by kernel_rfl) (hF : getF T vi = some F := by exact rfl) : pv P T (n + 1) vi args = some r := pv_z o [] [] hF z h
set_option linter.unusedVariables false
set_option linter.unusedSimpArgs false
def c_i64 (x : Int) : List AV := [(iv x)]
theorem c_i64_len : ∀ x, (c_i64 x).length = 1 := fun _ => rfl
theorem c_i64_toP : ∀ x, (c_i64 x).map toP = c_i64 x := fun _ => rfl
theorem c_i64_seal (H : Heap) (n d : Nat) : ∀ x, (c_i64 x).map (sealC H n d) = c_i64 x := fun _ => by cases d <;> rfl
theorem c_i64_clean (n : Nat) : ∀ x, (c_i64 x).map (clean1 n) = c_i64 x := fun _ => rfl
structure GBox where
 X0 : Int
 Y0 : Int
 X1 : Int
 Y1 : Int
 deriving DecidableEq
def c_GBox (x : GBox) : List AV := [(iv x.X0), (iv x.Y0), (iv x.X1), (iv x.Y1)]
theorem c_GBox_len : ∀ x, (c_GBox x).length = 4 := fun _ => rfl
theorem c_GBox_toP : ∀ x, (c_GBox x).map toP = c_GBox x := fun _ => rfl
theorem c_GBox_seal (H : Heap) (n d : Nat) : ∀ x, (c_GBox x).map (sealC H n d) = c_GBox x := fun _ => by cases d <;> rfl
theorem c_GBox_clean (n : Nat) : ∀ x, (c_GBox x).map (clean1 n) = c_GBox x := fun _ => rfl
structure GPoint where
 X : Int
 Y : Int
 deriving DecidableEq
def c_GPoint (x : GPoint) : List AV := [(iv x.X), (iv x.Y)]
theorem c_GPoint_len : ∀ x, (c_GPoint x).length = 2 := fun _ => rfl
theorem c_GPoint_toP : ∀ x, (c_GPoint x).map toP = c_GPoint x := fun _ => rfl
theorem c_GPoint_seal (H : Heap) (n d : Nat) : ∀ x, (c_GPoint x).map (sealC H n d) = c_GPoint x := fun _ => by cases d <;> rfl
theorem c_GPoint_clean (n : Nat) : ∀ x, (c_GPoint x).map (clean1 n) = c_GPoint x := fun _ => rfl
def c_LGPoint (x : (List GPoint)) : List AV := [(.sl false (List.map c_GPoint x))]
theorem c_LGPoint_len : ∀ x, (c_LGPoint x).length = 1 := fun _ => rfl
theorem c_LGPoint_toP : ∀ x, (c_LGPoint x).map toP = c_LGPoint x := fun _ => rfl
theorem c_LGPoint_seal (H : Heap) (n d : Nat) : ∀ x, (c_LGPoint x).map (sealC H n d) = c_LGPoint x := fun _ => by cases d <;> rfl
theorem c_LGPoint_clean (n : Nat) : ∀ x, (c_LGPoint x).map (clean1 n) = c_LGPoint x := fun _ => rfl
def c_str (x : ByteArray) : List AV := [(sv x)]
theorem c_str_len : ∀ x, (c_str x).length = 1 := fun _ => rfl
theorem c_str_toP : ∀ x, (c_str x).map toP = c_str x := fun _ => rfl
theorem c_str_seal (H : Heap) (n d : Nat) : ∀ x, (c_str x).map (sealC H n d) = c_str x := fun _ => by cases d <;> rfl
theorem c_str_clean (n : Nat) : ∀ x, (c_str x).map (clean1 n) = c_str x := fun _ => rfl
def c_Li64 (x : (List Int)) : List AV := [(.sl false (List.map c_i64 x))]
theorem c_Li64_len : ∀ x, (c_Li64 x).length = 1 := fun _ => rfl
theorem c_Li64_toP : ∀ x, (c_Li64 x).map toP = c_Li64 x := fun _ => rfl
theorem c_Li64_seal (H : Heap) (n d : Nat) : ∀ x, (c_Li64 x).map (sealC H n d) = c_Li64 x := fun _ => by cases d <;> rfl
theorem c_Li64_clean (n : Nat) : ∀ x, (c_Li64 x).map (clean1 n) = c_Li64 x := fun _ => rfl
structure GEdit where
 Kind : Int
 ID : Int
 A : Int
 B : Int
 C : Int
 At : GPoint
 Via : (List GPoint)
 Name : ByteArray
 Parts : (List Int)
 deriving DecidableEq
def c_GEdit (x : GEdit) : List AV := [(iv x.Kind), (iv x.ID), (iv x.A), (iv x.B), (iv x.C), (iv x.At.X), (iv x.At.Y), (.sl false (List.map c_GPoint x.Via)), (sv x.Name), (.sl false (List.map c_i64 x.Parts))]
theorem c_GEdit_len : ∀ x, (c_GEdit x).length = 10 := fun _ => rfl
theorem c_GEdit_toP : ∀ x, (c_GEdit x).map toP = c_GEdit x := fun _ => rfl
theorem c_GEdit_seal (H : Heap) (n d : Nat) : ∀ x, (c_GEdit x).map (sealC H n d) = c_GEdit x := fun _ => by cases d <;> rfl
theorem c_GEdit_clean (n : Nat) : ∀ x, (c_GEdit x).map (clean1 n) = c_GEdit x := fun _ => rfl
theorem eq_i_3 (a b : Int) : pureRun PP (Op.equalIn 9999 3 (.int .i64 a) (.int .i64 b)) = some (a == b) := by kernel_rfl
theorem c_GPoint_eqv (a b c d : Int) : pureRun PP (Op.equal 23 (.agg #[.int .i64 a, .int .i64 b]) (.agg #[.int .i64 c, .int .i64 d])) = some (a == c && b == d) := by
 have h1 : pureRun PP (underlying 23) = some (.struct #[{ name := "X", type := 3, offset := 0, embedded := false, tag := "", pkgPath := "", byteOffset := 0 }, { name := "Y", type := 3, offset := 1, embedded := false, tag := "", pkgPath := "", byteOffset := 8 }]) := by kernel_rfl
 have h3 : ∀ x y : Value, pureRun PP (part 3 #[x, y] 0) = some x := by intro x y; kernel_rfl
 have h4 : ∀ x y : Value, pureRun PP (part 3 #[x, y] 1) = some y := by intro x y; kernel_rfl
 have h5 : pureRun PP program = some PP := rfl
 have h6 : Program.stoodInHeld PP 23 = false := by kernel_rfl
 have n1 : ¬ ("X" = "_") := by decide
 have n2 : ¬ ("Y" = "_") := by decide
 unfold Op.equal Op.maxDepth
 rw [Op.equalIn]
 simp only [pureRun_bind, h1, Option.bind_some, h5, h6, Bool.false_eq_true, if_false, List.forIn_toArray, List.forIn_cons, List.forIn_nil, n1, n2, ne_eq, not_false_eq_true, if_true, h3, h4, eq_i_3, pureRun_pure]
 cases h7 : (a == c)
 ·rfl
 ·simp only [Bool.not_true, Bool.false_eq_true, if_false, pureRun_pure, Option.bind_some, pureRun_bind, h3, h4, eq_i_3, n1, n2, ne_eq, not_false_eq_true, if_true]
  cases h8 : (b == d) <;> rfl
theorem c_GPoint_dec (a b : GPoint) : decide (a = b) = (a.X == b.X && a.Y == b.Y) := by
 cases a; cases b
 simp only [GPoint.mk.injEq, Bool.decide_and]
 rfl
theorem c_GPoint_eql {cf : Nat → Nat → List AV → Heap → Option (AV × Heap)} {fl : Nat} {H : Heap} {a b : GPoint} {r : Bool} (h : decide (a = b) = r) : evOp PP cf fl (.bin .eql 23 (.tmp 0) (.tmp 1)) [.agg (c_GPoint a), .agg (c_GPoint b)] H = some (.lit (.bool (r)), H) := by
 have g : pureRun PP (eqGuard .eql 23 (.tmp 0) (.tmp 0) (.agg #[.int .i64 a.X, .int .i64 a.Y]) (.agg #[.int .i64 b.X, .int .i64 b.Y])) = some () := by kernel_rfl
 have e : pureRun PP (binOp .eql 23 (.agg #[.int .i64 a.X, .int .i64 a.Y]) (.agg #[.int .i64 b.X, .int .i64 b.Y])) = some (.bool (r)) := by
  simp only [binOp, pureRun_bind, c_GPoint_eqv, Option.bind_some, pureRun_pure, ← h, c_GPoint_dec]
 have hl : ∀ a : GPoint, lits (.agg (c_GPoint a)) = some (.agg #[.int .i64 a.X, .int .i64 a.Y]) := fun _ => rfl
 simp only [evOp, getOpd, List.getElem?_cons_zero, List.getElem?_cons_succ, hl, notNil, if_true, g, e]
theorem c_GPoint_neq {cf : Nat → Nat → List AV → Heap → Option (AV × Heap)} {fl : Nat} {H : Heap} {a b : GPoint} {r : Bool} (h : decide (a = b) = r) : evOp PP cf fl (.bin .neq 23 (.tmp 0) (.tmp 1)) [.agg (c_GPoint a), .agg (c_GPoint b)] H = some (.lit (.bool (!r)), H) := by
 have g : pureRun PP (eqGuard .neq 23 (.tmp 0) (.tmp 0) (.agg #[.int .i64 a.X, .int .i64 a.Y]) (.agg #[.int .i64 b.X, .int .i64 b.Y])) = some () := by kernel_rfl
 have e : pureRun PP (binOp .neq 23 (.agg #[.int .i64 a.X, .int .i64 a.Y]) (.agg #[.int .i64 b.X, .int .i64 b.Y])) = some (.bool (!r)) := by
  simp only [binOp, pureRun_bind, c_GPoint_eqv, Option.bind_some, pureRun_pure, ← h, c_GPoint_dec]
 have hl : ∀ a : GPoint, lits (.agg (c_GPoint a)) = some (.agg #[.int .i64 a.X, .int .i64 a.Y]) := fun _ => rfl
 simp only [evOp, getOpd, List.getElem?_cons_zero, List.getElem?_cons_succ, hl, notNil, if_true, g, e]
def c_i32 (x : Int) : List AV := [(.lit (.int .i32 x))]
theorem c_i32_len : ∀ x, (c_i32 x).length = 1 := fun _ => rfl
theorem c_i32_toP : ∀ x, (c_i32 x).map toP = c_i32 x := fun _ => rfl
theorem c_i32_seal (H : Heap) (n d : Nat) : ∀ x, (c_i32 x).map (sealC H n d) = c_i32 x := fun _ => by cases d <;> rfl
theorem c_i32_clean (n : Nat) : ∀ x, (c_i32 x).map (clean1 n) = c_i32 x := fun _ => rfl
structure GT196 where
 first : Int
 last : Int
 script : Int
 deriving DecidableEq
def c_GT196 (x : GT196) : List AV := [(.lit (.int .i32 x.first)), (.lit (.int .i32 x.last)), (iv x.script)]
theorem c_GT196_len : ∀ x, (c_GT196 x).length = 3 := fun _ => rfl
theorem c_GT196_toP : ∀ x, (c_GT196 x).map toP = c_GT196 x := fun _ => rfl
theorem c_GT196_seal (H : Heap) (n d : Nat) : ∀ x, (c_GT196 x).map (sealC H n d) = c_GT196 x := fun _ => by cases d <;> rfl
theorem c_GT196_clean (n : Nat) : ∀ x, (c_GT196 x).map (clean1 n) = c_GT196 x := fun _ => rfl
def tab0 : List GT196 := [(GT196.mk 32 32 0), (GT196.mk 39 41 0), (GT196.mk 45 46 0), (GT196.mk 48 57 0), (GT196.mk 65 90 1), (GT196.mk 97 122 1), (GT196.mk 192 214 1), (GT196.mk 216 246 1), (GT196.mk 248 591 1), (GT196.mk 880 1023 2), (GT196.mk 1024 1279 3), (GT196.mk 1488 1514 4), (GT196.mk 19968 40959 5)]
theorem lenStr_9 {cf : Nat → Nat → List AV → Heap → Option (AV × Heap)} {fl : Nat} {H : Heap} (s : ByteArray) : evOp PP cf fl (.lenStr 9 (.tmp 0)) [.lit (.string s)] H = some (.lit (.int .i64 ((s.size : Nat) : Int)), H) := by kernel_rfl
def f46 (n : Nat) (s t : ByteArray) : Option Bool := match n with
 | 0 => none
 | _ + 1 => match Nat.blt s.size 4294967281 with
  | true => some (Lib.contains s.data.toList t.data.toList)
  | false => none
theorem f46_ok (n : Nat) (s t : ByteArray) (r : Bool) (h : f46 n s t = some r) : pv PP T n 46 [.lit (.string s), .lit (.string t)] = some (.lit (.bool r)) := by
 cases n with
 | zero => cases h
 | succ n =>
  simp only [f46] at h
  have e : pv PP T (n + 1) 46 [.lit (.string s), .lit (.string t)] = (match contA 0 [.lit (.string s), .lit (.string t)] [] with | some (r, H') => some (seal3 H' 0 r) | none => none) := rfl
  rw [e]
  simp only [contA]
  split at h
  ·rename_i hb
   cases h
   rw [hb]; rfl
  ·cases h
def f42 : Nat → GBox → GPoint → Option Bool
 | 0, _, _ => none
 | n + 1, a1, a2 => (cnd (decide (a1.X0 ≤ a2.X)) (cnd (decide (a2.X ≤ a1.X1)) (cnd (decide (a1.Y0 ≤ a2.Y)) (cnd (decide (a2.Y ≤ a1.Y1)) (some true) (some false)) (some false)) (some false)) (some false))
theorem f42_ok (n : Nat) (a1 : GBox) (a2 : GPoint) (r : Bool) (h : f42 n a1 a2 = some r) : pv PP T n 42 [(.agg (c_GBox a1)), (.agg (c_GPoint a2))] = some (bv r) := by
 cases n with
 | zero => cases h
 | succ n =>
  rw [f42] at h
  rcases cnd_or h with ⟨h3, h⟩ | ⟨h3, h⟩
  rotate_left
  ·have g14 := bool_eq h3
   cases h
   exact pz F42 ⟨[ff 9], []⟩ (Z g14 Z0)
  have g4 := bool_eq h3
  rcases cnd_or h with ⟨h5, h⟩ | ⟨h5, h⟩
  rotate_left
  ·have g13 := bool_eq h5
   cases h
   exact pz F42 ⟨[tt 9, ff 15], []⟩ (W2 g13 g4 Z0)
  have g6 := bool_eq h5
  rcases cnd_or h with ⟨h7, h⟩ | ⟨h7, h⟩
  rotate_left
  ·have g12 := bool_eq h7
   cases h
   exact pz F42 ⟨[tt 9, tt 15, ff 22], []⟩ (W2 g12 g6 <| Z g4 Z0)
  have g8 := bool_eq h7
  rcases cnd_or h with ⟨h9, h⟩ | ⟨h9, h⟩
  ·have g10 := bool_eq h9
   cases h
   exact pz F42 ⟨[tt 9, tt 15, tt 22, tt 29], []⟩ (W4 g10 g8 g6 g4 Z0)
  have g11 := bool_eq h9
  cases h
  exact pz F42 ⟨[tt 9, tt 15, tt 22, ff 29], []⟩ (W4 g11 g8 g6 g4 Z0)
def f4 : Nat → Int → Option Int
 | 0, _ => none
 | n + 1, a15 => (cnd (a15 == 1) (some 1) (cnd (a15 == 2) (some 1) (cnd (a15 == 8) (some 1) (cnd (a15 == 3) (some 2) (cnd (a15 == 4) (some 2) (cnd (a15 == 5) (some 3) (cnd (a15 == 6) (some 3) (cnd (a15 == 7) (some 3) (some 0)))))))))
theorem f4_ok (n : Nat) (a15 : Int) (r : Int) (h : f4 n a15 = some r) : pv PP T n 4 [(iv a15)] = some (iv r) := by
 cases n with
 | zero => cases h
 | succ n =>
  rw [f4] at h
  rcases cnd_or h with ⟨h16, h⟩ | ⟨h16, h⟩
  ·have g17 := bool_eq h16
   cases h
   exact pz F4 ⟨[tt 5], []⟩ (Z g17 Z0)
  have g18 := bool_eq h16
  rcases cnd_or h with ⟨h19, h⟩ | ⟨h19, h⟩
  ·have g20 := bool_eq h19
   cases h
   exact pz F4 ⟨[ff 5, tt 7], []⟩ (W2 g20 g18 Z0)
  have g21 := bool_eq h19
  rcases cnd_or h with ⟨h22, h⟩ | ⟨h22, h⟩
  ·have g23 := bool_eq h22
   cases h
   exact pz F4 ⟨[ff 5, ff 7, tt 9], []⟩ (W2 g23 g21 <| Z g18 Z0)
  have g24 := bool_eq h22
  rcases cnd_or h with ⟨h25, h⟩ | ⟨h25, h⟩
  ·have g26 := bool_eq h25
   cases h
   exact pz F4 ⟨[ff 5, ff 7, ff 9, tt 11], []⟩ (W4 g26 g24 g21 g18 Z0)
  have g27 := bool_eq h25
  rcases cnd_or h with ⟨h28, h⟩ | ⟨h28, h⟩
  ·have g29 := bool_eq h28
   cases h
   exact pz F4 ⟨[ff 5, ff 7, ff 9, ff 11, tt 13], []⟩ (W4 g29 g27 g24 g21 <| Z g18 Z0)
  have g30 := bool_eq h28
  rcases cnd_or h with ⟨h31, h⟩ | ⟨h31, h⟩
  ·have g32 := bool_eq h31
   cases h
   exact pz F4 ⟨[ff 5, ff 7, ff 9, ff 11, ff 13, tt 15], []⟩ (W4 g32 g30 g27 g24 <| W2 g21 g18 Z0)
  have g33 := bool_eq h31
  rcases cnd_or h with ⟨h34, h⟩ | ⟨h34, h⟩
  ·have g35 := bool_eq h34
   cases h
   exact pz F4 ⟨[ff 5, ff 7, ff 9, ff 11, ff 13, ff 15, tt 17], []⟩ (W4 g35 g33 g30 g27 <| W2 g24 g21 <| Z g18 Z0)
  have g36 := bool_eq h34
  rcases cnd_or h with ⟨h37, h⟩ | ⟨h37, h⟩
  ·have g38 := bool_eq h37
   cases h
   exact pz F4 ⟨[ff 5, ff 7, ff 9, ff 11, ff 13, ff 15, ff 17, tt 19], []⟩ (W8 g38 g36 g33 g30 g27 g24 g21 g18 Z0)
  have g39 := bool_eq h37
  cases h
  exact pz F4 ⟨[ff 5, ff 7, ff 9, ff 11, ff 13, ff 15, ff 17, ff 19], []⟩ (W8 g39 g36 g33 g30 g27 g24 g21 g18 Z0)
abbrev hp0 (a40 : GEdit) : Heap := [(.blk 10 [(c_GEdit (GEdit.mk a40.Kind a40.ID a40.A a40.B a40.C (GPoint.mk 0 0) a40.Via a40.Name a40.Parts))])]
abbrev hp1 (a40 : GEdit) : Heap := [(.blk 10 [[(iv a40.Kind), (iv a40.ID), (iv 0), (iv 0), (iv 0), (iv a40.At.X), (iv a40.At.Y), (.lit nilS), (sv a40.Name), (.sl false (List.map c_i64 a40.Parts))]])]
abbrev hp2 (a40 : GEdit) : Heap := [(.blk 10 [[(iv a40.Kind), (iv a40.ID), (iv a40.A), (iv a40.B), (iv a40.C), (iv a40.At.X), (iv a40.At.Y), (.lit nilS), (sv a40.Name), (.sl false (List.map c_i64 a40.Parts))]])]
abbrev hp3 (a40 : GEdit) : Heap := [(.blk 10 [[(iv a40.Kind), (iv a40.ID), (iv 0), (iv 0), (iv a40.C), (iv a40.At.X), (iv a40.At.Y), (.sl false (List.map c_GPoint a40.Via)), (sv (⟨#[]⟩)), (.lit nilS)]])]
abbrev hp4 (a40 : GEdit) : Heap := [(.blk 10 [(c_GEdit (GEdit.mk a40.Kind a40.ID a40.A a40.B a40.C a40.At a40.Via ⟨#[]⟩ a40.Parts))])]
abbrev hp5 (a40 : GEdit) : Heap := [(.blk 10 [(c_GEdit (GEdit.mk a40.Kind a40.ID a40.A 0 a40.C a40.At a40.Via a40.Name a40.Parts))])]
abbrev hp6 (a40 : GEdit) : Heap := [(.blk 10 [[(iv a40.Kind), (iv a40.ID), (iv a40.A), (iv a40.B), (iv a40.C), (iv a40.At.X), (iv a40.At.Y), (.sl false (List.map c_GPoint a40.Via)), (sv a40.Name), (.lit nilS)]])]
abbrev hp7 (a40 : GEdit) : Heap := [(.blk 10 [(c_GEdit (GEdit.mk a40.Kind a40.ID 0 a40.B a40.C a40.At a40.Via a40.Name a40.Parts))])]
def f5 : Nat → GEdit → Option Bool
 | 0, _ => none
 | n + 1, a40 => (cnd (a40.Kind == 1) (cnd (a40.A != 0) (some true) (cnd (a40.B != 0) (some true) (cnd (a40.C != 0) (some true) (cnd (decide (((a40.Via.length : Nat) : Int) > 0)) (some true) (cnd (decide (a40.Name = (⟨#[]⟩ : ByteArray))) (cnd (decide (((a40.Parts.length : Nat) : Int) > 0)) (some true) (some false)) (some true)))))) (cnd (a40.Kind == 3) (cnd (a40.A != 0) (some true) (cnd (a40.B != 0) (some true) (cnd (a40.C != 0) (some true) (cnd (decide (((a40.Via.length : Nat) : Int) > 0)) (some true) (cnd (decide (a40.Name = (⟨#[]⟩ : ByteArray))) (cnd (decide (((a40.Parts.length : Nat) : Int) > 0)) (some true) (some false)) (some true)))))) (cnd (a40.Kind == 4) (cnd (decide (a40.At = (GPoint.mk 0 0))) (cnd (decide (a40.Name = (⟨#[]⟩ : ByteArray))) (cnd (decide (((a40.Parts.length : Nat) : Int) > 0)) (some true) (some false)) (some true)) (some true)) (cnd (a40.Kind == 6) (cnd (a40.A != 0) (some true) (cnd (a40.B != 0) (some true) (cnd (a40.C != 0) (some true) (cnd (decide (a40.At = (GPoint.mk 0 0))) (cnd (decide (a40.Name = (⟨#[]⟩ : ByteArray))) (cnd (decide (((a40.Parts.length : Nat) : Int) > 0)) (some true) (some false)) (some true)) (some true))))) (cnd (a40.Kind == 7) (cnd (a40.C != 0) (some true) (cnd (decide (a40.At = (GPoint.mk 0 0))) (cnd (decide (((a40.Via.length : Nat) : Int) > 0)) (some true) (some false)) (some true))) (cnd (a40.Kind == 9) (cnd (a40.A != 0) (some true) (cnd (a40.B != 0) (some true) (cnd (a40.C != 0) (some true) (cnd (decide (a40.At = (GPoint.mk 0 0))) (cnd (decide (((a40.Via.length : Nat) : Int) > 0)) (some true) (cnd (decide (((a40.Parts.length : Nat) : Int) > 0)) (some true) (some false))) (some true))))) (cnd (a40.Kind == 10) (cnd (a40.A != 0) (some true) (cnd (a40.C != 0) (some true) (cnd (decide (a40.At = (GPoint.mk 0 0))) (cnd (decide (((a40.Via.length : Nat) : Int) > 0)) (some true) (cnd (decide (a40.Name = (⟨#[]⟩ : ByteArray))) (cnd (decide (((a40.Parts.length : Nat) : Int) > 0)) (some true) (some false)) (some true))) (some true)))) (cnd (a40.Kind == 11) (cnd (a40.A != 0) (some true) (cnd (a40.B != 0) (some true) (cnd (a40.C != 0) (some true) (cnd (decide (a40.At = (GPoint.mk 0 0))) (cnd (decide (((a40.Via.length : Nat) : Int) > 0)) (some true) (cnd (decide (a40.Name = (⟨#[]⟩ : ByteArray))) (some false) (some true))) (some true))))) (cnd (a40.Kind == 12) (cnd (a40.B != 0) (some true) (cnd (a40.C != 0) (some true) (cnd (decide (a40.At = (GPoint.mk 0 0))) (cnd (decide (((a40.Via.length : Nat) : Int) > 0)) (some true) (cnd (decide (a40.Name = (⟨#[]⟩ : ByteArray))) (cnd (decide (((a40.Parts.length : Nat) : Int) > 0)) (some true) (some false)) (some true))) (some true)))) (cnd (a40.A != 0) (some true) (cnd (a40.B != 0) (some true) (cnd (a40.C != 0) (some true) (cnd (decide (a40.At = (GPoint.mk 0 0))) (cnd (decide (((a40.Via.length : Nat) : Int) > 0)) (some true) (cnd (decide (a40.Name = (⟨#[]⟩ : ByteArray))) (cnd (decide (((a40.Parts.length : Nat) : Int) > 0)) (some true) (some false)) (some true))) (some true))))))))))))))
theorem f5_ok (n : Nat) (a40 : GEdit) (r : Bool) (h : f5 n a40 = some r) : pv PP T n 5 [(.agg (c_GEdit a40))] = some (bv r) := by
 cases n with
 | zero => cases h
 | succ n =>
  rw [f5] at h
  rcases cnd_or h with ⟨h41, h⟩ | ⟨h41, h⟩
  ·have g42 := bool_eq h41
   rcases cnd_or h with ⟨h43, h⟩ | ⟨h43, h⟩
   ·have g44 := bool_eq h43
    cases h
    exact pv_z (F := F5) ⟨[tt 6, tt 39], []⟩ [] [none] rfl (W2 g44 g42 Z0) (by kernel_rfl)
   have g45 := bool_eq h43
   rcases cnd_or h with ⟨h46, h⟩ | ⟨h46, h⟩
   ·have g47 := bool_eq h46
    cases h
    exact pv_z (F := F5) ⟨[tt 6, ff 39, tt 43], []⟩ [] [none] rfl (W2 g47 g45 <| Z g42 Z0) (by kernel_rfl)
   have g48 := bool_eq h46
   rcases cnd_or h with ⟨h49, h⟩ | ⟨h49, h⟩
   ·have g50 := bool_eq h49
    cases h
    exact pv_z (F := F5) ⟨[tt 6, ff 39, ff 43, tt 48], []⟩ [] [none] rfl (W4 g50 g48 g45 g42 Z0) (by kernel_rfl)
   have g51 := bool_eq h49
   have g52 := len_sl (P := PP) (cf := evF PP T n) (fl := 0) (H := (hp0 a40)) (f := false) (c := c_GPoint) (l := a40.Via)
   rcases cnd_or h with ⟨h53, h⟩ | ⟨h53, h⟩
   ·have g54 := bool_eq h53
    cases h
    exact pv_z (F := F5) ⟨[tt 6, ff 39, ff 43, ff 48, (59, (iv ((a40.Via.length : Nat) : Int)), none), tt 60], []⟩ [] [none] rfl (W4 g54 g52 g51 g48 <| W2 g45 g42 Z0) (by kernel_rfl)
   have g55 := bool_eq h53
   rcases cnd_or h with ⟨h56, h⟩ | ⟨h56, h⟩
   rotate_left
   ·have g62 := c_str_neq (P := PP) (cf := evF PP T n) (fl := 0) (H := (hp0 a40)) (t := 9) h56
    cases h
    exact pv_z (F := F5) ⟨[tt 6, ff 39, ff 43, ff 48, (59, (iv ((a40.Via.length : Nat) : Int)), none), ff 60, tt 65], []⟩ [] [none] rfl (W4 g62 g55 g52 g51 <| W2 g48 g45 <| Z g42 Z0) (by kernel_rfl)
   have g57 := c_str_neq (P := PP) (cf := evF PP T n) (fl := 0) (H := (hp0 a40)) (t := 9) h56
   have g58 := len_sl (P := PP) (cf := evF PP T n) (fl := 0) (H := (hp0 a40)) (f := false) (c := c_i64) (l := a40.Parts)
   rcases cnd_or h with ⟨h59, h⟩ | ⟨h59, h⟩
   ·have g60 := bool_eq h59
    cases h
    exact pv_z (F := F5) ⟨[tt 6, ff 39, ff 43, ff 48, (59, (iv ((a40.Via.length : Nat) : Int)), none), ff 60, ff 65, (70, (iv ((a40.Parts.length : Nat) : Int)), none), tt 71], []⟩ [] [none] rfl (W8 g60 g58 g57 g55 g52 g51 g48 g45 <| Z g42 Z0) (by kernel_rfl)
   have g61 := bool_eq h59
   cases h
   exact pv_z (F := F5) ⟨[tt 6, ff 39, ff 43, ff 48, (59, (iv ((a40.Via.length : Nat) : Int)), none), ff 60, ff 65, (70, (iv ((a40.Parts.length : Nat) : Int)), none), ff 71], []⟩ [] [none] rfl (W8 g61 g58 g57 g55 g52 g51 g48 g45 <| Z g42 Z0) (by kernel_rfl)
  have g63 := bool_eq h41
  rcases cnd_or h with ⟨h64, h⟩ | ⟨h64, h⟩
  ·have g65 := bool_eq h64
   rcases cnd_or h with ⟨h66, h⟩ | ⟨h66, h⟩
   ·have g67 := bool_eq h66
    cases h
    exact pv_z (F := F5) ⟨[ff 6, tt 7, tt 39], []⟩ [] [none] rfl (W2 g67 g65 <| Z g63 Z0) (by kernel_rfl)
   have g68 := bool_eq h66
   rcases cnd_or h with ⟨h69, h⟩ | ⟨h69, h⟩
   ·have g70 := bool_eq h69
    cases h
    exact pv_z (F := F5) ⟨[ff 6, tt 7, ff 39, tt 43], []⟩ [] [none] rfl (W4 g70 g68 g65 g63 Z0) (by kernel_rfl)
   have g71 := bool_eq h69
   rcases cnd_or h with ⟨h72, h⟩ | ⟨h72, h⟩
   ·have g73 := bool_eq h72
    cases h
    exact pv_z (F := F5) ⟨[ff 6, tt 7, ff 39, ff 43, tt 48], []⟩ [] [none] rfl (W4 g73 g71 g68 g65 <| Z g63 Z0) (by kernel_rfl)
   have g74 := bool_eq h72
   have g75 := len_sl (P := PP) (cf := evF PP T n) (fl := 0) (H := (hp0 a40)) (f := false) (c := c_GPoint) (l := a40.Via)
   rcases cnd_or h with ⟨h76, h⟩ | ⟨h76, h⟩
   ·have g77 := bool_eq h76
    cases h
    exact pv_z (F := F5) ⟨[ff 6, tt 7, ff 39, ff 43, ff 48, (59, (iv ((a40.Via.length : Nat) : Int)), none), tt 60], []⟩ [] [none] rfl (W4 g77 g75 g74 g71 <| W2 g68 g65 <| Z g63 Z0) (by kernel_rfl)
   have g78 := bool_eq h76
   rcases cnd_or h with ⟨h79, h⟩ | ⟨h79, h⟩
   rotate_left
   ·have g85 := c_str_neq (P := PP) (cf := evF PP T n) (fl := 0) (H := (hp0 a40)) (t := 9) h79
    cases h
    exact pv_z (F := F5) ⟨[ff 6, tt 7, ff 39, ff 43, ff 48, (59, (iv ((a40.Via.length : Nat) : Int)), none), ff 60, tt 65], []⟩ [] [none] rfl (W8 g85 g78 g75 g74 g71 g68 g65 g63 Z0) (by kernel_rfl)
   have g80 := c_str_neq (P := PP) (cf := evF PP T n) (fl := 0) (H := (hp0 a40)) (t := 9) h79
   have g81 := len_sl (P := PP) (cf := evF PP T n) (fl := 0) (H := (hp0 a40)) (f := false) (c := c_i64) (l := a40.Parts)
   rcases cnd_or h with ⟨h82, h⟩ | ⟨h82, h⟩
   ·have g83 := bool_eq h82
    cases h
    exact pv_z (F := F5) ⟨[ff 6, tt 7, ff 39, ff 43, ff 48, (59, (iv ((a40.Via.length : Nat) : Int)), none), ff 60, ff 65, (70, (iv ((a40.Parts.length : Nat) : Int)), none), tt 71], []⟩ [] [none] rfl (W8 g83 g81 g80 g78 g75 g74 g71 g68 <| W2 g65 g63 Z0) (by kernel_rfl)
   have g84 := bool_eq h82
   cases h
   exact pv_z (F := F5) ⟨[ff 6, tt 7, ff 39, ff 43, ff 48, (59, (iv ((a40.Via.length : Nat) : Int)), none), ff 60, ff 65, (70, (iv ((a40.Parts.length : Nat) : Int)), none), ff 71], []⟩ [] [none] rfl (W8 g84 g81 g80 g78 g75 g74 g71 g68 <| W2 g65 g63 Z0) (by kernel_rfl)
  have g86 := bool_eq h64
  rcases cnd_or h with ⟨h87, h⟩ | ⟨h87, h⟩
  ·have g88 := bool_eq h87
   rcases cnd_or h with ⟨h89, h⟩ | ⟨h89, h⟩
   rotate_left
   ·have g98 := c_GPoint_neq (cf := evF PP T n) (fl := 0) (H := (hp1 a40)) (a := a40.At) (b := (GPoint.mk 0 0)) h89
    cases h
    exact pv_z (F := F5) ⟨[ff 6, ff 7, tt 11, tt 54], []⟩ [] [none, none, none, none] rfl (W4 g98 g88 g86 g63 Z0) (by kernel_rfl)
   have g90 := c_GPoint_neq (cf := evF PP T n) (fl := 0) (H := (hp1 a40)) (a := a40.At) (b := (GPoint.mk 0 0)) h89
   rcases cnd_or h with ⟨h91, h⟩ | ⟨h91, h⟩
   rotate_left
   ·have g97 := c_str_neq (P := PP) (cf := evF PP T n) (fl := 0) (H := (hp1 a40)) (t := 9) h91
    cases h
    exact pv_z (F := F5) ⟨[ff 6, ff 7, tt 11, ff 54, tt 65], []⟩ [] [none, none, none, none] rfl (W4 g97 g90 g88 g86 <| Z g63 Z0) (by kernel_rfl)
   have g92 := c_str_neq (P := PP) (cf := evF PP T n) (fl := 0) (H := (hp1 a40)) (t := 9) h91
   have g93 := len_sl (P := PP) (cf := evF PP T n) (fl := 0) (H := (hp1 a40)) (f := false) (c := c_i64) (l := a40.Parts)
   rcases cnd_or h with ⟨h94, h⟩ | ⟨h94, h⟩
   ·have g95 := bool_eq h94
    cases h
    exact pv_z (F := F5) ⟨[ff 6, ff 7, tt 11, ff 54, ff 65, (70, (iv ((a40.Parts.length : Nat) : Int)), none), tt 71], []⟩ [] [none, none, none, none] rfl (W4 g95 g93 g92 g90 <| W2 g88 g86 <| Z g63 Z0) (by kernel_rfl)
   have g96 := bool_eq h94
   cases h
   exact pv_z (F := F5) ⟨[ff 6, ff 7, tt 11, ff 54, ff 65, (70, (iv ((a40.Parts.length : Nat) : Int)), none), ff 71], []⟩ [] [none, none, none, none] rfl (W4 g96 g93 g92 g90 <| W2 g88 g86 <| Z g63 Z0) (by kernel_rfl)
  have g99 := bool_eq h87
  rcases cnd_or h with ⟨h100, h⟩ | ⟨h100, h⟩
  ·have g101 := bool_eq h100
   rcases cnd_or h with ⟨h102, h⟩ | ⟨h102, h⟩
   ·have g103 := bool_eq h102
    cases h
    exact pv_z (F := F5) ⟨[ff 6, ff 7, ff 11, tt 17, tt 39], []⟩ [] [none] rfl (W4 g103 g101 g99 g86 <| Z g63 Z0) (by kernel_rfl)
   have g104 := bool_eq h102
   rcases cnd_or h with ⟨h105, h⟩ | ⟨h105, h⟩
   ·have g106 := bool_eq h105
    cases h
    exact pv_z (F := F5) ⟨[ff 6, ff 7, ff 11, tt 17, ff 39, tt 43], []⟩ [] [none] rfl (W4 g106 g104 g101 g99 <| W2 g86 g63 Z0) (by kernel_rfl)
   have g107 := bool_eq h105
   rcases cnd_or h with ⟨h108, h⟩ | ⟨h108, h⟩
   ·have g109 := bool_eq h108
    cases h
    exact pv_z (F := F5) ⟨[ff 6, ff 7, ff 11, tt 17, ff 39, ff 43, tt 48], []⟩ [] [none] rfl (W4 g109 g107 g104 g101 <| W2 g99 g86 <| Z g63 Z0) (by kernel_rfl)
   have g110 := bool_eq h108
   rcases cnd_or h with ⟨h111, h⟩ | ⟨h111, h⟩
   rotate_left
   ·have g120 := c_GPoint_neq (cf := evF PP T n) (fl := 0) (H := (hp2 a40)) (a := a40.At) (b := (GPoint.mk 0 0)) h111
    cases h
    exact pv_z (F := F5) ⟨[ff 6, ff 7, ff 11, tt 17, ff 39, ff 43, ff 48, tt 54], []⟩ [] [none] rfl (W8 g120 g110 g107 g104 g101 g99 g86 g63 Z0) (by kernel_rfl)
   have g112 := c_GPoint_neq (cf := evF PP T n) (fl := 0) (H := (hp2 a40)) (a := a40.At) (b := (GPoint.mk 0 0)) h111
   rcases cnd_or h with ⟨h113, h⟩ | ⟨h113, h⟩
   rotate_left
   ·have g119 := c_str_neq (P := PP) (cf := evF PP T n) (fl := 0) (H := (hp2 a40)) (t := 9) h113
    cases h
    exact pv_z (F := F5) ⟨[ff 6, ff 7, ff 11, tt 17, ff 39, ff 43, ff 48, ff 54, tt 65], []⟩ [] [none] rfl (W8 g119 g112 g110 g107 g104 g101 g99 g86 <| Z g63 Z0) (by kernel_rfl)
   have g114 := c_str_neq (P := PP) (cf := evF PP T n) (fl := 0) (H := (hp2 a40)) (t := 9) h113
   have g115 := len_sl (P := PP) (cf := evF PP T n) (fl := 0) (H := (hp2 a40)) (f := false) (c := c_i64) (l := a40.Parts)
   rcases cnd_or h with ⟨h116, h⟩ | ⟨h116, h⟩
   ·have g117 := bool_eq h116
    cases h
    exact pv_z (F := F5) ⟨[ff 6, ff 7, ff 11, tt 17, ff 39, ff 43, ff 48, ff 54, ff 65, (70, (iv ((a40.Parts.length : Nat) : Int)), none), tt 71], []⟩ [] [none] rfl (W8 g117 g115 g114 g112 g110 g107 g104 g101 <| W2 g99 g86 <| Z g63 Z0) (by kernel_rfl)
   have g118 := bool_eq h116
   cases h
   exact pv_z (F := F5) ⟨[ff 6, ff 7, ff 11, tt 17, ff 39, ff 43, ff 48, ff 54, ff 65, (70, (iv ((a40.Parts.length : Nat) : Int)), none), ff 71], []⟩ [] [none] rfl (W8 g118 g115 g114 g112 g110 g107 g104 g101 <| W2 g99 g86 <| Z g63 Z0) (by kernel_rfl)
  have g121 := bool_eq h100
  rcases cnd_or h with ⟨h122, h⟩ | ⟨h122, h⟩
  ·have g123 := bool_eq h122
   rcases cnd_or h with ⟨h124, h⟩ | ⟨h124, h⟩
   ·have g125 := bool_eq h124
    cases h
    exact pv_z (F := F5) ⟨[ff 6, ff 7, ff 11, ff 17, tt 20, tt 48], []⟩ [] [none, none, none, none] rfl (W4 g125 g123 g121 g99 <| W2 g86 g63 Z0) (by kernel_rfl)
   have g126 := bool_eq h124
   rcases cnd_or h with ⟨h127, h⟩ | ⟨h127, h⟩
   rotate_left
   ·have g133 := c_GPoint_neq (cf := evF PP T n) (fl := 0) (H := (hp3 a40)) (a := a40.At) (b := (GPoint.mk 0 0)) h127
    cases h
    exact pv_z (F := F5) ⟨[ff 6, ff 7, ff 11, ff 17, tt 20, ff 48, tt 54], []⟩ [] [none, none, none, none] rfl (W4 g133 g126 g123 g121 <| W2 g99 g86 <| Z g63 Z0) (by kernel_rfl)
   have g128 := c_GPoint_neq (cf := evF PP T n) (fl := 0) (H := (hp3 a40)) (a := a40.At) (b := (GPoint.mk 0 0)) h127
   have g129 := len_sl (P := PP) (cf := evF PP T n) (fl := 0) (H := (hp3 a40)) (f := false) (c := c_GPoint) (l := a40.Via)
   rcases cnd_or h with ⟨h130, h⟩ | ⟨h130, h⟩
   ·have g131 := bool_eq h130
    cases h
    exact pv_z (F := F5) ⟨[ff 6, ff 7, ff 11, ff 17, tt 20, ff 48, ff 54, (59, (iv ((a40.Via.length : Nat) : Int)), none), tt 60], []⟩ [] [none, none, none, none] rfl (W8 g131 g129 g128 g126 g123 g121 g99 g86 <| Z g63 Z0) (by kernel_rfl)
   have g132 := bool_eq h130
   cases h
   exact pv_z (F := F5) ⟨[ff 6, ff 7, ff 11, ff 17, tt 20, ff 48, ff 54, (59, (iv ((a40.Via.length : Nat) : Int)), none), ff 60], []⟩ [] [none, none, none, none] rfl (W8 g132 g129 g128 g126 g123 g121 g99 g86 <| Z g63 Z0) (by kernel_rfl)
  have g134 := bool_eq h122
  rcases cnd_or h with ⟨h135, h⟩ | ⟨h135, h⟩
  ·have g136 := bool_eq h135
   rcases cnd_or h with ⟨h137, h⟩ | ⟨h137, h⟩
   ·have g138 := bool_eq h137
    cases h
    exact pv_z (F := F5) ⟨[ff 6, ff 7, ff 11, ff 17, ff 20, tt 26, tt 39], []⟩ [] [none] rfl (W4 g138 g136 g134 g121 <| W2 g99 g86 <| Z g63 Z0) (by kernel_rfl)
   have g139 := bool_eq h137
   rcases cnd_or h with ⟨h140, h⟩ | ⟨h140, h⟩
   ·have g141 := bool_eq h140
    cases h
    exact pv_z (F := F5) ⟨[ff 6, ff 7, ff 11, ff 17, ff 20, tt 26, ff 39, tt 43], []⟩ [] [none] rfl (W8 g141 g139 g136 g134 g121 g99 g86 g63 Z0) (by kernel_rfl)
   have g142 := bool_eq h140
   rcases cnd_or h with ⟨h143, h⟩ | ⟨h143, h⟩
   ·have g144 := bool_eq h143
    cases h
    exact pv_z (F := F5) ⟨[ff 6, ff 7, ff 11, ff 17, ff 20, tt 26, ff 39, ff 43, tt 48], []⟩ [] [none] rfl (W8 g144 g142 g139 g136 g134 g121 g99 g86 <| Z g63 Z0) (by kernel_rfl)
   have g145 := bool_eq h143
   rcases cnd_or h with ⟨h146, h⟩ | ⟨h146, h⟩
   rotate_left
   ·have g156 := c_GPoint_neq (cf := evF PP T n) (fl := 0) (H := (hp4 a40)) (a := a40.At) (b := (GPoint.mk 0 0)) h146
    cases h
    exact pv_z (F := F5) ⟨[ff 6, ff 7, ff 11, ff 17, ff 20, tt 26, ff 39, ff 43, ff 48, tt 54], []⟩ [] [none] rfl (W8 g156 g145 g142 g139 g136 g134 g121 g99 <| W2 g86 g63 Z0) (by kernel_rfl)
   have g147 := c_GPoint_neq (cf := evF PP T n) (fl := 0) (H := (hp4 a40)) (a := a40.At) (b := (GPoint.mk 0 0)) h146
   have g148 := len_sl (P := PP) (cf := evF PP T n) (fl := 0) (H := (hp4 a40)) (f := false) (c := c_GPoint) (l := a40.Via)
   rcases cnd_or h with ⟨h149, h⟩ | ⟨h149, h⟩
   ·have g150 := bool_eq h149
    cases h
    exact pv_z (F := F5) ⟨[ff 6, ff 7, ff 11, ff 17, ff 20, tt 26, ff 39, ff 43, ff 48, ff 54, (59, (iv ((a40.Via.length : Nat) : Int)), none), tt 60], []⟩ [] [none] rfl (W8 g150 g148 g147 g145 g142 g139 g136 g134 <| W4 g121 g99 g86 g63 Z0) (by kernel_rfl)
   have g151 := bool_eq h149
   have g152 := len_sl (P := PP) (cf := evF PP T n) (fl := 0) (H := (hp4 a40)) (f := false) (c := c_i64) (l := a40.Parts)
   rcases cnd_or h with ⟨h153, h⟩ | ⟨h153, h⟩
   ·have g154 := bool_eq h153
    cases h
    exact pv_z (F := F5) ⟨[ff 6, ff 7, ff 11, ff 17, ff 20, tt 26, ff 39, ff 43, ff 48, ff 54, (59, (iv ((a40.Via.length : Nat) : Int)), none), ff 60, (70, (iv ((a40.Parts.length : Nat) : Int)), none), tt 71], []⟩ [] [none] rfl (W8 g154 g152 g151 g148 g147 g145 g142 g139 <| W4 g136 g134 g121 g99 <| W2 g86 g63 Z0) (by kernel_rfl)
   have g155 := bool_eq h153
   cases h
   exact pv_z (F := F5) ⟨[ff 6, ff 7, ff 11, ff 17, ff 20, tt 26, ff 39, ff 43, ff 48, ff 54, (59, (iv ((a40.Via.length : Nat) : Int)), none), ff 60, (70, (iv ((a40.Parts.length : Nat) : Int)), none), ff 71], []⟩ [] [none] rfl (W8 g155 g152 g151 g148 g147 g145 g142 g139 <| W4 g136 g134 g121 g99 <| W2 g86 g63 Z0) (by kernel_rfl)
  have g157 := bool_eq h135
  rcases cnd_or h with ⟨h158, h⟩ | ⟨h158, h⟩
  ·have g159 := bool_eq h158
   rcases cnd_or h with ⟨h160, h⟩ | ⟨h160, h⟩
   ·have g161 := bool_eq h160
    cases h
    exact pv_z (F := F5) ⟨[ff 6, ff 7, ff 11, ff 17, ff 20, ff 26, tt 29, tt 39], []⟩ [] [none] rfl (W8 g161 g159 g157 g134 g121 g99 g86 g63 Z0) (by kernel_rfl)
   have g162 := bool_eq h160
   rcases cnd_or h with ⟨h163, h⟩ | ⟨h163, h⟩
   ·have g164 := bool_eq h163
    cases h
    exact pv_z (F := F5) ⟨[ff 6, ff 7, ff 11, ff 17, ff 20, ff 26, tt 29, ff 39, tt 48], []⟩ [] [none] rfl (W8 g164 g162 g159 g157 g134 g121 g99 g86 <| Z g63 Z0) (by kernel_rfl)
   have g165 := bool_eq h163
   rcases cnd_or h with ⟨h166, h⟩ | ⟨h166, h⟩
   rotate_left
   ·have g179 := c_GPoint_neq (cf := evF PP T n) (fl := 0) (H := (hp5 a40)) (a := a40.At) (b := (GPoint.mk 0 0)) h166
    cases h
    exact pv_z (F := F5) ⟨[ff 6, ff 7, ff 11, ff 17, ff 20, ff 26, tt 29, ff 39, ff 48, tt 54], []⟩ [] [none] rfl (W8 g179 g165 g162 g159 g157 g134 g121 g99 <| W2 g86 g63 Z0) (by kernel_rfl)
   have g167 := c_GPoint_neq (cf := evF PP T n) (fl := 0) (H := (hp5 a40)) (a := a40.At) (b := (GPoint.mk 0 0)) h166
   have g168 := len_sl (P := PP) (cf := evF PP T n) (fl := 0) (H := (hp5 a40)) (f := false) (c := c_GPoint) (l := a40.Via)
   rcases cnd_or h with ⟨h169, h⟩ | ⟨h169, h⟩
   ·have g170 := bool_eq h169
    cases h
    exact pv_z (F := F5) ⟨[ff 6, ff 7, ff 11, ff 17, ff 20, ff 26, tt 29, ff 39, ff 48, ff 54, (59, (iv ((a40.Via.length : Nat) : Int)), none), tt 60], []⟩ [] [none] rfl (W8 g170 g168 g167 g165 g162 g159 g157 g134 <| W4 g121 g99 g86 g63 Z0) (by kernel_rfl)
   have g171 := bool_eq h169
   rcases cnd_or h with ⟨h172, h⟩ | ⟨h172, h⟩
   rotate_left
   ·have g178 := c_str_neq (P := PP) (cf := evF PP T n) (fl := 0) (H := (hp5 a40)) (t := 9) h172
    cases h
    exact pv_z (F := F5) ⟨[ff 6, ff 7, ff 11, ff 17, ff 20, ff 26, tt 29, ff 39, ff 48, ff 54, (59, (iv ((a40.Via.length : Nat) : Int)), none), ff 60, tt 65], []⟩ [] [none] rfl (W8 g178 g171 g168 g167 g165 g162 g159 g157 <| W4 g134 g121 g99 g86 <| Z g63 Z0) (by kernel_rfl)
   have g173 := c_str_neq (P := PP) (cf := evF PP T n) (fl := 0) (H := (hp5 a40)) (t := 9) h172
   have g174 := len_sl (P := PP) (cf := evF PP T n) (fl := 0) (H := (hp5 a40)) (f := false) (c := c_i64) (l := a40.Parts)
   rcases cnd_or h with ⟨h175, h⟩ | ⟨h175, h⟩
   ·have g176 := bool_eq h175
    cases h
    exact pv_z (F := F5) ⟨[ff 6, ff 7, ff 11, ff 17, ff 20, ff 26, tt 29, ff 39, ff 48, ff 54, (59, (iv ((a40.Via.length : Nat) : Int)), none), ff 60, ff 65, (70, (iv ((a40.Parts.length : Nat) : Int)), none), tt 71], []⟩ [] [none] rfl (W8 g176 g174 g173 g171 g168 g167 g165 g162 <| W4 g159 g157 g134 g121 <| W2 g99 g86 <| Z g63 Z0) (by kernel_rfl)
   have g177 := bool_eq h175
   cases h
   exact pv_z (F := F5) ⟨[ff 6, ff 7, ff 11, ff 17, ff 20, ff 26, tt 29, ff 39, ff 48, ff 54, (59, (iv ((a40.Via.length : Nat) : Int)), none), ff 60, ff 65, (70, (iv ((a40.Parts.length : Nat) : Int)), none), ff 71], []⟩ [] [none] rfl (W8 g177 g174 g173 g171 g168 g167 g165 g162 <| W4 g159 g157 g134 g121 <| W2 g99 g86 <| Z g63 Z0) (by kernel_rfl)
  have g180 := bool_eq h158
  rcases cnd_or h with ⟨h181, h⟩ | ⟨h181, h⟩
  ·have g182 := bool_eq h181
   rcases cnd_or h with ⟨h183, h⟩ | ⟨h183, h⟩
   ·have g184 := bool_eq h183
    cases h
    exact pv_z (F := F5) ⟨[ff 6, ff 7, ff 11, ff 17, ff 20, ff 26, ff 29, tt 32, tt 39], []⟩ [] [none] rfl (W8 g184 g182 g180 g157 g134 g121 g99 g86 <| Z g63 Z0) (by kernel_rfl)
   have g185 := bool_eq h183
   rcases cnd_or h with ⟨h186, h⟩ | ⟨h186, h⟩
   ·have g187 := bool_eq h186
    cases h
    exact pv_z (F := F5) ⟨[ff 6, ff 7, ff 11, ff 17, ff 20, ff 26, ff 29, tt 32, ff 39, tt 43], []⟩ [] [none] rfl (W8 g187 g185 g182 g180 g157 g134 g121 g99 <| W2 g86 g63 Z0) (by kernel_rfl)
   have g188 := bool_eq h186
   rcases cnd_or h with ⟨h189, h⟩ | ⟨h189, h⟩
   ·have g190 := bool_eq h189
    cases h
    exact pv_z (F := F5) ⟨[ff 6, ff 7, ff 11, ff 17, ff 20, ff 26, ff 29, tt 32, ff 39, ff 43, tt 48], []⟩ [] [none] rfl (W8 g190 g188 g185 g182 g180 g157 g134 g121 <| W2 g99 g86 <| Z g63 Z0) (by kernel_rfl)
   have g191 := bool_eq h189
   rcases cnd_or h with ⟨h192, h⟩ | ⟨h192, h⟩
   rotate_left
   ·have g201 := c_GPoint_neq (cf := evF PP T n) (fl := 0) (H := (hp6 a40)) (a := a40.At) (b := (GPoint.mk 0 0)) h192
    cases h
    exact pv_z (F := F5) ⟨[ff 6, ff 7, ff 11, ff 17, ff 20, ff 26, ff 29, tt 32, ff 39, ff 43, ff 48, tt 54], []⟩ [] [none] rfl (W8 g201 g191 g188 g185 g182 g180 g157 g134 <| W4 g121 g99 g86 g63 Z0) (by kernel_rfl)
   have g193 := c_GPoint_neq (cf := evF PP T n) (fl := 0) (H := (hp6 a40)) (a := a40.At) (b := (GPoint.mk 0 0)) h192
   have g194 := len_sl (P := PP) (cf := evF PP T n) (fl := 0) (H := (hp6 a40)) (f := false) (c := c_GPoint) (l := a40.Via)
   rcases cnd_or h with ⟨h195, h⟩ | ⟨h195, h⟩
   ·have g196 := bool_eq h195
    cases h
    exact pv_z (F := F5) ⟨[ff 6, ff 7, ff 11, ff 17, ff 20, ff 26, ff 29, tt 32, ff 39, ff 43, ff 48, ff 54, (59, (iv ((a40.Via.length : Nat) : Int)), none), tt 60], []⟩ [] [none] rfl (W8 g196 g194 g193 g191 g188 g185 g182 g180 <| W4 g157 g134 g121 g99 <| W2 g86 g63 Z0) (by kernel_rfl)
   have g197 := bool_eq h195
   rcases cnd_or h with ⟨h198, h⟩ | ⟨h198, h⟩
   ·have g199 := c_str_neq (P := PP) (cf := evF PP T n) (fl := 0) (H := (hp6 a40)) (t := 9) h198
    cases h
    exact pv_z (F := F5) ⟨[ff 6, ff 7, ff 11, ff 17, ff 20, ff 26, ff 29, tt 32, ff 39, ff 43, ff 48, ff 54, (59, (iv ((a40.Via.length : Nat) : Int)), none), ff 60, ff 65], []⟩ [] [none] rfl (W8 g199 g197 g194 g193 g191 g188 g185 g182 <| W4 g180 g157 g134 g121 <| W2 g99 g86 <| Z g63 Z0) (by kernel_rfl)
   have g200 := c_str_neq (P := PP) (cf := evF PP T n) (fl := 0) (H := (hp6 a40)) (t := 9) h198
   cases h
   exact pv_z (F := F5) ⟨[ff 6, ff 7, ff 11, ff 17, ff 20, ff 26, ff 29, tt 32, ff 39, ff 43, ff 48, ff 54, (59, (iv ((a40.Via.length : Nat) : Int)), none), ff 60, tt 65], []⟩ [] [none] rfl (W8 g200 g197 g194 g193 g191 g188 g185 g182 <| W4 g180 g157 g134 g121 <| W2 g99 g86 <| Z g63 Z0) (by kernel_rfl)
  have g202 := bool_eq h181
  rcases cnd_or h with ⟨h203, h⟩ | ⟨h203, h⟩
  ·have g204 := bool_eq h203
   rcases cnd_or h with ⟨h205, h⟩ | ⟨h205, h⟩
   ·have g206 := bool_eq h205
    cases h
    exact pv_z (F := F5) ⟨[ff 6, ff 7, ff 11, ff 17, ff 20, ff 26, ff 29, ff 32, tt 35, tt 43], []⟩ [] [none] rfl (W8 g206 g204 g202 g180 g157 g134 g121 g99 <| W2 g86 g63 Z0) (by kernel_rfl)
   have g207 := bool_eq h205
   rcases cnd_or h with ⟨h208, h⟩ | ⟨h208, h⟩
   ·have g209 := bool_eq h208
    cases h
    exact pv_z (F := F5) ⟨[ff 6, ff 7, ff 11, ff 17, ff 20, ff 26, ff 29, ff 32, tt 35, ff 43, tt 48], []⟩ [] [none] rfl (W8 g209 g207 g204 g202 g180 g157 g134 g121 <| W2 g99 g86 <| Z g63 Z0) (by kernel_rfl)
   have g210 := bool_eq h208
   rcases cnd_or h with ⟨h211, h⟩ | ⟨h211, h⟩
   rotate_left
   ·have g224 := c_GPoint_neq (cf := evF PP T n) (fl := 0) (H := (hp7 a40)) (a := a40.At) (b := (GPoint.mk 0 0)) h211
    cases h
    exact pv_z (F := F5) ⟨[ff 6, ff 7, ff 11, ff 17, ff 20, ff 26, ff 29, ff 32, tt 35, ff 43, ff 48, tt 54], []⟩ [] [none] rfl (W8 g224 g210 g207 g204 g202 g180 g157 g134 <| W4 g121 g99 g86 g63 Z0) (by kernel_rfl)
   have g212 := c_GPoint_neq (cf := evF PP T n) (fl := 0) (H := (hp7 a40)) (a := a40.At) (b := (GPoint.mk 0 0)) h211
   have g213 := len_sl (P := PP) (cf := evF PP T n) (fl := 0) (H := (hp7 a40)) (f := false) (c := c_GPoint) (l := a40.Via)
   rcases cnd_or h with ⟨h214, h⟩ | ⟨h214, h⟩
   ·have g215 := bool_eq h214
    cases h
    exact pv_z (F := F5) ⟨[ff 6, ff 7, ff 11, ff 17, ff 20, ff 26, ff 29, ff 32, tt 35, ff 43, ff 48, ff 54, (59, (iv ((a40.Via.length : Nat) : Int)), none), tt 60], []⟩ [] [none] rfl (W8 g215 g213 g212 g210 g207 g204 g202 g180 <| W4 g157 g134 g121 g99 <| W2 g86 g63 Z0) (by kernel_rfl)
   have g216 := bool_eq h214
   rcases cnd_or h with ⟨h217, h⟩ | ⟨h217, h⟩
   rotate_left
   ·have g223 := c_str_neq (P := PP) (cf := evF PP T n) (fl := 0) (H := (hp7 a40)) (t := 9) h217
    cases h
    exact pv_z (F := F5) ⟨[ff 6, ff 7, ff 11, ff 17, ff 20, ff 26, ff 29, ff 32, tt 35, ff 43, ff 48, ff 54, (59, (iv ((a40.Via.length : Nat) : Int)), none), ff 60, tt 65], []⟩ [] [none] rfl (W8 g223 g216 g213 g212 g210 g207 g204 g202 <| W4 g180 g157 g134 g121 <| W2 g99 g86 <| Z g63 Z0) (by kernel_rfl)
   have g218 := c_str_neq (P := PP) (cf := evF PP T n) (fl := 0) (H := (hp7 a40)) (t := 9) h217
   have g219 := len_sl (P := PP) (cf := evF PP T n) (fl := 0) (H := (hp7 a40)) (f := false) (c := c_i64) (l := a40.Parts)
   rcases cnd_or h with ⟨h220, h⟩ | ⟨h220, h⟩
   ·have g221 := bool_eq h220
    cases h
    exact pv_z (F := F5) ⟨[ff 6, ff 7, ff 11, ff 17, ff 20, ff 26, ff 29, ff 32, tt 35, ff 43, ff 48, ff 54, (59, (iv ((a40.Via.length : Nat) : Int)), none), ff 60, ff 65, (70, (iv ((a40.Parts.length : Nat) : Int)), none), tt 71], []⟩ [] [none] rfl (W8 g221 g219 g218 g216 g213 g212 g210 g207 <| W8 g204 g202 g180 g157 g134 g121 g99 g86 <| Z g63 Z0) (by kernel_rfl)
   have g222 := bool_eq h220
   cases h
   exact pv_z (F := F5) ⟨[ff 6, ff 7, ff 11, ff 17, ff 20, ff 26, ff 29, ff 32, tt 35, ff 43, ff 48, ff 54, (59, (iv ((a40.Via.length : Nat) : Int)), none), ff 60, ff 65, (70, (iv ((a40.Parts.length : Nat) : Int)), none), ff 71], []⟩ [] [none] rfl (W8 g222 g219 g218 g216 g213 g212 g210 g207 <| W8 g204 g202 g180 g157 g134 g121 g99 g86 <| Z g63 Z0) (by kernel_rfl)
  have g225 := bool_eq h203
  rcases cnd_or h with ⟨h226, h⟩ | ⟨h226, h⟩
  ·have g227 := bool_eq h226
   cases h
   exact pz F5 ⟨[ff 6, ff 7, ff 11, ff 17, ff 20, ff 26, ff 29, ff 32, ff 35, tt 39], []⟩ (W8 g227 g225 g202 g180 g157 g134 g121 g99 <| W2 g86 g63 Z0)
  have g228 := bool_eq h226
  rcases cnd_or h with ⟨h229, h⟩ | ⟨h229, h⟩
  ·have g230 := bool_eq h229
   cases h
   exact pz F5 ⟨[ff 6, ff 7, ff 11, ff 17, ff 20, ff 26, ff 29, ff 32, ff 35, ff 39, tt 43], []⟩ (W8 g230 g228 g225 g202 g180 g157 g134 g121 <| W2 g99 g86 <| Z g63 Z0)
  have g231 := bool_eq h229
  rcases cnd_or h with ⟨h232, h⟩ | ⟨h232, h⟩
  ·have g233 := bool_eq h232
   cases h
   exact pz F5 ⟨[ff 6, ff 7, ff 11, ff 17, ff 20, ff 26, ff 29, ff 32, ff 35, ff 39, ff 43, tt 48], []⟩ (W8 g233 g231 g228 g225 g202 g180 g157 g134 <| W4 g121 g99 g86 g63 Z0)
  have g234 := bool_eq h232
  rcases cnd_or h with ⟨h235, h⟩ | ⟨h235, h⟩
  rotate_left
  ·have g248 := c_GPoint_neq (cf := evF PP T n) (fl := 0) (H := [(.blk 10 [(c_GEdit a40)])]) (a := a40.At) (b := (GPoint.mk 0 0)) h235
   cases h
   exact pz F5 ⟨[ff 6, ff 7, ff 11, ff 17, ff 20, ff 26, ff 29, ff 32, ff 35, ff 39, ff 43, ff 48, tt 54], []⟩ (W8 g248 g234 g231 g228 g225 g202 g180 g157 <| W4 g134 g121 g99 g86 <| Z g63 Z0)
  have g236 := c_GPoint_neq (cf := evF PP T n) (fl := 0) (H := [(.blk 10 [(c_GEdit a40)])]) (a := a40.At) (b := (GPoint.mk 0 0)) h235
  have g237 := len_sl (P := PP) (cf := evF PP T n) (fl := 0) (H := [(.blk 10 [(c_GEdit a40)])]) (f := false) (c := c_GPoint) (l := a40.Via)
  rcases cnd_or h with ⟨h238, h⟩ | ⟨h238, h⟩
  ·have g239 := bool_eq h238
   cases h
   exact pz F5 ⟨[ff 6, ff 7, ff 11, ff 17, ff 20, ff 26, ff 29, ff 32, ff 35, ff 39, ff 43, ff 48, ff 54, (59, (iv ((a40.Via.length : Nat) : Int)), none), tt 60], []⟩ (W8 g239 g237 g236 g234 g231 g228 g225 g202 <| W4 g180 g157 g134 g121 <| W2 g99 g86 <| Z g63 Z0)
  have g240 := bool_eq h238
  rcases cnd_or h with ⟨h241, h⟩ | ⟨h241, h⟩
  rotate_left
  ·have g247 := c_str_neq (P := PP) (cf := evF PP T n) (fl := 0) (H := [(.blk 10 [(c_GEdit a40)])]) (t := 9) h241
   cases h
   exact pz F5 ⟨[ff 6, ff 7, ff 11, ff 17, ff 20, ff 26, ff 29, ff 32, ff 35, ff 39, ff 43, ff 48, ff 54, (59, (iv ((a40.Via.length : Nat) : Int)), none), ff 60, tt 65], []⟩ (W8 g247 g240 g237 g236 g234 g231 g228 g225 <| W8 g202 g180 g157 g134 g121 g99 g86 g63 Z0)
  have g242 := c_str_neq (P := PP) (cf := evF PP T n) (fl := 0) (H := [(.blk 10 [(c_GEdit a40)])]) (t := 9) h241
  have g243 := len_sl (P := PP) (cf := evF PP T n) (fl := 0) (H := [(.blk 10 [(c_GEdit a40)])]) (f := false) (c := c_i64) (l := a40.Parts)
  rcases cnd_or h with ⟨h244, h⟩ | ⟨h244, h⟩
  ·have g245 := bool_eq h244
   cases h
   exact pz F5 ⟨[ff 6, ff 7, ff 11, ff 17, ff 20, ff 26, ff 29, ff 32, ff 35, ff 39, ff 43, ff 48, ff 54, (59, (iv ((a40.Via.length : Nat) : Int)), none), ff 60, ff 65, (70, (iv ((a40.Parts.length : Nat) : Int)), none), tt 71], []⟩ (W8 g245 g243 g242 g240 g237 g236 g234 g231 <| W8 g228 g225 g202 g180 g157 g134 g121 g99 <| W2 g86 g63 Z0)
  have g246 := bool_eq h244
  cases h
  exact pz F5 ⟨[ff 6, ff 7, ff 11, ff 17, ff 20, ff 26, ff 29, ff 32, ff 35, ff 39, ff 43, ff 48, ff 54, (59, (iv ((a40.Via.length : Nat) : Int)), none), ff 60, ff 65, (70, (iv ((a40.Parts.length : Nat) : Int)), none), ff 71], []⟩ (W8 g246 g243 g242 g240 g237 g236 g234 g231 <| W8 g228 g225 g202 g180 g157 g134 g121 g99 <| W2 g86 g63 Z0)
abbrev hp8 (a253 : GEdit) : Heap := [(.blk 10 [(c_GEdit a253)]), (.blk 1 [[(.fn 21 [])]]), (.blk 4 [[(iv (-1048576)), (iv (-1048576)), (iv 1048576), (iv 1048576)]])]
abbrev hp9 (a253 : GEdit) : Heap := [(.blk 10 [(c_GEdit a253)]), (.blk 1 [[(.fn 21 [])]]), (.blk 4 [[(iv (-1048576)), (iv (-1048576)), (iv 1048576), (iv 1048576)]]), (.blk 2 [[(iv a253.At.X), (iv a253.At.Y)]])]
def f6_I43_L0_S (a253 : GEdit) (i319 : Int) : St := ⟨[(.sl false (List.map c_GPoint a253.Via)), (.fn 22 [(.ptr 2 1 0 0)]), U, U, U, U, U, (iv ((a253.Via.length : Nat) : Int)), (iv i319), U, U, U, U, U, U, U, U, U, U], [(.blk 10 [(c_GEdit a253)]), (.blk 1 [[(.fn 21 [])]]), (.blk 4 [[(iv (-1048576)), (iv (-1048576)), (iv 1048576), (iv 1048576)]]), (.blk 2 [[(iv a253.At.X), (iv a253.At.Y)]])]⟩
def f6_I43_L0_E0 (a253 : GEdit) (i338 : Int) : St := ⟨[U, U, U, U, (iv i338), U, U, U, U, U, U, U, U, U, U, U, U, U, U], [(.blk 10 [(c_GEdit a253)]), (.blk 1 [[(.fn 21 [])]]), (.blk 4 [[(iv (-1048576)), (iv (-1048576)), (iv 1048576), (iv 1048576)]]), (.blk 2 [[(iv a253.At.X), (iv a253.At.Y)]])]⟩
def f6_I43_L0_E1 (a253 : GEdit) : St := ⟨[U, U, U, U, U, U, U, U, U, U, U, U, U, U, U, U, U, U, U], [(.blk 10 [(c_GEdit a253)]), (.blk 1 [[(.fn 21 [])]]), (.blk 4 [[(iv (-1048576)), (iv (-1048576)), (iv 1048576), (iv 1048576)]]), (.blk 2 [[(iv a253.At.X), (iv a253.At.Y)]])]⟩
abbrev hp10 (a253 : GEdit) (x341 : GPoint) : Heap := [(.blk 10 [(c_GEdit a253)]), (.blk 1 [[(.fn 21 [])]]), (.blk 4 [[(iv (-1048576)), (iv (-1048576)), (iv 1048576), (iv 1048576)]]), (.blk 2 [[(iv a253.At.X), (iv a253.At.Y)]]), (.blk 2 [[(iv x341.X), (iv x341.Y)]])]
def f6_I43_L0 (n : Nat) (a253 : GEdit) : Nat → Int → Option (Int ⊕ Unit)
 | 0, _ => none
 | m + 1, i319 => (cnd (decide (i319 < ((a253.Via.length : Nat) : Int))) (bnd (idx a253.Via i319) fun x341 => (bnd (prd n) fun n344 => (bnd (f42 n344 (GBox.mk (-1048576) (-1048576) 1048576 1048576) x341) fun v347 => (cnd (v347) (f6_I43_L0 n a253 m (IntKind.i64.wrap (i319 + 1))) (some (Sum.inl i319)))))) (some (Sum.inr ())))
theorem f6_I43_L0_ok (n : Nat) (a253 : GEdit) : ∀ (m : Nat) (i319 : Int) (r : (Int ⊕ Unit)), f6_I43_L0 n a253 m i319 = some r → maskR [] [false, false, false, false, true] false 0 4 (evLoopH (headSt (some [true, true, false, false, false, false, false, true, true]) false 0 4) (evC PP (evF PP T n) n 0 L43_0) m (f6_I43_L0_S a253 i319)) = (match r with | .inl r => some (.ret, f6_I43_L0_E0 a253 r) | .inr r => some ((.exit 0), f6_I43_L0_E1 a253))
 | 0, _, _, h => by cases h
 | m + 1, i319, r, h => by
  rw [f6_I43_L0] at h
  rcases cnd_or h with ⟨h339, h⟩ | ⟨h339, h⟩
  rotate_left
  ·have g356 := bool_eq h339
   cases h
   exact last_z (live := some [true, true, false, false, false, false, false, true, true]) (tr' := false) (st' := f6_I43_L0_E1 a253) ⟨[ff 9], []⟩ [] [] rfl (Z g356 Z0) (by kernel_rfl) trivial
  have g340 := bool_eq h339
  obtain ⟨x341, e342, h⟩ := bnd_some h
  have g343 := idxl (H := (hp9 a253)) (f := false) (c := c_GPoint) e342 (c_GPoint_len _)
  obtain ⟨n344, e345, h⟩ := bnd_some h
  have q346 := prd_eq e345
  obtain ⟨v347, e348, h⟩ := bnd_some h
  rcases cnd_or h with ⟨h349, h⟩ | ⟨h349, h⟩
  rotate_left
  ·have g353 := by have q := f42_ok n344 (GBox.mk (-1048576) (-1048576) 1048576 1048576) x341 _ e348; rw [h349] at q; exact q
   have g354 : evF PP T n 4 22 [(.agg [(iv x341.X), (iv x341.Y)]), (.ptr 2 1 0 0)] (hp9 a253) = some (bt, (hp10 a253 x341)) := by
    rw [q346]; exact evF_z (F := F22) ⟨[ff 6], []⟩ [] [] rfl (Z g353 Z0) (by kernel_rfl)
   have g355 : callA (evF PP T n) 0 true 22 [(.agg [(iv x341.X), (iv x341.Y)]), (.ptr 2 1 0 0)] (hp9 a253) = some (bt, (hp9 a253)) := callA_np rfl rfl g354 rfl
   cases h
   exact last_z (live := some [true, true, false, false, false, false, false, true, true]) (tr' := false) (st' := f6_I43_L0_E0 a253 i319) ⟨[tt 9, (14, (.rptr [(iv x341.X), (iv x341.Y)]), none), tt 16], []⟩ [] [] rfl (W2 g355 g343 <| Z g340 Z0) (by kernel_rfl) trivial
  have g350 := by have q := f42_ok n344 (GBox.mk (-1048576) (-1048576) 1048576 1048576) x341 _ e348; rw [h349] at q; exact q
  have g351 : evF PP T n 4 22 [(.agg [(iv x341.X), (iv x341.Y)]), (.ptr 2 1 0 0)] (hp9 a253) = some (bf, (hp10 a253 x341)) := by
   rw [q346]; exact evF_z (F := F22) ⟨[tt 6], []⟩ [] [] rfl (Z g350 Z0) (by kernel_rfl)
  have g352 : callA (evF PP T n) 0 true 22 [(.agg [(iv x341.X), (iv x341.Y)]), (.ptr 2 1 0 0)] (hp9 a253) = some (bf, (hp9 a253)) := callA_np rfl rfl g351 rfl
  exact (congrArg (maskR [] [false, false, false, false, true] false 0 4) (next_z (live := some [true, true, false, false, false, false, false, true, true]) (tr := false) (st' := f6_I43_L0_S a253 (IntKind.i64.wrap (i319 + 1))) ⟨[tt 9, (14, (.rptr [(iv x341.X), (iv x341.Y)]), none), ff 16], []⟩ [] [] rfl (W2 g352 g343 <| Z g340 Z0) (by kernel_rfl) trivial rfl)).trans (f6_I43_L0_ok n a253 m (IntKind.i64.wrap (i319 + 1)) r h)
def f6_I44_L0_S (a253 : GEdit) (i401 : Int) : St := ⟨[(.sl false (List.map c_i64 a253.Parts)), (.fn 24 [(.ptr 1 1 0 0)]), U, U, U, U, U, (iv ((a253.Parts.length : Nat) : Int)), (iv i401), U, U, U, U, U, U, U, U, U, U], [(.blk 10 [(c_GEdit a253)]), (.blk 1 [[(.fn 21 [])]]), (.blk 4 [[(iv (-1048576)), (iv (-1048576)), (iv 1048576), (iv 1048576)]]), (.blk 2 [[(iv a253.At.X), (iv a253.At.Y)]])]⟩
def f6_I44_L0_E0 (a253 : GEdit) (i429 : Int) : St := ⟨[U, U, U, U, (iv i429), U, U, U, U, U, U, U, U, U, U, U, U, U, U], [(.blk 10 [(c_GEdit a253)]), (.blk 1 [[(.fn 21 [])]]), (.blk 4 [[(iv (-1048576)), (iv (-1048576)), (iv 1048576), (iv 1048576)]]), (.blk 2 [[(iv a253.At.X), (iv a253.At.Y)]])]⟩
def f6_I44_L0_E1 (a253 : GEdit) : St := ⟨[U, U, U, U, U, U, U, U, U, U, U, U, U, U, U, U, U, U, U], [(.blk 10 [(c_GEdit a253)]), (.blk 1 [[(.fn 21 [])]]), (.blk 4 [[(iv (-1048576)), (iv (-1048576)), (iv 1048576), (iv 1048576)]]), (.blk 2 [[(iv a253.At.X), (iv a253.At.Y)]])]⟩
def f6_I44_L0 (n : Nat) (a253 : GEdit) : Nat → Int → Option (Int ⊕ Unit)
 | 0, _ => none
 | m + 1, i401 => (cnd (decide (i401 < ((a253.Parts.length : Nat) : Int))) (bnd (idx a253.Parts i401) fun x432 => (bnd (prd n) fun n435 => (bnd (prd n435) fun n438 => (cnd (decide (1 ≤ x432)) (cnd (decide (x432 ≤ 1073741824)) (f6_I44_L0 n a253 m (IntKind.i64.wrap (i401 + 1))) (some (Sum.inl i401))) (some (Sum.inl i401)))))) (some (Sum.inr ())))
theorem f6_I44_L0_ok (n : Nat) (a253 : GEdit) : ∀ (m : Nat) (i401 : Int) (r : (Int ⊕ Unit)), f6_I44_L0 n a253 m i401 = some r → maskR [] [false, false, false, false, true] false 0 4 (evLoopH (headSt (some [true, true, false, false, false, false, false, true, true]) false 0 4) (evC PP (evF PP T n) n 0 L44_0) m (f6_I44_L0_S a253 i401)) = (match r with | .inl r => some (.ret, f6_I44_L0_E0 a253 r) | .inr r => some ((.exit 0), f6_I44_L0_E1 a253))
 | 0, _, _, h => by cases h
 | m + 1, i401, r, h => by
  rw [f6_I44_L0] at h
  rcases cnd_or h with ⟨h430, h⟩ | ⟨h430, h⟩
  rotate_left
  ·have g456 := bool_eq h430
   cases h
   exact last_z (live := some [true, true, false, false, false, false, false, true, true]) (tr' := false) (st' := f6_I44_L0_E1 a253) ⟨[ff 9], []⟩ [] [] rfl (Z g456 Z0) (by kernel_rfl) trivial
  have g431 := bool_eq h430
  obtain ⟨x432, e433, h⟩ := bnd_some h
  have g434 := idxl (H := (hp9 a253)) (f := false) (c := c_i64) e433 (c_i64_len _)
  obtain ⟨n435, e436, h⟩ := bnd_some h
  have q437 := prd_eq e436
  obtain ⟨n438, e439, h⟩ := bnd_some h
  have q440 := prd_eq e439
  rcases cnd_or h with ⟨h441, h⟩ | ⟨h441, h⟩
  rotate_left
  ·have g452 := bool_eq h441
   have g453 : evF PP T n435 4 21 [(iv x432)] (hp9 a253) = some (bf, (hp9 a253)) := by
    rw [q440]; exact evF_z (F := F21) ⟨[ff 4], []⟩ [] [] rfl (Z g452 Z0) (by kernel_rfl)
   have g454 : evF PP T n 4 24 [(iv x432), (.ptr 1 1 0 0)] (hp9 a253) = some (bt, (hp9 a253)) := by
    rw [q437]; exact evF_z (F := F24) ⟨[ff 6], []⟩ [] [] rfl (Z g453 Z0) (by kernel_rfl)
   have g455 : callA (evF PP T n) 0 true 24 [(iv x432), (.ptr 1 1 0 0)] (hp9 a253) = some (bt, (hp9 a253)) := callA_np rfl rfl g454 rfl
   cases h
   exact last_z (live := some [true, true, false, false, false, false, false, true, true]) (tr' := false) (st' := f6_I44_L0_E0 a253 i401) ⟨[tt 9, (14, (.rptr [(iv x432)]), none), tt 16], []⟩ [] [] rfl (W2 g455 g434 <| Z g431 Z0) (by kernel_rfl) trivial
  have g442 := bool_eq h441
  rcases cnd_or h with ⟨h443, h⟩ | ⟨h443, h⟩
  rotate_left
  ·have g448 := bool_eq h443
   have g449 : evF PP T n435 4 21 [(iv x432)] (hp9 a253) = some (bf, (hp9 a253)) := by
    rw [q440]; exact evF_z (F := F21) ⟨[tt 4, ff 7], []⟩ [] [] rfl (W2 g448 g442 Z0) (by kernel_rfl)
   have g450 : evF PP T n 4 24 [(iv x432), (.ptr 1 1 0 0)] (hp9 a253) = some (bt, (hp9 a253)) := by
    rw [q437]; exact evF_z (F := F24) ⟨[ff 6], []⟩ [] [] rfl (Z g449 Z0) (by kernel_rfl)
   have g451 : callA (evF PP T n) 0 true 24 [(iv x432), (.ptr 1 1 0 0)] (hp9 a253) = some (bt, (hp9 a253)) := callA_np rfl rfl g450 rfl
   cases h
   exact last_z (live := some [true, true, false, false, false, false, false, true, true]) (tr' := false) (st' := f6_I44_L0_E0 a253 i401) ⟨[tt 9, (14, (.rptr [(iv x432)]), none), tt 16], []⟩ [] [] rfl (W2 g451 g434 <| Z g431 Z0) (by kernel_rfl) trivial
  have g444 := bool_eq h443
  have g445 : evF PP T n435 4 21 [(iv x432)] (hp9 a253) = some (bt, (hp9 a253)) := by
   rw [q440]; exact evF_z (F := F21) ⟨[tt 4, tt 7], []⟩ [] [] rfl (W2 g444 g442 Z0) (by kernel_rfl)
  have g446 : evF PP T n 4 24 [(iv x432), (.ptr 1 1 0 0)] (hp9 a253) = some (bf, (hp9 a253)) := by
   rw [q437]; exact evF_z (F := F24) ⟨[tt 6], []⟩ [] [] rfl (Z g445 Z0) (by kernel_rfl)
  have g447 : callA (evF PP T n) 0 true 24 [(iv x432), (.ptr 1 1 0 0)] (hp9 a253) = some (bf, (hp9 a253)) := callA_np rfl rfl g446 rfl
  exact (congrArg (maskR [] [false, false, false, false, true] false 0 4) (next_z (live := some [true, true, false, false, false, false, false, true, true]) (tr := false) (st' := f6_I44_L0_S a253 (IntKind.i64.wrap (i401 + 1))) ⟨[tt 9, (14, (.rptr [(iv x432)]), none), ff 16], []⟩ [] [] rfl (W2 g447 g434 <| Z g431 Z0) (by kernel_rfl) trivial rfl)).trans (f6_I44_L0_ok n a253 m (IntKind.i64.wrap (i401 + 1)) r h)
def f6 : Nat → GEdit → Option Bool
 | 0, _ => none
 | n + 1, a253 => (cnd (a253.Kind == 4) (bnd (prd n) fun n256 => (cnd (decide (1 ≤ a253.A)) (cnd (decide (a253.A ≤ 1073741824)) (bnd (prd n) fun n264 => (cnd (decide (1 ≤ a253.B)) (cnd (decide (a253.B ≤ 1073741824)) (bnd (prd n) fun n272 => (cnd (decide (1 ≤ a253.ID)) (cnd (decide (a253.ID ≤ 1073741824)) (cnd (decide (a253.C < (-1073741824))) (some false) (cnd (decide (a253.C > 1073741824)) (some false) (bnd (prd n) fun n286 => (bnd (f42 n286 (GBox.mk (-1048576) (-1048576) 1048576 1048576) a253.At) fun v289 => (cnd (v289) (bnd (prd n) fun n294 => (bnd (prd n294) fun n297 => (bnd2 (f6_I43_L0 n297 a253 n297 0) (fun v360 => (cnd (decide (v360 ≥ 0)) (some false) (bnd (prd n) fun n367 => (bnd (prd n367) fun n370 => (bnd2 (f6_I44_L0 n370 a253 n370 0) (fun v460 => (cnd (decide (v460 ≥ 0)) (some false) (some true))) (fun v467 => (some true))))))) (fun v470 => (bnd (prd n) fun n473 => (bnd (prd n473) fun n476 => (bnd2 (f6_I44_L0 n476 a253 n476 0) (fun v539 => (cnd (decide (v539 ≥ 0)) (some false) (some true))) (fun v546 => (some true))))))))) (some false)))))) (some false)) (some false))) (some false)) (some false))) (some false)) (some false))) (cnd (a253.Kind == 12) (bnd (prd n) fun n566 => (cnd (decide (1 ≤ a253.A)) (cnd (decide (a253.A ≤ 1073741824)) (bnd (prd n) fun n574 => (cnd (decide (1 ≤ a253.ID)) (cnd (decide (a253.ID ≤ 1073741824)) (cnd (decide (a253.C < (-1073741824))) (some false) (cnd (decide (a253.C > 1073741824)) (some false) (bnd (prd n) fun n588 => (bnd (f42 n588 (GBox.mk (-1048576) (-1048576) 1048576 1048576) a253.At) fun v591 => (cnd (v591) (bnd (prd n) fun n596 => (bnd (prd n596) fun n599 => (bnd2 (f6_I43_L0 n599 a253 n599 0) (fun v644 => (cnd (decide (v644 ≥ 0)) (some false) (bnd (prd n) fun n651 => (bnd (prd n651) fun n654 => (bnd2 (f6_I44_L0 n654 a253 n654 0) (fun v717 => (cnd (decide (v717 ≥ 0)) (some false) (some true))) (fun v724 => (some true))))))) (fun v727 => (bnd (prd n) fun n730 => (bnd (prd n730) fun n733 => (bnd2 (f6_I44_L0 n733 a253 n733 0) (fun v796 => (cnd (decide (v796 ≥ 0)) (some false) (some true))) (fun v803 => (some true))))))))) (some false)))))) (some false)) (some false))) (some false)) (some false))) (cnd (a253.Kind == 7) (cnd (decide (a253.B < 1)) (some false) (cnd (decide (a253.B > 9)) (some false) (bnd (prd n) fun n825 => (cnd (decide (1 ≤ a253.ID)) (cnd (decide (a253.ID ≤ 1073741824)) (cnd (decide (a253.C < (-1073741824))) (some false) (cnd (decide (a253.C > 1073741824)) (some false) (bnd (prd n) fun n839 => (bnd (f42 n839 (GBox.mk (-1048576) (-1048576) 1048576 1048576) a253.At) fun v842 => (cnd (v842) (bnd (prd n) fun n847 => (bnd (prd n847) fun n850 => (bnd2 (f6_I43_L0 n850 a253 n850 0) (fun v895 => (cnd (decide (v895 ≥ 0)) (some false) (bnd (prd n) fun n902 => (bnd (prd n902) fun n905 => (bnd2 (f6_I44_L0 n905 a253 n905 0) (fun v968 => (cnd (decide (v968 ≥ 0)) (some false) (some true))) (fun v975 => (some true))))))) (fun v978 => (bnd (prd n) fun n981 => (bnd (prd n981) fun n984 => (bnd2 (f6_I44_L0 n984 a253 n984 0) (fun v1047 => (cnd (decide (v1047 ≥ 0)) (some false) (some true))) (fun v1054 => (some true))))))))) (some false)))))) (some false)) (some false))))) (cnd (a253.Kind == 10) (cnd (decide (a253.B < 1)) (some false) (cnd (decide (a253.B > 9)) (some false) (bnd (prd n) fun n1072 => (cnd (decide (1 ≤ a253.ID)) (cnd (decide (a253.ID ≤ 1073741824)) (cnd (decide (a253.C < (-1073741824))) (some false) (cnd (decide (a253.C > 1073741824)) (some false) (bnd (prd n) fun n1086 => (bnd (f42 n1086 (GBox.mk (-1048576) (-1048576) 1048576 1048576) a253.At) fun v1089 => (cnd (v1089) (bnd (prd n) fun n1094 => (bnd (prd n1094) fun n1097 => (bnd2 (f6_I43_L0 n1097 a253 n1097 0) (fun v1142 => (cnd (decide (v1142 ≥ 0)) (some false) (bnd (prd n) fun n1149 => (bnd (prd n1149) fun n1152 => (bnd2 (f6_I44_L0 n1152 a253 n1152 0) (fun v1215 => (cnd (decide (v1215 ≥ 0)) (some false) (some true))) (fun v1222 => (some true))))))) (fun v1225 => (bnd (prd n) fun n1228 => (bnd (prd n1228) fun n1231 => (bnd2 (f6_I44_L0 n1231 a253 n1231 0) (fun v1294 => (cnd (decide (v1294 ≥ 0)) (some false) (some true))) (fun v1301 => (some true))))))))) (some false)))))) (some false)) (some false))))) (bnd (prd n) fun n1311 => (cnd (decide (1 ≤ a253.ID)) (cnd (decide (a253.ID ≤ 1073741824)) (cnd (decide (a253.C < (-1073741824))) (some false) (cnd (decide (a253.C > 1073741824)) (some false) (bnd (prd n) fun n1325 => (bnd (f42 n1325 (GBox.mk (-1048576) (-1048576) 1048576 1048576) a253.At) fun v1328 => (cnd (v1328) (bnd (prd n) fun n1333 => (bnd (prd n1333) fun n1336 => (bnd2 (f6_I43_L0 n1336 a253 n1336 0) (fun v1381 => (cnd (decide (v1381 ≥ 0)) (some false) (bnd (prd n) fun n1388 => (bnd (prd n1388) fun n1391 => (bnd2 (f6_I44_L0 n1391 a253 n1391 0) (fun v1454 => (cnd (decide (v1454 ≥ 0)) (some false) (some true))) (fun v1461 => (some true))))))) (fun v1464 => (bnd (prd n) fun n1467 => (bnd (prd n1467) fun n1470 => (bnd2 (f6_I44_L0 n1470 a253 n1470 0) (fun v1533 => (cnd (decide (v1533 ≥ 0)) (some false) (some true))) (fun v1540 => (some true))))))))) (some false)))))) (some false)) (some false)))))))
theorem f6_ok (n : Nat) (a253 : GEdit) (r : Bool) (h : f6 n a253 = some r) : pv PP T n 6 [(.agg (c_GEdit a253))] = some (bv r) := by
 cases n with
 | zero => cases h
 | succ n =>
  rw [f6] at h
  rcases cnd_or h with ⟨h254, h⟩ | ⟨h254, h⟩
  ·have g255 := bool_eq h254
   obtain ⟨n256, e257, h⟩ := bnd_some h
   have q258 := prd_eq e257
   rcases cnd_or h with ⟨h259, h⟩ | ⟨h259, h⟩
   rotate_left
   ·have g561 := bool_eq h259
    have g562 : evF PP T n 0 21 [(iv a253.A)] (hp8 a253) = some (bf, (hp8 a253)) := by
     rw [q258]; exact evF_z (F := F21) ⟨[ff 4], []⟩ [] [] rfl (Z g561 Z0) (by kernel_rfl)
    cases h
    exact pv_z (F := F6) ⟨[tt 11, ff 15], []⟩ [] [none, none] rfl (W2 g562 g255 Z0) (by kernel_rfl)
   have g260 := bool_eq h259
   rcases cnd_or h with ⟨h261, h⟩ | ⟨h261, h⟩
   rotate_left
   ·have g559 := bool_eq h261
    have g560 : evF PP T n 0 21 [(iv a253.A)] (hp8 a253) = some (bf, (hp8 a253)) := by
     rw [q258]; exact evF_z (F := F21) ⟨[tt 4, ff 7], []⟩ [] [] rfl (W2 g559 g260 Z0) (by kernel_rfl)
    cases h
    exact pv_z (F := F6) ⟨[tt 11, ff 15], []⟩ [] [none, none] rfl (W2 g560 g255 Z0) (by kernel_rfl)
   have g262 := bool_eq h261
   have g263 : evF PP T n 0 21 [(iv a253.A)] (hp8 a253) = some (bt, (hp8 a253)) := by
    rw [q258]; exact evF_z (F := F21) ⟨[tt 4, tt 7], []⟩ [] [] rfl (W2 g262 g260 Z0) (by kernel_rfl)
   obtain ⟨n264, e265, h⟩ := bnd_some h
   have q266 := prd_eq e265
   rcases cnd_or h with ⟨h267, h⟩ | ⟨h267, h⟩
   rotate_left
   ·have g557 := bool_eq h267
    have g558 : evF PP T n 0 21 [(iv a253.B)] (hp8 a253) = some (bf, (hp8 a253)) := by
     rw [q266]; exact evF_z (F := F21) ⟨[ff 4], []⟩ [] [] rfl (Z g557 Z0) (by kernel_rfl)
    cases h
    exact pv_z (F := F6) ⟨[tt 11, tt 15, ff 21], []⟩ [] [none, none] rfl (W2 g558 g263 <| Z g255 Z0) (by kernel_rfl)
   have g268 := bool_eq h267
   rcases cnd_or h with ⟨h269, h⟩ | ⟨h269, h⟩
   rotate_left
   ·have g555 := bool_eq h269
    have g556 : evF PP T n 0 21 [(iv a253.B)] (hp8 a253) = some (bf, (hp8 a253)) := by
     rw [q266]; exact evF_z (F := F21) ⟨[tt 4, ff 7], []⟩ [] [] rfl (W2 g555 g268 Z0) (by kernel_rfl)
    cases h
    exact pv_z (F := F6) ⟨[tt 11, tt 15, ff 21], []⟩ [] [none, none] rfl (W2 g556 g263 <| Z g255 Z0) (by kernel_rfl)
   have g270 := bool_eq h269
   have g271 : evF PP T n 0 21 [(iv a253.B)] (hp8 a253) = some (bt, (hp8 a253)) := by
    rw [q266]; exact evF_z (F := F21) ⟨[tt 4, tt 7], []⟩ [] [] rfl (W2 g270 g268 Z0) (by kernel_rfl)
   obtain ⟨n272, e273, h⟩ := bnd_some h
   have q274 := prd_eq e273
   rcases cnd_or h with ⟨h275, h⟩ | ⟨h275, h⟩
   rotate_left
   ·have g553 := bool_eq h275
    have g554 : evF PP T n 0 21 [(iv a253.ID)] (hp8 a253) = some (bf, (hp8 a253)) := by
     rw [q274]; exact evF_z (F := F21) ⟨[ff 4], []⟩ [] [] rfl (Z g553 Z0) (by kernel_rfl)
    cases h
    exact pv_z (F := F6) ⟨[tt 11, tt 15, tt 21, ff 45], []⟩ [] [none, none] rfl (W4 g554 g271 g263 g255 Z0) (by kernel_rfl)
   have g276 := bool_eq h275
   rcases cnd_or h with ⟨h277, h⟩ | ⟨h277, h⟩
   rotate_left
   ·have g551 := bool_eq h277
    have g552 : evF PP T n 0 21 [(iv a253.ID)] (hp8 a253) = some (bf, (hp8 a253)) := by
     rw [q274]; exact evF_z (F := F21) ⟨[tt 4, ff 7], []⟩ [] [] rfl (W2 g551 g276 Z0) (by kernel_rfl)
    cases h
    exact pv_z (F := F6) ⟨[tt 11, tt 15, tt 21, ff 45], []⟩ [] [none, none] rfl (W4 g552 g271 g263 g255 Z0) (by kernel_rfl)
   have g278 := bool_eq h277
   have g279 : evF PP T n 0 21 [(iv a253.ID)] (hp8 a253) = some (bt, (hp8 a253)) := by
    rw [q274]; exact evF_z (F := F21) ⟨[tt 4, tt 7], []⟩ [] [] rfl (W2 g278 g276 Z0) (by kernel_rfl)
   rcases cnd_or h with ⟨h280, h⟩ | ⟨h280, h⟩
   ·have g281 := bool_eq h280
    cases h
    exact pv_z (F := F6) ⟨[tt 11, tt 15, tt 21, tt 45, tt 50], []⟩ [] [none, none] rfl (W4 g281 g279 g271 g263 <| Z g255 Z0) (by kernel_rfl)
   have g282 := bool_eq h280
   rcases cnd_or h with ⟨h283, h⟩ | ⟨h283, h⟩
   ·have g284 := bool_eq h283
    cases h
    exact pv_z (F := F6) ⟨[tt 11, tt 15, tt 21, tt 45, ff 50, tt 55], []⟩ [] [none, none] rfl (W4 g284 g282 g279 g271 <| W2 g263 g255 Z0) (by kernel_rfl)
   have g285 := bool_eq h283
   obtain ⟨n286, e287, h⟩ := bnd_some h
   have q288 := prd_eq e287
   obtain ⟨v289, e290, h⟩ := bnd_some h
   rcases cnd_or h with ⟨h291, h⟩ | ⟨h291, h⟩
   rotate_left
   ·have g549 := by have q := f42_ok n286 (GBox.mk (-1048576) (-1048576) 1048576 1048576) a253.At _ e290; rw [h291] at q; exact q
    have g550 : evF PP T n 0 22 [(.agg [(iv a253.At.X), (iv a253.At.Y)]), (.ptr 2 1 0 0)] (hp8 a253) = some (bt, (hp9 a253)) := by
     rw [q288]; exact evF_z (F := F22) ⟨[ff 6], []⟩ [] [] rfl (Z g549 Z0) (by kernel_rfl)
    cases h
    exact pv_z (F := F6) ⟨[tt 11, tt 15, tt 21, tt 45, ff 50, ff 55, (61, bt, (some (hp9 a253)))], []⟩ [] [none, none] rfl (W4 g550 g285 g282 g279 <| W2 g271 g263 <| Z g255 Z0) (by kernel_rfl)
   have g292 := by have q := f42_ok n286 (GBox.mk (-1048576) (-1048576) 1048576 1048576) a253.At _ e290; rw [h291] at q; exact q
   have g293 : evF PP T n 0 22 [(.agg [(iv a253.At.X), (iv a253.At.Y)]), (.ptr 2 1 0 0)] (hp8 a253) = some (bf, (hp9 a253)) := by
    rw [q288]; exact evF_z (F := F22) ⟨[tt 6], []⟩ [] [] rfl (Z g292 Z0) (by kernel_rfl)
   obtain ⟨n294, e295, h⟩ := bnd_some h
   have q296 := prd_eq e295
   obtain ⟨n297, e298, h⟩ := bnd_some h
   have q299 := prd_eq e298
   have g300 := len_sl (P := PP) (cf := evF PP T n297) (fl := 0) (H := (hp9 a253)) (f := false) (c := c_GPoint) (l := a253.Via)
   have g357 : cleanQ false 0 4 [(.blk 10 [(c_GEdit a253)]), (.blk 1 [[(.fn 21 [])]]), (.blk 4 [[(iv (-1048576)), (iv (-1048576)), (iv 1048576), (iv 1048576)]]), (.blk 2 [[(iv a253.At.X), (iv a253.At.Y)]])] := trivial
   rcases bnd2_some h with ⟨v360, e358, h⟩ | ⟨v470, e358, h⟩
   rotate_left
   ·have g359 := f6_I43_L0_ok n297 a253 n297 0 _ e358
    have g471 : evF PP T n294 0 43 [(.sl false (List.map c_GPoint a253.Via)), (.fn 22 [(.ptr 2 1 0 0)])] (hp9 a253) = some ((iv (-1)), (hp9 a253)) := by
     rw [q299]; exact evF_z (F := F43) ⟨[(7, (iv ((a253.Via.length : Nat) : Int)), none)], []⟩ [((.exit 0), f6_I43_L0_E1 a253)] [] rfl (W2 g359 g357 <| Z g300 Z0) (by kernel_rfl)
    have g472 : evF PP T n 0 23 [(.sl false (List.map c_GPoint a253.Via)), (.fn 22 [(.ptr 2 1 0 0)])] (hp9 a253) = some (bf, (hp9 a253)) := by
     rw [q296]; exact evF_z (F := F23) ⟨[(7, (iv (-1)), none)], []⟩ [] [] rfl (Z g471 Z0) (by kernel_rfl)
    obtain ⟨n473, e474, h⟩ := bnd_some h
    have q475 := prd_eq e474
    obtain ⟨n476, e477, h⟩ := bnd_some h
    have q478 := prd_eq e477
    have g479 := len_sl (P := PP) (cf := evF PP T n476) (fl := 0) (H := (hp9 a253)) (f := false) (c := c_i64) (l := a253.Parts)
    have g536 : cleanQ false 0 4 [(.blk 10 [(c_GEdit a253)]), (.blk 1 [[(.fn 21 [])]]), (.blk 4 [[(iv (-1048576)), (iv (-1048576)), (iv 1048576), (iv 1048576)]]), (.blk 2 [[(iv a253.At.X), (iv a253.At.Y)]])] := trivial
    rcases bnd2_some h with ⟨v539, e537, h⟩ | ⟨v546, e537, h⟩
    rotate_left
    ·have g538 := f6_I44_L0_ok n476 a253 n476 0 _ e537
     have g547 : evF PP T n473 0 44 [(.sl false (List.map c_i64 a253.Parts)), (.fn 24 [(.ptr 1 1 0 0)])] (hp9 a253) = some ((iv (-1)), (hp9 a253)) := by
      rw [q478]; exact evF_z (F := F44) ⟨[(7, (iv ((a253.Parts.length : Nat) : Int)), none)], []⟩ [((.exit 0), f6_I44_L0_E1 a253)] [] rfl (W2 g538 g536 <| Z g479 Z0) (by kernel_rfl)
     have g548 : evF PP T n 0 25 [(.sl false (List.map c_i64 a253.Parts)), (.fn 24 [(.ptr 1 1 0 0)])] (hp9 a253) = some (bf, (hp9 a253)) := by
      rw [q475]; exact evF_z (F := F25) ⟨[(7, (iv (-1)), none)], []⟩ [] [] rfl (Z g547 Z0) (by kernel_rfl)
     cases h
     exact pv_z (F := F6) ⟨[tt 11, tt 15, tt 21, tt 45, ff 50, ff 55, (61, bf, (some (hp9 a253))), ff 67, ff 72], []⟩ [] [none, none] rfl (W8 g548 g472 g293 g285 g282 g279 g271 g263 <| Z g255 Z0) (by kernel_rfl)
    have g538 := f6_I44_L0_ok n476 a253 n476 0 _ e537
    have g540 : evF PP T n473 0 44 [(.sl false (List.map c_i64 a253.Parts)), (.fn 24 [(.ptr 1 1 0 0)])] (hp9 a253) = some ((iv v539), (hp9 a253)) := by
     rw [q478]; exact evF_z (F := F44) ⟨[(7, (iv ((a253.Parts.length : Nat) : Int)), none)], []⟩ [(.ret, f6_I44_L0_E0 a253 v539)] [] rfl (W2 g538 g536 <| Z g479 Z0) (by kernel_rfl)
    rcases cnd_or h with ⟨h541, h⟩ | ⟨h541, h⟩
    ·have g542 := bool_eq h541
     have g543 : evF PP T n 0 25 [(.sl false (List.map c_i64 a253.Parts)), (.fn 24 [(.ptr 1 1 0 0)])] (hp9 a253) = some (bt, (hp9 a253)) := by
      rw [q475]; exact evF_z (F := F25) ⟨[(7, (iv v539), none), tt 8], []⟩ [] [] rfl (W2 g542 g540 Z0) (by kernel_rfl)
     cases h
     exact pv_z (F := F6) ⟨[tt 11, tt 15, tt 21, tt 45, ff 50, ff 55, (61, bf, (some (hp9 a253))), ff 67, tt 72], []⟩ [] [none, none] rfl (W8 g543 g472 g293 g285 g282 g279 g271 g263 <| Z g255 Z0) (by kernel_rfl)
    have g544 := bool_eq h541
    have g545 : evF PP T n 0 25 [(.sl false (List.map c_i64 a253.Parts)), (.fn 24 [(.ptr 1 1 0 0)])] (hp9 a253) = some (bf, (hp9 a253)) := by
     rw [q475]; exact evF_z (F := F25) ⟨[(7, (iv v539), none), ff 8], []⟩ [] [] rfl (W2 g544 g540 Z0) (by kernel_rfl)
    cases h
    exact pv_z (F := F6) ⟨[tt 11, tt 15, tt 21, tt 45, ff 50, ff 55, (61, bf, (some (hp9 a253))), ff 67, ff 72], []⟩ [] [none, none] rfl (W8 g545 g472 g293 g285 g282 g279 g271 g263 <| Z g255 Z0) (by kernel_rfl)
   have g359 := f6_I43_L0_ok n297 a253 n297 0 _ e358
   have g361 : evF PP T n294 0 43 [(.sl false (List.map c_GPoint a253.Via)), (.fn 22 [(.ptr 2 1 0 0)])] (hp9 a253) = some ((iv v360), (hp9 a253)) := by
    rw [q299]; exact evF_z (F := F43) ⟨[(7, (iv ((a253.Via.length : Nat) : Int)), none)], []⟩ [(.ret, f6_I43_L0_E0 a253 v360)] [] rfl (W2 g359 g357 <| Z g300 Z0) (by kernel_rfl)
   rcases cnd_or h with ⟨h362, h⟩ | ⟨h362, h⟩
   ·have g363 := bool_eq h362
    have g364 : evF PP T n 0 23 [(.sl false (List.map c_GPoint a253.Via)), (.fn 22 [(.ptr 2 1 0 0)])] (hp9 a253) = some (bt, (hp9 a253)) := by
     rw [q296]; exact evF_z (F := F23) ⟨[(7, (iv v360), none), tt 8], []⟩ [] [] rfl (W2 g363 g361 Z0) (by kernel_rfl)
    cases h
    exact pv_z (F := F6) ⟨[tt 11, tt 15, tt 21, tt 45, ff 50, ff 55, (61, bf, (some (hp9 a253))), tt 67], []⟩ [] [none, none] rfl (W8 g364 g293 g285 g282 g279 g271 g263 g255 Z0) (by kernel_rfl)
   have g365 := bool_eq h362
   have g366 : evF PP T n 0 23 [(.sl false (List.map c_GPoint a253.Via)), (.fn 22 [(.ptr 2 1 0 0)])] (hp9 a253) = some (bf, (hp9 a253)) := by
    rw [q296]; exact evF_z (F := F23) ⟨[(7, (iv v360), none), ff 8], []⟩ [] [] rfl (W2 g365 g361 Z0) (by kernel_rfl)
   obtain ⟨n367, e368, h⟩ := bnd_some h
   have q369 := prd_eq e368
   obtain ⟨n370, e371, h⟩ := bnd_some h
   have q372 := prd_eq e371
   have g373 := len_sl (P := PP) (cf := evF PP T n370) (fl := 0) (H := (hp9 a253)) (f := false) (c := c_i64) (l := a253.Parts)
   have g457 : cleanQ false 0 4 [(.blk 10 [(c_GEdit a253)]), (.blk 1 [[(.fn 21 [])]]), (.blk 4 [[(iv (-1048576)), (iv (-1048576)), (iv 1048576), (iv 1048576)]]), (.blk 2 [[(iv a253.At.X), (iv a253.At.Y)]])] := trivial
   rcases bnd2_some h with ⟨v460, e458, h⟩ | ⟨v467, e458, h⟩
   rotate_left
   ·have g459 := f6_I44_L0_ok n370 a253 n370 0 _ e458
    have g468 : evF PP T n367 0 44 [(.sl false (List.map c_i64 a253.Parts)), (.fn 24 [(.ptr 1 1 0 0)])] (hp9 a253) = some ((iv (-1)), (hp9 a253)) := by
     rw [q372]; exact evF_z (F := F44) ⟨[(7, (iv ((a253.Parts.length : Nat) : Int)), none)], []⟩ [((.exit 0), f6_I44_L0_E1 a253)] [] rfl (W2 g459 g457 <| Z g373 Z0) (by kernel_rfl)
    have g469 : evF PP T n 0 25 [(.sl false (List.map c_i64 a253.Parts)), (.fn 24 [(.ptr 1 1 0 0)])] (hp9 a253) = some (bf, (hp9 a253)) := by
     rw [q369]; exact evF_z (F := F25) ⟨[(7, (iv (-1)), none)], []⟩ [] [] rfl (Z g468 Z0) (by kernel_rfl)
    cases h
    exact pv_z (F := F6) ⟨[tt 11, tt 15, tt 21, tt 45, ff 50, ff 55, (61, bf, (some (hp9 a253))), ff 67, ff 72], []⟩ [] [none, none] rfl (W8 g469 g366 g293 g285 g282 g279 g271 g263 <| Z g255 Z0) (by kernel_rfl)
   have g459 := f6_I44_L0_ok n370 a253 n370 0 _ e458
   have g461 : evF PP T n367 0 44 [(.sl false (List.map c_i64 a253.Parts)), (.fn 24 [(.ptr 1 1 0 0)])] (hp9 a253) = some ((iv v460), (hp9 a253)) := by
    rw [q372]; exact evF_z (F := F44) ⟨[(7, (iv ((a253.Parts.length : Nat) : Int)), none)], []⟩ [(.ret, f6_I44_L0_E0 a253 v460)] [] rfl (W2 g459 g457 <| Z g373 Z0) (by kernel_rfl)
   rcases cnd_or h with ⟨h462, h⟩ | ⟨h462, h⟩
   ·have g463 := bool_eq h462
    have g464 : evF PP T n 0 25 [(.sl false (List.map c_i64 a253.Parts)), (.fn 24 [(.ptr 1 1 0 0)])] (hp9 a253) = some (bt, (hp9 a253)) := by
     rw [q369]; exact evF_z (F := F25) ⟨[(7, (iv v460), none), tt 8], []⟩ [] [] rfl (W2 g463 g461 Z0) (by kernel_rfl)
    cases h
    exact pv_z (F := F6) ⟨[tt 11, tt 15, tt 21, tt 45, ff 50, ff 55, (61, bf, (some (hp9 a253))), ff 67, tt 72], []⟩ [] [none, none] rfl (W8 g464 g366 g293 g285 g282 g279 g271 g263 <| Z g255 Z0) (by kernel_rfl)
   have g465 := bool_eq h462
   have g466 : evF PP T n 0 25 [(.sl false (List.map c_i64 a253.Parts)), (.fn 24 [(.ptr 1 1 0 0)])] (hp9 a253) = some (bf, (hp9 a253)) := by
    rw [q369]; exact evF_z (F := F25) ⟨[(7, (iv v460), none), ff 8], []⟩ [] [] rfl (W2 g465 g461 Z0) (by kernel_rfl)
   cases h
   exact pv_z (F := F6) ⟨[tt 11, tt 15, tt 21, tt 45, ff 50, ff 55, (61, bf, (some (hp9 a253))), ff 67, ff 72], []⟩ [] [none, none] rfl (W8 g466 g366 g293 g285 g282 g279 g271 g263 <| Z g255 Z0) (by kernel_rfl)
  have g563 := bool_eq h254
  rcases cnd_or h with ⟨h564, h⟩ | ⟨h564, h⟩
  ·have g565 := bool_eq h564
   obtain ⟨n566, e567, h⟩ := bnd_some h
   have q568 := prd_eq e567
   rcases cnd_or h with ⟨h569, h⟩ | ⟨h569, h⟩
   rotate_left
   ·have g814 := bool_eq h569
    have g815 : evF PP T n 0 21 [(iv a253.A)] (hp8 a253) = some (bf, (hp8 a253)) := by
     rw [q568]; exact evF_z (F := F21) ⟨[ff 4], []⟩ [] [] rfl (Z g814 Z0) (by kernel_rfl)
    cases h
    exact pv_z (F := F6) ⟨[ff 11, tt 25, ff 29], []⟩ [] [none, none] rfl (W2 g815 g565 <| Z g563 Z0) (by kernel_rfl)
   have g570 := bool_eq h569
   rcases cnd_or h with ⟨h571, h⟩ | ⟨h571, h⟩
   rotate_left
   ·have g812 := bool_eq h571
    have g813 : evF PP T n 0 21 [(iv a253.A)] (hp8 a253) = some (bf, (hp8 a253)) := by
     rw [q568]; exact evF_z (F := F21) ⟨[tt 4, ff 7], []⟩ [] [] rfl (W2 g812 g570 Z0) (by kernel_rfl)
    cases h
    exact pv_z (F := F6) ⟨[ff 11, tt 25, ff 29], []⟩ [] [none, none] rfl (W2 g813 g565 <| Z g563 Z0) (by kernel_rfl)
   have g572 := bool_eq h571
   have g573 : evF PP T n 0 21 [(iv a253.A)] (hp8 a253) = some (bt, (hp8 a253)) := by
    rw [q568]; exact evF_z (F := F21) ⟨[tt 4, tt 7], []⟩ [] [] rfl (W2 g572 g570 Z0) (by kernel_rfl)
   obtain ⟨n574, e575, h⟩ := bnd_some h
   have q576 := prd_eq e575
   rcases cnd_or h with ⟨h577, h⟩ | ⟨h577, h⟩
   rotate_left
   ·have g810 := bool_eq h577
    have g811 : evF PP T n 0 21 [(iv a253.ID)] (hp8 a253) = some (bf, (hp8 a253)) := by
     rw [q576]; exact evF_z (F := F21) ⟨[ff 4], []⟩ [] [] rfl (Z g810 Z0) (by kernel_rfl)
    cases h
    exact pv_z (F := F6) ⟨[ff 11, tt 25, tt 29, ff 45], []⟩ [] [none, none] rfl (W4 g811 g573 g565 g563 Z0) (by kernel_rfl)
   have g578 := bool_eq h577
   rcases cnd_or h with ⟨h579, h⟩ | ⟨h579, h⟩
   rotate_left
   ·have g808 := bool_eq h579
    have g809 : evF PP T n 0 21 [(iv a253.ID)] (hp8 a253) = some (bf, (hp8 a253)) := by
     rw [q576]; exact evF_z (F := F21) ⟨[tt 4, ff 7], []⟩ [] [] rfl (W2 g808 g578 Z0) (by kernel_rfl)
    cases h
    exact pv_z (F := F6) ⟨[ff 11, tt 25, tt 29, ff 45], []⟩ [] [none, none] rfl (W4 g809 g573 g565 g563 Z0) (by kernel_rfl)
   have g580 := bool_eq h579
   have g581 : evF PP T n 0 21 [(iv a253.ID)] (hp8 a253) = some (bt, (hp8 a253)) := by
    rw [q576]; exact evF_z (F := F21) ⟨[tt 4, tt 7], []⟩ [] [] rfl (W2 g580 g578 Z0) (by kernel_rfl)
   rcases cnd_or h with ⟨h582, h⟩ | ⟨h582, h⟩
   ·have g583 := bool_eq h582
    cases h
    exact pv_z (F := F6) ⟨[ff 11, tt 25, tt 29, tt 45, tt 50], []⟩ [] [none, none] rfl (W4 g583 g581 g573 g565 <| Z g563 Z0) (by kernel_rfl)
   have g584 := bool_eq h582
   rcases cnd_or h with ⟨h585, h⟩ | ⟨h585, h⟩
   ·have g586 := bool_eq h585
    cases h
    exact pv_z (F := F6) ⟨[ff 11, tt 25, tt 29, tt 45, ff 50, tt 55], []⟩ [] [none, none] rfl (W4 g586 g584 g581 g573 <| W2 g565 g563 Z0) (by kernel_rfl)
   have g587 := bool_eq h585
   obtain ⟨n588, e589, h⟩ := bnd_some h
   have q590 := prd_eq e589
   obtain ⟨v591, e592, h⟩ := bnd_some h
   rcases cnd_or h with ⟨h593, h⟩ | ⟨h593, h⟩
   rotate_left
   ·have g806 := by have q := f42_ok n588 (GBox.mk (-1048576) (-1048576) 1048576 1048576) a253.At _ e592; rw [h593] at q; exact q
    have g807 : evF PP T n 0 22 [(.agg [(iv a253.At.X), (iv a253.At.Y)]), (.ptr 2 1 0 0)] (hp8 a253) = some (bt, (hp9 a253)) := by
     rw [q590]; exact evF_z (F := F22) ⟨[ff 6], []⟩ [] [] rfl (Z g806 Z0) (by kernel_rfl)
    cases h
    exact pv_z (F := F6) ⟨[ff 11, tt 25, tt 29, tt 45, ff 50, ff 55, (61, bt, (some (hp9 a253)))], []⟩ [] [none, none] rfl (W4 g807 g587 g584 g581 <| W2 g573 g565 <| Z g563 Z0) (by kernel_rfl)
   have g594 := by have q := f42_ok n588 (GBox.mk (-1048576) (-1048576) 1048576 1048576) a253.At _ e592; rw [h593] at q; exact q
   have g595 : evF PP T n 0 22 [(.agg [(iv a253.At.X), (iv a253.At.Y)]), (.ptr 2 1 0 0)] (hp8 a253) = some (bf, (hp9 a253)) := by
    rw [q590]; exact evF_z (F := F22) ⟨[tt 6], []⟩ [] [] rfl (Z g594 Z0) (by kernel_rfl)
   obtain ⟨n596, e597, h⟩ := bnd_some h
   have q598 := prd_eq e597
   obtain ⟨n599, e600, h⟩ := bnd_some h
   have q601 := prd_eq e600
   have g602 := len_sl (P := PP) (cf := evF PP T n599) (fl := 0) (H := (hp9 a253)) (f := false) (c := c_GPoint) (l := a253.Via)
   have g641 : cleanQ false 0 4 [(.blk 10 [(c_GEdit a253)]), (.blk 1 [[(.fn 21 [])]]), (.blk 4 [[(iv (-1048576)), (iv (-1048576)), (iv 1048576), (iv 1048576)]]), (.blk 2 [[(iv a253.At.X), (iv a253.At.Y)]])] := trivial
   rcases bnd2_some h with ⟨v644, e642, h⟩ | ⟨v727, e642, h⟩
   rotate_left
   ·have g643 := f6_I43_L0_ok n599 a253 n599 0 _ e642
    have g728 : evF PP T n596 0 43 [(.sl false (List.map c_GPoint a253.Via)), (.fn 22 [(.ptr 2 1 0 0)])] (hp9 a253) = some ((iv (-1)), (hp9 a253)) := by
     rw [q601]; exact evF_z (F := F43) ⟨[(7, (iv ((a253.Via.length : Nat) : Int)), none)], []⟩ [((.exit 0), f6_I43_L0_E1 a253)] [] rfl (W2 g643 g641 <| Z g602 Z0) (by kernel_rfl)
    have g729 : evF PP T n 0 23 [(.sl false (List.map c_GPoint a253.Via)), (.fn 22 [(.ptr 2 1 0 0)])] (hp9 a253) = some (bf, (hp9 a253)) := by
     rw [q598]; exact evF_z (F := F23) ⟨[(7, (iv (-1)), none)], []⟩ [] [] rfl (Z g728 Z0) (by kernel_rfl)
    obtain ⟨n730, e731, h⟩ := bnd_some h
    have q732 := prd_eq e731
    obtain ⟨n733, e734, h⟩ := bnd_some h
    have q735 := prd_eq e734
    have g736 := len_sl (P := PP) (cf := evF PP T n733) (fl := 0) (H := (hp9 a253)) (f := false) (c := c_i64) (l := a253.Parts)
    have g793 : cleanQ false 0 4 [(.blk 10 [(c_GEdit a253)]), (.blk 1 [[(.fn 21 [])]]), (.blk 4 [[(iv (-1048576)), (iv (-1048576)), (iv 1048576), (iv 1048576)]]), (.blk 2 [[(iv a253.At.X), (iv a253.At.Y)]])] := trivial
    rcases bnd2_some h with ⟨v796, e794, h⟩ | ⟨v803, e794, h⟩
    rotate_left
    ·have g795 := f6_I44_L0_ok n733 a253 n733 0 _ e794
     have g804 : evF PP T n730 0 44 [(.sl false (List.map c_i64 a253.Parts)), (.fn 24 [(.ptr 1 1 0 0)])] (hp9 a253) = some ((iv (-1)), (hp9 a253)) := by
      rw [q735]; exact evF_z (F := F44) ⟨[(7, (iv ((a253.Parts.length : Nat) : Int)), none)], []⟩ [((.exit 0), f6_I44_L0_E1 a253)] [] rfl (W2 g795 g793 <| Z g736 Z0) (by kernel_rfl)
     have g805 : evF PP T n 0 25 [(.sl false (List.map c_i64 a253.Parts)), (.fn 24 [(.ptr 1 1 0 0)])] (hp9 a253) = some (bf, (hp9 a253)) := by
      rw [q732]; exact evF_z (F := F25) ⟨[(7, (iv (-1)), none)], []⟩ [] [] rfl (Z g804 Z0) (by kernel_rfl)
     cases h
     exact pv_z (F := F6) ⟨[ff 11, tt 25, tt 29, tt 45, ff 50, ff 55, (61, bf, (some (hp9 a253))), ff 67, ff 72], []⟩ [] [none, none] rfl (W8 g805 g729 g595 g587 g584 g581 g573 g565 <| Z g563 Z0) (by kernel_rfl)
    have g795 := f6_I44_L0_ok n733 a253 n733 0 _ e794
    have g797 : evF PP T n730 0 44 [(.sl false (List.map c_i64 a253.Parts)), (.fn 24 [(.ptr 1 1 0 0)])] (hp9 a253) = some ((iv v796), (hp9 a253)) := by
     rw [q735]; exact evF_z (F := F44) ⟨[(7, (iv ((a253.Parts.length : Nat) : Int)), none)], []⟩ [(.ret, f6_I44_L0_E0 a253 v796)] [] rfl (W2 g795 g793 <| Z g736 Z0) (by kernel_rfl)
    rcases cnd_or h with ⟨h798, h⟩ | ⟨h798, h⟩
    ·have g799 := bool_eq h798
     have g800 : evF PP T n 0 25 [(.sl false (List.map c_i64 a253.Parts)), (.fn 24 [(.ptr 1 1 0 0)])] (hp9 a253) = some (bt, (hp9 a253)) := by
      rw [q732]; exact evF_z (F := F25) ⟨[(7, (iv v796), none), tt 8], []⟩ [] [] rfl (W2 g799 g797 Z0) (by kernel_rfl)
     cases h
     exact pv_z (F := F6) ⟨[ff 11, tt 25, tt 29, tt 45, ff 50, ff 55, (61, bf, (some (hp9 a253))), ff 67, tt 72], []⟩ [] [none, none] rfl (W8 g800 g729 g595 g587 g584 g581 g573 g565 <| Z g563 Z0) (by kernel_rfl)
    have g801 := bool_eq h798
    have g802 : evF PP T n 0 25 [(.sl false (List.map c_i64 a253.Parts)), (.fn 24 [(.ptr 1 1 0 0)])] (hp9 a253) = some (bf, (hp9 a253)) := by
     rw [q732]; exact evF_z (F := F25) ⟨[(7, (iv v796), none), ff 8], []⟩ [] [] rfl (W2 g801 g797 Z0) (by kernel_rfl)
    cases h
    exact pv_z (F := F6) ⟨[ff 11, tt 25, tt 29, tt 45, ff 50, ff 55, (61, bf, (some (hp9 a253))), ff 67, ff 72], []⟩ [] [none, none] rfl (W8 g802 g729 g595 g587 g584 g581 g573 g565 <| Z g563 Z0) (by kernel_rfl)
   have g643 := f6_I43_L0_ok n599 a253 n599 0 _ e642
   have g645 : evF PP T n596 0 43 [(.sl false (List.map c_GPoint a253.Via)), (.fn 22 [(.ptr 2 1 0 0)])] (hp9 a253) = some ((iv v644), (hp9 a253)) := by
    rw [q601]; exact evF_z (F := F43) ⟨[(7, (iv ((a253.Via.length : Nat) : Int)), none)], []⟩ [(.ret, f6_I43_L0_E0 a253 v644)] [] rfl (W2 g643 g641 <| Z g602 Z0) (by kernel_rfl)
   rcases cnd_or h with ⟨h646, h⟩ | ⟨h646, h⟩
   ·have g647 := bool_eq h646
    have g648 : evF PP T n 0 23 [(.sl false (List.map c_GPoint a253.Via)), (.fn 22 [(.ptr 2 1 0 0)])] (hp9 a253) = some (bt, (hp9 a253)) := by
     rw [q598]; exact evF_z (F := F23) ⟨[(7, (iv v644), none), tt 8], []⟩ [] [] rfl (W2 g647 g645 Z0) (by kernel_rfl)
    cases h
    exact pv_z (F := F6) ⟨[ff 11, tt 25, tt 29, tt 45, ff 50, ff 55, (61, bf, (some (hp9 a253))), tt 67], []⟩ [] [none, none] rfl (W8 g648 g595 g587 g584 g581 g573 g565 g563 Z0) (by kernel_rfl)
   have g649 := bool_eq h646
   have g650 : evF PP T n 0 23 [(.sl false (List.map c_GPoint a253.Via)), (.fn 22 [(.ptr 2 1 0 0)])] (hp9 a253) = some (bf, (hp9 a253)) := by
    rw [q598]; exact evF_z (F := F23) ⟨[(7, (iv v644), none), ff 8], []⟩ [] [] rfl (W2 g649 g645 Z0) (by kernel_rfl)
   obtain ⟨n651, e652, h⟩ := bnd_some h
   have q653 := prd_eq e652
   obtain ⟨n654, e655, h⟩ := bnd_some h
   have q656 := prd_eq e655
   have g657 := len_sl (P := PP) (cf := evF PP T n654) (fl := 0) (H := (hp9 a253)) (f := false) (c := c_i64) (l := a253.Parts)
   have g714 : cleanQ false 0 4 [(.blk 10 [(c_GEdit a253)]), (.blk 1 [[(.fn 21 [])]]), (.blk 4 [[(iv (-1048576)), (iv (-1048576)), (iv 1048576), (iv 1048576)]]), (.blk 2 [[(iv a253.At.X), (iv a253.At.Y)]])] := trivial
   rcases bnd2_some h with ⟨v717, e715, h⟩ | ⟨v724, e715, h⟩
   rotate_left
   ·have g716 := f6_I44_L0_ok n654 a253 n654 0 _ e715
    have g725 : evF PP T n651 0 44 [(.sl false (List.map c_i64 a253.Parts)), (.fn 24 [(.ptr 1 1 0 0)])] (hp9 a253) = some ((iv (-1)), (hp9 a253)) := by
     rw [q656]; exact evF_z (F := F44) ⟨[(7, (iv ((a253.Parts.length : Nat) : Int)), none)], []⟩ [((.exit 0), f6_I44_L0_E1 a253)] [] rfl (W2 g716 g714 <| Z g657 Z0) (by kernel_rfl)
    have g726 : evF PP T n 0 25 [(.sl false (List.map c_i64 a253.Parts)), (.fn 24 [(.ptr 1 1 0 0)])] (hp9 a253) = some (bf, (hp9 a253)) := by
     rw [q653]; exact evF_z (F := F25) ⟨[(7, (iv (-1)), none)], []⟩ [] [] rfl (Z g725 Z0) (by kernel_rfl)
    cases h
    exact pv_z (F := F6) ⟨[ff 11, tt 25, tt 29, tt 45, ff 50, ff 55, (61, bf, (some (hp9 a253))), ff 67, ff 72], []⟩ [] [none, none] rfl (W8 g726 g650 g595 g587 g584 g581 g573 g565 <| Z g563 Z0) (by kernel_rfl)
   have g716 := f6_I44_L0_ok n654 a253 n654 0 _ e715
   have g718 : evF PP T n651 0 44 [(.sl false (List.map c_i64 a253.Parts)), (.fn 24 [(.ptr 1 1 0 0)])] (hp9 a253) = some ((iv v717), (hp9 a253)) := by
    rw [q656]; exact evF_z (F := F44) ⟨[(7, (iv ((a253.Parts.length : Nat) : Int)), none)], []⟩ [(.ret, f6_I44_L0_E0 a253 v717)] [] rfl (W2 g716 g714 <| Z g657 Z0) (by kernel_rfl)
   rcases cnd_or h with ⟨h719, h⟩ | ⟨h719, h⟩
   ·have g720 := bool_eq h719
    have g721 : evF PP T n 0 25 [(.sl false (List.map c_i64 a253.Parts)), (.fn 24 [(.ptr 1 1 0 0)])] (hp9 a253) = some (bt, (hp9 a253)) := by
     rw [q653]; exact evF_z (F := F25) ⟨[(7, (iv v717), none), tt 8], []⟩ [] [] rfl (W2 g720 g718 Z0) (by kernel_rfl)
    cases h
    exact pv_z (F := F6) ⟨[ff 11, tt 25, tt 29, tt 45, ff 50, ff 55, (61, bf, (some (hp9 a253))), ff 67, tt 72], []⟩ [] [none, none] rfl (W8 g721 g650 g595 g587 g584 g581 g573 g565 <| Z g563 Z0) (by kernel_rfl)
   have g722 := bool_eq h719
   have g723 : evF PP T n 0 25 [(.sl false (List.map c_i64 a253.Parts)), (.fn 24 [(.ptr 1 1 0 0)])] (hp9 a253) = some (bf, (hp9 a253)) := by
    rw [q653]; exact evF_z (F := F25) ⟨[(7, (iv v717), none), ff 8], []⟩ [] [] rfl (W2 g722 g718 Z0) (by kernel_rfl)
   cases h
   exact pv_z (F := F6) ⟨[ff 11, tt 25, tt 29, tt 45, ff 50, ff 55, (61, bf, (some (hp9 a253))), ff 67, ff 72], []⟩ [] [none, none] rfl (W8 g723 g650 g595 g587 g584 g581 g573 g565 <| Z g563 Z0) (by kernel_rfl)
  have g816 := bool_eq h564
  rcases cnd_or h with ⟨h817, h⟩ | ⟨h817, h⟩
  ·have g818 := bool_eq h817
   rcases cnd_or h with ⟨h819, h⟩ | ⟨h819, h⟩
   ·have g820 := bool_eq h819
    cases h
    exact pv_z (F := F6) ⟨[ff 11, ff 25, tt 32, tt 36], []⟩ [] [none, none] rfl (W4 g820 g818 g816 g563 Z0) (by kernel_rfl)
   have g821 := bool_eq h819
   rcases cnd_or h with ⟨h822, h⟩ | ⟨h822, h⟩
   ·have g823 := bool_eq h822
    cases h
    exact pv_z (F := F6) ⟨[ff 11, ff 25, tt 32, ff 36, tt 40], []⟩ [] [none, none] rfl (W4 g823 g821 g818 g816 <| Z g563 Z0) (by kernel_rfl)
   have g824 := bool_eq h822
   obtain ⟨n825, e826, h⟩ := bnd_some h
   have q827 := prd_eq e826
   rcases cnd_or h with ⟨h828, h⟩ | ⟨h828, h⟩
   rotate_left
   ·have g1061 := bool_eq h828
    have g1062 : evF PP T n 0 21 [(iv a253.ID)] (hp8 a253) = some (bf, (hp8 a253)) := by
     rw [q827]; exact evF_z (F := F21) ⟨[ff 4], []⟩ [] [] rfl (Z g1061 Z0) (by kernel_rfl)
    cases h
    exact pv_z (F := F6) ⟨[ff 11, ff 25, tt 32, ff 36, ff 40, ff 45], []⟩ [] [none, none] rfl (W4 g1062 g824 g821 g818 <| W2 g816 g563 Z0) (by kernel_rfl)
   have g829 := bool_eq h828
   rcases cnd_or h with ⟨h830, h⟩ | ⟨h830, h⟩
   rotate_left
   ·have g1059 := bool_eq h830
    have g1060 : evF PP T n 0 21 [(iv a253.ID)] (hp8 a253) = some (bf, (hp8 a253)) := by
     rw [q827]; exact evF_z (F := F21) ⟨[tt 4, ff 7], []⟩ [] [] rfl (W2 g1059 g829 Z0) (by kernel_rfl)
    cases h
    exact pv_z (F := F6) ⟨[ff 11, ff 25, tt 32, ff 36, ff 40, ff 45], []⟩ [] [none, none] rfl (W4 g1060 g824 g821 g818 <| W2 g816 g563 Z0) (by kernel_rfl)
   have g831 := bool_eq h830
   have g832 : evF PP T n 0 21 [(iv a253.ID)] (hp8 a253) = some (bt, (hp8 a253)) := by
    rw [q827]; exact evF_z (F := F21) ⟨[tt 4, tt 7], []⟩ [] [] rfl (W2 g831 g829 Z0) (by kernel_rfl)
   rcases cnd_or h with ⟨h833, h⟩ | ⟨h833, h⟩
   ·have g834 := bool_eq h833
    cases h
    exact pv_z (F := F6) ⟨[ff 11, ff 25, tt 32, ff 36, ff 40, tt 45, tt 50], []⟩ [] [none, none] rfl (W4 g834 g832 g824 g821 <| W2 g818 g816 <| Z g563 Z0) (by kernel_rfl)
   have g835 := bool_eq h833
   rcases cnd_or h with ⟨h836, h⟩ | ⟨h836, h⟩
   ·have g837 := bool_eq h836
    cases h
    exact pv_z (F := F6) ⟨[ff 11, ff 25, tt 32, ff 36, ff 40, tt 45, ff 50, tt 55], []⟩ [] [none, none] rfl (W8 g837 g835 g832 g824 g821 g818 g816 g563 Z0) (by kernel_rfl)
   have g838 := bool_eq h836
   obtain ⟨n839, e840, h⟩ := bnd_some h
   have q841 := prd_eq e840
   obtain ⟨v842, e843, h⟩ := bnd_some h
   rcases cnd_or h with ⟨h844, h⟩ | ⟨h844, h⟩
   rotate_left
   ·have g1057 := by have q := f42_ok n839 (GBox.mk (-1048576) (-1048576) 1048576 1048576) a253.At _ e843; rw [h844] at q; exact q
    have g1058 : evF PP T n 0 22 [(.agg [(iv a253.At.X), (iv a253.At.Y)]), (.ptr 2 1 0 0)] (hp8 a253) = some (bt, (hp9 a253)) := by
     rw [q841]; exact evF_z (F := F22) ⟨[ff 6], []⟩ [] [] rfl (Z g1057 Z0) (by kernel_rfl)
    cases h
    exact pv_z (F := F6) ⟨[ff 11, ff 25, tt 32, ff 36, ff 40, tt 45, ff 50, ff 55, (61, bt, (some (hp9 a253)))], []⟩ [] [none, none] rfl (W8 g1058 g838 g835 g832 g824 g821 g818 g816 <| Z g563 Z0) (by kernel_rfl)
   have g845 := by have q := f42_ok n839 (GBox.mk (-1048576) (-1048576) 1048576 1048576) a253.At _ e843; rw [h844] at q; exact q
   have g846 : evF PP T n 0 22 [(.agg [(iv a253.At.X), (iv a253.At.Y)]), (.ptr 2 1 0 0)] (hp8 a253) = some (bf, (hp9 a253)) := by
    rw [q841]; exact evF_z (F := F22) ⟨[tt 6], []⟩ [] [] rfl (Z g845 Z0) (by kernel_rfl)
   obtain ⟨n847, e848, h⟩ := bnd_some h
   have q849 := prd_eq e848
   obtain ⟨n850, e851, h⟩ := bnd_some h
   have q852 := prd_eq e851
   have g853 := len_sl (P := PP) (cf := evF PP T n850) (fl := 0) (H := (hp9 a253)) (f := false) (c := c_GPoint) (l := a253.Via)
   have g892 : cleanQ false 0 4 [(.blk 10 [(c_GEdit a253)]), (.blk 1 [[(.fn 21 [])]]), (.blk 4 [[(iv (-1048576)), (iv (-1048576)), (iv 1048576), (iv 1048576)]]), (.blk 2 [[(iv a253.At.X), (iv a253.At.Y)]])] := trivial
   rcases bnd2_some h with ⟨v895, e893, h⟩ | ⟨v978, e893, h⟩
   rotate_left
   ·have g894 := f6_I43_L0_ok n850 a253 n850 0 _ e893
    have g979 : evF PP T n847 0 43 [(.sl false (List.map c_GPoint a253.Via)), (.fn 22 [(.ptr 2 1 0 0)])] (hp9 a253) = some ((iv (-1)), (hp9 a253)) := by
     rw [q852]; exact evF_z (F := F43) ⟨[(7, (iv ((a253.Via.length : Nat) : Int)), none)], []⟩ [((.exit 0), f6_I43_L0_E1 a253)] [] rfl (W2 g894 g892 <| Z g853 Z0) (by kernel_rfl)
    have g980 : evF PP T n 0 23 [(.sl false (List.map c_GPoint a253.Via)), (.fn 22 [(.ptr 2 1 0 0)])] (hp9 a253) = some (bf, (hp9 a253)) := by
     rw [q849]; exact evF_z (F := F23) ⟨[(7, (iv (-1)), none)], []⟩ [] [] rfl (Z g979 Z0) (by kernel_rfl)
    obtain ⟨n981, e982, h⟩ := bnd_some h
    have q983 := prd_eq e982
    obtain ⟨n984, e985, h⟩ := bnd_some h
    have q986 := prd_eq e985
    have g987 := len_sl (P := PP) (cf := evF PP T n984) (fl := 0) (H := (hp9 a253)) (f := false) (c := c_i64) (l := a253.Parts)
    have g1044 : cleanQ false 0 4 [(.blk 10 [(c_GEdit a253)]), (.blk 1 [[(.fn 21 [])]]), (.blk 4 [[(iv (-1048576)), (iv (-1048576)), (iv 1048576), (iv 1048576)]]), (.blk 2 [[(iv a253.At.X), (iv a253.At.Y)]])] := trivial
    rcases bnd2_some h with ⟨v1047, e1045, h⟩ | ⟨v1054, e1045, h⟩
    rotate_left
    ·have g1046 := f6_I44_L0_ok n984 a253 n984 0 _ e1045
     have g1055 : evF PP T n981 0 44 [(.sl false (List.map c_i64 a253.Parts)), (.fn 24 [(.ptr 1 1 0 0)])] (hp9 a253) = some ((iv (-1)), (hp9 a253)) := by
      rw [q986]; exact evF_z (F := F44) ⟨[(7, (iv ((a253.Parts.length : Nat) : Int)), none)], []⟩ [((.exit 0), f6_I44_L0_E1 a253)] [] rfl (W2 g1046 g1044 <| Z g987 Z0) (by kernel_rfl)
     have g1056 : evF PP T n 0 25 [(.sl false (List.map c_i64 a253.Parts)), (.fn 24 [(.ptr 1 1 0 0)])] (hp9 a253) = some (bf, (hp9 a253)) := by
      rw [q983]; exact evF_z (F := F25) ⟨[(7, (iv (-1)), none)], []⟩ [] [] rfl (Z g1055 Z0) (by kernel_rfl)
     cases h
     exact pv_z (F := F6) ⟨[ff 11, ff 25, tt 32, ff 36, ff 40, tt 45, ff 50, ff 55, (61, bf, (some (hp9 a253))), ff 67, ff 72], []⟩ [] [none, none] rfl (W8 g1056 g980 g846 g838 g835 g832 g824 g821 <| W2 g818 g816 <| Z g563 Z0) (by kernel_rfl)
    have g1046 := f6_I44_L0_ok n984 a253 n984 0 _ e1045
    have g1048 : evF PP T n981 0 44 [(.sl false (List.map c_i64 a253.Parts)), (.fn 24 [(.ptr 1 1 0 0)])] (hp9 a253) = some ((iv v1047), (hp9 a253)) := by
     rw [q986]; exact evF_z (F := F44) ⟨[(7, (iv ((a253.Parts.length : Nat) : Int)), none)], []⟩ [(.ret, f6_I44_L0_E0 a253 v1047)] [] rfl (W2 g1046 g1044 <| Z g987 Z0) (by kernel_rfl)
    rcases cnd_or h with ⟨h1049, h⟩ | ⟨h1049, h⟩
    ·have g1050 := bool_eq h1049
     have g1051 : evF PP T n 0 25 [(.sl false (List.map c_i64 a253.Parts)), (.fn 24 [(.ptr 1 1 0 0)])] (hp9 a253) = some (bt, (hp9 a253)) := by
      rw [q983]; exact evF_z (F := F25) ⟨[(7, (iv v1047), none), tt 8], []⟩ [] [] rfl (W2 g1050 g1048 Z0) (by kernel_rfl)
     cases h
     exact pv_z (F := F6) ⟨[ff 11, ff 25, tt 32, ff 36, ff 40, tt 45, ff 50, ff 55, (61, bf, (some (hp9 a253))), ff 67, tt 72], []⟩ [] [none, none] rfl (W8 g1051 g980 g846 g838 g835 g832 g824 g821 <| W2 g818 g816 <| Z g563 Z0) (by kernel_rfl)
    have g1052 := bool_eq h1049
    have g1053 : evF PP T n 0 25 [(.sl false (List.map c_i64 a253.Parts)), (.fn 24 [(.ptr 1 1 0 0)])] (hp9 a253) = some (bf, (hp9 a253)) := by
     rw [q983]; exact evF_z (F := F25) ⟨[(7, (iv v1047), none), ff 8], []⟩ [] [] rfl (W2 g1052 g1048 Z0) (by kernel_rfl)
    cases h
    exact pv_z (F := F6) ⟨[ff 11, ff 25, tt 32, ff 36, ff 40, tt 45, ff 50, ff 55, (61, bf, (some (hp9 a253))), ff 67, ff 72], []⟩ [] [none, none] rfl (W8 g1053 g980 g846 g838 g835 g832 g824 g821 <| W2 g818 g816 <| Z g563 Z0) (by kernel_rfl)
   have g894 := f6_I43_L0_ok n850 a253 n850 0 _ e893
   have g896 : evF PP T n847 0 43 [(.sl false (List.map c_GPoint a253.Via)), (.fn 22 [(.ptr 2 1 0 0)])] (hp9 a253) = some ((iv v895), (hp9 a253)) := by
    rw [q852]; exact evF_z (F := F43) ⟨[(7, (iv ((a253.Via.length : Nat) : Int)), none)], []⟩ [(.ret, f6_I43_L0_E0 a253 v895)] [] rfl (W2 g894 g892 <| Z g853 Z0) (by kernel_rfl)
   rcases cnd_or h with ⟨h897, h⟩ | ⟨h897, h⟩
   ·have g898 := bool_eq h897
    have g899 : evF PP T n 0 23 [(.sl false (List.map c_GPoint a253.Via)), (.fn 22 [(.ptr 2 1 0 0)])] (hp9 a253) = some (bt, (hp9 a253)) := by
     rw [q849]; exact evF_z (F := F23) ⟨[(7, (iv v895), none), tt 8], []⟩ [] [] rfl (W2 g898 g896 Z0) (by kernel_rfl)
    cases h
    exact pv_z (F := F6) ⟨[ff 11, ff 25, tt 32, ff 36, ff 40, tt 45, ff 50, ff 55, (61, bf, (some (hp9 a253))), tt 67], []⟩ [] [none, none] rfl (W8 g899 g846 g838 g835 g832 g824 g821 g818 <| W2 g816 g563 Z0) (by kernel_rfl)
   have g900 := bool_eq h897
   have g901 : evF PP T n 0 23 [(.sl false (List.map c_GPoint a253.Via)), (.fn 22 [(.ptr 2 1 0 0)])] (hp9 a253) = some (bf, (hp9 a253)) := by
    rw [q849]; exact evF_z (F := F23) ⟨[(7, (iv v895), none), ff 8], []⟩ [] [] rfl (W2 g900 g896 Z0) (by kernel_rfl)
   obtain ⟨n902, e903, h⟩ := bnd_some h
   have q904 := prd_eq e903
   obtain ⟨n905, e906, h⟩ := bnd_some h
   have q907 := prd_eq e906
   have g908 := len_sl (P := PP) (cf := evF PP T n905) (fl := 0) (H := (hp9 a253)) (f := false) (c := c_i64) (l := a253.Parts)
   have g965 : cleanQ false 0 4 [(.blk 10 [(c_GEdit a253)]), (.blk 1 [[(.fn 21 [])]]), (.blk 4 [[(iv (-1048576)), (iv (-1048576)), (iv 1048576), (iv 1048576)]]), (.blk 2 [[(iv a253.At.X), (iv a253.At.Y)]])] := trivial
   rcases bnd2_some h with ⟨v968, e966, h⟩ | ⟨v975, e966, h⟩
   rotate_left
   ·have g967 := f6_I44_L0_ok n905 a253 n905 0 _ e966
    have g976 : evF PP T n902 0 44 [(.sl false (List.map c_i64 a253.Parts)), (.fn 24 [(.ptr 1 1 0 0)])] (hp9 a253) = some ((iv (-1)), (hp9 a253)) := by
     rw [q907]; exact evF_z (F := F44) ⟨[(7, (iv ((a253.Parts.length : Nat) : Int)), none)], []⟩ [((.exit 0), f6_I44_L0_E1 a253)] [] rfl (W2 g967 g965 <| Z g908 Z0) (by kernel_rfl)
    have g977 : evF PP T n 0 25 [(.sl false (List.map c_i64 a253.Parts)), (.fn 24 [(.ptr 1 1 0 0)])] (hp9 a253) = some (bf, (hp9 a253)) := by
     rw [q904]; exact evF_z (F := F25) ⟨[(7, (iv (-1)), none)], []⟩ [] [] rfl (Z g976 Z0) (by kernel_rfl)
    cases h
    exact pv_z (F := F6) ⟨[ff 11, ff 25, tt 32, ff 36, ff 40, tt 45, ff 50, ff 55, (61, bf, (some (hp9 a253))), ff 67, ff 72], []⟩ [] [none, none] rfl (W8 g977 g901 g846 g838 g835 g832 g824 g821 <| W2 g818 g816 <| Z g563 Z0) (by kernel_rfl)
   have g967 := f6_I44_L0_ok n905 a253 n905 0 _ e966
   have g969 : evF PP T n902 0 44 [(.sl false (List.map c_i64 a253.Parts)), (.fn 24 [(.ptr 1 1 0 0)])] (hp9 a253) = some ((iv v968), (hp9 a253)) := by
    rw [q907]; exact evF_z (F := F44) ⟨[(7, (iv ((a253.Parts.length : Nat) : Int)), none)], []⟩ [(.ret, f6_I44_L0_E0 a253 v968)] [] rfl (W2 g967 g965 <| Z g908 Z0) (by kernel_rfl)
   rcases cnd_or h with ⟨h970, h⟩ | ⟨h970, h⟩
   ·have g971 := bool_eq h970
    have g972 : evF PP T n 0 25 [(.sl false (List.map c_i64 a253.Parts)), (.fn 24 [(.ptr 1 1 0 0)])] (hp9 a253) = some (bt, (hp9 a253)) := by
     rw [q904]; exact evF_z (F := F25) ⟨[(7, (iv v968), none), tt 8], []⟩ [] [] rfl (W2 g971 g969 Z0) (by kernel_rfl)
    cases h
    exact pv_z (F := F6) ⟨[ff 11, ff 25, tt 32, ff 36, ff 40, tt 45, ff 50, ff 55, (61, bf, (some (hp9 a253))), ff 67, tt 72], []⟩ [] [none, none] rfl (W8 g972 g901 g846 g838 g835 g832 g824 g821 <| W2 g818 g816 <| Z g563 Z0) (by kernel_rfl)
   have g973 := bool_eq h970
   have g974 : evF PP T n 0 25 [(.sl false (List.map c_i64 a253.Parts)), (.fn 24 [(.ptr 1 1 0 0)])] (hp9 a253) = some (bf, (hp9 a253)) := by
    rw [q904]; exact evF_z (F := F25) ⟨[(7, (iv v968), none), ff 8], []⟩ [] [] rfl (W2 g973 g969 Z0) (by kernel_rfl)
   cases h
   exact pv_z (F := F6) ⟨[ff 11, ff 25, tt 32, ff 36, ff 40, tt 45, ff 50, ff 55, (61, bf, (some (hp9 a253))), ff 67, ff 72], []⟩ [] [none, none] rfl (W8 g974 g901 g846 g838 g835 g832 g824 g821 <| W2 g818 g816 <| Z g563 Z0) (by kernel_rfl)
  have g1063 := bool_eq h817
  rcases cnd_or h with ⟨h1064, h⟩ | ⟨h1064, h⟩
  rotate_left
  ·have g1310 := bool_eq h1064
   obtain ⟨n1311, e1312, h⟩ := bnd_some h
   have q1313 := prd_eq e1312
   rcases cnd_or h with ⟨h1314, h⟩ | ⟨h1314, h⟩
   rotate_left
   ·have g1547 := bool_eq h1314
    have g1548 : evF PP T n 0 21 [(iv a253.ID)] (hp8 a253) = some (bf, (hp8 a253)) := by
     rw [q1313]; exact evF_z (F := F21) ⟨[ff 4], []⟩ [] [] rfl (Z g1547 Z0) (by kernel_rfl)
    cases h
    exact pv_z (F := F6) ⟨[ff 11, ff 25, ff 32, ff 33, ff 45], []⟩ [] [none, none] rfl (W4 g1548 g1310 g1063 g816 <| Z g563 Z0) (by kernel_rfl)
   have g1315 := bool_eq h1314
   rcases cnd_or h with ⟨h1316, h⟩ | ⟨h1316, h⟩
   rotate_left
   ·have g1545 := bool_eq h1316
    have g1546 : evF PP T n 0 21 [(iv a253.ID)] (hp8 a253) = some (bf, (hp8 a253)) := by
     rw [q1313]; exact evF_z (F := F21) ⟨[tt 4, ff 7], []⟩ [] [] rfl (W2 g1545 g1315 Z0) (by kernel_rfl)
    cases h
    exact pv_z (F := F6) ⟨[ff 11, ff 25, ff 32, ff 33, ff 45], []⟩ [] [none, none] rfl (W4 g1546 g1310 g1063 g816 <| Z g563 Z0) (by kernel_rfl)
   have g1317 := bool_eq h1316
   have g1318 : evF PP T n 0 21 [(iv a253.ID)] (hp8 a253) = some (bt, (hp8 a253)) := by
    rw [q1313]; exact evF_z (F := F21) ⟨[tt 4, tt 7], []⟩ [] [] rfl (W2 g1317 g1315 Z0) (by kernel_rfl)
   rcases cnd_or h with ⟨h1319, h⟩ | ⟨h1319, h⟩
   ·have g1320 := bool_eq h1319
    cases h
    exact pv_z (F := F6) ⟨[ff 11, ff 25, ff 32, ff 33, tt 45, tt 50], []⟩ [] [none, none] rfl (W4 g1320 g1318 g1310 g1063 <| W2 g816 g563 Z0) (by kernel_rfl)
   have g1321 := bool_eq h1319
   rcases cnd_or h with ⟨h1322, h⟩ | ⟨h1322, h⟩
   ·have g1323 := bool_eq h1322
    cases h
    exact pv_z (F := F6) ⟨[ff 11, ff 25, ff 32, ff 33, tt 45, ff 50, tt 55], []⟩ [] [none, none] rfl (W4 g1323 g1321 g1318 g1310 <| W2 g1063 g816 <| Z g563 Z0) (by kernel_rfl)
   have g1324 := bool_eq h1322
   obtain ⟨n1325, e1326, h⟩ := bnd_some h
   have q1327 := prd_eq e1326
   obtain ⟨v1328, e1329, h⟩ := bnd_some h
   rcases cnd_or h with ⟨h1330, h⟩ | ⟨h1330, h⟩
   rotate_left
   ·have g1543 := by have q := f42_ok n1325 (GBox.mk (-1048576) (-1048576) 1048576 1048576) a253.At _ e1329; rw [h1330] at q; exact q
    have g1544 : evF PP T n 0 22 [(.agg [(iv a253.At.X), (iv a253.At.Y)]), (.ptr 2 1 0 0)] (hp8 a253) = some (bt, (hp9 a253)) := by
     rw [q1327]; exact evF_z (F := F22) ⟨[ff 6], []⟩ [] [] rfl (Z g1543 Z0) (by kernel_rfl)
    cases h
    exact pv_z (F := F6) ⟨[ff 11, ff 25, ff 32, ff 33, tt 45, ff 50, ff 55, (61, bt, (some (hp9 a253)))], []⟩ [] [none, none] rfl (W8 g1544 g1324 g1321 g1318 g1310 g1063 g816 g563 Z0) (by kernel_rfl)
   have g1331 := by have q := f42_ok n1325 (GBox.mk (-1048576) (-1048576) 1048576 1048576) a253.At _ e1329; rw [h1330] at q; exact q
   have g1332 : evF PP T n 0 22 [(.agg [(iv a253.At.X), (iv a253.At.Y)]), (.ptr 2 1 0 0)] (hp8 a253) = some (bf, (hp9 a253)) := by
    rw [q1327]; exact evF_z (F := F22) ⟨[tt 6], []⟩ [] [] rfl (Z g1331 Z0) (by kernel_rfl)
   obtain ⟨n1333, e1334, h⟩ := bnd_some h
   have q1335 := prd_eq e1334
   obtain ⟨n1336, e1337, h⟩ := bnd_some h
   have q1338 := prd_eq e1337
   have g1339 := len_sl (P := PP) (cf := evF PP T n1336) (fl := 0) (H := (hp9 a253)) (f := false) (c := c_GPoint) (l := a253.Via)
   have g1378 : cleanQ false 0 4 [(.blk 10 [(c_GEdit a253)]), (.blk 1 [[(.fn 21 [])]]), (.blk 4 [[(iv (-1048576)), (iv (-1048576)), (iv 1048576), (iv 1048576)]]), (.blk 2 [[(iv a253.At.X), (iv a253.At.Y)]])] := trivial
   rcases bnd2_some h with ⟨v1381, e1379, h⟩ | ⟨v1464, e1379, h⟩
   rotate_left
   ·have g1380 := f6_I43_L0_ok n1336 a253 n1336 0 _ e1379
    have g1465 : evF PP T n1333 0 43 [(.sl false (List.map c_GPoint a253.Via)), (.fn 22 [(.ptr 2 1 0 0)])] (hp9 a253) = some ((iv (-1)), (hp9 a253)) := by
     rw [q1338]; exact evF_z (F := F43) ⟨[(7, (iv ((a253.Via.length : Nat) : Int)), none)], []⟩ [((.exit 0), f6_I43_L0_E1 a253)] [] rfl (W2 g1380 g1378 <| Z g1339 Z0) (by kernel_rfl)
    have g1466 : evF PP T n 0 23 [(.sl false (List.map c_GPoint a253.Via)), (.fn 22 [(.ptr 2 1 0 0)])] (hp9 a253) = some (bf, (hp9 a253)) := by
     rw [q1335]; exact evF_z (F := F23) ⟨[(7, (iv (-1)), none)], []⟩ [] [] rfl (Z g1465 Z0) (by kernel_rfl)
    obtain ⟨n1467, e1468, h⟩ := bnd_some h
    have q1469 := prd_eq e1468
    obtain ⟨n1470, e1471, h⟩ := bnd_some h
    have q1472 := prd_eq e1471
    have g1473 := len_sl (P := PP) (cf := evF PP T n1470) (fl := 0) (H := (hp9 a253)) (f := false) (c := c_i64) (l := a253.Parts)
    have g1530 : cleanQ false 0 4 [(.blk 10 [(c_GEdit a253)]), (.blk 1 [[(.fn 21 [])]]), (.blk 4 [[(iv (-1048576)), (iv (-1048576)), (iv 1048576), (iv 1048576)]]), (.blk 2 [[(iv a253.At.X), (iv a253.At.Y)]])] := trivial
    rcases bnd2_some h with ⟨v1533, e1531, h⟩ | ⟨v1540, e1531, h⟩
    rotate_left
    ·have g1532 := f6_I44_L0_ok n1470 a253 n1470 0 _ e1531
     have g1541 : evF PP T n1467 0 44 [(.sl false (List.map c_i64 a253.Parts)), (.fn 24 [(.ptr 1 1 0 0)])] (hp9 a253) = some ((iv (-1)), (hp9 a253)) := by
      rw [q1472]; exact evF_z (F := F44) ⟨[(7, (iv ((a253.Parts.length : Nat) : Int)), none)], []⟩ [((.exit 0), f6_I44_L0_E1 a253)] [] rfl (W2 g1532 g1530 <| Z g1473 Z0) (by kernel_rfl)
     have g1542 : evF PP T n 0 25 [(.sl false (List.map c_i64 a253.Parts)), (.fn 24 [(.ptr 1 1 0 0)])] (hp9 a253) = some (bf, (hp9 a253)) := by
      rw [q1469]; exact evF_z (F := F25) ⟨[(7, (iv (-1)), none)], []⟩ [] [] rfl (Z g1541 Z0) (by kernel_rfl)
     cases h
     exact pv_z (F := F6) ⟨[ff 11, ff 25, ff 32, ff 33, tt 45, ff 50, ff 55, (61, bf, (some (hp9 a253))), ff 67, ff 72], []⟩ [] [none, none] rfl (W8 g1542 g1466 g1332 g1324 g1321 g1318 g1310 g1063 <| W2 g816 g563 Z0) (by kernel_rfl)
    have g1532 := f6_I44_L0_ok n1470 a253 n1470 0 _ e1531
    have g1534 : evF PP T n1467 0 44 [(.sl false (List.map c_i64 a253.Parts)), (.fn 24 [(.ptr 1 1 0 0)])] (hp9 a253) = some ((iv v1533), (hp9 a253)) := by
     rw [q1472]; exact evF_z (F := F44) ⟨[(7, (iv ((a253.Parts.length : Nat) : Int)), none)], []⟩ [(.ret, f6_I44_L0_E0 a253 v1533)] [] rfl (W2 g1532 g1530 <| Z g1473 Z0) (by kernel_rfl)
    rcases cnd_or h with ⟨h1535, h⟩ | ⟨h1535, h⟩
    ·have g1536 := bool_eq h1535
     have g1537 : evF PP T n 0 25 [(.sl false (List.map c_i64 a253.Parts)), (.fn 24 [(.ptr 1 1 0 0)])] (hp9 a253) = some (bt, (hp9 a253)) := by
      rw [q1469]; exact evF_z (F := F25) ⟨[(7, (iv v1533), none), tt 8], []⟩ [] [] rfl (W2 g1536 g1534 Z0) (by kernel_rfl)
     cases h
     exact pv_z (F := F6) ⟨[ff 11, ff 25, ff 32, ff 33, tt 45, ff 50, ff 55, (61, bf, (some (hp9 a253))), ff 67, tt 72], []⟩ [] [none, none] rfl (W8 g1537 g1466 g1332 g1324 g1321 g1318 g1310 g1063 <| W2 g816 g563 Z0) (by kernel_rfl)
    have g1538 := bool_eq h1535
    have g1539 : evF PP T n 0 25 [(.sl false (List.map c_i64 a253.Parts)), (.fn 24 [(.ptr 1 1 0 0)])] (hp9 a253) = some (bf, (hp9 a253)) := by
     rw [q1469]; exact evF_z (F := F25) ⟨[(7, (iv v1533), none), ff 8], []⟩ [] [] rfl (W2 g1538 g1534 Z0) (by kernel_rfl)
    cases h
    exact pv_z (F := F6) ⟨[ff 11, ff 25, ff 32, ff 33, tt 45, ff 50, ff 55, (61, bf, (some (hp9 a253))), ff 67, ff 72], []⟩ [] [none, none] rfl (W8 g1539 g1466 g1332 g1324 g1321 g1318 g1310 g1063 <| W2 g816 g563 Z0) (by kernel_rfl)
   have g1380 := f6_I43_L0_ok n1336 a253 n1336 0 _ e1379
   have g1382 : evF PP T n1333 0 43 [(.sl false (List.map c_GPoint a253.Via)), (.fn 22 [(.ptr 2 1 0 0)])] (hp9 a253) = some ((iv v1381), (hp9 a253)) := by
    rw [q1338]; exact evF_z (F := F43) ⟨[(7, (iv ((a253.Via.length : Nat) : Int)), none)], []⟩ [(.ret, f6_I43_L0_E0 a253 v1381)] [] rfl (W2 g1380 g1378 <| Z g1339 Z0) (by kernel_rfl)
   rcases cnd_or h with ⟨h1383, h⟩ | ⟨h1383, h⟩
   ·have g1384 := bool_eq h1383
    have g1385 : evF PP T n 0 23 [(.sl false (List.map c_GPoint a253.Via)), (.fn 22 [(.ptr 2 1 0 0)])] (hp9 a253) = some (bt, (hp9 a253)) := by
     rw [q1335]; exact evF_z (F := F23) ⟨[(7, (iv v1381), none), tt 8], []⟩ [] [] rfl (W2 g1384 g1382 Z0) (by kernel_rfl)
    cases h
    exact pv_z (F := F6) ⟨[ff 11, ff 25, ff 32, ff 33, tt 45, ff 50, ff 55, (61, bf, (some (hp9 a253))), tt 67], []⟩ [] [none, none] rfl (W8 g1385 g1332 g1324 g1321 g1318 g1310 g1063 g816 <| Z g563 Z0) (by kernel_rfl)
   have g1386 := bool_eq h1383
   have g1387 : evF PP T n 0 23 [(.sl false (List.map c_GPoint a253.Via)), (.fn 22 [(.ptr 2 1 0 0)])] (hp9 a253) = some (bf, (hp9 a253)) := by
    rw [q1335]; exact evF_z (F := F23) ⟨[(7, (iv v1381), none), ff 8], []⟩ [] [] rfl (W2 g1386 g1382 Z0) (by kernel_rfl)
   obtain ⟨n1388, e1389, h⟩ := bnd_some h
   have q1390 := prd_eq e1389
   obtain ⟨n1391, e1392, h⟩ := bnd_some h
   have q1393 := prd_eq e1392
   have g1394 := len_sl (P := PP) (cf := evF PP T n1391) (fl := 0) (H := (hp9 a253)) (f := false) (c := c_i64) (l := a253.Parts)
   have g1451 : cleanQ false 0 4 [(.blk 10 [(c_GEdit a253)]), (.blk 1 [[(.fn 21 [])]]), (.blk 4 [[(iv (-1048576)), (iv (-1048576)), (iv 1048576), (iv 1048576)]]), (.blk 2 [[(iv a253.At.X), (iv a253.At.Y)]])] := trivial
   rcases bnd2_some h with ⟨v1454, e1452, h⟩ | ⟨v1461, e1452, h⟩
   rotate_left
   ·have g1453 := f6_I44_L0_ok n1391 a253 n1391 0 _ e1452
    have g1462 : evF PP T n1388 0 44 [(.sl false (List.map c_i64 a253.Parts)), (.fn 24 [(.ptr 1 1 0 0)])] (hp9 a253) = some ((iv (-1)), (hp9 a253)) := by
     rw [q1393]; exact evF_z (F := F44) ⟨[(7, (iv ((a253.Parts.length : Nat) : Int)), none)], []⟩ [((.exit 0), f6_I44_L0_E1 a253)] [] rfl (W2 g1453 g1451 <| Z g1394 Z0) (by kernel_rfl)
    have g1463 : evF PP T n 0 25 [(.sl false (List.map c_i64 a253.Parts)), (.fn 24 [(.ptr 1 1 0 0)])] (hp9 a253) = some (bf, (hp9 a253)) := by
     rw [q1390]; exact evF_z (F := F25) ⟨[(7, (iv (-1)), none)], []⟩ [] [] rfl (Z g1462 Z0) (by kernel_rfl)
    cases h
    exact pv_z (F := F6) ⟨[ff 11, ff 25, ff 32, ff 33, tt 45, ff 50, ff 55, (61, bf, (some (hp9 a253))), ff 67, ff 72], []⟩ [] [none, none] rfl (W8 g1463 g1387 g1332 g1324 g1321 g1318 g1310 g1063 <| W2 g816 g563 Z0) (by kernel_rfl)
   have g1453 := f6_I44_L0_ok n1391 a253 n1391 0 _ e1452
   have g1455 : evF PP T n1388 0 44 [(.sl false (List.map c_i64 a253.Parts)), (.fn 24 [(.ptr 1 1 0 0)])] (hp9 a253) = some ((iv v1454), (hp9 a253)) := by
    rw [q1393]; exact evF_z (F := F44) ⟨[(7, (iv ((a253.Parts.length : Nat) : Int)), none)], []⟩ [(.ret, f6_I44_L0_E0 a253 v1454)] [] rfl (W2 g1453 g1451 <| Z g1394 Z0) (by kernel_rfl)
   rcases cnd_or h with ⟨h1456, h⟩ | ⟨h1456, h⟩
   ·have g1457 := bool_eq h1456
    have g1458 : evF PP T n 0 25 [(.sl false (List.map c_i64 a253.Parts)), (.fn 24 [(.ptr 1 1 0 0)])] (hp9 a253) = some (bt, (hp9 a253)) := by
     rw [q1390]; exact evF_z (F := F25) ⟨[(7, (iv v1454), none), tt 8], []⟩ [] [] rfl (W2 g1457 g1455 Z0) (by kernel_rfl)
    cases h
    exact pv_z (F := F6) ⟨[ff 11, ff 25, ff 32, ff 33, tt 45, ff 50, ff 55, (61, bf, (some (hp9 a253))), ff 67, tt 72], []⟩ [] [none, none] rfl (W8 g1458 g1387 g1332 g1324 g1321 g1318 g1310 g1063 <| W2 g816 g563 Z0) (by kernel_rfl)
   have g1459 := bool_eq h1456
   have g1460 : evF PP T n 0 25 [(.sl false (List.map c_i64 a253.Parts)), (.fn 24 [(.ptr 1 1 0 0)])] (hp9 a253) = some (bf, (hp9 a253)) := by
    rw [q1390]; exact evF_z (F := F25) ⟨[(7, (iv v1454), none), ff 8], []⟩ [] [] rfl (W2 g1459 g1455 Z0) (by kernel_rfl)
   cases h
   exact pv_z (F := F6) ⟨[ff 11, ff 25, ff 32, ff 33, tt 45, ff 50, ff 55, (61, bf, (some (hp9 a253))), ff 67, ff 72], []⟩ [] [none, none] rfl (W8 g1460 g1387 g1332 g1324 g1321 g1318 g1310 g1063 <| W2 g816 g563 Z0) (by kernel_rfl)
  have g1065 := bool_eq h1064
  rcases cnd_or h with ⟨h1066, h⟩ | ⟨h1066, h⟩
  ·have g1067 := bool_eq h1066
   cases h
   exact pv_z (F := F6) ⟨[ff 11, ff 25, ff 32, tt 33, tt 36], []⟩ [] [none, none] rfl (W4 g1067 g1065 g1063 g816 <| Z g563 Z0) (by kernel_rfl)
  have g1068 := bool_eq h1066
  rcases cnd_or h with ⟨h1069, h⟩ | ⟨h1069, h⟩
  ·have g1070 := bool_eq h1069
   cases h
   exact pv_z (F := F6) ⟨[ff 11, ff 25, ff 32, tt 33, ff 36, tt 40], []⟩ [] [none, none] rfl (W4 g1070 g1068 g1065 g1063 <| W2 g816 g563 Z0) (by kernel_rfl)
  have g1071 := bool_eq h1069
  obtain ⟨n1072, e1073, h⟩ := bnd_some h
  have q1074 := prd_eq e1073
  rcases cnd_or h with ⟨h1075, h⟩ | ⟨h1075, h⟩
  rotate_left
  ·have g1308 := bool_eq h1075
   have g1309 : evF PP T n 0 21 [(iv a253.ID)] (hp8 a253) = some (bf, (hp8 a253)) := by
    rw [q1074]; exact evF_z (F := F21) ⟨[ff 4], []⟩ [] [] rfl (Z g1308 Z0) (by kernel_rfl)
   cases h
   exact pv_z (F := F6) ⟨[ff 11, ff 25, ff 32, tt 33, ff 36, ff 40, ff 45], []⟩ [] [none, none] rfl (W4 g1309 g1071 g1068 g1065 <| W2 g1063 g816 <| Z g563 Z0) (by kernel_rfl)
  have g1076 := bool_eq h1075
  rcases cnd_or h with ⟨h1077, h⟩ | ⟨h1077, h⟩
  rotate_left
  ·have g1306 := bool_eq h1077
   have g1307 : evF PP T n 0 21 [(iv a253.ID)] (hp8 a253) = some (bf, (hp8 a253)) := by
    rw [q1074]; exact evF_z (F := F21) ⟨[tt 4, ff 7], []⟩ [] [] rfl (W2 g1306 g1076 Z0) (by kernel_rfl)
   cases h
   exact pv_z (F := F6) ⟨[ff 11, ff 25, ff 32, tt 33, ff 36, ff 40, ff 45], []⟩ [] [none, none] rfl (W4 g1307 g1071 g1068 g1065 <| W2 g1063 g816 <| Z g563 Z0) (by kernel_rfl)
  have g1078 := bool_eq h1077
  have g1079 : evF PP T n 0 21 [(iv a253.ID)] (hp8 a253) = some (bt, (hp8 a253)) := by
   rw [q1074]; exact evF_z (F := F21) ⟨[tt 4, tt 7], []⟩ [] [] rfl (W2 g1078 g1076 Z0) (by kernel_rfl)
  rcases cnd_or h with ⟨h1080, h⟩ | ⟨h1080, h⟩
  ·have g1081 := bool_eq h1080
   cases h
   exact pv_z (F := F6) ⟨[ff 11, ff 25, ff 32, tt 33, ff 36, ff 40, tt 45, tt 50], []⟩ [] [none, none] rfl (W8 g1081 g1079 g1071 g1068 g1065 g1063 g816 g563 Z0) (by kernel_rfl)
  have g1082 := bool_eq h1080
  rcases cnd_or h with ⟨h1083, h⟩ | ⟨h1083, h⟩
  ·have g1084 := bool_eq h1083
   cases h
   exact pv_z (F := F6) ⟨[ff 11, ff 25, ff 32, tt 33, ff 36, ff 40, tt 45, ff 50, tt 55], []⟩ [] [none, none] rfl (W8 g1084 g1082 g1079 g1071 g1068 g1065 g1063 g816 <| Z g563 Z0) (by kernel_rfl)
  have g1085 := bool_eq h1083
  obtain ⟨n1086, e1087, h⟩ := bnd_some h
  have q1088 := prd_eq e1087
  obtain ⟨v1089, e1090, h⟩ := bnd_some h
  rcases cnd_or h with ⟨h1091, h⟩ | ⟨h1091, h⟩
  rotate_left
  ·have g1304 := by have q := f42_ok n1086 (GBox.mk (-1048576) (-1048576) 1048576 1048576) a253.At _ e1090; rw [h1091] at q; exact q
   have g1305 : evF PP T n 0 22 [(.agg [(iv a253.At.X), (iv a253.At.Y)]), (.ptr 2 1 0 0)] (hp8 a253) = some (bt, (hp9 a253)) := by
    rw [q1088]; exact evF_z (F := F22) ⟨[ff 6], []⟩ [] [] rfl (Z g1304 Z0) (by kernel_rfl)
   cases h
   exact pv_z (F := F6) ⟨[ff 11, ff 25, ff 32, tt 33, ff 36, ff 40, tt 45, ff 50, ff 55, (61, bt, (some (hp9 a253)))], []⟩ [] [none, none] rfl (W8 g1305 g1085 g1082 g1079 g1071 g1068 g1065 g1063 <| W2 g816 g563 Z0) (by kernel_rfl)
  have g1092 := by have q := f42_ok n1086 (GBox.mk (-1048576) (-1048576) 1048576 1048576) a253.At _ e1090; rw [h1091] at q; exact q
  have g1093 : evF PP T n 0 22 [(.agg [(iv a253.At.X), (iv a253.At.Y)]), (.ptr 2 1 0 0)] (hp8 a253) = some (bf, (hp9 a253)) := by
   rw [q1088]; exact evF_z (F := F22) ⟨[tt 6], []⟩ [] [] rfl (Z g1092 Z0) (by kernel_rfl)
  obtain ⟨n1094, e1095, h⟩ := bnd_some h
  have q1096 := prd_eq e1095
  obtain ⟨n1097, e1098, h⟩ := bnd_some h
  have q1099 := prd_eq e1098
  have g1100 := len_sl (P := PP) (cf := evF PP T n1097) (fl := 0) (H := (hp9 a253)) (f := false) (c := c_GPoint) (l := a253.Via)
  have g1139 : cleanQ false 0 4 [(.blk 10 [(c_GEdit a253)]), (.blk 1 [[(.fn 21 [])]]), (.blk 4 [[(iv (-1048576)), (iv (-1048576)), (iv 1048576), (iv 1048576)]]), (.blk 2 [[(iv a253.At.X), (iv a253.At.Y)]])] := trivial
  rcases bnd2_some h with ⟨v1142, e1140, h⟩ | ⟨v1225, e1140, h⟩
  rotate_left
  ·have g1141 := f6_I43_L0_ok n1097 a253 n1097 0 _ e1140
   have g1226 : evF PP T n1094 0 43 [(.sl false (List.map c_GPoint a253.Via)), (.fn 22 [(.ptr 2 1 0 0)])] (hp9 a253) = some ((iv (-1)), (hp9 a253)) := by
    rw [q1099]; exact evF_z (F := F43) ⟨[(7, (iv ((a253.Via.length : Nat) : Int)), none)], []⟩ [((.exit 0), f6_I43_L0_E1 a253)] [] rfl (W2 g1141 g1139 <| Z g1100 Z0) (by kernel_rfl)
   have g1227 : evF PP T n 0 23 [(.sl false (List.map c_GPoint a253.Via)), (.fn 22 [(.ptr 2 1 0 0)])] (hp9 a253) = some (bf, (hp9 a253)) := by
    rw [q1096]; exact evF_z (F := F23) ⟨[(7, (iv (-1)), none)], []⟩ [] [] rfl (Z g1226 Z0) (by kernel_rfl)
   obtain ⟨n1228, e1229, h⟩ := bnd_some h
   have q1230 := prd_eq e1229
   obtain ⟨n1231, e1232, h⟩ := bnd_some h
   have q1233 := prd_eq e1232
   have g1234 := len_sl (P := PP) (cf := evF PP T n1231) (fl := 0) (H := (hp9 a253)) (f := false) (c := c_i64) (l := a253.Parts)
   have g1291 : cleanQ false 0 4 [(.blk 10 [(c_GEdit a253)]), (.blk 1 [[(.fn 21 [])]]), (.blk 4 [[(iv (-1048576)), (iv (-1048576)), (iv 1048576), (iv 1048576)]]), (.blk 2 [[(iv a253.At.X), (iv a253.At.Y)]])] := trivial
   rcases bnd2_some h with ⟨v1294, e1292, h⟩ | ⟨v1301, e1292, h⟩
   rotate_left
   ·have g1293 := f6_I44_L0_ok n1231 a253 n1231 0 _ e1292
    have g1302 : evF PP T n1228 0 44 [(.sl false (List.map c_i64 a253.Parts)), (.fn 24 [(.ptr 1 1 0 0)])] (hp9 a253) = some ((iv (-1)), (hp9 a253)) := by
     rw [q1233]; exact evF_z (F := F44) ⟨[(7, (iv ((a253.Parts.length : Nat) : Int)), none)], []⟩ [((.exit 0), f6_I44_L0_E1 a253)] [] rfl (W2 g1293 g1291 <| Z g1234 Z0) (by kernel_rfl)
    have g1303 : evF PP T n 0 25 [(.sl false (List.map c_i64 a253.Parts)), (.fn 24 [(.ptr 1 1 0 0)])] (hp9 a253) = some (bf, (hp9 a253)) := by
     rw [q1230]; exact evF_z (F := F25) ⟨[(7, (iv (-1)), none)], []⟩ [] [] rfl (Z g1302 Z0) (by kernel_rfl)
    cases h
    exact pv_z (F := F6) ⟨[ff 11, ff 25, ff 32, tt 33, ff 36, ff 40, tt 45, ff 50, ff 55, (61, bf, (some (hp9 a253))), ff 67, ff 72], []⟩ [] [none, none] rfl (W8 g1303 g1227 g1093 g1085 g1082 g1079 g1071 g1068 <| W4 g1065 g1063 g816 g563 Z0) (by kernel_rfl)
   have g1293 := f6_I44_L0_ok n1231 a253 n1231 0 _ e1292
   have g1295 : evF PP T n1228 0 44 [(.sl false (List.map c_i64 a253.Parts)), (.fn 24 [(.ptr 1 1 0 0)])] (hp9 a253) = some ((iv v1294), (hp9 a253)) := by
    rw [q1233]; exact evF_z (F := F44) ⟨[(7, (iv ((a253.Parts.length : Nat) : Int)), none)], []⟩ [(.ret, f6_I44_L0_E0 a253 v1294)] [] rfl (W2 g1293 g1291 <| Z g1234 Z0) (by kernel_rfl)
   rcases cnd_or h with ⟨h1296, h⟩ | ⟨h1296, h⟩
   ·have g1297 := bool_eq h1296
    have g1298 : evF PP T n 0 25 [(.sl false (List.map c_i64 a253.Parts)), (.fn 24 [(.ptr 1 1 0 0)])] (hp9 a253) = some (bt, (hp9 a253)) := by
     rw [q1230]; exact evF_z (F := F25) ⟨[(7, (iv v1294), none), tt 8], []⟩ [] [] rfl (W2 g1297 g1295 Z0) (by kernel_rfl)
    cases h
    exact pv_z (F := F6) ⟨[ff 11, ff 25, ff 32, tt 33, ff 36, ff 40, tt 45, ff 50, ff 55, (61, bf, (some (hp9 a253))), ff 67, tt 72], []⟩ [] [none, none] rfl (W8 g1298 g1227 g1093 g1085 g1082 g1079 g1071 g1068 <| W4 g1065 g1063 g816 g563 Z0) (by kernel_rfl)
   have g1299 := bool_eq h1296
   have g1300 : evF PP T n 0 25 [(.sl false (List.map c_i64 a253.Parts)), (.fn 24 [(.ptr 1 1 0 0)])] (hp9 a253) = some (bf, (hp9 a253)) := by
    rw [q1230]; exact evF_z (F := F25) ⟨[(7, (iv v1294), none), ff 8], []⟩ [] [] rfl (W2 g1299 g1295 Z0) (by kernel_rfl)
   cases h
   exact pv_z (F := F6) ⟨[ff 11, ff 25, ff 32, tt 33, ff 36, ff 40, tt 45, ff 50, ff 55, (61, bf, (some (hp9 a253))), ff 67, ff 72], []⟩ [] [none, none] rfl (W8 g1300 g1227 g1093 g1085 g1082 g1079 g1071 g1068 <| W4 g1065 g1063 g816 g563 Z0) (by kernel_rfl)
  have g1141 := f6_I43_L0_ok n1097 a253 n1097 0 _ e1140
  have g1143 : evF PP T n1094 0 43 [(.sl false (List.map c_GPoint a253.Via)), (.fn 22 [(.ptr 2 1 0 0)])] (hp9 a253) = some ((iv v1142), (hp9 a253)) := by
   rw [q1099]; exact evF_z (F := F43) ⟨[(7, (iv ((a253.Via.length : Nat) : Int)), none)], []⟩ [(.ret, f6_I43_L0_E0 a253 v1142)] [] rfl (W2 g1141 g1139 <| Z g1100 Z0) (by kernel_rfl)
  rcases cnd_or h with ⟨h1144, h⟩ | ⟨h1144, h⟩
  ·have g1145 := bool_eq h1144
   have g1146 : evF PP T n 0 23 [(.sl false (List.map c_GPoint a253.Via)), (.fn 22 [(.ptr 2 1 0 0)])] (hp9 a253) = some (bt, (hp9 a253)) := by
    rw [q1096]; exact evF_z (F := F23) ⟨[(7, (iv v1142), none), tt 8], []⟩ [] [] rfl (W2 g1145 g1143 Z0) (by kernel_rfl)
   cases h
   exact pv_z (F := F6) ⟨[ff 11, ff 25, ff 32, tt 33, ff 36, ff 40, tt 45, ff 50, ff 55, (61, bf, (some (hp9 a253))), tt 67], []⟩ [] [none, none] rfl (W8 g1146 g1093 g1085 g1082 g1079 g1071 g1068 g1065 <| W2 g1063 g816 <| Z g563 Z0) (by kernel_rfl)
  have g1147 := bool_eq h1144
  have g1148 : evF PP T n 0 23 [(.sl false (List.map c_GPoint a253.Via)), (.fn 22 [(.ptr 2 1 0 0)])] (hp9 a253) = some (bf, (hp9 a253)) := by
   rw [q1096]; exact evF_z (F := F23) ⟨[(7, (iv v1142), none), ff 8], []⟩ [] [] rfl (W2 g1147 g1143 Z0) (by kernel_rfl)
  obtain ⟨n1149, e1150, h⟩ := bnd_some h
  have q1151 := prd_eq e1150
  obtain ⟨n1152, e1153, h⟩ := bnd_some h
  have q1154 := prd_eq e1153
  have g1155 := len_sl (P := PP) (cf := evF PP T n1152) (fl := 0) (H := (hp9 a253)) (f := false) (c := c_i64) (l := a253.Parts)
  have g1212 : cleanQ false 0 4 [(.blk 10 [(c_GEdit a253)]), (.blk 1 [[(.fn 21 [])]]), (.blk 4 [[(iv (-1048576)), (iv (-1048576)), (iv 1048576), (iv 1048576)]]), (.blk 2 [[(iv a253.At.X), (iv a253.At.Y)]])] := trivial
  rcases bnd2_some h with ⟨v1215, e1213, h⟩ | ⟨v1222, e1213, h⟩
  rotate_left
  ·have g1214 := f6_I44_L0_ok n1152 a253 n1152 0 _ e1213
   have g1223 : evF PP T n1149 0 44 [(.sl false (List.map c_i64 a253.Parts)), (.fn 24 [(.ptr 1 1 0 0)])] (hp9 a253) = some ((iv (-1)), (hp9 a253)) := by
    rw [q1154]; exact evF_z (F := F44) ⟨[(7, (iv ((a253.Parts.length : Nat) : Int)), none)], []⟩ [((.exit 0), f6_I44_L0_E1 a253)] [] rfl (W2 g1214 g1212 <| Z g1155 Z0) (by kernel_rfl)
   have g1224 : evF PP T n 0 25 [(.sl false (List.map c_i64 a253.Parts)), (.fn 24 [(.ptr 1 1 0 0)])] (hp9 a253) = some (bf, (hp9 a253)) := by
    rw [q1151]; exact evF_z (F := F25) ⟨[(7, (iv (-1)), none)], []⟩ [] [] rfl (Z g1223 Z0) (by kernel_rfl)
   cases h
   exact pv_z (F := F6) ⟨[ff 11, ff 25, ff 32, tt 33, ff 36, ff 40, tt 45, ff 50, ff 55, (61, bf, (some (hp9 a253))), ff 67, ff 72], []⟩ [] [none, none] rfl (W8 g1224 g1148 g1093 g1085 g1082 g1079 g1071 g1068 <| W4 g1065 g1063 g816 g563 Z0) (by kernel_rfl)
  have g1214 := f6_I44_L0_ok n1152 a253 n1152 0 _ e1213
  have g1216 : evF PP T n1149 0 44 [(.sl false (List.map c_i64 a253.Parts)), (.fn 24 [(.ptr 1 1 0 0)])] (hp9 a253) = some ((iv v1215), (hp9 a253)) := by
   rw [q1154]; exact evF_z (F := F44) ⟨[(7, (iv ((a253.Parts.length : Nat) : Int)), none)], []⟩ [(.ret, f6_I44_L0_E0 a253 v1215)] [] rfl (W2 g1214 g1212 <| Z g1155 Z0) (by kernel_rfl)
  rcases cnd_or h with ⟨h1217, h⟩ | ⟨h1217, h⟩
  ·have g1218 := bool_eq h1217
   have g1219 : evF PP T n 0 25 [(.sl false (List.map c_i64 a253.Parts)), (.fn 24 [(.ptr 1 1 0 0)])] (hp9 a253) = some (bt, (hp9 a253)) := by
    rw [q1151]; exact evF_z (F := F25) ⟨[(7, (iv v1215), none), tt 8], []⟩ [] [] rfl (W2 g1218 g1216 Z0) (by kernel_rfl)
   cases h
   exact pv_z (F := F6) ⟨[ff 11, ff 25, ff 32, tt 33, ff 36, ff 40, tt 45, ff 50, ff 55, (61, bf, (some (hp9 a253))), ff 67, tt 72], []⟩ [] [none, none] rfl (W8 g1219 g1148 g1093 g1085 g1082 g1079 g1071 g1068 <| W4 g1065 g1063 g816 g563 Z0) (by kernel_rfl)
  have g1220 := bool_eq h1217
  have g1221 : evF PP T n 0 25 [(.sl false (List.map c_i64 a253.Parts)), (.fn 24 [(.ptr 1 1 0 0)])] (hp9 a253) = some (bf, (hp9 a253)) := by
   rw [q1151]; exact evF_z (F := F25) ⟨[(7, (iv v1215), none), ff 8], []⟩ [] [] rfl (W2 g1220 g1216 Z0) (by kernel_rfl)
  cases h
  exact pv_z (F := F6) ⟨[ff 11, ff 25, ff 32, tt 33, ff 36, ff 40, tt 45, ff 50, ff 55, (61, bf, (some (hp9 a253))), ff 67, ff 72], []⟩ [] [none, none] rfl (W8 g1221 g1148 g1093 g1085 g1082 g1079 g1071 g1068 <| W4 g1065 g1063 g816 g563 Z0) (by kernel_rfl)
def f7_L0_S (a1549 : (List Int)) (i1563 : Int) : St := ⟨[(.sl false (List.map c_i64 a1549)), U, U, (iv i1563), U, U, U, U, U, U, U, U, U, U, U, U, U, U, U, U], []⟩
def f7_L0_E0 (a1549 : (List Int)) : St := ⟨[U, U, bf, U, U, U, U, U, U, U, U, U, U, U, U, U, U, U, U, U], []⟩
def f7_L0_E1 (a1549 : (List Int)) : St := ⟨[U, U, U, U, U, U, U, U, U, U, U, U, U, U, U, U, U, U, U, U], []⟩
def f7_L0 (n : Nat) (a1549 : (List Int)) : Nat → Int → Option (Unit ⊕ Unit)
 | 0, _ => none
 | m + 1, i1563 => (cnd (decide (i1563 < ((a1549.length : Nat) : Int))) (bnd (idx a1549 (IntKind.i64.wrap (i1563 - 1))) fun x1580 => (bnd (idx a1549 i1563) fun x1583 => (cnd (decide (x1580 ≥ x1583)) (some (Sum.inl ())) (f7_L0 n a1549 m (IntKind.i64.wrap (i1563 + 1)))))) (some (Sum.inr ())))
theorem f7_L0_ok (n : Nat) (a1549 : (List Int)) : ∀ (m : Nat) (i1563 : Int) (r : (Unit ⊕ Unit)), f7_L0 n a1549 m i1563 = some r → maskR [] [false, false, true] false 0 0 (evLoopH (headSt (some [true, false, false, true]) false 0 0) (evC PP (evF PP T n) n 0 L7_0) m (f7_L0_S a1549 i1563)) = (match r with | .inl r => some (.ret, f7_L0_E0 a1549) | .inr r => some ((.exit 0), f7_L0_E1 a1549))
 | 0, _, _, h => by cases h
 | m + 1, i1563, r, h => by
  rw [f7_L0] at h
  have g1577 := len_sl (P := PP) (cf := evF PP T n) (fl := 0) (H := []) (f := false) (c := c_i64) (l := a1549)
  rcases cnd_or h with ⟨h1578, h⟩ | ⟨h1578, h⟩
  rotate_left
  ·have g1589 := bool_eq h1578
   cases h
   exact last_z (live := some [true, false, false, true]) (tr' := false) (st' := f7_L0_E1 a1549) ⟨[(6, (iv ((a1549.length : Nat) : Int)), none), ff 7], []⟩ [] [] rfl (W2 g1589 g1577 Z0) (by kernel_rfl) trivial
  have g1579 := bool_eq h1578
  obtain ⟨x1580, e1581, h⟩ := bnd_some h
  have g1582 := idxl (H := []) (f := false) (c := c_i64) e1581 (c_i64_len _)
  obtain ⟨x1583, e1584, h⟩ := bnd_some h
  have g1585 := idxl (H := []) (f := false) (c := c_i64) e1584 (c_i64_len _)
  rcases cnd_or h with ⟨h1586, h⟩ | ⟨h1586, h⟩
  ·have g1587 := bool_eq h1586
   cases h
   exact last_z (live := some [true, false, false, true]) (tr' := false) (st' := f7_L0_E0 a1549) ⟨[(6, (iv ((a1549.length : Nat) : Int)), none), tt 7, (13, (.rptr [(iv x1580)]), none), (17, (.rptr [(iv x1583)]), none), tt 19], []⟩ [] [] rfl (W4 g1587 g1585 g1582 g1579 <| Z g1577 Z0) (by kernel_rfl) trivial
  have g1588 := bool_eq h1586
  exact (congrArg (maskR [] [false, false, true] false 0 0) (next_z (live := some [true, false, false, true]) (tr := false) (st' := f7_L0_S a1549 (IntKind.i64.wrap (i1563 + 1))) ⟨[(6, (iv ((a1549.length : Nat) : Int)), none), tt 7, (13, (.rptr [(iv x1580)]), none), (17, (.rptr [(iv x1583)]), none), ff 19], []⟩ [] [] rfl (W4 g1588 g1585 g1582 g1579 <| Z g1577 Z0) (by kernel_rfl) trivial rfl)).trans (f7_L0_ok n a1549 m (IntKind.i64.wrap (i1563 + 1)) r h)
def f7 : Nat → (List Int) → Option Bool
 | 0, _ => none
 | n + 1, a1549 => (bnd2 (f7_L0 n a1549 n 1) (fun v1593 => (some false)) (fun v1594 => (some true)))
theorem f7_ok (n : Nat) (a1549 : (List Int)) (r : Bool) (h : f7 n a1549 = some r) : pv PP T n 7 [(.sl false (List.map c_i64 a1549))] = some (bv r) := by
 cases n with
 | zero => cases h
 | succ n =>
  rw [f7] at h
  have g1590 : cleanQ false 0 0 [] := trivial
  rcases bnd2_some h with ⟨v1593, e1591, h⟩ | ⟨v1594, e1591, h⟩
  ·have g1592 := f7_L0_ok n a1549 n 1 _ e1591
   cases h
   exact pv_z (F := F7) ⟨[], []⟩ [(.ret, f7_L0_E0 a1549)] [] rfl (W2 g1592 g1590 Z0) (by kernel_rfl)
  have g1592 := f7_L0_ok n a1549 n 1 _ e1591
  cases h
  exact pv_z (F := F7) ⟨[], []⟩ [((.exit 0), f7_L0_E1 a1549)] [] rfl (W2 g1592 g1590 Z0) (by kernel_rfl)
def f47_L0_S (a1595 : Int) (i1608 : Int) : St := ⟨[U, U, U, (.lit (.int .i32 (IntKind.i32.wrap a1595))), U, U, U, U, U, U, U, U, U, U, (.agg [(.lit (.int .i32 32)), (.lit (.int .i32 32)), (iv 0), (.lit (.int .i32 39)), (.lit (.int .i32 41)), (iv 0), (.lit (.int .i32 45)), (.lit (.int .i32 46)), (iv 0), (.lit (.int .i32 48)), (.lit (.int .i32 57)), (iv 0), (.lit (.int .i32 65)), (.lit (.int .i32 90)), (iv 1), (.lit (.int .i32 97)), (.lit (.int .i32 122)), (iv 1), (.lit (.int .i32 192)), (.lit (.int .i32 214)), (iv 1), (.lit (.int .i32 216)), (.lit (.int .i32 246)), (iv 1), (.lit (.int .i32 248)), (.lit (.int .i32 591)), (iv 1), (.lit (.int .i32 880)), (.lit (.int .i32 1023)), (iv 2), (.lit (.int .i32 1024)), (.lit (.int .i32 1279)), (iv 3), (.lit (.int .i32 1488)), (.lit (.int .i32 1514)), (iv 4), (.lit (.int .i32 19968)), (.lit (.int .i32 40959)), (iv 5)]), (iv i1608), U, U, U, U, U, U, U, U, U, U, U, U, U, U, U], []⟩
def f47_L0_E0 (a1595 : Int) (i1621 : Int) (i1622 : Int) (i1623 : Int) (i1624 : Int) : St := ⟨[U, U, (iv i1624), U, U, U, U, U, U, U, U, U, U, U, U, U, U, U, U, U, U, U, U, U, U, U, U, U, U, U, U], [(.blk 3 [[(.lit (.int .i32 i1621)), (.lit (.int .i32 i1622)), (iv i1623)]])]⟩
def f47_L0_E1 (a1595 : Int) : St := ⟨[U, U, U, U, U, U, U, U, U, U, U, U, U, U, U, U, U, U, U, U, U, U, U, U, U, U, U, U, U, U, U], []⟩
def f47_L0 (n : Nat) (a1595 : Int) : Nat → Int → Option ((Int × Int × Int × Int) ⊕ Unit)
 | 0, _ => none
 | m + 1, i1608 => (cnd (decide (i1608 < 13)) (bnd (idx tab0 i1608) fun x1627 => (cnd (decide (x1627.first ≤ (IntKind.i32.wrap a1595))) (cnd (decide ((IntKind.i32.wrap a1595) ≤ x1627.last)) (some (Sum.inl (x1627.first, x1627.last, x1627.script, x1627.script))) (f47_L0 n a1595 m (IntKind.i64.wrap (i1608 + 1)))) (f47_L0 n a1595 m (IntKind.i64.wrap (i1608 + 1))))) (some (Sum.inr ())))
theorem f47_L0_ok (n : Nat) (a1595 : Int) : ∀ (m : Nat) (i1608 : Int) (r : ((Int × Int × Int × Int) ⊕ Unit)), f47_L0 n a1595 m i1608 = some r → maskR [] [false, false, true] true 0 0 (evLoopH (headSt (some [false, false, false, true, false, false, false, false, false, false, false, false, false, false, true, true]) true 0 0) (evC PP (evF PP T n) n 0 L47_0) m (f47_L0_S a1595 i1608)) = (match r with | .inl r => some (.ret, f47_L0_E0 a1595 r.1 r.2.1 r.2.2.1 r.2.2.2) | .inr r => some ((.exit 0), f47_L0_E1 a1595))
 | 0, _, _, h => by cases h
 | m + 1, i1608, r, h => by
  rw [f47_L0] at h
  rcases cnd_or h with ⟨h1625, h⟩ | ⟨h1625, h⟩
  rotate_left
  ·have g1636 := bool_eq h1625
   cases h
   exact last_z (live := some [false, false, false, true, false, false, false, false, false, false, false, false, false, false, true, true]) (tr' := true) (st' := f47_L0_E1 a1595) ⟨[ff 16], []⟩ [] [] rfl (Z g1636 Z0) (by kernel_rfl) (by first | rfl | simp [cleanX, cleanQ, cleanObj, clean1, clean2, f47_L0_E1])
  have g1626 := bool_eq h1625
  obtain ⟨x1627, e1628, h⟩ := bnd_some h
  have g1629 := idx_agg (P := PP) (cf := evF PP T n) (fl := 0) (H := []) (c := c_GT196) (n := 13) e1628 c_GT196_len rfl [(.lit (.int .i32 32)), (.lit (.int .i32 32)), (iv 0), (.lit (.int .i32 39)), (.lit (.int .i32 41)), (iv 0), (.lit (.int .i32 45)), (.lit (.int .i32 46)), (iv 0), (.lit (.int .i32 48)), (.lit (.int .i32 57)), (iv 0), (.lit (.int .i32 65)), (.lit (.int .i32 90)), (iv 1), (.lit (.int .i32 97)), (.lit (.int .i32 122)), (iv 1), (.lit (.int .i32 192)), (.lit (.int .i32 214)), (iv 1), (.lit (.int .i32 216)), (.lit (.int .i32 246)), (iv 1), (.lit (.int .i32 248)), (.lit (.int .i32 591)), (iv 1), (.lit (.int .i32 880)), (.lit (.int .i32 1023)), (iv 2), (.lit (.int .i32 1024)), (.lit (.int .i32 1279)), (iv 3), (.lit (.int .i32 1488)), (.lit (.int .i32 1514)), (iv 4), (.lit (.int .i32 19968)), (.lit (.int .i32 40959)), (iv 5)] rfl
  rcases cnd_or h with ⟨h1630, h⟩ | ⟨h1630, h⟩
  rotate_left
  ·have g1635 := bool_eq h1630
   exact (congrArg (maskR [] [false, false, true] true 0 0) (next_z (live := some [false, false, false, true, false, false, false, false, false, false, false, false, false, false, true, true]) (tr := true) (st' := f47_L0_S a1595 (IntKind.i64.wrap (i1608 + 1))) ⟨[tt 16, (17, (.agg [(.lit (.int .i32 x1627.first)), (.lit (.int .i32 x1627.last)), (iv x1627.script)]), none), ff 21], []⟩ [] [none] rfl (W2 g1635 g1629 <| Z g1626 Z0) (by kernel_rfl) (by first | rfl | simp [cleanX, cleanQ, cleanObj, clean1, clean2, f47_L0_S]) rfl)).trans (f47_L0_ok n a1595 m (IntKind.i64.wrap (i1608 + 1)) r h)
  have g1631 := bool_eq h1630
  rcases cnd_or h with ⟨h1632, h⟩ | ⟨h1632, h⟩
  ·have g1633 := bool_eq h1632
   cases h
   exact last_z (live := some [false, false, false, true, false, false, false, false, false, false, false, false, false, false, true, true]) (tr' := true) (st' := f47_L0_E0 a1595 x1627.first x1627.last x1627.script x1627.script) ⟨[tt 16, (17, (.agg [(.lit (.int .i32 x1627.first)), (.lit (.int .i32 x1627.last)), (iv x1627.script)]), none), tt 21, tt 26], []⟩ [] [none] rfl (W4 g1633 g1631 g1629 g1626 Z0) (by kernel_rfl) trivial
  have g1634 := bool_eq h1632
  exact (congrArg (maskR [] [false, false, true] true 0 0) (next_z (live := some [false, false, false, true, false, false, false, false, false, false, false, false, false, false, true, true]) (tr := true) (st' := f47_L0_S a1595 (IntKind.i64.wrap (i1608 + 1))) ⟨[tt 16, (17, (.agg [(.lit (.int .i32 x1627.first)), (.lit (.int .i32 x1627.last)), (iv x1627.script)]), none), tt 21, ff 26], []⟩ [] [none] rfl (W4 g1634 g1631 g1629 g1626 Z0) (by kernel_rfl) (by first | rfl | simp [cleanX, cleanQ, cleanObj, clean1, clean2, f47_L0_S]) rfl)).trans (f47_L0_ok n a1595 m (IntKind.i64.wrap (i1608 + 1)) r h)
def f47 : Nat → Int → Option Int
 | 0, _ => none
 | n + 1, a1595 => (cnd (decide (a1595 < 0)) (some (-1)) (cnd (decide (a1595 > 1114111)) (some (-1)) (bnd2 (f47_L0 n a1595 n 0) (fun v1640 => (some v1640.2.2.2)) (fun v1641 => (some (-1))))))
theorem f47_ok (n : Nat) (a1595 : Int) (r : Int) (h : f47 n a1595 = some r) : pv PP T n 47 [(iv a1595)] = some (iv r) := by
 cases n with
 | zero => cases h
 | succ n =>
  rw [f47] at h
  rcases cnd_or h with ⟨h1596, h⟩ | ⟨h1596, h⟩
  ·have g1597 := bool_eq h1596
   cases h
   exact pz F47 ⟨[tt 7], []⟩ (Z g1597 Z0)
  have g1598 := bool_eq h1596
  rcases cnd_or h with ⟨h1599, h⟩ | ⟨h1599, h⟩
  ·have g1600 := bool_eq h1599
   cases h
   exact pz F47 ⟨[ff 7, tt 10], []⟩ (W2 g1600 g1598 Z0)
  have g1601 := bool_eq h1599
  have g1637 : cleanQ true 0 0 [] := (by first | rfl | simp [cleanX, cleanQ, cleanObj, clean1, clean2])
  rcases bnd2_some h with ⟨v1640, e1638, h⟩ | ⟨v1641, e1638, h⟩
  rotate_left
  ·have g1639 := f47_L0_ok n a1595 n 0 _ e1638
   cases h
   exact pv_z (F := F47) ⟨[ff 7, ff 10], []⟩ [((.exit 0), f47_L0_E1 a1595)] [] rfl (W4 g1639 g1637 g1601 g1598 Z0) (by kernel_rfl)
  have g1639 := f47_L0_ok n a1595 n 0 _ e1638
  cases h
  exact pv_z (F := F47) ⟨[ff 7, ff 10], []⟩ [(.ret, f47_L0_E0 a1595 v1640.1 v1640.2.1 v1640.2.2.1 v1640.2.2.2)] [] rfl (W4 g1639 g1637 g1601 g1598 Z0) (by kernel_rfl)
def f45_L0_S (a1642 : ByteArray) (l1655 : (List Int)) (k1656 : Nat) : St := ⟨[U, U, (.ms 0 l1655.length 0 l1655.length), U, U, U, U, (.it 1), U, U, U, U, U, U, U, U, U, U, U, U, U], [(.blk 1 (List.map c_i64 l1655)), (.raw (.stringIter a1642 k1656))]⟩
def f45_L0_E0 (a1642 : ByteArray) (l1669 : (List Int)) (k1670 : Nat) : St := ⟨[U, U, (.ms 2 0 0 0), (iv 4), U, U, U, U, U, U, U, U, U, U, U, U, U, U, U, U, U], [(.blk 1 (List.map c_i64 l1669)), (.raw (.stringIter a1642 k1670)), (.blk 1 (List.map c_i64 []))]⟩
def f45_L0_E1 (a1642 : ByteArray) (l1671 : (List Int)) (k1672 : Nat) : St := ⟨[U, U, (.ms 0 l1671.length 0 l1671.length), U, U, U, U, U, U, U, U, U, U, U, U, U, U, U, U, U, U], [(.blk 1 (List.map c_i64 l1671)), (.raw (.stringIter a1642 k1672))]⟩
abbrev hp11 (l1655 : (List Int)) (a1642 : ByteArray) (k1656 : Nat) : Heap := [(.blk 1 (List.map c_i64 l1655)), (.raw (.stringIter a1642 k1656))]
abbrev hp12 (l1655 : (List Int)) (a1642 : ByteArray) (k1656 : Nat) : Heap := [(.blk 1 (List.map c_i64 l1655)), (.raw (.stringIter a1642 (k1656 + (Utf8.decode a1642 k1656).2)))]
def f45_L0 (n : Nat) (a1642 : ByteArray) : Nat → (List Int) → Nat → Option (((List Int) × Nat) ⊕ ((List Int) × Nat))
 | 0, _, _ => none
 | m + 1, l1655, k1656 => (cnd (decide (k1656 < a1642.size)) (bnd (f47 n (IntKind.i64.wrap (((Utf8.decode a1642 k1656).1 : Nat) : Int))) fun v1675 => (cnd (decide (v1675 < 0)) (some (Sum.inl (l1655, (k1656 + (Utf8.decode a1642 k1656).2)))) (bnd (app l1655 [(IntKind.i64.wrap (((Utf8.decode a1642 k1656).1 : Nat) : Int))]) fun l1681 => (f45_L0 n a1642 m l1681 (k1656 + (Utf8.decode a1642 k1656).2))))) (some (Sum.inr (l1655, k1656))))
theorem f45_L0_ok (n : Nat) (a1642 : ByteArray) : ∀ (m : Nat) (l1655 : (List Int)) (k1656 : Nat) (r : (((List Int) × Nat) ⊕ ((List Int) × Nat))), f45_L0 n a1642 m l1655 k1656 = some r → maskR [false, false, true] [false, false, true, true] true 0 2 (evLoopH (headSt (some [false, false, true, false, false, false, false, true]) true 0 2) (evC PP (evF PP T n) n 0 L45_0) m (f45_L0_S a1642 l1655 k1656)) = (match r with | .inl r => some (.ret, f45_L0_E0 a1642 r.1 r.2) | .inr r => some ((.exit 0), f45_L0_E1 a1642 r.1 r.2))
 | 0, _, _, _, h => by cases h
 | m + 1, l1655, k1656, r, h => by
  rw [f45_L0] at h
  rcases cnd_or h with ⟨h1673, h⟩ | ⟨h1673, h⟩
  rotate_left
  ·have g1684 := next_f (P := PP) (cf := evF PP T n) (fl := 0) (H := (hp11 l1655 a1642 k1656)) (id := 1) rfl (by omega) h1673
   cases h
   exact last_z (live := some [false, false, true, false, false, false, false, true]) (tr' := true) (st' := f45_L0_E1 a1642 l1655 k1656) ⟨[(8, (.tup [bf]), none)], []⟩ [] [] rfl (Z g1684 Z0) (by kernel_rfl) (by simp [cleanX, cleanQ, cleanObj, clean1, clean2, f45_L0_E1, clean_map (c_i64_clean 2), c_i64_clean 2])
  have g1674 := next_t (P := PP) (cf := evF PP T n) (fl := 0) (H := (hp11 l1655 a1642 k1656)) (id := 1) rfl (by omega) h1673
  obtain ⟨v1675, e1676, h⟩ := bnd_some h
  have g1677 := f47_ok n (IntKind.i64.wrap (((Utf8.decode a1642 k1656).1 : Nat) : Int)) _ e1676
  rcases cnd_or h with ⟨h1678, h⟩ | ⟨h1678, h⟩
  ·have g1679 := bool_eq h1678
   cases h
   exact last_z (live := some [false, false, true, false, false, false, false, true]) (tr' := true) (st' := f45_L0_E0 a1642 l1655 (k1656 + (Utf8.decode a1642 k1656).2)) ⟨[(8, (.tup [bt, (iv ((k1656 : Nat) : Int)), (.lit (.int .i32 (((Utf8.decode a1642 k1656).1 : Nat) : Int)))]), (some (hp12 l1655 a1642 k1656))), (13, (iv v1675), none), tt 14], []⟩ [] [] rfl (W2 g1679 g1677 <| Z g1674 Z0) (by kernel_rfl) trivial
  have g1680 := bool_eq h1678
  obtain ⟨l1681, e1682, h⟩ := bnd_some h
  have g1683 := app_ms (fl := 0) (H := (hp12 l1655 a1642 k1656)) (id := 0) (s := 1) (bytes := 8) (c := c_i64) (l := l1655) e1682 rfl c_i64_len (by omega) (by omega) (by omega)
  exact (congrArg (maskR [false, false, true] [false, false, true, true] true 0 2) (next_z (live := some [false, false, true, false, false, false, false, true]) (tr := true) (st' := f45_L0_S a1642 l1681 (k1656 + (Utf8.decode a1642 k1656).2)) ⟨[(8, (.tup [bt, (iv ((k1656 : Nat) : Int)), (.lit (.int .i32 (((Utf8.decode a1642 k1656).1 : Nat) : Int)))]), (some (hp12 l1655 a1642 k1656))), (13, (iv v1675), none), ff 14, (19, (.ms 0 l1681.length 0 l1681.length), (some (hp12 l1681 a1642 k1656)))], []⟩ [] [] rfl (W4 g1683 g1680 g1677 g1674 Z0) (by kernel_rfl) (by simp [cleanX, cleanQ, cleanObj, clean1, clean2, f45_L0_S, clean_map (c_i64_clean 2), c_i64_clean 2]) rfl)).trans (f45_L0_ok n a1642 m l1681 (k1656 + (Utf8.decode a1642 k1656).2) r h)
abbrev hp13 (v1689 : ((List Int) × Nat)) (a1642 : ByteArray) : Heap := [(.blk 1 (List.map c_i64 v1689.1)), (.raw (.stringIter a1642 v1689.2))]
def f45 : Nat → ByteArray → Option ((List Int) × Int)
 | 0, _ => none
 | n + 1, a1642 => (bnd2 (f45_L0 n a1642 n [] 0) (fun v1688 => (some ([], 4))) (fun v1689 => (some (v1689.1, 0))))
theorem f45_ok (n : Nat) (a1642 : ByteArray) (r : ((List Int) × Int)) (h : f45 n a1642 = some r) : pv PP T n 45 [(sv a1642)] = some (.tup [(.sl false (List.map c_i64 r.1)), (iv r.2)]) := by
 cases n with
 | zero => cases h
 | succ n =>
  rw [f45] at h
  have g1685 : cleanQ true 0 2 [(.blk 1 (List.map c_i64 [])), (.raw (.stringIter a1642 0))] := (by simp [cleanX, cleanQ, cleanObj, clean1, clean2, clean_map (c_i64_clean 2), c_i64_clean 2])
  rcases bnd2_some h with ⟨v1688, e1686, h⟩ | ⟨v1689, e1686, h⟩
  ·have g1687 := f45_L0_ok n a1642 n [] 0 _ e1686
   cases h
   exact pv_z (F := F45) ⟨[], []⟩ [(.ret, f45_L0_E0 a1642 v1688.1 v1688.2)] [] rfl (W2 g1687 g1685 Z0) (by kernel_rfl)
  have g1687 := f45_L0_ok n a1642 n [] 0 _ e1686
  cases h
  refine pv_evF (evF_z (F := F45) ⟨[], []⟩ [((.exit 0), f45_L0_E1 a1642 v1689.1 v1689.2)] [] rfl (r := (.tup [(.ms 0 v1689.1.length 0 v1689.1.length), (iv 0)])) (H' := (hp13 v1689 a1642)) (W2 g1687 g1685 Z0) (by kernel_rfl)) ?_
  show (AV.tup [(seal1 (hp13 v1689 a1642) 0 (.ms 0 v1689.1.length 0 v1689.1.length)), (seal1 (hp13 v1689 a1642) 0 (iv 0))]) = _
  rw [seal1_ms (H := (hp13 v1689 a1642)) (id := 0) (s := 1) (c := c_i64) (l := v1689.1) rfl (c_i64_seal _ _ _)]
  first | done | rfl
def f26_L0_S (v1698 : ((List Int) × Int)) (i1735 : Int) : St := ⟨[U, U, (.sl false (List.map c_i64 v1698.1)), U, U, U, U, U, U, U, U, U, U, U, U, U, U, U, U, U, U, U, U, U, U, U, U, U, U, U, U, U, U, U, (.sl false (List.map c_i64 v1698.1)), (iv ((v1698.1.length : Nat) : Int)), (iv i1735), U, U, U, U, U, U, U, U], []⟩
def f26_L0_E0 (v1698 : ((List Int) × Int)) : St := ⟨[U, U, (.sl false (List.map c_i64 v1698.1)), (iv 0), U, U, U, U, U, U, U, U, U, U, U, U, U, U, U, U, U, U, U, U, U, U, U, U, U, U, U, U, U, U, U, U, U, U, U, U, U, U, U, U, U], []⟩
def f26_L0_E1 (v1698 : ((List Int) × Int)) : St := ⟨[U, U, U, U, U, U, U, U, U, U, U, U, U, U, U, U, U, U, U, U, U, U, U, U, U, U, U, U, U, U, U, U, U, U, U, U, U, U, U, U, U, U, U, U, U], []⟩
def f26_L0 (n : Nat) (v1698 : ((List Int) × Int)) : Nat → Int → Option (Unit ⊕ Unit)
 | 0, _ => none
 | m + 1, i1735 => (cnd (decide (i1735 < ((v1698.1.length : Nat) : Int))) (bnd (idx v1698.1 i1735) fun x1750 => (bnd (f47 n x1750) fun v1753 => (cnd (v1753 != 0) (some (Sum.inl ())) (f26_L0 n v1698 m (IntKind.i64.wrap (i1735 + 1)))))) (some (Sum.inr ())))
theorem f26_L0_ok (n : Nat) (v1698 : ((List Int) × Int)) : ∀ (m : Nat) (i1735 : Int) (r : (Unit ⊕ Unit)), f26_L0 n v1698 m i1735 = some r → maskR [] [false, false, true, true] false 0 0 (evLoopH (headSt (some [false, false, true, false, false, false, false, false, false, false, false, false, false, false, false, false, false, false, false, false, false, false, false, false, false, false, false, false, false, false, false, false, false, false, true, true, true]) false 0 0) (evC PP (evF PP T n) n 0 L26_0) m (f26_L0_S v1698 i1735)) = (match r with | .inl r => some (.ret, f26_L0_E0 v1698) | .inr r => some ((.exit 0), f26_L0_E1 v1698))
 | 0, _, _, h => by cases h
 | m + 1, i1735, r, h => by
  rw [f26_L0] at h
  rcases cnd_or h with ⟨h1748, h⟩ | ⟨h1748, h⟩
  rotate_left
  ·have g1759 := bool_eq h1748
   cases h
   exact last_z (live := some [false, false, true, false, false, false, false, false, false, false, false, false, false, false, false, false, false, false, false, false, false, false, false, false, false, false, false, false, false, false, false, false, false, false, true, true, true]) (tr' := false) (st' := f26_L0_E1 v1698) ⟨[ff 37], []⟩ [] [] rfl (Z g1759 Z0) (by kernel_rfl) trivial
  have g1749 := bool_eq h1748
  obtain ⟨x1750, e1751, h⟩ := bnd_some h
  have g1752 := idxl (H := []) (f := false) (c := c_i64) e1751 (c_i64_len _)
  obtain ⟨v1753, e1754, h⟩ := bnd_some h
  have g1755 := f47_ok n x1750 _ e1754
  rcases cnd_or h with ⟨h1756, h⟩ | ⟨h1756, h⟩
  ·have g1757 := bool_eq h1756
   cases h
   exact last_z (live := some [false, false, true, false, false, false, false, false, false, false, false, false, false, false, false, false, false, false, false, false, false, false, false, false, false, false, false, false, false, false, false, false, false, false, true, true, true]) (tr' := false) (st' := f26_L0_E0 v1698) ⟨[tt 37, (38, (.rptr [(iv x1750)]), none), (41, (iv v1753), none), tt 42], []⟩ [] [] rfl (W4 g1757 g1755 g1752 g1749 Z0) (by kernel_rfl) trivial
  have g1758 := bool_eq h1756
  exact (congrArg (maskR [] [false, false, true, true] false 0 0) (next_z (live := some [false, false, true, false, false, false, false, false, false, false, false, false, false, false, false, false, false, false, false, false, false, false, false, false, false, false, false, false, false, false, false, false, false, false, true, true, true]) (tr := false) (st' := f26_L0_S v1698 (IntKind.i64.wrap (i1735 + 1))) ⟨[tt 37, (38, (.rptr [(iv x1750)]), none), (41, (iv v1753), none), ff 42], []⟩ [] [] rfl (W4 g1758 g1755 g1752 g1749 Z0) (by kernel_rfl) trivial rfl)).trans (f26_L0_ok n v1698 m (IntKind.i64.wrap (i1735 + 1)) r h)
def f26 : Nat → ByteArray → Option ((List Int) × Int)
 | 0, _ => none
 | n + 1, a1690 => (cnd (decide (a1690 = (⟨#[]⟩ : ByteArray))) (some ([], 14)) (cnd (decide (((a1690.size : Nat) : Int) > 40)) (some ([], 3)) (bnd (f45 n a1690) fun v1698 => (cnd (v1698.2 != 0) (some ([], v1698.2)) (bnd (sat a1690 0) fun i1704 => (cnd (i1704 == 32) (some ([], 14)) (bnd (sat a1690 (IntKind.i64.wrap (((a1690.size : Nat) : Int) - 1))) fun i1711 => (cnd (i1711 == 32) (some ([], 14)) (bnd (f46 n a1690 ⟨#[32, 32]⟩) fun v1717 => (cnd (v1717) (some ([], 14)) (bnd2 (f26_L0 n v1698 n 0) (fun v1763 => (some (v1698.1, 0))) (fun v1764 => (some ([], 14))))))))))))))
theorem f26_ok (n : Nat) (a1690 : ByteArray) (r : ((List Int) × Int)) (h : f26 n a1690 = some r) : pv PP T n 26 [(sv a1690)] = some (.tup [(.sl false (List.map c_i64 r.1)), (iv r.2)]) := by
 cases n with
 | zero => cases h
 | succ n =>
  rw [f26] at h
  rcases cnd_or h with ⟨h1691, h⟩ | ⟨h1691, h⟩
  ·have g1692 := c_str_eql (P := PP) (cf := evF PP T n) (fl := 0) (H := []) (t := 9) h1691
   cases h
   exact pz F26 ⟨[tt 7], []⟩ (Z g1692 Z0)
  have g1693 := c_str_eql (P := PP) (cf := evF PP T n) (fl := 0) (H := []) (t := 9) h1691
  have g1694 := lenStr_9 (cf := evF PP T n) (fl := 0) (H := []) a1690
  rcases cnd_or h with ⟨h1695, h⟩ | ⟨h1695, h⟩
  ·have g1696 := bool_eq h1695
   cases h
   exact pz F26 ⟨[ff 7, (9, (iv ((a1690.size : Nat) : Int)), none), tt 10], []⟩ (W2 g1696 g1694 <| Z g1693 Z0)
  have g1697 := bool_eq h1695
  obtain ⟨v1698, e1699, h⟩ := bnd_some h
  have g1700 := f45_ok n a1690 _ e1699
  rcases cnd_or h with ⟨h1701, h⟩ | ⟨h1701, h⟩
  ·have g1702 := bool_eq h1701
   cases h
   exact pz F26 ⟨[ff 7, (9, (iv ((a1690.size : Nat) : Int)), none), ff 10, (13, (.tup [(.sl false (List.map c_i64 v1698.1)), (iv v1698.2)]), none), tt 17], []⟩ (W4 g1702 g1700 g1697 g1694 <| Z g1693 Z0)
  have g1703 := bool_eq h1701
  obtain ⟨i1704, e1705, h⟩ := bnd_some h
  have g1706 := strIdx_ok (P := PP) (cf := evF PP T n) (fl := 0) (H := []) (t := 9) (by kernel_rfl) e1705
  rcases cnd_or h with ⟨h1707, h⟩ | ⟨h1707, h⟩
  ·have g1708 := bool_eq h1707
   cases h
   exact pz F26 ⟨[ff 7, (9, (iv ((a1690.size : Nat) : Int)), none), ff 10, (13, (.tup [(.sl false (List.map c_i64 v1698.1)), (iv v1698.2)]), none), ff 17, (20, (.lit (.int .u8 i1704)), none), tt 21], []⟩ (W4 g1708 g1706 g1703 g1700 <| W2 g1697 g1694 <| Z g1693 Z0)
  have g1709 := bool_eq h1707
  have g1710 := lenStr_9 (cf := evF PP T n) (fl := 0) (H := []) a1690
  obtain ⟨i1711, e1712, h⟩ := bnd_some h
  have g1713 := strIdx_ok (P := PP) (cf := evF PP T n) (fl := 0) (H := []) (t := 9) (by kernel_rfl) e1712
  rcases cnd_or h with ⟨h1714, h⟩ | ⟨h1714, h⟩
  ·have g1715 := bool_eq h1714
   cases h
   exact pz F26 ⟨[ff 7, (9, (iv ((a1690.size : Nat) : Int)), none), ff 10, (13, (.tup [(.sl false (List.map c_i64 v1698.1)), (iv v1698.2)]), none), ff 17, (20, (.lit (.int .u8 i1704)), none), ff 21, (25, (iv ((a1690.size : Nat) : Int)), none), (27, (.lit (.int .u8 i1711)), none), tt 28], []⟩ (W8 g1715 g1713 g1710 g1709 g1706 g1703 g1700 g1697 <| W2 g1694 g1693 Z0)
  have g1716 := bool_eq h1714
  obtain ⟨v1717, e1718, h⟩ := bnd_some h
  rcases cnd_or h with ⟨h1719, h⟩ | ⟨h1719, h⟩
  ·have g1720 := by have q := f46_ok n a1690 ⟨#[32, 32]⟩ _ e1718; rw [h1719] at q; exact q
   cases h
   exact pz F26 ⟨[ff 7, (9, (iv ((a1690.size : Nat) : Int)), none), ff 10, (13, (.tup [(.sl false (List.map c_i64 v1698.1)), (iv v1698.2)]), none), ff 17, (20, (.lit (.int .u8 i1704)), none), ff 21, (25, (iv ((a1690.size : Nat) : Int)), none), (27, (.lit (.int .u8 i1711)), none), ff 28, tt 32], []⟩ (W8 g1720 g1716 g1713 g1710 g1709 g1706 g1703 g1700 <| W2 g1697 g1694 <| Z g1693 Z0)
  have g1721 := by have q := f46_ok n a1690 ⟨#[32, 32]⟩ _ e1718; rw [h1719] at q; exact q
  have g1722 := len_sl (P := PP) (cf := evF PP T n) (fl := 0) (H := []) (f := false) (c := c_i64) (l := v1698.1)
  have g1760 : cleanQ false 0 0 [] := trivial
  rcases bnd2_some h with ⟨v1763, e1761, h⟩ | ⟨v1764, e1761, h⟩
  ·have g1762 := f26_L0_ok n v1698 n 0 _ e1761
   cases h
   exact pv_z (F := F26) ⟨[ff 7, (9, (iv ((a1690.size : Nat) : Int)), none), ff 10, (13, (.tup [(.sl false (List.map c_i64 v1698.1)), (iv v1698.2)]), none), ff 17, (20, (.lit (.int .u8 i1704)), none), ff 21, (25, (iv ((a1690.size : Nat) : Int)), none), (27, (.lit (.int .u8 i1711)), none), ff 28, ff 32, (35, (iv ((v1698.1.length : Nat) : Int)), none)], []⟩ [(.ret, f26_L0_E0 v1698)] [] rfl (W8 g1762 g1760 g1722 g1721 g1716 g1713 g1710 g1709 <| W4 g1706 g1703 g1700 g1697 <| W2 g1694 g1693 Z0) (by kernel_rfl)
  have g1762 := f26_L0_ok n v1698 n 0 _ e1761
  cases h
  exact pv_z (F := F26) ⟨[ff 7, (9, (iv ((a1690.size : Nat) : Int)), none), ff 10, (13, (.tup [(.sl false (List.map c_i64 v1698.1)), (iv v1698.2)]), none), ff 17, (20, (.lit (.int .u8 i1704)), none), ff 21, (25, (iv ((a1690.size : Nat) : Int)), none), (27, (.lit (.int .u8 i1711)), none), ff 28, ff 32, (35, (iv ((v1698.1.length : Nat) : Int)), none)], []⟩ [((.exit 0), f26_L0_E1 v1698)] [] rfl (W8 g1762 g1760 g1722 g1721 g1716 g1713 g1710 g1709 <| W4 g1706 g1703 g1700 g1697 <| W2 g1694 g1693 Z0) (by kernel_rfl)
def f8 : Nat → ByteArray → Option Int
 | 0, _ => none
 | n + 1, a1765 => (bnd (f26 n a1765) fun v1766 => (some v1766.2))
theorem f8_ok (n : Nat) (a1765 : ByteArray) (r : Int) (h : f8 n a1765 = some r) : pv PP T n 8 [(sv a1765)] = some (iv r) := by
 cases n with
 | zero => cases h
 | succ n =>
  rw [f8] at h
  obtain ⟨v1766, e1767, h⟩ := bnd_some h
  have g1768 := f26_ok n a1765 _ e1767
  cases h
  exact pz F8 ⟨[(5, (.tup [(.sl false (List.map c_i64 v1766.1)), (iv v1766.2)]), none)], []⟩ (Z g1768 Z0)
def f1 : Nat → GEdit → Option Int
 | 0, _ => none
 | n + 1, a1769 => (cnd (decide (a1769.Kind < 1)) (some 9) (cnd (decide (a1769.Kind > 12)) (some 9) (cnd (a1769.Kind == 7) (bnd (f4 n a1769.A) fun v1778 => (cnd (v1778 == 0) (some 9) (bnd (f5 n a1769) fun v1784 => (cnd (v1784) (some 1) (cnd (decide (((a1769.Via.length : Nat) : Int) > 64)) (some 3) (cnd (decide (((a1769.Parts.length : Nat) : Int) > 64)) (some 3) (bnd (f6 n a1769) fun v1797 => (cnd (v1797) (bnd (f7 n a1769.Parts) fun v1801 => (cnd (v1801) (cnd (decide (a1769.Name = (⟨#[]⟩ : ByteArray))) (some 0) (bnd (f8 n a1769.Name) fun v1808 => (cnd (v1808 != 0) (some 14) (some 0)))) (some 10))) (some 2))))))))) (bnd (f5 n a1769) fun v1817 => (cnd (v1817) (some 1) (cnd (decide (((a1769.Via.length : Nat) : Int) > 64)) (some 3) (cnd (decide (((a1769.Parts.length : Nat) : Int) > 64)) (some 3) (bnd (f6 n a1769) fun v1830 => (cnd (v1830) (bnd (f7 n a1769.Parts) fun v1834 => (cnd (v1834) (cnd (decide (a1769.Name = (⟨#[]⟩ : ByteArray))) (some 0) (bnd (f8 n a1769.Name) fun v1841 => (cnd (v1841 != 0) (some 14) (some 0)))) (some 10))) (some 2))))))))))
end Go.Proofs.YtmflphfmefakfaaGreatDoor.Av
