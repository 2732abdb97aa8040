/- A part of the proof of TxnChecksCardSaid: an evaluator of the program, proved sound, and what it says. -/
import Derived.Test.YtmflphfmefakfaaGreatDoorVtTab
import Derived.Test.YtmflphfmefakfaaGreatDoorAvMono
import Derived.Test.YtmflphfmefakfaaGreatDoorAvClone
set_option linter.all false
namespace Go.Proofs.YtmflphfmefakfaaGreatDoor.Av
open Go
theorem si {α : Type} {a b : α} (h : some a = some b) : a = b := Option.some.inj h
def W2 {p q : Prop} (a : p) (b : q) (z : PZ) : PZ := Z a (Z b z)
def W4 {p q r s : Prop} (a : p) (b : q) (c : r) (d : s) (z : PZ) : PZ := W2 a b (W2 c d z)
def W8 {p q r s p' q' r' s' : Prop} (a : p) (b : q) (c : r) (d : s) (a' : p') (b' : q') (c' : r') (d' : s') (z : PZ) : PZ := W4 a b c d (W4 a' b' c' d' z)
abbrev ff (k : Nat) : Nat × AV × Option Heap := (k, bf, none)
abbrev tt (k : Nat) : Nat × AV × Option Heap := (k, bt, none)
theorem pz [GlobT] {P : Program} {T : List AFun} {n vi : Nat} {args : List AV} {r : AV} (F : AFun) (o : Orc) (z : PZ) (h : oF P T n o [] [] F args = some (r, z.ps) := by kernel_rfl) (hF : getF T vi = some F := by exact rfl) : pv P T (n + 1) vi args = some r := pv_z o [] [] hF z h
set_option linter.unusedVariables false
set_option linter.unusedSimpArgs false
def c_i64 (x : Int) : List AV := [(iv x)]
theorem c_i64_len : ∀ x, (c_i64 x).length = 1 := fun _ => rfl
theorem c_i64_toP : ∀ x, (c_i64 x).map toP = c_i64 x := fun _ => rfl
theorem c_i64_seal (H : Heap) (n d : Nat) : ∀ x, (c_i64 x).map (sealC H n d) = c_i64 x := fun _ => by cases d <;> rfl
theorem c_i64_clean (n : Nat) : ∀ x, (c_i64 x).map (clean1 n) = c_i64 x := fun _ => rfl
structure GBox where
 X0 : Int
 Y0 : Int
 X1 : Int
 Y1 : Int
 deriving DecidableEq
def c_GBox (x : GBox) : List AV := [(iv x.X0), (iv x.Y0), (iv x.X1), (iv x.Y1)]
theorem c_GBox_len : ∀ x, (c_GBox x).length = 4 := fun _ => rfl
theorem c_GBox_toP : ∀ x, (c_GBox x).map toP = c_GBox x := fun _ => rfl
theorem c_GBox_seal (H : Heap) (n d : Nat) : ∀ x, (c_GBox x).map (sealC H n d) = c_GBox x := fun _ => by cases d <;> rfl
theorem c_GBox_clean (n : Nat) : ∀ x, (c_GBox x).map (clean1 n) = c_GBox x := fun _ => rfl
structure GPoint where
 X : Int
 Y : Int
 deriving DecidableEq
def c_GPoint (x : GPoint) : List AV := [(iv x.X), (iv x.Y)]
theorem c_GPoint_len : ∀ x, (c_GPoint x).length = 2 := fun _ => rfl
theorem c_GPoint_toP : ∀ x, (c_GPoint x).map toP = c_GPoint x := fun _ => rfl
theorem c_GPoint_seal (H : Heap) (n d : Nat) : ∀ x, (c_GPoint x).map (sealC H n d) = c_GPoint x := fun _ => by cases d <;> rfl
theorem c_GPoint_clean (n : Nat) : ∀ x, (c_GPoint x).map (clean1 n) = c_GPoint x := fun _ => rfl
def c_i32 (x : Int) : List AV := [(.lit (.int .i32 x))]
theorem c_i32_len : ∀ x, (c_i32 x).length = 1 := fun _ => rfl
theorem c_i32_toP : ∀ x, (c_i32 x).map toP = c_i32 x := fun _ => rfl
theorem c_i32_seal (H : Heap) (n d : Nat) : ∀ x, (c_i32 x).map (sealC H n d) = c_i32 x := fun _ => by cases d <;> rfl
theorem c_i32_clean (n : Nat) : ∀ x, (c_i32 x).map (clean1 n) = c_i32 x := fun _ => rfl
structure GT196 where
 first : Int
 last : Int
 script : Int
 deriving DecidableEq
def c_GT196 (x : GT196) : List AV := [(.lit (.int .i32 x.first)), (.lit (.int .i32 x.last)), (iv x.script)]
theorem c_GT196_len : ∀ x, (c_GT196 x).length = 3 := fun _ => rfl
theorem c_GT196_toP : ∀ x, (c_GT196 x).map toP = c_GT196 x := fun _ => rfl
theorem c_GT196_seal (H : Heap) (n d : Nat) : ∀ x, (c_GT196 x).map (sealC H n d) = c_GT196 x := fun _ => by cases d <;> rfl
theorem c_GT196_clean (n : Nat) : ∀ x, (c_GT196 x).map (clean1 n) = c_GT196 x := fun _ => rfl
def tab0 : List GT196 := [(GT196.mk 32 32 0), (GT196.mk 39 41 0), (GT196.mk 45 46 0), (GT196.mk 48 57 0), (GT196.mk 65 90 1), (GT196.mk 97 122 1), (GT196.mk 192 214 1), (GT196.mk 216 246 1), (GT196.mk 248 591 1), (GT196.mk 880 1023 2), (GT196.mk 1024 1279 3), (GT196.mk 1488 1514 4), (GT196.mk 19968 40959 5)]
def c_str (x : ByteArray) : List AV := [(sv x)]
theorem c_str_len : ∀ x, (c_str x).length = 1 := fun _ => rfl
theorem c_str_toP : ∀ x, (c_str x).map toP = c_str x := fun _ => rfl
theorem c_str_seal (H : Heap) (n d : Nat) : ∀ x, (c_str x).map (sealC H n d) = c_str x := fun _ => by cases d <;> rfl
theorem c_str_clean (n : Nat) : ∀ x, (c_str x).map (clean1 n) = c_str x := fun _ => rfl
theorem lenStr_9 {cf : Nat → Nat → List AV → Heap → Option (AV × Heap)} {fl : Nat} {H : Heap} (s : ByteArray) : evOp PP cf fl (.lenStr 9 (.tmp 0)) [.lit (.string s)] H = some (.lit (.int .i64 ((s.size : Nat) : Int)), H) := by kernel_rfl
def c_LGPoint (x : (List GPoint)) : List AV := [(.sl false (List.map c_GPoint x))]
theorem c_LGPoint_len : ∀ x, (c_LGPoint x).length = 1 := fun _ => rfl
theorem c_LGPoint_toP : ∀ x, (c_LGPoint x).map toP = c_LGPoint x := fun _ => rfl
theorem c_LGPoint_seal (H : Heap) (n d : Nat) : ∀ x, (c_LGPoint x).map (sealC H n d) = c_LGPoint x := fun _ => by cases d <;> rfl
theorem c_LGPoint_clean (n : Nat) : ∀ x, (c_LGPoint x).map (clean1 n) = c_LGPoint x := fun _ => rfl
def c_Li64 (x : (List Int)) : List AV := [(.sl false (List.map c_i64 x))]
theorem c_Li64_len : ∀ x, (c_Li64 x).length = 1 := fun _ => rfl
theorem c_Li64_toP : ∀ x, (c_Li64 x).map toP = c_Li64 x := fun _ => rfl
theorem c_Li64_seal (H : Heap) (n d : Nat) : ∀ x, (c_Li64 x).map (sealC H n d) = c_Li64 x := fun _ => by cases d <;> rfl
theorem c_Li64_clean (n : Nat) : ∀ x, (c_Li64 x).map (clean1 n) = c_Li64 x := fun _ => rfl
structure GEdit where
 Kind : Int
 ID : Int
 A : Int
 B : Int
 C : Int
 At : GPoint
 Via : (List GPoint)
 Name : ByteArray
 Parts : (List Int)
 deriving DecidableEq
def c_GEdit (x : GEdit) : List AV := [(iv x.Kind), (iv x.ID), (iv x.A), (iv x.B), (iv x.C), (iv x.At.X), (iv x.At.Y), (.sl false (List.map c_GPoint x.Via)), (sv x.Name), (.sl false (List.map c_i64 x.Parts))]
theorem c_GEdit_len : ∀ x, (c_GEdit x).length = 10 := fun _ => rfl
theorem c_GEdit_toP : ∀ x, (c_GEdit x).map toP = c_GEdit x := fun _ => rfl
theorem c_GEdit_seal (H : Heap) (n d : Nat) : ∀ x, (c_GEdit x).map (sealC H n d) = c_GEdit x := fun _ => by cases d <;> rfl
theorem c_GEdit_clean (n : Nat) : ∀ x, (c_GEdit x).map (clean1 n) = c_GEdit x := fun _ => rfl
theorem eq_i_3 (a b : Int) : pureRun PP (Op.equalIn 9999 3 (.int .i64 a) (.int .i64 b)) = some (a == b) := by kernel_rfl
theorem c_GPoint_eqv (a b c d : Int) : pureRun PP (Op.equal 23 (.agg #[.int .i64 a, .int .i64 b]) (.agg #[.int .i64 c, .int .i64 d])) = some (a == c && b == d) := by
 have h1 : pureRun PP (underlying 23) = some (.struct #[{ name := "X", type := 3, offset := 0, embedded := false, tag := "", pkgPath := "", byteOffset := 0 }, { name := "Y", type := 3, offset := 1, embedded := false, tag := "", pkgPath := "", byteOffset := 8 }]) := by kernel_rfl
 have h3 : ∀ x y : Value, pureRun PP (part 3 #[x, y] 0) = some x := by intro x y; kernel_rfl
 have h4 : ∀ x y : Value, pureRun PP (part 3 #[x, y] 1) = some y := by intro x y; kernel_rfl
 have h5 : pureRun PP program = some PP := rfl
 have h6 : Program.stoodInHeld PP 23 = false := by kernel_rfl
 have n1 : ¬ ("X" = "_") := by decide
 have n2 : ¬ ("Y" = "_") := by decide
 unfold Op.equal Op.maxDepth
 rw [Op.equalIn]
 simp only [pureRun_bind, h1, Option.bind_some, h5, h6, Bool.false_eq_true, if_false, List.forIn_toArray, List.forIn_cons, List.forIn_nil, n1, n2, ne_eq, not_false_eq_true, if_true, h3, h4, eq_i_3, pureRun_pure]
 cases h7 : (a == c)
 ·rfl
 ·simp only [Bool.not_true, Bool.false_eq_true, if_false, pureRun_pure, Option.bind_some, pureRun_bind, h3, h4, eq_i_3, n1, n2, ne_eq, not_false_eq_true, if_true]
  cases h8 : (b == d) <;> rfl
theorem c_GPoint_dec (a b : GPoint) : decide (a = b) = (a.X == b.X && a.Y == b.Y) := by
 cases a; cases b
 simp only [GPoint.mk.injEq, Bool.decide_and]
 rfl
theorem c_GPoint_eql {cf : Nat → Nat → List AV → Heap → Option (AV × Heap)} {fl : Nat} {H : Heap} {a b : GPoint} {r : Bool} (h : decide (a = b) = r) : evOp PP cf fl (.bin .eql 23 (.tmp 0) (.tmp 1)) [.agg (c_GPoint a), .agg (c_GPoint b)] H = some (.lit (.bool (r)), H) := by
 have g : pureRun PP (eqGuard .eql 23 (.tmp 0) (.tmp 0) (.agg #[.int .i64 a.X, .int .i64 a.Y]) (.agg #[.int .i64 b.X, .int .i64 b.Y])) = some () := by kernel_rfl
 have e : pureRun PP (binOp .eql 23 (.agg #[.int .i64 a.X, .int .i64 a.Y]) (.agg #[.int .i64 b.X, .int .i64 b.Y])) = some (.bool (r)) := by
  simp only [binOp, pureRun_bind, c_GPoint_eqv, Option.bind_some, pureRun_pure, ← h, c_GPoint_dec]
 have hl : ∀ a : GPoint, lits (.agg (c_GPoint a)) = some (.agg #[.int .i64 a.X, .int .i64 a.Y]) := fun _ => rfl
 simp only [evOp, getOpd, List.getElem?_cons_zero, List.getElem?_cons_succ, hl, notNil, if_true, g, e]
theorem c_GPoint_neq {cf : Nat → Nat → List AV → Heap → Option (AV × Heap)} {fl : Nat} {H : Heap} {a b : GPoint} {r : Bool} (h : decide (a = b) = r) : evOp PP cf fl (.bin .neq 23 (.tmp 0) (.tmp 1)) [.agg (c_GPoint a), .agg (c_GPoint b)] H = some (.lit (.bool (!r)), H) := by
 have g : pureRun PP (eqGuard .neq 23 (.tmp 0) (.tmp 0) (.agg #[.int .i64 a.X, .int .i64 a.Y]) (.agg #[.int .i64 b.X, .int .i64 b.Y])) = some () := by kernel_rfl
 have e : pureRun PP (binOp .neq 23 (.agg #[.int .i64 a.X, .int .i64 a.Y]) (.agg #[.int .i64 b.X, .int .i64 b.Y])) = some (.bool (!r)) := by
  simp only [binOp, pureRun_bind, c_GPoint_eqv, Option.bind_some, pureRun_pure, ← h, c_GPoint_dec]
 have hl : ∀ a : GPoint, lits (.agg (c_GPoint a)) = some (.agg #[.int .i64 a.X, .int .i64 a.Y]) := fun _ => rfl
 simp only [evOp, getOpd, List.getElem?_cons_zero, List.getElem?_cons_succ, hl, notNil, if_true, g, e]
def c_LGEdit (x : (List GEdit)) : List AV := [(.sl false (List.map c_GEdit x))]
theorem c_LGEdit_len : ∀ x, (c_LGEdit x).length = 1 := fun _ => rfl
theorem c_LGEdit_toP : ∀ x, (c_LGEdit x).map toP = c_LGEdit x := fun _ => rfl
theorem c_LGEdit_seal (H : Heap) (n d : Nat) : ∀ x, (c_LGEdit x).map (sealC H n d) = c_LGEdit x := fun _ => by cases d <;> rfl
theorem c_LGEdit_clean (n : Nat) : ∀ x, (c_LGEdit x).map (clean1 n) = c_LGEdit x := fun _ => rfl
structure GTxn where
 Office : Int
 Seq : Int
 Time : Int
 Source : ByteArray
 Edits : (List GEdit)
 deriving DecidableEq
def c_GTxn (x : GTxn) : List AV := [(iv x.Office), (iv x.Seq), (iv x.Time), (sv x.Source), (.sl false (List.map c_GEdit x.Edits))]
theorem c_GTxn_len : ∀ x, (c_GTxn x).length = 5 := fun _ => rfl
theorem c_GTxn_toP : ∀ x, (c_GTxn x).map toP = c_GTxn x := fun _ => rfl
theorem c_GTxn_seal (H : Heap) (n d : Nat) : ∀ x, (c_GTxn x).map (sealC H n d) = c_GTxn x := fun _ => by cases d <;> rfl
theorem c_GTxn_clean (n : Nat) : ∀ x, (c_GTxn x).map (clean1 n) = c_GTxn x := fun _ => rfl
def f51 (n : Nat) (s t : ByteArray) : Option Bool := match n with
 | 0 => none
 | _ + 1 => match Nat.blt s.size 4294967281 with
  | true => some (Lib.contains s.data.toList t.data.toList)
  | false => none
theorem f51_ok (n : Nat) (s t : ByteArray) (r : Bool) (h : f51 n s t = some r) : pv PP T n 51 [.lit (.string s), .lit (.string t)] = some (.lit (.bool r)) := by
 cases n with
 | zero => cases h
 | succ n =>
  simp only [f51] at h
  have e : pv PP T (n + 1) 51 [.lit (.string s), .lit (.string t)] = (match contA 0 [.lit (.string s), .lit (.string t)] [] with | some (r, H') => some (seal3 H' 0 r) | none => none) := rfl
  rw [e]
  simp only [contA]
  split at h
  ·rename_i hb
   cases h
   rw [hb]; rfl
  ·cases h
def f85 : Nat → GBox → GPoint → Option Bool
 | 0, _, _ => none
 | n + 1, a1, a2 => (cnd (decide (a1.X0 ≤ a2.X)) (cnd (decide (a2.X ≤ a1.X1)) (cnd (decide (a1.Y0 ≤ a2.Y)) (cnd (decide (a2.Y ≤ a1.Y1)) (some true) (some false)) (some false)) (some false)) (some false))
theorem f85_ok (n : Nat) (a1 : GBox) (a2 : GPoint) (r : Bool) (h : f85 n a1 a2 = some r) : pv PP T n 85 [(.agg (c_GBox a1)), (.agg (c_GPoint a2))] = some (bv r) := by
 cases n with
 | zero => cases h
 | succ n =>
  rw [f85] at h
  rcases cnd_or h with ⟨h3, h⟩ | ⟨h3, h⟩
  rotate_left
  ·have g14 := bool_eq h3
   obtain rfl := si h
   exact pz F85 ⟨[ff 9], []⟩ (Z g14 Z0)
  have g4 := bool_eq h3
  rcases cnd_or h with ⟨h5, h⟩ | ⟨h5, h⟩
  rotate_left
  ·have g13 := bool_eq h5
   obtain rfl := si h
   exact pz F85 ⟨[tt 9, ff 15], []⟩ (W2 g13 g4 Z0)
  have g6 := bool_eq h5
  rcases cnd_or h with ⟨h7, h⟩ | ⟨h7, h⟩
  rotate_left
  ·have g12 := bool_eq h7
   obtain rfl := si h
   exact pz F85 ⟨[tt 9, tt 15, ff 22], []⟩ (W2 g12 g6 <| Z g4 Z0)
  have g8 := bool_eq h7
  rcases cnd_or h with ⟨h9, h⟩ | ⟨h9, h⟩
  ·have g10 := bool_eq h9
   obtain rfl := si h
   exact pz F85 ⟨[tt 9, tt 15, tt 22, tt 29], []⟩ (W4 g10 g8 g6 g4 Z0)
  have g11 := bool_eq h9
  obtain rfl := si h
  exact pz F85 ⟨[tt 9, tt 15, tt 22, ff 29], []⟩ (W4 g11 g8 g6 g4 Z0)
def f52_L0_S (a15 : Int) (i28 : Int) : St := ⟨[U, U, U, (.lit (.int .i32 (IntKind.i32.wrap a15))), U, U, U, U, U, U, U, U, U, U, (.agg [(.lit (.int .i32 32)), (.lit (.int .i32 32)), (iv 0), (.lit (.int .i32 39)), (.lit (.int .i32 41)), (iv 0), (.lit (.int .i32 45)), (.lit (.int .i32 46)), (iv 0), (.lit (.int .i32 48)), (.lit (.int .i32 57)), (iv 0), (.lit (.int .i32 65)), (.lit (.int .i32 90)), (iv 1), (.lit (.int .i32 97)), (.lit (.int .i32 122)), (iv 1), (.lit (.int .i32 192)), (.lit (.int .i32 214)), (iv 1), (.lit (.int .i32 216)), (.lit (.int .i32 246)), (iv 1), (.lit (.int .i32 248)), (.lit (.int .i32 591)), (iv 1), (.lit (.int .i32 880)), (.lit (.int .i32 1023)), (iv 2), (.lit (.int .i32 1024)), (.lit (.int .i32 1279)), (iv 3), (.lit (.int .i32 1488)), (.lit (.int .i32 1514)), (iv 4), (.lit (.int .i32 19968)), (.lit (.int .i32 40959)), (iv 5)]), (iv i28), U, U, U, U, U, U, U, U, U, U, U, U, U, U, U], []⟩
def f52_L0_E0 (a15 : Int) (i41 : Int) (i42 : Int) (i43 : Int) (i44 : Int) : St := ⟨[U, U, (iv i44), U, U, U, U, U, U, U, U, U, U, U, U, U, U, U, U, U, U, U, U, U, U, U, U, U, U, U, U], [(.blk 3 [[(.lit (.int .i32 i41)), (.lit (.int .i32 i42)), (iv i43)]])]⟩
def f52_L0_E1 (a15 : Int) : St := ⟨[U, U, U, U, U, U, U, U, U, U, U, U, U, U, U, U, U, U, U, U, U, U, U, U, U, U, U, U, U, U, U], []⟩
def f52_L0 (n : Nat) (a15 : Int) : Nat → Int → Option ((Int × Int × Int × Int) ⊕ Unit)
 | 0, _ => none
 | m + 1, i28 => (cnd (decide (i28 < 13)) (bnd (idx tab0 i28) fun x47 => (cnd (decide (x47.first ≤ (IntKind.i32.wrap a15))) (cnd (decide ((IntKind.i32.wrap a15) ≤ x47.last)) (some (Sum.inl (x47.first, x47.last, x47.script, x47.script))) (f52_L0 n a15 m (IntKind.i64.wrap (i28 + 1)))) (f52_L0 n a15 m (IntKind.i64.wrap (i28 + 1))))) (some (Sum.inr ())))
theorem f52_L0_ok (n : Nat) (a15 : Int) : ∀ (m : Nat) (i28 : Int) (r : ((Int × Int × Int × Int) ⊕ Unit)), f52_L0 n a15 m i28 = some r → maskR [] [false, false, true] true 0 0 (evLoopH (headSt (some [false, false, false, true, false, false, false, false, false, false, false, false, false, false, true, true]) true 0 0) (evC PP (evF PP T n) n 0 L52_0) m (f52_L0_S a15 i28)) = (match r with | .inl r => some (.ret, f52_L0_E0 a15 r.1 r.2.1 r.2.2.1 r.2.2.2) | .inr r => some ((.exit 0), f52_L0_E1 a15))
 | 0, _, _, h => by cases h
 | m + 1, i28, r, h => by
  rw [f52_L0] at h
  rcases cnd_or h with ⟨h45, h⟩ | ⟨h45, h⟩
  rotate_left
  ·have g56 := bool_eq h45
   obtain rfl := si h
   exact last_z (live := some [false, false, false, true, false, false, false, false, false, false, false, false, false, false, true, true]) (tr' := true) (st' := f52_L0_E1 a15) ⟨[ff 16], []⟩ [] [] rfl (Z g56 Z0) (by kernel_rfl) (by first | rfl | simp [cleanX, cleanQ, cleanObj, clean1, clean2, f52_L0_E1])
  have g46 := bool_eq h45
  obtain ⟨x47, e48, h⟩ := bnd_some h
  have g49 := idx_agg (P := PP) (cf := evF PP T n) (fl := 0) (H := []) (c := c_GT196) (n := 13) e48 c_GT196_len rfl [(.lit (.int .i32 32)), (.lit (.int .i32 32)), (iv 0), (.lit (.int .i32 39)), (.lit (.int .i32 41)), (iv 0), (.lit (.int .i32 45)), (.lit (.int .i32 46)), (iv 0), (.lit (.int .i32 48)), (.lit (.int .i32 57)), (iv 0), (.lit (.int .i32 65)), (.lit (.int .i32 90)), (iv 1), (.lit (.int .i32 97)), (.lit (.int .i32 122)), (iv 1), (.lit (.int .i32 192)), (.lit (.int .i32 214)), (iv 1), (.lit (.int .i32 216)), (.lit (.int .i32 246)), (iv 1), (.lit (.int .i32 248)), (.lit (.int .i32 591)), (iv 1), (.lit (.int .i32 880)), (.lit (.int .i32 1023)), (iv 2), (.lit (.int .i32 1024)), (.lit (.int .i32 1279)), (iv 3), (.lit (.int .i32 1488)), (.lit (.int .i32 1514)), (iv 4), (.lit (.int .i32 19968)), (.lit (.int .i32 40959)), (iv 5)] rfl
  rcases cnd_or h with ⟨h50, h⟩ | ⟨h50, h⟩
  rotate_left
  ·have g55 := bool_eq h50
   exact (congrArg (maskR [] [false, false, true] true 0 0) (next_z (live := some [false, false, false, true, false, false, false, false, false, false, false, false, false, false, true, true]) (tr := true) (st' := f52_L0_S a15 (IntKind.i64.wrap (i28 + 1))) ⟨[tt 16, (17, (.agg [(.lit (.int .i32 x47.first)), (.lit (.int .i32 x47.last)), (iv x47.script)]), none), ff 21], []⟩ [] [none] rfl (W2 g55 g49 <| Z g46 Z0) (by kernel_rfl) (by first | rfl | simp [cleanX, cleanQ, cleanObj, clean1, clean2, f52_L0_S]) rfl)).trans (f52_L0_ok n a15 m (IntKind.i64.wrap (i28 + 1)) r h)
  have g51 := bool_eq h50
  rcases cnd_or h with ⟨h52, h⟩ | ⟨h52, h⟩
  ·have g53 := bool_eq h52
   obtain rfl := si h
   exact last_z (live := some [false, false, false, true, false, false, false, false, false, false, false, false, false, false, true, true]) (tr' := true) (st' := f52_L0_E0 a15 x47.first x47.last x47.script x47.script) ⟨[tt 16, (17, (.agg [(.lit (.int .i32 x47.first)), (.lit (.int .i32 x47.last)), (iv x47.script)]), none), tt 21, tt 26], []⟩ [] [none] rfl (W4 g53 g51 g49 g46 Z0) (by kernel_rfl) trivial
  have g54 := bool_eq h52
  exact (congrArg (maskR [] [false, false, true] true 0 0) (next_z (live := some [false, false, false, true, false, false, false, false, false, false, false, false, false, false, true, true]) (tr := true) (st' := f52_L0_S a15 (IntKind.i64.wrap (i28 + 1))) ⟨[tt 16, (17, (.agg [(.lit (.int .i32 x47.first)), (.lit (.int .i32 x47.last)), (iv x47.script)]), none), tt 21, ff 26], []⟩ [] [none] rfl (W4 g54 g51 g49 g46 Z0) (by kernel_rfl) (by first | rfl | simp [cleanX, cleanQ, cleanObj, clean1, clean2, f52_L0_S]) rfl)).trans (f52_L0_ok n a15 m (IntKind.i64.wrap (i28 + 1)) r h)
def f52 : Nat → Int → Option Int
 | 0, _ => none
 | n + 1, a15 => (cnd (decide (a15 < 0)) (some (-1)) (cnd (decide (a15 > 1114111)) (some (-1)) (bnd2 (f52_L0 n a15 n 0) (fun v60 => (some v60.2.2.2)) (fun v61 => (some (-1))))))
theorem f52_ok (n : Nat) (a15 : Int) (r : Int) (h : f52 n a15 = some r) : pv PP T n 52 [(iv a15)] = some (iv r) := by
 cases n with
 | zero => cases h
 | succ n =>
  rw [f52] at h
  rcases cnd_or h with ⟨h16, h⟩ | ⟨h16, h⟩
  ·have g17 := bool_eq h16
   obtain rfl := si h
   exact pz F52 ⟨[tt 7], []⟩ (Z g17 Z0)
  have g18 := bool_eq h16
  rcases cnd_or h with ⟨h19, h⟩ | ⟨h19, h⟩
  ·have g20 := bool_eq h19
   obtain rfl := si h
   exact pz F52 ⟨[ff 7, tt 10], []⟩ (W2 g20 g18 Z0)
  have g21 := bool_eq h19
  have g57 : cleanQ true 0 0 [] := (by first | rfl | simp [cleanX, cleanQ, cleanObj, clean1, clean2])
  rcases bnd2_some h with ⟨v60, e58, h⟩ | ⟨v61, e58, h⟩
  rotate_left
  ·have g59 := f52_L0_ok n a15 n 0 _ e58
   obtain rfl := si h
   exact pv_z (F := F52) ⟨[ff 7, ff 10], []⟩ [((.exit 0), f52_L0_E1 a15)] [] rfl (W4 g59 g57 g21 g18 Z0) (by kernel_rfl)
  have g59 := f52_L0_ok n a15 n 0 _ e58
  obtain rfl := si h
  exact pv_z (F := F52) ⟨[ff 7, ff 10], []⟩ [(.ret, f52_L0_E0 a15 v60.1 v60.2.1 v60.2.2.1 v60.2.2.2)] [] rfl (W4 g59 g57 g21 g18 Z0) (by kernel_rfl)
def f50_L0_S (a62 : ByteArray) (l75 : (List Int)) (k76 : Nat) : St := ⟨[U, U, (.ms 0 l75.length 0 l75.length), U, U, U, U, (.it 1), U, U, U, U, U, U, U, U, U, U, U, U, U], [(.blk 1 (List.map c_i64 l75)), (.raw (.stringIter a62 k76))]⟩
def f50_L0_E0 (a62 : ByteArray) (l89 : (List Int)) (k90 : Nat) : St := ⟨[U, U, (.ms 2 0 0 0), (iv 4), U, U, U, U, U, U, U, U, U, U, U, U, U, U, U, U, U], [(.blk 1 (List.map c_i64 l89)), (.raw (.stringIter a62 k90)), (.blk 1 (List.map c_i64 []))]⟩
def f50_L0_E1 (a62 : ByteArray) (l91 : (List Int)) (k92 : Nat) : St := ⟨[U, U, (.ms 0 l91.length 0 l91.length), U, U, U, U, U, U, U, U, U, U, U, U, U, U, U, U, U, U], [(.blk 1 (List.map c_i64 l91)), (.raw (.stringIter a62 k92))]⟩
abbrev hp0 (l75 : (List Int)) (a62 : ByteArray) (k76 : Nat) : Heap := [(.blk 1 (List.map c_i64 l75)), (.raw (.stringIter a62 k76))]
abbrev hp1 (l75 : (List Int)) (a62 : ByteArray) (k76 : Nat) : Heap := [(.blk 1 (List.map c_i64 l75)), (.raw (.stringIter a62 (k76 + (Utf8.decode a62 k76).2)))]
def f50_L0 (n : Nat) (a62 : ByteArray) : Nat → (List Int) → Nat → Option (((List Int) × Nat) ⊕ ((List Int) × Nat))
 | 0, _, _ => none
 | m + 1, l75, k76 => (cnd (decide (k76 < a62.size)) (bnd (f52 n (IntKind.i64.wrap (((Utf8.decode a62 k76).1 : Nat) : Int))) fun v95 => (cnd (decide (v95 < 0)) (some (Sum.inl (l75, (k76 + (Utf8.decode a62 k76).2)))) (bnd (app l75 [(IntKind.i64.wrap (((Utf8.decode a62 k76).1 : Nat) : Int))]) fun l101 => (f50_L0 n a62 m l101 (k76 + (Utf8.decode a62 k76).2))))) (some (Sum.inr (l75, k76))))
theorem f50_L0_ok (n : Nat) (a62 : ByteArray) : ∀ (m : Nat) (l75 : (List Int)) (k76 : Nat) (r : (((List Int) × Nat) ⊕ ((List Int) × Nat))), f50_L0 n a62 m l75 k76 = some r → maskR [false, false, true] [false, false, true, true] true 0 2 (evLoopH (headSt (some [false, false, true, false, false, false, false, true]) true 0 2) (evC PP (evF PP T n) n 0 L50_0) m (f50_L0_S a62 l75 k76)) = (match r with | .inl r => some (.ret, f50_L0_E0 a62 r.1 r.2) | .inr r => some ((.exit 0), f50_L0_E1 a62 r.1 r.2))
 | 0, _, _, _, h => by cases h
 | m + 1, l75, k76, r, h => by
  rw [f50_L0] at h
  rcases cnd_or h with ⟨h93, h⟩ | ⟨h93, h⟩
  rotate_left
  ·have g104 := next_f (P := PP) (cf := evF PP T n) (fl := 0) (H := (hp0 l75 a62 k76)) (id := 1) rfl (by omega) h93
   obtain rfl := si h
   exact last_z (live := some [false, false, true, false, false, false, false, true]) (tr' := true) (st' := f50_L0_E1 a62 l75 k76) ⟨[(8, (.tup [bf]), none)], []⟩ [] [] rfl (Z g104 Z0) (by kernel_rfl) (by simp [cleanX, cleanQ, cleanObj, clean1, clean2, f50_L0_E1, clean_map (c_i64_clean 2), c_i64_clean 2])
  have g94 := next_t (P := PP) (cf := evF PP T n) (fl := 0) (H := (hp0 l75 a62 k76)) (id := 1) rfl (by omega) h93
  obtain ⟨v95, e96, h⟩ := bnd_some h
  have g97 := f52_ok n (IntKind.i64.wrap (((Utf8.decode a62 k76).1 : Nat) : Int)) _ e96
  rcases cnd_or h with ⟨h98, h⟩ | ⟨h98, h⟩
  ·have g99 := bool_eq h98
   obtain rfl := si h
   exact last_z (live := some [false, false, true, false, false, false, false, true]) (tr' := true) (st' := f50_L0_E0 a62 l75 (k76 + (Utf8.decode a62 k76).2)) ⟨[(8, (.tup [bt, (iv ((k76 : Nat) : Int)), (.lit (.int .i32 (((Utf8.decode a62 k76).1 : Nat) : Int)))]), (some (hp1 l75 a62 k76))), (13, (iv v95), none), tt 14], []⟩ [] [] rfl (W2 g99 g97 <| Z g94 Z0) (by kernel_rfl) trivial
  have g100 := bool_eq h98
  obtain ⟨l101, e102, h⟩ := bnd_some h
  have g103 := app_ms (fl := 0) (H := (hp1 l75 a62 k76)) (id := 0) (s := 1) (bytes := 8) (c := c_i64) (l := l75) e102 rfl c_i64_len (by omega) (by omega) (by omega)
  exact (congrArg (maskR [false, false, true] [false, false, true, true] true 0 2) (next_z (live := some [false, false, true, false, false, false, false, true]) (tr := true) (st' := f50_L0_S a62 l101 (k76 + (Utf8.decode a62 k76).2)) ⟨[(8, (.tup [bt, (iv ((k76 : Nat) : Int)), (.lit (.int .i32 (((Utf8.decode a62 k76).1 : Nat) : Int)))]), (some (hp1 l75 a62 k76))), (13, (iv v95), none), ff 14, (19, (.ms 0 l101.length 0 l101.length), (some (hp1 l101 a62 k76)))], []⟩ [] [] rfl (W4 g103 g100 g97 g94 Z0) (by kernel_rfl) (by simp [cleanX, cleanQ, cleanObj, clean1, clean2, f50_L0_S, clean_map (c_i64_clean 2), c_i64_clean 2]) rfl)).trans (f50_L0_ok n a62 m l101 (k76 + (Utf8.decode a62 k76).2) r h)
abbrev hp2 (v109 : ((List Int) × Nat)) (a62 : ByteArray) : Heap := [(.blk 1 (List.map c_i64 v109.1)), (.raw (.stringIter a62 v109.2))]
def f50 : Nat → ByteArray → Option ((List Int) × Int)
 | 0, _ => none
 | n + 1, a62 => (bnd2 (f50_L0 n a62 n [] 0) (fun v108 => (some ([], 4))) (fun v109 => (some (v109.1, 0))))
theorem f50_ok (n : Nat) (a62 : ByteArray) (r : ((List Int) × Int)) (h : f50 n a62 = some r) : pv PP T n 50 [(sv a62)] = some (.tup [(.sl false (List.map c_i64 r.1)), (iv r.2)]) := by
 cases n with
 | zero => cases h
 | succ n =>
  rw [f50] at h
  have g105 : cleanQ true 0 2 [(.blk 1 (List.map c_i64 [])), (.raw (.stringIter a62 0))] := (by simp [cleanX, cleanQ, cleanObj, clean1, clean2, clean_map (c_i64_clean 2), c_i64_clean 2])
  rcases bnd2_some h with ⟨v108, e106, h⟩ | ⟨v109, e106, h⟩
  ·have g107 := f50_L0_ok n a62 n [] 0 _ e106
   obtain rfl := si h
   exact pv_z (F := F50) ⟨[], []⟩ [(.ret, f50_L0_E0 a62 v108.1 v108.2)] [] rfl (W2 g107 g105 Z0) (by kernel_rfl)
  have g107 := f50_L0_ok n a62 n [] 0 _ e106
  obtain rfl := si h
  refine pv_evF (evF_z (F := F50) ⟨[], []⟩ [((.exit 0), f50_L0_E1 a62 v109.1 v109.2)] [] rfl (r := (.tup [(.ms 0 v109.1.length 0 v109.1.length), (iv 0)])) (H' := (hp2 v109 a62)) (W2 g107 g105 Z0) (by kernel_rfl)) ?_
  show (AV.tup [(seal1 (hp2 v109 a62) 0 (.ms 0 v109.1.length 0 v109.1.length)), (seal1 (hp2 v109 a62) 0 (iv 0))]) = _
  rw [seal1_ms (H := (hp2 v109 a62)) (id := 0) (s := 1) (c := c_i64) (l := v109.1) rfl (c_i64_seal _ _ _)]
  first | done | rfl
def f26_L0_S (v118 : ((List Int) × Int)) (i155 : Int) : St := ⟨[U, U, (.sl false (List.map c_i64 v118.1)), U, U, U, U, U, U, U, U, U, U, U, U, U, U, U, U, U, U, U, U, U, U, U, U, U, U, U, U, U, U, U, (.sl false (List.map c_i64 v118.1)), (iv ((v118.1.length : Nat) : Int)), (iv i155), U, U, U, U, U, U, U, U], []⟩
def f26_L0_E0 (v118 : ((List Int) × Int)) : St := ⟨[U, U, (.sl false (List.map c_i64 v118.1)), (iv 0), U, U, U, U, U, U, U, U, U, U, U, U, U, U, U, U, U, U, U, U, U, U, U, U, U, U, U, U, U, U, U, U, U, U, U, U, U, U, U, U, U], []⟩
def f26_L0_E1 (v118 : ((List Int) × Int)) : St := ⟨[U, U, U, U, U, U, U, U, U, U, U, U, U, U, U, U, U, U, U, U, U, U, U, U, U, U, U, U, U, U, U, U, U, U, U, U, U, U, U, U, U, U, U, U, U], []⟩
def f26_L0 (n : Nat) (v118 : ((List Int) × Int)) : Nat → Int → Option (Unit ⊕ Unit)
 | 0, _ => none
 | m + 1, i155 => (cnd (decide (i155 < ((v118.1.length : Nat) : Int))) (bnd (idx v118.1 i155) fun x170 => (bnd (f52 n x170) fun v173 => (cnd (v173 != 0) (some (Sum.inl ())) (f26_L0 n v118 m (IntKind.i64.wrap (i155 + 1)))))) (some (Sum.inr ())))
theorem f26_L0_ok (n : Nat) (v118 : ((List Int) × Int)) : ∀ (m : Nat) (i155 : Int) (r : (Unit ⊕ Unit)), f26_L0 n v118 m i155 = some r → maskR [] [false, false, true, true] false 0 0 (evLoopH (headSt (some [false, false, true, false, false, false, false, false, false, false, false, false, false, false, false, false, false, false, false, false, false, false, false, false, false, false, false, false, false, false, false, false, false, false, true, true, true]) false 0 0) (evC PP (evF PP T n) n 0 L26_0) m (f26_L0_S v118 i155)) = (match r with | .inl r => some (.ret, f26_L0_E0 v118) | .inr r => some ((.exit 0), f26_L0_E1 v118))
 | 0, _, _, h => by cases h
 | m + 1, i155, r, h => by
  rw [f26_L0] at h
  rcases cnd_or h with ⟨h168, h⟩ | ⟨h168, h⟩
  rotate_left
  ·have g179 := bool_eq h168
   obtain rfl := si h
   exact last_z (live := some [false, false, true, false, false, false, false, false, false, false, false, false, false, false, false, false, false, false, false, false, false, false, false, false, false, false, false, false, false, false, false, false, false, false, true, true, true]) (tr' := false) (st' := f26_L0_E1 v118) ⟨[ff 37], []⟩ [] [] rfl (Z g179 Z0) (by kernel_rfl) trivial
  have g169 := bool_eq h168
  obtain ⟨x170, e171, h⟩ := bnd_some h
  have g172 := idxl (H := []) (f := false) (c := c_i64) e171 (c_i64_len _)
  obtain ⟨v173, e174, h⟩ := bnd_some h
  have g175 := f52_ok n x170 _ e174
  rcases cnd_or h with ⟨h176, h⟩ | ⟨h176, h⟩
  ·have g177 := bool_eq h176
   obtain rfl := si h
   exact last_z (live := some [false, false, true, false, false, false, false, false, false, false, false, false, false, false, false, false, false, false, false, false, false, false, false, false, false, false, false, false, false, false, false, false, false, false, true, true, true]) (tr' := false) (st' := f26_L0_E0 v118) ⟨[tt 37, (38, (.rptr [(iv x170)]), none), (41, (iv v173), none), tt 42], []⟩ [] [] rfl (W4 g177 g175 g172 g169 Z0) (by kernel_rfl) trivial
  have g178 := bool_eq h176
  exact (congrArg (maskR [] [false, false, true, true] false 0 0) (next_z (live := some [false, false, true, false, false, false, false, false, false, false, false, false, false, false, false, false, false, false, false, false, false, false, false, false, false, false, false, false, false, false, false, false, false, false, true, true, true]) (tr := false) (st' := f26_L0_S v118 (IntKind.i64.wrap (i155 + 1))) ⟨[tt 37, (38, (.rptr [(iv x170)]), none), (41, (iv v173), none), ff 42], []⟩ [] [] rfl (W4 g178 g175 g172 g169 Z0) (by kernel_rfl) trivial rfl)).trans (f26_L0_ok n v118 m (IntKind.i64.wrap (i155 + 1)) r h)
def f26 : Nat → ByteArray → Option ((List Int) × Int)
 | 0, _ => none
 | n + 1, a110 => (cnd (decide (a110 = (⟨#[]⟩ : ByteArray))) (some ([], 14)) (cnd (decide (((a110.size : Nat) : Int) > 40)) (some ([], 3)) (bnd (f50 n a110) fun v118 => (cnd (v118.2 != 0) (some ([], v118.2)) (bnd (sat a110 0) fun i124 => (cnd (i124 == 32) (some ([], 14)) (bnd (sat a110 (IntKind.i64.wrap (((a110.size : Nat) : Int) - 1))) fun i131 => (cnd (i131 == 32) (some ([], 14)) (bnd (f51 n a110 ⟨#[32, 32]⟩) fun v137 => (cnd (v137) (some ([], 14)) (bnd2 (f26_L0 n v118 n 0) (fun v183 => (some (v118.1, 0))) (fun v184 => (some ([], 14))))))))))))))
theorem f26_ok (n : Nat) (a110 : ByteArray) (r : ((List Int) × Int)) (h : f26 n a110 = some r) : pv PP T n 26 [(sv a110)] = some (.tup [(.sl false (List.map c_i64 r.1)), (iv r.2)]) := by
 cases n with
 | zero => cases h
 | succ n =>
  rw [f26] at h
  rcases cnd_or h with ⟨h111, h⟩ | ⟨h111, h⟩
  ·have g112 := c_str_eql (P := PP) (cf := evF PP T n) (fl := 0) (H := []) (t := 9) h111
   obtain rfl := si h
   exact pz F26 ⟨[tt 7], []⟩ (Z g112 Z0)
  have g113 := c_str_eql (P := PP) (cf := evF PP T n) (fl := 0) (H := []) (t := 9) h111
  have g114 := lenStr_9 (cf := evF PP T n) (fl := 0) (H := []) a110
  rcases cnd_or h with ⟨h115, h⟩ | ⟨h115, h⟩
  ·have g116 := bool_eq h115
   obtain rfl := si h
   exact pz F26 ⟨[ff 7, (9, (iv ((a110.size : Nat) : Int)), none), tt 10], []⟩ (W2 g116 g114 <| Z g113 Z0)
  have g117 := bool_eq h115
  obtain ⟨v118, e119, h⟩ := bnd_some h
  have g120 := f50_ok n a110 _ e119
  rcases cnd_or h with ⟨h121, h⟩ | ⟨h121, h⟩
  ·have g122 := bool_eq h121
   obtain rfl := si h
   exact pz F26 ⟨[ff 7, (9, (iv ((a110.size : Nat) : Int)), none), ff 10, (13, (.tup [(.sl false (List.map c_i64 v118.1)), (iv v118.2)]), none), tt 17], []⟩ (W4 g122 g120 g117 g114 <| Z g113 Z0)
  have g123 := bool_eq h121
  obtain ⟨i124, e125, h⟩ := bnd_some h
  have g126 := strIdx_ok (P := PP) (cf := evF PP T n) (fl := 0) (H := []) (t := 9) (by kernel_rfl) e125
  rcases cnd_or h with ⟨h127, h⟩ | ⟨h127, h⟩
  ·have g128 := bool_eq h127
   obtain rfl := si h
   exact pz F26 ⟨[ff 7, (9, (iv ((a110.size : Nat) : Int)), none), ff 10, (13, (.tup [(.sl false (List.map c_i64 v118.1)), (iv v118.2)]), none), ff 17, (20, (.lit (.int .u8 i124)), none), tt 21], []⟩ (W4 g128 g126 g123 g120 <| W2 g117 g114 <| Z g113 Z0)
  have g129 := bool_eq h127
  have g130 := lenStr_9 (cf := evF PP T n) (fl := 0) (H := []) a110
  obtain ⟨i131, e132, h⟩ := bnd_some h
  have g133 := strIdx_ok (P := PP) (cf := evF PP T n) (fl := 0) (H := []) (t := 9) (by kernel_rfl) e132
  rcases cnd_or h with ⟨h134, h⟩ | ⟨h134, h⟩
  ·have g135 := bool_eq h134
   obtain rfl := si h
   exact pz F26 ⟨[ff 7, (9, (iv ((a110.size : Nat) : Int)), none), ff 10, (13, (.tup [(.sl false (List.map c_i64 v118.1)), (iv v118.2)]), none), ff 17, (20, (.lit (.int .u8 i124)), none), ff 21, (25, (iv ((a110.size : Nat) : Int)), none), (27, (.lit (.int .u8 i131)), none), tt 28], []⟩ (W8 g135 g133 g130 g129 g126 g123 g120 g117 <| W2 g114 g113 Z0)
  have g136 := bool_eq h134
  obtain ⟨v137, e138, h⟩ := bnd_some h
  rcases cnd_or h with ⟨h139, h⟩ | ⟨h139, h⟩
  ·have g140 := by have q := f51_ok n a110 ⟨#[32, 32]⟩ _ e138; rw [h139] at q; exact q
   obtain rfl := si h
   exact pz F26 ⟨[ff 7, (9, (iv ((a110.size : Nat) : Int)), none), ff 10, (13, (.tup [(.sl false (List.map c_i64 v118.1)), (iv v118.2)]), none), ff 17, (20, (.lit (.int .u8 i124)), none), ff 21, (25, (iv ((a110.size : Nat) : Int)), none), (27, (.lit (.int .u8 i131)), none), ff 28, tt 32], []⟩ (W8 g140 g136 g133 g130 g129 g126 g123 g120 <| W2 g117 g114 <| Z g113 Z0)
  have g141 := by have q := f51_ok n a110 ⟨#[32, 32]⟩ _ e138; rw [h139] at q; exact q
  have g142 := len_sl (P := PP) (cf := evF PP T n) (fl := 0) (H := []) (f := false) (c := c_i64) (l := v118.1)
  have g180 : cleanQ false 0 0 [] := trivial
  rcases bnd2_some h with ⟨v183, e181, h⟩ | ⟨v184, e181, h⟩
  ·have g182 := f26_L0_ok n v118 n 0 _ e181
   obtain rfl := si h
   exact pv_z (F := F26) ⟨[ff 7, (9, (iv ((a110.size : Nat) : Int)), none), ff 10, (13, (.tup [(.sl false (List.map c_i64 v118.1)), (iv v118.2)]), none), ff 17, (20, (.lit (.int .u8 i124)), none), ff 21, (25, (iv ((a110.size : Nat) : Int)), none), (27, (.lit (.int .u8 i131)), none), ff 28, ff 32, (35, (iv ((v118.1.length : Nat) : Int)), none)], []⟩ [(.ret, f26_L0_E0 v118)] [] rfl (W8 g182 g180 g142 g141 g136 g133 g130 g129 <| W4 g126 g123 g120 g117 <| W2 g114 g113 Z0) (by kernel_rfl)
  have g182 := f26_L0_ok n v118 n 0 _ e181
  obtain rfl := si h
  exact pv_z (F := F26) ⟨[ff 7, (9, (iv ((a110.size : Nat) : Int)), none), ff 10, (13, (.tup [(.sl false (List.map c_i64 v118.1)), (iv v118.2)]), none), ff 17, (20, (.lit (.int .u8 i124)), none), ff 21, (25, (iv ((a110.size : Nat) : Int)), none), (27, (.lit (.int .u8 i131)), none), ff 28, ff 32, (35, (iv ((v118.1.length : Nat) : Int)), none)], []⟩ [((.exit 0), f26_L0_E1 v118)] [] rfl (W8 g182 g180 g142 g141 g136 g133 g130 g129 <| W4 g126 g123 g120 g117 <| W2 g114 g113 Z0) (by kernel_rfl)
def f11 : Nat → ByteArray → Option Int
 | 0, _ => none
 | n + 1, a185 => (bnd (f26 n a185) fun v186 => (some v186.2))
theorem f11_ok (n : Nat) (a185 : ByteArray) (r : Int) (h : f11 n a185 = some r) : pv PP T n 11 [(sv a185)] = some (iv r) := by
 cases n with
 | zero => cases h
 | succ n =>
  rw [f11] at h
  obtain ⟨v186, e187, h⟩ := bnd_some h
  have g188 := f26_ok n a185 _ e187
  obtain rfl := si h
  exact pz F11 ⟨[(5, (.tup [(.sl false (List.map c_i64 v186.1)), (iv v186.2)]), none)], []⟩ (Z g188 Z0)
def f27 : Nat → Int → Option Int
 | 0, _ => none
 | n + 1, a189 => (cnd (a189 == 1) (some 1) (cnd (a189 == 2) (some 1) (cnd (a189 == 8) (some 1) (cnd (a189 == 3) (some 2) (cnd (a189 == 4) (some 2) (cnd (a189 == 5) (some 3) (cnd (a189 == 6) (some 3) (cnd (a189 == 7) (some 3) (some 0)))))))))
theorem f27_ok (n : Nat) (a189 : Int) (r : Int) (h : f27 n a189 = some r) : pv PP T n 27 [(iv a189)] = some (iv r) := by
 cases n with
 | zero => cases h
 | succ n =>
  rw [f27] at h
  rcases cnd_or h with ⟨h190, h⟩ | ⟨h190, h⟩
  ·have g191 := bool_eq h190
   obtain rfl := si h
   exact pz F27 ⟨[tt 5], []⟩ (Z g191 Z0)
  have g192 := bool_eq h190
  rcases cnd_or h with ⟨h193, h⟩ | ⟨h193, h⟩
  ·have g194 := bool_eq h193
   obtain rfl := si h
   exact pz F27 ⟨[ff 5, tt 7], []⟩ (W2 g194 g192 Z0)
  have g195 := bool_eq h193
  rcases cnd_or h with ⟨h196, h⟩ | ⟨h196, h⟩
  ·have g197 := bool_eq h196
   obtain rfl := si h
   exact pz F27 ⟨[ff 5, ff 7, tt 9], []⟩ (W2 g197 g195 <| Z g192 Z0)
  have g198 := bool_eq h196
  rcases cnd_or h with ⟨h199, h⟩ | ⟨h199, h⟩
  ·have g200 := bool_eq h199
   obtain rfl := si h
   exact pz F27 ⟨[ff 5, ff 7, ff 9, tt 11], []⟩ (W4 g200 g198 g195 g192 Z0)
  have g201 := bool_eq h199
  rcases cnd_or h with ⟨h202, h⟩ | ⟨h202, h⟩
  ·have g203 := bool_eq h202
   obtain rfl := si h
   exact pz F27 ⟨[ff 5, ff 7, ff 9, ff 11, tt 13], []⟩ (W4 g203 g201 g198 g195 <| Z g192 Z0)
  have g204 := bool_eq h202
  rcases cnd_or h with ⟨h205, h⟩ | ⟨h205, h⟩
  ·have g206 := bool_eq h205
   obtain rfl := si h
   exact pz F27 ⟨[ff 5, ff 7, ff 9, ff 11, ff 13, tt 15], []⟩ (W4 g206 g204 g201 g198 <| W2 g195 g192 Z0)
  have g207 := bool_eq h205
  rcases cnd_or h with ⟨h208, h⟩ | ⟨h208, h⟩
  ·have g209 := bool_eq h208
   obtain rfl := si h
   exact pz F27 ⟨[ff 5, ff 7, ff 9, ff 11, ff 13, ff 15, tt 17], []⟩ (W4 g209 g207 g204 g201 <| W2 g198 g195 <| Z g192 Z0)
  have g210 := bool_eq h208
  rcases cnd_or h with ⟨h211, h⟩ | ⟨h211, h⟩
  ·have g212 := bool_eq h211
   obtain rfl := si h
   exact pz F27 ⟨[ff 5, ff 7, ff 9, ff 11, ff 13, ff 15, ff 17, tt 19], []⟩ (W8 g212 g210 g207 g204 g201 g198 g195 g192 Z0)
  have g213 := bool_eq h211
  obtain rfl := si h
  exact pz F27 ⟨[ff 5, ff 7, ff 9, ff 11, ff 13, ff 15, ff 17, ff 19], []⟩ (W8 g213 g210 g207 g204 g201 g198 g195 g192 Z0)
abbrev hp3 (a214 : GEdit) : Heap := [(.blk 10 [(c_GEdit (GEdit.mk a214.Kind a214.ID a214.A a214.B a214.C (GPoint.mk 0 0) a214.Via a214.Name a214.Parts))])]
abbrev hp4 (a214 : GEdit) : Heap := [(.blk 10 [[(iv a214.Kind), (iv a214.ID), (iv 0), (iv 0), (iv 0), (iv a214.At.X), (iv a214.At.Y), (.lit nilS), (sv a214.Name), (.sl false (List.map c_i64 a214.Parts))]])]
abbrev hp5 (a214 : GEdit) : Heap := [(.blk 10 [[(iv a214.Kind), (iv a214.ID), (iv a214.A), (iv a214.B), (iv a214.C), (iv a214.At.X), (iv a214.At.Y), (.lit nilS), (sv a214.Name), (.sl false (List.map c_i64 a214.Parts))]])]
abbrev hp6 (a214 : GEdit) : Heap := [(.blk 10 [[(iv a214.Kind), (iv a214.ID), (iv 0), (iv 0), (iv a214.C), (iv a214.At.X), (iv a214.At.Y), (.sl false (List.map c_GPoint a214.Via)), (sv (⟨#[]⟩)), (.lit nilS)]])]
abbrev hp7 (a214 : GEdit) : Heap := [(.blk 10 [(c_GEdit (GEdit.mk a214.Kind a214.ID a214.A a214.B a214.C a214.At a214.Via ⟨#[]⟩ a214.Parts))])]
abbrev hp8 (a214 : GEdit) : Heap := [(.blk 10 [(c_GEdit (GEdit.mk a214.Kind a214.ID a214.A 0 a214.C a214.At a214.Via a214.Name a214.Parts))])]
abbrev hp9 (a214 : GEdit) : Heap := [(.blk 10 [[(iv a214.Kind), (iv a214.ID), (iv a214.A), (iv a214.B), (iv a214.C), (iv a214.At.X), (iv a214.At.Y), (.sl false (List.map c_GPoint a214.Via)), (sv a214.Name), (.lit nilS)]])]
abbrev hp10 (a214 : GEdit) : Heap := [(.blk 10 [(c_GEdit (GEdit.mk a214.Kind a214.ID 0 a214.B a214.C a214.At a214.Via a214.Name a214.Parts))])]
def f28 : Nat → GEdit → Option Bool
 | 0, _ => none
 | n + 1, a214 => (cnd (a214.Kind == 1) (cnd (a214.A != 0) (some true) (cnd (a214.B != 0) (some true) (cnd (a214.C != 0) (some true) (cnd (decide (((a214.Via.length : Nat) : Int) > 0)) (some true) (cnd (decide (a214.Name = (⟨#[]⟩ : ByteArray))) (cnd (decide (((a214.Parts.length : Nat) : Int) > 0)) (some true) (some false)) (some true)))))) (cnd (a214.Kind == 3) (cnd (a214.A != 0) (some true) (cnd (a214.B != 0) (some true) (cnd (a214.C != 0) (some true) (cnd (decide (((a214.Via.length : Nat) : Int) > 0)) (some true) (cnd (decide (a214.Name = (⟨#[]⟩ : ByteArray))) (cnd (decide (((a214.Parts.length : Nat) : Int) > 0)) (some true) (some false)) (some true)))))) (cnd (a214.Kind == 4) (cnd (decide (a214.At = (GPoint.mk 0 0))) (cnd (decide (a214.Name = (⟨#[]⟩ : ByteArray))) (cnd (decide (((a214.Parts.length : Nat) : Int) > 0)) (some true) (some false)) (some true)) (some true)) (cnd (a214.Kind == 6) (cnd (a214.A != 0) (some true) (cnd (a214.B != 0) (some true) (cnd (a214.C != 0) (some true) (cnd (decide (a214.At = (GPoint.mk 0 0))) (cnd (decide (a214.Name = (⟨#[]⟩ : ByteArray))) (cnd (decide (((a214.Parts.length : Nat) : Int) > 0)) (some true) (some false)) (some true)) (some true))))) (cnd (a214.Kind == 7) (cnd (a214.C != 0) (some true) (cnd (decide (a214.At = (GPoint.mk 0 0))) (cnd (decide (((a214.Via.length : Nat) : Int) > 0)) (some true) (some false)) (some true))) (cnd (a214.Kind == 9) (cnd (a214.A != 0) (some true) (cnd (a214.B != 0) (some true) (cnd (a214.C != 0) (some true) (cnd (decide (a214.At = (GPoint.mk 0 0))) (cnd (decide (((a214.Via.length : Nat) : Int) > 0)) (some true) (cnd (decide (((a214.Parts.length : Nat) : Int) > 0)) (some true) (some false))) (some true))))) (cnd (a214.Kind == 10) (cnd (a214.A != 0) (some true) (cnd (a214.C != 0) (some true) (cnd (decide (a214.At = (GPoint.mk 0 0))) (cnd (decide (((a214.Via.length : Nat) : Int) > 0)) (some true) (cnd (decide (a214.Name = (⟨#[]⟩ : ByteArray))) (cnd (decide (((a214.Parts.length : Nat) : Int) > 0)) (some true) (some false)) (some true))) (some true)))) (cnd (a214.Kind == 11) (cnd (a214.A != 0) (some true) (cnd (a214.B != 0) (some true) (cnd (a214.C != 0) (some true) (cnd (decide (a214.At = (GPoint.mk 0 0))) (cnd (decide (((a214.Via.length : Nat) : Int) > 0)) (some true) (cnd (decide (a214.Name = (⟨#[]⟩ : ByteArray))) (some false) (some true))) (some true))))) (cnd (a214.Kind == 12) (cnd (a214.B != 0) (some true) (cnd (a214.C != 0) (some true) (cnd (decide (a214.At = (GPoint.mk 0 0))) (cnd (decide (((a214.Via.length : Nat) : Int) > 0)) (some true) (cnd (decide (a214.Name = (⟨#[]⟩ : ByteArray))) (cnd (decide (((a214.Parts.length : Nat) : Int) > 0)) (some true) (some false)) (some true))) (some true)))) (cnd (a214.A != 0) (some true) (cnd (a214.B != 0) (some true) (cnd (a214.C != 0) (some true) (cnd (decide (a214.At = (GPoint.mk 0 0))) (cnd (decide (((a214.Via.length : Nat) : Int) > 0)) (some true) (cnd (decide (a214.Name = (⟨#[]⟩ : ByteArray))) (cnd (decide (((a214.Parts.length : Nat) : Int) > 0)) (some true) (some false)) (some true))) (some true))))))))))))))
theorem f28_ok (n : Nat) (a214 : GEdit) (r : Bool) (h : f28 n a214 = some r) : pv PP T n 28 [(.agg (c_GEdit a214))] = some (bv r) := by
 cases n with
 | zero => cases h
 | succ n =>
  rw [f28] at h
  rcases cnd_or h with ⟨h215, h⟩ | ⟨h215, h⟩
  ·have g216 := bool_eq h215
   rcases cnd_or h with ⟨h217, h⟩ | ⟨h217, h⟩
   ·have g218 := bool_eq h217
    obtain rfl := si h
    exact pv_z (F := F28) ⟨[tt 6, tt 39], []⟩ [] [none] rfl (W2 g218 g216 Z0) (by kernel_rfl)
   have g219 := bool_eq h217
   rcases cnd_or h with ⟨h220, h⟩ | ⟨h220, h⟩
   ·have g221 := bool_eq h220
    obtain rfl := si h
    exact pv_z (F := F28) ⟨[tt 6, ff 39, tt 43], []⟩ [] [none] rfl (W2 g221 g219 <| Z g216 Z0) (by kernel_rfl)
   have g222 := bool_eq h220
   rcases cnd_or h with ⟨h223, h⟩ | ⟨h223, h⟩
   ·have g224 := bool_eq h223
    obtain rfl := si h
    exact pv_z (F := F28) ⟨[tt 6, ff 39, ff 43, tt 48], []⟩ [] [none] rfl (W4 g224 g222 g219 g216 Z0) (by kernel_rfl)
   have g225 := bool_eq h223
   have g226 := len_sl (P := PP) (cf := evF PP T n) (fl := 0) (H := (hp3 a214)) (f := false) (c := c_GPoint) (l := a214.Via)
   rcases cnd_or h with ⟨h227, h⟩ | ⟨h227, h⟩
   ·have g228 := bool_eq h227
    obtain rfl := si h
    exact pv_z (F := F28) ⟨[tt 6, ff 39, ff 43, ff 48, (59, (iv ((a214.Via.length : Nat) : Int)), none), tt 60], []⟩ [] [none] rfl (W4 g228 g226 g225 g222 <| W2 g219 g216 Z0) (by kernel_rfl)
   have g229 := bool_eq h227
   rcases cnd_or h with ⟨h230, h⟩ | ⟨h230, h⟩
   rotate_left
   ·have g236 := c_str_neq (P := PP) (cf := evF PP T n) (fl := 0) (H := (hp3 a214)) (t := 9) h230
    obtain rfl := si h
    exact pv_z (F := F28) ⟨[tt 6, ff 39, ff 43, ff 48, (59, (iv ((a214.Via.length : Nat) : Int)), none), ff 60, tt 65], []⟩ [] [none] rfl (W4 g236 g229 g226 g225 <| W2 g222 g219 <| Z g216 Z0) (by kernel_rfl)
   have g231 := c_str_neq (P := PP) (cf := evF PP T n) (fl := 0) (H := (hp3 a214)) (t := 9) h230
   have g232 := len_sl (P := PP) (cf := evF PP T n) (fl := 0) (H := (hp3 a214)) (f := false) (c := c_i64) (l := a214.Parts)
   rcases cnd_or h with ⟨h233, h⟩ | ⟨h233, h⟩
   ·have g234 := bool_eq h233
    obtain rfl := si h
    exact pv_z (F := F28) ⟨[tt 6, ff 39, ff 43, ff 48, (59, (iv ((a214.Via.length : Nat) : Int)), none), ff 60, ff 65, (70, (iv ((a214.Parts.length : Nat) : Int)), none), tt 71], []⟩ [] [none] rfl (W8 g234 g232 g231 g229 g226 g225 g222 g219 <| Z g216 Z0) (by kernel_rfl)
   have g235 := bool_eq h233
   obtain rfl := si h
   exact pv_z (F := F28) ⟨[tt 6, ff 39, ff 43, ff 48, (59, (iv ((a214.Via.length : Nat) : Int)), none), ff 60, ff 65, (70, (iv ((a214.Parts.length : Nat) : Int)), none), ff 71], []⟩ [] [none] rfl (W8 g235 g232 g231 g229 g226 g225 g222 g219 <| Z g216 Z0) (by kernel_rfl)
  have g237 := bool_eq h215
  rcases cnd_or h with ⟨h238, h⟩ | ⟨h238, h⟩
  ·have g239 := bool_eq h238
   rcases cnd_or h with ⟨h240, h⟩ | ⟨h240, h⟩
   ·have g241 := bool_eq h240
    obtain rfl := si h
    exact pv_z (F := F28) ⟨[ff 6, tt 7, tt 39], []⟩ [] [none] rfl (W2 g241 g239 <| Z g237 Z0) (by kernel_rfl)
   have g242 := bool_eq h240
   rcases cnd_or h with ⟨h243, h⟩ | ⟨h243, h⟩
   ·have g244 := bool_eq h243
    obtain rfl := si h
    exact pv_z (F := F28) ⟨[ff 6, tt 7, ff 39, tt 43], []⟩ [] [none] rfl (W4 g244 g242 g239 g237 Z0) (by kernel_rfl)
   have g245 := bool_eq h243
   rcases cnd_or h with ⟨h246, h⟩ | ⟨h246, h⟩
   ·have g247 := bool_eq h246
    obtain rfl := si h
    exact pv_z (F := F28) ⟨[ff 6, tt 7, ff 39, ff 43, tt 48], []⟩ [] [none] rfl (W4 g247 g245 g242 g239 <| Z g237 Z0) (by kernel_rfl)
   have g248 := bool_eq h246
   have g249 := len_sl (P := PP) (cf := evF PP T n) (fl := 0) (H := (hp3 a214)) (f := false) (c := c_GPoint) (l := a214.Via)
   rcases cnd_or h with ⟨h250, h⟩ | ⟨h250, h⟩
   ·have g251 := bool_eq h250
    obtain rfl := si h
    exact pv_z (F := F28) ⟨[ff 6, tt 7, ff 39, ff 43, ff 48, (59, (iv ((a214.Via.length : Nat) : Int)), none), tt 60], []⟩ [] [none] rfl (W4 g251 g249 g248 g245 <| W2 g242 g239 <| Z g237 Z0) (by kernel_rfl)
   have g252 := bool_eq h250
   rcases cnd_or h with ⟨h253, h⟩ | ⟨h253, h⟩
   rotate_left
   ·have g259 := c_str_neq (P := PP) (cf := evF PP T n) (fl := 0) (H := (hp3 a214)) (t := 9) h253
    obtain rfl := si h
    exact pv_z (F := F28) ⟨[ff 6, tt 7, ff 39, ff 43, ff 48, (59, (iv ((a214.Via.length : Nat) : Int)), none), ff 60, tt 65], []⟩ [] [none] rfl (W8 g259 g252 g249 g248 g245 g242 g239 g237 Z0) (by kernel_rfl)
   have g254 := c_str_neq (P := PP) (cf := evF PP T n) (fl := 0) (H := (hp3 a214)) (t := 9) h253
   have g255 := len_sl (P := PP) (cf := evF PP T n) (fl := 0) (H := (hp3 a214)) (f := false) (c := c_i64) (l := a214.Parts)
   rcases cnd_or h with ⟨h256, h⟩ | ⟨h256, h⟩
   ·have g257 := bool_eq h256
    obtain rfl := si h
    exact pv_z (F := F28) ⟨[ff 6, tt 7, ff 39, ff 43, ff 48, (59, (iv ((a214.Via.length : Nat) : Int)), none), ff 60, ff 65, (70, (iv ((a214.Parts.length : Nat) : Int)), none), tt 71], []⟩ [] [none] rfl (W8 g257 g255 g254 g252 g249 g248 g245 g242 <| W2 g239 g237 Z0) (by kernel_rfl)
   have g258 := bool_eq h256
   obtain rfl := si h
   exact pv_z (F := F28) ⟨[ff 6, tt 7, ff 39, ff 43, ff 48, (59, (iv ((a214.Via.length : Nat) : Int)), none), ff 60, ff 65, (70, (iv ((a214.Parts.length : Nat) : Int)), none), ff 71], []⟩ [] [none] rfl (W8 g258 g255 g254 g252 g249 g248 g245 g242 <| W2 g239 g237 Z0) (by kernel_rfl)
  have g260 := bool_eq h238
  rcases cnd_or h with ⟨h261, h⟩ | ⟨h261, h⟩
  ·have g262 := bool_eq h261
   rcases cnd_or h with ⟨h263, h⟩ | ⟨h263, h⟩
   rotate_left
   ·have g272 := c_GPoint_neq (cf := evF PP T n) (fl := 0) (H := (hp4 a214)) (a := a214.At) (b := (GPoint.mk 0 0)) h263
    obtain rfl := si h
    exact pv_z (F := F28) ⟨[ff 6, ff 7, tt 11, tt 54], []⟩ [] [none, none, none, none] rfl (W4 g272 g262 g260 g237 Z0) (by kernel_rfl)
   have g264 := c_GPoint_neq (cf := evF PP T n) (fl := 0) (H := (hp4 a214)) (a := a214.At) (b := (GPoint.mk 0 0)) h263
   rcases cnd_or h with ⟨h265, h⟩ | ⟨h265, h⟩
   rotate_left
   ·have g271 := c_str_neq (P := PP) (cf := evF PP T n) (fl := 0) (H := (hp4 a214)) (t := 9) h265
    obtain rfl := si h
    exact pv_z (F := F28) ⟨[ff 6, ff 7, tt 11, ff 54, tt 65], []⟩ [] [none, none, none, none] rfl (W4 g271 g264 g262 g260 <| Z g237 Z0) (by kernel_rfl)
   have g266 := c_str_neq (P := PP) (cf := evF PP T n) (fl := 0) (H := (hp4 a214)) (t := 9) h265
   have g267 := len_sl (P := PP) (cf := evF PP T n) (fl := 0) (H := (hp4 a214)) (f := false) (c := c_i64) (l := a214.Parts)
   rcases cnd_or h with ⟨h268, h⟩ | ⟨h268, h⟩
   ·have g269 := bool_eq h268
    obtain rfl := si h
    exact pv_z (F := F28) ⟨[ff 6, ff 7, tt 11, ff 54, ff 65, (70, (iv ((a214.Parts.length : Nat) : Int)), none), tt 71], []⟩ [] [none, none, none, none] rfl (W4 g269 g267 g266 g264 <| W2 g262 g260 <| Z g237 Z0) (by kernel_rfl)
   have g270 := bool_eq h268
   obtain rfl := si h
   exact pv_z (F := F28) ⟨[ff 6, ff 7, tt 11, ff 54, ff 65, (70, (iv ((a214.Parts.length : Nat) : Int)), none), ff 71], []⟩ [] [none, none, none, none] rfl (W4 g270 g267 g266 g264 <| W2 g262 g260 <| Z g237 Z0) (by kernel_rfl)
  have g273 := bool_eq h261
  rcases cnd_or h with ⟨h274, h⟩ | ⟨h274, h⟩
  ·have g275 := bool_eq h274
   rcases cnd_or h with ⟨h276, h⟩ | ⟨h276, h⟩
   ·have g277 := bool_eq h276
    obtain rfl := si h
    exact pv_z (F := F28) ⟨[ff 6, ff 7, ff 11, tt 17, tt 39], []⟩ [] [none] rfl (W4 g277 g275 g273 g260 <| Z g237 Z0) (by kernel_rfl)
   have g278 := bool_eq h276
   rcases cnd_or h with ⟨h279, h⟩ | ⟨h279, h⟩
   ·have g280 := bool_eq h279
    obtain rfl := si h
    exact pv_z (F := F28) ⟨[ff 6, ff 7, ff 11, tt 17, ff 39, tt 43], []⟩ [] [none] rfl (W4 g280 g278 g275 g273 <| W2 g260 g237 Z0) (by kernel_rfl)
   have g281 := bool_eq h279
   rcases cnd_or h with ⟨h282, h⟩ | ⟨h282, h⟩
   ·have g283 := bool_eq h282
    obtain rfl := si h
    exact pv_z (F := F28) ⟨[ff 6, ff 7, ff 11, tt 17, ff 39, ff 43, tt 48], []⟩ [] [none] rfl (W4 g283 g281 g278 g275 <| W2 g273 g260 <| Z g237 Z0) (by kernel_rfl)
   have g284 := bool_eq h282
   rcases cnd_or h with ⟨h285, h⟩ | ⟨h285, h⟩
   rotate_left
   ·have g294 := c_GPoint_neq (cf := evF PP T n) (fl := 0) (H := (hp5 a214)) (a := a214.At) (b := (GPoint.mk 0 0)) h285
    obtain rfl := si h
    exact pv_z (F := F28) ⟨[ff 6, ff 7, ff 11, tt 17, ff 39, ff 43, ff 48, tt 54], []⟩ [] [none] rfl (W8 g294 g284 g281 g278 g275 g273 g260 g237 Z0) (by kernel_rfl)
   have g286 := c_GPoint_neq (cf := evF PP T n) (fl := 0) (H := (hp5 a214)) (a := a214.At) (b := (GPoint.mk 0 0)) h285
   rcases cnd_or h with ⟨h287, h⟩ | ⟨h287, h⟩
   rotate_left
   ·have g293 := c_str_neq (P := PP) (cf := evF PP T n) (fl := 0) (H := (hp5 a214)) (t := 9) h287
    obtain rfl := si h
    exact pv_z (F := F28) ⟨[ff 6, ff 7, ff 11, tt 17, ff 39, ff 43, ff 48, ff 54, tt 65], []⟩ [] [none] rfl (W8 g293 g286 g284 g281 g278 g275 g273 g260 <| Z g237 Z0) (by kernel_rfl)
   have g288 := c_str_neq (P := PP) (cf := evF PP T n) (fl := 0) (H := (hp5 a214)) (t := 9) h287
   have g289 := len_sl (P := PP) (cf := evF PP T n) (fl := 0) (H := (hp5 a214)) (f := false) (c := c_i64) (l := a214.Parts)
   rcases cnd_or h with ⟨h290, h⟩ | ⟨h290, h⟩
   ·have g291 := bool_eq h290
    obtain rfl := si h
    exact pv_z (F := F28) ⟨[ff 6, ff 7, ff 11, tt 17, ff 39, ff 43, ff 48, ff 54, ff 65, (70, (iv ((a214.Parts.length : Nat) : Int)), none), tt 71], []⟩ [] [none] rfl (W8 g291 g289 g288 g286 g284 g281 g278 g275 <| W2 g273 g260 <| Z g237 Z0) (by kernel_rfl)
   have g292 := bool_eq h290
   obtain rfl := si h
   exact pv_z (F := F28) ⟨[ff 6, ff 7, ff 11, tt 17, ff 39, ff 43, ff 48, ff 54, ff 65, (70, (iv ((a214.Parts.length : Nat) : Int)), none), ff 71], []⟩ [] [none] rfl (W8 g292 g289 g288 g286 g284 g281 g278 g275 <| W2 g273 g260 <| Z g237 Z0) (by kernel_rfl)
  have g295 := bool_eq h274
  rcases cnd_or h with ⟨h296, h⟩ | ⟨h296, h⟩
  ·have g297 := bool_eq h296
   rcases cnd_or h with ⟨h298, h⟩ | ⟨h298, h⟩
   ·have g299 := bool_eq h298
    obtain rfl := si h
    exact pv_z (F := F28) ⟨[ff 6, ff 7, ff 11, ff 17, tt 20, tt 48], []⟩ [] [none, none, none, none] rfl (W4 g299 g297 g295 g273 <| W2 g260 g237 Z0) (by kernel_rfl)
   have g300 := bool_eq h298
   rcases cnd_or h with ⟨h301, h⟩ | ⟨h301, h⟩
   rotate_left
   ·have g307 := c_GPoint_neq (cf := evF PP T n) (fl := 0) (H := (hp6 a214)) (a := a214.At) (b := (GPoint.mk 0 0)) h301
    obtain rfl := si h
    exact pv_z (F := F28) ⟨[ff 6, ff 7, ff 11, ff 17, tt 20, ff 48, tt 54], []⟩ [] [none, none, none, none] rfl (W4 g307 g300 g297 g295 <| W2 g273 g260 <| Z g237 Z0) (by kernel_rfl)
   have g302 := c_GPoint_neq (cf := evF PP T n) (fl := 0) (H := (hp6 a214)) (a := a214.At) (b := (GPoint.mk 0 0)) h301
   have g303 := len_sl (P := PP) (cf := evF PP T n) (fl := 0) (H := (hp6 a214)) (f := false) (c := c_GPoint) (l := a214.Via)
   rcases cnd_or h with ⟨h304, h⟩ | ⟨h304, h⟩
   ·have g305 := bool_eq h304
    obtain rfl := si h
    exact pv_z (F := F28) ⟨[ff 6, ff 7, ff 11, ff 17, tt 20, ff 48, ff 54, (59, (iv ((a214.Via.length : Nat) : Int)), none), tt 60], []⟩ [] [none, none, none, none] rfl (W8 g305 g303 g302 g300 g297 g295 g273 g260 <| Z g237 Z0) (by kernel_rfl)
   have g306 := bool_eq h304
   obtain rfl := si h
   exact pv_z (F := F28) ⟨[ff 6, ff 7, ff 11, ff 17, tt 20, ff 48, ff 54, (59, (iv ((a214.Via.length : Nat) : Int)), none), ff 60], []⟩ [] [none, none, none, none] rfl (W8 g306 g303 g302 g300 g297 g295 g273 g260 <| Z g237 Z0) (by kernel_rfl)
  have g308 := bool_eq h296
  rcases cnd_or h with ⟨h309, h⟩ | ⟨h309, h⟩
  ·have g310 := bool_eq h309
   rcases cnd_or h with ⟨h311, h⟩ | ⟨h311, h⟩
   ·have g312 := bool_eq h311
    obtain rfl := si h
    exact pv_z (F := F28) ⟨[ff 6, ff 7, ff 11, ff 17, ff 20, tt 26, tt 39], []⟩ [] [none] rfl (W4 g312 g310 g308 g295 <| W2 g273 g260 <| Z g237 Z0) (by kernel_rfl)
   have g313 := bool_eq h311
   rcases cnd_or h with ⟨h314, h⟩ | ⟨h314, h⟩
   ·have g315 := bool_eq h314
    obtain rfl := si h
    exact pv_z (F := F28) ⟨[ff 6, ff 7, ff 11, ff 17, ff 20, tt 26, ff 39, tt 43], []⟩ [] [none] rfl (W8 g315 g313 g310 g308 g295 g273 g260 g237 Z0) (by kernel_rfl)
   have g316 := bool_eq h314
   rcases cnd_or h with ⟨h317, h⟩ | ⟨h317, h⟩
   ·have g318 := bool_eq h317
    obtain rfl := si h
    exact pv_z (F := F28) ⟨[ff 6, ff 7, ff 11, ff 17, ff 20, tt 26, ff 39, ff 43, tt 48], []⟩ [] [none] rfl (W8 g318 g316 g313 g310 g308 g295 g273 g260 <| Z g237 Z0) (by kernel_rfl)
   have g319 := bool_eq h317
   rcases cnd_or h with ⟨h320, h⟩ | ⟨h320, h⟩
   rotate_left
   ·have g330 := c_GPoint_neq (cf := evF PP T n) (fl := 0) (H := (hp7 a214)) (a := a214.At) (b := (GPoint.mk 0 0)) h320
    obtain rfl := si h
    exact pv_z (F := F28) ⟨[ff 6, ff 7, ff 11, ff 17, ff 20, tt 26, ff 39, ff 43, ff 48, tt 54], []⟩ [] [none] rfl (W8 g330 g319 g316 g313 g310 g308 g295 g273 <| W2 g260 g237 Z0) (by kernel_rfl)
   have g321 := c_GPoint_neq (cf := evF PP T n) (fl := 0) (H := (hp7 a214)) (a := a214.At) (b := (GPoint.mk 0 0)) h320
   have g322 := len_sl (P := PP) (cf := evF PP T n) (fl := 0) (H := (hp7 a214)) (f := false) (c := c_GPoint) (l := a214.Via)
   rcases cnd_or h with ⟨h323, h⟩ | ⟨h323, h⟩
   ·have g324 := bool_eq h323
    obtain rfl := si h
    exact pv_z (F := F28) ⟨[ff 6, ff 7, ff 11, ff 17, ff 20, tt 26, ff 39, ff 43, ff 48, ff 54, (59, (iv ((a214.Via.length : Nat) : Int)), none), tt 60], []⟩ [] [none] rfl (W8 g324 g322 g321 g319 g316 g313 g310 g308 <| W4 g295 g273 g260 g237 Z0) (by kernel_rfl)
   have g325 := bool_eq h323
   have g326 := len_sl (P := PP) (cf := evF PP T n) (fl := 0) (H := (hp7 a214)) (f := false) (c := c_i64) (l := a214.Parts)
   rcases cnd_or h with ⟨h327, h⟩ | ⟨h327, h⟩
   ·have g328 := bool_eq h327
    obtain rfl := si h
    exact pv_z (F := F28) ⟨[ff 6, ff 7, ff 11, ff 17, ff 20, tt 26, ff 39, ff 43, ff 48, ff 54, (59, (iv ((a214.Via.length : Nat) : Int)), none), ff 60, (70, (iv ((a214.Parts.length : Nat) : Int)), none), tt 71], []⟩ [] [none] rfl (W8 g328 g326 g325 g322 g321 g319 g316 g313 <| W4 g310 g308 g295 g273 <| W2 g260 g237 Z0) (by kernel_rfl)
   have g329 := bool_eq h327
   obtain rfl := si h
   exact pv_z (F := F28) ⟨[ff 6, ff 7, ff 11, ff 17, ff 20, tt 26, ff 39, ff 43, ff 48, ff 54, (59, (iv ((a214.Via.length : Nat) : Int)), none), ff 60, (70, (iv ((a214.Parts.length : Nat) : Int)), none), ff 71], []⟩ [] [none] rfl (W8 g329 g326 g325 g322 g321 g319 g316 g313 <| W4 g310 g308 g295 g273 <| W2 g260 g237 Z0) (by kernel_rfl)
  have g331 := bool_eq h309
  rcases cnd_or h with ⟨h332, h⟩ | ⟨h332, h⟩
  ·have g333 := bool_eq h332
   rcases cnd_or h with ⟨h334, h⟩ | ⟨h334, h⟩
   ·have g335 := bool_eq h334
    obtain rfl := si h
    exact pv_z (F := F28) ⟨[ff 6, ff 7, ff 11, ff 17, ff 20, ff 26, tt 29, tt 39], []⟩ [] [none] rfl (W8 g335 g333 g331 g308 g295 g273 g260 g237 Z0) (by kernel_rfl)
   have g336 := bool_eq h334
   rcases cnd_or h with ⟨h337, h⟩ | ⟨h337, h⟩
   ·have g338 := bool_eq h337
    obtain rfl := si h
    exact pv_z (F := F28) ⟨[ff 6, ff 7, ff 11, ff 17, ff 20, ff 26, tt 29, ff 39, tt 48], []⟩ [] [none] rfl (W8 g338 g336 g333 g331 g308 g295 g273 g260 <| Z g237 Z0) (by kernel_rfl)
   have g339 := bool_eq h337
   rcases cnd_or h with ⟨h340, h⟩ | ⟨h340, h⟩
   rotate_left
   ·have g353 := c_GPoint_neq (cf := evF PP T n) (fl := 0) (H := (hp8 a214)) (a := a214.At) (b := (GPoint.mk 0 0)) h340
    obtain rfl := si h
    exact pv_z (F := F28) ⟨[ff 6, ff 7, ff 11, ff 17, ff 20, ff 26, tt 29, ff 39, ff 48, tt 54], []⟩ [] [none] rfl (W8 g353 g339 g336 g333 g331 g308 g295 g273 <| W2 g260 g237 Z0) (by kernel_rfl)
   have g341 := c_GPoint_neq (cf := evF PP T n) (fl := 0) (H := (hp8 a214)) (a := a214.At) (b := (GPoint.mk 0 0)) h340
   have g342 := len_sl (P := PP) (cf := evF PP T n) (fl := 0) (H := (hp8 a214)) (f := false) (c := c_GPoint) (l := a214.Via)
   rcases cnd_or h with ⟨h343, h⟩ | ⟨h343, h⟩
   ·have g344 := bool_eq h343
    obtain rfl := si h
    exact pv_z (F := F28) ⟨[ff 6, ff 7, ff 11, ff 17, ff 20, ff 26, tt 29, ff 39, ff 48, ff 54, (59, (iv ((a214.Via.length : Nat) : Int)), none), tt 60], []⟩ [] [none] rfl (W8 g344 g342 g341 g339 g336 g333 g331 g308 <| W4 g295 g273 g260 g237 Z0) (by kernel_rfl)
   have g345 := bool_eq h343
   rcases cnd_or h with ⟨h346, h⟩ | ⟨h346, h⟩
   rotate_left
   ·have g352 := c_str_neq (P := PP) (cf := evF PP T n) (fl := 0) (H := (hp8 a214)) (t := 9) h346
    obtain rfl := si h
    exact pv_z (F := F28) ⟨[ff 6, ff 7, ff 11, ff 17, ff 20, ff 26, tt 29, ff 39, ff 48, ff 54, (59, (iv ((a214.Via.length : Nat) : Int)), none), ff 60, tt 65], []⟩ [] [none] rfl (W8 g352 g345 g342 g341 g339 g336 g333 g331 <| W4 g308 g295 g273 g260 <| Z g237 Z0) (by kernel_rfl)
   have g347 := c_str_neq (P := PP) (cf := evF PP T n) (fl := 0) (H := (hp8 a214)) (t := 9) h346
   have g348 := len_sl (P := PP) (cf := evF PP T n) (fl := 0) (H := (hp8 a214)) (f := false) (c := c_i64) (l := a214.Parts)
   rcases cnd_or h with ⟨h349, h⟩ | ⟨h349, h⟩
   ·have g350 := bool_eq h349
    obtain rfl := si h
    exact pv_z (F := F28) ⟨[ff 6, ff 7, ff 11, ff 17, ff 20, ff 26, tt 29, ff 39, ff 48, ff 54, (59, (iv ((a214.Via.length : Nat) : Int)), none), ff 60, ff 65, (70, (iv ((a214.Parts.length : Nat) : Int)), none), tt 71], []⟩ [] [none] rfl (W8 g350 g348 g347 g345 g342 g341 g339 g336 <| W4 g333 g331 g308 g295 <| W2 g273 g260 <| Z g237 Z0) (by kernel_rfl)
   have g351 := bool_eq h349
   obtain rfl := si h
   exact pv_z (F := F28) ⟨[ff 6, ff 7, ff 11, ff 17, ff 20, ff 26, tt 29, ff 39, ff 48, ff 54, (59, (iv ((a214.Via.length : Nat) : Int)), none), ff 60, ff 65, (70, (iv ((a214.Parts.length : Nat) : Int)), none), ff 71], []⟩ [] [none] rfl (W8 g351 g348 g347 g345 g342 g341 g339 g336 <| W4 g333 g331 g308 g295 <| W2 g273 g260 <| Z g237 Z0) (by kernel_rfl)
  have g354 := bool_eq h332
  rcases cnd_or h with ⟨h355, h⟩ | ⟨h355, h⟩
  ·have g356 := bool_eq h355
   rcases cnd_or h with ⟨h357, h⟩ | ⟨h357, h⟩
   ·have g358 := bool_eq h357
    obtain rfl := si h
    exact pv_z (F := F28) ⟨[ff 6, ff 7, ff 11, ff 17, ff 20, ff 26, ff 29, tt 32, tt 39], []⟩ [] [none] rfl (W8 g358 g356 g354 g331 g308 g295 g273 g260 <| Z g237 Z0) (by kernel_rfl)
   have g359 := bool_eq h357
   rcases cnd_or h with ⟨h360, h⟩ | ⟨h360, h⟩
   ·have g361 := bool_eq h360
    obtain rfl := si h
    exact pv_z (F := F28) ⟨[ff 6, ff 7, ff 11, ff 17, ff 20, ff 26, ff 29, tt 32, ff 39, tt 43], []⟩ [] [none] rfl (W8 g361 g359 g356 g354 g331 g308 g295 g273 <| W2 g260 g237 Z0) (by kernel_rfl)
   have g362 := bool_eq h360
   rcases cnd_or h with ⟨h363, h⟩ | ⟨h363, h⟩
   ·have g364 := bool_eq h363
    obtain rfl := si h
    exact pv_z (F := F28) ⟨[ff 6, ff 7, ff 11, ff 17, ff 20, ff 26, ff 29, tt 32, ff 39, ff 43, tt 48], []⟩ [] [none] rfl (W8 g364 g362 g359 g356 g354 g331 g308 g295 <| W2 g273 g260 <| Z g237 Z0) (by kernel_rfl)
   have g365 := bool_eq h363
   rcases cnd_or h with ⟨h366, h⟩ | ⟨h366, h⟩
   rotate_left
   ·have g375 := c_GPoint_neq (cf := evF PP T n) (fl := 0) (H := (hp9 a214)) (a := a214.At) (b := (GPoint.mk 0 0)) h366
    obtain rfl := si h
    exact pv_z (F := F28) ⟨[ff 6, ff 7, ff 11, ff 17, ff 20, ff 26, ff 29, tt 32, ff 39, ff 43, ff 48, tt 54], []⟩ [] [none] rfl (W8 g375 g365 g362 g359 g356 g354 g331 g308 <| W4 g295 g273 g260 g237 Z0) (by kernel_rfl)
   have g367 := c_GPoint_neq (cf := evF PP T n) (fl := 0) (H := (hp9 a214)) (a := a214.At) (b := (GPoint.mk 0 0)) h366
   have g368 := len_sl (P := PP) (cf := evF PP T n) (fl := 0) (H := (hp9 a214)) (f := false) (c := c_GPoint) (l := a214.Via)
   rcases cnd_or h with ⟨h369, h⟩ | ⟨h369, h⟩
   ·have g370 := bool_eq h369
    obtain rfl := si h
    exact pv_z (F := F28) ⟨[ff 6, ff 7, ff 11, ff 17, ff 20, ff 26, ff 29, tt 32, ff 39, ff 43, ff 48, ff 54, (59, (iv ((a214.Via.length : Nat) : Int)), none), tt 60], []⟩ [] [none] rfl (W8 g370 g368 g367 g365 g362 g359 g356 g354 <| W4 g331 g308 g295 g273 <| W2 g260 g237 Z0) (by kernel_rfl)
   have g371 := bool_eq h369
   rcases cnd_or h with ⟨h372, h⟩ | ⟨h372, h⟩
   ·have g373 := c_str_neq (P := PP) (cf := evF PP T n) (fl := 0) (H := (hp9 a214)) (t := 9) h372
    obtain rfl := si h
    exact pv_z (F := F28) ⟨[ff 6, ff 7, ff 11, ff 17, ff 20, ff 26, ff 29, tt 32, ff 39, ff 43, ff 48, ff 54, (59, (iv ((a214.Via.length : Nat) : Int)), none), ff 60, ff 65], []⟩ [] [none] rfl (W8 g373 g371 g368 g367 g365 g362 g359 g356 <| W4 g354 g331 g308 g295 <| W2 g273 g260 <| Z g237 Z0) (by kernel_rfl)
   have g374 := c_str_neq (P := PP) (cf := evF PP T n) (fl := 0) (H := (hp9 a214)) (t := 9) h372
   obtain rfl := si h
   exact pv_z (F := F28) ⟨[ff 6, ff 7, ff 11, ff 17, ff 20, ff 26, ff 29, tt 32, ff 39, ff 43, ff 48, ff 54, (59, (iv ((a214.Via.length : Nat) : Int)), none), ff 60, tt 65], []⟩ [] [none] rfl (W8 g374 g371 g368 g367 g365 g362 g359 g356 <| W4 g354 g331 g308 g295 <| W2 g273 g260 <| Z g237 Z0) (by kernel_rfl)
  have g376 := bool_eq h355
  rcases cnd_or h with ⟨h377, h⟩ | ⟨h377, h⟩
  ·have g378 := bool_eq h377
   rcases cnd_or h with ⟨h379, h⟩ | ⟨h379, h⟩
   ·have g380 := bool_eq h379
    obtain rfl := si h
    exact pv_z (F := F28) ⟨[ff 6, ff 7, ff 11, ff 17, ff 20, ff 26, ff 29, ff 32, tt 35, tt 43], []⟩ [] [none] rfl (W8 g380 g378 g376 g354 g331 g308 g295 g273 <| W2 g260 g237 Z0) (by kernel_rfl)
   have g381 := bool_eq h379
   rcases cnd_or h with ⟨h382, h⟩ | ⟨h382, h⟩
   ·have g383 := bool_eq h382
    obtain rfl := si h
    exact pv_z (F := F28) ⟨[ff 6, ff 7, ff 11, ff 17, ff 20, ff 26, ff 29, ff 32, tt 35, ff 43, tt 48], []⟩ [] [none] rfl (W8 g383 g381 g378 g376 g354 g331 g308 g295 <| W2 g273 g260 <| Z g237 Z0) (by kernel_rfl)
   have g384 := bool_eq h382
   rcases cnd_or h with ⟨h385, h⟩ | ⟨h385, h⟩
   rotate_left
   ·have g398 := c_GPoint_neq (cf := evF PP T n) (fl := 0) (H := (hp10 a214)) (a := a214.At) (b := (GPoint.mk 0 0)) h385
    obtain rfl := si h
    exact pv_z (F := F28) ⟨[ff 6, ff 7, ff 11, ff 17, ff 20, ff 26, ff 29, ff 32, tt 35, ff 43, ff 48, tt 54], []⟩ [] [none] rfl (W8 g398 g384 g381 g378 g376 g354 g331 g308 <| W4 g295 g273 g260 g237 Z0) (by kernel_rfl)
   have g386 := c_GPoint_neq (cf := evF PP T n) (fl := 0) (H := (hp10 a214)) (a := a214.At) (b := (GPoint.mk 0 0)) h385
   have g387 := len_sl (P := PP) (cf := evF PP T n) (fl := 0) (H := (hp10 a214)) (f := false) (c := c_GPoint) (l := a214.Via)
   rcases cnd_or h with ⟨h388, h⟩ | ⟨h388, h⟩
   ·have g389 := bool_eq h388
    obtain rfl := si h
    exact pv_z (F := F28) ⟨[ff 6, ff 7, ff 11, ff 17, ff 20, ff 26, ff 29, ff 32, tt 35, ff 43, ff 48, ff 54, (59, (iv ((a214.Via.length : Nat) : Int)), none), tt 60], []⟩ [] [none] rfl (W8 g389 g387 g386 g384 g381 g378 g376 g354 <| W4 g331 g308 g295 g273 <| W2 g260 g237 Z0) (by kernel_rfl)
   have g390 := bool_eq h388
   rcases cnd_or h with ⟨h391, h⟩ | ⟨h391, h⟩
   rotate_left
   ·have g397 := c_str_neq (P := PP) (cf := evF PP T n) (fl := 0) (H := (hp10 a214)) (t := 9) h391
    obtain rfl := si h
    exact pv_z (F := F28) ⟨[ff 6, ff 7, ff 11, ff 17, ff 20, ff 26, ff 29, ff 32, tt 35, ff 43, ff 48, ff 54, (59, (iv ((a214.Via.length : Nat) : Int)), none), ff 60, tt 65], []⟩ [] [none] rfl (W8 g397 g390 g387 g386 g384 g381 g378 g376 <| W4 g354 g331 g308 g295 <| W2 g273 g260 <| Z g237 Z0) (by kernel_rfl)
   have g392 := c_str_neq (P := PP) (cf := evF PP T n) (fl := 0) (H := (hp10 a214)) (t := 9) h391
   have g393 := len_sl (P := PP) (cf := evF PP T n) (fl := 0) (H := (hp10 a214)) (f := false) (c := c_i64) (l := a214.Parts)
   rcases cnd_or h with ⟨h394, h⟩ | ⟨h394, h⟩
   ·have g395 := bool_eq h394
    obtain rfl := si h
    exact pv_z (F := F28) ⟨[ff 6, ff 7, ff 11, ff 17, ff 20, ff 26, ff 29, ff 32, tt 35, ff 43, ff 48, ff 54, (59, (iv ((a214.Via.length : Nat) : Int)), none), ff 60, ff 65, (70, (iv ((a214.Parts.length : Nat) : Int)), none), tt 71], []⟩ [] [none] rfl (W8 g395 g393 g392 g390 g387 g386 g384 g381 <| W8 g378 g376 g354 g331 g308 g295 g273 g260 <| Z g237 Z0) (by kernel_rfl)
   have g396 := bool_eq h394
   obtain rfl := si h
   exact pv_z (F := F28) ⟨[ff 6, ff 7, ff 11, ff 17, ff 20, ff 26, ff 29, ff 32, tt 35, ff 43, ff 48, ff 54, (59, (iv ((a214.Via.length : Nat) : Int)), none), ff 60, ff 65, (70, (iv ((a214.Parts.length : Nat) : Int)), none), ff 71], []⟩ [] [none] rfl (W8 g396 g393 g392 g390 g387 g386 g384 g381 <| W8 g378 g376 g354 g331 g308 g295 g273 g260 <| Z g237 Z0) (by kernel_rfl)
  have g399 := bool_eq h377
  rcases cnd_or h with ⟨h400, h⟩ | ⟨h400, h⟩
  ·have g401 := bool_eq h400
   obtain rfl := si h
   exact pz F28 ⟨[ff 6, ff 7, ff 11, ff 17, ff 20, ff 26, ff 29, ff 32, ff 35, tt 39], []⟩ (W8 g401 g399 g376 g354 g331 g308 g295 g273 <| W2 g260 g237 Z0)
  have g402 := bool_eq h400
  rcases cnd_or h with ⟨h403, h⟩ | ⟨h403, h⟩
  ·have g404 := bool_eq h403
   obtain rfl := si h
   exact pz F28 ⟨[ff 6, ff 7, ff 11, ff 17, ff 20, ff 26, ff 29, ff 32, ff 35, ff 39, tt 43], []⟩ (W8 g404 g402 g399 g376 g354 g331 g308 g295 <| W2 g273 g260 <| Z g237 Z0)
  have g405 := bool_eq h403
  rcases cnd_or h with ⟨h406, h⟩ | ⟨h406, h⟩
  ·have g407 := bool_eq h406
   obtain rfl := si h
   exact pz F28 ⟨[ff 6, ff 7, ff 11, ff 17, ff 20, ff 26, ff 29, ff 32, ff 35, ff 39, ff 43, tt 48], []⟩ (W8 g407 g405 g402 g399 g376 g354 g331 g308 <| W4 g295 g273 g260 g237 Z0)
  have g408 := bool_eq h406
  rcases cnd_or h with ⟨h409, h⟩ | ⟨h409, h⟩
  rotate_left
  ·have g422 := c_GPoint_neq (cf := evF PP T n) (fl := 0) (H := [(.blk 10 [(c_GEdit a214)])]) (a := a214.At) (b := (GPoint.mk 0 0)) h409
   obtain rfl := si h
   exact pz F28 ⟨[ff 6, ff 7, ff 11, ff 17, ff 20, ff 26, ff 29, ff 32, ff 35, ff 39, ff 43, ff 48, tt 54], []⟩ (W8 g422 g408 g405 g402 g399 g376 g354 g331 <| W4 g308 g295 g273 g260 <| Z g237 Z0)
  have g410 := c_GPoint_neq (cf := evF PP T n) (fl := 0) (H := [(.blk 10 [(c_GEdit a214)])]) (a := a214.At) (b := (GPoint.mk 0 0)) h409
  have g411 := len_sl (P := PP) (cf := evF PP T n) (fl := 0) (H := [(.blk 10 [(c_GEdit a214)])]) (f := false) (c := c_GPoint) (l := a214.Via)
  rcases cnd_or h with ⟨h412, h⟩ | ⟨h412, h⟩
  ·have g413 := bool_eq h412
   obtain rfl := si h
   exact pz F28 ⟨[ff 6, ff 7, ff 11, ff 17, ff 20, ff 26, ff 29, ff 32, ff 35, ff 39, ff 43, ff 48, ff 54, (59, (iv ((a214.Via.length : Nat) : Int)), none), tt 60], []⟩ (W8 g413 g411 g410 g408 g405 g402 g399 g376 <| W4 g354 g331 g308 g295 <| W2 g273 g260 <| Z g237 Z0)
  have g414 := bool_eq h412
  rcases cnd_or h with ⟨h415, h⟩ | ⟨h415, h⟩
  rotate_left
  ·have g421 := c_str_neq (P := PP) (cf := evF PP T n) (fl := 0) (H := [(.blk 10 [(c_GEdit a214)])]) (t := 9) h415
   obtain rfl := si h
   exact pz F28 ⟨[ff 6, ff 7, ff 11, ff 17, ff 20, ff 26, ff 29, ff 32, ff 35, ff 39, ff 43, ff 48, ff 54, (59, (iv ((a214.Via.length : Nat) : Int)), none), ff 60, tt 65], []⟩ (W8 g421 g414 g411 g410 g408 g405 g402 g399 <| W8 g376 g354 g331 g308 g295 g273 g260 g237 Z0)
  have g416 := c_str_neq (P := PP) (cf := evF PP T n) (fl := 0) (H := [(.blk 10 [(c_GEdit a214)])]) (t := 9) h415
  have g417 := len_sl (P := PP) (cf := evF PP T n) (fl := 0) (H := [(.blk 10 [(c_GEdit a214)])]) (f := false) (c := c_i64) (l := a214.Parts)
  rcases cnd_or h with ⟨h418, h⟩ | ⟨h418, h⟩
  ·have g419 := bool_eq h418
   obtain rfl := si h
   exact pz F28 ⟨[ff 6, ff 7, ff 11, ff 17, ff 20, ff 26, ff 29, ff 32, ff 35, ff 39, ff 43, ff 48, ff 54, (59, (iv ((a214.Via.length : Nat) : Int)), none), ff 60, ff 65, (70, (iv ((a214.Parts.length : Nat) : Int)), none), tt 71], []⟩ (W8 g419 g417 g416 g414 g411 g410 g408 g405 <| W8 g402 g399 g376 g354 g331 g308 g295 g273 <| W2 g260 g237 Z0)
  have g420 := bool_eq h418
  obtain rfl := si h
  exact pz F28 ⟨[ff 6, ff 7, ff 11, ff 17, ff 20, ff 26, ff 29, ff 32, ff 35, ff 39, ff 43, ff 48, ff 54, (59, (iv ((a214.Via.length : Nat) : Int)), none), ff 60, ff 65, (70, (iv ((a214.Parts.length : Nat) : Int)), none), ff 71], []⟩ (W8 g420 g417 g416 g414 g411 g410 g408 g405 <| W8 g402 g399 g376 g354 g331 g308 g295 g273 <| W2 g260 g237 Z0)
abbrev hp11 (a427 : GEdit) : Heap := [(.blk 10 [(c_GEdit a427)]), (.blk 1 [[(.fn 53 [])]]), (.blk 4 [[(iv (-1048576)), (iv (-1048576)), (iv 1048576), (iv 1048576)]])]
abbrev hp12 (a427 : GEdit) : Heap := [(.blk 10 [(c_GEdit a427)]), (.blk 1 [[(.fn 53 [])]]), (.blk 4 [[(iv (-1048576)), (iv (-1048576)), (iv 1048576), (iv 1048576)]]), (.blk 2 [[(iv a427.At.X), (iv a427.At.Y)]])]
def f29_I86_L0_S (a427 : GEdit) (i493 : Int) : St := ⟨[(.sl false (List.map c_GPoint a427.Via)), (.fn 54 [(.ptr 2 1 0 0)]), U, U, U, U, U, (iv ((a427.Via.length : Nat) : Int)), (iv i493), U, U, U, U, U, U, U, U, U, U], [(.blk 10 [(c_GEdit a427)]), (.blk 1 [[(.fn 53 [])]]), (.blk 4 [[(iv (-1048576)), (iv (-1048576)), (iv 1048576), (iv 1048576)]]), (.blk 2 [[(iv a427.At.X), (iv a427.At.Y)]])]⟩
def f29_I86_L0_E0 (a427 : GEdit) (i512 : Int) : St := ⟨[U, U, U, U, (iv i512), U, U, U, U, U, U, U, U, U, U, U, U, U, U], [(.blk 10 [(c_GEdit a427)]), (.blk 1 [[(.fn 53 [])]]), (.blk 4 [[(iv (-1048576)), (iv (-1048576)), (iv 1048576), (iv 1048576)]]), (.blk 2 [[(iv a427.At.X), (iv a427.At.Y)]])]⟩
def f29_I86_L0_E1 (a427 : GEdit) : St := ⟨[U, U, U, U, U, U, U, U, U, U, U, U, U, U, U, U, U, U, U], [(.blk 10 [(c_GEdit a427)]), (.blk 1 [[(.fn 53 [])]]), (.blk 4 [[(iv (-1048576)), (iv (-1048576)), (iv 1048576), (iv 1048576)]]), (.blk 2 [[(iv a427.At.X), (iv a427.At.Y)]])]⟩
abbrev hp13 (a427 : GEdit) (x515 : GPoint) : Heap := [(.blk 10 [(c_GEdit a427)]), (.blk 1 [[(.fn 53 [])]]), (.blk 4 [[(iv (-1048576)), (iv (-1048576)), (iv 1048576), (iv 1048576)]]), (.blk 2 [[(iv a427.At.X), (iv a427.At.Y)]]), (.blk 2 [[(iv x515.X), (iv x515.Y)]])]
def f29_I86_L0 (n : Nat) (a427 : GEdit) : Nat → Int → Option (Int ⊕ Unit)
 | 0, _ => none
 | m + 1, i493 => (cnd (decide (i493 < ((a427.Via.length : Nat) : Int))) (bnd (idx a427.Via i493) fun x515 => (bnd (prd n) fun n518 => (bnd (f85 n518 (GBox.mk (-1048576) (-1048576) 1048576 1048576) x515) fun v521 => (cnd (v521) (f29_I86_L0 n a427 m (IntKind.i64.wrap (i493 + 1))) (some (Sum.inl i493)))))) (some (Sum.inr ())))
theorem f29_I86_L0_ok (n : Nat) (a427 : GEdit) : ∀ (m : Nat) (i493 : Int) (r : (Int ⊕ Unit)), f29_I86_L0 n a427 m i493 = some r → maskR [] [false, false, false, false, true] false 0 4 (evLoopH (headSt (some [true, true, false, false, false, false, false, true, true]) false 0 4) (evC PP (evF PP T n) n 0 L86_0) m (f29_I86_L0_S a427 i493)) = (match r with | .inl r => some (.ret, f29_I86_L0_E0 a427 r) | .inr r => some ((.exit 0), f29_I86_L0_E1 a427))
 | 0, _, _, h => by cases h
 | m + 1, i493, r, h => by
  rw [f29_I86_L0] at h
  rcases cnd_or h with ⟨h513, h⟩ | ⟨h513, h⟩
  rotate_left
  ·have g530 := bool_eq h513
   obtain rfl := si h
   exact last_z (live := some [true, true, false, false, false, false, false, true, true]) (tr' := false) (st' := f29_I86_L0_E1 a427) ⟨[ff 9], []⟩ [] [] rfl (Z g530 Z0) (by kernel_rfl) trivial
  have g514 := bool_eq h513
  obtain ⟨x515, e516, h⟩ := bnd_some h
  have g517 := idxl (H := (hp12 a427)) (f := false) (c := c_GPoint) e516 (c_GPoint_len _)
  obtain ⟨n518, e519, h⟩ := bnd_some h
  have q520 := prd_eq e519
  obtain ⟨v521, e522, h⟩ := bnd_some h
  rcases cnd_or h with ⟨h523, h⟩ | ⟨h523, h⟩
  rotate_left
  ·have g527 := by have q := f85_ok n518 (GBox.mk (-1048576) (-1048576) 1048576 1048576) x515 _ e522; rw [h523] at q; exact q
   have g528 : evF PP T n 4 54 [(.agg [(iv x515.X), (iv x515.Y)]), (.ptr 2 1 0 0)] (hp12 a427) = some (bt, (hp13 a427 x515)) := by
    rw [q520]; exact evF_z (F := F54) ⟨[ff 6], []⟩ [] [] rfl (Z g527 Z0) (by kernel_rfl)
   have g529 : callA (evF PP T n) 0 true 54 [(.agg [(iv x515.X), (iv x515.Y)]), (.ptr 2 1 0 0)] (hp12 a427) = some (bt, (hp12 a427)) := callA_np rfl rfl g528 rfl
   obtain rfl := si h
   exact last_z (live := some [true, true, false, false, false, false, false, true, true]) (tr' := false) (st' := f29_I86_L0_E0 a427 i493) ⟨[tt 9, (14, (.rptr [(iv x515.X), (iv x515.Y)]), none), tt 16], []⟩ [] [] rfl (W2 g529 g517 <| Z g514 Z0) (by kernel_rfl) trivial
  have g524 := by have q := f85_ok n518 (GBox.mk (-1048576) (-1048576) 1048576 1048576) x515 _ e522; rw [h523] at q; exact q
  have g525 : evF PP T n 4 54 [(.agg [(iv x515.X), (iv x515.Y)]), (.ptr 2 1 0 0)] (hp12 a427) = some (bf, (hp13 a427 x515)) := by
   rw [q520]; exact evF_z (F := F54) ⟨[tt 6], []⟩ [] [] rfl (Z g524 Z0) (by kernel_rfl)
  have g526 : callA (evF PP T n) 0 true 54 [(.agg [(iv x515.X), (iv x515.Y)]), (.ptr 2 1 0 0)] (hp12 a427) = some (bf, (hp12 a427)) := callA_np rfl rfl g525 rfl
  exact (congrArg (maskR [] [false, false, false, false, true] false 0 4) (next_z (live := some [true, true, false, false, false, false, false, true, true]) (tr := false) (st' := f29_I86_L0_S a427 (IntKind.i64.wrap (i493 + 1))) ⟨[tt 9, (14, (.rptr [(iv x515.X), (iv x515.Y)]), none), ff 16], []⟩ [] [] rfl (W2 g526 g517 <| Z g514 Z0) (by kernel_rfl) trivial rfl)).trans (f29_I86_L0_ok n a427 m (IntKind.i64.wrap (i493 + 1)) r h)
def f29_I87_L0_S (a427 : GEdit) (i575 : Int) : St := ⟨[(.sl false (List.map c_i64 a427.Parts)), (.fn 56 [(.ptr 1 1 0 0)]), U, U, U, U, U, (iv ((a427.Parts.length : Nat) : Int)), (iv i575), U, U, U, U, U, U, U, U, U, U], [(.blk 10 [(c_GEdit a427)]), (.blk 1 [[(.fn 53 [])]]), (.blk 4 [[(iv (-1048576)), (iv (-1048576)), (iv 1048576), (iv 1048576)]]), (.blk 2 [[(iv a427.At.X), (iv a427.At.Y)]])]⟩
def f29_I87_L0_E0 (a427 : GEdit) (i603 : Int) : St := ⟨[U, U, U, U, (iv i603), U, U, U, U, U, U, U, U, U, U, U, U, U, U], [(.blk 10 [(c_GEdit a427)]), (.blk 1 [[(.fn 53 [])]]), (.blk 4 [[(iv (-1048576)), (iv (-1048576)), (iv 1048576), (iv 1048576)]]), (.blk 2 [[(iv a427.At.X), (iv a427.At.Y)]])]⟩
def f29_I87_L0_E1 (a427 : GEdit) : St := ⟨[U, U, U, U, U, U, U, U, U, U, U, U, U, U, U, U, U, U, U], [(.blk 10 [(c_GEdit a427)]), (.blk 1 [[(.fn 53 [])]]), (.blk 4 [[(iv (-1048576)), (iv (-1048576)), (iv 1048576), (iv 1048576)]]), (.blk 2 [[(iv a427.At.X), (iv a427.At.Y)]])]⟩
def f29_I87_L0 (n : Nat) (a427 : GEdit) : Nat → Int → Option (Int ⊕ Unit)
 | 0, _ => none
 | m + 1, i575 => (cnd (decide (i575 < ((a427.Parts.length : Nat) : Int))) (bnd (idx a427.Parts i575) fun x606 => (bnd (prd n) fun n609 => (bnd (prd n609) fun n612 => (cnd (decide (1 ≤ x606)) (cnd (decide (x606 ≤ 1073741824)) (f29_I87_L0 n a427 m (IntKind.i64.wrap (i575 + 1))) (some (Sum.inl i575))) (some (Sum.inl i575)))))) (some (Sum.inr ())))
theorem f29_I87_L0_ok (n : Nat) (a427 : GEdit) : ∀ (m : Nat) (i575 : Int) (r : (Int ⊕ Unit)), f29_I87_L0 n a427 m i575 = some r → maskR [] [false, false, false, false, true] false 0 4 (evLoopH (headSt (some [true, true, false, false, false, false, false, true, true]) false 0 4) (evC PP (evF PP T n) n 0 L87_0) m (f29_I87_L0_S a427 i575)) = (match r with | .inl r => some (.ret, f29_I87_L0_E0 a427 r) | .inr r => some ((.exit 0), f29_I87_L0_E1 a427))
 | 0, _, _, h => by cases h
 | m + 1, i575, r, h => by
  rw [f29_I87_L0] at h
  rcases cnd_or h with ⟨h604, h⟩ | ⟨h604, h⟩
  rotate_left
  ·have g630 := bool_eq h604
   obtain rfl := si h
   exact last_z (live := some [true, true, false, false, false, false, false, true, true]) (tr' := false) (st' := f29_I87_L0_E1 a427) ⟨[ff 9], []⟩ [] [] rfl (Z g630 Z0) (by kernel_rfl) trivial
  have g605 := bool_eq h604
  obtain ⟨x606, e607, h⟩ := bnd_some h
  have g608 := idxl (H := (hp12 a427)) (f := false) (c := c_i64) e607 (c_i64_len _)
  obtain ⟨n609, e610, h⟩ := bnd_some h
  have q611 := prd_eq e610
  obtain ⟨n612, e613, h⟩ := bnd_some h
  have q614 := prd_eq e613
  rcases cnd_or h with ⟨h615, h⟩ | ⟨h615, h⟩
  rotate_left
  ·have g626 := bool_eq h615
   have g627 : evF PP T n609 4 53 [(iv x606)] (hp12 a427) = some (bf, (hp12 a427)) := by
    rw [q614]; exact evF_z (F := F53) ⟨[ff 4], []⟩ [] [] rfl (Z g626 Z0) (by kernel_rfl)
   have g628 : evF PP T n 4 56 [(iv x606), (.ptr 1 1 0 0)] (hp12 a427) = some (bt, (hp12 a427)) := by
    rw [q611]; exact evF_z (F := F56) ⟨[ff 6], []⟩ [] [] rfl (Z g627 Z0) (by kernel_rfl)
   have g629 : callA (evF PP T n) 0 true 56 [(iv x606), (.ptr 1 1 0 0)] (hp12 a427) = some (bt, (hp12 a427)) := callA_np rfl rfl g628 rfl
   obtain rfl := si h
   exact last_z (live := some [true, true, false, false, false, false, false, true, true]) (tr' := false) (st' := f29_I87_L0_E0 a427 i575) ⟨[tt 9, (14, (.rptr [(iv x606)]), none), tt 16], []⟩ [] [] rfl (W2 g629 g608 <| Z g605 Z0) (by kernel_rfl) trivial
  have g616 := bool_eq h615
  rcases cnd_or h with ⟨h617, h⟩ | ⟨h617, h⟩
  rotate_left
  ·have g622 := bool_eq h617
   have g623 : evF PP T n609 4 53 [(iv x606)] (hp12 a427) = some (bf, (hp12 a427)) := by
    rw [q614]; exact evF_z (F := F53) ⟨[tt 4, ff 7], []⟩ [] [] rfl (W2 g622 g616 Z0) (by kernel_rfl)
   have g624 : evF PP T n 4 56 [(iv x606), (.ptr 1 1 0 0)] (hp12 a427) = some (bt, (hp12 a427)) := by
    rw [q611]; exact evF_z (F := F56) ⟨[ff 6], []⟩ [] [] rfl (Z g623 Z0) (by kernel_rfl)
   have g625 : callA (evF PP T n) 0 true 56 [(iv x606), (.ptr 1 1 0 0)] (hp12 a427) = some (bt, (hp12 a427)) := callA_np rfl rfl g624 rfl
   obtain rfl := si h
   exact last_z (live := some [true, true, false, false, false, false, false, true, true]) (tr' := false) (st' := f29_I87_L0_E0 a427 i575) ⟨[tt 9, (14, (.rptr [(iv x606)]), none), tt 16], []⟩ [] [] rfl (W2 g625 g608 <| Z g605 Z0) (by kernel_rfl) trivial
  have g618 := bool_eq h617
  have g619 : evF PP T n609 4 53 [(iv x606)] (hp12 a427) = some (bt, (hp12 a427)) := by
   rw [q614]; exact evF_z (F := F53) ⟨[tt 4, tt 7], []⟩ [] [] rfl (W2 g618 g616 Z0) (by kernel_rfl)
  have g620 : evF PP T n 4 56 [(iv x606), (.ptr 1 1 0 0)] (hp12 a427) = some (bf, (hp12 a427)) := by
   rw [q611]; exact evF_z (F := F56) ⟨[tt 6], []⟩ [] [] rfl (Z g619 Z0) (by kernel_rfl)
  have g621 : callA (evF PP T n) 0 true 56 [(iv x606), (.ptr 1 1 0 0)] (hp12 a427) = some (bf, (hp12 a427)) := callA_np rfl rfl g620 rfl
  exact (congrArg (maskR [] [false, false, false, false, true] false 0 4) (next_z (live := some [true, true, false, false, false, false, false, true, true]) (tr := false) (st' := f29_I87_L0_S a427 (IntKind.i64.wrap (i575 + 1))) ⟨[tt 9, (14, (.rptr [(iv x606)]), none), ff 16], []⟩ [] [] rfl (W2 g621 g608 <| Z g605 Z0) (by kernel_rfl) trivial rfl)).trans (f29_I87_L0_ok n a427 m (IntKind.i64.wrap (i575 + 1)) r h)
def f29 : Nat → GEdit → Option Bool
 | 0, _ => none
 | n + 1, a427 => (cnd (a427.Kind == 4) (bnd (prd n) fun n430 => (cnd (decide (1 ≤ a427.A)) (cnd (decide (a427.A ≤ 1073741824)) (bnd (prd n) fun n438 => (cnd (decide (1 ≤ a427.B)) (cnd (decide (a427.B ≤ 1073741824)) (bnd (prd n) fun n446 => (cnd (decide (1 ≤ a427.ID)) (cnd (decide (a427.ID ≤ 1073741824)) (cnd (decide (a427.C < (-1073741824))) (some false) (cnd (decide (a427.C > 1073741824)) (some false) (bnd (prd n) fun n460 => (bnd (f85 n460 (GBox.mk (-1048576) (-1048576) 1048576 1048576) a427.At) fun v463 => (cnd (v463) (bnd (prd n) fun n468 => (bnd (prd n468) fun n471 => (bnd2 (f29_I86_L0 n471 a427 n471 0) (fun v534 => (cnd (decide (v534 ≥ 0)) (some false) (bnd (prd n) fun n541 => (bnd (prd n541) fun n544 => (bnd2 (f29_I87_L0 n544 a427 n544 0) (fun v634 => (cnd (decide (v634 ≥ 0)) (some false) (some true))) (fun v641 => (some true))))))) (fun v644 => (bnd (prd n) fun n647 => (bnd (prd n647) fun n650 => (bnd2 (f29_I87_L0 n650 a427 n650 0) (fun v713 => (cnd (decide (v713 ≥ 0)) (some false) (some true))) (fun v720 => (some true))))))))) (some false)))))) (some false)) (some false))) (some false)) (some false))) (some false)) (some false))) (cnd (a427.Kind == 12) (bnd (prd n) fun n740 => (cnd (decide (1 ≤ a427.A)) (cnd (decide (a427.A ≤ 1073741824)) (bnd (prd n) fun n748 => (cnd (decide (1 ≤ a427.ID)) (cnd (decide (a427.ID ≤ 1073741824)) (cnd (decide (a427.C < (-1073741824))) (some false) (cnd (decide (a427.C > 1073741824)) (some false) (bnd (prd n) fun n762 => (bnd (f85 n762 (GBox.mk (-1048576) (-1048576) 1048576 1048576) a427.At) fun v765 => (cnd (v765) (bnd (prd n) fun n770 => (bnd (prd n770) fun n773 => (bnd2 (f29_I86_L0 n773 a427 n773 0) (fun v818 => (cnd (decide (v818 ≥ 0)) (some false) (bnd (prd n) fun n825 => (bnd (prd n825) fun n828 => (bnd2 (f29_I87_L0 n828 a427 n828 0) (fun v891 => (cnd (decide (v891 ≥ 0)) (some false) (some true))) (fun v898 => (some true))))))) (fun v901 => (bnd (prd n) fun n904 => (bnd (prd n904) fun n907 => (bnd2 (f29_I87_L0 n907 a427 n907 0) (fun v970 => (cnd (decide (v970 ≥ 0)) (some false) (some true))) (fun v977 => (some true))))))))) (some false)))))) (some false)) (some false))) (some false)) (some false))) (cnd (a427.Kind == 7) (cnd (decide (a427.B < 1)) (some false) (cnd (decide (a427.B > 9)) (some false) (bnd (prd n) fun n999 => (cnd (decide (1 ≤ a427.ID)) (cnd (decide (a427.ID ≤ 1073741824)) (cnd (decide (a427.C < (-1073741824))) (some false) (cnd (decide (a427.C > 1073741824)) (some false) (bnd (prd n) fun n1013 => (bnd (f85 n1013 (GBox.mk (-1048576) (-1048576) 1048576 1048576) a427.At) fun v1016 => (cnd (v1016) (bnd (prd n) fun n1021 => (bnd (prd n1021) fun n1024 => (bnd2 (f29_I86_L0 n1024 a427 n1024 0) (fun v1069 => (cnd (decide (v1069 ≥ 0)) (some false) (bnd (prd n) fun n1076 => (bnd (prd n1076) fun n1079 => (bnd2 (f29_I87_L0 n1079 a427 n1079 0) (fun v1142 => (cnd (decide (v1142 ≥ 0)) (some false) (some true))) (fun v1149 => (some true))))))) (fun v1152 => (bnd (prd n) fun n1155 => (bnd (prd n1155) fun n1158 => (bnd2 (f29_I87_L0 n1158 a427 n1158 0) (fun v1221 => (cnd (decide (v1221 ≥ 0)) (some false) (some true))) (fun v1228 => (some true))))))))) (some false)))))) (some false)) (some false))))) (cnd (a427.Kind == 10) (cnd (decide (a427.B < 1)) (some false) (cnd (decide (a427.B > 9)) (some false) (bnd (prd n) fun n1246 => (cnd (decide (1 ≤ a427.ID)) (cnd (decide (a427.ID ≤ 1073741824)) (cnd (decide (a427.C < (-1073741824))) (some false) (cnd (decide (a427.C > 1073741824)) (some false) (bnd (prd n) fun n1260 => (bnd (f85 n1260 (GBox.mk (-1048576) (-1048576) 1048576 1048576) a427.At) fun v1263 => (cnd (v1263) (bnd (prd n) fun n1268 => (bnd (prd n1268) fun n1271 => (bnd2 (f29_I86_L0 n1271 a427 n1271 0) (fun v1316 => (cnd (decide (v1316 ≥ 0)) (some false) (bnd (prd n) fun n1323 => (bnd (prd n1323) fun n1326 => (bnd2 (f29_I87_L0 n1326 a427 n1326 0) (fun v1389 => (cnd (decide (v1389 ≥ 0)) (some false) (some true))) (fun v1396 => (some true))))))) (fun v1399 => (bnd (prd n) fun n1402 => (bnd (prd n1402) fun n1405 => (bnd2 (f29_I87_L0 n1405 a427 n1405 0) (fun v1468 => (cnd (decide (v1468 ≥ 0)) (some false) (some true))) (fun v1475 => (some true))))))))) (some false)))))) (some false)) (some false))))) (bnd (prd n) fun n1485 => (cnd (decide (1 ≤ a427.ID)) (cnd (decide (a427.ID ≤ 1073741824)) (cnd (decide (a427.C < (-1073741824))) (some false) (cnd (decide (a427.C > 1073741824)) (some false) (bnd (prd n) fun n1499 => (bnd (f85 n1499 (GBox.mk (-1048576) (-1048576) 1048576 1048576) a427.At) fun v1502 => (cnd (v1502) (bnd (prd n) fun n1507 => (bnd (prd n1507) fun n1510 => (bnd2 (f29_I86_L0 n1510 a427 n1510 0) (fun v1555 => (cnd (decide (v1555 ≥ 0)) (some false) (bnd (prd n) fun n1562 => (bnd (prd n1562) fun n1565 => (bnd2 (f29_I87_L0 n1565 a427 n1565 0) (fun v1628 => (cnd (decide (v1628 ≥ 0)) (some false) (some true))) (fun v1635 => (some true))))))) (fun v1638 => (bnd (prd n) fun n1641 => (bnd (prd n1641) fun n1644 => (bnd2 (f29_I87_L0 n1644 a427 n1644 0) (fun v1707 => (cnd (decide (v1707 ≥ 0)) (some false) (some true))) (fun v1714 => (some true))))))))) (some false)))))) (some false)) (some false)))))))
theorem f29_ok (n : Nat) (a427 : GEdit) (r : Bool) (h : f29 n a427 = some r) : pv PP T n 29 [(.agg (c_GEdit a427))] = some (bv r) := by
 cases n with
 | zero => cases h
 | succ n =>
  rw [f29] at h
  rcases cnd_or h with ⟨h428, h⟩ | ⟨h428, h⟩
  ·have g429 := bool_eq h428
   obtain ⟨n430, e431, h⟩ := bnd_some h
   have q432 := prd_eq e431
   rcases cnd_or h with ⟨h433, h⟩ | ⟨h433, h⟩
   rotate_left
   ·have g735 := bool_eq h433
    have g736 : evF PP T n 0 53 [(iv a427.A)] (hp11 a427) = some (bf, (hp11 a427)) := by
     rw [q432]; exact evF_z (F := F53) ⟨[ff 4], []⟩ [] [] rfl (Z g735 Z0) (by kernel_rfl)
    obtain rfl := si h
    exact pv_z (F := F29) ⟨[tt 11, ff 15], []⟩ [] [none, none] rfl (W2 g736 g429 Z0) (by kernel_rfl)
   have g434 := bool_eq h433
   rcases cnd_or h with ⟨h435, h⟩ | ⟨h435, h⟩
   rotate_left
   ·have g733 := bool_eq h435
    have g734 : evF PP T n 0 53 [(iv a427.A)] (hp11 a427) = some (bf, (hp11 a427)) := by
     rw [q432]; exact evF_z (F := F53) ⟨[tt 4, ff 7], []⟩ [] [] rfl (W2 g733 g434 Z0) (by kernel_rfl)
    obtain rfl := si h
    exact pv_z (F := F29) ⟨[tt 11, ff 15], []⟩ [] [none, none] rfl (W2 g734 g429 Z0) (by kernel_rfl)
   have g436 := bool_eq h435
   have g437 : evF PP T n 0 53 [(iv a427.A)] (hp11 a427) = some (bt, (hp11 a427)) := by
    rw [q432]; exact evF_z (F := F53) ⟨[tt 4, tt 7], []⟩ [] [] rfl (W2 g436 g434 Z0) (by kernel_rfl)
   obtain ⟨n438, e439, h⟩ := bnd_some h
   have q440 := prd_eq e439
   rcases cnd_or h with ⟨h441, h⟩ | ⟨h441, h⟩
   rotate_left
   ·have g731 := bool_eq h441
    have g732 : evF PP T n 0 53 [(iv a427.B)] (hp11 a427) = some (bf, (hp11 a427)) := by
     rw [q440]; exact evF_z (F := F53) ⟨[ff 4], []⟩ [] [] rfl (Z g731 Z0) (by kernel_rfl)
    obtain rfl := si h
    exact pv_z (F := F29) ⟨[tt 11, tt 15, ff 21], []⟩ [] [none, none] rfl (W2 g732 g437 <| Z g429 Z0) (by kernel_rfl)
   have g442 := bool_eq h441
   rcases cnd_or h with ⟨h443, h⟩ | ⟨h443, h⟩
   rotate_left
   ·have g729 := bool_eq h443
    have g730 : evF PP T n 0 53 [(iv a427.B)] (hp11 a427) = some (bf, (hp11 a427)) := by
     rw [q440]; exact evF_z (F := F53) ⟨[tt 4, ff 7], []⟩ [] [] rfl (W2 g729 g442 Z0) (by kernel_rfl)
    obtain rfl := si h
    exact pv_z (F := F29) ⟨[tt 11, tt 15, ff 21], []⟩ [] [none, none] rfl (W2 g730 g437 <| Z g429 Z0) (by kernel_rfl)
   have g444 := bool_eq h443
   have g445 : evF PP T n 0 53 [(iv a427.B)] (hp11 a427) = some (bt, (hp11 a427)) := by
    rw [q440]; exact evF_z (F := F53) ⟨[tt 4, tt 7], []⟩ [] [] rfl (W2 g444 g442 Z0) (by kernel_rfl)
   obtain ⟨n446, e447, h⟩ := bnd_some h
   have q448 := prd_eq e447
   rcases cnd_or h with ⟨h449, h⟩ | ⟨h449, h⟩
   rotate_left
   ·have g727 := bool_eq h449
    have g728 : evF PP T n 0 53 [(iv a427.ID)] (hp11 a427) = some (bf, (hp11 a427)) := by
     rw [q448]; exact evF_z (F := F53) ⟨[ff 4], []⟩ [] [] rfl (Z g727 Z0) (by kernel_rfl)
    obtain rfl := si h
    exact pv_z (F := F29) ⟨[tt 11, tt 15, tt 21, ff 45], []⟩ [] [none, none] rfl (W4 g728 g445 g437 g429 Z0) (by kernel_rfl)
   have g450 := bool_eq h449
   rcases cnd_or h with ⟨h451, h⟩ | ⟨h451, h⟩
   rotate_left
   ·have g725 := bool_eq h451
    have g726 : evF PP T n 0 53 [(iv a427.ID)] (hp11 a427) = some (bf, (hp11 a427)) := by
     rw [q448]; exact evF_z (F := F53) ⟨[tt 4, ff 7], []⟩ [] [] rfl (W2 g725 g450 Z0) (by kernel_rfl)
    obtain rfl := si h
    exact pv_z (F := F29) ⟨[tt 11, tt 15, tt 21, ff 45], []⟩ [] [none, none] rfl (W4 g726 g445 g437 g429 Z0) (by kernel_rfl)
   have g452 := bool_eq h451
   have g453 : evF PP T n 0 53 [(iv a427.ID)] (hp11 a427) = some (bt, (hp11 a427)) := by
    rw [q448]; exact evF_z (F := F53) ⟨[tt 4, tt 7], []⟩ [] [] rfl (W2 g452 g450 Z0) (by kernel_rfl)
   rcases cnd_or h with ⟨h454, h⟩ | ⟨h454, h⟩
   ·have g455 := bool_eq h454
    obtain rfl := si h
    exact pv_z (F := F29) ⟨[tt 11, tt 15, tt 21, tt 45, tt 50], []⟩ [] [none, none] rfl (W4 g455 g453 g445 g437 <| Z g429 Z0) (by kernel_rfl)
   have g456 := bool_eq h454
   rcases cnd_or h with ⟨h457, h⟩ | ⟨h457, h⟩
   ·have g458 := bool_eq h457
    obtain rfl := si h
    exact pv_z (F := F29) ⟨[tt 11, tt 15, tt 21, tt 45, ff 50, tt 55], []⟩ [] [none, none] rfl (W4 g458 g456 g453 g445 <| W2 g437 g429 Z0) (by kernel_rfl)
   have g459 := bool_eq h457
   obtain ⟨n460, e461, h⟩ := bnd_some h
   have q462 := prd_eq e461
   obtain ⟨v463, e464, h⟩ := bnd_some h
   rcases cnd_or h with ⟨h465, h⟩ | ⟨h465, h⟩
   rotate_left
   ·have g723 := by have q := f85_ok n460 (GBox.mk (-1048576) (-1048576) 1048576 1048576) a427.At _ e464; rw [h465] at q; exact q
    have g724 : evF PP T n 0 54 [(.agg [(iv a427.At.X), (iv a427.At.Y)]), (.ptr 2 1 0 0)] (hp11 a427) = some (bt, (hp12 a427)) := by
     rw [q462]; exact evF_z (F := F54) ⟨[ff 6], []⟩ [] [] rfl (Z g723 Z0) (by kernel_rfl)
    obtain rfl := si h
    exact pv_z (F := F29) ⟨[tt 11, tt 15, tt 21, tt 45, ff 50, ff 55, (61, bt, (some (hp12 a427)))], []⟩ [] [none, none] rfl (W4 g724 g459 g456 g453 <| W2 g445 g437 <| Z g429 Z0) (by kernel_rfl)
   have g466 := by have q := f85_ok n460 (GBox.mk (-1048576) (-1048576) 1048576 1048576) a427.At _ e464; rw [h465] at q; exact q
   have g467 : evF PP T n 0 54 [(.agg [(iv a427.At.X), (iv a427.At.Y)]), (.ptr 2 1 0 0)] (hp11 a427) = some (bf, (hp12 a427)) := by
    rw [q462]; exact evF_z (F := F54) ⟨[tt 6], []⟩ [] [] rfl (Z g466 Z0) (by kernel_rfl)
   obtain ⟨n468, e469, h⟩ := bnd_some h
   have q470 := prd_eq e469
   obtain ⟨n471, e472, h⟩ := bnd_some h
   have q473 := prd_eq e472
   have g474 := len_sl (P := PP) (cf := evF PP T n471) (fl := 0) (H := (hp12 a427)) (f := false) (c := c_GPoint) (l := a427.Via)
   have g531 : cleanQ false 0 4 [(.blk 10 [(c_GEdit a427)]), (.blk 1 [[(.fn 53 [])]]), (.blk 4 [[(iv (-1048576)), (iv (-1048576)), (iv 1048576), (iv 1048576)]]), (.blk 2 [[(iv a427.At.X), (iv a427.At.Y)]])] := trivial
   rcases bnd2_some h with ⟨v534, e532, h⟩ | ⟨v644, e532, h⟩
   rotate_left
   ·have g533 := f29_I86_L0_ok n471 a427 n471 0 _ e532
    have g645 : evF PP T n468 0 86 [(.sl false (List.map c_GPoint a427.Via)), (.fn 54 [(.ptr 2 1 0 0)])] (hp12 a427) = some ((iv (-1)), (hp12 a427)) := by
     rw [q473]; exact evF_z (F := F86) ⟨[(7, (iv ((a427.Via.length : Nat) : Int)), none)], []⟩ [((.exit 0), f29_I86_L0_E1 a427)] [] rfl (W2 g533 g531 <| Z g474 Z0) (by kernel_rfl)
    have g646 : evF PP T n 0 55 [(.sl false (List.map c_GPoint a427.Via)), (.fn 54 [(.ptr 2 1 0 0)])] (hp12 a427) = some (bf, (hp12 a427)) := by
     rw [q470]; exact evF_z (F := F55) ⟨[(7, (iv (-1)), none)], []⟩ [] [] rfl (Z g645 Z0) (by kernel_rfl)
    obtain ⟨n647, e648, h⟩ := bnd_some h
    have q649 := prd_eq e648
    obtain ⟨n650, e651, h⟩ := bnd_some h
    have q652 := prd_eq e651
    have g653 := len_sl (P := PP) (cf := evF PP T n650) (fl := 0) (H := (hp12 a427)) (f := false) (c := c_i64) (l := a427.Parts)
    have g710 : cleanQ false 0 4 [(.blk 10 [(c_GEdit a427)]), (.blk 1 [[(.fn 53 [])]]), (.blk 4 [[(iv (-1048576)), (iv (-1048576)), (iv 1048576), (iv 1048576)]]), (.blk 2 [[(iv a427.At.X), (iv a427.At.Y)]])] := trivial
    rcases bnd2_some h with ⟨v713, e711, h⟩ | ⟨v720, e711, h⟩
    rotate_left
    ·have g712 := f29_I87_L0_ok n650 a427 n650 0 _ e711
     have g721 : evF PP T n647 0 87 [(.sl false (List.map c_i64 a427.Parts)), (.fn 56 [(.ptr 1 1 0 0)])] (hp12 a427) = some ((iv (-1)), (hp12 a427)) := by
      rw [q652]; exact evF_z (F := F87) ⟨[(7, (iv ((a427.Parts.length : Nat) : Int)), none)], []⟩ [((.exit 0), f29_I87_L0_E1 a427)] [] rfl (W2 g712 g710 <| Z g653 Z0) (by kernel_rfl)
     have g722 : evF PP T n 0 57 [(.sl false (List.map c_i64 a427.Parts)), (.fn 56 [(.ptr 1 1 0 0)])] (hp12 a427) = some (bf, (hp12 a427)) := by
      rw [q649]; exact evF_z (F := F57) ⟨[(7, (iv (-1)), none)], []⟩ [] [] rfl (Z g721 Z0) (by kernel_rfl)
     obtain rfl := si h
     exact pv_z (F := F29) ⟨[tt 11, tt 15, tt 21, tt 45, ff 50, ff 55, (61, bf, (some (hp12 a427))), ff 67, ff 72], []⟩ [] [none, none] rfl (W8 g722 g646 g467 g459 g456 g453 g445 g437 <| Z g429 Z0) (by kernel_rfl)
    have g712 := f29_I87_L0_ok n650 a427 n650 0 _ e711
    have g714 : evF PP T n647 0 87 [(.sl false (List.map c_i64 a427.Parts)), (.fn 56 [(.ptr 1 1 0 0)])] (hp12 a427) = some ((iv v713), (hp12 a427)) := by
     rw [q652]; exact evF_z (F := F87) ⟨[(7, (iv ((a427.Parts.length : Nat) : Int)), none)], []⟩ [(.ret, f29_I87_L0_E0 a427 v713)] [] rfl (W2 g712 g710 <| Z g653 Z0) (by kernel_rfl)
    rcases cnd_or h with ⟨h715, h⟩ | ⟨h715, h⟩
    ·have g716 := bool_eq h715
     have g717 : evF PP T n 0 57 [(.sl false (List.map c_i64 a427.Parts)), (.fn 56 [(.ptr 1 1 0 0)])] (hp12 a427) = some (bt, (hp12 a427)) := by
      rw [q649]; exact evF_z (F := F57) ⟨[(7, (iv v713), none), tt 8], []⟩ [] [] rfl (W2 g716 g714 Z0) (by kernel_rfl)
     obtain rfl := si h
     exact pv_z (F := F29) ⟨[tt 11, tt 15, tt 21, tt 45, ff 50, ff 55, (61, bf, (some (hp12 a427))), ff 67, tt 72], []⟩ [] [none, none] rfl (W8 g717 g646 g467 g459 g456 g453 g445 g437 <| Z g429 Z0) (by kernel_rfl)
    have g718 := bool_eq h715
    have g719 : evF PP T n 0 57 [(.sl false (List.map c_i64 a427.Parts)), (.fn 56 [(.ptr 1 1 0 0)])] (hp12 a427) = some (bf, (hp12 a427)) := by
     rw [q649]; exact evF_z (F := F57) ⟨[(7, (iv v713), none), ff 8], []⟩ [] [] rfl (W2 g718 g714 Z0) (by kernel_rfl)
    obtain rfl := si h
    exact pv_z (F := F29) ⟨[tt 11, tt 15, tt 21, tt 45, ff 50, ff 55, (61, bf, (some (hp12 a427))), ff 67, ff 72], []⟩ [] [none, none] rfl (W8 g719 g646 g467 g459 g456 g453 g445 g437 <| Z g429 Z0) (by kernel_rfl)
   have g533 := f29_I86_L0_ok n471 a427 n471 0 _ e532
   have g535 : evF PP T n468 0 86 [(.sl false (List.map c_GPoint a427.Via)), (.fn 54 [(.ptr 2 1 0 0)])] (hp12 a427) = some ((iv v534), (hp12 a427)) := by
    rw [q473]; exact evF_z (F := F86) ⟨[(7, (iv ((a427.Via.length : Nat) : Int)), none)], []⟩ [(.ret, f29_I86_L0_E0 a427 v534)] [] rfl (W2 g533 g531 <| Z g474 Z0) (by kernel_rfl)
   rcases cnd_or h with ⟨h536, h⟩ | ⟨h536, h⟩
   ·have g537 := bool_eq h536
    have g538 : evF PP T n 0 55 [(.sl false (List.map c_GPoint a427.Via)), (.fn 54 [(.ptr 2 1 0 0)])] (hp12 a427) = some (bt, (hp12 a427)) := by
     rw [q470]; exact evF_z (F := F55) ⟨[(7, (iv v534), none), tt 8], []⟩ [] [] rfl (W2 g537 g535 Z0) (by kernel_rfl)
    obtain rfl := si h
    exact pv_z (F := F29) ⟨[tt 11, tt 15, tt 21, tt 45, ff 50, ff 55, (61, bf, (some (hp12 a427))), tt 67], []⟩ [] [none, none] rfl (W8 g538 g467 g459 g456 g453 g445 g437 g429 Z0) (by kernel_rfl)
   have g539 := bool_eq h536
   have g540 : evF PP T n 0 55 [(.sl false (List.map c_GPoint a427.Via)), (.fn 54 [(.ptr 2 1 0 0)])] (hp12 a427) = some (bf, (hp12 a427)) := by
    rw [q470]; exact evF_z (F := F55) ⟨[(7, (iv v534), none), ff 8], []⟩ [] [] rfl (W2 g539 g535 Z0) (by kernel_rfl)
   obtain ⟨n541, e542, h⟩ := bnd_some h
   have q543 := prd_eq e542
   obtain ⟨n544, e545, h⟩ := bnd_some h
   have q546 := prd_eq e545
   have g547 := len_sl (P := PP) (cf := evF PP T n544) (fl := 0) (H := (hp12 a427)) (f := false) (c := c_i64) (l := a427.Parts)
   have g631 : cleanQ false 0 4 [(.blk 10 [(c_GEdit a427)]), (.blk 1 [[(.fn 53 [])]]), (.blk 4 [[(iv (-1048576)), (iv (-1048576)), (iv 1048576), (iv 1048576)]]), (.blk 2 [[(iv a427.At.X), (iv a427.At.Y)]])] := trivial
   rcases bnd2_some h with ⟨v634, e632, h⟩ | ⟨v641, e632, h⟩
   rotate_left
   ·have g633 := f29_I87_L0_ok n544 a427 n544 0 _ e632
    have g642 : evF PP T n541 0 87 [(.sl false (List.map c_i64 a427.Parts)), (.fn 56 [(.ptr 1 1 0 0)])] (hp12 a427) = some ((iv (-1)), (hp12 a427)) := by
     rw [q546]; exact evF_z (F := F87) ⟨[(7, (iv ((a427.Parts.length : Nat) : Int)), none)], []⟩ [((.exit 0), f29_I87_L0_E1 a427)] [] rfl (W2 g633 g631 <| Z g547 Z0) (by kernel_rfl)
    have g643 : evF PP T n 0 57 [(.sl false (List.map c_i64 a427.Parts)), (.fn 56 [(.ptr 1 1 0 0)])] (hp12 a427) = some (bf, (hp12 a427)) := by
     rw [q543]; exact evF_z (F := F57) ⟨[(7, (iv (-1)), none)], []⟩ [] [] rfl (Z g642 Z0) (by kernel_rfl)
    obtain rfl := si h
    exact pv_z (F := F29) ⟨[tt 11, tt 15, tt 21, tt 45, ff 50, ff 55, (61, bf, (some (hp12 a427))), ff 67, ff 72], []⟩ [] [none, none] rfl (W8 g643 g540 g467 g459 g456 g453 g445 g437 <| Z g429 Z0) (by kernel_rfl)
   have g633 := f29_I87_L0_ok n544 a427 n544 0 _ e632
   have g635 : evF PP T n541 0 87 [(.sl false (List.map c_i64 a427.Parts)), (.fn 56 [(.ptr 1 1 0 0)])] (hp12 a427) = some ((iv v634), (hp12 a427)) := by
    rw [q546]; exact evF_z (F := F87) ⟨[(7, (iv ((a427.Parts.length : Nat) : Int)), none)], []⟩ [(.ret, f29_I87_L0_E0 a427 v634)] [] rfl (W2 g633 g631 <| Z g547 Z0) (by kernel_rfl)
   rcases cnd_or h with ⟨h636, h⟩ | ⟨h636, h⟩
   ·have g637 := bool_eq h636
    have g638 : evF PP T n 0 57 [(.sl false (List.map c_i64 a427.Parts)), (.fn 56 [(.ptr 1 1 0 0)])] (hp12 a427) = some (bt, (hp12 a427)) := by
     rw [q543]; exact evF_z (F := F57) ⟨[(7, (iv v634), none), tt 8], []⟩ [] [] rfl (W2 g637 g635 Z0) (by kernel_rfl)
    obtain rfl := si h
    exact pv_z (F := F29) ⟨[tt 11, tt 15, tt 21, tt 45, ff 50, ff 55, (61, bf, (some (hp12 a427))), ff 67, tt 72], []⟩ [] [none, none] rfl (W8 g638 g540 g467 g459 g456 g453 g445 g437 <| Z g429 Z0) (by kernel_rfl)
   have g639 := bool_eq h636
   have g640 : evF PP T n 0 57 [(.sl false (List.map c_i64 a427.Parts)), (.fn 56 [(.ptr 1 1 0 0)])] (hp12 a427) = some (bf, (hp12 a427)) := by
    rw [q543]; exact evF_z (F := F57) ⟨[(7, (iv v634), none), ff 8], []⟩ [] [] rfl (W2 g639 g635 Z0) (by kernel_rfl)
   obtain rfl := si h
   exact pv_z (F := F29) ⟨[tt 11, tt 15, tt 21, tt 45, ff 50, ff 55, (61, bf, (some (hp12 a427))), ff 67, ff 72], []⟩ [] [none, none] rfl (W8 g640 g540 g467 g459 g456 g453 g445 g437 <| Z g429 Z0) (by kernel_rfl)
  have g737 := bool_eq h428
  rcases cnd_or h with ⟨h738, h⟩ | ⟨h738, h⟩
  ·have g739 := bool_eq h738
   obtain ⟨n740, e741, h⟩ := bnd_some h
   have q742 := prd_eq e741
   rcases cnd_or h with ⟨h743, h⟩ | ⟨h743, h⟩
   rotate_left
   ·have g988 := bool_eq h743
    have g989 : evF PP T n 0 53 [(iv a427.A)] (hp11 a427) = some (bf, (hp11 a427)) := by
     rw [q742]; exact evF_z (F := F53) ⟨[ff 4], []⟩ [] [] rfl (Z g988 Z0) (by kernel_rfl)
    obtain rfl := si h
    exact pv_z (F := F29) ⟨[ff 11, tt 25, ff 29], []⟩ [] [none, none] rfl (W2 g989 g739 <| Z g737 Z0) (by kernel_rfl)
   have g744 := bool_eq h743
   rcases cnd_or h with ⟨h745, h⟩ | ⟨h745, h⟩
   rotate_left
   ·have g986 := bool_eq h745
    have g987 : evF PP T n 0 53 [(iv a427.A)] (hp11 a427) = some (bf, (hp11 a427)) := by
     rw [q742]; exact evF_z (F := F53) ⟨[tt 4, ff 7], []⟩ [] [] rfl (W2 g986 g744 Z0) (by kernel_rfl)
    obtain rfl := si h
    exact pv_z (F := F29) ⟨[ff 11, tt 25, ff 29], []⟩ [] [none, none] rfl (W2 g987 g739 <| Z g737 Z0) (by kernel_rfl)
   have g746 := bool_eq h745
   have g747 : evF PP T n 0 53 [(iv a427.A)] (hp11 a427) = some (bt, (hp11 a427)) := by
    rw [q742]; exact evF_z (F := F53) ⟨[tt 4, tt 7], []⟩ [] [] rfl (W2 g746 g744 Z0) (by kernel_rfl)
   obtain ⟨n748, e749, h⟩ := bnd_some h
   have q750 := prd_eq e749
   rcases cnd_or h with ⟨h751, h⟩ | ⟨h751, h⟩
   rotate_left
   ·have g984 := bool_eq h751
    have g985 : evF PP T n 0 53 [(iv a427.ID)] (hp11 a427) = some (bf, (hp11 a427)) := by
     rw [q750]; exact evF_z (F := F53) ⟨[ff 4], []⟩ [] [] rfl (Z g984 Z0) (by kernel_rfl)
    obtain rfl := si h
    exact pv_z (F := F29) ⟨[ff 11, tt 25, tt 29, ff 45], []⟩ [] [none, none] rfl (W4 g985 g747 g739 g737 Z0) (by kernel_rfl)
   have g752 := bool_eq h751
   rcases cnd_or h with ⟨h753, h⟩ | ⟨h753, h⟩
   rotate_left
   ·have g982 := bool_eq h753
    have g983 : evF PP T n 0 53 [(iv a427.ID)] (hp11 a427) = some (bf, (hp11 a427)) := by
     rw [q750]; exact evF_z (F := F53) ⟨[tt 4, ff 7], []⟩ [] [] rfl (W2 g982 g752 Z0) (by kernel_rfl)
    obtain rfl := si h
    exact pv_z (F := F29) ⟨[ff 11, tt 25, tt 29, ff 45], []⟩ [] [none, none] rfl (W4 g983 g747 g739 g737 Z0) (by kernel_rfl)
   have g754 := bool_eq h753
   have g755 : evF PP T n 0 53 [(iv a427.ID)] (hp11 a427) = some (bt, (hp11 a427)) := by
    rw [q750]; exact evF_z (F := F53) ⟨[tt 4, tt 7], []⟩ [] [] rfl (W2 g754 g752 Z0) (by kernel_rfl)
   rcases cnd_or h with ⟨h756, h⟩ | ⟨h756, h⟩
   ·have g757 := bool_eq h756
    obtain rfl := si h
    exact pv_z (F := F29) ⟨[ff 11, tt 25, tt 29, tt 45, tt 50], []⟩ [] [none, none] rfl (W4 g757 g755 g747 g739 <| Z g737 Z0) (by kernel_rfl)
   have g758 := bool_eq h756
   rcases cnd_or h with ⟨h759, h⟩ | ⟨h759, h⟩
   ·have g760 := bool_eq h759
    obtain rfl := si h
    exact pv_z (F := F29) ⟨[ff 11, tt 25, tt 29, tt 45, ff 50, tt 55], []⟩ [] [none, none] rfl (W4 g760 g758 g755 g747 <| W2 g739 g737 Z0) (by kernel_rfl)
   have g761 := bool_eq h759
   obtain ⟨n762, e763, h⟩ := bnd_some h
   have q764 := prd_eq e763
   obtain ⟨v765, e766, h⟩ := bnd_some h
   rcases cnd_or h with ⟨h767, h⟩ | ⟨h767, h⟩
   rotate_left
   ·have g980 := by have q := f85_ok n762 (GBox.mk (-1048576) (-1048576) 1048576 1048576) a427.At _ e766; rw [h767] at q; exact q
    have g981 : evF PP T n 0 54 [(.agg [(iv a427.At.X), (iv a427.At.Y)]), (.ptr 2 1 0 0)] (hp11 a427) = some (bt, (hp12 a427)) := by
     rw [q764]; exact evF_z (F := F54) ⟨[ff 6], []⟩ [] [] rfl (Z g980 Z0) (by kernel_rfl)
    obtain rfl := si h
    exact pv_z (F := F29) ⟨[ff 11, tt 25, tt 29, tt 45, ff 50, ff 55, (61, bt, (some (hp12 a427)))], []⟩ [] [none, none] rfl (W4 g981 g761 g758 g755 <| W2 g747 g739 <| Z g737 Z0) (by kernel_rfl)
   have g768 := by have q := f85_ok n762 (GBox.mk (-1048576) (-1048576) 1048576 1048576) a427.At _ e766; rw [h767] at q; exact q
   have g769 : evF PP T n 0 54 [(.agg [(iv a427.At.X), (iv a427.At.Y)]), (.ptr 2 1 0 0)] (hp11 a427) = some (bf, (hp12 a427)) := by
    rw [q764]; exact evF_z (F := F54) ⟨[tt 6], []⟩ [] [] rfl (Z g768 Z0) (by kernel_rfl)
   obtain ⟨n770, e771, h⟩ := bnd_some h
   have q772 := prd_eq e771
   obtain ⟨n773, e774, h⟩ := bnd_some h
   have q775 := prd_eq e774
   have g776 := len_sl (P := PP) (cf := evF PP T n773) (fl := 0) (H := (hp12 a427)) (f := false) (c := c_GPoint) (l := a427.Via)
   have g815 : cleanQ false 0 4 [(.blk 10 [(c_GEdit a427)]), (.blk 1 [[(.fn 53 [])]]), (.blk 4 [[(iv (-1048576)), (iv (-1048576)), (iv 1048576), (iv 1048576)]]), (.blk 2 [[(iv a427.At.X), (iv a427.At.Y)]])] := trivial
   rcases bnd2_some h with ⟨v818, e816, h⟩ | ⟨v901, e816, h⟩
   rotate_left
   ·have g817 := f29_I86_L0_ok n773 a427 n773 0 _ e816
    have g902 : evF PP T n770 0 86 [(.sl false (List.map c_GPoint a427.Via)), (.fn 54 [(.ptr 2 1 0 0)])] (hp12 a427) = some ((iv (-1)), (hp12 a427)) := by
     rw [q775]; exact evF_z (F := F86) ⟨[(7, (iv ((a427.Via.length : Nat) : Int)), none)], []⟩ [((.exit 0), f29_I86_L0_E1 a427)] [] rfl (W2 g817 g815 <| Z g776 Z0) (by kernel_rfl)
    have g903 : evF PP T n 0 55 [(.sl false (List.map c_GPoint a427.Via)), (.fn 54 [(.ptr 2 1 0 0)])] (hp12 a427) = some (bf, (hp12 a427)) := by
     rw [q772]; exact evF_z (F := F55) ⟨[(7, (iv (-1)), none)], []⟩ [] [] rfl (Z g902 Z0) (by kernel_rfl)
    obtain ⟨n904, e905, h⟩ := bnd_some h
    have q906 := prd_eq e905
    obtain ⟨n907, e908, h⟩ := bnd_some h
    have q909 := prd_eq e908
    have g910 := len_sl (P := PP) (cf := evF PP T n907) (fl := 0) (H := (hp12 a427)) (f := false) (c := c_i64) (l := a427.Parts)
    have g967 : cleanQ false 0 4 [(.blk 10 [(c_GEdit a427)]), (.blk 1 [[(.fn 53 [])]]), (.blk 4 [[(iv (-1048576)), (iv (-1048576)), (iv 1048576), (iv 1048576)]]), (.blk 2 [[(iv a427.At.X), (iv a427.At.Y)]])] := trivial
    rcases bnd2_some h with ⟨v970, e968, h⟩ | ⟨v977, e968, h⟩
    rotate_left
    ·have g969 := f29_I87_L0_ok n907 a427 n907 0 _ e968
     have g978 : evF PP T n904 0 87 [(.sl false (List.map c_i64 a427.Parts)), (.fn 56 [(.ptr 1 1 0 0)])] (hp12 a427) = some ((iv (-1)), (hp12 a427)) := by
      rw [q909]; exact evF_z (F := F87) ⟨[(7, (iv ((a427.Parts.length : Nat) : Int)), none)], []⟩ [((.exit 0), f29_I87_L0_E1 a427)] [] rfl (W2 g969 g967 <| Z g910 Z0) (by kernel_rfl)
     have g979 : evF PP T n 0 57 [(.sl false (List.map c_i64 a427.Parts)), (.fn 56 [(.ptr 1 1 0 0)])] (hp12 a427) = some (bf, (hp12 a427)) := by
      rw [q906]; exact evF_z (F := F57) ⟨[(7, (iv (-1)), none)], []⟩ [] [] rfl (Z g978 Z0) (by kernel_rfl)
     obtain rfl := si h
     exact pv_z (F := F29) ⟨[ff 11, tt 25, tt 29, tt 45, ff 50, ff 55, (61, bf, (some (hp12 a427))), ff 67, ff 72], []⟩ [] [none, none] rfl (W8 g979 g903 g769 g761 g758 g755 g747 g739 <| Z g737 Z0) (by kernel_rfl)
    have g969 := f29_I87_L0_ok n907 a427 n907 0 _ e968
    have g971 : evF PP T n904 0 87 [(.sl false (List.map c_i64 a427.Parts)), (.fn 56 [(.ptr 1 1 0 0)])] (hp12 a427) = some ((iv v970), (hp12 a427)) := by
     rw [q909]; exact evF_z (F := F87) ⟨[(7, (iv ((a427.Parts.length : Nat) : Int)), none)], []⟩ [(.ret, f29_I87_L0_E0 a427 v970)] [] rfl (W2 g969 g967 <| Z g910 Z0) (by kernel_rfl)
    rcases cnd_or h with ⟨h972, h⟩ | ⟨h972, h⟩
    ·have g973 := bool_eq h972
     have g974 : evF PP T n 0 57 [(.sl false (List.map c_i64 a427.Parts)), (.fn 56 [(.ptr 1 1 0 0)])] (hp12 a427) = some (bt, (hp12 a427)) := by
      rw [q906]; exact evF_z (F := F57) ⟨[(7, (iv v970), none), tt 8], []⟩ [] [] rfl (W2 g973 g971 Z0) (by kernel_rfl)
     obtain rfl := si h
     exact pv_z (F := F29) ⟨[ff 11, tt 25, tt 29, tt 45, ff 50, ff 55, (61, bf, (some (hp12 a427))), ff 67, tt 72], []⟩ [] [none, none] rfl (W8 g974 g903 g769 g761 g758 g755 g747 g739 <| Z g737 Z0) (by kernel_rfl)
    have g975 := bool_eq h972
    have g976 : evF PP T n 0 57 [(.sl false (List.map c_i64 a427.Parts)), (.fn 56 [(.ptr 1 1 0 0)])] (hp12 a427) = some (bf, (hp12 a427)) := by
     rw [q906]; exact evF_z (F := F57) ⟨[(7, (iv v970), none), ff 8], []⟩ [] [] rfl (W2 g975 g971 Z0) (by kernel_rfl)
    obtain rfl := si h
    exact pv_z (F := F29) ⟨[ff 11, tt 25, tt 29, tt 45, ff 50, ff 55, (61, bf, (some (hp12 a427))), ff 67, ff 72], []⟩ [] [none, none] rfl (W8 g976 g903 g769 g761 g758 g755 g747 g739 <| Z g737 Z0) (by kernel_rfl)
   have g817 := f29_I86_L0_ok n773 a427 n773 0 _ e816
   have g819 : evF PP T n770 0 86 [(.sl false (List.map c_GPoint a427.Via)), (.fn 54 [(.ptr 2 1 0 0)])] (hp12 a427) = some ((iv v818), (hp12 a427)) := by
    rw [q775]; exact evF_z (F := F86) ⟨[(7, (iv ((a427.Via.length : Nat) : Int)), none)], []⟩ [(.ret, f29_I86_L0_E0 a427 v818)] [] rfl (W2 g817 g815 <| Z g776 Z0) (by kernel_rfl)
   rcases cnd_or h with ⟨h820, h⟩ | ⟨h820, h⟩
   ·have g821 := bool_eq h820
    have g822 : evF PP T n 0 55 [(.sl false (List.map c_GPoint a427.Via)), (.fn 54 [(.ptr 2 1 0 0)])] (hp12 a427) = some (bt, (hp12 a427)) := by
     rw [q772]; exact evF_z (F := F55) ⟨[(7, (iv v818), none), tt 8], []⟩ [] [] rfl (W2 g821 g819 Z0) (by kernel_rfl)
    obtain rfl := si h
    exact pv_z (F := F29) ⟨[ff 11, tt 25, tt 29, tt 45, ff 50, ff 55, (61, bf, (some (hp12 a427))), tt 67], []⟩ [] [none, none] rfl (W8 g822 g769 g761 g758 g755 g747 g739 g737 Z0) (by kernel_rfl)
   have g823 := bool_eq h820
   have g824 : evF PP T n 0 55 [(.sl false (List.map c_GPoint a427.Via)), (.fn 54 [(.ptr 2 1 0 0)])] (hp12 a427) = some (bf, (hp12 a427)) := by
    rw [q772]; exact evF_z (F := F55) ⟨[(7, (iv v818), none), ff 8], []⟩ [] [] rfl (W2 g823 g819 Z0) (by kernel_rfl)
   obtain ⟨n825, e826, h⟩ := bnd_some h
   have q827 := prd_eq e826
   obtain ⟨n828, e829, h⟩ := bnd_some h
   have q830 := prd_eq e829
   have g831 := len_sl (P := PP) (cf := evF PP T n828) (fl := 0) (H := (hp12 a427)) (f := false) (c := c_i64) (l := a427.Parts)
   have g888 : cleanQ false 0 4 [(.blk 10 [(c_GEdit a427)]), (.blk 1 [[(.fn 53 [])]]), (.blk 4 [[(iv (-1048576)), (iv (-1048576)), (iv 1048576), (iv 1048576)]]), (.blk 2 [[(iv a427.At.X), (iv a427.At.Y)]])] := trivial
   rcases bnd2_some h with ⟨v891, e889, h⟩ | ⟨v898, e889, h⟩
   rotate_left
   ·have g890 := f29_I87_L0_ok n828 a427 n828 0 _ e889
    have g899 : evF PP T n825 0 87 [(.sl false (List.map c_i64 a427.Parts)), (.fn 56 [(.ptr 1 1 0 0)])] (hp12 a427) = some ((iv (-1)), (hp12 a427)) := by
     rw [q830]; exact evF_z (F := F87) ⟨[(7, (iv ((a427.Parts.length : Nat) : Int)), none)], []⟩ [((.exit 0), f29_I87_L0_E1 a427)] [] rfl (W2 g890 g888 <| Z g831 Z0) (by kernel_rfl)
    have g900 : evF PP T n 0 57 [(.sl false (List.map c_i64 a427.Parts)), (.fn 56 [(.ptr 1 1 0 0)])] (hp12 a427) = some (bf, (hp12 a427)) := by
     rw [q827]; exact evF_z (F := F57) ⟨[(7, (iv (-1)), none)], []⟩ [] [] rfl (Z g899 Z0) (by kernel_rfl)
    obtain rfl := si h
    exact pv_z (F := F29) ⟨[ff 11, tt 25, tt 29, tt 45, ff 50, ff 55, (61, bf, (some (hp12 a427))), ff 67, ff 72], []⟩ [] [none, none] rfl (W8 g900 g824 g769 g761 g758 g755 g747 g739 <| Z g737 Z0) (by kernel_rfl)
   have g890 := f29_I87_L0_ok n828 a427 n828 0 _ e889
   have g892 : evF PP T n825 0 87 [(.sl false (List.map c_i64 a427.Parts)), (.fn 56 [(.ptr 1 1 0 0)])] (hp12 a427) = some ((iv v891), (hp12 a427)) := by
    rw [q830]; exact evF_z (F := F87) ⟨[(7, (iv ((a427.Parts.length : Nat) : Int)), none)], []⟩ [(.ret, f29_I87_L0_E0 a427 v891)] [] rfl (W2 g890 g888 <| Z g831 Z0) (by kernel_rfl)
   rcases cnd_or h with ⟨h893, h⟩ | ⟨h893, h⟩
   ·have g894 := bool_eq h893
    have g895 : evF PP T n 0 57 [(.sl false (List.map c_i64 a427.Parts)), (.fn 56 [(.ptr 1 1 0 0)])] (hp12 a427) = some (bt, (hp12 a427)) := by
     rw [q827]; exact evF_z (F := F57) ⟨[(7, (iv v891), none), tt 8], []⟩ [] [] rfl (W2 g894 g892 Z0) (by kernel_rfl)
    obtain rfl := si h
    exact pv_z (F := F29) ⟨[ff 11, tt 25, tt 29, tt 45, ff 50, ff 55, (61, bf, (some (hp12 a427))), ff 67, tt 72], []⟩ [] [none, none] rfl (W8 g895 g824 g769 g761 g758 g755 g747 g739 <| Z g737 Z0) (by kernel_rfl)
   have g896 := bool_eq h893
   have g897 : evF PP T n 0 57 [(.sl false (List.map c_i64 a427.Parts)), (.fn 56 [(.ptr 1 1 0 0)])] (hp12 a427) = some (bf, (hp12 a427)) := by
    rw [q827]; exact evF_z (F := F57) ⟨[(7, (iv v891), none), ff 8], []⟩ [] [] rfl (W2 g896 g892 Z0) (by kernel_rfl)
   obtain rfl := si h
   exact pv_z (F := F29) ⟨[ff 11, tt 25, tt 29, tt 45, ff 50, ff 55, (61, bf, (some (hp12 a427))), ff 67, ff 72], []⟩ [] [none, none] rfl (W8 g897 g824 g769 g761 g758 g755 g747 g739 <| Z g737 Z0) (by kernel_rfl)
  have g990 := bool_eq h738
  rcases cnd_or h with ⟨h991, h⟩ | ⟨h991, h⟩
  ·have g992 := bool_eq h991
   rcases cnd_or h with ⟨h993, h⟩ | ⟨h993, h⟩
   ·have g994 := bool_eq h993
    obtain rfl := si h
    exact pv_z (F := F29) ⟨[ff 11, ff 25, tt 32, tt 36], []⟩ [] [none, none] rfl (W4 g994 g992 g990 g737 Z0) (by kernel_rfl)
   have g995 := bool_eq h993
   rcases cnd_or h with ⟨h996, h⟩ | ⟨h996, h⟩
   ·have g997 := bool_eq h996
    obtain rfl := si h
    exact pv_z (F := F29) ⟨[ff 11, ff 25, tt 32, ff 36, tt 40], []⟩ [] [none, none] rfl (W4 g997 g995 g992 g990 <| Z g737 Z0) (by kernel_rfl)
   have g998 := bool_eq h996
   obtain ⟨n999, e1000, h⟩ := bnd_some h
   have q1001 := prd_eq e1000
   rcases cnd_or h with ⟨h1002, h⟩ | ⟨h1002, h⟩
   rotate_left
   ·have g1235 := bool_eq h1002
    have g1236 : evF PP T n 0 53 [(iv a427.ID)] (hp11 a427) = some (bf, (hp11 a427)) := by
     rw [q1001]; exact evF_z (F := F53) ⟨[ff 4], []⟩ [] [] rfl (Z g1235 Z0) (by kernel_rfl)
    obtain rfl := si h
    exact pv_z (F := F29) ⟨[ff 11, ff 25, tt 32, ff 36, ff 40, ff 45], []⟩ [] [none, none] rfl (W4 g1236 g998 g995 g992 <| W2 g990 g737 Z0) (by kernel_rfl)
   have g1003 := bool_eq h1002
   rcases cnd_or h with ⟨h1004, h⟩ | ⟨h1004, h⟩
   rotate_left
   ·have g1233 := bool_eq h1004
    have g1234 : evF PP T n 0 53 [(iv a427.ID)] (hp11 a427) = some (bf, (hp11 a427)) := by
     rw [q1001]; exact evF_z (F := F53) ⟨[tt 4, ff 7], []⟩ [] [] rfl (W2 g1233 g1003 Z0) (by kernel_rfl)
    obtain rfl := si h
    exact pv_z (F := F29) ⟨[ff 11, ff 25, tt 32, ff 36, ff 40, ff 45], []⟩ [] [none, none] rfl (W4 g1234 g998 g995 g992 <| W2 g990 g737 Z0) (by kernel_rfl)
   have g1005 := bool_eq h1004
   have g1006 : evF PP T n 0 53 [(iv a427.ID)] (hp11 a427) = some (bt, (hp11 a427)) := by
    rw [q1001]; exact evF_z (F := F53) ⟨[tt 4, tt 7], []⟩ [] [] rfl (W2 g1005 g1003 Z0) (by kernel_rfl)
   rcases cnd_or h with ⟨h1007, h⟩ | ⟨h1007, h⟩
   ·have g1008 := bool_eq h1007
    obtain rfl := si h
    exact pv_z (F := F29) ⟨[ff 11, ff 25, tt 32, ff 36, ff 40, tt 45, tt 50], []⟩ [] [none, none] rfl (W4 g1008 g1006 g998 g995 <| W2 g992 g990 <| Z g737 Z0) (by kernel_rfl)
   have g1009 := bool_eq h1007
   rcases cnd_or h with ⟨h1010, h⟩ | ⟨h1010, h⟩
   ·have g1011 := bool_eq h1010
    obtain rfl := si h
    exact pv_z (F := F29) ⟨[ff 11, ff 25, tt 32, ff 36, ff 40, tt 45, ff 50, tt 55], []⟩ [] [none, none] rfl (W8 g1011 g1009 g1006 g998 g995 g992 g990 g737 Z0) (by kernel_rfl)
   have g1012 := bool_eq h1010
   obtain ⟨n1013, e1014, h⟩ := bnd_some h
   have q1015 := prd_eq e1014
   obtain ⟨v1016, e1017, h⟩ := bnd_some h
   rcases cnd_or h with ⟨h1018, h⟩ | ⟨h1018, h⟩
   rotate_left
   ·have g1231 := by have q := f85_ok n1013 (GBox.mk (-1048576) (-1048576) 1048576 1048576) a427.At _ e1017; rw [h1018] at q; exact q
    have g1232 : evF PP T n 0 54 [(.agg [(iv a427.At.X), (iv a427.At.Y)]), (.ptr 2 1 0 0)] (hp11 a427) = some (bt, (hp12 a427)) := by
     rw [q1015]; exact evF_z (F := F54) ⟨[ff 6], []⟩ [] [] rfl (Z g1231 Z0) (by kernel_rfl)
    obtain rfl := si h
    exact pv_z (F := F29) ⟨[ff 11, ff 25, tt 32, ff 36, ff 40, tt 45, ff 50, ff 55, (61, bt, (some (hp12 a427)))], []⟩ [] [none, none] rfl (W8 g1232 g1012 g1009 g1006 g998 g995 g992 g990 <| Z g737 Z0) (by kernel_rfl)
   have g1019 := by have q := f85_ok n1013 (GBox.mk (-1048576) (-1048576) 1048576 1048576) a427.At _ e1017; rw [h1018] at q; exact q
   have g1020 : evF PP T n 0 54 [(.agg [(iv a427.At.X), (iv a427.At.Y)]), (.ptr 2 1 0 0)] (hp11 a427) = some (bf, (hp12 a427)) := by
    rw [q1015]; exact evF_z (F := F54) ⟨[tt 6], []⟩ [] [] rfl (Z g1019 Z0) (by kernel_rfl)
   obtain ⟨n1021, e1022, h⟩ := bnd_some h
   have q1023 := prd_eq e1022
   obtain ⟨n1024, e1025, h⟩ := bnd_some h
   have q1026 := prd_eq e1025
   have g1027 := len_sl (P := PP) (cf := evF PP T n1024) (fl := 0) (H := (hp12 a427)) (f := false) (c := c_GPoint) (l := a427.Via)
   have g1066 : cleanQ false 0 4 [(.blk 10 [(c_GEdit a427)]), (.blk 1 [[(.fn 53 [])]]), (.blk 4 [[(iv (-1048576)), (iv (-1048576)), (iv 1048576), (iv 1048576)]]), (.blk 2 [[(iv a427.At.X), (iv a427.At.Y)]])] := trivial
   rcases bnd2_some h with ⟨v1069, e1067, h⟩ | ⟨v1152, e1067, h⟩
   rotate_left
   ·have g1068 := f29_I86_L0_ok n1024 a427 n1024 0 _ e1067
    have g1153 : evF PP T n1021 0 86 [(.sl false (List.map c_GPoint a427.Via)), (.fn 54 [(.ptr 2 1 0 0)])] (hp12 a427) = some ((iv (-1)), (hp12 a427)) := by
     rw [q1026]; exact evF_z (F := F86) ⟨[(7, (iv ((a427.Via.length : Nat) : Int)), none)], []⟩ [((.exit 0), f29_I86_L0_E1 a427)] [] rfl (W2 g1068 g1066 <| Z g1027 Z0) (by kernel_rfl)
    have g1154 : evF PP T n 0 55 [(.sl false (List.map c_GPoint a427.Via)), (.fn 54 [(.ptr 2 1 0 0)])] (hp12 a427) = some (bf, (hp12 a427)) := by
     rw [q1023]; exact evF_z (F := F55) ⟨[(7, (iv (-1)), none)], []⟩ [] [] rfl (Z g1153 Z0) (by kernel_rfl)
    obtain ⟨n1155, e1156, h⟩ := bnd_some h
    have q1157 := prd_eq e1156
    obtain ⟨n1158, e1159, h⟩ := bnd_some h
    have q1160 := prd_eq e1159
    have g1161 := len_sl (P := PP) (cf := evF PP T n1158) (fl := 0) (H := (hp12 a427)) (f := false) (c := c_i64) (l := a427.Parts)
    have g1218 : cleanQ false 0 4 [(.blk 10 [(c_GEdit a427)]), (.blk 1 [[(.fn 53 [])]]), (.blk 4 [[(iv (-1048576)), (iv (-1048576)), (iv 1048576), (iv 1048576)]]), (.blk 2 [[(iv a427.At.X), (iv a427.At.Y)]])] := trivial
    rcases bnd2_some h with ⟨v1221, e1219, h⟩ | ⟨v1228, e1219, h⟩
    rotate_left
    ·have g1220 := f29_I87_L0_ok n1158 a427 n1158 0 _ e1219
     have g1229 : evF PP T n1155 0 87 [(.sl false (List.map c_i64 a427.Parts)), (.fn 56 [(.ptr 1 1 0 0)])] (hp12 a427) = some ((iv (-1)), (hp12 a427)) := by
      rw [q1160]; exact evF_z (F := F87) ⟨[(7, (iv ((a427.Parts.length : Nat) : Int)), none)], []⟩ [((.exit 0), f29_I87_L0_E1 a427)] [] rfl (W2 g1220 g1218 <| Z g1161 Z0) (by kernel_rfl)
     have g1230 : evF PP T n 0 57 [(.sl false (List.map c_i64 a427.Parts)), (.fn 56 [(.ptr 1 1 0 0)])] (hp12 a427) = some (bf, (hp12 a427)) := by
      rw [q1157]; exact evF_z (F := F57) ⟨[(7, (iv (-1)), none)], []⟩ [] [] rfl (Z g1229 Z0) (by kernel_rfl)
     obtain rfl := si h
     exact pv_z (F := F29) ⟨[ff 11, ff 25, tt 32, ff 36, ff 40, tt 45, ff 50, ff 55, (61, bf, (some (hp12 a427))), ff 67, ff 72], []⟩ [] [none, none] rfl (W8 g1230 g1154 g1020 g1012 g1009 g1006 g998 g995 <| W2 g992 g990 <| Z g737 Z0) (by kernel_rfl)
    have g1220 := f29_I87_L0_ok n1158 a427 n1158 0 _ e1219
    have g1222 : evF PP T n1155 0 87 [(.sl false (List.map c_i64 a427.Parts)), (.fn 56 [(.ptr 1 1 0 0)])] (hp12 a427) = some ((iv v1221), (hp12 a427)) := by
     rw [q1160]; exact evF_z (F := F87) ⟨[(7, (iv ((a427.Parts.length : Nat) : Int)), none)], []⟩ [(.ret, f29_I87_L0_E0 a427 v1221)] [] rfl (W2 g1220 g1218 <| Z g1161 Z0) (by kernel_rfl)
    rcases cnd_or h with ⟨h1223, h⟩ | ⟨h1223, h⟩
    ·have g1224 := bool_eq h1223
     have g1225 : evF PP T n 0 57 [(.sl false (List.map c_i64 a427.Parts)), (.fn 56 [(.ptr 1 1 0 0)])] (hp12 a427) = some (bt, (hp12 a427)) := by
      rw [q1157]; exact evF_z (F := F57) ⟨[(7, (iv v1221), none), tt 8], []⟩ [] [] rfl (W2 g1224 g1222 Z0) (by kernel_rfl)
     obtain rfl := si h
     exact pv_z (F := F29) ⟨[ff 11, ff 25, tt 32, ff 36, ff 40, tt 45, ff 50, ff 55, (61, bf, (some (hp12 a427))), ff 67, tt 72], []⟩ [] [none, none] rfl (W8 g1225 g1154 g1020 g1012 g1009 g1006 g998 g995 <| W2 g992 g990 <| Z g737 Z0) (by kernel_rfl)
    have g1226 := bool_eq h1223
    have g1227 : evF PP T n 0 57 [(.sl false (List.map c_i64 a427.Parts)), (.fn 56 [(.ptr 1 1 0 0)])] (hp12 a427) = some (bf, (hp12 a427)) := by
     rw [q1157]; exact evF_z (F := F57) ⟨[(7, (iv v1221), none), ff 8], []⟩ [] [] rfl (W2 g1226 g1222 Z0) (by kernel_rfl)
    obtain rfl := si h
    exact pv_z (F := F29) ⟨[ff 11, ff 25, tt 32, ff 36, ff 40, tt 45, ff 50, ff 55, (61, bf, (some (hp12 a427))), ff 67, ff 72], []⟩ [] [none, none] rfl (W8 g1227 g1154 g1020 g1012 g1009 g1006 g998 g995 <| W2 g992 g990 <| Z g737 Z0) (by kernel_rfl)
   have g1068 := f29_I86_L0_ok n1024 a427 n1024 0 _ e1067
   have g1070 : evF PP T n1021 0 86 [(.sl false (List.map c_GPoint a427.Via)), (.fn 54 [(.ptr 2 1 0 0)])] (hp12 a427) = some ((iv v1069), (hp12 a427)) := by
    rw [q1026]; exact evF_z (F := F86) ⟨[(7, (iv ((a427.Via.length : Nat) : Int)), none)], []⟩ [(.ret, f29_I86_L0_E0 a427 v1069)] [] rfl (W2 g1068 g1066 <| Z g1027 Z0) (by kernel_rfl)
   rcases cnd_or h with ⟨h1071, h⟩ | ⟨h1071, h⟩
   ·have g1072 := bool_eq h1071
    have g1073 : evF PP T n 0 55 [(.sl false (List.map c_GPoint a427.Via)), (.fn 54 [(.ptr 2 1 0 0)])] (hp12 a427) = some (bt, (hp12 a427)) := by
     rw [q1023]; exact evF_z (F := F55) ⟨[(7, (iv v1069), none), tt 8], []⟩ [] [] rfl (W2 g1072 g1070 Z0) (by kernel_rfl)
    obtain rfl := si h
    exact pv_z (F := F29) ⟨[ff 11, ff 25, tt 32, ff 36, ff 40, tt 45, ff 50, ff 55, (61, bf, (some (hp12 a427))), tt 67], []⟩ [] [none, none] rfl (W8 g1073 g1020 g1012 g1009 g1006 g998 g995 g992 <| W2 g990 g737 Z0) (by kernel_rfl)
   have g1074 := bool_eq h1071
   have g1075 : evF PP T n 0 55 [(.sl false (List.map c_GPoint a427.Via)), (.fn 54 [(.ptr 2 1 0 0)])] (hp12 a427) = some (bf, (hp12 a427)) := by
    rw [q1023]; exact evF_z (F := F55) ⟨[(7, (iv v1069), none), ff 8], []⟩ [] [] rfl (W2 g1074 g1070 Z0) (by kernel_rfl)
   obtain ⟨n1076, e1077, h⟩ := bnd_some h
   have q1078 := prd_eq e1077
   obtain ⟨n1079, e1080, h⟩ := bnd_some h
   have q1081 := prd_eq e1080
   have g1082 := len_sl (P := PP) (cf := evF PP T n1079) (fl := 0) (H := (hp12 a427)) (f := false) (c := c_i64) (l := a427.Parts)
   have g1139 : cleanQ false 0 4 [(.blk 10 [(c_GEdit a427)]), (.blk 1 [[(.fn 53 [])]]), (.blk 4 [[(iv (-1048576)), (iv (-1048576)), (iv 1048576), (iv 1048576)]]), (.blk 2 [[(iv a427.At.X), (iv a427.At.Y)]])] := trivial
   rcases bnd2_some h with ⟨v1142, e1140, h⟩ | ⟨v1149, e1140, h⟩
   rotate_left
   ·have g1141 := f29_I87_L0_ok n1079 a427 n1079 0 _ e1140
    have g1150 : evF PP T n1076 0 87 [(.sl false (List.map c_i64 a427.Parts)), (.fn 56 [(.ptr 1 1 0 0)])] (hp12 a427) = some ((iv (-1)), (hp12 a427)) := by
     rw [q1081]; exact evF_z (F := F87) ⟨[(7, (iv ((a427.Parts.length : Nat) : Int)), none)], []⟩ [((.exit 0), f29_I87_L0_E1 a427)] [] rfl (W2 g1141 g1139 <| Z g1082 Z0) (by kernel_rfl)
    have g1151 : evF PP T n 0 57 [(.sl false (List.map c_i64 a427.Parts)), (.fn 56 [(.ptr 1 1 0 0)])] (hp12 a427) = some (bf, (hp12 a427)) := by
     rw [q1078]; exact evF_z (F := F57) ⟨[(7, (iv (-1)), none)], []⟩ [] [] rfl (Z g1150 Z0) (by kernel_rfl)
    obtain rfl := si h
    exact pv_z (F := F29) ⟨[ff 11, ff 25, tt 32, ff 36, ff 40, tt 45, ff 50, ff 55, (61, bf, (some (hp12 a427))), ff 67, ff 72], []⟩ [] [none, none] rfl (W8 g1151 g1075 g1020 g1012 g1009 g1006 g998 g995 <| W2 g992 g990 <| Z g737 Z0) (by kernel_rfl)
   have g1141 := f29_I87_L0_ok n1079 a427 n1079 0 _ e1140
   have g1143 : evF PP T n1076 0 87 [(.sl false (List.map c_i64 a427.Parts)), (.fn 56 [(.ptr 1 1 0 0)])] (hp12 a427) = some ((iv v1142), (hp12 a427)) := by
    rw [q1081]; exact evF_z (F := F87) ⟨[(7, (iv ((a427.Parts.length : Nat) : Int)), none)], []⟩ [(.ret, f29_I87_L0_E0 a427 v1142)] [] rfl (W2 g1141 g1139 <| Z g1082 Z0) (by kernel_rfl)
   rcases cnd_or h with ⟨h1144, h⟩ | ⟨h1144, h⟩
   ·have g1145 := bool_eq h1144
    have g1146 : evF PP T n 0 57 [(.sl false (List.map c_i64 a427.Parts)), (.fn 56 [(.ptr 1 1 0 0)])] (hp12 a427) = some (bt, (hp12 a427)) := by
     rw [q1078]; exact evF_z (F := F57) ⟨[(7, (iv v1142), none), tt 8], []⟩ [] [] rfl (W2 g1145 g1143 Z0) (by kernel_rfl)
    obtain rfl := si h
    exact pv_z (F := F29) ⟨[ff 11, ff 25, tt 32, ff 36, ff 40, tt 45, ff 50, ff 55, (61, bf, (some (hp12 a427))), ff 67, tt 72], []⟩ [] [none, none] rfl (W8 g1146 g1075 g1020 g1012 g1009 g1006 g998 g995 <| W2 g992 g990 <| Z g737 Z0) (by kernel_rfl)
   have g1147 := bool_eq h1144
   have g1148 : evF PP T n 0 57 [(.sl false (List.map c_i64 a427.Parts)), (.fn 56 [(.ptr 1 1 0 0)])] (hp12 a427) = some (bf, (hp12 a427)) := by
    rw [q1078]; exact evF_z (F := F57) ⟨[(7, (iv v1142), none), ff 8], []⟩ [] [] rfl (W2 g1147 g1143 Z0) (by kernel_rfl)
   obtain rfl := si h
   exact pv_z (F := F29) ⟨[ff 11, ff 25, tt 32, ff 36, ff 40, tt 45, ff 50, ff 55, (61, bf, (some (hp12 a427))), ff 67, ff 72], []⟩ [] [none, none] rfl (W8 g1148 g1075 g1020 g1012 g1009 g1006 g998 g995 <| W2 g992 g990 <| Z g737 Z0) (by kernel_rfl)
  have g1237 := bool_eq h991
  rcases cnd_or h with ⟨h1238, h⟩ | ⟨h1238, h⟩
  rotate_left
  ·have g1484 := bool_eq h1238
   obtain ⟨n1485, e1486, h⟩ := bnd_some h
   have q1487 := prd_eq e1486
   rcases cnd_or h with ⟨h1488, h⟩ | ⟨h1488, h⟩
   rotate_left
   ·have g1721 := bool_eq h1488
    have g1722 : evF PP T n 0 53 [(iv a427.ID)] (hp11 a427) = some (bf, (hp11 a427)) := by
     rw [q1487]; exact evF_z (F := F53) ⟨[ff 4], []⟩ [] [] rfl (Z g1721 Z0) (by kernel_rfl)
    obtain rfl := si h
    exact pv_z (F := F29) ⟨[ff 11, ff 25, ff 32, ff 33, ff 45], []⟩ [] [none, none] rfl (W4 g1722 g1484 g1237 g990 <| Z g737 Z0) (by kernel_rfl)
   have g1489 := bool_eq h1488
   rcases cnd_or h with ⟨h1490, h⟩ | ⟨h1490, h⟩
   rotate_left
   ·have g1719 := bool_eq h1490
    have g1720 : evF PP T n 0 53 [(iv a427.ID)] (hp11 a427) = some (bf, (hp11 a427)) := by
     rw [q1487]; exact evF_z (F := F53) ⟨[tt 4, ff 7], []⟩ [] [] rfl (W2 g1719 g1489 Z0) (by kernel_rfl)
    obtain rfl := si h
    exact pv_z (F := F29) ⟨[ff 11, ff 25, ff 32, ff 33, ff 45], []⟩ [] [none, none] rfl (W4 g1720 g1484 g1237 g990 <| Z g737 Z0) (by kernel_rfl)
   have g1491 := bool_eq h1490
   have g1492 : evF PP T n 0 53 [(iv a427.ID)] (hp11 a427) = some (bt, (hp11 a427)) := by
    rw [q1487]; exact evF_z (F := F53) ⟨[tt 4, tt 7], []⟩ [] [] rfl (W2 g1491 g1489 Z0) (by kernel_rfl)
   rcases cnd_or h with ⟨h1493, h⟩ | ⟨h1493, h⟩
   ·have g1494 := bool_eq h1493
    obtain rfl := si h
    exact pv_z (F := F29) ⟨[ff 11, ff 25, ff 32, ff 33, tt 45, tt 50], []⟩ [] [none, none] rfl (W4 g1494 g1492 g1484 g1237 <| W2 g990 g737 Z0) (by kernel_rfl)
   have g1495 := bool_eq h1493
   rcases cnd_or h with ⟨h1496, h⟩ | ⟨h1496, h⟩
   ·have g1497 := bool_eq h1496
    obtain rfl := si h
    exact pv_z (F := F29) ⟨[ff 11, ff 25, ff 32, ff 33, tt 45, ff 50, tt 55], []⟩ [] [none, none] rfl (W4 g1497 g1495 g1492 g1484 <| W2 g1237 g990 <| Z g737 Z0) (by kernel_rfl)
   have g1498 := bool_eq h1496
   obtain ⟨n1499, e1500, h⟩ := bnd_some h
   have q1501 := prd_eq e1500
   obtain ⟨v1502, e1503, h⟩ := bnd_some h
   rcases cnd_or h with ⟨h1504, h⟩ | ⟨h1504, h⟩
   rotate_left
   ·have g1717 := by have q := f85_ok n1499 (GBox.mk (-1048576) (-1048576) 1048576 1048576) a427.At _ e1503; rw [h1504] at q; exact q
    have g1718 : evF PP T n 0 54 [(.agg [(iv a427.At.X), (iv a427.At.Y)]), (.ptr 2 1 0 0)] (hp11 a427) = some (bt, (hp12 a427)) := by
     rw [q1501]; exact evF_z (F := F54) ⟨[ff 6], []⟩ [] [] rfl (Z g1717 Z0) (by kernel_rfl)
    obtain rfl := si h
    exact pv_z (F := F29) ⟨[ff 11, ff 25, ff 32, ff 33, tt 45, ff 50, ff 55, (61, bt, (some (hp12 a427)))], []⟩ [] [none, none] rfl (W8 g1718 g1498 g1495 g1492 g1484 g1237 g990 g737 Z0) (by kernel_rfl)
   have g1505 := by have q := f85_ok n1499 (GBox.mk (-1048576) (-1048576) 1048576 1048576) a427.At _ e1503; rw [h1504] at q; exact q
   have g1506 : evF PP T n 0 54 [(.agg [(iv a427.At.X), (iv a427.At.Y)]), (.ptr 2 1 0 0)] (hp11 a427) = some (bf, (hp12 a427)) := by
    rw [q1501]; exact evF_z (F := F54) ⟨[tt 6], []⟩ [] [] rfl (Z g1505 Z0) (by kernel_rfl)
   obtain ⟨n1507, e1508, h⟩ := bnd_some h
   have q1509 := prd_eq e1508
   obtain ⟨n1510, e1511, h⟩ := bnd_some h
   have q1512 := prd_eq e1511
   have g1513 := len_sl (P := PP) (cf := evF PP T n1510) (fl := 0) (H := (hp12 a427)) (f := false) (c := c_GPoint) (l := a427.Via)
   have g1552 : cleanQ false 0 4 [(.blk 10 [(c_GEdit a427)]), (.blk 1 [[(.fn 53 [])]]), (.blk 4 [[(iv (-1048576)), (iv (-1048576)), (iv 1048576), (iv 1048576)]]), (.blk 2 [[(iv a427.At.X), (iv a427.At.Y)]])] := trivial
   rcases bnd2_some h with ⟨v1555, e1553, h⟩ | ⟨v1638, e1553, h⟩
   rotate_left
   ·have g1554 := f29_I86_L0_ok n1510 a427 n1510 0 _ e1553
    have g1639 : evF PP T n1507 0 86 [(.sl false (List.map c_GPoint a427.Via)), (.fn 54 [(.ptr 2 1 0 0)])] (hp12 a427) = some ((iv (-1)), (hp12 a427)) := by
     rw [q1512]; exact evF_z (F := F86) ⟨[(7, (iv ((a427.Via.length : Nat) : Int)), none)], []⟩ [((.exit 0), f29_I86_L0_E1 a427)] [] rfl (W2 g1554 g1552 <| Z g1513 Z0) (by kernel_rfl)
    have g1640 : evF PP T n 0 55 [(.sl false (List.map c_GPoint a427.Via)), (.fn 54 [(.ptr 2 1 0 0)])] (hp12 a427) = some (bf, (hp12 a427)) := by
     rw [q1509]; exact evF_z (F := F55) ⟨[(7, (iv (-1)), none)], []⟩ [] [] rfl (Z g1639 Z0) (by kernel_rfl)
    obtain ⟨n1641, e1642, h⟩ := bnd_some h
    have q1643 := prd_eq e1642
    obtain ⟨n1644, e1645, h⟩ := bnd_some h
    have q1646 := prd_eq e1645
    have g1647 := len_sl (P := PP) (cf := evF PP T n1644) (fl := 0) (H := (hp12 a427)) (f := false) (c := c_i64) (l := a427.Parts)
    have g1704 : cleanQ false 0 4 [(.blk 10 [(c_GEdit a427)]), (.blk 1 [[(.fn 53 [])]]), (.blk 4 [[(iv (-1048576)), (iv (-1048576)), (iv 1048576), (iv 1048576)]]), (.blk 2 [[(iv a427.At.X), (iv a427.At.Y)]])] := trivial
    rcases bnd2_some h with ⟨v1707, e1705, h⟩ | ⟨v1714, e1705, h⟩
    rotate_left
    ·have g1706 := f29_I87_L0_ok n1644 a427 n1644 0 _ e1705
     have g1715 : evF PP T n1641 0 87 [(.sl false (List.map c_i64 a427.Parts)), (.fn 56 [(.ptr 1 1 0 0)])] (hp12 a427) = some ((iv (-1)), (hp12 a427)) := by
      rw [q1646]; exact evF_z (F := F87) ⟨[(7, (iv ((a427.Parts.length : Nat) : Int)), none)], []⟩ [((.exit 0), f29_I87_L0_E1 a427)] [] rfl (W2 g1706 g1704 <| Z g1647 Z0) (by kernel_rfl)
     have g1716 : evF PP T n 0 57 [(.sl false (List.map c_i64 a427.Parts)), (.fn 56 [(.ptr 1 1 0 0)])] (hp12 a427) = some (bf, (hp12 a427)) := by
      rw [q1643]; exact evF_z (F := F57) ⟨[(7, (iv (-1)), none)], []⟩ [] [] rfl (Z g1715 Z0) (by kernel_rfl)
     obtain rfl := si h
     exact pv_z (F := F29) ⟨[ff 11, ff 25, ff 32, ff 33, tt 45, ff 50, ff 55, (61, bf, (some (hp12 a427))), ff 67, ff 72], []⟩ [] [none, none] rfl (W8 g1716 g1640 g1506 g1498 g1495 g1492 g1484 g1237 <| W2 g990 g737 Z0) (by kernel_rfl)
    have g1706 := f29_I87_L0_ok n1644 a427 n1644 0 _ e1705
    have g1708 : evF PP T n1641 0 87 [(.sl false (List.map c_i64 a427.Parts)), (.fn 56 [(.ptr 1 1 0 0)])] (hp12 a427) = some ((iv v1707), (hp12 a427)) := by
     rw [q1646]; exact evF_z (F := F87) ⟨[(7, (iv ((a427.Parts.length : Nat) : Int)), none)], []⟩ [(.ret, f29_I87_L0_E0 a427 v1707)] [] rfl (W2 g1706 g1704 <| Z g1647 Z0) (by kernel_rfl)
    rcases cnd_or h with ⟨h1709, h⟩ | ⟨h1709, h⟩
    ·have g1710 := bool_eq h1709
     have g1711 : evF PP T n 0 57 [(.sl false (List.map c_i64 a427.Parts)), (.fn 56 [(.ptr 1 1 0 0)])] (hp12 a427) = some (bt, (hp12 a427)) := by
      rw [q1643]; exact evF_z (F := F57) ⟨[(7, (iv v1707), none), tt 8], []⟩ [] [] rfl (W2 g1710 g1708 Z0) (by kernel_rfl)
     obtain rfl := si h
     exact pv_z (F := F29) ⟨[ff 11, ff 25, ff 32, ff 33, tt 45, ff 50, ff 55, (61, bf, (some (hp12 a427))), ff 67, tt 72], []⟩ [] [none, none] rfl (W8 g1711 g1640 g1506 g1498 g1495 g1492 g1484 g1237 <| W2 g990 g737 Z0) (by kernel_rfl)
    have g1712 := bool_eq h1709
    have g1713 : evF PP T n 0 57 [(.sl false (List.map c_i64 a427.Parts)), (.fn 56 [(.ptr 1 1 0 0)])] (hp12 a427) = some (bf, (hp12 a427)) := by
     rw [q1643]; exact evF_z (F := F57) ⟨[(7, (iv v1707), none), ff 8], []⟩ [] [] rfl (W2 g1712 g1708 Z0) (by kernel_rfl)
    obtain rfl := si h
    exact pv_z (F := F29) ⟨[ff 11, ff 25, ff 32, ff 33, tt 45, ff 50, ff 55, (61, bf, (some (hp12 a427))), ff 67, ff 72], []⟩ [] [none, none] rfl (W8 g1713 g1640 g1506 g1498 g1495 g1492 g1484 g1237 <| W2 g990 g737 Z0) (by kernel_rfl)
   have g1554 := f29_I86_L0_ok n1510 a427 n1510 0 _ e1553
   have g1556 : evF PP T n1507 0 86 [(.sl false (List.map c_GPoint a427.Via)), (.fn 54 [(.ptr 2 1 0 0)])] (hp12 a427) = some ((iv v1555), (hp12 a427)) := by
    rw [q1512]; exact evF_z (F := F86) ⟨[(7, (iv ((a427.Via.length : Nat) : Int)), none)], []⟩ [(.ret, f29_I86_L0_E0 a427 v1555)] [] rfl (W2 g1554 g1552 <| Z g1513 Z0) (by kernel_rfl)
   rcases cnd_or h with ⟨h1557, h⟩ | ⟨h1557, h⟩
   ·have g1558 := bool_eq h1557
    have g1559 : evF PP T n 0 55 [(.sl false (List.map c_GPoint a427.Via)), (.fn 54 [(.ptr 2 1 0 0)])] (hp12 a427) = some (bt, (hp12 a427)) := by
     rw [q1509]; exact evF_z (F := F55) ⟨[(7, (iv v1555), none), tt 8], []⟩ [] [] rfl (W2 g1558 g1556 Z0) (by kernel_rfl)
    obtain rfl := si h
    exact pv_z (F := F29) ⟨[ff 11, ff 25, ff 32, ff 33, tt 45, ff 50, ff 55, (61, bf, (some (hp12 a427))), tt 67], []⟩ [] [none, none] rfl (W8 g1559 g1506 g1498 g1495 g1492 g1484 g1237 g990 <| Z g737 Z0) (by kernel_rfl)
   have g1560 := bool_eq h1557
   have g1561 : evF PP T n 0 55 [(.sl false (List.map c_GPoint a427.Via)), (.fn 54 [(.ptr 2 1 0 0)])] (hp12 a427) = some (bf, (hp12 a427)) := by
    rw [q1509]; exact evF_z (F := F55) ⟨[(7, (iv v1555), none), ff 8], []⟩ [] [] rfl (W2 g1560 g1556 Z0) (by kernel_rfl)
   obtain ⟨n1562, e1563, h⟩ := bnd_some h
   have q1564 := prd_eq e1563
   obtain ⟨n1565, e1566, h⟩ := bnd_some h
   have q1567 := prd_eq e1566
   have g1568 := len_sl (P := PP) (cf := evF PP T n1565) (fl := 0) (H := (hp12 a427)) (f := false) (c := c_i64) (l := a427.Parts)
   have g1625 : cleanQ false 0 4 [(.blk 10 [(c_GEdit a427)]), (.blk 1 [[(.fn 53 [])]]), (.blk 4 [[(iv (-1048576)), (iv (-1048576)), (iv 1048576), (iv 1048576)]]), (.blk 2 [[(iv a427.At.X), (iv a427.At.Y)]])] := trivial
   rcases bnd2_some h with ⟨v1628, e1626, h⟩ | ⟨v1635, e1626, h⟩
   rotate_left
   ·have g1627 := f29_I87_L0_ok n1565 a427 n1565 0 _ e1626
    have g1636 : evF PP T n1562 0 87 [(.sl false (List.map c_i64 a427.Parts)), (.fn 56 [(.ptr 1 1 0 0)])] (hp12 a427) = some ((iv (-1)), (hp12 a427)) := by
     rw [q1567]; exact evF_z (F := F87) ⟨[(7, (iv ((a427.Parts.length : Nat) : Int)), none)], []⟩ [((.exit 0), f29_I87_L0_E1 a427)] [] rfl (W2 g1627 g1625 <| Z g1568 Z0) (by kernel_rfl)
    have g1637 : evF PP T n 0 57 [(.sl false (List.map c_i64 a427.Parts)), (.fn 56 [(.ptr 1 1 0 0)])] (hp12 a427) = some (bf, (hp12 a427)) := by
     rw [q1564]; exact evF_z (F := F57) ⟨[(7, (iv (-1)), none)], []⟩ [] [] rfl (Z g1636 Z0) (by kernel_rfl)
    obtain rfl := si h
    exact pv_z (F := F29) ⟨[ff 11, ff 25, ff 32, ff 33, tt 45, ff 50, ff 55, (61, bf, (some (hp12 a427))), ff 67, ff 72], []⟩ [] [none, none] rfl (W8 g1637 g1561 g1506 g1498 g1495 g1492 g1484 g1237 <| W2 g990 g737 Z0) (by kernel_rfl)
   have g1627 := f29_I87_L0_ok n1565 a427 n1565 0 _ e1626
   have g1629 : evF PP T n1562 0 87 [(.sl false (List.map c_i64 a427.Parts)), (.fn 56 [(.ptr 1 1 0 0)])] (hp12 a427) = some ((iv v1628), (hp12 a427)) := by
    rw [q1567]; exact evF_z (F := F87) ⟨[(7, (iv ((a427.Parts.length : Nat) : Int)), none)], []⟩ [(.ret, f29_I87_L0_E0 a427 v1628)] [] rfl (W2 g1627 g1625 <| Z g1568 Z0) (by kernel_rfl)
   rcases cnd_or h with ⟨h1630, h⟩ | ⟨h1630, h⟩
   ·have g1631 := bool_eq h1630
    have g1632 : evF PP T n 0 57 [(.sl false (List.map c_i64 a427.Parts)), (.fn 56 [(.ptr 1 1 0 0)])] (hp12 a427) = some (bt, (hp12 a427)) := by
     rw [q1564]; exact evF_z (F := F57) ⟨[(7, (iv v1628), none), tt 8], []⟩ [] [] rfl (W2 g1631 g1629 Z0) (by kernel_rfl)
    obtain rfl := si h
    exact pv_z (F := F29) ⟨[ff 11, ff 25, ff 32, ff 33, tt 45, ff 50, ff 55, (61, bf, (some (hp12 a427))), ff 67, tt 72], []⟩ [] [none, none] rfl (W8 g1632 g1561 g1506 g1498 g1495 g1492 g1484 g1237 <| W2 g990 g737 Z0) (by kernel_rfl)
   have g1633 := bool_eq h1630
   have g1634 : evF PP T n 0 57 [(.sl false (List.map c_i64 a427.Parts)), (.fn 56 [(.ptr 1 1 0 0)])] (hp12 a427) = some (bf, (hp12 a427)) := by
    rw [q1564]; exact evF_z (F := F57) ⟨[(7, (iv v1628), none), ff 8], []⟩ [] [] rfl (W2 g1633 g1629 Z0) (by kernel_rfl)
   obtain rfl := si h
   exact pv_z (F := F29) ⟨[ff 11, ff 25, ff 32, ff 33, tt 45, ff 50, ff 55, (61, bf, (some (hp12 a427))), ff 67, ff 72], []⟩ [] [none, none] rfl (W8 g1634 g1561 g1506 g1498 g1495 g1492 g1484 g1237 <| W2 g990 g737 Z0) (by kernel_rfl)
  have g1239 := bool_eq h1238
  rcases cnd_or h with ⟨h1240, h⟩ | ⟨h1240, h⟩
  ·have g1241 := bool_eq h1240
   obtain rfl := si h
   exact pv_z (F := F29) ⟨[ff 11, ff 25, ff 32, tt 33, tt 36], []⟩ [] [none, none] rfl (W4 g1241 g1239 g1237 g990 <| Z g737 Z0) (by kernel_rfl)
  have g1242 := bool_eq h1240
  rcases cnd_or h with ⟨h1243, h⟩ | ⟨h1243, h⟩
  ·have g1244 := bool_eq h1243
   obtain rfl := si h
   exact pv_z (F := F29) ⟨[ff 11, ff 25, ff 32, tt 33, ff 36, tt 40], []⟩ [] [none, none] rfl (W4 g1244 g1242 g1239 g1237 <| W2 g990 g737 Z0) (by kernel_rfl)
  have g1245 := bool_eq h1243
  obtain ⟨n1246, e1247, h⟩ := bnd_some h
  have q1248 := prd_eq e1247
  rcases cnd_or h with ⟨h1249, h⟩ | ⟨h1249, h⟩
  rotate_left
  ·have g1482 := bool_eq h1249
   have g1483 : evF PP T n 0 53 [(iv a427.ID)] (hp11 a427) = some (bf, (hp11 a427)) := by
    rw [q1248]; exact evF_z (F := F53) ⟨[ff 4], []⟩ [] [] rfl (Z g1482 Z0) (by kernel_rfl)
   obtain rfl := si h
   exact pv_z (F := F29) ⟨[ff 11, ff 25, ff 32, tt 33, ff 36, ff 40, ff 45], []⟩ [] [none, none] rfl (W4 g1483 g1245 g1242 g1239 <| W2 g1237 g990 <| Z g737 Z0) (by kernel_rfl)
  have g1250 := bool_eq h1249
  rcases cnd_or h with ⟨h1251, h⟩ | ⟨h1251, h⟩
  rotate_left
  ·have g1480 := bool_eq h1251
   have g1481 : evF PP T n 0 53 [(iv a427.ID)] (hp11 a427) = some (bf, (hp11 a427)) := by
    rw [q1248]; exact evF_z (F := F53) ⟨[tt 4, ff 7], []⟩ [] [] rfl (W2 g1480 g1250 Z0) (by kernel_rfl)
   obtain rfl := si h
   exact pv_z (F := F29) ⟨[ff 11, ff 25, ff 32, tt 33, ff 36, ff 40, ff 45], []⟩ [] [none, none] rfl (W4 g1481 g1245 g1242 g1239 <| W2 g1237 g990 <| Z g737 Z0) (by kernel_rfl)
  have g1252 := bool_eq h1251
  have g1253 : evF PP T n 0 53 [(iv a427.ID)] (hp11 a427) = some (bt, (hp11 a427)) := by
   rw [q1248]; exact evF_z (F := F53) ⟨[tt 4, tt 7], []⟩ [] [] rfl (W2 g1252 g1250 Z0) (by kernel_rfl)
  rcases cnd_or h with ⟨h1254, h⟩ | ⟨h1254, h⟩
  ·have g1255 := bool_eq h1254
   obtain rfl := si h
   exact pv_z (F := F29) ⟨[ff 11, ff 25, ff 32, tt 33, ff 36, ff 40, tt 45, tt 50], []⟩ [] [none, none] rfl (W8 g1255 g1253 g1245 g1242 g1239 g1237 g990 g737 Z0) (by kernel_rfl)
  have g1256 := bool_eq h1254
  rcases cnd_or h with ⟨h1257, h⟩ | ⟨h1257, h⟩
  ·have g1258 := bool_eq h1257
   obtain rfl := si h
   exact pv_z (F := F29) ⟨[ff 11, ff 25, ff 32, tt 33, ff 36, ff 40, tt 45, ff 50, tt 55], []⟩ [] [none, none] rfl (W8 g1258 g1256 g1253 g1245 g1242 g1239 g1237 g990 <| Z g737 Z0) (by kernel_rfl)
  have g1259 := bool_eq h1257
  obtain ⟨n1260, e1261, h⟩ := bnd_some h
  have q1262 := prd_eq e1261
  obtain ⟨v1263, e1264, h⟩ := bnd_some h
  rcases cnd_or h with ⟨h1265, h⟩ | ⟨h1265, h⟩
  rotate_left
  ·have g1478 := by have q := f85_ok n1260 (GBox.mk (-1048576) (-1048576) 1048576 1048576) a427.At _ e1264; rw [h1265] at q; exact q
   have g1479 : evF PP T n 0 54 [(.agg [(iv a427.At.X), (iv a427.At.Y)]), (.ptr 2 1 0 0)] (hp11 a427) = some (bt, (hp12 a427)) := by
    rw [q1262]; exact evF_z (F := F54) ⟨[ff 6], []⟩ [] [] rfl (Z g1478 Z0) (by kernel_rfl)
   obtain rfl := si h
   exact pv_z (F := F29) ⟨[ff 11, ff 25, ff 32, tt 33, ff 36, ff 40, tt 45, ff 50, ff 55, (61, bt, (some (hp12 a427)))], []⟩ [] [none, none] rfl (W8 g1479 g1259 g1256 g1253 g1245 g1242 g1239 g1237 <| W2 g990 g737 Z0) (by kernel_rfl)
  have g1266 := by have q := f85_ok n1260 (GBox.mk (-1048576) (-1048576) 1048576 1048576) a427.At _ e1264; rw [h1265] at q; exact q
  have g1267 : evF PP T n 0 54 [(.agg [(iv a427.At.X), (iv a427.At.Y)]), (.ptr 2 1 0 0)] (hp11 a427) = some (bf, (hp12 a427)) := by
   rw [q1262]; exact evF_z (F := F54) ⟨[tt 6], []⟩ [] [] rfl (Z g1266 Z0) (by kernel_rfl)
  obtain ⟨n1268, e1269, h⟩ := bnd_some h
  have q1270 := prd_eq e1269
  obtain ⟨n1271, e1272, h⟩ := bnd_some h
  have q1273 := prd_eq e1272
  have g1274 := len_sl (P := PP) (cf := evF PP T n1271) (fl := 0) (H := (hp12 a427)) (f := false) (c := c_GPoint) (l := a427.Via)
  have g1313 : cleanQ false 0 4 [(.blk 10 [(c_GEdit a427)]), (.blk 1 [[(.fn 53 [])]]), (.blk 4 [[(iv (-1048576)), (iv (-1048576)), (iv 1048576), (iv 1048576)]]), (.blk 2 [[(iv a427.At.X), (iv a427.At.Y)]])] := trivial
  rcases bnd2_some h with ⟨v1316, e1314, h⟩ | ⟨v1399, e1314, h⟩
  rotate_left
  ·have g1315 := f29_I86_L0_ok n1271 a427 n1271 0 _ e1314
   have g1400 : evF PP T n1268 0 86 [(.sl false (List.map c_GPoint a427.Via)), (.fn 54 [(.ptr 2 1 0 0)])] (hp12 a427) = some ((iv (-1)), (hp12 a427)) := by
    rw [q1273]; exact evF_z (F := F86) ⟨[(7, (iv ((a427.Via.length : Nat) : Int)), none)], []⟩ [((.exit 0), f29_I86_L0_E1 a427)] [] rfl (W2 g1315 g1313 <| Z g1274 Z0) (by kernel_rfl)
   have g1401 : evF PP T n 0 55 [(.sl false (List.map c_GPoint a427.Via)), (.fn 54 [(.ptr 2 1 0 0)])] (hp12 a427) = some (bf, (hp12 a427)) := by
    rw [q1270]; exact evF_z (F := F55) ⟨[(7, (iv (-1)), none)], []⟩ [] [] rfl (Z g1400 Z0) (by kernel_rfl)
   obtain ⟨n1402, e1403, h⟩ := bnd_some h
   have q1404 := prd_eq e1403
   obtain ⟨n1405, e1406, h⟩ := bnd_some h
   have q1407 := prd_eq e1406
   have g1408 := len_sl (P := PP) (cf := evF PP T n1405) (fl := 0) (H := (hp12 a427)) (f := false) (c := c_i64) (l := a427.Parts)
   have g1465 : cleanQ false 0 4 [(.blk 10 [(c_GEdit a427)]), (.blk 1 [[(.fn 53 [])]]), (.blk 4 [[(iv (-1048576)), (iv (-1048576)), (iv 1048576), (iv 1048576)]]), (.blk 2 [[(iv a427.At.X), (iv a427.At.Y)]])] := trivial
   rcases bnd2_some h with ⟨v1468, e1466, h⟩ | ⟨v1475, e1466, h⟩
   rotate_left
   ·have g1467 := f29_I87_L0_ok n1405 a427 n1405 0 _ e1466
    have g1476 : evF PP T n1402 0 87 [(.sl false (List.map c_i64 a427.Parts)), (.fn 56 [(.ptr 1 1 0 0)])] (hp12 a427) = some ((iv (-1)), (hp12 a427)) := by
     rw [q1407]; exact evF_z (F := F87) ⟨[(7, (iv ((a427.Parts.length : Nat) : Int)), none)], []⟩ [((.exit 0), f29_I87_L0_E1 a427)] [] rfl (W2 g1467 g1465 <| Z g1408 Z0) (by kernel_rfl)
    have g1477 : evF PP T n 0 57 [(.sl false (List.map c_i64 a427.Parts)), (.fn 56 [(.ptr 1 1 0 0)])] (hp12 a427) = some (bf, (hp12 a427)) := by
     rw [q1404]; exact evF_z (F := F57) ⟨[(7, (iv (-1)), none)], []⟩ [] [] rfl (Z g1476 Z0) (by kernel_rfl)
    obtain rfl := si h
    exact pv_z (F := F29) ⟨[ff 11, ff 25, ff 32, tt 33, ff 36, ff 40, tt 45, ff 50, ff 55, (61, bf, (some (hp12 a427))), ff 67, ff 72], []⟩ [] [none, none] rfl (W8 g1477 g1401 g1267 g1259 g1256 g1253 g1245 g1242 <| W4 g1239 g1237 g990 g737 Z0) (by kernel_rfl)
   have g1467 := f29_I87_L0_ok n1405 a427 n1405 0 _ e1466
   have g1469 : evF PP T n1402 0 87 [(.sl false (List.map c_i64 a427.Parts)), (.fn 56 [(.ptr 1 1 0 0)])] (hp12 a427) = some ((iv v1468), (hp12 a427)) := by
    rw [q1407]; exact evF_z (F := F87) ⟨[(7, (iv ((a427.Parts.length : Nat) : Int)), none)], []⟩ [(.ret, f29_I87_L0_E0 a427 v1468)] [] rfl (W2 g1467 g1465 <| Z g1408 Z0) (by kernel_rfl)
   rcases cnd_or h with ⟨h1470, h⟩ | ⟨h1470, h⟩
   ·have g1471 := bool_eq h1470
    have g1472 : evF PP T n 0 57 [(.sl false (List.map c_i64 a427.Parts)), (.fn 56 [(.ptr 1 1 0 0)])] (hp12 a427) = some (bt, (hp12 a427)) := by
     rw [q1404]; exact evF_z (F := F57) ⟨[(7, (iv v1468), none), tt 8], []⟩ [] [] rfl (W2 g1471 g1469 Z0) (by kernel_rfl)
    obtain rfl := si h
    exact pv_z (F := F29) ⟨[ff 11, ff 25, ff 32, tt 33, ff 36, ff 40, tt 45, ff 50, ff 55, (61, bf, (some (hp12 a427))), ff 67, tt 72], []⟩ [] [none, none] rfl (W8 g1472 g1401 g1267 g1259 g1256 g1253 g1245 g1242 <| W4 g1239 g1237 g990 g737 Z0) (by kernel_rfl)
   have g1473 := bool_eq h1470
   have g1474 : evF PP T n 0 57 [(.sl false (List.map c_i64 a427.Parts)), (.fn 56 [(.ptr 1 1 0 0)])] (hp12 a427) = some (bf, (hp12 a427)) := by
    rw [q1404]; exact evF_z (F := F57) ⟨[(7, (iv v1468), none), ff 8], []⟩ [] [] rfl (W2 g1473 g1469 Z0) (by kernel_rfl)
   obtain rfl := si h
   exact pv_z (F := F29) ⟨[ff 11, ff 25, ff 32, tt 33, ff 36, ff 40, tt 45, ff 50, ff 55, (61, bf, (some (hp12 a427))), ff 67, ff 72], []⟩ [] [none, none] rfl (W8 g1474 g1401 g1267 g1259 g1256 g1253 g1245 g1242 <| W4 g1239 g1237 g990 g737 Z0) (by kernel_rfl)
  have g1315 := f29_I86_L0_ok n1271 a427 n1271 0 _ e1314
  have g1317 : evF PP T n1268 0 86 [(.sl false (List.map c_GPoint a427.Via)), (.fn 54 [(.ptr 2 1 0 0)])] (hp12 a427) = some ((iv v1316), (hp12 a427)) := by
   rw [q1273]; exact evF_z (F := F86) ⟨[(7, (iv ((a427.Via.length : Nat) : Int)), none)], []⟩ [(.ret, f29_I86_L0_E0 a427 v1316)] [] rfl (W2 g1315 g1313 <| Z g1274 Z0) (by kernel_rfl)
  rcases cnd_or h with ⟨h1318, h⟩ | ⟨h1318, h⟩
  ·have g1319 := bool_eq h1318
   have g1320 : evF PP T n 0 55 [(.sl false (List.map c_GPoint a427.Via)), (.fn 54 [(.ptr 2 1 0 0)])] (hp12 a427) = some (bt, (hp12 a427)) := by
    rw [q1270]; exact evF_z (F := F55) ⟨[(7, (iv v1316), none), tt 8], []⟩ [] [] rfl (W2 g1319 g1317 Z0) (by kernel_rfl)
   obtain rfl := si h
   exact pv_z (F := F29) ⟨[ff 11, ff 25, ff 32, tt 33, ff 36, ff 40, tt 45, ff 50, ff 55, (61, bf, (some (hp12 a427))), tt 67], []⟩ [] [none, none] rfl (W8 g1320 g1267 g1259 g1256 g1253 g1245 g1242 g1239 <| W2 g1237 g990 <| Z g737 Z0) (by kernel_rfl)
  have g1321 := bool_eq h1318
  have g1322 : evF PP T n 0 55 [(.sl false (List.map c_GPoint a427.Via)), (.fn 54 [(.ptr 2 1 0 0)])] (hp12 a427) = some (bf, (hp12 a427)) := by
   rw [q1270]; exact evF_z (F := F55) ⟨[(7, (iv v1316), none), ff 8], []⟩ [] [] rfl (W2 g1321 g1317 Z0) (by kernel_rfl)
  obtain ⟨n1323, e1324, h⟩ := bnd_some h
  have q1325 := prd_eq e1324
  obtain ⟨n1326, e1327, h⟩ := bnd_some h
  have q1328 := prd_eq e1327
  have g1329 := len_sl (P := PP) (cf := evF PP T n1326) (fl := 0) (H := (hp12 a427)) (f := false) (c := c_i64) (l := a427.Parts)
  have g1386 : cleanQ false 0 4 [(.blk 10 [(c_GEdit a427)]), (.blk 1 [[(.fn 53 [])]]), (.blk 4 [[(iv (-1048576)), (iv (-1048576)), (iv 1048576), (iv 1048576)]]), (.blk 2 [[(iv a427.At.X), (iv a427.At.Y)]])] := trivial
  rcases bnd2_some h with ⟨v1389, e1387, h⟩ | ⟨v1396, e1387, h⟩
  rotate_left
  ·have g1388 := f29_I87_L0_ok n1326 a427 n1326 0 _ e1387
   have g1397 : evF PP T n1323 0 87 [(.sl false (List.map c_i64 a427.Parts)), (.fn 56 [(.ptr 1 1 0 0)])] (hp12 a427) = some ((iv (-1)), (hp12 a427)) := by
    rw [q1328]; exact evF_z (F := F87) ⟨[(7, (iv ((a427.Parts.length : Nat) : Int)), none)], []⟩ [((.exit 0), f29_I87_L0_E1 a427)] [] rfl (W2 g1388 g1386 <| Z g1329 Z0) (by kernel_rfl)
   have g1398 : evF PP T n 0 57 [(.sl false (List.map c_i64 a427.Parts)), (.fn 56 [(.ptr 1 1 0 0)])] (hp12 a427) = some (bf, (hp12 a427)) := by
    rw [q1325]; exact evF_z (F := F57) ⟨[(7, (iv (-1)), none)], []⟩ [] [] rfl (Z g1397 Z0) (by kernel_rfl)
   obtain rfl := si h
   exact pv_z (F := F29) ⟨[ff 11, ff 25, ff 32, tt 33, ff 36, ff 40, tt 45, ff 50, ff 55, (61, bf, (some (hp12 a427))), ff 67, ff 72], []⟩ [] [none, none] rfl (W8 g1398 g1322 g1267 g1259 g1256 g1253 g1245 g1242 <| W4 g1239 g1237 g990 g737 Z0) (by kernel_rfl)
  have g1388 := f29_I87_L0_ok n1326 a427 n1326 0 _ e1387
  have g1390 : evF PP T n1323 0 87 [(.sl false (List.map c_i64 a427.Parts)), (.fn 56 [(.ptr 1 1 0 0)])] (hp12 a427) = some ((iv v1389), (hp12 a427)) := by
   rw [q1328]; exact evF_z (F := F87) ⟨[(7, (iv ((a427.Parts.length : Nat) : Int)), none)], []⟩ [(.ret, f29_I87_L0_E0 a427 v1389)] [] rfl (W2 g1388 g1386 <| Z g1329 Z0) (by kernel_rfl)
  rcases cnd_or h with ⟨h1391, h⟩ | ⟨h1391, h⟩
  ·have g1392 := bool_eq h1391
   have g1393 : evF PP T n 0 57 [(.sl false (List.map c_i64 a427.Parts)), (.fn 56 [(.ptr 1 1 0 0)])] (hp12 a427) = some (bt, (hp12 a427)) := by
    rw [q1325]; exact evF_z (F := F57) ⟨[(7, (iv v1389), none), tt 8], []⟩ [] [] rfl (W2 g1392 g1390 Z0) (by kernel_rfl)
   obtain rfl := si h
   exact pv_z (F := F29) ⟨[ff 11, ff 25, ff 32, tt 33, ff 36, ff 40, tt 45, ff 50, ff 55, (61, bf, (some (hp12 a427))), ff 67, tt 72], []⟩ [] [none, none] rfl (W8 g1393 g1322 g1267 g1259 g1256 g1253 g1245 g1242 <| W4 g1239 g1237 g990 g737 Z0) (by kernel_rfl)
  have g1394 := bool_eq h1391
  have g1395 : evF PP T n 0 57 [(.sl false (List.map c_i64 a427.Parts)), (.fn 56 [(.ptr 1 1 0 0)])] (hp12 a427) = some (bf, (hp12 a427)) := by
   rw [q1325]; exact evF_z (F := F57) ⟨[(7, (iv v1389), none), ff 8], []⟩ [] [] rfl (W2 g1394 g1390 Z0) (by kernel_rfl)
  obtain rfl := si h
  exact pv_z (F := F29) ⟨[ff 11, ff 25, ff 32, tt 33, ff 36, ff 40, tt 45, ff 50, ff 55, (61, bf, (some (hp12 a427))), ff 67, ff 72], []⟩ [] [none, none] rfl (W8 g1395 g1322 g1267 g1259 g1256 g1253 g1245 g1242 <| W4 g1239 g1237 g990 g737 Z0) (by kernel_rfl)
def f30_L0_S (a1723 : (List Int)) (i1737 : Int) : St := ⟨[(.sl false (List.map c_i64 a1723)), U, U, (iv i1737), U, U, U, U, U, U, U, U, U, U, U, U, U, U, U, U], []⟩
def f30_L0_E0 (a1723 : (List Int)) : St := ⟨[U, U, bf, U, U, U, U, U, U, U, U, U, U, U, U, U, U, U, U, U], []⟩
def f30_L0_E1 (a1723 : (List Int)) : St := ⟨[U, U, U, U, U, U, U, U, U, U, U, U, U, U, U, U, U, U, U, U], []⟩
def f30_L0 (n : Nat) (a1723 : (List Int)) : Nat → Int → Option (Unit ⊕ Unit)
 | 0, _ => none
 | m + 1, i1737 => (cnd (decide (i1737 < ((a1723.length : Nat) : Int))) (bnd (idx a1723 (IntKind.i64.wrap (i1737 - 1))) fun x1754 => (bnd (idx a1723 i1737) fun x1757 => (cnd (decide (x1754 ≥ x1757)) (some (Sum.inl ())) (f30_L0 n a1723 m (IntKind.i64.wrap (i1737 + 1)))))) (some (Sum.inr ())))
theorem f30_L0_ok (n : Nat) (a1723 : (List Int)) : ∀ (m : Nat) (i1737 : Int) (r : (Unit ⊕ Unit)), f30_L0 n a1723 m i1737 = some r → maskR [] [false, false, true] false 0 0 (evLoopH (headSt (some [true, false, false, true]) false 0 0) (evC PP (evF PP T n) n 0 L30_0) m (f30_L0_S a1723 i1737)) = (match r with | .inl r => some (.ret, f30_L0_E0 a1723) | .inr r => some ((.exit 0), f30_L0_E1 a1723))
 | 0, _, _, h => by cases h
 | m + 1, i1737, r, h => by
  rw [f30_L0] at h
  have g1751 := len_sl (P := PP) (cf := evF PP T n) (fl := 0) (H := []) (f := false) (c := c_i64) (l := a1723)
  rcases cnd_or h with ⟨h1752, h⟩ | ⟨h1752, h⟩
  rotate_left
  ·have g1763 := bool_eq h1752
   obtain rfl := si h
   exact last_z (live := some [true, false, false, true]) (tr' := false) (st' := f30_L0_E1 a1723) ⟨[(6, (iv ((a1723.length : Nat) : Int)), none), ff 7], []⟩ [] [] rfl (W2 g1763 g1751 Z0) (by kernel_rfl) trivial
  have g1753 := bool_eq h1752
  obtain ⟨x1754, e1755, h⟩ := bnd_some h
  have g1756 := idxl (H := []) (f := false) (c := c_i64) e1755 (c_i64_len _)
  obtain ⟨x1757, e1758, h⟩ := bnd_some h
  have g1759 := idxl (H := []) (f := false) (c := c_i64) e1758 (c_i64_len _)
  rcases cnd_or h with ⟨h1760, h⟩ | ⟨h1760, h⟩
  ·have g1761 := bool_eq h1760
   obtain rfl := si h
   exact last_z (live := some [true, false, false, true]) (tr' := false) (st' := f30_L0_E0 a1723) ⟨[(6, (iv ((a1723.length : Nat) : Int)), none), tt 7, (13, (.rptr [(iv x1754)]), none), (17, (.rptr [(iv x1757)]), none), tt 19], []⟩ [] [] rfl (W4 g1761 g1759 g1756 g1753 <| Z g1751 Z0) (by kernel_rfl) trivial
  have g1762 := bool_eq h1760
  exact (congrArg (maskR [] [false, false, true] false 0 0) (next_z (live := some [true, false, false, true]) (tr := false) (st' := f30_L0_S a1723 (IntKind.i64.wrap (i1737 + 1))) ⟨[(6, (iv ((a1723.length : Nat) : Int)), none), tt 7, (13, (.rptr [(iv x1754)]), none), (17, (.rptr [(iv x1757)]), none), ff 19], []⟩ [] [] rfl (W4 g1762 g1759 g1756 g1753 <| Z g1751 Z0) (by kernel_rfl) trivial rfl)).trans (f30_L0_ok n a1723 m (IntKind.i64.wrap (i1737 + 1)) r h)
def f30 : Nat → (List Int) → Option Bool
 | 0, _ => none
 | n + 1, a1723 => (bnd2 (f30_L0 n a1723 n 1) (fun v1767 => (some false)) (fun v1768 => (some true)))
theorem f30_ok (n : Nat) (a1723 : (List Int)) (r : Bool) (h : f30 n a1723 = some r) : pv PP T n 30 [(.sl false (List.map c_i64 a1723))] = some (bv r) := by
 cases n with
 | zero => cases h
 | succ n =>
  rw [f30] at h
  have g1764 : cleanQ false 0 0 [] := trivial
  rcases bnd2_some h with ⟨v1767, e1765, h⟩ | ⟨v1768, e1765, h⟩
  ·have g1766 := f30_L0_ok n a1723 n 1 _ e1765
   obtain rfl := si h
   exact pv_z (F := F30) ⟨[], []⟩ [(.ret, f30_L0_E0 a1723)] [] rfl (W2 g1766 g1764 Z0) (by kernel_rfl)
  have g1766 := f30_L0_ok n a1723 n 1 _ e1765
  obtain rfl := si h
  exact pv_z (F := F30) ⟨[], []⟩ [((.exit 0), f30_L0_E1 a1723)] [] rfl (W2 g1766 g1764 Z0) (by kernel_rfl)
def f12 : Nat → GEdit → Option Int
 | 0, _ => none
 | n + 1, a1769 => (cnd (decide (a1769.Kind < 1)) (some 9) (cnd (decide (a1769.Kind > 12)) (some 9) (cnd (a1769.Kind == 7) (bnd (f27 n a1769.A) fun v1778 => (cnd (v1778 == 0) (some 9) (bnd (f28 n a1769) fun v1784 => (cnd (v1784) (some 1) (cnd (decide (((a1769.Via.length : Nat) : Int) > 64)) (some 3) (cnd (decide (((a1769.Parts.length : Nat) : Int) > 64)) (some 3) (bnd (f29 n a1769) fun v1797 => (cnd (v1797) (bnd (f30 n a1769.Parts) fun v1801 => (cnd (v1801) (cnd (decide (a1769.Name = (⟨#[]⟩ : ByteArray))) (some 0) (bnd (f11 n a1769.Name) fun v1808 => (cnd (v1808 != 0) (some 14) (some 0)))) (some 10))) (some 2))))))))) (bnd (f28 n a1769) fun v1817 => (cnd (v1817) (some 1) (cnd (decide (((a1769.Via.length : Nat) : Int) > 64)) (some 3) (cnd (decide (((a1769.Parts.length : Nat) : Int) > 64)) (some 3) (bnd (f29 n a1769) fun v1830 => (cnd (v1830) (bnd (f30 n a1769.Parts) fun v1834 => (cnd (v1834) (cnd (decide (a1769.Name = (⟨#[]⟩ : ByteArray))) (some 0) (bnd (f11 n a1769.Name) fun v1841 => (cnd (v1841 != 0) (some 14) (some 0)))) (some 10))) (some 2))))))))))
end Go.Proofs.YtmflphfmefakfaaGreatDoor.Av
