/- A part of the proof of ChangesetElementsCardSaid: an evaluator of the program, proved sound, and what it says. -/
import Derived.Test.YtanonfpdkoijnaaGreatDoorVcTab
import Derived.Test.YtanonfpdkoijnaaGreatDoorAvMono
import Derived.Test.YtanonfpdkoijnaaGreatDoorAvClone
set_option linter.all false
namespace Go.Proofs.YtanonfpdkoijnaaGreatDoor.Av
open Go
theorem si {α : Type} {a b : α} (h : some a = some b) : a = b := Option.some.inj h
def W2 {p q : Prop} (a : p) (b : q) (z : PZ) : PZ := Z a (Z b z)
def W4 {p q r s : Prop} (a : p) (b : q) (c : r) (d : s) (z : PZ) : PZ := W2 a b (W2 c d z)
def W8 {p q r s p' q' r' s' : Prop} (a : p) (b : q) (c : r) (d : s) (a' : p') (b' : q') (c' : r') (d' : s') (z : PZ) : PZ := W4 a b c d (W4 a' b' c' d' z)
abbrev ff (k : Nat) : Nat × AV × Option Heap := (k, bf, none)
abbrev tt (k : Nat) : Nat × AV × Option Heap := (k, bt, none)
theorem pz [GlobT] {P : Program} {T : List AFun} {n vi : Nat} {args : List AV} {r : AV} (F : AFun) (o : Orc) (z : PZ) (h : oF P T n o [] [] F args = some (r, z.ps) := by kernel_rfl) (hF : getF T vi = some F := by exact rfl) : pv P T (n + 1) vi args = some r := pv_z o [] [] hF z h
set_option linter.unusedVariables false
set_option linter.unusedSimpArgs false
def c_i64 (x : Int) : List AV := [(iv x)]
theorem c_i64_len : ∀ x, (c_i64 x).length = 1 := fun _ => rfl
theorem c_i64_toP : ∀ x, (c_i64 x).map toP = c_i64 x := fun _ => rfl
theorem c_i64_seal (H : Heap) (n d : Nat) : ∀ x, (c_i64 x).map (sealC H n d) = c_i64 x := fun _ => by cases d <;> rfl
theorem c_i64_clean (n : Nat) : ∀ x, (c_i64 x).map (clean1 n) = c_i64 x := fun _ => rfl
structure GPoint where
 X : Int
 Y : Int
 deriving DecidableEq
def c_GPoint (x : GPoint) : List AV := [(iv x.X), (iv x.Y)]
theorem c_GPoint_len : ∀ x, (c_GPoint x).length = 2 := fun _ => rfl
theorem c_GPoint_toP : ∀ x, (c_GPoint x).map toP = c_GPoint x := fun _ => rfl
theorem c_GPoint_seal (H : Heap) (n d : Nat) : ∀ x, (c_GPoint x).map (sealC H n d) = c_GPoint x := fun _ => by cases d <;> rfl
theorem c_GPoint_clean (n : Nat) : ∀ x, (c_GPoint x).map (clean1 n) = c_GPoint x := fun _ => rfl
def c_LGPoint (x : (List GPoint)) : List AV := [(.sl false (List.map c_GPoint x))]
theorem c_LGPoint_len : ∀ x, (c_LGPoint x).length = 1 := fun _ => rfl
theorem c_LGPoint_toP : ∀ x, (c_LGPoint x).map toP = c_LGPoint x := fun _ => rfl
theorem c_LGPoint_seal (H : Heap) (n d : Nat) : ∀ x, (c_LGPoint x).map (sealC H n d) = c_LGPoint x := fun _ => by cases d <;> rfl
theorem c_LGPoint_clean (n : Nat) : ∀ x, (c_LGPoint x).map (clean1 n) = c_LGPoint x := fun _ => rfl
def c_str (x : ByteArray) : List AV := [(sv x)]
theorem c_str_len : ∀ x, (c_str x).length = 1 := fun _ => rfl
theorem c_str_toP : ∀ x, (c_str x).map toP = c_str x := fun _ => rfl
theorem c_str_seal (H : Heap) (n d : Nat) : ∀ x, (c_str x).map (sealC H n d) = c_str x := fun _ => by cases d <;> rfl
theorem c_str_clean (n : Nat) : ∀ x, (c_str x).map (clean1 n) = c_str x := fun _ => rfl
def c_Li64 (x : (List Int)) : List AV := [(.sl false (List.map c_i64 x))]
theorem c_Li64_len : ∀ x, (c_Li64 x).length = 1 := fun _ => rfl
theorem c_Li64_toP : ∀ x, (c_Li64 x).map toP = c_Li64 x := fun _ => rfl
theorem c_Li64_seal (H : Heap) (n d : Nat) : ∀ x, (c_Li64 x).map (sealC H n d) = c_Li64 x := fun _ => by cases d <;> rfl
theorem c_Li64_clean (n : Nat) : ∀ x, (c_Li64 x).map (clean1 n) = c_Li64 x := fun _ => rfl
structure GEdit where
 Kind : Int
 ID : Int
 A : Int
 B : Int
 C : Int
 At : GPoint
 Via : (List GPoint)
 Name : ByteArray
 Parts : (List Int)
 deriving DecidableEq
def c_GEdit (x : GEdit) : List AV := [(iv x.Kind), (iv x.ID), (iv x.A), (iv x.B), (iv x.C), (iv x.At.X), (iv x.At.Y), (.sl false (List.map c_GPoint x.Via)), (sv x.Name), (.sl false (List.map c_i64 x.Parts))]
theorem c_GEdit_len : ∀ x, (c_GEdit x).length = 10 := fun _ => rfl
theorem c_GEdit_toP : ∀ x, (c_GEdit x).map toP = c_GEdit x := fun _ => rfl
theorem c_GEdit_seal (H : Heap) (n d : Nat) : ∀ x, (c_GEdit x).map (sealC H n d) = c_GEdit x := fun _ => by cases d <;> rfl
theorem c_GEdit_clean (n : Nat) : ∀ x, (c_GEdit x).map (clean1 n) = c_GEdit x := fun _ => rfl
structure GConflict where
 Kind : Int
 ID : Int
 deriving DecidableEq
def c_GConflict (x : GConflict) : List AV := [(iv x.Kind), (iv x.ID)]
theorem c_GConflict_len : ∀ x, (c_GConflict x).length = 2 := fun _ => rfl
theorem c_GConflict_toP : ∀ x, (c_GConflict x).map toP = c_GConflict x := fun _ => rfl
theorem c_GConflict_seal (H : Heap) (n d : Nat) : ∀ x, (c_GConflict x).map (sealC H n d) = c_GConflict x := fun _ => by cases d <;> rfl
theorem c_GConflict_clean (n : Nat) : ∀ x, (c_GConflict x).map (clean1 n) = c_GConflict x := fun _ => rfl
def kv_GConflict (x : GConflict) : Value := .agg #[(.int .i64 x.Kind), (.int .i64 x.ID)]
def c_bool (x : Bool) : List AV := [(bv x)]
theorem c_bool_len : ∀ x, (c_bool x).length = 1 := fun _ => rfl
theorem c_bool_toP : ∀ x, (c_bool x).map toP = c_bool x := fun _ => rfl
theorem c_bool_seal (H : Heap) (n d : Nat) : ∀ x, (c_bool x).map (sealC H n d) = c_bool x := fun _ => by cases d <;> rfl
theorem c_bool_clean (n : Nat) : ∀ x, (c_bool x).map (clean1 n) = c_bool x := fun _ => rfl
def a_bool (x : Bool) : AV := (bv x)
theorem eq_i_3 (a b : Int) : pureRun PP (Op.equalIn 9999 3 (.int .i64 a) (.int .i64 b)) = some (a == b) := by kernel_rfl
theorem c_GConflict_eqv (a b c d : Int) : pureRun PP (Op.equal 51 (.agg #[.int .i64 a, .int .i64 b]) (.agg #[.int .i64 c, .int .i64 d])) = some (a == c && b == d) := by
 have h1 : pureRun PP (underlying 51) = some (.struct #[{ name := "Kind", type := 3, offset := 0, embedded := false, tag := "", pkgPath := "", byteOffset := 0 }, { name := "ID", type := 3, offset := 1, embedded := false, tag := "", pkgPath := "", byteOffset := 8 }]) := by kernel_rfl
 have h3 : ∀ x y : Value, pureRun PP (part 3 #[x, y] 0) = some x := by intro x y; kernel_rfl
 have h4 : ∀ x y : Value, pureRun PP (part 3 #[x, y] 1) = some y := by intro x y; kernel_rfl
 have h5 : pureRun PP program = some PP := rfl
 have h6 : Program.stoodInHeld PP 51 = false := by kernel_rfl
 have n1 : ¬ ("Kind" = "_") := by decide
 have n2 : ¬ ("ID" = "_") := by decide
 unfold Op.equal Op.maxDepth
 rw [Op.equalIn]
 simp only [pureRun_bind, h1, Option.bind_some, h5, h6, Bool.false_eq_true, if_false, List.forIn_toArray, List.forIn_cons, List.forIn_nil, n1, n2, ne_eq, not_false_eq_true, if_true, h3, h4, eq_i_3, pureRun_pure]
 cases h7 : (a == c)
 ·rfl
 ·simp only [Bool.not_true, Bool.false_eq_true, if_false, pureRun_pure, Option.bind_some, pureRun_bind, h3, h4, eq_i_3, n1, n2, ne_eq, not_false_eq_true, if_true]
  cases h8 : (b == d) <;> rfl
theorem c_GConflict_dec (a b : GConflict) : decide (a = b) = (a.Kind == b.Kind && a.ID == b.ID) := by
 cases a; cases b
 simp only [GConflict.mk.injEq, Bool.decide_and]
 rfl
theorem c_GConflict_eql {cf : Nat → Nat → List AV → Heap → Option (AV × Heap)} {fl : Nat} {H : Heap} {a b : GConflict} {r : Bool} (h : decide (a = b) = r) : evOp PP cf fl (.bin .eql 51 (.tmp 0) (.tmp 1)) [.agg (c_GConflict a), .agg (c_GConflict b)] H = some (.lit (.bool (r)), H) := by
 have g : pureRun PP (eqGuard .eql 51 (.tmp 0) (.tmp 0) (.agg #[.int .i64 a.Kind, .int .i64 a.ID]) (.agg #[.int .i64 b.Kind, .int .i64 b.ID])) = some () := by kernel_rfl
 have e : pureRun PP (binOp .eql 51 (.agg #[.int .i64 a.Kind, .int .i64 a.ID]) (.agg #[.int .i64 b.Kind, .int .i64 b.ID])) = some (.bool (r)) := by
  simp only [binOp, pureRun_bind, c_GConflict_eqv, Option.bind_some, pureRun_pure, ← h, c_GConflict_dec]
 have hl : ∀ a : GConflict, lits (.agg (c_GConflict a)) = some (.agg #[.int .i64 a.Kind, .int .i64 a.ID]) := fun _ => rfl
 simp only [evOp, getOpd, List.getElem?_cons_zero, List.getElem?_cons_succ, hl, notNil, if_true, g, e]
theorem c_GConflict_neq {cf : Nat → Nat → List AV → Heap → Option (AV × Heap)} {fl : Nat} {H : Heap} {a b : GConflict} {r : Bool} (h : decide (a = b) = r) : evOp PP cf fl (.bin .neq 51 (.tmp 0) (.tmp 1)) [.agg (c_GConflict a), .agg (c_GConflict b)] H = some (.lit (.bool (!r)), H) := by
 have g : pureRun PP (eqGuard .neq 51 (.tmp 0) (.tmp 0) (.agg #[.int .i64 a.Kind, .int .i64 a.ID]) (.agg #[.int .i64 b.Kind, .int .i64 b.ID])) = some () := by kernel_rfl
 have e : pureRun PP (binOp .neq 51 (.agg #[.int .i64 a.Kind, .int .i64 a.ID]) (.agg #[.int .i64 b.Kind, .int .i64 b.ID])) = some (.bool (!r)) := by
  simp only [binOp, pureRun_bind, c_GConflict_eqv, Option.bind_some, pureRun_pure, ← h, c_GConflict_dec]
 have hl : ∀ a : GConflict, lits (.agg (c_GConflict a)) = some (.agg #[.int .i64 a.Kind, .int .i64 a.ID]) := fun _ => rfl
 simp only [evOp, getOpd, List.getElem?_cons_zero, List.getElem?_cons_succ, hl, notNil, if_true, g, e]
theorem clo {n : Nat} {o : AObj} {l : List AObj} (h : cleanObj n o = o) (k : l.map (cleanObj n) = l) : (o :: l).map (cleanObj n) = o :: l := by rw [List.map_cons, h, k]
theorem clo_mp {K V : Type} {kv : K → Value} {va : V → AV} {n : Nat} {m : List (K × V)} (h : ∀ v, clean2 n (va v) = va v) : cleanObj n (.mp (entL kv va m)) = .mp (entL kv va m) := congrArg AObj.mp (clean_ent h)
theorem clo_blk {α : Type} {c : α → List AV} {n s : Nat} {l : List α} (h : ∀ x, (c x).map (clean1 n) = c x) : cleanObj n (.blk s (l.map c)) = .blk s (l.map c) := congrArg (AObj.blk s) (by rw [List.map_map]; exact List.map_congr_left fun x _ => h x)
theorem clo_blkx {α : Type} {c : α → List AV} {n s k : Nat} {l : List α} (h : ∀ x, (c x).map (clean1 n) = c x) : cleanObj n (.blk s (l.map c ++ [List.replicate k .undef])) = .blk s (l.map c ++ [List.replicate k .undef]) := congrArg (AObj.blk s) (by
 rw [List.map_append, List.map_map]
 congr 1
 ·exact List.map_congr_left fun x _ => h x
 ·simp [clean1])
theorem key_ask (k : GConflict) : ∀ (ks : List GConflict) (i : Nat), pureRun PP (Instr.findAsking 51 (kv_GConflict k) (ks.map fun x => { key := kv_GConflict x, val := .bool false, born := 0 }) i) = some ((ks.findIdx? fun x => decide (x = k)).map fun j => (i + j, .bool false))
 | [], i => rfl
 | x :: r, i => by
  have he : pureRun PP (Op.equal 51 (kv_GConflict k) (kv_GConflict x)) = some (decide (x = k)) := by
   refine (c_GConflict_eqv k.Kind k.ID x.Kind x.ID).trans (congrArg some ?_)
   rw [← c_GConflict_dec k x]
   exact decide_eq_decide.2 ⟨fun h => h.symm, fun h => h.symm⟩
  simp only [List.map_cons, Instr.findAsking, pureRun_bind, he, Option.bind_some, List.findIdx?_cons]
  cases decide (x = k) with
  | true => simp [pureRun_pure]
  | false =>
   simp only [Bool.false_eq_true, if_false, key_ask k r (i + 1)]
   cases r.findIdx? fun x => decide (x = k) with
   | none => rfl
   | some j => simp; omega
theorem key_GConflict : KeyOK PP 51 kv_GConflict where
 find := fun k ks => by
  have hu : pureRun PP (underlying 51) = some (.struct #[{ name := "Kind", type := 3, offset := 0, embedded := false, tag := "", pkgPath := "", byteOffset := 0 }, { name := "ID", type := 3, offset := 1, embedded := false, tag := "", pkgPath := "", byteOffset := 8 }]) := by kernel_rfl
  unfold findA
  simp only [Instr.findKey, pureRun_bind, hu, Option.bind_some, List.map_map, Function.comp_def]
  cases ks with
  | nil => rfl
  | cons x r =>
   have h1 : Instr.findNow (.struct #[{ name := "Kind", type := 3, offset := 0, embedded := false, tag := "", pkgPath := "", byteOffset := 0 }, { name := "ID", type := 3, offset := 1, embedded := false, tag := "", pkgPath := "", byteOffset := 8 }]) (kv_GConflict k) (List.map (fun x => ({ key := kv_GConflict x, val := .bool false, born := 0 } : MapEntry)) (x :: r)) 0 = none := rfl
   simp only [h1, key_ask k (x :: r) 0]
   cases (x :: r).findIdx? fun x => decide (x = k) with
   | none => rfl
   | some j => simp
 chk := fun e k => by kernel_rfl
 same := fun k => by simp [kv_GConflict, Instr.sameBits]
def sortC (l : List GConflict) : List GConflict := (sortP (l.map fun x => (x.Kind, x.ID))).map fun p => ⟨p.1, p.2⟩
theorem sort_told {n fl id : Nat} {H : Heap} {l : List GConflict} (hfl : fl ≤ id) (hH : H[id]? = some (.blk 2 (l.map c_GConflict))) (hl : l.length ≤ 1000000) :
  evF PP T (n + 1) fl 11 [.ms id l.length 0 l.length, .fn 12 []] H = some (.tup [], H.set id (.blk 2 ((sortC l).map c_GConflict))) := by
 show sortA 12 fl [.ms id l.length 0 l.length, .fn 12 []] H = _
 have e1 : l.map c_GConflict = (l.map fun x => (x.Kind, x.ID)).map encA := by simp [c_GConflict, encA]
 have e2 : (sortC l).map c_GConflict = (sortP (l.map fun x => (x.Kind, x.ID))).map encA := by simp [sortC, c_GConflict, encA]
 rw [e1] at hH
 have h1 : Nat.ble fl id = true := Nat.ble_eq_true_of_le hfl
 have h2 : Nat.ble l.length 1000000 = true := Nat.ble_eq_true_of_le hl
 have h3 : Nat.beq l.length l.length = true := Nat.beq_refl _
 have h4 : Nat.beq ((l.map fun x => (x.Kind, x.ID)).map encA).length l.length = true := by simp
 unfold sortA
 have hv : Nat.beq 12 12 = true := rfl
 have h5 : Nat.beq 2 2 = true := rfl
 have h6 : Nat.beq 0 0 = true := rfl
 simp only [hv, h1, hH, h5, h6, h3, h4, h2, Bool.and_self, decP_enc, e2]
theorem seal1_srt {H : Heap} {id : Nat} {l : List GConflict} (hH : H[id]? = some (.blk 2 ((sortC l).map c_GConflict))) : seal1 H 0 (.ms id l.length 0 l.length) = .sl false ((sortC l).map c_GConflict) := by
 have e : l.length = (sortC l).length := by simp [sortC, sortP_len]
 rw [e]
 exact seal1_ms hH (c_GConflict_seal _ _ _)
abbrev hp0 : Heap := [(.blk 2 (List.map c_GConflict [])), (.mp (entL kv_GConflict a_bool ([] : List (GConflict × Bool))))]
def f2_L0_S (a1 : (List GEdit)) (l119 : (List GConflict)) (l120 : (List (GConflict × Bool))) (i121 : Int) : St := ⟨[U, U, (.ms 0 l119.length 0 l119.length), (.mp 1), U, U, U, U, U, (.sl false (List.map c_GEdit a1)), (iv ((a1.length : Nat) : Int)), (iv i121), U, U, U, U, U, U, U, U, U, U, U, U, U, U, U, U, U, U, U, U, U, U, U, U, U, U, U, U, U, U, U, U, U, U, U, U, U], [(.blk 2 (List.map c_GConflict l119)), (.mp (entL kv_GConflict a_bool l120))]⟩
def f2_L0_E0 (a1 : (List GEdit)) (l238 : (List GConflict)) (l239 : (List (GConflict × Bool))) : St := ⟨[U, U, (.ms 0 l238.length 0 l238.length), U, U, U, U, U, U, U, U, U, U, U, U, U, U, U, U, U, U, U, U, U, U, U, U, U, U, U, U, U, U, U, U, U, U, U, U, U, U, U, U, U, U, U, U, U, U], [(.blk 2 (List.map c_GConflict l238)), (.mp (entL kv_GConflict a_bool l239))]⟩
abbrev hp1 (l119 : (List GConflict)) (l120 : (List (GConflict × Bool))) : Heap := [(.blk 2 (List.map c_GConflict l119)), (.mp (entL kv_GConflict a_bool l120))]
abbrev hp2 (l119 : (List GConflict)) (l120 : (List (GConflict × Bool))) (x242 : GEdit) : Heap := [(.blk 2 (List.map c_GConflict l119)), (.mp (entL kv_GConflict a_bool l120)), (.blk 10 [(c_GEdit x242)]), (.blk 2 [[(iv 1), (iv x242.ID)]])]
abbrev hp3 (l119 : (List GConflict)) (l120 : (List (GConflict × Bool))) (x242 : GEdit) : Heap := [(.blk 2 (List.map c_GConflict l119)), (.mp (entL kv_GConflict a_bool (mput l120 (GConflict.mk 1 x242.ID) true))), (.blk 10 [(c_GEdit x242)]), (.blk 2 [[(iv 1), (iv x242.ID)]])]
abbrev hp4 (l251 : (List GConflict)) (l120 : (List (GConflict × Bool))) (x242 : GEdit) : Heap := [(.blk 2 (List.map c_GConflict l251)), (.mp (entL kv_GConflict a_bool (mput l120 (GConflict.mk 1 x242.ID) true)))]
abbrev hp5 (l119 : (List GConflict)) (l120 : (List (GConflict × Bool))) (x242 : GEdit) : Heap := [(.blk 2 (List.map c_GConflict l119)), (.mp (entL kv_GConflict a_bool l120)), (.blk 10 [(c_GEdit x242)]), (.blk 2 [[(iv 2), (iv x242.ID)]])]
abbrev hp6 (l119 : (List GConflict)) (l120 : (List (GConflict × Bool))) (x242 : GEdit) : Heap := [(.blk 2 (List.map c_GConflict l119)), (.mp (entL kv_GConflict a_bool (mput l120 (GConflict.mk 2 x242.ID) true))), (.blk 10 [(c_GEdit x242)]), (.blk 2 [[(iv 2), (iv x242.ID)]])]
abbrev hp7 (l281 : (List GConflict)) (l120 : (List (GConflict × Bool))) (x242 : GEdit) : Heap := [(.blk 2 (List.map c_GConflict l281)), (.mp (entL kv_GConflict a_bool (mput l120 (GConflict.mk 2 x242.ID) true)))]
abbrev hp8 (l119 : (List GConflict)) (l120 : (List (GConflict × Bool))) (x242 : GEdit) : Heap := [(.blk 2 (List.map c_GConflict l119)), (.mp (entL kv_GConflict a_bool l120)), (.blk 10 [(c_GEdit x242)]), (.blk 2 [[(iv 3), (iv x242.ID)]])]
abbrev hp9 (l119 : (List GConflict)) (l120 : (List (GConflict × Bool))) (x242 : GEdit) : Heap := [(.blk 2 (List.map c_GConflict l119)), (.mp (entL kv_GConflict a_bool (mput l120 (GConflict.mk 3 x242.ID) true))), (.blk 10 [(c_GEdit x242)]), (.blk 2 [[(iv 3), (iv x242.ID)]])]
abbrev hp10 (l311 : (List GConflict)) (l120 : (List (GConflict × Bool))) (x242 : GEdit) : Heap := [(.blk 2 (List.map c_GConflict l311)), (.mp (entL kv_GConflict a_bool (mput l120 (GConflict.mk 3 x242.ID) true)))]
def f2_L0 (n : Nat) (a1 : (List GEdit)) : Nat → (List GConflict) → (List (GConflict × Bool)) → Int → Option ((List GConflict) × (List (GConflict × Bool)))
 | 0, _, _, _ => none
 | m + 1, l119, l120, i121 => (cnd (decide (i121 < ((a1.length : Nat) : Int))) (bnd (idx a1 i121) fun x242 => (cnd (x242.Kind == 1) (cnd ((Option.getD (mget l120 (GConflict.mk 1 x242.ID)) false)) (f2_L0 n a1 m l119 l120 (IntKind.i64.wrap (i121 + 1))) (bnd (app l119 [(GConflict.mk 1 x242.ID)]) fun l251 => (f2_L0 n a1 m l251 (mput l120 (GConflict.mk 1 x242.ID) true) (IntKind.i64.wrap (i121 + 1))))) (cnd (x242.Kind == 2) (cnd ((Option.getD (mget l120 (GConflict.mk 1 x242.ID)) false)) (f2_L0 n a1 m l119 l120 (IntKind.i64.wrap (i121 + 1))) (bnd (app l119 [(GConflict.mk 1 x242.ID)]) fun l261 => (f2_L0 n a1 m l261 (mput l120 (GConflict.mk 1 x242.ID) true) (IntKind.i64.wrap (i121 + 1))))) (cnd (x242.Kind == 3) (cnd ((Option.getD (mget l120 (GConflict.mk 1 x242.ID)) false)) (f2_L0 n a1 m l119 l120 (IntKind.i64.wrap (i121 + 1))) (bnd (app l119 [(GConflict.mk 1 x242.ID)]) fun l271 => (f2_L0 n a1 m l271 (mput l120 (GConflict.mk 1 x242.ID) true) (IntKind.i64.wrap (i121 + 1))))) (cnd (x242.Kind == 4) (cnd ((Option.getD (mget l120 (GConflict.mk 2 x242.ID)) false)) (f2_L0 n a1 m l119 l120 (IntKind.i64.wrap (i121 + 1))) (bnd (app l119 [(GConflict.mk 2 x242.ID)]) fun l281 => (f2_L0 n a1 m l281 (mput l120 (GConflict.mk 2 x242.ID) true) (IntKind.i64.wrap (i121 + 1))))) (cnd (x242.Kind == 5) (cnd ((Option.getD (mget l120 (GConflict.mk 2 x242.ID)) false)) (f2_L0 n a1 m l119 l120 (IntKind.i64.wrap (i121 + 1))) (bnd (app l119 [(GConflict.mk 2 x242.ID)]) fun l291 => (f2_L0 n a1 m l291 (mput l120 (GConflict.mk 2 x242.ID) true) (IntKind.i64.wrap (i121 + 1))))) (cnd (x242.Kind == 6) (cnd ((Option.getD (mget l120 (GConflict.mk 2 x242.ID)) false)) (f2_L0 n a1 m l119 l120 (IntKind.i64.wrap (i121 + 1))) (bnd (app l119 [(GConflict.mk 2 x242.ID)]) fun l301 => (f2_L0 n a1 m l301 (mput l120 (GConflict.mk 2 x242.ID) true) (IntKind.i64.wrap (i121 + 1))))) (cnd (x242.Kind == 7) (cnd ((Option.getD (mget l120 (GConflict.mk 3 x242.ID)) false)) (f2_L0 n a1 m l119 l120 (IntKind.i64.wrap (i121 + 1))) (bnd (app l119 [(GConflict.mk 3 x242.ID)]) fun l311 => (f2_L0 n a1 m l311 (mput l120 (GConflict.mk 3 x242.ID) true) (IntKind.i64.wrap (i121 + 1))))) (cnd (x242.Kind == 8) (cnd ((Option.getD (mget l120 (GConflict.mk 3 x242.ID)) false)) (f2_L0 n a1 m l119 l120 (IntKind.i64.wrap (i121 + 1))) (bnd (app l119 [(GConflict.mk 3 x242.ID)]) fun l321 => (f2_L0 n a1 m l321 (mput l120 (GConflict.mk 3 x242.ID) true) (IntKind.i64.wrap (i121 + 1))))) (cnd (x242.Kind == 9) (cnd ((Option.getD (mget l120 (GConflict.mk 3 x242.ID)) false)) (f2_L0 n a1 m l119 l120 (IntKind.i64.wrap (i121 + 1))) (bnd (app l119 [(GConflict.mk 3 x242.ID)]) fun l331 => (f2_L0 n a1 m l331 (mput l120 (GConflict.mk 3 x242.ID) true) (IntKind.i64.wrap (i121 + 1))))) (cnd (x242.Kind == 10) (cnd ((Option.getD (mget l120 (GConflict.mk 3 x242.ID)) false)) (f2_L0 n a1 m l119 l120 (IntKind.i64.wrap (i121 + 1))) (bnd (app l119 [(GConflict.mk 3 x242.ID)]) fun l341 => (f2_L0 n a1 m l341 (mput l120 (GConflict.mk 3 x242.ID) true) (IntKind.i64.wrap (i121 + 1))))) (cnd (x242.Kind == 11) (cnd ((Option.getD (mget l120 (GConflict.mk 3 x242.ID)) false)) (f2_L0 n a1 m l119 l120 (IntKind.i64.wrap (i121 + 1))) (bnd (app l119 [(GConflict.mk 3 x242.ID)]) fun l351 => (f2_L0 n a1 m l351 (mput l120 (GConflict.mk 3 x242.ID) true) (IntKind.i64.wrap (i121 + 1))))) (f2_L0 n a1 m l119 l120 (IntKind.i64.wrap (i121 + 1))))))))))))))) (some (l119, l120)))
theorem f2_L0_ok (n : Nat) (a1 : (List GEdit)) : ∀ (m : Nat) (l119 : (List GConflict)) (l120 : (List (GConflict × Bool))) (i121 : Int) (r : ((List GConflict) × (List (GConflict × Bool)))), f2_L0 n a1 m l119 l120 i121 = some r → maskR [false, false, true] [false, false, true] true 0 2 (evLoopH (headSt (some [false, false, true, true, false, false, false, false, false, true, true, true]) true 0 2) (evC PP (evF PP T n) n 0 L2_0) m (f2_L0_S a1 l119 l120 i121)) = some ((.exit 0), f2_L0_E0 a1 r.1 r.2)
 | 0, _, _, _, _, h => by cases h
 | m + 1, l119, l120, i121, r, h => by
  rw [f2_L0] at h
  rcases cnd_or h with ⟨h240, h⟩ | ⟨h240, h⟩
  rotate_left
  ·have g355 := bool_eq h240
   obtain rfl := si h
   exact last_z (live := some [false, false, true, true, false, false, false, false, false, true, true, true]) (tr' := true) (st' := f2_L0_E0 a1 l119 l120) ⟨[ff 12], []⟩ [] [] rfl (Z g355 Z0) (by kernel_rfl) (by exact (clo (clo_blk (c_GConflict_clean 2)) (clo (clo_mp (kv := kv_GConflict) (va := a_bool) fun _ => rfl) rfl)))
  have g241 := bool_eq h240
  obtain ⟨x242, e243, h⟩ := bnd_some h
  have g244 := idxl (H := (hp1 l119 l120)) (f := false) (c := c_GEdit) e243 (c_GEdit_len _)
  rcases cnd_or h with ⟨h245, h⟩ | ⟨h245, h⟩
  ·have g246 := bool_eq h245
   rcases cnd_or h with ⟨h247, h⟩ | ⟨h247, h⟩
   ·have g248 := by have q := look_ok (P := PP) (cf := evF PP T n) (fl := 0) (H := (hp2 l119 l120 x242)) (id := 1) (kv := kv_GConflict) (va := a_bool) (m := l120) (k := (GConflict.mk 1 x242.ID)) (x := (.agg [(iv 1), (iv x242.ID)])) key_GConflict false rfl rfl; simp only [h247, a_bool] at q; exact q
    exact (congrArg (maskR [false, false, true] [false, false, true] true 0 2) (next_z (live := some [false, false, true, true, false, false, false, false, false, true, true, true]) (tr := true) (st' := f2_L0_S a1 l119 l120 (IntKind.i64.wrap (i121 + 1))) ⟨[tt 12, (13, (.rptr [(iv x242.Kind), (iv x242.ID), (iv x242.A), (iv x242.B), (iv x242.C), (iv x242.At.X), (iv x242.At.Y), (.sl false (List.map c_GPoint x242.Via)), (sv x242.Name), (.sl false (List.map c_i64 x242.Parts))]), none), tt 18, tt 37], []⟩ [] [none, none] rfl (W4 g248 g246 g244 g241 Z0) (by kernel_rfl) (by exact (clo (clo_blk (c_GConflict_clean 2)) (clo (clo_mp (kv := kv_GConflict) (va := a_bool) fun _ => rfl) rfl))) rfl)).trans (f2_L0_ok n a1 m l119 l120 (IntKind.i64.wrap (i121 + 1)) r h)
   have g249 := by have q := look_ok (P := PP) (cf := evF PP T n) (fl := 0) (H := (hp2 l119 l120 x242)) (id := 1) (kv := kv_GConflict) (va := a_bool) (m := l120) (k := (GConflict.mk 1 x242.ID)) (x := (.agg [(iv 1), (iv x242.ID)])) key_GConflict false rfl rfl; simp only [h247, a_bool] at q; exact q
   have g250 := upd_ok (P := PP) (cf := evF PP T n) (fl := 0) (H := (hp2 l119 l120 x242)) (id := 1) (kv := kv_GConflict) (va := a_bool) (m := l120) (k := (GConflict.mk 1 x242.ID)) (x := (.agg [(iv 1), (iv x242.ID)])) key_GConflict true rfl (by omega) rfl
   obtain ⟨l251, e252, h⟩ := bnd_some h
   have g253 := app_ms (fl := 0) (H := (hp3 l119 l120 x242)) (id := 0) (s := 2) (bytes := 16) (c := c_GConflict) (l := l119) e252 rfl c_GConflict_len (by omega) (by omega) (by omega)
   exact (congrArg (maskR [false, false, true] [false, false, true] true 0 2) (next_z (live := some [false, false, true, true, false, false, false, false, false, true, true, true]) (tr := true) (st' := f2_L0_S a1 l251 (mput l120 (GConflict.mk 1 x242.ID) true) (IntKind.i64.wrap (i121 + 1))) ⟨[tt 12, (13, (.rptr [(iv x242.Kind), (iv x242.ID), (iv x242.A), (iv x242.B), (iv x242.C), (iv x242.At.X), (iv x242.At.Y), (.sl false (List.map c_GPoint x242.Via)), (sv x242.Name), (.sl false (List.map c_i64 x242.Parts))]), none), tt 18, ff 37, (44, (.ms 0 l251.length 0 l251.length), (some (hp3 l251 l120 x242)))], []⟩ [] [none, none, some (hp3 l119 l120 x242)] rfl (W4 g253 g250 g249 g246 <| W2 g244 g241 Z0) (by kernel_rfl) (by exact (clo (clo_blk (c_GConflict_clean 2)) (clo (clo_mp (kv := kv_GConflict) (va := a_bool) fun _ => rfl) rfl))) rfl)).trans (f2_L0_ok n a1 m l251 (mput l120 (GConflict.mk 1 x242.ID) true) (IntKind.i64.wrap (i121 + 1)) r h)
  have g254 := bool_eq h245
  rcases cnd_or h with ⟨h255, h⟩ | ⟨h255, h⟩
  ·have g256 := bool_eq h255
   rcases cnd_or h with ⟨h257, h⟩ | ⟨h257, h⟩
   ·have g258 := by have q := look_ok (P := PP) (cf := evF PP T n) (fl := 0) (H := (hp2 l119 l120 x242)) (id := 1) (kv := kv_GConflict) (va := a_bool) (m := l120) (k := (GConflict.mk 1 x242.ID)) (x := (.agg [(iv 1), (iv x242.ID)])) key_GConflict false rfl rfl; simp only [h257, a_bool] at q; exact q
    exact (congrArg (maskR [false, false, true] [false, false, true] true 0 2) (next_z (live := some [false, false, true, true, false, false, false, false, false, true, true, true]) (tr := true) (st' := f2_L0_S a1 l119 l120 (IntKind.i64.wrap (i121 + 1))) ⟨[tt 12, (13, (.rptr [(iv x242.Kind), (iv x242.ID), (iv x242.A), (iv x242.B), (iv x242.C), (iv x242.At.X), (iv x242.At.Y), (.sl false (List.map c_GPoint x242.Via)), (sv x242.Name), (.sl false (List.map c_i64 x242.Parts))]), none), ff 18, tt 19, tt 37], []⟩ [] [none, none] rfl (W4 g258 g256 g254 g244 <| Z g241 Z0) (by kernel_rfl) (by exact (clo (clo_blk (c_GConflict_clean 2)) (clo (clo_mp (kv := kv_GConflict) (va := a_bool) fun _ => rfl) rfl))) rfl)).trans (f2_L0_ok n a1 m l119 l120 (IntKind.i64.wrap (i121 + 1)) r h)
   have g259 := by have q := look_ok (P := PP) (cf := evF PP T n) (fl := 0) (H := (hp2 l119 l120 x242)) (id := 1) (kv := kv_GConflict) (va := a_bool) (m := l120) (k := (GConflict.mk 1 x242.ID)) (x := (.agg [(iv 1), (iv x242.ID)])) key_GConflict false rfl rfl; simp only [h257, a_bool] at q; exact q
   have g260 := upd_ok (P := PP) (cf := evF PP T n) (fl := 0) (H := (hp2 l119 l120 x242)) (id := 1) (kv := kv_GConflict) (va := a_bool) (m := l120) (k := (GConflict.mk 1 x242.ID)) (x := (.agg [(iv 1), (iv x242.ID)])) key_GConflict true rfl (by omega) rfl
   obtain ⟨l261, e262, h⟩ := bnd_some h
   have g263 := app_ms (fl := 0) (H := (hp3 l119 l120 x242)) (id := 0) (s := 2) (bytes := 16) (c := c_GConflict) (l := l119) e262 rfl c_GConflict_len (by omega) (by omega) (by omega)
   exact (congrArg (maskR [false, false, true] [false, false, true] true 0 2) (next_z (live := some [false, false, true, true, false, false, false, false, false, true, true, true]) (tr := true) (st' := f2_L0_S a1 l261 (mput l120 (GConflict.mk 1 x242.ID) true) (IntKind.i64.wrap (i121 + 1))) ⟨[tt 12, (13, (.rptr [(iv x242.Kind), (iv x242.ID), (iv x242.A), (iv x242.B), (iv x242.C), (iv x242.At.X), (iv x242.At.Y), (.sl false (List.map c_GPoint x242.Via)), (sv x242.Name), (.sl false (List.map c_i64 x242.Parts))]), none), ff 18, tt 19, ff 37, (44, (.ms 0 l261.length 0 l261.length), (some (hp3 l261 l120 x242)))], []⟩ [] [none, none, some (hp3 l119 l120 x242)] rfl (W4 g263 g260 g259 g256 <| W2 g254 g244 <| Z g241 Z0) (by kernel_rfl) (by exact (clo (clo_blk (c_GConflict_clean 2)) (clo (clo_mp (kv := kv_GConflict) (va := a_bool) fun _ => rfl) rfl))) rfl)).trans (f2_L0_ok n a1 m l261 (mput l120 (GConflict.mk 1 x242.ID) true) (IntKind.i64.wrap (i121 + 1)) r h)
  have g264 := bool_eq h255
  rcases cnd_or h with ⟨h265, h⟩ | ⟨h265, h⟩
  ·have g266 := bool_eq h265
   rcases cnd_or h with ⟨h267, h⟩ | ⟨h267, h⟩
   ·have g268 := by have q := look_ok (P := PP) (cf := evF PP T n) (fl := 0) (H := (hp2 l119 l120 x242)) (id := 1) (kv := kv_GConflict) (va := a_bool) (m := l120) (k := (GConflict.mk 1 x242.ID)) (x := (.agg [(iv 1), (iv x242.ID)])) key_GConflict false rfl rfl; simp only [h267, a_bool] at q; exact q
    exact (congrArg (maskR [false, false, true] [false, false, true] true 0 2) (next_z (live := some [false, false, true, true, false, false, false, false, false, true, true, true]) (tr := true) (st' := f2_L0_S a1 l119 l120 (IntKind.i64.wrap (i121 + 1))) ⟨[tt 12, (13, (.rptr [(iv x242.Kind), (iv x242.ID), (iv x242.A), (iv x242.B), (iv x242.C), (iv x242.At.X), (iv x242.At.Y), (.sl false (List.map c_GPoint x242.Via)), (sv x242.Name), (.sl false (List.map c_i64 x242.Parts))]), none), ff 18, ff 19, tt 20, tt 37], []⟩ [] [none, none] rfl (W4 g268 g266 g264 g254 <| W2 g244 g241 Z0) (by kernel_rfl) (by exact (clo (clo_blk (c_GConflict_clean 2)) (clo (clo_mp (kv := kv_GConflict) (va := a_bool) fun _ => rfl) rfl))) rfl)).trans (f2_L0_ok n a1 m l119 l120 (IntKind.i64.wrap (i121 + 1)) r h)
   have g269 := by have q := look_ok (P := PP) (cf := evF PP T n) (fl := 0) (H := (hp2 l119 l120 x242)) (id := 1) (kv := kv_GConflict) (va := a_bool) (m := l120) (k := (GConflict.mk 1 x242.ID)) (x := (.agg [(iv 1), (iv x242.ID)])) key_GConflict false rfl rfl; simp only [h267, a_bool] at q; exact q
   have g270 := upd_ok (P := PP) (cf := evF PP T n) (fl := 0) (H := (hp2 l119 l120 x242)) (id := 1) (kv := kv_GConflict) (va := a_bool) (m := l120) (k := (GConflict.mk 1 x242.ID)) (x := (.agg [(iv 1), (iv x242.ID)])) key_GConflict true rfl (by omega) rfl
   obtain ⟨l271, e272, h⟩ := bnd_some h
   have g273 := app_ms (fl := 0) (H := (hp3 l119 l120 x242)) (id := 0) (s := 2) (bytes := 16) (c := c_GConflict) (l := l119) e272 rfl c_GConflict_len (by omega) (by omega) (by omega)
   exact (congrArg (maskR [false, false, true] [false, false, true] true 0 2) (next_z (live := some [false, false, true, true, false, false, false, false, false, true, true, true]) (tr := true) (st' := f2_L0_S a1 l271 (mput l120 (GConflict.mk 1 x242.ID) true) (IntKind.i64.wrap (i121 + 1))) ⟨[tt 12, (13, (.rptr [(iv x242.Kind), (iv x242.ID), (iv x242.A), (iv x242.B), (iv x242.C), (iv x242.At.X), (iv x242.At.Y), (.sl false (List.map c_GPoint x242.Via)), (sv x242.Name), (.sl false (List.map c_i64 x242.Parts))]), none), ff 18, ff 19, tt 20, ff 37, (44, (.ms 0 l271.length 0 l271.length), (some (hp3 l271 l120 x242)))], []⟩ [] [none, none, some (hp3 l119 l120 x242)] rfl (W8 g273 g270 g269 g266 g264 g254 g244 g241 Z0) (by kernel_rfl) (by exact (clo (clo_blk (c_GConflict_clean 2)) (clo (clo_mp (kv := kv_GConflict) (va := a_bool) fun _ => rfl) rfl))) rfl)).trans (f2_L0_ok n a1 m l271 (mput l120 (GConflict.mk 1 x242.ID) true) (IntKind.i64.wrap (i121 + 1)) r h)
  have g274 := bool_eq h265
  rcases cnd_or h with ⟨h275, h⟩ | ⟨h275, h⟩
  ·have g276 := bool_eq h275
   rcases cnd_or h with ⟨h277, h⟩ | ⟨h277, h⟩
   ·have g278 := by have q := look_ok (P := PP) (cf := evF PP T n) (fl := 0) (H := (hp5 l119 l120 x242)) (id := 1) (kv := kv_GConflict) (va := a_bool) (m := l120) (k := (GConflict.mk 2 x242.ID)) (x := (.agg [(iv 2), (iv x242.ID)])) key_GConflict false rfl rfl; simp only [h277, a_bool] at q; exact q
    exact (congrArg (maskR [false, false, true] [false, false, true] true 0 2) (next_z (live := some [false, false, true, true, false, false, false, false, false, true, true, true]) (tr := true) (st' := f2_L0_S a1 l119 l120 (IntKind.i64.wrap (i121 + 1))) ⟨[tt 12, (13, (.rptr [(iv x242.Kind), (iv x242.ID), (iv x242.A), (iv x242.B), (iv x242.C), (iv x242.At.X), (iv x242.At.Y), (.sl false (List.map c_GPoint x242.Via)), (sv x242.Name), (.sl false (List.map c_i64 x242.Parts))]), none), ff 18, ff 19, ff 20, tt 22, tt 37], []⟩ [] [none, none] rfl (W4 g278 g276 g274 g264 <| W2 g254 g244 <| Z g241 Z0) (by kernel_rfl) (by exact (clo (clo_blk (c_GConflict_clean 2)) (clo (clo_mp (kv := kv_GConflict) (va := a_bool) fun _ => rfl) rfl))) rfl)).trans (f2_L0_ok n a1 m l119 l120 (IntKind.i64.wrap (i121 + 1)) r h)
   have g279 := by have q := look_ok (P := PP) (cf := evF PP T n) (fl := 0) (H := (hp5 l119 l120 x242)) (id := 1) (kv := kv_GConflict) (va := a_bool) (m := l120) (k := (GConflict.mk 2 x242.ID)) (x := (.agg [(iv 2), (iv x242.ID)])) key_GConflict false rfl rfl; simp only [h277, a_bool] at q; exact q
   have g280 := upd_ok (P := PP) (cf := evF PP T n) (fl := 0) (H := (hp5 l119 l120 x242)) (id := 1) (kv := kv_GConflict) (va := a_bool) (m := l120) (k := (GConflict.mk 2 x242.ID)) (x := (.agg [(iv 2), (iv x242.ID)])) key_GConflict true rfl (by omega) rfl
   obtain ⟨l281, e282, h⟩ := bnd_some h
   have g283 := app_ms (fl := 0) (H := (hp6 l119 l120 x242)) (id := 0) (s := 2) (bytes := 16) (c := c_GConflict) (l := l119) e282 rfl c_GConflict_len (by omega) (by omega) (by omega)
   exact (congrArg (maskR [false, false, true] [false, false, true] true 0 2) (next_z (live := some [false, false, true, true, false, false, false, false, false, true, true, true]) (tr := true) (st' := f2_L0_S a1 l281 (mput l120 (GConflict.mk 2 x242.ID) true) (IntKind.i64.wrap (i121 + 1))) ⟨[tt 12, (13, (.rptr [(iv x242.Kind), (iv x242.ID), (iv x242.A), (iv x242.B), (iv x242.C), (iv x242.At.X), (iv x242.At.Y), (.sl false (List.map c_GPoint x242.Via)), (sv x242.Name), (.sl false (List.map c_i64 x242.Parts))]), none), ff 18, ff 19, ff 20, tt 22, ff 37, (44, (.ms 0 l281.length 0 l281.length), (some (hp6 l281 l120 x242)))], []⟩ [] [none, none, some (hp6 l119 l120 x242)] rfl (W8 g283 g280 g279 g276 g274 g264 g254 g244 <| Z g241 Z0) (by kernel_rfl) (by exact (clo (clo_blk (c_GConflict_clean 2)) (clo (clo_mp (kv := kv_GConflict) (va := a_bool) fun _ => rfl) rfl))) rfl)).trans (f2_L0_ok n a1 m l281 (mput l120 (GConflict.mk 2 x242.ID) true) (IntKind.i64.wrap (i121 + 1)) r h)
  have g284 := bool_eq h275
  rcases cnd_or h with ⟨h285, h⟩ | ⟨h285, h⟩
  ·have g286 := bool_eq h285
   rcases cnd_or h with ⟨h287, h⟩ | ⟨h287, h⟩
   ·have g288 := by have q := look_ok (P := PP) (cf := evF PP T n) (fl := 0) (H := (hp5 l119 l120 x242)) (id := 1) (kv := kv_GConflict) (va := a_bool) (m := l120) (k := (GConflict.mk 2 x242.ID)) (x := (.agg [(iv 2), (iv x242.ID)])) key_GConflict false rfl rfl; simp only [h287, a_bool] at q; exact q
    exact (congrArg (maskR [false, false, true] [false, false, true] true 0 2) (next_z (live := some [false, false, true, true, false, false, false, false, false, true, true, true]) (tr := true) (st' := f2_L0_S a1 l119 l120 (IntKind.i64.wrap (i121 + 1))) ⟨[tt 12, (13, (.rptr [(iv x242.Kind), (iv x242.ID), (iv x242.A), (iv x242.B), (iv x242.C), (iv x242.At.X), (iv x242.At.Y), (.sl false (List.map c_GPoint x242.Via)), (sv x242.Name), (.sl false (List.map c_i64 x242.Parts))]), none), ff 18, ff 19, ff 20, ff 22, tt 23, tt 37], []⟩ [] [none, none] rfl (W8 g288 g286 g284 g274 g264 g254 g244 g241 Z0) (by kernel_rfl) (by exact (clo (clo_blk (c_GConflict_clean 2)) (clo (clo_mp (kv := kv_GConflict) (va := a_bool) fun _ => rfl) rfl))) rfl)).trans (f2_L0_ok n a1 m l119 l120 (IntKind.i64.wrap (i121 + 1)) r h)
   have g289 := by have q := look_ok (P := PP) (cf := evF PP T n) (fl := 0) (H := (hp5 l119 l120 x242)) (id := 1) (kv := kv_GConflict) (va := a_bool) (m := l120) (k := (GConflict.mk 2 x242.ID)) (x := (.agg [(iv 2), (iv x242.ID)])) key_GConflict false rfl rfl; simp only [h287, a_bool] at q; exact q
   have g290 := upd_ok (P := PP) (cf := evF PP T n) (fl := 0) (H := (hp5 l119 l120 x242)) (id := 1) (kv := kv_GConflict) (va := a_bool) (m := l120) (k := (GConflict.mk 2 x242.ID)) (x := (.agg [(iv 2), (iv x242.ID)])) key_GConflict true rfl (by omega) rfl
   obtain ⟨l291, e292, h⟩ := bnd_some h
   have g293 := app_ms (fl := 0) (H := (hp6 l119 l120 x242)) (id := 0) (s := 2) (bytes := 16) (c := c_GConflict) (l := l119) e292 rfl c_GConflict_len (by omega) (by omega) (by omega)
   exact (congrArg (maskR [false, false, true] [false, false, true] true 0 2) (next_z (live := some [false, false, true, true, false, false, false, false, false, true, true, true]) (tr := true) (st' := f2_L0_S a1 l291 (mput l120 (GConflict.mk 2 x242.ID) true) (IntKind.i64.wrap (i121 + 1))) ⟨[tt 12, (13, (.rptr [(iv x242.Kind), (iv x242.ID), (iv x242.A), (iv x242.B), (iv x242.C), (iv x242.At.X), (iv x242.At.Y), (.sl false (List.map c_GPoint x242.Via)), (sv x242.Name), (.sl false (List.map c_i64 x242.Parts))]), none), ff 18, ff 19, ff 20, ff 22, tt 23, ff 37, (44, (.ms 0 l291.length 0 l291.length), (some (hp6 l291 l120 x242)))], []⟩ [] [none, none, some (hp6 l119 l120 x242)] rfl (W8 g293 g290 g289 g286 g284 g274 g264 g254 <| W2 g244 g241 Z0) (by kernel_rfl) (by exact (clo (clo_blk (c_GConflict_clean 2)) (clo (clo_mp (kv := kv_GConflict) (va := a_bool) fun _ => rfl) rfl))) rfl)).trans (f2_L0_ok n a1 m l291 (mput l120 (GConflict.mk 2 x242.ID) true) (IntKind.i64.wrap (i121 + 1)) r h)
  have g294 := bool_eq h285
  rcases cnd_or h with ⟨h295, h⟩ | ⟨h295, h⟩
  ·have g296 := bool_eq h295
   rcases cnd_or h with ⟨h297, h⟩ | ⟨h297, h⟩
   ·have g298 := by have q := look_ok (P := PP) (cf := evF PP T n) (fl := 0) (H := (hp5 l119 l120 x242)) (id := 1) (kv := kv_GConflict) (va := a_bool) (m := l120) (k := (GConflict.mk 2 x242.ID)) (x := (.agg [(iv 2), (iv x242.ID)])) key_GConflict false rfl rfl; simp only [h297, a_bool] at q; exact q
    exact (congrArg (maskR [false, false, true] [false, false, true] true 0 2) (next_z (live := some [false, false, true, true, false, false, false, false, false, true, true, true]) (tr := true) (st' := f2_L0_S a1 l119 l120 (IntKind.i64.wrap (i121 + 1))) ⟨[tt 12, (13, (.rptr [(iv x242.Kind), (iv x242.ID), (iv x242.A), (iv x242.B), (iv x242.C), (iv x242.At.X), (iv x242.At.Y), (.sl false (List.map c_GPoint x242.Via)), (sv x242.Name), (.sl false (List.map c_i64 x242.Parts))]), none), ff 18, ff 19, ff 20, ff 22, ff 23, tt 24, tt 37], []⟩ [] [none, none] rfl (W8 g298 g296 g294 g284 g274 g264 g254 g244 <| Z g241 Z0) (by kernel_rfl) (by exact (clo (clo_blk (c_GConflict_clean 2)) (clo (clo_mp (kv := kv_GConflict) (va := a_bool) fun _ => rfl) rfl))) rfl)).trans (f2_L0_ok n a1 m l119 l120 (IntKind.i64.wrap (i121 + 1)) r h)
   have g299 := by have q := look_ok (P := PP) (cf := evF PP T n) (fl := 0) (H := (hp5 l119 l120 x242)) (id := 1) (kv := kv_GConflict) (va := a_bool) (m := l120) (k := (GConflict.mk 2 x242.ID)) (x := (.agg [(iv 2), (iv x242.ID)])) key_GConflict false rfl rfl; simp only [h297, a_bool] at q; exact q
   have g300 := upd_ok (P := PP) (cf := evF PP T n) (fl := 0) (H := (hp5 l119 l120 x242)) (id := 1) (kv := kv_GConflict) (va := a_bool) (m := l120) (k := (GConflict.mk 2 x242.ID)) (x := (.agg [(iv 2), (iv x242.ID)])) key_GConflict true rfl (by omega) rfl
   obtain ⟨l301, e302, h⟩ := bnd_some h
   have g303 := app_ms (fl := 0) (H := (hp6 l119 l120 x242)) (id := 0) (s := 2) (bytes := 16) (c := c_GConflict) (l := l119) e302 rfl c_GConflict_len (by omega) (by omega) (by omega)
   exact (congrArg (maskR [false, false, true] [false, false, true] true 0 2) (next_z (live := some [false, false, true, true, false, false, false, false, false, true, true, true]) (tr := true) (st' := f2_L0_S a1 l301 (mput l120 (GConflict.mk 2 x242.ID) true) (IntKind.i64.wrap (i121 + 1))) ⟨[tt 12, (13, (.rptr [(iv x242.Kind), (iv x242.ID), (iv x242.A), (iv x242.B), (iv x242.C), (iv x242.At.X), (iv x242.At.Y), (.sl false (List.map c_GPoint x242.Via)), (sv x242.Name), (.sl false (List.map c_i64 x242.Parts))]), none), ff 18, ff 19, ff 20, ff 22, ff 23, tt 24, ff 37, (44, (.ms 0 l301.length 0 l301.length), (some (hp6 l301 l120 x242)))], []⟩ [] [none, none, some (hp6 l119 l120 x242)] rfl (W8 g303 g300 g299 g296 g294 g284 g274 g264 <| W2 g254 g244 <| Z g241 Z0) (by kernel_rfl) (by exact (clo (clo_blk (c_GConflict_clean 2)) (clo (clo_mp (kv := kv_GConflict) (va := a_bool) fun _ => rfl) rfl))) rfl)).trans (f2_L0_ok n a1 m l301 (mput l120 (GConflict.mk 2 x242.ID) true) (IntKind.i64.wrap (i121 + 1)) r h)
  have g304 := bool_eq h295
  rcases cnd_or h with ⟨h305, h⟩ | ⟨h305, h⟩
  ·have g306 := bool_eq h305
   rcases cnd_or h with ⟨h307, h⟩ | ⟨h307, h⟩
   ·have g308 := by have q := look_ok (P := PP) (cf := evF PP T n) (fl := 0) (H := (hp8 l119 l120 x242)) (id := 1) (kv := kv_GConflict) (va := a_bool) (m := l120) (k := (GConflict.mk 3 x242.ID)) (x := (.agg [(iv 3), (iv x242.ID)])) key_GConflict false rfl rfl; simp only [h307, a_bool] at q; exact q
    exact (congrArg (maskR [false, false, true] [false, false, true] true 0 2) (next_z (live := some [false, false, true, true, false, false, false, false, false, true, true, true]) (tr := true) (st' := f2_L0_S a1 l119 l120 (IntKind.i64.wrap (i121 + 1))) ⟨[tt 12, (13, (.rptr [(iv x242.Kind), (iv x242.ID), (iv x242.A), (iv x242.B), (iv x242.C), (iv x242.At.X), (iv x242.At.Y), (.sl false (List.map c_GPoint x242.Via)), (sv x242.Name), (.sl false (List.map c_i64 x242.Parts))]), none), ff 18, ff 19, ff 20, ff 22, ff 23, ff 24, tt 26, tt 37], []⟩ [] [none, none] rfl (W8 g308 g306 g304 g294 g284 g274 g264 g254 <| W2 g244 g241 Z0) (by kernel_rfl) (by exact (clo (clo_blk (c_GConflict_clean 2)) (clo (clo_mp (kv := kv_GConflict) (va := a_bool) fun _ => rfl) rfl))) rfl)).trans (f2_L0_ok n a1 m l119 l120 (IntKind.i64.wrap (i121 + 1)) r h)
   have g309 := by have q := look_ok (P := PP) (cf := evF PP T n) (fl := 0) (H := (hp8 l119 l120 x242)) (id := 1) (kv := kv_GConflict) (va := a_bool) (m := l120) (k := (GConflict.mk 3 x242.ID)) (x := (.agg [(iv 3), (iv x242.ID)])) key_GConflict false rfl rfl; simp only [h307, a_bool] at q; exact q
   have g310 := upd_ok (P := PP) (cf := evF PP T n) (fl := 0) (H := (hp8 l119 l120 x242)) (id := 1) (kv := kv_GConflict) (va := a_bool) (m := l120) (k := (GConflict.mk 3 x242.ID)) (x := (.agg [(iv 3), (iv x242.ID)])) key_GConflict true rfl (by omega) rfl
   obtain ⟨l311, e312, h⟩ := bnd_some h
   have g313 := app_ms (fl := 0) (H := (hp9 l119 l120 x242)) (id := 0) (s := 2) (bytes := 16) (c := c_GConflict) (l := l119) e312 rfl c_GConflict_len (by omega) (by omega) (by omega)
   exact (congrArg (maskR [false, false, true] [false, false, true] true 0 2) (next_z (live := some [false, false, true, true, false, false, false, false, false, true, true, true]) (tr := true) (st' := f2_L0_S a1 l311 (mput l120 (GConflict.mk 3 x242.ID) true) (IntKind.i64.wrap (i121 + 1))) ⟨[tt 12, (13, (.rptr [(iv x242.Kind), (iv x242.ID), (iv x242.A), (iv x242.B), (iv x242.C), (iv x242.At.X), (iv x242.At.Y), (.sl false (List.map c_GPoint x242.Via)), (sv x242.Name), (.sl false (List.map c_i64 x242.Parts))]), none), ff 18, ff 19, ff 20, ff 22, ff 23, ff 24, tt 26, ff 37, (44, (.ms 0 l311.length 0 l311.length), (some (hp9 l311 l120 x242)))], []⟩ [] [none, none, some (hp9 l119 l120 x242)] rfl (W8 g313 g310 g309 g306 g304 g294 g284 g274 <| W4 g264 g254 g244 g241 Z0) (by kernel_rfl) (by exact (clo (clo_blk (c_GConflict_clean 2)) (clo (clo_mp (kv := kv_GConflict) (va := a_bool) fun _ => rfl) rfl))) rfl)).trans (f2_L0_ok n a1 m l311 (mput l120 (GConflict.mk 3 x242.ID) true) (IntKind.i64.wrap (i121 + 1)) r h)
  have g314 := bool_eq h305
  rcases cnd_or h with ⟨h315, h⟩ | ⟨h315, h⟩
  ·have g316 := bool_eq h315
   rcases cnd_or h with ⟨h317, h⟩ | ⟨h317, h⟩
   ·have g318 := by have q := look_ok (P := PP) (cf := evF PP T n) (fl := 0) (H := (hp8 l119 l120 x242)) (id := 1) (kv := kv_GConflict) (va := a_bool) (m := l120) (k := (GConflict.mk 3 x242.ID)) (x := (.agg [(iv 3), (iv x242.ID)])) key_GConflict false rfl rfl; simp only [h317, a_bool] at q; exact q
    exact (congrArg (maskR [false, false, true] [false, false, true] true 0 2) (next_z (live := some [false, false, true, true, false, false, false, false, false, true, true, true]) (tr := true) (st' := f2_L0_S a1 l119 l120 (IntKind.i64.wrap (i121 + 1))) ⟨[tt 12, (13, (.rptr [(iv x242.Kind), (iv x242.ID), (iv x242.A), (iv x242.B), (iv x242.C), (iv x242.At.X), (iv x242.At.Y), (.sl false (List.map c_GPoint x242.Via)), (sv x242.Name), (.sl false (List.map c_i64 x242.Parts))]), none), ff 18, ff 19, ff 20, ff 22, ff 23, ff 24, ff 26, tt 27, tt 37], []⟩ [] [none, none] rfl (W8 g318 g316 g314 g304 g294 g284 g274 g264 <| W2 g254 g244 <| Z g241 Z0) (by kernel_rfl) (by exact (clo (clo_blk (c_GConflict_clean 2)) (clo (clo_mp (kv := kv_GConflict) (va := a_bool) fun _ => rfl) rfl))) rfl)).trans (f2_L0_ok n a1 m l119 l120 (IntKind.i64.wrap (i121 + 1)) r h)
   have g319 := by have q := look_ok (P := PP) (cf := evF PP T n) (fl := 0) (H := (hp8 l119 l120 x242)) (id := 1) (kv := kv_GConflict) (va := a_bool) (m := l120) (k := (GConflict.mk 3 x242.ID)) (x := (.agg [(iv 3), (iv x242.ID)])) key_GConflict false rfl rfl; simp only [h317, a_bool] at q; exact q
   have g320 := upd_ok (P := PP) (cf := evF PP T n) (fl := 0) (H := (hp8 l119 l120 x242)) (id := 1) (kv := kv_GConflict) (va := a_bool) (m := l120) (k := (GConflict.mk 3 x242.ID)) (x := (.agg [(iv 3), (iv x242.ID)])) key_GConflict true rfl (by omega) rfl
   obtain ⟨l321, e322, h⟩ := bnd_some h
   have g323 := app_ms (fl := 0) (H := (hp9 l119 l120 x242)) (id := 0) (s := 2) (bytes := 16) (c := c_GConflict) (l := l119) e322 rfl c_GConflict_len (by omega) (by omega) (by omega)
   exact (congrArg (maskR [false, false, true] [false, false, true] true 0 2) (next_z (live := some [false, false, true, true, false, false, false, false, false, true, true, true]) (tr := true) (st' := f2_L0_S a1 l321 (mput l120 (GConflict.mk 3 x242.ID) true) (IntKind.i64.wrap (i121 + 1))) ⟨[tt 12, (13, (.rptr [(iv x242.Kind), (iv x242.ID), (iv x242.A), (iv x242.B), (iv x242.C), (iv x242.At.X), (iv x242.At.Y), (.sl false (List.map c_GPoint x242.Via)), (sv x242.Name), (.sl false (List.map c_i64 x242.Parts))]), none), ff 18, ff 19, ff 20, ff 22, ff 23, ff 24, ff 26, tt 27, ff 37, (44, (.ms 0 l321.length 0 l321.length), (some (hp9 l321 l120 x242)))], []⟩ [] [none, none, some (hp9 l119 l120 x242)] rfl (W8 g323 g320 g319 g316 g314 g304 g294 g284 <| W4 g274 g264 g254 g244 <| Z g241 Z0) (by kernel_rfl) (by exact (clo (clo_blk (c_GConflict_clean 2)) (clo (clo_mp (kv := kv_GConflict) (va := a_bool) fun _ => rfl) rfl))) rfl)).trans (f2_L0_ok n a1 m l321 (mput l120 (GConflict.mk 3 x242.ID) true) (IntKind.i64.wrap (i121 + 1)) r h)
  have g324 := bool_eq h315
  rcases cnd_or h with ⟨h325, h⟩ | ⟨h325, h⟩
  ·have g326 := bool_eq h325
   rcases cnd_or h with ⟨h327, h⟩ | ⟨h327, h⟩
   ·have g328 := by have q := look_ok (P := PP) (cf := evF PP T n) (fl := 0) (H := (hp8 l119 l120 x242)) (id := 1) (kv := kv_GConflict) (va := a_bool) (m := l120) (k := (GConflict.mk 3 x242.ID)) (x := (.agg [(iv 3), (iv x242.ID)])) key_GConflict false rfl rfl; simp only [h327, a_bool] at q; exact q
    exact (congrArg (maskR [false, false, true] [false, false, true] true 0 2) (next_z (live := some [false, false, true, true, false, false, false, false, false, true, true, true]) (tr := true) (st' := f2_L0_S a1 l119 l120 (IntKind.i64.wrap (i121 + 1))) ⟨[tt 12, (13, (.rptr [(iv x242.Kind), (iv x242.ID), (iv x242.A), (iv x242.B), (iv x242.C), (iv x242.At.X), (iv x242.At.Y), (.sl false (List.map c_GPoint x242.Via)), (sv x242.Name), (.sl false (List.map c_i64 x242.Parts))]), none), ff 18, ff 19, ff 20, ff 22, ff 23, ff 24, ff 26, ff 27, tt 28, tt 37], []⟩ [] [none, none] rfl (W8 g328 g326 g324 g314 g304 g294 g284 g274 <| W4 g264 g254 g244 g241 Z0) (by kernel_rfl) (by exact (clo (clo_blk (c_GConflict_clean 2)) (clo (clo_mp (kv := kv_GConflict) (va := a_bool) fun _ => rfl) rfl))) rfl)).trans (f2_L0_ok n a1 m l119 l120 (IntKind.i64.wrap (i121 + 1)) r h)
   have g329 := by have q := look_ok (P := PP) (cf := evF PP T n) (fl := 0) (H := (hp8 l119 l120 x242)) (id := 1) (kv := kv_GConflict) (va := a_bool) (m := l120) (k := (GConflict.mk 3 x242.ID)) (x := (.agg [(iv 3), (iv x242.ID)])) key_GConflict false rfl rfl; simp only [h327, a_bool] at q; exact q
   have g330 := upd_ok (P := PP) (cf := evF PP T n) (fl := 0) (H := (hp8 l119 l120 x242)) (id := 1) (kv := kv_GConflict) (va := a_bool) (m := l120) (k := (GConflict.mk 3 x242.ID)) (x := (.agg [(iv 3), (iv x242.ID)])) key_GConflict true rfl (by omega) rfl
   obtain ⟨l331, e332, h⟩ := bnd_some h
   have g333 := app_ms (fl := 0) (H := (hp9 l119 l120 x242)) (id := 0) (s := 2) (bytes := 16) (c := c_GConflict) (l := l119) e332 rfl c_GConflict_len (by omega) (by omega) (by omega)
   exact (congrArg (maskR [false, false, true] [false, false, true] true 0 2) (next_z (live := some [false, false, true, true, false, false, false, false, false, true, true, true]) (tr := true) (st' := f2_L0_S a1 l331 (mput l120 (GConflict.mk 3 x242.ID) true) (IntKind.i64.wrap (i121 + 1))) ⟨[tt 12, (13, (.rptr [(iv x242.Kind), (iv x242.ID), (iv x242.A), (iv x242.B), (iv x242.C), (iv x242.At.X), (iv x242.At.Y), (.sl false (List.map c_GPoint x242.Via)), (sv x242.Name), (.sl false (List.map c_i64 x242.Parts))]), none), ff 18, ff 19, ff 20, ff 22, ff 23, ff 24, ff 26, ff 27, tt 28, ff 37, (44, (.ms 0 l331.length 0 l331.length), (some (hp9 l331 l120 x242)))], []⟩ [] [none, none, some (hp9 l119 l120 x242)] rfl (W8 g333 g330 g329 g326 g324 g314 g304 g294 <| W4 g284 g274 g264 g254 <| W2 g244 g241 Z0) (by kernel_rfl) (by exact (clo (clo_blk (c_GConflict_clean 2)) (clo (clo_mp (kv := kv_GConflict) (va := a_bool) fun _ => rfl) rfl))) rfl)).trans (f2_L0_ok n a1 m l331 (mput l120 (GConflict.mk 3 x242.ID) true) (IntKind.i64.wrap (i121 + 1)) r h)
  have g334 := bool_eq h325
  rcases cnd_or h with ⟨h335, h⟩ | ⟨h335, h⟩
  ·have g336 := bool_eq h335
   rcases cnd_or h with ⟨h337, h⟩ | ⟨h337, h⟩
   ·have g338 := by have q := look_ok (P := PP) (cf := evF PP T n) (fl := 0) (H := (hp8 l119 l120 x242)) (id := 1) (kv := kv_GConflict) (va := a_bool) (m := l120) (k := (GConflict.mk 3 x242.ID)) (x := (.agg [(iv 3), (iv x242.ID)])) key_GConflict false rfl rfl; simp only [h337, a_bool] at q; exact q
    exact (congrArg (maskR [false, false, true] [false, false, true] true 0 2) (next_z (live := some [false, false, true, true, false, false, false, false, false, true, true, true]) (tr := true) (st' := f2_L0_S a1 l119 l120 (IntKind.i64.wrap (i121 + 1))) ⟨[tt 12, (13, (.rptr [(iv x242.Kind), (iv x242.ID), (iv x242.A), (iv x242.B), (iv x242.C), (iv x242.At.X), (iv x242.At.Y), (.sl false (List.map c_GPoint x242.Via)), (sv x242.Name), (.sl false (List.map c_i64 x242.Parts))]), none), ff 18, ff 19, ff 20, ff 22, ff 23, ff 24, ff 26, ff 27, ff 28, tt 29, tt 37], []⟩ [] [none, none] rfl (W8 g338 g336 g334 g324 g314 g304 g294 g284 <| W4 g274 g264 g254 g244 <| Z g241 Z0) (by kernel_rfl) (by exact (clo (clo_blk (c_GConflict_clean 2)) (clo (clo_mp (kv := kv_GConflict) (va := a_bool) fun _ => rfl) rfl))) rfl)).trans (f2_L0_ok n a1 m l119 l120 (IntKind.i64.wrap (i121 + 1)) r h)
   have g339 := by have q := look_ok (P := PP) (cf := evF PP T n) (fl := 0) (H := (hp8 l119 l120 x242)) (id := 1) (kv := kv_GConflict) (va := a_bool) (m := l120) (k := (GConflict.mk 3 x242.ID)) (x := (.agg [(iv 3), (iv x242.ID)])) key_GConflict false rfl rfl; simp only [h337, a_bool] at q; exact q
   have g340 := upd_ok (P := PP) (cf := evF PP T n) (fl := 0) (H := (hp8 l119 l120 x242)) (id := 1) (kv := kv_GConflict) (va := a_bool) (m := l120) (k := (GConflict.mk 3 x242.ID)) (x := (.agg [(iv 3), (iv x242.ID)])) key_GConflict true rfl (by omega) rfl
   obtain ⟨l341, e342, h⟩ := bnd_some h
   have g343 := app_ms (fl := 0) (H := (hp9 l119 l120 x242)) (id := 0) (s := 2) (bytes := 16) (c := c_GConflict) (l := l119) e342 rfl c_GConflict_len (by omega) (by omega) (by omega)
   exact (congrArg (maskR [false, false, true] [false, false, true] true 0 2) (next_z (live := some [false, false, true, true, false, false, false, false, false, true, true, true]) (tr := true) (st' := f2_L0_S a1 l341 (mput l120 (GConflict.mk 3 x242.ID) true) (IntKind.i64.wrap (i121 + 1))) ⟨[tt 12, (13, (.rptr [(iv x242.Kind), (iv x242.ID), (iv x242.A), (iv x242.B), (iv x242.C), (iv x242.At.X), (iv x242.At.Y), (.sl false (List.map c_GPoint x242.Via)), (sv x242.Name), (.sl false (List.map c_i64 x242.Parts))]), none), ff 18, ff 19, ff 20, ff 22, ff 23, ff 24, ff 26, ff 27, ff 28, tt 29, ff 37, (44, (.ms 0 l341.length 0 l341.length), (some (hp9 l341 l120 x242)))], []⟩ [] [none, none, some (hp9 l119 l120 x242)] rfl (W8 g343 g340 g339 g336 g334 g324 g314 g304 <| W4 g294 g284 g274 g264 <| W2 g254 g244 <| Z g241 Z0) (by kernel_rfl) (by exact (clo (clo_blk (c_GConflict_clean 2)) (clo (clo_mp (kv := kv_GConflict) (va := a_bool) fun _ => rfl) rfl))) rfl)).trans (f2_L0_ok n a1 m l341 (mput l120 (GConflict.mk 3 x242.ID) true) (IntKind.i64.wrap (i121 + 1)) r h)
  have g344 := bool_eq h335
  rcases cnd_or h with ⟨h345, h⟩ | ⟨h345, h⟩
  rotate_left
  ·have g354 := bool_eq h345
   exact (congrArg (maskR [false, false, true] [false, false, true] true 0 2) (next_z (live := some [false, false, true, true, false, false, false, false, false, true, true, true]) (tr := true) (st' := f2_L0_S a1 l119 l120 (IntKind.i64.wrap (i121 + 1))) ⟨[tt 12, (13, (.rptr [(iv x242.Kind), (iv x242.ID), (iv x242.A), (iv x242.B), (iv x242.C), (iv x242.At.X), (iv x242.At.Y), (.sl false (List.map c_GPoint x242.Via)), (sv x242.Name), (.sl false (List.map c_i64 x242.Parts))]), none), ff 18, ff 19, ff 20, ff 22, ff 23, ff 24, ff 26, ff 27, ff 28, ff 29, ff 30], []⟩ [] [none] rfl (W8 g354 g344 g334 g324 g314 g304 g294 g284 <| W4 g274 g264 g254 g244 <| Z g241 Z0) (by kernel_rfl) (by exact (clo (clo_blk (c_GConflict_clean 2)) (clo (clo_mp (kv := kv_GConflict) (va := a_bool) fun _ => rfl) rfl))) rfl)).trans (f2_L0_ok n a1 m l119 l120 (IntKind.i64.wrap (i121 + 1)) r h)
  have g346 := bool_eq h345
  rcases cnd_or h with ⟨h347, h⟩ | ⟨h347, h⟩
  ·have g348 := by have q := look_ok (P := PP) (cf := evF PP T n) (fl := 0) (H := (hp8 l119 l120 x242)) (id := 1) (kv := kv_GConflict) (va := a_bool) (m := l120) (k := (GConflict.mk 3 x242.ID)) (x := (.agg [(iv 3), (iv x242.ID)])) key_GConflict false rfl rfl; simp only [h347, a_bool] at q; exact q
   exact (congrArg (maskR [false, false, true] [false, false, true] true 0 2) (next_z (live := some [false, false, true, true, false, false, false, false, false, true, true, true]) (tr := true) (st' := f2_L0_S a1 l119 l120 (IntKind.i64.wrap (i121 + 1))) ⟨[tt 12, (13, (.rptr [(iv x242.Kind), (iv x242.ID), (iv x242.A), (iv x242.B), (iv x242.C), (iv x242.At.X), (iv x242.At.Y), (.sl false (List.map c_GPoint x242.Via)), (sv x242.Name), (.sl false (List.map c_i64 x242.Parts))]), none), ff 18, ff 19, ff 20, ff 22, ff 23, ff 24, ff 26, ff 27, ff 28, ff 29, tt 30, tt 37], []⟩ [] [none, none] rfl (W8 g348 g346 g344 g334 g324 g314 g304 g294 <| W4 g284 g274 g264 g254 <| W2 g244 g241 Z0) (by kernel_rfl) (by exact (clo (clo_blk (c_GConflict_clean 2)) (clo (clo_mp (kv := kv_GConflict) (va := a_bool) fun _ => rfl) rfl))) rfl)).trans (f2_L0_ok n a1 m l119 l120 (IntKind.i64.wrap (i121 + 1)) r h)
  have g349 := by have q := look_ok (P := PP) (cf := evF PP T n) (fl := 0) (H := (hp8 l119 l120 x242)) (id := 1) (kv := kv_GConflict) (va := a_bool) (m := l120) (k := (GConflict.mk 3 x242.ID)) (x := (.agg [(iv 3), (iv x242.ID)])) key_GConflict false rfl rfl; simp only [h347, a_bool] at q; exact q
  have g350 := upd_ok (P := PP) (cf := evF PP T n) (fl := 0) (H := (hp8 l119 l120 x242)) (id := 1) (kv := kv_GConflict) (va := a_bool) (m := l120) (k := (GConflict.mk 3 x242.ID)) (x := (.agg [(iv 3), (iv x242.ID)])) key_GConflict true rfl (by omega) rfl
  obtain ⟨l351, e352, h⟩ := bnd_some h
  have g353 := app_ms (fl := 0) (H := (hp9 l119 l120 x242)) (id := 0) (s := 2) (bytes := 16) (c := c_GConflict) (l := l119) e352 rfl c_GConflict_len (by omega) (by omega) (by omega)
  exact (congrArg (maskR [false, false, true] [false, false, true] true 0 2) (next_z (live := some [false, false, true, true, false, false, false, false, false, true, true, true]) (tr := true) (st' := f2_L0_S a1 l351 (mput l120 (GConflict.mk 3 x242.ID) true) (IntKind.i64.wrap (i121 + 1))) ⟨[tt 12, (13, (.rptr [(iv x242.Kind), (iv x242.ID), (iv x242.A), (iv x242.B), (iv x242.C), (iv x242.At.X), (iv x242.At.Y), (.sl false (List.map c_GPoint x242.Via)), (sv x242.Name), (.sl false (List.map c_i64 x242.Parts))]), none), ff 18, ff 19, ff 20, ff 22, ff 23, ff 24, ff 26, ff 27, ff 28, ff 29, tt 30, ff 37, (44, (.ms 0 l351.length 0 l351.length), (some (hp9 l351 l120 x242)))], []⟩ [] [none, none, some (hp9 l119 l120 x242)] rfl (W8 g353 g350 g349 g346 g344 g334 g324 g314 <| W8 g304 g294 g284 g274 g264 g254 g244 g241 Z0) (by kernel_rfl) (by exact (clo (clo_blk (c_GConflict_clean 2)) (clo (clo_mp (kv := kv_GConflict) (va := a_bool) fun _ => rfl) rfl))) rfl)).trans (f2_L0_ok n a1 m l351 (mput l120 (GConflict.mk 3 x242.ID) true) (IntKind.i64.wrap (i121 + 1)) r h)
abbrev hp11 (v359 : ((List GConflict) × (List (GConflict × Bool)))) : Heap := [(.blk 2 (List.map c_GConflict v359.1)), (.mp (entL kv_GConflict a_bool v359.2))]
abbrev hp12 (v359 : ((List GConflict) × (List (GConflict × Bool)))) : Heap := [(.blk 2 (List.map c_GConflict (sortC v359.1))), (.mp (entL kv_GConflict a_bool v359.2))]
def f2 : Nat → (List GEdit) → Option (List GConflict)
 | 0, _ => none
 | n + 1, a1 => (bnd (f2_L0 n a1 n [] ([] : List (GConflict × Bool)) 0) fun v359 => (bnd (prd n) fun n360 => bnd (grd (decide (List.length v359.1 ≤ 1000000))) fun u363 => (some (sortC v359.1))))
theorem f2_ok (n : Nat) (a1 : (List GEdit)) (r : (List GConflict)) (h : f2 n a1 = some r) : pv PP T n 2 [(.sl false (List.map c_GEdit a1))] = some (.sl false (List.map c_GConflict r)) := by
 cases n with
 | zero => cases h
 | succ n =>
  rw [f2] at h
  have g2 := len_sl (P := PP) (cf := evF PP T n) (fl := 0) (H := hp0) (f := false) (c := c_GEdit) (l := a1)
  have g356 : cleanQ true 0 2 [(.blk 2 (List.map c_GConflict [])), (.mp (entL kv_GConflict a_bool ([] : List (GConflict × Bool))))] := (by exact (clo (clo_blk (c_GConflict_clean 2)) (clo (clo_mp (kv := kv_GConflict) (va := a_bool) fun _ => rfl) rfl)))
  obtain ⟨v359, e357, h⟩ := bnd_some h
  have g358 := f2_L0_ok n a1 n [] ([] : List (GConflict × Bool)) 0 _ e357
  obtain ⟨n360, e361, h⟩ := bnd_some h
  have q362 := prd_eq e361
  obtain ⟨u363, e364, h⟩ := bnd_some h
  have g365 : evF PP T n 0 11 [(.ms 0 v359.1.length 0 v359.1.length), (.fn 12 [])] (hp11 v359) = some (.tup [], (hp12 v359)) := (by rw [q362]; exact sort_told (id := 0) (l := v359.1) (by omega) rfl (of_decide_eq_true (grd_some e364)))
  obtain rfl := si h
  refine pv_evF (evF_z (F := F2) ⟨[(10, (iv ((a1.length : Nat) : Int)), none), (47, .tup [], some (hp12 v359))], []⟩ [((.exit 0), f2_L0_E0 a1 v359.1 v359.2)] [] rfl (r := (.ms 0 v359.1.length 0 v359.1.length)) (H' := (hp12 v359)) (W4 g365 g358 g356 g2 Z0) (by kernel_rfl)) ?_
  show (seal1 (hp12 v359) 0 (.ms 0 v359.1.length 0 v359.1.length)) = _
  rw [seal1_srt (H := (hp12 v359)) (id := 0) (l := v359.1) rfl]
  first | done | rfl
def f13 : Nat → GEdit → Option Int
 | 0, _ => none
 | n + 1, a366 => (cnd (a366.Kind == 1) (some 1) (cnd (a366.Kind == 2) (some 1) (cnd (a366.Kind == 3) (some 1) (cnd (a366.Kind == 4) (some 2) (cnd (a366.Kind == 5) (some 2) (cnd (a366.Kind == 6) (some 2) (cnd (a366.Kind == 7) (some 3) (cnd (a366.Kind == 8) (some 3) (cnd (a366.Kind == 9) (some 3) (cnd (a366.Kind == 10) (some 3) (cnd (a366.Kind == 11) (some 3) (some 0))))))))))))
theorem f13_ok (n : Nat) (a366 : GEdit) (r : Int) (h : f13 n a366 = some r) : pv PP T n 13 [(.agg (c_GEdit a366))] = some (iv r) := by
 cases n with
 | zero => cases h
 | succ n =>
  rw [f13] at h
  rcases cnd_or h with ⟨h367, h⟩ | ⟨h367, h⟩
  ·have g368 := bool_eq h367
   obtain rfl := si h
   exact pz F13 ⟨[tt 6], []⟩ (Z g368 Z0)
  have g369 := bool_eq h367
  rcases cnd_or h with ⟨h370, h⟩ | ⟨h370, h⟩
  ·have g371 := bool_eq h370
   obtain rfl := si h
   exact pz F13 ⟨[ff 6, tt 7], []⟩ (W2 g371 g369 Z0)
  have g372 := bool_eq h370
  rcases cnd_or h with ⟨h373, h⟩ | ⟨h373, h⟩
  ·have g374 := bool_eq h373
   obtain rfl := si h
   exact pz F13 ⟨[ff 6, ff 7, tt 8], []⟩ (W2 g374 g372 <| Z g369 Z0)
  have g375 := bool_eq h373
  rcases cnd_or h with ⟨h376, h⟩ | ⟨h376, h⟩
  ·have g377 := bool_eq h376
   obtain rfl := si h
   exact pz F13 ⟨[ff 6, ff 7, ff 8, tt 10], []⟩ (W4 g377 g375 g372 g369 Z0)
  have g378 := bool_eq h376
  rcases cnd_or h with ⟨h379, h⟩ | ⟨h379, h⟩
  ·have g380 := bool_eq h379
   obtain rfl := si h
   exact pz F13 ⟨[ff 6, ff 7, ff 8, ff 10, tt 11], []⟩ (W4 g380 g378 g375 g372 <| Z g369 Z0)
  have g381 := bool_eq h379
  rcases cnd_or h with ⟨h382, h⟩ | ⟨h382, h⟩
  ·have g383 := bool_eq h382
   obtain rfl := si h
   exact pz F13 ⟨[ff 6, ff 7, ff 8, ff 10, ff 11, tt 12], []⟩ (W4 g383 g381 g378 g375 <| W2 g372 g369 Z0)
  have g384 := bool_eq h382
  rcases cnd_or h with ⟨h385, h⟩ | ⟨h385, h⟩
  ·have g386 := bool_eq h385
   obtain rfl := si h
   exact pz F13 ⟨[ff 6, ff 7, ff 8, ff 10, ff 11, ff 12, tt 14], []⟩ (W4 g386 g384 g381 g378 <| W2 g375 g372 <| Z g369 Z0)
  have g387 := bool_eq h385
  rcases cnd_or h with ⟨h388, h⟩ | ⟨h388, h⟩
  ·have g389 := bool_eq h388
   obtain rfl := si h
   exact pz F13 ⟨[ff 6, ff 7, ff 8, ff 10, ff 11, ff 12, ff 14, tt 15], []⟩ (W8 g389 g387 g384 g381 g378 g375 g372 g369 Z0)
  have g390 := bool_eq h388
  rcases cnd_or h with ⟨h391, h⟩ | ⟨h391, h⟩
  ·have g392 := bool_eq h391
   obtain rfl := si h
   exact pz F13 ⟨[ff 6, ff 7, ff 8, ff 10, ff 11, ff 12, ff 14, ff 15, tt 16], []⟩ (W8 g392 g390 g387 g384 g381 g378 g375 g372 <| Z g369 Z0)
  have g393 := bool_eq h391
  rcases cnd_or h with ⟨h394, h⟩ | ⟨h394, h⟩
  ·have g395 := bool_eq h394
   obtain rfl := si h
   exact pz F13 ⟨[ff 6, ff 7, ff 8, ff 10, ff 11, ff 12, ff 14, ff 15, ff 16, tt 17], []⟩ (W8 g395 g393 g390 g387 g384 g381 g378 g375 <| W2 g372 g369 Z0)
  have g396 := bool_eq h394
  rcases cnd_or h with ⟨h397, h⟩ | ⟨h397, h⟩
  ·have g398 := bool_eq h397
   obtain rfl := si h
   exact pz F13 ⟨[ff 6, ff 7, ff 8, ff 10, ff 11, ff 12, ff 14, ff 15, ff 16, ff 17, tt 18], []⟩ (W8 g398 g396 g393 g390 g387 g384 g381 g378 <| W2 g375 g372 <| Z g369 Z0)
  have g399 := bool_eq h397
  obtain rfl := si h
  exact pz F13 ⟨[ff 6, ff 7, ff 8, ff 10, ff 11, ff 12, ff 14, ff 15, ff 16, ff 17, ff 18], []⟩ (W8 g399 g396 g393 g390 g387 g384 g381 g378 <| W2 g375 g372 <| Z g369 Z0)
def f14 : Nat → GConflict → GConflict → Option Bool
 | 0, _, _ => none
 | n + 1, a400, a401 => (cnd (decide (a400.Kind < a401.Kind)) (some true) (cnd (a400.Kind == a401.Kind) (cnd (decide (a400.ID < a401.ID)) (some true) (some false)) (some false)))
theorem f14_ok (n : Nat) (a400 : GConflict) (a401 : GConflict) (r : Bool) (h : f14 n a400 a401 = some r) : pv PP T n 14 [(.agg (c_GConflict a400)), (.agg (c_GConflict a401))] = some (bv r) := by
 cases n with
 | zero => cases h
 | succ n =>
  rw [f14] at h
  rcases cnd_or h with ⟨h402, h⟩ | ⟨h402, h⟩
  ·have g403 := bool_eq h402
   obtain rfl := si h
   exact pz F14 ⟨[tt 9], []⟩ (Z g403 Z0)
  have g404 := bool_eq h402
  rcases cnd_or h with ⟨h405, h⟩ | ⟨h405, h⟩
  rotate_left
  ·have g410 := bool_eq h405
   obtain rfl := si h
   exact pz F14 ⟨[ff 9, ff 15], []⟩ (W2 g410 g404 Z0)
  have g406 := bool_eq h405
  rcases cnd_or h with ⟨h407, h⟩ | ⟨h407, h⟩
  ·have g408 := bool_eq h407
   obtain rfl := si h
   exact pz F14 ⟨[ff 9, tt 15, tt 21], []⟩ (W2 g408 g406 <| Z g404 Z0)
  have g409 := bool_eq h407
  obtain rfl := si h
  exact pz F14 ⟨[ff 9, tt 15, ff 21], []⟩ (W2 g409 g406 <| Z g404 Z0)
def f3_L0_S (a411 : (List GEdit)) (l494 : (List GConflict)) (i495 : Int) : St := ⟨[(.sl false (List.map c_GEdit a411)), U, U, (.ms 1 l494.length 0 l494.length), (iv i495), U, U, U, U, U, U, U, U, U, U, U, U, U, U, U, U, U, U, U, U, U, U, U, U, U, U, U, U, U, U, U, U, U, U, U, U, U, U, U, U, U, U, U, U, U, U, U, U, U, U, U, U, U, U, U, U, U, U, U, U, U, U, U, U, U], [(.blk 2 (List.map c_GConflict [] ++ [List.replicate 2 AV.undef])), (.blk 2 (List.map c_GConflict l494))]⟩
def f3_L0_E0 (a411 : (List GEdit)) (l578 : (List GConflict)) : St := ⟨[U, U, U, (.ms 1 l578.length 0 l578.length), U, U, U, U, U, U, U, U, U, U, U, U, U, U, U, U, U, U, U, U, U, U, U, U, U, U, U, U, U, U, U, U, U, U, U, U, U, U, U, U, U, U, U, U, U, U, U, U, U, U, U, U, U, U, U, U, U, U, U, U, U, U, U, U, U, U], [(.blk 2 (List.map c_GConflict [] ++ [List.replicate 2 AV.undef])), (.blk 2 (List.map c_GConflict l578))]⟩
abbrev hp13 (l494 : (List GConflict)) : Heap := [(.blk 2 (List.map c_GConflict [] ++ [List.replicate 2 AV.undef])), (.blk 2 (List.map c_GConflict l494))]
abbrev hp14 (l494 : (List GConflict)) (v585 : Int) (x582 : GEdit) : Heap := [(.blk 2 (List.map c_GConflict [] ++ [List.replicate 2 AV.undef])), (.blk 2 (List.map c_GConflict l494)), (.blk 2 [[(iv v585), (iv x582.ID)]])]
abbrev hp15 (l494 : (List GConflict)) (v585 : Int) (x582 : GEdit) : Heap := [(.blk 2 (List.map c_GConflict [] ++ [List.replicate 2 AV.undef])), (.blk 2 (List.map c_GConflict l494 ++ [List.replicate 2 AV.undef])), (.blk 2 [[(iv v585), (iv x582.ID)]])]
def f3_L1_S (a411 : (List GEdit)) (l494 : (List GConflict)) (i495 : Int) (v585 : Int) (x582 : GEdit) (i605 : Int) : St := ⟨[(.sl false (List.map c_GEdit a411)), U, U, (.sl false (List.map c_GConflict l494)), (iv i495), (.ptr 2 1 0 0), (.ms 3 0 0 0), (iv i605), U, U, U, U, U, U, U, U, U, U, U, U, U, U, U, U, U, U, U, U, U, U, U, U, U, U, U, U, U, U, U, U, U, U, U, U, U, U, U, U, U, U, U, U, U, U, U, U, U, U, U, U, U, U, U, U, U, U, U, U, U, U], [(.blk 2 (List.map c_GConflict [] ++ [List.replicate 2 AV.undef])), (.blk 2 (List.map c_GConflict l494 ++ [List.replicate 2 AV.undef])), (.blk 2 [[(iv v585), (iv x582.ID)]]), (.blk 2 (List.map c_GConflict []))]⟩
def f3_L1_E0 (a411 : (List GEdit)) (l494 : (List GConflict)) (i495 : Int) (v585 : Int) (x582 : GEdit) (i618 : Int) : St := ⟨[(.sl false (List.map c_GEdit a411)), U, U, (.sl false (List.map c_GConflict l494)), (iv i495), (.ptr 2 1 0 0), (.ms 3 0 0 0), (iv i618), U, U, U, U, U, U, U, U, U, U, U, U, U, U, U, U, U, U, U, U, U, U, U, U, U, U, U, U, U, U, U, U, U, U, U, U, U, U, U, U, U, U, U, U, U, U, U, U, U, U, U, U, U, U, U, U, U, U, U, U, U, U], [(.blk 2 (List.map c_GConflict [] ++ [List.replicate 2 AV.undef])), (.blk 2 (List.map c_GConflict l494 ++ [List.replicate 2 AV.undef])), (.blk 2 [[(iv v585), (iv x582.ID)]]), (.blk 2 (List.map c_GConflict []))]⟩
abbrev hp16 (l494 : (List GConflict)) (v585 : Int) (x582 : GEdit) : Heap := [(.blk 2 (List.map c_GConflict [] ++ [List.replicate 2 AV.undef])), (.blk 2 (List.map c_GConflict l494 ++ [List.replicate 2 AV.undef])), (.blk 2 [[(iv v585), (iv x582.ID)]]), (.blk 2 (List.map c_GConflict []))]
def f3_L1 (n : Nat) (a411 : (List GEdit)) (l494 : (List GConflict)) (i495 : Int) (v585 : Int) (x582 : GEdit) : Nat → Int → Option Int
 | 0, _ => none
 | m + 1, i605 => (cnd (decide (i605 < ((l494.length : Nat) : Int))) (bnd (idx l494 i605) fun x622 => (bnd (f14 n x622 (GConflict.mk v585 x582.ID)) fun v625 => (cnd (v625) (f3_L1 n a411 l494 i495 v585 x582 m (IntKind.i64.wrap (i605 + 1))) (some i605)))) (some i605))
theorem f3_L1_ok (n : Nat) (a411 : (List GEdit)) (l494 : (List GConflict)) (i495 : Int) (v585 : Int) (x582 : GEdit) : ∀ (m : Nat) (i605 : Int) (r : Int), f3_L1 n a411 l494 i495 v585 x582 m i605 = some r → maskR [true, false, false, true, true, true, true, true] [false, false, true] false 0 4 (evLoopH (headSt (some [true, false, false, true, true, true, true, true]) false 0 4) (evC PP (evF PP T n) n 0 L3_1) m (f3_L1_S a411 l494 i495 v585 x582 i605)) = some ((.exit 2), f3_L1_E0 a411 l494 i495 v585 x582 r)
 | 0, _, _, h => by cases h
 | m + 1, i605, r, h => by
  rw [f3_L1] at h
  have g619 := len_sl (P := PP) (cf := evF PP T n) (fl := 0) (H := (hp16 l494 v585 x582)) (f := false) (c := c_GConflict) (l := l494)
  rcases cnd_or h with ⟨h620, h⟩ | ⟨h620, h⟩
  rotate_left
  ·have g630 := bool_eq h620
   obtain rfl := si h
   exact last_z (live := some [true, false, false, true, true, true, true, true]) (tr' := false) (st' := f3_L1_E0 a411 l494 i495 v585 x582 i605) ⟨[(30, (iv ((l494.length : Nat) : Int)), none), ff 31], []⟩ [] [] rfl (W2 g630 g619 Z0) (by kernel_rfl) trivial
  have g621 := bool_eq h620
  obtain ⟨x622, e623, h⟩ := bnd_some h
  have g624 := idxl (H := (hp16 l494 v585 x582)) (f := false) (c := c_GConflict) e623 (c_GConflict_len _)
  obtain ⟨v625, e626, h⟩ := bnd_some h
  rcases cnd_or h with ⟨h627, h⟩ | ⟨h627, h⟩
  rotate_left
  ·have g629 := by have q := f14_ok n x622 (GConflict.mk v585 x582.ID) _ e626; rw [h627] at q; exact q
   obtain rfl := si h
   exact last_z (live := some [true, false, false, true, true, true, true, true]) (tr' := false) (st' := f3_L1_E0 a411 l494 i495 v585 x582 i605) ⟨[(30, (iv ((l494.length : Nat) : Int)), none), tt 31, (35, (.rptr [(iv x622.Kind), (iv x622.ID)]), none), ff 38], []⟩ [] [] rfl (W4 g629 g624 g621 g619 Z0) (by kernel_rfl) trivial
  have g628 := by have q := f14_ok n x622 (GConflict.mk v585 x582.ID) _ e626; rw [h627] at q; exact q
  exact (congrArg (maskR [true, false, false, true, true, true, true, true] [false, false, true] false 0 4) (next_z (live := some [true, false, false, true, true, true, true, true]) (tr := false) (st' := f3_L1_S a411 l494 i495 v585 x582 (IntKind.i64.wrap (i605 + 1))) ⟨[(30, (iv ((l494.length : Nat) : Int)), none), tt 31, (35, (.rptr [(iv x622.Kind), (iv x622.ID)]), none), tt 38], []⟩ [] [] rfl (W4 g628 g624 g621 g619 Z0) (by kernel_rfl) trivial rfl)).trans (f3_L1_ok n a411 l494 i495 v585 x582 m (IntKind.i64.wrap (i605 + 1)) r h)
abbrev hp17 (l494 : (List GConflict)) (v585 : Int) (x582 : GEdit) (l638 : (List GConflict)) : Heap := [(.blk 2 (List.map c_GConflict [] ++ [List.replicate 2 AV.undef])), (.blk 2 (List.map c_GConflict l494 ++ [List.replicate 2 AV.undef])), (.blk 2 [[(iv v585), (iv x582.ID)]]), (.blk 2 (List.map c_GConflict l638))]
def f3_L0 (n : Nat) (a411 : (List GEdit)) : Nat → (List GConflict) → Int → Option (List GConflict)
 | 0, _, _ => none
 | m + 1, l494, i495 => (cnd (decide (i495 < ((a411.length : Nat) : Int))) (bnd (idx a411 i495) fun x582 => (bnd (f13 n x582) fun v585 => (cnd (v585 == 0) (f3_L0 n a411 m l494 (IntKind.i64.wrap (i495 + 1))) (bnd (f3_L1 n a411 l494 i495 v585 x582 n 0) fun v634 => (bnd (cut l494 0 v634) fun l635 => (bnd (app ([] : (List GConflict)) l635) fun l638 => (bnd (app l638 [(GConflict.mk v585 x582.ID)]) fun l641 => (cnd (decide (v634 < ((l494.length : Nat) : Int))) (bnd (idx l494 v634) fun x647 => (cnd (decide (x647 = (GConflict.mk v585 x582.ID))) (bnd (cut l494 (IntKind.i64.wrap (v634 + 1)) ((l494.length : Nat) : Int)) fun l652 => (bnd (app l641 l652) fun l655 => (f3_L0 n a411 m l655 (IntKind.i64.wrap (i495 + 1))))) (bnd (cut l494 v634 ((l494.length : Nat) : Int)) fun l659 => (bnd (app l641 l659) fun l662 => (f3_L0 n a411 m l662 (IntKind.i64.wrap (i495 + 1))))))) (bnd (cut l494 v634 ((l494.length : Nat) : Int)) fun l666 => (bnd (app l641 l666) fun l669 => (f3_L0 n a411 m l669 (IntKind.i64.wrap (i495 + 1))))))))))))) (some l494))
theorem f3_L0_ok (n : Nat) (a411 : (List GEdit)) : ∀ (m : Nat) (l494 : (List GConflict)) (i495 : Int) (r : (List GConflict)), f3_L0 n a411 m l494 i495 = some r → maskV [false, false, false, true] [false, false, true] 3 0 1 (evLoopH (headV [true, false, false, true, true] 3 0 1) (evC PP (evF PP T n) n 0 L3_0) m (f3_L0_S a411 l494 i495)) = some ((.exit 0), f3_L0_E0 a411 r)
 | 0, _, _, _, h => by cases h
 | m + 1, l494, i495, r, h => by
  rw [f3_L0] at h
  have g579 := len_sl (P := PP) (cf := evF PP T n) (fl := 0) (H := (hp13 l494)) (f := false) (c := c_GEdit) (l := a411)
  rcases cnd_or h with ⟨h580, h⟩ | ⟨h580, h⟩
  rotate_left
  ·have g672 := bool_eq h580
   obtain rfl := si h
   exact last_zV (live := [true, false, false, true, true]) (t := 3) (st' := f3_L0_E0 a411 l494) ⟨[(10, (iv ((a411.length : Nat) : Int)), none), ff 11], []⟩ [] [] rfl (W2 g672 g579 Z0) (by kernel_rfl) (by exact (clo (clo_blkx (c_GConflict_clean 1)) (clo (clo_blk (c_GConflict_clean 1)) rfl)))
  have g581 := bool_eq h580
  obtain ⟨x582, e583, h⟩ := bnd_some h
  have g584 := idxl (H := (hp13 l494)) (f := false) (c := c_GEdit) e583 (c_GEdit_len _)
  obtain ⟨v585, e586, h⟩ := bnd_some h
  have g587 := f13_ok n x582 _ e586
  have g588 := idxl (H := (hp13 l494)) (f := false) (c := c_GEdit) e583 (c_GEdit_len _)
  rcases cnd_or h with ⟨h589, h⟩ | ⟨h589, h⟩
  ·have g590 := bool_eq h589
   exact (congrArg (maskV [false, false, false, true] [false, false, true] 3 0 1) (next_zV (live := [true, false, false, true, true]) (t := 3) (st' := f3_L0_S a411 l494 (IntKind.i64.wrap (i495 + 1))) ⟨[(10, (iv ((a411.length : Nat) : Int)), none), tt 11, (16, (.rptr [(iv x582.Kind), (iv x582.ID), (iv x582.A), (iv x582.B), (iv x582.C), (iv x582.At.X), (iv x582.At.Y), (.sl false (List.map c_GPoint x582.Via)), (sv x582.Name), (.sl false (List.map c_i64 x582.Parts))]), none), (18, (iv v585), none), (21, (.rptr [(iv x582.Kind), (iv x582.ID), (iv x582.A), (iv x582.B), (iv x582.C), (iv x582.At.X), (iv x582.At.Y), (.sl false (List.map c_GPoint x582.Via)), (sv x582.Name), (.sl false (List.map c_i64 x582.Parts))]), none), tt 27], []⟩ [] [none] rfl (W4 g590 g588 g587 g584 <| W2 g581 g579 Z0) (by kernel_rfl) (by exact (clo (clo_blkx (c_GConflict_clean 1)) (clo (clo_blk (c_GConflict_clean 1)) rfl))) rfl)).trans (f3_L0_ok n a411 m l494 (IntKind.i64.wrap (i495 + 1)) r h)
  have g591 := bool_eq h589
  have g592 := frz_ms (P := PP) (cf := evF PP T n) (fl := 0) (H := (hp14 l494 v585 x582)) (id := 1) (s := 2) (c := c_GConflict) (l := l494) rfl (by omega) c_GConflict_toP
  have g631 : cleanQ false 0 4 [(.blk 2 (List.map c_GConflict [] ++ [List.replicate 2 AV.undef])), (.blk 2 (List.map c_GConflict l494 ++ [List.replicate 2 AV.undef])), (.blk 2 [[(iv v585), (iv x582.ID)]]), (.blk 2 (List.map c_GConflict []))] := trivial
  obtain ⟨v634, e632, h⟩ := bnd_some h
  have g633 := f3_L1_ok n a411 l494 i495 v585 x582 n 0 _ e632
  obtain ⟨l635, e636, h⟩ := bnd_some h
  have g637 := slice_sl01 (P := PP) (cf := evF PP T n) (w := .undef) (z := .undef) (fl := 0) (H := (hp16 l494 v585 x582)) (s := 2) (c := c_GConflict) e636 c_GConflict_len
  obtain ⟨l638, e639, h⟩ := bnd_some h
  have g640 := app_ms (fl := 0) (H := (hp16 l494 v585 x582)) (id := 3) (s := 2) (bytes := 16) (c := c_GConflict) (l := []) e639 rfl c_GConflict_len (by omega) (by omega) (by omega)
  obtain ⟨l641, e642, h⟩ := bnd_some h
  have g643 := app_ms (fl := 0) (H := (hp17 l494 v585 x582 l638)) (id := 3) (s := 2) (bytes := 16) (c := c_GConflict) (l := l638) e642 rfl c_GConflict_len (by omega) (by omega) (by omega)
  have g644 := len_sl (P := PP) (cf := evF PP T n) (fl := 0) (H := (hp17 l494 v585 x582 l641)) (f := false) (c := c_GConflict) (l := l494)
  rcases cnd_or h with ⟨h645, h⟩ | ⟨h645, h⟩
  rotate_left
  ·have g665 := bool_eq h645
   obtain ⟨l666, e667, h⟩ := bnd_some h
   have g668 := slice_sl10 (P := PP) (cf := evF PP T n) (y := .undef) (z := .undef) (fl := 0) (H := (hp17 l494 v585 x582 l641)) (s := 2) (c := c_GConflict) e667 c_GConflict_len
   obtain ⟨l669, e670, h⟩ := bnd_some h
   have g671 := app_ms (fl := 0) (H := (hp17 l494 v585 x582 l641)) (id := 3) (s := 2) (bytes := 16) (c := c_GConflict) (l := l641) e670 rfl c_GConflict_len (by omega) (by omega) (by omega)
   exact (congrArg (maskV [false, false, false, true] [false, false, true] 3 0 1) (next_zV (live := [true, false, false, true, true]) (t := 3) (st' := f3_L0_S a411 l669 (IntKind.i64.wrap (i495 + 1))) ⟨[(10, (iv ((a411.length : Nat) : Int)), none), tt 11, (16, (.rptr [(iv x582.Kind), (iv x582.ID), (iv x582.A), (iv x582.B), (iv x582.C), (iv x582.At.X), (iv x582.At.Y), (.sl false (List.map c_GPoint x582.Via)), (sv x582.Name), (.sl false (List.map c_i64 x582.Parts))]), none), (18, (iv v585), none), (21, (.rptr [(iv x582.Kind), (iv x582.ID), (iv x582.A), (iv x582.B), (iv x582.C), (iv x582.At.X), (iv x582.At.Y), (.sl false (List.map c_GPoint x582.Via)), (sv x582.Name), (.sl false (List.map c_i64 x582.Parts))]), none), ff 27, (100003, (.sl false (List.map c_GConflict l494)), (some (hp15 l494 v585 x582))), (45, (.sl false (List.map c_GConflict l635)), none), (46, (.ms 3 l638.length 0 l638.length), (some (hp17 l494 v585 x582 l638))), (49, (.ms 3 l641.length 0 l641.length), (some (hp17 l494 v585 x582 l641))), (52, (iv ((l494.length : Nat) : Int)), none), ff 53, (67, (.sl false (List.map c_GConflict l666)), none), (68, (.ms 3 l669.length 0 l669.length), (some (hp17 l494 v585 x582 l669)))], []⟩ [((.exit 2), f3_L1_E0 a411 l494 i495 v585 x582 v634)] [none] rfl (W8 g671 g668 g665 g644 g643 g640 g637 g633 <| W8 g631 g592 g591 g588 g587 g584 g581 g579 Z0) (by kernel_rfl) (by exact (clo (clo_blkx (c_GConflict_clean 1)) (clo (clo_blk (c_GConflict_clean 1)) rfl))) rfl)).trans (f3_L0_ok n a411 m l669 (IntKind.i64.wrap (i495 + 1)) r h)
  have g646 := bool_eq h645
  obtain ⟨x647, e648, h⟩ := bnd_some h
  have g649 := idxl (H := (hp17 l494 v585 x582 l641)) (f := false) (c := c_GConflict) e648 (c_GConflict_len _)
  rcases cnd_or h with ⟨h650, h⟩ | ⟨h650, h⟩
  ·have g651 := c_GConflict_eql (cf := evF PP T n) (fl := 0) (H := (hp17 l494 v585 x582 l641)) (a := x647) (b := (GConflict.mk v585 x582.ID)) h650
   obtain ⟨l652, e653, h⟩ := bnd_some h
   have g654 := slice_sl10 (P := PP) (cf := evF PP T n) (y := .undef) (z := .undef) (fl := 0) (H := (hp17 l494 v585 x582 l641)) (s := 2) (c := c_GConflict) e653 c_GConflict_len
   obtain ⟨l655, e656, h⟩ := bnd_some h
   have g657 := app_ms (fl := 0) (H := (hp17 l494 v585 x582 l641)) (id := 3) (s := 2) (bytes := 16) (c := c_GConflict) (l := l641) e656 rfl c_GConflict_len (by omega) (by omega) (by omega)
   exact (congrArg (maskV [false, false, false, true] [false, false, true] 3 0 1) (next_zV (live := [true, false, false, true, true]) (t := 3) (st' := f3_L0_S a411 l655 (IntKind.i64.wrap (i495 + 1))) ⟨[(10, (iv ((a411.length : Nat) : Int)), none), tt 11, (16, (.rptr [(iv x582.Kind), (iv x582.ID), (iv x582.A), (iv x582.B), (iv x582.C), (iv x582.At.X), (iv x582.At.Y), (.sl false (List.map c_GPoint x582.Via)), (sv x582.Name), (.sl false (List.map c_i64 x582.Parts))]), none), (18, (iv v585), none), (21, (.rptr [(iv x582.Kind), (iv x582.ID), (iv x582.A), (iv x582.B), (iv x582.C), (iv x582.At.X), (iv x582.At.Y), (.sl false (List.map c_GPoint x582.Via)), (sv x582.Name), (.sl false (List.map c_i64 x582.Parts))]), none), ff 27, (100003, (.sl false (List.map c_GConflict l494)), (some (hp15 l494 v585 x582))), (45, (.sl false (List.map c_GConflict l635)), none), (46, (.ms 3 l638.length 0 l638.length), (some (hp17 l494 v585 x582 l638))), (49, (.ms 3 l641.length 0 l641.length), (some (hp17 l494 v585 x582 l641))), (52, (iv ((l494.length : Nat) : Int)), none), tt 53, (57, (.rptr [(iv x647.Kind), (iv x647.ID)]), none), tt 60, (67, (.sl false (List.map c_GConflict l652)), none), (68, (.ms 3 l655.length 0 l655.length), (some (hp17 l494 v585 x582 l655)))], []⟩ [((.exit 2), f3_L1_E0 a411 l494 i495 v585 x582 v634)] [none] rfl (W8 g657 g654 g651 g649 g646 g644 g643 g640 <| W8 g637 g633 g631 g592 g591 g588 g587 g584 <| W2 g581 g579 Z0) (by kernel_rfl) (by exact (clo (clo_blkx (c_GConflict_clean 1)) (clo (clo_blk (c_GConflict_clean 1)) rfl))) rfl)).trans (f3_L0_ok n a411 m l655 (IntKind.i64.wrap (i495 + 1)) r h)
  have g658 := c_GConflict_eql (cf := evF PP T n) (fl := 0) (H := (hp17 l494 v585 x582 l641)) (a := x647) (b := (GConflict.mk v585 x582.ID)) h650
  obtain ⟨l659, e660, h⟩ := bnd_some h
  have g661 := slice_sl10 (P := PP) (cf := evF PP T n) (y := .undef) (z := .undef) (fl := 0) (H := (hp17 l494 v585 x582 l641)) (s := 2) (c := c_GConflict) e660 c_GConflict_len
  obtain ⟨l662, e663, h⟩ := bnd_some h
  have g664 := app_ms (fl := 0) (H := (hp17 l494 v585 x582 l641)) (id := 3) (s := 2) (bytes := 16) (c := c_GConflict) (l := l641) e663 rfl c_GConflict_len (by omega) (by omega) (by omega)
  exact (congrArg (maskV [false, false, false, true] [false, false, true] 3 0 1) (next_zV (live := [true, false, false, true, true]) (t := 3) (st' := f3_L0_S a411 l662 (IntKind.i64.wrap (i495 + 1))) ⟨[(10, (iv ((a411.length : Nat) : Int)), none), tt 11, (16, (.rptr [(iv x582.Kind), (iv x582.ID), (iv x582.A), (iv x582.B), (iv x582.C), (iv x582.At.X), (iv x582.At.Y), (.sl false (List.map c_GPoint x582.Via)), (sv x582.Name), (.sl false (List.map c_i64 x582.Parts))]), none), (18, (iv v585), none), (21, (.rptr [(iv x582.Kind), (iv x582.ID), (iv x582.A), (iv x582.B), (iv x582.C), (iv x582.At.X), (iv x582.At.Y), (.sl false (List.map c_GPoint x582.Via)), (sv x582.Name), (.sl false (List.map c_i64 x582.Parts))]), none), ff 27, (100003, (.sl false (List.map c_GConflict l494)), (some (hp15 l494 v585 x582))), (45, (.sl false (List.map c_GConflict l635)), none), (46, (.ms 3 l638.length 0 l638.length), (some (hp17 l494 v585 x582 l638))), (49, (.ms 3 l641.length 0 l641.length), (some (hp17 l494 v585 x582 l641))), (52, (iv ((l494.length : Nat) : Int)), none), tt 53, (57, (.rptr [(iv x647.Kind), (iv x647.ID)]), none), ff 60, (67, (.sl false (List.map c_GConflict l659)), none), (68, (.ms 3 l662.length 0 l662.length), (some (hp17 l494 v585 x582 l662)))], []⟩ [((.exit 2), f3_L1_E0 a411 l494 i495 v585 x582 v634)] [none] rfl (W8 g664 g661 g658 g649 g646 g644 g643 g640 <| W8 g637 g633 g631 g592 g591 g588 g587 g584 <| W2 g581 g579 Z0) (by kernel_rfl) (by exact (clo (clo_blkx (c_GConflict_clean 1)) (clo (clo_blk (c_GConflict_clean 1)) rfl))) rfl)).trans (f3_L0_ok n a411 m l662 (IntKind.i64.wrap (i495 + 1)) r h)
def f3 : Nat → (List GEdit) → Option (List GConflict)
 | 0, _ => none
 | n + 1, a411 => (bnd (f3_L0 n a411 n [] 0) fun v677 => (some v677))
theorem f3_ok (n : Nat) (a411 : (List GEdit)) (r : (List GConflict)) (h : f3 n a411 = some r) : pv PP T n 3 [(.sl false (List.map c_GEdit a411))] = some (.sl false (List.map c_GConflict r)) := by
 cases n with
 | zero => cases h
 | succ n =>
  rw [f3] at h
  have g674 := own_ok (fl := 0) (t := 3) (id := 0) (s := 2) (k := 0) (tm := [(.sl false (List.map c_GEdit a411)), V, (.sl false []), (.ms 0 0 0 0), (iv 0), V, V, V, V, V, V, V, V, V, V, V, V, V, V, V, V, V, V, V, V, V, V, V, V, V, V, V, V, V, V, V, V, V, V, V, V, V, V, V, V, V, V, V, V, V, V, V, V, V, V, V, V, V, V, V, V, V, V, V, V, V, V, V, V, V]) (H := [(.blk 2 (List.map c_GConflict []))]) (l := ([] : List GConflict)) (c := c_GConflict) rfl (by omega) rfl
  have g673 : cleanQ true 0 1 [(.blk 2 (List.map c_GConflict [] ++ [List.replicate 2 AV.undef])), (.blk 2 (List.map c_GConflict []))] := (by exact (clo (clo_blkx (c_GConflict_clean 1)) (clo (clo_blk (c_GConflict_clean 1)) rfl)))
  obtain ⟨v677, e675, h⟩ := bnd_some h
  have g676 := f3_L0_ok n a411 n [] 0 _ e675
  obtain rfl := si h
  refine pv_evF (evF_z (F := F3) ⟨[], []⟩ [(.normal, ⟨[(.sl false (List.map c_GEdit a411)), V, (.sl false []), (.ms 1 0 0 0), (iv 0), V, V, V, V, V, V, V, V, V, V, V, V, V, V, V, V, V, V, V, V, V, V, V, V, V, V, V, V, V, V, V, V, V, V, V, V, V, V, V, V, V, V, V, V, V, V, V, V, V, V, V, V, V, V, V, V, V, V, V, V, V, V, V, V, V], [(.blk 2 (List.map c_GConflict [] ++ [List.replicate 2 AV.undef])), (.blk 2 (List.map c_GConflict []))]⟩), ((.exit 0), f3_L0_E0 a411 v677)] [] rfl (r := (.ms 1 v677.length 0 v677.length)) (H' := (hp13 v677)) (W2 g676 g673 <| Z g674 Z0) (by kernel_rfl)) ?_
  show (seal1 (hp13 v677) 0 (.ms 1 v677.length 0 v677.length)) = _
  rw [seal1_ms (H := (hp13 v677)) (id := 1) (s := 2) (c := c_GConflict) (l := v677) rfl (c_GConflict_seal _ _ _)]
  first | done | rfl
def f4_L0_S (a678 : (List GConflict)) (a679 : (List GConflict)) (i698 : Int) : St := ⟨[(.sl false (List.map c_GConflict a678)), (.sl false (List.map c_GConflict a679)), U, U, U, (iv i698), U, U, U, U, U, U, U, U, U, U, U, U, U, U, U, U, U, U, U, U], []⟩
def f4_L0_E0 (a678 : (List GConflict)) (a679 : (List GConflict)) : St := ⟨[U, U, U, U, bf, U, U, U, U, U, U, U, U, U, U, U, U, U, U, U, U, U, U, U, U, U], []⟩
def f4_L0_E1 (a678 : (List GConflict)) (a679 : (List GConflict)) : St := ⟨[U, U, U, U, U, U, U, U, U, U, U, U, U, U, U, U, U, U, U, U, U, U, U, U, U, U], []⟩
def f4_L0 (n : Nat) (a678 : (List GConflict)) (a679 : (List GConflict)) : Nat → Int → Option (Unit ⊕ Unit)
 | 0, _ => none
 | m + 1, i698 => (cnd (decide (i698 < ((a678.length : Nat) : Int))) (bnd (idx a678 i698) fun x715 => (bnd (idx a679 i698) fun x718 => (cnd (decide (x715 = x718)) (f4_L0 n a678 a679 m (IntKind.i64.wrap (i698 + 1))) (some (Sum.inl ()))))) (some (Sum.inr ())))
theorem f4_L0_ok (n : Nat) (a678 : (List GConflict)) (a679 : (List GConflict)) : ∀ (m : Nat) (i698 : Int) (r : (Unit ⊕ Unit)), f4_L0 n a678 a679 m i698 = some r → maskR [] [false, false, false, false, true] false 0 0 (evLoopH (headSt (some [true, true, false, false, false, true]) false 0 0) (evC PP (evF PP T n) n 0 L4_0) m (f4_L0_S a678 a679 i698)) = (match r with | .inl r => some (.ret, f4_L0_E0 a678 a679) | .inr r => some ((.exit 0), f4_L0_E1 a678 a679))
 | 0, _, _, h => by cases h
 | m + 1, i698, r, h => by
  rw [f4_L0] at h
  have g712 := len_sl (P := PP) (cf := evF PP T n) (fl := 0) (H := []) (f := false) (c := c_GConflict) (l := a678)
  rcases cnd_or h with ⟨h713, h⟩ | ⟨h713, h⟩
  rotate_left
  ·have g724 := bool_eq h713
   obtain rfl := si h
   exact last_z (live := some [true, true, false, false, false, true]) (tr' := false) (st' := f4_L0_E1 a678 a679) ⟨[(13, (iv ((a678.length : Nat) : Int)), none), ff 14], []⟩ [] [] rfl (W2 g724 g712 Z0) (by kernel_rfl) trivial
  have g714 := bool_eq h713
  obtain ⟨x715, e716, h⟩ := bnd_some h
  have g717 := idxl (H := []) (f := false) (c := c_GConflict) e716 (c_GConflict_len _)
  obtain ⟨x718, e719, h⟩ := bnd_some h
  have g720 := idxl (H := []) (f := false) (c := c_GConflict) e719 (c_GConflict_len _)
  rcases cnd_or h with ⟨h721, h⟩ | ⟨h721, h⟩
  rotate_left
  ·have g723 := c_GConflict_neq (cf := evF PP T n) (fl := 0) (H := []) (a := x715) (b := x718) h721
   obtain rfl := si h
   exact last_z (live := some [true, true, false, false, false, true]) (tr' := false) (st' := f4_L0_E0 a678 a679) ⟨[(13, (iv ((a678.length : Nat) : Int)), none), tt 14, (19, (.rptr [(iv x715.Kind), (iv x715.ID)]), none), (23, (.rptr [(iv x718.Kind), (iv x718.ID)]), none), tt 25], []⟩ [] [] rfl (W4 g723 g720 g717 g714 <| Z g712 Z0) (by kernel_rfl) trivial
  have g722 := c_GConflict_neq (cf := evF PP T n) (fl := 0) (H := []) (a := x715) (b := x718) h721
  exact (congrArg (maskR [] [false, false, false, false, true] false 0 0) (next_z (live := some [true, true, false, false, false, true]) (tr := false) (st' := f4_L0_S a678 a679 (IntKind.i64.wrap (i698 + 1))) ⟨[(13, (iv ((a678.length : Nat) : Int)), none), tt 14, (19, (.rptr [(iv x715.Kind), (iv x715.ID)]), none), (23, (.rptr [(iv x718.Kind), (iv x718.ID)]), none), ff 25], []⟩ [] [] rfl (W4 g722 g720 g717 g714 <| Z g712 Z0) (by kernel_rfl) trivial rfl)).trans (f4_L0_ok n a678 a679 m (IntKind.i64.wrap (i698 + 1)) r h)
def f4 : Nat → (List GConflict) → (List GConflict) → Option Bool
 | 0, _, _ => none
 | n + 1, a678, a679 => (cnd (((a678.length : Nat) : Int) != ((a679.length : Nat) : Int)) (some false) (bnd2 (f4_L0 n a678 a679 n 0) (fun v728 => (some false)) (fun v729 => (some true))))
theorem f4_ok (n : Nat) (a678 : (List GConflict)) (a679 : (List GConflict)) (r : Bool) (h : f4 n a678 a679 = some r) : pv PP T n 4 [(.sl false (List.map c_GConflict a678)), (.sl false (List.map c_GConflict a679))] = some (bv r) := by
 cases n with
 | zero => cases h
 | succ n =>
  rw [f4] at h
  have g680 := len_sl (P := PP) (cf := evF PP T n) (fl := 0) (H := []) (f := false) (c := c_GConflict) (l := a678)
  have g681 := len_sl (P := PP) (cf := evF PP T n) (fl := 0) (H := []) (f := false) (c := c_GConflict) (l := a679)
  rcases cnd_or h with ⟨h682, h⟩ | ⟨h682, h⟩
  ·have g683 := bool_eq h682
   obtain rfl := si h
   exact pz F4 ⟨[(7, (iv ((a678.length : Nat) : Int)), none), (9, (iv ((a679.length : Nat) : Int)), none), tt 10], []⟩ (W2 g683 g681 <| Z g680 Z0)
  have g684 := bool_eq h682
  have g725 : cleanQ false 0 0 [] := trivial
  rcases bnd2_some h with ⟨v728, e726, h⟩ | ⟨v729, e726, h⟩
  ·have g727 := f4_L0_ok n a678 a679 n 0 _ e726
   obtain rfl := si h
   exact pv_z (F := F4) ⟨[(7, (iv ((a678.length : Nat) : Int)), none), (9, (iv ((a679.length : Nat) : Int)), none), ff 10], []⟩ [(.ret, f4_L0_E0 a678 a679)] [] rfl (W4 g727 g725 g684 g681 <| Z g680 Z0) (by kernel_rfl)
  have g727 := f4_L0_ok n a678 a679 n 0 _ e726
  obtain rfl := si h
  exact pv_z (F := F4) ⟨[(7, (iv ((a678.length : Nat) : Int)), none), (9, (iv ((a679.length : Nat) : Int)), none), ff 10], []⟩ [((.exit 0), f4_L0_E1 a678 a679)] [] rfl (W4 g727 g725 g684 g681 <| Z g680 Z0) (by kernel_rfl)
abbrev hp18 : Heap := [(.mp (entL kv_GConflict a_bool ([] : List (GConflict × Bool)))), (.blk 1 [[(.mp 0)]])]
def f5_L0_S (a733 : (List GEdit)) (v734 : (List GConflict)) (l745 : (List (GConflict × Bool))) (i746 : Int) : St := ⟨[U, (.sl false (List.map c_GEdit a733)), U, U, U, (.ptr 1 1 0 0), U, U, U, U, (.sl false (List.map c_GConflict v734)), (iv ((v734.length : Nat) : Int)), (iv i746), U, U, U, U, U, U, U, U, U, U, U], [(.mp (entL kv_GConflict a_bool l745)), (.blk 1 [[(.mp 0)]])]⟩
def f5_L0_E0 (a733 : (List GEdit)) (v734 : (List GConflict)) (l754 : (List (GConflict × Bool))) : St := ⟨[U, (.sl false (List.map c_GEdit a733)), U, U, U, (.ptr 1 1 0 0), U, U, U, U, U, U, U, U, U, U, U, U, U, U, U, U, U, U], [(.mp (entL kv_GConflict a_bool l754)), (.blk 1 [[(.mp 0)]])]⟩
abbrev hp19 (l745 : (List (GConflict × Bool))) : Heap := [(.mp (entL kv_GConflict a_bool l745)), (.blk 1 [[(.mp 0)]])]
abbrev hp20 (l745 : (List (GConflict × Bool))) (x757 : GConflict) : Heap := [(.mp (entL kv_GConflict a_bool l745)), (.blk 1 [[(.mp 0)]]), (.blk 2 [[(iv x757.Kind), (iv x757.ID)]])]
abbrev hp21 (l745 : (List (GConflict × Bool))) (x757 : GConflict) : Heap := [(.mp (entL kv_GConflict a_bool (mput l745 x757 true))), (.blk 1 [[(.mp 0)]]), (.blk 2 [[(iv x757.Kind), (iv x757.ID)]])]
abbrev hp22 (l745 : (List (GConflict × Bool))) (x757 : GConflict) : Heap := [(.mp (entL kv_GConflict a_bool (mput l745 x757 true))), (.blk 1 [[(.mp 0)]])]
def f5_L0 (n : Nat) (a733 : (List GEdit)) (v734 : (List GConflict)) : Nat → (List (GConflict × Bool)) → Int → Option (List (GConflict × Bool))
 | 0, _, _ => none
 | m + 1, l745, i746 => (cnd (decide (i746 < ((v734.length : Nat) : Int))) (bnd (idx v734 i746) fun x757 => (f5_L0 n a733 v734 m (mput l745 x757 true) (IntKind.i64.wrap (i746 + 1)))) (some l745))
theorem f5_L0_ok (n : Nat) (a733 : (List GEdit)) (v734 : (List GConflict)) : ∀ (m : Nat) (l745 : (List (GConflict × Bool))) (i746 : Int) (r : (List (GConflict × Bool))), f5_L0 n a733 v734 m l745 i746 = some r → maskR [false, true, false, false, false, true] [false, false, false, false, true] true 0 2 (evLoopH (headSt (some [false, true, false, false, false, true, false, false, false, false, true, true, true]) true 0 2) (evC PP (evF PP T n) n 0 L5_0) m (f5_L0_S a733 v734 l745 i746)) = some ((.exit 0), f5_L0_E0 a733 v734 r)
 | 0, _, _, _, h => by cases h
 | m + 1, l745, i746, r, h => by
  rw [f5_L0] at h
  rcases cnd_or h with ⟨h755, h⟩ | ⟨h755, h⟩
  rotate_left
  ·have g761 := bool_eq h755
   obtain rfl := si h
   exact last_z (live := some [false, true, false, false, false, true, false, false, false, false, true, true, true]) (tr' := true) (st' := f5_L0_E0 a733 v734 l745) ⟨[ff 13], []⟩ [] [] rfl (Z g761 Z0) (by kernel_rfl) (by exact (clo (clo_mp (kv := kv_GConflict) (va := a_bool) fun _ => rfl) (clo rfl rfl)))
  have g756 := bool_eq h755
  obtain ⟨x757, e758, h⟩ := bnd_some h
  have g759 := idxl (H := (hp19 l745)) (f := false) (c := c_GConflict) e758 (c_GConflict_len _)
  have g760 := upd_ok (P := PP) (cf := evF PP T n) (fl := 0) (H := (hp20 l745 x757)) (id := 0) (kv := kv_GConflict) (va := a_bool) (m := l745) (k := x757) (x := (.agg [(iv x757.Kind), (iv x757.ID)])) key_GConflict true rfl (by omega) rfl
  exact (congrArg (maskR [false, true, false, false, false, true] [false, false, false, false, true] true 0 2) (next_z (live := some [false, true, false, false, false, true, false, false, false, false, true, true, true]) (tr := true) (st' := f5_L0_S a733 v734 (mput l745 x757 true) (IntKind.i64.wrap (i746 + 1))) ⟨[tt 13, (14, (.rptr [(iv x757.Kind), (iv x757.ID)]), none)], []⟩ [] [none, some (hp21 l745 x757)] rfl (W2 g760 g759 <| Z g756 Z0) (by kernel_rfl) (by exact (clo (clo_mp (kv := kv_GConflict) (va := a_bool) fun _ => rfl) (clo rfl rfl))) rfl)).trans (f5_L0_ok n a733 v734 m (mput l745 x757 true) (IntKind.i64.wrap (i746 + 1)) r h)
def f5_I32_L0_S (v766 : (List GConflict)) (v765 : (List (GConflict × Bool))) (i792 : Int) : St := ⟨[(.sl false (List.map c_GConflict v766)), (.fn 15 [(.ptr 1 1 0 0)]), U, U, U, U, U, (iv ((v766.length : Nat) : Int)), (iv i792), U, U, U, U, U, U, U, U, U, U], [(.mp (entL kv_GConflict a_bool v765)), (.blk 1 [[(.mp 0)]])]⟩
def f5_I32_L0_E0 (v766 : (List GConflict)) (v765 : (List (GConflict × Bool))) (i809 : Int) : St := ⟨[U, U, U, U, (iv i809), U, U, U, U, U, U, U, U, U, U, U, U, U, U], [(.mp (entL kv_GConflict a_bool v765)), (.blk 1 [[(.mp 0)]])]⟩
def f5_I32_L0_E1 (v766 : (List GConflict)) (v765 : (List (GConflict × Bool))) : St := ⟨[U, U, U, U, U, U, U, U, U, U, U, U, U, U, U, U, U, U, U], [(.mp (entL kv_GConflict a_bool v765)), (.blk 1 [[(.mp 0)]])]⟩
def f5_I32_L0 (n : Nat) (v766 : (List GConflict)) (v765 : (List (GConflict × Bool))) : Nat → Int → Option (Int ⊕ Unit)
 | 0, _ => none
 | m + 1, i792 => (cnd (decide (i792 < ((v766.length : Nat) : Int))) (bnd (idx v766 i792) fun x812 => (bnd (prd n) fun n815 => (cnd ((Option.getD (mget v765 x812) false)) (some (Sum.inl i792)) (f5_I32_L0 n v766 v765 m (IntKind.i64.wrap (i792 + 1)))))) (some (Sum.inr ())))
theorem f5_I32_L0_ok (n : Nat) (v766 : (List GConflict)) (v765 : (List (GConflict × Bool))) : ∀ (m : Nat) (i792 : Int) (r : (Int ⊕ Unit)), f5_I32_L0 n v766 v765 m i792 = some r → maskR [] [false, false, false, false, true] false 0 2 (evLoopH (headSt (some [true, true, false, false, false, false, false, true, true]) false 0 2) (evC PP (evF PP T n) n 0 L32_0) m (f5_I32_L0_S v766 v765 i792)) = (match r with | .inl r => some (.ret, f5_I32_L0_E0 v766 v765 r) | .inr r => some ((.exit 0), f5_I32_L0_E1 v766 v765))
 | 0, _, _, h => by cases h
 | m + 1, i792, r, h => by
  rw [f5_I32_L0] at h
  rcases cnd_or h with ⟨h810, h⟩ | ⟨h810, h⟩
  rotate_left
  ·have g825 := bool_eq h810
   obtain rfl := si h
   exact last_z (live := some [true, true, false, false, false, false, false, true, true]) (tr' := false) (st' := f5_I32_L0_E1 v766 v765) ⟨[ff 9], []⟩ [] [] rfl (Z g825 Z0) (by kernel_rfl) trivial
  have g811 := bool_eq h810
  obtain ⟨x812, e813, h⟩ := bnd_some h
  have g814 := idxl (H := (hp19 v765)) (f := false) (c := c_GConflict) e813 (c_GConflict_len _)
  obtain ⟨n815, e816, h⟩ := bnd_some h
  have q817 := prd_eq e816
  rcases cnd_or h with ⟨h818, h⟩ | ⟨h818, h⟩
  ·have g819 := by have q := look_ok (P := PP) (cf := evF PP T n815) (fl := 2) (H := (hp20 v765 x812)) (id := 0) (kv := kv_GConflict) (va := a_bool) (m := v765) (k := x812) (x := (.agg [(iv x812.Kind), (iv x812.ID)])) key_GConflict false rfl rfl; simp only [h818, a_bool] at q; exact q
   have g820 : evF PP T n 2 15 [(.agg [(iv x812.Kind), (iv x812.ID)]), (.ptr 1 1 0 0)] (hp19 v765) = some (bt, (hp20 v765 x812)) := by
    rw [q817]; exact evF_z (F := F15) ⟨[tt 6], []⟩ [] [] rfl (Z g819 Z0) (by kernel_rfl)
   have g821 : callA (evF PP T n) 0 true 15 [(.agg [(iv x812.Kind), (iv x812.ID)]), (.ptr 1 1 0 0)] (hp19 v765) = some (bt, (hp19 v765)) := callA_np rfl rfl g820 rfl
   obtain rfl := si h
   exact last_z (live := some [true, true, false, false, false, false, false, true, true]) (tr' := false) (st' := f5_I32_L0_E0 v766 v765 i792) ⟨[tt 9, (14, (.rptr [(iv x812.Kind), (iv x812.ID)]), none), tt 16], []⟩ [] [] rfl (W2 g821 g814 <| Z g811 Z0) (by kernel_rfl) trivial
  have g822 := by have q := look_ok (P := PP) (cf := evF PP T n815) (fl := 2) (H := (hp20 v765 x812)) (id := 0) (kv := kv_GConflict) (va := a_bool) (m := v765) (k := x812) (x := (.agg [(iv x812.Kind), (iv x812.ID)])) key_GConflict false rfl rfl; simp only [h818, a_bool] at q; exact q
  have g823 : evF PP T n 2 15 [(.agg [(iv x812.Kind), (iv x812.ID)]), (.ptr 1 1 0 0)] (hp19 v765) = some (bf, (hp20 v765 x812)) := by
   rw [q817]; exact evF_z (F := F15) ⟨[ff 6], []⟩ [] [] rfl (Z g822 Z0) (by kernel_rfl)
  have g824 : callA (evF PP T n) 0 true 15 [(.agg [(iv x812.Kind), (iv x812.ID)]), (.ptr 1 1 0 0)] (hp19 v765) = some (bf, (hp19 v765)) := callA_np rfl rfl g823 rfl
  exact (congrArg (maskR [] [false, false, false, false, true] false 0 2) (next_z (live := some [true, true, false, false, false, false, false, true, true]) (tr := false) (st' := f5_I32_L0_S v766 v765 (IntKind.i64.wrap (i792 + 1))) ⟨[tt 9, (14, (.rptr [(iv x812.Kind), (iv x812.ID)]), none), ff 16], []⟩ [] [] rfl (W2 g824 g814 <| Z g811 Z0) (by kernel_rfl) trivial rfl)).trans (f5_I32_L0_ok n v766 v765 m (IntKind.i64.wrap (i792 + 1)) r h)
def f5 : Nat → (List GEdit) → (List GEdit) → Option Bool
 | 0, _, _ => none
 | n + 1, a732, a733 => (bnd (f2 n a732) fun v734 => (bnd (f5_L0 n a733 v734 n ([] : List (GConflict × Bool)) 0) fun v765 => (bnd (f2 n a733) fun v766 => (bnd (prd n) fun n769 => (bnd (prd n769) fun n772 => (bnd2 (f5_I32_L0 n772 v766 v765 n772 0) (fun v829 => (cnd (decide (v829 ≥ 0)) (some false) (some true))) (fun v836 => (some true))))))))
theorem f5_ok (n : Nat) (a732 : (List GEdit)) (a733 : (List GEdit)) (r : Bool) (h : f5 n a732 a733 = some r) : pv PP T n 5 [(.sl false (List.map c_GEdit a732)), (.sl false (List.map c_GEdit a733))] = some (bv r) := by
 cases n with
 | zero => cases h
 | succ n =>
  rw [f5] at h
  obtain ⟨v734, e735, h⟩ := bnd_some h
  have g736 := f2_ok n a732 _ e735
  have g737 := len_sl (P := PP) (cf := evF PP T n) (fl := 0) (H := hp18) (f := false) (c := c_GConflict) (l := v734)
  have g762 : cleanQ true 0 2 [(.mp (entL kv_GConflict a_bool ([] : List (GConflict × Bool)))), (.blk 1 [[(.mp 0)]])] := (by exact (clo (clo_mp (kv := kv_GConflict) (va := a_bool) fun _ => rfl) (clo rfl rfl)))
  obtain ⟨v765, e763, h⟩ := bnd_some h
  have g764 := f5_L0_ok n a733 v734 n ([] : List (GConflict × Bool)) 0 _ e763
  obtain ⟨v766, e767, h⟩ := bnd_some h
  have g768 := f2_ok n a733 _ e767
  obtain ⟨n769, e770, h⟩ := bnd_some h
  have q771 := prd_eq e770
  obtain ⟨n772, e773, h⟩ := bnd_some h
  have q774 := prd_eq e773
  have g775 := len_sl (P := PP) (cf := evF PP T n772) (fl := 0) (H := (hp19 v765)) (f := false) (c := c_GConflict) (l := v766)
  have g826 : cleanQ false 0 2 [(.mp (entL kv_GConflict a_bool v765)), (.blk 1 [[(.mp 0)]])] := trivial
  rcases bnd2_some h with ⟨v829, e827, h⟩ | ⟨v836, e827, h⟩
  rotate_left
  ·have g828 := f5_I32_L0_ok n772 v766 v765 n772 0 _ e827
   have g837 : evF PP T n769 0 32 [(.sl false (List.map c_GConflict v766)), (.fn 15 [(.ptr 1 1 0 0)])] (hp19 v765) = some ((iv (-1)), (hp19 v765)) := by
    rw [q774]; exact evF_z (F := F32) ⟨[(7, (iv ((v766.length : Nat) : Int)), none)], []⟩ [((.exit 0), f5_I32_L0_E1 v766 v765)] [] rfl (W2 g828 g826 <| Z g775 Z0) (by kernel_rfl)
   have g838 : evF PP T n 0 16 [(.sl false (List.map c_GConflict v766)), (.fn 15 [(.ptr 1 1 0 0)])] (hp19 v765) = some (bf, (hp19 v765)) := by
    rw [q771]; exact evF_z (F := F16) ⟨[(7, (iv (-1)), none)], []⟩ [] [] rfl (Z g837 Z0) (by kernel_rfl)
   obtain rfl := si h
   exact pv_z (F := F5) ⟨[(10, (.sl false (List.map c_GConflict v734)), none), (11, (iv ((v734.length : Nat) : Int)), none), (20, (.sl false (List.map c_GConflict v766)), none), ff 22], []⟩ [((.exit 0), f5_L0_E0 a733 v734 v765)] [none] rfl (W4 g838 g768 g764 g762 <| W2 g737 g736 Z0) (by kernel_rfl)
  have g828 := f5_I32_L0_ok n772 v766 v765 n772 0 _ e827
  have g830 : evF PP T n769 0 32 [(.sl false (List.map c_GConflict v766)), (.fn 15 [(.ptr 1 1 0 0)])] (hp19 v765) = some ((iv v829), (hp19 v765)) := by
   rw [q774]; exact evF_z (F := F32) ⟨[(7, (iv ((v766.length : Nat) : Int)), none)], []⟩ [(.ret, f5_I32_L0_E0 v766 v765 v829)] [] rfl (W2 g828 g826 <| Z g775 Z0) (by kernel_rfl)
  rcases cnd_or h with ⟨h831, h⟩ | ⟨h831, h⟩
  ·have g832 := bool_eq h831
   have g833 : evF PP T n 0 16 [(.sl false (List.map c_GConflict v766)), (.fn 15 [(.ptr 1 1 0 0)])] (hp19 v765) = some (bt, (hp19 v765)) := by
    rw [q771]; exact evF_z (F := F16) ⟨[(7, (iv v829), none), tt 8], []⟩ [] [] rfl (W2 g832 g830 Z0) (by kernel_rfl)
   obtain rfl := si h
   exact pv_z (F := F5) ⟨[(10, (.sl false (List.map c_GConflict v734)), none), (11, (iv ((v734.length : Nat) : Int)), none), (20, (.sl false (List.map c_GConflict v766)), none), tt 22], []⟩ [((.exit 0), f5_L0_E0 a733 v734 v765)] [none] rfl (W4 g833 g768 g764 g762 <| W2 g737 g736 Z0) (by kernel_rfl)
  have g834 := bool_eq h831
  have g835 : evF PP T n 0 16 [(.sl false (List.map c_GConflict v766)), (.fn 15 [(.ptr 1 1 0 0)])] (hp19 v765) = some (bf, (hp19 v765)) := by
   rw [q771]; exact evF_z (F := F16) ⟨[(7, (iv v829), none), ff 8], []⟩ [] [] rfl (W2 g834 g830 Z0) (by kernel_rfl)
  obtain rfl := si h
  exact pv_z (F := F5) ⟨[(10, (.sl false (List.map c_GConflict v734)), none), (11, (iv ((v734.length : Nat) : Int)), none), (20, (.sl false (List.map c_GConflict v766)), none), ff 22], []⟩ [((.exit 0), f5_L0_E0 a733 v734 v765)] [none] rfl (W4 g835 g768 g764 g762 <| W2 g737 g736 Z0) (by kernel_rfl)
def f6_L0_S (v841 : (List GConflict)) (v844 : (List GConflict)) (i883 : Int) : St := ⟨[U, U, U, U, U, (.sl false (List.map c_GConflict v841)), (.sl false (List.map c_GConflict v844)), (iv i883), U, U, U, U, U, U, U, U, U, U, U, U, U, U, U, U, U, U, U, U, U, U, U, U, U, U], []⟩
def f6_L0_E0 (v841 : (List GConflict)) (v844 : (List GConflict)) : St := ⟨[U, U, U, U, bf, U, U, U, U, U, U, U, U, U, U, U, U, U, U, U, U, U, U, U, U, U, U, U, U, U, U, U, U, U], []⟩
def f6_L0_E1 (v841 : (List GConflict)) (v844 : (List GConflict)) : St := ⟨[U, U, U, U, U, U, U, U, U, U, U, U, U, U, U, U, U, U, U, U, U, U, U, U, U, U, U, U, U, U, U, U, U, U], []⟩
def f6_L1_S (v841 : (List GConflict)) (v844 : (List GConflict)) (i883 : Int) (i936 : Int) : St := ⟨[U, U, U, U, U, (.sl false (List.map c_GConflict v841)), (.sl false (List.map c_GConflict v844)), (iv i883), (iv i936), U, U, U, U, U, U, U, U, U, U, U, U, U, U, U, U, U, U, U, U, U, U, U, U, U], []⟩
def f6_L1_E0 (v841 : (List GConflict)) (v844 : (List GConflict)) (i883 : Int) : St := ⟨[U, U, U, U, bf, U, U, U, U, U, U, U, U, U, U, U, U, U, U, U, U, U, U, U, U, U, U, U, U, U, U, U, U, U], []⟩
def f6_L1_E1 (v841 : (List GConflict)) (v844 : (List GConflict)) (i883 : Int) : St := ⟨[U, U, U, U, U, (.sl false (List.map c_GConflict v841)), (.sl false (List.map c_GConflict v844)), (iv i883), U, U, U, U, U, U, U, U, U, U, U, U, U, U, U, U, U, U, U, U, U, U, U, U, U, U], []⟩
def f6_L1 (n : Nat) (v841 : (List GConflict)) (v844 : (List GConflict)) (i883 : Int) : Nat → Int → Option (Unit ⊕ Unit)
 | 0, _ => none
 | m + 1, i936 => (cnd (decide (i936 < ((v844.length : Nat) : Int))) (bnd (idx v841 i883) fun x953 => (bnd (idx v844 i936) fun x956 => (cnd (decide (x953 = x956)) (some (Sum.inl ())) (f6_L1 n v841 v844 i883 m (IntKind.i64.wrap (i936 + 1)))))) (some (Sum.inr ())))
theorem f6_L1_ok (n : Nat) (v841 : (List GConflict)) (v844 : (List GConflict)) (i883 : Int) : ∀ (m : Nat) (i936 : Int) (r : (Unit ⊕ Unit)), f6_L1 n v841 v844 i883 m i936 = some r → maskR [false, false, false, false, false, true, true, true] [false, false, false, false, true] false 0 0 (evLoopH (headSt (some [false, false, false, false, false, true, true, true, true]) false 0 0) (evC PP (evF PP T n) n 0 L6_1) m (f6_L1_S v841 v844 i883 i936)) = (match r with | .inl r => some (.ret, f6_L1_E0 v841 v844 i883) | .inr r => some ((.exit 2), f6_L1_E1 v841 v844 i883))
 | 0, _, _, h => by cases h
 | m + 1, i936, r, h => by
  rw [f6_L1] at h
  have g950 := len_sl (P := PP) (cf := evF PP T n) (fl := 0) (H := []) (f := false) (c := c_GConflict) (l := v844)
  rcases cnd_or h with ⟨h951, h⟩ | ⟨h951, h⟩
  rotate_left
  ·have g962 := bool_eq h951
   obtain rfl := si h
   exact last_z (live := some [false, false, false, false, false, true, true, true, true]) (tr' := false) (st' := f6_L1_E1 v841 v844 i883) ⟨[(21, (iv ((v844.length : Nat) : Int)), none), ff 22], []⟩ [] [] rfl (W2 g962 g950 Z0) (by kernel_rfl) trivial
  have g952 := bool_eq h951
  obtain ⟨x953, e954, h⟩ := bnd_some h
  have g955 := idxl (H := []) (f := false) (c := c_GConflict) e954 (c_GConflict_len _)
  obtain ⟨x956, e957, h⟩ := bnd_some h
  have g958 := idxl (H := []) (f := false) (c := c_GConflict) e957 (c_GConflict_len _)
  rcases cnd_or h with ⟨h959, h⟩ | ⟨h959, h⟩
  ·have g960 := c_GConflict_eql (cf := evF PP T n) (fl := 0) (H := []) (a := x953) (b := x956) h959
   obtain rfl := si h
   exact last_z (live := some [false, false, false, false, false, true, true, true, true]) (tr' := false) (st' := f6_L1_E0 v841 v844 i883) ⟨[(21, (iv ((v844.length : Nat) : Int)), none), tt 22, (27, (.rptr [(iv x953.Kind), (iv x953.ID)]), none), (31, (.rptr [(iv x956.Kind), (iv x956.ID)]), none), tt 33], []⟩ [] [] rfl (W4 g960 g958 g955 g952 <| Z g950 Z0) (by kernel_rfl) trivial
  have g961 := c_GConflict_eql (cf := evF PP T n) (fl := 0) (H := []) (a := x953) (b := x956) h959
  exact (congrArg (maskR [false, false, false, false, false, true, true, true] [false, false, false, false, true] false 0 0) (next_z (live := some [false, false, false, false, false, true, true, true, true]) (tr := false) (st' := f6_L1_S v841 v844 i883 (IntKind.i64.wrap (i936 + 1))) ⟨[(21, (iv ((v844.length : Nat) : Int)), none), tt 22, (27, (.rptr [(iv x953.Kind), (iv x953.ID)]), none), (31, (.rptr [(iv x956.Kind), (iv x956.ID)]), none), ff 33], []⟩ [] [] rfl (W4 g961 g958 g955 g952 <| Z g950 Z0) (by kernel_rfl) trivial rfl)).trans (f6_L1_ok n v841 v844 i883 m (IntKind.i64.wrap (i936 + 1)) r h)
def f6_L0 (n : Nat) (v841 : (List GConflict)) (v844 : (List GConflict)) : Nat → Int → Option (Unit ⊕ Unit)
 | 0, _ => none
 | m + 1, i883 => (cnd (decide (i883 < ((v841.length : Nat) : Int))) (bnd2 (f6_L1 n v841 v844 i883 n 0) (fun v966 => (some (Sum.inl ()))) (fun v967 => (f6_L0 n v841 v844 m (IntKind.i64.wrap (i883 + 1))))) (some (Sum.inr ())))
theorem f6_L0_ok (n : Nat) (v841 : (List GConflict)) (v844 : (List GConflict)) : ∀ (m : Nat) (i883 : Int) (r : (Unit ⊕ Unit)), f6_L0 n v841 v844 m i883 = some r → maskR [] [false, false, false, false, true] false 0 0 (evLoopH (headSt (some [false, false, false, false, false, true, true, true]) false 0 0) (evC PP (evF PP T n) n 0 L6_0) m (f6_L0_S v841 v844 i883)) = (match r with | .inl r => some (.ret, f6_L0_E0 v841 v844) | .inr r => some ((.exit 0), f6_L0_E1 v841 v844))
 | 0, _, _, h => by cases h
 | m + 1, i883, r, h => by
  rw [f6_L0] at h
  have g920 := len_sl (P := PP) (cf := evF PP T n) (fl := 0) (H := []) (f := false) (c := c_GConflict) (l := v841)
  rcases cnd_or h with ⟨h921, h⟩ | ⟨h921, h⟩
  rotate_left
  ·have g968 := bool_eq h921
   obtain rfl := si h
   exact last_z (live := some [false, false, false, false, false, true, true, true]) (tr' := false) (st' := f6_L0_E1 v841 v844) ⟨[(15, (iv ((v841.length : Nat) : Int)), none), ff 16], []⟩ [] [] rfl (W2 g968 g920 Z0) (by kernel_rfl) trivial
  have g922 := bool_eq h921
  have g963 : cleanQ false 0 0 [] := trivial
  rcases bnd2_some h with ⟨v966, e964, h⟩ | ⟨v967, e964, h⟩
  ·have g965 := f6_L1_ok n v841 v844 i883 n 0 _ e964
   obtain rfl := si h
   exact last_z (live := some [false, false, false, false, false, true, true, true]) (tr' := false) (st' := f6_L0_E0 v841 v844) ⟨[(15, (iv ((v841.length : Nat) : Int)), none), tt 16], []⟩ [(.ret, f6_L1_E0 v841 v844 i883)] [] rfl (W4 g965 g963 g922 g920 Z0) (by kernel_rfl) trivial
  have g965 := f6_L1_ok n v841 v844 i883 n 0 _ e964
  exact (congrArg (maskR [] [false, false, false, false, true] false 0 0) (next_z (live := some [false, false, false, false, false, true, true, true]) (tr := false) (st' := f6_L0_S v841 v844 (IntKind.i64.wrap (i883 + 1))) ⟨[(15, (iv ((v841.length : Nat) : Int)), none), tt 16], []⟩ [((.exit 2), f6_L1_E1 v841 v844 i883)] [] rfl (W4 g965 g963 g922 g920 Z0) (by kernel_rfl) trivial rfl)).trans (f6_L0_ok n v841 v844 m (IntKind.i64.wrap (i883 + 1)) r h)
def f6 : Nat → (List GEdit) → (List GEdit) → Option Bool
 | 0, _, _ => none
 | n + 1, a839, a840 => (bnd (f3 n a839) fun v841 => (bnd (f3 n a840) fun v844 => (bnd2 (f6_L0 n v841 v844 n 0) (fun v972 => (some false)) (fun v973 => (some true)))))
theorem f6_ok (n : Nat) (a839 : (List GEdit)) (a840 : (List GEdit)) (r : Bool) (h : f6 n a839 a840 = some r) : pv PP T n 6 [(.sl false (List.map c_GEdit a839)), (.sl false (List.map c_GEdit a840))] = some (bv r) := by
 cases n with
 | zero => cases h
 | succ n =>
  rw [f6] at h
  obtain ⟨v841, e842, h⟩ := bnd_some h
  have g843 := f3_ok n a839 _ e842
  obtain ⟨v844, e845, h⟩ := bnd_some h
  have g846 := f3_ok n a840 _ e845
  have g969 : cleanQ false 0 0 [] := trivial
  rcases bnd2_some h with ⟨v972, e970, h⟩ | ⟨v973, e970, h⟩
  ·have g971 := f6_L0_ok n v841 v844 n 0 _ e970
   obtain rfl := si h
   exact pv_z (F := F6) ⟨[(10, (.sl false (List.map c_GConflict v841)), none), (12, (.sl false (List.map c_GConflict v844)), none)], []⟩ [(.ret, f6_L0_E0 v841 v844)] [] rfl (W4 g971 g969 g846 g843 Z0) (by kernel_rfl)
  have g971 := f6_L0_ok n v841 v844 n 0 _ e970
  obtain rfl := si h
  exact pv_z (F := F6) ⟨[(10, (.sl false (List.map c_GConflict v841)), none), (12, (.sl false (List.map c_GConflict v844)), none)], []⟩ [((.exit 0), f6_L0_E1 v841 v844)] [] rfl (W4 g971 g969 g846 g843 Z0) (by kernel_rfl)
end Go.Proofs.YtanonfpdkoijnaaGreatDoor.Av
