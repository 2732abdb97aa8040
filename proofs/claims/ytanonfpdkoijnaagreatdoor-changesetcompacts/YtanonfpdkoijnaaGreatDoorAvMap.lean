/- A part of the proof of ChangesetCompactsCardSaid: an evaluator of the program, proved sound, and what it says. -/
import Derived.Test.YtanonfpdkoijnaaGreatDoorAvLift
namespace Go.Proofs.YtanonfpdkoijnaaGreatDoor.Av
open Go

section
variable {K V : Type} [DecidableEq K]

/-- A map's entries, in the order of their insertion. -/
def mget (m : List (K × V)) (k : K) : Option V := match m with
  | [] => none
  | (k', v) :: r => if k' = k then some v else mget r k
def mput (m : List (K × V)) (k : K) (v : V) : List (K × V) := match m with
  | [] => [(k, v)]
  | (k', v') :: r => if k' = k then (k, v) :: r else (k', v') :: mput r k v

theorem mget_put [GlobT] (k k' : K) (v : V) : ∀ m : List (K × V), mget (mput m k v) k' = if k = k' then some v else mget m k'
  | [] => by simp [mput, mget]
  | (a, b) :: r => by
    simp only [mput]
    split
    · rename_i h
      subst h
      simp only [mget]
      split <;> rfl
    · rename_i h
      simp only [mget, mget_put k k' v r]
      split
      · rename_i h1
        subst h1
        rw [if_neg fun h2 => h h2.symm]
      · rfl

def entL (kv : K → Value) (va : V → AV) (m : List (K × V)) : List (Value × AV) := m.map fun p => (kv p.1, va p.2)

/-- Keys that the program can hold against one another. -/
structure KeyOK (P : Program) (kt : TypeId) (kv : K → Value) : Prop where
  find : ∀ (k : K) (ks : List K), findA P kt (kv k) (ks.map fun x => (kv x, AV.undef)) = some (ks.findIdx? fun x => decide (x = k))
  chk : ∀ (e : Bool) (k : K), pureRun P (Instr.checkKey e 10000 kt (kv k)) = some ()
  same : ∀ k : K, Instr.sameBits 10000 (kv k) (kv k) = true

theorem findA_vals {P : Program} {kt : TypeId} {k : Value} {e1 e2 : List (Value × AV)} (h : e1.map (·.1) = e2.map (·.1)) : findA P kt k e1 = findA P kt k e2 := by
  unfold findA
  have : (e1.map fun e => ({ key := e.1, val := .bool false, born := 0 } : MapEntry)) = e2.map fun e => { key := e.1, val := .bool false, born := 0 } := by
    have e : ∀ l : List (Value × AV), (l.map fun e => ({ key := e.1, val := .bool false, born := 0 } : MapEntry)) = (l.map (·.1)).map fun k => { key := k, val := .bool false, born := 0 } := fun l => by simp
    rw [e, e, h]
  rw [this]

theorem find_ent [GlobT] {P : Program} {kt : TypeId} {kv : K → Value} (hk : KeyOK P kt kv) (va : V → AV) (k : K) (m : List (K × V)) : findA P kt (kv k) (entL kv va m) = some (m.findIdx? fun p => decide (p.1 = k)) := by
  rw [findA_vals (e2 := (m.map (·.1)).map fun x => (kv x, AV.undef)) (by simp [entL]), hk.find]
  congr 1
  rw [List.findIdx?_map]
  rfl

theorem mget_idx [GlobT] (k : K) : ∀ m : List (K × V), (mget m k = none ∧ m.findIdx? (fun p => decide (p.1 = k)) = none) ∨ ∃ i v, mget m k = some v ∧ m.findIdx? (fun p => decide (p.1 = k)) = some i ∧ m[i]? = some (k, v)
  | [] => .inl ⟨rfl, rfl⟩
  | (a, b) :: r => by
    simp only [mget, List.findIdx?_cons]
    by_cases h : a = k
    · subst h
      exact .inr ⟨0, b, by simp, by simp, rfl⟩
    · rw [if_neg h, decide_eq_false h]
      simp only [Bool.false_eq_true, if_false]
      rcases mget_idx k r with ⟨h1, h2⟩ | ⟨i, v, h1, h2, h3⟩
      · exact .inl ⟨h1, by simp [h2]⟩
      · exact .inr ⟨i + 1, v, h1, by simp [h2], by simpa using h3⟩

theorem mput_idx [GlobT] (k : K) (v : V) : ∀ m : List (K × V), mput m k v = match m.findIdx? (fun p => decide (p.1 = k)) with | some i => m.set i (k, v) | none => m ++ [(k, v)]
  | [] => rfl
  | (a, b) :: r => by
    simp only [mput, List.findIdx?_cons]
    by_cases h : a = k
    · subst h
      simp
    · rw [if_neg h, decide_eq_false h, mput_idx k v r]
      simp only [Bool.false_eq_true, if_false]
      cases r.findIdx? fun p => decide (p.1 = k) with
      | none => simp
      | some i => simp

variable {P : Program} {cf : Nat → Nat → List AV → Heap → Option (AV × Heap)} {fl id : Nat} {H : Heap} {kt : TypeId} {kv : K → Value} {va : V → AV} {m : List (K × V)} {x : AV} {k : K}

theorem look_ok [GlobT] (hk : KeyOK P kt kv) (z : V) (hx : lits x = some (kv k)) (hH : H[id]? = some (.mp (entL kv va m))) : evOp P cf fl (.lookup kt (.tmp 2) (.tmp 0) (.tmp 1) false) [.mp id, x, va z] H = some (va ((mget m k).getD z), H) := by
  simp only [evOp, getOpd, List.getElem?_cons_zero, List.getElem?_cons_succ, hx, hH, hk.chk, find_ent hk]
  rcases mget_idx k m with ⟨h1, h2⟩ | ⟨i, v, h1, h2, h3⟩
  · simp [h1, h2]
  · have : (entL kv va m)[i]? = some (kv k, va v) := by simp [entL, h3]
    simp [h1, h2, this]

theorem look_ok2 [GlobT] (hk : KeyOK P kt kv) (z : V) (hx : lits x = some (kv k)) (hH : H[id]? = some (.mp (entL kv va m))) : evOp P cf fl (.lookup kt (.tmp 2) (.tmp 0) (.tmp 1) true) [.mp id, x, va z] H = some (.tup [va ((mget m k).getD z), bv (mget m k).isSome], H) := by
  simp only [evOp, getOpd, List.getElem?_cons_zero, List.getElem?_cons_succ, hx, hH, hk.chk, find_ent hk]
  rcases mget_idx k m with ⟨h1, h2⟩ | ⟨i, v, h1, h2, h3⟩
  · simp [h1, h2]
  · have : (entL kv va m)[i]? = some (kv k, va v) := by simp [entL, h3]
    simp [h1, h2, this]

theorem upd_ok [GlobT] (hk : KeyOK P kt kv) (v : V) (hx : lits x = some (kv k)) (hfl : fl ≤ id) (hH : H[id]? = some (.mp (entL kv va m))) : evOp P cf fl (.mapUpd kt (.tmp 0) (.tmp 1) (.tmp 2)) [.mp id, x, va v] H = some (.lit undefV, H.set id (.mp (entL kv va (mput m k v)))) := by
  simp only [evOp, getOpd, List.getElem?_cons_zero, List.getElem?_cons_succ, hx, hH, hk.chk, find_ent hk, hfl, if_true, mput_idx]
  rcases mget_idx k m with ⟨h1, h2⟩ | ⟨i, u, h1, h2, h3⟩
  · simp [h2, entL]
  · have : (entL kv va m)[i]? = some (kv k, va u) := by simp [entL, h3]
    simp only [h2, this, hk.same, if_true]
    simp [entL, List.map_set]

end

theorem clean_ent {K V : Type} {kv : K → Value} {va : V → AV} {n : Nat} {m : List (K × V)} (h : ∀ v, clean2 n (va v) = va v) : (entL kv va m).map (fun e => (e.1, clean2 n e.2)) = entL kv va m := by
  simp [entL, h]

/-- Integers as keys. -/
theorem findNow_int [GlobT] (k : Int) : ∀ (ks : List Int) (i : Nat), Instr.findNow (.int .i64) (.int .i64 k) (ks.map fun x => { key := .int .i64 x, val := .bool false, born := 0 }) i = some ((ks.findIdx? fun x => decide (x = k)).map fun j => (i + j, .bool false))
  | [], i => rfl
  | x :: r, i => by
    simp only [List.map_cons, Instr.findNow, Instr.sameNow, if_true, List.findIdx?_cons]
    by_cases h : x = k
    · subst h
      simp
    · have h' : (k == x) = false := by simpa using fun e => h e.symm
      rw [decide_eq_false h, h']
      simp only [Bool.false_eq_true, if_false, findNow_int k r (i + 1)]
      cases r.findIdx? fun x => decide (x = k) with
      | none => rfl
      | some j => simp; omega

theorem key_int [GlobT] {P : Program} {kt : TypeId} (hu : pureRun P (underlying kt) = some (.int .i64)) : KeyOK P kt (fun k : Int => .int .i64 k) where
  find := fun k ks => by
    unfold findA
    simp only [Instr.findKey, pureRun_bind, hu, Option.bind_some, List.map_map, Function.comp_def, findNow_int, pureRun_pure]
    cases ks.findIdx? fun x => decide (x = k) with
    | none => rfl
    | some j => simp
  chk := fun e k => by
    rw [Instr.checkKey]
    simp only [pureRun_bind, hu, Option.bind_some]
    rfl
  same := fun k => by simp [Instr.sameBits]
theorem lenM_ok [GlobT] {K V : Type} {P : Program} {cf : Nat → Nat → List AV → Heap → Option (AV × Heap)} {fl id : Nat} {H : Heap} {kv : K → Value} {va : V → AV} {m : List (K × V)} (hH : H[id]? = some (.mp (entL kv va m))) : evOp P cf fl (.lenM (.tmp 0)) [.mp id] H = some (iv (m.length : Nat), H) := by
  simp only [evOp, getOpd, List.getElem?_cons_zero, hH]
  simp [entL]

end Go.Proofs.YtanonfpdkoijnaaGreatDoor.Av
