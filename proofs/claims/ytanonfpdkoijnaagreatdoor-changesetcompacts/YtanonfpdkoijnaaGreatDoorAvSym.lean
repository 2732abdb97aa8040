/- A part of the proof of ChangesetCompactsCardSaid: an evaluator of the program, proved sound, and what it says. -/
import Derived.Test.YtanonfpdkoijnaaGreatDoorAvTop
namespace Go.Proofs.YtanonfpdkoijnaaGreatDoor.Av
open Go

/-- What a call gives that is handed nothing of the objects. -/
def pv [GlobT] (P : Program) (T : List AFun) (n vi : Nat) (args : List AV) : Option AV :=
  match evF P T n 0 vi args [] with
  | some (r, H') => some (seal3 H' 0 r)
  | none => none

theorem callA_pv [GlobT] {P : Program} {T : List AFun} {n fl vi : Nat} {args : List AV} {H : Heap} :
    callA (evF P T n) fl true vi args H = match plainAll args with
      | true => (match pv P T n vi (args.map nrm2) with | some r => some (r, H) | none => none)
      | false => (match evF P T n H.length vi (args.map nrm2) H with | some (r, H') => some (seal3 H' H.length r, H) | none => none) := by
  unfold callA pv
  cases plainAll args with
  | false => rfl
  | true =>
    simp only
    cases evF P T n 0 vi (args.map nrm2) [] with
    | none => rfl
    | some x => rfl

theorem callA_im [GlobT] {P : Program} {T : List AFun} {n fl vi : Nat} {args : List AV} {H : Heap} : callA (evF P T n) fl false vi args H = evF P T n fl vi args H := rfl

def finA [GlobT] (F : AFun) : Option (AExit × St) → Option (AV × Heap)
  | some (.normal, st) => match retsA st F.rets with
    | some vs => some (packA vs, st.heap)
    | none => none
  | some (.ret, st) => match retsA st F.rets with
    | some vs => some (packA vs, st.heap)
    | none => none
  | _ => none

theorem evF_at [GlobT] {P : Program} {T : List AFun} {n fl vi : Nat} {args : List AV} {H : Heap} (F : AFun) (h : T[vi]? = some F) :
    evF P T (n + 1) fl vi args H = finA F (evC P (evF P T n) n fl F.body ⟨args ++ List.replicate (F.nt - args.length) (.lit undefV), H⟩) := by
  simp only [evF, h, finA]
  split <;> split <;> simp_all

def sealO : Option (AV × Heap) → Option AV
  | some (r, H') => some (seal3 H' 0 r)
  | none => none

theorem pv_at [GlobT] {P : Program} {T : List AFun} {n vi : Nat} {args : List AV} (F : AFun) (h : T[vi]? = some F) :
    pv P T (n + 1) vi args = sealO (finA F (evC P (evF P T n) n 0 F.body ⟨args ++ List.replicate (F.nt - args.length) (.lit undefV), []⟩)) := by
  unfold pv
  rw [evF_at F h]
  rfl

theorem evF_of_pv [GlobT] {P : Program} {T : List AFun} {n vi : Nat} {args : List AV} {b : Bool} (h : pv P T n vi args = some (.lit (.bool b))) : ∃ H', evF P T n 0 vi args [] = some (.lit (.bool b), H') := by
  unfold pv at h
  split at h
  · rename_i r H' he
    simp only [Option.some.injEq] at h
    refine ⟨H', ?_⟩
    rw [he]
    cases r with
    | lit v =>
      simp only [seal3, seal2, seal1, nrmV] at h
      revert h
      split
      · split
        · split
          · split
            · intro h; cases h
            · intro h; cases h
          · intro h; cases h
        · intro h; cases h
      · intro h; simp only [AV.lit.injEq] at h; rw [h]
    | agg cs => simp [seal3, seal2] at h
    | tup cs => simp [seal3] at h
    | fn vi caps => cases caps <;> simp [seal3, seal2, seal1] at h
    | ms id tot off len =>
      simp only [seal3, seal2, seal1, Nat.not_lt_zero, if_false, sealDepth, sealC, Nat.zero_le, if_true] at h
      split at h <;> cases h
    | ptr => simp [seal3, seal2, seal1] at h
    | mp => simp [seal3, seal2, seal1] at h
    | it => simp [seal3, seal2, seal1] at h
    | _ => simp [seal3, seal2, seal1] at h
  · cases h

/-- A loop, round by round: what the head makes of the state is S 0, S 1, ... -/
theorem evLoop_run [GlobT] {head : St → St} {step : St → Option (AExit × St)} {x : AExit} {stx : St} (hx : x ≠ .normal) (S : Nat → St) : ∀ (k : Nat) (n : Nat) (st : St), head st = S 0 → k < n →
    (∀ i, i < k → ∃ st', step (S i) = some (.normal, st') ∧ head st' = S (i + 1)) → step (S k) = some (x, stx) → evLoop head step n st = some (x, stx)
  | 0, n, st, h0, hn, _, hend => by
    obtain ⟨m, rfl⟩ : ∃ m, n = m + 1 := ⟨n - 1, by omega⟩
    simp only [evLoop, h0, hend]
    cases x with
    | normal => exact (hx rfl).elim
    | exit => rfl
    | ret => rfl
  | k + 1, n, st, h0, hn, hstep, hend => by
    obtain ⟨m, rfl⟩ : ∃ m, n = m + 1 := ⟨n - 1, by omega⟩
    obtain ⟨st', h1, h2⟩ := hstep 0 (by omega)
    simp only [evLoop, h0, h1]
    exact evLoop_run hx (fun i => S (i + 1)) k m st' h2 (by omega) (fun i hi => hstep (i + 1) (by omega)) hend

def nextIs (head : St → St) : Option (AExit × St) → St → Prop
  | some (.normal, st), s => head st = s
  | _, _ => False

theorem nextIs_ex {head : St → St} {r : Option (AExit × St)} {s : St} (h : nextIs head r s) : ∃ st', r = some (.normal, st') ∧ head st' = s := by
  unfold nextIs at h
  split at h
  · exact ⟨_, rfl, h⟩
  · exact h.elim

theorem evLoop_eq [GlobT] {head : St → St} {step : St → Option (AExit × St)} {x : AExit} {stx : St} {n k : Nat} {st : St} (S : Nat → St) (hx : x ≠ .normal) (h0 : head st = S 0) (hn : k < n)
    (hstep : ∀ i, i < k → nextIs head (step (S i)) (S (i + 1))) (hend : step (S k) = some (x, stx)) : evLoop head step n st = some (x, stx) :=
  evLoop_run hx S k n st h0 hn (fun i hi => nextIs_ex (hstep i hi)) hend

section
variable {P : Program} {cf : Nat → Nat → List AV → Heap → Option (AV × Heap)} {lf fl : Nat} {st : St}
theorem evC_skip [GlobT] : evC P cf lf fl .skip st = some (.normal, st) := rfl
theorem evC_region [GlobT] {d : Bool} {ops : List AOper} : evC P cf lf fl (.region d [] ops) st = (match evOps P cf fl ops st with | some st => some (.normal, st) | none => none) := rfl
theorem evC_seq [GlobT] {a b : ACode} : evC P cf lf fl (.seq a b) st = (match evC P cf lf fl a st with | some (.normal, st) => evC P cf lf fl b st | r => r) := rfl
theorem evC_cond [GlobT] {c : AOpd} {a b : ACode} : evC P cf lf fl (.cond c a b) st = (match getOpd st.tmps c with | .lit (.bool true) => evC P cf lf fl a st | .lit (.bool false) => evC P cf lf fl b st | _ => none) := rfl
theorem evC_block [GlobT] {id : Nat} {c : ACode} : evC P cf lf fl (.block id c) st = (match evC P cf lf fl c st with | some (.exit i, st) => if i = id then some (.normal, st) else some (.exit i, st) | r => r) := rfl
theorem evC_loop [GlobT] {live : Option (List Bool)} {tr : Bool} {c : ACode} : evC P cf lf fl (.loop live tr c) st = evLoop (headSt live tr fl st.heap.length) (evC P cf lf fl c) lf st := rfl
theorem evC_exit [GlobT] {id : Nat} : evC P cf lf fl (.exit id) st = some (.exit id, st) := rfl
theorem evC_ret [GlobT] : evC P cf lf fl .ret st = some (.ret, st) := rfl
theorem evC_frz [GlobT] {t : Nat} {c : ACode} : evC P cf lf fl (.frz t c) st = (match evOp P cf fl (.freeze (.tmp t)) st.tmps st.heap with | some (v, H) => evC P cf lf fl c ⟨st.tmps.set t v, H⟩ | none => none) := rfl
end

theorem beq_tf : (true == false) = false := rfl
theorem beq_ft : (false == true) = false := rfl
theorem beq_tt : (true == true) = true := rfl
theorem beq_ff : (false == false) = true := rfl
theorem pr_not {P : Program} (b : Bool) : pureRun P (Op.unary .not (.bool b)) = some (.bool (!b)) := rfl
theorem pr_neg {P : Program} (k : IntKind) (n : Int) : pureRun P (Op.unary .neg (.int k n)) = some (.int k (k.wrap (0 - n))) := rfl
theorem pr_max {P : Program} (a b : Int) : pureRun P (Builtin.max_ #[] 0 #[.int .i64 a, .int .i64 b]) = some (.int .i64 (if a < b then b else a)) := by
  by_cases h : a < b <;> simp [Builtin.max_, Builtin.max2, h] <;> rfl
theorem pr_seq {P : Program} {t : TypeId} (a b : ByteArray) : pureRun P (binOp .eql t (.string a) (.string b)) = some (.bool (a.toList == b.toList)) := rfl
theorem pr_sne {P : Program} {t : TypeId} (a b : ByteArray) : pureRun P (binOp .neq t (.string a) (.string b)) = some (.bool (!(a.toList == b.toList))) := rfl
theorem pr_gs {P : Program} {t : TypeId} {op : BinOp} (x y : Operand) (a b : ByteArray) : pureRun P (eqGuard op t x y (.string a) (.string b)) = some () := by cases op <;> rfl
theorem pr_gb {P : Program} {t : TypeId} {op : BinOp} (x y : Operand) (a b : Bool) : pureRun P (eqGuard op t x y (.bool a) (.bool b)) = some () := by cases op <;> rfl

theorem appendA_ms {fl id s bytes tot : Nat} {H : Heap} {es ys : List (List AV)} (hid : H[id]? = some (.blk s es)) (hes : es.length = tot) (hys : allLen s ys = true) (hs : 0 < s) (hr : room ys.length bytes = true)
    (hr2 : room (tot + ys.length) bytes = true) (hfl : fl ≤ id) :
    appendA fl H s bytes (.ms id tot 0 tot) ys = some (.ms id (tot + ys.length) 0 (tot + ys.length), H.set id (.blk s (es ++ ys))) := by
  have hlt : id < H.length := by
    rcases Nat.lt_or_ge id H.length with h | h
    · exact h
    · rw [List.getElem?_eq_none h] at hid; cases hid
  unfold appendA
  simp only [hys, hs, hr, hid, hes, hr2, hfl, and_self, if_true]
  by_cases h0 : ys.length = 0
  · have : ys = [] := List.length_eq_zero_iff.1 h0
    subst this
    simp only [List.length_nil, Nat.add_zero, List.append_nil, if_true, Option.some.injEq, Prod.mk.injEq, true_and]
    apply List.ext_getElem?
    intro i
    rw [List.getElem?_set]
    split
    · rename_i hi; subst hi; first | exact hid | (rw [if_pos hlt]; exact hid)
    · rfl
  · simp only [h0, if_false]

end Go.Proofs.YtanonfpdkoijnaaGreatDoor.Av
