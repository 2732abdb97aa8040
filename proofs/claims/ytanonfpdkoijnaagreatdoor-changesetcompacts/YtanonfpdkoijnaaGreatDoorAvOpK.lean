/- A part of the proof of ChangesetCompactsCardSaid: an evaluator of the program, proved sound, and what it says. -/
import Derived.Test.YtanonfpdkoijnaaGreatDoorAvMono
import Derived.KernelRfl
namespace Go.Proofs.YtanonfpdkoijnaaGreatDoor.Av
open Go
set_option linter.unusedVariables false
/-- A temporary's value, by recursion on the list alone. -/
noncomputable def getK (l : List AV) : Nat → AV := List.rec (motive := fun _ => Nat → AV) (fun _ => .lit undefV) (fun x _ ih n => Nat.rec (motive := fun _ => AV) x (fun m _ => ih m) n) l
theorem getK_eq [GlobT] : ∀ (l : List AV) (t : Nat), getK l t = match l[t]? with | some v => v | none => .lit undefV
  | [], t => by simp [getK]
  | x :: r, 0 => rfl
  | x :: r, t + 1 => by
    have := getK_eq r t
    simp only [List.getElem?_cons_succ]
    rw [← this]
    rfl
noncomputable def getOpdK [GlobT] (tm : List AV) (x : AOpd) : AV := match x with
  | .tmp t => getK tm t
  | .lit v => .lit v
  | .agg vs => .agg (vs.map .lit)
  | .fn vi => .fn vi []
  | .glob g => match GlobT.tab g with | some cs => .rptr cs | none => .undef
theorem getOpdK_eq [GlobT] (tm : List AV) (x : AOpd) : getOpdK tm x = getOpd tm x := by
  cases x with
  | tmp t => simp only [getOpdK, getK_eq, getOpd]; rfl
  | _ => rfl
theorem getOpdK_fun [GlobT] (tm : List AV) : getOpdK tm = getOpd tm := funext (getOpdK_eq tm)
noncomputable def natOptK [GlobT] (tm : List AV) (x : Option AOpd) : Option (Option Nat) := match x with
  | none => some none
  | some x => match natOf (getOpdK tm x) with | some n => some (some n) | none => none
theorem natOptK_eq [GlobT] (tm : List AV) (x : Option AOpd) : natOptK tm x = natOpt tm x := by
  cases x <;> simp only [natOptK, natOpt, getOpdK_eq] <;> rfl
def callS0 (cf : Nat → Nat → List AV → Heap → Option (AV × Heap)) (vi : Nat) (args : List AV) (H : Heap) : Option (AV × Heap) := match cf 0 vi args [] with
  | some (r, H') => match scalT (seal3 H' 0 r) with
    | true => some (seal3 H' 0 r, H)
    | false => none
  | none => none

def callSM (mem : Nat → List AV → Option AV) (cf : Nat → Nat → List AV → Heap → Option (AV × Heap)) (vi : Nat) (args : List AV) (H : Heap) : Option (AV × Heap) :=
  match mem vi args with
  | some r => match scalT r with
    | true => some (r, H)
    | false => none
  | none => callS0 cf vi args H

def callM (mem : Nat → List AV → Option AV) (cf : Nat → Nat → List AV → Heap → Option (AV × Heap)) (fl : Nat) (pu : Bool) (vi : Nat) (args : List AV) (H : Heap) : Option (AV × Heap) :=
  match pu with
  | true => match plainAll args with
    | true => match mem vi (args.map nrm2) with
      | some r => some (r, H)
      | none => callA cf fl true vi args H
    | false => callA cf fl true vi args H
  | false => cf fl vi args H

/-- What is remembered of calls is what they give. -/
def MemOK (mem : Nat → List AV → Option AV) (cf : Nat → Nat → List AV → Heap → Option (AV × Heap)) : Prop :=
  ∀ vi args r, mem vi args = some r → (match cf 0 vi args [] with | some (r', H') => some (seal3 H' 0 r') | none => none) = some r

theorem callSM_eq {mem : Nat → List AV → Option AV} {cf : Nat → Nat → List AV → Heap → Option (AV × Heap)} (h : MemOK mem cf) (vi : Nat) (args : List AV) (H : Heap) : callSM mem cf vi args H = match cf 0 vi args [] with
    | some (r, H') => match scalT (seal3 H' 0 r) with
      | true => some (seal3 H' 0 r, H)
      | false => none
    | none => none := by
  unfold callSM
  cases hm : mem vi args with
  | none => rfl
  | some r =>
    have := h vi _ r hm
    cases hc : cf 0 vi args [] with
    | none => rw [hc] at this; cases this
    | some x =>
      rw [hc] at this
      simp only [Option.some.injEq] at this ⊢
      rw [this]

theorem callM_eq {mem : Nat → List AV → Option AV} {cf : Nat → Nat → List AV → Heap → Option (AV × Heap)} (h : MemOK mem cf) (fl : Nat) (pu : Bool) (vi : Nat) (args : List AV) (H : Heap) : callM mem cf fl pu vi args H = callA cf fl pu vi args H := by
  unfold callM
  cases pu with
  | false => rfl
  | true =>
    simp only
    cases hp : plainAll args with
    | false => rfl
    | true =>
      simp only
      cases hm : mem vi (args.map nrm2) with
      | none => rfl
      | some r =>
        have := h vi _ r hm
        unfold callA
        simp only [hp]
        cases hc : cf 0 vi (args.map nrm2) [] with
        | none => rw [hc] at this; cases this
        | some x =>
          rw [hc] at this
          simp only [Option.some.injEq] at this ⊢
          rw [this]

section
variable (P : Program) (cf : Nat → Nat → List AV → Heap → Option (AV × Heap)) (fl : Nat) (mem : Nat → List AV → Option AV)
noncomputable def k_mov [GlobT] (x : AOpd) (tm : List AV) (H : Heap) : Option (AV × Heap) := some (getOpdK tm x, H)
noncomputable def k_movN [GlobT] (x : AOpd) (tm : List AV) (H : Heap) : Option (AV × Heap) := some (nrm2 (getOpdK tm x), H)
noncomputable def k_pick [GlobT] (c : AOpd) (a : AOpd) (b : AOpd) (tm : List AV) (H : Heap) : Option (AV × Heap) := match getOpdK tm c with
    | .lit (.bool t) => some (if t then getOpdK tm a else getOpdK tm b, H)
    | _ => none
noncomputable def k_alloc (z : List Value) (tm : List AV) (H : Heap) : Option (AV × Heap) := some (.ptr H.length 1 0 0, H ++ [.blk z.length [z.map .lit]])
noncomputable def k_claim (s : Nat) (tm : List AV) (H : Heap) : Option (AV × Heap) := some (.ms H.length 0 0 0, H ++ [.blk s []])
noncomputable def k_allocC (z : List Value) (cl : List (Nat × Nat)) (tm : List AV) (H : Heap) : Option (AV × Heap) := some (.ptr (H.length + cl.length) 1 0 0,
      (H ++ cl.map fun c => .blk c.2 []) ++ [.blk z.length [claimCells H.length (z.map .lit) cl]])
noncomputable def k_box [GlobT] (x : AOpd) (tm : List AV) (H : Heap) : Option (AV × Heap) := match cellsOf (getOpdK tm x) with
    | some cs => some (.ptr H.length 1 0 0, H ++ [.blk cs.length [cs]])
    | none => none
noncomputable def k_build [GlobT] (z : List Value) (parts : List (Nat × Nat × AOpd)) (tm : List AV) (H : Heap) : Option (AV × Heap) := match fillA (z.map .lit) (parts.map fun (o, s, x) => (o, s, getOpdK tm x)) with
    | some cs => some (.agg cs, H)
    | none => none
noncomputable def k_buildSl [GlobT] (pu : Bool) (s : Nat) (n : Nat) (z : List Value) (parts : List (Nat × AOpd)) (tm : List AV) (H : Heap) : Option (AV × Heap) := match fillE s (List.replicate n (z.map .lit)) (parts.map fun (i, x) => (i, getOpdK tm x)) with
    | some es => if pu then some (.sl true (es.map fun e => e.map toP), H) else some (.ms H.length n 0 n, H ++ [.blk s es])
    | none => none
noncomputable def k_load [GlobT] (agg : Bool) (n : Nat) (x : AOpd) (tm : List AV) (H : Heap) : Option (AV × Heap) := match ldCells H (getOpdK tm x) n with
    | some cs => if agg then some (.agg cs, H) else match cs with
      | [c] => some (c, H)
      | _ => none
    | none => none
noncomputable def k_store [GlobT] (n : Nat) (x : AOpd) (v : AOpd) (tm : List AV) (H : Heap) : Option (AV × Heap) := match cellsOf (getOpdK tm v) with
    | some cs => if cs.length = n then match stCells fl H (getOpdK tm x) cs with
        | some H' => some (.lit undefV, H')
        | none => none
      else none
    | none => none
noncomputable def k_nilCheck [GlobT] (x : AOpd) (tm : List AV) (H : Heap) : Option (AV × Heap) := match getOpdK tm x with
    | .ptr .. => some (getOpdK tm x, H)
    | .rptr _ => some (getOpdK tm x, H)
    | .fn .. => some (getOpdK tm x, H)
    | _ => none
noncomputable def k_ibin [GlobT] (op : BinOp) (x : AOpd) (y : AOpd) (tm : List AV) (H : Heap) : Option (AV × Heap) := match getOpdK tm x, getOpdK tm y with
    | .lit (.int k a), .lit (.int k' b) => if k = k' then match ibinV op k a b with
        | some v => some (.lit v, H)
        | none => none
      else none
    | _, _ => none
noncomputable def k_bin [GlobT] (op : BinOp) (t : TypeId) (x : AOpd) (y : AOpd) (tm : List AV) (H : Heap) : Option (AV × Heap) := match lits (getOpdK tm x), lits (getOpdK tm y) with
    | some v, some u => match (if notNil v then pureRun P (eqGuard op t (.tmp 0) (.tmp 0) v u) else none) with
      | some _ => match pureRun P (binOp op t v u) with
        | some r => some (.lit r, H)
        | none => none
      | none => none
    | _, _ => none
noncomputable def k_un [GlobT] (op : UnOp) (x : AOpd) (tm : List AV) (H : Heap) : Option (AV × Heap) := match getOpdK tm x with
    | .lit v => match pureRun P (Op.unary op v) with
      | some r => some (.lit r, H)
      | none => none
    | _ => none
noncomputable def k_conv [GlobT] (src : TypeId) (dst : TypeId) (x : AOpd) (tm : List AV) (H : Heap) : Option (AV × Heap) := match getOpdK tm x with
    | .lit v => match pureRun P (convert src dst v) with
      | some r => some (.lit r, H)
      | none => none
    | _ => none
noncomputable def k_fieldAddr [GlobT] (off : Nat) (x : AOpd) (tm : List AV) (H : Heap) : Option (AV × Heap) := match getOpdK tm x with
    | .ptr id tot idx o => some (.ptr id tot idx (o + off), H)
    | .rptr cs => some (.rptr (cs.drop off), H)
    | _ => none
noncomputable def k_field [GlobT] (agg : Bool) (n : Nat) (off : Nat) (x : AOpd) (tm : List AV) (H : Heap) : Option (AV × Heap) := match getOpdK tm x with
    | .agg cs => if off + n ≤ cs.length then
        if agg then some (.agg ((cs.drop off).take n), H) else match (cs.drop off).take n with
          | [c] => some (c, H)
          | _ => none
      else none
    | _ => none
noncomputable def k_idxAddr [GlobT] (s : Nat) (x : AOpd) (i : AOpd) (tm : List AV) (H : Heap) : Option (AV × Heap) := match natOf (getOpdK tm i) with
    | some i => match getOpdK tm x with
      | .sl _ es => match es[i]? with
        | some e => if e.length = s then some (.rptr e, H) else none
        | none => none
      | .ms id tot off len => match H[id]? with
        | some (.blk s' es) => if s' = s ∧ es.length = tot ∧ i < len then some (.ptr id tot (off + i) 0, H) else none
        | _ => none
      | _ => none
    | none => none
noncomputable def k_idxArr [GlobT] (s : Nat) (n : Nat) (x : AOpd) (i : AOpd) (tm : List AV) (H : Heap) : Option (AV × Heap) := match natOf (getOpdK tm i) with
    | some i => if i < n then match getOpdK tm x with
        | .ptr id tot idx o => some (.ptr id tot idx (o + i * s), H)
        | .rptr cs => some (.rptr (cs.drop (i * s)), H)
        | _ => none
      else none
    | none => none
noncomputable def k_index [GlobT] (agg : Bool) (s : Nat) (n : Nat) (x : AOpd) (i : AOpd) (tm : List AV) (H : Heap) : Option (AV × Heap) := match natOf (getOpdK tm i) with
    | some i => if i < n then match getOpdK tm x with
        | .agg cs => if i * s + s ≤ cs.length then
            if agg then some (.agg ((cs.drop (i * s)).take s), H) else match (cs.drop (i * s)).take s with
              | [c] => some (c, H)
              | _ => none
          else none
        | _ => none
      else none
    | none => none
noncomputable def k_strIdx [GlobT] (t : TypeId) (x : AOpd) (i : AOpd) (tm : List AV) (H : Heap) : Option (AV × Heap) := match getOpdK tm x, getOpdK tm i with
    | .lit v, .lit u => match pureRun P (Instr.index t v u) with
      | some r => some (.lit r, H)
      | none => none
    | _, _ => none
noncomputable def k_slice [GlobT] (s : Nat) (x : AOpd) (lo : Option AOpd) (hi : Option AOpd) (mx : Option AOpd) (tm : List AV) (H : Heap) : Option (AV × Heap) := match natOptK tm lo, natOptK tm hi, natOptK tm mx with
    | some lo, some hi, some mx => match sliceA H s (getOpdK tm x) lo hi mx with
      | some v => some (v, H)
      | none => none
    | _, _, _ => none
noncomputable def k_strSlice [GlobT] (u0 : TypeId) (x : AOpd) (lo : Option AOpd) (hi : Option AOpd) (tm : List AV) (H : Heap) : Option (AV × Heap) := match getOpdK tm x, natOptK tm lo, natOptK tm hi with
    | .lit (.string s), some lo, some hi =>
      if lo.getD 0 ≤ hi.getD s.size ∧ hi.getD s.size ≤ s.size then some (.lit (.string (s.extract (lo.getD 0) (hi.getD s.size))), H) else none
    | _, _, _ => none
noncomputable def k_mkSlice [GlobT] (s : Nat) (z : List Value) (bytes : Nat) (len : AOpd) (cap : AOpd) (tm : List AV) (H : Heap) : Option (AV × Heap) := match natOf (getOpdK tm len), natOf (getOpdK tm cap) with
    | some l, some c => if l ≤ c ∧ c * bytes ≤ 2 ^ 40 ∧ c ≤ 2 ^ 40 ∧ z.length = s then
        some (.ms H.length l 0 l, H ++ [.blk s (List.replicate l (z.map .lit))]) else none
    | _, _ => none
noncomputable def k_mkMap (tm : List AV) (H : Heap) : Option (AV × Heap) := some (.mp H.length, H ++ [.mp []])
noncomputable def k_lookup [GlobT] (kt : TypeId) (z : AOpd) (m : AOpd) (k : AOpd) (ok : Bool) (tm : List AV) (H : Heap) : Option (AV × Heap) := match lits (getOpdK tm k) with
    | some kv =>
      let r (ents : List (Value × AV)) : Option (AV × Heap) :=
        match pureRun P (Instr.checkKey ents.isEmpty 10000 kt kv), findA P kt kv ents with
        | some _, some (some i) => match ents[i]? with
          | some e => some (if ok then .tup [e.2, .lit (.bool true)] else e.2, H)
          | none => none
        | some _, some none => some (if ok then .tup [getOpdK tm z, .lit (.bool false)] else getOpdK tm z, H)
        | _, _ => none
      match getOpdK tm m with
      | .lit (.map none) => r []
      | .mp id => match H[id]? with
        | some (.mp ents) => r ents
        | _ => none
      | _ => none
    | none => none
noncomputable def k_mapUpd [GlobT] (kt : TypeId) (m : AOpd) (k : AOpd) (v : AOpd) (tm : List AV) (H : Heap) : Option (AV × Heap) := match lits (getOpdK tm k), getOpdK tm m with
    | some kv, .mp id => if fl ≤ id then match H[id]? with
        | some (.mp ents) => match pureRun P (Instr.checkKey false 10000 kt kv), findA P kt kv ents with
          | some _, some (some i) => match ents[i]? with
            | some e => if Instr.sameBits 10000 e.1 kv then some (.lit undefV, H.set id (.mp (ents.set i (kv, getOpdK tm v)))) else none
            | none => none
          | some _, some none => some (.lit undefV, H.set id (.mp (ents ++ [(kv, getOpdK tm v)])))
          | _, _ => none
        | _ => none
      else none
    | _, _ => none
noncomputable def k_lenS [GlobT] (x : AOpd) (tm : List AV) (H : Heap) : Option (AV × Heap) := match getOpdK tm x with
    | .lit (.slice none 0 0) => some (.lit (.int .i64 0), H)
    | .sl _ es => some (.lit (.int .i64 es.length), H)
    | .ms _ _ _ len => some (.lit (.int .i64 len), H)
    | _ => none
noncomputable def k_lenM [GlobT] (x : AOpd) (tm : List AV) (H : Heap) : Option (AV × Heap) := match getOpdK tm x with
    | .lit (.map none) => some (.lit (.int .i64 0), H)
    | .mp id => match H[id]? with
      | some (.mp ents) => some (.lit (.int .i64 ents.length), H)
      | _ => none
    | _ => none
noncomputable def k_lenStr [GlobT] (t : TypeId) (x : AOpd) (tm : List AV) (H : Heap) : Option (AV × Heap) := match getOpdK tm x with
    | .lit v => match pureRun P (Builtin.len_ #[t] 0 #[v]) with
      | some r => some (.lit r, H)
      | none => none
    | _ => none
noncomputable def k_lenC (n : Nat) (tm : List AV) (H : Heap) : Option (AV × Heap) := some (.lit (.int .i64 n), H)
noncomputable def k_append [GlobT] (s : Nat) (bytes : Nat) (x : AOpd) (y : AOpd) (tm : List AV) (H : Heap) : Option (AV × Heap) := match rd H (getOpdK tm y) with
    | some ys => appendA fl H s bytes (getOpdK tm x) ys
    | none => none
noncomputable def k_appendZ [GlobT] (s : Nat) (bytes : Nat) (z : List Value) (x : AOpd) (n : AOpd) (tm : List AV) (H : Heap) : Option (AV × Heap) := match natOf (getOpdK tm n) with
    | some n => if z.length = s ∧ n ≤ 2 ^ 20 ∧ n * bytes ≤ 2 ^ 40 then appendA fl H s bytes (getOpdK tm x) (List.replicate n (z.map .lit)) else none
    | none => none
noncomputable def k_copy [GlobT] (s : Nat) (x : AOpd) (y : AOpd) (tm : List AV) (H : Heap) : Option (AV × Heap) := match rd H (getOpdK tm y) with
    | some ys => if allLen s ys = true ∧ 0 < s then match getOpdK tm x with
        | .ms id tot off len => match H[id]? with
          | some (.blk s' es) => if s' = s ∧ es.length = tot ∧ ys.length ≤ len ∧ fl ≤ id then (if ys.length = 0 then some (.lit (.int .i64 0), H) else some (.lit (.int .i64 ys.length), H.set id (.blk s (splice es off ys)))) else none
          | _ => none
        | _ => none
      else none
    | none => none
noncomputable def k_delete [GlobT] (kt : TypeId) (m : AOpd) (k : AOpd) (tm : List AV) (H : Heap) : Option (AV × Heap) := match lits (getOpdK tm k), getOpdK tm m with
    | some kv, .mp id => if fl ≤ id then match H[id]? with
        | some (.mp ents) => match pureRun P (Instr.checkKey ents.isEmpty 10000 kt kv), findA P kt kv ents with
          | some _, some (some i) => some (.lit undefV, H.set id (.mp (ents.eraseIdx i)))
          | some _, some none => some (.lit undefV, H)
          | _, _ => none
        | _ => none
      else none
    | _, _ => none
noncomputable def k_minmax [GlobT] (mx : Bool) (xs : List AOpd) (tm : List AV) (H : Heap) : Option (AV × Heap) := match litL (xs.map (getOpdK tm)) with
    | some vs => match pureRun P (if mx then Builtin.max_ #[] 0 vs.toArray else Builtin.min_ #[] 0 vs.toArray) with
      | some r => some (.lit r, H)
      | none => none
    | none => none
noncomputable def k_mkFn [GlobT] (vi : Nat) (caps : List AOpd) (tm : List AV) (H : Heap) : Option (AV × Heap) := some (.fn vi (caps.map (getOpdK tm)), H)
noncomputable def k_call [GlobT] (pu : Bool) (vi : Nat) (args : List AOpd) (tm : List AV) (H : Heap) : Option (AV × Heap) := callM mem cf fl pu vi (args.map (getOpdK tm)) H
noncomputable def k_callv [GlobT] (pu : Bool) (x : AOpd) (args : List AOpd) (tm : List AV) (H : Heap) : Option (AV × Heap) := match getOpdK tm x with
    | .fn vi caps => callM mem cf fl pu vi (args.map (getOpdK tm) ++ caps) H
    | _ => none
noncomputable def k_callF [GlobT] (vi : Nat) (args : List AOpd) (tm : List AV) (H : Heap) : Option (AV × Heap) := cf H.length vi (args.map (getOpdK tm)) H
noncomputable def k_callS [GlobT] (vi : Nat) (args : List AOpd) (tm : List AV) (H : Heap) : Option (AV × Heap) := callSM mem cf vi ((args.map (getOpdK tm)).map (seal2 H 0)) H
noncomputable def k_capS [GlobT] (x : AOpd) (tm : List AV) (H : Heap) : Option (AV × Heap) := match getOpdK tm x with
    | .lit (.slice none 0 0) => some (.lit (.int .i64 0), H)
    | .sl true es => some (.lit (.int .i64 es.length), H)
    | _ => none
noncomputable def k_extract [GlobT] (x : AOpd) (i : Nat) (tm : List AV) (H : Heap) : Option (AV × Heap) := match getOpdK tm x with
    | .tup vs => match vs[i]? with
      | some v => some (v, H)
      | none => none
    | _ => none
noncomputable def k_rangeStr [GlobT] (x : AOpd) (tm : List AV) (H : Heap) : Option (AV × Heap) := match getOpdK tm x with
    | .lit (.string s) => some (.it H.length, H ++ [.raw (.stringIter s 0)])
    | _ => none
noncomputable def k_nextStr [GlobT] (x : AOpd) (tm : List AV) (H : Heap) : Option (AV × Heap) := match getOpdK tm x with
    | .it id => if fl ≤ id then match H[id]? with
        | some (.raw (.stringIter s pos)) => if pos < s.size then some (.tup [.lit (.bool true), .lit (.int .i64 pos), .lit (.int .i32 (Utf8.decode s pos).1)], H.set id (.raw (.stringIter s (pos + (Utf8.decode s pos).2)))) else some (.tup [.lit (.bool false)], H)
        | _ => none
      else none
    | _ => none
noncomputable def k_freeze [GlobT] (x : AOpd) (tm : List AV) (H : Heap) : Option (AV × Heap) := match getOpdK tm x with
    | .ms id tot off len => if fl ≤ id then match H[id]? with
        | some (.blk s es) => if es.length = tot then some (.sl false (((es.drop off).take len).map fun e => e.map toP), H.set id (.blk s (es ++ [List.replicate s .undef]))) else none
        | _ => none
      else none
    | v => some (v, H)
noncomputable def evOpK [GlobT] (op : AOp) (tm : List AV) (H : Heap) : Option (AV × Heap) :=
  match op with
  | .mov x => k_mov x tm H
  | .movN x => k_movN x tm H
  | .pick c a b => k_pick c a b tm H
  | .alloc z => k_alloc z tm H
  | .claim s => k_claim s tm H
  | .allocC z cl => k_allocC z cl tm H
  | .box x => k_box x tm H
  | .build z parts => k_build z parts tm H
  | .buildSl pu s n z parts => k_buildSl pu s n z parts tm H
  | .load agg n x => k_load agg n x tm H
  | .store n x v => k_store fl n x v tm H
  | .nilCheck x => k_nilCheck x tm H
  | .ibin op x y => k_ibin op x y tm H
  | .bin op t x y => k_bin P op t x y tm H
  | .un op x => k_un P op x tm H
  | .conv src dst x => k_conv P src dst x tm H
  | .fieldAddr off x => k_fieldAddr off x tm H
  | .field agg n off x => k_field agg n off x tm H
  | .idxAddr s x i => k_idxAddr s x i tm H
  | .idxArr s n x i => k_idxArr s n x i tm H
  | .index agg s n x i => k_index agg s n x i tm H
  | .strIdx t x i => k_strIdx P t x i tm H
  | .slice s x lo hi mx => k_slice s x lo hi mx tm H
  | .strSlice u0 x lo hi => k_strSlice u0 x lo hi tm H
  | .mkSlice s z bytes len cap => k_mkSlice s z bytes len cap tm H
  | .mkMap => k_mkMap  tm H
  | .lookup kt z m k ok => k_lookup P kt z m k ok tm H
  | .mapUpd kt m k v => k_mapUpd P fl kt m k v tm H
  | .lenS x => k_lenS x tm H
  | .lenM x => k_lenM x tm H
  | .lenStr t x => k_lenStr P t x tm H
  | .lenC n => k_lenC n tm H
  | .append s bytes x y => k_append fl s bytes x y tm H
  | .appendZ s bytes z x n => k_appendZ fl s bytes z x n tm H
  | .copy s x y => k_copy fl s x y tm H
  | .delete kt m k => k_delete P fl kt m k tm H
  | .minmax mx xs => k_minmax P mx xs tm H
  | .mkFn vi caps => k_mkFn vi caps tm H
  | .call pu vi args => k_call cf fl mem pu vi args tm H
  | .callv pu x args => k_callv cf fl mem pu x args tm H
  | .callF vi args => k_callF cf vi args tm H
  | .callS vi args => k_callS cf mem vi args tm H
  | .capS x => k_capS x tm H
  | .extract x i => k_extract x i tm H
  | .rangeStr x => k_rangeStr x tm H
  | .nextStr x => k_nextStr fl x tm H
  | .freeze x => k_freeze fl x tm H

theorem evOpK_eq [GlobT] (hmem : MemOK mem cf) (op : AOp) (tm : List AV) (H : Heap) : evOpK P cf fl mem op tm H = evOp P cf fl op tm H := by
  cases op <;> simp only [evOpK, evOp, k_mov, k_movN, k_pick, k_alloc, k_claim, k_allocC, k_box, k_build, k_buildSl, k_load, k_store, k_nilCheck, k_ibin, k_bin, k_un, k_conv, k_fieldAddr, k_field, k_idxAddr, k_idxArr, k_index, k_strIdx, k_slice, k_strSlice, k_mkSlice, k_mkMap, k_lookup, k_mapUpd, k_lenS, k_lenM, k_lenStr, k_lenC, k_append, k_appendZ, k_copy, k_delete, k_minmax, k_mkFn, k_call, k_callv, k_callF, k_callS, k_capS, k_extract, k_rangeStr, k_nextStr, k_freeze, getOpdK_eq, natOptK_eq, getOpdK_fun, callM_eq hmem, callSM_eq hmem] <;> first | done | rfl
/-- An operation, ready to run. -/
structure OpF where
  f : List AV → Heap → Option (AV × Heap)

noncomputable def opF [GlobT] (op : AOp) : OpF :=
  match op with
  | .mov x => ⟨fun tm H => k_mov x tm H⟩
  | .movN x => ⟨fun tm H => k_movN x tm H⟩
  | .pick c a b => ⟨fun tm H => k_pick c a b tm H⟩
  | .alloc z => ⟨fun tm H => k_alloc z tm H⟩
  | .claim s => ⟨fun tm H => k_claim s tm H⟩
  | .allocC z cl => ⟨fun tm H => k_allocC z cl tm H⟩
  | .box x => ⟨fun tm H => k_box x tm H⟩
  | .build z parts => ⟨fun tm H => k_build z parts tm H⟩
  | .buildSl pu s n z parts => ⟨fun tm H => k_buildSl pu s n z parts tm H⟩
  | .load agg n x => ⟨fun tm H => k_load agg n x tm H⟩
  | .store n x v => ⟨fun tm H => k_store fl n x v tm H⟩
  | .nilCheck x => ⟨fun tm H => k_nilCheck x tm H⟩
  | .ibin op x y => ⟨fun tm H => k_ibin op x y tm H⟩
  | .bin op t x y => ⟨fun tm H => k_bin P op t x y tm H⟩
  | .un op x => ⟨fun tm H => k_un P op x tm H⟩
  | .conv src dst x => ⟨fun tm H => k_conv P src dst x tm H⟩
  | .fieldAddr off x => ⟨fun tm H => k_fieldAddr off x tm H⟩
  | .field agg n off x => ⟨fun tm H => k_field agg n off x tm H⟩
  | .idxAddr s x i => ⟨fun tm H => k_idxAddr s x i tm H⟩
  | .idxArr s n x i => ⟨fun tm H => k_idxArr s n x i tm H⟩
  | .index agg s n x i => ⟨fun tm H => k_index agg s n x i tm H⟩
  | .strIdx t x i => ⟨fun tm H => k_strIdx P t x i tm H⟩
  | .slice s x lo hi mx => ⟨fun tm H => k_slice s x lo hi mx tm H⟩
  | .strSlice u0 x lo hi => ⟨fun tm H => k_strSlice u0 x lo hi tm H⟩
  | .mkSlice s z bytes len cap => ⟨fun tm H => k_mkSlice s z bytes len cap tm H⟩
  | .mkMap => ⟨fun tm H => k_mkMap  tm H⟩
  | .lookup kt z m k ok => ⟨fun tm H => k_lookup P kt z m k ok tm H⟩
  | .mapUpd kt m k v => ⟨fun tm H => k_mapUpd P fl kt m k v tm H⟩
  | .lenS x => ⟨fun tm H => k_lenS x tm H⟩
  | .lenM x => ⟨fun tm H => k_lenM x tm H⟩
  | .lenStr t x => ⟨fun tm H => k_lenStr P t x tm H⟩
  | .lenC n => ⟨fun tm H => k_lenC n tm H⟩
  | .append s bytes x y => ⟨fun tm H => k_append fl s bytes x y tm H⟩
  | .appendZ s bytes z x n => ⟨fun tm H => k_appendZ fl s bytes z x n tm H⟩
  | .copy s x y => ⟨fun tm H => k_copy fl s x y tm H⟩
  | .delete kt m k => ⟨fun tm H => k_delete P fl kt m k tm H⟩
  | .minmax mx xs => ⟨fun tm H => k_minmax P mx xs tm H⟩
  | .mkFn vi caps => ⟨fun tm H => k_mkFn vi caps tm H⟩
  | .call pu vi args => ⟨fun tm H => k_call cf fl mem pu vi args tm H⟩
  | .callv pu x args => ⟨fun tm H => k_callv cf fl mem pu x args tm H⟩
  | .callF vi args => ⟨fun tm H => k_callF cf vi args tm H⟩
  | .callS vi args => ⟨fun tm H => k_callS cf mem vi args tm H⟩
  | .capS x => ⟨fun tm H => k_capS x tm H⟩
  | .extract x i => ⟨fun tm H => k_extract x i tm H⟩
  | .rangeStr x => ⟨fun tm H => k_rangeStr x tm H⟩
  | .nextStr x => ⟨fun tm H => k_nextStr fl x tm H⟩
  | .freeze x => ⟨fun tm H => k_freeze fl x tm H⟩

theorem opF_eq [GlobT] (op : AOp) (tm : List AV) (H : Heap) : (opF P cf fl mem op).f tm H = evOpK P cf fl mem op tm H := by cases op <;> rfl
end
end Go.Proofs.YtanonfpdkoijnaaGreatDoor.Av
