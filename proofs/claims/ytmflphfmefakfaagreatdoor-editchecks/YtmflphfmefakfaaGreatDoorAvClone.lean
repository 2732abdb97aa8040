/- A part of the proof of EditChecksCardSaid. -/
import Derived.Test.YtmflphfmefakfaaGreatDoorAvMono
import Derived.KernelRfl
set_option linter.all false
namespace Go.Proofs.YtmflphfmefakfaaGreatDoor.Av
open Go
set_option linter.unusedVariables false
noncomputable def getK (l : List AV) : Nat → AV := List.rec (motive := fun _ => Nat → AV) (fun _ => .lit undefV) (fun x _ ih n => Nat.rec (motive := fun _ => AV) x (fun m _ => ih m) n) l
theorem getK_eq [GlobT] : ∀ (l : List AV) (t : Nat), getK l t = match l[t]? with | some v => v | none => .lit undefV
 | [], t => by simp [getK]
 | x :: r, 0 => rfl
 | x :: r, t + 1 => by
  have := getK_eq r t
  simp only [List.getElem?_cons_succ]
  rw [← this]
  rfl
noncomputable def getOpdK [GlobT] (tm : List AV) (x : AOpd) : AV := match x with
 | .tmp t => getK tm t
 | .lit v => .lit v
 | .agg vs => .agg (vs.map .lit)
 | .fn vi => .fn vi []
 | .glob g => match GlobT.tab g with | some cs => .rptr cs | none => .undef
theorem getOpdK_eq [GlobT] (tm : List AV) (x : AOpd) : getOpdK tm x = getOpd tm x := by
 cases x with
 | tmp t => simp only [getOpdK, getK_eq, getOpd]; rfl
 | _ => rfl
theorem getOpdK_fun [GlobT] (tm : List AV) : getOpdK tm = getOpd tm := funext (getOpdK_eq tm)
noncomputable def natOptK [GlobT] (tm : List AV) (x : Option AOpd) : Option (Option Nat) := match x with
 | none => some none
 | some x => match natOf (getOpdK tm x) with | some n => some (some n) | none => none
theorem natOptK_eq [GlobT] (tm : List AV) (x : Option AOpd) : natOptK tm x = natOpt tm x := by
 cases x <;> simp only [natOptK, natOpt, getOpdK_eq] <;> rfl
def callS0 (cf : Nat → Nat → List AV → Heap → Option (AV × Heap)) (vi : Nat) (args : List AV) (H : Heap) : Option (AV × Heap) := match cf 0 vi args [] with
 | some (r, H') => match scalT (seal3 H' 0 r) with
  | true => some (seal3 H' 0 r, H)
  | false => none
 | none => none
def callSM (mem : Nat → List AV → Option AV) (cf : Nat → Nat → List AV → Heap → Option (AV × Heap)) (vi : Nat) (args : List AV) (H : Heap) : Option (AV × Heap) :=
 match mem vi args with
 | some r => match scalT r with
  | true => some (r, H)
  | false => none
 | none => callS0 cf vi args H
def callM (mem : Nat → List AV → Option AV) (cf : Nat → Nat → List AV → Heap → Option (AV × Heap)) (fl : Nat) (pu : Bool) (vi : Nat) (args : List AV) (H : Heap) : Option (AV × Heap) :=
 match pu with
 | true => match plainAll args with
  | true => match mem vi (args.map nrm2) with
   | some r => some (r, H)
   | none => callA cf fl true vi args H
  | false => callA cf fl true vi args H
 | false => cf fl vi args H
def MemOK (mem : Nat → List AV → Option AV) (cf : Nat → Nat → List AV → Heap → Option (AV × Heap)) : Prop :=
 ∀ vi args r, mem vi args = some r → (match cf 0 vi args [] with | some (r', H') => some (seal3 H' 0 r') | none => none) = some r
theorem callSM_eq {mem : Nat → List AV → Option AV} {cf : Nat → Nat → List AV → Heap → Option (AV × Heap)} (h : MemOK mem cf) (vi : Nat) (args : List AV) (H : Heap) : callSM mem cf vi args H = match cf 0 vi args [] with
  | some (r, H') => match scalT (seal3 H' 0 r) with
   | true => some (seal3 H' 0 r, H)
   | false => none
  | none => none := by
 unfold callSM
 cases hm : mem vi args with
 | none => rfl
 | some r =>
  have := h vi _ r hm
  cases hc : cf 0 vi args [] with
  | none => rw [hc] at this; cases this
  | some x =>
   rw [hc] at this
   simp only [Option.some.injEq] at this ⊢
   rw [this]
theorem callM_eq {mem : Nat → List AV → Option AV} {cf : Nat → Nat → List AV → Heap → Option (AV × Heap)} (h : MemOK mem cf) (fl : Nat) (pu : Bool) (vi : Nat) (args : List AV) (H : Heap) : callM mem cf fl pu vi args H = callA cf fl pu vi args H := by
 unfold callM
 cases pu with
 | false => rfl
 | true =>
  simp only
  cases hp : plainAll args with
  | false => rfl
  | true =>
   simp only
   cases hm : mem vi (args.map nrm2) with
   | none => rfl
   | some r =>
    have := h vi _ r hm
    unfold callA
    simp only [hp]
    cases hc : cf 0 vi (args.map nrm2) [] with
    | none => rw [hc] at this; cases this
    | some x =>
     rw [hc] at this
     simp only [Option.some.injEq] at this ⊢
     rw [this]
section
variable (P : Program) (cf : Nat → Nat → List AV → Heap → Option (AV × Heap)) (fl : Nat) (mem : Nat → List AV → Option AV)
noncomputable def k_mov [GlobT] (x : AOpd) (tm : List AV) (H : Heap) : Option (AV × Heap) := some (getOpdK tm x, H)
noncomputable def k_movN [GlobT] (x : AOpd) (tm : List AV) (H : Heap) : Option (AV × Heap) := some (nrm2 (getOpdK tm x), H)
noncomputable def k_pick [GlobT] (c : AOpd) (a : AOpd) (b : AOpd) (tm : List AV) (H : Heap) : Option (AV × Heap) := match getOpdK tm c with
  | .lit (.bool t) => some (if t then getOpdK tm a else getOpdK tm b, H)
  | _ => none
noncomputable def k_alloc (z : List Value) (tm : List AV) (H : Heap) : Option (AV × Heap) := some (.ptr H.length 1 0 0, H ++ [.blk z.length [z.map .lit]])
noncomputable def k_claim (s : Nat) (tm : List AV) (H : Heap) : Option (AV × Heap) := some (.ms H.length 0 0 0, H ++ [.blk s []])
noncomputable def k_allocC (z : List Value) (cl : List (Nat × Nat)) (tm : List AV) (H : Heap) : Option (AV × Heap) := some (.ptr (H.length + cl.length) 1 0 0,
   (H ++ cl.map fun c => .blk c.2 []) ++ [.blk z.length [claimCells H.length (z.map .lit) cl]])
noncomputable def k_box [GlobT] (x : AOpd) (tm : List AV) (H : Heap) : Option (AV × Heap) := match cellsOf (getOpdK tm x) with
  | some cs => some (.ptr H.length 1 0 0, H ++ [.blk cs.length [cs]])
  | none => none
noncomputable def k_build [GlobT] (z : List Value) (parts : List (Nat × Nat × AOpd)) (tm : List AV) (H : Heap) : Option (AV × Heap) := match fillA (z.map .lit) (parts.map fun (o, s, x) => (o, s, getOpdK tm x)) with
  | some cs => some (.agg cs, H)
  | none => none
noncomputable def k_buildSl [GlobT] (pu : Bool) (s : Nat) (n : Nat) (z : List Value) (parts : List (Nat × AOpd)) (tm : List AV) (H : Heap) : Option (AV × Heap) := match fillE s (List.replicate n (z.map .lit)) (parts.map fun (i, x) => (i, getOpdK tm x)) with
  | some es => if pu then some (.sl true (es.map fun e => e.map toP), H) else some (.ms H.length n 0 n, H ++ [.blk s es])
  | none => none
noncomputable def k_load [GlobT] (agg : Bool) (n : Nat) (x : AOpd) (tm : List AV) (H : Heap) : Option (AV × Heap) := match ldCells H (getOpdK tm x) n with
  | some cs => if agg then some (.agg cs, H) else match cs with
   | [c] => some (c, H)
   | _ => none
  | none => none
noncomputable def k_store [GlobT] (n : Nat) (x : AOpd) (v : AOpd) (tm : List AV) (H : Heap) : Option (AV × Heap) := match cellsOf (getOpdK tm v) with
  | some cs => if cs.length = n then match stCells fl H (getOpdK tm x) cs with
    | some H' => some (.lit undefV, H')
    | none => none
   else none
  | none => none
noncomputable def k_nilCheck [GlobT] (x : AOpd) (tm : List AV) (H : Heap) : Option (AV × Heap) := match getOpdK tm x with
  | .ptr .. => some (getOpdK tm x, H)
  | .rptr _ => some (getOpdK tm x, H)
  | .fn .. => some (getOpdK tm x, H)
  | _ => none
noncomputable def k_ibin [GlobT] (op : BinOp) (x : AOpd) (y : AOpd) (tm : List AV) (H : Heap) : Option (AV × Heap) := match getOpdK tm x, getOpdK tm y with
  | .lit (.int k a), .lit (.int k' b) => if k = k' then match ibinV op k a b with
    | some v => some (.lit v, H)
    | none => none
   else none
  | _, _ => none
noncomputable def k_bin [GlobT] (op : BinOp) (t : TypeId) (x : AOpd) (y : AOpd) (tm : List AV) (H : Heap) : Option (AV × Heap) := match lits (getOpdK tm x), lits (getOpdK tm y) with
  | some v, some u => match (if notNil v then pureRun P (eqGuard op t (.tmp 0) (.tmp 0) v u) else none) with
   | some _ => match pureRun P (binOp op t v u) with
    | some r => some (.lit r, H)
    | none => none
   | none => none
  | _, _ => none
noncomputable def k_un [GlobT] (op : UnOp) (x : AOpd) (tm : List AV) (H : Heap) : Option (AV × Heap) := match getOpdK tm x with
  | .lit v => match pureRun P (Op.unary op v) with
   | some r => some (.lit r, H)
   | none => none
  | _ => none
noncomputable def k_conv [GlobT] (src : TypeId) (dst : TypeId) (x : AOpd) (tm : List AV) (H : Heap) : Option (AV × Heap) := match getOpdK tm x with
  | .lit v => match pureRun P (convert src dst v) with
   | some r => some (.lit r, H)
   | none => none
  | .sl _ es => match isBytes P src dst with
   | true => match bytesE es with
    | some ns => some (.lit (.string (strOfB ns)), H)
    | none => none
   | false => none
  | _ => none
noncomputable def k_fieldAddr [GlobT] (off : Nat) (x : AOpd) (tm : List AV) (H : Heap) : Option (AV × Heap) := match getOpdK tm x with
  | .ptr id tot idx o => some (.ptr id tot idx (o + off), H)
  | .rptr cs => some (.rptr (cs.drop off), H)
  | _ => none
noncomputable def k_field [GlobT] (agg : Bool) (n : Nat) (off : Nat) (x : AOpd) (tm : List AV) (H : Heap) : Option (AV × Heap) := match getOpdK tm x with
  | .agg cs => if off + n ≤ cs.length then
    if agg then some (.agg ((cs.drop off).take n), H) else match (cs.drop off).take n with
     | [c] => some (c, H)
     | _ => none
   else none
  | _ => none
noncomputable def k_idxAddr [GlobT] (s : Nat) (x : AOpd) (i : AOpd) (tm : List AV) (H : Heap) : Option (AV × Heap) := match natOf (getOpdK tm i) with
  | some i => match getOpdK tm x with
   | .sl _ es => match es[i]? with
    | some e => if e.length = s then some (.rptr e, H) else none
    | none => none
   | .ms id tot off len => match H[id]? with
    | some (.blk s' es) => if s' = s ∧ es.length = tot ∧ i < len then some (.ptr id tot (off + i) 0, H) else none
    | _ => none
   | _ => none
  | none => none
noncomputable def k_idxArr [GlobT] (s : Nat) (n : Nat) (x : AOpd) (i : AOpd) (tm : List AV) (H : Heap) : Option (AV × Heap) := match natOf (getOpdK tm i) with
  | some i => if i < n then match getOpdK tm x with
    | .ptr id tot idx o => some (.ptr id tot idx (o + i * s), H)
    | .rptr cs => some (.rptr (cs.drop (i * s)), H)
    | _ => none
   else none
  | none => none
noncomputable def k_index [GlobT] (agg : Bool) (s : Nat) (n : Nat) (x : AOpd) (i : AOpd) (tm : List AV) (H : Heap) : Option (AV × Heap) := match natOf (getOpdK tm i) with
  | some i => if i < n then match getOpdK tm x with
    | .agg cs => if i * s + s ≤ cs.length then
      if agg then some (.agg ((cs.drop (i * s)).take s), H) else match (cs.drop (i * s)).take s with
       | [c] => some (c, H)
       | _ => none
     else none
    | _ => none
   else none
  | none => none
noncomputable def k_strIdx [GlobT] (t : TypeId) (x : AOpd) (i : AOpd) (tm : List AV) (H : Heap) : Option (AV × Heap) := match getOpdK tm x, getOpdK tm i with
  | .lit v, .lit u => match pureRun P (Instr.index t v u) with
   | some r => some (.lit r, H)
   | none => none
  | _, _ => none
noncomputable def k_slice [GlobT] (s : Nat) (x : AOpd) (lo : Option AOpd) (hi : Option AOpd) (mx : Option AOpd) (tm : List AV) (H : Heap) : Option (AV × Heap) := match natOptK tm lo, natOptK tm hi, natOptK tm mx with
  | some lo, some hi, some mx => match sliceA H s (getOpdK tm x) lo hi mx with
   | some v => some (v, H)
   | none => none
  | _, _, _ => none
noncomputable def k_strSlice [GlobT] (u0 : TypeId) (x : AOpd) (lo : Option AOpd) (hi : Option AOpd) (tm : List AV) (H : Heap) : Option (AV × Heap) := match getOpdK tm x, natOptK tm lo, natOptK tm hi with
  | .lit (.string s), some lo, some hi =>
   if lo.getD 0 ≤ hi.getD s.size ∧ hi.getD s.size ≤ s.size then some (.lit (.string (s.extract (lo.getD 0) (hi.getD s.size))), H) else none
  | _, _, _ => none
noncomputable def k_mkSlice [GlobT] (s : Nat) (z : List Value) (bytes : Nat) (len : AOpd) (cap : AOpd) (tm : List AV) (H : Heap) : Option (AV × Heap) := match natOf (getOpdK tm len), natOf (getOpdK tm cap) with
  | some l, some c => if l ≤ c ∧ c * bytes ≤ 2 ^ 40 ∧ c ≤ 2 ^ 40 ∧ z.length = s then
    some (.ms H.length l 0 l, H ++ [.blk s (List.replicate l (z.map .lit))]) else none
  | _, _ => none
noncomputable def k_mkMap (tm : List AV) (H : Heap) : Option (AV × Heap) := some (.mp H.length, H ++ [.mp []])
noncomputable def k_lookup [GlobT] (kt : TypeId) (z : AOpd) (m : AOpd) (k : AOpd) (ok : Bool) (tm : List AV) (H : Heap) : Option (AV × Heap) := match lits (getOpdK tm k) with
  | some kv =>
   let r (ents : List (Value × AV)) : Option (AV × Heap) :=
    match pureRun P (Instr.checkKey ents.isEmpty 10000 kt kv), findA P kt kv ents with
    | some _, some (some i) => match ents[i]? with
     | some e => some (if ok then .tup [e.2, .lit (.bool true)] else e.2, H)
     | none => none
    | some _, some none => some (if ok then .tup [getOpdK tm z, .lit (.bool false)] else getOpdK tm z, H)
    | _, _ => none
   match getOpdK tm m with
   | .lit (.map none) => r []
   | .mp id => match H[id]? with
    | some (.mp ents) => r ents
    | _ => none
   | _ => none
  | none => none
noncomputable def k_mapUpd [GlobT] (kt : TypeId) (m : AOpd) (k : AOpd) (v : AOpd) (tm : List AV) (H : Heap) : Option (AV × Heap) := match lits (getOpdK tm k), getOpdK tm m with
  | some kv, .mp id => if fl ≤ id then match H[id]? with
    | some (.mp ents) => match pureRun P (Instr.checkKey false 10000 kt kv), findA P kt kv ents with
     | some _, some (some i) => match ents[i]? with
      | some e => if Instr.sameBits 10000 e.1 kv then some (.lit undefV, H.set id (.mp (ents.set i (kv, getOpdK tm v)))) else none
      | none => none
     | some _, some none => some (.lit undefV, H.set id (.mp (ents ++ [(kv, getOpdK tm v)])))
     | _, _ => none
    | _ => none
   else none
  | _, _ => none
noncomputable def k_lenS [GlobT] (x : AOpd) (tm : List AV) (H : Heap) : Option (AV × Heap) := match getOpdK tm x with
  | .lit (.slice none 0 0) => some (.lit (.int .i64 0), H)
  | .sl _ es => some (.lit (.int .i64 es.length), H)
  | .ms _ _ _ len => some (.lit (.int .i64 len), H)
  | _ => none
noncomputable def k_lenM [GlobT] (x : AOpd) (tm : List AV) (H : Heap) : Option (AV × Heap) := match getOpdK tm x with
  | .lit (.map none) => some (.lit (.int .i64 0), H)
  | .mp id => match H[id]? with
   | some (.mp ents) => some (.lit (.int .i64 ents.length), H)
   | _ => none
  | _ => none
noncomputable def k_lenStr [GlobT] (t : TypeId) (x : AOpd) (tm : List AV) (H : Heap) : Option (AV × Heap) := match getOpdK tm x with
  | .lit v => match pureRun P (Builtin.len_ #[t] 0 #[v]) with
   | some r => some (.lit r, H)
   | none => none
  | _ => none
noncomputable def k_lenC (n : Nat) (tm : List AV) (H : Heap) : Option (AV × Heap) := some (.lit (.int .i64 n), H)
noncomputable def k_append [GlobT] (s : Nat) (bytes : Nat) (x : AOpd) (y : AOpd) (tm : List AV) (H : Heap) : Option (AV × Heap) := match rd H (getOpdK tm y) with
  | some ys => appendA fl H s bytes (getOpdK tm x) ys
  | none => none
noncomputable def k_appendZ [GlobT] (s : Nat) (bytes : Nat) (z : List Value) (x : AOpd) (n : AOpd) (tm : List AV) (H : Heap) : Option (AV × Heap) := match natOf (getOpdK tm n) with
  | some n => if z.length = s ∧ n ≤ 2 ^ 20 ∧ n * bytes ≤ 2 ^ 40 then appendA fl H s bytes (getOpdK tm x) (List.replicate n (z.map .lit)) else none
  | none => none
noncomputable def k_copy [GlobT] (s : Nat) (x : AOpd) (y : AOpd) (tm : List AV) (H : Heap) : Option (AV × Heap) := match rd H (getOpdK tm y) with
  | some ys => if allLen s ys = true ∧ 0 < s then match getOpdK tm x with
    | .ms id tot off len => match H[id]? with
     | some (.blk s' es) => if s' = s ∧ es.length = tot ∧ ys.length ≤ len ∧ fl ≤ id then (if ys.length = 0 then some (.lit (.int .i64 0), H) else some (.lit (.int .i64 ys.length), H.set id (.blk s (splice es off ys)))) else none
     | _ => none
    | _ => none
   else none
  | none => none
noncomputable def k_delete [GlobT] (kt : TypeId) (m : AOpd) (k : AOpd) (tm : List AV) (H : Heap) : Option (AV × Heap) := match lits (getOpdK tm k), getOpdK tm m with
  | some kv, .mp id => if fl ≤ id then match H[id]? with
    | some (.mp ents) => match pureRun P (Instr.checkKey ents.isEmpty 10000 kt kv), findA P kt kv ents with
     | some _, some (some i) => some (.lit undefV, H.set id (.mp (ents.eraseIdx i)))
     | some _, some none => some (.lit undefV, H)
     | _, _ => none
    | _ => none
   else none
  | _, _ => none
noncomputable def k_minmax [GlobT] (mx : Bool) (xs : List AOpd) (tm : List AV) (H : Heap) : Option (AV × Heap) := match litL (xs.map (getOpdK tm)) with
  | some vs => match pureRun P (if mx then Builtin.max_ #[] 0 vs.toArray else Builtin.min_ #[] 0 vs.toArray) with
   | some r => some (.lit r, H)
   | none => none
  | none => none
noncomputable def k_mkFn [GlobT] (vi : Nat) (caps : List AOpd) (tm : List AV) (H : Heap) : Option (AV × Heap) := some (.fn vi (caps.map (getOpdK tm)), H)
noncomputable def k_call [GlobT] (pu : Bool) (vi : Nat) (args : List AOpd) (tm : List AV) (H : Heap) : Option (AV × Heap) := callM mem cf fl pu vi (args.map (getOpdK tm)) H
noncomputable def k_callv [GlobT] (pu : Bool) (x : AOpd) (args : List AOpd) (tm : List AV) (H : Heap) : Option (AV × Heap) := match getOpdK tm x with
  | .fn vi caps => callM mem cf fl pu vi (args.map (getOpdK tm) ++ caps) H
  | _ => none
noncomputable def k_callF [GlobT] (vi : Nat) (args : List AOpd) (tm : List AV) (H : Heap) : Option (AV × Heap) := cf H.length vi (args.map (getOpdK tm)) H
noncomputable def k_callS [GlobT] (vi : Nat) (args : List AOpd) (tm : List AV) (H : Heap) : Option (AV × Heap) := callSM mem cf vi ((args.map (getOpdK tm)).map (seal2 H 0)) H
noncomputable def k_capS [GlobT] (x : AOpd) (tm : List AV) (H : Heap) : Option (AV × Heap) := match getOpdK tm x with
  | .lit (.slice none 0 0) => some (.lit (.int .i64 0), H)
  | .sl true es => some (.lit (.int .i64 es.length), H)
  | _ => none
noncomputable def k_extract [GlobT] (x : AOpd) (i : Nat) (tm : List AV) (H : Heap) : Option (AV × Heap) := match getOpdK tm x with
  | .tup vs => match vs[i]? with
   | some v => some (v, H)
   | none => none
  | _ => none
noncomputable def k_rangeStr [GlobT] (x : AOpd) (tm : List AV) (H : Heap) : Option (AV × Heap) := match getOpdK tm x with
  | .lit (.string s) => some (.it H.length, H ++ [.raw (.stringIter s 0)])
  | _ => none
noncomputable def k_nextStr [GlobT] (x : AOpd) (tm : List AV) (H : Heap) : Option (AV × Heap) := match getOpdK tm x with
  | .it id => if fl ≤ id then match H[id]? with
    | some (.raw (.stringIter s pos)) => if pos < s.size then some (.tup [.lit (.bool true), .lit (.int .i64 pos), .lit (.int .i32 (Utf8.decode s pos).1)], H.set id (.raw (.stringIter s (pos + (Utf8.decode s pos).2)))) else some (.tup [.lit (.bool false)], H)
    | _ => none
   else none
  | _ => none
noncomputable def k_freeze [GlobT] (x : AOpd) (tm : List AV) (H : Heap) : Option (AV × Heap) := match getOpdK tm x with
  | .ms id tot off len => if fl ≤ id then match H[id]? with
    | some (.blk s es) => if es.length = tot then some (.sl false (((es.drop off).take len).map fun e => e.map toP), H.set id (.blk s (es ++ [List.replicate s .undef]))) else none
    | _ => none
   else none
  | v => some (v, H)
noncomputable def evOpK [GlobT] (op : AOp) (tm : List AV) (H : Heap) : Option (AV × Heap) :=
 match op with
 | .mov x => k_mov x tm H
 | .movN x => k_movN x tm H
 | .pick c a b => k_pick c a b tm H
 | .alloc z => k_alloc z tm H
 | .claim s => k_claim s tm H
 | .allocC z cl => k_allocC z cl tm H
 | .box x => k_box x tm H
 | .build z parts => k_build z parts tm H
 | .buildSl pu s n z parts => k_buildSl pu s n z parts tm H
 | .load agg n x => k_load agg n x tm H
 | .store n x v => k_store fl n x v tm H
 | .nilCheck x => k_nilCheck x tm H
 | .ibin op x y => k_ibin op x y tm H
 | .bin op t x y => k_bin P op t x y tm H
 | .un op x => k_un P op x tm H
 | .conv src dst x => k_conv P src dst x tm H
 | .fieldAddr off x => k_fieldAddr off x tm H
 | .field agg n off x => k_field agg n off x tm H
 | .idxAddr s x i => k_idxAddr s x i tm H
 | .idxArr s n x i => k_idxArr s n x i tm H
 | .index agg s n x i => k_index agg s n x i tm H
 | .strIdx t x i => k_strIdx P t x i tm H
 | .slice s x lo hi mx => k_slice s x lo hi mx tm H
 | .strSlice u0 x lo hi => k_strSlice u0 x lo hi tm H
 | .mkSlice s z bytes len cap => k_mkSlice s z bytes len cap tm H
 | .mkMap => k_mkMap  tm H
 | .lookup kt z m k ok => k_lookup P kt z m k ok tm H
 | .mapUpd kt m k v => k_mapUpd P fl kt m k v tm H
 | .lenS x => k_lenS x tm H
 | .lenM x => k_lenM x tm H
 | .lenStr t x => k_lenStr P t x tm H
 | .lenC n => k_lenC n tm H
 | .append s bytes x y => k_append fl s bytes x y tm H
 | .appendZ s bytes z x n => k_appendZ fl s bytes z x n tm H
 | .copy s x y => k_copy fl s x y tm H
 | .delete kt m k => k_delete P fl kt m k tm H
 | .minmax mx xs => k_minmax P mx xs tm H
 | .mkFn vi caps => k_mkFn vi caps tm H
 | .call pu vi args => k_call cf fl mem pu vi args tm H
 | .callv pu x args => k_callv cf fl mem pu x args tm H
 | .callF vi args => k_callF cf vi args tm H
 | .callS vi args => k_callS cf mem vi args tm H
 | .capS x => k_capS x tm H
 | .extract x i => k_extract x i tm H
 | .rangeStr x => k_rangeStr x tm H
 | .nextStr x => k_nextStr fl x tm H
 | .freeze x => k_freeze fl x tm H
theorem evOpK_eq [GlobT] (hmem : MemOK mem cf) (op : AOp) (tm : List AV) (H : Heap) : evOpK P cf fl mem op tm H = evOp P cf fl op tm H := by
 cases op <;> simp only [evOpK, evOp, k_mov, k_movN, k_pick, k_alloc, k_claim, k_allocC, k_box, k_build, k_buildSl, k_load, k_store, k_nilCheck, k_ibin, k_bin, k_un, k_conv, k_fieldAddr, k_field, k_idxAddr, k_idxArr, k_index, k_strIdx, k_slice, k_strSlice, k_mkSlice, k_mkMap, k_lookup, k_mapUpd, k_lenS, k_lenM, k_lenStr, k_lenC, k_append, k_appendZ, k_copy, k_delete, k_minmax, k_mkFn, k_call, k_callv, k_callF, k_callS, k_capS, k_extract, k_rangeStr, k_nextStr, k_freeze, getOpdK_eq, natOptK_eq, getOpdK_fun, callM_eq hmem, callSM_eq hmem] <;> first | done | rfl
structure OpF where
 f : List AV → Heap → Option (AV × Heap)
noncomputable def opF [GlobT] (op : AOp) : OpF :=
 match op with
 | .mov x => ⟨fun tm H => k_mov x tm H⟩
 | .movN x => ⟨fun tm H => k_movN x tm H⟩
 | .pick c a b => ⟨fun tm H => k_pick c a b tm H⟩
 | .alloc z => ⟨fun tm H => k_alloc z tm H⟩
 | .claim s => ⟨fun tm H => k_claim s tm H⟩
 | .allocC z cl => ⟨fun tm H => k_allocC z cl tm H⟩
 | .box x => ⟨fun tm H => k_box x tm H⟩
 | .build z parts => ⟨fun tm H => k_build z parts tm H⟩
 | .buildSl pu s n z parts => ⟨fun tm H => k_buildSl pu s n z parts tm H⟩
 | .load agg n x => ⟨fun tm H => k_load agg n x tm H⟩
 | .store n x v => ⟨fun tm H => k_store fl n x v tm H⟩
 | .nilCheck x => ⟨fun tm H => k_nilCheck x tm H⟩
 | .ibin op x y => ⟨fun tm H => k_ibin op x y tm H⟩
 | .bin op t x y => ⟨fun tm H => k_bin P op t x y tm H⟩
 | .un op x => ⟨fun tm H => k_un P op x tm H⟩
 | .conv src dst x => ⟨fun tm H => k_conv P src dst x tm H⟩
 | .fieldAddr off x => ⟨fun tm H => k_fieldAddr off x tm H⟩
 | .field agg n off x => ⟨fun tm H => k_field agg n off x tm H⟩
 | .idxAddr s x i => ⟨fun tm H => k_idxAddr s x i tm H⟩
 | .idxArr s n x i => ⟨fun tm H => k_idxArr s n x i tm H⟩
 | .index agg s n x i => ⟨fun tm H => k_index agg s n x i tm H⟩
 | .strIdx t x i => ⟨fun tm H => k_strIdx P t x i tm H⟩
 | .slice s x lo hi mx => ⟨fun tm H => k_slice s x lo hi mx tm H⟩
 | .strSlice u0 x lo hi => ⟨fun tm H => k_strSlice u0 x lo hi tm H⟩
 | .mkSlice s z bytes len cap => ⟨fun tm H => k_mkSlice s z bytes len cap tm H⟩
 | .mkMap => ⟨fun tm H => k_mkMap  tm H⟩
 | .lookup kt z m k ok => ⟨fun tm H => k_lookup P kt z m k ok tm H⟩
 | .mapUpd kt m k v => ⟨fun tm H => k_mapUpd P fl kt m k v tm H⟩
 | .lenS x => ⟨fun tm H => k_lenS x tm H⟩
 | .lenM x => ⟨fun tm H => k_lenM x tm H⟩
 | .lenStr t x => ⟨fun tm H => k_lenStr P t x tm H⟩
 | .lenC n => ⟨fun tm H => k_lenC n tm H⟩
 | .append s bytes x y => ⟨fun tm H => k_append fl s bytes x y tm H⟩
 | .appendZ s bytes z x n => ⟨fun tm H => k_appendZ fl s bytes z x n tm H⟩
 | .copy s x y => ⟨fun tm H => k_copy fl s x y tm H⟩
 | .delete kt m k => ⟨fun tm H => k_delete P fl kt m k tm H⟩
 | .minmax mx xs => ⟨fun tm H => k_minmax P mx xs tm H⟩
 | .mkFn vi caps => ⟨fun tm H => k_mkFn vi caps tm H⟩
 | .call pu vi args => ⟨fun tm H => k_call cf fl mem pu vi args tm H⟩
 | .callv pu x args => ⟨fun tm H => k_callv cf fl mem pu x args tm H⟩
 | .callF vi args => ⟨fun tm H => k_callF cf vi args tm H⟩
 | .callS vi args => ⟨fun tm H => k_callS cf mem vi args tm H⟩
 | .capS x => ⟨fun tm H => k_capS x tm H⟩
 | .extract x i => ⟨fun tm H => k_extract x i tm H⟩
 | .rangeStr x => ⟨fun tm H => k_rangeStr x tm H⟩
 | .nextStr x => ⟨fun tm H => k_nextStr fl x tm H⟩
 | .freeze x => ⟨fun tm H => k_freeze fl x tm H⟩
theorem opF_eq [GlobT] (op : AOp) (tm : List AV) (H : Heap) : (opF P cf fl mem op).f tm H = evOpK P cf fl mem op tm H := by cases op <;> rfl
end
end Go.Proofs.YtmflphfmefakfaaGreatDoor.Av
namespace Go.Proofs.YtmflphfmefakfaaGreatDoor.Av
open Go
section
variable {R α : Type}
def fL (f : α → (α → R) → R) : List α → (List α → R) → R
 | [], k => k []
 | x :: r, k => f x fun x => fL f r fun r => k (x :: r)
theorem fL_eq [GlobT] {f : α → (α → R) → R} (hf : ∀ x k, f x k = k x) : ∀ (l : List α) (k : List α → R), fL f l k = k l
 | [], k => rfl
 | x :: r, k => by simp only [fL, hf, fL_eq hf r]
def fB (b : Bool) (k : Bool → R) : R := match b with
 | true => k true
 | false => k false
theorem fB_eq (b : Bool) (k : Bool → R) : fB b k = k b := by cases b <;> rfl
def fN (n : Nat) (k : Nat → R) : R := match n with
 | 0 => k 0
 | n + 1 => k (n + 1)
theorem fN_eq (n : Nat) (k : Nat → R) : fN n k = k n := by cases n <;> rfl
def fI (n : Int) (k : Int → R) : R := match n with
 | .ofNat n => fN n fun n => k (.ofNat n)
 | .negSucc n => fN n fun n => k (.negSucc n)
theorem fI_eq [GlobT] (n : Int) (k : Int → R) : fI n k = k n := by cases n <;> simp only [fI, fN_eq]
def fV (v : Value) (k : Value → R) : R := match v with
 | .int kd n => fI n fun n => k (.int kd n)
 | .bool b => fB b fun b => k (.bool b)
 | v => k v
theorem fV_eq [GlobT] (v : Value) (k : Value → R) : fV v k = k v := by cases v <;> simp only [fV, fI_eq, fB_eq]
def fH (x : AV) (k : AV → R) : R := match x with
 | .lit v => fV v fun v => k (.lit v)
 | .sl f es => fB f fun f => k (.sl f es)
 | .ms a b c d => fN a fun a => fN b fun b => fN c fun c => fN d fun d => k (.ms a b c d)
 | .ptr a b c d => fN a fun a => fN b fun b => fN c fun c => fN d fun d => k (.ptr a b c d)
 | .rptr cs => k (.rptr cs)
 | .agg cs => k (.agg cs)
 | .tup cs => k (.tup cs)
 | .fn v cs => k (.fn v cs)
 | .mp i => fN i fun i => k (.mp i)
 | .it i => fN i fun i => k (.it i)
 | .undef => k .undef
theorem fH_eq [GlobT] (x : AV) (k : AV → R) : fH x k = k x := by cases x <;> simp only [fH, fV_eq, fB_eq, fN_eq]
def fA : Nat → AV → (AV → R) → R
 | 0, x, k => fH x k
 | d + 1, x, k => match x with
  | .sl f es => fB f fun f => fL (fL (fA d)) es fun es => k (.sl f es)
  | .rptr cs => fL (fA d) cs fun cs => k (.rptr cs)
  | .agg cs => fL (fA d) cs fun cs => k (.agg cs)
  | .tup cs => fL (fA d) cs fun cs => k (.tup cs)
  | .fn v cs => fL (fA d) cs fun cs => k (.fn v cs)
  | x => fH x k
theorem fA_eq [GlobT] : ∀ (d : Nat) (x : AV) (k : AV → R), fA d x k = k x
 | 0, x, k => fH_eq x k
 | d + 1, x, k => by
  have h := fun x k => fA_eq d x k
  cases x <;> simp only [fA, fB_eq, fL_eq h, fL_eq (fL_eq h), fH_eq]
def fO (o : AObj) (k : AObj → R) : R := match o with
 | .blk s es => fL (fL fH) es fun es => k (.blk s es)
 | .mp ents => fL (fun (e : Value × AV) k => match e with | (v, x) => fA 2 x fun x => k (v, x)) ents fun ents => k (.mp ents)
 | o => k o
theorem fO_eq [GlobT] (o : AObj) (k : AObj → R) : fO o k = k o := by
 cases o with
 | blk s es => simp only [fO, fL_eq (fL_eq fH_eq)]
 | mp ents =>
  simp only [fO]
  rw [fL_eq]
  intro e k
  obtain ⟨v, x⟩ := e
  simp only [fA_eq]
 | raw q => rfl
noncomputable def revT {α : Type} (acc : List α) : List α → List α := List.rec (motive := fun _ => List α → List α) (fun t => t) (fun x _ ih t => ih (x :: t)) acc
theorem revT_eq [GlobT] {α : Type} : ∀ (acc t : List α), revT acc t = acc.reverse ++ t
 | [], t => rfl
 | x :: r, t => (revT_eq r (x :: t)).trans (by simp)
def consK {α : Type} (l : List α) (k : List α → R) : R := match l with
 | [] => k []
 | y :: ys => k (y :: ys)
theorem consK_eq {α : Type} (l : List α) (k : List α → R) : consK l k = k l := by cases l <;> rfl
noncomputable def setG (v : AV) (l : List AV) : Nat → List AV → (List AV → R) → R :=
 List.rec (motive := fun _ => Nat → List AV → (List AV → R) → R) (fun _ acc k => consK (revT acc []) k)
  (fun x r ih n acc k => Nat.rec (motive := fun _ => R) (consK (revT acc (v :: r)) k) (fun m _ => ih m (x :: acc) k) n) l
theorem setG_eq [GlobT] (v : AV) : ∀ (l : List AV) (i : Nat) (acc : List AV) (k : List AV → R), setG v l i acc k = k (acc.reverse ++ l.set i v)
 | [], _, acc, k => by
  show consK (revT acc []) k = _
  rw [consK_eq, revT_eq]; rfl
 | x :: r, 0, acc, k => by
  show consK (revT acc (v :: r)) k = _
  rw [consK_eq, revT_eq]; rfl
 | x :: r, i + 1, acc, k => (setG_eq v r i (x :: acc) k).trans (by simp)
noncomputable def setF (v : AV) (l : List AV) (i : Nat) (k : List AV → R) : R := setG v l i [] k
theorem setF_eq [GlobT] (v : AV) (l : List AV) (i : Nat) (k : List AV → R) : setF v l i k = k (l.set i v) := (setG_eq v l i [] k).trans (by simp)
noncomputable def putF (tm : List AV) (d : Option Nat) (v : AV) (k : List AV → R) : R := match d with
 | some d => setF v tm d k
 | none => k tm
theorem putF_eq [GlobT] (tm : List AV) (d : Option Nat) (v : AV) (k : List AV → R) : putF tm d v k = k (putA tm d v) := by
 cases d <;> simp only [putF, putA, setF_eq]
def fW (x : AV) (k : AV → R) : R := match x with
 | .lit v => k (.lit v)
 | .sl f es => k (.sl f es)
 | .ms a b c d => k (.ms a b c d)
 | .ptr a b c d => k (.ptr a b c d)
 | .rptr cs => k (.rptr cs)
 | .agg cs => k (.agg cs)
 | .tup cs => k (.tup cs)
 | .fn v cs => k (.fn v cs)
 | .mp i => k (.mp i)
 | .it i => k (.it i)
 | .undef => k .undef
theorem fW_eq (x : AV) (k : AV → R) : fW x k = k x := by cases x <;> rfl
def fC (x : AV) (k : AV → R) : R := match x with
 | .agg cs => fL fW cs fun cs => k (.agg cs)
 | .rptr cs => fL fW cs fun cs => k (.rptr cs)
 | .tup cs => fL fW cs fun cs => k (.tup cs)
 | .fn v cs => fL fW cs fun cs => k (.fn v cs)
 | x => fW x k
theorem fC_eq [GlobT] (x : AV) (k : AV → R) : fC x k = k x := by cases x <;> simp only [fC, fL_eq fW_eq, fW_eq]
def fT (x : AV) (k : AV → R) : R := match x with
 | .tup cs => fL fC cs fun cs => k (.tup cs)
 | x => fC x k
theorem fT_eq [GlobT] (x : AV) (k : AV → R) : fT x k = k x := by cases x <;> simp only [fT, fL_eq fC_eq, fC_eq]
def fS (x : AV) (k : AV → R) : R := match x with
 | .sl f es => fB f fun f => fL (fun e k => k e) es fun es => k (.sl f es)
 | x => fH x k
theorem fS_eq [GlobT] (x : AV) (k : AV → R) : fS x k = k x := by cases x <;> simp only [fS, fB_eq, fL_eq (fun _ _ => rfl), fH_eq]
def depOp : AOp → Nat
 | .mov _ => 0
 | .pick .. => 0
 | .load .. => 1
 | .nilCheck _ => 0
 | .fieldAddr .. => 1
 | .field .. => 1
 | .idxAddr .. => 1
 | .extract .. => 1
 | .lookup .. => 2
 | .build .. => 1
 | .box _ => 3
 | .alloc _ => 3
 | .claim _ => 3
 | .allocC .. => 3
 | .append .. => 3
 | .ibin .. => 3
 | .bin .. => 3
 | .un .. => 3
 | .conv .. => 3
 | .lenS _ => 3
 | .lenM _ => 3
 | .lenStr .. => 3
 | .strIdx .. => 3
 | .slice .. => 4
 | .mkFn .. => 1
 | .call pu .. => match pu with | true => 9 | false => 2
 | .callv pu .. => match pu with | true => 9 | false => 2
 | .callF .. => 2
 | .callS .. => 2
 | .store .. => 0
 | .mapUpd .. => 0
 | _ => 9
def fRes (op : AOp) (v : AV) (k : AV → R) : R := match depOp op with
 | 0 => fW v k
 | 1 => fC v k
 | 2 => fT v k
 | 3 => fH v k
 | 4 => fS v k
 | _ => fA 8 v k
theorem fRes_eq [GlobT] (op : AOp) (v : AV) (k : AV → R) : fRes op v k = k v := by
 unfold fRes
 split
 ·exact fW_eq _ _
 ·exact fC_eq _ _
 ·exact fT_eq _ _
 ·exact fH_eq _ _
 ·exact fS_eq _ _
 ·exact fA_eq _ _ _
noncomputable def fAt (l : Heap) : Nat → (Heap → R) → R :=
 List.rec (motive := fun _ => Nat → (Heap → R) → R) (fun _ k => k []) (fun o r ih n k => Nat.rec (motive := fun _ => R) (fO o fun o => fL (fun o k => k o) r fun r => k (o :: r)) (fun m _ => ih m fun r => k (o :: r)) n) l
theorem fAt_eq [GlobT] : ∀ (l : Heap) (i : Nat) (k : Heap → R), fAt l i k = k l
 | [], _, k => rfl
 | o :: r, 0, k => by
  show fO o (fun o => fL (fun o k => k o) r fun r => k (o :: r)) = _
  rw [fO_eq, fL_eq (fun _ _ => rfl)]
 | o :: r, i + 1, k => (fAt_eq r i fun r => k (o :: r))
noncomputable def objAt (n : Nat) (x : AV) : Nat := match x with
 | .ptr id _ _ _ => id
 | .ms id _ _ _ => id
 | .mp id => id
 | _ => n
noncomputable def fHp [GlobT] (op : AOp) (tm : List AV) (n : Nat) (H : Heap) (k : Heap → R) : R := match quietOp op with
 | true => k H
 | false => match op with
  | .store _ x _ => fAt H (objAt n (getOpdK tm x)) k
  | .append _ _ x _ => fAt H (objAt n (getOpdK tm x)) k
  | .mapUpd _ x _ _ => fAt H (objAt n (getOpdK tm x)) k
  | .alloc _ => fAt H n k
  | .box _ => fAt H n k
  | .claim _ => fAt H n k
  | .buildSl _ _ _ _ _ => fAt H n k
  | .mkMap => fAt H n k
  | .mkSlice _ _ _ _ _ => fAt H n k
  | .call _ _ _ => k H
  | .callv _ _ _ => k H
  | .callF _ _ => k H
  | _ => fL fO H k
theorem fHp_eq [GlobT] (op : AOp) (tm : List AV) (n : Nat) (H : Heap) (k : Heap → R) : fHp op tm n H k = k H := by
 unfold fHp
 split
 ·rfl
 ·split <;> first | exact fAt_eq _ _ _ | rfl | exact fL_eq fO_eq _ _
def fSt (st : St) (k : St → R) : R := fL (fA 3) st.tmps fun tm => fL fO st.heap fun H => k ⟨tm, H⟩
theorem fSt_eq [GlobT] (st : St) (k : St → R) : fSt st k = k st := by simp only [fSt, fL_eq (fA_eq 3), fL_eq fO_eq]
end
section
variable (P : Program) (cf : Nat → Nat → List AV → Heap → Option (AV × Heap)) (mem : Nat → List AV → Option AV)
noncomputable def wantK (tm : List AV) (g : Option (Nat × Bool)) : Option Bool := match g with
 | none => some true
 | some (t, want) => match getK tm t with
  | .lit (.bool b) => some (b == want)
  | .lit _ => some false
  | _ => none
theorem wantK_eq [GlobT] (tm : List AV) (g : Option (Nat × Bool)) : wantK tm g = wantA tm g := by
 cases g with
 | none => rfl
 | some q => simp only [wantK, wantA, getK_eq, getOpd]; rfl
noncomputable def evOperK [GlobT] (fl : Nat) (o : AOper) (st : St) : Option St :=
 match wantK st.tmps o.guard with
 | some true => match evOpK P cf fl mem o.op st.tmps st.heap with
  | some (v, H) => fRes o.op v fun v => putF st.tmps o.dst v fun tm => fHp o.op st.tmps st.heap.length H fun H => some ⟨tm, H⟩
  | none => none
 | some false => putF st.tmps o.dst (.lit undefV) fun tm => some ⟨tm, st.heap⟩
 | none => none
theorem evOperK_eq [GlobT] (hmem : MemOK mem cf) (fl : Nat) (o : AOper) (st : St) : evOperK P cf mem fl o st = evOper P cf fl o st := by
 unfold evOperK evOper
 simp only [fRes_eq, putF_eq, fHp_eq, evOpK_eq P cf fl mem hmem, wantK_eq]
 rfl
noncomputable def evOpsK [GlobT] (fl : Nat) : List AOper → St → Option St
 | [], st => some st
 | o :: r, st => match evOperK P cf mem fl o st with
  | some st => evOpsK fl r st
  | none => none
theorem evOpsK_eq [GlobT] (hmem : MemOK mem cf) (fl : Nat) : ∀ (l : List AOper) (st : St), evOpsK P cf mem fl l st = evOps P cf fl l st
 | [], st => rfl
 | o :: r, st => by
  simp only [evOpsK, evOps, evOperK_eq P cf mem hmem]
  cases h : evOper P cf fl o st with
  | none => rfl
  | some st1 => exact evOpsK_eq hmem fl r _
noncomputable def evOpsLK [GlobT] (fl : Nat) : List AOper → St → Option (List St)
 | [], st => some [st]
 | o :: r, st => match evOperK P cf mem fl o st with
  | some st1 => match evOpsLK fl r st1 with
   | some l => some (st :: l)
   | none => none
  | none => none
theorem evOpsLK_eq [GlobT] (hmem : MemOK mem cf) (fl : Nat) : ∀ (l : List AOper) (st : St), evOpsLK P cf mem fl l st = evOpsL P cf fl l st
 | [], st => rfl
 | o :: r, st => by
  simp only [evOpsLK, evOpsL, evOperK_eq P cf mem hmem]
  cases h : evOper P cf fl o st with
  | none => rfl
  | some st1 => simp only [evOpsLK_eq hmem fl r]; rfl
noncomputable def evRegK [GlobT] (fl : Nat) (ck : List (Nat × Nat)) (ops : List AOper) (st : St) : Option St := match ck with
 | [] => evOpsK P cf mem fl ops st
 | c :: r => match evOpsLK P cf mem fl ops st with
  | some l => match ckAll ops l (c :: r) with
   | true => l.getLast?
   | false => none
  | none => none
theorem evRegK_eq [GlobT] (hmem : MemOK mem cf) (fl : Nat) (ck : List (Nat × Nat)) (ops : List AOper) (st : St) : evRegK P cf mem fl ck ops st = evReg P cf fl ck ops st := by
 cases ck with
 | nil => exact evOpsK_eq P cf mem hmem fl ops st
 | cons c r => simp only [evRegK, evReg, evOpsLK_eq P cf mem hmem]; rfl
def fSw {R : Type} (tr : Bool) (st : St) (k : St → R) : R := match tr with
 | true => fL (fA 3) st.tmps fun tm => fL fO st.heap fun H => k ⟨tm, H⟩
 | false => fL fW st.tmps fun tm => k ⟨tm, st.heap⟩
theorem fSw_eq [GlobT] {R : Type} (tr : Bool) (st : St) (k : St → R) : fSw tr st k = k st := by
 cases tr
 ·simp only [fSw, fL_eq fW_eq]
 ·simp only [fSw, fL_eq (fA_eq 3), fL_eq fO_eq]
def evLoopK (tr : Bool) (head : St → St) (step : St → Option (AExit × St)) : Nat → St → Option (AExit × St)
 | 0, _ => none
 | n + 1, st => match fSw tr (head st) step with
  | some (.normal, st) => evLoopK tr head step n st
  | r => r
theorem evLoopK_eq [GlobT] (tr : Bool) (head : St → St) (step : St → Option (AExit × St)) : ∀ (n : Nat) (st : St), evLoopK tr head step n st = evLoop head step n st
 | 0, _ => rfl
 | n + 1, st => by
  simp only [evLoopK, evLoop, fSw_eq]
  cases h : step (head st) with
  | none => rfl
  | some r =>
   obtain ⟨x, s⟩ := r
   cases x with
   | normal => exact evLoopK_eq tr head step n _
   | exit i => rfl
   | ret => rfl
def fRet (tr : Bool) (r : Option (AExit × St)) : Option (AExit × St) := match r with
 | some (x, st) => fSw tr st fun st => some (x, st)
 | none => none
theorem fRet_eq [GlobT] (tr : Bool) (r : Option (AExit × St)) : fRet tr r = r := by
 unfold fRet
 split
 ·simp only [fSw_eq]
 ·rfl
noncomputable def evCK [GlobT] (lf fl : Nat) : ACode → St → Option (AExit × St)
 | .skip, st => some (.normal, st)
 | .region _ ck ops, st => match evRegK P cf mem fl ck ops st with
  | some st => some (.normal, st)
  | none => none
 | .seq a b, st => match evCK lf fl a st with
  | some (.normal, st) => evCK lf fl b st
  | r => r
 | .cond c a b, st => match getOpdK st.tmps c with
  | .lit (.bool true) => evCK lf fl a st
  | .lit (.bool false) => evCK lf fl b st
  | _ => none
 | .block id c, st => match evCK lf fl c st with
  | some (.exit i, st) => if i = id then some (.normal, st) else some (.exit i, st)
  | r => r
 | .loop live tr c, st => evLoopK tr (headSt live tr fl st.heap.length) (fun st => evCK lf fl c st) lf st
 | .exit id, st => some (.exit id, st)
 | .ret, st => some (.ret, st)
 | .frz t c, st => match evOp P cf fl (.freeze (.tmp t)) st.tmps st.heap with
  | some (v, H) => fSt ⟨st.tmps.set t v, H⟩ fun st => evCK lf fl c st
  | none => none
 | .mask lx lr tr c, st => fRet tr (maskR lx lr tr fl st.heap.length (evCK lf fl c st))
 | .scope c, st => evCK lf fl c st
 | .nilIf t d0 d1 a b, st => match (Nat.blt d0 st.tmps.length && Nat.blt d1 st.tmps.length) with
  | true => match nilK st.heap (getOpd st.tmps (.tmp t)) with
   | 0 => notNormal (fSt ⟨nilTm st.tmps t d0 d1 true, st.heap⟩ fun st => evCK lf fl a st)
   | 1 => fSt ⟨nilTm st.tmps t d0 d1 false, st.heap⟩ fun st => evCK lf fl b st
   | 2 => match Nat.beq fl st.heap.length with
    | true => fRet true (joinR st.heap (fSt ⟨nilTm st.tmps t d0 d1 true, st.heap⟩ fun st => evCK lf fl a st) (fSt ⟨nilTm st.tmps t d0 d1 false, st.heap⟩ fun st => evCK lf fl b st))
    | false => none
   | _ => none
  | false => none
 | .loopV live lx lr t c, st => match ownSt fl t st with
  | some st1 => fRet true (maskV lx lr t fl st.heap.length (evLoopK true (headV live t fl st.heap.length) (fun st => evCK lf fl c st) lf st1))
  | none => none
 | .stop, _ => none
theorem evCK_eq [GlobT] (hmem : MemOK mem cf) (lf fl : Nat) : ∀ (c : ACode) (st : St), evCK P cf mem lf fl c st = evC P cf lf fl c st
 | .skip, st => rfl
 | .region _ ck ops, st => by simp only [evCK, evC, evRegK_eq P cf mem hmem]; rfl
 | .seq a b, st => by
  simp only [evCK, evC, evCK_eq hmem lf fl a]
  cases h : evC P cf lf fl a st with
  | none => rfl
  | some r =>
   obtain ⟨x, s⟩ := r
   cases x with
   | normal => exact evCK_eq hmem lf fl b _
   | exit i => rfl
   | ret => rfl
 | .cond c a b, st => by simp only [evCK, evC, evCK_eq hmem lf fl a, evCK_eq hmem lf fl b, getOpdK_eq]; rfl
 | .block id c, st => by simp only [evCK, evC, evCK_eq hmem lf fl c]; rfl
 | .loop live tr c, st => by
  have h : (fun st => evCK P cf mem lf fl c st) = fun st => evC P cf lf fl c st := funext fun st => evCK_eq hmem lf fl c st
  simp only [evCK, evC, evLoopK_eq, h]
 | .exit id, st => rfl
 | .ret, st => rfl
 | .frz t c, st => by
  simp only [evCK, evC, fSt_eq, evCK_eq hmem lf fl c]; rfl
 | .mask lx lr tr c, st => by simp only [evCK, evC, fRet_eq, evCK_eq hmem lf fl c]
 | .scope c, st => by simp only [evCK, evC, evCK_eq hmem lf fl c]
 | .nilIf t d0 d1 a b, st => by simp only [evCK, evC, fRet_eq, fSt_eq, evCK_eq hmem lf fl a, evCK_eq hmem lf fl b]; rfl
 | .loopV live lx lr t c, st => by
  have h : (fun st => evCK P cf mem lf fl c st) = fun st => evC P cf lf fl c st := funext fun st => evCK_eq hmem lf fl c st
  simp only [evCK, evC, fRet_eq, evLoopK_eq, h]; rfl
 | .stop, st => rfl
end
structure StF where
 f : St → Option St
structure RunF where
 f : St → Option (AExit × St)
section
variable (P : Program) (cf : Nat → Nat → List AV → Heap → Option (AV × Heap)) (mem : Nat → List AV → Option AV)
def dF {R : Type} (d : Nat) (v : AV) (k : AV → R) : R := match d with
 | 0 => fW v k
 | 1 => fC v k
 | 2 => fT v k
 | 3 => fH v k
 | 4 => fS v k
 | _ => fA 8 v k
theorem dF_eq [GlobT] {R : Type} (d : Nat) (v : AV) (k : AV → R) : dF d v k = k v := by
 unfold dF
 split <;> first | exact fW_eq _ _ | exact fC_eq _ _ | exact fT_eq _ _ | exact fH_eq _ _ | exact fS_eq _ _ | exact fA_eq _ _ _
noncomputable def resF [GlobT] (d : Nat) (g : List AV → Heap → Option (AV × Heap)) (dst : Option Nat) (op : AOp) (q : Bool) : St → Option St := fun st =>
 match g st.tmps st.heap with
 | some (v, H) => dF d v fun v => putF st.tmps dst v fun tm => match q with
   | true => some ⟨tm, H⟩
   | false => fHp op st.tmps st.heap.length H fun H => some ⟨tm, H⟩
 | none => none
noncomputable def operF [GlobT] (fl : Nat) (o : AOper) : StF :=
 match o with
 | ⟨dst, op, guard⟩ => match opF P cf fl mem op with
  | ⟨g⟩ => match guard with
   | none => ⟨resF (depOp op) g dst op (quietOp op)⟩
   | some (t, want) => ⟨fun st => match getK st.tmps t with
    | .lit (.bool b) => match b == want with
     | true => resF (depOp op) g dst op (quietOp op) st
     | false => putF st.tmps dst (.lit undefV) fun tm => some ⟨tm, st.heap⟩
    | .lit _ => putF st.tmps dst (.lit undefV) fun tm => some ⟨tm, st.heap⟩
    | _ => none⟩
theorem operF_eq [GlobT] (hmem : MemOK mem cf) (fl : Nat) (o : AOper) (st : St) : (operF P cf mem fl o).f st = evOper P cf fl o st := by
 obtain ⟨dst, op, guard⟩ := o
 have hres : ∀ st, resF (depOp op) (opF P cf fl mem op).f dst op (quietOp op) st = match evOp P cf fl op st.tmps st.heap with
   | some (v, H) => some ⟨putA st.tmps dst v, H⟩
   | none => none := by
  intro st
  unfold resF
  rw [opF_eq, evOpK_eq P cf fl mem hmem]
  cases he : evOp P cf fl op st.tmps st.heap with
  | none => rfl
  | some x =>
   obtain ⟨v, H⟩ := x
   simp only
   have hq : ∀ tm, (match quietOp op with | true => some (⟨tm, H⟩ : St) | false => fHp op st.tmps st.heap.length H fun H => some ⟨tm, H⟩) = some ⟨tm, H⟩ := by
    intro tm
    split
    ·rfl
    ·exact fHp_eq _ _ _ _ _
   rw [dF_eq, putF_eq]
   exact hq _
 unfold operF evOper
 cases guard with
 | none =>
  simp only [wantA]
  exact hres st
 | some q =>
  obtain ⟨t, want⟩ := q
  simp only [wantA, getK_eq, getOpd]
  cases hg : st.tmps[t]? with
  | none => simp only [undefV, putF_eq]
  | some x =>
   cases x with
   | lit v =>
    cases v <;> simp only [putF_eq]
    rename_i b
    cases hb : (b == want) with
    | true => simp only; exact hres st
    | false => simp only
   | _ => rfl
noncomputable def opsF [GlobT] (fl : Nat) : List AOper → StF
 | [] => ⟨fun st => some st⟩
 | o :: r => match operF P cf mem fl o with
  | ⟨f⟩ => match opsF fl r with
   | ⟨g⟩ => ⟨fun st => match f st with
    | some st => g st
    | none => none⟩
theorem opsF_eq [GlobT] (hmem : MemOK mem cf) (fl : Nat) : ∀ (l : List AOper) (st : St), (opsF P cf mem fl l).f st = evOps P cf fl l st
 | [], st => rfl
 | o :: r, st => by
  have ih := opsF_eq hmem fl r
  have h1 := operF_eq P cf mem hmem fl o st
  simp only [opsF, evOps]
  rw [h1]
  cases h : evOper P cf fl o st with
  | none => rfl
  | some st1 => exact ih st1
noncomputable def runF [GlobT] (lf fl : Nat) : ACode → RunF
 | .skip => ⟨fun st => some (.normal, st)⟩
 | .region _ ck ops => match ck with
  | [] => match opsF P cf mem fl ops with
   | ⟨f⟩ => ⟨fun st => match f st with
    | some st => some (.normal, st)
    | none => none⟩
  | c :: r => ⟨fun st => match evRegK P cf mem fl (c :: r) ops st with
   | some st => some (.normal, st)
   | none => none⟩
 | .seq a b => match runF lf fl a with
  | ⟨f⟩ => match runF lf fl b with
   | ⟨g⟩ => ⟨fun st => match f st with
    | some (.normal, st) => g st
    | r => r⟩
 | .cond c a b => match runF lf fl a with
  | ⟨f⟩ => match runF lf fl b with
   | ⟨g⟩ => ⟨fun st => match getOpdK st.tmps c with
    | .lit (.bool true) => f st
    | .lit (.bool false) => g st
    | _ => none⟩
 | .block id c => match runF lf fl c with
  | ⟨f⟩ => ⟨fun st => match f st with
   | some (.exit i, st) => if i = id then some (.normal, st) else some (.exit i, st)
   | r => r⟩
 | .loop live tr c => match runF lf fl c with
  | ⟨f⟩ => ⟨fun st => evLoopK tr (headSt live tr fl st.heap.length) f lf st⟩
 | .exit id => ⟨fun st => some (.exit id, st)⟩
 | .ret => ⟨fun st => some (.ret, st)⟩
 | .mask lx lr tr c => match runF lf fl c with
  | ⟨f⟩ => ⟨fun st => fRet tr (maskR lx lr tr fl st.heap.length (f st))⟩
 | .scope c => runF lf fl c
 | .frz t c => ⟨fun st => evCK P cf mem lf fl (.frz t c) st⟩
 | .nilIf t d0 d1 a b => ⟨fun st => evCK P cf mem lf fl (.nilIf t d0 d1 a b) st⟩
 | .loopV live lx lr t c => ⟨fun st => evCK P cf mem lf fl (.loopV live lx lr t c) st⟩
 | .stop => ⟨fun _ => none⟩
theorem runF_eq [GlobT] (hmem : MemOK mem cf) (lf fl : Nat) : ∀ (c : ACode) (st : St), (runF P cf mem lf fl c).f st = evC P cf lf fl c st
 | .skip, st => rfl
 | .region d ck ops, st => by
  cases ck with
  | nil =>
   have h := opsF_eq P cf mem hmem fl ops st
   simp only [runF, evC, evReg]
   rw [h]
   rfl
  | cons c r =>
   simp only [runF, evC, evRegK_eq P cf mem hmem]
   rfl
 | .seq a b, st => by
  have h1 := runF_eq hmem lf fl a st
  have h2 := runF_eq hmem lf fl b
  simp only [runF, evC]
  rw [h1]
  cases h : evC P cf lf fl a st with
  | none => rfl
  | some r =>
   obtain ⟨x, s⟩ := r
   cases x with
   | normal => exact h2 s
   | exit i => rfl
   | ret => rfl
 | .cond c a b, st => by
  have h1 := runF_eq hmem lf fl a st
  have h2 := runF_eq hmem lf fl b st
  simp only [runF, evC, getOpdK_eq]
  rw [← h1, ← h2]
  rfl
 | .block id c, st => by
  have h1 := runF_eq hmem lf fl c st
  simp only [runF, evC]
  rw [h1]
  rfl
 | .loop live tr c, st => by
  have h : (runF P cf mem lf fl c).f = fun st => evC P cf lf fl c st := funext fun st => runF_eq hmem lf fl c st
  simp only [runF, evC, evLoopK_eq]
  rw [← h]
 | .exit id, st => rfl
 | .ret, st => rfl
 | .mask lx lr tr c, st => by
  have h1 := runF_eq hmem lf fl c st
  simp only [runF, evC, fRet_eq]
  rw [h1]
 | .scope c, st => by
  have h1 := runF_eq hmem lf fl c st
  simp only [runF, evC]
  exact h1
 | .frz t c, st => evCK_eq P cf mem hmem lf fl (.frz t c) st
 | .nilIf t d0 d1 a b, st => evCK_eq P cf mem hmem lf fl (.nilIf t d0 d1 a b) st
 | .loopV live lx lr t c, st => evCK_eq P cf mem hmem lf fl (.loopV live lx lr t c) st
 | .stop, st => rfl
end
def finK [GlobT] (F : AFun) (st : St) : Option (AV × Heap) := match retsA st F.rets with
 | some vs => fL fC vs fun vs => some (packA vs, st.heap)
 | none => none
noncomputable def evFK [GlobT] (P : Program) (T : List AFun) (M : Memo) : Nat → Nat → Nat → List AV → Heap → Option (AV × Heap)
 | 0, _, _, _, _ => none
 | n + 1, fl, vi, args, H =>
  match GlobT.prim vi with
  | some g => g fl args H
  | none =>
  match T[vi]? with
  | none => none
  | some F => fL fC args fun args => fL fW (args ++ List.replicate (F.nt - args.length) (.lit undefV)) fun tm =>
   match runF P (evFK P T M n) (fun vi args => lookM n vi args M) n fl F.body with
   | ⟨f⟩ => match f ⟨tm, H⟩ with
    | some (.normal, st) => finK F st
    | some (.ret, st) => finK F st
    | _ => none
theorem memOK_of [GlobT] {P : Program} {T : List AFun} {M : Memo} (hM : MemoOK P T M) (n : Nat) : MemOK (fun vi args => lookM n vi args M) (evF P T n) := by
 intro vi args r h
 exact lookM_pv M hM h
theorem evFK_eq [GlobT] {P : Program} {T : List AFun} {M : Memo} (hM : MemoOK P T M) : ∀ n, evFK P T M n = evF P T n
 | 0 => rfl
 | n + 1 => by
  funext fl vi args H
  simp only [evFK, evF, fL_eq fC_eq, fL_eq fW_eq, evFK_eq hM n, finK]
  cases hP : GlobT.prim vi with
  | some g => rfl
  | none =>
  cases hT : T[vi]? with
  | none => rfl
  | some F =>
   simp only
   rw [runF_eq P (evF P T n) _ (memOK_of hM n)]
   rfl
theorem pv_fast [GlobT] {P : Program} {T : List AFun} {n vi : Nat} {args : List AV} {r : AV} (M : Memo) (hM : MemoOK P T M) (h : (match evFK P T M n 0 vi args [] with | some (r, H') => some (seal3 H' 0 r) | none => none) = some r) : pv P T n vi args = some r := by
 rw [evFK_eq hM] at h
 unfold pv
 exact h
end Go.Proofs.YtmflphfmefakfaaGreatDoor.Av
namespace Go.Proofs.YtmflphfmefakfaaGreatDoor.Av
open Go
def cloneB (s bytes : Nat) (z : List Value) : ACode := (.seq (.region false [] [⟨(some 2), .mov (.lit nilS), none⟩]) (.nilIf 0 3 4 (.seq (.region false [] [⟨(some 2), .mov (.lit nilS), none⟩]) .ret) (.seq (.region false [] [⟨(some 5), .buildSl true s 0 z [], none⟩, ⟨(some 6), .mov (.tmp 0), none⟩, ⟨(some 7), .append s bytes (.tmp 5) (.tmp 6), none⟩, ⟨(some 2), .mov (.tmp 7), none⟩]) .ret)))
theorem clone_pv [GlobT] {P : Program} {T : List AFun} {α : Type} {c : α → List AV} {vi fid s bytes n : Nat} {z : List Value} {f : Bool} (hT : getF T vi = some ⟨fid, 8, [.tmp 2], cloneB s bytes z⟩) (hc : ∀ x, (c x).length = s) (hs : 0 < s) (hb : bytes ≤ 100000)
  (hseal : ∀ (H : Heap) x, (c x).map (sealC H 0 5) = c x) (l : List α) (hl : l.length ≤ 1000000) : pv P T (n + 1) vi [.sl f (l.map c)] = some (.sl false (l.map c)) := by
 have hb1 : Nat.blt 3 8 = true := rfl
 have hb2 : Nat.blt 4 8 = true := rfl
 rw [pv_at _ hT]
 cases l with
 | nil =>
  have happ : appendA 0 [] s bytes (.sl true []) [] = some (.sl true [], []) := by simp [appendA, allLen, hs, room]
  simp [hb1, hb2, cloneB, evC, evReg, evOps, evOper, wantA, evOp, getOpd, nilK, nilTm, putA, fillE, rd, happ, finA, retsA, evRet, packA, sealO, seal3, seal2, seal1, joinR, joinL, join1, empA, nilS, undefV]
 | cons x r =>
  have happ : appendA 0 [] s bytes (.sl true []) ((x :: r).map c) = some (.ms 0 (x :: r).length 0 (x :: r).length, [.blk s ((x :: r).map c)]) :=
   app_n (l' := x :: r) (x := .sl true []) (app_of (by simpa using hl)) rfl hc hs hb (.inr rfl)
  have hse : seal1 [.blk s ((x :: r).map c)] 0 (.ms 0 (x :: r).length 0 (x :: r).length) = .sl false ((x :: r).map c) := seal1_ms (id := 0) (s := s) (c := c) (l := x :: r) rfl (hseal _)
  generalize hys : (x :: r).map c = ys at happ hse ⊢
  obtain ⟨y, q, rfl⟩ : ∃ y q, ys = y :: q := by
   cases ys with
   | nil => simp at hys
   | cons y q => exact ⟨y, q, rfl⟩
  generalize (x :: r).length = L at happ hse
  simp [hb1, hb2, cloneB, evC, evReg, evOps, evOper, wantA, evOp, getOpd, nilK, nilTm, putA, fillE, rd, happ, finA, retsA, evRet, packA, sealO, seal3, seal2, hse, nilS, undefV]
end Go.Proofs.YtmflphfmefakfaaGreatDoor.Av
