/- A part of the proof of EditChecksCardSaid. -/
import Derived.Calls
import Derived.Orders
import Derived.LoopN
import Derived.Below
import Derived.KernelRfl
import Derived.Laws.CopyRow
import Derived.Laws.AppendOwn
set_option linter.all false
namespace Go.Proofs.YtmflphfmefakfaaGreatDoor.Av
open Go
inductive AV where
 | undef
 | lit (v : Value)
 | sl (full : Bool) (es : List (List AV))
 | ms (id tot off len : Nat)
 | ptr (id tot idx off : Nat)
 | rptr (cs : List AV)
 | mp (id : Nat)
 | it (id : Nat)
 | fn (vi : Nat) (caps : List AV)
 | agg (cs : List AV)
 | tup (vs : List AV)
 deriving Inhabited
inductive AObj where
 | blk (s : Nat) (es : List (List AV))
 | mp (ents : List (Value × AV))
 | raw (ob : Obj)
 deriving Inhabited
abbrev Heap := List AObj
structure St where
 tmps : List AV
 heap : Heap
inductive AOpd where
 | tmp (t : Nat)
 | lit (v : Value)
 | agg (vs : List Value)
 | fn (vi : Nat)
 | glob (g : Nat)
class GlobT where
 tab : Nat → Option (List AV)
 ok : Nat → Array Value → Prop := fun _ _ => True
 prim : Nat → Option (Nat → List AV → Heap → Option (AV × Heap)) := fun _ => none
inductive AOp where
 | mov (x : AOpd)
 | movN (x : AOpd)
 | pick (c a b : AOpd)
 | alloc (z : List Value)
 | claim (s : Nat)
 | allocC (z : List Value) (cl : List (Nat × Nat))
 | box (x : AOpd)
 | build (z : List Value) (parts : List (Nat × Nat × AOpd))
 | buildSl (pu : Bool) (s n : Nat) (z : List Value) (parts : List (Nat × AOpd))
 | load (agg : Bool) (n : Nat) (x : AOpd)
 | store (n : Nat) (x v : AOpd)
 | nilCheck (x : AOpd)
 | ibin (op : BinOp) (x y : AOpd)
 | bin (op : BinOp) (t : TypeId) (x y : AOpd)
 | un (op : UnOp) (x : AOpd)
 | conv (src dst : TypeId) (x : AOpd)
 | fieldAddr (off : Nat) (x : AOpd)
 | field (agg : Bool) (n off : Nat) (x : AOpd)
 | idxAddr (s : Nat) (x i : AOpd)
 | idxArr (s n : Nat) (x i : AOpd)
 | index (agg : Bool) (s n : Nat) (x i : AOpd)
 | strIdx (t : TypeId) (x i : AOpd)
 | slice (s : Nat) (x : AOpd) (lo hi mx : Option AOpd)
 | strSlice (t : TypeId) (x : AOpd) (lo hi : Option AOpd)
 | mkSlice (s : Nat) (z : List Value) (bytes : Nat) (len cap : AOpd)
 | mkMap
 | lookup (kt : TypeId) (z : AOpd) (m k : AOpd) (ok : Bool)
 | mapUpd (kt : TypeId) (m k v : AOpd)
 | lenS (x : AOpd)
 | lenM (x : AOpd)
 | lenStr (t : TypeId) (x : AOpd)
 | lenC (n : Nat)
 | append (s bytes : Nat) (x y : AOpd)
 | appendZ (s bytes : Nat) (z : List Value) (x n : AOpd)
 | copy (s : Nat) (x y : AOpd)
 | delete (kt : TypeId) (m k : AOpd)
 | minmax (mx : Bool) (xs : List AOpd)
 | mkFn (vi : Nat) (caps : List AOpd)
 | call (pu : Bool) (vi : Nat) (args : List AOpd)
 | callv (pu : Bool) (x : AOpd) (args : List AOpd)
 | callF (vi : Nat) (args : List AOpd)
 | callS (vi : Nat) (args : List AOpd)
 | capS (x : AOpd)
 | extract (x : AOpd) (i : Nat)
 | freeze (x : AOpd)
 | rangeStr (x : AOpd)
 | nextStr (x : AOpd)
structure AOper where
 dst : Option Nat
 op : AOp
 guard : Option (Nat × Bool)
inductive ACode where
 | skip
 | region (draw : Bool) (ck : List (Nat × Nat)) (ops : List AOper)
 | seq (a b : ACode)
 | cond (c : AOpd) (a b : ACode)
 | block (id : Nat) (c : ACode)
 | loop (live : Option (List Bool)) (tr : Bool) (c : ACode)
 | exit (id : Nat)
 | ret
 | frz (t : Nat) (c : ACode)
 | mask (lx lr : List Bool) (tr : Bool) (c : ACode)
 | scope (c : ACode)
 | nilIf (t d0 d1 : Nat) (a b : ACode)
 | loopV (live lx lr : List Bool) (t : Nat) (c : ACode)
 | stop
inductive ARes where
 | tmp (t : Nat)
 | cell (t n : Nat) (agg : Bool)
structure AFun where
 fid : Nat
 nt : Nat
 rets : List ARes
 body : ACode
inductive AExit where
 | normal
 | exit (id : Nat)
 | ret
def nilS : Value := .slice none 0 0
def undefV : Value := .tuple #[]
def pureRun {α : Type} (P : Program) : Sem α → Option α
 | .pure a => some a
 | .program k => pureRun P (k P)
 | .mark _ k => pureRun P k
 | _ => none
def scalarB : Value → Bool
 | .agg _ => false
 | .tuple _ => false
 | _ => true
def notNil : Value → Bool
 | .nilIface => false
 | _ => true
def cellsOf : AV → Option (List AV)
 | .undef => none
 | .tup _ => none
 | .agg cs => some cs
 | .lit v => if scalarB v then some [.lit v] else none
 | v => some [v]
def nrmV (v : Value) : AV := match v with
 | .slice a l c => match a with
  | none => match l with
   | 0 => match c with
    | 0 => .sl false []
    | _ => .lit v
   | _ => .lit v
  | _ => .lit v
 | _ => .lit v
def nrm : AV → AV
 | .lit v => nrmV v
 | .sl _ es => .sl false es
 | v => v
def nrm2 : AV → AV
 | .agg cs => .agg (cs.map nrm)
 | v => nrm v
def toP : AV → AV
 | .lit v => nrmV v
 | .sl _ es => .sl false es
 | _ => .undef
def rd (H : Heap) : AV → Option (List (List AV))
 | .lit (.slice none 0 0) => some []
 | .sl _ es => some es
 | .ms id tot off len =>
  match H[id]? with
  | some (.blk _ es) => if es.length = tot then some ((es.drop off).take len) else none
  | _ => none
 | _ => none
def sealC (H : Heap) (n : Nat) : Nat → AV → AV
 | _, .lit v => nrmV v
 | _, .sl _ es => .sl false es
 | d + 1, .ms id tot off len =>
  if n ≤ id then match rd H (.ms id tot off len) with
   | some es => .sl false (es.map fun e => e.map (sealC H n d))
   | none => .undef
  else .undef
 | _, _ => .undef
def sealDepth : Nat := 6
def seal1 (H : Heap) (n : Nat) : AV → AV
 | .lit v => nrmV v
 | .sl _ es => .sl false es
 | .rptr cs => .rptr cs
 | .ms id tot off len => if id < n then .ms id tot off len else sealC H n sealDepth (.ms id tot off len)
 | .ptr id tot idx off => if id < n then .ptr id tot idx off else .undef
 | .mp id => if id < n then .mp id else .undef
 | .fn vi [] => .fn vi []
 | _ => .undef
def seal2 (H : Heap) (n : Nat) : AV → AV
 | .agg cs => .agg (cs.map (seal1 H n))
 | v => seal1 H n v
def seal3 (H : Heap) (n : Nat) : AV → AV
 | .tup vs => .tup (vs.map (seal2 H n))
 | v => seal2 H n v
def clean1 (n : Nat) : AV → AV
 | .lit v => .lit v
 | .it id => if id < n then .it id else .undef
 | .sl f es => .sl f es
 | .rptr cs => .rptr cs
 | .ms id tot off len => if id < n then .ms id tot off len else .undef
 | .ptr id tot idx off => if id < n then .ptr id tot idx off else .undef
 | .mp id => if id < n then .mp id else .undef
 | .fn vi [] => .fn vi []
 | _ => .undef
def clean2 (n : Nat) : AV → AV
 | .agg cs => .agg (cs.map (clean1 n))
 | v => clean1 n v
def clean3 (n : Nat) : AV → AV
 | .tup vs => .tup (vs.map (clean2 n))
 | v => clean2 n v
def litL : List AV → Option (List Value)
 | [] => some []
 | .lit v :: r => match litL r with | some l => some (v :: l) | none => none
 | _ :: _ => none
def lits : AV → Option Value
 | .lit v => some v
 | .agg cs => match litL cs with | some l => some (.agg l.toArray) | none => none
 | _ => none
def getOpd [GlobT] (tm : List AV) : AOpd → AV
 | .glob g => match GlobT.tab g with | some cs => .rptr cs | none => .undef
 | .tmp t => match tm[t]? with | some v => v | none => .lit undefV
 | .lit v => .lit v
 | .agg vs => .agg (vs.map .lit)
 | .fn vi => .fn vi []
def scalT : AV → Bool
 | .lit _ => true
 | .tup vs => vs.all fun v => match v with | .lit _ => true | _ => false
 | _ => false
def ldCells (H : Heap) (x : AV) (n : Nat) : Option (List AV) :=
 match x with
 | .ptr id tot idx off =>
  match H[id]? with
  | some (.blk _ es) =>
   if es.length = tot then
    match es[idx]? with
    | some e => if off + n ≤ e.length then some ((e.drop off).take n) else none
    | none => none
   else none
  | _ => none
 | .rptr cs => if n ≤ cs.length then some (cs.take n) else none
 | _ => none
def splice {α : Type} (e : List α) (off : Nat) (cs : List α) : List α := e.take off ++ (cs ++ e.drop (off + cs.length))
def stCells (fl : Nat) (H : Heap) (x : AV) (cs : List AV) : Option Heap :=
 match x with
 | .ptr id tot idx off =>
  if fl ≤ id then
   match H[id]? with
   | some (.blk s es) =>
    if es.length = tot then
     match es[idx]? with
     | some e => if off + cs.length ≤ e.length then some (H.set id (.blk s (es.set idx (splice e off cs)))) else none
     | none => none
    else none
   | _ => none
  else none
 | _ => none
def ibinV (op : BinOp) (k : IntKind) (a b : Int) : Option Value :=
 match op with
 | .add => some (.int k (k.wrap (a + b)))
 | .sub => some (.int k (k.wrap (a - b)))
 | .mul => some (.int k (k.wrap (a * b)))
 | .eql => some (.bool (a == b))
 | .neq => some (.bool (a != b))
 | .lss => some (.bool (a < b))
 | .leq => some (.bool (a ≤ b))
 | .gtr => some (.bool (a > b))
 | .geq => some (.bool (a ≥ b))
 | _ => none
def fillA (cells : List AV) : List (Nat × Nat × AV) → Option (List AV)
 | [] => some cells
 | (off, size, v) :: rest =>
  match cellsOf v with
  | none => none
  | some cs => if cs.length = size ∧ off + size ≤ cells.length then fillA (splice cells off cs) rest else none
def fillE (s : Nat) (es : List (List AV)) : List (Nat × AV) → Option (List (List AV))
 | [] => some es
 | (i, v) :: rest =>
  match cellsOf v with
  | none => none
  | some cs => if cs.length = s ∧ i < es.length then fillE s (es.set i cs) rest else none
def natOf : AV → Option Nat
 | .lit (.int _ n) => if 0 ≤ n then some n.toNat else none
 | _ => none
def natOpt [GlobT] (tm : List AV) : Option AOpd → Option (Option Nat)
 | none => some none
 | some x => match natOf (getOpd tm x) with | some n => some (some n) | none => none
def allLen (s : Nat) (es : List (List AV)) : Bool := es.all fun e => e.length == s
def bytesE : List (List AV) → Option (List Int)
 | [] => some []
 | e :: r => match e with
  | [.lit (.int .u8 n)] => match bytesE r with
   | some l => some (n :: l)
   | none => none
  | _ => none
def strOfB (ns : List Int) : ByteArray := ns.foldl (fun r n => r.push (UInt8.ofNat n.toNat)) ByteArray.empty
def isBytes (P : Program) (src dst : TypeId) : Bool := match P.underlying src with
 | some (.slice e) => match P.underlying e with
  | some (.int .u8) => match P.underlying dst with
   | some .string => true
   | _ => false
  | _ => false
 | _ => false
def findA (P : Program) (kt : TypeId) (k : Value) (ents : List (Value × AV)) : Option (Option Nat) :=
 match pureRun P (Instr.findKey kt k (ents.map fun e => { key := e.1, val := .bool false, born := 0 })) with
 | some (some (i, _)) => some (some i)
 | some none => some none
 | none => none
def headLen (s : Nat) : List (List AV) → Bool
 | [] => true
 | e :: _ => e.length == s
def sliceA (H : Heap) (s : Nat) (x : AV) (lo hi mx : Option Nat) : Option AV :=
 match x with
 | .lit (.slice none 0 0) => if lo.getD 0 = 0 ∧ hi.getD 0 = 0 ∧ mx.getD 0 = 0 ∧ (mx.isSome → hi.isSome) then some (.lit nilS) else none
 | .sl f es =>
  match mx with
  | none =>
   let h := hi.getD es.length
   let l := lo.getD 0
   if l ≤ h ∧ h ≤ es.length ∧ headLen s es = true then some (.sl (f && h == es.length) ((es.take h).drop l)) else none
  | some m =>
   match hi with
   | none => none
   | some h =>
    let l := lo.getD 0
    if l ≤ h ∧ h ≤ m ∧ m ≤ es.length ∧ headLen s es = true then some (.sl (h == m) ((es.take h).drop l)) else none
 | .ms id tot off len =>
  match mx with
  | none =>
   let h := hi.getD len
   let l := lo.getD 0
   match H[id]? with
   | some (.blk s' _) => if l ≤ h ∧ h ≤ len ∧ s' = s then some (.ms id tot (off + l) (h - l)) else none
   | _ => none
  | some m =>
   match hi with
   | none => none
   | some h =>
    let l := lo.getD 0
    if l = h ∧ h = m ∧ m ≤ len then some (.sl true []) else none
 | _ => none
def room (n bytes : Nat) : Bool := n * bytes ≤ 2 ^ 40 && n ≤ 2 ^ 40
def appendA (fl : Nat) (H : Heap) (s bytes : Nat) (x : AV) (ys : List (List AV)) : Option (AV × Heap) :=
 if allLen s ys = true ∧ 0 < s ∧ room ys.length bytes = true then
  match x with
  | .lit (.slice none 0 0) =>
   if ys.length = 0 then some (x, H) else some (.ms H.length ys.length 0 ys.length, H ++ [.blk s ys])
  | .sl f es =>
   if ys.length = 0 then some (x, H)
   else if f = true ∧ allLen s es = true ∧ room (es.length + ys.length) bytes = true then
    some (.ms H.length (es.length + ys.length) 0 (es.length + ys.length), H ++ [.blk s (es ++ ys)])
   else none
  | .ms id tot off len =>
   match H[id]? with
   | some (.blk s' es) =>
    if s' = s ∧ es.length = tot ∧ room (tot + ys.length) bytes = true then
     if ys.length = 0 then some (x, H)
     else if fl ≤ id then
      if off = 0 ∧ len = tot then
       some (.ms id (tot + ys.length) 0 (tot + ys.length), H.set id (.blk s (es ++ ys)))
      else if off + len + ys.length ≤ tot then
       some (.ms id tot off (len + ys.length), H.set id (.blk s (splice es (off + len) ys)))
      else none
     else none
    else none
   | _ => none
  | _ => none
 else none
def claimCells (n : Nat) (cs : List AV) : List (Nat × Nat) → List AV
 | [] => cs
 | (o, _) :: r => claimCells (n + 1) (cs.set o (.ms n 0 0 0)) r
def plain1 : AV → Bool
 | .undef => true
 | .lit _ => true
 | .sl _ _ => true
 | .rptr _ => true
 | .fn _ [] => true
 | _ => false
def plainL : List AV → Bool
 | [] => true
 | x :: r => match plain1 x with | true => plainL r | false => false
def plain2 : AV → Bool
 | .agg cs => plainL cs
 | v => plain1 v
def plainAll : List AV → Bool
 | [] => true
 | x :: r => match plain2 x with | true => plainAll r | false => false
section
variable (P : Program) (cf : Nat → Nat → List AV → Heap → Option (AV × Heap)) (fl : Nat)
def callA (pu : Bool) (vi : Nat) (args : List AV) (H : Heap) : Option (AV × Heap) :=
 match pu with
 | true =>
  match plainAll args with
  | true =>
   match cf 0 vi (args.map nrm2) [] with
   | some (r, H') => some (seal3 H' 0 r, H)
   | none => none
  | false =>
   match cf H.length vi (args.map nrm2) H with
   | some (r, H') => some (seal3 H' H.length r, H)
   | none => none
 | false => cf fl vi args H
def evOp [GlobT] (op : AOp) (tm : List AV) (H : Heap) : Option (AV × Heap) :=
 match op with
 | .mov x => some (getOpd tm x, H)
 | .movN x => some (nrm2 (getOpd tm x), H)
 | .pick c a b => match getOpd tm c with
  | .lit (.bool t) => some (if t then getOpd tm a else getOpd tm b, H)
  | _ => none
 | .alloc z => some (.ptr H.length 1 0 0, H ++ [.blk z.length [z.map .lit]])
 | .claim s => some (.ms H.length 0 0 0, H ++ [.blk s []])
 | .allocC z cl => some (.ptr (H.length + cl.length) 1 0 0,
   (H ++ cl.map fun c => .blk c.2 []) ++ [.blk z.length [claimCells H.length (z.map .lit) cl]])
 | .box x => match cellsOf (getOpd tm x) with
  | some cs => some (.ptr H.length 1 0 0, H ++ [.blk cs.length [cs]])
  | none => none
 | .build z parts => match fillA (z.map .lit) (parts.map fun (o, s, x) => (o, s, getOpd tm x)) with
  | some cs => some (.agg cs, H)
  | none => none
 | .buildSl pu s n z parts => match fillE s (List.replicate n (z.map .lit)) (parts.map fun (i, x) => (i, getOpd tm x)) with
  | some es => if pu then some (.sl true (es.map fun e => e.map toP), H) else some (.ms H.length n 0 n, H ++ [.blk s es])
  | none => none
 | .load agg n x => match ldCells H (getOpd tm x) n with
  | some cs => if agg then some (.agg cs, H) else match cs with
   | [c] => some (c, H)
   | _ => none
  | none => none
 | .store n x v => match cellsOf (getOpd tm v) with
  | some cs => if cs.length = n then match stCells fl H (getOpd tm x) cs with
    | some H' => some (.lit undefV, H')
    | none => none
   else none
  | none => none
 | .nilCheck x => match getOpd tm x with
  | .ptr .. => some (getOpd tm x, H)
  | .rptr _ => some (getOpd tm x, H)
  | .fn .. => some (getOpd tm x, H)
  | _ => none
 | .ibin op x y => match getOpd tm x, getOpd tm y with
  | .lit (.int k a), .lit (.int k' b) => if k = k' then match ibinV op k a b with
    | some v => some (.lit v, H)
    | none => none
   else none
  | _, _ => none
 | .bin op t x y => match lits (getOpd tm x), lits (getOpd tm y) with
  | some v, some u => match (if notNil v then pureRun P (eqGuard op t (.tmp 0) (.tmp 0) v u) else none) with
   | some _ => match pureRun P (binOp op t v u) with
    | some r => some (.lit r, H)
    | none => none
   | none => none
  | _, _ => none
 | .un op x => match getOpd tm x with
  | .lit v => match pureRun P (Op.unary op v) with
   | some r => some (.lit r, H)
   | none => none
  | _ => none
 | .conv src dst x => match getOpd tm x with
  | .lit v => match pureRun P (convert src dst v) with
   | some r => some (.lit r, H)
   | none => none
  | .sl _ es => match isBytes P src dst with
   | true => match bytesE es with
    | some ns => some (.lit (.string (strOfB ns)), H)
    | none => none
   | false => none
  | _ => none
 | .fieldAddr off x => match getOpd tm x with
  | .ptr id tot idx o => some (.ptr id tot idx (o + off), H)
  | .rptr cs => some (.rptr (cs.drop off), H)
  | _ => none
 | .field agg n off x => match getOpd tm x with
  | .agg cs => if off + n ≤ cs.length then
    if agg then some (.agg ((cs.drop off).take n), H) else match (cs.drop off).take n with
     | [c] => some (c, H)
     | _ => none
   else none
  | _ => none
 | .idxAddr s x i => match natOf (getOpd tm i) with
  | some i => match getOpd tm x with
   | .sl _ es => match es[i]? with
    | some e => if e.length = s then some (.rptr e, H) else none
    | none => none
   | .ms id tot off len => match H[id]? with
    | some (.blk s' es) => if s' = s ∧ es.length = tot ∧ i < len then some (.ptr id tot (off + i) 0, H) else none
    | _ => none
   | _ => none
  | none => none
 | .idxArr s n x i => match natOf (getOpd tm i) with
  | some i => if i < n then match getOpd tm x with
    | .ptr id tot idx o => some (.ptr id tot idx (o + i * s), H)
    | .rptr cs => some (.rptr (cs.drop (i * s)), H)
    | _ => none
   else none
  | none => none
 | .index agg s n x i => match natOf (getOpd tm i) with
  | some i => if i < n then match getOpd tm x with
    | .agg cs => if i * s + s ≤ cs.length then
      if agg then some (.agg ((cs.drop (i * s)).take s), H) else match (cs.drop (i * s)).take s with
       | [c] => some (c, H)
       | _ => none
     else none
    | _ => none
   else none
  | none => none
 | .strIdx t x i => match getOpd tm x, getOpd tm i with
  | .lit v, .lit u => match pureRun P (Instr.index t v u) with
   | some r => some (.lit r, H)
   | none => none
  | _, _ => none
 | .slice s x lo hi mx => match natOpt tm lo, natOpt tm hi, natOpt tm mx with
  | some lo, some hi, some mx => match sliceA H s (getOpd tm x) lo hi mx with
   | some v => some (v, H)
   | none => none
  | _, _, _ => none
 | .strSlice _ x lo hi => match getOpd tm x, natOpt tm lo, natOpt tm hi with
  | .lit (.string s), some lo, some hi =>
   if lo.getD 0 ≤ hi.getD s.size ∧ hi.getD s.size ≤ s.size then some (.lit (.string (s.extract (lo.getD 0) (hi.getD s.size))), H) else none
  | _, _, _ => none
 | .mkSlice s z bytes len cap => match natOf (getOpd tm len), natOf (getOpd tm cap) with
  | some l, some c => if l ≤ c ∧ c * bytes ≤ 2 ^ 40 ∧ c ≤ 2 ^ 40 ∧ z.length = s then
    some (.ms H.length l 0 l, H ++ [.blk s (List.replicate l (z.map .lit))]) else none
  | _, _ => none
 | .mkMap => some (.mp H.length, H ++ [.mp []])
 | .lookup kt z m k ok => match lits (getOpd tm k) with
  | some kv =>
   let r (ents : List (Value × AV)) : Option (AV × Heap) :=
    match pureRun P (Instr.checkKey ents.isEmpty 10000 kt kv), findA P kt kv ents with
    | some _, some (some i) => match ents[i]? with
     | some e => some (if ok then .tup [e.2, .lit (.bool true)] else e.2, H)
     | none => none
    | some _, some none => some (if ok then .tup [getOpd tm z, .lit (.bool false)] else getOpd tm z, H)
    | _, _ => none
   match getOpd tm m with
   | .lit (.map none) => r []
   | .mp id => match H[id]? with
    | some (.mp ents) => r ents
    | _ => none
   | _ => none
  | none => none
 | .mapUpd kt m k v => match lits (getOpd tm k), getOpd tm m with
  | some kv, .mp id => if fl ≤ id then match H[id]? with
    | some (.mp ents) => match pureRun P (Instr.checkKey false 10000 kt kv), findA P kt kv ents with
     | some _, some (some i) => match ents[i]? with
      | some e => if Instr.sameBits 10000 e.1 kv then some (.lit undefV, H.set id (.mp (ents.set i (kv, getOpd tm v)))) else none
      | none => none
     | some _, some none => some (.lit undefV, H.set id (.mp (ents ++ [(kv, getOpd tm v)])))
     | _, _ => none
    | _ => none
   else none
  | _, _ => none
 | .lenS x => match getOpd tm x with
  | .lit (.slice none 0 0) => some (.lit (.int .i64 0), H)
  | .sl _ es => some (.lit (.int .i64 es.length), H)
  | .ms _ _ _ len => some (.lit (.int .i64 len), H)
  | _ => none
 | .lenM x => match getOpd tm x with
  | .lit (.map none) => some (.lit (.int .i64 0), H)
  | .mp id => match H[id]? with
   | some (.mp ents) => some (.lit (.int .i64 ents.length), H)
   | _ => none
  | _ => none
 | .lenStr t x => match getOpd tm x with
  | .lit v => match pureRun P (Builtin.len_ #[t] 0 #[v]) with
   | some r => some (.lit r, H)
   | none => none
  | _ => none
 | .lenC n => some (.lit (.int .i64 n), H)
 | .append s bytes x y => match rd H (getOpd tm y) with
  | some ys => appendA fl H s bytes (getOpd tm x) ys
  | none => none
 | .appendZ s bytes z x n => match natOf (getOpd tm n) with
  | some n => if z.length = s ∧ n ≤ 2 ^ 20 ∧ n * bytes ≤ 2 ^ 40 then appendA fl H s bytes (getOpd tm x) (List.replicate n (z.map .lit)) else none
  | none => none
 | .copy s x y => match rd H (getOpd tm y) with
  | some ys => if allLen s ys = true ∧ 0 < s then match getOpd tm x with
    | .ms id tot off len => match H[id]? with
     | some (.blk s' es) => if s' = s ∧ es.length = tot ∧ ys.length ≤ len ∧ fl ≤ id then (if ys.length = 0 then some (.lit (.int .i64 0), H) else some (.lit (.int .i64 ys.length), H.set id (.blk s (splice es off ys)))) else none
     | _ => none
    | _ => none
   else none
  | none => none
 | .delete kt m k => match lits (getOpd tm k), getOpd tm m with
  | some kv, .mp id => if fl ≤ id then match H[id]? with
    | some (.mp ents) => match pureRun P (Instr.checkKey ents.isEmpty 10000 kt kv), findA P kt kv ents with
     | some _, some (some i) => some (.lit undefV, H.set id (.mp (ents.eraseIdx i)))
     | some _, some none => some (.lit undefV, H)
     | _, _ => none
    | _ => none
   else none
  | _, _ => none
 | .minmax mx xs => match litL (xs.map (getOpd tm)) with
  | some vs => match pureRun P (if mx then Builtin.max_ #[] 0 vs.toArray else Builtin.min_ #[] 0 vs.toArray) with
   | some r => some (.lit r, H)
   | none => none
  | none => none
 | .mkFn vi caps => some (.fn vi (caps.map (getOpd tm)), H)
 | .call pu vi args => callA cf fl pu vi (args.map (getOpd tm)) H
 | .callv pu x args => match getOpd tm x with
  | .fn vi caps => callA cf fl pu vi (args.map (getOpd tm) ++ caps) H
  | _ => none
 | .callF vi args => cf H.length vi (args.map (getOpd tm)) H
 | .callS vi args => match cf 0 vi ((args.map (getOpd tm)).map (seal2 H 0)) [] with
  | some (r, H') => match scalT (seal3 H' 0 r) with
   | true => some (seal3 H' 0 r, H)
   | false => none
  | none => none
 | .capS x => match getOpd tm x with
  | .lit (.slice none 0 0) => some (.lit (.int .i64 0), H)
  | .sl true es => some (.lit (.int .i64 es.length), H)
  | _ => none
 | .extract x i => match getOpd tm x with
  | .tup vs => match vs[i]? with
   | some v => some (v, H)
   | none => none
  | _ => none
 | .rangeStr x => match getOpd tm x with
  | .lit (.string s) => some (.it H.length, H ++ [.raw (.stringIter s 0)])
  | _ => none
 | .nextStr x => match getOpd tm x with
  | .it id => if fl ≤ id then match H[id]? with
    | some (.raw (.stringIter s pos)) => if pos < s.size then some (.tup [.lit (.bool true), .lit (.int .i64 pos), .lit (.int .i32 (Utf8.decode s pos).1)], H.set id (.raw (.stringIter s (pos + (Utf8.decode s pos).2)))) else some (.tup [.lit (.bool false)], H)
    | _ => none
   else none
  | _ => none
 | .freeze x => match getOpd tm x with
  | .ms id tot off len => if fl ≤ id then match H[id]? with
    | some (.blk s es) => if es.length = tot then some (.sl false (((es.drop off).take len).map fun e => e.map toP), H.set id (.blk s (es ++ [List.replicate s .undef]))) else none
    | _ => none
   else none
  | v => some (v, H)
def putA (tm : List AV) (d : Option Nat) (v : AV) : List AV :=
 match d with
 | some d => tm.set d v
 | none => tm
def wantA [GlobT] (tm : List AV) (g : Option (Nat × Bool)) : Option Bool :=
 match g with
 | none => some true
 | some (t, want) => match getOpd tm (.tmp t) with
  | .lit (.bool b) => some (b == want)
  | .lit _ => some false
  | _ => none
def evOper [GlobT] (o : AOper) (st : St) : Option St :=
 match wantA st.tmps o.guard with
 | some true => match evOp P cf fl o.op st.tmps st.heap with
  | some (v, H) => some ⟨putA st.tmps o.dst v, H⟩
  | none => none
 | some false => some ⟨putA st.tmps o.dst (.lit undefV), st.heap⟩
 | none => none
end
def objOf : AV → Option Nat
 | .ptr id _ _ _ => some id
 | .ms id _ _ _ => some id
 | .mp id => some id
 | _ => none
def stableAt [GlobT] (op : AOp) (tm : List AV) : Option (Option Nat) :=
 match op with
 | .load _ _ x => some (objOf (getOpd tm x))
 | .idxAddr _ x _ => some (objOf (getOpd tm x))
 | .slice _ x _ _ _ => some (objOf (getOpd tm x))
 | .lookup _ _ m _ _ => some (objOf (getOpd tm m))
 | .lenM x => some (objOf (getOpd tm x))
 | .call true _ args => match plainAll (args.map (getOpd tm)) with
  | true => some none
  | false => none
 | .callS _ args => match plainAll (args.map (getOpd tm)) with
  | true => some none
  | false => none
 | .callv true x args => match getOpd tm x with
  | .fn _ caps => match plainAll (args.map (getOpd tm) ++ caps) with
   | true => some none
   | false => none
  | _ => none
 | _ => none
def keepsA [GlobT] (op : AOp) (tm : List AV) (n id : Nat) : Bool :=
 match op with
 | .alloc _ => Nat.blt id n
 | .claim _ => Nat.blt id n
 | .allocC _ _ => Nat.blt id n
 | .box _ => Nat.blt id n
 | .buildSl _ _ _ _ _ => Nat.blt id n
 | .mkSlice _ _ _ _ _ => Nat.blt id n
 | .mkMap => Nat.blt id n
 | .callF _ _ => Nat.blt id n
 | .store _ x _ => match getOpd tm x with
  | .ptr i _ _ _ => !Nat.beq i id
  | _ => false
 | .append _ _ x _ => match getOpd tm x with
  | .ms i _ _ _ => !Nat.beq i id
  | _ => Nat.blt id n
 | .mapUpd _ m _ _ => match getOpd tm m with
  | .mp i => !Nat.beq i id
  | _ => false
 | _ => false
def ckOne [GlobT] (ops : List AOper) (l : List St) (k m : Nat) : Bool :=
 match ops[k]? with
 | some ok => match l[k]? with
  | some sk => match wantA sk.tmps ok.guard with
   | some false => true
   | _ => match stableAt ok.op sk.tmps with
    | some none => true
    | some (some id) => match ops[m]? with
     | some om => match l[m]? with
      | some sm => match wantA sm.tmps om.guard with
       | some false => true
       | _ => keepsA om.op sm.tmps sm.heap.length id
      | none => false
     | none => false
    | none => false
  | none => false
 | none => false
def ckAll [GlobT] (ops : List AOper) (l : List St) : List (Nat × Nat) → Bool
 | [] => true
 | (k, m) :: r => match ckOne ops l k m with
  | true => ckAll ops l r
  | false => false
section
variable (P : Program) (cf : Nat → Nat → List AV → Heap → Option (AV × Heap))
def evOps [GlobT] (fl : Nat) : List AOper → St → Option St
 | [], st => some st
 | o :: r, st => match evOper P cf fl o st with
  | some st => evOps fl r st
  | none => none
def evOpsL [GlobT] (fl : Nat) : List AOper → St → Option (List St)
 | [], st => some [st]
 | o :: r, st => match evOper P cf fl o st with
  | some st1 => match evOpsL fl r st1 with
   | some l => some (st :: l)
   | none => none
  | none => none
def evReg [GlobT] (fl : Nat) (ck : List (Nat × Nat)) (ops : List AOper) (st : St) : Option St := match ck with
 | [] => evOps P cf fl ops st
 | c :: r => match evOpsL P cf fl ops st with
  | some l => match ckAll ops l (c :: r) with
   | true => l.getLast?
   | false => none
  | none => none
def maskL : List Bool → List AV → List AV
 | b :: bs, v :: vs => (if b then v else .undef) :: maskL bs vs
 | [], vs => vs.map fun _ => .undef
 | _, [] => []
def cleanObj (n : Nat) : AObj → AObj
 | .blk s es => .blk s (es.map fun e => e.map (clean1 n))
 | .mp ents => .mp (ents.map fun e => (e.1, clean2 n e.2))
 | .raw ob => .raw ob
def maskO (live : Option (List Bool)) (tm : List AV) : List AV := match live with | some l => maskL l tm | none => tm
def headSt (live : Option (List Bool)) (tr : Bool) (fl n : Nat) (st : St) : St :=
 if tr then ⟨(maskO live st.tmps).map (clean3 n), st.heap.take fl ++ ((st.heap.take n).drop fl).map (cleanObj n)⟩ else ⟨maskO live st.tmps, st.heap⟩
def maskR (lx lr : List Bool) (tr : Bool) (fl n : Nat) : Option (AExit × St) → Option (AExit × St)
 | some (x, st) => match x with
  | .ret => some (.ret, ⟨maskL lr st.tmps, st.heap⟩)
  | .normal => some (.normal, headSt (some lx) tr fl n st)
  | .exit i => some (.exit i, headSt (some lx) tr fl n st)
 | none => none
def ownSt [GlobT] (fl t : Nat) (st : St) : Option St :=
 match getOpd st.tmps (.tmp t) with
 | .ms id tot off len => if fl ≤ id then match st.heap[id]? with
   | some (.blk s es) => if es.length = tot then some ⟨st.tmps.set t (.ms st.heap.length tot off len), st.heap.set id (.blk s (es ++ [List.replicate s .undef])) ++ [.blk s es]⟩ else none
   | _ => none
  else none
 | _ => none
def headV [GlobT] (live : List Bool) (t fl n : Nat) (st : St) : St :=
 match getOpd st.tmps (.tmp t) with
 | .ms id tot off len => if n ≤ id then match st.heap[id]? with
   | some (.blk s es) => ⟨((maskL live st.tmps).map (clean3 n)).set t (.ms n tot off len), (st.heap.take fl ++ ((st.heap.take n).drop fl).map (cleanObj n)) ++ [cleanObj n (.blk s es)]⟩
   | _ => headSt (some live) true fl n st
  else headSt (some live) true fl n st
 | _ => headSt (some live) true fl n st
def maskV [GlobT] (lx lr : List Bool) (t fl n : Nat) : Option (AExit × St) → Option (AExit × St)
 | some (x, st) => match x with
  | .ret => some (.ret, ⟨maskL lr st.tmps, st.heap⟩)
  | .normal => some (.normal, headV lx t fl n st)
  | .exit i => some (.exit i, headV lx t fl n st)
 | none => none
def nilK (H : Heap) : AV → Nat
 | .lit v => match v with
  | .slice a l c => match a with
   | none => match l with
    | 0 => match c with
     | 0 => 0
     | _ => 3
    | _ => 3
   | _ => 3
  | _ => 3
 | .sl _ es => match es with
  | [] => 2
  | _ :: _ => 1
 | .ms id tot _ len => match len with
  | 0 => 3
  | _ + 1 => match H[id]? with
   | some (.blk _ es) => match Nat.beq es.length tot with
    | true => 1
    | false => 3
   | _ => 3
 | _ => 3
def empA : AV → Bool
 | .lit v => match v with
  | .slice a l c => match a with
   | none => match l with
    | 0 => match c with
     | 0 => true
     | _ => false
    | _ => false
   | _ => false
  | _ => false
 | .sl _ es => match es with
  | [] => true
  | _ :: _ => false
 | _ => false
def join1 (x y : AV) : AV := match empA x with
 | true => match empA y with
  | true => .sl false []
  | false => .undef
 | false => .undef
def joinL : List AV → List AV → List AV
 | x :: r, y :: s => join1 x y :: joinL r s
 | _, _ => []
def notNormal : Option (AExit × St) → Option (AExit × St)
 | some (x, st) => match x with
  | .normal => none
  | x => some (x, st)
 | none => none
def joinR (H : Heap) : Option (AExit × St) → Option (AExit × St) → Option (AExit × St)
 | some (.ret, sa), some (.ret, sb) => match Nat.beq sa.tmps.length sb.tmps.length with
  | true => some (.ret, ⟨joinL sa.tmps sb.tmps, H⟩)
  | false => none
 | _, _ => none
def nilTm [GlobT] (tm : List AV) (t d0 d1 : Nat) (b : Bool) : List AV := (tm.set d0 (getOpd tm (.tmp t))).set d1 (.lit (.bool b))
def evLoop (head : St → St) (step : St → Option (AExit × St)) : Nat → St → Option (AExit × St)
 | 0, _ => none
 | n + 1, st => match step (head st) with
  | some (.normal, st) => evLoop head step n st
  | r => r
def evC [GlobT] (lf fl : Nat) : ACode → St → Option (AExit × St)
 | .skip, st => some (.normal, st)
 | .region _ ck ops, st => match evReg P cf fl ck ops st with
  | some st => some (.normal, st)
  | none => none
 | .seq a b, st => match evC lf fl a st with
  | some (.normal, st) => evC lf fl b st
  | r => r
 | .cond c a b, st => match getOpd st.tmps c with
  | .lit (.bool true) => evC lf fl a st
  | .lit (.bool false) => evC lf fl b st
  | _ => none
 | .block id c, st => match evC lf fl c st with
  | some (.exit i, st) => if i = id then some (.normal, st) else some (.exit i, st)
  | r => r
 | .loop live tr c, st => evLoop (headSt live tr fl st.heap.length) (fun st => evC lf fl c st) lf st
 | .exit id, st => some (.exit id, st)
 | .ret, st => some (.ret, st)
 | .frz t c, st => match evOp P cf fl (.freeze (.tmp t)) st.tmps st.heap with
  | some (v, H) => evC lf fl c ⟨st.tmps.set t v, H⟩
  | none => none
 | .mask lx lr tr c, st => maskR lx lr tr fl st.heap.length (evC lf fl c st)
 | .scope c, st => evC lf fl c st
 | .nilIf t d0 d1 a b, st => match (Nat.blt d0 st.tmps.length && Nat.blt d1 st.tmps.length) with
  | true => match nilK st.heap (getOpd st.tmps (.tmp t)) with
   | 0 => notNormal (evC lf fl a ⟨nilTm st.tmps t d0 d1 true, st.heap⟩)
   | 1 => evC lf fl b ⟨nilTm st.tmps t d0 d1 false, st.heap⟩
   | 2 => match Nat.beq fl st.heap.length with
    | true => joinR st.heap (evC lf fl a ⟨nilTm st.tmps t d0 d1 true, st.heap⟩) (evC lf fl b ⟨nilTm st.tmps t d0 d1 false, st.heap⟩)
    | false => none
   | _ => none
  | false => none
 | .loopV live lx lr t c, st => match ownSt fl t st with
  | some st1 => maskV lx lr t fl st.heap.length (evLoop (headV live t fl st.heap.length) (fun st => evC lf fl c st) lf st1)
  | none => none
 | .stop, _ => none
end
def evRet [GlobT] (st : St) : ARes → Option AV
 | .tmp t => some (getOpd st.tmps (.tmp t))
 | .cell t n agg => match ldCells st.heap (getOpd st.tmps (.tmp t)) n with
  | some cs => if agg then some (.agg cs) else match cs with
   | [c] => some c
   | _ => none
  | none => none
def packA : List AV → AV
 | [v] => v
 | vs => .tup vs
def retsA [GlobT] (st : St) : List ARes → Option (List AV)
 | [] => some []
 | r :: rs => match evRet st r with
  | some v => match retsA st rs with
   | some vs => some (v :: vs)
   | none => none
  | none => none
def primF [GlobT] (fl vi : Nat) (args : List AV) (H : Heap) : Option (AV × Heap) :=
 match GlobT.prim vi with
 | some g => g fl args H
 | none => none
def getF [GlobT] (T : List AFun) (vi : Nat) : Option AFun :=
 match GlobT.prim vi with
 | some _ => none
 | none => T[vi]?
def evF [GlobT] (P : Program) (T : List AFun) : Nat → Nat → Nat → List AV → Heap → Option (AV × Heap)
 | 0, _, _, _, _ => none
 | n + 1, fl, vi, args, H =>
  match GlobT.prim vi with
  | some g => g fl args H
  | none =>
  match T[vi]? with
  | none => none
  | some F =>
   match evC P (evF P T n) n fl F.body ⟨args ++ List.replicate (F.nt - args.length) (.lit undefV), H⟩ with
   | some (.normal, st) => match retsA st F.rets with
    | some vs => some (packA vs, st.heap)
    | none => none
   | some (.ret, st) => match retsA st F.rets with
    | some vs => some (packA vs, st.heap)
    | none => none
   | _ => none
end Go.Proofs.YtmflphfmefakfaaGreatDoor.Av
namespace Go.Proofs.YtmflphfmefakfaaGreatDoor.Av
open Go
structure Ctx where
 w : World
 X : Nat → Prop
 β : Nat → Option Nat
 H : Heap
def Imm (c : Ctx) (b : Nat) : Prop := ¬ c.X b ∧ ∀ id, c.β id ≠ some b
def cellE (es : List (List AV)) (i j : Nat) : Option AV := (es[i]?).bind fun e => e[j]?
def shp (H : Heap) (id : Nat) : Option (Nat × Nat) :=
 match H[id]? with
 | some (.blk s es) => some (s, es.length)
 | _ => none
def notBlk : AObj → Prop
 | .blk _ _ => False
 | _ => True
def isMap (H : Heap) (id : Nat) : Prop := ∃ o, H[id]? = some o ∧ notBlk o
inductive RP (w : World) (I : Nat → Prop) : AV → Value → Prop
 | undef (v : Value) : RP w I .undef v
 | lit (v : Value) : RP w I (.lit v) v
 | nil (f : Bool) (a : Option Addr) (cap : Nat) : (f = true → cap = 0) → RP w I (.sl f []) (.slice a 0 cap)
 | sl (f : Bool) (es : List (List AV)) (b off cap : Nat) (c : Array Value) (T : TypeId) (fz : Nat × Nat) (s : Nat) (vals : Nat → Nat → Value) :
   es ≠ [] → I b → w.heap[b]? = some (.cells c T fz) → (∀ e ∈ es, e.length = s) → es.length ≤ cap → (f = true → cap = es.length) →
   (∀ i j x, cellE es i j = some x → c[off + (i * s + j)]? = some (vals i j) ∧ scalarB (vals i j) = true) →
   (∀ i j x, cellE es i j = some x → RP w I x (vals i j)) →
   RP w I (.sl f es) (.slice (some ⟨b, off, none⟩) es.length cap)
theorem RP.mono {w w' : World} {I I' : Nat → Prop} (h : ∀ b o, I b → w.heap[b]? = some o → I' b ∧ w'.heap[b]? = some o) {x : AV} {v : Value}
  (hr : RP w I x v) : RP w' I' x v := by
 induction hr with
 | undef v => exact .undef v
 | lit v => exact .lit v
 | nil f a cap hf => exact .nil f a cap hf
 | sl f es b off cap c T fz s vals hne hi hb hlen hcap hf hv _ ih =>
  obtain ⟨hi', hb'⟩ := h b _ hi hb
  exact .sl f es b off cap c T fz s vals hne hi' hb' hlen hcap hf hv ih
theorem nrmV_rp {w : World} {I : Nat → Prop} (v : Value) : RP w I (nrmV v) v := by
 unfold nrmV
 split
 ·split
  ·split
   ·split
    ·exact .nil false none 0 (by simp)
    ·exact .lit _
   ·exact .lit _
  ·exact .lit _
 ·exact .lit _
theorem nrm_rp [GlobT] {w : World} {I : Nat → Prop} {x : AV} {v : Value} (h : RP w I x v) : RP w I (nrm x) v := by
 cases h with
 | undef v => exact .undef v
 | lit v => exact nrmV_rp v
 | nil f a cap hf => exact .nil false a cap (by simp)
 | sl f es b off cap c T fz s vals h1 h2 h3 h4 h5 h6 h7 h8 => exact .sl false es b off cap c T fz s vals h1 h2 h3 h4 h5 (by simp) h7 h8
def MsOk (c : Ctx) (id tot off len : Nat) (a : Option Addr) (cap s : Nat) : Prop :=
 off + len ≤ tot ∧
 ((c.β id = none ∧ tot = 0 ∧ a = none ∧ cap = 0) ∨
  ∃ b cs T a', c.β id = some b ∧ c.w.heap[b]? = some (.cells cs T (0, 0)) ∧ (off + cap) * s = cs.size ∧ a = some a' ∧
   (cap ≠ 0 → a' = ⟨b, off * s, none⟩))
inductive RV (FT : Nat → Option Nat) (c : Ctx) : AV → Value → Prop
 | pure (x : AV) (v : Value) : RP c.w (Imm c) x v → RV FT c x v
 | ms (id tot off len : Nat) (a : Option Addr) (cap s n : Nat) : shp c.H id = some (s, n) → tot ≤ n → len ≤ cap →
   (tot = n → MsOk c id tot off len a cap s) → RV FT c (.ms id tot off len) (.slice a len cap)
 | ptr (id tot idx off : Nat) (a : Addr) (s n : Nat) : shp c.H id = some (s, n) → tot ≤ n →
   (tot = n → ∃ b, c.β id = some b ∧ a = ⟨b, idx * s + off, none⟩) → RV FT c (.ptr id tot idx off) (.pointer (some a))
 | rptr (cs : List AV) (b off : Nat) (cc : Array Value) (T : TypeId) (fz : Nat × Nat) (vals : Nat → Value) :
   Imm c b → c.w.heap[b]? = some (.cells cc T fz) →
   (∀ j x, cs[j]? = some x → cc[off + j]? = some (vals j) ∧ scalarB (vals j) = true) →
   (∀ j x, cs[j]? = some x → RP c.w (Imm c) x (vals j)) → RV FT c (.rptr cs) (.pointer (some ⟨b, off, none⟩))
 | mp (id b : Nat) : isMap c.H id → c.β id = some b → RV FT c (.mp id) (.map (some b))
 | it (id b : Nat) : isMap c.H id → c.β id = some b → RV FT c (.it id) (.pointer (some ⟨b, 0, none⟩))
 | fn (vi f : Nat) (caps : List AV) (cv : Array Value) (vals : Nat → Value) : FT vi = some f → cv.size = caps.length →
   (∀ i x, caps[i]? = some x → cv[i]? = some (vals i)) → (∀ i x, caps[i]? = some x → RV FT c x (vals i)) →
   RV FT c (.fn vi caps) (.func (.func f) #[] cv)
 | agg (cs : List AV) (cv : Array Value) (vals : Nat → Value) : cv.size = cs.length →
   (∀ i x, cs[i]? = some x → cv[i]? = some (vals i) ∧ scalarB (vals i) = true) →
   (∀ i x, cs[i]? = some x → RV FT c x (vals i)) → RV FT c (.agg cs) (.agg cv)
 | tup (cs : List AV) (cv : Array Value) (vals : Nat → Value) : cv.size = cs.length →
   (∀ i x, cs[i]? = some x → cv[i]? = some (vals i)) →
   (∀ i x, cs[i]? = some x → RV FT c x (vals i)) → RV FT c (.tup cs) (.tuple cv)
structure Step (fl : Nat) (c c' : Ctx) : Prop where
 X : c'.X = c.X
 os : c'.w.os = c.w.os
 tape : c'.w.tape = c.w.tape
 output : c'.w.output = c.w.output
 size : c.w.heap.size ≤ c'.w.heap.size
 len : c.H.length ≤ c'.H.length
 frame : ∀ k, k < c.w.heap.size → (∀ id, c.β id ≠ some k) → c'.w.heap[k]? = c.w.heap[k]?
 img : ∀ id b, c'.β id = some b → c.w.heap.size ≤ b ∨ ∃ i, c.β i = some b
 blkS : ∀ id s n, shp c.H id = some (s, n) → ∃ n', shp c'.H id = some (s, n') ∧ n ≤ n' ∧
  (n = n' → c'.β id = c.β id ∧ ∀ b cs T, c.β id = some b → c.w.heap[b]? = some (.cells cs T (0, 0)) →
   ∃ cs', c'.w.heap[b]? = some (.cells cs' T (0, 0)) ∧ cs'.size = cs.size)
 mpS : ∀ id, isMap c.H id → isMap c'.H id ∧ c'.β id = c.β id
 floor : ∀ id, id < fl → c'.H[id]? = c.H[id]? ∧ c'.β id = c.β id ∧ ∀ b, c.β id = some b → c'.w.heap[b]? = c.w.heap[b]?
theorem Step.refl (fl : Nat) (c : Ctx) : Step fl c c where
 X := rfl
 os := rfl
 tape := rfl
 output := rfl
 size := Nat.le_refl _
 len := Nat.le_refl _
 frame := fun _ _ _ => rfl
 img := fun i _ h => .inr ⟨i, h⟩
 blkS := fun _ _ n h => ⟨n, h, Nat.le_refl _, fun _ => ⟨rfl, fun _ cs _ _ hb => ⟨cs, hb, rfl⟩⟩⟩
 mpS := fun _ h => ⟨h, rfl⟩
 floor := fun _ _ => ⟨rfl, rfl, fun _ _ => rfl⟩
theorem Step.trans {fl : Nat} {a b c : Ctx} (h : Step fl a b) (k : Step fl b c) : Step fl a c where
 X := k.X.trans h.X
 os := k.os.trans h.os
 tape := k.tape.trans h.tape
 output := k.output.trans h.output
 size := Nat.le_trans h.size k.size
 len := Nat.le_trans h.len k.len
 frame := fun i hi hn => (k.frame i (Nat.lt_of_lt_of_le hi h.size) (fun id hid => by
  rcases h.img id i hid with hh | ⟨j, hh⟩
  ·omega
  ·exact hn j hh)).trans (h.frame i hi hn)
 img := fun id x hx => by
  rcases k.img id x hx with hh | ⟨j, hh⟩
  ·exact .inl (Nat.le_trans h.size hh)
  ·exact h.img j x hh
 blkS := fun id s n hs => by
  obtain ⟨n', hs', hn', he'⟩ := h.blkS id s n hs
  obtain ⟨n'', hs'', hn'', he''⟩ := k.blkS id s n' hs'
  refine ⟨n'', hs'', Nat.le_trans hn' hn'', fun e => ?_⟩
  have e1 : n = n' := by omega
  have e2 : n' = n'' := by omega
  obtain ⟨hb1, hc1⟩ := he' e1
  obtain ⟨hb2, hc2⟩ := he'' e2
  refine ⟨hb2.trans hb1, fun x cs T hx hcs => ?_⟩
  obtain ⟨cs', h1, h2⟩ := hc1 x cs T hx hcs
  obtain ⟨cs'', h3, h4⟩ := hc2 x cs' T (hb1.trans hx) h1
  exact ⟨cs'', h3, h4.trans h2⟩
 mpS := fun id hm => by
  obtain ⟨h1, h2⟩ := h.mpS id hm
  obtain ⟨h3, h4⟩ := k.mpS id h1
  exact ⟨h3, h4.trans h2⟩
 floor := fun id hid => by
  obtain ⟨h1, h2, h3⟩ := h.floor id hid
  obtain ⟨k1, k2, k3⟩ := k.floor id hid
  exact ⟨k1.trans h1, k2.trans h2, fun x hx => (k3 x (h2.trans hx)).trans (h3 x hx)⟩
theorem Step.mono {fl fl' : Nat} {a b : Ctx} (h : Step fl a b) (hl : fl' ≤ fl) : Step fl' a b :=
 { h with floor := fun id hid => h.floor id (Nat.lt_of_lt_of_le hid hl) }
theorem Step.imm {fl : Nat} {c c' : Ctx} (h : Step fl c c') {b : Nat} {o : Obj} (hi : Imm c b) (hb : c.w.heap[b]? = some o) :
  Imm c' b ∧ c'.w.heap[b]? = some o := by
 have hlt : b < c.w.heap.size := by
  rcases Nat.lt_or_ge b c.w.heap.size with h | h
  ·exact h
  ·rw [Array.getElem?_eq_none h] at hb; cases hb
 refine ⟨⟨by rw [h.X]; exact hi.1, fun id hid => ?_⟩, by rw [h.frame b hlt hi.2]; exact hb⟩
 rcases h.img id b hid with hh | ⟨j, hh⟩
 ·omega
 ·exact hi.2 j hh
theorem MsOk.step {fl : Nat} {c c' : Ctx} (h : Step fl c c') {id tot off len cap s : Nat} {a : Option Addr} (hs : shp c.H id = some (s, tot))
  (hs' : shp c'.H id = some (s, tot)) (hm : MsOk c id tot off len a cap s) : MsOk c' id tot off len a cap s := by
 obtain ⟨n', h1, h2, h3⟩ := h.blkS id s tot hs
 have e : tot = n' := by rw [hs'] at h1; simpa using h1
 obtain ⟨hb, hc⟩ := h3 e
 obtain ⟨ho, hm⟩ := hm
 refine ⟨ho, ?_⟩
 rcases hm with ⟨h4, h5, h6, h7⟩ | ⟨b, cs, T, a', h4, h5, h6, h7, h8⟩
 ·exact .inl ⟨hb.trans h4, h5, h6, h7⟩
 ·obtain ⟨cs', h9, h10⟩ := hc b cs T h4 h5
  exact .inr ⟨b, cs', T, a', hb.trans h4, h9, by rw [h10]; exact h6, h7, h8⟩
theorem RV.step [GlobT] {FT : Nat → Option Nat} {fl : Nat} {c c' : Ctx} (h : Step fl c c') {x : AV} {v : Value} (hr : RV FT c x v) : RV FT c' x v := by
 induction hr with
 | pure x v hp => exact .pure x v (hp.mono fun b o hi hb => h.imm hi hb)
 | ms id tot off len a cap s n hs ht hl hm =>
  obtain ⟨n', h1, h2, h3⟩ := h.blkS id s n hs
  refine .ms id tot off len a cap s n' h1 (Nat.le_trans ht h2) hl fun e => ?_
  have e1 : tot = n := by omega
  subst e1
  exact (hm rfl).step h hs (by rw [h1, e])
 | ptr id tot idx off a s n hs ht hm =>
  obtain ⟨n', h1, h2, h3⟩ := h.blkS id s n hs
  refine .ptr id tot idx off a s n' h1 (Nat.le_trans ht h2) fun e => ?_
  have e1 : tot = n := by omega
  obtain ⟨b, hb, ha⟩ := hm e1
  exact ⟨b, ((h3 (by omega)).1).trans hb, ha⟩
 | rptr cs b off cc T fz vals hi hb hv hp =>
  obtain ⟨hi', hb'⟩ := h.imm hi hb
  exact .rptr cs b off cc T fz vals hi' hb' hv fun j x hx => (hp j x hx).mono fun b o hi hb => h.imm hi hb
 | mp id b hm hb =>
  obtain ⟨h1, h2⟩ := h.mpS id hm
  exact .mp id b h1 (h2.trans hb)
 | it id b hm hb =>
  obtain ⟨h1, h2⟩ := h.mpS id hm
  exact .it id b h1 (h2.trans hb)
 | fn vi f caps cv vals hf hs hv _ ih => exact .fn vi f caps cv vals hf hs hv ih
 | agg cs cv vals hs hv _ ih => exact .agg cs cv vals hs hv ih
 | tup cs cv vals hs hv _ ih => exact .tup cs cv vals hs hv ih
def GlobInv [GlobT] (c : Ctx) : Prop := ∀ g cs, GlobT.tab g = some cs → ∃ (cc : Array Value) (T : TypeId) (fz : Nat × Nat) (vals : Nat → Value), Imm c g ∧ c.w.heap[g]? = some (.cells cc T fz) ∧ GlobT.ok g cc ∧
 (∀ j x, cs[j]? = some x → cc[0 + j]? = some (vals j) ∧ scalarB (vals j) = true) ∧ ∀ j x, cs[j]? = some x → RP c.w (Imm c) x (vals j)
theorem GlobInv.step [GlobT] {fl : Nat} {c c' : Ctx} (hg : GlobInv c) (h : Step fl c c') : GlobInv c' := by
 intro g cs hcs
 obtain ⟨cc, T, fz, vals, h1, h2, h0, h3, h4⟩ := hg g cs hcs
 obtain ⟨k1, k2⟩ := h.imm h1 h2
 exact ⟨cc, T, fz, vals, k1, k2, h0, h3, fun j x hx => (h4 j x hx).mono fun b o hi hb => h.imm hi hb⟩
theorem GlobInv.rv [GlobT] {FT : Nat → Option Nat} {c : Ctx} (hg : GlobInv c) {g : Nat} {cs : List AV} (h : GlobT.tab g = some cs) : RV FT c (.rptr cs) (.pointer (some ⟨g, 0, none⟩)) := by
 obtain ⟨cc, T, fz, vals, h1, h2, _, h3, h4⟩ := hg g cs h
 exact .rptr cs g 0 cc T fz vals h1 h2 h3 h4
structure Sim [GlobT] (FT : Nat → Option Nat) (c : Ctx) : Prop where
 gl : GlobInv c
 inj : ∀ (i j b : Nat), c.β i = some b → c.β j = some b → i = j
 dom : ∀ (id b : Nat), c.β id = some b → id < c.H.length
 nx : ∀ (id b : Nat), c.β id = some b → ¬ c.X b
 fresh : ∀ k : Nat, c.w.heap.size ≤ k → ¬ c.X k
 lens : ∀ (id s : Nat) (es : List (List AV)), c.H[id]? = some (.blk s es) → ∀ e ∈ es, e.length = s
 blk : ∀ (id s : Nat) (es : List (List AV)) (b : Nat), c.H[id]? = some (.blk s es) → c.β id = some b → ∃ cs T, c.w.heap[b]? = some (.cells cs T (0, 0)) ∧ es.length * s ≤ cs.size ∧
  ∀ i j x, cellE es i j = some x → ∃ v, cs[i * s + j]? = some v ∧ scalarB v = true ∧ RV FT c x v
 map : ∀ (id : Nat) (ents : List (Value × AV)) (b : Nat), c.H[id]? = some (.mp ents) → c.β id = some b → ∃ (es : Array MapEntry) (clk : Nat), c.w.heap[b]? = some (.map es clk) ∧ es.size = ents.length ∧
  ∀ (i : Nat) (k : Value) (x : AV), ents[i]? = some (k, x) → ∃ e, es[i]? = some e ∧ e.key = k ∧ RV FT c x e.val
 raw : ∀ (id : Nat) (ob : Obj) (b : Nat), c.H[id]? = some (.raw ob) → c.β id = some b → c.w.heap[b]? = some ob
def TR (FT : Nat → Option Nat) (c : Ctx) (tm : List AV) (tv : Array Value) : Prop :=
 tm.length = tv.size ∧ ∀ (t : Nat) (x : AV), tm[t]? = some x → ∃ v, tv[t]? = some v ∧ RV FT c x v
theorem TR.step [GlobT] {FT : Nat → Option Nat} {fl : Nat} {c c' : Ctx} (h : Step fl c c') {tm : List AV} {tv : Array Value} (hr : TR FT c tm tv) : TR FT c' tm tv :=
 ⟨hr.1, fun t x hx => let ⟨v, h1, h2⟩ := hr.2 t x hx; ⟨v, h1, h2.step h⟩⟩
theorem RV.lit_inv {FT : Nat → Option Nat} {c : Ctx} {u v : Value} (h : RV FT c (.lit u) v) : v = u := by
 cases h with
 | pure _ _ hp => cases hp; rfl
theorem RV.lit {FT : Nat → Option Nat} {c : Ctx} (u : Value) : RV FT c (.lit u) u := .pure _ _ (.lit u)
theorem RV.undef {FT : Nat → Option Nat} {c : Ctx} (u : Value) : RV FT c .undef u := .pure _ _ (.undef u)
end Go.Proofs.YtmflphfmefakfaaGreatDoor.Av
namespace Go.Proofs.YtmflphfmefakfaaGreatDoor.Av
open Go
variable {FT : Nat → Option Nat}
def upd (β : Nat → Option Nat) (id b : Nat) : Nat → Option Nat := fun i => if i = id then some b else β i
theorem upd_same (β : Nat → Option Nat) (id b : Nat) : upd β id b id = some b := by simp [upd]
theorem upd_other {β : Nat → Option Nat} {id b i : Nat} (h : i ≠ id) : upd β id b i = β i := by simp [upd, h]
structure Drawn (w w' : World) : Prop where
 heap : w'.heap = w.heap
 os : w'.os = w.os
 tape : w'.tape = w.tape
 output : w'.output = w.output
theorem Drawn.refl (w : World) : Drawn w w := ⟨rfl, rfl, rfl, rfl⟩
theorem step_drawn {fl : Nat} {c : Ctx} {w' : World} (h : Drawn c.w w') : Step fl c ⟨w', c.X, c.β, c.H⟩ where
 X := rfl
 os := h.os
 tape := h.tape
 output := h.output
 size := by simp [h.heap]
 len := Nat.le_refl _
 frame := fun k _ _ => by simp [h.heap]
 img := fun i _ hb => .inr ⟨i, hb⟩
 blkS := fun _ _ n hs => ⟨n, hs, Nat.le_refl _, fun _ => ⟨rfl, fun _ cs _ _ hb => ⟨cs, by simpa [h.heap] using hb, rfl⟩⟩⟩
 mpS := fun _ hm => ⟨hm, rfl⟩
 floor := fun _ _ => ⟨rfl, rfl, fun _ _ => by simp [h.heap]⟩
theorem Sim.drawn [GlobT] {c : Ctx} {w' : World} (hs : Sim FT c) (h : Drawn c.w w') : Sim FT ⟨w', c.X, c.β, c.H⟩ where
 gl := hs.gl.step (step_drawn (fl := 0) h)
 inj := hs.inj
 dom := hs.dom
 nx := hs.nx
 fresh := fun k hk => hs.fresh k (by simpa [h.heap] using hk)
 lens := hs.lens
 blk := fun id s es b ho hb => by
  obtain ⟨cs, T, h1, h2, h3⟩ := hs.blk id s es b ho hb
  exact ⟨cs, T, by simpa [h.heap] using h1, h2, fun i j x hx => let ⟨v, g1, g2, g3⟩ := h3 i j x hx; ⟨v, g1, g2, g3.step (step_drawn (fl := 0) h)⟩⟩
 map := fun id ents b ho hb => by
  obtain ⟨es, clk, h1, h2, h3⟩ := hs.map id ents b ho hb
  exact ⟨es, clk, by simpa [h.heap] using h1, h2, fun i k x hx => let ⟨e, g1, g2, g3⟩ := h3 i k x hx; ⟨e, g1, g2, g3.step (step_drawn (fl := 0) h)⟩⟩
 raw := fun id ob b ho hb => by simpa [h.heap] using hs.raw id ob b ho hb
theorem shp_append {H : Heap} {o : AObj} {id : Nat} {r : Nat × Nat} (h : shp H id = some r) : shp (H ++ [o]) id = some r := by
 have hlt : id < H.length := by
  rcases Nat.lt_or_ge id H.length with h' | h'
  ·exact h'
  ·simp [shp, List.getElem?_eq_none h'] at h
 simpa [shp, List.getElem?_append_left hlt] using h
theorem isMap_append {H : Heap} {o : AObj} {id : Nat} (h : isMap H id) : isMap (H ++ [o]) id := by
 obtain ⟨ents, he, hn⟩ := h
 have hlt : id < H.length := by
  rcases Nat.lt_or_ge id H.length with h' | h'
  ·exact h'
  ·simp [List.getElem?_eq_none h'] at he
 exact ⟨ents, by simpa [List.getElem?_append_left hlt] using he, hn⟩
theorem step_new [GlobT] {fl : Nat} {c : Ctx} {w' : World} {o : AObj} {ob : Obj} (hfl : fl ≤ c.H.length)
  (hh : w'.heap = c.w.heap.push ob) (h1 : w'.os = c.w.os) (h2 : w'.tape = c.w.tape) (h3 : w'.output = c.w.output)
  (hlt : ∀ id b, c.β id = some b → b < c.w.heap.size) :
  Step fl c ⟨w', c.X, upd c.β c.H.length c.w.heap.size, c.H ++ [o]⟩ where
 X := rfl
 os := h1
 tape := h2
 output := h3
 size := by simp [hh]
 len := by simp
 frame := fun k hk _ => by simp only [hh, Array.getElem?_push]; rw [if_neg (by omega)]
 img := fun id b hb => by
  by_cases e : id = c.H.length
  ·subst e; simp only [upd_same] at hb; cases hb; exact .inl (Nat.le_refl _)
  ·simp only [upd_other e] at hb; exact .inr ⟨_, hb⟩
 blkS := fun id s n hs => ⟨n, shp_append hs, Nat.le_refl _, fun _ => by
  have hne : id ≠ c.H.length := by
   intro e; subst e; simp [shp] at hs
  refine ⟨upd_other hne, fun b cs T hb hcs => ⟨cs, ?_, rfl⟩⟩
  have := hlt id b hb
  simp only [hh, Array.getElem?_push]; rw [if_neg (by omega)]; exact hcs⟩
 mpS := fun id hm => ⟨isMap_append hm, by
  have hne : id ≠ c.H.length := by
   intro e; subst e; obtain ⟨_, he, _⟩ := hm; simp at he
  exact upd_other hne⟩
 floor := fun id hid => by
  have hne : id ≠ c.H.length := by omega
  refine ⟨List.getElem?_append_left (by omega), upd_other hne, fun b hb => ?_⟩
  have := hlt id b hb
  simp only [hh, Array.getElem?_push]; rw [if_neg (by omega)]
theorem Sim.lt [GlobT] {c : Ctx} (hs : Sim FT c) {id b : Nat} (h : c.β id = some b) : b < c.w.heap.size := by
 have hid := hs.dom id b h
 cases ho : c.H[id]? with
 | none => rw [List.getElem?_eq_none_iff] at ho; omega
 | some o =>
  cases o with
  | blk s es =>
   obtain ⟨cs, T, h1, _⟩ := hs.blk id s es b ho h
   rcases Nat.lt_or_ge b c.w.heap.size with hh | hh
   ·exact hh
   ·rw [Array.getElem?_eq_none hh] at h1; cases h1
  | mp ents =>
   obtain ⟨es, clk, h1, _⟩ := hs.map id ents b ho h
   rcases Nat.lt_or_ge b c.w.heap.size with hh | hh
   ·exact hh
   ·rw [Array.getElem?_eq_none hh] at h1; cases h1
  | raw ob =>
   have h1 := hs.raw id ob b ho h
   rcases Nat.lt_or_ge b c.w.heap.size with hh | hh
   ·exact hh
   ·rw [Array.getElem?_eq_none hh] at h1; cases h1
theorem sim_new [GlobT] {c : Ctx} {w' : World} {o : AObj} {ob : Obj} (hs : Sim FT c)
  (hh : w'.heap = c.w.heap.push ob) (h1 : w'.os = c.w.os) (h2 : w'.tape = c.w.tape) (h3 : w'.output = c.w.output)
  (hl : ∀ s es, o = .blk s es → ∀ e ∈ es, e.length = s)
  (ho : ∀ s es, o = .blk s es → ∃ cs T, ob = .cells cs T (0, 0) ∧ es.length * s ≤ cs.size ∧
   ∀ i j x, cellE es i j = some x → ∃ v, cs[i * s + j]? = some v ∧ scalarB v = true ∧ RV FT c x v)
  (hm : ∀ ents, o = .mp ents → ents = [] ∧ ∃ clk, ob = .map #[] clk) (hw : ∀ q, o = .raw q → ob = q) :
  Sim FT ⟨w', c.X, upd c.β c.H.length c.w.heap.size, c.H ++ [o]⟩ := by
 have hst := step_new (fl := 0) (o := o) (Nat.zero_le _) hh h1 h2 h3 (fun id b hb => hs.lt hb)
 have hnew : w'.heap[c.w.heap.size]? = some ob := by simp [hh]
 refine ⟨hs.gl.step hst, ?_, ?_, ?_, fun k hk => hs.fresh k (by simp only [hh, Array.size_push] at hk; omega), ?_, ?_, ?_, ?_⟩
 ·intro i j b hi hj
  by_cases ei : i = c.H.length
  ·by_cases ej : j = c.H.length
   ·rw [ei, ej]
   ·subst ei
    simp only [upd_same] at hi
    simp only [upd_other ej] at hj
    cases hi
    have := hs.lt hj
    omega
  ·simp only [upd_other ei] at hi
   by_cases ej : j = c.H.length
   ·subst ej
    simp only [upd_same] at hj
    cases hj
    have := hs.lt hi
    omega
   ·simp only [upd_other ej] at hj
    exact hs.inj i j b hi hj
 ·intro id b hb
  by_cases e : id = c.H.length
  ·simp [e]
  ·simp only [upd_other e] at hb
   have := hs.dom id b hb
   simp only [List.length_append, List.length_singleton]; omega
 ·intro id b hb
  by_cases e : id = c.H.length
  ·subst e
   simp only [upd_same] at hb
   cases hb
   exact hs.fresh _ (Nat.le_refl _)
  ·simp only [upd_other e] at hb
   exact hs.nx id b hb
 ·intro id s es ho'
  simp only at ho'
  rw [List.getElem?_append] at ho'
  split at ho'
  ·exact hs.lens id s es ho'
  ·have : o = .blk s es := by
    have h0 := ho'
    rw [List.getElem?_singleton] at h0
    split at h0
    ·exact Option.some.inj h0
    ·cases h0
   exact hl s es this
 ·intro id s es b ho' hb
  simp only at ho' hb ⊢
  by_cases e : id = c.H.length
  ·subst e
   simp only [upd_same] at hb
   cases hb
   have h0 : o = .blk s es := by simpa using ho'
   obtain ⟨cs, T, g1, g2, g3⟩ := ho s es h0
   refine ⟨cs, T, by rw [hnew, g1], g2, fun i j x hx => ?_⟩
   obtain ⟨v, k1, k2, k3⟩ := g3 i j x hx
   exact ⟨v, k1, k2, k3.step hst⟩
  ·simp only [upd_other e] at hb
   have hlt := hs.dom id b hb
   rw [List.getElem?_append_left hlt] at ho'
   obtain ⟨cs, T, g1, g2, g3⟩ := hs.blk id s es b ho' hb
   have hbl := hs.lt hb
   refine ⟨cs, T, ?_, g2, fun i j x hx => ?_⟩
   ·simp only [hh, Array.getElem?_push]; rw [if_neg (by omega)]; exact g1
   ·obtain ⟨v, k1, k2, k3⟩ := g3 i j x hx
    exact ⟨v, k1, k2, k3.step hst⟩
 ·intro id ents b ho' hb
  simp only at ho' hb ⊢
  by_cases e : id = c.H.length
  ·subst e
   simp only [upd_same] at hb
   cases hb
   have h0 : o = .mp ents := by simpa using ho'
   obtain ⟨g1, clk, g2⟩ := hm ents h0
   subst g1
   exact ⟨#[], clk, by rw [hnew, g2], rfl, fun i k x hx => by simp at hx⟩
  ·simp only [upd_other e] at hb
   have hlt := hs.dom id b hb
   rw [List.getElem?_append_left hlt] at ho'
   obtain ⟨es, clk, g1, g2, g3⟩ := hs.map id ents b ho' hb
   have hbl := hs.lt hb
   refine ⟨es, clk, ?_, g2, fun i k x hx => ?_⟩
   ·simp only [hh, Array.getElem?_push]; rw [if_neg (by omega)]; exact g1
   ·obtain ⟨en, k1, k2, k3⟩ := g3 i k x hx
    exact ⟨en, k1, k2, k3.step hst⟩
 ·intro id q b ho' hb
  simp only at ho' hb ⊢
  by_cases e : id = c.H.length
  ·subst e
   simp only [upd_same] at hb
   cases hb
   have h0 : o = .raw q := by simpa using ho'
   rw [hnew, hw q h0]
  ·simp only [upd_other e] at hb
   have hlt := hs.dom id b hb
   rw [List.getElem?_append_left hlt] at ho'
   have g1 := hs.raw id q b ho' hb
   have hbl := hs.lt hb
   simp only [hh, Array.getElem?_push]; rw [if_neg (by omega)]; exact g1
theorem step_push [GlobT] {fl : Nat} {c : Ctx} {w' : World} {ob : Obj} (hs : Sim FT c) (hh : w'.heap = c.w.heap.push ob) (h1 : w'.os = c.w.os) (h2 : w'.tape = c.w.tape) (h3 : w'.output = c.w.output) :
  Step fl c ⟨w', c.X, c.β, c.H⟩ where
 X := rfl
 os := h1
 tape := h2
 output := h3
 size := by simp [hh]
 len := Nat.le_refl _
 frame := fun k hk _ => by simp only [hh, Array.getElem?_push]; rw [if_neg (by omega)]
 img := fun i _ hb => .inr ⟨i, hb⟩
 blkS := fun id s n hs' => ⟨n, hs', Nat.le_refl _, fun _ => ⟨rfl, fun b cs T hb hcs => ⟨cs, by
  have := hs.lt hb
  simp only [hh, Array.getElem?_push]; rw [if_neg (by omega)]; exact hcs, rfl⟩⟩⟩
 mpS := fun id hm => ⟨hm, rfl⟩
 floor := fun id hid => ⟨rfl, rfl, fun b hb => by
  have := hs.lt hb
  simp only [hh, Array.getElem?_push]; rw [if_neg (by omega)]⟩
theorem sim_push [GlobT] {c : Ctx} {w' : World} {ob : Obj} (hs : Sim FT c) (hh : w'.heap = c.w.heap.push ob) (h1 : w'.os = c.w.os) (h2 : w'.tape = c.w.tape) (h3 : w'.output = c.w.output) :
  Sim FT ⟨w', c.X, c.β, c.H⟩ := by
 have hst := step_push (fl := 0) hs hh h1 h2 h3
 refine ⟨hs.gl.step hst, hs.inj, hs.dom, hs.nx, fun k hk => hs.fresh k (by simp only [hh, Array.size_push] at hk; omega), hs.lens, ?_, ?_, fun id q b ho' hb => by
  have g1 := hs.raw id q b ho' hb
  have := hs.lt hb
  simp only [hh, Array.getElem?_push]; rw [if_neg (by omega)]; exact g1⟩
 ·intro id s' es b ho' hb
  obtain ⟨cs, T, g1, g2, g3⟩ := hs.blk id s' es b ho' hb
  refine ⟨cs, T, ?_, g2, fun i j x hx => let ⟨v, k1, k2, k3⟩ := g3 i j x hx; ⟨v, k1, k2, k3.step hst⟩⟩
  have := hs.lt hb
  simp only [hh, Array.getElem?_push]; rw [if_neg (by omega)]; exact g1
 ·intro id ents b ho' hb
  obtain ⟨es, clk, g1, g2, g3⟩ := hs.map id ents b ho' hb
  refine ⟨es, clk, ?_, g2, fun i k x hx => let ⟨e, k1, k2, k3⟩ := g3 i k x hx; ⟨e, k1, k2, k3.step hst⟩⟩
  have := hs.lt hb
  simp only [hh, Array.getElem?_push]; rw [if_neg (by omega)]; exact g1
theorem step_claim [GlobT] {fl : Nat} {c : Ctx} {s : Nat} (hfl : fl ≤ c.H.length) : Step fl c ⟨c.w, c.X, c.β, c.H ++ [.blk s []]⟩ where
 X := rfl
 os := rfl
 tape := rfl
 output := rfl
 size := Nat.le_refl _
 len := by simp
 frame := fun _ _ _ => rfl
 img := fun i _ hb => .inr ⟨i, hb⟩
 blkS := fun id s n hs => ⟨n, shp_append hs, Nat.le_refl _, fun _ => ⟨rfl, fun b cs T _ hcs => ⟨cs, hcs, rfl⟩⟩⟩
 mpS := fun id hm => ⟨isMap_append hm, rfl⟩
 floor := fun id hid => ⟨List.getElem?_append_left (by omega), rfl, fun _ _ => rfl⟩
theorem sim_claim [GlobT] {c : Ctx} {s : Nat} (hs : Sim FT c) : Sim FT ⟨c.w, c.X, c.β, c.H ++ [.blk s []]⟩ := by
 have hst := step_claim (fl := 0) (c := c) (s := s) (Nat.zero_le _)
 refine ⟨hs.gl.step hst, hs.inj, ?_, hs.nx, hs.fresh, ?_, ?_, ?_, fun id q b ho' hb => by
  simp only at ho' hb ⊢
  have hlt := hs.dom id b hb
  rw [List.getElem?_append_left hlt] at ho'
  exact hs.raw id q b ho' hb⟩
 ·intro id b hb
  have := hs.dom id b hb
  simp only [List.length_append, List.length_singleton]; omega
 ·intro id s' es ho'
  simp only at ho'
  rw [List.getElem?_append] at ho'
  split at ho'
  ·exact hs.lens id s' es ho'
  ·rw [List.getElem?_singleton] at ho'
   split at ho'
   ·cases ho'; simp
   ·cases ho'
 ·intro id s' es b ho' hb
  simp only at ho' hb ⊢
  have hlt := hs.dom id b hb
  rw [List.getElem?_append_left hlt] at ho'
  obtain ⟨cs, T, g1, g2, g3⟩ := hs.blk id s' es b ho' hb
  exact ⟨cs, T, g1, g2, fun i j x hx => let ⟨v, k1, k2, k3⟩ := g3 i j x hx; ⟨v, k1, k2, k3.step hst⟩⟩
 ·intro id ents b ho' hb
  simp only at ho' hb ⊢
  have hlt := hs.dom id b hb
  rw [List.getElem?_append_left hlt] at ho'
  obtain ⟨es, clk, g1, g2, g3⟩ := hs.map id ents b ho' hb
  exact ⟨es, clk, g1, g2, fun i k x hx => let ⟨e, k1, k2, k3⟩ := g3 i k x hx; ⟨e, k1, k2, k3.step hst⟩⟩
theorem getElem?_set_ne' {α : Type} {l : List α} {i j : Nat} {a : α} (h : j ≠ i) : (l.set i a)[j]? = l[j]? := by
 rw [List.getElem?_set]; rw [if_neg (fun e => h e.symm)]
theorem getElem?_set_eq' {α : Type} {l : List α} {i : Nat} {a b : α} (h : l[i]? = some b) : (l.set i a)[i]? = some a := by
 have hlt : i < l.length := by
  rcases Nat.lt_or_ge i l.length with h' | h'
  ·exact h'
  ·rw [List.getElem?_eq_none h'] at h; cases h
 rw [List.getElem?_set]; simp [hlt]
theorem shp_set [GlobT] {H : Heap} {id s s' : Nat} {es es' : List (List AV)} (h : H[id]? = some (.blk s es)) (i : Nat) :
  shp (H.set id (.blk s' es')) i = if i = id then some (s', es'.length) else shp H i := by
 by_cases e : i = id
 ·subst e; simp [shp, getElem?_set_eq' h]
 ·simp [shp, getElem?_set_ne' e, e]
theorem step_set [GlobT] {fl : Nat} {c : Ctx} {w' : World} {id b s : Nat} {es es' : List (List AV)} {cs cs' : Array Value} {T : TypeId}
  (hs : Sim FT c) (hfl : fl ≤ id) (ho : c.H[id]? = some (.blk s es)) (hb : c.β id = some b) (hcs : c.w.heap[b]? = some (.cells cs T (0, 0)))
  (hlen : es.length ≤ es'.length) (hsz : cs'.size = cs.size)
  (h0 : w'.heap[b]? = some (.cells cs' T (0, 0))) (hn : ∀ k, k ≠ b → w'.heap[k]? = c.w.heap[k]?) (hz : w'.heap.size = c.w.heap.size)
  (h1 : w'.os = c.w.os) (h2 : w'.tape = c.w.tape) (h3 : w'.output = c.w.output) :
  Step fl c ⟨w', c.X, c.β, c.H.set id (.blk s es')⟩ where
 X := rfl
 os := h1
 tape := h2
 output := h3
 size := by simp [hz]
 len := by simp
 frame := fun k _ hk => hn k (fun e => hk id (by rw [e]; exact hb))
 img := fun i _ h => .inr ⟨i, h⟩
 blkS := fun i s' n hs' => by
  have hsh := shp_set (s' := s) (es' := es') ho i
  by_cases e : i = id
  ·subst e
   have hs0 : s' = s ∧ n = es.length := by
    simp only [shp, ho, Option.some.injEq, Prod.mk.injEq] at hs'; exact ⟨hs'.1.symm, hs'.2.symm⟩
   obtain ⟨rfl, rfl⟩ := hs0
   refine ⟨es'.length, by rw [hsh]; simp, hlen, fun _ => ⟨rfl, fun b' cs0 T0 hb' hc0 => ?_⟩⟩
   rw [hb] at hb'; cases hb'
   rw [hcs] at hc0; cases hc0
   exact ⟨cs', h0, hsz⟩
  ·refine ⟨n, by rw [hsh, if_neg e]; exact hs', Nat.le_refl _, fun _ => ⟨rfl, fun b' cs0 T0 hb' hc0 => ⟨cs0, ?_, rfl⟩⟩⟩
   rw [hn b' (fun eb => e (hs.inj i id b (by rw [← eb]; exact hb') hb))]; exact hc0
 mpS := fun i hm => ⟨by
  obtain ⟨ents, he, hnb⟩ := hm
  have e : i ≠ id := by intro e; subst e; rw [ho] at he; cases he; exact hnb
  exact ⟨ents, by simpa [getElem?_set_ne' e] using he, hnb⟩, rfl⟩
 floor := fun i hi => by
  have e : i ≠ id := by omega
  exact ⟨getElem?_set_ne' e, rfl, fun b' hb' => hn b' (fun eb => e (hs.inj i id b (by rw [← eb]; exact hb') hb))⟩
theorem sim_set [GlobT] {c : Ctx} {w' : World} {id b s : Nat} {es es' : List (List AV)} {cs cs' : Array Value} {T : TypeId}
  (hs : Sim FT c) (ho : c.H[id]? = some (.blk s es)) (hb : c.β id = some b) (hcs : c.w.heap[b]? = some (.cells cs T (0, 0)))
  (hlen : es.length ≤ es'.length) (hsz : cs'.size = cs.size)
  (h0 : w'.heap[b]? = some (.cells cs' T (0, 0))) (hn : ∀ k, k ≠ b → w'.heap[k]? = c.w.heap[k]?) (hz : w'.heap.size = c.w.heap.size)
  (h1 : w'.os = c.w.os) (h2 : w'.tape = c.w.tape) (h3 : w'.output = c.w.output)
  (hl : ∀ e ∈ es', e.length = s) (hfit : es'.length * s ≤ cs'.size)
  (hc : ∀ i j x, cellE es' i j = some x → ∃ v, cs'[i * s + j]? = some v ∧ scalarB v = true ∧ RV FT c x v) :
  Sim FT ⟨w', c.X, c.β, c.H.set id (.blk s es')⟩ := by
 have hst := step_set (fl := 0) hs (Nat.zero_le _) ho hb hcs hlen hsz h0 hn hz h1 h2 h3
 refine ⟨hs.gl.step hst, hs.inj, ?_, hs.nx, fun k hk => hs.fresh k (by simpa [hz] using hk), ?_, ?_, ?_, fun i q b' ho' hb' => by
  simp only at ho' hb' ⊢
  have e : i ≠ id := by intro e; subst e; rw [getElem?_set_eq' ho] at ho'; cases ho'
  rw [getElem?_set_ne' e] at ho'
  have g1 := hs.raw i q b' ho' hb'
  rw [hn b' (fun eb => e (hs.inj i id b (by rw [← eb]; exact hb') hb))]; exact g1⟩
 ·intro i b' hb'
  have := hs.dom i b' hb'
  simpa using this
 ·intro i s' es0 ho'
  simp only at ho'
  by_cases e : i = id
  ·subst e
   rw [getElem?_set_eq' ho] at ho'
   cases ho'
   exact hl
  ·rw [getElem?_set_ne' e] at ho'
   exact hs.lens i s' es0 ho'
 ·intro i s' es0 b' ho' hb'
  simp only at ho' hb' ⊢
  by_cases e : i = id
  ·subst e
   rw [getElem?_set_eq' ho] at ho'
   cases ho'
   rw [hb] at hb'; cases hb'
   exact ⟨cs', T, h0, hfit, fun a d x hx => let ⟨v, k1, k2, k3⟩ := hc a d x hx; ⟨v, k1, k2, k3.step hst⟩⟩
  ·rw [getElem?_set_ne' e] at ho'
   obtain ⟨cs0, T0, g1, g2, g3⟩ := hs.blk i s' es0 b' ho' hb'
   refine ⟨cs0, T0, ?_, g2, fun a d x hx => let ⟨v, k1, k2, k3⟩ := g3 a d x hx; ⟨v, k1, k2, k3.step hst⟩⟩
   rw [hn b' (fun eb => e (hs.inj i id b (by rw [← eb]; exact hb') hb))]; exact g1
 ·intro i ents b' ho' hb'
  simp only at ho' hb' ⊢
  have e : i ≠ id := by intro e; subst e; rw [getElem?_set_eq' ho] at ho'; cases ho'
  rw [getElem?_set_ne' e] at ho'
  obtain ⟨es0, clk, g1, g2, g3⟩ := hs.map i ents b' ho' hb'
  refine ⟨es0, clk, ?_, g2, fun a k x hx => let ⟨en, k1, k2, k3⟩ := g3 a k x hx; ⟨en, k1, k2, k3.step hst⟩⟩
  rw [hn b' (fun eb => e (hs.inj i id b (by rw [← eb]; exact hb') hb))]; exact g1
theorem step_grow [GlobT] {fl : Nat} {c : Ctx} {w' : World} {id s : Nat} {es es' : List (List AV)} {ob : Obj}
  (hs : Sim FT c) (hfl : fl ≤ id) (ho : c.H[id]? = some (.blk s es))
  (hlen : es.length < es'.length) (hh : w'.heap = c.w.heap.push ob)
  (h1 : w'.os = c.w.os) (h2 : w'.tape = c.w.tape) (h3 : w'.output = c.w.output) :
  Step fl c ⟨w', c.X, upd c.β id c.w.heap.size, c.H.set id (.blk s es')⟩ where
 X := rfl
 os := h1
 tape := h2
 output := h3
 size := by simp [hh]
 len := by simp
 frame := fun k hk _ => by simp only [hh, Array.getElem?_push]; rw [if_neg (by omega)]
 img := fun i b h => by
  by_cases e : i = id
  ·subst e; simp only [upd_same] at h; cases h; exact .inl (Nat.le_refl _)
  ·simp only [upd_other e] at h; exact .inr ⟨_, h⟩
 blkS := fun i s' n hs' => by
  have hsh := shp_set (s' := s) (es' := es') ho i
  by_cases e : i = id
  ·subst e
   have hs0 : s' = s ∧ n = es.length := by
    simp only [shp, ho, Option.some.injEq, Prod.mk.injEq] at hs'; exact ⟨hs'.1.symm, hs'.2.symm⟩
   obtain ⟨rfl, rfl⟩ := hs0
   exact ⟨es'.length, by rw [hsh]; simp, Nat.le_of_lt hlen, fun e => by omega⟩
  ·refine ⟨n, by rw [hsh, if_neg e]; exact hs', Nat.le_refl _, fun _ => ⟨upd_other e, fun b' cs0 T0 hb' hc0 => ⟨cs0, ?_, rfl⟩⟩⟩
   have := hs.lt hb'
   simp only [hh, Array.getElem?_push]; rw [if_neg (by omega)]; exact hc0
 mpS := fun i hm => by
  obtain ⟨ents, he, hnb⟩ := hm
  have e : i ≠ id := by intro e; subst e; rw [ho] at he; cases he; exact hnb
  exact ⟨⟨ents, by simpa [getElem?_set_ne' e] using he, hnb⟩, upd_other e⟩
 floor := fun i hi => by
  have e : i ≠ id := by omega
  refine ⟨getElem?_set_ne' e, upd_other e, fun b' hb' => ?_⟩
  have := hs.lt hb'
  simp only [hh, Array.getElem?_push]; rw [if_neg (by omega)]
theorem sim_grow [GlobT] {c : Ctx} {w' : World} {id s : Nat} {es es' : List (List AV)} {cs' : Array Value} {T : TypeId}
  (hs : Sim FT c) (ho : c.H[id]? = some (.blk s es))
  (hlen : es.length < es'.length) (hh : w'.heap = c.w.heap.push (.cells cs' T (0, 0)))
  (h1 : w'.os = c.w.os) (h2 : w'.tape = c.w.tape) (h3 : w'.output = c.w.output)
  (hl : ∀ e ∈ es', e.length = s) (hfit : es'.length * s ≤ cs'.size)
  (hc : ∀ i j x, cellE es' i j = some x → ∃ v, cs'[i * s + j]? = some v ∧ scalarB v = true ∧ RV FT c x v) :
  Sim FT ⟨w', c.X, upd c.β id c.w.heap.size, c.H.set id (.blk s es')⟩ := by
 have hst := step_grow (fl := 0) hs (Nat.zero_le _) ho hlen hh h1 h2 h3
 have hid : id < c.H.length := by
  rcases Nat.lt_or_ge id c.H.length with h | h
  ·exact h
  ·rw [List.getElem?_eq_none h] at ho; cases ho
 refine ⟨hs.gl.step hst, ?_, ?_, ?_, fun k hk => hs.fresh k (by simp only [hh, Array.size_push] at hk; omega), ?_, ?_, ?_, fun i q b' ho' hb' => by
  simp only at ho' hb' ⊢
  have e : i ≠ id := by intro e; subst e; rw [getElem?_set_eq' ho] at ho'; cases ho'
  rw [getElem?_set_ne' e] at ho'
  simp only [upd_other e] at hb'
  have g1 := hs.raw i q b' ho' hb'
  have := hs.lt hb'
  simp only [hh, Array.getElem?_push]; rw [if_neg (by omega)]; exact g1⟩
 ·intro i j b hi hj
  by_cases ei : i = id
  ·by_cases ej : j = id
   ·rw [ei, ej]
   ·subst ei
    simp only [upd_same] at hi
    simp only [upd_other ej] at hj
    cases hi
    have := hs.lt hj
    omega
  ·simp only [upd_other ei] at hi
   by_cases ej : j = id
   ·subst ej
    simp only [upd_same] at hj
    cases hj
    have := hs.lt hi
    omega
   ·simp only [upd_other ej] at hj
    exact hs.inj i j b hi hj
 ·intro i b' hb'
  by_cases e : i = id
  ·subst e; simpa using hid
  ·simp only [upd_other e] at hb'
   have := hs.dom i b' hb'
   simpa using this
 ·intro i b hb
  by_cases e : i = id
  ·subst e
   simp only [upd_same] at hb
   cases hb
   exact hs.fresh _ (Nat.le_refl _)
  ·simp only [upd_other e] at hb
   exact hs.nx i b hb
 ·intro i s' es0 ho'
  simp only at ho'
  by_cases e : i = id
  ·subst e
   rw [getElem?_set_eq' ho] at ho'
   cases ho'
   exact hl
  ·rw [getElem?_set_ne' e] at ho'
   exact hs.lens i s' es0 ho'
 ·intro i s' es0 b' ho' hb'
  simp only at ho' hb' ⊢
  by_cases e : i = id
  ·subst e
   rw [getElem?_set_eq' ho] at ho'
   cases ho'
   simp only [upd_same] at hb'
   cases hb'
   exact ⟨cs', T, by simp [hh], hfit, fun a d x hx => let ⟨v, k1, k2, k3⟩ := hc a d x hx; ⟨v, k1, k2, k3.step hst⟩⟩
  ·rw [getElem?_set_ne' e] at ho'
   simp only [upd_other e] at hb'
   obtain ⟨cs0, T0, g1, g2, g3⟩ := hs.blk i s' es0 b' ho' hb'
   refine ⟨cs0, T0, ?_, g2, fun a d x hx => let ⟨v, k1, k2, k3⟩ := g3 a d x hx; ⟨v, k1, k2, k3.step hst⟩⟩
   have := hs.lt hb'
   simp only [hh, Array.getElem?_push]; rw [if_neg (by omega)]; exact g1
 ·intro i ents b' ho' hb'
  simp only at ho' hb' ⊢
  have e : i ≠ id := by intro e; subst e; rw [getElem?_set_eq' ho] at ho'; cases ho'
  rw [getElem?_set_ne' e] at ho'
  simp only [upd_other e] at hb'
  obtain ⟨es0, clk, g1, g2, g3⟩ := hs.map i ents b' ho' hb'
  refine ⟨es0, clk, ?_, g2, fun a k x hx => let ⟨en, k1, k2, k3⟩ := g3 a k x hx; ⟨en, k1, k2, k3.step hst⟩⟩
  have := hs.lt hb'
  simp only [hh, Array.getElem?_push]; rw [if_neg (by omega)]; exact g1
theorem step_setMap [GlobT] {fl : Nat} {c : Ctx} {w' : World} {id b : Nat} {ents ents' : List (Value × AV)} {ob : Obj}
  (hs : Sim FT c) (hfl : fl ≤ id) (ho : c.H[id]? = some (.mp ents)) (hb : c.β id = some b)
  (hh : w'.heap = c.w.heap.setIfInBounds b ob) (h1 : w'.os = c.w.os) (h2 : w'.tape = c.w.tape) (h3 : w'.output = c.w.output) :
  Step fl c ⟨w', c.X, c.β, c.H.set id (.mp ents')⟩ := by
 have hn : ∀ k, k ≠ b → w'.heap[k]? = c.w.heap[k]? := fun k hk => by
  rw [hh, Array.getElem?_setIfInBounds_ne (Ne.symm hk)]
 refine ⟨rfl, h1, h2, h3, by simp [hh], by simp, fun k _ hk => hn k (fun e => hk id (by rw [e]; exact hb)), fun i _ h => .inr ⟨i, h⟩, ?_, ?_, ?_⟩
 ·intro i s n hs'
  have e : i ≠ id := by intro e; subst e; simp [shp, ho] at hs'
  refine ⟨n, by simpa [shp, getElem?_set_ne' e] using hs', Nat.le_refl _, fun _ => ⟨rfl, fun b' cs0 T0 hb' hc0 => ⟨cs0, ?_, rfl⟩⟩⟩
  exact (hn b' (fun eb => e (hs.inj i id b (by rw [← eb]; exact hb') hb))).trans hc0
 ·intro i hm
  refine ⟨?_, rfl⟩
  by_cases e : i = id
  ·subst e; exact ⟨.mp ents', getElem?_set_eq' ho, trivial⟩
  ·obtain ⟨en, he, hnb⟩ := hm
   exact ⟨en, by simpa [getElem?_set_ne' e] using he, hnb⟩
 ·intro i hi
  have e : i ≠ id := by omega
  exact ⟨getElem?_set_ne' e, rfl, fun b' hb' => hn b' (fun eb => e (hs.inj i id b (by rw [← eb]; exact hb') hb))⟩
theorem sim_setMap [GlobT] {c : Ctx} {w' : World} {id b : Nat} {ents ents' : List (Value × AV)} {es : Array MapEntry} {clk : Nat}
  (hs : Sim FT c) (ho : c.H[id]? = some (.mp ents)) (hb : c.β id = some b)
  (hh : w'.heap = c.w.heap.setIfInBounds b (.map es clk)) (h1 : w'.os = c.w.os) (h2 : w'.tape = c.w.tape) (h3 : w'.output = c.w.output)
  (hsz : es.size = ents'.length)
  (hc : ∀ (i : Nat) (k : Value) (x : AV), ents'[i]? = some (k, x) → ∃ e, es[i]? = some e ∧ e.key = k ∧ RV FT c x e.val) :
  Sim FT ⟨w', c.X, c.β, c.H.set id (.mp ents')⟩ := by
 have hst := step_setMap (fl := 0) (ents' := ents') hs (Nat.zero_le _) ho hb hh h1 h2 h3
 have hn : ∀ k, k ≠ b → w'.heap[k]? = c.w.heap[k]? := fun k hk => by
  rw [hh, Array.getElem?_setIfInBounds_ne (Ne.symm hk)]
 have hbl := hs.lt hb
 refine ⟨hs.gl.step hst, hs.inj, ?_, hs.nx, fun k hk => hs.fresh k (by simpa [hh] using hk), ?_, ?_, ?_, fun i q b' ho' hb' => by
  simp only at ho' hb' ⊢
  have e : i ≠ id := by intro e; subst e; rw [getElem?_set_eq' ho] at ho'; cases ho'
  rw [getElem?_set_ne' e] at ho'
  have g1 := hs.raw i q b' ho' hb'
  rw [hn b' (fun eb => e (hs.inj i id b (by rw [← eb]; exact hb') hb))]; exact g1⟩
 ·intro i b' hb'
  have := hs.dom i b' hb'
  simpa using this
 ·intro i s' es0 ho'
  simp only at ho'
  have e : i ≠ id := by intro e; subst e; rw [getElem?_set_eq' ho] at ho'; cases ho'
  rw [getElem?_set_ne' e] at ho'
  exact hs.lens i s' es0 ho'
 ·intro i s' es0 b' ho' hb'
  simp only at ho' hb' ⊢
  have e : i ≠ id := by intro e; subst e; rw [getElem?_set_eq' ho] at ho'; cases ho'
  rw [getElem?_set_ne' e] at ho'
  obtain ⟨cs0, T0, g1, g2, g3⟩ := hs.blk i s' es0 b' ho' hb'
  refine ⟨cs0, T0, ?_, g2, fun a d x hx => let ⟨v, k1, k2, k3⟩ := g3 a d x hx; ⟨v, k1, k2, k3.step hst⟩⟩
  rw [hn b' (fun eb => e (hs.inj i id b (by rw [← eb]; exact hb') hb))]; exact g1
 ·intro i en b' ho' hb'
  simp only at ho' hb' ⊢
  by_cases e : i = id
  ·subst e
   rw [getElem?_set_eq' ho] at ho'
   cases ho'
   rw [hb] at hb'; cases hb'
   refine ⟨es, clk, by rw [hh]; simp [hbl], hsz, fun a k x hx => let ⟨e, k1, k2, k3⟩ := hc a k x hx; ⟨e, k1, k2, k3.step hst⟩⟩
  ·rw [getElem?_set_ne' e] at ho'
   obtain ⟨es0, clk0, g1, g2, g3⟩ := hs.map i en b' ho' hb'
   refine ⟨es0, clk0, ?_, g2, fun a k x hx => let ⟨en, k1, k2, k3⟩ := g3 a k x hx; ⟨en, k1, k2, k3.step hst⟩⟩
   rw [hn b' (fun eb => e (hs.inj i id b (by rw [← eb]; exact hb') hb))]; exact g1
theorem step_setRaw [GlobT] {fl : Nat} {c : Ctx} {w' : World} {id b : Nat} {q q' : Obj}
  (hs : Sim FT c) (hfl : fl ≤ id) (ho : c.H[id]? = some (.raw q)) (hb : c.β id = some b)
  (hh : w'.heap = c.w.heap.setIfInBounds b q') (h1 : w'.os = c.w.os) (h2 : w'.tape = c.w.tape) (h3 : w'.output = c.w.output) :
  Step fl c ⟨w', c.X, c.β, c.H.set id (.raw q')⟩ := by
 have hn : ∀ k, k ≠ b → w'.heap[k]? = c.w.heap[k]? := fun k hk => by
  rw [hh, Array.getElem?_setIfInBounds_ne (Ne.symm hk)]
 refine ⟨rfl, h1, h2, h3, by simp [hh], by simp, fun k _ hk => hn k (fun e => hk id (by rw [e]; exact hb)), fun i _ h => .inr ⟨i, h⟩, ?_, ?_, ?_⟩
 ·intro i s n hs'
  have e : i ≠ id := by intro e; subst e; simp [shp, ho] at hs'
  refine ⟨n, by simpa [shp, getElem?_set_ne' e] using hs', Nat.le_refl _, fun _ => ⟨rfl, fun b' cs0 T0 hb' hc0 => ⟨cs0, ?_, rfl⟩⟩⟩
  exact (hn b' (fun eb => e (hs.inj i id b (by rw [← eb]; exact hb') hb))).trans hc0
 ·intro i hm
  refine ⟨?_, rfl⟩
  by_cases e : i = id
  ·subst e; exact ⟨.raw q', getElem?_set_eq' ho, trivial⟩
  ·obtain ⟨en, he, hnb⟩ := hm
   exact ⟨en, by simpa [getElem?_set_ne' e] using he, hnb⟩
 ·intro i hi
  have e : i ≠ id := by omega
  exact ⟨getElem?_set_ne' e, rfl, fun b' hb' => hn b' (fun eb => e (hs.inj i id b (by rw [← eb]; exact hb') hb))⟩
theorem sim_setRaw [GlobT] {c : Ctx} {w' : World} {id b : Nat} {q q' : Obj}
  (hs : Sim FT c) (ho : c.H[id]? = some (.raw q)) (hb : c.β id = some b)
  (hh : w'.heap = c.w.heap.setIfInBounds b q') (h1 : w'.os = c.w.os) (h2 : w'.tape = c.w.tape) (h3 : w'.output = c.w.output) :
  Sim FT ⟨w', c.X, c.β, c.H.set id (.raw q')⟩ := by
 have hst := step_setRaw (fl := 0) (q' := q') hs (Nat.zero_le _) ho hb hh h1 h2 h3
 have hn : ∀ k, k ≠ b → w'.heap[k]? = c.w.heap[k]? := fun k hk => by
  rw [hh, Array.getElem?_setIfInBounds_ne (Ne.symm hk)]
 have hbl := hs.lt hb
 refine ⟨hs.gl.step hst, hs.inj, ?_, hs.nx, fun k hk => hs.fresh k (by simpa [hh] using hk), ?_, ?_, ?_, ?_⟩
 ·intro i b' hb'
  have := hs.dom i b' hb'
  simpa using this
 ·intro i s' es0 ho'
  simp only at ho'
  have e : i ≠ id := by intro e; subst e; rw [getElem?_set_eq' ho] at ho'; cases ho'
  rw [getElem?_set_ne' e] at ho'
  exact hs.lens i s' es0 ho'
 ·intro i s' es0 b' ho' hb'
  simp only at ho' hb' ⊢
  have e : i ≠ id := by intro e; subst e; rw [getElem?_set_eq' ho] at ho'; cases ho'
  rw [getElem?_set_ne' e] at ho'
  obtain ⟨cs0, T0, g1, g2, g3⟩ := hs.blk i s' es0 b' ho' hb'
  refine ⟨cs0, T0, ?_, g2, fun a d x hx => let ⟨v, k1, k2, k3⟩ := g3 a d x hx; ⟨v, k1, k2, k3.step hst⟩⟩
  rw [hn b' (fun eb => e (hs.inj i id b (by rw [← eb]; exact hb') hb))]; exact g1
 ·intro i en b' ho' hb'
  simp only at ho' hb' ⊢
  have e : i ≠ id := by intro e; subst e; rw [getElem?_set_eq' ho] at ho'; cases ho'
  rw [getElem?_set_ne' e] at ho'
  obtain ⟨es0, clk0, g1, g2, g3⟩ := hs.map i en b' ho' hb'
  refine ⟨es0, clk0, ?_, g2, fun a k x hx => let ⟨en, k1, k2, k3⟩ := g3 a k x hx; ⟨en, k1, k2, k3.step hst⟩⟩
  rw [hn b' (fun eb => e (hs.inj i id b (by rw [← eb]; exact hb') hb))]; exact g1
 ·intro i q0 b' ho' hb'
  simp only at ho' hb' ⊢
  by_cases e : i = id
  ·subst e
   rw [getElem?_set_eq' ho] at ho'
   cases ho'
   rw [hb] at hb'; cases hb'
   rw [hh]; simp [hbl]
  ·rw [getElem?_set_ne' e] at ho'
   have g1 := hs.raw i q0 b' ho' hb'
   rw [hn b' (fun eb => e (hs.inj i id b (by rw [← eb]; exact hb') hb))]; exact g1
end Go.Proofs.YtmflphfmefakfaaGreatDoor.Av
