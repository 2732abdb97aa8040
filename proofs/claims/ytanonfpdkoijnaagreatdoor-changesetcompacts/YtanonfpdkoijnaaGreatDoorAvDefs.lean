/- A part of the proof of ChangesetCompactsCardSaid: an evaluator of the program, proved sound, and what it says. -/
import Derived.Calls
import Derived.Orders
import Derived.LoopN
import Derived.Below
import Derived.KernelRfl
namespace Go.Proofs.YtanonfpdkoijnaaGreatDoor.Av
open Go

/-- Abstract values. -/
inductive AV where
  | undef
  | lit (v : Value)
  | sl (full : Bool) (es : List (List AV))
  | ms (id tot off len : Nat)
  | ptr (id tot idx off : Nat)
  | rptr (cs : List AV)
  | mp (id : Nat)
  | it (id : Nat)
  | fn (vi : Nat) (caps : List AV)
  | agg (cs : List AV)
  | tup (vs : List AV)
  deriving Inhabited

inductive AObj where
  | blk (s : Nat) (es : List (List AV))
  | mp (ents : List (Value × AV))
  | raw (ob : Obj)
  deriving Inhabited

abbrev Heap := List AObj

structure St where
  tmps : List AV
  heap : Heap

inductive AOpd where
  | tmp (t : Nat)
  | lit (v : Value)
  | agg (vs : List Value)
  | fn (vi : Nat)
  | glob (g : Nat)

/-- What the package variables hold that are never written. -/
class GlobT where
  tab : Nat → Option (List AV)

/-- The operations, with what the tables of types say written out. -/
inductive AOp where
  | mov (x : AOpd)
  | movN (x : AOpd)
  | pick (c a b : AOpd)
  | alloc (z : List Value)
  | claim (s : Nat)
  | allocC (z : List Value) (cl : List (Nat × Nat))
  | box (x : AOpd)
  | build (z : List Value) (parts : List (Nat × Nat × AOpd))
  | buildSl (pu : Bool) (s n : Nat) (z : List Value) (parts : List (Nat × AOpd))
  | load (agg : Bool) (n : Nat) (x : AOpd)
  | store (n : Nat) (x v : AOpd)
  | nilCheck (x : AOpd)
  | ibin (op : BinOp) (x y : AOpd)
  | bin (op : BinOp) (t : TypeId) (x y : AOpd)
  | un (op : UnOp) (x : AOpd)
  | conv (src dst : TypeId) (x : AOpd)
  | fieldAddr (off : Nat) (x : AOpd)
  | field (agg : Bool) (n off : Nat) (x : AOpd)
  | idxAddr (s : Nat) (x i : AOpd)
  | idxArr (s n : Nat) (x i : AOpd)
  | index (agg : Bool) (s n : Nat) (x i : AOpd)
  | strIdx (t : TypeId) (x i : AOpd)
  | slice (s : Nat) (x : AOpd) (lo hi mx : Option AOpd)
  | strSlice (t : TypeId) (x : AOpd) (lo hi : Option AOpd)
  | mkSlice (s : Nat) (z : List Value) (bytes : Nat) (len cap : AOpd)
  | mkMap
  | lookup (kt : TypeId) (z : AOpd) (m k : AOpd) (ok : Bool)
  | mapUpd (kt : TypeId) (m k v : AOpd)
  | lenS (x : AOpd)
  | lenM (x : AOpd)
  | lenStr (t : TypeId) (x : AOpd)
  | lenC (n : Nat)
  | append (s bytes : Nat) (x y : AOpd)
  | appendZ (s bytes : Nat) (z : List Value) (x n : AOpd)
  | copy (s : Nat) (x y : AOpd)
  | delete (kt : TypeId) (m k : AOpd)
  | minmax (mx : Bool) (xs : List AOpd)
  | mkFn (vi : Nat) (caps : List AOpd)
  | call (pu : Bool) (vi : Nat) (args : List AOpd)
  | callv (pu : Bool) (x : AOpd) (args : List AOpd)
  | callF (vi : Nat) (args : List AOpd)
  | callS (vi : Nat) (args : List AOpd)
  | capS (x : AOpd)
  | extract (x : AOpd) (i : Nat)
  | freeze (x : AOpd)
  | rangeStr (x : AOpd)
  | nextStr (x : AOpd)

structure AOper where
  dst : Option Nat
  op : AOp
  guard : Option (Nat × Bool)

inductive ACode where
  | skip
  | region (draw : Bool) (ck : List (Nat × Nat)) (ops : List AOper)
  | seq (a b : ACode)
  | cond (c : AOpd) (a b : ACode)
  | block (id : Nat) (c : ACode)
  | loop (live : Option (List Bool)) (tr : Bool) (c : ACode)
  | exit (id : Nat)
  | ret
  | frz (t : Nat) (c : ACode)
  | mask (lx lr : List Bool) (tr : Bool) (c : ACode)
  | scope (c : ACode)
  | nilIf (t d0 d1 : Nat) (a b : ACode)
  | loopV (live lx lr : List Bool) (t : Nat) (c : ACode)
  | stop

inductive ARes where
  | tmp (t : Nat)
  | cell (t n : Nat) (agg : Bool)

structure AFun where
  fid : Nat
  nt : Nat
  rets : List ARes
  body : ACode

inductive AExit where
  | normal
  | exit (id : Nat)
  | ret

def nilS : Value := .slice none 0 0
def undefV : Value := .tuple #[]

/-- A run of a semantic term that neither reads nor writes the world. -/
def pureRun {α : Type} (P : Program) : Sem α → Option α
  | .pure a => some a
  | .program k => pureRun P (k P)
  | .mark _ k => pureRun P k
  | _ => none

def scalarB : Value → Bool
  | .agg _ => false
  | .tuple _ => false
  | _ => true

def notNil : Value → Bool
  | .nilIface => false
  | _ => true

def cellsOf : AV → Option (List AV)
  | .undef => none
  | .tup _ => none
  | .agg cs => some cs
  | .lit v => if scalarB v then some [.lit v] else none
  | v => some [v]

/-- The one form of a slice that is never written: nil is the empty one, and nothing is known of what lies behind. -/
def nrmV (v : Value) : AV := match v with
  | .slice a l c => match a with
    | none => match l with
      | 0 => match c with
        | 0 => .sl false []
        | _ => .lit v
      | _ => .lit v
    | _ => .lit v
  | _ => .lit v

def nrm : AV → AV
  | .lit v => nrmV v
  | .sl _ es => .sl false es
  | v => v

def nrm2 : AV → AV
  | .agg cs => .agg (cs.map nrm)
  | v => nrm v

/-- What of a cell can stand in memory that is never written again. -/
def toP : AV → AV
  | .lit v => nrmV v
  | .sl _ es => .sl false es
  | _ => .undef

def rd (H : Heap) : AV → Option (List (List AV))
  | .lit (.slice none 0 0) => some []
  | .sl _ es => some es
  | .ms id tot off len =>
    match H[id]? with
    | some (.blk _ es) => if es.length = tot then some ((es.drop off).take len) else none
    | _ => none
  | _ => none

/-- A cell, made memory that is never written again: blocks from number n on are given up. -/
def sealC (H : Heap) (n : Nat) : Nat → AV → AV
  | _, .lit v => nrmV v
  | _, .sl _ es => .sl false es
  | d + 1, .ms id tot off len =>
    if n ≤ id then match rd H (.ms id tot off len) with
      | some es => .sl false (es.map fun e => e.map (sealC H n d))
      | none => .undef
    else .undef
  | _, _ => .undef

def sealDepth : Nat := 6

def seal1 (H : Heap) (n : Nat) : AV → AV
  | .lit v => nrmV v
  | .sl _ es => .sl false es
  | .rptr cs => .rptr cs
  | .ms id tot off len => if id < n then .ms id tot off len else sealC H n sealDepth (.ms id tot off len)
  | .ptr id tot idx off => if id < n then .ptr id tot idx off else .undef
  | .mp id => if id < n then .mp id else .undef
  | .fn vi [] => .fn vi []
  | _ => .undef

def seal2 (H : Heap) (n : Nat) : AV → AV
  | .agg cs => .agg (cs.map (seal1 H n))
  | v => seal1 H n v

def seal3 (H : Heap) (n : Nat) : AV → AV
  | .tup vs => .tup (vs.map (seal2 H n))
  | v => seal2 H n v

def clean1 (n : Nat) : AV → AV
  | .lit v => .lit v
  | .it id => if id < n then .it id else .undef
  | .sl f es => .sl f es
  | .rptr cs => .rptr cs
  | .ms id tot off len => if id < n then .ms id tot off len else .undef
  | .ptr id tot idx off => if id < n then .ptr id tot idx off else .undef
  | .mp id => if id < n then .mp id else .undef
  | .fn vi [] => .fn vi []
  | _ => .undef

def clean2 (n : Nat) : AV → AV
  | .agg cs => .agg (cs.map (clean1 n))
  | v => clean1 n v

def clean3 (n : Nat) : AV → AV
  | .tup vs => .tup (vs.map (clean2 n))
  | v => clean2 n v

def litL : List AV → Option (List Value)
  | [] => some []
  | .lit v :: r => match litL r with | some l => some (v :: l) | none => none
  | _ :: _ => none

def lits : AV → Option Value
  | .lit v => some v
  | .agg cs => match litL cs with | some l => some (.agg l.toArray) | none => none
  | _ => none

def getOpd [GlobT] (tm : List AV) : AOpd → AV
  | .glob g => match GlobT.tab g with | some cs => .rptr cs | none => .undef
  | .tmp t => match tm[t]? with | some v => v | none => .lit undefV
  | .lit v => .lit v
  | .agg vs => .agg (vs.map .lit)
  | .fn vi => .fn vi []

/-- Results without references. -/
def scalT : AV → Bool
  | .lit _ => true
  | .tup vs => vs.all fun v => match v with | .lit _ => true | _ => false
  | _ => false


def ldCells (H : Heap) (x : AV) (n : Nat) : Option (List AV) :=
  match x with
  | .ptr id tot idx off =>
    match H[id]? with
    | some (.blk _ es) =>
      if es.length = tot then
        match es[idx]? with
        | some e => if off + n ≤ e.length then some ((e.drop off).take n) else none
        | none => none
      else none
    | _ => none
  | .rptr cs => if n ≤ cs.length then some (cs.take n) else none
  | _ => none

def splice {α : Type} (e : List α) (off : Nat) (cs : List α) : List α := e.take off ++ (cs ++ e.drop (off + cs.length))

def stCells (fl : Nat) (H : Heap) (x : AV) (cs : List AV) : Option Heap :=
  match x with
  | .ptr id tot idx off =>
    if fl ≤ id then
      match H[id]? with
      | some (.blk s es) =>
        if es.length = tot then
          match es[idx]? with
          | some e => if off + cs.length ≤ e.length then some (H.set id (.blk s (es.set idx (splice e off cs)))) else none
          | none => none
        else none
      | _ => none
    else none
  | _ => none

def ibinV (op : BinOp) (k : IntKind) (a b : Int) : Option Value :=
  match op with
  | .add => some (.int k (k.wrap (a + b)))
  | .sub => some (.int k (k.wrap (a - b)))
  | .mul => some (.int k (k.wrap (a * b)))
  | .eql => some (.bool (a == b))
  | .neq => some (.bool (a != b))
  | .lss => some (.bool (a < b))
  | .leq => some (.bool (a ≤ b))
  | .gtr => some (.bool (a > b))
  | .geq => some (.bool (a ≥ b))
  | _ => none

def fillA (cells : List AV) : List (Nat × Nat × AV) → Option (List AV)
  | [] => some cells
  | (off, size, v) :: rest =>
    match cellsOf v with
    | none => none
    | some cs => if cs.length = size ∧ off + size ≤ cells.length then fillA (splice cells off cs) rest else none

def fillE (s : Nat) (es : List (List AV)) : List (Nat × AV) → Option (List (List AV))
  | [] => some es
  | (i, v) :: rest =>
    match cellsOf v with
    | none => none
    | some cs => if cs.length = s ∧ i < es.length then fillE s (es.set i cs) rest else none

def natOf : AV → Option Nat
  | .lit (.int _ n) => if 0 ≤ n then some n.toNat else none
  | _ => none

def natOpt [GlobT] (tm : List AV) : Option AOpd → Option (Option Nat)
  | none => some none
  | some x => match natOf (getOpd tm x) with | some n => some (some n) | none => none

def allLen (s : Nat) (es : List (List AV)) : Bool := es.all fun e => e.length == s

/-- Which entry has a key? -/
def findA (P : Program) (kt : TypeId) (k : Value) (ents : List (Value × AV)) : Option (Option Nat) :=
  match pureRun P (Instr.findKey kt k (ents.map fun e => { key := e.1, val := .bool false, born := 0 })) with
  | some (some (i, _)) => some (some i)
  | some none => some none
  | none => none

def headLen (s : Nat) : List (List AV) → Bool
  | [] => true
  | e :: _ => e.length == s

def sliceA (H : Heap) (s : Nat) (x : AV) (lo hi mx : Option Nat) : Option AV :=
  match x with
  | .lit (.slice none 0 0) => if lo.getD 0 = 0 ∧ hi.getD 0 = 0 ∧ mx.getD 0 = 0 ∧ (mx.isSome → hi.isSome) then some (.lit nilS) else none
  | .sl f es =>
    match mx with
    | none =>
      let h := hi.getD es.length
      let l := lo.getD 0
      if l ≤ h ∧ h ≤ es.length ∧ headLen s es = true then some (.sl (f && h == es.length) ((es.take h).drop l)) else none
    | some m =>
      match hi with
      | none => none
      | some h =>
        let l := lo.getD 0
        if l ≤ h ∧ h ≤ m ∧ m ≤ es.length ∧ headLen s es = true then some (.sl (h == m) ((es.take h).drop l)) else none
  | .ms id tot off len =>
    match mx with
    | none =>
      let h := hi.getD len
      let l := lo.getD 0
      match H[id]? with
      | some (.blk s' _) => if l ≤ h ∧ h ≤ len ∧ s' = s then some (.ms id tot (off + l) (h - l)) else none
      | _ => none
    | some m =>
      match hi with
      | none => none
      | some h =>
        let l := lo.getD 0
        if l = h ∧ h = m ∧ m ≤ len then some (.sl true []) else none
  | _ => none

def room (n bytes : Nat) : Bool := n * bytes ≤ 2 ^ 40 && n ≤ 2 ^ 40

def appendA (fl : Nat) (H : Heap) (s bytes : Nat) (x : AV) (ys : List (List AV)) : Option (AV × Heap) :=
  if allLen s ys = true ∧ 0 < s ∧ room ys.length bytes = true then
    match x with
    | .lit (.slice none 0 0) =>
      if ys.length = 0 then some (x, H) else some (.ms H.length ys.length 0 ys.length, H ++ [.blk s ys])
    | .sl f es =>
      if ys.length = 0 then some (x, H)
      else if f = true ∧ allLen s es = true ∧ room (es.length + ys.length) bytes = true then
        some (.ms H.length (es.length + ys.length) 0 (es.length + ys.length), H ++ [.blk s (es ++ ys)])
      else none
    | .ms id tot off len =>
      match H[id]? with
      | some (.blk s' es) =>
        if s' = s ∧ es.length = tot ∧ room (tot + ys.length) bytes = true then
          if ys.length = 0 then some (x, H)
          else if fl ≤ id then
            if off = 0 ∧ len = tot then
              some (.ms id (tot + ys.length) 0 (tot + ys.length), H.set id (.blk s (es ++ ys)))
            else if off + len + ys.length ≤ tot then
              some (.ms id tot off (len + ys.length), H.set id (.blk s (splice es (off + len) ys)))
            else none
          else none
        else none
      | _ => none
    | _ => none
  else none

def claimCells (n : Nat) (cs : List AV) : List (Nat × Nat) → List AV
  | [] => cs
  | (o, _) :: r => claimCells (n + 1) (cs.set o (.ms n 0 0 0)) r

/-- What does not speak of objects. -/
def plain1 : AV → Bool
  | .undef => true
  | .lit _ => true
  | .sl _ _ => true
  | .rptr _ => true
  | .fn _ [] => true
  | _ => false

def plainL : List AV → Bool
  | [] => true
  | x :: r => match plain1 x with | true => plainL r | false => false

def plain2 : AV → Bool
  | .agg cs => plainL cs
  | v => plain1 v

def plainAll : List AV → Bool
  | [] => true
  | x :: r => match plain2 x with | true => plainAll r | false => false

section
variable (P : Program) (cf : Nat → Nat → List AV → Heap → Option (AV × Heap)) (fl : Nat)

def callA (pu : Bool) (vi : Nat) (args : List AV) (H : Heap) : Option (AV × Heap) :=
  match pu with
  | true =>
    match plainAll args with
    | true =>
      match cf 0 vi (args.map nrm2) [] with
      | some (r, H') => some (seal3 H' 0 r, H)
      | none => none
    | false =>
      match cf H.length vi (args.map nrm2) H with
      | some (r, H') => some (seal3 H' H.length r, H)
      | none => none
  | false => cf fl vi args H

def evOp [GlobT] (op : AOp) (tm : List AV) (H : Heap) : Option (AV × Heap) :=
  match op with
  | .mov x => some (getOpd tm x, H)
  | .movN x => some (nrm2 (getOpd tm x), H)
  | .pick c a b => match getOpd tm c with
    | .lit (.bool t) => some (if t then getOpd tm a else getOpd tm b, H)
    | _ => none
  | .alloc z => some (.ptr H.length 1 0 0, H ++ [.blk z.length [z.map .lit]])
  | .claim s => some (.ms H.length 0 0 0, H ++ [.blk s []])
  | .allocC z cl => some (.ptr (H.length + cl.length) 1 0 0,
      (H ++ cl.map fun c => .blk c.2 []) ++ [.blk z.length [claimCells H.length (z.map .lit) cl]])
  | .box x => match cellsOf (getOpd tm x) with
    | some cs => some (.ptr H.length 1 0 0, H ++ [.blk cs.length [cs]])
    | none => none
  | .build z parts => match fillA (z.map .lit) (parts.map fun (o, s, x) => (o, s, getOpd tm x)) with
    | some cs => some (.agg cs, H)
    | none => none
  | .buildSl pu s n z parts => match fillE s (List.replicate n (z.map .lit)) (parts.map fun (i, x) => (i, getOpd tm x)) with
    | some es => if pu then some (.sl true (es.map fun e => e.map toP), H) else some (.ms H.length n 0 n, H ++ [.blk s es])
    | none => none
  | .load agg n x => match ldCells H (getOpd tm x) n with
    | some cs => if agg then some (.agg cs, H) else match cs with
      | [c] => some (c, H)
      | _ => none
    | none => none
  | .store n x v => match cellsOf (getOpd tm v) with
    | some cs => if cs.length = n then match stCells fl H (getOpd tm x) cs with
        | some H' => some (.lit undefV, H')
        | none => none
      else none
    | none => none
  | .nilCheck x => match getOpd tm x with
    | .ptr .. => some (getOpd tm x, H)
    | .rptr _ => some (getOpd tm x, H)
    | .fn .. => some (getOpd tm x, H)
    | _ => none
  | .ibin op x y => match getOpd tm x, getOpd tm y with
    | .lit (.int k a), .lit (.int k' b) => if k = k' then match ibinV op k a b with
        | some v => some (.lit v, H)
        | none => none
      else none
    | _, _ => none
  | .bin op t x y => match lits (getOpd tm x), lits (getOpd tm y) with
    | some v, some u => match (if notNil v then pureRun P (eqGuard op t (.tmp 0) (.tmp 0) v u) else none) with
      | some _ => match pureRun P (binOp op t v u) with
        | some r => some (.lit r, H)
        | none => none
      | none => none
    | _, _ => none
  | .un op x => match getOpd tm x with
    | .lit v => match pureRun P (Op.unary op v) with
      | some r => some (.lit r, H)
      | none => none
    | _ => none
  | .conv src dst x => match getOpd tm x with
    | .lit v => match pureRun P (convert src dst v) with
      | some r => some (.lit r, H)
      | none => none
    | _ => none
  | .fieldAddr off x => match getOpd tm x with
    | .ptr id tot idx o => some (.ptr id tot idx (o + off), H)
    | .rptr cs => some (.rptr (cs.drop off), H)
    | _ => none
  | .field agg n off x => match getOpd tm x with
    | .agg cs => if off + n ≤ cs.length then
        if agg then some (.agg ((cs.drop off).take n), H) else match (cs.drop off).take n with
          | [c] => some (c, H)
          | _ => none
      else none
    | _ => none
  | .idxAddr s x i => match natOf (getOpd tm i) with
    | some i => match getOpd tm x with
      | .sl _ es => match es[i]? with
        | some e => if e.length = s then some (.rptr e, H) else none
        | none => none
      | .ms id tot off len => match H[id]? with
        | some (.blk s' es) => if s' = s ∧ es.length = tot ∧ i < len then some (.ptr id tot (off + i) 0, H) else none
        | _ => none
      | _ => none
    | none => none
  | .idxArr s n x i => match natOf (getOpd tm i) with
    | some i => if i < n then match getOpd tm x with
        | .ptr id tot idx o => some (.ptr id tot idx (o + i * s), H)
        | .rptr cs => some (.rptr (cs.drop (i * s)), H)
        | _ => none
      else none
    | none => none
  | .index agg s n x i => match natOf (getOpd tm i) with
    | some i => if i < n then match getOpd tm x with
        | .agg cs => if i * s + s ≤ cs.length then
            if agg then some (.agg ((cs.drop (i * s)).take s), H) else match (cs.drop (i * s)).take s with
              | [c] => some (c, H)
              | _ => none
          else none
        | _ => none
      else none
    | none => none
  | .strIdx t x i => match getOpd tm x, getOpd tm i with
    | .lit v, .lit u => match pureRun P (Instr.index t v u) with
      | some r => some (.lit r, H)
      | none => none
    | _, _ => none
  | .slice s x lo hi mx => match natOpt tm lo, natOpt tm hi, natOpt tm mx with
    | some lo, some hi, some mx => match sliceA H s (getOpd tm x) lo hi mx with
      | some v => some (v, H)
      | none => none
    | _, _, _ => none
  | .strSlice _ x lo hi => match getOpd tm x, natOpt tm lo, natOpt tm hi with
    | .lit (.string s), some lo, some hi =>
      if lo.getD 0 ≤ hi.getD s.size ∧ hi.getD s.size ≤ s.size then some (.lit (.string (s.extract (lo.getD 0) (hi.getD s.size))), H) else none
    | _, _, _ => none
  | .mkSlice s z bytes len cap => match natOf (getOpd tm len), natOf (getOpd tm cap) with
    | some l, some c => if l ≤ c ∧ c * bytes ≤ 2 ^ 40 ∧ c ≤ 2 ^ 40 ∧ z.length = s then
        some (.ms H.length l 0 l, H ++ [.blk s (List.replicate l (z.map .lit))]) else none
    | _, _ => none
  | .mkMap => some (.mp H.length, H ++ [.mp []])
  | .lookup kt z m k ok => match lits (getOpd tm k) with
    | some kv =>
      let r (ents : List (Value × AV)) : Option (AV × Heap) :=
        match pureRun P (Instr.checkKey ents.isEmpty 10000 kt kv), findA P kt kv ents with
        | some _, some (some i) => match ents[i]? with
          | some e => some (if ok then .tup [e.2, .lit (.bool true)] else e.2, H)
          | none => none
        | some _, some none => some (if ok then .tup [getOpd tm z, .lit (.bool false)] else getOpd tm z, H)
        | _, _ => none
      match getOpd tm m with
      | .lit (.map none) => r []
      | .mp id => match H[id]? with
        | some (.mp ents) => r ents
        | _ => none
      | _ => none
    | none => none
  | .mapUpd kt m k v => match lits (getOpd tm k), getOpd tm m with
    | some kv, .mp id => if fl ≤ id then match H[id]? with
        | some (.mp ents) => match pureRun P (Instr.checkKey false 10000 kt kv), findA P kt kv ents with
          | some _, some (some i) => match ents[i]? with
            | some e => if Instr.sameBits 10000 e.1 kv then some (.lit undefV, H.set id (.mp (ents.set i (kv, getOpd tm v)))) else none
            | none => none
          | some _, some none => some (.lit undefV, H.set id (.mp (ents ++ [(kv, getOpd tm v)])))
          | _, _ => none
        | _ => none
      else none
    | _, _ => none
  | .lenS x => match getOpd tm x with
    | .lit (.slice none 0 0) => some (.lit (.int .i64 0), H)
    | .sl _ es => some (.lit (.int .i64 es.length), H)
    | .ms _ _ _ len => some (.lit (.int .i64 len), H)
    | _ => none
  | .lenM x => match getOpd tm x with
    | .lit (.map none) => some (.lit (.int .i64 0), H)
    | .mp id => match H[id]? with
      | some (.mp ents) => some (.lit (.int .i64 ents.length), H)
      | _ => none
    | _ => none
  | .lenStr t x => match getOpd tm x with
    | .lit v => match pureRun P (Builtin.len_ #[t] 0 #[v]) with
      | some r => some (.lit r, H)
      | none => none
    | _ => none
  | .lenC n => some (.lit (.int .i64 n), H)
  | .append s bytes x y => match rd H (getOpd tm y) with
    | some ys => appendA fl H s bytes (getOpd tm x) ys
    | none => none
  | .appendZ s bytes z x n => match natOf (getOpd tm n) with
    | some n => if z.length = s ∧ n ≤ 2 ^ 20 ∧ n * bytes ≤ 2 ^ 40 then appendA fl H s bytes (getOpd tm x) (List.replicate n (z.map .lit)) else none
    | none => none
  | .copy s x y => match rd H (getOpd tm y) with
    | some ys => if allLen s ys = true ∧ 0 < s then match getOpd tm x with
        | .ms id tot off len => match H[id]? with
          | some (.blk s' es) => if s' = s ∧ es.length = tot ∧ ys.length ≤ len ∧ fl ≤ id then (if ys.length = 0 then some (.lit (.int .i64 0), H) else some (.lit (.int .i64 ys.length), H.set id (.blk s (splice es off ys)))) else none
          | _ => none
        | _ => none
      else none
    | none => none
  | .delete kt m k => match lits (getOpd tm k), getOpd tm m with
    | some kv, .mp id => if fl ≤ id then match H[id]? with
        | some (.mp ents) => match pureRun P (Instr.checkKey ents.isEmpty 10000 kt kv), findA P kt kv ents with
          | some _, some (some i) => some (.lit undefV, H.set id (.mp (ents.eraseIdx i)))
          | some _, some none => some (.lit undefV, H)
          | _, _ => none
        | _ => none
      else none
    | _, _ => none
  | .minmax mx xs => match litL (xs.map (getOpd tm)) with
    | some vs => match pureRun P (if mx then Builtin.max_ #[] 0 vs.toArray else Builtin.min_ #[] 0 vs.toArray) with
      | some r => some (.lit r, H)
      | none => none
    | none => none
  | .mkFn vi caps => some (.fn vi (caps.map (getOpd tm)), H)
  | .call pu vi args => callA cf fl pu vi (args.map (getOpd tm)) H
  | .callv pu x args => match getOpd tm x with
    | .fn vi caps => callA cf fl pu vi (args.map (getOpd tm) ++ caps) H
    | _ => none
  | .callF vi args => cf H.length vi (args.map (getOpd tm)) H
  | .callS vi args => match cf 0 vi ((args.map (getOpd tm)).map (seal2 H 0)) [] with
    | some (r, H') => match scalT (seal3 H' 0 r) with
      | true => some (seal3 H' 0 r, H)
      | false => none
    | none => none
  | .capS x => match getOpd tm x with
    | .lit (.slice none 0 0) => some (.lit (.int .i64 0), H)
    | .sl true es => some (.lit (.int .i64 es.length), H)
    | _ => none
  | .extract x i => match getOpd tm x with
    | .tup vs => match vs[i]? with
      | some v => some (v, H)
      | none => none
    | _ => none
  | .rangeStr x => match getOpd tm x with
    | .lit (.string s) => some (.it H.length, H ++ [.raw (.stringIter s 0)])
    | _ => none
  | .nextStr x => match getOpd tm x with
    | .it id => if fl ≤ id then match H[id]? with
        | some (.raw (.stringIter s pos)) => if pos < s.size then some (.tup [.lit (.bool true), .lit (.int .i64 pos), .lit (.int .i32 (Utf8.decode s pos).1)], H.set id (.raw (.stringIter s (pos + (Utf8.decode s pos).2)))) else some (.tup [.lit (.bool false)], H)
        | _ => none
      else none
    | _ => none
  | .freeze x => match getOpd tm x with
    | .ms id tot off len => if fl ≤ id then match H[id]? with
        | some (.blk s es) => if es.length = tot then some (.sl false (((es.drop off).take len).map fun e => e.map toP), H.set id (.blk s (es ++ [List.replicate s .undef]))) else none
        | _ => none
      else none
    | v => some (v, H)

def putA (tm : List AV) (d : Option Nat) (v : AV) : List AV :=
  match d with
  | some d => tm.set d v
  | none => tm

def wantA [GlobT] (tm : List AV) (g : Option (Nat × Bool)) : Option Bool :=
  match g with
  | none => some true
  | some (t, want) => match getOpd tm (.tmp t) with
    | .lit (.bool b) => some (b == want)
    | .lit _ => some false
    | _ => none

def evOper [GlobT] (o : AOper) (st : St) : Option St :=
  match wantA st.tmps o.guard with
  | some true => match evOp P cf fl o.op st.tmps st.heap with
    | some (v, H) => some ⟨putA st.tmps o.dst v, H⟩
    | none => none
  | some false => some ⟨putA st.tmps o.dst (.lit undefV), st.heap⟩
  | none => none
end

def objOf : AV → Option Nat
  | .ptr id _ _ _ => some id
  | .ms id _ _ _ => some id
  | .mp id => some id
  | _ => none

/-- Which object does an operation that leaves all objects alone look at? -/
def stableAt [GlobT] (op : AOp) (tm : List AV) : Option (Option Nat) :=
  match op with
  | .load _ _ x => some (objOf (getOpd tm x))
  | .idxAddr _ x _ => some (objOf (getOpd tm x))
  | .slice _ x _ _ _ => some (objOf (getOpd tm x))
  | .lookup _ _ m _ _ => some (objOf (getOpd tm m))
  | .lenM x => some (objOf (getOpd tm x))
  | .call true _ args => match plainAll (args.map (getOpd tm)) with
    | true => some none
    | false => none
  | .callS _ args => match plainAll (args.map (getOpd tm)) with
    | true => some none
    | false => none
  | .callv true x args => match getOpd tm x with
    | .fn _ caps => match plainAll (args.map (getOpd tm) ++ caps) with
      | true => some none
      | false => none
    | _ => none
  | _ => none

/-- Does an operation, among n objects, leave one of them alone? -/
def keepsA [GlobT] (op : AOp) (tm : List AV) (n id : Nat) : Bool :=
  match op with
  | .alloc _ => Nat.blt id n
  | .claim _ => Nat.blt id n
  | .allocC _ _ => Nat.blt id n
  | .box _ => Nat.blt id n
  | .buildSl _ _ _ _ _ => Nat.blt id n
  | .mkSlice _ _ _ _ _ => Nat.blt id n
  | .mkMap => Nat.blt id n
  | .callF _ _ => Nat.blt id n
  | .store _ x _ => match getOpd tm x with
    | .ptr i _ _ _ => !Nat.beq i id
    | _ => false
  | .append _ _ x _ => match getOpd tm x with
    | .ms i _ _ _ => !Nat.beq i id
    | _ => Nat.blt id n
  | .mapUpd _ m _ _ => match getOpd tm m with
    | .mp i => !Nat.beq i id
    | _ => false
  | _ => false

def ckOne [GlobT] (ops : List AOper) (l : List St) (k m : Nat) : Bool :=
  match ops[k]? with
  | some ok => match l[k]? with
    | some sk => match wantA sk.tmps ok.guard with
      | some false => true
      | _ => match stableAt ok.op sk.tmps with
        | some none => true
        | some (some id) => match ops[m]? with
          | some om => match l[m]? with
            | some sm => match wantA sm.tmps om.guard with
              | some false => true
              | _ => keepsA om.op sm.tmps sm.heap.length id
            | none => false
          | none => false
        | none => false
    | none => false
  | none => false

def ckAll [GlobT] (ops : List AOper) (l : List St) : List (Nat × Nat) → Bool
  | [] => true
  | (k, m) :: r => match ckOne ops l k m with
    | true => ckAll ops l r
    | false => false

section
variable (P : Program) (cf : Nat → Nat → List AV → Heap → Option (AV × Heap))

/-- The operations in the order of the text. -/
def evOps [GlobT] (fl : Nat) : List AOper → St → Option St
  | [], st => some st
  | o :: r, st => match evOper P cf fl o st with
    | some st => evOps fl r st
    | none => none

/-- The states before the operations, and the last one. -/
def evOpsL [GlobT] (fl : Nat) : List AOper → St → Option (List St)
  | [], st => some [st]
  | o :: r, st => match evOper P cf fl o st with
    | some st1 => match evOpsL fl r st1 with
      | some l => some (st :: l)
      | none => none
    | none => none

def evReg [GlobT] (fl : Nat) (ck : List (Nat × Nat)) (ops : List AOper) (st : St) : Option St := match ck with
  | [] => evOps P cf fl ops st
  | c :: r => match evOpsL P cf fl ops st with
    | some l => match ckAll ops l (c :: r) with
      | true => l.getLast?
      | false => none
    | none => none

def maskL : List Bool → List AV → List AV
  | b :: bs, v :: vs => (if b then v else .undef) :: maskL bs vs
  | [], vs => vs.map fun _ => .undef
  | _, [] => []

def cleanObj (n : Nat) : AObj → AObj
  | .blk s es => .blk s (es.map fun e => e.map (clean1 n))
  | .mp ents => .mp (ents.map fun e => (e.1, clean2 n e.2))
  | .raw ob => .raw ob

def maskO (live : Option (List Bool)) (tm : List AV) : List AV := match live with | some l => maskL l tm | none => tm

/-- At the head of a round: dead temporaries are forgotten, and the objects that the round before has made. -/
def headSt (live : Option (List Bool)) (tr : Bool) (fl n : Nat) (st : St) : St :=
  if tr then ⟨(maskO live st.tmps).map (clean3 n), st.heap.take fl ++ ((st.heap.take n).drop fl).map (cleanObj n)⟩ else ⟨maskO live st.tmps, st.heap⟩

/-- What a piece of code leaves, without what nobody reads. -/
def maskR (lx lr : List Bool) (tr : Bool) (fl n : Nat) : Option (AExit × St) → Option (AExit × St)
  | some (x, st) => match x with
    | .ret => some (.ret, ⟨maskL lr st.tmps, st.heap⟩)
    | .normal => some (.normal, headSt (some lx) tr fl n st)
    | .exit i => some (.exit i, headSt (some lx) tr fl n st)
  | none => none

/-- The slice of a temporary is given a place of its own behind all objects. -/
def ownSt [GlobT] (fl t : Nat) (st : St) : Option St :=
  match getOpd st.tmps (.tmp t) with
  | .ms id tot off len => if fl ≤ id then match st.heap[id]? with
      | some (.blk s es) => if es.length = tot then some ⟨st.tmps.set t (.ms st.heap.length tot off len), st.heap.set id (.blk s (es ++ [List.replicate s .undef])) ++ [.blk s es]⟩ else none
      | _ => none
    else none
  | _ => none

/-- The head of a round that keeps the object of a temporary's slice, at one place. -/
def headV [GlobT] (live : List Bool) (t fl n : Nat) (st : St) : St :=
  match getOpd st.tmps (.tmp t) with
  | .ms id tot off len => if n ≤ id then match st.heap[id]? with
      | some (.blk s es) => ⟨((maskL live st.tmps).map (clean3 n)).set t (.ms n tot off len), (st.heap.take fl ++ ((st.heap.take n).drop fl).map (cleanObj n)) ++ [cleanObj n (.blk s es)]⟩
      | _ => headSt (some live) true fl n st
    else headSt (some live) true fl n st
  | _ => headSt (some live) true fl n st

def maskV [GlobT] (lx lr : List Bool) (t fl n : Nat) : Option (AExit × St) → Option (AExit × St)
  | some (x, st) => match x with
    | .ret => some (.ret, ⟨maskL lr st.tmps, st.heap⟩)
    | .normal => some (.normal, headV lx t fl n st)
    | .exit i => some (.exit i, headV lx t fl n st)
  | none => none

/-- What is known of a slice's being nil: 0 nil, 1 not nil, 2 empty, 3 nothing. -/
def nilK (H : Heap) : AV → Nat
  | .lit v => match v with
    | .slice a l c => match a with
      | none => match l with
        | 0 => match c with
          | 0 => 0
          | _ => 3
        | _ => 3
      | _ => 3
    | _ => 3
  | .sl _ es => match es with
    | [] => 2
    | _ :: _ => 1
  | .ms id tot _ len => match len with
    | 0 => 3
    | _ + 1 => match H[id]? with
      | some (.blk _ es) => match Nat.beq es.length tot with
        | true => 1
        | false => 3
      | _ => 3
  | _ => 3

def empA : AV → Bool
  | .lit v => match v with
    | .slice a l c => match a with
      | none => match l with
        | 0 => match c with
          | 0 => true
          | _ => false
        | _ => false
      | _ => false
    | _ => false
  | .sl _ es => match es with
    | [] => true
    | _ :: _ => false
  | _ => false

def join1 (x y : AV) : AV := match empA x with
  | true => match empA y with
    | true => .sl false []
    | false => .undef
  | false => .undef

def joinL : List AV → List AV → List AV
  | x :: r, y :: s => join1 x y :: joinL r s
  | _, _ => []

def notNormal : Option (AExit × St) → Option (AExit × St)
  | some (x, st) => match x with
    | .normal => none
    | x => some (x, st)
  | none => none

def joinR (H : Heap) : Option (AExit × St) → Option (AExit × St) → Option (AExit × St)
  | some (.ret, sa), some (.ret, sb) => match Nat.beq sa.tmps.length sb.tmps.length with
    | true => some (.ret, ⟨joinL sa.tmps sb.tmps, H⟩)
    | false => none
  | _, _ => none

def nilTm [GlobT] (tm : List AV) (t d0 d1 : Nat) (b : Bool) : List AV := (tm.set d0 (getOpd tm (.tmp t))).set d1 (.lit (.bool b))

def evLoop (head : St → St) (step : St → Option (AExit × St)) : Nat → St → Option (AExit × St)
  | 0, _ => none
  | n + 1, st => match step (head st) with
    | some (.normal, st) => evLoop head step n st
    | r => r

def evC [GlobT] (lf fl : Nat) : ACode → St → Option (AExit × St)
  | .skip, st => some (.normal, st)
  | .region _ ck ops, st => match evReg P cf fl ck ops st with
    | some st => some (.normal, st)
    | none => none
  | .seq a b, st => match evC lf fl a st with
    | some (.normal, st) => evC lf fl b st
    | r => r
  | .cond c a b, st => match getOpd st.tmps c with
    | .lit (.bool true) => evC lf fl a st
    | .lit (.bool false) => evC lf fl b st
    | _ => none
  | .block id c, st => match evC lf fl c st with
    | some (.exit i, st) => if i = id then some (.normal, st) else some (.exit i, st)
    | r => r
  | .loop live tr c, st => evLoop (headSt live tr fl st.heap.length) (fun st => evC lf fl c st) lf st
  | .exit id, st => some (.exit id, st)
  | .ret, st => some (.ret, st)
  | .frz t c, st => match evOp P cf fl (.freeze (.tmp t)) st.tmps st.heap with
    | some (v, H) => evC lf fl c ⟨st.tmps.set t v, H⟩
    | none => none
  | .mask lx lr tr c, st => maskR lx lr tr fl st.heap.length (evC lf fl c st)
  | .scope c, st => evC lf fl c st
  | .nilIf t d0 d1 a b, st => match (Nat.blt d0 st.tmps.length && Nat.blt d1 st.tmps.length) with
    | true => match nilK st.heap (getOpd st.tmps (.tmp t)) with
      | 0 => notNormal (evC lf fl a ⟨nilTm st.tmps t d0 d1 true, st.heap⟩)
      | 1 => evC lf fl b ⟨nilTm st.tmps t d0 d1 false, st.heap⟩
      | 2 => match Nat.beq fl st.heap.length with
        | true => joinR st.heap (evC lf fl a ⟨nilTm st.tmps t d0 d1 true, st.heap⟩) (evC lf fl b ⟨nilTm st.tmps t d0 d1 false, st.heap⟩)
        | false => none
      | _ => none
    | false => none
  | .loopV live lx lr t c, st => match ownSt fl t st with
    | some st1 => maskV lx lr t fl st.heap.length (evLoop (headV live t fl st.heap.length) (fun st => evC lf fl c st) lf st1)
    | none => none
  | .stop, _ => none
end

def evRet [GlobT] (st : St) : ARes → Option AV
  | .tmp t => some (getOpd st.tmps (.tmp t))
  | .cell t n agg => match ldCells st.heap (getOpd st.tmps (.tmp t)) n with
    | some cs => if agg then some (.agg cs) else match cs with
      | [c] => some c
      | _ => none
    | none => none

def packA : List AV → AV
  | [v] => v
  | vs => .tup vs

def retsA [GlobT] (st : St) : List ARes → Option (List AV)
  | [] => some []
  | r :: rs => match evRet st r with
    | some v => match retsA st rs with
      | some vs => some (v :: vs)
      | none => none
    | none => none

def evF [GlobT] (P : Program) (T : List AFun) : Nat → Nat → Nat → List AV → Heap → Option (AV × Heap)
  | 0, _, _, _, _ => none
  | n + 1, fl, vi, args, H =>
    match T[vi]? with
    | none => none
    | some F =>
      match evC P (evF P T n) n fl F.body ⟨args ++ List.replicate (F.nt - args.length) (.lit undefV), H⟩ with
      | some (.normal, st) => match retsA st F.rets with
        | some vs => some (packA vs, st.heap)
        | none => none
      | some (.ret, st) => match retsA st F.rets with
        | some vs => some (packA vs, st.heap)
        | none => none
      | _ => none

end Go.Proofs.YtanonfpdkoijnaaGreatDoor.Av
