/- A part of the proofs of laws of the chapter office: an evaluator of the program, proved sound, and what it says. -/
import Derived.Calls
import Derived.Orders
import Derived.LoopN
import Derived.Below
import Derived.KernelRfl
import Derived.Laws.CopyRow
import Derived.Laws.AppendOwn
import Derived.Laws.Entries
set_option linter.unusedVariables false
set_option linter.unusedSimpArgs false
namespace Go.Proofs.YtkdnaejhpcibnaaGreatDoor.Av
open Go
inductive AV where
 | undef
 | lit (v : Value)
 | sl (full : Bool) (es : List (List AV))
 | ms (id tot off len : Nat)
 | ptr (id tot idx off : Nat)
 | rptr (cs : List AV)
 | mp (id : Nat)
 | it (id : Nat)
 | fn (vi : Nat) (caps : List AV)
 | agg (cs : List AV)
 | tup (vs : List AV)
 deriving Inhabited
inductive AObj where
 | blk (s : Nat) (es : List (List AV))
 | mp (ents : List (Value × AV))
 | raw (ob : Obj)
 deriving Inhabited
abbrev Heap:=List AObj
structure St where
 tmps : List AV
 heap : Heap
inductive AOpd where
 | tmp (t : Nat)
 | lit (v : Value)
 | agg (vs : List Value)
 | fn (vi : Nat)
 | glob (g : Nat)
class GlobT where
 tab : Nat → Option (List AV)
 ok : Nat → Array Value → Prop:=fun _ _ => True
 prim : Nat → Option (Nat → List AV → Heap → Option (AV × Heap)):=fun _ => none
inductive AOp where
 | mov (x : AOpd)
 | movN (x : AOpd)
 | pick (c a b : AOpd)
 | alloc (z : List Value)
 | claim (s : Nat)
 | allocC (z : List Value) (cl : List (Nat × Nat))
 | box (x : AOpd)
 | build (z : List Value) (parts : List (Nat × Nat × AOpd))
 | buildSl (pu : Bool) (s n : Nat) (z : List Value) (parts : List (Nat × AOpd))
 | load (agg : Bool) (n : Nat) (x : AOpd)
 | store (n : Nat) (x v : AOpd)
 | nilCheck (x : AOpd)
 | ibin (op : BinOp) (x y : AOpd)
 | bin (op : BinOp) (t : TypeId) (x y : AOpd)
 | un (op : UnOp) (x : AOpd)
 | conv (src dst : TypeId) (x : AOpd)
 | fieldAddr (off : Nat) (x : AOpd)
 | field (agg : Bool) (n off : Nat) (x : AOpd)
 | idxAddr (s : Nat) (x i : AOpd)
 | idxArr (s n : Nat) (x i : AOpd)
 | index (agg : Bool) (s n : Nat) (x i : AOpd)
 | strIdx (t : TypeId) (x i : AOpd)
 | slice (s : Nat) (x : AOpd) (lo hi mx : Option AOpd)
 | strSlice (t : TypeId) (x : AOpd) (lo hi : Option AOpd)
 | mkSlice (s : Nat) (z : List Value) (bytes : Nat) (len cap : AOpd)
 | mkMap
 | lookup (kt : TypeId) (z : AOpd) (m k : AOpd) (ok : Bool)
 | mapUpd (kt : TypeId) (m k v : AOpd)
 | lenS (x : AOpd)
 | lenM (x : AOpd)
 | lenStr (t : TypeId) (x : AOpd)
 | lenC (n : Nat)
 | append (s bytes : Nat) (x y : AOpd)
 | appendZ (s bytes : Nat) (z : List Value) (x n : AOpd)
 | copy (s : Nat) (x y : AOpd)
 | delete (kt : TypeId) (m k : AOpd)
 | minmax (mx : Bool) (xs : List AOpd)
 | mkFn (vi : Nat) (caps : List AOpd)
 | call (pu : Bool) (vi : Nat) (args : List AOpd)
 | callv (pu : Bool) (x : AOpd) (args : List AOpd)
 | callF (vi : Nat) (args : List AOpd)
 | callS (vi : Nat) (args : List AOpd)
 | capS (x : AOpd)
 | extract (x : AOpd) (i : Nat)
 | freeze (x : AOpd)
 | loadF (n k : Nat) (x : AOpd)
 | appendP (s bytes : Nat) (x y : AOpd)
 | rangeStr (x : AOpd)
 | nextStr (x : AOpd)
structure AOper where
 dst : Option Nat
 op : AOp
 guard : Option (Nat × Bool)
inductive ACode where
 | skip
 | region (draw : Bool) (ck : List (Nat × Nat)) (ops : List AOper)
 | seq (a b : ACode)
 | cond (c : AOpd) (a b : ACode)
 | block (id : Nat) (c : ACode)
 | loop (live : Option (List Bool)) (tr : Bool) (c : ACode)
 | exit (id : Nat)
 | ret
 | frz (t : Nat) (c : ACode)
 | mask (lx lr : List Bool) (tr : Bool) (c : ACode)
 | scope (c : ACode)
 | nilIf (t d0 d1 : Nat) (a b : ACode)
 | loopV (live lx lr : List Bool) (t : Nat) (c : ACode)
 | stop
inductive ARes where
 | tmp (t : Nat)
 | cell (t n : Nat) (agg : Bool)
structure AFun where
 fid : Nat
 nt : Nat
 rets : List ARes
 body : ACode
inductive AExit where
 | normal
 | exit (id : Nat)
 | ret
def nilS : Value:=.slice none 0 0
def lI : Value:=.tuple #[]
def kM {α : Type} (P : Program) : Sem α → Option α
 | .pure a => some a
 | .program k => kM P (k P)
 | .mark _ k => kM P k
 | _ => none
def lB : Value → Bool
 | .agg _ => false
 | .tuple _ => false
 | _ => true
def qS : Value → Bool
 | .nilIface => false
 | _ => true
def cellsOf : AV → Option (List AV)
 | .undef => none
 | .tup _ => none
 | .agg cs => some cs
 | .lit v => if lB v then some [.lit v] else none
 | v => some [v]
def nrmV (v : Value) : AV:=match v with
 | .slice a l c => match a with
  | none => match l with
   | 0 => match c with
    | 0 => .sl false []
    | _ => .lit v
   | _ => .lit v
  | _ => .lit v
 | _ => .lit v
def nrm : AV → AV
 | .lit v => nrmV v
 | .sl _ es => .sl false es
 | v => v
def nrm2 : AV → AV
 | .agg cs => .agg (cs.map nrm)
 | v => nrm v
def toP : AV → AV
 | .lit v => nrmV v
 | .sl _ es => .sl false es
 | _ => .undef
def rd (H : Heap) : AV → Option (List (List AV))
 | .lit (.slice none 0 0) => some []
 | .sl _ es => some es
 | .ms id tot off len =>
  match H[id]? with
  | some (.blk _ es) => if es.length = tot then some ((es.drop off).take len) else none
  | _ => none
 | _ => none
def rJ (H : Heap) (n : Nat) : Nat → AV → AV
 | _,.lit v => nrmV v
 | _,.sl _ es => .sl false es
 | d + 1,.ms id tot off len =>
  if n ≤ id then match rd H (.ms id tot off len) with
   | some es => .sl false (es.map fun e => e.map (rJ H n d))
   | none => .undef
  else .undef
 | _,_ => .undef
def vY : Nat:=6
def mV (H : Heap) (n : Nat) : AV → AV
 | .lit v => nrmV v
 | .sl _ es => .sl false es
 | .rptr cs => .rptr cs
 | .ms id tot off len => if id < n then .ms id tot off len else rJ H n vY (.ms id tot off len)
 | .ptr id tot idx off => if id < n then .ptr id tot idx off else .undef
 | .mp id => if id < n then .mp id else .undef
 | .fn vi [] => .fn vi []
 | _ => .undef
def pA (H : Heap) (n : Nat) : AV → AV
 | .agg cs => .agg (cs.map (mV H n))
 | v => mV H n v
def nW (H : Heap) (n : Nat) : AV → AV
 | .tup vs => .tup (vs.map (pA H n))
 | v => pA H n v
def aCt (n : Nat) : AV → AV
 | .lit v => .lit v
 | .it id => if id < n then .it id else .undef
 | .sl f es => .sl f es
 | .rptr cs => .rptr cs
 | .ms id tot off len => if id < n then .ms id tot off len else .undef
 | .ptr id tot idx off => if id < n then .ptr id tot idx off else .undef
 | .mp id => if id < n then .mp id else .undef
 | .fn vi [] => .fn vi []
 | _ => .undef
def uW (n : Nat) : AV → AV
 | .fn vi caps => .fn vi (caps.map (aCt n))
 | v => aCt n v
def zA (n : Nat) : AV → AV
 | .agg cs => .agg (cs.map (uW n))
 | v => uW n v
def aD1 (n : Nat) : AV → AV
 | .tup vs => .tup (vs.map (zA n))
 | v => zA n v
def litL : List AV → Option (List Value)
 | [] => some []
 | .lit v :: r => match litL r with | some l => some (v :: l) | none => none
 | _ :: _ => none
def lits : AV → Option Value
 | .lit v => some v
 | .agg cs => match litL cs with | some l => some (.agg l.toArray) | none => none
 | _ => none
def kG [GlobT] (tm : List AV) : AOpd → AV
 | .glob g => match GlobT.tab g with | some cs => .rptr cs | none => .undef
 | .tmp t => match tm[t]? with | some v => v | none => .lit lI
 | .lit v => .lit v
 | .agg vs => .agg (vs.map .lit)
 | .fn vi => .fn vi []
def aHx : AV → Bool
 | .lit _ => true
 | .tup vs => vs.all fun v => match v with | .lit _ => true | _ => false
 | _ => false
def oD (H : Heap) (x : AV) (n : Nat) : Option (List AV) :=
 match x with
 | .ptr id tot idx off =>
  match H[id]? with
  | some (.blk _ es) =>
   if es.length = tot then
    match es[idx]? with
    | some e => if off + n ≤ e.length then some ((e.drop off).take n) else none
    | none => none
   else none
  | _ => none
 | .rptr cs => if n ≤ cs.length then some (cs.take n) else none
 | _ => none
def lG {α : Type} (e : List α) (off : Nat) (cs : List α) : List α:=e.take off ++ (cs ++ e.drop (off + cs.length))
def vA (fl : Nat) (H : Heap) (x : AV) (cs : List AV) : Option Heap :=
 match x with
 | .ptr id tot idx off =>
  if fl ≤ id then
   match H[id]? with
   | some (.blk s es) =>
    if es.length = tot then
     match es[idx]? with
     | some e => if off + cs.length ≤ e.length then some (H.set id (.blk s (es.set idx (lG e off cs)))) else none
     | none => none
    else none
   | _ => none
  else none
 | _ => none
def aLt (op : BinOp) (k : IntKind) (a b : Int) : Option Value :=
 match op with
 | .add => some (.int k (k.wrap (a + b)))
 | .sub => some (.int k (k.wrap (a - b)))
 | .mul => some (.int k (k.wrap (a * b)))
 | .eql => some (.bool (a == b))
 | .neq => some (.bool (a != b))
 | .lss => some (.bool (a < b))
 | .leq => some (.bool (a ≤ b))
 | .gtr => some (.bool (a > b))
 | .geq => some (.bool (a ≥ b))
 | _ => none
def aIx (cells : List AV) : List (Nat × Nat × AV) → Option (List AV)
 | [] => some cells
 | (off,size,v) :: rest =>
  match cellsOf v with
  | none => none
  | some cs => if cs.length = size ∧ off + size ≤ cells.length then aIx (lG cells off cs) rest else none
def aA2 (s : Nat) (es : List (List AV)) : List (Nat × AV) → Option (List (List AV))
 | [] => some es
 | (i,v) :: rest =>
  match cellsOf v with
  | none => none
  | some cs => if cs.length = s ∧ i < es.length then aA2 s (es.set i cs) rest else none
def oI : AV → Option Nat
 | .lit (.int _ n) => if 0 ≤ n then some n.toNat else none
 | _ => none
def nY [GlobT] (tm : List AV) : Option AOpd → Option (Option Nat)
 | none => some none
 | some x => match oI (kG tm x) with | some n => some (some n) | none => none
def pG (s : Nat) (es : List (List AV)) : Bool:=es.all fun e => e.length == s
def uY : List (List AV) → Option (List Int)
 | [] => some []
 | e :: r => match e with
  | [.lit (.int .u8 n)] => match uY r with
   | some l => some (n :: l)
   | none => none
  | _ => none
def uM (ns : List Int) : ByteArray:=ns.foldl (fun r n => r.push (UInt8.ofNat n.toNat)) ByteArray.empty
def aEx (P : Program) (src dst : TypeId) : Bool:=match P.underlying src with
 | some (.slice e) => match P.underlying e with
  | some (.int .u8) => match P.underlying dst with
   | some .string => true
   | _ => false
  | _ => false
 | _ => false
def pT (P : Program) (kt : TypeId) (k : Value) (ents : List (Value × AV)) : Option (Option Nat) :=
 match kM P (Instr.findKey kt k (ents.map fun e => { key:=e.1,val:=.bool false,born:=0 })) with
 | some (some (i,_)) => some (some i)
 | some none => some none
 | none => none
def vL (s : Nat) : List (List AV) → Bool
 | [] => true
 | e :: _ => e.length == s
def uN (H : Heap) (s : Nat) (x : AV) (lo hi mx : Option Nat) : Option AV :=
 match x with
 | .lit (.slice none 0 0) => if lo.getD 0 = 0 ∧ hi.getD 0 = 0 ∧ mx.getD 0 = 0 ∧ (mx.isSome → hi.isSome) then some (.lit nilS) else none
 | .sl f es =>
  match mx with
  | none =>
   let h:=hi.getD es.length
   let l:=lo.getD 0
   if l ≤ h ∧ h ≤ es.length ∧ vL s es = true then some (.sl (f && h == es.length) ((es.take h).drop l)) else none
  | some m =>
   match hi with
   | none => none
   | some h =>
    let l:=lo.getD 0
    if l ≤ h ∧ h ≤ m ∧ m ≤ es.length ∧ vL s es = true then some (.sl (h == m) ((es.take h).drop l)) else none
 | .ms id tot off len =>
  match mx with
  | none =>
   let h:=hi.getD len
   let l:=lo.getD 0
   match H[id]? with
   | some (.blk s' _) => if l ≤ h ∧ h ≤ len ∧ s' = s then some (.ms id tot (off + l) (h - l)) else none
   | _ => none
  | some m =>
   match hi with
   | none => none
   | some h =>
    let l:=lo.getD 0
    if l = h ∧ h = m ∧ m ≤ len then some (.sl true []) else none
 | _ => none
def room (n bytes : Nat) : Bool:=n * bytes ≤ 2 ^ 40 && n ≤ 2 ^ 40
def lW (fl : Nat) (H : Heap) (s bytes : Nat) (x : AV) (ys : List (List AV)) : Option (AV × Heap) :=
 if pG s ys = true ∧ 0 < s ∧ room ys.length bytes = true then
  match x with
  | .lit (.slice none 0 0) =>
   if ys.length = 0 then some (x,H) else some (.ms H.length ys.length 0 ys.length,H ++ [.blk s ys])
  | .sl f es =>
   if ys.length = 0 then some (x,H)
   else if f = true ∧ pG s es = true ∧ room (es.length + ys.length) bytes = true then
    some (.ms H.length (es.length + ys.length) 0 (es.length + ys.length),H ++ [.blk s (es ++ ys)])
   else none
  | .ms id tot off len =>
   match H[id]? with
   | some (.blk s' es) =>
    if s' = s ∧ es.length = tot ∧ room (tot + ys.length) bytes = true then
     if ys.length = 0 then some (x,H)
     else if fl ≤ id then
      if off = 0 ∧ len = tot then
       some (.ms id (tot + ys.length) 0 (tot + ys.length),H.set id (.blk s (es ++ ys)))
      else if off + len + ys.length ≤ tot then
       some (.ms id tot off (len + ys.length),H.set id (.blk s (lG es (off + len) ys)))
      else none
     else none
    else none
   | _ => none
  | _ => none
 else none
def aQe : AV → Option (List (List AV))
 | .lit (.slice none 0 0) => some []
 | .sl _ ys => some ys
 | _ => none
def appP (s bytes : Nat) (x y : AV) : Option AV:=match x with
 | .sl f es => match f with
  | true => match es with
   | [] => match aQe y with
    | some ys => if pG s ys = true ∧ 0 < s ∧ room ys.length bytes = true then some (.sl false (ys.map fun e => e.map toP)) else none
    | none => none
   | _ :: _ => none
  | false => none
 | _ => none
def nT (n : Nat) (cs : List AV) : List (Nat × Nat) → List AV
 | [] => cs
 | (o,_) :: r => nT (n + 1) (cs.set o (.ms n 0 0 0)) r
def aDf : AV → Bool
 | .undef => true
 | .lit _ => true
 | .sl _ _ => true
 | .rptr _ => true
 | .fn _ [] => true
 | _ => false
def aJh : List AV → Bool
 | [] => true
 | x :: r => match aDf x with | true => aJh r | false => false
def aAh : AV → Bool
 | .agg cs => aJh cs
 | v => aDf v
def mW : List AV → Bool
 | [] => true
 | x :: r => match aAh x with | true => mW r | false => false
section
variable (P : Program) (cf : Nat → Nat → List AV → Heap → Option (AV × Heap)) (fl : Nat)
def nH (pu : Bool) (vi : Nat) (args : List AV) (H : Heap) : Option (AV × Heap) :=
 match pu with
 | true =>
  match mW args with
  | true =>
   match cf 0 vi (args.map nrm2) [] with
   | some (r,H') => some (nW H' 0 r,H)
   | none => none
  | false =>
   match cf H.length vi (args.map nrm2) H with
   | some (r,H') => some (nW H' H.length r,H)
   | none => none
 | false => cf fl vi args H
def evOp [GlobT] (op : AOp) (tm : List AV) (H : Heap) : Option (AV × Heap) :=
 match op with
 | .mov x => some (kG tm x,H)
 | .movN x => some (nrm2 (kG tm x),H)
 | .pick c a b => match kG tm c with
  | .lit (.bool t) => some (if t then kG tm a else kG tm b,H)
  | _ => none
 | .alloc z => some (.ptr H.length 1 0 0,H ++ [.blk z.length [z.map .lit]])
 | .claim s => some (.ms H.length 0 0 0,H ++ [.blk s []])
 | .allocC z cl => some (.ptr (H.length + cl.length) 1 0 0,
   (H ++ cl.map fun c => .blk c.2 []) ++ [.blk z.length [nT H.length (z.map .lit) cl]])
 | .box x => match cellsOf (kG tm x) with
  | some cs => some (.ptr H.length 1 0 0,H ++ [.blk cs.length [cs]])
  | none => none
 | .build z parts => match aIx (z.map .lit) (parts.map fun (o,s,x) => (o,s,kG tm x)) with
  | some cs => some (.agg cs,H)
  | none => none
 | .buildSl pu s n z parts => match aA2 s (List.replicate n (z.map .lit)) (parts.map fun (i,x) => (i,kG tm x)) with
  | some es => if pu then some (.sl true (es.map fun e => e.map toP),H) else some (.ms H.length n 0 n,H ++ [.blk s es])
  | none => none
 | .load agg n x => match oD H (kG tm x) n with
  | some cs => if agg then some (.agg cs,H) else match cs with
   | [c] => some (c,H)
   | _ => none
  | none => none
 | .store n x v => match cellsOf (kG tm v) with
  | some cs => if cs.length = n then match vA fl H (kG tm x) cs with
    | some H' => some (.lit lI,H')
    | none => none
   else none
  | none => none
 | .nilCheck x => match kG tm x with
  | .ptr .. => some (kG tm x,H)
  | .rptr _ => some (kG tm x,H)
  | .fn .. => some (kG tm x,H)
  | _ => none
 | .ibin op x y => match kG tm x,kG tm y with
  | .lit (.int k a),.lit (.int k' b) => if k = k' then match aLt op k a b with
    | some v => some (.lit v,H)
    | none => none
   else none
  | _,_ => none
 | .bin op t x y => match lits (kG tm x),lits (kG tm y) with
  | some v,some u => match (if qS v then kM P (eqGuard op t (.tmp 0) (.tmp 0) v u) else none) with
   | some _ => match kM P (binOp op t v u) with
    | some r => some (.lit r,H)
    | none => none
   | none => none
  | _,_ => none
 | .un op x => match kG tm x with
  | .lit v => match kM P (Op.unary op v) with
   | some r => some (.lit r,H)
   | none => none
  | _ => none
 | .conv src dst x => match kG tm x with
  | .lit v => match kM P (convert src dst v) with
   | some r => some (.lit r,H)
   | none => none
  | .sl _ es => match aEx P src dst with
   | true => match uY es with
    | some ns => some (.lit (.string (uM ns)),H)
    | none => none
   | false => none
  | _ => none
 | .fieldAddr off x => match kG tm x with
  | .ptr id tot idx o => some (.ptr id tot idx (o + off),H)
  | .rptr cs => some (.rptr (cs.drop off),H)
  | _ => none
 | .field agg n off x => match kG tm x with
  | .agg cs => if off + n ≤ cs.length then
    if agg then some (.agg ((cs.drop off).take n),H) else match (cs.drop off).take n with
     | [c] => some (c,H)
     | _ => none
   else none
  | _ => none
 | .idxAddr s x i => match oI (kG tm i) with
  | some i => match kG tm x with
   | .sl _ es => match es[i]? with
    | some e => if e.length = s then some (.rptr e,H) else none
    | none => none
   | .ms id tot off len => match H[id]? with
    | some (.blk s' es) => if s' = s ∧ es.length = tot ∧ i < len then some (.ptr id tot (off + i) 0,H) else none
    | _ => none
   | _ => none
  | none => none
 | .idxArr s n x i => match oI (kG tm i) with
  | some i => if i < n then match kG tm x with
    | .ptr id tot idx o => some (.ptr id tot idx (o + i * s),H)
    | .rptr cs => some (.rptr (cs.drop (i * s)),H)
    | _ => none
   else none
  | none => none
 | .index agg s n x i => match oI (kG tm i) with
  | some i => if i < n then match kG tm x with
    | .agg cs => if i * s + s ≤ cs.length then
      if agg then some (.agg ((cs.drop (i * s)).take s),H) else match (cs.drop (i * s)).take s with
       | [c] => some (c,H)
       | _ => none
     else none
    | _ => none
   else none
  | none => none
 | .strIdx t x i => match kG tm x,kG tm i with
  | .lit v,.lit u => match kM P (Instr.index t v u) with
   | some r => some (.lit r,H)
   | none => none
  | _,_ => none
 | .slice s x lo hi mx => match nY tm lo,nY tm hi,nY tm mx with
  | some lo,some hi,some mx => match uN H s (kG tm x) lo hi mx with
   | some v => some (v,H)
   | none => none
  | _,_,_ => none
 | .strSlice _ x lo hi => match kG tm x,nY tm lo,nY tm hi with
  | .lit (.string s),some lo,some hi =>
   if lo.getD 0 ≤ hi.getD s.size ∧ hi.getD s.size ≤ s.size then some (.lit (.string (s.extract (lo.getD 0) (hi.getD s.size))),H) else none
  | _,_,_ => none
 | .mkSlice s z bytes len cap => match oI (kG tm len),oI (kG tm cap) with
  | some l,some c => if l ≤ c ∧ c * bytes ≤ 2 ^ 40 ∧ c ≤ 2 ^ 40 ∧ z.length = s then
    some (.ms H.length l 0 l,H ++ [.blk s (List.replicate l (z.map .lit))]) else none
  | _,_ => none
 | .mkMap => some (.mp H.length,H ++ [.mp []])
 | .lookup kt z m k ok => match lits (kG tm k) with
  | some kv =>
   let r (ents : List (Value × AV)) : Option (AV × Heap) :=
    match kM P (Instr.checkKey ents.isEmpty 10000 kt kv),pT P kt kv ents with
    | some _,some (some i) => match ents[i]? with
     | some e => some (if ok then .tup [e.2,.lit (.bool true)] else e.2,H)
     | none => none
    | some _,some none => some (if ok then .tup [kG tm z,.lit (.bool false)] else kG tm z,H)
    | _,_ => none
   match kG tm m with
   | .lit (.map none) => r []
   | .mp id => match H[id]? with
    | some (.mp ents) => r ents
    | _ => none
   | _ => none
  | none => none
 | .mapUpd kt m k v => match lits (kG tm k),kG tm m with
  | some kv,.mp id => if fl ≤ id then match H[id]? with
    | some (.mp ents) => match kM P (Instr.checkKey false 10000 kt kv),pT P kt kv ents with
     | some _,some (some i) => match ents[i]? with
      | some e => if Instr.sameBits 10000 e.1 kv then some (.lit lI,H.set id (.mp (ents.set i (kv,kG tm v)))) else none
      | none => none
     | some _,some none => some (.lit lI,H.set id (.mp (ents ++ [(kv,kG tm v)])))
     | _,_ => none
    | _ => none
   else none
  | _,_ => none
 | .lenS x => match kG tm x with
  | .lit (.slice none 0 0) => some (.lit (.int .i64 0),H)
  | .sl _ es => some (.lit (.int .i64 es.length),H)
  | .ms _ _ _ len => some (.lit (.int .i64 len),H)
  | _ => none
 | .lenM x => match kG tm x with
  | .lit (.map none) => some (.lit (.int .i64 0),H)
  | .mp id => match H[id]? with
   | some (.mp ents) => some (.lit (.int .i64 ents.length),H)
   | _ => none
  | _ => none
 | .lenStr t x => match kG tm x with
  | .lit v => match kM P (Builtin.len_ #[t] 0 #[v]) with
   | some r => some (.lit r,H)
   | none => none
  | _ => none
 | .lenC n => some (.lit (.int .i64 n),H)
 | .append s bytes x y => match rd H (kG tm y) with
  | some ys => lW fl H s bytes (kG tm x) ys
  | none => none
 | .appendZ s bytes z x n => match oI (kG tm n) with
  | some n => if z.length = s ∧ n ≤ 2 ^ 20 ∧ n * bytes ≤ 2 ^ 40 then lW fl H s bytes (kG tm x) (List.replicate n (z.map .lit)) else none
  | none => none
 | .copy s x y => match rd H (kG tm y) with
  | some ys => if pG s ys = true ∧ 0 < s then match kG tm x with
    | .ms id tot off len => match H[id]? with
     | some (.blk s' es) => if s' = s ∧ es.length = tot ∧ ys.length ≤ len ∧ fl ≤ id then (if ys.length = 0 then some (.lit (.int .i64 0),H) else some (.lit (.int .i64 ys.length),H.set id (.blk s (lG es off ys)))) else none
     | _ => none
    | _ => none
   else none
  | none => none
 | .delete kt m k => match lits (kG tm k),kG tm m with
  | some kv,.mp id => if fl ≤ id then match H[id]? with
    | some (.mp ents) => match kM P (Instr.checkKey ents.isEmpty 10000 kt kv),pT P kt kv ents with
     | some _,some (some i) => some (.lit lI,H.set id (.mp (ents.eraseIdx i)))
     | some _,some none => some (.lit lI,H)
     | _,_ => none
    | _ => none
   else none
  | _,_ => none
 | .minmax mx xs => match litL (xs.map (kG tm)) with
  | some vs => match kM P (if mx then Builtin.max_ #[] 0 vs.toArray else Builtin.min_ #[] 0 vs.toArray) with
   | some r => some (.lit r,H)
   | none => none
  | none => none
 | .mkFn vi caps => some (.fn vi (caps.map (kG tm)),H)
 | .call pu vi args => nH cf fl pu vi (args.map (kG tm)) H
 | .callv pu x args => match kG tm x with
  | .fn vi caps => nH cf fl pu vi (args.map (kG tm) ++ caps) H
  | _ => none
 | .callF vi args => cf H.length vi (args.map (kG tm)) H
 | .callS vi args => match cf 0 vi ((args.map (kG tm)).map (pA H 0)) [] with
  | some (r,H') => match aHx (nW H' 0 r) with
   | true => some (nW H' 0 r,H)
   | false => none
  | none => none
 | .capS x => match kG tm x with
  | .lit (.slice none 0 0) => some (.lit (.int .i64 0),H)
  | .sl true es => some (.lit (.int .i64 es.length),H)
  | _ => none
 | .extract x i => match kG tm x with
  | .tup vs => match vs[i]? with
   | some v => some (v,H)
   | none => none
  | _ => none
 | .rangeStr x => match kG tm x with
  | .lit (.string s) => some (.it H.length,H ++ [.raw (.stringIter s 0)])
  | _ => none
 | .nextStr x => match kG tm x with
  | .it id => if fl ≤ id then match H[id]? with
    | some (.raw (.stringIter s pos)) => if pos < s.size then some (.tup [.lit (.bool true),.lit (.int .i64 pos),.lit (.int .i32 (Utf8.decode s pos).1)],H.set id (.raw (.stringIter s (pos + (Utf8.decode s pos).2)))) else some (.tup [.lit (.bool false)],H)
    | _ => none
   else none
  | _ => none
 | .freeze x => match kG tm x with
  | .ms id tot off len => if fl ≤ id then match H[id]? with
    | some (.blk s es) => if es.length = tot then some (.sl false (((es.drop off).take len).map fun e => e.map toP),H.set id (.blk s (es ++ [List.replicate s .undef]))) else none
    | _ => none
   else none
  | v => some (v,H)
 | .appendP s bytes x y => match appP s bytes (kG tm x) (kG tm y) with
  | some v => some (v,H)
  | none => none
 | .loadF n k x => match oD H (kG tm x) n with
  | some cs => match cs[k]? with
   | some (.ms id tot off len) => if fl ≤ id then match H[id]? with
     | some (.blk s es) => if es.length = tot then some (.agg (cs.set k (.sl false (((es.drop off).take len).map fun e => e.map toP))),H.set id (.blk s (es ++ [List.replicate s .undef]))) else none
     | _ => none
    else none
   | some _ => some (.agg cs,H)
   | none => none
  | none => none
def putA (tm : List AV) (d : Option Nat) (v : AV) : List AV :=
 match d with
 | some d => tm.set d v
 | none => tm
def oL [GlobT] (tm : List AV) (g : Option (Nat × Bool)) : Option Bool :=
 match g with
 | none => some true
 | some (t,want) => match kG tm (.tmp t) with
  | .lit (.bool b) => some (b == want)
  | .lit _ => some false
  | _ => none
def mB [GlobT] (o : AOper) (st : St) : Option St :=
 match oL st.tmps o.guard with
 | some true => match evOp P cf fl o.op st.tmps st.heap with
  | some (v,H) => some ⟨putA st.tmps o.dst v,H⟩
  | none => none
 | some false => some ⟨putA st.tmps o.dst (.lit lI),st.heap⟩
 | none => none
end
def aH7 : AV → Option Nat
 | .ptr id _ _ _ => some id
 | .ms id _ _ _ => some id
 | .mp id => some id
 | _ => none
def mP [GlobT] (op : AOp) (tm : List AV) : Option (Option Nat) :=
 match op with
 | .load _ _ x => some (aH7 (kG tm x))
 | .idxAddr _ x _ => some (aH7 (kG tm x))
 | .slice _ x _ _ _ => some (aH7 (kG tm x))
 | .lookup _ _ m _ _ => some (aH7 (kG tm m))
 | .lenM x => some (aH7 (kG tm x))
 | .call true _ args => match mW (args.map (kG tm)) with
  | true => some none
  | false => none
 | .callS _ args => match mW (args.map (kG tm)) with
  | true => some none
  | false => none
 | .callv true x args => match kG tm x with
  | .fn _ caps => match mW (args.map (kG tm) ++ caps) with
   | true => some none
   | false => none
  | _ => none
 | _ => none
def aDk [GlobT] (op : AOp) (tm : List AV) (n id : Nat) : Bool :=
 match op with
 | .alloc _ => Nat.blt id n
 | .claim _ => Nat.blt id n
 | .allocC _ _ => Nat.blt id n
 | .box _ => Nat.blt id n
 | .buildSl _ _ _ _ _ => Nat.blt id n
 | .mkSlice _ _ _ _ _ => Nat.blt id n
 | .mkMap => Nat.blt id n
 | .callF _ _ => Nat.blt id n
 | .store _ x _ => match kG tm x with
  | .ptr i _ _ _ => !Nat.beq i id
  | _ => false
 | .append _ _ x _ => match kG tm x with
  | .ms i _ _ _ => !Nat.beq i id
  | _ => Nat.blt id n
 | .mapUpd _ m _ _ => match kG tm m with
  | .mp i => !Nat.beq i id
  | _ => false
 | _ => false
def aVu [GlobT] (ops : List AOper) (l : List St) (k m : Nat) : Bool :=
 match ops[k]? with
 | some ok => match l[k]? with
  | some sk => match oL sk.tmps ok.guard with
   | some false => true
   | _ => match mP ok.op sk.tmps with
    | some none => true
    | some (some id) => match ops[m]? with
     | some om => match l[m]? with
      | some sm => match oL sm.tmps om.guard with
       | some false => true
       | _ => aDk om.op sm.tmps sm.heap.length id
      | none => false
     | none => false
    | none => false
  | none => false
 | none => false
def aL8 [GlobT] (ops : List AOper) (l : List St) : List (Nat × Nat) → Bool
 | [] => true
 | (k,m) :: r => match aVu ops l k m with
  | true => aL8 ops l r
  | false => false
section
variable (P : Program) (cf : Nat → Nat → List AV → Heap → Option (AV × Heap))
def oP [GlobT] (fl : Nat) : List AOper → St → Option St
 | [],st => some st
 | o :: r,st => match mB P cf fl o st with
  | some st => oP fl r st
  | none => none
def pX [GlobT] (fl : Nat) : List AOper → St → Option (List St)
 | [],st => some [st]
 | o :: r,st => match mB P cf fl o st with
  | some st1 => match pX fl r st1 with
   | some l => some (st :: l)
   | none => none
  | none => none
def sP [GlobT] (fl : Nat) (ck : List (Nat × Nat)) (ops : List AOper) (st : St) : Option St:=match ck with
 | [] => oP P cf fl ops st
 | c :: r => match pX P cf fl ops st with
  | some l => match aL8 ops l (c :: r) with
   | true => l.getLast?
   | false => none
  | none => none
def sO : List Bool → List AV → List AV
 | b :: bs,v :: vs => (if b then v else .undef) :: sO bs vs
 | [],vs => vs.map fun _ => .undef
 | _,[] => []
def lC (n : Nat) : AObj → AObj
 | .blk s es => .blk s (es.map fun e => e.map (uW n))
 | .mp ents => .mp (ents.map fun e => (e.1,zA n e.2))
 | .raw ob => .raw ob
def aNo (live : Option (List Bool)) (tm : List AV) : List AV:=match live with | some l => sO l tm | none => tm
def kY (live : Option (List Bool)) (tr : Bool) (fl n : Nat) (st : St) : St :=
 if tr then ⟨(aNo live st.tmps).map (aD1 n),st.heap.take fl ++ ((st.heap.take n).drop fl).map (lC n)⟩ else ⟨aNo live st.tmps,st.heap⟩
def lT (lx lr : List Bool) (tr : Bool) (fl n : Nat) : Option (AExit × St) → Option (AExit × St)
 | some (x,st) => match x with
  | .ret => some (.ret,⟨sO lr st.tmps,st.heap⟩)
  | .normal => some (.normal,kY (some lx) tr fl n st)
  | .exit i => some (.exit i,kY (some lx) tr fl n st)
 | none => none
def aLg [GlobT] (fl t : Nat) (st : St) : Option St :=
 match kG st.tmps (.tmp t) with
 | .ms id tot off len => if fl ≤ id then match st.heap[id]? with
   | some (.blk s es) => if es.length = tot then some ⟨st.tmps.set t (.ms st.heap.length tot off len),st.heap.set id (.blk s (es ++ [List.replicate s .undef])) ++ [.blk s es]⟩ else none
   | _ => none
  else none
 | _ => none
def yA [GlobT] (live : List Bool) (t fl n : Nat) (st : St) : St :=
 match kG st.tmps (.tmp t) with
 | .ms id tot off len => if n ≤ id then match st.heap[id]? with
   | some (.blk s es) => ⟨((sO live st.tmps).map (aD1 n)).set t (.ms n tot off len),(st.heap.take fl ++ ((st.heap.take n).drop fl).map (lC n)) ++ [lC n (.blk s es)]⟩
   | _ => kY (some live) true fl n st
  else kY (some live) true fl n st
 | _ => kY (some live) true fl n st
def aIa [GlobT] (lx lr : List Bool) (t fl n : Nat) : Option (AExit × St) → Option (AExit × St)
 | some (x,st) => match x with
  | .ret => some (.ret,⟨sO lr st.tmps,st.heap⟩)
  | .normal => some (.normal,yA lx t fl n st)
  | .exit i => some (.exit i,yA lx t fl n st)
 | none => none
def nilK (H : Heap) : AV → Nat
 | .lit v => match v with
  | .slice a l c => match a with
   | none => match l with
    | 0 => match c with
     | 0 => 0
     | _ => 3
    | _ => 3
   | _ => 3
  | _ => 3
 | .sl _ es => match es with
  | [] => 2
  | _ :: _ => 1
 | .ms id tot _ len => match len with
  | 0 => 3
  | _ + 1 => match H[id]? with
   | some (.blk _ es) => match Nat.beq es.length tot with
    | true => 1
    | false => 3
   | _ => 3
 | _ => 3
def empA : AV → Bool
 | .lit v => match v with
  | .slice a l c => match a with
   | none => match l with
    | 0 => match c with
     | 0 => true
     | _ => false
    | _ => false
   | _ => false
  | _ => false
 | .sl _ es => match es with
  | [] => true
  | _ :: _ => false
 | _ => false
def aN5 (x y : AV) : AV:=match empA x with
 | true => match empA y with
  | true => .sl false []
  | false => .undef
 | false => .undef
def zG : List AV → List AV → List AV
 | x :: r,y :: s => aN5 x y :: zG r s
 | _,_ => []
def wB : Option (AExit × St) → Option (AExit × St)
 | some (x,st) => match x with
  | .normal => none
  | x => some (x,st)
 | none => none
def aIr (H : Heap) : Option (AExit × St) → Option (AExit × St) → Option (AExit × St)
 | some (.ret,sa),some (.ret,sb) => match Nat.beq sa.tmps.length sb.tmps.length with
  | true => some (.ret,⟨zG sa.tmps sb.tmps,H⟩)
  | false => none
 | _,_ => none
def rP [GlobT] (tm : List AV) (t d0 d1 : Nat) (b : Bool) : List AV:=(tm.set d0 (kG tm (.tmp t))).set d1 (.lit (.bool b))
def pE (head : St → St) (step : St → Option (AExit × St)) : Nat → St → Option (AExit × St)
 | 0,_ => none
 | n + 1,st => match step (head st) with
  | some (.normal,st) => pE head step n st
  | r => r
def evC [GlobT] (lf fl : Nat) : ACode → St → Option (AExit × St)
 | .skip,st => some (.normal,st)
 | .region _ ck ops,st => match sP P cf fl ck ops st with
  | some st => some (.normal,st)
  | none => none
 | .seq a b,st => match evC lf fl a st with
  | some (.normal,st) => evC lf fl b st
  | r => r
 | .cond c a b,st => match kG st.tmps c with
  | .lit (.bool true) => evC lf fl a st
  | .lit (.bool false) => evC lf fl b st
  | _ => none
 | .block id c,st => match evC lf fl c st with
  | some (.exit i,st) => if i = id then some (.normal,st) else some (.exit i,st)
  | r => r
 | .loop live tr c,st => pE (kY live tr fl st.heap.length) (fun st => evC lf fl c st) lf st
 | .exit id,st => some (.exit id,st)
 | .ret,st => some (.ret,st)
 | .frz t c,st => match evOp P cf fl (.freeze (.tmp t)) st.tmps st.heap with
  | some (v,H) => evC lf fl c ⟨st.tmps.set t v,H⟩
  | none => none
 | .mask lx lr tr c,st => lT lx lr tr fl st.heap.length (evC lf fl c st)
 | .scope c,st => evC lf fl c st
 | .nilIf t d0 d1 a b,st => match (Nat.blt d0 st.tmps.length && Nat.blt d1 st.tmps.length) with
  | true => match nilK st.heap (kG st.tmps (.tmp t)) with
   | 0 => wB (evC lf fl a ⟨rP st.tmps t d0 d1 true,st.heap⟩)
   | 1 => evC lf fl b ⟨rP st.tmps t d0 d1 false,st.heap⟩
   | 2 => match Nat.beq fl st.heap.length with
    | true => aIr st.heap (evC lf fl a ⟨rP st.tmps t d0 d1 true,st.heap⟩) (evC lf fl b ⟨rP st.tmps t d0 d1 false,st.heap⟩)
    | false => none
   | _ => none
  | false => none
 | .loopV live lx lr t c,st => match aLg fl t st with
  | some st1 => aIa lx lr t fl st.heap.length (pE (yA live t fl st.heap.length) (fun st => evC lf fl c st) lf st1)
  | none => none
 | .stop,_ => none
end
def aIy [GlobT] (st : St) : ARes → Option AV
 | .tmp t => some (kG st.tmps (.tmp t))
 | .cell t n agg => match oD st.heap (kG st.tmps (.tmp t)) n with
  | some cs => if agg then some (.agg cs) else match cs with
   | [c] => some c
   | _ => none
  | none => none
def zF : List AV → AV
 | [v] => v
 | vs => .tup vs
def uL [GlobT] (st : St) : List ARes → Option (List AV)
 | [] => some []
 | r :: rs => match aIy st r with
  | some v => match uL st rs with
   | some vs => some (v :: vs)
   | none => none
  | none => none
def aH1 [GlobT] (fl vi : Nat) (args : List AV) (H : Heap) : Option (AV × Heap) :=
 match GlobT.prim vi with
 | some g => g fl args H
 | none => none
def getF [GlobT] (T : List AFun) (vi : Nat) : Option AFun :=
 match GlobT.prim vi with
 | some _ => none
 | none => T[vi]?
def evF [GlobT] (P : Program) (T : List AFun) : Nat → Nat → Nat → List AV → Heap → Option (AV × Heap)
 | 0,_,_,_,_ => none
 | n + 1,fl,vi,args,H =>
  match GlobT.prim vi with
  | some g => g fl args H
  | none =>
  match T[vi]? with
  | none => none
  | some F =>
   match evC P (evF P T n) n fl F.body ⟨args ++ List.replicate (F.nt - args.length) (.lit lI),H⟩ with
   | some (.normal,st) => match uL st F.rets with
    | some vs => some (zF vs,st.heap)
    | none => none
   | some (.ret,st) => match uL st F.rets with
    | some vs => some (zF vs,st.heap)
    | none => none
   | _ => none
end Go.Proofs.YtkdnaejhpcibnaaGreatDoor.Av
namespace Go.Proofs.YtkdnaejhpcibnaaGreatDoor.Av
open Go
structure Ctx where
 w : World
 X : Nat → Prop
 β : Nat → Option Nat
 H : Heap
def Imm (c : Ctx) (b : Nat) : Prop:=¬ c.X b ∧ ∀ id,c.β id ≠ some b
def mA (es : List (List AV)) (i j : Nat) : Option AV:=(es[i]?).bind fun e => e[j]?
def shp (H : Heap) (id : Nat) : Option (Nat × Nat) :=
 match H[id]? with
 | some (.blk s es) => some (s,es.length)
 | _ => none
def aWp : AObj → Prop
 | .blk _ _ => False
 | _ => True
def zH (H : Heap) (id : Nat) : Prop:=∃ o,H[id]? = some o ∧ aWp o
inductive RP (w : World) (I : Nat → Prop) : AV → Value → Prop
 | undef (v : Value) : RP w I .undef v
 | lit (v : Value) : RP w I (.lit v) v
 | nil (f : Bool) (a : Option Addr) (cap : Nat) : (f = true → cap = 0) → RP w I (.sl f []) (.slice a 0 cap)
 | sl (f : Bool) (es : List (List AV)) (b off cap : Nat) (c : Array Value) (T : TypeId) (fz : Nat × Nat) (s : Nat) (vals : Nat → Nat → Value) :
   es ≠ [] → I b → w.heap[b]? = some (.cells c T fz) → (∀ e ∈ es,e.length = s) → es.length ≤ cap → (f = true → cap = es.length) →
   (∀ i j x,mA es i j = some x → c[off + (i * s + j)]? = some (vals i j) ∧ lB (vals i j) = true) →
   (∀ i j x,mA es i j = some x → RP w I x (vals i j)) →
   RP w I (.sl f es) (.slice (some ⟨b,off,none⟩) es.length cap)
theorem RP.mono {w w' : World} {I I' : Nat → Prop} (h : ∀ b o,I b → w.heap[b]? = some o → I' b ∧ w'.heap[b]? = some o) {x : AV} {v : Value}
  (hr : RP w I x v) : RP w' I' x v:=by
 induction hr with
 | undef v => exact .undef v
 | lit v => exact .lit v
 | nil f a cap hf => exact .nil f a cap hf
 | sl f es b off cap c T fz s vals hne hi hb hlen hcap hf hv _ ih =>
  obtain ⟨hi',hb'⟩:=h b _ hi hb
  exact .sl f es b off cap c T fz s vals hne hi' hb' hlen hcap hf hv ih
theorem aEg {w : World} {I : Nat → Prop} (v : Value) : RP w I (nrmV v) v:=by
 unfold nrmV
 split
 ·split
  ·split
   ·split
    ·exact .nil false none 0 (by simp)
    ·exact .lit _
   ·exact .lit _
  ·exact .lit _
 ·exact .lit _
theorem aGa [GlobT] {w : World} {I : Nat → Prop} {x : AV} {v : Value} (h : RP w I x v) : RP w I (nrm x) v:=by
 cases h with
 | undef v => exact .undef v
 | lit v => exact aEg v
 | nil f a cap hf => exact .nil false a cap (by simp)
 | sl f es b off cap c T fz s vals h1 h2 h3 h4 h5 h6 h7 h8 => exact .sl false es b off cap c T fz s vals h1 h2 h3 h4 h5 (by simp) h7 h8
def MsOk (c : Ctx) (id tot off len : Nat) (a : Option Addr) (cap s : Nat) : Prop :=
 off + len ≤ tot ∧
 ((c.β id = none ∧ tot = 0 ∧ a = none ∧ cap = 0) ∨
  ∃ b cs T a',c.β id = some b ∧ c.w.heap[b]? = some (.cells cs T (0,0)) ∧ (off + cap) * s = cs.size ∧ a = some a' ∧
   (cap ≠ 0 → a' = ⟨b,off * s,none⟩))
inductive RV (FT : Nat → Option Nat) (c : Ctx) : AV → Value → Prop
 | pure (x : AV) (v : Value) : RP c.w (Imm c) x v → RV FT c x v
 | ms (id tot off len : Nat) (a : Option Addr) (cap s n : Nat) : shp c.H id = some (s,n) → tot ≤ n → len ≤ cap →
   (tot = n → MsOk c id tot off len a cap s) → RV FT c (.ms id tot off len) (.slice a len cap)
 | ptr (id tot idx off : Nat) (a : Addr) (s n : Nat) : shp c.H id = some (s,n) → tot ≤ n →
   (tot = n → ∃ b,c.β id = some b ∧ a = ⟨b,idx * s + off,none⟩) → RV FT c (.ptr id tot idx off) (.pointer (some a))
 | rptr (cs : List AV) (b off : Nat) (cc : Array Value) (T : TypeId) (fz : Nat × Nat) (vals : Nat → Value) :
   Imm c b → c.w.heap[b]? = some (.cells cc T fz) →
   (∀ j x,cs[j]? = some x → cc[off + j]? = some (vals j) ∧ lB (vals j) = true) →
   (∀ j x,cs[j]? = some x → RP c.w (Imm c) x (vals j)) → RV FT c (.rptr cs) (.pointer (some ⟨b,off,none⟩))
 | mp (id b : Nat) : zH c.H id → c.β id = some b → RV FT c (.mp id) (.map (some b))
 | it (id b : Nat) : zH c.H id → c.β id = some b → RV FT c (.it id) (.pointer (some ⟨b,0,none⟩))
 | fn (vi f : Nat) (caps : List AV) (cv : Array Value) (vals : Nat → Value) : FT vi = some f → cv.size = caps.length →
   (∀ i x,caps[i]? = some x → cv[i]? = some (vals i)) → (∀ i x,caps[i]? = some x → RV FT c x (vals i)) →
   RV FT c (.fn vi caps) (.func (.func f) #[] cv)
 | agg (cs : List AV) (cv : Array Value) (vals : Nat → Value) : cv.size = cs.length →
   (∀ i x,cs[i]? = some x → cv[i]? = some (vals i) ∧ lB (vals i) = true) →
   (∀ i x,cs[i]? = some x → RV FT c x (vals i)) → RV FT c (.agg cs) (.agg cv)
 | tup (cs : List AV) (cv : Array Value) (vals : Nat → Value) : cv.size = cs.length →
   (∀ i x,cs[i]? = some x → cv[i]? = some (vals i)) →
   (∀ i x,cs[i]? = some x → RV FT c x (vals i)) → RV FT c (.tup cs) (.tuple cv)
structure Step (fl : Nat) (c c' : Ctx) : Prop where
 X : c'.X = c.X
 os : c'.w.os = c.w.os
 tape : c'.w.tape = c.w.tape
 output : c'.w.output = c.w.output
 drawn : c.w.drawn ≤ c'.w.drawn
 size : c.w.heap.size ≤ c'.w.heap.size
 len : c.H.length ≤ c'.H.length
 frame : ∀ k,k < c.w.heap.size → (∀ id,c.β id ≠ some k) → c'.w.heap[k]? = c.w.heap[k]?
 img : ∀ id b,c'.β id = some b → c.w.heap.size ≤ b ∨ ∃ i,c.β i = some b
 blkS : ∀ id s n,shp c.H id = some (s,n) → ∃ n',shp c'.H id = some (s,n') ∧ n ≤ n' ∧
  (n = n' → c'.β id = c.β id ∧ ∀ b cs T,c.β id = some b → c.w.heap[b]? = some (.cells cs T (0,0)) →
   ∃ cs',c'.w.heap[b]? = some (.cells cs' T (0,0)) ∧ cs'.size = cs.size)
 mpS : ∀ id,zH c.H id → zH c'.H id ∧ c'.β id = c.β id
 floor : ∀ id,id < fl → c'.H[id]? = c.H[id]? ∧ c'.β id = c.β id ∧ ∀ b,c.β id = some b → c'.w.heap[b]? = c.w.heap[b]?
theorem Step.refl (fl : Nat) (c : Ctx) : Step fl c c where
 X:=rfl
 os:=rfl
 tape:=rfl
 output:=rfl
 drawn:=Nat.le_refl _
 size:=Nat.le_refl _
 len:=Nat.le_refl _
 frame:=fun _ _ _ => rfl
 img:=fun i _ h => .inr ⟨i,h⟩
 blkS:=fun _ _ n h => ⟨n,h,Nat.le_refl _,fun _ => ⟨rfl,fun _ cs _ _ hb => ⟨cs,hb,rfl⟩⟩⟩
 mpS:=fun _ h => ⟨h,rfl⟩
 floor:=fun _ _ => ⟨rfl,rfl,fun _ _ => rfl⟩
theorem Step.trans {fl : Nat} {a b c : Ctx} (h : Step fl a b) (k : Step fl b c) : Step fl a c where
 X:=k.X.trans h.X
 os:=k.os.trans h.os
 tape:=k.tape.trans h.tape
 output:=k.output.trans h.output
 drawn:=Nat.le_trans h.drawn k.drawn
 size:=Nat.le_trans h.size k.size
 len:=Nat.le_trans h.len k.len
 frame:=fun i hi hn => (k.frame i (Nat.lt_of_lt_of_le hi h.size) (fun id hid => by
  rcases h.img id i hid with hh | ⟨j,hh⟩
  ·omega
  ·exact hn j hh)).trans (h.frame i hi hn)
 img:=fun id x hx => by
  rcases k.img id x hx with hh | ⟨j,hh⟩
  ·exact .inl (Nat.le_trans h.size hh)
  ·exact h.img j x hh
 blkS:=fun id s n hs => by
  obtain ⟨n',hs',hn',he'⟩:=h.blkS id s n hs
  obtain ⟨n'',hs'',hn'',he''⟩:=k.blkS id s n' hs'
  refine ⟨n'',hs'',Nat.le_trans hn' hn'',fun e => ?_⟩
  have e1 : n = n':=by omega
  have e2 : n' = n'':=by omega
  obtain ⟨hb1,hc1⟩:=he' e1
  obtain ⟨hb2,hc2⟩:=he'' e2
  refine ⟨hb2.trans hb1,fun x cs T hx hcs => ?_⟩
  obtain ⟨cs',h1,h2⟩:=hc1 x cs T hx hcs
  obtain ⟨cs'',h3,h4⟩:=hc2 x cs' T (hb1.trans hx) h1
  exact ⟨cs'',h3,h4.trans h2⟩
 mpS:=fun id hm => by
  obtain ⟨h1,h2⟩:=h.mpS id hm
  obtain ⟨h3,h4⟩:=k.mpS id h1
  exact ⟨h3,h4.trans h2⟩
 floor:=fun id hid => by
  obtain ⟨h1,h2,h3⟩:=h.floor id hid
  obtain ⟨k1,k2,k3⟩:=k.floor id hid
  exact ⟨k1.trans h1,k2.trans h2,fun x hx => (k3 x (h2.trans hx)).trans (h3 x hx)⟩
theorem Step.mono {fl fl' : Nat} {a b : Ctx} (h : Step fl a b) (hl : fl' ≤ fl) : Step fl' a b :=
 { h with floor:=fun id hid => h.floor id (Nat.lt_of_lt_of_le hid hl) }
theorem Step.imm {fl : Nat} {c c' : Ctx} (h : Step fl c c') {b : Nat} {o : Obj} (hi : Imm c b) (hb : c.w.heap[b]? = some o) :
  Imm c' b ∧ c'.w.heap[b]? = some o:=by
 have hlt : b < c.w.heap.size:=by
  rcases Nat.lt_or_ge b c.w.heap.size with h | h
  ·exact h
  ·rw [Array.getElem?_eq_none h] at hb; cases hb
 refine ⟨⟨by rw [h.X]; exact hi.1,fun id hid => ?_⟩,by rw [h.frame b hlt hi.2]; exact hb⟩
 rcases h.img id b hid with hh | ⟨j,hh⟩
 ·omega
 ·exact hi.2 j hh
theorem MsOk.step {fl : Nat} {c c' : Ctx} (h : Step fl c c') {id tot off len cap s : Nat} {a : Option Addr} (hs : shp c.H id = some (s,tot))
  (hs' : shp c'.H id = some (s,tot)) (hm : MsOk c id tot off len a cap s) : MsOk c' id tot off len a cap s:=by
 obtain ⟨n',h1,h2,h3⟩:=h.blkS id s tot hs
 have e : tot = n':=by rw [hs'] at h1; simpa using h1
 obtain ⟨hb,hc⟩:=h3 e
 obtain ⟨ho,hm⟩:=hm
 refine ⟨ho,?_⟩
 rcases hm with ⟨h4,h5,h6,h7⟩ | ⟨b,cs,T,a',h4,h5,h6,h7,h8⟩
 ·exact .inl ⟨hb.trans h4,h5,h6,h7⟩
 ·obtain ⟨cs',h9,h10⟩:=hc b cs T h4 h5
  exact .inr ⟨b,cs',T,a',hb.trans h4,h9,by rw [h10]; exact h6,h7,h8⟩
theorem RV.step [GlobT] {FT : Nat → Option Nat} {fl : Nat} {c c' : Ctx} (h : Step fl c c') {x : AV} {v : Value} (hr : RV FT c x v) : RV FT c' x v:=by
 induction hr with
 | pure x v hp => exact .pure x v (hp.mono fun b o hi hb => h.imm hi hb)
 | ms id tot off len a cap s n hs ht hl hm =>
  obtain ⟨n',h1,h2,h3⟩:=h.blkS id s n hs
  refine .ms id tot off len a cap s n' h1 (Nat.le_trans ht h2) hl fun e => ?_
  have e1 : tot = n:=by omega
  subst e1
  exact (hm rfl).step h hs (by rw [h1,e])
 | ptr id tot idx off a s n hs ht hm =>
  obtain ⟨n',h1,h2,h3⟩:=h.blkS id s n hs
  refine .ptr id tot idx off a s n' h1 (Nat.le_trans ht h2) fun e => ?_
  have e1 : tot = n:=by omega
  obtain ⟨b,hb,ha⟩:=hm e1
  exact ⟨b,((h3 (by omega)).1).trans hb,ha⟩
 | rptr cs b off cc T fz vals hi hb hv hp =>
  obtain ⟨hi',hb'⟩:=h.imm hi hb
  exact .rptr cs b off cc T fz vals hi' hb' hv fun j x hx => (hp j x hx).mono fun b o hi hb => h.imm hi hb
 | mp id b hm hb =>
  obtain ⟨h1,h2⟩:=h.mpS id hm
  exact .mp id b h1 (h2.trans hb)
 | it id b hm hb =>
  obtain ⟨h1,h2⟩:=h.mpS id hm
  exact .it id b h1 (h2.trans hb)
 | fn vi f caps cv vals hf hs hv _ ih => exact .fn vi f caps cv vals hf hs hv ih
 | agg cs cv vals hs hv _ ih => exact .agg cs cv vals hs hv ih
 | tup cs cv vals hs hv _ ih => exact .tup cs cv vals hs hv ih
def GlobInv [GlobT] (c : Ctx) : Prop:=∀ g cs,GlobT.tab g = some cs → ∃ (cc : Array Value) (T : TypeId) (fz : Nat × Nat) (vals : Nat → Value),Imm c g ∧ c.w.heap[g]? = some (.cells cc T fz) ∧ GlobT.ok g cc ∧
 (∀ j x,cs[j]? = some x → cc[0 + j]? = some (vals j) ∧ lB (vals j) = true) ∧ ∀ j x,cs[j]? = some x → RP c.w (Imm c) x (vals j)
theorem GlobInv.step [GlobT] {fl : Nat} {c c' : Ctx} (hg : GlobInv c) (h : Step fl c c') : GlobInv c':=by
 intro g cs hcs
 obtain ⟨cc,T,fz,vals,h1,h2,h0,h3,h4⟩:=hg g cs hcs
 obtain ⟨k1,k2⟩:=h.imm h1 h2
 exact ⟨cc,T,fz,vals,k1,k2,h0,h3,fun j x hx => (h4 j x hx).mono fun b o hi hb => h.imm hi hb⟩
theorem GlobInv.rv [GlobT] {FT : Nat → Option Nat} {c : Ctx} (hg : GlobInv c) {g : Nat} {cs : List AV} (h : GlobT.tab g = some cs) : RV FT c (.rptr cs) (.pointer (some ⟨g,0,none⟩)):=by
 obtain ⟨cc,T,fz,vals,h1,h2,_,h3,h4⟩:=hg g cs h
 exact .rptr cs g 0 cc T fz vals h1 h2 h3 h4
def bA3 (es : Array MapEntry) (clk n : Nat) : Prop:=es.size = n ∧ ∀ e ∈ es.toList,e.born < clk
structure Sim [GlobT] (FT : Nat → Option Nat) (c : Ctx) : Prop where
 gl : GlobInv c
 inj : ∀ (i j b : Nat),c.β i = some b → c.β j = some b → i = j
 dom : ∀ (id b : Nat),c.β id = some b → id < c.H.length
 nx : ∀ (id b : Nat),c.β id = some b → ¬ c.X b
 fresh : ∀ k : Nat,c.w.heap.size ≤ k → ¬ c.X k
 lens : ∀ (id s : Nat) (es : List (List AV)),c.H[id]? = some (.blk s es) → ∀ e ∈ es,e.length = s
 blk : ∀ (id s : Nat) (es : List (List AV)) (b : Nat),c.H[id]? = some (.blk s es) → c.β id = some b → ∃ cs T,c.w.heap[b]? = some (.cells cs T (0,0)) ∧ es.length * s ≤ cs.size ∧
  ∀ i j x,mA es i j = some x → ∃ v,cs[i * s + j]? = some v ∧ lB v = true ∧ RV FT c x v
 map : ∀ (id : Nat) (ents : List (Value × AV)) (b : Nat),c.H[id]? = some (.mp ents) → c.β id = some b → ∃ (es : Array MapEntry) (clk : Nat),c.w.heap[b]? = some (.map es clk) ∧ bA3 es clk ents.length ∧
  ∀ (i : Nat) (k : Value) (x : AV),ents[i]? = some (k,x) → ∃ e,es[i]? = some e ∧ e.key = k ∧ RV FT c x e.val
 raw : ∀ (id : Nat) (ob : Obj) (b : Nat),c.H[id]? = some (.raw ob) → c.β id = some b → c.w.heap[b]? = some ob
def TR (FT : Nat → Option Nat) (c : Ctx) (tm : List AV) (tv : Array Value) : Prop :=
 tm.length = tv.size ∧ ∀ (t : Nat) (x : AV),tm[t]? = some x → ∃ v,tv[t]? = some v ∧ RV FT c x v
theorem TR.step [GlobT] {FT : Nat → Option Nat} {fl : Nat} {c c' : Ctx} (h : Step fl c c') {tm : List AV} {tv : Array Value} (hr : TR FT c tm tv) : TR FT c' tm tv :=
 ⟨hr.1,fun t x hx => let ⟨v,h1,h2⟩:=hr.2 t x hx; ⟨v,h1,h2.step h⟩⟩
theorem RV.lit_inv {FT : Nat → Option Nat} {c : Ctx} {u v : Value} (h : RV FT c (.lit u) v) : v = u:=by
 cases h with
 | pure _ _ hp => cases hp; rfl
theorem RV.lit {FT : Nat → Option Nat} {c : Ctx} (u : Value) : RV FT c (.lit u) u:=.pure _ _ (.lit u)
theorem RV.undef {FT : Nat → Option Nat} {c : Ctx} (u : Value) : RV FT c .undef u:=.pure _ _ (.undef u)
end Go.Proofs.YtkdnaejhpcibnaaGreatDoor.Av
namespace Go.Proofs.YtkdnaejhpcibnaaGreatDoor.Av
open Go
variable {FT : Nat → Option Nat}
def upd (β : Nat → Option Nat) (id b : Nat) : Nat → Option Nat:=fun i => if i = id then some b else β i
theorem mK (β : Nat → Option Nat) (id b : Nat) : upd β id b id = some b:=by simp [upd]
theorem lQ {β : Nat → Option Nat} {id b i : Nat} (h : i ≠ id) : upd β id b i = β i:=by simp [upd,h]
structure Drawn (w w' : World) : Prop where
 heap : w'.heap = w.heap
 os : w'.os = w.os
 tape : w'.tape = w.tape
 output : w'.output = w.output
 drawn : w.drawn ≤ w'.drawn
theorem Drawn.refl (w : World) : Drawn w w:=⟨rfl,rfl,rfl,rfl,Nat.le_refl _⟩
theorem tY {fl : Nat} {c : Ctx} {w' : World} (h : Drawn c.w w') : Step fl c ⟨w',c.X,c.β,c.H⟩ where
 X:=rfl
 os:=h.os
 tape:=h.tape
 output:=h.output
 drawn:=h.drawn
 size:=by simp [h.heap]
 len:=Nat.le_refl _
 frame:=fun k _ _ => by simp [h.heap]
 img:=fun i _ hb => .inr ⟨i,hb⟩
 blkS:=fun _ _ n hs => ⟨n,hs,Nat.le_refl _,fun _ => ⟨rfl,fun _ cs _ _ hb => ⟨cs,by simpa [h.heap] using hb,rfl⟩⟩⟩
 mpS:=fun _ hm => ⟨hm,rfl⟩
 floor:=fun _ _ => ⟨rfl,rfl,fun _ _ => by simp [h.heap]⟩
theorem Sim.drawn [GlobT] {c : Ctx} {w' : World} (hs : Sim FT c) (h : Drawn c.w w') : Sim FT ⟨w',c.X,c.β,c.H⟩ where
 gl:=hs.gl.step (tY (fl:=0) h)
 inj:=hs.inj
 dom:=hs.dom
 nx:=hs.nx
 fresh:=fun k hk => hs.fresh k (by simpa [h.heap] using hk)
 lens:=hs.lens
 blk:=fun id s es b ho hb => by
  obtain ⟨cs,T,h1,h2,h3⟩:=hs.blk id s es b ho hb
  exact ⟨cs,T,by simpa [h.heap] using h1,h2,fun i j x hx => let ⟨v,g1,g2,g3⟩:=h3 i j x hx; ⟨v,g1,g2,g3.step (tY (fl:=0) h)⟩⟩
 map:=fun id ents b ho hb => by
  obtain ⟨es,clk,h1,h2,h3⟩:=hs.map id ents b ho hb
  exact ⟨es,clk,by simpa [h.heap] using h1,h2,fun i k x hx => let ⟨e,g1,g2,g3⟩:=h3 i k x hx; ⟨e,g1,g2,g3.step (tY (fl:=0) h)⟩⟩
 raw:=fun id ob b ho hb => by simpa [h.heap] using hs.raw id ob b ho hb
theorem aDc {H : Heap} {o : AObj} {id : Nat} {r : Nat × Nat} (h : shp H id = some r) : shp (H ++ [o]) id = some r:=by
 have hlt : id < H.length:=by
  rcases Nat.lt_or_ge id H.length with h' | h'
  ·exact h'
  ·simp [shp,List.getElem?_eq_none h'] at h
 simpa [shp,List.getElem?_append_left hlt] using h
theorem yR {H : Heap} {o : AObj} {id : Nat} (h : zH H id) : zH (H ++ [o]) id:=by
 obtain ⟨ents,he,hn⟩:=h
 have hlt : id < H.length:=by
  rcases Nat.lt_or_ge id H.length with h' | h'
  ·exact h'
  ·simp [List.getElem?_eq_none h'] at he
 exact ⟨ents,by simpa [List.getElem?_append_left hlt] using he,hn⟩
theorem vV [GlobT] {fl : Nat} {c : Ctx} {w' : World} {o : AObj} {ob : Obj} (hfl : fl ≤ c.H.length)
  (hh : w'.heap = c.w.heap.push ob) (h1 : w'.os = c.w.os) (h2 : w'.tape = c.w.tape) (h3 : w'.output = c.w.output)
  (hlt : ∀ id b,c.β id = some b → b < c.w.heap.size) (hd : c.w.drawn ≤ w'.drawn:=by first | exact Nat.le_refl _ | exact Nat.le_succ _ | exact Nat.le_add_right _ _ | assumption) :
  Step fl c ⟨w',c.X,upd c.β c.H.length c.w.heap.size,c.H ++ [o]⟩ where
 X:=rfl
 os:=h1
 tape:=h2
 output:=h3
 drawn:=hd
 size:=by simp [hh]
 len:=by simp
 frame:=fun k hk _ => by simp only [hh,Array.getElem?_push]; rw [if_neg (by omega)]
 img:=fun id b hb => by
  by_cases e : id = c.H.length
  ·subst e; simp only [mK] at hb; cases hb; exact .inl (Nat.le_refl _)
  ·simp only [lQ e] at hb; exact .inr ⟨_,hb⟩
 blkS:=fun id s n hs => ⟨n,aDc hs,Nat.le_refl _,fun _ => by
  have hne : id ≠ c.H.length:=by
   intro e; subst e; simp [shp] at hs
  refine ⟨lQ hne,fun b cs T hb hcs => ⟨cs,?_,rfl⟩⟩
  have:=hlt id b hb
  simp only [hh,Array.getElem?_push]; rw [if_neg (by omega)]; exact hcs⟩
 mpS:=fun id hm => ⟨yR hm,by
  have hne : id ≠ c.H.length:=by
   intro e; subst e; obtain ⟨_,he,_⟩:=hm; simp at he
  exact lQ hne⟩
 floor:=fun id hid => by
  have hne : id ≠ c.H.length:=by omega
  refine ⟨List.getElem?_append_left (by omega),lQ hne,fun b hb => ?_⟩
  have:=hlt id b hb
  simp only [hh,Array.getElem?_push]; rw [if_neg (by omega)]
theorem Sim.lt [GlobT] {c : Ctx} (hs : Sim FT c) {id b : Nat} (h : c.β id = some b) : b < c.w.heap.size:=by
 have hid:=hs.dom id b h
 cases ho : c.H[id]? with
 | none => rw [List.getElem?_eq_none_iff] at ho; omega
 | some o =>
  cases o with
  | blk s es =>
   obtain ⟨cs,T,h1,_⟩:=hs.blk id s es b ho h
   rcases Nat.lt_or_ge b c.w.heap.size with hh | hh
   ·exact hh
   ·rw [Array.getElem?_eq_none hh] at h1; cases h1
  | mp ents =>
   obtain ⟨es,clk,h1,_⟩:=hs.map id ents b ho h
   rcases Nat.lt_or_ge b c.w.heap.size with hh | hh
   ·exact hh
   ·rw [Array.getElem?_eq_none hh] at h1; cases h1
  | raw ob =>
   have h1:=hs.raw id ob b ho h
   rcases Nat.lt_or_ge b c.w.heap.size with hh | hh
   ·exact hh
   ·rw [Array.getElem?_eq_none hh] at h1; cases h1
theorem aD7 [GlobT] {c : Ctx} {w' : World} {o : AObj} {ob : Obj} (hs : Sim FT c)
  (hh : w'.heap = c.w.heap.push ob) (h1 : w'.os = c.w.os) (h2 : w'.tape = c.w.tape) (h3 : w'.output = c.w.output)
  (hl : ∀ s es,o = .blk s es → ∀ e ∈ es,e.length = s)
  (ho : ∀ s es,o = .blk s es → ∃ cs T,ob = .cells cs T (0,0) ∧ es.length * s ≤ cs.size ∧
   ∀ i j x,mA es i j = some x → ∃ v,cs[i * s + j]? = some v ∧ lB v = true ∧ RV FT c x v)
  (hm : ∀ ents,o = .mp ents → ents = [] ∧ ∃ clk,ob = .map #[] clk) (hw : ∀ q,o = .raw q → ob = q) (hd : c.w.drawn ≤ w'.drawn:=by first | exact Nat.le_refl _ | exact Nat.le_succ _ | exact Nat.le_add_right _ _ | assumption) :
  Sim FT ⟨w',c.X,upd c.β c.H.length c.w.heap.size,c.H ++ [o]⟩:=by
 have hst:=vV (fl:=0) (o:=o) (Nat.zero_le _) hh h1 h2 h3 (fun id b hb => hs.lt hb)
 have hnew : w'.heap[c.w.heap.size]? = some ob:=by simp [hh]
 refine ⟨hs.gl.step hst,?_,?_,?_,fun k hk => hs.fresh k (by simp only [hh,Array.size_push] at hk; omega),?_,?_,?_,?_⟩
 ·intro i j b hi hj
  by_cases ei : i = c.H.length
  ·by_cases ej : j = c.H.length
   ·rw [ei,ej]
   ·subst ei
    simp only [mK] at hi
    simp only [lQ ej] at hj
    cases hi
    have:=hs.lt hj
    omega
  ·simp only [lQ ei] at hi
   by_cases ej : j = c.H.length
   ·subst ej
    simp only [mK] at hj
    cases hj
    have:=hs.lt hi
    omega
   ·simp only [lQ ej] at hj
    exact hs.inj i j b hi hj
 ·intro id b hb
  by_cases e : id = c.H.length
  ·simp [e]
  ·simp only [lQ e] at hb
   have:=hs.dom id b hb
   simp only [List.length_append,List.length_singleton]; omega
 ·intro id b hb
  by_cases e : id = c.H.length
  ·subst e
   simp only [mK] at hb
   cases hb
   exact hs.fresh _ (Nat.le_refl _)
  ·simp only [lQ e] at hb
   exact hs.nx id b hb
 ·intro id s es ho'
  simp only at ho'
  rw [List.getElem?_append] at ho'
  split at ho'
  ·exact hs.lens id s es ho'
  ·have : o = .blk s es:=by
    have h0:=ho'
    rw [List.getElem?_singleton] at h0
    split at h0
    ·exact Option.some.inj h0
    ·cases h0
   exact hl s es this
 ·intro id s es b ho' hb
  simp only at ho' hb ⊢
  by_cases e : id = c.H.length
  ·subst e
   simp only [mK] at hb
   cases hb
   have h0 : o = .blk s es:=by simpa using ho'
   obtain ⟨cs,T,g1,g2,g3⟩:=ho s es h0
   refine ⟨cs,T,by rw [hnew,g1],g2,fun i j x hx => ?_⟩
   obtain ⟨v,k1,k2,k3⟩:=g3 i j x hx
   exact ⟨v,k1,k2,k3.step hst⟩
  ·simp only [lQ e] at hb
   have hlt:=hs.dom id b hb
   rw [List.getElem?_append_left hlt] at ho'
   obtain ⟨cs,T,g1,g2,g3⟩:=hs.blk id s es b ho' hb
   have hbl:=hs.lt hb
   refine ⟨cs,T,?_,g2,fun i j x hx => ?_⟩
   ·simp only [hh,Array.getElem?_push]; rw [if_neg (by omega)]; exact g1
   ·obtain ⟨v,k1,k2,k3⟩:=g3 i j x hx
    exact ⟨v,k1,k2,k3.step hst⟩
 ·intro id ents b ho' hb
  simp only at ho' hb ⊢
  by_cases e : id = c.H.length
  ·subst e
   simp only [mK] at hb
   cases hb
   have h0 : o = .mp ents:=by simpa using ho'
   obtain ⟨g1,clk,g2⟩:=hm ents h0
   subst g1
   exact ⟨#[],clk,by rw [hnew,g2],⟨rfl,fun e he => by cases he⟩,fun i k x hx => by simp at hx⟩
  ·simp only [lQ e] at hb
   have hlt:=hs.dom id b hb
   rw [List.getElem?_append_left hlt] at ho'
   obtain ⟨es,clk,g1,g2,g3⟩:=hs.map id ents b ho' hb
   have hbl:=hs.lt hb
   refine ⟨es,clk,?_,g2,fun i k x hx => ?_⟩
   ·simp only [hh,Array.getElem?_push]; rw [if_neg (by omega)]; exact g1
   ·obtain ⟨en,k1,k2,k3⟩:=g3 i k x hx
    exact ⟨en,k1,k2,k3.step hst⟩
 ·intro id q b ho' hb
  simp only at ho' hb ⊢
  by_cases e : id = c.H.length
  ·subst e
   simp only [mK] at hb
   cases hb
   have h0 : o = .raw q:=by simpa using ho'
   rw [hnew,hw q h0]
  ·simp only [lQ e] at hb
   have hlt:=hs.dom id b hb
   rw [List.getElem?_append_left hlt] at ho'
   have g1:=hs.raw id q b ho' hb
   have hbl:=hs.lt hb
   simp only [hh,Array.getElem?_push]; rw [if_neg (by omega)]; exact g1
theorem aFr [GlobT] {fl : Nat} {c : Ctx} {w' : World} {ob : Obj} (hs : Sim FT c) (hh : w'.heap = c.w.heap.push ob) (h1 : w'.os = c.w.os) (h2 : w'.tape = c.w.tape) (h3 : w'.output = c.w.output) (hd : c.w.drawn ≤ w'.drawn:=by first | exact Nat.le_refl _ | exact Nat.le_succ _ | exact Nat.le_add_right _ _ | assumption) :
  Step fl c ⟨w',c.X,c.β,c.H⟩ where
 X:=rfl
 os:=h1
 tape:=h2
 output:=h3
 drawn:=hd
 size:=by simp [hh]
 len:=Nat.le_refl _
 frame:=fun k hk _ => by simp only [hh,Array.getElem?_push]; rw [if_neg (by omega)]
 img:=fun i _ hb => .inr ⟨i,hb⟩
 blkS:=fun id s n hs' => ⟨n,hs',Nat.le_refl _,fun _ => ⟨rfl,fun b cs T hb hcs => ⟨cs,by
  have:=hs.lt hb
  simp only [hh,Array.getElem?_push]; rw [if_neg (by omega)]; exact hcs,rfl⟩⟩⟩
 mpS:=fun id hm => ⟨hm,rfl⟩
 floor:=fun id hid => ⟨rfl,rfl,fun b hb => by
  have:=hs.lt hb
  simp only [hh,Array.getElem?_push]; rw [if_neg (by omega)]⟩
theorem aP5 [GlobT] {c : Ctx} {w' : World} {ob : Obj} (hs : Sim FT c) (hh : w'.heap = c.w.heap.push ob) (h1 : w'.os = c.w.os) (h2 : w'.tape = c.w.tape) (h3 : w'.output = c.w.output) (hd : c.w.drawn ≤ w'.drawn:=by first | exact Nat.le_refl _ | exact Nat.le_succ _ | exact Nat.le_add_right _ _ | assumption) :
  Sim FT ⟨w',c.X,c.β,c.H⟩:=by
 have hst:=aFr (fl:=0) hs hh h1 h2 h3
 refine ⟨hs.gl.step hst,hs.inj,hs.dom,hs.nx,fun k hk => hs.fresh k (by simp only [hh,Array.size_push] at hk; omega),hs.lens,?_,?_,fun id q b ho' hb => by
  have g1:=hs.raw id q b ho' hb
  have:=hs.lt hb
  simp only [hh,Array.getElem?_push]; rw [if_neg (by omega)]; exact g1⟩
 ·intro id s' es b ho' hb
  obtain ⟨cs,T,g1,g2,g3⟩:=hs.blk id s' es b ho' hb
  refine ⟨cs,T,?_,g2,fun i j x hx => let ⟨v,k1,k2,k3⟩:=g3 i j x hx; ⟨v,k1,k2,k3.step hst⟩⟩
  have:=hs.lt hb
  simp only [hh,Array.getElem?_push]; rw [if_neg (by omega)]; exact g1
 ·intro id ents b ho' hb
  obtain ⟨es,clk,g1,g2,g3⟩:=hs.map id ents b ho' hb
  refine ⟨es,clk,?_,g2,fun i k x hx => let ⟨e,k1,k2,k3⟩:=g3 i k x hx; ⟨e,k1,k2,k3.step hst⟩⟩
  have:=hs.lt hb
  simp only [hh,Array.getElem?_push]; rw [if_neg (by omega)]; exact g1
theorem tZ [GlobT] {fl : Nat} {c : Ctx} {s : Nat} (hfl : fl ≤ c.H.length) : Step fl c ⟨c.w,c.X,c.β,c.H ++ [.blk s []]⟩ where
 X:=rfl
 os:=rfl
 tape:=rfl
 output:=rfl
 drawn:=Nat.le_refl _
 size:=Nat.le_refl _
 len:=by simp
 frame:=fun _ _ _ => rfl
 img:=fun i _ hb => .inr ⟨i,hb⟩
 blkS:=fun id s n hs => ⟨n,aDc hs,Nat.le_refl _,fun _ => ⟨rfl,fun b cs T _ hcs => ⟨cs,hcs,rfl⟩⟩⟩
 mpS:=fun id hm => ⟨yR hm,rfl⟩
 floor:=fun id hid => ⟨List.getElem?_append_left (by omega),rfl,fun _ _ => rfl⟩
theorem zY [GlobT] {c : Ctx} {s : Nat} (hs : Sim FT c) : Sim FT ⟨c.w,c.X,c.β,c.H ++ [.blk s []]⟩:=by
 have hst:=tZ (fl:=0) (c:=c) (s:=s) (Nat.zero_le _)
 refine ⟨hs.gl.step hst,hs.inj,?_,hs.nx,hs.fresh,?_,?_,?_,fun id q b ho' hb => by
  simp only at ho' hb ⊢
  have hlt:=hs.dom id b hb
  rw [List.getElem?_append_left hlt] at ho'
  exact hs.raw id q b ho' hb⟩
 ·intro id b hb
  have:=hs.dom id b hb
  simp only [List.length_append,List.length_singleton]; omega
 ·intro id s' es ho'
  simp only at ho'
  rw [List.getElem?_append] at ho'
  split at ho'
  ·exact hs.lens id s' es ho'
  ·rw [List.getElem?_singleton] at ho'
   split at ho'
   ·cases ho'; simp
   ·cases ho'
 ·intro id s' es b ho' hb
  simp only at ho' hb ⊢
  have hlt:=hs.dom id b hb
  rw [List.getElem?_append_left hlt] at ho'
  obtain ⟨cs,T,g1,g2,g3⟩:=hs.blk id s' es b ho' hb
  exact ⟨cs,T,g1,g2,fun i j x hx => let ⟨v,k1,k2,k3⟩:=g3 i j x hx; ⟨v,k1,k2,k3.step hst⟩⟩
 ·intro id ents b ho' hb
  simp only at ho' hb ⊢
  have hlt:=hs.dom id b hb
  rw [List.getElem?_append_left hlt] at ho'
  obtain ⟨es,clk,g1,g2,g3⟩:=hs.map id ents b ho' hb
  exact ⟨es,clk,g1,g2,fun i k x hx => let ⟨e,k1,k2,k3⟩:=g3 i k x hx; ⟨e,k1,k2,k3.step hst⟩⟩
theorem getElem?_set_ne' {α : Type} {l : List α} {i j : Nat} {a : α} (h : j ≠ i) : (l.set i a)[j]? = l[j]?:=by
 rw [List.getElem?_set]; rw [if_neg (fun e => h e.symm)]
theorem getElem?_set_eq' {α : Type} {l : List α} {i : Nat} {a b : α} (h : l[i]? = some b) : (l.set i a)[i]? = some a:=by
 have hlt : i < l.length:=by
  rcases Nat.lt_or_ge i l.length with h' | h'
  ·exact h'
  ·rw [List.getElem?_eq_none h'] at h; cases h
 rw [List.getElem?_set]; simp [hlt]
theorem qL [GlobT] {H : Heap} {id s s' : Nat} {es es' : List (List AV)} (h : H[id]? = some (.blk s es)) (i : Nat) :
  shp (H.set id (.blk s' es')) i = if i = id then some (s',es'.length) else shp H i:=by
 by_cases e : i = id
 ·subst e; simp [shp,getElem?_set_eq' h]
 ·simp [shp,getElem?_set_ne' e,e]
theorem rI [GlobT] {fl : Nat} {c : Ctx} {w' : World} {id b s : Nat} {es es' : List (List AV)} {cs cs' : Array Value} {T : TypeId}
  (hs : Sim FT c) (hfl : fl ≤ id) (ho : c.H[id]? = some (.blk s es)) (hb : c.β id = some b) (hcs : c.w.heap[b]? = some (.cells cs T (0,0)))
  (hlen : es.length ≤ es'.length) (hsz : cs'.size = cs.size)
  (h0 : w'.heap[b]? = some (.cells cs' T (0,0))) (hn : ∀ k,k ≠ b → w'.heap[k]? = c.w.heap[k]?) (hz : w'.heap.size = c.w.heap.size)
  (h1 : w'.os = c.w.os) (h2 : w'.tape = c.w.tape) (h3 : w'.output = c.w.output) (hd : c.w.drawn ≤ w'.drawn:=by first | exact Nat.le_refl _ | exact Nat.le_succ _ | exact Nat.le_add_right _ _ | assumption) :
  Step fl c ⟨w',c.X,c.β,c.H.set id (.blk s es')⟩ where
 X:=rfl
 os:=h1
 tape:=h2
 output:=h3
 drawn:=hd
 size:=by simp [hz]
 len:=by simp
 frame:=fun k _ hk => hn k (fun e => hk id (by rw [e]; exact hb))
 img:=fun i _ h => .inr ⟨i,h⟩
 blkS:=fun i s' n hs' => by
  have hsh:=qL (s':=s) (es':=es') ho i
  by_cases e : i = id
  ·subst e
   have hs0 : s' = s ∧ n = es.length:=by
    simp only [shp,ho,Option.some.injEq,Prod.mk.injEq] at hs'; exact ⟨hs'.1.symm,hs'.2.symm⟩
   obtain ⟨rfl,rfl⟩:=hs0
   refine ⟨es'.length,by rw [hsh]; simp,hlen,fun _ => ⟨rfl,fun b' cs0 T0 hb' hc0 => ?_⟩⟩
   rw [hb] at hb'; cases hb'
   rw [hcs] at hc0; cases hc0
   exact ⟨cs',h0,hsz⟩
  ·refine ⟨n,by rw [hsh,if_neg e]; exact hs',Nat.le_refl _,fun _ => ⟨rfl,fun b' cs0 T0 hb' hc0 => ⟨cs0,?_,rfl⟩⟩⟩
   rw [hn b' (fun eb => e (hs.inj i id b (by rw [← eb]; exact hb') hb))]; exact hc0
 mpS:=fun i hm => ⟨by
  obtain ⟨ents,he,hnb⟩:=hm
  have e : i ≠ id:=by intro e; subst e; rw [ho] at he; cases he; exact hnb
  exact ⟨ents,by simpa [getElem?_set_ne' e] using he,hnb⟩,rfl⟩
 floor:=fun i hi => by
  have e : i ≠ id:=by omega
  exact ⟨getElem?_set_ne' e,rfl,fun b' hb' => hn b' (fun eb => e (hs.inj i id b (by rw [← eb]; exact hb') hb))⟩
theorem xS [GlobT] {c : Ctx} {w' : World} {id b s : Nat} {es es' : List (List AV)} {cs cs' : Array Value} {T : TypeId}
  (hs : Sim FT c) (ho : c.H[id]? = some (.blk s es)) (hb : c.β id = some b) (hcs : c.w.heap[b]? = some (.cells cs T (0,0)))
  (hlen : es.length ≤ es'.length) (hsz : cs'.size = cs.size)
  (h0 : w'.heap[b]? = some (.cells cs' T (0,0))) (hn : ∀ k,k ≠ b → w'.heap[k]? = c.w.heap[k]?) (hz : w'.heap.size = c.w.heap.size)
  (h1 : w'.os = c.w.os) (h2 : w'.tape = c.w.tape) (h3 : w'.output = c.w.output)
  (hl : ∀ e ∈ es',e.length = s) (hfit : es'.length * s ≤ cs'.size)
  (hc : ∀ i j x,mA es' i j = some x → ∃ v,cs'[i * s + j]? = some v ∧ lB v = true ∧ RV FT c x v) (hd : c.w.drawn ≤ w'.drawn:=by first | exact Nat.le_refl _ | exact Nat.le_succ _ | exact Nat.le_add_right _ _ | assumption) :
  Sim FT ⟨w',c.X,c.β,c.H.set id (.blk s es')⟩:=by
 have hst:=rI (fl:=0) hs (Nat.zero_le _) ho hb hcs hlen hsz h0 hn hz h1 h2 h3
 refine ⟨hs.gl.step hst,hs.inj,?_,hs.nx,fun k hk => hs.fresh k (by simpa [hz] using hk),?_,?_,?_,fun i q b' ho' hb' => by
  simp only at ho' hb' ⊢
  have e : i ≠ id:=by intro e; subst e; rw [getElem?_set_eq' ho] at ho'; cases ho'
  rw [getElem?_set_ne' e] at ho'
  have g1:=hs.raw i q b' ho' hb'
  rw [hn b' (fun eb => e (hs.inj i id b (by rw [← eb]; exact hb') hb))]; exact g1⟩
 ·intro i b' hb'
  have:=hs.dom i b' hb'
  simpa using this
 ·intro i s' es0 ho'
  simp only at ho'
  by_cases e : i = id
  ·subst e
   rw [getElem?_set_eq' ho] at ho'
   cases ho'
   exact hl
  ·rw [getElem?_set_ne' e] at ho'
   exact hs.lens i s' es0 ho'
 ·intro i s' es0 b' ho' hb'
  simp only at ho' hb' ⊢
  by_cases e : i = id
  ·subst e
   rw [getElem?_set_eq' ho] at ho'
   cases ho'
   rw [hb] at hb'; cases hb'
   exact ⟨cs',T,h0,hfit,fun a d x hx => let ⟨v,k1,k2,k3⟩:=hc a d x hx; ⟨v,k1,k2,k3.step hst⟩⟩
  ·rw [getElem?_set_ne' e] at ho'
   obtain ⟨cs0,T0,g1,g2,g3⟩:=hs.blk i s' es0 b' ho' hb'
   refine ⟨cs0,T0,?_,g2,fun a d x hx => let ⟨v,k1,k2,k3⟩:=g3 a d x hx; ⟨v,k1,k2,k3.step hst⟩⟩
   rw [hn b' (fun eb => e (hs.inj i id b (by rw [← eb]; exact hb') hb))]; exact g1
 ·intro i ents b' ho' hb'
  simp only at ho' hb' ⊢
  have e : i ≠ id:=by intro e; subst e; rw [getElem?_set_eq' ho] at ho'; cases ho'
  rw [getElem?_set_ne' e] at ho'
  obtain ⟨es0,clk,g1,g2,g3⟩:=hs.map i ents b' ho' hb'
  refine ⟨es0,clk,?_,g2,fun a k x hx => let ⟨en,k1,k2,k3⟩:=g3 a k x hx; ⟨en,k1,k2,k3.step hst⟩⟩
  rw [hn b' (fun eb => e (hs.inj i id b (by rw [← eb]; exact hb') hb))]; exact g1
theorem sV [GlobT] {fl : Nat} {c : Ctx} {w' : World} {id s : Nat} {es es' : List (List AV)} {ob : Obj}
  (hs : Sim FT c) (hfl : fl ≤ id) (ho : c.H[id]? = some (.blk s es))
  (hlen : es.length < es'.length) (hh : w'.heap = c.w.heap.push ob)
  (h1 : w'.os = c.w.os) (h2 : w'.tape = c.w.tape) (h3 : w'.output = c.w.output) (hd : c.w.drawn ≤ w'.drawn:=by first | exact Nat.le_refl _ | exact Nat.le_succ _ | exact Nat.le_add_right _ _ | assumption) :
  Step fl c ⟨w',c.X,upd c.β id c.w.heap.size,c.H.set id (.blk s es')⟩ where
 X:=rfl
 os:=h1
 tape:=h2
 output:=h3
 drawn:=hd
 size:=by simp [hh]
 len:=by simp
 frame:=fun k hk _ => by simp only [hh,Array.getElem?_push]; rw [if_neg (by omega)]
 img:=fun i b h => by
  by_cases e : i = id
  ·subst e; simp only [mK] at h; cases h; exact .inl (Nat.le_refl _)
  ·simp only [lQ e] at h; exact .inr ⟨_,h⟩
 blkS:=fun i s' n hs' => by
  have hsh:=qL (s':=s) (es':=es') ho i
  by_cases e : i = id
  ·subst e
   have hs0 : s' = s ∧ n = es.length:=by
    simp only [shp,ho,Option.some.injEq,Prod.mk.injEq] at hs'; exact ⟨hs'.1.symm,hs'.2.symm⟩
   obtain ⟨rfl,rfl⟩:=hs0
   exact ⟨es'.length,by rw [hsh]; simp,Nat.le_of_lt hlen,fun e => by omega⟩
  ·refine ⟨n,by rw [hsh,if_neg e]; exact hs',Nat.le_refl _,fun _ => ⟨lQ e,fun b' cs0 T0 hb' hc0 => ⟨cs0,?_,rfl⟩⟩⟩
   have:=hs.lt hb'
   simp only [hh,Array.getElem?_push]; rw [if_neg (by omega)]; exact hc0
 mpS:=fun i hm => by
  obtain ⟨ents,he,hnb⟩:=hm
  have e : i ≠ id:=by intro e; subst e; rw [ho] at he; cases he; exact hnb
  exact ⟨⟨ents,by simpa [getElem?_set_ne' e] using he,hnb⟩,lQ e⟩
 floor:=fun i hi => by
  have e : i ≠ id:=by omega
  refine ⟨getElem?_set_ne' e,lQ e,fun b' hb' => ?_⟩
  have:=hs.lt hb'
  simp only [hh,Array.getElem?_push]; rw [if_neg (by omega)]
theorem zK [GlobT] {c : Ctx} {w' : World} {id s : Nat} {es es' : List (List AV)} {cs' : Array Value} {T : TypeId}
  (hs : Sim FT c) (ho : c.H[id]? = some (.blk s es))
  (hlen : es.length < es'.length) (hh : w'.heap = c.w.heap.push (.cells cs' T (0,0)))
  (h1 : w'.os = c.w.os) (h2 : w'.tape = c.w.tape) (h3 : w'.output = c.w.output)
  (hl : ∀ e ∈ es',e.length = s) (hfit : es'.length * s ≤ cs'.size)
  (hc : ∀ i j x,mA es' i j = some x → ∃ v,cs'[i * s + j]? = some v ∧ lB v = true ∧ RV FT c x v) (hd : c.w.drawn ≤ w'.drawn:=by first | exact Nat.le_refl _ | exact Nat.le_succ _ | exact Nat.le_add_right _ _ | assumption) :
  Sim FT ⟨w',c.X,upd c.β id c.w.heap.size,c.H.set id (.blk s es')⟩:=by
 have hst:=sV (fl:=0) hs (Nat.zero_le _) ho hlen hh h1 h2 h3
 have hid : id < c.H.length:=by
  rcases Nat.lt_or_ge id c.H.length with h | h
  ·exact h
  ·rw [List.getElem?_eq_none h] at ho; cases ho
 refine ⟨hs.gl.step hst,?_,?_,?_,fun k hk => hs.fresh k (by simp only [hh,Array.size_push] at hk; omega),?_,?_,?_,fun i q b' ho' hb' => by
  simp only at ho' hb' ⊢
  have e : i ≠ id:=by intro e; subst e; rw [getElem?_set_eq' ho] at ho'; cases ho'
  rw [getElem?_set_ne' e] at ho'
  simp only [lQ e] at hb'
  have g1:=hs.raw i q b' ho' hb'
  have:=hs.lt hb'
  simp only [hh,Array.getElem?_push]; rw [if_neg (by omega)]; exact g1⟩
 ·intro i j b hi hj
  by_cases ei : i = id
  ·by_cases ej : j = id
   ·rw [ei,ej]
   ·subst ei
    simp only [mK] at hi
    simp only [lQ ej] at hj
    cases hi
    have:=hs.lt hj
    omega
  ·simp only [lQ ei] at hi
   by_cases ej : j = id
   ·subst ej
    simp only [mK] at hj
    cases hj
    have:=hs.lt hi
    omega
   ·simp only [lQ ej] at hj
    exact hs.inj i j b hi hj
 ·intro i b' hb'
  by_cases e : i = id
  ·subst e; simpa using hid
  ·simp only [lQ e] at hb'
   have:=hs.dom i b' hb'
   simpa using this
 ·intro i b hb
  by_cases e : i = id
  ·subst e
   simp only [mK] at hb
   cases hb
   exact hs.fresh _ (Nat.le_refl _)
  ·simp only [lQ e] at hb
   exact hs.nx i b hb
 ·intro i s' es0 ho'
  simp only at ho'
  by_cases e : i = id
  ·subst e
   rw [getElem?_set_eq' ho] at ho'
   cases ho'
   exact hl
  ·rw [getElem?_set_ne' e] at ho'
   exact hs.lens i s' es0 ho'
 ·intro i s' es0 b' ho' hb'
  simp only at ho' hb' ⊢
  by_cases e : i = id
  ·subst e
   rw [getElem?_set_eq' ho] at ho'
   cases ho'
   simp only [mK] at hb'
   cases hb'
   exact ⟨cs',T,by simp [hh],hfit,fun a d x hx => let ⟨v,k1,k2,k3⟩:=hc a d x hx; ⟨v,k1,k2,k3.step hst⟩⟩
  ·rw [getElem?_set_ne' e] at ho'
   simp only [lQ e] at hb'
   obtain ⟨cs0,T0,g1,g2,g3⟩:=hs.blk i s' es0 b' ho' hb'
   refine ⟨cs0,T0,?_,g2,fun a d x hx => let ⟨v,k1,k2,k3⟩:=g3 a d x hx; ⟨v,k1,k2,k3.step hst⟩⟩
   have:=hs.lt hb'
   simp only [hh,Array.getElem?_push]; rw [if_neg (by omega)]; exact g1
 ·intro i ents b' ho' hb'
  simp only at ho' hb' ⊢
  have e : i ≠ id:=by intro e; subst e; rw [getElem?_set_eq' ho] at ho'; cases ho'
  rw [getElem?_set_ne' e] at ho'
  simp only [lQ e] at hb'
  obtain ⟨es0,clk,g1,g2,g3⟩:=hs.map i ents b' ho' hb'
  refine ⟨es0,clk,?_,g2,fun a k x hx => let ⟨en,k1,k2,k3⟩:=g3 a k x hx; ⟨en,k1,k2,k3.step hst⟩⟩
  have:=hs.lt hb'
  simp only [hh,Array.getElem?_push]; rw [if_neg (by omega)]; exact g1
theorem uZ [GlobT] {fl : Nat} {c : Ctx} {w' : World} {id b : Nat} {ents ents' : List (Value × AV)} {ob : Obj}
  (hs : Sim FT c) (hfl : fl ≤ id) (ho : c.H[id]? = some (.mp ents)) (hb : c.β id = some b)
  (hh : w'.heap = c.w.heap.setIfInBounds b ob) (h1 : w'.os = c.w.os) (h2 : w'.tape = c.w.tape) (h3 : w'.output = c.w.output) (hd : c.w.drawn ≤ w'.drawn:=by first | exact Nat.le_refl _ | exact Nat.le_succ _ | exact Nat.le_add_right _ _ | assumption) :
  Step fl c ⟨w',c.X,c.β,c.H.set id (.mp ents')⟩:=by
 have hn : ∀ k,k ≠ b → w'.heap[k]? = c.w.heap[k]?:=fun k hk => by
  rw [hh,Array.getElem?_setIfInBounds_ne (Ne.symm hk)]
 refine ⟨rfl,h1,h2,h3,hd,by simp [hh],by simp,fun k _ hk => hn k (fun e => hk id (by rw [e]; exact hb)),fun i _ h => .inr ⟨i,h⟩,?_,?_,?_⟩
 ·intro i s n hs'
  have e : i ≠ id:=by intro e; subst e; simp [shp,ho] at hs'
  refine ⟨n,by simpa [shp,getElem?_set_ne' e] using hs',Nat.le_refl _,fun _ => ⟨rfl,fun b' cs0 T0 hb' hc0 => ⟨cs0,?_,rfl⟩⟩⟩
  exact (hn b' (fun eb => e (hs.inj i id b (by rw [← eb]; exact hb') hb))).trans hc0
 ·intro i hm
  refine ⟨?_,rfl⟩
  by_cases e : i = id
  ·subst e; exact ⟨.mp ents',getElem?_set_eq' ho,trivial⟩
  ·obtain ⟨en,he,hnb⟩:=hm
   exact ⟨en,by simpa [getElem?_set_ne' e] using he,hnb⟩
 ·intro i hi
  have e : i ≠ id:=by omega
  exact ⟨getElem?_set_ne' e,rfl,fun b' hb' => hn b' (fun eb => e (hs.inj i id b (by rw [← eb]; exact hb') hb))⟩
theorem aDb [GlobT] {c : Ctx} {w' : World} {id b : Nat} {ents ents' : List (Value × AV)} {es : Array MapEntry} {clk : Nat}
  (hs : Sim FT c) (ho : c.H[id]? = some (.mp ents)) (hb : c.β id = some b)
  (hh : w'.heap = c.w.heap.setIfInBounds b (.map es clk)) (h1 : w'.os = c.w.os) (h2 : w'.tape = c.w.tape) (h3 : w'.output = c.w.output)
  (hsz : bA3 es clk ents'.length)
  (hc : ∀ (i : Nat) (k : Value) (x : AV),ents'[i]? = some (k,x) → ∃ e,es[i]? = some e ∧ e.key = k ∧ RV FT c x e.val) (hd : c.w.drawn ≤ w'.drawn:=by first | exact Nat.le_refl _ | exact Nat.le_succ _ | exact Nat.le_add_right _ _ | assumption) :
  Sim FT ⟨w',c.X,c.β,c.H.set id (.mp ents')⟩:=by
 have hst:=uZ (fl:=0) (ents':=ents') hs (Nat.zero_le _) ho hb hh h1 h2 h3
 have hn : ∀ k,k ≠ b → w'.heap[k]? = c.w.heap[k]?:=fun k hk => by
  rw [hh,Array.getElem?_setIfInBounds_ne (Ne.symm hk)]
 have hbl:=hs.lt hb
 refine ⟨hs.gl.step hst,hs.inj,?_,hs.nx,fun k hk => hs.fresh k (by simpa [hh] using hk),?_,?_,?_,fun i q b' ho' hb' => by
  simp only at ho' hb' ⊢
  have e : i ≠ id:=by intro e; subst e; rw [getElem?_set_eq' ho] at ho'; cases ho'
  rw [getElem?_set_ne' e] at ho'
  have g1:=hs.raw i q b' ho' hb'
  rw [hn b' (fun eb => e (hs.inj i id b (by rw [← eb]; exact hb') hb))]; exact g1⟩
 ·intro i b' hb'
  have:=hs.dom i b' hb'
  simpa using this
 ·intro i s' es0 ho'
  simp only at ho'
  have e : i ≠ id:=by intro e; subst e; rw [getElem?_set_eq' ho] at ho'; cases ho'
  rw [getElem?_set_ne' e] at ho'
  exact hs.lens i s' es0 ho'
 ·intro i s' es0 b' ho' hb'
  simp only at ho' hb' ⊢
  have e : i ≠ id:=by intro e; subst e; rw [getElem?_set_eq' ho] at ho'; cases ho'
  rw [getElem?_set_ne' e] at ho'
  obtain ⟨cs0,T0,g1,g2,g3⟩:=hs.blk i s' es0 b' ho' hb'
  refine ⟨cs0,T0,?_,g2,fun a d x hx => let ⟨v,k1,k2,k3⟩:=g3 a d x hx; ⟨v,k1,k2,k3.step hst⟩⟩
  rw [hn b' (fun eb => e (hs.inj i id b (by rw [← eb]; exact hb') hb))]; exact g1
 ·intro i en b' ho' hb'
  simp only at ho' hb' ⊢
  by_cases e : i = id
  ·subst e
   rw [getElem?_set_eq' ho] at ho'
   cases ho'
   rw [hb] at hb'; cases hb'
   refine ⟨es,clk,by rw [hh]; simp [hbl],hsz,fun a k x hx => let ⟨e,k1,k2,k3⟩:=hc a k x hx; ⟨e,k1,k2,k3.step hst⟩⟩
  ·rw [getElem?_set_ne' e] at ho'
   obtain ⟨es0,clk0,g1,g2,g3⟩:=hs.map i en b' ho' hb'
   refine ⟨es0,clk0,?_,g2,fun a k x hx => let ⟨en,k1,k2,k3⟩:=g3 a k x hx; ⟨en,k1,k2,k3.step hst⟩⟩
   rw [hn b' (fun eb => e (hs.inj i id b (by rw [← eb]; exact hb') hb))]; exact g1
theorem zV [GlobT] {fl : Nat} {c : Ctx} {w' : World} {id b : Nat} {q q' : Obj}
  (hs : Sim FT c) (hfl : fl ≤ id) (ho : c.H[id]? = some (.raw q)) (hb : c.β id = some b)
  (hh : w'.heap = c.w.heap.setIfInBounds b q') (h1 : w'.os = c.w.os) (h2 : w'.tape = c.w.tape) (h3 : w'.output = c.w.output) (hd : c.w.drawn ≤ w'.drawn:=by first | exact Nat.le_refl _ | exact Nat.le_succ _ | exact Nat.le_add_right _ _ | assumption) :
  Step fl c ⟨w',c.X,c.β,c.H.set id (.raw q')⟩:=by
 have hn : ∀ k,k ≠ b → w'.heap[k]? = c.w.heap[k]?:=fun k hk => by
  rw [hh,Array.getElem?_setIfInBounds_ne (Ne.symm hk)]
 refine ⟨rfl,h1,h2,h3,hd,by simp [hh],by simp,fun k _ hk => hn k (fun e => hk id (by rw [e]; exact hb)),fun i _ h => .inr ⟨i,h⟩,?_,?_,?_⟩
 ·intro i s n hs'
  have e : i ≠ id:=by intro e; subst e; simp [shp,ho] at hs'
  refine ⟨n,by simpa [shp,getElem?_set_ne' e] using hs',Nat.le_refl _,fun _ => ⟨rfl,fun b' cs0 T0 hb' hc0 => ⟨cs0,?_,rfl⟩⟩⟩
  exact (hn b' (fun eb => e (hs.inj i id b (by rw [← eb]; exact hb') hb))).trans hc0
 ·intro i hm
  refine ⟨?_,rfl⟩
  by_cases e : i = id
  ·subst e; exact ⟨.raw q',getElem?_set_eq' ho,trivial⟩
  ·obtain ⟨en,he,hnb⟩:=hm
   exact ⟨en,by simpa [getElem?_set_ne' e] using he,hnb⟩
 ·intro i hi
  have e : i ≠ id:=by omega
  exact ⟨getElem?_set_ne' e,rfl,fun b' hb' => hn b' (fun eb => e (hs.inj i id b (by rw [← eb]; exact hb') hb))⟩
theorem aLb [GlobT] {c : Ctx} {w' : World} {id b : Nat} {q q' : Obj}
  (hs : Sim FT c) (ho : c.H[id]? = some (.raw q)) (hb : c.β id = some b)
  (hh : w'.heap = c.w.heap.setIfInBounds b q') (h1 : w'.os = c.w.os) (h2 : w'.tape = c.w.tape) (h3 : w'.output = c.w.output) (hd : c.w.drawn ≤ w'.drawn:=by first | exact Nat.le_refl _ | exact Nat.le_succ _ | exact Nat.le_add_right _ _ | assumption) :
  Sim FT ⟨w',c.X,c.β,c.H.set id (.raw q')⟩:=by
 have hst:=zV (fl:=0) (q':=q') hs (Nat.zero_le _) ho hb hh h1 h2 h3
 have hn : ∀ k,k ≠ b → w'.heap[k]? = c.w.heap[k]?:=fun k hk => by
  rw [hh,Array.getElem?_setIfInBounds_ne (Ne.symm hk)]
 have hbl:=hs.lt hb
 refine ⟨hs.gl.step hst,hs.inj,?_,hs.nx,fun k hk => hs.fresh k (by simpa [hh] using hk),?_,?_,?_,?_⟩
 ·intro i b' hb'
  have:=hs.dom i b' hb'
  simpa using this
 ·intro i s' es0 ho'
  simp only at ho'
  have e : i ≠ id:=by intro e; subst e; rw [getElem?_set_eq' ho] at ho'; cases ho'
  rw [getElem?_set_ne' e] at ho'
  exact hs.lens i s' es0 ho'
 ·intro i s' es0 b' ho' hb'
  simp only at ho' hb' ⊢
  have e : i ≠ id:=by intro e; subst e; rw [getElem?_set_eq' ho] at ho'; cases ho'
  rw [getElem?_set_ne' e] at ho'
  obtain ⟨cs0,T0,g1,g2,g3⟩:=hs.blk i s' es0 b' ho' hb'
  refine ⟨cs0,T0,?_,g2,fun a d x hx => let ⟨v,k1,k2,k3⟩:=g3 a d x hx; ⟨v,k1,k2,k3.step hst⟩⟩
  rw [hn b' (fun eb => e (hs.inj i id b (by rw [← eb]; exact hb') hb))]; exact g1
 ·intro i en b' ho' hb'
  simp only at ho' hb' ⊢
  have e : i ≠ id:=by intro e; subst e; rw [getElem?_set_eq' ho] at ho'; cases ho'
  rw [getElem?_set_ne' e] at ho'
  obtain ⟨es0,clk0,g1,g2,g3⟩:=hs.map i en b' ho' hb'
  refine ⟨es0,clk0,?_,g2,fun a k x hx => let ⟨en,k1,k2,k3⟩:=g3 a k x hx; ⟨en,k1,k2,k3.step hst⟩⟩
  rw [hn b' (fun eb => e (hs.inj i id b (by rw [← eb]; exact hb') hb))]; exact g1
 ·intro i q0 b' ho' hb'
  simp only at ho' hb' ⊢
  by_cases e : i = id
  ·subst e
   rw [getElem?_set_eq' ho] at ho'
   cases ho'
   rw [hb] at hb'; cases hb'
   rw [hh]; simp [hbl]
  ·rw [getElem?_set_ne' e] at ho'
   have g1:=hs.raw i q0 b' ho' hb'
   rw [hn b' (fun eb => e (hs.inj i id b (by rw [← eb]; exact hb') hb))]; exact g1
end Go.Proofs.YtkdnaejhpcibnaaGreatDoor.Av
namespace Go.Proofs.YtkdnaejhpcibnaaGreatDoor.Av
open Go
def ftOf (T : List AFun) (vi : Nat) : Option Nat:=match T[vi]? with | some F => some F.fid | none => none
def veq : Value → Value → Bool
 | .bool a,.bool b => a == b
 | .int k a,.int k' b => decide (k = k') && decide (a = b)
 | .string a,.string b => decide (a.data = b.data)
 | .slice none 0 0,.slice none 0 0 => true
 | .pointer none,.pointer none => true
 | .map none,.map none => true
 | .nilFunc,.nilFunc => true
 | .nilIface,.nilIface => true
 | _,_ => false
theorem aMf {a b : Value} (h : veq a b = true) : a = b:=by
 unfold veq at h
 split at h
 ·simp_all
 ·simp only [Bool.and_eq_true,decide_eq_true_eq] at h; rw [h.1,h.2]
 ·rename_i x y
  simp only [decide_eq_true_eq] at h
  cases x; cases y; simp_all
 all_goals first | rfl | cases h
def veqL : List Value → List Value → Bool
 | [],[] => true
 | a :: r,b :: s => veq a b && veqL r s
 | _,_ => false
theorem aD6 [GlobT] : ∀ {a b : List Value},veqL a b = true → a = b
 | [],[],_ => rfl
 | a :: r,b :: s,h => by
  simp only [veqL,Bool.and_eq_true] at h
  rw [aMf h.1,aD6 h.2]
 | [],_ :: _,h => by cases h
 | _ :: _,[],h => by cases h
theorem aK7 {a b : Value} (h : veq a b = true) : lB a = true:=by
 unfold veq at h
 split at h <;> first | rfl | cases h
theorem rG [GlobT] : ∀ {a b : List Value},veqL a b = true → ∀ v ∈ a,lB v = true
 | [],[],_,v,hv => by cases hv
 | a :: r,b :: s,h,v,hv => by
  simp only [veqL,Bool.and_eq_true] at h
  rcases List.mem_cons.1 hv with rfl | hv
  ·exact aK7 h.1
  ·exact rG h.2 v hv
 | [],_ :: _,h,_,_ => by cases h
 | _ :: _,[],h,_,_ => by cases h
section
variable (P : Program) (T : List AFun)
def kN : AOpd → Operand → Bool
 | .tmp t,.tmp u => t == u
 | .lit v,.const u => veq v u
 | .agg vs,.const (.agg us) => veqL vs us.toList
 | .fn vi,.func f => ftOf T vi == some f
 | .glob g,.global g' => g == g'
 | _,_ => false
def nM : List AOpd → List Operand → Bool
 | [],[] => true
 | a :: r,b :: s => kN T a b && nM r s
 | _,_ => false
def sL : Option AOpd → Option Operand → Bool
 | none,none => true
 | some a,some b => kN T a b
 | _,_ => false
def qC (t : TypeId) (z : List Value) : Bool :=
 match P.info? t with
 | some i => match i.zero with
  | some v => veqL z v.cells.toList
  | none => false
 | none => false
def mM (t : TypeId) (n : Nat) : Bool :=
 match P.info? t with
 | some i => i.size == n
 | none => false
def qP (t : TypeId) (n : Nat) : Bool :=
 match P.info? t with
 | some i => i.bytes == n
 | none => false
def xO (t : TypeId) (b : Bool) : Bool :=
 match P.underlying t with
 | some (.struct _) => b
 | some (.array _ _) => b
 | some _ => !b
 | none => false
def xF (place : Nat → Option (Nat × Nat)) : List (Nat × Nat × AOpd) → List (Nat × Operand) → Bool
 | [],[] => true
 | (o,s,x) :: r,(i,y) :: q => place i == some (o,s) && kN T x y && xF place r q
 | _,_ => false
def xH : List (Nat × AOpd) → List (Nat × Operand) → Bool
 | [],[] => true
 | (i,x) :: r,(j,y) :: q => i == j && kN T x y && xH r q
 | _,_ => false
def yD (fs : Array Field) (i : Nat) : Option (Nat × Nat) :=
 match fs[i]? with
 | some f => match P.info? f.type with
  | some n => some (f.offset,n.size)
  | none => none
 | none => none
def aFn (fs : List Field) : Bool:=fs.all fun f => (P.info? f.type).isSome
def mH (a : AOp) (o : Op) : Bool :=
 match a with
 | .mov x => (match o with
  | .move y => kN T x y
  | .assign y => kN T x y
  | _ => false)
 | .movN x => (match o with
  | .move y => kN T x y
  | .assign y => kN T x y
  | _ => false)
 | .rangeStr x => (match o with
  | .range t y => kN T x y && (match P.underlying t with | some .string => true | _ => false)
  | _ => false)
 | .nextStr x => (match o with
  | .next y b => kN T x y && b
  | _ => false)
 | .freeze x => (match o with
  | .move y => kN T x y
  | .assign y => kN T x y
  | _ => false)
 | .loadF n _ x => (match o with
  | .load t y => xO P t true && mM P t n && kN T x y
  | _ => false)
 | .pick c a b => (match o with
  | .pick c' a' b' => kN T c c' && kN T a a' && kN T b b'
  | _ => false)
 | .alloc z => (match o with
  | .alloc t => qC P t z
  | _ => false)
 | .claim _ => (match o with
  | .move (.const (.slice none 0 0)) => true
  | .assign (.const (.slice none 0 0)) => true
  | _ => false)
 | .allocC z cl => (match o with
  | .alloc t => qC P t z && cl.all fun c => match z[c.1]? with | some (.slice none 0 0) => true | _ => false
  | _ => false)
 | .box x => (match o with
  | .box _ y => kN T x y
  | _ => false)
 | .build z ps => (match o with
  | .build t qs => qC P t z && match P.underlying t with
   | some (.struct fs) => aFn P fs.toList && xF T (yD P fs) ps qs.toList
   | some (.array _ e) => match P.info? e with
    | some i => xF T (fun k => some (k * i.size,i.size)) ps qs.toList
    | none => false
   | _ => false
  | _ => false)
 | .buildSl _ s n z ps => (match o with
  | .buildSlice t m qs => n == m && match P.underlying t with
   | some (.slice e) => mM P e s && qC P e z && z.length == s && decide (0 < s) && decide (n * s ≤ 2 ^ 24) && xH T ps qs.toList
   | _ => false
  | _ => false)
 | .load agg n x => (match o with
  | .load t y => xO P t agg && mM P t n && (agg || n == 1) && kN T x y
  | _ => false)
 | .store n x v => (match o with
  | .store t y u => mM P t n && kN T x y && kN T v u
  | _ => false)
 | .nilCheck x => (match o with
  | .nilCheck y => kN T x y
  | _ => false)
 | .ibin op x y => (match o with
  | .binOp op' _ x' y' _ => decide (op = op') && kN T x x' && kN T y y'
  | _ => false)
 | .bin op t x y => (match o with
  | .binOp op' t' x' y' _ => decide (op = op') && t == t' && kN T x x' && kN T y y'
  | _ => false)
 | .un op x => (match o with
  | .unOp op' _ y => decide (op = op') && kN T x y
  | _ => false)
 | .conv s d x => (match o with
  | .convert s' d' y => s == s' && d == d' && kN T x y
  | _ => false)
 | .fieldAddr off x => (match o with
  | .fieldAddr t y f => kN T x y && match P.underlying t with
   | some (.struct fs) => match fs[f]? with
    | some fd => fd.offset == off && match P.info? fd.type with
     | some i => i.size != 0
     | none => false
    | none => false
   | _ => false
  | _ => false)
 | .field agg n off x => (match o with
  | .field t y f => kN T x y && match P.underlying t with
   | some (.struct fs) => match fs[f]? with
    | some fd => fd.offset == off && xO P fd.type agg && mM P fd.type n && (agg || n == 1)
    | none => false
   | _ => false
  | _ => false)
 | .idxAddr s x i => (match o with
  | .indexAddr t y j => kN T x y && kN T i j && match P.underlying t with
   | some (.slice e) => mM P e s
   | _ => false
  | _ => false)
 | .idxArr s n x i => (match o with
  | .indexAddr t y j => kN T x y && kN T i j && match P.underlying t with
   | some (.array m e) => m == n && mM P e s
   | _ => false
  | _ => false)
 | .index agg s n x i => (match o with
  | .index t y j => kN T x y && kN T i j && match P.underlying t with
   | some (.array m e) => m == n && mM P e s && xO P e agg && (agg || s == 1)
   | _ => false
  | _ => false)
 | .strIdx t x i => (match o with
  | .index t' y j => t == t' && kN T x y && kN T i j
  | _ => false)
 | .slice s x lo hi mx => (match o with
  | .slice t y lo' hi' mx' => kN T x y && sL T lo lo' && sL T hi hi' && sL T mx mx' && match P.underlying t with
   | some (.slice e) => mM P e s
   | _ => false
  | _ => false)
 | .strSlice t x lo hi => (match o with
  | .slice t' y lo' hi' none => t == t' && kN T x y && sL T lo lo' && sL T hi hi' && match P.underlying t with
   | some .string => true
   | _ => false
  | _ => false)
 | .mkSlice s z bytes l c => (match o with
  | .makeSlice t l' c' => kN T l l' && kN T c c' && match P.underlying t with
   | some (.slice e) => mM P e s && qP P e bytes && qC P e z && decide (0 < s)
   | _ => false
  | _ => false)
 | .mkMap => (match o with
  | .makeMap _ none => true
  | _ => false)
 | .lookup kt z m k ok => (match o with
  | .lookup t m' k' ok' => ok == ok' && kN T m m' && kN T k k' && match P.underlying t with
   | some (.map kt' e) => kt == kt' && match P.info? e with
    | some i => match i.zero,z with
     | some v,.lit u => veq u v
     | some (.agg us),.agg vs => veqL vs us.toList
     | _,_ => false
    | none => false
   | _ => false
  | _ => false)
 | .mapUpd kt m k v => (match o with
  | .mapUpdate t m' k' v' => kN T m m' && kN T k k' && kN T v v' && match P.underlying t with
   | some (.map kt' _) => kt == kt'
   | _ => false
  | .insert t m' k' v' => kN T m m' && kN T k k' && kN T v v' && match P.underlying t with
   | some (.map kt' _) => kt == kt'
   | _ => false
  | _ => false)
 | .lenS x => (match o with
  | .call ⟨.builtin .len,as,ts⟩ => match as.toList,ts.toList with
   | [y],[t] => kN T x y && match P.underlying t with
    | some (.slice _) => true
    | _ => false
   | _,_ => false
  | _ => false)
 | .lenM x => (match o with
  | .call ⟨.builtin .len,as,ts⟩ => match as.toList,ts.toList with
   | [y],[t] => kN T x y && match P.underlying t with
    | some (.map _ _) => true
    | _ => false
   | _,_ => false
  | _ => false)
 | .lenStr t x => (match o with
  | .call ⟨.builtin .len,as,ts⟩ => match as.toList,ts.toList with
   | [y],[t'] => t == t' && kN T x y
   | _,_ => false
  | _ => false)
 | .lenC n => (match o with
  | .call ⟨.builtin .len,as,ts⟩ => match as.toList,ts.toList with
   | [_],[t] => match P.underlying t with
    | some (.array m _) => m == n
    | _ => false
   | _,_ => false
  | _ => false)
 | .append s bytes x y => (match o with
  | .call ⟨.builtin .append,as,ts⟩ => match as.toList,ts.toList with
   | [x',y'],[t,t'] => kN T x x' && kN T y y' && (match P.underlying t' with | some (.slice _) => true | _ => false) && match P.underlying t with
    | some (.slice e) => mM P e s && qP P e bytes && match P.info? e with
     | some i => match i.zero with | some z => z.cells.size == s | none => false
     | none => false
    | _ => false
   | _,_ => false
  | _ => false)
 | .appendP s bytes x y => (match o with
  | .call ⟨.builtin .append,as,ts⟩ => match as.toList,ts.toList with
   | [x',y'],[t,t'] => kN T x x' && kN T y y' && (match P.underlying t' with | some (.slice _) => true | _ => false) && match P.underlying t with
    | some (.slice e) => mM P e s && qP P e bytes && match P.info? e with
     | some i => match i.zero with | some z => z.cells.size == s | none => false
     | none => false
    | _ => false
   | _,_ => false
  | _ => false)
 | .appendZ s bytes z x y => (match o with
  | .call ⟨.builtin .append,as,ts⟩ => match as.toList,ts.toList with
   | [x',y'],[t,t'] => kN T x x' && kN T y y' && (match P.underlying t' with | some (.int _) => true | _ => false) && match P.underlying t with
    | some (.slice e) => mM P e s && qP P e bytes && qC P e z
    | _ => false
   | _,_ => false
  | _ => false)
 | .copy s x y => (match o with
  | .call ⟨.builtin .copy,as,ts⟩ => match as.toList,ts.toList with
   | [x',y'],[t,_] => kN T x x' && kN T y y' && match P.underlying t with
    | some (.slice e) => mM P e s
    | _ => false
   | _,_ => false
  | _ => false)
 | .delete kt m k => (match o with
  | .call ⟨.builtin .delete,as,ts⟩ => match as.toList,ts.toList with
   | [m',k'],t :: _ => kN T m m' && kN T k k' && match P.underlying t with
    | some (.map kt' _) => kt == kt'
    | _ => false
   | _,_ => false
  | _ => false)
 | .minmax mx xs => (match o with
  | .call ⟨.builtin .max,as,_⟩ => mx && nM T xs as.toList
  | .call ⟨.builtin .min,as,_⟩ => !mx && nM T xs as.toList
  | _ => false)
 | .mkFn vi caps => (match o with
  | .makeFunc (.func f) first cs => first.isEmpty && ftOf T vi == some f && nM T caps cs.toList
  | _ => false)
 | .call _ vi args => (match o with
  | .call ⟨.value (.func f),as,_⟩ => ftOf T vi == some f && nM T args as.toList
  | _ => false)
 | .callS vi args => (match o with
  | .call ⟨.value (.func f),as,_⟩ => ftOf T vi == some f && nM T args as.toList
  | _ => false)
 | .callF vi args => (match o with
  | .call ⟨.value (.func f),as,_⟩ => ftOf T vi == some f && nM T args as.toList
  | _ => false)
 | .capS x => (match o with
  | .call ⟨.builtin .cap,as,ts⟩ => match as.toList,ts.toList with
   | [y],[t] => kN T x y && match P.underlying t with
    | some (.slice _) => true
    | _ => false
   | _,_ => false
  | _ => false)
 | .callv _ x args => (match o with
  | .call ⟨.value y,as,_⟩ => kN T x y && nM T args as.toList
  | _ => false)
 | .extract x i => (match o with
  | .extract y j => i == j && kN T x y
  | _ => false)
def xG (ops : Array Oper) : Option (Nat × Bool) → Option (Nat × Bool) → Bool
 | none,none => true
 | some (t,b),some (j,b') => b == b' && match ops[j]? with
  | some o => o.dst == some t
  | none => false
 | _,_ => false
def tT (ops : Array Oper) (a : AOper) (o : Oper) : Bool:=a.dst == o.dst && xG ops a.guard o.guard && mH P T a.op o.op
def sG (ops : Array Oper) : List AOper → List Oper → Bool
 | [],[] => true
 | a :: r,o :: s => tT P T ops a o && sG ops r s
 | _,_ => false
def aEe (acc : List Nat) : List Nat → Nat
 | [] => 0
 | d :: r => (2 ^ d ||| acc.getD d 0) ||| aEe acc r
def ancs (ops : List Oper) : Nat → List Nat → List Nat
 | 0,acc => acc
 | n + 1,acc =>
  let ds:=match ops[acc.length]? with
   | some o => (o.after.toList.filter fun e => Region.binds .any e && decide (e.on < acc.length)).map fun (e : Edge) => e.on
   | none => []
  ancs ops n (acc ++ [aEe acc ds])
def optL : Option AOpd → List AOpd
 | some x => [x]
 | none => []
def wA : AOp → List AOpd
 | .mov x => [x]
 | .movN x => [x]
 | .freeze x => [x]
 | .loadF _ _ x => [x]
 | .appendP _ _ x y => [x,y]
 | .rangeStr x => [x]
 | .nextStr x => [x]
 | .pick x y z => [x,y,z]
 | .alloc _ => []
 | .claim _ => []
 | .allocC _ _ => []
 | .box x => [x]
 | .build _ ps => ps.map fun p => p.2.2
 | .buildSl _ _ _ _ ps => ps.map fun p => p.2
 | .load _ _ x => [x]
 | .store _ x y => [x,y]
 | .nilCheck x => [x]
 | .ibin _ x y => [x,y]
 | .bin _ _ x y => [x,y]
 | .un _ x => [x]
 | .conv _ _ x => [x]
 | .fieldAddr _ x => [x]
 | .field _ _ _ x => [x]
 | .idxAddr _ x y => [x,y]
 | .idxArr _ _ x y => [x,y]
 | .index _ _ _ x y => [x,y]
 | .strIdx _ x y => [x,y]
 | .slice _ x lo hi mx => x :: (optL lo ++ (optL hi ++ optL mx))
 | .strSlice _ x lo hi => x :: (optL lo ++ optL hi)
 | .mkSlice _ _ _ x y => [x,y]
 | .mkMap => []
 | .lookup _ z m k _ => [z,m,k]
 | .mapUpd _ m k v => [m,k,v]
 | .lenS x => [x]
 | .lenM x => [x]
 | .lenStr _ x => [x]
 | .lenC _ => []
 | .append _ _ x y => [x,y]
 | .appendZ _ _ _ x y => [x,y]
 | .copy _ x y => [x,y]
 | .delete _ x y => [x,y]
 | .minmax _ xs => xs
 | .mkFn _ xs => xs
 | .call _ _ xs => xs
 | .callv _ x xs => x :: xs
 | .callF _ xs => xs
 | .callS _ xs => xs
 | .capS x => [x]
 | .extract x _ => [x]
def yM : List AOpd → List Nat
 | [] => []
 | .tmp t :: r => t :: yM r
 | _ :: r => yM r
def aAm (o : AOper) : List Nat :=
 match o.guard with
 | some (t,_) => t :: yM (wA o.op)
 | none => yM (wA o.op)
def aC6 (x y : AOper) : Bool :=
 match x.dst with
 | some d => (aAm y).contains d || y.dst == some d
 | none => false
def nB : AOp → Bool
 | .mov _ => true
 | .movN _ => true
 | .pick .. => true
 | .build .. => true
 | .buildSl pu .. => pu
 | .appendP .. => true
 | .load .. => true
 | .nilCheck _ => true
 | .ibin .. => true
 | .bin .. => true
 | .un .. => true
 | .conv .. => true
 | .fieldAddr .. => true
 | .field .. => true
 | .idxAddr .. => true
 | .idxArr .. => true
 | .index .. => true
 | .strIdx .. => true
 | .slice .. => true
 | .strSlice .. => true
 | .lookup .. => true
 | .lenS _ => true
 | .capS _ => true
 | .lenM _ => true
 | .lenStr .. => true
 | .lenC _ => true
 | .minmax .. => true
 | .mkFn .. => true
 | .call pu .. => pu
 | .callv pu .. => pu
 | .extract .. => true
 | .callS .. => true
 | _ => false
def qT : AOp → Bool
 | .mov _ => true
 | .movN _ => true
 | .pick .. => true
 | .build .. => true
 | .buildSl pu .. => pu
 | .appendP .. => true
 | .nilCheck _ => true
 | .ibin .. => true
 | .bin .. => true
 | .un .. => true
 | .conv .. => true
 | .fieldAddr .. => true
 | .field .. => true
 | .idxArr .. => true
 | .index .. => true
 | .strIdx .. => true
 | .strSlice .. => true
 | .lenS _ => true
 | .capS _ => true
 | .lenStr .. => true
 | .lenC _ => true
 | .minmax .. => true
 | .mkFn .. => true
 | .extract .. => true
 | _ => false
def aHi (ops : List Oper) : Nat → Bool
 | 0 => true
 | n + 1 => aHi ops n && match ops[n]? with
  | some o => o.after.toList.all fun e => !Region.binds .any e || decide (e.on < n)
  | none => true
def lH (aops : List AOper) (k : Nat) : Bool:=match aops[k]? with
 | some o => nB o.op
 | none => true
def nX (aops : List AOper) (k : Nat) : Bool:=match aops[k]? with
 | some o => qT o.op
 | none => true
def nD (aops : List AOper) (k : Nat) : Bool:=match aops[k]? with
 | some o => match o.dst with
  | some _ => match o.op with
   | .alloc _ => match o.guard with
    | none => true
    | some _ => false
   | _ => false
  | none => false
 | none => false
def sU (aops : List AOper) (an : List Nat) : Nat → Nat → Nat
 | 0,_ => aops.length
 | n + 1,i => if nD aops i && nD aops (i + 1) && !(an.getD (i + 1) 0).testBit i then i else sU aops an n (i + 1)
def aAi (sw : Nat) (aops : List AOper) (an : List Nat) : Nat → Bool
 | 0 => true
 | j + 1 => aAi sw aops an j && ((List.range j).all fun i =>
  (an.getD j 0).testBit i || ((lH aops i || lH aops j || (i == sw && j == sw + 1 && nD aops i && nD aops j)) && match aops[i]?,aops[j]? with
   | some x,some y => !aC6 x y && !aC6 y x
   | _,_ => false))
def aMk (aops : List AOper) (ck : List (Nat × Nat)) (an : List Nat) (n : Nat) : Bool :=
 (List.range n).all fun k => nX aops k || !lH aops k || ((List.range n).all fun m => lH aops m || (an.getD k 0).testBit m || (an.getD m 0).testBit k || ck.contains (k,m))
def aIs (P : Program) (d0 d1 : Nat) (o : Oper) : Bool :=
 (match o.dst with | some d => d == d1 | none => false) && o.guard.isNone && match o.op with
  | .binOp .eql t (.tmp x) (.const (.slice none 0 0)) _ => x == d0 && match P.underlying t with
   | some (.slice _) => true
   | _ => false
  | _ => false
def aHt (sw : Nat) (aops : List AOper) (ck : List (Nat × Nat)) (an : List Nat) (n : Nat) : Bool :=
 !decide (sw + 1 < n) || (List.range n).all fun k => !lH aops k || nX aops k || (an.getD k 0).testBit sw || ck.contains (k,sw)
def chkC : ACode → Code → Bool
 | .skip,.skip => true
 | .skip,.label _ => true
 | .region draw ck aops,.region _ ops draw' => draw == draw' && sG P T ops aops ops.toList && (!draw || (aAi (sU aops (ancs ops.toList ops.size []) ops.size 0) aops (ancs ops.toList ops.size []) ops.size && (aMk aops ck (ancs ops.toList ops.size []) ops.size && aHt (sU aops (ancs ops.toList ops.size []) ops.size 0) aops ck (ancs ops.toList ops.size []) ops.size) && aHi ops.toList ops.size))
 | .seq a b,.seq a' b' => chkC a a' && chkC b b'
 | .cond c a b,.cond c' a' b' => kN T c c' && chkC a a' && chkC b b'
 | .block i c,.block j d => i == j && chkC c d
 | .loop _ _ c,.loop d => chkC c d
 | .exit i,.exit j => i == j
 | .ret,.ret => true
 | .frz _ c,d => chkC c d
 | .mask _ _ _ c,d => chkC c d
 | .loopV _ _ _ _ c,.loop d => chkC c d
 | .scope c,.scope d => chkC c d
 | .nilIf t d0 d1 a b,.seq (.seq (.region _ ops draw) (.cond (.tmp e) a' .skip)) b' => !draw && e == d1 && (match ops.toList with
   | [o1,o2] => tT P T ops ⟨some d0,.mov (.tmp t),none⟩ o1 && aIs P d0 d1 o2
   | _ => false) && chkC a a' && chkC b b'
 | .stop,_ => true
 | _,_ => false
def uX : List ARes → List ResultVar → Bool
 | [],[] => true
 | .tmp t :: r,.tmp u :: s => t == u && uX r s
 | .cell t n agg :: r,.cell u ty :: s => t == u && mM P ty n && xO P ty agg && (agg || n == 1) && uX r s
 | _,_ => false
def kJ (F : AFun) : Bool :=
 match P.funcs[F.fid]? with
 | some fn => match fn.body with
  | some c => chkC P T F.body c && fn.ntmps == F.nt && uX P F.rets fn.results.toList && !(fn.name == "runtime.NumGoroutine")
  | none => false
 | none => false
end
end Go.Proofs.YtkdnaejhpcibnaaGreatDoor.Av
namespace Go.Proofs.YtkdnaejhpcibnaaGreatDoor.Av
open Go
theorem lJ [GlobT] {α : Type} {P : Program} {a : α} {w : World} : ∀ {s : Sem α},kM P s = some a → s.run P w = .ok a w
 | .pure _,h => by simp only [kM,Option.some.injEq] at h; subst h; rfl
 | .program k,h => by
  simp only [kM] at h
  simp only [Sem.run]
  exact lJ h
 | .mark _ k,h => by
  simp only [kM] at h
  simp only [Sem.run]
  exact lJ h
 | .load ..,h => by simp [kM] at h
 | .store ..,h => by simp [kM] at h
 | .new ..,h => by simp [kM] at h
 | .shape ..,h => by simp [kM] at h
 | .freeze ..,h => by simp [kM] at h
 | .frozen ..,h => by simp [kM] at h
 | .getObj ..,h => by simp [kM] at h
 | .setObj ..,h => by simp [kM] at h
 | .choose ..,h => by simp [kM] at h
 | .sys ..,h => by simp [kM] at h
 | .halt ..,h => by simp [kM] at h
section inv
variable {FT : Nat → Option Nat} {c : Ctx} {v : Value}
theorem RV.ptr_inv {id tot idx off : Nat} (h : RV FT c (.ptr id tot idx off) v) : ∃ a s n,v = .pointer (some a) ∧ shp c.H id = some (s,n) ∧ tot ≤ n ∧
  (tot = n → ∃ b,c.β id = some b ∧ a = ⟨b,idx * s + off,none⟩):=by
 cases h with
 | pure _ _ hp => cases hp
 | ptr _ _ _ _ a s n h1 h2 h3 => exact ⟨a,s,n,rfl,h1,h2,h3⟩
theorem RV.ms_inv {id tot off len : Nat} (h : RV FT c (.ms id tot off len) v) : ∃ a cap s n,v = .slice a len cap ∧ shp c.H id = some (s,n) ∧ tot ≤ n ∧ len ≤ cap ∧
  (tot = n → MsOk c id tot off len a cap s):=by
 cases h with
 | pure _ _ hp => cases hp
 | ms _ _ _ _ a cap s n h1 h2 h3 h4 => exact ⟨a,cap,s,n,rfl,h1,h2,h3,h4⟩
theorem RV.sl_inv {f : Bool} {es : List (List AV)} (h : RV FT c (.sl f es) v) : RP c.w (Imm c) (.sl f es) v:=by
 cases h with
 | pure _ _ hp => exact hp
theorem RV.rptr_inv {cs : List AV} (h : RV FT c (.rptr cs) v) : ∃ (b off : Nat) (cc : Array Value) (T : TypeId) (fz : Nat × Nat) (vals : Nat → Value),v = .pointer (some ⟨b,off,none⟩) ∧ Imm c b ∧
  c.w.heap[b]? = some (.cells cc T fz) ∧ (∀ (j : Nat) (x : AV),cs[j]? = some x → cc[off + j]? = some (vals j) ∧ lB (vals j) = true) ∧
  (∀ (j : Nat) (x : AV),cs[j]? = some x → RP c.w (Imm c) x (vals j)):=by
 cases h with
 | pure _ _ hp => cases hp
 | rptr _ b off cc T fz vals h1 h2 h3 h4 => exact ⟨b,off,cc,T,fz,vals,rfl,h1,h2,h3,h4⟩
theorem RV.mp_inv {id : Nat} (h : RV FT c (.mp id) v) : ∃ b,v = .map (some b) ∧ zH c.H id ∧ c.β id = some b:=by
 cases h with
 | pure _ _ hp => cases hp
 | mp _ b h1 h2 => exact ⟨b,rfl,h1,h2⟩
theorem RV.it_inv {id : Nat} (h : RV FT c (.it id) v) : ∃ b,v = .pointer (some ⟨b,0,none⟩) ∧ zH c.H id ∧ c.β id = some b:=by
 cases h with
 | pure _ _ hp => cases hp
 | it _ b h1 h2 => exact ⟨b,rfl,h1,h2⟩
theorem RV.fn_inv {vi : Nat} {caps : List AV} (h : RV FT c (.fn vi caps) v) : ∃ (f : Nat) (cv : Array Value) (vals : Nat → Value),v = .func (.func f) #[] cv ∧ FT vi = some f ∧ cv.size = caps.length ∧
  (∀ (i : Nat) (x : AV),caps[i]? = some x → cv[i]? = some (vals i)) ∧ (∀ (i : Nat) (x : AV),caps[i]? = some x → RV FT c x (vals i)):=by
 cases h with
 | pure _ _ hp => cases hp
 | fn _ f _ cv vals h1 h2 h3 h4 => exact ⟨f,cv,vals,rfl,h1,h2,h3,h4⟩
theorem RV.agg_inv {cs : List AV} (h : RV FT c (.agg cs) v) : ∃ (cv : Array Value) (vals : Nat → Value),v = .agg cv ∧ cv.size = cs.length ∧
  (∀ (i : Nat) (x : AV),cs[i]? = some x → cv[i]? = some (vals i) ∧ lB (vals i) = true) ∧ (∀ (i : Nat) (x : AV),cs[i]? = some x → RV FT c x (vals i)):=by
 cases h with
 | pure _ _ hp => cases hp
 | agg _ cv vals h1 h2 h3 => exact ⟨cv,vals,rfl,h1,h2,h3⟩
theorem RV.tup_inv {cs : List AV} (h : RV FT c (.tup cs) v) : ∃ (cv : Array Value) (vals : Nat → Value),v = .tuple cv ∧ cv.size = cs.length ∧
  (∀ (i : Nat) (x : AV),cs[i]? = some x → cv[i]? = some (vals i)) ∧ (∀ (i : Nat) (x : AV),cs[i]? = some x → RV FT c x (vals i)):=by
 cases h with
 | pure _ _ hp => cases hp
 | tup _ cv vals h1 h2 h3 => exact ⟨cv,vals,rfl,h1,h2,h3⟩
end inv
theorem aDd (v : Value) : lB v = v.oneCell':=by cases v <;> rfl
section
variable {P : Program} {T : List AFun} {c : Ctx} {fl : Nat} {o : Oper} {a : Act} {tm : List AV}
def OpOK [GlobT] (P : Program) (FT : Nat → Option Nat) (c : Ctx) (fl : Nat) (o : Oper) (a : Act) (v : AV) (H' : Heap) : Prop :=
 ∀ (K : Act → World → Prop) (Q : Exit → Act → World → Prop),
  (∀ cv c',c'.H = H' → Step fl c c' → Sim FT c' → RV FT c' v cv → K (a.put o.dst cv) c'.w) → o.wp P a c.w K Q
theorem mX [GlobT] {FT : Nat → Option Nat} {v : AV} {H' : Heap} {cv : Value} {w' : World} {β' : Nat → Option Nat}
  (hr : (execOp a.eval o).run P c.w = .ok (.value cv) w') (hst : Step fl c ⟨w',c.X,β',H'⟩) (hs : Sim FT ⟨w',c.X,β',H'⟩)
  (hv : RV FT ⟨w',c.X,β',H'⟩ v cv) : OpOK P FT c fl o a v H':=by
 intro K Q hK
 unfold Oper.wp
 rw [hr]
 exact hK cv ⟨w',c.X,β',H'⟩ rfl hst hs hv
theorem aNd [GlobT] {FT : Nat → Option Nat} {H' : Heap} {w' : World} {β' : Nat → Option Nat}
  (hr : (execOp a.eval o).run P c.w = .ok .skip w') (hst : Step fl c ⟨w',c.X,β',H'⟩) (hs : Sim FT ⟨w',c.X,β',H'⟩) :
  OpOK P FT c fl o a (.lit lI) H':=by
 intro K Q hK
 unfold Oper.wp
 rw [hr]
 exact hK lI ⟨w',c.X,β',H'⟩ rfl hst hs (RV.lit _)
theorem lK [GlobT] {FT : Nat → Option Nat} {v : AV} {cv : Value} (hs : Sim FT c)
  (hr : (execOp a.eval o).run P c.w = .ok (.value cv) c.w) (hv : RV FT c v cv) : OpOK P FT c fl o a v c.H :=
 mX (β':=c.β) hr (Step.refl _ _) hs hv
theorem aAc [GlobT] {FT : Nat → Option Nat} (vs : List Value) (hsc : ∀ v ∈ vs,lB v = true) : RV FT c (.agg (vs.map .lit)) (.agg vs.toArray):=by
 refine .agg _ _ (fun i => vs.getD i lI) (by simp) ?_ ?_
 ·intro i x hx
  simp only [List.getElem?_map,Option.map_eq_some_iff] at hx
  obtain ⟨v,hv,rfl⟩:=hx
  refine ⟨by simp [hv],?_⟩
  simp only [List.getD_eq_getElem?_getD,hv,Option.getD_some]
  exact hsc v (List.mem_of_getElem? hv)
 ·intro i x hx
  simp only [List.getElem?_map,Option.map_eq_some_iff] at hx
  obtain ⟨v,hv,rfl⟩:=hx
  simp only [List.getD_eq_getElem?_getD,hv,Option.getD_some]
  exact RV.lit v
theorem kO [GlobT] (hs : Sim (ftOf T) c) (htr : TR (ftOf T) c tm a.tmps) {x : AOpd} {y : Operand} (h : kN T x y = true) : RV (ftOf T) c (kG tm x) (a.eval y):=by
 unfold kN at h
 split at h
 ·rename_i t u
  have : t = u:=by simpa using h
  subst this
  simp only [kG,Act.eval]
  cases ht : tm[t]? with
  | none =>
   have hlt : a.tmps.size ≤ t:=by rw [← htr.1]; simpa using ht
   have : a.tmps[t]? = none:=Array.getElem?_eq_none hlt
   simp only [Array.getD_eq_getD_getElem?,this,Option.getD_none]
   exact RV.lit _
  | some x =>
   obtain ⟨v,hv,hr⟩:=htr.2 t x ht
   simpa [Array.getD_eq_getD_getElem?,hv] using hr
 ·rw [aMf h]; exact RV.lit _
 ·rename_i vs us
  have e:=aD6 h
  simp only [kG,Act.eval]
  have : us = vs.toArray:=by rw [e]
  rw [this]
  exact aAc vs (rG h)
 ·rename_i vi f
  simp only [kG,Act.eval]
  refine .fn vi f [] #[] (fun _ => lI) (by simpa using h) rfl ?_ ?_ <;> intro i x hx <;> simp at hx
 ·rename_i g g'
  have : g = g':=by simpa using h
  subst this
  simp only [kG,Act.eval]
  split
  ·rename_i cs hcs
   exact hs.gl.rv hcs
  ·exact RV.undef _
 ·cases h
theorem aM6 [GlobT] (hs : Sim (ftOf T) c) (htr : TR (ftOf T) c tm a.tmps) {x : AOpd} {y : Operand} (ho : o.op = .move y ∨ o.op = .assign y) (h : kN T x y = true) :
  OpOK P (ftOf T) c fl o a (kG tm x) c.H:=by
 refine lK (cv:=a.eval y) hs ?_ (kO hs htr h)
 rcases ho with ho | ho <;> simp [execOp,ho]
theorem aUc [GlobT] (hs : Sim (ftOf T) c) (htr : TR (ftOf T) c tm a.tmps) {x y z : AOpd} {x' y' z' : Operand} {t : Bool} (ho : o.op = .pick x' y' z')
  (h1 : kN T x x' = true) (h2 : kN T y y' = true) (h3 : kN T z z' = true) (ht : kG tm x = .lit (.bool t)) :
  OpOK P (ftOf T) c fl o a (if t then kG tm y else kG tm z) c.H:=by
 have hx:=kO hs htr h1
 rw [ht] at hx
 have ex:=hx.lit_inv
 refine lK (cv:=if t then a.eval y' else a.eval z') hs ?_ ?_
 ·simp [execOp,ho,ex,asBool]
 ·cases t
  ·exact kO hs htr h3
  ·exact kO hs htr h2
theorem oA [GlobT] {t : TypeId} {z : List Value} (h : qC P t z = true) : ∃ i v,P.info? t = some i ∧ i.zero = some v ∧ v.cells = z.toArray ∧ ∀ u ∈ z,lB u = true:=by
 unfold qC at h
 split at h
 ·rename_i i hi
  split at h
  ·rename_i v hv
   refine ⟨i,v,hi,hv,?_,rG h⟩
   have:=aD6 h
   rw [this]
  ·cases h
 ·cases h
theorem aHd {cs : List AV} {i j : Nat} {x : AV} (h : mA [cs] i j = some x) : i = 0 ∧ cs[j]? = some x:=by
 unfold mA at h
 cases i with
 | zero => simpa using h
 | succ i => simp at h
theorem aLe {FT : Nat → Option Nat} {w' : World} {X : Nat → Prop} {s : Nat} {cs : List AV} {L : List AObj} (β : Nat → Option Nat) (H : Heap) (b : Nat)
  (hb : β H.length = some b) : RV FT ⟨w',X,β,H ++ .blk s [cs] :: L⟩ (.ptr H.length 1 0 0) (.pointer (some ⟨b,0,none⟩)) :=
 .ptr H.length 1 0 0 _ s 1 (by simp [shp]) (Nat.le_refl _) fun _ => ⟨b,hb,by simp⟩
theorem aAj [GlobT] (hs : Sim (ftOf T) c) (hfl : fl ≤ c.H.length) {cs : List AV} {cv : Array Value} {t : TypeId}
  (hr : (execOp a.eval o).run P c.w = .ok (.value (.pointer (some ⟨c.w.heap.size,0,none⟩))) (c.w.alloc (.cells cv t (0,0))))
  (hsz : cv.size = cs.length) (hcs : ∀ (j : Nat) (x : AV),cs[j]? = some x → ∃ v,cv[j]? = some v ∧ lB v = true ∧ RV (ftOf T) c x v) :
  OpOK P (ftOf T) c fl o a (.ptr c.H.length 1 0 0) (c.H ++ [.blk cs.length [cs]]):=by
 refine mX (β':=upd c.β c.H.length c.w.heap.size) hr (vV (ob:=.cells cv t (0,0)) hfl rfl rfl rfl rfl (fun id b hb => hs.lt hb))
  (aD7 (ob:=.cells cv t (0,0)) hs rfl rfl rfl rfl ?_ ?_ ?_ (fun _ h => by cases h)) (aLe (L:=[]) _ _ _ (mK _ _ _))
 ·intro s es he e hm
  cases he
  simp only [List.mem_singleton] at hm
  rw [hm]
 ·intro s es he
  cases he
  refine ⟨cv,t,rfl,by simp [hsz],?_⟩
  intro i j x hx
  obtain ⟨rfl,hj⟩:=aHd hx
  obtain ⟨v,h1,h2,h3⟩:=hcs j x hj
  exact ⟨v,by simpa using h1,h2,h3⟩
 ·intro ents he; cases he
theorem aQq [GlobT] (hs : Sim (ftOf T) c) (hfl : fl ≤ c.H.length) {z : List Value} {t : TypeId} (ho : o.op = .alloc t) (h : qC P t z = true) :
  OpOK P (ftOf T) c fl o a (.ptr c.H.length 1 0 0) (c.H ++ [.blk z.length [z.map .lit]]):=by
 obtain ⟨i,v,hi,hv,hc,hsc⟩:=oA h
 have:=aAj (P:=P) (o:=o) (a:=a) (cs:=z.map AV.lit) (cv:=z.toArray) (t:=t) hs hfl ?_ (by simp) ?_
 ·simpa using this
 ·simp [execOp,ho,Instr.alloc,zeroValue,typeInfo,hi,hv,newVar,newRow,hc]
 ·intro j x hx
  simp only [List.getElem?_map,Option.map_eq_some_iff] at hx
  obtain ⟨u,hu,rfl⟩:=hx
  exact ⟨u,by simpa using hu,hsc u (List.mem_of_getElem? hu),RV.lit u⟩
theorem uI [GlobT] {FT : Nat → Option Nat} {x : AV} {v : Value} {cs : List AV} (hr : RV FT c x v) (h : cellsOf x = some cs) :
  v.cells.size = cs.length ∧ ∀ (j : Nat) (y : AV),cs[j]? = some y → ∃ u,v.cells[j]? = some u ∧ lB u = true ∧ RV FT c y u:=by
 have one : ∀ {x : AV} {v : Value},RV FT c x v → lB v = true → cs = [x] →
   v.cells.size = cs.length ∧ ∀ (j : Nat) (y : AV),cs[j]? = some y → ∃ u,v.cells[j]? = some u ∧ lB u = true ∧ RV FT c y u:=by
  intro x v hr hsc e
  have hv : v.cells = #[v]:=by cases v <;> first | rfl | (simp [lB] at hsc)
  subst e
  rw [hv]
  refine ⟨rfl,fun j y hy => ?_⟩
  cases j with
  | zero => simp at hy; subst hy; exact ⟨v,by simp,hsc,hr⟩
  | succ j => simp at hy
 cases hr with
 | pure _ _ hp =>
  cases hp with
  | undef => simp [cellsOf] at h
  | lit v =>
   simp only [cellsOf] at h
   split at h
   ·rename_i hsc
    cases h
    exact one (RV.lit v) hsc rfl
   ·cases h
  | nil f a' cap hf =>
   simp only [cellsOf,Option.some.injEq] at h
   exact one (.pure _ _ (.nil f a' cap hf)) rfl h.symm
  | sl f es b off cap cc T fz s vals h1 h2 h3 h4 h5 h6 h7 h8 =>
   simp only [cellsOf,Option.some.injEq] at h
   exact one (.pure _ _ (.sl f es b off cap cc T fz s vals h1 h2 h3 h4 h5 h6 h7 h8)) rfl h.symm
 | ms id tot off len a' cap s n h1 h2 h3 h4 =>
  simp only [cellsOf,Option.some.injEq] at h
  exact one (.ms id tot off len a' cap s n h1 h2 h3 h4) rfl h.symm
 | ptr id tot idx off a' s n h1 h2 h3 =>
  simp only [cellsOf,Option.some.injEq] at h
  exact one (.ptr id tot idx off a' s n h1 h2 h3) rfl h.symm
 | rptr cs' b off cc T fz vals h1 h2 h3 h4 =>
  simp only [cellsOf,Option.some.injEq] at h
  exact one (.rptr cs' b off cc T fz vals h1 h2 h3 h4) rfl h.symm
 | mp id b h1 h2 =>
  simp only [cellsOf,Option.some.injEq] at h
  exact one (.mp id b h1 h2) rfl h.symm
 | it id b h1 h2 =>
  simp only [cellsOf,Option.some.injEq] at h
  exact one (.it id b h1 h2) rfl h.symm
 | fn vi f caps cv vals h1 h2 h3 h4 =>
  simp only [cellsOf,Option.some.injEq] at h
  exact one (.fn vi f caps cv vals h1 h2 h3 h4) rfl h.symm
 | agg cs' cv vals h1 h2 h3 =>
  simp only [cellsOf,Option.some.injEq] at h
  subst h
  exact ⟨h1,fun j y hy => ⟨vals j,(h2 j y hy).1,(h2 j y hy).2,h3 j y hy⟩⟩
 | tup => simp [cellsOf] at h
theorem aWm [GlobT] (hs : Sim (ftOf T) c) (htr : TR (ftOf T) c tm a.tmps) (hfl : fl ≤ c.H.length) {x : AOpd} {y : Operand} {t : TypeId} {cs : List AV} (ho : o.op = .box t y)
  (h : kN T x y = true) (hc : cellsOf (kG tm x) = some cs) :
  OpOK P (ftOf T) c fl o a (.ptr c.H.length 1 0 0) (c.H ++ [.blk cs.length [cs]]):=by
 obtain ⟨h1,h2⟩:=uI (kO hs htr h) hc
 refine aAj (cv:=(a.eval y).cells) (t:=t) hs hfl ?_ h1 h2
 simp [execOp,ho,Instr.box,newVar,newRow]
theorem aJl [GlobT] (hs : Sim (ftOf T) c) (hfl : fl ≤ c.H.length) {s : Nat} (ho : o.op = .move (.const nilS) ∨ o.op = .assign (.const nilS)) :
  OpOK P (ftOf T) c fl o a (.ms c.H.length 0 0 0) (c.H ++ [.blk s []]):=by
 refine mX (cv:=nilS) (β':=c.β) ?_ (tZ hfl) (zY hs) ?_
 ·rcases ho with ho | ho <;> simp [execOp,ho,Act.eval]
 ·refine .ms _ 0 0 0 none 0 s 0 (by simp [shp]) (Nat.le_refl _) (Nat.le_refl _) fun _ => ⟨Nat.le_refl _,.inl ⟨?_,rfl,rfl,rfl⟩⟩
  cases hb : c.β c.H.length with
  | none => rfl
  | some b => have:=hs.dom _ b hb; omega
theorem nU (b k j : Nat) : (⟨b,k,none⟩ : Addr).add j = ⟨b,k + j,none⟩:=by unfold Addr.add; split <;> simp_all
def aFo (FT : Nat → Option Nat) (c : Ctx) (ad : Addr) (cs : List AV) (vs : List Value) : Prop :=
 vs.length = cs.length ∧ (∀ (j : Nat) (u : Value),vs[j]? = some u → c.w.cell? (ad.add j) = some u) ∧
 ∀ (j : Nat) (x : AV),cs[j]? = some x → ∃ u,vs[j]? = some u ∧ lB u = true ∧ RV FT c x u
theorem pQ {H : Heap} {id s : Nat} {es : List (List AV)} (h : H[id]? = some (.blk s es)) : shp H id = some (s,es.length):=by simp [shp,h]
theorem aCv [GlobT] {FT : Nat → Option Nat} {b k n : Nat} {cc : Array Value} {T : TypeId} {fz : Nat × Nat} {cs : List AV} (hb : c.w.heap[b]? = some (.cells cc T fz)) (hn : cs.length = n)
  (h : ∀ (j : Nat) (x : AV),cs[j]? = some x → ∃ u,cc[k + j]? = some u ∧ lB u = true ∧ RV FT c x u) :
  aFo FT c ⟨b,k,none⟩ cs ((cc.toList.drop k).take n):=by
 refine ⟨?_,?_,?_⟩
 ·simp only [List.length_take,List.length_drop,Array.length_toList,hn]
  cases n with
  | zero => simp
  | succ m =>
   obtain ⟨u,hu,_⟩:=h m (cs[m]'(by omega)) (by simp)
   have : k + m < cc.size:=(Array.getElem?_eq_some_iff.1 hu).1
   omega
 ·intro j u hu
  rw [nU,cell_of_row c.w b (k + j) cc T fz hb]
  rw [List.getElem?_take] at hu
  split at hu
  ·simpa using hu
  ·cases hu
 ·intro j x hx
  obtain ⟨u,h1,h2,h3⟩:=h j x hx
  have hj : j < n:=by rw [← hn]; exact (List.getElem?_eq_some_iff.1 hx).1
  refine ⟨u,?_,h2,h3⟩
  rw [List.getElem?_take,if_pos hj]
  simpa using h1
theorem xW [GlobT] {FT : Nat → Option Nat} (hs : Sim FT c) {x : AV} {v : Value} {n : Nat} {cs : List AV} (hr : RV FT c x v) (h : oD c.H x n = some cs) :
  ∃ (ad : Addr) (vs : List Value),v = .pointer (some ad) ∧ cs.length = n ∧ aFo FT c ad cs vs:=by
 unfold oD at h
 split at h
 ·rename_i id tot idx off
  split at h
  ·rename_i s es ho
   split at h
   ·rename_i ht
    split at h
    ·rename_i e he
     split at h
     ·rename_i hle
      cases h
      cases hr with
      | pure _ _ hp => cases hp
      | ptr _ _ _ _ ad s' n' h1 h2 h3 =>
       rw [pQ ho] at h1
       cases h1
       obtain ⟨b,hb,rfl⟩:=h3 ht.symm
       obtain ⟨cc,T,g1,g2,g3⟩:=hs.blk id s es b ho hb
       have hel:=hs.lens id s es ho e (List.mem_of_getElem? he)
       have hcl : ((e.drop off).take n).length = n:=by simp; omega
       refine ⟨_,_,rfl,hcl,aCv (n:=n) g1 hcl ?_⟩
       intro j x hx
       rw [List.getElem?_take] at hx
       split at hx
       ·rw [List.getElem?_drop] at hx
        have:=g3 idx (off + j) x (by simp [mA,he,hx])
        simpa [Nat.add_assoc] using this
       ·cases hx
     ·cases h
    ·cases h
   ·cases h
  ·cases h
 ·rename_i cs0
  split at h
  ·rename_i hle
   cases h
   cases hr with
   | pure _ _ hp => cases hp
   | rptr _ b off cc T fz vals h1 h2 h3 h4 =>
    have hcl : (cs0.take n).length = n:=by simp; omega
    refine ⟨_,_,rfl,hcl,aCv (n:=n) h2 hcl ?_⟩
    intro j x hx
    rw [List.getElem?_take] at hx
    split at hx
    ·exact ⟨vals j,(h3 j x hx).1,(h3 j x hx).2,.pure _ _ (h4 j x hx)⟩
    ·cases hx
  ·cases h
 ·cases h
theorem sY {FT : Nat → Option Nat} {ad : Addr} {cs : List AV} {vs : List Value} (h : aFo FT c ad cs vs) : RV FT c (.agg cs) (.agg vs.toArray):=by
 refine .agg cs vs.toArray (fun i => vs.getD i lI) (by simp [h.1]) ?_ ?_
 ·intro i x hx
  obtain ⟨u,h1,h2,_⟩:=h.2.2 i x hx
  simp [List.getD_eq_getElem?_getD,h1,h2]
 ·intro i x hx
  obtain ⟨u,h1,_,h3⟩:=h.2.2 i x hx
  simpa [List.getD_eq_getElem?_getD,h1] using h3
theorem mO {t : TypeId} {n : Nat} (h : mM P t n = true) : ∃ i,P.info? t = some i ∧ i.size = n:=by
 unfold mM at h
 split at h
 ·rename_i i hi; exact ⟨i,hi,by simpa using h⟩
 ·cases h
theorem xN {t : TypeId} {b : Bool} (h : xO P t b = true) (w : World) : (isAgg t).run P w = .ok b w:=by
 unfold xO at h
 unfold isAgg
 split at h
 ·rename_i hu; simp [run_underlying hu,h]
 ·rename_i hu; simp [run_underlying hu,h]
 ·rename_i d h1 h2 hu
  rw [Sem.run_bind,run_underlying hu]
  simp only [Result.andThen_ok]
  have hb : b = false:=by simpa using h
  subst hb
  cases d with
  | struct fs => exact (h1 fs rfl).elim
  | array n e => exact (h2 n e rfl).elim
  | _ => rfl
 ·cases h
theorem qM [GlobT] {FT : Nat → Option Nat} {ad : Addr} {cs : List AV} {vs : List Value} {t : TypeId} {n : Nat} {agg : Bool} (hc : aFo FT c ad cs vs) (hn : cs.length = n)
  (h1 : xO P t agg = true) (h2 : mM P t n = true) :
  agg = true → (loadVar t ad).run P c.w = .ok (.agg vs.toArray) c.w:=by
 intro e
 subst e
 obtain ⟨i,hi,hsz⟩:=mO h2
 have hl:=run_loadCells_list (P:=P) c.w ad vs hc.2.1
 have e : vs.length = n:=hc.1.trans hn
 simp [loadVar,xN h1,sizeOf,typeInfo,hi,hsz,← e,hl]
theorem sZ [GlobT] {ad : Addr} {u : Value} {t : TypeId} (hc : c.w.cell? ad = some u) (h1 : xO P t false = true) :
  (loadVar t ad).run P c.w = .ok u c.w:=by
 simp [loadVar,xN h1,hc]
theorem aH5 [GlobT] (hs : Sim (ftOf T) c) (htr : TR (ftOf T) c tm a.tmps) {x : AOpd} {y : Operand} {t : TypeId} {n : Nat} {agg : Bool} {cs : List AV} {v : AV} (ho : o.op = .load t y)
  (h : kN T x y = true) (h1 : xO P t agg = true) (h2 : mM P t n = true) (hl : oD c.H (kG tm x) n = some cs)
  (hv : if agg then v = .agg cs else cs = [v]) : OpOK P (ftOf T) c fl o a v c.H:=by
 obtain ⟨ad,vs,hp,hn,hc⟩:=xW hs (kO hs htr h) hl
 cases agg with
 | true =>
  simp only [if_true] at hv
  subst hv
  refine lK (cv:=.agg vs.toArray) hs ?_ (sY hc)
  simp [execOp,ho,Instr.loadAt,Instr.sureAddr,hp,qM hc hn h1 h2 rfl]
 | false =>
  simp only [Bool.false_eq_true,if_false] at hv
  subst hv
  obtain ⟨u,g1,g2,g3⟩:=hc.2.2 0 v (by simp)
  have hcell:=hc.2.1 0 u g1
  have e0 : ad.add 0 = ad:=by simp [Addr.add]
  rw [e0] at hcell
  refine lK (cv:=u) hs ?_ g3
  simp [execOp,ho,Instr.loadAt,Instr.sureAddr,hp,sZ hcell h1]
theorem lR {α : Type} {l vs : List α} {k : Nat} (h : k + vs.length ≤ l.length) : (lG l k vs).length = l.length:=by
 simp only [lG,List.length_append,List.length_take,List.length_drop]; omega
theorem uA {α : Type} {l vs : List α} {k : Nat} (h : k + vs.length ≤ l.length) (p : Nat) :
  (lG l k vs)[p]? = if p < k then l[p]? else if p < k + vs.length then vs[p - k]? else l[p]?:=by
 unfold lG
 rw [List.getElem?_append]
 simp only [List.length_take]
 have hk : min k l.length = k:=by omega
 rw [hk]
 split
 ·rename_i hp
  rw [List.getElem?_take,if_pos hp]
 ·rename_i hp
  rw [List.getElem?_append]
  split
  ·rename_i hq
   rw [if_pos (by omega)]
  ·rename_i hq
   rw [if_neg (by omega),List.getElem?_drop]
   congr 1
   omega
theorem aDe {s i n j : Nat} (hi : i < n) (hj : j < s) : i * s + j < n * s:=by
 have : (i + 1) * s ≤ n * s:=Nat.mul_le_mul_right s hi
 rw [Nat.add_mul] at this; omega
theorem mL {es : List (List AV)} {i j : Nat} {x : AV} (h : mA es i j = some x) : ∃ e,es[i]? = some e ∧ e[j]? = some x:=by
 unfold mA at h
 cases he : es[i]? with
 | none => simp [he] at h
 | some e => exact ⟨e,rfl,by simpa [he] using h⟩
theorem aVw [GlobT] {FT : Nat → Option Nat} {s idx off : Nat} {es : List (List AV)} {e cs : List AV} {vs : List Value} {cc : Array Value}
  (hl : ∀ e ∈ es,e.length = s) (he : es[idx]? = some e) (hfit : off + cs.length ≤ e.length) (hsz : es.length * s ≤ cc.size) (hvs : vs.length = cs.length)
  (hold : ∀ i j x,mA es i j = some x → ∃ v,cc[i * s + j]? = some v ∧ lB v = true ∧ RV FT c x v)
  (hnew : ∀ (j : Nat) (x : AV),cs[j]? = some x → ∃ u,vs[j]? = some u ∧ lB u = true ∧ RV FT c x u) :
  (∀ e' ∈ es.set idx (lG e off cs),e'.length = s) ∧
  ∀ i j x,mA (es.set idx (lG e off cs)) i j = some x →
   ∃ v,((lG cc.toList (idx * s + off) vs).toArray)[i * s + j]? = some v ∧ lB v = true ∧ RV FT c x v:=by
 have hes : e.length = s:=hl e (List.mem_of_getElem? he)
 have hidx : idx < es.length:=(List.getElem?_eq_some_iff.1 he).1
 have hlt : (idx + 1) * s ≤ es.length * s:=Nat.mul_le_mul_right s hidx
 rw [Nat.add_mul] at hlt
 have hfit2 : idx * s + off + vs.length ≤ cc.toList.length:=by simp only [Array.length_toList]; omega
 refine ⟨?_,?_⟩
 ·intro e' he'
  rcases List.mem_or_eq_of_mem_set he' with h | h
  ·exact hl e' h
  ·rw [h,lR hfit,hes]
 ·intro i j x hx
  simp only [List.getElem?_toArray,uA hfit2]
  obtain ⟨e1,h1,h2⟩:=mL hx
  by_cases ei : i = idx
  ·subst ei
   rw [getElem?_set_eq' he] at h1
   cases h1
   rw [uA hfit] at h2
   split at h2
   ·rename_i hj
    rw [if_pos (by omega)]
    have:=hold i j x (by simp [mA,he,h2])
    simpa using this
   ·rename_i hj
    split at h2
    ·rename_i hj2
     rw [if_neg (by omega),if_pos (by omega)]
     obtain ⟨u,g1,g2,g3⟩:=hnew _ x h2
     refine ⟨u,?_,g2,g3⟩
     rw [← g1]
     congr 1
     omega
    ·rename_i hj2
     rw [if_neg (by omega),if_neg (by omega)]
     have:=hold i j x (by simp [mA,he,h2])
     simpa using this
  ·rw [getElem?_set_ne' ei] at h1
   have hj : j < s:=by
    rw [← hl e1 (List.mem_of_getElem? h1)]; exact (List.getElem?_eq_some_iff.1 h2).1
   have hout : i * s + j < idx * s + off ∨ idx * s + off + vs.length ≤ i * s + j:=by
    rcases Nat.lt_or_gt_of_ne ei with h | h
    ·have : (i + 1) * s ≤ idx * s:=Nat.mul_le_mul_right s h
     rw [Nat.add_mul] at this; omega
    ·have : (idx + 1) * s ≤ i * s:=Nat.mul_le_mul_right s h
     rw [Nat.add_mul] at this; omega
   have key:=hold i j x (by simp [mA,h1,h2])
   rcases hout with h | h
   ·rw [if_pos h]; simpa using key
   ·rw [if_neg (by omega),if_neg (by omega)]; simpa using key
theorem nN (w : World) (g k : Nat) (cc : Array Value) (vs : List Value) :
  w.setRow g (cc.toList.take (k + 0) ++ vs ++ cc.toList.drop (k + 0 + vs.length)).toArray = w.setRow g (lG cc.toList k vs).toArray:=by
 simp [lG]
theorem aQh [GlobT] (hs : Sim (ftOf T) c) (htr : TR (ftOf T) c tm a.tmps) {x v : AOpd} {y u : Operand} {t : TypeId} {n : Nat} {cs : List AV} {H' : Heap} (ho : o.op = .store t y u)
  (h1 : kN T x y = true) (h2 : kN T v u = true) (h3 : mM P t n = true) (hc : cellsOf (kG tm v) = some cs) (hn : cs.length = n)
  (hst : vA fl c.H (kG tm x) cs = some H') : OpOK P (ftOf T) c fl o a (.lit lI) H':=by
 obtain ⟨i,hi,hsz⟩:=mO h3
 obtain ⟨hvs,hvr⟩:=uI (kO hs htr h2) hc
 have hx:=kO hs htr h1
 unfold vA at hst
 split at hst
 ·rename_i id tot idx off hxe
  rw [hxe] at hx
  split at hst
  ·rename_i hfl
   split at hst
   ·rename_i s es hob
    split at hst
    ·rename_i htot
     split at hst
     ·rename_i e he
      split at hst
      ·rename_i hfit
       cases hst
       ·obtain ⟨ad,s',n',hxa,g1,g2,g3⟩:=hx.ptr_inv
        rw [pQ hob] at g1
        cases g1
        obtain ⟨b,hb,rfl⟩:=g3 htot.symm
        obtain ⟨cc,Ty,k1,k2,k3⟩:=hs.blk id s es b hob hb
        have hlens:=hs.lens id s es hob
        have hes : e.length = s:=hlens e (List.mem_of_getElem? he)
        have hidx : idx < es.length:=(List.getElem?_eq_some_iff.1 he).1
        have hlt : (idx + 1) * s ≤ es.length * s:=Nat.mul_le_mul_right s hidx
        rw [Nat.add_mul] at hlt
        have hvl : (a.eval u).cells.toList.length = cs.length:=by simpa using hvs
        obtain ⟨p1,p2⟩:=aVw (vs:=(a.eval u).cells.toList) (cc:=cc) hlens he hfit k2 hvl k3 (fun j x hx => by simpa using hvr j x hx)
        have hfit2 : idx * s + off + (a.eval u).cells.toList.length ≤ cc.toList.length:=by simp only [Array.length_toList] at hvl ⊢; omega
        have hone : ∀ v ∈ (a.eval u).cells.toList,v.oneCell' = true:=by
         intro v hv
         obtain ⟨j,hj⟩:=List.mem_iff_getElem?.1 hv
         have hjl : j < cs.length:=by rw [← hvl]; exact (List.getElem?_eq_some_iff.1 hj).1
         obtain ⟨u',w1,w2,_⟩:=hvr j cs[j] (by simp)
         have : u' = v:=by
          have hj' : (a.eval u).cells[j]? = some v:=by simpa using hj
          rw [w1] at hj'; exact Option.some.inj hj'
         rw [← aDd,← this]; exact w2
        have hrun:=run_storeCells_at P b (idx * s + off) Ty (a.eval u).cells.toList 0 cc c.w k1 (by simpa using hfit2) hone
        rw [nN] at hrun
        have hsplen:=lR hfit2
        refine aNd (w':=c.w.setRow b (lG cc.toList (idx * s + off) (a.eval u).cells.toList).toArray) (β':=c.β) ?_
         (rI (cs':=(lG cc.toList (idx * s + off) (a.eval u).cells.toList).toArray) hs hfl hob hb k1 (by simp) ?_ (setRow_heap c.w b cc _ Ty _ k1) (fun k hk => setRow_other c.w b k _ hk) (by simp) rfl rfl rfl)
         (xS (cs':=(lG cc.toList (idx * s + off) (a.eval u).cells.toList).toArray) hs hob hb k1 (by simp) ?_ (setRow_heap c.w b cc _ Ty _ k1) (fun k hk => setRow_other c.w b k _ hk) (by simp) rfl rfl rfl p1 ?_ p2)
        ·have hne : ¬ (a.eval u).cells.size ≠ i.size:=by rw [hvs,hn,hsz]; simp
         simp [execOp,ho,Instr.storeAt,Instr.sureAddr,storeVar,sizeOf,typeInfo,hxa,hi,hvs,hn,hsz,hrun]
        ·simpa using hsplen
        ·simpa using hsplen
        ·simp only [List.length_set,List.size_toArray,hsplen,Array.length_toList]; exact k2
      ·cases hst
     ·cases hst
    ·cases hst
   ·cases hst
  ·cases hst
 ·cases hst
end
end Go.Proofs.YtkdnaejhpcibnaaGreatDoor.Av
namespace Go.Proofs.YtkdnaejhpcibnaaGreatDoor.Av
open Go
section
variable {P : Program} {T : List AFun} {c : Ctx} {fl : Nat} {o : Oper} {a : Act} {tm : List AV}
theorem vD [GlobT] (hs : Sim (ftOf T) c) (htr : TR (ftOf T) c tm a.tmps) {x : AOpd} {y : Operand} (ho : o.op = .nilCheck y) (h : kN T x y = true)
  (hk : (∃ id tot idx off,kG tm x = .ptr id tot idx off) ∨ (∃ cs,kG tm x = .rptr cs) ∨ ∃ vi caps,kG tm x = .fn vi caps) :
  OpOK P (ftOf T) c fl o a (kG tm x) c.H:=by
 have hx:=kO hs htr h
 refine lK (cv:=a.eval y) hs ?_ hx
 rcases hk with ⟨id,tot,idx,off,hk⟩ | ⟨cs,hk⟩ | ⟨vi,caps,hk⟩ <;> rw [hk] at hx
 ·obtain ⟨ad,s,n,hv,_⟩:=hx.ptr_inv
  simp [execOp,ho,hv]
 ·obtain ⟨b,off,cc,Ty,fz,vals,hv,_⟩:=hx.rptr_inv
  simp [execOp,ho,hv]
 ·obtain ⟨f,cv,vals,hv,_⟩:=hx.fn_inv
  simp [execOp,ho,hv]
theorem aOe {op : BinOp} {k : IntKind} {x y : Int} {t : TypeId} {r : Value} (h : aLt op k x y = some r) (w : World) : (binOp op t (.int k x) (.int k y)).run P w = .ok r w:=by
 cases op <;> simp [aLt] at h <;> subst h <;> simp [binOp,Op.intArith,Op.intCmp]
theorem aI0 {op : BinOp} {k k' : IntKind} {x y : Int} {t : TypeId} {p q : Operand} (w : World) : (eqGuard op t p q (.int k x) (.int k' y)).run P w = .ok () w:=by
 unfold eqGuard
 split <;> simp
theorem aUf [GlobT] (hs : Sim (ftOf T) c) (htr : TR (ftOf T) c tm a.tmps) {op : BinOp} {x y : AOpd} {x' y' : Operand} {t t' : TypeId} {k : IntKind} {n m : Int} {r : Value} (ho : o.op = .binOp op t x' y' t')
  (h1 : kN T x x' = true) (h2 : kN T y y' = true) (e1 : kG tm x = .lit (.int k n)) (e2 : kG tm y = .lit (.int k m)) (hr : aLt op k n m = some r) :
  OpOK P (ftOf T) c fl o a (.lit r) c.H:=by
 have hx:=kO hs htr h1
 have hy:=kO hs htr h2
 rw [e1] at hx
 rw [e2] at hy
 refine lK (cv:=r) hs ?_ (RV.lit r)
 simp [execOp,ho,hx.lit_inv,hy.lit_inv,aI0,aOe hr]
theorem aId [GlobT] : ∀ {cs : List AV} {l : List Value},litL cs = some l → cs = l.map .lit
 | [],l,h => by simp [litL] at h; subst h; rfl
 | .lit v :: r,l,h => by
  simp only [litL] at h
  split at h
  ·rename_i l' hl
   cases h
   rw [aId hl]; rfl
  ·cases h
 | .undef :: _,_,h => by simp [litL] at h
 | .sl .. :: _,_,h => by simp [litL] at h
 | .ms .. :: _,_,h => by simp [litL] at h
 | .ptr .. :: _,_,h => by simp [litL] at h
 | .rptr .. :: _,_,h => by simp [litL] at h
 | .mp .. :: _,_,h => by simp [litL] at h
 | .fn .. :: _,_,h => by simp [litL] at h
 | .agg .. :: _,_,h => by simp [litL] at h
 | .tup .. :: _,_,h => by simp [litL] at h
theorem aAn [GlobT] {FT : Nat → Option Nat} {x : AV} {v u : Value} (hr : RV FT c x v) (h : lits x = some u) : v = u:=by
 unfold lits at h
 split at h
 ·cases h; exact hr.lit_inv
 ·rename_i cs
  split at h
  ·rename_i l hl
   cases h
   have e:=aId hl
   subst e
   obtain ⟨cv,vals,rfl,h1,h2,h3⟩:=hr.agg_inv
   congr 1
   apply Array.ext_getElem?
   intro i
   by_cases hi : i < l.length
   ·have hx : (l.map AV.lit)[i]? = some (.lit l[i]):=by simp [hi]
    have:=(h3 i _ hx).lit_inv
    rw [(h2 i _ hx).1,this]
    simp [hi]
   ·rw [Array.getElem?_eq_none (by simp at h1; omega),Array.getElem?_eq_none (by simp; omega)]
  ·cases h
 ·cases h
theorem aFi {op : BinOp} {t : TypeId} {v u : Value} {p q p' q' : Operand} (hn : qS v = true) : eqGuard op t p q v u = eqGuard op t p' q' v u:=by
 unfold eqGuard
 cases v <;> first | rfl | (cases u <;> rfl) | (simp [qS] at hn)
theorem aIz [GlobT] {op : BinOp} {t : TypeId} {v u : Value} {p q : Operand} (hn : qS v = true) (h : kM P (eqGuard op t (.tmp 0) (.tmp 0) v u) = some ()) (w : World) :
  (eqGuard op t p q v u).run P w = .ok () w:=by
 rw [aFi (p':=.tmp 0) (q':=.tmp 0) hn]
 exact lJ h
theorem aWn [GlobT] (hs : Sim (ftOf T) c) (htr : TR (ftOf T) c tm a.tmps) {op : BinOp} {x y : AOpd} {x' y' : Operand} {t t' : TypeId} {v u r : Value} (ho : o.op = .binOp op t x' y' t')
  (h1 : kN T x x' = true) (h2 : kN T y y' = true) (e1 : lits (kG tm x) = some v) (e2 : lits (kG tm y) = some u)
  (hn : qS v = true) (hg : kM P (eqGuard op t (.tmp 0) (.tmp 0) v u) = some ()) (hr : kM P (binOp op t v u) = some r) :
  OpOK P (ftOf T) c fl o a (.lit r) c.H:=by
 have hx:=aAn (kO hs htr h1) e1
 have hy:=aAn (kO hs htr h2) e2
 refine lK (cv:=r) hs ?_ (RV.lit r)
 simp [execOp,ho,hx,hy,aIz hn hg,lJ hr]
theorem bDn [GlobT] (hs : Sim (ftOf T) c) (htr : TR (ftOf T) c tm a.tmps) {op : UnOp} {x : AOpd} {x' : Operand} {t : TypeId} {v r : Value} (ho : o.op = .unOp op t x')
  (h1 : kN T x x' = true) (e1 : kG tm x = .lit v) (hr : kM P (Op.unary op v) = some r) : OpOK P (ftOf T) c fl o a (.lit r) c.H:=by
 have hx:=kO hs htr h1
 rw [e1] at hx
 refine lK (cv:=r) hs ?_ (RV.lit r)
 simp [execOp,ho,hx.lit_inv,lJ hr]
theorem aUh [GlobT] (hs : Sim (ftOf T) c) (htr : TR (ftOf T) c tm a.tmps) {x : AOpd} {x' : Operand} {s d : TypeId} {v r : Value} (ho : o.op = .convert s d x')
  (h1 : kN T x x' = true) (e1 : kG tm x = .lit v) (hr : kM P (convert s d v) = some r) : OpOK P (ftOf T) c fl o a (.lit r) c.H:=by
 have hx:=kO hs htr h1
 rw [e1] at hx
 refine lK (cv:=r) hs ?_ (RV.lit r)
 simp [execOp,ho,hx.lit_inv,lJ hr]
theorem aM4 [GlobT] (hs : Sim (ftOf T) c) (htr : TR (ftOf T) c tm a.tmps) {x i : AOpd} {x' i' : Operand} {t : TypeId} {v u r : Value} (ho : o.op = .index t x' i')
  (h1 : kN T x x' = true) (h2 : kN T i i' = true) (e1 : kG tm x = .lit v) (e2 : kG tm i = .lit u) (hr : kM P (Instr.index t v u) = some r) :
  OpOK P (ftOf T) c fl o a (.lit r) c.H:=by
 have hx:=kO hs htr h1
 rw [e1] at hx
 have hi:=kO hs htr h2
 rw [e2] at hi
 refine lK (cv:=r) hs ?_ (RV.lit r)
 simp [execOp,ho,hx.lit_inv,hi.lit_inv,lJ hr]
theorem aA3 {t : TypeId} {f off : Nat} {fs : Array Field} {fd : Field} {i : TypeInfo} {ad : Addr} (hu : P.underlying t = some (.struct fs)) (hf : fs[f]? = some fd)
  (hof : fd.offset = off) (hi : P.info? fd.type = some i) (hsz : i.size ≠ 0) (w : World) :
  (Instr.fieldAt t (.pointer (some ad)) f).run P w = .ok (.pointer (some (ad.add off))) w:=by
 simp [Instr.fieldAt,run_underlying hu,hf,Instr.sureAddr,fieldPlace,sizeOf,typeInfo,hi,hsz,hof]
theorem yQ [GlobT] (hs : Sim (ftOf T) c) (htr : TR (ftOf T) c tm a.tmps) {x : AOpd} {y : Operand} {t : TypeId} {f off : Nat} {fs : Array Field} {fd : Field} {i : TypeInfo} {v : AV} (ho : o.op = .fieldAddr t y f)
  (h : kN T x y = true) (hu : P.underlying t = some (.struct fs)) (hf : fs[f]? = some fd) (hof : fd.offset = off) (hi : P.info? fd.type = some i) (hsz : i.size ≠ 0)
  (hk : (∃ id tot idx k,kG tm x = .ptr id tot idx k ∧ v = .ptr id tot idx (k + off)) ∨ (∃ cs,kG tm x = .rptr cs ∧ v = .rptr (cs.drop off))) :
  OpOK P (ftOf T) c fl o a v c.H:=by
 have hx:=kO hs htr h
 rcases hk with ⟨id,tot,idx,k,hk,rfl⟩ | ⟨cs,hk,rfl⟩ <;> rw [hk] at hx
 ·obtain ⟨ad,s,n,hv,g1,g2,g3⟩:=hx.ptr_inv
  refine lK (cv:=.pointer (some (ad.add off))) hs (by simp [execOp,ho,hv,aA3 hu hf hof hi hsz]) ?_
  refine .ptr id tot idx (k + off) _ s n g1 g2 fun e => ?_
  obtain ⟨b,hb,rfl⟩:=g3 e
  exact ⟨b,hb,by rw [nU]; simp [Nat.add_assoc]⟩
 ·obtain ⟨b,k,cc,Ty,fz,vals,hv,g1,g2,g3,g4⟩:=hx.rptr_inv
  refine lK (cv:=.pointer (some ⟨b,k + off,none⟩)) hs (by simp [execOp,ho,hv,aA3 hu hf hof hi hsz,nU]) ?_
  refine .rptr _ b (k + off) cc Ty fz (fun j => vals (off + j)) g1 g2 ?_ ?_
  ·intro j x hx
   rw [List.getElem?_drop] at hx
   have:=g3 _ x hx
   rwa [← Nat.add_assoc] at this
  ·intro j x hx
   rw [List.getElem?_drop] at hx
   exact g4 _ x hx
theorem aM0 [GlobT] {FT : Nat → Option Nat} {cs : List AV} {cv : Array Value} {t : TypeId} {n off : Nat} {agg : Bool} {v : AV} (hr : RV FT c (.agg cs) (.agg cv))
  (h1 : xO P t agg = true) (h2 : mM P t n = true) (hle : off + n ≤ cs.length) (hv : if agg then v = .agg ((cs.drop off).take n) else (cs.drop off).take n = [v]) (h3 : agg = true ∨ n = 1) :
  ∃ r,(part t cv off).run P c.w = .ok r c.w ∧ RV FT c v r:=by
 obtain ⟨cv',vals,e,g1,g2,g3⟩:=hr.agg_inv
 cases e
 obtain ⟨i,hi,hsz⟩:=mO h2
 cases agg with
 | true =>
  simp only [if_true] at hv
  subst hv
  refine ⟨.agg (cv.extract off (off + n)),?_,?_⟩
  ·simp [part,xN h1,sizeOf,typeInfo,hi,hsz]
  ·refine .agg _ _ (fun j => vals (off + j)) (by simp; omega) ?_ ?_
   ·intro j x hx
    rw [List.getElem?_take] at hx
    split at hx
    ·rename_i hj
     rw [List.getElem?_drop] at hx
     obtain ⟨k1,k2⟩:=g2 _ x hx
     refine ⟨?_,k2⟩
     rw [Array.getElem?_extract]
     rw [if_pos (by omega)]
     exact k1
    ·cases hx
   ·intro j x hx
    rw [List.getElem?_take] at hx
    split at hx
    ·rw [List.getElem?_drop] at hx
     exact g3 _ x hx
    ·cases hx
 | false =>
  simp only [Bool.false_eq_true,if_false] at hv
  have hn : n = 1:=by simpa using h3
  subst hn
  have hx : cs[off]? = some v:=by
   have : ((cs.drop off).take 1)[0]? = some v:=by rw [hv]; rfl
   rw [List.getElem?_take,if_pos (by omega),List.getElem?_drop] at this
   simpa using this
  refine ⟨vals off,?_,g3 off v hx⟩
  simp [part,xN h1,(g2 off v hx).1]
theorem aJk [GlobT] (hs : Sim (ftOf T) c) (htr : TR (ftOf T) c tm a.tmps) {x : AOpd} {y : Operand} {t : TypeId} {f off n : Nat} {agg : Bool} {fs : Array Field} {fd : Field} {cs : List AV} {v : AV} (ho : o.op = .field t y f)
  (h : kN T x y = true) (hu : P.underlying t = some (.struct fs)) (hf : fs[f]? = some fd) (hof : fd.offset = off) (h1 : xO P fd.type agg = true) (h2 : mM P fd.type n = true) (h3 : agg = true ∨ n = 1)
  (hx : kG tm x = .agg cs) (hle : off + n ≤ cs.length) (hv : if agg then v = .agg ((cs.drop off).take n) else (cs.drop off).take n = [v]) :
  OpOK P (ftOf T) c fl o a v c.H:=by
 have hr:=kO hs htr h
 rw [hx] at hr
 obtain ⟨cv,vals,e,_⟩:=hr.agg_inv
 rw [e] at hr
 obtain ⟨r,k1,k2⟩:=aM0 (P:=P) hr h1 h2 hle hv h3
 refine lK (cv:=r) hs ?_ k2
 simp [execOp,ho,e,Instr.field,run_underlying hu,hf,asAgg,hof,k1]
theorem pR [GlobT] {FT : Nat → Option Nat} {x : AV} {v : Value} {n : Nat} (hr : RV FT c x v) (h : oI x = some n) : ∃ k,v = .int k n:=by
 unfold oI at h
 split at h
 ·rename_i k m
  split at h
  ·rename_i hm
   cases h
   exact ⟨k,by rw [hr.lit_inv,Int.toNat_of_nonneg hm]⟩
  ·cases h
 ·cases h
theorem aDg [GlobT] (hs : Sim (ftOf T) c) (htr : TR (ftOf T) c tm a.tmps) {x i : AOpd} {y j : Operand} {t e : TypeId} {s n : Nat} {v : AV} (ho : o.op = .indexAddr t y j)
  (h1 : kN T x y = true) (h2 : kN T i j = true) (hu : P.underlying t = some (.slice e)) (hsz : mM P e s = true) (hn : oI (kG tm i) = some n)
  (hk : (∃ f es cs,kG tm x = .sl f es ∧ es[n]? = some cs ∧ cs.length = s ∧ v = .rptr cs) ∨
   (∃ id tot off len es,kG tm x = .ms id tot off len ∧ c.H[id]? = some (.blk s es) ∧ es.length = tot ∧ n < len ∧ v = .ptr id tot (off + n) 0)) :
  OpOK P (ftOf T) c fl o a v c.H:=by
 have hx:=kO hs htr h1
 obtain ⟨k,hj⟩:=pR (kO hs htr h2) hn
 obtain ⟨ei,hei,hes⟩:=mO hsz
 rcases hk with ⟨f,es,cs,hk,hcs,hlen,rfl⟩ | ⟨id,tot,off,len,es,hk,hob,htot,hlt,rfl⟩ <;> rw [hk] at hx
 ·have hp:=hx.sl_inv
  generalize hw : a.eval y = w at hp
  cases hp with
  | nil => simp at hcs
  | sl _ _ b off cap cc Ty fz s' vals g1 g2 g3 g4 g5 g6 g7 g8 =>
   have hs' : s' = s:=by rw [← hlen,g4 cs (List.mem_of_getElem? hcs)]
   subst hs'
   have hnl : n < es.length:=(List.getElem?_eq_some_iff.1 hcs).1
   refine lK (cv:=.pointer (some ⟨b,off + n * s',none⟩)) hs ?_ ?_
   ·simp [execOp,ho,hw,hj,Instr.indexAt,asIntOf,run_underlying hu,sizeOf,typeInfo,hei,hes,hnl,nU]
   ·refine .rptr cs b (off + n * s') cc Ty fz (fun j => vals n j) g2 g3 ?_ ?_
    ·intro j x hx
     have:=g7 n j x (by simp [mA,hcs,hx])
     rwa [← Nat.add_assoc] at this
    ·intro j x hx
     exact g8 n j x (by simp [mA,hcs,hx])
 ·obtain ⟨ad,cap,s',n',hv,g1,g2,g3,g4⟩:=hx.ms_inv
  rw [pQ hob] at g1
  cases g1
  obtain ⟨m1,m2⟩:=g4 htot.symm
  rcases m2 with ⟨_,_,_,m3⟩ | ⟨b,cc,Ty,a',m3,m4,m5,m6,m7⟩
  ·omega
  ·have ha:=m7 (by omega)
   subst ha
   subst m6
   refine lK (cv:=.pointer (some ⟨b,off * s + n * s,none⟩)) hs ?_ ?_
   ·simp [execOp,ho,hv,hj,Instr.indexAt,asIntOf,run_underlying hu,sizeOf,typeInfo,hei,hes,hlt,nU]
   ·refine .ptr id tot (off + n) 0 _ s _ (pQ hob) (by omega) fun _ => ⟨b,m3,by simp [Nat.add_mul]⟩
end
end Go.Proofs.YtkdnaejhpcibnaaGreatDoor.Av
namespace Go.Proofs.YtkdnaejhpcibnaaGreatDoor.Av
open Go
section
variable {P : Program} {T : List AFun} {c : Ctx} {fl : Nat} {o : Oper} {a : Act} {tm : List AV}
theorem aF7 [GlobT] (hs : Sim (ftOf T) c) (htr : TR (ftOf T) c tm a.tmps) {x i : AOpd} {y j : Operand} {t e : TypeId} {s n m : Nat} {v : AV} (ho : o.op = .indexAddr t y j)
  (h1 : kN T x y = true) (h2 : kN T i j = true) (hu : P.underlying t = some (.array m e)) (hsz : mM P e s = true) (hn : oI (kG tm i) = some n) (hlt : n < m)
  (hk : (∃ id tot idx k,kG tm x = .ptr id tot idx k ∧ v = .ptr id tot idx (k + n * s)) ∨ (∃ cs,kG tm x = .rptr cs ∧ v = .rptr (cs.drop (n * s)))) :
  OpOK P (ftOf T) c fl o a v c.H:=by
 have hx:=kO hs htr h1
 obtain ⟨k,hj⟩:=pR (kO hs htr h2) hn
 obtain ⟨ei,hei,hes⟩:=mO hsz
 have run : ∀ ad : Addr,a.eval y = .pointer (some ad) → (execOp a.eval o).run P c.w = .ok (.value (.pointer (some (ad.add (n * s))))) c.w:=by
  intro ad hv
  simp [execOp,ho,hv,hj,Instr.indexAt,Instr.sureAddr,asIntOf,run_underlying hu,sizeOf,typeInfo,hei,hes,hlt]
 rcases hk with ⟨id,tot,idx,k',hk,rfl⟩ | ⟨cs,hk,rfl⟩ <;> rw [hk] at hx
 ·obtain ⟨ad,s',n',hv,g1,g2,g3⟩:=hx.ptr_inv
  refine lK hs (run ad hv) ?_
  refine .ptr id tot idx (k' + n * s) _ s' n' g1 g2 fun e => ?_
  obtain ⟨b,hb,rfl⟩:=g3 e
  exact ⟨b,hb,by rw [nU]; simp [Nat.add_assoc]⟩
 ·obtain ⟨b,k',cc,Ty,fz,vals,hv,g1,g2,g3,g4⟩:=hx.rptr_inv
  refine lK hs (run _ hv) ?_
  rw [nU]
  refine .rptr _ b (k' + n * s) cc Ty fz (fun j => vals (n * s + j)) g1 g2 ?_ ?_
  ·intro j x hx
   rw [List.getElem?_drop] at hx
   have:=g3 _ x hx
   rwa [← Nat.add_assoc] at this
  ·intro j x hx
   rw [List.getElem?_drop] at hx
   exact g4 _ x hx
theorem aJj [GlobT] (hs : Sim (ftOf T) c) (htr : TR (ftOf T) c tm a.tmps) {x i : AOpd} {y j : Operand} {t e : TypeId} {s n m : Nat} {agg : Bool} {cs : List AV} {v : AV} (ho : o.op = .index t y j)
  (h1 : kN T x y = true) (h2 : kN T i j = true) (hu : P.underlying t = some (.array m e)) (hsz : mM P e s = true) (hag : xO P e agg = true) (h3 : agg = true ∨ s = 1)
  (hn : oI (kG tm i) = some n) (hlt : n < m) (hx : kG tm x = .agg cs) (hle : n * s + s ≤ cs.length)
  (hv : if agg then v = .agg ((cs.drop (n * s)).take s) else (cs.drop (n * s)).take s = [v]) : OpOK P (ftOf T) c fl o a v c.H:=by
 have hr:=kO hs htr h1
 rw [hx] at hr
 obtain ⟨k,hj⟩:=pR (kO hs htr h2) hn
 obtain ⟨ei,hei,hes⟩:=mO hsz
 obtain ⟨cv,vals,e',_⟩:=hr.agg_inv
 rw [e'] at hr
 obtain ⟨r,k1,k2⟩:=aM0 (P:=P) hr hag hsz hle hv h3
 refine lK (cv:=r) hs ?_ k2
 simp [execOp,ho,e',hj,Instr.index,asIntOf,run_underlying hu,sizeOf,typeInfo,hei,hes,hlt,k1]
theorem aLk [GlobT] (hs : Sim (ftOf T) c) (htr : TR (ftOf T) c tm a.tmps) {x : AOpd} {y : Operand} {i : Nat} {vs : List AV} {v : AV} (ho : o.op = .extract y i)
  (h : kN T x y = true) (hx : kG tm x = .tup vs) (hv : vs[i]? = some v) : OpOK P (ftOf T) c fl o a v c.H:=by
 have hr:=kO hs htr h
 rw [hx] at hr
 obtain ⟨cv,vals,e,g1,g2,g3⟩:=hr.tup_inv
 refine lK (cv:=vals i) hs ?_ (g3 i v hv)
 simp [execOp,ho,e,Instr.extract,g2 i v hv]
theorem aEf [GlobT] (hs : Sim (ftOf T) c) (htr : TR (ftOf T) c tm a.tmps) : ∀ {xs : List AOpd} {ys : List Operand},nM T xs ys = true →
  xs.length = ys.length ∧ ∀ (i : Nat) (x : AV),(xs.map (kG tm))[i]? = some x → ∃ v,(ys.map a.eval)[i]? = some v ∧ RV (ftOf T) c x v
 | [],[],_ => ⟨rfl,fun i x hx => by simp at hx⟩
 | x :: r,y :: s,h => by
  simp only [nM,Bool.and_eq_true] at h
  obtain ⟨h1,h2⟩:=aEf hs htr h.2
  refine ⟨by simp [h1],fun i z hz => ?_⟩
  cases i with
  | zero =>
   simp only [List.map_cons,List.getElem?_cons_zero,Option.some.injEq] at hz
   subst hz
   exact ⟨a.eval y,by simp,kO hs htr h.1⟩
  | succ i =>
   simp only [List.map_cons,List.getElem?_cons_succ] at hz ⊢
   exact h2 i z hz
 | [],_ :: _,h => by cases h
 | _ :: _,[],h => by cases h
theorem aUd [GlobT] (hs : Sim (ftOf T) c) (htr : TR (ftOf T) c tm a.tmps) {vi f : Nat} {caps : List AOpd} {cs : Array Operand} (ho : o.op = .makeFunc (.func f) #[] cs)
  (hf : ftOf T vi = some f) (h : nM T caps cs.toList = true) : OpOK P (ftOf T) c fl o a (.fn vi (caps.map (kG tm))) c.H:=by
 obtain ⟨h1,h2⟩:=aEf hs htr h
 refine lK (cv:=.func (.func f) #[] (cs.map a.eval)) hs (by simp [execOp,ho,Instr.makeFunc]) ?_
 refine .fn vi f _ _ (fun i => ((cs.toList.map a.eval)[i]?).getD lI) hf (by simpa using h1.symm) ?_ ?_
 ·intro i x hx
  obtain ⟨v,g1,g2⟩:=h2 i x hx
  simp only [g1,Option.getD_some]
  simpa using g1
 ·intro i x hx
  obtain ⟨v,g1,g2⟩:=h2 i x hx
  simpa only [g1,Option.getD_some] using g2
theorem aQj [GlobT] (hs : Sim (ftOf T) c) (hfl : fl ≤ c.H.length) {t : TypeId} (ho : o.op = .makeMap t none) : OpOK P (ftOf T) c fl o a (.mp c.H.length) (c.H ++ [.mp []]):=by
 refine mX (cv:=.map (some c.w.heap.size)) (w':=c.w.alloc (.map #[] 0)) (β':=upd c.β c.H.length c.w.heap.size) ?_
  (vV (ob:=.map #[] 0) hfl rfl rfl rfl rfl (fun id b hb => hs.lt hb)) (aD7 (ob:=.map #[] 0) hs rfl rfl rfl rfl ?_ ?_ ?_ (fun _ h => by cases h)) ?_
 ·simp [execOp,ho,Instr.makeMap]
 ·intro s es he; cases he
 ·intro s es he; cases he
 ·intro ents he; cases he; exact ⟨rfl,0,rfl⟩
 ·exact .mp _ _ ⟨.mp [],by simp,trivial⟩ (mK _ _ _)
theorem aH4 [GlobT] (hs : Sim (ftOf T) c) (htr : TR (ftOf T) c tm a.tmps) (hfl : fl ≤ c.H.length) {x : AOpd} {y : Operand} {t : TypeId} {s : ByteArray} (ho : o.op = .range t y) (h : kN T x y = true) (hu : P.underlying t = some .string) (hx : kG tm x = .lit (.string s)) :
  OpOK P (ftOf T) c fl o a (.it c.H.length) (c.H ++ [.raw (.stringIter s 0)]):=by
 have hr:=kO hs htr h
 rw [hx] at hr
 have hv:=hr.lit_inv
 refine mX (cv:=.pointer (some ⟨c.w.heap.size,0,none⟩)) (w':=c.w.alloc (.stringIter s 0)) (β':=upd c.β c.H.length c.w.heap.size) ?_
  (vV (ob:=.stringIter s 0) hfl rfl rfl rfl rfl (fun id b hb => hs.lt hb)) (aD7 (ob:=.stringIter s 0) hs rfl rfl rfl rfl ?_ ?_ ?_ ?_) ?_
 ·simp [execOp,ho,Instr.range,run_underlying hu,hv]
 ·intro s es he; cases he
 ·intro s es he; cases he
 ·intro ents he; cases he
 ·intro q he; cases he; rfl
 ·exact .it _ _ ⟨.raw (.stringIter s 0),by simp,trivial⟩ (mK _ _ _)
theorem aLi [GlobT] (hs : Sim (ftOf T) c) (htr : TR (ftOf T) c tm a.tmps) {x : AOpd} {y : Operand} {id pos : Nat} {s : ByteArray} (ho : o.op = .next y true) (h : kN T x y = true) (hx : kG tm x = .it id) (hfl : fl ≤ id) (hob : c.H[id]? = some (.raw (.stringIter s pos))) (hp : pos < s.size) :
  OpOK P (ftOf T) c fl o a (.tup [.lit (.bool true),.lit (.int .i64 pos),.lit (.int .i32 (Utf8.decode s pos).1)]) (c.H.set id (.raw (.stringIter s (pos + (Utf8.decode s pos).2)))):=by
 have hr:=kO hs htr h
 rw [hx] at hr
 obtain ⟨b,hv,_,hb⟩:=hr.it_inv
 have g1:=hs.raw id _ b hob hb
 have hget : (getObj b).run P c.w = .ok (.stringIter s pos) c.w:=by simp [getObj,Sem.run,g1]
 have hset : ∀ ob,(setObj b ob).run P c.w = .ok () { c.w with heap:=c.w.heap.setIfInBounds b ob }:=by
  intro ob; simp [setObj,Sem.run,g1]
 refine mX (cv:=.tuple #[.bool true,.int .i64 pos,.int .i32 (Utf8.decode s pos).1]) (β':=c.β) (w':={ c.w with heap:=c.w.heap.setIfInBounds b (.stringIter s (pos + (Utf8.decode s pos).2)) }) ?_
  (zV (q':=.stringIter s (pos + (Utf8.decode s pos).2)) hs hfl hob hb rfl rfl rfl rfl) (aLb hs hob hb rfl rfl rfl rfl) ?_
 ·simp [execOp,ho,hv,Instr.next,hget,hset,hp,goInt]
 ·refine .tup _ _ (fun i => if i = 0 then .bool true else if i = 1 then .int .i64 pos else .int .i32 (Utf8.decode s pos).1) rfl ?_ ?_
  ·intro i x hx
   match i with
   | 0 => rfl
   | 1 => rfl
   | 2 => rfl
   | n + 3 => simp at hx
  ·intro i x hx
   match i with
   | 0 => simp at hx; subst hx; exact RV.lit _
   | 1 => simp at hx; subst hx; exact RV.lit _
   | 2 => simp at hx; subst hx; exact RV.lit _
   | n + 3 => simp at hx
theorem aLh [GlobT] (hs : Sim (ftOf T) c) (htr : TR (ftOf T) c tm a.tmps) {x : AOpd} {y : Operand} {id pos : Nat} {s : ByteArray} (ho : o.op = .next y true) (h : kN T x y = true) (hx : kG tm x = .it id) (hob : c.H[id]? = some (.raw (.stringIter s pos))) (hp : ¬ pos < s.size) :
  OpOK P (ftOf T) c fl o a (.tup [.lit (.bool false)]) c.H:=by
 have hr:=kO hs htr h
 rw [hx] at hr
 obtain ⟨b,hv,_,hb⟩:=hr.it_inv
 have g1:=hs.raw id _ b hob hb
 have hget : (getObj b).run P c.w = .ok (.stringIter s pos) c.w:=by simp [getObj,Sem.run,g1]
 refine lK (cv:=.tuple #[.bool false]) hs ?_ ?_
 ·simp [execOp,ho,hv,Instr.next,hget,hp]
 ·refine .tup _ _ (fun _ => .bool false) rfl ?_ ?_
  ·intro i x hx
   match i with
   | 0 => rfl
   | n + 1 => simp at hx
  ·intro i x hx
   match i with
   | 0 => simp at hx; subst hx; exact RV.lit _
   | n + 1 => simp at hx
theorem aH6 [GlobT] (hs : Sim (ftOf T) c) (htr : TR (ftOf T) c tm a.tmps) {x : AOpd} {y : Operand} {t e : TypeId} {n : Nat} (ho : o.op = .call ⟨.builtin .len,#[y],#[t]⟩)
  (h : kN T x y = true) (hu : P.underlying t = some (.slice e))
  (hk : (kG tm x = .lit (.slice none 0 0) ∧ n = 0) ∨ (∃ f es,kG tm x = .sl f es ∧ n = es.length) ∨ ∃ id tot off,kG tm x = .ms id tot off n) :
  OpOK P (ftOf T) c fl o a (.lit (.int .i64 n)) c.H:=by
 have hx:=kO hs htr h
 have hv : ∃ ad cap,a.eval y = .slice ad n cap:=by
  rcases hk with ⟨hk,rfl⟩ | ⟨f,es,hk,rfl⟩ | ⟨id,tot,off,hk⟩ <;> rw [hk] at hx
  ·exact ⟨none,0,hx.lit_inv⟩
  ·have hp:=hx.sl_inv
   generalize a.eval y = w at hp
   cases hp with
   | nil _ ad cap => exact ⟨ad,cap,rfl⟩
   | sl _ _ b off cap => exact ⟨_,cap,rfl⟩
  ·obtain ⟨ad,cap,s,n',hv,_⟩:=hx.ms_inv
   exact ⟨ad,cap,hv⟩
 obtain ⟨ad,cap,hv⟩:=hv
 refine lK (cv:=.int .i64 n) hs ?_ (RV.lit _)
 simp [execOp,ho,resolve,invoke,builtin,Builtin.len_,run_underlying hu,hv,goInt]
theorem aNa [GlobT] (hs : Sim (ftOf T) c) (htr : TR (ftOf T) c tm a.tmps) {x : AOpd} {y : Operand} {t e : TypeId} {n : Nat} (ho : o.op = .call ⟨.builtin .cap,#[y],#[t]⟩)
  (h : kN T x y = true) (hu : P.underlying t = some (.slice e))
  (hk : (kG tm x = .lit (.slice none 0 0) ∧ n = 0) ∨ (∃ es,kG tm x = .sl true es ∧ n = es.length)) :
  OpOK P (ftOf T) c fl o a (.lit (.int .i64 n)) c.H:=by
 have hx:=kO hs htr h
 have hv : ∃ ad len,a.eval y = .slice ad len n:=by
  rcases hk with ⟨hk,rfl⟩ | ⟨es,hk,rfl⟩ <;> rw [hk] at hx
  ·exact ⟨none,0,hx.lit_inv⟩
  ·have hp:=hx.sl_inv
   generalize a.eval y = w at hp
   cases hp with
   | nil _ ad cap hf => exact ⟨ad,0,by rw [hf rfl]; rfl⟩
   | sl _ _ b off cap cc Ty fz s vals g1 g2 g3 g4 g5 g6 g7 g8 => exact ⟨_,_,by rw [g6 rfl]⟩
 obtain ⟨ad,len,hv⟩:=hv
 refine lK (cv:=.int .i64 n) hs ?_ (RV.lit _)
 simp [execOp,ho,resolve,invoke,builtin,Builtin.cap_,run_underlying hu,hv,goInt]
theorem aM8 [GlobT] (hs : Sim (ftOf T) c) (htr : TR (ftOf T) c tm a.tmps) {x : AOpd} {y : Operand} {t k e : TypeId} {n : Nat} (ho : o.op = .call ⟨.builtin .len,#[y],#[t]⟩)
  (h : kN T x y = true) (hu : P.underlying t = some (.map k e))
  (hk : (kG tm x = .lit (.map none) ∧ n = 0) ∨ (∃ id ents,kG tm x = .mp id ∧ c.H[id]? = some (.mp ents) ∧ n = ents.length)) :
  OpOK P (ftOf T) c fl o a (.lit (.int .i64 n)) c.H:=by
 have hx:=kO hs htr h
 refine lK (cv:=.int .i64 n) hs ?_ (RV.lit _)
 rcases hk with ⟨hk,rfl⟩ | ⟨id,ents,hk,hob,rfl⟩ <;> rw [hk] at hx
 ·simp [execOp,ho,resolve,invoke,builtin,Builtin.len_,run_underlying hu,hx.lit_inv,goInt]
 ·obtain ⟨b,hv,_,hb⟩:=hx.mp_inv
  obtain ⟨es,clk,g1,g2,_⟩:=hs.map id ents b hob hb
  simp [execOp,ho,resolve,invoke,builtin,Builtin.len_,run_underlying hu,hv,goInt,getObj,Sem.run,g1,g2.1]
theorem aM7 [GlobT] (hs : Sim (ftOf T) c) (htr : TR (ftOf T) c tm a.tmps) {x : AOpd} {y : Operand} {t : TypeId} {v r : Value} (ho : o.op = .call ⟨.builtin .len,#[y],#[t]⟩)
  (h : kN T x y = true) (hx : kG tm x = .lit v) (hr : kM P (Builtin.len_ #[t] 0 #[v]) = some r) : OpOK P (ftOf T) c fl o a (.lit r) c.H:=by
 have hrv:=kO hs htr h
 rw [hx] at hrv
 refine lK (cv:=r) hs ?_ (RV.lit _)
 have h0:=lJ (w:=c.w) hr
 have e : Builtin.len_ #[t] o.type #[v] = Builtin.len_ #[t] 0 #[v]:=rfl
 simp [execOp,ho,resolve,invoke,builtin,hrv.lit_inv,e,h0]
theorem aUe [GlobT] (hs : Sim (ftOf T) c) {y : Operand} {t e : TypeId} {n : Nat} (ho : o.op = .call ⟨.builtin .len,#[y],#[t]⟩)
  (hu : P.underlying t = some (.array n e)) : OpOK P (ftOf T) c fl o a (.lit (.int .i64 n)) c.H:=by
 refine lK (cv:=.int .i64 n) hs ?_ (RV.lit _)
 simp [execOp,ho,resolve,invoke,builtin,Builtin.len_,run_underlying hu,goInt]
theorem aF4 [GlobT] (hs : Sim (ftOf T) c) (htr : TR (ftOf T) c tm a.tmps) {xs : List AOpd} {ys : Array Operand} {ts : Array TypeId} {vs : List Value} {r : Value} {b : Builtin} (ho : o.op = .call ⟨.builtin b,ys,ts⟩)
  (hb : b = .max ∨ b = .min) (h : nM T xs ys.toList = true) (hv : litL (xs.map (kG tm)) = some vs)
  (hr : kM P (if b = .max then Builtin.max_ #[] 0 vs.toArray else Builtin.min_ #[] 0 vs.toArray) = some r) : OpOK P (ftOf T) c fl o a (.lit r) c.H:=by
 obtain ⟨h1,h2⟩:=aEf hs htr h
 have e:=aId hv
 have hvs : ys.map a.eval = vs.toArray:=by
  apply Array.ext_getElem?
  intro i
  have hl : vs.length = xs.length:=by have:=congrArg List.length e; simpa using this.symm
  by_cases hi : i < vs.length
  ·have hx : (xs.map (kG tm))[i]? = some (.lit vs[i]):=by rw [e]; simp [hi]
   obtain ⟨v,g1,g2⟩:=h2 i _ hx
   have:=g2.lit_inv
   subst this
   have : (ys.map a.eval)[i]? = some vs[i]:=by simpa using g1
   rw [this]; simp [hi]
  ·have hy : ys.size = vs.length:=by simpa [hl] using h1.symm
   rw [Array.getElem?_eq_none (by simp; omega),Array.getElem?_eq_none (by simp; omega)]
 refine lK (cv:=r) hs ?_ (RV.lit _)
 have h0:=lJ (w:=c.w) hr
 rcases hb with rfl | rfl
 ·simp only [if_true] at h0
  have e2 : ∀ (as : Array Value) (ty : TypeId),Builtin.max_ ts ty as = Builtin.max_ #[] 0 as:=fun _ _ => rfl
  simp [execOp,ho,resolve,invoke,builtin,hvs,e2,h0]
 ·rw [if_neg (by simp)] at h0
  have e2 : ∀ (as : Array Value) (ty : TypeId),Builtin.min_ ts ty as = Builtin.min_ #[] 0 as:=fun _ _ => rfl
  simp [execOp,ho,resolve,invoke,builtin,hvs,e2,h0]
end
end Go.Proofs.YtkdnaejhpcibnaaGreatDoor.Av
