/- A part of the proof of a law of the chapter warp: an evaluator of the program, proved sound, and what it says. -/
import Derived.Calls
import Derived.Orders
import Derived.LoopN
import Derived.Below
import Derived.KernelRfl
import Derived.Laws.CopyRow
import Derived.Laws.AppendOwn
set_option linter.unusedVariables false
set_option linter.unusedSimpArgs false
namespace Go.Proofs.YtapabkfjeiknbaaGreat.Av
open Go
inductive AV where
 | undef
 | lit (v : Value)
 | sl (full : Bool) (es : List (List AV))
 | ms (id tot off len : Nat)
 | ptr (id tot idx off : Nat)
 | rptr (cs : List AV)
 | sptr (cs : List AV)
 | vw (es : List (List AV))
 | rmp (ents : List (Value × AV))
 | mp (id : Nat)
 | it (id : Nat)
 | fn (vi : Nat) (caps : List AV)
 | agg (cs : List AV)
 | tup (vs : List AV)
 deriving Inhabited
inductive AObj where
 | blk (s : Nat) (es : List (List AV))
 | mp (ents : List (Value × AV))
 | raw (ob : Obj)
 deriving Inhabited
abbrev Heap:=List AObj
structure St where
 tmps : List AV
 heap : Heap
inductive AOpd where
 | tmp (t : Nat)
 | lit (v : Value)
 | agg (vs : List Value)
 | fn (vi : Nat)
 | glob (g : Nat)
abbrev CF:=Nat→Nat→List AV→Heap→Option (AV × Heap)
def Le (cf cf' : CF) : Prop:=∀ fl vi args H x,cf fl vi args H=some x→cf' fl vi args H=some x
structure Prim where
 run : CF→Nat→List AV→Heap→Option (AV × Heap)
 mono : ∀ cf cf',Le cf cf'→∀ fl args H x,run cf fl args H=some x→run cf' fl args H=some x
abbrev bDs (g : Nat→List AV→Heap→Option (AV × Heap)) : Prim:=⟨fun _=>g,fun _ _ _ _ _ _ _ h=>h⟩
class GlobT where
 tab : Nat→Option (List AV)
 ok : Nat→Array Value→Prop:=fun _ _=>True
 prim : Nat→Option Prim:=fun _=>none
inductive AOp where
 | mov (x : AOpd)
 | movN (x : AOpd)
 | pick (c a b : AOpd)
 | alloc (z : List Value)
 | claim (s : Nat)
 | allocC (z : List Value) (cl : List (Nat × Nat))
 | box (x : AOpd)
 | build (z : List Value) (parts : List (Nat × Nat × AOpd))
 | buildSl (pu : Bool) (s n : Nat) (z : List Value) (parts : List (Nat × AOpd))
 | load (agg : Bool) (n : Nat) (x : AOpd)
 | store (n : Nat) (x v : AOpd)
 | nilCheck (x : AOpd)
 | ibin (op : BinOp) (x y : AOpd)
 | bin (op : BinOp) (t : TypeId) (x y : AOpd)
 | un (op : UnOp) (x : AOpd)
 | conv (src dst : TypeId) (x : AOpd)
 | fieldAddr (off : Nat) (x : AOpd)
 | field (agg : Bool) (n off : Nat) (x : AOpd)
 | idxAddr (s : Nat) (x i : AOpd)
 | idxArr (s n : Nat) (x i : AOpd)
 | index (agg : Bool) (s n : Nat) (x i : AOpd)
 | strIdx (t : TypeId) (x i : AOpd)
 | slice (s : Nat) (x : AOpd) (lo hi mx : Option AOpd)
 | strSlice (t : TypeId) (x : AOpd) (lo hi : Option AOpd)
 | mkSlice (s : Nat) (z : List Value) (bytes : Nat) (len cap : AOpd)
 | mkMap
 | lookup (kt : TypeId) (z : AOpd) (m k : AOpd) (ok : Bool)
 | mapUpd (kt : TypeId) (m k v : AOpd)
 | lenS (x : AOpd)
 | lenM (x : AOpd)
 | lenStr (t : TypeId) (x : AOpd)
 | lenC (n : Nat)
 | append (s bytes : Nat) (x y : AOpd)
 | appendZ (s bytes : Nat) (z : List Value) (x n : AOpd)
 | copy (s : Nat) (x y : AOpd)
 | clear (s : Nat) (z : List Value) (x : AOpd)
 | delete (kt : TypeId) (m k : AOpd)
 | minmax (mx : Bool) (xs : List AOpd)
 | mkFn (vi : Nat) (caps : List AOpd)
 | call (pu : Bool) (vi : Nat) (args : List AOpd)
 | callv (pu : Bool) (x : AOpd) (args : List AOpd)
 | callF (vi : Nat) (args : List AOpd)
 | callT (s vi : Nat) (args : List AOpd)
 | callB (vi : Nat) (args : List AOpd)
 | callS (vi : Nat) (args : List AOpd)
 | capS (x : AOpd)
 | extract (x : AOpd) (i : Nat)
 | freeze (x : AOpd)
 | loadF (n k : Nat) (x : AOpd)
 | appendP (s bytes : Nat) (x y : AOpd)
 | rangeStr (x : AOpd)
 | nextStr (x : AOpd)
structure AOper where
 dst : Option Nat
 op : AOp
 guard : Option (Nat × Bool)
inductive ACode where
 | skip
 | region (draw : Bool) (ck : List (Nat × Nat)) (ops : List AOper)
 | seq (a b : ACode)
 | cond (c : AOpd) (a b : ACode)
 | block (id : Nat) (c : ACode)
 | loop (live : Option (List Bool)) (tr : Bool) (c : ACode)
 | exit (id : Nat)
 | ret
 | frz (t : Nat) (c : ACode)
 | mask (lx lr : List Bool) (tr : Bool) (c : ACode)
 | told (li lx lr : List Bool) (c : ACode)
 | scope (c : ACode)
 | nilIf (t d0 d1 : Nat) (a b : ACode)
 | loopV (live lx lr : List Bool) (t : Nat) (c : ACode)
 | stop
inductive ARes where
 | tmp (t : Nat)
 | cell (t n : Nat) (agg : Bool)
structure AFun where
 fid : Nat
 nt : Nat
 rets : List ARes
 body : ACode
inductive AExit where
 | normal
 | exit (id : Nat)
 | ret
def nilS : Value:=.slice none 0 0
def gD : Value:=.tuple #[]
def eD {α : Type} (P : Program) : Sem α→Option α
 | .pure a=>some a
 | .program k=>eD P (k P)
 | .mark _ k=>eD P k
 | _=>none
def gA : Value→Bool
 | .agg _=>false
 | .tuple _=>false
 | _=>true
def aGv : Value→Bool
 | .nilIface=>false
 | _=>true
def cellsOf : AV→Option (List AV)
 | .undef=>none
 | .tup _=>none
 | .agg cs=>some cs
 | .lit v=>if gA v then some [.lit v] else none
 | v=>some [v]
def nrmV (v : Value) : AV:=match v with
 | .slice a l c=>match a with
  | none=>match l with
   | 0=>match c with
    | 0=>.sl false []
    | _=>.lit v
   | _=>.lit v
  | _=>.lit v
 | _=>.lit v
def nrm : AV→AV
 | .lit v=>nrmV v
 | .sl _ es=>.sl false es
 | v=>v
def nrm2 : AV→AV
 | .agg cs=>.agg (cs.map nrm)
 | v=>nrm v
def toP : AV→AV
 | .lit v=>nrmV v
 | .sl _ es=>.sl false es
 | .sptr cs=>.sptr cs
 | .rmp ents=>.rmp ents
 | _=>.undef
def rd (H : Heap) : AV→Option (List (List AV))
 | .lit (.slice none 0 0)=>some []
 | .sl _ es=>some es
 | .vw es=>some es
 | .ms id tot off len =>
  match H[id]? with
  | some (.blk _ es)=>if es.length=tot then some ((es.drop off).take len) else none
  | _=>none
 | _=>none
def lD (H : Heap) (n : Nat) : Nat→AV→AV
 | _,.lit v=>nrmV v
 | _,.sl _ es=>.sl false es
 | _,.sptr cs=>.sptr cs
 | _,.rmp ents=>.rmp ents
 | d + 1,.mp id =>
  if n ≤ id then match H[id]? with
   | some (.mp ents)=>.rmp (ents.map fun e=>(e.1,lD H n d e.2))
   | _=>.undef
  else .undef
 | d + 1,.ms id tot off len =>
  if n ≤ id then match rd H (.ms id tot off len) with
   | some es=>.sl false (es.map fun e=>e.map (lD H n d))
   | none=>.undef
  else .undef
 | _,_=>.undef
def nV : Nat:=6
def jX (H : Heap) (n : Nat) : AV→AV
 | .lit v=>nrmV v
 | .sl _ es=>.sl false es
 | .sptr cs=>.sptr cs
 | .rmp ents=>.rmp ents
 | .ms id tot off len=>if id < n then .ms id tot off len else lD H n nV (.ms id tot off len)
 | .ptr id tot idx off=>if id < n then .ptr id tot idx off else .undef
 | .mp id=>if id < n then .mp id else lD H n nV (.mp id)
 | .fn vi []=>.fn vi []
 | _=>.undef
def qM (H : Heap) (n : Nat) : AV→AV
 | .agg cs=>.agg (cs.map (jX H n))
 | v=>jX H n v
def mI (H : Heap) (n : Nat) : AV→AV
 | .tup vs=>.tup (vs.map (qM H n))
 | v=>qM H n v
def aIx (n : Nat) : AV→AV
 | .lit v=>.lit v
 | .it id=>if id < n then .it id else .undef
 | .sl f es=>.sl f es
 | .rptr cs=>.rptr cs
 | .sptr cs=>.sptr cs
 | .vw es=>.vw es
 | .rmp ents=>.rmp ents
 | .ms id tot off len=>if id < n then .ms id tot off len else .undef
 | .ptr id tot idx off=>if id < n then .ptr id tot idx off else .undef
 | .mp id=>if id < n then .mp id else .undef
 | .fn vi []=>.fn vi []
 | _=>.undef
def aA7 (n : Nat) : AV→AV
 | .fn vi caps=>.fn vi (caps.map (aIx n))
 | v=>aIx n v
def aIw (n : Nat) : AV→AV
 | .agg cs=>.agg (cs.map (aA7 n))
 | v=>aA7 n v
def aMw (n : Nat) : AV→AV
 | .tup vs=>.tup (vs.map (aIw n))
 | v=>aIw n v
def litL : List AV→Option (List Value)
 | []=>some []
 | .lit v :: r=>match litL r with | some l=>some (v :: l) | none=>none
 | _ :: _=>none
def lits : AV→Option Value
 | .lit v=>some v
 | .agg cs=>match litL cs with | some l=>some (.agg l.toArray) | none=>none
 | _=>none
def dU [GlobT] (tm : List AV) : AOpd→AV
 | .glob g=>match GlobT.tab g with | some cs=>.rptr cs | none=>.undef
 | .tmp t=>match tm[t]? with | some v=>v | none=>.lit gD
 | .lit v=>.lit v
 | .agg vs=>.agg (vs.map .lit)
 | .fn vi=>.fn vi []
def aQ8 : AV→Bool
 | .lit _=>true
 | .tup vs=>vs.all fun v=>match v with | .lit _=>true | _=>false
 | _=>false
def uT (H : Heap) (x : AV) (n : Nat) : Option (List AV) :=
 match x with
 | .ptr id tot idx off =>
  match H[id]? with
  | some (.blk _ es) =>
   if es.length=tot then
    match es[idx]? with
    | some e=>if off + n ≤ e.length then some ((e.drop off).take n) else none
    | none=>none
   else none
  | _=>none
 | .rptr cs=>if n ≤ cs.length then some (cs.take n) else none
 | .sptr cs=>if n ≤ cs.length then some (cs.take n) else none
 | _=>none
def jM {α : Type} (e : List α) (off : Nat) (cs : List α) : List α:=e.take off++(cs++e.drop (off + cs.length))
def aDs (fl : Nat) (H : Heap) (x : AV) (cs : List AV) : Option Heap :=
 match x with
 | .ptr id tot idx off =>
  if fl ≤ id then
   match H[id]? with
   | some (.blk s es) =>
    if es.length=tot then
     match es[idx]? with
     | some e=>if off + cs.length ≤ e.length then some (H.set id (.blk s (es.set idx (jM e off cs)))) else none
     | none=>none
    else none
   | _=>none
  else none
 | _=>none
def aU6 (op : BinOp) (k : IntKind) (a b : Int) : Option Value :=
 match op with
 | .add=>some (.int k (k.wrap (a + b)))
 | .sub=>some (.int k (k.wrap (a - b)))
 | .mul=>some (.int k (k.wrap (a * b)))
 | .eql=>some (.bool (a == b))
 | .neq=>some (.bool (a != b))
 | .lss=>some (.bool (a < b))
 | .leq=>some (.bool (a ≤ b))
 | .gtr=>some (.bool (a > b))
 | .geq=>some (.bool (a ≥ b))
 | _=>none
def aSd (cells : List AV) : List (Nat × Nat × AV)→Option (List AV)
 | []=>some cells
 | (off,size,v) :: rest =>
  match cellsOf v with
  | none=>none
  | some cs=>if cs.length=size∧off + size ≤ cells.length then aSd (jM cells off cs) rest else none
def aN5 (s : Nat) (es : List (List AV)) : List (Nat × AV)→Option (List (List AV))
 | []=>some es
 | (i,v) :: rest =>
  match cellsOf v with
  | none=>none
  | some cs=>if cs.length=s∧i < es.length then aN5 s (es.set i cs) rest else none
def uS : AV→Option Nat
 | .lit (.int _ n)=>if 0 ≤ n then some n.toNat else none
 | _=>none
def tH [GlobT] (tm : List AV) : Option AOpd→Option (Option Nat)
 | none=>some none
 | some x=>match uS (dU tm x) with | some n=>some (some n) | none=>none
def zJ (s : Nat) (es : List (List AV)) : Bool:=es.all fun e=>e.length == s
def aFl : List (List AV)→Option (List Int)
 | []=>some []
 | e :: r=>match e with
  | [.lit (.int .u8 n)]=>match aFl r with
   | some l=>some (n :: l)
   | none=>none
  | _=>none
def aJx (ns : List Int) : ByteArray:=ns.foldl (fun r n=>r.push (UInt8.ofNat n.toNat)) ByteArray.empty
def aN1 (P : Program) (src dst : TypeId) : Bool:=match P.underlying src with
 | some (.slice e)=>match P.underlying e with
  | some (.int .u8)=>match P.underlying dst with
   | some .string=>true
   | _=>false
  | _=>false
 | _=>false
def aAr (P : Program) (kt : TypeId) (k : Value) (ents : List (Value × AV)) : Option (Option Nat) :=
 match eD P (Instr.findKey kt k (ents.map fun e=>{ key:=e.1,val:=.bool false,born:=0 })) with
 | some (some (i,_))=>some (some i)
 | some none=>some none
 | none=>none
def aCv (s : Nat) : List (List AV)→Bool
 | []=>true
 | e :: _=>e.length == s
def aBy (H : Heap) (s : Nat) (x : AV) (lo hi mx : Option Nat) : Option AV :=
 match x with
 | .lit (.slice none 0 0)=>if lo.getD 0=0∧hi.getD 0=0∧mx.getD 0=0∧(mx.isSome→hi.isSome) then some (.lit nilS) else none
 | .sl f es =>
  match mx with
  | none =>
   let h:=hi.getD es.length
   let l:=lo.getD 0
   if l ≤ h∧h ≤ es.length∧aCv s es=true then some (.sl (f && h == es.length) ((es.take h).drop l)) else none
  | some m =>
   match hi with
   | none=>none
   | some h =>
    let l:=lo.getD 0
    if l ≤ h∧h ≤ m∧m ≤ es.length∧aCv s es=true then some (.sl (h == m) ((es.take h).drop l)) else none
 | .vw es =>
  match mx with
  | none =>
   let h:=hi.getD es.length
   let l:=lo.getD 0
   if l ≤ h∧h ≤ es.length∧aCv s es=true then some (.vw ((es.take h).drop l)) else none
  | some m =>
   match hi with
   | none=>none
   | some h=>if lo.getD 0=0∧h=0∧m=0 then some (.sl true []) else none
 | .ms id tot off len =>
  match mx with
  | none =>
   let h:=hi.getD len
   let l:=lo.getD 0
   match H[id]? with
   | some (.blk s' es)=>if l ≤ h∧h ≤ len∧s'=s then some (.ms id tot (off + l) (h - l))
    else if l ≤ h∧off + h ≤ tot∧es.length=tot∧0 < s∧s'=s then some (.ms id tot (off + l) (h - l)) else none
   | _=>none
  | some m =>
   match hi with
   | none=>none
   | some h =>
    let l:=lo.getD 0
    if l=h∧h=m∧m ≤ len then some (.sl true []) else if l ≤ h∧h ≤ m∧m ≤ len then some .undef else none
 | _=>none
def aLw (H : Heap) : AV→AV
 | .lit v=>match nrmV v with
  | .lit u=>.lit u
  | _=>.vw []
 | .sl _ es=>.vw es
 | .vw es=>.vw es
 | .rptr cs=>.rptr cs
 | .sptr cs=>.sptr cs
 | .rmp ents=>.rmp ents
 | .ms id tot off len=>match rd H (.ms id tot off len) with
  | some es=>.vw (es.map fun e=>e.map toP)
  | none=>.undef
 | .fn vi []=>.fn vi []
 | _=>.undef
def nO (H : Heap) : AV→AV
 | .agg cs=>.agg (cs.map (aLw H))
 | v=>aLw H v
def bF0 : AV→Bool
 | .lit _=>true
 | _=>false
def aO8 (s : Nat) (H' : Heap) : AV→Option (List (List AV))
 | .ms id tot off len=>match Nat.beq off 0 && Nat.beq len tot with
  | false=>none
  | true=>match H'[id]? with
   | none=>none
   | some o=>match o with
    | .blk s' es=>match Nat.beq es.length tot && Nat.beq s' s with
     | true=>some (es.map fun e=>e.map (lD (H'.set id (.blk s (es++[List.replicate s .undef]))) 0 nV))
     | false=>none
    | _=>none
 | .lit v=>match v with
  | .slice a len cap=>match a with
   | none=>match Nat.beq len 0 && Nat.beq cap 0 with
    | true=>some []
    | false=>none
   | some _=>none
  | _=>none
 | _=>none
def aKv (s : Nat) (H : Heap) (q : Option (AV × Heap)) : Option (AV × Heap):=match q with
 | none=>none
 | some p=>match p.1 with
  | .tup cs=>match cs with
   | []=>none
   | x :: l=>match l.all bF0 with
    | false=>none
    | true=>match aO8 s p.2 x with
     | none=>none
     | some rows=>some (.tup (.ms H.length rows.length 0 rows.length :: l),H++[.blk s rows])
  | r=>match aO8 s p.2 r with
   | none=>none
   | some rows=>some (.ms H.length rows.length 0 rows.length,H++[.blk s rows])
def room (n bytes : Nat) : Bool:=n * bytes ≤ 2 ^ 40 && n ≤ 2 ^ 40
def iE (fl : Nat) (H : Heap) (s bytes : Nat) (x : AV) (ys : List (List AV)) : Option (AV × Heap) :=
 if zJ s ys=true∧0 < s∧room ys.length bytes=true then
  match x with
  | .lit (.slice none 0 0) =>
   if ys.length=0 then some (x,H) else some (.ms H.length ys.length 0 ys.length,H++[.blk s ys])
  | .sl f es =>
   if ys.length=0 then some (x,H)
   else if f=true∧zJ s es=true∧room (es.length + ys.length) bytes=true then
    some (.ms H.length (es.length + ys.length) 0 (es.length + ys.length),H++[.blk s (es++ys)])
   else none
  | .ms id tot off len =>
   match H[id]? with
   | some (.blk s' es) =>
    if s'=s∧es.length=tot∧room (tot + ys.length) bytes=true then
     if ys.length=0 then some (x,H)
     else if fl ≤ id then
      if off=0∧len=tot then
       some (.ms id (tot + ys.length) 0 (tot + ys.length),H.set id (.blk s (es++ys)))
      else if off + len + ys.length ≤ tot then
       some (.ms id tot off (len + ys.length),H.set id (.blk s (jM es (off + len) ys)))
      else none
     else none
    else none
   | _=>none
  | _=>none
 else none
def bDn : AV→Option (List (List AV))
 | .lit (.slice none 0 0)=>some []
 | .sl _ ys=>some ys
 | _=>none
def appP (s bytes : Nat) (x y : AV) : Option AV:=match x with
 | .sl f es=>match f with
  | true=>match es with
   | []=>match bDn y with
    | some ys=>if zJ s ys=true∧0 < s∧room ys.length bytes=true then some (.sl false (ys.map fun e=>e.map toP)) else none
    | none=>none
   | _ :: _=>none
  | false=>none
 | _=>none
def rN (n : Nat) (cs : List AV) : List (Nat × Nat)→List AV
 | []=>cs
 | (o,_) :: r=>rN (n + 1) (cs.set o (.ms n 0 0 0)) r
def aMe : AV→Bool
 | .undef=>true
 | .lit _=>true
 | .sl _ _=>true
 | .rptr _=>true
 | .sptr _=>true
 | .rmp _=>true
 | .fn _ []=>true
 | _=>false
def aS6 : List AV→Bool
 | []=>true
 | x :: r=>match aMe x with | true=>aS6 r | false=>false
def aKl : AV→Bool
 | .agg cs=>aS6 cs
 | v=>aMe v
def pJ : List AV→Bool
 | []=>true
 | x :: r=>match aKl x with | true=>pJ r | false=>false
section
variable (P : Program) (cf : Nat→Nat→List AV→Heap→Option (AV × Heap)) (fl : Nat)
def yM (pu : Bool) (vi : Nat) (args : List AV) (H : Heap) : Option (AV × Heap) :=
 match pu with
 | true =>
  match pJ args with
  | true =>
   match cf 0 vi (args.map nrm2) [] with
   | some (r,H')=>some (mI H' 0 r,H)
   | none=>none
  | false =>
   match cf H.length vi (args.map nrm2) H with
   | some (r,H')=>some (mI H' H.length r,H)
   | none=>none
 | false=>cf fl vi args H
def evOp [GlobT] (op : AOp) (tm : List AV) (H : Heap) : Option (AV × Heap) :=
 match op with
 | .mov x=>some (dU tm x,H)
 | .movN x=>some (nrm2 (dU tm x),H)
 | .pick c a b=>match dU tm c with
  | .lit (.bool t)=>some (if t then dU tm a else dU tm b,H)
  | _=>none
 | .alloc z=>some (.ptr H.length 1 0 0,H++[.blk z.length [z.map .lit]])
 | .claim s=>some (.ms H.length 0 0 0,H++[.blk s []])
 | .allocC z cl=>some (.ptr (H.length + cl.length) 1 0 0,
   (H++cl.map fun c=>.blk c.2 [])++[.blk z.length [rN H.length (z.map .lit) cl]])
 | .box x=>match cellsOf (dU tm x) with
  | some cs=>some (.ptr H.length 1 0 0,H++[.blk cs.length [cs]])
  | none=>none
 | .build z parts=>match aSd (z.map .lit) (parts.map fun (o,s,x)=>(o,s,dU tm x)) with
  | some cs=>some (.agg cs,H)
  | none=>none
 | .buildSl pu s n z parts=>match aN5 s (List.replicate n (z.map .lit)) (parts.map fun (i,x)=>(i,dU tm x)) with
  | some es=>if pu then some (.sl true (es.map fun e=>e.map toP),H) else some (.ms H.length n 0 n,H++[.blk s es])
  | none=>none
 | .load agg n x=>match uT H (dU tm x) n with
  | some cs=>if agg then some (.agg cs,H) else match cs with
   | [c]=>some (c,H)
   | _=>none
  | none=>none
 | .store n x v=>match cellsOf (dU tm v) with
  | some cs=>if cs.length=n then match aDs fl H (dU tm x) cs with
    | some H'=>some (.lit gD,H')
    | none=>none
   else none
  | none=>none
 | .nilCheck x=>match dU tm x with
  | .ptr ..=>some (dU tm x,H)
  | .rptr _=>some (dU tm x,H)
  | .sptr _=>some (dU tm x,H)
  | .fn ..=>some (dU tm x,H)
  | _=>none
 | .ibin op x y=>match dU tm x,dU tm y with
  | .lit (.int k a),.lit (.int k' b)=>if k=k' then match aU6 op k a b with
    | some v=>some (.lit v,H)
    | none=>none
   else none
  | _,_=>none
 | .bin op t x y=>match lits (dU tm x),lits (dU tm y) with
  | some v,some u=>match (if aGv v then eD P (eqGuard op t (.tmp 0) (.tmp 0) v u) else none) with
   | some _=>match eD P (binOp op t v u) with
    | some r=>some (.lit r,H)
    | none=>none
   | none=>none
  | _,_=>none
 | .un op x=>match dU tm x with
  | .lit v=>match eD P (Op.unary op v) with
   | some r=>some (.lit r,H)
   | none=>none
  | _=>none
 | .conv src dst x=>match dU tm x with
  | .lit v=>match eD P (convert src dst v) with
   | some r=>some (.lit r,H)
   | none=>none
  | .sl _ es=>match aN1 P src dst with
   | true=>match aFl es with
    | some ns=>some (.lit (.string (aJx ns)),H)
    | none=>none
   | false=>none
  | _=>none
 | .fieldAddr off x=>match dU tm x with
  | .ptr id tot idx o=>some (.ptr id tot idx (o + off),H)
  | .rptr cs=>some (.rptr (cs.drop off),H)
  | .sptr cs=>some (.rptr (cs.drop off),H)
  | _=>none
 | .field agg n off x=>match dU tm x with
  | .agg cs=>if off + n ≤ cs.length then
    if agg then some (.agg ((cs.drop off).take n),H) else match (cs.drop off).take n with
     | [c]=>some (c,H)
     | _=>none
   else none
  | _=>none
 | .idxAddr s x i=>match uS (dU tm i) with
  | some i=>match dU tm x with
   | .sl _ es=>match es[i]? with
    | some e=>if e.length=s then some (.rptr e,H) else none
    | none=>none
   | .vw es=>match es[i]? with
    | some e=>if e.length=s then some (.rptr e,H) else none
    | none=>none
   | .ms id tot off len=>match H[id]? with
    | some (.blk s' es)=>if s'=s∧es.length=tot∧i < len then some (.ptr id tot (off + i) 0,H) else none
    | _=>none
   | _=>none
  | none=>none
 | .idxArr s n x i=>match uS (dU tm i) with
  | some i=>if i < n then match dU tm x with
    | .ptr id tot idx o=>some (.ptr id tot idx (o + i * s),H)
    | .rptr cs=>some (.rptr (cs.drop (i * s)),H)
    | _=>none
   else none
  | none=>none
 | .index agg s n x i=>match uS (dU tm i) with
  | some i=>if i < n then match dU tm x with
    | .agg cs=>if i * s + s ≤ cs.length then
      if agg then some (.agg ((cs.drop (i * s)).take s),H) else match (cs.drop (i * s)).take s with
       | [c]=>some (c,H)
       | _=>none
     else none
    | _=>none
   else none
  | none=>none
 | .strIdx t x i=>match dU tm x,dU tm i with
  | .lit v,.lit u=>match eD P (Instr.index t v u) with
   | some r=>some (.lit r,H)
   | none=>none
  | _,_=>none
 | .slice s x lo hi mx=>match tH tm lo,tH tm hi,tH tm mx with
  | some lo,some hi,some mx=>match aBy H s (dU tm x) lo hi mx with
   | some v=>some (v,H)
   | none=>none
  | _,_,_=>none
 | .strSlice _ x lo hi=>match dU tm x,tH tm lo,tH tm hi with
  | .lit (.string s),some lo,some hi =>
   if lo.getD 0 ≤ hi.getD s.size∧hi.getD s.size ≤ s.size then some (.lit (.string (s.extract (lo.getD 0) (hi.getD s.size))),H) else none
  | _,_,_=>none
 | .mkSlice s z bytes len cap=>match uS (dU tm len),uS (dU tm cap) with
  | some l,some c=>if l ≤ c∧c * bytes ≤ 2 ^ 40∧c ≤ 2 ^ 40∧z.length=s then
    some (.ms H.length l 0 l,H++[.blk s (List.replicate l (z.map .lit))]) else none
  | _,_=>none
 | .mkMap=>some (.mp H.length,H++[.mp []])
 | .lookup kt z m k ok=>match lits (dU tm k) with
  | some kv =>
   let r (ents : List (Value × AV)) : Option (AV × Heap) :=
    match eD P (Instr.checkKey ents.isEmpty 10000 kt kv),aAr P kt kv ents with
    | some _,some (some i)=>match ents[i]? with
     | some e=>some (if ok then .tup [e.2,.lit (.bool true)] else e.2,H)
     | none=>none
    | some _,some none=>some (if ok then .tup [dU tm z,.lit (.bool false)] else dU tm z,H)
    | _,_=>none
   match dU tm m with
   | .lit (.map none)=>r []
   | .mp id=>match H[id]? with
    | some (.mp ents)=>r ents
    | _=>none
   | .rmp ents=>r ents
   | _=>none
  | none=>none
 | .mapUpd kt m k v=>match lits (dU tm k),dU tm m with
  | some kv,.mp id=>if fl ≤ id then match H[id]? with
    | some (.mp ents)=>match eD P (Instr.checkKey false 10000 kt kv),aAr P kt kv ents with
     | some _,some (some i)=>match ents[i]? with
      | some e=>if Instr.sameBits 10000 e.1 kv then some (.lit gD,H.set id (.mp (ents.set i (kv,dU tm v)))) else none
      | none=>none
     | some _,some none=>some (.lit gD,H.set id (.mp (ents++[(kv,dU tm v)])))
     | _,_=>none
    | _=>none
   else none
  | _,_=>none
 | .lenS x=>match dU tm x with
  | .lit (.slice none 0 0)=>some (.lit (.int .i64 0),H)
  | .sl _ es=>some (.lit (.int .i64 es.length),H)
  | .vw es=>some (.lit (.int .i64 es.length),H)
  | .ms _ _ _ len=>some (.lit (.int .i64 len),H)
  | _=>none
 | .lenM x=>match dU tm x with
  | .lit (.map none)=>some (.lit (.int .i64 0),H)
  | .mp id=>match H[id]? with
   | some (.mp ents)=>some (.lit (.int .i64 ents.length),H)
   | _=>none
  | .rmp ents=>some (.lit (.int .i64 ents.length),H)
  | _=>none
 | .lenStr t x=>match dU tm x with
  | .lit v=>match eD P (Builtin.len_ #[t] 0 #[v]) with
   | some r=>some (.lit r,H)
   | none=>none
  | _=>none
 | .lenC n=>some (.lit (.int .i64 n),H)
 | .append s bytes x y=>match rd H (dU tm y) with
  | some ys=>iE fl H s bytes (dU tm x) ys
  | none=>none
 | .appendZ s bytes z x n=>match uS (dU tm n) with
  | some n=>if z.length=s∧n ≤ 2 ^ 20∧n * bytes ≤ 2 ^ 40 then iE fl H s bytes (dU tm x) (List.replicate n (z.map .lit)) else none
  | none=>none
 | .copy s x y=>match rd H (dU tm y) with
  | some ys=>if zJ s ys=true∧0 < s then match dU tm x with
    | .ms id tot off len=>match H[id]? with
     | some (.blk s' es)=>if s'=s∧es.length=tot∧ys.length ≤ len∧fl ≤ id then (if ys.length=0 then some (.lit (.int .i64 0),H) else some (.lit (.int .i64 ys.length),H.set id (.blk s (jM es off ys)))) else none
     | _=>none
    | _=>none
   else none
  | none=>none
 | .clear s z x=>match dU tm x with
  | .lit (.slice none 0 0)=>some (.tup [],H)
  | .sl _ []=>some (.tup [],H)
  | .ms id tot off len=>match H[id]? with
   | some (.blk s' es)=>if s'=s∧es.length=tot∧off + len ≤ tot∧fl ≤ id∧0 < s∧z.length=s then (if len=0 then some (.tup [],H) else some (.tup [],H.set id (.blk s (jM es off (List.replicate len (z.map .lit)))))) else none
   | _=>none
  | _=>none
 | .delete kt m k=>match lits (dU tm k),dU tm m with
  | some kv,.mp id=>if fl ≤ id then match H[id]? with
    | some (.mp ents)=>match eD P (Instr.checkKey ents.isEmpty 10000 kt kv),aAr P kt kv ents with
     | some _,some (some i)=>some (.lit gD,H.set id (.mp (ents.eraseIdx i)))
     | some _,some none=>some (.lit gD,H)
     | _,_=>none
    | _=>none
   else none
  | _,_=>none
 | .minmax mx xs=>match litL (xs.map (dU tm)) with
  | some vs=>match eD P (if mx then Builtin.max_ #[] 0 vs.toArray else Builtin.min_ #[] 0 vs.toArray) with
   | some r=>some (.lit r,H)
   | none=>none
  | none=>none
 | .mkFn vi caps=>some (.fn vi (caps.map (dU tm)),H)
 | .call pu vi args=>yM cf fl pu vi (args.map (dU tm)) H
 | .callv pu x args=>match dU tm x with
  | .fn vi caps=>yM cf fl pu vi (args.map (dU tm)++caps) H
  | _=>none
 | .callF vi args=>cf H.length vi (args.map (dU tm)) H
 | .callT s vi args=>aKv s H (cf 0 vi ((args.map (dU tm)).map (nO H)) [])
 | .callB vi args=>match cf 0 vi ((args.map (dU tm)).map (nO H)) [] with
  | some (r,H')=>some (mI H' 0 r,H)
  | none=>none
 | .callS vi args=>match cf 0 vi ((args.map (dU tm)).map (qM H 0)) [] with
  | some (r,H')=>match aQ8 (mI H' 0 r) with
   | true=>some (mI H' 0 r,H)
   | false=>none
  | none=>none
 | .capS x=>match dU tm x with
  | .lit (.slice none 0 0)=>some (.lit (.int .i64 0),H)
  | .sl true es=>some (.lit (.int .i64 es.length),H)
  | _=>none
 | .extract x i=>match dU tm x with
  | .tup vs=>match vs[i]? with
   | some v=>some (v,H)
   | none=>none
  | _=>none
 | .rangeStr x=>match dU tm x with
  | .lit (.string s)=>some (.it H.length,H++[.raw (.stringIter s 0)])
  | _=>none
 | .nextStr x=>match dU tm x with
  | .it id=>if fl ≤ id then match H[id]? with
    | some (.raw (.stringIter s pos))=>if pos < s.size then some (.tup [.lit (.bool true),.lit (.int .i64 pos),.lit (.int .i32 (Utf8.decode s pos).1)],H.set id (.raw (.stringIter s (pos + (Utf8.decode s pos).2)))) else some (.tup [.lit (.bool false)],H)
    | _=>none
   else none
  | _=>none
 | .freeze x=>match dU tm x with
  | .ms id tot off len=>if fl ≤ id then match H[id]? with
    | some (.blk s es)=>if es.length=tot then some (.sl false (((es.drop off).take len).map fun e=>e.map toP),H.set id (.blk s (es++[List.replicate s .undef]))) else none
    | _=>none
   else none
  | .ptr id tot idx off=>if fl ≤ id then match H[id]? with
    | some (.blk s es)=>if es.length=tot then match es[idx]? with
      | some e=>some (.sptr ((e.drop off).map toP),H.set id (.blk s (es++[List.replicate s .undef])))
      | none=>none
     else none
    | _=>none
   else none
  | v=>some (v,H)
 | .appendP s bytes x y=>match appP s bytes (dU tm x) (dU tm y) with
  | some v=>some (v,H)
  | none=>none
 | .loadF n k x=>match uT H (dU tm x) n with
  | some cs=>match cs[k]? with
   | some (.ms id tot off len)=>if fl ≤ id then match H[id]? with
     | some (.blk s es)=>if es.length=tot then some (.agg (cs.set k (.sl false (((es.drop off).take len).map fun e=>e.map toP))),H.set id (.blk s (es++[List.replicate s .undef]))) else none
     | _=>none
    else none
   | some _=>some (.agg cs,H)
   | none=>none
  | none=>none
def putA (tm : List AV) (d : Option Nat) (v : AV) : List AV :=
 match d with
 | some d=>tm.set d v
 | none=>tm
def xP [GlobT] (tm : List AV) (g : Option (Nat × Bool)) : Option Bool :=
 match g with
 | none=>some true
 | some (t,want)=>match dU tm (.tmp t) with
  | .lit (.bool b)=>some (b == want)
  | .lit _=>some false
  | _=>none
def jK [GlobT] (o : AOper) (st : St) : Option St :=
 match xP st.tmps o.guard with
 | some true=>match evOp P cf fl o.op st.tmps st.heap with
  | some (v,H)=>some ⟨putA st.tmps o.dst v,H⟩
  | none=>none
 | some false=>some ⟨putA st.tmps o.dst (.lit gD),st.heap⟩
 | none=>none
end
def aRl : AV→Option Nat
 | .ptr id _ _ _=>some id
 | .ms id _ _ _=>some id
 | .mp id=>some id
 | _=>none
def mT [GlobT] (op : AOp) (tm : List AV) : Option (Option Nat) :=
 match op with
 | .load _ _ x=>some (aRl (dU tm x))
 | .idxAddr _ x _=>some (aRl (dU tm x))
 | .slice _ x _ _ _=>some (aRl (dU tm x))
 | .lookup _ _ m _ _=>some (aRl (dU tm m))
 | .lenM x=>some (aRl (dU tm x))
 | .call true _ args=>match pJ (args.map (dU tm)) with
  | true=>some none
  | false=>none
 | .callS _ args=>match pJ (args.map (dU tm)) with
  | true=>some none
  | false=>none
 | .callv true x args=>match dU tm x with
  | .fn _ caps=>match pJ (args.map (dU tm)++caps) with
   | true=>some none
   | false=>none
  | _=>none
 | _=>none
def aMl [GlobT] (op : AOp) (tm : List AV) (n id : Nat) : Bool :=
 match op with
 | .alloc _=>Nat.blt id n
 | .claim _=>Nat.blt id n
 | .allocC _ _=>Nat.blt id n
 | .box _=>Nat.blt id n
 | .buildSl _ _ _ _ _=>Nat.blt id n
 | .mkSlice _ _ _ _ _=>Nat.blt id n
 | .mkMap=>Nat.blt id n
 | .callF _ _=>Nat.blt id n
 | .callT _ _ _=>Nat.blt id n
 | .store _ x _=>match dU tm x with
  | .ptr i _ _ _=>!Nat.beq i id
  | _=>false
 | .append _ _ x _=>match dU tm x with
  | .ms i _ _ _=>!Nat.beq i id
  | _=>Nat.blt id n
 | .mapUpd _ m _ _=>match dU tm m with
  | .mp i=>!Nat.beq i id
  | _=>false
 | _=>false
def bEu [GlobT] (ops : List AOper) (l : List St) (k m : Nat) : Bool :=
 match ops[k]? with
 | some ok=>match l[k]? with
  | some sk=>match xP sk.tmps ok.guard with
   | some false=>true
   | _=>match mT ok.op sk.tmps with
    | some none=>true
    | some (some id)=>match ops[m]? with
     | some om=>match l[m]? with
      | some sm=>match xP sm.tmps om.guard with
       | some false=>true
       | _=>aMl om.op sm.tmps sm.heap.length id
      | none=>false
     | none=>false
    | none=>false
  | none=>false
 | none=>false
def aVk [GlobT] (ops : List AOper) (l : List St) : List (Nat × Nat)→Bool
 | []=>true
 | (k,m) :: r=>match bEu ops l k m with
  | true=>aVk ops l r
  | false=>false
section
variable (P : Program) (cf : Nat→Nat→List AV→Heap→Option (AV × Heap))
def yW [GlobT] (fl : Nat) : List AOper→St→Option St
 | [],st=>some st
 | o :: r,st=>match jK P cf fl o st with
  | some st=>yW fl r st
  | none=>none
def aAs [GlobT] (fl : Nat) : List AOper→St→Option (List St)
 | [],st=>some [st]
 | o :: r,st=>match jK P cf fl o st with
  | some st1=>match aAs fl r st1 with
   | some l=>some (st :: l)
   | none=>none
  | none=>none
def aFb [GlobT] (fl : Nat) (ck : List (Nat × Nat)) (ops : List AOper) (st : St) : Option St:=match ck with
 | []=>yW P cf fl ops st
 | c :: r=>match aAs P cf fl ops st with
  | some l=>match aVk ops l (c :: r) with
   | true=>l.getLast?
   | false=>none
  | none=>none
def xE : List Bool→List AV→List AV
 | b :: bs,v :: vs=>(if b then v else .undef) :: xE bs vs
 | [],vs=>vs.map fun _=>.undef
 | _,[]=>[]
def gG (n : Nat) : AObj→AObj
 | .blk s es=>.blk s (es.map fun e=>e.map (aA7 n))
 | .mp ents=>.mp (ents.map fun e=>(e.1,aIw n e.2))
 | .raw ob=>.raw ob
def aXb (live : Option (List Bool)) (tm : List AV) : List AV:=match live with | some l=>xE l tm | none=>tm
def eO (live : Option (List Bool)) (tr : Bool) (fl n : Nat) (st : St) : St :=
 if tr then ⟨(aXb live st.tmps).map (aMw n),st.heap.take fl++((st.heap.take n).drop fl).map (gG n)⟩ else ⟨aXb live st.tmps,st.heap⟩
def eT (lx lr : List Bool) (tr : Bool) (fl n : Nat) : Option (AExit × St)→Option (AExit × St)
 | some (x,st)=>match x with
  | .ret=>some (.ret,⟨xE lr st.tmps,st.heap⟩)
  | .normal=>some (.normal,eO (some lx) tr fl n st)
  | .exit i=>some (.exit i,eO (some lx) tr fl n st)
 | none=>none
def aUu [GlobT] (fl t : Nat) (st : St) : Option St :=
 match dU st.tmps (.tmp t) with
 | .ms id tot off len=>if fl ≤ id then match st.heap[id]? with
   | some (.blk s es)=>if es.length=tot then some ⟨st.tmps.set t (.ms st.heap.length tot off len),st.heap.set id (.blk s (es++[List.replicate s .undef]))++[.blk s es]⟩ else none
   | _=>none
  else none
 | _=>none
def aH8 [GlobT] (live : List Bool) (t fl n : Nat) (st : St) : St :=
 match dU st.tmps (.tmp t) with
 | .ms id tot off len=>if n ≤ id then match st.heap[id]? with
   | some (.blk s es)=>⟨((xE live st.tmps).map (aMw n)).set t (.ms n tot off len),(st.heap.take fl++((st.heap.take n).drop fl).map (gG n))++[gG n (.blk s es)]⟩
   | _=>eO (some live) true fl n st
  else eO (some live) true fl n st
 | _=>eO (some live) true fl n st
def aRq [GlobT] (lx lr : List Bool) (t fl n : Nat) : Option (AExit × St)→Option (AExit × St)
 | some (x,st)=>match x with
  | .ret=>some (.ret,⟨xE lr st.tmps,st.heap⟩)
  | .normal=>some (.normal,aH8 lx t fl n st)
  | .exit i=>some (.exit i,aH8 lx t fl n st)
 | none=>none
def nilK (H : Heap) : AV→Nat
 | .lit v=>match v with
  | .slice a l c=>match a with
   | none=>match l with
    | 0=>match c with
     | 0=>0
     | _=>3
    | _=>3
   | _=>3
  | _=>3
 | .sl _ es=>match es with
  | []=>2
  | _ :: _=>1
 | .vw es=>match es with
  | []=>2
  | _ :: _=>1
 | .ms id tot _ len=>match len with
  | 0=>3
  | _ + 1=>match H[id]? with
   | some (.blk _ es)=>match Nat.beq es.length tot with
    | true=>1
    | false=>3
   | _=>3
 | _=>3
def empA : AV→Bool
 | .lit v=>match v with
  | .slice a l c=>match a with
   | none=>match l with
    | 0=>match c with
     | 0=>true
     | _=>false
    | _=>false
   | _=>false
  | _=>false
 | .sl _ es=>match es with
  | []=>true
  | _ :: _=>false
 | _=>false
def bAt (x y : AV) : AV:=match empA x with
 | true=>match empA y with
  | true=>.sl false []
  | false=>.undef
 | false=>.undef
def aK4 : List AV→List AV→List AV
 | x :: r,y :: s=>bAt x y :: aK4 r s
 | _,_=>[]
def aGu : Option (AExit × St)→Option (AExit × St)
 | some (x,st)=>match x with
  | .normal=>none
  | x=>some (x,st)
 | none=>none
def aU5 (H : Heap) : Option (AExit × St)→Option (AExit × St)→Option (AExit × St)
 | some (.ret,sa),some (.ret,sb)=>match Nat.beq sa.tmps.length sb.tmps.length with
  | true=>some (.ret,⟨aK4 sa.tmps sb.tmps,H⟩)
  | false=>none
 | _,_=>none
def aD5 [GlobT] (tm : List AV) (t d0 d1 : Nat) (b : Bool) : List AV:=(tm.set d0 (dU tm (.tmp t))).set d1 (.lit (.bool b))
def zI (head : St→St) (step : St→Option (AExit × St)) : Nat→St→Option (AExit × St)
 | 0,_=>none
 | n + 1,st=>match step (head st) with
  | some (.normal,st)=>zI head step n st
  | r=>r
def evC [GlobT] (lf fl : Nat) : ACode→St→Option (AExit × St)
 | .skip,st=>some (.normal,st)
 | .region _ ck ops,st=>match aFb P cf fl ck ops st with
  | some st=>some (.normal,st)
  | none=>none
 | .seq a b,st=>match evC lf fl a st with
  | some (.normal,st)=>evC lf fl b st
  | r=>r
 | .cond c a b,st=>match dU st.tmps c with
  | .lit (.bool true)=>evC lf fl a st
  | .lit (.bool false)=>evC lf fl b st
  | _=>none
 | .block id c,st=>match evC lf fl c st with
  | some (.exit i,st)=>if i=id then some (.normal,st) else some (.exit i,st)
  | r=>r
 | .loop live tr c,st=>zI (eO live tr fl st.heap.length) (fun st=>evC lf fl c st) lf st
 | .exit id,st=>some (.exit id,st)
 | .ret,st=>some (.ret,st)
 | .frz t c,st=>match evOp P cf fl (.freeze (.tmp t)) st.tmps st.heap with
  | some (v,H)=>evC lf fl c ⟨st.tmps.set t v,H⟩
  | none=>none
 | .mask lx lr tr c,st=>eT lx lr tr fl st.heap.length (evC lf fl c st)
 | .told li lx lr c,st=>eT lx lr false fl st.heap.length (evC lf fl c ⟨xE li st.tmps,st.heap⟩)
 | .scope c,st=>evC lf fl c st
 | .nilIf t d0 d1 a b,st=>match (Nat.blt d0 st.tmps.length && Nat.blt d1 st.tmps.length) with
  | true=>match nilK st.heap (dU st.tmps (.tmp t)) with
   | 0=>aGu (evC lf fl a ⟨aD5 st.tmps t d0 d1 true,st.heap⟩)
   | 1=>evC lf fl b ⟨aD5 st.tmps t d0 d1 false,st.heap⟩
   | 2=>match Nat.beq fl st.heap.length with
    | true=>aU5 st.heap (evC lf fl a ⟨aD5 st.tmps t d0 d1 true,st.heap⟩) (evC lf fl b ⟨aD5 st.tmps t d0 d1 false,st.heap⟩)
    | false=>none
   | _=>none
  | false=>none
 | .loopV live lx lr t c,st=>match aUu fl t st with
  | some st1=>aRq lx lr t fl st.heap.length (zI (aH8 live t fl st.heap.length) (fun st=>evC lf fl c st) lf st1)
  | none=>none
 | .stop,_=>none
end
def aX9 [GlobT] (st : St) : ARes→Option AV
 | .tmp t=>some (dU st.tmps (.tmp t))
 | .cell t n agg=>match uT st.heap (dU st.tmps (.tmp t)) n with
  | some cs=>if agg then some (.agg cs) else match cs with
   | [c]=>some c
   | _=>none
  | none=>none
def aL1 : List AV→AV
 | [v]=>v
 | vs=>.tup vs
def aGp [GlobT] (st : St) : List ARes→Option (List AV)
 | []=>some []
 | r :: rs=>match aX9 st r with
  | some v=>match aGp st rs with
   | some vs=>some (v :: vs)
   | none=>none
  | none=>none
def aRd [GlobT] (cf : CF) (fl vi : Nat) (args : List AV) (H : Heap) : Option (AV × Heap) :=
 match GlobT.prim vi with
 | some g=>g.run cf fl args H
 | none=>none
def getF [GlobT] (T : List AFun) (vi : Nat) : Option AFun :=
 match GlobT.prim vi with
 | some _=>none
 | none=>T[vi]?
def evF [GlobT] (P : Program) (T : List AFun) : Nat→Nat→Nat→List AV→Heap→Option (AV × Heap)
 | 0,_,_,_,_=>none
 | n + 1,fl,vi,args,H =>
  match GlobT.prim vi with
  | some g=>g.run (evF P T n) fl args H
  | none =>
  match T[vi]? with
  | none=>none
  | some F =>
   match evC P (evF P T n) n fl F.body ⟨args++List.replicate (F.nt - args.length) (.lit gD),H⟩ with
   | some (.normal,st)=>match aGp st F.rets with
    | some vs=>some (aL1 vs,st.heap)
    | none=>none
   | some (.ret,st)=>match aGp st F.rets with
    | some vs=>some (aL1 vs,st.heap)
    | none=>none
   | _=>none
end Go.Proofs.YtapabkfjeiknbaaGreat.Av
namespace Go.Proofs.YtapabkfjeiknbaaGreat.Av
open Go
structure Ctx where
 w : World
 X : Nat→Prop
 β : Nat→Option Nat
 H : Heap
def Imm (c : Ctx) (b : Nat) : Prop:=¬ c.X b∧∀ id,c.β id ≠ some b
def hZ (es : List (List AV)) (i j : Nat) : Option AV:=(es[i]?).bind fun e=>e[j]?
def shp (H : Heap) (id : Nat) : Option (Nat × Nat) :=
 match H[id]? with
 | some (.blk s es)=>some (s,es.length)
 | _=>none
def bFs : AObj→Prop
 | .blk _ _=>False
 | _=>True
def aGz (H : Heap) (id : Nat) : Prop:=∃ o,H[id]? = some o∧bFs o
inductive RP (w : World) (I : Nat→Prop) : AV→Value→Prop
 | undef (v : Value) : RP w I .undef v
 | lit (v : Value) : RP w I (.lit v) v
 | nil (f : Bool) (a : Option Addr) (cap : Nat) : (f=true→cap=0)→RP w I (.sl f []) (.slice a 0 cap)
 | sl (f : Bool) (es : List (List AV)) (b off cap : Nat) (c : Array Value) (T : TypeId) (fz : Nat × Nat) (s : Nat) (vals : Nat→Nat→Value) :
   es ≠ []→I b→w.heap[b]? = some (.cells c T fz)→(∀ e ∈ es,e.length=s)→es.length ≤ cap→(f=true→cap=es.length) →
   (∀ i j x,hZ es i j=some x→c[off + (i * s + j)]? = some (vals i j)∧gA (vals i j)=true) →
   (∀ i j x,hZ es i j=some x→RP w I x (vals i j)) →
   RP w I (.sl f es) (.slice (some ⟨b,off,none⟩) es.length cap)
 | sptr (cs : List AV) (b off : Nat) (cc : Array Value) (T : TypeId) (fz : Nat × Nat) (vals : Nat→Value) :
   I b→w.heap[b]? = some (.cells cc T fz) →
   (∀ j x,cs[j]? = some x→cc[off + j]? = some (vals j)∧gA (vals j)=true) →
   (∀ j x,cs[j]? = some x→RP w I x (vals j))→RP w I (.sptr cs) (.pointer (some ⟨b,off,none⟩))
 | rmp (ents : List (Value × AV)) (b : Nat) (es : Array MapEntry) (clk : Nat) (vals : Nat→MapEntry) :
   I b→w.heap[b]? = some (.map es clk)→es.size=ents.length→(∀ e ∈ es.toList,e.born < clk) →
   (∀ i k x,ents[i]? = some (k,x)→es[i]? = some (vals i)∧(vals i).key=k) →
   (∀ i k x,ents[i]? = some (k,x)→RP w I x (vals i).val)→RP w I (.rmp ents) (.map (some b))
theorem RP.mono {w w' : World} {I I' : Nat→Prop} (h : ∀ b o,I b→w.heap[b]? = some o→I' b∧w'.heap[b]? = some o) {x : AV} {v : Value}
  (hr : RP w I x v) : RP w' I' x v:=by
 induction hr with
 | undef v=>exact .undef v
 | lit v=>exact .lit v
 | nil f a cap hf=>exact .nil f a cap hf
 | sl f es b off cap c T fz s vals hne hi hb hlen hcap hf hv _ ih =>
  obtain ⟨hi',hb'⟩:=h b _ hi hb
  exact .sl f es b off cap c T fz s vals hne hi' hb' hlen hcap hf hv ih
 | sptr cs b off cc T fz vals hi hb hv _ ih =>
  obtain ⟨hi',hb'⟩:=h b _ hi hb
  exact .sptr cs b off cc T fz vals hi' hb' hv ih
 | rmp ents b es clk vals hi hb hz hl hv _ ih =>
  obtain ⟨hi',hb'⟩:=h b _ hi hb
  exact .rmp ents b es clk vals hi' hb' hz hl hv ih
theorem aRo {w : World} {I : Nat→Prop} (v : Value) : RP w I (nrmV v) v:=by
 unfold nrmV
 split
 ·split
  ·split
   ·split
    ·exact .nil false none 0 (by simp)
    ·exact .lit _
   ·exact .lit _
  ·exact .lit _
 ·exact .lit _
theorem aTe [GlobT] {w : World} {I : Nat→Prop} {x : AV} {v : Value} (h : RP w I x v) : RP w I (nrm x) v:=by
 cases h with
 | undef v=>exact .undef v
 | lit v=>exact aRo v
 | nil f a cap hf=>exact .nil false a cap (by simp)
 | sl f es b off cap c T fz s vals h1 h2 h3 h4 h5 h6 h7 h8=>exact .sl false es b off cap c T fz s vals h1 h2 h3 h4 h5 (by simp) h7 h8
 | sptr cs b off cc T fz vals h1 h2 h3 h4=>exact .sptr cs b off cc T fz vals h1 h2 h3 h4
 | rmp ents b es clk vals h1 h2 h3 h4 h5 h6=>exact .rmp ents b es clk vals h1 h2 h3 h4 h5 h6
def MsOk (c : Ctx) (id tot off len : Nat) (a : Option Addr) (cap s : Nat) : Prop :=
 off + len ≤ tot ∧
 ((c.β id=none∧tot=0∧a=none∧cap=0) ∨
  ∃ b cs T a',c.β id=some b∧c.w.heap[b]? = some (.cells cs T (0,0))∧(off + cap) * s=cs.size∧a=some a' ∧
   (cap ≠ 0→a'=⟨b,off * s,none⟩))
def Vis (c : Ctx) (b : Nat) : Prop:=∀ id,c.β id ≠ some b
inductive RV (FT : Nat→Option Nat) (c : Ctx) : AV→Value→Prop
 | pure (x : AV) (v : Value) : RP c.w (Imm c) x v→RV FT c x v
 | ms (id tot off len : Nat) (a : Option Addr) (cap s n : Nat) : shp c.H id=some (s,n)→tot ≤ n→len ≤ cap →
   (tot=n→MsOk c id tot off len a cap s)→RV FT c (.ms id tot off len) (.slice a len cap)
 | ptr (id tot idx off : Nat) (a : Addr) (s n : Nat) : shp c.H id=some (s,n)→tot ≤ n →
   (tot=n→∃ b,c.β id=some b∧a=⟨b,idx * s + off,none⟩)→RV FT c (.ptr id tot idx off) (.pointer (some a))
 | rptr (cs : List AV) (b off : Nat) (cc : Array Value) (T : TypeId) (fz : Nat × Nat) (vals : Nat→Value) :
   Vis c b→c.w.heap[b]? = some (.cells cc T fz) →
   (∀ j x,cs[j]? = some x→cc[off + j]? = some (vals j)∧gA (vals j)=true) →
   (∀ j x,cs[j]? = some x→RP c.w (Imm c) x (vals j))→RV FT c (.rptr cs) (.pointer (some ⟨b,off,none⟩))
 | vnil (a : Option Addr) (cap : Nat) : RV FT c (.vw []) (.slice a 0 cap)
 | vw (es : List (List AV)) (b off cap : Nat) (cc : Array Value) (T : TypeId) (fz : Nat × Nat) (s : Nat) (vals : Nat→Nat→Value) :
   es ≠ []→Vis c b→c.w.heap[b]? = some (.cells cc T fz)→(∀ e ∈ es,e.length=s)→es.length ≤ cap →
   (∀ i j x,hZ es i j=some x→cc[off + (i * s + j)]? = some (vals i j)∧gA (vals i j)=true) →
   (∀ i j x,hZ es i j=some x→RP c.w (Imm c) x (vals i j))→RV FT c (.vw es) (.slice (some ⟨b,off,none⟩) es.length cap)
 | mp (id b : Nat) : aGz c.H id→c.β id=some b→RV FT c (.mp id) (.map (some b))
 | it (id b : Nat) : aGz c.H id→c.β id=some b→RV FT c (.it id) (.pointer (some ⟨b,0,none⟩))
 | fn (vi f : Nat) (caps : List AV) (cv : Array Value) (vals : Nat→Value) : FT vi=some f→cv.size=caps.length →
   (∀ i x,caps[i]? = some x→cv[i]? = some (vals i))→(∀ i x,caps[i]? = some x→RV FT c x (vals i)) →
   RV FT c (.fn vi caps) (.func (.func f) #[] cv)
 | agg (cs : List AV) (cv : Array Value) (vals : Nat→Value) : cv.size=cs.length →
   (∀ i x,cs[i]? = some x→cv[i]? = some (vals i)∧gA (vals i)=true) →
   (∀ i x,cs[i]? = some x→RV FT c x (vals i))→RV FT c (.agg cs) (.agg cv)
 | tup (cs : List AV) (cv : Array Value) (vals : Nat→Value) : cv.size=cs.length →
   (∀ i x,cs[i]? = some x→cv[i]? = some (vals i)) →
   (∀ i x,cs[i]? = some x→RV FT c x (vals i))→RV FT c (.tup cs) (.tuple cv)
structure Step (fl : Nat) (c c' : Ctx) : Prop where
 X : c'.X=c.X
 os : c'.w.os=c.w.os
 tape : c'.w.tape=c.w.tape
 output : c'.w.output=c.w.output
 drawn : c.w.drawn ≤ c'.w.drawn
 size : c.w.heap.size ≤ c'.w.heap.size
 len : c.H.length ≤ c'.H.length
 frame : ∀ k,k < c.w.heap.size→(∀ id,c.β id ≠ some k)→c'.w.heap[k]? = c.w.heap[k]?
 img : ∀ id b,c'.β id=some b→c.w.heap.size ≤ b ∨ ∃ i,c.β i=some b
 blkS : ∀ id s n,shp c.H id=some (s,n)→∃ n',shp c'.H id=some (s,n')∧n ≤ n' ∧
  (n=n'→c'.β id=c.β id∧∀ b cs T,c.β id=some b→c.w.heap[b]? = some (.cells cs T (0,0)) →
   ∃ cs',c'.w.heap[b]? = some (.cells cs' T (0,0))∧cs'.size=cs.size)
 mpS : ∀ id,aGz c.H id→aGz c'.H id∧c'.β id=c.β id
 floor : ∀ id,id < fl→c'.H[id]? = c.H[id]? ∧ c'.β id=c.β id∧∀ b,c.β id=some b→c'.w.heap[b]? = c.w.heap[b]?
theorem Step.refl (fl : Nat) (c : Ctx) : Step fl c c where
 X:=rfl
 os:=rfl
 tape:=rfl
 output:=rfl
 drawn:=Nat.le_refl _
 size:=Nat.le_refl _
 len:=Nat.le_refl _
 frame:=fun _ _ _=>rfl
 img:=fun i _ h=>.inr ⟨i,h⟩
 blkS:=fun _ _ n h=>⟨n,h,Nat.le_refl _,fun _=>⟨rfl,fun _ cs _ _ hb=>⟨cs,hb,rfl⟩⟩⟩
 mpS:=fun _ h=>⟨h,rfl⟩
 floor:=fun _ _=>⟨rfl,rfl,fun _ _=>rfl⟩
theorem Step.trans {fl : Nat} {a b c : Ctx} (h : Step fl a b) (k : Step fl b c) : Step fl a c where
 X:=k.X.trans h.X
 os:=k.os.trans h.os
 tape:=k.tape.trans h.tape
 output:=k.output.trans h.output
 drawn:=Nat.le_trans h.drawn k.drawn
 size:=Nat.le_trans h.size k.size
 len:=Nat.le_trans h.len k.len
 frame:=fun i hi hn=>(k.frame i (Nat.lt_of_lt_of_le hi h.size) (fun id hid=>by
  rcases h.img id i hid with hh | ⟨j,hh⟩
  ·omega
  ·exact hn j hh)).trans (h.frame i hi hn)
 img:=fun id x hx=>by
  rcases k.img id x hx with hh | ⟨j,hh⟩
  ·exact .inl (Nat.le_trans h.size hh)
  ·exact h.img j x hh
 blkS:=fun id s n hs=>by
  obtain ⟨n',hs',hn',he'⟩:=h.blkS id s n hs
  obtain ⟨n'',hs'',hn'',he''⟩:=k.blkS id s n' hs'
  refine ⟨n'',hs'',Nat.le_trans hn' hn'',fun e=>?_⟩
  have e1 : n=n':=by omega
  have e2 : n'=n'':=by omega
  obtain ⟨hb1,hc1⟩:=he' e1
  obtain ⟨hb2,hc2⟩:=he'' e2
  refine ⟨hb2.trans hb1,fun x cs T hx hcs=>?_⟩
  obtain ⟨cs',h1,h2⟩:=hc1 x cs T hx hcs
  obtain ⟨cs'',h3,h4⟩:=hc2 x cs' T (hb1.trans hx) h1
  exact ⟨cs'',h3,h4.trans h2⟩
 mpS:=fun id hm=>by
  obtain ⟨h1,h2⟩:=h.mpS id hm
  obtain ⟨h3,h4⟩:=k.mpS id h1
  exact ⟨h3,h4.trans h2⟩
 floor:=fun id hid=>by
  obtain ⟨h1,h2,h3⟩:=h.floor id hid
  obtain ⟨k1,k2,k3⟩:=k.floor id hid
  exact ⟨k1.trans h1,k2.trans h2,fun x hx=>(k3 x (h2.trans hx)).trans (h3 x hx)⟩
theorem Step.mono {fl fl' : Nat} {a b : Ctx} (h : Step fl a b) (hl : fl' ≤ fl) : Step fl' a b :=
 { h with floor:=fun id hid=>h.floor id (Nat.lt_of_lt_of_le hid hl) }
theorem Step.imm {fl : Nat} {c c' : Ctx} (h : Step fl c c') {b : Nat} {o : Obj} (hi : Imm c b) (hb : c.w.heap[b]? = some o) :
  Imm c' b∧c'.w.heap[b]? = some o:=by
 have hlt : b < c.w.heap.size:=by
  rcases Nat.lt_or_ge b c.w.heap.size with h | h
  ·exact h
  ·rw [Array.getElem?_eq_none h] at hb; cases hb
 refine ⟨⟨by rw [h.X]; exact hi.1,fun id hid=>?_⟩,by rw [h.frame b hlt hi.2]; exact hb⟩
 rcases h.img id b hid with hh | ⟨j,hh⟩
 ·omega
 ·exact hi.2 j hh
theorem Step.vis {fl : Nat} {c c' : Ctx} (h : Step fl c c') {b : Nat} {o : Obj} (hi : Vis c b) (hb : c.w.heap[b]? = some o) : Vis c' b∧c'.w.heap[b]? = some o:=by
 have hlt : b < c.w.heap.size:=by
  rcases Nat.lt_or_ge b c.w.heap.size with h | h
  ·exact h
  ·rw [Array.getElem?_eq_none h] at hb; cases hb
 refine ⟨fun id hid=>?_,by rw [h.frame b hlt hi]; exact hb⟩
 rcases h.img id b hid with hh | ⟨j,hh⟩
 ·omega
 ·exact hi j hh
theorem Imm.vis {c : Ctx} {b : Nat} (h : Imm c b) : Vis c b:=h.2
theorem MsOk.step {fl : Nat} {c c' : Ctx} (h : Step fl c c') {id tot off len cap s : Nat} {a : Option Addr} (hs : shp c.H id=some (s,tot))
  (hs' : shp c'.H id=some (s,tot)) (hm : MsOk c id tot off len a cap s) : MsOk c' id tot off len a cap s:=by
 obtain ⟨n',h1,h2,h3⟩:=h.blkS id s tot hs
 have e : tot=n':=by rw [hs'] at h1; simpa using h1
 obtain ⟨hb,hc⟩:=h3 e
 obtain ⟨ho,hm⟩:=hm
 refine ⟨ho,?_⟩
 rcases hm with ⟨h4,h5,h6,h7⟩ | ⟨b,cs,T,a',h4,h5,h6,h7,h8⟩
 ·exact .inl ⟨hb.trans h4,h5,h6,h7⟩
 ·obtain ⟨cs',h9,h10⟩:=hc b cs T h4 h5
  exact .inr ⟨b,cs',T,a',hb.trans h4,h9,by rw [h10]; exact h6,h7,h8⟩
theorem RV.step [GlobT] {FT : Nat→Option Nat} {fl : Nat} {c c' : Ctx} (h : Step fl c c') {x : AV} {v : Value} (hr : RV FT c x v) : RV FT c' x v:=by
 induction hr with
 | pure x v hp=>exact .pure x v (hp.mono fun b o hi hb=>h.imm hi hb)
 | ms id tot off len a cap s n hs ht hl hm =>
  obtain ⟨n',h1,h2,h3⟩:=h.blkS id s n hs
  refine .ms id tot off len a cap s n' h1 (Nat.le_trans ht h2) hl fun e=>?_
  have e1 : tot=n:=by omega
  subst e1
  exact (hm rfl).step h hs (by rw [h1,e])
 | ptr id tot idx off a s n hs ht hm =>
  obtain ⟨n',h1,h2,h3⟩:=h.blkS id s n hs
  refine .ptr id tot idx off a s n' h1 (Nat.le_trans ht h2) fun e=>?_
  have e1 : tot=n:=by omega
  obtain ⟨b,hb,ha⟩:=hm e1
  exact ⟨b,((h3 (by omega)).1).trans hb,ha⟩
 | rptr cs b off cc T fz vals hi hb hv hp =>
  obtain ⟨hi',hb'⟩:=h.vis hi hb
  exact .rptr cs b off cc T fz vals hi' hb' hv fun j x hx=>(hp j x hx).mono fun b o hi hb=>h.imm hi hb
 | vnil a cap=>exact .vnil a cap
 | vw es b off cap cc T fz s vals hne hi hb hlen hcap hv hp =>
  obtain ⟨hi',hb'⟩:=h.vis hi hb
  exact .vw es b off cap cc T fz s vals hne hi' hb' hlen hcap hv fun i j x hx=>(hp i j x hx).mono fun b o hi hb=>h.imm hi hb
 | mp id b hm hb =>
  obtain ⟨h1,h2⟩:=h.mpS id hm
  exact .mp id b h1 (h2.trans hb)
 | it id b hm hb =>
  obtain ⟨h1,h2⟩:=h.mpS id hm
  exact .it id b h1 (h2.trans hb)
 | fn vi f caps cv vals hf hs hv _ ih=>exact .fn vi f caps cv vals hf hs hv ih
 | agg cs cv vals hs hv _ ih=>exact .agg cs cv vals hs hv ih
 | tup cs cv vals hs hv _ ih=>exact .tup cs cv vals hs hv ih
def GlobInv [GlobT] (c : Ctx) : Prop:=∀ g cs,GlobT.tab g=some cs→∃ (cc : Array Value) (T : TypeId) (fz : Nat × Nat) (vals : Nat→Value),Imm c g∧c.w.heap[g]? = some (.cells cc T fz)∧GlobT.ok g cc ∧
 (∀ j x,cs[j]? = some x→cc[0 + j]? = some (vals j)∧gA (vals j)=true)∧∀ j x,cs[j]? = some x→RP c.w (Imm c) x (vals j)
theorem GlobInv.step [GlobT] {fl : Nat} {c c' : Ctx} (hg : GlobInv c) (h : Step fl c c') : GlobInv c':=by
 intro g cs hcs
 obtain ⟨cc,T,fz,vals,h1,h2,h0,h3,h4⟩:=hg g cs hcs
 obtain ⟨k1,k2⟩:=h.imm h1 h2
 exact ⟨cc,T,fz,vals,k1,k2,h0,h3,fun j x hx=>(h4 j x hx).mono fun b o hi hb=>h.imm hi hb⟩
theorem GlobInv.rv [GlobT] {FT : Nat→Option Nat} {c : Ctx} (hg : GlobInv c) {g : Nat} {cs : List AV} (h : GlobT.tab g=some cs) : RV FT c (.rptr cs) (.pointer (some ⟨g,0,none⟩)):=by
 obtain ⟨cc,T,fz,vals,h1,h2,_,h3,h4⟩:=hg g cs h
 exact .rptr cs g 0 cc T fz vals h1.vis h2 h3 h4
def bGg (es : Array MapEntry) (clk n : Nat) : Prop:=es.size=n∧∀ e ∈ es.toList,e.born < clk
structure Sim [GlobT] (FT : Nat→Option Nat) (c : Ctx) : Prop where
 gl : GlobInv c
 inj : ∀ (i j b : Nat),c.β i=some b→c.β j=some b→i=j
 dom : ∀ (id b : Nat),c.β id=some b→id < c.H.length
 nx : ∀ (id b : Nat),c.β id=some b→¬ c.X b
 fresh : ∀ k : Nat,c.w.heap.size ≤ k→¬ c.X k
 lens : ∀ (id s : Nat) (es : List (List AV)),c.H[id]? = some (.blk s es)→∀ e ∈ es,e.length=s
 blk : ∀ (id s : Nat) (es : List (List AV)) (b : Nat),c.H[id]? = some (.blk s es)→c.β id=some b→∃ cs T,c.w.heap[b]? = some (.cells cs T (0,0))∧es.length * s ≤ cs.size ∧
  ∀ i j x,hZ es i j=some x→∃ v,cs[i * s + j]? = some v∧gA v=true∧RV FT c x v
 map : ∀ (id : Nat) (ents : List (Value × AV)) (b : Nat),c.H[id]? = some (.mp ents)→c.β id=some b→∃ (es : Array MapEntry) (clk : Nat),c.w.heap[b]? = some (.map es clk)∧bGg es clk ents.length ∧
  ∀ (i : Nat) (k : Value) (x : AV),ents[i]? = some (k,x)→∃ e,es[i]? = some e∧e.key=k∧RV FT c x e.val
 raw : ∀ (id : Nat) (ob : Obj) (b : Nat),c.H[id]? = some (.raw ob)→c.β id=some b→c.w.heap[b]? = some ob
def TR (FT : Nat→Option Nat) (c : Ctx) (tm : List AV) (tv : Array Value) : Prop :=
 tm.length=tv.size∧∀ (t : Nat) (x : AV),tm[t]? = some x→∃ v,tv[t]? = some v∧RV FT c x v
theorem TR.step [GlobT] {FT : Nat→Option Nat} {fl : Nat} {c c' : Ctx} (h : Step fl c c') {tm : List AV} {tv : Array Value} (hr : TR FT c tm tv) : TR FT c' tm tv :=
 ⟨hr.1,fun t x hx=>let ⟨v,h1,h2⟩:=hr.2 t x hx; ⟨v,h1,h2.step h⟩⟩
theorem RV.lit_inv {FT : Nat→Option Nat} {c : Ctx} {u v : Value} (h : RV FT c (.lit u) v) : v=u:=by
 cases h with
 | pure _ _ hp=>cases hp; rfl
theorem RV.lit {FT : Nat→Option Nat} {c : Ctx} (u : Value) : RV FT c (.lit u) u:=.pure _ _ (.lit u)
theorem RV.undef {FT : Nat→Option Nat} {c : Ctx} (u : Value) : RV FT c .undef u:=.pure _ _ (.undef u)
end Go.Proofs.YtapabkfjeiknbaaGreat.Av
namespace Go.Proofs.YtapabkfjeiknbaaGreat.Av
open Go
variable {FT : Nat→Option Nat}
def upd (β : Nat→Option Nat) (id b : Nat) : Nat→Option Nat:=fun i=>if i=id then some b else β i
theorem mG (β : Nat→Option Nat) (id b : Nat) : upd β id b id=some b:=by simp [upd]
theorem iJ {β : Nat→Option Nat} {id b i : Nat} (h : i ≠ id) : upd β id b i=β i:=by simp [upd,h]
structure Drawn (w w' : World) : Prop where
 heap : w'.heap=w.heap
 os : w'.os=w.os
 tape : w'.tape=w.tape
 output : w'.output=w.output
 drawn : w.drawn ≤ w'.drawn
theorem Drawn.refl (w : World) : Drawn w w:=⟨rfl,rfl,rfl,rfl,Nat.le_refl _⟩
theorem aEn {fl : Nat} {c : Ctx} {w' : World} (h : Drawn c.w w') : Step fl c ⟨w',c.X,c.β,c.H⟩ where
 X:=rfl
 os:=h.os
 tape:=h.tape
 output:=h.output
 drawn:=h.drawn
 size:=by simp [h.heap]
 len:=Nat.le_refl _
 frame:=fun k _ _=>by simp [h.heap]
 img:=fun i _ hb=>.inr ⟨i,hb⟩
 blkS:=fun _ _ n hs=>⟨n,hs,Nat.le_refl _,fun _=>⟨rfl,fun _ cs _ _ hb=>⟨cs,by simpa [h.heap] using hb,rfl⟩⟩⟩
 mpS:=fun _ hm=>⟨hm,rfl⟩
 floor:=fun _ _=>⟨rfl,rfl,fun _ _=>by simp [h.heap]⟩
theorem Sim.drawn [GlobT] {c : Ctx} {w' : World} (hs : Sim FT c) (h : Drawn c.w w') : Sim FT ⟨w',c.X,c.β,c.H⟩ where
 gl:=hs.gl.step (aEn (fl:=0) h)
 inj:=hs.inj
 dom:=hs.dom
 nx:=hs.nx
 fresh:=fun k hk=>hs.fresh k (by simpa [h.heap] using hk)
 lens:=hs.lens
 blk:=fun id s es b ho hb=>by
  obtain ⟨cs,T,h1,h2,h3⟩:=hs.blk id s es b ho hb
  exact ⟨cs,T,by simpa [h.heap] using h1,h2,fun i j x hx=>let ⟨v,g1,g2,g3⟩:=h3 i j x hx; ⟨v,g1,g2,g3.step (aEn (fl:=0) h)⟩⟩
 map:=fun id ents b ho hb=>by
  obtain ⟨es,clk,h1,h2,h3⟩:=hs.map id ents b ho hb
  exact ⟨es,clk,by simpa [h.heap] using h1,h2,fun i k x hx=>let ⟨e,g1,g2,g3⟩:=h3 i k x hx; ⟨e,g1,g2,g3.step (aEn (fl:=0) h)⟩⟩
 raw:=fun id ob b ho hb=>by simpa [h.heap] using hs.raw id ob b ho hb
theorem aMd {H : Heap} {o : AObj} {id : Nat} {r : Nat × Nat} (h : shp H id=some r) : shp (H++[o]) id=some r:=by
 have hlt : id < H.length:=by
  rcases Nat.lt_or_ge id H.length with h' | h'
  ·exact h'
  ·simp [shp,List.getElem?_eq_none h'] at h
 simpa [shp,List.getElem?_append_left hlt] using h
theorem aIq {H : Heap} {o : AObj} {id : Nat} (h : aGz H id) : aGz (H++[o]) id:=by
 obtain ⟨ents,he,hn⟩:=h
 have hlt : id < H.length:=by
  rcases Nat.lt_or_ge id H.length with h' | h'
  ·exact h'
  ·simp [List.getElem?_eq_none h'] at he
 exact ⟨ents,by simpa [List.getElem?_append_left hlt] using he,hn⟩
theorem aGl [GlobT] {fl : Nat} {c : Ctx} {w' : World} {o : AObj} {ob : Obj} (hfl : fl ≤ c.H.length)
  (hh : w'.heap=c.w.heap.push ob) (h1 : w'.os=c.w.os) (h2 : w'.tape=c.w.tape) (h3 : w'.output=c.w.output)
  (hlt : ∀ id b,c.β id=some b→b < c.w.heap.size) (hd : c.w.drawn ≤ w'.drawn:=by first | exact Nat.le_refl _ | exact Nat.le_succ _ | exact Nat.le_add_right _ _ | assumption) :
  Step fl c ⟨w',c.X,upd c.β c.H.length c.w.heap.size,c.H++[o]⟩ where
 X:=rfl
 os:=h1
 tape:=h2
 output:=h3
 drawn:=hd
 size:=by simp [hh]
 len:=by simp
 frame:=fun k hk _=>by simp only [hh,Array.getElem?_push]; rw [if_neg (by omega)]
 img:=fun id b hb=>by
  by_cases e : id=c.H.length
  ·subst e; simp only [mG] at hb; cases hb; exact .inl (Nat.le_refl _)
  ·simp only [iJ e] at hb; exact .inr ⟨_,hb⟩
 blkS:=fun id s n hs=>⟨n,aMd hs,Nat.le_refl _,fun _=>by
  have hne : id ≠ c.H.length:=by
   intro e; subst e; simp [shp] at hs
  refine ⟨iJ hne,fun b cs T hb hcs=>⟨cs,?_,rfl⟩⟩
  have:=hlt id b hb
  simp only [hh,Array.getElem?_push]; rw [if_neg (by omega)]; exact hcs⟩
 mpS:=fun id hm=>⟨aIq hm,by
  have hne : id ≠ c.H.length:=by
   intro e; subst e; obtain ⟨_,he,_⟩:=hm; simp at he
  exact iJ hne⟩
 floor:=fun id hid=>by
  have hne : id ≠ c.H.length:=by omega
  refine ⟨List.getElem?_append_left (by omega),iJ hne,fun b hb=>?_⟩
  have:=hlt id b hb
  simp only [hh,Array.getElem?_push]; rw [if_neg (by omega)]
theorem Sim.lt [GlobT] {c : Ctx} (hs : Sim FT c) {id b : Nat} (h : c.β id=some b) : b < c.w.heap.size:=by
 have hid:=hs.dom id b h
 cases ho : c.H[id]? with
 | none=>rw [List.getElem?_eq_none_iff] at ho; omega
 | some o =>
  cases o with
  | blk s es =>
   obtain ⟨cs,T,h1,_⟩:=hs.blk id s es b ho h
   rcases Nat.lt_or_ge b c.w.heap.size with hh | hh
   ·exact hh
   ·rw [Array.getElem?_eq_none hh] at h1; cases h1
  | mp ents =>
   obtain ⟨es,clk,h1,_⟩:=hs.map id ents b ho h
   rcases Nat.lt_or_ge b c.w.heap.size with hh | hh
   ·exact hh
   ·rw [Array.getElem?_eq_none hh] at h1; cases h1
  | raw ob =>
   have h1:=hs.raw id ob b ho h
   rcases Nat.lt_or_ge b c.w.heap.size with hh | hh
   ·exact hh
   ·rw [Array.getElem?_eq_none hh] at h1; cases h1
theorem aNd [GlobT] {c : Ctx} {w' : World} {o : AObj} {ob : Obj} (hs : Sim FT c)
  (hh : w'.heap=c.w.heap.push ob) (h1 : w'.os=c.w.os) (h2 : w'.tape=c.w.tape) (h3 : w'.output=c.w.output)
  (hl : ∀ s es,o=.blk s es→∀ e ∈ es,e.length=s)
  (ho : ∀ s es,o=.blk s es→∃ cs T,ob=.cells cs T (0,0)∧es.length * s ≤ cs.size ∧
   ∀ i j x,hZ es i j=some x→∃ v,cs[i * s + j]? = some v∧gA v=true∧RV FT c x v)
  (hm : ∀ ents,o=.mp ents→ents=[]∧∃ clk,ob=.map #[] clk) (hw : ∀ q,o=.raw q→ob=q) (hd : c.w.drawn ≤ w'.drawn:=by first | exact Nat.le_refl _ | exact Nat.le_succ _ | exact Nat.le_add_right _ _ | assumption) :
  Sim FT ⟨w',c.X,upd c.β c.H.length c.w.heap.size,c.H++[o]⟩:=by
 have hst:=aGl (fl:=0) (o:=o) (Nat.zero_le _) hh h1 h2 h3 (fun id b hb=>hs.lt hb)
 have hnew : w'.heap[c.w.heap.size]? = some ob:=by simp [hh]
 refine ⟨hs.gl.step hst,?_,?_,?_,fun k hk=>hs.fresh k (by simp only [hh,Array.size_push] at hk; omega),?_,?_,?_,?_⟩
 ·intro i j b hi hj
  by_cases ei : i=c.H.length
  ·by_cases ej : j=c.H.length
   ·rw [ei,ej]
   ·subst ei
    simp only [mG] at hi
    simp only [iJ ej] at hj
    cases hi
    have:=hs.lt hj
    omega
  ·simp only [iJ ei] at hi
   by_cases ej : j=c.H.length
   ·subst ej
    simp only [mG] at hj
    cases hj
    have:=hs.lt hi
    omega
   ·simp only [iJ ej] at hj
    exact hs.inj i j b hi hj
 ·intro id b hb
  by_cases e : id=c.H.length
  ·simp [e]
  ·simp only [iJ e] at hb
   have:=hs.dom id b hb
   simp only [List.length_append,List.length_singleton]; omega
 ·intro id b hb
  by_cases e : id=c.H.length
  ·subst e
   simp only [mG] at hb
   cases hb
   exact hs.fresh _ (Nat.le_refl _)
  ·simp only [iJ e] at hb
   exact hs.nx id b hb
 ·intro id s es ho'
  simp only at ho'
  rw [List.getElem?_append] at ho'
  split at ho'
  ·exact hs.lens id s es ho'
  ·have : o=.blk s es:=by
    have h0:=ho'
    rw [List.getElem?_singleton] at h0
    split at h0
    ·exact Option.some.inj h0
    ·cases h0
   exact hl s es this
 ·intro id s es b ho' hb
  simp only at ho' hb ⊢
  by_cases e : id=c.H.length
  ·subst e
   simp only [mG] at hb
   cases hb
   have h0 : o=.blk s es:=by simpa using ho'
   obtain ⟨cs,T,g1,g2,g3⟩:=ho s es h0
   refine ⟨cs,T,by rw [hnew,g1],g2,fun i j x hx=>?_⟩
   obtain ⟨v,k1,k2,k3⟩:=g3 i j x hx
   exact ⟨v,k1,k2,k3.step hst⟩
  ·simp only [iJ e] at hb
   have hlt:=hs.dom id b hb
   rw [List.getElem?_append_left hlt] at ho'
   obtain ⟨cs,T,g1,g2,g3⟩:=hs.blk id s es b ho' hb
   have hbl:=hs.lt hb
   refine ⟨cs,T,?_,g2,fun i j x hx=>?_⟩
   ·simp only [hh,Array.getElem?_push]; rw [if_neg (by omega)]; exact g1
   ·obtain ⟨v,k1,k2,k3⟩:=g3 i j x hx
    exact ⟨v,k1,k2,k3.step hst⟩
 ·intro id ents b ho' hb
  simp only at ho' hb ⊢
  by_cases e : id=c.H.length
  ·subst e
   simp only [mG] at hb
   cases hb
   have h0 : o=.mp ents:=by simpa using ho'
   obtain ⟨g1,clk,g2⟩:=hm ents h0
   subst g1
   exact ⟨#[],clk,by rw [hnew,g2],⟨rfl,fun e he=>by cases he⟩,fun i k x hx=>by simp at hx⟩
  ·simp only [iJ e] at hb
   have hlt:=hs.dom id b hb
   rw [List.getElem?_append_left hlt] at ho'
   obtain ⟨es,clk,g1,g2,g3⟩:=hs.map id ents b ho' hb
   have hbl:=hs.lt hb
   refine ⟨es,clk,?_,g2,fun i k x hx=>?_⟩
   ·simp only [hh,Array.getElem?_push]; rw [if_neg (by omega)]; exact g1
   ·obtain ⟨en,k1,k2,k3⟩:=g3 i k x hx
    exact ⟨en,k1,k2,k3.step hst⟩
 ·intro id q b ho' hb
  simp only at ho' hb ⊢
  by_cases e : id=c.H.length
  ·subst e
   simp only [mG] at hb
   cases hb
   have h0 : o=.raw q:=by simpa using ho'
   rw [hnew,hw q h0]
  ·simp only [iJ e] at hb
   have hlt:=hs.dom id b hb
   rw [List.getElem?_append_left hlt] at ho'
   have g1:=hs.raw id q b ho' hb
   have hbl:=hs.lt hb
   simp only [hh,Array.getElem?_push]; rw [if_neg (by omega)]; exact g1
theorem aOt [GlobT] {fl : Nat} {c : Ctx} {w' : World} {ob : Obj} (hs : Sim FT c) (hh : w'.heap=c.w.heap.push ob) (h1 : w'.os=c.w.os) (h2 : w'.tape=c.w.tape) (h3 : w'.output=c.w.output) (hd : c.w.drawn ≤ w'.drawn:=by first | exact Nat.le_refl _ | exact Nat.le_succ _ | exact Nat.le_add_right _ _ | assumption) :
  Step fl c ⟨w',c.X,c.β,c.H⟩ where
 X:=rfl
 os:=h1
 tape:=h2
 output:=h3
 drawn:=hd
 size:=by simp [hh]
 len:=Nat.le_refl _
 frame:=fun k hk _=>by simp only [hh,Array.getElem?_push]; rw [if_neg (by omega)]
 img:=fun i _ hb=>.inr ⟨i,hb⟩
 blkS:=fun id s n hs'=>⟨n,hs',Nat.le_refl _,fun _=>⟨rfl,fun b cs T hb hcs=>⟨cs,by
  have:=hs.lt hb
  simp only [hh,Array.getElem?_push]; rw [if_neg (by omega)]; exact hcs,rfl⟩⟩⟩
 mpS:=fun id hm=>⟨hm,rfl⟩
 floor:=fun id hid=>⟨rfl,rfl,fun b hb=>by
  have:=hs.lt hb
  simp only [hh,Array.getElem?_push]; rw [if_neg (by omega)]⟩
theorem aZq [GlobT] {c : Ctx} {w' : World} {ob : Obj} (hs : Sim FT c) (hh : w'.heap=c.w.heap.push ob) (h1 : w'.os=c.w.os) (h2 : w'.tape=c.w.tape) (h3 : w'.output=c.w.output) (hd : c.w.drawn ≤ w'.drawn:=by first | exact Nat.le_refl _ | exact Nat.le_succ _ | exact Nat.le_add_right _ _ | assumption) :
  Sim FT ⟨w',c.X,c.β,c.H⟩:=by
 have hst:=aOt (fl:=0) hs hh h1 h2 h3
 refine ⟨hs.gl.step hst,hs.inj,hs.dom,hs.nx,fun k hk=>hs.fresh k (by simp only [hh,Array.size_push] at hk; omega),hs.lens,?_,?_,fun id q b ho' hb=>by
  have g1:=hs.raw id q b ho' hb
  have:=hs.lt hb
  simp only [hh,Array.getElem?_push]; rw [if_neg (by omega)]; exact g1⟩
 ·intro id s' es b ho' hb
  obtain ⟨cs,T,g1,g2,g3⟩:=hs.blk id s' es b ho' hb
  refine ⟨cs,T,?_,g2,fun i j x hx=>let ⟨v,k1,k2,k3⟩:=g3 i j x hx; ⟨v,k1,k2,k3.step hst⟩⟩
  have:=hs.lt hb
  simp only [hh,Array.getElem?_push]; rw [if_neg (by omega)]; exact g1
 ·intro id ents b ho' hb
  obtain ⟨es,clk,g1,g2,g3⟩:=hs.map id ents b ho' hb
  refine ⟨es,clk,?_,g2,fun i k x hx=>let ⟨e,k1,k2,k3⟩:=g3 i k x hx; ⟨e,k1,k2,k3.step hst⟩⟩
  have:=hs.lt hb
  simp only [hh,Array.getElem?_push]; rw [if_neg (by omega)]; exact g1
theorem aEo [GlobT] {fl : Nat} {c : Ctx} {s : Nat} (hfl : fl ≤ c.H.length) : Step fl c ⟨c.w,c.X,c.β,c.H++[.blk s []]⟩ where
 X:=rfl
 os:=rfl
 tape:=rfl
 output:=rfl
 drawn:=Nat.le_refl _
 size:=Nat.le_refl _
 len:=by simp
 frame:=fun _ _ _=>rfl
 img:=fun i _ hb=>.inr ⟨i,hb⟩
 blkS:=fun id s n hs=>⟨n,aMd hs,Nat.le_refl _,fun _=>⟨rfl,fun b cs T _ hcs=>⟨cs,hcs,rfl⟩⟩⟩
 mpS:=fun id hm=>⟨aIq hm,rfl⟩
 floor:=fun id hid=>⟨List.getElem?_append_left (by omega),rfl,fun _ _=>rfl⟩
theorem aJ7 [GlobT] {c : Ctx} {s : Nat} (hs : Sim FT c) : Sim FT ⟨c.w,c.X,c.β,c.H++[.blk s []]⟩:=by
 have hst:=aEo (fl:=0) (c:=c) (s:=s) (Nat.zero_le _)
 refine ⟨hs.gl.step hst,hs.inj,?_,hs.nx,hs.fresh,?_,?_,?_,fun id q b ho' hb=>by
  simp only at ho' hb ⊢
  have hlt:=hs.dom id b hb
  rw [List.getElem?_append_left hlt] at ho'
  exact hs.raw id q b ho' hb⟩
 ·intro id b hb
  have:=hs.dom id b hb
  simp only [List.length_append,List.length_singleton]; omega
 ·intro id s' es ho'
  simp only at ho'
  rw [List.getElem?_append] at ho'
  split at ho'
  ·exact hs.lens id s' es ho'
  ·rw [List.getElem?_singleton] at ho'
   split at ho'
   ·cases ho'; simp
   ·cases ho'
 ·intro id s' es b ho' hb
  simp only at ho' hb ⊢
  have hlt:=hs.dom id b hb
  rw [List.getElem?_append_left hlt] at ho'
  obtain ⟨cs,T,g1,g2,g3⟩:=hs.blk id s' es b ho' hb
  exact ⟨cs,T,g1,g2,fun i j x hx=>let ⟨v,k1,k2,k3⟩:=g3 i j x hx; ⟨v,k1,k2,k3.step hst⟩⟩
 ·intro id ents b ho' hb
  simp only at ho' hb ⊢
  have hlt:=hs.dom id b hb
  rw [List.getElem?_append_left hlt] at ho'
  obtain ⟨es,clk,g1,g2,g3⟩:=hs.map id ents b ho' hb
  exact ⟨es,clk,g1,g2,fun i k x hx=>let ⟨e,k1,k2,k3⟩:=g3 i k x hx; ⟨e,k1,k2,k3.step hst⟩⟩
theorem getElem?_set_ne' {α : Type} {l : List α} {i j : Nat} {a : α} (h : j ≠ i) : (l.set i a)[j]? = l[j]?:=by
 rw [List.getElem?_set]; rw [if_neg (fun e=>h e.symm)]
theorem getElem?_set_eq' {α : Type} {l : List α} {i : Nat} {a b : α} (h : l[i]? = some b) : (l.set i a)[i]? = some a:=by
 have hlt : i < l.length:=by
  rcases Nat.lt_or_ge i l.length with h' | h'
  ·exact h'
  ·rw [List.getElem?_eq_none h'] at h; cases h
 rw [List.getElem?_set]; simp [hlt]
theorem aHm [GlobT] {H : Heap} {id s s' : Nat} {es es' : List (List AV)} (h : H[id]? = some (.blk s es)) (i : Nat) :
  shp (H.set id (.blk s' es')) i=if i=id then some (s',es'.length) else shp H i:=by
 by_cases e : i=id
 ·subst e; simp [shp,getElem?_set_eq' h]
 ·simp [shp,getElem?_set_ne' e,e]
theorem aAv [GlobT] {fl : Nat} {c : Ctx} {w' : World} {id b s : Nat} {es es' : List (List AV)} {cs cs' : Array Value} {T : TypeId}
  (hs : Sim FT c) (hfl : fl ≤ id) (ho : c.H[id]? = some (.blk s es)) (hb : c.β id=some b) (hcs : c.w.heap[b]? = some (.cells cs T (0,0)))
  (hlen : es.length ≤ es'.length) (hsz : cs'.size=cs.size)
  (h0 : w'.heap[b]? = some (.cells cs' T (0,0))) (hn : ∀ k,k ≠ b→w'.heap[k]? = c.w.heap[k]?) (hz : w'.heap.size=c.w.heap.size)
  (h1 : w'.os=c.w.os) (h2 : w'.tape=c.w.tape) (h3 : w'.output=c.w.output) (hd : c.w.drawn ≤ w'.drawn:=by first | exact Nat.le_refl _ | exact Nat.le_succ _ | exact Nat.le_add_right _ _ | assumption) :
  Step fl c ⟨w',c.X,c.β,c.H.set id (.blk s es')⟩ where
 X:=rfl
 os:=h1
 tape:=h2
 output:=h3
 drawn:=hd
 size:=by simp [hz]
 len:=by simp
 frame:=fun k _ hk=>hn k (fun e=>hk id (by rw [e]; exact hb))
 img:=fun i _ h=>.inr ⟨i,h⟩
 blkS:=fun i s' n hs'=>by
  have hsh:=aHm (s':=s) (es':=es') ho i
  by_cases e : i=id
  ·subst e
   have hs0 : s'=s∧n=es.length:=by
    simp only [shp,ho,Option.some.injEq,Prod.mk.injEq] at hs'; exact ⟨hs'.1.symm,hs'.2.symm⟩
   obtain ⟨rfl,rfl⟩:=hs0
   refine ⟨es'.length,by rw [hsh]; simp,hlen,fun _=>⟨rfl,fun b' cs0 T0 hb' hc0=>?_⟩⟩
   rw [hb] at hb'; cases hb'
   rw [hcs] at hc0; cases hc0
   exact ⟨cs',h0,hsz⟩
  ·refine ⟨n,by rw [hsh,if_neg e]; exact hs',Nat.le_refl _,fun _=>⟨rfl,fun b' cs0 T0 hb' hc0=>⟨cs0,?_,rfl⟩⟩⟩
   rw [hn b' (fun eb=>e (hs.inj i id b (by rw [← eb]; exact hb') hb))]; exact hc0
 mpS:=fun i hm=>⟨by
  obtain ⟨ents,he,hnb⟩:=hm
  have e : i ≠ id:=by intro e; subst e; rw [ho] at he; cases he; exact hnb
  exact ⟨ents,by simpa [getElem?_set_ne' e] using he,hnb⟩,rfl⟩
 floor:=fun i hi=>by
  have e : i ≠ id:=by omega
  exact ⟨getElem?_set_ne' e,rfl,fun b' hb'=>hn b' (fun eb=>e (hs.inj i id b (by rw [← eb]; exact hb') hb))⟩
theorem aFt [GlobT] {c : Ctx} {w' : World} {id b s : Nat} {es es' : List (List AV)} {cs cs' : Array Value} {T : TypeId}
  (hs : Sim FT c) (ho : c.H[id]? = some (.blk s es)) (hb : c.β id=some b) (hcs : c.w.heap[b]? = some (.cells cs T (0,0)))
  (hlen : es.length ≤ es'.length) (hsz : cs'.size=cs.size)
  (h0 : w'.heap[b]? = some (.cells cs' T (0,0))) (hn : ∀ k,k ≠ b→w'.heap[k]? = c.w.heap[k]?) (hz : w'.heap.size=c.w.heap.size)
  (h1 : w'.os=c.w.os) (h2 : w'.tape=c.w.tape) (h3 : w'.output=c.w.output)
  (hl : ∀ e ∈ es',e.length=s) (hfit : es'.length * s ≤ cs'.size)
  (hc : ∀ i j x,hZ es' i j=some x→∃ v,cs'[i * s + j]? = some v∧gA v=true∧RV FT c x v) (hd : c.w.drawn ≤ w'.drawn:=by first | exact Nat.le_refl _ | exact Nat.le_succ _ | exact Nat.le_add_right _ _ | assumption) :
  Sim FT ⟨w',c.X,c.β,c.H.set id (.blk s es')⟩:=by
 have hst:=aAv (fl:=0) hs (Nat.zero_le _) ho hb hcs hlen hsz h0 hn hz h1 h2 h3
 refine ⟨hs.gl.step hst,hs.inj,?_,hs.nx,fun k hk=>hs.fresh k (by simpa [hz] using hk),?_,?_,?_,fun i q b' ho' hb'=>by
  simp only at ho' hb' ⊢
  have e : i ≠ id:=by intro e; subst e; rw [getElem?_set_eq' ho] at ho'; cases ho'
  rw [getElem?_set_ne' e] at ho'
  have g1:=hs.raw i q b' ho' hb'
  rw [hn b' (fun eb=>e (hs.inj i id b (by rw [← eb]; exact hb') hb))]; exact g1⟩
 ·intro i b' hb'
  have:=hs.dom i b' hb'
  simpa using this
 ·intro i s' es0 ho'
  simp only at ho'
  by_cases e : i=id
  ·subst e
   rw [getElem?_set_eq' ho] at ho'
   cases ho'
   exact hl
  ·rw [getElem?_set_ne' e] at ho'
   exact hs.lens i s' es0 ho'
 ·intro i s' es0 b' ho' hb'
  simp only at ho' hb' ⊢
  by_cases e : i=id
  ·subst e
   rw [getElem?_set_eq' ho] at ho'
   cases ho'
   rw [hb] at hb'; cases hb'
   exact ⟨cs',T,h0,hfit,fun a d x hx=>let ⟨v,k1,k2,k3⟩:=hc a d x hx; ⟨v,k1,k2,k3.step hst⟩⟩
  ·rw [getElem?_set_ne' e] at ho'
   obtain ⟨cs0,T0,g1,g2,g3⟩:=hs.blk i s' es0 b' ho' hb'
   refine ⟨cs0,T0,?_,g2,fun a d x hx=>let ⟨v,k1,k2,k3⟩:=g3 a d x hx; ⟨v,k1,k2,k3.step hst⟩⟩
   rw [hn b' (fun eb=>e (hs.inj i id b (by rw [← eb]; exact hb') hb))]; exact g1
 ·intro i ents b' ho' hb'
  simp only at ho' hb' ⊢
  have e : i ≠ id:=by intro e; subst e; rw [getElem?_set_eq' ho] at ho'; cases ho'
  rw [getElem?_set_ne' e] at ho'
  obtain ⟨es0,clk,g1,g2,g3⟩:=hs.map i ents b' ho' hb'
  refine ⟨es0,clk,?_,g2,fun a k x hx=>let ⟨en,k1,k2,k3⟩:=g3 a k x hx; ⟨en,k1,k2,k3.step hst⟩⟩
  rw [hn b' (fun eb=>e (hs.inj i id b (by rw [← eb]; exact hb') hb))]; exact g1
theorem aJz [GlobT] {fl : Nat} {c : Ctx} {w' : World} {id s : Nat} {es es' : List (List AV)} {ob : Obj}
  (hs : Sim FT c) (hfl : fl ≤ id) (ho : c.H[id]? = some (.blk s es))
  (hlen : es.length < es'.length) (hh : w'.heap=c.w.heap.push ob)
  (h1 : w'.os=c.w.os) (h2 : w'.tape=c.w.tape) (h3 : w'.output=c.w.output) (hd : c.w.drawn ≤ w'.drawn:=by first | exact Nat.le_refl _ | exact Nat.le_succ _ | exact Nat.le_add_right _ _ | assumption) :
  Step fl c ⟨w',c.X,upd c.β id c.w.heap.size,c.H.set id (.blk s es')⟩ where
 X:=rfl
 os:=h1
 tape:=h2
 output:=h3
 drawn:=hd
 size:=by simp [hh]
 len:=by simp
 frame:=fun k hk _=>by simp only [hh,Array.getElem?_push]; rw [if_neg (by omega)]
 img:=fun i b h=>by
  by_cases e : i=id
  ·subst e; simp only [mG] at h; cases h; exact .inl (Nat.le_refl _)
  ·simp only [iJ e] at h; exact .inr ⟨_,h⟩
 blkS:=fun i s' n hs'=>by
  have hsh:=aHm (s':=s) (es':=es') ho i
  by_cases e : i=id
  ·subst e
   have hs0 : s'=s∧n=es.length:=by
    simp only [shp,ho,Option.some.injEq,Prod.mk.injEq] at hs'; exact ⟨hs'.1.symm,hs'.2.symm⟩
   obtain ⟨rfl,rfl⟩:=hs0
   exact ⟨es'.length,by rw [hsh]; simp,Nat.le_of_lt hlen,fun e=>by omega⟩
  ·refine ⟨n,by rw [hsh,if_neg e]; exact hs',Nat.le_refl _,fun _=>⟨iJ e,fun b' cs0 T0 hb' hc0=>⟨cs0,?_,rfl⟩⟩⟩
   have:=hs.lt hb'
   simp only [hh,Array.getElem?_push]; rw [if_neg (by omega)]; exact hc0
 mpS:=fun i hm=>by
  obtain ⟨ents,he,hnb⟩:=hm
  have e : i ≠ id:=by intro e; subst e; rw [ho] at he; cases he; exact hnb
  exact ⟨⟨ents,by simpa [getElem?_set_ne' e] using he,hnb⟩,iJ e⟩
 floor:=fun i hi=>by
  have e : i ≠ id:=by omega
  refine ⟨getElem?_set_ne' e,iJ e,fun b' hb'=>?_⟩
  have:=hs.lt hb'
  simp only [hh,Array.getElem?_push]; rw [if_neg (by omega)]
theorem aSw [GlobT] {c : Ctx} {w' : World} {id s : Nat} {es es' : List (List AV)} {cs' : Array Value} {T : TypeId}
  (hs : Sim FT c) (ho : c.H[id]? = some (.blk s es))
  (hlen : es.length < es'.length) (hh : w'.heap=c.w.heap.push (.cells cs' T (0,0)))
  (h1 : w'.os=c.w.os) (h2 : w'.tape=c.w.tape) (h3 : w'.output=c.w.output)
  (hl : ∀ e ∈ es',e.length=s) (hfit : es'.length * s ≤ cs'.size)
  (hc : ∀ i j x,hZ es' i j=some x→∃ v,cs'[i * s + j]? = some v∧gA v=true∧RV FT c x v) (hd : c.w.drawn ≤ w'.drawn:=by first | exact Nat.le_refl _ | exact Nat.le_succ _ | exact Nat.le_add_right _ _ | assumption) :
  Sim FT ⟨w',c.X,upd c.β id c.w.heap.size,c.H.set id (.blk s es')⟩:=by
 have hst:=aJz (fl:=0) hs (Nat.zero_le _) ho hlen hh h1 h2 h3
 have hid : id < c.H.length:=by
  rcases Nat.lt_or_ge id c.H.length with h | h
  ·exact h
  ·rw [List.getElem?_eq_none h] at ho; cases ho
 refine ⟨hs.gl.step hst,?_,?_,?_,fun k hk=>hs.fresh k (by simp only [hh,Array.size_push] at hk; omega),?_,?_,?_,fun i q b' ho' hb'=>by
  simp only at ho' hb' ⊢
  have e : i ≠ id:=by intro e; subst e; rw [getElem?_set_eq' ho] at ho'; cases ho'
  rw [getElem?_set_ne' e] at ho'
  simp only [iJ e] at hb'
  have g1:=hs.raw i q b' ho' hb'
  have:=hs.lt hb'
  simp only [hh,Array.getElem?_push]; rw [if_neg (by omega)]; exact g1⟩
 ·intro i j b hi hj
  by_cases ei : i=id
  ·by_cases ej : j=id
   ·rw [ei,ej]
   ·subst ei
    simp only [mG] at hi
    simp only [iJ ej] at hj
    cases hi
    have:=hs.lt hj
    omega
  ·simp only [iJ ei] at hi
   by_cases ej : j=id
   ·subst ej
    simp only [mG] at hj
    cases hj
    have:=hs.lt hi
    omega
   ·simp only [iJ ej] at hj
    exact hs.inj i j b hi hj
 ·intro i b' hb'
  by_cases e : i=id
  ·subst e; simpa using hid
  ·simp only [iJ e] at hb'
   have:=hs.dom i b' hb'
   simpa using this
 ·intro i b hb
  by_cases e : i=id
  ·subst e
   simp only [mG] at hb
   cases hb
   exact hs.fresh _ (Nat.le_refl _)
  ·simp only [iJ e] at hb
   exact hs.nx i b hb
 ·intro i s' es0 ho'
  simp only at ho'
  by_cases e : i=id
  ·subst e
   rw [getElem?_set_eq' ho] at ho'
   cases ho'
   exact hl
  ·rw [getElem?_set_ne' e] at ho'
   exact hs.lens i s' es0 ho'
 ·intro i s' es0 b' ho' hb'
  simp only at ho' hb' ⊢
  by_cases e : i=id
  ·subst e
   rw [getElem?_set_eq' ho] at ho'
   cases ho'
   simp only [mG] at hb'
   cases hb'
   exact ⟨cs',T,by simp [hh],hfit,fun a d x hx=>let ⟨v,k1,k2,k3⟩:=hc a d x hx; ⟨v,k1,k2,k3.step hst⟩⟩
  ·rw [getElem?_set_ne' e] at ho'
   simp only [iJ e] at hb'
   obtain ⟨cs0,T0,g1,g2,g3⟩:=hs.blk i s' es0 b' ho' hb'
   refine ⟨cs0,T0,?_,g2,fun a d x hx=>let ⟨v,k1,k2,k3⟩:=g3 a d x hx; ⟨v,k1,k2,k3.step hst⟩⟩
   have:=hs.lt hb'
   simp only [hh,Array.getElem?_push]; rw [if_neg (by omega)]; exact g1
 ·intro i ents b' ho' hb'
  simp only at ho' hb' ⊢
  have e : i ≠ id:=by intro e; subst e; rw [getElem?_set_eq' ho] at ho'; cases ho'
  rw [getElem?_set_ne' e] at ho'
  simp only [iJ e] at hb'
  obtain ⟨es0,clk,g1,g2,g3⟩:=hs.map i ents b' ho' hb'
  refine ⟨es0,clk,?_,g2,fun a k x hx=>let ⟨en,k1,k2,k3⟩:=g3 a k x hx; ⟨en,k1,k2,k3.step hst⟩⟩
  have:=hs.lt hb'
  simp only [hh,Array.getElem?_push]; rw [if_neg (by omega)]; exact g1
theorem aFp [GlobT] {fl : Nat} {c : Ctx} {w' : World} {id b : Nat} {ents ents' : List (Value × AV)} {ob : Obj}
  (hs : Sim FT c) (hfl : fl ≤ id) (ho : c.H[id]? = some (.mp ents)) (hb : c.β id=some b)
  (hh : w'.heap=c.w.heap.setIfInBounds b ob) (h1 : w'.os=c.w.os) (h2 : w'.tape=c.w.tape) (h3 : w'.output=c.w.output) (hd : c.w.drawn ≤ w'.drawn:=by first | exact Nat.le_refl _ | exact Nat.le_succ _ | exact Nat.le_add_right _ _ | assumption) :
  Step fl c ⟨w',c.X,c.β,c.H.set id (.mp ents')⟩:=by
 have hn : ∀ k,k ≠ b→w'.heap[k]? = c.w.heap[k]?:=fun k hk=>by
  rw [hh,Array.getElem?_setIfInBounds_ne (Ne.symm hk)]
 refine ⟨rfl,h1,h2,h3,hd,by simp [hh],by simp,fun k _ hk=>hn k (fun e=>hk id (by rw [e]; exact hb)),fun i _ h=>.inr ⟨i,h⟩,?_,?_,?_⟩
 ·intro i s n hs'
  have e : i ≠ id:=by intro e; subst e; simp [shp,ho] at hs'
  refine ⟨n,by simpa [shp,getElem?_set_ne' e] using hs',Nat.le_refl _,fun _=>⟨rfl,fun b' cs0 T0 hb' hc0=>⟨cs0,?_,rfl⟩⟩⟩
  exact (hn b' (fun eb=>e (hs.inj i id b (by rw [← eb]; exact hb') hb))).trans hc0
 ·intro i hm
  refine ⟨?_,rfl⟩
  by_cases e : i=id
  ·subst e; exact ⟨.mp ents',getElem?_set_eq' ho,trivial⟩
  ·obtain ⟨en,he,hnb⟩:=hm
   exact ⟨en,by simpa [getElem?_set_ne' e] using he,hnb⟩
 ·intro i hi
  have e : i ≠ id:=by omega
  exact ⟨getElem?_set_ne' e,rfl,fun b' hb'=>hn b' (fun eb=>e (hs.inj i id b (by rw [← eb]; exact hb') hb))⟩
theorem aMc [GlobT] {c : Ctx} {w' : World} {id b : Nat} {ents ents' : List (Value × AV)} {es : Array MapEntry} {clk : Nat}
  (hs : Sim FT c) (ho : c.H[id]? = some (.mp ents)) (hb : c.β id=some b)
  (hh : w'.heap=c.w.heap.setIfInBounds b (.map es clk)) (h1 : w'.os=c.w.os) (h2 : w'.tape=c.w.tape) (h3 : w'.output=c.w.output)
  (hsz : bGg es clk ents'.length)
  (hc : ∀ (i : Nat) (k : Value) (x : AV),ents'[i]? = some (k,x)→∃ e,es[i]? = some e∧e.key=k∧RV FT c x e.val) (hd : c.w.drawn ≤ w'.drawn:=by first | exact Nat.le_refl _ | exact Nat.le_succ _ | exact Nat.le_add_right _ _ | assumption) :
  Sim FT ⟨w',c.X,c.β,c.H.set id (.mp ents')⟩:=by
 have hst:=aFp (fl:=0) (ents':=ents') hs (Nat.zero_le _) ho hb hh h1 h2 h3
 have hn : ∀ k,k ≠ b→w'.heap[k]? = c.w.heap[k]?:=fun k hk=>by
  rw [hh,Array.getElem?_setIfInBounds_ne (Ne.symm hk)]
 have hbl:=hs.lt hb
 refine ⟨hs.gl.step hst,hs.inj,?_,hs.nx,fun k hk=>hs.fresh k (by simpa [hh] using hk),?_,?_,?_,fun i q b' ho' hb'=>by
  simp only at ho' hb' ⊢
  have e : i ≠ id:=by intro e; subst e; rw [getElem?_set_eq' ho] at ho'; cases ho'
  rw [getElem?_set_ne' e] at ho'
  have g1:=hs.raw i q b' ho' hb'
  rw [hn b' (fun eb=>e (hs.inj i id b (by rw [← eb]; exact hb') hb))]; exact g1⟩
 ·intro i b' hb'
  have:=hs.dom i b' hb'
  simpa using this
 ·intro i s' es0 ho'
  simp only at ho'
  have e : i ≠ id:=by intro e; subst e; rw [getElem?_set_eq' ho] at ho'; cases ho'
  rw [getElem?_set_ne' e] at ho'
  exact hs.lens i s' es0 ho'
 ·intro i s' es0 b' ho' hb'
  simp only at ho' hb' ⊢
  have e : i ≠ id:=by intro e; subst e; rw [getElem?_set_eq' ho] at ho'; cases ho'
  rw [getElem?_set_ne' e] at ho'
  obtain ⟨cs0,T0,g1,g2,g3⟩:=hs.blk i s' es0 b' ho' hb'
  refine ⟨cs0,T0,?_,g2,fun a d x hx=>let ⟨v,k1,k2,k3⟩:=g3 a d x hx; ⟨v,k1,k2,k3.step hst⟩⟩
  rw [hn b' (fun eb=>e (hs.inj i id b (by rw [← eb]; exact hb') hb))]; exact g1
 ·intro i en b' ho' hb'
  simp only at ho' hb' ⊢
  by_cases e : i=id
  ·subst e
   rw [getElem?_set_eq' ho] at ho'
   cases ho'
   rw [hb] at hb'; cases hb'
   refine ⟨es,clk,by rw [hh]; simp [hbl],hsz,fun a k x hx=>let ⟨e,k1,k2,k3⟩:=hc a k x hx; ⟨e,k1,k2,k3.step hst⟩⟩
  ·rw [getElem?_set_ne' e] at ho'
   obtain ⟨es0,clk0,g1,g2,g3⟩:=hs.map i en b' ho' hb'
   refine ⟨es0,clk0,?_,g2,fun a k x hx=>let ⟨en,k1,k2,k3⟩:=g3 a k x hx; ⟨en,k1,k2,k3.step hst⟩⟩
   rw [hn b' (fun eb=>e (hs.inj i id b (by rw [← eb]; exact hb') hb))]; exact g1
theorem aJy [GlobT] {fl : Nat} {c : Ctx} {w' : World} {id b : Nat} {q q' : Obj}
  (hs : Sim FT c) (hfl : fl ≤ id) (ho : c.H[id]? = some (.raw q)) (hb : c.β id=some b)
  (hh : w'.heap=c.w.heap.setIfInBounds b q') (h1 : w'.os=c.w.os) (h2 : w'.tape=c.w.tape) (h3 : w'.output=c.w.output) (hd : c.w.drawn ≤ w'.drawn:=by first | exact Nat.le_refl _ | exact Nat.le_succ _ | exact Nat.le_add_right _ _ | assumption) :
  Step fl c ⟨w',c.X,c.β,c.H.set id (.raw q')⟩:=by
 have hn : ∀ k,k ≠ b→w'.heap[k]? = c.w.heap[k]?:=fun k hk=>by
  rw [hh,Array.getElem?_setIfInBounds_ne (Ne.symm hk)]
 refine ⟨rfl,h1,h2,h3,hd,by simp [hh],by simp,fun k _ hk=>hn k (fun e=>hk id (by rw [e]; exact hb)),fun i _ h=>.inr ⟨i,h⟩,?_,?_,?_⟩
 ·intro i s n hs'
  have e : i ≠ id:=by intro e; subst e; simp [shp,ho] at hs'
  refine ⟨n,by simpa [shp,getElem?_set_ne' e] using hs',Nat.le_refl _,fun _=>⟨rfl,fun b' cs0 T0 hb' hc0=>⟨cs0,?_,rfl⟩⟩⟩
  exact (hn b' (fun eb=>e (hs.inj i id b (by rw [← eb]; exact hb') hb))).trans hc0
 ·intro i hm
  refine ⟨?_,rfl⟩
  by_cases e : i=id
  ·subst e; exact ⟨.raw q',getElem?_set_eq' ho,trivial⟩
  ·obtain ⟨en,he,hnb⟩:=hm
   exact ⟨en,by simpa [getElem?_set_ne' e] using he,hnb⟩
 ·intro i hi
  have e : i ≠ id:=by omega
  exact ⟨getElem?_set_ne' e,rfl,fun b' hb'=>hn b' (fun eb=>e (hs.inj i id b (by rw [← eb]; exact hb') hb))⟩
theorem aUq [GlobT] {c : Ctx} {w' : World} {id b : Nat} {q q' : Obj}
  (hs : Sim FT c) (ho : c.H[id]? = some (.raw q)) (hb : c.β id=some b)
  (hh : w'.heap=c.w.heap.setIfInBounds b q') (h1 : w'.os=c.w.os) (h2 : w'.tape=c.w.tape) (h3 : w'.output=c.w.output) (hd : c.w.drawn ≤ w'.drawn:=by first | exact Nat.le_refl _ | exact Nat.le_succ _ | exact Nat.le_add_right _ _ | assumption) :
  Sim FT ⟨w',c.X,c.β,c.H.set id (.raw q')⟩:=by
 have hst:=aJy (fl:=0) (q':=q') hs (Nat.zero_le _) ho hb hh h1 h2 h3
 have hn : ∀ k,k ≠ b→w'.heap[k]? = c.w.heap[k]?:=fun k hk=>by
  rw [hh,Array.getElem?_setIfInBounds_ne (Ne.symm hk)]
 have hbl:=hs.lt hb
 refine ⟨hs.gl.step hst,hs.inj,?_,hs.nx,fun k hk=>hs.fresh k (by simpa [hh] using hk),?_,?_,?_,?_⟩
 ·intro i b' hb'
  have:=hs.dom i b' hb'
  simpa using this
 ·intro i s' es0 ho'
  simp only at ho'
  have e : i ≠ id:=by intro e; subst e; rw [getElem?_set_eq' ho] at ho'; cases ho'
  rw [getElem?_set_ne' e] at ho'
  exact hs.lens i s' es0 ho'
 ·intro i s' es0 b' ho' hb'
  simp only at ho' hb' ⊢
  have e : i ≠ id:=by intro e; subst e; rw [getElem?_set_eq' ho] at ho'; cases ho'
  rw [getElem?_set_ne' e] at ho'
  obtain ⟨cs0,T0,g1,g2,g3⟩:=hs.blk i s' es0 b' ho' hb'
  refine ⟨cs0,T0,?_,g2,fun a d x hx=>let ⟨v,k1,k2,k3⟩:=g3 a d x hx; ⟨v,k1,k2,k3.step hst⟩⟩
  rw [hn b' (fun eb=>e (hs.inj i id b (by rw [← eb]; exact hb') hb))]; exact g1
 ·intro i en b' ho' hb'
  simp only at ho' hb' ⊢
  have e : i ≠ id:=by intro e; subst e; rw [getElem?_set_eq' ho] at ho'; cases ho'
  rw [getElem?_set_ne' e] at ho'
  obtain ⟨es0,clk0,g1,g2,g3⟩:=hs.map i en b' ho' hb'
  refine ⟨es0,clk0,?_,g2,fun a k x hx=>let ⟨en,k1,k2,k3⟩:=g3 a k x hx; ⟨en,k1,k2,k3.step hst⟩⟩
  rw [hn b' (fun eb=>e (hs.inj i id b (by rw [← eb]; exact hb') hb))]; exact g1
 ·intro i q0 b' ho' hb'
  simp only at ho' hb' ⊢
  by_cases e : i=id
  ·subst e
   rw [getElem?_set_eq' ho] at ho'
   cases ho'
   rw [hb] at hb'; cases hb'
   rw [hh]; simp [hbl]
  ·rw [getElem?_set_ne' e] at ho'
   have g1:=hs.raw i q0 b' ho' hb'
   rw [hn b' (fun eb=>e (hs.inj i id b (by rw [← eb]; exact hb') hb))]; exact g1
end Go.Proofs.YtapabkfjeiknbaaGreat.Av
namespace Go.Proofs.YtapabkfjeiknbaaGreat.Av
open Go
def ftOf (T : List AFun) (vi : Nat) : Option Nat:=match T[vi]? with | some F=>some F.fid | none=>none
def veq : Value→Value→Bool
 | .bool a,.bool b=>a == b
 | .int k a,.int k' b=>decide (k=k') && decide (a=b)
 | .string a,.string b=>decide (a.data=b.data)
 | .slice none 0 0,.slice none 0 0=>true
 | .pointer none,.pointer none=>true
 | .map none,.map none=>true
 | .nilFunc,.nilFunc=>true
 | .nilIface,.nilIface=>true
 | _,_=>false
theorem aVs {a b : Value} (h : veq a b=true) : a=b:=by
 unfold veq at h
 split at h
 ·simp_all
 ·simp only [Bool.and_eq_true,decide_eq_true_eq] at h; rw [h.1,h.2]
 ·rename_i x y
  simp only [decide_eq_true_eq] at h
  cases x; cases y; simp_all
 all_goals first | rfl | cases h
def veqL : List Value→List Value→Bool
 | [],[]=>true
 | a :: r,b :: s=>veq a b && veqL r s
 | _,_=>false
theorem aM7 [GlobT] : ∀ {a b : List Value},veqL a b=true→a=b
 | [],[],_=>rfl
 | a :: r,b :: s,h=>by
  simp only [veqL,Bool.and_eq_true] at h
  rw [aVs h.1,aM7 h.2]
 | [],_ :: _,h=>by cases h
 | _ :: _,[],h=>by cases h
theorem aUl {a b : Value} (h : veq a b=true) : gA a=true:=by
 unfold veq at h
 split at h <;> first | rfl | cases h
theorem aCi [GlobT] : ∀ {a b : List Value},veqL a b=true→∀ v ∈ a,gA v=true
 | [],[],_,v,hv=>by cases hv
 | a :: r,b :: s,h,v,hv=>by
  simp only [veqL,Bool.and_eq_true] at h
  rcases List.mem_cons.1 hv with rfl | hv
  ·exact aUl h.1
  ·exact aCi h.2 v hv
 | [],_ :: _,h,_,_=>by cases h
 | _ :: _,[],h,_,_=>by cases h
section
variable (P : Program) (T : List AFun)
def eC : AOpd→Operand→Bool
 | .tmp t,.tmp u=>t == u
 | .lit v,.const u=>veq v u
 | .agg vs,.const (.agg us)=>veqL vs us.toList
 | .fn vi,.func f=>ftOf T vi == some f
 | .glob g,.global g'=>g == g'
 | _,_=>false
def nN : List AOpd→List Operand→Bool
 | [],[]=>true
 | a :: r,b :: s=>eC T a b && nN r s
 | _,_=>false
def aDf : Option AOpd→Option Operand→Bool
 | none,none=>true
 | some a,some b=>eC T a b
 | _,_=>false
def yY (t : TypeId) (z : List Value) : Bool :=
 match P.info? t with
 | some i=>match i.zero with
  | some v=>veqL z v.cells.toList
  | none=>false
 | none=>false
def kL (t : TypeId) (n : Nat) : Bool :=
 match P.info? t with
 | some i=>i.size == n
 | none=>false
def aBr (t : TypeId) (n : Nat) : Bool :=
 match P.info? t with
 | some i=>i.bytes == n
 | none=>false
def aHf (t : TypeId) (b : Bool) : Bool :=
 match P.underlying t with
 | some (.struct _)=>b
 | some (.array _ _)=>b
 | some _=>!b
 | none=>false
def aG5 (place : Nat→Option (Nat × Nat)) : List (Nat × Nat × AOpd)→List (Nat × Operand)→Bool
 | [],[]=>true
 | (o,s,x) :: r,(i,y) :: q=>place i == some (o,s) && eC T x y && aG5 place r q
 | _,_=>false
def aG7 : List (Nat × AOpd)→List (Nat × Operand)→Bool
 | [],[]=>true
 | (i,x) :: r,(j,y) :: q=>i == j && eC T x y && aG7 r q
 | _,_=>false
def aIf (fs : Array Field) (i : Nat) : Option (Nat × Nat) :=
 match fs[i]? with
 | some f=>match P.info? f.type with
  | some n=>some (f.offset,n.size)
  | none=>none
 | none=>none
def aOh (fs : List Field) : Bool:=fs.all fun f=>(P.info? f.type).isSome
def jY (a : AOp) (o : Op) : Bool :=
 match a with
 | .mov x=>(match o with
  | .move y=>eC T x y
  | .assign y=>eC T x y
  | _=>false)
 | .movN x=>(match o with
  | .move y=>eC T x y
  | .assign y=>eC T x y
  | _=>false)
 | .rangeStr x=>(match o with
  | .range t y=>eC T x y && (match P.underlying t with | some .string=>true | _=>false)
  | _=>false)
 | .nextStr x=>(match o with
  | .next y b=>eC T x y && b
  | _=>false)
 | .freeze x=>(match o with
  | .move y=>eC T x y
  | .assign y=>eC T x y
  | _=>false)
 | .loadF n _ x=>(match o with
  | .load t y=>aHf P t true && kL P t n && eC T x y
  | _=>false)
 | .pick c a b=>(match o with
  | .pick c' a' b'=>eC T c c' && eC T a a' && eC T b b'
  | _=>false)
 | .alloc z=>(match o with
  | .alloc t=>yY P t z
  | _=>false)
 | .claim _=>(match o with
  | .move (.const (.slice none 0 0))=>true
  | .assign (.const (.slice none 0 0))=>true
  | _=>false)
 | .allocC z cl=>(match o with
  | .alloc t=>yY P t z && cl.all fun c=>match z[c.1]? with | some (.slice none 0 0)=>true | _=>false
  | _=>false)
 | .box x=>(match o with
  | .box _ y=>eC T x y
  | _=>false)
 | .build z ps=>(match o with
  | .build t qs=>yY P t z && match P.underlying t with
   | some (.struct fs)=>aOh P fs.toList && aG5 T (aIf P fs) ps qs.toList
   | some (.array _ e)=>match P.info? e with
    | some i=>aG5 T (fun k=>some (k * i.size,i.size)) ps qs.toList
    | none=>false
   | _=>false
  | _=>false)
 | .buildSl _ s n z ps=>(match o with
  | .buildSlice t m qs=>n == m && match P.underlying t with
   | some (.slice e)=>kL P e s && yY P e z && z.length == s && decide (0 < s) && decide (n * s ≤ 2 ^ 24) && aG7 T ps qs.toList
   | _=>false
  | _=>false)
 | .load agg n x=>(match o with
  | .load t y=>aHf P t agg && kL P t n && (agg || n == 1) && eC T x y
  | _=>false)
 | .store n x v=>(match o with
  | .store t y u=>kL P t n && eC T x y && eC T v u
  | _=>false)
 | .nilCheck x=>(match o with
  | .nilCheck y=>eC T x y
  | _=>false)
 | .ibin op x y=>(match o with
  | .binOp op' _ x' y' _=>decide (op=op') && eC T x x' && eC T y y'
  | _=>false)
 | .bin op t x y=>(match o with
  | .binOp op' t' x' y' _=>decide (op=op') && t == t' && eC T x x' && eC T y y'
  | _=>false)
 | .un op x=>(match o with
  | .unOp op' _ y=>decide (op=op') && eC T x y
  | _=>false)
 | .conv s d x=>(match o with
  | .convert s' d' y=>s == s' && d == d' && eC T x y
  | _=>false)
 | .fieldAddr off x=>(match o with
  | .fieldAddr t y f=>eC T x y && match P.underlying t with
   | some (.struct fs)=>match fs[f]? with
    | some fd=>fd.offset == off && match P.info? fd.type with
     | some i=>i.size != 0
     | none=>false
    | none=>false
   | _=>false
  | _=>false)
 | .field agg n off x=>(match o with
  | .field t y f=>eC T x y && match P.underlying t with
   | some (.struct fs)=>match fs[f]? with
    | some fd=>fd.offset == off && aHf P fd.type agg && kL P fd.type n && (agg || n == 1)
    | none=>false
   | _=>false
  | _=>false)
 | .idxAddr s x i=>(match o with
  | .indexAddr t y j=>eC T x y && eC T i j && match P.underlying t with
   | some (.slice e)=>kL P e s
   | _=>false
  | _=>false)
 | .idxArr s n x i=>(match o with
  | .indexAddr t y j=>eC T x y && eC T i j && match P.underlying t with
   | some (.array m e)=>m == n && kL P e s
   | _=>false
  | _=>false)
 | .index agg s n x i=>(match o with
  | .index t y j=>eC T x y && eC T i j && match P.underlying t with
   | some (.array m e)=>m == n && kL P e s && aHf P e agg && (agg || s == 1)
   | _=>false
  | _=>false)
 | .strIdx t x i=>(match o with
  | .index t' y j=>t == t' && eC T x y && eC T i j
  | _=>false)
 | .slice s x lo hi mx=>(match o with
  | .slice t y lo' hi' mx'=>eC T x y && aDf T lo lo' && aDf T hi hi' && aDf T mx mx' && match P.underlying t with
   | some (.slice e)=>kL P e s
   | _=>false
  | _=>false)
 | .strSlice t x lo hi=>(match o with
  | .slice t' y lo' hi' none=>t == t' && eC T x y && aDf T lo lo' && aDf T hi hi' && match P.underlying t with
   | some .string=>true
   | _=>false
  | _=>false)
 | .mkSlice s z bytes l c=>(match o with
  | .makeSlice t l' c'=>eC T l l' && eC T c c' && match P.underlying t with
   | some (.slice e)=>kL P e s && aBr P e bytes && yY P e z && decide (0 < s)
   | _=>false
  | _=>false)
 | .mkMap=>(match o with
  | .makeMap _ none=>true
  | _=>false)
 | .lookup kt z m k ok=>(match o with
  | .lookup t m' k' ok'=>ok == ok' && eC T m m' && eC T k k' && match P.underlying t with
   | some (.map kt' e)=>kt == kt' && match P.info? e with
    | some i=>match i.zero,z with
     | some v,.lit u=>veq u v
     | some (.agg us),.agg vs=>veqL vs us.toList
     | _,_=>false
    | none=>false
   | _=>false
  | _=>false)
 | .mapUpd kt m k v=>(match o with
  | .mapUpdate t m' k' v'=>eC T m m' && eC T k k' && eC T v v' && match P.underlying t with
   | some (.map kt' _)=>kt == kt'
   | _=>false
  | .insert t m' k' v'=>eC T m m' && eC T k k' && eC T v v' && match P.underlying t with
   | some (.map kt' _)=>kt == kt'
   | _=>false
  | _=>false)
 | .lenS x=>(match o with
  | .call ⟨.builtin .len,as,ts⟩=>match as.toList,ts.toList with
   | [y],[t]=>eC T x y && match P.underlying t with
    | some (.slice _)=>true
    | _=>false
   | _,_=>false
  | _=>false)
 | .lenM x=>(match o with
  | .call ⟨.builtin .len,as,ts⟩=>match as.toList,ts.toList with
   | [y],[t]=>eC T x y && match P.underlying t with
    | some (.map _ _)=>true
    | _=>false
   | _,_=>false
  | _=>false)
 | .lenStr t x=>(match o with
  | .call ⟨.builtin .len,as,ts⟩=>match as.toList,ts.toList with
   | [y],[t']=>t == t' && eC T x y
   | _,_=>false
  | _=>false)
 | .lenC n=>(match o with
  | .call ⟨.builtin .len,as,ts⟩=>match as.toList,ts.toList with
   | [_],[t]=>match P.underlying t with
    | some (.array m _)=>m == n
    | _=>false
   | _,_=>false
  | _=>false)
 | .append s bytes x y=>(match o with
  | .call ⟨.builtin .append,as,ts⟩=>match as.toList,ts.toList with
   | [x',y'],[t,t']=>eC T x x' && eC T y y' && (match P.underlying t' with | some (.slice _)=>true | _=>false) && match P.underlying t with
    | some (.slice e)=>kL P e s && aBr P e bytes && match P.info? e with
     | some i=>match i.zero with | some z=>z.cells.size == s | none=>false
     | none=>false
    | _=>false
   | _,_=>false
  | _=>false)
 | .appendP s bytes x y=>(match o with
  | .call ⟨.builtin .append,as,ts⟩=>match as.toList,ts.toList with
   | [x',y'],[t,t']=>eC T x x' && eC T y y' && (match P.underlying t' with | some (.slice _)=>true | _=>false) && match P.underlying t with
    | some (.slice e)=>kL P e s && aBr P e bytes && match P.info? e with
     | some i=>match i.zero with | some z=>z.cells.size == s | none=>false
     | none=>false
    | _=>false
   | _,_=>false
  | _=>false)
 | .appendZ s bytes z x y=>(match o with
  | .call ⟨.builtin .append,as,ts⟩=>match as.toList,ts.toList with
   | [x',y'],[t,t']=>eC T x x' && eC T y y' && (match P.underlying t' with | some (.int _)=>true | _=>false) && match P.underlying t with
    | some (.slice e)=>kL P e s && aBr P e bytes && yY P e z
    | _=>false
   | _,_=>false
  | _=>false)
 | .copy s x y=>(match o with
  | .call ⟨.builtin .copy,as,ts⟩=>match as.toList,ts.toList with
   | [x',y'],[t,_]=>eC T x x' && eC T y y' && match P.underlying t with
    | some (.slice e)=>kL P e s
    | _=>false
   | _,_=>false
  | _=>false)
 | .clear s z x=>(match o with
  | .call ⟨.builtin .clear,as,ts⟩=>match as.toList,ts.toList with
   | [x'],[t]=>eC T x x' && match P.underlying t with
    | some (.slice e)=>kL P e s && yY P e z
    | _=>false
   | _,_=>false
  | _=>false)
 | .delete kt m k=>(match o with
  | .call ⟨.builtin .delete,as,ts⟩=>match as.toList,ts.toList with
   | [m',k'],t :: _=>eC T m m' && eC T k k' && match P.underlying t with
    | some (.map kt' _)=>kt == kt'
    | _=>false
   | _,_=>false
  | _=>false)
 | .minmax mx xs=>(match o with
  | .call ⟨.builtin .max,as,_⟩=>mx && nN T xs as.toList
  | .call ⟨.builtin .min,as,_⟩=>!mx && nN T xs as.toList
  | _=>false)
 | .mkFn vi caps=>(match o with
  | .makeFunc (.func f) first cs=>first.isEmpty && ftOf T vi == some f && nN T caps cs.toList
  | _=>false)
 | .call _ vi args=>(match o with
  | .call ⟨.value (.func f),as,_⟩=>ftOf T vi == some f && nN T args as.toList
  | _=>false)
 | .callS vi args=>(match o with
  | .call ⟨.value (.func f),as,_⟩=>ftOf T vi == some f && nN T args as.toList
  | _=>false)
 | .callF vi args=>(match o with
  | .call ⟨.value (.func f),as,_⟩=>ftOf T vi == some f && nN T args as.toList
  | _=>false)
 | .callT _ vi args=>(match o with
  | .call ⟨.value (.func f),as,_⟩=>ftOf T vi == some f && nN T args as.toList
  | _=>false)
 | .callB vi args=>(match o with
  | .call ⟨.value (.func f),as,_⟩=>ftOf T vi == some f && nN T args as.toList
  | _=>false)
 | .capS x=>(match o with
  | .call ⟨.builtin .cap,as,ts⟩=>match as.toList,ts.toList with
   | [y],[t]=>eC T x y && match P.underlying t with
    | some (.slice _)=>true
    | _=>false
   | _,_=>false
  | _=>false)
 | .callv _ x args=>(match o with
  | .call ⟨.value y,as,_⟩=>eC T x y && nN T args as.toList
  | _=>false)
 | .extract x i=>(match o with
  | .extract y j=>i == j && eC T x y
  | _=>false)
def aG6 (ops : Array Oper) : Option (Nat × Bool)→Option (Nat × Bool)→Bool
 | none,none=>true
 | some (t,b),some (j,b')=>b == b' && match ops[j]? with
  | some o=>o.dst == some t
  | none=>false
 | _,_=>false
def aEd (ops : Array Oper) (a : AOper) (o : Oper) : Bool:=a.dst == o.dst && aG6 ops a.guard o.guard && jY P T a.op o.op
def aC1 (ops : Array Oper) : List AOper→List Oper→Bool
 | [],[]=>true
 | a :: r,o :: s=>aEd P T ops a o && aC1 ops r s
 | _,_=>false
def aNl (acc : List Nat) : List Nat→Nat
 | []=>0
 | d :: r=>(2 ^ d ||| acc.getD d 0) ||| aNl acc r
def ancs (ops : List Oper) : Nat→List Nat→List Nat
 | 0,acc=>acc
 | n + 1,acc =>
  let ds:=match ops[acc.length]? with
   | some o=>(o.after.toList.filter fun e=>Region.binds .any e && decide (e.on < acc.length)).map fun (e : Edge)=>e.on
   | none=>[]
  ancs ops n (acc++[aNl acc ds])
def optL : Option AOpd→List AOpd
 | some x=>[x]
 | none=>[]
def aFa : AOp→List AOpd
 | .mov x=>[x]
 | .movN x=>[x]
 | .freeze x=>[x]
 | .loadF _ _ x=>[x]
 | .appendP _ _ x y=>[x,y]
 | .rangeStr x=>[x]
 | .nextStr x=>[x]
 | .pick x y z=>[x,y,z]
 | .alloc _=>[]
 | .claim _=>[]
 | .allocC _ _=>[]
 | .box x=>[x]
 | .build _ ps=>ps.map fun p=>p.2.2
 | .buildSl _ _ _ _ ps=>ps.map fun p=>p.2
 | .load _ _ x=>[x]
 | .store _ x y=>[x,y]
 | .nilCheck x=>[x]
 | .ibin _ x y=>[x,y]
 | .bin _ _ x y=>[x,y]
 | .un _ x=>[x]
 | .conv _ _ x=>[x]
 | .fieldAddr _ x=>[x]
 | .field _ _ _ x=>[x]
 | .idxAddr _ x y=>[x,y]
 | .idxArr _ _ x y=>[x,y]
 | .index _ _ _ x y=>[x,y]
 | .strIdx _ x y=>[x,y]
 | .slice _ x lo hi mx=>x :: (optL lo++(optL hi++optL mx))
 | .strSlice _ x lo hi=>x :: (optL lo++optL hi)
 | .mkSlice _ _ _ x y=>[x,y]
 | .mkMap=>[]
 | .lookup _ z m k _=>[z,m,k]
 | .mapUpd _ m k v=>[m,k,v]
 | .lenS x=>[x]
 | .lenM x=>[x]
 | .lenStr _ x=>[x]
 | .lenC _=>[]
 | .append _ _ x y=>[x,y]
 | .appendZ _ _ _ x y=>[x,y]
 | .copy _ x y=>[x,y]
 | .clear _ _ x=>[x]
 | .delete _ x y=>[x,y]
 | .minmax _ xs=>xs
 | .mkFn _ xs=>xs
 | .call _ _ xs=>xs
 | .callv _ x xs=>x :: xs
 | .callF _ xs=>xs
 | .callT _ _ xs=>xs
 | .callB _ xs=>xs
 | .callS _ xs=>xs
 | .capS x=>[x]
 | .extract x _=>[x]
def aIn : List AOpd→List Nat
 | []=>[]
 | .tmp t :: r=>t :: aIn r
 | _ :: r=>aIn r
def aKt (o : AOper) : List Nat :=
 match o.guard with
 | some (t,_)=>t :: aIn (aFa o.op)
 | none=>aIn (aFa o.op)
def aL8 (x y : AOper) : Bool :=
 match x.dst with
 | some d=>(aKt y).contains d || y.dst == some d
 | none=>false
def pD : AOp→Bool
 | .mov _=>true
 | .movN _=>true
 | .pick ..=>true
 | .build ..=>true
 | .buildSl pu ..=>pu
 | .appendP ..=>true
 | .load ..=>true
 | .nilCheck _=>true
 | .ibin ..=>true
 | .bin ..=>true
 | .un ..=>true
 | .conv ..=>true
 | .fieldAddr ..=>true
 | .field ..=>true
 | .idxAddr ..=>true
 | .idxArr ..=>true
 | .index ..=>true
 | .strIdx ..=>true
 | .slice ..=>true
 | .strSlice ..=>true
 | .lookup ..=>true
 | .lenS _=>true
 | .capS _=>true
 | .lenM _=>true
 | .lenStr ..=>true
 | .lenC _=>true
 | .minmax ..=>true
 | .mkFn ..=>true
 | .call pu ..=>pu
 | .callv pu ..=>pu
 | .extract ..=>true
 | .callS ..=>true
 | .callB ..=>true
 | _=>false
def aB8 : AOp→Bool
 | .mov _=>true
 | .movN _=>true
 | .pick ..=>true
 | .build ..=>true
 | .buildSl pu ..=>pu
 | .appendP ..=>true
 | .nilCheck _=>true
 | .ibin ..=>true
 | .bin ..=>true
 | .un ..=>true
 | .conv ..=>true
 | .fieldAddr ..=>true
 | .field ..=>true
 | .idxArr ..=>true
 | .index ..=>true
 | .strIdx ..=>true
 | .strSlice ..=>true
 | .lenS _=>true
 | .capS _=>true
 | .lenStr ..=>true
 | .lenC _=>true
 | .minmax ..=>true
 | .mkFn ..=>true
 | .extract ..=>true
 | _=>false
def aQq (ops : List Oper) : Nat→Bool
 | 0=>true
 | n + 1=>aQq ops n && match ops[n]? with
  | some o=>o.after.toList.all fun e=>!Region.binds .any e || decide (e.on < n)
  | none=>true
def gR (aops : List AOper) (k : Nat) : Bool:=match aops[k]? with
 | some o=>pD o.op
 | none=>true
def tG (aops : List AOper) (k : Nat) : Bool:=match aops[k]? with
 | some o=>aB8 o.op
 | none=>true
def pN (aops : List AOper) (k : Nat) : Bool:=match aops[k]? with
 | some o=>match o.dst with
  | some _=>match o.op with
   | .alloc _=>match o.guard with
    | none=>true
    | some _=>false
   | _=>false
  | none=>false
 | none=>false
def aDr (aops : List AOper) (an : List Nat) : Nat→Nat→Nat
 | 0,_=>aops.length
 | n + 1,i=>if pN aops i && pN aops (i + 1) && !(an.getD (i + 1) 0).testBit i then i else aDr aops an n (i + 1)
def aKo (sw : Nat) (aops : List AOper) (an : List Nat) : Nat→Bool
 | 0=>true
 | j + 1=>aKo sw aops an j && ((List.range j).all fun i =>
  (an.getD j 0).testBit i || ((gR aops i || gR aops j || (i == sw && j == sw + 1 && pN aops i && pN aops j)) && match aops[i]?,aops[j]? with
   | some x,some y=>!aL8 x y && !aL8 y x
   | _,_=>false))
def aVv (aops : List AOper) (ck : List (Nat × Nat)) (an : List Nat) (n : Nat) : Bool :=
 (List.range n).all fun k=>tG aops k || !gR aops k || ((List.range n).all fun m=>gR aops m || (an.getD k 0).testBit m || (an.getD m 0).testBit k || ck.contains (k,m))
def aR9 (P : Program) (d0 d1 : Nat) (o : Oper) : Bool :=
 (match o.dst with | some d=>d == d1 | none=>false) && o.guard.isNone && match o.op with
  | .binOp .eql t (.tmp x) (.const (.slice none 0 0)) _=>x == d0 && match P.underlying t with
   | some (.slice _)=>true
   | _=>false
  | _=>false
def aQ1 (sw : Nat) (aops : List AOper) (ck : List (Nat × Nat)) (an : List Nat) (n : Nat) : Bool :=
 !decide (sw + 1 < n) || (List.range n).all fun k=>!gR aops k || tG aops k || (an.getD k 0).testBit sw || ck.contains (k,sw)
def chkC : ACode→Code→Bool
 | .skip,.skip=>true
 | .skip,.label _=>true
 | .region draw ck aops,.region _ ops draw'=>draw == draw' && aC1 P T ops aops ops.toList && (!draw || (aKo (aDr aops (ancs ops.toList ops.size []) ops.size 0) aops (ancs ops.toList ops.size []) ops.size && (aVv aops ck (ancs ops.toList ops.size []) ops.size && aQ1 (aDr aops (ancs ops.toList ops.size []) ops.size 0) aops ck (ancs ops.toList ops.size []) ops.size) && aQq ops.toList ops.size))
 | .seq a b,.seq a' b'=>chkC a a' && chkC b b'
 | .cond c a b,.cond c' a' b'=>eC T c c' && chkC a a' && chkC b b'
 | .block i c,.block j d=>i == j && chkC c d
 | .loop _ _ c,.loop d=>chkC c d
 | .exit i,.exit j=>i == j
 | .ret,.ret=>true
 | .frz _ c,d=>chkC c d
 | .mask _ _ _ c,d=>chkC c d
 | .told _ _ _ c,d=>chkC c d
 | .loopV _ _ _ _ c,.loop d=>chkC c d
 | .scope c,.scope d=>chkC c d
 | .nilIf t d0 d1 a b,.seq (.seq (.region _ ops draw) (.cond (.tmp e) a' .skip)) b'=>!draw && e == d1 && (match ops.toList with
   | [o1,o2]=>aEd P T ops ⟨some d0,.mov (.tmp t),none⟩ o1 && aR9 P d0 d1 o2
   | _=>false) && chkC a a' && chkC b b'
 | .stop,_=>true
 | _,_=>false
def aFk : List ARes→List ResultVar→Bool
 | [],[]=>true
 | .tmp t :: r,.tmp u :: s=>t == u && aFk r s
 | .cell t n agg :: r,.cell u ty :: s=>t == u && kL P ty n && aHf P ty agg && (agg || n == 1) && aFk r s
 | _,_=>false
def eH (F : AFun) : Bool :=
 match P.funcs[F.fid]? with
 | some fn=>match fn.body with
  | some c => chkC P T F.body c && fn.ntmps == F.nt && aFk P F.rets fn.results.toList && !(fn.name == "runtime.NumGoroutine")
  | none=>false
 | none=>false
end
end Go.Proofs.YtapabkfjeiknbaaGreat.Av
