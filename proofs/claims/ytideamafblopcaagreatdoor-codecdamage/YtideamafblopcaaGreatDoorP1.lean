/- A part of the proof of a law. -/
import Derived.Calls
import Derived.Orders
import Derived.LoopN
import Derived.Below
import Derived.KernelRfl
import Derived.Laws.CopyRow
import Derived.Laws.AppendOwn
import Derived.Laws.Entries
import Derived.Great.BuildSlice
import Derived.Laws.Tables
set_option maxRecDepth 100000
set_option maxHeartbeats 4000000
set_option linter.all false
namespace Go.Proofs.YtideamafblopcaaGreatDoor.Av
open Go
inductive AV where
 | undef
 | lit (v:Value)
 | sl (full:Bool) (es:List (List AV))
 | ms (id tot off len:Nat)
 | ptr (id tot idx off:Nat)
 | rptr (cs:List AV)
 | sptr (cs:List AV)
 | vw (es:List (List AV))
 | rmp (ents:List (Value×AV))
 | mp (id:Nat)
 | it (id:Nat)
 | fn (vi:Nat) (caps:List AV)
 | agg (cs:List AV)
 | tup (vs:List AV)
 deriving Inhabited
inductive cN where
 | blk (s:Nat) (es:List (List AV))
 | mp (ents:List (Value×AV))
 | raw (ob:Obj)
 deriving Inhabited
abbrev aM:=List cN
structure St where
 tmps:List AV
 heap:aM
inductive aQ where
 | tmp (t:Nat)
 | lit (v:Value)
 | agg (vs:List Value)
 | fn (vi:Nat)
 | glob (g:Nat)
abbrev CF:=Nat->Nat->List AV->aM->Option (AV×aM)
def Le(cf cf':CF): Prop:=∀fl vi args H x,cf fl vi args H=some x->cf' fl vi args H=some x
structure PC where
 run:CF->Nat->List AV->aM->Option (AV×aM)
 mono:∀cf cf',Le cf cf'->∀fl args H x,run cf fl args H=some x->run cf' fl args H=some x
abbrev Kw(g:Nat->List AV->aM->Option (AV×aM)): PC:=⟨λ_=>g,λ_ _ _ _ _ _ _ h=>h⟩
class aB where
 tab:Nat->Option (List AV)
 ok:Nat->Array Value->Prop:=λ_ _=>True
 prim:Nat->Option PC:=λ_=>none
 sh:List (Nat×Nat):=[]
 ft:Nat:=0
 df:List (Nat×Nat×Nat×Nat×Nat):=[]
inductive xP where
 | mov (x:aQ)
 | movN (x:aQ)
 | pick (c a b:aQ)
 | alloc (z:List Value)
 | claim (s:Nat)
 | allocC (z:List Value) (cl:List (Nat×Nat))
 | box (x:aQ)
 | ptrK (n:Nat)
 | boxC (x:aQ) (cl:List (Nat×Nat))
 | build (z:List Value) (parts:List (Nat×Nat×aQ))
 | buildC (z:List Value) (parts:List (Nat×Nat×aQ)) (cl:List (Nat×Nat))
 | buildSl (pu:Bool) (s n:Nat) (z:List Value) (parts:List (Nat×aQ))
 | load (agg:Bool) (n:Nat) (x:aQ)
 | store (n:Nat) (x v:aQ)
 | nilCheck (x:aQ)
 | ibin (op:BinOp) (x y:aQ)
 | bin (op:BinOp) (t:TypeId) (x y:aQ)
 | un (op:UnOp) (x:aQ)
 | conv (src dst:TypeId) (x:aQ)
 | fieldAddr (off:Nat) (x:aQ)
 | field (agg:Bool) (n off:Nat) (x:aQ)
 | idxAddr (s:Nat) (x i:aQ)
 | idxArr (s n:Nat) (x i:aQ)
 | index (agg:Bool) (s n:Nat) (x i:aQ)
 | strIdx (t:TypeId) (x i:aQ)
 | slice (s:Nat) (x:aQ) (lo hi mx:Option aQ)
 | strSlice (t:TypeId) (x:aQ) (lo hi:Option aQ)
 | mkSlice (s:Nat) (z:List Value) (bytes:Nat) (len cap:aQ)
 | mkMap
 | lookup (kt:TypeId) (z:aQ) (m k:aQ) (ok:Bool)
 | mapUpd (kt:TypeId) (m k v:aQ)
 | lenS (x:aQ)
 | lenM (x:aQ)
 | lenStr (t:TypeId) (x:aQ)
 | lenC (n:Nat)
 | append (s bytes:Nat) (x y:aQ)
 | appendZ (s bytes:Nat) (z:List Value) (x n:aQ)
 | copy (s:Nat) (x y:aQ)
 | clear (s:Nat) (z:List Value) (x:aQ)
 | delete (kt:TypeId) (m k:aQ)
 | minmax (mx:Bool) (xs:List aQ)
 | mkFn (vi:Nat) (caps:List aQ)
 | call (pu:Bool) (vi:Nat) (args:List aQ)
 | callv (pu:Bool) (x:aQ) (args:List aQ)
 | callF (vi:Nat) (args:List aQ)
 | callT (s vi:Nat) (args:List aQ)
 | callB (vi:Nat) (args:List aQ)
 | callS (vi:Nat) (args:List aQ)
 | capS (x:aQ)
 | extract (x:aQ) (i:Nat)
 | freeze (x:aQ)
 | loadF (n k:Nat) (x:aQ)
 | appendP (s bytes:Nat) (x y:aQ)
 | rangeStr (x:aQ)
 | nextStr (x:aQ)
 | slArr (s n:Nat) (x:aQ)
 | arrPtr (s n:Nat) (x:aQ)
 | tail2 (x:aQ)
structure aL where
 dst:Option Nat
 op:xP
 guard:Option (Nat×Bool)
inductive bI where
 | skip
 | region (draw:Bool) (ck:List (Nat×Nat)) (ops:List aL)
 | seq (a b:bI)
 | cond (c:aQ) (a b:bI)
 | block (id:Nat) (c:bI)
 | loop (live:Option (List Bool)) (tr:Bool) (c:bI)
 | exit (id:Nat)
 | ret
 | frz (t:Nat) (c:bI)
 | mask (lx lr:List Bool) (tr:Bool) (c:bI)
 | told (li lx lr:List Bool) (c:bI)
 | scope (c:bI)
 | nilIf (t d0 d1:Nat) (a b:bI)
 | loopV (live lx lr:List Bool) (t:Nat) (c:bI)
 | stop
inductive Rg where
 | tmp (t:Nat)
 | cell (t n:Nat) (agg:Bool)
structure bK where
 fid:Nat
 nt:Nat
 rets:List Rg
 body:bI
inductive bP where
 | normal
 | exit (id:Nat)
 | ret
def aZ: Value:=.slice none 0 0
def aW: Value:=.tuple #[]
def aK{α:Type}(P:Program): Sem α->Option α
 | .pure a=>some a
 | .program k=>aK P<|k P
 | .mark _ k=>aK P k
 | _=>none
def aY: Value->Bool
 | .agg _=>false
 | .tuple _=>false
 | _=>true
def pP: Value->Bool
 | .nilIface=>false
 | _=>true
def cellsOf: AV->Option (List AV)
 | .undef=>none
 | .tup _=>none
 | .agg cs=>some cs
 | .lit v=>if aY v then some [.lit v] else none
 | v=>some [v]
def sS(v:Value): AV:=match v with
 | .slice a l c=>match a with
  | none=>match l with
   | 0=>match c with
    | 0=>.sl false []
    | _=>.lit v
   | _=>.lit v
  | _=>.lit v
 | _=>.lit v
def nrm: AV->AV
 | .lit v=>sS v
 | .sl _ es=>.sl false es
 | v=>v
def Om: AV->AV
 | .agg cs=>.agg<|cs.map nrm
 | v=>nrm v
def vJ: AV->AV
 | .lit v=>sS v
 | .sl _ es=>.sl false es
 | .sptr cs=>.sptr cs
 | .rmp ents=>.rmp ents
 | _=>.undef
def rd(H:aM): AV->Option (List<|List AV)
 | .lit (.slice none 0 0)=>some []
 | .sl _ es=>some es
 | .vw es=>some es
 | .ms id tot off len=>
  match H[id]? with
  | some (.blk _ es)=>if es.length=tot then some ((es.drop off).take len) else none
  | _=>none
 | _=>none
def dZ(H:aM)(n:Nat): Nat->AV->AV
 | _,.lit v=>sS v
 | _,.sl _ es=>.sl false es
 | _,.sptr cs=>.sptr cs
 | _,.rmp ents=>.rmp ents
 | d+1,.mp id=>
  if n<=id then match H[id]? with
   | some (.mp ents)=>.rmp<|ents.map λe=>(e.1,dZ H n d e.2)
   | _=>.undef
  else .undef
 | d+1,.ms id tot off len=>
  if n<=id then match rd H (.ms id tot off len) with
   | some es=>.sl false<|es.map λe=>e.map<|dZ H n d
   | none=>.undef
  else .undef
 | _,_=>.undef
def eZ: Nat:=6
def gC(H:aM)(n:Nat): AV->AV
 | .lit v=>sS v
 | .sl _ es=>.sl false es
 | .sptr cs=>.sptr cs
 | .rmp ents=>.rmp ents
 | .ms id tot off len=>if id<n then .ms id tot off len else dZ H n eZ (.ms id tot off len)
 | .ptr id tot idx off=>if id<n then .ptr id tot idx off else .undef
 | .mp id=>if id<n then .mp id else dZ H n eZ (.mp id)
 | .fn vi []=>.fn vi []
 | _=>.undef
def dS(H:aM)(n:Nat): AV->AV
 | .agg cs=>.agg<|cs.map<|gC H n
 | v=>gC H n v
def gS(H:aM)(n:Nat): AV->AV
 | .tup vs=>.tup<|vs.map<|dS H n
 | v=>dS H n v
def jI(n:Nat): AV->AV
 | .lit v=>.lit v
 | .it id=>if id<n then .it id else .undef
 | .sl f es=>.sl f es
 | .rptr cs=>.rptr cs
 | .sptr cs=>.sptr cs
 | .vw es=>.vw es
 | .rmp ents=>.rmp ents
 | .ms id tot off len=>if id<n then .ms id tot off len else .undef
 | .ptr id tot idx off=>if id<n then .ptr id tot idx off else .undef
 | .mp id=>if id<n then .mp id else .undef
 | .fn vi []=>.fn vi []
 | _=>.undef
def iE(n:Nat): AV->AV
 | .fn vi caps=>.fn vi<|caps.map<|jI n
 | v=>jI n v
def yG(n:Nat): AV->AV
 | .agg cs=>.agg<|cs.map<|iE n
 | v=>iE n v
def yF(n:Nat): AV->AV
 | .tup vs=>.tup<|vs.map<|yG n
 | v=>yG n v
def zG: List AV->Option (List Value)
 | []=>some []
 | .lit v::r=>match zG r with | some l=>some (v::l) | none=>none
 | _::_=>none
def lits: AV->Option Value
 | .lit v=>some v
 | .agg cs=>match zG cs with | some l=>some (.agg l.toArray) | none=>none
 | _=>none
def aC[aB](tm:List AV): aQ->AV
 | .glob g=>match aB.tab g with | some cs=>.rptr cs | none=>.undef
 | .tmp t=>match tm[t]? with | some v=>v | none=>.lit aW
 | .lit v=>.lit v
 | .agg vs=>.agg<|vs.map .lit
 | .fn vi=>.fn vi []
def b9: AV->Bool
 | .lit _=>true
 | .tup vs=>vs.all λv=>match v with | .lit _=>true | _=>false
 | _=>false
def cJ(H:aM)(x:AV)(n:Nat): Option<|List AV:=
 match x with
 | .ptr id tot idx off=>
  match H[id]? with
  | some (.blk _ es)=>
   if es.length=tot then
    match es[idx]? with
    | some e=>if off+n<=e.length then some ((e.drop off).take n) else none
    | none=>none
   else none
  | _=>none
 | .rptr cs=>if n<=cs.length then some (cs.take n) else none
 | .sptr cs=>if n<=cs.length then some (cs.take n) else none
 | _=>none
def aU{α:Type}(e:List α)(off:Nat)(cs:List α): List α:=e.take off++(cs++e.drop (off+cs.length))
def eM(fl:Nat)(H:aM)(x:AV)(cs:List AV): Option aM:=
 match x with
 | .ptr id tot idx off=>
  if fl<=id then
   match H[id]? with
   | some (.blk s es)=>
    if es.length=tot then
     match es[idx]? with
     | some e=>if off+cs.length<=e.length then some (H.set id<|.blk s<|es.set idx<|aU e off cs) else none
     | none=>none
    else none
   | _=>none
  else none
 | _=>none
def KB(op:BinOp)(k:IntKind)(a b:Int): Option Value:=
 match op with
 | .add=>some<|.int k<|k.wrap<|a+b
 | .sub=>some<|.int k<|k.wrap<|a-b
 | .mul=>some<|.int k<|k.wrap<|a*b
 | .eql=>some<|.bool<|a==b
 | .neq=>some<|.bool<|a != b
 | .lss=>some<|.bool<|a<b
 | .leq=>some<|.bool<|a<=b
 | .gtr=>some<|.bool<|a > b
 | .geq=>some<|.bool<|a>=b
 | _=>none
def Ct(cells:List AV): List (Nat×Nat×AV)->Option (List AV)
 | []=>some cells
 | (off,size,v)::rest=>
  match cellsOf v with
  | none=>none
  | some cs=>if cs.length=size/\off+size<=cells.length then Ct (aU cells off cs) rest else none
def Ga(s:Nat)(es:List<|List AV): List (Nat×AV)->Option (List<|List AV)
 | []=>some es
 | (i,v)::rest=>
  match cellsOf v with
  | none=>none
  | some cs=>if cs.length=s/\i<es.length then Ga s (es.set i cs) rest else none
def fA: AV->Option Nat
 | .lit (.int _ n)=>if 0<=n then some n.toNat else none
 | _=>none
def cU[aB](tm:List AV): Option aQ->Option (Option Nat)
 | none=>some none
 | some x=>match fA (aC tm x) with | some n=>some (some n) | none=>none
def cY(s:Nat)(es:List<|List AV): Bool:=es.all λe=>e.length==s
def qB: List (List AV)->Option (List Int)
 | []=>some []
 | e::r=>match e with
  | [.lit<|.int .u8 n]=>match qB r with
   | some l=>some (n::l)
   | none=>none
  | _=>none
def xR(ns:List Int): ByteArray:=ns.foldl (λr n=>r.push<|UInt8.ofNat n.toNat) ByteArray.empty
def Bp(P:Program)(src dst:TypeId): Bool:=match P.underlying src with
 | some (.slice e)=>match P.underlying e with
  | some (.int .u8)=>match P.underlying dst with
   | some .string=>true
   | _=>false
  | _=>false
 | _=>false
def HB(s:ByteArray): List<|List AV:=s.data.toList.map λb=>[.lit<|.int .u8<|((b.toNat:Nat):Int)]
def rdY(s:Nat)(H:aM)(y:AV): Option<|List<|List AV:=match y with
 | .lit v=>match v with
  | .string b=>match s with
   | 1=>some (HB b)
   | _=>none
  | v=>rd H (.lit v)
 | y=>rd H y
def YD: AV->Bool
 | .lit v=>match v with
  | .slice ..=>true
  | _=>false
 | .sl ..=>true
 | .vw _=>true
 | .ms ..=>true
 | _=>false
def jL(P:Program)(kt:TypeId)(k:Value)(ents:List<|Value×AV): Option<|Option Nat:=
 match aK P (Instr.findKey kt k<|ents.map λe=>{ key:=e.1,val:=.bool false,born:=0 }) with
 | some (some (i,_))=>some<|some i
 | some none=>some none
 | none=>none
def fV(s:Nat): List (List AV)->Bool
 | []=>true
 | e::_=>e.length==s
def eQ(H:aM)(s:Nat)(x:AV)(lo hi mx:Option Nat): Option AV:=
 match x with
 | .lit (.slice none 0 0)=>if lo.getD 0=0/\hi.getD 0=0/\mx.getD 0=0/\(mx.isSome->hi.isSome) then some (.lit aZ) else none
 | .sl f es=>
  match mx with
  | none=>
   let h:=hi.getD es.length
   let l:=lo.getD 0
   if l<=h/\h<=es.length/\fV s es=true then some (.sl (f&&h==es.length)<|(es.take h).drop l) else none
  | some m=>
   match hi with
   | none=>none
   | some h=>
    let l:=lo.getD 0
    if l<=h/\h<=m/\m<=es.length/\fV s es=true then some (.sl (h==m)<|(es.take h).drop l) else none
 | .vw es=>
  match mx with
  | none=>
   let h:=hi.getD es.length
   let l:=lo.getD 0
   if l<=h/\h<=es.length/\fV s es=true then some (.vw<|(es.take h).drop l) else none
  | some m=>
   match hi with
   | none=>none
   | some h=>if lo.getD 0=0/\h=0/\m=0 then some (.sl true []) else if lo.getD 0<=h/\h<=m/\m<=es.length/\fV s es=true then some (.vw<|(es.take h).drop<|lo.getD 0) else none
 | .ms id tot off len=>
  match mx with
  | none=>
   let h:=hi.getD len
   let l:=lo.getD 0
   match H[id]? with
   | some (.blk s' es)=>if l<=h/\h<=len/\s'=s then some (.ms id tot (off+l)<|h-l)
    else if l<=h/\off+h<=tot/\es.length=tot/\0<s/\s'=s then some (.ms id tot (off+l)<|h-l) else none
   | _=>none
  | some m=>
   match hi with
   | none=>none
   | some h=>
    let l:=lo.getD 0
    if l=h/\h=m/\m<=len then some (.sl true []) else if l<=h/\h<=m/\m<=len then some .undef else none
 | _=>none
def lQ(H:aM): AV->AV
 | .lit v=>match sS v with
  | .lit u=>.lit u
  | _=>.vw []
 | .sl _ es=>.vw es
 | .vw es=>.vw es
 | .rptr cs=>.rptr cs
 | .sptr cs=>.sptr cs
 | .rmp ents=>.rmp ents
 | .ms id tot off len=>match rd H (.ms id tot off len) with
  | some es=>.vw<|es.map λe=>e.map vJ
  | none=>.undef
 | .fn vi []=>.fn vi []
 | _=>.undef
def eK(H:aM): AV->AV
 | .agg cs=>.agg<|cs.map<|lQ H
 | v=>lQ H v
def aAd: AV->Bool
 | .lit _=>true
 | _=>false
def Wi(s:Nat)(H':aM): AV->Option (List<|List AV)
 | .ms id tot off len=>match Nat.beq off 0&&Nat.beq len tot with
  | false=>none
  | true=>match H'[id]? with
   | none=>none
   | some o=>match o with
    | .blk s' es=>match Nat.beq es.length tot&&Nat.beq s' s with
     | true=>some<|es.map λe=>e.map<|dZ (H'.set id<|.blk s<|es++[List.replicate s .undef]) 0 eZ
     | false=>none
    | _=>none
 | .lit v=>match v with
  | .slice a len cap=>match a with
   | none=>match Nat.beq len 0&&Nat.beq cap 0 with
    | true=>some []
    | false=>none
   | some _=>none
  | _=>none
 | _=>none
def Kz(s:Nat)(H:aM)(q:Option<|AV×aM): Option<|AV×aM:=match q with
 | none=>none
 | some p=>match p.1 with
  | .tup cs=>match cs with
   | []=>none
   | x::l=>match l.all aAd with
    | false=>none
    | true=>match Wi s p.2 x with
     | none=>none
     | some rows=>some (.tup (.ms H.length rows.length 0 rows.length::l),H++[.blk s rows])
  | r=>match Wi s p.2 r with
   | none=>none
   | some rows=>some (.ms H.length rows.length 0 rows.length,H++[.blk s rows])
def kO(n bytes:Nat): Bool:=n*bytes<=2 ^ 40&&n<=2 ^ 40
def cC(fl:Nat)(H:aM)(s bytes:Nat)(x:AV)(ys:List<|List AV): Option<|AV×aM:=
 if cY s ys=true/\0<s/\kO ys.length bytes=true then
  match x with
  | .lit (.slice none 0 0)=>
   if ys.length=0 then some (x,H) else some (.ms H.length ys.length 0 ys.length,H++[.blk s ys])
  | .sl f es=>
   if ys.length=0 then some (x,H)
   else if f=true/\cY s es=true/\kO (es.length+ys.length) bytes=true then
    some (.ms H.length (es.length+ys.length) 0<|es.length+ys.length,H++[.blk s<|es++ys])
   else none
  | .ms id tot off len=>
   match H[id]? with
   | some (.blk s' es)=>
    if s'=s/\es.length=tot/\kO (tot+ys.length) bytes=true then
     if ys.length=0 then some (x,H)
     else if fl<=id then
      if off=0/\len=tot then
       some (.ms id (tot+ys.length) 0<|tot+ys.length,H.set id<|.blk s<|es++ys)
      else if off+len+ys.length<=tot then
       some (.ms id tot off<|len+ys.length,H.set id<|.blk s<|aU es (off+len) ys)
      else none
     else none
    else none
   | _=>none
  | _=>none
 else none
def T6: AV->Option (List<|List AV)
 | .lit (.slice none 0 0)=>some []
 | .sl _ ys=>some ys
 | _=>none
def aG3(s bytes:Nat)(x y:AV): Option AV:=match x with
 | .sl f es=>match f with
  | true=>match es with
   | []=>match T6 y with
    | some ys=>if cY s ys=true/\0<s/\kO ys.length bytes=true then some (.sl false<|ys.map λe=>e.map vJ) else none
    | none=>none
   | _::_=>none
  | false=>none
 | _=>none
def cV(n:Nat)(cs:List AV): List (Nat×Nat)->List AV
 | []=>cs
 | (o,_)::r=>cV (n+1) (cs.set o<|.ms n 0 0 0) r
def Bj: AV->Bool
 | .undef=>true
 | .lit _=>true
 | .sl _ _=>true
 | .rptr _=>true
 | .sptr _=>true
 | .rmp _=>true
 | .fn _ []=>true
 | _=>false
def Ey: List AV->Bool
 | []=>true
 | x::r=>match Bj x with | true=>Ey r | false=>false
def pO: AV->Bool
 | .agg cs=>Ey cs
 | v=>Bj v
def fO: List AV->Bool
 | []=>true
 | x::r=>match pO x with | true=>fO r | false=>false
section
variable (P:Program)(cf:Nat->Nat->List AV->aM->Option (AV×aM))(fl:Nat)
def kR(pu:Bool)(vi:Nat)(args:List AV)(H:aM): Option<|AV×aM:=
 match pu with
 | true=>
  match fO args with
  | true=>
   match cf 0 vi (args.map Om) [] with
   | some (r,H')=>some (gS H' 0 r,H)
   | none=>none
  | false=>
   match cf H.length vi (args.map Om) H with
   | some (r,H')=>some (gS H' H.length r,H)
   | none=>none
 | false=>cf fl vi args H
def JN(cs:List AV)(cl:List (Nat×Nat)): Bool:=cl.all λc=>match cs[c.1]? with
 | some (.lit (.slice none 0 0))=>true
 | _=>false
def qM: List AV->AV
 | []=>.tup []
 | x::_=>x
def aI[aB](op:xP)(tm:List AV)(H:aM): Option<|AV×aM:=
 match op with
 | .mov x=>some (aC tm x,H)
 | .movN x=>some (Om<|aC tm x,H)
 | .pick c a b=>match aC tm c with
  | .lit (.bool t)=>some (if t then aC tm a else aC tm b,H)
  | _=>none
 | .alloc z=>some (.ptr H.length 1 0 0,H++[.blk z.length [z.map .lit]])
 | .claim s=>some (.ms H.length 0 0 0,H++[.blk s []])
 | .allocC z cl=>some (.ptr (H.length+cl.length) 1 0 0,
  (H++cl.map λc=>.blk c.2 [])++[.blk z.length [cV H.length (z.map .lit) cl]])
 | .ptrK n=>some (.ptr n 1 0 0,H)
 | .box x=>match cellsOf (aC tm x) with
  | some cs=>some (.ptr H.length 1 0 0,H++[.blk cs.length [cs]])
  | none=>none
 | .boxC x cl=>match cellsOf (aC tm x) with
  | some cs=>match JN cs cl with
   | true=>some (.ptr (H.length+cl.length) 1 0 0,(H++cl.map λc=>.blk c.2 [])++[.blk cs.length [cV H.length cs cl]])
   | false=>none
  | none=>none
 | .build z parts=>match Ct (z.map .lit) (parts.map λ(o,s,x)=>(o,s,aC tm x)) with
  | some cs=>some (.agg cs,H)
  | none=>none
 | .buildC z parts cl=>match Ct (z.map .lit) (parts.map λ(o,s,x)=>(o,s,aC tm x)) with
  | some cs=>match JN cs cl with
   | true=>some (.agg (cV H.length cs cl),H++cl.map λc=>.blk c.2 [])
   | false=>none
  | none=>none
 | .buildSl pu s n z parts=>match Ga s (List.replicate n<|z.map .lit) (parts.map λ(i,x)=>(i,aC tm x)) with
  | some es=>if pu then some (.sl true<|es.map λe=>e.map vJ,H) else some (.ms H.length n 0 n,H++[.blk s es])
  | none=>none
 | .load agg n x=>match cJ H (aC tm x) n with
  | some cs=>if agg then some (.agg cs,H) else match cs with
   | [c]=>some (c,H)
   | _=>none
  | none=>none
 | .store n x v=>match cellsOf (aC tm v) with
  | some cs=>if cs.length=n then match eM fl H (aC tm x) cs with
   | some H'=>some (.lit aW,H')
   | none=>none
   else none
  | none=>none
 | .nilCheck x=>match aC tm x with
  | .ptr ..=>some (aC tm x,H)
  | .rptr _=>some (aC tm x,H)
  | .sptr _=>some (aC tm x,H)
  | .fn ..=>some (aC tm x,H)
  | _=>none
 | .ibin op x y=>match aC tm x,aC tm y with
  | .lit (.int k a),.lit (.int k' b)=>if k=k' then match KB op k a b with
   | some v=>some (.lit v,H)
   | none=>none
   else none
  | _,_=>none
 | .bin op t x y=>match lits<|aC tm x,lits (aC tm y) with
  | some v,some u=>match (if pP v then aK P (eqGuard op t (.tmp 0) (.tmp 0) v u) else none) with
   | some _=>match aK P (binOp op t v u) with
    | some r=>some (.lit r,H)
    | none=>none
   | none=>none
  | _,_=>none
 | .un op x=>match aC tm x with
  | .lit v=>match aK P (Op.unary op v) with
   | some r=>some (.lit r,H)
   | none=>none
  | _=>none
 | .conv src dst x=>match YD (aC tm x) with
  | false=>match aC tm x with
   | .lit v=>match aK P (convert src dst v) with
    | some r=>some (.lit r,H)
    | none=>none
   | _=>none
  | true=>match Bp P src dst with
   | true=>match rd [] (aC tm x) with
    | some es=>match qB es with
     | some ns=>some (.lit<|.string<|xR ns,H)
     | none=>none
    | none=>none
   | false=>none
 | .fieldAddr off x=>match aC tm x with
  | .ptr id tot idx o=>some (.ptr id tot idx<|o+off,H)
  | .rptr cs=>some (.rptr<|cs.drop off,H)
  | .sptr cs=>some (.rptr<|cs.drop off,H)
  | _=>none
 | .field agg n off x=>match aC tm x with
  | .agg cs=>if off+n<=cs.length then
   if agg then some (.agg<|(cs.drop off).take n,H) else match (cs.drop off).take n with
    | [c]=>some (c,H)
    | _=>none
   else none
  | _=>none
 | .idxAddr s x i=>match fA (aC tm i) with
  | some i=>match aC tm x with
   | .sl _ es=>match es[i]? with
    | some e=>if e.length=s then some (.rptr e,H) else none
    | none=>none
   | .vw es=>match es[i]? with
    | some e=>if e.length=s then some (.rptr e,H) else none
    | none=>none
   | .ms id tot off len=>match H[id]? with
    | some (.blk s' es)=>if s'=s/\es.length=tot/\i<len then some (.ptr id tot (off+i) 0,H) else none
    | _=>none
   | _=>none
  | none=>none
 | .idxArr s n x i=>match fA (aC tm i) with
  | some i=>if i<n then match aC tm x with
   | .ptr id tot idx o=>some (.ptr id tot idx<|o+i*s,H)
   | .rptr cs=>some (.rptr<|(cs.drop<|i*s).take s,H)
   | _=>none
   else none
  | none=>none
 | .index agg s n x i=>match fA (aC tm i) with
  | some i=>if i<n then match aC tm x with
   | .agg cs=>if i*s+s<=cs.length then
    if agg then some (.agg<|(cs.drop<|i*s).take s,H) else match (cs.drop<|i*s).take s with
     | [c]=>some (c,H)
     | _=>none
    else none
   | _=>none
   else none
  | none=>none
 | .strIdx t x i=>match aC tm x,aC tm i with
  | .lit v,.lit u=>match aK P (Instr.index t v u) with
   | some r=>some (.lit r,H)
   | none=>none
  | _,_=>none
 | .slice s x lo hi mx=>match cU tm lo,cU tm hi,cU tm mx with
  | some lo,some hi,some mx=>match eQ H s (aC tm x) lo hi mx with
   | some v=>some (v,H)
   | none=>none
  | _,_,_=>none
 | .strSlice _ x lo hi=>match aC tm x,cU tm lo,cU tm hi with
  | .lit (.string s),some lo,some hi=>
   if lo.getD 0<=hi.getD s.size/\hi.getD s.size<=s.size then some (.lit<|.string<|s.extract (lo.getD 0)<|hi.getD s.size,H) else none
  | _,_,_=>none
 | .mkSlice s z bytes len cap=>match fA<|aC tm len,fA (aC tm cap) with
  | some l,some c=>if l<=c/\c*bytes<=2 ^ 40/\c<=2 ^ 40/\z.length=s then
   some (.ms H.length l 0 l,H++[.blk s<|List.replicate l<|z.map .lit]) else none
  | _,_=>none
 | .mkMap=>some (.mp H.length,H++[.mp []])
 | .lookup kt z m k ok=>match lits (aC tm k) with
  | some kv=>
   let r (ents:List<|Value×AV):Option<|AV×aM:=
    match aK P<|Instr.checkKey ents.isEmpty 10000 kt kv,jL P kt kv ents with
    | some _,some (some i)=>match ents[i]? with
     | some e=>some (if ok then .tup [e.2,.lit<|.bool true] else e.2,H)
     | none=>none
    | some _,some none=>some (if ok then .tup [aC tm z,.lit<|.bool false] else aC tm z,H)
    | _,_=>none
   match aC tm m with
   | .lit (.map none)=>r []
   | .mp id=>match H[id]? with
    | some (.mp ents)=>r ents
    | _=>none
   | .rmp ents=>r ents
   | _=>none
  | none=>none
 | .mapUpd kt m k v=>match lits<|aC tm k,aC tm m with
  | some kv,.mp id=>if fl<=id then match H[id]? with
   | some (.mp ents)=>match aK P<|Instr.checkKey false 10000 kt kv,jL P kt kv ents with
    | some _,some (some i)=>match ents[i]? with
     | some e=>if Instr.sameBits 10000 e.1 kv then some (.lit aW,H.set id<|.mp<|ents.set i (kv,aC tm v)) else none
     | none=>none
    | some _,some none=>some (.lit aW,H.set id<|.mp<|ents++[(kv,aC tm v)])
    | _,_=>none
   | _=>none
   else none
  | _,_=>none
 | .lenS x=>match aC tm x with
  | .lit (.slice none 0 0)=>some (.lit<|.int .i64 0,H)
  | .sl _ es=>some (.lit<|.int .i64 es.length,H)
  | .vw es=>some (.lit<|.int .i64 es.length,H)
  | .ms _ _ _ len=>some (.lit<|.int .i64 len,H)
  | _=>none
 | .lenM x=>match aC tm x with
  | .lit (.map none)=>some (.lit<|.int .i64 0,H)
  | .mp id=>match H[id]? with
   | some (.mp ents)=>some (.lit<|.int .i64 ents.length,H)
   | _=>none
  | .rmp ents=>some (.lit<|.int .i64 ents.length,H)
  | _=>none
 | .lenStr t x=>match aC tm x with
  | .lit v=>match aK P (Builtin.len_ #[t] 0 #[v]) with
   | some r=>some (.lit r,H)
   | none=>none
  | _=>none
 | .lenC n=>some (.lit<|.int .i64 n,H)
 | .append s bytes x y=>match rdY s H (aC tm y) with
  | some ys=>cC fl H s bytes (aC tm x) ys
  | none=>none
 | .appendZ s bytes z x n=>match fA (aC tm n) with
  | some n=>if z.length=s/\n<=2 ^ 20/\n*bytes<=2 ^ 40 then cC fl H s bytes (aC tm x) (List.replicate n<|z.map .lit) else none
  | none=>none
 | .copy s x y=>match rd H (aC tm y) with
  | some ys=>if cY s ys=true/\0<s then match aC tm x with
   | .ms id tot off len=>match H[id]? with
    | some (.blk s' es)=>if s'=s/\es.length=tot/\ys.length<=len/\fl<=id then (if ys.length=0 then some (.lit<|.int .i64 0,H) else some (.lit<|.int .i64 ys.length,H.set id<|.blk s<|aU es off ys)) else none
    | _=>none
   | _=>none
   else none
  | none=>none
 | .clear s z x=>match aC tm x with
  | .lit (.slice none 0 0)=>some (.tup [],H)
  | .sl _ []=>some (.tup [],H)
  | .ms id tot off len=>match H[id]? with
   | some (.blk s' es)=>if s'=s/\es.length=tot/\off+len<=tot/\fl<=id/\0<s/\z.length=s then (if len=0 then some (.tup [],H) else some (.tup [],H.set id<|.blk s<|aU es off<|List.replicate len<|z.map .lit)) else none
   | _=>none
  | _=>none
 | .delete kt m k=>match lits<|aC tm k,aC tm m with
  | some kv,.mp id=>if fl<=id then match H[id]? with
   | some (.mp ents)=>match aK P<|Instr.checkKey ents.isEmpty 10000 kt kv,jL P kt kv ents with
    | some _,some (some i)=>some (.lit aW,H.set id<|.mp<|ents.eraseIdx i)
    | some _,some none=>some (.lit aW,H)
    | _,_=>none
   | _=>none
   else none
  | _,_=>none
 | .minmax mx xs=>match zG (xs.map<|aC tm) with
  | some vs=>match aK P (if mx then Builtin.max_ #[] 0 vs.toArray else Builtin.min_ #[] 0 vs.toArray) with
   | some r=>some (.lit r,H)
   | none=>none
  | none=>none
 | .mkFn vi caps=>some (.fn vi<|caps.map<|aC tm,H)
 | .call pu vi args=>kR cf fl pu vi (args.map<|aC tm) H
 | .callv pu x args=>match aC tm x with
  | .fn vi caps=>kR cf fl pu vi (args.map (aC tm)++caps) H
  | _=>none
 | .callF vi args=>cf H.length vi (args.map<|aC tm) H
 | .callT s vi args=>Kz s H<|cf 0 vi ((args.map<|aC tm).map<|eK H) []
 | .callB vi args=>match cf 0 vi ((args.map<|aC tm).map<|eK H) [] with
  | some (r,H')=>some (gS H' 0 r,H)
  | none=>none
 | .callS vi args=>match cf 0 vi ((args.map<|aC tm).map<|dS H 0) [] with
  | some (r,H')=>match b9 (gS H' 0 r) with
   | true=>some (gS H' 0 r,H)
   | false=>none
  | none=>none
 | .capS x=>match aC tm x with
  | .lit (.slice none 0 0)=>some (.lit<|.int .i64 0,H)
  | .sl true es=>some (.lit<|.int .i64 es.length,H)
  | _=>none
 | .extract x i=>match aC tm x with
  | .tup vs=>match vs[i]? with
   | some v=>some (v,H)
   | none=>none
  | _=>none
 | .rangeStr x=>match aC tm x with
  | .lit (.string s)=>some (.it H.length,H++[.raw<|.stringIter s 0])
  | _=>none
 | .nextStr x=>match aC tm x with
  | .it id=>if fl<=id then match H[id]? with
   | some (.raw<|.stringIter s pos)=>if pos<s.size then some (.tup [.lit<|.bool true,.lit<|.int .i64 pos,.lit<|.int .i32 (Utf8.decode s pos).1],H.set id<|.raw<|.stringIter s<|pos+(Utf8.decode s pos).2) else some (.tup [.lit<|.bool false],H)
   | _=>none
   else none
  | _=>none
 | .freeze x=>match aC tm x with
  | .ms id tot off len=>if fl<=id then match H[id]? with
   | some (.blk s es)=>if es.length=tot then some (.sl false<|((es.drop off).take len).map λe=>e.map vJ,H.set id<|.blk s<|es++[List.replicate s .undef]) else none
   | _=>none
   else none
  | .ptr id tot idx off=>if fl<=id then match H[id]? with
   | some (.blk s es)=>if es.length=tot then match es[idx]? with
    | some e=>some (.sptr<|(e.drop off).map vJ,H.set id<|.blk s<|es++[List.replicate s .undef])
    | none=>none
    else none
   | _=>none
   else none
  | v=>some (v,H)
 | .appendP s bytes x y=>match aG3 s bytes (aC tm x) (aC tm y) with
  | some v=>some (v,H)
  | none=>none
 | .slArr _ n x=>match aC tm x with
  | .ptr id tot idx off=>if fl<=id then match H[id]? with
   | some (.blk s es)=>if es.length=tot then match es[idx]? with
    | some e=>if off=0/\e.length=n/\0<n then some (.sl true<|e.map λc=>[vJ c],H.set id<|.blk s<|es++[List.replicate s .undef]) else none
    | none=>none
    else none
   | _=>none
   else none
  | _=>none
 | .tail2 x=>match aC tm x with
  | .tup vs=>match vs with
   | _::b=>match b with
    | _::rr=>some (qM rr,H)
    | []=>none
   | []=>none
  | _=>none
 | .arrPtr _ n x=>match aC tm x with
  | .sl _ es=>if n<=es.length/\0<n/\cY 1 es=true then some (.rptr (es.take n).flatten,H) else none
  | .vw es=>if n<=es.length/\0<n/\cY 1 es=true then some (.rptr (es.take n).flatten,H) else none
  | _=>none
 | .loadF n k x=>match cJ H (aC tm x) n with
  | some cs=>match cs[k]? with
   | some (.ms id tot off len)=>if fl<=id then match H[id]? with
    | some (.blk s es)=>if es.length=tot then some (.agg<|cs.set k<|.sl false<|((es.drop off).take len).map λe=>e.map vJ,H.set id<|.blk s<|es++[List.replicate s .undef]) else none
    | _=>none
    else none
   | some _=>some (.agg cs,H)
   | none=>none
  | none=>none
def eL(tm:List AV)(d:Option Nat)(v:AV): List AV:=
 match d with
 | some d=>tm.set d v
 | none=>tm
def cO[aB](tm:List AV)(g:Option<|Nat×Bool): Option Bool:=
 match g with
 | none=>some true
 | some (t,want)=>match aC tm (.tmp t) with
  | .lit (.bool b)=>some<|b==want
  | .lit _=>some false
  | _=>none
def bD[aB](o:aL)(st:St): Option St:=
 match cO st.tmps o.guard with
 | some true=>match aI P cf fl o.op st.tmps st.heap with
  | some (v,H)=>some ⟨eL st.tmps o.dst v,H⟩
  | none=>none
 | some false=>some ⟨eL st.tmps o.dst<|.lit aW,st.heap⟩
 | none=>none
end
def Ws: AV->Option Nat
 | .ptr id _ _ _=>some id
 | .ms id _ _ _=>some id
 | .mp id=>some id
 | _=>none
def eR: xP->Bool
 | .mov _=>true
 | .ptrK _=>true
 | .movN _=>true
 | .pick ..=>true
 | .build ..=>true
 | .buildSl pu ..=>pu
 | .appendP ..=>true
 | .load ..=>true
 | .nilCheck _=>true
 | .ibin ..=>true
 | .bin ..=>true
 | .un ..=>true
 | .conv ..=>true
 | .fieldAddr ..=>true
 | .field ..=>true
 | .idxAddr ..=>true
 | .idxArr ..=>true
 | .index ..=>true
 | .strIdx ..=>true
 | .slice ..=>true
 | .strSlice ..=>true
 | .lookup ..=>true
 | .lenS _=>true
 | .capS _=>true
 | .lenM _=>true
 | .lenStr ..=>true
 | .lenC _=>true
 | .minmax ..=>true
 | .mkFn ..=>true
 | .call pu ..=>pu
 | .callv pu ..=>pu
 | .tail2 _=>true
 | .extract ..=>true
 | .callS ..=>true
 | .callB ..=>true
 | .arrPtr ..=>true
 | _=>false
def bU[aB](op:xP)(tm:List AV): Option<|Option Nat:=
 match op with
 | .load _ _ x=>some<|Ws<|aC tm x
 | .idxAddr _ x _=>some<|Ws<|aC tm x
 | .slice _ x _ _ _=>some<|Ws<|aC tm x
 | .lookup _ _ m _ _=>some<|Ws<|aC tm m
 | .lenM x=>some<|Ws<|aC tm x
 | .call true _ args=>match fO (args.map<|aC tm) with
  | true=>some none
  | false=>none
 | .callS _ args=>match fO (args.map<|aC tm) with
  | true=>some none
  | false=>none
 | .callB _ args=>match args with
  | [x]=>match aC tm x with
   | .lit _=>some none
   | .sl _ _=>some none
   | .vw _=>some none
   | _=>none
  | _=>none
 | .callv true x args=>match aC tm x with
  | .fn _ caps=>match fO (args.map (aC tm)++caps) with
   | true=>some none
   | false=>none
  | _=>none
 | _=>none
def fQ[aB](op:xP)(tm:List AV)(n id:Nat): Bool:=
 match op with
 | .alloc _=>Nat.blt id n
 | .claim _=>Nat.blt id n
 | .allocC _ _=>Nat.blt id n
 | .box _=>Nat.blt id n
 | .boxC _ _=>Nat.blt id n
 | .buildC _ _ _=>Nat.blt id n
 | .buildSl _ _ _ _ _=>Nat.blt id n
 | .mkSlice _ _ _ _ _=>Nat.blt id n
 | .mkMap=>Nat.blt id n
 | .callF _ _=>Nat.blt id n
 | .callT _ _ _=>Nat.blt id n
 | .store _ x _=>match aC tm x with
  | .ptr i _ _ _=>!Nat.beq i id
  | _=>false
 | .append _ _ x _=>match aC tm x with
  | .ms i _ _ _=>!Nat.beq i id
  | _=>Nat.blt id n
 | .mapUpd _ m _ _=>match aC tm m with
  | .mp i=>!Nat.beq i id
  | _=>false
 | _=>false
def B8: Value->Value->Bool
 | .bool a,.bool b=>a==b
 | .int k a,.int k' b=>match decide (k=k') with
  | true=>decide (a=b)
  | false=>false
 | .string a,.string b=>decide<|a.data=b.data
 | .slice none 0 0,.slice none 0 0=>true
 | .pointer none,.pointer none=>true
 | .map none,.map none=>true
 | _,_=>false
def eqL{α:Type}(f:α->α->Bool): List α->List α->Bool
 | [],[]=>true
 | a::r,b::s=>match f a b with
  | true=>eqL f r s
  | false=>false
 | _,_=>false
def HX: Nat->AV->AV->Bool
 | 0,_,_=>false
 | d+1,x,y=>match x,y with
  | .undef,.undef=>true
  | .lit a,.lit b=>B8 a b
  | .ms i t o l,.ms j u p m=>Nat.beq i j&&Nat.beq t u&&Nat.beq o p&&Nat.beq l m
  | .ptr i t o l,.ptr j u p m=>Nat.beq i j&&Nat.beq t u&&Nat.beq o p&&Nat.beq l m
  | .sl f es,.sl g fs=>f==g&&eqL (eqL<|HX d) es fs
  | _,_=>false
def o5: Option cN->Option cN->Bool
 | some (.blk s es),some (.blk t fs)=>Nat.beq s t&&eqL (eqL<|HX 6) es fs
 | _,_=>false
def ZH: xP->Bool
 | .call _ _ _=>true
 | _=>false
def Ea(op:xP)(l:List St)(m id:Nat): Bool:=match ZH op with
 | true=>match l[m]? with
  | some s=>match l[m+1]? with
   | some t=>o5 s.heap[id]? t.heap[id]?
   | none=>false
  | none=>false
 | false=>false
def De[aB](ops:List aL)(l:List St)(k m:Nat): Bool:=
 match ops[k]? with
 | some ok=>match l[k]? with
  | some sk=>match cO sk.tmps ok.guard with
   | some false=>true
   | _=>match bU ok.op sk.tmps with
    | some none=>true
    | some (some id)=>match ops[m]? with
     | some om=>match l[m]? with
      | some sm=>match cO sm.tmps om.guard with
       | some false=>true
       | _=>match fQ om.op sm.tmps sm.heap.length id with
        | true=>true
        | false=>Ea om.op l m id
      | none=>false
     | none=>false
    | none=>false
  | none=>false
 | none=>false
def oV[aB](ops:List aL)(l:List St): List (Nat×Nat)->Bool
 | []=>true
 | (k,m)::r=>match De ops l k m with
  | true=>oV ops l r
  | false=>false
section
variable (P:Program)(cf:Nat->Nat->List AV->aM->Option (AV×aM))
def bE[aB](fl:Nat): List aL->St->Option St
 | [],st=>some st
 | o::r,st=>match bD P cf fl o st with
  | some st=>bE fl r st
  | none=>none
def cM[aB](fl:Nat): List aL->St->Option (List St)
 | [],st=>some [st]
 | o::r,st=>match bD P cf fl o st with
  | some st1=>match cM fl r st1 with
   | some l=>some (st::l)
   | none=>none
  | none=>none
def eX(ops:List aL)(m n:Nat): List aL:=match ops,m with
 | [],_=>[]
 | o::r,0=>⟨o.dst,.ptrK n,none⟩::r
 | o::r,m+1=>o::eX r m n
def XB(ops:List aL)(m:Nat): List Value:=match ops[m]? with
 | some o=>match o.op with
  | .alloc z=>z
  | _=>[]
 | none=>[]
def Fj[aB](n: Nat): Nat->List aL->List St->Bool
 | 0,_,_=>true
 | m+1,o::r,s::l=>match (match eR o.op with
   | true=>true
   | false=>match cO s.tmps o.guard with
    | some false=>true
    | _=>fQ o.op s.tmps s.heap.length n) with
  | true=>Fj n m r l
  | false=>false
 | _,_,_=>false
def eI[aB](fl:Nat)(ck:List<|Nat×Nat)(ops:List aL)(st:St): Option St:=match ck with
 | []=>bE P cf fl ops st
 | c::r=>match Nat.beq c.1 c.2 with
  | false=>match cM P cf fl ops st with
   | some l=>match oV ops l (c::r) with
    | true=>l.getLast?
    | false=>none
   | none=>none
  | true=>match cM P cf fl (eX ops c.1 st.heap.length) ⟨st.tmps,st.heap++[.blk (XB ops c.1).length [(XB ops c.1).map .lit]]⟩ with
   | some l=>match oV (eX ops c.1 st.heap.length) l r with
    | true=>match Fj st.heap.length c.1 (eX ops c.1 st.heap.length) l with
     | true=>l.getLast?
     | false=>none
    | false=>none
   | none=>none
def bS: List Bool->List AV->List AV
 | b::bs,v::vs=>(if b then v else .undef)::bS bs vs
 | [],vs=>vs.map λ_=>.undef
 | _,[]=>[]
def bT(n:Nat): cN->cN
 | .blk s es=>.blk s<|es.map λe=>e.map<|iE n
 | .mp ents=>.mp<|ents.map λe=>(e.1,yG n e.2)
 | .raw ob=>.raw ob
def Ff(live:Option<|List Bool)(tm:List AV): List AV:=match live with | some l=>bS l tm | none=>tm
def bX(live:Option<|List Bool)(tr:Bool)(fl n:Nat)(st:St): St:=
 if tr then⟨(Ff live st.tmps).map<|yF n,st.heap.take fl++((st.heap.take n).drop fl).map (bT n)⟩ else⟨Ff live st.tmps,st.heap⟩
def qJ(lx lr:List Bool)(tr:Bool)(fl n:Nat): Option (bP×St)->Option (bP×St)
 | some (x,st)=>match x with
  | .ret=>some (.ret,⟨bS lr st.tmps,st.heap⟩)
  | .normal=>some (.normal,bX (some lx) tr fl n st)
  | .exit i=>some (.exit i,bX (some lx) tr fl n st)
 | none=>none
def l7[aB](fl t:Nat)(st:St): Option St:=
 match aC st.tmps (.tmp t) with
 | .ms id tot off len=>if fl<=id then match st.heap[id]? with
  | some (.blk s es)=>if es.length=tot then some ⟨st.tmps.set t<|.ms st.heap.length tot off len,st.heap.set id (.blk s<|es++[List.replicate s .undef])++[.blk s es]⟩ else none
  | _=>none
  else none
 | _=>none
def Ox[aB](live:List Bool)(t fl n:Nat)(st:St): St:=
 match aC st.tmps (.tmp t) with
 | .ms id tot off len=>if n<=id then match st.heap[id]? with
  | some (.blk s es)=>⟨((bS live st.tmps).map<|yF n).set t<|.ms n tot off len,(st.heap.take fl++((st.heap.take n).drop fl).map (bT n))++[bT n<|.blk s es]⟩
  | _=>bX (some live) true fl n st
  else bX (some live) true fl n st
 | _=>bX (some live) true fl n st
def SM[aB](lx lr:List Bool)(t fl n:Nat): Option (bP×St)->Option (bP×St)
 | some (x,st)=>match x with
  | .ret=>some (.ret,⟨bS lr st.tmps,st.heap⟩)
  | .normal=>some (.normal,Ox lx t fl n st)
  | .exit i=>some (.exit i,Ox lx t fl n st)
 | none=>none
def Yk(H:aM): AV->Nat
 | .lit v=>match v with
  | .slice a l c=>match a with
   | none=>match l with
    | 0=>match c with
     | 0=>0
     | _=>3
    | _=>3
   | _=>3
  | _=>3
 | .sl _ es=>match es with
  | []=>2
  | _::_=>1
 | .vw es=>match es with
  | []=>2
  | _::_=>1
 | .ms id tot _ len=>match len with
  | 0=>3
  | _+1=>match H[id]? with
   | some (.blk _ es)=>match Nat.beq es.length tot with
    | true=>1
    | false=>3
   | _=>3
 | _=>3
def aA0: AV->Bool
 | .lit v=>match v with
  | .slice a l c=>match a with
   | none=>match l with
    | 0=>match c with
     | 0=>true
     | _=>false
    | _=>false
   | _=>false
  | _=>false
 | .sl _ es=>match es with
  | []=>true
  | _::_=>false
 | _=>false
def t9(x y:AV): AV:=match aA0 x with
 | true=>match aA0 y with
  | true=>.sl false []
  | false=>.undef
 | false=>.undef
def La: List AV->List AV->List AV
 | x::r,y::s=>t9 x y::La r s
 | _,_=>[]
def Ht: Option (bP×St)->Option (bP×St)
 | some (x,st)=>match x with
  | .normal=>none
  | x=>some (x,st)
 | none=>none
def TB(H:aM): Option (bP×St)->Option (bP×St)->Option (bP×St)
 | some (.ret,sa),some (.ret,sb)=>match Nat.beq sa.tmps.length sb.tmps.length with
  | true=>some (.ret,⟨La sa.tmps sb.tmps,H⟩)
  | false=>none
 | _,_=>none
def vX[aB](tm:List AV)(t d0 d1:Nat)(b:Bool): List AV:=(tm.set d0<|aC tm<|.tmp t).set d1<|.lit<|.bool b
def dN(head:St->St)(step:St->Option (bP×St)): Nat->St->Option (bP×St)
 | 0,_=>none
 | n+1,st=>match step (head st) with
  | some (.normal,st)=>dN head step n st
  | r=>r
def cH[aB](lf fl:Nat): bI->St->Option (bP×St)
 | .skip,st=>some (.normal,st)
 | .region _ ck ops,st=>match eI P cf fl ck ops st with
  | some st=>some (.normal,st)
  | none=>none
 | .seq a b,st=>match cH lf fl a st with
  | some (.normal,st)=>cH lf fl b st
  | r=>r
 | .cond c a b,st=>match aC st.tmps c with
  | .lit (.bool true)=>cH lf fl a st
  | .lit (.bool false)=>cH lf fl b st
  | _=>none
 | .block id c,st=>match cH lf fl c st with
  | some (.exit i,st)=>if i=id then some (.normal,st) else some (.exit i,st)
  | r=>r
 | .loop live tr c,st=>dN (bX live tr fl st.heap.length) (λst=>cH lf fl c st) lf st
 | .exit id,st=>some (.exit id,st)
 | .ret,st=>some (.ret,st)
 | .frz t c,st=>match aI P cf fl (.freeze<|.tmp t) st.tmps st.heap with
  | some (v,H)=>cH lf fl c ⟨st.tmps.set t v,H⟩
  | none=>none
 | .mask lx lr tr c,st=>qJ lx lr tr fl st.heap.length<|cH lf fl c st
 | .told li lx lr c,st=>qJ lx lr false fl st.heap.length<|cH lf fl c ⟨bS li st.tmps,st.heap⟩
 | .scope c,st=>cH lf fl c st
 | .nilIf t d0 d1 a b,st=>match (Nat.blt d0 st.tmps.length&&Nat.blt d1 st.tmps.length) with
  | true=>match Yk st.heap (aC st.tmps<|.tmp t) with
   | 0=>Ht<|cH lf fl a ⟨vX st.tmps t d0 d1 true,st.heap⟩
   | 1=>cH lf fl b ⟨vX st.tmps t d0 d1 false,st.heap⟩
   | 2=>match Nat.beq fl st.heap.length with
    | true=>TB st.heap (cH lf fl a ⟨vX st.tmps t d0 d1 true,st.heap⟩)<|cH lf fl b ⟨vX st.tmps t d0 d1 false,st.heap⟩
    | false=>none
   | _=>none
  | false=>none
 | .loopV live lx lr t c,st=>match l7 fl t st with
  | some st1=>SM lx lr t fl st.heap.length<|dN (Ox live t fl st.heap.length) (λst=>cH lf fl c st) lf st1
  | none=>none
 | .stop,_=>none
end
def sK[aB](st:St): Rg->Option AV
 | .tmp t=>some<|aC st.tmps<|.tmp t
 | .cell t n agg=>match cJ st.heap (aC st.tmps<|.tmp t) n with
  | some cs=>if agg then some (.agg cs) else match cs with
   | [c]=>some c
   | _=>none
  | none=>none
def eH: List AV->AV
 | [v]=>v
 | vs=>.tup vs
def dM[aB](st:St): List Rg->Option (List AV)
 | []=>some []
 | r::rs=>match sK st r with
  | some v=>match dM st rs with
   | some vs=>some (v::vs)
   | none=>none
  | none=>none
def Co[aB](cf:CF)(fl vi:Nat)(args:List AV)(H:aM): Option<|AV×aM:=
 match aB.prim vi with
 | some g=>g.run cf fl args H
 | none=>none
def getF[aB](T:List bK)(vi:Nat): Option bK:=
 match aB.prim vi with
 | some _=>none
 | none=>T[vi]?
def dK[aB](P:Program)(T:List bK): Nat->Nat->Nat->List AV->aM->Option (AV×aM)
 | 0,_,_,_,_=>none
 | n+1,fl,vi,args,H=>
  match aB.prim vi with
  | some g=>g.run (dK P T n) fl args H
  | none=>
  match T[vi]? with
  | none=>none
  | some F=>
   match cH P (dK P T n) n fl F.body ⟨args++List.replicate (F.nt-args.length) (.lit aW),H⟩ with
   | some (.normal,st)=>match dM st F.rets with
    | some vs=>some (eH vs,st.heap)
    | none=>none
   | some (.ret,st)=>match dM st F.rets with
    | some vs=>some (eH vs,st.heap)
    | none=>none
   | _=>none
structure bV where
 w:World
 X:Nat->Prop
 β:Nat->Option Nat
 H:aM
def mF(c:bV)(b:Nat): Prop:=¬c.X b/\∀id,c.β id≠some b
def bL(es:List<|List AV)(i j:Nat): Option AV:=(es[i]?).bind λe=>e[j]?
def shp(H:aM)(id:Nat): Option<|Nat×Nat:=
 match H[id]? with
 | some (.blk s es)=>some (s,es.length)
 | _=>none
def aFz: cN->Prop
 | .blk _ _=>False
 | _=>True
def vZ(H:aM)(id:Nat): Prop:=∃o,H[id]?=some o/\aFz o
def N3(es:Array MapEntry)(a:Nat): Prop:=(∀e∈es.toList,e.born<a)/\(es.toList.map (·.born)).Nodup
inductive RP(w:World)(I:Nat->Prop): AV->Value->Prop
 | undef (v:Value):RP w I .undef v
 | lit (v:Value):RP w I (.lit v) v
 | nil (f:Bool) (a:Option Addr) (cap:Nat):(f=true->cap=0)->RP w I (.sl f []) (.slice a 0 cap)
 | sl (f:Bool) (es:List (List AV)) (b off cap:Nat) (c:Array Value) (T:TypeId) (fz:Nat×Nat) (s:Nat) (vals:Nat->Nat->Value) :
  es≠[]->I b->w.heap[b]?=some (.cells c T fz)->(∀e∈es,e.length=s)->es.length<=cap->(f=true->cap=es.length)->
  (∀i j x,bL es i j=some x->c[off+(i*s+j)]?=some (vals i j)/\aY (vals i j)=true)->
  (∀i j x,bL es i j=some x->RP w I x (vals i j))->
  RP w I (.sl f es) (.slice (some ⟨b,off,none⟩) es.length cap)
 | sptr (cs:List AV) (b off:Nat) (cc:Array Value) (T:TypeId) (fz:Nat×Nat) (vals:Nat->Value) :
  I b->w.heap[b]?=some (.cells cc T fz)->
  (∀j x,cs[j]?=some x->cc[off+j]?=some (vals j)/\aY (vals j)=true)->
  (∀j x,cs[j]?=some x->RP w I x (vals j))->RP w I (.sptr cs) (.pointer (some ⟨b,off,none⟩))
 | rmp (ents:List (Value×AV)) (b:Nat) (es:Array MapEntry) (clk:Nat) (vals:Nat->MapEntry) :
  I b->w.heap[b]?=some (.map es clk)->es.size=ents.length->N3 es clk->
  (∀i k x,ents[i]?=some (k,x)->es[i]?=some (vals i)/\(vals i).key=k)->
  (∀i k x,ents[i]?=some (k,x)->RP w I x (vals i).val)->RP w I (.rmp ents) (.map (some b))
theorem RP.mono{w w':World}{I I':Nat->Prop}(h:∀b o,I b->w.heap[b]?=some o->I' b/\w'.heap[b]?=some o){x:AV}{v:Value}(B:RP w I x v): RP w' I' x v:=by
 induction B with
 | undef v=>exact .undef v
 | lit v=>exact .lit v
 | nil f a cap t=>exact .nil f a cap t
 | sl f es b off cap c T r s d q m i k n t p _ j=>
  let⟨g,e⟩:=h b _ m i;exact .sl f es b off cap c T r s d q g e k n t p j
 | sptr cs b off cc T r d m i p _ j=>
  let⟨g,e⟩:=h b _ m i;exact .sptr cs b off cc T r d g e p j
 | rmp l b es u d m i D A p _ j=>
  let⟨g,e⟩:=h b _ m i;exact .rmp l b es u d g e D A p j
theorem MS{w:World}{I:Nat->Prop}(v:Value): RP w I (sS v) v:=by
 unfold sS;split
 .split
  .split
   .split
    .exact .nil false none 0<|by simp
    .exact .lit _
   .exact .lit _
  .exact .lit _
 .exact .lit _
theorem MR[aB]{w:World}{I:Nat->Prop}{x:AV}{v:Value}(h:RP w I x v): RP w I (nrm x) v:=by
 cases h with
 | undef v=>exact .undef v
 | lit v=>exact MS v
 | nil f a cap z=>exact .nil false a cap<|by simp
 | sl f es b off cap c T n s d e g i j l o r u=>exact .sl false es b off cap c T n s d e g i j l (by simp) r u
 | sptr cs b off cc T n d e g i j=>exact .sptr cs b off cc T n d e g i j
 | rmp k b es m d e g i j l o=>exact .rmp k b es m d e g i j l o
def aBd(c:bV)(id tot off len:Nat)(a:Option Addr)(cap s:Nat): Prop:=
 off+len<=tot /\
 ((c.β id=none/\tot=0/\a=none/\cap=0) \/
  ∃b cs T a',c.β id=some b/\c.w.heap[b]?=some (.cells cs T (0,0))/\(off+cap)*s=cs.size/\a=some a' /\
   (cap≠0->a'=⟨b,off*s,none⟩))
def OT(c:bV)(b:Nat): Prop:=∀id,c.β id≠some b
inductive RV(FT:Nat->Option Nat)(c:bV): AV->Value->Prop
 | pure (x:AV) (v:Value):RP c.w (mF c) x v->RV FT c x v
 | ms (id tot off len:Nat) (a:Option Addr) (cap s n:Nat):shp c.H id=some (s,n)->tot<=n->len<=cap->
  (tot=n->aBd c id tot off len a cap s)->RV FT c (.ms id tot off len) (.slice a len cap)
 | ptr (id tot idx off:Nat) (a:Addr) (s n:Nat):shp c.H id=some (s,n)->tot<=n->
  (tot=n->∃b,c.β id=some b/\a=⟨b,idx*s+off,none⟩)->RV FT c (.ptr id tot idx off) (.pointer (some a))
 | rptr (cs:List AV) (b off:Nat) (cc:Array Value) (T:TypeId) (fz:Nat×Nat) (vals:Nat->Value) :
  OT c b->c.w.heap[b]?=some (.cells cc T fz)->
  (∀j x,cs[j]?=some x->cc[off+j]?=some (vals j)/\aY (vals j)=true)->
  (∀j x,cs[j]?=some x->RP c.w (mF c) x (vals j))->RV FT c (.rptr cs) (.pointer (some ⟨b,off,none⟩))
 | vnil (a:Option Addr) (cap:Nat):RV FT c (.vw []) (.slice a 0 cap)
 | vw (es:List (List AV)) (b off cap:Nat) (cc:Array Value) (T:TypeId) (fz:Nat×Nat) (s:Nat) (vals:Nat->Nat->Value) :
  es≠[]->OT c b->c.w.heap[b]?=some (.cells cc T fz)->(∀e∈es,e.length=s)->es.length<=cap->
  (∀i j x,bL es i j=some x->cc[off+(i*s+j)]?=some (vals i j)/\aY (vals i j)=true)->
  (∀i j x,bL es i j=some x->RP c.w (mF c) x (vals i j))->RV FT c (.vw es) (.slice (some ⟨b,off,none⟩) es.length cap)
 | mp (id b:Nat):vZ c.H id->c.β id=some b->RV FT c (.mp id) (.map (some b))
 | it (id b:Nat):vZ c.H id->c.β id=some b->RV FT c (.it id) (.pointer (some ⟨b,0,none⟩))
 | fn (vi f:Nat) (caps:List AV) (cv:Array Value) (vals:Nat->Value):FT vi=some f->cv.size=caps.length->
  (∀i x,caps[i]?=some x->cv[i]?=some (vals i))->(∀i x,caps[i]?=some x->RV FT c x (vals i))->
  RV FT c (.fn vi caps) (.func (.func f) #[] cv)
 | agg (cs:List AV) (cv:Array Value) (vals:Nat->Value):cv.size=cs.length->
  (∀i x,cs[i]?=some x->cv[i]?=some (vals i)/\aY (vals i)=true)->
  (∀i x,cs[i]?=some x->RV FT c x (vals i))->RV FT c (.agg cs) (.agg cv)
 | tup (cs:List AV) (cv:Array Value) (vals:Nat->Value):cv.size=cs.length->
  (∀i x,cs[i]?=some x->cv[i]?=some (vals i))->
  (∀i x,cs[i]?=some x->RV FT c x (vals i))->RV FT c (.tup cs) (.tuple cv)
structure bG(fl:Nat)(c c':bV): Prop where
 X:c'.X=c.X
 os:c'.w.os=c.w.os
 tape:c'.w.tape=c.w.tape
 output:c'.w.output=c.w.output
 drawn:c.w.drawn<=c'.w.drawn
 size:c.w.heap.size<=c'.w.heap.size
 len:c.H.length<=c'.H.length
 frame:∀k,k<c.w.heap.size->(∀id,c.β id≠some k)->c'.w.heap[k]?=c.w.heap[k]?
 img:∀id b,c'.β id=some b->c.w.heap.size<=b\/∃i,c.β i=some b
 blkS:∀id s n,shp c.H id=some (s,n)->∃n',shp c'.H id=some (s,n')/\n<=n' /\
  (n=n'->c'.β id=c.β id/\∀b cs T,c.β id=some b->c.w.heap[b]?=some (.cells cs T (0,0))->
   ∃cs',c'.w.heap[b]?=some (.cells cs' T (0,0))/\cs'.size=cs.size)
 mpS:∀id,vZ c.H id->vZ c'.H id/\c'.β id=c.β id
 floor:∀id,id<fl->c'.H[id]?=c.H[id]?/\c'.β id=c.β id/\∀b,c.β id=some b->c'.w.heap[b]?=c.w.heap[b]?
theorem bG.refl(fl:Nat)(c:bV): bG fl c c where
 X:=rfl;os:=rfl;tape:=rfl;output:=rfl;drawn:=Nat.le_refl _;size:=Nat.le_refl _;len:=Nat.le_refl _;frame:=λ_ _ _=>rfl;img:=λi _ h=>.inr ⟨i,h⟩;blkS:=λ_ _ n h=>⟨n,h,Nat.le_refl _,λ_=>⟨rfl,λ_ cs _ _ j=>⟨cs,j,rfl⟩⟩⟩;mpS:=λ_ h=>⟨h,rfl⟩;floor:=λ_ _=>⟨rfl,rfl,λ_ _=>rfl⟩
theorem bG.trans{fl:Nat}{a b c:bV}(h:bG fl a b)(k:bG fl b c): bG fl a c where
 X:=k.X.trans h.X;os:=k.os.trans h.os;tape:=k.tape.trans h.tape;output:=k.output.trans h.output;drawn:=Nat.le_trans h.drawn k.drawn;size:=Nat.le_trans h.size k.size;len:=Nat.le_trans h.len k.len;frame:=λi K L=>(k.frame i (Nat.lt_of_lt_of_le K h.size) (λid d=>by
  rcases h.img id i d with g | ⟨j,g⟩
  .omega
  .exact L j g)).trans<|h.frame i K L
 img:=λid x f=>by
  rcases k.img id x f with g | ⟨j,g⟩
  .exact .inl<|Nat.le_trans h.size g
  .exact h.img j x g
 blkS:=λid s n S=>by
  let⟨B,C,A,E⟩:=h.blkS id s n S;let⟨t,v,p,m⟩:=k.blkS id s B C;refine⟨t,v,Nat.le_trans A p,λe=>?_⟩;have V:n=B:=by omega
  have e2:B=t:=by omega
  let⟨o,I⟩:=E V;let⟨G,y⟩:=m e2;refine⟨G.trans o,λx cs T f z=>?_⟩;let⟨cs',r,l⟩:=I x cs T f z;let⟨u,q,H⟩:=y x cs' T (o.trans f) r;exact⟨u,q,H.trans l⟩
 mpS:=λid R=>by
  let⟨r,l⟩:=h.mpS id R;let⟨q,H⟩:=k.mpS id r;exact⟨q,H.trans l⟩
 floor:=λid d=>by
  let⟨r,l,q⟩:=h.floor id d;let⟨Y,Q,U⟩:=k.floor id d;exact⟨Y.trans r,Q.trans l,λx f=>(U x<|l.trans f).trans<|q x f⟩
theorem bG.mono{fl c:Nat}{a b:bV}(h:bG fl a b)(f:c<=fl): bG c a b:=
 { h with floor:=λid d=>h.floor id (Nat.lt_of_lt_of_le d f) }
theorem bG.imm{fl:Nat}{c c':bV}(h:bG fl c c'){b:Nat}{o:Obj}(e:mF c b)(d:c.w.heap[b]?=some o):
 mF c' b/\c'.w.heap[b]?=some o:=by
 have a:b<c.w.heap.size:=by
  rcases Nat.lt_or_ge b c.w.heap.size with h | h
  .exact h
  .rw[Array.getElem?_eq_none h] at d;cases d
 refine⟨⟨by rw[h.X];exact e.1,λid f=>?_⟩,by rw[h.frame b a e.2];exact d⟩;rcases h.img id b f with g | ⟨j,g⟩
 .omega
 .exact e.2 j g
theorem bG.vis{fl:Nat}{c c':bV}(h:bG fl c c'){b:Nat}{o:Obj}(f:OT c b)(e:c.w.heap[b]?=some o): OT c' b/\c'.w.heap[b]?=some o:=by
 have a:b<c.w.heap.size:=by
  rcases Nat.lt_or_ge b c.w.heap.size with h | h
  .exact h
  .rw[Array.getElem?_eq_none h] at e;cases e
 refine⟨λid d=>?_,by rw[h.frame b a f];exact e⟩;rcases h.img id b d with g | ⟨j,g⟩
 .omega
 .exact f j g
theorem mF.vis{c:bV}{b:Nat}(h:mF c b): OT c b:=h.2
theorem aBd.step{fl:Nat}{c c':bV}(h:bG fl c c'){id tot off len cap s:Nat}{a:Option Addr}(r:shp c.H id=some (s,tot))(i:shp c'.H id=some (s,tot))(f:aBd c id tot off len a cap s): aBd c' id tot off len a cap s:=by
 let⟨t,n,w,p⟩:=h.blkS id s tot r;have e:tot=t:=by rw[i] at n;simpa using n
 let⟨m,q⟩:=p e;let⟨u,f⟩:=f;refine⟨u,?_⟩;rcases f with⟨d,k,l,j⟩ | ⟨b,cs,T,a',d,k,l,j,v⟩
 .exact .inl ⟨m.trans d,k,l,j⟩
 .let⟨cs',o,g⟩:=q b cs T d k;exact .inr ⟨b,cs',T,a',m.trans d,o,by rw[g];exact l,j,v⟩
theorem RV.step[aB]{FT:Nat->Option Nat}{fl:Nat}{c c':bV}(h:bG fl c c'){x:AV}{v:Value}(N:RV FT c x v): RV FT c' x v:=by
 induction N with
 | pure x v z=>exact .pure x v<|z.mono λb o m g=>h.imm m g
 | ms id tot off len a cap s n k G S q=>
  let⟨F,p,r,J⟩:=h.blkS id s n k;refine .ms id tot off len a cap s F p (Nat.le_trans G r) S λe=>?_;have H:tot=n:=by omega
  subst H;exact (q rfl).step h k<|by rw[p,e]
 | ptr id tot C off a s n k G q=>
  let⟨F,p,r,J⟩:=h.blkS id s n k;refine .ptr id tot C off a s F p (Nat.le_trans G r) λe=>?_;have H:tot=n:=by omega
  let⟨b,g,Q⟩:=q H;exact⟨b,((J<|by omega).1).trans g,Q⟩
 | rptr cs b off cc T B d m g l z=>
  let⟨t,u⟩:=h.vis m g;exact .rptr cs b off cc T B d t u l λj x E=>(z j x E).mono λb o m g=>h.imm m g
 | vnil a cap=>exact .vnil a cap
 | vw es b off cap cc T B s d D m g y A l z=>
  let⟨t,u⟩:=h.vis m g;exact .vw es b off cap cc T B s d D t u y A l λi j x E=>(z i j x E).mono λb o m g=>h.imm m g
 | mp id b q g=>
  let⟨p,r⟩:=h.mpS id q;exact .mp id b p<|r.trans g
 | it id b q g=>
  let⟨p,r⟩:=h.mpS id q;exact .it id b p<|r.trans g
 | fn vi f caps cv d R k l _ w=>exact .fn vi f caps cv d R k l w
 | agg cs cv d k l _ w=>exact .agg cs cv d k l w
 | tup cs cv d k l _ w=>exact .tup cs cv d k l w
def tB[aB](c:bV): Prop:=∀g cs,aB.tab g=some cs->∃(cc:Array Value) (T:TypeId) (b:Nat×Nat) (a:Nat->Value),mF c g/\c.w.heap[g]?=some (.cells cc T b)/\aB.ok g cc /\
 (∀j x,cs[j]?=some x->cc[0+j]?=some (a j)/\aY (a j)=true)/\∀j x,cs[j]?=some x->RP c.w (mF c) x (a j)
theorem tB.step[aB]{fl:Nat}{c c':bV}(i:tB c)(h:bG fl c c'): tB c':=by
 intro g cs d;let⟨cc,T,m,a,r,q,k,n,t⟩:=i g cs d;let⟨f,e⟩:=h.imm r q;exact⟨cc,T,m,a,f,e,k,n,λj x p=>(t j x p).mono λb o s l=>h.imm s l⟩
theorem tB.rv[aB]{FT:Nat->Option Nat}{c:bV}(d:tB c){g:Nat}{cs:List AV}(h:aB.tab g=some cs): RV FT c (.rptr cs)<|.pointer<|some ⟨g,0,none⟩:=by
 let⟨cc,T,f,a,j,e,_,i,b⟩:=d g cs h;exact .rptr cs g 0 cc T f a j.vis e i b
def aE5(es:Array MapEntry)(a n:Nat): Prop:=es.size=n/\N3 es a
structure bJ[aB](FT:Nat->Option Nat)(c:bV): Prop where
 gl:tB c
 inj:∀(i j b:Nat),c.β i=some b->c.β j=some b->i=j
 dom:∀(id b:Nat),c.β id=some b->id<c.H.length
 nx:∀(id b:Nat),c.β id=some b->¬c.X b
 fresh:∀k:Nat,c.w.heap.size<=k->¬c.X k
 lens:∀(id s:Nat) (es:List (List AV)),c.H[id]?=some (.blk s es)->∀e∈es,e.length=s
 blk:∀(id s:Nat) (es:List (List AV)) (b:Nat),c.H[id]?=some (.blk s es)->c.β id=some b->∃cs T,c.w.heap[b]?=some (.cells cs T (0,0))/\es.length*s<=cs.size /\
  ∀i j x,bL es i j=some x->∃v,cs[i*s+j]?=some v/\aY v=true/\RV FT c x v
 map:∀(id:Nat) (ents:List (Value×AV)) (b:Nat),c.H[id]?=some (.mp ents)->c.β id=some b->∃(es:Array MapEntry) (clk:Nat),c.w.heap[b]?=some (.map es clk)/\aE5 es clk ents.length /\
  ∀(i:Nat) (k:Value) (x:AV),ents[i]?=some (k,x)->∃e,es[i]?=some e/\e.key=k/\RV FT c x e.val
 raw:∀(id:Nat) (ob:Obj) (b:Nat),c.H[id]?=some (.raw ob)->c.β id=some b->c.w.heap[b]?=some ob
def TR(FT:Nat->Option Nat)(c:bV)(tm:List AV)(tv:Array Value): Prop:=
 tm.length=tv.size/\∀(t:Nat) (x:AV),tm[t]?=some x->∃v,tv[t]?=some v/\RV FT c x v
theorem TR.step[aB]{FT:Nat->Option Nat}{fl:Nat}{c c':bV}(h:bG fl c c'){tm:List AV}{tv:Array Value}(a:TR FT c tm tv): TR FT c' tm tv:=
 ⟨a.1,λt x e=>let ⟨v,b,d⟩:=a.2 t x e;⟨v,b,d.step h⟩⟩
theorem RV.lit_inv{FT:Nat->Option Nat}{c:bV}{u v:Value}(h:RV FT c (.lit u) v): v=u:=by
 cases h with
 | pure _ _ b=>cases b;rfl
theorem RV.lit{FT:Nat->Option Nat}{c:bV}(u:Value): RV FT c (.lit u) u:=.pure _ _<|.lit u
theorem RV.undef{FT:Nat->Option Nat}{c:bV}(u:Value): RV FT c .undef u:=.pure _ _<|.undef u
section
variable {FT:Nat->Option Nat}
def upd(β:Nat->Option Nat)(id b:Nat): Nat->Option Nat:=λi=>if i=id then some b else β i
theorem dG(β:Nat->Option Nat)(id b:Nat): upd β id b id=some b:=by simp[upd]
theorem bN{β:Nat->Option Nat}{id b i:Nat}(h:i≠id): upd β id b i=β i:=by simp[upd,h]
structure sN(w w':World): Prop where
 heap:w'.heap=w.heap
 os:w'.os=w.os
 tape:w'.tape=w.tape
 output:w'.output=w.output
 drawn:w.drawn<=w'.drawn
theorem sN.refl(w:World): sN w w:=⟨rfl,rfl,rfl,rfl,Nat.le_refl _⟩
theorem pC{fl:Nat}{c:bV}{w':World}(h:sN c.w w'): bG fl c ⟨w',c.X,c.β,c.H⟩ where
 X:=rfl;os:=h.os;tape:=h.tape;output:=h.output;drawn:=h.drawn;size:=by simp[h.heap]
 len:=Nat.le_refl _;frame:=λk _ _=>by simp[h.heap]
 img:=λi _ d=>.inr ⟨i,d⟩;blkS:=λ_ _ n o=>⟨n,o,Nat.le_refl _,λ_=>⟨rfl,λ_ cs _ _ d=>⟨cs,by simpa [h.heap] using d,rfl⟩⟩⟩;mpS:=λ_ l=>⟨l,rfl⟩;floor:=λ_ _=>⟨rfl,rfl,λ_ _=>by simp[h.heap]⟩
theorem bJ.drawn[aB]{c:bV}{w':World}(a:bJ FT c)(h:sN c.w w'): bJ FT ⟨w',c.X,c.β,c.H⟩ where
 gl:=a.gl.step<|pC (fl:=0) h;inj:=a.inj;dom:=a.dom;nx:=a.nx;fresh:=λk A=>a.fresh k (by simpa [h.heap] using A);lens:=a.lens;blk:=λid s es b g f=>by
  let⟨cs,T,n,p,t⟩:=a.blk id s es b g f;exact⟨cs,T,by simpa [h.heap] using n,p,λi j x u=>let ⟨v,q,o,r⟩:=t i j x u;⟨v,q,o,r.step<|pC (fl:=0) h⟩⟩
 map:=λid d b g f=>by
  let⟨es,l,n,p,t⟩:=a.map id d b g f;exact⟨es,l,by simpa [h.heap] using n,p,λi k x u=>let ⟨e,q,o,r⟩:=t i k x u;⟨e,q,o,r.step<|pC (fl:=0) h⟩⟩
 raw:=λid ob b g f=>by simpa [h.heap] using a.raw id ob b g f
theorem Lp{H:aM}{o:cN}{id:Nat}{r:Nat×Nat}(h:shp H id=some r): shp (H++[o]) id=some r:=by
 have a:id<H.length:=by
  rcases Nat.lt_or_ge id H.length with b | b
  .grind
  .simp[shp,List.getElem?_eq_none b] at h
 simpa [shp,List.getElem?_append_left a] using h
theorem Bo{H:aM}{o:cN}{id:Nat}(h:vZ H id): vZ (H++[o]) id:=by
 let⟨a,he,c⟩:=h;have b:id<H.length:=by
  grind
 exact⟨a,by simpa [List.getElem?_append_left b] using he,c⟩
theorem Ec[aB]{fl:Nat}{c:bV}{w':World}{o:cN}{ob:Obj}(C:fl<=c.H.length)(j:w'.heap=c.w.heap.push ob)(v:w'.os=c.w.os)(y:w'.tape=c.w.tape)(B:w'.output=c.w.output)(h:∀id b,c.β id=some b->b<c.w.heap.size)(A:c.w.drawn<=w'.drawn:=by first | exact Nat.le_refl _ | exact Nat.le_succ _ | exact Nat.le_add_right _ _ | assumption):
 bG fl c ⟨w',c.X,upd c.β c.H.length c.w.heap.size,c.H++[o]⟩ where
 X:=rfl;os:=v;tape:=y;output:=B;drawn:=A;size:=by simp[j]
 len:=by simp
 frame:=λk E _=>by simp only[j,Array.getElem?_push];rw[if_neg<|by omega]
 img:=λid b d=>by
  by_cases e:id=c.H.length
  .subst e;simp only[dG] at d;cases d;exact .inl<|Nat.le_refl _
  .simp only[bN e] at d;exact .inr ⟨_,d⟩
 blkS:=λid s n r=>⟨n,Lp r,Nat.le_refl _,λ_=>by
  have a:id≠c.H.length:=by
   intro e;subst e;simp[shp] at r
  refine⟨bN a,λb cs T d m=>⟨cs,?_,rfl⟩⟩;have:=h id b d;simp only[j,Array.getElem?_push];rw[if_neg<|by omega];exact m⟩
 mpS:=λid q=>⟨Bo q,by
  have a:id≠c.H.length:=by
   intro e;subst e;let⟨_,he,_⟩:=q;simp at he
  exact bN a⟩
 floor:=λid x=>by
  have a:id≠c.H.length:=by omega
  refine⟨List.getElem?_append_left<|by omega,bN a,λb d=>?_⟩;grind
theorem bJ.lt[aB]{c:bV}(d:bJ FT c){id b:Nat}(h:c.β id=some b): b<c.w.heap.size:=by
 have g:=d.dom id b h;cases e:c.H[id]? with
 | none=>grind
 | some o=>
  cases o with
  | blk s es=>
   let⟨cs,T,f,_⟩:=d.blk id s es b e h;grind
  | mp a=>
   let⟨es,i,f,_⟩:=d.map id a b e h;grind
  | raw ob=>
   have f:=d.raw id ob b e h;grind
theorem Zm[aB]{c:bV}{w':World}{o:cN}{ob:Obj}(h:bJ FT c)(I:w'.heap=c.w.heap.push ob)(L:w'.os=c.w.os)(O:w'.tape=c.w.tape)(N:w'.output=c.w.output)(U:∀s es,o=.blk s es->∀e∈es,e.length=s)(R:∀s es,o=.blk s es->∃cs T,ob=.cells cs T (0,0)/\es.length*s<=cs.size /\
  ∀i j x,bL es i j=some x->∃v,cs[i*s+j]?=some v/\aY v=true/\RV FT c x v)(M:∀g,o=.mp g->g=[]/\∃n,ob=.map #[] n)(K:∀q,o=.raw q->ob=q)(V:c.w.drawn<=w'.drawn:=by first | exact Nat.le_refl _ | exact Nat.le_succ _ | exact Nat.le_add_right _ _ | assumption):
 bJ FT ⟨w',c.X,upd c.β c.H.length c.w.heap.size,c.H++[o]⟩:=by
 have p:=Ec (fl:=0) (o:=o) (Nat.zero_le _) I L O N λid b f=>h.lt f;have m:w'.heap[c.w.heap.size]?=some ob:=by simp[I]
 refine⟨h.gl.step p,?_,?_,?_,λk S=>h.fresh k<|by simp only[I,Array.size_push] at S;omega,?_,?_,?_,?_⟩
 .intro i j b B y;by_cases J:i=c.H.length
  .by_cases G:j=c.H.length
   .grind
   .subst J;simp only[dG] at B;simp only[bN G] at y;cases B;have:=h.lt y;omega
  .simp only[bN J] at B;by_cases G:j=c.H.length
   .subst G;simp only[dG] at y;cases y;have:=h.lt B;omega
   .simp only[bN G] at y;exact h.inj i j b B y
 .intro id b f;by_cases e:id=c.H.length
  .simp[e]
  .simp only[bN e] at f;have:=h.dom id b f;simp only[List.length_append,List.length_singleton];omega
 .intro id b f;by_cases e:id=c.H.length
  .subst e;simp only[dG] at f;cases f;exact h.fresh _<|Nat.le_refl _
  .simp only[bN e] at f;exact h.nx id b f
 .intro id s es d;simp only at d;rw[List.getElem?_append] at d;split at d
  .exact h.lens id s es d
  .grind
 .intro id s es b d f;simp only at d f |-;by_cases e:id=c.H.length
  .subst e;simp only[dG] at f;cases f;have C:o=.blk s es:=by simpa using d
   let⟨cs,T,t,r,D⟩:=R s es C;refine⟨cs,T,by rw[m,t],r,λi j x u=>?_⟩;let⟨v,E,z,F⟩:=D i j x u;exact⟨v,E,z,F.step p⟩
  .simp only[bN e] at f;have l:=h.dom id b f;rw[List.getElem?_append_left l] at d;let⟨cs,T,t,r,D⟩:=h.blk id s es b d f;have A:=h.lt f;refine⟨cs,T,?_,r,λi j x u=>?_⟩
   .grind
   .let⟨v,E,z,F⟩:=D i j x u;exact⟨v,E,z,F.step p⟩
 .intro id g b d f;simp only at d f |-;by_cases e:id=c.H.length
  .subst e;simp only[dG] at f;cases f;have C:o=.mp g:=by simpa using d
   let⟨t,n,r⟩:=M g C;subst t;exact⟨#[],n,by rw[m,r],⟨rfl,(λe he=>by cases he),by simp⟩,λi k x u=>by simp at u⟩
  .simp only[bN e] at f;have l:=h.dom id b f;rw[List.getElem?_append_left l] at d;let⟨es,n,t,r,D⟩:=h.map id g b d f;have A:=h.lt f;refine⟨es,n,?_,r,λi k x u=>?_⟩
   .grind
   .let⟨Q,E,z,F⟩:=D i k x u;exact⟨Q,E,z,F.step p⟩
 .intro id q b d f;simp only at d f |-;by_cases e:id=c.H.length
  .subst e;simp only[dG] at f;cases f;have C:o=.raw q:=by simpa using d
   rw[m,K q C]
  .simp only[bN e] at f;have l:=h.dom id b f;rw[List.getElem?_append_left l] at d;have t:=h.raw id q b d f;have A:=h.lt f;simp only[I,Array.getElem?_push];rw[if_neg<|by omega];exact t
theorem IM[aB]{fl:Nat}{c:bV}{w':World}{ob:Obj}(o:bJ FT c)(d:w'.heap=c.w.heap.push ob)(q:w'.os=c.w.os)(r:w'.tape=c.w.tape)(u:w'.output=c.w.output)(y:c.w.drawn<=w'.drawn:=by first | exact Nat.le_refl _ | exact Nat.le_succ _ | exact Nat.le_add_right _ _ | assumption):
 bG fl c ⟨w',c.X,c.β,c.H⟩ where
 X:=rfl;os:=q;tape:=r;output:=u;drawn:=y;size:=by simp[d]
 len:=Nat.le_refl _;frame:=λk A _=>by simp only[d,Array.getElem?_push];rw[if_neg<|by omega]
 img:=λi _ a=>.inr ⟨i,a⟩;blkS:=λid s n f=>⟨n,f,Nat.le_refl _,λ_=>⟨rfl,λb cs T a l=>⟨cs,by
  have:=o.lt a;simp only[d,Array.getElem?_push];rw[if_neg<|by omega];exact l,rfl⟩⟩⟩
 mpS:=λid v=>⟨v,rfl⟩;floor:=λid t=>⟨rfl,rfl,λb a=>by
  have:=o.lt a;simp only[d,Array.getElem?_push];rw[if_neg<|by omega]⟩
theorem R2[aB]{c:bV}{w':World}{ob:Obj}(a:bJ FT c)(p:w'.heap=c.w.heap.push ob)(y:w'.os=c.w.os)(z:w'.tape=c.w.tape)(B:w'.output=c.w.output)(C:c.w.drawn<=w'.drawn:=by first | exact Nat.le_refl _ | exact Nat.le_succ _ | exact Nat.le_add_right _ _ | assumption):
 bJ FT ⟨w',c.X,c.β,c.H⟩:=by
 have f:=IM (fl:=0) a p y z B;refine⟨a.gl.step f,a.inj,a.dom,a.nx,λk A=>a.fresh k<|by simp only[p,Array.size_push] at A;omega,a.lens,?_,?_,λid q b d g=>by
  have o:=a.raw id q b d g;have:=a.lt g;simp only[p,Array.getElem?_push];rw[if_neg<|by omega];exact o⟩
 .intro id s' es b d g;let⟨cs,T,o,n,t⟩:=a.blk id s' es b d g;refine⟨cs,T,?_,n,λi j x s=>let ⟨v,m,r,u⟩:=t i j x s;⟨v,m,r,u.step f⟩⟩;grind
 .intro id h b d g;let⟨es,l,o,n,t⟩:=a.map id h b d g;refine⟨es,l,?_,n,λi k x s=>let ⟨e,m,r,u⟩:=t i k x s;⟨e,m,r,u.step f⟩⟩;grind
theorem Ar[aB]{fl:Nat}{c:bV}{s:Nat}(m:fl<=c.H.length): bG fl c ⟨c.w,c.X,c.β,c.H++[.blk s []]⟩ where
 X:=rfl;os:=rfl;tape:=rfl;output:=rfl;drawn:=Nat.le_refl _;size:=Nat.le_refl _;len:=by simp
 frame:=λ_ _ _=>rfl;img:=λi _ l=>.inr ⟨i,l⟩;blkS:=λid s n r=>⟨n,Lp r,Nat.le_refl _,λ_=>⟨rfl,λb cs T _ e=>⟨cs,e,rfl⟩⟩⟩;mpS:=λid p=>⟨Bo p,rfl⟩;floor:=λid k=>⟨List.getElem?_append_left<|by omega,rfl,λ_ _=>rfl⟩
theorem Sb[aB]{c:bV}{s:Nat}(d:bJ FT c): bJ FT ⟨c.w,c.X,c.β,c.H++[.blk s []]⟩:=by
 have h:=Ar (c:=c) (s:=s)<|Nat.zero_le _;refine⟨d.gl.step h,d.inj,?_,d.nx,d.fresh,?_,?_,?_,λid q b a g=>by
  have f:=d.dom id b g;rw[List.getElem?_append_left f] at a;exact d.raw id q b a g⟩
 .intro id b g;have:=d.dom id b g;simp;omega
 .intro id s' es a;rw[List.getElem?_append] at a;split at a
  .exact d.lens id s' es a
  .grind
 .intro id s' es b a g;have f:=d.dom id b g;rw[List.getElem?_append_left f] at a;let⟨cs,T,o,y,r⟩:=d.blk id s' es b a g;exact⟨cs,T,o,y,λi j x t=>let ⟨v,n,p,u⟩:=r i j x t;⟨v,n,p,u.step h⟩⟩
 .intro id l b a g;have f:=d.dom id b g;rw[List.getElem?_append_left f] at a;let⟨es,m,o,y,r⟩:=d.map id l b a g;exact⟨es,m,o,y,λi k x t=>let ⟨e,n,p,u⟩:=r i k x t;⟨e,n,p,u.step h⟩⟩
theorem getElem?_set_ne'{α:Type}{l:List α}{i j:Nat}{a:α}(h:j≠i): (l.set i a)[j]?=l[j]?:=by grind
theorem getElem?_set_eq'{α:Type}{l:List α}{i:Nat}{a b:α}(h:l[i]?=some b): (l.set i a)[i]?=some a:=by grind
theorem Ho[aB]{H:aM}{id s s':Nat}{es es':List<|List AV}(h:H[id]?=some (.blk s es))(i:Nat):
 shp (H.set id<|.blk s' es') i=if i=id then some (s',es'.length) else shp H i:=by
 by_cases e:i=id
 .subst e;simp[shp,getElem?_set_eq' h]
 .simp[shp,getElem?_set_ne' e,e]
theorem qG[aB]{fl:Nat}{c:bV}{w':World}{id b s:Nat}{es es':List<|List AV}{cs cs':Array Value}{T:TypeId}(J:bJ FT c)(F:fl<=id)(l:c.H[id]?=some (.blk s es))(u:c.β id=some b)(z:c.w.heap[b]?=some (.cells cs T (0,0)))(v:es.length<=es'.length)(G:cs'.size=cs.size)(R:w'.heap[b]?=some (.cells cs' T (0,0)))(r:∀k,k≠b->w'.heap[k]?=c.w.heap[k]?)(C:w'.heap.size=c.w.heap.size)(B:w'.os=c.w.os)(M:w'.tape=c.w.tape)(L:w'.output=c.w.output)(I:c.w.drawn<=w'.drawn:=by first | exact Nat.le_refl _ | exact Nat.le_succ _ | exact Nat.le_add_right _ _ | assumption):
 bG fl c ⟨w',c.X,c.β,c.H.set id<|.blk s es'⟩ where
 X:=rfl;os:=B;tape:=M;output:=L;drawn:=I;size:=by simp[C]
 len:=by simp
 frame:=λk _ A=>r k λe=>A id (by rw[e];exact u);img:=λi _ h=>.inr ⟨i,h⟩;blkS:=λi s' n a=>by
  have D:=Ho (s':=s) (es':=es') l i;by_cases e:i=id
  .subst e;have N:s'=s/\n=es.length:=by
    simp only[shp,l,Option.some.injEq,Prod.mk.injEq] at a;exact⟨a.1.symm,a.2.symm⟩
   grind
  .grind
 mpS:=λi E=>⟨by
  let⟨f,he,g⟩:=E;have e:i≠id:=by intro e;subst e;rw[l] at he;cases he;exact g
  exact⟨f,by simpa [getElem?_set_ne' e] using he,g⟩,rfl⟩
 floor:=λi Q=>by
  have e:i≠id:=by omega
  exact⟨getElem?_set_ne' e,rfl,λb' m=>r b' λy=>e<|J.inj i id b (by rw[<-y];exact m) u⟩
theorem Az[aB]{c:bV}{w':World}{id b s:Nat}{es es':List<|List AV}{cs cs':Array Value}{T:TypeId}(l:bJ FT c)(D:c.H[id]?=some (.blk s es))(p:c.β id=some b)(K:c.w.heap[b]?=some (.cells cs T (0,0)))(z:es.length<=es'.length)(F:cs'.size=cs.size)(M:w'.heap[b]?=some (.cells cs' T (0,0)))(E:∀k,k≠b->w'.heap[k]?=c.w.heap[k]?)(N:w'.heap.size=c.w.heap.size)(R:w'.os=c.w.os)(V:w'.tape=c.w.tape)(Q:w'.output=c.w.output)(Z:∀e∈es',e.length=s)(C:es'.length*s<=cs'.size)(S:∀i j x,bL es' i j=some x->∃v,cs'[i*s+j]?=some v/\aY v=true/\RV FT c x v)(Y:c.w.drawn<=w'.drawn:=by first | exact Nat.le_refl _ | exact Nat.le_succ _ | exact Nat.le_add_right _ _ | assumption):
 bJ FT ⟨w',c.X,c.β,c.H.set id<|.blk s es'⟩:=by
 have n:=qG l (Nat.zero_le _) D p K z F M E N R V Q;refine⟨l.gl.step n,l.inj,?_,l.nx,λk W=>l.fresh k<|by simpa [N] using W,?_,?_,?_,λi q b' f g=>by
  have e:i≠id:=by intro e;subst e;rw[getElem?_set_eq' D] at f;cases f
  rw[getElem?_set_ne' e] at f;have u:=l.raw i q b' f g;rw[E b' λo=>e<|l.inj i id b (by rw[<-o];exact g) p];exact u⟩
 .intro i b' g;have:=l.dom i b' g;simpa using this
 .intro i s' m f;by_cases e:i=id
  .grind
  .rw[getElem?_set_ne' e] at f;exact l.lens i s' m f
 .intro i s' m b' f g;by_cases e:i=id
  .subst e;rw[getElem?_set_eq' D] at f;cases f;rw[p] at g;cases g;exact⟨cs',T,M,C,λa d x y=>let ⟨v,r,B,A⟩:=S a d x y;⟨v,r,B,A.step n⟩⟩
  .rw[getElem?_set_ne' e] at f;let⟨L,U,u,J,I⟩:=l.blk i s' m b' f g;refine⟨L,U,?_,J,λa d x y=>let ⟨v,r,B,A⟩:=I a d x y;⟨v,r,B,A.step n⟩⟩;rw[E b' λo=>e<|l.inj i id b (by rw[<-o];exact g) p];exact u
 .intro i t b' f g;have e:i≠id:=by intro e;subst e;rw[getElem?_set_eq' D] at f;cases f
  rw[getElem?_set_ne' e] at f;let⟨m,G,u,J,I⟩:=l.map i t b' f g;refine⟨m,G,?_,J,λa k x y=>let ⟨O,r,B,A⟩:=I a k x y;⟨O,r,B,A.step n⟩⟩;rw[E b' λo=>e<|l.inj i id b (by rw[<-o];exact g) p];exact u
theorem Rz[aB]{fl:Nat}{c:bV}{w':World}{id s:Nat}{es es':List<|List AV}{ob:Obj}(D:bJ FT c)(E:fl<=id)(u:c.H[id]?=some (.blk s es))(v:es.length<es'.length)(m:w'.heap=c.w.heap.push ob)(F:w'.os=c.w.os)(z:w'.tape=c.w.tape)(G:w'.output=c.w.output)(C:c.w.drawn<=w'.drawn:=by first | exact Nat.le_refl _ | exact Nat.le_succ _ | exact Nat.le_add_right _ _ | assumption):
 bG fl c ⟨w',c.X,upd c.β id c.w.heap.size,c.H.set id<|.blk s es'⟩ where
 X:=rfl;os:=F;tape:=z;output:=G;drawn:=C;size:=by simp[m]
 len:=by simp
 frame:=λk L _=>by simp only[m,Array.getElem?_push];rw[if_neg<|by omega]
 img:=λi b h=>by
  by_cases e:i=id
  .subst e;simp only[dG] at h;cases h;exact .inl<|Nat.le_refl _
  .simp only[bN e] at h;exact .inr ⟨_,h⟩
 blkS:=λi s' n d=>by
  have o:=Ho (s':=s) (es':=es') u i;by_cases e:i=id
  .subst e;have J:s'=s/\n=es.length:=by
    simp only[shp,u,Option.some.injEq,Prod.mk.injEq] at d;exact⟨d.1.symm,d.2.symm⟩
   grind
  .refine⟨n,by rw[o,if_neg e];exact d,Nat.le_refl _,λ_=>⟨bN e,λb' r N g A=>⟨r,?_,rfl⟩⟩⟩;grind
 mpS:=λi B=>by
  let⟨f,he,j⟩:=B;have e:i≠id:=by intro e;subst e;rw[u] at he;cases he;exact j
  exact⟨⟨f,by simpa [getElem?_set_ne' e] using he,j⟩,bN e⟩
 floor:=λi M=>by
  have e:i≠id:=by omega
  refine⟨getElem?_set_ne' e,bN e,λb' g=>?_⟩;have:=D.lt g;simp only[m,Array.getElem?_push];rw[if_neg<|by omega]
theorem QM[aB]{c:bV}{w':World}{id s:Nat}{es es':List<|List AV}{cs':Array Value}{T:TypeId}(l:bJ FT c)(F:c.H[id]?=some (.blk s es))(C:es.length<es'.length)(p:w'.heap=c.w.heap.push (.cells cs' T (0,0)))(S:w'.os=c.w.os)(Q:w'.tape=c.w.tape)(V:w'.output=c.w.output)(Y:∀e∈es',e.length=s)(u:es'.length*s<=cs'.size)(O:∀i j x,bL es' i j=some x->∃v,cs'[i*s+j]?=some v/\aY v=true/\RV FT c x v)(W:c.w.drawn<=w'.drawn:=by first | exact Nat.le_refl _ | exact Nat.le_succ _ | exact Nat.le_add_right _ _ | assumption):
 bJ FT ⟨w',c.X,upd c.β id c.w.heap.size,c.H.set id<|.blk s es'⟩:=by
 have n:=Rz (fl:=0) l (Nat.zero_le _) F C p S Q V;refine⟨l.gl.step n,?_,?_,?_,λk R=>l.fresh k<|by simp only[p,Array.size_push] at R;omega,?_,?_,?_,λi q b' g h=>by
  have e:i≠id:=by intro e;subst e;rw[getElem?_set_eq' F] at g;cases g
  rw[getElem?_set_ne' e] at g;simp only[bN e] at h;have y:=l.raw i q b' g h;have:=l.lt h;simp only[p,Array.getElem?_push];rw[if_neg<|by omega];exact y⟩
 .intro i j b B o;by_cases M:i=id
  .by_cases G:j=id
   .grind
   .subst M;simp only[dG] at B;simp only[bN G] at o;cases B;have:=l.lt o;omega
  .simp only[bN M] at B;by_cases G:j=id
   .subst G;simp only[dG] at o;cases o;have:=l.lt B;omega
   .simp only[bN G] at o;exact l.inj i j b B o
 .intro i b' h;by_cases e:i=id
  .grind
  .simp only[bN e] at h;have:=l.dom i b' h;simpa using this
 .intro i b E;by_cases e:i=id
  .subst e;simp only[dG] at E;cases E;exact l.fresh _<|Nat.le_refl _
  .simp only[bN e] at E;exact l.nx i b E
 .intro i s' m g;by_cases e:i=id
  .grind
  .rw[getElem?_set_ne' e] at g;exact l.lens i s' m g
 .intro i s' m b' g h;by_cases e:i=id
  .subst e;rw[getElem?_set_eq' F] at g;cases g;simp only[dG] at h;cases h;exact⟨cs',T,by simp[p],u,λa d x A=>let ⟨v,z,t,r⟩:=O a d x A;⟨v,z,t,r.step n⟩⟩
  .rw[getElem?_set_ne' e] at g;simp only[bN e] at h;let⟨I,U,y,J,L⟩:=l.blk i s' m b' g h;refine⟨I,U,?_,J,λa d x A=>let ⟨v,z,t,r⟩:=L a d x A;⟨v,z,t,r.step n⟩⟩;have:=l.lt h;simp only[p,Array.getElem?_push];rw[if_neg<|by omega];exact y
 .intro i D b' g h;have e:i≠id:=by intro e;subst e;rw[getElem?_set_eq' F] at g;cases g
  rw[getElem?_set_ne' e] at g;simp only[bN e] at h;let⟨m,K,y,J,L⟩:=l.map i D b' g h;refine⟨m,K,?_,J,λa k x A=>let ⟨N,z,t,r⟩:=L a k x A;⟨N,z,t,r.step n⟩⟩;have:=l.lt h;simp only[p,Array.getElem?_push];rw[if_neg<|by omega];exact y
theorem Eb[aB]{fl:Nat}{c:bV}{w':World}{id b:Nat}{f ents':List<|Value×AV}{ob:Obj}(u:bJ FT c)(A:fl<=id)(v:c.H[id]?=some (.mp f))(j:c.β id=some b)(t:w'.heap=c.w.heap.setIfInBounds b ob)(z:w'.os=c.w.os)(x:w'.tape=c.w.tape)(y:w'.output=c.w.output)(D:c.w.drawn<=w'.drawn:=by first | exact Nat.le_refl _ | exact Nat.le_succ _ | exact Nat.le_add_right _ _ | assumption):
 bG fl c ⟨w',c.X,c.β,c.H.set id<|.mp ents'⟩:=by
 have r:∀k,k≠b->w'.heap[k]?=c.w.heap[k]?:=λk q=>by
  rw[t,Array.getElem?_setIfInBounds_ne<|Ne.symm q]
 refine⟨rfl,z,x,y,D,by simp[t],by simp,λk _ q=>r k λe=>q id<|by rw[e];exact j,λi _ h=>.inr ⟨i,h⟩,?_,?_,?_⟩
 .intro i s n g;have e:i≠id:=by intro e;subst e;simp[shp,v] at g
  refine⟨n,by simpa [shp,getElem?_set_ne' e] using g,Nat.le_refl _,λ_=>⟨rfl,λb' p F a l=>⟨p,?_,rfl⟩⟩⟩;exact (r b' λm=>e<|u.inj i id b (by rw[<-m];exact a) j).trans l
 .intro i C;refine⟨?_,rfl⟩;by_cases e:i=id
  .subst e;exact⟨.mp ents',getElem?_set_eq' v,trivial⟩
  .let⟨B,he,o⟩:=C;exact⟨B,by simpa [getElem?_set_ne' e] using he,o⟩
 .intro i E;have e:i≠id:=by omega
  exact⟨getElem?_set_ne' e,rfl,λb' a=>r b' λm=>e<|u.inj i id b (by rw[<-m];exact a) j⟩
theorem BK[aB]{c:bV}{w':World}{id b:Nat}{r ents':List<|Value×AV}{es:Array MapEntry}{m:Nat}(h:bJ FT c)(y:c.H[id]?=some (.mp r))(o:c.β id=some b)(C:w'.heap=c.w.heap.setIfInBounds b (.map es m))(R:w'.os=c.w.os)(Q:w'.tape=c.w.tape)(M:w'.output=c.w.output)(L:aE5 es m ents'.length)(O:∀(i:Nat) (k:Value) (x:AV),ents'[i]?=some (k,x)->∃e,es[i]?=some e/\e.key=k/\RV FT c x e.val)(S:c.w.drawn<=w'.drawn:=by first | exact Nat.le_refl _ | exact Nat.le_succ _ | exact Nat.le_add_right _ _ | assumption):
 bJ FT ⟨w',c.X,c.β,c.H.set id<|.mp ents'⟩:=by
 have l:=Eb (ents':=ents') h (Nat.zero_le _) y o C R Q M;have J:∀k,k≠b->w'.heap[k]?=c.w.heap[k]?:=λk K=>by
  rw[C,Array.getElem?_setIfInBounds_ne<|Ne.symm K]
 have I:=h.lt o;refine⟨h.gl.step l,h.inj,?_,h.nx,λk K=>h.fresh k<|by simpa [C] using K,?_,?_,?_,λi q b' f g=>by
  have e:i≠id:=by intro e;subst e;rw[getElem?_set_eq' y] at f;cases f
  rw[getElem?_set_ne' e] at f;have z:=h.raw i q b' f g;rw[J b' λt=>e<|h.inj i id b (by rw[<-t];exact g) o];exact z⟩
 .intro i b' g;have:=h.dom i b' g;simpa using this
 .intro i s' j f;have e:i≠id:=by intro e;subst e;rw[getElem?_set_eq' y] at f;cases f
  rw[getElem?_set_ne' e] at f;exact h.lens i s' j f
 .intro i s' j b' f g;have e:i≠id:=by intro e;subst e;rw[getElem?_set_eq' y] at f;cases f
  rw[getElem?_set_ne' e] at f;let⟨G,N,z,E,F⟩:=h.blk i s' j b' f g;refine⟨G,N,?_,E,λa d x A=>let ⟨v,u,s,B⟩:=F a d x A;⟨v,u,s,B.step l⟩⟩;rw[J b' λt=>e<|h.inj i id b (by rw[<-t];exact g) o];exact z
 .intro i D b' f g;by_cases e:i=id
  .subst e;rw[getElem?_set_eq' y] at f;cases f;rw[o] at g;cases g;refine⟨es,m,by rw[C];simp[I],L,λa k x A=>let ⟨e,u,s,B⟩:=O a k x A;⟨e,u,s,B.step l⟩⟩
  .rw[getElem?_set_ne' e] at f;let⟨j,p,z,E,F⟩:=h.map i D b' f g;refine⟨j,p,?_,E,λa k x A=>let ⟨D,u,s,B⟩:=F a k x A;⟨D,u,s,B.step l⟩⟩;rw[J b' λt=>e<|h.inj i id b (by rw[<-t];exact g) o];exact z
theorem Wb[aB]{fl:Nat}{c:bV}{w':World}{id b:Nat}{q q':Obj}(v:bJ FT c)(A:fl<=id)(u:c.H[id]?=some (.raw q))(o:c.β id=some b)(t:w'.heap=c.w.heap.setIfInBounds b q')(D:w'.os=c.w.os)(x:w'.tape=c.w.tape)(C:w'.output=c.w.output)(y:c.w.drawn<=w'.drawn:=by first | exact Nat.le_refl _ | exact Nat.le_succ _ | exact Nat.le_add_right _ _ | assumption):
 bG fl c ⟨w',c.X,c.β,c.H.set id<|.raw q'⟩:=by
 have j:∀k,k≠b->w'.heap[k]?=c.w.heap[k]?:=λk r=>by
  rw[t,Array.getElem?_setIfInBounds_ne<|Ne.symm r]
 refine⟨rfl,D,x,C,y,by simp[t],by simp,λk _ r=>j k λe=>r id<|by rw[e];exact o,λi _ h=>.inr ⟨i,h⟩,?_,?_,?_⟩
 .intro i s n f;have e:i≠id:=by intro e;subst e;simp[shp,u] at f
  refine⟨n,by simpa [shp,getElem?_set_ne' e] using f,Nat.le_refl _,λ_=>⟨rfl,λb' m F a g=>⟨m,?_,rfl⟩⟩⟩;exact (j b' λl=>e<|v.inj i id b (by rw[<-l];exact a) o).trans g
 .intro i z;refine⟨?_,rfl⟩;by_cases e:i=id
  .subst e;exact⟨.raw q',getElem?_set_eq' u,trivial⟩
  .let⟨B,he,p⟩:=z;exact⟨B,by simpa [getElem?_set_ne' e] using he,p⟩
 .intro i E;have e:i≠id:=by omega
  exact⟨getElem?_set_ne' e,rfl,λb' a=>j b' λl=>e<|v.inj i id b (by rw[<-l];exact a) o⟩
theorem WH[aB]{c:bV}{w':World}{id b:Nat}{q q':Obj}(h:bJ FT c)(s:c.H[id]?=some (.raw q))(o:c.β id=some b)(y:w'.heap=c.w.heap.setIfInBounds b q')(J:w'.os=c.w.os)(M:w'.tape=c.w.tape)(K:w'.output=c.w.output)(O:c.w.drawn<=w'.drawn:=by first | exact Nat.le_refl _ | exact Nat.le_succ _ | exact Nat.le_add_right _ _ | assumption):
 bJ FT ⟨w',c.X,c.β,c.H.set id<|.raw q'⟩:=by
 have l:=Wb h (Nat.zero_le _) s o y J M K;have u:∀k,k≠b->w'.heap[k]?=c.w.heap[k]?:=λk E=>by
  rw[y,Array.getElem?_setIfInBounds_ne<|Ne.symm E]
 have I:=h.lt o;refine⟨h.gl.step l,h.inj,?_,h.nx,λk E=>h.fresh k<|by simpa [y] using E,?_,?_,?_,?_⟩
 .intro i b' g;have:=h.dom i b' g;simpa using this
 .intro i s' j f;have e:i≠id:=by intro e;subst e;rw[getElem?_set_eq' s] at f;cases f
  rw[getElem?_set_ne' e] at f;exact h.lens i s' j f
 .intro i s' j b' f g;have e:i≠id:=by intro e;subst e;rw[getElem?_set_eq' s] at f;cases f
  rw[getElem?_set_ne' e] at f;let⟨C,N,n,G,z⟩:=h.blk i s' j b' f g;refine⟨C,N,?_,G,λa d x F=>let ⟨v,D,A,t⟩:=z a d x F;⟨v,D,A,t.step l⟩⟩;rw[u b' λp=>e<|h.inj i id b (by rw[<-p];exact g) o];exact n
 .intro i B b' f g;have e:i≠id:=by intro e;subst e;rw[getElem?_set_eq' s] at f;cases f
  rw[getElem?_set_ne' e] at f;let⟨j,r,n,G,z⟩:=h.map i B b' f g;refine⟨j,r,?_,G,λa k x F=>let ⟨B,D,A,t⟩:=z a k x F;⟨B,D,A,t.step l⟩⟩;rw[u b' λp=>e<|h.inj i id b (by rw[<-p];exact g) o];exact n
 .intro i L b' f g;by_cases e:i=id
  .grind
  .rw[getElem?_set_ne' e] at f;have n:=h.raw i L b' f g;rw[u b' λp=>e<|h.inj i id b (by rw[<-p];exact g) o];exact n
end
def aG(T:List bK)(vi:Nat): Option Nat:=match T[vi]? with
 | some F=>match Nat.blt F.fid 1000000 with
  | true=>some F.fid
  | false=>none
 | none=>none
def veq: Value->Value->Bool
 | .bool a,.bool b=>a==b
 | .int k a,.int k' b=>decide (k=k')&&decide (a=b)
 | .string a,.string b=>decide<|a.data=b.data
 | .slice none 0 0,.slice none 0 0=>true
 | .pointer none,.pointer none=>true
 | .map none,.map none=>true
 | .nilFunc,.nilFunc=>true
 | .nilIface,.nilIface=>true
 | _,_=>false
theorem AY{a b:Value}(h:veq a b=true): a=b:=by
 unfold veq at h;split at h
 .simp_all
 .simp only[Bool.and_eq_true,decide_eq_true_eq] at h;rw[h.1,h.2]
 .rename_i x y;simp only[decide_eq_true_eq] at h;cases x;cases y;simp_all
 all_goals first | rfl | cases h
def BA: List Value->List Value->Bool
 | [],[]=>true
 | a::r,b::s=>veq a b&&BA r s
 | _,_=>false
theorem Zj[aB]: ∀{a b:List Value},BA a b=true->a=b
 | [],[],_=>rfl
 | a::r,b::s,h=>by
  simp only[BA,Bool.and_eq_true] at h;rw[AY h.1,Zj h.2]
 | [],_::_,h=>by cases h
 | _::_,[],h=>by cases h
theorem VV{a b:Value}(h:veq a b=true): aY a=true:=by
 unfold veq at h;split at h<;>first | rfl | cases h
theorem vO[aB]: ∀{a b:List Value},BA a b=true->∀v∈a,aY v=true
 | [],[],_,v,c=>by cases c
 | a::r,b::s,h,v,c=>by
  simp only[BA,Bool.and_eq_true] at h;rcases List.mem_cons.1 c with rfl | c
  .exact VV h.1
  .exact vO h.2 v c
 | [],_::_,h,_,_=>by cases h
 | _::_,[],h,_,_=>by cases h
section
variable (P:Program)(T:List bK)
def aN: aQ->Operand->Bool
 | .tmp t,.tmp u=>t==u
 | .lit v,.const u=>veq v u
 | .agg vs,.const (.agg us)=>BA vs us.toList
 | .fn vi,.func f=>aG T vi==some f
 | .glob g,.global g'=>g==g'
 | _,_=>false
def dP: List aQ->List Operand->Bool
 | [],[]=>true
 | a::r,b::s=>aN T a b&&dP r s
 | _,_=>false
def qW: Option aQ->Option Operand->Bool
 | none,none=>true
 | some a,some b=>aN T a b
 | _,_=>false
def jR(t:TypeId)(z:List Value): Bool:=
 match P.info? t with
 | some i=>match i.zero with
  | some v=>BA z v.cells.toList
  | none=>false
 | none=>false
def cT(t:TypeId)(n:Nat): Bool:=
 match P.info? t with
 | some i=>i.size==n
 | none=>false
def qE(t:TypeId)(n:Nat): Bool:=
 match P.info? t with
 | some i=>i.bytes==n
 | none=>false
def sL(t:TypeId)(b:Bool): Bool:=
 match P.underlying t with
 | some (.struct _)=>b
 | some (.array _ _)=>b
 | some _=>!b
 | none=>false
def vE(place:Nat->Option (Nat×Nat)): List (Nat×Nat×aQ)->List (Nat×Operand)->Bool
 | [],[]=>true
 | (o,s,x)::r,(i,y)::q=>place i==some (o,s)&&aN T x y&&vE place r q
 | _,_=>false
def Gu: List (Nat×aQ)->List (Nat×Operand)->Bool
 | [],[]=>true
 | (i,x)::r,(j,y)::q=>i==j&&aN T x y&&Gu r q
 | _,_=>false
def Bt(fs:Array Field)(i:Nat): Option<|Nat×Nat:=
 match fs[i]? with
 | some f=>match P.info? f.type with
  | some n=>some (f.offset,n.size)
  | none=>none
 | none=>none
def Qz(fs:List Field): Bool:=fs.all λf=>(P.info? f.type).isSome
def bZ(a:xP)(o:Op): Bool:=
 match a with
 | .mov x=>(match o with
  | .move y=>aN T x y
  | .assign y=>aN T x y
  | _=>false)
 | .movN x=>(match o with
  | .move y=>aN T x y
  | .assign y=>aN T x y
  | _=>false)
 | .rangeStr x=>(match o with
  | .range t y=>aN T x y&&(match P.underlying t with | some .string=>true | _=>false)
  | _=>false)
 | .nextStr x=>(match o with
  | .next y b=>aN T x y&&b
  | _=>false)
 | .freeze x=>(match o with
  | .move y=>aN T x y
  | .assign y=>aN T x y
  | _=>false)
 | .loadF n _ x=>(match o with
  | .load t y=>sL P t true&&cT P t n&&aN T x y
  | _=>false)
 | .slArr s n x=>(match o with
  | .slice t y none none none=>aN T x y&&s==1&&match P.underlying t with
   | some (.array m e)=>m==n&&cT P e 1
   | _=>false
  | _=>false)
 | .arrPtr s n x=>(match o with
  | .sliceToArrayPointer t y=>aN T x y&&s==1&&match P.underlying t with
   | some (.array m e)=>m==n&&cT P e 1
   | _=>false
  | _=>false)
 | .pick c a b=>(match o with
  | .pick c' a' b'=>aN T c c'&&aN T a a'&&aN T b b'
  | _=>false)
 | .alloc z=>(match o with
  | .alloc t=>jR P t z
  | _=>false)
 | .claim _=>(match o with
  | .move (.const<|.slice none 0 0)=>true
  | .assign (.const<|.slice none 0 0)=>true
  | _=>false)
 | .allocC z cl=>(match o with
  | .alloc t=>jR P t z&&cl.all λc=>match z[c.1]? with | some (.slice none 0 0)=>true | _=>false
  | _=>false)
 | .ptrK _=>false
 | .box x=>(match o with
  | .box _ y=>aN T x y
  | _=>false)
 | .boxC x _=>(match o with
  | .box _ y=>aN T x y
  | _=>false)
 | .build z ps=>(match o with
  | .build t qs=>jR P t z&&match P.underlying t with
   | some (.struct fs)=>Qz P fs.toList&&vE T (Bt P fs) ps qs.toList
   | some (.array _ e)=>match P.info? e with
    | some i=>vE T (λk=>some (k*i.size,i.size)) ps qs.toList
    | none=>false
   | _=>false
  | _=>false)
 | .buildC z ps _=>(match o with
  | .build t qs=>jR P t z&&match P.underlying t with
   | some (.struct fs)=>Qz P fs.toList&&vE T (Bt P fs) ps qs.toList
   | some (.array _ e)=>match P.info? e with
    | some i=>vE T (λk=>some (k*i.size,i.size)) ps qs.toList
    | none=>false
   | _=>false
  | _=>false)
 | .buildSl _ s n z ps=>(match o with
  | .buildSlice t m qs=>n==m&&match P.underlying t with
   | some (.slice e)=>cT P e s&&jR P e z&&z.length==s&&decide (0<s)&&decide (n*s<=2 ^ 24)&&Gu T ps qs.toList
   | _=>false
  | _=>false)
 | .load agg n x=>(match o with
  | .load t y=>sL P t agg&&cT P t n&&(agg||n==1)&&aN T x y
  | _=>false)
 | .store n x v=>(match o with
  | .store t y u=>cT P t n&&aN T x y&&aN T v u
  | _=>false)
 | .nilCheck x=>(match o with
  | .nilCheck y=>aN T x y
  | _=>false)
 | .ibin op x y=>(match o with
  | .binOp op' _ x' y' _=>decide (op=op')&&aN T x x'&&aN T y y'
  | _=>false)
 | .bin op t x y=>(match o with
  | .binOp op' t' x' y' _=>decide (op=op')&&t==t'&&aN T x x'&&aN T y y'
  | _=>false)
 | .un op x=>(match o with
  | .unOp op' _ y=>decide (op=op')&&aN T x y
  | _=>false)
 | .conv s d x=>(match o with
  | .convert s' d' y=>s==s'&&d==d'&&aN T x y
  | _=>false)
 | .fieldAddr off x=>(match o with
  | .fieldAddr t y f=>aN T x y&&match P.underlying t with
   | some (.struct fs)=>match fs[f]? with
    | some fd=>fd.offset==off&&match P.info? fd.type with
     | some i=>i.size != 0
     | none=>false
    | none=>false
   | _=>false
  | _=>false)
 | .field agg n off x=>(match o with
  | .field t y f=>aN T x y&&match P.underlying t with
   | some (.struct fs)=>match fs[f]? with
    | some fd=>fd.offset==off&&sL P fd.type agg&&cT P fd.type n&&(agg||n==1)
    | none=>false
   | _=>false
  | _=>false)
 | .idxAddr s x i=>(match o with
  | .indexAddr t y j=>aN T x y&&aN T i j&&match P.underlying t with
   | some (.slice e)=>cT P e s
   | _=>false
  | _=>false)
 | .idxArr s n x i=>(match o with
  | .indexAddr t y j=>aN T x y&&aN T i j&&match P.underlying t with
   | some (.array m e)=>m==n&&cT P e s
   | _=>false
  | _=>false)
 | .index agg s n x i=>(match o with
  | .index t y j=>aN T x y&&aN T i j&&match P.underlying t with
   | some (.array m e)=>m==n&&cT P e s&&sL P e agg&&(agg||s==1)
   | _=>false
  | _=>false)
 | .strIdx t x i=>(match o with
  | .index t' y j=>t==t'&&aN T x y&&aN T i j
  | _=>false)
 | .slice s x lo hi mx=>(match o with
  | .slice t y lo' hi' mx'=>aN T x y&&qW T lo lo'&&qW T hi hi'&&qW T mx mx'&&match P.underlying t with
   | some (.slice e)=>cT P e s
   | _=>false
  | _=>false)
 | .strSlice t x lo hi=>(match o with
  | .slice t' y lo' hi' none=>t==t'&&aN T x y&&qW T lo lo'&&qW T hi hi'&&match P.underlying t with
   | some .string=>true
   | _=>false
  | _=>false)
 | .mkSlice s z bytes l c=>(match o with
  | .makeSlice t l' c'=>aN T l l'&&aN T c c'&&match P.underlying t with
   | some (.slice e)=>cT P e s&&qE P e bytes&&jR P e z&&decide (0<s)
   | _=>false
  | _=>false)
 | .mkMap=>(match o with
  | .makeMap _ none=>true
  | _=>false)
 | .lookup kt z m k ok=>(match o with
  | .lookup t m' k' ok'=>ok==ok'&&aN T m m'&&aN T k k'&&match P.underlying t with
   | some (.map kt' e)=>kt==kt'&&match P.info? e with
    | some i=>match i.zero,z with
     | some v,.lit u=>veq u v
     | some (.agg us),.agg vs=>BA vs us.toList
     | _,_=>false
    | none=>false
   | _=>false
  | _=>false)
 | .mapUpd kt m k v=>(match o with
  | .mapUpdate t m' k' v'=>aN T m m'&&aN T k k'&&aN T v v'&&match P.underlying t with
   | some (.map kt' _)=>kt==kt'
   | _=>false
  | .insert t m' k' v'=>aN T m m'&&aN T k k'&&aN T v v'&&match P.underlying t with
   | some (.map kt' _)=>kt==kt'
   | _=>false
  | _=>false)
 | .lenS x=>(match o with
  | .call ⟨.builtin .len,as,ts⟩=>match as.toList,ts.toList with
   | [y],[t]=>aN T x y&&match P.underlying t with
    | some (.slice _)=>true
    | _=>false
   | _,_=>false
  | _=>false)
 | .lenM x=>(match o with
  | .call ⟨.builtin .len,as,ts⟩=>match as.toList,ts.toList with
   | [y],[t]=>aN T x y&&match P.underlying t with
    | some (.map _ _)=>true
    | _=>false
   | _,_=>false
  | _=>false)
 | .lenStr t x=>(match o with
  | .call ⟨.builtin .len,as,ts⟩=>match as.toList,ts.toList with
   | [y],[t']=>t==t'&&aN T x y
   | _,_=>false
  | _=>false)
 | .lenC n=>(match o with
  | .call ⟨.builtin .len,as,ts⟩=>match as.toList,ts.toList with
   | [_],[t]=>match P.underlying t with
    | some (.array m _)=>m==n
    | _=>false
   | _,_=>false
  | _=>false)
 | .append s bytes x y=>(match o with
  | .call ⟨.builtin .append,as,ts⟩=>match as.toList,ts.toList with
   | [x',y'],[t,t']=>aN T x x'&&aN T y y'&&(match P.underlying t' with | some (.slice _)=>true | some .string=>true | _=>false)&&match P.underlying t with
    | some (.slice e)=>cT P e s&&qE P e bytes&&match P.info? e with
     | some i=>match i.zero with | some z=>z.cells.size==s | none=>false
     | none=>false
    | _=>false
   | _,_=>false
  | _=>false)
 | .appendP s bytes x y=>(match o with
  | .call ⟨.builtin .append,as,ts⟩=>match as.toList,ts.toList with
   | [x',y'],[t,t']=>aN T x x'&&aN T y y'&&(match P.underlying t' with | some (.slice _)=>true | _=>false)&&match P.underlying t with
    | some (.slice e)=>cT P e s&&qE P e bytes&&match P.info? e with
     | some i=>match i.zero with | some z=>z.cells.size==s | none=>false
     | none=>false
    | _=>false
   | _,_=>false
  | _=>false)
 | .appendZ s bytes z x y=>(match o with
  | .call ⟨.builtin .append,as,ts⟩=>match as.toList,ts.toList with
   | [x',y'],[t,t']=>aN T x x'&&aN T y y'&&(match P.underlying t' with | some (.int _)=>true | _=>false)&&match P.underlying t with
    | some (.slice e)=>cT P e s&&qE P e bytes&&jR P e z
    | _=>false
   | _,_=>false
  | _=>false)
 | .copy s x y=>(match o with
  | .call ⟨.builtin .copy,as,ts⟩=>match as.toList,ts.toList with
   | [x',y'],[t,_]=>aN T x x'&&aN T y y'&&match P.underlying t with
    | some (.slice e)=>cT P e s
    | _=>false
   | _,_=>false
  | _=>false)
 | .clear s z x=>(match o with
  | .call ⟨.builtin .clear,as,ts⟩=>match as.toList,ts.toList with
   | [x'],[t]=>aN T x x'&&match P.underlying t with
    | some (.slice e)=>cT P e s&&jR P e z
    | _=>false
   | _,_=>false
  | _=>false)
 | .delete kt m k=>(match o with
  | .call ⟨.builtin .delete,as,ts⟩=>match as.toList,ts.toList with
   | [m',k'],t::_=>aN T m m'&&aN T k k'&&match P.underlying t with
    | some (.map kt' _)=>kt==kt'
    | _=>false
   | _,_=>false
  | _=>false)
 | .minmax mx xs=>(match o with
  | .call ⟨.builtin .max,as,_⟩=>mx&&dP T xs as.toList
  | .call ⟨.builtin .min,as,_⟩=>!mx&&dP T xs as.toList
  | _=>false)
 | .mkFn vi caps=>(match o with
  | .makeFunc (.func f) first cs=>first.isEmpty&&aG T vi==some f&&dP T caps cs.toList
  | _=>false)
 | .call _ vi args=>(match o with
  | .call ⟨.value<|.func f,as,_⟩=>aG T vi==some f&&dP T args as.toList
  | _=>false)
 | .callS vi args=>(match o with
  | .call ⟨.value<|.func f,as,_⟩=>aG T vi==some f&&dP T args as.toList
  | _=>false)
 | .callF vi args=>(match o with
  | .call ⟨.value<|.func f,as,_⟩=>aG T vi==some f&&dP T args as.toList
  | _=>false)
 | .callT _ vi args=>(match o with
  | .call ⟨.value<|.func f,as,_⟩=>aG T vi==some f&&dP T args as.toList
  | _=>false)
 | .callB vi args=>(match o with
  | .call ⟨.value<|.func f,as,_⟩=>aG T vi==some f&&dP T args as.toList
  | _=>false)
 | .capS x=>(match o with
  | .call ⟨.builtin .cap,as,ts⟩=>match as.toList,ts.toList with
   | [y],[t]=>aN T x y&&match P.underlying t with
    | some (.slice _)=>true
    | _=>false
   | _,_=>false
  | _=>false)
 | .callv _ x args=>(match o with
  | .call ⟨.value y,as,_⟩=>aN T x y&&dP T args as.toList
  | _=>false)
 | .tail2 _=>false
 | .extract x i=>(match o with
  | .extract y j=>i==j&&aN T x y
  | _=>false)
def Gt(ops:Array Oper): Option (Nat×Bool)->Option (Nat×Bool)->Bool
 | none,none=>true
 | some (t,b),some (j,b')=>b==b'&&match ops[j]? with
  | some o=>o.dst==some t
  | none=>false
 | _,_=>false
def dO(ops:Array Oper)(a:aL)(o:Oper): Bool:=a.dst==o.dst&&Gt ops a.guard o.guard&&bZ P T a.op o.op
def dF(ops:Array Oper): List aL->List Oper->Bool
 | [],[]=>true
 | a::r,o::s=>dO P T ops a o&&dF ops r s
 | _,_=>false
def Ol(acc:List Nat): List Nat->Nat
 | []=>0
 | d::r=>(2 ^ d ||| acc.getD d 0) ||| Ol acc r
def kQ(ops:List Oper): Nat->List Nat->List Nat
 | 0,acc=>acc
 | n+1,acc=>
  let ds:=match ops[acc.length]? with
   | some o=>(o.after.toList.filter λe=>Region.binds .any e&&decide (e.on<acc.length)).map λ(e:Edge)=>e.on
   | none=>[]
  kQ ops n<|acc++[Ol acc ds]
def XD: Option aQ->List aQ
 | some x=>[x]
 | none=>[]
def fP: xP->List aQ
 | .mov x=>[x]
 | .movN x=>[x]
 | .freeze x=>[x]
 | .loadF _ _ x=>[x]
 | .appendP _ _ x y=>[x,y]
 | .rangeStr x=>[x]
 | .nextStr x=>[x]
 | .pick x y z=>[x,y,z]
 | .alloc _=>[]
 | .claim _=>[]
 | .allocC _ _=>[]
 | .box x=>[x]
 | .ptrK _=>[]
 | .boxC x _=>[x]
 | .build _ ps=>ps.map λp=>p.2.2
 | .buildC _ ps _=>ps.map λp=>p.2.2
 | .buildSl _ _ _ _ ps=>ps.map λp=>p.2
 | .load _ _ x=>[x]
 | .store _ x y=>[x,y]
 | .nilCheck x=>[x]
 | .ibin _ x y=>[x,y]
 | .bin _ _ x y=>[x,y]
 | .un _ x=>[x]
 | .conv _ _ x=>[x]
 | .fieldAddr _ x=>[x]
 | .field _ _ _ x=>[x]
 | .idxAddr _ x y=>[x,y]
 | .idxArr _ _ x y=>[x,y]
 | .index _ _ _ x y=>[x,y]
 | .strIdx _ x y=>[x,y]
 | .slice _ x lo hi mx=>x::(XD lo++(XD hi++XD mx))
 | .strSlice _ x lo hi=>x::(XD lo++XD hi)
 | .mkSlice _ _ _ x y=>[x,y]
 | .mkMap=>[]
 | .lookup _ z m k _=>[z,m,k]
 | .mapUpd _ m k v=>[m,k,v]
 | .lenS x=>[x]
 | .lenM x=>[x]
 | .lenStr _ x=>[x]
 | .lenC _=>[]
 | .append _ _ x y=>[x,y]
 | .appendZ _ _ _ x y=>[x,y]
 | .copy _ x y=>[x,y]
 | .clear _ _ x=>[x]
 | .delete _ x y=>[x,y]
 | .minmax _ xs=>xs
 | .mkFn _ xs=>xs
 | .call _ _ xs=>xs
 | .callv _ x xs=>x::xs
 | .callF _ xs=>xs
 | .callT _ _ xs=>xs
 | .callB _ xs=>xs
 | .callS _ xs=>xs
 | .capS x=>[x]
 | .slArr _ _ x=>[x]
 | .arrPtr _ _ x=>[x]
 | .tail2 x=>[x]
 | .extract x _=>[x]
def Dz: List aQ->List Nat
 | []=>[]
 | .tmp t::r=>t::Dz r
 | _::r=>Dz r
def oA(o:aL): List Nat:=
 match o.guard with
 | some (t,_)=>t::Dz (fP o.op)
 | none=>Dz<|fP o.op
def xI(x y:aL): Bool:=
 match x.dst with
 | some d=>(oA y).contains d||y.dst==some d
 | none=>false
def tG: xP->Bool
 | .mov _=>true
 | .ptrK _=>true
 | .movN _=>true
 | .pick ..=>true
 | .build ..=>true
 | .buildSl pu ..=>pu
 | .appendP ..=>true
 | .nilCheck _=>true
 | .ibin ..=>true
 | .bin ..=>true
 | .un ..=>true
 | .conv ..=>true
 | .fieldAddr ..=>true
 | .field ..=>true
 | .idxArr ..=>true
 | .index ..=>true
 | .strIdx ..=>true
 | .strSlice ..=>true
 | .lenS _=>true
 | .capS _=>true
 | .lenStr ..=>true
 | .lenC _=>true
 | .minmax ..=>true
 | .mkFn ..=>true
 | .extract ..=>true
 | .arrPtr ..=>true
 | _=>false
def Ng(ops:List Oper): Nat->Bool
 | 0=>true
 | n+1=>Ng ops n&&match ops[n]? with
  | some o=>o.after.toList.all λe=>!Region.binds .any e||decide (e.on<n)
  | none=>true
def bC(aops:List aL)(k:Nat): Bool:=match aops[k]? with
 | some o=>eR o.op
 | none=>true
def fK(aops:List aL)(k:Nat): Bool:=match aops[k]? with
 | some o=>tG o.op
 | none=>true
def dW(aops:List aL)(k:Nat): Bool:=match aops[k]? with
 | some o=>match o.dst with
  | some _=>match o.op with
   | .alloc _=>match o.guard with
    | none=>true
    | some _=>false
   | _=>false
  | none=>false
 | none=>false
def mG(aops:List aL)(an:List Nat): Nat->Nat->Nat
 | 0,_=>aops.length
 | n+1,i=>if dW aops i&&dW aops (i+1)&&!(an.getD (i+1) 0).testBit i then i else mG aops an n (i+1)
def sR(sw:Nat)(aops:List aL)(an:List Nat): Nat->Bool
 | 0=>true
 | j+1=>sR sw aops an j&&((List.range j).all λi=>
  (an.getD j 0).testBit i||((bC aops i||bC aops j||(i==sw&&j==sw+1&&dW aops i&&dW aops j))&&match aops[i]?,aops[j]? with
   | some x,some y=>!xI x y&&!xI y x
   | _,_=>false))
def LS(aops:List aL)(ck:List<|Nat×Nat)(an:List Nat)(n:Nat): Bool:=
 (List.range n).all λk=>fK aops k||!bC aops k||((List.range n).all λm=>bC aops m||(an.getD k 0).testBit m||(an.getD m 0).testBit k||ck.contains (k,m))
def NI(P:Program)(d0 d1:Nat)(o:Oper): Bool:=
 (match o.dst with | some d=>d==d1 | none=>false)&&o.guard.isNone&&match o.op with
  | .binOp .eql t (.tmp x) (.const<|.slice none 0 0) _=>x==d0&&match P.underlying t with
   | some (.slice _)=>true
   | _=>false
  | _=>false
def Zk(sw:Nat)(aops:List aL)(ck:List<|Nat×Nat)(an:List Nat)(n:Nat): Bool:=
 !decide (sw+1<n)||(List.range n).all λk=>!bC aops k||fK aops k||(an.getD k 0).testBit sw||ck.contains (k,sw)
def Xs(aops:List aL)(ck:List<|Nat×Nat)(an:List Nat)(n:Nat): Bool:=sR (mG aops an n 0) aops an n&&(LS aops ck an n&&Zk (mG aops an n 0) aops ck an n)
def vM: List (Nat×Nat)->Option Nat
 | []=>none
 | c::_=>match Nat.beq c.1 c.2 with
  | true=>some c.1
  | false=>none
def ckK(ck:List<|Nat×Nat): List (Nat×Nat):=match vM ck with
 | some _=>ck.tail
 | none=>ck
def aCs(ck:List<|Nat×Nat)(aops:List aL)(n:Nat): List aL:=match vM ck with
 | some m=>eX aops m n
 | none=>aops
def aHD(ck:List<|Nat×Nat)(aops:List aL)(an:List Nat)(n:Nat): Bool:=match vM ck with
 | some m=>dW aops m&&(List.range n).all λk=>Nat.ble k m||bC aops k||(an.getD k 0).testBit m
 | none=>true
def eW: bI->Code->Bool
 | .skip,.skip=>true
 | .skip,.label _=>true
 | .region draw ck aops,.region _ ops draw'=>draw==draw'&&dF P T ops aops ops.toList&&(match draw with
  | false=>(vM ck).isNone
  | true=>Xs (aCs ck aops 0) (ckK ck) (kQ ops.toList ops.size []) ops.size&&aHD ck aops (kQ ops.toList ops.size []) ops.size&&Ng ops.toList ops.size)
 | .seq a b,.seq a' b'=>eW a a'&&eW b b'
 | .cond c a b,.cond c' a' b'=>aN T c c'&&eW a a'&&eW b b'
 | .block i c,.block j d=>i==j&&eW c d
 | .loop _ _ c,.loop d=>eW c d
 | .exit i,.exit j=>i==j
 | .ret,.ret=>true
 | .frz _ c,d=>eW c d
 | .mask _ _ _ c,d=>eW c d
 | .told _ _ _ c,d=>eW c d
 | .loopV _ _ _ _ c,.loop d=>eW c d
 | .scope c,.scope d=>eW c d
 | .nilIf t d0 d1 a b,.seq (.seq (.region _ ops draw)<|.cond (.tmp e) a' .skip) b'=>!draw&&e==d1&&(match ops.toList with
  | [o1,o2]=>dO P T ops ⟨some d0,.mov<|.tmp t,none⟩ o1&&NI P d0 d1 o2
  | _=>false)&&eW a a'&&eW b b'
 | .stop,_=>true
 | _,_=>false
def qA: List Rg->List ResultVar->Bool
 | [],[]=>true
 | .tmp t::r,.tmp u::s=>t==u&&qA r s
 | .cell t n agg::r,.cell u ty::s=>t==u&&cT P ty n&&sL P ty agg&&(agg||n==1)&&qA r s
 | _,_=>false
def OO(F:bK): Bool:=
 match P.funcs[F.fid]? with
 | some fn=>match fn.body with
  | some c=>eW P T F.body c&&fn.ntmps==F.nt&&qA P F.rets fn.results.toList&&!(fn.name== "runtime.NumGoroutine")
  | none=>false
 | none=>false
end
theorem cD[aB]{α:Type}{P:Program}{a:α}{w:World}: ∀{s:Sem α},aK P s=some a->s.run P w=.ok a w
 | .pure _,h=>by simp only[aK,Option.some.injEq] at h;subst h;rfl
 | .program k,h=>by
  simp only[Sem.run];exact cD h
 | .mark _ k,h=>by
  simp only[Sem.run];exact cD h
 | .load ..,h=>by simp[aK] at h
 | .store ..,h=>by simp[aK] at h
 | .new ..,h=>by simp[aK] at h
 | .shape ..,h=>by simp[aK] at h
 | .freeze ..,h=>by simp[aK] at h
 | .frozen ..,h=>by simp[aK] at h
 | .getObj ..,h=>by simp[aK] at h
 | .setObj ..,h=>by simp[aK] at h
 | .choose ..,h=>by simp[aK] at h
 | .sys ..,h=>by simp[aK] at h
 | .halt ..,h=>by simp[aK] at h
section inv
variable {FT:Nat->Option Nat}{c:bV}{v:Value}
theorem RV.ptr_inv{id tot d off:Nat}(h:RV FT c (.ptr id tot d off) v): ∃a s n,v=.pointer (some a)/\shp c.H id=some (s,n)/\tot<=n /\
 (tot=n->∃b,c.β id=some b/\a=⟨b,d*s+off,none⟩):=by
 cases h with
 | pure _ _ g=>cases g
 | ptr _ _ _ _ a s n k i j=>grind
theorem RV.ms_inv{id tot off len:Nat}(h:RV FT c (.ms id tot off len) v): ∃a cap s n,v=.slice a len cap/\shp c.H id=some (s,n)/\tot<=n/\len<=cap /\
 (tot=n->aBd c id tot off len a cap s):=by
 cases h with
 | pure _ _ d=>cases d
 | ms _ _ _ _ a cap s n j i g e=>grind
theorem RV.sl_inv{f:Bool}{es:List<|List AV}(h:RV FT c (.sl f es) v): RP c.w (mF c) (.sl f es) v:=by
 cases h with
 | pure _ _ b=>grind
theorem RV.rptr_inv{cs:List AV}(h:RV FT c (.rptr cs) v): ∃(b off:Nat) (cc:Array Value) (T:TypeId) (d:Nat×Nat) (a:Nat->Value),v=.pointer (some ⟨b,off,none⟩)/\OT c b /\
 c.w.heap[b]?=some (.cells cc T d)/\(∀(j:Nat) (x:AV),cs[j]?=some x->cc[off+j]?=some (a j)/\aY (a j)=true) /\
 (∀(j:Nat) (x:AV),cs[j]?=some x->RP c.w (mF c) x (a j)):=by
 cases h with
 | pure _ _ g=>cases g
 | rptr _ b off cc T d a l k i m=>exact⟨b,off,cc,T,d,a,rfl,l,k,i,m⟩
theorem RV.sptr_inv{cs:List AV}(h:RV FT c (.sptr cs) v): RV FT c (.rptr cs) v:=by
 cases h with
 | pure _ _ k=>cases k with
  | sptr _ b off cc T i a l g j f=>exact .rptr _ b off cc T i a l.vis g j f
theorem RV.vw_inv{es:List<|List AV}(h:RV FT c (.vw es) v): ∃ad cap,v=.slice ad es.length cap/\es.length<=cap/\(es=[]\/∃(b off:Nat) (cc:Array Value) (T:TypeId) (f:Nat×Nat) (s:Nat) (d:Nat->Nat->Value),
 ad=some ⟨b,off,none⟩/\OT c b/\c.w.heap[b]?=some (.cells cc T f)/\(∀e∈es,e.length=s)/\(∀i j x,bL es i j=some x->cc[off+(i*s+j)]?=some (d i j)/\aY (d i j)=true) /\
 ∀i j x,bL es i j=some x->RP c.w (mF c) x (d i j)):=by
 cases h with
 | pure _ _ r=>cases r
 | vnil a cap=>simp_all
 | vw _ b off cap cc T f s d t n m p q l o=>exact⟨_,cap,rfl,q,.inr ⟨b,off,cc,T,f,s,d,rfl,n,m,p,l,o⟩⟩
theorem RV.rmp_inv{d:List<|Value×AV}(h:RV FT c (.rmp d) v): ∃(b:Nat) (es:Array MapEntry) (e:Nat) (a:Nat->MapEntry),v=.map (some b)/\c.w.heap[b]?=some (.map es e)/\es.size=d.length /\
 (∀(i:Nat) (k:Value) (x:AV),d[i]?=some (k,x)->es[i]?=some (a i)/\(a i).key=k)/\(∀(i:Nat) (k:Value) (x:AV),d[i]?=some (k,x)->RP c.w (mF c) x (a i).val):=by
 cases h with
 | pure _ _ j=>cases j with
  | rmp _ b es e a p o m q g n=>exact⟨b,es,e,a,rfl,o,m,g,n⟩
theorem RV.mp_inv{id:Nat}(h:RV FT c (.mp id) v): ∃b,v=.map (some b)/\vZ c.H id/\c.β id=some b:=by
 cases h with
 | pure _ _ d=>cases d
 | mp _ b g e=>grind
theorem RV.it_inv{id:Nat}(h:RV FT c (.it id) v): ∃b,v=.pointer (some ⟨b,0,none⟩)/\vZ c.H id/\c.β id=some b:=by
 cases h with
 | pure _ _ d=>cases d
 | it _ b f g=>grind
theorem RV.fn_inv{vi:Nat}{caps:List AV}(h:RV FT c (.fn vi caps) v): ∃(f:Nat) (cv:Array Value) (a:Nat->Value),v=.func (.func f) #[] cv/\FT vi=some f/\cv.size=caps.length /\
 (∀(i:Nat) (x:AV),caps[i]?=some x->cv[i]?=some (a i))/\(∀(i:Nat) (x:AV),caps[i]?=some x->RV FT c x (a i)):=by
 cases h with
 | pure _ _ e=>cases e
 | fn _ f _ cv a k j g d=>exact⟨f,cv,a,rfl,k,j,g,d⟩
theorem RV.agg_inv{cs:List AV}(h:RV FT c (.agg cs) v): ∃(cv:Array Value) (a:Nat->Value),v=.agg cv/\cv.size=cs.length /\
 (∀(i:Nat) (x:AV),cs[i]?=some x->cv[i]?=some (a i)/\aY (a i)=true)/\(∀(i:Nat) (x:AV),cs[i]?=some x->RV FT c x (a i)):=by
 cases h with
 | pure _ _ e=>cases e
 | agg _ cv a d g f=>exact⟨cv,a,rfl,d,g,f⟩
theorem RV.tup_inv{cs:List AV}(h:RV FT c (.tup cs) v): ∃(cv:Array Value) (a:Nat->Value),v=.tuple cv/\cv.size=cs.length /\
 (∀(i:Nat) (x:AV),cs[i]?=some x->cv[i]?=some (a i))/\(∀(i:Nat) (x:AV),cs[i]?=some x->RV FT c x (a i)):=by
 cases h with
 | pure _ _ e=>cases e
 | tup _ cv a j g f=>exact⟨cv,a,rfl,j,g,f⟩
end inv
theorem Lq(v:Value): aY v=v.oneCell':=by cases v<;>rfl
section
variable {P:Program}{T:List bK}{c:bV}{fl:Nat}{o:Oper}{a:Act}{tm:List AV}
def cZ[aB](P:Program)(FT:Nat->Option Nat)(c:bV)(fl:Nat)(o:Oper)(a:Act)(v:AV)(H':aM): Prop:=
 ∀(K:Act->World->Prop) (Q:Exit->Act->World->Prop),
  (∀cv c',c'.H=H'->bG fl c c'->bJ FT c'->RV FT c' v cv->K (a.put o.dst cv) c'.w)->o.wp P a c.w K Q
theorem eC[aB]{FT:Nat->Option Nat}{v:AV}{H':aM}{cv:Value}{w':World}{β':Nat->Option Nat}(g:(execOp a.eval o).run P c.w=.ok (.value cv) w')(b:bG fl c ⟨w',c.X,β',H'⟩)(f:bJ FT ⟨w',c.X,β',H'⟩)(d:RV FT ⟨w',c.X,β',H'⟩ v cv): cZ P FT c fl o a v H':=by
 intro K Q e;unfold Oper.wp;rw[g];exact e cv ⟨w',c.X,β',H'⟩ rfl b f d
theorem o0[aB]{FT:Nat->Option Nat}{H':aM}{w':World}{β':Nat->Option Nat}(d:(execOp a.eval o).run P c.w=.ok .skip w')(b:bG fl c ⟨w',c.X,β',H'⟩)(f:bJ FT ⟨w',c.X,β',H'⟩):
 cZ P FT c fl o a (.lit aW) H':=by
 intro K Q e;unfold Oper.wp;rw[d];exact e aW ⟨w',c.X,β',H'⟩ rfl b f<|RV.lit _
theorem bM[aB]{FT:Nat->Option Nat}{v:AV}{cv:Value}(d:bJ FT c)(e:(execOp a.eval o).run P c.w=.ok (.value cv) c.w)(b:RV FT c v cv): cZ P FT c fl o a v c.H:=
 eC e (bG.refl _ _) d b
theorem Wh[aB]{FT:Nat->Option Nat}(vs:List Value)(d:∀v∈vs,aY v=true): RV FT c (.agg<|vs.map .lit)<|.agg vs.toArray:=by
 refine .agg _ _ (λi=>vs.getD i aW) (by simp) ?_ ?_
 .grind
 .intro i x a;simp at a;obtain⟨v,b,rfl⟩:=a;simp only[List.getD_eq_getElem?_getD,b,Option.getD_some];exact RV.lit v
theorem aR[aB](k:bJ (aG T) c)(b:TR (aG T) c tm a.tmps){x:aQ}{y:Operand}(h:aN T x y=true): RV (aG T) c (aC tm x)<|a.eval y:=by
 unfold aN at h;split at h
 .rename_i t u;have:=by simpa using h
  subst this;simp only[aC,Act.eval];cases j:tm[t]? with
  | none=>
   have g:a.tmps.size<=t:=by rw[<-b.1];simpa using j
   have:=Array.getElem?_eq_none g;simp only[Array.getD_eq_getD_getElem?,this];exact RV.lit _
  | some x=>
   let⟨v,o,n⟩:=b.2 t x j;simpa [o] using n
 .rw[AY h];exact RV.lit _
 .rename_i vs m;have e:=Zj h;have:m=vs.toArray:=by rw[e]
  rw[this];exact Wh vs<|vO h
 .rename_i vi f;refine .fn vi f [] #[] (λ_=>aW) (by simpa using h) rfl ?_ ?_<;>intro i x l<;>simp at l
 .rename_i p;have:=by simpa using h
  subst this;simp only[aC];split
  .rename_i d;exact k.gl.rv d
  .exact RV.undef _
 .cases h
theorem XI[aB](e:bJ (aG T) c)(d:TR (aG T) c tm a.tmps){x:aQ}{y:Operand}(b:o.op=.move y\/o.op=.assign y)(h:aN T x y=true):
 cZ P (aG T) c fl o a (aC tm x) c.H:=by
 refine bM e ?_<|aR e d h;rcases b with b | b<;>simp[execOp,b]
theorem aCt[aB](d:bJ (aG T) c)(b:TR (aG T) c tm a.tmps){x y z:aQ}{g f e:Operand}{t:Bool}(i:o.op=.pick g f e)(n:aN T x g=true)(m:aN T y f=true)(l:aN T z e=true)(j:aC tm x=.lit (.bool t)):
 cZ P (aG T) c fl o a (if t then aC tm y else aC tm z) c.H:=by
 have h:=aR d b n;rw[j] at h;have k:=h.lit_inv;refine bM (cv:=if t then a.eval f else a.eval e) d ?_ ?_
 .simp[execOp,i,k,asBool]
 .cases t
  .exact aR d b l
  .exact aR d b m
theorem gA[aB]{t:TypeId}{z:List Value}(h:jR P t z=true): ∃i v,P.info? t=some i/\i.zero=some v/\v.cells=z.toArray/\∀u∈z,aY u=true:=by
 unfold jR at h;split at h
 .rename_i i b;split at h
  .rename_i v a;refine⟨i,v,b,a,?_,vO h⟩;have:=Zj h;rw[this]
  .cases h
 .cases h
theorem Vq{cs:List AV}{i j:Nat}{x:AV}(h:bL [cs] i j=some x): i=0/\cs[j]?=some x:=by
 unfold bL at h;grind
theorem WN{FT:Nat->Option Nat}{w':World}{X:Nat->Prop}{s:Nat}{cs:List AV}{L:List cN}(β:Nat->Option Nat)(H:aM)(b:Nat)(a:β H.length=some b): RV FT ⟨w',X,β,H++.blk s [cs]::L⟩ (.ptr H.length 1 0 0)<|.pointer<|some ⟨b,0,none⟩:=
 .ptr H.length 1 0 0 _ s 1 (by simp[shp]) (Nat.le_refl _) λ_=>⟨b,a,by simp⟩
theorem Hs[aB](f:bJ (aG T) c)(d:fl<=c.H.length){cs:List AV}{cv:Array Value}{t:TypeId}(m:(execOp a.eval o).run P c.w=.ok (.value<|.pointer<|some ⟨c.w.heap.size,0,none⟩) (c.w.alloc<|.cells cv t (0,0)))(e:cv.size=cs.length)(l:∀(j:Nat) (x:AV),cs[j]?=some x->∃v,cv[j]?=some v/\aY v=true/\RV (aG T) c x v):
 cZ P (aG T) c fl o a (.ptr c.H.length 1 0 0)<|c.H++[.blk cs.length [cs]]:=by
 refine eC m (Ec d rfl rfl rfl rfl λid b k=>f.lt k)
  (Zm f rfl rfl rfl rfl ?_ ?_ ?_ λ_ h=>by cases h)<|WN _ _ _<|dG _ _ _
 .grind
 .intro s es he;cases he;refine⟨cv,t,rfl,by simp[e],?_⟩;intro i j x g;obtain⟨rfl,n⟩:=Vq g;grind
 .grind
theorem W8[aB](n:bJ (aG T) c)(e:fl<=c.H.length){z:List Value}{t:TypeId}(p:o.op=.alloc t)(h:jR P t z=true):
 cZ P (aG T) c fl o a (.ptr c.H.length 1 0 0)<|c.H++[.blk z.length [z.map .lit]]:=by
 let⟨i,v,l,k,m,d⟩:=gA h;have:=Hs (P:=P) (o:=o) (a:=a) (cs:=z.map AV.lit) (cv:=z.toArray) (t:=t) n e ?_ (by simp) ?_
 .grind
 .simp[execOp,p,Instr.alloc,zeroValue,typeInfo,l,k,newVar,newRow,m]
 .intro j x g;simp at g;obtain⟨u,f,rfl⟩:=g;exact⟨u,by simpa using f,d u<|List.mem_of_getElem? f,RV.lit u⟩
theorem vF[aB]{FT:Nat->Option Nat}{x:AV}{v:Value}{cs:List AV}(E:RV FT c x v)(h:cellsOf x=some cs):
 v.cells.size=cs.length/\∀(j:Nat) (y:AV),cs[j]?=some y->∃u,v.cells[j]?=some u/\aY u=true/\RV FT c y u:=by
 have d:∀{x:AV} {v:Value},RV FT c x v->aY v=true->cs=[x]->
  v.cells.size=cs.length/\∀(j:Nat) (y:AV),cs[j]?=some y->∃u,v.cells[j]?=some u/\aY u=true/\RV FT c y u:=by
  intro x v E m e;have Q:v.cells=#[v]:=by cases v<;>first | rfl | (simp[aY] at m)
  grind
 cases E with
 | pure _ _ L=>
  cases L with
  | undef=>simp[cellsOf] at h
  | lit v=>
   simp only[cellsOf] at h;split at h
   .rename_i m;cases h;exact d (RV.lit v) m rfl
   .cases h
  | nil f a' cap I=>
   simp only[cellsOf,Option.some.injEq] at h;exact d (.pure _ _<|.nil f a' cap I) rfl h.symm
  | sl f es b off cap cc T o s a i g k l p r z J=>
   simp only[cellsOf,Option.some.injEq] at h;exact d (.pure _ _<|.sl f es b off cap cc T o s a i g k l p r z J) rfl h.symm
  | sptr cs' b off cc T o a i g k l=>
   simp only[cellsOf,Option.some.injEq] at h;exact d (.pure _ _<|.sptr cs' b off cc T o a i g k l) rfl h.symm
  | rmp q b es A a i g k l p r=>
   simp only[cellsOf,Option.some.injEq] at h;exact d (.pure _ _<|.rmp q b es A a i g k l p r) rfl h.symm
 | ms id tot off len a' cap s n i g k l=>
  simp only[cellsOf,Option.some.injEq] at h;exact d (.ms id tot off len a' cap s n i g k l) rfl h.symm
 | ptr id tot t off a' s n i g k=>
  simp only[cellsOf,Option.some.injEq] at h;exact d (.ptr id tot t off a' s n i g k) rfl h.symm
 | rptr cs' b off cc T o a i g k l=>
  simp only[cellsOf,Option.some.injEq] at h;exact d (.rptr cs' b off cc T o a i g k l) rfl h.symm
 | vnil a' cap=>
  simp only[cellsOf,Option.some.injEq] at h;exact d (.vnil a' cap) rfl h.symm
 | vw es b off cap cc T o s a i g k l p r z=>
  simp only[cellsOf,Option.some.injEq] at h;exact d (.vw es b off cap cc T o s a i g k l p r z) rfl h.symm
 | mp id b i g=>
  simp only[cellsOf,Option.some.injEq] at h;exact d (.mp id b i g) rfl h.symm
 | it id b i g=>
  simp only[cellsOf,Option.some.injEq] at h;exact d (.it id b i g) rfl h.symm
 | fn vi f caps cv a i g k l=>
  simp only[cellsOf,Option.some.injEq] at h;exact d (.fn vi f caps cv a i g k l) rfl h.symm
 | agg cs' cv a i g k=>
  simp only[cellsOf,Option.some.injEq] at h;subst h;exact⟨i,λj y w=>⟨a j,(g j y w).1,(g j y w).2,k j y w⟩⟩
 | tup=>simp[cellsOf] at h
theorem aFs[aB](f:bJ (aG T) c)(b:TR (aG T) c tm a.tmps)(e:fl<=c.H.length){x:aQ}{y:Operand}{t:TypeId}{cs:List AV}(k:o.op=.box t y)(h:aN T x y=true)(j:cellsOf (aC tm x)=some cs):
 cZ P (aG T) c fl o a (.ptr c.H.length 1 0 0)<|c.H++[.blk cs.length [cs]]:=by
 let⟨g,i⟩:=vF (aR f b h) j;refine Hs (t:=t) f e ?_ g i;simp[execOp,k,Instr.box,newVar,newRow]
theorem SA[aB](f:bJ (aG T) c)(e:fl<=c.H.length){s:Nat}(d:o.op=.move (.const aZ)\/o.op=.assign (.const aZ)):
 cZ P (aG T) c fl o a (.ms c.H.length 0 0 0)<|c.H++[.blk s []]:=by
 refine eC (cv:=aZ) ?_ (Ar e) (Sb f) ?_
 .rcases d with d | d<;>simp[execOp,d,Act.eval]
 .refine .ms _ 0 0 0 none 0 s 0 (by simp[shp]) (Nat.le_refl _) (Nat.le_refl _) λ_=>⟨Nat.le_refl _,.inl ⟨?_,rfl,rfl,rfl⟩⟩;cases g:c.β c.H.length with
  | none=>rfl
  | some b=>have:=f.dom _ b g;omega
theorem fS(b k j:Nat): (⟨b,k,none⟩:Addr).add j=⟨b,k+j,none⟩:=by unfold Addr.add;split<;>simp_all
def AH(FT:Nat->Option Nat)(c:bV)(ad:Addr)(cs:List AV)(vs:List Value): Prop:=
 vs.length=cs.length/\(∀(j:Nat) (u:Value),vs[j]?=some u->c.w.cell? (ad.add j)=some u) /\
 ∀(j:Nat) (x:AV),cs[j]?=some x->∃u,vs[j]?=some u/\aY u=true/\RV FT c x u
theorem fL{H:aM}{id s:Nat}{es:List<|List AV}(h:H[id]?=some (.blk s es)): shp H id=some (s,es.length):=by simp[shp,h]
theorem Gw[aB]{FT:Nat->Option Nat}{b k n:Nat}{cc:Array Value}{T:TypeId}{a:Nat×Nat}{cs:List AV}(d:c.w.heap[b]?=some (.cells cc T a))(f:cs.length=n)(h:∀(j:Nat) (x:AV),cs[j]?=some x->∃u,cc[k+j]?=some u/\aY u=true/\RV FT c x u):
 AH FT c ⟨b,k,none⟩ cs<|(cc.toList.drop k).take n:=by
 refine⟨?_,?_,?_⟩
 .simp only[f];cases n with
  | zero=>simp
  | succ m=>
   let⟨u,e,_⟩:=h m (cs[m]'(by omega)) (by simp);grind
 .intro j u e;rw[fS,cell_of_row c.w b (k+j) cc T a d];grind
 .grind
theorem Mf[aB]{FT:Nat->Option Nat}(y:bJ FT c){x:AV}{v:Value}{n:Nat}{cs:List AV}(p:RV FT c x v)(h:cJ c.H x n=some cs):
 ∃(ad:Addr) (vs:List Value),v=.pointer (some ad)/\cs.length=n/\AH FT c ad cs vs:=by
 unfold cJ at h;split at h
 .rename_i id tot q off;split at h
  .rename_i s es t;split at h
   .rename_i A;split at h
    .rename_i e he;split at h
     .rename_i k;cases h;cases p with
      | pure _ _ u=>cases u
      | ptr _ _ _ _ ad s' F m l g=>
       rw[fL t] at m;cases m;obtain⟨b,w,rfl⟩:=g A.symm;let⟨cc,T,C,E,z⟩:=y.blk id s es b t w;have a:((e.drop off).take n).length=n:=by simp;omega
       refine⟨_,_,rfl,a,Gw C a ?_⟩;intro j x d;rw[List.getElem?_take] at d;split at d
       .rw[List.getElem?_drop] at d;have:=z q (off+j) x (by simp[bL,he,d]);simpa [Nat.add_assoc] using this
       .grind
     .cases h
    .cases h
   .cases h
  .cases h
 .rename_i i;split at h
  .rename_i k;cases h;obtain⟨b,off,cc,T,B,f,rfl,m,l,g,o⟩:=p.rptr_inv
   .have a:(i.take n).length=n:=by simp;omega
    refine⟨_,_,rfl,a,Gw l a ?_⟩;intro j x d;rw[List.getElem?_take] at d;split at d
    .exact⟨f j,(g j x d).1,(g j x d).2,.pure _ _<|o j x d⟩
    .grind
  .cases h
 .rename_i i;split at h
  .rename_i k;cases h;obtain⟨b,off,cc,T,B,f,rfl,m,l,g,o⟩:=p.sptr_inv.rptr_inv
   .have a:(i.take n).length=n:=by simp;omega
    refine⟨_,_,rfl,a,Gw l a ?_⟩;intro j x d;rw[List.getElem?_take] at d;split at d
    .exact⟨f j,(g j x d).1,(g j x d).2,.pure _ _<|o j x d⟩
    .grind
  .cases h
 .cases h
theorem Bb{FT:Nat->Option Nat}{ad:Addr}{cs:List AV}{vs:List Value}(h:AH FT c ad cs vs): RV FT c (.agg cs)<|.agg vs.toArray:=by
 refine .agg cs vs.toArray (λi=>vs.getD i aW) (by simp[h.1]) ?_ ?_
 .intro i x a;let⟨u,b,d,_⟩:=h.2.2 i x a;simp[b,d]
 .intro i x a;let⟨u,b,_,e⟩:=h.2.2 i x a;simpa [b] using e
theorem dR{t:TypeId}{n:Nat}(h:cT P t n=true): ∃i,P.info? t=some i/\i.size=n:=by
 unfold cT at h;grind
theorem Ij{t:TypeId}{b:Bool}(h:sL P t b=true)(w:World): (isAgg t).run P w=.ok b w:=by
 unfold sL at h;unfold isAgg;split at h
 .rename_i a;simp[run_underlying a,h]
 .rename_i a;simp[run_underlying a,h]
 .rename_i a;rw[Sem.run_bind,run_underlying a];simp_all
 .cases h
theorem tS[aB]{FT:Nat->Option Nat}{ad:Addr}{cs:List AV}{vs:List Value}{t:TypeId}{n:Nat}{agg:Bool}(b:AH FT c ad cs vs)(d:cs.length=n)(g:sL P t agg=true)(j:cT P t n=true):
 agg=true->(loadVar t ad).run P c.w=.ok (.agg vs.toArray) c.w:=by
 intro e;subst e;let⟨i,h,a⟩:=dR j;have f:=run_loadCells_list (P:=P) c.w ad vs b.2.1;have e:=b.1.trans d;simp[loadVar,Ij g,sizeOf,typeInfo,h,a,<-e,f]
theorem Cm[aB]{ad:Addr}{u:Value}{t:TypeId}(a:c.w.cell? ad=some u)(b:sL P t false=true):
 (loadVar t ad).run P c.w=.ok u c.w:=by
 simp[loadVar,Ij b,a]
theorem MO[aB](f:bJ (aG T) c)(g:TR (aG T) c tm a.tmps){x:aQ}{y:Operand}{t:TypeId}{n:Nat}{agg:Bool}{cs:List AV}{v:AV}(k:o.op=.load t y)(h:aN T x y=true)(j:sL P t agg=true)(p:cT P t n=true)(r:cJ c.H (aC tm x) n=some cs)(i:if agg then v=.agg cs else cs=[v]): cZ P (aG T) c fl o a v c.H:=by
 let⟨ad,vs,l,m,e⟩:=Mf f (aR f g h) r;cases agg with
 | true=>
  subst i;refine bM f ?_<|Bb e;simp[execOp,k,Instr.loadAt,Instr.sureAddr,l,tS e m j p rfl]
 | false=>
  subst i;let⟨u,w,z,q⟩:=e.2.2 0 v (by simp);have d:=e.2.1 0 u w;have s:ad.add 0=ad:=by simp[Addr.add]
  rw[s] at d;refine bM f ?_ q;simp[execOp,k,Instr.loadAt,Instr.sureAddr,l,Cm d j]
theorem dX{α:Type}{l vs:List α}{k:Nat}(h:k+vs.length<=l.length): (aU l k vs).length=l.length:=by
 simp only[aU,List.length_append,List.length_take,List.length_drop];omega
theorem As{α:Type}{l vs:List α}{k:Nat}(h:k+vs.length<=l.length)(p:Nat):
 (aU l k vs)[p]?=if p<k then l[p]? else if p<k+vs.length then vs[p-k]? else l[p]?:=by
 unfold aU;grind
theorem MC{s i n j:Nat}(a:i<n)(b:j<s): i*s+j<n*s:=by
 have:(i+1)*s<=n*s:=Nat.mul_le_mul_right s a;rw[Nat.add_mul] at this;omega
theorem dI{es:List<|List AV}{i j:Nat}{x:AV}(h:bL es i j=some x): ∃e,es[i]?=some e/\e[j]?=some x:=by
 unfold bL at h;grind
theorem aD9[aB]{FT:Nat->Option Nat}{s a off:Nat}{es:List<|List AV}{e cs:List AV}{vs:List Value}{cc:Array Value}(r:∀e∈es,e.length=s)(he:es[a]?=some e)(d:off+cs.length<=e.length)(A:es.length*s<=cc.size)(B:vs.length=cs.length)(b:∀i j x,bL es i j=some x->∃v,cc[i*s+j]?=some v/\aY v=true/\RV FT c x v)(t:∀(j:Nat) (x:AV),cs[j]?=some x->∃u,vs[j]?=some u/\aY u=true/\RV FT c x u):
 (∀w∈es.set a (aU e off cs),w.length=s) /\
 ∀i j x,bL (es.set a<|aU e off cs) i j=some x->
  ∃v,((aU cc.toList (a*s+off) vs).toArray)[i*s+j]?=some v/\aY v=true/\RV FT c x v:=by
 have q:=r e<|List.mem_of_getElem? he;have l:=(List.getElem?_eq_some_iff.1 he).1;have o:(a+1)*s<=es.length*s:=Nat.mul_le_mul_right s l;rw[Nat.add_mul] at o;have g:a*s+off+vs.length<=cc.toList.length:=by simp;omega
 refine⟨?_,?_⟩
 .intro w p;rcases List.mem_or_eq_of_mem_set p with h | h
  .grind
  .rw[h,dX d,q]
 .intro i j x E;simp only[List.getElem?_toArray,As g];let⟨C,m,f⟩:=dI E;by_cases n:i=a
  .subst n;rw[getElem?_set_eq' he] at m;cases m;rw[As d] at f;split at f
   .rename_i y;rw[if_pos<|by omega];have:=b i j x (by simp[bL,he,f]);simpa using this
   .rename_i y;split at f
    .grind
    .rename_i F;rw[if_neg<|by omega,if_neg<|by omega];have:=b i j x (by simp[bL,he,f]);simpa using this
  .rw[getElem?_set_ne' n] at m;have y:j<s:=by
    rw[<-r C<|List.mem_of_getElem? m];exact (List.getElem?_eq_some_iff.1 f).1
   have z:i*s+j<a*s+off\/a*s+off+vs.length<=i*s+j:=by
    rcases Nat.lt_or_gt_of_ne n with h | h
    .have:(i+1)*s<=a*s:=Nat.mul_le_mul_right s h;rw[Nat.add_mul] at this;omega
    .have:(a+1)*s<=i*s:=Nat.mul_le_mul_right s h;rw[Nat.add_mul] at this;omega
   have D:=b i j x (by simp[bL,m,f]);grind
theorem lT(w:World)(g k:Nat)(cc:Array Value)(vs:List Value):
 w.setRow g (cc.toList.take (k+0)++vs++cc.toList.drop (k+0+vs.length)).toArray=w.setRow g (aU cc.toList k vs).toArray:=by
 simp[aU]
theorem V4[aB](z:bJ (aG T) c)(C:TR (aG T) c tm a.tmps){x v:aQ}{y u:Operand}{t:TypeId}{n:Nat}{cs:List AV}{H':aM}(ho:o.op=.store t y u)(h1:aN T x y=true)(h2:aN T v u=true)(Y:cT P t n=true)(hc:cellsOf (aC tm v)=some cs)(V:cs.length=n)(d:eM fl c.H (aC tm x) cs=some H'): cZ P (aG T) c fl o a (.lit aW) H':=by
 let⟨i,W,E⟩:=dR Y;let⟨p,I⟩:=vF (aR z C h2) hc;have J:=aR z C h1;unfold eM at d;split at d
 .rename_i id tot f off Q;rw[Q] at J;split at d
  .rename_i N;split at d
   .rename_i s es g;split at d
    .rename_i G;split at d
     .rename_i e he;split at d
      .rename_i F;cases d
       .let⟨ad,s',n',S,U,g2,g3⟩:=J.ptr_inv;rw[fL g] at U;cases U;obtain⟨b,O,rfl⟩:=g3 G.symm;let⟨cc,M,B,k2,k3⟩:=z.blk id s es b g O;have h:=z.lens id s es g;have Z:=h e<|List.mem_of_getElem? he;have D:=(List.getElem?_eq_some_iff.1 he).1;have R:(f+1)*s<=es.length*s:=Nat.mul_le_mul_right s D;rw[Nat.add_mul] at R;have r:=by simpa using p
        let⟨p1,p2⟩:=aD9 (vs:=(a.eval u).cells.toList) (cc:=cc) h he F k2 r k3 (λj x J=>by simpa using I j x J);have l:f*s+off+(a.eval u).cells.toList.length<=cc.toList.length:=by simp at r |-;omega
        have A:∀v∈(a.eval u).cells.toList,v.oneCell'=true:=by
         intro v hv;let⟨j,X⟩:=List.mem_iff_getElem?.1 hv;have a2:j<cs.length:=by rw[<-r];exact (List.getElem?_eq_some_iff.1 X).1
         let⟨u',w1,w2,_⟩:=I j cs[j] (by simp);have:u'=v:=by
          grind
         rw[<-Lq,<-this];exact w2
        have m:=run_storeCells_at P b (f*s+off) M (a.eval u).cells.toList 0 cc c.w B (by simpa using l) A;rw[lT] at m;have K:=dX l;refine o0 (w':=c.w.setRow b (aU cc.toList (f*s+off) (a.eval u).cells.toList).toArray) (β':=c.β) ?_
         (qG (cs':=(aU cc.toList (f*s+off) (a.eval u).cells.toList).toArray) z N g O B (by simp) ?_ (setRow_heap c.w b cc _ M _ B) (λk L=>setRow_other c.w b k _ L) (by simp) rfl rfl rfl)
         (Az (cs':=(aU cc.toList (f*s+off) (a.eval u).cells.toList).toArray) z g O B (by simp) ?_ (setRow_heap c.w b cc _ M _ B) (λk L=>setRow_other c.w b k _ L) (by simp) rfl rfl rfl p1 ?_ p2)
        .have a1:¬(a.eval u).cells.size≠i.size:=by rw[p,V,E];simp
         simp[execOp,ho,Instr.storeAt,Instr.sureAddr,storeVar,sizeOf,typeInfo,S,W,p,V,E,m]
        .grind
        .grind
        .grind
      .grind
     .grind
    .grind
   .grind
  .grind
 .grind
end
section
variable {P:Program}{T:List bK}{c:bV}{fl:Nat}{o:Oper}{a:Act}{tm:List AV}
theorem vV[aB](m:bJ (aG T) c)(l:TR (aG T) c tm a.tmps){x:aQ}{y:Operand}(k:o.op=.nilCheck y)(h:aN T x y=true)(g:(∃id tot j off,aC tm x=.ptr id tot j off)\/(∃cs,aC tm x=.rptr cs)\/(∃cs,aC tm x=.sptr cs)\/∃vi caps,aC tm x=.fn vi caps):
 cZ P (aG T) c fl o a (aC tm x) c.H:=by
 have i:=aR m l h;refine bM (cv:=a.eval y) m ?_ i;rcases g with⟨id,tot,j,off,g⟩ | ⟨cs,g⟩ | ⟨cs,g⟩ | ⟨vi,caps,g⟩<;>rw[g] at i
 .let⟨ad,s,n,e,_⟩:=i.ptr_inv;simp[execOp,k,e]
 .let⟨b,off,cc,p,q,d,e,_⟩:=i.rptr_inv;simp[execOp,k,e]
 .let⟨b,off,cc,p,q,d,e,_⟩:=i.sptr_inv.rptr_inv;simp[execOp,k,e]
 .let⟨f,cv,d,e,_⟩:=i.fn_inv;simp[execOp,k,e]
theorem I8{a:BinOp}{k:IntKind}{x y:Int}{t:TypeId}{r:Value}(h:KB a k x y=some r)(w:World): (binOp a t (.int k x)<|.int k y).run P w=.ok r w:=by
 cases a<;>simp[KB] at h<;>subst h<;>simp[binOp,Op.intArith,Op.intCmp]
theorem UF{a:BinOp}{k k':IntKind}{x y:Int}{t:TypeId}{p q:Operand}(w:World): (eqGuard a t p q (.int k x)<|.int k' y).run P w=.ok () w:=by
 unfold eqGuard;split<;>simp
theorem aCw[aB](d:bJ (aG T) c)(b:TR (aG T) c tm a.tmps){f:BinOp}{x y:aQ}{h e:Operand}{t j:TypeId}{k:IntKind}{n m:Int}{r:Value}(s:o.op=.binOp f t h e j)(p:aN T x h=true)(q:aN T y e=true)(u:aC tm x=.lit (.int k n))(e2:aC tm y=.lit (.int k m))(l:KB f k n m=some r):
 cZ P (aG T) c fl o a (.lit r) c.H:=by
 have g:=aR d b p;have i:=aR d b q;rw[u] at g;rw[e2] at i;refine bM (cv:=r) d ?_<|RV.lit r;simp[execOp,s,g.lit_inv,i.lit_inv,UF,I8 l]
theorem ND[aB]: ∀{cs:List AV} {l:List Value},zG cs=some l->cs=l.map .lit
 | [],l,h=>by simp[zG] at h;subst h;rfl
 | .lit v::r,l,h=>by
  simp only[zG] at h;split at h
  .rename_i b a;cases h;rw[ND a];rfl
  .cases h
 | .undef::_,_,h=>by simp[zG] at h
 | .sl ..::_,_,h=>by simp[zG] at h
 | .ms ..::_,_,h=>by simp[zG] at h
 | .ptr ..::_,_,h=>by simp[zG] at h
 | .rptr ..::_,_,h=>by simp[zG] at h
 | .mp ..::_,_,h=>by simp[zG] at h
 | .fn ..::_,_,h=>by simp[zG] at h
 | .agg ..::_,_,h=>by simp[zG] at h
 | .tup ..::_,_,h=>by simp[zG] at h
theorem Oo[aB]{FT:Nat->Option Nat}{x:AV}{v u:Value}(f:RV FT c x v)(h:lits x=some u): v=u:=by
 unfold lits at h;split at h
 .cases h;exact f.lit_inv
 .rename_i cs;split at h
  .rename_i l k;cases h;have e:=ND k;subst e;obtain⟨cv,b,rfl,n,j,m⟩:=f.agg_inv;congr 1;apply Array.ext_getElem?;intro i;by_cases d:i<l.length
   .have g:(l.map AV.lit)[i]?=some (.lit l[i]):=by simp[d]
    have:=(m i _ g).lit_inv;rw[(j i _ g).1,this];simp[d]
   .rw[Array.getElem?_eq_none<|by simp at n;omega,Array.getElem?_eq_none<|by simp;omega]
  .cases h
 .cases h
theorem HW{a:BinOp}{t:TypeId}{v u:Value}{p q p' q':Operand}(b:pP v=true): eqGuard a t p q v u=eqGuard a t p' q' v u:=by
 unfold eqGuard;cases v<;>first | rfl | (cases u<;>rfl) | (simp[pP] at b)
theorem UE[aB]{a:BinOp}{t:TypeId}{v u:Value}{p q:Operand}(b:pP v=true)(h:aK P (eqGuard a t (.tmp 0) (.tmp 0) v u)=some ())(w:World):
 (eqGuard a t p q v u).run P w=.ok () w:=by
 rw[HW (p':=.tmp 0) (q':=.tmp 0) b];exact cD h
theorem aFt[aB](e:bJ (aG T) c)(b:TR (aG T) c tm a.tmps){d:BinOp}{x y:aQ}{f g:Operand}{t h:TypeId}{v u r:Value}(q:o.op=.binOp d t f g h)(i:aN T x f=true)(k:aN T y g=true)(s:lits (aC tm x)=some v)(e2:lits (aC tm y)=some u)(j:pP v=true)(l:aK P (eqGuard d t (.tmp 0) (.tmp 0) v u)=some ())(m:aK P (binOp d t v u)=some r):
 cZ P (aG T) c fl o a (.lit r) c.H:=by
 have n:=Oo (aR e b i) s;have p:=Oo (aR e b k) e2;refine bM (cv:=r) e ?_<|RV.lit r;simp[execOp,q,n,p,UE j l,cD m]
theorem aH8[aB](e:bJ (aG T) c)(b:TR (aG T) c tm a.tmps){f:UnOp}{x:aQ}{d:Operand}{t:TypeId}{v r:Value}(k:o.op=.unOp f t d)(h:aN T x d=true)(j:aC tm x=.lit v)(i:aK P (Op.unary f v)=some r): cZ P (aG T) c fl o a (.lit r) c.H:=by
 have g:=aR e b h;rw[j] at g;refine bM (cv:=r) e ?_<|RV.lit r;simp[execOp,k,g.lit_inv,cD i]
theorem aCy[aB](g:bJ (aG T) c)(b:TR (aG T) c tm a.tmps){x:aQ}{e:Operand}{s d:TypeId}{v r:Value}(k:o.op=.convert s d e)(h:aN T x e=true)(j:aC tm x=.lit v)(i:aK P (convert s d v)=some r): cZ P (aG T) c fl o a (.lit r) c.H:=by
 have f:=aR g b h;rw[j] at f;refine bM (cv:=r) g ?_<|RV.lit r;simp[execOp,k,f.lit_inv,cD i]
theorem G0[aB](e:bJ (aG T) c)(b:TR (aG T) c tm a.tmps){x i:aQ}{f g:Operand}{t:TypeId}{v u r:Value}(p:o.op=.index t f g)(n:aN T x f=true)(l:aN T i g=true)(k:aC tm x=.lit v)(e2:aC tm i=.lit u)(m:aK P (Instr.index t v u)=some r):
 cZ P (aG T) c fl o a (.lit r) c.H:=by
 have j:=aR e b n;rw[k] at j;have h:=aR e b l;rw[e2] at h;refine bM (cv:=r) e ?_<|RV.lit r;simp[execOp,p,j.lit_inv,h.lit_inv,cD m]
theorem Xg{t:TypeId}{f off:Nat}{e:Array Field}{c:Field}{i:TypeInfo}{ad:Addr}(h:P.underlying t=some (.struct e))(j:e[f]?=some c)(d:c.offset=off)(g:P.info? c.type=some i)(b:i.size≠0)(w:World):
 (Instr.fieldAt t (.pointer<|some ad) f).run P w=.ok (.pointer<|some<|ad.add off) w:=by
 simp[Instr.fieldAt,run_underlying h,j,Instr.sureAddr,fieldPlace,sizeOf,typeInfo,g,b,d]
theorem Bm[aB](w:bJ (aG T) c)(C:TR (aG T) c tm a.tmps){x:aQ}{y:Operand}{t:TypeId}{f off:Nat}{E:Array Field}{z:Field}{i:TypeInfo}{v:AV}(G:o.op=.fieldAddr t y f)(h:aN T x y=true)(D:P.underlying t=some (.struct E))(I:E[f]?=some z)(m:z.offset=off)(F:P.info? z.type=some i)(p:i.size≠0)(l:(∃id tot g k,aC tm x=.ptr id tot g k/\v=.ptr id tot g (k+off))\/(∃cs,(aC tm x=.rptr cs\/aC tm x=.sptr cs)/\v=.rptr (cs.drop off))):
 cZ P (aG T) c fl o a v c.H:=by
 have d:=aR w C h;rcases l with⟨id,tot,g,k,l,rfl⟩ | ⟨cs,l,rfl⟩
 .rw[l] at d;let⟨ad,s,n,r,u,A,B⟩:=d.ptr_inv;refine bM (cv:=.pointer<|some<|ad.add off) w (by simp[execOp,G,r,Xg D I m F p]) ?_;refine .ptr id tot g (k+off) _ s n u A λe=>?_;obtain⟨b,M,rfl⟩:=B e;exact⟨b,M,by rw[fS];simp[Nat.add_assoc]⟩
 .replace d:RV (aG T) c (.rptr cs)<|a.eval y:=by
   rcases l with l | l<;>rw[l] at d
   .exact d
   .exact d.sptr_inv
  let⟨b,k,cc,K,L,q,r,u,A,B,J⟩:=d.rptr_inv;refine bM (cv:=.pointer<|some ⟨b,k+off,none⟩) w (by simp[execOp,G,r,Xg D I m F p,fS]) ?_;refine .rptr _ b (k+off) cc K L (λj=>q<|off+j) u A ?_ ?_
  .intro j x d;rw[List.getElem?_drop] at d;have:=B _ x d;rwa [<-Nat.add_assoc] at this
  .intro j x d;rw[List.getElem?_drop] at d;exact J _ x d
theorem l6[aB]{FT:Nat->Option Nat}{cs:List AV}{cv:Array Value}{t:TypeId}{n off:Nat}{agg:Bool}{v:AV}(y:RV FT c (.agg cs)<|.agg cv)(h:sL P t agg=true)(u:cT P t n=true)(o:off+n<=cs.length)(d:if agg then v=.agg ((cs.drop off).take n) else (cs.drop off).take n=[v])(z:agg=true\/n=1):
 ∃r,(part t cv off).run P c.w=.ok r c.w/\RV FT c v r:=by
 let⟨p,b,e,A,k,g⟩:=y.agg_inv;cases e;let⟨i,s,f⟩:=dR u;cases agg with
 | true=>
  simp only[if_true] at d;subst d;refine⟨.agg<|cv.extract off<|off+n,?_,?_⟩
  .simp[part,Ij h,sizeOf,typeInfo,s,f]
  .refine .agg _ _ (λj=>b<|off+j) (by simp;omega) ?_ ?_
   .intro j x a;rw[List.getElem?_take] at a;split at a
    .rename_i B;rw[List.getElem?_drop] at a;let⟨q,l⟩:=k _ x a;refine⟨?_,l⟩;rw[Array.getElem?_extract];rw[if_pos<|by omega];exact q
    .cases a
   .intro j x a;rw[List.getElem?_take] at a;split at a
    .rw[List.getElem?_drop] at a;exact g _ x a
    .cases a
 | false=>
  simp only[Bool.false_eq_true,if_false] at d;have m:n=1:=by simpa using z
  subst m;have a:cs[off]?=some v:=by
   have:((cs.drop off).take 1)[0]?=some v:=by rw[d];rfl
   rw[List.getElem?_take,if_pos<|by omega,List.getElem?_drop] at this;simpa using this
  refine⟨b off,?_,g off v a⟩;simp[part,Ij h,(k off v a).1]
theorem RZ[aB](l:bJ (aG T) c)(k:TR (aG T) c tm a.tmps){x:aQ}{y:Operand}{t:TypeId}{f off n:Nat}{agg:Bool}{p:Array Field}{d:Field}{cs:List AV}{v:AV}(D:o.op=.field t y f)(h:aN T x y=true)(q:P.underlying t=some (.struct p))(w:p[f]?=some d)(j:d.offset=off)(s:sL P d.type agg=true)(B:cT P d.type n=true)(z:agg=true\/n=1)(C:aC tm x=.agg cs)(g:off+n<=cs.length)(E:if agg then v=.agg ((cs.drop off).take n) else (cs.drop off).take n=[v]):
 cZ P (aG T) c fl o a v c.H:=by
 have b:=aR l k h;rw[C] at b;let⟨cv,m,e,_⟩:=b.agg_inv;rw[e] at b;let⟨r,u,A⟩:=l6 (P:=P) b s B g E z;refine bM (cv:=r) l ?_ A;simp[execOp,D,e,Instr.field,run_underlying q,w,asAgg,j,u]
theorem pQ[aB]{FT:Nat->Option Nat}{x:AV}{v:Value}{n:Nat}(a:RV FT c x v)(h:fA x=some n): ∃k,v=.int k n:=by
 unfold fA at h;split at h
 .rename_i k m;split at h
  .rename_i b;cases h;exact⟨k,by rw[a.lit_inv,Int.toNat_of_nonneg b]⟩
  .cases h
 .cases h
theorem Md[aB](D:bJ (aG T) c)(F:TR (aG T) c tm a.tmps){x i:aQ}{y j:Operand}{t e:TypeId}{s n:Nat}{v:AV}(M:o.op=.indexAddr t y j)(h1:aN T x y=true)(h2:aN T i j=true)(O:P.underlying t=some (.slice e))(R:cT P e s=true)(hn:fA (aC tm i)=some n)(C:(∃f es cs,aC tm x=.sl f es/\es[n]?=some cs/\cs.length=s/\v=.rptr cs)\/(∃es cs,aC tm x=.vw es/\es[n]?=some cs/\cs.length=s/\v=.rptr cs) \/
  (∃id tot off len es,aC tm x=.ms id tot off len/\c.H[id]?=some (.blk s es)/\es.length=tot/\n<len/\v=.ptr id tot (off+n) 0)):
 cZ P (aG T) c fl o a v c.H:=by
 have g:=aR D F h1;let⟨k,S⟩:=pQ (aR D F h2) hn;let⟨ei,A,r⟩:=dR R;rcases C with⟨f,es,cs,C,d,m,rfl⟩ | ⟨es,cs,C,d,m,rfl⟩ | ⟨id,tot,off,len,es,C,G,B,X,rfl⟩<;>rw[C] at g;rotate_left
 .let⟨ad,cap,L,_,V⟩:=g.vw_inv;rcases V with rfl | ⟨b,off,cc,K,W,s',l,rfl,I,J,E,Q,N⟩
  .simp at d
  .have z:s'=s:=by rw[<-m,E cs<|List.mem_of_getElem? d]
   subst z;have u:n<es.length:=(List.getElem?_eq_some_iff.1 d).1;refine bM (cv:=.pointer<|some ⟨b,off+n*s',none⟩) D ?_ ?_
   .simp[execOp,M,L,S,Instr.indexAt,asIntOf,run_underlying O,sizeOf,typeInfo,A,r,u,fS]
   .refine .rptr cs b (off+n*s') cc K W (λj=>l n j) I J ?_ ?_
    .intro j x g;have:=Q n j x (by simp[bL,d,g]);rwa [<-Nat.add_assoc] at this
    .intro j x g;exact N n j x<|by simp[bL,d,g]
 rotate_right
 .have Y:=g.sl_inv;generalize L:a.eval y=w at Y;cases Y with
  | nil=>simp at d
  | sl _ _ b off cap cc K W s' l U I J E g5 g6 Q N=>
   have z:s'=s:=by rw[<-m,E cs<|List.mem_of_getElem? d]
   subst z;have u:n<es.length:=(List.getElem?_eq_some_iff.1 d).1;refine bM (cv:=.pointer<|some ⟨b,off+n*s',none⟩) D ?_ ?_
   .simp[execOp,M,L,S,Instr.indexAt,asIntOf,run_underlying O,sizeOf,typeInfo,A,r,u,fS]
   .refine .rptr cs b (off+n*s') cc K W (λj=>l n j) I.vis J ?_ ?_
    .intro j x g;have:=Q n j x (by simp[bL,d,g]);rwa [<-Nat.add_assoc] at this
    .intro j x g;exact N n j x<|by simp[bL,d,g]
 .let⟨ad,cap,s',n',hv,U,I,J,E⟩:=g.ms_inv;rw[fL G] at U;cases U;let⟨m1,m2⟩:=E B.symm;rcases m2 with⟨_,_,_,Z⟩ | ⟨b,cc,K,a',Z,m4,m5,m6,m7⟩
  .omega
  .have ha:=m7 (by omega);subst ha;subst m6;refine bM (cv:=.pointer<|some ⟨b,off*s+n*s,none⟩) D ?_ ?_
   .simp[execOp,M,hv,S,Instr.indexAt,asIntOf,run_underlying O,sizeOf,typeInfo,A,r,X,fS]
   .refine .ptr id tot (off+n) 0 _ s _ (fL G) (by omega) λ_=>⟨b,Z,by simp[Nat.add_mul]⟩
end
section
variable {P:Program}{T:List bK}{c:bV}{fl:Nat}{o:Oper}{a:Act}{tm:List AV}
theorem JI[aB](u:bJ (aG T) c)(l:TR (aG T) c tm a.tmps){x i:aQ}{y j:Operand}{t e:TypeId}{s n m:Nat}{v:AV}(O:o.op=.indexAddr t y j)(S:aN T x y=true)(K:aN T i j=true)(L:P.underlying t=some (.array m e))(C:cT P e s=true)(I:fA (aC tm i)=some n)(z:n<m)(r:(∃id tot f k,aC tm x=.ptr id tot f k/\v=.ptr id tot f (k+n*s))\/(∃cs,aC tm x=.rptr cs/\v=.rptr ((cs.drop<|n*s).take s))):
 cZ P (aG T) c fl o a v c.H:=by
 have d:=aR u l S;let⟨k,R⟩:=pQ (aR u l K) I;let⟨U,F,D⟩:=dR C;have q:∀ad:Addr,a.eval y=.pointer (some ad)->(execOp a.eval o).run P c.w=.ok (.value<|.pointer<|some<|ad.add<|n*s) c.w:=by
  intro ad h;simp[execOp,O,h,R,Instr.indexAt,Instr.sureAddr,asIntOf,run_underlying L,sizeOf,typeInfo,F,D,z]
 rcases r with⟨id,tot,f,k',r,rfl⟩ | ⟨cs,r,rfl⟩<;>rw[r] at d
 .let⟨ad,s',N,h,A,B,E⟩:=d.ptr_inv;refine bM u (q ad h) ?_;refine .ptr id tot f (k'+n*s) _ s' N A B λe=>?_;obtain⟨b,J,rfl⟩:=E e;exact⟨b,J,by rw[fS];simp[Nat.add_assoc]⟩
 .let⟨b,k',cc,M,G,p,h,A,B,E,Q⟩:=d.rptr_inv;refine bM u (q _ h) ?_;rw[fS];refine .rptr _ b (k'+n*s) cc M G (λj=>p<|n*s+j) A B ?_ ?_
  .intro j x d;rw[List.getElem?_take] at d;split at d
   .rw[List.getElem?_drop] at d;have:=E _ x d;rwa [<-Nat.add_assoc] at this
   .cases d
  .intro j x d;rw[List.getElem?_take] at d;split at d
   .rw[List.getElem?_drop] at d;exact Q _ x d
   .cases d
theorem RY[aB](l:bJ (aG T) c)(b:TR (aG T) c tm a.tmps){x i:aQ}{y j:Operand}{t e:TypeId}{s n m:Nat}{agg:Bool}{cs:List AV}{v:AV}(K:o.op=.index t y j)(D:aN T x y=true)(E:aN T i j=true)(G:P.underlying t=some (.array m e))(d:cT P e s=true)(p:sL P e agg=true)(B:agg=true\/s=1)(J:fA (aC tm i)=some n)(u:n<m)(I:aC tm x=.agg cs)(g:n*s+s<=cs.length)(L:if agg then v=.agg ((cs.drop<|n*s).take s) else (cs.drop<|n*s).take s=[v]): cZ P (aG T) c fl o a v c.H:=by
 have f:=aR l b D;rw[I] at f;let⟨k,M⟩:=pQ (aR l b E) J;let⟨N,h,w⟩:=dR d;let⟨cv,z,A,_⟩:=f.agg_inv;rw[A] at f;let⟨r,C,F⟩:=l6 (P:=P) f p d g L B;refine bM (cv:=r) l ?_ F;simp[execOp,K,A,M,Instr.index,asIntOf,run_underlying G,sizeOf,typeInfo,h,w,u,C]
theorem XL[aB](k:bJ (aG T) c)(f:TR (aG T) c tm a.tmps){x:aQ}{y:Operand}{i:Nat}{vs:List AV}{v:AV}(p:o.op=.extract y i)(h:aN T x y=true)(n:aC tm x=.tup vs)(g:vs[i]?=some v): cZ P (aG T) c fl o a v c.H:=by
 have j:=aR k f h;rw[n] at j;let⟨cv,b,e,q,m,l⟩:=j.tup_inv;refine bM (cv:=b i) k ?_<|l i v g;simp[execOp,p,e,Instr.extract,m i v g]
theorem Zt[aB](f:bJ (aG T) c)(b:TR (aG T) c tm a.tmps): ∀{e:List aQ} {ys:List Operand},dP T e ys=true->
 e.length=ys.length/\∀(i:Nat) (x:AV),(e.map<|aC tm)[i]?=some x->∃v,(ys.map a.eval)[i]?=some v/\RV (aG T) c x v
 | [],[],_=>⟨rfl,λi x k=>by simp at k⟩
 | x::r,y::s,h=>by
  simp only[dP,Bool.and_eq_true] at h;let⟨j,g⟩:=Zt f b h.2;refine⟨by simp[j],λi z d=>?_⟩;cases i with
  | zero=>
   simp only[List.map_cons,List.getElem?_cons_zero,Option.some.injEq] at d;subst d;exact⟨a.eval y,by simp,aR f b h.1⟩
  | succ i=>
   simp only[List.map_cons,List.getElem?_cons_succ] at d |-;exact g i z d
 | [],_::_,h=>by cases h
 | _::_,[],h=>by cases h
theorem aCu[aB](k:bJ (aG T) c)(d:TR (aG T) c tm a.tmps){vi f:Nat}{caps:List aQ}{cs:Array Operand}(m:o.op=.makeFunc (.func f) #[] cs)(n:aG T vi=some f)(h:dP T caps cs.toList=true): cZ P (aG T) c fl o a (.fn vi<|caps.map<|aC tm) c.H:=by
 let⟨p,l⟩:=Zt k d h;refine bM (cv:=.func (.func f) #[]<|cs.map a.eval) k (by simp[execOp,m,Instr.makeFunc]) ?_;refine .fn vi f _ _ (λi=>((cs.toList.map a.eval)[i]?).getD aW) n (by simpa using p.symm) ?_ ?_
 .intro i x g;let⟨v,b,j⟩:=l i x g;simp only[b,Option.getD_some];simpa using b
 .intro i x g;let⟨v,b,j⟩:=l i x g;simpa only[b,Option.getD_some] using j
theorem V7[aB](f:bJ (aG T) c)(d:fl<=c.H.length){t:TypeId}(i:o.op=.makeMap t none): cZ P (aG T) c fl o a (.mp c.H.length)<|c.H++[.mp []]:=by
 refine eC (cv:=.map<|some c.w.heap.size) (w':=c.w.alloc<|.map #[] 0) (β':=upd c.β c.H.length c.w.heap.size) ?_
  (Ec (ob:=.map #[] 0) d rfl rfl rfl rfl λid b j=>f.lt j) (Zm (ob:=.map #[] 0) f rfl rfl rfl rfl ?_ ?_ ?_ λ_ h=>by cases h) ?_
 .simp[execOp,i,Instr.makeMap]
 .intro s es he;cases he
 .intro s es he;cases he
 .intro g he;cases he;exact⟨rfl,0,rfl⟩
 .exact .mp _ _ ⟨.mp [],by simp,trivial⟩<|dG _ _ _
theorem RX[aB](g:bJ (aG T) c)(d:TR (aG T) c tm a.tmps)(e:fl<=c.H.length){x:aQ}{y:Operand}{t:TypeId}{s:ByteArray}(p:o.op=.range t y)(h:aN T x y=true)(m:P.underlying t=some .string)(n:aC tm x=.lit (.string s)):
 cZ P (aG T) c fl o a (.it c.H.length)<|c.H++[.raw<|.stringIter s 0]:=by
 have j:=aR g d h;rw[n] at j;have k:=j.lit_inv;refine eC (cv:=.pointer<|some ⟨c.w.heap.size,0,none⟩) (w':=c.w.alloc<|.stringIter s 0) (β':=upd c.β c.H.length c.w.heap.size) ?_
  (Ec (ob:=.stringIter s 0) e rfl rfl rfl rfl λid b l=>g.lt l) (Zm (ob:=.stringIter s 0) g rfl rfl rfl rfl ?_ ?_ ?_ ?_) ?_
 .simp[execOp,p,Instr.range,run_underlying m,k]
 .intro s es he;cases he
 .intro s es he;cases he
 .intro i he;cases he
 .intro q he;cases he;rfl
 .exact .it _ _ ⟨.raw<|.stringIter s 0,by simp,trivial⟩<|dG _ _ _
theorem XH[aB](m:bJ (aG T) c)(p:TR (aG T) c tm a.tmps){x:aQ}{y:Operand}{id d:Nat}{s:ByteArray}(A:o.op=.next y true)(h:aN T x y=true)(f:aC tm x=.it id)(r:fl<=id)(g:c.H[id]?=some (.raw<|.stringIter s d))(B:d<s.size):
 cZ P (aG T) c fl o a (.tup [.lit<|.bool true,.lit<|.int .i64 d,.lit<|.int .i32 (Utf8.decode s d).1])<|c.H.set id<|.raw<|.stringIter s<|d+(Utf8.decode s d).2:=by
 have u:=aR m p h;rw[f] at u;let⟨b,z,_,q⟩:=u.it_inv;have v:=m.raw id _ b g q;have l:(getObj b).run P c.w=.ok (.stringIter s d) c.w:=by simp[getObj,Sem.run,v]
 have k:∀ob,(setObj b ob).run P c.w=.ok () { c.w with heap:=c.w.heap.setIfInBounds b ob }:=by
  intro ob;simp[setObj,Sem.run,v]
 refine eC (cv:=.tuple #[.bool true,.int .i64 d,.int .i32 (Utf8.decode s d).1]) (β':=c.β) (w':={ c.w with heap:=c.w.heap.setIfInBounds b (.stringIter s<|d+(Utf8.decode s d).2) }) ?_
  (Wb (q':=.stringIter s<|d+(Utf8.decode s d).2) m r g q rfl rfl rfl rfl) (WH m g q rfl rfl rfl rfl) ?_
 .simp[execOp,A,z,Instr.next,l,k,B,goInt]
 .refine .tup _ _ (λi=>if i=0 then .bool true else if i=1 then .int .i64 d else .int .i32 (Utf8.decode s d).1) rfl ?_ ?_
  .intro i x f;match i with
   | 0=>rfl
   | 1=>rfl
   | 2=>rfl
   | n+3=>simp at f
  .intro i x f;match i with
   | 0=>simp at f;subst f;exact RV.lit _
   | 1=>simp at f;subst f;exact RV.lit _
   | 2=>simp at f;subst f;exact RV.lit _
   | n+3=>simp at f
theorem XG[aB](g:bJ (aG T) c)(k:TR (aG T) c tm a.tmps){x:aQ}{y:Operand}{id d:Nat}{s:ByteArray}(r:o.op=.next y true)(h:aN T x y=true)(e:aC tm x=.it id)(j:c.H[id]?=some (.raw<|.stringIter s d))(t:¬d<s.size):
 cZ P (aG T) c fl o a (.tup [.lit<|.bool false]) c.H:=by
 have m:=aR g k h;rw[e] at m;let⟨b,p,_,u⟩:=m.it_inv;have q:=g.raw id _ b j u;have f:(getObj b).run P c.w=.ok (.stringIter s d) c.w:=by simp[getObj,Sem.run,q]
 refine bM (cv:=.tuple #[.bool false]) g ?_ ?_
 .simp[execOp,r,p,Instr.next,f,t]
 .refine .tup _ _ (λ_=>.bool false) rfl ?_ ?_
  .intro i x e;match i with
   | 0=>rfl
   | n+1=>simp at e
  .intro i x e;match i with
   | 0=>simp at e;subst e;exact RV.lit _
   | n+1=>simp at e
theorem Zu[aB](l:bJ (aG T) c)(j:TR (aG T) c tm a.tmps){x:aQ}{y:Operand}{t e:TypeId}{n:Nat}(p:o.op=.call ⟨.builtin .len,#[y],#[t]⟩)(h:aN T x y=true)(m:P.underlying t=some (.slice e))(g:(aC tm x=.lit (.slice none 0 0)/\n=0)\/(∃f es,aC tm x=.sl f es/\n=es.length)\/(∃id tot off,aC tm x=.ms id tot off n)\/∃es,aC tm x=.vw es/\n=es.length):
 cZ P (aG T) c fl o a (.lit<|.int .i64 n) c.H:=by
 have i:=aR l j h;have d:∃ad cap,a.eval y=.slice ad n cap:=by
  rcases g with⟨g,rfl⟩ | ⟨f,es,g,rfl⟩ | ⟨id,tot,off,g⟩ | ⟨es,g,rfl⟩<;>rw[g] at i
  .exact⟨none,0,i.lit_inv⟩
  .have k:=i.sl_inv;generalize a.eval y=w at k;cases k with
   | nil _ ad cap=>exact⟨ad,cap,rfl⟩
   | sl _ _ b off cap=>exact⟨_,cap,rfl⟩
  .let⟨ad,cap,s,q,d,_⟩:=i.ms_inv;exact⟨ad,cap,d⟩
  .let⟨ad,cap,d,_⟩:=i.vw_inv;exact⟨ad,cap,d⟩
 let⟨ad,cap,d⟩:=d;refine bM (cv:=.int .i64 n) l ?_<|RV.lit _;simp[execOp,p,resolve,invoke,builtin,Builtin.len_,run_underlying m,d,goInt]
theorem n8[aB](l:bJ (aG T) c)(f:TR (aG T) c tm a.tmps){x:aQ}{y:Operand}{t e:TypeId}{n:Nat}(r:o.op=.call ⟨.builtin .cap,#[y],#[t]⟩)(h:aN T x y=true)(m:P.underlying t=some (.slice e))(d:(aC tm x=.lit (.slice none 0 0)/\n=0)\/(∃es,aC tm x=.sl true es/\n=es.length)):
 cZ P (aG T) c fl o a (.lit<|.int .i64 n) c.H:=by
 have i:=aR l f h;have g:∃ad len,a.eval y=.slice ad len n:=by
  rcases d with⟨d,rfl⟩ | ⟨es,d,rfl⟩<;>rw[d] at i
  .exact⟨none,0,i.lit_inv⟩
  .have j:=i.sl_inv;generalize a.eval y=w at j;cases j with
   | nil _ ad cap p=>exact⟨ad,0,by rw[p rfl];rfl⟩
   | sl _ _ b off cap cc z C s k A u D B G q E v=>exact⟨_,_,by rw[q rfl]⟩
 let⟨ad,len,g⟩:=g;refine bM (cv:=.int .i64 n) l ?_<|RV.lit _;simp[execOp,r,resolve,invoke,builtin,Builtin.cap_,run_underlying m,g,goInt]
theorem MP[aB](p:bJ (aG T) c)(q:TR (aG T) c tm a.tmps){x:aQ}{y:Operand}{t k e:TypeId}{n:Nat}(r:o.op=.call ⟨.builtin .len,#[y],#[t]⟩)(h:aN T x y=true)(l:P.underlying t=some (.map k e))(f:(aC tm x=.lit (.map none)/\n=0)\/(∃id d,aC tm x=.mp id/\c.H[id]?=some (.mp d)/\n=d.length)\/∃d,aC tm x=.rmp d/\n=d.length):
 cZ P (aG T) c fl o a (.lit<|.int .i64 n) c.H:=by
 have g:=aR p q h;refine bM (cv:=.int .i64 n) p ?_<|RV.lit _;rcases f with⟨f,rfl⟩ | ⟨id,d,f,s,rfl⟩ | ⟨d,f,rfl⟩<;>rw[f] at g
 .simp[execOp,r,resolve,invoke,builtin,Builtin.len_,run_underlying l,g.lit_inv,goInt]
 .let⟨b,u,_,w⟩:=g.mp_inv;let⟨es,i,j,m,_⟩:=p.map id d b s w;simp[execOp,r,resolve,invoke,builtin,Builtin.len_,run_underlying l,u,goInt,getObj,Sem.run,j,m.1]
 .let⟨b,es,i,v,u,j,m,_⟩:=g.rmp_inv;simp[execOp,r,resolve,invoke,builtin,Builtin.len_,run_underlying l,u,goInt,getObj,Sem.run,j,m]
theorem G3[aB](f:bJ (aG T) c)(d:TR (aG T) c tm a.tmps){x:aQ}{y:Operand}{t:TypeId}{v r:Value}(g:o.op=.call ⟨.builtin .len,#[y],#[t]⟩)(h:aN T x y=true)(k:aC tm x=.lit v)(j:aK P (Builtin.len_ #[t] 0 #[v])=some r): cZ P (aG T) c fl o a (.lit r) c.H:=by
 have b:=aR f d h;rw[k] at b;refine bM (cv:=r) f ?_<|RV.lit _;have i:=cD (w:=c.w) j;have e:Builtin.len_ #[t] o.type #[v]=Builtin.len_ #[t] 0 #[v]:=rfl;simp[execOp,g,resolve,invoke,builtin,b.lit_inv,e,i]
theorem aCv[aB](f:bJ (aG T) c){y:Operand}{t e:TypeId}{n:Nat}(b:o.op=.call ⟨.builtin .len,#[y],#[t]⟩)(d:P.underlying t=some (.array n e)): cZ P (aG T) c fl o a (.lit<|.int .i64 n) c.H:=by
 refine bM (cv:=.int .i64 n) f ?_<|RV.lit _;simp[execOp,b,resolve,invoke,builtin,Builtin.len_,run_underlying d,goInt]
theorem JF[aB](p:bJ (aG T) c)(l:TR (aG T) c tm a.tmps){k:List aQ}{ys:Array Operand}{ts:Array TypeId}{vs:List Value}{r:Value}{b:Builtin}(n:o.op=.call ⟨.builtin b,ys,ts⟩)(A:b=.max\/b=.min)(h:dP T k ys.toList=true)(C:zG (k.map<|aC tm)=some vs)(u:aK P (if b=.max then Builtin.max_ #[] 0 vs.toArray else Builtin.min_ #[] 0 vs.toArray)=some r): cZ P (aG T) c fl o a (.lit r) c.H:=by
 let⟨y,t⟩:=Zt p l h;have e:=ND C;have f:ys.map a.eval=vs.toArray:=by
  apply Array.ext_getElem?;intro i;have z:vs.length=k.length:=by have:=congrArg List.length e;simpa using this.symm
  by_cases q:i<vs.length
  .have x:(k.map<|aC tm)[i]?=some (.lit vs[i]):=by rw[e];simp[q]
   let⟨v,B,s⟩:=t i _ x;have:=s.lit_inv;subst this;have:(ys.map a.eval)[i]?=some vs[i]:=by simpa using B
   rw[this];simp[q]
  .have D:ys.size=vs.length:=by simpa [z] using y.symm
   rw[Array.getElem?_eq_none<|by simp;omega,Array.getElem?_eq_none<|by simp;omega]
 refine bM (cv:=r) p ?_<|RV.lit _;have j:=cD (w:=c.w) u;rcases A with rfl | rfl
 .simp only[if_true] at j;have e2:∀(g:Array Value) (m:TypeId),Builtin.max_ ts m g=Builtin.max_ #[] 0 g:=λ_ _=>rfl;simp[execOp,n,resolve,invoke,builtin,f,e2,j]
 .rw[if_neg<|by simp] at j;have e2:∀(g:Array Value) (m:TypeId),Builtin.min_ ts m g=Builtin.min_ #[] 0 g:=λ_ _=>rfl;simp[execOp,n,resolve,invoke,builtin,f,e2,j]
end
section
variable {P:Program}{T:List bK}{c:bV}{fl:Nat}{o:Oper}{a:Act}{tm:List AV}
def oP(FT:Nat->Option Nat)(c:bV)(cs:List AV)(cv:Array Value): Prop:=
 cv.size=cs.length/\∀(j:Nat) (x:AV),cs[j]?=some x->∃v,cv[j]?=some v/\aY v=true/\RV FT c x v
theorem KD(off:Nat)(v a:Array Value): (v.zipIdx.foldl (λcs (x:Value×Nat)=>cs.setIfInBounds (off+x.2) x.1) a).size=a.size /\
 ∀k,(v.zipIdx.foldl (λcs (x:Value×Nat)=>cs.setIfInBounds (off+x.2) x.1) a)[k]?=if off<=k/\k<off+v.size/\k<a.size then v[k-off]? else a[k]?:=by
 have e:v.zipIdx.foldl (λcs (x:Value×Nat)=>cs.setIfInBounds (off+x.2) x.1) a=(v.toList.zipIdx 0).foldl (λcs (x:Value×Nat)=>cs.setIfInBounds (off+x.2) x.1) a:=by
  rw[<-Array.foldl_toList];simp
 rw[e];have h:=Great.foldl_set off v.toList 0 a;simpa using h
theorem KF{b:Nat->Option (Nat×Nat)}{a:Array Value}{i off size:Nat}{v:Value}{rest:List<|Nat×Value}(d:b i=some (off,size))(e:v.cells.size=size)(f:off+size<=a.size):
 Instr.fill b a ((i,v)::rest)=Instr.fill b (v.cells.zipIdx.foldl (λcs (x:Value×Nat)=>cs.setIfInBounds (off+x.2) x.1) a) rest:=by
 rw[Instr.fill];simp only[d,e];rw[if_neg<|by simp;omega]
theorem NW[aB](A:bJ (aG T) c)(n:TR (aG T) c tm a.tmps){d:Nat->Option (Nat×Nat)}: ∀(p:List<|Nat×Nat×aQ) (q:List<|Nat×Operand) (b cs:List AV) (cv:Array Value),
 vE T d p q=true->oP (aG T) c b cv->Ct b (p.map λ(o,s,x)=>(o,s,aC tm x))=some cs->
 ∃r,Instr.fill d cv (q.map λ(i,x)=>(i,a.eval x))=some r/\oP (aG T) c cs r
 | [],[],b,cs,cv,_,g,f=>by
  simp only[List.map_nil,Ct,Option.some.injEq] at f;subst f;exact⟨cv,rfl,g⟩
 | (off,s,x)::p,(i,y)::q,b,cs,cv,l,g,f=>by
  simp only[vE,Bool.and_eq_true] at l;let⟨⟨B,I⟩,h⟩:=l;have w:d i=some (off,s):=by simpa using B
  simp only[List.map_cons,Ct] at f;split at f
  .cases f
  .rename_i ys J;split at f
   .rename_i e;let⟨H,K⟩:=vF (aR A n I) J;have t:(a.eval y).cells.size=s:=H.trans e.1;let⟨L,G⟩:=KD off (a.eval y).cells cv;have m:oP (aG T) c (aU b off ys)<|(a.eval y).cells.zipIdx.foldl (λcs (x:Value×Nat)=>cs.setIfInBounds (off+x.2) x.1) cv:=by
     refine⟨by rw[L,dX<|by omega];exact g.1,λj z k=>?_⟩;rw[G j];rw[As<|by omega] at k;have E:=g.1;split at k
     .rename_i D;rw[if_neg<|by omega];exact g.2 j z k
     .rename_i D;split at k
      .rename_i v;rw[if_pos<|by omega];exact K _ z k
      .rename_i v;rw[if_neg<|by omega];exact g.2 j z k
    let⟨r,C,F⟩:=NW A n p q _ cs _ h m f;refine⟨r,?_,F⟩;simp only[List.map_cons];rw[KF w t<|by rw[g.1];exact e.2];exact C
   .cases f
 | [],_::_,_,_,_,l,_,_=>by cases l
 | (_,_,_)::_,[],_,_,_,l,_,_=>by cases l
theorem Fi[aB]{FT:Nat->Option Nat}{z:List Value}(a:∀u∈z,aY u=true): oP FT c (z.map .lit) z.toArray:=by
 refine⟨by simp,λj x b=>?_⟩;simp only[List.getElem?_map,Option.map_eq_some_iff] at b;obtain⟨u,d,rfl⟩:=b;exact⟨u,by simpa using d,a u<|List.mem_of_getElem? d,RV.lit u⟩
theorem FM{FT:Nat->Option Nat}{cs:List AV}{cv:Array Value}(h:oP FT c cs cv): RV FT c (.agg cs)<|.agg cv:=by
 refine .agg cs cv (λi=>(cv[i]?).getD aW) h.1 ?_ ?_
 .intro i x a;let⟨v,b,d,_⟩:=h.2 i x a;simp[b,d]
 .intro i x a;let⟨v,b,_,e⟩:=h.2 i x a;simpa [b] using e
theorem SN{b:List Field}(h:Qz P b=true): ∃a,b.mapM (λf=>(P.info? f.type).map λi=>(f.offset,i.size))=some a /\
 ∀i,a[i]?=Bt P b.toArray i:=by
 induction b with
 | nil=>exact⟨[],by simp,λi=>by simp[Bt]⟩
 | cons f b j=>
  simp only[Qz,List.all_cons,Bool.and_eq_true] at h;let⟨e,g,d⟩:=j h.2;let⟨n,c⟩:=Option.isSome_iff_exists.1 h.1;refine⟨(f.offset,n.size)::e,by simp[List.mapM_cons,c,g],λi=>?_⟩;cases i with
  | zero=>simp[Bt,c]
  | succ i=>
   have:=d i;simp only[List.getElem?_cons_succ,this];simp[Bt]
theorem SB[aB](y:bJ (aG T) c)(j:TR (aG T) c tm a.tmps){z:List Value}{m:List<|Nat×Nat×aQ}{f:Array<|Nat×Operand}{t:TypeId}{cs:List AV}(G:o.op=.build t f)(E:jR P t z=true)(d:bZ P T (.build z m) (.build t f)=true)(B:Ct (z.map .lit) (m.map λ(o,s,x)=>(o,s,aC tm x))=some cs):
 cZ P (aG T) c fl o a (.agg cs) c.H:=by
 let⟨i,v,C,D,h,l⟩:=gA E;simp only[bZ,E,Bool.true_and] at d;have b:∃r,P.built t (f.map λ(i,x)=>(i,a.eval x)).toList=some r/\oP (aG T) c cs r:=by
  have u:(f.map λ(i,x)=>(i,a.eval x)).toList=f.toList.map λ(i,x)=>(i,a.eval x):=by simp
  rw[u];split at d
  .rename_i J q;simp only[Bool.and_eq_true] at d;let⟨K,I,F⟩:=SN d.1;have p:(λi=>K.toArray[i]?)=Bt P J:=by
    funext i;have:=F i;simpa using this
   let⟨r,k,g⟩:=NW y j m f.toList _ cs _ d.2 (Fi l) B;refine⟨r,?_,g⟩;unfold Program.built;simp only[C,q,D,I,p,h];exact k
  .rename_i n e q;split at d
   .rename_i L A;let⟨r,k,g⟩:=NW y j m f.toList _ cs _ d (Fi l) B;refine⟨r,?_,g⟩;unfold Program.built;simp only[C,q,D,A,h];exact k
   .cases d
  .cases d
 let⟨r,k,g⟩:=b;refine bM (cv:=.agg r) y ?_<|FM g;simp only[execOp,G,Sem.run_bind,run_build c.w t _ r k,Result.andThen_ok,Sem.run_pure]
def A5(FT:Nat->Option Nat)(c:bV)(s:Nat)(es:List<|List AV)(cv:Array Value): Prop:=
 cv.size=es.length*s/\(∀e∈es,e.length=s)/\∀i j x,bL es i j=some x->∃v,cv[i*s+j]?=some v/\aY v=true/\RV FT c x v
theorem TZ[aB](E:bJ (aG T) c)(o:TR (aG T) c tm a.tmps){s:Nat}: ∀(v:List<|Nat×aQ) (w:List<|Nat×Operand) (es es':List<|List AV) (cv:Array Value),
 Gu T v w=true->A5 (aG T) c s es cv->Ga s es (v.map λ(i,x)=>(i,aC tm x))=some es'->
 es'.length=es.length/\∃r,Instr.fill (λi=>some (i*s,s)) cv (w.map λ(i,x)=>(i,a.eval x))=some r/\A5 (aG T) c s es' r
 | [],[],es,es',cv,_,f,d=>by
  simp only[List.map_nil,Ga,Option.some.injEq] at d;subst d;exact⟨rfl,cv,rfl,f⟩
 | (i,x)::v,(X,y)::w,es,es',cv,n,f,d=>by
  simp only[Gu,Bool.and_eq_true,beq_iff_eq] at n;let⟨⟨rfl,U⟩,g⟩:=n;simp only[List.map_cons,Ga] at d;split at d
  .cases d
  .rename_i ys V;split at d
   .rename_i b;let⟨O,W⟩:=vF (aR E o U) V;have A:(a.eval y).cells.size=s:=O.trans b.1;have D:(i+1)*s<=es.length*s:=Nat.mul_le_mul_right s b.2;rw[Nat.add_mul] at D;let⟨J,N⟩:=KD (i*s) (a.eval y).cells cv;have q:A5 (aG T) c s (es.set i ys)<|(a.eval y).cells.zipIdx.foldl (λcs (x:Value×Nat)=>cs.setIfInBounds (i*s+x.2) x.1) cv:=by
     refine⟨by rw[J];simpa using f.1,?_,?_⟩
     .intro e he;rcases List.mem_or_eq_of_mem_set he with h | h
      .exact f.2.1 e h
      .rw[h];exact b.1
     .intro k j z I;rw[N];let⟨F,l,t⟩:=dI I;by_cases C:k=i
      .subst C;have:F=ys:=by
        rw[List.getElem?_set] at l;simp only[b.2,if_true] at l;exact (Option.some.inj l).symm
       subst this;have H:j<s:=by rw[<-b.1];exact (List.getElem?_eq_some_iff.1 t).1
       have R:=f.1;rw[if_pos<|by omega];let⟨u,L,G,S⟩:=W j z t;refine⟨u,?_,G,S⟩;rw[<-L];congr 1;omega
      .rw[getElem?_set_ne' C] at l;have H:j<s:=by rw[<-f.2.1 F<|List.mem_of_getElem? l];exact (List.getElem?_eq_some_iff.1 t).1
       have p:¬(i*s<=k*s+j/\k*s+j<i*s+(a.eval y).cells.size/\k*s+j<cv.size):=by
        rcases Nat.lt_or_gt_of_ne C with h | h
        .have:(k+1)*s<=i*s:=Nat.mul_le_mul_right s h;rw[Nat.add_mul] at this;omega
        .have:(i+1)*s<=k*s:=Nat.mul_le_mul_right s h;rw[Nat.add_mul] at this;omega
       rw[if_neg p];exact f.2.2 k j z<|by simp[bL,l,t]
    let⟨M,r,Q,K⟩:=TZ E o v w _ es' _ g q d;refine⟨by simpa using M,r,?_,K⟩;simp only[List.map_cons];rw[KF (off:=i*s) (size:=s) rfl A<|by rw[f.1];omega];exact Q
   .cases d
 | [],_::_,_,_,_,n,_,_=>by cases n
 | (_,_)::_,[],_,_,_,n,_,_=>by cases n
theorem Ze[aB]{n i j:Nat}{e:List AV}{x:AV}(h:bL (List.replicate n e) i j=some x): i<n/\e[j]?=some x:=by
 let⟨c,a,b⟩:=dI h;rw[List.getElem?_replicate] at a;split at a
 .cases a;exact⟨by assumption,b⟩
 .cases a
theorem Bc[aB]{FT:Nat->Option Nat}{s n m:Nat}{z:List Value}{cv:Array Value}(h:z.length=s)(k:∀u∈z,aY u=true)(q:cv.toList=z)(t:n<=m):
 (∀e∈List.replicate n (z.map AV.lit),e.length=s)/\∀i j x,bL (List.replicate n<|z.map AV.lit) i j=some x->
  ∃v,((Array.range<|m*s).map (cv[· % cv.size]!))[i*s+j]?=some v/\aY v=true/\RV FT c x v:=by
 refine⟨λe he=>by rw[List.mem_replicate] at he;rw[he.2];simpa using h,λi j x r=>?_⟩;let⟨w,p⟩:=Ze r;simp only[List.getElem?_map,Option.map_eq_some_iff] at p;obtain⟨u,f,rfl⟩:=p;have d:j<s:=by rw[<-h];exact (List.getElem?_eq_some_iff.1 f).1
 have g:cv.size=s:=by rw[<-Array.length_toList,q,h]
 have l:i*s+j<m*s:=MC (by omega) d;have b:(i*s+j) % cv.size=j:=by rw[g,Nat.mul_comm,Nat.mul_add_mod,Nat.mod_eq_of_lt d]
 refine⟨u,?_,k u<|List.mem_of_getElem? f,RV.lit u⟩;have o:cv[j]?=some u:=by rw[<-Array.getElem?_toList,q];exact f
 simp only[Array.getElem?_map,Array.getElem?_range,l,if_true,Option.map_some,b];rw[getElem!_def,o]
end
end Go.Proofs.YtideamafblopcaaGreatDoor.Av
