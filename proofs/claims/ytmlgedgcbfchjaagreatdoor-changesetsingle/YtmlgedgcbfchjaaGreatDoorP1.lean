/- A part of the proof of a law. -/
import Derived.Calls
import Derived.Orders
import Derived.LoopN
import Derived.Below
import Derived.KernelRfl
import Derived.Laws.CopyRow
import Derived.Laws.AppendOwn
import Derived.Laws.Entries
import Derived.Great.BuildSlice
import Derived.Laws.Tables
set_option maxRecDepth 100000
set_option maxHeartbeats 4000000
set_option linter.all false
namespace Go.Proofs.YtmlgedgcbfchjaaGreatDoor.Av
open Go
def Za:=@Option.some.injEq
def Zb:=@List.getElem?_eq_getElem
def Zc:=@Nat.eq_of_beq_eq_true
def Zd:=@Bool.and_eq_true
def Ze:=@List.getElem?_eq_some_iff
def Zf:=@Nat.le_refl
def Zg:=@List.mem_of_getElem?
def Zh:=@List.length_append
def Zi:=@Prod.mk.injEq
def Zj:=@Nat.le_of_ble_eq_true
def Zk:=@List.getElem?_map
def Zl:=@of_decide_eq_true
def Zm:=@run_underlying
def Zn:=@Bool.false_eq_true
def Zo:=@List.getElem?_append_left
def Zp:=@of_decide_eq_false
def Zq:=@Option.map_eq_some_iff
def Zr:=@Nat.mul_le_mul_right
def Zs:=@List.getElem?_take
def Zt:=@List.getElem?_cons_zero
def Zu:=@if_pos
def Zv:=@List.getElem?_set_ne
def Zw:=@List.getElem?_drop
def Zx:=@Array.length_toList
def Zy:=@List.getElem?_eq_none
def Zz:=@if_true
def ZA:=@Nat.add_mul
def ZB:=@Nat.le_trans
def ZC:=@beq_iff_eq
def ZD:=@List.mem_append
def ZE:=@List.map_cons
def ZF:=@if_neg
def ZG:=@Nat.zero_le
def ZH:=@List.length_take
def ZI:=@Nat.lt_or_ge
def ZJ:=@List.mem_singleton
def ZK:=@List.length_eq_zero_iff
def ZL:=@List.getElem?_cons_succ
def ZM:=@List.mem_cons_self
def ZN:=@List.mem_cons
def ZO:=@List.length_map
def ZP:=@List.getElem_mem
def ZQ:=@List.mem_cons_of_mem
def ZR:=@Option.some.inj
def ZS:=@List.map_congr_left
def ZU:=@Array.getElem?_push
def ZV:=@List.length_drop
def ZW:=@List.take_of_length_le
def ZX:=@List.getElem?_append_right
def ZY:=@Nat.le_add_right
def ZZ:=@List.mem_of_mem_drop
def Z0:=@Nat.zero_add
def Z1:=@List.length_nil
def Z2:=@Option.bind_some
def Z3:=@List.getElem?_set_self
def Z4:=@decide_eq_true_eq
def Z5:=@List.getElem?_set
def Z6:=@Array.getElem?_eq_getElem
def Z7:=@List.mem_of_mem_take
def Z8:=@Array.getElem?_toList
def Z9:=@if_false
def Ya:=@List.map_map
def Yb:=@Array.getElem?_eq_none
def Yc:=@List.length_cons
def Yd:=@List.length_singleton
def Ye:=@List.append_assoc
def Yf:=@Array.getD_eq_getD_getElem?
def Yg:=@List.take_append_of_le_length
def Yh:=@List.mem_map
def Yi:=@List.mem_iff_getElem?
def Yj:=@decide_eq_true
def Yk:=@List.getElem?_append
def Yl:=@List.all_eq_true
def Ym:=@List.ext_getElem?
def Yn:=@List.map_nil
def Yo:=@List.length_replicate
def Yp:=@Option.getD_some
def Yq:=@Nat.min_eq_left
def Yr:=@List.length_set
def Ys:=@Nat.le_succ
def Yt:=@List.flatten_cons
def Yu:=@Nat.add_assoc
def Yv:=@setRow_heap
def Yw:=@Nat.one_mul
def Yx:=@Nat.ble_eq_true_of_le
def Yy:=@setRow_other
def Yz:=@Option.map_some
def YA:=@Int.toNat_natCast
def YB:=@Array.getElem?_setIfInBounds_ne
def YC:=@Nat.blt_eq
def YD:=@List.drop_zero
def YE:=@Nat.not_lt_zero
def YF:=@Nat.ne_of_beq_eq_false
def YG:=@Bool.not_eq_true'
def YH:=@Array.getElem?_modify
def YI:=@decide_eq_false
def YJ:=@List.map_append
def YK:=@Result.andThen_ok
def YL:=@List.mem_or_eq_of_mem_set
def YM:=@Nat.lt_of_lt_of_le
def YN:=@Nat.mul_comm
def YO:=@List.eq_nil_of_length_eq_zero
def YP:=@List.size_toArray
def YQ:=@Nat.zero_mul
def YR:=@Nat.sub_mul
def YS:=@List.getD_eq_getElem?_getD
def YT:=@List.take_append_drop
def YU:=@Bool.or_eq_true
def YV:=@run_storeCells_at
def YW:=@Sem.run_bind
def YX:=@List.take_add_one
def YY:=@List.getElem?_range
def YZ:=@Nat.add_sub_cancel_left
def Y2:=@List.drop_left
def Y3:=@wpOps_cons
def Y4:=@Sem.run_pure
def Y5:=@Nat.beq_refl
def Y6:=@not_false_eq_true
def Y7:=@and_self
def Y8:=@Nat.mul_le_mul
def Y9:=@List.take_take
def Xa:=@Array.getElem?_eq_some_iff
def Xb:=@Array.getElem?_append_left
def Xc:=@wp_region
def Xd:=@List.flatten_nil
def Xe:=@IntKind.wrap_i64
def Xf:=@List.mem_of_find?_eq_some
def Xg:=@Bool.not_true
def Xh:=@Nat.le_add_left
def Xi:=@Int.mul_nonpos_of_nonneg_of_nonpos
def Xj:=@Array.ext_getElem?
def Xk:=@wp_seq
def Xl:=@Nat.le_succ_of_le
def Xm:=@Nat.add_zero
def Xn:=@List.take_left
def Xo:=@List.drop_of_length_le
def Xp:=@List.getElem!_eq_getElem?_getD
def Xq:=@Array.ext'
def Xr:=@Bool.and_self
def Xs:=@List.mem_iff_getElem
def Xt:=@List.nil_append
def Xu:=@Array.size_push
def Xw:=@List.flatten_append
def Xx:=@Nat.succ_mul
def Xy:=@Nat.ne_of_lt
def Xz:=@List.map_set
def XA:=@wp_loop_rounds
def XB:=@Nat.eq_zero_or_pos
def XC:=@List.findIdx?_cons
def XD:=@List.drop_drop
def XF:=@Bool.false_ne_true
def XG:=@List.getElem?_eq_none_iff
def XH:=@List.drop_eq_getElem_cons
def XI:=@Int.mul_left_comm
def XJ:=@wp_cond_false
def XK:=@Option.isSome_iff_exists
def XL:=@List.getElem?_take_of_lt
def XM:=@List.all_cons
def XN:=@Array.getElem?_replicate
def XO:=@List.take_length
def XP:=@List.getElem?_replicate
def XQ:=@Array.ext
def XR:=@Nat.sub_self
def XS:=@Addr.add_lit
def XT:=@List.forIn_cons
def XU:=@List.cons.injEq
def XV:=@Bool.eq_iff_iff
def XX:=@Array.getElem?_append
def XY:=@size_zeroCells
def XZ:=@List.forIn_nil
def X2:=@DataW.trod_int
def X3:=@Bool.not_false
def X4:=@run_firstCells_some
def X5:=@beq_eq_false_iff_ne
def X6:=@List.take_set_of_le
def X7:=@Int.toNat_of_nonneg
def X8:=@List.map_take
def X9:=@List.map_drop
def Wa:=@decide_eq_true_iff
def Wb:=@List.forIn_toArray
def Wc:=@Int.natCast_nonneg
def Wd:=@wp_cond_true
def We:=@true_and
def Wf:=@bne_self_eq_false
def Wg:=@Nat.add_comm
def Wh:=@Array.size_append
def Wi:=@eq_of_beq
def Wj:=@Option.getD_none
def Wk:=@Nat.lt_succ_self
def Wl:=@Array.eq_empty_of_size_eq_zero
def Wm:=@Nat.min_def
def Wn:=@Int.le_refl
def Wo:=@List.append_nil
def Wp:=@Int.natCast_mul
def Wq:=@heap_alloc_new
def Wr:=@List.take_zero
def Ws:=@List.mem_range
def Wt:=@List.mapM_cons
def Wv:=@Bool.true_and
def Ww:=@ne_eq
def Wx:=@decide_eq_false_iff_not
def Wy:=@eq_comm
def Wz:=@dif_pos
def WA:=@Nat.sub_zero
def WB:=@Nat.le_total
def WD:=@List.drop_eq_nil_of_le
def WE:=@Int.mul_comm
def WG:=@List.set_getElem_self
def WH:=@List.getElem?_toArray
def WI:=@Array.getElem?_mapIdx
def WJ:=@wp_block
def WM:=@grownCap_ge
def WN:=@Nat.div_one
def WP:=@Nat.div_lt_of_lt_mul
def WQ:=@List.map_id
def WR:=@List.getElem?_of_mem
def WS:=@List.drop_eq_nil_iff
def WT:=@Int.mul_pos
def WU:=@Bool.or_eq_false_iff
def WV:=@List.mem_map_of_mem
def WW:=@List.length_pos_iff
def WY:=@Nat.pos_of_ne_zero
def WZ:=@Nat.lt_or_gt_of_ne
def W4:=@List.find?_eq_none
def W5:=@wp_skip
def W6:=@List.reverse_cons
def W7:=@Function.comp_def
def W8:=@DataW.trod_struct
def W9:=@Array.toList_push
def Va:=@Array.getElem_map
def Vb:=@mem_ready
def Vc:=@Nat.mod_eq_of_lt
def Vd:=@List.isEmpty_iff
def Ve:=@List.countP_cons
def Vf:=@List.cons_append
def Vh:=@And.intro
inductive AV where
 | undef
 | lit (v:Value)
 | sl (full:Bool) (es:List (List AV))
 | ms (id tot off len:Nat)
 | ptr (id tot idx off:Nat)
 | rptr (cs:List AV)
 | sptr (cs:List AV)
 | vw (es:List (List AV))
 | rmp (ents:List (Value×AV))
 | mp (id:Nat)
 | it (id:Nat)
 | fn (vi:Nat) (caps:List AV)
 | agg (cs:List AV)
 | tup (vs:List AV)
 deriving Inhabited
inductive dK where
 | blk (s:Nat) (es:List (List AV))
 | mp (ents:List (Value×AV))
 | raw (ob:Obj)
 deriving Inhabited
abbrev aU:=List dK
structure St where
 tmps:List AV
 heap:aU
inductive bA where
 | tmp (t:Nat)
 | lit (v:Value)
 | agg (vs:List Value)
 | fn (vi:Nat)
 | glob (g:Nat)
abbrev CF:=Nat->Nat->List AV->aU->Option (AV×aU)
def Le(cf cf':CF): Prop:=∀fl vi args H x,cf fl vi args H=some x->cf' fl vi args H=some x
structure aAg where
 run:CF->Nat->List AV->aU->Option (AV×aU)
 mono:∀cf cf',Le cf cf'->∀fl args H x,run cf fl args H=some x->run cf' fl args H=some x
abbrev tC(g:Nat->List AV->aU->Option (AV×aU)): aAg:=⟨λ_=>g,λ_ _ _ _ _ _ _ h=>h⟩
class aF where
 tab:Nat->Option (List AV)
 ok:Nat->Array Value->Prop:=λ_ _=>True
 prim:Nat->Option aAg:=λ_=>none
inductive Ju where
 | mov (x:bA)
 | movN (x:bA)
 | pick (c a b:bA)
 | alloc (z:List Value)
 | claim (s:Nat)
 | allocC (z:List Value) (cl:List (Nat×Nat))
 | box (x:bA)
 | boxC (x:bA) (cl:List (Nat×Nat))
 | build (z:List Value) (parts:List (Nat×Nat×bA))
 | buildSl (pu:Bool) (s n:Nat) (z:List Value) (parts:List (Nat×bA))
 | load (agg:Bool) (n:Nat) (x:bA)
 | store (n:Nat) (x v:bA)
 | nilCheck (x:bA)
 | ibin (op:BinOp) (x y:bA)
 | bin (op:BinOp) (t:TypeId) (x y:bA)
 | un (op:UnOp) (x:bA)
 | conv (src dst:TypeId) (x:bA)
 | fieldAddr (off:Nat) (x:bA)
 | field (agg:Bool) (n off:Nat) (x:bA)
 | idxAddr (s:Nat) (x i:bA)
 | idxArr (s n:Nat) (x i:bA)
 | index (agg:Bool) (s n:Nat) (x i:bA)
 | strIdx (t:TypeId) (x i:bA)
 | slice (s:Nat) (x:bA) (lo hi mx:Option bA)
 | strSlice (t:TypeId) (x:bA) (lo hi:Option bA)
 | mkSlice (s:Nat) (z:List Value) (bytes:Nat) (len cap:bA)
 | mkMap
 | lookup (kt:TypeId) (z:bA) (m k:bA) (ok:Bool)
 | mapUpd (kt:TypeId) (m k v:bA)
 | lenS (x:bA)
 | lenM (x:bA)
 | lenStr (t:TypeId) (x:bA)
 | lenC (n:Nat)
 | append (s bytes:Nat) (x y:bA)
 | appendZ (s bytes:Nat) (z:List Value) (x n:bA)
 | copy (s:Nat) (x y:bA)
 | clear (s:Nat) (z:List Value) (x:bA)
 | delete (kt:TypeId) (m k:bA)
 | minmax (mx:Bool) (xs:List bA)
 | mkFn (vi:Nat) (caps:List bA)
 | call (pu:Bool) (vi:Nat) (args:List bA)
 | callv (pu:Bool) (x:bA) (args:List bA)
 | callF (vi:Nat) (args:List bA)
 | callT (s vi:Nat) (args:List bA)
 | callB (vi:Nat) (args:List bA)
 | callS (vi:Nat) (args:List bA)
 | capS (x:bA)
 | extract (x:bA) (i:Nat)
 | freeze (x:bA)
 | loadF (n k:Nat) (x:bA)
 | appendP (s bytes:Nat) (x y:bA)
 | rangeStr (x:bA)
 | nextStr (x:bA)
structure bS where
 dst:Option Nat
 op:Ju
 guard:Option (Nat×Bool)
inductive bT where
 | skip
 | region (draw:Bool) (ck:List (Nat×Nat)) (ops:List bS)
 | seq (a b:bT)
 | cond (c:bA) (a b:bT)
 | block (id:Nat) (c:bT)
 | loop (live:Option (List Bool)) (tr:Bool) (c:bT)
 | exit (id:Nat)
 | ret
 | frz (t:Nat) (c:bT)
 | mask (lx lr:List Bool) (tr:Bool) (c:bT)
 | told (li lx lr:List Bool) (c:bT)
 | scope (c:bT)
 | nilIf (t d0 d1:Nat) (a b:bT)
 | loopV (live lx lr:List Bool) (t:Nat) (c:bT)
 | stop
inductive aAh where
 | tmp (t:Nat)
 | cell (t n:Nat) (agg:Bool)
structure cQ where
 fid:Nat
 nt:Nat
 rets:List aAh
 body:bT
inductive cU where
 | normal
 | exit (id:Nat)
 | ret
def bO: Value:=.slice none 0 0
def bM: Value:=.tuple #[]
def aQ{α:Type}(P:Program): Sem α->Option α
 | .pure a=>some a
 | .program k=>aQ P<|k P
 | .mark _ k=>aQ P k
 | _=>none
def bC: Value->Bool
 | .agg _=>false
 | .tuple _=>false
 | _=>true
def wJ: Value->Bool
 | .nilIface=>false
 | _=>true
def cellsOf: AV->Option (List AV)
 | .undef=>none
 | .tup _=>none
 | .agg cs=>some cs
 | .lit v=>if bC v then some [.lit v] else none
 | v=>some [v]
def uC(v:Value): AV:=match v with
 | .slice a l c=>match a with
  | none=>match l with
   | 0=>match c with
    | 0=>.sl false []
    | _=>.lit v
   | _=>.lit v
  | _=>.lit v
 | _=>.lit v
def nrm: AV->AV
 | .lit v=>uC v
 | .sl _ es=>.sl false es
 | v=>v
def LR: AV->AV
 | .agg cs=>.agg<|cs.map nrm
 | v=>nrm v
def Gt: AV->AV
 | .lit v=>uC v
 | .sl _ es=>.sl false es
 | .sptr cs=>.sptr cs
 | .rmp ents=>.rmp ents
 | _=>.undef
def rd(H:aU): AV->Option (List<|List AV)
 | .lit (.slice none 0 0)=>some []
 | .sl _ es=>some es
 | .vw es=>some es
 | .ms id tot off len=>
  match H[id]? with
  | some (.blk _ es)=>if es.length=tot then some ((es.drop off).take len) else none
  | _=>none
 | _=>none
def eE(H:aU)(n:Nat): Nat->AV->AV
 | _,.lit v=>uC v
 | _,.sl _ es=>.sl false es
 | _,.sptr cs=>.sptr cs
 | _,.rmp ents=>.rmp ents
 | d+1,.mp id=>
  if n<=id then match H[id]? with
   | some (.mp ents)=>.rmp<|ents.map λe=>(e.1,eE H n d e.2)
   | _=>.undef
  else .undef
 | d+1,.ms id tot off len=>
  if n<=id then match rd H (.ms id tot off len) with
   | some es=>.sl false<|es.map λe=>e.map<|eE H n d
   | none=>.undef
  else .undef
 | _,_=>.undef
def fE: Nat:=6
def gH(H:aU)(n:Nat): AV->AV
 | .lit v=>uC v
 | .sl _ es=>.sl false es
 | .sptr cs=>.sptr cs
 | .rmp ents=>.rmp ents
 | .ms id tot off len=>if id<n then .ms id tot off len else eE H n fE (.ms id tot off len)
 | .ptr id tot idx off=>if id<n then .ptr id tot idx off else .undef
 | .mp id=>if id<n then .mp id else eE H n fE (.mp id)
 | .fn vi []=>.fn vi []
 | _=>.undef
def dZ(H:aU)(n:Nat): AV->AV
 | .agg cs=>.agg<|cs.map<|gH H n
 | v=>gH H n v
def fF(H:aU)(n:Nat): AV->AV
 | .tup vs=>.tup<|vs.map<|dZ H n
 | v=>dZ H n v
def nY(n:Nat): AV->AV
 | .lit v=>.lit v
 | .it id=>if id<n then .it id else .undef
 | .sl f es=>.sl f es
 | .rptr cs=>.rptr cs
 | .sptr cs=>.sptr cs
 | .vw es=>.vw es
 | .rmp ents=>.rmp ents
 | .ms id tot off len=>if id<n then .ms id tot off len else .undef
 | .ptr id tot idx off=>if id<n then .ptr id tot idx off else .undef
 | .mp id=>if id<n then .mp id else .undef
 | .fn vi []=>.fn vi []
 | _=>.undef
def kF(n:Nat): AV->AV
 | .fn vi caps=>.fn vi<|caps.map<|nY n
 | v=>nY n v
def Rg(n:Nat): AV->AV
 | .agg cs=>.agg<|cs.map<|kF n
 | v=>kF n v
def Rf(n:Nat): AV->AV
 | .tup vs=>.tup<|vs.map<|Rg n
 | v=>Rg n v
def Hr: List AV->Option (List Value)
 | []=>some []
 | .lit v::r=>match Hr r with | some l=>some (v::l) | none=>none
 | _::_=>none
def lits: AV->Option Value
 | .lit v=>some v
 | .agg cs=>match Hr cs with | some l=>some (.agg l.toArray) | none=>none
 | _=>none
def aH[aF](tm:List AV): bA->AV
 | .glob g=>match aF.tab g with | some cs=>.rptr cs | none=>.undef
 | .tmp t=>match tm[t]? with | some v=>v | none=>.lit bM
 | .lit v=>.lit v
 | .agg vs=>.agg<|vs.map .lit
 | .fn vi=>.fn vi []
def aG5: AV->Bool
 | .lit _=>true
 | .tup vs=>vs.all λv=>match v with | .lit _=>true | _=>false
 | _=>false
def eB(H:aU)(x:AV)(n:Nat): Option<|List AV:=
 match x with
 | .ptr id tot idx off=>
  match H[id]? with
  | some (.blk _ es)=>
   if es.length=tot then
    match es[idx]? with
    | some e=>if off+n<=e.length then some ((e.drop off).take n) else none
    | none=>none
   else none
  | _=>none
 | .rptr cs=>if n<=cs.length then some (cs.take n) else none
 | .sptr cs=>if n<=cs.length then some (cs.take n) else none
 | _=>none
def aV{α:Type}(e:List α)(off:Nat)(cs:List α): List α:=e.take off++(cs++e.drop (off+cs.length))
def yE(fl:Nat)(H:aU)(x:AV)(cs:List AV): Option aU:=
 match x with
 | .ptr id tot idx off=>
  if fl<=id then
   match H[id]? with
   | some (.blk s es)=>
    if es.length=tot then
     match es[idx]? with
     | some e=>if off+cs.length<=e.length then some (H.set id<|.blk s<|es.set idx<|aV e off cs) else none
     | none=>none
    else none
   | _=>none
  else none
 | _=>none
def aAE(op:BinOp)(k:IntKind)(a b:Int): Option Value:=
 match op with
 | .add=>some<|.int k<|k.wrap<|a+b
 | .sub=>some<|.int k<|k.wrap<|a-b
 | .mul=>some<|.int k<|k.wrap<|a*b
 | .eql=>some<|.bool<|a==b
 | .neq=>some<|.bool<|a != b
 | .lss=>some<|.bool<|a<b
 | .leq=>some<|.bool<|a<=b
 | .gtr=>some<|.bool<|a > b
 | .geq=>some<|.bool<|a>=b
 | _=>none
def VZ(cells:List AV): List (Nat×Nat×AV)->Option (List AV)
 | []=>some cells
 | (off,size,v)::rest=>
  match cellsOf v with
  | none=>none
  | some cs=>if cs.length=size/\off+size<=cells.length then VZ (aV cells off cs) rest else none
def Qq(s:Nat)(es:List<|List AV): List (Nat×AV)->Option (List<|List AV)
 | []=>some es
 | (i,v)::rest=>
  match cellsOf v with
  | none=>none
  | some cs=>if cs.length=s/\i<es.length then Qq s (es.set i cs) rest else none
def gY: AV->Option Nat
 | .lit (.int _ n)=>if 0<=n then some n.toNat else none
 | _=>none
def eC[aF](tm:List AV): Option bA->Option (Option Nat)
 | none=>some none
 | some x=>match gY (aH tm x) with | some n=>some (some n) | none=>none
def fA(s:Nat)(es:List<|List AV): Bool:=es.all λe=>e.length==s
def Lq: List (List AV)->Option (List Int)
 | []=>some []
 | e::r=>match e with
  | [.lit<|.int .u8 n]=>match Lq r with
   | some l=>some (n::l)
   | none=>none
  | _=>none
def PM(ns:List Int): ByteArray:=ns.foldl (λr n=>r.push<|UInt8.ofNat n.toNat) ByteArray.empty
def aBU(P:Program)(src dst:TypeId): Bool:=match P.underlying src with
 | some (.slice e)=>match P.underlying e with
  | some (.int .u8)=>match P.underlying dst with
   | some .string=>true
   | _=>false
  | _=>false
 | _=>false
def kQ(P:Program)(kt:TypeId)(k:Value)(ents:List<|Value×AV): Option<|Option Nat:=
 match aQ P (Instr.findKey kt k<|ents.map λe=>{ key:=e.1,val:=.bool false,born:=0 }) with
 | some (some (i,_))=>some<|some i
 | some none=>some none
 | none=>none
def mY(s:Nat): List (List AV)->Bool
 | []=>true
 | e::_=>e.length==s
def gP(H:aU)(s:Nat)(x:AV)(lo hi mx:Option Nat): Option AV:=
 match x with
 | .lit (.slice none 0 0)=>if lo.getD 0=0/\hi.getD 0=0/\mx.getD 0=0/\(mx.isSome->hi.isSome) then some (.lit bO) else none
 | .sl f es=>
  match mx with
  | none=>
   let h:=hi.getD es.length
   let l:=lo.getD 0
   if l<=h/\h<=es.length/\mY s es=true then some (.sl (f&&h==es.length)<|(es.take h).drop l) else none
  | some m=>
   match hi with
   | none=>none
   | some h=>
    let l:=lo.getD 0
    if l<=h/\h<=m/\m<=es.length/\mY s es=true then some (.sl (h==m)<|(es.take h).drop l) else none
 | .vw es=>
  match mx with
  | none=>
   let h:=hi.getD es.length
   let l:=lo.getD 0
   if l<=h/\h<=es.length/\mY s es=true then some (.vw<|(es.take h).drop l) else none
  | some m=>
   match hi with
   | none=>none
   | some h=>if lo.getD 0=0/\h=0/\m=0 then some (.sl true []) else none
 | .ms id tot off len=>
  match mx with
  | none=>
   let h:=hi.getD len
   let l:=lo.getD 0
   match H[id]? with
   | some (.blk s' es)=>if l<=h/\h<=len/\s'=s then some (.ms id tot (off+l)<|h-l)
    else if l<=h/\off+h<=tot/\es.length=tot/\0<s/\s'=s then some (.ms id tot (off+l)<|h-l) else none
   | _=>none
  | some m=>
   match hi with
   | none=>none
   | some h=>
    let l:=lo.getD 0
    if l=h/\h=m/\m<=len then some (.sl true []) else if l<=h/\h<=m/\m<=len then some .undef else none
 | _=>none
def dG(H:aU): AV->AV
 | .lit v=>match uC v with
  | .lit u=>.lit u
  | _=>.vw []
 | .sl _ es=>.vw es
 | .vw es=>.vw es
 | .rptr cs=>.rptr cs
 | .sptr cs=>.sptr cs
 | .rmp ents=>.rmp ents
 | .ms id tot off len=>match rd H (.ms id tot off len) with
  | some es=>.vw<|es.map λe=>e.map Gt
  | none=>.undef
 | .fn vi []=>.fn vi []
 | _=>.undef
def cG(H:aU): AV->AV
 | .agg cs=>.agg<|cs.map<|dG H
 | v=>dG H v
def aLa: AV->Bool
 | .lit _=>true
 | _=>false
def VF(s:Nat)(H':aU): AV->Option (List<|List AV)
 | .ms id tot off len=>match Nat.beq off 0&&Nat.beq len tot with
  | false=>none
  | true=>match H'[id]? with
   | none=>none
   | some o=>match o with
    | .blk s' es=>match Nat.beq es.length tot&&Nat.beq s' s with
     | true=>some<|es.map λe=>e.map<|eE (H'.set id<|.blk s<|es++[List.replicate s .undef]) 0 fE
     | false=>none
    | _=>none
 | .lit v=>match v with
  | .slice a len cap=>match a with
   | none=>match Nat.beq len 0&&Nat.beq cap 0 with
    | true=>some []
    | false=>none
   | some _=>none
  | _=>none
 | _=>none
def EC(s:Nat)(H:aU)(q:Option<|AV×aU): Option<|AV×aU:=match q with
 | none=>none
 | some p=>match p.1 with
  | .tup cs=>match cs with
   | []=>none
   | x::l=>match l.all aLa with
    | false=>none
    | true=>match VF s p.2 x with
     | none=>none
     | some rows=>some (.tup (.ms H.length rows.length 0 rows.length::l),H++[.blk s rows])
  | r=>match VF s p.2 r with
   | none=>none
   | some rows=>some (.ms H.length rows.length 0 rows.length,H++[.blk s rows])
def mT(n bytes:Nat): Bool:=n*bytes<=2 ^ 40&&n<=2 ^ 40
def cP(fl:Nat)(H:aU)(s bytes:Nat)(x:AV)(ys:List<|List AV): Option<|AV×aU:=
 if fA s ys=true/\0<s/\mT ys.length bytes=true then
  match x with
  | .lit (.slice none 0 0)=>
   if ys.length=0 then some (x,H) else some (.ms H.length ys.length 0 ys.length,H++[.blk s ys])
  | .sl f es=>
   if ys.length=0 then some (x,H)
   else if f=true/\fA s es=true/\mT (es.length+ys.length) bytes=true then
    some (.ms H.length (es.length+ys.length) 0<|es.length+ys.length,H++[.blk s<|es++ys])
   else none
  | .ms id tot off len=>
   match H[id]? with
   | some (.blk s' es)=>
    if s'=s/\es.length=tot/\mT (tot+ys.length) bytes=true then
     if ys.length=0 then some (x,H)
     else if fl<=id then
      if off=0/\len=tot then
       some (.ms id (tot+ys.length) 0<|tot+ys.length,H.set id<|.blk s<|es++ys)
      else if off+len+ys.length<=tot then
       some (.ms id tot off<|len+ys.length,H.set id<|.blk s<|aV es (off+len) ys)
      else none
     else none
    else none
   | _=>none
  | _=>none
 else none
def aJX: AV->Option (List<|List AV)
 | .lit (.slice none 0 0)=>some []
 | .sl _ ys=>some ys
 | _=>none
def aR2(s bytes:Nat)(x y:AV): Option AV:=match x with
 | .sl f es=>match f with
  | true=>match es with
   | []=>match aJX y with
    | some ys=>if fA s ys=true/\0<s/\mT ys.length bytes=true then some (.sl false<|ys.map λe=>e.map Gt) else none
    | none=>none
   | _::_=>none
  | false=>none
 | _=>none
def eO(n:Nat)(cs:List AV): List (Nat×Nat)->List AV
 | []=>cs
 | (o,_)::r=>eO (n+1) (cs.set o<|.ms n 0 0 0) r
def Ks: AV->Bool
 | .undef=>true
 | .lit _=>true
 | .sl _ _=>true
 | .rptr _=>true
 | .sptr _=>true
 | .rmp _=>true
 | .fn _ []=>true
 | _=>false
def Pm: List AV->Bool
 | []=>true
 | x::r=>match Ks x with | true=>Pm r | false=>false
def uB: AV->Bool
 | .agg cs=>Pm cs
 | v=>Ks v
def gK: List AV->Bool
 | []=>true
 | x::r=>match uB x with | true=>gK r | false=>false
section
variable (P:Program)(cf:Nat->Nat->List AV->aU->Option (AV×aU))(fl:Nat)
def Ff(pu:Bool)(vi:Nat)(args:List AV)(H:aU): Option<|AV×aU:=
 match pu with
 | true=>
  match gK args with
  | true=>
   match cf 0 vi (args.map LR) [] with
   | some (r,H')=>some (fF H' 0 r,H)
   | none=>none
  | false=>
   match cf H.length vi (args.map LR) H with
   | some (r,H')=>some (fF H' H.length r,H)
   | none=>none
 | false=>cf fl vi args H
def aK8(cs:List AV)(cl:List (Nat×Nat)): Bool:=cl.all λc=>match cs[c.1]? with
 | some (.lit (.slice none 0 0))=>true
 | _=>false
def aO[aF](op:Ju)(tm:List AV)(H:aU): Option<|AV×aU:=
 match op with
 | .mov x=>some (aH tm x,H)
 | .movN x=>some (LR<|aH tm x,H)
 | .pick c a b=>match aH tm c with
  | .lit (.bool t)=>some (if t then aH tm a else aH tm b,H)
  | _=>none
 | .alloc z=>some (.ptr H.length 1 0 0,H++[.blk z.length [z.map .lit]])
 | .claim s=>some (.ms H.length 0 0 0,H++[.blk s []])
 | .allocC z cl=>some (.ptr (H.length+cl.length) 1 0 0,
  (H++cl.map λc=>.blk c.2 [])++[.blk z.length [eO H.length (z.map .lit) cl]])
 | .box x=>match cellsOf (aH tm x) with
  | some cs=>some (.ptr H.length 1 0 0,H++[.blk cs.length [cs]])
  | none=>none
 | .boxC x cl=>match cellsOf (aH tm x) with
  | some cs=>match aK8 cs cl with
   | true=>some (.ptr (H.length+cl.length) 1 0 0,(H++cl.map λc=>.blk c.2 [])++[.blk cs.length [eO H.length cs cl]])
   | false=>none
  | none=>none
 | .build z parts=>match VZ (z.map .lit) (parts.map λ(o,s,x)=>(o,s,aH tm x)) with
  | some cs=>some (.agg cs,H)
  | none=>none
 | .buildSl pu s n z parts=>match Qq s (List.replicate n<|z.map .lit) (parts.map λ(i,x)=>(i,aH tm x)) with
  | some es=>if pu then some (.sl true<|es.map λe=>e.map Gt,H) else some (.ms H.length n 0 n,H++[.blk s es])
  | none=>none
 | .load agg n x=>match eB H (aH tm x) n with
  | some cs=>if agg then some (.agg cs,H) else match cs with
   | [c]=>some (c,H)
   | _=>none
  | none=>none
 | .store n x v=>match cellsOf (aH tm v) with
  | some cs=>if cs.length=n then match yE fl H (aH tm x) cs with
   | some H'=>some (.lit bM,H')
   | none=>none
   else none
  | none=>none
 | .nilCheck x=>match aH tm x with
  | .ptr ..=>some (aH tm x,H)
  | .rptr _=>some (aH tm x,H)
  | .sptr _=>some (aH tm x,H)
  | .fn ..=>some (aH tm x,H)
  | _=>none
 | .ibin op x y=>match aH tm x,aH tm y with
  | .lit (.int k a),.lit (.int k' b)=>if k=k' then match aAE op k a b with
   | some v=>some (.lit v,H)
   | none=>none
   else none
  | _,_=>none
 | .bin op t x y=>match lits<|aH tm x,lits (aH tm y) with
  | some v,some u=>match (if wJ v then aQ P (eqGuard op t (.tmp 0) (.tmp 0) v u) else none) with
   | some _=>match aQ P (binOp op t v u) with
    | some r=>some (.lit r,H)
    | none=>none
   | none=>none
  | _,_=>none
 | .un op x=>match aH tm x with
  | .lit v=>match aQ P (Op.unary op v) with
   | some r=>some (.lit r,H)
   | none=>none
  | _=>none
 | .conv src dst x=>match aH tm x with
  | .lit v=>match aQ P (convert src dst v) with
   | some r=>some (.lit r,H)
   | none=>none
  | .sl _ es=>match aBU P src dst with
   | true=>match Lq es with
    | some ns=>some (.lit<|.string<|PM ns,H)
    | none=>none
   | false=>none
  | _=>none
 | .fieldAddr off x=>match aH tm x with
  | .ptr id tot idx o=>some (.ptr id tot idx<|o+off,H)
  | .rptr cs=>some (.rptr<|cs.drop off,H)
  | .sptr cs=>some (.rptr<|cs.drop off,H)
  | _=>none
 | .field agg n off x=>match aH tm x with
  | .agg cs=>if off+n<=cs.length then
   if agg then some (.agg<|(cs.drop off).take n,H) else match (cs.drop off).take n with
    | [c]=>some (c,H)
    | _=>none
   else none
  | _=>none
 | .idxAddr s x i=>match gY (aH tm i) with
  | some i=>match aH tm x with
   | .sl _ es=>match es[i]? with
    | some e=>if e.length=s then some (.rptr e,H) else none
    | none=>none
   | .vw es=>match es[i]? with
    | some e=>if e.length=s then some (.rptr e,H) else none
    | none=>none
   | .ms id tot off len=>match H[id]? with
    | some (.blk s' es)=>if s'=s/\es.length=tot/\i<len then some (.ptr id tot (off+i) 0,H) else none
    | _=>none
   | _=>none
  | none=>none
 | .idxArr s n x i=>match gY (aH tm i) with
  | some i=>if i<n then match aH tm x with
   | .ptr id tot idx o=>some (.ptr id tot idx<|o+i*s,H)
   | .rptr cs=>some (.rptr<|cs.drop<|i*s,H)
   | _=>none
   else none
  | none=>none
 | .index agg s n x i=>match gY (aH tm i) with
  | some i=>if i<n then match aH tm x with
   | .agg cs=>if i*s+s<=cs.length then
    if agg then some (.agg<|(cs.drop<|i*s).take s,H) else match (cs.drop<|i*s).take s with
     | [c]=>some (c,H)
     | _=>none
    else none
   | _=>none
   else none
  | none=>none
 | .strIdx t x i=>match aH tm x,aH tm i with
  | .lit v,.lit u=>match aQ P (Instr.index t v u) with
   | some r=>some (.lit r,H)
   | none=>none
  | _,_=>none
 | .slice s x lo hi mx=>match eC tm lo,eC tm hi,eC tm mx with
  | some lo,some hi,some mx=>match gP H s (aH tm x) lo hi mx with
   | some v=>some (v,H)
   | none=>none
  | _,_,_=>none
 | .strSlice _ x lo hi=>match aH tm x,eC tm lo,eC tm hi with
  | .lit (.string s),some lo,some hi=>
   if lo.getD 0<=hi.getD s.size/\hi.getD s.size<=s.size then some (.lit<|.string<|s.extract (lo.getD 0)<|hi.getD s.size,H) else none
  | _,_,_=>none
 | .mkSlice s z bytes len cap=>match gY<|aH tm len,gY (aH tm cap) with
  | some l,some c=>if l<=c/\c*bytes<=2 ^ 40/\c<=2 ^ 40/\z.length=s then
   some (.ms H.length l 0 l,H++[.blk s<|List.replicate l<|z.map .lit]) else none
  | _,_=>none
 | .mkMap=>some (.mp H.length,H++[.mp []])
 | .lookup kt z m k ok=>match lits (aH tm k) with
  | some kv=>
   let r (ents:List<|Value×AV):Option<|AV×aU:=
    match aQ P<|Instr.checkKey ents.isEmpty 10000 kt kv,kQ P kt kv ents with
    | some _,some (some i)=>match ents[i]? with
     | some e=>some (if ok then .tup [e.2,.lit<|.bool true] else e.2,H)
     | none=>none
    | some _,some none=>some (if ok then .tup [aH tm z,.lit<|.bool false] else aH tm z,H)
    | _,_=>none
   match aH tm m with
   | .lit (.map none)=>r []
   | .mp id=>match H[id]? with
    | some (.mp ents)=>r ents
    | _=>none
   | .rmp ents=>r ents
   | _=>none
  | none=>none
 | .mapUpd kt m k v=>match lits<|aH tm k,aH tm m with
  | some kv,.mp id=>if fl<=id then match H[id]? with
   | some (.mp ents)=>match aQ P<|Instr.checkKey false 10000 kt kv,kQ P kt kv ents with
    | some _,some (some i)=>match ents[i]? with
     | some e=>if Instr.sameBits 10000 e.1 kv then some (.lit bM,H.set id<|.mp<|ents.set i (kv,aH tm v)) else none
     | none=>none
    | some _,some none=>some (.lit bM,H.set id<|.mp<|ents++[(kv,aH tm v)])
    | _,_=>none
   | _=>none
   else none
  | _,_=>none
 | .lenS x=>match aH tm x with
  | .lit (.slice none 0 0)=>some (.lit<|.int .i64 0,H)
  | .sl _ es=>some (.lit<|.int .i64 es.length,H)
  | .vw es=>some (.lit<|.int .i64 es.length,H)
  | .ms _ _ _ len=>some (.lit<|.int .i64 len,H)
  | _=>none
 | .lenM x=>match aH tm x with
  | .lit (.map none)=>some (.lit<|.int .i64 0,H)
  | .mp id=>match H[id]? with
   | some (.mp ents)=>some (.lit<|.int .i64 ents.length,H)
   | _=>none
  | .rmp ents=>some (.lit<|.int .i64 ents.length,H)
  | _=>none
 | .lenStr t x=>match aH tm x with
  | .lit v=>match aQ P (Builtin.len_ #[t] 0 #[v]) with
   | some r=>some (.lit r,H)
   | none=>none
  | _=>none
 | .lenC n=>some (.lit<|.int .i64 n,H)
 | .append s bytes x y=>match rd H (aH tm y) with
  | some ys=>cP fl H s bytes (aH tm x) ys
  | none=>none
 | .appendZ s bytes z x n=>match gY (aH tm n) with
  | some n=>if z.length=s/\n<=2 ^ 20/\n*bytes<=2 ^ 40 then cP fl H s bytes (aH tm x) (List.replicate n<|z.map .lit) else none
  | none=>none
 | .copy s x y=>match rd H (aH tm y) with
  | some ys=>if fA s ys=true/\0<s then match aH tm x with
   | .ms id tot off len=>match H[id]? with
    | some (.blk s' es)=>if s'=s/\es.length=tot/\ys.length<=len/\fl<=id then (if ys.length=0 then some (.lit<|.int .i64 0,H) else some (.lit<|.int .i64 ys.length,H.set id<|.blk s<|aV es off ys)) else none
    | _=>none
   | _=>none
   else none
  | none=>none
 | .clear s z x=>match aH tm x with
  | .lit (.slice none 0 0)=>some (.tup [],H)
  | .sl _ []=>some (.tup [],H)
  | .ms id tot off len=>match H[id]? with
   | some (.blk s' es)=>if s'=s/\es.length=tot/\off+len<=tot/\fl<=id/\0<s/\z.length=s then (if len=0 then some (.tup [],H) else some (.tup [],H.set id<|.blk s<|aV es off<|List.replicate len<|z.map .lit)) else none
   | _=>none
  | _=>none
 | .delete kt m k=>match lits<|aH tm k,aH tm m with
  | some kv,.mp id=>if fl<=id then match H[id]? with
   | some (.mp ents)=>match aQ P<|Instr.checkKey ents.isEmpty 10000 kt kv,kQ P kt kv ents with
    | some _,some (some i)=>some (.lit bM,H.set id<|.mp<|ents.eraseIdx i)
    | some _,some none=>some (.lit bM,H)
    | _,_=>none
   | _=>none
   else none
  | _,_=>none
 | .minmax mx xs=>match Hr (xs.map<|aH tm) with
  | some vs=>match aQ P (if mx then Builtin.max_ #[] 0 vs.toArray else Builtin.min_ #[] 0 vs.toArray) with
   | some r=>some (.lit r,H)
   | none=>none
  | none=>none
 | .mkFn vi caps=>some (.fn vi<|caps.map<|aH tm,H)
 | .call pu vi args=>Ff cf fl pu vi (args.map<|aH tm) H
 | .callv pu x args=>match aH tm x with
  | .fn vi caps=>Ff cf fl pu vi (args.map (aH tm)++caps) H
  | _=>none
 | .callF vi args=>cf H.length vi (args.map<|aH tm) H
 | .callT s vi args=>EC s H<|cf 0 vi ((args.map<|aH tm).map<|cG H) []
 | .callB vi args=>match cf 0 vi ((args.map<|aH tm).map<|cG H) [] with
  | some (r,H')=>some (fF H' 0 r,H)
  | none=>none
 | .callS vi args=>match cf 0 vi ((args.map<|aH tm).map<|dZ H 0) [] with
  | some (r,H')=>match aG5 (fF H' 0 r) with
   | true=>some (fF H' 0 r,H)
   | false=>none
  | none=>none
 | .capS x=>match aH tm x with
  | .lit (.slice none 0 0)=>some (.lit<|.int .i64 0,H)
  | .sl true es=>some (.lit<|.int .i64 es.length,H)
  | _=>none
 | .extract x i=>match aH tm x with
  | .tup vs=>match vs[i]? with
   | some v=>some (v,H)
   | none=>none
  | _=>none
 | .rangeStr x=>match aH tm x with
  | .lit (.string s)=>some (.it H.length,H++[.raw<|.stringIter s 0])
  | _=>none
 | .nextStr x=>match aH tm x with
  | .it id=>if fl<=id then match H[id]? with
   | some (.raw<|.stringIter s pos)=>if pos<s.size then some (.tup [.lit<|.bool true,.lit<|.int .i64 pos,.lit<|.int .i32 (Utf8.decode s pos).1],H.set id<|.raw<|.stringIter s<|pos+(Utf8.decode s pos).2) else some (.tup [.lit<|.bool false],H)
   | _=>none
   else none
  | _=>none
 | .freeze x=>match aH tm x with
  | .ms id tot off len=>if fl<=id then match H[id]? with
   | some (.blk s es)=>if es.length=tot then some (.sl false<|((es.drop off).take len).map λe=>e.map Gt,H.set id<|.blk s<|es++[List.replicate s .undef]) else none
   | _=>none
   else none
  | .ptr id tot idx off=>if fl<=id then match H[id]? with
   | some (.blk s es)=>if es.length=tot then match es[idx]? with
    | some e=>some (.sptr<|(e.drop off).map Gt,H.set id<|.blk s<|es++[List.replicate s .undef])
    | none=>none
    else none
   | _=>none
   else none
  | v=>some (v,H)
 | .appendP s bytes x y=>match aR2 s bytes (aH tm x) (aH tm y) with
  | some v=>some (v,H)
  | none=>none
 | .loadF n k x=>match eB H (aH tm x) n with
  | some cs=>match cs[k]? with
   | some (.ms id tot off len)=>if fl<=id then match H[id]? with
    | some (.blk s es)=>if es.length=tot then some (.agg<|cs.set k<|.sl false<|((es.drop off).take len).map λe=>e.map Gt,H.set id<|.blk s<|es++[List.replicate s .undef]) else none
    | _=>none
    else none
   | some _=>some (.agg cs,H)
   | none=>none
  | none=>none
def iY(tm:List AV)(d:Option Nat)(v:AV): List AV:=
 match d with
 | some d=>tm.set d v
 | none=>tm
def fC[aF](tm:List AV)(g:Option<|Nat×Bool): Option Bool:=
 match g with
 | none=>some true
 | some (t,want)=>match aH tm (.tmp t) with
  | .lit (.bool b)=>some<|b==want
  | .lit _=>some false
  | _=>none
def cS[aF](o:bS)(st:St): Option St:=
 match fC st.tmps o.guard with
 | some true=>match aO P cf fl o.op st.tmps st.heap with
  | some (v,H)=>some ⟨iY st.tmps o.dst v,H⟩
  | none=>none
 | some false=>some ⟨iY st.tmps o.dst<|.lit bM,st.heap⟩
 | none=>none
end
def VP: AV->Option Nat
 | .ptr id _ _ _=>some id
 | .ms id _ _ _=>some id
 | .mp id=>some id
 | _=>none
def dN[aF](op:Ju)(tm:List AV): Option<|Option Nat:=
 match op with
 | .load _ _ x=>some<|VP<|aH tm x
 | .idxAddr _ x _=>some<|VP<|aH tm x
 | .slice _ x _ _ _=>some<|VP<|aH tm x
 | .lookup _ _ m _ _=>some<|VP<|aH tm m
 | .lenM x=>some<|VP<|aH tm x
 | .call true _ args=>match gK (args.map<|aH tm) with
  | true=>some none
  | false=>none
 | .callS _ args=>match gK (args.map<|aH tm) with
  | true=>some none
  | false=>none
 | .callB _ args=>match args with
  | [x]=>match aH tm x with
   | .lit _=>some none
   | .sl _ _=>some none
   | .vw _=>some none
   | _=>none
  | _=>none
 | .callv true x args=>match aH tm x with
  | .fn _ caps=>match gK (args.map (aH tm)++caps) with
   | true=>some none
   | false=>none
  | _=>none
 | _=>none
def qQ[aF](op:Ju)(tm:List AV)(n id:Nat): Bool:=
 match op with
 | .alloc _=>Nat.blt id n
 | .claim _=>Nat.blt id n
 | .allocC _ _=>Nat.blt id n
 | .box _=>Nat.blt id n
 | .boxC _ _=>Nat.blt id n
 | .buildSl _ _ _ _ _=>Nat.blt id n
 | .mkSlice _ _ _ _ _=>Nat.blt id n
 | .mkMap=>Nat.blt id n
 | .callF _ _=>Nat.blt id n
 | .callT _ _ _=>Nat.blt id n
 | .store _ x _=>match aH tm x with
  | .ptr i _ _ _=>!Nat.beq i id
  | _=>false
 | .append _ _ x _=>match aH tm x with
  | .ms i _ _ _=>!Nat.beq i id
  | _=>Nat.blt id n
 | .mapUpd _ m _ _=>match aH tm m with
  | .mp i=>!Nat.beq i id
  | _=>false
 | _=>false
def aE4[aF](ops:List bS)(l:List St)(k m:Nat): Bool:=
 match ops[k]? with
 | some ok=>match l[k]? with
  | some sk=>match fC sk.tmps ok.guard with
   | some false=>true
   | _=>match dN ok.op sk.tmps with
    | some none=>true
    | some (some id)=>match ops[m]? with
     | some om=>match l[m]? with
      | some sm=>match fC sm.tmps om.guard with
       | some false=>true
       | _=>qQ om.op sm.tmps sm.heap.length id
      | none=>false
     | none=>false
    | none=>false
  | none=>false
 | none=>false
def aAY[aF](ops:List bS)(l:List St): List (Nat×Nat)->Bool
 | []=>true
 | (k,m)::r=>match aE4 ops l k m with
  | true=>aAY ops l r
  | false=>false
section
variable (P:Program)(cf:Nat->Nat->List AV->aU->Option (AV×aU))
def jM[aF](fl:Nat): List bS->St->Option St
 | [],st=>some st
 | o::r,st=>match cS P cf fl o st with
  | some st=>jM fl r st
  | none=>none
def Gf[aF](fl:Nat): List bS->St->Option (List St)
 | [],st=>some [st]
 | o::r,st=>match cS P cf fl o st with
  | some st1=>match Gf fl r st1 with
   | some l=>some (st::l)
   | none=>none
  | none=>none
def Mo[aF](fl:Nat)(ck:List<|Nat×Nat)(ops:List bS)(st:St): Option St:=match ck with
 | []=>jM P cf fl ops st
 | c::r=>match Gf P cf fl ops st with
  | some l=>match aAY ops l (c::r) with
   | true=>l.getLast?
   | false=>none
  | none=>none
def cV: List Bool->List AV->List AV
 | b::bs,v::vs=>(if b then v else .undef)::cV bs vs
 | [],vs=>vs.map λ_=>.undef
 | _,[]=>[]
def bU(n:Nat): dK->dK
 | .blk s es=>.blk s<|es.map λe=>e.map<|kF n
 | .mp ents=>.mp<|ents.map λe=>(e.1,Rg n e.2)
 | .raw ob=>.raw ob
def aA9(live:Option<|List Bool)(tm:List AV): List AV:=match live with | some l=>cV l tm | none=>tm
def dP(live:Option<|List Bool)(tr:Bool)(fl n:Nat)(st:St): St:=
 if tr then⟨(aA9 live st.tmps).map<|Rf n,st.heap.take fl++((st.heap.take n).drop fl).map (bU n)⟩ else⟨aA9 live st.tmps,st.heap⟩
def Hp(lx lr:List Bool)(tr:Bool)(fl n:Nat): Option (cU×St)->Option (cU×St)
 | some (x,st)=>match x with
  | .ret=>some (.ret,⟨cV lr st.tmps,st.heap⟩)
  | .normal=>some (.normal,dP (some lx) tr fl n st)
  | .exit i=>some (.exit i,dP (some lx) tr fl n st)
 | none=>none
def aGR[aF](fl t:Nat)(st:St): Option St:=
 match aH st.tmps (.tmp t) with
 | .ms id tot off len=>if fl<=id then match st.heap[id]? with
  | some (.blk s es)=>if es.length=tot then some ⟨st.tmps.set t<|.ms st.heap.length tot off len,st.heap.set id (.blk s<|es++[List.replicate s .undef])++[.blk s es]⟩ else none
  | _=>none
  else none
 | _=>none
def MA[aF](live:List Bool)(t fl n:Nat)(st:St): St:=
 match aH st.tmps (.tmp t) with
 | .ms id tot off len=>if n<=id then match st.heap[id]? with
  | some (.blk s es)=>⟨((cV live st.tmps).map<|Rf n).set t<|.ms n tot off len,(st.heap.take fl++((st.heap.take n).drop fl).map (bU n))++[bU n<|.blk s es]⟩
  | _=>dP (some live) true fl n st
  else dP (some live) true fl n st
 | _=>dP (some live) true fl n st
def aKH[aF](lx lr:List Bool)(t fl n:Nat): Option (cU×St)->Option (cU×St)
 | some (x,st)=>match x with
  | .ret=>some (.ret,⟨cV lr st.tmps,st.heap⟩)
  | .normal=>some (.normal,MA lx t fl n st)
  | .exit i=>some (.exit i,MA lx t fl n st)
 | none=>none
def n4(H:aU): AV->Nat
 | .lit v=>match v with
  | .slice a l c=>match a with
   | none=>match l with
    | 0=>match c with
     | 0=>0
     | _=>3
    | _=>3
   | _=>3
  | _=>3
 | .sl _ es=>match es with
  | []=>2
  | _::_=>1
 | .vw es=>match es with
  | []=>2
  | _::_=>1
 | .ms id tot _ len=>match len with
  | 0=>3
  | _+1=>match H[id]? with
   | some (.blk _ es)=>match Nat.beq es.length tot with
    | true=>1
    | false=>3
   | _=>3
 | _=>3
def aL1: AV->Bool
 | .lit v=>match v with
  | .slice a l c=>match a with
   | none=>match l with
    | 0=>match c with
     | 0=>true
     | _=>false
    | _=>false
   | _=>false
  | _=>false
 | .sl _ es=>match es with
  | []=>true
  | _::_=>false
 | _=>false
def aHn(x y:AV): AV:=match aL1 x with
 | true=>match aL1 y with
  | true=>.sl false []
  | false=>.undef
 | false=>.undef
def ED: List AV->List AV->List AV
 | x::r,y::s=>aHn x y::ED r s
 | _,_=>[]
def Vz: Option (cU×St)->Option (cU×St)
 | some (x,st)=>match x with
  | .normal=>none
  | x=>some (x,st)
 | none=>none
def aDT(H:aU): Option (cU×St)->Option (cU×St)->Option (cU×St)
 | some (.ret,sa),some (.ret,sb)=>match Nat.beq sa.tmps.length sb.tmps.length with
  | true=>some (.ret,⟨ED sa.tmps sb.tmps,H⟩)
  | false=>none
 | _,_=>none
def Pp[aF](tm:List AV)(t d0 d1:Nat)(b:Bool): List AV:=(tm.set d0<|aH tm<|.tmp t).set d1<|.lit<|.bool b
def gA(head:St->St)(step:St->Option (cU×St)): Nat->St->Option (cU×St)
 | 0,_=>none
 | n+1,st=>match step (head st) with
  | some (.normal,st)=>gA head step n st
  | r=>r
def eS[aF](lf fl:Nat): bT->St->Option (cU×St)
 | .skip,st=>some (.normal,st)
 | .region _ ck ops,st=>match Mo P cf fl ck ops st with
  | some st=>some (.normal,st)
  | none=>none
 | .seq a b,st=>match eS lf fl a st with
  | some (.normal,st)=>eS lf fl b st
  | r=>r
 | .cond c a b,st=>match aH st.tmps c with
  | .lit (.bool true)=>eS lf fl a st
  | .lit (.bool false)=>eS lf fl b st
  | _=>none
 | .block id c,st=>match eS lf fl c st with
  | some (.exit i,st)=>if i=id then some (.normal,st) else some (.exit i,st)
  | r=>r
 | .loop live tr c,st=>gA (dP live tr fl st.heap.length) (λst=>eS lf fl c st) lf st
 | .exit id,st=>some (.exit id,st)
 | .ret,st=>some (.ret,st)
 | .frz t c,st=>match aO P cf fl (.freeze<|.tmp t) st.tmps st.heap with
  | some (v,H)=>eS lf fl c ⟨st.tmps.set t v,H⟩
  | none=>none
 | .mask lx lr tr c,st=>Hp lx lr tr fl st.heap.length<|eS lf fl c st
 | .told li lx lr c,st=>Hp lx lr false fl st.heap.length<|eS lf fl c ⟨cV li st.tmps,st.heap⟩
 | .scope c,st=>eS lf fl c st
 | .nilIf t d0 d1 a b,st=>match (Nat.blt d0 st.tmps.length&&Nat.blt d1 st.tmps.length) with
  | true=>match n4 st.heap (aH st.tmps<|.tmp t) with
   | 0=>Vz<|eS lf fl a ⟨Pp st.tmps t d0 d1 true,st.heap⟩
   | 1=>eS lf fl b ⟨Pp st.tmps t d0 d1 false,st.heap⟩
   | 2=>match Nat.beq fl st.heap.length with
    | true=>aDT st.heap (eS lf fl a ⟨Pp st.tmps t d0 d1 true,st.heap⟩)<|eS lf fl b ⟨Pp st.tmps t d0 d1 false,st.heap⟩
    | false=>none
   | _=>none
  | false=>none
 | .loopV live lx lr t c,st=>match aGR fl t st with
  | some st1=>aKH lx lr t fl st.heap.length<|gA (MA live t fl st.heap.length) (λst=>eS lf fl c st) lf st1
  | none=>none
 | .stop,_=>none
end
def Qy[aF](st:St): aAh->Option AV
 | .tmp t=>some<|aH st.tmps<|.tmp t
 | .cell t n agg=>match eB st.heap (aH st.tmps<|.tmp t) n with
  | some cs=>if agg then some (.agg cs) else match cs with
   | [c]=>some c
   | _=>none
  | none=>none
def kO: List AV->AV
 | [v]=>v
 | vs=>.tup vs
def nD[aF](st:St): List aAh->Option (List AV)
 | []=>some []
 | r::rs=>match Qy st r with
  | some v=>match nD st rs with
   | some vs=>some (v::vs)
   | none=>none
  | none=>none
def Mj[aF](cf:CF)(fl vi:Nat)(args:List AV)(H:aU): Option<|AV×aU:=
 match aF.prim vi with
 | some g=>g.run cf fl args H
 | none=>none
def getF[aF](T:List cQ)(vi:Nat): Option cQ:=
 match aF.prim vi with
 | some _=>none
 | none=>T[vi]?
def fH[aF](P:Program)(T:List cQ): Nat->Nat->Nat->List AV->aU->Option (AV×aU)
 | 0,_,_,_,_=>none
 | n+1,fl,vi,args,H=>
  match aF.prim vi with
  | some g=>g.run (fH P T n) fl args H
  | none=>
  match T[vi]? with
  | none=>none
  | some F=>
   match eS P (fH P T n) n fl F.body ⟨args++List.replicate (F.nt-args.length) (.lit bM),H⟩ with
   | some (.normal,st)=>match nD st F.rets with
    | some vs=>some (kO vs,st.heap)
    | none=>none
   | some (.ret,st)=>match nD st F.rets with
    | some vs=>some (kO vs,st.heap)
    | none=>none
   | _=>none
section
structure dF where
 w:World
 X:Nat->Prop
 β:Nat->Option Nat
 H:aU
def nE(c:dF)(b:Nat): Prop:=¬c.X b/\∀id,c.β id≠some b
def bK(es:List<|List AV)(i j:Nat): Option AV:=(es[i]?).bind λe=>e[j]?
def shp(H:aU)(id:Nat): Option<|Nat×Nat:=
 match H[id]? with
 | some (.blk s es)=>some (s,es.length)
 | _=>none
def aQ6: dK->Prop
 | .blk _ _=>False
 | _=>True
def Dx(H:aU)(id:Nat): Prop:=∃o,H[id]?=some o/\aQ6 o
def Yng(es:Array MapEntry)(a:Nat): Prop:=(∀e∈es.toList,e.born<a)/\(es.toList.map (·.born)).Nodup
inductive RP(w:World)(I:Nat->Prop): AV->Value->Prop
 | undef (v:Value):RP w I .undef v
 | lit (v:Value):RP w I (.lit v) v
 | nil (f:Bool) (a:Option Addr) (cap:Nat):(f=true->cap=0)->RP w I (.sl f []) (.slice a 0 cap)
 | sl (f:Bool) (es:List (List AV)) (b off cap:Nat) (c:Array Value) (T:TypeId) (fz:Nat×Nat) (s:Nat) (vals:Nat->Nat->Value) :
  es≠[]->I b->w.heap[b]?=some (.cells c T fz)->(∀e∈es,e.length=s)->es.length<=cap->(f=true->cap=es.length)->
  (∀i j x,bK es i j=some x->c[off+(i*s+j)]?=some (vals i j)/\bC (vals i j)=true)->
  (∀i j x,bK es i j=some x->RP w I x (vals i j))->
  RP w I (.sl f es) (.slice (some ⟨b,off,none⟩) es.length cap)
 | sptr (cs:List AV) (b off:Nat) (cc:Array Value) (T:TypeId) (fz:Nat×Nat) (vals:Nat->Value) :
  I b->w.heap[b]?=some (.cells cc T fz)->
  (∀j x,cs[j]?=some x->cc[off+j]?=some (vals j)/\bC (vals j)=true)->
  (∀j x,cs[j]?=some x->RP w I x (vals j))->RP w I (.sptr cs) (.pointer (some ⟨b,off,none⟩))
 | rmp (ents:List (Value×AV)) (b:Nat) (es:Array MapEntry) (clk:Nat) (vals:Nat->MapEntry) :
  I b->w.heap[b]?=some (.map es clk)->es.size=ents.length->Yng es clk->
  (∀i k x,ents[i]?=some (k,x)->es[i]?=some (vals i)/\(vals i).key=k)->
  (∀i k x,ents[i]?=some (k,x)->RP w I x (vals i).val)->RP w I (.rmp ents) (.map (some b))
variable {FT:Nat->Option Nat}{I:Nat->Prop}{a:dF}{b:Nat}{c c':dF}{fl:Nat}{o:Obj}{v:Value}{w:World}{x:AV}
theorem RP.mono{w':World}{I':Nat->Prop}(h:∀b o,I b->w.heap[b]?=some o->I' b/\w'.heap[b]?=some o)(B:RP w I x v): RP w' I' x v:=by
 induction B with
 | undef v=>exact .undef v
 | lit v=>exact .lit v
 | nil f a cap t=>exact .nil f a cap t
 | sl f es b off cap c T r s d q m i k n t p _ j=>
  let⟨g,e⟩:=h b _ m i;exact .sl f es b off cap c T r s d q g e k n t p j
 | sptr cs b off cc T r d m i p _ j=>
  let⟨g,e⟩:=h b _ m i;exact .sptr cs b off cc T r d g e p j
 | rmp l b es u d m i D A p _ j=>
  let⟨g,e⟩:=h b _ m i;exact .rmp l b es u d g e D A p j
theorem aBG(v:Value): RP w I (uC v) v:=by
 unfold uC;split
 .split
  .split
   .split
    .exact .nil false none 0<|by simp
    .exact .lit _
   .exact .lit _
  .exact .lit _
 .exact .lit _
theorem aBF[aF](h:RP w I x v): RP w I (nrm x) v:=by
 cases h with
 | undef v=>exact .undef v
 | lit v=>exact aBG v
 | nil f a cap z=>exact .nil false a cap<|by simp
 | sl f es b off cap c T n s d e g i j l o r u=>exact .sl false es b off cap c T n s d e g i j l (by simp) r u
 | sptr cs b off cc T n d e g i j=>exact .sptr cs b off cc T n d e g i j
 | rmp k b es m d e g i j l o=>exact .rmp k b es m d e g i j l o
def aMh(c:dF)(id tot off len:Nat)(a:Option Addr)(cap s:Nat): Prop:=
 off+len<=tot /\
 ((c.β id=none/\tot=0/\a=none/\cap=0) \/
  ∃b cs T a',c.β id=some b/\c.w.heap[b]?=some (.cells cs T (0,0))/\(off+cap)*s=cs.size/\a=some a' /\
   (cap≠0->a'=⟨b,off*s,none⟩))
def Vis(c:dF)(b:Nat): Prop:=∀id,c.β id≠some b
inductive RV(FT:Nat->Option Nat)(c:dF): AV->Value->Prop
 | pure (x:AV) (v:Value):RP c.w (nE c) x v->RV FT c x v
 | ms (id tot off len:Nat) (a:Option Addr) (cap s n:Nat):shp c.H id=some (s,n)->tot<=n->len<=cap->
  (tot=n->aMh c id tot off len a cap s)->RV FT c (.ms id tot off len) (.slice a len cap)
 | ptr (id tot idx off:Nat) (a:Addr) (s n:Nat):shp c.H id=some (s,n)->tot<=n->
  (tot=n->∃b,c.β id=some b/\a=⟨b,idx*s+off,none⟩)->RV FT c (.ptr id tot idx off) (.pointer (some a))
 | rptr (cs:List AV) (b off:Nat) (cc:Array Value) (T:TypeId) (fz:Nat×Nat) (vals:Nat->Value) :
  Vis c b->c.w.heap[b]?=some (.cells cc T fz)->
  (∀j x,cs[j]?=some x->cc[off+j]?=some (vals j)/\bC (vals j)=true)->
  (∀j x,cs[j]?=some x->RP c.w (nE c) x (vals j))->RV FT c (.rptr cs) (.pointer (some ⟨b,off,none⟩))
 | vnil (a:Option Addr) (cap:Nat):RV FT c (.vw []) (.slice a 0 cap)
 | vw (es:List (List AV)) (b off cap:Nat) (cc:Array Value) (T:TypeId) (fz:Nat×Nat) (s:Nat) (vals:Nat->Nat->Value) :
  es≠[]->Vis c b->c.w.heap[b]?=some (.cells cc T fz)->(∀e∈es,e.length=s)->es.length<=cap->
  (∀i j x,bK es i j=some x->cc[off+(i*s+j)]?=some (vals i j)/\bC (vals i j)=true)->
  (∀i j x,bK es i j=some x->RP c.w (nE c) x (vals i j))->RV FT c (.vw es) (.slice (some ⟨b,off,none⟩) es.length cap)
 | mp (id b:Nat):Dx c.H id->c.β id=some b->RV FT c (.mp id) (.map (some b))
 | it (id b:Nat):Dx c.H id->c.β id=some b->RV FT c (.it id) (.pointer (some ⟨b,0,none⟩))
 | fn (vi f:Nat) (caps:List AV) (cv:Array Value) (vals:Nat->Value):FT vi=some f->cv.size=caps.length->
  (∀i x,caps[i]?=some x->cv[i]?=some (vals i))->(∀i x,caps[i]?=some x->RV FT c x (vals i))->
  RV FT c (.fn vi caps) (.func (.func f) #[] cv)
 | agg (cs:List AV) (cv:Array Value) (vals:Nat->Value):cv.size=cs.length->
  (∀i x,cs[i]?=some x->cv[i]?=some (vals i)/\bC (vals i)=true)->
  (∀i x,cs[i]?=some x->RV FT c x (vals i))->RV FT c (.agg cs) (.agg cv)
 | tup (cs:List AV) (cv:Array Value) (vals:Nat->Value):cv.size=cs.length->
  (∀i x,cs[i]?=some x->cv[i]?=some (vals i))->
  (∀i x,cs[i]?=some x->RV FT c x (vals i))->RV FT c (.tup cs) (.tuple cv)
structure bW(fl:Nat)(c c':dF): Prop where
 X:c'.X=c.X
 os:c'.w.os=c.w.os
 tape:c'.w.tape=c.w.tape
 output:c'.w.output=c.w.output
 drawn:c.w.drawn<=c'.w.drawn
 size:c.w.heap.size<=c'.w.heap.size
 len:c.H.length<=c'.H.length
 frame:∀k,k<c.w.heap.size->(∀id,c.β id≠some k)->c'.w.heap[k]?=c.w.heap[k]?
 img:∀id b,c'.β id=some b->c.w.heap.size<=b\/∃i,c.β i=some b
 blkS:∀id s n,shp c.H id=some (s,n)->∃n',shp c'.H id=some (s,n')/\n<=n' /\
  (n=n'->c'.β id=c.β id/\∀b cs T,c.β id=some b->c.w.heap[b]?=some (.cells cs T (0,0))->
   ∃cs',c'.w.heap[b]?=some (.cells cs' T (0,0))/\cs'.size=cs.size)
 mpS:∀id,Dx c.H id->Dx c'.H id/\c'.β id=c.β id
 floor:∀id,id<fl->c'.H[id]?=c.H[id]?/\c'.β id=c.β id/\∀b,c.β id=some b->c'.w.heap[b]?=c.w.heap[b]?
theorem bW.refl(fl:Nat)(c:dF): bW fl c c where
 X:=rfl;os:=rfl;tape:=rfl;output:=rfl;drawn:=Zf _;size:=Zf _;len:=Zf _;frame:=λ_ _ _=>rfl;img:=λi _ h=>.inr ⟨i,h⟩;blkS:=λ_ _ n h=>⟨n,h,Zf _,λ_=>⟨rfl,λ_ cs _ _ j=>⟨cs,j,rfl⟩⟩⟩;mpS:=λ_ h=>⟨h,rfl⟩;floor:=λ_ _=>⟨rfl,rfl,λ_ _=>rfl⟩
theorem bW.trans{b:dF}(h:bW fl a b)(k:bW fl b c): bW fl a c where
 X:=k.X.trans h.X;os:=k.os.trans h.os;tape:=k.tape.trans h.tape;output:=k.output.trans h.output;drawn:=ZB h.drawn k.drawn;size:=ZB h.size k.size;len:=ZB h.len k.len;frame:=λi K L=>(k.frame i (YM K h.size) (λid d=>by
  rcases h.img id i d with g | ⟨j,g⟩
  .omega
  .exact L j g)).trans<|h.frame i K L
 img:=λid x f=>by
  rcases k.img id x f with g | ⟨j,g⟩
  .exact .inl<|ZB h.size g
  .exact h.img j x g
 blkS:=λid s n S=>by
  let⟨B,C,A,E⟩:=h.blkS id s n S;let⟨t,v,p,m⟩:=k.blkS id s B C;refine⟨t,v,ZB A p,λe=>?_⟩;have V:n=B:=by omega
  have e2:B=t:=by omega
  let⟨o,I⟩:=E V;let⟨G,y⟩:=m e2;refine⟨G.trans o,λx cs T f z=>?_⟩;let⟨cs',r,l⟩:=I x cs T f z;let⟨u,q,H⟩:=y x cs' T (o.trans f) r;exact⟨u,q,H.trans l⟩
 mpS:=λid R=>by
  let⟨r,l⟩:=h.mpS id R;let⟨q,H⟩:=k.mpS id r;exact⟨q,H.trans l⟩
 floor:=λid d=>by
  let⟨r,l,q⟩:=h.floor id d;let⟨Y,Q,U⟩:=k.floor id d;exact⟨Y.trans r,Q.trans l,λx f=>(U x<|l.trans f).trans<|q x f⟩
theorem bW.mono{c:Nat}{b:dF}(h:bW fl a b)(f:c<=fl): bW c a b:=
 { h with floor:=λid d=>h.floor id (YM d f) }
theorem bW.imm(h:bW fl c c')(e:nE c b)(d:c.w.heap[b]?=some o):
 nE c' b/\c'.w.heap[b]?=some o:=by
 have a:b<c.w.heap.size:=by
  rcases ZI b c.w.heap.size with h | h
  .exact h
  .rw[Yb h] at d;cases d
 refine⟨⟨by rw[h.X];exact e.1,λid f=>?_⟩,by rw[h.frame b a e.2];exact d⟩;rcases h.img id b f with g | ⟨j,g⟩
 .omega
 .exact e.2 j g
theorem bW.vis(h:bW fl c c')(f:Vis c b)(e:c.w.heap[b]?=some o): Vis c' b/\c'.w.heap[b]?=some o:=by
 have a:b<c.w.heap.size:=by
  rcases ZI b c.w.heap.size with h | h
  .exact h
  .rw[Yb h] at e;cases e
 refine⟨λid d=>?_,by rw[h.frame b a f];exact e⟩;rcases h.img id b d with g | ⟨j,g⟩
 .omega
 .exact f j g
theorem nE.vis(h:nE c b): Vis c b:=h.2
theorem aMh.step(h:bW fl c c'){id tot off len cap s:Nat}{a:Option Addr}(r:shp c.H id=some (s,tot))(i:shp c'.H id=some (s,tot))(f:aMh c id tot off len a cap s): aMh c' id tot off len a cap s:=by
 let⟨t,n,w,p⟩:=h.blkS id s tot r;have e:tot=t:=by rw[i] at n;simpa using n
 let⟨m,q⟩:=p e;let⟨u,f⟩:=f;refine⟨u,?_⟩;rcases f with⟨d,k,l,j⟩ | ⟨b,cs,T,a',d,k,l,j,v⟩
 .exact .inl ⟨m.trans d,k,l,j⟩
 .let⟨cs',o,g⟩:=q b cs T d k;exact .inr ⟨b,cs',T,a',m.trans d,o,by rw[g];exact l,j,v⟩
theorem RV.step[aF](h:bW fl c c')(N:RV FT c x v): RV FT c' x v:=by
 induction N with
 | pure x v z=>exact .pure x v<|z.mono λb o m g=>h.imm m g
 | ms id tot off len a cap s n k G S q=>
  let⟨F,p,r,J⟩:=h.blkS id s n k;refine .ms id tot off len a cap s F p (ZB G r) S λe=>?_;have H:tot=n:=by omega
  subst H;exact (q rfl).step h k<|by rw[p,e]
 | ptr id tot C off a s n k G q=>
  let⟨F,p,r,J⟩:=h.blkS id s n k;refine .ptr id tot C off a s F p (ZB G r) λe=>?_;have H:tot=n:=by omega
  let⟨b,g,Q⟩:=q H;exact⟨b,((J<|by omega).1).trans g,Q⟩
 | rptr cs b off cc T B d m g l z=>
  let⟨t,u⟩:=h.vis m g;exact .rptr cs b off cc T B d t u l λj x E=>(z j x E).mono λb o m g=>h.imm m g
 | vnil a cap=>exact .vnil a cap
 | vw es b off cap cc T B s d D m g y A l z=>
  let⟨t,u⟩:=h.vis m g;exact .vw es b off cap cc T B s d D t u y A l λi j x E=>(z i j x E).mono λb o m g=>h.imm m g
 | mp id b q g=>
  let⟨p,r⟩:=h.mpS id q;exact .mp id b p<|r.trans g
 | it id b q g=>
  let⟨p,r⟩:=h.mpS id q;exact .it id b p<|r.trans g
 | fn vi f caps cv d R k l _ w=>exact .fn vi f caps cv d R k l w
 | agg cs cv d k l _ w=>exact .agg cs cv d k l w
 | tup cs cv d k l _ w=>exact .tup cs cv d k l w
def vD[aF](c:dF): Prop:=∀g cs,aF.tab g=some cs->∃(cc:Array Value) (T:TypeId) (b:Nat×Nat) (a:Nat->Value),nE c g/\c.w.heap[g]?=some (.cells cc T b)/\aF.ok g cc /\
 (∀j x,cs[j]?=some x->cc[0+j]?=some (a j)/\bC (a j)=true)/\∀j x,cs[j]?=some x->RP c.w (nE c) x (a j)
theorem vD.step[aF](i:vD c)(h:bW fl c c'): vD c':=by
 intro g cs d;let⟨cc,T,m,a,r,q,k,n,t⟩:=i g cs d;let⟨f,e⟩:=h.imm r q;exact⟨cc,T,m,a,f,e,k,n,λj x p=>(t j x p).mono λb o s l=>h.imm s l⟩
theorem vD.rv[aF](d:vD c){g:Nat}{cs:List AV}(h:aF.tab g=some cs): RV FT c (.rptr cs)<|.pointer<|some ⟨g,0,none⟩:=by
 let⟨cc,T,f,a,j,e,_,i,b⟩:=d g cs h;exact .rptr cs g 0 cc T f a j.vis e i b
def aP4(es:Array MapEntry)(a n:Nat): Prop:=es.size=n/\Yng es a
structure bY[aF](FT:Nat->Option Nat)(c:dF): Prop where
 gl:vD c
 inj:∀(i j b:Nat),c.β i=some b->c.β j=some b->i=j
 dom:∀(id b:Nat),c.β id=some b->id<c.H.length
 nx:∀(id b:Nat),c.β id=some b->¬c.X b
 fresh:∀k:Nat,c.w.heap.size<=k->¬c.X k
 lens:∀(id s:Nat) (es:List (List AV)),c.H[id]?=some (.blk s es)->∀e∈es,e.length=s
 blk:∀(id s:Nat) (es:List (List AV)) (b:Nat),c.H[id]?=some (.blk s es)->c.β id=some b->∃cs T,c.w.heap[b]?=some (.cells cs T (0,0))/\es.length*s<=cs.size /\
  ∀i j x,bK es i j=some x->∃v,cs[i*s+j]?=some v/\bC v=true/\RV FT c x v
 map:∀(id:Nat) (ents:List (Value×AV)) (b:Nat),c.H[id]?=some (.mp ents)->c.β id=some b->∃(es:Array MapEntry) (clk:Nat),c.w.heap[b]?=some (.map es clk)/\aP4 es clk ents.length /\
  ∀(i:Nat) (k:Value) (x:AV),ents[i]?=some (k,x)->∃e,es[i]?=some e/\e.key=k/\RV FT c x e.val
 raw:∀(id:Nat) (ob:Obj) (b:Nat),c.H[id]?=some (.raw ob)->c.β id=some b->c.w.heap[b]?=some ob
def TR(FT:Nat->Option Nat)(c:dF)(tm:List AV)(tv:Array Value): Prop:=
 tm.length=tv.size/\∀(t:Nat) (x:AV),tm[t]?=some x->∃v,tv[t]?=some v/\RV FT c x v
theorem TR.step[aF](h:bW fl c c'){tm:List AV}{tv:Array Value}(a:TR FT c tm tv): TR FT c' tm tv:=
 ⟨a.1,λt x e=>let ⟨v,b,d⟩:=a.2 t x e;⟨v,b,d.step h⟩⟩
theorem RV.lit_inv{u:Value}(h:RV FT c (.lit u) v): v=u:=by
 cases h with
 | pure _ _ b=>cases b;rfl
theorem RV.lit(u:Value): RV FT c (.lit u) u:=.pure _ _<|.lit u
theorem RV.undef(u:Value): RV FT c .undef u:=.pure _ _<|.undef u
end
section
variable {FT:Nat->Option Nat}{H:aU}{T:TypeId}{α:Type}{a:α}{b:Nat}{c:dF}{cs cs':Array Value}{ents':List<|Value×AV}{es es':List<|List AV}{fl i id:Nat}{l:List α}{o:dK}{ob q q':Obj}{s:Nat}{w':World}
def upd(β:Nat->Option Nat)(id b:Nat): Nat->Option Nat:=λi=>if i=id then some b else β i
theorem eA(β:Nat->Option Nat)(id b:Nat): upd β id b id=some b:=by simp[upd]
theorem cT{β:Nat->Option Nat}(h:i≠id): upd β id b i=β i:=by simp[upd,h]
structure Jt(w w':World): Prop where
 heap:w'.heap=w.heap
 os:w'.os=w.os
 tape:w'.tape=w.tape
 output:w'.output=w.output
 drawn:w.drawn<=w'.drawn
theorem Jt.refl(w:World): Jt w w:=⟨rfl,rfl,rfl,rfl,Zf _⟩
theorem Jy(h:Jt c.w w'): bW fl c ⟨w',c.X,c.β,c.H⟩ where
 X:=rfl;os:=h.os;tape:=h.tape;output:=h.output;drawn:=h.drawn;size:=by simp[h.heap]
 len:=Zf _;frame:=λk _ _=>by simp[h.heap]
 img:=λi _ d=>.inr ⟨i,d⟩;blkS:=λ_ _ n o=>⟨n,o,Zf _,λ_=>⟨rfl,λ_ cs _ _ d=>⟨cs,by simpa [h.heap] using d,rfl⟩⟩⟩;mpS:=λ_ l=>⟨l,rfl⟩;floor:=λ_ _=>⟨rfl,rfl,λ_ _=>by simp[h.heap]⟩
theorem bY.drawn[aF](a:bY FT c)(h:Jt c.w w'): bY FT ⟨w',c.X,c.β,c.H⟩ where
 gl:=a.gl.step<|Jy (fl:=0) h;inj:=a.inj;dom:=a.dom;nx:=a.nx;fresh:=λk A=>a.fresh k (by simpa [h.heap] using A);lens:=a.lens;blk:=λid s es b g f=>by
  let⟨cs,T,n,p,t⟩:=a.blk id s es b g f;exact⟨cs,T,by simpa [h.heap] using n,p,λi j x u=>let ⟨v,q,o,r⟩:=t i j x u;⟨v,q,o,r.step<|Jy (fl:=0) h⟩⟩
 map:=λid d b g f=>by
  let⟨es,l,n,p,t⟩:=a.map id d b g f;exact⟨es,l,by simpa [h.heap] using n,p,λi k x u=>let ⟨e,q,o,r⟩:=t i k x u;⟨e,q,o,r.step<|Jy (fl:=0) h⟩⟩
 raw:=λid ob b g f=>by simpa [h.heap] using a.raw id ob b g f
theorem D3{r:Nat×Nat}(h:shp H id=some r): shp (H++[o]) id=some r:=by
 have a:id<H.length:=by
  rcases ZI id H.length with b | b
  .grind
  .simp[shp,Zy b] at h
 simpa [shp,Zo a] using h
theorem LW(h:Dx H id): Dx (H++[o]) id:=by
 let⟨a,he,c⟩:=h;have b:id<H.length:=by
  grind
 exact⟨a,by simpa [Zo b] using he,c⟩
theorem Oj[aF](C:fl<=c.H.length)(j:w'.heap=c.w.heap.push ob)(v:w'.os=c.w.os)(y:w'.tape=c.w.tape)(B:w'.output=c.w.output)(h:∀id b,c.β id=some b->b<c.w.heap.size)(A:c.w.drawn<=w'.drawn:=by first | exact Zf _ | exact Ys _ | exact ZY _ _ | assumption):
 bW fl c ⟨w',c.X,upd c.β c.H.length c.w.heap.size,c.H++[o]⟩ where
 X:=rfl;os:=v;tape:=y;output:=B;drawn:=A;size:=by simp[j]
 len:=by simp
 frame:=λk E _=>by simp only[j,ZU];rw[ZF<|by omega]
 img:=λid b d=>by
  by_cases e:id=c.H.length
  .subst e;simp only[eA] at d;cases d;exact .inl<|Zf _
  .simp only[cT e] at d;exact .inr ⟨_,d⟩
 blkS:=λid s n r=>⟨n,D3 r,Zf _,λ_=>by
  have a:id≠c.H.length:=by
   intro e;subst e;simp[shp] at r
  refine⟨cT a,λb cs T d m=>⟨cs,?_,rfl⟩⟩;have:=h id b d;simp only[j,ZU];rw[ZF<|by omega];exact m⟩
 mpS:=λid q=>⟨LW q,by
  have a:id≠c.H.length:=by
   intro e;subst e;let⟨_,he,_⟩:=q;simp at he
  exact cT a⟩
 floor:=λid x=>by
  have a:id≠c.H.length:=by omega
  refine⟨Zo<|by omega,cT a,λb d=>?_⟩;grind
theorem bY.lt[aF](d:bY FT c)(h:c.β id=some b): b<c.w.heap.size:=by
 have g:=d.dom id b h;cases e:c.H[id]? with
 | none=>grind
 | some o=>
  cases o with
  | blk s es=>
   let⟨cs,T,f,_⟩:=d.blk id s es b e h;grind
  | mp a=>
   let⟨es,i,f,_⟩:=d.map id a b e h;grind
  | raw ob=>
   have f:=d.raw id ob b e h;grind
theorem w7[aF](h:bY FT c)(I:w'.heap=c.w.heap.push ob)(L:w'.os=c.w.os)(O:w'.tape=c.w.tape)(N:w'.output=c.w.output)(U:∀s es,o=.blk s es->∀e∈es,e.length=s)(R:∀s es,o=.blk s es->∃cs T,ob=.cells cs T (0,0)/\es.length*s<=cs.size /\
  ∀i j x,bK es i j=some x->∃v,cs[i*s+j]?=some v/\bC v=true/\RV FT c x v)(M:∀g,o=.mp g->g=[]/\∃n,ob=.map #[] n)(K:∀q,o=.raw q->ob=q)(V:c.w.drawn<=w'.drawn:=by first | exact Zf _ | exact Ys _ | exact ZY _ _ | assumption):
 bY FT ⟨w',c.X,upd c.β c.H.length c.w.heap.size,c.H++[o]⟩:=by
 have p:=Oj (fl:=0) (o:=o) (ZG _) I L O N λid b f=>h.lt f;have m:w'.heap[c.w.heap.size]?=some ob:=by simp[I]
 refine⟨h.gl.step p,?_,?_,?_,λk S=>h.fresh k<|by simp only[I,Xu] at S;omega,?_,?_,?_,?_⟩
 .intro i j b B y;by_cases J:i=c.H.length
  .by_cases G:j=c.H.length
   .grind
   .subst J;simp only[eA] at B;simp only[cT G] at y;cases B;have:=h.lt y;omega
  .simp only[cT J] at B;by_cases G:j=c.H.length
   .subst G;simp only[eA] at y;cases y;have:=h.lt B;omega
   .simp only[cT G] at y;exact h.inj i j b B y
 .intro id b f;by_cases e:id=c.H.length
  .simp[e]
  .simp only[cT e] at f;have:=h.dom id b f;simp only[Zh,Yd];omega
 .intro id b f;by_cases e:id=c.H.length
  .subst e;simp only[eA] at f;cases f;exact h.fresh _<|Zf _
  .simp only[cT e] at f;exact h.nx id b f
 .intro id s es d;simp only at d;rw[Yk] at d;split at d
  .exact h.lens id s es d
  .grind
 .intro id s es b d f;simp only at d f |-;by_cases e:id=c.H.length
  .subst e;simp only[eA] at f;cases f;have C:o=.blk s es:=by simpa using d
   let⟨cs,T,t,r,D⟩:=R s es C;refine⟨cs,T,by rw[m,t],r,λi j x u=>?_⟩;let⟨v,E,z,F⟩:=D i j x u;exact⟨v,E,z,F.step p⟩
  .simp only[cT e] at f;have l:=h.dom id b f;rw[Zo l] at d;let⟨cs,T,t,r,D⟩:=h.blk id s es b d f;have A:=h.lt f;refine⟨cs,T,?_,r,λi j x u=>?_⟩
   .grind
   .let⟨v,E,z,F⟩:=D i j x u;exact⟨v,E,z,F.step p⟩
 .intro id g b d f;simp only at d f |-;by_cases e:id=c.H.length
  .subst e;simp only[eA] at f;cases f;have C:o=.mp g:=by simpa using d
   let⟨t,n,r⟩:=M g C;subst t;exact⟨#[],n,by rw[m,r],⟨rfl,(λe he=>by cases he),by simp⟩,λi k x u=>by simp at u⟩
  .simp only[cT e] at f;have l:=h.dom id b f;rw[Zo l] at d;let⟨es,n,t,r,D⟩:=h.map id g b d f;have A:=h.lt f;refine⟨es,n,?_,r,λi k x u=>?_⟩
   .grind
   .let⟨Q,E,z,F⟩:=D i k x u;exact⟨Q,E,z,F.step p⟩
 .intro id q b d f;simp only at d f |-;by_cases e:id=c.H.length
  .subst e;simp only[eA] at f;cases f;have C:o=.raw q:=by simpa using d
   rw[m,K q C]
  .simp only[cT e] at f;have l:=h.dom id b f;rw[Zo l] at d;have t:=h.raw id q b d f;have A:=h.lt f;simp only[I,ZU];rw[ZF<|by omega];exact t
theorem aAk[aF](o:bY FT c)(d:w'.heap=c.w.heap.push ob)(q:w'.os=c.w.os)(r:w'.tape=c.w.tape)(u:w'.output=c.w.output)(y:c.w.drawn<=w'.drawn:=by first | exact Zf _ | exact Ys _ | exact ZY _ _ | assumption):
 bW fl c ⟨w',c.X,c.β,c.H⟩ where
 X:=rfl;os:=q;tape:=r;output:=u;drawn:=y;size:=by simp[d]
 len:=Zf _;frame:=λk A _=>by simp only[d,ZU];rw[ZF<|by omega]
 img:=λi _ a=>.inr ⟨i,a⟩;blkS:=λid s n f=>⟨n,f,Zf _,λ_=>⟨rfl,λb cs T a l=>⟨cs,by
  have:=o.lt a;simp only[d,ZU];rw[ZF<|by omega];exact l,rfl⟩⟩⟩
 mpS:=λid v=>⟨v,rfl⟩;floor:=λid t=>⟨rfl,rfl,λb a=>by
  have:=o.lt a;simp only[d,ZU];rw[ZF<|by omega]⟩
theorem aJE[aF](a:bY FT c)(p:w'.heap=c.w.heap.push ob)(y:w'.os=c.w.os)(z:w'.tape=c.w.tape)(B:w'.output=c.w.output)(C:c.w.drawn<=w'.drawn:=by first | exact Zf _ | exact Ys _ | exact ZY _ _ | assumption):
 bY FT ⟨w',c.X,c.β,c.H⟩:=by
 have f:=aAk (fl:=0) a p y z B;refine⟨a.gl.step f,a.inj,a.dom,a.nx,λk A=>a.fresh k<|by simp only[p,Xu] at A;omega,a.lens,?_,?_,λid q b d g=>by
  have o:=a.raw id q b d g;have:=a.lt g;simp only[p,ZU];rw[ZF<|by omega];exact o⟩
 .intro id s' es b d g;let⟨cs,T,o,n,t⟩:=a.blk id s' es b d g;refine⟨cs,T,?_,n,λi j x s=>let ⟨v,m,r,u⟩:=t i j x s;⟨v,m,r,u.step f⟩⟩;grind
 .intro id h b d g;let⟨es,l,o,n,t⟩:=a.map id h b d g;refine⟨es,l,?_,n,λi k x s=>let ⟨e,m,r,u⟩:=t i k x s;⟨e,m,r,u.step f⟩⟩;grind
theorem Jz[aF](m:fl<=c.H.length): bW fl c ⟨c.w,c.X,c.β,c.H++[.blk s []]⟩ where
 X:=rfl;os:=rfl;tape:=rfl;output:=rfl;drawn:=Zf _;size:=Zf _;len:=by simp
 frame:=λ_ _ _=>rfl;img:=λi _ l=>.inr ⟨i,l⟩;blkS:=λid s n r=>⟨n,D3 r,Zf _,λ_=>⟨rfl,λb cs T _ e=>⟨cs,e,rfl⟩⟩⟩;mpS:=λid p=>⟨LW p,rfl⟩;floor:=λid k=>⟨Zo<|by omega,rfl,λ_ _=>rfl⟩
theorem PR[aF](d:bY FT c): bY FT ⟨c.w,c.X,c.β,c.H++[.blk s []]⟩:=by
 have h:=Jz (c:=c) (s:=s)<|ZG _;refine⟨d.gl.step h,d.inj,?_,d.nx,d.fresh,?_,?_,?_,λid q b a g=>by
  have f:=d.dom id b g;rw[Zo f] at a;exact d.raw id q b a g⟩
 .intro id b g;have:=d.dom id b g;simp;omega
 .intro id s' es a;rw[Yk] at a;split at a
  .exact d.lens id s' es a
  .grind
 .intro id s' es b a g;have f:=d.dom id b g;rw[Zo f] at a;let⟨cs,T,o,y,r⟩:=d.blk id s' es b a g;exact⟨cs,T,o,y,λi j x t=>let ⟨v,n,p,u⟩:=r i j x t;⟨v,n,p,u.step h⟩⟩
 .intro id l b a g;have f:=d.dom id b g;rw[Zo f] at a;let⟨es,m,o,y,r⟩:=d.map id l b a g;exact⟨es,m,o,y,λi k x t=>let ⟨e,n,p,u⟩:=r i k x t;⟨e,n,p,u.step h⟩⟩
theorem getElem?_set_ne'{j:Nat}(h:j≠i): (l.set i a)[j]?=l[j]?:=by grind
theorem getElem?_set_eq'{b:α}(h:l[i]?=some b): (l.set i a)[i]?=some a:=by grind
theorem uT[aF]{s':Nat}(h:H[id]?=some (.blk s es))(i:Nat):
 shp (H.set id<|.blk s' es') i=if i=id then some (s',es'.length) else shp H i:=by
 by_cases e:i=id
 .subst e;simp[shp,getElem?_set_eq' h]
 .simp[shp,getElem?_set_ne' e,e]
theorem oA[aF](J:bY FT c)(F:fl<=id)(l:c.H[id]?=some (.blk s es))(u:c.β id=some b)(z:c.w.heap[b]?=some (.cells cs T (0,0)))(v:es.length<=es'.length)(G:cs'.size=cs.size)(R:w'.heap[b]?=some (.cells cs' T (0,0)))(r:∀k,k≠b->w'.heap[k]?=c.w.heap[k]?)(C:w'.heap.size=c.w.heap.size)(B:w'.os=c.w.os)(M:w'.tape=c.w.tape)(L:w'.output=c.w.output)(I:c.w.drawn<=w'.drawn:=by first | exact Zf _ | exact Ys _ | exact ZY _ _ | assumption):
 bW fl c ⟨w',c.X,c.β,c.H.set id<|.blk s es'⟩ where
 X:=rfl;os:=B;tape:=M;output:=L;drawn:=I;size:=by simp[C]
 len:=by simp
 frame:=λk _ A=>r k λe=>A id (by rw[e];exact u);img:=λi _ h=>.inr ⟨i,h⟩;blkS:=λi s' n a=>by
  have D:=uT (s':=s) (es':=es') l i;by_cases e:i=id
  .subst e;have N:s'=s/\n=es.length:=by
    simp only[shp,l,Za,Zi] at a;exact⟨a.1.symm,a.2.symm⟩
   grind
  .grind
 mpS:=λi E=>⟨by
  let⟨f,he,g⟩:=E;have e:i≠id:=by intro e;subst e;rw[l] at he;cases he;exact g
  exact⟨f,by simpa [getElem?_set_ne' e] using he,g⟩,rfl⟩
 floor:=λi Q=>by
  have e:i≠id:=by omega
  exact⟨getElem?_set_ne' e,rfl,λb' m=>r b' λy=>e<|J.inj i id b (by rw[<-y];exact m) u⟩
theorem yF[aF](l:bY FT c)(D:c.H[id]?=some (.blk s es))(p:c.β id=some b)(K:c.w.heap[b]?=some (.cells cs T (0,0)))(z:es.length<=es'.length)(F:cs'.size=cs.size)(M:w'.heap[b]?=some (.cells cs' T (0,0)))(E:∀k,k≠b->w'.heap[k]?=c.w.heap[k]?)(N:w'.heap.size=c.w.heap.size)(R:w'.os=c.w.os)(V:w'.tape=c.w.tape)(Q:w'.output=c.w.output)(Z:∀e∈es',e.length=s)(C:es'.length*s<=cs'.size)(S:∀i j x,bK es' i j=some x->∃v,cs'[i*s+j]?=some v/\bC v=true/\RV FT c x v)(Y:c.w.drawn<=w'.drawn:=by first | exact Zf _ | exact Ys _ | exact ZY _ _ | assumption):
 bY FT ⟨w',c.X,c.β,c.H.set id<|.blk s es'⟩:=by
 have n:=oA l (ZG _) D p K z F M E N R V Q;refine⟨l.gl.step n,l.inj,?_,l.nx,λk W=>l.fresh k<|by simpa [N] using W,?_,?_,?_,λi q b' f g=>by
  have e:i≠id:=by intro e;subst e;rw[getElem?_set_eq' D] at f;cases f
  rw[getElem?_set_ne' e] at f;have u:=l.raw i q b' f g;rw[E b' λo=>e<|l.inj i id b (by rw[<-o];exact g) p];exact u⟩
 .intro i b' g;have:=l.dom i b' g;simpa using this
 .intro i s' m f;by_cases e:i=id
  .grind
  .rw[getElem?_set_ne' e] at f;exact l.lens i s' m f
 .intro i s' m b' f g;by_cases e:i=id
  .subst e;rw[getElem?_set_eq' D] at f;cases f;rw[p] at g;cases g;exact⟨cs',T,M,C,λa d x y=>let ⟨v,r,B,A⟩:=S a d x y;⟨v,r,B,A.step n⟩⟩
  .rw[getElem?_set_ne' e] at f;let⟨L,U,u,J,I⟩:=l.blk i s' m b' f g;refine⟨L,U,?_,J,λa d x y=>let ⟨v,r,B,A⟩:=I a d x y;⟨v,r,B,A.step n⟩⟩;rw[E b' λo=>e<|l.inj i id b (by rw[<-o];exact g) p];exact u
 .intro i t b' f g;have e:i≠id:=by intro e;subst e;rw[getElem?_set_eq' D] at f;cases f
  rw[getElem?_set_ne' e] at f;let⟨m,G,u,J,I⟩:=l.map i t b' f g;refine⟨m,G,?_,J,λa k x y=>let ⟨O,r,B,A⟩:=I a k x y;⟨O,r,B,A.step n⟩⟩;rw[E b' λo=>e<|l.inj i id b (by rw[<-o];exact g) p];exact u
theorem Ha[aF](D:bY FT c)(E:fl<=id)(u:c.H[id]?=some (.blk s es))(v:es.length<es'.length)(m:w'.heap=c.w.heap.push ob)(F:w'.os=c.w.os)(z:w'.tape=c.w.tape)(G:w'.output=c.w.output)(C:c.w.drawn<=w'.drawn:=by first | exact Zf _ | exact Ys _ | exact ZY _ _ | assumption):
 bW fl c ⟨w',c.X,upd c.β id c.w.heap.size,c.H.set id<|.blk s es'⟩ where
 X:=rfl;os:=F;tape:=z;output:=G;drawn:=C;size:=by simp[m]
 len:=by simp
 frame:=λk L _=>by simp only[m,ZU];rw[ZF<|by omega]
 img:=λi b h=>by
  by_cases e:i=id
  .subst e;simp only[eA] at h;cases h;exact .inl<|Zf _
  .simp only[cT e] at h;exact .inr ⟨_,h⟩
 blkS:=λi s' n d=>by
  have o:=uT (s':=s) (es':=es') u i;by_cases e:i=id
  .subst e;have J:s'=s/\n=es.length:=by
    simp only[shp,u,Za,Zi] at d;exact⟨d.1.symm,d.2.symm⟩
   grind
  .refine⟨n,by rw[o,ZF e];exact d,Zf _,λ_=>⟨cT e,λb' r N g A=>⟨r,?_,rfl⟩⟩⟩;grind
 mpS:=λi B=>by
  let⟨f,he,j⟩:=B;have e:i≠id:=by intro e;subst e;rw[u] at he;cases he;exact j
  exact⟨⟨f,by simpa [getElem?_set_ne' e] using he,j⟩,cT e⟩
 floor:=λi M=>by
  have e:i≠id:=by omega
  refine⟨getElem?_set_ne' e,cT e,λb' g=>?_⟩;have:=D.lt g;simp only[m,ZU];rw[ZF<|by omega]
theorem KO[aF](l:bY FT c)(F:c.H[id]?=some (.blk s es))(C:es.length<es'.length)(p:w'.heap=c.w.heap.push (.cells cs' T (0,0)))(S:w'.os=c.w.os)(Q:w'.tape=c.w.tape)(V:w'.output=c.w.output)(Y:∀e∈es',e.length=s)(u:es'.length*s<=cs'.size)(O:∀i j x,bK es' i j=some x->∃v,cs'[i*s+j]?=some v/\bC v=true/\RV FT c x v)(W:c.w.drawn<=w'.drawn:=by first | exact Zf _ | exact Ys _ | exact ZY _ _ | assumption):
 bY FT ⟨w',c.X,upd c.β id c.w.heap.size,c.H.set id<|.blk s es'⟩:=by
 have n:=Ha (fl:=0) l (ZG _) F C p S Q V;refine⟨l.gl.step n,?_,?_,?_,λk R=>l.fresh k<|by simp only[p,Xu] at R;omega,?_,?_,?_,λi q b' g h=>by
  have e:i≠id:=by intro e;subst e;rw[getElem?_set_eq' F] at g;cases g
  rw[getElem?_set_ne' e] at g;simp only[cT e] at h;have y:=l.raw i q b' g h;have:=l.lt h;simp only[p,ZU];rw[ZF<|by omega];exact y⟩
 .intro i j b B o;by_cases M:i=id
  .by_cases G:j=id
   .grind
   .subst M;simp only[eA] at B;simp only[cT G] at o;cases B;have:=l.lt o;omega
  .simp only[cT M] at B;by_cases G:j=id
   .subst G;simp only[eA] at o;cases o;have:=l.lt B;omega
   .simp only[cT G] at o;exact l.inj i j b B o
 .intro i b' h;by_cases e:i=id
  .grind
  .simp only[cT e] at h;have:=l.dom i b' h;simpa using this
 .intro i b E;by_cases e:i=id
  .subst e;simp only[eA] at E;cases E;exact l.fresh _<|Zf _
  .simp only[cT e] at E;exact l.nx i b E
 .intro i s' m g;by_cases e:i=id
  .grind
  .rw[getElem?_set_ne' e] at g;exact l.lens i s' m g
 .intro i s' m b' g h;by_cases e:i=id
  .subst e;rw[getElem?_set_eq' F] at g;cases g;simp only[eA] at h;cases h;exact⟨cs',T,by simp[p],u,λa d x A=>let ⟨v,z,t,r⟩:=O a d x A;⟨v,z,t,r.step n⟩⟩
  .rw[getElem?_set_ne' e] at g;simp only[cT e] at h;let⟨I,U,y,J,L⟩:=l.blk i s' m b' g h;refine⟨I,U,?_,J,λa d x A=>let ⟨v,z,t,r⟩:=L a d x A;⟨v,z,t,r.step n⟩⟩;have:=l.lt h;simp only[p,ZU];rw[ZF<|by omega];exact y
 .intro i D b' g h;have e:i≠id:=by intro e;subst e;rw[getElem?_set_eq' F] at g;cases g
  rw[getElem?_set_ne' e] at g;simp only[cT e] at h;let⟨m,K,y,J,L⟩:=l.map i D b' g h;refine⟨m,K,?_,J,λa k x A=>let ⟨N,z,t,r⟩:=L a k x A;⟨N,z,t,r.step n⟩⟩;have:=l.lt h;simp only[p,ZU];rw[ZF<|by omega];exact y
theorem Oi[aF]{f:List<|Value×AV}(u:bY FT c)(A:fl<=id)(v:c.H[id]?=some (.mp f))(j:c.β id=some b)(t:w'.heap=c.w.heap.setIfInBounds b ob)(z:w'.os=c.w.os)(x:w'.tape=c.w.tape)(y:w'.output=c.w.output)(D:c.w.drawn<=w'.drawn:=by first | exact Zf _ | exact Ys _ | exact ZY _ _ | assumption):
 bW fl c ⟨w',c.X,c.β,c.H.set id<|.mp ents'⟩:=by
 have r:∀k,k≠b->w'.heap[k]?=c.w.heap[k]?:=λk q=>by
  rw[t,YB<|Ne.symm q]
 refine⟨rfl,z,x,y,D,by simp[t],by simp,λk _ q=>r k λe=>q id<|by rw[e];exact j,λi _ h=>.inr ⟨i,h⟩,?_,?_,?_⟩
 .intro i s n g;have e:i≠id:=by intro e;subst e;simp[shp,v] at g
  refine⟨n,by simpa [shp,getElem?_set_ne' e] using g,Zf _,λ_=>⟨rfl,λb' p F a l=>⟨p,?_,rfl⟩⟩⟩;exact (r b' λm=>e<|u.inj i id b (by rw[<-m];exact a) j).trans l
 .intro i C;refine⟨?_,rfl⟩;by_cases e:i=id
  .subst e;exact⟨.mp ents',getElem?_set_eq' v,trivial⟩
  .let⟨B,he,o⟩:=C;exact⟨B,by simpa [getElem?_set_ne' e] using he,o⟩
 .intro i E;have e:i≠id:=by omega
  exact⟨getElem?_set_ne' e,rfl,λb' a=>r b' λm=>e<|u.inj i id b (by rw[<-m];exact a) j⟩
theorem D1[aF]{r:List<|Value×AV}{es:Array MapEntry}{m:Nat}(h:bY FT c)(y:c.H[id]?=some (.mp r))(o:c.β id=some b)(C:w'.heap=c.w.heap.setIfInBounds b (.map es m))(R:w'.os=c.w.os)(Q:w'.tape=c.w.tape)(M:w'.output=c.w.output)(L:aP4 es m ents'.length)(O:∀(i:Nat) (k:Value) (x:AV),ents'[i]?=some (k,x)->∃e,es[i]?=some e/\e.key=k/\RV FT c x e.val)(S:c.w.drawn<=w'.drawn:=by first | exact Zf _ | exact Ys _ | exact ZY _ _ | assumption):
 bY FT ⟨w',c.X,c.β,c.H.set id<|.mp ents'⟩:=by
 have l:=Oi (ents':=ents') h (ZG _) y o C R Q M;have J:∀k,k≠b->w'.heap[k]?=c.w.heap[k]?:=λk K=>by
  rw[C,YB<|Ne.symm K]
 have I:=h.lt o;refine⟨h.gl.step l,h.inj,?_,h.nx,λk K=>h.fresh k<|by simpa [C] using K,?_,?_,?_,λi q b' f g=>by
  have e:i≠id:=by intro e;subst e;rw[getElem?_set_eq' y] at f;cases f
  rw[getElem?_set_ne' e] at f;have z:=h.raw i q b' f g;rw[J b' λt=>e<|h.inj i id b (by rw[<-t];exact g) o];exact z⟩
 .intro i b' g;have:=h.dom i b' g;simpa using this
 .intro i s' j f;have e:i≠id:=by intro e;subst e;rw[getElem?_set_eq' y] at f;cases f
  rw[getElem?_set_ne' e] at f;exact h.lens i s' j f
 .intro i s' j b' f g;have e:i≠id:=by intro e;subst e;rw[getElem?_set_eq' y] at f;cases f
  rw[getElem?_set_ne' e] at f;let⟨G,N,z,E,F⟩:=h.blk i s' j b' f g;refine⟨G,N,?_,E,λa d x A=>let ⟨v,u,s,B⟩:=F a d x A;⟨v,u,s,B.step l⟩⟩;rw[J b' λt=>e<|h.inj i id b (by rw[<-t];exact g) o];exact z
 .intro i D b' f g;by_cases e:i=id
  .subst e;rw[getElem?_set_eq' y] at f;cases f;rw[o] at g;cases g;refine⟨es,m,by rw[C];simp[I],L,λa k x A=>let ⟨e,u,s,B⟩:=O a k x A;⟨e,u,s,B.step l⟩⟩
  .rw[getElem?_set_ne' e] at f;let⟨j,p,z,E,F⟩:=h.map i D b' f g;refine⟨j,p,?_,E,λa k x A=>let ⟨D,u,s,B⟩:=F a k x A;⟨D,u,s,B.step l⟩⟩;rw[J b' λt=>e<|h.inj i id b (by rw[<-t];exact g) o];exact z
theorem VB[aF](v:bY FT c)(A:fl<=id)(u:c.H[id]?=some (.raw q))(o:c.β id=some b)(t:w'.heap=c.w.heap.setIfInBounds b q')(D:w'.os=c.w.os)(x:w'.tape=c.w.tape)(C:w'.output=c.w.output)(y:c.w.drawn<=w'.drawn:=by first | exact Zf _ | exact Ys _ | exact ZY _ _ | assumption):
 bW fl c ⟨w',c.X,c.β,c.H.set id<|.raw q'⟩:=by
 have j:∀k,k≠b->w'.heap[k]?=c.w.heap[k]?:=λk r=>by
  rw[t,YB<|Ne.symm r]
 refine⟨rfl,D,x,C,y,by simp[t],by simp,λk _ r=>j k λe=>r id<|by rw[e];exact o,λi _ h=>.inr ⟨i,h⟩,?_,?_,?_⟩
 .intro i s n f;have e:i≠id:=by intro e;subst e;simp[shp,u] at f
  refine⟨n,by simpa [shp,getElem?_set_ne' e] using f,Zf _,λ_=>⟨rfl,λb' m F a g=>⟨m,?_,rfl⟩⟩⟩;exact (j b' λl=>e<|v.inj i id b (by rw[<-l];exact a) o).trans g
 .intro i z;refine⟨?_,rfl⟩;by_cases e:i=id
  .subst e;exact⟨.raw q',getElem?_set_eq' u,trivial⟩
  .let⟨B,he,p⟩:=z;exact⟨B,by simpa [getElem?_set_ne' e] using he,p⟩
 .intro i E;have e:i≠id:=by omega
  exact⟨getElem?_set_ne' e,rfl,λb' a=>j b' λl=>e<|v.inj i id b (by rw[<-l];exact a) o⟩
theorem aFd[aF](h:bY FT c)(s:c.H[id]?=some (.raw q))(o:c.β id=some b)(y:w'.heap=c.w.heap.setIfInBounds b q')(J:w'.os=c.w.os)(M:w'.tape=c.w.tape)(K:w'.output=c.w.output)(O:c.w.drawn<=w'.drawn:=by first | exact Zf _ | exact Ys _ | exact ZY _ _ | assumption):
 bY FT ⟨w',c.X,c.β,c.H.set id<|.raw q'⟩:=by
 have l:=VB h (ZG _) s o y J M K;have u:∀k,k≠b->w'.heap[k]?=c.w.heap[k]?:=λk E=>by
  rw[y,YB<|Ne.symm E]
 have I:=h.lt o;refine⟨h.gl.step l,h.inj,?_,h.nx,λk E=>h.fresh k<|by simpa [y] using E,?_,?_,?_,?_⟩
 .intro i b' g;have:=h.dom i b' g;simpa using this
 .intro i s' j f;have e:i≠id:=by intro e;subst e;rw[getElem?_set_eq' s] at f;cases f
  rw[getElem?_set_ne' e] at f;exact h.lens i s' j f
 .intro i s' j b' f g;have e:i≠id:=by intro e;subst e;rw[getElem?_set_eq' s] at f;cases f
  rw[getElem?_set_ne' e] at f;let⟨C,N,n,G,z⟩:=h.blk i s' j b' f g;refine⟨C,N,?_,G,λa d x F=>let ⟨v,D,A,t⟩:=z a d x F;⟨v,D,A,t.step l⟩⟩;rw[u b' λp=>e<|h.inj i id b (by rw[<-p];exact g) o];exact n
 .intro i B b' f g;have e:i≠id:=by intro e;subst e;rw[getElem?_set_eq' s] at f;cases f
  rw[getElem?_set_ne' e] at f;let⟨j,r,n,G,z⟩:=h.map i B b' f g;refine⟨j,r,?_,G,λa k x F=>let ⟨B,D,A,t⟩:=z a k x F;⟨B,D,A,t.step l⟩⟩;rw[u b' λp=>e<|h.inj i id b (by rw[<-p];exact g) o];exact n
 .intro i L b' f g;by_cases e:i=id
  .grind
  .rw[getElem?_set_ne' e] at f;have n:=h.raw i L b' f g;rw[u b' λp=>e<|h.inj i id b (by rw[<-p];exact g) o];exact n
end
section
def aK(T:List cQ)(vi:Nat): Option Nat:=match T[vi]? with | some F=>some F.fid | none=>none
def veq: Value->Value->Bool
 | .bool a,.bool b=>a==b
 | .int k a,.int k' b=>decide (k=k')&&decide (a=b)
 | .string a,.string b=>decide<|a.data=b.data
 | .slice none 0 0,.slice none 0 0=>true
 | .pointer none,.pointer none=>true
 | .map none,.map none=>true
 | .nilFunc,.nilFunc=>true
 | .nilIface,.nilIface=>true
 | _,_=>false
variable {a b:Value}
theorem aEV(h:veq a b=true): a=b:=by
 unfold veq at h;split at h
 .simp_all
 .simp only[Zd,Z4] at h;rw[h.1,h.2]
 .rename_i x y;simp only[Z4] at h;cases x;cases y;simp_all
 all_goals first | rfl | cases h
def aCR: List Value->List Value->Bool
 | [],[]=>true
 | a::r,b::s=>veq a b&&aCR r s
 | _,_=>false
theorem w5[aF]: ∀{a b:List Value},aCR a b=true->a=b
 | [],[],_=>rfl
 | a::r,b::s,h=>by
  simp only[aCR,Zd] at h;rw[aEV h.1,w5 h.2]
 | [],_::_,h=>by cases h
 | _::_,[],h=>by cases h
theorem aEU(h:veq a b=true): bC a=true:=by
 unfold veq at h;split at h<;>first | rfl | cases h
theorem Dh[aF]: ∀{a b:List Value},aCR a b=true->∀v∈a,bC v=true
 | [],[],_,v,c=>by cases c
 | a::r,b::s,h,v,c=>by
  simp only[aCR,Zd] at h;rcases ZN.1 c with rfl | c
  .exact aEU h.1
  .exact Dh h.2 v c
 | [],_::_,h,_,_=>by cases h
 | _::_,[],h,_,_=>by cases h
section
variable (P:Program)(T:List cQ)
def aS: bA->Operand->Bool
 | .tmp t,.tmp u=>t==u
 | .lit v,.const u=>veq v u
 | .agg vs,.const (.agg us)=>aCR vs us.toList
 | .fn vi,.func f=>aK T vi==some f
 | .glob g,.global g'=>g==g'
 | _,_=>false
def eQ: List bA->List Operand->Bool
 | [],[]=>true
 | a::r,b::s=>aS T a b&&eQ r s
 | _,_=>false
def wS: Option bA->Option Operand->Bool
 | none,none=>true
 | some a,some b=>aS T a b
 | _,_=>false
def nG(t:TypeId)(z:List Value): Bool:=
 match P.info? t with
 | some i=>match i.zero with
  | some v=>aCR z v.cells.toList
  | none=>false
 | none=>false
def dO(t:TypeId)(n:Nat): Bool:=
 match P.info? t with
 | some i=>i.size==n
 | none=>false
def uY(t:TypeId)(n:Nat): Bool:=
 match P.info? t with
 | some i=>i.bytes==n
 | none=>false
def Fh(t:TypeId)(b:Bool): Bool:=
 match P.underlying t with
 | some (.struct _)=>b
 | some (.array _ _)=>b
 | some _=>!b
 | none=>false
def Ri(place:Nat->Option (Nat×Nat)): List (Nat×Nat×bA)->List (Nat×Operand)->Bool
 | [],[]=>true
 | (o,s,x)::r,(i,y)::q=>place i==some (o,s)&&aS T x y&&Ri place r q
 | _,_=>false
def Rl: List (Nat×bA)->List (Nat×Operand)->Bool
 | [],[]=>true
 | (i,x)::r,(j,y)::q=>i==j&&aS T x y&&Rl r q
 | _,_=>false
def AE(fs:Array Field)(i:Nat): Option<|Nat×Nat:=
 match fs[i]? with
 | some f=>match P.info? f.type with
  | some n=>some (f.offset,n.size)
  | none=>none
 | none=>none
def O9(fs:List Field): Bool:=fs.all λf=>(P.info? f.type).isSome
def cR(a:Ju)(o:Op): Bool:=
 match a with
 | .mov x=>(match o with
  | .move y=>aS T x y
  | .assign y=>aS T x y
  | _=>false)
 | .movN x=>(match o with
  | .move y=>aS T x y
  | .assign y=>aS T x y
  | _=>false)
 | .rangeStr x=>(match o with
  | .range t y=>aS T x y&&(match P.underlying t with | some .string=>true | _=>false)
  | _=>false)
 | .nextStr x=>(match o with
  | .next y b=>aS T x y&&b
  | _=>false)
 | .freeze x=>(match o with
  | .move y=>aS T x y
  | .assign y=>aS T x y
  | _=>false)
 | .loadF n _ x=>(match o with
  | .load t y=>Fh P t true&&dO P t n&&aS T x y
  | _=>false)
 | .pick c a b=>(match o with
  | .pick c' a' b'=>aS T c c'&&aS T a a'&&aS T b b'
  | _=>false)
 | .alloc z=>(match o with
  | .alloc t=>nG P t z
  | _=>false)
 | .claim _=>(match o with
  | .move (.const<|.slice none 0 0)=>true
  | .assign (.const<|.slice none 0 0)=>true
  | _=>false)
 | .allocC z cl=>(match o with
  | .alloc t=>nG P t z&&cl.all λc=>match z[c.1]? with | some (.slice none 0 0)=>true | _=>false
  | _=>false)
 | .box x=>(match o with
  | .box _ y=>aS T x y
  | _=>false)
 | .boxC x _=>(match o with
  | .box _ y=>aS T x y
  | _=>false)
 | .build z ps=>(match o with
  | .build t qs=>nG P t z&&match P.underlying t with
   | some (.struct fs)=>O9 P fs.toList&&Ri T (AE P fs) ps qs.toList
   | some (.array _ e)=>match P.info? e with
    | some i=>Ri T (λk=>some (k*i.size,i.size)) ps qs.toList
    | none=>false
   | _=>false
  | _=>false)
 | .buildSl _ s n z ps=>(match o with
  | .buildSlice t m qs=>n==m&&match P.underlying t with
   | some (.slice e)=>dO P e s&&nG P e z&&z.length==s&&decide (0<s)&&decide (n*s<=2 ^ 24)&&Rl T ps qs.toList
   | _=>false
  | _=>false)
 | .load agg n x=>(match o with
  | .load t y=>Fh P t agg&&dO P t n&&(agg||n==1)&&aS T x y
  | _=>false)
 | .store n x v=>(match o with
  | .store t y u=>dO P t n&&aS T x y&&aS T v u
  | _=>false)
 | .nilCheck x=>(match o with
  | .nilCheck y=>aS T x y
  | _=>false)
 | .ibin op x y=>(match o with
  | .binOp op' _ x' y' _=>decide (op=op')&&aS T x x'&&aS T y y'
  | _=>false)
 | .bin op t x y=>(match o with
  | .binOp op' t' x' y' _=>decide (op=op')&&t==t'&&aS T x x'&&aS T y y'
  | _=>false)
 | .un op x=>(match o with
  | .unOp op' _ y=>decide (op=op')&&aS T x y
  | _=>false)
 | .conv s d x=>(match o with
  | .convert s' d' y=>s==s'&&d==d'&&aS T x y
  | _=>false)
 | .fieldAddr off x=>(match o with
  | .fieldAddr t y f=>aS T x y&&match P.underlying t with
   | some (.struct fs)=>match fs[f]? with
    | some fd=>fd.offset==off&&match P.info? fd.type with
     | some i=>i.size != 0
     | none=>false
    | none=>false
   | _=>false
  | _=>false)
 | .field agg n off x=>(match o with
  | .field t y f=>aS T x y&&match P.underlying t with
   | some (.struct fs)=>match fs[f]? with
    | some fd=>fd.offset==off&&Fh P fd.type agg&&dO P fd.type n&&(agg||n==1)
    | none=>false
   | _=>false
  | _=>false)
 | .idxAddr s x i=>(match o with
  | .indexAddr t y j=>aS T x y&&aS T i j&&match P.underlying t with
   | some (.slice e)=>dO P e s
   | _=>false
  | _=>false)
 | .idxArr s n x i=>(match o with
  | .indexAddr t y j=>aS T x y&&aS T i j&&match P.underlying t with
   | some (.array m e)=>m==n&&dO P e s
   | _=>false
  | _=>false)
 | .index agg s n x i=>(match o with
  | .index t y j=>aS T x y&&aS T i j&&match P.underlying t with
   | some (.array m e)=>m==n&&dO P e s&&Fh P e agg&&(agg||s==1)
   | _=>false
  | _=>false)
 | .strIdx t x i=>(match o with
  | .index t' y j=>t==t'&&aS T x y&&aS T i j
  | _=>false)
 | .slice s x lo hi mx=>(match o with
  | .slice t y lo' hi' mx'=>aS T x y&&wS T lo lo'&&wS T hi hi'&&wS T mx mx'&&match P.underlying t with
   | some (.slice e)=>dO P e s
   | _=>false
  | _=>false)
 | .strSlice t x lo hi=>(match o with
  | .slice t' y lo' hi' none=>t==t'&&aS T x y&&wS T lo lo'&&wS T hi hi'&&match P.underlying t with
   | some .string=>true
   | _=>false
  | _=>false)
 | .mkSlice s z bytes l c=>(match o with
  | .makeSlice t l' c'=>aS T l l'&&aS T c c'&&match P.underlying t with
   | some (.slice e)=>dO P e s&&uY P e bytes&&nG P e z&&decide (0<s)
   | _=>false
  | _=>false)
 | .mkMap=>(match o with
  | .makeMap _ none=>true
  | _=>false)
 | .lookup kt z m k ok=>(match o with
  | .lookup t m' k' ok'=>ok==ok'&&aS T m m'&&aS T k k'&&match P.underlying t with
   | some (.map kt' e)=>kt==kt'&&match P.info? e with
    | some i=>match i.zero,z with
     | some v,.lit u=>veq u v
     | some (.agg us),.agg vs=>aCR vs us.toList
     | _,_=>false
    | none=>false
   | _=>false
  | _=>false)
 | .mapUpd kt m k v=>(match o with
  | .mapUpdate t m' k' v'=>aS T m m'&&aS T k k'&&aS T v v'&&match P.underlying t with
   | some (.map kt' _)=>kt==kt'
   | _=>false
  | .insert t m' k' v'=>aS T m m'&&aS T k k'&&aS T v v'&&match P.underlying t with
   | some (.map kt' _)=>kt==kt'
   | _=>false
  | _=>false)
 | .lenS x=>(match o with
  | .call ⟨.builtin .len,as,ts⟩=>match as.toList,ts.toList with
   | [y],[t]=>aS T x y&&match P.underlying t with
    | some (.slice _)=>true
    | _=>false
   | _,_=>false
  | _=>false)
 | .lenM x=>(match o with
  | .call ⟨.builtin .len,as,ts⟩=>match as.toList,ts.toList with
   | [y],[t]=>aS T x y&&match P.underlying t with
    | some (.map _ _)=>true
    | _=>false
   | _,_=>false
  | _=>false)
 | .lenStr t x=>(match o with
  | .call ⟨.builtin .len,as,ts⟩=>match as.toList,ts.toList with
   | [y],[t']=>t==t'&&aS T x y
   | _,_=>false
  | _=>false)
 | .lenC n=>(match o with
  | .call ⟨.builtin .len,as,ts⟩=>match as.toList,ts.toList with
   | [_],[t]=>match P.underlying t with
    | some (.array m _)=>m==n
    | _=>false
   | _,_=>false
  | _=>false)
 | .append s bytes x y=>(match o with
  | .call ⟨.builtin .append,as,ts⟩=>match as.toList,ts.toList with
   | [x',y'],[t,t']=>aS T x x'&&aS T y y'&&(match P.underlying t' with | some (.slice _)=>true | _=>false)&&match P.underlying t with
    | some (.slice e)=>dO P e s&&uY P e bytes&&match P.info? e with
     | some i=>match i.zero with | some z=>z.cells.size==s | none=>false
     | none=>false
    | _=>false
   | _,_=>false
  | _=>false)
 | .appendP s bytes x y=>(match o with
  | .call ⟨.builtin .append,as,ts⟩=>match as.toList,ts.toList with
   | [x',y'],[t,t']=>aS T x x'&&aS T y y'&&(match P.underlying t' with | some (.slice _)=>true | _=>false)&&match P.underlying t with
    | some (.slice e)=>dO P e s&&uY P e bytes&&match P.info? e with
     | some i=>match i.zero with | some z=>z.cells.size==s | none=>false
     | none=>false
    | _=>false
   | _,_=>false
  | _=>false)
 | .appendZ s bytes z x y=>(match o with
  | .call ⟨.builtin .append,as,ts⟩=>match as.toList,ts.toList with
   | [x',y'],[t,t']=>aS T x x'&&aS T y y'&&(match P.underlying t' with | some (.int _)=>true | _=>false)&&match P.underlying t with
    | some (.slice e)=>dO P e s&&uY P e bytes&&nG P e z
    | _=>false
   | _,_=>false
  | _=>false)
 | .copy s x y=>(match o with
  | .call ⟨.builtin .copy,as,ts⟩=>match as.toList,ts.toList with
   | [x',y'],[t,_]=>aS T x x'&&aS T y y'&&match P.underlying t with
    | some (.slice e)=>dO P e s
    | _=>false
   | _,_=>false
  | _=>false)
 | .clear s z x=>(match o with
  | .call ⟨.builtin .clear,as,ts⟩=>match as.toList,ts.toList with
   | [x'],[t]=>aS T x x'&&match P.underlying t with
    | some (.slice e)=>dO P e s&&nG P e z
    | _=>false
   | _,_=>false
  | _=>false)
 | .delete kt m k=>(match o with
  | .call ⟨.builtin .delete,as,ts⟩=>match as.toList,ts.toList with
   | [m',k'],t::_=>aS T m m'&&aS T k k'&&match P.underlying t with
    | some (.map kt' _)=>kt==kt'
    | _=>false
   | _,_=>false
  | _=>false)
 | .minmax mx xs=>(match o with
  | .call ⟨.builtin .max,as,_⟩=>mx&&eQ T xs as.toList
  | .call ⟨.builtin .min,as,_⟩=>!mx&&eQ T xs as.toList
  | _=>false)
 | .mkFn vi caps=>(match o with
  | .makeFunc (.func f) first cs=>first.isEmpty&&aK T vi==some f&&eQ T caps cs.toList
  | _=>false)
 | .call _ vi args=>(match o with
  | .call ⟨.value<|.func f,as,_⟩=>aK T vi==some f&&eQ T args as.toList
  | _=>false)
 | .callS vi args=>(match o with
  | .call ⟨.value<|.func f,as,_⟩=>aK T vi==some f&&eQ T args as.toList
  | _=>false)
 | .callF vi args=>(match o with
  | .call ⟨.value<|.func f,as,_⟩=>aK T vi==some f&&eQ T args as.toList
  | _=>false)
 | .callT _ vi args=>(match o with
  | .call ⟨.value<|.func f,as,_⟩=>aK T vi==some f&&eQ T args as.toList
  | _=>false)
 | .callB vi args=>(match o with
  | .call ⟨.value<|.func f,as,_⟩=>aK T vi==some f&&eQ T args as.toList
  | _=>false)
 | .capS x=>(match o with
  | .call ⟨.builtin .cap,as,ts⟩=>match as.toList,ts.toList with
   | [y],[t]=>aS T x y&&match P.underlying t with
    | some (.slice _)=>true
    | _=>false
   | _,_=>false
  | _=>false)
 | .callv _ x args=>(match o with
  | .call ⟨.value y,as,_⟩=>aS T x y&&eQ T args as.toList
  | _=>false)
 | .extract x i=>(match o with
  | .extract y j=>i==j&&aS T x y
  | _=>false)
def Rk(ops:Array Oper): Option (Nat×Bool)->Option (Nat×Bool)->Bool
 | none,none=>true
 | some (t,b),some (j,b')=>b==b'&&match ops[j]? with
  | some o=>o.dst==some t
  | none=>false
 | _,_=>false
def Ey(ops:Array Oper)(a:bS)(o:Oper): Bool:=a.dst==o.dst&&Rk ops a.guard o.guard&&cR P T a.op o.op
def Ch(ops:Array Oper): List bS->List Oper->Bool
 | [],[]=>true
 | a::r,o::s=>Ey P T ops a o&&Ch ops r s
 | _,_=>false
def LQ(acc:List Nat): List Nat->Nat
 | []=>0
 | d::r=>(2 ^ d ||| acc.getD d 0) ||| LQ acc r
def yO(ops:List Oper): Nat->List Nat->List Nat
 | 0,acc=>acc
 | n+1,acc=>
  let ds:=match ops[acc.length]? with
   | some o=>(o.after.toList.filter λe=>Region.binds .any e&&decide (e.on<acc.length)).map λ(e:Edge)=>e.on
   | none=>[]
  yO ops n<|acc++[LQ acc ds]
def aFs: Option bA->List bA
 | some x=>[x]
 | none=>[]
def wX: Ju->List bA
 | .mov x=>[x]
 | .movN x=>[x]
 | .freeze x=>[x]
 | .loadF _ _ x=>[x]
 | .appendP _ _ x y=>[x,y]
 | .rangeStr x=>[x]
 | .nextStr x=>[x]
 | .pick x y z=>[x,y,z]
 | .alloc _=>[]
 | .claim _=>[]
 | .allocC _ _=>[]
 | .box x=>[x]
 | .boxC x _=>[x]
 | .build _ ps=>ps.map λp=>p.2.2
 | .buildSl _ _ _ _ ps=>ps.map λp=>p.2
 | .load _ _ x=>[x]
 | .store _ x y=>[x,y]
 | .nilCheck x=>[x]
 | .ibin _ x y=>[x,y]
 | .bin _ _ x y=>[x,y]
 | .un _ x=>[x]
 | .conv _ _ x=>[x]
 | .fieldAddr _ x=>[x]
 | .field _ _ _ x=>[x]
 | .idxAddr _ x y=>[x,y]
 | .idxArr _ _ x y=>[x,y]
 | .index _ _ _ x y=>[x,y]
 | .strIdx _ x y=>[x,y]
 | .slice _ x lo hi mx=>x::(aFs lo++(aFs hi++aFs mx))
 | .strSlice _ x lo hi=>x::(aFs lo++aFs hi)
 | .mkSlice _ _ _ x y=>[x,y]
 | .mkMap=>[]
 | .lookup _ z m k _=>[z,m,k]
 | .mapUpd _ m k v=>[m,k,v]
 | .lenS x=>[x]
 | .lenM x=>[x]
 | .lenStr _ x=>[x]
 | .lenC _=>[]
 | .append _ _ x y=>[x,y]
 | .appendZ _ _ _ x y=>[x,y]
 | .copy _ x y=>[x,y]
 | .clear _ _ x=>[x]
 | .delete _ x y=>[x,y]
 | .minmax _ xs=>xs
 | .mkFn _ xs=>xs
 | .call _ _ xs=>xs
 | .callv _ x xs=>x::xs
 | .callF _ xs=>xs
 | .callT _ _ xs=>xs
 | .callB _ xs=>xs
 | .callS _ xs=>xs
 | .capS x=>[x]
 | .extract x _=>[x]
def Oh: List bA->List Nat
 | []=>[]
 | .tmp t::r=>t::Oh r
 | _::r=>Oh r
def FO(o:bS): List Nat:=
 match o.guard with
 | some (t,_)=>t::Oh (wX o.op)
 | none=>Oh<|wX o.op
def EL(x y:bS): Bool:=
 match x.dst with
 | some d=>(FO y).contains d||y.dst==some d
 | none=>false
def kN: Ju->Bool
 | .mov _=>true
 | .movN _=>true
 | .pick ..=>true
 | .build ..=>true
 | .buildSl pu ..=>pu
 | .appendP ..=>true
 | .load ..=>true
 | .nilCheck _=>true
 | .ibin ..=>true
 | .bin ..=>true
 | .un ..=>true
 | .conv ..=>true
 | .fieldAddr ..=>true
 | .field ..=>true
 | .idxAddr ..=>true
 | .idxArr ..=>true
 | .index ..=>true
 | .strIdx ..=>true
 | .slice ..=>true
 | .strSlice ..=>true
 | .lookup ..=>true
 | .lenS _=>true
 | .capS _=>true
 | .lenM _=>true
 | .lenStr ..=>true
 | .lenC _=>true
 | .minmax ..=>true
 | .mkFn ..=>true
 | .call pu ..=>pu
 | .callv pu ..=>pu
 | .extract ..=>true
 | .callS ..=>true
 | .callB ..=>true
 | _=>false
def yT: Ju->Bool
 | .mov _=>true
 | .movN _=>true
 | .pick ..=>true
 | .build ..=>true
 | .buildSl pu ..=>pu
 | .appendP ..=>true
 | .nilCheck _=>true
 | .ibin ..=>true
 | .bin ..=>true
 | .un ..=>true
 | .conv ..=>true
 | .fieldAddr ..=>true
 | .field ..=>true
 | .idxArr ..=>true
 | .index ..=>true
 | .strIdx ..=>true
 | .strSlice ..=>true
 | .lenS _=>true
 | .capS _=>true
 | .lenStr ..=>true
 | .lenC _=>true
 | .minmax ..=>true
 | .mkFn ..=>true
 | .extract ..=>true
 | _=>false
def O4(ops:List Oper): Nat->Bool
 | 0=>true
 | n+1=>O4 ops n&&match ops[n]? with
  | some o=>o.after.toList.all λe=>!Region.binds .any e||decide (e.on<n)
  | none=>true
def cA(aops:List bS)(k:Nat): Bool:=match aops[k]? with
 | some o=>kN o.op
 | none=>true
def jS(aops:List bS)(k:Nat): Bool:=match aops[k]? with
 | some o=>yT o.op
 | none=>true
def fQ(aops:List bS)(k:Nat): Bool:=match aops[k]? with
 | some o=>match o.dst with
  | some _=>match o.op with
   | .alloc _=>match o.guard with
    | none=>true
    | some _=>false
   | _=>false
  | none=>false
 | none=>false
def yZ(aops:List bS)(an:List Nat): Nat->Nat->Nat
 | 0,_=>aops.length
 | n+1,i=>if fQ aops i&&fQ aops (i+1)&&!(an.getD (i+1) 0).testBit i then i else yZ aops an n (i+1)
def LP(sw:Nat)(aops:List bS)(an:List Nat): Nat->Bool
 | 0=>true
 | j+1=>LP sw aops an j&&((List.range j).all λi=>
  (an.getD j 0).testBit i||((cA aops i||cA aops j||(i==sw&&j==sw+1&&fQ aops i&&fQ aops j))&&match aops[i]?,aops[j]? with
   | some x,some y=>!EL x y&&!EL y x
   | _,_=>false))
def aFa(aops:List bS)(ck:List<|Nat×Nat)(an:List Nat)(n:Nat): Bool:=
 (List.range n).all λk=>jS aops k||!cA aops k||((List.range n).all λm=>cA aops m||(an.getD k 0).testBit m||(an.getD m 0).testBit k||ck.contains (k,m))
def aBT(P:Program)(d0 d1:Nat)(o:Oper): Bool:=
 (match o.dst with | some d=>d==d1 | none=>false)&&o.guard.isNone&&match o.op with
  | .binOp .eql t (.tmp x) (.const<|.slice none 0 0) _=>x==d0&&match P.underlying t with
   | some (.slice _)=>true
   | _=>false
  | _=>false
def aBp(sw:Nat)(aops:List bS)(ck:List<|Nat×Nat)(an:List Nat)(n:Nat): Bool:=
 !decide (sw+1<n)||(List.range n).all λk=>!cA aops k||jS aops k||(an.getD k 0).testBit sw||ck.contains (k,sw)
def gE: bT->Code->Bool
 | .skip,.skip=>true
 | .skip,.label _=>true
 | .region draw ck aops,.region _ ops draw'=>draw==draw'&&Ch P T ops aops ops.toList&&(!draw||(LP (yZ aops (yO ops.toList ops.size []) ops.size 0) aops (yO ops.toList ops.size []) ops.size&&(aFa aops ck (yO ops.toList ops.size []) ops.size&&aBp (yZ aops (yO ops.toList ops.size []) ops.size 0) aops ck (yO ops.toList ops.size []) ops.size)&&O4 ops.toList ops.size))
 | .seq a b,.seq a' b'=>gE a a'&&gE b b'
 | .cond c a b,.cond c' a' b'=>aS T c c'&&gE a a'&&gE b b'
 | .block i c,.block j d=>i==j&&gE c d
 | .loop _ _ c,.loop d=>gE c d
 | .exit i,.exit j=>i==j
 | .ret,.ret=>true
 | .frz _ c,d=>gE c d
 | .mask _ _ _ c,d=>gE c d
 | .told _ _ _ c,d=>gE c d
 | .loopV _ _ _ _ c,.loop d=>gE c d
 | .scope c,.scope d=>gE c d
 | .nilIf t d0 d1 a b,.seq (.seq (.region _ ops draw)<|.cond (.tmp e) a' .skip) b'=>!draw&&e==d1&&(match ops.toList with
  | [o1,o2]=>Ey P T ops ⟨some d0,.mov<|.tmp t,none⟩ o1&&aBT P d0 d1 o2
  | _=>false)&&gE a a'&&gE b b'
 | .stop,_=>true
 | _,_=>false
def Gh: List aAh->List ResultVar->Bool
 | [],[]=>true
 | .tmp t::r,.tmp u::s=>t==u&&Gh r s
 | .cell t n agg::r,.cell u ty::s=>t==u&&dO P ty n&&Fh P ty agg&&(agg||n==1)&&Gh r s
 | _,_=>false
def Lh(F:cQ): Bool:=
 match P.funcs[F.fid]? with
 | some fn=>match fn.body with
  | some c=>gE P T F.body c&&fn.ntmps==F.nt&&Gh P F.rets fn.results.toList&&!(fn.name== "runtime.NumGoroutine")
  | none=>false
 | none=>false
end
end
section
variable {FT:Nat->Option Nat}{H':aU}{P:Program}{T:List cQ}{a:Act}{ad:Addr}{agg:Bool}{c:dF}{cc:Array Value}{cs:List AV}{cv:Value}{es:List<|List AV}{fl i id j k:Nat}{α:Type}{l:List α}{n:Nat}{o:Oper}{off s:Nat}{t:TypeId}{tm:List AV}{tot:Nat}{v:Value}{vs:List Value}{w':World}{x:bA}{y:Operand}{z:List Value}{β':Nat->Option Nat}
theorem cO[aF]{a:α}{w:World}: ∀{s:Sem α},aQ P s=some a->s.run P w=.ok a w
 | .pure _,h=>by simp only[aQ,Za] at h;subst h;rfl
 | .program k,h=>by
  simp only[Sem.run];exact cO h
 | .mark _ k,h=>by
  simp only[Sem.run];exact cO h
 | .load ..,h=>by simp[aQ] at h
 | .store ..,h=>by simp[aQ] at h
 | .new ..,h=>by simp[aQ] at h
 | .shape ..,h=>by simp[aQ] at h
 | .freeze ..,h=>by simp[aQ] at h
 | .frozen ..,h=>by simp[aQ] at h
 | .getObj ..,h=>by simp[aQ] at h
 | .setObj ..,h=>by simp[aQ] at h
 | .choose ..,h=>by simp[aQ] at h
 | .sys ..,h=>by simp[aQ] at h
 | .halt ..,h=>by simp[aQ] at h
section inv
theorem RV.ptr_inv{d:Nat}(h:RV FT c (.ptr id tot d off) v): ∃a s n,v=.pointer (some a)/\shp c.H id=some (s,n)/\tot<=n /\
 (tot=n->∃b,c.β id=some b/\a=⟨b,d*s+off,none⟩):=by
 cases h with
 | pure _ _ g=>cases g
 | ptr _ _ _ _ a s n k i j=>grind
theorem RV.ms_inv{len:Nat}(h:RV FT c (.ms id tot off len) v): ∃a cap s n,v=.slice a len cap/\shp c.H id=some (s,n)/\tot<=n/\len<=cap /\
 (tot=n->aMh c id tot off len a cap s):=by
 cases h with
 | pure _ _ d=>cases d
 | ms _ _ _ _ a cap s n j i g e=>grind
theorem RV.sl_inv{f:Bool}(h:RV FT c (.sl f es) v): RP c.w (nE c) (.sl f es) v:=by
 cases h with
 | pure _ _ b=>grind
theorem RV.rptr_inv(h:RV FT c (.rptr cs) v): ∃(b off:Nat) (cc:Array Value) (T:TypeId) (d:Nat×Nat) (a:Nat->Value),v=.pointer (some ⟨b,off,none⟩)/\Vis c b /\
 c.w.heap[b]?=some (.cells cc T d)/\(∀(j:Nat) (x:AV),cs[j]?=some x->cc[off+j]?=some (a j)/\bC (a j)=true) /\
 (∀(j:Nat) (x:AV),cs[j]?=some x->RP c.w (nE c) x (a j)):=by
 cases h with
 | pure _ _ g=>cases g
 | rptr _ b off cc T d a l k i m=>exact⟨b,off,cc,T,d,a,rfl,l,k,i,m⟩
theorem RV.sptr_inv(h:RV FT c (.sptr cs) v): RV FT c (.rptr cs) v:=by
 cases h with
 | pure _ _ k=>cases k with
  | sptr _ b off cc T i a l g j f=>exact .rptr _ b off cc T i a l.vis g j f
theorem RV.vw_inv(h:RV FT c (.vw es) v): ∃ad cap,v=.slice ad es.length cap/\es.length<=cap/\(es=[]\/∃(b off:Nat) (cc:Array Value) (T:TypeId) (f:Nat×Nat) (s:Nat) (d:Nat->Nat->Value),
 ad=some ⟨b,off,none⟩/\Vis c b/\c.w.heap[b]?=some (.cells cc T f)/\(∀e∈es,e.length=s)/\(∀i j x,bK es i j=some x->cc[off+(i*s+j)]?=some (d i j)/\bC (d i j)=true) /\
 ∀i j x,bK es i j=some x->RP c.w (nE c) x (d i j)):=by
 cases h with
 | pure _ _ r=>cases r
 | vnil a cap=>simp_all
 | vw _ b off cap cc T f s d t n m p q l o=>exact⟨_,cap,rfl,q,.inr ⟨b,off,cc,T,f,s,d,rfl,n,m,p,l,o⟩⟩
theorem RV.rmp_inv{d:List<|Value×AV}(h:RV FT c (.rmp d) v): ∃(b:Nat) (es:Array MapEntry) (e:Nat) (a:Nat->MapEntry),v=.map (some b)/\c.w.heap[b]?=some (.map es e)/\es.size=d.length /\
 (∀(i:Nat) (k:Value) (x:AV),d[i]?=some (k,x)->es[i]?=some (a i)/\(a i).key=k)/\(∀(i:Nat) (k:Value) (x:AV),d[i]?=some (k,x)->RP c.w (nE c) x (a i).val):=by
 cases h with
 | pure _ _ j=>cases j with
  | rmp _ b es e a p o m q g n=>exact⟨b,es,e,a,rfl,o,m,g,n⟩
theorem RV.mp_inv(h:RV FT c (.mp id) v): ∃b,v=.map (some b)/\Dx c.H id/\c.β id=some b:=by
 cases h with
 | pure _ _ d=>cases d
 | mp _ b g e=>grind
theorem RV.it_inv(h:RV FT c (.it id) v): ∃b,v=.pointer (some ⟨b,0,none⟩)/\Dx c.H id/\c.β id=some b:=by
 cases h with
 | pure _ _ d=>cases d
 | it _ b f g=>grind
theorem RV.fn_inv{vi:Nat}{caps:List AV}(h:RV FT c (.fn vi caps) v): ∃(f:Nat) (cv:Array Value) (a:Nat->Value),v=.func (.func f) #[] cv/\FT vi=some f/\cv.size=caps.length /\
 (∀(i:Nat) (x:AV),caps[i]?=some x->cv[i]?=some (a i))/\(∀(i:Nat) (x:AV),caps[i]?=some x->RV FT c x (a i)):=by
 cases h with
 | pure _ _ e=>cases e
 | fn _ f _ cv a k j g d=>exact⟨f,cv,a,rfl,k,j,g,d⟩
theorem RV.agg_inv(h:RV FT c (.agg cs) v): ∃(cv:Array Value) (a:Nat->Value),v=.agg cv/\cv.size=cs.length /\
 (∀(i:Nat) (x:AV),cs[i]?=some x->cv[i]?=some (a i)/\bC (a i)=true)/\(∀(i:Nat) (x:AV),cs[i]?=some x->RV FT c x (a i)):=by
 cases h with
 | pure _ _ e=>cases e
 | agg _ cv a d g f=>exact⟨cv,a,rfl,d,g,f⟩
theorem RV.tup_inv(h:RV FT c (.tup cs) v): ∃(cv:Array Value) (a:Nat->Value),v=.tuple cv/\cv.size=cs.length /\
 (∀(i:Nat) (x:AV),cs[i]?=some x->cv[i]?=some (a i))/\(∀(i:Nat) (x:AV),cs[i]?=some x->RV FT c x (a i)):=by
 cases h with
 | pure _ _ e=>cases e
 | tup _ cv a j g f=>exact⟨cv,a,rfl,j,g,f⟩
end inv
theorem EY(v:Value): bC v=v.oneCell':=by cases v<;>rfl
section
def dM[aF](P:Program)(FT:Nat->Option Nat)(c:dF)(fl:Nat)(o:Oper)(a:Act)(v:AV)(H':aU): Prop:=
 ∀(K:Act->World->Prop) (Q:Exit->Act->World->Prop),
  (∀cv c',c'.H=H'->bW fl c c'->bY FT c'->RV FT c' v cv->K (a.put o.dst cv) c'.w)->o.wp P a c.w K Q
theorem eM[aF]{v:AV}(g:(execOp a.eval o).run P c.w=.ok (.value cv) w')(b:bW fl c ⟨w',c.X,β',H'⟩)(f:bY FT ⟨w',c.X,β',H'⟩)(d:RV FT ⟨w',c.X,β',H'⟩ v cv): dM P FT c fl o a v H':=by
 intro K Q e;unfold Oper.wp;rw[g];exact e cv ⟨w',c.X,β',H'⟩ rfl b f d
theorem aGY[aF](d:(execOp a.eval o).run P c.w=.ok .skip w')(b:bW fl c ⟨w',c.X,β',H'⟩)(f:bY FT ⟨w',c.X,β',H'⟩):
 dM P FT c fl o a (.lit bM) H':=by
 intro K Q e;unfold Oper.wp;rw[d];exact e bM ⟨w',c.X,β',H'⟩ rfl b f<|RV.lit _
theorem bR[aF]{v:AV}(d:bY FT c)(e:(execOp a.eval o).run P c.w=.ok (.value cv) c.w)(b:RV FT c v cv): dM P FT c fl o a v c.H:=
 eM e (bW.refl _ _) d b
theorem VE[aF](vs:List Value)(d:∀v∈vs,bC v=true): RV FT c (.agg<|vs.map .lit)<|.agg vs.toArray:=by
 refine .agg _ _ (λi=>vs.getD i bM) (by simp) ?_ ?_
 .grind
 .intro i x a;simp at a;obtain⟨v,b,rfl⟩:=a;simp only[YS,b,Yp];exact RV.lit v
theorem aX[aF](k:bY (aK T) c)(b:TR (aK T) c tm a.tmps)(h:aS T x y=true): RV (aK T) c (aH tm x)<|a.eval y:=by
 unfold aS at h;split at h
 .rename_i t u;have:=by simpa using h
  subst this;simp only[aH,Act.eval];cases j:tm[t]? with
  | none=>
   have g:a.tmps.size<=t:=by rw[<-b.1];simpa using j
   have:=Yb g;simp only[Yf,this];exact RV.lit _
  | some x=>
   let⟨v,o,n⟩:=b.2 t x j;simpa [o] using n
 .rw[aEV h];exact RV.lit _
 .rename_i vs m;have e:=w5 h;have:m=vs.toArray:=by rw[e]
  rw[this];exact VE vs<|Dh h
 .rename_i vi f;refine .fn vi f [] #[] (λ_=>bM) (by simpa using h) rfl ?_ ?_<;>intro i x l<;>simp at l
 .rename_i p;have:=by simpa using h
  subst this;simp only[aH];split
  .rename_i d;exact k.gl.rv d
  .exact RV.undef _
 .cases h
theorem aFv[aF](e:bY (aK T) c)(d:TR (aK T) c tm a.tmps)(b:o.op=.move y\/o.op=.assign y)(h:aS T x y=true):
 dM P (aK T) c fl o a (aH tm x) c.H:=by
 refine bR e ?_<|aX e d h;rcases b with b | b<;>simp[execOp,b]
theorem aNr[aF](d:bY (aK T) c)(b:TR (aK T) c tm a.tmps){y z:bA}{g f e:Operand}{t:Bool}(i:o.op=.pick g f e)(n:aS T x g=true)(m:aS T y f=true)(l:aS T z e=true)(j:aH tm x=.lit (.bool t)):
 dM P (aK T) c fl o a (if t then aH tm y else aH tm z) c.H:=by
 have h:=aX d b n;rw[j] at h;have k:=h.lit_inv;refine bR (cv:=if t then a.eval f else a.eval e) d ?_ ?_
 .simp[execOp,i,k,asBool]
 .cases t
  .exact aX d b l
  .exact aX d b m
theorem jA[aF](h:nG P t z=true): ∃i v,P.info? t=some i/\i.zero=some v/\v.cells=z.toArray/\∀u∈z,bC u=true:=by
 unfold nG at h;split at h
 .rename_i i b;split at h
  .rename_i v a;refine⟨i,v,b,a,?_,Dh h⟩;have:=w5 h;rw[this]
  .cases h
 .cases h
theorem aBa{x:AV}(h:bK [cs] i j=some x): i=0/\cs[j]?=some x:=by
 unfold bK at h;grind
theorem aFg{X:Nat->Prop}{L:List dK}(β:Nat->Option Nat)(H:aU)(b:Nat)(a:β H.length=some b): RV FT ⟨w',X,β,H++.blk s [cs]::L⟩ (.ptr H.length 1 0 0)<|.pointer<|some ⟨b,0,none⟩:=
 .ptr H.length 1 0 0 _ s 1 (by simp[shp]) (Zf _) λ_=>⟨b,a,by simp⟩
theorem Vy[aF](f:bY (aK T) c)(d:fl<=c.H.length){cv:Array Value}(m:(execOp a.eval o).run P c.w=.ok (.value<|.pointer<|some ⟨c.w.heap.size,0,none⟩) (c.w.alloc<|.cells cv t (0,0)))(e:cv.size=cs.length)(l:∀(j:Nat) (x:AV),cs[j]?=some x->∃v,cv[j]?=some v/\bC v=true/\RV (aK T) c x v):
 dM P (aK T) c fl o a (.ptr c.H.length 1 0 0)<|c.H++[.blk cs.length [cs]]:=by
 refine eM m (Oj d rfl rfl rfl rfl λid b k=>f.lt k)
  (w7 f rfl rfl rfl rfl ?_ ?_ ?_ λ_ h=>by cases h)<|aFg _ _ _<|eA _ _ _
 .grind
 .intro s es he;cases he;refine⟨cv,t,rfl,by simp[e],?_⟩;intro i j x g;obtain⟨rfl,n⟩:=aBa g;grind
 .grind
theorem aK2[aF](n:bY (aK T) c)(e:fl<=c.H.length)(p:o.op=.alloc t)(h:nG P t z=true):
 dM P (aK T) c fl o a (.ptr c.H.length 1 0 0)<|c.H++[.blk z.length [z.map .lit]]:=by
 let⟨i,v,l,k,m,d⟩:=jA h;have:=Vy (P:=P) (o:=o) (a:=a) (cs:=z.map AV.lit) (cv:=z.toArray) (t:=t) n e ?_ (by simp) ?_
 .grind
 .simp[execOp,p,Instr.alloc,zeroValue,typeInfo,l,k,newVar,newRow,m]
 .intro j x g;simp at g;obtain⟨u,f,rfl⟩:=g;exact⟨u,by simpa using f,d u<|Zg f,RV.lit u⟩
theorem Ct[aF]{x:AV}(E:RV FT c x v)(h:cellsOf x=some cs):
 v.cells.size=cs.length/\∀(j:Nat) (y:AV),cs[j]?=some y->∃u,v.cells[j]?=some u/\bC u=true/\RV FT c y u:=by
 have d:∀{x:AV} {v:Value},RV FT c x v->bC v=true->cs=[x]->
  v.cells.size=cs.length/\∀(j:Nat) (y:AV),cs[j]?=some y->∃u,v.cells[j]?=some u/\bC u=true/\RV FT c y u:=by
  intro x v E m e;have Q:v.cells=#[v]:=by cases v<;>first | rfl | (simp[bC] at m)
  grind
 cases E with
 | pure _ _ L=>
  cases L with
  | undef=>simp[cellsOf] at h
  | lit v=>
   simp only[cellsOf] at h;split at h
   .rename_i m;cases h;exact d (RV.lit v) m rfl
   .cases h
  | nil f a' cap I=>
   simp only[cellsOf,Za] at h;exact d (.pure _ _<|.nil f a' cap I) rfl h.symm
  | sl f es b off cap cc T o s a i g k l p r z J=>
   simp only[cellsOf,Za] at h;exact d (.pure _ _<|.sl f es b off cap cc T o s a i g k l p r z J) rfl h.symm
  | sptr cs' b off cc T o a i g k l=>
   simp only[cellsOf,Za] at h;exact d (.pure _ _<|.sptr cs' b off cc T o a i g k l) rfl h.symm
  | rmp q b es A a i g k l p r=>
   simp only[cellsOf,Za] at h;exact d (.pure _ _<|.rmp q b es A a i g k l p r) rfl h.symm
 | ms id tot off len a' cap s n i g k l=>
  simp only[cellsOf,Za] at h;exact d (.ms id tot off len a' cap s n i g k l) rfl h.symm
 | ptr id tot t off a' s n i g k=>
  simp only[cellsOf,Za] at h;exact d (.ptr id tot t off a' s n i g k) rfl h.symm
 | rptr cs' b off cc T o a i g k l=>
  simp only[cellsOf,Za] at h;exact d (.rptr cs' b off cc T o a i g k l) rfl h.symm
 | vnil a' cap=>
  simp only[cellsOf,Za] at h;exact d (.vnil a' cap) rfl h.symm
 | vw es b off cap cc T o s a i g k l p r z=>
  simp only[cellsOf,Za] at h;exact d (.vw es b off cap cc T o s a i g k l p r z) rfl h.symm
 | mp id b i g=>
  simp only[cellsOf,Za] at h;exact d (.mp id b i g) rfl h.symm
 | it id b i g=>
  simp only[cellsOf,Za] at h;exact d (.it id b i g) rfl h.symm
 | fn vi f caps cv a i g k l=>
  simp only[cellsOf,Za] at h;exact d (.fn vi f caps cv a i g k l) rfl h.symm
 | agg cs' cv a i g k=>
  simp only[cellsOf,Za] at h;subst h;exact⟨i,λj y w=>⟨a j,(g j y w).1,(g j y w).2,k j y w⟩⟩
 | tup=>simp[cellsOf] at h
theorem aQz[aF](f:bY (aK T) c)(b:TR (aK T) c tm a.tmps)(e:fl<=c.H.length)(k:o.op=.box t y)(h:aS T x y=true)(j:cellsOf (aH tm x)=some cs):
 dM P (aK T) c fl o a (.ptr c.H.length 1 0 0)<|c.H++[.blk cs.length [cs]]:=by
 let⟨g,i⟩:=Ct (aX f b h) j;refine Vy (t:=t) f e ?_ g i;simp[execOp,k,Instr.box,newVar,newRow]
theorem aD7[aF](f:bY (aK T) c)(e:fl<=c.H.length)(d:o.op=.move (.const bO)\/o.op=.assign (.const bO)):
 dM P (aK T) c fl o a (.ms c.H.length 0 0 0)<|c.H++[.blk s []]:=by
 refine eM (cv:=bO) ?_ (Jz e) (PR f) ?_
 .rcases d with d | d<;>simp[execOp,d,Act.eval]
 .refine .ms _ 0 0 0 none 0 s 0 (by simp[shp]) (Zf _) (Zf _) λ_=>⟨Zf _,.inl ⟨?_,rfl,rfl,rfl⟩⟩;cases g:c.β c.H.length with
  | none=>rfl
  | some b=>have:=f.dom _ b g;omega
theorem fM(b k j:Nat): (⟨b,k,none⟩:Addr).add j=⟨b,k+j,none⟩:=by unfold Addr.add;split<;>simp_all
def A6(FT:Nat->Option Nat)(c:dF)(ad:Addr)(cs:List AV)(vs:List Value): Prop:=
 vs.length=cs.length/\(∀(j:Nat) (u:Value),vs[j]?=some u->c.w.cell? (ad.add j)=some u) /\
 ∀(j:Nat) (x:AV),cs[j]?=some x->∃u,vs[j]?=some u/\bC u=true/\RV FT c x u
theorem eT{H:aU}(h:H[id]?=some (.blk s es)): shp H id=some (s,es.length):=by simp[shp,h]
theorem Uz[aF]{b:Nat}{T:TypeId}{a:Nat×Nat}(d:c.w.heap[b]?=some (.cells cc T a))(f:cs.length=n)(h:∀(j:Nat) (x:AV),cs[j]?=some x->∃u,cc[k+j]?=some u/\bC u=true/\RV FT c x u):
 A6 FT c ⟨b,k,none⟩ cs<|(cc.toList.drop k).take n:=by
 refine⟨?_,?_,?_⟩
 .simp only[f];cases n with
  | zero=>simp
  | succ m=>
   let⟨u,e,_⟩:=h m (cs[m]'(by omega)) (by simp);grind
 .intro j u e;rw[fM,cell_of_row c.w b (k+j) cc T a d];grind
 .grind
theorem FP[aF](y:bY FT c){x:AV}(p:RV FT c x v)(h:eB c.H x n=some cs):
 ∃(ad:Addr) (vs:List Value),v=.pointer (some ad)/\cs.length=n/\A6 FT c ad cs vs:=by
 unfold eB at h;split at h
 .rename_i id tot q off;split at h
  .rename_i s es t;split at h
   .rename_i A;split at h
    .rename_i e he;split at h
     .rename_i k;cases h;cases p with
      | pure _ _ u=>cases u
      | ptr _ _ _ _ ad s' F m l g=>
       rw[eT t] at m;cases m;obtain⟨b,w,rfl⟩:=g A.symm;let⟨cc,T,C,E,z⟩:=y.blk id s es b t w;have a:((e.drop off).take n).length=n:=by simp;omega
       refine⟨_,_,rfl,a,Uz C a ?_⟩;intro j x d;rw[Zs] at d;split at d
       .rw[Zw] at d;have:=z q (off+j) x (by simp[bK,he,d]);simpa [Yu] using this
       .grind
     .cases h
    .cases h
   .cases h
  .cases h
 .rename_i i;split at h
  .rename_i k;cases h;obtain⟨b,off,cc,T,B,f,rfl,m,l,g,o⟩:=p.rptr_inv
   .have a:(i.take n).length=n:=by simp;omega
    refine⟨_,_,rfl,a,Uz l a ?_⟩;intro j x d;rw[Zs] at d;split at d
    .exact⟨f j,(g j x d).1,(g j x d).2,.pure _ _<|o j x d⟩
    .grind
  .cases h
 .rename_i i;split at h
  .rename_i k;cases h;obtain⟨b,off,cc,T,B,f,rfl,m,l,g,o⟩:=p.sptr_inv.rptr_inv
   .have a:(i.take n).length=n:=by simp;omega
    refine⟨_,_,rfl,a,Uz l a ?_⟩;intro j x d;rw[Zs] at d;split at d
    .exact⟨f j,(g j x d).1,(g j x d).2,.pure _ _<|o j x d⟩
    .grind
  .cases h
 .cases h
theorem Kk(h:A6 FT c ad cs vs): RV FT c (.agg cs)<|.agg vs.toArray:=by
 refine .agg cs vs.toArray (λi=>vs.getD i bM) (by simp[h.1]) ?_ ?_
 .intro i x a;let⟨u,b,d,_⟩:=h.2.2 i x a;simp[b,d]
 .intro i x a;let⟨u,b,_,e⟩:=h.2.2 i x a;simpa [b] using e
theorem eJ(h:dO P t n=true): ∃i,P.info? t=some i/\i.size=n:=by
 unfold dO at h;grind
theorem AH{b:Bool}(h:Fh P t b=true)(w:World): (isAgg t).run P w=.ok b w:=by
 unfold Fh at h;unfold isAgg;split at h
 .rename_i a;simp[Zm a,h]
 .rename_i a;simp[Zm a,h]
 .rename_i a;rw[YW,Zm a];simp_all
 .cases h
theorem zD[aF](b:A6 FT c ad cs vs)(d:cs.length=n)(g:Fh P t agg=true)(j:dO P t n=true):
 agg=true->(loadVar t ad).run P c.w=.ok (.agg vs.toArray) c.w:=by
 intro e;subst e;let⟨i,h,a⟩:=eJ j;have f:=run_loadCells_list (P:=P) c.w ad vs b.2.1;have e:=b.1.trans d;simp[loadVar,AH g,sizeOf,typeInfo,h,a,<-e,f]
theorem Md[aF]{u:Value}(a:c.w.cell? ad=some u)(b:Fh P t false=true):
 (loadVar t ad).run P c.w=.ok u c.w:=by
 simp[loadVar,AH b,a]
theorem aBC[aF](f:bY (aK T) c)(g:TR (aK T) c tm a.tmps){v:AV}(k:o.op=.load t y)(h:aS T x y=true)(j:Fh P t agg=true)(p:dO P t n=true)(r:eB c.H (aH tm x) n=some cs)(i:if agg then v=.agg cs else cs=[v]): dM P (aK T) c fl o a v c.H:=by
 let⟨ad,vs,l,m,e⟩:=FP f (aX f g h) r;cases agg with
 | true=>
  subst i;refine bR f ?_<|Kk e;simp[execOp,k,Instr.loadAt,Instr.sureAddr,l,zD e m j p rfl]
 | false=>
  subst i;let⟨u,w,z,q⟩:=e.2.2 0 v (by simp);have d:=e.2.1 0 u w;have s:ad.add 0=ad:=by simp[Addr.add]
  rw[s] at d;refine bR f ?_ q;simp[execOp,k,Instr.loadAt,Instr.sureAddr,l,Md d j]
theorem cK{vs:List α}(h:k+vs.length<=l.length): (aV l k vs).length=l.length:=by
 simp only[aV,Zh,ZH,ZV];omega
theorem Ka{vs:List α}(h:k+vs.length<=l.length)(p:Nat):
 (aV l k vs)[p]?=if p<k then l[p]? else if p<k+vs.length then vs[p-k]? else l[p]?:=by
 unfold aV;grind
theorem PU(a:i<n)(b:j<s): i*s+j<n*s:=by
 have:(i+1)*s<=n*s:=Zr s a;rw[ZA] at this;omega
theorem cZ{x:AV}(h:bK es i j=some x): ∃e,es[i]?=some e/\e[j]?=some x:=by
 unfold bK at h;grind
theorem aO3[aF]{a:Nat}{e:List AV}(r:∀e∈es,e.length=s)(he:es[a]?=some e)(d:off+cs.length<=e.length)(A:es.length*s<=cc.size)(B:vs.length=cs.length)(b:∀i j x,bK es i j=some x->∃v,cc[i*s+j]?=some v/\bC v=true/\RV FT c x v)(t:∀(j:Nat) (x:AV),cs[j]?=some x->∃u,vs[j]?=some u/\bC u=true/\RV FT c x u):
 (∀w∈es.set a (aV e off cs),w.length=s) /\
 ∀i j x,bK (es.set a<|aV e off cs) i j=some x->
  ∃v,((aV cc.toList (a*s+off) vs).toArray)[i*s+j]?=some v/\bC v=true/\RV FT c x v:=by
 have q:=r e<|Zg he;have l:=(Ze.1 he).1;have o:(a+1)*s<=es.length*s:=Zr s l;rw[ZA] at o;have g:a*s+off+vs.length<=cc.toList.length:=by simp;omega
 refine⟨?_,?_⟩
 .intro w p;rcases YL p with h | h
  .grind
  .rw[h,cK d,q]
 .intro i j x E;simp only[WH,Ka g];let⟨C,m,f⟩:=cZ E;by_cases n:i=a
  .subst n;rw[getElem?_set_eq' he] at m;cases m;rw[Ka d] at f;split at f
   .rename_i y;rw[Zu<|by omega];have:=b i j x (by simp[bK,he,f]);simpa using this
   .rename_i y;split at f
    .grind
    .rename_i F;rw[ZF<|by omega,ZF<|by omega];have:=b i j x (by simp[bK,he,f]);simpa using this
  .rw[getElem?_set_ne' n] at m;have y:j<s:=by
    rw[<-r C<|Zg m];exact (Ze.1 f).1
   have z:i*s+j<a*s+off\/a*s+off+vs.length<=i*s+j:=by
    rcases WZ n with h | h
    .have:(i+1)*s<=a*s:=Zr s h;rw[ZA] at this;omega
    .have:(a+1)*s<=i*s:=Zr s h;rw[ZA] at this;omega
   have D:=b i j x (by simp[bK,m,f]);grind
theorem gQ(w:World)(g k:Nat)(cc:Array Value)(vs:List Value):
 w.setRow g (cc.toList.take (k+0)++vs++cc.toList.drop (k+0+vs.length)).toArray=w.setRow g (aV cc.toList k vs).toArray:=by
 simp[aV]
theorem aKp[aF](z:bY (aK T) c)(C:TR (aK T) c tm a.tmps){v:bA}{u:Operand}(ho:o.op=.store t y u)(h1:aS T x y=true)(h2:aS T v u=true)(Y:dO P t n=true)(hc:cellsOf (aH tm v)=some cs)(V:cs.length=n)(d:yE fl c.H (aH tm x) cs=some H'): dM P (aK T) c fl o a (.lit bM) H':=by
 let⟨i,W,E⟩:=eJ Y;let⟨p,I⟩:=Ct (aX z C h2) hc;have J:=aX z C h1;unfold yE at d;split at d
 .rename_i id tot f off Q;rw[Q] at J;split at d
  .rename_i N;split at d
   .rename_i s es g;split at d
    .rename_i G;split at d
     .rename_i e he;split at d
      .rename_i F;cases d
       .let⟨ad,s',n',S,U,g2,g3⟩:=J.ptr_inv;rw[eT g] at U;cases U;obtain⟨b,O,rfl⟩:=g3 G.symm;let⟨cc,M,B,k2,k3⟩:=z.blk id s es b g O;have h:=z.lens id s es g;have Z:=h e<|Zg he;have D:=(Ze.1 he).1;have R:(f+1)*s<=es.length*s:=Zr s D;rw[ZA] at R;have r:=by simpa using p
        let⟨p1,p2⟩:=aO3 (vs:=(a.eval u).cells.toList) (cc:=cc) h he F k2 r k3 (λj x J=>by simpa using I j x J);have l:f*s+off+(a.eval u).cells.toList.length<=cc.toList.length:=by simp at r |-;omega
        have A:∀v∈(a.eval u).cells.toList,v.oneCell'=true:=by
         intro v hv;let⟨j,X⟩:=Yi.1 hv;have a2:j<cs.length:=by rw[<-r];exact (Ze.1 X).1
         let⟨u',w1,w2,_⟩:=I j cs[j] (by simp);have:u'=v:=by
          grind
         rw[<-EY,<-this];exact w2
        have m:=YV P b (f*s+off) M (a.eval u).cells.toList 0 cc c.w B (by simpa using l) A;rw[gQ] at m;have K:=cK l;refine aGY (w':=c.w.setRow b (aV cc.toList (f*s+off) (a.eval u).cells.toList).toArray) (β':=c.β) ?_
         (oA (cs':=(aV cc.toList (f*s+off) (a.eval u).cells.toList).toArray) z N g O B (by simp) ?_ (Yv c.w b cc _ M _ B) (λk L=>Yy c.w b k _ L) (by simp) rfl rfl rfl)
         (yF (cs':=(aV cc.toList (f*s+off) (a.eval u).cells.toList).toArray) z g O B (by simp) ?_ (Yv c.w b cc _ M _ B) (λk L=>Yy c.w b k _ L) (by simp) rfl rfl rfl p1 ?_ p2)
        .have a1:¬(a.eval u).cells.size≠i.size:=by rw[p,V,E];simp
         simp[execOp,ho,Instr.storeAt,Instr.sureAddr,storeVar,sizeOf,typeInfo,S,W,p,V,E,m]
        .grind
        .grind
        .grind
      .grind
     .grind
    .grind
   .grind
  .grind
 .grind
end
end
section
variable {FT:Nat->Option Nat}{P:Program}{T:List cQ}{a:Act}{agg:Bool}{c:dF}{cs:List AV}{e:Operand}{f fl:Nat}{g:Operand}{i:bA}{k:IntKind}{n:Nat}{o:Oper}{off:Nat}{p q:Operand}{r:Value}{t:TypeId}{tm:List AV}{u v:Value}{x:bA}{y:Operand}
section
theorem Du[aF](m:bY (aK T) c)(l:TR (aK T) c tm a.tmps)(k:o.op=.nilCheck y)(h:aS T x y=true)(g:(∃id tot j off,aH tm x=.ptr id tot j off)\/(∃cs,aH tm x=.rptr cs)\/(∃cs,aH tm x=.sptr cs)\/∃vi caps,aH tm x=.fn vi caps):
 dM P (aK T) c fl o a (aH tm x) c.H:=by
 have i:=aX m l h;refine bR (cv:=a.eval y) m ?_ i;rcases g with⟨id,tot,j,off,g⟩ | ⟨cs,g⟩ | ⟨cs,g⟩ | ⟨vi,caps,g⟩<;>rw[g] at i
 .let⟨ad,s,n,e,_⟩:=i.ptr_inv;simp[execOp,k,e]
 .let⟨b,off,cc,p,q,d,e,_⟩:=i.rptr_inv;simp[execOp,k,e]
 .let⟨b,off,cc,p,q,d,e,_⟩:=i.sptr_inv.rptr_inv;simp[execOp,k,e]
 .let⟨f,cv,d,e,_⟩:=i.fn_inv;simp[execOp,k,e]
theorem aI9{a:BinOp}{x y:Int}(h:aAE a k x y=some r)(w:World): (binOp a t (.int k x)<|.int k y).run P w=.ok r w:=by
 cases a<;>simp[aAE] at h<;>subst h<;>simp[binOp,Op.intArith,Op.intCmp]
theorem aEq{a:BinOp}{k':IntKind}{x y:Int}(w:World): (eqGuard a t p q (.int k x)<|.int k' y).run P w=.ok () w:=by
 unfold eqGuard;split<;>simp
theorem aNu[aF](d:bY (aK T) c)(b:TR (aK T) c tm a.tmps){f:BinOp}{y:bA}{h:Operand}{j:TypeId}{n m:Int}(s:o.op=.binOp f t h e j)(p:aS T x h=true)(q:aS T y e=true)(u:aH tm x=.lit (.int k n))(e2:aH tm y=.lit (.int k m))(l:aAE f k n m=some r):
 dM P (aK T) c fl o a (.lit r) c.H:=by
 have g:=aX d b p;have i:=aX d b q;rw[u] at g;rw[e2] at i;refine bR (cv:=r) d ?_<|RV.lit r;simp[execOp,s,g.lit_inv,i.lit_inv,aEq,aI9 l]
theorem aBQ[aF]: ∀{cs:List AV} {l:List Value},Hr cs=some l->cs=l.map .lit
 | [],l,h=>by simp[Hr] at h;subst h;rfl
 | .lit v::r,l,h=>by
  simp only[Hr] at h;split at h
  .rename_i b a;cases h;rw[aBQ a];rfl
  .cases h
 | .undef::_,_,h=>by simp[Hr] at h
 | .sl ..::_,_,h=>by simp[Hr] at h
 | .ms ..::_,_,h=>by simp[Hr] at h
 | .ptr ..::_,_,h=>by simp[Hr] at h
 | .rptr ..::_,_,h=>by simp[Hr] at h
 | .mp ..::_,_,h=>by simp[Hr] at h
 | .fn ..::_,_,h=>by simp[Hr] at h
 | .agg ..::_,_,h=>by simp[Hr] at h
 | .tup ..::_,_,h=>by simp[Hr] at h
theorem LT[aF]{x:AV}(f:RV FT c x v)(h:lits x=some u): v=u:=by
 unfold lits at h;split at h
 .cases h;exact f.lit_inv
 .rename_i cs;split at h
  .rename_i l k;cases h;have e:=aBQ k;subst e;obtain⟨cv,b,rfl,n,j,m⟩:=f.agg_inv;congr 1;apply Xj;intro i;by_cases d:i<l.length
   .have g:(l.map AV.lit)[i]?=some (.lit l[i]):=by simp[d]
    have:=(m i _ g).lit_inv;rw[(j i _ g).1,this];simp[d]
   .rw[Yb<|by simp at n;omega,Yb<|by simp;omega]
  .cases h
 .cases h
theorem U4{a:BinOp}{p' q':Operand}(b:wJ v=true): eqGuard a t p q v u=eqGuard a t p' q' v u:=by
 unfold eqGuard;cases v<;>first | rfl | (cases u<;>rfl) | (simp[wJ] at b)
theorem aEp[aF]{a:BinOp}(b:wJ v=true)(h:aQ P (eqGuard a t (.tmp 0) (.tmp 0) v u)=some ())(w:World):
 (eqGuard a t p q v u).run P w=.ok () w:=by
 rw[U4 (p':=.tmp 0) (q':=.tmp 0) b];exact cO h
theorem aQ0[aF](e:bY (aK T) c)(b:TR (aK T) c tm a.tmps){d:BinOp}{y:bA}{f:Operand}{h:TypeId}(q:o.op=.binOp d t f g h)(i:aS T x f=true)(k:aS T y g=true)(s:lits (aH tm x)=some v)(e2:lits (aH tm y)=some u)(j:wJ v=true)(l:aQ P (eqGuard d t (.tmp 0) (.tmp 0) v u)=some ())(m:aQ P (binOp d t v u)=some r):
 dM P (aK T) c fl o a (.lit r) c.H:=by
 have n:=LT (aX e b i) s;have p:=LT (aX e b k) e2;refine bR (cv:=r) e ?_<|RV.lit r;simp[execOp,q,n,p,aEp j l,cO m]
theorem aTb[aF](e:bY (aK T) c)(b:TR (aK T) c tm a.tmps){f:UnOp}{d:Operand}(k:o.op=.unOp f t d)(h:aS T x d=true)(j:aH tm x=.lit v)(i:aQ P (Op.unary f v)=some r): dM P (aK T) c fl o a (.lit r) c.H:=by
 have g:=aX e b h;rw[j] at g;refine bR (cv:=r) e ?_<|RV.lit r;simp[execOp,k,g.lit_inv,cO i]
theorem aNw[aF](g:bY (aK T) c)(b:TR (aK T) c tm a.tmps){s d:TypeId}(k:o.op=.convert s d e)(h:aS T x e=true)(j:aH tm x=.lit v)(i:aQ P (convert s d v)=some r): dM P (aK T) c fl o a (.lit r) c.H:=by
 have f:=aX g b h;rw[j] at f;refine bR (cv:=r) g ?_<|RV.lit r;simp[execOp,k,f.lit_inv,cO i]
theorem aIq[aF](e:bY (aK T) c)(b:TR (aK T) c tm a.tmps){f:Operand}(p:o.op=.index t f g)(n:aS T x f=true)(l:aS T i g=true)(k:aH tm x=.lit v)(e2:aH tm i=.lit u)(m:aQ P (Instr.index t v u)=some r):
 dM P (aK T) c fl o a (.lit r) c.H:=by
 have j:=aX e b n;rw[k] at j;have h:=aX e b l;rw[e2] at h;refine bR (cv:=r) e ?_<|RV.lit r;simp[execOp,p,j.lit_inv,h.lit_inv,cO m]
theorem WF{e:Array Field}{c:Field}{i:TypeInfo}{ad:Addr}(h:P.underlying t=some (.struct e))(j:e[f]?=some c)(d:c.offset=off)(g:P.info? c.type=some i)(b:i.size≠0)(w:World):
 (Instr.fieldAt t (.pointer<|some ad) f).run P w=.ok (.pointer<|some<|ad.add off) w:=by
 simp[Instr.fieldAt,Zm h,j,Instr.sureAddr,fieldPlace,sizeOf,typeInfo,g,b,d]
theorem Ku[aF](w:bY (aK T) c)(C:TR (aK T) c tm a.tmps){E:Array Field}{z:Field}{i:TypeInfo}{v:AV}(G:o.op=.fieldAddr t y f)(h:aS T x y=true)(D:P.underlying t=some (.struct E))(I:E[f]?=some z)(m:z.offset=off)(F:P.info? z.type=some i)(p:i.size≠0)(l:(∃id tot g k,aH tm x=.ptr id tot g k/\v=.ptr id tot g (k+off))\/(∃cs,(aH tm x=.rptr cs\/aH tm x=.sptr cs)/\v=.rptr (cs.drop off))):
 dM P (aK T) c fl o a v c.H:=by
 have d:=aX w C h;rcases l with⟨id,tot,g,k,l,rfl⟩ | ⟨cs,l,rfl⟩
 .rw[l] at d;let⟨ad,s,n,r,u,A,B⟩:=d.ptr_inv;refine bR (cv:=.pointer<|some<|ad.add off) w (by simp[execOp,G,r,WF D I m F p]) ?_;refine .ptr id tot g (k+off) _ s n u A λe=>?_;obtain⟨b,M,rfl⟩:=B e;exact⟨b,M,by rw[fM];simp[Yu]⟩
 .replace d:RV (aK T) c (.rptr cs)<|a.eval y:=by
   rcases l with l | l<;>rw[l] at d
   .exact d
   .exact d.sptr_inv
  let⟨b,k,cc,K,L,q,r,u,A,B,J⟩:=d.rptr_inv;refine bR (cv:=.pointer<|some ⟨b,k+off,none⟩) w (by simp[execOp,G,r,WF D I m F p,fM]) ?_;refine .rptr _ b (k+off) cc K L (λj=>q<|off+j) u A ?_ ?_
  .intro j x d;rw[Zw] at d;have:=B _ x d;rwa [<-Yu] at this
  .intro j x d;rw[Zw] at d;exact J _ x d
theorem aGQ[aF]{cv:Array Value}{v:AV}(y:RV FT c (.agg cs)<|.agg cv)(h:Fh P t agg=true)(u:dO P t n=true)(o:off+n<=cs.length)(d:if agg then v=.agg ((cs.drop off).take n) else (cs.drop off).take n=[v])(z:agg=true\/n=1):
 ∃r,(part t cv off).run P c.w=.ok r c.w/\RV FT c v r:=by
 let⟨p,b,e,A,k,g⟩:=y.agg_inv;cases e;let⟨i,s,f⟩:=eJ u;cases agg with
 | true=>
  simp only[Zz] at d;subst d;refine⟨.agg<|cv.extract off<|off+n,?_,?_⟩
  .simp[part,AH h,sizeOf,typeInfo,s,f]
  .refine .agg _ _ (λj=>b<|off+j) (by simp;omega) ?_ ?_
   .intro j x a;rw[Zs] at a;split at a
    .rename_i B;rw[Zw] at a;let⟨q,l⟩:=k _ x a;refine⟨?_,l⟩;rw[Array.getElem?_extract];rw[Zu<|by omega];exact q
    .cases a
   .intro j x a;rw[Zs] at a;split at a
    .rw[Zw] at a;exact g _ x a
    .cases a
 | false=>
  simp only[Zn,Z9] at d;have m:n=1:=by simpa using z
  subst m;have a:cs[off]?=some v:=by
   have:((cs.drop off).take 1)[0]?=some v:=by rw[d];rfl
   rw[Zs,Zu<|by omega,Zw] at this;simpa using this
  refine⟨b off,?_,g off v a⟩;simp[part,AH h,(k off v a).1]
theorem aD6[aF](l:bY (aK T) c)(k:TR (aK T) c tm a.tmps){p:Array Field}{d:Field}{v:AV}(D:o.op=.field t y f)(h:aS T x y=true)(q:P.underlying t=some (.struct p))(w:p[f]?=some d)(j:d.offset=off)(s:Fh P d.type agg=true)(B:dO P d.type n=true)(z:agg=true\/n=1)(C:aH tm x=.agg cs)(g:off+n<=cs.length)(E:if agg then v=.agg ((cs.drop off).take n) else (cs.drop off).take n=[v]):
 dM P (aK T) c fl o a v c.H:=by
 have b:=aX l k h;rw[C] at b;let⟨cv,m,e,_⟩:=b.agg_inv;rw[e] at b;let⟨r,u,A⟩:=aGQ (P:=P) b s B g E z;refine bR (cv:=r) l ?_ A;simp[execOp,D,e,Instr.field,Zm q,w,asAgg,j,u]
theorem uD[aF]{x:AV}(a:RV FT c x v)(h:gY x=some n): ∃k,v=.int k n:=by
 unfold gY at h;split at h
 .rename_i k m;split at h
  .rename_i b;cases h;exact⟨k,by rw[a.lit_inv,X7 b]⟩
  .cases h
 .cases h
theorem FL[aF](D:bY (aK T) c)(F:TR (aK T) c tm a.tmps){j:Operand}{e:TypeId}{s:Nat}{v:AV}(M:o.op=.indexAddr t y j)(h1:aS T x y=true)(h2:aS T i j=true)(O:P.underlying t=some (.slice e))(R:dO P e s=true)(hn:gY (aH tm i)=some n)(C:(∃f es cs,aH tm x=.sl f es/\es[n]?=some cs/\cs.length=s/\v=.rptr cs)\/(∃es cs,aH tm x=.vw es/\es[n]?=some cs/\cs.length=s/\v=.rptr cs) \/
  (∃id tot off len es,aH tm x=.ms id tot off len/\c.H[id]?=some (.blk s es)/\es.length=tot/\n<len/\v=.ptr id tot (off+n) 0)):
 dM P (aK T) c fl o a v c.H:=by
 have g:=aX D F h1;let⟨k,S⟩:=uD (aX D F h2) hn;let⟨ei,A,r⟩:=eJ R;rcases C with⟨f,es,cs,C,d,m,rfl⟩ | ⟨es,cs,C,d,m,rfl⟩ | ⟨id,tot,off,len,es,C,G,B,X,rfl⟩<;>rw[C] at g;rotate_left
 .let⟨ad,cap,L,_,V⟩:=g.vw_inv;rcases V with rfl | ⟨b,off,cc,K,W,s',l,rfl,I,J,E,Q,N⟩
  .simp at d
  .have z:s'=s:=by rw[<-m,E cs<|Zg d]
   subst z;have u:n<es.length:=(Ze.1 d).1;refine bR (cv:=.pointer<|some ⟨b,off+n*s',none⟩) D ?_ ?_
   .simp[execOp,M,L,S,Instr.indexAt,asIntOf,Zm O,sizeOf,typeInfo,A,r,u,fM]
   .refine .rptr cs b (off+n*s') cc K W (λj=>l n j) I J ?_ ?_
    .intro j x g;have:=Q n j x (by simp[bK,d,g]);rwa [<-Yu] at this
    .intro j x g;exact N n j x<|by simp[bK,d,g]
 rotate_right
 .have Y:=g.sl_inv;generalize L:a.eval y=w at Y;cases Y with
  | nil=>simp at d
  | sl _ _ b off cap cc K W s' l U I J E g5 g6 Q N=>
   have z:s'=s:=by rw[<-m,E cs<|Zg d]
   subst z;have u:n<es.length:=(Ze.1 d).1;refine bR (cv:=.pointer<|some ⟨b,off+n*s',none⟩) D ?_ ?_
   .simp[execOp,M,L,S,Instr.indexAt,asIntOf,Zm O,sizeOf,typeInfo,A,r,u,fM]
   .refine .rptr cs b (off+n*s') cc K W (λj=>l n j) I.vis J ?_ ?_
    .intro j x g;have:=Q n j x (by simp[bK,d,g]);rwa [<-Yu] at this
    .intro j x g;exact N n j x<|by simp[bK,d,g]
 .let⟨ad,cap,s',n',hv,U,I,J,E⟩:=g.ms_inv;rw[eT G] at U;cases U;let⟨m1,m2⟩:=E B.symm;rcases m2 with⟨_,_,_,Z⟩ | ⟨b,cc,K,a',Z,m4,m5,m6,m7⟩
  .omega
  .have ha:=m7 (by omega);subst ha;subst m6;refine bR (cv:=.pointer<|some ⟨b,off*s+n*s,none⟩) D ?_ ?_
   .simp[execOp,M,hv,S,Instr.indexAt,asIntOf,Zm O,sizeOf,typeInfo,A,r,X,fM]
   .refine .ptr id tot (off+n) 0 _ s _ (eT G) (by omega) λ_=>⟨b,Z,by simp[ZA]⟩
end
end
section
variable {P:Program}{T:List cQ}{a:Act}{c:dF}{d:Nat}{e:TypeId}{fl:Nat}{i:bA}{id:Nat}{j:Operand}{m n:Nat}{o:Oper}{r:Value}{s:ByteArray}{t:TypeId}{tm:List AV}{v:AV}{x:bA}{y:Operand}
section
theorem aA2[aF](u:bY (aK T) c)(l:TR (aK T) c tm a.tmps){s:Nat}(O:o.op=.indexAddr t y j)(S:aS T x y=true)(K:aS T i j=true)(L:P.underlying t=some (.array m e))(C:dO P e s=true)(I:gY (aH tm i)=some n)(z:n<m)(r:(∃id tot f k,aH tm x=.ptr id tot f k/\v=.ptr id tot f (k+n*s))\/(∃cs,aH tm x=.rptr cs/\v=.rptr (cs.drop<|n*s))):
 dM P (aK T) c fl o a v c.H:=by
 have d:=aX u l S;let⟨k,R⟩:=uD (aX u l K) I;let⟨U,F,D⟩:=eJ C;have q:∀ad:Addr,a.eval y=.pointer (some ad)->(execOp a.eval o).run P c.w=.ok (.value<|.pointer<|some<|ad.add<|n*s) c.w:=by
  intro ad h;simp[execOp,O,h,R,Instr.indexAt,Instr.sureAddr,asIntOf,Zm L,sizeOf,typeInfo,F,D,z]
 rcases r with⟨id,tot,f,k',r,rfl⟩ | ⟨cs,r,rfl⟩<;>rw[r] at d
 .let⟨ad,s',N,h,A,B,E⟩:=d.ptr_inv;refine bR u (q ad h) ?_;refine .ptr id tot f (k'+n*s) _ s' N A B λe=>?_;obtain⟨b,J,rfl⟩:=E e;exact⟨b,J,by rw[fM];simp[Yu]⟩
 .let⟨b,k',cc,M,G,p,h,A,B,E,Q⟩:=d.rptr_inv;refine bR u (q _ h) ?_;rw[fM];refine .rptr _ b (k'+n*s) cc M G (λj=>p<|n*s+j) A B ?_ ?_
  .intro j x d;rw[Zw] at d;have:=E _ x d;rwa [<-Yu] at this
  .intro j x d;rw[Zw] at d;exact Q _ x d
theorem aD5[aF](l:bY (aK T) c)(b:TR (aK T) c tm a.tmps){s:Nat}{agg:Bool}{cs:List AV}(K:o.op=.index t y j)(D:aS T x y=true)(E:aS T i j=true)(G:P.underlying t=some (.array m e))(d:dO P e s=true)(p:Fh P e agg=true)(B:agg=true\/s=1)(J:gY (aH tm i)=some n)(u:n<m)(I:aH tm x=.agg cs)(g:n*s+s<=cs.length)(L:if agg then v=.agg ((cs.drop<|n*s).take s) else (cs.drop<|n*s).take s=[v]): dM P (aK T) c fl o a v c.H:=by
 have f:=aX l b D;rw[I] at f;let⟨k,M⟩:=uD (aX l b E) J;let⟨N,h,w⟩:=eJ d;let⟨cv,z,A,_⟩:=f.agg_inv;rw[A] at f;let⟨r,C,F⟩:=aGQ (P:=P) f p d g L B;refine bR (cv:=r) l ?_ F;simp[execOp,K,A,M,Instr.index,asIntOf,Zm G,sizeOf,typeInfo,h,w,u,C]
theorem aFy[aF](k:bY (aK T) c)(f:TR (aK T) c tm a.tmps){i:Nat}{vs:List AV}(p:o.op=.extract y i)(h:aS T x y=true)(n:aH tm x=.tup vs)(g:vs[i]?=some v): dM P (aK T) c fl o a v c.H:=by
 have j:=aX k f h;rw[n] at j;let⟨cv,b,e,q,m,l⟩:=j.tup_inv;refine bR (cv:=b i) k ?_<|l i v g;simp[execOp,p,e,Instr.extract,m i v g]
theorem y4[aF](f:bY (aK T) c)(b:TR (aK T) c tm a.tmps): ∀{e:List bA} {ys:List Operand},eQ T e ys=true->
 e.length=ys.length/\∀(i:Nat) (x:AV),(e.map<|aH tm)[i]?=some x->∃v,(ys.map a.eval)[i]?=some v/\RV (aK T) c x v
 | [],[],_=>⟨rfl,λi x k=>by simp at k⟩
 | x::r,y::s,h=>by
  simp only[eQ,Zd] at h;let⟨j,g⟩:=y4 f b h.2;refine⟨by simp[j],λi z d=>?_⟩;cases i with
  | zero=>
   simp only[ZE,Zt,Za] at d;subst d;exact⟨a.eval y,by simp,aX f b h.1⟩
  | succ i=>
   simp only[ZE,ZL] at d |-;exact g i z d
 | [],_::_,h=>by cases h
 | _::_,[],h=>by cases h
theorem aNs[aF](k:bY (aK T) c)(d:TR (aK T) c tm a.tmps){vi f:Nat}{caps:List bA}{cs:Array Operand}(m:o.op=.makeFunc (.func f) #[] cs)(n:aK T vi=some f)(h:eQ T caps cs.toList=true): dM P (aK T) c fl o a (.fn vi<|caps.map<|aH tm) c.H:=by
 let⟨p,l⟩:=y4 k d h;refine bR (cv:=.func (.func f) #[]<|cs.map a.eval) k (by simp[execOp,m,Instr.makeFunc]) ?_;refine .fn vi f _ _ (λi=>((cs.toList.map a.eval)[i]?).getD bM) n (by simpa using p.symm) ?_ ?_
 .intro i x g;let⟨v,b,j⟩:=l i x g;simp only[b,Yp];simpa using b
 .intro i x g;let⟨v,b,j⟩:=l i x g;simpa only[b,Yp] using j
theorem aKr[aF](f:bY (aK T) c)(d:fl<=c.H.length)(i:o.op=.makeMap t none): dM P (aK T) c fl o a (.mp c.H.length)<|c.H++[.mp []]:=by
 refine eM (cv:=.map<|some c.w.heap.size) (w':=c.w.alloc<|.map #[] 0) (β':=upd c.β c.H.length c.w.heap.size) ?_
  (Oj (ob:=.map #[] 0) d rfl rfl rfl rfl λid b j=>f.lt j) (w7 (ob:=.map #[] 0) f rfl rfl rfl rfl ?_ ?_ ?_ λ_ h=>by cases h) ?_
 .simp[execOp,i,Instr.makeMap]
 .intro s es he;cases he
 .intro s es he;cases he
 .intro g he;cases he;exact⟨rfl,0,rfl⟩
 .exact .mp _ _ ⟨.mp [],by simp,trivial⟩<|eA _ _ _
theorem aD4[aF](g:bY (aK T) c)(d:TR (aK T) c tm a.tmps)(e:fl<=c.H.length)(p:o.op=.range t y)(h:aS T x y=true)(m:P.underlying t=some .string)(n:aH tm x=.lit (.string s)):
 dM P (aK T) c fl o a (.it c.H.length)<|c.H++[.raw<|.stringIter s 0]:=by
 have j:=aX g d h;rw[n] at j;have k:=j.lit_inv;refine eM (cv:=.pointer<|some ⟨c.w.heap.size,0,none⟩) (w':=c.w.alloc<|.stringIter s 0) (β':=upd c.β c.H.length c.w.heap.size) ?_
  (Oj (ob:=.stringIter s 0) e rfl rfl rfl rfl λid b l=>g.lt l) (w7 (ob:=.stringIter s 0) g rfl rfl rfl rfl ?_ ?_ ?_ ?_) ?_
 .simp[execOp,p,Instr.range,Zm m,k]
 .intro s es he;cases he
 .intro s es he;cases he
 .intro i he;cases he
 .intro q he;cases he;rfl
 .exact .it _ _ ⟨.raw<|.stringIter s 0,by simp,trivial⟩<|eA _ _ _
theorem aFu[aF](m:bY (aK T) c)(p:TR (aK T) c tm a.tmps)(A:o.op=.next y true)(h:aS T x y=true)(f:aH tm x=.it id)(r:fl<=id)(g:c.H[id]?=some (.raw<|.stringIter s d))(B:d<s.size):
 dM P (aK T) c fl o a (.tup [.lit<|.bool true,.lit<|.int .i64 d,.lit<|.int .i32 (Utf8.decode s d).1])<|c.H.set id<|.raw<|.stringIter s<|d+(Utf8.decode s d).2:=by
 have u:=aX m p h;rw[f] at u;let⟨b,z,_,q⟩:=u.it_inv;have v:=m.raw id _ b g q;have l:(getObj b).run P c.w=.ok (.stringIter s d) c.w:=by simp[getObj,Sem.run,v]
 have k:∀ob,(setObj b ob).run P c.w=.ok () { c.w with heap:=c.w.heap.setIfInBounds b ob }:=by
  intro ob;simp[setObj,Sem.run,v]
 refine eM (cv:=.tuple #[.bool true,.int .i64 d,.int .i32 (Utf8.decode s d).1]) (β':=c.β) (w':={ c.w with heap:=c.w.heap.setIfInBounds b (.stringIter s<|d+(Utf8.decode s d).2) }) ?_
  (VB (q':=.stringIter s<|d+(Utf8.decode s d).2) m r g q rfl rfl rfl rfl) (aFd m g q rfl rfl rfl rfl) ?_
 .simp[execOp,A,z,Instr.next,l,k,B,goInt]
 .refine .tup _ _ (λi=>if i=0 then .bool true else if i=1 then .int .i64 d else .int .i32 (Utf8.decode s d).1) rfl ?_ ?_
  .intro i x f;match i with
   | 0=>rfl
   | 1=>rfl
   | 2=>rfl
   | n+3=>simp at f
  .intro i x f;match i with
   | 0=>simp at f;subst f;exact RV.lit _
   | 1=>simp at f;subst f;exact RV.lit _
   | 2=>simp at f;subst f;exact RV.lit _
   | n+3=>simp at f
theorem aFt[aF](g:bY (aK T) c)(k:TR (aK T) c tm a.tmps)(r:o.op=.next y true)(h:aS T x y=true)(e:aH tm x=.it id)(j:c.H[id]?=some (.raw<|.stringIter s d))(t:¬d<s.size):
 dM P (aK T) c fl o a (.tup [.lit<|.bool false]) c.H:=by
 have m:=aX g k h;rw[e] at m;let⟨b,p,_,u⟩:=m.it_inv;have q:=g.raw id _ b j u;have f:(getObj b).run P c.w=.ok (.stringIter s d) c.w:=by simp[getObj,Sem.run,q]
 refine bR (cv:=.tuple #[.bool false]) g ?_ ?_
 .simp[execOp,r,p,Instr.next,f,t]
 .refine .tup _ _ (λ_=>.bool false) rfl ?_ ?_
  .intro i x e;match i with
   | 0=>rfl
   | n+1=>simp at e
  .intro i x e;match i with
   | 0=>simp at e;subst e;exact RV.lit _
   | n+1=>simp at e
theorem y5[aF](l:bY (aK T) c)(j:TR (aK T) c tm a.tmps)(p:o.op=.call ⟨.builtin .len,#[y],#[t]⟩)(h:aS T x y=true)(m:P.underlying t=some (.slice e))(g:(aH tm x=.lit (.slice none 0 0)/\n=0)\/(∃f es,aH tm x=.sl f es/\n=es.length)\/(∃id tot off,aH tm x=.ms id tot off n)\/∃es,aH tm x=.vw es/\n=es.length):
 dM P (aK T) c fl o a (.lit<|.int .i64 n) c.H:=by
 have i:=aX l j h;have d:∃ad cap,a.eval y=.slice ad n cap:=by
  rcases g with⟨g,rfl⟩ | ⟨f,es,g,rfl⟩ | ⟨id,tot,off,g⟩ | ⟨es,g,rfl⟩<;>rw[g] at i
  .exact⟨none,0,i.lit_inv⟩
  .have k:=i.sl_inv;generalize a.eval y=w at k;cases k with
   | nil _ ad cap=>exact⟨ad,cap,rfl⟩
   | sl _ _ b off cap=>exact⟨_,cap,rfl⟩
  .let⟨ad,cap,s,q,d,_⟩:=i.ms_inv;exact⟨ad,cap,d⟩
  .let⟨ad,cap,d,_⟩:=i.vw_inv;exact⟨ad,cap,d⟩
 let⟨ad,cap,d⟩:=d;refine bR (cv:=.int .i64 n) l ?_<|RV.lit _;simp[execOp,p,resolve,invoke,builtin,Builtin.len_,Zm m,d,goInt]
theorem aGW[aF](l:bY (aK T) c)(f:TR (aK T) c tm a.tmps)(r:o.op=.call ⟨.builtin .cap,#[y],#[t]⟩)(h:aS T x y=true)(m:P.underlying t=some (.slice e))(d:(aH tm x=.lit (.slice none 0 0)/\n=0)\/(∃es,aH tm x=.sl true es/\n=es.length)):
 dM P (aK T) c fl o a (.lit<|.int .i64 n) c.H:=by
 have i:=aX l f h;have g:∃ad len,a.eval y=.slice ad len n:=by
  rcases d with⟨d,rfl⟩ | ⟨es,d,rfl⟩<;>rw[d] at i
  .exact⟨none,0,i.lit_inv⟩
  .have j:=i.sl_inv;generalize a.eval y=w at j;cases j with
   | nil _ ad cap p=>exact⟨ad,0,by rw[p rfl];rfl⟩
   | sl _ _ b off cap cc z C s k A u D B G q E v=>exact⟨_,_,by rw[q rfl]⟩
 let⟨ad,len,g⟩:=g;refine bR (cv:=.int .i64 n) l ?_<|RV.lit _;simp[execOp,r,resolve,invoke,builtin,Builtin.cap_,Zm m,g,goInt]
theorem aBD[aF](p:bY (aK T) c)(q:TR (aK T) c tm a.tmps){k:TypeId}(r:o.op=.call ⟨.builtin .len,#[y],#[t]⟩)(h:aS T x y=true)(l:P.underlying t=some (.map k e))(f:(aH tm x=.lit (.map none)/\n=0)\/(∃id d,aH tm x=.mp id/\c.H[id]?=some (.mp d)/\n=d.length)\/∃d,aH tm x=.rmp d/\n=d.length):
 dM P (aK T) c fl o a (.lit<|.int .i64 n) c.H:=by
 have g:=aX p q h;refine bR (cv:=.int .i64 n) p ?_<|RV.lit _;rcases f with⟨f,rfl⟩ | ⟨id,d,f,s,rfl⟩ | ⟨d,f,rfl⟩<;>rw[f] at g
 .simp[execOp,r,resolve,invoke,builtin,Builtin.len_,Zm l,g.lit_inv,goInt]
 .let⟨b,u,_,w⟩:=g.mp_inv;let⟨es,i,j,m,_⟩:=p.map id d b s w;simp[execOp,r,resolve,invoke,builtin,Builtin.len_,Zm l,u,goInt,getObj,Sem.run,j,m.1]
 .let⟨b,es,i,v,u,j,m,_⟩:=g.rmp_inv;simp[execOp,r,resolve,invoke,builtin,Builtin.len_,Zm l,u,goInt,getObj,Sem.run,j,m]
theorem aIr[aF](f:bY (aK T) c)(d:TR (aK T) c tm a.tmps){v:Value}(g:o.op=.call ⟨.builtin .len,#[y],#[t]⟩)(h:aS T x y=true)(k:aH tm x=.lit v)(j:aQ P (Builtin.len_ #[t] 0 #[v])=some r): dM P (aK T) c fl o a (.lit r) c.H:=by
 have b:=aX f d h;rw[k] at b;refine bR (cv:=r) f ?_<|RV.lit _;have i:=cO (w:=c.w) j;have e:Builtin.len_ #[t] o.type #[v]=Builtin.len_ #[t] 0 #[v]:=rfl;simp[execOp,g,resolve,invoke,builtin,b.lit_inv,e,i]
theorem aNt[aF](f:bY (aK T) c)(b:o.op=.call ⟨.builtin .len,#[y],#[t]⟩)(d:P.underlying t=some (.array n e)): dM P (aK T) c fl o a (.lit<|.int .i64 n) c.H:=by
 refine bR (cv:=.int .i64 n) f ?_<|RV.lit _;simp[execOp,b,resolve,invoke,builtin,Builtin.len_,Zm d,goInt]
theorem aAz[aF](p:bY (aK T) c)(l:TR (aK T) c tm a.tmps){k:List bA}{ys:Array Operand}{ts:Array TypeId}{vs:List Value}{b:Builtin}(n:o.op=.call ⟨.builtin b,ys,ts⟩)(A:b=.max\/b=.min)(h:eQ T k ys.toList=true)(C:Hr (k.map<|aH tm)=some vs)(u:aQ P (if b=.max then Builtin.max_ #[] 0 vs.toArray else Builtin.min_ #[] 0 vs.toArray)=some r): dM P (aK T) c fl o a (.lit r) c.H:=by
 let⟨y,t⟩:=y4 p l h;have e:=aBQ C;have f:ys.map a.eval=vs.toArray:=by
  apply Xj;intro i;have z:vs.length=k.length:=by have:=congrArg List.length e;simpa using this.symm
  by_cases q:i<vs.length
  .have x:(k.map<|aH tm)[i]?=some (.lit vs[i]):=by rw[e];simp[q]
   let⟨v,B,s⟩:=t i _ x;have:=s.lit_inv;subst this;have:(ys.map a.eval)[i]?=some vs[i]:=by simpa using B
   rw[this];simp[q]
  .have D:ys.size=vs.length:=by simpa [z] using y.symm
   rw[Yb<|by simp;omega,Yb<|by simp;omega]
 refine bR (cv:=r) p ?_<|RV.lit _;have j:=cO (w:=c.w) u;rcases A with rfl | rfl
 .simp only[Zz] at j;have e2:∀(g:Array Value) (m:TypeId),Builtin.max_ ts m g=Builtin.max_ #[] 0 g:=λ_ _=>rfl;simp[execOp,n,resolve,invoke,builtin,f,e2,j]
 .rw[ZF<|by simp] at j;have e2:∀(g:Array Value) (m:TypeId),Builtin.min_ ts m g=Builtin.min_ #[] 0 g:=λ_ _=>rfl;simp[execOp,n,resolve,invoke,builtin,f,e2,j]
end
end
section
variable {FT:Nat->Option Nat}{P:Program}{T:List cQ}{a:Act}{c:dF}{cs:List AV}{cv:Array Value}{fl i n:Nat}{o:Oper}{s:Nat}{tm:List AV}{z:List Value}
section
def Cz(FT:Nat->Option Nat)(c:dF)(cs:List AV)(cv:Array Value): Prop:=
 cv.size=cs.length/\∀(j:Nat) (x:AV),cs[j]?=some x->∃v,cv[j]?=some v/\bC v=true/\RV FT c x v
theorem aAG(off:Nat)(v a:Array Value): (v.zipIdx.foldl (λcs (x:Value×Nat)=>cs.setIfInBounds (off+x.2) x.1) a).size=a.size /\
 ∀k,(v.zipIdx.foldl (λcs (x:Value×Nat)=>cs.setIfInBounds (off+x.2) x.1) a)[k]?=if off<=k/\k<off+v.size/\k<a.size then v[k-off]? else a[k]?:=by
 have e:v.zipIdx.foldl (λcs (x:Value×Nat)=>cs.setIfInBounds (off+x.2) x.1) a=(v.toList.zipIdx 0).foldl (λcs (x:Value×Nat)=>cs.setIfInBounds (off+x.2) x.1) a:=by
  rw[<-Array.foldl_toList];simp
 rw[e];have h:=Great.foldl_set off v.toList 0 a;simpa using h
theorem aAH{b:Nat->Option (Nat×Nat)}{a:Array Value}{off size:Nat}{v:Value}{rest:List<|Nat×Value}(d:b i=some (off,size))(e:v.cells.size=size)(f:off+size<=a.size):
 Instr.fill b a ((i,v)::rest)=Instr.fill b (v.cells.zipIdx.foldl (λcs (x:Value×Nat)=>cs.setIfInBounds (off+x.2) x.1) a) rest:=by
 rw[Instr.fill];simp only[d,e];rw[ZF<|by simp;omega]
theorem aCi[aF](A:bY (aK T) c)(n:TR (aK T) c tm a.tmps){d:Nat->Option (Nat×Nat)}: ∀(p:List<|Nat×Nat×bA) (q:List<|Nat×Operand) (b cs:List AV) (cv:Array Value),
 Ri T d p q=true->Cz (aK T) c b cv->VZ b (p.map λ(o,s,x)=>(o,s,aH tm x))=some cs->
 ∃r,Instr.fill d cv (q.map λ(i,x)=>(i,a.eval x))=some r/\Cz (aK T) c cs r
 | [],[],b,cs,cv,_,g,f=>by
  simp only[Yn,VZ,Za] at f;subst f;exact⟨cv,rfl,g⟩
 | (off,s,x)::p,(i,y)::q,b,cs,cv,l,g,f=>by
  simp only[Ri,Zd] at l;let⟨⟨B,I⟩,h⟩:=l;have w:d i=some (off,s):=by simpa using B
  simp only[ZE,VZ] at f;split at f
  .cases f
  .rename_i ys J;split at f
   .rename_i e;let⟨H,K⟩:=Ct (aX A n I) J;have t:(a.eval y).cells.size=s:=H.trans e.1;let⟨L,G⟩:=aAG off (a.eval y).cells cv;have m:Cz (aK T) c (aV b off ys)<|(a.eval y).cells.zipIdx.foldl (λcs (x:Value×Nat)=>cs.setIfInBounds (off+x.2) x.1) cv:=by
     refine⟨by rw[L,cK<|by omega];exact g.1,λj z k=>?_⟩;rw[G j];rw[Ka<|by omega] at k;have E:=g.1;split at k
     .rename_i D;rw[ZF<|by omega];exact g.2 j z k
     .rename_i D;split at k
      .rename_i v;rw[Zu<|by omega];exact K _ z k
      .rename_i v;rw[ZF<|by omega];exact g.2 j z k
    let⟨r,C,F⟩:=aCi A n p q _ cs _ h m f;refine⟨r,?_,F⟩;simp only[ZE];rw[aAH w t<|by rw[g.1];exact e.2];exact C
   .cases f
 | [],_::_,_,_,_,l,_,_=>by cases l
 | (_,_,_)::_,[],_,_,_,l,_,_=>by cases l
theorem Pt[aF](a:∀u∈z,bC u=true): Cz FT c (z.map .lit) z.toArray:=by
 refine⟨by simp,λj x b=>?_⟩;simp only[Zk,Zq] at b;obtain⟨u,d,rfl⟩:=b;exact⟨u,by simpa using d,a u<|Zg d,RV.lit u⟩
theorem aFZ(h:Cz FT c cs cv): RV FT c (.agg cs)<|.agg cv:=by
 refine .agg cs cv (λi=>(cv[i]?).getD bM) h.1 ?_ ?_
 .intro i x a;let⟨v,b,d,_⟩:=h.2 i x a;simp[b,d]
 .intro i x a;let⟨v,b,_,e⟩:=h.2 i x a;simpa [b] using e
theorem aDG{b:List Field}(h:O9 P b=true): ∃a,b.mapM (λf=>(P.info? f.type).map λi=>(f.offset,i.size))=some a /\
 ∀i,a[i]?=AE P b.toArray i:=by
 induction b with
 | nil=>exact⟨[],by simp,λi=>by simp[AE]⟩
 | cons f b j=>
  simp only[O9,XM,Zd] at h;let⟨e,g,d⟩:=j h.2;let⟨n,c⟩:=XK.1 h.1;refine⟨(f.offset,n.size)::e,by simp[Wt,c,g],λi=>?_⟩;cases i with
  | zero=>simp[AE,c]
  | succ i=>
   have:=d i;simp only[ZL,this];simp[AE]
theorem aK1[aF](y:bY (aK T) c)(j:TR (aK T) c tm a.tmps){m:List<|Nat×Nat×bA}{f:Array<|Nat×Operand}{t:TypeId}(G:o.op=.build t f)(E:nG P t z=true)(d:cR P T (.build z m) (.build t f)=true)(B:VZ (z.map .lit) (m.map λ(o,s,x)=>(o,s,aH tm x))=some cs):
 dM P (aK T) c fl o a (.agg cs) c.H:=by
 let⟨i,v,C,D,h,l⟩:=jA E;simp only[cR,E,Wv] at d;have b:∃r,P.built t (f.map λ(i,x)=>(i,a.eval x)).toList=some r/\Cz (aK T) c cs r:=by
  have u:(f.map λ(i,x)=>(i,a.eval x)).toList=f.toList.map λ(i,x)=>(i,a.eval x):=by simp
  rw[u];split at d
  .rename_i J q;simp only[Zd] at d;let⟨K,I,F⟩:=aDG d.1;have p:(λi=>K.toArray[i]?)=AE P J:=by
    funext i;have:=F i;simpa using this
   let⟨r,k,g⟩:=aCi y j m f.toList _ cs _ d.2 (Pt l) B;refine⟨r,?_,g⟩;unfold Program.built;simp only[C,q,D,I,p,h];exact k
  .rename_i n e q;split at d
   .rename_i L A;let⟨r,k,g⟩:=aCi y j m f.toList _ cs _ d (Pt l) B;refine⟨r,?_,g⟩;unfold Program.built;simp only[C,q,D,A,h];exact k
   .cases d
  .cases d
 let⟨r,k,g⟩:=b;refine bR (cv:=.agg r) y ?_<|aFZ g;simp only[execOp,G,YW,run_build c.w t _ r k,YK,Y4]
def aHQ(FT:Nat->Option Nat)(c:dF)(s:Nat)(es:List<|List AV)(cv:Array Value): Prop:=
 cv.size=es.length*s/\(∀e∈es,e.length=s)/\∀i j x,bK es i j=some x->∃v,cv[i*s+j]?=some v/\bC v=true/\RV FT c x v
theorem aEk[aF](E:bY (aK T) c)(o:TR (aK T) c tm a.tmps): ∀(v:List<|Nat×bA) (w:List<|Nat×Operand) (es es':List<|List AV) (cv:Array Value),
 Rl T v w=true->aHQ (aK T) c s es cv->Qq s es (v.map λ(i,x)=>(i,aH tm x))=some es'->
 es'.length=es.length/\∃r,Instr.fill (λi=>some (i*s,s)) cv (w.map λ(i,x)=>(i,a.eval x))=some r/\aHQ (aK T) c s es' r
 | [],[],es,es',cv,_,f,d=>by
  simp only[Yn,Qq,Za] at d;subst d;exact⟨rfl,cv,rfl,f⟩
 | (i,x)::v,(X,y)::w,es,es',cv,n,f,d=>by
  simp only[Rl,Zd,ZC] at n;let⟨⟨rfl,U⟩,g⟩:=n;simp only[ZE,Qq] at d;split at d
  .cases d
  .rename_i ys V;split at d
   .rename_i b;let⟨O,W⟩:=Ct (aX E o U) V;have A:(a.eval y).cells.size=s:=O.trans b.1;have D:(i+1)*s<=es.length*s:=Zr s b.2;rw[ZA] at D;let⟨J,N⟩:=aAG (i*s) (a.eval y).cells cv;have q:aHQ (aK T) c s (es.set i ys)<|(a.eval y).cells.zipIdx.foldl (λcs (x:Value×Nat)=>cs.setIfInBounds (i*s+x.2) x.1) cv:=by
     refine⟨by rw[J];simpa using f.1,?_,?_⟩
     .intro e he;rcases YL he with h | h
      .exact f.2.1 e h
      .rw[h];exact b.1
     .intro k j z I;rw[N];let⟨F,l,t⟩:=cZ I;by_cases C:k=i
      .subst C;have:F=ys:=by
        rw[Z5] at l;simp only[b.2,Zz] at l;exact (ZR l).symm
       subst this;have H:j<s:=by rw[<-b.1];exact (Ze.1 t).1
       have R:=f.1;rw[Zu<|by omega];let⟨u,L,G,S⟩:=W j z t;refine⟨u,?_,G,S⟩;rw[<-L];congr 1;omega
      .rw[getElem?_set_ne' C] at l;have H:j<s:=by rw[<-f.2.1 F<|Zg l];exact (Ze.1 t).1
       have p:¬(i*s<=k*s+j/\k*s+j<i*s+(a.eval y).cells.size/\k*s+j<cv.size):=by
        rcases WZ C with h | h
        .have:(k+1)*s<=i*s:=Zr s h;rw[ZA] at this;omega
        .have:(i+1)*s<=k*s:=Zr s h;rw[ZA] at this;omega
       rw[ZF p];exact f.2.2 k j z<|by simp[bK,l,t]
    let⟨M,r,Q,K⟩:=aEk E o v w _ es' _ g q d;refine⟨by simpa using M,r,?_,K⟩;simp only[ZE];rw[aAH (off:=i*s) (size:=s) rfl A<|by rw[f.1];omega];exact Q
   .cases d
 | [],_::_,_,_,_,n,_,_=>by cases n
 | (_,_)::_,[],_,_,_,n,_,_=>by cases n
theorem v5[aF]{j:Nat}{e:List AV}{x:AV}(h:bK (List.replicate n e) i j=some x): i<n/\e[j]?=some x:=by
 let⟨c,a,b⟩:=cZ h;rw[XP] at a;split at a
 .cases a;exact⟨by assumption,b⟩
 .cases a
theorem Kl[aF]{m:Nat}(h:z.length=s)(k:∀u∈z,bC u=true)(q:cv.toList=z)(t:n<=m):
 (∀e∈List.replicate n (z.map AV.lit),e.length=s)/\∀i j x,bK (List.replicate n<|z.map AV.lit) i j=some x->
  ∃v,((Array.range<|m*s).map (cv[· % cv.size]!))[i*s+j]?=some v/\bC v=true/\RV FT c x v:=by
 refine⟨λe he=>by rw[List.mem_replicate] at he;rw[he.2];simpa using h,λi j x r=>?_⟩;let⟨w,p⟩:=v5 r;simp only[Zk,Zq] at p;obtain⟨u,f,rfl⟩:=p;have d:j<s:=by rw[<-h];exact (Ze.1 f).1
 have g:cv.size=s:=by rw[<-Zx,q,h]
 have l:i*s+j<m*s:=PU (by omega) d;have b:(i*s+j) % cv.size=j:=by rw[g,YN,Nat.mul_add_mod,Vc d]
 refine⟨u,?_,k u<|Zg f,RV.lit u⟩;have o:cv[j]?=some u:=by rw[<-Z8,q];exact f
 simp only[Array.getElem?_map,Array.getElem?_range,l,Zz,Yz,b];rw[getElem!_def,o]
end
end
end Go.Proofs.YtmlgedgcbfchjaaGreatDoor.Av
