/- A part of the proof of a law. -/
import Derived.Calls
import Derived.Orders
import Derived.LoopN
import Derived.Below
import Derived.KernelRfl
import Derived.Laws.CopyRow
import Derived.Laws.AppendOwn
import Derived.Laws.Entries
import Derived.Great.BuildSlice
import Derived.Laws.Tables
set_option maxRecDepth 100000
set_option maxHeartbeats 4000000
set_option linter.all false
namespace Go.Proofs.YtmcgghedgfkjiaaGreatDoor.Av
open Go
def Za:=@Option.some.injEq
def Zb:=@List.getElem?_eq_getElem
def Zc:=@Nat.eq_of_beq_eq_true
def Zd:=@Bool.and_eq_true
def Ze:=@List.getElem?_eq_some_iff
def Zf:=@Nat.le_refl
def Zg:=@List.mem_of_getElem?
def Zh:=@List.length_append
def Zi:=@Prod.mk.injEq
def Zj:=@Nat.le_of_ble_eq_true
def Zk:=@List.getElem?_map
def Zl:=@of_decide_eq_true
def Zm:=@run_underlying
def Zn:=@Bool.false_eq_true
def Zo:=@List.getElem?_append_left
def Zp:=@of_decide_eq_false
def Zq:=@Option.map_eq_some_iff
def Zr:=@Nat.mul_le_mul_right
def Zs:=@List.getElem?_take
def Zt:=@List.getElem?_cons_zero
def Zu:=@if_pos
def Zv:=@List.getElem?_set_ne
def Zw:=@List.getElem?_drop
def Zx:=@Array.length_toList
def Zy:=@List.getElem?_eq_none
def Zz:=@if_true
def ZA:=@Nat.add_mul
def ZB:=@Nat.le_trans
def ZC:=@beq_iff_eq
def ZD:=@List.mem_append
def ZE:=@List.map_cons
def ZF:=@if_neg
def ZG:=@Nat.zero_le
def ZH:=@List.length_take
def ZI:=@Nat.lt_or_ge
def ZJ:=@List.mem_singleton
def ZK:=@List.length_eq_zero_iff
def ZL:=@List.getElem?_cons_succ
def ZM:=@List.mem_cons_self
def ZN:=@List.mem_cons
def ZO:=@List.length_map
def ZP:=@List.getElem_mem
def ZQ:=@List.mem_cons_of_mem
def ZR:=@Option.some.inj
def ZS:=@List.map_congr_left
def ZU:=@Array.getElem?_push
def ZV:=@List.length_drop
def ZW:=@List.take_of_length_le
def ZX:=@List.getElem?_append_right
def ZY:=@Nat.le_add_right
def ZZ:=@List.mem_of_mem_drop
def Z0:=@Nat.zero_add
def Z1:=@List.length_nil
def Z2:=@Option.bind_some
def Z3:=@List.getElem?_set_self
def Z4:=@decide_eq_true_eq
def Z5:=@List.getElem?_set
def Z6:=@Array.getElem?_eq_getElem
def Z7:=@List.mem_of_mem_take
def Z8:=@Array.getElem?_toList
def Z9:=@if_false
def Ya:=@List.map_map
def Yb:=@Array.getElem?_eq_none
def Yc:=@List.length_cons
def Yd:=@List.length_singleton
def Ye:=@List.append_assoc
def Yf:=@Array.getD_eq_getD_getElem?
def Yg:=@List.take_append_of_le_length
def Yh:=@List.mem_map
def Yi:=@List.mem_iff_getElem?
def Yj:=@decide_eq_true
def Yk:=@List.getElem?_append
def Yl:=@List.all_eq_true
def Ym:=@List.ext_getElem?
def Yn:=@List.map_nil
def Yo:=@List.length_replicate
def Yp:=@Option.getD_some
def Yq:=@Nat.min_eq_left
def Yr:=@List.length_set
def Ys:=@Nat.le_succ
def Yt:=@List.flatten_cons
def Yu:=@Nat.add_assoc
def Yv:=@setRow_heap
def Yw:=@Nat.one_mul
def Yx:=@Nat.ble_eq_true_of_le
def Yy:=@setRow_other
def Yz:=@Option.map_some
def YA:=@Int.toNat_natCast
def YB:=@Array.getElem?_setIfInBounds_ne
def YC:=@Nat.blt_eq
def YD:=@List.drop_zero
def YE:=@Nat.not_lt_zero
def YF:=@Nat.ne_of_beq_eq_false
def YG:=@Bool.not_eq_true'
def YH:=@Array.getElem?_modify
def YI:=@decide_eq_false
def YJ:=@List.map_append
def YK:=@Result.andThen_ok
def YL:=@List.mem_or_eq_of_mem_set
def YM:=@Nat.lt_of_lt_of_le
def YN:=@Nat.mul_comm
def YO:=@List.eq_nil_of_length_eq_zero
def YP:=@List.size_toArray
def YQ:=@Nat.zero_mul
def YR:=@Nat.sub_mul
def YS:=@List.getD_eq_getElem?_getD
def YT:=@List.take_append_drop
def YU:=@Bool.or_eq_true
def YV:=@run_storeCells_at
def YW:=@Sem.run_bind
def YX:=@List.take_add_one
def YY:=@List.getElem?_range
def YZ:=@Nat.add_sub_cancel_left
def Y2:=@List.drop_left
def Y3:=@wpOps_cons
def Y4:=@Sem.run_pure
def Y5:=@Nat.beq_refl
def Y6:=@not_false_eq_true
def Y7:=@and_self
def Y8:=@Nat.mul_le_mul
def Y9:=@List.take_take
def Xa:=@Array.getElem?_eq_some_iff
def Xb:=@Array.getElem?_append_left
def Xc:=@wp_region
def Xd:=@List.flatten_nil
def Xe:=@IntKind.wrap_i64
def Xf:=@List.mem_of_find?_eq_some
def Xg:=@Bool.not_true
def Xh:=@Nat.le_add_left
def Xi:=@Int.mul_nonpos_of_nonneg_of_nonpos
def Xj:=@Array.ext_getElem?
def Xk:=@wp_seq
def Xl:=@Nat.le_succ_of_le
def Xm:=@Nat.add_zero
def Xn:=@List.take_left
def Xo:=@List.drop_of_length_le
def Xp:=@List.getElem!_eq_getElem?_getD
def Xq:=@Array.ext'
def Xr:=@Bool.and_self
def Xs:=@List.mem_iff_getElem
def Xt:=@List.nil_append
def Xu:=@Array.size_push
def Xw:=@List.flatten_append
def Xx:=@Nat.succ_mul
def Xy:=@Nat.ne_of_lt
def Xz:=@List.map_set
def XA:=@wp_loop_rounds
def XB:=@Nat.eq_zero_or_pos
def XC:=@List.findIdx?_cons
def XD:=@List.drop_drop
def XF:=@Bool.false_ne_true
def XG:=@List.getElem?_eq_none_iff
def XH:=@List.drop_eq_getElem_cons
def XI:=@Int.mul_left_comm
def XJ:=@wp_cond_false
def XK:=@Option.isSome_iff_exists
def XL:=@List.getElem?_take_of_lt
def XM:=@List.all_cons
def XN:=@Array.getElem?_replicate
def XO:=@List.take_length
def XP:=@List.getElem?_replicate
def XQ:=@Array.ext
def XR:=@Nat.sub_self
def XS:=@Addr.add_lit
def XT:=@List.forIn_cons
def XU:=@List.cons.injEq
def XV:=@Bool.eq_iff_iff
def XX:=@Array.getElem?_append
def XY:=@size_zeroCells
def XZ:=@List.forIn_nil
def X2:=@DataW.trod_int
def X3:=@Bool.not_false
def X4:=@run_firstCells_some
def X5:=@beq_eq_false_iff_ne
def X6:=@List.take_set_of_le
def X7:=@Int.toNat_of_nonneg
def X8:=@List.map_take
def X9:=@List.map_drop
def Wa:=@decide_eq_true_iff
def Wb:=@List.forIn_toArray
def Wc:=@Int.natCast_nonneg
def Wd:=@wp_cond_true
def We:=@true_and
def Wf:=@bne_self_eq_false
def Wg:=@Nat.add_comm
def Wh:=@Array.size_append
def Wi:=@eq_of_beq
def Wj:=@Option.getD_none
def Wk:=@Nat.lt_succ_self
def Wl:=@Array.eq_empty_of_size_eq_zero
def Wm:=@Nat.min_def
def Wn:=@Int.le_refl
def Wo:=@List.append_nil
def Wp:=@Int.natCast_mul
def Wq:=@heap_alloc_new
def Wr:=@List.take_zero
def Ws:=@List.mem_range
def Wt:=@List.mapM_cons
def Wv:=@Bool.true_and
def Ww:=@ne_eq
def Wx:=@decide_eq_false_iff_not
def Wy:=@eq_comm
def Wz:=@dif_pos
def WA:=@Nat.sub_zero
def WB:=@Nat.le_total
def WD:=@List.drop_eq_nil_of_le
def WE:=@Int.mul_comm
def WG:=@List.set_getElem_self
def WH:=@List.getElem?_toArray
def WI:=@Array.getElem?_mapIdx
def WJ:=@wp_block
def WM:=@grownCap_ge
def WN:=@Nat.div_one
def WP:=@Nat.div_lt_of_lt_mul
def WQ:=@List.map_id
def WR:=@List.getElem?_of_mem
def WS:=@List.drop_eq_nil_iff
def WT:=@Int.mul_pos
def WU:=@Bool.or_eq_false_iff
def WV:=@List.mem_map_of_mem
def WW:=@List.length_pos_iff
def WY:=@Nat.pos_of_ne_zero
def WZ:=@Nat.lt_or_gt_of_ne
def W4:=@List.find?_eq_none
def W5:=@wp_skip
def W6:=@List.reverse_cons
def W7:=@Function.comp_def
def W8:=@DataW.trod_struct
def W9:=@Array.toList_push
def Va:=@Array.getElem_map
def Vb:=@mem_ready
def Vc:=@Nat.mod_eq_of_lt
def Vd:=@List.isEmpty_iff
def Ve:=@List.countP_cons
def Vf:=@List.cons_append
def Vh:=@And.intro
inductive AV where
 | undef
 | lit (v:Value)
 | sl (full:Bool) (es:List (List AV))
 | ms (id tot off len:Nat)
 | ptr (id tot idx off:Nat)
 | rptr (cs:List AV)
 | sptr (cs:List AV)
 | vw (es:List (List AV))
 | rmp (ents:List (Value×AV))
 | mp (id:Nat)
 | it (id:Nat)
 | fn (vi:Nat) (caps:List AV)
 | agg (cs:List AV)
 | tup (vs:List AV)
 deriving Inhabited
inductive dI where
 | blk (s:Nat) (es:List (List AV))
 | mp (ents:List (Value×AV))
 | raw (ob:Obj)
 deriving Inhabited
abbrev aW:=List dI
structure St where
 tmps:List AV
 heap:aW
inductive bB where
 | tmp (t:Nat)
 | lit (v:Value)
 | agg (vs:List Value)
 | fn (vi:Nat)
 | glob (g:Nat)
abbrev CF:=Nat->Nat->List AV->aW->Option (AV×aW)
def Le(cf cf':CF): Prop:=∀fl vi args H x,cf fl vi args H=some x->cf' fl vi args H=some x
structure aAl where
 run:CF->Nat->List AV->aW->Option (AV×aW)
 mono:∀cf cf',Le cf cf'->∀fl args H x,run cf fl args H=some x->run cf' fl args H=some x
abbrev oV(g:Nat->List AV->aW->Option (AV×aW)): aAl:=⟨λ_=>g,λ_ _ _ _ _ _ _ h=>h⟩
class aF where
 tab:Nat->Option (List AV)
 ok:Nat->Array Value->Prop:=λ_ _=>True
 prim:Nat->Option aAl:=λ_=>none
inductive Jn where
 | mov (x:bB)
 | movN (x:bB)
 | pick (c a b:bB)
 | alloc (z:List Value)
 | claim (s:Nat)
 | allocC (z:List Value) (cl:List (Nat×Nat))
 | box (x:bB)
 | ptrK (n:Nat)
 | boxC (x:bB) (cl:List (Nat×Nat))
 | build (z:List Value) (parts:List (Nat×Nat×bB))
 | buildSl (pu:Bool) (s n:Nat) (z:List Value) (parts:List (Nat×bB))
 | load (agg:Bool) (n:Nat) (x:bB)
 | store (n:Nat) (x v:bB)
 | nilCheck (x:bB)
 | ibin (op:BinOp) (x y:bB)
 | bin (op:BinOp) (t:TypeId) (x y:bB)
 | un (op:UnOp) (x:bB)
 | conv (src dst:TypeId) (x:bB)
 | fieldAddr (off:Nat) (x:bB)
 | field (agg:Bool) (n off:Nat) (x:bB)
 | idxAddr (s:Nat) (x i:bB)
 | idxArr (s n:Nat) (x i:bB)
 | index (agg:Bool) (s n:Nat) (x i:bB)
 | strIdx (t:TypeId) (x i:bB)
 | slice (s:Nat) (x:bB) (lo hi mx:Option bB)
 | strSlice (t:TypeId) (x:bB) (lo hi:Option bB)
 | mkSlice (s:Nat) (z:List Value) (bytes:Nat) (len cap:bB)
 | mkMap
 | lookup (kt:TypeId) (z:bB) (m k:bB) (ok:Bool)
 | mapUpd (kt:TypeId) (m k v:bB)
 | lenS (x:bB)
 | lenM (x:bB)
 | lenStr (t:TypeId) (x:bB)
 | lenC (n:Nat)
 | append (s bytes:Nat) (x y:bB)
 | appendZ (s bytes:Nat) (z:List Value) (x n:bB)
 | copy (s:Nat) (x y:bB)
 | clear (s:Nat) (z:List Value) (x:bB)
 | delete (kt:TypeId) (m k:bB)
 | minmax (mx:Bool) (xs:List bB)
 | mkFn (vi:Nat) (caps:List bB)
 | call (pu:Bool) (vi:Nat) (args:List bB)
 | callv (pu:Bool) (x:bB) (args:List bB)
 | callF (vi:Nat) (args:List bB)
 | callT (s vi:Nat) (args:List bB)
 | callB (vi:Nat) (args:List bB)
 | callS (vi:Nat) (args:List bB)
 | capS (x:bB)
 | extract (x:bB) (i:Nat)
 | freeze (x:bB)
 | loadF (n k:Nat) (x:bB)
 | appendP (s bytes:Nat) (x y:bB)
 | rangeStr (x:bB)
 | nextStr (x:bB)
structure bE where
 dst:Option Nat
 op:Jn
 guard:Option (Nat×Bool)
inductive bU where
 | skip
 | region (draw:Bool) (ck:List (Nat×Nat)) (ops:List bE)
 | seq (a b:bU)
 | cond (c:bB) (a b:bU)
 | block (id:Nat) (c:bU)
 | loop (live:Option (List Bool)) (tr:Bool) (c:bU)
 | exit (id:Nat)
 | ret
 | frz (t:Nat) (c:bU)
 | mask (lx lr:List Bool) (tr:Bool) (c:bU)
 | told (li lx lr:List Bool) (c:bU)
 | scope (c:bU)
 | nilIf (t d0 d1:Nat) (a b:bU)
 | loopV (live lx lr:List Bool) (t:Nat) (c:bU)
 | stop
inductive aAo where
 | tmp (t:Nat)
 | cell (t n:Nat) (agg:Bool)
structure cS where
 fid:Nat
 nt:Nat
 rets:List aAo
 body:bU
inductive cT where
 | normal
 | exit (id:Nat)
 | ret
def bS: Value:=.slice none 0 0
def bQ: Value:=.tuple #[]
def aN{α:Type}(P:Program): Sem α->Option α
 | .pure a=>some a
 | .program k=>aN P<|k P
 | .mark _ k=>aN P k
 | _=>none
def bF: Value->Bool
 | .agg _=>false
 | .tuple _=>false
 | _=>true
def uY: Value->Bool
 | .nilIface=>false
 | _=>true
def cellsOf: AV->Option (List AV)
 | .undef=>none
 | .tup _=>none
 | .agg cs=>some cs
 | .lit v=>if bF v then some [.lit v] else none
 | v=>some [v]
def sK(v:Value): AV:=match v with
 | .slice a l c=>match a with
  | none=>match l with
   | 0=>match c with
    | 0=>.sl false []
    | _=>.lit v
   | _=>.lit v
  | _=>.lit v
 | _=>.lit v
def nrm: AV->AV
 | .lit v=>sK v
 | .sl _ es=>.sl false es
 | v=>v
def JO: AV->AV
 | .agg cs=>.agg<|cs.map nrm
 | v=>nrm v
def Fk: AV->AV
 | .lit v=>sK v
 | .sl _ es=>.sl false es
 | .sptr cs=>.sptr cs
 | .rmp ents=>.rmp ents
 | _=>.undef
def rd(H:aW): AV->Option (List<|List AV)
 | .lit (.slice none 0 0)=>some []
 | .sl _ es=>some es
 | .vw es=>some es
 | .ms id tot off len=>
  match H[id]? with
  | some (.blk _ es)=>if es.length=tot then some ((es.drop off).take len) else none
  | _=>none
 | _=>none
def eE(H:aW)(n:Nat): Nat->AV->AV
 | _,.lit v=>sK v
 | _,.sl _ es=>.sl false es
 | _,.sptr cs=>.sptr cs
 | _,.rmp ents=>.rmp ents
 | d+1,.mp id=>
  if n<=id then match H[id]? with
   | some (.mp ents)=>.rmp<|ents.map λe=>(e.1,eE H n d e.2)
   | _=>.undef
  else .undef
 | d+1,.ms id tot off len=>
  if n<=id then match rd H (.ms id tot off len) with
   | some es=>.sl false<|es.map λe=>e.map<|eE H n d
   | none=>.undef
  else .undef
 | _,_=>.undef
def fC: Nat:=6
def gN(H:aW)(n:Nat): AV->AV
 | .lit v=>sK v
 | .sl _ es=>.sl false es
 | .sptr cs=>.sptr cs
 | .rmp ents=>.rmp ents
 | .ms id tot off len=>if id<n then .ms id tot off len else eE H n fC (.ms id tot off len)
 | .ptr id tot idx off=>if id<n then .ptr id tot idx off else .undef
 | .mp id=>if id<n then .mp id else eE H n fC (.mp id)
 | .fn vi []=>.fn vi []
 | _=>.undef
def dZ(H:aW)(n:Nat): AV->AV
 | .agg cs=>.agg<|cs.map<|gN H n
 | v=>gN H n v
def fD(H:aW)(n:Nat): AV->AV
 | .tup vs=>.tup<|vs.map<|dZ H n
 | v=>dZ H n v
def mT(n:Nat): AV->AV
 | .lit v=>.lit v
 | .it id=>if id<n then .it id else .undef
 | .sl f es=>.sl f es
 | .rptr cs=>.rptr cs
 | .sptr cs=>.sptr cs
 | .vw es=>.vw es
 | .rmp ents=>.rmp ents
 | .ms id tot off len=>if id<n then .ms id tot off len else .undef
 | .ptr id tot idx off=>if id<n then .ptr id tot idx off else .undef
 | .mp id=>if id<n then .mp id else .undef
 | .fn vi []=>.fn vi []
 | _=>.undef
def jW(n:Nat): AV->AV
 | .fn vi caps=>.fn vi<|caps.map<|mT n
 | v=>mT n v
def Sd(n:Nat): AV->AV
 | .agg cs=>.agg<|cs.map<|jW n
 | v=>jW n v
def Sc(n:Nat): AV->AV
 | .tup vs=>.tup<|vs.map<|Sd n
 | v=>Sd n v
def Gv: List AV->Option (List Value)
 | []=>some []
 | .lit v::r=>match Gv r with | some l=>some (v::l) | none=>none
 | _::_=>none
def lits: AV->Option Value
 | .lit v=>some v
 | .agg cs=>match Gv cs with | some l=>some (.agg l.toArray) | none=>none
 | _=>none
def aG[aF](tm:List AV): bB->AV
 | .glob g=>match aF.tab g with | some cs=>.rptr cs | none=>.undef
 | .tmp t=>match tm[t]? with | some v=>v | none=>.lit bQ
 | .lit v=>.lit v
 | .agg vs=>.agg<|vs.map .lit
 | .fn vi=>.fn vi []
def aHx: AV->Bool
 | .lit _=>true
 | .tup vs=>vs.all λv=>match v with | .lit _=>true | _=>false
 | _=>false
def eA(H:aW)(x:AV)(n:Nat): Option<|List AV:=
 match x with
 | .ptr id tot idx off=>
  match H[id]? with
  | some (.blk _ es)=>
   if es.length=tot then
    match es[idx]? with
    | some e=>if off+n<=e.length then some ((e.drop off).take n) else none
    | none=>none
   else none
  | _=>none
 | .rptr cs=>if n<=cs.length then some (cs.take n) else none
 | .sptr cs=>if n<=cs.length then some (cs.take n) else none
 | _=>none
def aQ{α:Type}(e:List α)(off:Nat)(cs:List α): List α:=e.take off++(cs++e.drop (off+cs.length))
def wY(fl:Nat)(H:aW)(x:AV)(cs:List AV): Option aW:=
 match x with
 | .ptr id tot idx off=>
  if fl<=id then
   match H[id]? with
   | some (.blk s es)=>
    if es.length=tot then
     match es[idx]? with
     | some e=>if off+cs.length<=e.length then some (H.set id<|.blk s<|es.set idx<|aQ e off cs) else none
     | none=>none
    else none
   | _=>none
  else none
 | _=>none
def aAP(op:BinOp)(k:IntKind)(a b:Int): Option Value:=
 match op with
 | .add=>some<|.int k<|k.wrap<|a+b
 | .sub=>some<|.int k<|k.wrap<|a-b
 | .mul=>some<|.int k<|k.wrap<|a*b
 | .eql=>some<|.bool<|a==b
 | .neq=>some<|.bool<|a != b
 | .lss=>some<|.bool<|a<b
 | .leq=>some<|.bool<|a<=b
 | .gtr=>some<|.bool<|a > b
 | .geq=>some<|.bool<|a>=b
 | _=>none
def TN(cells:List AV): List (Nat×Nat×AV)->Option (List AV)
 | []=>some cells
 | (off,size,v)::rest=>
  match cellsOf v with
  | none=>none
  | some cs=>if cs.length=size/\off+size<=cells.length then TN (aQ cells off cs) rest else none
def Ri(s:Nat)(es:List<|List AV): List (Nat×AV)->Option (List<|List AV)
 | []=>some es
 | (i,v)::rest=>
  match cellsOf v with
  | none=>none
  | some cs=>if cs.length=s/\i<es.length then Ri s (es.set i cs) rest else none
def iC: AV->Option Nat
 | .lit (.int _ n)=>if 0<=n then some n.toNat else none
 | _=>none
def eC[aF](tm:List AV): Option bB->Option (Option Nat)
 | none=>some none
 | some x=>match iC (aG tm x) with | some n=>some (some n) | none=>none
def eZ(s:Nat)(es:List<|List AV): Bool:=es.all λe=>e.length==s
def Lm: List (List AV)->Option (List Int)
 | []=>some []
 | e::r=>match e with
  | [.lit<|.int .u8 n]=>match Lm r with
   | some l=>some (n::l)
   | none=>none
  | _=>none
def NB(ns:List Int): ByteArray:=ns.foldl (λr n=>r.push<|UInt8.ofNat n.toNat) ByteArray.empty
def aCq(P:Program)(src dst:TypeId): Bool:=match P.underlying src with
 | some (.slice e)=>match P.underlying e with
  | some (.int .u8)=>match P.underlying dst with
   | some .string=>true
   | _=>false
  | _=>false
 | _=>false
def kE(P:Program)(kt:TypeId)(k:Value)(ents:List<|Value×AV): Option<|Option Nat:=
 match aN P (Instr.findKey kt k<|ents.map λe=>{ key:=e.1,val:=.bool false,born:=0 }) with
 | some (some (i,_))=>some<|some i
 | some none=>some none
 | none=>none
def lO(s:Nat): List (List AV)->Bool
 | []=>true
 | e::_=>e.length==s
def gY(H:aW)(s:Nat)(x:AV)(lo hi mx:Option Nat): Option AV:=
 match x with
 | .lit (.slice none 0 0)=>if lo.getD 0=0/\hi.getD 0=0/\mx.getD 0=0/\(mx.isSome->hi.isSome) then some (.lit bS) else none
 | .sl f es=>
  match mx with
  | none=>
   let h:=hi.getD es.length
   let l:=lo.getD 0
   if l<=h/\h<=es.length/\lO s es=true then some (.sl (f&&h==es.length)<|(es.take h).drop l) else none
  | some m=>
   match hi with
   | none=>none
   | some h=>
    let l:=lo.getD 0
    if l<=h/\h<=m/\m<=es.length/\lO s es=true then some (.sl (h==m)<|(es.take h).drop l) else none
 | .vw es=>
  match mx with
  | none=>
   let h:=hi.getD es.length
   let l:=lo.getD 0
   if l<=h/\h<=es.length/\lO s es=true then some (.vw<|(es.take h).drop l) else none
  | some m=>
   match hi with
   | none=>none
   | some h=>if lo.getD 0=0/\h=0/\m=0 then some (.sl true []) else none
 | .ms id tot off len=>
  match mx with
  | none=>
   let h:=hi.getD len
   let l:=lo.getD 0
   match H[id]? with
   | some (.blk s' es)=>if l<=h/\h<=len/\s'=s then some (.ms id tot (off+l)<|h-l)
    else if l<=h/\off+h<=tot/\es.length=tot/\0<s/\s'=s then some (.ms id tot (off+l)<|h-l) else none
   | _=>none
  | some m=>
   match hi with
   | none=>none
   | some h=>
    let l:=lo.getD 0
    if l=h/\h=m/\m<=len then some (.sl true []) else if l<=h/\h<=m/\m<=len then some .undef else none
 | _=>none
def dE(H:aW): AV->AV
 | .lit v=>match sK v with
  | .lit u=>.lit u
  | _=>.vw []
 | .sl _ es=>.vw es
 | .vw es=>.vw es
 | .rptr cs=>.rptr cs
 | .sptr cs=>.sptr cs
 | .rmp ents=>.rmp ents
 | .ms id tot off len=>match rd H (.ms id tot off len) with
  | some es=>.vw<|es.map λe=>e.map Fk
  | none=>.undef
 | .fn vi []=>.fn vi []
 | _=>.undef
def cL(H:aW): AV->AV
 | .agg cs=>.agg<|cs.map<|dE H
 | v=>dE H v
def aMe: AV->Bool
 | .lit _=>true
 | _=>false
def SS(s:Nat)(H':aW): AV->Option (List<|List AV)
 | .ms id tot off len=>match Nat.beq off 0&&Nat.beq len tot with
  | false=>none
  | true=>match H'[id]? with
   | none=>none
   | some o=>match o with
    | .blk s' es=>match Nat.beq es.length tot&&Nat.beq s' s with
     | true=>some<|es.map λe=>e.map<|eE (H'.set id<|.blk s<|es++[List.replicate s .undef]) 0 fC
     | false=>none
    | _=>none
 | .lit v=>match v with
  | .slice a len cap=>match a with
   | none=>match Nat.beq len 0&&Nat.beq cap 0 with
    | true=>some []
    | false=>none
   | some _=>none
  | _=>none
 | _=>none
def BT(s:Nat)(H:aW)(q:Option<|AV×aW): Option<|AV×aW:=match q with
 | none=>none
 | some p=>match p.1 with
  | .tup cs=>match cs with
   | []=>none
   | x::l=>match l.all aMe with
    | false=>none
    | true=>match SS s p.2 x with
     | none=>none
     | some rows=>some (.tup (.ms H.length rows.length 0 rows.length::l),H++[.blk s rows])
  | r=>match SS s p.2 r with
   | none=>none
   | some rows=>some (.ms H.length rows.length 0 rows.length,H++[.blk s rows])
def lI(n bytes:Nat): Bool:=n*bytes<=2 ^ 40&&n<=2 ^ 40
def cR(fl:Nat)(H:aW)(s bytes:Nat)(x:AV)(ys:List<|List AV): Option<|AV×aW:=
 if eZ s ys=true/\0<s/\lI ys.length bytes=true then
  match x with
  | .lit (.slice none 0 0)=>
   if ys.length=0 then some (x,H) else some (.ms H.length ys.length 0 ys.length,H++[.blk s ys])
  | .sl f es=>
   if ys.length=0 then some (x,H)
   else if f=true/\eZ s es=true/\lI (es.length+ys.length) bytes=true then
    some (.ms H.length (es.length+ys.length) 0<|es.length+ys.length,H++[.blk s<|es++ys])
   else none
  | .ms id tot off len=>
   match H[id]? with
   | some (.blk s' es)=>
    if s'=s/\es.length=tot/\lI (tot+ys.length) bytes=true then
     if ys.length=0 then some (x,H)
     else if fl<=id then
      if off=0/\len=tot then
       some (.ms id (tot+ys.length) 0<|tot+ys.length,H.set id<|.blk s<|es++ys)
      else if off+len+ys.length<=tot then
       some (.ms id tot off<|len+ys.length,H.set id<|.blk s<|aQ es (off+len) ys)
      else none
     else none
    else none
   | _=>none
  | _=>none
 else none
def aLa: AV->Option (List<|List AV)
 | .lit (.slice none 0 0)=>some []
 | .sl _ ys=>some ys
 | _=>none
def aSN(s bytes:Nat)(x y:AV): Option AV:=match x with
 | .sl f es=>match f with
  | true=>match es with
   | []=>match aLa y with
    | some ys=>if eZ s ys=true/\0<s/\lI ys.length bytes=true then some (.sl false<|ys.map λe=>e.map Fk) else none
    | none=>none
   | _::_=>none
  | false=>none
 | _=>none
def eP(n:Nat)(cs:List AV): List (Nat×Nat)->List AV
 | []=>cs
 | (o,_)::r=>eP (n+1) (cs.set o<|.ms n 0 0 0) r
def Kr: AV->Bool
 | .undef=>true
 | .lit _=>true
 | .sl _ _=>true
 | .rptr _=>true
 | .sptr _=>true
 | .rmp _=>true
 | .fn _ []=>true
 | _=>false
def Pq: List AV->Bool
 | []=>true
 | x::r=>match Kr x with | true=>Pq r | false=>false
def sI: AV->Bool
 | .agg cs=>Pq cs
 | v=>Kr v
def gR: List AV->Bool
 | []=>true
 | x::r=>match sI x with | true=>gR r | false=>false
section
variable (P:Program)(cf:Nat->Nat->List AV->aW->Option (AV×aW))(fl:Nat)
def Eb(pu:Bool)(vi:Nat)(args:List AV)(H:aW): Option<|AV×aW:=
 match pu with
 | true=>
  match gR args with
  | true=>
   match cf 0 vi (args.map JO) [] with
   | some (r,H')=>some (fD H' 0 r,H)
   | none=>none
  | false=>
   match cf H.length vi (args.map JO) H with
   | some (r,H')=>some (fD H' H.length r,H)
   | none=>none
 | false=>cf fl vi args H
def aLB(cs:List AV)(cl:List (Nat×Nat)): Bool:=cl.all λc=>match cs[c.1]? with
 | some (.lit (.slice none 0 0))=>true
 | _=>false
def aL[aF](op:Jn)(tm:List AV)(H:aW): Option<|AV×aW:=
 match op with
 | .mov x=>some (aG tm x,H)
 | .movN x=>some (JO<|aG tm x,H)
 | .pick c a b=>match aG tm c with
  | .lit (.bool t)=>some (if t then aG tm a else aG tm b,H)
  | _=>none
 | .alloc z=>some (.ptr H.length 1 0 0,H++[.blk z.length [z.map .lit]])
 | .claim s=>some (.ms H.length 0 0 0,H++[.blk s []])
 | .allocC z cl=>some (.ptr (H.length+cl.length) 1 0 0,
  (H++cl.map λc=>.blk c.2 [])++[.blk z.length [eP H.length (z.map .lit) cl]])
 | .ptrK n=>some (.ptr n 1 0 0,H)
 | .box x=>match cellsOf (aG tm x) with
  | some cs=>some (.ptr H.length 1 0 0,H++[.blk cs.length [cs]])
  | none=>none
 | .boxC x cl=>match cellsOf (aG tm x) with
  | some cs=>match aLB cs cl with
   | true=>some (.ptr (H.length+cl.length) 1 0 0,(H++cl.map λc=>.blk c.2 [])++[.blk cs.length [eP H.length cs cl]])
   | false=>none
  | none=>none
 | .build z parts=>match TN (z.map .lit) (parts.map λ(o,s,x)=>(o,s,aG tm x)) with
  | some cs=>some (.agg cs,H)
  | none=>none
 | .buildSl pu s n z parts=>match Ri s (List.replicate n<|z.map .lit) (parts.map λ(i,x)=>(i,aG tm x)) with
  | some es=>if pu then some (.sl true<|es.map λe=>e.map Fk,H) else some (.ms H.length n 0 n,H++[.blk s es])
  | none=>none
 | .load agg n x=>match eA H (aG tm x) n with
  | some cs=>if agg then some (.agg cs,H) else match cs with
   | [c]=>some (c,H)
   | _=>none
  | none=>none
 | .store n x v=>match cellsOf (aG tm v) with
  | some cs=>if cs.length=n then match wY fl H (aG tm x) cs with
   | some H'=>some (.lit bQ,H')
   | none=>none
   else none
  | none=>none
 | .nilCheck x=>match aG tm x with
  | .ptr ..=>some (aG tm x,H)
  | .rptr _=>some (aG tm x,H)
  | .sptr _=>some (aG tm x,H)
  | .fn ..=>some (aG tm x,H)
  | _=>none
 | .ibin op x y=>match aG tm x,aG tm y with
  | .lit (.int k a),.lit (.int k' b)=>if k=k' then match aAP op k a b with
   | some v=>some (.lit v,H)
   | none=>none
   else none
  | _,_=>none
 | .bin op t x y=>match lits<|aG tm x,lits (aG tm y) with
  | some v,some u=>match (if uY v then aN P (eqGuard op t (.tmp 0) (.tmp 0) v u) else none) with
   | some _=>match aN P (binOp op t v u) with
    | some r=>some (.lit r,H)
    | none=>none
   | none=>none
  | _,_=>none
 | .un op x=>match aG tm x with
  | .lit v=>match aN P (Op.unary op v) with
   | some r=>some (.lit r,H)
   | none=>none
  | _=>none
 | .conv src dst x=>match aG tm x with
  | .lit v=>match aN P (convert src dst v) with
   | some r=>some (.lit r,H)
   | none=>none
  | .sl _ es=>match aCq P src dst with
   | true=>match Lm es with
    | some ns=>some (.lit<|.string<|NB ns,H)
    | none=>none
   | false=>none
  | _=>none
 | .fieldAddr off x=>match aG tm x with
  | .ptr id tot idx o=>some (.ptr id tot idx<|o+off,H)
  | .rptr cs=>some (.rptr<|cs.drop off,H)
  | .sptr cs=>some (.rptr<|cs.drop off,H)
  | _=>none
 | .field agg n off x=>match aG tm x with
  | .agg cs=>if off+n<=cs.length then
   if agg then some (.agg<|(cs.drop off).take n,H) else match (cs.drop off).take n with
    | [c]=>some (c,H)
    | _=>none
   else none
  | _=>none
 | .idxAddr s x i=>match iC (aG tm i) with
  | some i=>match aG tm x with
   | .sl _ es=>match es[i]? with
    | some e=>if e.length=s then some (.rptr e,H) else none
    | none=>none
   | .vw es=>match es[i]? with
    | some e=>if e.length=s then some (.rptr e,H) else none
    | none=>none
   | .ms id tot off len=>match H[id]? with
    | some (.blk s' es)=>if s'=s/\es.length=tot/\i<len then some (.ptr id tot (off+i) 0,H) else none
    | _=>none
   | _=>none
  | none=>none
 | .idxArr s n x i=>match iC (aG tm i) with
  | some i=>if i<n then match aG tm x with
   | .ptr id tot idx o=>some (.ptr id tot idx<|o+i*s,H)
   | .rptr cs=>some (.rptr<|cs.drop<|i*s,H)
   | _=>none
   else none
  | none=>none
 | .index agg s n x i=>match iC (aG tm i) with
  | some i=>if i<n then match aG tm x with
   | .agg cs=>if i*s+s<=cs.length then
    if agg then some (.agg<|(cs.drop<|i*s).take s,H) else match (cs.drop<|i*s).take s with
     | [c]=>some (c,H)
     | _=>none
    else none
   | _=>none
   else none
  | none=>none
 | .strIdx t x i=>match aG tm x,aG tm i with
  | .lit v,.lit u=>match aN P (Instr.index t v u) with
   | some r=>some (.lit r,H)
   | none=>none
  | _,_=>none
 | .slice s x lo hi mx=>match eC tm lo,eC tm hi,eC tm mx with
  | some lo,some hi,some mx=>match gY H s (aG tm x) lo hi mx with
   | some v=>some (v,H)
   | none=>none
  | _,_,_=>none
 | .strSlice _ x lo hi=>match aG tm x,eC tm lo,eC tm hi with
  | .lit (.string s),some lo,some hi=>
   if lo.getD 0<=hi.getD s.size/\hi.getD s.size<=s.size then some (.lit<|.string<|s.extract (lo.getD 0)<|hi.getD s.size,H) else none
  | _,_,_=>none
 | .mkSlice s z bytes len cap=>match iC<|aG tm len,iC (aG tm cap) with
  | some l,some c=>if l<=c/\c*bytes<=2 ^ 40/\c<=2 ^ 40/\z.length=s then
   some (.ms H.length l 0 l,H++[.blk s<|List.replicate l<|z.map .lit]) else none
  | _,_=>none
 | .mkMap=>some (.mp H.length,H++[.mp []])
 | .lookup kt z m k ok=>match lits (aG tm k) with
  | some kv=>
   let r (ents:List<|Value×AV):Option<|AV×aW:=
    match aN P<|Instr.checkKey ents.isEmpty 10000 kt kv,kE P kt kv ents with
    | some _,some (some i)=>match ents[i]? with
     | some e=>some (if ok then .tup [e.2,.lit<|.bool true] else e.2,H)
     | none=>none
    | some _,some none=>some (if ok then .tup [aG tm z,.lit<|.bool false] else aG tm z,H)
    | _,_=>none
   match aG tm m with
   | .lit (.map none)=>r []
   | .mp id=>match H[id]? with
    | some (.mp ents)=>r ents
    | _=>none
   | .rmp ents=>r ents
   | _=>none
  | none=>none
 | .mapUpd kt m k v=>match lits<|aG tm k,aG tm m with
  | some kv,.mp id=>if fl<=id then match H[id]? with
   | some (.mp ents)=>match aN P<|Instr.checkKey false 10000 kt kv,kE P kt kv ents with
    | some _,some (some i)=>match ents[i]? with
     | some e=>if Instr.sameBits 10000 e.1 kv then some (.lit bQ,H.set id<|.mp<|ents.set i (kv,aG tm v)) else none
     | none=>none
    | some _,some none=>some (.lit bQ,H.set id<|.mp<|ents++[(kv,aG tm v)])
    | _,_=>none
   | _=>none
   else none
  | _,_=>none
 | .lenS x=>match aG tm x with
  | .lit (.slice none 0 0)=>some (.lit<|.int .i64 0,H)
  | .sl _ es=>some (.lit<|.int .i64 es.length,H)
  | .vw es=>some (.lit<|.int .i64 es.length,H)
  | .ms _ _ _ len=>some (.lit<|.int .i64 len,H)
  | _=>none
 | .lenM x=>match aG tm x with
  | .lit (.map none)=>some (.lit<|.int .i64 0,H)
  | .mp id=>match H[id]? with
   | some (.mp ents)=>some (.lit<|.int .i64 ents.length,H)
   | _=>none
  | .rmp ents=>some (.lit<|.int .i64 ents.length,H)
  | _=>none
 | .lenStr t x=>match aG tm x with
  | .lit v=>match aN P (Builtin.len_ #[t] 0 #[v]) with
   | some r=>some (.lit r,H)
   | none=>none
  | _=>none
 | .lenC n=>some (.lit<|.int .i64 n,H)
 | .append s bytes x y=>match rd H (aG tm y) with
  | some ys=>cR fl H s bytes (aG tm x) ys
  | none=>none
 | .appendZ s bytes z x n=>match iC (aG tm n) with
  | some n=>if z.length=s/\n<=2 ^ 20/\n*bytes<=2 ^ 40 then cR fl H s bytes (aG tm x) (List.replicate n<|z.map .lit) else none
  | none=>none
 | .copy s x y=>match rd H (aG tm y) with
  | some ys=>if eZ s ys=true/\0<s then match aG tm x with
   | .ms id tot off len=>match H[id]? with
    | some (.blk s' es)=>if s'=s/\es.length=tot/\ys.length<=len/\fl<=id then (if ys.length=0 then some (.lit<|.int .i64 0,H) else some (.lit<|.int .i64 ys.length,H.set id<|.blk s<|aQ es off ys)) else none
    | _=>none
   | _=>none
   else none
  | none=>none
 | .clear s z x=>match aG tm x with
  | .lit (.slice none 0 0)=>some (.tup [],H)
  | .sl _ []=>some (.tup [],H)
  | .ms id tot off len=>match H[id]? with
   | some (.blk s' es)=>if s'=s/\es.length=tot/\off+len<=tot/\fl<=id/\0<s/\z.length=s then (if len=0 then some (.tup [],H) else some (.tup [],H.set id<|.blk s<|aQ es off<|List.replicate len<|z.map .lit)) else none
   | _=>none
  | _=>none
 | .delete kt m k=>match lits<|aG tm k,aG tm m with
  | some kv,.mp id=>if fl<=id then match H[id]? with
   | some (.mp ents)=>match aN P<|Instr.checkKey ents.isEmpty 10000 kt kv,kE P kt kv ents with
    | some _,some (some i)=>some (.lit bQ,H.set id<|.mp<|ents.eraseIdx i)
    | some _,some none=>some (.lit bQ,H)
    | _,_=>none
   | _=>none
   else none
  | _,_=>none
 | .minmax mx xs=>match Gv (xs.map<|aG tm) with
  | some vs=>match aN P (if mx then Builtin.max_ #[] 0 vs.toArray else Builtin.min_ #[] 0 vs.toArray) with
   | some r=>some (.lit r,H)
   | none=>none
  | none=>none
 | .mkFn vi caps=>some (.fn vi<|caps.map<|aG tm,H)
 | .call pu vi args=>Eb cf fl pu vi (args.map<|aG tm) H
 | .callv pu x args=>match aG tm x with
  | .fn vi caps=>Eb cf fl pu vi (args.map (aG tm)++caps) H
  | _=>none
 | .callF vi args=>cf H.length vi (args.map<|aG tm) H
 | .callT s vi args=>BT s H<|cf 0 vi ((args.map<|aG tm).map<|cL H) []
 | .callB vi args=>match cf 0 vi ((args.map<|aG tm).map<|cL H) [] with
  | some (r,H')=>some (fD H' 0 r,H)
  | none=>none
 | .callS vi args=>match cf 0 vi ((args.map<|aG tm).map<|dZ H 0) [] with
  | some (r,H')=>match aHx (fD H' 0 r) with
   | true=>some (fD H' 0 r,H)
   | false=>none
  | none=>none
 | .capS x=>match aG tm x with
  | .lit (.slice none 0 0)=>some (.lit<|.int .i64 0,H)
  | .sl true es=>some (.lit<|.int .i64 es.length,H)
  | _=>none
 | .extract x i=>match aG tm x with
  | .tup vs=>match vs[i]? with
   | some v=>some (v,H)
   | none=>none
  | _=>none
 | .rangeStr x=>match aG tm x with
  | .lit (.string s)=>some (.it H.length,H++[.raw<|.stringIter s 0])
  | _=>none
 | .nextStr x=>match aG tm x with
  | .it id=>if fl<=id then match H[id]? with
   | some (.raw<|.stringIter s pos)=>if pos<s.size then some (.tup [.lit<|.bool true,.lit<|.int .i64 pos,.lit<|.int .i32 (Utf8.decode s pos).1],H.set id<|.raw<|.stringIter s<|pos+(Utf8.decode s pos).2) else some (.tup [.lit<|.bool false],H)
   | _=>none
   else none
  | _=>none
 | .freeze x=>match aG tm x with
  | .ms id tot off len=>if fl<=id then match H[id]? with
   | some (.blk s es)=>if es.length=tot then some (.sl false<|((es.drop off).take len).map λe=>e.map Fk,H.set id<|.blk s<|es++[List.replicate s .undef]) else none
   | _=>none
   else none
  | .ptr id tot idx off=>if fl<=id then match H[id]? with
   | some (.blk s es)=>if es.length=tot then match es[idx]? with
    | some e=>some (.sptr<|(e.drop off).map Fk,H.set id<|.blk s<|es++[List.replicate s .undef])
    | none=>none
    else none
   | _=>none
   else none
  | v=>some (v,H)
 | .appendP s bytes x y=>match aSN s bytes (aG tm x) (aG tm y) with
  | some v=>some (v,H)
  | none=>none
 | .loadF n k x=>match eA H (aG tm x) n with
  | some cs=>match cs[k]? with
   | some (.ms id tot off len)=>if fl<=id then match H[id]? with
    | some (.blk s es)=>if es.length=tot then some (.agg<|cs.set k<|.sl false<|((es.drop off).take len).map λe=>e.map Fk,H.set id<|.blk s<|es++[List.replicate s .undef]) else none
    | _=>none
    else none
   | some _=>some (.agg cs,H)
   | none=>none
  | none=>none
def hM(tm:List AV)(d:Option Nat)(v:AV): List AV:=
 match d with
 | some d=>tm.set d v
 | none=>tm
def eD[aF](tm:List AV)(g:Option<|Nat×Bool): Option Bool:=
 match g with
 | none=>some true
 | some (t,want)=>match aG tm (.tmp t) with
  | .lit (.bool b)=>some<|b==want
  | .lit _=>some false
  | _=>none
def cH[aF](o:bE)(st:St): Option St:=
 match eD st.tmps o.guard with
 | some true=>match aL P cf fl o.op st.tmps st.heap with
  | some (v,H)=>some ⟨hM st.tmps o.dst v,H⟩
  | none=>none
 | some false=>some ⟨hM st.tmps o.dst<|.lit bQ,st.heap⟩
 | none=>none
end
def TD: AV->Option Nat
 | .ptr id _ _ _=>some id
 | .ms id _ _ _=>some id
 | .mp id=>some id
 | _=>none
def fE: Jn->Bool
 | .mov _=>true
 | .ptrK _=>true
 | .movN _=>true
 | .pick ..=>true
 | .build ..=>true
 | .buildSl pu ..=>pu
 | .appendP ..=>true
 | .load ..=>true
 | .nilCheck _=>true
 | .ibin ..=>true
 | .bin ..=>true
 | .un ..=>true
 | .conv ..=>true
 | .fieldAddr ..=>true
 | .field ..=>true
 | .idxAddr ..=>true
 | .idxArr ..=>true
 | .index ..=>true
 | .strIdx ..=>true
 | .slice ..=>true
 | .strSlice ..=>true
 | .lookup ..=>true
 | .lenS _=>true
 | .capS _=>true
 | .lenM _=>true
 | .lenStr ..=>true
 | .lenC _=>true
 | .minmax ..=>true
 | .mkFn ..=>true
 | .call pu ..=>pu
 | .callv pu ..=>pu
 | .extract ..=>true
 | .callS ..=>true
 | .callB ..=>true
 | _=>false
def cY[aF](op:Jn)(tm:List AV): Option<|Option Nat:=
 match op with
 | .load _ _ x=>some<|TD<|aG tm x
 | .idxAddr _ x _=>some<|TD<|aG tm x
 | .slice _ x _ _ _=>some<|TD<|aG tm x
 | .lookup _ _ m _ _=>some<|TD<|aG tm m
 | .lenM x=>some<|TD<|aG tm x
 | .call true _ args=>match gR (args.map<|aG tm) with
  | true=>some none
  | false=>none
 | .callS _ args=>match gR (args.map<|aG tm) with
  | true=>some none
  | false=>none
 | .callB _ args=>match args with
  | [x]=>match aG tm x with
   | .lit _=>some none
   | .sl _ _=>some none
   | .vw _=>some none
   | _=>none
  | _=>none
 | .callv true x args=>match aG tm x with
  | .fn _ caps=>match gR (args.map (aG tm)++caps) with
   | true=>some none
   | false=>none
  | _=>none
 | _=>none
def kY[aF](op:Jn)(tm:List AV)(n id:Nat): Bool:=
 match op with
 | .alloc _=>Nat.blt id n
 | .claim _=>Nat.blt id n
 | .allocC _ _=>Nat.blt id n
 | .box _=>Nat.blt id n
 | .boxC _ _=>Nat.blt id n
 | .buildSl _ _ _ _ _=>Nat.blt id n
 | .mkSlice _ _ _ _ _=>Nat.blt id n
 | .mkMap=>Nat.blt id n
 | .callF _ _=>Nat.blt id n
 | .callT _ _ _=>Nat.blt id n
 | .store _ x _=>match aG tm x with
  | .ptr i _ _ _=>!Nat.beq i id
  | _=>false
 | .append _ _ x _=>match aG tm x with
  | .ms i _ _ _=>!Nat.beq i id
  | _=>Nat.blt id n
 | .mapUpd _ m _ _=>match aG tm m with
  | .mp i=>!Nat.beq i id
  | _=>false
 | _=>false
def aFe[aF](ops:List bE)(l:List St)(k m:Nat): Bool:=
 match ops[k]? with
 | some ok=>match l[k]? with
  | some sk=>match eD sk.tmps ok.guard with
   | some false=>true
   | _=>match cY ok.op sk.tmps with
    | some none=>true
    | some (some id)=>match ops[m]? with
     | some om=>match l[m]? with
      | some sm=>match eD sm.tmps om.guard with
       | some false=>true
       | _=>kY om.op sm.tmps sm.heap.length id
      | none=>false
     | none=>false
    | none=>false
  | none=>false
 | none=>false
def TZ[aF](ops:List bE)(l:List St): List (Nat×Nat)->Bool
 | []=>true
 | (k,m)::r=>match aFe ops l k m with
  | true=>TZ ops l r
  | false=>false
section
variable (P:Program)(cf:Nat->Nat->List AV->aW->Option (AV×aW))
def iN[aF](fl:Nat): List bE->St->Option St
 | [],st=>some st
 | o::r,st=>match cH P cf fl o st with
  | some st=>iN fl r st
  | none=>none
def vB[aF](fl:Nat): List bE->St->Option (List St)
 | [],st=>some [st]
 | o::r,st=>match cH P cf fl o st with
  | some st1=>match vB fl r st1 with
   | some l=>some (st::l)
   | none=>none
  | none=>none
def eW(ops:List bE)(m n:Nat): List bE:=match ops,m with
 | [],_=>[]
 | o::r,0=>⟨o.dst,.ptrK n,none⟩::r
 | o::r,m+1=>o::eW r m n
def phZ(ops:List bE)(m:Nat): List Value:=match ops[m]? with
 | some o=>match o.op with
  | .alloc z=>z
  | _=>[]
 | none=>[]
def Qi[aF](n: Nat): Nat->List bE->List St->Bool
 | 0,_,_=>true
 | m+1,o::r,s::l=>match (match fE o.op with
   | true=>true
   | false=>match eD s.tmps o.guard with
    | some false=>true
    | _=>kY o.op s.tmps s.heap.length n) with
  | true=>Qi n m r l
  | false=>false
 | _,_,_=>false
def wR[aF](fl:Nat)(ck:List<|Nat×Nat)(ops:List bE)(st:St): Option St:=match ck with
 | []=>iN P cf fl ops st
 | c::r=>match Nat.beq c.1 c.2 with
  | false=>match vB P cf fl ops st with
   | some l=>match TZ ops l (c::r) with
    | true=>l.getLast?
    | false=>none
   | none=>none
  | true=>match vB P cf fl (eW ops c.1 st.heap.length) ⟨st.tmps,st.heap++[.blk (phZ ops c.1).length [(phZ ops c.1).map .lit]]⟩ with
   | some l=>match TZ (eW ops c.1 st.heap.length) l r with
    | true=>match Qi st.heap.length c.1 (eW ops c.1 st.heap.length) l with
     | true=>l.getLast?
     | false=>none
    | false=>none
   | none=>none
def cU: List Bool->List AV->List AV
 | b::bs,v::vs=>(if b then v else .undef)::cU bs vs
 | [],vs=>vs.map λ_=>.undef
 | _,[]=>[]
def bY(n:Nat): dI->dI
 | .blk s es=>.blk s<|es.map λe=>e.map<|jW n
 | .mp ents=>.mp<|ents.map λe=>(e.1,Sd n e.2)
 | .raw ob=>.raw ob
def aAI(live:Option<|List Bool)(tm:List AV): List AV:=match live with | some l=>cU l tm | none=>tm
def dL(live:Option<|List Bool)(tr:Bool)(fl n:Nat)(st:St): St:=
 if tr then⟨(aAI live st.tmps).map<|Sc n,st.heap.take fl++((st.heap.take n).drop fl).map (bY n)⟩ else⟨aAI live st.tmps,st.heap⟩
def Gt(lx lr:List Bool)(tr:Bool)(fl n:Nat): Option (cT×St)->Option (cT×St)
 | some (x,st)=>match x with
  | .ret=>some (.ret,⟨cU lr st.tmps,st.heap⟩)
  | .normal=>some (.normal,dL (some lx) tr fl n st)
  | .exit i=>some (.exit i,dL (some lx) tr fl n st)
 | none=>none
def aHL[aF](fl t:Nat)(st:St): Option St:=
 match aG st.tmps (.tmp t) with
 | .ms id tot off len=>if fl<=id then match st.heap[id]? with
  | some (.blk s es)=>if es.length=tot then some ⟨st.tmps.set t<|.ms st.heap.length tot off len,st.heap.set id (.blk s<|es++[List.replicate s .undef])++[.blk s es]⟩ else none
  | _=>none
  else none
 | _=>none
def JX[aF](live:List Bool)(t fl n:Nat)(st:St): St:=
 match aG st.tmps (.tmp t) with
 | .ms id tot off len=>if n<=id then match st.heap[id]? with
  | some (.blk s es)=>⟨((cU live st.tmps).map<|Sc n).set t<|.ms n tot off len,(st.heap.take fl++((st.heap.take n).drop fl).map (bY n))++[bY n<|.blk s es]⟩
  | _=>dL (some live) true fl n st
  else dL (some live) true fl n st
 | _=>dL (some live) true fl n st
def aLK[aF](lx lr:List Bool)(t fl n:Nat): Option (cT×St)->Option (cT×St)
 | some (x,st)=>match x with
  | .ret=>some (.ret,⟨cU lr st.tmps,st.heap⟩)
  | .normal=>some (.normal,JX lx t fl n st)
  | .exit i=>some (.exit i,JX lx t fl n st)
 | none=>none
def VL(H:aW): AV->Nat
 | .lit v=>match v with
  | .slice a l c=>match a with
   | none=>match l with
    | 0=>match c with
     | 0=>0
     | _=>3
    | _=>3
   | _=>3
  | _=>3
 | .sl _ es=>match es with
  | []=>2
  | _::_=>1
 | .vw es=>match es with
  | []=>2
  | _::_=>1
 | .ms id tot _ len=>match len with
  | 0=>3
  | _+1=>match H[id]? with
   | some (.blk _ es)=>match Nat.beq es.length tot with
    | true=>1
    | false=>3
   | _=>3
 | _=>3
def aMy: AV->Bool
 | .lit v=>match v with
  | .slice a l c=>match a with
   | none=>match l with
    | 0=>match c with
     | 0=>true
     | _=>false
    | _=>false
   | _=>false
  | _=>false
 | .sl _ es=>match es with
  | []=>true
  | _::_=>false
 | _=>false
def aIj(x y:AV): AV:=match aMy x with
 | true=>match aMy y with
  | true=>.sl false []
  | false=>.undef
 | false=>.undef
def BU: List AV->List AV->List AV
 | x::r,y::s=>aIj x y::BU r s
 | _,_=>[]
def Tj: Option (cT×St)->Option (cT×St)
 | some (x,st)=>match x with
  | .normal=>none
  | x=>some (x,st)
 | none=>none
def aEx(H:aW): Option (cT×St)->Option (cT×St)->Option (cT×St)
 | some (.ret,sa),some (.ret,sb)=>match Nat.beq sa.tmps.length sb.tmps.length with
  | true=>some (.ret,⟨BU sa.tmps sb.tmps,H⟩)
  | false=>none
 | _,_=>none
def Qb[aF](tm:List AV)(t d0 d1:Nat)(b:Bool): List AV:=(tm.set d0<|aG tm<|.tmp t).set d1<|.lit<|.bool b
def gC(head:St->St)(step:St->Option (cT×St)): Nat->St->Option (cT×St)
 | 0,_=>none
 | n+1,st=>match step (head st) with
  | some (.normal,st)=>gC head step n st
  | r=>r
def eU[aF](lf fl:Nat): bU->St->Option (cT×St)
 | .skip,st=>some (.normal,st)
 | .region _ ck ops,st=>match wR P cf fl ck ops st with
  | some st=>some (.normal,st)
  | none=>none
 | .seq a b,st=>match eU lf fl a st with
  | some (.normal,st)=>eU lf fl b st
  | r=>r
 | .cond c a b,st=>match aG st.tmps c with
  | .lit (.bool true)=>eU lf fl a st
  | .lit (.bool false)=>eU lf fl b st
  | _=>none
 | .block id c,st=>match eU lf fl c st with
  | some (.exit i,st)=>if i=id then some (.normal,st) else some (.exit i,st)
  | r=>r
 | .loop live tr c,st=>gC (dL live tr fl st.heap.length) (λst=>eU lf fl c st) lf st
 | .exit id,st=>some (.exit id,st)
 | .ret,st=>some (.ret,st)
 | .frz t c,st=>match aL P cf fl (.freeze<|.tmp t) st.tmps st.heap with
  | some (v,H)=>eU lf fl c ⟨st.tmps.set t v,H⟩
  | none=>none
 | .mask lx lr tr c,st=>Gt lx lr tr fl st.heap.length<|eU lf fl c st
 | .told li lx lr c,st=>Gt lx lr false fl st.heap.length<|eU lf fl c ⟨cU li st.tmps,st.heap⟩
 | .scope c,st=>eU lf fl c st
 | .nilIf t d0 d1 a b,st=>match (Nat.blt d0 st.tmps.length&&Nat.blt d1 st.tmps.length) with
  | true=>match VL st.heap (aG st.tmps<|.tmp t) with
   | 0=>Tj<|eU lf fl a ⟨Qb st.tmps t d0 d1 true,st.heap⟩
   | 1=>eU lf fl b ⟨Qb st.tmps t d0 d1 false,st.heap⟩
   | 2=>match Nat.beq fl st.heap.length with
    | true=>aEx st.heap (eU lf fl a ⟨Qb st.tmps t d0 d1 true,st.heap⟩)<|eU lf fl b ⟨Qb st.tmps t d0 d1 false,st.heap⟩
    | false=>none
   | _=>none
  | false=>none
 | .loopV live lx lr t c,st=>match aHL fl t st with
  | some st1=>aLK lx lr t fl st.heap.length<|gC (JX live t fl st.heap.length) (λst=>eU lf fl c st) lf st1
  | none=>none
 | .stop,_=>none
end
def Ro[aF](st:St): aAo->Option AV
 | .tmp t=>some<|aG st.tmps<|.tmp t
 | .cell t n agg=>match eA st.heap (aG st.tmps<|.tmp t) n with
  | some cs=>if agg then some (.agg cs) else match cs with
   | [c]=>some c
   | _=>none
  | none=>none
def kB: List AV->AV
 | [v]=>v
 | vs=>.tup vs
def lP[aF](st:St): List aAo->Option (List AV)
 | []=>some []
 | r::rs=>match Ro st r with
  | some v=>match lP st rs with
   | some vs=>some (v::vs)
   | none=>none
  | none=>none
def Mg[aF](cf:CF)(fl vi:Nat)(args:List AV)(H:aW): Option<|AV×aW:=
 match aF.prim vi with
 | some g=>g.run cf fl args H
 | none=>none
def getF[aF](T:List cS)(vi:Nat): Option cS:=
 match aF.prim vi with
 | some _=>none
 | none=>T[vi]?
def fH[aF](P:Program)(T:List cS): Nat->Nat->Nat->List AV->aW->Option (AV×aW)
 | 0,_,_,_,_=>none
 | n+1,fl,vi,args,H=>
  match aF.prim vi with
  | some g=>g.run (fH P T n) fl args H
  | none=>
  match T[vi]? with
  | none=>none
  | some F=>
   match eU P (fH P T n) n fl F.body ⟨args++List.replicate (F.nt-args.length) (.lit bQ),H⟩ with
   | some (.normal,st)=>match lP st F.rets with
    | some vs=>some (kB vs,st.heap)
    | none=>none
   | some (.ret,st)=>match lP st F.rets with
    | some vs=>some (kB vs,st.heap)
    | none=>none
   | _=>none
section
structure dA where
 w:World
 X:Nat->Prop
 β:Nat->Option Nat
 H:aW
def lE(c:dA)(b:Nat): Prop:=¬c.X b/\∀id,c.β id≠some b
def bM(es:List<|List AV)(i j:Nat): Option AV:=(es[i]?).bind λe=>e[j]?
def shp(H:aW)(id:Nat): Option<|Nat×Nat:=
 match H[id]? with
 | some (.blk s es)=>some (s,es.length)
 | _=>none
def aRJ: dI->Prop
 | .blk _ _=>False
 | _=>True
def Cn(H:aW)(id:Nat): Prop:=∃o,H[id]?=some o/\aRJ o
def Yng(es:Array MapEntry)(a:Nat): Prop:=(∀e∈es.toList,e.born<a)/\(es.toList.map (·.born)).Nodup
inductive RP(w:World)(I:Nat->Prop): AV->Value->Prop
 | undef (v:Value):RP w I .undef v
 | lit (v:Value):RP w I (.lit v) v
 | nil (f:Bool) (a:Option Addr) (cap:Nat):(f=true->cap=0)->RP w I (.sl f []) (.slice a 0 cap)
 | sl (f:Bool) (es:List (List AV)) (b off cap:Nat) (c:Array Value) (T:TypeId) (fz:Nat×Nat) (s:Nat) (vals:Nat->Nat->Value) :
  es≠[]->I b->w.heap[b]?=some (.cells c T fz)->(∀e∈es,e.length=s)->es.length<=cap->(f=true->cap=es.length)->
  (∀i j x,bM es i j=some x->c[off+(i*s+j)]?=some (vals i j)/\bF (vals i j)=true)->
  (∀i j x,bM es i j=some x->RP w I x (vals i j))->
  RP w I (.sl f es) (.slice (some ⟨b,off,none⟩) es.length cap)
 | sptr (cs:List AV) (b off:Nat) (cc:Array Value) (T:TypeId) (fz:Nat×Nat) (vals:Nat->Value) :
  I b->w.heap[b]?=some (.cells cc T fz)->
  (∀j x,cs[j]?=some x->cc[off+j]?=some (vals j)/\bF (vals j)=true)->
  (∀j x,cs[j]?=some x->RP w I x (vals j))->RP w I (.sptr cs) (.pointer (some ⟨b,off,none⟩))
 | rmp (ents:List (Value×AV)) (b:Nat) (es:Array MapEntry) (clk:Nat) (vals:Nat->MapEntry) :
  I b->w.heap[b]?=some (.map es clk)->es.size=ents.length->Yng es clk->
  (∀i k x,ents[i]?=some (k,x)->es[i]?=some (vals i)/\(vals i).key=k)->
  (∀i k x,ents[i]?=some (k,x)->RP w I x (vals i).val)->RP w I (.rmp ents) (.map (some b))
variable {FT:Nat->Option Nat}{I:Nat->Prop}{a:dA}{b:Nat}{c c':dA}{fl:Nat}{o:Obj}{v:Value}{w:World}{x:AV}
theorem RP.mono{w':World}{I':Nat->Prop}(h:∀b o,I b->w.heap[b]?=some o->I' b/\w'.heap[b]?=some o)(B:RP w I x v): RP w' I' x v:=by
 induction B with
 | undef v=>exact .undef v
 | lit v=>exact .lit v
 | nil f a cap t=>exact .nil f a cap t
 | sl f es b off cap c T r s d q m i k n t p _ j=>
  let⟨g,e⟩:=h b _ m i;exact .sl f es b off cap c T r s d q g e k n t p j
 | sptr cs b off cc T r d m i p _ j=>
  let⟨g,e⟩:=h b _ m i;exact .sptr cs b off cc T r d g e p j
 | rmp l b es u d m i D A p _ j=>
  let⟨g,e⟩:=h b _ m i;exact .rmp l b es u d g e D A p j
theorem aBZ(v:Value): RP w I (sK v) v:=by
 unfold sK;split
 .split
  .split
   .split
    .exact .nil false none 0<|by simp
    .exact .lit _
   .exact .lit _
  .exact .lit _
 .exact .lit _
theorem aBY[aF](h:RP w I x v): RP w I (nrm x) v:=by
 cases h with
 | undef v=>exact .undef v
 | lit v=>exact aBZ v
 | nil f a cap z=>exact .nil false a cap<|by simp
 | sl f es b off cap c T n s d e g i j l o r u=>exact .sl false es b off cap c T n s d e g i j l (by simp) r u
 | sptr cs b off cc T n d e g i j=>exact .sptr cs b off cc T n d e g i j
 | rmp k b es m d e g i j l o=>exact .rmp k b es m d e g i j l o
def aNd(c:dA)(id tot off len:Nat)(a:Option Addr)(cap s:Nat): Prop:=
 off+len<=tot /\
 ((c.β id=none/\tot=0/\a=none/\cap=0) \/
  ∃b cs T a',c.β id=some b/\c.w.heap[b]?=some (.cells cs T (0,0))/\(off+cap)*s=cs.size/\a=some a' /\
   (cap≠0->a'=⟨b,off*s,none⟩))
def Vis(c:dA)(b:Nat): Prop:=∀id,c.β id≠some b
inductive RV(FT:Nat->Option Nat)(c:dA): AV->Value->Prop
 | pure (x:AV) (v:Value):RP c.w (lE c) x v->RV FT c x v
 | ms (id tot off len:Nat) (a:Option Addr) (cap s n:Nat):shp c.H id=some (s,n)->tot<=n->len<=cap->
  (tot=n->aNd c id tot off len a cap s)->RV FT c (.ms id tot off len) (.slice a len cap)
 | ptr (id tot idx off:Nat) (a:Addr) (s n:Nat):shp c.H id=some (s,n)->tot<=n->
  (tot=n->∃b,c.β id=some b/\a=⟨b,idx*s+off,none⟩)->RV FT c (.ptr id tot idx off) (.pointer (some a))
 | rptr (cs:List AV) (b off:Nat) (cc:Array Value) (T:TypeId) (fz:Nat×Nat) (vals:Nat->Value) :
  Vis c b->c.w.heap[b]?=some (.cells cc T fz)->
  (∀j x,cs[j]?=some x->cc[off+j]?=some (vals j)/\bF (vals j)=true)->
  (∀j x,cs[j]?=some x->RP c.w (lE c) x (vals j))->RV FT c (.rptr cs) (.pointer (some ⟨b,off,none⟩))
 | vnil (a:Option Addr) (cap:Nat):RV FT c (.vw []) (.slice a 0 cap)
 | vw (es:List (List AV)) (b off cap:Nat) (cc:Array Value) (T:TypeId) (fz:Nat×Nat) (s:Nat) (vals:Nat->Nat->Value) :
  es≠[]->Vis c b->c.w.heap[b]?=some (.cells cc T fz)->(∀e∈es,e.length=s)->es.length<=cap->
  (∀i j x,bM es i j=some x->cc[off+(i*s+j)]?=some (vals i j)/\bF (vals i j)=true)->
  (∀i j x,bM es i j=some x->RP c.w (lE c) x (vals i j))->RV FT c (.vw es) (.slice (some ⟨b,off,none⟩) es.length cap)
 | mp (id b:Nat):Cn c.H id->c.β id=some b->RV FT c (.mp id) (.map (some b))
 | it (id b:Nat):Cn c.H id->c.β id=some b->RV FT c (.it id) (.pointer (some ⟨b,0,none⟩))
 | fn (vi f:Nat) (caps:List AV) (cv:Array Value) (vals:Nat->Value):FT vi=some f->cv.size=caps.length->
  (∀i x,caps[i]?=some x->cv[i]?=some (vals i))->(∀i x,caps[i]?=some x->RV FT c x (vals i))->
  RV FT c (.fn vi caps) (.func (.func f) #[] cv)
 | agg (cs:List AV) (cv:Array Value) (vals:Nat->Value):cv.size=cs.length->
  (∀i x,cs[i]?=some x->cv[i]?=some (vals i)/\bF (vals i)=true)->
  (∀i x,cs[i]?=some x->RV FT c x (vals i))->RV FT c (.agg cs) (.agg cv)
 | tup (cs:List AV) (cv:Array Value) (vals:Nat->Value):cv.size=cs.length->
  (∀i x,cs[i]?=some x->cv[i]?=some (vals i))->
  (∀i x,cs[i]?=some x->RV FT c x (vals i))->RV FT c (.tup cs) (.tuple cv)
structure bW(fl:Nat)(c c':dA): Prop where
 X:c'.X=c.X
 os:c'.w.os=c.w.os
 tape:c'.w.tape=c.w.tape
 output:c'.w.output=c.w.output
 drawn:c.w.drawn<=c'.w.drawn
 size:c.w.heap.size<=c'.w.heap.size
 len:c.H.length<=c'.H.length
 frame:∀k,k<c.w.heap.size->(∀id,c.β id≠some k)->c'.w.heap[k]?=c.w.heap[k]?
 img:∀id b,c'.β id=some b->c.w.heap.size<=b\/∃i,c.β i=some b
 blkS:∀id s n,shp c.H id=some (s,n)->∃n',shp c'.H id=some (s,n')/\n<=n' /\
  (n=n'->c'.β id=c.β id/\∀b cs T,c.β id=some b->c.w.heap[b]?=some (.cells cs T (0,0))->
   ∃cs',c'.w.heap[b]?=some (.cells cs' T (0,0))/\cs'.size=cs.size)
 mpS:∀id,Cn c.H id->Cn c'.H id/\c'.β id=c.β id
 floor:∀id,id<fl->c'.H[id]?=c.H[id]?/\c'.β id=c.β id/\∀b,c.β id=some b->c'.w.heap[b]?=c.w.heap[b]?
theorem bW.refl(fl:Nat)(c:dA): bW fl c c where
 X:=rfl;os:=rfl;tape:=rfl;output:=rfl;drawn:=Zf _;size:=Zf _;len:=Zf _;frame:=λ_ _ _=>rfl;img:=λi _ h=>.inr ⟨i,h⟩;blkS:=λ_ _ n h=>⟨n,h,Zf _,λ_=>⟨rfl,λ_ cs _ _ j=>⟨cs,j,rfl⟩⟩⟩;mpS:=λ_ h=>⟨h,rfl⟩;floor:=λ_ _=>⟨rfl,rfl,λ_ _=>rfl⟩
theorem bW.trans{b:dA}(h:bW fl a b)(k:bW fl b c): bW fl a c where
 X:=k.X.trans h.X;os:=k.os.trans h.os;tape:=k.tape.trans h.tape;output:=k.output.trans h.output;drawn:=ZB h.drawn k.drawn;size:=ZB h.size k.size;len:=ZB h.len k.len;frame:=λi K L=>(k.frame i (YM K h.size) (λid d=>by
  rcases h.img id i d with g | ⟨j,g⟩
  .omega
  .exact L j g)).trans<|h.frame i K L
 img:=λid x f=>by
  rcases k.img id x f with g | ⟨j,g⟩
  .exact .inl<|ZB h.size g
  .exact h.img j x g
 blkS:=λid s n S=>by
  let⟨B,C,A,E⟩:=h.blkS id s n S;let⟨t,v,p,m⟩:=k.blkS id s B C;refine⟨t,v,ZB A p,λe=>?_⟩;have V:n=B:=by omega
  have e2:B=t:=by omega
  let⟨o,I⟩:=E V;let⟨G,y⟩:=m e2;refine⟨G.trans o,λx cs T f z=>?_⟩;let⟨cs',r,l⟩:=I x cs T f z;let⟨u,q,H⟩:=y x cs' T (o.trans f) r;exact⟨u,q,H.trans l⟩
 mpS:=λid R=>by
  let⟨r,l⟩:=h.mpS id R;let⟨q,H⟩:=k.mpS id r;exact⟨q,H.trans l⟩
 floor:=λid d=>by
  let⟨r,l,q⟩:=h.floor id d;let⟨Y,Q,U⟩:=k.floor id d;exact⟨Y.trans r,Q.trans l,λx f=>(U x<|l.trans f).trans<|q x f⟩
theorem bW.mono{c:Nat}{b:dA}(h:bW fl a b)(f:c<=fl): bW c a b:=
 { h with floor:=λid d=>h.floor id (YM d f) }
theorem bW.imm(h:bW fl c c')(e:lE c b)(d:c.w.heap[b]?=some o):
 lE c' b/\c'.w.heap[b]?=some o:=by
 have a:b<c.w.heap.size:=by
  rcases ZI b c.w.heap.size with h | h
  .exact h
  .rw[Yb h] at d;cases d
 refine⟨⟨by rw[h.X];exact e.1,λid f=>?_⟩,by rw[h.frame b a e.2];exact d⟩;rcases h.img id b f with g | ⟨j,g⟩
 .omega
 .exact e.2 j g
theorem bW.vis(h:bW fl c c')(f:Vis c b)(e:c.w.heap[b]?=some o): Vis c' b/\c'.w.heap[b]?=some o:=by
 have a:b<c.w.heap.size:=by
  rcases ZI b c.w.heap.size with h | h
  .exact h
  .rw[Yb h] at e;cases e
 refine⟨λid d=>?_,by rw[h.frame b a f];exact e⟩;rcases h.img id b d with g | ⟨j,g⟩
 .omega
 .exact f j g
theorem lE.vis(h:lE c b): Vis c b:=h.2
theorem aNd.step(h:bW fl c c'){id tot off len cap s:Nat}{a:Option Addr}(r:shp c.H id=some (s,tot))(i:shp c'.H id=some (s,tot))(f:aNd c id tot off len a cap s): aNd c' id tot off len a cap s:=by
 let⟨t,n,w,p⟩:=h.blkS id s tot r;have e:tot=t:=by rw[i] at n;simpa using n
 let⟨m,q⟩:=p e;let⟨u,f⟩:=f;refine⟨u,?_⟩;rcases f with⟨d,k,l,j⟩ | ⟨b,cs,T,a',d,k,l,j,v⟩
 .exact .inl ⟨m.trans d,k,l,j⟩
 .let⟨cs',o,g⟩:=q b cs T d k;exact .inr ⟨b,cs',T,a',m.trans d,o,by rw[g];exact l,j,v⟩
theorem RV.step[aF](h:bW fl c c')(N:RV FT c x v): RV FT c' x v:=by
 induction N with
 | pure x v z=>exact .pure x v<|z.mono λb o m g=>h.imm m g
 | ms id tot off len a cap s n k G S q=>
  let⟨F,p,r,J⟩:=h.blkS id s n k;refine .ms id tot off len a cap s F p (ZB G r) S λe=>?_;have H:tot=n:=by omega
  subst H;exact (q rfl).step h k<|by rw[p,e]
 | ptr id tot C off a s n k G q=>
  let⟨F,p,r,J⟩:=h.blkS id s n k;refine .ptr id tot C off a s F p (ZB G r) λe=>?_;have H:tot=n:=by omega
  let⟨b,g,Q⟩:=q H;exact⟨b,((J<|by omega).1).trans g,Q⟩
 | rptr cs b off cc T B d m g l z=>
  let⟨t,u⟩:=h.vis m g;exact .rptr cs b off cc T B d t u l λj x E=>(z j x E).mono λb o m g=>h.imm m g
 | vnil a cap=>exact .vnil a cap
 | vw es b off cap cc T B s d D m g y A l z=>
  let⟨t,u⟩:=h.vis m g;exact .vw es b off cap cc T B s d D t u y A l λi j x E=>(z i j x E).mono λb o m g=>h.imm m g
 | mp id b q g=>
  let⟨p,r⟩:=h.mpS id q;exact .mp id b p<|r.trans g
 | it id b q g=>
  let⟨p,r⟩:=h.mpS id q;exact .it id b p<|r.trans g
 | fn vi f caps cv d R k l _ w=>exact .fn vi f caps cv d R k l w
 | agg cs cv d k l _ w=>exact .agg cs cv d k l w
 | tup cs cv d k l _ w=>exact .tup cs cv d k l w
def tU[aF](c:dA): Prop:=∀g cs,aF.tab g=some cs->∃(cc:Array Value) (T:TypeId) (b:Nat×Nat) (a:Nat->Value),lE c g/\c.w.heap[g]?=some (.cells cc T b)/\aF.ok g cc /\
 (∀j x,cs[j]?=some x->cc[0+j]?=some (a j)/\bF (a j)=true)/\∀j x,cs[j]?=some x->RP c.w (lE c) x (a j)
theorem tU.step[aF](i:tU c)(h:bW fl c c'): tU c':=by
 intro g cs d;let⟨cc,T,m,a,r,q,k,n,t⟩:=i g cs d;let⟨f,e⟩:=h.imm r q;exact⟨cc,T,m,a,f,e,k,n,λj x p=>(t j x p).mono λb o s l=>h.imm s l⟩
theorem tU.rv[aF](d:tU c){g:Nat}{cs:List AV}(h:aF.tab g=some cs): RV FT c (.rptr cs)<|.pointer<|some ⟨g,0,none⟩:=by
 let⟨cc,T,f,a,j,e,_,i,b⟩:=d g cs h;exact .rptr cs g 0 cc T f a j.vis e i b
def aQF(es:Array MapEntry)(a n:Nat): Prop:=es.size=n/\Yng es a
structure bX[aF](FT:Nat->Option Nat)(c:dA): Prop where
 gl:tU c
 inj:∀(i j b:Nat),c.β i=some b->c.β j=some b->i=j
 dom:∀(id b:Nat),c.β id=some b->id<c.H.length
 nx:∀(id b:Nat),c.β id=some b->¬c.X b
 fresh:∀k:Nat,c.w.heap.size<=k->¬c.X k
 lens:∀(id s:Nat) (es:List (List AV)),c.H[id]?=some (.blk s es)->∀e∈es,e.length=s
 blk:∀(id s:Nat) (es:List (List AV)) (b:Nat),c.H[id]?=some (.blk s es)->c.β id=some b->∃cs T,c.w.heap[b]?=some (.cells cs T (0,0))/\es.length*s<=cs.size /\
  ∀i j x,bM es i j=some x->∃v,cs[i*s+j]?=some v/\bF v=true/\RV FT c x v
 map:∀(id:Nat) (ents:List (Value×AV)) (b:Nat),c.H[id]?=some (.mp ents)->c.β id=some b->∃(es:Array MapEntry) (clk:Nat),c.w.heap[b]?=some (.map es clk)/\aQF es clk ents.length /\
  ∀(i:Nat) (k:Value) (x:AV),ents[i]?=some (k,x)->∃e,es[i]?=some e/\e.key=k/\RV FT c x e.val
 raw:∀(id:Nat) (ob:Obj) (b:Nat),c.H[id]?=some (.raw ob)->c.β id=some b->c.w.heap[b]?=some ob
def TR(FT:Nat->Option Nat)(c:dA)(tm:List AV)(tv:Array Value): Prop:=
 tm.length=tv.size/\∀(t:Nat) (x:AV),tm[t]?=some x->∃v,tv[t]?=some v/\RV FT c x v
theorem TR.step[aF](h:bW fl c c'){tm:List AV}{tv:Array Value}(a:TR FT c tm tv): TR FT c' tm tv:=
 ⟨a.1,λt x e=>let ⟨v,b,d⟩:=a.2 t x e;⟨v,b,d.step h⟩⟩
theorem RV.lit_inv{u:Value}(h:RV FT c (.lit u) v): v=u:=by
 cases h with
 | pure _ _ b=>cases b;rfl
theorem RV.lit(u:Value): RV FT c (.lit u) u:=.pure _ _<|.lit u
theorem RV.undef(u:Value): RV FT c .undef u:=.pure _ _<|.undef u
end
section
variable {FT:Nat->Option Nat}{H:aW}{T:TypeId}{α:Type}{a:α}{b:Nat}{c:dA}{cs cs':Array Value}{ents':List<|Value×AV}{es es':List<|List AV}{fl i id:Nat}{l:List α}{o:dI}{ob q q':Obj}{s:Nat}{w':World}
def upd(β:Nat->Option Nat)(id b:Nat): Nat->Option Nat:=λi=>if i=id then some b else β i
theorem dF(β:Nat->Option Nat)(id b:Nat): upd β id b id=some b:=by simp[upd]
theorem bR{β:Nat->Option Nat}(h:i≠id): upd β id b i=β i:=by simp[upd,h]
structure Ei(w w':World): Prop where
 heap:w'.heap=w.heap
 os:w'.os=w.os
 tape:w'.tape=w.tape
 output:w'.output=w.output
 drawn:w.drawn<=w'.drawn
theorem Ei.refl(w:World): Ei w w:=⟨rfl,rfl,rfl,rfl,Zf _⟩
theorem xW(h:Ei c.w w'): bW fl c ⟨w',c.X,c.β,c.H⟩ where
 X:=rfl;os:=h.os;tape:=h.tape;output:=h.output;drawn:=h.drawn;size:=by simp[h.heap]
 len:=Zf _;frame:=λk _ _=>by simp[h.heap]
 img:=λi _ d=>.inr ⟨i,d⟩;blkS:=λ_ _ n o=>⟨n,o,Zf _,λ_=>⟨rfl,λ_ cs _ _ d=>⟨cs,by simpa [h.heap] using d,rfl⟩⟩⟩;mpS:=λ_ l=>⟨l,rfl⟩;floor:=λ_ _=>⟨rfl,rfl,λ_ _=>by simp[h.heap]⟩
theorem bX.drawn[aF](a:bX FT c)(h:Ei c.w w'): bX FT ⟨w',c.X,c.β,c.H⟩ where
 gl:=a.gl.step<|xW (fl:=0) h;inj:=a.inj;dom:=a.dom;nx:=a.nx;fresh:=λk A=>a.fresh k (by simpa [h.heap] using A);lens:=a.lens;blk:=λid s es b g f=>by
  let⟨cs,T,n,p,t⟩:=a.blk id s es b g f;exact⟨cs,T,by simpa [h.heap] using n,p,λi j x u=>let ⟨v,q,o,r⟩:=t i j x u;⟨v,q,o,r.step<|xW (fl:=0) h⟩⟩
 map:=λid d b g f=>by
  let⟨es,l,n,p,t⟩:=a.map id d b g f;exact⟨es,l,by simpa [h.heap] using n,p,λi k x u=>let ⟨e,q,o,r⟩:=t i k x u;⟨e,q,o,r.step<|xW (fl:=0) h⟩⟩
 raw:=λid ob b g f=>by simpa [h.heap] using a.raw id ob b g f
theorem CW{r:Nat×Nat}(h:shp H id=some r): shp (H++[o]) id=some r:=by
 have a:id<H.length:=by
  rcases ZI id H.length with b | b
  .grind
  .simp[shp,Zy b] at h
 simpa [shp,Zo a] using h
theorem Ky(h:Cn H id): Cn (H++[o]) id:=by
 let⟨a,he,c⟩:=h;have b:id<H.length:=by
  grind
 exact⟨a,by simpa [Zo b] using he,c⟩
theorem Oi[aF](C:fl<=c.H.length)(j:w'.heap=c.w.heap.push ob)(v:w'.os=c.w.os)(y:w'.tape=c.w.tape)(B:w'.output=c.w.output)(h:∀id b,c.β id=some b->b<c.w.heap.size)(A:c.w.drawn<=w'.drawn:=by first | exact Zf _ | exact Ys _ | exact ZY _ _ | assumption):
 bW fl c ⟨w',c.X,upd c.β c.H.length c.w.heap.size,c.H++[o]⟩ where
 X:=rfl;os:=v;tape:=y;output:=B;drawn:=A;size:=by simp[j]
 len:=by simp
 frame:=λk E _=>by simp only[j,ZU];rw[ZF<|by omega]
 img:=λid b d=>by
  by_cases e:id=c.H.length
  .subst e;simp only[dF] at d;cases d;exact .inl<|Zf _
  .simp only[bR e] at d;exact .inr ⟨_,d⟩
 blkS:=λid s n r=>⟨n,CW r,Zf _,λ_=>by
  have a:id≠c.H.length:=by
   intro e;subst e;simp[shp] at r
  refine⟨bR a,λb cs T d m=>⟨cs,?_,rfl⟩⟩;have:=h id b d;simp only[j,ZU];rw[ZF<|by omega];exact m⟩
 mpS:=λid q=>⟨Ky q,by
  have a:id≠c.H.length:=by
   intro e;subst e;let⟨_,he,_⟩:=q;simp at he
  exact bR a⟩
 floor:=λid x=>by
  have a:id≠c.H.length:=by omega
  refine⟨Zo<|by omega,bR a,λb d=>?_⟩;grind
theorem bX.lt[aF](d:bX FT c)(h:c.β id=some b): b<c.w.heap.size:=by
 have g:=d.dom id b h;cases e:c.H[id]? with
 | none=>grind
 | some o=>
  cases o with
  | blk s es=>
   let⟨cs,T,f,_⟩:=d.blk id s es b e h;grind
  | mp a=>
   let⟨es,i,f,_⟩:=d.map id a b e h;grind
  | raw ob=>
   have f:=d.raw id ob b e h;grind
theorem j7[aF](h:bX FT c)(I:w'.heap=c.w.heap.push ob)(L:w'.os=c.w.os)(O:w'.tape=c.w.tape)(N:w'.output=c.w.output)(U:∀s es,o=.blk s es->∀e∈es,e.length=s)(R:∀s es,o=.blk s es->∃cs T,ob=.cells cs T (0,0)/\es.length*s<=cs.size /\
  ∀i j x,bM es i j=some x->∃v,cs[i*s+j]?=some v/\bF v=true/\RV FT c x v)(M:∀g,o=.mp g->g=[]/\∃n,ob=.map #[] n)(K:∀q,o=.raw q->ob=q)(V:c.w.drawn<=w'.drawn:=by first | exact Zf _ | exact Ys _ | exact ZY _ _ | assumption):
 bX FT ⟨w',c.X,upd c.β c.H.length c.w.heap.size,c.H++[o]⟩:=by
 have p:=Oi (fl:=0) (o:=o) (ZG _) I L O N λid b f=>h.lt f;have m:w'.heap[c.w.heap.size]?=some ob:=by simp[I]
 refine⟨h.gl.step p,?_,?_,?_,λk S=>h.fresh k<|by simp only[I,Xu] at S;omega,?_,?_,?_,?_⟩
 .intro i j b B y;by_cases J:i=c.H.length
  .by_cases G:j=c.H.length
   .grind
   .subst J;simp only[dF] at B;simp only[bR G] at y;cases B;have:=h.lt y;omega
  .simp only[bR J] at B;by_cases G:j=c.H.length
   .subst G;simp only[dF] at y;cases y;have:=h.lt B;omega
   .simp only[bR G] at y;exact h.inj i j b B y
 .intro id b f;by_cases e:id=c.H.length
  .simp[e]
  .simp only[bR e] at f;have:=h.dom id b f;simp only[Zh,Yd];omega
 .intro id b f;by_cases e:id=c.H.length
  .subst e;simp only[dF] at f;cases f;exact h.fresh _<|Zf _
  .simp only[bR e] at f;exact h.nx id b f
 .intro id s es d;simp only at d;rw[Yk] at d;split at d
  .exact h.lens id s es d
  .grind
 .intro id s es b d f;simp only at d f |-;by_cases e:id=c.H.length
  .subst e;simp only[dF] at f;cases f;have C:o=.blk s es:=by simpa using d
   let⟨cs,T,t,r,D⟩:=R s es C;refine⟨cs,T,by rw[m,t],r,λi j x u=>?_⟩;let⟨v,E,z,F⟩:=D i j x u;exact⟨v,E,z,F.step p⟩
  .simp only[bR e] at f;have l:=h.dom id b f;rw[Zo l] at d;let⟨cs,T,t,r,D⟩:=h.blk id s es b d f;have A:=h.lt f;refine⟨cs,T,?_,r,λi j x u=>?_⟩
   .grind
   .let⟨v,E,z,F⟩:=D i j x u;exact⟨v,E,z,F.step p⟩
 .intro id g b d f;simp only at d f |-;by_cases e:id=c.H.length
  .subst e;simp only[dF] at f;cases f;have C:o=.mp g:=by simpa using d
   let⟨t,n,r⟩:=M g C;subst t;exact⟨#[],n,by rw[m,r],⟨rfl,(λe he=>by cases he),by simp⟩,λi k x u=>by simp at u⟩
  .simp only[bR e] at f;have l:=h.dom id b f;rw[Zo l] at d;let⟨es,n,t,r,D⟩:=h.map id g b d f;have A:=h.lt f;refine⟨es,n,?_,r,λi k x u=>?_⟩
   .grind
   .let⟨Q,E,z,F⟩:=D i k x u;exact⟨Q,E,z,F.step p⟩
 .intro id q b d f;simp only at d f |-;by_cases e:id=c.H.length
  .subst e;simp only[dF] at f;cases f;have C:o=.raw q:=by simpa using d
   rw[m,K q C]
  .simp only[bR e] at f;have l:=h.dom id b f;rw[Zo l] at d;have t:=h.raw id q b d f;have A:=h.lt f;simp only[I,ZU];rw[ZF<|by omega];exact t
theorem aAr[aF](o:bX FT c)(d:w'.heap=c.w.heap.push ob)(q:w'.os=c.w.os)(r:w'.tape=c.w.tape)(u:w'.output=c.w.output)(y:c.w.drawn<=w'.drawn:=by first | exact Zf _ | exact Ys _ | exact ZY _ _ | assumption):
 bW fl c ⟨w',c.X,c.β,c.H⟩ where
 X:=rfl;os:=q;tape:=r;output:=u;drawn:=y;size:=by simp[d]
 len:=Zf _;frame:=λk A _=>by simp only[d,ZU];rw[ZF<|by omega]
 img:=λi _ a=>.inr ⟨i,a⟩;blkS:=λid s n f=>⟨n,f,Zf _,λ_=>⟨rfl,λb cs T a l=>⟨cs,by
  have:=o.lt a;simp only[d,ZU];rw[ZF<|by omega];exact l,rfl⟩⟩⟩
 mpS:=λid v=>⟨v,rfl⟩;floor:=λid t=>⟨rfl,rfl,λb a=>by
  have:=o.lt a;simp only[d,ZU];rw[ZF<|by omega]⟩
theorem aKI[aF](a:bX FT c)(p:w'.heap=c.w.heap.push ob)(y:w'.os=c.w.os)(z:w'.tape=c.w.tape)(B:w'.output=c.w.output)(C:c.w.drawn<=w'.drawn:=by first | exact Zf _ | exact Ys _ | exact ZY _ _ | assumption):
 bX FT ⟨w',c.X,c.β,c.H⟩:=by
 have f:=aAr (fl:=0) a p y z B;refine⟨a.gl.step f,a.inj,a.dom,a.nx,λk A=>a.fresh k<|by simp only[p,Xu] at A;omega,a.lens,?_,?_,λid q b d g=>by
  have o:=a.raw id q b d g;have:=a.lt g;simp only[p,ZU];rw[ZF<|by omega];exact o⟩
 .intro id s' es b d g;let⟨cs,T,o,n,t⟩:=a.blk id s' es b d g;refine⟨cs,T,?_,n,λi j x s=>let ⟨v,m,r,u⟩:=t i j x s;⟨v,m,r,u.step f⟩⟩;grind
 .intro id h b d g;let⟨es,l,o,n,t⟩:=a.map id h b d g;refine⟨es,l,?_,n,λi k x s=>let ⟨e,m,r,u⟩:=t i k x s;⟨e,m,r,u.step f⟩⟩;grind
theorem Jv[aF](m:fl<=c.H.length): bW fl c ⟨c.w,c.X,c.β,c.H++[.blk s []]⟩ where
 X:=rfl;os:=rfl;tape:=rfl;output:=rfl;drawn:=Zf _;size:=Zf _;len:=by simp
 frame:=λ_ _ _=>rfl;img:=λi _ l=>.inr ⟨i,l⟩;blkS:=λid s n r=>⟨n,CW r,Zf _,λ_=>⟨rfl,λb cs T _ e=>⟨cs,e,rfl⟩⟩⟩;mpS:=λid p=>⟨Ky p,rfl⟩;floor:=λid k=>⟨Zo<|by omega,rfl,λ_ _=>rfl⟩
theorem NF[aF](d:bX FT c): bX FT ⟨c.w,c.X,c.β,c.H++[.blk s []]⟩:=by
 have h:=Jv (c:=c) (s:=s)<|ZG _;refine⟨d.gl.step h,d.inj,?_,d.nx,d.fresh,?_,?_,?_,λid q b a g=>by
  have f:=d.dom id b g;rw[Zo f] at a;exact d.raw id q b a g⟩
 .intro id b g;have:=d.dom id b g;simp;omega
 .intro id s' es a;rw[Yk] at a;split at a
  .exact d.lens id s' es a
  .grind
 .intro id s' es b a g;have f:=d.dom id b g;rw[Zo f] at a;let⟨cs,T,o,y,r⟩:=d.blk id s' es b a g;exact⟨cs,T,o,y,λi j x t=>let ⟨v,n,p,u⟩:=r i j x t;⟨v,n,p,u.step h⟩⟩
 .intro id l b a g;have f:=d.dom id b g;rw[Zo f] at a;let⟨es,m,o,y,r⟩:=d.map id l b a g;exact⟨es,m,o,y,λi k x t=>let ⟨e,n,p,u⟩:=r i k x t;⟨e,n,p,u.step h⟩⟩
theorem getElem?_set_ne'{j:Nat}(h:j≠i): (l.set i a)[j]?=l[j]?:=by grind
theorem getElem?_set_eq'{b:α}(h:l[i]?=some b): (l.set i a)[i]?=some a:=by grind
theorem tN[aF]{s':Nat}(h:H[id]?=some (.blk s es))(i:Nat):
 shp (H.set id<|.blk s' es') i=if i=id then some (s',es'.length) else shp H i:=by
 by_cases e:i=id
 .subst e;simp[shp,getElem?_set_eq' h]
 .simp[shp,getElem?_set_ne' e,e]
theorem mU[aF](J:bX FT c)(F:fl<=id)(l:c.H[id]?=some (.blk s es))(u:c.β id=some b)(z:c.w.heap[b]?=some (.cells cs T (0,0)))(v:es.length<=es'.length)(G:cs'.size=cs.size)(R:w'.heap[b]?=some (.cells cs' T (0,0)))(r:∀k,k≠b->w'.heap[k]?=c.w.heap[k]?)(C:w'.heap.size=c.w.heap.size)(B:w'.os=c.w.os)(M:w'.tape=c.w.tape)(L:w'.output=c.w.output)(I:c.w.drawn<=w'.drawn:=by first | exact Zf _ | exact Ys _ | exact ZY _ _ | assumption):
 bW fl c ⟨w',c.X,c.β,c.H.set id<|.blk s es'⟩ where
 X:=rfl;os:=B;tape:=M;output:=L;drawn:=I;size:=by simp[C]
 len:=by simp
 frame:=λk _ A=>r k λe=>A id (by rw[e];exact u);img:=λi _ h=>.inr ⟨i,h⟩;blkS:=λi s' n a=>by
  have D:=tN (s':=s) (es':=es') l i;by_cases e:i=id
  .subst e;have N:s'=s/\n=es.length:=by
    simp only[shp,l,Za,Zi] at a;exact⟨a.1.symm,a.2.symm⟩
   grind
  .grind
 mpS:=λi E=>⟨by
  let⟨f,he,g⟩:=E;have e:i≠id:=by intro e;subst e;rw[l] at he;cases he;exact g
  exact⟨f,by simpa [getElem?_set_ne' e] using he,g⟩,rfl⟩
 floor:=λi Q=>by
  have e:i≠id:=by omega
  exact⟨getElem?_set_ne' e,rfl,λb' m=>r b' λy=>e<|J.inj i id b (by rw[<-y];exact m) u⟩
theorem wZ[aF](l:bX FT c)(D:c.H[id]?=some (.blk s es))(p:c.β id=some b)(K:c.w.heap[b]?=some (.cells cs T (0,0)))(z:es.length<=es'.length)(F:cs'.size=cs.size)(M:w'.heap[b]?=some (.cells cs' T (0,0)))(E:∀k,k≠b->w'.heap[k]?=c.w.heap[k]?)(N:w'.heap.size=c.w.heap.size)(R:w'.os=c.w.os)(V:w'.tape=c.w.tape)(Q:w'.output=c.w.output)(Z:∀e∈es',e.length=s)(C:es'.length*s<=cs'.size)(S:∀i j x,bM es' i j=some x->∃v,cs'[i*s+j]?=some v/\bF v=true/\RV FT c x v)(Y:c.w.drawn<=w'.drawn:=by first | exact Zf _ | exact Ys _ | exact ZY _ _ | assumption):
 bX FT ⟨w',c.X,c.β,c.H.set id<|.blk s es'⟩:=by
 have n:=mU l (ZG _) D p K z F M E N R V Q;refine⟨l.gl.step n,l.inj,?_,l.nx,λk W=>l.fresh k<|by simpa [N] using W,?_,?_,?_,λi q b' f g=>by
  have e:i≠id:=by intro e;subst e;rw[getElem?_set_eq' D] at f;cases f
  rw[getElem?_set_ne' e] at f;have u:=l.raw i q b' f g;rw[E b' λo=>e<|l.inj i id b (by rw[<-o];exact g) p];exact u⟩
 .intro i b' g;have:=l.dom i b' g;simpa using this
 .intro i s' m f;by_cases e:i=id
  .grind
  .rw[getElem?_set_ne' e] at f;exact l.lens i s' m f
 .intro i s' m b' f g;by_cases e:i=id
  .subst e;rw[getElem?_set_eq' D] at f;cases f;rw[p] at g;cases g;exact⟨cs',T,M,C,λa d x y=>let ⟨v,r,B,A⟩:=S a d x y;⟨v,r,B,A.step n⟩⟩
  .rw[getElem?_set_ne' e] at f;let⟨L,U,u,J,I⟩:=l.blk i s' m b' f g;refine⟨L,U,?_,J,λa d x y=>let ⟨v,r,B,A⟩:=I a d x y;⟨v,r,B,A.step n⟩⟩;rw[E b' λo=>e<|l.inj i id b (by rw[<-o];exact g) p];exact u
 .intro i t b' f g;have e:i≠id:=by intro e;subst e;rw[getElem?_set_eq' D] at f;cases f
  rw[getElem?_set_ne' e] at f;let⟨m,G,u,J,I⟩:=l.map i t b' f g;refine⟨m,G,?_,J,λa k x y=>let ⟨O,r,B,A⟩:=I a k x y;⟨O,r,B,A.step n⟩⟩;rw[E b' λo=>e<|l.inj i id b (by rw[<-o];exact g) p];exact u
theorem Fw[aF](D:bX FT c)(E:fl<=id)(u:c.H[id]?=some (.blk s es))(v:es.length<es'.length)(m:w'.heap=c.w.heap.push ob)(F:w'.os=c.w.os)(z:w'.tape=c.w.tape)(G:w'.output=c.w.output)(C:c.w.drawn<=w'.drawn:=by first | exact Zf _ | exact Ys _ | exact ZY _ _ | assumption):
 bW fl c ⟨w',c.X,upd c.β id c.w.heap.size,c.H.set id<|.blk s es'⟩ where
 X:=rfl;os:=F;tape:=z;output:=G;drawn:=C;size:=by simp[m]
 len:=by simp
 frame:=λk L _=>by simp only[m,ZU];rw[ZF<|by omega]
 img:=λi b h=>by
  by_cases e:i=id
  .subst e;simp only[dF] at h;cases h;exact .inl<|Zf _
  .simp only[bR e] at h;exact .inr ⟨_,h⟩
 blkS:=λi s' n d=>by
  have o:=tN (s':=s) (es':=es') u i;by_cases e:i=id
  .subst e;have J:s'=s/\n=es.length:=by
    simp only[shp,u,Za,Zi] at d;exact⟨d.1.symm,d.2.symm⟩
   grind
  .refine⟨n,by rw[o,ZF e];exact d,Zf _,λ_=>⟨bR e,λb' r N g A=>⟨r,?_,rfl⟩⟩⟩;grind
 mpS:=λi B=>by
  let⟨f,he,j⟩:=B;have e:i≠id:=by intro e;subst e;rw[u] at he;cases he;exact j
  exact⟨⟨f,by simpa [getElem?_set_ne' e] using he,j⟩,bR e⟩
 floor:=λi M=>by
  have e:i≠id:=by omega
  refine⟨getElem?_set_ne' e,bR e,λb' g=>?_⟩;have:=D.lt g;simp only[m,ZU];rw[ZF<|by omega]
theorem HY[aF](l:bX FT c)(F:c.H[id]?=some (.blk s es))(C:es.length<es'.length)(p:w'.heap=c.w.heap.push (.cells cs' T (0,0)))(S:w'.os=c.w.os)(Q:w'.tape=c.w.tape)(V:w'.output=c.w.output)(Y:∀e∈es',e.length=s)(u:es'.length*s<=cs'.size)(O:∀i j x,bM es' i j=some x->∃v,cs'[i*s+j]?=some v/\bF v=true/\RV FT c x v)(W:c.w.drawn<=w'.drawn:=by first | exact Zf _ | exact Ys _ | exact ZY _ _ | assumption):
 bX FT ⟨w',c.X,upd c.β id c.w.heap.size,c.H.set id<|.blk s es'⟩:=by
 have n:=Fw (fl:=0) l (ZG _) F C p S Q V;refine⟨l.gl.step n,?_,?_,?_,λk R=>l.fresh k<|by simp only[p,Xu] at R;omega,?_,?_,?_,λi q b' g h=>by
  have e:i≠id:=by intro e;subst e;rw[getElem?_set_eq' F] at g;cases g
  rw[getElem?_set_ne' e] at g;simp only[bR e] at h;have y:=l.raw i q b' g h;have:=l.lt h;simp only[p,ZU];rw[ZF<|by omega];exact y⟩
 .intro i j b B o;by_cases M:i=id
  .by_cases G:j=id
   .grind
   .subst M;simp only[dF] at B;simp only[bR G] at o;cases B;have:=l.lt o;omega
  .simp only[bR M] at B;by_cases G:j=id
   .subst G;simp only[dF] at o;cases o;have:=l.lt B;omega
   .simp only[bR G] at o;exact l.inj i j b B o
 .intro i b' h;by_cases e:i=id
  .grind
  .simp only[bR e] at h;have:=l.dom i b' h;simpa using this
 .intro i b E;by_cases e:i=id
  .subst e;simp only[dF] at E;cases E;exact l.fresh _<|Zf _
  .simp only[bR e] at E;exact l.nx i b E
 .intro i s' m g;by_cases e:i=id
  .grind
  .rw[getElem?_set_ne' e] at g;exact l.lens i s' m g
 .intro i s' m b' g h;by_cases e:i=id
  .subst e;rw[getElem?_set_eq' F] at g;cases g;simp only[dF] at h;cases h;exact⟨cs',T,by simp[p],u,λa d x A=>let ⟨v,z,t,r⟩:=O a d x A;⟨v,z,t,r.step n⟩⟩
  .rw[getElem?_set_ne' e] at g;simp only[bR e] at h;let⟨I,U,y,J,L⟩:=l.blk i s' m b' g h;refine⟨I,U,?_,J,λa d x A=>let ⟨v,z,t,r⟩:=L a d x A;⟨v,z,t,r.step n⟩⟩;have:=l.lt h;simp only[p,ZU];rw[ZF<|by omega];exact y
 .intro i D b' g h;have e:i≠id:=by intro e;subst e;rw[getElem?_set_eq' F] at g;cases g
  rw[getElem?_set_ne' e] at g;simp only[bR e] at h;let⟨m,K,y,J,L⟩:=l.map i D b' g h;refine⟨m,K,?_,J,λa k x A=>let ⟨N,z,t,r⟩:=L a k x A;⟨N,z,t,r.step n⟩⟩;have:=l.lt h;simp only[p,ZU];rw[ZF<|by omega];exact y
theorem Oh[aF]{f:List<|Value×AV}(u:bX FT c)(A:fl<=id)(v:c.H[id]?=some (.mp f))(j:c.β id=some b)(t:w'.heap=c.w.heap.setIfInBounds b ob)(z:w'.os=c.w.os)(x:w'.tape=c.w.tape)(y:w'.output=c.w.output)(D:c.w.drawn<=w'.drawn:=by first | exact Zf _ | exact Ys _ | exact ZY _ _ | assumption):
 bW fl c ⟨w',c.X,c.β,c.H.set id<|.mp ents'⟩:=by
 have r:∀k,k≠b->w'.heap[k]?=c.w.heap[k]?:=λk q=>by
  rw[t,YB<|Ne.symm q]
 refine⟨rfl,z,x,y,D,by simp[t],by simp,λk _ q=>r k λe=>q id<|by rw[e];exact j,λi _ h=>.inr ⟨i,h⟩,?_,?_,?_⟩
 .intro i s n g;have e:i≠id:=by intro e;subst e;simp[shp,v] at g
  refine⟨n,by simpa [shp,getElem?_set_ne' e] using g,Zf _,λ_=>⟨rfl,λb' p F a l=>⟨p,?_,rfl⟩⟩⟩;exact (r b' λm=>e<|u.inj i id b (by rw[<-m];exact a) j).trans l
 .intro i C;refine⟨?_,rfl⟩;by_cases e:i=id
  .subst e;exact⟨.mp ents',getElem?_set_eq' v,trivial⟩
  .let⟨B,he,o⟩:=C;exact⟨B,by simpa [getElem?_set_ne' e] using he,o⟩
 .intro i E;have e:i≠id:=by omega
  exact⟨getElem?_set_ne' e,rfl,λb' a=>r b' λm=>e<|u.inj i id b (by rw[<-m];exact a) j⟩
theorem x7[aF]{r:List<|Value×AV}{es:Array MapEntry}{m:Nat}(h:bX FT c)(y:c.H[id]?=some (.mp r))(o:c.β id=some b)(C:w'.heap=c.w.heap.setIfInBounds b (.map es m))(R:w'.os=c.w.os)(Q:w'.tape=c.w.tape)(M:w'.output=c.w.output)(L:aQF es m ents'.length)(O:∀(i:Nat) (k:Value) (x:AV),ents'[i]?=some (k,x)->∃e,es[i]?=some e/\e.key=k/\RV FT c x e.val)(S:c.w.drawn<=w'.drawn:=by first | exact Zf _ | exact Ys _ | exact ZY _ _ | assumption):
 bX FT ⟨w',c.X,c.β,c.H.set id<|.mp ents'⟩:=by
 have l:=Oh (ents':=ents') h (ZG _) y o C R Q M;have J:∀k,k≠b->w'.heap[k]?=c.w.heap[k]?:=λk K=>by
  rw[C,YB<|Ne.symm K]
 have I:=h.lt o;refine⟨h.gl.step l,h.inj,?_,h.nx,λk K=>h.fresh k<|by simpa [C] using K,?_,?_,?_,λi q b' f g=>by
  have e:i≠id:=by intro e;subst e;rw[getElem?_set_eq' y] at f;cases f
  rw[getElem?_set_ne' e] at f;have z:=h.raw i q b' f g;rw[J b' λt=>e<|h.inj i id b (by rw[<-t];exact g) o];exact z⟩
 .intro i b' g;have:=h.dom i b' g;simpa using this
 .intro i s' j f;have e:i≠id:=by intro e;subst e;rw[getElem?_set_eq' y] at f;cases f
  rw[getElem?_set_ne' e] at f;exact h.lens i s' j f
 .intro i s' j b' f g;have e:i≠id:=by intro e;subst e;rw[getElem?_set_eq' y] at f;cases f
  rw[getElem?_set_ne' e] at f;let⟨G,N,z,E,F⟩:=h.blk i s' j b' f g;refine⟨G,N,?_,E,λa d x A=>let ⟨v,u,s,B⟩:=F a d x A;⟨v,u,s,B.step l⟩⟩;rw[J b' λt=>e<|h.inj i id b (by rw[<-t];exact g) o];exact z
 .intro i D b' f g;by_cases e:i=id
  .subst e;rw[getElem?_set_eq' y] at f;cases f;rw[o] at g;cases g;refine⟨es,m,by rw[C];simp[I],L,λa k x A=>let ⟨e,u,s,B⟩:=O a k x A;⟨e,u,s,B.step l⟩⟩
  .rw[getElem?_set_ne' e] at f;let⟨j,p,z,E,F⟩:=h.map i D b' f g;refine⟨j,p,?_,E,λa k x A=>let ⟨D,u,s,B⟩:=F a k x A;⟨D,u,s,B.step l⟩⟩;rw[J b' λt=>e<|h.inj i id b (by rw[<-t];exact g) o];exact z
theorem SO[aF](v:bX FT c)(A:fl<=id)(u:c.H[id]?=some (.raw q))(o:c.β id=some b)(t:w'.heap=c.w.heap.setIfInBounds b q')(D:w'.os=c.w.os)(x:w'.tape=c.w.tape)(C:w'.output=c.w.output)(y:c.w.drawn<=w'.drawn:=by first | exact Zf _ | exact Ys _ | exact ZY _ _ | assumption):
 bW fl c ⟨w',c.X,c.β,c.H.set id<|.raw q'⟩:=by
 have j:∀k,k≠b->w'.heap[k]?=c.w.heap[k]?:=λk r=>by
  rw[t,YB<|Ne.symm r]
 refine⟨rfl,D,x,C,y,by simp[t],by simp,λk _ r=>j k λe=>r id<|by rw[e];exact o,λi _ h=>.inr ⟨i,h⟩,?_,?_,?_⟩
 .intro i s n f;have e:i≠id:=by intro e;subst e;simp[shp,u] at f
  refine⟨n,by simpa [shp,getElem?_set_ne' e] using f,Zf _,λ_=>⟨rfl,λb' m F a g=>⟨m,?_,rfl⟩⟩⟩;exact (j b' λl=>e<|v.inj i id b (by rw[<-l];exact a) o).trans g
 .intro i z;refine⟨?_,rfl⟩;by_cases e:i=id
  .subst e;exact⟨.raw q',getElem?_set_eq' u,trivial⟩
  .let⟨B,he,p⟩:=z;exact⟨B,by simpa [getElem?_set_ne' e] using he,p⟩
 .intro i E;have e:i≠id:=by omega
  exact⟨getElem?_set_ne' e,rfl,λb' a=>j b' λl=>e<|v.inj i id b (by rw[<-l];exact a) o⟩
theorem aFH[aF](h:bX FT c)(s:c.H[id]?=some (.raw q))(o:c.β id=some b)(y:w'.heap=c.w.heap.setIfInBounds b q')(J:w'.os=c.w.os)(M:w'.tape=c.w.tape)(K:w'.output=c.w.output)(O:c.w.drawn<=w'.drawn:=by first | exact Zf _ | exact Ys _ | exact ZY _ _ | assumption):
 bX FT ⟨w',c.X,c.β,c.H.set id<|.raw q'⟩:=by
 have l:=SO h (ZG _) s o y J M K;have u:∀k,k≠b->w'.heap[k]?=c.w.heap[k]?:=λk E=>by
  rw[y,YB<|Ne.symm E]
 have I:=h.lt o;refine⟨h.gl.step l,h.inj,?_,h.nx,λk E=>h.fresh k<|by simpa [y] using E,?_,?_,?_,?_⟩
 .intro i b' g;have:=h.dom i b' g;simpa using this
 .intro i s' j f;have e:i≠id:=by intro e;subst e;rw[getElem?_set_eq' s] at f;cases f
  rw[getElem?_set_ne' e] at f;exact h.lens i s' j f
 .intro i s' j b' f g;have e:i≠id:=by intro e;subst e;rw[getElem?_set_eq' s] at f;cases f
  rw[getElem?_set_ne' e] at f;let⟨C,N,n,G,z⟩:=h.blk i s' j b' f g;refine⟨C,N,?_,G,λa d x F=>let ⟨v,D,A,t⟩:=z a d x F;⟨v,D,A,t.step l⟩⟩;rw[u b' λp=>e<|h.inj i id b (by rw[<-p];exact g) o];exact n
 .intro i B b' f g;have e:i≠id:=by intro e;subst e;rw[getElem?_set_eq' s] at f;cases f
  rw[getElem?_set_ne' e] at f;let⟨j,r,n,G,z⟩:=h.map i B b' f g;refine⟨j,r,?_,G,λa k x F=>let ⟨B,D,A,t⟩:=z a k x F;⟨B,D,A,t.step l⟩⟩;rw[u b' λp=>e<|h.inj i id b (by rw[<-p];exact g) o];exact n
 .intro i L b' f g;by_cases e:i=id
  .grind
  .rw[getElem?_set_ne' e] at f;have n:=h.raw i L b' f g;rw[u b' λp=>e<|h.inj i id b (by rw[<-p];exact g) o];exact n
end
section
def aJ(T:List cS)(vi:Nat): Option Nat:=match T[vi]? with | some F=>some F.fid | none=>none
def veq: Value->Value->Bool
 | .bool a,.bool b=>a==b
 | .int k a,.int k' b=>decide (k=k')&&decide (a=b)
 | .string a,.string b=>decide<|a.data=b.data
 | .slice none 0 0,.slice none 0 0=>true
 | .pointer none,.pointer none=>true
 | .map none,.map none=>true
 | .nilFunc,.nilFunc=>true
 | .nilIface,.nilIface=>true
 | _,_=>false
variable {a b:Value}
theorem aFA(h:veq a b=true): a=b:=by
 unfold veq at h;split at h
 .simp_all
 .simp only[Zd,Z4] at h;rw[h.1,h.2]
 .rename_i x y;simp only[Z4] at h;cases x;cases y;simp_all
 all_goals first | rfl | cases h
def aDn: List Value->List Value->Bool
 | [],[]=>true
 | a::r,b::s=>veq a b&&aDn r s
 | _,_=>false
theorem i5[aF]: ∀{a b:List Value},aDn a b=true->a=b
 | [],[],_=>rfl
 | a::r,b::s,h=>by
  simp only[aDn,Zd] at h;rw[aFA h.1,i5 h.2]
 | [],_::_,h=>by cases h
 | _::_,[],h=>by cases h
theorem aF9(h:veq a b=true): bF a=true:=by
 unfold veq at h;split at h<;>first | rfl | cases h
theorem Bn[aF]: ∀{a b:List Value},aDn a b=true->∀v∈a,bF v=true
 | [],[],_,v,c=>by cases c
 | a::r,b::s,h,v,c=>by
  simp only[aDn,Zd] at h;rcases ZN.1 c with rfl | c
  .exact aF9 h.1
  .exact Bn h.2 v c
 | [],_::_,h,_,_=>by cases h
 | _::_,[],h,_,_=>by cases h
section
variable (P:Program)(T:List cS)
def aP: bB->Operand->Bool
 | .tmp t,.tmp u=>t==u
 | .lit v,.const u=>veq v u
 | .agg vs,.const (.agg us)=>aDn vs us.toList
 | .fn vi,.func f=>aJ T vi==some f
 | .glob g,.global g'=>g==g'
 | _,_=>false
def eT: List bB->List Operand->Bool
 | [],[]=>true
 | a::r,b::s=>aP T a b&&eT r s
 | _,_=>false
def vJ: Option bB->Option Operand->Bool
 | none,none=>true
 | some a,some b=>aP T a b
 | _,_=>false
def lR(t:TypeId)(z:List Value): Bool:=
 match P.info? t with
 | some i=>match i.zero with
  | some v=>aDn z v.cells.toList
  | none=>false
 | none=>false
def dK(t:TypeId)(n:Nat): Bool:=
 match P.info? t with
 | some i=>i.size==n
 | none=>false
def tS(t:TypeId)(n:Nat): Bool:=
 match P.info? t with
 | some i=>i.bytes==n
 | none=>false
def Ed(t:TypeId)(b:Bool): Bool:=
 match P.underlying t with
 | some (.struct _)=>b
 | some (.array _ _)=>b
 | some _=>!b
 | none=>false
def Sf(place:Nat->Option (Nat×Nat)): List (Nat×Nat×bB)->List (Nat×Operand)->Bool
 | [],[]=>true
 | (o,s,x)::r,(i,y)::q=>place i==some (o,s)&&aP T x y&&Sf place r q
 | _,_=>false
def Si: List (Nat×bB)->List (Nat×Operand)->Bool
 | [],[]=>true
 | (i,x)::r,(j,y)::q=>i==j&&aP T x y&&Si r q
 | _,_=>false
def Tq(fs:Array Field)(i:Nat): Option<|Nat×Nat:=
 match fs[i]? with
 | some f=>match P.info? f.type with
  | some n=>some (f.offset,n.size)
  | none=>none
 | none=>none
def N0(fs:List Field): Bool:=fs.all λf=>(P.info? f.type).isSome
def cP(a:Jn)(o:Op): Bool:=
 match a with
 | .mov x=>(match o with
  | .move y=>aP T x y
  | .assign y=>aP T x y
  | _=>false)
 | .movN x=>(match o with
  | .move y=>aP T x y
  | .assign y=>aP T x y
  | _=>false)
 | .rangeStr x=>(match o with
  | .range t y=>aP T x y&&(match P.underlying t with | some .string=>true | _=>false)
  | _=>false)
 | .nextStr x=>(match o with
  | .next y b=>aP T x y&&b
  | _=>false)
 | .freeze x=>(match o with
  | .move y=>aP T x y
  | .assign y=>aP T x y
  | _=>false)
 | .loadF n _ x=>(match o with
  | .load t y=>Ed P t true&&dK P t n&&aP T x y
  | _=>false)
 | .pick c a b=>(match o with
  | .pick c' a' b'=>aP T c c'&&aP T a a'&&aP T b b'
  | _=>false)
 | .alloc z=>(match o with
  | .alloc t=>lR P t z
  | _=>false)
 | .claim _=>(match o with
  | .move (.const<|.slice none 0 0)=>true
  | .assign (.const<|.slice none 0 0)=>true
  | _=>false)
 | .allocC z cl=>(match o with
  | .alloc t=>lR P t z&&cl.all λc=>match z[c.1]? with | some (.slice none 0 0)=>true | _=>false
  | _=>false)
 | .ptrK _=>false
 | .box x=>(match o with
  | .box _ y=>aP T x y
  | _=>false)
 | .boxC x _=>(match o with
  | .box _ y=>aP T x y
  | _=>false)
 | .build z ps=>(match o with
  | .build t qs=>lR P t z&&match P.underlying t with
   | some (.struct fs)=>N0 P fs.toList&&Sf T (Tq P fs) ps qs.toList
   | some (.array _ e)=>match P.info? e with
    | some i=>Sf T (λk=>some (k*i.size,i.size)) ps qs.toList
    | none=>false
   | _=>false
  | _=>false)
 | .buildSl _ s n z ps=>(match o with
  | .buildSlice t m qs=>n==m&&match P.underlying t with
   | some (.slice e)=>dK P e s&&lR P e z&&z.length==s&&decide (0<s)&&decide (n*s<=2 ^ 24)&&Si T ps qs.toList
   | _=>false
  | _=>false)
 | .load agg n x=>(match o with
  | .load t y=>Ed P t agg&&dK P t n&&(agg||n==1)&&aP T x y
  | _=>false)
 | .store n x v=>(match o with
  | .store t y u=>dK P t n&&aP T x y&&aP T v u
  | _=>false)
 | .nilCheck x=>(match o with
  | .nilCheck y=>aP T x y
  | _=>false)
 | .ibin op x y=>(match o with
  | .binOp op' _ x' y' _=>decide (op=op')&&aP T x x'&&aP T y y'
  | _=>false)
 | .bin op t x y=>(match o with
  | .binOp op' t' x' y' _=>decide (op=op')&&t==t'&&aP T x x'&&aP T y y'
  | _=>false)
 | .un op x=>(match o with
  | .unOp op' _ y=>decide (op=op')&&aP T x y
  | _=>false)
 | .conv s d x=>(match o with
  | .convert s' d' y=>s==s'&&d==d'&&aP T x y
  | _=>false)
 | .fieldAddr off x=>(match o with
  | .fieldAddr t y f=>aP T x y&&match P.underlying t with
   | some (.struct fs)=>match fs[f]? with
    | some fd=>fd.offset==off&&match P.info? fd.type with
     | some i=>i.size != 0
     | none=>false
    | none=>false
   | _=>false
  | _=>false)
 | .field agg n off x=>(match o with
  | .field t y f=>aP T x y&&match P.underlying t with
   | some (.struct fs)=>match fs[f]? with
    | some fd=>fd.offset==off&&Ed P fd.type agg&&dK P fd.type n&&(agg||n==1)
    | none=>false
   | _=>false
  | _=>false)
 | .idxAddr s x i=>(match o with
  | .indexAddr t y j=>aP T x y&&aP T i j&&match P.underlying t with
   | some (.slice e)=>dK P e s
   | _=>false
  | _=>false)
 | .idxArr s n x i=>(match o with
  | .indexAddr t y j=>aP T x y&&aP T i j&&match P.underlying t with
   | some (.array m e)=>m==n&&dK P e s
   | _=>false
  | _=>false)
 | .index agg s n x i=>(match o with
  | .index t y j=>aP T x y&&aP T i j&&match P.underlying t with
   | some (.array m e)=>m==n&&dK P e s&&Ed P e agg&&(agg||s==1)
   | _=>false
  | _=>false)
 | .strIdx t x i=>(match o with
  | .index t' y j=>t==t'&&aP T x y&&aP T i j
  | _=>false)
 | .slice s x lo hi mx=>(match o with
  | .slice t y lo' hi' mx'=>aP T x y&&vJ T lo lo'&&vJ T hi hi'&&vJ T mx mx'&&match P.underlying t with
   | some (.slice e)=>dK P e s
   | _=>false
  | _=>false)
 | .strSlice t x lo hi=>(match o with
  | .slice t' y lo' hi' none=>t==t'&&aP T x y&&vJ T lo lo'&&vJ T hi hi'&&match P.underlying t with
   | some .string=>true
   | _=>false
  | _=>false)
 | .mkSlice s z bytes l c=>(match o with
  | .makeSlice t l' c'=>aP T l l'&&aP T c c'&&match P.underlying t with
   | some (.slice e)=>dK P e s&&tS P e bytes&&lR P e z&&decide (0<s)
   | _=>false
  | _=>false)
 | .mkMap=>(match o with
  | .makeMap _ none=>true
  | _=>false)
 | .lookup kt z m k ok=>(match o with
  | .lookup t m' k' ok'=>ok==ok'&&aP T m m'&&aP T k k'&&match P.underlying t with
   | some (.map kt' e)=>kt==kt'&&match P.info? e with
    | some i=>match i.zero,z with
     | some v,.lit u=>veq u v
     | some (.agg us),.agg vs=>aDn vs us.toList
     | _,_=>false
    | none=>false
   | _=>false
  | _=>false)
 | .mapUpd kt m k v=>(match o with
  | .mapUpdate t m' k' v'=>aP T m m'&&aP T k k'&&aP T v v'&&match P.underlying t with
   | some (.map kt' _)=>kt==kt'
   | _=>false
  | .insert t m' k' v'=>aP T m m'&&aP T k k'&&aP T v v'&&match P.underlying t with
   | some (.map kt' _)=>kt==kt'
   | _=>false
  | _=>false)
 | .lenS x=>(match o with
  | .call ⟨.builtin .len,as,ts⟩=>match as.toList,ts.toList with
   | [y],[t]=>aP T x y&&match P.underlying t with
    | some (.slice _)=>true
    | _=>false
   | _,_=>false
  | _=>false)
 | .lenM x=>(match o with
  | .call ⟨.builtin .len,as,ts⟩=>match as.toList,ts.toList with
   | [y],[t]=>aP T x y&&match P.underlying t with
    | some (.map _ _)=>true
    | _=>false
   | _,_=>false
  | _=>false)
 | .lenStr t x=>(match o with
  | .call ⟨.builtin .len,as,ts⟩=>match as.toList,ts.toList with
   | [y],[t']=>t==t'&&aP T x y
   | _,_=>false
  | _=>false)
 | .lenC n=>(match o with
  | .call ⟨.builtin .len,as,ts⟩=>match as.toList,ts.toList with
   | [_],[t]=>match P.underlying t with
    | some (.array m _)=>m==n
    | _=>false
   | _,_=>false
  | _=>false)
 | .append s bytes x y=>(match o with
  | .call ⟨.builtin .append,as,ts⟩=>match as.toList,ts.toList with
   | [x',y'],[t,t']=>aP T x x'&&aP T y y'&&(match P.underlying t' with | some (.slice _)=>true | _=>false)&&match P.underlying t with
    | some (.slice e)=>dK P e s&&tS P e bytes&&match P.info? e with
     | some i=>match i.zero with | some z=>z.cells.size==s | none=>false
     | none=>false
    | _=>false
   | _,_=>false
  | _=>false)
 | .appendP s bytes x y=>(match o with
  | .call ⟨.builtin .append,as,ts⟩=>match as.toList,ts.toList with
   | [x',y'],[t,t']=>aP T x x'&&aP T y y'&&(match P.underlying t' with | some (.slice _)=>true | _=>false)&&match P.underlying t with
    | some (.slice e)=>dK P e s&&tS P e bytes&&match P.info? e with
     | some i=>match i.zero with | some z=>z.cells.size==s | none=>false
     | none=>false
    | _=>false
   | _,_=>false
  | _=>false)
 | .appendZ s bytes z x y=>(match o with
  | .call ⟨.builtin .append,as,ts⟩=>match as.toList,ts.toList with
   | [x',y'],[t,t']=>aP T x x'&&aP T y y'&&(match P.underlying t' with | some (.int _)=>true | _=>false)&&match P.underlying t with
    | some (.slice e)=>dK P e s&&tS P e bytes&&lR P e z
    | _=>false
   | _,_=>false
  | _=>false)
 | .copy s x y=>(match o with
  | .call ⟨.builtin .copy,as,ts⟩=>match as.toList,ts.toList with
   | [x',y'],[t,_]=>aP T x x'&&aP T y y'&&match P.underlying t with
    | some (.slice e)=>dK P e s
    | _=>false
   | _,_=>false
  | _=>false)
 | .clear s z x=>(match o with
  | .call ⟨.builtin .clear,as,ts⟩=>match as.toList,ts.toList with
   | [x'],[t]=>aP T x x'&&match P.underlying t with
    | some (.slice e)=>dK P e s&&lR P e z
    | _=>false
   | _,_=>false
  | _=>false)
 | .delete kt m k=>(match o with
  | .call ⟨.builtin .delete,as,ts⟩=>match as.toList,ts.toList with
   | [m',k'],t::_=>aP T m m'&&aP T k k'&&match P.underlying t with
    | some (.map kt' _)=>kt==kt'
    | _=>false
   | _,_=>false
  | _=>false)
 | .minmax mx xs=>(match o with
  | .call ⟨.builtin .max,as,_⟩=>mx&&eT T xs as.toList
  | .call ⟨.builtin .min,as,_⟩=>!mx&&eT T xs as.toList
  | _=>false)
 | .mkFn vi caps=>(match o with
  | .makeFunc (.func f) first cs=>first.isEmpty&&aJ T vi==some f&&eT T caps cs.toList
  | _=>false)
 | .call _ vi args=>(match o with
  | .call ⟨.value<|.func f,as,_⟩=>aJ T vi==some f&&eT T args as.toList
  | _=>false)
 | .callS vi args=>(match o with
  | .call ⟨.value<|.func f,as,_⟩=>aJ T vi==some f&&eT T args as.toList
  | _=>false)
 | .callF vi args=>(match o with
  | .call ⟨.value<|.func f,as,_⟩=>aJ T vi==some f&&eT T args as.toList
  | _=>false)
 | .callT _ vi args=>(match o with
  | .call ⟨.value<|.func f,as,_⟩=>aJ T vi==some f&&eT T args as.toList
  | _=>false)
 | .callB vi args=>(match o with
  | .call ⟨.value<|.func f,as,_⟩=>aJ T vi==some f&&eT T args as.toList
  | _=>false)
 | .capS x=>(match o with
  | .call ⟨.builtin .cap,as,ts⟩=>match as.toList,ts.toList with
   | [y],[t]=>aP T x y&&match P.underlying t with
    | some (.slice _)=>true
    | _=>false
   | _,_=>false
  | _=>false)
 | .callv _ x args=>(match o with
  | .call ⟨.value y,as,_⟩=>aP T x y&&eT T args as.toList
  | _=>false)
 | .extract x i=>(match o with
  | .extract y j=>i==j&&aP T x y
  | _=>false)
def Sg(ops:Array Oper): Option (Nat×Bool)->Option (Nat×Bool)->Bool
 | none,none=>true
 | some (t,b),some (j,b')=>b==b'&&match ops[j]? with
  | some o=>o.dst==some t
  | none=>false
 | _,_=>false
def nN(ops:Array Oper)(a:bE)(o:Oper): Bool:=a.dst==o.dst&&Sg ops a.guard o.guard&&cP P T a.op o.op
def Ay(ops:Array Oper): List bE->List Oper->Bool
 | [],[]=>true
 | a::r,o::s=>nN P T ops a o&&Ay ops r s
 | _,_=>false
def JC(acc:List Nat): List Nat->Nat
 | []=>0
 | d::r=>(2 ^ d ||| acc.getD d 0) ||| JC acc r
def tK(ops:List Oper): Nat->List Nat->List Nat
 | 0,acc=>acc
 | n+1,acc=>
  let ds:=match ops[acc.length]? with
   | some o=>(o.after.toList.filter λe=>Region.binds .any e&&decide (e.on<acc.length)).map λ(e:Edge)=>e.on
   | none=>[]
  tK ops n<|acc++[JC acc ds]
def aGf: Option bB->List bB
 | some x=>[x]
 | none=>[]
def vO: Jn->List bB
 | .mov x=>[x]
 | .movN x=>[x]
 | .freeze x=>[x]
 | .loadF _ _ x=>[x]
 | .appendP _ _ x y=>[x,y]
 | .rangeStr x=>[x]
 | .nextStr x=>[x]
 | .pick x y z=>[x,y,z]
 | .alloc _=>[]
 | .claim _=>[]
 | .allocC _ _=>[]
 | .box x=>[x]
 | .ptrK _=>[]
 | .boxC x _=>[x]
 | .build _ ps=>ps.map λp=>p.2.2
 | .buildSl _ _ _ _ ps=>ps.map λp=>p.2
 | .load _ _ x=>[x]
 | .store _ x y=>[x,y]
 | .nilCheck x=>[x]
 | .ibin _ x y=>[x,y]
 | .bin _ _ x y=>[x,y]
 | .un _ x=>[x]
 | .conv _ _ x=>[x]
 | .fieldAddr _ x=>[x]
 | .field _ _ _ x=>[x]
 | .idxAddr _ x y=>[x,y]
 | .idxArr _ _ x y=>[x,y]
 | .index _ _ _ x y=>[x,y]
 | .strIdx _ x y=>[x,y]
 | .slice _ x lo hi mx=>x::(aGf lo++(aGf hi++aGf mx))
 | .strSlice _ x lo hi=>x::(aGf lo++aGf hi)
 | .mkSlice _ _ _ x y=>[x,y]
 | .mkMap=>[]
 | .lookup _ z m k _=>[z,m,k]
 | .mapUpd _ m k v=>[m,k,v]
 | .lenS x=>[x]
 | .lenM x=>[x]
 | .lenStr _ x=>[x]
 | .lenC _=>[]
 | .append _ _ x y=>[x,y]
 | .appendZ _ _ _ x y=>[x,y]
 | .copy _ x y=>[x,y]
 | .clear _ _ x=>[x]
 | .delete _ x y=>[x,y]
 | .minmax _ xs=>xs
 | .mkFn _ xs=>xs
 | .call _ _ xs=>xs
 | .callv _ x xs=>x::xs
 | .callF _ xs=>xs
 | .callT _ _ xs=>xs
 | .callB _ xs=>xs
 | .callS _ xs=>xs
 | .capS x=>[x]
 | .extract x _=>[x]
def Og: List bB->List Nat
 | []=>[]
 | .tmp t::r=>t::Og r
 | _::r=>Og r
def DP(o:bE): List Nat:=
 match o.guard with
 | some (t,_)=>t::Og (vO o.op)
 | none=>Og<|vO o.op
def CG(x y:bE): Bool:=
 match x.dst with
 | some d=>(DP y).contains d||y.dst==some d
 | none=>false
def xN: Jn->Bool
 | .mov _=>true
 | .ptrK _=>true
 | .movN _=>true
 | .pick ..=>true
 | .build ..=>true
 | .buildSl pu ..=>pu
 | .appendP ..=>true
 | .nilCheck _=>true
 | .ibin ..=>true
 | .bin ..=>true
 | .un ..=>true
 | .conv ..=>true
 | .fieldAddr ..=>true
 | .field ..=>true
 | .idxArr ..=>true
 | .index ..=>true
 | .strIdx ..=>true
 | .strSlice ..=>true
 | .lenS _=>true
 | .capS _=>true
 | .lenStr ..=>true
 | .lenC _=>true
 | .minmax ..=>true
 | .mkFn ..=>true
 | .extract ..=>true
 | _=>false
def SB(ops:List Oper): Nat->Bool
 | 0=>true
 | n+1=>SB ops n&&match ops[n]? with
  | some o=>o.after.toList.all λe=>!Region.binds .any e||decide (e.on<n)
  | none=>true
def bJ(aops:List bE)(k:Nat): Bool:=match aops[k]? with
 | some o=>fE o.op
 | none=>true
def fR(aops:List bE)(k:Nat): Bool:=match aops[k]? with
 | some o=>xN o.op
 | none=>true
def eB(aops:List bE)(k:Nat): Bool:=match aops[k]? with
 | some o=>match o.dst with
  | some _=>match o.op with
   | .alloc _=>match o.guard with
    | none=>true
    | some _=>false
   | _=>false
  | none=>false
 | none=>false
def nS(aops:List bE)(an:List Nat): Nat->Nat->Nat
 | 0,_=>aops.length
 | n+1,i=>if eB aops i&&eB aops (i+1)&&!(an.getD (i+1) 0).testBit i then i else nS aops an n (i+1)
def Bz(sw:Nat)(aops:List bE)(an:List Nat): Nat->Bool
 | 0=>true
 | j+1=>Bz sw aops an j&&((List.range j).all λi=>
  (an.getD j 0).testBit i||((bJ aops i||bJ aops j||(i==sw&&j==sw+1&&eB aops i&&eB aops j))&&match aops[i]?,aops[j]? with
   | some x,some y=>!CG x y&&!CG y x
   | _,_=>false))
def aB5(aops:List bE)(ck:List<|Nat×Nat)(an:List Nat)(n:Nat): Bool:=
 (List.range n).all λk=>fR aops k||!bJ aops k||((List.range n).all λm=>bJ aops m||(an.getD k 0).testBit m||(an.getD m 0).testBit k||ck.contains (k,m))
def aCp(P:Program)(d0 d1:Nat)(o:Oper): Bool:=
 (match o.dst with | some d=>d==d1 | none=>false)&&o.guard.isNone&&match o.op with
  | .binOp .eql t (.tmp x) (.const<|.slice none 0 0) _=>x==d0&&match P.underlying t with
   | some (.slice _)=>true
   | _=>false
  | _=>false
def i7(sw:Nat)(aops:List bE)(ck:List<|Nat×Nat)(an:List Nat)(n:Nat): Bool:=
 !decide (sw+1<n)||(List.range n).all λk=>!bJ aops k||fR aops k||(an.getD k 0).testBit sw||ck.contains (k,sw)
def M8(aops:List bE)(ck:List<|Nat×Nat)(an:List Nat)(n:Nat): Bool:=Bz (nS aops an n 0) aops an n&&(aB5 aops ck an n&&i7 (nS aops an n 0) aops ck an n)
def PK: List (Nat×Nat)->Option Nat
 | []=>none
 | c::_=>match Nat.beq c.1 c.2 with
  | true=>some c.1
  | false=>none
def ckK(ck:List<|Nat×Nat): List (Nat×Nat):=match PK ck with
 | some _=>ck.tail
 | none=>ck
def aRA(ck:List<|Nat×Nat)(aops:List bE)(n:Nat): List bE:=match PK ck with
 | some m=>eW aops m n
 | none=>aops
def aU3(ck:List<|Nat×Nat)(aops:List bE)(an:List Nat)(n:Nat): Bool:=match PK ck with
 | some m=>eB aops m&&(List.range n).all λk=>Nat.ble k m||bJ aops k||(an.getD k 0).testBit m
 | none=>true
def gJ: bU->Code->Bool
 | .skip,.skip=>true
 | .skip,.label _=>true
 | .region draw ck aops,.region _ ops draw'=>draw==draw'&&Ay P T ops aops ops.toList&&(match draw with
  | false=>(PK ck).isNone
  | true=>M8 (aRA ck aops 0) (ckK ck) (tK ops.toList ops.size []) ops.size&&aU3 ck aops (tK ops.toList ops.size []) ops.size&&SB ops.toList ops.size)
 | .seq a b,.seq a' b'=>gJ a a'&&gJ b b'
 | .cond c a b,.cond c' a' b'=>aP T c c'&&gJ a a'&&gJ b b'
 | .block i c,.block j d=>i==j&&gJ c d
 | .loop _ _ c,.loop d=>gJ c d
 | .exit i,.exit j=>i==j
 | .ret,.ret=>true
 | .frz _ c,d=>gJ c d
 | .mask _ _ _ c,d=>gJ c d
 | .told _ _ _ c,d=>gJ c d
 | .loopV _ _ _ _ c,.loop d=>gJ c d
 | .scope c,.scope d=>gJ c d
 | .nilIf t d0 d1 a b,.seq (.seq (.region _ ops draw)<|.cond (.tmp e) a' .skip) b'=>!draw&&e==d1&&(match ops.toList with
  | [o1,o2]=>nN P T ops ⟨some d0,.mov<|.tmp t,none⟩ o1&&aCp P d0 d1 o2
  | _=>false)&&gJ a a'&&gJ b b'
 | .stop,_=>true
 | _,_=>false
def Fa: List aAo->List ResultVar->Bool
 | [],[]=>true
 | .tmp t::r,.tmp u::s=>t==u&&Fa r s
 | .cell t n agg::r,.cell u ty::s=>t==u&&dK P ty n&&Ed P ty agg&&(agg||n==1)&&Fa r s
 | _,_=>false
def Ll(F:cS): Bool:=
 match P.funcs[F.fid]? with
 | some fn=>match fn.body with
  | some c=>gJ P T F.body c&&fn.ntmps==F.nt&&Fa P F.rets fn.results.toList&&!(fn.name== "runtime.NumGoroutine")
  | none=>false
 | none=>false
end
end
section
variable {FT:Nat->Option Nat}{H':aW}{P:Program}{T:List cS}{a:Act}{ad:Addr}{agg:Bool}{c:dA}{cc:Array Value}{cs:List AV}{cv:Value}{es:List<|List AV}{fl i id j k:Nat}{α:Type}{l:List α}{n:Nat}{o:Oper}{off s:Nat}{t:TypeId}{tm:List AV}{tot:Nat}{v:Value}{vs:List Value}{w':World}{x:bB}{y:Operand}{z:List Value}{β':Nat->Option Nat}
theorem cQ[aF]{a:α}{w:World}: ∀{s:Sem α},aN P s=some a->s.run P w=.ok a w
 | .pure _,h=>by simp only[aN,Za] at h;subst h;rfl
 | .program k,h=>by
  simp only[Sem.run];exact cQ h
 | .mark _ k,h=>by
  simp only[Sem.run];exact cQ h
 | .load ..,h=>by simp[aN] at h
 | .store ..,h=>by simp[aN] at h
 | .new ..,h=>by simp[aN] at h
 | .shape ..,h=>by simp[aN] at h
 | .freeze ..,h=>by simp[aN] at h
 | .frozen ..,h=>by simp[aN] at h
 | .getObj ..,h=>by simp[aN] at h
 | .setObj ..,h=>by simp[aN] at h
 | .choose ..,h=>by simp[aN] at h
 | .sys ..,h=>by simp[aN] at h
 | .halt ..,h=>by simp[aN] at h
section inv
theorem RV.ptr_inv{d:Nat}(h:RV FT c (.ptr id tot d off) v): ∃a s n,v=.pointer (some a)/\shp c.H id=some (s,n)/\tot<=n /\
 (tot=n->∃b,c.β id=some b/\a=⟨b,d*s+off,none⟩):=by
 cases h with
 | pure _ _ g=>cases g
 | ptr _ _ _ _ a s n k i j=>grind
theorem RV.ms_inv{len:Nat}(h:RV FT c (.ms id tot off len) v): ∃a cap s n,v=.slice a len cap/\shp c.H id=some (s,n)/\tot<=n/\len<=cap /\
 (tot=n->aNd c id tot off len a cap s):=by
 cases h with
 | pure _ _ d=>cases d
 | ms _ _ _ _ a cap s n j i g e=>grind
theorem RV.sl_inv{f:Bool}(h:RV FT c (.sl f es) v): RP c.w (lE c) (.sl f es) v:=by
 cases h with
 | pure _ _ b=>grind
theorem RV.rptr_inv(h:RV FT c (.rptr cs) v): ∃(b off:Nat) (cc:Array Value) (T:TypeId) (d:Nat×Nat) (a:Nat->Value),v=.pointer (some ⟨b,off,none⟩)/\Vis c b /\
 c.w.heap[b]?=some (.cells cc T d)/\(∀(j:Nat) (x:AV),cs[j]?=some x->cc[off+j]?=some (a j)/\bF (a j)=true) /\
 (∀(j:Nat) (x:AV),cs[j]?=some x->RP c.w (lE c) x (a j)):=by
 cases h with
 | pure _ _ g=>cases g
 | rptr _ b off cc T d a l k i m=>exact⟨b,off,cc,T,d,a,rfl,l,k,i,m⟩
theorem RV.sptr_inv(h:RV FT c (.sptr cs) v): RV FT c (.rptr cs) v:=by
 cases h with
 | pure _ _ k=>cases k with
  | sptr _ b off cc T i a l g j f=>exact .rptr _ b off cc T i a l.vis g j f
theorem RV.vw_inv(h:RV FT c (.vw es) v): ∃ad cap,v=.slice ad es.length cap/\es.length<=cap/\(es=[]\/∃(b off:Nat) (cc:Array Value) (T:TypeId) (f:Nat×Nat) (s:Nat) (d:Nat->Nat->Value),
 ad=some ⟨b,off,none⟩/\Vis c b/\c.w.heap[b]?=some (.cells cc T f)/\(∀e∈es,e.length=s)/\(∀i j x,bM es i j=some x->cc[off+(i*s+j)]?=some (d i j)/\bF (d i j)=true) /\
 ∀i j x,bM es i j=some x->RP c.w (lE c) x (d i j)):=by
 cases h with
 | pure _ _ r=>cases r
 | vnil a cap=>simp_all
 | vw _ b off cap cc T f s d t n m p q l o=>exact⟨_,cap,rfl,q,.inr ⟨b,off,cc,T,f,s,d,rfl,n,m,p,l,o⟩⟩
theorem RV.rmp_inv{d:List<|Value×AV}(h:RV FT c (.rmp d) v): ∃(b:Nat) (es:Array MapEntry) (e:Nat) (a:Nat->MapEntry),v=.map (some b)/\c.w.heap[b]?=some (.map es e)/\es.size=d.length /\
 (∀(i:Nat) (k:Value) (x:AV),d[i]?=some (k,x)->es[i]?=some (a i)/\(a i).key=k)/\(∀(i:Nat) (k:Value) (x:AV),d[i]?=some (k,x)->RP c.w (lE c) x (a i).val):=by
 cases h with
 | pure _ _ j=>cases j with
  | rmp _ b es e a p o m q g n=>exact⟨b,es,e,a,rfl,o,m,g,n⟩
theorem RV.mp_inv(h:RV FT c (.mp id) v): ∃b,v=.map (some b)/\Cn c.H id/\c.β id=some b:=by
 cases h with
 | pure _ _ d=>cases d
 | mp _ b g e=>grind
theorem RV.it_inv(h:RV FT c (.it id) v): ∃b,v=.pointer (some ⟨b,0,none⟩)/\Cn c.H id/\c.β id=some b:=by
 cases h with
 | pure _ _ d=>cases d
 | it _ b f g=>grind
theorem RV.fn_inv{vi:Nat}{caps:List AV}(h:RV FT c (.fn vi caps) v): ∃(f:Nat) (cv:Array Value) (a:Nat->Value),v=.func (.func f) #[] cv/\FT vi=some f/\cv.size=caps.length /\
 (∀(i:Nat) (x:AV),caps[i]?=some x->cv[i]?=some (a i))/\(∀(i:Nat) (x:AV),caps[i]?=some x->RV FT c x (a i)):=by
 cases h with
 | pure _ _ e=>cases e
 | fn _ f _ cv a k j g d=>exact⟨f,cv,a,rfl,k,j,g,d⟩
theorem RV.agg_inv(h:RV FT c (.agg cs) v): ∃(cv:Array Value) (a:Nat->Value),v=.agg cv/\cv.size=cs.length /\
 (∀(i:Nat) (x:AV),cs[i]?=some x->cv[i]?=some (a i)/\bF (a i)=true)/\(∀(i:Nat) (x:AV),cs[i]?=some x->RV FT c x (a i)):=by
 cases h with
 | pure _ _ e=>cases e
 | agg _ cv a d g f=>exact⟨cv,a,rfl,d,g,f⟩
theorem RV.tup_inv(h:RV FT c (.tup cs) v): ∃(cv:Array Value) (a:Nat->Value),v=.tuple cv/\cv.size=cs.length /\
 (∀(i:Nat) (x:AV),cs[i]?=some x->cv[i]?=some (a i))/\(∀(i:Nat) (x:AV),cs[i]?=some x->RV FT c x (a i)):=by
 cases h with
 | pure _ _ e=>cases e
 | tup _ cv a j g f=>exact⟨cv,a,rfl,j,g,f⟩
end inv
theorem CX(v:Value): bF v=v.oneCell':=by cases v<;>rfl
section
def dJ[aF](P:Program)(FT:Nat->Option Nat)(c:dA)(fl:Nat)(o:Oper)(a:Act)(v:AV)(H':aW): Prop:=
 ∀(K:Act->World->Prop) (Q:Exit->Act->World->Prop),
  (∀cv c',c'.H=H'->bW fl c c'->bX FT c'->RV FT c' v cv->K (a.put o.dst cv) c'.w)->o.wp P a c.w K Q
theorem eO[aF]{v:AV}(g:(execOp a.eval o).run P c.w=.ok (.value cv) w')(b:bW fl c ⟨w',c.X,β',H'⟩)(f:bX FT ⟨w',c.X,β',H'⟩)(d:RV FT ⟨w',c.X,β',H'⟩ v cv): dJ P FT c fl o a v H':=by
 intro K Q e;unfold Oper.wp;rw[g];exact e cv ⟨w',c.X,β',H'⟩ rfl b f d
theorem aHS[aF](d:(execOp a.eval o).run P c.w=.ok .skip w')(b:bW fl c ⟨w',c.X,β',H'⟩)(f:bX FT ⟨w',c.X,β',H'⟩):
 dJ P FT c fl o a (.lit bQ) H':=by
 intro K Q e;unfold Oper.wp;rw[d];exact e bQ ⟨w',c.X,β',H'⟩ rfl b f<|RV.lit _
theorem bT[aF]{v:AV}(d:bX FT c)(e:(execOp a.eval o).run P c.w=.ok (.value cv) c.w)(b:RV FT c v cv): dJ P FT c fl o a v c.H:=
 eO e (bW.refl _ _) d b
theorem SR[aF](vs:List Value)(d:∀v∈vs,bF v=true): RV FT c (.agg<|vs.map .lit)<|.agg vs.toArray:=by
 refine .agg _ _ (λi=>vs.getD i bQ) (by simp) ?_ ?_
 .grind
 .intro i x a;simp at a;obtain⟨v,b,rfl⟩:=a;simp only[YS,b,Yp];exact RV.lit v
theorem aX[aF](k:bX (aJ T) c)(b:TR (aJ T) c tm a.tmps)(h:aP T x y=true): RV (aJ T) c (aG tm x)<|a.eval y:=by
 unfold aP at h;split at h
 .rename_i t u;have:=by simpa using h
  subst this;simp only[aG,Act.eval];cases j:tm[t]? with
  | none=>
   have g:a.tmps.size<=t:=by rw[<-b.1];simpa using j
   have:=Yb g;simp only[Yf,this];exact RV.lit _
  | some x=>
   let⟨v,o,n⟩:=b.2 t x j;simpa [o] using n
 .rw[aFA h];exact RV.lit _
 .rename_i vs m;have e:=i5 h;have:m=vs.toArray:=by rw[e]
  rw[this];exact SR vs<|Bn h
 .rename_i vi f;refine .fn vi f [] #[] (λ_=>bQ) (by simpa using h) rfl ?_ ?_<;>intro i x l<;>simp at l
 .rename_i p;have:=by simpa using h
  subst this;simp only[aG];split
  .rename_i d;exact k.gl.rv d
  .exact RV.undef _
 .cases h
theorem aGj[aF](e:bX (aJ T) c)(d:TR (aJ T) c tm a.tmps)(b:o.op=.move y\/o.op=.assign y)(h:aP T x y=true):
 dJ P (aJ T) c fl o a (aG tm x) c.H:=by
 refine bT e ?_<|aX e d h;rcases b with b | b<;>simp[execOp,b]
theorem aOu[aF](d:bX (aJ T) c)(b:TR (aJ T) c tm a.tmps){y z:bB}{g f e:Operand}{t:Bool}(i:o.op=.pick g f e)(n:aP T x g=true)(m:aP T y f=true)(l:aP T z e=true)(j:aG tm x=.lit (.bool t)):
 dJ P (aJ T) c fl o a (if t then aG tm y else aG tm z) c.H:=by
 have h:=aX d b n;rw[j] at h;have k:=h.lit_inv;refine bT (cv:=if t then a.eval f else a.eval e) d ?_ ?_
 .simp[execOp,i,k,asBool]
 .cases t
  .exact aX d b l
  .exact aX d b m
theorem gM[aF](h:lR P t z=true): ∃i v,P.info? t=some i/\i.zero=some v/\v.cells=z.toArray/\∀u∈z,bF u=true:=by
 unfold lR at h;split at h
 .rename_i i b;split at h
  .rename_i v a;refine⟨i,v,b,a,?_,Bn h⟩;have:=i5 h;rw[this]
  .cases h
 .cases h
theorem RZ{x:AV}(h:bM [cs] i j=some x): i=0/\cs[j]?=some x:=by
 unfold bM at h;grind
theorem aFL{X:Nat->Prop}{L:List dI}(β:Nat->Option Nat)(H:aW)(b:Nat)(a:β H.length=some b): RV FT ⟨w',X,β,H++.blk s [cs]::L⟩ (.ptr H.length 1 0 0)<|.pointer<|some ⟨b,0,none⟩:=
 .ptr H.length 1 0 0 _ s 1 (by simp[shp]) (Zf _) λ_=>⟨b,a,by simp⟩
theorem Ti[aF](f:bX (aJ T) c)(d:fl<=c.H.length){cv:Array Value}(m:(execOp a.eval o).run P c.w=.ok (.value<|.pointer<|some ⟨c.w.heap.size,0,none⟩) (c.w.alloc<|.cells cv t (0,0)))(e:cv.size=cs.length)(l:∀(j:Nat) (x:AV),cs[j]?=some x->∃v,cv[j]?=some v/\bF v=true/\RV (aJ T) c x v):
 dJ P (aJ T) c fl o a (.ptr c.H.length 1 0 0)<|c.H++[.blk cs.length [cs]]:=by
 refine eO m (Oi d rfl rfl rfl rfl λid b k=>f.lt k)
  (j7 f rfl rfl rfl rfl ?_ ?_ ?_ λ_ h=>by cases h)<|aFL _ _ _<|dF _ _ _
 .grind
 .intro s es he;cases he;refine⟨cv,t,rfl,by simp[e],?_⟩;intro i j x g;obtain⟨rfl,n⟩:=RZ g;grind
 .grind
theorem aL5[aF](n:bX (aJ T) c)(e:fl<=c.H.length)(p:o.op=.alloc t)(h:lR P t z=true):
 dJ P (aJ T) c fl o a (.ptr c.H.length 1 0 0)<|c.H++[.blk z.length [z.map .lit]]:=by
 let⟨i,v,l,k,m,d⟩:=gM h;have:=Ti (P:=P) (o:=o) (a:=a) (cs:=z.map AV.lit) (cv:=z.toArray) (t:=t) n e ?_ (by simp) ?_
 .grind
 .simp[execOp,p,Instr.alloc,zeroValue,typeInfo,l,k,newVar,newRow,m]
 .intro j x g;simp at g;obtain⟨u,f,rfl⟩:=g;exact⟨u,by simpa using f,d u<|Zg f,RV.lit u⟩
theorem Az[aF]{x:AV}(E:RV FT c x v)(h:cellsOf x=some cs):
 v.cells.size=cs.length/\∀(j:Nat) (y:AV),cs[j]?=some y->∃u,v.cells[j]?=some u/\bF u=true/\RV FT c y u:=by
 have d:∀{x:AV} {v:Value},RV FT c x v->bF v=true->cs=[x]->
  v.cells.size=cs.length/\∀(j:Nat) (y:AV),cs[j]?=some y->∃u,v.cells[j]?=some u/\bF u=true/\RV FT c y u:=by
  intro x v E m e;have Q:v.cells=#[v]:=by cases v<;>first | rfl | (simp[bF] at m)
  grind
 cases E with
 | pure _ _ L=>
  cases L with
  | undef=>simp[cellsOf] at h
  | lit v=>
   simp only[cellsOf] at h;split at h
   .rename_i m;cases h;exact d (RV.lit v) m rfl
   .cases h
  | nil f a' cap I=>
   simp only[cellsOf,Za] at h;exact d (.pure _ _<|.nil f a' cap I) rfl h.symm
  | sl f es b off cap cc T o s a i g k l p r z J=>
   simp only[cellsOf,Za] at h;exact d (.pure _ _<|.sl f es b off cap cc T o s a i g k l p r z J) rfl h.symm
  | sptr cs' b off cc T o a i g k l=>
   simp only[cellsOf,Za] at h;exact d (.pure _ _<|.sptr cs' b off cc T o a i g k l) rfl h.symm
  | rmp q b es A a i g k l p r=>
   simp only[cellsOf,Za] at h;exact d (.pure _ _<|.rmp q b es A a i g k l p r) rfl h.symm
 | ms id tot off len a' cap s n i g k l=>
  simp only[cellsOf,Za] at h;exact d (.ms id tot off len a' cap s n i g k l) rfl h.symm
 | ptr id tot t off a' s n i g k=>
  simp only[cellsOf,Za] at h;exact d (.ptr id tot t off a' s n i g k) rfl h.symm
 | rptr cs' b off cc T o a i g k l=>
  simp only[cellsOf,Za] at h;exact d (.rptr cs' b off cc T o a i g k l) rfl h.symm
 | vnil a' cap=>
  simp only[cellsOf,Za] at h;exact d (.vnil a' cap) rfl h.symm
 | vw es b off cap cc T o s a i g k l p r z=>
  simp only[cellsOf,Za] at h;exact d (.vw es b off cap cc T o s a i g k l p r z) rfl h.symm
 | mp id b i g=>
  simp only[cellsOf,Za] at h;exact d (.mp id b i g) rfl h.symm
 | it id b i g=>
  simp only[cellsOf,Za] at h;exact d (.it id b i g) rfl h.symm
 | fn vi f caps cv a i g k l=>
  simp only[cellsOf,Za] at h;exact d (.fn vi f caps cv a i g k l) rfl h.symm
 | agg cs' cv a i g k=>
  simp only[cellsOf,Za] at h;subst h;exact⟨i,λj y w=>⟨a j,(g j y w).1,(g j y w).2,k j y w⟩⟩
 | tup=>simp[cellsOf] at h
theorem aRC[aF](f:bX (aJ T) c)(b:TR (aJ T) c tm a.tmps)(e:fl<=c.H.length)(k:o.op=.box t y)(h:aP T x y=true)(j:cellsOf (aG tm x)=some cs):
 dJ P (aJ T) c fl o a (.ptr c.H.length 1 0 0)<|c.H++[.blk cs.length [cs]]:=by
 let⟨g,i⟩:=Az (aX f b h) j;refine Ti (t:=t) f e ?_ g i;simp[execOp,k,Instr.box,newVar,newRow]
theorem aEa[aF](f:bX (aJ T) c)(e:fl<=c.H.length)(d:o.op=.move (.const bS)\/o.op=.assign (.const bS)):
 dJ P (aJ T) c fl o a (.ms c.H.length 0 0 0)<|c.H++[.blk s []]:=by
 refine eO (cv:=bS) ?_ (Jv e) (NF f) ?_
 .rcases d with d | d<;>simp[execOp,d,Act.eval]
 .refine .ms _ 0 0 0 none 0 s 0 (by simp[shp]) (Zf _) (Zf _) λ_=>⟨Zf _,.inl ⟨?_,rfl,rfl,rfl⟩⟩;cases g:c.β c.H.length with
  | none=>rfl
  | some b=>have:=f.dom _ b g;omega
theorem fK(b k j:Nat): (⟨b,k,none⟩:Addr).add j=⟨b,k+j,none⟩:=by unfold Addr.add;split<;>simp_all
def r4(FT:Nat->Option Nat)(c:dA)(ad:Addr)(cs:List AV)(vs:List Value): Prop:=
 vs.length=cs.length/\(∀(j:Nat) (u:Value),vs[j]?=some u->c.w.cell? (ad.add j)=some u) /\
 ∀(j:Nat) (x:AV),cs[j]?=some x->∃u,vs[j]?=some u/\bF u=true/\RV FT c x u
theorem eV{H:aW}(h:H[id]?=some (.blk s es)): shp H id=some (s,es.length):=by simp[shp,h]
theorem Sj[aF]{b:Nat}{T:TypeId}{a:Nat×Nat}(d:c.w.heap[b]?=some (.cells cc T a))(f:cs.length=n)(h:∀(j:Nat) (x:AV),cs[j]?=some x->∃u,cc[k+j]?=some u/\bF u=true/\RV FT c x u):
 r4 FT c ⟨b,k,none⟩ cs<|(cc.toList.drop k).take n:=by
 refine⟨?_,?_,?_⟩
 .simp only[f];cases n with
  | zero=>simp
  | succ m=>
   let⟨u,e,_⟩:=h m (cs[m]'(by omega)) (by simp);grind
 .intro j u e;rw[fK,cell_of_row c.w b (k+j) cc T a d];grind
 .grind
theorem DR[aF](y:bX FT c){x:AV}(p:RV FT c x v)(h:eA c.H x n=some cs):
 ∃(ad:Addr) (vs:List Value),v=.pointer (some ad)/\cs.length=n/\r4 FT c ad cs vs:=by
 unfold eA at h;split at h
 .rename_i id tot q off;split at h
  .rename_i s es t;split at h
   .rename_i A;split at h
    .rename_i e he;split at h
     .rename_i k;cases h;cases p with
      | pure _ _ u=>cases u
      | ptr _ _ _ _ ad s' F m l g=>
       rw[eV t] at m;cases m;obtain⟨b,w,rfl⟩:=g A.symm;let⟨cc,T,C,E,z⟩:=y.blk id s es b t w;have a:((e.drop off).take n).length=n:=by simp;omega
       refine⟨_,_,rfl,a,Sj C a ?_⟩;intro j x d;rw[Zs] at d;split at d
       .rw[Zw] at d;have:=z q (off+j) x (by simp[bM,he,d]);simpa [Yu] using this
       .grind
     .cases h
    .cases h
   .cases h
  .cases h
 .rename_i i;split at h
  .rename_i k;cases h;obtain⟨b,off,cc,T,B,f,rfl,m,l,g,o⟩:=p.rptr_inv
   .have a:(i.take n).length=n:=by simp;omega
    refine⟨_,_,rfl,a,Sj l a ?_⟩;intro j x d;rw[Zs] at d;split at d
    .exact⟨f j,(g j x d).1,(g j x d).2,.pure _ _<|o j x d⟩
    .grind
  .cases h
 .rename_i i;split at h
  .rename_i k;cases h;obtain⟨b,off,cc,T,B,f,rfl,m,l,g,o⟩:=p.sptr_inv.rptr_inv
   .have a:(i.take n).length=n:=by simp;omega
    refine⟨_,_,rfl,a,Sj l a ?_⟩;intro j x d;rw[Zs] at d;split at d
    .exact⟨f j,(g j x d).1,(g j x d).2,.pure _ _<|o j x d⟩
    .grind
  .cases h
 .cases h
theorem Kg(h:r4 FT c ad cs vs): RV FT c (.agg cs)<|.agg vs.toArray:=by
 refine .agg cs vs.toArray (λi=>vs.getD i bQ) (by simp[h.1]) ?_ ?_
 .intro i x a;let⟨u,b,d,_⟩:=h.2.2 i x a;simp[b,d]
 .intro i x a;let⟨u,b,_,e⟩:=h.2.2 i x a;simpa [b] using e
theorem eL(h:dK P t n=true): ∃i,P.info? t=some i/\i.size=n:=by
 unfold dK at h;grind
theorem Tx{b:Bool}(h:Ed P t b=true)(w:World): (isAgg t).run P w=.ok b w:=by
 unfold Ed at h;unfold isAgg;split at h
 .rename_i a;simp[Zm a,h]
 .rename_i a;simp[Zm a,h]
 .rename_i a;rw[YW,Zm a];simp_all
 .cases h
theorem yC[aF](b:r4 FT c ad cs vs)(d:cs.length=n)(g:Ed P t agg=true)(j:dK P t n=true):
 agg=true->(loadVar t ad).run P c.w=.ok (.agg vs.toArray) c.w:=by
 intro e;subst e;let⟨i,h,a⟩:=eL j;have f:=run_loadCells_list (P:=P) c.w ad vs b.2.1;have e:=b.1.trans d;simp[loadVar,Tx g,sizeOf,typeInfo,h,a,<-e,f]
theorem Ma[aF]{u:Value}(a:c.w.cell? ad=some u)(b:Ed P t false=true):
 (loadVar t ad).run P c.w=.ok u c.w:=by
 simp[loadVar,Tx b,a]
theorem aBU[aF](f:bX (aJ T) c)(g:TR (aJ T) c tm a.tmps){v:AV}(k:o.op=.load t y)(h:aP T x y=true)(j:Ed P t agg=true)(p:dK P t n=true)(r:eA c.H (aG tm x) n=some cs)(i:if agg then v=.agg cs else cs=[v]): dJ P (aJ T) c fl o a v c.H:=by
 let⟨ad,vs,l,m,e⟩:=DR f (aX f g h) r;cases agg with
 | true=>
  subst i;refine bT f ?_<|Kg e;simp[execOp,k,Instr.loadAt,Instr.sureAddr,l,yC e m j p rfl]
 | false=>
  subst i;let⟨u,w,z,q⟩:=e.2.2 0 v (by simp);have d:=e.2.1 0 u w;have s:ad.add 0=ad:=by simp[Addr.add]
  rw[s] at d;refine bT f ?_ q;simp[execOp,k,Instr.loadAt,Instr.sureAddr,l,Ma d j]
theorem cN{vs:List α}(h:k+vs.length<=l.length): (aQ l k vs).length=l.length:=by
 simp only[aQ,Zh,ZH,ZV];omega
theorem Jw{vs:List α}(h:k+vs.length<=l.length)(p:Nat):
 (aQ l k vs)[p]?=if p<k then l[p]? else if p<k+vs.length then vs[p-k]? else l[p]?:=by
 unfold aQ;grind
theorem NI(a:i<n)(b:j<s): i*s+j<n*s:=by
 have:(i+1)*s<=n*s:=Zr s a;rw[ZA] at this;omega
theorem cZ{x:AV}(h:bM es i j=some x): ∃e,es[i]?=some e/\e[j]?=some x:=by
 unfold bM at h;grind
theorem aP1[aF]{a:Nat}{e:List AV}(r:∀e∈es,e.length=s)(he:es[a]?=some e)(d:off+cs.length<=e.length)(A:es.length*s<=cc.size)(B:vs.length=cs.length)(b:∀i j x,bM es i j=some x->∃v,cc[i*s+j]?=some v/\bF v=true/\RV FT c x v)(t:∀(j:Nat) (x:AV),cs[j]?=some x->∃u,vs[j]?=some u/\bF u=true/\RV FT c x u):
 (∀w∈es.set a (aQ e off cs),w.length=s) /\
 ∀i j x,bM (es.set a<|aQ e off cs) i j=some x->
  ∃v,((aQ cc.toList (a*s+off) vs).toArray)[i*s+j]?=some v/\bF v=true/\RV FT c x v:=by
 have q:=r e<|Zg he;have l:=(Ze.1 he).1;have o:(a+1)*s<=es.length*s:=Zr s l;rw[ZA] at o;have g:a*s+off+vs.length<=cc.toList.length:=by simp;omega
 refine⟨?_,?_⟩
 .intro w p;rcases YL p with h | h
  .grind
  .rw[h,cN d,q]
 .intro i j x E;simp only[WH,Jw g];let⟨C,m,f⟩:=cZ E;by_cases n:i=a
  .subst n;rw[getElem?_set_eq' he] at m;cases m;rw[Jw d] at f;split at f
   .rename_i y;rw[Zu<|by omega];have:=b i j x (by simp[bM,he,f]);simpa using this
   .rename_i y;split at f
    .grind
    .rename_i F;rw[ZF<|by omega,ZF<|by omega];have:=b i j x (by simp[bM,he,f]);simpa using this
  .rw[getElem?_set_ne' n] at m;have y:j<s:=by
    rw[<-r C<|Zg m];exact (Ze.1 f).1
   have z:i*s+j<a*s+off\/a*s+off+vs.length<=i*s+j:=by
    rcases WZ n with h | h
    .have:(i+1)*s<=a*s:=Zr s h;rw[ZA] at this;omega
    .have:(a+1)*s<=i*s:=Zr s h;rw[ZA] at this;omega
   have D:=b i j x (by simp[bM,m,f]);grind
theorem gZ(w:World)(g k:Nat)(cc:Array Value)(vs:List Value):
 w.setRow g (cc.toList.take (k+0)++vs++cc.toList.drop (k+0+vs.length)).toArray=w.setRow g (aQ cc.toList k vs).toArray:=by
 simp[aQ]
theorem aLs[aF](z:bX (aJ T) c)(C:TR (aJ T) c tm a.tmps){v:bB}{u:Operand}(ho:o.op=.store t y u)(h1:aP T x y=true)(h2:aP T v u=true)(Y:dK P t n=true)(hc:cellsOf (aG tm v)=some cs)(V:cs.length=n)(d:wY fl c.H (aG tm x) cs=some H'): dJ P (aJ T) c fl o a (.lit bQ) H':=by
 let⟨i,W,E⟩:=eL Y;let⟨p,I⟩:=Az (aX z C h2) hc;have J:=aX z C h1;unfold wY at d;split at d
 .rename_i id tot f off Q;rw[Q] at J;split at d
  .rename_i N;split at d
   .rename_i s es g;split at d
    .rename_i G;split at d
     .rename_i e he;split at d
      .rename_i F;cases d
       .let⟨ad,s',n',S,U,g2,g3⟩:=J.ptr_inv;rw[eV g] at U;cases U;obtain⟨b,O,rfl⟩:=g3 G.symm;let⟨cc,M,B,k2,k3⟩:=z.blk id s es b g O;have h:=z.lens id s es g;have Z:=h e<|Zg he;have D:=(Ze.1 he).1;have R:(f+1)*s<=es.length*s:=Zr s D;rw[ZA] at R;have r:=by simpa using p
        let⟨p1,p2⟩:=aP1 (vs:=(a.eval u).cells.toList) (cc:=cc) h he F k2 r k3 (λj x J=>by simpa using I j x J);have l:f*s+off+(a.eval u).cells.toList.length<=cc.toList.length:=by simp at r |-;omega
        have A:∀v∈(a.eval u).cells.toList,v.oneCell'=true:=by
         intro v hv;let⟨j,X⟩:=Yi.1 hv;have a2:j<cs.length:=by rw[<-r];exact (Ze.1 X).1
         let⟨u',w1,w2,_⟩:=I j cs[j] (by simp);have:u'=v:=by
          grind
         rw[<-CX,<-this];exact w2
        have m:=YV P b (f*s+off) M (a.eval u).cells.toList 0 cc c.w B (by simpa using l) A;rw[gZ] at m;have K:=cN l;refine aHS (w':=c.w.setRow b (aQ cc.toList (f*s+off) (a.eval u).cells.toList).toArray) (β':=c.β) ?_
         (mU (cs':=(aQ cc.toList (f*s+off) (a.eval u).cells.toList).toArray) z N g O B (by simp) ?_ (Yv c.w b cc _ M _ B) (λk L=>Yy c.w b k _ L) (by simp) rfl rfl rfl)
         (wZ (cs':=(aQ cc.toList (f*s+off) (a.eval u).cells.toList).toArray) z g O B (by simp) ?_ (Yv c.w b cc _ M _ B) (λk L=>Yy c.w b k _ L) (by simp) rfl rfl rfl p1 ?_ p2)
        .have a1:¬(a.eval u).cells.size≠i.size:=by rw[p,V,E];simp
         simp[execOp,ho,Instr.storeAt,Instr.sureAddr,storeVar,sizeOf,typeInfo,S,W,p,V,E,m]
        .grind
        .grind
        .grind
      .grind
     .grind
    .grind
   .grind
  .grind
 .grind
end
end
section
variable {FT:Nat->Option Nat}{P:Program}{T:List cS}{a:Act}{agg:Bool}{c:dA}{cs:List AV}{e:Operand}{f fl:Nat}{g:Operand}{i:bB}{k:IntKind}{n:Nat}{o:Oper}{off:Nat}{p q:Operand}{r:Value}{t:TypeId}{tm:List AV}{u v:Value}{x:bB}{y:Operand}
section
theorem Cb[aF](m:bX (aJ T) c)(l:TR (aJ T) c tm a.tmps)(k:o.op=.nilCheck y)(h:aP T x y=true)(g:(∃id tot j off,aG tm x=.ptr id tot j off)\/(∃cs,aG tm x=.rptr cs)\/(∃cs,aG tm x=.sptr cs)\/∃vi caps,aG tm x=.fn vi caps):
 dJ P (aJ T) c fl o a (aG tm x) c.H:=by
 have i:=aX m l h;refine bT (cv:=a.eval y) m ?_ i;rcases g with⟨id,tot,j,off,g⟩ | ⟨cs,g⟩ | ⟨cs,g⟩ | ⟨vi,caps,g⟩<;>rw[g] at i
 .let⟨ad,s,n,e,_⟩:=i.ptr_inv;simp[execOp,k,e]
 .let⟨b,off,cc,p,q,d,e,_⟩:=i.rptr_inv;simp[execOp,k,e]
 .let⟨b,off,cc,p,q,d,e,_⟩:=i.sptr_inv.rptr_inv;simp[execOp,k,e]
 .let⟨f,cv,d,e,_⟩:=i.fn_inv;simp[execOp,k,e]
theorem aJD{a:BinOp}{x y:Int}(h:aAP a k x y=some r)(w:World): (binOp a t (.int k x)<|.int k y).run P w=.ok r w:=by
 cases a<;>simp[aAP] at h<;>subst h<;>simp[binOp,Op.intArith,Op.intCmp]
theorem aEJ{a:BinOp}{k':IntKind}{x y:Int}(w:World): (eqGuard a t p q (.int k x)<|.int k' y).run P w=.ok () w:=by
 unfold eqGuard;split<;>simp
theorem aOx[aF](d:bX (aJ T) c)(b:TR (aJ T) c tm a.tmps){f:BinOp}{y:bB}{h:Operand}{j:TypeId}{n m:Int}(s:o.op=.binOp f t h e j)(p:aP T x h=true)(q:aP T y e=true)(u:aG tm x=.lit (.int k n))(e2:aG tm y=.lit (.int k m))(l:aAP f k n m=some r):
 dJ P (aJ T) c fl o a (.lit r) c.H:=by
 have g:=aX d b p;have i:=aX d b q;rw[u] at g;rw[e2] at i;refine bT (cv:=r) d ?_<|RV.lit r;simp[execOp,s,g.lit_inv,i.lit_inv,aEJ,aJD l]
theorem aCl[aF]: ∀{cs:List AV} {l:List Value},Gv cs=some l->cs=l.map .lit
 | [],l,h=>by simp[Gv] at h;subst h;rfl
 | .lit v::r,l,h=>by
  simp only[Gv] at h;split at h
  .rename_i b a;cases h;rw[aCl a];rfl
  .cases h
 | .undef::_,_,h=>by simp[Gv] at h
 | .sl ..::_,_,h=>by simp[Gv] at h
 | .ms ..::_,_,h=>by simp[Gv] at h
 | .ptr ..::_,_,h=>by simp[Gv] at h
 | .rptr ..::_,_,h=>by simp[Gv] at h
 | .mp ..::_,_,h=>by simp[Gv] at h
 | .fn ..::_,_,h=>by simp[Gv] at h
 | .agg ..::_,_,h=>by simp[Gv] at h
 | .tup ..::_,_,h=>by simp[Gv] at h
theorem JR[aF]{x:AV}(f:RV FT c x v)(h:lits x=some u): v=u:=by
 unfold lits at h;split at h
 .cases h;exact f.lit_inv
 .rename_i cs;split at h
  .rename_i l k;cases h;have e:=aCl k;subst e;obtain⟨cv,b,rfl,n,j,m⟩:=f.agg_inv;congr 1;apply Xj;intro i;by_cases d:i<l.length
   .have g:(l.map AV.lit)[i]?=some (.lit l[i]):=by simp[d]
    have:=(m i _ g).lit_inv;rw[(j i _ g).1,this];simp[d]
   .rw[Yb<|by simp at n;omega,Yb<|by simp;omega]
  .cases h
 .cases h
theorem U3{a:BinOp}{p' q':Operand}(b:uY v=true): eqGuard a t p q v u=eqGuard a t p' q' v u:=by
 unfold eqGuard;cases v<;>first | rfl | (cases u<;>rfl) | (simp[uY] at b)
theorem aEI[aF]{a:BinOp}(b:uY v=true)(h:aN P (eqGuard a t (.tmp 0) (.tmp 0) v u)=some ())(w:World):
 (eqGuard a t p q v u).run P w=.ok () w:=by
 rw[U3 (p':=.tmp 0) (q':=.tmp 0) b];exact cQ h
theorem aRD[aF](e:bX (aJ T) c)(b:TR (aJ T) c tm a.tmps){d:BinOp}{y:bB}{f:Operand}{h:TypeId}(q:o.op=.binOp d t f g h)(i:aP T x f=true)(k:aP T y g=true)(s:lits (aG tm x)=some v)(e2:lits (aG tm y)=some u)(j:uY v=true)(l:aN P (eqGuard d t (.tmp 0) (.tmp 0) v u)=some ())(m:aN P (binOp d t v u)=some r):
 dJ P (aJ T) c fl o a (.lit r) c.H:=by
 have n:=JR (aX e b i) s;have p:=JR (aX e b k) e2;refine bT (cv:=r) e ?_<|RV.lit r;simp[execOp,q,n,p,aEI j l,cQ m]
theorem aUw[aF](e:bX (aJ T) c)(b:TR (aJ T) c tm a.tmps){f:UnOp}{d:Operand}(k:o.op=.unOp f t d)(h:aP T x d=true)(j:aG tm x=.lit v)(i:aN P (Op.unary f v)=some r): dJ P (aJ T) c fl o a (.lit r) c.H:=by
 have g:=aX e b h;rw[j] at g;refine bT (cv:=r) e ?_<|RV.lit r;simp[execOp,k,g.lit_inv,cQ i]
theorem aOz[aF](g:bX (aJ T) c)(b:TR (aJ T) c tm a.tmps){s d:TypeId}(k:o.op=.convert s d e)(h:aP T x e=true)(j:aG tm x=.lit v)(i:aN P (convert s d v)=some r): dJ P (aJ T) c fl o a (.lit r) c.H:=by
 have f:=aX g b h;rw[j] at f;refine bT (cv:=r) g ?_<|RV.lit r;simp[execOp,k,f.lit_inv,cQ i]
theorem aJt[aF](e:bX (aJ T) c)(b:TR (aJ T) c tm a.tmps){f:Operand}(p:o.op=.index t f g)(n:aP T x f=true)(l:aP T i g=true)(k:aG tm x=.lit v)(e2:aG tm i=.lit u)(m:aN P (Instr.index t v u)=some r):
 dJ P (aJ T) c fl o a (.lit r) c.H:=by
 have j:=aX e b n;rw[k] at j;have h:=aX e b l;rw[e2] at h;refine bT (cv:=r) e ?_<|RV.lit r;simp[execOp,p,j.lit_inv,h.lit_inv,cQ m]
theorem TO{e:Array Field}{c:Field}{i:TypeInfo}{ad:Addr}(h:P.underlying t=some (.struct e))(j:e[f]?=some c)(d:c.offset=off)(g:P.info? c.type=some i)(b:i.size≠0)(w:World):
 (Instr.fieldAt t (.pointer<|some ad) f).run P w=.ok (.pointer<|some<|ad.add off) w:=by
 simp[Instr.fieldAt,Zm h,j,Instr.sureAddr,fieldPlace,sizeOf,typeInfo,g,b,d]
theorem Kt[aF](w:bX (aJ T) c)(C:TR (aJ T) c tm a.tmps){E:Array Field}{z:Field}{i:TypeInfo}{v:AV}(G:o.op=.fieldAddr t y f)(h:aP T x y=true)(D:P.underlying t=some (.struct E))(I:E[f]?=some z)(m:z.offset=off)(F:P.info? z.type=some i)(p:i.size≠0)(l:(∃id tot g k,aG tm x=.ptr id tot g k/\v=.ptr id tot g (k+off))\/(∃cs,(aG tm x=.rptr cs\/aG tm x=.sptr cs)/\v=.rptr (cs.drop off))):
 dJ P (aJ T) c fl o a v c.H:=by
 have d:=aX w C h;rcases l with⟨id,tot,g,k,l,rfl⟩ | ⟨cs,l,rfl⟩
 .rw[l] at d;let⟨ad,s,n,r,u,A,B⟩:=d.ptr_inv;refine bT (cv:=.pointer<|some<|ad.add off) w (by simp[execOp,G,r,TO D I m F p]) ?_;refine .ptr id tot g (k+off) _ s n u A λe=>?_;obtain⟨b,M,rfl⟩:=B e;exact⟨b,M,by rw[fK];simp[Yu]⟩
 .replace d:RV (aJ T) c (.rptr cs)<|a.eval y:=by
   rcases l with l | l<;>rw[l] at d
   .exact d
   .exact d.sptr_inv
  let⟨b,k,cc,K,L,q,r,u,A,B,J⟩:=d.rptr_inv;refine bT (cv:=.pointer<|some ⟨b,k+off,none⟩) w (by simp[execOp,G,r,TO D I m F p,fK]) ?_;refine .rptr _ b (k+off) cc K L (λj=>q<|off+j) u A ?_ ?_
  .intro j x d;rw[Zw] at d;have:=B _ x d;rwa [<-Yu] at this
  .intro j x d;rw[Zw] at d;exact J _ x d
theorem aHK[aF]{cv:Array Value}{v:AV}(y:RV FT c (.agg cs)<|.agg cv)(h:Ed P t agg=true)(u:dK P t n=true)(o:off+n<=cs.length)(d:if agg then v=.agg ((cs.drop off).take n) else (cs.drop off).take n=[v])(z:agg=true\/n=1):
 ∃r,(part t cv off).run P c.w=.ok r c.w/\RV FT c v r:=by
 let⟨p,b,e,A,k,g⟩:=y.agg_inv;cases e;let⟨i,s,f⟩:=eL u;cases agg with
 | true=>
  simp only[Zz] at d;subst d;refine⟨.agg<|cv.extract off<|off+n,?_,?_⟩
  .simp[part,Tx h,sizeOf,typeInfo,s,f]
  .refine .agg _ _ (λj=>b<|off+j) (by simp;omega) ?_ ?_
   .intro j x a;rw[Zs] at a;split at a
    .rename_i B;rw[Zw] at a;let⟨q,l⟩:=k _ x a;refine⟨?_,l⟩;rw[Array.getElem?_extract];rw[Zu<|by omega];exact q
    .cases a
   .intro j x a;rw[Zs] at a;split at a
    .rw[Zw] at a;exact g _ x a
    .cases a
 | false=>
  simp only[Zn,Z9] at d;have m:n=1:=by simpa using z
  subst m;have a:cs[off]?=some v:=by
   have:((cs.drop off).take 1)[0]?=some v:=by rw[d];rfl
   rw[Zs,Zu<|by omega,Zw] at this;simpa using this
  refine⟨b off,?_,g off v a⟩;simp[part,Tx h,(k off v a).1]
theorem aDZ[aF](l:bX (aJ T) c)(k:TR (aJ T) c tm a.tmps){p:Array Field}{d:Field}{v:AV}(D:o.op=.field t y f)(h:aP T x y=true)(q:P.underlying t=some (.struct p))(w:p[f]?=some d)(j:d.offset=off)(s:Ed P d.type agg=true)(B:dK P d.type n=true)(z:agg=true\/n=1)(C:aG tm x=.agg cs)(g:off+n<=cs.length)(E:if agg then v=.agg ((cs.drop off).take n) else (cs.drop off).take n=[v]):
 dJ P (aJ T) c fl o a v c.H:=by
 have b:=aX l k h;rw[C] at b;let⟨cv,m,e,_⟩:=b.agg_inv;rw[e] at b;let⟨r,u,A⟩:=aHK (P:=P) b s B g E z;refine bT (cv:=r) l ?_ A;simp[execOp,D,e,Instr.field,Zm q,w,asAgg,j,u]
theorem sM[aF]{x:AV}(a:RV FT c x v)(h:iC x=some n): ∃k,v=.int k n:=by
 unfold iC at h;split at h
 .rename_i k m;split at h
  .rename_i b;cases h;exact⟨k,by rw[a.lit_inv,X7 b]⟩
  .cases h
 .cases h
theorem DK[aF](D:bX (aJ T) c)(F:TR (aJ T) c tm a.tmps){j:Operand}{e:TypeId}{s:Nat}{v:AV}(M:o.op=.indexAddr t y j)(h1:aP T x y=true)(h2:aP T i j=true)(O:P.underlying t=some (.slice e))(R:dK P e s=true)(hn:iC (aG tm i)=some n)(C:(∃f es cs,aG tm x=.sl f es/\es[n]?=some cs/\cs.length=s/\v=.rptr cs)\/(∃es cs,aG tm x=.vw es/\es[n]?=some cs/\cs.length=s/\v=.rptr cs) \/
  (∃id tot off len es,aG tm x=.ms id tot off len/\c.H[id]?=some (.blk s es)/\es.length=tot/\n<len/\v=.ptr id tot (off+n) 0)):
 dJ P (aJ T) c fl o a v c.H:=by
 have g:=aX D F h1;let⟨k,S⟩:=sM (aX D F h2) hn;let⟨ei,A,r⟩:=eL R;rcases C with⟨f,es,cs,C,d,m,rfl⟩ | ⟨es,cs,C,d,m,rfl⟩ | ⟨id,tot,off,len,es,C,G,B,X,rfl⟩<;>rw[C] at g;rotate_left
 .let⟨ad,cap,L,_,V⟩:=g.vw_inv;rcases V with rfl | ⟨b,off,cc,K,W,s',l,rfl,I,J,E,Q,N⟩
  .simp at d
  .have z:s'=s:=by rw[<-m,E cs<|Zg d]
   subst z;have u:n<es.length:=(Ze.1 d).1;refine bT (cv:=.pointer<|some ⟨b,off+n*s',none⟩) D ?_ ?_
   .simp[execOp,M,L,S,Instr.indexAt,asIntOf,Zm O,sizeOf,typeInfo,A,r,u,fK]
   .refine .rptr cs b (off+n*s') cc K W (λj=>l n j) I J ?_ ?_
    .intro j x g;have:=Q n j x (by simp[bM,d,g]);rwa [<-Yu] at this
    .intro j x g;exact N n j x<|by simp[bM,d,g]
 rotate_right
 .have Y:=g.sl_inv;generalize L:a.eval y=w at Y;cases Y with
  | nil=>simp at d
  | sl _ _ b off cap cc K W s' l U I J E g5 g6 Q N=>
   have z:s'=s:=by rw[<-m,E cs<|Zg d]
   subst z;have u:n<es.length:=(Ze.1 d).1;refine bT (cv:=.pointer<|some ⟨b,off+n*s',none⟩) D ?_ ?_
   .simp[execOp,M,L,S,Instr.indexAt,asIntOf,Zm O,sizeOf,typeInfo,A,r,u,fK]
   .refine .rptr cs b (off+n*s') cc K W (λj=>l n j) I.vis J ?_ ?_
    .intro j x g;have:=Q n j x (by simp[bM,d,g]);rwa [<-Yu] at this
    .intro j x g;exact N n j x<|by simp[bM,d,g]
 .let⟨ad,cap,s',n',hv,U,I,J,E⟩:=g.ms_inv;rw[eV G] at U;cases U;let⟨m1,m2⟩:=E B.symm;rcases m2 with⟨_,_,_,Z⟩ | ⟨b,cc,K,a',Z,m4,m5,m6,m7⟩
  .omega
  .have ha:=m7 (by omega);subst ha;subst m6;refine bT (cv:=.pointer<|some ⟨b,off*s+n*s,none⟩) D ?_ ?_
   .simp[execOp,M,hv,S,Instr.indexAt,asIntOf,Zm O,sizeOf,typeInfo,A,r,X,fK]
   .refine .ptr id tot (off+n) 0 _ s _ (eV G) (by omega) λ_=>⟨b,Z,by simp[ZA]⟩
end
end
section
variable {P:Program}{T:List cS}{a:Act}{c:dA}{d:Nat}{e:TypeId}{fl:Nat}{i:bB}{id:Nat}{j:Operand}{m n:Nat}{o:Oper}{r:Value}{s:ByteArray}{t:TypeId}{tm:List AV}{v:AV}{x:bB}{y:Operand}
section
theorem aAA[aF](u:bX (aJ T) c)(l:TR (aJ T) c tm a.tmps){s:Nat}(O:o.op=.indexAddr t y j)(S:aP T x y=true)(K:aP T i j=true)(L:P.underlying t=some (.array m e))(C:dK P e s=true)(I:iC (aG tm i)=some n)(z:n<m)(r:(∃id tot f k,aG tm x=.ptr id tot f k/\v=.ptr id tot f (k+n*s))\/(∃cs,aG tm x=.rptr cs/\v=.rptr (cs.drop<|n*s))):
 dJ P (aJ T) c fl o a v c.H:=by
 have d:=aX u l S;let⟨k,R⟩:=sM (aX u l K) I;let⟨U,F,D⟩:=eL C;have q:∀ad:Addr,a.eval y=.pointer (some ad)->(execOp a.eval o).run P c.w=.ok (.value<|.pointer<|some<|ad.add<|n*s) c.w:=by
  intro ad h;simp[execOp,O,h,R,Instr.indexAt,Instr.sureAddr,asIntOf,Zm L,sizeOf,typeInfo,F,D,z]
 rcases r with⟨id,tot,f,k',r,rfl⟩ | ⟨cs,r,rfl⟩<;>rw[r] at d
 .let⟨ad,s',N,h,A,B,E⟩:=d.ptr_inv;refine bT u (q ad h) ?_;refine .ptr id tot f (k'+n*s) _ s' N A B λe=>?_;obtain⟨b,J,rfl⟩:=E e;exact⟨b,J,by rw[fK];simp[Yu]⟩
 .let⟨b,k',cc,M,G,p,h,A,B,E,Q⟩:=d.rptr_inv;refine bT u (q _ h) ?_;rw[fK];refine .rptr _ b (k'+n*s) cc M G (λj=>p<|n*s+j) A B ?_ ?_
  .intro j x d;rw[Zw] at d;have:=E _ x d;rwa [<-Yu] at this
  .intro j x d;rw[Zw] at d;exact Q _ x d
theorem aDY[aF](l:bX (aJ T) c)(b:TR (aJ T) c tm a.tmps){s:Nat}{agg:Bool}{cs:List AV}(K:o.op=.index t y j)(D:aP T x y=true)(E:aP T i j=true)(G:P.underlying t=some (.array m e))(d:dK P e s=true)(p:Ed P e agg=true)(B:agg=true\/s=1)(J:iC (aG tm i)=some n)(u:n<m)(I:aG tm x=.agg cs)(g:n*s+s<=cs.length)(L:if agg then v=.agg ((cs.drop<|n*s).take s) else (cs.drop<|n*s).take s=[v]): dJ P (aJ T) c fl o a v c.H:=by
 have f:=aX l b D;rw[I] at f;let⟨k,M⟩:=sM (aX l b E) J;let⟨N,h,w⟩:=eL d;let⟨cv,z,A,_⟩:=f.agg_inv;rw[A] at f;let⟨r,C,F⟩:=aHK (P:=P) f p d g L B;refine bT (cv:=r) l ?_ F;simp[execOp,K,A,M,Instr.index,asIntOf,Zm G,sizeOf,typeInfo,h,w,u,C]
theorem aGm[aF](k:bX (aJ T) c)(f:TR (aJ T) c tm a.tmps){i:Nat}{vs:List AV}(p:o.op=.extract y i)(h:aP T x y=true)(n:aG tm x=.tup vs)(g:vs[i]?=some v): dJ P (aJ T) c fl o a v c.H:=by
 have j:=aX k f h;rw[n] at j;let⟨cv,b,e,q,m,l⟩:=j.tup_inv;refine bT (cv:=b i) k ?_<|l i v g;simp[execOp,p,e,Instr.extract,m i v g]
theorem l7[aF](f:bX (aJ T) c)(b:TR (aJ T) c tm a.tmps): ∀{e:List bB} {ys:List Operand},eT T e ys=true->
 e.length=ys.length/\∀(i:Nat) (x:AV),(e.map<|aG tm)[i]?=some x->∃v,(ys.map a.eval)[i]?=some v/\RV (aJ T) c x v
 | [],[],_=>⟨rfl,λi x k=>by simp at k⟩
 | x::r,y::s,h=>by
  simp only[eT,Zd] at h;let⟨j,g⟩:=l7 f b h.2;refine⟨by simp[j],λi z d=>?_⟩;cases i with
  | zero=>
   simp only[ZE,Zt,Za] at d;subst d;exact⟨a.eval y,by simp,aX f b h.1⟩
  | succ i=>
   simp only[ZE,ZL] at d |-;exact g i z d
 | [],_::_,h=>by cases h
 | _::_,[],h=>by cases h
theorem aOv[aF](k:bX (aJ T) c)(d:TR (aJ T) c tm a.tmps){vi f:Nat}{caps:List bB}{cs:Array Operand}(m:o.op=.makeFunc (.func f) #[] cs)(n:aJ T vi=some f)(h:eT T caps cs.toList=true): dJ P (aJ T) c fl o a (.fn vi<|caps.map<|aG tm) c.H:=by
 let⟨p,l⟩:=l7 k d h;refine bT (cv:=.func (.func f) #[]<|cs.map a.eval) k (by simp[execOp,m,Instr.makeFunc]) ?_;refine .fn vi f _ _ (λi=>((cs.toList.map a.eval)[i]?).getD bQ) n (by simpa using p.symm) ?_ ?_
 .intro i x g;let⟨v,b,j⟩:=l i x g;simp only[b,Yp];simpa using b
 .intro i x g;let⟨v,b,j⟩:=l i x g;simpa only[b,Yp] using j
theorem aLu[aF](f:bX (aJ T) c)(d:fl<=c.H.length)(i:o.op=.makeMap t none): dJ P (aJ T) c fl o a (.mp c.H.length)<|c.H++[.mp []]:=by
 refine eO (cv:=.map<|some c.w.heap.size) (w':=c.w.alloc<|.map #[] 0) (β':=upd c.β c.H.length c.w.heap.size) ?_
  (Oi (ob:=.map #[] 0) d rfl rfl rfl rfl λid b j=>f.lt j) (j7 (ob:=.map #[] 0) f rfl rfl rfl rfl ?_ ?_ ?_ λ_ h=>by cases h) ?_
 .simp[execOp,i,Instr.makeMap]
 .intro s es he;cases he
 .intro s es he;cases he
 .intro g he;cases he;exact⟨rfl,0,rfl⟩
 .exact .mp _ _ ⟨.mp [],by simp,trivial⟩<|dF _ _ _
theorem aDX[aF](g:bX (aJ T) c)(d:TR (aJ T) c tm a.tmps)(e:fl<=c.H.length)(p:o.op=.range t y)(h:aP T x y=true)(m:P.underlying t=some .string)(n:aG tm x=.lit (.string s)):
 dJ P (aJ T) c fl o a (.it c.H.length)<|c.H++[.raw<|.stringIter s 0]:=by
 have j:=aX g d h;rw[n] at j;have k:=j.lit_inv;refine eO (cv:=.pointer<|some ⟨c.w.heap.size,0,none⟩) (w':=c.w.alloc<|.stringIter s 0) (β':=upd c.β c.H.length c.w.heap.size) ?_
  (Oi (ob:=.stringIter s 0) e rfl rfl rfl rfl λid b l=>g.lt l) (j7 (ob:=.stringIter s 0) g rfl rfl rfl rfl ?_ ?_ ?_ ?_) ?_
 .simp[execOp,p,Instr.range,Zm m,k]
 .intro s es he;cases he
 .intro s es he;cases he
 .intro i he;cases he
 .intro q he;cases he;rfl
 .exact .it _ _ ⟨.raw<|.stringIter s 0,by simp,trivial⟩<|dF _ _ _
theorem aGi[aF](m:bX (aJ T) c)(p:TR (aJ T) c tm a.tmps)(A:o.op=.next y true)(h:aP T x y=true)(f:aG tm x=.it id)(r:fl<=id)(g:c.H[id]?=some (.raw<|.stringIter s d))(B:d<s.size):
 dJ P (aJ T) c fl o a (.tup [.lit<|.bool true,.lit<|.int .i64 d,.lit<|.int .i32 (Utf8.decode s d).1])<|c.H.set id<|.raw<|.stringIter s<|d+(Utf8.decode s d).2:=by
 have u:=aX m p h;rw[f] at u;let⟨b,z,_,q⟩:=u.it_inv;have v:=m.raw id _ b g q;have l:(getObj b).run P c.w=.ok (.stringIter s d) c.w:=by simp[getObj,Sem.run,v]
 have k:∀ob,(setObj b ob).run P c.w=.ok () { c.w with heap:=c.w.heap.setIfInBounds b ob }:=by
  intro ob;simp[setObj,Sem.run,v]
 refine eO (cv:=.tuple #[.bool true,.int .i64 d,.int .i32 (Utf8.decode s d).1]) (β':=c.β) (w':={ c.w with heap:=c.w.heap.setIfInBounds b (.stringIter s<|d+(Utf8.decode s d).2) }) ?_
  (SO (q':=.stringIter s<|d+(Utf8.decode s d).2) m r g q rfl rfl rfl rfl) (aFH m g q rfl rfl rfl rfl) ?_
 .simp[execOp,A,z,Instr.next,l,k,B,goInt]
 .refine .tup _ _ (λi=>if i=0 then .bool true else if i=1 then .int .i64 d else .int .i32 (Utf8.decode s d).1) rfl ?_ ?_
  .intro i x f;match i with
   | 0=>rfl
   | 1=>rfl
   | 2=>rfl
   | n+3=>simp at f
  .intro i x f;match i with
   | 0=>simp at f;subst f;exact RV.lit _
   | 1=>simp at f;subst f;exact RV.lit _
   | 2=>simp at f;subst f;exact RV.lit _
   | n+3=>simp at f
theorem aGh[aF](g:bX (aJ T) c)(k:TR (aJ T) c tm a.tmps)(r:o.op=.next y true)(h:aP T x y=true)(e:aG tm x=.it id)(j:c.H[id]?=some (.raw<|.stringIter s d))(t:¬d<s.size):
 dJ P (aJ T) c fl o a (.tup [.lit<|.bool false]) c.H:=by
 have m:=aX g k h;rw[e] at m;let⟨b,p,_,u⟩:=m.it_inv;have q:=g.raw id _ b j u;have f:(getObj b).run P c.w=.ok (.stringIter s d) c.w:=by simp[getObj,Sem.run,q]
 refine bT (cv:=.tuple #[.bool false]) g ?_ ?_
 .simp[execOp,r,p,Instr.next,f,t]
 .refine .tup _ _ (λ_=>.bool false) rfl ?_ ?_
  .intro i x e;match i with
   | 0=>rfl
   | n+1=>simp at e
  .intro i x e;match i with
   | 0=>simp at e;subst e;exact RV.lit _
   | n+1=>simp at e
theorem l8[aF](l:bX (aJ T) c)(j:TR (aJ T) c tm a.tmps)(p:o.op=.call ⟨.builtin .len,#[y],#[t]⟩)(h:aP T x y=true)(m:P.underlying t=some (.slice e))(g:(aG tm x=.lit (.slice none 0 0)/\n=0)\/(∃f es,aG tm x=.sl f es/\n=es.length)\/(∃id tot off,aG tm x=.ms id tot off n)\/∃es,aG tm x=.vw es/\n=es.length):
 dJ P (aJ T) c fl o a (.lit<|.int .i64 n) c.H:=by
 have i:=aX l j h;have d:∃ad cap,a.eval y=.slice ad n cap:=by
  rcases g with⟨g,rfl⟩ | ⟨f,es,g,rfl⟩ | ⟨id,tot,off,g⟩ | ⟨es,g,rfl⟩<;>rw[g] at i
  .exact⟨none,0,i.lit_inv⟩
  .have k:=i.sl_inv;generalize a.eval y=w at k;cases k with
   | nil _ ad cap=>exact⟨ad,cap,rfl⟩
   | sl _ _ b off cap=>exact⟨_,cap,rfl⟩
  .let⟨ad,cap,s,q,d,_⟩:=i.ms_inv;exact⟨ad,cap,d⟩
  .let⟨ad,cap,d,_⟩:=i.vw_inv;exact⟨ad,cap,d⟩
 let⟨ad,cap,d⟩:=d;refine bT (cv:=.int .i64 n) l ?_<|RV.lit _;simp[execOp,p,resolve,invoke,builtin,Builtin.len_,Zm m,d,goInt]
theorem aHQ[aF](l:bX (aJ T) c)(f:TR (aJ T) c tm a.tmps)(r:o.op=.call ⟨.builtin .cap,#[y],#[t]⟩)(h:aP T x y=true)(m:P.underlying t=some (.slice e))(d:(aG tm x=.lit (.slice none 0 0)/\n=0)\/(∃es,aG tm x=.sl true es/\n=es.length)):
 dJ P (aJ T) c fl o a (.lit<|.int .i64 n) c.H:=by
 have i:=aX l f h;have g:∃ad len,a.eval y=.slice ad len n:=by
  rcases d with⟨d,rfl⟩ | ⟨es,d,rfl⟩<;>rw[d] at i
  .exact⟨none,0,i.lit_inv⟩
  .have j:=i.sl_inv;generalize a.eval y=w at j;cases j with
   | nil _ ad cap p=>exact⟨ad,0,by rw[p rfl];rfl⟩
   | sl _ _ b off cap cc z C s k A u D B G q E v=>exact⟨_,_,by rw[q rfl]⟩
 let⟨ad,len,g⟩:=g;refine bT (cv:=.int .i64 n) l ?_<|RV.lit _;simp[execOp,r,resolve,invoke,builtin,Builtin.cap_,Zm m,g,goInt]
theorem aBV[aF](p:bX (aJ T) c)(q:TR (aJ T) c tm a.tmps){k:TypeId}(r:o.op=.call ⟨.builtin .len,#[y],#[t]⟩)(h:aP T x y=true)(l:P.underlying t=some (.map k e))(f:(aG tm x=.lit (.map none)/\n=0)\/(∃id d,aG tm x=.mp id/\c.H[id]?=some (.mp d)/\n=d.length)\/∃d,aG tm x=.rmp d/\n=d.length):
 dJ P (aJ T) c fl o a (.lit<|.int .i64 n) c.H:=by
 have g:=aX p q h;refine bT (cv:=.int .i64 n) p ?_<|RV.lit _;rcases f with⟨f,rfl⟩ | ⟨id,d,f,s,rfl⟩ | ⟨d,f,rfl⟩<;>rw[f] at g
 .simp[execOp,r,resolve,invoke,builtin,Builtin.len_,Zm l,g.lit_inv,goInt]
 .let⟨b,u,_,w⟩:=g.mp_inv;let⟨es,i,j,m,_⟩:=p.map id d b s w;simp[execOp,r,resolve,invoke,builtin,Builtin.len_,Zm l,u,goInt,getObj,Sem.run,j,m.1]
 .let⟨b,es,i,v,u,j,m,_⟩:=g.rmp_inv;simp[execOp,r,resolve,invoke,builtin,Builtin.len_,Zm l,u,goInt,getObj,Sem.run,j,m]
theorem aJu[aF](f:bX (aJ T) c)(d:TR (aJ T) c tm a.tmps){v:Value}(g:o.op=.call ⟨.builtin .len,#[y],#[t]⟩)(h:aP T x y=true)(k:aG tm x=.lit v)(j:aN P (Builtin.len_ #[t] 0 #[v])=some r): dJ P (aJ T) c fl o a (.lit r) c.H:=by
 have b:=aX f d h;rw[k] at b;refine bT (cv:=r) f ?_<|RV.lit _;have i:=cQ (w:=c.w) j;have e:Builtin.len_ #[t] o.type #[v]=Builtin.len_ #[t] 0 #[v]:=rfl;simp[execOp,g,resolve,invoke,builtin,b.lit_inv,e,i]
theorem aOw[aF](f:bX (aJ T) c)(b:o.op=.call ⟨.builtin .len,#[y],#[t]⟩)(d:P.underlying t=some (.array n e)): dJ P (aJ T) c fl o a (.lit<|.int .i64 n) c.H:=by
 refine bT (cv:=.int .i64 n) f ?_<|RV.lit _;simp[execOp,b,resolve,invoke,builtin,Builtin.len_,Zm d,goInt]
theorem aA7[aF](p:bX (aJ T) c)(l:TR (aJ T) c tm a.tmps){k:List bB}{ys:Array Operand}{ts:Array TypeId}{vs:List Value}{b:Builtin}(n:o.op=.call ⟨.builtin b,ys,ts⟩)(A:b=.max\/b=.min)(h:eT T k ys.toList=true)(C:Gv (k.map<|aG tm)=some vs)(u:aN P (if b=.max then Builtin.max_ #[] 0 vs.toArray else Builtin.min_ #[] 0 vs.toArray)=some r): dJ P (aJ T) c fl o a (.lit r) c.H:=by
 let⟨y,t⟩:=l7 p l h;have e:=aCl C;have f:ys.map a.eval=vs.toArray:=by
  apply Xj;intro i;have z:vs.length=k.length:=by have:=congrArg List.length e;simpa using this.symm
  by_cases q:i<vs.length
  .have x:(k.map<|aG tm)[i]?=some (.lit vs[i]):=by rw[e];simp[q]
   let⟨v,B,s⟩:=t i _ x;have:=s.lit_inv;subst this;have:(ys.map a.eval)[i]?=some vs[i]:=by simpa using B
   rw[this];simp[q]
  .have D:ys.size=vs.length:=by simpa [z] using y.symm
   rw[Yb<|by simp;omega,Yb<|by simp;omega]
 refine bT (cv:=r) p ?_<|RV.lit _;have j:=cQ (w:=c.w) u;rcases A with rfl | rfl
 .simp only[Zz] at j;have e2:∀(g:Array Value) (m:TypeId),Builtin.max_ ts m g=Builtin.max_ #[] 0 g:=λ_ _=>rfl;simp[execOp,n,resolve,invoke,builtin,f,e2,j]
 .rw[ZF<|by simp] at j;have e2:∀(g:Array Value) (m:TypeId),Builtin.min_ ts m g=Builtin.min_ #[] 0 g:=λ_ _=>rfl;simp[execOp,n,resolve,invoke,builtin,f,e2,j]
end
end
section
variable {FT:Nat->Option Nat}{P:Program}{T:List cS}{a:Act}{c:dA}{cs:List AV}{cv:Array Value}{fl i n:Nat}{o:Oper}{s:Nat}{tm:List AV}{z:List Value}
section
def Bi(FT:Nat->Option Nat)(c:dA)(cs:List AV)(cv:Array Value): Prop:=
 cv.size=cs.length/\∀(j:Nat) (x:AV),cs[j]?=some x->∃v,cv[j]?=some v/\bF v=true/\RV FT c x v
theorem aAR(off:Nat)(v a:Array Value): (v.zipIdx.foldl (λcs (x:Value×Nat)=>cs.setIfInBounds (off+x.2) x.1) a).size=a.size /\
 ∀k,(v.zipIdx.foldl (λcs (x:Value×Nat)=>cs.setIfInBounds (off+x.2) x.1) a)[k]?=if off<=k/\k<off+v.size/\k<a.size then v[k-off]? else a[k]?:=by
 have e:v.zipIdx.foldl (λcs (x:Value×Nat)=>cs.setIfInBounds (off+x.2) x.1) a=(v.toList.zipIdx 0).foldl (λcs (x:Value×Nat)=>cs.setIfInBounds (off+x.2) x.1) a:=by
  rw[<-Array.foldl_toList];simp
 rw[e];have h:=Great.foldl_set off v.toList 0 a;simpa using h
theorem aAS{b:Nat->Option (Nat×Nat)}{a:Array Value}{off size:Nat}{v:Value}{rest:List<|Nat×Value}(d:b i=some (off,size))(e:v.cells.size=size)(f:off+size<=a.size):
 Instr.fill b a ((i,v)::rest)=Instr.fill b (v.cells.zipIdx.foldl (λcs (x:Value×Nat)=>cs.setIfInBounds (off+x.2) x.1) a) rest:=by
 rw[Instr.fill];simp only[d,e];rw[ZF<|by simp;omega]
theorem aC1[aF](A:bX (aJ T) c)(n:TR (aJ T) c tm a.tmps){d:Nat->Option (Nat×Nat)}: ∀(p:List<|Nat×Nat×bB) (q:List<|Nat×Operand) (b cs:List AV) (cv:Array Value),
 Sf T d p q=true->Bi (aJ T) c b cv->TN b (p.map λ(o,s,x)=>(o,s,aG tm x))=some cs->
 ∃r,Instr.fill d cv (q.map λ(i,x)=>(i,a.eval x))=some r/\Bi (aJ T) c cs r
 | [],[],b,cs,cv,_,g,f=>by
  simp only[Yn,TN,Za] at f;subst f;exact⟨cv,rfl,g⟩
 | (off,s,x)::p,(i,y)::q,b,cs,cv,l,g,f=>by
  simp only[Sf,Zd] at l;let⟨⟨B,I⟩,h⟩:=l;have w:d i=some (off,s):=by simpa using B
  simp only[ZE,TN] at f;split at f
  .cases f
  .rename_i ys J;split at f
   .rename_i e;let⟨H,K⟩:=Az (aX A n I) J;have t:(a.eval y).cells.size=s:=H.trans e.1;let⟨L,G⟩:=aAR off (a.eval y).cells cv;have m:Bi (aJ T) c (aQ b off ys)<|(a.eval y).cells.zipIdx.foldl (λcs (x:Value×Nat)=>cs.setIfInBounds (off+x.2) x.1) cv:=by
     refine⟨by rw[L,cN<|by omega];exact g.1,λj z k=>?_⟩;rw[G j];rw[Jw<|by omega] at k;have E:=g.1;split at k
     .rename_i D;rw[ZF<|by omega];exact g.2 j z k
     .rename_i D;split at k
      .rename_i v;rw[Zu<|by omega];exact K _ z k
      .rename_i v;rw[ZF<|by omega];exact g.2 j z k
    let⟨r,C,F⟩:=aC1 A n p q _ cs _ h m f;refine⟨r,?_,F⟩;simp only[ZE];rw[aAS w t<|by rw[g.1];exact e.2];exact C
   .cases f
 | [],_::_,_,_,_,l,_,_=>by cases l
 | (_,_,_)::_,[],_,_,_,l,_,_=>by cases l
theorem Qg[aF](a:∀u∈z,bF u=true): Bi FT c (z.map .lit) z.toArray:=by
 refine⟨by simp,λj x b=>?_⟩;simp only[Zk,Zq] at b;obtain⟨u,d,rfl⟩:=b;exact⟨u,by simpa using d,a u<|Zg d,RV.lit u⟩
theorem aGN(h:Bi FT c cs cv): RV FT c (.agg cs)<|.agg cv:=by
 refine .agg cs cv (λi=>(cv[i]?).getD bQ) h.1 ?_ ?_
 .intro i x a;let⟨v,b,d,_⟩:=h.2 i x a;simp[b,d]
 .intro i x a;let⟨v,b,_,e⟩:=h.2 i x a;simpa [b] using e
theorem aEk{b:List Field}(h:N0 P b=true): ∃a,b.mapM (λf=>(P.info? f.type).map λi=>(f.offset,i.size))=some a /\
 ∀i,a[i]?=Tq P b.toArray i:=by
 induction b with
 | nil=>exact⟨[],by simp,λi=>by simp[Tq]⟩
 | cons f b j=>
  simp only[N0,XM,Zd] at h;let⟨e,g,d⟩:=j h.2;let⟨n,c⟩:=XK.1 h.1;refine⟨(f.offset,n.size)::e,by simp[Wt,c,g],λi=>?_⟩;cases i with
  | zero=>simp[Tq,c]
  | succ i=>
   have:=d i;simp only[ZL,this];simp[Tq]
theorem aL4[aF](y:bX (aJ T) c)(j:TR (aJ T) c tm a.tmps){m:List<|Nat×Nat×bB}{f:Array<|Nat×Operand}{t:TypeId}(G:o.op=.build t f)(E:lR P t z=true)(d:cP P T (.build z m) (.build t f)=true)(B:TN (z.map .lit) (m.map λ(o,s,x)=>(o,s,aG tm x))=some cs):
 dJ P (aJ T) c fl o a (.agg cs) c.H:=by
 let⟨i,v,C,D,h,l⟩:=gM E;simp only[cP,E,Wv] at d;have b:∃r,P.built t (f.map λ(i,x)=>(i,a.eval x)).toList=some r/\Bi (aJ T) c cs r:=by
  have u:(f.map λ(i,x)=>(i,a.eval x)).toList=f.toList.map λ(i,x)=>(i,a.eval x):=by simp
  rw[u];split at d
  .rename_i J q;simp only[Zd] at d;let⟨K,I,F⟩:=aEk d.1;have p:(λi=>K.toArray[i]?)=Tq P J:=by
    funext i;have:=F i;simpa using this
   let⟨r,k,g⟩:=aC1 y j m f.toList _ cs _ d.2 (Qg l) B;refine⟨r,?_,g⟩;unfold Program.built;simp only[C,q,D,I,p,h];exact k
  .rename_i n e q;split at d
   .rename_i L A;let⟨r,k,g⟩:=aC1 y j m f.toList _ cs _ d (Qg l) B;refine⟨r,?_,g⟩;unfold Program.built;simp only[C,q,D,A,h];exact k
   .cases d
  .cases d
 let⟨r,k,g⟩:=b;refine bT (cv:=.agg r) y ?_<|aGN g;simp only[execOp,G,YW,run_build c.w t _ r k,YK,Y4]
def aIQ(FT:Nat->Option Nat)(c:dA)(s:Nat)(es:List<|List AV)(cv:Array Value): Prop:=
 cv.size=es.length*s/\(∀e∈es,e.length=s)/\∀i j x,bM es i j=some x->∃v,cv[i*s+j]?=some v/\bF v=true/\RV FT c x v
theorem aEE[aF](E:bX (aJ T) c)(o:TR (aJ T) c tm a.tmps): ∀(v:List<|Nat×bB) (w:List<|Nat×Operand) (es es':List<|List AV) (cv:Array Value),
 Si T v w=true->aIQ (aJ T) c s es cv->Ri s es (v.map λ(i,x)=>(i,aG tm x))=some es'->
 es'.length=es.length/\∃r,Instr.fill (λi=>some (i*s,s)) cv (w.map λ(i,x)=>(i,a.eval x))=some r/\aIQ (aJ T) c s es' r
 | [],[],es,es',cv,_,f,d=>by
  simp only[Yn,Ri,Za] at d;subst d;exact⟨rfl,cv,rfl,f⟩
 | (i,x)::v,(X,y)::w,es,es',cv,n,f,d=>by
  simp only[Si,Zd,ZC] at n;let⟨⟨rfl,U⟩,g⟩:=n;simp only[ZE,Ri] at d;split at d
  .cases d
  .rename_i ys V;split at d
   .rename_i b;let⟨O,W⟩:=Az (aX E o U) V;have A:(a.eval y).cells.size=s:=O.trans b.1;have D:(i+1)*s<=es.length*s:=Zr s b.2;rw[ZA] at D;let⟨J,N⟩:=aAR (i*s) (a.eval y).cells cv;have q:aIQ (aJ T) c s (es.set i ys)<|(a.eval y).cells.zipIdx.foldl (λcs (x:Value×Nat)=>cs.setIfInBounds (i*s+x.2) x.1) cv:=by
     refine⟨by rw[J];simpa using f.1,?_,?_⟩
     .intro e he;rcases YL he with h | h
      .exact f.2.1 e h
      .rw[h];exact b.1
     .intro k j z I;rw[N];let⟨F,l,t⟩:=cZ I;by_cases C:k=i
      .subst C;have:F=ys:=by
        rw[Z5] at l;simp only[b.2,Zz] at l;exact (ZR l).symm
       subst this;have H:j<s:=by rw[<-b.1];exact (Ze.1 t).1
       have R:=f.1;rw[Zu<|by omega];let⟨u,L,G,S⟩:=W j z t;refine⟨u,?_,G,S⟩;rw[<-L];congr 1;omega
      .rw[getElem?_set_ne' C] at l;have H:j<s:=by rw[<-f.2.1 F<|Zg l];exact (Ze.1 t).1
       have p:¬(i*s<=k*s+j/\k*s+j<i*s+(a.eval y).cells.size/\k*s+j<cv.size):=by
        rcases WZ C with h | h
        .have:(k+1)*s<=i*s:=Zr s h;rw[ZA] at this;omega
        .have:(i+1)*s<=k*s:=Zr s h;rw[ZA] at this;omega
       rw[ZF p];exact f.2.2 k j z<|by simp[bM,l,t]
    let⟨M,r,Q,K⟩:=aEE E o v w _ es' _ g q d;refine⟨by simpa using M,r,?_,K⟩;simp only[ZE];rw[aAS (off:=i*s) (size:=s) rfl A<|by rw[f.1];omega];exact Q
   .cases d
 | [],_::_,_,_,_,n,_,_=>by cases n
 | (_,_)::_,[],_,_,_,n,_,_=>by cases n
theorem d7[aF]{j:Nat}{e:List AV}{x:AV}(h:bM (List.replicate n e) i j=some x): i<n/\e[j]?=some x:=by
 let⟨c,a,b⟩:=cZ h;rw[XP] at a;split at a
 .cases a;exact⟨by assumption,b⟩
 .cases a
theorem Kh[aF]{m:Nat}(h:z.length=s)(k:∀u∈z,bF u=true)(q:cv.toList=z)(t:n<=m):
 (∀e∈List.replicate n (z.map AV.lit),e.length=s)/\∀i j x,bM (List.replicate n<|z.map AV.lit) i j=some x->
  ∃v,((Array.range<|m*s).map (cv[· % cv.size]!))[i*s+j]?=some v/\bF v=true/\RV FT c x v:=by
 refine⟨λe he=>by rw[List.mem_replicate] at he;rw[he.2];simpa using h,λi j x r=>?_⟩;let⟨w,p⟩:=d7 r;simp only[Zk,Zq] at p;obtain⟨u,f,rfl⟩:=p;have d:j<s:=by rw[<-h];exact (Ze.1 f).1
 have g:cv.size=s:=by rw[<-Zx,q,h]
 have l:i*s+j<m*s:=NI (by omega) d;have b:(i*s+j) % cv.size=j:=by rw[g,YN,Nat.mul_add_mod,Vc d]
 refine⟨u,?_,k u<|Zg f,RV.lit u⟩;have o:cv[j]?=some u:=by rw[<-Z8,q];exact f
 simp only[Array.getElem?_map,Array.getElem?_range,l,Zz,Yz,b];rw[getElem!_def,o]
end
end
end Go.Proofs.YtmcgghedgfkjiaaGreatDoor.Av
