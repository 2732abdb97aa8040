/- A part of the proof of a law on transactions. -/
import Derived.Calls
import Derived.Orders
import Derived.LoopN
import Derived.Below
import Derived.KernelRfl
import Derived.Laws.CopyRow
import Derived.Laws.AppendOwn
import Derived.Laws.Entries
import Derived.Great.BuildSlice
import Derived.Laws.Tables
set_option maxRecDepth 100000
set_option maxHeartbeats 4000000
set_option linter.all false
namespace Go.Proofs.YtglfoebmkbglgaaGreatDoor.Av
open Go
def Za:=@List.getElem?_eq_getElem
def Zb:=@Option.some.injEq
def Zc:=@Nat.eq_of_beq_eq_true
def Zd:=@Bool.and_eq_true
def Ze:=@List.getElem?_eq_some_iff
def Zf:=@List.mem_of_getElem?
def Zg:=@Nat.le_refl
def Zh:=@of_decide_eq_true
def Zi:=@List.length_append
def Zj:=@Prod.mk.injEq
def Zk:=@of_decide_eq_false
def Zl:=@List.getElem?_map
def Zm:=@Bool.false_eq_true
def Zn:=@Nat.le_of_ble_eq_true
def Zo:=@run_underlying
def Zp:=@List.getElem?_append_left
def Zq:=@Option.map_eq_some_iff
def Zr:=@Nat.mul_le_mul_right
def Zs:=@List.getElem?_take
def Zt:=@List.getElem?_cons_zero
def Zu:=@if_pos
def Zv:=@List.getElem?_set_ne
def Zw:=@List.getElem?_drop
def Zx:=@Array.length_toList
def Zy:=@if_true
def Zz:=@List.getElem?_eq_none
def ZA:=@Nat.add_mul
def ZB:=@Nat.le_trans
def ZC:=@List.take_of_length_le
def ZD:=@List.mem_append
def ZE:=@Option.some.inj
def ZF:=@Nat.zero_le
def ZG:=@if_neg
def ZH:=@List.map_cons
def ZI:=@beq_iff_eq
def ZJ:=@List.mem_singleton
def ZK:=@List.length_take
def ZL:=@Nat.lt_or_ge
def ZM:=@List.length_eq_zero_iff
def ZN:=@List.getElem?_cons_succ
def ZO:=@List.mem_cons
def ZP:=@List.mem_cons_self
def ZQ:=@Option.bind_some
def ZR:=@List.length_map
def ZS:=@List.getElem_mem
def ZU:=@List.mem_cons_of_mem
def ZV:=@List.map_congr_left
def ZW:=@Array.getElem?_push
def ZX:=@List.length_drop
def ZY:=@List.getElem?_append_right
def ZZ:=@Nat.zero_add
def Z0:=@Nat.le_add_right
def Z1:=@List.mem_of_mem_drop
def Z2:=@List.length_nil
def Z3:=@decide_eq_true_eq
def Z4:=@if_false
def Z5:=@List.length_cons
def Z6:=@Array.getElem?_toList
def Z7:=@List.getElem?_set_self
def Z8:=@List.getElem?_set
def Z9:=@Array.getElem?_eq_getElem
def Ya:=@List.mem_of_mem_take
def Yb:=@List.mem_map
def Yc:=@List.map_map
def Yd:=@Array.getElem?_eq_none
def Ye:=@List.length_singleton
def Yf:=@List.append_assoc
def Yg:=@Array.getD_eq_getD_getElem?
def Yh:=@List.all_eq_true
def Yi:=@decide_eq_true
def Yj:=@List.take_append_of_le_length
def Yk:=@List.mem_iff_getElem?
def Yl:=@List.getElem?_append
def Ym:=@List.ext_getElem?
def Yn:=@List.map_nil
def Yo:=@Option.getD_some
def Yp:=@Nat.min_eq_left
def Yq:=@List.length_set
def Yr:=@Nat.le_succ
def Ys:=@List.flatten_cons
def Yt:=@Nat.add_assoc
def Yu:=@setRow_heap
def Yv:=@Nat.one_mul
def Yw:=@Nat.ble_eq_true_of_le
def Yx:=@setRow_other
def Yy:=@Option.map_some
def Yz:=@not_false_eq_true
def YA:=@Int.toNat_natCast
def YB:=@List.drop_zero
def YC:=@Array.getElem?_setIfInBounds_ne
def YD:=@Nat.not_lt_zero
def YE:=@Nat.ne_of_beq_eq_false
def YF:=@Nat.blt_eq
def YG:=@Bool.not_eq_true'
def YH:=@Array.getElem?_modify
def YI:=@decide_eq_false
def YJ:=@List.map_append
def YK:=@Result.andThen_ok
def YL:=@List.mem_or_eq_of_mem_set
def YM:=@List.length_replicate
def YN:=@Nat.lt_of_lt_of_le
def YO:=@Nat.mul_comm
def YP:=@Bool.not_true
def YQ:=@List.eq_nil_of_length_eq_zero
def YR:=@List.take_add_one
def YS:=@List.size_toArray
def YT:=@Nat.zero_mul
def YU:=@Nat.sub_mul
def YV:=@List.getD_eq_getElem?_getD
def YW:=@List.take_append_drop
def YX:=@Bool.or_eq_true
def YY:=@run_storeCells_at
def YZ:=@Sem.run_bind
def Y2:=@List.getElem?_range
def Y3:=@and_self
def Y4:=@Nat.add_sub_cancel_left
def Y5:=@List.drop_left
def Y6:=@wpOps_cons
def Y7:=@Sem.run_pure
def Y8:=@Nat.beq_refl
def Y9:=@List.drop_of_length_le
def Xa:=@List.take_take
def Xb:=@List.mem_iff_getElem
def Xc:=@Array.getElem?_eq_some_iff
def Xd:=@Array.getElem?_append_left
def Xe:=@wp_region
def Xf:=@Nat.add_zero
def Xg:=@List.flatten_nil
def Xh:=@IntKind.wrap_i64
def Xi:=@List.mem_of_find?_eq_some
def Xj:=@List.drop_eq_getElem_cons
def Xk:=@Nat.le_add_left
def Xl:=@List.nil_append
def Xm:=@List.forIn_cons
def Xn:=@Bool.eq_iff_iff
def Xo:=@Nat.eq_zero_or_pos
def Xp:=@List.forIn_toArray
def Xq:=@Int.mul_nonpos_of_nonneg_of_nonpos
def Xr:=@Array.ext_getElem?
def Xs:=@wp_seq
def Xt:=@Nat.mul_le_mul
def Xu:=@Nat.le_succ_of_le
def Xv:=@List.take_left
def Xw:=@List.forIn_nil
def Xx:=@List.getElem!_eq_getElem?_getD
def Xy:=@Array.ext'
def Xz:=@Bool.and_self
def XA:=@Int.le_refl
def XB:=@List.append_nil
def XC:=@Array.size_push
def XD:=@List.flatten_append
def XF:=@Nat.succ_mul
def XG:=@Nat.ne_of_lt
def XH:=@List.map_set
def XI:=@wp_loop_rounds
def XJ:=@List.findIdx?_cons
def XK:=@List.drop_drop
def XL:=@Bool.false_ne_true
def XM:=@List.getElem?_eq_none_iff
def XN:=@Int.mul_left_comm
def XO:=@wp_cond_false
def XP:=@Option.isSome_iff_exists
def XQ:=@List.getElem?_take_of_lt
def XR:=@List.all_cons
def XS:=@Array.getElem?_replicate
def XT:=@ne_eq
def XU:=@List.take_length
def XV:=@List.getElem?_replicate
def XW:=@Array.ext
def XX:=@Nat.sub_self
def XY:=@Addr.add_lit
def XZ:=@List.cons.injEq
def X3:=@Array.getElem?_append
def X4:=@size_zeroCells
def X5:=@DataW.trod_int
def X6:=@Bool.not_false
def X7:=@run_firstCells_some
def X9:=@beq_eq_false_iff_ne
def Wa:=@List.take_set_of_le
def Wb:=@Int.toNat_of_nonneg
def Wc:=@List.map_take
def We:=@List.map_drop
def Wf:=@Int.natCast_nonneg
def Wg:=@wp_cond_true
def Wh:=@true_and
def Wi:=@bne_self_eq_false
def Wj:=@Nat.add_comm
def Wk:=@Array.size_append
def Wl:=@eq_of_beq
def Wm:=@Option.getD_none
def Wn:=@Nat.lt_succ_self
def Wo:=@Array.eq_empty_of_size_eq_zero
def Wp:=@Nat.min_def
def Wq:=@Int.natCast_mul
def Wr:=@heap_alloc_new
def Ws:=@List.take_zero
def Wt:=@List.mem_range
def Wu:=@List.mapM_cons
def Ww:=@Bool.true_and
def Wx:=@decide_eq_false_iff_not
def Wy:=@eq_comm
def Wz:=@dif_pos
def WA:=@Nat.sub_zero
def WB:=@Nat.le_total
def WD:=@List.drop_eq_nil_of_le
def WE:=@Int.mul_comm
def WG:=@List.set_getElem_self
def WH:=@List.getElem?_toArray
def WI:=@Array.getElem?_mapIdx
def WJ:=@wp_block
def WM:=@grownCap_ge
def WN:=@Nat.div_one
def WP:=@Nat.div_lt_of_lt_mul
def WQ:=@List.map_id
def WR:=@List.getElem?_of_mem
def WS:=@List.drop_eq_nil_iff
def WT:=@Int.mul_pos
def WU:=@Bool.or_eq_false_iff
def WV:=@List.mem_map_of_mem
def WW:=@List.length_pos_iff
def WY:=@Nat.pos_of_ne_zero
def WZ:=@Nat.lt_or_gt_of_ne
def W4:=@List.find?_eq_none
def W5:=@wp_skip
def W6:=@List.reverse_cons
def W7:=@Function.comp_def
def W8:=@DataW.trod_struct
def W9:=@Array.toList_push
def Va:=@Array.getElem_map
def Vb:=@mem_ready
def Vc:=@Nat.mod_eq_of_lt
def Vd:=@List.isEmpty_iff
def Ve:=@List.countP_cons
def Vf:=@List.cons_append
def Vh:=@And.intro
inductive AV where
 | undef
 | lit (v:Value)
 | sl (full:Bool) (es:List (List AV))
 | ms (id tot off len:Nat)
 | ptr (id tot idx off:Nat)
 | rptr (cs:List AV)
 | sptr (cs:List AV)
 | vw (es:List (List AV))
 | rmp (ents:List (Value×AV))
 | mp (id:Nat)
 | it (id:Nat)
 | fn (vi:Nat) (caps:List AV)
 | agg (cs:List AV)
 | tup (vs:List AV)
 deriving Inhabited
inductive dK where
 | blk (s:Nat) (es:List (List AV))
 | mp (ents:List (Value×AV))
 | raw (ob:Obj)
 deriving Inhabited
abbrev aY:=List dK
structure St where
 tmps:List AV
 heap:aY
inductive bC where
 | tmp (t:Nat)
 | lit (v:Value)
 | agg (vs:List Value)
 | fn (vi:Nat)
 | glob (g:Nat)
abbrev CF:=Nat->Nat->List AV->aY->Option (AV×aY)
def Le(cf cf':CF): Prop:=∀fl vi args H x,cf fl vi args H=some x->cf' fl vi args H=some x
structure U4 where
 run:CF->Nat->List AV->aY->Option (AV×aY)
 mono:∀cf cf',Le cf cf'->∀fl args H x,run cf fl args H=some x->run cf' fl args H=some x
abbrev qJ(g:Nat->List AV->aY->Option (AV×aY)): U4:=⟨λ_=>g,λ_ _ _ _ _ _ _ h=>h⟩
class aG where
 tab:Nat->Option (List AV)
 ok:Nat->Array Value->Prop:=λ_ _=>True
 prim:Nat->Option U4:=λ_=>none
inductive Ia where
 | mov (x:bC)
 | movN (x:bC)
 | pick (c a b:bC)
 | alloc (z:List Value)
 | claim (s:Nat)
 | allocC (z:List Value) (cl:List (Nat×Nat))
 | box (x:bC)
 | build (z:List Value) (parts:List (Nat×Nat×bC))
 | buildSl (pu:Bool) (s n:Nat) (z:List Value) (parts:List (Nat×bC))
 | load (agg:Bool) (n:Nat) (x:bC)
 | store (n:Nat) (x v:bC)
 | nilCheck (x:bC)
 | ibin (op:BinOp) (x y:bC)
 | bin (op:BinOp) (t:TypeId) (x y:bC)
 | un (op:UnOp) (x:bC)
 | conv (src dst:TypeId) (x:bC)
 | fieldAddr (off:Nat) (x:bC)
 | field (agg:Bool) (n off:Nat) (x:bC)
 | idxAddr (s:Nat) (x i:bC)
 | idxArr (s n:Nat) (x i:bC)
 | index (agg:Bool) (s n:Nat) (x i:bC)
 | strIdx (t:TypeId) (x i:bC)
 | slice (s:Nat) (x:bC) (lo hi mx:Option bC)
 | strSlice (t:TypeId) (x:bC) (lo hi:Option bC)
 | mkSlice (s:Nat) (z:List Value) (bytes:Nat) (len cap:bC)
 | mkMap
 | lookup (kt:TypeId) (z:bC) (m k:bC) (ok:Bool)
 | mapUpd (kt:TypeId) (m k v:bC)
 | lenS (x:bC)
 | lenM (x:bC)
 | lenStr (t:TypeId) (x:bC)
 | lenC (n:Nat)
 | append (s bytes:Nat) (x y:bC)
 | appendZ (s bytes:Nat) (z:List Value) (x n:bC)
 | copy (s:Nat) (x y:bC)
 | clear (s:Nat) (z:List Value) (x:bC)
 | delete (kt:TypeId) (m k:bC)
 | minmax (mx:Bool) (xs:List bC)
 | mkFn (vi:Nat) (caps:List bC)
 | call (pu:Bool) (vi:Nat) (args:List bC)
 | callv (pu:Bool) (x:bC) (args:List bC)
 | callF (vi:Nat) (args:List bC)
 | callT (s vi:Nat) (args:List bC)
 | callB (vi:Nat) (args:List bC)
 | callS (vi:Nat) (args:List bC)
 | capS (x:bC)
 | extract (x:bC) (i:Nat)
 | freeze (x:bC)
 | loadF (n k:Nat) (x:bC)
 | appendP (s bytes:Nat) (x y:bC)
 | rangeStr (x:bC)
 | nextStr (x:bC)
structure bU where
 dst:Option Nat
 op:Ia
 guard:Option (Nat×Bool)
inductive bV where
 | skip
 | region (draw:Bool) (ck:List (Nat×Nat)) (ops:List bU)
 | seq (a b:bV)
 | cond (c:bC) (a b:bV)
 | block (id:Nat) (c:bV)
 | loop (live:Option (List Bool)) (tr:Bool) (c:bV)
 | exit (id:Nat)
 | ret
 | frz (t:Nat) (c:bV)
 | mask (lx lr:List Bool) (tr:Bool) (c:bV)
 | told (li lx lr:List Bool) (c:bV)
 | scope (c:bV)
 | nilIf (t d0 d1:Nat) (a b:bV)
 | loopV (live lx lr:List Bool) (t:Nat) (c:bV)
 | stop
inductive U7 where
 | tmp (t:Nat)
 | cell (t n:Nat) (agg:Bool)
structure cS where
 fid:Nat
 nt:Nat
 rets:List U7
 body:bV
inductive cY where
 | normal
 | exit (id:Nat)
 | ret
def bQ: Value:=.slice none 0 0
def bP: Value:=.tuple #[]
def aR{α:Type}(P:Program): Sem α->Option α
 | .pure a=>some a
 | .program k=>aR P (k P)
 | .mark _ k=>aR P k
 | _=>none
def bE: Value->Bool
 | .agg _=>false
 | .tuple _=>false
 | _=>true
def uH: Value->Bool
 | .nilIface=>false
 | _=>true
def cellsOf: AV->Option (List AV)
 | .undef=>none
 | .tup _=>none
 | .agg cs=>some cs
 | .lit v=>if bE v then some [.lit v] else none
 | v=>some [v]
def rS(v:Value): AV:=match v with
 | .slice a l c=>match a with
  | none=>match l with
   | 0=>match c with
    | 0=>.sl false []
    | _=>.lit v
   | _=>.lit v
  | _=>.lit v
 | _=>.lit v
def nrm: AV->AV
 | .lit v=>rS v
 | .sl _ es=>.sl false es
 | v=>v
def IV: AV->AV
 | .agg cs=>.agg (cs.map nrm)
 | v=>nrm v
def Ek: AV->AV
 | .lit v=>rS v
 | .sl _ es=>.sl false es
 | .sptr cs=>.sptr cs
 | .rmp ents=>.rmp ents
 | _=>.undef
def rd(H:aY): AV->Option (List (List AV))
 | .lit (.slice none 0 0)=>some []
 | .sl _ es=>some es
 | .vw es=>some es
 | .ms id tot off len=>
  match H[id]? with
  | some (.blk _ es)=>if es.length=tot then some ((es.drop off).take len) else none
  | _=>none
 | _=>none
def eD(H:aY)(n:Nat): Nat->AV->AV
 | _,.lit v=>rS v
 | _,.sl _ es=>.sl false es
 | _,.sptr cs=>.sptr cs
 | _,.rmp ents=>.rmp ents
 | d+1,.mp id=>
  if n<=id then match H[id]? with
   | some (.mp ents)=>.rmp (ents.map λe=>(e.1,eD H n d e.2))
   | _=>.undef
  else .undef
 | d+1,.ms id tot off len=>
  if n<=id then match rd H (.ms id tot off len) with
   | some es=>.sl false (es.map λe=>e.map (eD H n d))
   | none=>.undef
  else .undef
 | _,_=>.undef
def eZ: Nat:=6
def gE(H:aY)(n:Nat): AV->AV
 | .lit v=>rS v
 | .sl _ es=>.sl false es
 | .sptr cs=>.sptr cs
 | .rmp ents=>.rmp ents
 | .ms id tot off len=>if id<n then .ms id tot off len else eD H n eZ (.ms id tot off len)
 | .ptr id tot idx off=>if id<n then .ptr id tot idx off else .undef
 | .mp id=>if id<n then .mp id else eD H n eZ (.mp id)
 | .fn vi []=>.fn vi []
 | _=>.undef
def eA(H:aY)(n:Nat): AV->AV
 | .agg cs=>.agg (cs.map (gE H n))
 | v=>gE H n v
def fA(H:aY)(n:Nat): AV->AV
 | .tup vs=>.tup (vs.map (eA H n))
 | v=>eA H n v
def mH(n:Nat): AV->AV
 | .lit v=>.lit v
 | .it id=>if id<n then .it id else .undef
 | .sl f es=>.sl f es
 | .rptr cs=>.rptr cs
 | .sptr cs=>.sptr cs
 | .vw es=>.vw es
 | .rmp ents=>.rmp ents
 | .ms id tot off len=>if id<n then .ms id tot off len else .undef
 | .ptr id tot idx off=>if id<n then .ptr id tot idx off else .undef
 | .mp id=>if id<n then .mp id else .undef
 | .fn vi []=>.fn vi []
 | _=>.undef
def jP(n:Nat): AV->AV
 | .fn vi caps=>.fn vi (caps.map (mH n))
 | v=>mH n v
def Qj(n:Nat): AV->AV
 | .agg cs=>.agg (cs.map (jP n))
 | v=>jP n v
def Qi(n:Nat): AV->AV
 | .tup vs=>.tup (vs.map (Qj n))
 | v=>Qj n v
def Fc: List AV->Option (List Value)
 | []=>some []
 | .lit v::r=>match Fc r with | some l=>some (v::l) | none=>none
 | _::_=>none
def lits: AV->Option Value
 | .lit v=>some v
 | .agg cs=>match Fc cs with | some l=>some (.agg l.toArray) | none=>none
 | _=>none
def aH[aG](tm:List AV): bC->AV
 | .glob g=>match aG.tab g with | some cs=>.rptr cs | none=>.undef
 | .tmp t=>match tm[t]? with | some v=>v | none=>.lit bP
 | .lit v=>.lit v
 | .agg vs=>.agg (vs.map .lit)
 | .fn vi=>.fn vi []
def aGS: AV->Bool
 | .lit _=>true
 | .tup vs=>vs.all λv=>match v with | .lit _=>true | _=>false
 | _=>false
def eK(H:aY)(x:AV)(n:Nat): Option (List AV):=
 match x with
 | .ptr id tot idx off=>
  match H[id]? with
  | some (.blk _ es)=>
   if es.length=tot then
    match es[idx]? with
    | some e=>if off+n<=e.length then some ((e.drop off).take n) else none
    | none=>none
   else none
  | _=>none
 | .rptr cs=>if n<=cs.length then some (cs.take n) else none
 | .sptr cs=>if n<=cs.length then some (cs.take n) else none
 | _=>none
def aU{α:Type}(e:List α)(off:Nat)(cs:List α): List α:=e.take off++(cs++e.drop (off+cs.length))
def vY(fl:Nat)(H:aY)(x:AV)(cs:List AV): Option aY:=
 match x with
 | .ptr id tot idx off=>
  if fl<=id then
   match H[id]? with
   | some (.blk s es)=>
    if es.length=tot then
     match es[idx]? with
     | some e=>if off+cs.length<=e.length then some (H.set id (.blk s (es.set idx (aU e off cs)))) else none
     | none=>none
    else none
   | _=>none
  else none
 | _=>none
def aAs(op:BinOp)(k:IntKind)(a b:Int): Option Value:=
 match op with
 | .add=>some (.int k (k.wrap (a+b)))
 | .sub=>some (.int k (k.wrap (a-b)))
 | .mul=>some (.int k (k.wrap (a*b)))
 | .eql=>some (.bool (a==b))
 | .neq=>some (.bool (a != b))
 | .lss=>some (.bool (a<b))
 | .leq=>some (.bool (a<=b))
 | .gtr=>some (.bool (a > b))
 | .geq=>some (.bool (a>=b))
 | _=>none
def TG(cells:List AV): List (Nat×Nat×AV)->Option (List AV)
 | []=>some cells
 | (off,size,v)::rest=>
  match cellsOf v with
  | none=>none
  | some cs=>if cs.length=size/\off+size<=cells.length then TG (aU cells off cs) rest else none
def Pp(s:Nat)(es:List (List AV)): List (Nat×AV)->Option (List (List AV))
 | []=>some es
 | (i,v)::rest=>
  match cellsOf v with
  | none=>none
  | some cs=>if cs.length=s/\i<es.length then Pp s (es.set i cs) rest else none
def gV: AV->Option Nat
 | .lit (.int _ n)=>if 0<=n then some n.toNat else none
 | _=>none
def eC[aG](tm:List AV): Option bC->Option (Option Nat)
 | none=>some none
 | some x=>match gV (aH tm x) with | some n=>some (some n) | none=>none
def fG(s:Nat)(es:List (List AV)): Bool:=es.all λe=>e.length==s
def Kd: List (List AV)->Option (List Int)
 | []=>some []
 | e::r=>match e with
  | [.lit (.int .u8 n)]=>match Kd r with
   | some l=>some (n::l)
   | none=>none
  | _=>none
def NG(ns:List Int): ByteArray:=ns.foldl (λr n=>r.push (UInt8.ofNat n.toNat)) ByteArray.empty
def aBF(P:Program)(src dst:TypeId): Bool:=match P.underlying src with
 | some (.slice e)=>match P.underlying e with
  | some (.int .u8)=>match P.underlying dst with
   | some .string=>true
   | _=>false
  | _=>false
 | _=>false
def jX(P:Program)(kt:TypeId)(k:Value)(ents:List (Value×AV)): Option (Option Nat):=
 match aR P (Instr.findKey kt k (ents.map λe=>{ key:=e.1,val:=.bool false,born:=0 })) with
 | some (some (i,_))=>some (some i)
 | some none=>some none
 | none=>none
def lF(s:Nat): List (List AV)->Bool
 | []=>true
 | e::_=>e.length==s
def gN(H:aY)(s:Nat)(x:AV)(lo hi mx:Option Nat): Option AV:=
 match x with
 | .lit (.slice none 0 0)=>if lo.getD 0=0/\hi.getD 0=0/\mx.getD 0=0/\(mx.isSome->hi.isSome) then some (.lit bQ) else none
 | .sl f es=>
  match mx with
  | none=>
   let h:=hi.getD es.length
   let l:=lo.getD 0
   if l<=h/\h<=es.length/\lF s es=true then some (.sl (f&&h==es.length) ((es.take h).drop l)) else none
  | some m=>
   match hi with
   | none=>none
   | some h=>
    let l:=lo.getD 0
    if l<=h/\h<=m/\m<=es.length/\lF s es=true then some (.sl (h==m) ((es.take h).drop l)) else none
 | .vw es=>
  match mx with
  | none=>
   let h:=hi.getD es.length
   let l:=lo.getD 0
   if l<=h/\h<=es.length/\lF s es=true then some (.vw ((es.take h).drop l)) else none
  | some m=>
   match hi with
   | none=>none
   | some h=>if lo.getD 0=0/\h=0/\m=0 then some (.sl true []) else none
 | .ms id tot off len=>
  match mx with
  | none=>
   let h:=hi.getD len
   let l:=lo.getD 0
   match H[id]? with
   | some (.blk s' es)=>if l<=h/\h<=len/\s'=s then some (.ms id tot (off+l) (h-l))
    else if l<=h/\off+h<=tot/\es.length=tot/\0<s/\s'=s then some (.ms id tot (off+l) (h-l)) else none
   | _=>none
  | some m=>
   match hi with
   | none=>none
   | some h=>
    let l:=lo.getD 0
    if l=h/\h=m/\m<=len then some (.sl true []) else if l<=h/\h<=m/\m<=len then some .undef else none
 | _=>none
def dF(H:aY): AV->AV
 | .lit v=>match rS v with
  | .lit u=>.lit u
  | _=>.vw []
 | .sl _ es=>.vw es
 | .vw es=>.vw es
 | .rptr cs=>.rptr cs
 | .sptr cs=>.sptr cs
 | .rmp ents=>.rmp ents
 | .ms id tot off len=>match rd H (.ms id tot off len) with
  | some es=>.vw (es.map λe=>e.map Ek)
  | none=>.undef
 | .fn vi []=>.fn vi []
 | _=>.undef
def cK(H:aY): AV->AV
 | .agg cs=>.agg (cs.map (dF H))
 | v=>dF H v
def aL9: AV->Bool
 | .lit _=>true
 | _=>false
def SN(s:Nat)(H':aY): AV->Option (List (List AV))
 | .ms id tot off len=>match Nat.beq off 0&&Nat.beq len tot with
  | false=>none
  | true=>match H'[id]? with
   | none=>none
   | some o=>match o with
    | .blk s' es=>match Nat.beq es.length tot&&Nat.beq s' s with
     | true=>some (es.map λe=>e.map (eD (H'.set id (.blk s (es++[List.replicate s .undef]))) 0 eZ))
     | false=>none
    | _=>none
 | .lit v=>match v with
  | .slice a len cap=>match a with
   | none=>match Nat.beq len 0&&Nat.beq cap 0 with
    | true=>some []
    | false=>none
   | some _=>none
  | _=>none
 | _=>none
def Vy(s:Nat)(H:aY)(q:Option (AV×aY)): Option (AV×aY):=match q with
 | none=>none
 | some p=>match p.1 with
  | .tup cs=>match cs with
   | []=>none
   | x::l=>match l.all aL9 with
    | false=>none
    | true=>match SN s p.2 x with
     | none=>none
     | some rows=>some (.tup (.ms H.length rows.length 0 rows.length::l),H++[.blk s rows])
  | r=>match SN s p.2 r with
   | none=>none
   | some rows=>some (.ms H.length rows.length 0 rows.length,H++[.blk s rows])
def lA(n bytes:Nat): Bool:=n*bytes<=2 ^ 40&&n<=2 ^ 40
def cR(fl:Nat)(H:aY)(s bytes:Nat)(x:AV)(ys:List (List AV)): Option (AV×aY):=
 if fG s ys=true/\0<s/\lA ys.length bytes=true then
  match x with
  | .lit (.slice none 0 0)=>
   if ys.length=0 then some (x,H) else some (.ms H.length ys.length 0 ys.length,H++[.blk s ys])
  | .sl f es=>
   if ys.length=0 then some (x,H)
   else if f=true/\fG s es=true/\lA (es.length+ys.length) bytes=true then
    some (.ms H.length (es.length+ys.length) 0 (es.length+ys.length),H++[.blk s (es++ys)])
   else none
  | .ms id tot off len=>
   match H[id]? with
   | some (.blk s' es)=>
    if s'=s/\es.length=tot/\lA (tot+ys.length) bytes=true then
     if ys.length=0 then some (x,H)
     else if fl<=id then
      if off=0/\len=tot then
       some (.ms id (tot+ys.length) 0 (tot+ys.length),H.set id (.blk s (es++ys)))
      else if off+len+ys.length<=tot then
       some (.ms id tot off (len+ys.length),H.set id (.blk s (aU es (off+len) ys)))
      else none
     else none
    else none
   | _=>none
  | _=>none
 else none
def aK7: AV->Option (List (List AV))
 | .lit (.slice none 0 0)=>some []
 | .sl _ ys=>some ys
 | _=>none
def aSg(s bytes:Nat)(x y:AV): Option AV:=match x with
 | .sl f es=>match f with
  | true=>match es with
   | []=>match aK7 y with
    | some ys=>if fG s ys=true/\0<s/\lA ys.length bytes=true then some (.sl false (ys.map λe=>e.map Ek)) else none
    | none=>none
   | _::_=>none
  | false=>none
 | _=>none
def nZ(n:Nat)(cs:List AV): List (Nat×Nat)->List AV
 | []=>cs
 | (o,_)::r=>nZ (n+1) (cs.set o (.ms n 0 0 0)) r
def Ji: AV->Bool
 | .undef=>true
 | .lit _=>true
 | .sl _ _=>true
 | .rptr _=>true
 | .sptr _=>true
 | .rmp _=>true
 | .fn _ []=>true
 | _=>false
def Oi: List AV->Bool
 | []=>true
 | x::r=>match Ji x with | true=>Oi r | false=>false
def rQ: AV->Bool
 | .agg cs=>Oi cs
 | v=>Ji v
def gI: List AV->Bool
 | []=>true
 | x::r=>match rQ x with | true=>gI r | false=>false
section
variable (P:Program)(cf:Nat->Nat->List AV->aY->Option (AV×aY))(fl:Nat)
def Db(pu:Bool)(vi:Nat)(args:List AV)(H:aY): Option (AV×aY):=
 match pu with
 | true=>
  match gI args with
  | true=>
   match cf 0 vi (args.map IV) [] with
   | some (r,H')=>some (fA H' 0 r,H)
   | none=>none
  | false=>
   match cf H.length vi (args.map IV) H with
   | some (r,H')=>some (fA H' H.length r,H)
   | none=>none
 | false=>cf fl vi args H
def aQ[aG](op:Ia)(tm:List AV)(H:aY): Option (AV×aY):=
 match op with
 | .mov x=>some (aH tm x,H)
 | .movN x=>some (IV (aH tm x),H)
 | .pick c a b=>match aH tm c with
  | .lit (.bool t)=>some (if t then aH tm a else aH tm b,H)
  | _=>none
 | .alloc z=>some (.ptr H.length 1 0 0,H++[.blk z.length [z.map .lit]])
 | .claim s=>some (.ms H.length 0 0 0,H++[.blk s []])
 | .allocC z cl=>some (.ptr (H.length+cl.length) 1 0 0,
  (H++cl.map λc=>.blk c.2 [])++[.blk z.length [nZ H.length (z.map .lit) cl]])
 | .box x=>match cellsOf (aH tm x) with
  | some cs=>some (.ptr H.length 1 0 0,H++[.blk cs.length [cs]])
  | none=>none
 | .build z parts=>match TG (z.map .lit) (parts.map λ(o,s,x)=>(o,s,aH tm x)) with
  | some cs=>some (.agg cs,H)
  | none=>none
 | .buildSl pu s n z parts=>match Pp s (List.replicate n (z.map .lit)) (parts.map λ(i,x)=>(i,aH tm x)) with
  | some es=>if pu then some (.sl true (es.map λe=>e.map Ek),H) else some (.ms H.length n 0 n,H++[.blk s es])
  | none=>none
 | .load agg n x=>match eK H (aH tm x) n with
  | some cs=>if agg then some (.agg cs,H) else match cs with
   | [c]=>some (c,H)
   | _=>none
  | none=>none
 | .store n x v=>match cellsOf (aH tm v) with
  | some cs=>if cs.length=n then match vY fl H (aH tm x) cs with
   | some H'=>some (.lit bP,H')
   | none=>none
   else none
  | none=>none
 | .nilCheck x=>match aH tm x with
  | .ptr ..=>some (aH tm x,H)
  | .rptr _=>some (aH tm x,H)
  | .sptr _=>some (aH tm x,H)
  | .fn ..=>some (aH tm x,H)
  | _=>none
 | .ibin op x y=>match aH tm x,aH tm y with
  | .lit (.int k a),.lit (.int k' b)=>if k=k' then match aAs op k a b with
   | some v=>some (.lit v,H)
   | none=>none
   else none
  | _,_=>none
 | .bin op t x y=>match lits (aH tm x),lits (aH tm y) with
  | some v,some u=>match (if uH v then aR P (eqGuard op t (.tmp 0) (.tmp 0) v u) else none) with
   | some _=>match aR P (binOp op t v u) with
    | some r=>some (.lit r,H)
    | none=>none
   | none=>none
  | _,_=>none
 | .un op x=>match aH tm x with
  | .lit v=>match aR P (Op.unary op v) with
   | some r=>some (.lit r,H)
   | none=>none
  | _=>none
 | .conv src dst x=>match aH tm x with
  | .lit v=>match aR P (convert src dst v) with
   | some r=>some (.lit r,H)
   | none=>none
  | .sl _ es=>match aBF P src dst with
   | true=>match Kd es with
    | some ns=>some (.lit (.string (NG ns)),H)
    | none=>none
   | false=>none
  | _=>none
 | .fieldAddr off x=>match aH tm x with
  | .ptr id tot idx o=>some (.ptr id tot idx (o+off),H)
  | .rptr cs=>some (.rptr (cs.drop off),H)
  | .sptr cs=>some (.rptr (cs.drop off),H)
  | _=>none
 | .field agg n off x=>match aH tm x with
  | .agg cs=>if off+n<=cs.length then
   if agg then some (.agg ((cs.drop off).take n),H) else match (cs.drop off).take n with
    | [c]=>some (c,H)
    | _=>none
   else none
  | _=>none
 | .idxAddr s x i=>match gV (aH tm i) with
  | some i=>match aH tm x with
   | .sl _ es=>match es[i]? with
    | some e=>if e.length=s then some (.rptr e,H) else none
    | none=>none
   | .vw es=>match es[i]? with
    | some e=>if e.length=s then some (.rptr e,H) else none
    | none=>none
   | .ms id tot off len=>match H[id]? with
    | some (.blk s' es)=>if s'=s/\es.length=tot/\i<len then some (.ptr id tot (off+i) 0,H) else none
    | _=>none
   | _=>none
  | none=>none
 | .idxArr s n x i=>match gV (aH tm i) with
  | some i=>if i<n then match aH tm x with
   | .ptr id tot idx o=>some (.ptr id tot idx (o+i*s),H)
   | .rptr cs=>some (.rptr (cs.drop (i*s)),H)
   | _=>none
   else none
  | none=>none
 | .index agg s n x i=>match gV (aH tm i) with
  | some i=>if i<n then match aH tm x with
   | .agg cs=>if i*s+s<=cs.length then
    if agg then some (.agg ((cs.drop (i*s)).take s),H) else match (cs.drop (i*s)).take s with
     | [c]=>some (c,H)
     | _=>none
    else none
   | _=>none
   else none
  | none=>none
 | .strIdx t x i=>match aH tm x,aH tm i with
  | .lit v,.lit u=>match aR P (Instr.index t v u) with
   | some r=>some (.lit r,H)
   | none=>none
  | _,_=>none
 | .slice s x lo hi mx=>match eC tm lo,eC tm hi,eC tm mx with
  | some lo,some hi,some mx=>match gN H s (aH tm x) lo hi mx with
   | some v=>some (v,H)
   | none=>none
  | _,_,_=>none
 | .strSlice _ x lo hi=>match aH tm x,eC tm lo,eC tm hi with
  | .lit (.string s),some lo,some hi=>
   if lo.getD 0<=hi.getD s.size/\hi.getD s.size<=s.size then some (.lit (.string (s.extract (lo.getD 0) (hi.getD s.size))),H) else none
  | _,_,_=>none
 | .mkSlice s z bytes len cap=>match gV (aH tm len),gV (aH tm cap) with
  | some l,some c=>if l<=c/\c*bytes<=2 ^ 40/\c<=2 ^ 40/\z.length=s then
   some (.ms H.length l 0 l,H++[.blk s (List.replicate l (z.map .lit))]) else none
  | _,_=>none
 | .mkMap=>some (.mp H.length,H++[.mp []])
 | .lookup kt z m k ok=>match lits (aH tm k) with
  | some kv=>
   let r (ents:List (Value×AV)):Option (AV×aY):=
    match aR P (Instr.checkKey ents.isEmpty 10000 kt kv),jX P kt kv ents with
    | some _,some (some i)=>match ents[i]? with
     | some e=>some (if ok then .tup [e.2,.lit (.bool true)] else e.2,H)
     | none=>none
    | some _,some none=>some (if ok then .tup [aH tm z,.lit (.bool false)] else aH tm z,H)
    | _,_=>none
   match aH tm m with
   | .lit (.map none)=>r []
   | .mp id=>match H[id]? with
    | some (.mp ents)=>r ents
    | _=>none
   | .rmp ents=>r ents
   | _=>none
  | none=>none
 | .mapUpd kt m k v=>match lits (aH tm k),aH tm m with
  | some kv,.mp id=>if fl<=id then match H[id]? with
   | some (.mp ents)=>match aR P (Instr.checkKey false 10000 kt kv),jX P kt kv ents with
    | some _,some (some i)=>match ents[i]? with
     | some e=>if Instr.sameBits 10000 e.1 kv then some (.lit bP,H.set id (.mp (ents.set i (kv,aH tm v)))) else none
     | none=>none
    | some _,some none=>some (.lit bP,H.set id (.mp (ents++[(kv,aH tm v)])))
    | _,_=>none
   | _=>none
   else none
  | _,_=>none
 | .lenS x=>match aH tm x with
  | .lit (.slice none 0 0)=>some (.lit (.int .i64 0),H)
  | .sl _ es=>some (.lit (.int .i64 es.length),H)
  | .vw es=>some (.lit (.int .i64 es.length),H)
  | .ms _ _ _ len=>some (.lit (.int .i64 len),H)
  | _=>none
 | .lenM x=>match aH tm x with
  | .lit (.map none)=>some (.lit (.int .i64 0),H)
  | .mp id=>match H[id]? with
   | some (.mp ents)=>some (.lit (.int .i64 ents.length),H)
   | _=>none
  | .rmp ents=>some (.lit (.int .i64 ents.length),H)
  | _=>none
 | .lenStr t x=>match aH tm x with
  | .lit v=>match aR P (Builtin.len_ #[t] 0 #[v]) with
   | some r=>some (.lit r,H)
   | none=>none
  | _=>none
 | .lenC n=>some (.lit (.int .i64 n),H)
 | .append s bytes x y=>match rd H (aH tm y) with
  | some ys=>cR fl H s bytes (aH tm x) ys
  | none=>none
 | .appendZ s bytes z x n=>match gV (aH tm n) with
  | some n=>if z.length=s/\n<=2 ^ 20/\n*bytes<=2 ^ 40 then cR fl H s bytes (aH tm x) (List.replicate n (z.map .lit)) else none
  | none=>none
 | .copy s x y=>match rd H (aH tm y) with
  | some ys=>if fG s ys=true/\0<s then match aH tm x with
   | .ms id tot off len=>match H[id]? with
    | some (.blk s' es)=>if s'=s/\es.length=tot/\ys.length<=len/\fl<=id then (if ys.length=0 then some (.lit (.int .i64 0),H) else some (.lit (.int .i64 ys.length),H.set id (.blk s (aU es off ys)))) else none
    | _=>none
   | _=>none
   else none
  | none=>none
 | .clear s z x=>match aH tm x with
  | .lit (.slice none 0 0)=>some (.tup [],H)
  | .sl _ []=>some (.tup [],H)
  | .ms id tot off len=>match H[id]? with
   | some (.blk s' es)=>if s'=s/\es.length=tot/\off+len<=tot/\fl<=id/\0<s/\z.length=s then (if len=0 then some (.tup [],H) else some (.tup [],H.set id (.blk s (aU es off (List.replicate len (z.map .lit)))))) else none
   | _=>none
  | _=>none
 | .delete kt m k=>match lits (aH tm k),aH tm m with
  | some kv,.mp id=>if fl<=id then match H[id]? with
   | some (.mp ents)=>match aR P (Instr.checkKey ents.isEmpty 10000 kt kv),jX P kt kv ents with
    | some _,some (some i)=>some (.lit bP,H.set id (.mp (ents.eraseIdx i)))
    | some _,some none=>some (.lit bP,H)
    | _,_=>none
   | _=>none
   else none
  | _,_=>none
 | .minmax mx xs=>match Fc (xs.map (aH tm)) with
  | some vs=>match aR P (if mx then Builtin.max_ #[] 0 vs.toArray else Builtin.min_ #[] 0 vs.toArray) with
   | some r=>some (.lit r,H)
   | none=>none
  | none=>none
 | .mkFn vi caps=>some (.fn vi (caps.map (aH tm)),H)
 | .call pu vi args=>Db cf fl pu vi (args.map (aH tm)) H
 | .callv pu x args=>match aH tm x with
  | .fn vi caps=>Db cf fl pu vi (args.map (aH tm)++caps) H
  | _=>none
 | .callF vi args=>cf H.length vi (args.map (aH tm)) H
 | .callT s vi args=>Vy s H (cf 0 vi ((args.map (aH tm)).map (cK H)) [])
 | .callB vi args=>match cf 0 vi ((args.map (aH tm)).map (cK H)) [] with
  | some (r,H')=>some (fA H' 0 r,H)
  | none=>none
 | .callS vi args=>match cf 0 vi ((args.map (aH tm)).map (eA H 0)) [] with
  | some (r,H')=>match aGS (fA H' 0 r) with
   | true=>some (fA H' 0 r,H)
   | false=>none
  | none=>none
 | .capS x=>match aH tm x with
  | .lit (.slice none 0 0)=>some (.lit (.int .i64 0),H)
  | .sl true es=>some (.lit (.int .i64 es.length),H)
  | _=>none
 | .extract x i=>match aH tm x with
  | .tup vs=>match vs[i]? with
   | some v=>some (v,H)
   | none=>none
  | _=>none
 | .rangeStr x=>match aH tm x with
  | .lit (.string s)=>some (.it H.length,H++[.raw (.stringIter s 0)])
  | _=>none
 | .nextStr x=>match aH tm x with
  | .it id=>if fl<=id then match H[id]? with
   | some (.raw (.stringIter s pos))=>if pos<s.size then some (.tup [.lit (.bool true),.lit (.int .i64 pos),.lit (.int .i32 (Utf8.decode s pos).1)],H.set id (.raw (.stringIter s (pos+(Utf8.decode s pos).2)))) else some (.tup [.lit (.bool false)],H)
   | _=>none
   else none
  | _=>none
 | .freeze x=>match aH tm x with
  | .ms id tot off len=>if fl<=id then match H[id]? with
   | some (.blk s es)=>if es.length=tot then some (.sl false (((es.drop off).take len).map λe=>e.map Ek),H.set id (.blk s (es++[List.replicate s .undef]))) else none
   | _=>none
   else none
  | .ptr id tot idx off=>if fl<=id then match H[id]? with
   | some (.blk s es)=>if es.length=tot then match es[idx]? with
    | some e=>some (.sptr ((e.drop off).map Ek),H.set id (.blk s (es++[List.replicate s .undef])))
    | none=>none
    else none
   | _=>none
   else none
  | v=>some (v,H)
 | .appendP s bytes x y=>match aSg s bytes (aH tm x) (aH tm y) with
  | some v=>some (v,H)
  | none=>none
 | .loadF n k x=>match eK H (aH tm x) n with
  | some cs=>match cs[k]? with
   | some (.ms id tot off len)=>if fl<=id then match H[id]? with
    | some (.blk s es)=>if es.length=tot then some (.agg (cs.set k (.sl false (((es.drop off).take len).map λe=>e.map Ek))),H.set id (.blk s (es++[List.replicate s .undef]))) else none
    | _=>none
    else none
   | some _=>some (.agg cs,H)
   | none=>none
  | none=>none
def iG(tm:List AV)(d:Option Nat)(v:AV): List AV:=
 match d with
 | some d=>tm.set d v
 | none=>tm
def eW[aG](tm:List AV)(g:Option (Nat×Bool)): Option Bool:=
 match g with
 | none=>some true
 | some (t,want)=>match aH tm (.tmp t) with
  | .lit (.bool b)=>some (b==want)
  | .lit _=>some false
  | _=>none
def cU[aG](o:bU)(st:St): Option St:=
 match eW st.tmps o.guard with
 | some true=>match aQ P cf fl o.op st.tmps st.heap with
  | some (v,H)=>some ⟨iG st.tmps o.dst v,H⟩
  | none=>none
 | some false=>some ⟨iG st.tmps o.dst (.lit bP),st.heap⟩
 | none=>none
end
def SX: AV->Option Nat
 | .ptr id _ _ _=>some id
 | .ms id _ _ _=>some id
 | .mp id=>some id
 | _=>none
def dL[aG](op:Ia)(tm:List AV): Option (Option Nat):=
 match op with
 | .load _ _ x=>some (SX (aH tm x))
 | .idxAddr _ x _=>some (SX (aH tm x))
 | .slice _ x _ _ _=>some (SX (aH tm x))
 | .lookup _ _ m _ _=>some (SX (aH tm m))
 | .lenM x=>some (SX (aH tm x))
 | .call true _ args=>match gI (args.map (aH tm)) with
  | true=>some none
  | false=>none
 | .callS _ args=>match gI (args.map (aH tm)) with
  | true=>some none
  | false=>none
 | .callB _ args=>match args with
  | [x]=>match aH tm x with
   | .lit _=>some none
   | .sl _ _=>some none
   | .vw _=>some none
   | _=>none
  | _=>none
 | .callv true x args=>match aH tm x with
  | .fn _ caps=>match gI (args.map (aH tm)++caps) with
   | true=>some none
   | false=>none
  | _=>none
 | _=>none
def pN[aG](op:Ia)(tm:List AV)(n id:Nat): Bool:=
 match op with
 | .alloc _=>Nat.blt id n
 | .claim _=>Nat.blt id n
 | .allocC _ _=>Nat.blt id n
 | .box _=>Nat.blt id n
 | .buildSl _ _ _ _ _=>Nat.blt id n
 | .mkSlice _ _ _ _ _=>Nat.blt id n
 | .mkMap=>Nat.blt id n
 | .callF _ _=>Nat.blt id n
 | .callT _ _ _=>Nat.blt id n
 | .store _ x _=>match aH tm x with
  | .ptr i _ _ _=>!Nat.beq i id
  | _=>false
 | .append _ _ x _=>match aH tm x with
  | .ms i _ _ _=>!Nat.beq i id
  | _=>Nat.blt id n
 | .mapUpd _ m _ _=>match aH tm m with
  | .mp i=>!Nat.beq i id
  | _=>false
 | _=>false
def aE3[aG](ops:List bU)(l:List St)(k m:Nat): Bool:=
 match ops[k]? with
 | some ok=>match l[k]? with
  | some sk=>match eW sk.tmps ok.guard with
   | some false=>true
   | _=>match dL ok.op sk.tmps with
    | some none=>true
    | some (some id)=>match ops[m]? with
     | some om=>match l[m]? with
      | some sm=>match eW sm.tmps om.guard with
       | some false=>true
       | _=>pN om.op sm.tmps sm.heap.length id
      | none=>false
     | none=>false
    | none=>false
  | none=>false
 | none=>false
def aAA[aG](ops:List bU)(l:List St): List (Nat×Nat)->Bool
 | []=>true
 | (k,m)::r=>match aE3 ops l k m with
  | true=>aAA ops l r
  | false=>false
section
variable (P:Program)(cf:Nat->Nat->List AV->aY->Option (AV×aY))
def jA[aG](fl:Nat): List bU->St->Option St
 | [],st=>some st
 | o::r,st=>match cU P cf fl o st with
  | some st=>jA fl r st
  | none=>none
def Dv[aG](fl:Nat): List bU->St->Option (List St)
 | [],st=>some [st]
 | o::r,st=>match cU P cf fl o st with
  | some st1=>match Dv fl r st1 with
   | some l=>some (st::l)
   | none=>none
  | none=>none
def Li[aG](fl:Nat)(ck:List (Nat×Nat))(ops:List bU)(st:St): Option St:=match ck with
 | []=>jA P cf fl ops st
 | c::r=>match Dv P cf fl ops st with
  | some l=>match aAA ops l (c::r) with
   | true=>l.getLast?
   | false=>none
  | none=>none
def cZ: List Bool->List AV->List AV
 | b::bs,v::vs=>(if b then v else .undef)::cZ bs vs
 | [],vs=>vs.map λ_=>.undef
 | _,[]=>[]
def bX(n:Nat): dK->dK
 | .blk s es=>.blk s (es.map λe=>e.map (jP n))
 | .mp ents=>.mp (ents.map λe=>(e.1,Qj n e.2))
 | .raw ob=>.raw ob
def aAn(live:Option (List Bool))(tm:List AV): List AV:=match live with | some l=>cZ l tm | none=>tm
def dN(live:Option (List Bool))(tr:Bool)(fl n:Nat)(st:St): St:=
 if tr then⟨(aAn live st.tmps).map (Qi n),st.heap.take fl++((st.heap.take n).drop fl).map (bX n)⟩ else⟨aAn live st.tmps,st.heap⟩
def Fa(lx lr:List Bool)(tr:Bool)(fl n:Nat): Option (cY×St)->Option (cY×St)
 | some (x,st)=>match x with
  | .ret=>some (.ret,⟨cZ lr st.tmps,st.heap⟩)
  | .normal=>some (.normal,dN (some lx) tr fl n st)
  | .exit i=>some (.exit i,dN (some lx) tr fl n st)
 | none=>none
def aHn[aG](fl t:Nat)(st:St): Option St:=
 match aH st.tmps (.tmp t) with
 | .ms id tot off len=>if fl<=id then match st.heap[id]? with
  | some (.blk s es)=>if es.length=tot then some ⟨st.tmps.set t (.ms st.heap.length tot off len),st.heap.set id (.blk s (es++[List.replicate s .undef]))++[.blk s es]⟩ else none
  | _=>none
  else none
 | _=>none
def JF[aG](live:List Bool)(t fl n:Nat)(st:St): St:=
 match aH st.tmps (.tmp t) with
 | .ms id tot off len=>if n<=id then match st.heap[id]? with
  | some (.blk s es)=>⟨((cZ live st.tmps).map (Qi n)).set t (.ms n tot off len),(st.heap.take fl++((st.heap.take n).drop fl).map (bX n))++[bX n (.blk s es)]⟩
  | _=>dN (some live) true fl n st
  else dN (some live) true fl n st
 | _=>dN (some live) true fl n st
def aLp[aG](lx lr:List Bool)(t fl n:Nat): Option (cY×St)->Option (cY×St)
 | some (x,st)=>match x with
  | .ret=>some (.ret,⟨cZ lr st.tmps,st.heap⟩)
  | .normal=>some (.normal,JF lx t fl n st)
  | .exit i=>some (.exit i,JF lx t fl n st)
 | none=>none
def VF(H:aY): AV->Nat
 | .lit v=>match v with
  | .slice a l c=>match a with
   | none=>match l with
    | 0=>match c with
     | 0=>0
     | _=>3
    | _=>3
   | _=>3
  | _=>3
 | .sl _ es=>match es with
  | []=>2
  | _::_=>1
 | .vw es=>match es with
  | []=>2
  | _::_=>1
 | .ms id tot _ len=>match len with
  | 0=>3
  | _+1=>match H[id]? with
   | some (.blk _ es)=>match Nat.beq es.length tot with
    | true=>1
    | false=>3
   | _=>3
 | _=>3
def aLU: AV->Bool
 | .lit v=>match v with
  | .slice a l c=>match a with
   | none=>match l with
    | 0=>match c with
     | 0=>true
     | _=>false
    | _=>false
   | _=>false
  | _=>false
 | .sl _ es=>match es with
  | []=>true
  | _::_=>false
 | _=>false
def aHC(x y:AV): AV:=match aLU x with
 | true=>match aLU y with
  | true=>.sl false []
  | false=>.undef
 | false=>.undef
def Vz: List AV->List AV->List AV
 | x::r,y::s=>aHC x y::Vz r s
 | _,_=>[]
def Sc: Option (cY×St)->Option (cY×St)
 | some (x,st)=>match x with
  | .normal=>none
  | x=>some (x,st)
 | none=>none
def aDN(H:aY): Option (cY×St)->Option (cY×St)->Option (cY×St)
 | some (.ret,sa),some (.ret,sb)=>match Nat.beq sa.tmps.length sb.tmps.length with
  | true=>some (.ret,⟨Vz sa.tmps sb.tmps,H⟩)
  | false=>none
 | _,_=>none
def Ol[aG](tm:List AV)(t d0 d1:Nat)(b:Bool): List AV:=(tm.set d0 (aH tm (.tmp t))).set d1 (.lit (.bool b))
def fW(head:St->St)(step:St->Option (cY×St)): Nat->St->Option (cY×St)
 | 0,_=>none
 | n+1,st=>match step (head st) with
  | some (.normal,st)=>fW head step n st
  | r=>r
def eQ[aG](lf fl:Nat): bV->St->Option (cY×St)
 | .skip,st=>some (.normal,st)
 | .region _ ck ops,st=>match Li P cf fl ck ops st with
  | some st=>some (.normal,st)
  | none=>none
 | .seq a b,st=>match eQ lf fl a st with
  | some (.normal,st)=>eQ lf fl b st
  | r=>r
 | .cond c a b,st=>match aH st.tmps c with
  | .lit (.bool true)=>eQ lf fl a st
  | .lit (.bool false)=>eQ lf fl b st
  | _=>none
 | .block id c,st=>match eQ lf fl c st with
  | some (.exit i,st)=>if i=id then some (.normal,st) else some (.exit i,st)
  | r=>r
 | .loop live tr c,st=>fW (dN live tr fl st.heap.length) (λst=>eQ lf fl c st) lf st
 | .exit id,st=>some (.exit id,st)
 | .ret,st=>some (.ret,st)
 | .frz t c,st=>match aQ P cf fl (.freeze (.tmp t)) st.tmps st.heap with
  | some (v,H)=>eQ lf fl c ⟨st.tmps.set t v,H⟩
  | none=>none
 | .mask lx lr tr c,st=>Fa lx lr tr fl st.heap.length (eQ lf fl c st)
 | .told li lx lr c,st=>Fa lx lr false fl st.heap.length (eQ lf fl c ⟨cZ li st.tmps,st.heap⟩)
 | .scope c,st=>eQ lf fl c st
 | .nilIf t d0 d1 a b,st=>match (Nat.blt d0 st.tmps.length&&Nat.blt d1 st.tmps.length) with
  | true=>match VF st.heap (aH st.tmps (.tmp t)) with
   | 0=>Sc (eQ lf fl a ⟨Ol st.tmps t d0 d1 true,st.heap⟩)
   | 1=>eQ lf fl b ⟨Ol st.tmps t d0 d1 false,st.heap⟩
   | 2=>match Nat.beq fl st.heap.length with
    | true=>aDN st.heap (eQ lf fl a ⟨Ol st.tmps t d0 d1 true,st.heap⟩) (eQ lf fl b ⟨Ol st.tmps t d0 d1 false,st.heap⟩)
    | false=>none
   | _=>none
  | false=>none
 | .loopV live lx lr t c,st=>match aHn fl t st with
  | some st1=>aLp lx lr t fl st.heap.length (fW (JF live t fl st.heap.length) (λst=>eQ lf fl c st) lf st1)
  | none=>none
 | .stop,_=>none
end
def Pv[aG](st:St): U7->Option AV
 | .tmp t=>some (aH st.tmps (.tmp t))
 | .cell t n agg=>match eK st.heap (aH st.tmps (.tmp t)) n with
  | some cs=>if agg then some (.agg cs) else match cs with
   | [c]=>some c
   | _=>none
  | none=>none
def jV: List AV->AV
 | [v]=>v
 | vs=>.tup vs
def lH[aG](st:St): List U7->Option (List AV)
 | []=>some []
 | r::rs=>match Pv st r with
  | some v=>match lH st rs with
   | some vs=>some (v::vs)
   | none=>none
  | none=>none
def Kx[aG](cf:CF)(fl vi:Nat)(args:List AV)(H:aY): Option (AV×aY):=
 match aG.prim vi with
 | some g=>g.run cf fl args H
 | none=>none
def getF[aG](T:List cS)(vi:Nat): Option cS:=
 match aG.prim vi with
 | some _=>none
 | none=>T[vi]?
def fC[aG](P:Program)(T:List cS): Nat->Nat->Nat->List AV->aY->Option (AV×aY)
 | 0,_,_,_,_=>none
 | n+1,fl,vi,args,H=>
  match aG.prim vi with
  | some g=>g.run (fC P T n) fl args H
  | none=>
  match T[vi]? with
  | none=>none
  | some F=>
   match eQ P (fC P T n) n fl F.body ⟨args++List.replicate (F.nt-args.length) (.lit bP),H⟩ with
   | some (.normal,st)=>match lH st F.rets with
    | some vs=>some (jV vs,st.heap)
    | none=>none
   | some (.ret,st)=>match lH st F.rets with
    | some vs=>some (jV vs,st.heap)
    | none=>none
   | _=>none
section
structure dE where
 w:World
 X:Nat->Prop
 β:Nat->Option Nat
 H:aY
def lI(c:dE)(b:Nat): Prop:=¬c.X b/\∀id,c.β id≠some b
def bM(es:List (List AV))(i j:Nat): Option AV:=(es[i]?).bind λe=>e[j]?
def shp(H:aY)(id:Nat): Option (Nat×Nat):=
 match H[id]? with
 | some (.blk s es)=>some (s,es.length)
 | _=>none
def aRe: dK->Prop
 | .blk _ _=>False
 | _=>True
def Bi(H:aY)(id:Nat): Prop:=∃o,H[id]?=some o/\aRe o
def Yng(es:Array MapEntry)(clk:Nat): Prop:=(∀e∈es.toList,e.born<clk)/\(es.toList.map (·.born)).Nodup
inductive RP(w:World)(I:Nat->Prop): AV->Value->Prop
 | undef (v:Value):RP w I .undef v
 | lit (v:Value):RP w I (.lit v) v
 | nil (f:Bool) (a:Option Addr) (cap:Nat):(f=true->cap=0)->RP w I (.sl f []) (.slice a 0 cap)
 | sl (f:Bool) (es:List (List AV)) (b off cap:Nat) (c:Array Value) (T:TypeId) (fz:Nat×Nat) (s:Nat) (vals:Nat->Nat->Value) :
  es≠[]->I b->w.heap[b]?=some (.cells c T fz)->(∀e∈es,e.length=s)->es.length<=cap->(f=true->cap=es.length)->
  (∀i j x,bM es i j=some x->c[off+(i*s+j)]?=some (vals i j)/\bE (vals i j)=true)->
  (∀i j x,bM es i j=some x->RP w I x (vals i j))->
  RP w I (.sl f es) (.slice (some ⟨b,off,none⟩) es.length cap)
 | sptr (cs:List AV) (b off:Nat) (cc:Array Value) (T:TypeId) (fz:Nat×Nat) (vals:Nat->Value) :
  I b->w.heap[b]?=some (.cells cc T fz)->
  (∀j x,cs[j]?=some x->cc[off+j]?=some (vals j)/\bE (vals j)=true)->
  (∀j x,cs[j]?=some x->RP w I x (vals j))->RP w I (.sptr cs) (.pointer (some ⟨b,off,none⟩))
 | rmp (ents:List (Value×AV)) (b:Nat) (es:Array MapEntry) (clk:Nat) (vals:Nat->MapEntry) :
  I b->w.heap[b]?=some (.map es clk)->es.size=ents.length->Yng es clk->
  (∀i k x,ents[i]?=some (k,x)->es[i]?=some (vals i)/\(vals i).key=k)->
  (∀i k x,ents[i]?=some (k,x)->RP w I x (vals i).val)->RP w I (.rmp ents) (.map (some b))
variable {FT:Nat->Option Nat}{I:Nat->Prop}{a:dE}{b:Nat}{c c':dE}{fl:Nat}{o:Obj}{v:Value}{w:World}{x:AV}
theorem RP.mono{w':World}{I':Nat->Prop}(h:∀b o,I b->w.heap[b]?=some o->I' b/\w'.heap[b]?=some o)(hr:RP w I x v): RP w' I' x v:=by
 induction hr with
 | undef v=>exact .undef v
 | lit v=>exact .lit v
 | nil f a cap hf=>exact .nil f a cap hf
 | sl f es b off cap c T fz s vals hne hi hb hlen hcap hf hv _ ih=>
  obtain⟨hi',hb'⟩:=h b _ hi hb
  exact .sl f es b off cap c T fz s vals hne hi' hb' hlen hcap hf hv ih
 | sptr cs b off cc T fz vals hi hb hv _ ih=>
  obtain⟨hi',hb'⟩:=h b _ hi hb
  exact .sptr cs b off cc T fz vals hi' hb' hv ih
 | rmp ents b es clk vals hi hb hz hl hv _ ih=>
  obtain⟨hi',hb'⟩:=h b _ hi hb
  exact .rmp ents b es clk vals hi' hb' hz hl hv ih
theorem aBz(v:Value): RP w I (rS v) v:=by
 unfold rS
 split
 .split
  .split
   .split
    .exact .nil false none 0 (by simp)
    .exact .lit _
   .exact .lit _
  .exact .lit _
 .exact .lit _
theorem aBy[aG](h:RP w I x v): RP w I (nrm x) v:=by
 cases h with
 | undef v=>exact .undef v
 | lit v=>exact aBz v
 | nil f a cap hf=>exact .nil false a cap (by simp)
 | sl f es b off cap c T fz s vals h1 h2 h3 h4 h5 h6 h7 h8=>exact .sl false es b off cap c T fz s vals h1 h2 h3 h4 h5 (by simp) h7 h8
 | sptr cs b off cc T fz vals h1 h2 h3 h4=>exact .sptr cs b off cc T fz vals h1 h2 h3 h4
 | rmp ents b es clk vals h1 h2 h3 h4 h5 h6=>exact .rmp ents b es clk vals h1 h2 h3 h4 h5 h6
def aM8(c:dE)(id tot off len:Nat)(a:Option Addr)(cap s:Nat): Prop:=
 off+len<=tot /\
 ((c.β id=none/\tot=0/\a=none/\cap=0) \/
  ∃b cs T a',c.β id=some b/\c.w.heap[b]?=some (.cells cs T (0,0))/\(off+cap)*s=cs.size/\a=some a' /\
   (cap≠0->a'=⟨b,off*s,none⟩))
def Vis(c:dE)(b:Nat): Prop:=∀id,c.β id≠some b
inductive RV(FT:Nat->Option Nat)(c:dE): AV->Value->Prop
 | pure (x:AV) (v:Value):RP c.w (lI c) x v->RV FT c x v
 | ms (id tot off len:Nat) (a:Option Addr) (cap s n:Nat):shp c.H id=some (s,n)->tot<=n->len<=cap->
  (tot=n->aM8 c id tot off len a cap s)->RV FT c (.ms id tot off len) (.slice a len cap)
 | ptr (id tot idx off:Nat) (a:Addr) (s n:Nat):shp c.H id=some (s,n)->tot<=n->
  (tot=n->∃b,c.β id=some b/\a=⟨b,idx*s+off,none⟩)->RV FT c (.ptr id tot idx off) (.pointer (some a))
 | rptr (cs:List AV) (b off:Nat) (cc:Array Value) (T:TypeId) (fz:Nat×Nat) (vals:Nat->Value) :
  Vis c b->c.w.heap[b]?=some (.cells cc T fz)->
  (∀j x,cs[j]?=some x->cc[off+j]?=some (vals j)/\bE (vals j)=true)->
  (∀j x,cs[j]?=some x->RP c.w (lI c) x (vals j))->RV FT c (.rptr cs) (.pointer (some ⟨b,off,none⟩))
 | vnil (a:Option Addr) (cap:Nat):RV FT c (.vw []) (.slice a 0 cap)
 | vw (es:List (List AV)) (b off cap:Nat) (cc:Array Value) (T:TypeId) (fz:Nat×Nat) (s:Nat) (vals:Nat->Nat->Value) :
  es≠[]->Vis c b->c.w.heap[b]?=some (.cells cc T fz)->(∀e∈es,e.length=s)->es.length<=cap->
  (∀i j x,bM es i j=some x->cc[off+(i*s+j)]?=some (vals i j)/\bE (vals i j)=true)->
  (∀i j x,bM es i j=some x->RP c.w (lI c) x (vals i j))->RV FT c (.vw es) (.slice (some ⟨b,off,none⟩) es.length cap)
 | mp (id b:Nat):Bi c.H id->c.β id=some b->RV FT c (.mp id) (.map (some b))
 | it (id b:Nat):Bi c.H id->c.β id=some b->RV FT c (.it id) (.pointer (some ⟨b,0,none⟩))
 | fn (vi f:Nat) (caps:List AV) (cv:Array Value) (vals:Nat->Value):FT vi=some f->cv.size=caps.length->
  (∀i x,caps[i]?=some x->cv[i]?=some (vals i))->(∀i x,caps[i]?=some x->RV FT c x (vals i))->
  RV FT c (.fn vi caps) (.func (.func f) #[] cv)
 | agg (cs:List AV) (cv:Array Value) (vals:Nat->Value):cv.size=cs.length->
  (∀i x,cs[i]?=some x->cv[i]?=some (vals i)/\bE (vals i)=true)->
  (∀i x,cs[i]?=some x->RV FT c x (vals i))->RV FT c (.agg cs) (.agg cv)
 | tup (cs:List AV) (cv:Array Value) (vals:Nat->Value):cv.size=cs.length->
  (∀i x,cs[i]?=some x->cv[i]?=some (vals i))->
  (∀i x,cs[i]?=some x->RV FT c x (vals i))->RV FT c (.tup cs) (.tuple cv)
structure bY(fl:Nat)(c c':dE): Prop where
 X:c'.X=c.X
 os:c'.w.os=c.w.os
 tape:c'.w.tape=c.w.tape
 output:c'.w.output=c.w.output
 drawn:c.w.drawn<=c'.w.drawn
 size:c.w.heap.size<=c'.w.heap.size
 len:c.H.length<=c'.H.length
 frame:∀k,k<c.w.heap.size->(∀id,c.β id≠some k)->c'.w.heap[k]?=c.w.heap[k]?
 img:∀id b,c'.β id=some b->c.w.heap.size<=b\/∃i,c.β i=some b
 blkS:∀id s n,shp c.H id=some (s,n)->∃n',shp c'.H id=some (s,n')/\n<=n' /\
  (n=n'->c'.β id=c.β id/\∀b cs T,c.β id=some b->c.w.heap[b]?=some (.cells cs T (0,0))->
   ∃cs',c'.w.heap[b]?=some (.cells cs' T (0,0))/\cs'.size=cs.size)
 mpS:∀id,Bi c.H id->Bi c'.H id/\c'.β id=c.β id
 floor:∀id,id<fl->c'.H[id]?=c.H[id]?/\c'.β id=c.β id/\∀b,c.β id=some b->c'.w.heap[b]?=c.w.heap[b]?
theorem bY.refl(fl:Nat)(c:dE): bY fl c c where
 X:=rfl
 os:=rfl
 tape:=rfl
 output:=rfl
 drawn:=Zg _
 size:=Zg _
 len:=Zg _
 frame:=λ_ _ _=>rfl
 img:=λi _ h=>.inr ⟨i,h⟩
 blkS:=λ_ _ n h=>⟨n,h,Zg _,λ_=>⟨rfl,λ_ cs _ _ hb=>⟨cs,hb,rfl⟩⟩⟩
 mpS:=λ_ h=>⟨h,rfl⟩
 floor:=λ_ _=>⟨rfl,rfl,λ_ _=>rfl⟩
theorem bY.trans{b:dE}(h:bY fl a b)(k:bY fl b c): bY fl a c where
 X:=k.X.trans h.X
 os:=k.os.trans h.os
 tape:=k.tape.trans h.tape
 output:=k.output.trans h.output
 drawn:=ZB h.drawn k.drawn
 size:=ZB h.size k.size
 len:=ZB h.len k.len
 frame:=λi hi hn=>(k.frame i (YN hi h.size) (λid hid=>by
  rcases h.img id i hid with hh | ⟨j,hh⟩
  .omega
  .exact hn j hh)).trans (h.frame i hi hn)
 img:=λid x hx=>by
  rcases k.img id x hx with hh | ⟨j,hh⟩
  .exact .inl (ZB h.size hh)
  .exact h.img j x hh
 blkS:=λid s n hs=>by
  obtain⟨n',hs',hn',he'⟩:=h.blkS id s n hs
  obtain⟨n'',hs'',hn'',he''⟩:=k.blkS id s n' hs'
  refine⟨n'',hs'',ZB hn' hn'',λe=>?_⟩
  have e1:n=n':=by omega
  have e2:n'=n'':=by omega
  obtain⟨hb1,hc1⟩:=he' e1
  obtain⟨hb2,hc2⟩:=he'' e2
  refine⟨hb2.trans hb1,λx cs T hx hcs=>?_⟩
  obtain⟨cs',h1,h2⟩:=hc1 x cs T hx hcs
  obtain⟨cs'',h3,h4⟩:=hc2 x cs' T (hb1.trans hx) h1
  exact⟨cs'',h3,h4.trans h2⟩
 mpS:=λid hm=>by
  obtain⟨h1,h2⟩:=h.mpS id hm
  obtain⟨h3,h4⟩:=k.mpS id h1
  exact⟨h3,h4.trans h2⟩
 floor:=λid hid=>by
  obtain⟨h1,h2,h3⟩:=h.floor id hid
  obtain⟨k1,k2,k3⟩:=k.floor id hid
  exact⟨k1.trans h1,k2.trans h2,λx hx=>(k3 x (h2.trans hx)).trans (h3 x hx)⟩
theorem bY.mono{fl':Nat}{b:dE}(h:bY fl a b)(hl:fl'<=fl): bY fl' a b:=
 { h with floor:=λid hid=>h.floor id (YN hid hl) }
theorem bY.imm(h:bY fl c c')(hi:lI c b)(hb:c.w.heap[b]?=some o):
 lI c' b/\c'.w.heap[b]?=some o:=by
 have hlt:b<c.w.heap.size:=by
  rcases ZL b c.w.heap.size with h | h
  .exact h
  .rw[Yd h] at hb;cases hb
 refine⟨⟨by rw[h.X];exact hi.1,λid hid=>?_⟩,by rw[h.frame b hlt hi.2];exact hb⟩
 rcases h.img id b hid with hh | ⟨j,hh⟩
 .omega
 .exact hi.2 j hh
theorem bY.vis(h:bY fl c c')(hi:Vis c b)(hb:c.w.heap[b]?=some o): Vis c' b/\c'.w.heap[b]?=some o:=by
 have hlt:b<c.w.heap.size:=by
  rcases ZL b c.w.heap.size with h | h
  .exact h
  .rw[Yd h] at hb;cases hb
 refine⟨λid hid=>?_,by rw[h.frame b hlt hi];exact hb⟩
 rcases h.img id b hid with hh | ⟨j,hh⟩
 .omega
 .exact hi j hh
theorem lI.vis(h:lI c b): Vis c b:=h.2
theorem aM8.step(h:bY fl c c'){id tot off len cap s:Nat}{a:Option Addr}(hs:shp c.H id=some (s,tot))(hs':shp c'.H id=some (s,tot))(hm:aM8 c id tot off len a cap s): aM8 c' id tot off len a cap s:=by
 obtain⟨n',h1,h2,h3⟩:=h.blkS id s tot hs
 have e:tot=n':=by rw[hs'] at h1;simpa using h1
 obtain⟨hb,hc⟩:=h3 e
 obtain⟨ho,hm⟩:=hm
 refine⟨ho,?_⟩
 rcases hm with⟨h4,h5,h6,h7⟩ | ⟨b,cs,T,a',h4,h5,h6,h7,h8⟩
 .exact .inl ⟨hb.trans h4,h5,h6,h7⟩
 .obtain⟨cs',h9,h10⟩:=hc b cs T h4 h5
  exact .inr ⟨b,cs',T,a',hb.trans h4,h9,by rw[h10];exact h6,h7,h8⟩
theorem RV.step[aG](h:bY fl c c')(hr:RV FT c x v): RV FT c' x v:=by
 induction hr with
 | pure x v hp=>exact .pure x v (hp.mono λb o hi hb=>h.imm hi hb)
 | ms id tot off len a cap s n hs ht hl hm=>
  obtain⟨n',h1,h2,h3⟩:=h.blkS id s n hs
  refine .ms id tot off len a cap s n' h1 (ZB ht h2) hl λe=>?_
  have e1:tot=n:=by omega
  subst e1
  exact (hm rfl).step h hs (by rw[h1,e])
 | ptr id tot idx off a s n hs ht hm=>
  obtain⟨n',h1,h2,h3⟩:=h.blkS id s n hs
  refine .ptr id tot idx off a s n' h1 (ZB ht h2) λe=>?_
  have e1:tot=n:=by omega
  obtain⟨b,hb,ha⟩:=hm e1
  exact⟨b,((h3 (by omega)).1).trans hb,ha⟩
 | rptr cs b off cc T fz vals hi hb hv hp=>
  obtain⟨hi',hb'⟩:=h.vis hi hb
  exact .rptr cs b off cc T fz vals hi' hb' hv λj x hx=>(hp j x hx).mono λb o hi hb=>h.imm hi hb
 | vnil a cap=>exact .vnil a cap
 | vw es b off cap cc T fz s vals hne hi hb hlen hcap hv hp=>
  obtain⟨hi',hb'⟩:=h.vis hi hb
  exact .vw es b off cap cc T fz s vals hne hi' hb' hlen hcap hv λi j x hx=>(hp i j x hx).mono λb o hi hb=>h.imm hi hb
 | mp id b hm hb=>
  obtain⟨h1,h2⟩:=h.mpS id hm
  exact .mp id b h1 (h2.trans hb)
 | it id b hm hb=>
  obtain⟨h1,h2⟩:=h.mpS id hm
  exact .it id b h1 (h2.trans hb)
 | fn vi f caps cv vals hf hs hv _ ih=>exact .fn vi f caps cv vals hf hs hv ih
 | agg cs cv vals hs hv _ ih=>exact .agg cs cv vals hs hv ih
 | tup cs cv vals hs hv _ ih=>exact .tup cs cv vals hs hv ih
def tA[aG](c:dE): Prop:=∀g cs,aG.tab g=some cs->∃(cc:Array Value) (T:TypeId) (fz:Nat×Nat) (vals:Nat->Value),lI c g/\c.w.heap[g]?=some (.cells cc T fz)/\aG.ok g cc /\
 (∀j x,cs[j]?=some x->cc[0+j]?=some (vals j)/\bE (vals j)=true)/\∀j x,cs[j]?=some x->RP c.w (lI c) x (vals j)
theorem tA.step[aG](hg:tA c)(h:bY fl c c'): tA c':=by
 intro g cs hcs
 obtain⟨cc,T,fz,vals,h1,h2,h0,h3,h4⟩:=hg g cs hcs
 obtain⟨k1,k2⟩:=h.imm h1 h2
 exact⟨cc,T,fz,vals,k1,k2,h0,h3,λj x hx=>(h4 j x hx).mono λb o hi hb=>h.imm hi hb⟩
theorem tA.rv[aG](hg:tA c){g:Nat}{cs:List AV}(h:aG.tab g=some cs): RV FT c (.rptr cs) (.pointer (some ⟨g,0,none⟩)):=by
 obtain⟨cc,T,fz,vals,h1,h2,_,h3,h4⟩:=hg g cs h
 exact .rptr cs g 0 cc T fz vals h1.vis h2 h3 h4
def aQe(es:Array MapEntry)(clk n:Nat): Prop:=es.size=n/\Yng es clk
structure bZ[aG](FT:Nat->Option Nat)(c:dE): Prop where
 gl:tA c
 inj:∀(i j b:Nat),c.β i=some b->c.β j=some b->i=j
 dom:∀(id b:Nat),c.β id=some b->id<c.H.length
 nx:∀(id b:Nat),c.β id=some b->¬c.X b
 fresh:∀k:Nat,c.w.heap.size<=k->¬c.X k
 lens:∀(id s:Nat) (es:List (List AV)),c.H[id]?=some (.blk s es)->∀e∈es,e.length=s
 blk:∀(id s:Nat) (es:List (List AV)) (b:Nat),c.H[id]?=some (.blk s es)->c.β id=some b->∃cs T,c.w.heap[b]?=some (.cells cs T (0,0))/\es.length*s<=cs.size /\
  ∀i j x,bM es i j=some x->∃v,cs[i*s+j]?=some v/\bE v=true/\RV FT c x v
 map:∀(id:Nat) (ents:List (Value×AV)) (b:Nat),c.H[id]?=some (.mp ents)->c.β id=some b->∃(es:Array MapEntry) (clk:Nat),c.w.heap[b]?=some (.map es clk)/\aQe es clk ents.length /\
  ∀(i:Nat) (k:Value) (x:AV),ents[i]?=some (k,x)->∃e,es[i]?=some e/\e.key=k/\RV FT c x e.val
 raw:∀(id:Nat) (ob:Obj) (b:Nat),c.H[id]?=some (.raw ob)->c.β id=some b->c.w.heap[b]?=some ob
def TR(FT:Nat->Option Nat)(c:dE)(tm:List AV)(tv:Array Value): Prop:=
 tm.length=tv.size/\∀(t:Nat) (x:AV),tm[t]?=some x->∃v,tv[t]?=some v/\RV FT c x v
theorem TR.step[aG](h:bY fl c c'){tm:List AV}{tv:Array Value}(hr:TR FT c tm tv): TR FT c' tm tv:=
 ⟨hr.1,λt x hx=>let ⟨v,h1,h2⟩:=hr.2 t x hx;⟨v,h1,h2.step h⟩⟩
theorem RV.lit_inv{u:Value}(h:RV FT c (.lit u) v): v=u:=by
 cases h with
 | pure _ _ hp=>cases hp;rfl
theorem RV.lit(u:Value): RV FT c (.lit u) u:=.pure _ _ (.lit u)
theorem RV.undef(u:Value): RV FT c .undef u:=.pure _ _ (.undef u)
end
section
variable {FT:Nat->Option Nat}{H:aY}{T:TypeId}{α:Type}{a:α}{b:Nat}{c:dE}{cs cs':Array Value}{ents':List (Value×AV)}{es es':List (List AV)}{fl i id:Nat}{l:List α}{o:dK}{ob q q':Obj}{s:Nat}{w':World}
def upd(β:Nat->Option Nat)(id b:Nat): Nat->Option Nat:=λi=>if i=id then some b else β i
theorem eB(β:Nat->Option Nat)(id b:Nat): upd β id b id=some b:=by simp[upd]
theorem cV{β:Nat->Option Nat}(h:i≠id): upd β id b i=β i:=by simp[upd,h]
structure Hz(w w':World): Prop where
 heap:w'.heap=w.heap
 os:w'.os=w.os
 tape:w'.tape=w.tape
 output:w'.output=w.output
 drawn:w.drawn<=w'.drawn
theorem Hz.refl(w:World): Hz w w:=⟨rfl,rfl,rfl,rfl,Zg _⟩
theorem Ij(h:Hz c.w w'): bY fl c ⟨w',c.X,c.β,c.H⟩ where
 X:=rfl;os:=h.os;tape:=h.tape;output:=h.output;drawn:=h.drawn;size:=by simp[h.heap]
 len:=Zg _;frame:=λk _ _=>by simp[h.heap]
 img:=λi _ d=>.inr ⟨i,d⟩;blkS:=λ_ _ n o=>⟨n,o,Zg _,λ_=>⟨rfl,λ_ cs _ _ d=>⟨cs,by simpa [h.heap] using d,rfl⟩⟩⟩;mpS:=λ_ l=>⟨l,rfl⟩;floor:=λ_ _=>⟨rfl,rfl,λ_ _=>by simp[h.heap]⟩
theorem bZ.drawn[aG](a:bZ FT c)(h:Hz c.w w'): bZ FT ⟨w',c.X,c.β,c.H⟩ where
 gl:=a.gl.step (Ij (fl:=0) h);inj:=a.inj;dom:=a.dom;nx:=a.nx;fresh:=λk A=>a.fresh k (by simpa [h.heap] using A);lens:=a.lens;blk:=λid s es b g f=>by
  obtain⟨cs,T,n,p,t⟩:=a.blk id s es b g f;exact⟨cs,T,by simpa [h.heap] using n,p,λi j x u=>let ⟨v,q,o,r⟩:=t i j x u;⟨v,q,o,r.step (Ij (fl:=0) h)⟩⟩
 map:=λid d b g f=>by
  obtain⟨es,l,n,p,t⟩:=a.map id d b g f;exact⟨es,l,by simpa [h.heap] using n,p,λi k x u=>let ⟨e,q,o,r⟩:=t i k x u;⟨e,q,o,r.step (Ij (fl:=0) h)⟩⟩
 raw:=λid ob b g f=>by simpa [h.heap] using a.raw id ob b g f
theorem u6{r:Nat×Nat}(h:shp H id=some r): shp (H++[o]) id=some r:=by
 have a:id<H.length:=by
  rcases ZL id H.length with b | b
  .grind
  .simp[shp,Zz b] at h
 simpa [shp,Zp a] using h
theorem JC(h:Bi H id): Bi (H++[o]) id:=by
 obtain⟨a,he,c⟩:=h;have b:id<H.length:=by
  grind
 exact⟨a,by simpa [Zp b] using he,c⟩
theorem Ng[aG](C:fl<=c.H.length)(j:w'.heap=c.w.heap.push ob)(v:w'.os=c.w.os)(y:w'.tape=c.w.tape)(B:w'.output=c.w.output)(h:∀id b,c.β id=some b->b<c.w.heap.size)(A:c.w.drawn<=w'.drawn:=by first | exact Zg _ | exact Yr _ | exact Z0 _ _ | assumption):
 bY fl c ⟨w',c.X,upd c.β c.H.length c.w.heap.size,c.H++[o]⟩ where
 X:=rfl;os:=v;tape:=y;output:=B;drawn:=A;size:=by simp[j]
 len:=by simp
 frame:=λk E _=>by simp only[j,ZW];rw[ZG (by omega)]
 img:=λid b d=>by
  by_cases e:id=c.H.length
  .subst e;simp only[eB] at d;cases d;exact .inl (Zg _)
  .simp only[cV e] at d;exact .inr ⟨_,d⟩
 blkS:=λid s n r=>⟨n,u6 r,Zg _,λ_=>by
  have a:id≠c.H.length:=by
   intro e;subst e;simp[shp] at r
  refine⟨cV a,λb cs T d m=>⟨cs,?_,rfl⟩⟩;have:=h id b d;simp only[j,ZW];rw[ZG (by omega)];exact m⟩
 mpS:=λid q=>⟨JC q,by
  have a:id≠c.H.length:=by
   intro e;subst e;obtain⟨_,he,_⟩:=q;simp at he
  exact cV a⟩
 floor:=λid x=>by
  have a:id≠c.H.length:=by omega
  refine⟨Zp (by omega),cV a,λb d=>?_⟩;grind
theorem bZ.lt[aG](d:bZ FT c)(h:c.β id=some b): b<c.w.heap.size:=by
 have g:=d.dom id b h;cases e:c.H[id]? with
 | none=>grind
 | some o=>
  cases o with
  | blk s es=>
   obtain⟨cs,T,f,_⟩:=d.blk id s es b e h;grind
  | mp a=>
   obtain⟨es,i,f,_⟩:=d.map id a b e h;grind
  | raw ob=>
   have f:=d.raw id ob b e h;grind
theorem d9[aG](h:bZ FT c)(I:w'.heap=c.w.heap.push ob)(L:w'.os=c.w.os)(O:w'.tape=c.w.tape)(N:w'.output=c.w.output)(U:∀s es,o=.blk s es->∀e∈es,e.length=s)(R:∀s es,o=.blk s es->∃cs T,ob=.cells cs T (0,0)/\es.length*s<=cs.size /\
  ∀i j x,bM es i j=some x->∃v,cs[i*s+j]?=some v/\bE v=true/\RV FT c x v)(M:∀g,o=.mp g->g=[]/\∃n,ob=.map #[] n)(K:∀q,o=.raw q->ob=q)(V:c.w.drawn<=w'.drawn:=by first | exact Zg _ | exact Yr _ | exact Z0 _ _ | assumption):
 bZ FT ⟨w',c.X,upd c.β c.H.length c.w.heap.size,c.H++[o]⟩:=by
 have p:=Ng (fl:=0) (o:=o) (ZF _) I L O N (λid b f=>h.lt f);have m:w'.heap[c.w.heap.size]?=some ob:=by simp[I]
 refine⟨h.gl.step p,?_,?_,?_,λk S=>h.fresh k (by simp only[I,XC] at S;omega),?_,?_,?_,?_⟩
 .intro i j b B y;by_cases J:i=c.H.length
  .by_cases G:j=c.H.length
   .grind
   .subst J;simp only[eB] at B;simp only[cV G] at y;cases B;have:=h.lt y;omega
  .simp only[cV J] at B;by_cases G:j=c.H.length
   .subst G;simp only[eB] at y;cases y;have:=h.lt B;omega
   .simp only[cV G] at y;exact h.inj i j b B y
 .intro id b f;by_cases e:id=c.H.length
  .simp[e]
  .simp only[cV e] at f;have:=h.dom id b f;simp only[Zi,Ye];omega
 .intro id b f;by_cases e:id=c.H.length
  .subst e;simp only[eB] at f;cases f;exact h.fresh _ (Zg _)
  .simp only[cV e] at f;exact h.nx id b f
 .intro id s es d;simp only at d;rw[Yl] at d;split at d
  .exact h.lens id s es d
  .grind
 .intro id s es b d f;simp only at d f |-;by_cases e:id=c.H.length
  .subst e;simp only[eB] at f;cases f;have C:o=.blk s es:=by simpa using d
   obtain⟨cs,T,t,r,D⟩:=R s es C;refine⟨cs,T,by rw[m,t],r,λi j x u=>?_⟩;obtain⟨v,E,z,F⟩:=D i j x u;exact⟨v,E,z,F.step p⟩
  .simp only[cV e] at f;have l:=h.dom id b f;rw[Zp l] at d;obtain⟨cs,T,t,r,D⟩:=h.blk id s es b d f;have A:=h.lt f;refine⟨cs,T,?_,r,λi j x u=>?_⟩
   .grind
   .obtain⟨v,E,z,F⟩:=D i j x u;exact⟨v,E,z,F.step p⟩
 .intro id g b d f;simp only at d f |-;by_cases e:id=c.H.length
  .subst e;simp only[eB] at f;cases f;have C:o=.mp g:=by simpa using d
   obtain⟨t,n,r⟩:=M g C;subst t;exact⟨#[],n,by rw[m,r],⟨rfl,(λe he=>by cases he),by simp⟩,λi k x u=>by simp at u⟩
  .simp only[cV e] at f;have l:=h.dom id b f;rw[Zp l] at d;obtain⟨es,n,t,r,D⟩:=h.map id g b d f;have A:=h.lt f;refine⟨es,n,?_,r,λi k x u=>?_⟩
   .grind
   .obtain⟨Q,E,z,F⟩:=D i k x u;exact⟨Q,E,z,F.step p⟩
 .intro id q b d f;simp only at d f |-;by_cases e:id=c.H.length
  .subst e;simp only[eB] at f;cases f;have C:o=.raw q:=by simpa using d
   rw[m,K q C]
  .simp only[cV e] at f;have l:=h.dom id b f;rw[Zp l] at d;have t:=h.raw id q b d f;have A:=h.lt f;simp only[I,ZW];rw[ZG (by omega)];exact t
theorem V0[aG](o:bZ FT c)(d:w'.heap=c.w.heap.push ob)(q:w'.os=c.w.os)(r:w'.tape=c.w.tape)(u:w'.output=c.w.output)(y:c.w.drawn<=w'.drawn:=by first | exact Zg _ | exact Yr _ | exact Z0 _ _ | assumption):
 bY fl c ⟨w',c.X,c.β,c.H⟩ where
 X:=rfl;os:=q;tape:=r;output:=u;drawn:=y;size:=by simp[d]
 len:=Zg _;frame:=λk A _=>by simp only[d,ZW];rw[ZG (by omega)]
 img:=λi _ a=>.inr ⟨i,a⟩;blkS:=λid s n f=>⟨n,f,Zg _,λ_=>⟨rfl,λb cs T a l=>⟨cs,by
  have:=o.lt a;simp only[d,ZW];rw[ZG (by omega)];exact l,rfl⟩⟩⟩
 mpS:=λid v=>⟨v,rfl⟩;floor:=λid t=>⟨rfl,rfl,λb a=>by
  have:=o.lt a;simp only[d,ZW];rw[ZG (by omega)]⟩
theorem aKm[aG](a:bZ FT c)(p:w'.heap=c.w.heap.push ob)(y:w'.os=c.w.os)(z:w'.tape=c.w.tape)(B:w'.output=c.w.output)(C:c.w.drawn<=w'.drawn:=by first | exact Zg _ | exact Yr _ | exact Z0 _ _ | assumption):
 bZ FT ⟨w',c.X,c.β,c.H⟩:=by
 have f:=V0 (fl:=0) a p y z B;refine⟨a.gl.step f,a.inj,a.dom,a.nx,λk A=>a.fresh k (by simp only[p,XC] at A;omega),a.lens,?_,?_,λid q b d g=>by
  have o:=a.raw id q b d g;have:=a.lt g;simp only[p,ZW];rw[ZG (by omega)];exact o⟩
 .intro id s' es b d g;obtain⟨cs,T,o,n,t⟩:=a.blk id s' es b d g;refine⟨cs,T,?_,n,λi j x s=>let ⟨v,m,r,u⟩:=t i j x s;⟨v,m,r,u.step f⟩⟩;grind
 .intro id h b d g;obtain⟨es,l,o,n,t⟩:=a.map id h b d g;refine⟨es,l,?_,n,λi k x s=>let ⟨e,m,r,u⟩:=t i k x s;⟨e,m,r,u.step f⟩⟩;grind
theorem Ik[aG](m:fl<=c.H.length): bY fl c ⟨c.w,c.X,c.β,c.H++[.blk s []]⟩ where
 X:=rfl;os:=rfl;tape:=rfl;output:=rfl;drawn:=Zg _;size:=Zg _;len:=by simp
 frame:=λ_ _ _=>rfl;img:=λi _ l=>.inr ⟨i,l⟩;blkS:=λid s n r=>⟨n,u6 r,Zg _,λ_=>⟨rfl,λb cs T _ e=>⟨cs,e,rfl⟩⟩⟩;mpS:=λid p=>⟨JC p,rfl⟩;floor:=λid k=>⟨Zp (by omega),rfl,λ_ _=>rfl⟩
theorem NK[aG](d:bZ FT c): bZ FT ⟨c.w,c.X,c.β,c.H++[.blk s []]⟩:=by
 have h:=Ik (c:=c) (s:=s) (ZF _);refine⟨d.gl.step h,d.inj,?_,d.nx,d.fresh,?_,?_,?_,λid q b a g=>by
  have f:=d.dom id b g;rw[Zp f] at a;exact d.raw id q b a g⟩
 .intro id b g;have:=d.dom id b g;simp;omega
 .intro id s' es a;rw[Yl] at a;split at a
  .exact d.lens id s' es a
  .grind
 .intro id s' es b a g;have f:=d.dom id b g;rw[Zp f] at a;obtain⟨cs,T,o,y,r⟩:=d.blk id s' es b a g;exact⟨cs,T,o,y,λi j x t=>let ⟨v,n,p,u⟩:=r i j x t;⟨v,n,p,u.step h⟩⟩
 .intro id l b a g;have f:=d.dom id b g;rw[Zp f] at a;obtain⟨es,m,o,y,r⟩:=d.map id l b a g;exact⟨es,m,o,y,λi k x t=>let ⟨e,n,p,u⟩:=r i k x t;⟨e,n,p,u.step h⟩⟩
theorem getElem?_set_ne'{j:Nat}(h:j≠i): (l.set i a)[j]?=l[j]?:=by grind
theorem getElem?_set_eq'{b:α}(h:l[i]?=some b): (l.set i a)[i]?=some a:=by grind
theorem sV[aG]{s':Nat}(h:H[id]?=some (.blk s es))(i:Nat):
 shp (H.set id (.blk s' es')) i=if i=id then some (s',es'.length) else shp H i:=by
 by_cases e:i=id
 .subst e;simp[shp,getElem?_set_eq' h]
 .simp[shp,getElem?_set_ne' e,e]
theorem mI[aG](J:bZ FT c)(F:fl<=id)(l:c.H[id]?=some (.blk s es))(u:c.β id=some b)(z:c.w.heap[b]?=some (.cells cs T (0,0)))(v:es.length<=es'.length)(G:cs'.size=cs.size)(R:w'.heap[b]?=some (.cells cs' T (0,0)))(r:∀k,k≠b->w'.heap[k]?=c.w.heap[k]?)(C:w'.heap.size=c.w.heap.size)(B:w'.os=c.w.os)(M:w'.tape=c.w.tape)(L:w'.output=c.w.output)(I:c.w.drawn<=w'.drawn:=by first | exact Zg _ | exact Yr _ | exact Z0 _ _ | assumption):
 bY fl c ⟨w',c.X,c.β,c.H.set id (.blk s es')⟩ where
 X:=rfl;os:=B;tape:=M;output:=L;drawn:=I;size:=by simp[C]
 len:=by simp
 frame:=λk _ A=>r k (λe=>A id (by rw[e];exact u));img:=λi _ h=>.inr ⟨i,h⟩;blkS:=λi s' n a=>by
  have D:=sV (s':=s) (es':=es') l i;by_cases e:i=id
  .subst e;have N:s'=s/\n=es.length:=by
    simp only[shp,l,Zb,Zj] at a;exact⟨a.1.symm,a.2.symm⟩
   grind
  .grind
 mpS:=λi E=>⟨by
  obtain⟨f,he,g⟩:=E;have e:i≠id:=by intro e;subst e;rw[l] at he;cases he;exact g
  exact⟨f,by simpa [getElem?_set_ne' e] using he,g⟩,rfl⟩
 floor:=λi Q=>by
  have e:i≠id:=by omega
  exact⟨getElem?_set_ne' e,rfl,λb' m=>r b' (λy=>e (J.inj i id b (by rw[<-y];exact m) u))⟩
theorem vZ[aG](l:bZ FT c)(D:c.H[id]?=some (.blk s es))(p:c.β id=some b)(K:c.w.heap[b]?=some (.cells cs T (0,0)))(z:es.length<=es'.length)(F:cs'.size=cs.size)(M:w'.heap[b]?=some (.cells cs' T (0,0)))(E:∀k,k≠b->w'.heap[k]?=c.w.heap[k]?)(N:w'.heap.size=c.w.heap.size)(R:w'.os=c.w.os)(V:w'.tape=c.w.tape)(Q:w'.output=c.w.output)(Z:∀e∈es',e.length=s)(C:es'.length*s<=cs'.size)(S:∀i j x,bM es' i j=some x->∃v,cs'[i*s+j]?=some v/\bE v=true/\RV FT c x v)(Y:c.w.drawn<=w'.drawn:=by first | exact Zg _ | exact Yr _ | exact Z0 _ _ | assumption):
 bZ FT ⟨w',c.X,c.β,c.H.set id (.blk s es')⟩:=by
 have n:=mI l (ZF _) D p K z F M E N R V Q;refine⟨l.gl.step n,l.inj,?_,l.nx,λk W=>l.fresh k (by simpa [N] using W),?_,?_,?_,λi q b' f g=>by
  have e:i≠id:=by intro e;subst e;rw[getElem?_set_eq' D] at f;cases f
  rw[getElem?_set_ne' e] at f;have u:=l.raw i q b' f g;rw[E b' (λo=>e (l.inj i id b (by rw[<-o];exact g) p))];exact u⟩
 .intro i b' g;have:=l.dom i b' g;simpa using this
 .intro i s' m f;by_cases e:i=id
  .grind
  .rw[getElem?_set_ne' e] at f;exact l.lens i s' m f
 .intro i s' m b' f g;by_cases e:i=id
  .subst e;rw[getElem?_set_eq' D] at f;cases f;rw[p] at g;cases g;exact⟨cs',T,M,C,λa d x y=>let ⟨v,r,B,A⟩:=S a d x y;⟨v,r,B,A.step n⟩⟩
  .rw[getElem?_set_ne' e] at f;obtain⟨L,U,u,J,I⟩:=l.blk i s' m b' f g;refine⟨L,U,?_,J,λa d x y=>let ⟨v,r,B,A⟩:=I a d x y;⟨v,r,B,A.step n⟩⟩;rw[E b' (λo=>e (l.inj i id b (by rw[<-o];exact g) p))];exact u
 .intro i t b' f g;have e:i≠id:=by intro e;subst e;rw[getElem?_set_eq' D] at f;cases f
  rw[getElem?_set_ne' e] at f;obtain⟨m,G,u,J,I⟩:=l.map i t b' f g;refine⟨m,G,?_,J,λa k x y=>let ⟨O,r,B,A⟩:=I a k x y;⟨O,r,B,A.step n⟩⟩;rw[E b' (λo=>e (l.inj i id b (by rw[<-o];exact g) p))];exact u
theorem El[aG](D:bZ FT c)(E:fl<=id)(u:c.H[id]?=some (.blk s es))(v:es.length<es'.length)(m:w'.heap=c.w.heap.push ob)(F:w'.os=c.w.os)(z:w'.tape=c.w.tape)(G:w'.output=c.w.output)(C:c.w.drawn<=w'.drawn:=by first | exact Zg _ | exact Yr _ | exact Z0 _ _ | assumption):
 bY fl c ⟨w',c.X,upd c.β id c.w.heap.size,c.H.set id (.blk s es')⟩ where
 X:=rfl;os:=F;tape:=z;output:=G;drawn:=C;size:=by simp[m]
 len:=by simp
 frame:=λk L _=>by simp only[m,ZW];rw[ZG (by omega)]
 img:=λi b h=>by
  by_cases e:i=id
  .subst e;simp only[eB] at h;cases h;exact .inl (Zg _)
  .simp only[cV e] at h;exact .inr ⟨_,h⟩
 blkS:=λi s' n d=>by
  have o:=sV (s':=s) (es':=es') u i;by_cases e:i=id
  .subst e;have J:s'=s/\n=es.length:=by
    simp only[shp,u,Zb,Zj] at d;exact⟨d.1.symm,d.2.symm⟩
   grind
  .refine⟨n,by rw[o,ZG e];exact d,Zg _,λ_=>⟨cV e,λb' r N g A=>⟨r,?_,rfl⟩⟩⟩;grind
 mpS:=λi B=>by
  obtain⟨f,he,j⟩:=B;have e:i≠id:=by intro e;subst e;rw[u] at he;cases he;exact j
  exact⟨⟨f,by simpa [getElem?_set_ne' e] using he,j⟩,cV e⟩
 floor:=λi M=>by
  have e:i≠id:=by omega
  refine⟨getElem?_set_ne' e,cV e,λb' g=>?_⟩;have:=D.lt g;simp only[m,ZW];rw[ZG (by omega)]
theorem HL[aG](l:bZ FT c)(F:c.H[id]?=some (.blk s es))(C:es.length<es'.length)(p:w'.heap=c.w.heap.push (.cells cs' T (0,0)))(S:w'.os=c.w.os)(Q:w'.tape=c.w.tape)(V:w'.output=c.w.output)(Y:∀e∈es',e.length=s)(u:es'.length*s<=cs'.size)(O:∀i j x,bM es' i j=some x->∃v,cs'[i*s+j]?=some v/\bE v=true/\RV FT c x v)(W:c.w.drawn<=w'.drawn:=by first | exact Zg _ | exact Yr _ | exact Z0 _ _ | assumption):
 bZ FT ⟨w',c.X,upd c.β id c.w.heap.size,c.H.set id (.blk s es')⟩:=by
 have n:=El (fl:=0) l (ZF _) F C p S Q V;refine⟨l.gl.step n,?_,?_,?_,λk R=>l.fresh k (by simp only[p,XC] at R;omega),?_,?_,?_,λi q b' g h=>by
  have e:i≠id:=by intro e;subst e;rw[getElem?_set_eq' F] at g;cases g
  rw[getElem?_set_ne' e] at g;simp only[cV e] at h;have y:=l.raw i q b' g h;have:=l.lt h;simp only[p,ZW];rw[ZG (by omega)];exact y⟩
 .intro i j b B o;by_cases M:i=id
  .by_cases G:j=id
   .grind
   .subst M;simp only[eB] at B;simp only[cV G] at o;cases B;have:=l.lt o;omega
  .simp only[cV M] at B;by_cases G:j=id
   .subst G;simp only[eB] at o;cases o;have:=l.lt B;omega
   .simp only[cV G] at o;exact l.inj i j b B o
 .intro i b' h;by_cases e:i=id
  .grind
  .simp only[cV e] at h;have:=l.dom i b' h;simpa using this
 .intro i b E;by_cases e:i=id
  .subst e;simp only[eB] at E;cases E;exact l.fresh _ (Zg _)
  .simp only[cV e] at E;exact l.nx i b E
 .intro i s' m g;by_cases e:i=id
  .grind
  .rw[getElem?_set_ne' e] at g;exact l.lens i s' m g
 .intro i s' m b' g h;by_cases e:i=id
  .subst e;rw[getElem?_set_eq' F] at g;cases g;simp only[eB] at h;cases h;exact⟨cs',T,by simp[p],u,λa d x A=>let ⟨v,z,t,r⟩:=O a d x A;⟨v,z,t,r.step n⟩⟩
  .rw[getElem?_set_ne' e] at g;simp only[cV e] at h;obtain⟨I,U,y,J,L⟩:=l.blk i s' m b' g h;refine⟨I,U,?_,J,λa d x A=>let ⟨v,z,t,r⟩:=L a d x A;⟨v,z,t,r.step n⟩⟩;have:=l.lt h;simp only[p,ZW];rw[ZG (by omega)];exact y
 .intro i D b' g h;have e:i≠id:=by intro e;subst e;rw[getElem?_set_eq' F] at g;cases g
  rw[getElem?_set_ne' e] at g;simp only[cV e] at h;obtain⟨m,K,y,J,L⟩:=l.map i D b' g h;refine⟨m,K,?_,J,λa k x A=>let ⟨N,z,t,r⟩:=L a k x A;⟨N,z,t,r.step n⟩⟩;have:=l.lt h;simp only[p,ZW];rw[ZG (by omega)];exact y
theorem Nf[aG]{f:List (Value×AV)}(u:bZ FT c)(A:fl<=id)(v:c.H[id]?=some (.mp f))(j:c.β id=some b)(t:w'.heap=c.w.heap.setIfInBounds b ob)(z:w'.os=c.w.os)(x:w'.tape=c.w.tape)(y:w'.output=c.w.output)(D:c.w.drawn<=w'.drawn:=by first | exact Zg _ | exact Yr _ | exact Z0 _ _ | assumption):
 bY fl c ⟨w',c.X,c.β,c.H.set id (.mp ents')⟩:=by
 have r:∀k,k≠b->w'.heap[k]?=c.w.heap[k]?:=λk q=>by
  rw[t,YC (Ne.symm q)]
 refine⟨rfl,z,x,y,D,by simp[t],by simp,λk _ q=>r k (λe=>q id (by rw[e];exact j)),λi _ h=>.inr ⟨i,h⟩,?_,?_,?_⟩
 .intro i s n g;have e:i≠id:=by intro e;subst e;simp[shp,v] at g
  refine⟨n,by simpa [shp,getElem?_set_ne' e] using g,Zg _,λ_=>⟨rfl,λb' p F a l=>⟨p,?_,rfl⟩⟩⟩;exact (r b' (λm=>e (u.inj i id b (by rw[<-m];exact a) j))).trans l
 .intro i C;refine⟨?_,rfl⟩;by_cases e:i=id
  .subst e;exact⟨.mp ents',getElem?_set_eq' v,trivial⟩
  .obtain⟨B,he,o⟩:=C;exact⟨B,by simpa [getElem?_set_ne' e] using he,o⟩
 .intro i E;have e:i≠id:=by omega
  exact⟨getElem?_set_ne' e,rfl,λb' a=>r b' (λm=>e (u.inj i id b (by rw[<-m];exact a) j))⟩
theorem t9[aG]{r:List (Value×AV)}{es:Array MapEntry}{m:Nat}(h:bZ FT c)(y:c.H[id]?=some (.mp r))(o:c.β id=some b)(C:w'.heap=c.w.heap.setIfInBounds b (.map es m))(R:w'.os=c.w.os)(Q:w'.tape=c.w.tape)(M:w'.output=c.w.output)(L:aQe es m ents'.length)(O:∀(i:Nat) (k:Value) (x:AV),ents'[i]?=some (k,x)->∃e,es[i]?=some e/\e.key=k/\RV FT c x e.val)(S:c.w.drawn<=w'.drawn:=by first | exact Zg _ | exact Yr _ | exact Z0 _ _ | assumption):
 bZ FT ⟨w',c.X,c.β,c.H.set id (.mp ents')⟩:=by
 have l:=Nf (ents':=ents') h (ZF _) y o C R Q M;have J:∀k,k≠b->w'.heap[k]?=c.w.heap[k]?:=λk K=>by
  rw[C,YC (Ne.symm K)]
 have I:=h.lt o;refine⟨h.gl.step l,h.inj,?_,h.nx,λk K=>h.fresh k (by simpa [C] using K),?_,?_,?_,λi q b' f g=>by
  have e:i≠id:=by intro e;subst e;rw[getElem?_set_eq' y] at f;cases f
  rw[getElem?_set_ne' e] at f;have z:=h.raw i q b' f g;rw[J b' (λt=>e (h.inj i id b (by rw[<-t];exact g) o))];exact z⟩
 .intro i b' g;have:=h.dom i b' g;simpa using this
 .intro i s' j f;have e:i≠id:=by intro e;subst e;rw[getElem?_set_eq' y] at f;cases f
  rw[getElem?_set_ne' e] at f;exact h.lens i s' j f
 .intro i s' j b' f g;have e:i≠id:=by intro e;subst e;rw[getElem?_set_eq' y] at f;cases f
  rw[getElem?_set_ne' e] at f;obtain⟨G,N,z,E,F⟩:=h.blk i s' j b' f g;refine⟨G,N,?_,E,λa d x A=>let ⟨v,u,s,B⟩:=F a d x A;⟨v,u,s,B.step l⟩⟩;rw[J b' (λt=>e (h.inj i id b (by rw[<-t];exact g) o))];exact z
 .intro i D b' f g;by_cases e:i=id
  .subst e;rw[getElem?_set_eq' y] at f;cases f;rw[o] at g;cases g;refine⟨es,m,by rw[C];simp[I],L,λa k x A=>let ⟨e,u,s,B⟩:=O a k x A;⟨e,u,s,B.step l⟩⟩
  .rw[getElem?_set_ne' e] at f;obtain⟨j,p,z,E,F⟩:=h.map i D b' f g;refine⟨j,p,?_,E,λa k x A=>let ⟨D,u,s,B⟩:=F a k x A;⟨D,u,s,B.step l⟩⟩;rw[J b' (λt=>e (h.inj i id b (by rw[<-t];exact g) o))];exact z
theorem SI[aG](v:bZ FT c)(A:fl<=id)(u:c.H[id]?=some (.raw q))(o:c.β id=some b)(t:w'.heap=c.w.heap.setIfInBounds b q')(D:w'.os=c.w.os)(x:w'.tape=c.w.tape)(C:w'.output=c.w.output)(y:c.w.drawn<=w'.drawn:=by first | exact Zg _ | exact Yr _ | exact Z0 _ _ | assumption):
 bY fl c ⟨w',c.X,c.β,c.H.set id (.raw q')⟩:=by
 have j:∀k,k≠b->w'.heap[k]?=c.w.heap[k]?:=λk r=>by
  rw[t,YC (Ne.symm r)]
 refine⟨rfl,D,x,C,y,by simp[t],by simp,λk _ r=>j k (λe=>r id (by rw[e];exact o)),λi _ h=>.inr ⟨i,h⟩,?_,?_,?_⟩
 .intro i s n f;have e:i≠id:=by intro e;subst e;simp[shp,u] at f
  refine⟨n,by simpa [shp,getElem?_set_ne' e] using f,Zg _,λ_=>⟨rfl,λb' m F a g=>⟨m,?_,rfl⟩⟩⟩;exact (j b' (λl=>e (v.inj i id b (by rw[<-l];exact a) o))).trans g
 .intro i z;refine⟨?_,rfl⟩;by_cases e:i=id
  .subst e;exact⟨.raw q',getElem?_set_eq' u,trivial⟩
  .obtain⟨B,he,p⟩:=z;exact⟨B,by simpa [getElem?_set_ne' e] using he,p⟩
 .intro i E;have e:i≠id:=by omega
  exact⟨getElem?_set_ne' e,rfl,λb' a=>j b' (λl=>e (v.inj i id b (by rw[<-l];exact a) o))⟩
theorem aFp[aG](h:bZ FT c)(s:c.H[id]?=some (.raw q))(o:c.β id=some b)(y:w'.heap=c.w.heap.setIfInBounds b q')(J:w'.os=c.w.os)(M:w'.tape=c.w.tape)(K:w'.output=c.w.output)(O:c.w.drawn<=w'.drawn:=by first | exact Zg _ | exact Yr _ | exact Z0 _ _ | assumption):
 bZ FT ⟨w',c.X,c.β,c.H.set id (.raw q')⟩:=by
 have l:=SI h (ZF _) s o y J M K;have u:∀k,k≠b->w'.heap[k]?=c.w.heap[k]?:=λk E=>by
  rw[y,YC (Ne.symm E)]
 have I:=h.lt o;refine⟨h.gl.step l,h.inj,?_,h.nx,λk E=>h.fresh k (by simpa [y] using E),?_,?_,?_,?_⟩
 .intro i b' g;have:=h.dom i b' g;simpa using this
 .intro i s' j f;have e:i≠id:=by intro e;subst e;rw[getElem?_set_eq' s] at f;cases f
  rw[getElem?_set_ne' e] at f;exact h.lens i s' j f
 .intro i s' j b' f g;have e:i≠id:=by intro e;subst e;rw[getElem?_set_eq' s] at f;cases f
  rw[getElem?_set_ne' e] at f;obtain⟨C,N,n,G,z⟩:=h.blk i s' j b' f g;refine⟨C,N,?_,G,λa d x F=>let ⟨v,D,A,t⟩:=z a d x F;⟨v,D,A,t.step l⟩⟩;rw[u b' (λp=>e (h.inj i id b (by rw[<-p];exact g) o))];exact n
 .intro i B b' f g;have e:i≠id:=by intro e;subst e;rw[getElem?_set_eq' s] at f;cases f
  rw[getElem?_set_ne' e] at f;obtain⟨j,r,n,G,z⟩:=h.map i B b' f g;refine⟨j,r,?_,G,λa k x F=>let ⟨B,D,A,t⟩:=z a k x F;⟨B,D,A,t.step l⟩⟩;rw[u b' (λp=>e (h.inj i id b (by rw[<-p];exact g) o))];exact n
 .intro i L b' f g;by_cases e:i=id
  .grind
  .rw[getElem?_set_ne' e] at f;have n:=h.raw i L b' f g;rw[u b' (λp=>e (h.inj i id b (by rw[<-p];exact g) o))];exact n
end
section
def aL(T:List cS)(vi:Nat): Option Nat:=match T[vi]? with | some F=>some F.fid | none=>none
def veq: Value->Value->Bool
 | .bool a,.bool b=>a==b
 | .int k a,.int k' b=>decide (k=k')&&decide (a=b)
 | .string a,.string b=>decide (a.data=b.data)
 | .slice none 0 0,.slice none 0 0=>true
 | .pointer none,.pointer none=>true
 | .map none,.map none=>true
 | .nilFunc,.nilFunc=>true
 | .nilIface,.nilIface=>true
 | _,_=>false
variable {a b:Value}
theorem aFh(h:veq a b=true): a=b:=by
 unfold veq at h;split at h
 .simp_all
 .simp only[Zd,Z3] at h;rw[h.1,h.2]
 .rename_i x y;simp only[Z3] at h;cases x;cases y;simp_all
 all_goals first | rfl | cases h
def aCF: List Value->List Value->Bool
 | [],[]=>true
 | a::r,b::s=>veq a b&&aCF r s
 | _,_=>false
theorem d7[aG]: ∀{a b:List Value},aCF a b=true->a=b
 | [],[],_=>rfl
 | a::r,b::s,h=>by
  simp only[aCF,Zd] at h;rw[aFh h.1,d7 h.2]
 | [],_::_,h=>by cases h
 | _::_,[],h=>by cases h
theorem aFg(h:veq a b=true): bE a=true:=by
 unfold veq at h;split at h<;>first | rfl | cases h
theorem Ai[aG]: ∀{a b:List Value},aCF a b=true->∀v∈a,bE v=true
 | [],[],_,v,c=>by cases c
 | a::r,b::s,h,v,c=>by
  simp only[aCF,Zd] at h;rcases ZO.1 c with rfl | c
  .exact aFg h.1
  .exact Ai h.2 v c
 | [],_::_,h,_,_=>by cases h
 | _::_,[],h,_,_=>by cases h
section
variable (P:Program)(T:List cS)
def aT: bC->Operand->Bool
 | .tmp t,.tmp u=>t==u
 | .lit v,.const u=>veq v u
 | .agg vs,.const (.agg us)=>aCF vs us.toList
 | .fn vi,.func f=>aL T vi==some f
 | .glob g,.global g'=>g==g'
 | _,_=>false
def eP: List bC->List Operand->Bool
 | [],[]=>true
 | a::r,b::s=>aT T a b&&eP r s
 | _,_=>false
def uQ: Option bC->Option Operand->Bool
 | none,none=>true
 | some a,some b=>aT T a b
 | _,_=>false
def lK(t:TypeId)(z:List Value): Bool:=
 match P.info? t with
 | some i=>match i.zero with
  | some v=>aCF z v.cells.toList
  | none=>false
 | none=>false
def dM(t:TypeId)(n:Nat): Bool:=
 match P.info? t with
 | some i=>i.size==n
 | none=>false
def sZ(t:TypeId)(n:Nat): Bool:=
 match P.info? t with
 | some i=>i.bytes==n
 | none=>false
def De(t:TypeId)(b:Bool): Bool:=
 match P.underlying t with
 | some (.struct _)=>b
 | some (.array _ _)=>b
 | some _=>!b
 | none=>false
def Qn(place:Nat->Option (Nat×Nat)): List (Nat×Nat×bC)->List (Nat×Operand)->Bool
 | [],[]=>true
 | (o,s,x)::r,(i,y)::q=>place i==some (o,s)&&aT T x y&&Qn place r q
 | _,_=>false
def Qu: List (Nat×bC)->List (Nat×Operand)->Bool
 | [],[]=>true
 | (i,x)::r,(j,y)::q=>i==j&&aT T x y&&Qu r q
 | _,_=>false
def Si(fs:Array Field)(i:Nat): Option (Nat×Nat):=
 match fs[i]? with
 | some f=>match P.info? f.type with
  | some n=>some (f.offset,n.size)
  | none=>none
 | none=>none
def K3(fs:List Field): Bool:=fs.all λf=>(P.info? f.type).isSome
def cX(a:Ia)(o:Op): Bool:=
 match a with
 | .mov x=>(match o with
  | .move y=>aT T x y
  | .assign y=>aT T x y
  | _=>false)
 | .movN x=>(match o with
  | .move y=>aT T x y
  | .assign y=>aT T x y
  | _=>false)
 | .rangeStr x=>(match o with
  | .range t y=>aT T x y&&(match P.underlying t with | some .string=>true | _=>false)
  | _=>false)
 | .nextStr x=>(match o with
  | .next y b=>aT T x y&&b
  | _=>false)
 | .freeze x=>(match o with
  | .move y=>aT T x y
  | .assign y=>aT T x y
  | _=>false)
 | .loadF n _ x=>(match o with
  | .load t y=>De P t true&&dM P t n&&aT T x y
  | _=>false)
 | .pick c a b=>(match o with
  | .pick c' a' b'=>aT T c c'&&aT T a a'&&aT T b b'
  | _=>false)
 | .alloc z=>(match o with
  | .alloc t=>lK P t z
  | _=>false)
 | .claim _=>(match o with
  | .move (.const (.slice none 0 0))=>true
  | .assign (.const (.slice none 0 0))=>true
  | _=>false)
 | .allocC z cl=>(match o with
  | .alloc t=>lK P t z&&cl.all λc=>match z[c.1]? with | some (.slice none 0 0)=>true | _=>false
  | _=>false)
 | .box x=>(match o with
  | .box _ y=>aT T x y
  | _=>false)
 | .build z ps=>(match o with
  | .build t qs=>lK P t z&&match P.underlying t with
   | some (.struct fs)=>K3 P fs.toList&&Qn T (Si P fs) ps qs.toList
   | some (.array _ e)=>match P.info? e with
    | some i=>Qn T (λk=>some (k*i.size,i.size)) ps qs.toList
    | none=>false
   | _=>false
  | _=>false)
 | .buildSl _ s n z ps=>(match o with
  | .buildSlice t m qs=>n==m&&match P.underlying t with
   | some (.slice e)=>dM P e s&&lK P e z&&z.length==s&&decide (0<s)&&decide (n*s<=2 ^ 24)&&Qu T ps qs.toList
   | _=>false
  | _=>false)
 | .load agg n x=>(match o with
  | .load t y=>De P t agg&&dM P t n&&(agg||n==1)&&aT T x y
  | _=>false)
 | .store n x v=>(match o with
  | .store t y u=>dM P t n&&aT T x y&&aT T v u
  | _=>false)
 | .nilCheck x=>(match o with
  | .nilCheck y=>aT T x y
  | _=>false)
 | .ibin op x y=>(match o with
  | .binOp op' _ x' y' _=>decide (op=op')&&aT T x x'&&aT T y y'
  | _=>false)
 | .bin op t x y=>(match o with
  | .binOp op' t' x' y' _=>decide (op=op')&&t==t'&&aT T x x'&&aT T y y'
  | _=>false)
 | .un op x=>(match o with
  | .unOp op' _ y=>decide (op=op')&&aT T x y
  | _=>false)
 | .conv s d x=>(match o with
  | .convert s' d' y=>s==s'&&d==d'&&aT T x y
  | _=>false)
 | .fieldAddr off x=>(match o with
  | .fieldAddr t y f=>aT T x y&&match P.underlying t with
   | some (.struct fs)=>match fs[f]? with
    | some fd=>fd.offset==off&&match P.info? fd.type with
     | some i=>i.size != 0
     | none=>false
    | none=>false
   | _=>false
  | _=>false)
 | .field agg n off x=>(match o with
  | .field t y f=>aT T x y&&match P.underlying t with
   | some (.struct fs)=>match fs[f]? with
    | some fd=>fd.offset==off&&De P fd.type agg&&dM P fd.type n&&(agg||n==1)
    | none=>false
   | _=>false
  | _=>false)
 | .idxAddr s x i=>(match o with
  | .indexAddr t y j=>aT T x y&&aT T i j&&match P.underlying t with
   | some (.slice e)=>dM P e s
   | _=>false
  | _=>false)
 | .idxArr s n x i=>(match o with
  | .indexAddr t y j=>aT T x y&&aT T i j&&match P.underlying t with
   | some (.array m e)=>m==n&&dM P e s
   | _=>false
  | _=>false)
 | .index agg s n x i=>(match o with
  | .index t y j=>aT T x y&&aT T i j&&match P.underlying t with
   | some (.array m e)=>m==n&&dM P e s&&De P e agg&&(agg||s==1)
   | _=>false
  | _=>false)
 | .strIdx t x i=>(match o with
  | .index t' y j=>t==t'&&aT T x y&&aT T i j
  | _=>false)
 | .slice s x lo hi mx=>(match o with
  | .slice t y lo' hi' mx'=>aT T x y&&uQ T lo lo'&&uQ T hi hi'&&uQ T mx mx'&&match P.underlying t with
   | some (.slice e)=>dM P e s
   | _=>false
  | _=>false)
 | .strSlice t x lo hi=>(match o with
  | .slice t' y lo' hi' none=>t==t'&&aT T x y&&uQ T lo lo'&&uQ T hi hi'&&match P.underlying t with
   | some .string=>true
   | _=>false
  | _=>false)
 | .mkSlice s z bytes l c=>(match o with
  | .makeSlice t l' c'=>aT T l l'&&aT T c c'&&match P.underlying t with
   | some (.slice e)=>dM P e s&&sZ P e bytes&&lK P e z&&decide (0<s)
   | _=>false
  | _=>false)
 | .mkMap=>(match o with
  | .makeMap _ none=>true
  | _=>false)
 | .lookup kt z m k ok=>(match o with
  | .lookup t m' k' ok'=>ok==ok'&&aT T m m'&&aT T k k'&&match P.underlying t with
   | some (.map kt' e)=>kt==kt'&&match P.info? e with
    | some i=>match i.zero,z with
     | some v,.lit u=>veq u v
     | some (.agg us),.agg vs=>aCF vs us.toList
     | _,_=>false
    | none=>false
   | _=>false
  | _=>false)
 | .mapUpd kt m k v=>(match o with
  | .mapUpdate t m' k' v'=>aT T m m'&&aT T k k'&&aT T v v'&&match P.underlying t with
   | some (.map kt' _)=>kt==kt'
   | _=>false
  | .insert t m' k' v'=>aT T m m'&&aT T k k'&&aT T v v'&&match P.underlying t with
   | some (.map kt' _)=>kt==kt'
   | _=>false
  | _=>false)
 | .lenS x=>(match o with
  | .call ⟨.builtin .len,as,ts⟩=>match as.toList,ts.toList with
   | [y],[t]=>aT T x y&&match P.underlying t with
    | some (.slice _)=>true
    | _=>false
   | _,_=>false
  | _=>false)
 | .lenM x=>(match o with
  | .call ⟨.builtin .len,as,ts⟩=>match as.toList,ts.toList with
   | [y],[t]=>aT T x y&&match P.underlying t with
    | some (.map _ _)=>true
    | _=>false
   | _,_=>false
  | _=>false)
 | .lenStr t x=>(match o with
  | .call ⟨.builtin .len,as,ts⟩=>match as.toList,ts.toList with
   | [y],[t']=>t==t'&&aT T x y
   | _,_=>false
  | _=>false)
 | .lenC n=>(match o with
  | .call ⟨.builtin .len,as,ts⟩=>match as.toList,ts.toList with
   | [_],[t]=>match P.underlying t with
    | some (.array m _)=>m==n
    | _=>false
   | _,_=>false
  | _=>false)
 | .append s bytes x y=>(match o with
  | .call ⟨.builtin .append,as,ts⟩=>match as.toList,ts.toList with
   | [x',y'],[t,t']=>aT T x x'&&aT T y y'&&(match P.underlying t' with | some (.slice _)=>true | _=>false)&&match P.underlying t with
    | some (.slice e)=>dM P e s&&sZ P e bytes&&match P.info? e with
     | some i=>match i.zero with | some z=>z.cells.size==s | none=>false
     | none=>false
    | _=>false
   | _,_=>false
  | _=>false)
 | .appendP s bytes x y=>(match o with
  | .call ⟨.builtin .append,as,ts⟩=>match as.toList,ts.toList with
   | [x',y'],[t,t']=>aT T x x'&&aT T y y'&&(match P.underlying t' with | some (.slice _)=>true | _=>false)&&match P.underlying t with
    | some (.slice e)=>dM P e s&&sZ P e bytes&&match P.info? e with
     | some i=>match i.zero with | some z=>z.cells.size==s | none=>false
     | none=>false
    | _=>false
   | _,_=>false
  | _=>false)
 | .appendZ s bytes z x y=>(match o with
  | .call ⟨.builtin .append,as,ts⟩=>match as.toList,ts.toList with
   | [x',y'],[t,t']=>aT T x x'&&aT T y y'&&(match P.underlying t' with | some (.int _)=>true | _=>false)&&match P.underlying t with
    | some (.slice e)=>dM P e s&&sZ P e bytes&&lK P e z
    | _=>false
   | _,_=>false
  | _=>false)
 | .copy s x y=>(match o with
  | .call ⟨.builtin .copy,as,ts⟩=>match as.toList,ts.toList with
   | [x',y'],[t,_]=>aT T x x'&&aT T y y'&&match P.underlying t with
    | some (.slice e)=>dM P e s
    | _=>false
   | _,_=>false
  | _=>false)
 | .clear s z x=>(match o with
  | .call ⟨.builtin .clear,as,ts⟩=>match as.toList,ts.toList with
   | [x'],[t]=>aT T x x'&&match P.underlying t with
    | some (.slice e)=>dM P e s&&lK P e z
    | _=>false
   | _,_=>false
  | _=>false)
 | .delete kt m k=>(match o with
  | .call ⟨.builtin .delete,as,ts⟩=>match as.toList,ts.toList with
   | [m',k'],t::_=>aT T m m'&&aT T k k'&&match P.underlying t with
    | some (.map kt' _)=>kt==kt'
    | _=>false
   | _,_=>false
  | _=>false)
 | .minmax mx xs=>(match o with
  | .call ⟨.builtin .max,as,_⟩=>mx&&eP T xs as.toList
  | .call ⟨.builtin .min,as,_⟩=>!mx&&eP T xs as.toList
  | _=>false)
 | .mkFn vi caps=>(match o with
  | .makeFunc (.func f) first cs=>first.isEmpty&&aL T vi==some f&&eP T caps cs.toList
  | _=>false)
 | .call _ vi args=>(match o with
  | .call ⟨.value (.func f),as,_⟩=>aL T vi==some f&&eP T args as.toList
  | _=>false)
 | .callS vi args=>(match o with
  | .call ⟨.value (.func f),as,_⟩=>aL T vi==some f&&eP T args as.toList
  | _=>false)
 | .callF vi args=>(match o with
  | .call ⟨.value (.func f),as,_⟩=>aL T vi==some f&&eP T args as.toList
  | _=>false)
 | .callT _ vi args=>(match o with
  | .call ⟨.value (.func f),as,_⟩=>aL T vi==some f&&eP T args as.toList
  | _=>false)
 | .callB vi args=>(match o with
  | .call ⟨.value (.func f),as,_⟩=>aL T vi==some f&&eP T args as.toList
  | _=>false)
 | .capS x=>(match o with
  | .call ⟨.builtin .cap,as,ts⟩=>match as.toList,ts.toList with
   | [y],[t]=>aT T x y&&match P.underlying t with
    | some (.slice _)=>true
    | _=>false
   | _,_=>false
  | _=>false)
 | .callv _ x args=>(match o with
  | .call ⟨.value y,as,_⟩=>aT T x y&&eP T args as.toList
  | _=>false)
 | .extract x i=>(match o with
  | .extract y j=>i==j&&aT T x y
  | _=>false)
def Qq(ops:Array Oper): Option (Nat×Bool)->Option (Nat×Bool)->Bool
 | none,none=>true
 | some (t,b),some (j,b')=>b==b'&&match ops[j]? with
  | some o=>o.dst==some t
  | none=>false
 | _,_=>false
def Cz(ops:Array Oper)(a:bU)(o:Oper): Bool:=a.dst==o.dst&&Qq ops a.guard o.guard&&cX P T a.op o.op
def zQ(ops:Array Oper): List bU->List Oper->Bool
 | [],[]=>true
 | a::r,o::s=>Cz P T ops a o&&zQ ops r s
 | _,_=>false
def IU(acc:List Nat): List Nat->Nat
 | []=>0
 | d::r=>(2 ^ d ||| acc.getD d 0) ||| IU acc r
def wG(ops:List Oper): Nat->List Nat->List Nat
 | 0,acc=>acc
 | n+1,acc=>
  let ds:=match ops[acc.length]? with
   | some o=>(o.after.toList.filter λe=>Region.binds .any e&&decide (e.on<acc.length)).map λ(e:Edge)=>e.on
   | none=>[]
  wG ops n (acc++[IU acc ds])
def aF9: Option bC->List bC
 | some x=>[x]
 | none=>[]
def uU: Ia->List bC
 | .mov x=>[x]
 | .movN x=>[x]
 | .freeze x=>[x]
 | .loadF _ _ x=>[x]
 | .appendP _ _ x y=>[x,y]
 | .rangeStr x=>[x]
 | .nextStr x=>[x]
 | .pick x y z=>[x,y,z]
 | .alloc _=>[]
 | .claim _=>[]
 | .allocC _ _=>[]
 | .box x=>[x]
 | .build _ ps=>ps.map λp=>p.2.2
 | .buildSl _ _ _ _ ps=>ps.map λp=>p.2
 | .load _ _ x=>[x]
 | .store _ x y=>[x,y]
 | .nilCheck x=>[x]
 | .ibin _ x y=>[x,y]
 | .bin _ _ x y=>[x,y]
 | .un _ x=>[x]
 | .conv _ _ x=>[x]
 | .fieldAddr _ x=>[x]
 | .field _ _ _ x=>[x]
 | .idxAddr _ x y=>[x,y]
 | .idxArr _ _ x y=>[x,y]
 | .index _ _ _ x y=>[x,y]
 | .strIdx _ x y=>[x,y]
 | .slice _ x lo hi mx=>x::(aF9 lo++(aF9 hi++aF9 mx))
 | .strSlice _ x lo hi=>x::(aF9 lo++aF9 hi)
 | .mkSlice _ _ _ x y=>[x,y]
 | .mkMap=>[]
 | .lookup _ z m k _=>[z,m,k]
 | .mapUpd _ m k v=>[m,k,v]
 | .lenS x=>[x]
 | .lenM x=>[x]
 | .lenStr _ x=>[x]
 | .lenC _=>[]
 | .append _ _ x y=>[x,y]
 | .appendZ _ _ _ x y=>[x,y]
 | .copy _ x y=>[x,y]
 | .clear _ _ x=>[x]
 | .delete _ x y=>[x,y]
 | .minmax _ xs=>xs
 | .mkFn _ xs=>xs
 | .call _ _ xs=>xs
 | .callv _ x xs=>x::xs
 | .callF _ xs=>xs
 | .callT _ _ xs=>xs
 | .callB _ xs=>xs
 | .callS _ xs=>xs
 | .capS x=>[x]
 | .extract x _=>[x]
def Nd: List bC->List Nat
 | []=>[]
 | .tmp t::r=>t::Nd r
 | _::r=>Nd r
def BT(o:bU): List Nat:=
 match o.guard with
 | some (t,_)=>t::Nd (uU o.op)
 | none=>Nd (uU o.op)
def AJ(x y:bU): Bool:=
 match x.dst with
 | some d=>(BT y).contains d||y.dst==some d
 | none=>false
def jU: Ia->Bool
 | .mov _=>true
 | .movN _=>true
 | .pick ..=>true
 | .build ..=>true
 | .buildSl pu ..=>pu
 | .appendP ..=>true
 | .load ..=>true
 | .nilCheck _=>true
 | .ibin ..=>true
 | .bin ..=>true
 | .un ..=>true
 | .conv ..=>true
 | .fieldAddr ..=>true
 | .field ..=>true
 | .idxAddr ..=>true
 | .idxArr ..=>true
 | .index ..=>true
 | .strIdx ..=>true
 | .slice ..=>true
 | .strSlice ..=>true
 | .lookup ..=>true
 | .lenS _=>true
 | .capS _=>true
 | .lenM _=>true
 | .lenStr ..=>true
 | .lenC _=>true
 | .minmax ..=>true
 | .mkFn ..=>true
 | .call pu ..=>pu
 | .callv pu ..=>pu
 | .extract ..=>true
 | .callS ..=>true
 | .callB ..=>true
 | _=>false
def wL: Ia->Bool
 | .mov _=>true
 | .movN _=>true
 | .pick ..=>true
 | .build ..=>true
 | .buildSl pu ..=>pu
 | .appendP ..=>true
 | .nilCheck _=>true
 | .ibin ..=>true
 | .bin ..=>true
 | .un ..=>true
 | .conv ..=>true
 | .fieldAddr ..=>true
 | .field ..=>true
 | .idxArr ..=>true
 | .index ..=>true
 | .strIdx ..=>true
 | .strSlice ..=>true
 | .lenS _=>true
 | .capS _=>true
 | .lenStr ..=>true
 | .lenC _=>true
 | .minmax ..=>true
 | .mkFn ..=>true
 | .extract ..=>true
 | _=>false
def J7(ops:List Oper): Nat->Bool
 | 0=>true
 | n+1=>J7 ops n&&match ops[n]? with
  | some o=>o.after.toList.all λe=>!Region.binds .any e||decide (e.on<n)
  | none=>true
def cC(aops:List bU)(k:Nat): Bool:=match aops[k]? with
 | some o=>jU o.op
 | none=>true
def jF(aops:List bU)(k:Nat): Bool:=match aops[k]? with
 | some o=>wL o.op
 | none=>true
def fK(aops:List bU)(k:Nat): Bool:=match aops[k]? with
 | some o=>match o.dst with
  | some _=>match o.op with
   | .alloc _=>match o.guard with
    | none=>true
    | some _=>false
   | _=>false
  | none=>false
 | none=>false
def wV(aops:List bU)(an:List Nat): Nat->Nat->Nat
 | 0,_=>aops.length
 | n+1,i=>if fK aops i&&fK aops (i+1)&&!(an.getD (i+1) 0).testBit i then i else wV aops an n (i+1)
def IR(sw:Nat)(aops:List bU)(an:List Nat): Nat->Bool
 | 0=>true
 | j+1=>IR sw aops an j&&((List.range j).all λi=>
  (an.getD j 0).testBit i||((cC aops i||cC aops j||(i==sw&&j==sw+1&&fK aops i&&fK aops j))&&match aops[i]?,aops[j]? with
   | some x,some y=>!AJ x y&&!AJ y x
   | _,_=>false))
def aFm(aops:List bU)(ck:List (Nat×Nat))(an:List Nat)(n:Nat): Bool:=
 (List.range n).all λk=>jF aops k||!cC aops k||((List.range n).all λm=>cC aops m||(an.getD k 0).testBit m||(an.getD m 0).testBit k||ck.contains (k,m))
def aBE(P:Program)(d0 d1:Nat)(o:Oper): Bool:=
 (match o.dst with | some d=>d==d1 | none=>false)&&o.guard.isNone&&match o.op with
  | .binOp .eql t (.tmp x) (.const (.slice none 0 0)) _=>x==d0&&match P.underlying t with
   | some (.slice _)=>true
   | _=>false
  | _=>false
def aAW(sw:Nat)(aops:List bU)(ck:List (Nat×Nat))(an:List Nat)(n:Nat): Bool:=
 !decide (sw+1<n)||(List.range n).all λk=>!cC aops k||jF aops k||(an.getD k 0).testBit sw||ck.contains (k,sw)
def gB: bV->Code->Bool
 | .skip,.skip=>true
 | .skip,.label _=>true
 | .region draw ck aops,.region _ ops draw'=>draw==draw'&&zQ P T ops aops ops.toList&&(!draw||(IR (wV aops (wG ops.toList ops.size []) ops.size 0) aops (wG ops.toList ops.size []) ops.size&&(aFm aops ck (wG ops.toList ops.size []) ops.size&&aAW (wV aops (wG ops.toList ops.size []) ops.size 0) aops ck (wG ops.toList ops.size []) ops.size)&&J7 ops.toList ops.size))
 | .seq a b,.seq a' b'=>gB a a'&&gB b b'
 | .cond c a b,.cond c' a' b'=>aT T c c'&&gB a a'&&gB b b'
 | .block i c,.block j d=>i==j&&gB c d
 | .loop _ _ c,.loop d=>gB c d
 | .exit i,.exit j=>i==j
 | .ret,.ret=>true
 | .frz _ c,d=>gB c d
 | .mask _ _ _ c,d=>gB c d
 | .told _ _ _ c,d=>gB c d
 | .loopV _ _ _ _ c,.loop d=>gB c d
 | .scope c,.scope d=>gB c d
 | .nilIf t d0 d1 a b,.seq (.seq (.region _ ops draw) (.cond (.tmp e) a' .skip)) b'=>!draw&&e==d1&&(match ops.toList with
  | [o1,o2]=>Cz P T ops ⟨some d0,.mov (.tmp t),none⟩ o1&&aBE P d0 d1 o2
  | _=>false)&&gB a a'&&gB b b'
 | .stop,_=>true
 | _,_=>false
def Dx: List U7->List ResultVar->Bool
 | [],[]=>true
 | .tmp t::r,.tmp u::s=>t==u&&Dx r s
 | .cell t n agg::r,.cell u ty::s=>t==u&&dM P ty n&&De P ty agg&&(agg||n==1)&&Dx r s
 | _,_=>false
def Kb(F:cS): Bool:=
 match P.funcs[F.fid]? with
 | some fn=>match fn.body with
  | some c=>gB P T F.body c&&fn.ntmps==F.nt&&Dx P F.rets fn.results.toList&&!(fn.name== "runtime.NumGoroutine")
  | none=>false
 | none=>false
end
end
section
variable {FT:Nat->Option Nat}{H':aY}{P:Program}{T:List cS}{a:Act}{ad:Addr}{agg:Bool}{c:dE}{cc:Array Value}{cs:List AV}{cv:Value}{es:List (List AV)}{fl i id j k:Nat}{α:Type}{l:List α}{n:Nat}{o:Oper}{off s:Nat}{t:TypeId}{tm:List AV}{tot:Nat}{v:Value}{vs:List Value}{w':World}{x:bC}{y:Operand}{z:List Value}{β':Nat->Option Nat}
theorem cO[aG]{a:α}{w:World}: ∀{s:Sem α},aR P s=some a->s.run P w=.ok a w
 | .pure _,h=>by simp only[aR,Zb] at h;subst h;rfl
 | .program k,h=>by
  simp only[Sem.run];exact cO h
 | .mark _ k,h=>by
  simp only[Sem.run];exact cO h
 | .load ..,h=>by simp[aR] at h
 | .store ..,h=>by simp[aR] at h
 | .new ..,h=>by simp[aR] at h
 | .shape ..,h=>by simp[aR] at h
 | .freeze ..,h=>by simp[aR] at h
 | .frozen ..,h=>by simp[aR] at h
 | .getObj ..,h=>by simp[aR] at h
 | .setObj ..,h=>by simp[aR] at h
 | .choose ..,h=>by simp[aR] at h
 | .sys ..,h=>by simp[aR] at h
 | .halt ..,h=>by simp[aR] at h
section inv
theorem RV.ptr_inv{d:Nat}(h:RV FT c (.ptr id tot d off) v): ∃a s n,v=.pointer (some a)/\shp c.H id=some (s,n)/\tot<=n /\
 (tot=n->∃b,c.β id=some b/\a=⟨b,d*s+off,none⟩):=by
 cases h with
 | pure _ _ g=>cases g
 | ptr _ _ _ _ a s n k i j=>grind
theorem RV.ms_inv{len:Nat}(h:RV FT c (.ms id tot off len) v): ∃a cap s n,v=.slice a len cap/\shp c.H id=some (s,n)/\tot<=n/\len<=cap /\
 (tot=n->aM8 c id tot off len a cap s):=by
 cases h with
 | pure _ _ d=>cases d
 | ms _ _ _ _ a cap s n j i g e=>grind
theorem RV.sl_inv{f:Bool}(h:RV FT c (.sl f es) v): RP c.w (lI c) (.sl f es) v:=by
 cases h with
 | pure _ _ b=>grind
theorem RV.rptr_inv(h:RV FT c (.rptr cs) v): ∃(b off:Nat) (cc:Array Value) (T:TypeId) (d:Nat×Nat) (a:Nat->Value),v=.pointer (some ⟨b,off,none⟩)/\Vis c b /\
 c.w.heap[b]?=some (.cells cc T d)/\(∀(j:Nat) (x:AV),cs[j]?=some x->cc[off+j]?=some (a j)/\bE (a j)=true) /\
 (∀(j:Nat) (x:AV),cs[j]?=some x->RP c.w (lI c) x (a j)):=by
 cases h with
 | pure _ _ g=>cases g
 | rptr _ b off cc T d a l k i m=>exact⟨b,off,cc,T,d,a,rfl,l,k,i,m⟩
theorem RV.sptr_inv(h:RV FT c (.sptr cs) v): RV FT c (.rptr cs) v:=by
 cases h with
 | pure _ _ k=>cases k with
  | sptr _ b off cc T i a l g j f=>exact .rptr _ b off cc T i a l.vis g j f
theorem RV.vw_inv(h:RV FT c (.vw es) v): ∃ad cap,v=.slice ad es.length cap/\es.length<=cap/\(es=[]\/∃(b off:Nat) (cc:Array Value) (T:TypeId) (f:Nat×Nat) (s:Nat) (d:Nat->Nat->Value),
 ad=some ⟨b,off,none⟩/\Vis c b/\c.w.heap[b]?=some (.cells cc T f)/\(∀e∈es,e.length=s)/\(∀i j x,bM es i j=some x->cc[off+(i*s+j)]?=some (d i j)/\bE (d i j)=true) /\
 ∀i j x,bM es i j=some x->RP c.w (lI c) x (d i j)):=by
 cases h with
 | pure _ _ r=>cases r
 | vnil a cap=>simp_all
 | vw _ b off cap cc T f s d t n m p q l o=>exact⟨_,cap,rfl,q,.inr ⟨b,off,cc,T,f,s,d,rfl,n,m,p,l,o⟩⟩
theorem RV.rmp_inv{d:List (Value×AV)}(h:RV FT c (.rmp d) v): ∃(b:Nat) (es:Array MapEntry) (e:Nat) (a:Nat->MapEntry),v=.map (some b)/\c.w.heap[b]?=some (.map es e)/\es.size=d.length /\
 (∀(i:Nat) (k:Value) (x:AV),d[i]?=some (k,x)->es[i]?=some (a i)/\(a i).key=k)/\(∀(i:Nat) (k:Value) (x:AV),d[i]?=some (k,x)->RP c.w (lI c) x (a i).val):=by
 cases h with
 | pure _ _ j=>cases j with
  | rmp _ b es e a p o m q g n=>exact⟨b,es,e,a,rfl,o,m,g,n⟩
theorem RV.mp_inv(h:RV FT c (.mp id) v): ∃b,v=.map (some b)/\Bi c.H id/\c.β id=some b:=by
 cases h with
 | pure _ _ d=>cases d
 | mp _ b g e=>grind
theorem RV.it_inv(h:RV FT c (.it id) v): ∃b,v=.pointer (some ⟨b,0,none⟩)/\Bi c.H id/\c.β id=some b:=by
 cases h with
 | pure _ _ d=>cases d
 | it _ b f g=>grind
theorem RV.fn_inv{vi:Nat}{caps:List AV}(h:RV FT c (.fn vi caps) v): ∃(f:Nat) (cv:Array Value) (a:Nat->Value),v=.func (.func f) #[] cv/\FT vi=some f/\cv.size=caps.length /\
 (∀(i:Nat) (x:AV),caps[i]?=some x->cv[i]?=some (a i))/\(∀(i:Nat) (x:AV),caps[i]?=some x->RV FT c x (a i)):=by
 cases h with
 | pure _ _ e=>cases e
 | fn _ f _ cv a k j g d=>exact⟨f,cv,a,rfl,k,j,g,d⟩
theorem RV.agg_inv(h:RV FT c (.agg cs) v): ∃(cv:Array Value) (a:Nat->Value),v=.agg cv/\cv.size=cs.length /\
 (∀(i:Nat) (x:AV),cs[i]?=some x->cv[i]?=some (a i)/\bE (a i)=true)/\(∀(i:Nat) (x:AV),cs[i]?=some x->RV FT c x (a i)):=by
 cases h with
 | pure _ _ e=>cases e
 | agg _ cv a d g f=>exact⟨cv,a,rfl,d,g,f⟩
theorem RV.tup_inv(h:RV FT c (.tup cs) v): ∃(cv:Array Value) (a:Nat->Value),v=.tuple cv/\cv.size=cs.length /\
 (∀(i:Nat) (x:AV),cs[i]?=some x->cv[i]?=some (a i))/\(∀(i:Nat) (x:AV),cs[i]?=some x->RV FT c x (a i)):=by
 cases h with
 | pure _ _ e=>cases e
 | tup _ cv a j g f=>exact⟨cv,a,rfl,j,g,f⟩
end inv
theorem BE(v:Value): bE v=v.oneCell':=by cases v<;>rfl
section
def dO[aG](P:Program)(FT:Nat->Option Nat)(c:dE)(fl:Nat)(o:Oper)(a:Act)(v:AV)(H':aY): Prop:=
 ∀(K:Act->World->Prop) (Q:Exit->Act->World->Prop),
  (∀cv c',c'.H=H'->bY fl c c'->bZ FT c'->RV FT c' v cv->K (a.put o.dst cv) c'.w)->o.wp P a c.w K Q
theorem eM[aG]{v:AV}(g:(execOp a.eval o).run P c.w=.ok (.value cv) w')(b:bY fl c ⟨w',c.X,β',H'⟩)(f:bZ FT ⟨w',c.X,β',H'⟩)(d:RV FT ⟨w',c.X,β',H'⟩ v cv): dO P FT c fl o a v H':=by
 intro K Q e;unfold Oper.wp;rw[g];exact e cv ⟨w',c.X,β',H'⟩ rfl b f d
theorem aHv[aG](d:(execOp a.eval o).run P c.w=.ok .skip w')(b:bY fl c ⟨w',c.X,β',H'⟩)(f:bZ FT ⟨w',c.X,β',H'⟩):
 dO P FT c fl o a (.lit bP) H':=by
 intro K Q e;unfold Oper.wp;rw[d];exact e bP ⟨w',c.X,β',H'⟩ rfl b f (RV.lit _)
theorem bR[aG]{v:AV}(d:bZ FT c)(e:(execOp a.eval o).run P c.w=.ok (.value cv) c.w)(b:RV FT c v cv): dO P FT c fl o a v c.H:=
 eM e (bY.refl _ _) d b
theorem SM[aG](vs:List Value)(d:∀v∈vs,bE v=true): RV FT c (.agg (vs.map .lit)) (.agg vs.toArray):=by
 refine .agg _ _ (λi=>vs.getD i bP) (by simp) ?_ ?_
 .grind
 .intro i x a;simp at a;obtain⟨v,b,rfl⟩:=a;simp only[YV,b,Yo];exact RV.lit v
theorem bA[aG](k:bZ (aL T) c)(b:TR (aL T) c tm a.tmps)(h:aT T x y=true): RV (aL T) c (aH tm x) (a.eval y):=by
 unfold aT at h;split at h
 .rename_i t u;have:=by simpa using h
  subst this;simp only[aH,Act.eval];cases j:tm[t]? with
  | none=>
   have g:a.tmps.size<=t:=by rw[<-b.1];simpa using j
   have:=Yd g;simp only[Yg,this];exact RV.lit _
  | some x=>
   obtain⟨v,o,n⟩:=b.2 t x j;simpa [o] using n
 .rw[aFh h];exact RV.lit _
 .rename_i vs m;have e:=d7 h;have:m=vs.toArray:=by rw[e]
  rw[this];exact SM vs (Ai h)
 .rename_i vi f;refine .fn vi f [] #[] (λ_=>bP) (by simpa using h) rfl ?_ ?_<;>intro i x l<;>simp at l
 .rename_i p;have:=by simpa using h
  subst this;simp only[aH];split
  .rename_i d;exact k.gl.rv d
  .exact RV.undef _
 .cases h
theorem aFC[aG](e:bZ (aL T) c)(d:TR (aL T) c tm a.tmps)(b:o.op=.move y\/o.op=.assign y)(h:aT T x y=true):
 dO P (aL T) c fl o a (aH tm x) c.H:=by
 refine bR e ?_ (bA e d h);rcases b with b | b<;>simp[execOp,b]
theorem aNL[aG](d:bZ (aL T) c)(b:TR (aL T) c tm a.tmps){y z:bC}{g f e:Operand}{t:Bool}(i:o.op=.pick g f e)(n:aT T x g=true)(m:aT T y f=true)(l:aT T z e=true)(j:aH tm x=.lit (.bool t)):
 dO P (aL T) c fl o a (if t then aH tm y else aH tm z) c.H:=by
 have h:=bA d b n;rw[j] at h;have k:=h.lit_inv;refine bR (cv:=if t then a.eval f else a.eval e) d ?_ ?_
 .simp[execOp,i,k,asBool]
 .cases t
  .exact bA d b l
  .exact bA d b m
theorem iJ[aG](h:lK P t z=true): ∃i v,P.info? t=some i/\i.zero=some v/\v.cells=z.toArray/\∀u∈z,bE u=true:=by
 unfold lK at h;split at h
 .rename_i i b;split at h
  .rename_i v a;refine⟨i,v,b,a,?_,Ai h⟩;have:=d7 h;rw[this]
  .cases h
 .cases h
theorem aAC{x:AV}(h:bM [cs] i j=some x): i=0/\cs[j]?=some x:=by
 unfold bM at h;grind
theorem aFs{X:Nat->Prop}{L:List dK}(β:Nat->Option Nat)(H:aY)(b:Nat)(a:β H.length=some b): RV FT ⟨w',X,β,H++.blk s [cs]::L⟩ (.ptr H.length 1 0 0) (.pointer (some ⟨b,0,none⟩)):=
 .ptr H.length 1 0 0 _ s 1 (by simp[shp]) (Zg _) λ_=>⟨b,a,by simp⟩
theorem OY[aG](f:bZ (aL T) c)(d:fl<=c.H.length){cv:Array Value}(m:(execOp a.eval o).run P c.w=.ok (.value (.pointer (some ⟨c.w.heap.size,0,none⟩))) (c.w.alloc (.cells cv t (0,0))))(e:cv.size=cs.length)(l:∀(j:Nat) (x:AV),cs[j]?=some x->∃v,cv[j]?=some v/\bE v=true/\RV (aL T) c x v):
 dO P (aL T) c fl o a (.ptr c.H.length 1 0 0) (c.H++[.blk cs.length [cs]]):=by
 refine eM m (Ng d rfl rfl rfl rfl (λid b k=>f.lt k))
  (d9 f rfl rfl rfl rfl ?_ ?_ ?_ (λ_ h=>by cases h)) (aFs _ _ _ (eB _ _ _))
 .grind
 .intro s es he;cases he;refine⟨cv,t,rfl,by simp[e],?_⟩;intro i j x g;obtain⟨rfl,n⟩:=aAC g;grind
 .grind
theorem aLc[aG](n:bZ (aL T) c)(e:fl<=c.H.length)(p:o.op=.alloc t)(h:lK P t z=true):
 dO P (aL T) c fl o a (.ptr c.H.length 1 0 0) (c.H++[.blk z.length [z.map .lit]]):=by
 obtain⟨i,v,l,k,m,d⟩:=iJ h;have:=OY (P:=P) (o:=o) (a:=a) (cs:=z.map AV.lit) (cv:=z.toArray) (t:=t) n e ?_ (by simp) ?_
 .grind
 .simp[execOp,p,Instr.alloc,zeroValue,typeInfo,l,k,newVar,newRow,m]
 .intro j x g;simp at g;obtain⟨u,f,rfl⟩:=g;exact⟨u,by simpa using f,d u (Zf f),RV.lit u⟩
theorem Kc[aG]{x:AV}(E:RV FT c x v)(h:cellsOf x=some cs):
 v.cells.size=cs.length/\∀(j:Nat) (y:AV),cs[j]?=some y->∃u,v.cells[j]?=some u/\bE u=true/\RV FT c y u:=by
 have d:∀{x:AV} {v:Value},RV FT c x v->bE v=true->cs=[x]->
  v.cells.size=cs.length/\∀(j:Nat) (y:AV),cs[j]?=some y->∃u,v.cells[j]?=some u/\bE u=true/\RV FT c y u:=by
  intro x v E m e;have Q:v.cells=#[v]:=by cases v<;>first | rfl | (simp[bE] at m)
  grind
 cases E with
 | pure _ _ L=>
  cases L with
  | undef=>simp[cellsOf] at h
  | lit v=>
   simp only[cellsOf] at h;split at h
   .rename_i m;cases h;exact d (RV.lit v) m rfl
   .cases h
  | nil f a' cap I=>
   simp only[cellsOf,Zb] at h;exact d (.pure _ _ (.nil f a' cap I)) rfl h.symm
  | sl f es b off cap cc T o s a i g k l p r z J=>
   simp only[cellsOf,Zb] at h;exact d (.pure _ _ (.sl f es b off cap cc T o s a i g k l p r z J)) rfl h.symm
  | sptr cs' b off cc T o a i g k l=>
   simp only[cellsOf,Zb] at h;exact d (.pure _ _ (.sptr cs' b off cc T o a i g k l)) rfl h.symm
  | rmp q b es A a i g k l p r=>
   simp only[cellsOf,Zb] at h;exact d (.pure _ _ (.rmp q b es A a i g k l p r)) rfl h.symm
 | ms id tot off len a' cap s n i g k l=>
  simp only[cellsOf,Zb] at h;exact d (.ms id tot off len a' cap s n i g k l) rfl h.symm
 | ptr id tot t off a' s n i g k=>
  simp only[cellsOf,Zb] at h;exact d (.ptr id tot t off a' s n i g k) rfl h.symm
 | rptr cs' b off cc T o a i g k l=>
  simp only[cellsOf,Zb] at h;exact d (.rptr cs' b off cc T o a i g k l) rfl h.symm
 | vnil a' cap=>
  simp only[cellsOf,Zb] at h;exact d (.vnil a' cap) rfl h.symm
 | vw es b off cap cc T o s a i g k l p r z=>
  simp only[cellsOf,Zb] at h;exact d (.vw es b off cap cc T o s a i g k l p r z) rfl h.symm
 | mp id b i g=>
  simp only[cellsOf,Zb] at h;exact d (.mp id b i g) rfl h.symm
 | it id b i g=>
  simp only[cellsOf,Zb] at h;exact d (.it id b i g) rfl h.symm
 | fn vi f caps cv a i g k l=>
  simp only[cellsOf,Zb] at h;exact d (.fn vi f caps cv a i g k l) rfl h.symm
 | agg cs' cv a i g k=>
  simp only[cellsOf,Zb] at h;subst h;exact⟨i,λj y w=>⟨a j,(g j y w).1,(g j y w).2,k j y w⟩⟩
 | tup=>simp[cellsOf] at h
theorem aQX[aG](f:bZ (aL T) c)(b:TR (aL T) c tm a.tmps)(e:fl<=c.H.length)(k:o.op=.box t y)(h:aT T x y=true)(j:cellsOf (aH tm x)=some cs):
 dO P (aL T) c fl o a (.ptr c.H.length 1 0 0) (c.H++[.blk cs.length [cs]]):=by
 obtain⟨g,i⟩:=Kc (bA f b h) j;refine OY (t:=t) f e ?_ g i;simp[execOp,k,Instr.box,newVar,newRow]
theorem aD0[aG](f:bZ (aL T) c)(e:fl<=c.H.length)(d:o.op=.move (.const bQ)\/o.op=.assign (.const bQ)):
 dO P (aL T) c fl o a (.ms c.H.length 0 0 0) (c.H++[.blk s []]):=by
 refine eM (cv:=bQ) ?_ (Ik e) (NK f) ?_
 .rcases d with d | d<;>simp[execOp,d,Act.eval]
 .refine .ms _ 0 0 0 none 0 s 0 (by simp[shp]) (Zg _) (Zg _) λ_=>⟨Zg _,.inl ⟨?_,rfl,rfl,rfl⟩⟩;cases g:c.β c.H.length with
  | none=>rfl
  | some b=>have:=f.dom _ b g;omega
theorem fH(b k j:Nat): (⟨b,k,none⟩:Addr).add j=⟨b,k+j,none⟩:=by unfold Addr.add;split<;>simp_all
def n8(FT:Nat->Option Nat)(c:dE)(ad:Addr)(cs:List AV)(vs:List Value): Prop:=
 vs.length=cs.length/\(∀(j:Nat) (u:Value),vs[j]?=some u->c.w.cell? (ad.add j)=some u) /\
 ∀(j:Nat) (x:AV),cs[j]?=some x->∃u,vs[j]?=some u/\bE u=true/\RV FT c x u
theorem eT{H:aY}(h:H[id]?=some (.blk s es)): shp H id=some (s,es.length):=by simp[shp,h]
theorem Qv[aG]{b:Nat}{T:TypeId}{a:Nat×Nat}(d:c.w.heap[b]?=some (.cells cc T a))(f:cs.length=n)(h:∀(j:Nat) (x:AV),cs[j]?=some x->∃u,cc[k+j]?=some u/\bE u=true/\RV FT c x u):
 n8 FT c ⟨b,k,none⟩ cs ((cc.toList.drop k).take n):=by
 refine⟨?_,?_,?_⟩
 .simp only[f];cases n with
  | zero=>simp
  | succ m=>
   obtain⟨u,e,_⟩:=h m (cs[m]'(by omega)) (by simp);grind
 .intro j u e;rw[fH,cell_of_row c.w b (k+j) cc T a d];grind
 .grind
theorem BU[aG](y:bZ FT c){x:AV}(p:RV FT c x v)(h:eK c.H x n=some cs):
 ∃(ad:Addr) (vs:List Value),v=.pointer (some ad)/\cs.length=n/\n8 FT c ad cs vs:=by
 unfold eK at h;split at h
 .rename_i id tot q off;split at h
  .rename_i s es t;split at h
   .rename_i A;split at h
    .rename_i e he;split at h
     .rename_i k;cases h;cases p with
      | pure _ _ u=>cases u
      | ptr _ _ _ _ ad s' F m l g=>
       rw[eT t] at m;cases m;obtain⟨b,w,rfl⟩:=g A.symm;obtain⟨cc,T,C,E,z⟩:=y.blk id s es b t w;have a:((e.drop off).take n).length=n:=by simp;omega
       refine⟨_,_,rfl,a,Qv C a ?_⟩;intro j x d;rw[Zs] at d;split at d
       .rw[Zw] at d;have:=z q (off+j) x (by simp[bM,he,d]);simpa [Yt] using this
       .grind
     .cases h
    .cases h
   .cases h
  .cases h
 .rename_i i;split at h
  .rename_i k;cases h;obtain⟨b,off,cc,T,B,f,rfl,m,l,g,o⟩:=p.rptr_inv
   .have a:(i.take n).length=n:=by simp;omega
    refine⟨_,_,rfl,a,Qv l a ?_⟩;intro j x d;rw[Zs] at d;split at d
    .exact⟨f j,(g j x d).1,(g j x d).2,.pure _ _ (o j x d)⟩
    .grind
  .cases h
 .rename_i i;split at h
  .rename_i k;cases h;obtain⟨b,off,cc,T,B,f,rfl,m,l,g,o⟩:=p.sptr_inv.rptr_inv
   .have a:(i.take n).length=n:=by simp;omega
    refine⟨_,_,rfl,a,Qv l a ?_⟩;intro j x d;rw[Zs] at d;split at d
    .exact⟨f j,(g j x d).1,(g j x d).2,.pure _ _ (o j x d)⟩
    .grind
  .cases h
 .cases h
theorem Iz(h:n8 FT c ad cs vs): RV FT c (.agg cs) (.agg vs.toArray):=by
 refine .agg cs vs.toArray (λi=>vs.getD i bP) (by simp[h.1]) ?_ ?_
 .intro i x a;obtain⟨u,b,d,_⟩:=h.2.2 i x a;simp[b,d]
 .intro i x a;obtain⟨u,b,_,e⟩:=h.2.2 i x a;simpa [b] using e
theorem eJ(h:dM P t n=true): ∃i,P.info? t=some i/\i.size=n:=by
 unfold dM at h;grind
theorem Sn{b:Bool}(h:De P t b=true)(w:World): (isAgg t).run P w=.ok b w:=by
 unfold De at h;unfold isAgg;split at h
 .rename_i a;simp[Zo a,h]
 .rename_i a;simp[Zo a,h]
 .rename_i a;rw[YZ,Zo a];simp_all
 .cases h
theorem wZ[aG](b:n8 FT c ad cs vs)(d:cs.length=n)(g:De P t agg=true)(j:dM P t n=true):
 agg=true->(loadVar t ad).run P c.w=.ok (.agg vs.toArray) c.w:=by
 intro e;subst e;obtain⟨i,h,a⟩:=eJ j;have f:=run_loadCells_list (P:=P) c.w ad vs b.2.1;have e:=b.1.trans d;simp[loadVar,Sn g,sizeOf,typeInfo,h,a,<-e,f]
theorem Kr[aG]{u:Value}(a:c.w.cell? ad=some u)(b:De P t false=true):
 (loadVar t ad).run P c.w=.ok u c.w:=by
 simp[loadVar,Sn b,a]
theorem aBv[aG](f:bZ (aL T) c)(g:TR (aL T) c tm a.tmps){v:AV}(k:o.op=.load t y)(h:aT T x y=true)(j:De P t agg=true)(p:dM P t n=true)(r:eK c.H (aH tm x) n=some cs)(i:if agg then v=.agg cs else cs=[v]): dO P (aL T) c fl o a v c.H:=by
 obtain⟨ad,vs,l,m,e⟩:=BU f (bA f g h) r;cases agg with
 | true=>
  subst i;refine bR f ?_ (Iz e);simp[execOp,k,Instr.loadAt,Instr.sureAddr,l,wZ e m j p rfl]
 | false=>
  subst i;obtain⟨u,w,z,q⟩:=e.2.2 0 v (by simp);have d:=e.2.1 0 u w;have s:ad.add 0=ad:=by simp[Addr.add]
  rw[s] at d;refine bR f ?_ q;simp[execOp,k,Instr.loadAt,Instr.sureAddr,l,Kr d j]
theorem cM{vs:List α}(h:k+vs.length<=l.length): (aU l k vs).length=l.length:=by
 simp only[aU,Zi,ZK,ZX];omega
theorem Im{vs:List α}(h:k+vs.length<=l.length)(p:Nat):
 (aU l k vs)[p]?=if p<k then l[p]? else if p<k+vs.length then vs[p-k]? else l[p]?:=by
 unfold aU;grind
theorem NN(a:i<n)(b:j<s): i*s+j<n*s:=by
 have:(i+1)*s<=n*s:=Zr s a;rw[ZA] at this;omega
theorem dC{x:AV}(h:bM es i j=some x): ∃e,es[i]?=some e/\e[j]?=some x:=by
 unfold bM at h;grind
theorem aOV[aG]{a:Nat}{e:List AV}(r:∀e∈es,e.length=s)(he:es[a]?=some e)(d:off+cs.length<=e.length)(A:es.length*s<=cc.size)(B:vs.length=cs.length)(b:∀i j x,bM es i j=some x->∃v,cc[i*s+j]?=some v/\bE v=true/\RV FT c x v)(t:∀(j:Nat) (x:AV),cs[j]?=some x->∃u,vs[j]?=some u/\bE u=true/\RV FT c x u):
 (∀w∈es.set a (aU e off cs),w.length=s) /\
 ∀i j x,bM (es.set a (aU e off cs)) i j=some x->
  ∃v,((aU cc.toList (a*s+off) vs).toArray)[i*s+j]?=some v/\bE v=true/\RV FT c x v:=by
 have q:=r e (Zf he);have l:=(Ze.1 he).1;have o:(a+1)*s<=es.length*s:=Zr s l;rw[ZA] at o;have g:a*s+off+vs.length<=cc.toList.length:=by simp;omega
 refine⟨?_,?_⟩
 .intro w p;rcases YL p with h | h
  .grind
  .rw[h,cM d,q]
 .intro i j x E;simp only[WH,Im g];obtain⟨C,m,f⟩:=dC E;by_cases n:i=a
  .subst n;rw[getElem?_set_eq' he] at m;cases m;rw[Im d] at f;split at f
   .rename_i y;rw[Zu (by omega)];have:=b i j x (by simp[bM,he,f]);simpa using this
   .rename_i y;split at f
    .grind
    .rename_i F;rw[ZG (by omega),ZG (by omega)];have:=b i j x (by simp[bM,he,f]);simpa using this
  .rw[getElem?_set_ne' n] at m;have y:j<s:=by
    rw[<-r C (Zf m)];exact (Ze.1 f).1
   have z:i*s+j<a*s+off\/a*s+off+vs.length<=i*s+j:=by
    rcases WZ n with h | h
    .have:(i+1)*s<=a*s:=Zr s h;rw[ZA] at this;omega
    .have:(a+1)*s<=i*s:=Zr s h;rw[ZA] at this;omega
   have D:=b i j x (by simp[bM,m,f]);grind
theorem gO(w:World)(g k:Nat)(cc:Array Value)(vs:List Value):
 w.setRow g (cc.toList.take (k+0)++vs++cc.toList.drop (k+0+vs.length)).toArray=w.setRow g (aU cc.toList k vs).toArray:=by
 simp[aU]
theorem aKP[aG](z:bZ (aL T) c)(C:TR (aL T) c tm a.tmps){v:bC}{u:Operand}(ho:o.op=.store t y u)(h1:aT T x y=true)(h2:aT T v u=true)(Y:dM P t n=true)(hc:cellsOf (aH tm v)=some cs)(V:cs.length=n)(d:vY fl c.H (aH tm x) cs=some H'): dO P (aL T) c fl o a (.lit bP) H':=by
 obtain⟨i,W,E⟩:=eJ Y;obtain⟨p,I⟩:=Kc (bA z C h2) hc;have J:=bA z C h1;unfold vY at d;split at d
 .rename_i id tot f off Q;rw[Q] at J;split at d
  .rename_i N;split at d
   .rename_i s es g;split at d
    .rename_i G;split at d
     .rename_i e he;split at d
      .rename_i F;cases d
       .obtain⟨ad,s',n',S,U,g2,g3⟩:=J.ptr_inv;rw[eT g] at U;cases U;obtain⟨b,O,rfl⟩:=g3 G.symm;obtain⟨cc,M,B,k2,k3⟩:=z.blk id s es b g O;have h:=z.lens id s es g;have Z:=h e (Zf he);have D:=(Ze.1 he).1;have R:(f+1)*s<=es.length*s:=Zr s D;rw[ZA] at R;have r:=by simpa using p
        obtain⟨p1,p2⟩:=aOV (vs:=(a.eval u).cells.toList) (cc:=cc) h he F k2 r k3 (λj x J=>by simpa using I j x J);have l:f*s+off+(a.eval u).cells.toList.length<=cc.toList.length:=by simp at r |-;omega
        have A:∀v∈(a.eval u).cells.toList,v.oneCell'=true:=by
         intro v hv;obtain⟨j,X⟩:=Yk.1 hv;have a2:j<cs.length:=by rw[<-r];exact (Ze.1 X).1
         obtain⟨u',w1,w2,_⟩:=I j cs[j] (by simp);have:u'=v:=by
          grind
         rw[<-BE,<-this];exact w2
        have m:=YY P b (f*s+off) M (a.eval u).cells.toList 0 cc c.w B (by simpa using l) A;rw[gO] at m;have K:=cM l;refine aHv (w':=c.w.setRow b (aU cc.toList (f*s+off) (a.eval u).cells.toList).toArray) (β':=c.β) ?_
         (mI (cs':=(aU cc.toList (f*s+off) (a.eval u).cells.toList).toArray) z N g O B (by simp) ?_ (Yu c.w b cc _ M _ B) (λk L=>Yx c.w b k _ L) (by simp) rfl rfl rfl)
         (vZ (cs':=(aU cc.toList (f*s+off) (a.eval u).cells.toList).toArray) z g O B (by simp) ?_ (Yu c.w b cc _ M _ B) (λk L=>Yx c.w b k _ L) (by simp) rfl rfl rfl p1 ?_ p2)
        .have a1:¬(a.eval u).cells.size≠i.size:=by rw[p,V,E];simp
         simp[execOp,ho,Instr.storeAt,Instr.sureAddr,storeVar,sizeOf,typeInfo,S,W,p,V,E,m]
        .grind
        .grind
        .grind
      .grind
     .grind
    .grind
   .grind
  .grind
 .grind
end
end
section
variable {FT:Nat->Option Nat}{P:Program}{T:List cS}{a:Act}{agg:Bool}{c:dE}{cs:List AV}{e:Operand}{f fl:Nat}{g:Operand}{i:bC}{k:IntKind}{n:Nat}{o:Oper}{off:Nat}{p q:Operand}{r:Value}{t:TypeId}{tm:List AV}{u v:Value}{x:bC}{y:Operand}
section
theorem Bf[aG](m:bZ (aL T) c)(l:TR (aL T) c tm a.tmps)(k:o.op=.nilCheck y)(h:aT T x y=true)(g:(∃id tot j off,aH tm x=.ptr id tot j off)\/(∃cs,aH tm x=.rptr cs)\/(∃cs,aH tm x=.sptr cs)\/∃vi caps,aH tm x=.fn vi caps):
 dO P (aL T) c fl o a (aH tm x) c.H:=by
 have i:=bA m l h;refine bR (cv:=a.eval y) m ?_ i;rcases g with⟨id,tot,j,off,g⟩ | ⟨cs,g⟩ | ⟨cs,g⟩ | ⟨vi,caps,g⟩<;>rw[g] at i
 .obtain⟨ad,s,n,e,_⟩:=i.ptr_inv;simp[execOp,k,e]
 .obtain⟨b,off,cc,p,q,d,e,_⟩:=i.rptr_inv;simp[execOp,k,e]
 .obtain⟨b,off,cc,p,q,d,e,_⟩:=i.sptr_inv.rptr_inv;simp[execOp,k,e]
 .obtain⟨f,cv,d,e,_⟩:=i.fn_inv;simp[execOp,k,e]
theorem aJe{a:BinOp}{x y:Int}(h:aAs a k x y=some r)(w:World): (binOp a t (.int k x) (.int k y)).run P w=.ok r w:=by
 cases a<;>simp[aAs] at h<;>subst h<;>simp[binOp,Op.intArith,Op.intCmp]
theorem aEk{a:BinOp}{k':IntKind}{x y:Int}(w:World): (eqGuard a t p q (.int k x) (.int k' y)).run P w=.ok () w:=by
 unfold eqGuard;split<;>simp
theorem aNO[aG](d:bZ (aL T) c)(b:TR (aL T) c tm a.tmps){f:BinOp}{y:bC}{h:Operand}{j:TypeId}{n m:Int}(s:o.op=.binOp f t h e j)(p:aT T x h=true)(q:aT T y e=true)(u:aH tm x=.lit (.int k n))(e2:aH tm y=.lit (.int k m))(l:aAs f k n m=some r):
 dO P (aL T) c fl o a (.lit r) c.H:=by
 have g:=bA d b p;have i:=bA d b q;rw[u] at g;rw[e2] at i;refine bR (cv:=r) d ?_ (RV.lit r);simp[execOp,s,g.lit_inv,i.lit_inv,aEk,aJe l]
theorem aBA[aG]: ∀{cs:List AV} {l:List Value},Fc cs=some l->cs=l.map .lit
 | [],l,h=>by simp[Fc] at h;subst h;rfl
 | .lit v::r,l,h=>by
  simp only[Fc] at h;split at h
  .rename_i b a;cases h;rw[aBA a];rfl
  .cases h
 | .undef::_,_,h=>by simp[Fc] at h
 | .sl ..::_,_,h=>by simp[Fc] at h
 | .ms ..::_,_,h=>by simp[Fc] at h
 | .ptr ..::_,_,h=>by simp[Fc] at h
 | .rptr ..::_,_,h=>by simp[Fc] at h
 | .mp ..::_,_,h=>by simp[Fc] at h
 | .fn ..::_,_,h=>by simp[Fc] at h
 | .agg ..::_,_,h=>by simp[Fc] at h
 | .tup ..::_,_,h=>by simp[Fc] at h
theorem IZ[aG]{x:AV}(f:RV FT c x v)(h:lits x=some u): v=u:=by
 unfold lits at h;split at h
 .cases h;exact f.lit_inv
 .rename_i cs;split at h
  .rename_i l k;cases h;have e:=aBA k;subst e;obtain⟨cv,b,rfl,n,j,m⟩:=f.agg_inv;congr 1;apply Xr;intro i;by_cases d:i<l.length
   .have g:(l.map AV.lit)[i]?=some (.lit l[i]):=by simp[d]
    have:=(m i _ g).lit_inv;rw[(j i _ g).1,this];simp[d]
   .rw[Yd (by simp at n;omega),Yd (by simp;omega)]
  .cases h
 .cases h
theorem R3{a:BinOp}{p' q':Operand}(b:uH v=true): eqGuard a t p q v u=eqGuard a t p' q' v u:=by
 unfold eqGuard;cases v<;>first | rfl | (cases u<;>rfl) | (simp[uH] at b)
theorem aEj[aG]{a:BinOp}(b:uH v=true)(h:aR P (eqGuard a t (.tmp 0) (.tmp 0) v u)=some ())(w:World):
 (eqGuard a t p q v u).run P w=.ok () w:=by
 rw[R3 (p':=.tmp 0) (q':=.tmp 0) b];exact cO h
theorem aQY[aG](e:bZ (aL T) c)(b:TR (aL T) c tm a.tmps){d:BinOp}{y:bC}{f:Operand}{h:TypeId}(q:o.op=.binOp d t f g h)(i:aT T x f=true)(k:aT T y g=true)(s:lits (aH tm x)=some v)(e2:lits (aH tm y)=some u)(j:uH v=true)(l:aR P (eqGuard d t (.tmp 0) (.tmp 0) v u)=some ())(m:aR P (binOp d t v u)=some r):
 dO P (aL T) c fl o a (.lit r) c.H:=by
 have n:=IZ (bA e b i) s;have p:=IZ (bA e b k) e2;refine bR (cv:=r) e ?_ (RV.lit r);simp[execOp,q,n,p,aEj j l,cO m]
theorem aTD[aG](e:bZ (aL T) c)(b:TR (aL T) c tm a.tmps){f:UnOp}{d:Operand}(k:o.op=.unOp f t d)(h:aT T x d=true)(j:aH tm x=.lit v)(i:aR P (Op.unary f v)=some r): dO P (aL T) c fl o a (.lit r) c.H:=by
 have g:=bA e b h;rw[j] at g;refine bR (cv:=r) e ?_ (RV.lit r);simp[execOp,k,g.lit_inv,cO i]
theorem aNQ[aG](g:bZ (aL T) c)(b:TR (aL T) c tm a.tmps){s d:TypeId}(k:o.op=.convert s d e)(h:aT T x e=true)(j:aH tm x=.lit v)(i:aR P (convert s d v)=some r): dO P (aL T) c fl o a (.lit r) c.H:=by
 have f:=bA g b h;rw[j] at f;refine bR (cv:=r) g ?_ (RV.lit r);simp[execOp,k,f.lit_inv,cO i]
theorem aII[aG](e:bZ (aL T) c)(b:TR (aL T) c tm a.tmps){f:Operand}(p:o.op=.index t f g)(n:aT T x f=true)(l:aT T i g=true)(k:aH tm x=.lit v)(e2:aH tm i=.lit u)(m:aR P (Instr.index t v u)=some r):
 dO P (aL T) c fl o a (.lit r) c.H:=by
 have j:=bA e b n;rw[k] at j;have h:=bA e b l;rw[e2] at h;refine bR (cv:=r) e ?_ (RV.lit r);simp[execOp,p,j.lit_inv,h.lit_inv,cO m]
theorem TI{e:Array Field}{c:Field}{i:TypeInfo}{ad:Addr}(h:P.underlying t=some (.struct e))(j:e[f]?=some c)(d:c.offset=off)(g:P.info? c.type=some i)(b:i.size≠0)(w:World):
 (Instr.fieldAt t (.pointer (some ad)) f).run P w=.ok (.pointer (some (ad.add off))) w:=by
 simp[Instr.fieldAt,Zo h,j,Instr.sureAddr,fieldPlace,sizeOf,typeInfo,g,b,d]
theorem Jk[aG](w:bZ (aL T) c)(C:TR (aL T) c tm a.tmps){E:Array Field}{z:Field}{i:TypeInfo}{v:AV}(G:o.op=.fieldAddr t y f)(h:aT T x y=true)(D:P.underlying t=some (.struct E))(I:E[f]?=some z)(m:z.offset=off)(F:P.info? z.type=some i)(p:i.size≠0)(l:(∃id tot g k,aH tm x=.ptr id tot g k/\v=.ptr id tot g (k+off))\/(∃cs,(aH tm x=.rptr cs\/aH tm x=.sptr cs)/\v=.rptr (cs.drop off))):
 dO P (aL T) c fl o a v c.H:=by
 have d:=bA w C h;rcases l with⟨id,tot,g,k,l,rfl⟩ | ⟨cs,l,rfl⟩
 .rw[l] at d;obtain⟨ad,s,n,r,u,A,B⟩:=d.ptr_inv;refine bR (cv:=.pointer (some (ad.add off))) w (by simp[execOp,G,r,TI D I m F p]) ?_;refine .ptr id tot g (k+off) _ s n u A λe=>?_;obtain⟨b,M,rfl⟩:=B e;exact⟨b,M,by rw[fH];simp[Yt]⟩
 .replace d:RV (aL T) c (.rptr cs) (a.eval y):=by
   rcases l with l | l<;>rw[l] at d
   .exact d
   .exact d.sptr_inv
  obtain⟨b,k,cc,K,L,q,r,u,A,B,J⟩:=d.rptr_inv;refine bR (cv:=.pointer (some ⟨b,k+off,none⟩)) w (by simp[execOp,G,r,TI D I m F p,fH]) ?_;refine .rptr _ b (k+off) cc K L (λj=>q (off+j)) u A ?_ ?_
  .intro j x d;rw[Zw] at d;have:=B _ x d;rwa [<-Yt] at this
  .intro j x d;rw[Zw] at d;exact J _ x d
theorem aHm[aG]{cv:Array Value}{v:AV}(y:RV FT c (.agg cs) (.agg cv))(h:De P t agg=true)(u:dM P t n=true)(o:off+n<=cs.length)(d:if agg then v=.agg ((cs.drop off).take n) else (cs.drop off).take n=[v])(z:agg=true\/n=1):
 ∃r,(part t cv off).run P c.w=.ok r c.w/\RV FT c v r:=by
 obtain⟨p,b,e,A,k,g⟩:=y.agg_inv;cases e;obtain⟨i,s,f⟩:=eJ u;cases agg with
 | true=>
  simp only[Zy] at d;subst d;refine⟨.agg (cv.extract off (off+n)),?_,?_⟩
  .simp[part,Sn h,sizeOf,typeInfo,s,f]
  .refine .agg _ _ (λj=>b (off+j)) (by simp;omega) ?_ ?_
   .intro j x a;rw[Zs] at a;split at a
    .rename_i B;rw[Zw] at a;obtain⟨q,l⟩:=k _ x a;refine⟨?_,l⟩;rw[Array.getElem?_extract];rw[Zu (by omega)];exact q
    .cases a
   .intro j x a;rw[Zs] at a;split at a
    .rw[Zw] at a;exact g _ x a
    .cases a
 | false=>
  simp only[Zm,Z4] at d;have m:n=1:=by simpa using z
  subst m;have a:cs[off]?=some v:=by
   have:((cs.drop off).take 1)[0]?=some v:=by rw[d];rfl
   rw[Zs,Zu (by omega),Zw] at this;simpa using this
  refine⟨b off,?_,g off v a⟩;simp[part,Sn h,(k off v a).1]
theorem aDz[aG](l:bZ (aL T) c)(k:TR (aL T) c tm a.tmps){p:Array Field}{d:Field}{v:AV}(D:o.op=.field t y f)(h:aT T x y=true)(q:P.underlying t=some (.struct p))(w:p[f]?=some d)(j:d.offset=off)(s:De P d.type agg=true)(B:dM P d.type n=true)(z:agg=true\/n=1)(C:aH tm x=.agg cs)(g:off+n<=cs.length)(E:if agg then v=.agg ((cs.drop off).take n) else (cs.drop off).take n=[v]):
 dO P (aL T) c fl o a v c.H:=by
 have b:=bA l k h;rw[C] at b;obtain⟨cv,m,e,_⟩:=b.agg_inv;rw[e] at b;obtain⟨r,u,A⟩:=aHm (P:=P) b s B g E z;refine bR (cv:=r) l ?_ A;simp[execOp,D,e,Instr.field,Zo q,w,asAgg,j,u]
theorem rU[aG]{x:AV}(a:RV FT c x v)(h:gV x=some n): ∃k,v=.int k n:=by
 unfold gV at h;split at h
 .rename_i k m;split at h
  .rename_i b;cases h;exact⟨k,by rw[a.lit_inv,Wb b]⟩
  .cases h
 .cases h
theorem BS[aG](D:bZ (aL T) c)(F:TR (aL T) c tm a.tmps){j:Operand}{e:TypeId}{s:Nat}{v:AV}(M:o.op=.indexAddr t y j)(h1:aT T x y=true)(h2:aT T i j=true)(O:P.underlying t=some (.slice e))(R:dM P e s=true)(hn:gV (aH tm i)=some n)(C:(∃f es cs,aH tm x=.sl f es/\es[n]?=some cs/\cs.length=s/\v=.rptr cs)\/(∃es cs,aH tm x=.vw es/\es[n]?=some cs/\cs.length=s/\v=.rptr cs) \/
  (∃id tot off len es,aH tm x=.ms id tot off len/\c.H[id]?=some (.blk s es)/\es.length=tot/\n<len/\v=.ptr id tot (off+n) 0)):
 dO P (aL T) c fl o a v c.H:=by
 have g:=bA D F h1;obtain⟨k,S⟩:=rU (bA D F h2) hn;obtain⟨ei,A,r⟩:=eJ R;rcases C with⟨f,es,cs,C,d,m,rfl⟩ | ⟨es,cs,C,d,m,rfl⟩ | ⟨id,tot,off,len,es,C,G,B,X,rfl⟩<;>rw[C] at g;rotate_left
 .obtain⟨ad,cap,L,_,V⟩:=g.vw_inv;rcases V with rfl | ⟨b,off,cc,K,W,s',l,rfl,I,J,E,Q,N⟩
  .simp at d
  .have z:s'=s:=by rw[<-m,E cs (Zf d)]
   subst z;have u:n<es.length:=(Ze.1 d).1;refine bR (cv:=.pointer (some ⟨b,off+n*s',none⟩)) D ?_ ?_
   .simp[execOp,M,L,S,Instr.indexAt,asIntOf,Zo O,sizeOf,typeInfo,A,r,u,fH]
   .refine .rptr cs b (off+n*s') cc K W (λj=>l n j) I J ?_ ?_
    .intro j x g;have:=Q n j x (by simp[bM,d,g]);rwa [<-Yt] at this
    .intro j x g;exact N n j x (by simp[bM,d,g])
 rotate_right
 .have Y:=g.sl_inv;generalize L:a.eval y=w at Y;cases Y with
  | nil=>simp at d
  | sl _ _ b off cap cc K W s' l U I J E g5 g6 Q N=>
   have z:s'=s:=by rw[<-m,E cs (Zf d)]
   subst z;have u:n<es.length:=(Ze.1 d).1;refine bR (cv:=.pointer (some ⟨b,off+n*s',none⟩)) D ?_ ?_
   .simp[execOp,M,L,S,Instr.indexAt,asIntOf,Zo O,sizeOf,typeInfo,A,r,u,fH]
   .refine .rptr cs b (off+n*s') cc K W (λj=>l n j) I.vis J ?_ ?_
    .intro j x g;have:=Q n j x (by simp[bM,d,g]);rwa [<-Yt] at this
    .intro j x g;exact N n j x (by simp[bM,d,g])
 .obtain⟨ad,cap,s',n',hv,U,I,J,E⟩:=g.ms_inv;rw[eT G] at U;cases U;obtain⟨m1,m2⟩:=E B.symm;rcases m2 with⟨_,_,_,Z⟩ | ⟨b,cc,K,a',Z,m4,m5,m6,m7⟩
  .omega
  .have ha:=m7 (by omega);subst ha;subst m6;refine bR (cv:=.pointer (some ⟨b,off*s+n*s,none⟩)) D ?_ ?_
   .simp[execOp,M,hv,S,Instr.indexAt,asIntOf,Zo O,sizeOf,typeInfo,A,r,X,fH]
   .refine .ptr id tot (off+n) 0 _ s _ (eT G) (by omega) λ_=>⟨b,Z,by simp[ZA]⟩
end
end
section
variable {P:Program}{T:List cS}{a:Act}{c:dE}{e:TypeId}{fl:Nat}{i:bC}{id:Nat}{j:Operand}{m n:Nat}{o:Oper}{pos:Nat}{r:Value}{s:ByteArray}{t:TypeId}{tm:List AV}{v:AV}{x:bC}{y:Operand}
section
theorem aAg[aG](hs:bZ (aL T) c)(htr:TR (aL T) c tm a.tmps){s:Nat}(ho:o.op=.indexAddr t y j)(h1:aT T x y=true)(h2:aT T i j=true)(hu:P.underlying t=some (.array m e))(hsz:dM P e s=true)(hn:gV (aH tm i)=some n)(hlt:n<m)(hk:(∃id tot idx k,aH tm x=.ptr id tot idx k/\v=.ptr id tot idx (k+n*s))\/(∃cs,aH tm x=.rptr cs/\v=.rptr (cs.drop (n*s)))):
 dO P (aL T) c fl o a v c.H:=by
 have hx:=bA hs htr h1
 obtain⟨k,hj⟩:=rU (bA hs htr h2) hn
 obtain⟨ei,hei,hes⟩:=eJ hsz
 have run:∀ad:Addr,a.eval y=.pointer (some ad)->(execOp a.eval o).run P c.w=.ok (.value (.pointer (some (ad.add (n*s))))) c.w:=by
  intro ad hv
  simp[execOp,ho,hv,hj,Instr.indexAt,Instr.sureAddr,asIntOf,Zo hu,sizeOf,typeInfo,hei,hes,hlt]
 rcases hk with⟨id,tot,idx,k',hk,rfl⟩ | ⟨cs,hk,rfl⟩<;>rw[hk] at hx
 .obtain⟨ad,s',n',hv,g1,g2,g3⟩:=hx.ptr_inv
  refine bR hs (run ad hv) ?_
  refine .ptr id tot idx (k'+n*s) _ s' n' g1 g2 λe=>?_
  obtain⟨b,hb,rfl⟩:=g3 e
  exact⟨b,hb,by rw[fH];simp[Yt]⟩
 .obtain⟨b,k',cc,Ty,fz,vals,hv,g1,g2,g3,g4⟩:=hx.rptr_inv
  refine bR hs (run _ hv) ?_
  rw[fH]
  refine .rptr _ b (k'+n*s) cc Ty fz (λj=>vals (n*s+j)) g1 g2 ?_ ?_
  .intro j x hx
   rw[Zw] at hx
   have:=g3 _ x hx
   rwa [<-Yt] at this
  .intro j x hx
   rw[Zw] at hx
   exact g4 _ x hx
theorem aDy[aG](hs:bZ (aL T) c)(htr:TR (aL T) c tm a.tmps){s:Nat}{agg:Bool}{cs:List AV}(ho:o.op=.index t y j)(h1:aT T x y=true)(h2:aT T i j=true)(hu:P.underlying t=some (.array m e))(hsz:dM P e s=true)(hag:De P e agg=true)(h3:agg=true\/s=1)(hn:gV (aH tm i)=some n)(hlt:n<m)(hx:aH tm x=.agg cs)(hle:n*s+s<=cs.length)(hv:if agg then v=.agg ((cs.drop (n*s)).take s) else (cs.drop (n*s)).take s=[v]): dO P (aL T) c fl o a v c.H:=by
 have hr:=bA hs htr h1
 rw[hx] at hr
 obtain⟨k,hj⟩:=rU (bA hs htr h2) hn
 obtain⟨ei,hei,hes⟩:=eJ hsz
 obtain⟨cv,vals,e',_⟩:=hr.agg_inv
 rw[e'] at hr
 obtain⟨r,k1,k2⟩:=aHm (P:=P) hr hag hsz hle hv h3
 refine bR (cv:=r) hs ?_ k2
 simp[execOp,ho,e',hj,Instr.index,asIntOf,Zo hu,sizeOf,typeInfo,hei,hes,hlt,k1]
theorem aFF[aG](hs:bZ (aL T) c)(htr:TR (aL T) c tm a.tmps){i:Nat}{vs:List AV}(ho:o.op=.extract y i)(h:aT T x y=true)(hx:aH tm x=.tup vs)(hv:vs[i]?=some v): dO P (aL T) c fl o a v c.H:=by
 have hr:=bA hs htr h
 rw[hx] at hr
 obtain⟨cv,vals,e,g1,g2,g3⟩:=hr.tup_inv
 refine bR (cv:=vals i) hs ?_ (g3 i v hv)
 simp[execOp,ho,e,Instr.extract,g2 i v hv]
theorem j5[aG](hs:bZ (aL T) c)(htr:TR (aL T) c tm a.tmps): ∀{xs:List bC} {ys:List Operand},eP T xs ys=true->
 xs.length=ys.length/\∀(i:Nat) (x:AV),(xs.map (aH tm))[i]?=some x->∃v,(ys.map a.eval)[i]?=some v/\RV (aL T) c x v
 | [],[],_=>⟨rfl,λi x hx=>by simp at hx⟩
 | x::r,y::s,h=>by
  simp only[eP,Zd] at h
  obtain⟨h1,h2⟩:=j5 hs htr h.2
  refine⟨by simp[h1],λi z hz=>?_⟩
  cases i with
  | zero=>
   simp only[ZH,Zt,Zb] at hz
   subst hz
   exact⟨a.eval y,by simp,bA hs htr h.1⟩
  | succ i=>
   simp only[ZH,ZN] at hz |-
   exact h2 i z hz
 | [],_::_,h=>by cases h
 | _::_,[],h=>by cases h
theorem aNM[aG](hs:bZ (aL T) c)(htr:TR (aL T) c tm a.tmps){vi f:Nat}{caps:List bC}{cs:Array Operand}(ho:o.op=.makeFunc (.func f) #[] cs)(hf:aL T vi=some f)(h:eP T caps cs.toList=true): dO P (aL T) c fl o a (.fn vi (caps.map (aH tm))) c.H:=by
 obtain⟨h1,h2⟩:=j5 hs htr h
 refine bR (cv:=.func (.func f) #[] (cs.map a.eval)) hs (by simp[execOp,ho,Instr.makeFunc]) ?_
 refine .fn vi f _ _ (λi=>((cs.toList.map a.eval)[i]?).getD bP) hf (by simpa using h1.symm) ?_ ?_
 .intro i x hx
  obtain⟨v,g1,g2⟩:=h2 i x hx
  simp only[g1,Yo]
  simpa using g1
 .intro i x hx
  obtain⟨v,g1,g2⟩:=h2 i x hx
  simpa only[g1,Yo] using g2
theorem aKR[aG](hs:bZ (aL T) c)(hfl:fl<=c.H.length)(ho:o.op=.makeMap t none): dO P (aL T) c fl o a (.mp c.H.length) (c.H++[.mp []]):=by
 refine eM (cv:=.map (some c.w.heap.size)) (w':=c.w.alloc (.map #[] 0)) (β':=upd c.β c.H.length c.w.heap.size) ?_
  (Ng (ob:=.map #[] 0) hfl rfl rfl rfl rfl (λid b hb=>hs.lt hb)) (d9 (ob:=.map #[] 0) hs rfl rfl rfl rfl ?_ ?_ ?_ (λ_ h=>by cases h)) ?_
 .simp[execOp,ho,Instr.makeMap]
 .intro s es he;cases he
 .intro s es he;cases he
 .intro ents he;cases he;exact⟨rfl,0,rfl⟩
 .exact .mp _ _ ⟨.mp [],by simp,trivial⟩ (eB _ _ _)
theorem aDx[aG](hs:bZ (aL T) c)(htr:TR (aL T) c tm a.tmps)(hfl:fl<=c.H.length)(ho:o.op=.range t y)(h:aT T x y=true)(hu:P.underlying t=some .string)(hx:aH tm x=.lit (.string s)):
 dO P (aL T) c fl o a (.it c.H.length) (c.H++[.raw (.stringIter s 0)]):=by
 have hr:=bA hs htr h
 rw[hx] at hr
 have hv:=hr.lit_inv
 refine eM (cv:=.pointer (some ⟨c.w.heap.size,0,none⟩)) (w':=c.w.alloc (.stringIter s 0)) (β':=upd c.β c.H.length c.w.heap.size) ?_
  (Ng (ob:=.stringIter s 0) hfl rfl rfl rfl rfl (λid b hb=>hs.lt hb)) (d9 (ob:=.stringIter s 0) hs rfl rfl rfl rfl ?_ ?_ ?_ ?_) ?_
 .simp[execOp,ho,Instr.range,Zo hu,hv]
 .intro s es he;cases he
 .intro s es he;cases he
 .intro ents he;cases he
 .intro q he;cases he;rfl
 .exact .it _ _ ⟨.raw (.stringIter s 0),by simp,trivial⟩ (eB _ _ _)
theorem aFB[aG](hs:bZ (aL T) c)(htr:TR (aL T) c tm a.tmps)(ho:o.op=.next y true)(h:aT T x y=true)(hx:aH tm x=.it id)(hfl:fl<=id)(hob:c.H[id]?=some (.raw (.stringIter s pos)))(hp:pos<s.size):
 dO P (aL T) c fl o a (.tup [.lit (.bool true),.lit (.int .i64 pos),.lit (.int .i32 (Utf8.decode s pos).1)]) (c.H.set id (.raw (.stringIter s (pos+(Utf8.decode s pos).2)))):=by
 have hr:=bA hs htr h
 rw[hx] at hr
 obtain⟨b,hv,_,hb⟩:=hr.it_inv
 have g1:=hs.raw id _ b hob hb
 have hget:(getObj b).run P c.w=.ok (.stringIter s pos) c.w:=by simp[getObj,Sem.run,g1]
 have hset:∀ob,(setObj b ob).run P c.w=.ok () { c.w with heap:=c.w.heap.setIfInBounds b ob }:=by
  intro ob;simp[setObj,Sem.run,g1]
 refine eM (cv:=.tuple #[.bool true,.int .i64 pos,.int .i32 (Utf8.decode s pos).1]) (β':=c.β) (w':={ c.w with heap:=c.w.heap.setIfInBounds b (.stringIter s (pos+(Utf8.decode s pos).2)) }) ?_
  (SI (q':=.stringIter s (pos+(Utf8.decode s pos).2)) hs hfl hob hb rfl rfl rfl rfl) (aFp hs hob hb rfl rfl rfl rfl) ?_
 .simp[execOp,ho,hv,Instr.next,hget,hset,hp,goInt]
 .refine .tup _ _ (λi=>if i=0 then .bool true else if i=1 then .int .i64 pos else .int .i32 (Utf8.decode s pos).1) rfl ?_ ?_
  .intro i x hx
   match i with
   | 0=>rfl
   | 1=>rfl
   | 2=>rfl
   | n+3=>simp at hx
  .intro i x hx
   match i with
   | 0=>simp at hx;subst hx;exact RV.lit _
   | 1=>simp at hx;subst hx;exact RV.lit _
   | 2=>simp at hx;subst hx;exact RV.lit _
   | n+3=>simp at hx
theorem aFA[aG](hs:bZ (aL T) c)(htr:TR (aL T) c tm a.tmps)(ho:o.op=.next y true)(h:aT T x y=true)(hx:aH tm x=.it id)(hob:c.H[id]?=some (.raw (.stringIter s pos)))(hp:¬pos<s.size):
 dO P (aL T) c fl o a (.tup [.lit (.bool false)]) c.H:=by
 have hr:=bA hs htr h
 rw[hx] at hr
 obtain⟨b,hv,_,hb⟩:=hr.it_inv
 have g1:=hs.raw id _ b hob hb
 have hget:(getObj b).run P c.w=.ok (.stringIter s pos) c.w:=by simp[getObj,Sem.run,g1]
 refine bR (cv:=.tuple #[.bool false]) hs ?_ ?_
 .simp[execOp,ho,hv,Instr.next,hget,hp]
 .refine .tup _ _ (λ_=>.bool false) rfl ?_ ?_
  .intro i x hx
   match i with
   | 0=>rfl
   | n+1=>simp at hx
  .intro i x hx
   match i with
   | 0=>simp at hx;subst hx;exact RV.lit _
   | n+1=>simp at hx
theorem j6[aG](hs:bZ (aL T) c)(htr:TR (aL T) c tm a.tmps)(ho:o.op=.call ⟨.builtin .len,#[y],#[t]⟩)(h:aT T x y=true)(hu:P.underlying t=some (.slice e))(hk:(aH tm x=.lit (.slice none 0 0)/\n=0)\/(∃f es,aH tm x=.sl f es/\n=es.length)\/(∃id tot off,aH tm x=.ms id tot off n)\/∃es,aH tm x=.vw es/\n=es.length):
 dO P (aL T) c fl o a (.lit (.int .i64 n)) c.H:=by
 have hx:=bA hs htr h
 have hv:∃ad cap,a.eval y=.slice ad n cap:=by
  rcases hk with⟨hk,rfl⟩ | ⟨f,es,hk,rfl⟩ | ⟨id,tot,off,hk⟩ | ⟨es,hk,rfl⟩<;>rw[hk] at hx
  .exact⟨none,0,hx.lit_inv⟩
  .have hp:=hx.sl_inv
   generalize a.eval y=w at hp
   cases hp with
   | nil _ ad cap=>exact⟨ad,cap,rfl⟩
   | sl _ _ b off cap=>exact⟨_,cap,rfl⟩
  .obtain⟨ad,cap,s,n',hv,_⟩:=hx.ms_inv
   exact⟨ad,cap,hv⟩
  .obtain⟨ad,cap,hv,_⟩:=hx.vw_inv
   exact⟨ad,cap,hv⟩
 obtain⟨ad,cap,hv⟩:=hv
 refine bR (cv:=.int .i64 n) hs ?_ (RV.lit _)
 simp[execOp,ho,resolve,invoke,builtin,Builtin.len_,Zo hu,hv,goInt]
theorem aHt[aG](hs:bZ (aL T) c)(htr:TR (aL T) c tm a.tmps)(ho:o.op=.call ⟨.builtin .cap,#[y],#[t]⟩)(h:aT T x y=true)(hu:P.underlying t=some (.slice e))(hk:(aH tm x=.lit (.slice none 0 0)/\n=0)\/(∃es,aH tm x=.sl true es/\n=es.length)):
 dO P (aL T) c fl o a (.lit (.int .i64 n)) c.H:=by
 have hx:=bA hs htr h
 have hv:∃ad len,a.eval y=.slice ad len n:=by
  rcases hk with⟨hk,rfl⟩ | ⟨es,hk,rfl⟩<;>rw[hk] at hx
  .exact⟨none,0,hx.lit_inv⟩
  .have hp:=hx.sl_inv
   generalize a.eval y=w at hp
   cases hp with
   | nil _ ad cap hf=>exact⟨ad,0,by rw[hf rfl];rfl⟩
   | sl _ _ b off cap cc Ty fz s vals g1 g2 g3 g4 g5 g6 g7 g8=>exact⟨_,_,by rw[g6 rfl]⟩
 obtain⟨ad,len,hv⟩:=hv
 refine bR (cv:=.int .i64 n) hs ?_ (RV.lit _)
 simp[execOp,ho,resolve,invoke,builtin,Builtin.cap_,Zo hu,hv,goInt]
theorem aBw[aG](hs:bZ (aL T) c)(htr:TR (aL T) c tm a.tmps){k:TypeId}(ho:o.op=.call ⟨.builtin .len,#[y],#[t]⟩)(h:aT T x y=true)(hu:P.underlying t=some (.map k e))(hk:(aH tm x=.lit (.map none)/\n=0)\/(∃id ents,aH tm x=.mp id/\c.H[id]?=some (.mp ents)/\n=ents.length)\/∃ents,aH tm x=.rmp ents/\n=ents.length):
 dO P (aL T) c fl o a (.lit (.int .i64 n)) c.H:=by
 have hx:=bA hs htr h
 refine bR (cv:=.int .i64 n) hs ?_ (RV.lit _)
 rcases hk with⟨hk,rfl⟩ | ⟨id,ents,hk,hob,rfl⟩ | ⟨ents,hk,rfl⟩<;>rw[hk] at hx
 .simp[execOp,ho,resolve,invoke,builtin,Builtin.len_,Zo hu,hx.lit_inv,goInt]
 .obtain⟨b,hv,_,hb⟩:=hx.mp_inv
  obtain⟨es,clk,g1,g2,_⟩:=hs.map id ents b hob hb
  simp[execOp,ho,resolve,invoke,builtin,Builtin.len_,Zo hu,hv,goInt,getObj,Sem.run,g1,g2.1]
 .obtain⟨b,es,clk,vals,hv,g1,g2,_⟩:=hx.rmp_inv
  simp[execOp,ho,resolve,invoke,builtin,Builtin.len_,Zo hu,hv,goInt,getObj,Sem.run,g1,g2]
theorem aIJ[aG](hs:bZ (aL T) c)(htr:TR (aL T) c tm a.tmps){v:Value}(ho:o.op=.call ⟨.builtin .len,#[y],#[t]⟩)(h:aT T x y=true)(hx:aH tm x=.lit v)(hr:aR P (Builtin.len_ #[t] 0 #[v])=some r): dO P (aL T) c fl o a (.lit r) c.H:=by
 have hrv:=bA hs htr h
 rw[hx] at hrv
 refine bR (cv:=r) hs ?_ (RV.lit _)
 have h0:=cO (w:=c.w) hr
 have e:Builtin.len_ #[t] o.type #[v]=Builtin.len_ #[t] 0 #[v]:=rfl
 simp[execOp,ho,resolve,invoke,builtin,hrv.lit_inv,e,h0]
theorem aNN[aG](hs:bZ (aL T) c)(ho:o.op=.call ⟨.builtin .len,#[y],#[t]⟩)(hu:P.underlying t=some (.array n e)): dO P (aL T) c fl o a (.lit (.int .i64 n)) c.H:=by
 refine bR (cv:=.int .i64 n) hs ?_ (RV.lit _)
 simp[execOp,ho,resolve,invoke,builtin,Builtin.len_,Zo hu,goInt]
theorem aAd[aG](hs:bZ (aL T) c)(htr:TR (aL T) c tm a.tmps){xs:List bC}{ys:Array Operand}{ts:Array TypeId}{vs:List Value}{b:Builtin}(ho:o.op=.call ⟨.builtin b,ys,ts⟩)(hb:b=.max\/b=.min)(h:eP T xs ys.toList=true)(hv:Fc (xs.map (aH tm))=some vs)(hr:aR P (if b=.max then Builtin.max_ #[] 0 vs.toArray else Builtin.min_ #[] 0 vs.toArray)=some r): dO P (aL T) c fl o a (.lit r) c.H:=by
 obtain⟨h1,h2⟩:=j5 hs htr h
 have e:=aBA hv
 have hvs:ys.map a.eval=vs.toArray:=by
  apply Xr
  intro i
  have hl:vs.length=xs.length:=by have:=congrArg List.length e;simpa using this.symm
  by_cases hi:i<vs.length
  .have hx:(xs.map (aH tm))[i]?=some (.lit vs[i]):=by rw[e];simp[hi]
   obtain⟨v,g1,g2⟩:=h2 i _ hx
   have:=g2.lit_inv
   subst this
   have:(ys.map a.eval)[i]?=some vs[i]:=by simpa using g1
   rw[this];simp[hi]
  .have hy:ys.size=vs.length:=by simpa [hl] using h1.symm
   rw[Yd (by simp;omega),Yd (by simp;omega)]
 refine bR (cv:=r) hs ?_ (RV.lit _)
 have h0:=cO (w:=c.w) hr
 rcases hb with rfl | rfl
 .simp only[Zy] at h0
  have e2:∀(as:Array Value) (ty:TypeId),Builtin.max_ ts ty as=Builtin.max_ #[] 0 as:=λ_ _=>rfl
  simp[execOp,ho,resolve,invoke,builtin,hvs,e2,h0]
 .rw[ZG (by simp)] at h0
  have e2:∀(as:Array Value) (ty:TypeId),Builtin.min_ ts ty as=Builtin.min_ #[] 0 as:=λ_ _=>rfl
  simp[execOp,ho,resolve,invoke,builtin,hvs,e2,h0]
end
end
section
variable {FT:Nat->Option Nat}{P:Program}{T:List cS}{a:Act}{c:dE}{cs:List AV}{cv:Array Value}{fl i n:Nat}{o:Oper}{s:Nat}{tm:List AV}{z:List Value}
section
def Ki(FT:Nat->Option Nat)(c:dE)(cs:List AV)(cv:Array Value): Prop:=
 cv.size=cs.length/\∀(j:Nat) (x:AV),cs[j]?=some x->∃v,cv[j]?=some v/\bE v=true/\RV FT c x v
theorem aAu(off:Nat)(v a:Array Value): (v.zipIdx.foldl (λcs (x:Value×Nat)=>cs.setIfInBounds (off+x.2) x.1) a).size=a.size /\
 ∀k,(v.zipIdx.foldl (λcs (x:Value×Nat)=>cs.setIfInBounds (off+x.2) x.1) a)[k]?=if off<=k/\k<off+v.size/\k<a.size then v[k-off]? else a[k]?:=by
 have e:v.zipIdx.foldl (λcs (x:Value×Nat)=>cs.setIfInBounds (off+x.2) x.1) a=(v.toList.zipIdx 0).foldl (λcs (x:Value×Nat)=>cs.setIfInBounds (off+x.2) x.1) a:=by
  rw[<-Array.foldl_toList];simp
 rw[e];have h:=Great.foldl_set off v.toList 0 a;simpa using h
theorem aAv{b:Nat->Option (Nat×Nat)}{a:Array Value}{off size:Nat}{v:Value}{rest:List (Nat×Value)}(d:b i=some (off,size))(e:v.cells.size=size)(f:off+size<=a.size):
 Instr.fill b a ((i,v)::rest)=Instr.fill b (v.cells.zipIdx.foldl (λcs (x:Value×Nat)=>cs.setIfInBounds (off+x.2) x.1) a) rest:=by
 rw[Instr.fill];simp only[d,e];rw[ZG (by simp;omega)]
theorem aBU[aG](A:bZ (aL T) c)(n:TR (aL T) c tm a.tmps){d:Nat->Option (Nat×Nat)}: ∀(p:List (Nat×Nat×bC)) (q:List (Nat×Operand)) (b cs:List AV) (cv:Array Value),
 Qn T d p q=true->Ki (aL T) c b cv->TG b (p.map λ(o,s,x)=>(o,s,aH tm x))=some cs->
 ∃r,Instr.fill d cv (q.map λ(i,x)=>(i,a.eval x))=some r/\Ki (aL T) c cs r
 | [],[],b,cs,cv,_,g,f=>by
  simp only[Yn,TG,Zb] at f;subst f;exact⟨cv,rfl,g⟩
 | (off,s,x)::p,(i,y)::q,b,cs,cv,l,g,f=>by
  simp only[Qn,Zd] at l;obtain⟨⟨B,I⟩,h⟩:=l;have w:d i=some (off,s):=by simpa using B
  simp only[ZH,TG] at f;split at f
  .cases f
  .rename_i ys J;split at f
   .rename_i e;obtain⟨H,K⟩:=Kc (bA A n I) J;have t:(a.eval y).cells.size=s:=H.trans e.1;obtain⟨L,G⟩:=aAu off (a.eval y).cells cv;have m:Ki (aL T) c (aU b off ys) ((a.eval y).cells.zipIdx.foldl (λcs (x:Value×Nat)=>cs.setIfInBounds (off+x.2) x.1) cv):=by
     refine⟨by rw[L,cM (by omega)];exact g.1,λj z k=>?_⟩;rw[G j];rw[Im (by omega)] at k;have E:=g.1;split at k
     .rename_i D;rw[ZG (by omega)];exact g.2 j z k
     .rename_i D;split at k
      .rename_i v;rw[Zu (by omega)];exact K _ z k
      .rename_i v;rw[ZG (by omega)];exact g.2 j z k
    obtain⟨r,C,F⟩:=aBU A n p q _ cs _ h m f;refine⟨r,?_,F⟩;simp only[ZH];rw[aAv w t (by rw[g.1];exact e.2)];exact C
   .cases f
 | [],_::_,_,_,_,l,_,_=>by cases l
 | (_,_,_)::_,[],_,_,_,l,_,_=>by cases l
theorem Oq[aG](a:∀u∈z,bE u=true): Ki FT c (z.map .lit) z.toArray:=by
 refine⟨by simp,λj x b=>?_⟩;simp only[Zl,Zq] at b;obtain⟨u,d,rfl⟩:=b;exact⟨u,by simpa using d,a u (Zf d),RV.lit u⟩
theorem aGs(h:Ki FT c cs cv): RV FT c (.agg cs) (.agg cv):=by
 refine .agg cs cv (λi=>(cv[i]?).getD bP) h.1 ?_ ?_
 .intro i x a;obtain⟨v,b,d,_⟩:=h.2 i x a;simp[b,d]
 .intro i x a;obtain⟨v,b,_,e⟩:=h.2 i x a;simpa [b] using e
theorem aD9{b:List Field}(h:K3 P b=true): ∃a,b.mapM (λf=>(P.info? f.type).map λi=>(f.offset,i.size))=some a /\
 ∀i,a[i]?=Si P b.toArray i:=by
 induction b with
 | nil=>exact⟨[],by simp,λi=>by simp[Si]⟩
 | cons f b j=>
  simp only[K3,XR,Zd] at h;obtain⟨e,g,d⟩:=j h.2;obtain⟨n,c⟩:=XP.1 h.1;refine⟨(f.offset,n.size)::e,by simp[Wu,c,g],λi=>?_⟩;cases i with
  | zero=>simp[Si,c]
  | succ i=>
   have:=d i;simp only[ZN,this];simp[Si]
theorem aLb[aG](y:bZ (aL T) c)(j:TR (aL T) c tm a.tmps){m:List (Nat×Nat×bC)}{f:Array (Nat×Operand)}{t:TypeId}(G:o.op=.build t f)(E:lK P t z=true)(d:cX P T (.build z m) (.build t f)=true)(B:TG (z.map .lit) (m.map λ(o,s,x)=>(o,s,aH tm x))=some cs):
 dO P (aL T) c fl o a (.agg cs) c.H:=by
 obtain⟨i,v,C,D,h,l⟩:=iJ E;simp only[cX,E,Ww] at d;have b:∃r,P.built t (f.map λ(i,x)=>(i,a.eval x)).toList=some r/\Ki (aL T) c cs r:=by
  have u:(f.map λ(i,x)=>(i,a.eval x)).toList=f.toList.map λ(i,x)=>(i,a.eval x):=by simp
  rw[u];split at d
  .rename_i J q;simp only[Zd] at d;obtain⟨K,I,F⟩:=aD9 d.1;have p:(λi=>K.toArray[i]?)=Si P J:=by
    funext i;have:=F i;simpa using this
   obtain⟨r,k,g⟩:=aBU y j m f.toList _ cs _ d.2 (Oq l) B;refine⟨r,?_,g⟩;unfold Program.built;simp only[C,q,D,I,p,h];exact k
  .rename_i n e q;split at d
   .rename_i L A;obtain⟨r,k,g⟩:=aBU y j m f.toList _ cs _ d (Oq l) B;refine⟨r,?_,g⟩;unfold Program.built;simp only[C,q,D,A,h];exact k
   .cases d
  .cases d
 obtain⟨r,k,g⟩:=b;refine bR (cv:=.agg r) y ?_ (aGs g);simp only[execOp,G,YZ,run_build c.w t _ r k,YK,Y7]
def aIn(FT:Nat->Option Nat)(c:dE)(s:Nat)(es:List (List AV))(cv:Array Value): Prop:=
 cv.size=es.length*s/\(∀e∈es,e.length=s)/\∀i j x,bM es i j=some x->∃v,cv[i*s+j]?=some v/\bE v=true/\RV FT c x v
theorem aEf[aG](E:bZ (aL T) c)(o:TR (aL T) c tm a.tmps): ∀(v:List (Nat×bC)) (w:List (Nat×Operand)) (es es':List (List AV)) (cv:Array Value),
 Qu T v w=true->aIn (aL T) c s es cv->Pp s es (v.map λ(i,x)=>(i,aH tm x))=some es'->
 es'.length=es.length/\∃r,Instr.fill (λi=>some (i*s,s)) cv (w.map λ(i,x)=>(i,a.eval x))=some r/\aIn (aL T) c s es' r
 | [],[],es,es',cv,_,f,d=>by
  simp only[Yn,Pp,Zb] at d;subst d;exact⟨rfl,cv,rfl,f⟩
 | (i,x)::v,(X,y)::w,es,es',cv,n,f,d=>by
  simp only[Qu,Zd,ZI] at n;obtain⟨⟨rfl,U⟩,g⟩:=n;simp only[ZH,Pp] at d;split at d
  .cases d
  .rename_i ys V;split at d
   .rename_i b;obtain⟨O,W⟩:=Kc (bA E o U) V;have A:(a.eval y).cells.size=s:=O.trans b.1;have D:(i+1)*s<=es.length*s:=Zr s b.2;rw[ZA] at D;obtain⟨J,N⟩:=aAu (i*s) (a.eval y).cells cv;have q:aIn (aL T) c s (es.set i ys) ((a.eval y).cells.zipIdx.foldl (λcs (x:Value×Nat)=>cs.setIfInBounds (i*s+x.2) x.1) cv):=by
     refine⟨by rw[J];simpa using f.1,?_,?_⟩
     .intro e he;rcases YL he with h | h
      .exact f.2.1 e h
      .rw[h];exact b.1
     .intro k j z I;rw[N];obtain⟨F,l,t⟩:=dC I;by_cases C:k=i
      .subst C;have:F=ys:=by
        rw[Z8] at l;simp only[b.2,Zy] at l;exact (ZE l).symm
       subst this;have H:j<s:=by rw[<-b.1];exact (Ze.1 t).1
       have R:=f.1;rw[Zu (by omega)];obtain⟨u,L,G,S⟩:=W j z t;refine⟨u,?_,G,S⟩;rw[<-L];congr 1;omega
      .rw[getElem?_set_ne' C] at l;have H:j<s:=by rw[<-f.2.1 F (Zf l)];exact (Ze.1 t).1
       have p:¬(i*s<=k*s+j/\k*s+j<i*s+(a.eval y).cells.size/\k*s+j<cv.size):=by
        rcases WZ C with h | h
        .have:(k+1)*s<=i*s:=Zr s h;rw[ZA] at this;omega
        .have:(i+1)*s<=k*s:=Zr s h;rw[ZA] at this;omega
       rw[ZG p];exact f.2.2 k j z (by simp[bM,l,t])
    obtain⟨M,r,Q,K⟩:=aEf E o v w _ es' _ g q d;refine⟨by simpa using M,r,?_,K⟩;simp only[ZH];rw[aAv (off:=i*s) (size:=s) rfl A (by rw[f.1];omega)];exact Q
   .cases d
 | [],_::_,_,_,_,n,_,_=>by cases n
 | (_,_)::_,[],_,_,_,n,_,_=>by cases n
theorem b8[aG]{j:Nat}{e:List AV}{x:AV}(h:bM (List.replicate n e) i j=some x): i<n/\e[j]?=some x:=by
 obtain⟨c,a,b⟩:=dC h;rw[XV] at a;split at a
 .cases a;exact⟨by assumption,b⟩
 .cases a
theorem Ja[aG]{m:Nat}(h:z.length=s)(k:∀u∈z,bE u=true)(q:cv.toList=z)(t:n<=m):
 (∀e∈List.replicate n (z.map AV.lit),e.length=s)/\∀i j x,bM (List.replicate n (z.map AV.lit)) i j=some x->
  ∃v,((Array.range (m*s)).map (cv[· % cv.size]!))[i*s+j]?=some v/\bE v=true/\RV FT c x v:=by
 refine⟨λe he=>by rw[List.mem_replicate] at he;rw[he.2];simpa using h,λi j x r=>?_⟩;obtain⟨w,p⟩:=b8 r;simp only[Zl,Zq] at p;obtain⟨u,f,rfl⟩:=p;have d:j<s:=by rw[<-h];exact (Ze.1 f).1
 have g:cv.size=s:=by rw[<-Zx,q,h]
 have l:i*s+j<m*s:=NN (by omega) d;have b:(i*s+j) % cv.size=j:=by rw[g,YO,Nat.mul_add_mod,Vc d]
 refine⟨u,?_,k u (Zf f),RV.lit u⟩;have o:cv[j]?=some u:=by rw[<-Z6,q];exact f
 simp only[Array.getElem?_map,Array.getElem?_range,l,Zy,Yy,b];rw[getElem!_def,o]
end
end
end Go.Proofs.YtglfoebmkbglgaaGreatDoor.Av
