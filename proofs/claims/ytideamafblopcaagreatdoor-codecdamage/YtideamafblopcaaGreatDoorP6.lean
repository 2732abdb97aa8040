/- A part of the proof of a law. -/
import Derived.Test.YtideamafblopcaaGreatDoorP5
set_option maxRecDepth 100000
set_option maxHeartbeats 4000000
set_option linter.all false
namespace Go.Proofs.YtideamafblopcaaGreatDoor.Av
open Go
section
open iG (den cds ag)
inductive Sh where
 | v (k:Nat)
 | w (k:Nat)
 | r (k:Nat)
 | l (k:Nat)
 | m (kk vk:Nat)
 | n (id:Nat)
 | i
 | q (id off:Nat)
 | f (k:Nat)
section
variable [cX]
def Sh.den: Sh->Type
 | .v k=>iG.den k
 | .w k=>iG.den k
 | .r k=>iG.den k
 | .l k=>List (iG.den k)
 | .m kk vk=>List (iG.den kk×iG.den vk)
 | .n _=>Nat×Nat
 | .i=>ByteArray×Nat
 | .q _ _=>Int
 | .f k=>List (iG.den k)
def Rx: TV->TV
 | .sl k l=>.vw k l
 | v=>v
def toW: TV->TV
 | .agg cs=>.agg (cs.map Rx)
 | v=>Rx v
def Sh.tv: (s:Sh)->s.den->TV
 | .v k,x=>val k x
 | .w k,x=>toW (val k x)
 | .r k,x=>.rptr (iH k x)
 | .l k,x=>.sl k x
 | .m kk vk,x=>.rmp kk vk x
 | .n id,x=>.ms id (some x)
 | .i,x=>.tup [.lit (.string x.1),.lit (.int .i64 (.ofNat x.2))]
 | .q id off,x=>.pel id x off
 | .f k,x=>.slF k x
def Z9: TV->Option (ByteArray×Nat)
 | .tup cs=>match cs with
  | [a,b]=>match a with
   | .lit u=>match u with
    | .string s=>match b with
     | .lit w=>match w with
      | .int k n=>match k with
       | .i64=>match n with
        | Int.ofNat n=>some (s,n)
        | _=>none
       | _=>none
      | _=>none
     | _=>none
    | _=>none
   | _=>none
  | _=>none
 | _=>none
def rdN(id:Nat): TV->Option (Nat×Nat)
 | .ms j c=>match Nat.beq j id with
  | true=>c
  | false=>none
 | _=>none
def rdQ(id off:Nat): TV->Option Int
 | .pel j i o=>match Nat.beq j id with
  | true=>match Nat.beq o off with
   | true=>some i
   | false=>none
  | false=>none
 | _=>none
def Sh.rd(w:Nat)(H:TH)(s:Sh)(v:TV): Option s.den:=match s with
 | .v k=>Zq (match w with | 3=>0 | w=>w) H k v
 | .w k=>Zq (match w with | 3=>1 | w=>w) H k v
 | .r k=>match v with
  | .rptr cs=>jJ 0 H k cs
  | _=>none
 | .l k=>match v with
  | .sl k' xs=>Gx (λk=>List (iG.den k)) xs
  | _=>none
 | .m kk vk=>match v with
  | .rmp a b xs=>Xq xs
  | _=>none
 | .n id=>rdN id v
 | .i=>Z9 v
 | .q id off=>rdQ id off v
 | .f k=>match v with
  | .slF k' xs=>Gx (λk=>List (iG.den k)) xs
  | _=>none
def fJ: List Sh->Type
 | []=>Unit
 | [a]=>a.den
 | a::b::r=>a.den×fJ (b::r)
def fJ.hd{a:Sh}: {r:List Sh}->fJ (a::r)->a.den
 | [],x=>x
 | _::_,x=>x.1
def fJ.tl{a:Sh}: {r:List Sh}->fJ (a::r)->fJ r
 | [],_=>()
 | _::_,x=>x.2
def fJ.cs{a:Sh}: {r:List Sh}->a.den->fJ r->fJ (a::r)
 | [],x,_=>x
 | _::_,x,y=>(x,y)
def Dh: (l:List Sh)->fJ l->List TV
 | [],_=>[]
 | a::r,p=>a.tv (fJ.hd p)::Dh r (fJ.tl p)
def yA(w:Nat)(H:TH): (l:List Sh)->List TV->Option (fJ l)
 | [],vs=>match vs with
  | []=>some ()
  | _=>none
 | a::r,vs=>match vs with
  | []=>none
  | v::vs=>match a.rd w H v with
   | some x=>match yA w H r vs with
    | some p=>some (fJ.cs x p)
    | none=>none
   | none=>none
inductive Pl where
 | con (v:TV)
 | p (s:Sh)
 | v (s:Sh)
def LW(b:Bool): List Pl->List Sh
 | []=>[]
 | .con _::r=>LW b r
 | .p s::r=>match b with
  | false=>s::LW b r
  | true=>LW b r
 | .v s::r=>match b with
  | true=>s::LW b r
  | false=>LW b r
def mkV: (l:List Pl)->fJ (LW false l)->fJ (LW true l)->List TV
 | [],_,_=>[]
 | .con v::r,p,q=>v::mkV r p q
 | .p s::r,p,q=>s.tv (fJ.hd p)::mkV r (fJ.tl p) q
 | .v s::r,p,q=>s.tv (fJ.hd q)::mkV r p (fJ.tl q)
def Ef: TV->TV->Bool
 | .undef,_=>true
 | .ms i n,v=>match n with
  | none=>match v with
   | .ms j m=>match m with
    | none=>Nat.beq i j
    | some _=>false
   | _=>false
  | some _=>false
 | .ptr i o,v=>match v with
  | .ptr j q=>match Nat.beq i j with
   | true=>Nat.beq o q
   | false=>false
  | _=>false
 | .mp i,v=>match v with
  | .mp j=>Nat.beq i j
  | _=>false
 | .it i,v=>match v with
  | .it j=>Nat.beq i j
  | _=>false
 | .rs i n,v=>match v with
  | .rs j m=>match Nat.beq i j with
   | true=>Nat.beq n m
   | false=>false
  | _=>false
 | .fn i cs,v=>match cs with
  | []=>match v with
   | .fn j ds=>match ds with
    | []=>Nat.beq i j
    | _=>false
   | _=>false
  | _=>false
 | .lit u,v=>match u with
  | .int k a=>match v with
   | .lit y=>match y with
    | .int k' b=>match decEq k k' with
     | isTrue _=>match decEq a b with
      | isTrue _=>true
      | isFalse _=>false
     | isFalse _=>false
    | _=>false
   | _=>false
  | .bool b=>match v with
   | .lit y=>match y with
    | .bool c=>match b with
     | true=>c
     | false=>match c with
      | true=>false
      | false=>true
    | _=>false
   | _=>false
  | .slice a l c=>match a with
   | none=>match l with
    | 0=>match c with
     | 0=>match v with
      | .lit y=>match y with
       | .slice a l c=>match a with
        | none=>match l with
         | 0=>match c with
          | 0=>true
          | _=>false
         | _=>false
        | _=>false
       | _=>false
      | _=>false
     | _=>false
    | _=>false
   | _=>false
  | _=>false
 | .emp b,v=>match v with
  | .emp c=>match b with
   | false=>true
   | true=>c
  | _=>false
 | _,_=>false
def c8: List TV->List TV->Bool
 | [],l=>match l with
  | []=>true
  | _=>false
 | c::r,l=>match l with
  | []=>false
  | v::s=>match c with
   | .ms _ _=>false
   | c=>match Ef c v with
    | true=>c8 r s
    | false=>false
def S7: TV->TV->Bool
 | .fn i cs,v=>match v with
  | .fn j ds=>match Nat.beq i j with
   | true=>c8 cs ds
   | false=>false
  | _=>false
 | u,v=>Ef u v
def Wj: (l:List Pl)->List TV->Option (fJ (LW false l)×fJ (LW true l))
 | [],vs=>match vs with
  | []=>some ((),())
  | _=>none
 | .con c::r,vs=>match vs with
  | []=>none
  | v::vs=>match S7 c v with
   | true=>Wj r vs
   | false=>none
 | .p s::r,vs=>match vs with
  | []=>none
  | v::vs=>match s.rd 3 [] v with
   | some x=>match Wj r vs with
    | some p=>some (fJ.cs x p.1,p.2)
    | none=>none
   | none=>none
 | .v s::r,vs=>match vs with
  | []=>none
  | v::vs=>match s.rd 3 [] v with
   | some x=>match Wj r vs with
    | some p=>some (p.1,fJ.cs x p.2)
    | none=>none
   | none=>none
inductive OL where
 | box (n:Nat)
 | bx
 | lst (k:Nat)
 | map (kk vk:Nat)
 | it
 | rows (s m:Nat)
 | gone
structure yI where
 fo:List Nat
 ts:List (Nat×Option Nat)
 os:List OL
 ss:List Pl
abbrev yI.P(L:yI): Type:=fJ (LW false L.ss)
abbrev yI.V(L:yI): Type:=fJ (LW true L.ss)
def plT: List (Nat×Option Nat)->List TV->TT
 | t::ts,vs=>match t.2 with
  | some n=>(t.1,.agg (vs.take n))::plT ts (vs.drop n)
  | none=>match vs with
   | v::vs=>(t.1,v)::plT ts vs
   | []=>[]
 | [],_=>[]
def nO: List OL->Nat
 | []=>0
 | o::r=>match o with
  | .box n=>n+nO r
  | .rows s m=>s*m+nO r
  | .gone=>nO r
  | _=>nO r+1
def aEL: TV->lO
 | .agg cs=>.box cs
 | _=>.gone
def aEK(v:TV): lO:=match Z9 v with
 | some p=>.it p.1 p.2
 | none=>.gone
def oL{α:Type}(s:Nat): Nat->List α->List (List α)
 | 0,_=>[]
 | m+1,l=>l.take s::oL s m (l.drop s)
def ZV(k:Nat): TV->lO
 | .sl k' l=>match Nat.beq k' k with
  | true=>.lst k' l
  | false=>.gone
 | _=>.gone
def P3(kk vk:Nat): TV->lO
 | .rmp a b m=>match Nat.beq a kk with
  | true=>match Nat.beq b vk with
   | true=>.map a b m
   | false=>.gone
  | false=>.gone
 | _=>.gone
def GN: List OL->List TV->TH
 | [],_=>[]
 | o::r,vs=>match o with
  | .box n=>.box (vs.take n)::GN r (vs.drop n)
  | .gone=>.gone::GN r vs
  | .lst k=>match vs with
   | v::vs=>ZV k v::GN r vs
   | []=>[]
  | .map kk vk=>match vs with
   | v::vs=>P3 kk vk v::GN r vs
   | []=>[]
  | .it=>match vs with
   | v::vs=>aEK v::GN r vs
   | []=>[]
  | .bx=>match vs with
   | v::vs=>aEL v::GN r vs
   | []=>[]
  | .rows s m=>.rows s (oL s m (vs.take (s*m)))::GN r (vs.drop (s*m))
def yI.mkM(L:yI)(M:List TV): TS:=⟨plT L.ts (M.drop (nO L.os)),GN L.os (M.take (nO L.os))⟩
def yI.mk'(L:yI)(p:L.P)(q:L.V): TS:=L.mkM (mkV L.ss p q)
def ovO(n:Nat)(φ:Nat->cN): List Nat->TH->TH
 | [],H=>H
 | i::r,H=>(ovO n φ r H).set i (.fr n (φ i))
def yI.mkG(L:yI)(n:Nat)(φ:Nat->cN)(p:L.P)(q:L.V): TS:=⟨(L.mk' p q).tm,ovO n φ L.fo (L.mk' p q).hp⟩
def upT(tm:TT): List (Nat×Option Nat)->Option (List TV)
 | []=>some []
 | t::r=>match eD t.1 tm with
  | some v=>match upT tm r with
   | some vs=>match t.2 with
    | none=>some (v::vs)
    | some n=>match v with
     | .agg cs=>match Nat.beq cs.length n with
      | true=>some (cs++vs)
      | false=>none
     | _=>none
   | none=>none
  | none=>none
def upO: List OL->TH->Option (List TV)
 | [],H=>match H with
  | []=>some []
  | _=>none
 | o::r,H=>match H with
  | []=>none
  | b::H=>match upO r H with
   | none=>none
   | some vs=>match o with
    | .gone=>some vs
    | .box n=>match b with
     | .box cs=>match Nat.beq cs.length n with
      | true=>some (cs++vs)
      | false=>none
     | _=>none
    | .lst k=>match b with
     | .lst k' l=>match Nat.beq k' k with
      | true=>some (.sl k' l::vs)
      | false=>none
     | _=>none
    | .map kk vk=>match b with
     | .map a b m=>match Nat.beq a kk with
      | true=>match Nat.beq b vk with
       | true=>some (.rmp a b m::vs)
       | false=>none
      | false=>none
     | _=>none
    | .bx=>match b with
     | .box cs=>some (.agg cs::vs)
     | _=>none
    | .it=>match b with
     | .it s p=>some (.tup [.lit (.string s),.lit (.int .i64 (.ofNat p))]::vs)
     | _=>none
    | .rows s m=>match b with
     | .rows s' es=>match Nat.beq s' s with
      | true=>match Nat.beq es.length m with
       | true=>match es.all λe=>Nat.beq e.length s with
        | true=>some (es.flatten++vs)
        | false=>none
       | false=>none
      | false=>none
     | _=>none
def Wt(H:TH): List TV->Bool
 | []=>true
 | v::r=>match v with
  | .ms i _=>match H[i]? with
   | some o=>match o with
    | .lst _ _=>Wt H r
    | _=>false
   | none=>false
  | .pel i _ _=>match H[i]? with
   | some o=>match o with
    | .lst _ _=>Wt H r
    | _=>false
   | none=>false
  | _=>Wt H r
def yI.get(L:yI)(S:TS): Option (L.P×L.V):=match upT S.tm L.ts with
 | some a=>match upO L.os S.hp with
  | some b=>match Wj L.ss (b++a) with
   | some p=>match Wt (L.mk' p.1 p.2).hp (mkV L.ss p.1 p.2) with
    | true=>some p
    | false=>none
   | none=>none
  | none=>none
 | none=>none
def aC2(os:List OL): List Nat->Bool
 | []=>true
 | i::r=>match os[i]? with
  | some o=>match o with
   | .gone=>aC2 os r
   | _=>false
  | none=>false
def yI.fit(L:yI)(S:TS): Option (L.P×L.V):=match aC2 L.os L.fo with
 | true=>L.get S
 | false=>none
def aBZ(n:Nat)(H:TH): List Nat->Option (List cN)
 | []=>some []
 | i::r=>match H[i]? with
  | some o=>match o with
   | .fr k a=>match Nat.beq k n with
    | true=>match aBZ n H r with
     | some l=>some (a::l)
     | none=>none
    | false=>none
   | _=>none
  | none=>none
def yI.getF(L:yI)(n:Nat)(S:TS): Option (List cN×L.P×L.V):=match aBZ n S.hp L.fo with
 | some f=>match L.fit S with
  | some p=>some (f,p)
  | none=>none
 | none=>none
structure Dr(P:Type) where
 x:bP
 lay:yI
 pr:P->lay.P
def oM{P:Type}: List (Dr P)->Type
 | []=>Empty
 | [o]=>o.lay.V
 | o::o'::r=>o.lay.V⊕oM (o'::r)
structure Zh where
 ins:yI
 kl:List Nat
 kt:List Nat
 outs:List (Dr ins.P)
 F:Nat->ins.P->ins.V->Option (oM outs)
structure ZN where
 ka:List Sh
 kr:List Nat
 kp:Bool
 F:Nat->fJ ka->Option (fJ (kr.map .v))
structure EqS where
 k:Nat
 dec:∀a b:den k,Decidable (a=b)
structure aDI where
 k:Nat
 dec:∀a b:den k,Decidable (a=b)
structure ISp where
 s:Zh
 vi:Nat
 fl:Nat
 na:Nat
 nr:Nat
abbrev ISp.kl(s:ISp): List Nat:=s.s.kl
inductive PSp where
 | srt (k:Nat)
 | ins (k:Nat)
 | cln (k:Nat)
 | ord (k:Nat) (F:List (iG.den k)->List (iG.den k))
structure XE where
 cs:Nat->Option ZN
 eq:TypeId->Option EqS
 km:TypeId->Option aDI
 st:TypeId->Bool
 cv:TypeId->TypeId->Option IntKind
 pr:Nat->Option PSp
 kd:List (Nat×Nat)
 ls:List (Nat×List Zh)
 un:List (Nat×Nat)
 il:List ISp
 nt:Nat
 fl:Nat
def vY(lx:List Bool): TT->TT
 | []=>[]
 | p::r=>match lx[p.1]? with
  | some b=>match b with
   | true=>p::vY lx r
   | false=>vY lx r
  | none=>vY lx r
def cP(n:Nat): TV->TV
 | .ms i m=>match Nat.blt i n with | true=>.ms i m | false=>.undef
 | .ptr i o=>match Nat.blt i n with | true=>.ptr i o | false=>.undef
 | .pel i j o=>match Nat.blt i n with | true=>.pel i j o | false=>.undef
 | .mp i=>match Nat.blt i n with | true=>.mp i | false=>.undef
 | .it i=>match Nat.blt i n with | true=>.it i | false=>.undef
 | .rs i m=>match Nat.blt i n with | true=>.rs i m | false=>.undef
 | .rel i m j o=>match Nat.blt i n with | true=>.rel i m j o | false=>.undef
 | .fn vi cs=>match cs with | []=>.fn vi [] | _=>.undef
 | .agg _=>.undef
 | .tup _=>.undef
 | v=>v
def iW(n:Nat): TV->TV
 | .fn vi cs=>.fn vi (cs.map (cP n))
 | v=>cP n v
def sZ(n:Nat): TV->TV
 | .agg cs=>.agg (cs.map (iW n))
 | v=>iW n v
def iC(n:Nat): lO->lO
 | .box cs=>.box (cs.map (iW n))
 | .rows s es=>.rows s (es.map λe=>e.map (iW n))
 | .fr k a=>match Nat.ble k n with
  | true=>.fr k a
  | false=>.gone
 | o=>o
def PK(kl:List Nat)(n:Nat)(H0:TH): List Nat->TH->TH
 | [],H=>H
 | i::r,H=>match H0[i]? with
  | some o=>(PK kl n H0 r H).set i (zH kl (iC n o))
  | none=>PK kl n H0 r H
def rsT(kl:List Nat)(n:Nat)(T0:TT): List Nat->TT
 | []=>[]
 | t::r=>match eD t T0 with
  | some v=>(t,Ky kl (sZ n v))::rsT kl n T0 r
  | none=>rsT kl n T0 r
def aft(s:Zh)(T0:TT)(H0:TH)(x:bP)(S:TS): TS:=⟨match x with
 | .ret=>S.tm
 | _=>S.tm++rsT s.kl H0.length T0 s.kt,PK s.kl H0.length H0 s.ins.fo S.hp⟩
def Fn(live:List Bool)(tr:Bool)(n:Nat)(S:TS): TS:=match tr with
 | true=>⟨(vY live S.tm).map λp=>(p.1,sZ n p.2),(S.hp.take n).map (iC n)⟩
 | false=>⟨vY live S.tm,S.hp⟩
variable {R:Type}
def Ed(v:TV)(K:TV->Option R): Option R:=match v with
 | .lit u=>match u with
  | .bool b=>cnd b (K (.lit (.bool true))) (K (.lit (.bool false)))
  | u=>K (.lit u)
 | v=>K v
def Q8: List TV->(List TV->Option R)->Option R
 | [],K=>K []
 | v::vs,K=>Ed v λv=>Q8 vs λvs=>K (v::vs)
def mkK: (l:List Pl)->fJ (LW false l)->fJ (LW true l)->(List TV->Option R)->Option R
 | [],_,_,K=>K []
 | .con v::r,p,q,K=>mkK r p q λvs=>K (v::vs)
 | .p s::r,p,q,K=>mkK r (fJ.tl p) q λvs=>K (s.tv (fJ.hd p)::vs)
 | .v s::r,p,q,K=>Ed (s.tv (fJ.hd q)) λv=>mkK r p (fJ.tl q) λvs=>K (v::vs)
def yI.mkB(L:yI)(p:L.P)(q:L.V)(K:TS->Option R): Option R:=mkK L.ss p q λvs=>K (L.mkM vs)
def swO{P:Type}(p:P)(b:Bool): (l:List (Dr P))->Option (oM l)->(bP->TS->Option R)->Option R
 | [],_,_=>none
 | [o],r,K=>bnd r λt=>match b with
  | true=>o.lay.mkB (o.pr p) t (K o.x)
  | false=>K o.x (o.lay.mk' (o.pr p) t)
 | o::o'::l,r,K=>bnd2 r (λt=>match b with
  | true=>o.lay.mkB (o.pr p) t (K o.x)
  | false=>K o.x (o.lay.mk' (o.pr p) t)) λs=>swO p b (o'::l) (some s) K
def gU(E:XE)(d:Option Nat): Nat:=match d with
 | some d=>match eD d E.kd with
  | some k=>k
  | none=>0
 | none=>0
def aJV(E:XE)(d:Option Nat): Option Nat:=match d with
 | some d=>eD d E.kd
 | none=>none
def Wx: TV->Bool
 | .emp b=>b
 | .lit v=>match v with
  | .slice a l c=>match a with
   | none=>match l with
    | 0=>match c with
     | 0=>true
     | _=>false
    | _=>false
   | _=>false
  | _=>false
 | _=>false
def TX(cells:List TV): List (Nat×Nat×TV)->Option (List TV)
 | []=>some cells
 | (off,size,v)::rest=>match Vp v with
  | none=>none
  | some cs=>match Nat.beq cs.length size with
   | true=>match Nat.ble (off+size) cells.length with
    | true=>TX (aU cells off cs) rest
    | false=>none
   | false=>none
def v8(s:Nat)(es:List (List TV)): List (Nat×TV)->Option (List (List TV))
 | []=>some es
 | (i,v)::rest=>match Vp v with
  | none=>none
  | some cs=>match Nat.beq cs.length s with
   | true=>match Nat.blt i es.length with
    | true=>v8 s (es.set i cs) rest
    | false=>none
   | false=>none
def gO(S:TS)(id:Nat)(o:lO): TS:=⟨S.tm,S.hp.set id o⟩
def Ai(S:TS)(o:lO): TS:=⟨S.tm,S.hp++[o]⟩
def aHK(op:BinOp)(k:IntKind)(a b:Int)(K:TV->Option R): Option R:=match op with
 | .add=>K (.lit (.int k (k.wrap (a+b))))
 | .sub=>K (.lit (.int k (k.wrap (a-b))))
 | .mul=>K (.lit (.int k (k.wrap (a*b))))
 | .eql=>Ed (.lit (.bool (a==b))) K
 | .neq=>Ed (.lit (.bool (a != b))) K
 | .lss=>Ed (.lit (.bool (decide (a<b)))) K
 | .leq=>Ed (.lit (.bool (decide (a<=b)))) K
 | .gtr=>Ed (.lit (.bool (decide (a > b)))) K
 | .geq=>Ed (.lit (.bool (decide (a>=b)))) K
 | _=>none
section
variable [aB]
variable (E:XE)(n:Nat)
def aCb(k:IntKind)(a d:Int): Option Int:=if d=0 then none else some (k.wrap (a.tdiv d))
def Q7(op:BinOp)(b:Bool)(K:TV->Option R): Option R:=match op with
 | .eql=>cnd b (K (.lit (.bool true))) (K (.lit (.bool false)))
 | .neq=>cnd b (K (.lit (.bool false))) (K (.lit (.bool true)))
 | _=>none
def Q2(s:ByteArray): List Int:=s.data.toList.map λx=>((x.toNat:Nat):Int)
def aKo(l:List Int): ByteArray:=xR (l.map λx=>x)
def u5: IntKind->Bool
 | .u16=>true
 | _=>false
def aEN{α:Type}: (cs:List Cd)->(Ik cs->α)->ByteArray->Option (List α)
 | [.int .u8],f,b=>some (b.data.toList.map λx=>f (((x.toNat:Nat):Int),()))
 | _,_,_=>none
def aJ8(k:Nat)(b:ByteArray): Option (List (den k)):=aEN (cds k) (cX.pk k) b
def aGw{α:Type}: (cs:List Cd)->(α->Ik cs)->List α->Option ByteArray
 | [.int .u8],g,l=>some (xR (l.map λx=>(g x).1))
 | _,_,_=>none
def aGv(k:Nat)(l:List (den k)): Option ByteArray:=aGw (cds k) (cX.un k) l
def F1(H:TH)(k:Nat)(v:TV): Option (List (den k)):=match v with
 | .lit u=>match u with
  | .string b=>aJ8 k b
  | u=>rdX H k (.lit u)
 | v=>rdX H k v
def P4(k:Nat)(l:List (den k)): Nat->Nat->(List TV->Option R)->Option R
 | 0,_,K=>K []
 | m+1,i,K=>bnd (idx l ((i:Nat):Int)) λx=>P4 k l m (i+1) λcs=>K (iH k x++cs)
def eG(op:BinOp)(k:IntKind)(a b:Int): Int:=k.wrap ((match op with
 | .and=>BitVec.ofInt k.bits a&&&BitVec.ofInt k.bits b
 | .or=>BitVec.ofInt k.bits a|||BitVec.ofInt k.bits b
 | _=>BitVec.ofInt k.bits a^^^BitVec.ofInt k.bits b).toNat)
def G8(k:IntKind)(a:Int): Int:=eG .xor k (if k.signed then -1 else k.max) a
def QN(k:IntKind)(a b:Int): Int:=k.wrap (a*2^(min b.toNat k.bits))
def aO(k:IntKind)(a b:Int): Int:=a.fdiv (2^(min b.toNat k.bits))
def shT(op:BinOp)(k:IntKind)(a b:Int)(K:TV->Option R): Option R:=match op with
 | .shl=>bnd (jK (decide (0<=b))) λ_=>K (.lit (.int k (QN k a b)))
 | .shr=>bnd (jK (decide (0<=b))) λ_=>K (.lit (.int k (aO k a b)))
 | _=>none
def aGy(op:BinOp)(t:TypeId)(x y:TV)(K:TV->Option R): Option R:=match x with
 | .lit u=>match y with
  | .lit w=>match u with
   | .string a=>match w with
    | .string b=>Q7 op (decide (a=b)) K
    | _=>none
   | .bool _=>match E.eq t with
    | some e=>match ag e.k with
     | true=>none
     | false=>match jJ 0 [] e.k [x] with
      | some a=>match jJ 0 [] e.k [y] with
       | some b=>Q7 op (@decide (a=b) (e.dec a b)) K
       | none=>none
      | none=>none
    | none=>none
   | .int k a=>match w with
    | .int k' b=>match decEq k k' with
     | isTrue _=>match op with
      | .quo=>bnd (aCb k a b) λr=>K (.lit (.int k r))
      | .rem=>bnd (WW a b) λr=>K (.lit (.int k r))
      | .shr=>match k with
       | .u64=>match decEq b 1 with
        | isTrue _=>K (.lit (.int .u64 (Int.fdiv a 2)))
        | isFalse _=>shT .shr .u64 a b K
       | k=>shT .shr k a b K
      | .shl=>shT .shl k a b K
      | .and=>K (.lit (.int k (eG .and k a b)))
      | .or=>K (.lit (.int k (eG .or k a b)))
      | .xor=>K (.lit (.int k (eG .xor k a b)))
      | _=>none
     | isFalse _=>shT op k a b K
    | _=>none
   | _=>none
  | _=>none
 | .agg cs=>match E.eq t with
  | some e=>match ag e.k with
   | true=>match jJ 0 [] e.k cs with
    | some a=>match y with
     | .agg ds=>match jJ 0 [] e.k ds with
      | some b=>Q7 op (@decide (a=b) (e.dec a b)) K
      | none=>none
     | _=>none
    | none=>none
   | false=>none
  | none=>none
 | _=>none
def X3(w:Nat): List Sh->Bool
 | []=>true
 | s::r=>match s with
  | .w _=>X3 w r
  | .v _=>match w with
   | 0=>X3 w r
   | _=>false
  | _=>false
def Gy(w:Nat)(c:ZN)(vs:List TV)(H:TH)(K:TV->Option R): Option R:=match yA w H c.ka vs with
 | some p=>match X3 w c.ka with
  | false=>none
  | true=>bnd (c.F n p) λr=>Q8 (Dh (c.kr.map .v) r) λvs=>match vs with
   | [v]=>K v
   | vs=>K (.tup vs)
 | none=>none
def i64?(v:TV): Option Int:=match v with
 | .lit u=>match u with
  | .int k n=>match k with
   | .i64=>some n
   | _=>none
  | _=>none
 | _=>none
def aDX(vs:List TV): Option (Int×Int):=match vs with
 | [x,y]=>match i64? x with
  | some a=>match i64? y with
   | some b=>some (a,b)
   | none=>none
  | none=>none
 | _=>none
def Y9(H:TH)(kk:Nat): TV->Option (Σ vk,List (den kk×den vk))
 | .rmp a b m=>match Xq (a':=kk) (b':=b) m with
  | some m=>some ⟨b,m⟩
  | none=>none
 | .mp id=>match H[id]? with
  | some o=>match o with
   | .map a b m=>match Xq (a':=kk) (b':=b) m with
    | some m=>some ⟨b,m⟩
    | none=>none
   | _=>none
  | none=>none
 | _=>none
def aEh(H:TH): TV->Option Nat
 | .rmp _ _ m=>some m.length
 | .mp id=>match H[id]? with
  | some o=>match o with
   | .map _ _ m=>some m.length
   | _=>none
  | none=>none
 | _=>none
def D7(v:TV): Option ByteArray:=match v with
 | .lit u=>match u with
  | .string s=>some s
  | _=>none
 | _=>none
def Nd(tm:TT)(x:Option aQ)(d:Int): Option Int:=match x with
 | none=>some d
 | some x=>i64? (bR tm x)
def tM(tm:TT): Option aQ->Bool
 | none=>true
 | some x=>match i64? (bR tm x) with
  | some n=>match n with
   | .ofNat n=>match n with
    | 0=>true
    | _=>false
   | _=>false
  | none=>false
def N8(tm:TT)(lo:Option aQ)(h m:aQ): Bool:=match lo with
 | none=>match h with
  | .tmp _=>false
  | _=>tM tm none&&(tM tm (some h)&&tM tm (some m))
 | some _=>tM tm lo&&(tM tm (some h)&&tM tm (some m))
theorem N7{tm:TT}{lo:Option aQ}{h m:aQ}(e:N8 tm lo h m=true): (tM tm lo&&(tM tm (some h)&&tM tm (some m)))=true:=by
 unfold N8 at e;split at e
 .split at e
  .cases e
  .exact e
 .exact e
def sub{α:Type}(l:List α)(w:Nat×Nat)(a b:Int): Option (Nat×Nat):=if 0<=a/\a<=b/\w.1+b.toNat<=l.length then some (w.1+a.toNat,b.toNat-a.toNat) else none
def L8{α:Type}(l:List α)(w:Nat×Nat)(ys:List α): Option (List α):=if w.1+w.2+ys.length<=l.length/\l.length+ys.length<=1000000 then some (aU l (w.1+w.2) ys) else none
def aG2{α:Type}(l:List α)(w:Nat×Nat)(ys:List α): Option (List α):=if w.1=0/\w.2=l.length/\l.length+ys.length<=1000000 then some (l++ys) else L8 l w ys
def xQ{α:Type}(l:List α): Option (Nat×Nat)->Nat×Nat
 | none=>(0,l.length)
 | some w=>w
def cpy{α:Type}(l:List α)(w:Nat×Nat)(ys:List α): Option (List α):=if ys.length<=w.2/\w.1+ys.length<=l.length then some (aU l w.1 ys) else none
def clr{α:Type}(l:List α)(w:Nat×Nat)(z:α): Option (List α):=if w.1+w.2<=l.length then some (aU l w.1 (List.replicate w.2 z)) else none
def rep{α:Type}(x:α)(a b:Int): Option (List α):=if 0<=a/\a<=b/\b<=1000000 then some (List.replicate a.toNat x) else none
def aGh(s:Nat)(tm:TT)(H:TH)(lo hi:Option aQ)(v:TV)(K:TV->Option R): Option R:=match v with
 | .sl k l=>match Nat.beq (cds k).length s with
  | true=>match Nd tm lo 0 with
   | some a=>match Nd tm hi ((l.length:Nat):Int) with
    | some b=>bnd (PM l a b) λl'=>K (.sl k l')
    | none=>none
   | none=>none
  | false=>none
 | .vw k l=>match Nat.beq (cds k).length s with
  | true=>match Nd tm lo 0 with
   | some a=>match Nd tm hi ((l.length:Nat):Int) with
    | some b=>bnd (PM l a b) λl'=>K (.vw k l')
    | none=>none
   | none=>none
  | false=>none
 | .ms id m=>match H[id]? with
  | some o=>match o with
   | .lst k l=>match Nat.beq (cds k).length s&&Nat.blt 0 s with
    | true=>match Nd tm lo 0 with
     | some a=>match m with
      | none=>match Nd tm hi ((l.length:Nat):Int) with
       | some b=>bnd (sub l (0,l.length) a b) λw=>K (.ms id (some w))
       | none=>none
      | some w=>match Nd tm hi ((w.2:Nat):Int) with
       | some b=>bnd (sub l w a b) λw=>K (.ms id (some w))
       | none=>none
     | none=>none
    | false=>none
   | _=>none
  | none=>none
 | .emp b=>match tM tm lo&&tM tm hi with
  | true=>K (.emp b)
  | false=>none
 | .lit u=>match u with
  | .slice a l c=>match a with
   | none=>match l with
    | 0=>match c with
     | 0=>match tM tm lo&&tM tm hi with
      | true=>K (.lit u)
      | false=>none
     | _=>none
    | _=>none
   | _=>none
  | _=>none
 | _=>none
def WT(H:TH)(id n i:Nat): Option (List TV):=match H[id]? with
 | some o=>match o with
  | .rows _ es=>match Nat.beq es.length n with
   | true=>es[i]?
   | false=>none
  | _=>none
 | none=>none
def K7(k s:Nat)(n:Nat)(cs:List TV): Option (List (den k)):=uB [] k (oL s n cs)
def T8(nr:Nat)(tm:TT): TV:=match nr with
 | 1=>match eD 0 tm with
  | some v=>v
  | none=>.undef
 | m=>.tup ((List.range m).map λj=>match eD j tm with
  | some v=>v
  | none=>.undef)
def Xk: Nat->List TV->TT
 | _,[]=>[]
 | i,v::vs=>(i,v)::Xk (i+1) vs
def Yl(kl:List Nat): Nat->TH->TH->Bool
 | _,[],_=>true
 | i,a::r,s=>match s with
  | []=>false
  | b::s=>match a with
   | .lst _ _=>match b with
    | .lst _ _=>Yl kl (i+1) r s
    | _=>match Me i kl with
     | true=>Yl kl (i+1) r s
     | false=>false
   | _=>Yl kl (i+1) r s
def H9: TH->TH->Bool
 | [],_=>true
 | o::r,H=>match H with
  | []=>false
  | b::s=>match o with
   | .lst _ l=>match b with
    | .lst _ l'=>Nat.beq l'.length l.length&&H9 r s
    | _=>false
   | _=>H9 r s
def vG(fl vi:Nat)(vs:List TV)(S:TS)(K:TV->TS->Option R): List ISp->Option R
 | []=>none
 | sp::r=>match Nat.beq sp.vi vi with
  | false=>vG fl vi vs S K r
  | true=>match Nat.beq sp.fl fl with
   | false=>vG fl vi vs S K r
   | true=>match Nat.beq vs.length sp.na with
    | false=>vG fl vi vs S K r
    | true=>match sp.s.ins.fit ⟨Xk 0 vs,S.hp⟩ with
     | some (p,q)=>match Yl (sp.kl++sp.s.ins.fo) 0 S.hp (sp.s.ins.mk' p q).hp with
      | true=>match Me 999999 sp.kl with
       | false=>swO p true sp.s.outs (sp.s.F n p q) λ_ S'=>K (T8 sp.nr S'.tm) ⟨SV sp.kl S.tm,PK sp.kl S.hp.length S.hp sp.s.ins.fo S'.hp⟩
       | true=>match Yl sp.s.ins.fo 0 S.hp (sp.s.ins.mk' p q).hp with
        | true=>swO p true sp.s.outs (sp.s.F n p q) λ_ S'=>cnd (H9 (sp.s.ins.mk' p q).hp S'.hp) (K (T8 sp.nr S'.tm) ⟨S.tm,PK [] S.hp.length S.hp sp.s.ins.fo S'.hp⟩) none
        | false=>vG fl vi vs S K r
      | false=>vG fl vi vs S K r
     | none=>vG fl vi vs S K r
def aAa: TV->Bool
 | .ptr _ _=>true
 | .pel _ _ _=>true
 | .ms _ _=>true
 | .mp _=>true
 | .rs _ _=>true
 | .rel _ _ _ _=>true
 | _=>false
def aEx(vi:Nat)(vs:List TV)(S:TS)(K:TV->TS->Option R): Option R:=match vs.any aAa with
 | true=>vG n S.hp.length vi (vs.map aFw) S (λv _=>match v with
  | .lit u=>match u with
   | .slice _ _ _=>none
   | u=>K (.lit u) S
  | .sl k l=>K (.sl k l) S
  | _=>none) E.il
 | false=>none
def DP(v:TV)(S:TS)(K:TV->TS->Option R): Option R:=match v with
 | .sl k l=>K (.ms S.hp.length none) (Ai S (.lst k l))
 | .tup vs=>match vs with
  | v::r=>match v with
   | .sl k l=>match r.all λv=>match v with | .lit _=>true | _=>false with
    | true=>K (.tup (.ms S.hp.length none::r)) (Ai S (.lst k l))
    | false=>none
   | _=>none
  | []=>none
 | _=>none
def VQ(E:XE)(d o:Nat): Nat:=gU E (some (1000*(d+1)+o))
def lM(n:Nat)(cs:List TV): List (Nat×Nat)->List TV
 | []=>cs
 | (o,_)::r=>lM (n+1) (cs.set o (.ms n none)) r
def NH: TV->Bool
 | .lit u=>match u with
  | .slice a l c=>match a with
   | none=>match l with
    | 0=>match c with
     | 0=>true
     | _=>false
    | _=>false
   | _=>false
  | _=>false
 | _=>false
def O2(E:XE): Option Nat->Option (Nat×Nat)
 | some d=>match eD (1000*(d+1)+999) E.kd with
  | some _=>some (0,0)
  | none=>none
 | none=>none
def HN(E:XE)(d:Nat): List (Nat×Nat)->Bool
 | []=>true
 | (o,s)::r=>match Nat.beq (cds (VQ E d o)).length s with
  | true=>HN E d r
  | false=>false
def aGo(c:ZN)(k:Nat)(H:TH)(x y:den k): Option Int:=Gy n 1 c [val k x,val k y] H i64?
def wA(id:Nat)(S:TS): TS:=hP id (gO S id .gone)
def aGp(vi id k:Nat)(caps:List TV)(S:TS)(x y:den k): Option Int:=vG n S.hp.length vi (val k x::val k y::caps.map (Ky [id])) ⟨[],(wA id S).hp⟩ (λv _=>i64? v) E.il
def aBF{α:Type}(F:α->α->Option Int)(m:Option (Nat×Nat))(l:List α)(K:List α->Option R): Option R:=match m with
 | none=>bnd (jK (decide (l.length<=1000000))) λ_=>bnd (qX F l) K
 | some w=>bnd (jK (decide (l.length<=1000000/\w.1+w.2<=l.length))) λ_=>bnd (qX F (B7 l (some w))) λl'=>K (aU l w.1 l')
def aHL{α:Type}(l:List α)(j:Int)(y:α): Option (List α):=if 0<=j/\j.toNat<=l.length/\l.length<=1000000 then some (l.take j.toNat++y::l.drop j.toNat) else none
def Z1(fl:Nat)(H:TH)(k:Nat)(v:TV): Option (Nat×List (den k)):=match v with
 | .ms id m=>match m with
  | some _=>none
  | none=>match Nat.ble fl id with
   | false=>none
   | true=>match H[id]? with
    | some o=>match o with
     | .lst k' l=>match Gx (λk=>List (den k)) (k':=k) l with
      | some l=>some (id,l)
      | none=>none
     | _=>none
    | none=>none
 | _=>none
def aFu(H:TH)(k id:Nat)(v:TV): Option (den k):=match v with
 | .ms _ _=>match Z1 0 H k v with
  | some q=>match Nat.beq id q.1 with
   | true=>none
   | false=>match q.2 with
    | [z]=>some z
    | _=>none
  | none=>none
 | _=>none
def aIm(d k:Nat)(vs:List TV)(S:TS)(K:TV->TS->Option R): Option R:=match vs with
 | [x]=>match rdX [] k x with
  | some l=>bnd (prd d) λ_=>cnd l.isEmpty (K (.emp false) S) (bnd (app [] l) λl'=>K (.ms S.hp.length none) (Ai S (.lst k l')))
  | none=>none
 | _=>none
def U4(p:PSp)(vs:List TV)(S:TS)(K:TV->TS->Option R): Option R:=match p with
 | .srt k=>match vs with
  | [x,f]=>match x with
   | .ms id m=>match Nat.ble E.fl id with
    | false=>none
    | true=>match S.hp[id]? with
     | some o=>match o with
      | .lst k' l=>match Gx (λk=>List (den k)) (k':=k) l with
       | some l=>match f with
        | .fn vc caps=>match caps with
         | []=>match E.cs vc with
          | some c=>aBF (aGo n c k (wA id S).hp) m l λl'=>K (.tup []) (gO S id (.lst k l'))
          | none=>none
         | c::r=>aBF (aGp E n vc id k (c::r) S) m l λl'=>K (.tup []) (gO S id (.lst k l'))
        | _=>none
       | none=>none
      | _=>none
     | none=>none
   | _=>none
  | _=>none
 | .ord k F=>match vs with
  | [x]=>match Z1 E.fl S.hp k x with
   | some p=>bnd (jK (decide (p.2.length<=1000000))) λ_=>K (.tup []) (gO S p.1 (.lst k (F p.2)))
   | none=>none
  | _=>none
 | .ins k=>match vs with
  | [x,i,y]=>match Z1 E.fl S.hp k x with
   | some p=>match i64? i with
    | some j=>match aFu S.hp k p.1 y with
     | some z=>bnd (aHL p.2 j z) λl'=>K (.ms p.1 none) (hP p.1 (gO S p.1 (.lst k l')))
     | none=>none
    | none=>none
   | none=>none
  | _=>none
 | .cln _=>none
def bY(d:Option Nat)(op:xP)(S:TS)(K:TV->TS->Option R): Option R:=
 match op with
 | .mov x=>K (bR S.tm x) S
 | .movN x=>K (aFw (bR S.tm x)) S
 | .pick c a b=>match bR S.tm c with
  | .lit u=>match u with
   | .bool t=>cnd t (K (bR S.tm a) S) (K (bR S.tm b) S)
   | _=>none
  | _=>none
 | .alloc z=>K (.ptr S.hp.length 0) (Ai S (.box (z.map .lit)))
 | .ptrK n=>K (.ptr n 0) S
 | .claim s=>match Nat.beq (cds (gU E d)).length s with
  | true=>K (.ms S.hp.length (O2 E d)) (Ai S (.lst (gU E d) []))
  | false=>none
 | .boxC x cl=>match d with
  | some d=>match HN E d cl with
   | true=>match Vp (bR S.tm x) with
    | some cs=>match cl.all λc=>match cs[c.1]? with | some v=>NH v | none=>false with
     | true=>K (.ptr (S.hp.length+cl.length) 0) ⟨S.tm,(S.hp++cl.map λc=>.lst (VQ E d c.1) [])++[.box (lM S.hp.length cs cl)]⟩
     | false=>none
    | none=>none
   | false=>none
  | none=>none
 | .box x=>match Vp (bR S.tm x) with
  | some cs=>K (.ptr S.hp.length 0) (Ai S (.box cs))
  | none=>none
 | .build z ps=>match TX (z.map .lit) (ps.map λ(o,s,x)=>(o,s,bR S.tm x)) with
  | some cs=>K (.agg cs) S
  | none=>none
 | .buildC z ps cl=>match d with
  | some d=>match HN E d cl with
   | true=>match TX (z.map .lit) (ps.map λ(o,s,x)=>(o,s,bR S.tm x)) with
    | some cs=>match cl.all λc=>match cs[c.1]? with | some v=>NH v | none=>false with
     | true=>K (.agg (lM S.hp.length cs cl)) ⟨S.tm,S.hp++cl.map λc=>.lst (VQ E d c.1) []⟩
     | false=>none
    | none=>none
   | false=>none
  | none=>none
 | .buildSl pu s m z ps=>match v8 s (List.replicate m (z.map .lit)) (ps.map λ(i,x)=>(i,bR S.tm x)) with
  | some es=>match aJV E d with
   | none=>match pu with
    | true=>none
    | false=>K (.rs S.hp.length m) (Ai S (.rows s es))
   | some _=>match uB S.hp (gU E d) es with
    | some l=>match Nat.beq (cds (gU E d)).length s with
     | true=>match pu with
      | true=>match es with
       | []=>K (.emp true) S
       | _=>K (.sl (gU E d) l) S
      | false=>K (.ms S.hp.length none) (Ai S (.lst (gU E d) l))
     | false=>none
    | none=>none
  | none=>none
 | .allocC z cl=>match d with
  | some d=>match HN E d cl with
   | true=>K (.ptr (S.hp.length+cl.length) 0) ⟨S.tm,(S.hp++cl.map λc=>.lst (VQ E d c.1) [])++[.box (lM S.hp.length (z.map .lit) cl)]⟩
   | false=>none
  | none=>none
 | .load agg n x=>match bR S.tm x with
  | .rel id m i off=>match WT S.hp id m i with
   | some cs=>Kx cs agg off n λv=>K v S
   | none=>none
  | .ptr id off=>match S.hp[id]? with
   | some o=>match o with
    | .box cs=>Kx cs agg off n λv=>K v S
    | _=>none
   | none=>none
  | .rptr cs=>Kx cs agg 0 n λv=>K v S
  | .sptr k x=>Kx (iH k x) agg 0 n λv=>K v S
  | .pel id i off=>match S.hp[id]? with
   | some o=>match o with
    | .lst k l=>bnd (idx l i) λx=>Kx (iH k x) agg off n λv=>K v S
    | _=>none
   | none=>none
  | _=>none
 | .store n x v=>match Vp (bR S.tm v) with
  | some cs=>match Nat.beq cs.length n with
   | true=>match bR S.tm x with
    | .ptr id off=>match Nat.ble E.fl id with
     | false=>none
     | true=>match S.hp[id]? with
      | some o=>match o with
       | .box bs=>match Nat.ble (off+cs.length) bs.length with
        | true=>K (.lit aW) (gO S id (.box (aU bs off cs)))
        | false=>none
       | _=>none
      | none=>none
    | .pel id i off=>match Nat.ble E.fl id with
     | false=>none
     | true=>match S.hp[id]? with
      | some o=>match o with
       | .lst k l=>bnd (idx l i) λx=>match Nat.ble (off+cs.length) (cds k).length with
        | true=>match jJ 0 [] k (aU (iH k x) off cs) with
         | some x'=>K (.lit aW) (gO S id (.lst k (l.set i.toNat x')))
         | none=>none
        | false=>none
       | _=>none
      | none=>none
    | _=>none
   | false=>none
  | none=>none
 | .nilCheck x=>match bR S.tm x with
  | .ptr id off=>K (.ptr id off) S
  | .pel id i off=>K (.pel id i off) S
  | .rptr cs=>K (.rptr cs) S
  | .sptr k x=>K (.sptr k x) S
  | .fn vi caps=>K (.fn vi caps) S
  | _=>none
 | .ibin op x y=>match bR S.tm x with
  | .lit u=>match u with
   | .int k a=>match bR S.tm y with
    | .lit w=>match w with
     | .int k' b=>match decEq k k' with
      | isTrue _=>aHK op k a b λv=>K v S
      | isFalse _=>none
     | _=>none
    | _=>none
   | _=>none
  | _=>none
 | .bin op t x y=>aGy E op t (bR S.tm x) (bR S.tm y) λv=>K v S
 | .slArr s n x=>match bR S.tm x with
  | .ptr id off=>match off with
   | 0=>match Nat.ble E.fl id with
    | false=>none
    | true=>match S.hp[id]? with
     | some o=>match o with
      | .box cs=>match Nat.beq cs.length n&&(Nat.blt 0 n&&Nat.beq (cds (gU E d)).length 1) with
       | true=>match uB [] (gU E d) (cs.map λc=>[c]) with
        | some l=>K (.sl (gU E d) l) (wA id S)
        | none=>none
       | false=>none
      | _=>none
     | none=>none
   | _=>none
  | _=>none
 | .un op x=>match op with
  | .neg=>match bR S.tm x with
   | .lit u=>match u with
    | .int k a=>K (.lit (.int k (k.wrap (0-a)))) S
    | _=>none
   | _=>none
  | .xor=>match bR S.tm x with
   | .lit u=>match u with
    | .int k a=>K (.lit (.int k (G8 k a))) S
    | _=>none
   | _=>none
  | .not=>match bR S.tm x with
   | .lit u=>match u with
    | .bool b=>K (.lit (.bool (!b))) S
    | _=>none
   | _=>none
  | _=>none
 | .fieldAddr off x=>match bR S.tm x with
  | .ptr id o=>K (.ptr id (o+off)) S
  | .pel id i o=>K (.pel id i (o+off)) S
  | .rptr cs=>K (.rptr (cs.drop off)) S
  | .sptr k x=>K (.rptr ((iH k x).drop off)) S
  | .rel id m i o=>K (.rel id m i (o+off)) S
  | _=>none
 | .field agg n off x=>match bR S.tm x with
  | .agg cs=>Kx cs agg off n λv=>K v S
  | _=>none
 | .idxAddr s x i=>match TE (bR S.tm i) with
  | some i=>match bR S.tm x with
   | .sl k l=>match Nat.beq (cds k).length s with
    | true=>bnd (idx l i) λx=>K (.rptr (iH k x)) S
    | false=>none
   | .vw k l=>match Nat.beq (cds k).length s with
    | true=>bnd (idx l i) λx=>K (.rptr (iH k x)) S
    | false=>none
   | .ms id m=>match S.hp[id]? with
    | some o=>match o with
     | .lst k l=>match Nat.beq (cds k).length s with
      | true=>match m with
       | none=>bnd (YF l l.length i) λx=>K (.pel id i 0) S
       | some w=>bnd (idx (B7 l (some w)) i) λx=>K (.pel id (i+((w.1:Nat):Int)) 0) S
      | false=>none
     | _=>none
    | none=>none
   | .rs id m=>match i with
    | .ofNat j=>match S.hp[id]? with
     | some o=>match o with
      | .rows s' es=>match Nat.beq s' s&&(Nat.beq es.length m&&Nat.blt j m) with
       | true=>K (.rel id m j 0) S
       | false=>none
      | _=>none
     | none=>none
    | _=>none
   | _=>none
  | none=>none
 | .index agg s m x i=>match bR S.tm x with
  | .agg cs=>match Nat.beq cs.length (m*s) with
   | false=>none
   | true=>match TE (bR S.tm i) with
    | none=>none
    | some i=>match d with
     | none=>none
     | some d'=>match eD d' E.kd with
      | none=>match i with
       | .ofNat j=>match Nat.blt j m with
        | true=>Kx cs agg (j*s) s λv=>K v S
        | false=>none
       | _=>none
      | some k=>match agg with
       | true=>match Nat.beq (cds k).length s with
        | true=>match K7 k s m cs with
         | some l=>bnd (idx l i) λx=>K (.agg (iH k x)) S
         | none=>none
        | false=>none
       | false=>none
  | _=>none
 | .mkMap=>match cds (gU E d) with
  | [c]=>match c with
   | .mp kk vk=>K (.mp S.hp.length) (Ai S (.map kk vk []))
   | _=>none
  | _=>none
 | .lookup kt z m k ok=>match E.km kt with
  | some ks=>match Zq 0 [] ks.k (bR S.tm k) with
   | some kx=>match Y9 S.hp ks.k (bR S.tm m) with
    | some p=>match Zq 0 [] p.1 (bR S.tm z) with
     | some z'=>match ok with
      | true=>Ed (.lit (.bool (@cR _ _ ks.dec p.2 kx).isSome)) λb=>Ed (val p.1 ((@cR _ _ ks.dec p.2 kx).getD z')) λv=>K (.tup [v,b]) S
      | false=>Ed (val p.1 ((@cR _ _ ks.dec p.2 kx).getD z')) λv=>K v S
     | none=>none
    | none=>none
   | none=>none
  | none=>none
 | .mapUpd kt m k v=>match E.km kt with
  | some ks=>match Zq 0 [] ks.k (bR S.tm k) with
   | some kx=>match bR S.tm m with
    | .mp id=>match Nat.ble E.fl id with
     | false=>none
     | true=>match Y9 S.hp ks.k (.mp id) with
      | some p=>match Zq 0 [] p.1 (bR S.tm v) with
       | some v'=>K (.lit aW) (gO S id (.map ks.k p.1 (@oQ _ _ ks.dec p.2 kx v')))
       | none=>none
      | none=>none
    | _=>none
   | none=>none
  | none=>none
 | .lenM x=>match aEh S.hp (bR S.tm x) with
  | some n=>K (.lit (.int .i64 ((n:Nat):Int))) S
  | none=>none
 | .lenStr t x=>match E.st t with
  | true=>match D7 (bR S.tm x) with
   | some s=>K (.lit (.int .i64 ((s.size:Nat):Int))) S
   | none=>none
  | false=>none
 | .strIdx t x i=>match E.st t with
  | true=>match D7 (bR S.tm x) with
   | some s=>match i64? (bR S.tm i) with
    | some j=>bnd (sat s j) λv=>K (.lit (.int .u8 v)) S
    | none=>none
   | none=>none
  | false=>none
 | .strSlice _ x lo hi=>match D7 (bR S.tm x) with
  | some s=>match Nd S.tm lo 0 with
   | some a=>match Nd S.tm hi ((s.size:Nat):Int) with
    | some b=>bnd (aIi s a b) λr=>K (.lit (.string r)) S
    | none=>none
   | none=>none
  | none=>none
 | .rangeStr x=>match D7 (bR S.tm x) with
  | some s=>K (.it S.hp.length) (Ai S (.it s 0))
  | none=>none
 | .nextStr x=>match bR S.tm x with
  | .it id=>match Nat.ble E.fl id with
   | false=>none
   | true=>match S.hp[id]? with
    | some o=>match o with
     | .it s p=>cnd (decide (p<s.size)) (K (.tup [.lit (.bool true),.lit (.int .i64 ((p:Nat):Int)),.lit (.int .i32 (((Utf8.decode s p).1:Nat):Int))]) (gO S id (.it s (p+(Utf8.decode s p).2)))) (K (.tup [.lit (.bool false)]) S)
     | _=>none
    | none=>none
  | _=>none
 | .conv src dst x=>match E.cv src dst with
  | some k'=>match bR S.tm x with
   | .lit u=>match u with
    | .int k a=>match u5 k' with
     | true=>none
     | false=>K (.lit (.int k' (k'.wrap a))) S
    | _=>none
   | .sl k l=>match u5 k' with
    | true=>match aGv k l with
     | some b=>K (.lit (.string b)) S
     | none=>none
    | false=>none
   | .vw k l=>match u5 k' with
    | true=>match aGv k l with
     | some b=>K (.lit (.string b)) S
     | none=>none
    | false=>none
   | _=>none
  | none=>none
 | .tail2 x=>match bR S.tm x with
  | .tup vs=>match vs with
   | _::b=>match b with
    | _::rr=>match rr with
     | []=>K (.tup []) S
     | y::_=>K y S
    | []=>none
   | []=>none
  | _=>none
 | .arrPtr s m x=>match bR S.tm x with
  | .vw k l=>match Nat.beq (cds k).length 1&&Nat.blt 0 m with
   | true=>P4 k l m 0 λcs=>K (.rptr cs) S
   | false=>none
  | _=>none
 | .idxArr s m x i=>match bR S.tm x with
  | .rptr cs=>match Nat.beq s 1&&(Nat.beq cs.length m&&Nat.beq (cds (gU E d)).length 1) with
   | true=>match TE (bR S.tm i) with
    | some a=>match uB [] (gU E d) (cs.map λc=>[c]) with
     | some l=>bnd (idx l a) λy=>K (.rptr (iH (gU E d) y)) S
     | none=>none
    | none=>none
   | false=>none
  | _=>none
 | .slice s x lo hi mx=>match mx with
  | none=>aGh s S.tm S.hp lo hi (bR S.tm x) λv=>K v S
  | some m=>match hi with
   | none=>none
   | some h=>match bR S.tm x with
    | .ms id w=>match S.hp[id]? with
     | some o=>match o with
      | .lst k l=>match Nd S.tm lo 0 with
       | some a=>match i64? (bR S.tm h) with
        | some b=>match i64? (bR S.tm m) with
         | some c=>bnd (jK (decide (0<=a/\a<=b/\b<=c/\c<=(((xQ l w).2:Nat):Int)))) λ_=>K .undef S
         | none=>none
        | none=>none
       | none=>none
      | _=>none
     | none=>none
    | .sl k l=>match N8 S.tm lo h m with
     | true=>match Nat.beq (cds k).length s with
      | true=>K (.emp true) S
      | false=>none
     | false=>match lo with
      | some _=>none
      | none=>match i64? (bR S.tm h) with
       | some b=>match i64? (bR S.tm m) with
        | some c=>match Nat.beq (cds k).length s with
         | true=>bnd (jK (decide (0<=b/\b=c/\c<=((l.length:Nat):Int)))) λ_=>K (.slF k (l.take b.toNat)) S
         | false=>none
        | none=>none
       | none=>none
    | .vw k l=>match Nat.beq (cds k).length s with
     | true=>match Nd S.tm lo 0 with
      | some a=>match i64? (bR S.tm h) with
       | some b=>match i64? (bR S.tm m) with
        | some c=>bnd (jK (decide (b<=c/\c<=((l.length:Nat):Int)))) λ_=>bnd (PM l a b) λl'=>K (.vw k l') S
        | none=>none
       | none=>none
      | none=>none
     | false=>none
    | _=>none
 | .lenS x=>match aFA S.hp (bR S.tm x) with
  | some n=>K (.lit (.int .i64 ((n:Nat):Int))) S
  | none=>none
 | .append s bytes x y=>match bR S.tm x with
  | .ms id m=>match S.hp[id]? with
   | some o=>match o with
    | .lst k l=>match F1 S.hp k (bR S.tm y) with
     | some ys=>match Nat.beq (cds k).length s&&(Nat.blt 0 s&&Nat.ble E.fl id) with
      | true=>match Nat.ble bytes 100000 with
       | true=>match m with
        | none=>bnd (app l ys) λl'=>K (.ms id none) (hP id (gO S id (.lst k l')))
        | some w=>match O2 E d with
         | none=>bnd (L8 l w ys) λl'=>K (.ms id (some (w.1,w.2+ys.length))) (gO S id (.lst k l'))
         | some _=>bnd (aG2 l w ys) λl'=>K (.ms id (some (w.1,w.2+ys.length))) (hP id (gO S id (.lst k l')))
       | false=>none
      | false=>none
     | none=>none
    | _=>none
   | none=>none
  | .slF k l=>match F1 S.hp k (bR S.tm y) with
   | some ys=>match Nat.beq (cds k).length s&&(Nat.blt 0 s&&Nat.ble bytes 100000) with
    | true=>cnd (List.isEmpty ys) (K (.slF k l) S) (bnd (app l ys) λl'=>K (.ms S.hp.length none) (Ai S (.lst k l')))
    | false=>none
   | none=>none
  | v=>match Wx v with
   | true=>match Nat.beq (cds (gU E d)).length s&&Nat.blt 0 s with
    | true=>match F1 S.hp (gU E d) (bR S.tm y) with
     | some ys=>match Nat.ble bytes 100000 with
      | true=>cnd (List.isEmpty ys) (K v S) (bnd (app [] ys) λl'=>K (.ms S.hp.length none) (Ai S (.lst (gU E d) l')))
      | false=>none
     | none=>none
    | false=>none
   | false=>none
 | .mkSlice s z bytes len cap=>match Nat.beq (cds (gU E d)).length s&&(Nat.beq z.length s&&Nat.ble bytes 100000) with
  | true=>match jJ 0 [] (gU E d) (z.map .lit) with
   | some x=>match i64? (bR S.tm len) with
    | some a=>match i64? (bR S.tm cap) with
     | some b=>bnd (rep x a b) λl=>K (.ms S.hp.length none) (Ai S (.lst (gU E d) l))
     | none=>none
    | none=>none
   | none=>none
  | false=>none
 | .copy s x y=>match bR S.tm x with
  | .ms id m=>match S.hp[id]? with
   | some o=>match o with
    | .lst k l=>match rdX S.hp k (bR S.tm y) with
     | some ys=>match Nat.beq (cds k).length s&&(Nat.blt 0 s&&Nat.ble E.fl id) with
      | true=>bnd (cpy l (xQ l m) ys) λl'=>K (.lit (.int .i64 ((ys.length:Nat):Int))) (gO S id (.lst k l'))
      | false=>none
     | none=>none
    | _=>none
   | none=>none
  | _=>none
 | .clear s z x=>match bR S.tm x with
  | .ms id m=>match S.hp[id]? with
   | some o=>match o with
    | .lst k l=>match jJ 0 [] k (z.map .lit) with
     | some z'=>match Nat.beq (cds k).length s&&(Nat.blt 0 s&&(Nat.ble E.fl id&&Nat.beq z.length s)) with
      | true=>bnd (clr l (xQ l m) z') λl'=>K (.tup []) (gO S id (.lst k l'))
      | false=>none
     | none=>none
    | _=>none
   | none=>none
  | v=>match Wx v with
   | true=>K (.tup []) S
   | false=>none
 | .capS x=>match Wx (bR S.tm x) with
  | true=>K (.lit (.int .i64 0)) S
  | false=>none
 | .appendZ s bytes z x m=>match Wx (bR S.tm x) with
  | true=>match Nat.beq (cds (gU E d)).length s&&(Nat.blt 0 s&&(Nat.beq z.length s&&Nat.ble bytes 100000)) with
   | true=>match jJ 0 [] (gU E d) (z.map .lit) with
    | some z'=>match i64? (bR S.tm m) with
     | some a=>bnd (rep z' a a) λl=>cnd l.isEmpty (K (bR S.tm x) S) (K (.ms S.hp.length none) (Ai S (.lst (gU E d) l)))
     | none=>none
    | none=>none
   | false=>none
  | false=>match bR S.tm x with
   | .ms id w=>match w with
    | none=>match S.hp[id]? with
     | some o=>match o with
      | .lst k l=>match Nat.beq (cds k).length s&&(Nat.blt 0 s&&(Nat.ble E.fl id&&(Nat.beq z.length s&&Nat.ble bytes 100000))) with
       | true=>match jJ 0 [] k (z.map .lit) with
        | some z'=>match i64? (bR S.tm m) with
         | some a=>bnd (rep z' a a) λy=>bnd (app l y) λv=>K (.ms id none) (hP id (gO S id (.lst k v)))
         | none=>none
        | none=>none
       | false=>none
      | _=>none
     | none=>none
    | some _=>none
   | _=>none
 | .loadF m k x=>match bR S.tm x with
  | .ptr id off=>match off with
   | 0=>match S.hp[id]? with
    | some o=>match o with
     | .box cs=>match Nat.beq cs.length m with
      | true=>match cs[k]? with
       | some v=>match v with
        | .ms j w=>match Nat.ble E.fl j with
         | true=>match S.hp[j]? with
          | some o=>match o with
           | .lst kk l=>K (.agg ((cs.map (Ky [j])).set k (.sl kk (B7 l w)))) (wA j S)
           | _=>none
          | none=>none
         | false=>none
        | .emp _=>K (.agg cs) S
        | .lit _=>K (.agg cs) S
        | _=>none
       | none=>none
      | false=>none
     | _=>none
    | none=>none
   | _=>none
  | _=>none
 | .extract x i=>match bR S.tm x with
  | .tup vs=>match vs[i]? with
   | some v=>K v S
   | none=>none
  | _=>none
 | .call pu vi args=>match pu with
  | true=>match E.cs vi with
   | some c=>Gy n 0 c (args.map (bR S.tm)) [] λv=>K v S
   | none=>none
  | false=>match E.pr vi with
   | some p=>bnd (prd n) λm=>U4 E m p (args.map (bR S.tm)) S K
   | none=>match Nat.ble E.fl S.hp.length with
    | true=>vG n E.fl vi (args.map (bR S.tm)) S K E.il
    | false=>none
 | .callv pu x args=>match bR S.tm x with
  | .fn vi caps=>match pu with
   | true=>match caps with
    | []=>match E.cs vi with
     | some c=>Gy n 0 c (args.map (bR S.tm)) [] λv=>K v S
     | none=>none
    | c::r=>aEx E n vi (args.map (bR S.tm)++c::r) S K
   | false=>match Nat.ble E.fl S.hp.length with
    | true=>vG n E.fl vi (args.map (bR S.tm)++caps) S K E.il
    | false=>none
  | _=>none
 | .callT s vi args=>match E.cs vi with
  | some c=>match c.kp with
   | true=>match c.kr with
    | k::_=>match cds k with
     | [e]=>match e with
      | .sl k'=>match Nat.beq (cds k').length s&&!(ag k) with
       | true=>Gy n 1 c (args.map (bR S.tm)) S.hp λv=>DP v S K
       | false=>none
      | _=>none
     | _=>none
    | []=>none
   | false=>none
  | none=>none
 | .mkFn vi caps=>K (.fn vi (caps.map (bR S.tm))) S
 | .lenC n=>K (.lit (.int .i64 n)) S
 | .callF vi args=>match E.pr vi with
  | some p=>match p with
   | .cln k=>aIm n k (args.map (bR S.tm)) S K
   | _=>none
  | none=>vG n S.hp.length vi (args.map (bR S.tm)) S K E.il
 | .callB vi args=>match E.cs vi with
  | some c=>Gy n 1 c (args.map (bR S.tm)) S.hp λv=>K v S
  | none=>none
 | .minmax mx xs=>match aDX (xs.map (bR S.tm)) with
  | some p=>match mx with
   | true=>K (.lit (.int .i64 (Fk p.1 p.2))) S
   | false=>K (.lit (.int .i64 (HP p.1 p.2))) S
  | none=>none
 | _=>none
def aCc(N:Nat)(d:Option Nat)(v:TV)(S:TS)(K:TS->Option R): Option R:=match d with
 | some d=>match Nat.blt d N with
  | true=>K ⟨(d,v)::S.tm,S.hp⟩
  | false=>none
 | none=>K S
def QQ(t:Nat)(b:Bool)(S:TS): TS:=⟨(t,.lit (.bool b))::S.tm,S.hp⟩
def aAv(o:aL)(S:TS)(K:TS->Option R): Option R:=bY E n o.dst o.op S λv S=>aCc E.nt o.dst v S K
def UB(o:aL)(S:TS)(K:TS->Option R): Option R:=aCc E.nt o.dst (.lit aW) S K
def NZ(o:aL)(S:TS)(K:TS->Option R): Option R:=match o.guard with
 | none=>aAv E n o S K
 | some g=>match eD g.1 S.tm with
  | some v=>match v with
   | .lit u=>match u with
    | .bool b=>match g.2 with
     | true=>cnd b (aAv E n o (QQ g.1 true S) K) (UB E o (QQ g.1 false S) K)
     | false=>cnd b (UB E o (QQ g.1 true S) K) (aAv E n o (QQ g.1 false S) K)
    | .tuple _=>UB E o S K
    | _=>none
   | _=>none
  | none=>none
def aAu: List aL->TS->(TS->Option R)->Option R
 | [],S,K=>K S
 | o::r,S,K=>NZ E n o S λS=>aAu r S K
def MY: bI->Nat
 | .seq a b=>MY a+MY b
 | .cond _ a b=>MY a+MY b
 | .block _ c=>MY c
 | .loop _ _ c=>MY c
 | .mask _ _ _ c=>1+MY c
 | .told _ _ _ c=>1+MY c
 | .scope c=>MY c
 | .frz _ c=>MY c
 | _=>0
def G7: TV->Option (Option Nat)
 | .undef=>none
 | .tup _=>none
 | .agg _=>none
 | .fn _ _=>none
 | .ptr id _=>some (some id)
 | .pel id _ _=>some (some id)
 | .ms id _=>some (some id)
 | .mp id=>some (some id)
 | .rs id _=>some (some id)
 | .rel id _ _ _=>some (some id)
 | _=>some none
def aFm: TV->Bool
 | .lit _=>true
 | .emp _=>true
 | .sl _ _=>true
 | .rptr _=>true
 | .sptr _ _=>true
 | .rmp _ _ _=>true
 | _=>false
def aCh: List TV->Bool
 | []=>true
 | x::r=>match aFm x with
  | true=>aCh r
  | false=>false
def aH1: TV->Bool
 | .agg cs=>aCh cs
 | v=>aFm v
def aCi: List TV->Bool
 | []=>true
 | x::r=>match aH1 x with
  | true=>aCi r
  | false=>false
def IP(op:xP)(tm:TT): Option (Option Nat):=match op with
 | .load _ _ x=>G7 (bR tm x)
 | .idxAddr _ x _=>G7 (bR tm x)
 | .slice _ x _ _ _=>G7 (bR tm x)
 | .lookup _ _ m _ _=>G7 (bR tm m)
 | .lenM x=>G7 (bR tm x)
 | .call pu _ args=>match pu with
  | true=>match aCi (args.map (bR tm)) with
   | true=>some none
   | false=>none
  | false=>none
 | .callB _ args=>match args with
  | [x]=>match bR tm x with
   | .sl _ _=>some none
   | .vw _ _=>some none
   | _=>none
  | _=>none
 | _=>none
def Uc(op:xP)(tm:TT)(n id:Nat): Bool:=match op with
 | .alloc _=>Nat.blt id n
 | .claim _=>Nat.blt id n
 | .allocC _ _=>Nat.blt id n
 | .box _=>Nat.blt id n
 | .boxC _ _=>Nat.blt id n
 | .buildC _ _ _=>Nat.blt id n
 | .buildSl _ _ _ _ _=>Nat.blt id n
 | .mkMap=>Nat.blt id n
 | .callT _ _ _=>Nat.blt id n
 | .store _ x _=>match bR tm x with
  | .ptr i _=>!Nat.beq i id
  | .pel i _ _=>!Nat.beq i id
  | _=>false
 | .append _ _ x _=>match bR tm x with
  | .ms i _=>!Nat.beq i id
  | .emp _=>Nat.blt id n
  | .lit _=>Nat.blt id n
  | _=>false
 | .mapUpd _ m _ _=>match bR tm m with
  | .mp i=>!Nat.beq i id
  | _=>false
 | _=>false
def PV(tm:TT): Option (Nat×Bool)->Option Bool
 | none=>some true
 | some g=>match eD g.1 tm with
  | some v=>match v with
   | .lit u=>match u with
    | .bool b=>some (b==g.2)
    | .tuple _=>some false
    | _=>none
   | _=>none
  | none=>none
def ck1(ops:List aL)(l:List TS)(k m:Nat): Bool:=match ops[k]? with
 | some ok=>match l[k]? with
  | some sk=>match PV sk.tm ok.guard with
   | some false=>true
   | _=>match IP ok.op sk.tm with
    | none=>false
    | some o=>match o with
     | none=>true
     | some id=>match ops[m]? with
      | some om=>match l[m]? with
       | some sm=>match PV sm.tm om.guard with
        | some false=>true
        | _=>Uc om.op sm.tm sm.hp.length id
       | none=>false
      | none=>false
  | none=>false
 | none=>false
def ckL(ops:List aL)(l:List TS): List (Nat×Nat)->Bool
 | []=>true
 | p::r=>match ck1 ops l p.1 p.2 with
  | true=>ckL ops l r
  | false=>false
def Uw: List aL->TS->List TS->(List TS->TS->Option R)->Option R
 | [],S,l,K=>K (S::l).reverse S
 | o::r,S,l,K=>NZ E n o S λS'=>Uw r S' (S::l) K
def NF(n:Nat): Nat->List aL->List TS->Bool
 | 0,_,_=>true
 | m+1,o::r,s::l=>match (match eR o.op with
   | true=>true
   | false=>match PV s.tm o.guard with
    | some false=>true
    | _=>Uc o.op s.tm s.hp.length n) with
  | true=>NF n m r l
  | false=>false
 | _,_,_=>false
def aFY(H H':TH): TV->TV->Option Bool
 | .lit u,v=>match v with
  | .lit w=>match u with
   | .int k a=>match w with
    | .int k' b=>match decEq k k' with
     | isTrue _=>some (decide (a=b))
     | isFalse _=>none
    | _=>none
   | .string a=>match w with
    | .string b=>some (decide (a=b))
    | _=>none
   | .bool a=>match w with
    | .bool b=>some (decide (a=b))
    | _=>none
   | _=>none
  | _=>none
 | .ms i n,v=>match n with
  | none=>match v with
   | .ms j m=>match m with
    | none=>match Nat.beq i j with
     | true=>match H[i]? with
      | some o=>match o with
       | .lst _ l=>match H'[i]? with
        | some p=>match p with
         | .lst _ t=>some (decide (l.length=t.length))
         | _=>none
        | none=>none
       | _=>none
      | none=>none
     | false=>none
    | some _=>none
   | _=>none
  | some _=>none
 | _,_=>none
def aAy(H H':TH): List TV->List TV->Option Bool
 | [],l=>match l with
  | []=>some true
  | _=>none
 | a::r,l=>match l with
  | []=>none
  | b::s=>match aFY H H' a b with
   | none=>none
   | some x=>match aAy H H' r s with
    | none=>none
    | some y=>some (x&&y)
def WE(ops:List aL)(l:List TS)(k m:Nat): Option Bool:=match ops[k]? with
 | some ok=>match l[k]? with
  | some sk=>match IP ok.op sk.tm with
   | some (some id)=>match ops[m]? with
    | some om=>match ZH om.op with
     | true=>match l[m]? with
      | some s=>match l[m+1]? with
       | some t=>match s.hp[id]? with
        | some o=>match o with
         | .box cs=>match t.hp[id]? with
          | some p=>match p with
           | .box ds=>aAy s.hp t.hp cs ds
           | _=>none
          | none=>none
         | _=>none
        | none=>none
       | none=>none
      | none=>none
     | false=>none
    | none=>none
   | _=>none
  | none=>none
 | none=>none
def ckG(ops:List aL)(l:List TS): List (Nat×Nat)->Option Bool
 | []=>some true
 | p::r=>match ck1 ops l p.1 p.2 with
  | true=>ckG ops l r
  | false=>match WE ops l p.1 p.2 with
   | none=>none
   | some x=>match ckG ops l r with
    | none=>none
    | some y=>some (x&&y)
def aAt(ck:List (Nat×Nat))(ops:List aL)(S:TS)(K:TS->Option R): Option R:=match ck with
 | []=>aAu E n ops S K
 | c::r=>match Nat.beq c.1 c.2 with
  | false=>Uw E n ops S [] λl S=>match ckL ops l (c::r) with
   | true=>K S
   | false=>match ckG ops l (c::r) with
    | some b=>bnd (jK b) λ_=>K S
    | none=>none
  | true=>Uw E n (eX ops c.1 S.hp.length) (Ai S (.box ((XB ops c.1).map .lit))) [] λl S'=>match ckL (eX ops c.1 S.hp.length) l r with
   | true=>match NF S.hp.length c.1 (eX ops c.1 S.hp.length) l with
    | true=>K S'
    | false=>none
   | false=>none
def D2(n:Nat)(b:Bool)(T0:TT)(S:TS)(K:bP->TS->Option R): List Zh->Option R
 | []=>none
 | sp::r=>match sp.ins.fit S with
  | some (p,q)=>match Yl (sp.kl++sp.ins.fo) 0 S.hp (sp.ins.mk' p q).hp with
   | true=>swO p b sp.outs (sp.F n p q) λx S'=>K x (aft sp T0 S.hp x S')
   | false=>D2 n b T0 S K r
  | none=>D2 n b T0 S K r
def aB2(body:TS->(bP->TS->Option R)->Option R)(hd:TS->TS): Nat->TS->(bP->TS->Option R)->Option R
 | 0,_,_=>none
 | m+1,S,K=>body (hd S) λx S=>match x with
  | .normal=>aB2 body hd m S K
  | x=>K x S
def aFT(t:Nat)(k:Nat)(S:TS)(K:TS->Option R): Option R:=match eD t S.tm with
 | some v=>match v with
  | .ms id m=>match Nat.ble E.fl id with
   | false=>none
   | true=>match S.hp[id]? with
    | some o=>match o with
     | .lst k l=>K ⟨(t,.sl k (B7 l m))::(wA id S).tm,(wA id S).hp⟩
     | _=>none
    | none=>none
  | .ptr id off=>match off with
   | 0=>match Nat.ble E.fl id with
    | false=>none
    | true=>match S.hp[id]? with
     | some o=>match o with
      | .box cs=>match jJ 0 [] k cs with
       | some x=>K ⟨(t,.sptr k x)::(wA id S).tm,(wA id S).hp⟩
       | none=>none
      | _=>none
     | none=>none
   | _=>none
  | .undef=>none
  | .pel _ _ _=>none
  | .rel _ _ _ _=>none
  | .rs _ _=>none
  | v=>K S
 | none=>none
def Xi: bI->Nat->TS->(bP->TS->Option R)->Option R
 | .skip,_,S,K=>K .normal S
 | .region _ ck ops,_,S,K=>aAt E n ck ops S (K .normal)
 | .seq a b,i,S,K=>Xi a i S λx S=>match x with
  | .normal=>Xi b (i+MY a) S K
  | x=>K x S
 | .cond c a b,i,S,K=>match c with
  | .tmp t=>match eD t S.tm with
   | some v=>match v with
    | .lit u=>match u with
     | .bool v=>cnd v (Xi a i (QQ t true S) K) (Xi b (i+MY a) (QQ t false S) K)
     | _=>none
    | _=>none
   | none=>none
  | _=>none
 | .block id c,i,S,K=>Xi c i S λx S=>match x with
  | .exit j=>match Nat.beq j id with
   | true=>K .normal S
   | false=>K (.exit j) S
  | x=>K x S
 | .exit id,_,S,K=>K (.exit id) S
 | .ret,_,S,K=>K .ret S
 | .mask lx lr tr c,i,S,K=>match Nat.ble E.fl S.hp.length with
  | false=>none
  | true=>match c with
   | .loop live tr' b=>match live with
    | none=>none
    | some live=>match eD i E.un with
     | some m=>bnd (jK (Nat.ble m n)) λ_=>aB2 (λS K=>Xi b (i+1) S K) (Fn live tr' S.hp.length) m S λx S'=>match x with
      | .normal=>none
      | .ret=>K .ret ⟨vY lr S'.tm,S'.hp⟩
      | .exit j=>K (.exit j) (Fn lx tr S.hp.length S')
     | none=>match eD i E.ls with
      | some l=>D2 n false S.tm (Fn live tr' S.hp.length S) K l
      | none=>none
   | _=>none
 | .told li lx lr c,i,S,K=>match Nat.ble E.fl S.hp.length with
  | false=>none
  | true=>match eD i E.ls with
   | some l=>D2 n true S.tm ⟨vY li S.tm,S.hp⟩ K l
   | none=>none
 | .scope c,i,S,K=>Xi c i S K
 | .frz t c,i,S,K=>aFT E t (gU E (some (900+t))) S λS=>Xi c i S K
 | _,_,_,_=>none
def MD(S:TS): List Rg->Option (List TV)
 | []=>some []
 | r::rs=>match MD S rs with
  | none=>none
  | some vs=>match r with
   | .tmp t=>some (bR S.tm (.tmp t)::vs)
   | .cell t n agg=>match bR S.tm (.tmp t) with
    | .ptr id off=>match S.hp[id]? with
     | some o=>match o with
      | .box cs=>match Nat.ble (off+n) cs.length with
       | true=>match agg with
        | true=>some (.agg ((cs.drop off).take n)::vs)
        | false=>match (cs.drop off).take n with
         | [c]=>some (c::vs)
         | _=>none
       | false=>none
      | _=>none
     | none=>none
    | _=>none
def Ww(H:TH): List TV->Bool
 | []=>false
 | v::_=>match v with
  | .ms id m=>match H[id]? with
   | some o=>match o with
    | .lst _ l=>match m with
     | none=>true
     | some w=>decide (w=(0,l.length))
    | _=>false
   | none=>false
  | .lit u=>match u with
   | .slice a l c=>match a with
    | none=>match l with
     | 0=>match c with
      | 0=>true
      | _=>false
     | _=>false
    | some _=>false
   | _=>false
  | _=>false
def exF(F:bK)(c:ZN)(p:fJ c.ka): Option (fJ (c.kr.map .v)):=Xi E n F.body 0 ⟨Xk 0 (Dh c.ka p),[]⟩ λx S=>match x with
 | .exit _=>none
 | _=>match MD S F.rets with
  | some vs=>match c.kp with
   | false=>yA 2 S.hp (c.kr.map .v) vs
   | true=>bnd (jK (Ww S.hp vs)) λ_=>yA 2 S.hp (c.kr.map .v) vs
  | none=>none
def exI(F:bK)(S:TS)(K:TS->Option R): Option R:=Xi E n F.body 0 S λx S=>match x with
 | .exit _=>none
 | _=>match MD S F.rets with
  | some vs=>K ⟨Xk 0 vs,S.hp⟩
  | none=>none
end
end
section
variable [cX]
def c7: bP->bP->Bool
 | .normal,y=>match y with | .normal=>true | _=>false
 | .exit i,y=>match y with | .exit j=>Nat.beq i j | _=>false
 | .ret,y=>match y with | .ret=>true | _=>false
def ES{P:Type}(R:Type): List (Dr P)->Type
 | []=>Unit
 | o::r=>(List cN->o.lay.P->o.lay.V->Option R)×ES R r
def uT{P R:Type}(n:Nat)(x:bP)(S:TS): (l:List (Dr P))->ES R l->Option R
 | [],_=>none
 | o::r,e=>match c7 o.x x with
  | true=>match o.lay.getF n S with
   | some (f,p,q)=>e.1 f p q
   | none=>uT n x S r e.2
  | false=>uT n x S r e.2
def aBV{R:Type}(ins:yI)(outs:List (Dr ins.P))(live:List Bool)(tr':Bool)(lx lr:List Bool)(tr:Bool)(n:Nat)(k:List cN->ins.P->ins.V->Option R)(e:ES R outs)(x:bP)(S:TS): Option R:=match x with
 | .normal=>match ins.getF n (Fn live tr' n S) with
  | some (f,p,q)=>k f p q
  | none=>none
 | .ret=>uT n .ret ⟨vY lr S.tm,S.hp⟩ outs e
 | .exit i=>uT n (.exit i) (Fn lx tr n S) outs e
end
section
variable {α β:Type}
def bO(R:α->β->Prop): List α->List β->Prop
 | [],l=>match l with | []=>True | _::_=>False
 | a::r,l=>match l with | []=>False | b::s=>R a b/\bO R r s
variable {R:α->β->Prop}
theorem bO.len: ∀{l:List α} {m:List β},bO R l m->m.length=l.length
 | [],[],_=>rfl
 | _::_,_::_,h=>by simp[bO.len h.2]
theorem bO.at: ∀{l:List α} {m:List β},bO R l m->∀{j:Nat} {a:α} {b:β},l[j]?=some a->m[j]?=some b->R a b
 | _::_,_::_,h,0,_,_,c,d=>by
  simp only[List.getElem?_cons_zero,Option.some.injEq] at c d;rw[<-c,<-d];exact h.1
 | _::_,_::_,h,j+1,_,_,c,d=>h.2.at (j:=j) (by simpa using c)<|by simpa using d
theorem bO.of: ∀{l:List α} {m:List β},m.length=l.length->(∀(j:Nat) (a:α) (b:β),l[j]?=some a->m[j]?=some b->R a b)->bO R l m
 | [],[],_,_=>trivial
 | [],_::_,h,_=>by cases h
 | _::_,[],h,_=>by cases h
 | _::_,_::_,h,k=>⟨k 0 _ _ rfl rfl,bO.of (by simpa using h) λj a b c d=>k (j+1) a b (by simpa using c)<|by simpa using d⟩
theorem bO.get{l:List α}{m:List β}(h:bO R l m){j:Nat}{a:α}(c:l[j]?=some a): ∃b,m[j]?=some b/\R a b:=by
 have:j<m.length:=by rw[h.len];exact (List.getElem?_eq_some_iff.1 c).1
 exact⟨m[j],List.getElem?_eq_getElem this,h.at c<|List.getElem?_eq_getElem this⟩
theorem bO.drop{l:List α}{m:List β}(h:bO R l m)(n:Nat): bO R (l.drop n)<|m.drop n:=
 bO.of (by simp[h.len]) λj a b c d=>h.at (by simpa using c)<|by simpa using d
theorem bO.take{l:List α}{m:List β}(h:bO R l m)(n:Nat): bO R (l.take n)<|m.take n:=
 bO.of (by simp[h.len]) λj a b c d=>by
  simp only[List.getElem?_take] at c d;split at c
  .rename_i e;rw[if_pos e] at d;exact h.at c d
  .cases c
theorem bO.app: ∀{l:List α} {m:List β} {a b},bO R l m->bO R a b->bO R (l++a) (m++b)
 | [],[],_,_,_,h=>h
 | _::_,_::_,_,_,h,c=>⟨h.1,bO.app h.2 c⟩
theorem bO.spl{l c:List α}{m d:List β}{off:Nat}(h:bO R l m)(k:bO R c d): bO R (aU l off c)<|aU m off d:=by
 unfold aU;rw[<-k.len];exact (h.take off).app<|k.app<|h.drop _
theorem bO.set: ∀{l:List α} {m:List β},bO R l m->∀{a b} (i:Nat),R a b->bO R (l.set i a) (m.set i b)
 | [],[],_,_,_,_,_=>trivial
 | _::_,_::_,h,_,_,0,k=>⟨k,h.2⟩
 | _::_,_::_,h,_,_,i+1,k=>⟨h.1,h.2.set i k⟩
theorem bO.imp{c:α->β->Prop}(k:∀a b,R a b->c a b): ∀{l:List α} {m:List β},bO R l m->bO c l m
 | [],[],_=>trivial
 | _::_,_::_,h=>⟨k _ _ h.1,h.2.imp k⟩
theorem bO.map{γ δ:Type}{c:γ->δ->Prop}{f:α->γ}{g:β->δ}(k:∀a b,R a b->c (f a) (g b)): ∀{l:List α} {m:List β},bO R l m->bO c (l.map f) (m.map g)
 | [],[],_=>trivial
 | _::_,_::_,h=>⟨k _ _ h.1,h.2.map k⟩
theorem bO.mapR{δ:Type}{c:α->δ->Prop}{g:β->δ}(k:∀a b,R a b->c a (g b)): ∀{l:List α} {m:List β},bO R l m->bO c l (m.map g)
 | [],[],_=>trivial
 | _::_,_::_,h=>⟨k _ _ h.1,h.2.mapR k⟩
theorem bO.mapL{γ:Type}{c:γ->β->Prop}{f:α->γ}(k:∀a b,R a b->c (f a) b): ∀{l:List α} {m:List β},bO R l m->bO c (l.map f) m
 | [],[],_=>trivial
 | _::_,_::_,h=>⟨k _ _ h.1,h.2.mapL k⟩
theorem bO.rep{a:α}{b:β}(h:R a b): ∀n,bO R (List.replicate n a)<|List.replicate n b
 | 0=>trivial
 | n+1=>⟨h,bO.rep h n⟩
end
section
variable [cX]
def qF(g:Bool)(r:List AV): AV:=match g with
 | true=>.agg r
 | false=>match r with
  | a::_=>a
  | []=>.undef
inductive Qp: TV->AV->Prop
 | undef (a):Qp .undef a
 | lit (v):Qp (.lit v) (.lit v)
 | emp (b a):(a=.lit aZ\/a=.sl true []\/(b=false/\a=.sl false []))->Qp (.emp b) a
 | sl (k:Nat) (l:List (den k)) (a:AV) (es:List (List AV)):((a=.lit aZ/\es=[])\/∃f,a=.sl f es)->es.length=l.length->(∀(i:Nat) (x:den k) (e:List AV),l[i]?=some x->es[i]?=some e->e.length=(iH k x).length)->
  (∀(i:Nat) (x:den k) (e:List AV) (j:Nat) (c:TV) (b:AV),l[i]?=some x->es[i]?=some e->(iH k x)[j]?=some c->e[j]?=some b->Qp c b)->Qp (.sl k l) a
 | vw (k:Nat) (l:List (den k)) (a:AV) (es:List (List AV)):((a=.lit aZ/\es=[])\/(∃f,a=.sl f es)\/a=.vw es)->es.length=l.length->(∀(i:Nat) (x:den k) (e:List AV),l[i]?=some x->es[i]?=some e->e.length=(iH k x).length)->
  (∀(i:Nat) (x:den k) (e:List AV) (j:Nat) (c:TV) (b:AV),l[i]?=some x->es[i]?=some e->(iH k x)[j]?=some c->e[j]?=some b->Qp c b)->Qp (.vw k l) a
 | rptr (cs:List TV) (aw:List AV):aw.length=cs.length->(∀(j:Nat) (c:TV) (b:AV),cs[j]?=some c->aw[j]?=some b->Qp c b)->Qp (.rptr cs) (.rptr aw)
 | sptr (k:Nat) (x:den k) (aw:List AV):aw.length=(iH k x).length->(∀(j:Nat) (c:TV) (b:AV),(iH k x)[j]?=some c->aw[j]?=some b->Qp c b)->Qp (.sptr k x) (.sptr aw)
 | rmp (kk vk:Nat) (m:List (den kk×den vk)) (a:AV) (rows:List (List AV)):((a=.lit (.map none)/\m=[])\/a=.rmp ((m.map λp=>pR kk p.1).zip (rows.map (qF (ag vk)))))->rows.length=m.length->
  (∀(i:Nat) (p:den kk×den vk) (e:List AV),m[i]?=some p->rows[i]?=some e->e.length=(iH vk p.2).length)->
  (∀(i:Nat) (p:den kk×den vk) (e:List AV) (j:Nat) (c:TV) (b:AV),m[i]?=some p->rows[i]?=some e->(iH vk p.2)[j]?=some c->e[j]?=some b->Qp c b)->Qp (.rmp kk vk m) a
 | slF (k:Nat) (l:List (den k)) (a:AV) (es:List (List AV)):((a=.lit aZ/\es=[])\/a=.sl true es)->es.length=l.length->(∀(i:Nat) (x:den k) (e:List AV),l[i]?=some x->es[i]?=some e->e.length=(iH k x).length)->
  (∀(i:Nat) (x:den k) (e:List AV) (j:Nat) (c:TV) (b:AV),l[i]?=some x->es[i]?=some e->(iH k x)[j]?=some c->e[j]?=some b->Qp c b)->Qp (.slF k l) a
abbrev Qr(cs:List TV)(aw:List AV): Prop:=bO Qp cs aw
abbrev Ql(k:Nat)(l:List (den k))(es:List (List AV)): Prop:=bO (λx e=>Qr (iH k x) e) l es
theorem Ql.of{k:Nat}{l:List<|den k}{es:List<|List AV}(f:es.length=l.length)(g:∀(i:Nat) (x:den k) (e:List AV),l[i]?=some x->es[i]?=some e->e.length=(iH k x).length)(m:∀(i:Nat) (x:den k) (e:List AV) (j:Nat) (c:TV) (b:AV),l[i]?=some x->es[i]?=some e->(iH k x)[j]?=some c->e[j]?=some b->Qp c b): Ql k l es:=
 bO.of f λi x e d he=>bO.of (g i x e d he) λj c b h n=>m i x e j c b d he h n
theorem Qp.mkS{k:Nat}{l:List<|den k}{a:AV}{es:List<|List AV}(h:(a=.lit aZ/\es=[])\/∃f,a=.sl f es)(r:Ql k l es): Qp (.sl k l) a:=
 .sl k l a es h r.len (λi x e d he=>(r.at d he).len) λi x e j c b d he n m=>(r.at d he).at n m
theorem Qp.mkF{k:Nat}{l:List<|den k}{a:AV}{es:List<|List AV}(h:(a=.lit aZ/\es=[])\/a=.sl true es)(r:Ql k l es): Qp (.slF k l) a:=
 .slF k l a es h r.len (λi x e d he=>(r.at d he).len) λi x e j c b d he n m=>(r.at d he).at n m
theorem Qp.mkV{k:Nat}{l:List<|den k}{a:AV}{es:List<|List AV}(h:(a=.lit aZ/\es=[])\/(∃f,a=.sl f es)\/a=.vw es)(r:Ql k l es): Qp (.vw k l) a:=
 .vw k l a es h r.len (λi x e d he=>(r.at d he).len) λi x e j c b d he n m=>(r.at d he).at n m
theorem Qp.mkR{cs:List TV}{aw:List AV}(h:Qr cs aw): Qp (.rptr cs)<|.rptr aw:=.rptr cs aw h.len λj c b a d=>h.at a d
theorem Qp.mkP{k:Nat}{x:den k}{aw:List AV}(h:Qr (iH k x) aw): Qp (.sptr k x)<|.sptr aw:=.sptr k x aw h.len λj c b a e=>h.at a e
theorem Qp.inS{k:Nat}{l:List<|den k}{a:AV}(h:Qp (.sl k l) a): ∃es,((a=.lit aZ/\es=[])\/∃f,a=.sl f es)/\Ql k l es:=by
 cases h with
 | sl _ _ _ es d e b g=>exact⟨es,d,Ql.of e b g⟩
theorem Qp.inE{k:Nat}{l:List<|den k}{a:AV}(h:Qp (.slF k l) a): ∃es,((a=.lit aZ/\es=[])\/a=.sl true es)/\Ql k l es:=by
 cases h with
 | slF _ _ _ es d e b g=>exact⟨es,d,Ql.of e b g⟩
theorem Qp.inV{k:Nat}{l:List<|den k}{a:AV}(h:Qp (.vw k l) a): ∃es,((a=.lit aZ/\es=[])\/(∃f,a=.sl f es)\/a=.vw es)/\Ql k l es:=by
 cases h with
 | vw _ _ _ es d e b g=>exact⟨es,d,Ql.of e b g⟩
theorem Qp.inR{cs:List TV}{a:AV}(h:Qp (.rptr cs) a): ∃aw,a=.rptr aw/\Qr cs aw:=by
 cases h with
 | rptr _ aw c d=>exact⟨aw,rfl,bO.of c d⟩
abbrev Qm{kk:Nat}(vk:Nat)(m:List (den kk×den vk))(rows:List (List AV)): Prop:=bO (λp e=>Qr (iH vk p.2) e) m rows
abbrev hY{kk:Nat}(vk:Nat)(m:List (den kk×den vk))(rows:List (List AV)): List (Value×AV):=(m.map λp=>pR kk p.1).zip (rows.map (qF (ag vk)))
theorem Qp.mkM{kk d:Nat}{m:List<|den kk×den d}{a:AV}{rows:List<|List AV}(h:(a=.lit (.map none)/\m=[])\/a=.rmp (hY d m rows))(r:Qm d m rows): Qp (.rmp kk d m) a:=
 .rmp kk d m a rows h r.len (λi x e f he=>(r.at f he).len) λi x e j c b f he l k=>(r.at f he).at l k
theorem Qp.inM{kk d:Nat}{m:List<|den kk×den d}{a:AV}(h:Qp (.rmp kk d m) a): ∃rows,((a=.lit (.map none)/\m=[])\/a=.rmp (hY d m rows))/\Qm d m rows:=by
 cases h with
 | rmp _ _ _ _ rows r l p k=>exact⟨rows,r,bO.of l λi x e g he=>bO.of (p i x e g he) λj c b o q=>k i x e j c b g he o q⟩
theorem Qp.inP{k:Nat}{x:den k}{a:AV}(h:Qp (.sptr k x) a): ∃aw,a=.sptr aw/\Qr (iH k x) aw:=by
 cases h with
 | sptr _ _ aw d e=>exact⟨aw,rfl,bO.of d e⟩
inductive Qh(H:TH): TV->AV->Prop
 | p (v a):Qp v a->Qh H v a
 | ms (id k l):H[id]?=some (.lst k l)->Qh H (.ms id none) (.ms id l.length 0 l.length)
 | msn (id w k l):H[id]?=some (.lst k l)->Qh H (.ms id (some w)) (.ms id l.length w.1 w.2)
 | ptr (id off):Qh H (.ptr id off) (.ptr id 1 0 off)
 | pel (id i off k l):H[id]?=some (.lst k l)->0<=i->i.toNat<l.length->Qh H (.pel id i off) (.ptr id l.length i.toNat off)
 | mp (id):Qh H (.mp id) (.mp id)
 | it (id):Qh H (.it id) (.it id)
 | fn (vi:Nat) (cs:List TV) (aw:List AV):aw.length=cs.length->(∀(j:Nat) (c:TV) (b:AV),cs[j]?=some c->aw[j]?=some b->Qh H c b)->Qh H (.fn vi cs) (.fn vi aw)
 | agg (cs:List TV) (aw:List AV):aw.length=cs.length->(∀(j:Nat) (c:TV) (b:AV),cs[j]?=some c->aw[j]?=some b->Qh H c b)->Qh H (.agg cs) (.agg aw)
 | tup (cs:List TV) (aw:List AV):aw.length=cs.length->(∀(j:Nat) (c:TV) (b:AV),cs[j]?=some c->aw[j]?=some b->Qh H c b)->Qh H (.tup cs) (.tup aw)
 | rs (id n):Qh H (.rs id n) (.ms id n 0 n)
 | rel (id n i off):Qh H (.rel id n i off) (.ptr id n i off)
variable {H H':TH}
theorem Qh.u(a:AV): Qh H .undef a:=.p _ _<|.undef a
theorem Qh.l(v:Value): Qh H (.lit v)<|.lit v:=.p _ _<|.lit v
theorem Qh.inL{v:Value}{a:AV}(h:Qh H (.lit v) a): a=.lit v:=by
 cases h with
 | p _ _ h=>cases h;rfl
theorem Qh.pu{v:TV}{a:AV}(h:Qh H v a)(b:match v with | .sl ..=>True | .vw ..=>True | .rptr ..=>True | .sptr ..=>True | .emp ..=>True | .rmp ..=>True | .slF ..=>True | _=>False): Qp v a:=by
 cases h with
 | p _ _ h=>exact h
 | _=>exact b.elim
abbrev Qc(H:TH)(cs:List TV)(aw:List AV): Prop:=bO (Qh H) cs aw
theorem Qh.mkA{cs:List TV}{aw:List AV}(h:Qc H cs aw): Qh H (.agg cs)<|.agg aw:=.agg cs aw h.len λj c b a d=>h.at a d
theorem Qh.mkT{cs:List TV}{aw:List AV}(h:Qc H cs aw): Qh H (.tup cs)<|.tup aw:=.tup cs aw h.len λj c b a d=>h.at a d
theorem Qh.mkF{vi:Nat}{cs:List TV}{aw:List AV}(h:Qc H cs aw): Qh H (.fn vi cs)<|.fn vi aw:=.fn vi cs aw h.len λj c b a d=>h.at a d
theorem Qh.inA{cs:List TV}{a:AV}(h:Qh H (.agg cs) a): ∃aw,a=.agg aw/\Qc H cs aw:=by
 cases h with
 | p _ _ h=>cases h
 | agg _ aw c b=>exact⟨aw,rfl,bO.of c b⟩
theorem Qh.inT{cs:List TV}{a:AV}(h:Qh H (.tup cs) a): ∃aw,a=.tup aw/\Qc H cs aw:=by
 cases h with
 | p _ _ h=>cases h
 | tup _ aw c d=>exact⟨aw,rfl,bO.of c d⟩
theorem Qh.inF{vi:Nat}{cs:List TV}{a:AV}(h:Qh H (.fn vi cs) a): ∃aw,a=.fn vi aw/\Qc H cs aw:=by
 cases h with
 | p _ _ h=>cases h
 | fn _ _ aw c b=>exact⟨aw,rfl,bO.of c b⟩
def HM(H H':TH): Prop:=∀(id k:Nat) (l:List<|den k),H[id]?=some (.lst k l)->∃(k':Nat) (b:List<|den k'),H'[id]?=some (.lst k' b)/\b.length=l.length
theorem HM.r: HM H H:=λ_ k l h=>⟨k,l,h,rfl⟩
theorem Qh.mono(m:HM H H'){v:TV}{a:AV}(h:Qh H v a): Qh H' v a:=by
 induction h with
 | p v a h=>exact .p v a h
 | ms id k l h=>
  let⟨k',e,b,d⟩:=m id k l h;rw[<-d];exact .ms id k' e b
 | msn id n k l h=>
  let⟨k',e,b,d⟩:=m id k l h;rw[<-d];exact .msn id n k' e b
 | ptr id off=>exact .ptr id off
 | pel id i off k l h r u=>
  let⟨k',e,b,d⟩:=m id k l h;rw[<-d];exact .pel id i off k' e b r<|by omega
 | mp id=>exact .mp id
 | it id=>exact .it id
 | fn vi cs aw b _ c=>exact .fn vi cs aw b c
 | agg cs aw b _ c=>exact .agg cs aw b c
 | tup cs aw b _ c=>exact .tup cs aw b c
 | rs id n=>exact .rs id n
 | rel id n i off=>exact .rel id n i off
inductive ClO(n:Nat): cN->cN->Prop
 | r (a):ClO n a a
 | s (a b m):n<=m->ClO n a b->ClO n a (bT m b)
def Qo(H:TH): lO->cN->Prop
 | .box cs,o=>∃aw,o=.blk cs.length [aw]/\Qc H cs aw
 | .lst k l,o=>∃es,o=.blk (cds k).length es/\Ql k l es
 | .map _ b m,o=>∃rows,o=.mp (hY b m rows)/\Qm b m rows
 | .it s p,o=>o=.raw (.stringIter s p)
 | .rows s es,o=>∃aw,o=.blk s aw/\bO (Qc H) es aw
 | .gone,_=>True
 | .fr n a,o=>ClO n a o
theorem Qo.mono(m:HM H H'){o:lO}{b:cN}(h:Qo H o b): Qo H' o b:=by
 cases o with
 | box cs=>let⟨aw,a,c⟩:=h;exact⟨aw,a,c.imp λ_ _ h=>h.mono m⟩
 | rows s es=>let⟨aw,a,c⟩:=h;exact⟨aw,a,c.imp λ_ _ h=>h.imp λ_ _ h=>h.mono m⟩
 | _=>exact h
abbrev Qs(H:TH)(A:aM): Prop:=bO (Qo H) H A
theorem HM.set{id:Nat}{o:lO}(h:∀(k:Nat) (l:List<|den k),H[id]?=some (.lst k l)->∃(k':Nat) (a:List<|den k'),o=.lst k' a/\a.length=l.length): HM H<|H.set id o:=by
 intro i k l c;rw[List.getElem?_set];split
 .rename_i e;subst e;let⟨k',a,f,d⟩:=h k l c;have:=(List.getElem?_eq_some_iff.1 c).1;exact⟨k',a,by simp[this,f],d⟩
 .exact⟨k,l,c,rfl⟩
theorem HM.add{o:lO}: HM H<|H++[o]:=by
 intro i k l a;exact⟨k,l,by rw[List.getElem?_append_left (List.getElem?_eq_some_iff.1 a).1];exact a,rfl⟩
theorem Qs.add{A:aM}{o:lO}{b:cN}(h:Qs H A)(k:Qo (H++[o]) o b): Qs (H++[o])<|A++[b]:=
 (h.imp λ_ _ h=>h.mono HM.add).app ⟨k,trivial⟩
theorem Qs.set{A:aM}{id:Nat}{o:lO}{b:cN}(h:Qs H A)(m:HM H<|H.set id o)(k:Qo (H.set id o) o b): Qs (H.set id o)<|A.set id b:=
 (h.imp λ_ _ h=>h.mono m).set id k
structure Qt(N:Nat)(S:TS)(st:St): Prop where
 ln:st.tmps.length=N
 tm:∀(t:Nat) (v:TV),eD t S.tm=some v->∃a,st.tmps[t]?=some a/\Qh S.hp v a
 hp:Qs S.hp st.heap
theorem Qc.lits: ∀(vs:List Value),Qc H (vs.map .lit)<|vs.map .lit
 | []=>trivial
 | v::r=>⟨Qh.l v,Qc.lits r⟩
theorem SS: ∀{cs:List AV} {l:List TV},s7 cs=some l->Qr l cs
 | [],l,b=>by cases b;trivial
 | a::r,l,b=>by
  simp only[s7] at b;split at b
  .split at b
   .rename_i d c;cases b;exact⟨.lit _,SS c⟩
   .cases b
  .cases b
theorem Qt.get[aB]{N:Nat}{S:TS}{st:St}(h:Qt N S st)(x:aQ): Qh S.hp (bR S.tm x)<|aC st.tmps x:=by
 cases x with
 | tmp t=>
  simp only[bR,aC];cases b:eD t S.tm with
  | none=>exact Qh.u _
  | some v=>
   let⟨a,e,f⟩:=h.tm t v b;simp only[e];exact f
 | lit v=>exact Qh.l v
 | agg vs=>exact Qh.mkA<|Qc.lits vs
 | fn vi=>exact Qh.mkF trivial
 | glob g=>
  simp only[bR,aC];cases aB.tab g with
  | none=>exact Qh.u _
  | some cs=>
   simp only;split
   .rename_i l b;exact .p _ _<|Qp.mkR<|SS b
   .exact Qh.u _
theorem Qt.put{N:Nat}{S:TS}{st:St}(h:Qt N S st){d:Nat}{v:TV}{a:AV}(g:d<N)(q:Qh S.hp v a): Qt N ⟨(d,v)::S.tm,S.hp⟩ ⟨st.tmps.set d a,st.heap⟩:=by
 refine⟨by simp[h.ln],λt w c=>?_,h.hp⟩;simp only[eD] at c;split at c
 .rename_i e;have e:=Nat.eq_of_beq_eq_true e;cases c;subst e;exact⟨a,by simp[h.ln,g],q⟩
 .rename_i e;let⟨b,i,f⟩:=h.tm t w c;have e:¬d=t:=Nat.ne_of_beq_eq_false e;exact⟨b,by rw[List.getElem?_set_ne e];exact i,f⟩
theorem Qt.hpM{N:Nat}{S:TS}{st:St}(h:Qt N S st){H':TH}{A:aM}(m:HM S.hp H')(k:Qs H' A): Qt N ⟨S.tm,H'⟩ ⟨st.tmps,A⟩:=
 ⟨h.ln,λt v c=>(h.tm t v c).elim λa b=>⟨a,b.1,b.2.mono m⟩,k⟩
end
theorem mD{F:Nat->Type}{k k':Nat}{x:F k}{y:F k'}(h:Gx F x=some y): ∃e:k=k',y=e▸x:=by
 unfold Gx at h;split at h
 .rename_i e _;cases h;exact⟨e,rfl⟩
 .cases h
section
variable [cX]{H H':TH}{A:aM}
theorem Qx{a b a' b':Nat}{m:List<|den a×den b}{y:List<|den a'×den b'}(h:Xq m=some y): ∃(e:a=a') (d:b=b'),y=e▸d▸m:=by
 unfold Xq at h;split at h
 .rename_i e _;split at h
  .rename_i d _;cases h;exact⟨e,d,rfl⟩
  .cases h
 .cases h
theorem aBY{w kk a:Nat}{v:TV}{x:List<|den kk×den a}(h:rdM w H kk a v=some x): v=.rmp kk a x\/(v=.lit (.map none)/\x=[])\/(w=2/\ag a=false/\∃id,v=.mp id/\H[id]?=some (.map kk a x)):=by
 unfold rdM at h;split at h
 .let⟨e,b,h⟩:=Qx h;subst e;subst b;subst h;exact .inl rfl
 .split at h
  .split at h
   .cases h;exact .inr<|.inl ⟨rfl,rfl⟩
   .cases h
  .cases h
 .split at h
  .split at h
   .cases h
   .rename_i f;split at h
    .rename_i o d;split at h
     .let⟨e,b,h⟩:=Qx h;subst e;subst b;subst h;exact .inr<|.inr ⟨rfl,f,_,rfl,d⟩
     .cases h
    .cases h
  .cases h
 .cases h
theorem U0{w kk b:Nat}{v:TV}{x:List<|den kk×den b}{a:AV}(d:w≠2)(h:rdM w H kk b v=some x)(q:Qh H' v a): Qp (.rmp kk b x) a:=by
 rcases aBY h with rfl | ⟨rfl,rfl⟩ | ⟨e,_⟩
 .exact q.pu trivial
 .rw[q.inL];exact Qp.mkM (rows:=[]) (.inl ⟨rfl,rfl⟩) trivial
 .exact (d e).elim
theorem Zi{α:Type}(l:List α)(m:Option<|Nat×Nat): B7 l m=(l.drop (xQ l m).1).take (xQ l m).2:=by
 cases m with
 | none=>simp[B7,xQ]
 | some w=>rfl
theorem Qh.mw{id k:Nat}{l:List<|den k}{m:Option<|Nat×Nat}{a:AV}(q:Qh H (.ms id m) a)(d:H[id]?=some (.lst k l)): a=.ms id l.length (xQ l m).1 (xQ l m).2:=by
 cases q with
 | p _ _ q=>cases q
 | ms _ k' e b=>rw[d] at b;cases b;rfl
 | msn _ c k' e b=>rw[d] at b;cases b;rfl
theorem aFc{id k:Nat}{l:List<|den k}{m:Option<|Nat×Nat}(e:Qs H A)(c:H[id]?=some (.lst k l)):
 ∃es,rd A (.ms id l.length (xQ l m).1 (xQ l m).2)=some es/\Ql k (B7 l m) es:=by
 obtain⟨b,f,es,rfl,a⟩:=e.get c;refine⟨(es.drop (xQ l m).1).take (xQ l m).2,?_,?_⟩
 .simp only[rd,f,a.len,if_true]
 .rw[Zi];exact (a.drop _).take _
theorem Oe{w k:Nat}{v:TV}{l:List<|den k}{a:AV}(h:MG w H k v=some l)(q:Qh H v a)(p:w≠0->Qs H A):
 (∃es,((a=.lit aZ/\es=[])\/∃f,a=.sl f es)/\Ql k l es)\/(w=1/\∃es,((a=.lit aZ/\es=[])\/(∃f,a=.sl f es)\/a=.vw es)/\Ql k l es)\/(w≠0/\∃id tot o n es,a=.ms id tot o n/\rd A a=some es/\Ql k l es):=by
 unfold MG at h;split at h
 .let⟨e,h⟩:=mD h;subst e;subst h;exact .inl (q.pu trivial).inS
 .cases h;have:=q.pu trivial;cases this with
  | emp b a h=>
   refine .inl ⟨[],?_,trivial⟩;rcases h with h | h | ⟨_,h⟩
   .exact .inl ⟨h,rfl⟩
   .exact .inr ⟨_,h⟩
   .exact .inr ⟨_,h⟩
 .rename_i v;have e:=q.inL;subst e;split at h
  .split at h
   .split at h
    .split at h
     .cases h;exact .inl ⟨[],.inl ⟨rfl,rfl⟩,trivial⟩
     .cases h
    .cases h
   .cases h
  .cases h
 .split at h
  .let⟨e,h⟩:=mD h;subst e;subst h;exact .inr<|.inl ⟨rfl,(q.pu trivial).inV⟩
  .cases h
 .rename_i id m;split at h
  .cases h
  .rename_i d;split at h
   .rename_i o c;split at h
    .rename_i k' s;let⟨e,h⟩:=mD h;subst e;subst h;refine .inr<|.inr ⟨d,?_⟩;rw[q.mw c];obtain⟨es,r,j⟩:=aFc (p d) c;exact⟨_,_,_,_,es,rfl,r,j⟩
    .cases h
   .cases h
 .cases h
theorem WX{w k:Nat}{v:TV}{l:List<|den k}{a:AV}(h:MG w H k v=some l)(q:Qh H v a)(e:Qs H A): ∃es,rd A a=some es/\Ql k l es:=by
 rcases Oe h q (λ_=>e) with⟨es,c,b⟩ | ⟨_,es,c,b⟩ | ⟨_,id,tot,o,n,es,rfl,c,b⟩
 .rcases c with⟨rfl,rfl⟩ | ⟨f,rfl⟩
  .exact⟨_,rfl,b⟩
  .exact⟨_,rfl,b⟩
 .rcases c with⟨rfl,rfl⟩ | ⟨f,rfl⟩ | rfl
  .exact⟨_,rfl,b⟩
  .exact⟨_,rfl,b⟩
  .exact⟨_,rfl,b⟩
 .exact⟨es,c,b⟩
structure GH(g:AV->AV): Prop where
 l:∀v,g (.lit v)=.lit v\/g (.lit v)=sS v
 s:∀f es,∃f',g (.sl f es)=.sl f' es
 p:∀cs,g (.sptr cs)=.sptr cs
 m:∀e,g (.rmp e)=.rmp e
theorem nZ: GH vJ:=⟨λv=>.inr rfl,λf es=>⟨false,rfl⟩,λ_=>rfl,λ_=>rfl⟩
theorem Y5: GH nrm:=⟨λv=>.inr rfl,λf es=>⟨false,rfl⟩,λ_=>rfl,λ_=>rfl⟩
theorem SK(n:Nat): GH<|iE n:=⟨λv=>.inl rfl,λf es=>⟨f,rfl⟩,λ_=>rfl,λ_=>rfl⟩
theorem zE(B:aM)(n d:Nat): GH<|dZ B n d:=⟨λv=>.inr<|by cases d<;>rfl,λf es=>⟨false,by cases d<;>rfl⟩,λ_=>by cases d<;>rfl,λ_=>by cases d<;>rfl⟩
theorem GH.c{g:AV->AV}(m:GH g){c:Cd}{x:c.den}{b:AV}(h:Qp (c.tv x) b): Qp (c.tv x)<|g b:=by
 cases c with
 | int o=>cases h;rcases m.l (.int o x) with e | e<;>rw[e]<;>exact .lit _
 | bool=>cases h;rcases m.l (.bool x) with e | e<;>rw[e]<;>exact .lit _
 | str=>cases h;rcases m.l (.string x) with e | e<;>rw[e]<;>exact .lit _
 | sl k=>
  let⟨es,d,a⟩:=Qp.inS h;rcases d with⟨rfl,rfl⟩ | ⟨f,rfl⟩
  .rcases m.l aZ with e | e
   .rw[e];exact Qp.mkS (.inl ⟨rfl,rfl⟩) a
   .rw[e];exact Qp.mkS (.inr ⟨false,rfl⟩) a
  .let⟨q,e⟩:=m.s f es;rw[e];exact Qp.mkS (.inr ⟨q,rfl⟩) a
 | sptr k=>
  obtain⟨aw,rfl,a⟩:=Qp.inP h;rw[m.p];exact h
 | mp kk u=>
  let⟨rows,d,a⟩:=Qp.inM h;refine Qp.mkM ?_ a;rcases d with⟨rfl,d⟩ | rfl
  .exact .inl ⟨by rcases m.l (.map none) with e | e<;>rw[e];rfl,d⟩
  .exact .inr<|m.m _
 | any=>exact .undef _
theorem GH.r{g:AV->AV}(m:GH g): ∀{cs:List Cd} {p:Ik cs} {e:List AV},Qr (lN cs p) e->Qr (lN cs p) (e.map g)
 | [],_,[],_=>trivial
 | c::r,p,b::e,h=>⟨m.c h.1,m.r h.2⟩
theorem GH.ls{g:AV->AV}(m:GH g){k:Nat}{l:List<|den k}{es:List<|List AV}(h:Ql k l es): Ql k l<|es.map λe=>e.map g:=h.mapR λ_ _ h=>m.r h
theorem aHq{k:Nat}{v:TV}{l:List<|den k}(h:MG 0 H k v=some l): MG 0 H' k v=some l:=by cases v<;>exact h
theorem RH{w:Nat}{a:IntKind}{v:TV}{x:Int}(h:f9 w H (.int a) v=some x): v=.lit (.int a x):=by
 cases v with
 | lit u=>
  cases u with
  | int k n=>
   have h:(match decEq k a with | isTrue _=>some n | isFalse _=>none)=some x:=h;split at h
   .rename_i e _;cases h;rw[e]
   .cases h
  | _=>cases h
 | _=>cases h
theorem BV{w:Nat}{v:TV}{x:Bool}(h:f9 w H .bool v=some x): v=.lit (.bool x):=by
 cases v with
 | lit u=>
  cases u with
  | bool b=>cases h;rfl
  | _=>cases h
 | _=>cases h
theorem RF{w:Nat}{v:TV}{x:ByteArray}(h:f9 w H .str v=some x): v=.lit (.string x):=by
 cases v with
 | lit u=>
  cases u with
  | string b=>cases h;rfl
  | _=>cases h
 | _=>cases h
theorem RG{w k:Nat}{v:TV}{x:den k}(h:f9 w H (.sptr k) v=some x): v=.sptr k x:=by
 cases v with
 | sptr k' y=>
  let⟨e,h⟩:=mD (F:=den) (x:=y) (y:=x) h;subst e;subst h;rfl
 | _=>cases h
theorem rd0{c:Cd}{v:TV}{x:c.den}{a:AV}(h:f9 0 H c v=some x)(q:Qh H' v a): Qp (c.tv x) a:=by
 cases c with
 | int n=>have e:=RH h;subst e;rw[q.inL];exact .lit _
 | bool=>have e:=BV h;subst e;rw[q.inL];exact .lit _
 | str=>have e:=RF h;subst e;rw[q.inL];exact .lit _
 | sl k=>
  have h:MG 0 H k v=some x:=h;rcases Oe (A:=[]) (aHq h) q (λe=>(e rfl).elim) with⟨es,i,f⟩ | ⟨e,_⟩ | ⟨e,_⟩
  .exact Qp.mkS i f
  .cases e
  .exact (e rfl).elim
 | sptr k=>have e:=RG h;subst e;exact q.pu trivial
 | mp kk m=>exact U0 (w:=0) (H:=H) (by decide) h q
 | any=>exact .undef _
theorem aHs: ∀{cs:List Cd} {vs:List TV} {p:Ik cs} {aw:List AV},rdL 0 H cs vs=some p->Qc H' vs aw->Qr (lN cs p) aw
 | [],[],_,[],_,_=>trivial
 | c::r,v::vs,p,a::aw,h,q=>by
  simp only[rdL] at h;split at h
  .rename_i x b;split at h
   .rename_i p' d;cases h;exact⟨rd0 b q.1,aHs d q.2⟩
   .cases h
  .cases h
theorem iL{k:Nat}{vs:List TV}{x:den k}{aw:List AV}(h:jJ 0 H k vs=some x)(q:Qc H' vs aw): Qr (iH k x) aw:=by
 unfold jJ at h;split at h
 .rename_i p a;cases h;unfold iH;rw[cX.un_pk];exact aHs a q
 .cases h
theorem Qr.c{cs:List TV}{aw:List AV}(h:Qr cs aw): Qc H cs aw:=h.imp λ_ _ h=>.p _ _ h
theorem Zr{k:Nat}: ∀{vs:List<|List TV} {l:List<|den k} {es:List<|List AV},uB H k vs=some l->bO (Qc H') vs es->Ql k l es
 | [],_,[],h,_=>by cases h;trivial
 | v::vs,l,e::es,h,q=>by
  simp only[uB] at h;split at h
  .rename_i x a;split at h
   .rename_i d c;cases h;exact⟨iL a q.1,Zr c q.2⟩
   .cases h
  .cases h
theorem aB0{k:Nat}{x:den k}{aw:List AV}(h:Qr (iH k x) aw)(a:ag k=true): Qh H (val k x)<|.agg aw:=by
 unfold val;rw[a];exact Qh.mkA h.c
theorem aB1{k:Nat}{x:den k}{a:AV}(h:Qr (iH k x) [a])(e:ag k=false): Qh H (val k x) a:=by
 unfold val;rw[e];cases b:iH k x with
 | nil=>rw[b] at h;exact h.elim
 | cons c r=>rw[b] at h;exact .p _ _ h.1
theorem aHp{k:Nat}{v:TV}{x:den k}{a:AV}{H1:TH}(h:Zq 0 H k v=some x)(q:Qh H' v a): Qh H1 (val k x) a:=by
 unfold Zq at h;split at h
 .rename_i b;split at h
  .obtain⟨aw,rfl,q'⟩:=q.inA;exact aB0 (iL h q') b
  .cases h
 .rename_i b;exact aB1 (iL h (aw:=[a]) ⟨q,trivial⟩) b
end
section
variable [cX]{R:Type}{H:TH}{A:aM}{N:Nat}{S:TS}{st:St}{P:Program}{cf:CF}{op:xP}{K:TV->TS->Option R}{r:R}
theorem Nt{v:TV}{a:AV}{K:TV->Option R}(h:Ed v K=some r)(q:Qh H v a): ∃c,Qh H c a/\K c=some r:=by
 unfold Ed at h;split at h
 .split at h
  .rename_i b;have e:=q.inL;subst e;cases b with
   | true=>exact⟨_,q,h⟩
   | false=>exact⟨_,q,h⟩
  .exact⟨_,q,h⟩
 .exact⟨_,q,h⟩
theorem a7: ∀{vs:List TV} {aw:List AV} {K:List TV->Option R},Q8 vs K=some r->Qc H vs aw->∃b,Qc H b aw/\K b=some r
 | [],[],K,h,q=>⟨[],trivial,h⟩
 | v::vs,a::aw,K,h,q=>by
  let⟨c,d,h⟩:=Nt h q.1;let⟨b,e,h⟩:=a7 h q.2;exact⟨c::b,⟨d,e⟩,h⟩
theorem aBJ{v:TV}{K:TV->Option R}: Ed v K=K v:=by
 unfold Ed;split
 .split
  .rename_i b;cases b<;>rfl
  .rfl
 .rfl
theorem a8: ∀{vs:List TV} {K:List TV->Option R},Q8 vs K=K vs
 | [],K=>rfl
 | v::vs,K=>by simp only[Q8,aBJ];exact a8
theorem CS{cs:List TV}{aw:List AV}{agg:Bool}{off n:Nat}{K:TV->Option R}(h:Kx cs agg off n K=some r)(q:Qc H cs aw):
 off+n<=aw.length/\∃tv v,(if agg then some (AV.agg<|(aw.drop off).take n) else match (aw.drop off).take n with | [c]=>some c | _=>none)=some v/\Qh H tv v/\K tv=some r:=by
 unfold Kx at h;split at h
 .rename_i d;refine⟨by rw[q.len];exact Nat.le_of_ble_eq_true d,?_⟩;have q':=(q.drop off).take n;split at h
  .exact⟨_,_,rfl,Qh.mkA q',h⟩
  .split at h
   .rename_i c a;rw[a] at q';generalize (aw.drop off).take n=e at q' |-;match e,q' with
    | [b],q'=>exact⟨_,b,rfl,q'.1,h⟩
   .cases h
 .cases h
def cL[aB](P:Program)(cf:CF)(fl N:Nat)(op:xP)(st:St)(K:TV->TS->Option R)(r:R): Prop:=
 ∃v A' tv S',aI P cf fl op st.tmps st.heap=some (v,A')/\Qt N S' ⟨st.tmps,A'⟩/\Qh S'.hp tv v/\K tv S'=some r
theorem cL.same[aB]{fl:Nat}{v:AV}{tv:TV}(b:Qt N S st)(he:aI P cf fl op st.tmps st.heap=some (v,st.heap))(q:Qh S.hp tv v)(h:K tv S=some r): cL P cf fl N op st K r:=
 ⟨v,st.heap,tv,S,he,b,q,h⟩
theorem cL.add[aB]{fl:Nat}{v:AV}{tv:TV}{o:lO}{b:cN}(a:Qt N S st)(he:aI P cf fl op st.tmps st.heap=some (v,st.heap++[b]))(k:Qo (S.hp++[o]) o b)(q:Qh (S.hp++[o]) tv v)(h:K tv (Ai S o)=some r): cL P cf fl N op st K r:=
 ⟨v,_,tv,Ai S o,he,a.hpM HM.add<|a.hp.add k,q,h⟩
theorem cL.set[aB]{fl:Nat}{v:AV}{tv:TV}{id:Nat}{o:lO}{b:cN}(a:Qt N S st)(he:aI P cf fl op st.tmps st.heap=some (v,st.heap.set id b))(m:HM S.hp<|S.hp.set id o)(k:Qo (S.hp.set id o) o b)(q:Qh (S.hp.set id o) tv v)(h:K tv (gO S id o)=some r): cL P cf fl N op st K r:=
 ⟨v,_,tv,gO S id o,he,a.hpM m<|a.hp.set m k,q,h⟩
theorem Qs.ln(h:Qs H A): A.length=H.length:=bO.len h
theorem Qh.ptr1{id off:Nat}{a:AV}(h:Qh H (.ptr id off) a): a=.ptr id 1 0 off:=by
 cases h with
 | p _ _ h=>cases h
 | ptr=>rfl
theorem Qh.pel1{id off:Nat}{i:Int}{a:AV}(h:Qh H (.pel id i off) a): ∃k l,H[id]?=some (.lst k l)/\0<=i/\i.toNat<l.length/\a=.ptr id l.length i.toNat off:=by
 cases h with
 | p _ _ h=>cases h
 | pel _ _ _ k l e c d=>exact⟨k,l,e,c,d,rfl⟩
theorem Qh.rs1{id n:Nat}{a:AV}(h:Qh H (.rs id n) a): a=.ms id n 0 n:=by
 cases h with
 | p _ _ h=>cases h
 | rs=>rfl
theorem Qh.rel1{id n i off:Nat}{a:AV}(h:Qh H (.rel id n i off) a): a=.ptr id n i off:=by
 cases h with
 | p _ _ h=>cases h
 | rel=>rfl
theorem Qh.mp1{id:Nat}{a:AV}(h:Qh H (.mp id) a): a=.mp id:=by
 cases h with
 | p _ _ h=>cases h
 | mp=>rfl
theorem Qs.box(a:Qs H A){id:Nat}{cs:List TV}(h:H[id]?=some (.box cs)): ∃aw,A[id]?=some (.blk cs.length [aw])/\Qc H cs aw:=by
 obtain⟨b,c,aw,rfl,d⟩:=a.get h;exact⟨aw,c,d⟩
theorem Qs.lst(a:Qs H A){id k:Nat}{l:List<|den k}(h:H[id]?=some (.lst k l)): ∃es,A[id]?=some (.blk (cds k).length es)/\Ql k l es:=by
 obtain⟨b,d,es,rfl,e⟩:=a.get h;exact⟨es,d,e⟩
theorem T7{id n i:Nat}{cs:List TV}(f:Qs H A)(h:WT H id n i=some cs): ∃s es aw,A[id]?=some (.blk s es)/\es.length=n/\es[i]?=some aw/\Qc H cs aw:=by
 unfold WT at h;split at h
 .rename_i o a;split at h
  .split at h
   .rename_i e;have e:=Nat.eq_of_beq_eq_true e;obtain⟨b,c,aw,rfl,q⟩:=f.get a;let⟨r,g,d⟩:=q.get h;exact⟨_,aw,r,c,by rw[q.len];exact e,g,d⟩
   .cases h
  .cases h
 .cases h
theorem mC{k:Nat}(x:den k): (iH k x).length=(cds k).length:=by
 have:∀(cs:List Cd) (p:Ik cs),(lN cs p).length=cs.length:=by
  intro cs;induction cs with
  | nil=>intro p;rfl
  | cons c r d=>intro p;simp[lN,d]
 exact this _ _
theorem aF8[aB]{E:XE}{n m:Nat}{d:Option Nat}{agg:Bool}{x:aQ}(u:Qt N S st)(h:bY E n d (.load agg m x) S K=some r): cL P cf E.fl N (.load agg m x) st K r:=by
 have q:=u.get x;have g:∀{cs:List TV} {aw:List AV} {off:Nat} {a:AV},aC st.tmps x=a->(off+m<=aw.length->cJ st.heap a m=some ((aw.drop off).take m))->Qc S.hp cs aw->Kx cs agg off m (λv=>K v S)=some r->cL P cf E.fl N (.load agg m x) st K r:=by
  intro cs aw off a t f H G;let⟨p,tv,v,b,J,I⟩:=CS G H;refine cL.same u ?_ J I;simp only[aI,t,f p];cases agg with
  | true=>simp only[if_true,Option.some.injEq] at b |-;rw[b]
  | false=>
   simp only[Bool.false_eq_true,if_false] at b |-;split at b
   .rename_i L;rw[L];cases b;rfl
   .cases b
 simp only[bY] at h;split at h
 .rename_i id Q i off j;rw[j] at q;split at h
  .rename_i cs C;let⟨s,es,aw,w,D,F,B⟩:=T7 u.hp C;refine g q.rel1 (λf=>?_) B h;simp[cJ,w,D,F,f]
  .cases h
 .rename_i id off j;rw[j] at q;split at h
  .rename_i o z;split at h
   .let⟨aw,p,b⟩:=u.hp.box z;exact g q.ptr1 (λf=>by simp[cJ,p,f]) b h
   .cases h
  .cases h
 .rename_i cs j;rw[j] at q;let⟨aw,t,b⟩:=(q.pu trivial).inR;exact g (off:=0) t (λf=>by simp[cJ] at f |-;exact f) b.c h
 .rename_i k y j;rw[j] at q;let⟨aw,t,b⟩:=(q.pu trivial).inP;exact g (off:=0) t (λf=>by simp[cJ] at f |-;exact f) b.c h
 .rename_i id i off j;rw[j] at q;split at h
  .rename_i o z;split at h
   .rename_i k l;let⟨y,M,h⟩:=aV h;let⟨k',R,w,D,F,B⟩:=q.pel1;rw[z] at w;cases w;let⟨es,p,b⟩:=u.hp.lst z;let⟨_,A,_⟩:=kE M;let⟨e,he,O⟩:=b.get A;exact g B (λf=>by simp[cJ,p,b.len,he,f]) O.c h
   .cases h
  .cases h
 .cases h
theorem Ac{v:TV}{a:AV}{cs:List TV}(h:Vp v=some cs)(q:Qh H v a): ∃aw,cellsOf a=some aw/\Qc H cs aw:=by
 cases v with
 | agg vs=>
  cases h;obtain⟨aw,rfl,B⟩:=q.inA;exact⟨aw,rfl,B⟩
 | undef=>cases h
 | tup=>cases h
 | rptr=>cases h
 | lit u=>
  have h:(match aY u with | true=>some [TV.lit u] | false=>none)=some cs:=h;split at h
  .rename_i y;cases h;have e:=q.inL;subst e;exact⟨[.lit u],by simp[cellsOf,y],q,trivial⟩
  .cases h
 | emp b=>
  cases h;have q':=q.pu trivial;cases q' with
  | emp b a h=>rcases h with rfl | rfl | ⟨_,rfl⟩<;>exact⟨[_],rfl,q,trivial⟩
 | sl k l=>
  cases h;let⟨es,c,_⟩:=(q.pu trivial).inS;rcases c with⟨rfl,_⟩ | ⟨f,rfl⟩<;>exact⟨[_],rfl,q,trivial⟩
 | vw k l=>
  cases h;let⟨es,c,_⟩:=(q.pu trivial).inV;rcases c with⟨rfl,_⟩ | ⟨f,rfl⟩ | rfl<;>exact⟨[_],rfl,q,trivial⟩
 | slF k l=>
  cases h;let⟨es,c,_⟩:=(q.pu trivial).inE;rcases c with⟨rfl,_⟩ | rfl<;>exact⟨[_],rfl,q,trivial⟩
 | ms id n=>
  cases h;cases q with
  | p _ _ q=>cases q
  | ms _ k l h=>exact⟨[_],rfl,.ms _ k l h,trivial⟩
  | msn _ n k l h=>exact⟨[_],rfl,.msn _ n k l h,trivial⟩
 | ptr id off=>cases h;have e:=q.ptr1;subst e;exact⟨[_],rfl,q,trivial⟩
 | pel id i off=>cases h;let⟨k,l,_,_,_,e⟩:=q.pel1;subst e;exact⟨[_],rfl,q,trivial⟩
 | sptr k x=>cases h;let⟨aw,e,_⟩:=(q.pu trivial).inP;subst e;exact⟨[_],rfl,q,trivial⟩
 | rmp kk G m=>
  cases h;let⟨rows,c,_⟩:=(q.pu trivial).inM;rcases c with⟨rfl,_⟩ | rfl<;>exact⟨[_],rfl,q,trivial⟩
 | rs id n=>cases h;have e:=q.rs1;subst e;exact⟨[_],rfl,q,trivial⟩
 | rel id n i off=>cases h;have e:=q.rel1;subst e;exact⟨[_],rfl,q,trivial⟩
 | mp id=>
  cases h;cases q with
  | p _ _ q=>cases q
  | mp=>exact⟨[_],rfl,.mp _,trivial⟩
 | it id=>
  cases h;cases q with
  | p _ _ q=>cases q
  | it=>exact⟨[_],rfl,.it _,trivial⟩
 | fn vi cs=>
  cases h;obtain⟨aw,rfl,_⟩:=q.inF;exact⟨[_],rfl,q,trivial⟩
theorem aBC[aB]{E:XE}{n m:Nat}{d:Option Nat}{x v:aQ}(t:Qt N S st)(h:bY E n d (.store m x v) S K=some r): cL P cf E.fl N (.store m x v) st K r:=by
 have q:=t.get x;simp only[bY] at h;split at h
 .rename_i cs D;let⟨aw,J,w⟩:=Ac D<|t.get v;split at h
  .rename_i A;have A:=Nat.eq_of_beq_eq_true A;have f:aw.length=m:=by rw[w.len,A]
   split at h
   .rename_i id off B;rw[B] at q;have q:=q.ptr1;split at h
    .cases h
    rename_i a;have a:=Nat.le_of_ble_eq_true a;split at h
    .rename_i o j;split at h
     .rename_i z;split at h
      .rename_i p;have p:=Nat.le_of_ble_eq_true p;let⟨es,F,s⟩:=t.hp.box j;have g:off+aw.length<=es.length:=by rw[w.len,s.len];exact p
       have u:(aU z off cs).length=z.length:=by simp[aU];omega
       refine cL.set (o:=.box<|aU z off cs) (b:=.blk z.length [aU es off aw]) t ?_ (HM.set λk l e=>by rw[j] at e;cases e) ⟨aU es off aw,by rw[u],?_⟩ (Qh.l _) h
       .simp only[aI,J,f,if_true,q,eM,a,F,List.length_singleton,List.getElem?_cons_zero];rw[if_pos<|by rw[<-f];exact g];rfl
       .exact (s.spl w).imp λ_ _ h=>h.mono<|HM.set λk l e=>by rw[j] at e;cases e
      .cases h
     .cases h
    .cases h
   .rename_i id i off B;rw[B] at q;split at h
    .cases h
    rename_i a;have a:=Nat.le_of_ble_eq_true a;split at h
    .rename_i o j;split at h
     .rename_i k l;let⟨y,T,h⟩:=aV h;let⟨_,C,R⟩:=kE T;let⟨k',O,I,V,U,M⟩:=q.pel1;rw[j] at I;cases I;split at h
      .rename_i p;have p:=Nat.le_of_ble_eq_true p;split at h
       .rename_i Q G;let⟨es,F,s⟩:=t.hp.lst j;let⟨e,he,H⟩:=s.get C;have g:off+aw.length<=e.length:=by rw[w.len,H.len,mC];exact p
        refine cL.set (o:=.lst k<|l.set i.toNat Q) (b:=.blk (cds k).length<|es.set i.toNat<|aU e off aw) t ?_ (HM.set λk O e=>by rw[j] at e;cases e;exact⟨_,_,rfl,by simp⟩) ⟨es.set i.toNat<|aU e off aw,rfl,?_⟩ (Qh.l _) h
        .simp only[aI,J,f,if_true,M,eM,a,F,s.len,he];rw[if_pos<|by rw[<-f];exact g]
        .exact s.set _<|iL G<|H.c.spl w
       .cases h
      .cases h
     .cases h
    .cases h
   .cases h
  .cases h
 .cases h
end
section
variable [cX]{H H1:TH}{A:aM}
theorem Qp.w{k:Nat}{l:List<|den k}{a:AV}(h:Qp (.sl k l) a): Qp (.vw k l) a:=by
 let⟨es,b,c⟩:=h.inS;exact Qp.mkV (by rcases b with b | b;exact .inl b;exact .inr<|.inl b) c
theorem Qp.w1{c:Cd}{x:c.den}{a:AV}(h:Qp (c.tv x) a): Qp (Rx<|c.tv x) a:=by
 cases c with
 | sl k=>exact Qp.w h
 | _=>exact h
theorem LQ(c:Cd)(x:c.den): toW (c.tv x)=Rx (c.tv x):=by cases c<;>rfl
theorem EO{kk a:Nat}{m:List<|den kk×den a}{g d:AV->AV}(h:∀r,d (qF (ag a) r)=qF (ag a) (r.map g)){rows:List<|List AV}: ((hY a m rows).map λe=>(e.1,d e.2))=hY a m (rows.map λr=>r.map g):=by
 unfold hY;generalize m.map (λp=>pR kk p.1)=c;induction c generalizing rows with
 | nil=>rfl
 | cons v c i=>cases rows with
  | nil=>rfl
  | cons r rows=>simp only[List.map_cons,List.zip_cons_cons,h,i]
theorem rd1{c:Cd}{v:TV}{x:c.den}{a:AV}(h:f9 1 H c v=some x)(q:Qh H v a)(l:Qs H A): Qp (Rx<|c.tv x)<|lQ A a:=by
 cases c with
 | int p=>have e:=RH h;subst e;rw[q.inL];exact .lit _
 | bool=>have e:=BV h;subst e;rw[q.inL];exact .lit _
 | str=>have e:=RF h;subst e;rw[q.inL];exact .lit _
 | sl k=>
  have h:MG 1 H k v=some x:=h;rcases Oe h q (λ_=>l) with⟨es,d,b⟩ | ⟨_,es,d,b⟩ | ⟨_,id,tot,o,n,es,rfl,d,b⟩
  .rcases d with⟨rfl,rfl⟩ | ⟨f,rfl⟩
   .exact Qp.mkV (es:=[]) (.inr<|.inr rfl) b
   .exact Qp.mkV (.inr<|.inr rfl) b
  .rcases d with⟨rfl,rfl⟩ | ⟨f,rfl⟩ | rfl
   .exact Qp.mkV (es:=[]) (.inr<|.inr rfl) b
   .exact Qp.mkV (.inr<|.inr rfl) b
   .exact Qp.mkV (.inr<|.inr rfl) b
  .simp only[lQ,d];exact Qp.mkV (.inr<|.inr rfl)<|nZ.ls b
 | sptr k=>
  have e:=RG h;subst e;obtain⟨aw,rfl,b⟩:=(q.pu trivial).inP;exact Qp.mkP b
 | mp kk t=>
  let⟨rows,d,b⟩:=(U0 (w:=1) (H:=H) (by decide) h q).inM;rcases d with⟨rfl,d⟩ | rfl
  .exact Qp.mkM (.inl ⟨rfl,d⟩) b
  .exact Qp.mkM (.inr rfl) b
 | any=>exact .undef _
theorem aJH{c:Cd}{v:TV}{x:c.den}{a:AV}(h:f9 1 [] c v=some x)(q:Qh H v a): Qp (Rx<|c.tv x) a:=by
 cases c with
 | int B=>have e:=RH h;subst e;rw[q.inL];exact .lit _
 | bool=>have e:=BV h;subst e;rw[q.inL];exact .lit _
 | str=>have e:=RF h;subst e;rw[q.inL];exact .lit _
 | sl k=>
  have h:MG 1 [] k v=some x:=h;have p:MG 1 H k v=some x/\∀id n,v≠.ms id n:=by
   cases v with
   | ms id n=>cases h
   | _=>exact⟨h,λ_ _ e=>by cases e⟩
  cases v with
  | ms id n=>exact (p.2 _ _ rfl).elim
  | vw k' l=>
   let⟨e,h⟩:=mD (F:=λk=>List<|den k) (x:=l) (y:=x) h;subst e;subst h;exact q.pu trivial
  | sl k' l=>
   let⟨e,h⟩:=mD (F:=λk=>List<|den k) (x:=l) (y:=x) h;subst e;subst h;exact (q.pu trivial).w
  | emp b=>exact (rd0 (c:=.sl k) (H:=[]) (v:=.emp b) (x:=x) (show MG 0 [] k (.emp b)=some x from h) q).w
  | lit u=>exact (rd0 (c:=.sl k) (H:=[]) (v:=.lit u) (x:=x) (show MG 0 [] k (.lit u)=some x from h) q).w
  | _=>cases h
 | sptr k=>have e:=RG h;subst e;exact q.pu trivial
 | mp kk A=>
  exact U0 (w:=1) (H:=[]) (by decide) h q
 | any=>exact .undef _
theorem rd2{c:Cd}{v:TV}{x:c.den}{a:AV}(h:f9 2 H c v=some x)(q:Qh H v a)(m:Qs H A): Qp (c.tv x)<|gC A 0 a:=by
 cases c with
 | int D=>have e:=RH h;subst e;rw[q.inL];exact .lit _
 | bool=>have e:=BV h;subst e;rw[q.inL];exact .lit _
 | str=>have e:=RF h;subst e;rw[q.inL];exact .lit _
 | sl k=>
  have h:MG 2 H k v=some x:=h;rcases Oe h q (λ_=>m) with⟨es,i,d⟩ | ⟨e,_⟩ | ⟨_,id,tot,o,n,es,rfl,i,d⟩
  .rcases i with⟨rfl,rfl⟩ | ⟨f,rfl⟩
   .exact Qp.mkS (es:=[]) (.inr ⟨_,rfl⟩) d
   .exact Qp.mkS (.inr ⟨_,rfl⟩) d
  .cases e
  .simp only[gC,Nat.not_lt_zero,if_false,eZ,dZ,Nat.zero_le,if_true,i];exact Qp.mkS (.inr ⟨_,rfl⟩)<|(zE A 0 5).ls d
 | sptr k=>
  have e:=RG h;subst e;obtain⟨aw,rfl,d⟩:=(q.pu trivial).inP;exact Qp.mkP d
 | mp kk j=>
  have h:rdM 2 H kk j v=some x:=h;rcases aBY h with rfl | ⟨rfl,rfl⟩ | ⟨_,t,id,rfl,i⟩
  .let⟨rows,i,d⟩:=(q.pu trivial).inM;rcases i with⟨rfl,i⟩ | rfl
   .exact Qp.mkM (.inl ⟨rfl,i⟩) d
   .exact Qp.mkM (.inr rfl) d
  .rw[q.inL];exact Qp.mkM (rows:=[]) (.inl ⟨rfl,rfl⟩) trivial
  .obtain⟨b,y,rows,rfl,d⟩:=m.get i;have e:a=.mp id:=by
    cases q with
    | p _ _ q=>cases q
    | mp=>rfl
   subst e;simp only[gC,Nat.not_lt_zero,if_false,eZ,dZ,Nat.zero_le,if_true,y];have u:Qm j x<|rows.map λr=>r.map<|dZ A 0 5:=d.mapR λ_ _ h=>(zE A 0 5).r h;refine Qp.mkM (.inr<|congrArg _<|EO (g:=dZ A 0 5) λr=>?_) u;rw[t];cases r<;>rfl
 | any=>cases h
theorem rdn{c:Cd}{v:TV}{x:c.den}{a:AV}(h:f9 0 H c v=some x)(q:Qh H1 v a): Qp (c.tv x) (nrm a)/\Bj a=true:=by
 have b:=rd0 h q;refine⟨Y5.c b,?_⟩;cases c with
 | int=>cases b;rfl
 | bool=>cases b;rfl
 | str=>cases b;rfl
 | sl k=>
  let⟨es,d,_⟩:=Qp.inS b;rcases d with⟨rfl,_⟩ | ⟨f,rfl⟩<;>rfl
 | sptr k=>obtain⟨aw,rfl,_⟩:=Qp.inP b;rfl
 | mp kk n=>let⟨rows,d,_⟩:=Qp.inM b;rcases d with⟨rfl,_⟩ | rfl<;>rfl
 | any=>cases h
theorem aDY{w:Nat}{e:TH}{f:TV->TV}{g:AV->AV}{G:AV->Prop}(k:∀{c:Cd} {v:TV} {x:c.den} {a:AV},f9 w e c v=some x->Qh H v a->Qp (f<|c.tv x) (g a)/\G a):
 ∀{cs:List Cd} {vs:List TV} {p:Ik cs} {aw:List AV},rdL w e cs vs=some p->Qc H vs aw->Qr ((lN cs p).map f) (aw.map g)/\∀a∈aw,G a
 | [],[],_,[],_,_=>⟨trivial,λ_ h=>by cases h⟩
 | c::r,v::vs,p,a::aw,h,q=>by
  simp only[rdL] at h;split at h
  .rename_i x i;split at h
   .rename_i p' n;cases h;let⟨l,o⟩:=k i q.1;let⟨j,m⟩:=aDY k n q.2;exact⟨⟨l,j⟩,λb d=>by
     rcases List.mem_cons.1 d with rfl | d
     .exact o
     .exact m b d⟩
   .cases h
  .cases h
theorem MH{w:Nat}{a:TH}{v:TV}: ∀{cs:List Cd} {p:Ik cs},rdL w a cs [v]=some p->∃(c:Cd) (y:c.den),hdT (lN cs p)=c.tv y/\f9 w a c v=some y
 | [],p,h=>by cases h
 | c::r,p,h=>by
  simp only[rdL] at h;split at h
  .rename_i y b;split at h
   .cases h;exact⟨c,y,rfl,b⟩
   .cases h
  .cases h
theorem f6{w:Nat}{d:TH}{f:TV->TV}{g:AV->AV}{G:AV->Prop}(k:∀{c:Cd} {v:TV} {x:c.den} {a:AV},f9 w d c v=some x->Qh H v a->Qp (f<|c.tv x) (g a)/\G a){kd:Nat}{v:TV}{x:den kd}{a:AV}(h:Zq w d kd v=some x)(q:Qh H v a):
 (∃aw,a=.agg aw/\val kd x=.agg (iH kd x)/\Qr ((iH kd x).map f) (aw.map g)/\∀b∈aw,G b)\/(∃(c:Cd) (y:c.den),val kd x=c.tv y/\Qp (f<|c.tv y) (g a)/\G a/\f9 w d c v=some y):=by
 have s:∀{vs:List TV} {aw:List AV} {x:den kd},jJ w d kd vs=some x->Qc H vs aw->Qr ((iH kd x).map f) (aw.map g)/\∀b∈aw,G b:=by
  intro vs aw x h q;unfold jJ at h;split at h
  .rename_i p j;cases h;unfold iH;rw[cX.un_pk];exact aDY k j q
  .cases h
 unfold Zq at h;split at h
 .rename_i m;split at h
  .obtain⟨aw,rfl,q'⟩:=q.inA;let⟨i,l⟩:=s h q';exact .inl ⟨aw,rfl,by unfold val;rw[m],i,l⟩
  .cases h
 .rename_i m;right;unfold jJ at h;split at h
  .rename_i p j;cases h;have t:val kd (cX.pk kd p)=hdT (lN (cds kd) p):=by
    unfold val iH;rw[m,cX.un_pk]
   rw[t];let⟨c,y,e,o⟩:=MH j;let⟨i,l⟩:=k o q;exact⟨c,y,e,i,l,o⟩
  .cases h
theorem aB5(c:Cd)(x:c.den): Rx (c.tv x)=.undef\/(∀a,Qp (Rx<|c.tv x) a->a≠.undef/\∀l,a≠.agg l):=by
 cases c with
 | int=>right;intro a h;cases h;exact⟨(by intro e;cases e),(by intro l e;cases e)⟩
 | bool=>right;intro a h;cases h;exact⟨(by intro e;cases e),(by intro l e;cases e)⟩
 | str=>right;intro a h;cases h;exact⟨(by intro e;cases e),(by intro l e;cases e)⟩
 | sl k=>
  right;intro a h;let⟨es,b,_⟩:=Qp.inV h;rcases b with⟨rfl,_⟩ | ⟨f,rfl⟩ | rfl<;>exact⟨(by intro e;cases e),(by intro l e;cases e)⟩
 | sptr k=>right;intro a h;obtain⟨aw,rfl,_⟩:=Qp.inP h;exact⟨(by intro e;cases e),(by intro l e;cases e)⟩
 | mp=>right;intro a h;let⟨rows,b,_⟩:=Qp.inM h;rcases b with⟨rfl,_⟩ | rfl<;>exact⟨(by intro e;cases e),(by intro l e;cases e)⟩
 | any=>left;rfl
theorem aJE{k:Nat}{v:TV}{x:den k}{a:AV}(h:Zq 1 H k v=some x)(q:Qh H v a)(i:Qs H A): Qh H1 (toW<|val k x)<|eK A a:=by
 rcases f6 (G:=λ_=>True) (f:=Rx) (g:=lQ A) (λh q=>⟨rd1 h q i,trivial⟩) h q with⟨aw,rfl,d,b,_⟩ | ⟨c,y,d,b,_,_⟩
 .rw[d];exact Qh.mkA b.c
 .rw[d,LQ];rcases aB5 c y with e | e
  .rw[e];exact Qh.u _
  .cases a with
   | agg cs=>exact ((e _ b).1 rfl).elim
   | _=>exact .p _ _ b
theorem aHo{k:Nat}{v:TV}{x:den k}{a:AV}(h:Zq 1 [] k v=some x)(q:Qh H v a): Qh H1 (toW<|val k x) a:=by
 rcases f6 (G:=λ_=>True) (f:=Rx) (g:=id) (λh q=>⟨aJH h q,trivial⟩) h q with⟨aw,rfl,d,b,_⟩ | ⟨c,y,d,b,_,_⟩
 .rw[d];rw[List.map_id] at b;exact Qh.mkA b.c
 .rw[d,LQ];exact .p _ _ b
theorem aJ5{k:Nat}{x:den k}{a:AV}(q:Qh H (val k x) a): Qh H (toW<|val k x) a:=by
 have f:∀(c:Cd) (y:c.den) {b:AV},Qh H (c.tv y) b->Qh H (Rx<|c.tv y) b:=by
  intro c y b q;cases c with
  | sl k=>exact .p _ _ (q.pu trivial).w
  | _=>exact q
 have cs:∀(cs:List Cd) (p:Ik cs) {aw:List AV},Qc H (lN cs p) aw->Qc H ((lN cs p).map Rx) aw:=by
  intro cs;induction cs with
  | nil=>intro p aw q;exact q
  | cons c r i=>
   intro p aw q;cases aw with
   | nil=>exact q.elim
   | cons b aw=>exact⟨f c p.1 q.1,i p.2 q.2⟩
 unfold val at q |-;split
 .rename_i d;simp only[d] at q;obtain⟨aw,rfl,g⟩:=q.inA;exact Qh.mkA<|cs _ _ g
 .rename_i d;simp only[d] at q;unfold iH at q |-;generalize cX.un k x=p at q |-;generalize cds k=l at p q |-;cases l with
  | nil=>exact Qh.u _
  | cons c r=>
   have e:toW (hdT<|lN (c::r) p)=Rx (c.tv p.1):=LQ c p.1;rw[e];exact f c p.1 q
theorem aFd{n:TH}{k:Nat}{v:TV}{x:den k}{a:AV}(h:Zq 0 n k v=some x)(q:Qh H v a): Qh H1 (val k x) (Om a)/\pO a=true:=by
 rcases f6 (G:=λa=>Bj a=true) (f:=λv=>v) (g:=nrm) (λh q=>rdn h q) h q with⟨aw,rfl,i,e,d⟩ | ⟨c,y,i,e,d,_⟩
 .rw[i];rw[show (iH k x).map (λv=>v)=iH k x from List.map_id _] at e;refine⟨Qh.mkA e.c,?_⟩;show Ey aw=true;clear e q h;induction aw with
  | nil=>rfl
  | cons b r m=>simp only[Ey,d b List.mem_cons_self];exact m λb j=>d b<|List.mem_cons_of_mem _ j
 .rw[i];cases a with
  | agg cs=>cases d
  | _=>exact⟨.p _ _ e,d⟩
theorem aJD{k:Nat}{v:TV}{x:den k}{a:AV}(h:Zq 2 H k v=some x)(q:Qh H v a)(w:Qs H A): Qh H1 (val k x) (dS A 0 a)/\∀l,a≠.tup l:=by
 rcases f6 (G:=λ_=>True) (f:=λv=>v) (g:=gC A 0) (λh q=>⟨rd2 h q w,trivial⟩) h q with⟨aw,rfl,d,i,_⟩ | ⟨c,y,d,i,_,r⟩
 .rw[d];rw[show (iH k x).map (λv=>v)=iH k x from List.map_id _] at i;exact⟨Qh.mkA i.c,λl e=>by cases e⟩
 .rw[d];have s:c≠.any:=by rintro rfl;cases r
  have n:∀b,Qp (c.tv y) b->b≠.undef:=by
   intro b m e;subst e;cases c with
   | any=>exact s rfl
   | sl k=>let⟨es,d,_⟩:=Qp.inS m;rcases d with⟨h,_⟩ | ⟨f,h⟩<;>cases h
   | mp=>let⟨rows,d,_⟩:=Qp.inM m;rcases d with⟨h,_⟩ | h<;>cases h
   | _=>cases m
  cases a with
  | agg cs=>exact (n _ i rfl).elim
  | tup cs=>exact (n _ i rfl).elim
  | _=>exact⟨.p _ _ i,λl e=>by cases e⟩
def aIC[aB](P:Program)(T:List bK)(vi:Nat)(c:ZN): Prop:=∀n p r,c.F n p=some r->∀aw,Qc [] (Dh c.ka p) aw->
 ∃vs a A H,dK P T n 0 vi aw []=some (eH a,A)/\Qs H A/\Qc H vs a/\yA 2 H (c.kr.map .v) vs=some r/\(c.kp=true->Ww H vs=true)
def aI8(A:aM)(vs:List TV)(aw:List AV): Prop:=∀k y b,vs=.sl k y::b->∃a d rows,aw=a::d/\Wi (cds k).length A a=some rows/\Ql k y rows
def PG[aB](P:Program)(T:List bK)(vi:Nat)(c:ZN): Prop:=∀n p r,c.F n p=some r->∀aw,Qc [] (Dh c.ka p) aw->
 ∃b A,dK P T n 0 vi aw []=some (eH b,A)/\(∀H1:TH,Qc H1 (Dh (c.kr.map .v) r)<|b.map<|dS A 0)/\(∀a∈b,∀l,a≠.tup l)/\(c.kp=true->aI8 A (Dh (c.kr.map .v) r) b)
theorem MF{w:Nat}{e:TH}{g:AV->AV}{G:AV->Prop}: ∀{c:List Sh} (k:∀s∈c,∀{v:TV} {x:s.den} {a:AV},s.rd w e v=some x->Qh H v a->Qh H1 (s.tv x) (g a)/\G a)
 {vs:List TV} {p:fJ c} {aw:List AV},yA w e c vs=some p->Qc H vs aw->Qc H1 (Dh c p) (aw.map g)/\∀a∈aw,G a
 | [],_,[],_,[],_,_=>⟨trivial,λ_ h=>by cases h⟩
 | kd::c,_,[],p,aw,h,_=>by cases h
 | [],_,v::vs,p,aw,h,_=>by cases h
 | kd::c,k,v::vs,p,a::aw,h,q=>by
  simp only[yA] at h;split at h
  .rename_i x r;split at h
   .rename_i p' j;cases h;let⟨i,m⟩:=k kd List.mem_cons_self r q.1;let⟨n,l⟩:=MF (λs o=>k s<|List.mem_cons_of_mem _ o) j q.2;have f:fJ.hd (fJ.cs x p')=x:=by cases c<;>rfl
    have e2:fJ.tl (fJ.cs x p')=p':=by cases c<;>rfl
    refine⟨?_,λb d=>by
     rcases List.mem_cons.1 d with rfl | d
     .exact m
     .exact l b d⟩
    simp only[Dh,f,e2];exact⟨i,n⟩
   .cases h
  .cases h
end
section
variable [cX]{R:Type}{H H1:TH}{A:aM}{N:Nat}{S:TS}{st:St}{P:Program}{T:List bK}{cf:CF}{op:xP}{K:TV->TS->Option R}{r:R}{E:XE}{n:Nat}{d:Option Nat}
theorem MT{v:TV}{a:AV}(q:Qh H v a)(G:∀cs,v≠.agg cs): Qh H (o6 v)<|nrm a:=by
 cases v with
 | lit u=>
  have e:=q.inL;subst e;cases u with
  | slice o l c=>
   cases o with
   | some o=>exact Qh.u _
   | none=>
    cases l with
    | succ l=>exact Qh.u _
    | zero=>
     cases c with
     | succ c=>exact Qh.u _
     | zero=>exact .p _ _<|.emp _ _<|.inr<|.inr ⟨rfl,rfl⟩
  | _=>exact q
 | emp b=>
  cases (q.pu trivial) with
  | emp _ _ h=>rcases h with rfl | rfl | ⟨_,rfl⟩<;>exact .p _ _ (.emp _ _<|.inr<|.inr ⟨rfl,rfl⟩)
 | sl k l=>
  let⟨es,d,g⟩:=(q.pu trivial).inS;rcases d with⟨rfl,rfl⟩ | ⟨f,rfl⟩<;>exact .p _ _ (Qp.mkS (.inr ⟨_,rfl⟩) g)
 | vw k l=>
  let⟨es,d,g⟩:=(q.pu trivial).inV;rcases d with⟨rfl,rfl⟩ | ⟨f,rfl⟩ | rfl
  .exact .p _ _<|Qp.mkV (.inr<|.inl ⟨_,rfl⟩) g
  .exact .p _ _<|Qp.mkV (.inr<|.inl ⟨_,rfl⟩) g
  .exact q
 | slF k l=>
  let⟨es,d,g⟩:=(q.pu trivial).inE;rcases d with⟨rfl,rfl⟩ | rfl<;>exact .p _ _ (Qp.mkS (.inr ⟨_,rfl⟩) g)
 | undef=>exact Qh.u _
 | agg cs=>exact (G cs rfl).elim
 | rptr cs=>obtain⟨aw,rfl,_⟩:=(q.pu trivial).inR;exact q
 | sptr k x=>obtain⟨aw,rfl,_⟩:=(q.pu trivial).inP;exact q
 | ptr=>have e:=q.ptr1;subst e;exact q
 | pel=>let⟨_,_,_,_,_,e⟩:=q.pel1;subst e;exact q
 | fn vi cs=>obtain⟨aw,rfl,_⟩:=q.inF;exact q
 | tup cs=>obtain⟨aw,rfl,_⟩:=q.inT;exact q
 | rmp=>
  let⟨rows,d,_⟩:=(q.pu trivial).inM;rcases d with⟨rfl,_⟩ | rfl<;>exact q
 | rs=>have e:=q.rs1;subst e;exact q
 | rel=>have e:=q.rel1;subst e;exact q
 | ms id m=>
  cases q with
  | p _ _ q=>cases q
  | ms _ k l h=>exact .ms _ k l h
  | msn _ n k l h=>exact .msn _ n k l h
 | mp=>cases q with
  | p _ _ q=>cases q
  | mp=>exact .mp _
 | it=>cases q with
  | p _ _ q=>cases q
  | it=>exact .it _
theorem aHC[aB]{x:aQ}(a:Qt N S st)(h:bY E n d (.mov x) S K=some r): cL P cf E.fl N (.mov x) st K r:=cL.same a rfl (a.get x) h
theorem aFn[aB]{c x y:aQ}(a:Qt N S st)(h:bY E n d (.pick c x y) S K=some r): cL P cf E.fl N (.pick c x y) st K r:=by
 have q:=a.get c;simp only[bY] at h;split at h
 .rename_i u f;rw[f] at q;have e:=q.inL;split at h
  .rename_i b;cases b with
   | true=>exact cL.same a (by simp only[aI,e,if_true]) (a.get x) h
   | false=>exact cL.same a (by simp only[aI,e];rfl) (a.get y) h
  .cases h
 .cases h
theorem aDF[aB]{z:List Value}(a:Qt N S st)(h:bY E n d (.alloc z) S K=some r): cL P cf E.fl N (.alloc z) st K r:=by
 have c:=a.hp.ln;exact cL.add (v:=.ptr st.heap.length 1 0 0) (o:=.box<|z.map .lit) (b:=.blk z.length [z.map .lit]) a rfl ⟨z.map .lit,by simp,Qc.lits z⟩ (by rw[c];exact .ptr _ _) h
theorem aDv[aB]{s:Nat}(a:Qt N S st)(h:bY E n d (.claim s) S K=some r): cL P cf E.fl N (.claim s) st K r:=by
 have c:=a.hp.ln;simp only[bY] at h;split at h
 .rename_i e;have e:=Nat.eq_of_beq_eq_true e;refine cL.add (v:=.ms st.heap.length 0 0 0) (o:=.lst (gU E d) []) (b:=.blk s []) a rfl ⟨[],by rw[e],trivial⟩ (by rw[c];have w:O2 E d=none\/O2 E d=some (0,0):=(by unfold O2;split;split;exact .inr rfl;exact .inl rfl;exact .inl rfl);exact w.elim (λw=>by rw[w];exact .ms _ (gU E d) [] (by simp)) λw=>by rw[w];exact .msn _ (0,0) (gU E d) [] (by simp)) h
 .cases h
theorem aIu[aB]{x:aQ}(c:Qt N S st)(h:bY E n d (.box x) S K=some r): cL P cf E.fl N (.box x) st K r:=by
 have g:=c.hp.ln;simp only[bY] at h;split at h
 .rename_i cs a;let⟨aw,f,e⟩:=Ac a<|c.get x;exact cL.add (v:=.ptr st.heap.length 1 0 0) (o:=.box cs) (b:=.blk aw.length [aw]) c (by simp only[aI,f]) ⟨aw,by rw[e.len],e.imp λ_ _ h=>h.mono HM.add⟩ (by rw[g];exact .ptr _ _) h
 .cases h
theorem EI[aB](f:Qt N S st): ∀{b:List<|Nat×Nat×aQ} {cs cs':List TV} {aw:List AV},TX cs (b.map λ(o,s,x)=>(o,s,bR S.tm x))=some cs'->Qc S.hp cs aw->
 ∃a,Ct aw (b.map λ(o,s,x)=>(o,s,aC st.tmps x))=some a/\Qc S.hp cs' a
 | [],cs,cs',aw,h,q=>by cases h;exact⟨aw,rfl,q⟩
 | (o,s,x)::b,cs,cs',aw,h,q=>by
  simp only[List.map_cons,TX] at h;split at h
  .cases h
  .rename_i vs c;let⟨k,j,d⟩:=Ac c<|f.get x;split at h
   .rename_i e;have e:=Nat.eq_of_beq_eq_true e;split at h
    .rename_i e2;have e2:=Nat.le_of_ble_eq_true e2;let⟨a,g,i⟩:=EI f h<|q.spl d;refine⟨a,?_,i⟩;simp only[List.map_cons,Ct,j];rw[if_pos ⟨by rw[d.len,e],by rw[q.len];exact e2⟩];exact g
    .cases h
   .cases h
theorem aD7[aB]{z:List Value}{c:List<|Nat×Nat×aQ}(b:Qt N S st)(h:bY E n d (.build z c) S K=some r): cL P cf E.fl N (.build z c) st K r:=by
 simp only[bY] at h;split at h
 .rename_i cs a;let⟨aw,e,f⟩:=EI b a<|Qc.lits z;exact cL.same b (by simp only[aI,e]) (Qh.mkA f) h
 .cases h
theorem TY[aB]{s:Nat}(f:Qt N S st): ∀{b:List<|Nat×aQ} {cs cs':List<|List TV} {aw:List<|List AV},v8 s cs (b.map λ(i,x)=>(i,bR S.tm x))=some cs'->bO (Qc S.hp) cs aw->
 ∃a,Ga s aw (b.map λ(i,x)=>(i,aC st.tmps x))=some a/\bO (Qc S.hp) cs' a/\cs'.length=cs.length
 | [],cs,cs',aw,h,q=>by cases h;exact⟨aw,rfl,q,rfl⟩
 | (i,x)::b,cs,cs',aw,h,q=>by
  simp only[List.map_cons,v8] at h;split at h
  .cases h
  .rename_i vs c;let⟨m,l,d⟩:=Ac c<|f.get x;split at h
   .rename_i e;have e:=Nat.eq_of_beq_eq_true e;split at h
    .rename_i e2;have e2:i<cs.length:=by simpa [Nat.blt_eq] using e2
     let⟨a,g,j,k⟩:=TY f h<|q.set i d;refine⟨a,?_,j,by rw[k];simp⟩;simp only[List.map_cons,Ga,l];rw[if_pos ⟨by rw[d.len,e],by rw[q.len];exact e2⟩];exact g
    .cases h
   .cases h
theorem L3[aB]{pu:Bool}{s m:Nat}{z:List Value}{i:List<|Nat×aQ}(a:Qt N S st)(h:bY E n d (.buildSl pu s m z i) S K=some r): cL P cf E.fl N (.buildSl pu s m z i) st K r:=by
 have q:=a.hp.ln;simp only[bY] at h;split at h
 .rename_i es j;let⟨aw,k,f,u⟩:=TY a j<|bO.rep (Qc.lits z) m;split at h
  .split at h
   .cases h
   .exact cL.add (v:=.ms st.heap.length m 0 m) (o:=.rows s es) (b:=.blk s aw) a (by simp only[aI,k,Bool.false_eq_true,if_false]) ⟨aw,rfl,f.imp λ_ _ h=>h.imp λ_ _ h=>h.mono HM.add⟩ (by rw[q];exact .rs _ _) h
  split at h
  .rename_i l c;have g:=Zr c f;split at h
   .rename_i e;have e:=Nat.eq_of_beq_eq_true e;have t:l.length=m:=by rw[<-g.len,f.len,u];simp
    cases pu with
    | true=>
     simp only at h;have he:aI P cf E.fl (.buildSl true s m z i) st.tmps st.heap=some (.sl true<|aw.map λe=>e.map vJ,st.heap):=by simp only[aI,k,if_true]
     split at h
     .cases aw with
      | nil=>exact cL.same a he (.p _ _<|.emp _ _<|.inr<|.inl rfl) h
      | cons=>exact f.elim
     .exact cL.same a he (.p _ _<|Qp.mkS (.inr ⟨_,rfl⟩)<|nZ.ls g) h
    | false=>
     exact cL.add (v:=.ms st.heap.length m 0 m) (o:=.lst (gU E d) l) (b:=.blk s aw) a (by simp only[aI,k,Bool.false_eq_true,if_false]) ⟨aw,by rw[e],g⟩ (by rw[q,<-t];exact .ms _ (gU E d) l<|by simp) h
   .cases h
  .cases h
 .cases h
theorem XP[aB]{x:aQ}(b:Qt N S st)(h:bY E n d (.nilCheck x) S K=some r): cL P cf E.fl N (.nilCheck x) st K r:=by
 have q:=b.get x;simp only[bY] at h;split at h
 .rename_i a;rw[a] at q;exact cL.same b (by simp only[aI,q.ptr1]) (q.ptr1▸q) h
 .rename_i a;rw[a] at q;let⟨_,_,_,_,_,e⟩:=q.pel1;exact cL.same b (by simp only[aI,e]) (e▸q) h
 .rename_i a;rw[a] at q;let⟨aw,e,_⟩:=(q.pu trivial).inR;exact cL.same b (by simp only[aI,e]) (e▸q) h
 .rename_i a;rw[a] at q;let⟨aw,e,_⟩:=(q.pu trivial).inP;exact cL.same b (by simp only[aI,e]) (e▸q) h
 .rename_i a;rw[a] at q;let⟨aw,e,_⟩:=q.inF;exact cL.same b (by simp only[aI,e]) (e▸q) h
 .cases h
theorem aFL{o:BinOp}{k:IntKind}{a b:Int}{K:TV->Option R}(h:aHK o k a b K=some r): ∃v tv,KB o k a b=some v/\Qh H tv (.lit v)/\K tv=some r:=by
 have d:∀{c:Bool},Ed (.lit<|.bool c) K=some r->∃v tv,some (Value.bool c)=some v/\Qh H tv (.lit v)/\K tv=some r:=by
  intro c h;let⟨q,i,n⟩:=Nt h<|Qh.l (H:=H)<|.bool c;exact⟨_,q,rfl,i,n⟩
 cases o with
 | add=>exact⟨_,_,rfl,Qh.l _,h⟩
 | sub=>exact⟨_,_,rfl,Qh.l _,h⟩
 | mul=>exact⟨_,_,rfl,Qh.l _,h⟩
 | eql=>exact d h
 | neq=>exact d h
 | lss=>exact d h
 | leq=>exact d h
 | gtr=>exact d h
 | geq=>exact d h
 | _=>cases h
theorem aFM[aB]{o:BinOp}{x y:aQ}(c:Qt N S st)(h:bY E n d (.ibin o x y) S K=some r): cL P cf E.fl N (.ibin o x y) st K r:=by
 have q:=c.get x;have f:=c.get y;simp only[bY] at h;split at h
 .rename_i u m;rw[m] at q;split at h
  .rename_i k a;split at h
   .rename_i w g;rw[g] at f;split at h
    .rename_i k' b;split at h
     .rename_i e _;subst e;obtain⟨v,tv,j,l,i⟩:=aFL h;exact cL.same c (by simp only[aI,q.inL,f.inL,if_true,j]) l i
     .cases h
    .cases h
   .cases h
  .cases h
 .cases h
theorem aJ6[aB]{o:UnOp}{x:aQ}(a:Qt N S st)(h:bY E n d (.un o x) S K=some r): cL P cf E.fl N (.un o x) st K r:=by
 have q:=a.get x;simp only[bY] at h;split at h;all_goals first | cases h | skip;all_goals
  split at h
  .rename_i u b;rw[b] at q;split at h
   .exact cL.same a (by simp only[aI,q.inL];rfl) (Qh.l _) h
   .cases h
  .cases h
theorem UA[aB]{o:Nat}{x:aQ}(b:Qt N S st)(h:bY E n d (.fieldAddr o x) S K=some r): cL P cf E.fl N (.fieldAddr o x) st K r:=by
 have q:=b.get x;simp only[bY] at h;split at h
 .rename_i a;rw[a] at q;exact cL.same b (by simp only[aI,q.ptr1]) (.ptr _ _) h
 .rename_i a;rw[a] at q;let⟨k,l,f,c,g,e⟩:=q.pel1;exact cL.same b (by simp only[aI,e]) (.pel _ _ _ k l f c g) h
 .rename_i a;rw[a] at q;let⟨aw,e,c⟩:=(q.pu trivial).inR;exact cL.same b (by simp only[aI,e]) (.p _ _<|Qp.mkR<|c.drop _) h
 .rename_i a;rw[a] at q;let⟨aw,e,c⟩:=(q.pu trivial).inP;exact cL.same b (by simp only[aI,e]) (.p _ _<|Qp.mkR<|c.drop _) h
 .rename_i a;rw[a] at q;exact cL.same b (by simp only[aI,q.rel1]) (.rel _ _ _ _) h
 .cases h
theorem aCX[aB]{agg:Bool}{m o:Nat}{x:aQ}(b:Qt N S st)(h:bY E n d (.field agg m o x) S K=some r): cL P cf E.fl N (.field agg m o x) st K r:=by
 have q:=b.get x;simp only[bY] at h;split at h
 .rename_i cs k;rw[k] at q;let⟨aw,g,c⟩:=q.inA;let⟨e,tv,v,a,j,f⟩:=CS h c;refine cL.same b ?_ j f;simp only[aI,g,e,if_true];cases agg with
  | true=>simp only[if_true,Option.some.injEq] at a |-;rw[a]
  | false=>
   simp only[Bool.false_eq_true,if_false] at a |-;split at a
   .rename_i i;rw[i];cases a;rfl
   .cases a
 .cases h
theorem oB{v:TV}{a:AV}{i:Int}(h:TE v=some i)(q:Qh H v a)(b:0<=i): fA a=some i.toNat:=by
 unfold TE at h;split at h
 .cases h;rw[q.inL];simp[fA,b]
 .cases h
theorem I7[aB]{s:Nat}{x i:aQ}(a:Qt N S st)(h:bY E n d (.idxAddr s x i) S K=some r): cL P cf E.fl N (.idxAddr s x i) st K r:=by
 have q:=a.get x;have B:=a.get i;simp only[bY] at h;split at h
 .rename_i j A;split at h
  .rename_i k l g;rw[g] at q;split at h
   .rename_i e;have e:=Nat.eq_of_beq_eq_true e;let⟨y,t,h⟩:=aV h;let⟨c,F,_⟩:=kE t;let⟨es,D,C⟩:=(q.pu trivial).inS;let⟨H,he,u⟩:=C.get F;rcases D with⟨_,rfl⟩ | ⟨f,G⟩
    .simp at he
    .refine cL.same a ?_ (.p _ _<|Qp.mkR u) h;simp only[aI,oB A B c,G,he];rw[if_pos<|by rw[u.len,mC,e]]
   .cases h
  .rename_i k l g;rw[g] at q;split at h
   .rename_i e;have e:=Nat.eq_of_beq_eq_true e;let⟨y,t,h⟩:=aV h;let⟨c,F,_⟩:=kE t;let⟨es,D,C⟩:=(q.pu trivial).inV;let⟨H,he,u⟩:=C.get F;rcases D with⟨_,rfl⟩ | ⟨f,G⟩ | G
    .simp at he
    .refine cL.same a ?_ (.p _ _<|Qp.mkR u) h;simp only[aI,oB A B c,G,he];rw[if_pos<|by rw[u.len,mC,e]]
    .refine cL.same a ?_ (.p _ _<|Qp.mkR u) h;simp only[aI,oB A B c,G,he];rw[if_pos<|by rw[u.len,mC,e]]
   .cases h
  .rename_i id m g;rw[g] at q;split at h
   .rename_i o z;split at h
    .rename_i k l;split at h
     .rename_i e;have e:=Nat.eq_of_beq_eq_true e;let⟨es,D,C⟩:=a.hp.lst z;have L:=q.mw z;split at h
      .let⟨y,t,h⟩:=aV h;let⟨c,F,M,J⟩:=I6 t;refine cL.same a ?_ (.pel id j 0 k l z c J) h;simp only[aI,oB A B c,L,D,xQ];rw[if_pos ⟨e,C.len,F⟩,Nat.zero_add]
      .rename_i w;let⟨y,t,h⟩:=aV h;let⟨c,F,M⟩:=kE t;simp only[B7,List.length_take,List.length_drop] at M;have J:(j+((w.1:Nat):Int)).toNat=w.1+j.toNat:=by omega
       refine cL.same (v:=.ptr id l.length (w.1+j.toNat) 0) a ?_ (by rw[<-J];exact .pel id _ 0 k l z (by omega)<|by omega) h;simp only[aI,oB A B c,L,D,xQ];rw[if_pos ⟨e,C.len,by omega⟩]
     .cases h
    .cases h
   .cases h
  .rename_i id m g;rw[g] at q;split at h
   .rename_i I;split at h
    .rename_i o z;split at h
     .split at h
      .rename_i e;simp only[Bool.and_eq_true] at e;have H:=Nat.eq_of_beq_eq_true e.1;have e2:=Nat.eq_of_beq_eq_true e.2.1;have R:I<m:=by simpa [Nat.blt_eq] using e.2.2
       obtain⟨b,Q,aw,rfl,O⟩:=a.hp.get z;refine cL.same a ?_ (.rel id m I 0) h;have T:fA (aC st.tmps i)=some I:=oB A B<|Int.natCast_nonneg _;simp only[aI,T,q.rs1,Q];rw[if_pos ⟨H,by rw[O.len,e2],R⟩,Nat.zero_add]
      .cases h
     .cases h
    .cases h
   .cases h
  .cases h
 .cases h
theorem aFB[aB]{x:aQ}(w:Qt N S st)(h:bY E n d (.lenS x) S K=some r): cL P cf E.fl N (.lenS x) st K r:=by
 have q:=w.get x;simp only[bY] at h;split at h
 .rename_i m g;refine cL.same w ?_ (Qh.l _) h;generalize bR S.tm x=v at g q;generalize i:aC st.tmps x=a at q;cases v with
  | sl k l=>
   cases g;let⟨es,j,s⟩:=(q.pu trivial).inS;rw[<-s.len];rcases j with⟨rfl,rfl⟩ | ⟨f,rfl⟩<;>simp only[aI,i]<;>rfl
  | vw k l=>
   cases g;let⟨es,j,s⟩:=(q.pu trivial).inV;rw[<-s.len];rcases j with⟨rfl,rfl⟩ | ⟨f,rfl⟩ | rfl<;>simp only[aI,i]<;>rfl
  | emp b=>
   cases g;cases (q.pu trivial) with
   | emp _ _ h=>rcases h with rfl | rfl | ⟨_,rfl⟩<;>simp only[aI,i]<;>rfl
  | lit u=>
   have e:=q.inL;subst e;unfold aFA at g;split at g
   .rename_i e;cases e
   .rename_i e;cases e
   .rename_i e;cases e
   .rename_i e;cases e;cases g;simp only[aI,i];rfl
   .rename_i e;cases e
   .rename_i e;cases e
   .cases g
  | rs id c=>cases g;simp only[aI,i,q.rs1]
  | ms id c=>
   cases q with
   | p _ _ q=>cases q
   | ms _ k l t=>
    simp only[aFA,t] at g;cases g;simp only[aI,i]
   | msn _ c k l t=>
    cases g;simp only[aI,i]
  | _=>cases g
 .cases h
theorem J4[aB]{i:Nat}{x:aQ}(a:Qt N S st)(h:bY E n d (.extract x i) S K=some r): cL P cf E.fl N (.extract x i) st K r:=by
 have q:=a.get x;simp only[bY] at h;split at h
 .rename_i vs g;rw[g] at q;let⟨aw,e,j⟩:=q.inT;split at h
  .rename_i v k;let⟨b,f,c⟩:=j.get k;exact cL.same a (by simp only[aI,e,f]) c h
  .cases h
 .cases h
theorem mN{v:TV}{a:AV}{i:Int}(h:i64? v=some i)(q:Qh H v a): a=iv i:=by
 unfold i64? at h;split at h
 .split at h
  .split at h
   .cases h;exact q.inL
   .cases h
  .cases h
 .cases h
theorem Y4[aB]{mx:Bool}{g:List aQ}(f:Qt N S st)(h:bY E n d (.minmax mx g) S K=some r): cL P cf E.fl N (.minmax mx g) st K r:=by
 simp only[bY] at h;split at h
 .rename_i p c;match g,c with
  | [x,y],c=>
   simp only[List.map_cons,List.map_nil,aDX] at c;split at c
   .rename_i a k;split at c
    .rename_i b j;cases c;have i:=mN k<|f.get x;have e2:=mN j<|f.get y;cases mx with
     | true=>
      refine cL.same f ?_ (Qh.l _) h;have e:aI P cf E.fl (.minmax true [x,y]) st.tmps st.heap=aI P cf E.fl (.minmax true [.tmp 0,.tmp 1]) [aC st.tmps x,aC st.tmps y] st.heap:=rfl;rw[e,i,e2];exact V8
     | false=>
      refine cL.same f ?_ (Qh.l _) h;have e:aI P cf E.fl (.minmax false [x,y]) st.tmps st.heap=aI P cf E.fl (.minmax false [.tmp 0,.tmp 1]) [aC st.tmps x,aC st.tmps y] st.heap:=rfl;rw[e,i,e2];exact aFr
    .cases c
   .cases c
  | [],c=>cases c
  | [_],c=>cases c
  | _::_::_::_,c=>cases c
 .cases h
end
section
variable [cX]{R:Type}{H H1:TH}{A:aM}{N:Nat}{S:TS}{st:St}{P:Program}{T:List bK}{cf:CF}{op:xP}{K:TV->TS->Option R}{r:R}{E:XE}{n:Nat}{d:Option Nat}
theorem Zv{i:Nat}: ∀{a:List Nat},Me i a=false->i∉a
 | [],_=>by simp
 | j::r,h=>by
  simp only[Me] at h;split at h
  .cases h
  .rename_i e;simp only[List.mem_cons,not_or];exact⟨Nat.ne_of_beq_eq_false e,Zv h⟩
theorem XW{i:Nat}: ∀{a:List Nat},i∉a->Me i a=false
 | [],_=>rfl
 | j::r,h=>by
  simp only[List.mem_cons,not_or] at h;simp only[Me];split
  .rename_i e;exact absurd (Nat.eq_of_beq_eq_true e) h.1
  .exact XW h.2
def HMk(c:List Nat)(H H':TH): Prop:=∀(j k:Nat) (l:List<|den k),j∉c->H[j]?=some (.lst k l)->∃(k':Nat) (b:List<|den k'),H'[j]?=some (.lst k' b)/\b.length=l.length
theorem DN{f:List Nat}(m:HMk f H H1){v:TV}{a:AV}(q:Qh H v a): Qh H1 (DO f v) a:=by
 cases q with
 | p _ _ q=>
  cases v with
  | ms=>cases q
  | pel=>cases q
  | agg=>cases q
  | tup=>cases q
  | fn=>cases q
  | _=>exact .p _ _ q
 | ms i k l h=>
  simp only[DO];cases e:Me i f with
  | true=>exact Qh.u _
  | false=>let⟨k',c,b,d⟩:=m i k l (Zv e) h;rw[<-d];exact .ms i k' c b
 | msn i n k l h=>
  simp only[DO];cases e:Me i f with
  | true=>exact Qh.u _
  | false=>let⟨k',c,b,d⟩:=m i k l (Zv e) h;rw[<-d];exact .msn i n k' c b
 | pel i j o k l h b d=>
  simp only[DO];cases e:Me i f with
  | true=>exact Qh.u _
  | false=>let⟨k',c,w,x⟩:=m i k l (Zv e) h;rw[<-x];exact .pel i j o k' c w b<|by omega
 | ptr=>exact .ptr _ _
 | mp=>exact .mp _
 | it=>exact .it _
 | rs=>exact .rs _ _
 | rel=>exact .rel _ _ _ _
 | fn vi cs aw b d=>
  cases cs with
  | nil=>
   cases aw with
   | nil=>exact Qh.mkF trivial
   | cons=>cases b
  | cons=>exact Qh.u _
 | agg=>exact Qh.u _
 | tup=>exact Qh.u _
theorem zI{c:List Nat}(m:HMk c H H1){v:TV}{a:AV}(q:Qh H v a): Qh H1 (Ky c v) a:=by
 cases v with
 | agg cs=>
  obtain⟨aw,rfl,b⟩:=q.inA;exact Qh.mkA<|b.mapL λ_ _ q=>DN m q
 | fn vi cs=>
  obtain⟨aw,rfl,b⟩:=q.inF;exact Qh.mkF<|b.mapL λ_ _ q=>DN m q
 | tup cs=>exact Qh.u _
 | _=>exact DN m q
theorem DJ{f:TV->TV}{t:Nat}{v:TV}: ∀{tm:TT},eD t (tm.map λp=>(p.1,f p.2))=some v->∃u,eD t tm=some u/\v=f u
 | [],h=>by cases h
 | (s,u)::tm,h=>by
  simp only[List.map_cons,eD] at h |-;split at h
  .cases h;exact⟨u,rfl,rfl⟩
  .exact DJ h
theorem YA{a:List Nat}{t:Nat}{v:TV}{tm:TT}(h:eD t (SV a tm)=some v): ∃u,eD t tm=some u/\(v=Ky a u\/(a=[]/\v=u)):=by
 cases a with
 | nil=>exact⟨v,h,.inr ⟨rfl,rfl⟩⟩
 | cons k r=>let⟨u,c,b⟩:=DJ h;exact⟨u,c,.inl b⟩
theorem DM{f:List Nat}{A:aM}(d:Qt N S st)(m:HMk f S.hp H1)(g:Qs H1 A): Qt N ⟨SV f S.tm,H1⟩ ⟨st.tmps,A⟩:=by
 refine⟨d.ln,λt v n=>?_,g⟩;let⟨u,j,e⟩:=YA n;let⟨a,b,c⟩:=d.tm t u j;rcases e with rfl | ⟨rfl,rfl⟩
 .exact⟨a,b,zI m c⟩
 .exact⟨a,b,c.mono λi k l h=>m i k l (by simp) h⟩
theorem SX{a:List Nat}{o:lO}{b:cN}(m:HMk a H H1)(h:Qo H o b): Qo H1 (zH a o) b:=by
 cases o with
 | box cs=>let⟨aw,e,q⟩:=h;exact⟨aw,by simpa using e,q.mapL λ_ _ q=>zI m q⟩
 | rows s es=>let⟨aw,e,q⟩:=h;exact⟨aw,e,q.mapL λ_ _ q=>q.mapL λ_ _ q=>zI m q⟩
 | _=>exact h
theorem SO{a:List Nat}{i k:Nat}{l:List<|den k}(h:H[i]?=some (.lst k l)): (H.map<|zH a)[i]?=some (.lst k l):=by
 rw[List.getElem?_map,h];rfl
theorem SW{id:Nat}{o:lO}{b:cN}(d:Qt N S st)(n:zH [id] o=o)(g:∀H,HMk [id] S.hp H->H[id]?=some o->Qo H o b)(a:id<S.hp.length): Qt N (hP id<|gO S id o) ⟨st.tmps,st.heap.set id b⟩:=by
 have e:(hP id<|gO S id o).hp=(S.hp.map<|zH [id]).set id o:=by
  simp only[hP,gO,List.map_set,n]
 have m:HMk [id] S.hp (hP id<|gO S id o).hp:=by
  intro j k l i h;rw[e,List.getElem?_set_ne<|by simpa [eq_comm] using i];exact⟨k,l,SO h,rfl⟩
 refine DM (S:=S) d m ?_;have f:bO (Qo (hP id<|gO S id o).hp) (S.hp.map<|zH [id]) st.heap:=d.hp.mapL λ_ _ h=>SX m h;have c:=f.set id<|g _ m<|by rw[e];simp[a]
 rw[<-e] at c;exact c
theorem Oq{id k:Nat}{l a:List<|den k}{b:cN}(e:Qt N S st)(f:S.hp[id]?=some (.lst k l))(d:∀H,Qo H (.lst k a) b): Qt N (hP id<|gO S id<|.lst k a) ⟨st.tmps,st.heap.set id b⟩:=
 SW e rfl (λH _ _=>d H) (List.getElem?_eq_some_iff.1 f).1
theorem gX{a bytes:Nat}(b:a<=1000000)(c:bytes<=100000): kO a bytes=true:=by
 have:=Nat.mul_le_mul b c;simp[kO];exact⟨by omega,by omega⟩
theorem Ql.all{k s:Nat}{l:List<|den k}{es:List<|List AV}(h:Ql k l es)(e:(cds k).length=s): cY s es=true:=by
 unfold cY;rw[List.all_eq_true];intro x c;let⟨i,b⟩:=List.getElem?_of_mem c;have a:i<l.length:=by rw[<-h.len];exact (List.getElem?_eq_some_iff.1 b).1
 have:=(h.at (List.getElem?_eq_getElem a) b).len;rw[this,mC,e];simp
theorem tP{α:Type}{l ys:List α}{a:Nat}(h:a+ys.length<=l.length): (aU l a ys).length=l.length:=by
 simp only[aU,List.length_append,List.length_take,List.length_drop];omega
theorem Lm{α:Type}(l:List α)(a:Nat): aU l a []=l:=by simp[aU]
theorem Sc{α:Type}{l:List α}{i:Nat}{x:α}(h:l[i]?=some x): l.set i x=l:=by
 apply List.ext_getElem?;intro j;rw[List.getElem?_set];split
 .rename_i e;subst e;rw[if_pos (List.getElem?_eq_some_iff.1 h).1,h]
 .rfl
theorem LE{α:Type}{l ys a:List α}{w:Nat×Nat}(h:L8 l w ys=some a): a=aU l (w.1+w.2) ys/\w.1+w.2+ys.length<=l.length/\l.length+ys.length<=1000000:=by
 unfold L8 at h;split at h
 .rename_i b;cases h;exact⟨rfl,b⟩
 .cases h
theorem L9{α:Type}{l ys a:List α}{w:Nat×Nat}(h:aG2 l w ys=some a): (w.1=0/\w.2=l.length/\a=l++ys/\l.length+ys.length<=1000000)\/(a=aU l (w.1+w.2) ys/\w.1+w.2+ys.length<=l.length/\l.length+ys.length<=1000000):=by
 unfold aG2 at h;split at h
 .rename_i b;cases h;exact .inl ⟨b.1,b.2.1,rfl,b.2.2⟩
 .exact .inr (LE h)
theorem LD{fl id s bytes tot off len:Nat}{H:aM}{es ys:List<|List AV}(b:H[id]?=some (.blk s es))(f:es.length=tot)(d:cY s ys=true)(j:0<s)(i:kO ys.length bytes=true)(c:kO (tot+ys.length) bytes=true)(e:fl<=id)(h:off+len+ys.length<=tot):
 cC fl H s bytes (.ms id tot off len) ys=some (.ms id tot off<|len+ys.length,H.set id<|.blk s<|aU es (off+len) ys):=by
 unfold cC;simp only[d,j,i,b,f,c,e,and_self,if_true];by_cases g:ys.length=0
 .have:ys=[]:=List.length_eq_zero_iff.1 g;subst this;simp only[List.length_nil,Nat.add_zero,if_true,Lm,Sc b]
 .rw[if_neg g,if_neg<|by omega,if_pos h]
theorem cL.put[aB]{fl:Nat}{v:AV}{tv:TV}{id k:Nat}{l:List<|den k}{a:List<|den k}{b:cN}(f:Qt N S st)(i:S.hp[id]?=some (.lst k l))(e:a.length=l.length)(he:aI P cf fl op st.tmps st.heap=some (v,st.heap.set id b))(q:Qo (S.hp.set id<|.lst k a) (.lst k a) b)(g:Qh (S.hp.set id<|.lst k a) tv v)(h:K tv (gO S id<|.lst k a)=some r): cL P cf fl N op st K r:=
 cL.set f he (HM.set λm n d=>by rw[i] at d;cases d;exact⟨k,a,rfl,e⟩) q g h
theorem aBB{k:Nat}: ∀{cs:List Cd}{f:Ik cs->den k}{b:ByteArray}{l:List (den k)},cds k=cs->HEq f (cX.pk k)->aEN cs f b=some l->cs.length=1/\Ql k l (HB b):=by
 intro cs f0 b0 l e hf h;unfold aEN at h;split at h
 .cases h;refine⟨rfl,?_⟩
  unfold Ql HB;refine bO.map (R:=λa b=>a=b) ?_ ?_
  .intro x y z;subst z
   have:∀(cs:List Cd)(h:cds k=cs)(f:Ik cs->den k),HEq f (cX.pk k)->∀p,lN (cds k) (cX.un k (f p))=lN cs p:=by
    intro cs h f hf p;subst h;cases hf;rw[cX.un_pk]
   have w:=this _ e _ hf ((((x.toNat:Nat):Int),()) : Ik [Cd.int .u8]);unfold iH;exact w ▸ (⟨.lit _,trivial⟩ : Qr (lN [Cd.int .u8] ((((x.toNat:Nat):Int),()) : Ik [Cd.int .u8])) [AV.lit (Value.int IntKind.u8 ((x.toNat:Nat):Int))])
  .exact bO.of rfl λj a b c d=>by rw[c] at d;cases d;rfl
 .cases h
theorem ME{k s:Nat}{v:TV}{l:List (den k)}{a:AV}(h:F1 H k v=some l)(q:Qh H v a)(e:Qs H A)(t:(cds k).length=s): ∃es,rdY s A a=some es/\Ql k l es:=by
 unfold F1 at h;split at h
 .split at h
  .have:=q.inL;subst this;let⟨g,z⟩:=aBB rfl HEq.rfl h;rw[g] at t;subst t;exact⟨_,rfl,z⟩
  .let⟨es,f,g⟩:=WX h q e;exact⟨es,BT f,g⟩
 .let⟨es,f,g⟩:=WX h q e;exact⟨es,BT f,g⟩
theorem aAU[aB]{s bytes:Nat}{x y:aQ}(p:Qt N S st)(h:bY E n d (.append s bytes x y) S K=some r): cL P cf E.fl N (.append s bytes x y) st K r:=by
 have q:=p.get x;have V:=p.get y;have J:=p.hp.ln;have Q:∀v,bR S.tm x=v->Wx v=true->(match Nat.beq (cds<|gU E d).length s&&Nat.blt 0 s with
  | true=>match F1 S.hp (gU E d) (bR S.tm y) with
   | some ys=>match Nat.ble bytes 100000 with
    | true=>cnd (List.isEmpty ys) (K v S)<|bnd (app [] ys) λu=>K (.ms S.hp.length none)<|Ai S<|.lst (gU E d) u
    | false=>none
   | none=>none
  | false=>none)=some r->cL P cf E.fl N (.append s bytes x y) st K r:=by
  intro v Z c h;rw[Z] at q;have j:aC st.tmps x=.lit aZ\/aC st.tmps x=.sl true []:=by
   unfold Wx at c;split at c
   .subst c;cases (q.pu trivial) with
    | emp _ _ h=>
     rcases h with h | h | ⟨h,_⟩
     .exact .inl h
     .exact .inr h
     .cases h
   .split at c
    .split at c
     .split at c
      .split at c
       .exact .inl q.inL
       .cases c
      .cases c
     .cases c
    .cases c
   .cases c
  split at h
  .rename_i A;simp only[Bool.and_eq_true] at A;have t:=Nat.eq_of_beq_eq_true A.1;have e2:0<s:=by simpa [Nat.blt_eq] using A.2
   split at h
   .rename_i ys C;let⟨es,F,a⟩:=ME C V p.hp t;split at h
    .rename_i i;have i:=Nat.le_of_ble_eq_true i;have W:=a.all t;rcases Vn h with⟨R,h⟩ | ⟨R,h⟩
     .have B:ys=[]:=by simpa using R
      subst B;have e4:es=[]:=List.length_eq_zero_iff.1 a.len;subst e4;refine cL.same p ?_ q h;simp only[aI,F];rcases j with j | j<;>rw[j]<;>simp[cC,cY,e2,kO,aZ]
     .let⟨u,g,h5⟩:=aV h;clear h;let⟨B,f⟩:=Ag g;rw[List.nil_append] at B;subst B;simp only[List.length_nil,Nat.zero_add] at f;have U:kO es.length bytes=true:=gX (by rw[a.len];exact f) i;have X:es.length≠0:=by
       rw[a.len];intro e;have:=List.length_eq_zero_iff.1 e;subst this;cases R
      refine cL.add (v:=.ms st.heap.length u.length 0 u.length) (o:=.lst (gU E d) u) (b:=.blk s es) p ?_ ⟨es,by rw[t],a⟩ (by rw[J];exact .ms _ (gU E d) u<|by simp) h5;simp only[aI,F,<-a.len];rcases j with j | j<;>rw[j]
      .simp[cC,aZ,W,e2,U,X]
      .have M:cY s ([]:List<|List AV)=true:=rfl;unfold cC;simp only[W,e2,U,X,M,and_self,if_true,if_false,List.length_nil,Nat.zero_add,List.nil_append]
    .cases h
   .cases h
  .cases h
 simp only[bY] at h;split at h
 .rename_i id m j;rw[j] at q;split at h
  .rename_i o D;split at h
   .rename_i k l;split at h
    .rename_i ys C;split at h
     .rename_i A;simp only[Bool.and_eq_true] at A;have t:=Nat.eq_of_beq_eq_true A.1;let⟨es,F,a⟩:=ME C V p.hp t;have e2:0<s:=by simpa [Nat.blt_eq] using A.2.1
      have G:=Nat.le_of_ble_eq_true A.2.2;split at h
      .rename_i i;have i:=Nat.le_of_ble_eq_true i;let⟨L,O,I⟩:=p.hp.lst D;rw[t] at O;have T:=q.mw D;split at h
       .let⟨u,g,h⟩:=aV h;let⟨B,f⟩:=Ag g;subst B;have he:=Nh (fl:=E.fl) (bytes:=bytes) (tot:=l.length) (ys:=es) O I.len (a.all t) e2 (gX (by rw[a.len];omega) i) (gX (by rw[a.len];omega) i) G;refine⟨.ms id (l.length+es.length) 0<|l.length+es.length,st.heap.set id<|.blk s<|L++es,.ms id none,hP id<|gO S id<|.lst k<|l++ys,?_,Oq p D λH=>⟨L++es,by rw[t],I.app a⟩,?_,h⟩
        .simp only[aI,F,T];exact he
        .have:=Qh.ms (H:=(hP id<|gO S id<|.lst k<|l++ys).hp) id k (l++ys)<|by simp[hP,gO,List.getElem?_map,(List.getElem?_eq_some_iff.1 D).1,zH]
         rw[List.length_append,<-a.len] at this;exact this
       .rename_i w;split at h
        rotate_left
        .let⟨u,g,h⟩:=aV h;rcases L9 g with⟨w1,w2,B,f⟩ | ⟨B,f,Y⟩
         .subst B;have he:=Nh (fl:=E.fl) (bytes:=bytes) (tot:=l.length) (ys:=es) O I.len (a.all t) e2 (gX (by rw[a.len];omega) i) (gX (by rw[a.len];omega) i) G;refine⟨.ms id (l.length+es.length) 0<|l.length+es.length,st.heap.set id<|.blk s<|L++es,.ms id (some (w.1,w.2+ys.length)),hP id<|gO S id<|.lst k<|l++ys,?_,Oq p D λH=>⟨L++es,by rw[t],I.app a⟩,?_,h⟩
          .simp only[aI,F,T,xQ,w1,w2];exact he
          .have:=Qh.msn (H:=(hP id<|gO S id<|.lst k<|l++ys).hp) id (w.1,w.2+ys.length) k (l++ys)<|by simp[hP,gO,List.getElem?_map,(List.getElem?_eq_some_iff.1 D).1,zH]
           simp only[List.length_append,w1,w2,<-a.len] at this |-;exact this
         .subst B;have z:(aU l (w.1+w.2) ys).length=l.length:=tP<|by omega
          refine⟨.ms id l.length w.1<|w.2+es.length,st.heap.set id<|.blk s<|aU L (w.1+w.2) es,.ms id (some (w.1,w.2+ys.length)),hP id<|gO S id<|.lst k<|aU l (w.1+w.2) ys,?_,Oq p D λH=>⟨_,by rw[t],I.spl a⟩,?_,h⟩
          .simp only[aI,F,T,xQ];exact LD O I.len (a.all t) e2 (gX (by rw[a.len];omega) i) (gX (by rw[a.len];omega) i) G<|by rw[a.len];exact f
          .have:=Qh.msn (H:=(hP id<|gO S id<|.lst k<|aU l (w.1+w.2) ys).hp) id (w.1,w.2+ys.length) k (aU l (w.1+w.2) ys)<|by simp[hP,gO,List.getElem?_map,(List.getElem?_eq_some_iff.1 D).1,zH]
           rw[z] at this;simp only[<-a.len] at this |-;exact this
        let⟨u,g,h⟩:=aV h;let⟨B,f,Y⟩:=LE g;subst B;have z:(aU l (w.1+w.2) ys).length=l.length:=tP<|by omega
        refine cL.put (v:=.ms id l.length w.1<|w.2+es.length) (b:=.blk s<|aU L (w.1+w.2) es) p D z ?_ ⟨_,by rw[t],I.spl a⟩ (by have:=Qh.msn (H:=S.hp.set id<|.lst k<|aU l (w.1+w.2) ys) id (w.1,w.2+ys.length) k _<|List.getElem?_set_self (List.getElem?_eq_some_iff.1 D).1;rw[z,<-a.len] at this;rw[<-a.len];exact this) h;simp only[aI,F,T,xQ];exact LD O I.len (a.all t) e2 (gX (by rw[a.len];omega) i) (gX (by rw[a.len];omega) i) G<|by rw[a.len];exact f
      .cases h
     .cases h
    .cases h
   .cases h
  .cases h
 .rename_i k l j;rw[j] at q;have q0:=q;let⟨L,O,I⟩:=(q.pu trivial).inE;split at h
  .rename_i ys C;split at h
   .rename_i A;simp only[Bool.and_eq_true] at A;have t:=Nat.eq_of_beq_eq_true A.1;let⟨es,F,a⟩:=ME C V p.hp t;have e2:0<s:=by simpa [Nat.blt_eq] using A.2.1
    have i:=Nat.le_of_ble_eq_true A.2.2;have W:=a.all t;have W2:=I.all t;rcases Vn h with⟨R,h⟩ | ⟨R,h⟩
    .have B:ys=[]:=by simpa using R
     subst B;have e4:es=[]:=List.length_eq_zero_iff.1 a.len;subst e4;refine cL.same p ?_ q0 h;simp only[aI,F];rcases O with⟨j,_⟩ | j<;>rw[j]<;>simp[cC,cY,e2,kO,aZ]
    .let⟨u,g,h5⟩:=aV h;clear h;let⟨B,f⟩:=Ag g;subst B;have U:kO es.length bytes=true:=gX (by rw[a.len];omega) i;have U2:kO (L.length+es.length) bytes=true:=gX (by rw[a.len,I.len];omega) i;have X:es.length≠0:=by
      rw[a.len];intro e;have:=List.length_eq_zero_iff.1 e;subst this;cases R
     refine cL.add (v:=.ms st.heap.length (l++ys).length 0 (l++ys).length) (o:=.lst k (l++ys)) (b:=.blk s (L++es)) p ?_ ⟨L++es,by rw[t],I.app a⟩ (by rw[J];exact .ms _ k (l++ys)<|by simp) h5;simp only[aI,F,List.length_append,<-a.len,<-I.len];rcases O with⟨j,z⟩ | j<;>rw[j]
     .subst z;simp[cC,aZ,W,e2,U,X]
     .unfold cC;simp only[W,e2,U,U2,X,W2,and_self,if_true,if_false]
   .cases h
  .cases h
 .split at h
  .rename_i c;exact Q _ rfl c h
  .cases h
theorem MQ{w:Nat}: ∀{b:List Sh},X3 w b=true->∀s∈b,(∃k,s=.w k)\/(w=0/\∃k,s=.v k)
 | [],_,s,a=>by cases a
 | s'::r,h,s,a=>by
  have c:((∃k,s'=.w k)\/(w=0/\∃k,s'=.v k))/\X3 w r=true:=by
   cases s' with
   | w k=>exact⟨.inl ⟨k,rfl⟩,h⟩
   | v k=>
    simp only[X3] at h;split at h
    .exact⟨.inr ⟨rfl,k,rfl⟩,h⟩
    .cases h
   | _=>cases h
  rcases List.mem_cons.1 a with rfl | a
  .exact c.1
  .exact MQ c.2 s a
theorem aE0{b:List Sh}{vs:List TV}{p:fJ b}{aw:List AV}{c:TH}(d:X3 0 b=true)(h:yA 0 c b vs=some p)(q:Qc H vs aw): Qc H1 (Dh b p) (aw.map Om)/\∀a∈aw,pO a=true:=
 MF (λs e=>by
  rcases MQ d s e with⟨k,rfl⟩ | ⟨_,k,rfl⟩
  .exact λh q=>⟨aJ5 (aFd h q).1,(aFd (H1:=[]) h q).2⟩
  .exact λh q=>aFd h q) h q
theorem aAT{a:List Sh}{vs:List TV}{p:fJ a}{aw:List AV}(d:X3 1 a=true)(h:yA 1 H a vs=some p)(q:Qc H vs aw)(c:Qs H A): Qc H1 (Dh a p)<|aw.map<|eK A:=
 (MF (G:=λ_=>True) (λs b=>by
  rcases MQ d s b with⟨k,rfl⟩ | ⟨e,_⟩
  .exact λh q=>⟨aJE h q c,trivial⟩
  .cases e) h q).1
theorem aHm{c:List Nat}{vs:List TV}{p:fJ<|c.map .v}{aw:List AV}(h:yA 2 H (c.map .v) vs=some p)(q:Qc H vs aw)(d:Qs H A): Qc H1 (Dh (c.map .v) p) (aw.map<|dS A 0)/\∀a∈aw,∀l,a≠.tup l:=
 MF (λs b=>by
  obtain⟨k,_,rfl⟩:=List.mem_map.1 b;exact λh q=>aJD h q d) h q
theorem RN{aw:List AV}(h:∀a∈aw,pO a=true): fO aw=true:=by
 induction aw with
 | nil=>rfl
 | cons a r c=>simp only[fO,h a List.mem_cons_self];exact c λb d=>h b<|List.mem_cons_of_mem _ d
theorem FO[aB]{vi w:Nat}{c:ZN}{vs:List TV}{aw:List AV}{K:TV->Option R}(t:PG P T vi c)(h:Gy n w c vs H K=some r)(z:∀p,X3 w c.ka=true->yA w H c.ka vs=some p->Qc [] (Dh c.ka p) aw):
 ∃g a tv,dK P T n 0 vi aw []=some (a,g)/\Qh H1 tv (gS g 0 a)/\K tv=some r:=by
 unfold Gy at h;split at h
 .rename_i p s;split at h
  .cases h
  .rename_i y;let⟨x,u,h⟩:=aV h;let⟨f,g,o,k,j,_⟩:=t n p x u aw<|z p y s;have k:=k H1;let⟨i,d,h⟩:=a7 h k;refine⟨g,eH f,?_⟩;split at h
   .rename_i v;match f,d,j with
    | [a],d,j=>
     refine⟨v,o,?_,h⟩;have e:gS g 0 a=dS g 0 a:=by
      cases a with
      | tup l=>exact (j _ List.mem_cons_self l rfl).elim
      | _=>rfl
     show Qh H1 v<|gS g 0 a;rw[e];exact d.1
   .rename_i m;refine⟨.tup i,o,?_,h⟩;match f,d with
    | [],d=>exact Qh.mkT d
    | [a],d=>
     match i,d with
     | [v],_=>exact (m v rfl).elim
    | a::b::f,d=>exact Qh.mkT d
 .cases h
theorem DX[aB](a:Qt N S st): ∀(b:List aQ),Qc S.hp (b.map<|bR S.tm)<|b.map<|aC st.tmps
 | []=>trivial
 | x::r=>⟨a.get x,DX a r⟩
theorem aEy[aB]{vi:Nat}{c:ZN}{d:List aQ}(j:PG P T vi c)(k:Qt N S st)(h:Gy n 0 c (d.map<|bR S.tm) [] (λv=>K v S)=some r):
 ∃v tv,kR (dK P T n) 0 true vi (d.map<|aC st.tmps) st.heap=some (v,st.heap)/\Qh S.hp tv v/\K tv S=some r:=by
 have q:=DX k d;have b:yA 0 [] c.ka (d.map<|bR S.tm)≠none:=by
  intro e;simp only[Gy,e] at h;cases h
 let⟨p,b⟩:=Option.ne_none_iff_exists'.1 b;have g:X3 0 c.ka=true:=by
  cases e:X3 0 c.ka with
  | true=>rfl
  | false=>simp only[Gy,b,e] at h;cases h
 have f:=RN (aE0 (H1:=[]) g b q).2;let⟨o,a,tv,l,m,i⟩:=FO (H1:=S.hp) (aw:=(d.map<|aC st.tmps).map Om) j h λp g b=>(aE0 g b q).1;exact⟨_,tv,by simp only[kR,f,l],m,i⟩
theorem aF5[aB]{vi:Nat}{a:List aQ}(b:Qt N S st)(h:bY E n d (.mkFn vi a) S K=some r): cL P cf E.fl N (.mkFn vi a) st K r:=
 cL.same b rfl (Qh.mkF<|DX b a) h
theorem aD4[aB]{vi:Nat}{b:List aQ}(m:∀vi c,E.cs vi=some c->PG P T vi c)(e:Qt N S st)(h:bY E n d (.callB vi b) S K=some r): cL P (dK P T n) E.fl N (.callB vi b) st K r:=by
 simp only[bY] at h;split at h
 .rename_i c k;have q:=DX e b;let⟨o,a,tv,f,g,i⟩:=FO (H1:=S.hp) (aw:=(b.map<|aC st.tmps).map<|eK st.heap) (m vi c k) h λp l j=>aAT l j q e.hp;exact cL.same e (by simp only[aI,f]) g i
 .cases h
end
end
end Go.Proofs.YtideamafblopcaaGreatDoor.Av
