/- A part of the proof of a law. -/
import Derived.Test.YthadajkojciapaaGreatDoorP5
set_option maxRecDepth 100000
set_option maxHeartbeats 4000000
set_option linter.all false
namespace Go.Proofs.YthadajkojciapaaGreatDoor.Av
open Go
section
open gO (den cds ag)
inductive Sh where
 | v (k:Nat)
 | w (k:Nat)
 | r (k:Nat)
 | l (k:Nat)
 | m (kk vk:Nat)
 | n (id:Nat)
 | i
 | q (id off:Nat)
 | f (k:Nat)
section
variable [cN]
def Sh.den: Sh->Type
 | .v k=>gO.den k
 | .w k=>gO.den k
 | .r k=>gO.den k
 | .l k=>List (gO.den k)
 | .m kk vk=>List (gO.den kk×gO.den vk)
 | .n _=>Nat×Nat
 | .i=>ByteArray×Nat
 | .q _ _=>Int
 | .f k=>List (gO.den k)
def Eb: TV->TV
 | .sl k l=>.vw k l
 | v=>v
def F7: TV->TV
 | .agg cs=>.agg (cs.map Eb)
 | v=>Eb v
def Sh.tv: (s:Sh)->s.den->TV
 | .v k,x=>val k x
 | .w k,x=>F7 (val k x)
 | .r k,x=>.rptr (iN k x)
 | .l k,x=>.sl k x
 | .m kk vk,x=>.rmp kk vk x
 | .n id,x=>.ms id (some x)
 | .i,x=>.tup [.lit (.string x.1),.lit (.int .i64 (.ofNat x.2))]
 | .q id off,x=>.pel id x off
 | .f k,x=>.slF k x
def VB: TV->Option (ByteArray×Nat)
 | .tup cs=>match cs with
  | [a,b]=>match a with
   | .lit u=>match u with
    | .string s=>match b with
     | .lit w=>match w with
      | .int k n=>match k with
       | .i64=>match n with
        | Int.ofNat n=>some (s,n)
        | _=>none
       | _=>none
      | _=>none
     | _=>none
    | _=>none
   | _=>none
  | _=>none
 | _=>none
def rdN(id:Nat): TV->Option (Nat×Nat)
 | .ms j c=>match Nat.beq j id with
  | true=>c
  | false=>none
 | _=>none
def rdQ(id off:Nat): TV->Option Int
 | .pel j i o=>match Nat.beq j id with
  | true=>match Nat.beq o off with
   | true=>some i
   | false=>none
  | false=>none
 | _=>none
def Sh.rd(w:Nat)(H:TH)(s:Sh)(v:TV): Option s.den:=match s with
 | .v k=>Kg (match w with | 3=>0 | w=>w) H k v
 | .w k=>Kg (match w with | 3=>1 | w=>w) H k v
 | .r k=>match v with
  | .rptr cs=>gV 0 H k cs
  | _=>none
 | .l k=>match v with
  | .sl k' xs=>xQ (λk=>List (gO.den k)) xs
  | _=>none
 | .m kk vk=>match v with
  | .rmp a b xs=>Hz xs
  | _=>none
 | .n id=>rdN id v
 | .i=>VB v
 | .q id off=>rdQ id off v
 | .f k=>match v with
  | .slF k' xs=>xQ (λk=>List (gO.den k)) xs
  | _=>none
def eW: List Sh->Type
 | []=>Unit
 | [a]=>a.den
 | a::b::r=>a.den×eW (b::r)
def eW.hd{a:Sh}: {r:List Sh}->eW (a::r)->a.den
 | [],x=>x
 | _::_,x=>x.1
def eW.tl{a:Sh}: {r:List Sh}->eW (a::r)->eW r
 | [],_=>()
 | _::_,x=>x.2
def eW.cs{a:Sh}: {r:List Sh}->a.den->eW r->eW (a::r)
 | [],x,_=>x
 | _::_,x,y=>(x,y)
def vQ: (l:List Sh)->eW l->List TV
 | [],_=>[]
 | a::r,p=>a.tv (eW.hd p)::vQ r (eW.tl p)
def rA(w:Nat)(H:TH): (l:List Sh)->List TV->Option (eW l)
 | [],vs=>match vs with
  | []=>some ()
  | _=>none
 | a::r,vs=>match vs with
  | []=>none
  | v::vs=>match a.rd w H v with
   | some x=>match rA w H r vs with
    | some p=>some (eW.cs x p)
    | none=>none
   | none=>none
inductive Pl where
 | con (v:TV)
 | p (s:Sh)
 | v (s:Sh)
def Vj(b:Bool): List Pl->List Sh
 | []=>[]
 | .con _::r=>Vj b r
 | .p s::r=>match b with
  | false=>s::Vj b r
  | true=>Vj b r
 | .v s::r=>match b with
  | true=>s::Vj b r
  | false=>Vj b r
def mkV: (l:List Pl)->eW (Vj false l)->eW (Vj true l)->List TV
 | [],_,_=>[]
 | .con v::r,p,q=>v::mkV r p q
 | .p s::r,p,q=>s.tv (eW.hd p)::mkV r (eW.tl p) q
 | .v s::r,p,q=>s.tv (eW.hd q)::mkV r p (eW.tl q)
def wD: TV->TV->Bool
 | .undef,_=>true
 | .ms i n,v=>match n with
  | none=>match v with
   | .ms j m=>match m with
    | none=>Nat.beq i j
    | some _=>false
   | _=>false
  | some _=>false
 | .ptr i o,v=>match v with
  | .ptr j q=>match Nat.beq i j with
   | true=>Nat.beq o q
   | false=>false
  | _=>false
 | .mp i,v=>match v with
  | .mp j=>Nat.beq i j
  | _=>false
 | .it i,v=>match v with
  | .it j=>Nat.beq i j
  | _=>false
 | .rs i n,v=>match v with
  | .rs j m=>match Nat.beq i j with
   | true=>Nat.beq n m
   | false=>false
  | _=>false
 | .fn i cs,v=>match cs with
  | []=>match v with
   | .fn j ds=>match ds with
    | []=>Nat.beq i j
    | _=>false
   | _=>false
  | _=>false
 | .lit u,v=>match u with
  | .int k a=>match v with
   | .lit y=>match y with
    | .int k' b=>match decEq k k' with
     | isTrue _=>match decEq a b with
      | isTrue _=>true
      | isFalse _=>false
     | isFalse _=>false
    | _=>false
   | _=>false
  | .bool b=>match v with
   | .lit y=>match y with
    | .bool c=>match b with
     | true=>c
     | false=>match c with
      | true=>false
      | false=>true
    | _=>false
   | _=>false
  | .slice a l c=>match a with
   | none=>match l with
    | 0=>match c with
     | 0=>match v with
      | .lit y=>match y with
       | .slice a l c=>match a with
        | none=>match l with
         | 0=>match c with
          | 0=>true
          | _=>false
         | _=>false
        | _=>false
       | _=>false
      | _=>false
     | _=>false
    | _=>false
   | _=>false
  | _=>false
 | .emp b,v=>match v with
  | .emp c=>match b with
   | false=>true
   | true=>c
  | _=>false
 | _,_=>false
def JQ: List TV->List TV->Bool
 | [],l=>match l with
  | []=>true
  | _=>false
 | c::r,l=>match l with
  | []=>false
  | v::s=>match c with
   | .ms _ _=>false
   | c=>match wD c v with
    | true=>JQ r s
    | false=>false
def SN: TV->TV->Bool
 | .fn i cs,v=>match v with
  | .fn j ds=>match Nat.beq i j with
   | true=>JQ cs ds
   | false=>false
  | _=>false
 | u,v=>wD u v
def Gz: (l:List Pl)->List TV->Option (eW (Vj false l)×eW (Vj true l))
 | [],vs=>match vs with
  | []=>some ((),())
  | _=>none
 | .con c::r,vs=>match vs with
  | []=>none
  | v::vs=>match SN c v with
   | true=>Gz r vs
   | false=>none
 | .p s::r,vs=>match vs with
  | []=>none
  | v::vs=>match s.rd 3 [] v with
   | some x=>match Gz r vs with
    | some p=>some (eW.cs x p.1,p.2)
    | none=>none
   | none=>none
 | .v s::r,vs=>match vs with
  | []=>none
  | v::vs=>match s.rd 3 [] v with
   | some x=>match Gz r vs with
    | some p=>some (p.1,eW.cs x p.2)
    | none=>none
   | none=>none
inductive OL where
 | box (n:Nat)
 | bx
 | lst (k:Nat)
 | map (kk vk:Nat)
 | it
 | rows (s m:Nat)
 | gone
structure rZ where
 fo:List Nat
 ts:List (Nat×Option Nat)
 os:List OL
 ss:List Pl
abbrev rZ.P(L:rZ): Type:=eW (Vj false L.ss)
abbrev rZ.V(L:rZ): Type:=eW (Vj true L.ss)
def plT: List (Nat×Option Nat)->List TV->TT
 | t::ts,vs=>match t.2 with
  | some n=>(t.1,.agg (vs.take n))::plT ts (vs.drop n)
  | none=>match vs with
   | v::vs=>(t.1,v)::plT ts vs
   | []=>[]
 | [],_=>[]
def nO: List OL->Nat
 | []=>0
 | o::r=>match o with
  | .box n=>n+nO r
  | .rows s m=>s*m+nO r
  | .gone=>nO r
  | _=>nO r+1
def M3: TV->jC
 | .agg cs=>.box cs
 | _=>.gone
def M2(v:TV): jC:=match VB v with
 | some p=>.it p.1 p.2
 | none=>.gone
def kO{α:Type}(s:Nat): Nat->List α->List (List α)
 | 0,_=>[]
 | m+1,l=>l.take s::kO s m (l.drop s)
def JC(k:Nat): TV->jC
 | .sl k' l=>match Nat.beq k' k with
  | true=>.lst k' l
  | false=>.gone
 | _=>.gone
def RH(kk vk:Nat): TV->jC
 | .rmp a b m=>match Nat.beq a kk with
  | true=>match Nat.beq b vk with
   | true=>.map a b m
   | false=>.gone
  | false=>.gone
 | _=>.gone
def Qi: List OL->List TV->TH
 | [],_=>[]
 | o::r,vs=>match o with
  | .box n=>.box (vs.take n)::Qi r (vs.drop n)
  | .gone=>.gone::Qi r vs
  | .lst k=>match vs with
   | v::vs=>JC k v::Qi r vs
   | []=>[]
  | .map kk vk=>match vs with
   | v::vs=>RH kk vk v::Qi r vs
   | []=>[]
  | .it=>match vs with
   | v::vs=>M2 v::Qi r vs
   | []=>[]
  | .bx=>match vs with
   | v::vs=>M3 v::Qi r vs
   | []=>[]
  | .rows s m=>.rows s (kO s m (vs.take (s*m)))::Qi r (vs.drop (s*m))
def rZ.mkM(L:rZ)(M:List TV): TS:=⟨plT L.ts (M.drop (nO L.os)),Qi L.os (M.take (nO L.os))⟩
def rZ.mk'(L:rZ)(p:L.P)(q:L.V): TS:=L.mkM (mkV L.ss p q)
def H6(n:Nat)(φ:Nat->cG): List Nat->TH->TH
 | [],H=>H
 | i::r,H=>(H6 n φ r H).set i (.fr n (φ i))
def rZ.mkG(L:rZ)(n:Nat)(φ:Nat->cG)(p:L.P)(q:L.V): TS:=⟨(L.mk' p q).tm,H6 n φ L.fo (L.mk' p q).hp⟩
def upT(tm:TT): List (Nat×Option Nat)->Option (List TV)
 | []=>some []
 | t::r=>match dV t.1 tm with
  | some v=>match upT tm r with
   | some vs=>match t.2 with
    | none=>some (v::vs)
    | some n=>match v with
     | .agg cs=>match Nat.beq cs.length n with
      | true=>some (cs++vs)
      | false=>none
     | _=>none
   | none=>none
  | none=>none
def XX: List OL->TH->Option (List TV)
 | [],H=>match H with
  | []=>some []
  | _=>none
 | o::r,H=>match H with
  | []=>none
  | b::H=>match XX r H with
   | none=>none
   | some vs=>match o with
    | .gone=>some vs
    | .box n=>match b with
     | .box cs=>match Nat.beq cs.length n with
      | true=>some (cs++vs)
      | false=>none
     | _=>none
    | .lst k=>match b with
     | .lst k' l=>match Nat.beq k' k with
      | true=>some (.sl k' l::vs)
      | false=>none
     | _=>none
    | .map kk vk=>match b with
     | .map a b m=>match Nat.beq a kk with
      | true=>match Nat.beq b vk with
       | true=>some (.rmp a b m::vs)
       | false=>none
      | false=>none
     | _=>none
    | .bx=>match b with
     | .box cs=>some (.agg cs::vs)
     | _=>none
    | .it=>match b with
     | .it s p=>some (.tup [.lit (.string s),.lit (.int .i64 (.ofNat p))]::vs)
     | _=>none
    | .rows s m=>match b with
     | .rows s' es=>match Nat.beq s' s with
      | true=>match Nat.beq es.length m with
       | true=>match es.all λe=>Nat.beq e.length s with
        | true=>some (es.flatten++vs)
        | false=>none
       | false=>none
      | false=>none
     | _=>none
def Hc(H:TH): List TV->Bool
 | []=>true
 | v::r=>match v with
  | .ms i _=>match H[i]? with
   | some o=>match o with
    | .lst _ _=>Hc H r
    | _=>false
   | none=>false
  | .pel i _ _=>match H[i]? with
   | some o=>match o with
    | .lst _ _=>Hc H r
    | _=>false
   | none=>false
  | _=>Hc H r
def rZ.get(L:rZ)(S:TS): Option (L.P×L.V):=match upT S.tm L.ts with
 | some a=>match XX L.os S.hp with
  | some b=>match Gz L.ss (b++a) with
   | some p=>match Hc (L.mk' p.1 p.2).hp (mkV L.ss p.1 p.2) with
    | true=>some p
    | false=>none
   | none=>none
  | none=>none
 | none=>none
def j6(os:List OL): List Nat->Bool
 | []=>true
 | i::r=>match os[i]? with
  | some o=>match o with
   | .gone=>j6 os r
   | _=>false
  | none=>false
def rZ.fit(L:rZ)(S:TS): Option (L.P×L.V):=match j6 L.os L.fo with
 | true=>L.get S
 | false=>none
def ZW(n:Nat)(H:TH): List Nat->Option (List cG)
 | []=>some []
 | i::r=>match H[i]? with
  | some o=>match o with
   | .fr k a=>match Nat.beq k n with
    | true=>match ZW n H r with
     | some l=>some (a::l)
     | none=>none
    | false=>none
   | _=>none
  | none=>none
def rZ.getF(L:rZ)(n:Nat)(S:TS): Option (List cG×L.P×L.V):=match ZW n S.hp L.fo with
 | some f=>match L.fit S with
  | some p=>some (f,p)
  | none=>none
 | none=>none
structure vR(P:Type) where
 x:bJ
 lay:rZ
 pr:P->lay.P
def kR{P:Type}: List (vR P)->Type
 | []=>Empty
 | [o]=>o.lay.V
 | o::o'::r=>o.lay.V⊕kR (o'::r)
structure Jx where
 ins:rZ
 kl:List Nat
 kt:List Nat
 outs:List (vR ins.P)
 F:Nat->ins.P->ins.V->Option (kR outs)
structure IV where
 ka:List Sh
 kr:List Nat
 kp:Bool
 F:Nat->eW ka->Option (eW (kr.map .v))
structure EqS where
 k:Nat
 dec:∀a b:den k,Decidable (a=b)
structure E8 where
 k:Nat
 dec:∀a b:den k,Decidable (a=b)
structure Z5 where
 s:Jx
 vi:Nat
 fl:Nat
 na:Nat
 nr:Nat
abbrev Z5.kl(s:Z5): List Nat:=s.s.kl
inductive PSp where
 | srt (k:Nat)
 | ins (k:Nat)
 | cln (k:Nat)
 | ord (k:Nat) (F:List (gO.den k)->List (gO.den k))
structure XE where
 cs:Nat->Option IV
 eq:TypeId->Option EqS
 km:TypeId->Option E8
 st:TypeId->Bool
 cv:TypeId->TypeId->Option IntKind
 pr:Nat->Option PSp
 kd:List (Nat×Nat)
 ls:List (Nat×List Jx)
 un:List (Nat×Nat)
 il:List Z5
 nt:Nat
 fl:Nat
def qG(lx:List Bool): TT->TT
 | []=>[]
 | p::r=>match lx[p.1]? with
  | some b=>match b with
   | true=>p::qG lx r
   | false=>qG lx r
  | none=>qG lx r
def bX(n:Nat): TV->TV
 | .ms i m=>match Nat.blt i n with | true=>.ms i m | false=>.undef
 | .ptr i o=>match Nat.blt i n with | true=>.ptr i o | false=>.undef
 | .pel i j o=>match Nat.blt i n with | true=>.pel i j o | false=>.undef
 | .mp i=>match Nat.blt i n with | true=>.mp i | false=>.undef
 | .it i=>match Nat.blt i n with | true=>.it i | false=>.undef
 | .rs i m=>match Nat.blt i n with | true=>.rs i m | false=>.undef
 | .rel i m j o=>match Nat.blt i n with | true=>.rel i m j o | false=>.undef
 | .fn vi cs=>match cs with | []=>.fn vi [] | _=>.undef
 | .agg _=>.undef
 | .tup _=>.undef
 | v=>v
def gM(n:Nat): TV->TV
 | .fn vi cs=>.fn vi (cs.map (bX n))
 | v=>bX n v
def nY(n:Nat): TV->TV
 | .agg cs=>.agg (cs.map (gM n))
 | v=>gM n v
def fY(n:Nat): jC->jC
 | .box cs=>.box (cs.map (gM n))
 | .rows s es=>.rows s (es.map λe=>e.map (gM n))
 | .fr k a=>match Nat.ble k n with
  | true=>.fr k a
  | false=>.gone
 | o=>o
def Yy(kl:List Nat)(n:Nat)(H0:TH): List Nat->TH->TH
 | [],H=>H
 | i::r,H=>match H0[i]? with
  | some o=>(Yy kl n H0 r H).set i (sK kl (fY n o))
  | none=>Yy kl n H0 r H
def rsT(kl:List Nat)(n:Nat)(T0:TT): List Nat->TT
 | []=>[]
 | t::r=>match dV t T0 with
  | some v=>(t,zW kl (nY n v))::rsT kl n T0 r
  | none=>rsT kl n T0 r
def aft(s:Jx)(T0:TT)(H0:TH)(x:bJ)(S:TS): TS:=⟨match x with
 | .ret=>S.tm
 | _=>S.tm++rsT s.kl H0.length T0 s.kt,Yy s.kl H0.length H0 s.ins.fo S.hp⟩
def wW(live:List Bool)(tr:Bool)(n:Nat)(S:TS): TS:=match tr with
 | true=>⟨(qG live S.tm).map λp=>(p.1,nY n p.2),(S.hp.take n).map (fY n)⟩
 | false=>⟨qG live S.tm,S.hp⟩
variable {R:Type}
def wB(v:TV)(K:TV->Option R): Option R:=match v with
 | .lit u=>match u with
  | .bool b=>cnd b (K (.lit (.bool true))) (K (.lit (.bool false)))
  | u=>K (.lit u)
 | v=>K v
def SA: List TV->(List TV->Option R)->Option R
 | [],K=>K []
 | v::vs,K=>wB v λv=>SA vs λvs=>K (v::vs)
def R0: (l:List Pl)->eW (Vj false l)->eW (Vj true l)->(List TV->Option R)->Option R
 | [],_,_,K=>K []
 | .con v::r,p,q,K=>R0 r p q λvs=>K (v::vs)
 | .p s::r,p,q,K=>R0 r (eW.tl p) q λvs=>K (s.tv (eW.hd p)::vs)
 | .v s::r,p,q,K=>wB (s.tv (eW.hd q)) λv=>R0 r p (eW.tl q) λvs=>K (v::vs)
def rZ.mkB(L:rZ)(p:L.P)(q:L.V)(K:TS->Option R): Option R:=R0 L.ss p q λvs=>K (L.mkM vs)
def G0{P:Type}(p:P)(b:Bool): (l:List (vR P))->Option (kR l)->(bJ->TS->Option R)->Option R
 | [],_,_=>none
 | [o],r,K=>bnd r λt=>match b with
  | true=>o.lay.mkB (o.pr p) t (K o.x)
  | false=>K o.x (o.lay.mk' (o.pr p) t)
 | o::o'::l,r,K=>bnd2 r (λt=>match b with
  | true=>o.lay.mkB (o.pr p) t (K o.x)
  | false=>K o.x (o.lay.mk' (o.pr p) t)) λs=>G0 p b (o'::l) (some s) K
def fN(E:XE)(d:Option Nat): Nat:=match d with
 | some d=>match dV d E.kd with
  | some k=>k
  | none=>0
 | none=>0
def aCW(E:XE)(d:Option Nat): Option Nat:=match d with
 | some d=>dV d E.kd
 | none=>none
def Hg: TV->Bool
 | .emp b=>b
 | .lit v=>match v with
  | .slice a l c=>match a with
   | none=>match l with
    | 0=>match c with
     | 0=>true
     | _=>false
    | _=>false
   | _=>false
  | _=>false
 | _=>false
def CM(cells:List TV): List (Nat×Nat×TV)->Option (List TV)
 | []=>some cells
 | (off,size,v)::rest=>match Fx v with
  | none=>none
  | some cs=>match Nat.beq cs.length size with
   | true=>match Nat.ble (off+size) cells.length with
    | true=>CM (aR cells off cs) rest
    | false=>none
   | false=>none
def MA(s:Nat)(es:List (List TV)): List (Nat×TV)->Option (List (List TV))
 | []=>some es
 | (i,v)::rest=>match Fx v with
  | none=>none
  | some cs=>match Nat.beq cs.length s with
   | true=>match Nat.blt i es.length with
    | true=>MA s (es.set i cs) rest
    | false=>none
   | false=>none
def fK(S:TS)(id:Nat)(o:jC): TS:=⟨S.tm,S.hp.set id o⟩
def tB(S:TS)(o:jC): TS:=⟨S.tm,S.hp++[o]⟩
def aBf(op:BinOp)(k:IntKind)(a b:Int)(K:TV->Option R): Option R:=match op with
 | .add=>K (.lit (.int k (k.wrap (a+b))))
 | .sub=>K (.lit (.int k (k.wrap (a-b))))
 | .mul=>K (.lit (.int k (k.wrap (a*b))))
 | .eql=>wB (.lit (.bool (a==b))) K
 | .neq=>wB (.lit (.bool (a != b))) K
 | .lss=>wB (.lit (.bool (decide (a<b)))) K
 | .leq=>wB (.lit (.bool (decide (a<=b)))) K
 | .gtr=>wB (.lit (.bool (decide (a > b)))) K
 | .geq=>wB (.lit (.bool (decide (a>=b)))) K
 | _=>none
section
variable [aA]
variable (E:XE)(n:Nat)
def hM(k:IntKind)(a d:Int): Option Int:=if d=0 then none else some (k.wrap (a.tdiv d))
def RZ(op:BinOp)(b:Bool)(K:TV->Option R): Option R:=match op with
 | .eql=>cnd b (K (.lit (.bool true))) (K (.lit (.bool false)))
 | .neq=>cnd b (K (.lit (.bool false))) (K (.lit (.bool true)))
 | _=>none
def HT(l:List Int): ByteArray:=qZ (l.map λx=>x)
def LU: IntKind->Bool
 | .u16=>true
 | _=>false
def M4{α:Type}: (cs:List Cd)->(zL cs->α)->ByteArray->Option (List α)
 | [.int .u8],f,b=>some (b.data.toList.map λx=>f (((x.toNat:Nat):Int),()))
 | _,_,_=>none
def aCF(k:Nat)(b:ByteArray): Option (List (den k)):=M4 (cds k) (cN.pk k) b
def W8{α:Type}: (cs:List Cd)->(α->zL cs)->List α->Option ByteArray
 | [.int .u8],g,l=>some (qZ (l.map λx=>(g x).1))
 | _,_,_=>none
def W7(k:Nat)(l:List (den k)): Option ByteArray:=W8 (cds k) (cN.un k) l
def NQ(H:TH)(k:Nat)(v:TV): Option (List (den k)):=match v with
 | .lit u=>match u with
  | .string b=>aCF k b
  | u=>rdX H k (.lit u)
 | v=>rdX H k v
def RJ(k:Nat)(l:List (den k)): Nat->Nat->(List TV->Option R)->Option R
 | 0,_,K=>K []
 | m+1,i,K=>bnd (idx l ((i:Nat):Int)) λx=>RJ k l m (i+1) λcs=>K (iN k x++cs)
def dX(op:BinOp)(k:IntKind)(a b:Int): Int:=k.wrap ((match op with
 | .and=>BitVec.ofInt k.bits a&&&BitVec.ofInt k.bits b
 | .or=>BitVec.ofInt k.bits a|||BitVec.ofInt k.bits b
 | _=>BitVec.ofInt k.bits a^^^BitVec.ofInt k.bits b).toNat)
def OJ(k:IntKind)(a:Int): Int:=dX .xor k (if k.signed then -1 else k.max) a
def Vk(k:IntKind)(a b:Int): Int:=k.wrap (a*2^(min b.toNat k.bits))
def zM(k:IntKind)(a b:Int): Int:=a.fdiv (2^(min b.toNat k.bits))
def shT(op:BinOp)(k:IntKind)(a b:Int)(K:TV->Option R): Option R:=match op with
 | .shl=>bnd (vF (decide (0<=b))) λ_=>K (.lit (.int k (Vk k a b)))
 | .shr=>bnd (vF (decide (0<=b))) λ_=>K (.lit (.int k (zM k a b)))
 | _=>none
def X3(op:BinOp)(t:TypeId)(x y:TV)(K:TV->Option R): Option R:=match x with
 | .lit u=>match y with
  | .lit w=>match u with
   | .string a=>match w with
    | .string b=>RZ op (decide (a=b)) K
    | _=>none
   | .bool _=>match E.eq t with
    | some e=>match ag e.k with
     | true=>none
     | false=>match gV 0 [] e.k [x] with
      | some a=>match gV 0 [] e.k [y] with
       | some b=>RZ op (@decide (a=b) (e.dec a b)) K
       | none=>none
      | none=>none
    | none=>none
   | .int k a=>match w with
    | .int k' b=>match decEq k k' with
     | isTrue _=>match op with
      | .quo=>bnd (hM k a b) λr=>K (.lit (.int k r))
      | .rem=>bnd (iG a b) λr=>K (.lit (.int k r))
      | .shr=>match k with
       | .u64=>match decEq b 1 with
        | isTrue _=>K (.lit (.int .u64 (Int.fdiv a 2)))
        | isFalse _=>shT .shr .u64 a b K
       | k=>shT .shr k a b K
      | .shl=>shT .shl k a b K
      | .and=>K (.lit (.int k (dX .and k a b)))
      | .or=>K (.lit (.int k (dX .or k a b)))
      | .xor=>K (.lit (.int k (dX .xor k a b)))
      | _=>none
     | isFalse _=>shT op k a b K
    | _=>none
   | _=>none
  | _=>none
 | .agg cs=>match E.eq t with
  | some e=>match ag e.k with
   | true=>match gV 0 [] e.k cs with
    | some a=>match y with
     | .agg ds=>match gV 0 [] e.k ds with
      | some b=>RZ op (@decide (a=b) (e.dec a b)) K
      | none=>none
     | _=>none
    | none=>none
   | false=>none
  | none=>none
 | _=>none
def UE(w:Nat): List Sh->Bool
 | []=>true
 | s::r=>match s with
  | .w _=>UE w r
  | .v _=>match w with
   | 0=>UE w r
   | _=>false
  | _=>false
def xR(w:Nat)(c:IV)(vs:List TV)(H:TH)(K:TV->Option R): Option R:=match rA w H c.ka vs with
 | some p=>match UE w c.ka with
  | false=>none
  | true=>bnd (c.F n p) λr=>SA (vQ (c.kr.map .v) r) λvs=>match vs with
   | [v]=>K v
   | vs=>K (.tup vs)
 | none=>none
def i64?(v:TV): Option Int:=match v with
 | .lit u=>match u with
  | .int k n=>match k with
   | .i64=>some n
   | _=>none
  | _=>none
 | _=>none
def G8(vs:List TV): Option (Int×Int):=match vs with
 | [x,y]=>match i64? x with
  | some a=>match i64? y with
   | some b=>some (a,b)
   | none=>none
  | none=>none
 | _=>none
def UO(H:TH)(kk:Nat): TV->Option (Σ vk,List (den kk×den vk))
 | .rmp a b m=>match Hz (a':=kk) (b':=b) m with
  | some m=>some ⟨b,m⟩
  | none=>none
 | .mp id=>match H[id]? with
  | some o=>match o with
   | .map a b m=>match Hz (a':=kk) (b':=b) m with
    | some m=>some ⟨b,m⟩
    | none=>none
   | _=>none
  | none=>none
 | _=>none
def I3(H:TH): TV->Option Nat
 | .rmp _ _ m=>some m.length
 | .mp id=>match H[id]? with
  | some o=>match o with
   | .map _ _ m=>some m.length
   | _=>none
  | none=>none
 | _=>none
def NE(v:TV): Option ByteArray:=match v with
 | .lit u=>match u with
  | .string s=>some s
  | _=>none
 | _=>none
def Bd(tm:TT)(x:Option aN)(d:Int): Option Int:=match x with
 | none=>some d
 | some x=>i64? (bH tm x)
def oL(tm:TT): Option aN->Bool
 | none=>true
 | some x=>match i64? (bH tm x) with
  | some n=>match n with
   | .ofNat n=>match n with
    | 0=>true
    | _=>false
   | _=>false
  | none=>false
def QX(tm:TT)(lo:Option aN)(h m:aN): Bool:=match lo with
 | none=>match h with
  | .tmp _=>false
  | _=>oL tm none&&(oL tm (some h)&&oL tm (some m))
 | some _=>oL tm lo&&(oL tm (some h)&&oL tm (some m))
theorem QW{tm:TT}{lo:Option aN}{h m:aN}(e:QX tm lo h m=true): (oL tm lo&&(oL tm (some h)&&oL tm (some m)))=true:=by
 unfold QX at e;split at e
 .split at e
  .cases e
  .exact e
 .exact e
def sub{α:Type}(l:List α)(w:Nat×Nat)(a b:Int): Option (Nat×Nat):=if 0<=a/\a<=b/\w.1+b.toNat<=l.length then some (w.1+a.toNat,b.toNat-a.toNat) else none
def D5{α:Type}(l:List α)(w:Nat×Nat)(ys:List α): Option (List α):=if w.1+w.2+ys.length<=l.length/\l.length+ys.length<=1000000 then some (aR l (w.1+w.2) ys) else none
def X7{α:Type}(l:List α)(w:Nat×Nat)(ys:List α): Option (List α):=if w.1=0/\w.2=l.length/\l.length+ys.length<=1000000 then some (l++ys) else D5 l w ys
def qY{α:Type}(l:List α): Option (Nat×Nat)->Nat×Nat
 | none=>(0,l.length)
 | some w=>w
def cpy{α:Type}(l:List α)(w:Nat×Nat)(ys:List α): Option (List α):=if ys.length<=w.2/\w.1+ys.length<=l.length then some (aR l w.1 ys) else none
def clr{α:Type}(l:List α)(w:Nat×Nat)(z:α): Option (List α):=if w.1+w.2<=l.length then some (aR l w.1 (List.replicate w.2 z)) else none
def rep{α:Type}(x:α)(a b:Int): Option (List α):=if 0<=a/\a<=b/\b<=1000000 then some (List.replicate a.toNat x) else none
def V4(s:Nat)(tm:TT)(H:TH)(lo hi:Option aN)(v:TV)(K:TV->Option R): Option R:=match v with
 | .sl k l=>match Nat.beq (cds k).length s with
  | true=>match Bd tm lo 0 with
   | some a=>match Bd tm hi ((l.length:Nat):Int) with
    | some b=>bnd (Ht l a b) λl'=>K (.sl k l')
    | none=>none
   | none=>none
  | false=>none
 | .vw k l=>match Nat.beq (cds k).length s with
  | true=>match Bd tm lo 0 with
   | some a=>match Bd tm hi ((l.length:Nat):Int) with
    | some b=>bnd (Ht l a b) λl'=>K (.vw k l')
    | none=>none
   | none=>none
  | false=>none
 | .ms id m=>match H[id]? with
  | some o=>match o with
   | .lst k l=>match Nat.beq (cds k).length s&&Nat.blt 0 s with
    | true=>match Bd tm lo 0 with
     | some a=>match m with
      | none=>match Bd tm hi ((l.length:Nat):Int) with
       | some b=>bnd (sub l (0,l.length) a b) λw=>K (.ms id (some w))
       | none=>none
      | some w=>match Bd tm hi ((w.2:Nat):Int) with
       | some b=>bnd (sub l w a b) λw=>K (.ms id (some w))
       | none=>none
     | none=>none
    | false=>none
   | _=>none
  | none=>none
 | .emp b=>match oL tm lo&&oL tm hi with
  | true=>K (.emp b)
  | false=>none
 | .lit u=>match u with
  | .slice a l c=>match a with
   | none=>match l with
    | 0=>match c with
     | 0=>match oL tm lo&&oL tm hi with
      | true=>K (.lit u)
      | false=>none
     | _=>none
    | _=>none
   | _=>none
  | _=>none
 | _=>none
def FF(H:TH)(id n i:Nat): Option (List TV):=match H[id]? with
 | some o=>match o with
  | .rows _ es=>match Nat.beq es.length n with
   | true=>es[i]?
   | false=>none
  | _=>none
 | none=>none
def PU(k s:Nat)(n:Nat)(cs:List TV): Option (List (den k)):=oR [] k (kO s n cs)
def SU(nr:Nat)(tm:TT): TV:=match nr with
 | 1=>match dV 0 tm with
  | some v=>v
  | none=>.undef
 | m=>.tup ((List.range m).map λj=>match dV j tm with
  | some v=>v
  | none=>.undef)
def Hs: Nat->List TV->TT
 | _,[]=>[]
 | i,v::vs=>(i,v)::Hs (i+1) vs
def Ip(kl:List Nat): Nat->TH->TH->Bool
 | _,[],_=>true
 | i,a::r,s=>match s with
  | []=>false
  | b::s=>match a with
   | .lst _ _=>match b with
    | .lst _ _=>Ip kl (i+1) r s
    | _=>match Au i kl with
     | true=>Ip kl (i+1) r s
     | false=>false
   | _=>Ip kl (i+1) r s
def OS: TH->TH->Bool
 | [],_=>true
 | o::r,H=>match H with
  | []=>false
  | b::s=>match o with
   | .lst _ l=>match b with
    | .lst _ l'=>Nat.beq l'.length l.length&&OS r s
    | _=>false
   | _=>OS r s
def pI(fl vi:Nat)(vs:List TV)(S:TS)(K:TV->TS->Option R): List Z5->Option R
 | []=>none
 | sp::r=>match Nat.beq sp.vi vi with
  | false=>pI fl vi vs S K r
  | true=>match Nat.beq sp.fl fl with
   | false=>pI fl vi vs S K r
   | true=>match Nat.beq vs.length sp.na with
    | false=>pI fl vi vs S K r
    | true=>match sp.s.ins.fit ⟨Hs 0 vs,S.hp⟩ with
     | some (p,q)=>match Ip (sp.kl++sp.s.ins.fo) 0 S.hp (sp.s.ins.mk' p q).hp with
      | true=>match Au 999999 sp.kl with
       | false=>G0 p true sp.s.outs (sp.s.F n p q) λ_ S'=>K (SU sp.nr S'.tm) ⟨BV sp.kl S.tm,Yy sp.kl S.hp.length S.hp sp.s.ins.fo S'.hp⟩
       | true=>match Ip sp.s.ins.fo 0 S.hp (sp.s.ins.mk' p q).hp with
        | true=>G0 p true sp.s.outs (sp.s.F n p q) λ_ S'=>cnd (OS (sp.s.ins.mk' p q).hp S'.hp) (K (SU sp.nr S'.tm) ⟨S.tm,Yy [] S.hp.length S.hp sp.s.ins.fo S'.hp⟩) none
        | false=>pI fl vi vs S K r
      | false=>pI fl vi vs S K r
     | none=>pI fl vi vs S K r
def VC: TV->Bool
 | .ptr _ _=>true
 | .pel _ _ _=>true
 | .ms _ _=>true
 | .mp _=>true
 | .rs _ _=>true
 | .rel _ _ _ _=>true
 | _=>false
def I9(vi:Nat)(vs:List TV)(S:TS)(K:TV->TS->Option R): Option R:=match vs.any VC with
 | true=>pI n S.hp.length vi (vs.map Q6) S (λv _=>match v with
  | .lit u=>match u with
   | .slice _ _ _=>none
   | u=>K (.lit u) S
  | .sl k l=>K (.sl k l) S
  | _=>none) E.il
 | false=>none
def Na(v:TV)(S:TS)(K:TV->TS->Option R): Option R:=match v with
 | .sl k l=>K (.ms S.hp.length none) (tB S (.lst k l))
 | .tup vs=>match vs with
  | v::r=>match v with
   | .sl k l=>match r.all λv=>match v with | .lit _=>true | _=>false with
    | true=>K (.tup (.ms S.hp.length none::r)) (tB S (.lst k l))
    | false=>none
   | _=>none
  | []=>none
 | _=>none
def EB(E:XE)(d o:Nat): Nat:=fN E (some (1000*(d+1)+o))
def jA(n:Nat)(cs:List TV): List (Nat×Nat)->List TV
 | []=>cs
 | (o,_)::r=>jA (n+1) (cs.set o (.ms n none)) r
def Ww: TV->Bool
 | .lit u=>match u with
  | .slice a l c=>match a with
   | none=>match l with
    | 0=>match c with
     | 0=>true
     | _=>false
    | _=>false
   | _=>false
  | _=>false
 | _=>false
def QZ(E:XE): Option Nat->Option (Nat×Nat)
 | some d=>match dV (1000*(d+1)+999) E.kd with
  | some _=>some (0,0)
  | none=>none
 | none=>none
def Qz(E:XE)(d:Nat): List (Nat×Nat)->Bool
 | []=>true
 | (o,s)::r=>match Nat.beq (cds (EB E d o)).length s with
  | true=>Qz E d r
  | false=>false
def V9(c:IV)(k:Nat)(H:TH)(x y:den k): Option Int:=xR n 1 c [val k x,val k y] H i64?
def qI(id:Nat)(S:TS): TS:=fU id (fK S id .gone)
def W0(vi id k:Nat)(caps:List TV)(S:TS)(x y:den k): Option Int:=pI n S.hp.length vi (val k x::val k y::caps.map (zW [id])) ⟨[],(qI id S).hp⟩ (λv _=>i64? v) E.il
def ZA{α:Type}(F:α->α->Option Int)(m:Option (Nat×Nat))(l:List α)(K:List α->Option R): Option R:=match m with
 | none=>bnd (vF (decide (l.length<=1000000))) λ_=>bnd (vB F l) K
 | some w=>bnd (vF (decide (l.length<=1000000/\w.1+w.2<=l.length))) λ_=>bnd (vB F (RA l (some w))) λl'=>K (aR l w.1 l')
def aBg{α:Type}(l:List α)(j:Int)(y:α): Option (List α):=if 0<=j/\j.toNat<=l.length/\l.length<=1000000 then some (l.take j.toNat++y::l.drop j.toNat) else none
def UQ(fl:Nat)(H:TH)(k:Nat)(v:TV): Option (Nat×List (den k)):=match v with
 | .ms id m=>match m with
  | some _=>none
  | none=>match Nat.ble fl id with
   | false=>none
   | true=>match H[id]? with
    | some o=>match o with
     | .lst k' l=>match xQ (λk=>List (den k)) (k':=k) l with
      | some l=>some (id,l)
      | none=>none
     | _=>none
    | none=>none
 | _=>none
def Q4(H:TH)(k id:Nat)(v:TV): Option (den k):=match v with
 | .ms _ _=>match UQ 0 H k v with
  | some q=>match Nat.beq id q.1 with
   | true=>none
   | false=>match q.2 with
    | [z]=>some z
    | _=>none
  | none=>none
 | _=>none
def aBs(d k:Nat)(vs:List TV)(S:TS)(K:TV->TS->Option R): Option R:=match vs with
 | [x]=>match rdX [] k x with
  | some l=>bnd (prd d) λ_=>cnd l.isEmpty (K (.emp false) S) (bnd (app [] l) λl'=>K (.ms S.hp.length none) (tB S (.lst k l')))
  | none=>none
 | _=>none
def TA(p:PSp)(vs:List TV)(S:TS)(K:TV->TS->Option R): Option R:=match p with
 | .srt k=>match vs with
  | [x,f]=>match x with
   | .ms id m=>match Nat.ble E.fl id with
    | false=>none
    | true=>match S.hp[id]? with
     | some o=>match o with
      | .lst k' l=>match xQ (λk=>List (den k)) (k':=k) l with
       | some l=>match f with
        | .fn vc caps=>match caps with
         | []=>match E.cs vc with
          | some c=>ZA (V9 n c k (qI id S).hp) m l λl'=>K (.tup []) (fK S id (.lst k l'))
          | none=>none
         | c::r=>ZA (W0 E n vc id k (c::r) S) m l λl'=>K (.tup []) (fK S id (.lst k l'))
        | _=>none
       | none=>none
      | _=>none
     | none=>none
   | _=>none
  | _=>none
 | .ord k F=>match vs with
  | [x]=>match UQ E.fl S.hp k x with
   | some p=>bnd (vF (decide (p.2.length<=1000000))) λ_=>K (.tup []) (fK S p.1 (.lst k (F p.2)))
   | none=>none
  | _=>none
 | .ins k=>match vs with
  | [x,i,y]=>match UQ E.fl S.hp k x with
   | some p=>match i64? i with
    | some j=>match Q4 S.hp k p.1 y with
     | some z=>bnd (aBg p.2 j z) λl'=>K (.ms p.1 none) (fU p.1 (fK S p.1 (.lst k l')))
     | none=>none
    | none=>none
   | none=>none
  | _=>none
 | .cln _=>none
def bO(d:Option Nat)(op:tK)(S:TS)(K:TV->TS->Option R): Option R:=
 match op with
 | .mov x=>K (bH S.tm x) S
 | .movN x=>K (Q6 (bH S.tm x)) S
 | .pick c a b=>match bH S.tm c with
  | .lit u=>match u with
   | .bool t=>cnd t (K (bH S.tm a) S) (K (bH S.tm b) S)
   | _=>none
  | _=>none
 | .alloc z=>K (.ptr S.hp.length 0) (tB S (.box (z.map .lit)))
 | .ptrK n=>K (.ptr n 0) S
 | .claim s=>match Nat.beq (cds (fN E d)).length s with
  | true=>K (.ms S.hp.length (QZ E d)) (tB S (.lst (fN E d) []))
  | false=>none
 | .boxC x cl=>match d with
  | some d=>match Qz E d cl with
   | true=>match Fx (bH S.tm x) with
    | some cs=>match cl.all λc=>match cs[c.1]? with | some v=>Ww v | none=>false with
     | true=>K (.ptr (S.hp.length+cl.length) 0) ⟨S.tm,(S.hp++cl.map λc=>.lst (EB E d c.1) [])++[.box (jA S.hp.length cs cl)]⟩
     | false=>none
    | none=>none
   | false=>none
  | none=>none
 | .box x=>match Fx (bH S.tm x) with
  | some cs=>K (.ptr S.hp.length 0) (tB S (.box cs))
  | none=>none
 | .build z ps=>match CM (z.map .lit) (ps.map λ(o,s,x)=>(o,s,bH S.tm x)) with
  | some cs=>K (.agg cs) S
  | none=>none
 | .buildC z ps cl=>match d with
  | some d=>match Qz E d cl with
   | true=>match CM (z.map .lit) (ps.map λ(o,s,x)=>(o,s,bH S.tm x)) with
    | some cs=>match cl.all λc=>match cs[c.1]? with | some v=>Ww v | none=>false with
     | true=>K (.agg (jA S.hp.length cs cl)) ⟨S.tm,S.hp++cl.map λc=>.lst (EB E d c.1) []⟩
     | false=>none
    | none=>none
   | false=>none
  | none=>none
 | .buildSl pu s m z ps=>match MA s (List.replicate m (z.map .lit)) (ps.map λ(i,x)=>(i,bH S.tm x)) with
  | some es=>match aCW E d with
   | none=>match pu with
    | true=>none
    | false=>K (.rs S.hp.length m) (tB S (.rows s es))
   | some _=>match oR S.hp (fN E d) es with
    | some l=>match Nat.beq (cds (fN E d)).length s with
     | true=>match pu with
      | true=>match es with
       | []=>K (.emp true) S
       | _=>K (.sl (fN E d) l) S
      | false=>K (.ms S.hp.length none) (tB S (.lst (fN E d) l))
     | false=>none
    | none=>none
  | none=>none
 | .allocC z cl=>match d with
  | some d=>match Qz E d cl with
   | true=>K (.ptr (S.hp.length+cl.length) 0) ⟨S.tm,(S.hp++cl.map λc=>.lst (EB E d c.1) [])++[.box (jA S.hp.length (z.map .lit) cl)]⟩
   | false=>none
  | none=>none
 | .load agg n x=>match bH S.tm x with
  | .rel id m i off=>match FF S.hp id m i with
   | some cs=>zU cs agg off n λv=>K v S
   | none=>none
  | .ptr id off=>match S.hp[id]? with
   | some o=>match o with
    | .box cs=>zU cs agg off n λv=>K v S
    | _=>none
   | none=>none
  | .rptr cs=>zU cs agg 0 n λv=>K v S
  | .sptr k x=>zU (iN k x) agg 0 n λv=>K v S
  | .pel id i off=>match S.hp[id]? with
   | some o=>match o with
    | .lst k l=>bnd (idx l i) λx=>zU (iN k x) agg off n λv=>K v S
    | _=>none
   | none=>none
  | _=>none
 | .store n x v=>match Fx (bH S.tm v) with
  | some cs=>match Nat.beq cs.length n with
   | true=>match bH S.tm x with
    | .ptr id off=>match Nat.ble E.fl id with
     | false=>none
     | true=>match S.hp[id]? with
      | some o=>match o with
       | .box bs=>match Nat.ble (off+cs.length) bs.length with
        | true=>K (.lit aT) (fK S id (.box (aR bs off cs)))
        | false=>none
       | _=>none
      | none=>none
    | .pel id i off=>match Nat.ble E.fl id with
     | false=>none
     | true=>match S.hp[id]? with
      | some o=>match o with
       | .lst k l=>bnd (idx l i) λx=>match Nat.ble (off+cs.length) (cds k).length with
        | true=>match gV 0 [] k (aR (iN k x) off cs) with
         | some x'=>K (.lit aT) (fK S id (.lst k (l.set i.toNat x')))
         | none=>none
        | false=>none
       | _=>none
      | none=>none
    | _=>none
   | false=>none
  | none=>none
 | .nilCheck x=>match bH S.tm x with
  | .ptr id off=>K (.ptr id off) S
  | .pel id i off=>K (.pel id i off) S
  | .rptr cs=>K (.rptr cs) S
  | .sptr k x=>K (.sptr k x) S
  | .fn vi caps=>K (.fn vi caps) S
  | _=>none
 | .ibin op x y=>match bH S.tm x with
  | .lit u=>match u with
   | .int k a=>match bH S.tm y with
    | .lit w=>match w with
     | .int k' b=>match decEq k k' with
      | isTrue _=>aBf op k a b λv=>K v S
      | isFalse _=>none
     | _=>none
    | _=>none
   | _=>none
  | _=>none
 | .bin op t x y=>X3 E op t (bH S.tm x) (bH S.tm y) λv=>K v S
 | .slArr s n x=>match bH S.tm x with
  | .ptr id off=>match off with
   | 0=>match Nat.ble E.fl id with
    | false=>none
    | true=>match S.hp[id]? with
     | some o=>match o with
      | .box cs=>match Nat.beq cs.length n&&(Nat.blt 0 n&&Nat.beq (cds (fN E d)).length 1) with
       | true=>match oR [] (fN E d) (cs.map λc=>[c]) with
        | some l=>K (.sl (fN E d) l) (qI id S)
        | none=>none
       | false=>none
      | _=>none
     | none=>none
   | _=>none
  | _=>none
 | .un op x=>match op with
  | .neg=>match bH S.tm x with
   | .lit u=>match u with
    | .int k a=>K (.lit (.int k (k.wrap (0-a)))) S
    | _=>none
   | _=>none
  | .xor=>match bH S.tm x with
   | .lit u=>match u with
    | .int k a=>K (.lit (.int k (OJ k a))) S
    | _=>none
   | _=>none
  | .not=>match bH S.tm x with
   | .lit u=>match u with
    | .bool b=>K (.lit (.bool (!b))) S
    | _=>none
   | _=>none
  | _=>none
 | .fieldAddr off x=>match bH S.tm x with
  | .ptr id o=>K (.ptr id (o+off)) S
  | .pel id i o=>K (.pel id i (o+off)) S
  | .rptr cs=>K (.rptr (cs.drop off)) S
  | .sptr k x=>K (.rptr ((iN k x).drop off)) S
  | .rel id m i o=>K (.rel id m i (o+off)) S
  | _=>none
 | .field agg n off x=>match bH S.tm x with
  | .agg cs=>zU cs agg off n λv=>K v S
  | _=>none
 | .idxAddr s x i=>match CE (bH S.tm i) with
  | some i=>match bH S.tm x with
   | .sl k l=>match Nat.beq (cds k).length s with
    | true=>bnd (idx l i) λx=>K (.rptr (iN k x)) S
    | false=>none
   | .vw k l=>match Nat.beq (cds k).length s with
    | true=>bnd (idx l i) λx=>K (.rptr (iN k x)) S
    | false=>none
   | .ms id m=>match S.hp[id]? with
    | some o=>match o with
     | .lst k l=>match Nat.beq (cds k).length s with
      | true=>match m with
       | none=>bnd (GT l l.length i) λx=>K (.pel id i 0) S
       | some w=>bnd (idx (RA l (some w)) i) λx=>K (.pel id (i+((w.1:Nat):Int)) 0) S
      | false=>none
     | _=>none
    | none=>none
   | .rs id m=>match i with
    | .ofNat j=>match S.hp[id]? with
     | some o=>match o with
      | .rows s' es=>match Nat.beq s' s&&(Nat.beq es.length m&&Nat.blt j m) with
       | true=>K (.rel id m j 0) S
       | false=>none
      | _=>none
     | none=>none
    | _=>none
   | _=>none
  | none=>none
 | .index agg s m x i=>match bH S.tm x with
  | .agg cs=>match Nat.beq cs.length (m*s) with
   | false=>none
   | true=>match CE (bH S.tm i) with
    | none=>none
    | some i=>match d with
     | none=>none
     | some d'=>match dV d' E.kd with
      | none=>match i with
       | .ofNat j=>match Nat.blt j m with
        | true=>zU cs agg (j*s) s λv=>K v S
        | false=>none
       | _=>none
      | some k=>match agg with
       | true=>match Nat.beq (cds k).length s with
        | true=>match PU k s m cs with
         | some l=>bnd (idx l i) λx=>K (.agg (iN k x)) S
         | none=>none
        | false=>none
       | false=>none
  | _=>none
 | .mkMap=>match cds (fN E d) with
  | [c]=>match c with
   | .mp kk vk=>K (.mp S.hp.length) (tB S (.map kk vk []))
   | _=>none
  | _=>none
 | .lookup kt z m k ok=>match E.km kt with
  | some ks=>match Kg 0 [] ks.k (bH S.tm k) with
   | some kx=>match UO S.hp ks.k (bH S.tm m) with
    | some p=>match Kg 0 [] p.1 (bH S.tm z) with
     | some z'=>match ok with
      | true=>wB (.lit (.bool (@Wn _ _ ks.dec p.2 kx).isSome)) λb=>wB (val p.1 ((@Wn _ _ ks.dec p.2 kx).getD z')) λv=>K (.tup [v,b]) S
      | false=>wB (val p.1 ((@Wn _ _ ks.dec p.2 kx).getD z')) λv=>K v S
     | none=>none
    | none=>none
   | none=>none
  | none=>none
 | .mapUpd kt m k v=>match E.km kt with
  | some ks=>match Kg 0 [] ks.k (bH S.tm k) with
   | some kx=>match bH S.tm m with
    | .mp id=>match Nat.ble E.fl id with
     | false=>none
     | true=>match UO S.hp ks.k (.mp id) with
      | some p=>match Kg 0 [] p.1 (bH S.tm v) with
       | some v'=>K (.lit aT) (fK S id (.map ks.k p.1 (@GH _ _ ks.dec p.2 kx v')))
       | none=>none
      | none=>none
    | _=>none
   | none=>none
  | none=>none
 | .lenM x=>match I3 S.hp (bH S.tm x) with
  | some n=>K (.lit (.int .i64 ((n:Nat):Int))) S
  | none=>none
 | .lenStr t x=>match E.st t with
  | true=>match NE (bH S.tm x) with
   | some s=>K (.lit (.int .i64 ((s.size:Nat):Int))) S
   | none=>none
  | false=>none
 | .strIdx t x i=>match E.st t with
  | true=>match NE (bH S.tm x) with
   | some s=>match i64? (bH S.tm i) with
    | some j=>bnd (Ls s j) λv=>K (.lit (.int .u8 v)) S
    | none=>none
   | none=>none
  | false=>none
 | .strSlice _ x lo hi=>match NE (bH S.tm x) with
  | some s=>match Bd S.tm lo 0 with
   | some a=>match Bd S.tm hi ((s.size:Nat):Int) with
    | some b=>bnd (HJ s a b) λr=>K (.lit (.string r)) S
    | none=>none
   | none=>none
  | none=>none
 | .rangeStr x=>match NE (bH S.tm x) with
  | some s=>K (.it S.hp.length) (tB S (.it s 0))
  | none=>none
 | .nextStr x=>match bH S.tm x with
  | .it id=>match Nat.ble E.fl id with
   | false=>none
   | true=>match S.hp[id]? with
    | some o=>match o with
     | .it s p=>cnd (decide (p<s.size)) (K (.tup [.lit (.bool true),.lit (.int .i64 ((p:Nat):Int)),.lit (.int .i32 (((Utf8.decode s p).1:Nat):Int))]) (fK S id (.it s (p+(Utf8.decode s p).2)))) (K (.tup [.lit (.bool false)]) S)
     | _=>none
    | none=>none
  | _=>none
 | .conv src dst x=>match E.cv src dst with
  | some k'=>match bH S.tm x with
   | .lit u=>match u with
    | .int k a=>match LU k' with
     | true=>none
     | false=>K (.lit (.int k' (k'.wrap a))) S
    | _=>none
   | .sl k l=>match LU k' with
    | true=>match W7 k l with
     | some b=>K (.lit (.string b)) S
     | none=>none
    | false=>none
   | .vw k l=>match LU k' with
    | true=>match W7 k l with
     | some b=>K (.lit (.string b)) S
     | none=>none
    | false=>none
   | _=>none
  | none=>none
 | .tail2 x=>match bH S.tm x with
  | .tup vs=>match vs with
   | _::b=>match b with
    | _::rr=>match rr with
     | []=>K (.tup []) S
     | y::_=>K y S
    | []=>none
   | []=>none
  | _=>none
 | .arrPtr s m x=>match bH S.tm x with
  | .vw k l=>match Nat.beq (cds k).length 1&&Nat.blt 0 m with
   | true=>RJ k l m 0 λcs=>K (.rptr cs) S
   | false=>none
  | _=>none
 | .idxArr s m x i=>match bH S.tm x with
  | .rptr cs=>match Nat.beq s 1&&(Nat.beq cs.length m&&Nat.beq (cds (fN E d)).length 1) with
   | true=>match CE (bH S.tm i) with
    | some a=>match oR [] (fN E d) (cs.map λc=>[c]) with
     | some l=>bnd (idx l a) λy=>K (.rptr (iN (fN E d) y)) S
     | none=>none
    | none=>none
   | false=>none
  | _=>none
 | .slice s x lo hi mx=>match mx with
  | none=>V4 s S.tm S.hp lo hi (bH S.tm x) λv=>K v S
  | some m=>match hi with
   | none=>none
   | some h=>match bH S.tm x with
    | .ms id w=>match S.hp[id]? with
     | some o=>match o with
      | .lst k l=>match Bd S.tm lo 0 with
       | some a=>match i64? (bH S.tm h) with
        | some b=>match i64? (bH S.tm m) with
         | some c=>bnd (vF (decide (0<=a/\a<=b/\b<=c/\c<=(((qY l w).2:Nat):Int)))) λ_=>K .undef S
         | none=>none
        | none=>none
       | none=>none
      | _=>none
     | none=>none
    | .sl k l=>match QX S.tm lo h m with
     | true=>match Nat.beq (cds k).length s with
      | true=>K (.emp true) S
      | false=>none
     | false=>match lo with
      | some _=>none
      | none=>match i64? (bH S.tm h) with
       | some b=>match i64? (bH S.tm m) with
        | some c=>match Nat.beq (cds k).length s with
         | true=>bnd (vF (decide (0<=b/\b=c/\c<=((l.length:Nat):Int)))) λ_=>K (.slF k (l.take b.toNat)) S
         | false=>none
        | none=>none
       | none=>none
    | .vw k l=>match Nat.beq (cds k).length s with
     | true=>match Bd S.tm lo 0 with
      | some a=>match i64? (bH S.tm h) with
       | some b=>match i64? (bH S.tm m) with
        | some c=>bnd (vF (decide (b<=c/\c<=((l.length:Nat):Int)))) λ_=>bnd (Ht l a b) λl'=>K (.vw k l') S
        | none=>none
       | none=>none
      | none=>none
     | false=>none
    | _=>none
 | .lenS x=>match S5 S.hp (bH S.tm x) with
  | some n=>K (.lit (.int .i64 ((n:Nat):Int))) S
  | none=>none
 | .append s bytes x y=>match bH S.tm x with
  | .ms id m=>match S.hp[id]? with
   | some o=>match o with
    | .lst k l=>match NQ S.hp k (bH S.tm y) with
     | some ys=>match Nat.beq (cds k).length s&&(Nat.blt 0 s&&Nat.ble E.fl id) with
      | true=>match Nat.ble bytes 100000 with
       | true=>match m with
        | none=>bnd (app l ys) λl'=>K (.ms id none) (fU id (fK S id (.lst k l')))
        | some w=>match QZ E d with
         | none=>bnd (D5 l w ys) λl'=>K (.ms id (some (w.1,w.2+ys.length))) (fK S id (.lst k l'))
         | some _=>bnd (X7 l w ys) λl'=>K (.ms id (some (w.1,w.2+ys.length))) (fU id (fK S id (.lst k l')))
       | false=>none
      | false=>none
     | none=>none
    | _=>none
   | none=>none
  | .slF k l=>match NQ S.hp k (bH S.tm y) with
   | some ys=>match Nat.beq (cds k).length s&&(Nat.blt 0 s&&Nat.ble bytes 100000) with
    | true=>cnd (List.isEmpty ys) (K (.slF k l) S) (bnd (app l ys) λl'=>K (.ms S.hp.length none) (tB S (.lst k l')))
    | false=>none
   | none=>none
  | v=>match Hg v with
   | true=>match Nat.beq (cds (fN E d)).length s&&Nat.blt 0 s with
    | true=>match NQ S.hp (fN E d) (bH S.tm y) with
     | some ys=>match Nat.ble bytes 100000 with
      | true=>cnd (List.isEmpty ys) (K v S) (bnd (app [] ys) λl'=>K (.ms S.hp.length none) (tB S (.lst (fN E d) l')))
      | false=>none
     | none=>none
    | false=>none
   | false=>none
 | .mkSlice s z bytes len cap=>match Nat.beq (cds (fN E d)).length s&&(Nat.beq z.length s&&Nat.ble bytes 100000) with
  | true=>match gV 0 [] (fN E d) (z.map .lit) with
   | some x=>match i64? (bH S.tm len) with
    | some a=>match i64? (bH S.tm cap) with
     | some b=>bnd (rep x a b) λl=>K (.ms S.hp.length none) (tB S (.lst (fN E d) l))
     | none=>none
    | none=>none
   | none=>none
  | false=>none
 | .copy s x y=>match bH S.tm x with
  | .ms id m=>match S.hp[id]? with
   | some o=>match o with
    | .lst k l=>match rdX S.hp k (bH S.tm y) with
     | some ys=>match Nat.beq (cds k).length s&&(Nat.blt 0 s&&Nat.ble E.fl id) with
      | true=>bnd (cpy l (qY l m) ys) λl'=>K (.lit (.int .i64 ((ys.length:Nat):Int))) (fK S id (.lst k l'))
      | false=>none
     | none=>none
    | _=>none
   | none=>none
  | _=>none
 | .clear s z x=>match bH S.tm x with
  | .ms id m=>match S.hp[id]? with
   | some o=>match o with
    | .lst k l=>match gV 0 [] k (z.map .lit) with
     | some z'=>match Nat.beq (cds k).length s&&(Nat.blt 0 s&&(Nat.ble E.fl id&&Nat.beq z.length s)) with
      | true=>bnd (clr l (qY l m) z') λl'=>K (.tup []) (fK S id (.lst k l'))
      | false=>none
     | none=>none
    | _=>none
   | none=>none
  | v=>match Hg v with
   | true=>K (.tup []) S
   | false=>none
 | .capS x=>match Hg (bH S.tm x) with
  | true=>K (.lit (.int .i64 0)) S
  | false=>none
 | .appendZ s bytes z x m=>match Hg (bH S.tm x) with
  | true=>match Nat.beq (cds (fN E d)).length s&&(Nat.blt 0 s&&(Nat.beq z.length s&&Nat.ble bytes 100000)) with
   | true=>match gV 0 [] (fN E d) (z.map .lit) with
    | some z'=>match i64? (bH S.tm m) with
     | some a=>bnd (rep z' a a) λl=>cnd l.isEmpty (K (bH S.tm x) S) (K (.ms S.hp.length none) (tB S (.lst (fN E d) l)))
     | none=>none
    | none=>none
   | false=>none
  | false=>match bH S.tm x with
   | .ms id w=>match w with
    | none=>match S.hp[id]? with
     | some o=>match o with
      | .lst k l=>match Nat.beq (cds k).length s&&(Nat.blt 0 s&&(Nat.ble E.fl id&&(Nat.beq z.length s&&Nat.ble bytes 100000))) with
       | true=>match gV 0 [] k (z.map .lit) with
        | some z'=>match i64? (bH S.tm m) with
         | some a=>bnd (rep z' a a) λy=>bnd (app l y) λv=>K (.ms id none) (fU id (fK S id (.lst k v)))
         | none=>none
        | none=>none
       | false=>none
      | _=>none
     | none=>none
    | some _=>none
   | _=>none
 | .loadF m k x=>match bH S.tm x with
  | .ptr id off=>match off with
   | 0=>match S.hp[id]? with
    | some o=>match o with
     | .box cs=>match Nat.beq cs.length m with
      | true=>match cs[k]? with
       | some v=>match v with
        | .ms j w=>match Nat.ble E.fl j with
         | true=>match S.hp[j]? with
          | some o=>match o with
           | .lst kk l=>K (.agg ((cs.map (zW [j])).set k (.sl kk (RA l w)))) (qI j S)
           | _=>none
          | none=>none
         | false=>none
        | .emp _=>K (.agg cs) S
        | .lit _=>K (.agg cs) S
        | _=>none
       | none=>none
      | false=>none
     | _=>none
    | none=>none
   | _=>none
  | _=>none
 | .extract x i=>match bH S.tm x with
  | .tup vs=>match vs[i]? with
   | some v=>K v S
   | none=>none
  | _=>none
 | .call pu vi args=>match pu with
  | true=>match E.cs vi with
   | some c=>xR n 0 c (args.map (bH S.tm)) [] λv=>K v S
   | none=>none
  | false=>match E.pr vi with
   | some p=>bnd (prd n) λm=>TA E m p (args.map (bH S.tm)) S K
   | none=>match Nat.ble E.fl S.hp.length with
    | true=>pI n E.fl vi (args.map (bH S.tm)) S K E.il
    | false=>none
 | .callv pu x args=>match bH S.tm x with
  | .fn vi caps=>match pu with
   | true=>match caps with
    | []=>match E.cs vi with
     | some c=>xR n 0 c (args.map (bH S.tm)) [] λv=>K v S
     | none=>none
    | c::r=>I9 E n vi (args.map (bH S.tm)++c::r) S K
   | false=>match Nat.ble E.fl S.hp.length with
    | true=>pI n E.fl vi (args.map (bH S.tm)++caps) S K E.il
    | false=>none
  | _=>none
 | .callT s vi args=>match E.cs vi with
  | some c=>match c.kp with
   | true=>match c.kr with
    | k::_=>match cds k with
     | [e]=>match e with
      | .sl k'=>match Nat.beq (cds k').length s&&!(ag k) with
       | true=>xR n 1 c (args.map (bH S.tm)) S.hp λv=>Na v S K
       | false=>none
      | _=>none
     | _=>none
    | []=>none
   | false=>none
  | none=>none
 | .mkFn vi caps=>K (.fn vi (caps.map (bH S.tm))) S
 | .lenC n=>K (.lit (.int .i64 n)) S
 | .callF vi args=>match E.pr vi with
  | some p=>match p with
   | .cln k=>aBs n k (args.map (bH S.tm)) S K
   | _=>none
  | none=>pI n S.hp.length vi (args.map (bH S.tm)) S K E.il
 | .callB vi args=>match E.cs vi with
  | some c=>xR n 1 c (args.map (bH S.tm)) S.hp λv=>K v S
  | none=>none
 | .minmax mx xs=>match G8 (xs.map (bH S.tm)) with
  | some p=>match mx with
   | true=>K (.lit (.int .i64 (Wz p.1 p.2))) S
   | false=>K (.lit (.int .i64 (Rb p.1 p.2))) S
  | none=>none
 | _=>none
def ZY(N:Nat)(d:Option Nat)(v:TV)(S:TS)(K:TS->Option R): Option R:=match d with
 | some d=>match Nat.blt d N with
  | true=>K ⟨(d,v)::S.tm,S.hp⟩
  | false=>none
 | none=>K S
def Zx(t:Nat)(b:Bool)(S:TS): TS:=⟨(t,.lit (.bool b))::S.tm,S.hp⟩
def VV(o:aH)(S:TS)(K:TS->Option R): Option R:=bO E n o.dst o.op S λv S=>ZY E.nt o.dst v S K
def CQ(o:aH)(S:TS)(K:TS->Option R): Option R:=ZY E.nt o.dst (.lit aT) S K
def Xg(o:aH)(S:TS)(K:TS->Option R): Option R:=match o.guard with
 | none=>VV E n o S K
 | some g=>match dV g.1 S.tm with
  | some v=>match v with
   | .lit u=>match u with
    | .bool b=>match g.2 with
     | true=>cnd b (VV E n o (Zx g.1 true S) K) (CQ E o (Zx g.1 false S) K)
     | false=>cnd b (CQ E o (Zx g.1 true S) K) (VV E n o (Zx g.1 false S) K)
    | .tuple _=>CQ E o S K
    | _=>none
   | _=>none
  | none=>none
def VU: List aH->TS->(TS->Option R)->Option R
 | [],S,K=>K S
 | o::r,S,K=>Xg E n o S λS=>VU r S K
def Wl: bK->Nat
 | .seq a b=>Wl a+Wl b
 | .cond _ a b=>Wl a+Wl b
 | .block _ c=>Wl c
 | .loop _ _ c=>Wl c
 | .mask _ _ _ c=>1+Wl c
 | .told _ _ _ c=>1+Wl c
 | .scope c=>Wl c
 | .frz _ c=>Wl c
 | _=>0
def OI: TV->Option (Option Nat)
 | .undef=>none
 | .tup _=>none
 | .agg _=>none
 | .fn _ _=>none
 | .ptr id _=>some (some id)
 | .pel id _ _=>some (some id)
 | .ms id _=>some (some id)
 | .mp id=>some (some id)
 | .rs id _=>some (some id)
 | .rel id _ _ _=>some (some id)
 | _=>some none
def P1: TV->Bool
 | .lit _=>true
 | .emp _=>true
 | .sl _ _=>true
 | .rptr _=>true
 | .sptr _ _=>true
 | .rmp _ _ _=>true
 | _=>false
def a8: List TV->Bool
 | []=>true
 | x::r=>match P1 x with
  | true=>a8 r
  | false=>false
def aAP: TV->Bool
 | .agg cs=>a8 cs
 | v=>P1 v
def a9: List TV->Bool
 | []=>true
 | x::r=>match aAP x with
  | true=>a9 r
  | false=>false
def Sp(op:tK)(tm:TT): Option (Option Nat):=match op with
 | .load _ _ x=>OI (bH tm x)
 | .idxAddr _ x _=>OI (bH tm x)
 | .slice _ x _ _ _=>OI (bH tm x)
 | .lookup _ _ m _ _=>OI (bH tm m)
 | .lenM x=>OI (bH tm x)
 | .call pu _ args=>match pu with
  | true=>match a9 (args.map (bH tm)) with
   | true=>some none
   | false=>none
  | false=>none
 | .callB _ args=>match args with
  | [x]=>match bH tm x with
   | .sl _ _=>some none
   | .vw _ _=>some none
   | _=>none
  | _=>none
 | _=>none
def Ey(op:tK)(tm:TT)(n id:Nat): Bool:=match op with
 | .alloc _=>Nat.blt id n
 | .claim _=>Nat.blt id n
 | .allocC _ _=>Nat.blt id n
 | .box _=>Nat.blt id n
 | .boxC _ _=>Nat.blt id n
 | .buildC _ _ _=>Nat.blt id n
 | .buildSl _ _ _ _ _=>Nat.blt id n
 | .mkMap=>Nat.blt id n
 | .callT _ _ _=>Nat.blt id n
 | .store _ x _=>match bH tm x with
  | .ptr i _=>!Nat.beq i id
  | .pel i _ _=>!Nat.beq i id
  | _=>false
 | .append _ _ x _=>match bH tm x with
  | .ms i _=>!Nat.beq i id
  | .emp _=>Nat.blt id n
  | .lit _=>Nat.blt id n
  | _=>false
 | .mapUpd _ m _ _=>match bH tm m with
  | .mp i=>!Nat.beq i id
  | _=>false
 | _=>false
def Zf(tm:TT): Option (Nat×Bool)->Option Bool
 | none=>some true
 | some g=>match dV g.1 tm with
  | some v=>match v with
   | .lit u=>match u with
    | .bool b=>some (b==g.2)
    | .tuple _=>some false
    | _=>none
   | _=>none
  | none=>none
def ck1(ops:List aH)(l:List TS)(k m:Nat): Bool:=match ops[k]? with
 | some ok=>match l[k]? with
  | some sk=>match Zf sk.tm ok.guard with
   | some false=>true
   | _=>match Sp ok.op sk.tm with
    | none=>false
    | some o=>match o with
     | none=>true
     | some id=>match ops[m]? with
      | some om=>match l[m]? with
       | some sm=>match Zf sm.tm om.guard with
        | some false=>true
        | _=>Ey om.op sm.tm sm.hp.length id
       | none=>false
      | none=>false
  | none=>false
 | none=>false
def ckL(ops:List aH)(l:List TS): List (Nat×Nat)->Bool
 | []=>true
 | p::r=>match ck1 ops l p.1 p.2 with
  | true=>ckL ops l r
  | false=>false
def Fe: List aH->TS->List TS->(List TS->TS->Option R)->Option R
 | [],S,l,K=>K (S::l).reverse S
 | o::r,S,l,K=>Xg E n o S λS'=>Fe r S' (S::l) K
def Wt(n:Nat): Nat->List aH->List TS->Bool
 | 0,_,_=>true
 | m+1,o::r,s::l=>match (match dQ o.op with
   | true=>true
   | false=>match Zf s.tm o.guard with
    | some false=>true
    | _=>Ey o.op s.tm s.hp.length n) with
  | true=>Wt n m r l
  | false=>false
 | _,_,_=>false
def V1(H H':TH): TV->TV->Option Bool
 | .lit u,v=>match v with
  | .lit w=>match u with
   | .int k a=>match w with
    | .int k' b=>match decEq k k' with
     | isTrue _=>some (decide (a=b))
     | isFalse _=>none
    | _=>none
   | .string a=>match w with
    | .string b=>some (decide (a=b))
    | _=>none
   | .bool a=>match w with
    | .bool b=>some (decide (a=b))
    | _=>none
   | _=>none
  | _=>none
 | .ms i n,v=>match n with
  | none=>match v with
   | .ms j m=>match m with
    | none=>match Nat.beq i j with
     | true=>match H[i]? with
      | some o=>match o with
       | .lst _ l=>match H'[i]? with
        | some p=>match p with
         | .lst _ t=>some (decide (l.length=t.length))
         | _=>none
        | none=>none
       | _=>none
      | none=>none
     | false=>none
    | some _=>none
   | _=>none
  | some _=>none
 | _,_=>none
def VY(H H':TH): List TV->List TV->Option Bool
 | [],l=>match l with
  | []=>some true
  | _=>none
 | a::r,l=>match l with
  | []=>none
  | b::s=>match V1 H H' a b with
   | none=>none
   | some x=>match VY H H' r s with
    | none=>none
    | some y=>some (x&&y)
def EQ(ops:List aH)(l:List TS)(k m:Nat): Option Bool:=match ops[k]? with
 | some ok=>match l[k]? with
  | some sk=>match Sp ok.op sk.tm with
   | some (some id)=>match ops[m]? with
    | some om=>match HS om.op with
     | true=>match l[m]? with
      | some s=>match l[m+1]? with
       | some t=>match s.hp[id]? with
        | some o=>match o with
         | .box cs=>match t.hp[id]? with
          | some p=>match p with
           | .box ds=>VY s.hp t.hp cs ds
           | _=>none
          | none=>none
         | _=>none
        | none=>none
       | none=>none
      | none=>none
     | false=>none
    | none=>none
   | _=>none
  | none=>none
 | none=>none
def ckG(ops:List aH)(l:List TS): List (Nat×Nat)->Option Bool
 | []=>some true
 | p::r=>match ck1 ops l p.1 p.2 with
  | true=>ckG ops l r
  | false=>match EQ ops l p.1 p.2 with
   | none=>none
   | some x=>match ckG ops l r with
    | none=>none
    | some y=>some (x&&y)
def VT(ck:List (Nat×Nat))(ops:List aH)(S:TS)(K:TS->Option R): Option R:=match ck with
 | []=>VU E n ops S K
 | c::r=>match Nat.beq c.1 c.2 with
  | false=>Fe E n ops S [] λl S=>match ckL ops l (c::r) with
   | true=>K S
   | false=>match ckG ops l (c::r) with
    | some b=>bnd (vF b) λ_=>K S
    | none=>none
  | true=>Fe E n (dU ops c.1 S.hp.length) (tB S (.box ((FO ops c.1).map .lit))) [] λl S'=>match ckL (dU ops c.1 S.hp.length) l r with
   | true=>match Wt S.hp.length c.1 (dU ops c.1 S.hp.length) l with
    | true=>K S'
    | false=>none
   | false=>none
def NA(n:Nat)(b:Bool)(T0:TT)(S:TS)(K:bJ->TS->Option R): List Jx->Option R
 | []=>none
 | sp::r=>match sp.ins.fit S with
  | some (p,q)=>match Ip (sp.kl++sp.ins.fo) 0 S.hp (sp.ins.mk' p q).hp with
   | true=>G0 p b sp.outs (sp.F n p q) λx S'=>K x (aft sp T0 S.hp x S')
   | false=>NA n b T0 S K r
  | none=>NA n b T0 S K r
def YN(body:TS->(bJ->TS->Option R)->Option R)(hd:TS->TS): Nat->TS->(bJ->TS->Option R)->Option R
 | 0,_,_=>none
 | m+1,S,K=>body (hd S) λx S=>match x with
  | .normal=>YN body hd m S K
  | x=>K x S
def U7(t:Nat)(k:Nat)(S:TS)(K:TS->Option R): Option R:=match dV t S.tm with
 | some v=>match v with
  | .ms id m=>match Nat.ble E.fl id with
   | false=>none
   | true=>match S.hp[id]? with
    | some o=>match o with
     | .lst k l=>K ⟨(t,.sl k (RA l m))::(qI id S).tm,(qI id S).hp⟩
     | _=>none
    | none=>none
  | .ptr id off=>match off with
   | 0=>match Nat.ble E.fl id with
    | false=>none
    | true=>match S.hp[id]? with
     | some o=>match o with
      | .box cs=>match gV 0 [] k cs with
       | some x=>K ⟨(t,.sptr k x)::(qI id S).tm,(qI id S).hp⟩
       | none=>none
      | _=>none
     | none=>none
   | _=>none
  | .undef=>none
  | .pel _ _ _=>none
  | .rel _ _ _ _=>none
  | .rs _ _=>none
  | v=>K S
 | none=>none
def Hq: bK->Nat->TS->(bJ->TS->Option R)->Option R
 | .skip,_,S,K=>K .normal S
 | .region _ ck ops,_,S,K=>VT E n ck ops S (K .normal)
 | .seq a b,i,S,K=>Hq a i S λx S=>match x with
  | .normal=>Hq b (i+Wl a) S K
  | x=>K x S
 | .cond c a b,i,S,K=>match c with
  | .tmp t=>match dV t S.tm with
   | some v=>match v with
    | .lit u=>match u with
     | .bool v=>cnd v (Hq a i (Zx t true S) K) (Hq b (i+Wl a) (Zx t false S) K)
     | _=>none
    | _=>none
   | none=>none
  | _=>none
 | .block id c,i,S,K=>Hq c i S λx S=>match x with
  | .exit j=>match Nat.beq j id with
   | true=>K .normal S
   | false=>K (.exit j) S
  | x=>K x S
 | .exit id,_,S,K=>K (.exit id) S
 | .ret,_,S,K=>K .ret S
 | .mask lx lr tr c,i,S,K=>match Nat.ble E.fl S.hp.length with
  | false=>none
  | true=>match c with
   | .loop live tr' b=>match live with
    | none=>none
    | some live=>match dV i E.un with
     | some m=>bnd (vF (Nat.ble m n)) λ_=>YN (λS K=>Hq b (i+1) S K) (wW live tr' S.hp.length) m S λx S'=>match x with
      | .normal=>none
      | .ret=>K .ret ⟨qG lr S'.tm,S'.hp⟩
      | .exit j=>K (.exit j) (wW lx tr S.hp.length S')
     | none=>match dV i E.ls with
      | some l=>NA n false S.tm (wW live tr' S.hp.length S) K l
      | none=>none
   | _=>none
 | .told li lx lr c,i,S,K=>match Nat.ble E.fl S.hp.length with
  | false=>none
  | true=>match dV i E.ls with
   | some l=>NA n true S.tm ⟨qG li S.tm,S.hp⟩ K l
   | none=>none
 | .scope c,i,S,K=>Hq c i S K
 | .frz t c,i,S,K=>U7 E t (fN E (some (900+t))) S λS=>Hq c i S K
 | _,_,_,_=>none
def Vt(S:TS): List Dv->Option (List TV)
 | []=>some []
 | r::rs=>match Vt S rs with
  | none=>none
  | some vs=>match r with
   | .tmp t=>some (bH S.tm (.tmp t)::vs)
   | .cell t n agg=>match bH S.tm (.tmp t) with
    | .ptr id off=>match S.hp[id]? with
     | some o=>match o with
      | .box cs=>match Nat.ble (off+n) cs.length with
       | true=>match agg with
        | true=>some (.agg ((cs.drop off).take n)::vs)
        | false=>match (cs.drop off).take n with
         | [c]=>some (c::vs)
         | _=>none
       | false=>none
      | _=>none
     | none=>none
    | _=>none
def Hf(H:TH): List TV->Bool
 | []=>false
 | v::_=>match v with
  | .ms id m=>match H[id]? with
   | some o=>match o with
    | .lst _ l=>match m with
     | none=>true
     | some w=>decide (w=(0,l.length))
    | _=>false
   | none=>false
  | .lit u=>match u with
   | .slice a l c=>match a with
    | none=>match l with
     | 0=>match c with
      | 0=>true
      | _=>false
     | _=>false
    | some _=>false
   | _=>false
  | _=>false
def exF(F:bC)(c:IV)(p:eW c.ka): Option (eW (c.kr.map .v)):=Hq E n F.body 0 ⟨Hs 0 (vQ c.ka p),[]⟩ λx S=>match x with
 | .exit _=>none
 | _=>match Vt S F.rets with
  | some vs=>match c.kp with
   | false=>rA 2 S.hp (c.kr.map .v) vs
   | true=>bnd (vF (Hf S.hp vs)) λ_=>rA 2 S.hp (c.kr.map .v) vs
  | none=>none
def exI(F:bC)(S:TS)(K:TS->Option R): Option R:=Hq E n F.body 0 S λx S=>match x with
 | .exit _=>none
 | _=>match Vt S F.rets with
  | some vs=>K ⟨Hs 0 vs,S.hp⟩
  | none=>none
end
end
section
variable [cN]
def JP: bJ->bJ->Bool
 | .normal,y=>match y with | .normal=>true | _=>false
 | .exit i,y=>match y with | .exit j=>Nat.beq i j | _=>false
 | .ret,y=>match y with | .ret=>true | _=>false
def ES{P:Type}(R:Type): List (vR P)->Type
 | []=>Unit
 | o::r=>(List cG->o.lay.P->o.lay.V->Option R)×ES R r
def pA{P R:Type}(n:Nat)(x:bJ)(S:TS): (l:List (vR P))->ES R l->Option R
 | [],_=>none
 | o::r,e=>match JP o.x x with
  | true=>match o.lay.getF n S with
   | some (f,p,q)=>e.1 f p q
   | none=>pA n x S r e.2
  | false=>pA n x S r e.2
def ZP{R:Type}(ins:rZ)(outs:List (vR ins.P))(live:List Bool)(tr':Bool)(lx lr:List Bool)(tr:Bool)(n:Nat)(k:List cG->ins.P->ins.V->Option R)(e:ES R outs)(x:bJ)(S:TS): Option R:=match x with
 | .normal=>match ins.getF n (wW live tr' n S) with
  | some (f,p,q)=>k f p q
  | none=>none
 | .ret=>pA n .ret ⟨qG lr S.tm,S.hp⟩ outs e
 | .exit i=>pA n (.exit i) (wW lx tr n S) outs e
end
section
variable {α β:Type}
def bG(R:α->β->Prop): List α->List β->Prop
 | [],l=>match l with | []=>True | _::_=>False
 | a::r,l=>match l with | []=>False | b::s=>R a b/\bG R r s
variable {R:α->β->Prop}
theorem bG.len: ∀{l:List α} {m:List β},bG R l m->m.length=l.length
 | [],[],_=>rfl
 | _::_,_::_,h=>by simp[bG.len h.2]
theorem bG.at: ∀{l:List α} {m:List β},bG R l m->∀{j:Nat} {a:α} {b:β},l[j]?=some a->m[j]?=some b->R a b
 | _::_,_::_,h,0,_,_,c,d=>by
  simp only[List.getElem?_cons_zero,Option.some.injEq] at c d;rw[<-c,<-d];exact h.1
 | _::_,_::_,h,j+1,_,_,c,d=>h.2.at (j:=j) (by simpa using c)<|by simpa using d
theorem bG.of: ∀{l:List α} {m:List β},m.length=l.length->(∀(j:Nat) (a:α) (b:β),l[j]?=some a->m[j]?=some b->R a b)->bG R l m
 | [],[],_,_=>trivial
 | [],_::_,h,_=>by cases h
 | _::_,[],h,_=>by cases h
 | _::_,_::_,h,k=>⟨k 0 _ _ rfl rfl,bG.of (by simpa using h) λj a b c d=>k (j+1) a b (by simpa using c)<|by simpa using d⟩
theorem bG.get{l:List α}{m:List β}(h:bG R l m){j:Nat}{a:α}(c:l[j]?=some a): ∃b,m[j]?=some b/\R a b:=by
 have:j<m.length:=by rw[h.len];exact (List.getElem?_eq_some_iff.1 c).1
 exact⟨m[j],List.getElem?_eq_getElem this,h.at c<|List.getElem?_eq_getElem this⟩
theorem bG.drop{l:List α}{m:List β}(h:bG R l m)(n:Nat): bG R (l.drop n)<|m.drop n:=
 bG.of (by simp[h.len]) λj a b c d=>h.at (by simpa using c)<|by simpa using d
theorem bG.take{l:List α}{m:List β}(h:bG R l m)(n:Nat): bG R (l.take n)<|m.take n:=
 bG.of (by simp[h.len]) λj a b c d=>by
  simp only[List.getElem?_take] at c d;split at c
  .rename_i e;rw[if_pos e] at d;exact h.at c d
  .cases c
theorem bG.app: ∀{l:List α} {m:List β} {a b},bG R l m->bG R a b->bG R (l++a) (m++b)
 | [],[],_,_,_,h=>h
 | _::_,_::_,_,_,h,c=>⟨h.1,bG.app h.2 c⟩
theorem bG.spl{l c:List α}{m d:List β}{off:Nat}(h:bG R l m)(k:bG R c d): bG R (aR l off c)<|aR m off d:=by
 unfold aR;rw[<-k.len];exact (h.take off).app<|k.app<|h.drop _
theorem bG.set: ∀{l:List α} {m:List β},bG R l m->∀{a b} (i:Nat),R a b->bG R (l.set i a) (m.set i b)
 | [],[],_,_,_,_,_=>trivial
 | _::_,_::_,h,_,_,0,k=>⟨k,h.2⟩
 | _::_,_::_,h,_,_,i+1,k=>⟨h.1,h.2.set i k⟩
theorem bG.imp{c:α->β->Prop}(k:∀a b,R a b->c a b): ∀{l:List α} {m:List β},bG R l m->bG c l m
 | [],[],_=>trivial
 | _::_,_::_,h=>⟨k _ _ h.1,h.2.imp k⟩
theorem bG.map{γ δ:Type}{c:γ->δ->Prop}{f:α->γ}{g:β->δ}(k:∀a b,R a b->c (f a) (g b)): ∀{l:List α} {m:List β},bG R l m->bG c (l.map f) (m.map g)
 | [],[],_=>trivial
 | _::_,_::_,h=>⟨k _ _ h.1,h.2.map k⟩
theorem bG.mapR{δ:Type}{c:α->δ->Prop}{g:β->δ}(k:∀a b,R a b->c a (g b)): ∀{l:List α} {m:List β},bG R l m->bG c l (m.map g)
 | [],[],_=>trivial
 | _::_,_::_,h=>⟨k _ _ h.1,h.2.mapR k⟩
theorem bG.mapL{γ:Type}{c:γ->β->Prop}{f:α->γ}(k:∀a b,R a b->c (f a) b): ∀{l:List α} {m:List β},bG R l m->bG c (l.map f) m
 | [],[],_=>trivial
 | _::_,_::_,h=>⟨k _ _ h.1,h.2.mapL k⟩
theorem bG.rep{a:α}{b:β}(h:R a b): ∀n,bG R (List.replicate n a)<|List.replicate n b
 | 0=>trivial
 | n+1=>⟨h,bG.rep h n⟩
end
section
variable [cN]
def nD(g:Bool)(r:List AV): AV:=match g with
 | true=>.agg r
 | false=>match r with
  | a::_=>a
  | []=>.undef
inductive Qp: TV->AV->Prop
 | undef (a):Qp .undef a
 | lit (v):Qp (.lit v) (.lit v)
 | emp (b a):(a=.lit bZ\/a=.sl true []\/(b=false/\a=.sl false []))->Qp (.emp b) a
 | sl (k:Nat) (l:List (den k)) (a:AV) (es:List (List AV)):((a=.lit bZ/\es=[])\/∃f,a=.sl f es)->es.length=l.length->(∀(i:Nat) (x:den k) (e:List AV),l[i]?=some x->es[i]?=some e->e.length=(iN k x).length)->
  (∀(i:Nat) (x:den k) (e:List AV) (j:Nat) (c:TV) (b:AV),l[i]?=some x->es[i]?=some e->(iN k x)[j]?=some c->e[j]?=some b->Qp c b)->Qp (.sl k l) a
 | vw (k:Nat) (l:List (den k)) (a:AV) (es:List (List AV)):((a=.lit bZ/\es=[])\/(∃f,a=.sl f es)\/a=.vw es)->es.length=l.length->(∀(i:Nat) (x:den k) (e:List AV),l[i]?=some x->es[i]?=some e->e.length=(iN k x).length)->
  (∀(i:Nat) (x:den k) (e:List AV) (j:Nat) (c:TV) (b:AV),l[i]?=some x->es[i]?=some e->(iN k x)[j]?=some c->e[j]?=some b->Qp c b)->Qp (.vw k l) a
 | rptr (cs:List TV) (aw:List AV):aw.length=cs.length->(∀(j:Nat) (c:TV) (b:AV),cs[j]?=some c->aw[j]?=some b->Qp c b)->Qp (.rptr cs) (.rptr aw)
 | sptr (k:Nat) (x:den k) (aw:List AV):aw.length=(iN k x).length->(∀(j:Nat) (c:TV) (b:AV),(iN k x)[j]?=some c->aw[j]?=some b->Qp c b)->Qp (.sptr k x) (.sptr aw)
 | rmp (kk vk:Nat) (m:List (den kk×den vk)) (a:AV) (rows:List (List AV)):((a=.lit (.map none)/\m=[])\/a=.rmp ((m.map λp=>lF kk p.1).zip (rows.map (nD (ag vk)))))->rows.length=m.length->
  (∀(i:Nat) (p:den kk×den vk) (e:List AV),m[i]?=some p->rows[i]?=some e->e.length=(iN vk p.2).length)->
  (∀(i:Nat) (p:den kk×den vk) (e:List AV) (j:Nat) (c:TV) (b:AV),m[i]?=some p->rows[i]?=some e->(iN vk p.2)[j]?=some c->e[j]?=some b->Qp c b)->Qp (.rmp kk vk m) a
 | slF (k:Nat) (l:List (den k)) (a:AV) (es:List (List AV)):((a=.lit bZ/\es=[])\/a=.sl true es)->es.length=l.length->(∀(i:Nat) (x:den k) (e:List AV),l[i]?=some x->es[i]?=some e->e.length=(iN k x).length)->
  (∀(i:Nat) (x:den k) (e:List AV) (j:Nat) (c:TV) (b:AV),l[i]?=some x->es[i]?=some e->(iN k x)[j]?=some c->e[j]?=some b->Qp c b)->Qp (.slF k l) a
abbrev Qr(cs:List TV)(aw:List AV): Prop:=bG Qp cs aw
abbrev Ql(k:Nat)(l:List (den k))(es:List (List AV)): Prop:=bG (λx e=>Qr (iN k x) e) l es
theorem Ql.of{k:Nat}{l:List<|den k}{es:List<|List AV}(f:es.length=l.length)(g:∀(i:Nat) (x:den k) (e:List AV),l[i]?=some x->es[i]?=some e->e.length=(iN k x).length)(m:∀(i:Nat) (x:den k) (e:List AV) (j:Nat) (c:TV) (b:AV),l[i]?=some x->es[i]?=some e->(iN k x)[j]?=some c->e[j]?=some b->Qp c b): Ql k l es:=
 bG.of f λi x e d he=>bG.of (g i x e d he) λj c b h n=>m i x e j c b d he h n
theorem Qp.mkS{k:Nat}{l:List<|den k}{a:AV}{es:List<|List AV}(h:(a=.lit bZ/\es=[])\/∃f,a=.sl f es)(r:Ql k l es): Qp (.sl k l) a:=
 .sl k l a es h r.len (λi x e d he=>(r.at d he).len) λi x e j c b d he n m=>(r.at d he).at n m
theorem Qp.mkF{k:Nat}{l:List<|den k}{a:AV}{es:List<|List AV}(h:(a=.lit bZ/\es=[])\/a=.sl true es)(r:Ql k l es): Qp (.slF k l) a:=
 .slF k l a es h r.len (λi x e d he=>(r.at d he).len) λi x e j c b d he n m=>(r.at d he).at n m
theorem Qp.mkV{k:Nat}{l:List<|den k}{a:AV}{es:List<|List AV}(h:(a=.lit bZ/\es=[])\/(∃f,a=.sl f es)\/a=.vw es)(r:Ql k l es): Qp (.vw k l) a:=
 .vw k l a es h r.len (λi x e d he=>(r.at d he).len) λi x e j c b d he n m=>(r.at d he).at n m
theorem Qp.mkR{cs:List TV}{aw:List AV}(h:Qr cs aw): Qp (.rptr cs)<|.rptr aw:=.rptr cs aw h.len λj c b a d=>h.at a d
theorem Qp.mkP{k:Nat}{x:den k}{aw:List AV}(h:Qr (iN k x) aw): Qp (.sptr k x)<|.sptr aw:=.sptr k x aw h.len λj c b a e=>h.at a e
theorem Qp.inS{k:Nat}{l:List<|den k}{a:AV}(h:Qp (.sl k l) a): ∃es,((a=.lit bZ/\es=[])\/∃f,a=.sl f es)/\Ql k l es:=by
 cases h with
 | sl _ _ _ es d e b g=>exact⟨es,d,Ql.of e b g⟩
theorem Qp.inE{k:Nat}{l:List<|den k}{a:AV}(h:Qp (.slF k l) a): ∃es,((a=.lit bZ/\es=[])\/a=.sl true es)/\Ql k l es:=by
 cases h with
 | slF _ _ _ es d e b g=>exact⟨es,d,Ql.of e b g⟩
theorem Qp.inV{k:Nat}{l:List<|den k}{a:AV}(h:Qp (.vw k l) a): ∃es,((a=.lit bZ/\es=[])\/(∃f,a=.sl f es)\/a=.vw es)/\Ql k l es:=by
 cases h with
 | vw _ _ _ es d e b g=>exact⟨es,d,Ql.of e b g⟩
theorem Qp.inR{cs:List TV}{a:AV}(h:Qp (.rptr cs) a): ∃aw,a=.rptr aw/\Qr cs aw:=by
 cases h with
 | rptr _ aw c d=>exact⟨aw,rfl,bG.of c d⟩
abbrev Qm{kk:Nat}(vk:Nat)(m:List (den kk×den vk))(rows:List (List AV)): Prop:=bG (λp e=>Qr (iN vk p.2) e) m rows
abbrev fV{kk:Nat}(vk:Nat)(m:List (den kk×den vk))(rows:List (List AV)): List (Value×AV):=(m.map λp=>lF kk p.1).zip (rows.map (nD (ag vk)))
theorem Qp.mkM{kk d:Nat}{m:List<|den kk×den d}{a:AV}{rows:List<|List AV}(h:(a=.lit (.map none)/\m=[])\/a=.rmp (fV d m rows))(r:Qm d m rows): Qp (.rmp kk d m) a:=
 .rmp kk d m a rows h r.len (λi x e f he=>(r.at f he).len) λi x e j c b f he l k=>(r.at f he).at l k
theorem Qp.inM{kk d:Nat}{m:List<|den kk×den d}{a:AV}(h:Qp (.rmp kk d m) a): ∃rows,((a=.lit (.map none)/\m=[])\/a=.rmp (fV d m rows))/\Qm d m rows:=by
 cases h with
 | rmp _ _ _ _ rows r l p k=>exact⟨rows,r,bG.of l λi x e g he=>bG.of (p i x e g he) λj c b o q=>k i x e j c b g he o q⟩
theorem Qp.inP{k:Nat}{x:den k}{a:AV}(h:Qp (.sptr k x) a): ∃aw,a=.sptr aw/\Qr (iN k x) aw:=by
 cases h with
 | sptr _ _ aw d e=>exact⟨aw,rfl,bG.of d e⟩
inductive Qh(H:TH): TV->AV->Prop
 | p (v a):Qp v a->Qh H v a
 | ms (id k l):H[id]?=some (.lst k l)->Qh H (.ms id none) (.ms id l.length 0 l.length)
 | msn (id w k l):H[id]?=some (.lst k l)->Qh H (.ms id (some w)) (.ms id l.length w.1 w.2)
 | ptr (id off):Qh H (.ptr id off) (.ptr id 1 0 off)
 | pel (id i off k l):H[id]?=some (.lst k l)->0<=i->i.toNat<l.length->Qh H (.pel id i off) (.ptr id l.length i.toNat off)
 | mp (id):Qh H (.mp id) (.mp id)
 | it (id):Qh H (.it id) (.it id)
 | fn (vi:Nat) (cs:List TV) (aw:List AV):aw.length=cs.length->(∀(j:Nat) (c:TV) (b:AV),cs[j]?=some c->aw[j]?=some b->Qh H c b)->Qh H (.fn vi cs) (.fn vi aw)
 | agg (cs:List TV) (aw:List AV):aw.length=cs.length->(∀(j:Nat) (c:TV) (b:AV),cs[j]?=some c->aw[j]?=some b->Qh H c b)->Qh H (.agg cs) (.agg aw)
 | tup (cs:List TV) (aw:List AV):aw.length=cs.length->(∀(j:Nat) (c:TV) (b:AV),cs[j]?=some c->aw[j]?=some b->Qh H c b)->Qh H (.tup cs) (.tup aw)
 | rs (id n):Qh H (.rs id n) (.ms id n 0 n)
 | rel (id n i off):Qh H (.rel id n i off) (.ptr id n i off)
variable {H H':TH}
theorem Qh.u(a:AV): Qh H .undef a:=.p _ _<|.undef a
theorem Qh.l(v:Value): Qh H (.lit v)<|.lit v:=.p _ _<|.lit v
theorem Qh.inL{v:Value}{a:AV}(h:Qh H (.lit v) a): a=.lit v:=by
 cases h with
 | p _ _ h=>cases h;rfl
theorem Qh.pu{v:TV}{a:AV}(h:Qh H v a)(b:match v with | .sl ..=>True | .vw ..=>True | .rptr ..=>True | .sptr ..=>True | .emp ..=>True | .rmp ..=>True | .slF ..=>True | _=>False): Qp v a:=by
 cases h with
 | p _ _ h=>exact h
 | _=>exact b.elim
abbrev Qc(H:TH)(cs:List TV)(aw:List AV): Prop:=bG (Qh H) cs aw
theorem Qh.mkA{cs:List TV}{aw:List AV}(h:Qc H cs aw): Qh H (.agg cs)<|.agg aw:=.agg cs aw h.len λj c b a d=>h.at a d
theorem Qh.mkT{cs:List TV}{aw:List AV}(h:Qc H cs aw): Qh H (.tup cs)<|.tup aw:=.tup cs aw h.len λj c b a d=>h.at a d
theorem Qh.mkF{vi:Nat}{cs:List TV}{aw:List AV}(h:Qc H cs aw): Qh H (.fn vi cs)<|.fn vi aw:=.fn vi cs aw h.len λj c b a d=>h.at a d
theorem Qh.inA{cs:List TV}{a:AV}(h:Qh H (.agg cs) a): ∃aw,a=.agg aw/\Qc H cs aw:=by
 cases h with
 | p _ _ h=>cases h
 | agg _ aw c b=>exact⟨aw,rfl,bG.of c b⟩
theorem Qh.inT{cs:List TV}{a:AV}(h:Qh H (.tup cs) a): ∃aw,a=.tup aw/\Qc H cs aw:=by
 cases h with
 | p _ _ h=>cases h
 | tup _ aw c d=>exact⟨aw,rfl,bG.of c d⟩
theorem Qh.inF{vi:Nat}{cs:List TV}{a:AV}(h:Qh H (.fn vi cs) a): ∃aw,a=.fn vi aw/\Qc H cs aw:=by
 cases h with
 | p _ _ h=>cases h
 | fn _ _ aw c b=>exact⟨aw,rfl,bG.of c b⟩
def HM(H H':TH): Prop:=∀(id k:Nat) (l:List<|den k),H[id]?=some (.lst k l)->∃(k':Nat) (b:List<|den k'),H'[id]?=some (.lst k' b)/\b.length=l.length
theorem HM.r: HM H H:=λ_ k l h=>⟨k,l,h,rfl⟩
theorem Qh.mono(m:HM H H'){v:TV}{a:AV}(h:Qh H v a): Qh H' v a:=by
 induction h with
 | p v a h=>exact .p v a h
 | ms id k l h=>
  let⟨k',e,b,d⟩:=m id k l h;rw[<-d];exact .ms id k' e b
 | msn id n k l h=>
  let⟨k',e,b,d⟩:=m id k l h;rw[<-d];exact .msn id n k' e b
 | ptr id off=>exact .ptr id off
 | pel id i off k l h r u=>
  let⟨k',e,b,d⟩:=m id k l h;rw[<-d];exact .pel id i off k' e b r<|by omega
 | mp id=>exact .mp id
 | it id=>exact .it id
 | fn vi cs aw b _ c=>exact .fn vi cs aw b c
 | agg cs aw b _ c=>exact .agg cs aw b c
 | tup cs aw b _ c=>exact .tup cs aw b c
 | rs id n=>exact .rs id n
 | rel id n i off=>exact .rel id n i off
inductive L5(n:Nat): cG->cG->Prop
 | r (a):L5 n a a
 | s (a b m):n<=m->L5 n a b->L5 n a (bI m b)
def Qo(H:TH): jC->cG->Prop
 | .box cs,o=>∃aw,o=.blk cs.length [aw]/\Qc H cs aw
 | .lst k l,o=>∃es,o=.blk (cds k).length es/\Ql k l es
 | .map _ b m,o=>∃rows,o=.mp (fV b m rows)/\Qm b m rows
 | .it s p,o=>o=.raw (.stringIter s p)
 | .rows s es,o=>∃aw,o=.blk s aw/\bG (Qc H) es aw
 | .gone,_=>True
 | .fr n a,o=>L5 n a o
theorem Qo.mono(m:HM H H'){o:jC}{b:cG}(h:Qo H o b): Qo H' o b:=by
 cases o with
 | box cs=>let⟨aw,a,c⟩:=h;exact⟨aw,a,c.imp λ_ _ h=>h.mono m⟩
 | rows s es=>let⟨aw,a,c⟩:=h;exact⟨aw,a,c.imp λ_ _ h=>h.imp λ_ _ h=>h.mono m⟩
 | _=>exact h
abbrev Qs(H:TH)(A:aK): Prop:=bG (Qo H) H A
theorem HM.set{id:Nat}{o:jC}(h:∀(k:Nat) (l:List<|den k),H[id]?=some (.lst k l)->∃(k':Nat) (a:List<|den k'),o=.lst k' a/\a.length=l.length): HM H<|H.set id o:=by
 intro i k l c;rw[List.getElem?_set];split
 .rename_i e;subst e;let⟨k',a,f,d⟩:=h k l c;have:=(List.getElem?_eq_some_iff.1 c).1;exact⟨k',a,by simp[this,f],d⟩
 .exact⟨k,l,c,rfl⟩
theorem HM.add{o:jC}: HM H<|H++[o]:=by
 intro i k l a;exact⟨k,l,by rw[List.getElem?_append_left (List.getElem?_eq_some_iff.1 a).1];exact a,rfl⟩
theorem Qs.add{A:aK}{o:jC}{b:cG}(h:Qs H A)(k:Qo (H++[o]) o b): Qs (H++[o])<|A++[b]:=
 (h.imp λ_ _ h=>h.mono HM.add).app ⟨k,trivial⟩
theorem Qs.set{A:aK}{id:Nat}{o:jC}{b:cG}(h:Qs H A)(m:HM H<|H.set id o)(k:Qo (H.set id o) o b): Qs (H.set id o)<|A.set id b:=
 (h.imp λ_ _ h=>h.mono m).set id k
structure Qt(N:Nat)(S:TS)(st:St): Prop where
 ln:st.tmps.length=N
 tm:∀(t:Nat) (v:TV),dV t S.tm=some v->∃a,st.tmps[t]?=some a/\Qh S.hp v a
 hp:Qs S.hp st.heap
theorem Qc.lits: ∀(vs:List Value),Qc H (vs.map .lit)<|vs.map .lit
 | []=>trivial
 | v::r=>⟨Qh.l v,Qc.lits r⟩
theorem BS: ∀{cs:List AV} {l:List TV},LL cs=some l->Qr l cs
 | [],l,b=>by cases b;trivial
 | a::r,l,b=>by
  simp only[LL] at b;split at b
  .split at b
   .rename_i d c;cases b;exact⟨.lit _,BS c⟩
   .cases b
  .cases b
theorem Qt.get[aA]{N:Nat}{S:TS}{st:St}(h:Qt N S st)(x:aN): Qh S.hp (bH S.tm x)<|aB st.tmps x:=by
 cases x with
 | tmp t=>
  simp only[bH,aB];cases b:dV t S.tm with
  | none=>exact Qh.u _
  | some v=>
   let⟨a,e,f⟩:=h.tm t v b;simp only[e];exact f
 | lit v=>exact Qh.l v
 | agg vs=>exact Qh.mkA<|Qc.lits vs
 | fn vi=>exact Qh.mkF trivial
 | glob g=>
  simp only[bH,aB];cases aA.tab g with
  | none=>exact Qh.u _
  | some cs=>
   simp only;split
   .rename_i l b;exact .p _ _<|Qp.mkR<|BS b
   .exact Qh.u _
theorem Qt.put{N:Nat}{S:TS}{st:St}(h:Qt N S st){d:Nat}{v:TV}{a:AV}(g:d<N)(q:Qh S.hp v a): Qt N ⟨(d,v)::S.tm,S.hp⟩ ⟨st.tmps.set d a,st.heap⟩:=by
 refine⟨by simp[h.ln],λt w c=>?_,h.hp⟩;simp only[dV] at c;split at c
 .rename_i e;have e:=Nat.eq_of_beq_eq_true e;cases c;subst e;exact⟨a,by simp[h.ln,g],q⟩
 .rename_i e;let⟨b,i,f⟩:=h.tm t w c;have e:¬d=t:=Nat.ne_of_beq_eq_false e;exact⟨b,by rw[List.getElem?_set_ne e];exact i,f⟩
theorem Qt.hpM{N:Nat}{S:TS}{st:St}(h:Qt N S st){H':TH}{A:aK}(m:HM S.hp H')(k:Qs H' A): Qt N ⟨S.tm,H'⟩ ⟨st.tmps,A⟩:=
 ⟨h.ln,λt v c=>(h.tm t v c).elim λa b=>⟨a,b.1,b.2.mono m⟩,k⟩
end
theorem jK{F:Nat->Type}{k k':Nat}{x:F k}{y:F k'}(h:xQ F x=some y): ∃e:k=k',y=e▸x:=by
 unfold xQ at h;split at h
 .rename_i e _;cases h;exact⟨e,rfl⟩
 .cases h
section
variable [cN]{H H':TH}{A:aK}
theorem Dg{a b a' b':Nat}{m:List<|den a×den b}{y:List<|den a'×den b'}(h:Hz m=some y): ∃(e:a=a') (d:b=b'),y=e▸d▸m:=by
 unfold Hz at h;split at h
 .rename_i e _;split at h
  .rename_i d _;cases h;exact⟨e,d,rfl⟩
  .cases h
 .cases h
theorem ZV{w kk a:Nat}{v:TV}{x:List<|den kk×den a}(h:rdM w H kk a v=some x): v=.rmp kk a x\/(v=.lit (.map none)/\x=[])\/(w=2/\ag a=false/\∃id,v=.mp id/\H[id]?=some (.map kk a x)):=by
 unfold rdM at h;split at h
 .let⟨e,b,h⟩:=Dg h;subst e;subst b;subst h;exact .inl rfl
 .split at h
  .split at h
   .cases h;exact .inr<|.inl ⟨rfl,rfl⟩
   .cases h
  .cases h
 .split at h
  .split at h
   .cases h
   .rename_i f;split at h
    .rename_i o d;split at h
     .let⟨e,b,h⟩:=Dg h;subst e;subst b;subst h;exact .inr<|.inr ⟨rfl,f,_,rfl,d⟩
     .cases h
    .cases h
  .cases h
 .cases h
theorem SX{w kk b:Nat}{v:TV}{x:List<|den kk×den b}{a:AV}(d:w≠2)(h:rdM w H kk b v=some x)(q:Qh H' v a): Qp (.rmp kk b x) a:=by
 rcases ZV h with rfl | ⟨rfl,rfl⟩ | ⟨e,_⟩
 .exact q.pu trivial
 .rw[q.inL];exact Qp.mkM (rows:=[]) (.inl ⟨rfl,rfl⟩) trivial
 .exact (d e).elim
theorem Jy{α:Type}(l:List α)(m:Option<|Nat×Nat): RA l m=(l.drop (qY l m).1).take (qY l m).2:=by
 cases m with
 | none=>simp[RA,qY]
 | some w=>rfl
theorem Qh.mw{id k:Nat}{l:List<|den k}{m:Option<|Nat×Nat}{a:AV}(q:Qh H (.ms id m) a)(d:H[id]?=some (.lst k l)): a=.ms id l.length (qY l m).1 (qY l m).2:=by
 cases q with
 | p _ _ q=>cases q
 | ms _ k' e b=>rw[d] at b;cases b;rfl
 | msn _ c k' e b=>rw[d] at b;cases b;rfl
theorem O1{id k:Nat}{l:List<|den k}{m:Option<|Nat×Nat}(e:Qs H A)(c:H[id]?=some (.lst k l)):
 ∃es,rd A (.ms id l.length (qY l m).1 (qY l m).2)=some es/\Ql k (RA l m) es:=by
 obtain⟨b,f,es,rfl,a⟩:=e.get c;refine⟨(es.drop (qY l m).1).take (qY l m).2,?_,?_⟩
 .simp only[rd,f,a.len,if_true]
 .rw[Jy];exact (a.drop _).take _
theorem Bt{w k:Nat}{v:TV}{l:List<|den k}{a:AV}(h:Vx w H k v=some l)(q:Qh H v a)(p:w≠0->Qs H A):
 (∃es,((a=.lit bZ/\es=[])\/∃f,a=.sl f es)/\Ql k l es)\/(w=1/\∃es,((a=.lit bZ/\es=[])\/(∃f,a=.sl f es)\/a=.vw es)/\Ql k l es)\/(w≠0/\∃id tot o n es,a=.ms id tot o n/\rd A a=some es/\Ql k l es):=by
 unfold Vx at h;split at h
 .let⟨e,h⟩:=jK h;subst e;subst h;exact .inl (q.pu trivial).inS
 .cases h;have:=q.pu trivial;cases this with
  | emp b a h=>
   refine .inl ⟨[],?_,trivial⟩;rcases h with h | h | ⟨_,h⟩
   .exact .inl ⟨h,rfl⟩
   .exact .inr ⟨_,h⟩
   .exact .inr ⟨_,h⟩
 .rename_i v;have e:=q.inL;subst e;split at h
  .split at h
   .split at h
    .split at h
     .cases h;exact .inl ⟨[],.inl ⟨rfl,rfl⟩,trivial⟩
     .cases h
    .cases h
   .cases h
  .cases h
 .split at h
  .let⟨e,h⟩:=jK h;subst e;subst h;exact .inr<|.inl ⟨rfl,(q.pu trivial).inV⟩
  .cases h
 .rename_i id m;split at h
  .cases h
  .rename_i d;split at h
   .rename_i o c;split at h
    .rename_i k' s;let⟨e,h⟩:=jK h;subst e;subst h;refine .inr<|.inr ⟨d,?_⟩;rw[q.mw c];obtain⟨es,r,j⟩:=O1 (p d) c;exact⟨_,_,_,_,es,rfl,r,j⟩
    .cases h
   .cases h
 .cases h
theorem FL{w k:Nat}{v:TV}{l:List<|den k}{a:AV}(h:Vx w H k v=some l)(q:Qh H v a)(e:Qs H A): ∃es,rd A a=some es/\Ql k l es:=by
 rcases Bt h q (λ_=>e) with⟨es,c,b⟩ | ⟨_,es,c,b⟩ | ⟨_,id,tot,o,n,es,rfl,c,b⟩
 .rcases c with⟨rfl,rfl⟩ | ⟨f,rfl⟩
  .exact⟨_,rfl,b⟩
  .exact⟨_,rfl,b⟩
 .rcases c with⟨rfl,rfl⟩ | ⟨f,rfl⟩ | rfl
  .exact⟨_,rfl,b⟩
  .exact⟨_,rfl,b⟩
  .exact⟨_,rfl,b⟩
 .exact⟨es,c,b⟩
structure Qe(g:AV->AV): Prop where
 l:∀v,g (.lit v)=.lit v\/g (.lit v)=nQ v
 s:∀f es,∃f',g (.sl f es)=.sl f' es
 p:∀cs,g (.sptr cs)=.sptr cs
 m:∀e,g (.rmp e)=.rmp e
theorem sI: Qe tJ:=⟨λv=>.inr rfl,λf es=>⟨false,rfl⟩,λ_=>rfl,λ_=>rfl⟩
theorem UM: Qe k6:=⟨λv=>.inr rfl,λf es=>⟨false,rfl⟩,λ_=>rfl,λ_=>rfl⟩
theorem BJ(n:Nat): Qe<|fZ n:=⟨λv=>.inl rfl,λf es=>⟨f,rfl⟩,λ_=>rfl,λ_=>rfl⟩
theorem Eu(B:aK)(n d:Nat): Qe<|eA B n d:=⟨λv=>.inr<|by cases d<;>rfl,λf es=>⟨false,by cases d<;>rfl⟩,λ_=>by cases d<;>rfl,λ_=>by cases d<;>rfl⟩
theorem Qe.c{g:AV->AV}(m:Qe g){c:Cd}{x:c.den}{b:AV}(h:Qp (c.tv x) b): Qp (c.tv x)<|g b:=by
 cases c with
 | int o=>cases h;rcases m.l (.int o x) with e | e<;>rw[e]<;>exact .lit _
 | bool=>cases h;rcases m.l (.bool x) with e | e<;>rw[e]<;>exact .lit _
 | str=>cases h;rcases m.l (.string x) with e | e<;>rw[e]<;>exact .lit _
 | sl k=>
  let⟨es,d,a⟩:=Qp.inS h;rcases d with⟨rfl,rfl⟩ | ⟨f,rfl⟩
  .rcases m.l bZ with e | e
   .rw[e];exact Qp.mkS (.inl ⟨rfl,rfl⟩) a
   .rw[e];exact Qp.mkS (.inr ⟨false,rfl⟩) a
  .let⟨q,e⟩:=m.s f es;rw[e];exact Qp.mkS (.inr ⟨q,rfl⟩) a
 | sptr k=>
  obtain⟨aw,rfl,a⟩:=Qp.inP h;rw[m.p];exact h
 | mp kk u=>
  let⟨rows,d,a⟩:=Qp.inM h;refine Qp.mkM ?_ a;rcases d with⟨rfl,d⟩ | rfl
  .exact .inl ⟨by rcases m.l (.map none) with e | e<;>rw[e];rfl,d⟩
  .exact .inr<|m.m _
 | any=>exact .undef _
theorem Qe.r{g:AV->AV}(m:Qe g): ∀{cs:List Cd} {p:zL cs} {e:List AV},Qr (jB cs p) e->Qr (jB cs p) (e.map g)
 | [],_,[],_=>trivial
 | c::r,p,b::e,h=>⟨m.c h.1,m.r h.2⟩
theorem Qe.ls{g:AV->AV}(m:Qe g){k:Nat}{l:List<|den k}{es:List<|List AV}(h:Ql k l es): Ql k l<|es.map λe=>e.map g:=h.mapR λ_ _ h=>m.r h
theorem aAG{k:Nat}{v:TV}{l:List<|den k}(h:Vx 0 H k v=some l): Vx 0 H' k v=some l:=by cases v<;>exact h
theorem AM{w:Nat}{a:IntKind}{v:TV}{x:Int}(h:KA w H (.int a) v=some x): v=.lit (.int a x):=by
 cases v with
 | lit u=>
  cases u with
  | int k n=>
   have h:(match decEq k a with | isTrue _=>some n | isFalse _=>none)=some x:=h;split at h
   .rename_i e _;cases h;rw[e]
   .cases h
  | _=>cases h
 | _=>cases h
theorem Ly{w:Nat}{v:TV}{x:Bool}(h:KA w H .bool v=some x): v=.lit (.bool x):=by
 cases v with
 | lit u=>
  cases u with
  | bool b=>cases h;rfl
  | _=>cases h
 | _=>cases h
theorem AK{w:Nat}{v:TV}{x:ByteArray}(h:KA w H .str v=some x): v=.lit (.string x):=by
 cases v with
 | lit u=>
  cases u with
  | string b=>cases h;rfl
  | _=>cases h
 | _=>cases h
theorem AL{w k:Nat}{v:TV}{x:den k}(h:KA w H (.sptr k) v=some x): v=.sptr k x:=by
 cases v with
 | sptr k' y=>
  let⟨e,h⟩:=jK (F:=den) (x:=y) (y:=x) h;subst e;subst h;rfl
 | _=>cases h
theorem rd0{c:Cd}{v:TV}{x:c.den}{a:AV}(h:KA 0 H c v=some x)(q:Qh H' v a): Qp (c.tv x) a:=by
 cases c with
 | int n=>have e:=AM h;subst e;rw[q.inL];exact .lit _
 | bool=>have e:=Ly h;subst e;rw[q.inL];exact .lit _
 | str=>have e:=AK h;subst e;rw[q.inL];exact .lit _
 | sl k=>
  have h:Vx 0 H k v=some x:=h;rcases Bt (A:=[]) (aAG h) q (λe=>(e rfl).elim) with⟨es,i,f⟩ | ⟨e,_⟩ | ⟨e,_⟩
  .exact Qp.mkS i f
  .cases e
  .exact (e rfl).elim
 | sptr k=>have e:=AL h;subst e;exact q.pu trivial
 | mp kk m=>exact SX (w:=0) (H:=H) (by decide) h q
 | any=>exact .undef _
theorem aAI: ∀{cs:List Cd} {vs:List TV} {p:zL cs} {aw:List AV},YA 0 H cs vs=some p->Qc H' vs aw->Qr (jB cs p) aw
 | [],[],_,[],_,_=>trivial
 | c::r,v::vs,p,a::aw,h,q=>by
  simp only[YA] at h;split at h
  .rename_i x b;split at h
   .rename_i p' d;cases h;exact⟨rd0 b q.1,aAI d q.2⟩
   .cases h
  .cases h
theorem gC{k:Nat}{vs:List TV}{x:den k}{aw:List AV}(h:gV 0 H k vs=some x)(q:Qc H' vs aw): Qr (iN k x) aw:=by
 unfold gV at h;split at h
 .rename_i p a;cases h;unfold iN;rw[cN.un_pk];exact aAI a q
 .cases h
theorem Qr.c{cs:List TV}{aw:List AV}(h:Qr cs aw): Qc H cs aw:=h.imp λ_ _ h=>.p _ _ h
theorem Kh{k:Nat}: ∀{vs:List<|List TV} {l:List<|den k} {es:List<|List AV},oR H k vs=some l->bG (Qc H') vs es->Ql k l es
 | [],_,[],h,_=>by cases h;trivial
 | v::vs,l,e::es,h,q=>by
  simp only[oR] at h;split at h
  .rename_i x a;split at h
   .rename_i d c;cases h;exact⟨gC a q.1,Kh c q.2⟩
   .cases h
  .cases h
theorem YL{k:Nat}{x:den k}{aw:List AV}(h:Qr (iN k x) aw)(a:ag k=true): Qh H (val k x)<|.agg aw:=by
 unfold val;rw[a];exact Qh.mkA h.c
theorem YM{k:Nat}{x:den k}{a:AV}(h:Qr (iN k x) [a])(e:ag k=false): Qh H (val k x) a:=by
 unfold val;rw[e];cases b:iN k x with
 | nil=>rw[b] at h;exact h.elim
 | cons c r=>rw[b] at h;exact .p _ _ h.1
theorem aAF{k:Nat}{v:TV}{x:den k}{a:AV}{H1:TH}(h:Kg 0 H k v=some x)(q:Qh H' v a): Qh H1 (val k x) a:=by
 unfold Kg at h;split at h
 .rename_i b;split at h
  .obtain⟨aw,rfl,q'⟩:=q.inA;exact YL (gC h q') b
  .cases h
 .rename_i b;exact YM (gC h (aw:=[a]) ⟨q,trivial⟩) b
end
section
variable [cN]{R:Type}{H:TH}{A:aK}{N:Nat}{S:TS}{st:St}{P:Program}{cf:CF}{op:tK}{K:TV->TS->Option R}{r:R}
theorem Bo{v:TV}{a:AV}{K:TV->Option R}(h:wB v K=some r)(q:Qh H v a): ∃c,Qh H c a/\K c=some r:=by
 unfold wB at h;split at h
 .split at h
  .rename_i b;have e:=q.inL;subst e;cases b with
   | true=>exact⟨_,q,h⟩
   | false=>exact⟨_,q,h⟩
  .exact⟨_,q,h⟩
 .exact⟨_,q,h⟩
theorem JJ: ∀{vs:List TV} {aw:List AV} {K:List TV->Option R},SA vs K=some r->Qc H vs aw->∃b,Qc H b aw/\K b=some r
 | [],[],K,h,q=>⟨[],trivial,h⟩
 | v::vs,a::aw,K,h,q=>by
  let⟨c,d,h⟩:=Bo h q.1;let⟨b,e,h⟩:=JJ h q.2;exact⟨c::b,⟨d,e⟩,h⟩
theorem ZD{v:TV}{K:TV->Option R}: wB v K=K v:=by
 unfold wB;split
 .split
  .rename_i b;cases b<;>rfl
  .rfl
 .rfl
theorem JK: ∀{vs:List TV} {K:List TV->Option R},SA vs K=K vs
 | [],K=>rfl
 | v::vs,K=>by simp only[SA,ZD];exact JK
theorem Md{cs:List TV}{aw:List AV}{agg:Bool}{off n:Nat}{K:TV->Option R}(h:zU cs agg off n K=some r)(q:Qc H cs aw):
 off+n<=aw.length/\∃tv v,(if agg then some (AV.agg<|(aw.drop off).take n) else match (aw.drop off).take n with | [c]=>some c | _=>none)=some v/\Qh H tv v/\K tv=some r:=by
 unfold zU at h;split at h
 .rename_i d;refine⟨by rw[q.len];exact Nat.le_of_ble_eq_true d,?_⟩;have q':=(q.drop off).take n;split at h
  .exact⟨_,_,rfl,Qh.mkA q',h⟩
  .split at h
   .rename_i c a;rw[a] at q';generalize (aw.drop off).take n=e at q' |-;match e,q' with
    | [b],q'=>exact⟨_,b,rfl,q'.1,h⟩
   .cases h
 .cases h
def bT[aA](P:Program)(cf:CF)(fl N:Nat)(op:tK)(st:St)(K:TV->TS->Option R)(r:R): Prop:=
 ∃v A' tv S',aG P cf fl op st.tmps st.heap=some (v,A')/\Qt N S' ⟨st.tmps,A'⟩/\Qh S'.hp tv v/\K tv S'=some r
theorem bT.same[aA]{fl:Nat}{v:AV}{tv:TV}(b:Qt N S st)(he:aG P cf fl op st.tmps st.heap=some (v,st.heap))(q:Qh S.hp tv v)(h:K tv S=some r): bT P cf fl N op st K r:=
 ⟨v,st.heap,tv,S,he,b,q,h⟩
theorem bT.add[aA]{fl:Nat}{v:AV}{tv:TV}{o:jC}{b:cG}(a:Qt N S st)(he:aG P cf fl op st.tmps st.heap=some (v,st.heap++[b]))(k:Qo (S.hp++[o]) o b)(q:Qh (S.hp++[o]) tv v)(h:K tv (tB S o)=some r): bT P cf fl N op st K r:=
 ⟨v,_,tv,tB S o,he,a.hpM HM.add<|a.hp.add k,q,h⟩
theorem bT.set[aA]{fl:Nat}{v:AV}{tv:TV}{id:Nat}{o:jC}{b:cG}(a:Qt N S st)(he:aG P cf fl op st.tmps st.heap=some (v,st.heap.set id b))(m:HM S.hp<|S.hp.set id o)(k:Qo (S.hp.set id o) o b)(q:Qh (S.hp.set id o) tv v)(h:K tv (fK S id o)=some r): bT P cf fl N op st K r:=
 ⟨v,_,tv,fK S id o,he,a.hpM m<|a.hp.set m k,q,h⟩
theorem Qs.ln(h:Qs H A): A.length=H.length:=bG.len h
theorem Qh.ptr1{id off:Nat}{a:AV}(h:Qh H (.ptr id off) a): a=.ptr id 1 0 off:=by
 cases h with
 | p _ _ h=>cases h
 | ptr=>rfl
theorem Qh.pel1{id off:Nat}{i:Int}{a:AV}(h:Qh H (.pel id i off) a): ∃k l,H[id]?=some (.lst k l)/\0<=i/\i.toNat<l.length/\a=.ptr id l.length i.toNat off:=by
 cases h with
 | p _ _ h=>cases h
 | pel _ _ _ k l e c d=>exact⟨k,l,e,c,d,rfl⟩
theorem Qh.rs1{id n:Nat}{a:AV}(h:Qh H (.rs id n) a): a=.ms id n 0 n:=by
 cases h with
 | p _ _ h=>cases h
 | rs=>rfl
theorem Qh.rel1{id n i off:Nat}{a:AV}(h:Qh H (.rel id n i off) a): a=.ptr id n i off:=by
 cases h with
 | p _ _ h=>cases h
 | rel=>rfl
theorem Qh.mp1{id:Nat}{a:AV}(h:Qh H (.mp id) a): a=.mp id:=by
 cases h with
 | p _ _ h=>cases h
 | mp=>rfl
theorem Qs.box(a:Qs H A){id:Nat}{cs:List TV}(h:H[id]?=some (.box cs)): ∃aw,A[id]?=some (.blk cs.length [aw])/\Qc H cs aw:=by
 obtain⟨b,c,aw,rfl,d⟩:=a.get h;exact⟨aw,c,d⟩
theorem Qs.lst(a:Qs H A){id k:Nat}{l:List<|den k}(h:H[id]?=some (.lst k l)): ∃es,A[id]?=some (.blk (cds k).length es)/\Ql k l es:=by
 obtain⟨b,d,es,rfl,e⟩:=a.get h;exact⟨es,d,e⟩
theorem SS{id n i:Nat}{cs:List TV}(f:Qs H A)(h:FF H id n i=some cs): ∃s es aw,A[id]?=some (.blk s es)/\es.length=n/\es[i]?=some aw/\Qc H cs aw:=by
 unfold FF at h;split at h
 .rename_i o a;split at h
  .split at h
   .rename_i e;have e:=Nat.eq_of_beq_eq_true e;obtain⟨b,c,aw,rfl,q⟩:=f.get a;let⟨r,g,d⟩:=q.get h;exact⟨_,aw,r,c,by rw[q.len];exact e,g,d⟩
   .cases h
  .cases h
 .cases h
theorem kP{k:Nat}(x:den k): (iN k x).length=(cds k).length:=by
 have:∀(cs:List Cd) (p:zL cs),(jB cs p).length=cs.length:=by
  intro cs;induction cs with
  | nil=>intro p;rfl
  | cons c r d=>intro p;simp[jB,d]
 exact this _ _
theorem R8[aA]{E:XE}{n m:Nat}{d:Option Nat}{agg:Bool}{x:aN}(u:Qt N S st)(h:bO E n d (.load agg m x) S K=some r): bT P cf E.fl N (.load agg m x) st K r:=by
 have q:=u.get x;have g:∀{cs:List TV} {aw:List AV} {off:Nat} {a:AV},aB st.tmps x=a->(off+m<=aw.length->cA st.heap a m=some ((aw.drop off).take m))->Qc S.hp cs aw->zU cs agg off m (λv=>K v S)=some r->bT P cf E.fl N (.load agg m x) st K r:=by
  intro cs aw off a t f H G;let⟨p,tv,v,b,J,I⟩:=Md G H;refine bT.same u ?_ J I;simp only[aG,t,f p];cases agg with
  | true=>simp only[if_true,Option.some.injEq] at b |-;rw[b]
  | false=>
   simp only[Bool.false_eq_true,if_false] at b |-;split at b
   .rename_i L;rw[L];cases b;rfl
   .cases b
 simp only[bO] at h;split at h
 .rename_i id Q i off j;rw[j] at q;split at h
  .rename_i cs C;let⟨s,es,aw,w,D,F,B⟩:=SS u.hp C;refine g q.rel1 (λf=>?_) B h;simp[cA,w,D,F,f]
  .cases h
 .rename_i id off j;rw[j] at q;split at h
  .rename_i o z;split at h
   .let⟨aw,p,b⟩:=u.hp.box z;exact g q.ptr1 (λf=>by simp[cA,p,f]) b h
   .cases h
  .cases h
 .rename_i cs j;rw[j] at q;let⟨aw,t,b⟩:=(q.pu trivial).inR;exact g (off:=0) t (λf=>by simp[cA] at f |-;exact f) b.c h
 .rename_i k y j;rw[j] at q;let⟨aw,t,b⟩:=(q.pu trivial).inP;exact g (off:=0) t (λf=>by simp[cA] at f |-;exact f) b.c h
 .rename_i id i off j;rw[j] at q;split at h
  .rename_i o z;split at h
   .rename_i k l;let⟨y,M,h⟩:=aX h;let⟨k',R,w,D,F,B⟩:=q.pel1;rw[z] at w;cases w;let⟨es,p,b⟩:=u.hp.lst z;let⟨_,A,_⟩:=mF M;let⟨e,he,O⟩:=b.get A;exact g B (λf=>by simp[cA,p,b.len,he,f]) O.c h
   .cases h
  .cases h
 .cases h
theorem sV{v:TV}{a:AV}{cs:List TV}(h:Fx v=some cs)(q:Qh H v a): ∃aw,cellsOf a=some aw/\Qc H cs aw:=by
 cases v with
 | agg vs=>
  cases h;obtain⟨aw,rfl,B⟩:=q.inA;exact⟨aw,rfl,B⟩
 | undef=>cases h
 | tup=>cases h
 | rptr=>cases h
 | lit u=>
  have h:(match aS u with | true=>some [TV.lit u] | false=>none)=some cs:=h;split at h
  .rename_i y;cases h;have e:=q.inL;subst e;exact⟨[.lit u],by simp[cellsOf,y],q,trivial⟩
  .cases h
 | emp b=>
  cases h;have q':=q.pu trivial;cases q' with
  | emp b a h=>rcases h with rfl | rfl | ⟨_,rfl⟩<;>exact⟨[_],rfl,q,trivial⟩
 | sl k l=>
  cases h;let⟨es,c,_⟩:=(q.pu trivial).inS;rcases c with⟨rfl,_⟩ | ⟨f,rfl⟩<;>exact⟨[_],rfl,q,trivial⟩
 | vw k l=>
  cases h;let⟨es,c,_⟩:=(q.pu trivial).inV;rcases c with⟨rfl,_⟩ | ⟨f,rfl⟩ | rfl<;>exact⟨[_],rfl,q,trivial⟩
 | slF k l=>
  cases h;let⟨es,c,_⟩:=(q.pu trivial).inE;rcases c with⟨rfl,_⟩ | rfl<;>exact⟨[_],rfl,q,trivial⟩
 | ms id n=>
  cases h;cases q with
  | p _ _ q=>cases q
  | ms _ k l h=>exact⟨[_],rfl,.ms _ k l h,trivial⟩
  | msn _ n k l h=>exact⟨[_],rfl,.msn _ n k l h,trivial⟩
 | ptr id off=>cases h;have e:=q.ptr1;subst e;exact⟨[_],rfl,q,trivial⟩
 | pel id i off=>cases h;let⟨k,l,_,_,_,e⟩:=q.pel1;subst e;exact⟨[_],rfl,q,trivial⟩
 | sptr k x=>cases h;let⟨aw,e,_⟩:=(q.pu trivial).inP;subst e;exact⟨[_],rfl,q,trivial⟩
 | rmp kk G m=>
  cases h;let⟨rows,c,_⟩:=(q.pu trivial).inM;rcases c with⟨rfl,_⟩ | rfl<;>exact⟨[_],rfl,q,trivial⟩
 | rs id n=>cases h;have e:=q.rs1;subst e;exact⟨[_],rfl,q,trivial⟩
 | rel id n i off=>cases h;have e:=q.rel1;subst e;exact⟨[_],rfl,q,trivial⟩
 | mp id=>
  cases h;cases q with
  | p _ _ q=>cases q
  | mp=>exact⟨[_],rfl,.mp _,trivial⟩
 | it id=>
  cases h;cases q with
  | p _ _ q=>cases q
  | it=>exact⟨[_],rfl,.it _,trivial⟩
 | fn vi cs=>
  cases h;obtain⟨aw,rfl,_⟩:=q.inF;exact⟨[_],rfl,q,trivial⟩
theorem YX[aA]{E:XE}{n m:Nat}{d:Option Nat}{x v:aN}(t:Qt N S st)(h:bO E n d (.store m x v) S K=some r): bT P cf E.fl N (.store m x v) st K r:=by
 have q:=t.get x;simp only[bO] at h;split at h
 .rename_i cs D;let⟨aw,J,w⟩:=sV D<|t.get v;split at h
  .rename_i A;have A:=Nat.eq_of_beq_eq_true A;have f:aw.length=m:=by rw[w.len,A]
   split at h
   .rename_i id off B;rw[B] at q;have q:=q.ptr1;split at h
    .cases h
    rename_i a;have a:=Nat.le_of_ble_eq_true a;split at h
    .rename_i o j;split at h
     .rename_i z;split at h
      .rename_i p;have p:=Nat.le_of_ble_eq_true p;let⟨es,F,s⟩:=t.hp.box j;have g:off+aw.length<=es.length:=by rw[w.len,s.len];exact p
       have u:(aR z off cs).length=z.length:=by simp[aR];omega
       refine bT.set (o:=.box<|aR z off cs) (b:=.blk z.length [aR es off aw]) t ?_ (HM.set λk l e=>by rw[j] at e;cases e) ⟨aR es off aw,by rw[u],?_⟩ (Qh.l _) h
       .simp only[aG,J,f,if_true,q,dY,a,F,List.length_singleton,List.getElem?_cons_zero];rw[if_pos<|by rw[<-f];exact g];rfl
       .exact (s.spl w).imp λ_ _ h=>h.mono<|HM.set λk l e=>by rw[j] at e;cases e
      .cases h
     .cases h
    .cases h
   .rename_i id i off B;rw[B] at q;split at h
    .cases h
    rename_i a;have a:=Nat.le_of_ble_eq_true a;split at h
    .rename_i o j;split at h
     .rename_i k l;let⟨y,T,h⟩:=aX h;let⟨_,C,R⟩:=mF T;let⟨k',O,I,V,U,M⟩:=q.pel1;rw[j] at I;cases I;split at h
      .rename_i p;have p:=Nat.le_of_ble_eq_true p;split at h
       .rename_i Q G;let⟨es,F,s⟩:=t.hp.lst j;let⟨e,he,H⟩:=s.get C;have g:off+aw.length<=e.length:=by rw[w.len,H.len,kP];exact p
        refine bT.set (o:=.lst k<|l.set i.toNat Q) (b:=.blk (cds k).length<|es.set i.toNat<|aR e off aw) t ?_ (HM.set λk O e=>by rw[j] at e;cases e;exact⟨_,_,rfl,by simp⟩) ⟨es.set i.toNat<|aR e off aw,rfl,?_⟩ (Qh.l _) h
        .simp only[aG,J,f,if_true,M,dY,a,F,s.len,he];rw[if_pos<|by rw[<-f];exact g]
        .exact s.set _<|gC G<|H.c.spl w
       .cases h
      .cases h
     .cases h
    .cases h
   .cases h
  .cases h
 .cases h
end
section
variable [cN]{H H1:TH}{A:aK}
theorem Qp.w{k:Nat}{l:List<|den k}{a:AV}(h:Qp (.sl k l) a): Qp (.vw k l) a:=by
 let⟨es,b,c⟩:=h.inS;exact Qp.mkV (by rcases b with b | b;exact .inl b;exact .inr<|.inl b) c
theorem Qp.w1{c:Cd}{x:c.den}{a:AV}(h:Qp (c.tv x) a): Qp (Eb<|c.tv x) a:=by
 cases c with
 | sl k=>exact Qp.w h
 | _=>exact h
theorem Vb(c:Cd)(x:c.den): F7 (c.tv x)=Eb (c.tv x):=by cases c<;>rfl
theorem Nw{kk a:Nat}{m:List<|den kk×den a}{g d:AV->AV}(h:∀r,d (nD (ag a) r)=nD (ag a) (r.map g)){rows:List<|List AV}: ((fV a m rows).map λe=>(e.1,d e.2))=fV a m (rows.map λr=>r.map g):=by
 unfold fV;generalize m.map (λp=>lF kk p.1)=c;induction c generalizing rows with
 | nil=>rfl
 | cons v c i=>cases rows with
  | nil=>rfl
  | cons r rows=>simp only[List.map_cons,List.zip_cons_cons,h,i]
theorem rd1{c:Cd}{v:TV}{x:c.den}{a:AV}(h:KA 1 H c v=some x)(q:Qh H v a)(l:Qs H A): Qp (Eb<|c.tv x)<|vU A a:=by
 cases c with
 | int p=>have e:=AM h;subst e;rw[q.inL];exact .lit _
 | bool=>have e:=Ly h;subst e;rw[q.inL];exact .lit _
 | str=>have e:=AK h;subst e;rw[q.inL];exact .lit _
 | sl k=>
  have h:Vx 1 H k v=some x:=h;rcases Bt h q (λ_=>l) with⟨es,d,b⟩ | ⟨_,es,d,b⟩ | ⟨_,id,tot,o,n,es,rfl,d,b⟩
  .rcases d with⟨rfl,rfl⟩ | ⟨f,rfl⟩
   .exact Qp.mkV (es:=[]) (.inr<|.inr rfl) b
   .exact Qp.mkV (.inr<|.inr rfl) b
  .rcases d with⟨rfl,rfl⟩ | ⟨f,rfl⟩ | rfl
   .exact Qp.mkV (es:=[]) (.inr<|.inr rfl) b
   .exact Qp.mkV (.inr<|.inr rfl) b
   .exact Qp.mkV (.inr<|.inr rfl) b
  .simp only[vU,d];exact Qp.mkV (.inr<|.inr rfl)<|sI.ls b
 | sptr k=>
  have e:=AL h;subst e;obtain⟨aw,rfl,b⟩:=(q.pu trivial).inP;exact Qp.mkP b
 | mp kk t=>
  let⟨rows,d,b⟩:=(SX (w:=1) (H:=H) (by decide) h q).inM;rcases d with⟨rfl,d⟩ | rfl
  .exact Qp.mkM (.inl ⟨rfl,d⟩) b
  .exact Qp.mkM (.inr rfl) b
 | any=>exact .undef _
theorem aCO{c:Cd}{v:TV}{x:c.den}{a:AV}(h:KA 1 [] c v=some x)(q:Qh H v a): Qp (Eb<|c.tv x) a:=by
 cases c with
 | int B=>have e:=AM h;subst e;rw[q.inL];exact .lit _
 | bool=>have e:=Ly h;subst e;rw[q.inL];exact .lit _
 | str=>have e:=AK h;subst e;rw[q.inL];exact .lit _
 | sl k=>
  have h:Vx 1 [] k v=some x:=h;have p:Vx 1 H k v=some x/\∀id n,v≠.ms id n:=by
   cases v with
   | ms id n=>cases h
   | _=>exact⟨h,λ_ _ e=>by cases e⟩
  cases v with
  | ms id n=>exact (p.2 _ _ rfl).elim
  | vw k' l=>
   let⟨e,h⟩:=jK (F:=λk=>List<|den k) (x:=l) (y:=x) h;subst e;subst h;exact q.pu trivial
  | sl k' l=>
   let⟨e,h⟩:=jK (F:=λk=>List<|den k) (x:=l) (y:=x) h;subst e;subst h;exact (q.pu trivial).w
  | emp b=>exact (rd0 (c:=.sl k) (H:=[]) (v:=.emp b) (x:=x) (show Vx 0 [] k (.emp b)=some x from h) q).w
  | lit u=>exact (rd0 (c:=.sl k) (H:=[]) (v:=.lit u) (x:=x) (show Vx 0 [] k (.lit u)=some x from h) q).w
  | _=>cases h
 | sptr k=>have e:=AL h;subst e;exact q.pu trivial
 | mp kk A=>
  exact SX (w:=1) (H:=[]) (by decide) h q
 | any=>exact .undef _
theorem rd2{c:Cd}{v:TV}{x:c.den}{a:AV}(h:KA 2 H c v=some x)(q:Qh H v a)(m:Qs H A): Qp (c.tv x)<|fE A 0 a:=by
 cases c with
 | int D=>have e:=AM h;subst e;rw[q.inL];exact .lit _
 | bool=>have e:=Ly h;subst e;rw[q.inL];exact .lit _
 | str=>have e:=AK h;subst e;rw[q.inL];exact .lit _
 | sl k=>
  have h:Vx 2 H k v=some x:=h;rcases Bt h q (λ_=>m) with⟨es,i,d⟩ | ⟨e,_⟩ | ⟨_,id,tot,o,n,es,rfl,i,d⟩
  .rcases i with⟨rfl,rfl⟩ | ⟨f,rfl⟩
   .exact Qp.mkS (es:=[]) (.inr ⟨_,rfl⟩) d
   .exact Qp.mkS (.inr ⟨_,rfl⟩) d
  .cases e
  .simp only[fE,Nat.not_lt_zero,if_false,dZ,eA,Nat.zero_le,if_true,i];exact Qp.mkS (.inr ⟨_,rfl⟩)<|(Eu A 0 5).ls d
 | sptr k=>
  have e:=AL h;subst e;obtain⟨aw,rfl,d⟩:=(q.pu trivial).inP;exact Qp.mkP d
 | mp kk j=>
  have h:rdM 2 H kk j v=some x:=h;rcases ZV h with rfl | ⟨rfl,rfl⟩ | ⟨_,t,id,rfl,i⟩
  .let⟨rows,i,d⟩:=(q.pu trivial).inM;rcases i with⟨rfl,i⟩ | rfl
   .exact Qp.mkM (.inl ⟨rfl,i⟩) d
   .exact Qp.mkM (.inr rfl) d
  .rw[q.inL];exact Qp.mkM (rows:=[]) (.inl ⟨rfl,rfl⟩) trivial
  .obtain⟨b,y,rows,rfl,d⟩:=m.get i;have e:a=.mp id:=by
    cases q with
    | p _ _ q=>cases q
    | mp=>rfl
   subst e;simp only[fE,Nat.not_lt_zero,if_false,dZ,eA,Nat.zero_le,if_true,y];have u:Qm j x<|rows.map λr=>r.map<|eA A 0 5:=d.mapR λ_ _ h=>(Eu A 0 5).r h;refine Qp.mkM (.inr<|congrArg _<|Nw (g:=eA A 0 5) λr=>?_) u;rw[t];cases r<;>rfl
 | any=>cases h
theorem rdn{c:Cd}{v:TV}{x:c.den}{a:AV}(h:KA 0 H c v=some x)(q:Qh H1 v a): Qp (c.tv x) (k6 a)/\tX a=true:=by
 have b:=rd0 h q;refine⟨UM.c b,?_⟩;cases c with
 | int=>cases b;rfl
 | bool=>cases b;rfl
 | str=>cases b;rfl
 | sl k=>
  let⟨es,d,_⟩:=Qp.inS b;rcases d with⟨rfl,_⟩ | ⟨f,rfl⟩<;>rfl
 | sptr k=>obtain⟨aw,rfl,_⟩:=Qp.inP b;rfl
 | mp kk n=>let⟨rows,d,_⟩:=Qp.inM b;rcases d with⟨rfl,_⟩ | rfl<;>rfl
 | any=>cases h
theorem G9{w:Nat}{e:TH}{f:TV->TV}{g:AV->AV}{G:AV->Prop}(k:∀{c:Cd} {v:TV} {x:c.den} {a:AV},KA w e c v=some x->Qh H v a->Qp (f<|c.tv x) (g a)/\G a):
 ∀{cs:List Cd} {vs:List TV} {p:zL cs} {aw:List AV},YA w e cs vs=some p->Qc H vs aw->Qr ((jB cs p).map f) (aw.map g)/\∀a∈aw,G a
 | [],[],_,[],_,_=>⟨trivial,λ_ h=>by cases h⟩
 | c::r,v::vs,p,a::aw,h,q=>by
  simp only[YA] at h;split at h
  .rename_i x i;split at h
   .rename_i p' n;cases h;let⟨l,o⟩:=k i q.1;let⟨j,m⟩:=G9 k n q.2;exact⟨⟨l,j⟩,λb d=>by
     rcases List.mem_cons.1 d with rfl | d
     .exact o
     .exact m b d⟩
   .cases h
  .cases h
theorem Vy{w:Nat}{a:TH}{v:TV}: ∀{cs:List Cd} {p:zL cs},YA w a cs [v]=some p->∃(c:Cd) (y:c.den),U1 (jB cs p)=c.tv y/\KA w a c v=some y
 | [],p,h=>by cases h
 | c::r,p,h=>by
  simp only[YA] at h;split at h
  .rename_i y b;split at h
   .cases h;exact⟨c,y,rfl,b⟩
   .cases h
  .cases h
theorem JX{w:Nat}{d:TH}{f:TV->TV}{g:AV->AV}{G:AV->Prop}(k:∀{c:Cd} {v:TV} {x:c.den} {a:AV},KA w d c v=some x->Qh H v a->Qp (f<|c.tv x) (g a)/\G a){kd:Nat}{v:TV}{x:den kd}{a:AV}(h:Kg w d kd v=some x)(q:Qh H v a):
 (∃aw,a=.agg aw/\val kd x=.agg (iN kd x)/\Qr ((iN kd x).map f) (aw.map g)/\∀b∈aw,G b)\/(∃(c:Cd) (y:c.den),val kd x=c.tv y/\Qp (f<|c.tv y) (g a)/\G a/\KA w d c v=some y):=by
 have s:∀{vs:List TV} {aw:List AV} {x:den kd},gV w d kd vs=some x->Qc H vs aw->Qr ((iN kd x).map f) (aw.map g)/\∀b∈aw,G b:=by
  intro vs aw x h q;unfold gV at h;split at h
  .rename_i p j;cases h;unfold iN;rw[cN.un_pk];exact G9 k j q
  .cases h
 unfold Kg at h;split at h
 .rename_i m;split at h
  .obtain⟨aw,rfl,q'⟩:=q.inA;let⟨i,l⟩:=s h q';exact .inl ⟨aw,rfl,by unfold val;rw[m],i,l⟩
  .cases h
 .rename_i m;right;unfold gV at h;split at h
  .rename_i p j;cases h;have t:val kd (cN.pk kd p)=U1 (jB (cds kd) p):=by
    unfold val iN;rw[m,cN.un_pk]
   rw[t];let⟨c,y,e,o⟩:=Vy j;let⟨i,l⟩:=k o q;exact⟨c,y,e,i,l,o⟩
  .cases h
theorem YR(c:Cd)(x:c.den): Eb (c.tv x)=.undef\/(∀a,Qp (Eb<|c.tv x) a->a≠.undef/\∀l,a≠.agg l):=by
 cases c with
 | int=>right;intro a h;cases h;exact⟨(by intro e;cases e),(by intro l e;cases e)⟩
 | bool=>right;intro a h;cases h;exact⟨(by intro e;cases e),(by intro l e;cases e)⟩
 | str=>right;intro a h;cases h;exact⟨(by intro e;cases e),(by intro l e;cases e)⟩
 | sl k=>
  right;intro a h;let⟨es,b,_⟩:=Qp.inV h;rcases b with⟨rfl,_⟩ | ⟨f,rfl⟩ | rfl<;>exact⟨(by intro e;cases e),(by intro l e;cases e)⟩
 | sptr k=>right;intro a h;obtain⟨aw,rfl,_⟩:=Qp.inP h;exact⟨(by intro e;cases e),(by intro l e;cases e)⟩
 | mp=>right;intro a h;let⟨rows,b,_⟩:=Qp.inM h;rcases b with⟨rfl,_⟩ | rfl<;>exact⟨(by intro e;cases e),(by intro l e;cases e)⟩
 | any=>left;rfl
theorem aCL{k:Nat}{v:TV}{x:den k}{a:AV}(h:Kg 1 H k v=some x)(q:Qh H v a)(i:Qs H A): Qh H1 (F7<|val k x)<|fI A a:=by
 rcases JX (G:=λ_=>True) (f:=Eb) (g:=vU A) (λh q=>⟨rd1 h q i,trivial⟩) h q with⟨aw,rfl,d,b,_⟩ | ⟨c,y,d,b,_,_⟩
 .rw[d];exact Qh.mkA b.c
 .rw[d,Vb];rcases YR c y with e | e
  .rw[e];exact Qh.u _
  .cases a with
   | agg cs=>exact ((e _ b).1 rfl).elim
   | _=>exact .p _ _ b
theorem aAE{k:Nat}{v:TV}{x:den k}{a:AV}(h:Kg 1 [] k v=some x)(q:Qh H v a): Qh H1 (F7<|val k x) a:=by
 rcases JX (G:=λ_=>True) (f:=Eb) (g:=id) (λh q=>⟨aCO h q,trivial⟩) h q with⟨aw,rfl,d,b,_⟩ | ⟨c,y,d,b,_,_⟩
 .rw[d];rw[List.map_id] at b;exact Qh.mkA b.c
 .rw[d,Vb];exact .p _ _ b
theorem aCD{k:Nat}{x:den k}{a:AV}(q:Qh H (val k x) a): Qh H (F7<|val k x) a:=by
 have f:∀(c:Cd) (y:c.den) {b:AV},Qh H (c.tv y) b->Qh H (Eb<|c.tv y) b:=by
  intro c y b q;cases c with
  | sl k=>exact .p _ _ (q.pu trivial).w
  | _=>exact q
 have cs:∀(cs:List Cd) (p:zL cs) {aw:List AV},Qc H (jB cs p) aw->Qc H ((jB cs p).map Eb) aw:=by
  intro cs;induction cs with
  | nil=>intro p aw q;exact q
  | cons c r i=>
   intro p aw q;cases aw with
   | nil=>exact q.elim
   | cons b aw=>exact⟨f c p.1 q.1,i p.2 q.2⟩
 unfold val at q |-;split
 .rename_i d;simp only[d] at q;obtain⟨aw,rfl,g⟩:=q.inA;exact Qh.mkA<|cs _ _ g
 .rename_i d;simp only[d] at q;unfold iN at q |-;generalize cN.un k x=p at q |-;generalize cds k=l at p q |-;cases l with
  | nil=>exact Qh.u _
  | cons c r=>
   have e:F7 (U1<|jB (c::r) p)=Eb (c.tv p.1):=Vb c p.1;rw[e];exact f c p.1 q
theorem O2{n:TH}{k:Nat}{v:TV}{x:den k}{a:AV}(h:Kg 0 n k v=some x)(q:Qh H v a): Qh H1 (val k x) (Ca a)/\lB a=true:=by
 rcases JX (G:=λa=>tX a=true) (f:=λv=>v) (g:=k6) (λh q=>rdn h q) h q with⟨aw,rfl,i,e,d⟩ | ⟨c,y,i,e,d,_⟩
 .rw[i];rw[show (iN k x).map (λv=>v)=iN k x from List.map_id _] at e;refine⟨Qh.mkA e.c,?_⟩;show wH aw=true;clear e q h;induction aw with
  | nil=>rfl
  | cons b r m=>simp only[wH,d b List.mem_cons_self];exact m λb j=>d b<|List.mem_cons_of_mem _ j
 .rw[i];cases a with
  | agg cs=>cases d
  | _=>exact⟨.p _ _ e,d⟩
theorem aCK{k:Nat}{v:TV}{x:den k}{a:AV}(h:Kg 2 H k v=some x)(q:Qh H v a)(w:Qs H A): Qh H1 (val k x) (dF A 0 a)/\∀l,a≠.tup l:=by
 rcases JX (G:=λ_=>True) (f:=λv=>v) (g:=fE A 0) (λh q=>⟨rd2 h q w,trivial⟩) h q with⟨aw,rfl,d,i,_⟩ | ⟨c,y,d,i,_,r⟩
 .rw[d];rw[show (iN k x).map (λv=>v)=iN k x from List.map_id _] at i;exact⟨Qh.mkA i.c,λl e=>by cases e⟩
 .rw[d];have s:c≠.any:=by rintro rfl;cases r
  have n:∀b,Qp (c.tv y) b->b≠.undef:=by
   intro b m e;subst e;cases c with
   | any=>exact s rfl
   | sl k=>let⟨es,d,_⟩:=Qp.inS m;rcases d with⟨h,_⟩ | ⟨f,h⟩<;>cases h
   | mp=>let⟨rows,d,_⟩:=Qp.inM m;rcases d with⟨h,_⟩ | h<;>cases h
   | _=>cases m
  cases a with
  | agg cs=>exact (n _ i rfl).elim
  | tup cs=>exact (n _ i rfl).elim
  | _=>exact⟨.p _ _ i,λl e=>by cases e⟩
def aBY[aA](P:Program)(T:List bC)(vi:Nat)(c:IV): Prop:=∀n p r,c.F n p=some r->∀aw,Qc [] (vQ c.ka p) aw->
 ∃vs a A H,eB P T n 0 vi aw []=some (dM a,A)/\Qs H A/\Qc H vs a/\rA 2 H (c.kr.map .v) vs=some r/\(c.kp=true->Hf H vs=true)
def aBN(A:aK)(vs:List TV)(aw:List AV): Prop:=∀k y b,vs=.sl k y::b->∃a d rows,aw=a::d/\Lu (cds k).length A a=some rows/\Ql k y rows
def MX[aA](P:Program)(T:List bC)(vi:Nat)(c:IV): Prop:=∀n p r,c.F n p=some r->∀aw,Qc [] (vQ c.ka p) aw->
 ∃b A,eB P T n 0 vi aw []=some (dM b,A)/\(∀H1:TH,Qc H1 (vQ (c.kr.map .v) r)<|b.map<|dF A 0)/\(∀a∈b,∀l,a≠.tup l)/\(c.kp=true->aBN A (vQ (c.kr.map .v) r) b)
theorem Vw{w:Nat}{e:TH}{g:AV->AV}{G:AV->Prop}: ∀{c:List Sh} (k:∀s∈c,∀{v:TV} {x:s.den} {a:AV},s.rd w e v=some x->Qh H v a->Qh H1 (s.tv x) (g a)/\G a)
 {vs:List TV} {p:eW c} {aw:List AV},rA w e c vs=some p->Qc H vs aw->Qc H1 (vQ c p) (aw.map g)/\∀a∈aw,G a
 | [],_,[],_,[],_,_=>⟨trivial,λ_ h=>by cases h⟩
 | kd::c,_,[],p,aw,h,_=>by cases h
 | [],_,v::vs,p,aw,h,_=>by cases h
 | kd::c,k,v::vs,p,a::aw,h,q=>by
  simp only[rA] at h;split at h
  .rename_i x r;split at h
   .rename_i p' j;cases h;let⟨i,m⟩:=k kd List.mem_cons_self r q.1;let⟨n,l⟩:=Vw (λs o=>k s<|List.mem_cons_of_mem _ o) j q.2;have f:eW.hd (eW.cs x p')=x:=by cases c<;>rfl
    have e2:eW.tl (eW.cs x p')=p':=by cases c<;>rfl
    refine⟨?_,λb d=>by
     rcases List.mem_cons.1 d with rfl | d
     .exact m
     .exact l b d⟩
    simp only[vQ,f,e2];exact⟨i,n⟩
   .cases h
  .cases h
end
section
variable [cN]{R:Type}{H H1:TH}{A:aK}{N:Nat}{S:TS}{st:St}{P:Program}{T:List bC}{cf:CF}{op:tK}{K:TV->TS->Option R}{r:R}{E:XE}{n:Nat}{d:Option Nat}
theorem Wh{v:TV}{a:AV}(q:Qh H v a)(G:∀cs,v≠.agg cs): Qh H (KY v)<|k6 a:=by
 cases v with
 | lit u=>
  have e:=q.inL;subst e;cases u with
  | slice o l c=>
   cases o with
   | some o=>exact Qh.u _
   | none=>
    cases l with
    | succ l=>exact Qh.u _
    | zero=>
     cases c with
     | succ c=>exact Qh.u _
     | zero=>exact .p _ _<|.emp _ _<|.inr<|.inr ⟨rfl,rfl⟩
  | _=>exact q
 | emp b=>
  cases (q.pu trivial) with
  | emp _ _ h=>rcases h with rfl | rfl | ⟨_,rfl⟩<;>exact .p _ _ (.emp _ _<|.inr<|.inr ⟨rfl,rfl⟩)
 | sl k l=>
  let⟨es,d,g⟩:=(q.pu trivial).inS;rcases d with⟨rfl,rfl⟩ | ⟨f,rfl⟩<;>exact .p _ _ (Qp.mkS (.inr ⟨_,rfl⟩) g)
 | vw k l=>
  let⟨es,d,g⟩:=(q.pu trivial).inV;rcases d with⟨rfl,rfl⟩ | ⟨f,rfl⟩ | rfl
  .exact .p _ _<|Qp.mkV (.inr<|.inl ⟨_,rfl⟩) g
  .exact .p _ _<|Qp.mkV (.inr<|.inl ⟨_,rfl⟩) g
  .exact q
 | slF k l=>
  let⟨es,d,g⟩:=(q.pu trivial).inE;rcases d with⟨rfl,rfl⟩ | rfl<;>exact .p _ _ (Qp.mkS (.inr ⟨_,rfl⟩) g)
 | undef=>exact Qh.u _
 | agg cs=>exact (G cs rfl).elim
 | rptr cs=>obtain⟨aw,rfl,_⟩:=(q.pu trivial).inR;exact q
 | sptr k x=>obtain⟨aw,rfl,_⟩:=(q.pu trivial).inP;exact q
 | ptr=>have e:=q.ptr1;subst e;exact q
 | pel=>let⟨_,_,_,_,_,e⟩:=q.pel1;subst e;exact q
 | fn vi cs=>obtain⟨aw,rfl,_⟩:=q.inF;exact q
 | tup cs=>obtain⟨aw,rfl,_⟩:=q.inT;exact q
 | rmp=>
  let⟨rows,d,_⟩:=(q.pu trivial).inM;rcases d with⟨rfl,_⟩ | rfl<;>exact q
 | rs=>have e:=q.rs1;subst e;exact q
 | rel=>have e:=q.rel1;subst e;exact q
 | ms id m=>
  cases q with
  | p _ _ q=>cases q
  | ms _ k l h=>exact .ms _ k l h
  | msn _ n k l h=>exact .msn _ n k l h
 | mp=>cases q with
  | p _ _ q=>cases q
  | mp=>exact .mp _
 | it=>cases q with
  | p _ _ q=>cases q
  | it=>exact .it _
theorem aAX[aA]{x:aN}(a:Qt N S st)(h:bO E n d (.mov x) S K=some r): bT P cf E.fl N (.mov x) st K r:=bT.same a rfl (a.get x) h
theorem P2[aA]{c x y:aN}(a:Qt N S st)(h:bO E n d (.pick c x y) S K=some r): bT P cf E.fl N (.pick c x y) st K r:=by
 have q:=a.get c;simp only[bO] at h;split at h
 .rename_i u f;rw[f] at q;have e:=q.inL;split at h
  .rename_i b;cases b with
   | true=>exact bT.same a (by simp only[aG,e,if_true]) (a.get x) h
   | false=>exact bT.same a (by simp only[aG,e];rfl) (a.get y) h
  .cases h
 .cases h
theorem D7[aA]{z:List Value}(a:Qt N S st)(h:bO E n d (.alloc z) S K=some r): bT P cf E.fl N (.alloc z) st K r:=by
 have c:=a.hp.ln;exact bT.add (v:=.ptr st.heap.length 1 0 0) (o:=.box<|z.map .lit) (b:=.blk z.length [z.map .lit]) a rfl ⟨z.map .lit,by simp,Qc.lits z⟩ (by rw[c];exact .ptr _ _) h
theorem y8[aA]{s:Nat}(a:Qt N S st)(h:bO E n d (.claim s) S K=some r): bT P cf E.fl N (.claim s) st K r:=by
 have c:=a.hp.ln;simp only[bO] at h;split at h
 .rename_i e;have e:=Nat.eq_of_beq_eq_true e;refine bT.add (v:=.ms st.heap.length 0 0 0) (o:=.lst (fN E d) []) (b:=.blk s []) a rfl ⟨[],by rw[e],trivial⟩ (by rw[c];have w:QZ E d=none\/QZ E d=some (0,0):=(by unfold QZ;split;split;exact .inr rfl;exact .inl rfl;exact .inl rfl);exact w.elim (λw=>by rw[w];exact .ms _ (fN E d) [] (by simp)) λw=>by rw[w];exact .msn _ (0,0) (fN E d) [] (by simp)) h
 .cases h
theorem aBw[aA]{x:aN}(c:Qt N S st)(h:bO E n d (.box x) S K=some r): bT P cf E.fl N (.box x) st K r:=by
 have g:=c.hp.ln;simp only[bO] at h;split at h
 .rename_i cs a;let⟨aw,f,e⟩:=sV a<|c.get x;exact bT.add (v:=.ptr st.heap.length 1 0 0) (o:=.box cs) (b:=.blk aw.length [aw]) c (by simp only[aG,f]) ⟨aw,by rw[e.len],e.imp λ_ _ h=>h.mono HM.add⟩ (by rw[g];exact .ptr _ _) h
 .cases h
theorem Nq[aA](f:Qt N S st): ∀{b:List<|Nat×Nat×aN} {cs cs':List TV} {aw:List AV},CM cs (b.map λ(o,s,x)=>(o,s,bH S.tm x))=some cs'->Qc S.hp cs aw->
 ∃a,vG aw (b.map λ(o,s,x)=>(o,s,aB st.tmps x))=some a/\Qc S.hp cs' a
 | [],cs,cs',aw,h,q=>by cases h;exact⟨aw,rfl,q⟩
 | (o,s,x)::b,cs,cs',aw,h,q=>by
  simp only[List.map_cons,CM] at h;split at h
  .cases h
  .rename_i vs c;let⟨k,j,d⟩:=sV c<|f.get x;split at h
   .rename_i e;have e:=Nat.eq_of_beq_eq_true e;split at h
    .rename_i e2;have e2:=Nat.le_of_ble_eq_true e2;let⟨a,g,i⟩:=Nq f h<|q.spl d;refine⟨a,?_,i⟩;simp only[List.map_cons,vG,j];rw[if_pos ⟨by rw[d.len,e],by rw[q.len];exact e2⟩];exact g
    .cases h
   .cases h
theorem B6[aA]{z:List Value}{c:List<|Nat×Nat×aN}(b:Qt N S st)(h:bO E n d (.build z c) S K=some r): bT P cf E.fl N (.build z c) st K r:=by
 simp only[bO] at h;split at h
 .rename_i cs a;let⟨aw,e,f⟩:=Nq b a<|Qc.lits z;exact bT.same b (by simp only[aG,e]) (Qh.mkA f) h
 .cases h
theorem CN[aA]{s:Nat}(f:Qt N S st): ∀{b:List<|Nat×aN} {cs cs':List<|List TV} {aw:List<|List AV},MA s cs (b.map λ(i,x)=>(i,bH S.tm x))=some cs'->bG (Qc S.hp) cs aw->
 ∃a,xA s aw (b.map λ(i,x)=>(i,aB st.tmps x))=some a/\bG (Qc S.hp) cs' a/\cs'.length=cs.length
 | [],cs,cs',aw,h,q=>by cases h;exact⟨aw,rfl,q,rfl⟩
 | (i,x)::b,cs,cs',aw,h,q=>by
  simp only[List.map_cons,MA] at h;split at h
  .cases h
  .rename_i vs c;let⟨m,l,d⟩:=sV c<|f.get x;split at h
   .rename_i e;have e:=Nat.eq_of_beq_eq_true e;split at h
    .rename_i e2;have e2:i<cs.length:=by simpa [Nat.blt_eq] using e2
     let⟨a,g,j,k⟩:=CN f h<|q.set i d;refine⟨a,?_,j,by rw[k];simp⟩;simp only[List.map_cons,xA,l];rw[if_pos ⟨by rw[d.len,e],by rw[q.len];exact e2⟩];exact g
    .cases h
   .cases h
theorem PX[aA]{pu:Bool}{s m:Nat}{z:List Value}{i:List<|Nat×aN}(a:Qt N S st)(h:bO E n d (.buildSl pu s m z i) S K=some r): bT P cf E.fl N (.buildSl pu s m z i) st K r:=by
 have q:=a.hp.ln;simp only[bO] at h;split at h
 .rename_i es j;let⟨aw,k,f,u⟩:=CN a j<|bG.rep (Qc.lits z) m;split at h
  .split at h
   .cases h
   .exact bT.add (v:=.ms st.heap.length m 0 m) (o:=.rows s es) (b:=.blk s aw) a (by simp only[aG,k,Bool.false_eq_true,if_false]) ⟨aw,rfl,f.imp λ_ _ h=>h.imp λ_ _ h=>h.mono HM.add⟩ (by rw[q];exact .rs _ _) h
  split at h
  .rename_i l c;have g:=Kh c f;split at h
   .rename_i e;have e:=Nat.eq_of_beq_eq_true e;have t:l.length=m:=by rw[<-g.len,f.len,u];simp
    cases pu with
    | true=>
     simp only at h;have he:aG P cf E.fl (.buildSl true s m z i) st.tmps st.heap=some (.sl true<|aw.map λe=>e.map tJ,st.heap):=by simp only[aG,k,if_true]
     split at h
     .cases aw with
      | nil=>exact bT.same a he (.p _ _<|.emp _ _<|.inr<|.inl rfl) h
      | cons=>exact f.elim
     .exact bT.same a he (.p _ _<|Qp.mkS (.inr ⟨_,rfl⟩)<|sI.ls g) h
    | false=>
     exact bT.add (v:=.ms st.heap.length m 0 m) (o:=.lst (fN E d) l) (b:=.blk s aw) a (by simp only[aG,k,Bool.false_eq_true,if_false]) ⟨aw,by rw[e],g⟩ (by rw[q,<-t];exact .ms _ (fN E d) l<|by simp) h
   .cases h
  .cases h
 .cases h
theorem GF[aA]{x:aN}(b:Qt N S st)(h:bO E n d (.nilCheck x) S K=some r): bT P cf E.fl N (.nilCheck x) st K r:=by
 have q:=b.get x;simp only[bO] at h;split at h
 .rename_i a;rw[a] at q;exact bT.same b (by simp only[aG,q.ptr1]) (q.ptr1▸q) h
 .rename_i a;rw[a] at q;let⟨_,_,_,_,_,e⟩:=q.pel1;exact bT.same b (by simp only[aG,e]) (e▸q) h
 .rename_i a;rw[a] at q;let⟨aw,e,_⟩:=(q.pu trivial).inR;exact bT.same b (by simp only[aG,e]) (e▸q) h
 .rename_i a;rw[a] at q;let⟨aw,e,_⟩:=(q.pu trivial).inP;exact bT.same b (by simp only[aG,e]) (e▸q) h
 .rename_i a;rw[a] at q;let⟨aw,e,_⟩:=q.inF;exact bT.same b (by simp only[aG,e]) (e▸q) h
 .cases h
theorem T9{o:BinOp}{k:IntKind}{a b:Int}{K:TV->Option R}(h:aBf o k a b K=some r): ∃v tv,CH o k a b=some v/\Qh H tv (.lit v)/\K tv=some r:=by
 have d:∀{c:Bool},wB (.lit<|.bool c) K=some r->∃v tv,some (Value.bool c)=some v/\Qh H tv (.lit v)/\K tv=some r:=by
  intro c h;let⟨q,i,n⟩:=Bo h<|Qh.l (H:=H)<|.bool c;exact⟨_,q,rfl,i,n⟩
 cases o with
 | add=>exact⟨_,_,rfl,Qh.l _,h⟩
 | sub=>exact⟨_,_,rfl,Qh.l _,h⟩
 | mul=>exact⟨_,_,rfl,Qh.l _,h⟩
 | eql=>exact d h
 | neq=>exact d h
 | lss=>exact d h
 | leq=>exact d h
 | gtr=>exact d h
 | geq=>exact d h
 | _=>cases h
theorem U0[aA]{o:BinOp}{x y:aN}(c:Qt N S st)(h:bO E n d (.ibin o x y) S K=some r): bT P cf E.fl N (.ibin o x y) st K r:=by
 have q:=c.get x;have f:=c.get y;simp only[bO] at h;split at h
 .rename_i u m;rw[m] at q;split at h
  .rename_i k a;split at h
   .rename_i w g;rw[g] at f;split at h
    .rename_i k' b;split at h
     .rename_i e _;subst e;obtain⟨v,tv,j,l,i⟩:=T9 h;exact bT.same c (by simp only[aG,q.inL,f.inL,if_true,j]) l i
     .cases h
    .cases h
   .cases h
  .cases h
 .cases h
theorem aCE[aA]{o:UnOp}{x:aN}(a:Qt N S st)(h:bO E n d (.un o x) S K=some r): bT P cf E.fl N (.un o x) st K r:=by
 have q:=a.get x;simp only[bO] at h;split at h;all_goals first | cases h | skip;all_goals
  split at h
  .rename_i u b;rw[b] at q;split at h
   .exact bT.same a (by simp only[aG,q.inL];rfl) (Qh.l _) h
   .cases h
  .cases h
theorem CP[aA]{o:Nat}{x:aN}(b:Qt N S st)(h:bO E n d (.fieldAddr o x) S K=some r): bT P cf E.fl N (.fieldAddr o x) st K r:=by
 have q:=b.get x;simp only[bO] at h;split at h
 .rename_i a;rw[a] at q;exact bT.same b (by simp only[aG,q.ptr1]) (.ptr _ _) h
 .rename_i a;rw[a] at q;let⟨k,l,f,c,g,e⟩:=q.pel1;exact bT.same b (by simp only[aG,e]) (.pel _ _ _ k l f c g) h
 .rename_i a;rw[a] at q;let⟨aw,e,c⟩:=(q.pu trivial).inR;exact bT.same b (by simp only[aG,e]) (.p _ _<|Qp.mkR<|c.drop _) h
 .rename_i a;rw[a] at q;let⟨aw,e,c⟩:=(q.pu trivial).inP;exact bT.same b (by simp only[aG,e]) (.p _ _<|Qp.mkR<|c.drop _) h
 .rename_i a;rw[a] at q;exact bT.same b (by simp only[aG,q.rel1]) (.rel _ _ _ _) h
 .cases h
theorem u5[aA]{agg:Bool}{m o:Nat}{x:aN}(b:Qt N S st)(h:bO E n d (.field agg m o x) S K=some r): bT P cf E.fl N (.field agg m o x) st K r:=by
 have q:=b.get x;simp only[bO] at h;split at h
 .rename_i cs k;rw[k] at q;let⟨aw,g,c⟩:=q.inA;let⟨e,tv,v,a,j,f⟩:=Md h c;refine bT.same b ?_ j f;simp only[aG,g,e,if_true];cases agg with
  | true=>simp only[if_true,Option.some.injEq] at a |-;rw[a]
  | false=>
   simp only[Bool.false_eq_true,if_false] at a |-;split at a
   .rename_i i;rw[i];cases a;rfl
   .cases a
 .cases h
theorem kF{v:TV}{a:AV}{i:Int}(h:CE v=some i)(q:Qh H v a)(b:0<=i): eO a=some i.toNat:=by
 unfold CE at h;split at h
 .cases h;rw[q.inL];simp[eO,b]
 .cases h
theorem PA[aA]{s:Nat}{x i:aN}(a:Qt N S st)(h:bO E n d (.idxAddr s x i) S K=some r): bT P cf E.fl N (.idxAddr s x i) st K r:=by
 have q:=a.get x;have B:=a.get i;simp only[bO] at h;split at h
 .rename_i j A;split at h
  .rename_i k l g;rw[g] at q;split at h
   .rename_i e;have e:=Nat.eq_of_beq_eq_true e;let⟨y,t,h⟩:=aX h;let⟨c,F,_⟩:=mF t;let⟨es,D,C⟩:=(q.pu trivial).inS;let⟨H,he,u⟩:=C.get F;rcases D with⟨_,rfl⟩ | ⟨f,G⟩
    .simp at he
    .refine bT.same a ?_ (.p _ _<|Qp.mkR u) h;simp only[aG,kF A B c,G,he];rw[if_pos<|by rw[u.len,kP,e]]
   .cases h
  .rename_i k l g;rw[g] at q;split at h
   .rename_i e;have e:=Nat.eq_of_beq_eq_true e;let⟨y,t,h⟩:=aX h;let⟨c,F,_⟩:=mF t;let⟨es,D,C⟩:=(q.pu trivial).inV;let⟨H,he,u⟩:=C.get F;rcases D with⟨_,rfl⟩ | ⟨f,G⟩ | G
    .simp at he
    .refine bT.same a ?_ (.p _ _<|Qp.mkR u) h;simp only[aG,kF A B c,G,he];rw[if_pos<|by rw[u.len,kP,e]]
    .refine bT.same a ?_ (.p _ _<|Qp.mkR u) h;simp only[aG,kF A B c,G,he];rw[if_pos<|by rw[u.len,kP,e]]
   .cases h
  .rename_i id m g;rw[g] at q;split at h
   .rename_i o z;split at h
    .rename_i k l;split at h
     .rename_i e;have e:=Nat.eq_of_beq_eq_true e;let⟨es,D,C⟩:=a.hp.lst z;have L:=q.mw z;split at h
      .let⟨y,t,h⟩:=aX h;let⟨c,F,M,J⟩:=OZ t;refine bT.same a ?_ (.pel id j 0 k l z c J) h;simp only[aG,kF A B c,L,D,qY];rw[if_pos ⟨e,C.len,F⟩,Nat.zero_add]
      .rename_i w;let⟨y,t,h⟩:=aX h;let⟨c,F,M⟩:=mF t;simp only[RA,List.length_take,List.length_drop] at M;have J:(j+((w.1:Nat):Int)).toNat=w.1+j.toNat:=by omega
       refine bT.same (v:=.ptr id l.length (w.1+j.toNat) 0) a ?_ (by rw[<-J];exact .pel id _ 0 k l z (by omega)<|by omega) h;simp only[aG,kF A B c,L,D,qY];rw[if_pos ⟨e,C.len,by omega⟩]
     .cases h
    .cases h
   .cases h
  .rename_i id m g;rw[g] at q;split at h
   .rename_i I;split at h
    .rename_i o z;split at h
     .split at h
      .rename_i e;simp only[Bool.and_eq_true] at e;have H:=Nat.eq_of_beq_eq_true e.1;have e2:=Nat.eq_of_beq_eq_true e.2.1;have R:I<m:=by simpa [Nat.blt_eq] using e.2.2
       obtain⟨b,Q,aw,rfl,O⟩:=a.hp.get z;refine bT.same a ?_ (.rel id m I 0) h;have T:eO (aB st.tmps i)=some I:=kF A B<|Int.natCast_nonneg _;simp only[aG,T,q.rs1,Q];rw[if_pos ⟨H,by rw[O.len,e2],R⟩,Nat.zero_add]
      .cases h
     .cases h
    .cases h
   .cases h
  .cases h
 .cases h
theorem S6[aA]{x:aN}(w:Qt N S st)(h:bO E n d (.lenS x) S K=some r): bT P cf E.fl N (.lenS x) st K r:=by
 have q:=w.get x;simp only[bO] at h;split at h
 .rename_i m g;refine bT.same w ?_ (Qh.l _) h;generalize bH S.tm x=v at g q;generalize i:aB st.tmps x=a at q;cases v with
  | sl k l=>
   cases g;let⟨es,j,s⟩:=(q.pu trivial).inS;rw[<-s.len];rcases j with⟨rfl,rfl⟩ | ⟨f,rfl⟩<;>simp only[aG,i]<;>rfl
  | vw k l=>
   cases g;let⟨es,j,s⟩:=(q.pu trivial).inV;rw[<-s.len];rcases j with⟨rfl,rfl⟩ | ⟨f,rfl⟩ | rfl<;>simp only[aG,i]<;>rfl
  | emp b=>
   cases g;cases (q.pu trivial) with
   | emp _ _ h=>rcases h with rfl | rfl | ⟨_,rfl⟩<;>simp only[aG,i]<;>rfl
  | lit u=>
   have e:=q.inL;subst e;unfold S5 at g;split at g
   .rename_i e;cases e
   .rename_i e;cases e
   .rename_i e;cases e
   .rename_i e;cases e;cases g;simp only[aG,i];rfl
   .rename_i e;cases e
   .rename_i e;cases e
   .cases g
  | rs id c=>cases g;simp only[aG,i,q.rs1]
  | ms id c=>
   cases q with
   | p _ _ q=>cases q
   | ms _ k l t=>
    simp only[S5,t] at g;cases g;simp only[aG,i]
   | msn _ c k l t=>
    cases g;simp only[aG,i]
  | _=>cases g
 .cases h
theorem PI[aA]{i:Nat}{x:aN}(a:Qt N S st)(h:bO E n d (.extract x i) S K=some r): bT P cf E.fl N (.extract x i) st K r:=by
 have q:=a.get x;simp only[bO] at h;split at h
 .rename_i vs g;rw[g] at q;let⟨aw,e,j⟩:=q.inT;split at h
  .rename_i v k;let⟨b,f,c⟩:=j.get k;exact bT.same a (by simp only[aG,e,f]) c h
  .cases h
 .cases h
theorem jR{v:TV}{a:AV}{i:Int}(h:i64? v=some i)(q:Qh H v a): a=iv i:=by
 unfold i64? at h;split at h
 .split at h
  .split at h
   .cases h;exact q.inL
   .cases h
  .cases h
 .cases h
theorem UL[aA]{mx:Bool}{g:List aN}(f:Qt N S st)(h:bO E n d (.minmax mx g) S K=some r): bT P cf E.fl N (.minmax mx g) st K r:=by
 simp only[bO] at h;split at h
 .rename_i p c;match g,c with
  | [x,y],c=>
   simp only[List.map_cons,List.map_nil,G8] at c;split at c
   .rename_i a k;split at c
    .rename_i b j;cases c;have i:=jR k<|f.get x;have e2:=jR j<|f.get y;cases mx with
     | true=>
      refine bT.same f ?_ (Qh.l _) h;have e:aG P cf E.fl (.minmax true [x,y]) st.tmps st.heap=aG P cf E.fl (.minmax true [.tmp 0,.tmp 1]) [aB st.tmps x,aB st.tmps y] st.heap:=rfl;rw[e,i,e2];exact Q1
     | false=>
      refine bT.same f ?_ (Qh.l _) h;have e:aG P cf E.fl (.minmax false [x,y]) st.tmps st.heap=aG P cf E.fl (.minmax false [.tmp 0,.tmp 1]) [aB st.tmps x,aB st.tmps y] st.heap:=rfl;rw[e,i,e2];exact P8
    .cases c
   .cases c
  | [],c=>cases c
  | [_],c=>cases c
  | _::_::_::_,c=>cases c
 .cases h
end
section
variable [cN]{R:Type}{H H1:TH}{A:aK}{N:Nat}{S:TS}{st:St}{P:Program}{T:List bC}{cf:CF}{op:tK}{K:TV->TS->Option R}{r:R}{E:XE}{n:Nat}{d:Option Nat}
theorem Kl{i:Nat}: ∀{a:List Nat},Au i a=false->i∉a
 | [],_=>by simp
 | j::r,h=>by
  simp only[Au] at h;split at h
  .cases h
  .rename_i e;simp only[List.mem_cons,not_or];exact⟨Nat.ne_of_beq_eq_false e,Kl h⟩
theorem GK{i:Nat}: ∀{a:List Nat},i∉a->Au i a=false
 | [],_=>rfl
 | j::r,h=>by
  simp only[List.mem_cons,not_or] at h;simp only[Au];split
  .rename_i e;exact absurd (Nat.eq_of_beq_eq_true e) h.1
  .exact GK h.2
def XQ(c:List Nat)(H H':TH): Prop:=∀(j k:Nat) (l:List<|den k),j∉c->H[j]?=some (.lst k l)->∃(k':Nat) (b:List<|den k'),H'[j]?=some (.lst k' b)/\b.length=l.length
theorem My{f:List Nat}(m:XQ f H H1){v:TV}{a:AV}(q:Qh H v a): Qh H1 (Mz f v) a:=by
 cases q with
 | p _ _ q=>
  cases v with
  | ms=>cases q
  | pel=>cases q
  | agg=>cases q
  | tup=>cases q
  | fn=>cases q
  | _=>exact .p _ _ q
 | ms i k l h=>
  simp only[Mz];cases e:Au i f with
  | true=>exact Qh.u _
  | false=>let⟨k',c,b,d⟩:=m i k l (Kl e) h;rw[<-d];exact .ms i k' c b
 | msn i n k l h=>
  simp only[Mz];cases e:Au i f with
  | true=>exact Qh.u _
  | false=>let⟨k',c,b,d⟩:=m i k l (Kl e) h;rw[<-d];exact .msn i n k' c b
 | pel i j o k l h b d=>
  simp only[Mz];cases e:Au i f with
  | true=>exact Qh.u _
  | false=>let⟨k',c,w,x⟩:=m i k l (Kl e) h;rw[<-x];exact .pel i j o k' c w b<|by omega
 | ptr=>exact .ptr _ _
 | mp=>exact .mp _
 | it=>exact .it _
 | rs=>exact .rs _ _
 | rel=>exact .rel _ _ _ _
 | fn vi cs aw b d=>
  cases cs with
  | nil=>
   cases aw with
   | nil=>exact Qh.mkF trivial
   | cons=>cases b
  | cons=>exact Qh.u _
 | agg=>exact Qh.u _
 | tup=>exact Qh.u _
theorem sL{c:List Nat}(m:XQ c H H1){v:TV}{a:AV}(q:Qh H v a): Qh H1 (zW c v) a:=by
 cases v with
 | agg cs=>
  obtain⟨aw,rfl,b⟩:=q.inA;exact Qh.mkA<|b.mapL λ_ _ q=>My m q
 | fn vi cs=>
  obtain⟨aw,rfl,b⟩:=q.inF;exact Qh.mkF<|b.mapL λ_ _ q=>My m q
 | tup cs=>exact Qh.u _
 | _=>exact My m q
theorem Mu{f:TV->TV}{t:Nat}{v:TV}: ∀{tm:TT},dV t (tm.map λp=>(p.1,f p.2))=some v->∃u,dV t tm=some u/\v=f u
 | [],h=>by cases h
 | (s,u)::tm,h=>by
  simp only[List.map_cons,dV] at h |-;split at h
  .cases h;exact⟨u,rfl,rfl⟩
  .exact Mu h
theorem GO{a:List Nat}{t:Nat}{v:TV}{tm:TT}(h:dV t (BV a tm)=some v): ∃u,dV t tm=some u/\(v=zW a u\/(a=[]/\v=u)):=by
 cases a with
 | nil=>exact⟨v,h,.inr ⟨rfl,rfl⟩⟩
 | cons k r=>let⟨u,c,b⟩:=Mu h;exact⟨u,c,.inl b⟩
theorem Mx{f:List Nat}{A:aK}(d:Qt N S st)(m:XQ f S.hp H1)(g:Qs H1 A): Qt N ⟨BV f S.tm,H1⟩ ⟨st.tmps,A⟩:=by
 refine⟨d.ln,λt v n=>?_,g⟩;let⟨u,j,e⟩:=GO n;let⟨a,b,c⟩:=d.tm t u j;rcases e with rfl | ⟨rfl,rfl⟩
 .exact⟨a,b,sL m c⟩
 .exact⟨a,b,c.mono λi k l h=>m i k l (by simp) h⟩
theorem BX{a:List Nat}{o:jC}{b:cG}(m:XQ a H H1)(h:Qo H o b): Qo H1 (sK a o) b:=by
 cases o with
 | box cs=>let⟨aw,e,q⟩:=h;exact⟨aw,by simpa using e,q.mapL λ_ _ q=>sL m q⟩
 | rows s es=>let⟨aw,e,q⟩:=h;exact⟨aw,e,q.mapL λ_ _ q=>q.mapL λ_ _ q=>sL m q⟩
 | _=>exact h
theorem BO{a:List Nat}{i k:Nat}{l:List<|den k}(h:H[i]?=some (.lst k l)): (H.map<|sK a)[i]?=some (.lst k l):=by
 rw[List.getElem?_map,h];rfl
theorem BW{id:Nat}{o:jC}{b:cG}(d:Qt N S st)(n:sK [id] o=o)(g:∀H,XQ [id] S.hp H->H[id]?=some o->Qo H o b)(a:id<S.hp.length): Qt N (fU id<|fK S id o) ⟨st.tmps,st.heap.set id b⟩:=by
 have e:(fU id<|fK S id o).hp=(S.hp.map<|sK [id]).set id o:=by
  simp only[fU,fK,List.map_set,n]
 have m:XQ [id] S.hp (fU id<|fK S id o).hp:=by
  intro j k l i h;rw[e,List.getElem?_set_ne<|by simpa [eq_comm] using i];exact⟨k,l,BO h,rfl⟩
 refine Mx (S:=S) d m ?_;have f:bG (Qo (fU id<|fK S id o).hp) (S.hp.map<|sK [id]) st.heap:=d.hp.mapL λ_ _ h=>BX m h;have c:=f.set id<|g _ m<|by rw[e];simp[a]
 rw[<-e] at c;exact c
theorem Ch{id k:Nat}{l a:List<|den k}{b:cG}(e:Qt N S st)(f:S.hp[id]?=some (.lst k l))(d:∀H,Qo H (.lst k a) b): Qt N (fU id<|fK S id<|.lst k a) ⟨st.tmps,st.heap.set id b⟩:=
 BW e rfl (λH _ _=>d H) (List.getElem?_eq_some_iff.1 f).1
theorem fQ{a bytes:Nat}(b:a<=1000000)(c:bytes<=100000): mC a bytes=true:=by
 have:=Nat.mul_le_mul b c;simp[mC];exact⟨by omega,by omega⟩
theorem Ql.all{k s:Nat}{l:List<|den k}{es:List<|List AV}(h:Ql k l es)(e:(cds k).length=s): cT s es=true:=by
 unfold cT;rw[List.all_eq_true];intro x c;let⟨i,b⟩:=List.getElem?_of_mem c;have a:i<l.length:=by rw[<-h.len];exact (List.getElem?_eq_some_iff.1 b).1
 have:=(h.at (List.getElem?_eq_getElem a) b).len;rw[this,kP,e];simp
theorem oN{α:Type}{l ys:List α}{a:Nat}(h:a+ys.length<=l.length): (aR l a ys).length=l.length:=by
 simp only[aR,List.length_append,List.length_take,List.length_drop];omega
theorem Ai{α:Type}(l:List α)(a:Nat): aR l a []=l:=by simp[aR]
theorem Ei{α:Type}{l:List α}{i:Nat}{x:α}(h:l[i]?=some x): l.set i x=l:=by
 apply List.ext_getElem?;intro j;rw[List.getElem?_set];split
 .rename_i e;subst e;rw[if_pos (List.getElem?_eq_some_iff.1 h).1,h]
 .rfl
theorem Ur{α:Type}{l ys a:List α}{w:Nat×Nat}(h:D5 l w ys=some a): a=aR l (w.1+w.2) ys/\w.1+w.2+ys.length<=l.length/\l.length+ys.length<=1000000:=by
 unfold D5 at h;split at h
 .rename_i b;cases h;exact⟨rfl,b⟩
 .cases h
theorem QC{α:Type}{l ys a:List α}{w:Nat×Nat}(h:X7 l w ys=some a): (w.1=0/\w.2=l.length/\a=l++ys/\l.length+ys.length<=1000000)\/(a=aR l (w.1+w.2) ys/\w.1+w.2+ys.length<=l.length/\l.length+ys.length<=1000000):=by
 unfold X7 at h;split at h
 .rename_i b;cases h;exact .inl ⟨b.1,b.2.1,rfl,b.2.2⟩
 .exact .inr (Ur h)
theorem Uq{fl id s bytes tot off len:Nat}{H:aK}{es ys:List<|List AV}(b:H[id]?=some (.blk s es))(f:es.length=tot)(d:cT s ys=true)(j:0<s)(i:mC ys.length bytes=true)(c:mC (tot+ys.length) bytes=true)(e:fl<=id)(h:off+len+ys.length<=tot):
 bV fl H s bytes (.ms id tot off len) ys=some (.ms id tot off<|len+ys.length,H.set id<|.blk s<|aR es (off+len) ys):=by
 unfold bV;simp only[d,j,i,b,f,c,e,and_self,if_true];by_cases g:ys.length=0
 .have:ys=[]:=List.length_eq_zero_iff.1 g;subst this;simp only[List.length_nil,Nat.add_zero,if_true,Ai,Ei b]
 .rw[if_neg g,if_neg<|by omega,if_pos h]
theorem bT.put[aA]{fl:Nat}{v:AV}{tv:TV}{id k:Nat}{l:List<|den k}{a:List<|den k}{b:cG}(f:Qt N S st)(i:S.hp[id]?=some (.lst k l))(e:a.length=l.length)(he:aG P cf fl op st.tmps st.heap=some (v,st.heap.set id b))(q:Qo (S.hp.set id<|.lst k a) (.lst k a) b)(g:Qh (S.hp.set id<|.lst k a) tv v)(h:K tv (fK S id<|.lst k a)=some r): bT P cf fl N op st K r:=
 bT.set f he (HM.set λm n d=>by rw[i] at d;cases d;exact⟨k,a,rfl,e⟩) q g h
theorem YW{k:Nat}: ∀{cs:List Cd}{f:zL cs->den k}{b:ByteArray}{l:List (den k)},cds k=cs->HEq f (cN.pk k)->M4 cs f b=some l->cs.length=1/\Ql k l (Qw b):=by
 intro cs f0 b0 l e hf h;unfold M4 at h;split at h
 .cases h;refine⟨rfl,?_⟩
  unfold Ql Qw;refine bG.map (R:=λa b=>a=b) ?_ ?_
  .intro x y z;subst z
   have:∀(cs:List Cd)(h:cds k=cs)(f:zL cs->den k),HEq f (cN.pk k)->∀p,jB (cds k) (cN.un k (f p))=jB cs p:=by
    intro cs h f hf p;subst h;cases hf;rw[cN.un_pk]
   have w:=this _ e _ hf ((((x.toNat:Nat):Int),()) : zL [Cd.int .u8]);unfold iN;exact w ▸ (⟨.lit _,trivial⟩ : Qr (jB [Cd.int .u8] ((((x.toNat:Nat):Int),()) : zL [Cd.int .u8])) [AV.lit (Value.int IntKind.u8 ((x.toNat:Nat):Int))])
  .exact bG.of rfl λj a b c d=>by rw[c] at d;cases d;rfl
 .cases h
theorem Vv{k s:Nat}{v:TV}{l:List (den k)}{a:AV}(h:NQ H k v=some l)(q:Qh H v a)(e:Qs H A)(t:(cds k).length=s): ∃es,ZU s A a=some es/\Ql k l es:=by
 unfold NQ at h;split at h
 .split at h
  .have:=q.inL;subst this;let⟨g,z⟩:=YW rfl HEq.rfl h;rw[g] at t;subst t;exact⟨_,rfl,z⟩
  .let⟨es,f,g⟩:=FL h q e;exact⟨es,FK f,g⟩
 .let⟨es,f,g⟩:=FL h q e;exact⟨es,FK f,g⟩
theorem WW[aA]{s bytes:Nat}{x y:aN}(p:Qt N S st)(h:bO E n d (.append s bytes x y) S K=some r): bT P cf E.fl N (.append s bytes x y) st K r:=by
 have q:=p.get x;have V:=p.get y;have J:=p.hp.ln;have Q:∀v,bH S.tm x=v->Hg v=true->(match Nat.beq (cds<|fN E d).length s&&Nat.blt 0 s with
  | true=>match NQ S.hp (fN E d) (bH S.tm y) with
   | some ys=>match Nat.ble bytes 100000 with
    | true=>cnd (List.isEmpty ys) (K v S)<|bnd (app [] ys) λu=>K (.ms S.hp.length none)<|tB S<|.lst (fN E d) u
    | false=>none
   | none=>none
  | false=>none)=some r->bT P cf E.fl N (.append s bytes x y) st K r:=by
  intro v Z c h;rw[Z] at q;have j:aB st.tmps x=.lit bZ\/aB st.tmps x=.sl true []:=by
   unfold Hg at c;split at c
   .subst c;cases (q.pu trivial) with
    | emp _ _ h=>
     rcases h with h | h | ⟨h,_⟩
     .exact .inl h
     .exact .inr h
     .cases h
   .split at c
    .split at c
     .split at c
      .split at c
       .exact .inl q.inL
       .cases c
      .cases c
     .cases c
    .cases c
   .cases c
  split at h
  .rename_i A;simp only[Bool.and_eq_true] at A;have t:=Nat.eq_of_beq_eq_true A.1;have e2:0<s:=by simpa [Nat.blt_eq] using A.2
   split at h
   .rename_i ys C;let⟨es,F,a⟩:=Vv C V p.hp t;split at h
    .rename_i i;have i:=Nat.le_of_ble_eq_true i;have W:=a.all t;rcases Fv h with⟨R,h⟩ | ⟨R,h⟩
     .have B:ys=[]:=by simpa using R
      subst B;have e4:es=[]:=List.length_eq_zero_iff.1 a.len;subst e4;refine bT.same p ?_ q h;simp only[aG,F];rcases j with j | j<;>rw[j]<;>simp[bV,cT,e2,mC,bZ]
     .let⟨u,g,h5⟩:=aX h;clear h;let⟨B,f⟩:=sZ g;rw[List.nil_append] at B;subst B;simp only[List.length_nil,Nat.zero_add] at f;have U:mC es.length bytes=true:=fQ (by rw[a.len];exact f) i;have X:es.length≠0:=by
       rw[a.len];intro e;have:=List.length_eq_zero_iff.1 e;subst this;cases R
      refine bT.add (v:=.ms st.heap.length u.length 0 u.length) (o:=.lst (fN E d) u) (b:=.blk s es) p ?_ ⟨es,by rw[t],a⟩ (by rw[J];exact .ms _ (fN E d) u<|by simp) h5;simp only[aG,F,<-a.len];rcases j with j | j<;>rw[j]
      .simp[bV,bZ,W,e2,U,X]
      .have M:cT s ([]:List<|List AV)=true:=rfl;unfold bV;simp only[W,e2,U,X,M,and_self,if_true,if_false,List.length_nil,Nat.zero_add,List.nil_append]
    .cases h
   .cases h
  .cases h
 simp only[bO] at h;split at h
 .rename_i id m j;rw[j] at q;split at h
  .rename_i o D;split at h
   .rename_i k l;split at h
    .rename_i ys C;split at h
     .rename_i A;simp only[Bool.and_eq_true] at A;have t:=Nat.eq_of_beq_eq_true A.1;let⟨es,F,a⟩:=Vv C V p.hp t;have e2:0<s:=by simpa [Nat.blt_eq] using A.2.1
      have G:=Nat.le_of_ble_eq_true A.2.2;split at h
      .rename_i i;have i:=Nat.le_of_ble_eq_true i;let⟨L,O,I⟩:=p.hp.lst D;rw[t] at O;have T:=q.mw D;split at h
       .let⟨u,g,h⟩:=aX h;let⟨B,f⟩:=sZ g;subst B;have he:=Bg (fl:=E.fl) (bytes:=bytes) (tot:=l.length) (ys:=es) O I.len (a.all t) e2 (fQ (by rw[a.len];omega) i) (fQ (by rw[a.len];omega) i) G;refine⟨.ms id (l.length+es.length) 0<|l.length+es.length,st.heap.set id<|.blk s<|L++es,.ms id none,fU id<|fK S id<|.lst k<|l++ys,?_,Ch p D λH=>⟨L++es,by rw[t],I.app a⟩,?_,h⟩
        .simp only[aG,F,T];exact he
        .have:=Qh.ms (H:=(fU id<|fK S id<|.lst k<|l++ys).hp) id k (l++ys)<|by simp[fU,fK,List.getElem?_map,(List.getElem?_eq_some_iff.1 D).1,sK]
         rw[List.length_append,<-a.len] at this;exact this
       .rename_i w;split at h
        rotate_left
        .let⟨u,g,h⟩:=aX h;rcases QC g with⟨w1,w2,B,f⟩ | ⟨B,f,Y⟩
         .subst B;have he:=Bg (fl:=E.fl) (bytes:=bytes) (tot:=l.length) (ys:=es) O I.len (a.all t) e2 (fQ (by rw[a.len];omega) i) (fQ (by rw[a.len];omega) i) G;refine⟨.ms id (l.length+es.length) 0<|l.length+es.length,st.heap.set id<|.blk s<|L++es,.ms id (some (w.1,w.2+ys.length)),fU id<|fK S id<|.lst k<|l++ys,?_,Ch p D λH=>⟨L++es,by rw[t],I.app a⟩,?_,h⟩
          .simp only[aG,F,T,qY,w1,w2];exact he
          .have:=Qh.msn (H:=(fU id<|fK S id<|.lst k<|l++ys).hp) id (w.1,w.2+ys.length) k (l++ys)<|by simp[fU,fK,List.getElem?_map,(List.getElem?_eq_some_iff.1 D).1,sK]
           simp only[List.length_append,w1,w2,<-a.len] at this |-;exact this
         .subst B;have z:(aR l (w.1+w.2) ys).length=l.length:=oN<|by omega
          refine⟨.ms id l.length w.1<|w.2+es.length,st.heap.set id<|.blk s<|aR L (w.1+w.2) es,.ms id (some (w.1,w.2+ys.length)),fU id<|fK S id<|.lst k<|aR l (w.1+w.2) ys,?_,Ch p D λH=>⟨_,by rw[t],I.spl a⟩,?_,h⟩
          .simp only[aG,F,T,qY];exact Uq O I.len (a.all t) e2 (fQ (by rw[a.len];omega) i) (fQ (by rw[a.len];omega) i) G<|by rw[a.len];exact f
          .have:=Qh.msn (H:=(fU id<|fK S id<|.lst k<|aR l (w.1+w.2) ys).hp) id (w.1,w.2+ys.length) k (aR l (w.1+w.2) ys)<|by simp[fU,fK,List.getElem?_map,(List.getElem?_eq_some_iff.1 D).1,sK]
           rw[z] at this;simp only[<-a.len] at this |-;exact this
        let⟨u,g,h⟩:=aX h;let⟨B,f,Y⟩:=Ur g;subst B;have z:(aR l (w.1+w.2) ys).length=l.length:=oN<|by omega
        refine bT.put (v:=.ms id l.length w.1<|w.2+es.length) (b:=.blk s<|aR L (w.1+w.2) es) p D z ?_ ⟨_,by rw[t],I.spl a⟩ (by have:=Qh.msn (H:=S.hp.set id<|.lst k<|aR l (w.1+w.2) ys) id (w.1,w.2+ys.length) k _<|List.getElem?_set_self (List.getElem?_eq_some_iff.1 D).1;rw[z,<-a.len] at this;rw[<-a.len];exact this) h;simp only[aG,F,T,qY];exact Uq O I.len (a.all t) e2 (fQ (by rw[a.len];omega) i) (fQ (by rw[a.len];omega) i) G<|by rw[a.len];exact f
      .cases h
     .cases h
    .cases h
   .cases h
  .cases h
 .rename_i k l j;rw[j] at q;have q0:=q;let⟨L,O,I⟩:=(q.pu trivial).inE;split at h
  .rename_i ys C;split at h
   .rename_i A;simp only[Bool.and_eq_true] at A;have t:=Nat.eq_of_beq_eq_true A.1;let⟨es,F,a⟩:=Vv C V p.hp t;have e2:0<s:=by simpa [Nat.blt_eq] using A.2.1
    have i:=Nat.le_of_ble_eq_true A.2.2;have W:=a.all t;have W2:=I.all t;rcases Fv h with⟨R,h⟩ | ⟨R,h⟩
    .have B:ys=[]:=by simpa using R
     subst B;have e4:es=[]:=List.length_eq_zero_iff.1 a.len;subst e4;refine bT.same p ?_ q0 h;simp only[aG,F];rcases O with⟨j,_⟩ | j<;>rw[j]<;>simp[bV,cT,e2,mC,bZ]
    .let⟨u,g,h5⟩:=aX h;clear h;let⟨B,f⟩:=sZ g;subst B;have U:mC es.length bytes=true:=fQ (by rw[a.len];omega) i;have U2:mC (L.length+es.length) bytes=true:=fQ (by rw[a.len,I.len];omega) i;have X:es.length≠0:=by
      rw[a.len];intro e;have:=List.length_eq_zero_iff.1 e;subst this;cases R
     refine bT.add (v:=.ms st.heap.length (l++ys).length 0 (l++ys).length) (o:=.lst k (l++ys)) (b:=.blk s (L++es)) p ?_ ⟨L++es,by rw[t],I.app a⟩ (by rw[J];exact .ms _ k (l++ys)<|by simp) h5;simp only[aG,F,List.length_append,<-a.len,<-I.len];rcases O with⟨j,z⟩ | j<;>rw[j]
     .subst z;simp[bV,bZ,W,e2,U,X]
     .unfold bV;simp only[W,e2,U,U2,X,W2,and_self,if_true,if_false]
   .cases h
  .cases h
 .split at h
  .rename_i c;exact Q _ rfl c h
  .cases h
theorem We{w:Nat}: ∀{b:List Sh},UE w b=true->∀s∈b,(∃k,s=.w k)\/(w=0/\∃k,s=.v k)
 | [],_,s,a=>by cases a
 | s'::r,h,s,a=>by
  have c:((∃k,s'=.w k)\/(w=0/\∃k,s'=.v k))/\UE w r=true:=by
   cases s' with
   | w k=>exact⟨.inl ⟨k,rfl⟩,h⟩
   | v k=>
    simp only[UE] at h;split at h
    .exact⟨.inr ⟨rfl,k,rfl⟩,h⟩
    .cases h
   | _=>cases h
  rcases List.mem_cons.1 a with rfl | a
  .exact c.1
  .exact We c.2 s a
theorem J5{b:List Sh}{vs:List TV}{p:eW b}{aw:List AV}{c:TH}(d:UE 0 b=true)(h:rA 0 c b vs=some p)(q:Qc H vs aw): Qc H1 (vQ b p) (aw.map Ca)/\∀a∈aw,lB a=true:=
 Vw (λs e=>by
  rcases We d s e with⟨k,rfl⟩ | ⟨_,k,rfl⟩
  .exact λh q=>⟨aCD (O2 h q).1,(O2 (H1:=[]) h q).2⟩
  .exact λh q=>O2 h q) h q
theorem WV{a:List Sh}{vs:List TV}{p:eW a}{aw:List AV}(d:UE 1 a=true)(h:rA 1 H a vs=some p)(q:Qc H vs aw)(c:Qs H A): Qc H1 (vQ a p)<|aw.map<|fI A:=
 (Vw (G:=λ_=>True) (λs b=>by
  rcases We d s b with⟨k,rfl⟩ | ⟨e,_⟩
  .exact λh q=>⟨aCL h q c,trivial⟩
  .cases e) h q).1
theorem aAC{c:List Nat}{vs:List TV}{p:eW<|c.map .v}{aw:List AV}(h:rA 2 H (c.map .v) vs=some p)(q:Qc H vs aw)(d:Qs H A): Qc H1 (vQ (c.map .v) p) (aw.map<|dF A 0)/\∀a∈aw,∀l,a≠.tup l:=
 Vw (λs b=>by
  obtain⟨k,_,rfl⟩:=List.mem_map.1 b;exact λh q=>aCK h q d) h q
theorem AO{aw:List AV}(h:∀a∈aw,lB a=true): eM aw=true:=by
 induction aw with
 | nil=>rfl
 | cons a r c=>simp only[eM,h a List.mem_cons_self];exact c λb d=>h b<|List.mem_cons_of_mem _ d
theorem Ou[aA]{vi w:Nat}{c:IV}{vs:List TV}{aw:List AV}{K:TV->Option R}(t:MX P T vi c)(h:xR n w c vs H K=some r)(z:∀p,UE w c.ka=true->rA w H c.ka vs=some p->Qc [] (vQ c.ka p) aw):
 ∃g a tv,eB P T n 0 vi aw []=some (a,g)/\Qh H1 tv (gB g 0 a)/\K tv=some r:=by
 unfold xR at h;split at h
 .rename_i p s;split at h
  .cases h
  .rename_i y;let⟨x,u,h⟩:=aX h;let⟨f,g,o,k,j,_⟩:=t n p x u aw<|z p y s;have k:=k H1;let⟨i,d,h⟩:=JJ h k;refine⟨g,dM f,?_⟩;split at h
   .rename_i v;match f,d,j with
    | [a],d,j=>
     refine⟨v,o,?_,h⟩;have e:gB g 0 a=dF g 0 a:=by
      cases a with
      | tup l=>exact (j _ List.mem_cons_self l rfl).elim
      | _=>rfl
     show Qh H1 v<|gB g 0 a;rw[e];exact d.1
   .rename_i m;refine⟨.tup i,o,?_,h⟩;match f,d with
    | [],d=>exact Qh.mkT d
    | [a],d=>
     match i,d with
     | [v],_=>exact (m v rfl).elim
    | a::b::f,d=>exact Qh.mkT d
 .cases h
theorem Nm[aA](a:Qt N S st): ∀(b:List aN),Qc S.hp (b.map<|bH S.tm)<|b.map<|aB st.tmps
 | []=>trivial
 | x::r=>⟨a.get x,Nm a r⟩
theorem J0[aA]{vi:Nat}{c:IV}{d:List aN}(j:MX P T vi c)(k:Qt N S st)(h:xR n 0 c (d.map<|bH S.tm) [] (λv=>K v S)=some r):
 ∃v tv,iV (eB P T n) 0 true vi (d.map<|aB st.tmps) st.heap=some (v,st.heap)/\Qh S.hp tv v/\K tv S=some r:=by
 have q:=Nm k d;have b:rA 0 [] c.ka (d.map<|bH S.tm)≠none:=by
  intro e;simp only[xR,e] at h;cases h
 let⟨p,b⟩:=Option.ne_none_iff_exists'.1 b;have g:UE 0 c.ka=true:=by
  cases e:UE 0 c.ka with
  | true=>rfl
  | false=>simp only[xR,b,e] at h;cases h
 have f:=AO (J5 (H1:=[]) g b q).2;let⟨o,a,tv,l,m,i⟩:=Ou (H1:=S.hp) (aw:=(d.map<|aB st.tmps).map Ca) j h λp g b=>(J5 g b q).1;exact⟨_,tv,by simp only[iV,f,l],m,i⟩
theorem R1[aA]{vi:Nat}{a:List aN}(b:Qt N S st)(h:bO E n d (.mkFn vi a) S K=some r): bT P cf E.fl N (.mkFn vi a) st K r:=
 bT.same b rfl (Qh.mkF<|Nm b a) h
theorem A8[aA]{vi:Nat}{b:List aN}(m:∀vi c,E.cs vi=some c->MX P T vi c)(e:Qt N S st)(h:bO E n d (.callB vi b) S K=some r): bT P (eB P T n) E.fl N (.callB vi b) st K r:=by
 simp only[bO] at h;split at h
 .rename_i c k;have q:=Nm e b;let⟨o,a,tv,f,g,i⟩:=Ou (H1:=S.hp) (aw:=(b.map<|aB st.tmps).map<|fI st.heap) (m vi c k) h λp l j=>WV l j q e.hp;exact bT.same e (by simp only[aG,f]) g i
 .cases h
end
end
end Go.Proofs.YthadajkojciapaaGreatDoor.Av
