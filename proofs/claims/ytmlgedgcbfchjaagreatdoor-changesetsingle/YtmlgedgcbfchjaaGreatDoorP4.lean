/- A part of the proof of a law. -/
import Derived.Test.YtmlgedgcbfchjaaGreatDoorP3
import Derived.KernelRfl
import Derived.Shelf.SlSortCmp.InsertionK
import Derived.Sort.AssemblyPlain
set_option maxRecDepth 100000
set_option maxHeartbeats 4000000
set_option linter.all false
namespace Go.Proofs.YtmlgedgcbfchjaaGreatDoor.Av
open Go
section
abbrev V: AV:=.lit bM
abbrev bt: AV:=.lit (.bool true)
structure PZ where
 ps:List Prop
 ok:aU6 ps
def Z{p:Prop}(h:p)(r:PZ): PZ:=⟨p::r.ps,⟨h,r.ok⟩⟩
theorem N2{α:Type}{b:Bool}{x y r:α}(h:cnd b x y=r): (b=true/\x=r)\/(b=false/\y=r):=by
 cases b with
 | true=>exact .inl ⟨rfl,h⟩
 | false=>exact .inr ⟨rfl,h⟩
def sat(s:ByteArray)(i:Int): Option Int:=if 0<=i then (s.data.toList[i.toNat]?).map (λb=>(b.toNat:Int)) else none
variable {H:aU}{P:Program}{a b:Int}{cf:Nat->Nat->List AV->aU->Option (AV×aU)}{d:Int}{fl:Nat}{hi i:Int}{k:IntKind}{lo:Int}{r s:ByteArray}{t:TypeId}
theorem aJO(h:sat s i=some b): 0<=i/\∃c:UInt8,s[i.toNat]?=some c/\b=(c.toNat:Int):=by
 unfold sat at h;split at h
 .rename_i f;simp only[Zq] at h;let⟨c,e,d⟩:=h;refine⟨f,c,?_,d.symm⟩;rw[<-e];simp[getElem?_def,ByteArray.getElem_eq_getElem_data]
 .cases h
def aTO(s:ByteArray)(lo hi:Int): Option ByteArray:=if 0<=lo/\lo<=hi/\hi.toNat<=s.size then some (s.extract lo.toNat hi.toNat) else none
section
theorem aKg(P:Program)(t:TypeId){d:TypeDesc}(b:P.underlying t=some d){β:Type}(f:TypeDesc->Sem β): aQ P (underlying t >>= f)=aQ P (f d):=by
 simp only[underlying];show aQ P (Sem.program λP=>_)=_;simp only[aQ];show aQ P ((match P.underlying t with | some d=>pure d | none=>stuck "no such type":Sem TypeDesc).bind f)=_;rw[b];rfl
theorem aIc[aF](d:P.underlying t=some .string)(h:sat s i=some b): aO P cf fl (.strIdx t (.tmp 0)<|.tmp 1) [sv s,iv i] H=some (.lit<|.int .u8 b,H):=by
 obtain⟨g,c,f,rfl⟩:=aJO h;have e:aQ P (Instr.index t (.string s)<|.int .i64 i)=some (.int .u8 c.toNat):=by
  unfold Instr.index;show aQ P (underlying t >>= _)=_;rw[aKg P t d];simp only[g,Zz,f];rfl
 simp only[aO,aH,Zt,ZL,e]
theorem aQn[aF](e:d≠0): aO P cf fl (.bin .quo t (.tmp 0)<|.tmp 1) [.lit<|.int k a,.lit<|.int k d] H=some (.lit<|.int k<|k.wrap<|a.tdiv d,H):=by
 have b:aQ P (eqGuard .quo t (.tmp 0) (.tmp 0) (.int k a)<|.int k d)=some ():=rfl;have c:aQ P (binOp .quo t (.int k a)<|.int k d)=some (.int k<|k.wrap<|a.tdiv d):=by
  simp[binOp,Op.intDiv,e];rfl
 simp only[aO,aH,Zt,ZL,lits,wJ,Zz,b,c]
theorem aQe[aF](e:d≠0): aO P cf fl (.bin .rem t (.tmp 0)<|.tmp 1) [.lit<|.int k a,.lit<|.int k d] H=some (.lit<|.int k<|a.tmod d,H):=by
 have b:aQ P (eqGuard .rem t (.tmp 0) (.tmp 0) (.int k a)<|.int k d)=some ():=rfl;have c:aQ P (binOp .rem t (.int k a)<|.int k d)=some (.int k<|a.tmod d):=by
  simp[binOp,Op.intDiv,e];rfl
 simp only[aO,aH,Zt,ZL,lits,wJ,Zz,b,c]
end
end
section
variable {P:Program}{cf cf':Nat->Nat->List AV->aU->Option (AV×aU)}
end
section
variable {H:aU}{K:Type}{P:Program}{T:List cQ}{V:Type}{bytes:Nat}{α:Type}{c:α->List AV}{cf:Nat->Nat->List AV->aU->Option (AV×aU)}{fid fl:Nat}{hi i:Int}{id:Nat}{kt:TypeId}{kv:K->Value}{l l':List α}{lo:Int}{m:List (K×V)}{n s:Nat}{va:V->AV}{vi:Nat}{w y:AV}
section
variable {x:α}{k:Nat}
variable {z:AV}
end
section
variable [DecidableEq K]{x:AV}{k:K}
def aIj(a d:Int): Option Int:=if d=0 then none else some (a.tmod d)
theorem aMX[aF]{t:TypeId}{k:IntKind}{a d v:Int}(h:aIj a d=some v): aO P cf fl (.bin .rem t (.tmp 0) (.tmp 1)) [.lit (.int k a),.lit (.int k d)] H=some (.lit (.int k v),H):=by
 unfold aIj at h;split at h
 .cases h
 .rename_i b;cases h;exact aQe b
end
section
variable {z:List Value}
end
end
section
inductive Cd where
 | int (ik:IntKind)
 | bool
 | str
 | sl (k:Nat)
 | sptr (k:Nat)
 | mp (kk vk:Nat)
 | any
class jQ where
 den:Nat->Type
 cds:Nat->List Cd
 ag:Nat->Bool
open jQ (den cds ag)
def Cd.den[jQ]: Cd->Type
 | .int _=>Int
 | .bool=>Bool
 | .str=>ByteArray
 | .sl k=>List<|jQ.den k
 | .sptr k=>jQ.den k
 | .mp kk vk=>List<|jQ.den kk×jQ.den vk
 | .any=>Unit
def VA[jQ]: List Cd->Type
 | []=>Unit
 | c::r=>c.den×VA r
class dR extends jQ where
 pk:∀k,VA (cds k)->den k
 un:∀k,den k->VA (cds k)
 un_pk:∀k p,un k (pk k p)=p
inductive TV[jQ] where
 | undef
 | lit (v:Value)
 | emp (ap:Bool)
 | sl (k:Nat) (l:List (den k))
 | vw (k:Nat) (l:List (den k))
 | ms (id:Nat) (n:Option (Nat×Nat))
 | ptr (id off:Nat)
 | pel (id:Nat) (i:Int) (off:Nat)
 | rptr (cs:List TV)
 | sptr (k:Nat) (x:den k)
 | rmp (kk vk:Nat) (m:List (den kk×den vk))
 | mp (id:Nat)
 | it (id:Nat)
 | fn (vi:Nat) (caps:List TV)
 | agg (cs:List TV)
 | tup (vs:List TV)
 | rs (id n:Nat)
 | rel (id n i off:Nat)
 deriving Inhabited
inductive pK[jQ] where
 | box (cs:List TV)
 | lst (k:Nat) (l:List (den k))
 | map (kk vk:Nat) (m:List (den kk×den vk))
 | it (s:ByteArray) (pos:Nat)
 | rows (s:Nat) (es:List (List TV))
 | gone
 | fr (n:Nat) (o:dK)
 deriving Inhabited
abbrev TH[jQ]:=List pK
abbrev TT[jQ]:=List (Nat×TV)
structure TS[jQ] where
 tm:TT
 hp:TH
def Cd.tv[jQ]: (c:Cd)->c.den->TV
 | .int ik,n=>.lit<|.int ik n
 | .bool,b=>.lit<|.bool b
 | .str,s=>.lit<|.string s
 | .sl k,l=>.sl k l
 | .sptr k,x=>.sptr k x
 | .mp kk vk,m=>.rmp kk vk m
 | .any,_=>.undef
def tB[jQ]: (cs:List Cd)->VA cs->List TV
 | [],_=>[]
 | c::r,p=>c.tv p.1::tB r p.2
def kI[dR](k:Nat)(x:den k): List TV:=tB (cds k)<|dR.un k x
def hdT[jQ]: List TV->TV
 | []=>.undef
 | x::_=>x
def val[dR](k:Nat)(x:den k): TV:=match ag k with
 | true=>.agg<|kI k x
 | false=>hdT<|kI k x
def EM{k k':Nat}(F:Nat->Type)(x:F k): Option<|F k':=match Nat.decEq k k' with
 | isTrue h=>some<|h▸x
 | isFalse _=>none
def kvC[jQ]: (cs:List Cd)->VA cs->List Value
 | [],_=>[]
 | c::r,p=>(match c,p.1 with
  | .int ik,n=>.int ik n
  | .bool,b=>.bool b
  | .str,s=>.string s
  | _,_=>bM)::kvC r p.2
def uE[dR](k:Nat)(x:den k): Value:=match ag k with
 | true=>.agg (kvC (cds k)<|dR.un k x).toArray
 | false=>match kvC (cds k) (dR.un k x) with
  | v::_=>v
  | []=>bM
def aDR: List Cd->Bool
 | []=>true
 | c::r=>match c with
  | .int _=>aDR r
  | .bool=>aDR r
  | .str=>aDR r
  | _=>false
def win{α:Type}(l:List α)(n:Option<|Nat×Nat): List α:=match n with
 | none=>l
 | some w=>(l.drop w.1).take w.2
section
variable [jQ]
def rdS(w:Nat)(H:TH)(k:Nat): TV->Option (List<|den k)
 | .sl k' l=>EM (λk=>List<|den k) l
 | .emp _=>some []
 | .lit v=>match v with
  | .slice a l c=>match a with
   | none=>match l with
    | 0=>match c with
     | 0=>some []
     | _=>none
    | _=>none
   | _=>none
  | _=>none
 | .vw k' l=>match w with
  | 1=>EM (λk=>List<|den k) l
  | _=>none
 | .ms id n=>match w with
  | 0=>none
  | _=>match H[id]? with
   | some o=>match o with
    | .lst k' l=>EM (λk=>List<|den k)<|win l n
    | _=>none
   | none=>none
 | _=>none
def b8{a b a' b':Nat}(m:List<|den a×den b): Option<|List<|den a'×den b':=match Nat.decEq a a' with
 | isTrue h=>match Nat.decEq b b' with
  | isTrue h'=>some<|h▸h'▸m
  | isFalse _=>none
 | isFalse _=>none
def rdM(w:Nat)(H:TH)(kk vk:Nat): TV->Option (List<|den kk×den vk)
 | .rmp a b m=>b8 m
 | .lit v=>match v with
  | .map a=>match a with
   | none=>some []
   | some _=>none
  | _=>none
 | .mp id=>match w with
  | 2=>match ag vk with
   | true=>none
   | false=>match H[id]? with
    | some o=>match o with
     | .map a b m=>b8 m
     | _=>none
    | none=>none
  | _=>none
 | _=>none
def rdC(w:Nat)(H:TH)(c:Cd)(v:TV): Option c.den:=match c with
 | .int ik=>match v with
  | .lit u=>match u with
   | .int k n=>match decEq k ik with
    | isTrue _=>some n
    | isFalse _=>none
   | _=>none
  | _=>none
 | .bool=>match v with
  | .lit u=>match u with
   | .bool b=>some b
   | _=>none
  | _=>none
 | .str=>match v with
  | .lit u=>match u with
   | .string s=>some s
   | _=>none
  | _=>none
 | .sl k=>rdS w H k v
 | .sptr k=>match v with
  | .sptr k' x=>EM den x
  | _=>none
 | .any=>match w with
  | 1=>some ()
  | _=>none
 | .mp kk vk=>rdM w H kk vk v
def rdL(w:Nat)(H:TH): (cs:List Cd)->List TV->Option (VA cs)
 | [],[]=>some ()
 | c::r,v::vs=>match rdC w H c v with
  | some x=>match rdL w H r vs with
   | some p=>some (x,p)
   | none=>none
  | none=>none
 | _,_=>none
end
section
variable [dR]
def kM(w:Nat)(H:TH)(k:Nat)(cs:List TV): Option<|den k:=match rdL w H (cds k) cs with
 | some p=>some<|dR.pk k p
 | none=>none
def x8(w:Nat)(H:TH)(k:Nat)(v:TV): Option<|den k:=match ag k with
 | true=>match v with
  | .agg cs=>kM w H k cs
  | _=>none
 | false=>kM w H k [v]
def QA(H:TH)(k:Nat): List (List TV)->Option (List<|den k)
 | []=>some []
 | e::r=>match kM 0 H k e with
  | some x=>match QA H k r with
   | some l=>some (x::l)
   | none=>none
  | none=>none
def UU: TV->Option (List TV)
 | .agg cs=>some cs
 | .undef=>none
 | .tup _=>none
 | .rptr _=>none
 | .lit v=>match bC v with
  | true=>some [.lit v]
  | false=>none
 | v=>some [v]
def FN(i:Nat): List Nat->Bool
 | []=>false
 | j::r=>match Nat.beq i j with
  | true=>true
  | false=>FN i r
def H7(ks:List Nat): TV->TV
 | .ms i n=>match FN i ks with | true=>.undef | false=>.ms i n
 | .pel i j o=>match FN i ks with | true=>.undef | false=>.pel i j o
 | .agg _=>.undef
 | .tup _=>.undef
 | .fn vi cs=>match cs with | []=>.fn vi [] | _=>.undef
 | v=>v
def EB(ks:List Nat): TV->TV
 | .agg cs=>.agg<|cs.map<|H7 ks
 | .tup _=>.undef
 | .fn vi caps=>.fn vi<|caps.map<|H7 ks
 | v=>H7 ks v
def aDO(ks:List Nat)(tm:TT): TT:=match ks with
 | []=>tm
 | k::r=>tm.map λp=>(p.1,EB (k::r) p.2)
def Hs(ks:List Nat): pK->pK
 | .box cs=>.box<|cs.map<|EB ks
 | .rows s es=>.rows s<|es.map λe=>e.map<|EB ks
 | o=>o
def iK(id:Nat)(S:TS): TS:=⟨aDO [id] S.tm,S.hp.map<|Hs [id]⟩
def aHj: List AV->Option (List TV)
 | []=>some []
 | a::r=>match a with
  | .lit v=>match aHj r with
   | some l=>some (.lit v::l)
   | none=>none
  | _=>none
def bZ[aF](tm:TT): bA->TV
 | .tmp t=>match dD t tm with
  | some v=>v
  | none=>.undef
 | .lit v=>.lit v
 | .agg vs=>.agg<|vs.map .lit
 | .fn vi=>.fn vi []
 | .glob g=>match aF.tab g with
  | some cs=>match aHj cs with
   | some l=>.rptr l
   | none=>.undef
  | none=>.undef
def aHb: TV->TV
 | .lit v=>match v with
  | .slice a l c=>match a with
   | none=>match l with
    | 0=>match c with
     | 0=>.emp false
     | _=>.undef
    | _=>.undef
   | some _=>.undef
  | v=>.lit v
 | .emp _=>.emp false
 | v=>v
def aQ5: TV->TV
 | .agg cs=>.agg<|cs.map aHb
 | v=>aHb v
def aHq: TV->Option Int
 | .lit (.int _ n)=>some n
 | _=>none
def rdX(H:TH)(k:Nat)(v:TV): Option<|List<|den k:=rdS 1 H k v
def aQH(H:TH): TV->Option Nat
 | .sl _ l=>some l.length
 | .vw _ l=>some l.length
 | .emp _=>some 0
 | .lit (.slice none 0 0)=>some 0
 | .ms id n=>match n with
  | some w=>some w.2
  | none=>match H[id]? with
   | some (.lst _ l)=>some l.length
   | _=>none
 | .rs _ n=>some n
 | _=>none
variable {R:Type}
def EA(cs:List TV)(agg:Bool)(off n:Nat)(K:TV->Option R): Option R:=match Nat.ble (off+n) cs.length with
 | true=>match agg with
  | true=>K<|.agg<|(cs.drop off).take n
  | false=>match (cs.drop off).take n with
   | [c]=>K c
   | _=>none
 | false=>none
end
end
section
def DE(c:dF)(w':World): dF:=⟨w',λb=>c.X b\/∃id,c.β id=some b,λ_=>none,[]⟩
def Fj(c:dF)(b:Nat)(w':World): Prop:=c.w.heap.size<=w'.heap.size/\∀k o,k≠b->c.w.heap[k]?=some o->w'.heap[k]?=some o
variable {FT:Nat->Option Nat}{b b0:Nat}{c:dF}{es:List<|List AV}{id id0 s:Nat}{v:Value}{w':World}{x:AV}
section
theorem aHG: nE (DE c w') b↔nE c b:=(Jn (c:=c) (b:=b))
theorem aJV(a:c.β id0=some b0)(g:Fj c b0 w')(h:RP c.w (nE c) x v): RP (DE c w').w (nE<|DE c w') x v:=
 h.mono λb o f i=>⟨aHG.2 f,g.2 b o (λe=>f.2 id0<|by rw[e];exact a) i⟩
theorem aMO[aF](m:bY FT c)(d:c.β id0=some b0)(i:Fj c b0 w'): bY FT (DE c w') where
 gl:=λg cs f=>by
  let⟨cc,T,I,a,r,y,G,A,v⟩:=m.gl g cs f;exact⟨cc,T,I,a,aHG.2 r,i.2 g _ (λe=>r.2 id0<|by rw[e];exact d) y,G,A,λj x D=>aJV d i<|v j x D⟩
 inj:=λ_ _ _ h=>by cases h
 dom:=λ_ _ h=>by cases h
 nx:=λ_ _ h=>by cases h
 fresh:=λk H h=>by
  have p:c.w.heap.size<=k:=ZB i.1 H;rcases h with h | ⟨id,n⟩
  .exact m.fresh k p h
  .have:=fP m n;omega
 lens:=λid s es h=>by simp[DE] at h
 blk:=λid s es b h=>by simp[DE] at h
 map:=λid es b h=>by simp[DE] at h
 raw:=λid q b h=>by simp[DE] at h
def Po(H:aU)(id:Nat): aU:=H.set id<|.mp []
theorem aNp{H:aU}{i:Nat}(h:i≠id): (Po H id)[i]?=H[i]?:=by
 unfold Po;rw[Zv<|Ne.symm h]
theorem aCQ[aF](hs:bY FT c)(t:c.β id0=some b0)(K:Fj c b0 w')(h:RV FT c x v): RV FT (DE c w') (dG (Po c.H id0) x) v:=by
 have m:∀b,Vis (DE c w') b:=λb id h=>by cases h
 have o:∀{x v},RP c.w (nE c) x v->RP (DE c w').w (nE<|DE c w') x v:=λhr=>aJV t K hr;have b1:∀b,nE c b->b≠b0:=λb hi e=>hi.2 id0 (by rw[e];exact t);have U:∀b,Vis c b->b≠b0:=λb hi e=>hi id0 (by rw[e];exact t);cases h with
 | pure _ _ hp=>
  cases hp with
  | undef v=>exact RV.undef _
  | lit v=>
   have a3:uC v=.lit v\/(v=.slice none 0 0/\uC v=.sl false []):=by
    unfold uC;repeat' split
    all_goals first
     | exact .inl rfl
     | exact .inr ⟨rfl,rfl⟩
   simp only[dG];rcases a3 with e | ⟨rfl,e⟩<;>rw[e]
   .exact RV.lit _
   .exact .vnil none 0
  | nil f a cap hf=>exact .vnil a cap
  | sl f es b off cap cc T B s d G C D E N Y h7 h8=>exact .vw es b off cap cc T B s d G (m b) (K.2 b _ (b1 b C) D) E N h7 λi j x k=>o<|h8 i j x k
  | sptr cs b off cc T B d G C D E=>exact .pure _ _<|o<|.sptr cs b off cc T B d G C D E
  | rmp R b es Z d G C D E N Y=>exact .pure _ _<|o<|.rmp R b es Z d G C D E N Y
 | ms id tot off len a cap s n J V S W=>
  simp only[dG];split
  .rename_i es l;unfold rd at l;simp only at l;split at l
   .rename_i s' r g;have M:id≠id0:=by
     intro e;subst e;unfold Po at g;rw[List.getElem?_set_self'] at g;cases k:c.H[id]?<;>simp[k] at g
    rw[aNp M] at g;split at l
    .rename_i O;cases l;rw[eT g] at J;cases J;let⟨m1,m2⟩:=W O.symm;have z:((r.drop off).take len).length=len:=by simp;omega
     by_cases a1:len=0
     .subst a1;simp only[Wr,Yn];exact .vnil _ _
     .rcases m2 with⟨_,m3,m4,m5⟩ | ⟨b,cc,Ty,a',m3,m4,m5,m6,m7⟩
      .omega
      .have ha:=m7 (by omega);subst m6;subst ha;let⟨d2,d3,q1,q2,q3⟩:=hs.blk id s r b g m3;rw[m4] at q1;cases q1;have Q:b≠b0:=λe=>M<|hs.inj id id0 b m3 (by rw[e];exact t);have F:=hs.lens id s r g;have p:∀i j x,bK (((r.drop off).take len).map λe=>e.map Gt) i j=some x->
        ∃y u,x=Gt y/\cc[off*s+(i*s+j)]?=some u/\bC u=true/\RV FT c y u:=by
        intro i j x k;obtain⟨y,hy,rfl⟩:=jU k;let⟨e,he,hj⟩:=cZ hy;rw[Zs] at he;split at he
        .rw[Zw] at he;let⟨u,L,w2,w3⟩:=q3 (off+i) j y (by simp[bK,he,hj]);exact⟨y,u,rfl,by rw[<-L];congr 1;rw[ZA];omega,w2,w3⟩
        .cases he
       have A:=RV.vw (FT:=FT) (c:=DE c w') (((r.drop off).take len).map λe=>e.map Gt) b (off*s) cap cc Ty (0,0) s
        (λi j=>(cc[off*s+(i*s+j)]?).getD bM)
        (by intro e;have:=congrArg List.length e;simp at this;omega) (m b) (K.2 b _ Q m4)
        (λe he=>by
         simp only[Yh] at he;obtain⟨e0,h0,rfl⟩:=he;simpa using F e0<|ZZ<|Z7 h0)
        (by simp only[ZO,z];exact S)
        (λi j x k=>by
         let⟨y,u,_,L,w2,_⟩:=p i j x k;simp[L,w2])
        (λi j x k=>by
         let⟨y,u,a2,L,_,w3⟩:=p i j x k;rw[a2];simp only[L,Yp];exact o<|B5 w3)
       simp only[ZO,z] at A;exact A
    .cases l
   .cases l
  .exact RV.undef _
 | ptr=>exact RV.undef _
 | rptr cs b off cc T B d J V S W=>exact .rptr cs b off cc T B d (m b) (K.2 b _ (U b J) V) S λj x k=>o<|W j x k
 | vnil a cap=>exact .vnil a cap
 | vw es b off cap cc T B s d G C D E N Y h7=>exact .vw es b off cap cc T B s d G (m b) (K.2 b _ (U b C) D) E N Y λi j x k=>o<|h7 i j x k
 | mp=>exact RV.undef _
 | it=>exact RV.undef _
 | fn vi f caps cv d J V S W=>
  cases caps with
  | nil=>exact .fn vi f [] cv d J V S λi x k=>by simp at k
  | cons _ _=>exact RV.undef _
 | agg=>exact RV.undef _
 | tup=>exact RV.undef _
theorem aAi[aF](j:bY FT c)(a:c.β id0=some b0)(g:Fj c b0 w')(h:RV FT c x v): RV FT (DE c w') (cG (Po c.H id0) x) v:=by
 unfold cG;split
 .rename_i cs;obtain⟨cv,b,rfl,k,m,l⟩:=h.agg_inv;refine .agg _ cv b (by simpa using k) ?_ ?_
  .intro i x d;simp only[Zk,Zq] at d;obtain⟨y,f,rfl⟩:=d;exact m i y f
  .intro i x d;simp only[Zk,Zq] at d;obtain⟨y,f,rfl⟩:=d;exact aCQ j a g<|l i y f
 .exact aCQ j a g h
end
def Lb(c:dF)(w':World)(id s:Nat)(es:List<|List AV): dF:=⟨w',λk=>c.X k\/c.β id=some k,λi=>if i=id then none else c.β i,c.H.set id<|.blk s<|es++[List.replicate s .undef]⟩
section
theorem aEx: nE (Lb c w' id s es) b↔nE c b:=A0 (c:=c) (id:=id) (s:=s) (es:=es)
theorem x7(a:c.β id=some b0)(f:Fj c b0 w')(h:RP c.w (nE c) x v): RP (Lb c w' id s es).w (nE<|Lb c w' id s es) x v:=
 h.mono λb o d i=>⟨(aEx (w':=w')).2 d,f.2 b o (λe=>d.2 id<|by rw[e];exact a) i⟩
theorem KR[aF](N:bY FT c)(m:c.β id=some b0)(w:Fj c b0 w')(K:c.H[id]?=some (.blk s es))(h:RV FT c x v): RV FT (Lb c w' id s es) x v:=by
 have k:∀i,i≠id->(Lb c w' id s es).H[i]?=c.H[i]?:=λi d=>qV (s:=s) (es:=es) d;have o:(Lb c w' id s es).H[id]?=some (.blk s<|es++[List.replicate s .undef]):=Id K;have I:∀i,i≠id->(Lb c w' id s es).β i=c.β i:=λi d=>by simp[Lb,d]
 have t:∀b,Vis c b->Vis (Lb c w' id s es) b:=by
  intro b r i d;simp only[Lb] at d;split at d
  .cases d
  .exact r i d
 have F:∀b,Vis c b->b≠b0:=λb d e=>d id (by rw[e];exact m);have y:∀i,Dx c.H i->i≠id:=by
  rintro i ⟨e,he,p⟩ rfl;rw[K] at he;cases he;exact p
 induction h with
 | pure x v A=>exact .pure x v<|x7 m w A
 | ms i tot off len a cap s' n u M J g4=>
  by_cases d:i=id
  .subst d;rw[eT K] at u;cases u;exact .ms i tot off len a cap s (es.length+1) (by simp[shp,o]) (by omega) J λe=>by omega
  .refine .ms i tot off len a cap s' n (by simp only[shp,k i d];exact u) M J λe=>?_;let⟨Z,O⟩:=g4 e;refine⟨Z,?_⟩;rw[I i d];rcases O with O | ⟨b,cs,T,a',U,q2,q3⟩
   .exact .inl O
   .exact .inr ⟨b,cs,T,a',U,w.2 b _ (λe=>d<|N.inj i id b U<|by rw[e];exact m) q2,q3⟩
 | ptr i tot idx off a s' n u M J=>
  by_cases d:i=id
  .subst d;rw[eT K] at u;cases u;exact .ptr i tot idx off a s (es.length+1) (by simp[shp,o]) (by omega) λe=>by omega
  .refine .ptr i tot idx off a s' n (by simp only[shp,k i d];exact u) M λe=>?_;rw[I i d];exact J e
 | rptr cs b off cc T R g d r q A=>exact .rptr cs b off cc T R g (t b d) (w.2 b _ (F b d) r) q λj x L=>x7 m w<|A j x L
 | vnil a cap=>exact .vnil a cap
 | vw es' b off cap cc T R s' g Q d r B D q A=>exact .vw es' b off cap cc T R s' g Q (t b d) (w.2 b _ (F b d) r) B D q λi j x L=>x7 m w<|A i j x L
 | mp i b C r=>
  have d:=y i C;let⟨e,he,p⟩:=C;exact .mp i b ⟨e,by rw[k i d];exact he,p⟩<|by rw[I i d];exact r
 | it i b C r=>
  have d:=y i C;let⟨e,he,p⟩:=C;exact .it i b ⟨e,by rw[k i d];exact he,p⟩<|by rw[I i d];exact r
 | fn vi f caps cv g hf E q _ z=>exact .fn vi f caps cv g hf E q z
 | agg cs cv g E q _ z=>exact .agg cs cv g E q z
 | tup cs cv g E q _ z=>exact .tup cs cv g E q z
theorem aJF[aF](f:bY FT c)(m:c.β id=some b0)(o:Fj c b0 w')(y:c.H[id]?=some (.blk s es)): bY FT<|Lb c w' id s es:=by
 have p:∀i b,(Lb c w' id s es).β i=some b->i≠id/\c.β i=some b:=by
  intro i b a;simp only[Lb] at a;split at a
  .cases a
  .rename_i h;exact⟨h,a⟩
 have n:∀i,i≠id->(Lb c w' id s es).H[i]?=c.H[i]?:=λi d=>qV (s:=s) (es:=es) d;refine⟨?_,λi j b d K=>f.inj i j b (p i b d).2 (p j b K).2,λi b d=>?_,λi b d l=>?_,λk S l=>?_,?_,?_,?_,λi q b h a=>by
  let⟨d,a⟩:=p i b a;rw[n i d] at h;exact o.2 b _ (λe=>d<|f.inj i id b a<|by rw[e];exact m)<|f.raw i q b h a⟩
 .intro g cs E;let⟨cc,T,Q,t,G,M,U,N,R⟩:=f.gl g cs E;exact⟨cc,T,Q,t,(aEx (w':=w')).2 G,o.2 g _ (λe=>G.2 id<|by rw[e];exact m) M,U,N,λj x l=>x7 m o<|R j x l⟩
 .have:=f.dom i b (p i b d).2;simpa [Lb] using this
 .let⟨B,a⟩:=p i b d;rcases l with l | l
  .exact f.nx i b a l
  .exact B<|f.inj i id b a l
 .have J:c.w.heap.size<=k:=ZB o.1 S;rcases l with l | l
  .exact f.fresh k J l
  .have G:=f.lt l;omega
 .intro i s' es' h e he;by_cases d:i=id
  .subst d;have O:(Lb c w' i s es).H[i]?=some (.blk s<|es++[List.replicate s .undef]):=Id y;rw[O] at h;cases h;rcases ZD.1 he with he | he
   .exact f.lens i s es y e he
   .simp at he;subst he;simp
  .rw[n i d] at h;exact f.lens i s' es' h e he
 .intro i s' es' b h a;let⟨d,a⟩:=p i b a;rw[n i d] at h;let⟨cs,T,z,F,A⟩:=f.blk i s' es' b h a;exact⟨cs,T,o.2 b _ (λe=>d<|f.inj i id b a<|by rw[e];exact m) z,F,λi j x l=>let ⟨v,D,C,I⟩:=A i j x l;⟨v,D,C,KR f m o y I⟩⟩
 .intro i u b h a;let⟨d,a⟩:=p i b a;rw[n i d] at h;let⟨cs,T,z,F,A⟩:=f.map i u b h a;exact⟨cs,T,o.2 b _ (λe=>d<|f.inj i id b a<|by rw[e];exact m) z,F,λi j x l=>let ⟨v,D,C,I⟩:=A i j x l;⟨v,D,C,KR f m o y I⟩⟩
end
end
section
variable (P:Program)(cf:Nat->Nat->List AV->aU->Option (AV×aU))(fl:Nat)(mem:Nat->List AV->Option AV)
end
section
variable {R α:Type}
end
section
variable (P:Program)(cf:Nat->Nat->List AV->aU->Option (AV×aU))(mem:Nat->List AV->Option AV)
end
section
variable (P:Program)(cf:Nat->Nat->List AV->aU->Option (AV×aU))(mem:Nat->List AV->Option AV)
end
section
open Go.Proofs Go.RowKit Go.Shelf Go.Sort
def DV{α:Type}: List (Option α)->Option (List α)
 | []=>some []
 | x::r=>match x with
  | none=>none
  | some a=>match DV r with
   | none=>none
   | some l=>some (a::l)
def Dd(agg:Bool)(x:List AV): AV:=match agg with
 | true=>.agg x
 | false=>match x with
  | []=>.undef
  | y::_=>y
def UQ(H:aU)(id s:Nat)(es:List<|List AV): aU:=H.set id<|.blk s<|es++[List.replicate s .undef]
def aIM(cf:CF)(vc:Nat)(caps:List AV)(H Hd:aU)(x y:AV): Option<|AV×aU:=match caps with
 | []=>cf 0 vc ([x,y].map<|cG H) []
 | _::_=>cf Hd.length vc (x::y::caps) Hd
def Re(cf:CF)(vc:Nat)(caps:List AV)(agg:Bool)(H Hd:aU)(x y:List AV): Option Int:=
 match aIM cf vc caps H Hd (Dd agg x) (Dd agg y) with
 | none=>none
 | some p=>match p.1 with
  | .lit v=>match v with
   | .int k z=>match k with
    | .i64=>some z
    | _=>none
   | _=>none
  | _=>none
def KJ{β:Type}(f:β->β->Option Int)(rows:List β): Option<|List<|List Int:=DV<|rows.map λx=>DV<|rows.map λy=>f x y
def at2(tb:List<|List Int)(i j:Nat): Int:=match tb[i]? with
 | none=>0
 | some r=>match r[j]? with
  | none=>0
  | some z=>z
def ltT(tb:List<|List Int)(i j:Nat): Bool:=decide<|at2 tb i j<0
def R6(n:Nat)(tb:List<|List Int): Bool:=(List.range n).all λi=>!(ltT tb i i)&&(List.range n).all λj=>(List.range n).all λk=>
 match ltT tb i j with
 | true=>!(ltT tb j k)||ltT tb i k
 | false=>ltT tb j k||!(ltT tb i k)
def ixG(m:Nat)(tb:List<|List Int): List Nat:=((pdq (ltOf λ(x y:Fin<|m+1)=>at2 tb x.1 y.1) (Array.ofFn λi=>i) 0 (m+1) (Lib.bitLen<|m+1) true true).toList).map Fin.val
def Hf{β:Type}(d:β)(rows:List β)(i:Nat): β:=match rows[i]? with
 | none=>d
 | some x=>x
def wL: AV->Bool
 | .sl _ es=>es.isEmpty
 | .vw es=>es.isEmpty
 | .ms _ _ _ len=>Nat.beq len 0
 | .lit v=>match v with
  | .slice a len cap=>match a with
   | none=>Nat.beq len 0&&Nat.beq cap 0
   | some _=>false
  | _=>false
 | _=>false
def vH(cf:CF)(agg:Bool)(s:Nat)(fl:Nat)(args:List AV)(H:aU): Option<|AV×aU:=match args with
 | []=>none
 | x::r=>match r with
  | []=>none
  | y::q=>match q with
   | _::_=>none
   | []=>match wL x with
    | true=>some (.tup [],H)
    | false=>match y with
     | .fn vc caps=>match x with
      | .ms id tot off len=>match Nat.ble fl id with
       | false=>none
       | true=>match H[id]? with
        | none=>none
        | some o=>match o with
         | .blk s' es=>match len with
          | 0=>none
          | m+1=>match (Nat.beq s' s&&Nat.beq es.length tot&&Nat.ble (off+(m+1)) tot&&Nat.ble tot 1000000) with
           | false=>none
           | true=>match KJ (Re cf vc caps agg (Po H id)<|UQ H id s es) ((es.drop off).take<|m+1) with
            | none=>none
            | some tb=>match R6 (m+1) tb with
             | false=>none
             | true=>some (.tup [],H.set id<|.blk s<|es.take off++(ixG m tb).map (Hf []<|(es.drop off).take<|m+1)++es.drop (off+(m+1)))
         | _=>none
      | _=>none
     | _=>none
variable {H':aU}{P:Program}{T:List cQ}{agg:Bool}{c:dF}{cf:Nat->Nat->List AV->aU->Option (AV×aU)}{fl i j:Nat}{r:AV}{s:Nat}{tb:List<|List Int}
theorem PO{a:List AV}{H:aU}(h:vH cf agg s fl a H=some (r,H')):
 (∃x y,a=[x,y]/\wL x=true/\r=.tup []/\H'=H) \/
 ∃id off m vc caps es tb,a=[.ms id es.length off<|m+1,.fn vc caps]/\fl<=id/\H[id]?=some (.blk s es)/\off+(m+1)<=es.length/\es.length<=1000000 /\
  KJ (Re cf vc caps agg (Po H id)<|UQ H id s es) ((es.drop off).take<|m+1)=some tb/\R6 (m+1) tb=true/\r=.tup [] /\
  H'=H.set id (.blk s<|es.take off++(ixG m tb).map (Hf []<|(es.drop off).take<|m+1)++es.drop (off+(m+1))):=by
 unfold vH at h;repeat' split at h;all_goals first
  | (cases h;done)
  | skip
 .grind
 .rename_i d _ _ _ es c _ _ _ _ f _ tb b _ e;cases h;simp only[Zd] at f;let⟨⟨⟨n,l⟩,k⟩,i⟩:=f;have g:=Zc n;have e2:=Zc l;have o:=Zj k;have j:=Zj i;subst g e2;exact .inr ⟨_,_,_,_,_,_,tb,rfl,Zj d,c,o,j,b,e,rfl,rfl⟩
theorem UX{α:Type}: ∀{l:List<|Option α} {r:List α},DV l=some r->r.length=l.length/\∀i (h:i<l.length),l[i]?=some r[i]?
 | [],r,h=>by cases h;exact⟨rfl,λi h=>by simp at h⟩
 | none::l,r,h=>by simp[DV] at h
 | some a::l,r,h=>by
  simp only[DV] at h;split at h
  .cases h
  .rename_i b;cases h;let⟨d,c⟩:=UX b;grind
theorem aMB{β:Type}{f:β->β->Option Int}{rows:List β}(h:KJ f rows=some tb){x y:β}(g:rows[i]?=some x)(m:rows[j]?=some y): f x y=some (at2 tb i j):=by
 let⟨p,n⟩:=UX h;have c:i<rows.length:=by
  grind
 have b:j<rows.length:=by
  grind
 have a:=n i (by simpa using c);rw[Zk,g,Yz,Za] at a;cases e:tb[i]? with
 | none=>grind
 | some r=>
  rw[e] at a;let⟨o,l⟩:=UX a;have d:=l j (by simpa using b);rw[Zk,m,Yz,Za] at d;rw[d];cases k:r[j]? with
  | none=>grind
  | some z=>simp[at2,e,k]
theorem B6{m:Nat}(h:R6 (m+1) tb=true): SWO<|ltOf λ(x y:Fin<|m+1)=>at2 tb x.1 y.1:=by
 unfold R6 at h;simp at h;have e:∀x y:Fin<|m+1,ltOf (λ(x y:Fin<|m+1)=>at2 tb x.1 y.1) x y=ltT tb x.1 y.1:=λ_ _=>rfl;refine⟨λx=>?_,λx y z a b=>?_,λx y z a b=>?_⟩
 .grind
 .grind
 .grind
theorem aLk{c':dF}(h:bW fl c c')(i:∀k,k<c.w.heap.size->c'.w.heap[k]?=c.w.heap[k]?): ∃q os,c'.w=grow (c.w.drewN q) os:=by
 refine⟨c'.w.drawn-c.w.drawn,c'.w.heap.extract c.w.heap.size c'.w.heap.size,?_⟩;have l:=h.os;have e2:=h.tape;have g:=h.output;have m:c.w.drawn+(c'.w.drawn-c.w.drawn)=c'.w.drawn:=by have:=h.drawn;omega
 have j:c'.w.heap=c.w.heap++c'.w.heap.extract c.w.heap.size c'.w.heap.size:=by
  apply Xj;grind
 unfold grow World.drewN;cases f:c'.w with
 | mk e d b os a=>grind
theorem aJ5{q:Nat}{os:Array Obj}: bW 0 (eP c) ⟨grow (Sort.ahead c.w q) os,(eP c).X,λ_=>none,[]⟩ where
 X:=rfl;os:=rfl;tape:=rfl;output:=rfl;drawn:=ZY _ _;size:=by show c.w.heap.size<=(c.w.heap++os).size;rw[Wh];exact ZY _ _
 len:=Zf _;frame:=λk p _=>by
  have d:k<c.w.heap.size:=p;show (c.w.heap++os)[k]?=c.w.heap[k]?;rw[Xb d]
 img:=λid b h=>by cases h
 blkS:=λid s n h=>by simp[eP,shp] at h
 mpS:=λid h=>by let⟨e,he,_⟩:=h;simp[eP] at he
 floor:=λid h=>by omega
def OG(agg:Bool)(l:List Value): Value:=match agg with
 | true=>.agg l.toArray
 | false=>l[0]!
def aUt{α:Type}[Inhabited α](P:Program)(agg:Bool)(g:Nat)(cb:Array Value)(enc:α->List Value)(k:Nat)(cf:α->α->Int)(blk off size:Nat)(w:World): Prop:=
 ∀(m:Nat) (os:Array Obj) (dk:Array α),dk.size=size->∀x y:α,
  Calls P g (#[OG agg<|enc x,OG agg<|enc y]++cb) (sortWorldK enc k w blk off m dk os) λe w'=>e=.returned (.int .i64<|cf x y)/\∃q os',w'=grow ((sortWorldK enc k w blk off m dk os).drewN q) os'
def Fi(P:Program)(agg:Bool)(f k:Nat): Prop:=∀(m:Nat) (enc:Fin (m+1)->List Value),(∀x,(enc x).length=k)->(∀x,∀v∈enc x,v.oneCell'=true)->
 ∀(cf:Fin (m+1)->Fin (m+1)->Int),SWO (ltOf cf)->∀(g:Nat) (cb:Array Value) (blk off cap:Nat) (d:Array<|Fin<|m+1) (w:World),
  (∀args w,(callFunc g args).run P w=.ok (.enter g args) w)->aUt P agg g cb enc k cf blk off d.size w->HoldsK enc k w blk off d->blk<w.heap.size->d.size<4611686018427387904->
  Calls P f #[.slice (some ⟨blk,off,none⟩) d.size cap,.func (.func g) #[] cb] w λe w'=>
   e=.returned (.tuple #[])/\∃n os,w'=sortWorldK enc k w blk off n (pdq (ltOf cf) d 0 d.size (Lib.bitLen d.size) true true) os
def Cw(P:Program)(f:Nat): Prop:=∀(p:Option Addr) (cap:Nat) (fv:Value) (w:World),Calls P f #[.slice p 0 cap,fv] w λe w'=>e=.returned (.tuple #[])/\w'=w
theorem aEs{FT:Nat->Option Nat}{x:AV}{v:Value}(he:wL x=true)(h:RV FT c x v): ∃p cap,v=.slice p 0 cap:=by
 unfold wL at he;split at he
 .rename_i es;cases h with
  | pure _ _ e=>cases e with
   | nil f a cap _=>grind
   | sl f es b off cap c T k s g i=>grind
 .rename_i es;cases h with
  | pure _ _ e=>cases e
  | vnil a cap=>grind
  | vw es b off cap cc T k s g i=>grind
 .rename_i len;have:=Zc he;subst this;cases h with
  | pure _ _ e=>cases e
  | ms id tot off len a cap s n=>grind
 .rename_i q;have:=h.lit_inv;split at he
  .rename_i cap;split at he
   .simp_all
   .grind
  .grind
 .grind
theorem A3{es:List<|List AV}{e:List AV}(he:es[i]?=some e): bK es i j=e[j]?:=by simp[bK,he]
section
theorem Om[aF](hcf:De P T cf)(hfn:pV P T){f:Nat}(hagg:agg=false->s=1)(hL:Fi P agg f s)(hN:Cw P f){args:List AV}{vs:Array Value}(hev:vH cf agg s fl args c.H=some (r,H'))(hs:bY (aK T) c)(hargs:nF (aK T) c args vs):
 Calls P f vs c.w λe w'=>∃v c',e=.returned v/\c'.w=w'/\c'.H=H'/\c'.X=c.X/\bW fl c c'/\bY (aK T) c'/\RV (aK T) c' r v:=by
 rcases PO hev with⟨x,y,rfl,he,rfl,rfl⟩ | ⟨id,off,m,vc,caps,es,tb,rfl,hfl,hob,hwin,hbig,htb,hsw,rfl,rfl⟩
 .let⟨u0,k0,r0⟩:=hargs.2 0 _ rfl
  let⟨u1,k1,r1⟩:=hargs.2 1 _ rfl
  obtain⟨p,cap,rfl⟩:=aEs he r0
  have hvs:vs=#[.slice p 0 cap,u1]:=by
   apply XQ
   .exact hargs.1
   .grind
  subst hvs
  refine (hN p cap u1 c.w).mono λe w' ⟨he,hw⟩=>?_
  subst hw
  exact⟨_,c,he,rfl,rfl,rfl,bW.refl fl c,hs,.tup [] #[] (λ_=>bM) rfl (λi x hx=>by simp at hx) λi x hx=>by simp at hx⟩
 let⟨u0,k0,r0⟩:=hargs.2 0 _ rfl
 let⟨u1,k1,r1⟩:=hargs.2 1 _ rfl
 obtain⟨a,cap,s',n,rfl,g1,g2,g3,g4⟩:=r0.ms_inv
 have hsh:s'=s/\n=es.length:=by
  simp only[shp,hob] at g1
  simpa [Wy] using g1
 obtain⟨rfl,rfl⟩:=hsh
 let⟨hml,hms⟩:=g4 rfl
 rcases hms with⟨_,h0,_⟩ | ⟨b,cs,ty,a',hb,hcs,hsz,rfl,hadr⟩
 .omega
 have hcap:cap≠0:=by omega
 obtain rfl:=hadr hcap
 obtain⟨g,cv,vals,rfl,hvc,hcv,hcv1,hcv2⟩:∃g cv,∃vals:Nat->Value,u1=.func (.func g) #[] cv/\aK T vc=some g/\cv.size=caps.length/\(∀i x,caps[i]?=some x->cv[i]?=some (vals i))/\∀i x,caps[i]?=some x->RV (aK T) c x (vals i):=by
  cases r1 with
  | pure _ _ h=>cases h
  | fn vi f caps cv vals hf h1 h2 h3=>exact⟨_,_,_,rfl,hf,h1,h2,h3⟩
 have hvs:vs=#[.slice (some ⟨b,off*s',none⟩) (m+1) cap,.func (.func g) #[] cv]:=by
  apply XQ
  .exact hargs.1
  .grind
 subst hvs
 let⟨fn,hf1,hf2,hf3⟩:=hfn vc g hvc
 let⟨code,hcode⟩:=XK.1 hf2
 let⟨cs2,ty2,hc2,hfit,hcell⟩:=hs.blk id s' _ b hob hb
 rw[hcs] at hc2
 cases hc2
 have hlens:=hs.lens id s' es hob
 have hblk:b<c.w.heap.size:=hs.lt hb
 have hrow:∀i,i<m+1->∃e,es[off+i]?=some e/\e.length=s':=by
  intro i hi
  have hlt:off+i<es.length:=by omega
  exact⟨es[off+i],Zb hlt,hlens _<|ZP hlt⟩
 have hreal:∀i,i<m+1->∀j,j<s'->∃x v,bK es (off+i) j=some x/\cs[(off+i)*s'+j]?=some v/\bC v=true/\RV (aK T) c x v:=by
  intro i hi j hj
  let⟨e,he,hel⟩:=hrow i hi
  have hx:bK es (off+i) j=some e[j]:=by rw[A3 he,Zb<|by omega]
  let⟨v,h1,h2,h3⟩:=hcell _ _ _ hx
  exact⟨_,v,hx,h1,h2,h3⟩
 let enc:Fin (m+1)->List Value:=λi=>(List.range s').map λj=>(cs[(off+i.1)*s'+j]?).getD bM
 have henc_len:∀x,(enc x).length=s':=λx=>by simp[enc]
 have henc_at:∀(x:Fin<|m+1) j,j<s'->(enc x)[j]?=cs[(off+x.1)*s'+j]?:=by
  intro x j hj
  let⟨_,v,_,h1,_,_⟩:=hreal x.1 x.2 j hj
  simp only[enc]
  rw[Zk,YY hj,Yz,h1]
  rfl
 have henc_one:∀x,∀v∈enc x,v.oneCell'=true:=by
  intro x v hv
  let⟨j,hj,hjv⟩:=List.getElem_of_mem hv
  have hj':j<s':=by simpa [enc] using hj
  let⟨_,v',_,h1,h2,_⟩:=hreal x.1 x.2 j hj'
  have:=henc_at x j hj'
  rw[Zb hj,hjv,h1] at this
  cases this
  rw[<-EY];exact h2
 let d0:Array<|Fin<|m+1:=Array.ofFn λi=>i
 have hd0:d0.size=m+1:=by simp[d0]
 have hd0at:∀i (h:i<m+1),d0[i]! =⟨i,h⟩:=by
  intro i h
  simp[d0,h]
 have hH:HoldsK enc s' c.w b (off*s') d0:=by
  intro t ht
  rw[size_flatK] at ht
  rw[get_flatK _ _ _ _ ht]
  rw[hd0] at ht
  have hpos:0<s':=by
   rcases XB s' with h | h
   .grind
   .exact h
  have hlt:t / s'<m+1:=WP<|by rw[YN];exact ht
  have hmod:=Nat.mod_lt t hpos
  have e1:off*s'+t=(off+t / s')*s'+t % s':=by
   have:=Nat.div_add_mod t s'
   rw[ZA,YN (t / s') s'];omega
  let⟨_,v,_,h1,_,_⟩:=hreal (t / s') hlt (t % s') hmod
  have h2:=henc_at ⟨t / s',hlt⟩ (t % s') hmod
  rw[hd0at _ hlt]
  refine⟨?_,by simp[World.frozen?,hcs]⟩
  rw[Xp,h2,h1]
  simp only[World.cell?,hcs,e1]
  simpa using h1
 have hcmp:aUt P agg g cv enc s' (λx y=>at2 tb x.1 y.1) b (off*s') d0.size c.w:=by
  intro mm os dk _ x y
  have hsame:Fj c b<|sortWorldK enc s' c.w b (off*s') mm dk os:=by
   refine⟨?_,λk o hk ho=>?_⟩
   .show _<=((putRowK enc s' (Sort.ahead c.w mm) b (off*s') dk).heap++os).size
    rw[Wh]
    unfold putRowK putRow mapBlock
    simp[Sort.ahead]
   .show ((putRowK enc s' (Sort.ahead c.w mm) b (off*s') dk).heap++os)[k]?=some o
    have hkl:k<c.w.heap.size:=by
     rcases ZI k c.w.heap.size with h | h
     .exact h
     .grind
    have e:(putRowK enc s' (Sort.ahead c.w mm) b (off*s') dk).heap[k]?=c.w.heap[k]?:=by
     unfold putRowK putRow mapBlock
     rw[YH,ZF<|Ne.symm hk]
     rfl
    have hsz2:(putRowK enc s' (Sort.ahead c.w mm) b (off*s') dk).heap.size=c.w.heap.size:=by
     unfold putRowK putRow mapBlock
     simp[Sort.ahead]
    rw[Xb<|by rw[hsz2];exact hkl,e]
    exact ho
  generalize sortWorldK enc s' c.w b (off*s') mm dk os=W at hsame |-
  let⟨ex,hex,hexl⟩:=hrow x.1 x.2
  let⟨ey,hey,heyl⟩:=hrow y.1 y.2
  have hrx:((es.drop off).take<|m+1)[x.1]?=some ex:=by rw[Zs,Zu x.2,Zw];exact hex
  have hry:((es.drop off).take<|m+1)[y.1]?=some ey:=by rw[Zs,Zu y.2,Zw];exact hey
  have hcg:=aMB htb hrx hry
  have hrv:∀(z:Fin<|m+1) (e:List AV),es[off+z.1]?=some e->e.length=s'->RV (aK T) c (Dd agg e) (OG agg<|enc z):=by
   intro z e he hel
   have hall:∀(j:Nat) x,e[j]?=some x->(enc z)[j]?=some ((enc z)[j]?.getD bM)/\bC ((enc z)[j]?.getD bM)=true/\RV (aK T) c x ((enc z)[j]?.getD bM):=by
    intro j x hx
    have hj:j<s':=by
     rcases ZI j s' with h | h
     .exact h
     .grind
    have hx':bK es (off+z.1) j=some x:=by rw[A3 he];exact hx
    let⟨v,h1,h2,h3⟩:=hcell _ _ _ hx'
    rw[henc_at z j hj,h1]
    exact⟨rfl,h2,h3⟩
   cases agg with
   | true=>
    refine .agg e (enc z).toArray (λ(j:Nat)=>(enc z)[j]?.getD bM) (by simp[henc_len,hel]) (λ(j:Nat) x hx=>?_) λ(j:Nat) x hx=>(hall j x hx).2.2
    exact⟨by simpa using (hall j x hx).1,(hall j x hx).2.1⟩
   | false=>
    have h1:=hagg rfl
    subst h1
    obtain⟨y,rfl⟩:∃y,e=[y]:=by
     match e,hel with
     | [y],_=>grind
    have:=(hall 0 y rfl).2.2
    simp only[Dd,OG]
    rw[Xp]
    cases hq:(enc z)[0]? with
    | none=>grind
    | some u=>rw[hq] at this;exact this
  have hres:∀z H1,aIM cf vc caps (Po c.H id) (UQ c.H id s' es) (Dd agg ex) (Dd agg ey)=some (.lit<|.int .i64 z,H1)->
   Calls P g (#[OG agg<|enc x,OG agg<|enc y]++cv) W λe w'=>e=.returned (.int .i64 z)/\∃q os',w'=grow (W.drewN q) os':=by
   intro z H1 hp
   unfold aIM at hp
   split at hp
   .have hargs':nF (aK T) (DE c W) ([Dd agg ex,Dd agg ey].map<|cG<|Po c.H id)<|#[OG agg<|enc x,OG agg<|enc y]++cv:=by
     have hcv0:cv=#[]:=Wl<|by simpa using hcv
     subst hcv0
     refine⟨by simp,λi z hz=>?_⟩
     rw[Zk,Zq] at hz
     obtain⟨z0,hz0,rfl⟩:=hz
     match i,hz0 with
     | 0,hz0=>cases hz0;exact⟨OG agg<|enc x,rfl,aAi hs hb hsame<|hrv x ex hex hexl⟩
     | 1,hz0=>cases hz0;exact⟨OG agg<|enc y,rfl,aAi hs hb hsame<|hrv y ey hey heyl⟩
     | i+2,hz0=>simp at hz0
    refine (hcf 0 vc g _ _ H1 (DE c W) _ hp hvc (aMO hs hb hsame) (ZG _) hargs').mono λe w' hq=>?_
    obtain⟨v,c',rfl,rfl,_,_,hst,_,hr⟩:=hq
    exact⟨by rw[hr.lit_inv],aLk hst λk hk=>hst.frame k hk λid hid=>by cases hid⟩
   .rename_i c0 cr
    have hargs':nF (aK T) (Lb c W id s' es) (Dd agg ex::Dd agg ey::c0::cr)<|#[OG agg<|enc x,OG agg<|enc y]++cv:=by
     refine⟨by simp[hcv];omega,λi z hz=>?_⟩
     match i,hz with
     | 0,hz=>cases hz;exact⟨OG agg<|enc x,by rw[Xb<|by simp];rfl,KR hs hb hsame hob<|hrv x ex hex hexl⟩
     | 1,hz=>cases hz;exact⟨OG agg<|enc y,by rw[Xb<|by simp];rfl,KR hs hb hsame hob<|hrv y ey hey heyl⟩
     | i+2,hz=>
      have hz1:(c0::cr)[i]?=some z:=by simpa using hz
      refine⟨vals i,?_,KR hs hb hsame hob<|hcv2 i z hz1⟩
      rw[Array.getElem?_append_right<|by simp]
      simpa using hcv1 i z hz1
    have hsd:=aJF hs hb hsame hob
    refine (hcf _ vc g _ _ H1 (Lb c W id s' es) _ hp hvc hsd (Zf _) hargs').mono λe w' hq=>?_
    obtain⟨v,c',rfl,rfl,_,_,hst,_,hr⟩:=hq
    refine⟨by rw[hr.lit_inv],aLk hst λk hk=>?_⟩
    by_cases hbk:∃i,(Lb c W id s' es).β i=some k
    .let⟨i,hi⟩:=hbk
     exact (hst.floor i<|hsd.dom i k hi).2.2 k hi
    .exact hst.frame k hk λi hi=>hbk ⟨i,hi⟩
  unfold Re at hcg
  split at hcg
  .cases hcg
  rename_i p hp
  split at hcg
  .rename_i v hv
   split at hcg
   .rename_i k z
    split at hcg
    .cases hcg
     let⟨r1,H1⟩:=p
     simp only at hv
     subst hv
     exact hres _ H1 hp
    .cases hcg
   .cases hcg
  .cases hcg
 have main:=hL m enc henc_len henc_one _ (B6 hsw) g cv b (off*s') cap d0 c.w (enters_of hf1 hf3 hcode) hcmp hH hblk<|by omega
 rw[hd0] at main
 refine main.mono λe w' ⟨he,q,os,hw⟩=>?_
 generalize hd:pdq (ltOf λ(x y:Fin<|m+1)=>at2 tb x.1 y.1) d0 0 (m+1) (Lib.bitLen<|m+1) true true=d at hw
 have hdsz:d.size=m+1:=by
  have h:=(pdq_sorts (ltOf λ(x y:Fin<|m+1)=>at2 tb x.1 y.1) (B6 hsw) d0 0 (m+1) (Lib.bitLen<|m+1) true true (ZG _) (by rw[hd0];exact Zf _)<|Or.inl rfl).1.1
  rw[hd,hd0] at h
  exact h
 have hix:ixG m tb=d.toList.map Fin.val:=by rw[<-hd];rfl
 rw[hix]
 generalize hes':es.take off++(d.toList.map Fin.val).map (Hf []<|(es.drop off).take<|m+1)++es.drop (off+(m+1))=es'
 have htake:(es.take off).length=off:=by simp;omega
 have hmid:((d.toList.map Fin.val).map<|Hf []<|(es.drop off).take<|m+1).length=m+1:=by simp[hdsz]
 have hlen':es'.length=es.length:=by
  rw[<-hes',Zh,Zh,htake,hmid,ZV];omega
 have hget0:∀i,i<off->es'[i]?=es[i]?:=by
  intro i hi
  rw[<-hes',Zo<|by rw[Zh];omega,Zo<|by omega,Zs,Zu hi]
 have hget2:∀i,off+(m+1)<=i->es'[i]?=es[i]?:=by
  intro i hi
  rw[<-hes',ZX<|by rw[Zh];omega,Zh,htake,hmid,Zw]
  congr 1
  omega
 have hget1:∀q (hq:q<m+1),es'[off+q]?=es[off+(d[q]'(by rw[hdsz];exact hq)).1]?:=by
  intro q hq
  have hk:=(d[q]'(by rw[hdsz];exact hq)).2
  let⟨e,he,_⟩:=hrow _ hk
  rw[<-hes',Zo<|by rw[Zh];omega,ZX<|by omega,htake,YZ,Zk,Zk,Z8,Z6<|by rw[hdsz];exact hq,he]
  simp only[Yz,Za]
  unfold Hf
  rw[Zs,Zu hk,Zw,he]
 have hw1:(putRowK enc s' (Sort.ahead c.w q) b (off*s') d).heap[b]?=some (.cells (putCells _root_.id (off*s') (flatK enc s' d) cs) ty (0,0)):=by
  unfold putRowK putRow mapBlock
  simp[YH,Sort.ahead,hcs,onCells]
 have hother:∀k,k≠b->(putRowK enc s' (Sort.ahead c.w q) b (off*s') d).heap[k]?=c.w.heap[k]?:=by
  intro k hk
  unfold putRowK putRow mapBlock
  rw[YH,ZF<|Ne.symm hk]
  rfl
 have hsize:(putRowK enc s' (Sort.ahead c.w q) b (off*s') d).heap.size=c.w.heap.size:=by
  unfold putRowK putRow mapBlock
  simp[Sort.ahead]
 have hcsz:(putCells _root_.id (off*s') (flatK enc s' d) cs).size=cs.size:=by simp[putCells]
 have hput:∀t,t<cs.size->(putCells _root_.id (off*s') (flatK enc s' d) cs)[t]?=if off*s'<=t/\t<off*s'+(m+1)*s' then some ((flatK enc s' d)[t-off*s']!) else cs[t]?:=by
  intro t ht
  unfold putCells
  rw[WI,Z6 ht,size_flatK,hdsz]
  simp only[Yz]
  split<;>rfl
 have hcells:∀i j x,bK es' i j=some x->∃v,(putCells _root_.id (off*s') (flatK enc s' d) cs)[i*s'+j]?=some v/\bC v=true/\RV (aK T) c x v:=by
  intro i j x hx
  let⟨e,hei,hej⟩:=cZ hx
  have hi:i<es.length:=by
   rcases ZI i es'.length with h | h
   .omega
   .rw[Zy h] at hei;cases hei
  by_cases hin:off<=i/\i<off+(m+1)
  .obtain⟨q9,rfl⟩:∃q9,i=off+q9:=⟨i-off,by omega⟩
   have hq':q9<m+1:=by omega
   rw[hget1 q9 hq'] at hei
   have hk:=(d[q9]'(by rw[hdsz];exact hq')).2
   generalize hkk:(d[q9]'(by rw[hdsz];exact hq'))=k at hei hk
   have hel:e.length=s':=hlens e<|Zg hei
   have hj:j<s':=by
    rcases ZI j e.length with h | h
    .omega
    .rw[Zy h] at hej;cases hej
   let⟨v,h1,h2,h3⟩:=hcell (off+k.1) j x<|by rw[A3 hei];exact hej
   refine⟨v,?_,h2,h3⟩
   have hle:(off+q9)*s'+s'<=es.length*s':=by
    have:(off+q9+1)*s'<=es.length*s':=Zr _<|by omega
    rw[ZA _ 1,Yw] at this
    exact this
   have hle2:q9*s'+s'<=(m+1)*s':=by
    have:(q9+1)*s'<=(m+1)*s':=Zr _<|by omega
    rw[ZA q9 1,Yw] at this
    exact this
   have e0:(off+q9)*s'=off*s'+q9*s':=ZA _ _ _
   rw[hput _<|by omega,Zu ⟨by omega,by omega⟩]
   have e1:(off+q9)*s'+j-off*s'=q9*s'+j:=by omega
   rw[e1,get_flatK _ _ _ _<|by rw[hdsz];omega]
   have e2:(q9*s'+j) / s'=q9:=by
    rw[YN,Nat.mul_add_div<|by omega,Nat.div_eq_of_lt hj,Xm]
   have e3:(q9*s'+j) % s'=j:=by
    rw[YN,Nat.mul_add_mod,Vc hj]
   rw[e2,e3]
   have e4:d[q9]! =k:=by
    rw[getElem!_pos d q9 (by rw[hdsz];exact hq')];exact hkk
   rw[e4,Xp,henc_at k j hj,h1]
   rfl
  .have hei':es[i]?=some e:=by
    rcases ZI i off with h | h
    .rw[<-hget0 i h];exact hei
    .rw[<-hget2 i<|by omega];exact hei
   have hel:e.length=s':=hlens e<|Zg hei'
   have hj:j<s':=by
    rcases ZI j e.length with h | h
    .omega
    .rw[Zy h] at hej;cases hej
   let⟨v,h1,h2,h3⟩:=hcell i j x<|by rw[A3 hei'];exact hej
   refine⟨v,?_,h2,h3⟩
   have hle:i*s'+s'<=es.length*s':=by
    have:(i+1)*s'<=es.length*s':=Zr _<|by omega
    rw[ZA i 1,Yw] at this
    exact this
   rw[hput _<|by omega,ZF,h1]
   rintro ⟨q1,q2⟩
   rcases ZI i off with h | h
   .have:(i+1)*s'<=off*s':=Zr _<|by omega
    rw[ZA i 1,Yw] at this
    omega
   .have:(off+(m+1))*s'<=i*s':=Zr _<|by omega
    rw[ZA off] at this
    omega
 have hlens':∀e∈es',e.length=s':=by
  intro e he
  let⟨i,hi⟩:=WR he
  rcases ZI i off with h | h
  .rw[hget0 i h] at hi;exact hlens e<|Zg hi
  .rcases ZI i (off+(m+1)) with h2 | h2
   .obtain⟨q9,rfl⟩:∃q9,i=off+q9:=⟨i-off,by omega⟩
    rw[hget1 q9<|by omega] at hi;exact hlens e<|Zg hi
   .rw[hget2 i h2] at hi;exact hlens e<|Zg hi
 have hst1:=oA (w':=putRowK enc s' (Sort.ahead c.w q) b (off*s') d) (es':=es') hs hfl hob hb hcs (by omega) hcsz hw1 hother hsize rfl rfl rfl<|ZY _ _
 have hsim1:=yF (w':=putRowK enc s' (Sort.ahead c.w q) b (off*s') d) (es':=es') hs hob hb hcs (by omega) hcsz hw1 hother hsize rfl rfl rfl hlens' (by rw[hcsz,hlen'];exact hfit) hcells<|ZY _ _
 generalize hc1:(⟨putRowK enc s' (Sort.ahead c.w q) b (off*s') d,c.X,c.β,c.H.set id<|.blk s' es'⟩:dF)=c1 at hst1 hsim1
 have hst2:=aJ5 (c:=c1) (q:=0) (os:=os)
 refine⟨.tuple #[],pW c1 ⟨grow (Sort.ahead c1.w 0) os,(eP c1).X,λ_=>none,[]⟩,he,?_,?_,?_,hst1.trans<|yU hsim1 hst2,Jo hsim1 hst2,?_⟩
 .rw[hw,<-hc1]
  rfl
 .rw[<-hc1];rfl
 .rw[<-hc1];rfl
 .exact .tup [] #[] (λ_=>bM) rfl (λi x hx=>by simp at hx) λi x hx=>by simp at hx
end
end
section
variable {H H':aU}{P:Program}{T:List cQ}{args args':List AV}{α:Type}{c:α->List AV}{fl id:Nat}{l:List α}{n:Nat}{r:AV}{s vi:Nat}
section
end
theorem aFN[aF]{a:List AV}{kk:IntKind}{z:Int}(h:pv P T n vi a=some (.lit<|.int kk z)): ∃H',fH P T n 0 vi a []=some (.lit<|.int kk z,H'):=by
 unfold pv at h;split at h
 .rename_i r H' he;simp only[Za] at h;refine⟨H',?_⟩;rw[he];cases r with
  | lit v=>
   simp only[fF,dZ,gH,uC] at h;revert h;split
   .split
    .split
     .split
      .intro h;cases h
      .intro h;cases h
     .intro h;cases h
    .intro h;cases h
   .intro h;simp only[AV.lit.injEq] at h;rw[h]
  | agg cs=>simp[fF,dZ] at h
  | tup cs=>simp[fF] at h
  | fn vi caps=>cases caps<;>simp[fF,dZ,gH] at h
  | ms id tot off len=>
   simp only[fF,dZ,gH,YE,Z9,fE,eE,ZG,Zz] at h;split at h<;>cases h
  | ptr=>simp[fF,dZ,gH] at h
  | mp id=>
   simp only[fF,dZ,gH,YE,Z9,fE,eE,ZG,Zz] at h;split at h<;>cases h
  | it=>simp[fF,dZ,gH] at h
  | _=>simp[fF,dZ,gH] at h
 .cases h
end
section
open Go.Sort
variable {H:aU}{a:List AV}{agg:Bool}{b:aU}{caps:List AV}{cf:CF}{α β:Type}{e:α->β}{f:β->β->Option Int}{fl i:Nat}{l:List α}{m s:Nat}{tb:List<|List Int}{vc:Nat}{x y:List AV}{z:Int}
theorem Jp{f g:α->Option β}(h:∀x y,f x=some y->g x=some y): ∀(l:List α) (r:List β),DV (l.map f)=some r->DV (l.map g)=some r
 | [],r,b=>b
 | x::l,r,b=>by
  simp only[ZE,DV] at b |-;split at b
  .cases b
  .rename_i a d;split at b
   .cases b
   .rename_i q c;rw[h x a d,Jp h l q c];exact b
theorem aIa{g:β->β->Option Int}(h:∀x y z,f x y=some z->g x y=some z){rows:List β}(b:KJ f rows=some tb): KJ g rows=some tb:=
 Jp (λx r a=>Jp (λy z c=>h x y z c) rows r a) rows tb b
theorem aIN{a:CF}(h:Le cf a){c:aU}(x y:List AV)(z:Int)(b:Re cf vc caps agg H c x y=some z): Re a vc caps agg H c x y=some z:=by
 unfold Re at b |-;split at b
 .cases b
 .rename_i p d;have:aIM a vc caps H c (Dd agg x) (Dd agg y)=some p:=by
   cases caps<;>exact h _ _ _ _ _ d
  rw[this];exact b
theorem aDa{id off tot:Nat}{es:List<|List AV}(f:fl<=id)(e:H[id]?=some (.blk s es))(b:es.length=tot)(c:off+(m+1)<=es.length)(a:es.length<=1000000)(d:KJ (Re cf vc caps agg (Po H id)<|UQ H id s es) ((es.drop off).take<|m+1)=some tb)(g:R6 (m+1) tb=true):
 vH cf agg s fl [.ms id tot off<|m+1,.fn vc caps] H=some (.tup [],H.set id<|.blk s<|es.take off++(ixG m tb).map (Hf []<|(es.drop off).take<|m+1)++es.drop (off+(m+1))):=by
 subst b;have h:Nat.ble fl id=true:=Yx f;have e2:Nat.beq es.length es.length=true:=Y5 _;have k:Nat.ble (off+(m+1)) es.length=true:=Yx c;have i:Nat.ble es.length 1000000=true:=Yx a;have j:Nat.beq s s=true:=Y5 _;have l:wL (.ms id es.length off<|m+1)=false:=rfl;simp only[vH,h,e2,k,i,j,l,e,d,g,Xr]
theorem aFc(cf c:CF)(h:Le cf c)(fl:Nat)(a:List AV)(H:aU)(x:AV×aU)(j:vH cf agg s fl a H=some x): vH c agg s fl a H=some x:=by
 let⟨r,H'⟩:=x;rcases PO j with⟨x,y,rfl,he,rfl,rfl⟩ | ⟨id,off,m,vc,caps,es,tb,rfl,g,f,d,b,e,i,rfl,rfl⟩
 .simp only[vH,he]
 .exact aDa g f rfl d b (aIa (λx y z k=>aIN h x y z k) e) i
abbrev tP(agg:Bool)(s:Nat): aAg:=⟨λcf=>vH cf agg s,aFc⟩
def qB{α:Type}(F:α->α->Option Int)(l:List α): Option<|List α:=match l with
 | []=>some []
 | x::r=>match KJ F (x::r) with
  | none=>none
  | some tb=>match R6 (r.length+1) tb with
   | false=>none
   | true=>some<|(ixG r.length tb).map<|Hf x (x::r)
theorem aJ0{g:α->α->Option Int}(h:∀x y z,g x y=some z->f (e x) (e y)=some z)(a:KJ g l=some tb): KJ f (l.map e)=some tb:=by
 unfold KJ at a |-;rw[Ya];refine Jp (f:=λx=>DV<|l.map λy=>g x y) (g:=(λx=>DV<|(l.map e).map λy=>f x y)∘e) (λx r c=>?_) l tb a;show DV ((l.map e).map λy=>f (e x) y)=some r;rw[Ya];exact Jp (f:=λy=>g x y) (g:=(λy=>f (e x) y)∘e) (λy z b=>h x y z b) l r c
theorem aFA(h:i∈ixG m tb): i<m+1:=by
 unfold ixG at h;obtain⟨y,_,rfl⟩:=Yh.1 h;exact y.2
theorem aAs{d:α}{d':β}(a:i<l.length): Hf d' (l.map e) i=e (Hf d l i):=by
 unfold Hf;rw[Zk,Zb a];rfl
theorem Hc{H':aU}{r:AV}(c:fl<=m/\m<=H.length)(h:vH cf agg s fl a H=some (r,H')): H'.take fl=H.take fl/\m<=H'.length:=by
 rcases PO h with⟨x,y,rfl,he,rfl,rfl⟩ | ⟨id,off,m,vc,caps,es,tb,rfl,e,g,d,b,f,j,rfl,rfl⟩
 .exact⟨rfl,c.2⟩
 .refine⟨?_,by rw[Yr];exact c.2⟩;apply Ym;intro i;rw[Zs,Zs];split
  .rw[Zv<|by omega]
  .rfl
theorem aRm[aF]{P:Program}{T:List cQ}{n:Nat}(c:[Dd agg x,Dd agg y].map (cG H)=a)(k:pv P T n vc a=some (.lit<|.int .i64 z)):
 Re (fH P T n) vc [] agg H b x y=some z:=by
 let⟨H',h⟩:=aFN k;simp only[Re,aIM,c,h]
theorem aBS(a:R6 (m+1) tb=true): (ixG m tb).length=m+1:=by
 have h:=(pdq_sorts (Go.Proofs.ltOf λ(x y:Fin<|m+1)=>at2 tb x.1 y.1) (B6 a) (Array.ofFn λi=>i) 0 (m+1) (Lib.bitLen<|m+1) true true (ZG _) (by simp)<|Or.inl rfl).1.1;unfold ixG;rw[ZO,Zx,h];simp
theorem aAm{F:α->α->Option Int}{b:List α}(h:qB F l=some b): b.length=l.length:=by
 unfold qB at h;split at h
 .cases h;rfl
 .split at h
  .cases h
  split at h
  .cases h
  rename_i a;cases h;rw[ZO,aBS a];rfl
theorem aOr(c:caps≠[])(h:∃H',cf b.length vc (Dd agg x::Dd agg y::caps) b=some (.lit<|.int .i64 z,H')):
 Re cf vc caps agg H b x y=some z:=by
 let⟨H',h⟩:=h;cases caps with
 | nil=>exact absurd rfl c
 | cons a r=>simp only[Re,aIM,h]
end
section
open jQ (den cds ag)
inductive Sh where
 | v (k:Nat)
 | w (k:Nat)
 | r (k:Nat)
 | l (k:Nat)
 | m (kk vk:Nat)
 | n (id:Nat)
 | i
 | q (id off:Nat)
section
variable [dR]
def Sh.den: Sh->Type
 | .v k=>jQ.den k
 | .w k=>jQ.den k
 | .r k=>jQ.den k
 | .l k=>List (jQ.den k)
 | .m kk vk=>List (jQ.den kk×jQ.den vk)
 | .n _=>Nat×Nat
 | .i=>ByteArray×Nat
 | .q _ _=>Int
def PL: TV->TV
 | .sl k l=>.vw k l
 | v=>v
def toW: TV->TV
 | .agg cs=>.agg (cs.map PL)
 | v=>PL v
def Sh.tv: (s:Sh)->s.den->TV
 | .v k,x=>val k x
 | .w k,x=>toW (val k x)
 | .r k,x=>.rptr (kI k x)
 | .l k,x=>.sl k x
 | .m kk vk,x=>.rmp kk vk x
 | .n id,x=>.ms id (some x)
 | .i,x=>.tup [.lit (.string x.1),.lit (.int .i64 (.ofNat x.2))]
 | .q id off,x=>.pel id x off
def aKX: TV->Option (ByteArray×Nat)
 | .tup cs=>match cs with
  | [a,b]=>match a with
   | .lit u=>match u with
    | .string s=>match b with
     | .lit w=>match w with
      | .int k n=>match k with
       | .i64=>match n with
        | Int.ofNat n=>some (s,n)
        | _=>none
       | _=>none
      | _=>none
     | _=>none
    | _=>none
   | _=>none
  | _=>none
 | _=>none
def rdN(id:Nat): TV->Option (Nat×Nat)
 | .ms j c=>match Nat.beq j id with
  | true=>c
  | false=>none
 | _=>none
def rdQ(id off:Nat): TV->Option Int
 | .pel j i o=>match Nat.beq j id with
  | true=>match Nat.beq o off with
   | true=>some i
   | false=>none
  | false=>none
 | _=>none
def Sh.rd(w:Nat)(H:TH)(s:Sh)(v:TV): Option s.den:=match s with
 | .v k=>x8 (match w with | 3=>0 | w=>w) H k v
 | .w k=>x8 (match w with | 3=>1 | w=>w) H k v
 | .r k=>match v with
  | .rptr cs=>kM 0 H k cs
  | _=>none
 | .l k=>match v with
  | .sl k' xs=>EM (λk=>List (jQ.den k)) xs
  | _=>none
 | .m kk vk=>match v with
  | .rmp a b xs=>b8 xs
  | _=>none
 | .n id=>rdN id v
 | .i=>aKX v
 | .q id off=>rdQ id off v
def fT: List Sh->Type
 | []=>Unit
 | [a]=>a.den
 | a::b::r=>a.den×fT (b::r)
def fT.hd{a:Sh}: {r:List Sh}->fT (a::r)->a.den
 | [],x=>x
 | _::_,x=>x.1
def fT.tl{a:Sh}: {r:List Sh}->fT (a::r)->fT r
 | [],_=>()
 | _::_,x=>x.2
def fT.cs{a:Sh}: {r:List Sh}->a.den->fT r->fT (a::r)
 | [],x,_=>x
 | _::_,x,y=>(x,y)
def Og: (l:List Sh)->fT l->List TV
 | [],_=>[]
 | a::r,p=>a.tv (fT.hd p)::Og r (fT.tl p)
def Fy(w:Nat)(H:TH): (l:List Sh)->List TV->Option (fT l)
 | [],vs=>match vs with
  | []=>some ()
  | _=>none
 | a::r,vs=>match vs with
  | []=>none
  | v::vs=>match a.rd w H v with
   | some x=>match Fy w H r vs with
    | some p=>some (fT.cs x p)
    | none=>none
   | none=>none
inductive Pl where
 | con (v:TV)
 | p (s:Sh)
 | v (s:Sh)
def shs(b:Bool): List Pl->List Sh
 | []=>[]
 | .con _::r=>shs b r
 | .p s::r=>match b with
  | false=>s::shs b r
  | true=>shs b r
 | .v s::r=>match b with
  | true=>s::shs b r
  | false=>shs b r
def mkV: (l:List Pl)->fT (shs false l)->fT (shs true l)->List TV
 | [],_,_=>[]
 | .con v::r,p,q=>v::mkV r p q
 | .p s::r,p,q=>s.tv (fT.hd p)::mkV r (fT.tl p) q
 | .v s::r,p,q=>s.tv (fT.hd q)::mkV r p (fT.tl q)
def Ov: TV->TV->Bool
 | .undef,_=>true
 | .ms i n,v=>match n with
  | none=>match v with
   | .ms j m=>match m with
    | none=>Nat.beq i j
    | some _=>false
   | _=>false
  | some _=>false
 | .ptr i o,v=>match v with
  | .ptr j q=>match Nat.beq i j with
   | true=>Nat.beq o q
   | false=>false
  | _=>false
 | .mp i,v=>match v with
  | .mp j=>Nat.beq i j
  | _=>false
 | .it i,v=>match v with
  | .it j=>Nat.beq i j
  | _=>false
 | .rs i n,v=>match v with
  | .rs j m=>match Nat.beq i j with
   | true=>Nat.beq n m
   | false=>false
  | _=>false
 | .fn i cs,v=>match cs with
  | []=>match v with
   | .fn j ds=>match ds with
    | []=>Nat.beq i j
    | _=>false
   | _=>false
  | _=>false
 | .lit u,v=>match u with
  | .int k a=>match v with
   | .lit y=>match y with
    | .int k' b=>match decEq k k' with
     | isTrue _=>match decEq a b with
      | isTrue _=>true
      | isFalse _=>false
     | isFalse _=>false
    | _=>false
   | _=>false
  | .bool b=>match v with
   | .lit y=>match y with
    | .bool c=>match b with
     | true=>c
     | false=>match c with
      | true=>false
      | false=>true
    | _=>false
   | _=>false
  | .slice a l c=>match a with
   | none=>match l with
    | 0=>match c with
     | 0=>match v with
      | .lit y=>match y with
       | .slice a l c=>match a with
        | none=>match l with
         | 0=>match c with
          | 0=>true
          | _=>false
         | _=>false
        | _=>false
       | _=>false
      | _=>false
     | _=>false
    | _=>false
   | _=>false
  | _=>false
 | .emp b,v=>match v with
  | .emp c=>match b with
   | false=>true
   | true=>c
  | _=>false
 | _,_=>false
def aG7: List TV->List TV->Bool
 | [],l=>match l with
  | []=>true
  | _=>false
 | c::r,l=>match l with
  | []=>false
  | v::s=>match c with
   | .ms _ _=>false
   | c=>match Ov c v with
    | true=>aG7 r s
    | false=>false
def aJQ: TV->TV->Bool
 | .fn i cs,v=>match v with
  | .fn j ds=>match Nat.beq i j with
   | true=>aG7 cs ds
   | false=>false
  | _=>false
 | u,v=>Ov u v
def VH: (l:List Pl)->List TV->Option (fT (shs false l)×fT (shs true l))
 | [],vs=>match vs with
  | []=>some ((),())
  | _=>none
 | .con c::r,vs=>match vs with
  | []=>none
  | v::vs=>match aJQ c v with
   | true=>VH r vs
   | false=>none
 | .p s::r,vs=>match vs with
  | []=>none
  | v::vs=>match s.rd 3 [] v with
   | some x=>match VH r vs with
    | some p=>some (fT.cs x p.1,p.2)
    | none=>none
   | none=>none
 | .v s::r,vs=>match vs with
  | []=>none
  | v::vs=>match s.rd 3 [] v with
   | some x=>match VH r vs with
    | some p=>some (p.1,fT.cs x p.2)
    | none=>none
   | none=>none
inductive OL where
 | box (n:Nat)
 | bx
 | lst (k:Nat)
 | map (kk vk:Nat)
 | it
 | rows (s m:Nat)
 | gone
structure Gs where
 fo:List Nat
 ts:List (Nat×Option Nat)
 os:List OL
 ss:List Pl
abbrev Gs.P(L:Gs): Type:=fT (shs false L.ss)
abbrev Gs.V(L:Gs): Type:=fT (shs true L.ss)
def plT: List (Nat×Option Nat)->List TV->TT
 | t::ts,vs=>match t.2 with
  | some n=>(t.1,.agg (vs.take n))::plT ts (vs.drop n)
  | none=>match vs with
   | v::vs=>(t.1,v)::plT ts vs
   | []=>[]
 | [],_=>[]
def nO: List OL->Nat
 | []=>0
 | o::r=>match o with
  | .box n=>n+nO r
  | .rows s m=>s*m+nO r
  | .gone=>nO r
  | _=>nO r+1
def aPP: TV->pK
 | .agg cs=>.box cs
 | _=>.gone
def aPO(v:TV): pK:=match aKX v with
 | some p=>.it p.1 p.2
 | none=>.gone
def sF{α:Type}(s:Nat): Nat->List α->List (List α)
 | 0,_=>[]
 | m+1,l=>l.take s::sF s m (l.drop s)
def aGw(k:Nat): TV->pK
 | .sl k' l=>match Nat.beq k' k with
  | true=>.lst k' l
  | false=>.gone
 | _=>.gone
def aJz(kk vk:Nat): TV->pK
 | .rmp a b m=>match Nat.beq a kk with
  | true=>match Nat.beq b vk with
   | true=>.map a b m
   | false=>.gone
  | false=>.gone
 | _=>.gone
def Q8: List OL->List TV->TH
 | [],_=>[]
 | o::r,vs=>match o with
  | .box n=>.box (vs.take n)::Q8 r (vs.drop n)
  | .gone=>.gone::Q8 r vs
  | .lst k=>match vs with
   | v::vs=>aGw k v::Q8 r vs
   | []=>[]
  | .map kk vk=>match vs with
   | v::vs=>aJz kk vk v::Q8 r vs
   | []=>[]
  | .it=>match vs with
   | v::vs=>aPO v::Q8 r vs
   | []=>[]
  | .bx=>match vs with
   | v::vs=>aPP v::Q8 r vs
   | []=>[]
  | .rows s m=>.rows s (sF s m (vs.take (s*m)))::Q8 r (vs.drop (s*m))
def Gs.mkM(L:Gs)(M:List TV): TS:=⟨plT L.ts (M.drop (nO L.os)),Q8 L.os (M.take (nO L.os))⟩
def Gs.mk'(L:Gs)(p:L.P)(q:L.V): TS:=L.mkM (mkV L.ss p q)
def ovO(n:Nat)(φ:Nat->dK): List Nat->TH->TH
 | [],H=>H
 | i::r,H=>(ovO n φ r H).set i (.fr n (φ i))
def Gs.mkG(L:Gs)(n:Nat)(φ:Nat->dK)(p:L.P)(q:L.V): TS:=⟨(L.mk' p q).tm,ovO n φ L.fo (L.mk' p q).hp⟩
def upT(tm:TT): List (Nat×Option Nat)->Option (List TV)
 | []=>some []
 | t::r=>match dD t.1 tm with
  | some v=>match upT tm r with
   | some vs=>match t.2 with
    | none=>some (v::vs)
    | some n=>match v with
     | .agg cs=>match Nat.beq cs.length n with
      | true=>some (cs++vs)
      | false=>none
     | _=>none
   | none=>none
  | none=>none
def upO: List OL->TH->Option (List TV)
 | [],H=>match H with
  | []=>some []
  | _=>none
 | o::r,H=>match H with
  | []=>none
  | b::H=>match upO r H with
   | none=>none
   | some vs=>match o with
    | .gone=>some vs
    | .box n=>match b with
     | .box cs=>match Nat.beq cs.length n with
      | true=>some (cs++vs)
      | false=>none
     | _=>none
    | .lst k=>match b with
     | .lst k' l=>match Nat.beq k' k with
      | true=>some (.sl k' l::vs)
      | false=>none
     | _=>none
    | .map kk vk=>match b with
     | .map a b m=>match Nat.beq a kk with
      | true=>match Nat.beq b vk with
       | true=>some (.rmp a b m::vs)
       | false=>none
      | false=>none
     | _=>none
    | .bx=>match b with
     | .box cs=>some (.agg cs::vs)
     | _=>none
    | .it=>match b with
     | .it s p=>some (.tup [.lit (.string s),.lit (.int .i64 (.ofNat p))]::vs)
     | _=>none
    | .rows s m=>match b with
     | .rows s' es=>match Nat.beq s' s with
      | true=>match Nat.beq es.length m with
       | true=>match es.all λe=>Nat.beq e.length s with
        | true=>some (es.flatten++vs)
        | false=>none
       | false=>none
      | false=>none
     | _=>none
def VQ(H:TH): List TV->Bool
 | []=>true
 | v::r=>match v with
  | .ms i _=>match H[i]? with
   | some o=>match o with
    | .lst _ _=>VQ H r
    | _=>false
   | none=>false
  | .pel i _ _=>match H[i]? with
   | some o=>match o with
    | .lst _ _=>VQ H r
    | _=>false
   | none=>false
  | _=>VQ H r
def Gs.get(L:Gs)(S:TS): Option (L.P×L.V):=match upT S.tm L.ts with
 | some a=>match upO L.os S.hp with
  | some b=>match VH L.ss (b++a) with
   | some p=>match VQ (L.mk' p.1 p.2).hp (mkV L.ss p.1 p.2) with
    | true=>some p
    | false=>none
   | none=>none
  | none=>none
 | none=>none
def aN0(os:List OL): List Nat->Bool
 | []=>true
 | i::r=>match os[i]? with
  | some o=>match o with
   | .gone=>aN0 os r
   | _=>false
  | none=>false
def Gs.fit(L:Gs)(S:TS): Option (L.P×L.V):=match aN0 L.os L.fo with
 | true=>L.get S
 | false=>none
def aNb(n:Nat)(H:TH): List Nat->Option (List dK)
 | []=>some []
 | i::r=>match H[i]? with
  | some o=>match o with
   | .fr k a=>match Nat.beq k n with
    | true=>match aNb n H r with
     | some l=>some (a::l)
     | none=>none
    | false=>none
   | _=>none
  | none=>none
def Gs.getF(L:Gs)(n:Nat)(S:TS): Option (List dK×L.P×L.V):=match aNb n S.hp L.fo with
 | some f=>match L.fit S with
  | some p=>some (f,p)
  | none=>none
 | none=>none
structure Oc(P:Type) where
 x:cU
 lay:Gs
 pr:P->lay.P
def sY{P:Type}: List (Oc P)->Type
 | []=>Empty
 | [o]=>o.lay.V
 | o::o'::r=>o.lay.V⊕sY (o'::r)
structure v9 where
 ins:Gs
 kl:List Nat
 kt:List Nat
 outs:List (Oc ins.P)
 F:Nat->ins.P->ins.V->Option (sY outs)
structure CSp where
 ka:List Sh
 kr:List Nat
 kp:Bool
 F:Nat->fT ka->Option (fT (kr.map .v))
structure EqS where
 k:Nat
 dec:∀a b:den k,Decidable (a=b)
structure aOE where
 k:Nat
 dec:∀a b:den k,Decidable (a=b)
structure ISp where
 s:v9
 vi:Nat
 fl:Nat
 na:Nat
 nr:Nat
abbrev ISp.kl(s:ISp): List Nat:=s.s.kl
inductive PSp where
 | srt (k:Nat)
 | ins (k:Nat)
 | cln (k:Nat)
 | ord (k:Nat) (F:List (jQ.den k)->List (jQ.den k))
structure XE where
 cs:Nat->Option CSp
 eq:TypeId->Option EqS
 km:TypeId->Option aOE
 st:TypeId->Bool
 cv:TypeId->TypeId->Option IntKind
 pr:Nat->Option PSp
 kd:List (Nat×Nat)
 ls:List (Nat×List v9)
 un:List (Nat×Nat)
 il:List ISp
 nt:Nat
 fl:Nat
def Dw(lx:List Bool): TT->TT
 | []=>[]
 | p::r=>match lx[p.1]? with
  | some b=>match b with
   | true=>p::Dw lx r
   | false=>Dw lx r
  | none=>Dw lx r
def cX(n:Nat): TV->TV
 | .ms i m=>match Nat.blt i n with | true=>.ms i m | false=>.undef
 | .ptr i o=>match Nat.blt i n with | true=>.ptr i o | false=>.undef
 | .pel i j o=>match Nat.blt i n with | true=>.pel i j o | false=>.undef
 | .mp i=>match Nat.blt i n with | true=>.mp i | false=>.undef
 | .it i=>match Nat.blt i n with | true=>.it i | false=>.undef
 | .rs i m=>match Nat.blt i n with | true=>.rs i m | false=>.undef
 | .rel i m j o=>match Nat.blt i n with | true=>.rel i m j o | false=>.undef
 | .fn vi cs=>match cs with | []=>.fn vi [] | _=>.undef
 | .agg _=>.undef
 | .tup _=>.undef
 | v=>v
def jP(n:Nat): TV->TV
 | .fn vi cs=>.fn vi (cs.map (cX n))
 | v=>cX n v
def yM(n:Nat): TV->TV
 | .agg cs=>.agg (cs.map (jP n))
 | v=>jP n v
def iT(n:Nat): pK->pK
 | .box cs=>.box (cs.map (jP n))
 | .rows s es=>.rows s (es.map λe=>e.map (jP n))
 | .fr k a=>match Nat.ble k n with
  | true=>.fr k a
  | false=>.gone
 | o=>o
def rsO(kl:List Nat)(n:Nat)(H0:TH): List Nat->TH->TH
 | [],H=>H
 | i::r,H=>match H0[i]? with
  | some o=>(rsO kl n H0 r H).set i (Hs kl (iT n o))
  | none=>rsO kl n H0 r H
def rsT(kl:List Nat)(n:Nat)(T0:TT): List Nat->TT
 | []=>[]
 | t::r=>match dD t T0 with
  | some v=>(t,EB kl (yM n v))::rsT kl n T0 r
  | none=>rsT kl n T0 r
def aft(s:v9)(T0:TT)(H0:TH)(x:cU)(S:TS): TS:=⟨match x with
 | .ret=>S.tm
 | _=>S.tm++rsT s.kl H0.length T0 s.kt,rsO s.kl H0.length H0 s.ins.fo S.hp⟩
def Pw(live:List Bool)(tr:Bool)(n:Nat)(S:TS): TS:=match tr with
 | true=>⟨(Dw live S.tm).map λp=>(p.1,yM n p.2),(S.hp.take n).map (iT n)⟩
 | false=>⟨Dw live S.tm,S.hp⟩
variable {R:Type}
def Ol(v:TV)(K:TV->Option R): Option R:=match v with
 | .lit u=>match u with
  | .bool b=>cnd b (K (.lit (.bool true))) (K (.lit (.bool false)))
  | u=>K (.lit u)
 | v=>K v
def aJ9: List TV->(List TV->Option R)->Option R
 | [],K=>K []
 | v::vs,K=>Ol v λv=>aJ9 vs λvs=>K (v::vs)
def mkK: (l:List Pl)->fT (shs false l)->fT (shs true l)->(List TV->Option R)->Option R
 | [],_,_,K=>K []
 | .con v::r,p,q,K=>mkK r p q λvs=>K (v::vs)
 | .p s::r,p,q,K=>mkK r (fT.tl p) q λvs=>K (s.tv (fT.hd p)::vs)
 | .v s::r,p,q,K=>Ol (s.tv (fT.hd q)) λv=>mkK r p (fT.tl q) λvs=>K (v::vs)
def Gs.mkB(L:Gs)(p:L.P)(q:L.V)(K:TS->Option R): Option R:=mkK L.ss p q λvs=>K (L.mkM vs)
def swO{P:Type}(p:P)(b:Bool): (l:List (Oc P))->Option (sY l)->(cU->TS->Option R)->Option R
 | [],_,_=>none
 | [o],r,K=>bnd r λt=>match b with
  | true=>o.lay.mkB (o.pr p) t (K o.x)
  | false=>K o.x (o.lay.mk' (o.pr p) t)
 | o::o'::l,r,K=>bnd2 r (λt=>match b with
  | true=>o.lay.mkB (o.pr p) t (K o.x)
  | false=>K o.x (o.lay.mk' (o.pr p) t)) λs=>swO p b (o'::l) (some s) K
def mW(E:XE)(d:Option Nat): Nat:=match d with
 | some d=>match dD d E.kd with
  | some k=>k
  | none=>0
 | none=>0
def aVA(E:XE)(d:Option Nat): Option Nat:=match d with
 | some d=>dD d E.kd
 | none=>none
def VS: TV->Bool
 | .emp b=>b
 | .lit v=>match v with
  | .slice a l c=>match a with
   | none=>match l with
    | 0=>match c with
     | 0=>true
     | _=>false
    | _=>false
   | _=>false
  | _=>false
 | _=>false
def aH0(cells:List TV): List (Nat×Nat×TV)->Option (List TV)
 | []=>some cells
 | (off,size,v)::rest=>match UU v with
  | none=>none
  | some cs=>match Nat.beq cs.length size with
   | true=>match Nat.ble (off+size) cells.length with
    | true=>aH0 (aV cells off cs) rest
    | false=>none
   | false=>none
def aH1(s:Nat)(es:List (List TV)): List (Nat×TV)->Option (List (List TV))
 | []=>some es
 | (i,v)::rest=>match UU v with
  | none=>none
  | some cs=>match Nat.beq cs.length s with
   | true=>match Nat.blt i es.length with
    | true=>aH1 s (es.set i cs) rest
    | false=>none
   | false=>none
def gR(S:TS)(id:Nat)(o:pK): TS:=⟨S.tm,S.hp.set id o⟩
def Vl(S:TS)(o:pK): TS:=⟨S.tm,S.hp++[o]⟩
def aTt(op:BinOp)(k:IntKind)(a b:Int)(K:TV->Option R): Option R:=match op with
 | .add=>K (.lit (.int k (k.wrap (a+b))))
 | .sub=>K (.lit (.int k (k.wrap (a-b))))
 | .mul=>K (.lit (.int k (k.wrap (a*b))))
 | .eql=>Ol (.lit (.bool (a==b))) K
 | .neq=>Ol (.lit (.bool (a != b))) K
 | .lss=>Ol (.lit (.bool (decide (a<b)))) K
 | .leq=>Ol (.lit (.bool (decide (a<=b)))) K
 | .gtr=>Ol (.lit (.bool (decide (a > b)))) K
 | .geq=>Ol (.lit (.bool (decide (a>=b)))) K
 | _=>none
section
variable [aF]
variable (E:XE)(n:Nat)
def aST(k:IntKind)(a d:Int): Option Int:=if d=0 then none else some (k.wrap (a.tdiv d))
def aJ8(op:BinOp)(b:Bool)(K:TV->Option R): Option R:=match op with
 | .eql=>cnd b (K (.lit (.bool true))) (K (.lit (.bool false)))
 | .neq=>cnd b (K (.lit (.bool false))) (K (.lit (.bool true)))
 | _=>none
def aRx(op:BinOp)(t:TypeId)(x y:TV)(K:TV->Option R): Option R:=match x with
 | .lit u=>match y with
  | .lit w=>match u with
   | .string a=>match w with
    | .string b=>aJ8 op (decide (a=b)) K
    | _=>none
   | .bool _=>match E.eq t with
    | some e=>match ag e.k with
     | true=>none
     | false=>match kM 0 [] e.k [x] with
      | some a=>match kM 0 [] e.k [y] with
       | some b=>aJ8 op (@decide (a=b) (e.dec a b)) K
       | none=>none
      | none=>none
    | none=>none
   | .int k a=>match w with
    | .int k' b=>match decEq k k' with
     | isTrue _=>match op with
      | .quo=>bnd (aST k a b) λr=>K (.lit (.int k r))
      | .rem=>bnd (aIj a b) λr=>K (.lit (.int k r))
      | .shr=>match k with
       | .u64=>match decEq b 1 with
        | isTrue _=>K (.lit (.int .u64 (Int.fdiv a 2)))
        | isFalse _=>none
       | _=>none
      | _=>none
     | isFalse _=>none
    | _=>none
   | _=>none
  | _=>none
 | .agg cs=>match E.eq t with
  | some e=>match ag e.k with
   | true=>match kM 0 [] e.k cs with
    | some a=>match y with
     | .agg ds=>match kM 0 [] e.k ds with
      | some b=>aJ8 op (@decide (a=b) (e.dec a b)) K
      | none=>none
     | _=>none
    | none=>none
   | false=>none
  | none=>none
 | _=>none
def okA(w:Nat): List Sh->Bool
 | []=>true
 | s::r=>match s with
  | .w _=>okA w r
  | .v _=>match w with
   | 0=>okA w r
   | _=>false
  | _=>false
def Vg(w:Nat)(c:CSp)(vs:List TV)(H:TH)(K:TV->Option R): Option R:=match Fy w H c.ka vs with
 | some p=>match okA w c.ka with
  | false=>none
  | true=>bnd (c.F n p) λr=>aJ9 (Og (c.kr.map .v) r) λvs=>match vs with
   | [v]=>K v
   | vs=>K (.tup vs)
 | none=>none
def i64?(v:TV): Option Int:=match v with
 | .lit u=>match u with
  | .int k n=>match k with
   | .i64=>some n
   | _=>none
  | _=>none
 | _=>none
def aOV(vs:List TV): Option (Int×Int):=match vs with
 | [x,y]=>match i64? x with
  | some a=>match i64? y with
   | some b=>some (a,b)
   | none=>none
  | none=>none
 | _=>none
def aKI(H:TH)(kk:Nat): TV->Option (Σ vk,List (den kk×den vk))
 | .rmp a b m=>match b8 (a':=kk) (b':=b) m with
  | some m=>some ⟨b,m⟩
  | none=>none
 | .mp id=>match H[id]? with
  | some o=>match o with
   | .map a b m=>match b8 (a':=kk) (b':=b) m with
    | some m=>some ⟨b,m⟩
    | none=>none
   | _=>none
  | none=>none
 | _=>none
def aPc(H:TH): TV->Option Nat
 | .rmp _ _ m=>some m.length
 | .mp id=>match H[id]? with
  | some o=>match o with
   | .map _ _ m=>some m.length
   | _=>none
  | none=>none
 | _=>none
def aIb(v:TV): Option ByteArray:=match v with
 | .lit u=>match u with
  | .string s=>some s
  | _=>none
 | _=>none
def OE(tm:TT)(x:Option bA)(d:Int): Option Int:=match x with
 | none=>some d
 | some x=>i64? (bZ tm x)
def KH(tm:TT): Option bA->Bool
 | none=>true
 | some x=>match i64? (bZ tm x) with
  | some n=>match n with
   | .ofNat n=>match n with
    | 0=>true
    | _=>false
   | _=>false
  | none=>false
def sub{α:Type}(l:List α)(w:Nat×Nat)(a b:Int): Option (Nat×Nat):=if 0<=a/\a<=b/\w.1+b.toNat<=l.length then some (w.1+a.toNat,b.toNat-a.toNat) else none
def V6{α:Type}(l:List α)(w:Nat×Nat)(ys:List α): Option (List α):=if w.1+w.2+ys.length<=l.length/\l.length+ys.length<=1000000 then some (aV l (w.1+w.2) ys) else none
def aLX{α:Type}(l:List α)(w:Nat×Nat)(ys:List α): Option (List α):=if w.1=0/\w.2=l.length/\l.length+ys.length<=1000000 then some (l++ys) else V6 l w ys
def Fo{α:Type}(l:List α): Option (Nat×Nat)->Nat×Nat
 | none=>(0,l.length)
 | some w=>w
def cpy{α:Type}(l:List α)(w:Nat×Nat)(ys:List α): Option (List α):=if ys.length<=w.2/\w.1+ys.length<=l.length then some (aV l w.1 ys) else none
def clr{α:Type}(l:List α)(w:Nat×Nat)(z:α): Option (List α):=if w.1+w.2<=l.length then some (aV l w.1 (List.replicate w.2 z)) else none
def rep{α:Type}(x:α)(a b:Int): Option (List α):=if 0<=a/\a<=b/\b<=1000000 then some (List.replicate a.toNat x) else none
def aRh(s:Nat)(tm:TT)(H:TH)(lo hi:Option bA)(v:TV)(K:TV->Option R): Option R:=match v with
 | .sl k l=>match Nat.beq (cds k).length s with
  | true=>match OE tm lo 0 with
   | some a=>match OE tm hi ((l.length:Nat):Int) with
    | some b=>bnd (cut l a b) λl'=>K (.sl k l')
    | none=>none
   | none=>none
  | false=>none
 | .vw k l=>match Nat.beq (cds k).length s with
  | true=>match OE tm lo 0 with
   | some a=>match OE tm hi ((l.length:Nat):Int) with
    | some b=>bnd (cut l a b) λl'=>K (.vw k l')
    | none=>none
   | none=>none
  | false=>none
 | .ms id m=>match H[id]? with
  | some o=>match o with
   | .lst k l=>match Nat.beq (cds k).length s&&Nat.blt 0 s with
    | true=>match OE tm lo 0 with
     | some a=>match m with
      | none=>match OE tm hi ((l.length:Nat):Int) with
       | some b=>bnd (sub l (0,l.length) a b) λw=>K (.ms id (some w))
       | none=>none
      | some w=>match OE tm hi ((w.2:Nat):Int) with
       | some b=>bnd (sub l w a b) λw=>K (.ms id (some w))
       | none=>none
     | none=>none
    | false=>none
   | _=>none
  | none=>none
 | .emp b=>match KH tm lo&&KH tm hi with
  | true=>K (.emp b)
  | false=>none
 | .lit u=>match u with
  | .slice a l c=>match a with
   | none=>match l with
    | 0=>match c with
     | 0=>match KH tm lo&&KH tm hi with
      | true=>K (.lit u)
      | false=>none
     | _=>none
    | _=>none
   | _=>none
  | _=>none
 | _=>none
def aFl(H:TH)(id n i:Nat): Option (List TV):=match H[id]? with
 | some o=>match o with
  | .rows _ es=>match Nat.beq es.length n with
   | true=>es[i]?
   | false=>none
  | _=>none
 | none=>none
def aIP(k s:Nat)(n:Nat)(cs:List TV): Option (List (den k)):=QA [] k (sF s n cs)
def aJZ(nr:Nat)(tm:TT): TV:=match nr with
 | 1=>match dD 0 tm with
  | some v=>v
  | none=>.undef
 | m=>.tup ((List.range m).map λj=>match dD j tm with
  | some v=>v
  | none=>.undef)
def XW: Nat->List TV->TT
 | _,[]=>[]
 | i,v::vs=>(i,v)::XW (i+1) vs
def n5(kl:List Nat): Nat->TH->TH->Bool
 | _,[],_=>true
 | i,a::r,s=>match s with
  | []=>false
  | b::s=>match a with
   | .lst _ _=>match b with
    | .lst _ _=>n5 kl (i+1) r s
    | _=>match FN i kl with
     | true=>n5 kl (i+1) r s
     | false=>false
   | _=>n5 kl (i+1) r s
def aI2: TH->TH->Bool
 | [],_=>true
 | o::r,H=>match H with
  | []=>false
  | b::s=>match o with
   | .lst _ l=>match b with
    | .lst _ l'=>Nat.beq l'.length l.length&&aI2 r s
    | _=>false
   | _=>aI2 r s
def Cu(fl vi:Nat)(vs:List TV)(S:TS)(K:TV->TS->Option R): List ISp->Option R
 | []=>none
 | sp::r=>match Nat.beq sp.vi vi with
  | false=>Cu fl vi vs S K r
  | true=>match Nat.beq sp.fl fl with
   | false=>Cu fl vi vs S K r
   | true=>match Nat.beq vs.length sp.na with
    | false=>Cu fl vi vs S K r
    | true=>match sp.s.ins.fit ⟨XW 0 vs,S.hp⟩ with
     | some (p,q)=>match n5 (sp.kl++sp.s.ins.fo) 0 S.hp (sp.s.ins.mk' p q).hp with
      | true=>match FN 999999 sp.kl with
       | false=>swO p true sp.s.outs (sp.s.F n p q) λ_ S'=>K (aJZ sp.nr S'.tm) ⟨aDO sp.kl S.tm,rsO sp.kl S.hp.length S.hp sp.s.ins.fo S'.hp⟩
       | true=>match n5 sp.s.ins.fo 0 S.hp (sp.s.ins.mk' p q).hp with
        | true=>swO p true sp.s.outs (sp.s.F n p q) λ_ S'=>cnd (aI2 (sp.s.ins.mk' p q).hp S'.hp) (K (aJZ sp.nr S'.tm) ⟨S.tm,rsO [] S.hp.length S.hp sp.s.ins.fo S'.hp⟩) none
        | false=>Cu fl vi vs S K r
      | false=>Cu fl vi vs S K r
     | none=>Cu fl vi vs S K r
def aKY: TV->Bool
 | .ptr _ _=>true
 | .pel _ _ _=>true
 | .ms _ _=>true
 | .mp _=>true
 | .rs _ _=>true
 | .rel _ _ _ _=>true
 | _=>false
def aP0(vi:Nat)(vs:List TV)(S:TS)(K:TV->TS->Option R): Option R:=match vs.any aKY with
 | true=>Cu n S.hp.length vi (vs.map aQ5) S (λv _=>match v with
  | .lit u=>match u with
   | .slice _ _ _=>none
   | u=>K (.lit u) S
  | .sl k l=>K (.sl k l) S
  | _=>none) E.il
 | false=>none
def H8(v:TV)(S:TS)(K:TV->TS->Option R): Option R:=match v with
 | .sl k l=>K (.ms S.hp.length none) (Vl S (.lst k l))
 | .tup vs=>match vs with
  | v::r=>match v with
   | .sl k l=>match r.all λv=>match v with | .lit _=>true | _=>false with
    | true=>K (.tup (.ms S.hp.length none::r)) (Vl S (.lst k l))
    | false=>none
   | _=>none
  | []=>none
 | _=>none
def kdL(E:XE)(d o:Nat): Nat:=mW E (some (1000*(d+1)+o))
def uS(n:Nat)(cs:List TV): List (Nat×Nat)->List TV
 | []=>cs
 | (o,_)::r=>uS (n+1) (cs.set o (.ms n none)) r
def aFB: TV->Bool
 | .lit u=>match u with
  | .slice a l c=>match a with
   | none=>match l with
    | 0=>match c with
     | 0=>true
     | _=>false
    | _=>false
   | _=>false
  | _=>false
 | _=>false
def aJv(E:XE): Option Nat->Option (Nat×Nat)
 | some d=>match dD (1000*(d+1)+999) E.kd with
  | some _=>some (0,0)
  | none=>none
 | none=>none
def aF2(E:XE)(d:Nat): List (Nat×Nat)->Bool
 | []=>true
 | (o,s)::r=>match Nat.beq (cds (kdL E d o)).length s with
  | true=>aF2 E d r
  | false=>false
def aRn(c:CSp)(k:Nat)(H:TH)(x y:den k): Option Int:=Vg n 1 c [val k x,val k y] H i64?
def Hy(id:Nat)(S:TS): TS:=iK id (gR S id .gone)
def aRo(vi id k:Nat)(caps:List TV)(S:TS)(x y:den k): Option Int:=Cu n S.hp.length vi (val k x::val k y::caps.map (EB [id])) ⟨[],(Hy id S).hp⟩ (λv _=>i64? v) E.il
def aMG{α:Type}(F:α->α->Option Int)(m:Option (Nat×Nat))(l:List α)(K:List α->Option R): Option R:=match m with
 | none=>bnd (Nq (decide (l.length<=1000000))) λ_=>bnd (qB F l) K
 | some w=>bnd (Nq (decide (l.length<=1000000/\w.1+w.2<=l.length))) λ_=>bnd (qB F (win l (some w))) λl'=>K (aV l w.1 l')
def aLg{α:Type}(l:List α)(j:Int)(y:α): Option (List α):=if 0<=j/\j.toNat<=l.length/\l.length<=1000000 then some (l.take j.toNat++y::l.drop j.toNat) else none
def aKK(fl:Nat)(H:TH)(k:Nat)(v:TV): Option (Nat×List (den k)):=match v with
 | .ms id m=>match m with
  | some _=>none
  | none=>match Nat.ble fl id with
   | false=>none
   | true=>match H[id]? with
    | some o=>match o with
     | .lst k' l=>match EM (λk=>List (den k)) (k':=k) l with
      | some l=>some (id,l)
      | none=>none
     | _=>none
    | none=>none
 | _=>none
def aQ1(H:TH)(k id:Nat)(v:TV): Option (den k):=match v with
 | .ms _ _=>match aKK 0 H k v with
  | some q=>match Nat.beq id q.1 with
   | true=>none
   | false=>match q.2 with
    | [z]=>some z
    | _=>none
  | none=>none
 | _=>none
def aTS(d k:Nat)(vs:List TV)(S:TS)(K:TV->TS->Option R): Option R:=match vs with
 | [x]=>match rdX [] k x with
  | some l=>bnd (prd d) λ_=>cnd l.isEmpty (K (.emp false) S) (bnd (app [] l) λl'=>K (.ms S.hp.length none) (Vl S (.lst k l')))
  | none=>none
 | _=>none
def aKd(p:PSp)(vs:List TV)(S:TS)(K:TV->TS->Option R): Option R:=match p with
 | .srt k=>match vs with
  | [x,f]=>match x with
   | .ms id m=>match Nat.ble E.fl id with
    | false=>none
    | true=>match S.hp[id]? with
     | some o=>match o with
      | .lst k' l=>match EM (λk=>List (den k)) (k':=k) l with
       | some l=>match f with
        | .fn vc caps=>match caps with
         | []=>match E.cs vc with
          | some c=>aMG (aRn n c k (Hy id S).hp) m l λl'=>K (.tup []) (gR S id (.lst k l'))
          | none=>none
         | c::r=>aMG (aRo E n vc id k (c::r) S) m l λl'=>K (.tup []) (gR S id (.lst k l'))
        | _=>none
       | none=>none
      | _=>none
     | none=>none
   | _=>none
  | _=>none
 | .ord k F=>match vs with
  | [x]=>match aKK E.fl S.hp k x with
   | some p=>bnd (Nq (decide (p.2.length<=1000000))) λ_=>K (.tup []) (gR S p.1 (.lst k (F p.2)))
   | none=>none
  | _=>none
 | .ins k=>match vs with
  | [x,i,y]=>match aKK E.fl S.hp k x with
   | some p=>match i64? i with
    | some j=>match aQ1 S.hp k p.1 y with
     | some z=>bnd (aLg p.2 j z) λl'=>K (.ms p.1 none) (iK p.1 (gR S p.1 (.lst k l')))
     | none=>none
    | none=>none
   | none=>none
  | _=>none
 | .cln _=>none
def cM(d:Option Nat)(op:Ju)(S:TS)(K:TV->TS->Option R): Option R:=
 match op with
 | .mov x=>K (bZ S.tm x) S
 | .movN x=>K (aQ5 (bZ S.tm x)) S
 | .pick c a b=>match bZ S.tm c with
  | .lit u=>match u with
   | .bool t=>cnd t (K (bZ S.tm a) S) (K (bZ S.tm b) S)
   | _=>none
  | _=>none
 | .alloc z=>K (.ptr S.hp.length 0) (Vl S (.box (z.map .lit)))
 | .claim s=>match Nat.beq (cds (mW E d)).length s with
  | true=>K (.ms S.hp.length (aJv E d)) (Vl S (.lst (mW E d) []))
  | false=>none
 | .boxC x cl=>match d with
  | some d=>match aF2 E d cl with
   | true=>match UU (bZ S.tm x) with
    | some cs=>match cl.all λc=>match cs[c.1]? with | some v=>aFB v | none=>false with
     | true=>K (.ptr (S.hp.length+cl.length) 0) ⟨S.tm,(S.hp++cl.map λc=>.lst (kdL E d c.1) [])++[.box (uS S.hp.length cs cl)]⟩
     | false=>none
    | none=>none
   | false=>none
  | none=>none
 | .box x=>match UU (bZ S.tm x) with
  | some cs=>K (.ptr S.hp.length 0) (Vl S (.box cs))
  | none=>none
 | .build z ps=>match aH0 (z.map .lit) (ps.map λ(o,s,x)=>(o,s,bZ S.tm x)) with
  | some cs=>K (.agg cs) S
  | none=>none
 | .buildSl pu s m z ps=>match aH1 s (List.replicate m (z.map .lit)) (ps.map λ(i,x)=>(i,bZ S.tm x)) with
  | some es=>match aVA E d with
   | none=>match pu with
    | true=>none
    | false=>K (.rs S.hp.length m) (Vl S (.rows s es))
   | some _=>match QA S.hp (mW E d) es with
    | some l=>match Nat.beq (cds (mW E d)).length s with
     | true=>match pu with
      | true=>match es with
       | []=>K (.emp true) S
       | _=>K (.sl (mW E d) l) S
      | false=>K (.ms S.hp.length none) (Vl S (.lst (mW E d) l))
     | false=>none
    | none=>none
  | none=>none
 | .allocC z cl=>match d with
  | some d=>match aF2 E d cl with
   | true=>K (.ptr (S.hp.length+cl.length) 0) ⟨S.tm,(S.hp++cl.map λc=>.lst (kdL E d c.1) [])++[.box (uS S.hp.length (z.map .lit) cl)]⟩
   | false=>none
  | none=>none
 | .load agg n x=>match bZ S.tm x with
  | .rel id m i off=>match aFl S.hp id m i with
   | some cs=>EA cs agg off n λv=>K v S
   | none=>none
  | .ptr id off=>match S.hp[id]? with
   | some o=>match o with
    | .box cs=>EA cs agg off n λv=>K v S
    | _=>none
   | none=>none
  | .rptr cs=>EA cs agg 0 n λv=>K v S
  | .sptr k x=>EA (kI k x) agg 0 n λv=>K v S
  | .pel id i off=>match S.hp[id]? with
   | some o=>match o with
    | .lst k l=>bnd (idx l i) λx=>EA (kI k x) agg off n λv=>K v S
    | _=>none
   | none=>none
  | _=>none
 | .store n x v=>match UU (bZ S.tm v) with
  | some cs=>match Nat.beq cs.length n with
   | true=>match bZ S.tm x with
    | .ptr id off=>match Nat.ble E.fl id with
     | false=>none
     | true=>match S.hp[id]? with
      | some o=>match o with
       | .box bs=>match Nat.ble (off+cs.length) bs.length with
        | true=>K (.lit bM) (gR S id (.box (aV bs off cs)))
        | false=>none
       | _=>none
      | none=>none
    | .pel id i off=>match Nat.ble E.fl id with
     | false=>none
     | true=>match S.hp[id]? with
      | some o=>match o with
       | .lst k l=>bnd (idx l i) λx=>match Nat.ble (off+cs.length) (cds k).length with
        | true=>match kM 0 [] k (aV (kI k x) off cs) with
         | some x'=>K (.lit bM) (gR S id (.lst k (l.set i.toNat x')))
         | none=>none
        | false=>none
       | _=>none
      | none=>none
    | _=>none
   | false=>none
  | none=>none
 | .nilCheck x=>match bZ S.tm x with
  | .ptr id off=>K (.ptr id off) S
  | .pel id i off=>K (.pel id i off) S
  | .rptr cs=>K (.rptr cs) S
  | .sptr k x=>K (.sptr k x) S
  | .fn vi caps=>K (.fn vi caps) S
  | _=>none
 | .ibin op x y=>match bZ S.tm x with
  | .lit u=>match u with
   | .int k a=>match bZ S.tm y with
    | .lit w=>match w with
     | .int k' b=>match decEq k k' with
      | isTrue _=>aTt op k a b λv=>K v S
      | isFalse _=>none
     | _=>none
    | _=>none
   | _=>none
  | _=>none
 | .bin op t x y=>aRx E op t (bZ S.tm x) (bZ S.tm y) λv=>K v S
 | .un op x=>match op with
  | .neg=>match bZ S.tm x with
   | .lit u=>match u with
    | .int k a=>K (.lit (.int k (k.wrap (0-a)))) S
    | _=>none
   | _=>none
  | .not=>match bZ S.tm x with
   | .lit u=>match u with
    | .bool b=>K (.lit (.bool (!b))) S
    | _=>none
   | _=>none
  | _=>none
 | .fieldAddr off x=>match bZ S.tm x with
  | .ptr id o=>K (.ptr id (o+off)) S
  | .pel id i o=>K (.pel id i (o+off)) S
  | .rptr cs=>K (.rptr (cs.drop off)) S
  | .sptr k x=>K (.rptr ((kI k x).drop off)) S
  | .rel id m i o=>K (.rel id m i (o+off)) S
  | _=>none
 | .field agg n off x=>match bZ S.tm x with
  | .agg cs=>EA cs agg off n λv=>K v S
  | _=>none
 | .idxAddr s x i=>match aHq (bZ S.tm i) with
  | some i=>match bZ S.tm x with
   | .sl k l=>match Nat.beq (cds k).length s with
    | true=>bnd (idx l i) λx=>K (.rptr (kI k x)) S
    | false=>none
   | .vw k l=>match Nat.beq (cds k).length s with
    | true=>bnd (idx l i) λx=>K (.rptr (kI k x)) S
    | false=>none
   | .ms id m=>match S.hp[id]? with
    | some o=>match o with
     | .lst k l=>match Nat.beq (cds k).length s with
      | true=>match m with
       | none=>bnd (iL l l.length i) λx=>K (.pel id i 0) S
       | some w=>bnd (idx (win l (some w)) i) λx=>K (.pel id (i+((w.1:Nat):Int)) 0) S
      | false=>none
     | _=>none
    | none=>none
   | .rs id m=>match i with
    | .ofNat j=>match S.hp[id]? with
     | some o=>match o with
      | .rows s' es=>match Nat.beq s' s&&(Nat.beq es.length m&&Nat.blt j m) with
       | true=>K (.rel id m j 0) S
       | false=>none
      | _=>none
     | none=>none
    | _=>none
   | _=>none
  | none=>none
 | .index agg s m x i=>match bZ S.tm x with
  | .agg cs=>match Nat.beq cs.length (m*s) with
   | false=>none
   | true=>match aHq (bZ S.tm i) with
    | none=>none
    | some i=>match d with
     | none=>none
     | some d'=>match dD d' E.kd with
      | none=>match i with
       | .ofNat j=>match Nat.blt j m with
        | true=>EA cs agg (j*s) s λv=>K v S
        | false=>none
       | _=>none
      | some k=>match agg with
       | true=>match Nat.beq (cds k).length s with
        | true=>match aIP k s m cs with
         | some l=>bnd (idx l i) λx=>K (.agg (kI k x)) S
         | none=>none
        | false=>none
       | false=>none
  | _=>none
 | .mkMap=>match cds (mW E d) with
  | [c]=>match c with
   | .mp kk vk=>K (.mp S.hp.length) (Vl S (.map kk vk []))
   | _=>none
  | _=>none
 | .lookup kt z m k ok=>match E.km kt with
  | some ks=>match x8 0 [] ks.k (bZ S.tm k) with
   | some kx=>match aKI S.hp ks.k (bZ S.tm m) with
    | some p=>match x8 0 [] p.1 (bZ S.tm z) with
     | some z'=>match ok with
      | true=>Ol (.lit (.bool (@bQ _ _ ks.dec p.2 kx).isSome)) λb=>Ol (val p.1 ((@bQ _ _ ks.dec p.2 kx).getD z')) λv=>K (.tup [v,b]) S
      | false=>Ol (val p.1 ((@bQ _ _ ks.dec p.2 kx).getD z')) λv=>K v S
     | none=>none
    | none=>none
   | none=>none
  | none=>none
 | .mapUpd kt m k v=>match E.km kt with
  | some ks=>match x8 0 [] ks.k (bZ S.tm k) with
   | some kx=>match bZ S.tm m with
    | .mp id=>match Nat.ble E.fl id with
     | false=>none
     | true=>match aKI S.hp ks.k (.mp id) with
      | some p=>match x8 0 [] p.1 (bZ S.tm v) with
       | some v'=>K (.lit bM) (gR S id (.map ks.k p.1 (@dX _ _ ks.dec p.2 kx v')))
       | none=>none
      | none=>none
    | _=>none
   | none=>none
  | none=>none
 | .lenM x=>match aPc S.hp (bZ S.tm x) with
  | some n=>K (.lit (.int .i64 ((n:Nat):Int))) S
  | none=>none
 | .lenStr t x=>match E.st t with
  | true=>match aIb (bZ S.tm x) with
   | some s=>K (.lit (.int .i64 ((s.size:Nat):Int))) S
   | none=>none
  | false=>none
 | .strIdx t x i=>match E.st t with
  | true=>match aIb (bZ S.tm x) with
   | some s=>match i64? (bZ S.tm i) with
    | some j=>bnd (sat s j) λv=>K (.lit (.int .u8 v)) S
    | none=>none
   | none=>none
  | false=>none
 | .strSlice _ x lo hi=>match aIb (bZ S.tm x) with
  | some s=>match OE S.tm lo 0 with
   | some a=>match OE S.tm hi ((s.size:Nat):Int) with
    | some b=>bnd (aTO s a b) λr=>K (.lit (.string r)) S
    | none=>none
   | none=>none
  | none=>none
 | .rangeStr x=>match aIb (bZ S.tm x) with
  | some s=>K (.it S.hp.length) (Vl S (.it s 0))
  | none=>none
 | .nextStr x=>match bZ S.tm x with
  | .it id=>match Nat.ble E.fl id with
   | false=>none
   | true=>match S.hp[id]? with
    | some o=>match o with
     | .it s p=>cnd (decide (p<s.size)) (K (.tup [.lit (.bool true),.lit (.int .i64 ((p:Nat):Int)),.lit (.int .i32 (((Utf8.decode s p).1:Nat):Int))]) (gR S id (.it s (p+(Utf8.decode s p).2)))) (K (.tup [.lit (.bool false)]) S)
     | _=>none
    | none=>none
  | _=>none
 | .conv src dst x=>match E.cv src dst with
  | some k'=>match bZ S.tm x with
   | .lit u=>match u with
    | .int k a=>K (.lit (.int k' (k'.wrap a))) S
    | _=>none
   | _=>none
  | none=>none
 | .slice s x lo hi mx=>match mx with
  | none=>aRh s S.tm S.hp lo hi (bZ S.tm x) λv=>K v S
  | some m=>match hi with
   | none=>none
   | some h=>match bZ S.tm x with
    | .ms id w=>match S.hp[id]? with
     | some o=>match o with
      | .lst k l=>match OE S.tm lo 0 with
       | some a=>match i64? (bZ S.tm h) with
        | some b=>match i64? (bZ S.tm m) with
         | some c=>bnd (Nq (decide (0<=a/\a<=b/\b<=c/\c<=(((Fo l w).2:Nat):Int)))) λ_=>K .undef S
         | none=>none
        | none=>none
       | none=>none
      | _=>none
     | none=>none
    | .sl k _=>match KH S.tm lo&&(KH S.tm (some h)&&KH S.tm (some m)) with
     | true=>match Nat.beq (cds k).length s with
      | true=>K (.emp true) S
      | false=>none
     | false=>none
    | _=>none
 | .lenS x=>match aQH S.hp (bZ S.tm x) with
  | some n=>K (.lit (.int .i64 ((n:Nat):Int))) S
  | none=>none
 | .append s bytes x y=>match bZ S.tm x with
  | .ms id m=>match S.hp[id]? with
   | some o=>match o with
    | .lst k l=>match rdX S.hp k (bZ S.tm y) with
     | some ys=>match Nat.beq (cds k).length s&&(Nat.blt 0 s&&Nat.ble E.fl id) with
      | true=>match Nat.ble bytes 100000 with
       | true=>match m with
        | none=>bnd (app l ys) λl'=>K (.ms id none) (iK id (gR S id (.lst k l')))
        | some w=>match aJv E d with
         | none=>bnd (V6 l w ys) λl'=>K (.ms id (some (w.1,w.2+ys.length))) (gR S id (.lst k l'))
         | some _=>bnd (aLX l w ys) λl'=>K (.ms id (some (w.1,w.2+ys.length))) (iK id (gR S id (.lst k l')))
       | false=>none
      | false=>none
     | none=>none
    | _=>none
   | none=>none
  | v=>match VS v with
   | true=>match Nat.beq (cds (mW E d)).length s&&Nat.blt 0 s with
    | true=>match rdX S.hp (mW E d) (bZ S.tm y) with
     | some ys=>match Nat.ble bytes 100000 with
      | true=>cnd (List.isEmpty ys) (K v S) (bnd (app [] ys) λl'=>K (.ms S.hp.length none) (Vl S (.lst (mW E d) l')))
      | false=>none
     | none=>none
    | false=>none
   | false=>none
 | .mkSlice s z bytes len cap=>match Nat.beq (cds (mW E d)).length s&&(Nat.beq z.length s&&Nat.ble bytes 100000) with
  | true=>match kM 0 [] (mW E d) (z.map .lit) with
   | some x=>match i64? (bZ S.tm len) with
    | some a=>match i64? (bZ S.tm cap) with
     | some b=>bnd (rep x a b) λl=>K (.ms S.hp.length none) (Vl S (.lst (mW E d) l))
     | none=>none
    | none=>none
   | none=>none
  | false=>none
 | .copy s x y=>match bZ S.tm x with
  | .ms id m=>match S.hp[id]? with
   | some o=>match o with
    | .lst k l=>match rdX S.hp k (bZ S.tm y) with
     | some ys=>match Nat.beq (cds k).length s&&(Nat.blt 0 s&&Nat.ble E.fl id) with
      | true=>bnd (cpy l (Fo l m) ys) λl'=>K (.lit (.int .i64 ((ys.length:Nat):Int))) (gR S id (.lst k l'))
      | false=>none
     | none=>none
    | _=>none
   | none=>none
  | _=>none
 | .clear s z x=>match bZ S.tm x with
  | .ms id m=>match S.hp[id]? with
   | some o=>match o with
    | .lst k l=>match kM 0 [] k (z.map .lit) with
     | some z'=>match Nat.beq (cds k).length s&&(Nat.blt 0 s&&(Nat.ble E.fl id&&Nat.beq z.length s)) with
      | true=>bnd (clr l (Fo l m) z') λl'=>K (.tup []) (gR S id (.lst k l'))
      | false=>none
     | none=>none
    | _=>none
   | none=>none
  | v=>match VS v with
   | true=>K (.tup []) S
   | false=>none
 | .capS x=>match VS (bZ S.tm x) with
  | true=>K (.lit (.int .i64 0)) S
  | false=>none
 | .appendZ s bytes z x m=>match VS (bZ S.tm x) with
  | true=>match Nat.beq (cds (mW E d)).length s&&(Nat.blt 0 s&&(Nat.beq z.length s&&Nat.ble bytes 100000)) with
   | true=>match kM 0 [] (mW E d) (z.map .lit) with
    | some z'=>match i64? (bZ S.tm m) with
     | some a=>bnd (rep z' a a) λl=>cnd l.isEmpty (K (bZ S.tm x) S) (K (.ms S.hp.length none) (Vl S (.lst (mW E d) l)))
     | none=>none
    | none=>none
   | false=>none
  | false=>match bZ S.tm x with
   | .ms id w=>match w with
    | none=>match S.hp[id]? with
     | some o=>match o with
      | .lst k l=>match Nat.beq (cds k).length s&&(Nat.blt 0 s&&(Nat.ble E.fl id&&(Nat.beq z.length s&&Nat.ble bytes 100000))) with
       | true=>match kM 0 [] k (z.map .lit) with
        | some z'=>match i64? (bZ S.tm m) with
         | some a=>bnd (rep z' a a) λy=>bnd (app l y) λv=>K (.ms id none) (iK id (gR S id (.lst k v)))
         | none=>none
        | none=>none
       | false=>none
      | _=>none
     | none=>none
    | some _=>none
   | _=>none
 | .loadF m k x=>match bZ S.tm x with
  | .ptr id off=>match off with
   | 0=>match S.hp[id]? with
    | some o=>match o with
     | .box cs=>match Nat.beq cs.length m with
      | true=>match cs[k]? with
       | some v=>match v with
        | .ms j w=>match Nat.ble E.fl j with
         | true=>match S.hp[j]? with
          | some o=>match o with
           | .lst kk l=>K (.agg ((cs.map (EB [j])).set k (.sl kk (win l w)))) (Hy j S)
           | _=>none
          | none=>none
         | false=>none
        | .emp _=>K (.agg cs) S
        | .lit _=>K (.agg cs) S
        | _=>none
       | none=>none
      | false=>none
     | _=>none
    | none=>none
   | _=>none
  | _=>none
 | .extract x i=>match bZ S.tm x with
  | .tup vs=>match vs[i]? with
   | some v=>K v S
   | none=>none
  | _=>none
 | .call pu vi args=>match pu with
  | true=>match E.cs vi with
   | some c=>Vg n 0 c (args.map (bZ S.tm)) [] λv=>K v S
   | none=>none
  | false=>match E.pr vi with
   | some p=>bnd (prd n) λm=>aKd E m p (args.map (bZ S.tm)) S K
   | none=>match Nat.ble E.fl S.hp.length with
    | true=>Cu n E.fl vi (args.map (bZ S.tm)) S K E.il
    | false=>none
 | .callv pu x args=>match bZ S.tm x with
  | .fn vi caps=>match pu with
   | true=>match caps with
    | []=>match E.cs vi with
     | some c=>Vg n 0 c (args.map (bZ S.tm)) [] λv=>K v S
     | none=>none
    | c::r=>aP0 E n vi (args.map (bZ S.tm)++c::r) S K
   | false=>match Nat.ble E.fl S.hp.length with
    | true=>Cu n E.fl vi (args.map (bZ S.tm)++caps) S K E.il
    | false=>none
  | _=>none
 | .callT s vi args=>match E.cs vi with
  | some c=>match c.kp with
   | true=>match c.kr with
    | k::_=>match cds k with
     | [e]=>match e with
      | .sl k'=>match Nat.beq (cds k').length s&&!(ag k) with
       | true=>Vg n 1 c (args.map (bZ S.tm)) S.hp λv=>H8 v S K
       | false=>none
      | _=>none
     | _=>none
    | []=>none
   | false=>none
  | none=>none
 | .mkFn vi caps=>K (.fn vi (caps.map (bZ S.tm))) S
 | .lenC n=>K (.lit (.int .i64 n)) S
 | .callF vi args=>match E.pr vi with
  | some p=>match p with
   | .cln k=>aTS n k (args.map (bZ S.tm)) S K
   | _=>none
  | none=>Cu n S.hp.length vi (args.map (bZ S.tm)) S K E.il
 | .callB vi args=>match E.cs vi with
  | some c=>Vg n 1 c (args.map (bZ S.tm)) S.hp λv=>K v S
  | none=>none
 | .minmax mx xs=>match aOV (xs.map (bZ S.tm)) with
  | some p=>match mx with
   | true=>K (.lit (.int .i64 (uF p.1 p.2))) S
   | false=>K (.lit (.int .i64 (Gc p.1 p.2))) S
  | none=>none
 | _=>none
def aNd(N:Nat)(d:Option Nat)(v:TV)(S:TS)(K:TS->Option R): Option R:=match d with
 | some d=>match Nat.blt d N with
  | true=>K ⟨(d,v)::S.tm,S.hp⟩
  | false=>none
 | none=>K S
def aDf(t:Nat)(b:Bool)(S:TS): TS:=⟨(t,.lit (.bool b))::S.tm,S.hp⟩
def aLy(o:bS)(S:TS)(K:TS->Option R): Option R:=cM E n o.dst o.op S λv S=>aNd E.nt o.dst v S K
def aEo(o:bS)(S:TS)(K:TS->Option R): Option R:=aNd E.nt o.dst (.lit bM) S K
def aCl(o:bS)(S:TS)(K:TS->Option R): Option R:=match o.guard with
 | none=>aLy E n o S K
 | some g=>match dD g.1 S.tm with
  | some v=>match v with
   | .lit u=>match u with
    | .bool b=>match g.2 with
     | true=>cnd b (aLy E n o (aDf g.1 true S) K) (aEo E o (aDf g.1 false S) K)
     | false=>cnd b (aEo E o (aDf g.1 true S) K) (aLy E n o (aDf g.1 false S) K)
    | .tuple _=>aEo E o S K
    | _=>none
   | _=>none
  | none=>none
def aLx: List bS->TS->(TS->Option R)->Option R
 | [],S,K=>K S
 | o::r,S,K=>aCl E n o S λS=>aLx r S K
def nLp: bT->Nat
 | .seq a b=>nLp a+nLp b
 | .cond _ a b=>nLp a+nLp b
 | .block _ c=>nLp c
 | .loop _ _ c=>nLp c
 | .mask _ _ _ c=>1+nLp c
 | .told _ _ _ c=>1+nLp c
 | .scope c=>nLp c
 | .frz _ c=>nLp c
 | _=>0
def aIu: TV->Option (Option Nat)
 | .undef=>none
 | .tup _=>none
 | .agg _=>none
 | .fn _ _=>none
 | .ptr id _=>some (some id)
 | .pel id _ _=>some (some id)
 | .ms id _=>some (some id)
 | .mp id=>some (some id)
 | .rs id _=>some (some id)
 | .rel id _ _ _=>some (some id)
 | _=>some none
def aQu: TV->Bool
 | .lit _=>true
 | .emp _=>true
 | .sl _ _=>true
 | .rptr _=>true
 | .sptr _ _=>true
 | .rmp _ _ _=>true
 | _=>false
def aNg: List TV->Bool
 | []=>true
 | x::r=>match aQu x with
  | true=>aNg r
  | false=>false
def aSV: TV->Bool
 | .agg cs=>aNg cs
 | v=>aQu v
def aNh: List TV->Bool
 | []=>true
 | x::r=>match aSV x with
  | true=>aNh r
  | false=>false
def aCY(op:Ju)(tm:TT): Option (Option Nat):=match op with
 | .load _ _ x=>aIu (bZ tm x)
 | .idxAddr _ x _=>aIu (bZ tm x)
 | .slice _ x _ _ _=>aIu (bZ tm x)
 | .lookup _ _ m _ _=>aIu (bZ tm m)
 | .lenM x=>aIu (bZ tm x)
 | .call pu _ args=>match pu with
  | true=>match aNh (args.map (bZ tm)) with
   | true=>some none
   | false=>none
  | false=>none
 | .callB _ args=>match args with
  | [x]=>match bZ tm x with
   | .sl _ _=>some none
   | .vw _ _=>some none
   | _=>none
  | _=>none
 | _=>none
def I0(op:Ju)(tm:TT)(n id:Nat): Bool:=match op with
 | .alloc _=>Nat.blt id n
 | .claim _=>Nat.blt id n
 | .allocC _ _=>Nat.blt id n
 | .box _=>Nat.blt id n
 | .boxC _ _=>Nat.blt id n
 | .buildSl _ _ _ _ _=>Nat.blt id n
 | .mkMap=>Nat.blt id n
 | .callT _ _ _=>Nat.blt id n
 | .store _ x _=>match bZ tm x with
  | .ptr i _=>!Nat.beq i id
  | .pel i _ _=>!Nat.beq i id
  | _=>false
 | .append _ _ x _=>match bZ tm x with
  | .ms i _=>!Nat.beq i id
  | .emp _=>Nat.blt id n
  | .lit _=>Nat.blt id n
  | _=>false
 | .mapUpd _ m _ _=>match bZ tm m with
  | .mp i=>!Nat.beq i id
  | _=>false
 | _=>false
def aGr(tm:TT): Option (Nat×Bool)->Option Bool
 | none=>some true
 | some g=>match dD g.1 tm with
  | some v=>match v with
   | .lit u=>match u with
    | .bool b=>some (b==g.2)
    | .tuple _=>some false
    | _=>none
   | _=>none
  | none=>none
def ck1(ops:List bS)(l:List TS)(k m:Nat): Bool:=match ops[k]? with
 | some ok=>match l[k]? with
  | some sk=>match aGr sk.tm ok.guard with
   | some false=>true
   | _=>match aCY ok.op sk.tm with
    | none=>false
    | some o=>match o with
     | none=>true
     | some id=>match ops[m]? with
      | some om=>match l[m]? with
       | some sm=>match aGr sm.tm om.guard with
        | some false=>true
        | _=>I0 om.op sm.tm sm.hp.length id
       | none=>false
      | none=>false
  | none=>false
 | none=>false
def ckL(ops:List bS)(l:List TS): List (Nat×Nat)->Bool
 | []=>true
 | p::r=>match ck1 ops l p.1 p.2 with
  | true=>ckL ops l r
  | false=>false
def K4: List bS->TS->List TS->(List TS->TS->Option R)->Option R
 | [],S,l,K=>K (S::l).reverse S
 | o::r,S,l,K=>aCl E n o S λS'=>K4 r S' (S::l) K
def aLw(ck:List (Nat×Nat))(ops:List bS)(S:TS)(K:TS->Option R): Option R:=match ck with
 | []=>aLx E n ops S K
 | c::r=>K4 E n ops S [] λl S=>match ckL ops l (c::r) with
  | true=>K S
  | false=>none
def aHX(n:Nat)(b:Bool)(T0:TT)(S:TS)(K:cU->TS->Option R): List v9->Option R
 | []=>none
 | sp::r=>match sp.ins.fit S with
  | some (p,q)=>match n5 (sp.kl++sp.ins.fo) 0 S.hp (sp.ins.mk' p q).hp with
   | true=>swO p b sp.outs (sp.F n p q) λx S'=>K x (aft sp T0 S.hp x S')
   | false=>aHX n b T0 S K r
  | none=>aHX n b T0 S K r
def aM3(body:TS->(cU->TS->Option R)->Option R)(hd:TS->TS): Nat->TS->(cU->TS->Option R)->Option R
 | 0,_,_=>none
 | m+1,S,K=>body (hd S) λx S=>match x with
  | .normal=>aM3 body hd m S K
  | x=>K x S
def aQX(t:Nat)(k:Nat)(S:TS)(K:TS->Option R): Option R:=match dD t S.tm with
 | some v=>match v with
  | .ms id m=>match Nat.ble E.fl id with
   | false=>none
   | true=>match S.hp[id]? with
    | some o=>match o with
     | .lst k l=>K ⟨(t,.sl k (win l m))::(Hy id S).tm,(Hy id S).hp⟩
     | _=>none
    | none=>none
  | .ptr id off=>match off with
   | 0=>match Nat.ble E.fl id with
    | false=>none
    | true=>match S.hp[id]? with
     | some o=>match o with
      | .box cs=>match kM 0 [] k cs with
       | some x=>K ⟨(t,.sptr k x)::(Hy id S).tm,(Hy id S).hp⟩
       | none=>none
      | _=>none
     | none=>none
   | _=>none
  | .undef=>none
  | .pel _ _ _=>none
  | .rel _ _ _ _=>none
  | .rs _ _=>none
  | v=>K S
 | none=>none
def WK: bT->Nat->TS->(cU->TS->Option R)->Option R
 | .skip,_,S,K=>K .normal S
 | .region _ ck ops,_,S,K=>aLw E n ck ops S (K .normal)
 | .seq a b,i,S,K=>WK a i S λx S=>match x with
  | .normal=>WK b (i+nLp a) S K
  | x=>K x S
 | .cond c a b,i,S,K=>match c with
  | .tmp t=>match dD t S.tm with
   | some v=>match v with
    | .lit u=>match u with
     | .bool v=>cnd v (WK a i (aDf t true S) K) (WK b (i+nLp a) (aDf t false S) K)
     | _=>none
    | _=>none
   | none=>none
  | _=>none
 | .block id c,i,S,K=>WK c i S λx S=>match x with
  | .exit j=>match Nat.beq j id with
   | true=>K .normal S
   | false=>K (.exit j) S
  | x=>K x S
 | .exit id,_,S,K=>K (.exit id) S
 | .ret,_,S,K=>K .ret S
 | .mask lx lr tr c,i,S,K=>match Nat.ble E.fl S.hp.length with
  | false=>none
  | true=>match c with
   | .loop live tr' b=>match live with
    | none=>none
    | some live=>match dD i E.un with
     | some m=>bnd (Nq (Nat.ble m n)) λ_=>aM3 (λS K=>WK b (i+1) S K) (Pw live tr' S.hp.length) m S λx S'=>match x with
      | .normal=>none
      | .ret=>K .ret ⟨Dw lr S'.tm,S'.hp⟩
      | .exit j=>K (.exit j) (Pw lx tr S.hp.length S')
     | none=>match dD i E.ls with
      | some l=>aHX n false S.tm (Pw live tr' S.hp.length S) K l
      | none=>none
   | _=>none
 | .told li lx lr c,i,S,K=>match Nat.ble E.fl S.hp.length with
  | false=>none
  | true=>match dD i E.ls with
   | some l=>aHX n true S.tm ⟨Dw li S.tm,S.hp⟩ K l
   | none=>none
 | .scope c,i,S,K=>WK c i S K
 | .frz t c,i,S,K=>aQX E t (mW E (some (900+t))) S λS=>WK c i S K
 | _,_,_,_=>none
def aBz(S:TS): List aAh->Option (List TV)
 | []=>some []
 | r::rs=>match aBz S rs with
  | none=>none
  | some vs=>match r with
   | .tmp t=>some (bZ S.tm (.tmp t)::vs)
   | .cell t n agg=>match bZ S.tm (.tmp t) with
    | .ptr id off=>match S.hp[id]? with
     | some o=>match o with
      | .box cs=>match Nat.ble (off+n) cs.length with
       | true=>match agg with
        | true=>some (.agg ((cs.drop off).take n)::vs)
        | false=>match (cs.drop off).take n with
         | [c]=>some (c::vs)
         | _=>none
       | false=>none
      | _=>none
     | none=>none
    | _=>none
def VR(H:TH): List TV->Bool
 | []=>false
 | v::_=>match v with
  | .ms id m=>match H[id]? with
   | some o=>match o with
    | .lst _ l=>match m with
     | none=>true
     | some w=>decide (w=(0,l.length))
    | _=>false
   | none=>false
  | .lit u=>match u with
   | .slice a l c=>match a with
    | none=>match l with
     | 0=>match c with
      | 0=>true
      | _=>false
     | _=>false
    | some _=>false
   | _=>false
  | _=>false
def exF(F:cQ)(c:CSp)(p:fT c.ka): Option (fT (c.kr.map .v)):=WK E n F.body 0 ⟨XW 0 (Og c.ka p),[]⟩ λx S=>match x with
 | .exit _=>none
 | _=>match aBz S F.rets with
  | some vs=>match c.kp with
   | false=>Fy 2 S.hp (c.kr.map .v) vs
   | true=>bnd (Nq (VR S.hp vs)) λ_=>Fy 2 S.hp (c.kr.map .v) vs
  | none=>none
def exI(F:cQ)(S:TS)(K:TS->Option R): Option R:=WK E n F.body 0 S λx S=>match x with
 | .exit _=>none
 | _=>match aBz S F.rets with
  | some vs=>K ⟨XW 0 vs,S.hp⟩
  | none=>none
end
end
section
variable [dR]
def aG6: cU->cU->Bool
 | .normal,y=>match y with | .normal=>true | _=>false
 | .exit i,y=>match y with | .exit j=>Nat.beq i j | _=>false
 | .ret,y=>match y with | .ret=>true | _=>false
def ES{P:Type}(R:Type): List (Oc P)->Type
 | []=>Unit
 | o::r=>(List dK->o.lay.P->o.lay.V->Option R)×ES R r
def Aj{P R:Type}(n:Nat)(x:cU)(S:TS): (l:List (Oc P))->ES R l->Option R
 | [],_=>none
 | o::r,e=>match aG6 o.x x with
  | true=>match o.lay.getF n S with
   | some (f,p,q)=>e.1 f p q
   | none=>Aj n x S r e.2
  | false=>Aj n x S r e.2
def aMW{R:Type}(ins:Gs)(outs:List (Oc ins.P))(live:List Bool)(tr':Bool)(lx lr:List Bool)(tr:Bool)(n:Nat)(k:List dK->ins.P->ins.V->Option R)(e:ES R outs)(x:cU)(S:TS): Option R:=match x with
 | .normal=>match ins.getF n (Pw live tr' n S) with
  | some (f,p,q)=>k f p q
  | none=>none
 | .ret=>Aj n .ret ⟨Dw lr S.tm,S.hp⟩ outs e
 | .exit i=>Aj n (.exit i) (Pw lx tr n S) outs e
end
section
variable {α β:Type}
def bV(R:α->β->Prop): List α->List β->Prop
 | [],l=>match l with | []=>True | _::_=>False
 | a::r,l=>match l with | []=>False | b::s=>R a b/\bV R r s
variable {R:α->β->Prop}
theorem bV.len: ∀{l:List α} {m:List β},bV R l m->m.length=l.length
 | [],[],_=>rfl
 | _::_,_::_,h=>by simp[bV.len h.2]
theorem bV.at: ∀{l:List α} {m:List β},bV R l m->∀{j:Nat} {a:α} {b:β},l[j]?=some a->m[j]?=some b->R a b
 | _::_,_::_,h,0,_,_,c,d=>by
  simp only[Zt,Za] at c d;rw[<-c,<-d];exact h.1
 | _::_,_::_,h,j+1,_,_,c,d=>h.2.at (j:=j) (by simpa using c)<|by simpa using d
theorem bV.of: ∀{l:List α} {m:List β},m.length=l.length->(∀(j:Nat) (a:α) (b:β),l[j]?=some a->m[j]?=some b->R a b)->bV R l m
 | [],[],_,_=>trivial
 | [],_::_,h,_=>by cases h
 | _::_,[],h,_=>by cases h
 | _::_,_::_,h,k=>⟨k 0 _ _ rfl rfl,bV.of (by simpa using h) λj a b c d=>k (j+1) a b (by simpa using c)<|by simpa using d⟩
theorem bV.get{l:List α}{m:List β}(h:bV R l m){j:Nat}{a:α}(c:l[j]?=some a): ∃b,m[j]?=some b/\R a b:=by
 have:j<m.length:=by rw[h.len];exact (Ze.1 c).1
 exact⟨m[j],Zb this,h.at c<|Zb this⟩
theorem bV.drop{l:List α}{m:List β}(h:bV R l m)(n:Nat): bV R (l.drop n)<|m.drop n:=
 bV.of (by simp[h.len]) λj a b c d=>h.at (by simpa using c)<|by simpa using d
theorem bV.take{l:List α}{m:List β}(h:bV R l m)(n:Nat): bV R (l.take n)<|m.take n:=
 bV.of (by simp[h.len]) λj a b c d=>by
  simp only[Zs] at c d;split at c
  .rename_i e;rw[Zu e] at d;exact h.at c d
  .cases c
theorem bV.app: ∀{l:List α} {m:List β} {a b},bV R l m->bV R a b->bV R (l++a) (m++b)
 | [],[],_,_,_,h=>h
 | _::_,_::_,_,_,h,c=>⟨h.1,bV.app h.2 c⟩
theorem bV.spl{l c:List α}{m d:List β}{off:Nat}(h:bV R l m)(k:bV R c d): bV R (aV l off c)<|aV m off d:=by
 unfold aV;rw[<-k.len];exact (h.take off).app<|k.app<|h.drop _
theorem bV.set: ∀{l:List α} {m:List β},bV R l m->∀{a b} (i:Nat),R a b->bV R (l.set i a) (m.set i b)
 | [],[],_,_,_,_,_=>trivial
 | _::_,_::_,h,_,_,0,k=>⟨k,h.2⟩
 | _::_,_::_,h,_,_,i+1,k=>⟨h.1,h.2.set i k⟩
theorem bV.imp{c:α->β->Prop}(k:∀a b,R a b->c a b): ∀{l:List α} {m:List β},bV R l m->bV c l m
 | [],[],_=>trivial
 | _::_,_::_,h=>⟨k _ _ h.1,h.2.imp k⟩
theorem bV.map{γ δ:Type}{c:γ->δ->Prop}{f:α->γ}{g:β->δ}(k:∀a b,R a b->c (f a) (g b)): ∀{l:List α} {m:List β},bV R l m->bV c (l.map f) (m.map g)
 | [],[],_=>trivial
 | _::_,_::_,h=>⟨k _ _ h.1,h.2.map k⟩
theorem bV.mapR{δ:Type}{c:α->δ->Prop}{g:β->δ}(k:∀a b,R a b->c a (g b)): ∀{l:List α} {m:List β},bV R l m->bV c l (m.map g)
 | [],[],_=>trivial
 | _::_,_::_,h=>⟨k _ _ h.1,h.2.mapR k⟩
theorem bV.mapL{γ:Type}{c:γ->β->Prop}{f:α->γ}(k:∀a b,R a b->c (f a) b): ∀{l:List α} {m:List β},bV R l m->bV c (l.map f) m
 | [],[],_=>trivial
 | _::_,_::_,h=>⟨k _ _ h.1,h.2.mapL k⟩
theorem bV.rep{a:α}{b:β}(h:R a b): ∀n,bV R (List.replicate n a)<|List.replicate n b
 | 0=>trivial
 | n+1=>⟨h,bV.rep h n⟩
end
section
variable [dR]
def vE(g:Bool)(r:List AV): AV:=match g with
 | true=>.agg r
 | false=>match r with
  | a::_=>a
  | []=>.undef
inductive Qp: TV->AV->Prop
 | undef (a):Qp .undef a
 | lit (v):Qp (.lit v) (.lit v)
 | emp (b a):(a=.lit bO\/a=.sl true []\/(b=false/\a=.sl false []))->Qp (.emp b) a
 | sl (k:Nat) (l:List (den k)) (a:AV) (es:List (List AV)):((a=.lit bO/\es=[])\/∃f,a=.sl f es)->es.length=l.length->(∀(i:Nat) (x:den k) (e:List AV),l[i]?=some x->es[i]?=some e->e.length=(kI k x).length)->
  (∀(i:Nat) (x:den k) (e:List AV) (j:Nat) (c:TV) (b:AV),l[i]?=some x->es[i]?=some e->(kI k x)[j]?=some c->e[j]?=some b->Qp c b)->Qp (.sl k l) a
 | vw (k:Nat) (l:List (den k)) (a:AV) (es:List (List AV)):((a=.lit bO/\es=[])\/(∃f,a=.sl f es)\/a=.vw es)->es.length=l.length->(∀(i:Nat) (x:den k) (e:List AV),l[i]?=some x->es[i]?=some e->e.length=(kI k x).length)->
  (∀(i:Nat) (x:den k) (e:List AV) (j:Nat) (c:TV) (b:AV),l[i]?=some x->es[i]?=some e->(kI k x)[j]?=some c->e[j]?=some b->Qp c b)->Qp (.vw k l) a
 | rptr (cs:List TV) (aw:List AV):aw.length=cs.length->(∀(j:Nat) (c:TV) (b:AV),cs[j]?=some c->aw[j]?=some b->Qp c b)->Qp (.rptr cs) (.rptr aw)
 | sptr (k:Nat) (x:den k) (aw:List AV):aw.length=(kI k x).length->(∀(j:Nat) (c:TV) (b:AV),(kI k x)[j]?=some c->aw[j]?=some b->Qp c b)->Qp (.sptr k x) (.sptr aw)
 | rmp (kk vk:Nat) (m:List (den kk×den vk)) (a:AV) (rows:List (List AV)):((a=.lit (.map none)/\m=[])\/a=.rmp ((m.map λp=>uE kk p.1).zip (rows.map (vE (ag vk)))))->rows.length=m.length->
  (∀(i:Nat) (p:den kk×den vk) (e:List AV),m[i]?=some p->rows[i]?=some e->e.length=(kI vk p.2).length)->
  (∀(i:Nat) (p:den kk×den vk) (e:List AV) (j:Nat) (c:TV) (b:AV),m[i]?=some p->rows[i]?=some e->(kI vk p.2)[j]?=some c->e[j]?=some b->Qp c b)->Qp (.rmp kk vk m) a
abbrev Qr(cs:List TV)(aw:List AV): Prop:=bV Qp cs aw
abbrev Ql(k:Nat)(l:List (den k))(es:List (List AV)): Prop:=bV (λx e=>Qr (kI k x) e) l es
theorem Ql.of{k:Nat}{l:List<|den k}{es:List<|List AV}(f:es.length=l.length)(g:∀(i:Nat) (x:den k) (e:List AV),l[i]?=some x->es[i]?=some e->e.length=(kI k x).length)(m:∀(i:Nat) (x:den k) (e:List AV) (j:Nat) (c:TV) (b:AV),l[i]?=some x->es[i]?=some e->(kI k x)[j]?=some c->e[j]?=some b->Qp c b): Ql k l es:=
 bV.of f λi x e d he=>bV.of (g i x e d he) λj c b h n=>m i x e j c b d he h n
theorem Qp.mkS{k:Nat}{l:List<|den k}{a:AV}{es:List<|List AV}(h:(a=.lit bO/\es=[])\/∃f,a=.sl f es)(r:Ql k l es): Qp (.sl k l) a:=
 .sl k l a es h r.len (λi x e d he=>(r.at d he).len) λi x e j c b d he n m=>(r.at d he).at n m
theorem Qp.mkV{k:Nat}{l:List<|den k}{a:AV}{es:List<|List AV}(h:(a=.lit bO/\es=[])\/(∃f,a=.sl f es)\/a=.vw es)(r:Ql k l es): Qp (.vw k l) a:=
 .vw k l a es h r.len (λi x e d he=>(r.at d he).len) λi x e j c b d he n m=>(r.at d he).at n m
theorem Qp.mkR{cs:List TV}{aw:List AV}(h:Qr cs aw): Qp (.rptr cs)<|.rptr aw:=.rptr cs aw h.len λj c b a d=>h.at a d
theorem Qp.mkP{k:Nat}{x:den k}{aw:List AV}(h:Qr (kI k x) aw): Qp (.sptr k x)<|.sptr aw:=.sptr k x aw h.len λj c b a e=>h.at a e
theorem Qp.inS{k:Nat}{l:List<|den k}{a:AV}(h:Qp (.sl k l) a): ∃es,((a=.lit bO/\es=[])\/∃f,a=.sl f es)/\Ql k l es:=by
 cases h with
 | sl _ _ _ es d e b g=>exact⟨es,d,Ql.of e b g⟩
theorem Qp.inV{k:Nat}{l:List<|den k}{a:AV}(h:Qp (.vw k l) a): ∃es,((a=.lit bO/\es=[])\/(∃f,a=.sl f es)\/a=.vw es)/\Ql k l es:=by
 cases h with
 | vw _ _ _ es d e b g=>exact⟨es,d,Ql.of e b g⟩
theorem Qp.inR{cs:List TV}{a:AV}(h:Qp (.rptr cs) a): ∃aw,a=.rptr aw/\Qr cs aw:=by
 cases h with
 | rptr _ aw c d=>exact⟨aw,rfl,bV.of c d⟩
abbrev Qm{kk:Nat}(vk:Nat)(m:List (den kk×den vk))(rows:List (List AV)): Prop:=bV (λp e=>Qr (kI vk p.2) e) m rows
abbrev gB{kk:Nat}(vk:Nat)(m:List (den kk×den vk))(rows:List (List AV)): List (Value×AV):=(m.map λp=>uE kk p.1).zip (rows.map (vE (ag vk)))
theorem Qp.mkM{kk d:Nat}{m:List<|den kk×den d}{a:AV}{rows:List<|List AV}(h:(a=.lit (.map none)/\m=[])\/a=.rmp (gB d m rows))(r:Qm d m rows): Qp (.rmp kk d m) a:=
 .rmp kk d m a rows h r.len (λi x e f he=>(r.at f he).len) λi x e j c b f he l k=>(r.at f he).at l k
theorem Qp.inM{kk d:Nat}{m:List<|den kk×den d}{a:AV}(h:Qp (.rmp kk d m) a): ∃rows,((a=.lit (.map none)/\m=[])\/a=.rmp (gB d m rows))/\Qm d m rows:=by
 cases h with
 | rmp _ _ _ _ rows r l p k=>exact⟨rows,r,bV.of l λi x e g he=>bV.of (p i x e g he) λj c b o q=>k i x e j c b g he o q⟩
theorem Qp.inP{k:Nat}{x:den k}{a:AV}(h:Qp (.sptr k x) a): ∃aw,a=.sptr aw/\Qr (kI k x) aw:=by
 cases h with
 | sptr _ _ aw d e=>exact⟨aw,rfl,bV.of d e⟩
inductive Qh(H:TH): TV->AV->Prop
 | p (v a):Qp v a->Qh H v a
 | ms (id k l):H[id]?=some (.lst k l)->Qh H (.ms id none) (.ms id l.length 0 l.length)
 | msn (id w k l):H[id]?=some (.lst k l)->Qh H (.ms id (some w)) (.ms id l.length w.1 w.2)
 | ptr (id off):Qh H (.ptr id off) (.ptr id 1 0 off)
 | pel (id i off k l):H[id]?=some (.lst k l)->0<=i->i.toNat<l.length->Qh H (.pel id i off) (.ptr id l.length i.toNat off)
 | mp (id):Qh H (.mp id) (.mp id)
 | it (id):Qh H (.it id) (.it id)
 | fn (vi:Nat) (cs:List TV) (aw:List AV):aw.length=cs.length->(∀(j:Nat) (c:TV) (b:AV),cs[j]?=some c->aw[j]?=some b->Qh H c b)->Qh H (.fn vi cs) (.fn vi aw)
 | agg (cs:List TV) (aw:List AV):aw.length=cs.length->(∀(j:Nat) (c:TV) (b:AV),cs[j]?=some c->aw[j]?=some b->Qh H c b)->Qh H (.agg cs) (.agg aw)
 | tup (cs:List TV) (aw:List AV):aw.length=cs.length->(∀(j:Nat) (c:TV) (b:AV),cs[j]?=some c->aw[j]?=some b->Qh H c b)->Qh H (.tup cs) (.tup aw)
 | rs (id n):Qh H (.rs id n) (.ms id n 0 n)
 | rel (id n i off):Qh H (.rel id n i off) (.ptr id n i off)
variable {H H':TH}
theorem Qh.u(a:AV): Qh H .undef a:=.p _ _<|.undef a
theorem Qh.l(v:Value): Qh H (.lit v)<|.lit v:=.p _ _<|.lit v
theorem Qh.inL{v:Value}{a:AV}(h:Qh H (.lit v) a): a=.lit v:=by
 cases h with
 | p _ _ h=>cases h;rfl
theorem Qh.pu{v:TV}{a:AV}(h:Qh H v a)(b:match v with | .sl ..=>True | .vw ..=>True | .rptr ..=>True | .sptr ..=>True | .emp ..=>True | .rmp ..=>True | _=>False): Qp v a:=by
 cases h with
 | p _ _ h=>exact h
 | _=>exact b.elim
abbrev Qc(H:TH)(cs:List TV)(aw:List AV): Prop:=bV (Qh H) cs aw
theorem Qh.mkA{cs:List TV}{aw:List AV}(h:Qc H cs aw): Qh H (.agg cs)<|.agg aw:=.agg cs aw h.len λj c b a d=>h.at a d
theorem Qh.mkT{cs:List TV}{aw:List AV}(h:Qc H cs aw): Qh H (.tup cs)<|.tup aw:=.tup cs aw h.len λj c b a d=>h.at a d
theorem Qh.mkF{vi:Nat}{cs:List TV}{aw:List AV}(h:Qc H cs aw): Qh H (.fn vi cs)<|.fn vi aw:=.fn vi cs aw h.len λj c b a d=>h.at a d
theorem Qh.inA{cs:List TV}{a:AV}(h:Qh H (.agg cs) a): ∃aw,a=.agg aw/\Qc H cs aw:=by
 cases h with
 | p _ _ h=>cases h
 | agg _ aw c b=>exact⟨aw,rfl,bV.of c b⟩
theorem Qh.inT{cs:List TV}{a:AV}(h:Qh H (.tup cs) a): ∃aw,a=.tup aw/\Qc H cs aw:=by
 cases h with
 | p _ _ h=>cases h
 | tup _ aw c d=>exact⟨aw,rfl,bV.of c d⟩
theorem Qh.inF{vi:Nat}{cs:List TV}{a:AV}(h:Qh H (.fn vi cs) a): ∃aw,a=.fn vi aw/\Qc H cs aw:=by
 cases h with
 | p _ _ h=>cases h
 | fn _ _ aw c b=>exact⟨aw,rfl,bV.of c b⟩
def HM(H H':TH): Prop:=∀(id k:Nat) (l:List<|den k),H[id]?=some (.lst k l)->∃(k':Nat) (b:List<|den k'),H'[id]?=some (.lst k' b)/\b.length=l.length
theorem HM.r: HM H H:=λ_ k l h=>⟨k,l,h,rfl⟩
theorem Qh.mono(m:HM H H'){v:TV}{a:AV}(h:Qh H v a): Qh H' v a:=by
 induction h with
 | p v a h=>exact .p v a h
 | ms id k l h=>
  let⟨k',e,b,d⟩:=m id k l h;rw[<-d];exact .ms id k' e b
 | msn id n k l h=>
  let⟨k',e,b,d⟩:=m id k l h;rw[<-d];exact .msn id n k' e b
 | ptr id off=>exact .ptr id off
 | pel id i off k l h r u=>
  let⟨k',e,b,d⟩:=m id k l h;rw[<-d];exact .pel id i off k' e b r<|by omega
 | mp id=>exact .mp id
 | it id=>exact .it id
 | fn vi cs aw b _ c=>exact .fn vi cs aw b c
 | agg cs aw b _ c=>exact .agg cs aw b c
 | tup cs aw b _ c=>exact .tup cs aw b c
 | rs id n=>exact .rs id n
 | rel id n i off=>exact .rel id n i off
inductive ClO(n:Nat): dK->dK->Prop
 | r (a):ClO n a a
 | s (a b m):n<=m->ClO n a b->ClO n a (bU m b)
def Qo(H:TH): pK->dK->Prop
 | .box cs,o=>∃aw,o=.blk cs.length [aw]/\Qc H cs aw
 | .lst k l,o=>∃es,o=.blk (cds k).length es/\Ql k l es
 | .map _ b m,o=>∃rows,o=.mp (gB b m rows)/\Qm b m rows
 | .it s p,o=>o=.raw (.stringIter s p)
 | .rows s es,o=>∃aw,o=.blk s aw/\bV (Qc H) es aw
 | .gone,_=>True
 | .fr n a,o=>ClO n a o
theorem Qo.mono(m:HM H H'){o:pK}{b:dK}(h:Qo H o b): Qo H' o b:=by
 cases o with
 | box cs=>let⟨aw,a,c⟩:=h;exact⟨aw,a,c.imp λ_ _ h=>h.mono m⟩
 | rows s es=>let⟨aw,a,c⟩:=h;exact⟨aw,a,c.imp λ_ _ h=>h.imp λ_ _ h=>h.mono m⟩
 | _=>exact h
abbrev Qs(H:TH)(A:aU): Prop:=bV (Qo H) H A
theorem HM.set{id:Nat}{o:pK}(h:∀(k:Nat) (l:List<|den k),H[id]?=some (.lst k l)->∃(k':Nat) (a:List<|den k'),o=.lst k' a/\a.length=l.length): HM H<|H.set id o:=by
 intro i k l c;rw[Z5];split
 .rename_i e;subst e;let⟨k',a,f,d⟩:=h k l c;have:=(Ze.1 c).1;exact⟨k',a,by simp[this,f],d⟩
 .exact⟨k,l,c,rfl⟩
theorem HM.add{o:pK}: HM H<|H++[o]:=by
 intro i k l a;exact⟨k,l,by rw[Zo (Ze.1 a).1];exact a,rfl⟩
theorem Qs.add{A:aU}{o:pK}{b:dK}(h:Qs H A)(k:Qo (H++[o]) o b): Qs (H++[o])<|A++[b]:=
 (h.imp λ_ _ h=>h.mono HM.add).app ⟨k,trivial⟩
theorem Qs.set{A:aU}{id:Nat}{o:pK}{b:dK}(h:Qs H A)(m:HM H<|H.set id o)(k:Qo (H.set id o) o b): Qs (H.set id o)<|A.set id b:=
 (h.imp λ_ _ h=>h.mono m).set id k
structure Qt(N:Nat)(S:TS)(st:St): Prop where
 ln:st.tmps.length=N
 tm:∀(t:Nat) (v:TV),dD t S.tm=some v->∃a,st.tmps[t]?=some a/\Qh S.hp v a
 hp:Qs S.hp st.heap
theorem Qc.lits: ∀(vs:List Value),Qc H (vs.map .lit)<|vs.map .lit
 | []=>trivial
 | v::r=>⟨Qh.l v,Qc.lits r⟩
theorem aDK: ∀{cs:List AV} {l:List TV},aHj cs=some l->Qr l cs
 | [],l,b=>by cases b;trivial
 | a::r,l,b=>by
  simp only[aHj] at b;split at b
  .split at b
   .rename_i d c;cases b;exact⟨.lit _,aDK c⟩
   .cases b
  .cases b
theorem Qt.get[aF]{N:Nat}{S:TS}{st:St}(h:Qt N S st)(x:bA): Qh S.hp (bZ S.tm x)<|aH st.tmps x:=by
 cases x with
 | tmp t=>
  simp only[bZ,aH];cases b:dD t S.tm with
  | none=>exact Qh.u _
  | some v=>
   let⟨a,e,f⟩:=h.tm t v b;simp only[e];exact f
 | lit v=>exact Qh.l v
 | agg vs=>exact Qh.mkA<|Qc.lits vs
 | fn vi=>exact Qh.mkF trivial
 | glob g=>
  simp only[bZ,aH];cases aF.tab g with
  | none=>exact Qh.u _
  | some cs=>
   simp only;split
   .rename_i l b;exact .p _ _<|Qp.mkR<|aDK b
   .exact Qh.u _
theorem Qt.put{N:Nat}{S:TS}{st:St}(h:Qt N S st){d:Nat}{v:TV}{a:AV}(g:d<N)(q:Qh S.hp v a): Qt N ⟨(d,v)::S.tm,S.hp⟩ ⟨st.tmps.set d a,st.heap⟩:=by
 refine⟨by simp[h.ln],λt w c=>?_,h.hp⟩;simp only[dD] at c;split at c
 .rename_i e;have e:=Zc e;cases c;subst e;exact⟨a,by simp[h.ln,g],q⟩
 .rename_i e;let⟨b,i,f⟩:=h.tm t w c;have e:¬d=t:=YF e;exact⟨b,by rw[Zv e];exact i,f⟩
theorem Qt.hpM{N:Nat}{S:TS}{st:St}(h:Qt N S st){H':TH}{A:aU}(m:HM S.hp H')(k:Qs H' A): Qt N ⟨S.tm,H'⟩ ⟨st.tmps,A⟩:=
 ⟨h.ln,λt v c=>(h.tm t v c).elim λa b=>⟨a,b.1,b.2.mono m⟩,k⟩
end
theorem sQ{F:Nat->Type}{k k':Nat}{x:F k}{y:F k'}(h:EM F x=some y): ∃e:k=k',y=e▸x:=by
 unfold EM at h;split at h
 .rename_i e _;cases h;exact⟨e,rfl⟩
 .cases h
section
variable [dR]{H H':TH}{A:aU}
theorem OD{a b a' b':Nat}{m:List<|den a×den b}{y:List<|den a'×den b'}(h:b8 m=some y): ∃(e:a=a') (d:b=b'),y=e▸d▸m:=by
 unfold b8 at h;split at h
 .rename_i e _;split at h
  .rename_i d _;cases h;exact⟨e,d,rfl⟩
  .cases h
 .cases h
theorem aNa{w kk a:Nat}{v:TV}{x:List<|den kk×den a}(h:rdM w H kk a v=some x): v=.rmp kk a x\/(v=.lit (.map none)/\x=[])\/(w=2/\ag a=false/\∃id,v=.mp id/\H[id]?=some (.map kk a x)):=by
 unfold rdM at h;split at h
 .let⟨e,b,h⟩:=OD h;subst e;subst b;subst h;exact .inl rfl
 .split at h
  .split at h
   .cases h;exact .inr<|.inl ⟨rfl,rfl⟩
   .cases h
  .cases h
 .split at h
  .split at h
   .cases h
   .rename_i f;split at h
    .rename_i o d;split at h
     .let⟨e,b,h⟩:=OD h;subst e;subst b;subst h;exact .inr<|.inr ⟨rfl,f,_,rfl,d⟩
     .cases h
    .cases h
  .cases h
 .cases h
theorem aKb{w kk b:Nat}{v:TV}{x:List<|den kk×den b}{a:AV}(d:w≠2)(h:rdM w H kk b v=some x)(q:Qh H' v a): Qp (.rmp kk b x) a:=by
 rcases aNa h with rfl | ⟨rfl,rfl⟩ | ⟨e,_⟩
 .exact q.pu trivial
 .rw[q.inL];exact Qp.mkM (rows:=[]) (.inl ⟨rfl,rfl⟩) trivial
 .exact (d e).elim
theorem w4{α:Type}(l:List α)(m:Option<|Nat×Nat): win l m=(l.drop (Fo l m).1).take (Fo l m).2:=by
 cases m with
 | none=>simp[win,Fo]
 | some w=>rfl
theorem Qh.mw{id k:Nat}{l:List<|den k}{m:Option<|Nat×Nat}{a:AV}(q:Qh H (.ms id m) a)(d:H[id]?=some (.lst k l)): a=.ms id l.length (Fo l m).1 (Fo l m).2:=by
 cases q with
 | p _ _ q=>cases q
 | ms _ k' e b=>rw[d] at b;cases b;rfl
 | msn _ c k' e b=>rw[d] at b;cases b;rfl
theorem aQi{id k:Nat}{l:List<|den k}{m:Option<|Nat×Nat}(e:Qs H A)(c:H[id]?=some (.lst k l)):
 ∃es,rd A (.ms id l.length (Fo l m).1 (Fo l m).2)=some es/\Ql k (win l m) es:=by
 obtain⟨b,f,es,rfl,a⟩:=e.get c;refine⟨(es.drop (Fo l m).1).take (Fo l m).2,?_,?_⟩
 .simp only[rd,f,a.len,Zz]
 .rw[w4];exact (a.drop _).take _
theorem LH{w k:Nat}{v:TV}{l:List<|den k}{a:AV}(h:rdS w H k v=some l)(q:Qh H v a)(p:w≠0->Qs H A):
 (∃es,((a=.lit bO/\es=[])\/∃f,a=.sl f es)/\Ql k l es)\/(w=1/\∃es,((a=.lit bO/\es=[])\/(∃f,a=.sl f es)\/a=.vw es)/\Ql k l es)\/(w≠0/\∃id tot o n es,a=.ms id tot o n/\rd A a=some es/\Ql k l es):=by
 unfold rdS at h;split at h
 .let⟨e,h⟩:=sQ h;subst e;subst h;exact .inl (q.pu trivial).inS
 .cases h;have:=q.pu trivial;cases this with
  | emp b a h=>
   refine .inl ⟨[],?_,trivial⟩;rcases h with h | h | ⟨_,h⟩
   .exact .inl ⟨h,rfl⟩
   .exact .inr ⟨_,h⟩
   .exact .inr ⟨_,h⟩
 .rename_i v;have e:=q.inL;subst e;split at h
  .split at h
   .split at h
    .split at h
     .cases h;exact .inl ⟨[],.inl ⟨rfl,rfl⟩,trivial⟩
     .cases h
    .cases h
   .cases h
  .cases h
 .split at h
  .let⟨e,h⟩:=sQ h;subst e;subst h;exact .inr<|.inl ⟨rfl,(q.pu trivial).inV⟩
  .cases h
 .rename_i id m;split at h
  .cases h
  .rename_i d;split at h
   .rename_i o c;split at h
    .rename_i k' s;let⟨e,h⟩:=sQ h;subst e;subst h;refine .inr<|.inr ⟨d,?_⟩;rw[q.mw c];obtain⟨es,r,j⟩:=aQi (p d) c;exact⟨_,_,_,_,es,rfl,r,j⟩
    .cases h
   .cases h
 .cases h
theorem aFn{w k:Nat}{v:TV}{l:List<|den k}{a:AV}(h:rdS w H k v=some l)(q:Qh H v a)(e:Qs H A): ∃es,rd A a=some es/\Ql k l es:=by
 rcases LH h q (λ_=>e) with⟨es,c,b⟩ | ⟨_,es,c,b⟩ | ⟨_,id,tot,o,n,es,rfl,c,b⟩
 .rcases c with⟨rfl,rfl⟩ | ⟨f,rfl⟩
  .exact⟨_,rfl,b⟩
  .exact⟨_,rfl,b⟩
 .rcases c with⟨rfl,rfl⟩ | ⟨f,rfl⟩ | rfl
  .exact⟨_,rfl,b⟩
  .exact⟨_,rfl,b⟩
  .exact⟨_,rfl,b⟩
 .exact⟨es,c,b⟩
structure Q1(g:AV->AV): Prop where
 l:∀v,g (.lit v)=.lit v\/g (.lit v)=uC v
 s:∀f es,∃f',g (.sl f es)=.sl f' es
 p:∀cs,g (.sptr cs)=.sptr cs
 m:∀e,g (.rmp e)=.rmp e
theorem vK: Q1 Gt:=⟨λv=>.inr rfl,λf es=>⟨false,rfl⟩,λ_=>rfl,λ_=>rfl⟩
theorem aKD: Q1 nrm:=⟨λv=>.inr rfl,λf es=>⟨false,rfl⟩,λ_=>rfl,λ_=>rfl⟩
theorem aDE(n:Nat): Q1<|kF n:=⟨λv=>.inl rfl,λf es=>⟨f,rfl⟩,λ_=>rfl,λ_=>rfl⟩
theorem Ho(B:aU)(n d:Nat): Q1<|eE B n d:=⟨λv=>.inr<|by cases d<;>rfl,λf es=>⟨false,by cases d<;>rfl⟩,λ_=>by cases d<;>rfl,λ_=>by cases d<;>rfl⟩
theorem Q1.c{g:AV->AV}(m:Q1 g){c:Cd}{x:c.den}{b:AV}(h:Qp (c.tv x) b): Qp (c.tv x)<|g b:=by
 cases c with
 | int o=>cases h;rcases m.l (.int o x) with e | e<;>rw[e]<;>exact .lit _
 | bool=>cases h;rcases m.l (.bool x) with e | e<;>rw[e]<;>exact .lit _
 | str=>cases h;rcases m.l (.string x) with e | e<;>rw[e]<;>exact .lit _
 | sl k=>
  let⟨es,d,a⟩:=Qp.inS h;rcases d with⟨rfl,rfl⟩ | ⟨f,rfl⟩
  .rcases m.l bO with e | e
   .rw[e];exact Qp.mkS (.inl ⟨rfl,rfl⟩) a
   .rw[e];exact Qp.mkS (.inr ⟨false,rfl⟩) a
  .let⟨q,e⟩:=m.s f es;rw[e];exact Qp.mkS (.inr ⟨q,rfl⟩) a
 | sptr k=>
  obtain⟨aw,rfl,a⟩:=Qp.inP h;rw[m.p];exact h
 | mp kk u=>
  let⟨rows,d,a⟩:=Qp.inM h;refine Qp.mkM ?_ a;rcases d with⟨rfl,d⟩ | rfl
  .exact .inl ⟨by rcases m.l (.map none) with e | e<;>rw[e];rfl,d⟩
  .exact .inr<|m.m _
 | any=>exact .undef _
theorem Q1.r{g:AV->AV}(m:Q1 g): ∀{cs:List Cd} {p:VA cs} {e:List AV},Qr (tB cs p) e->Qr (tB cs p) (e.map g)
 | [],_,[],_=>trivial
 | c::r,p,b::e,h=>⟨m.c h.1,m.r h.2⟩
theorem Q1.ls{g:AV->AV}(m:Q1 g){k:Nat}{l:List<|den k}{es:List<|List AV}(h:Ql k l es): Ql k l<|es.map λe=>e.map g:=h.mapR λ_ _ h=>m.r h
theorem aSJ{k:Nat}{v:TV}{l:List<|den k}(h:rdS 0 H k v=some l): rdS 0 H' k v=some l:=by cases v<;>exact h
theorem aDu{w:Nat}{a:IntKind}{v:TV}{x:Int}(h:rdC w H (.int a) v=some x): v=.lit (.int a x):=by
 cases v with
 | lit u=>
  cases u with
  | int k n=>
   have h:(match decEq k a with | isTrue _=>some n | isFalse _=>none)=some x:=h;split at h
   .rename_i e _;cases h;rw[e]
   .cases h
  | _=>cases h
 | _=>cases h
theorem E0{w:Nat}{v:TV}{x:Bool}(h:rdC w H .bool v=some x): v=.lit (.bool x):=by
 cases v with
 | lit u=>
  cases u with
  | bool b=>cases h;rfl
  | _=>cases h
 | _=>cases h
theorem aDs{w:Nat}{v:TV}{x:ByteArray}(h:rdC w H .str v=some x): v=.lit (.string x):=by
 cases v with
 | lit u=>
  cases u with
  | string b=>cases h;rfl
  | _=>cases h
 | _=>cases h
theorem aDt{w k:Nat}{v:TV}{x:den k}(h:rdC w H (.sptr k) v=some x): v=.sptr k x:=by
 cases v with
 | sptr k' y=>
  let⟨e,h⟩:=sQ (F:=den) (x:=y) (y:=x) h;subst e;subst h;rfl
 | _=>cases h
theorem rd0{c:Cd}{v:TV}{x:c.den}{a:AV}(h:rdC 0 H c v=some x)(q:Qh H' v a): Qp (c.tv x) a:=by
 cases c with
 | int n=>have e:=aDu h;subst e;rw[q.inL];exact .lit _
 | bool=>have e:=E0 h;subst e;rw[q.inL];exact .lit _
 | str=>have e:=aDs h;subst e;rw[q.inL];exact .lit _
 | sl k=>
  have h:rdS 0 H k v=some x:=h;rcases LH (A:=[]) (aSJ h) q (λe=>(e rfl).elim) with⟨es,i,f⟩ | ⟨e,_⟩ | ⟨e,_⟩
  .exact Qp.mkS i f
  .cases e
  .exact (e rfl).elim
 | sptr k=>have e:=aDt h;subst e;exact q.pu trivial
 | mp kk m=>exact aKb (w:=0) (H:=H) (by decide) h q
 | any=>exact .undef _
theorem aSL: ∀{cs:List Cd} {vs:List TV} {p:VA cs} {aw:List AV},rdL 0 H cs vs=some p->Qc H' vs aw->Qr (tB cs p) aw
 | [],[],_,[],_,_=>trivial
 | c::r,v::vs,p,a::aw,h,q=>by
  simp only[rdL] at h;split at h
  .rename_i x b;split at h
   .rename_i p' d;cases h;exact⟨rd0 b q.1,aSL d q.2⟩
   .cases h
  .cases h
theorem jY{k:Nat}{vs:List TV}{x:den k}{aw:List AV}(h:kM 0 H k vs=some x)(q:Qc H' vs aw): Qr (kI k x) aw:=by
 unfold kM at h;split at h
 .rename_i p a;cases h;unfold kI;rw[dR.un_pk];exact aSL a q
 .cases h
theorem Qr.c{cs:List TV}{aw:List AV}(h:Qr cs aw): Qc H cs aw:=h.imp λ_ _ h=>.p _ _ h
theorem aB4{k:Nat}: ∀{vs:List<|List TV} {l:List<|den k} {es:List<|List AV},QA H k vs=some l->bV (Qc H') vs es->Ql k l es
 | [],_,[],h,_=>by cases h;trivial
 | v::vs,l,e::es,h,q=>by
  simp only[QA] at h;split at h
  .rename_i x a;split at h
   .rename_i d c;cases h;exact⟨jY a q.1,aB4 c q.2⟩
   .cases h
  .cases h
theorem aM1{k:Nat}{x:den k}{aw:List AV}(h:Qr (kI k x) aw)(a:ag k=true): Qh H (val k x)<|.agg aw:=by
 unfold val;rw[a];exact Qh.mkA h.c
theorem aM2{k:Nat}{x:den k}{a:AV}(h:Qr (kI k x) [a])(e:ag k=false): Qh H (val k x) a:=by
 unfold val;rw[e];cases b:kI k x with
 | nil=>rw[b] at h;exact h.elim
 | cons c r=>rw[b] at h;exact .p _ _ h.1
theorem aSI{k:Nat}{v:TV}{x:den k}{a:AV}{H1:TH}(h:x8 0 H k v=some x)(q:Qh H' v a): Qh H1 (val k x) a:=by
 unfold x8 at h;split at h
 .rename_i b;split at h
  .obtain⟨aw,rfl,q'⟩:=q.inA;exact aM1 (jY h q') b
  .cases h
 .rename_i b;exact aM2 (jY h (aw:=[a]) ⟨q,trivial⟩) b
end
section
variable [dR]{R:Type}{H:TH}{A:aU}{N:Nat}{S:TS}{st:St}{P:Program}{cf:CF}{op:Ju}{K:TV->TS->Option R}{r:R}
theorem KL{v:TV}{a:AV}{K:TV->Option R}(h:Ol v K=some r)(q:Qh H v a): ∃c,Qh H c a/\K c=some r:=by
 unfold Ol at h;split at h
 .split at h
  .rename_i b;have e:=q.inL;subst e;cases b with
   | true=>exact⟨_,q,h⟩
   | false=>exact⟨_,q,h⟩
  .exact⟨_,q,h⟩
 .exact⟨_,q,h⟩
theorem aGy: ∀{vs:List TV} {aw:List AV} {K:List TV->Option R},aJ9 vs K=some r->Qc H vs aw->∃b,Qc H b aw/\K b=some r
 | [],[],K,h,q=>⟨[],trivial,h⟩
 | v::vs,a::aw,K,h,q=>by
  let⟨c,d,h⟩:=KL h q.1;let⟨b,e,h⟩:=aGy h q.2;exact⟨c::b,⟨d,e⟩,h⟩
theorem aMI{v:TV}{K:TV->Option R}: Ol v K=K v:=by
 unfold Ol;split
 .split
  .rename_i b;cases b<;>rfl
  .rfl
 .rfl
theorem aGz: ∀{vs:List TV} {K:List TV->Option R},aJ9 vs K=K vs
 | [],K=>rfl
 | v::vs,K=>by simp only[aJ9,aMI];exact aGz
theorem G1{cs:List TV}{aw:List AV}{agg:Bool}{off n:Nat}{K:TV->Option R}(h:EA cs agg off n K=some r)(q:Qc H cs aw):
 off+n<=aw.length/\∃tv v,(if agg then some (AV.agg<|(aw.drop off).take n) else match (aw.drop off).take n with | [c]=>some c | _=>none)=some v/\Qh H tv v/\K tv=some r:=by
 unfold EA at h;split at h
 .rename_i d;refine⟨by rw[q.len];exact Zj d,?_⟩;have q':=(q.drop off).take n;split at h
  .exact⟨_,_,rfl,Qh.mkA q',h⟩
  .split at h
   .rename_i c a;rw[a] at q';generalize (aw.drop off).take n=e at q' |-;match e,q' with
    | [b],q'=>exact⟨_,b,rfl,q'.1,h⟩
   .cases h
 .cases h
def dE[aF](P:Program)(cf:CF)(fl N:Nat)(op:Ju)(st:St)(K:TV->TS->Option R)(r:R): Prop:=
 ∃v A' tv S',aO P cf fl op st.tmps st.heap=some (v,A')/\Qt N S' ⟨st.tmps,A'⟩/\Qh S'.hp tv v/\K tv S'=some r
theorem dE.same[aF]{fl:Nat}{v:AV}{tv:TV}(b:Qt N S st)(he:aO P cf fl op st.tmps st.heap=some (v,st.heap))(q:Qh S.hp tv v)(h:K tv S=some r): dE P cf fl N op st K r:=
 ⟨v,st.heap,tv,S,he,b,q,h⟩
theorem dE.add[aF]{fl:Nat}{v:AV}{tv:TV}{o:pK}{b:dK}(a:Qt N S st)(he:aO P cf fl op st.tmps st.heap=some (v,st.heap++[b]))(k:Qo (S.hp++[o]) o b)(q:Qh (S.hp++[o]) tv v)(h:K tv (Vl S o)=some r): dE P cf fl N op st K r:=
 ⟨v,_,tv,Vl S o,he,a.hpM HM.add<|a.hp.add k,q,h⟩
theorem dE.set[aF]{fl:Nat}{v:AV}{tv:TV}{id:Nat}{o:pK}{b:dK}(a:Qt N S st)(he:aO P cf fl op st.tmps st.heap=some (v,st.heap.set id b))(m:HM S.hp<|S.hp.set id o)(k:Qo (S.hp.set id o) o b)(q:Qh (S.hp.set id o) tv v)(h:K tv (gR S id o)=some r): dE P cf fl N op st K r:=
 ⟨v,_,tv,gR S id o,he,a.hpM m<|a.hp.set m k,q,h⟩
theorem Qs.ln(h:Qs H A): A.length=H.length:=bV.len h
theorem Qh.ptr1{id off:Nat}{a:AV}(h:Qh H (.ptr id off) a): a=.ptr id 1 0 off:=by
 cases h with
 | p _ _ h=>cases h
 | ptr=>rfl
theorem Qh.pel1{id off:Nat}{i:Int}{a:AV}(h:Qh H (.pel id i off) a): ∃k l,H[id]?=some (.lst k l)/\0<=i/\i.toNat<l.length/\a=.ptr id l.length i.toNat off:=by
 cases h with
 | p _ _ h=>cases h
 | pel _ _ _ k l e c d=>exact⟨k,l,e,c,d,rfl⟩
theorem Qh.rs1{id n:Nat}{a:AV}(h:Qh H (.rs id n) a): a=.ms id n 0 n:=by
 cases h with
 | p _ _ h=>cases h
 | rs=>rfl
theorem Qh.rel1{id n i off:Nat}{a:AV}(h:Qh H (.rel id n i off) a): a=.ptr id n i off:=by
 cases h with
 | p _ _ h=>cases h
 | rel=>rfl
theorem Qh.mp1{id:Nat}{a:AV}(h:Qh H (.mp id) a): a=.mp id:=by
 cases h with
 | p _ _ h=>cases h
 | mp=>rfl
theorem Qs.box(a:Qs H A){id:Nat}{cs:List TV}(h:H[id]?=some (.box cs)): ∃aw,A[id]?=some (.blk cs.length [aw])/\Qc H cs aw:=by
 obtain⟨b,c,aw,rfl,d⟩:=a.get h;exact⟨aw,c,d⟩
theorem Qs.lst(a:Qs H A){id k:Nat}{l:List<|den k}(h:H[id]?=some (.lst k l)): ∃es,A[id]?=some (.blk (cds k).length es)/\Ql k l es:=by
 obtain⟨b,d,es,rfl,e⟩:=a.get h;exact⟨es,d,e⟩
theorem aJY{id n i:Nat}{cs:List TV}(f:Qs H A)(h:aFl H id n i=some cs): ∃s es aw,A[id]?=some (.blk s es)/\es.length=n/\es[i]?=some aw/\Qc H cs aw:=by
 unfold aFl at h;split at h
 .rename_i o a;split at h
  .split at h
   .rename_i e;have e:=Zc e;obtain⟨b,c,aw,rfl,q⟩:=f.get a;let⟨r,g,d⟩:=q.get h;exact⟨_,aw,r,c,by rw[q.len];exact e,g,d⟩
   .cases h
  .cases h
 .cases h
theorem uX{k:Nat}(x:den k): (kI k x).length=(cds k).length:=by
 have:∀(cs:List Cd) (p:VA cs),(tB cs p).length=cs.length:=by
  intro cs;induction cs with
  | nil=>intro p;rfl
  | cons c r d=>intro p;simp[tB,d]
 exact this _ _
theorem aQF[aF]{E:XE}{n m:Nat}{d:Option Nat}{agg:Bool}{x:bA}(u:Qt N S st)(h:cM E n d (.load agg m x) S K=some r): dE P cf E.fl N (.load agg m x) st K r:=by
 have q:=u.get x;have g:∀{cs:List TV} {aw:List AV} {off:Nat} {a:AV},aH st.tmps x=a->(off+m<=aw.length->eB st.heap a m=some ((aw.drop off).take m))->Qc S.hp cs aw->EA cs agg off m (λv=>K v S)=some r->dE P cf E.fl N (.load agg m x) st K r:=by
  intro cs aw off a t f H G;let⟨p,tv,v,b,J,I⟩:=G1 G H;refine dE.same u ?_ J I;simp only[aO,t,f p];cases agg with
  | true=>simp only[Zz,Za] at b |-;rw[b]
  | false=>
   simp only[Zn,Z9] at b |-;split at b
   .rename_i L;rw[L];cases b;rfl
   .cases b
 simp only[cM] at h;split at h
 .rename_i id Q i off j;rw[j] at q;split at h
  .rename_i cs C;let⟨s,es,aw,w,D,F,B⟩:=aJY u.hp C;refine g q.rel1 (λf=>?_) B h;simp[eB,w,D,F,f]
  .cases h
 .rename_i id off j;rw[j] at q;split at h
  .rename_i o z;split at h
   .let⟨aw,p,b⟩:=u.hp.box z;exact g q.ptr1 (λf=>by simp[eB,p,f]) b h
   .cases h
  .cases h
 .rename_i cs j;rw[j] at q;let⟨aw,t,b⟩:=(q.pu trivial).inR;exact g (off:=0) t (λf=>by simp[eB] at f |-;exact f) b.c h
 .rename_i k y j;rw[j] at q;let⟨aw,t,b⟩:=(q.pu trivial).inP;exact g (off:=0) t (λf=>by simp[eB] at f |-;exact f) b.c h
 .rename_i id i off j;rw[j] at q;split at h
  .rename_i o z;split at h
   .rename_i k l;let⟨y,M,h⟩:=bD h;let⟨k',R,w,D,F,B⟩:=q.pel1;rw[z] at w;cases w;let⟨es,p,b⟩:=u.hp.lst z;let⟨_,A,_⟩:=qS M;let⟨e,he,O⟩:=b.get A;exact g B (λf=>by simp[eB,p,b.len,he,f]) O.c h
   .cases h
  .cases h
 .cases h
theorem Jl{v:TV}{a:AV}{cs:List TV}(h:UU v=some cs)(q:Qh H v a): ∃aw,cellsOf a=some aw/\Qc H cs aw:=by
 cases v with
 | agg vs=>
  cases h;obtain⟨aw,rfl,B⟩:=q.inA;exact⟨aw,rfl,B⟩
 | undef=>cases h
 | tup=>cases h
 | rptr=>cases h
 | lit u=>
  have h:(match bC u with | true=>some [TV.lit u] | false=>none)=some cs:=h;split at h
  .rename_i y;cases h;have e:=q.inL;subst e;exact⟨[.lit u],by simp[cellsOf,y],q,trivial⟩
  .cases h
 | emp b=>
  cases h;have q':=q.pu trivial;cases q' with
  | emp b a h=>rcases h with rfl | rfl | ⟨_,rfl⟩<;>exact⟨[_],rfl,q,trivial⟩
 | sl k l=>
  cases h;let⟨es,c,_⟩:=(q.pu trivial).inS;rcases c with⟨rfl,_⟩ | ⟨f,rfl⟩<;>exact⟨[_],rfl,q,trivial⟩
 | vw k l=>
  cases h;let⟨es,c,_⟩:=(q.pu trivial).inV;rcases c with⟨rfl,_⟩ | ⟨f,rfl⟩ | rfl<;>exact⟨[_],rfl,q,trivial⟩
 | ms id n=>
  cases h;cases q with
  | p _ _ q=>cases q
  | ms _ k l h=>exact⟨[_],rfl,.ms _ k l h,trivial⟩
  | msn _ n k l h=>exact⟨[_],rfl,.msn _ n k l h,trivial⟩
 | ptr id off=>cases h;have e:=q.ptr1;subst e;exact⟨[_],rfl,q,trivial⟩
 | pel id i off=>cases h;let⟨k,l,_,_,_,e⟩:=q.pel1;subst e;exact⟨[_],rfl,q,trivial⟩
 | sptr k x=>cases h;let⟨aw,e,_⟩:=(q.pu trivial).inP;subst e;exact⟨[_],rfl,q,trivial⟩
 | rmp kk G m=>
  cases h;let⟨rows,c,_⟩:=(q.pu trivial).inM;rcases c with⟨rfl,_⟩ | rfl<;>exact⟨[_],rfl,q,trivial⟩
 | rs id n=>cases h;have e:=q.rs1;subst e;exact⟨[_],rfl,q,trivial⟩
 | rel id n i off=>cases h;have e:=q.rel1;subst e;exact⟨[_],rfl,q,trivial⟩
 | mp id=>
  cases h;cases q with
  | p _ _ q=>cases q
  | mp=>exact⟨[_],rfl,.mp _,trivial⟩
 | it id=>
  cases h;cases q with
  | p _ _ q=>cases q
  | it=>exact⟨[_],rfl,.it _,trivial⟩
 | fn vi cs=>
  cases h;obtain⟨aw,rfl,_⟩:=q.inF;exact⟨[_],rfl,q,trivial⟩
theorem aMC[aF]{E:XE}{n m:Nat}{d:Option Nat}{x v:bA}(t:Qt N S st)(h:cM E n d (.store m x v) S K=some r): dE P cf E.fl N (.store m x v) st K r:=by
 have q:=t.get x;simp only[cM] at h;split at h
 .rename_i cs D;let⟨aw,J,w⟩:=Jl D<|t.get v;split at h
  .rename_i A;have A:=Zc A;have f:aw.length=m:=by rw[w.len,A]
   split at h
   .rename_i id off B;rw[B] at q;have q:=q.ptr1;split at h
    .cases h
    rename_i a;have a:=Zj a;split at h
    .rename_i o j;split at h
     .rename_i z;split at h
      .rename_i p;have p:=Zj p;let⟨es,F,s⟩:=t.hp.box j;have g:off+aw.length<=es.length:=by rw[w.len,s.len];exact p
       have u:(aV z off cs).length=z.length:=by simp[aV];omega
       refine dE.set (o:=.box<|aV z off cs) (b:=.blk z.length [aV es off aw]) t ?_ (HM.set λk l e=>by rw[j] at e;cases e) ⟨aV es off aw,by rw[u],?_⟩ (Qh.l _) h
       .simp only[aO,J,f,Zz,q,yE,a,F,Yd,Zt];rw[Zu<|by rw[<-f];exact g];rfl
       .exact (s.spl w).imp λ_ _ h=>h.mono<|HM.set λk l e=>by rw[j] at e;cases e
      .cases h
     .cases h
    .cases h
   .rename_i id i off B;rw[B] at q;split at h
    .cases h
    rename_i a;have a:=Zj a;split at h
    .rename_i o j;split at h
     .rename_i k l;let⟨y,T,h⟩:=bD h;let⟨_,C,R⟩:=qS T;let⟨k',O,I,V,U,M⟩:=q.pel1;rw[j] at I;cases I;split at h
      .rename_i p;have p:=Zj p;split at h
       .rename_i Q G;let⟨es,F,s⟩:=t.hp.lst j;let⟨e,he,H⟩:=s.get C;have g:off+aw.length<=e.length:=by rw[w.len,H.len,uX];exact p
        refine dE.set (o:=.lst k<|l.set i.toNat Q) (b:=.blk (cds k).length<|es.set i.toNat<|aV e off aw) t ?_ (HM.set λk O e=>by rw[j] at e;cases e;exact⟨_,_,rfl,by simp⟩) ⟨es.set i.toNat<|aV e off aw,rfl,?_⟩ (Qh.l _) h
        .simp only[aO,J,f,Zz,M,yE,a,F,s.len,he];rw[Zu<|by rw[<-f];exact g]
        .exact s.set _<|jY G<|H.c.spl w
       .cases h
      .cases h
     .cases h
    .cases h
   .cases h
  .cases h
 .cases h
end
section
variable [dR]{H H1:TH}{A:aU}
theorem Qp.w{k:Nat}{l:List<|den k}{a:AV}(h:Qp (.sl k l) a): Qp (.vw k l) a:=by
 let⟨es,b,c⟩:=h.inS;exact Qp.mkV (by rcases b with b | b;exact .inl b;exact .inr<|.inl b) c
theorem Qp.w1{c:Cd}{x:c.den}{a:AV}(h:Qp (c.tv x) a): Qp (PL<|c.tv x) a:=by
 cases c with
 | sl k=>exact Qp.w h
 | _=>exact h
theorem aBm(c:Cd)(x:c.den): toW (c.tv x)=PL (c.tv x):=by cases c<;>rfl
theorem L0{kk a:Nat}{m:List<|den kk×den a}{g d:AV->AV}(h:∀r,d (vE (ag a) r)=vE (ag a) (r.map g)){rows:List<|List AV}: ((gB a m rows).map λe=>(e.1,d e.2))=gB a m (rows.map λr=>r.map g):=by
 unfold gB;generalize m.map (λp=>uE kk p.1)=c;induction c generalizing rows with
 | nil=>rfl
 | cons v c i=>cases rows with
  | nil=>rfl
  | cons r rows=>simp only[ZE,List.zip_cons_cons,h,i]
theorem rd1{c:Cd}{v:TV}{x:c.den}{a:AV}(h:rdC 1 H c v=some x)(q:Qh H v a)(l:Qs H A): Qp (PL<|c.tv x)<|dG A a:=by
 cases c with
 | int p=>have e:=aDu h;subst e;rw[q.inL];exact .lit _
 | bool=>have e:=E0 h;subst e;rw[q.inL];exact .lit _
 | str=>have e:=aDs h;subst e;rw[q.inL];exact .lit _
 | sl k=>
  have h:rdS 1 H k v=some x:=h;rcases LH h q (λ_=>l) with⟨es,d,b⟩ | ⟨_,es,d,b⟩ | ⟨_,id,tot,o,n,es,rfl,d,b⟩
  .rcases d with⟨rfl,rfl⟩ | ⟨f,rfl⟩
   .exact Qp.mkV (es:=[]) (.inr<|.inr rfl) b
   .exact Qp.mkV (.inr<|.inr rfl) b
  .rcases d with⟨rfl,rfl⟩ | ⟨f,rfl⟩ | rfl
   .exact Qp.mkV (es:=[]) (.inr<|.inr rfl) b
   .exact Qp.mkV (.inr<|.inr rfl) b
   .exact Qp.mkV (.inr<|.inr rfl) b
  .simp only[dG,d];exact Qp.mkV (.inr<|.inr rfl)<|vK.ls b
 | sptr k=>
  have e:=aDt h;subst e;obtain⟨aw,rfl,b⟩:=(q.pu trivial).inP;exact Qp.mkP b
 | mp kk t=>
  let⟨rows,d,b⟩:=(aKb (w:=1) (H:=H) (by decide) h q).inM;rcases d with⟨rfl,d⟩ | rfl
  .exact Qp.mkM (.inl ⟨rfl,d⟩) b
  .exact Qp.mkM (.inr rfl) b
 | any=>exact .undef _
theorem aVt{c:Cd}{v:TV}{x:c.den}{a:AV}(h:rdC 1 [] c v=some x)(q:Qh H v a): Qp (PL<|c.tv x) a:=by
 cases c with
 | int B=>have e:=aDu h;subst e;rw[q.inL];exact .lit _
 | bool=>have e:=E0 h;subst e;rw[q.inL];exact .lit _
 | str=>have e:=aDs h;subst e;rw[q.inL];exact .lit _
 | sl k=>
  have h:rdS 1 [] k v=some x:=h;have p:rdS 1 H k v=some x/\∀id n,v≠.ms id n:=by
   cases v with
   | ms id n=>cases h
   | _=>exact⟨h,λ_ _ e=>by cases e⟩
  cases v with
  | ms id n=>exact (p.2 _ _ rfl).elim
  | vw k' l=>
   let⟨e,h⟩:=sQ (F:=λk=>List<|den k) (x:=l) (y:=x) h;subst e;subst h;exact q.pu trivial
  | sl k' l=>
   let⟨e,h⟩:=sQ (F:=λk=>List<|den k) (x:=l) (y:=x) h;subst e;subst h;exact (q.pu trivial).w
  | emp b=>exact (rd0 (c:=.sl k) (H:=[]) (v:=.emp b) (x:=x) (show rdS 0 [] k (.emp b)=some x from h) q).w
  | lit u=>exact (rd0 (c:=.sl k) (H:=[]) (v:=.lit u) (x:=x) (show rdS 0 [] k (.lit u)=some x from h) q).w
  | _=>cases h
 | sptr k=>have e:=aDt h;subst e;exact q.pu trivial
 | mp kk A=>
  exact aKb (w:=1) (H:=[]) (by decide) h q
 | any=>exact .undef _
theorem rd2{c:Cd}{v:TV}{x:c.den}{a:AV}(h:rdC 2 H c v=some x)(q:Qh H v a)(m:Qs H A): Qp (c.tv x)<|gH A 0 a:=by
 cases c with
 | int D=>have e:=aDu h;subst e;rw[q.inL];exact .lit _
 | bool=>have e:=E0 h;subst e;rw[q.inL];exact .lit _
 | str=>have e:=aDs h;subst e;rw[q.inL];exact .lit _
 | sl k=>
  have h:rdS 2 H k v=some x:=h;rcases LH h q (λ_=>m) with⟨es,i,d⟩ | ⟨e,_⟩ | ⟨_,id,tot,o,n,es,rfl,i,d⟩
  .rcases i with⟨rfl,rfl⟩ | ⟨f,rfl⟩
   .exact Qp.mkS (es:=[]) (.inr ⟨_,rfl⟩) d
   .exact Qp.mkS (.inr ⟨_,rfl⟩) d
  .cases e
  .simp only[gH,YE,Z9,fE,eE,ZG,Zz,i];exact Qp.mkS (.inr ⟨_,rfl⟩)<|(Ho A 0 5).ls d
 | sptr k=>
  have e:=aDt h;subst e;obtain⟨aw,rfl,d⟩:=(q.pu trivial).inP;exact Qp.mkP d
 | mp kk j=>
  have h:rdM 2 H kk j v=some x:=h;rcases aNa h with rfl | ⟨rfl,rfl⟩ | ⟨_,t,id,rfl,i⟩
  .let⟨rows,i,d⟩:=(q.pu trivial).inM;rcases i with⟨rfl,i⟩ | rfl
   .exact Qp.mkM (.inl ⟨rfl,i⟩) d
   .exact Qp.mkM (.inr rfl) d
  .rw[q.inL];exact Qp.mkM (rows:=[]) (.inl ⟨rfl,rfl⟩) trivial
  .obtain⟨b,y,rows,rfl,d⟩:=m.get i;have e:a=.mp id:=by
    cases q with
    | p _ _ q=>cases q
    | mp=>rfl
   subst e;simp only[gH,YE,Z9,fE,eE,ZG,Zz,y];have u:Qm j x<|rows.map λr=>r.map<|eE A 0 5:=d.mapR λ_ _ h=>(Ho A 0 5).r h;refine Qp.mkM (.inr<|congrArg _<|L0 (g:=eE A 0 5) λr=>?_) u;rw[t];cases r<;>rfl
 | any=>cases h
theorem rdn{c:Cd}{v:TV}{x:c.den}{a:AV}(h:rdC 0 H c v=some x)(q:Qh H1 v a): Qp (c.tv x) (nrm a)/\Ks a=true:=by
 have b:=rd0 h q;refine⟨aKD.c b,?_⟩;cases c with
 | int=>cases b;rfl
 | bool=>cases b;rfl
 | str=>cases b;rfl
 | sl k=>
  let⟨es,d,_⟩:=Qp.inS b;rcases d with⟨rfl,_⟩ | ⟨f,rfl⟩<;>rfl
 | sptr k=>obtain⟨aw,rfl,_⟩:=Qp.inP b;rfl
 | mp kk n=>let⟨rows,d,_⟩:=Qp.inM b;rcases d with⟨rfl,_⟩ | rfl<;>rfl
 | any=>cases h
theorem aOW{w:Nat}{e:TH}{f:TV->TV}{g:AV->AV}{G:AV->Prop}(k:∀{c:Cd} {v:TV} {x:c.den} {a:AV},rdC w e c v=some x->Qh H v a->Qp (f<|c.tv x) (g a)/\G a):
 ∀{cs:List Cd} {vs:List TV} {p:VA cs} {aw:List AV},rdL w e cs vs=some p->Qc H vs aw->Qr ((tB cs p).map f) (aw.map g)/\∀a∈aw,G a
 | [],[],_,[],_,_=>⟨trivial,λ_ h=>by cases h⟩
 | c::r,v::vs,p,a::aw,h,q=>by
  simp only[rdL] at h;split at h
  .rename_i x i;split at h
   .rename_i p' n;cases h;let⟨l,o⟩:=k i q.1;let⟨j,m⟩:=aOW k n q.2;exact⟨⟨l,j⟩,λb d=>by
     rcases ZN.1 d with rfl | d
     .exact o
     .exact m b d⟩
   .cases h
  .cases h
theorem aB5{w:Nat}{a:TH}{v:TV}: ∀{cs:List Cd} {p:VA cs},rdL w a cs [v]=some p->∃(c:Cd) (y:c.den),hdT (tB cs p)=c.tv y/\rdC w a c v=some y
 | [],p,h=>by cases h
 | c::r,p,h=>by
  simp only[rdL] at h;split at h
  .rename_i y b;split at h
   .cases h;exact⟨c,y,rfl,b⟩
   .cases h
  .cases h
theorem aGD{w:Nat}{d:TH}{f:TV->TV}{g:AV->AV}{G:AV->Prop}(k:∀{c:Cd} {v:TV} {x:c.den} {a:AV},rdC w d c v=some x->Qh H v a->Qp (f<|c.tv x) (g a)/\G a){kd:Nat}{v:TV}{x:den kd}{a:AV}(h:x8 w d kd v=some x)(q:Qh H v a):
 (∃aw,a=.agg aw/\val kd x=.agg (kI kd x)/\Qr ((kI kd x).map f) (aw.map g)/\∀b∈aw,G b)\/(∃(c:Cd) (y:c.den),val kd x=c.tv y/\Qp (f<|c.tv y) (g a)/\G a/\rdC w d c v=some y):=by
 have s:∀{vs:List TV} {aw:List AV} {x:den kd},kM w d kd vs=some x->Qc H vs aw->Qr ((kI kd x).map f) (aw.map g)/\∀b∈aw,G b:=by
  intro vs aw x h q;unfold kM at h;split at h
  .rename_i p j;cases h;unfold kI;rw[dR.un_pk];exact aOW k j q
  .cases h
 unfold x8 at h;split at h
 .rename_i m;split at h
  .obtain⟨aw,rfl,q'⟩:=q.inA;let⟨i,l⟩:=s h q';exact .inl ⟨aw,rfl,by unfold val;rw[m],i,l⟩
  .cases h
 .rename_i m;right;unfold kM at h;split at h
  .rename_i p j;cases h;have t:val kd (dR.pk kd p)=hdT (tB (cds kd) p):=by
    unfold val kI;rw[m,dR.un_pk]
   rw[t];let⟨c,y,e,o⟩:=aB5 j;let⟨i,l⟩:=k o q;exact⟨c,y,e,i,l,o⟩
  .cases h
theorem aM8(c:Cd)(x:c.den): PL (c.tv x)=.undef\/(∀a,Qp (PL<|c.tv x) a->a≠.undef/\∀l,a≠.agg l):=by
 cases c with
 | int=>right;intro a h;cases h;exact⟨(by intro e;cases e),(by intro l e;cases e)⟩
 | bool=>right;intro a h;cases h;exact⟨(by intro e;cases e),(by intro l e;cases e)⟩
 | str=>right;intro a h;cases h;exact⟨(by intro e;cases e),(by intro l e;cases e)⟩
 | sl k=>
  right;intro a h;let⟨es,b,_⟩:=Qp.inV h;rcases b with⟨rfl,_⟩ | ⟨f,rfl⟩ | rfl<;>exact⟨(by intro e;cases e),(by intro l e;cases e)⟩
 | sptr k=>right;intro a h;obtain⟨aw,rfl,_⟩:=Qp.inP h;exact⟨(by intro e;cases e),(by intro l e;cases e)⟩
 | mp=>right;intro a h;let⟨rows,b,_⟩:=Qp.inM h;rcases b with⟨rfl,_⟩ | rfl<;>exact⟨(by intro e;cases e),(by intro l e;cases e)⟩
 | any=>left;rfl
theorem aVq{k:Nat}{v:TV}{x:den k}{a:AV}(h:x8 1 H k v=some x)(q:Qh H v a)(i:Qs H A): Qh H1 (toW<|val k x)<|cG A a:=by
 rcases aGD (G:=λ_=>True) (f:=PL) (g:=dG A) (λh q=>⟨rd1 h q i,trivial⟩) h q with⟨aw,rfl,d,b,_⟩ | ⟨c,y,d,b,_,_⟩
 .rw[d];exact Qh.mkA b.c
 .rw[d,aBm];rcases aM8 c y with e | e
  .rw[e];exact Qh.u _
  .cases a with
   | agg cs=>exact ((e _ b).1 rfl).elim
   | _=>exact .p _ _ b
theorem aSH{k:Nat}{v:TV}{x:den k}{a:AV}(h:x8 1 [] k v=some x)(q:Qh H v a): Qh H1 (toW<|val k x) a:=by
 rcases aGD (G:=λ_=>True) (f:=PL) (g:=id) (λh q=>⟨aVt h q,trivial⟩) h q with⟨aw,rfl,d,b,_⟩ | ⟨c,y,d,b,_,_⟩
 .rw[d];rw[WQ] at b;exact Qh.mkA b.c
 .rw[d,aBm];exact .p _ _ b
theorem aVe{k:Nat}{x:den k}{a:AV}(q:Qh H (val k x) a): Qh H (toW<|val k x) a:=by
 have f:∀(c:Cd) (y:c.den) {b:AV},Qh H (c.tv y) b->Qh H (PL<|c.tv y) b:=by
  intro c y b q;cases c with
  | sl k=>exact .p _ _ (q.pu trivial).w
  | _=>exact q
 have cs:∀(cs:List Cd) (p:VA cs) {aw:List AV},Qc H (tB cs p) aw->Qc H ((tB cs p).map PL) aw:=by
  intro cs;induction cs with
  | nil=>intro p aw q;exact q
  | cons c r i=>
   intro p aw q;cases aw with
   | nil=>exact q.elim
   | cons b aw=>exact⟨f c p.1 q.1,i p.2 q.2⟩
 unfold val at q |-;split
 .rename_i d;simp only[d] at q;obtain⟨aw,rfl,g⟩:=q.inA;exact Qh.mkA<|cs _ _ g
 .rename_i d;simp only[d] at q;unfold kI at q |-;generalize dR.un k x=p at q |-;generalize cds k=l at p q |-;cases l with
  | nil=>exact Qh.u _
  | cons c r=>
   have e:toW (hdT<|tB (c::r) p)=PL (c.tv p.1):=aBm c p.1;rw[e];exact f c p.1 q
theorem aQk{n:TH}{k:Nat}{v:TV}{x:den k}{a:AV}(h:x8 0 n k v=some x)(q:Qh H v a): Qh H1 (val k x) (LR a)/\uB a=true:=by
 rcases aGD (G:=λa=>Ks a=true) (f:=λv=>v) (g:=nrm) (λh q=>rdn h q) h q with⟨aw,rfl,i,e,d⟩ | ⟨c,y,i,e,d,_⟩
 .rw[i];rw[show (kI k x).map (λv=>v)=kI k x from WQ _] at e;refine⟨Qh.mkA e.c,?_⟩;show Pm aw=true;clear e q h;induction aw with
  | nil=>rfl
  | cons b r m=>simp only[Pm,d b ZM];exact m λb j=>d b<|ZQ _ j
 .rw[i];cases a with
  | agg cs=>cases d
  | _=>exact⟨.p _ _ e,d⟩
theorem aVp{k:Nat}{v:TV}{x:den k}{a:AV}(h:x8 2 H k v=some x)(q:Qh H v a)(w:Qs H A): Qh H1 (val k x) (dZ A 0 a)/\∀l,a≠.tup l:=by
 rcases aGD (G:=λ_=>True) (f:=λv=>v) (g:=gH A 0) (λh q=>⟨rd2 h q w,trivial⟩) h q with⟨aw,rfl,d,i,_⟩ | ⟨c,y,d,i,_,r⟩
 .rw[d];rw[show (kI k x).map (λv=>v)=kI k x from WQ _] at i;exact⟨Qh.mkA i.c,λl e=>by cases e⟩
 .rw[d];have s:c≠.any:=by rintro rfl;cases r
  have n:∀b,Qp (c.tv y) b->b≠.undef:=by
   intro b m e;subst e;cases c with
   | any=>exact s rfl
   | sl k=>let⟨es,d,_⟩:=Qp.inS m;rcases d with⟨h,_⟩ | ⟨f,h⟩<;>cases h
   | mp=>let⟨rows,d,_⟩:=Qp.inM m;rcases d with⟨h,_⟩ | h<;>cases h
   | _=>cases m
  cases a with
  | agg cs=>exact (n _ i rfl).elim
  | tup cs=>exact (n _ i rfl).elim
  | _=>exact⟨.p _ _ i,λl e=>by cases e⟩
def aUs[aF](P:Program)(T:List cQ)(vi:Nat)(c:CSp): Prop:=∀n p r,c.F n p=some r->∀aw,Qc [] (Og c.ka p) aw->
 ∃vs a A H,fH P T n 0 vi aw []=some (kO a,A)/\Qs H A/\Qc H vs a/\Fy 2 H (c.kr.map .v) vs=some r/\(c.kp=true->VR H vs=true)
def aUp(A:aU)(vs:List TV)(aw:List AV): Prop:=∀k y b,vs=.sl k y::b->∃a d rows,aw=a::d/\VF (cds k).length A a=some rows/\Ql k y rows
def FOK[aF](P:Program)(T:List cQ)(vi:Nat)(c:CSp): Prop:=∀n p r,c.F n p=some r->∀aw,Qc [] (Og c.ka p) aw->
 ∃b A,fH P T n 0 vi aw []=some (kO b,A)/\(∀H1:TH,Qc H1 (Og (c.kr.map .v) r)<|b.map<|dZ A 0)/\(∀a∈b,∀l,a≠.tup l)/\(c.kp=true->aUp A (Og (c.kr.map .v) r) b)
theorem aB2{w:Nat}{e:TH}{g:AV->AV}{G:AV->Prop}: ∀{c:List Sh} (k:∀s∈c,∀{v:TV} {x:s.den} {a:AV},s.rd w e v=some x->Qh H v a->Qh H1 (s.tv x) (g a)/\G a)
 {vs:List TV} {p:fT c} {aw:List AV},Fy w e c vs=some p->Qc H vs aw->Qc H1 (Og c p) (aw.map g)/\∀a∈aw,G a
 | [],_,[],_,[],_,_=>⟨trivial,λ_ h=>by cases h⟩
 | kd::c,_,[],p,aw,h,_=>by cases h
 | [],_,v::vs,p,aw,h,_=>by cases h
 | kd::c,k,v::vs,p,a::aw,h,q=>by
  simp only[Fy] at h;split at h
  .rename_i x r;split at h
   .rename_i p' j;cases h;let⟨i,m⟩:=k kd ZM r q.1;let⟨n,l⟩:=aB2 (λs o=>k s<|ZQ _ o) j q.2;have f:fT.hd (fT.cs x p')=x:=by cases c<;>rfl
    have e2:fT.tl (fT.cs x p')=p':=by cases c<;>rfl
    refine⟨?_,λb d=>by
     rcases ZN.1 d with rfl | d
     .exact m
     .exact l b d⟩
    simp only[Og,f,e2];exact⟨i,n⟩
   .cases h
  .cases h
end
end
end Go.Proofs.YtmlgedgcbfchjaaGreatDoor.Av
