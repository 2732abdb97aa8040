/- A part of the proof of a law. -/
import Derived.Test.YtabioopnpgiijaaGreatDoorP9
set_option maxRecDepth 100000
set_option maxHeartbeats 4000000
set_option linter.all false
namespace Go.Proofs.YtabioopnpgiijaaGreatDoor.Av
open Go
class TC{α:Type}(f:Nat->Option α): Prop where
 h:aB (λn _=>f n) λ_=>True
theorem bE{α β:Type}{P:α->Prop}{f:Nat->Option β}[t:TC f]{g:Nat->Nat->β->Option α}(k:∀r,aB (λn m=>g n m r) P): aB (λn m=>Av.bnd (f n)<|g n m) P:=aE t.h λr _=>k r
theorem dZ{α:Type}{x:α}: aB (λ_ _=>some x) λ_=>True:=aA trivial
def aAJ(x:Aaa): Prop:=-2097152<=x.X/\x.X<=2097152/\-2097152<=x.Y/\x.Y<=2097152
theorem aFQ(x:Aaa): aB (λn _=>EX n x) λr=>r=true->¬aAJ x:=by
 refine aC (λh=>aA λ_ a=>?_) λe=>aC (λh=>aA λ_ a=>?_) λc=>aC (λh=>aA λ_ a=>?_) λd=>aC (λh=>aA λ_ a=>?_) λb=>aA (by simp);all_goals (have:=Zl h;unfold aAJ at a;omega)
theorem F8(l:List Aaa)(e:l.length<=1000)(i:Nat): aB (λn m=>zN wW n m (l,ln l) (i:Int))<|Su (λ_=>¬∀x∈l,aAJ x) λ_=>True:=
 cC<|bB (λy d a=>aE (aFQ y) λr c=>aC (λh=>aA λb=>c h<|b y<|Zg d) λh=>by
  rw[cA<|by omega];exact F8 l e<|i+1)
  (λf=>aA trivial)
termination_by l.length-i
theorem aCP(l:List Aaa)(b:l.length<=1000): aB (λn _=>nR n l) λr=>(∀x∈l,aAJ x)->r=true:=
 aX (λ_=>rfl)<|aS (bA<|F8 l b 0) (λ_ h=>aA λa=>absurd a h) λ_ _=>aA λ_=>rfl
instance aRZ{a b c:Aaa}: TC (λn=>nR n [a,b,c]):=⟨(aCP _ (by simp)).imp λ_ _=>trivial⟩
instance aRY{a b c d:Aaa}: TC (λn=>nR n [a,b,c,d]):=⟨(aCP _ (by simp)).imp λ_ _=>trivial⟩
def twV(a b c:Aaa): Int:=wr<|(wr<|(wr<|b.X-a.X)*(wr<|c.Y-a.Y))-(wr<|(wr<|b.Y-a.Y)*(wr<|c.X-a.X))
theorem aDI(a b c:Aaa): aB (λn _=>gN n a b c) λr=>r=twV a b c:=aX (λ_=>rfl)<|aA rfl
instance aRq{a b c:Aaa}: TC (λn=>gN n a b c):=⟨(aDI a b c).imp λ_ _=>trivial⟩
section
variable {a b c d:Aaa}
instance aUA: TC (λn=>VB n (a,b,c)):=⟨by repeat' first | exact aA trivial | refine aC (λ_=>?_) (λ_=>?_) | refine bE λ_=>?_⟩
instance aU9: TC (λn=>VA n (a,b,c)):=⟨by repeat' first | exact aA trivial | refine aC (λ_=>?_) (λ_=>?_) | refine bE λ_=>?_⟩
instance aU8: TC (λn=>rW n a b c):=⟨aX (λ_=>rfl) (by repeat' first | exact aA trivial | refine aC (λ_=>?_) (λ_=>?_) | refine bE λ_=>?_)⟩
instance aR1: TC (λn=>Ux n a b c):=⟨aX (λ_=>rfl) (by repeat' first | exact aA trivial | refine aC (λ_=>?_) (λ_=>?_) | refine bE λ_=>?_)⟩
instance aS5: TC (λn=>iX n a b c):=⟨aX (λ_=>rfl) (by repeat' first | exact aA trivial | refine aC (λ_=>?_) (λ_=>?_) | refine bE λ_=>?_)⟩
instance aTm: TC (λn=>Nc n (a,b)):=⟨by repeat' first | exact aA trivial | refine aC (λ_=>?_) (λ_=>?_) | refine bE λ_=>?_⟩
instance aQ8: TC (λn=>nS n a b):=⟨aX (λ_=>rfl) (by repeat' first | exact aA trivial | refine aC (λ_=>?_) (λ_=>?_) | refine bE λ_=>?_)⟩
instance aTO: TC (λn=>wV n (a,b)):=⟨by repeat' first | exact aA trivial | refine aC (λ_=>?_) (λ_=>?_) | refine bE λ_=>?_⟩
instance aTN: TC (λn=>Mz n (a,b)):=⟨by repeat' first | exact aA trivial | refine aC (λ_=>?_) (λ_=>?_) | refine bE λ_=>?_⟩
instance aTM: TC (λn=>My n (a,b)):=⟨by repeat' first | exact aA trivial | refine aC (λ_=>?_) (λ_=>?_) | refine bE λ_=>?_⟩
instance aPt: TC (λn=>Na n a b c d):=⟨aX (λ_=>rfl) (by repeat' first | exact aA trivial | refine aC (λ_=>?_) (λ_=>?_) | refine bE λ_=>?_)⟩
instance aUh: TC (λn=>FB n (a,b,c,d)):=⟨by repeat' first | exact aA trivial | refine aC (λ_=>?_) (λ_=>?_) | refine bE λ_=>?_⟩
instance aUg: TC (λn=>FA n (a,b,c,d)):=⟨by repeat' first | exact aA trivial | refine aC (λ_=>?_) (λ_=>?_) | refine bE λ_=>?_⟩
instance aS8: TC (λn=>Pc n a b c d):=⟨aX (λ_=>rfl) (by repeat' first | exact aA trivial | refine aC (λ_=>?_) (λ_=>?_) | refine bE λ_=>?_)⟩
instance aRy{s:aY}: TC (λn=>iE n s):=⟨aX (λ_=>rfl) (by repeat' first | exact aA trivial | refine aC (λ_=>?_) (λ_=>?_))⟩
instance aSh{s:aY}: TC (λn=>gD n s):=⟨aX (λ_=>rfl) (by repeat' first | exact aA trivial | refine aC (λ_=>?_) (λ_=>?_))⟩
instance aU5{s t:aY}: TC (λn=>mV n (s,t)):=⟨by repeat' first | exact aA trivial | refine aC (λ_=>?_) (λ_=>?_) | refine bE λ_=>?_⟩
instance aU4{s t:aY}: TC (λn=>mU n (s,t)):=⟨by repeat' first | exact aA trivial | refine aC (λ_=>?_) (λ_=>?_) | refine bE λ_=>?_⟩
instance aU3{t:aY}{x y z:Int}: TC (λn=>fQ n (t,a,b,c,d,x,y,z)):=⟨by repeat' first | exact aA trivial | refine aC (λ_=>?_) (λ_=>?_) | refine bE λ_=>?_⟩
end
theorem Q6{α:Type}{Q:Nat->α->Prop}: ∀(l:List α),(∀x∈l,∃K,∀n,K<=n->Q n x)->∃K,∀n,K<=n->∀x∈l,Q n x
 | [],_=>⟨0,λ_ _ _ h=>by cases h⟩
 | a::l,h=>by
  let⟨K,d⟩:=h a<|ZM ..;let⟨J,c⟩:=Q6 l λx b=>h x<|ZQ _ b;refine⟨max K J,λn f x b=>?_⟩;rcases ZN.1 b with rfl | b
  .exact d n<|by omega
  .exact c n (by omega) x b
theorem m8{α β:Type}{f:α->Option β}{g:α->β}: ∀(l:List α),(∀x∈l,f x=some (g x))->Ss (l.map f)=some (l.map g)
 | [],_=>rfl
 | a::l,h=>by
  simp only[ZE,Ss,h a<|ZM ..,m8 l λx b=>h x<|ZQ _ b]
structure Swo{α:Type}(g:α->α->Int)(l:List α): Prop where
 ir:∀x∈l,¬g x x<0
 tr:∀x∈l,∀y∈l,∀z∈l,g x y<0->g y z<0->g x z<0
 ti:∀x∈l,∀y∈l,∀z∈l,¬g x y<0->¬g y z<0->¬g x z<0
theorem aL2{α:Type}{g:α->α->Int}{l:List α}{i j:Nat}{x y:α}(b:l[i]?=some x)(a:l[j]?=some y): at2 (l.map λx=>l.map<|g x) i j=g x y:=by
 simp[at2,Zk,b,a]
theorem Swo.tab{α:Type}{g:α->α->Int}{l:List α}(h:Swo g l): u9 l.length (l.map λx=>l.map<|g x)=true:=by
 unfold u9;simp only[Yl,Ws,Zd,YG];have e:∀i j (b:i<l.length) (c:j<l.length),ltT (l.map λx=>l.map<|g x) i j=decide (g l[i] l[j]<0):=λi j b c=>by
  unfold ltT;rw[aL2 (Zb b)<|Zb c]
 intro i b;refine⟨by rw[e i i b b];exact YI<|h.ir _<|ZP b,λj c k m=>?_⟩;rw[e i j b c,e j k c m,e i k b m];have n:=ZP b;have o:=ZP c;have mk:=ZP m;have q:=h.tr _ n _ o _ mk;have p:=h.ti _ n _ o _ mk;by_cases f:g l[i] l[j]<0
 .rw[Yj f];show (!decide (g l[j] l[k]<0)||decide (g l[i] l[k]<0))=true;by_cases d:g l[j] l[k]<0
  .rw[Yj<|q f d];simp
  .rw[YI d];rfl
 .rw[YI f];show (decide (g l[j] l[k]<0)||!decide (g l[i] l[k]<0))=true;by_cases d:g l[j] l[k]<0
  .rw[Yj d];rfl
  .rw[YI<|p f d];simp
theorem QZ{α:Type}{F:Nat->α->α->Option Int}{g:α->α->Int}{l:List α}(q:∀x∈l,∀y∈l,aB (λn _=>F n x y) λr=>r=g x y)(o:Swo g l): aB (λn _=>pJ (λx y=>F n x y) l) λr=>r.length=l.length/\∀x∈r,x∈l:=by
 let⟨K,e⟩:=Q6 (Q:=λn x=>∀y∈l,F n x y=some (g x y)) l λx b=>Q6 (Q:=λn y=>F n x y=some (g x y)) l λy h=>by
  obtain⟨r,rfl,K,e⟩:=q x b y h;exact⟨K,λn c=>e n n c c⟩
 cases l with
 | nil=>exact⟨[],⟨rfl,λx b=>b⟩,0,λ_ _ _ _=>rfl⟩
 | cons a l=>
  have k:∀n,K<=n->CZ (λx y=>F n x y) (a::l)=some ((a::l).map λx=>(a::l).map<|g x):=λn c=>
   m8 (f:=λx=>Ss<|(a::l).map λy=>F n x y) (g:=λx=>(a::l).map<|g x) (a::l) λx b=>m8 (a::l) λy h=>e n c x b y h
  have j:=o.tab;refine⟨(ixG l.length<|(a::l).map λx=>(a::l).map<|g x).map<|Dj a (a::l),⟨?_,?_⟩,K,λn m c s=>?_⟩
  .rw[ZO,O4<|by simpa using j];rfl
  .intro x b;obtain⟨i,p,rfl⟩:=Yh.1 b;have:=aCV p;unfold Dj;rw[Zb<|by simpa using this];exact ZP _
  .have d:u9 (l.length+1) ((a::l).map λx=>(a::l).map<|g x)=true:=by simpa using j
   simp only[pJ,k n c,d]
def CL(a b:Int): Int:=if a<b then -1 else if a > b then 1 else 0
theorem hJ(a b:Int): aB (λn _=>cY n a b) λr=>r=CL a b:=by
 have d:∀a:Int,aB (λn _=>eP n a) λr=>r=false:=λa=>aX (λ_=>rfl)<|aC (λh=>by simp at h) λ_=>aA rfl;refine aX (λ_=>rfl)<|aE (d a) λr c=>aC (λh=>by rw[c] at h;cases h) λ_=>aE (d b) λr c=>aC (λh=>by rw[c] at h;cases h) λ_=>aC (λh=>aA ?_) λe=>aC (λh=>aA ?_) λf=>aA ?_
 .unfold CL;rw[Zu<|Zl h]
 .unfold CL;rw[ZF<|Zp e,Zu<|Zl h]
 .unfold CL;rw[ZF<|Zp e,ZF<|Zp f]
theorem h9{a b:Int}: CL a b<0↔a<b:=by unfold CL;split<;>(try split)<;>omega
theorem aGS{α:Type}(k:α->Int)(l:List α): Swo (λx y=>CL (k x)<|k y) l where
 ir x _:=by rw[h9];omega
 tr x _ y _ z _:=by simp only[h9];omega
 ti x _ y _ z _:=by simp only[h9];omega
theorem Il{α:Type}{l:List α}{x:α}(h:l.length<=900000): app l [x]=some (l++[x]):=CO<|by simp;omega
theorem aCY{α:Type}{l:List α}{i:Nat}{x:α}{q:α->Bool}(a:l[i]?=some x)(h:q x=true): (l.drop i).find? q=some x:=by
 obtain⟨b,rfl⟩:=Ze.1 a;rw[XH b,List.find?_cons,h]
theorem aCZ{α:Type}{l:List α}{i:Nat}{x:α}{q:α->Bool}(a:l[i]?=some x)(h:q x=false): (l.drop i).find? q=(l.drop<|i+1).find? q:=by
 obtain⟨b,rfl⟩:=Ze.1 a;rw[XH b,List.find?_cons,h]
theorem aDa{α:Type}{l:List α}{i:Nat}{q:α->Bool}(h:l.length<=i): (l.drop i).find? q=none:=by
 rw[Xo h];rfl
def kG(p:aM)(id:Int): Aab×Bool:=match p.Nodes.find? λx=>x.ID==id with
 | some x=>(x,true)
 | none=>(⟨0,⟨0,0⟩⟩,false)
def MV(p:aM)(id:Int): aR×Bool:=match p.Arcs.find? λx=>x.ID==id with
 | some x=>(x,true)
 | none=>(⟨0,0,0,[],0,0⟩,false)
theorem J3(l:List Aab)(d:l.length<=300)(id:Int)(i:Nat): aB (λn m=>zN wI n m (id,l,ln l) (i:Int))<|Su (λv=>∃x,(l.drop i).find? (λx=>x.ID==id)=some x/\v=(x,x)) λ_=>(l.drop i).find? (λx=>x.ID==id)=none:=
 cC<|bB (λx b c=>aC (λh=>aA ⟨x,aCY (q:=λx=>x.ID==id) b h,rfl⟩) λh=>by
  rw[cA<|by omega,aCZ (q:=λx=>x.ID==id) b h];exact J3 l d id<|i+1)
  (λa=>aA<|aDa a)
termination_by l.length-i
theorem NC(p:aM)(c:Sm p)(id:Int): aB (λn _=>fJ n p id) λr=>r=kG p id:=
 aX (λ_=>rfl)<|aS (bA<|J3 _ c.n id 0) (λv b=>aA<|by
  obtain⟨x,a,rfl⟩:=b;rw[YD] at a;unfold kG;rw[a]) λ_ h=>aA<|by
  rw[YD] at h;unfold kG;rw[h]
theorem aIW{α:Type}(l:List α)(h:l.length<=1000000): aB (λn _=>clF n l) λr=>r=l:=
 aX (g:=λ_=>app [] l) (λ_=>rfl) ⟨l,rfl,0,λ_ _ _ _=>by rw[CO<|by simpa using h];rfl⟩
theorem aCe(l:List aR)(g:l.length<=300)(d:∀a∈l,a.Via.length<=300)(id:Int)(i:Nat): aB (λn m=>zN Cp n m (id,l,ln l) (i:Int))<|Su (λv=>∃x,(l.drop i).find? (λx=>x.ID==id)=some x/\v=(x.ID,x.From,x.To,x.Via,x.Left,x.Right,x.ID,x.From,x.To,x.Via,x.Left,x.Right)) λ_=>(l.drop i).find? (λx=>x.ID==id)=none:=
 cC<|bB (λx c e=>aC (λh=>aE (aIW x.Via<|by have:=d x<|Zg c;omega) λr f=>aA ⟨x,aCY (q:=λx=>x.ID==id) c h,by rw[f]⟩) λh=>by
  rw[cA<|by omega,aCZ (q:=λx=>x.ID==id) c h];exact aCe l g d id<|i+1)
  (λb=>aA<|aDa b)
termination_by l.length-i
theorem aJy(p:aM)(c:Sm p)(id:Int): aB (λn _=>oO n p id) λr=>r=MV p id:=
 aX (λ_=>rfl)<|aS (bA<|aCe _ c.a c.v id 0) (λv d=>aA<|by
  obtain⟨x,b,rfl⟩:=d;rw[YD] at b;unfold MV;rw[b]) λ_ h=>aA<|by
  rw[YD] at h;unfold MV;rw[h]
theorem rS{α:Type}{a:List<|List α}{i:Nat}{x:List α}(b:a[i]?=some x): (a.drop i).flatten=x++(a.drop<|i+1).flatten:=by
 obtain⟨c,rfl⟩:=Ze.1 b;rw[XH c,Yt]
theorem aF2{α:Type}{a:List<|List α}{i:Nat}{x:List α}(b:a[i]?=some x): (a.take<|i+1).flatten=(a.take i).flatten++x:=by
 rw[YX,b];simp
theorem aFi(c:List<|List Aaa)(g:c.length<=1000)(i a:Nat)(f:a+(c.drop i).flatten.length<=100000): aB (λn m=>qN gJ n m (c,ln c) ((a:Int),(i:Int))) λr=>r=((a+(c.drop i).flatten.length:Nat):Int):=
 bZ<|bB (λx k o=>by
  have e:=rS k;rw[e,Zh] at f;have l:wr ((a:Int)+ln x)=((a+x.length:Nat):Int):=by rw[wr,ln,i64_in _<|by omega];push_cast;rfl
  rw[l,cA<|by omega];refine aC (λh=>?_) λ_=>?_
  .have:=Zl h;omega
  .refine (aFi c g (i+1) (a+x.length)<|by omega).imp λr j=>?_;rw[j,e,Zh,Yu])
  (λd=>aA<|by rw[Xo d];rfl)
termination_by c.length-i
theorem aFh(a:List<|List Aaa)(o:a.length<=1000)(N:Nat)(g:N<=100000)(i:Nat)(l:List Aaa)(k:Nat)(q:l.length=N)(d:l.take k=(a.take i).flatten)(j:k=(a.take i).flatten.length)(h:k+(a.drop i).flatten.length=N): aB (λn m=>qN gI n m (a,ln a) (l,(0,k),(i:Int))) λr=>win r.1 (some r.2)=a.flatten:=
 bZ<|bB (λx f p=>by
  have e:=rS f;rw[e,Zh] at h;rw[cA<|by omega];have c:=aF2 f;refine aF (x:=aP l k x) (by unfold MW;rw[Zu<|by simp only[Z0];omega,Z0])<|aFh a o N g (i+1) _ (k+x.length) (by simp[aP];omega) ?_ (by rw[c,Zh,j]) (by omega);unfold aP;rw[c,<-d,<-Ye,Yg<|by simp;omega,ZW<|by simp;omega])
  (λb=>aA<|by
   show (l.drop 0).take k=a.flatten;rw[YD,d,ZW b])
termination_by a.length-i
theorem aJq(a:List<|List Aaa)(c:a.length<=1000)(g:0<a.flatten.length)(d:a.flatten.length<=100000): aB (λn _=>lD n a) λr=>r=a.flatten:=by
 refine aX (λ_=>rfl)<|aE (bA<|aFi a c 0 0<|by simpa using d) λv e=>?_;have f:v=((a.flatten.length:Nat):Int):=by rw[e];simp
 have e2:wr (v-0)=((a.flatten.length:Nat):Int):=by rw[f,wr,i64_in _<|by omega];omega
 refine aS (Q:=λ_=>False) (R:=λr=>r=(List.replicate a.flatten.length ⟨0,0⟩,(0,0))) (aU<|aC (λh=>by have:=Zl h;omega) λ_=>aC (λ_=>?_) λh=>by rw[e2] at h;have:=Zp h;omega) (λ_ h=>h.elim) λr b=>?_
 .refine aF (x:=List.replicate a.flatten.length ⟨0,0⟩) (by rw[e2];unfold rep;rw[Zu<|by omega];simp)<|aC (λh=>?_) λ_=>aF (x:=(0,0)) (by unfold sub;rw[Zu<|by simp];rfl)<|aA rfl;rw[Vd] at h;have:=congrArg List.length h;rw[Yo,Z1] at this;omega
 .subst b;exact aF rfl<|aE (bA<|aFh a c a.flatten.length d 0 _ 0 (by simp) (by simp) (by simp)<|by simp) λr b=>aA b
def dQ(p:aM)(id:Int): List Aaa×Int:=match (MV p id).2&&(kG p (MV p id).1.From).2&&(kG p (MV p id).1.To).2 with
 | true=>([(kG p (MV p id).1.From).1.At]++(MV p id).1.Via++[(kG p (MV p id).1.To).1.At],0)
 | false=>([],7)
theorem aBP(p:aM)(a:Sm p)(id:Int): (MV p id).1.Via.length<=300:=by
 unfold MV;split
 .rename_i x h;exact a.v x<|Xf h
 .simp
theorem V2(p:aM)(a:Sm p)(id:Int): aB (λn _=>eZ n p id) λr=>r=dQ p id:=by
 have k:=aBP p a id;refine aX (λ_=>rfl)<|aE (aJy p a id) λl j=>?_;subst j;refine aC (λc=>aE (NC p a _) λg f=>?_) λc=>aE (NC p a _) λg f=>?_;all_goals subst f;all_goals refine aC (λb=>aE (NC p a _) λi e=>?_) λb=>aE (NC p a _) λi e=>?_;all_goals subst e;all_goals refine aC (λd=>aE (Q:=λ_=>True) (aA trivial) λ_ _=>?_) λd=>aE (Q:=λ_=>True) (aA trivial) λ_ _=>?_
 .refine aE (aJq _ (by simp) (by simp)<|by simp;omega) λr h=>aA ?_;unfold dQ;rw[c,b,d,h];simp
 all_goals (refine aA ?_;unfold dQ;rw[c,b,d];rfl)
theorem Ht(p:aM)(a:Sm p)(id:Int): (dQ p id).1.length<=302:=by
 have b:=aBP p a id;unfold dQ;split
 .simp;omega
 .simp
theorem wJ{p:aM}{id:Int}(h:(dQ p id).2=0): 2<=(dQ p id).1.length:=by
 unfold dQ at h |-;split
 .simp
 .rename_i a;rw[a] at h;cases h
def aG9(l:List Aaa): Prop:=∀(j:Nat) (x y:Aaa),l[j]?=some x->l[j+1]?=some y->x≠y
structure uV(s:aY): Prop where
 h0:0<=s.at_
 h1:s.at_.toNat+1<s.line.path.length
 h2:s.line.path.length<=302
theorem aHi(x:aR)(l:List Aaa)(v:Int): aB (λn _=>Dm n (x,l,v)) λr=>r=false->v=0:=by
 refine aC (λ_=>aA<|by simp) λh=>aC (λ_=>aC (λ_=>aA<|by simp) λ_=>aA λ_=>?_) λ_=>aA λ_=>?_;all_goals simpa using h
theorem aAq(v:List Aaa)(g:J4)(p:g.path=v)(C:2<=v.length)(t:v.length<=302)(i:Nat)(l:List aY)(B:Nat)(A:l.length<=B+i/\B<=100000)(F:i+1<=v.length)(u:∀s∈l,uV s)(q:∀(j:Nat) (x y:Aaa),j<i->v[j]?=some x->v[j+1]?=some y->x≠y):
 aB (λn m=>zN mR n m (v,g,wr<|ln v-1) (l,(i:Int)))<|Su (λ_=>True) λr=>r.length<=B+302/\(∀s∈r,uV s)/\aG9 v:=by
 have z:wr (ln v-1)=((v.length-1:Nat):Int):=by rw[wr,ln,i64_in _<|by omega];omega
 refine cC<|aC (λh=>?_) λh=>aA ⟨by omega,u,λj x y E w=>q j x y ?_ E w⟩
 .have D:i<v.length-1:=by rw[z] at h;have:=Zl h;omega
  rw[cA<|by omega];refine aF (x:=v[i]) (by rw[bF];exact Zb<|by omega)<|aF (x:=v[i+1]) (by rw[bF];exact Zb<|by omega)<|aC (λ_=>aA trivial) λf=>aF (Il<|by omega) ?_;refine aAq v g p C t (i+1) _ B ⟨by simp;omega,A.2⟩ (by omega) ?_ ?_
  .intro s o;rcases ZD.1 o with h | h
   .exact u s h
   .rw[ZJ.1 h];exact⟨by show (0:Int)<=(i:Int);omega,by show (i:Int).toNat+1<g.path.length;rw[p];omega,by show g.path.length<=302;rw[p];exact t⟩
  .intro j a b G e d;by_cases k:j=i
   .subst k;rw[Zb<|by omega] at e d;cases e;cases d;exact Zp f
   .exact q j a b (by omega) e d
 .rw[z] at h;have:=Zp h;have:=(Ze.1 w).1;omega
termination_by v.length-i
theorem aAr(p:aM)(d:Sm p)(i:Nat)(u:i<=p.Arcs.length)(l:List aY)(A:l.length<=302*i)(g:∀s∈l,uV s)(k:yY p.Arcs i λa=>(dQ p a.ID).2=0/\aG9 (dQ p a.ID).1):
 aB (λn m=>lm3 mS n m (p,p.Arcs,ln p.Arcs) (l,(i:Int)))<|Su (λ_=>True) (Su (λ_=>True) λr=>r.length<=100000/\(∀s∈r,uV s)/\∀a∈p.Arcs,(dQ p a.ID).2=0/\aG9 (dQ p a.ID).1):=by
 have z:=d.a;refine aD1<|bB (λx o q=>aE (V2 p d x.ID) λv c=>aE (aHi _ v.1 v.2) λr t=>aC (λ_=>aA trivial) λh=>?_) λf=>aA ⟨?_,g,k.fin f⟩
 .have b:=t h;rw[cA<|by omega];refine aS (bA<|aAq v.1 ⟨x,v.1⟩ rfl (by rw[c] at b |-;exact wJ b) (by rw[c];exact Ht p d x.ID) 0 l (302*i) ⟨by omega,by omega⟩ (by rw[c] at b |-;have:=wJ b;omega) g λj x y h=>by omega) (λ_ _=>aA trivial) λw e=>?_;exact aAr p d (i+1) (by omega) w (by have:=e.1;omega) e.2.1<|k.step o ⟨by rw[c] at b;exact b,by have:=e.2.2;rw[c] at this;exact this⟩
 .omega
termination_by p.Arcs.length-i
theorem aMP(p:aM)(c:Sm p): aB (λn _=>Cn n p) λr=>(r.2=true->r.1.length<=100000/\(∀s∈r.1,uV s)/\∀a∈p.Arcs,(dQ p a.ID).2=0/\aG9 (dQ p a.ID).1):=
 aX (λ_=>rfl)<|aS (bA<|aAr p c 0 (by omega) [] (by simp) (by simp) yY.nil) (λ_ _=>aF rfl<|aA<|by simp) λw b=>aS (aA b) (λ_ _=>aF rfl<|aA<|by simp) λv d=>aF rfl<|aA λ_=>d
theorem tA{α:Type}{l:List α}{i:Int}(a:0<=i)(h:i.toNat<l.length): idx l i=some l[i.toNat]:=by
 unfold idx;rw[Zu a];exact Zb h
def VS(s:aY): Aaa×Aaa:=(s.line.path.getD s.at_.toNat ⟨0,0⟩,s.line.path.getD (s.at_.toNat+1) ⟨0,0⟩)
theorem VR(s:aY)(a:uV s): aB (λn _=>dG n s) λr=>r=VS s:=by
 have e:=a.h0;have c:=a.h1;have g:=a.h2;have b:wr (s.at_+1)=s.at_+1:=i64_in _ (by omega);have e2:(s.at_+1).toNat=s.at_.toNat+1:=by omega
 have d:idx s.line.path s.at_=some (s.line.path.getD s.at_.toNat ⟨0,0⟩):=by rw[tA e<|by omega,YS,Zb<|by omega];rfl
 have f:idx s.line.path (wr<|s.at_+1)=some (s.line.path.getD (s.at_.toNat+1) ⟨0,0⟩):=by
  rw[b];unfold idx;rw[Zu<|by omega,e2,YS,Zb c];rfl
 exact aX (λ_=>rfl)<|aF d<|aF f<|aA rfl
theorem aCj(s:aY)(b:uV s): aB (λn _=>gC n s) λr=>r=pH (VS s).1.X (VS s).2.X:=
 aX (λ_=>rfl)<|aE (VR s b) λr a=>aA<|by rw[a]
theorem aNV(s:aY)(a:uV s): Tt λn _=>oK n s:=
 aX (λ_=>rfl)<|aE (VR s a) λr b=>aA trivial
theorem aPK(s t:aY)(f:uV s)(c:uV t): aB (λn _=>oL n s t) λr=>r=CL (pH (VS s).1.X (VS s).2.X) (pH (VS t).1.X (VS t).2.X):=
 aX (λ_=>rfl)<|aE (aCj s f) λa e=>aE (aCj t c) λb d=>aE (hJ a b) λr g=>aA<|by rw[g,e,d]
theorem tB{b:Bool}(h:b=true): Ks b=some ():=by subst h;rfl
theorem NN(l:List Aab)(b:l.length<=300)(i:Nat)(m:List<|Int×Aaa): Tt λn k=>qN qD n k (l,ln l) (m,(i:Int)):=
 bZ<|bB (λx d a=>by
  rw[cA<|by omega];exact NN l b (i+1) _)
  (λc=>aA trivial)
termination_by l.length-i
theorem aKj(m:List<|Int×Aaa)(x y:aY)(b:uV x)(a:uV y): aB (λn _=>Mf n (m,x,y))<|Su (λ_=>True) λ_=>True:=by
 refine aU<|aE (VR x b) λ_ _=>aE (VR y a) λ_ _=>?_;repeat' first
  | exact aA trivial
  | refine aC (λ_=>?_) (λ_=>?_)
  | refine n7 ?_
  | refine bE λ_=>?_
theorem M3(m:List<|Int×Aaa)(x:aY)(l:List aY)(b:uV x)(c:∀s∈l,uV s)(d:l.length<=100000)(i:Nat): aB (λn k=>zN qB n k (m,x,l,ln l) (i:Int))<|Su (λ_=>True) λ_=>True:=
 cC<|bB (λy f e=>by
  have a:=c y<|Zg f;rw[cA<|by omega];refine aE (aCj y a) λ_ _=>aE (aNV x b) λ_ _=>aC (λ_=>aA trivial) λ_=>aS (aKj m x y b a) (λ_ _=>aC (λ_=>M3 m x l b c d<|i+1) λ_=>aA trivial) λ_ _=>M3 m x l b c d<|i+1)
  (λg=>aA trivial)
termination_by l.length-i
instance aUa{s:aY}{x:Aab}{a b:Aaa}: TC (λn=>Md n (s,x,a,b)):=⟨by repeat' first | exact aA trivial | refine aC (λ_=>?_) (λ_=>?_) | refine bE λ_=>?_⟩
theorem aEh(x:aY)(a:uV x)(l:List Aab)(c:l.length<=300)(i:Nat): aB (λn m=>zN qA n m (x,l,ln l) (i:Int))<|Su (λ_=>True) λ_=>True:=
 cC<|bB (λy e b=>by
  rw[cA<|by omega];exact aE (VR x a) λ_ _=>bE λ_=>aC (λ_=>aA trivial) λ_=>aEh x a l c<|i+1)
  (λd=>aA trivial)
termination_by l.length-i
theorem aEi(p:aM)(e:Sm p)(m:List<|Int×Aaa)(l:List aY)(d:∀s∈l,uV s)(j:l.length<=100000)(i:Nat): aB (λn k=>lm3 qC n k (p,m,l,l,ln l) (i:Int))<|Su (λ_=>True)<|Su (λ_=>True) λ_=>True:=
 aD1<|bB (λy g f=>by
  have c:=d y<|Zg g;rw[cA<|by omega];refine aF (aIO (a:=i+1) (b:=l.length) (by omega)<|Zf _)<|aS (bA<|M3 m y _ c (λs h=>d s<|Z7<|ZZ h) (by simp;omega) 0) (λ_ _=>aS (bA<|aEh y c _ e.n 0) (λ_ _=>aA trivial) λ_ _=>aEi p e m l d j<|i+1) λ_ _=>aA trivial)
  (λo=>aA trivial)
termination_by l.length-i
theorem aH2(p:aM)(c:Sm p): aB (λn _=>Mg n p) λr=>r=true->∀a∈p.Arcs,(dQ p a.ID).2=0/\aG9 (dQ p a.ID).1:=by
 refine aX (λ_=>rfl)<|aE (aMP p c) λv b=>aC (λh=>aE (bA<|NN _ c.n 0 []) λw _=>aU ?_) λ_=>aA (by simp);have b:=b h;refine aF (tB<|Yj<|by have:=b.1;omega)<|aE (QZ (F:=λn x y=>bnd (oL n x y) λh=>some h) (λx i y g=>aE (aPK x y (b.2.1 x i)<|b.2.1 y g) λ_ h=>aA h)<|aGS _ _) λl d=>?_;refine aS (MY (f:=λn=>Me n (p,w,l,l,ln l) 0)<|bA<|aEi p c w l (λs j=>b.2.1 s<|d.2 s j) (by rw[d.1];exact b.1) 0) (λ_ _=>aA<|by simp) λw e=>aS (aA e) (λ_ _=>aA<|by simp) λ_ _=>aA λ_=>b.2.2
theorem aFf(l:List aR)(e:l.length<=300)(i:Nat)(c:yY l i λa=>a.Via.length<=64): aB (λn m=>zN sX n m (l,ln l) (i:Int)) (Su (λ_=>True) λ_=>∀a∈l,a.Via.length<=64):=
 cC<|bB (λy f d=>by
  rw[cA<|by omega];exact aC (λ_=>aA trivial) λh=>aFf l e (i+1)<|c.step f<|by have:¬ln y.Via > 64:=Zp h;unfold ln at this;omega)
  (λb=>aA<|c.fin b)
termination_by l.length-i
structure sP(p:aM): Prop where
 leN:p.Nodes.length<=256
 leA:p.Arcs.length<=256
 leF:p.Faces.length<=64
 leV:∀a∈p.Arcs,a.Via.length<=64
 asN:Asc (p.Nodes.map Aab.ID)
 asA:Asc (p.Arcs.map aR.ID)
 asF:Asc p.Faces
 nuA:∀a∈p.Arcs,1<=a.ID/\a.ID<=1073741824
 nuN:∀x∈p.Nodes,1<=x.ID/\x.ID<=1073741824
 nuF:∀x∈p.Faces,1<=x/\x<=1073741824
 ptN:∀x∈p.Nodes,Iw x.At
 ptA:∀a∈p.Arcs,∀y∈a.Via,Iw y
 con:∀a∈p.Arcs,a.From∈p.Nodes.map Aab.ID/\a.To∈p.Nodes.map Aab.ID
 sid:∀a∈p.Arcs,(a.Left=0\/a.Left∈p.Faces)/\(a.Right=0\/a.Right∈p.Faces)
 pth:∀a∈p.Arcs,(dQ p a.ID).2=0/\aG9 (dQ p a.ID).1
theorem aFw(p:aM)(c:Sm p): aB (λn _=>Hq n p) λr=>r=0->sP p:=by
 have T:=c.n;have m:=c.a;have S:=c.f;refine aX (λ_=>rfl)<|aE (Q:=λr=>r=false->p.Nodes.length<=256/\p.Arcs.length<=256/\p.Faces.length<=64) ?_ λU H=>aC (λ_=>aA<|by simp) λI=>aS (bA<|aFf _ c.a 0 .nil) (λ_ _=>aA<|by simp) λ_ e=>aF rfl<|aE (aQf p c) λv M=>?_
 .refine aC (λ_=>aA<|by simp) λq=>aC (λ_=>aA<|by simp) λt=>aC (λ_=>aA<|by simp) λs=>aA λ_=>?_;have q:¬ln p.Nodes > 256:=Zp q;have t:¬ln p.Arcs > 256:=Zp t;have s:¬ln p.Faces > 64:=Zp s;unfold ln at q t s;omega
 subst M;refine aE (Q:=λr=>r=false->Asc (p.Nodes.map Aab.ID)/\Asc (p.Arcs.map aR.ID)/\Asc p.Faces) ?_ λw j=>aC (λ_=>aA<|by simp) λk=>aE (Q:=λr=>r=false->(∀x∈p.Nodes.map Aab.ID,1<=x/\x<=1073741824)/\(∀x∈p.Arcs.map aR.ID,1<=x/\x<=1073741824)/\(∀x∈p.Faces,1<=x/\x<=1073741824)/\(∀x∈p.Nodes,Iw x.At)/\∀a∈p.Arcs,∀y∈a.Via,Iw y) ?_ λz g=>aC (λ_=>aA<|by simp) λi=>aE (aOj p c (p.Nodes.map Aab.ID)<|by simp;omega) λu d=>aC (λb=>aA λh=>?_) λb=>aE (aH2 p c) λL l=>aC (λo=>aA λ_=>?_) λ_=>aA<|by simp
 .exact aE (aJa _<|by simp;omega) λw j=>aC (λk=>aE (aJa _<|by simp;omega) λz g=>aC (λi=>aE (aJa _<|by omega) λu d=>aC (λb=>aA λ_=>⟨j k,g i,d b⟩) λ_=>aA<|by simp) λ_=>aA<|by simp) λ_=>aA<|by simp
 .exact aE (aHQ _<|by simp;omega) λw j=>aC (λk=>aE (aHQ _<|by simp;omega) λz g=>aC (λi=>aE (aHQ _<|by omega) λu d=>aC (λb=>aE (aH3 p c) λL l=>aC (λo=>aA λ_=>⟨j k,g i,d b,(l o).1,(l o).2⟩) λ_=>aA<|by simp) λ_=>aA<|by simp) λ_=>aA<|by simp) λ_=>aA<|by simp
 .rw[h] at b;simp at b
 .have A:u=0:=by simpa using b
  let⟨C,F,E,B,O⟩:=g i;let⟨N,D,J⟩:=j k;let⟨G,R,K⟩:=H I;exact⟨G,R,K,e,N,D,J,λa m=>F _<|WV m,λa m=>C _<|WV m,E,B,O,(d A).1,(d A).2,l o⟩
def cr(ux uy vx vy:Int): Int:=ux*vy-uy*vx
theorem aMu(f c d b e a:Int): b*cr f c e a=a*cr f c d b+c*cr d b e a:=by
 unfold cr;simp only[Int.mul_sub];have g:a*(f*b)=b*(f*a):=by rw[XI,WE a b,XI]
 have e2:a*(c*d)=c*(d*a):=by rw[XI,WE a d]
 have h:b*(c*e)=c*(b*e):=XI _ _ _;omega
def Up(x y:Int): Prop:=0<y\/(y=0/\0<x)
theorem aDq{e b d a:Int}(f:Up e b)(g:Up d a)(h:cr e b d a > 0): 0<a:=by
 rcases g with c | ⟨c,i⟩
 .exact c
 .unfold cr at h;rw[c,Int.mul_zero] at h;have:0<=b*d:=by
   refine Int.mul_nonneg ?_ (by omega);rcases f with h | ⟨h,_⟩<;>omega
  omega
theorem aBF{i c j f g d:Int}(k:Up i c)(m:Up j f)(o:Up g d)(l:cr i c j f > 0)(n:cr j f g d > 0): cr i c g d > 0:=by
 have q:=aDq k m l;have p:=aDq m o n;have e:=aMu i c j f g d;have r:0<d*cr i c j f:=WT p l;have s:0<=c*cr j f g d:=Int.mul_nonneg (by rcases k with h | ⟨h,_⟩<;>omega) (by omega);have t:0<f*cr i c g d:=by omega
 rcases Int.lt_or_le 0 (cr i c g d) with h | h
 .exact h
 .have:=Xi (a:=f) (b:=cr i c g d) (by omega) h;omega
theorem aIQ{i a g d f b:Int}(n:Up i a)(p:Up g d)(q:Up f b)(s:¬cr i a g d > 0)(m:¬cr g d f b > 0): ¬cr i a f b > 0:=by
 intro o;have k:0<b:=aDq n q o;have l:0<=a:=by rcases n with h | ⟨h,_⟩<;>omega
 rcases p with c | ⟨c,j⟩
 .have e:=aMu i a g d f b;have r:0<d*cr i a f b:=WT c o;have t:b*cr i a g d<=0:=Xi (by omega) (by omega);have u:a*cr g d f b<=0:=Xi l (by omega);omega
 .unfold cr at m;rw[c,Int.zero_mul] at m;have:=WT j k;omega
theorem aIP(c d a b:Int): cr (-c) (-d) (-a) (-b)=cr c d a b:=by
 unfold cr;rw[Int.neg_mul_neg,Int.neg_mul_neg]
def Dv(o p:Aaa): Bool:=decide (p.Y<o.Y)||(p.Y==o.Y&&decide (p.X<o.X))
def twE(o a b:Aaa): Int:=cr (a.X-o.X) (a.Y-o.Y) (b.X-o.X)<|b.Y-o.Y
def pN(o a b:Aaa): Bool:=if Dv o a != Dv o b then Dv o b else decide (twE o a b > 0)
theorem KN{o p:Aaa}(h:Dv o p=false)(b:p≠o): Up (p.X-o.X)<|p.Y-o.Y:=by
 simp only[Dv,WU,Wx,Bool.and_eq_false_iff,X5] at h;by_cases c:p.Y=o.Y
 .refine .inr ⟨by omega,?_⟩;have:p.X≠o.X:=by
   intro d;apply b;cases p;cases o;simp_all
  rcases h.2 with h | h
  .exact absurd c h
  .omega
 .exact .inl<|by omega
theorem KO{o p:Aaa}(h:Dv o p=true): Up (-(p.X-o.X)) (-(p.Y-o.Y)):=by
 simp only[Dv,YU,Z4,Zd,ZC] at h;rcases h with h | ⟨b,a⟩
 .exact .inl<|by omega
 .exact .inr ⟨by omega,by omega⟩
theorem aKB{o a b c:Aaa}(j:a≠o)(i:b≠o)(k:c≠o)(d:pN o a b=true)(e:pN o b c=true): pN o a c=true:=by
 unfold pN at d e |-;cases g:Dv o a<;>cases f:Dv o b<;>cases h:Dv o c<;>rw[g,f] at d<;>rw[f,h] at e<;>simp only[Wf,Zn,Z9,Bool.true_bne,Bool.false_bne,X3,Zz,Xg,Z4] at d e |-
 .exact aBF (KN g j) (KN f i) (KN h k) d e
 .unfold twE at d e |-;rw[<-aIP] at d e |-;exact aBF (KO g) (KO f) (KO h) d e
theorem aKC{o a b c:Aaa}(j:a≠o)(i:b≠o)(k:c≠o)(d:pN o a b=false)(e:pN o b c=false): pN o a c=false:=by
 unfold pN at d e |-;cases g:Dv o a<;>cases f:Dv o b<;>cases h:Dv o c<;>rw[g,f] at d<;>rw[f,h] at e<;>simp only[Wf,Zn,Z9,Bool.true_bne,Bool.false_bne,X3,Zz,Xg,Wx,Bool.true_eq_false] at d e |-
 .exact aIQ (KN g j) (KN f i) (KN h k) d e
 .unfold twE at d e |-;rw[<-aIP] at d e |-;exact aIQ (KO g) (KO f) (KO h) d e
theorem aKD(o a:Aaa): pN o a a=false:=by
 unfold pN twE cr;rw[Wf,ZF<|by simp,WE];simp
theorem aPT{x y:Int}{B:Nat}(a:-(B:Int)<=x/\x<=B)(b:-(B:Int)<=y/\y<=B): -((B*B:Nat):Int)<=x*y/\x*y<=((B*B:Nat):Int):=by
 have h:(x*y).natAbs<=B*B:=by rw[Int.natAbs_mul];exact Y8 (by omega)<|by omega
 omega
theorem aMI{o a b:Aaa}(e:Iw o)(c:Iw a)(d:Iw b): twV o a b=twE o a b:=by
 let⟨o1,m,n,l⟩:=e;let⟨g,j,p,h⟩:=c;let⟨r,f,k,s⟩:=d;have i:=aPT (B:=2097152) (x:=a.X-o.X) (y:=b.Y-o.Y) ⟨by omega,by omega⟩ ⟨by omega,by omega⟩;have q:=aPT (B:=2097152) (x:=a.Y-o.Y) (y:=b.X-o.X) ⟨by omega,by omega⟩ ⟨by omega,by omega⟩;unfold twV twE cr;simp only[wr];rw[i64_in (a.X-o.X)<|by omega,i64_in (b.Y-o.Y)<|by omega,i64_in (a.Y-o.Y)<|by omega,i64_in (b.X-o.X)<|by omega,i64_in ((a.X-o.X)*(b.Y-o.Y))<|by omega,i64_in ((a.Y-o.Y)*(b.X-o.X))<|by omega,i64_in _<|by omega]
theorem N9(o p:Aaa): aB (λn _=>gO n o p) λr=>r=Dv o p:=by
 refine aX (λ_=>rfl)<|aE (Q:=λr=>r=Dv o p) ?_ λr c=>aC (λh=>aA<|by rw[<-c,h]) λh=>aA (by rw[<-c,h]);unfold Dv;refine aC (λh=>aA<|by rw[h];rfl) λh=>aC (λa=>aC (λb=>aA<|by rw[h,a,b];rfl) λb=>aA<|by rw[h,a,b];rfl) λa=>aA<|by rw[h,a];rfl
theorem Iw.near{x:Aaa}(h:Iw x): aAJ x:=by let⟨b,c,a,d⟩:=h;exact⟨by omega,by omega,by omega,by omega⟩
theorem aGA(o a b:Aaa)(j:Iw o)(f:Iw a)(g:Iw b)(e:a≠o)(d:b≠o): aB (λn _=>FC n (o,a,b)) λr=>r=false:=by
 refine aE (aCP [o,a,b]<|by simp) λr i=>aC (λ_=>aC (λh=>absurd (Zl h) e) λ_=>aC (λh=>absurd (Zl h) d) λ_=>aA rfl) λh=>?_;rw[i (by
  intro x c;rcases ZN.1 c with rfl | c
  .exact j.near
  rcases ZN.1 c with rfl | c
  .exact f.near
  .rw[ZJ.1 c];exact g.near)] at h
 cases h
theorem aJm(o a b:Aaa)(q:Iw o)(p:Iw a)(s:Iw b)(m:a≠o)(f:b≠o): aB (λn _=>Pd n o a b) λr=>r=pN o a b:=by
 refine aX (λ_=>rfl)<|aE (aGA o a b q p s m f) λr v=>aC (λh=>by rw[v] at h;cases h) λ_=>aE (N9 o a) λw c=>?_;have tw:Dv o a=Dv o b->aB (λn _=>bnd (gN n o a b) λh=>cd (h > 0) (some true)<|some false) λr=>r=pN o a b:=by
  intro e;refine aE (aDI o a b) λt k=>?_;rw[aMI q p s] at k;subst k;refine aC (λh=>aA ?_) λh=>aA ?_<;>(unfold pN;rw[e];simp_all)
 have u:Dv o a≠Dv o b->aB (λn _=>bnd (gO n o b) λi=>cnd i (some true)<|some false) λr=>r=pN o a b:=by
  intro e;refine aE (N9 o b) λt k=>?_;refine aC (λh=>aA ?_) λh=>aA ?_<;>(unfold pN;rw[Zu<|by simpa using e];simp_all)
 refine aC (λl=>?_) λl=>?_;all_goals
  refine aE (N9 o b) λx d=>aC (λj=>?_) λj=>?_;all_goals
   refine aC (λg=>?_) λg=>?_;all_goals
    first
    | exact absurd (Zl g) (by decide)
    | exact absurd rfl (Zp g)
    | exact tw (by rw[<-c,<-d,l,j])
    | exact u (by rw[<-c,<-d,l,j];decide)
theorem Asc.lt{l:List Int}(h:Asc l): ∀(d i:Nat) (x y:Int),l[i]?=some x->l[i+d+1]?=some y->x<y
 | 0,i,x,y,b,a=>h i x y b a
 | d+1,i,x,y,b,a=>by
  have c:i+d+1<l.length:=by have:=(Ze.1 a).1;omega
  have f:=Asc.lt h d i x _ b<|Zb c;have e:=h (i+d+1) _ y (Zb c) (by rw[show i+d+1+1=i+(d+1)+1 by omega];exact a);omega
theorem Asc.inj{α:Type}{f:α->Int}{l:List α}(h:Asc<|l.map f){a b:α}(p:a∈l)(o:b∈l)(e:f a=f b): a=b:=by
 let⟨i,n⟩:=Yi.1 p;let⟨j,c⟩:=Yi.1 o;have m:(l.map f)[i]?=some (f a):=by rw[Zk,n];rfl
 have k:(l.map f)[j]?=some (f b):=by rw[Zk,c];rfl
 rcases Nat.lt_trichotomy i j with g | d | g
 .have:=h.lt (j-i-1) i _ _ m (by rw[show i+(j-i-1)+1=j by omega];exact k);omega
 .subst d;rw[n] at c;cases c;rfl
 .have:=h.lt (i-j-1) j _ _ k (by rw[show j+(i-j-1)+1=i by omega];exact m);omega
theorem aL4{p:aM}(c:sP p){a:aR}(b:a∈p.Arcs): MV p a.ID=(a,true):=by
 unfold MV;cases h:p.Arcs.find? λx=>x.ID==a.ID with
 | none=>
  have:=W4.1 h a b;simp at this
 | some x=>
  have e:=Xf h;have d:x.ID=a.ID:=by have:=List.find?_some h;simpa using this
  rw[c.asA.inj e b d]
theorem Pa{p:aM}{id:Int}(h:id∈p.Nodes.map Aab.ID): (kG p id).2=true/\(kG p id).1∈p.Nodes:=by
 unfold kG;cases a:p.Nodes.find? λx=>x.ID==id with
 | none=>
  obtain⟨x,b,rfl⟩:=Yh.1 h;have:=W4.1 a x b;simp at this
 | some x=>exact⟨rfl,Xf a⟩
theorem aEn{p:aM}(b:sP p){a:aR}(c:a∈p.Arcs): (dQ p a.ID).1=[(kG p a.From).1.At]++a.Via++[(kG p a.To).1.At]:=by
 let⟨g,d⟩:=b.con a c;have f:=(Pa g).1;have e:=(Pa d).1;unfold dQ;rw[aL4 b c];simp only[f,e,Xr]
theorem aKp{p:aM}(c:sP p){a:aR}(d:a∈p.Arcs): ∀x∈(dQ p a.ID).1,Iw x:=by
 let⟨f,e⟩:=c.con a d;rw[aEn c d];intro x b;rcases ZD.1 b with b | b
 .rcases ZD.1 b with b | b
  .rw[ZJ.1 b];exact c.ptN _ (Pa f).2
  .exact c.ptA a d x b
 .rw[ZJ.1 b];exact c.ptN _ (Pa e).2
def fR(p:aM)(d:Int): Prop:=∃a∈p.Arcs,d=a.ID\/d=-a.ID
structure aD9(p:aM)(o:Aaa)(i:Nat)(l:List Int)(tw:List (Int×Aaa)): Prop where
 len:l.length<=2*i
 dart:∀d∈l,fR p d
 tow:∀d∈l,∃q,cK tw d=some q/\Iw q/\q≠o
theorem aD9.add{p:aM}{o:Aaa}{i:Nat}{l:List Int}{tw:List<|Int×Aaa}{d:Int}{q:Aaa}(g:fR p d)(f:Iw q)(c:q≠o)(k:l.length<=2*i+1)(j:∀d∈l,fR p d)(h:∀d∈l,∃q,cK tw d=some q/\Iw q/\q≠o):
 (l++[d]).length<=2*i+2/\(∀e∈l++[d],fR p e)/\∀e∈l++[d],∃q',cK (kS tw d q) e=some q'/\Iw q'/\q'≠o:=by
 refine⟨by simp;omega,?_,?_⟩
 .intro e he;rcases ZD.1 he with he | he
  .exact j e he
  .rw[ZJ.1 he];exact g
 .intro e he;rw[wN];by_cases a:d=e
  .rw[Zu a];exact⟨q,rfl,f,c⟩
  .rw[ZF a];rcases ZD.1 he with he | he
   .exact h e he
   .exact absurd (ZJ.1 he).symm a
theorem s9(l:List Int)(tw:List<|Int×Aaa)(d:Int)(q:Aaa)(h:l.length<=100000): aB (λn _=>nW n (l,tw,d,q)) λr=>r=(l++[d],kS tw d q):=
 aU<|aF (l7 h)<|aA rfl
theorem aCd(p:aM)(H:Sm p)(t:sP p)(id:Int)(v:Aab×Bool)(o:v=kG p id)(i:Nat)(l:List Int)(tw:List<|Int×Aaa)(g:aD9 p v.1.At i l tw)(hi:i<=p.Arcs.length): aB (λn m=>qN kL n m (p,id,p.Arcs,ln p.Arcs) (l,tw,(i:Int))) λr=>r.1.length<=600/\(∀d∈r.1,fR p d)/\∀d∈r.1,∃q,cK r.2 d=some q/\Iw q/\q≠v.1.At:=by
 have ha:=H.a;refine bZ<|bB (λx Z a2=>?_) λa1=>aA ⟨by have:=g.len;show l.length<=600;omega,g.dart,g.tow⟩;have c:=Zg Z;have W:=t.nuA x c;have e0:wr (0-x.ID)=-x.ID:=by rw[wr,i64_in _<|by omega];omega
 rw[cA<|by omega,e0];have e:∀I j,aD9 p v.1.At (i+1) I j->aB (λn m=>qN kL n m (p,id,p.Arcs,ln p.Arcs) (I,j,((i+1:Nat):Int))) λr=>r.1.length<=600/\(∀d∈r.1,fR p d)/\∀d∈r.1,∃q,cK r.2 d=some q/\Iw q/\q≠v.1.At:=λI j T=>aCd p H t id v o (i+1) I j T (by omega);have f:aD9 p v.1.At (i+1) l tw:=⟨by have:=g.len;omega,g.dart,g.tow⟩;refine aE (Q:=λ_=>True) ?_ λr _=>aC (λ_=>e _ _ f) λ_=>aE (V2 p H x.ID) λw R=>aC (λ_=>e _ _ f) λ_=>?_
 .repeat' first
   | exact aA trivial
   | refine aC (λ_=>?_) (λ_=>?_)
 subst R;have u:=aKp t c;have z:=(t.pth x c).2;have h2:=wJ (t.pth x c).1;have K:=Ht p H x.ID;have k:=aEn t c;have C:∃q,(dQ p x.ID).1[1]?=some q:=⟨_,Zb<|by omega⟩;have E:∃q,(dQ p x.ID).1[(dQ p x.ID).1.length-2]?=some q:=⟨_,Zb<|by omega⟩;let⟨G,C⟩:=C;let⟨D,E⟩:=E;have i1:idx (dQ p x.ID).1 1=some G:=C;have U:wr (ln (dQ p x.ID).1-2)=(((dQ p x.ID).1.length-2:Nat):Int):=by rw[wr,i64_in _<|by unfold ln;omega];unfold ln;omega
 have M:idx (dQ p x.ID).1 (wr<|ln (dQ p x.ID).1-2)=some D:=by rw[U,bF];exact E
 have X:Iw G:=u _<|Zg C;have O:Iw D:=u _<|Zg E;have z0:(dQ p x.ID).1[0]?=some (kG p x.From).1.At:=by rw[k];rfl
 have S:(dQ p x.ID).1[(dQ p x.ID).1.length-2+1]?=some (kG p x.To).1.At:=by
  have:(dQ p x.ID).1.length-2+1=([(kG p x.From).1.At]++x.Via).length:=by rw[k];simp
  rw[this,k,ZX<|Zf _,XR];rfl
 have V:x.From=id->G≠v.1.At:=by
  intro h;rw[o,<-h];exact (z 0 _ _ z0 C).symm
 have J:x.To=id->D≠v.1.At:=by
  intro h;rw[o,<-h];exact z _ _ _ E S
 have d1:fR p x.ID:=⟨x,c,.inl rfl⟩;have L:fR p (-x.ID):=⟨x,c,.inr rfl⟩;have Y:=g.len;refine aC (λN=>?_) λN=>aC (λy=>?_) λy=>e _ _ f
 .have A:=aD9.add (i:=i) d1 X (V<|Wi N) (by omega) g.dart g.tow;refine aF i1<|aE (s9 l tw _ G<|by omega) λs F=>?_;subst F;refine aC (λy=>?_) λy=>e _ _ ⟨by have:=A.1;omega,A.2.1,A.2.2⟩;have B:=aD9.add (l:=l++[x.ID]) (tw:=kS tw x.ID G) (i:=i) L O (J<|Wi y) (by simp;omega) A.2.1 A.2.2;refine aF M<|aE (s9 _ _ _ D<|by simp;omega) λs F=>?_;subst F;exact e _ _ ⟨by have:=B.1;omega,B.2.1,B.2.2⟩
 .have A:=aD9.add (i:=i) L O (J<|Wi y) (by omega) g.dart g.tow;refine aF M<|aE (s9 l tw _ D<|by omega) λs F=>?_;subst F;exact e _ _ ⟨by have:=A.1;omega,A.2.1,A.2.2⟩
termination_by p.Arcs.length-i
def aBI(o a b:Aaa): Int:=if pN o a b=true then -1 else if pN o b a=true then 1 else 0
theorem i4{o a b:Aaa}: aBI o a b<0↔pN o a b=true:=by
 unfold aBI;split<;>(try split)<;>simp_all
theorem aJx(p:aM)(u:Sm p)(A:sP p)(id:Int): aB (λn _=>Li n p id) λr=>r.length<=600/\∀d∈r,fR p d:=by
 refine aX (λ_=>rfl)<|aE (NC p u id) λv j=>aC (λb=>aE (bA<|aCd p u A id v j 0 [] [] ⟨by simp,by simp,by simp⟩<|by omega) λw m=>aU<|aF (tB<|Yj<|by have:=m.1;omega) ?_) λ_=>aA (by simp);have k:Iw v.1.At:=by
  rw[j] at b |-;unfold kG at b |-;cases h:p.Nodes.find? λx=>x.ID==id with
  | none=>rw[h] at b;cases b
  | some x=>exact A.ptN x<|Xf h
 have E:∀x∈w.1,∀y∈w.1,aB (λn _=>bnd (vO n (v.1,w.2,x,y)) λi=>some i) λr=>r=aBI v.1.At ((cK w.2 x).getD ⟨0,0⟩) ((cK w.2 y).getD ⟨0,0⟩):=by
  have a:∀x∈w.1,Iw ((cK w.2 x).getD ⟨0,0⟩)/\(cK w.2 x).getD ⟨0,0⟩≠v.1.At:=by
   intro x c;let⟨D,q,e2,t⟩:=m.2.2 x c;rw[q];exact⟨e2,t⟩
  intro x c y f;refine aE (Q:=λr=>r=aBI v.1.At ((cK w.2 x).getD ⟨0,0⟩) ((cK w.2 y).getD ⟨0,0⟩)) (aU ?_) λr e=>aA e;refine aE (aJm v.1.At ((cK w.2 x).getD ⟨0,0⟩) ((cK w.2 y).getD ⟨0,0⟩) k (a x c).1 (a y f).1 (a x c).2 (a y f).2) λr e=>aC (λh=>aA ?_) λh=>aE (aJm v.1.At ((cK w.2 y).getD ⟨0,0⟩) ((cK w.2 x).getD ⟨0,0⟩) k (a y f).1 (a x c).1 (a y f).2 (a x c).2) λG l=>aC (λg=>aA ?_) λg=>aA ?_
  .unfold aBI;rw[Zu<|by rw[<-e,h]]
  .unfold aBI;rw[ZF<|by rw[<-e,h];simp,Zu<|by rw[<-l,g]]
  .unfold aBI;rw[ZF<|by rw[<-e,h];simp,ZF<|by rw[<-l,g];simp]
 have B:Swo (λx y=>aBI v.1.At ((cK w.2 x).getD ⟨0,0⟩)<|(cK w.2 y).getD ⟨0,0⟩) w.1:=by
  have a:∀x∈w.1,(cK w.2 x).getD ⟨0,0⟩≠v.1.At:=by
   intro x c;let⟨D,q,e2,t⟩:=m.2.2 x c;rw[q];exact t
  refine⟨λx c=>?_,λx c y f z s o g=>?_,λx c y f z s o g=>?_⟩
  .rw[i4,aKD];simp
  .rw[i4] at *;exact aKB (a x c) (a y f) (a z s) o g
  .rw[i4,Bool.not_eq_true] at *;exact aKC (a x c) (a y f) (a z s) o g
 exact aE (QZ (F:=λn x y=>bnd (vO n (v.1,w.2,x,y)) λi=>some i) E B) λr e=>aA ⟨by rw[e.1];exact m.1,λd C=>m.2.1 d<|e.2 d C⟩
theorem aA6(l:List Int)(d:Int)(f:l.length<=1000): Tt λn _=>vN n l d:=by
 refine aX (λ_=>rfl)<|aE (aFs l d<|by omega) λr a=>aC (λ_=>aA trivial) λh=>?_;have i:0<=r:=by have:=Zp h;omega
 have g:r.toNat<l.length:=by rcases a with a | a<;>omega
 have c:wr (wr (r+ln l)-1)=r+(l.length:Int)-1:=by unfold wr ln;rw[i64_in (r+_)<|by omega,i64_in _<|by omega]
 rw[c];have e2:aFA (r+(l.length:Int)-1) (ln l)=some ((r+(l.length:Int)-1).tmod (l.length:Int)):=by unfold aFA ln;rw[ZF<|by omega]
 have b:0<=(r+(l.length:Int)-1).tmod (l.length:Int):=Int.tmod_nonneg _ (by omega);have e:(r+(l.length:Int)-1).tmod (l.length:Int)<(l.length:Int):=Int.tmod_lt_of_pos _ (by omega);exact aF e2<|aF (tA b<|by omega)<|aA trivial
theorem aHX{V:Type}{m:List<|Int×V}{k:Int}{v:V}(h:cK m k=some v): v∈m.map Prod.snd:=by
 induction m with
 | nil=>cases h
 | cons a r b=>
  simp only[cK] at h;split at h
  .cases h;exact ZM ..
  .exact ZQ _<|b h
theorem aHS{V:Type}(m:List<|Int×V)(k:Int)(v:V): (kS m k v).length<=m.length+1:=by
 induction m with
 | nil=>simp[kS]
 | cons a r b=>
  simp only[kS];split
  .simp
  .simp only[Yc];omega
theorem aFu(p:aM)(v:List Int)(f:v.length<=600)(b:∀d∈v,fR p d)(B:Nat)(c:B<=190000)(i:Nat)(o:i<=v.length)(l:List Int)(m:List<|Int×Int)(s:l.length<=B+i)(q:m.length<=B+i)(a:∀d∈l,fR p d):
 aB (λn k=>qN pX n k (v,v,ln v) (l,m,(i:Int))) λr=>r.1.length<=B+600/\r.2.length<=B+600/\∀d∈r.1,fR p d:=
 bZ<|bB (λd h j=>aF (Il<|by omega) (aE (aA6 v d<|by omega) λw _=>by
  rw[cA<|by omega];refine aFu p v f b B c (i+1) (by omega) _ _ (by simp;omega) (by have:=aHS m (wr<|0-d) w;omega) ?_;intro e he;rcases ZD.1 he with he | he
  .exact a e he
  .rw[ZJ.1 he];exact b d<|Zg h))
  (λg=>aA ⟨by show l.length<=_;omega,by show m.length<=_;omega,a⟩)
termination_by v.length-i
theorem aFv(p:aM)(b:Sm p)(e:sP p)(i:Nat)(t:i<=p.Nodes.length)(l:List Int)(m:List<|Int×Int)(j:l.length<=600*i)(o:m.length<=600*i)(f:∀d∈l,fR p d):
 aB (λn k=>qN pY n k (p,p.Nodes,ln p.Nodes) (l,m,(i:Int))) λr=>r.1.length<=180000/\r.2.length<=180000/\∀d∈r.1,fR p d:=by
 have s:=b.n;refine bZ<|bB (λx q h=>aE (aJx p b e x.ID) λw c=>aE (bA<|aFu p w c.1 c.2 (600*i) (by omega) 0 (by omega) l m (by omega) (by omega) f) λr a=>?_) λg=>aA ⟨by show l.length<=_;omega,by show m.length<=_;omega,f⟩;rw[cA<|by omega];exact aFv p b e (i+1) (by omega) r.1 r.2 (by have:=a.1;omega) (by have:=a.2.1;omega) a.2.2
termination_by p.Nodes.length-i
theorem aIT{p q:Int->Bool}{d:Int}: ∀(l:List Int),(∀x,q x=true->p x=true)->d∈l->p d=true->q d=false->l.countP q<l.countP p
 | [],_,h,_,_=>by cases h
 | a::l,b,h,i,g=>by
  have e:∀l:List Int,l.countP q<=l.countP p:=λl=>List.countP_mono_left λx _ h=>b x h;rw[Ve,Ve];rcases ZN.1 h with rfl | h
  .rw[i,g];have:=e l;simp;omega
  .have:=aIT l b h i g;by_cases f:q a=true
   .rw[f,b a f];simp;omega
   .rw[ZF f];omega
def nX(m:List<|Int×Bool)(k:Int): Bool:=!(cK m k).getD false
theorem aBr(p:aM)(v:List<|Int×Int)(V:List Int)(f:∀k,(cK v k).getD 0∈V)(g:V.length<=800000)(seen:List<|Int×Bool)(a:List Int)(d:Int)(j:d∈V)(o:a.length+V.countP (nX seen)<=800000):
 aB (λn k=>qN pV n k v (seen,a,d)) λr=>∃t,r.2=a++t/\r.2.length+V.countP (nX r.1)<=a.length+V.countP (nX seen)/\((cK seen d).getD false=false->∃i,t=d::i):=by
 refine bZ<|aC (λh=>aA ⟨[],by simp,Zf _,λc=>by rw[h] at c;cases c⟩) λh=>aF (Il<|by omega) ?_;have m:V.countP (nX<|kS seen d true)<V.countP (nX seen):=by
  refine aIT V (λx b=>?_) j (by unfold nX;rw[h];rfl) (by unfold nX;rw[wN,Zu rfl];rfl);unfold nX at b |-;rw[wN] at b;split at b
  .cases b
  .exact b
 refine (aBr p v V f g (kS seen d true) (a++[d]) ((cK v d).getD 0) (f d)<|by simp;omega).imp ?_;rintro r ⟨t,l,c,_⟩;exact⟨d::t,by rw[l];simp,by simp only[Zh,Yc,Z1] at c;omega,λ_=>⟨t,rfl⟩⟩
termination_by V.countP<|nX seen
def dV(v:List Int×List (Int×Int)): List Int:=v.1++0::v.2.map Prod.snd
theorem V7(p:aM)(v:List Int×List (Int×Int))(s:v.1.length<=180000)(u:v.2.length<=180000)(e:∀d∈v.1,fR p d)(i:Nat)(G:i<=v.1.length)(l:List<|List Int)(m:List<|Int×Bool)(H:l.length<=i)(z:l.flatten.length+(dV v).countP (nX m)<=400000)(g:∀c∈l,c.length<=800000/\∃d t,c=d::t/\fR p d):
 aB (λn k=>qN pW n k (v.2,hU v.1,ln<|hU v.1) (l,m,(i:Int))) λr=>r.1.length<=180000/\r.1.flatten.length<=400000/\∀c∈r.1,c.length<=800000/\∃d t,c=d::t/\fR p d:=by
 have y:=sF v.1;refine bZ<|bB (λd B F=>?_) λE=>aA ⟨by show l.length<=_;omega,by show l.flatten.length<=_;omega,g⟩;rw[cA<|by omega];have b:d∈v.1:=(D4 v.1).mem_iff.1<|Zg B;refine aC (λ_=>V7 p v s u e (i+1) (by omega) l m (by omega) z g) λx=>?_;have A:∀k,(cK v.2 k).getD 0∈dV v:=by
  intro k;unfold dV;cases D:cK v.2 k with
  | none=>simp
  | some w=>exact List.mem_append_right _<|ZQ _<|aHX D
 have o:(dV v).length<=400000:=by simp[dV];omega
 refine aE (Q:=λr=>∃t,r.2=d::t/\r.2.length+(dV v).countP (nX r.1)<=(dV v).countP (nX m)) (aU<|aE (bA<|aBr p v.2 (dV v) A (by omega) m [] d (List.mem_append_left _ b)<|by simp only[Z1];omega) λr j=>aA ?_) λr j=>aF (Il<|by omega) ?_
 .let⟨t,h,q,C⟩:=j;obtain⟨f,rfl⟩:=C x;exact⟨f,by simpa using h,by simpa using q⟩
 let⟨f,h,q⟩:=j;refine V7 p v s u e (i+1) (by omega) _ _ (by simp;omega) ?_ ?_
 .rw[Xw,Zh,show[r.2].flatten=r.2 by simp];omega
 intro c a;rcases ZD.1 a with a | a
 .exact g c a
 .rw[ZJ.1 a];exact⟨by omega,d,f,h,e d b⟩
termination_by v.1.length-i
decreasing_by all_goals (have:=sF v.1;omega)
theorem aQy{v:List Int×List (Int×Int)}(c:v.1.length<=180000)(d:v.2.length<=180000){m:List<|Int×Bool}: ([]:List<|List Int).flatten.length+(dV v).countP (nX m)<=400000:=by
 have b:(dV v).countP (nX m)<=(dV v).length:=List.countP_le_length;have a:(dV v).length<=400000:=by simp[dV];omega
 simp only[Xd,Z1];omega
def aM5(p:aM)(l:List<|List Int): Prop:=l.length<=180000/\l.flatten.length<=400000/\∀c∈l,c.length<=800000/\∃d t,c=d::t/\fR p d
theorem aCa(p:aM)(b:Sm p): aB (λn _=>zB n p) λr=>r.2=0->sP p/\aM5 p r.1:=by
 refine aX (λ_=>rfl)<|aE (aFw p b) λc i=>aC (λh=>aA λe=>?_) λh=>?_
 .rw[show c=0 from e] at h;simp at h
 .have d:=i (by simpa using h);exact aE (bA<|aFv p b d 0 (by omega) [] [] (by simp) (by simp)<|by simp) λv a=>aU<|aF (tB<|Yj<|by have:=a.1;omega)<|aE (MY (f:=λn=>Lh n (v.2,hU v.1,ln<|hU v.1) ([],[],0))<|bA<|V7 p v a.1 a.2.1 a.2.2 0 (by omega) [] [] (by simp) (aQy a.1 a.2.1)<|by simp) λr g=>aA λ_=>⟨d,g⟩
structure HZ(p:aM)(m:List (Int×List Aaa)): Prop where
 has:∀a∈p.Arcs,∃l,cK m a.ID=some l/\2<=l.length
 len:∀k l,cK m k=some l->l.length<=302
theorem aA5(p:aM)(d:Sm p)(g:sP p)(i:Nat)(m:List<|Int×List Aaa)(s:∀(j:Nat) (a:aR),j<i->p.Arcs[j]?=some a->∃l,cK m a.ID=some l/\2<=l.length)(t:∀k l,cK m k=some l->l.length<=302): aB (λn k=>qN lG n k (p,p.Arcs,ln p.Arcs) (m,(i:Int))) λr=>HZ p r:=by
 have y:=d.a;refine bZ<|bB (λx f u=>aE (V2 p d x.ID) λw q=>aC (λ_=>?_) λh=>?_) λo=>aA ⟨yY.fin (l:=p.Arcs) (i:=i) (Q:=λ(a:aR)=>∃l,cK m a.ID=some l/\2<=l.length) s o,t⟩
 .rw[cA<|by omega];subst q;refine aA5 p d g (i+1) _ (λj a v b=>?_) λk l e=>?_
  .rw[wN];by_cases he:x.ID=a.ID
   .rw[Zu he];exact⟨_,rfl,wJ (g.pth x<|Zg f).1⟩
   .rw[ZF he];refine s j a ?_ b;rcases ZI j i with h | h
    .exact h
    .have:j=i:=by omega
     subst this;rw[f] at b;cases b;exact absurd rfl he
  .rw[wN] at e;split at e
   .cases e;exact Ht p d _
   .exact t k l e
 .subst q;rw[(g.pth x<|Zg f).1] at h;simp at h
termination_by p.Arcs.length-i
theorem F0(p:aM)(c:Sm p)(b:sP p): aB (λn _=>oC n p) λr=>HZ p r:=
 aX (λ_=>rfl)<|aE (bA<|aA5 p c b 0 [] (λj a h=>by omega) λk l h=>by cases h) λr d=>aA d
theorem aBQ(p:aM)(a:Sm p)(d:Int): Tt λn _=>Gs n p d:=
 aX (λ_=>rfl)<|aC (λ_=>aA trivial) λ_=>aC (λ_=>aA trivial) λ_=>aE (aJy p a _) λ_ _=>aC (λ_=>aA trivial) λ_=>aA trivial
theorem o4(p:aM)(a:Sm p)(d:Int): Tt λn _=>Cz n p d:=
 aX (λ_=>rfl)<|aE (aBQ p a d) λ_ _=>aC (λ_=>aC (λ_=>aA trivial) λ_=>aA trivial) λ_=>aA trivial
theorem aFo(v:List Aaa)(k:Int)(c:k=wr (ln v-1))(f:2<=v.length)(e:v.length<=1000)(i:Nat)(s:Int): Tt λn m=>qN sQ n m (v,k) (s,(i:Int)):=by
 have g:wr (ln v-1)=((v.length-1:Nat):Int):=by unfold wr ln;rw[i64_in _<|by omega];omega
 refine bZ<|aC (λh=>?_) λh=>aA trivial;have d:i<v.length-1:=by rw[c,g] at h;have:=Zl h;omega
 have b:idx v (i:Int)=some v[i]:=by rw[bF];exact Zb<|by omega
 have a:idx v ((i+1:Nat):Int)=some v[i+1]:=by rw[bF];exact Zb<|by omega
 rw[cA<|by omega];exact aF b<|aF a<|aF a<|aF b<|aFo v k c f e (i+1) _
termination_by v.length-i
theorem U1(p:aM)(e:Sm p)(c:List Int)(f:c.length<=512)(i:Nat)(s:Int): aB (λn m=>zN sS n m (p,c,ln c) (s,(i:Int)))<|Su (λ_=>True) λ_=>True:=
 cC<|bB (λd k j=>aE (aBQ p e d) λw _=>aC (λ_=>aE (V2 p e _) λv g=>aC (λ_=>aA trivial) λb=>by
  rw[cA<|by omega];have a:v.2=0:=by simpa using b
  refine aE (bA<|aFo v.1 _ rfl (by rw[g] at a |-;exact wJ a) (by rw[g];have:=Ht p e<|iP d<|wr<|0-d;omega) 0 0) λt _=>aC (λ_=>U1 p e c f (i+1) _) λ_=>U1 p e c f (i+1) _) λ_=>aA trivial)
  (λh=>aA trivial)
termination_by c.length-i
theorem aG4(p:aM)(a:Sm p)(c:List Int): Tt λn _=>pU n p c:=
 aX (λ_=>rfl)<|aC (λ_=>aA trivial) λh=>aS (bA<|U1 p a c (by have h:¬ln c > 512:=Zp h;unfold ln at h;omega) 0 0) (λ_ _=>aA trivial) λ_ _=>aF rfl<|aA trivial
section
variable {a b c:Aaa}
instance aUz: TC (λn=>mG n (a,b,c)):=⟨by repeat' first | exact aA trivial | refine aC (λ_=>?_) (λ_=>?_) | refine bE λ_=>?_⟩
instance aUy: TC (λn=>mF n (a,b,c)):=⟨by repeat' first | exact aA trivial | refine aC (λ_=>?_) (λ_=>?_) | refine bE λ_=>?_⟩
end
theorem aLg(a x y:Aaa)(b c:Bool): Tt λn _=>mH n (a,b,c,x,y):=by
 refine aU ?_;repeat' first | exact aA trivial | refine aC (λ_=>?_) (λ_=>?_) | refine bE λ_=>?_
theorem aET(a:Aaa)(l:List Aaa)(g:l.length<=1000)(i:Nat)(q:1<=i)(p f:Bool): Tt λn k=>qN eG n k (a,l) (p,f,(i:Int)):=by
 refine bZ<|aC (λh=>?_) λ_=>aA trivial;have b:(i:Int)<ln l:=Zl h;have b:i<l.length:=by unfold ln at b;omega
 have j:wr ((i:Int)-1)=((i-1:Nat):Int):=by rw[wr,i64_in _<|by omega];omega
 rw[cA<|by omega,j];have c:∀e d,Tt λn k=>qN eG n k (a,l) (e,d,((i+1:Nat):Int)):=λe d=>aET a l g (i+1) (by omega) e d;have o:idx l ((i-1:Nat):Int)=some (l[i-1]'(by omega)):=by rw[bF];exact Zb<|by omega
 have m:idx l (i:Int)=some l[i]:=by rw[bF];exact Zb<|by omega
 exact aF o<|aF m<|aE (aLg _ _ _ _ _) λ_ _=>aC (λ_=>aC (λ_=>c _ _) λ_=>c _ _) λ_=>aC (λ_=>c _ _) λ_=>c _ _
termination_by l.length-i
def r6(m:List<|Int×List Aaa): Prop:=∀k l,cK m k=some l->l.length<=302
theorem r6.d{m:List<|Int×List Aaa}(h:r6 m)(k:Int): ((cK m k).getD []).length<=1000:=by
 cases e:cK m k with
 | none=>simp
 | some l=>have:=h k l e;show l.length<=_;omega
theorem aEU(m:List<|Int×List Aaa)(f:r6 m)(c:List Int)(g:c.length<=800000)(a:Aaa)(i:Nat)(e b:Bool): Tt λn k=>qN fO n k (a,m,c,ln c) (e,b,(i:Int)):=
 bZ<|bB (λd l j=>by
  rw[cA<|by omega];exact aE (bA<|aET a _ (f.d _) 1 (by omega) e b) λ_ _=>aEU m f c g a (i+1) _ _)
  (λh=>aA trivial)
termination_by c.length-i
theorem aLf(m:List<|Int×List Aaa)(d:r6 m)(c:List Int)(b:c.length<=800000)(a:Aaa): Tt λn _=>eK n m c a:=
 aX (λ_=>rfl)<|aE (Q:=λ_=>True) (aU<|aE (bA<|aEU m d c b a 0 false false) λ_ _=>aA trivial) λ_ _=>aC (λ_=>aC (λ_=>aA trivial) λ_=>aA trivial) λ_=>aC (λ_=>aA trivial) λ_=>aA trivial
theorem aDb(m:List<|Int×List Aaa)(e:r6 m)(l:List Ix)(f:∀x∈l,x.outer.length<=800000)(a:Aaa)(b i:Nat)(g:b<l.length)(d:i<l.length): Tt λn _=>sH n (a,m,l,(b:Int),(i:Int)):=by
 have c:idx l (i:Int)=some l[i]:=by rw[bF];exact Zb d
 have e2:idx l (b:Int)=some l[b]:=by rw[bF];exact Zb g
 have k:Tt λn _=>eK n m l[i].outer a:=aLf m e _ (f _<|ZP d) a;exact aC (λ_=>aF c<|aE k λ_ _=>aC (λ_=>aA trivial) λ_=>aA trivial) λ_=>aF c<|aF e2<|aC (λ_=>aF c<|aE k λ_ _=>aC (λ_=>aA trivial) λ_=>aA trivial) λ_=>aA trivial
theorem LF(m:List<|Int×List Aaa)(d:r6 m)(l:List Ix)(f:∀x∈l,x.outer.length<=800000)(g:l.length<=800000)(a:Aaa)(b i:Nat)(e:b<l.length): aB (λn k=>qN iB n k (a,m,l) ((b:Int),(i:Int))) λr=>0<=r/\r.toNat<l.length:=
 bZ<|aC (λh=>by
  have c:(i:Int)<ln l:=Zl h;have c:i<l.length:=by unfold ln at c;omega
  rw[cA<|by omega];exact aE (aDb m d l f a b i e c) λ_ _=>aC (λ_=>LF m d l f g a i (i+1) c) λ_=>LF m d l f g a b (i+1) e)
  (λj=>aA<|show 0<=(b:Int)/\(b:Int).toNat<l.length from⟨by omega,by simpa using e⟩)
termination_by l.length-i
theorem aEM(m:List<|Int×List Aaa)(c:r6 m)(l:List Ix)(d:∀x∈l,x.outer.length<=800000)(e:l.length<=800000)(f:0<l.length)(a:Aaa): aB (λn _=>eF n m l a) λr=>0<=r/\r.toNat<l.length:=
 aX (λ_=>rfl)<|aE (bA<|LF m c l d e a 0 1 f) λr b=>aA b
theorem V6(l:List aR)(a:l.length<=300)(id:Int)(i:Nat)(s:Int): Tt λn m=>qN qJ n m (id,l,ln l) (s,(i:Int)):=
 bZ<|bB (λd e b=>by
  rw[cA<|by omega];refine aE (Q:=λ_=>True) ?_ λ_ _=>aC (λ_=>V6 l a id (i+1) _) λ_=>V6 l a id (i+1) _;exact aC (λ_=>aA trivial) λ_=>aA trivial)
  (λc=>aA trivial)
termination_by l.length-i
theorem J5(p:aM)(b:Sm p)(id:Int): Tt λn _=>kE n p id:=
 aX (λ_=>rfl)<|aE (bA<|V6 p.Arcs b.a id 0 0) λ_ _=>aA trivial
structure aOQ(l:List dP)(b c:Nat): Prop where
 al:∀a∈l,a.alone.length<=c
 sz:∀a∈l,a.outer.length+a.inner.flatten.length<=400000
 l1:1<=l.length
 l2:l.length<=200000
 ou:∀a∈l,a.outer.length<=800000
 inn:∀a∈l,a.inner.length<=b/\∀c∈a.inner,c.length<=800000
 ne:∀(i:Nat) (a:dP),1<=i->l[i]?=some a->a.outer≠[]
def Sw: Prop:=∀(p:aM) (cs:List<|List Int) (m:List<|Int×List Aaa),Sm p->sP p->aM5 p cs->HZ p m->aB (λn _=>iU n p cs m) λr=>aOQ r 200000 300
theorem aIN(a:dP)(h:a.inner.length<=200000): aB (λn _=>fP n a) λr=>r=a.outer::a.inner:=
 aX (λ_=>rfl)<|aF (CO (l:=[a.outer]) (m:=a.inner)<|by simp;omega)<|aA rfl
section
variable (p:aM)(hp:Sm p)(lf:List Int)(v:Int)
include hp
theorem aEP(c:List Int)(a:c.length<=800000)(i:Nat): aB (λn m=>zN oD n m (p,lf,v,c,ln c) (i:Int))<|Su (λ_=>True) λ_=>True:=
 cC<|bB (λd g b=>aE (o4 p hp d) λ_ _=>by
  rw[cA<|by omega];exact aC (λ_=>aA trivial) λ_=>aEP c a<|i+1)
  (λe=>aA trivial)
termination_by c.length-i
theorem Q2(a:List<|List Int)(g:a.length<=800000)(b:∀c∈a,c.length<=800000)(i:Nat): aB (λn m=>zN oE n m (p,lf,v,a,ln a) (i:Int))<|Su (λ_=>True) λ_=>True:=
 cC<|bB (λc e d=>aS (bA<|aEP p hp lf v c (b c<|Zg e) 0) (λ_ _=>aA trivial) λ_ _=>aF rfl<|by
  rw[cA<|by omega];exact Q2 a g b<|i+1)
  (λf=>aA trivial)
termination_by a.length-i
end
theorem aAM{V:Type}(k:Int)(v:V): ∀m:List<|Int×V,cK m k=none->(kS m k v).length=m.length+1
 | [],_=>rfl
 | a::r,h=>by
  simp only[cK] at h;split at h
  .cases h
  .rename_i b;simp only[kS];rw[ZF b];simp only[Yc];rw[aAM k v r h]
theorem Q3(p:aM)(q:Sm p)(l:List dP)(o:aOQ l 200000 300)(i:Nat)(R:i<=l.length)(lf:List Int)(g:List<|Int×Bool)(K:lf.length=i)(E:g.length=i-1)(j:∀k v,cK g k=some v->v=true): aB (λn m=>zN oF n m (p,l,ln l) (lf,g,(i:Int)))<|Su (λ_=>True) λr=>r.1.length=l.length/\r.2.length=l.length-1:=by
 have O:=o.l2;refine cC<|bB (λa I N=>?_) λL=>aA (show lf.length=l.length/\g.length=l.length-1 by omega);have y:=Zg I;have D:=o.inn a y;have B:=o.ou a y;have f:∀w,w=a.outer::a.inner->w.length<=800000/\∀c∈w,c.length<=800000:=by
  rintro w rfl;refine⟨by simp;omega,λc H=>?_⟩;rcases ZN.1 H with rfl | H
  .exact B
  .exact D.2 c H
 rw[cA<|by omega];refine aC (λb=>?_) λb=>?_
 .have F:1<=i:=by have:(i:Int) > 0:=Zl b;omega
  have G:=o.ne i a F I;let⟨d,t,C⟩:∃d t,a.outer=d::t:=by
   cases h:a.outer with
   | nil=>exact absurd h G
   | cons d t=>exact⟨d,t,rfl⟩
  refine aF (x:=d) (by rw[C];rfl)<|aE (o4 p q d) λv _=>aE (Q:=λr=>r=false->(cK g v).getD false=false) ?_ λ_ M=>aC (λ_=>aA trivial) λJ=>aE (aIN a<|by omega) λw s=>aS (bA<|Q2 p q lf v w (f w s).1 (f w s).2 0) (λ_ _=>aA trivial) λ_ _=>aF rfl<|aF (Il<|by omega)<|Q3 p q l o (i+1) (by omega) _ _ (by simp;omega) ?_ ?_
  .exact aC (λ_=>aA<|by simp) λ_=>aC (λ_=>aA<|by simp) λh=>aA λ_=>h
  .have h:=M J;have:cK g v=none:=by
    cases e:cK g v with
    | none=>rfl
    | some w=>rw[e,j v w e] at h;cases h
   rw[aAM v true g this,E];omega
  .intro k u z;rw[wN] at z;split at z
   .cases z;rfl
   .exact j k u z
 .exact aE (aIN a<|by omega) λw s=>aS (bA<|Q2 p q lf 0 w (f w s).1 (f w s).2 0) (λ_ _=>aA trivial) λ_ _=>aF rfl<|aF (Il<|by omega)<|Q3 p q l o (i+1) (by omega) _ _ (by simp;omega) (by have:¬(i:Int) > 0:=Zp b;omega) j
termination_by l.length-i
theorem aLa(p:aM)(e:Sm p)(l:List dP)(c:aOQ l 200000 300): aB (λn _=>Hn n p l) λr=>r.2=true->r.1.length=l.length/\l.length=p.Faces.length+1:=
 aX (λ_=>rfl)<|aS (bA<|Q3 p e l c 0 (by omega) [] [] rfl rfl λ_ _ h=>by cases h) (λ_ _=>aA<|by simp) λr d=>aF rfl<|aC (λb=>aA λ_=>⟨d.1,by have:=c.l1;have f:=d.2;have b:ln r.2=ln p.Faces:=Wi b;unfold ln at b;omega⟩) λ_=>aA λh=>by cases h
def SzR(o:List Int)(i:List<|List Int)(a:List Int): Prop:=o.length+i.flatten.length<=400000/\(i.length<=200000/\∀c∈i,c.length<=800000)/\a.length<=300
theorem aMY(s:Sw)(p:aM)(g:Sm p): aB (λn _=>zF n p) λr=>r.2.2.2=0->sP p/\r.1.length=p.Faces.length+1/\r.2.1.length=r.1.length/\r.1.length<=200000/\∀a∈r.1,SzR a.outer a.inner a.alone:=by
 refine aX (λ_=>rfl)<|aE (aCa p g) λc o=>aC (λb=>aA λh=>?_) λb=>?_
 .rw[show c.2=0 from h] at b;simp at b
 .let⟨j,i⟩:=o (by simpa using b);exact aE (F0 p g j) λm q=>aE (s p c.1 m g j i q) λl d=>aE (aLa p g l d) λf k=>aC (λb=>aA λ_=>⟨j,(k b).2,(k b).1,d.l2,λa e=>⟨d.sz a e,⟨by have:=(d.inn a e).1;omega,(d.inn a e).2⟩,by have:=d.al a e;omega⟩⟩) λ_=>aA λh=>by cases h
theorem aFq(d:List Int)(b:List dP)(k:d.length=b.length)(j:b.length<=200000)(f:∀a∈b,SzR a.outer a.inner a.alone)(i:Nat)(l:List dR)(q:l.length=i)(e:∀r∈l,SzR r.Outer r.Inner r.Alone)(s:i<=b.length): aB (λn m=>qN lH n m (d,b,ln b) (l,(i:Int))) λr=>r.length=b.length/\r.length<=200000/\∀x∈r,SzR x.Outer x.Inner x.Alone:=by
 refine bZ<|bB (λa h g=>?_) λp=>aA ⟨show l.length=_ by omega,show l.length<=_ by omega,e⟩;let⟨y,o⟩:∃y,d[i]?=some y:=⟨_,Zb<|by omega⟩;rw[cA<|by omega];exact aF (by rw[bF];exact o)<|aF (Il<|by omega)<|aFq d b k j f (i+1) _ (by simp;omega) (by
  intro r c;rcases ZD.1 c with c | c
  .exact e r c
  .rw[ZJ.1 c];exact f a<|Zg h)<|by omega
termination_by b.length-i
theorem aQC(x y:dR): aB (λn _=>jL n x y) λr=>r=CL x.Face y.Face:=
 aX (λ_=>rfl)<|aE (hJ _ _) λr a=>aA a
theorem MZ(m:Sw)(p:aM)(s:Sm p): ∃v:List dR×Int,aB (λn _=>jZ n p) (λr=>r=v)/\(v.2=0->sP p/\v.1.length=p.Faces.length+1)/\(v.1.length<=200000/\∀x∈v.1,SzR x.Outer x.Inner x.Alone)/\aB (λn _=>Hp n p) λr=>r=v.2:=by
 let⟨v,e,g⟩:=(aMY m p s).val;have k:aB (λn _=>jZ n p) λr=>r.2=v.2.2.2/\(r.2=0->r.1.length=v.1.length)/\r.1.length<=200000/\∀x∈r.1,SzR x.Outer x.Inner x.Alone:=by
  refine aX (λ_=>rfl)<|aE g λw a=>?_;subst a;refine aC (λb=>aA ⟨rfl,λh=>by rw[show w.2.2.2=0 from h] at b;simp at b,by simp,by simp⟩) λb=>?_;have i:w.2.2.2=0:=by simpa using b
  let⟨_,_,u,j,q⟩:=e i;exact aE (bA<|aFq w.2.1 w.1 u j q 0 [] (by simp) (by simp)<|by omega) λl c=>aU<|aF (tB<|Yj<|by have:=c.2.1;omega)<|aE (QZ (F:=λn x y=>bnd (jL n x y) λh=>some h) (λx _ y _=>aE (aQC x y) λ_ h=>aA h)<|aGS _ _) λr f=>aA ⟨by rw[i],λ_=>by show r.length=_;rw[f.1];exact c.1,by show r.length<=_;rw[f.1];exact c.2.1,λx t=>c.2.2 x<|f.2 x t⟩
 let⟨w,a,d⟩:=k.val;exact⟨w,d,λh=>⟨(e<|a.1▸h).1,by rw[a.2.1 h];exact (e<|a.1▸h).2.1⟩,a.2.2,aX (λ_=>rfl)<|aE g λz o=>aA<|by rw[o,a.1]⟩
theorem aSm{c:Prop}[Decidable c]{x y:Nat×Nat}(b:1<=x.2/\x.2<=4)(a:1<=y.2/\y.2<=4): 1<=(if c then x else y).2/\(if c then x else y).2<=4:=by split<;>assumption
theorem aQw(s:ByteArray)(p:Nat)(h:p<s.size): 1<=(Utf8.decode s p).2/\(Utf8.decode s p).2<=4:=by
 unfold Utf8.decode;dsimp only;repeat' first
  | apply aSm
  | (show 1<=_/\_<=4;exact⟨by dsimp only;omega,by dsimp only;omega⟩)
theorem aS4{α:Type}{P:α->Prop}{f:Nat->Nat->Option α}(h:aB f P): Tt f:=h.imp λ_ _=>trivial
theorem aBW(a:Int)(b:vI)(i:Nat): aB (λn m=>zN oS n m (a,b) (i:Int))<|Su (λ_=>True) λ_=>True:=
 cC<|aC (λh=>by
  have h:(i:Int)<13:=Zl h;have h:i<13:=by omega
  rw[cA<|by omega];refine aF (x:=([b.e0,b.e1,b.e2,b.e3,b.e4,b.e5,b.e6,b.e7,b.e8,b.e9,b.e10,b.e11,b.e12]:List fY)[i]) (by rw[bF];exact Zb<|by simpa using h)<|aE (Q:=λ_=>True) ?_ λ_ _=>aC (λ_=>aA trivial) λ_=>aBW a b<|i+1;repeat' first
   | exact aA trivial
   | refine aC (λ_=>?_) (λ_=>?_)) λ_=>aA trivial
termination_by 13-i
theorem aBV(a:Int): Tt λn _=>uZ n a:=
 aX (λ_=>rfl)<|aC (λ_=>aA trivial) λ_=>aC (λ_=>aA trivial) λ_=>aS (bA<|aBW _ _ 0) (λ_ _=>aA trivial) λ_ _=>aF rfl<|aA trivial
theorem aBZ(s:ByteArray)(b:s.size<=1000)(i:Nat)(l:List Int)(d:l.length<=i)(e:i<=1010): aB (λn m=>zN oT n m () (l,(s,i)))<|Su (λ_=>True) λv=>v.1.length<=1010:=
 cC<|aC (λh=>by
  have h:i<s.size:=Zl h;have c:=aQw s i h;refine aE (aBV _) λ_ _=>aC (λ_=>aA trivial) λ_=>aF (l7<|by omega)<|aBZ s b (i+(Utf8.decode s i).2) _ (by simp;omega)<|by omega) λh=>aA<|show l.length<=1010 by omega
termination_by s.size-i
theorem aJp(s:ByteArray)(a:s.size<=1000): aB (λn _=>Hy n s) λr=>r.1.length<=1010:=
 aX (λ_=>rfl)<|aS (bA<|aBZ s a 0 [] (by simp)<|by omega) (λ_ _=>aA<|by simp) λv b=>aF rfl<|aA b
theorem aLn(s t:ByteArray)(h:s.size<=1000): Tt λn _=>H8 n s t:=
 ⟨_,trivial,1,λn m a _=>by
  obtain⟨n,rfl⟩:∃k,n=k+1:=⟨n-1,by omega⟩;show (match Nat.blt s.size 4294967281 with | true=>_ | false=>_)=_;rw[show Nat.blt s.size 4294967281=true from by rw[YC];omega]⟩
theorem aHm{s:ByteArray}{i:Int}(a:0<=i)(h:i.toNat<s.size): ∃c,sat s i=some c:=by
 unfold sat;rw[Zu a,Zb<|by simpa using h];exact⟨_,rfl⟩
theorem aE2(a b:List Int)(d:b.length<=100000)(i:Nat): aB (λn m=>zN wL n m (a,b,ln b) (i:Int))<|Su (λ_=>True) λ_=>True:=
 cC<|bB (λx f c=>aE (aBV x) λ_ _=>by
  rw[cA<|by omega];exact aC (λ_=>aA trivial) λ_=>aE2 a b d<|i+1)
  (λe=>aA trivial)
termination_by b.length-i
theorem aN0(s:ByteArray): Tt λn _=>wM n s:=by
 refine aX (λ_=>rfl)<|aE (Q:=λ_=>True) ?_ λ_ _=>aA trivial;refine aX (λ_=>rfl)<|aC (λ_=>aA trivial) λf=>aC (λ_=>aA trivial) λh=>?_;have h:¬((s.size:Nat):Int) > 40:=Zp h;have f:s≠(⟨#[]⟩:ByteArray):=Zp f;have m:0<s.size:=by
  rcases XB s.size with e | e
  .exfalso;apply f;cases s with
   | mk d=>cases d with
    | mk l=>cases l with
     | nil=>rfl
     | cons a l=>simp[ByteArray.size] at e
  .exact e
 let⟨c,j⟩:=aHm (s:=s) (i:=0) (by omega) (by simpa using m);have g:wr ((s.size:Int)-1)=(s.size:Int)-1:=by rw[wr,i64_in _<|by omega]
 let⟨d,k⟩:=aHm (s:=s) (i:=(s.size:Int)-1) (by omega) (by omega);refine aE (aJp s<|by omega) λb o=>aC (λ_=>aA trivial) λ_=>aE (Q:=λ_=>True) ?_ λ_ _=>aC (λ_=>aA trivial) λ_=>aS (bA<|aE2 b.1 b.1 (by omega) 0) (λ_ _=>aA trivial) λ_ _=>aF rfl<|aA trivial;exact aF j<|aC (λ_=>aA trivial) λ_=>aF (by rw[g];exact k)<|aC (λ_=>aA trivial) λ_=>aE (aLn s _<|by omega) λ_ _=>aC (λ_=>aA trivial) λ_=>aA trivial
instance aSb{s:ByteArray}: TC (λn=>wM n s):=⟨aN0 s⟩
structure Sv(s:aJ): Prop where
 p:Sm s.Plan
 n:s.Features.length<=1000
 f:∀f∈s.Features,f.Parts.length<=1000
abbrev Sx{β γ:Type}(f:Nat->Nat->Option (β⊕γ)): Prop:=aB f (Su (λ_=>True) λ_=>True)
instance aR2{x:Int}: TC (λn=>dD n x):=⟨aX (λ_=>rfl) (by repeat' first|apply dZ|apply aC|apply bE|intro)⟩
section
variable {f:aI}
instance fc1: TC (λn=>lR n f):=⟨by repeat' first|apply dZ|apply aC|apply bE|intro⟩
instance fc4: TC (λn=>lQ n f):=⟨by repeat' first|apply dZ|apply aC|apply bE|intro⟩
instance fc5: TC (λn=>lP n f):=⟨by repeat' first|apply dZ|apply aC|apply bE|intro⟩
instance aUv: TC (λn=>Ak n f):=⟨aU (by repeat' first|apply dZ|apply aC|apply bE|intro)⟩
instance aUu: TC (λn=>Ah n f):=⟨aU (by repeat' first|apply dZ|apply aC|apply bE|intro)⟩
instance aUt: TC (λn=>Ae n f):=⟨aU (by repeat' first|apply dZ|apply aC|apply bE|intro)⟩
instance aUs: TC (λn=>Aa n f):=⟨aU (by repeat' first|apply dZ|apply aC|apply bE|intro)⟩
instance aUr: TC (λn=>oV n f):=⟨aU (by repeat' first|apply dZ|apply aC|apply bE|intro)⟩
end
section
variable (l:List aI)(hl:l.length<=1000)
include hl
theorem aQm(i:Nat): Sx λn m=>zN lX n m (l,ln l) (i:Int):=
 cC<|bB (λx c a=>by
  rw[cA<|by omega];exact bE λ_=>aC (λ_=>aA trivial) λ_=>aQm<|i+1)
  (λb=>aA trivial)
termination_by l.length-i
theorem aSt: Sx λn _=>Am n l:=
 aU<|aS (f:=λn _=>Al n l) (Q:=λ_=>True) (R:=λ_=>True) (aU<|aS (bA<|aQm l hl 0) (λ_ _=>aA trivial) λ_ _=>aF rfl<|aA trivial) (λ_ _=>aC (λ_=>aA trivial) λ_=>aA trivial) λ_ _=>aF rfl<|aA trivial
theorem aQl(i:Nat): Sx λn m=>zN lW n m (l,ln l) (i:Int):=
 cC<|bB (λx c a=>by
  rw[cA<|by omega];exact bE λ_=>aC (λ_=>aA trivial) λ_=>aQl<|i+1)
  (λb=>aA trivial)
termination_by l.length-i
theorem aSs: Sx λn _=>Aj n l:=
 aU<|aS (f:=λn _=>Ai n l) (Q:=λ_=>True) (R:=λ_=>True) (aU<|aS (bA<|aQl l hl 0) (λ_ _=>aA trivial) λ_ _=>aF rfl<|aA trivial) (λ_ _=>aC (λ_=>aA trivial) λ_=>aA trivial) λ_ _=>aF rfl<|aA trivial
theorem aQk(i:Nat): Sx λn m=>zN lV n m (l,ln l) (i:Int):=
 cC<|bB (λx c a=>by
  rw[cA<|by omega];exact bE λ_=>aC (λ_=>aA trivial) λ_=>aQk<|i+1)
  (λb=>aA trivial)
termination_by l.length-i
theorem aSr: Sx λn _=>Ag n l:=
 aU<|aS (f:=λn _=>Af n l) (Q:=λ_=>True) (R:=λ_=>True) (aU<|aS (bA<|aQk l hl 0) (λ_ _=>aA trivial) λ_ _=>aF rfl<|aA trivial) (λ_ _=>aC (λ_=>aA trivial) λ_=>aA trivial) λ_ _=>aF rfl<|aA trivial
theorem aQj(i:Nat): Sx λn m=>zN lU n m (l,ln l) (i:Int):=
 cC<|bB (λx c a=>by
  rw[cA<|by omega];exact bE λ_=>aC (λ_=>aA trivial) λ_=>aQj<|i+1)
  (λb=>aA trivial)
termination_by l.length-i
theorem aSq: Sx λn _=>Ac n l:=
 aU<|aS (f:=λn _=>Ab n l) (Q:=λ_=>True) (R:=λ_=>True) (aU<|aS (bA<|aQj l hl 0) (λ_ _=>aA trivial) λ_ _=>aF rfl<|aA trivial) (λ_ _=>aC (λ_=>aA trivial) λ_=>aA trivial) λ_ _=>aF rfl<|aA trivial
theorem fI3(j:∀f∈l,f.Parts.length<=1000)(m:List<|Aac×Bool): Sx λn _=>El n (m,l):=by
 have o:∀(a:Int) (p:List Int) (d:p.length<=1000) (k i:Nat) (m:List<|Aac×Bool),p.length<=i+k->Sx (λn k=>zN mY n k (a,p,ln p) (m,(i:Int))):=by
  intro a p d k;induction k with
  | zero=>exact λi m h=>cC<|bB (λx c b=>by omega) λ_=>aA trivial
  | succ k e=>
   intro i m h;refine cC<|bB (λx c b=>?_) λ_=>aA trivial;rw[cA<|by omega];exact aC (λ_=>aA trivial) λ_=>e (i+1) _<|by omega
 have q:∀(m:List<|Aac×Bool) (f:aI),f.Parts.length<=1000->Sx (λn _=>Ej n (m,f)):=λm f d=>
  aU<|aS (f:=λn _=>Eh n f) (Q:=λ_=>True) (R:=λ_=>True) (bE λ_=>aC (λ_=>aA trivial) λ_=>aC (λ_=>aA trivial) λ_=>aA trivial) (λ_ _=>aA trivial) λ_ _=>aF rfl<|aS (bA<|o _ _ d _ 0 _<|Xh ..) (λ_ _=>aA trivial) λ_ _=>aF rfl<|aA trivial
 have g:∀(k i:Nat) (m:List<|Aac×Bool),l.length<=i+k->Sx (λn k=>zN mZ n k (l,ln l) (m,(i:Int))):=by
  intro k;induction k with
  | zero=>exact λi m h=>cC<|bB (λx c b=>by omega) λ_=>aA trivial
  | succ k e=>
   intro i m h;refine cC<|bB (λx c b=>?_) λ_=>aA trivial;rw[cA<|by omega];exact aS (q _ x<|j x<|Zg c) (λ_ _=>e (i+1) _<|by omega) λ_ _=>aF rfl<|aA trivial
 exact aU<|aS (f:=λn _=>Ek n (m,l)) (Q:=λ_=>True) (R:=λ_=>True) (aU<|aS (bA<|g _ 0 m<|Xh ..) (λ_ _=>aA trivial) λ_ _=>aF rfl<|aA trivial) (λ_ _=>aC (λ_=>aA trivial) λ_=>aA trivial) λ_ _=>aF rfl<|aA trivial
end
theorem s6(l:List Int)(x:Int)(b:l.length<=100000): aB (λn _=>kW n l x) λr=>r=decide (x∈l):=
 aX (λ_=>rfl)<|aE (yU l x b) λr a=>aC (λh=>aA<|by rw[<-a,h]) λh=>aA<|by rw[<-a,h]
theorem aN4(p:aM)(b:Sm p)(f:aI)(l:List Int)(j:l.length<=1000): Tt λn _=>mW n (p,f,l):=by
 have d:∀x:Int,Tt λn _=>wZ n (p,f,x):=λx=>
  aU<|bE λ_=>aC (λ_=>aE (NC p b x) λ_ _=>aC (λ_=>aA trivial) λ_=>aA trivial) λ_=>aC (λ_=>aE (aJy p b x) λ_ _=>aC (λ_=>aA trivial) λ_=>aA trivial) λ_=>aC (λ_=>aE (s6 p.Faces x<|by have:=b.f;omega) λ_ _=>aC (λ_=>aA trivial) λ_=>aA trivial) λ_=>aA trivial
 have c:∀(k i:Nat),l.length<=i+k->Sx (λn k=>zN gH n k (p,f,l,ln l) (i:Int)):=by
  intro k;induction k with
  | zero=>exact λi h=>cC<|bB (λx g a=>by omega) λ_=>aA trivial
  | succ k e=>
   intro i h;refine cC<|bB (λx g a=>?_) λ_=>aA trivial;rw[cA<|by omega];exact aE (d x) λ_ _=>aC (λ_=>aA trivial) λ_=>e (i+1)<|by omega
 exact aU<|aE (f:=λn _=>xA n (p,f,l)) (Q:=λ_=>True) (aU<|aS (bA<|c _ 0<|Xh ..) (λ_ _=>aA trivial) λ_ _=>aF rfl<|aA trivial) λ_ _=>aC (λ_=>aA trivial) λ_=>aA trivial
theorem fI9(s:aJ)(d:Sv s): Sx λn _=>Ei n (s,s.Features):=by
 have c:∀f∈s.Features,Tt λn _=>Ao n (s,f):=λf g=>
  aU<|aE (f:=λn _=>An n (s.Plan,f)) (Q:=λ_=>True) (aU<|aE (aN4 s.Plan d.p f f.Parts<|d.f f g) λ_ _=>aC (λ_=>aA trivial) λ_=>aA trivial) λ_ _=>aC (λ_=>aA trivial) λ_=>aA trivial
 have b:∀(k i:Nat),s.Features.length<=i+k->Sx (λn k=>zN lY n k (s,s.Features,ln s.Features) (i:Int)):=by
  have:=d.n;intro k;induction k with
  | zero=>exact λi h=>cC<|bB (λx e a=>by omega) λ_=>aA trivial
  | succ k j=>
   intro i h;refine cC<|bB (λx e a=>?_) λ_=>aA trivial;rw[cA<|by omega];exact aE (c x<|Zg e) λ_ _=>aC (λ_=>aA trivial) λ_=>j (i+1)<|by omega
 exact aU<|aS (f:=λn _=>Ap n (s,s.Features)) (Q:=λ_=>True) (R:=λ_=>True) (aU<|aS (bA<|b _ 0<|Xh ..) (λ_ _=>aA trivial) λ_ _=>aF rfl<|aA trivial) (λ_ _=>aC (λ_=>aA trivial) λ_=>aA trivial) λ_ _=>aF rfl<|aA trivial
theorem aMc(l:List Int)(a:l.length<=1000): aB (λn _=>sN n l) λr=>r=true->Asc l:=
 aX (λ_=>rfl)<|aS (bA<|k8 l a 1 (Zf _) λj x y h=>by omega) (λ_ _=>aA<|by simp) λ_ h=>aF rfl<|aA λ_=>h
theorem aSp(s:aJ)(g:Sv s): Sx λn _=>zZ n (s,0,s.Features):=by
 have q:=g.n;have b:∀(i:Nat) (f:aI),f∈s.Features->i<s.Features.length->Tt (λn _=>zU n (s,((i+1:Nat):Int),f)):=by
  intro i f m p;have j:=aMc f.Parts<|g.f f m;refine aC (λh=>?_) λ_=>aE j λ_ _=>aC (λ_=>aA trivial) λ_=>aA trivial;have h:((i+1:Nat):Int) > 1:=Zl h;have e:wr (((i+1:Nat):Int)-2)=((i-1:Nat):Int):=by rw[wr,i64_in _<|by omega];omega
  refine aF (x:=s.Features[i-1]'(by omega)) (by rw[e,bF];exact Zb<|by omega)<|aC (λ_=>aA trivial) λ_=>aE j λ_ _=>aC (λ_=>aA trivial) λ_=>aA trivial
 have c:∀(k i:Nat),s.Features.length<=i+k->Sx (λn k=>zN lT n k (s,s.Features,ln s.Features) ((i:Int),(i:Int))):=by
  intro k;induction k with
  | zero=>exact λi h=>cC<|bB (λx d a=>by omega) λ_=>aA trivial
  | succ k l=>
   intro i h;refine cC<|bB (λx d a=>?_) λ_=>aA trivial;rw[cA<|by omega];refine aE (f:=λn _=>zX n (s,(i:Int),x)) (Q:=λr=>r.1=((i+1:Nat):Int)) (aU ?_) λr o=>aC (λ_=>aA trivial) λ_=>by rw[o];exact l (i+1)<|by omega
   have e:=cA (i:=i) (by omega);have h:=b i x (Zg d) a;rw[<-e] at h |-;exact aE h λ_ _=>aC (λ_=>aA rfl) λ_=>aA rfl
 exact aU<|aS (f:=λn _=>zY n (s,0,s.Features)) (Q:=λ_=>True) (R:=λ_=>True) (aU<|aS (bA<|c _ 0<|Xh ..) (λ_ _=>aA trivial) λ_ _=>aF rfl<|aA trivial) (λ_ _=>aC (λ_=>aA trivial) λ_=>aA trivial) λ_ _=>aF rfl<|aA trivial
theorem Ip{β γ:Type}{f:Nat->Nat->Option (β⊕γ)}{N:Nat->Nat->Option Int}{q:β->Bool}{c:Int}(h:Sx f)(k:Tt N): Tt λn m=>Av.bnd2 (f n m) (λv=>Av.cnd (q v) (some c)<|N n m) λw=>Av.bnd (some w) λ_=>N n m:=
 aS h (λ_ _=>aC (λ_=>aA trivial) λ_=>k) λ_ _=>aF rfl k
theorem aSo(l:List aI)(m:l.length<=1000): aB (λn _=>zW n l) (Su (λv=>v.2=true) λ_=>∀f∈l,f.Parts.length<=64):=by
 have d:∀(k i:Nat),l.length<=i+k->yY l i (λf=>f.Parts.length<=64)->aB (λn k=>zN lS n k (l,ln l) (i:Int)) (Su (λv=>0<=v.2) λ_=>∀f∈l,f.Parts.length<=64):=by
  intro k;induction k with
  | zero=>exact λi h b=>cC<|bB (λx e c=>by omega) λa=>aA<|b.fin a
  | succ k g=>
   intro i h b;refine cC<|bB (λx e c=>?_) λa=>aA<|b.fin a;rw[cA<|by omega];refine aE (f:=λn _=>oV n x) (Q:=λr=>r=false->x.Parts.length<=64) (aU (aC (λ_=>aA<|by simp) λh=>aA λ_=>by have h:¬ln x.Parts > 64:=Zp h;unfold ln at h;omega)) λr j=>aC (λ_=>aA<|show (0:Int)<=(i:Int) by omega) λh=>g (i+1) (by omega)<|b.step e<|j h
 refine aU<|aS (f:=λn _=>zV n l) (Q:=λv:aI×Int=>0<=v.2) (R:=λ_=>∀f∈l,f.Parts.length<=64) (aU<|aS (bA<|d _ 0 (Xh ..) .nil) (λv h=>aA<|show 0<=v.2 from h) λ_ h=>aF rfl<|aA<|by exact h) (λv o=>aC (λ_=>aA rfl) λh=>?_) λ_ h=>aF rfl<|aA (by exact h);have:=Zp h;omega
structure CU(s:aJ): Prop where
 v:sP s.Plan
 n:s.Features.length<=128
 f:∀f∈s.Features,f.Parts.length<=64
theorem sP.sm{p:aM}(h:sP p): Sm p:=⟨by have:=h.leN;omega,by have:=h.leA;omega,by have:=h.leF;omega,λa b=>by have:=h.leV a b;omega⟩
theorem CU.ok{s:aJ}(h:CU s): Sv s:=⟨h.v.sm,by have:=h.n;omega,λf a=>by have:=h.f f a;omega⟩
theorem LQ(o:Sw)(s:aJ)(a:Sv s): aB (λn _=>eN n s) λr=>r=0->CU s:=by
 let⟨v,_,e,_,j⟩:=MZ o s.Plan a.p;refine aX (λ_=>rfl)<|aE j λr m=>aC (λb=>aA λh=>by rw[show r=0 from h] at b;simp at b) λb=>aC (λ_=>aA<|by simp) λd=>aE (f:=λn _=>Eo n s) (Q:=λ_=>True) (aU<|aA trivial) λ_ _=>aE (f:=λn _=>Em n ()) (Q:=λ_=>True) (aU<|aA trivial) λc _=>n7 ?_;have l:r=0:=by simpa using b
 have i:=(e<|by rw[<-m];exact l).1;have g:s.Features.length<=128:=by have h:¬ln s.Features > 128:=Zp d;unfold ln at h;omega
 refine aS (aSo _ a.n) (λv e=>aC (λ_=>aA<|by simp) λh=>by rw[show v.2=true from e] at h;cases h) λ_ k=>aF rfl<|aB.imp (P:=λ_=>True) ?_ λ_ _ _=>⟨i,g,k⟩;exact Ip (aSp s a)<|Ip (aSq _ a.n)<|Ip (aSr _ a.n)<|Ip (aSs _ a.n)<|Ip (aSt _ a.n)<|Ip (fI9 s a)<|Ip (fI3 _ a.n a.f c)<|aA trivial
theorem aEs(l:List Int)(d:l.length<=1000)(i:Nat): aB (λn m=>zN tI n m (l,ln l) (i:Int))<|Su (λv=>(l.drop i).find? (· != 0)=some v) λ_=>(l.drop i).find? (· != 0)=none:=
 cC<|bB (λx b c=>by
  rw[cA<|by omega];refine aC (λh=>aA<|aCY b h) λh=>?_;have e:=aCZ (q:=(· != (0:Int))) b h;rw[e];exact aEs l d<|i+1) λa=>aA<|aDa a
termination_by l.length-i
def orV(c d:Int): Int:=([c,d].find? (· != 0)).getD 0
theorem aRW(c d:Int): aB (λn _=>CK n [c,d]) λr=>r=orV c d:=
 aX (λ_=>rfl)<|aS (bA<|aEs [c,d] (by simp) 0) (λv h=>aA<|by unfold orV;rw[show[c,d].find? (· != 0)=some v from h];rfl) λ_ h=>aF rfl<|aA<|by unfold orV;rw[show[c,d].find? (· != 0)=none from h];rfl
def HN(x:Int): Int:=iP x<|wr<|0-x
def aFV(c d:Int): Int:=orV (CL (HN c)<|HN d)<|CL d c
theorem UP(c d:Int): aFV c d<0↔HN c<HN d\/(HN c=HN d/\d<c):=by
 unfold aFV orV CL;by_cases e:HN c<HN d
 .simp[e]
 .by_cases g:HN c > HN d
  .have:¬HN c=HN d:=by omega
   simp[e,g,this]
  .have:HN c=HN d:=by omega
   by_cases b:d<c
   .simp[this,b]
   .by_cases f:d > c
    .simp[this,b,f]
    .simp[this,b,f]
theorem aLu(c d:Int): aB (λn _=>mQ n c d) λr=>r=aFV c d:=
 aX (λ_=>rfl)<|aE (hJ _ _) λx e=>aE (hJ _ _) λy a=>aE (aRW x y) λz b=>aA<|by subst e a b;rfl
theorem UK(l:List Int)(a:l.length<=800000)(i:Nat)(s:Int): Tt λn m=>qN sW n m (l,ln l) (s,(i:Int)):=
 bZ<|bB (λx d b=>by
  rw[cA<|by omega];refine aE (Q:=λ_=>True) ?_ λ_ _=>aC (λ_=>UK l a (i+1) _) λ_=>UK l a (i+1) _;exact aC (λ_=>aA trivial) λ_=>aC (λ_=>aC (λ_=>aA trivial) λ_=>aA trivial) λ_=>aA trivial) λc=>aA trivial
termination_by l.length-i
theorem aQd(l:List Int)(a:l.length<=800000)(e:l≠[]): Tt λn _=>mP n l:=by
 obtain⟨d,t,rfl⟩:∃d t,l=d::t:=by
  cases l with
  | nil=>exact absurd rfl e
  | cons d t=>exact⟨d,t,rfl⟩
 exact aX (g:=λn=>bnd (idx (d::t) 0) λb=>bnd (Tb n (d::t,ln (d::t)) (b,0)) λc=>some c) (λ_=>rfl)<|aF (x:=d) rfl<|aE (bA<|UK _ a 0 d) λ_ _=>aA trivial
open Classical in
noncomputable def aFU(l:List Int): Int:=if h:∃k,aB (λn _=>mP n l) (λr=>r=k) then h.choose else 0
theorem aIk(l:List Int)(b:l.length<=800000)(a:l≠[]): aB (λn _=>mP n l) λr=>r=aFU l:=by
 have h:∃k,aB (λn _=>mP n l) λr=>r=k:=by
  let⟨k,_,h⟩:=(aQd l b a).val;exact⟨k,h⟩
 unfold aFU;rw[Wz h];exact h.choose_spec
theorem aQO(x y:dP)(d:x.outer.length<=800000/\x.outer≠[])(c:y.outer.length<=800000/\y.outer≠[]): aB (λn _=>mM n x y) λr=>r=aFV (aFU x.outer) (aFU y.outer):=
 aX (λ_=>rfl)<|aE (aIk _ d.1 d.2) λa g=>aE (aIk _ c.1 c.2) λb e=>aE (aLu a b) λr f=>aA<|by rw[f,g,e]
theorem aPs{α:Type}(k:α->Int)(l:List α): Swo (λx y=>aFV (k x)<|k y) l where
 ir x _:=by rw[UP];omega
 tr x _ y _ z _:=by simp only[UP];omega
 ti x _ y _ z _:=by simp only[UP];omega
def HI(a:aR): aR:=⟨a.ID,a.From,a.To,a.Via,0,0⟩
theorem J1(f:List Int)(b:List Aab)(l:List aR)(o:l.length<=300)(j:∀a∈l,a.Via.length<=300)(i:Nat)(h:List aR)(d:h=(l.take i).map HI): aB (λn m=>qN kQ n m (f,b,l,ln l) (h,(i:Int))) λr=>r=l.map HI:=
 bZ<|bB (λx g k=>aE (aIW x.Via<|by have:=j x<|Zg g;omega) λv e=>aF (l7<|by rw[d];simp;omega)<|by
  rw[cA<|by omega];refine J1 f b l o j (i+1) _ ?_;rw[d,e,YX,g];simp[HI])
  (λc=>aA<|show h=_ by rw[d,ZW c])
termination_by l.length-i
theorem aQQ(a:Int)(l:List Int)(c:l.length<=800000)(i:Nat)(m:List<|Int×Int): Tt λn k=>qN oH n k (a,l,ln l) (m,(i:Int)):=
 bZ<|bB (λx e b=>by
  rw[cA<|by omega];exact aQQ a l c (i+1) _) λd=>aA trivial
termination_by l.length-i
theorem aQR(a:Int)(l:List<|List Int)(f:l.length<=800000)(b:∀c∈l,c.length<=800000)(i:Nat)(m:List<|Int×Int): Tt λn k=>qN oI n k (a,l,ln l) (m,(i:Int)):=
 bZ<|bB (λx e d=>by
  rw[cA<|by omega];exact aE (bA<|aQQ a x (b x<|Zg e) 0 m) λ_ _=>aQR a l f b (i+1) _) λg=>aA trivial
termination_by l.length-i
def aD7(l:List Int)(k:Nat): Prop:=l=(List.range k).map λj=>((j+1:Nat):Int)
theorem aQS(b:List aR)(c d:List Aab)(e:List dP)(w:Nat×Nat)(v:w.1+w.2<=e.length)(u:w.2<=1000)(o:∀a∈e,a.outer.length<=800000/\a.inner.length<=200000/\∀c∈a.inner,c.length<=800000)(i:Nat)(y:i<=w.2)(l:List Int)(f:aD7 l i)(m:List<|Int×Int):
 aB (λn k=>qN oJ n k (b,c,d,e,w,((w.2:Nat):Int)) (l,m,(i:Int))) λr=>aD7 r.1 w.2:=by
 refine bZ<|aC (λh=>?_) λh=>aA ?_
 .have h:(i:Int)<((w.2:Nat):Int):=Zl h;have h:i<w.2:=by omega
  have x:idx (win e<|some w) (i:Int)=some (e[w.1+i]'(by omega)):=by
   rw[bF];simp only[win];rw[XL h,Zw,Zb<|by omega]
  have e2:idx e ((i:Int)+((w.1:Nat):Int))=some (e[w.1+i]'(by omega)):=by
   rw[show (i:Int)+((w.1:Nat):Int)=((w.1+i:Nat):Int) by omega,bF,Zb<|by omega]
  have j:=o _<|ZP (show w.1+i<e.length by omega);have q:l.length=i:=by rw[f];simp
  rw[cA<|by omega];refine aF x<|aF e2<|aF (l7<|by omega)<|aE (aIN _ j.2.1) λs p=>aE (bA<|aQR _ s (by rw[p];simp;omega) (by
   rw[p];intro c g;rcases ZN.1 g with rfl | g
   .exact j.1
   .exact j.2.2 c g) 0 m) λt _=>aQS b c d e w v u o (i+1) (by omega) _ (by unfold aD7 at f |-;rw[List.range_succ,YJ,<-f];rfl) t
 .have h:¬(i:Int)<((w.2:Nat):Int):=Zp h;have:i=w.2:=by omega
  exact this▸f
termination_by w.2-i
def mL(l:List aR)(k:Nat): Prop:=l.length=k/\∀a∈l,a.Via.length<=300
theorem fS{α:Type}{l:List α}{i k:Nat}(h:i<k): gM l k (i:Int)=l[i]?:=by
 unfold gM;rw[Zu ⟨by omega,by simpa using h⟩];simp
theorem mL.set{l:List aR}{k i:Nat}{a b:aR}(h:mL l k)(e:l[i]?=some a)(d:b.Via=a.Via): mL (l.set i b) k:=⟨by rw[Yr];exact h.1,λx c=>by
 rcases YL c with c | rfl
 .exact h.2 x c
 .rw[d];exact h.2 a<|Zg e⟩
theorem aQP(f:List Int)(b c:List Aab)(d:List<|Int×Int)(k:Nat)(o:k<=300)(i:Nat)(l:List aR)(g:mL l k): aB (λn m=>qN oG n m (f,b,c,d,(k:Int)) (l,(i:Int))) λr=>mL r k:=by
 refine bZ<|aC (λh=>?_) λh=>aA g;have h:(i:Int)<(k:Int):=Zl h;have e:i<l.length:=by rw[g.1];omega
 have j:gM l l.length (i:Int)=some l[i]:=by rw[fS e];exact Zb e
 have e2:idx l (i:Int)=some l[i]:=by rw[bF];exact Zb e
 rw[cA<|by omega];have A:=g.set (b:=⟨l[i].ID,l[i].From,l[i].To,l[i].Via,Option.getD (cK d l[i].ID) 0,l[i].Right⟩) (Zb e) rfl;generalize t:l.set i ⟨l[i].ID,l[i].From,l[i].To,l[i].Via,Option.getD (cK d l[i].ID) 0,l[i].Right⟩=q at A;have a:i<q.length:=by rw[A.1];omega
 have s:gM q q.length (i:Int)=some q[i]:=by rw[fS a];exact Zb a
 have p:idx q (i:Int)=some q[i]:=by rw[bF];exact Zb a
 refine aF j<|aF e2<|aF j<|aF e2 ?_;simp only[YA];rw[t];refine aF s<|aF p<|aQP f b c d k o (i+1) _ ?_;exact A.set (Zb a) rfl
termination_by k-i
theorem aLC(U:Sw)(p:aM)(w:Sm p): aB (λn _=>Ho n p) λr=>Sm r.1/\(r.2=0->r.1.Arcs.length=p.Arcs.length/\aD7 r.1.Faces r.1.Faces.length):=by
 have L:=w.n;have B:=w.a;have z:Sm ⟨p.Nodes,p.Arcs.map HI,[]⟩:=⟨L,by simp;omega,by simp,λa e=>by
  obtain⟨x,t,rfl⟩:=Yh.1 e;exact w.v x t⟩
 have N:Sm ⟨[],[],[]⟩:=⟨by simp,by simp,by simp,by simp⟩;refine aX (λ_=>rfl)<|aE (f:=λn _=>Jf n p) (Q:=λr=>r=(p.Arcs.map HI,[],p.Nodes,p.Nodes)) (aU<|aE (aIW p.Nodes<|by omega) λc I=>aE (bA<|J1 [] c p.Arcs B w.v 0 [] rfl) λd V=>aA<|by rw[I,V]) λb G=>?_;subst G;refine aE (aCa _ z) λc I=>aC (λb=>aA ⟨N,λh=>by rw[show c.2=0 from h] at b;simp at b⟩) λb=>?_;let⟨K,H⟩:=I (by simpa using b);refine aE (F0 _ z K) λm S=>aE (U _ c.1 m z K H S) λf k=>?_;have X:=k.l1;have W:=k.l2;refine aF (x:=(1,f.length-1)) (by unfold sub;rw[Zu ⟨by omega,by unfold ln;omega,by unfold ln;simp⟩];simp[ln])<|aC (λ_=>aA ⟨N,λh=>by cases h⟩) λu=>?_;have u:¬((f.length-1:Nat):Int) > 64:=Zp u;have J:win f (some (1,f.length-1))=f.drop 1:=by simp only[win];rw[ZW<|by simp]
 have i:∀x∈win f (some (1,f.length-1)),x∈f/\x.outer≠[]:=by
  rw[J];intro x t;let⟨j,D⟩:=Yi.1 t;rw[Zw] at D;exact⟨Zg D,k.ne (1+j) x (by omega) D⟩
 refine aU<|aF (tB<|Yj ⟨by omega,by show 1+(f.length-1)<=_;omega⟩)<|aE (QZ (F:=λn x y=>bnd (mM n x y) λl=>some l) (g:=λx y=>aFV (aFU x.outer)<|aFU y.outer) (λx t y R=>aE (aQO x y ⟨k.ou x (i x t).1,(i x t).2⟩ ⟨k.ou y (i y R).1,(i y R).2⟩) λ_ h=>aA h)<|aPs _ _) λq M=>?_;have T:q.length=f.length-1:=by rw[M.1,J];simp
 have s:∀a∈aP f 1 q,a∈f:=by
  intro a e;unfold aP at e;rcases ZD.1 e with e | e
  .exact Z7 e
  rcases ZD.1 e with e | e
  .exact (i a<|M.2 a e).1
  .exact ZZ e
 have C:(aP f 1 q).length=f.length:=by unfold aP;simp;omega
 refine aE (MY (f:=λn=>Je n (p.Arcs.map HI,p.Nodes,p.Nodes,aP f 1 q,(1,f.length-1),((f.length-1:Nat):Int)) ([],[],0))<|bA<|aQS _ _ _ _ (1,f.length-1) (by rw[C];show 1+(f.length-1)<=_;omega) (by show f.length-1<=_;omega) (λa e=>⟨k.ou a<|s a e,(k.inn a<|s a e).1,(k.inn a<|s a e).2⟩) 0 (by omega) [] rfl []) λo O=>aE (MY (f:=λn=>Jd n (o.1,p.Nodes,p.Nodes,o.2,((p.Arcs.map HI).length:Int)) (p.Arcs.map HI,0))<|bA<|aQP _ _ _ _ (p.Arcs.map HI).length (by simp;omega) 0 _ ⟨rfl,z.v⟩) λr A=>aA ?_;have E:o.1.length=f.length-1:=by rw[O];simp
 refine⟨⟨L,by show r.length<=_;rw[A.1];simp;omega,by show o.1.length<=_;omega,A.2⟩,λ_=>⟨by show r.length=_;rw[A.1];simp,by show aD7 o.1 o.1.length;rw[E];exact O⟩⟩
theorem SS{α:Type}{l:List α}(z:α)(h:l.length<=900000): rep z (ln l) (ln l)=some (List.replicate l.length z):=by
 unfold rep ln;rw[Zu ⟨by omega,by omega,by omega⟩];simp
theorem c8{α:Type}(l:List α)(z:α): cpy (List.replicate l.length z) (0,(List.replicate l.length z).length) l=some l:=by
 unfold cpy aP;rw[Zu ⟨by simp,by simp⟩];simp
theorem aSi(l:List Aab)(h:l.length<=900000): aB (λn _=>oZ n l) λr=>r=l:=
 aX (λ_=>rfl)<|aF (SS _ h)<|aF (c8 l _)<|aF rfl<|aA rfl
theorem aPX(l:List aR)(h:l.length<=900000): aB (λn _=>mJ n l) λr=>r=l:=
 aX (λ_=>rfl)<|aF (SS _ h)<|aF (c8 l _)<|aF rfl<|aA rfl
theorem aKI(l:List Int)(h:l.length<=900000): aB (λn _=>bH n l) λr=>r=l:=
 aX (λ_=>rfl)<|aF (SS _ h)<|aF (c8 l _)<|aA rfl
theorem aSj(l:List aI)(h:l.length<=900000): aB (λn _=>jR n l) λr=>r=l:=
 aX (λ_=>rfl)<|aF (SS _ h)<|aF (c8 l _)<|aF rfl<|aA rfl
theorem aNC(l:List Aaa)(h:l.length<=900000): aB (λn _=>cE n l) λr=>r=l:=
 aX (λ_=>rfl)<|aF (SS _ h)<|aF (c8 l _)<|aA rfl
theorem aMg(a:List Int)(b:List Aab)(c:List aI)(l:List aR)(j:l.length<=300)(g:∀x∈l,x.Via.length<=300)(i:Nat): aB (λn m=>qN mO n m (a,b,c,ln l) (l,(i:Int))) λr=>r=l:=by
 refine bZ<|aC (λh=>?_) λ_=>aA rfl;have h:(i:Int)<ln l:=Zl h;have d:i<l.length:=by unfold ln at h;omega
 have f:gM l l.length (i:Int)=some l[i]:=by rw[fS d];exact Zb d
 have e2:idx l (i:Int)=some l[i]:=by rw[bF];exact Zb d
 rw[cA<|by omega];refine aF f<|aF e2<|aE (aNC l[i].Via<|by have:=g l[i]<|ZP d;omega) λv e=>aF f<|aF e2 ?_;subst e;simp only[YA];rw[show l.set i ⟨l[i].ID,l[i].From,l[i].To,l[i].Via,l[i].Left,l[i].Right⟩=l from WG d];exact aMg a b c l j g<|i+1
termination_by l.length-i
theorem aMf(a:List Int)(b:List Aab)(c:List aR)(l:List aI)(j:l.length<=1000)(g:∀x∈l,x.Parts.length<=1000)(i:Nat): aB (λn m=>qN mN n m (a,b,c,ln l) (l,(i:Int))) λr=>r=l:=by
 refine bZ<|aC (λh=>?_) λ_=>aA rfl;have h:(i:Int)<ln l:=Zl h;have d:i<l.length:=by unfold ln at h;omega
 have f:gM l l.length (i:Int)=some l[i]:=by rw[fS d];exact Zb d
 have e2:idx l (i:Int)=some l[i]:=by rw[bF];exact Zb d
 rw[cA<|by omega];refine aF f<|aF e2<|aE (aKI l[i].Parts<|by have:=g l[i]<|ZP d;omega) λv e=>aF f<|aF e2 ?_;subst e;simp only[YA];rw[show l.set i ⟨l[i].ID,l[i].Kind,l[i].Class,l[i].Name,l[i].Parts⟩=l from WG d];exact aMf a b c l j g<|i+1
termination_by l.length-i
theorem aPL(s:aJ)(m:Sv s): aB (λn _=>Ju n s) λr=>r=(s.Plan.Faces,s.Plan.Nodes,s.Plan.Arcs,s.Features,s.Plan.Faces):=by
 let⟨⟨v,o,u,q⟩,p,t⟩:=m;refine aU<|aE (aSi _<|by omega) λb i=>aE (aPX _<|by omega) λc l=>aE (aKI _<|by omega) λd j=>aE (aSj _<|by omega) λf e=>?_;subst i l j e;exact aE (bA<|aMg _ _ _ _ o q 0) λg k=>aE (bA<|aMf _ _ _ _ p t 0) λh a=>aA<|by rw[k,a]
instance aUp{x:Int}: TC (λn=>Jw n x):=⟨by repeat' first|apply dZ|apply aC|apply bE|intro⟩
instance aUq{x:aN}: TC (λn=>Jx n x):=⟨by repeat' first|apply dZ|apply aC|apply bE|intro⟩
instance aUo{x:aN}: TC (λn=>Jv n x):=⟨by repeat' first|apply dZ|apply aC|apply bE|intro⟩
instance aTl{x:aN}: TC (λn=>Ib n x):=⟨aX (λ_=>rfl) (by repeat' first|apply dZ|apply aC|apply bE|intro)⟩
instance aUC{b:Cw}{x:Aaa}: TC (λn=>VF n (b,x)):=⟨by repeat' first|apply dZ|apply aC|apply bE|intro⟩
instance aUB{b:Cw}{x:Aaa}: TC (λn=>P8 n b x):=⟨aX (λ_=>rfl) (by repeat' first|apply dZ|apply aC|apply bE|intro)⟩
instance aTV{x:Int}: TC (λn=>dU n x):=⟨aU (by repeat' first|apply dZ|apply aC|apply bE|intro)⟩
instance aTU{x:Aaa}: TC (λn=>gY n x):=⟨aU (by repeat' first|apply dZ|apply aC|apply bE|intro)⟩
instance aTb{x:Int}: TC (λn=>Jq n x):=⟨aU (by repeat' first|apply dZ|apply aC|apply bE|intro)⟩
instance aTa{x:Int}: TC (λn=>Jp n x):=⟨by repeat' first|apply dZ|apply aC|apply bE|intro⟩
instance aSZ{x:aN}: TC (λn=>Jo n x):=⟨by repeat' first|apply dZ|apply aC|apply bE|intro⟩
theorem aP8(l:List Aaa)(b:l.length<=1000)(i:Nat): Sx λn m=>zN qW n m (l,ln l) (i:Int):=
 cC<|bB (λx d a=>by
  rw[cA<|by omega];exact bE λ_=>aC (λ_=>aA trivial) λ_=>aP8 l b<|i+1) λc=>aA trivial
termination_by l.length-i
theorem aPA(l:List Aaa)(a:l.length<=1000): Tt λn _=>fW n l:=
 aU<|aE (f:=λn _=>Nw n l) (Q:=λ_=>True) (aU<|aS (bA<|aP8 l a 0) (λ_ _=>aA trivial) λ_ _=>aF rfl<|aA trivial) λ_ _=>aC (λ_=>aA trivial) λ_=>aA trivial
theorem aP7(l:List Int)(b:l.length<=1000)(i:Nat): Sx λn m=>zN qV n m (l,ln l) (i:Int):=
 cC<|bB (λx d a=>by
  rw[cA<|by omega];exact bE λ_=>aC (λ_=>aA trivial) λ_=>aP7 l b<|i+1) λc=>aA trivial
termination_by l.length-i
theorem aP9(l:List Int)(a:l.length<=1000): Tt λn _=>fV n l:=
 aU<|aE (f:=λn _=>Nv n l) (Q:=λ_=>True) (aU<|aS (bA<|aP7 l a 0) (λ_ _=>aA trivial) λ_ _=>aF rfl<|aA trivial) λ_ _=>aC (λ_=>aA trivial) λ_=>aA trivial
theorem aHx(e:aN)(b:e.Via.length<=1000)(a:e.Parts.length<=1000): Tt λn _=>Bc n e:=by
 have c:TC λn=>fW n e.Via:=⟨aPA _ b⟩;have f:TC λn=>fV n e.Parts:=⟨aP9 _ a⟩;refine aX (λ_=>rfl) ?_;repeat' first|apply dZ|apply aC|apply bE|intro
instance aU2{x:aN}: TC (λn=>Tp n x):=⟨by repeat' first|apply dZ|apply aC|apply bE|intro⟩
instance aU1{x:aN}: TC (λn=>Tn n x):=⟨by repeat' first|apply dZ|apply aC|apply bE|intro⟩
instance aU0{x:aN}: TC (λn=>Tl n x):=⟨by repeat' first|apply dZ|apply aC|apply bE|intro⟩
def aGC(e:aN): Prop:=e.Via.length<=64/\e.Parts.length<=64
theorem aMH(x:Int)(h:0<=x/\x<=1000000000): IntKind.u64.wrap x=x:=by
 have e:IntKind.u64.wrap x=x % 18446744073709551616:=by simp[IntKind.wrap,IntKind.bits,IntKind.signed]
 rw[e];omega
theorem aAP(f g:Nat)(h:f+g<=10000000): wr (Int.fdiv (IntKind.u64.wrap<|wr<|(f:Int)+(g:Int)) 2)=(((f+g) / 2:Nat):Int):=by
 have a:wr ((f:Int)+(g:Int))=((f+g:Nat):Int):=by rw[wr,i64_in _<|by omega];omega
 rw[a,aMH _<|by omega,Int.fdiv_eq_ediv_of_nonneg _<|by omega,wr,i64_in _<|by omega];omega
theorem KM(l:List Aab)(b:Int)(a:l.length<=1000)(f g:Nat)(e:f<=g)(c:g<=l.length): aB (λn m=>qN rJ n m (l,b) ((f:Int),(g:Int))) λr=>0<=r/\r.toNat<=l.length:=by
 refine bZ<|aC (λh=>?_) λ_=>aA ⟨by show (0:Int)<=(f:Int);omega,by show (f:Int).toNat<=_;omega⟩;have h:(f:Int)<(g:Int):=Zl h;have d:(f+g) / 2<l.length:=by omega
 rw[aAP f g<|by omega];refine aF (x:=l[(f+g) / 2]) (by rw[bF];exact Zb d)<|aE (f:=λn _=>oY n (l[(f+g) / 2],b)) (Q:=λ_=>True) (aU<|aE (hJ _ _) λ_ _=>aA trivial) λ_ _=>aC (λ_=>?_) λ_=>KM l b a f ((f+g) / 2) (by omega) (by omega);rw[cA<|by omega];exact KM l b a ((f+g) / 2+1) g (by omega) c
termination_by g-f
theorem EH(a:aJ)(b:Int)(g:a.Plan.Nodes.length<=1000): aB (λn _=>nT n a b) λr=>0<=r.1/\r.1.toNat<=a.Plan.Nodes.length/\(r.2=true->r.1.toNat<a.Plan.Nodes.length):=by
 refine aX (λ_=>rfl)<|aS (f:=λn _=>Nx n (a.Plan.Nodes,b)) (Q:=λv=>0<=v.2.1/\v.2.1.toNat<a.Plan.Nodes.length) (R:=λv=>0<=v/\v.toNat<=a.Plan.Nodes.length) (aU<|aE (bA<|KM _ b g 0 a.Plan.Nodes.length (by omega)<|Zf _) λf e=>aC (λh=>?_) λ_=>aA<|by exact e) (λv c=>aC (λ_=>aA ⟨c.1,by have:=c.2;show v.2.1.toNat<=_;omega,λ_=>c.2⟩) λ_=>aA ⟨c.1,by have:=c.2;show v.2.1.toNat<=_;omega,λh=>by cases h⟩) λv c=>aF rfl<|aA ⟨c.1,c.2,λh=>by cases h⟩;have h:f<ln a.Plan.Nodes:=Zl h;have d:f.toNat<a.Plan.Nodes.length:=by unfold ln at h;omega
 exact aF (tA e.1 d)<|aE (f:=λn _=>oY n (a.Plan.Nodes[f.toNat],b)) (Q:=λ_=>True) (aU<|aE (hJ _ _) λ_ _=>aA trivial) λ_ _=>aC (λ_=>aA<|by exact⟨e.1,d⟩) λ_=>aA<|by exact⟨e.1,d⟩
theorem HK(l:List aR)(b:Int)(a:l.length<=1000)(f g:Nat)(e:f<=g)(c:g<=l.length): aB (λn m=>qN tH n m (l,b) ((f:Int),(g:Int))) λr=>0<=r/\r.toNat<=l.length:=by
 refine bZ<|aC (λh=>?_) λ_=>aA ⟨by show (0:Int)<=(f:Int);omega,by show (f:Int).toNat<=_;omega⟩;have h:(f:Int)<(g:Int):=Zl h;have d:(f+g) / 2<l.length:=by omega
 rw[aAP f g<|by omega];refine aF (x:=l[(f+g) / 2]) (by rw[bF];exact Zb d)<|aE (f:=λn _=>mK n (l[(f+g) / 2],b)) (Q:=λ_=>True) (aU<|aE (hJ _ _) λ_ _=>aA trivial) λ_ _=>aC (λ_=>?_) λ_=>HK l b a f ((f+g) / 2) (by omega) (by omega);rw[cA<|by omega];exact HK l b a ((f+g) / 2+1) g (by omega) c
termination_by g-f
theorem T4(a:aJ)(b:Int)(g:a.Plan.Arcs.length<=1000): aB (λn _=>rP n a b) λr=>0<=r.1/\r.1.toNat<=a.Plan.Arcs.length/\(r.2=true->r.1.toNat<a.Plan.Arcs.length):=by
 refine aX (λ_=>rfl)<|aS (f:=λn _=>Ct n (a.Plan.Arcs,b)) (Q:=λv=>0<=v.2.1/\v.2.1.toNat<a.Plan.Arcs.length) (R:=λv=>0<=v/\v.toNat<=a.Plan.Arcs.length) (aU<|aE (bA<|HK _ b g 0 a.Plan.Arcs.length (by omega)<|Zf _) λf e=>aC (λh=>?_) λ_=>aA<|by exact e) (λv c=>aC (λ_=>aA ⟨c.1,by have:=c.2;show v.2.1.toNat<=_;omega,λ_=>c.2⟩) λ_=>aA ⟨c.1,by have:=c.2;show v.2.1.toNat<=_;omega,λh=>by cases h⟩) λv c=>aF rfl<|aA ⟨c.1,c.2,λh=>by cases h⟩;have h:f<ln a.Plan.Arcs:=Zl h;have d:f.toNat<a.Plan.Arcs.length:=by unfold ln at h;omega
 exact aF (tA e.1 d)<|aE (f:=λn _=>mK n (a.Plan.Arcs[f.toNat],b)) (Q:=λ_=>True) (aU<|aE (hJ _ _) λ_ _=>aA trivial) λ_ _=>aC (λ_=>aA<|by exact⟨e.1,d⟩) λ_=>aA<|by exact⟨e.1,d⟩
theorem Hz(l:List aI)(b:Int)(a:l.length<=1000)(f g:Nat)(e:f<=g)(c:g<=l.length): aB (λn m=>qN mA n m (l,b) ((f:Int),(g:Int))) λr=>0<=r/\r.toNat<=l.length:=by
 refine bZ<|aC (λh=>?_) λ_=>aA ⟨by show (0:Int)<=(f:Int);omega,by show (f:Int).toNat<=_;omega⟩;have h:(f:Int)<(g:Int):=Zl h;have d:(f+g) / 2<l.length:=by omega
 rw[aAP f g<|by omega];refine aF (x:=l[(f+g) / 2]) (by rw[bF];exact Zb d)<|aE (f:=λn _=>jS n (l[(f+g) / 2],b)) (Q:=λ_=>True) (aU<|aE (hJ _ _) λ_ _=>aA trivial) λ_ _=>aC (λ_=>?_) λ_=>Hz l b a f ((f+g) / 2) (by omega) (by omega);rw[cA<|by omega];exact Hz l b a ((f+g) / 2+1) g (by omega) c
termination_by g-f
theorem aBy(a:aJ)(b:Int)(g:a.Features.length<=1000): aB (λn _=>yL n a b) λr=>0<=r.1/\r.1.toNat<=a.Features.length/\(r.2=true->r.1.toNat<a.Features.length):=by
 refine aX (λ_=>rfl)<|aS (f:=λn _=>Bl n (a.Features,b)) (Q:=λv=>0<=v.2.1/\v.2.1.toNat<a.Features.length) (R:=λv=>0<=v/\v.toNat<=a.Features.length) (aU<|aE (bA<|Hz _ b g 0 a.Features.length (by omega)<|Zf _) λf e=>aC (λh=>?_) λ_=>aA<|by exact e) (λv c=>aC (λ_=>aA ⟨c.1,by have:=c.2;show v.2.1.toNat<=_;omega,λ_=>c.2⟩) λ_=>aA ⟨c.1,by have:=c.2;show v.2.1.toNat<=_;omega,λh=>by cases h⟩) λv c=>aF rfl<|aA ⟨c.1,c.2,λh=>by cases h⟩;have h:f<ln a.Features:=Zl h;have d:f.toNat<a.Features.length:=by unfold ln at h;omega
 exact aF (tA e.1 d)<|aE (f:=λn _=>jS n (a.Features[f.toNat],b)) (Q:=λ_=>True) (aU<|aE (hJ _ _) λ_ _=>aA trivial) λ_ _=>aC (λ_=>aA<|by exact⟨e.1,d⟩) λ_=>aA<|by exact⟨e.1,d⟩
theorem J8(a b:Int)(l:List aI)(d:l.length<=1000)(c:∀f∈l,f.Parts.length<=1000)(i:Nat)(o:i<=l.length)(h:List Int)(k:h.length<=i): aB (λn m=>qN mX n m (a,b,l,ln l) (h,(i:Int))) λr=>r.length<=l.length:=
 bZ<|bB (λx e j=>by
  rw[cA<|by omega];refine aE (f:=λn _=>Eg n (x,a,b)) (Q:=λ_=>True) (bE λ_=>aC (λ_=>aE (yU x.Parts b<|by have:=c x<|Zg e;omega) λ_ _=>aC (λ_=>aA trivial) λ_=>aA trivial) λ_=>aA trivial) λ_ _=>aC (λ_=>aF (l7<|by omega)<|J8 a b l d c (i+1) (by omega) _<|by simp;omega) λ_=>J8 a b l d c (i+1) (by omega) h<|by omega)
  (λg=>aA<|show h.length<=_ by omega)
termination_by l.length-i
theorem RY(s:aJ)(c:Sv s)(a b:Int): aB (λn _=>iY n s a b) λr=>r.length<=1000:=
 aX (λ_=>rfl)<|aC (λ_=>aA<|by simp) λ_=>aC (λ_=>aA<|by simp) λ_=>aE (bA<|J8 a b s.Features c.n c.f 0 (by omega) []<|by simp) λr d=>aA<|by have:=c.n;omega
theorem aEQ(a b:List Int)(h:a.length=b.length)(d:a.length<=100000)(i:Nat): Sx λn m=>zN jB n m (a,b,ln a) (i:Int):=
 cC<|bB (λx f c=>by
  rw[cA<|by omega];exact aF (x:=b[i]'(by omega)) (by rw[bF];exact Zb<|by omega)<|aC (λ_=>aA trivial) λ_=>aEQ a b h d<|i+1) λe=>aA trivial
termination_by a.length-i
theorem aN6{α:Type}{a b:List α}(h:(ln a != ln b)=false): a.length=b.length:=by
 have h:ln a=ln b:=by simpa using h
 unfold ln at h;omega
theorem aLF(a b:List Int)(c:a.length<=100000): Tt λn _=>kN n a b:=
 aX (λ_=>rfl)<|aC (λ_=>aA trivial) λh=>aS (bA<|aEQ a b (aN6 h) c 0) (λ_ _=>aA trivial) λ_ _=>aF rfl<|aA trivial
theorem S6(c:List<|List Int)(g:c.length<=1000)(i a:Nat)(f:a+(c.drop i).flatten.length<=900000): aB (λn m=>qN iA n m (c,ln c) ((a:Int),(i:Int))) λr=>r=((a+(c.drop i).flatten.length:Nat):Int):=
 bZ<|bB (λx k o=>by
  have e:=rS k;rw[e,Zh] at f;have l:wr ((a:Int)+ln x)=((a+x.length:Nat):Int):=by rw[wr,ln,i64_in _<|by omega];push_cast;rfl
  rw[l,cA<|by omega];refine aC (λh=>?_) λ_=>?_
  .have:=Zl h;omega
  .refine (S6 c g (i+1) (a+x.length)<|by omega).imp λr j=>?_;rw[j,e,Zh,Yu])
  (λd=>aA<|by rw[Xo d];rfl)
termination_by c.length-i
theorem S5(a:List<|List Int)(d:a.length<=1000)(i:Nat)(b:(a.drop i).flatten.length=0): Tt λn m=>qN hZ n m (a,ln a) (i:Int):=
 bZ<|bB (λx c g=>by
  have e:=rS c;rw[e,Zh] at b;rw[cA<|by omega];refine aC (λh=>S5 a d (i+1)<|by omega) λh=>?_;have:x=[]:=ZK.1 (by omega);rw[this] at h;cases h)
  (λf=>aA trivial)
termination_by a.length-i
theorem aFg(a:List<|List Int)(h:a.length<=1000)(N:Nat)(f:N<=400000)(i:Nat)(l:List Int)(k:Nat)(d:l.length=N)(c:k+(a.drop i).flatten.length=N): aB (λn m=>qN fE n m (a,ln a) (l,(0,k),(i:Int))) λr=>r.2=(0,r.1.length)/\r.1.length=N:=
 bZ<|bB (λx g j=>by
  have e:=rS g;rw[e,Zh] at c;rw[cA<|by omega];exact aF (x:=aP l k x) (by unfold MW;rw[Zu<|by simp only[Z0];omega,Z0])<|aFg a h N f (i+1) _ (k+x.length) (by simp[aP];omega)<|by omega)
  (λb=>aA<|by
   rw[Xo b,Xd,Z1,Xm] at c;exact⟨by show ((0:Nat),k)=(0,l.length);rw[c,d],d⟩)
termination_by a.length-i
theorem aOu(a:List<|List Int)(c:a.length<=1000)(d:a.flatten.length<=400000): aB (λn _=>jK n a) λr=>r.length=a.flatten.length:=by
 refine aX (λ_=>rfl)<|aE (bA<|S6 a c 0 0<|by rw[YD];omega) λv e=>?_;have f:v=((a.flatten.length:Nat):Int):=by rw[e];simp
 have e2:wr (v-0)=((a.flatten.length:Nat):Int):=by rw[f,wr,i64_in _<|by omega];omega
 refine aS (Q:=λ_=>a.flatten.length=0) (R:=λr=>r=(List.replicate a.flatten.length 0,(0,0))) (aU<|aC (λh=>by have:=Zl h;omega) λ_=>aC (λ_=>?_) λh=>by rw[e2] at h;have:=Zp h;exact aA<|show a.flatten.length=0 by omega) (λ_ h=>?_) λr b=>?_
 .refine aF (x:=List.replicate a.flatten.length 0) (by rw[e2];unfold rep;rw[Zu<|by omega];simp)<|aC (λh=>?_) λ_=>aF (x:=(0,0)) (by unfold sub;rw[Zu<|by simp];rfl)<|aA rfl;rw[Vd] at h;have:=congrArg List.length h;rw[Yo,Z1] at this;exact aA this
 .exact aE (bA<|S5 a c 0<|by simpa using h) λ_ _=>aF rfl<|aA h.symm
 .subst b;refine aF rfl<|aE (bA<|aFg a c a.flatten.length d 0 _ 0 (by simp)<|by simp) λr b=>aF (tB<|Yj b.1)<|aA ?_;rw[b.1,<-b.2];simp[win]
theorem d8(s c N:Nat)(f:s+c=N)(e:N<=400000)(g:Nat)(u:1<=g)(v:g<=c)(d:List Int)(a:d.length=N)(q:Nat)(t:q+1<=s+g): aB (λn m=>qN iF n m (s,c) (d,(q:Int),(g:Int))) λr=>r.1.length=N/\0<=r.2/\r.2.toNat<=N:=by
 refine bZ<|aC (λh=>?_) λ_=>aA ⟨a,by show (0:Int)<=(q:Int);omega,by show ((q:Int)).toNat<=N;omega⟩;have h:(g:Int)<((c:Nat):Int):=Zl h;have h:g<c:=by omega
 have l:wr ((g:Int)-1)=((g-1:Nat):Int):=by rw[wr,i64_in _<|by omega];omega
 have b:∀j,j<c->idx (win d<|some (s,c)) (j:Int)=d[s+j]?:=λj p=>by
  rw[bF];simp only[win];rw[XL p,Zw]
 have i:idx (win d<|some (s,c)) (g:Int)=some (d[s+g]'(by omega)):=by rw[b g h];exact Zb<|by omega
 have e2:idx d ((g:Int)+((s:Nat):Int))=some (d[s+g]'(by omega)):=by
  rw[show (g:Int)+((s:Nat):Int)=((s+g:Nat):Int) by omega,bF];exact Zb<|by omega
 have o:idx (win d<|some (s,c)) ((g-1:Nat):Int)=some (d[s+(g-1)]'(by omega)):=by rw[b (g-1)<|by omega];exact Zb<|by omega
 have k:idx d (((g-1:Nat):Int)+((s:Nat):Int))=some (d[s+(g-1)]'(by omega)):=by
  rw[show ((g-1:Nat):Int)+((s:Nat):Int)=((s+(g-1):Nat):Int) by omega,bF];exact Zb<|by omega
 rw[l,cA<|by omega,cA<|by omega];refine aF i<|aF e2<|aF o<|aF k<|aC (λ_=>?_) λ_=>d8 s c N f e (g+1) (by omega) (by omega) d a q (by omega);refine aF i<|aF e2<|aF (x:=d[q]'(by omega)) (by rw[fS<|by omega];exact Zb<|by omega)<|aF (x:=d[q]'(by omega)) (by rw[bF];exact Zb<|by omega) ?_;exact d8 s c N f e (g+1) (by omega) (by omega) _ (by rw[Yr];exact a) (q+1)<|by omega
termination_by c-g
theorem aBH(a:List Int)(c:a.length<=400000)(i:Nat)(l:1<=i): aB (λn m=>zN iG n m a (i:Int))<|Su (λv=>(win v.1<|some v.2).length<=a.length) λ_=>True:=by
 refine cC<|aC (λh=>?_) λ_=>aA trivial;have h:(i:Int)<ln a:=Zl h;have h:i<a.length:=by unfold ln at h;omega
 have g:wr ((i:Int)-1)=((i-1:Nat):Int):=by rw[wr,i64_in _<|by omega];omega
 rw[g,cA<|by omega];refine aF (x:=a[i]) (by rw[fS h];exact Zb h)<|aF (x:=a[i]) (by rw[bF];exact Zb h)<|aF (x:=a[i-1]'(by omega)) (by rw[fS<|by omega];exact Zb<|by omega)<|aF (x:=a[i-1]'(by omega)) (by rw[bF];exact Zb<|by omega)<|aC (λ_=>?_) λ_=>aBH a c (i+1) (by omega);refine aF (x:=(i,a.length-i)) (by unfold sub;rw[Zu ⟨by omega,by unfold ln;omega,by unfold ln;simp⟩];simp[ln])<|aE (bA<|d8 i (a.length-i) a.length (by omega) c 1 (Zf _) (by omega) a rfl i<|by omega) λj k=>?_;let⟨e,p,o⟩:=k;let⟨q,d⟩:∃q:Nat,j.2=(q:Int):=⟨j.2.toNat,by omega⟩;have f:q<=a.length:=by omega
 refine aF (x:=(q,a.length-q)) (by rw[d];unfold sub;rw[Zu ⟨by omega,by unfold ln;omega,by unfold ln;simp⟩];simp[ln,e])<|aF (x:=aP j.1 q<|List.replicate (a.length-q) 0) (by unfold clr;rw[Zu<|by show q+(a.length-q)<=_;omega]) ?_;have b:(aP j.1 q<|List.replicate (a.length-q) 0).length=a.length:=by unfold aP;simp;omega
 refine aF (x:=(0,q)) (by rw[d];unfold sub;rw[Zu ⟨by omega,by omega,by simp[b];omega⟩];simp)<|aA ?_;show (List.take q<|List.drop 0 _).length<=_;simp;omega
termination_by a.length-i
theorem aNA{l b:List Int}{k:Nat}(h:l.length<=(hU b).length)(e:b.length=k): l.length<=k:=by rw[sF] at h;omega
theorem d7(a:List<|List Int)(e:a.length<=1000)(g:a.flatten.length<=400000): aB (λn _=>iW n a) λr=>r.length<=a.flatten.length:=by
 refine aX (λ_=>rfl)<|aE (aOu a e g) λb d=>aU<|aF (tB<|Yj<|by omega)<|aS (MY (f:=λn=>qP n<|hU b) (P:=Su (λ_=>True) λv=>(win v.1<|some v.2).length<=(hU b).length)<|aU<|aC (λ_=>aA trivial) λ_=>aS (bA<|aBH (hU b) (by rw[sF];omega) 1<|Zf _) (λv c=>aA<|by exact c) λ_ _=>aF rfl<|aA trivial) (λ_ _=>aA<|by rw[sF];omega) λv c=>aF rfl<|aA<|aNA c d
theorem U0(a b:List Int)(h:a.length+b.length<=400000): aB (λn _=>nQ n a b) λr=>r.length<=a.length+b.length:=
 aX (λ_=>rfl)<|aE (d7 [a,b] (by simp)<|by simpa using h) λc d=>aA<|by simpa using d
instance aTj{x:Int}: TC (λn=>eP n x):=⟨aX (λ_=>rfl) (by repeat' first|apply dZ|apply aC|apply bE|intro)⟩
instance aUi{x y:Int}: TC (λn=>tJ n (x,y)):=⟨by repeat' first|apply dZ|apply aC|apply bE|intro⟩
instance aSg{x y:Int}: TC (λn=>vE n x y):=⟨aX (λ_=>rfl) (by repeat' first|apply dZ|apply aC|apply bE|intro)⟩
instance aU6{x:Int}: TC (λn=>eD n x):=⟨aU (by repeat' first|apply dZ|apply aC|apply bE|intro)⟩
theorem S9(l:List Int)(b:Int)(a:l.length<=400000)(f g:Nat)(e:f<=g)(c:g<=l.length): aB (λn m=>qN dW n m (l,b) ((f:Int),(g:Int))) λr=>0<=r/\r.toNat<=l.length:=by
 refine bZ<|aC (λh=>?_) λ_=>aA ⟨by show (0:Int)<=(f:Int);omega,by show (f:Int).toNat<=_;omega⟩;have h:(f:Int)<(g:Int):=Zl h;have d:(f+g) / 2<l.length:=by omega
 rw[aAP f g<|by omega];refine aF (x:=l[(f+g) / 2]) (by rw[bF];exact Zb d)<|bE λ_=>aC (λ_=>?_) λ_=>S9 l b a f ((f+g) / 2) (by omega) (by omega);rw[cA<|by omega];exact S9 l b a ((f+g) / 2+1) g (by omega) c
termination_by g-f
theorem aS2(l:List Int)(b:Int)(d:l.length<=400000): Tt λn _=>eW n l b:=by
 refine aX (λ_=>rfl)<|aE (bA<|S9 l b d 0 l.length (by omega)<|Zf _) λf c=>aC (λh=>?_) λ_=>aA trivial;have h:f<ln l:=Zl h;have a:f.toNat<l.length:=by unfold ln at h;omega
 have e:=tA c.1 a;refine aF e<|aC (λ_=>aA trivial) λ_=>aF e ?_;repeat' first|apply dZ|apply aC|apply bE|intro
theorem N7(c d:List Int)(a:c.length<=400000)(b:d.length<=400000)(i:Nat)(l:i<=d.length)(h:List Int)(j:h.length<=i): aB (λn m=>qN kV n m (c,d,ln d) (h,(i:Int))) λr=>r.length<=d.length:=
 bZ<|bB (λx k g=>by
  rw[cA<|by omega];refine aE (f:=λn _=>wQ n (c,x)) (Q:=λ_=>True) (aU<|aE (aS2 c x a) λ_ _=>aC (λ_=>aA trivial) λ_=>aA trivial) λ_ _=>aC (λ_=>aF (Il<|by omega)<|N7 c d a b (i+1) (by omega) _<|by simp;omega) λ_=>N7 c d a b (i+1) (by omega) h<|by omega)
  (λe=>aA<|show h.length<=_ by omega)
termination_by d.length-i
theorem aLB(a b:List Int)(h:a.length<=400000)(i:b.length<=400000): aB (λn _=>zQ n a b) λr=>r.length<=a.length:=
 aX (λ_=>rfl)<|aE (d7 [b] (by simp)<|by simpa using i) λc j=>aE (f:=λn _=>wR n (c,a)) (Q:=λr=>r.length<=a.length) (aU<|aE (d7 [a] (by simp)<|by simpa using h) λd g=>aE (bA<|N7 c d (by simp at j;omega) (by simp at g;omega) 0 (by omega) []<|by simp) λr e=>aA<|by simp at g;show r.length<=_;omega) λr e=>aA e
theorem aFt(a b:Int)(l:List Int)(e:l.length<=10000): aB (λn _=>fM n (a,b,l)) λr=>r.length<=l.length+1:=
 aU<|aE (s6 l a<|by omega) λ_ _=>aC (λ_=>aE (aLB l [a] (by omega)<|by simp) λg d=>aC (λ_=>aE (U0 g [b]<|by simp;omega) λh c=>aA<|by simp at c;show h.length<=_;omega) λ_=>aA<|by show g.length<=_;omega) λ_=>aA<|by show l.length<=_;omega
def aLH(r:dR): Prop:=r.Outer.length+r.Inner.flatten.length<=900000/\r.Inner.length<=200000
theorem aEZ(a:List<|List Int)(c:a.length<=200000)(i:Nat)(h:List Int)(b:h.length+(a.drop i).flatten.length<=900000): aB (λn m=>qN tG n m (a,ln a) (h,(i:Int))) λr=>r.length<=900000:=
 bZ<|bB (λx d g=>by
  have e:=rS d;rw[e,Zh] at b;rw[cA<|by omega];exact aF (CO<|by omega)<|aEZ a c (i+1) _<|by rw[Zh];omega)
  (λf=>aA<|show h.length<=_ by omega)
termination_by a.length-i
theorem aEY(r:dR)(h:aLH r): aB (λn _=>Id n r) λr=>r.length<=900000:=by
 let⟨a,b⟩:=h;refine aX (λ_=>rfl)<|aF (CO (l:=([]:List Int)) (m:=r.Outer)<|by simp;omega)<|aE (bA<|aEZ r.Inner b 0 _<|by simpa using a) λc d=>aA d
theorem aDC(p:aM)(a:Sm p)(b:Int)(c:List Int)(e:c.length<=900000)(i:Nat): Sx λn m=>zN qT n m (p,b,c,ln c) (i:Int):=
 cC<|bB (λx h d=>by
  rw[cA<|by omega];refine aE (f:=λn _=>Nt n (b,x)) (Q:=λ_=>True) (by repeat' first|apply dZ|apply aC|apply bE|intro) λ_ _=>aC (λ_=>aE (o4 p a x) λ_ _=>aA trivial) λ_=>aDC p a b c e<|i+1) λg=>aA trivial
termination_by c.length-i
theorem aDD(p:aM)(d:Sm p)(b:Int)(c:List dR)(f:c.length<=1000)(a:∀r∈c,aLH r)(i:Nat): Sx λn m=>zN qU n m (p,b,c,ln c) (i:Int):=
 cC<|bB (λx g e=>by
  rw[cA<|by omega];exact aE (aEY x<|a x<|Zg g) λl h=>aS (bA<|aDC p d b l h 0) (λ_ _=>aA trivial) λ_ _=>aF rfl<|aDD p d b c f a<|i+1) λj=>aA trivial
termination_by c.length-i
theorem aGM(p:aM)(d:Sm p)(b:Int)(c:List dR)(a:c.length<=1000)(e:∀r∈c,aLH r): Tt λn _=>Nu n p b c:=
 aX (λ_=>rfl)<|aS (bA<|aDD p d b c a e 0) (λ_ _=>aA trivial) λ_ _=>aF rfl<|aA trivial
theorem aB.both{α:Type}{P Q:α->Prop}{f:Nat->Nat->Option α}(h:aB f P)(k:aB f Q): aB f λr=>P r/\Q r:=by
 obtain⟨r,p,hr⟩:=h.val
 exact hr.imp λs e=>by rw[show s=r from e];exact⟨p,aB.uniq hr k⟩
theorem aFa(a:List (List Int))(h:a.length<=1000)(N:Nat)(f:N<=400000)(i:Nat)(l:List Int)(k:Nat)(d:l.length=N)(c:k+(a.drop i).flatten.length=N)(e:l.take k=(a.take i).flatten): aB (λn m=>qN fE n m (a,ln a) (l,(0,k),(i:Int))) λr=>r=(a.flatten,(0,N)):=
 bZ (bB (λx g j=>by
  have e1:=rS g
  rw[e1,Zh] at c
  rw[cA (by omega)]
  refine aF (x:=aP l k x) (by unfold MW;rw[Zu (by simp only[Z0];omega),Z0]) (aFa a h N f (i+1) _ (k+x.length) (by simp[aP];omega) (by omega) ?_)
  rw[YX,g,Xw,<-e]
  unfold aP
  rw[<-Ye,List.take_left' (by rw[Zh,ZH];omega)]
  simp) λb=>aA (by
  rw[Xo b,Xd,Z1,Xm] at c
  rw[ZW b,ZW (by omega)] at e
  rw[e,c]))
termination_by a.length-i
theorem aOt(a:List (List Int))(c:a.length<=1000)(d:a.flatten.length<=400000): aB (λn _=>jK n a) λr=>r=a.flatten:=by
 refine aX (λ_=>rfl) (aE (bA (S6 a c 0 0 (by rw[YD];omega))) λv e=>?_)
 have f:v=((a.flatten.length:Nat):Int):=by rw[e];simp
 have e2:wr (v-0)=((a.flatten.length:Nat):Int):=by rw[f,wr,i64_in _ (by omega)];omega
 refine aS (Q:=λ_=>a.flatten.length=0) (R:=λr=>r=(List.replicate a.flatten.length 0,(0,0))) (aU (aC (λh=>by have:=Zl h;omega) λ_=>aC (λ_=>?_) λh=>by rw[e2] at h;have:=Zp h;exact aA (show a.flatten.length=0 by omega))) (λ_ h=>?_) λr b=>?_
 .refine aF (x:=List.replicate a.flatten.length 0) (by rw[e2];unfold rep;rw[Zu (by omega)];simp) (aC (λh=>?_) λ_=>aF (x:=(0,0)) (by unfold sub;rw[Zu (by simp)];rfl) (aA rfl))
  rw[Vd] at h
  have:=congrArg List.length h
  rw[Yo,Z1] at this
  exact aA this
 .exact aE (bA (S5 a c 0 (by simpa using h))) λ_ _=>aF rfl (aA (YO h).symm)
 .subst b
  refine aF rfl (aE (bA (aFa a c a.flatten.length d 0 _ 0 (by simp) (by simp) (by simp))) λr b=>?_)
  subst b
  exact aF (tB (Yj rfl)) (aA (show List.take a.flatten.length (List.drop 0 a.flatten)=a.flatten by rw[YD,XO]))
structure CW(a r:List Int): Prop where
 s:r.Pairwise (·<·)
 m:∀x,x∈r↔x∈a
theorem aMM(l:List Int): (hU l).Pairwise (·<=·):=by
 rw[<-DB]
 have:=List.pairwise_mergeSort (le:=λx y:Int=>decide (x<=y)) (λa b c h k=>by simp only[Z4] at *;omega) (λa b=>by simp only[YU,Z4];omega) l
 exact this.imp λh=>Zl h
theorem Ce{l:List Int}{k:Nat}{x:Int}(h:l[k]?=some x)(y:Int): y∈l.take (k+1)↔y∈l.take k\/y=x:=by
 rw[YX,h];simp
theorem R9(a:List Int)(ha:a.Pairwise (·<=·))(s c N:Nat)(f:s+c=N)(e:N<=400000)(hN:a.length=N)(g:Nat)(u:1<=g)(v:g<=c)(d:List Int)(hd:d.length=N)(q:Nat)(t:q+1<=s+g)(hk:d.drop (s+g-1)=a.drop (s+g-1))(ho:CW (a.take (s+g)) (d.take q)): aB (λn m=>qN iF n m (s,c) (d,(q:Int),(g:Int))) λr=>r.1.length=N/\∃k:Nat,r.2=(k:Int)/\k<=N/\CW a (r.1.take k):=by
 refine bZ (aC (λh=>?_) λh=>aA ⟨hd,q,rfl,by omega,?_⟩)
 .have h:(g:Int)<((c:Nat):Int):=Zl h
  have h:g<c:=by omega
  have l:wr ((g:Int)-1)=((g-1:Nat):Int):=by rw[wr,i64_in _ (by omega)];omega
  have at_:∀j,s+g-1<=j->d[j]?=a[j]?:=λj hj=>by
   have:=congrArg (λl=>l[j-(s+g-1)]?) hk
   simp only[Zw] at this
   rwa [show s+g-1+(j-(s+g-1))=j by omega] at this
  have b:∀j,j<c->idx (win d (some (s,c))) (j:Int)=d[s+j]?:=λj p=>by
   rw[bF];simp only[win];rw[XL p,Zw]
  have x1:d[s+g]?=some (a[s+g]'(by omega)):=by rw[at_ _ (by omega)];exact Zb (by omega)
  have x0:d[s+(g-1)]?=some (a[s+(g-1)]'(by omega)):=by rw[at_ _ (by omega)];exact Zb (by omega)
  have i:=(b g h).trans x1
  have e2:idx d ((g:Int)+((s:Nat):Int))=some (a[s+g]'(by omega)):=by
   rw[show (g:Int)+((s:Nat):Int)=((s+g:Nat):Int) by omega,bF];exact x1
  have o:=(b (g-1) (by omega)).trans x0
  have k:idx d (((g-1:Nat):Int)+((s:Nat):Int))=some (a[s+(g-1)]'(by omega)):=by
   rw[show ((g-1:Nat):Int)+((s:Nat):Int)=((s+(g-1):Nat):Int) by omega,bF];exact x0
  have y1:a[s+g]?=some (a[s+g]'(by omega)):=Zb (by omega)
  have le:∀x∈a.take (s+g),x<=a[s+(g-1)]'(by omega):=λx hx=>by
   obtain⟨j,hj,rfl⟩:=Xs.1 hx
   rw[ZH] at hj
   rw[List.getElem_take]
   rcases ZI j (s+(g-1)) with h1 | h1
   .exact List.pairwise_iff_getElem.1 ha _ _ _ _ h1
   .have:j=s+(g-1):=by omega
    subst this;exact Wn _
  have m0:a[s+(g-1)]'(by omega)∈a.take (s+g):=Xs.2 ⟨s+(g-1),by rw[ZH];omega,List.getElem_take⟩
  rw[l,cA (by omega),cA (by omega)]
  refine aF i (aF e2 (aF o (aF k (aC (λw=>?_) λw=>?_))))
  .have w:a[s+g]'(by omega)≠a[s+(g-1)]'(by omega):=by simpa using w
   refine aF i (aF e2 (aF (x:=d[q]'(by omega)) (by rw[fS (by omega)];exact Zb (by omega)) (aF (x:=d[q]'(by omega)) (by rw[bF];exact Zb (by omega)) ?_)))
   rw[YA]
   have gt:a[s+(g-1)]'(by omega)<a[s+g]'(by omega):=by
    have:=List.pairwise_iff_getElem.1 ha (s+(g-1)) (s+g) (by omega) (by omega) (by omega)
    omega
   refine R9 a ha s c N f e hN (g+1) (by omega) (by omega) _ (by rw[Yr];exact hd) (q+1) (by omega) ?_ ?_
   .rw[List.drop_set_of_lt (by omega),show s+(g+1)-1=(s+g-1)+1 by omega,<-XD,<-XD,hk]
   .have tq:(d.set q (a[s+g]'(by omega))).take (q+1)=d.take q++[a[s+g]'(by omega)]:=by
     rw[YX,Z3 (by omega),X6 (Zf _)];rfl
    rw[tq,show s+(g+1)=s+g+1 by omega]
    refine⟨List.pairwise_append.2 ⟨ho.s,List.pairwise_singleton _ _,λx hx y hy=>?_⟩,λx=>?_⟩
    .rw[ZJ.1 hy]
     have:=le x ((ho.m x).1 hx)
     omega
    .rw[ZD,ZJ,ho.m x,Ce y1 x]
  .have w:a[s+g]'(by omega)=a[s+(g-1)]'(by omega):=by simpa using w
   refine R9 a ha s c N f e hN (g+1) (by omega) (by omega) d hd q (by omega) ?_ ?_
   .rw[show s+(g+1)-1=(s+g-1)+1 by omega,<-XD,<-XD,hk]
   .rw[show s+(g+1)=s+g+1 by omega]
    refine⟨ho.s,λx=>?_⟩
    rw[ho.m x,Ce y1 x,w]
    exact⟨.inl,λh=>h.elim id λh=>h▸m0⟩
 .have h:¬(g:Int)<((c:Nat):Int):=Zp h
  have:s+g=N:=by omega
  rw[this,<-hN,XO] at ho
  exact ho
termination_by c-g
theorem aFb(a:List Int)(ha:a.Pairwise (·<=·))(c:a.length<=400000)(i:Nat)(l:1<=i)(hi:i<=a.length)(ho:(a.take i).Pairwise (·<·)): aB (λn m=>zN iG n m a (i:Int)) (Su (λv=>CW a (win v.1 (some v.2))) λ_=>a.Pairwise (·<·)):=by
 refine cC (aC (λh=>?_) λh=>aA ?_)
 .have h:(i:Int)<ln a:=Zl h
  have h:i<a.length:=by unfold ln at h;omega
  have g:wr ((i:Int)-1)=((i-1:Nat):Int):=by rw[wr,i64_in _ (by omega)];omega
  rw[g,cA (by omega)]
  refine aF (x:=a[i]) (by rw[fS h];exact Zb h) (aF (x:=a[i]) (by rw[bF];exact Zb h) (aF (x:=a[i-1]'(by omega)) (by rw[fS (by omega)];exact Zb (by omega)) (aF (x:=a[i-1]'(by omega)) (by rw[bF];exact Zb (by omega)) (aC (λw=>?_) λw=>?_))))
  .have w:a[i]=a[i-1]'(by omega):=by simpa using w
   have y1:a[i]?=some a[i]:=Zb h
   have m0:a[i-1]'(by omega)∈a.take i:=Xs.2 ⟨i-1,by rw[ZH];omega,List.getElem_take⟩
   refine aF (x:=(i,a.length-i)) (by unfold sub;rw[Zu ⟨by omega,by unfold ln;omega,by unfold ln;simp⟩];simp[ln]) (aE (bA (R9 a ha i (a.length-i) a.length (by omega) c rfl 1 (Zf _) (by omega) a rfl i (by omega) rfl ⟨ho,λx=>?_⟩)) λj k=>?_)
   .rw[Ce y1 x,w]
    exact⟨.inl,λh=>h.elim id λh=>h▸m0⟩
   .obtain⟨e,q,d,f,o⟩:=k
    refine aF (x:=(q,a.length-q)) (by rw[d];unfold sub;rw[Zu ⟨by omega,by unfold ln;omega,by unfold ln;simp⟩];simp[ln,e]) (aF (x:=aP j.1 q (List.replicate (a.length-q) 0)) (by unfold clr;rw[Zu (by show q+(a.length-q)<=_;omega)]) ?_)
    have b:(aP j.1 q (List.replicate (a.length-q) 0)).length=a.length:=by unfold aP;simp;omega
    refine aF (x:=(0,q)) (by rw[d];unfold sub;rw[Zu ⟨by omega,by omega,by simp[b];omega⟩];simp) (aA ?_)
    show CW a (List.take q (List.drop 0 (aP j.1 q _)))
    rw[YD]
    unfold aP
    rw[List.take_left' (by rw[ZH];omega)]
    exact o
  .have w:¬a[i]=a[i-1]'(by omega):=by simpa using w
   refine aFb a ha c (i+1) (by omega) (by omega) ?_
   rw[YX,Zb h]
   refine List.pairwise_append.2 ⟨ho,List.pairwise_singleton _ _,λx hx y hy=>?_⟩
   rw[ZJ.1 (show y∈[a[i]] from hy)]
   obtain⟨j,hj,rfl⟩:=Xs.1 hx
   rw[ZH] at hj
   rw[List.getElem_take]
   have h1:=List.pairwise_iff_getElem.1 ha (i-1) i (by omega) h (by omega)
   rcases ZI j (i-1) with h2 | h2
   .have:=List.pairwise_iff_getElem.1 ha j (i-1) (by omega) (by omega) h2
    omega
   .have:j=i-1:=by omega
    subst this;omega
 .have h:¬(i:Int)<ln a:=Zp h
  have:i=a.length:=by unfold ln at h;omega
  rw[this,XO] at ho
  exact ho
termination_by a.length-i
theorem aDr(a:List (List Int))(e:a.length<=1000)(g:a.flatten.length<=400000): aB (λn _=>iW n a) λr=>CW a.flatten r:=by
 have me:∀x,x∈hU a.flatten↔x∈a.flatten:=λx=>(D4 a.flatten).mem_iff
 have un:(hU a.flatten).Pairwise (·<·)->CW a.flatten (hU a.flatten):=λh=>⟨h,me⟩
 refine aX (λ_=>rfl) (aE (aOt a e g) λb d=>?_)
 subst d
 refine aU (aF (tB (Yj (by omega))) (aS (MY (f:=λn=>qP n (hU a.flatten)) (P:=Su (λ_=>(hU a.flatten).Pairwise (·<·)) λv=>CW (hU a.flatten) (win v.1 (some v.2))) (aU (aC (λh=>aA ?_) λh=>aS (bA (aFb (hU a.flatten) (aMM _) (by rw[sF];omega) 1 (Zf _) ?_ ?_)) (λv c=>aA (by exact c)) λ_ c=>aF rfl (aA (by exact c))))) (λ_ h=>aA (un h)) λv c=>aF rfl (aA ⟨c.s,λx=>(c.m x).trans (me x)⟩)))
 .have h:ln (hU a.flatten)<2:=Zl h
  show (hU a.flatten).Pairwise (·<·)
  unfold ln at h
  generalize hU a.flatten=l at h
  match l,h with
  | [],_=>exact .nil
  | [x],_=>exact List.pairwise_singleton _ _
  | x::y::l,h=>simp only[Yc] at h;omega
 .have h:¬ln (hU a.flatten)<2:=Zp h
  unfold ln at h;omega
 .generalize hU a.flatten=l
  match l with
  | []=>exact .nil
  | x::l=>exact List.pairwise_singleton _ _
theorem aJi(a b:List Int)(h:a.length+b.length<=400000): aB (λn _=>nQ n a b) λr=>CW (a++b) r:=
 aX (λ_=>rfl) (aE (aDr [a,b] (by simp) (by simpa using h)) λc d=>aA (by simpa using d))
theorem CW.len{a b r s:List Int}(h:CW a r)(k:CW b s)(e:∀x,x∈a↔x∈b): r=s:=by
 have:∀{r s:List Int},r.Pairwise (·<·)->s.Pairwise (·<·)->(∀x,x∈r↔x∈s)->r=s:=by
  intro r
  induction r with
  | nil=>intro s _ _ h;cases s with
   | nil=>rfl
   | cons y s=>exact absurd ((h y).2 ZM) (by simp)
  | cons x r ih=>intro s hr hs h;cases s with
   | nil=>exact absurd ((h x).1 ZM) (by simp)
   | cons y s=>
    obtain⟨a1,a2⟩:=List.pairwise_cons.1 hr
    obtain⟨b1,b2⟩:=List.pairwise_cons.1 hs
    have e:x=y:=by
     rcases ZN.1 ((h x).1 ZM) with e | e
     .exact e
     .rcases ZN.1 ((h y).2 ZM) with e2 | e2
      .exact e2.symm
      .have:=a1 y e2;have:=b1 x e;omega
    subst e
    rw[ih a2 b2 λt=>⟨λht=>by
     rcases ZN.1 ((h t).1 (ZQ _ ht)) with e | e
     .have:=a1 t ht;omega
     .exact e,λht=>by
     rcases ZN.1 ((h t).2 (ZQ _ ht)) with e | e
     .have:=b1 t ht;omega
     .exact e⟩]
 exact this h.s k.s λx=>by rw[h.m,k.m,e]
section
abbrev As(l:List Int): Prop:=l.Pairwise (·<·)
variable {f g:Int}{l r s:List Int}
theorem As.uniq(h:As r)(k:As s)(e:∀x,x∈r↔x∈s): r=s:=CW.len (a:=s) (b:=s) ⟨h,e⟩ ⟨k,λ_=>Iff.rfl⟩ λ_=>Iff.rfl
theorem As.len(hr:As r)(hs:As s)(hg:g∈r)(e:∀x,x∈s↔x∈r/\x≠g): s.length+1=r.length:=by
 have nd:r.Nodup:=hr.imp λh=>by omega
 have:s=r.erase g:=hs.uniq (hr.sublist List.erase_sublist) λx=>by rw[e,nd.mem_erase_iff];exact And.comm
 rw[this,List.length_erase_of_mem hg]
 have:=List.length_pos_of_mem hg
 omega
theorem aSa(x:Int): aB (λn _=>eP n x) λr=>r=false:=aX (λ_=>rfl) (aC (λh=>by simp at h) λ_=>aA rfl)
theorem i2x(x:Int): aB (λn _=>eD n x) λr=>r=false:=aU (aC (λh=>by simp at h) λ_=>aA rfl)
theorem aPW(x y:Int): aB (λn _=>vE n x y) λr=>r=true↔x<y:=
 aX (λ_=>rfl) (aE (f:=λn _=>tJ n (x,y)) (Q:=λr=>r=true↔x<y) (aE (aSa x) λc hc=>aC (λh=>by rw[show c=false from hc] at h;cases h) λ_=>aC (λh=>aA ⟨λ_=>Zl h,λ_=>rfl⟩) λh=>aA ⟨by simp,λk=>absurd k (Zp h)⟩) λr hr=>aDw hr)
theorem aDv(l:List Int)(hl:As l)(b:Int)(a:l.length<=400000)(f g:Nat)(e:f<=g)(c:g<=l.length)(lo:∀j x,j<f->l[j]?=some x->x<b)(hi:∀j x,g<=j->l[j]?=some x->¬x<b): aB (λn m=>qN dW n m (l,b) ((f:Int),(g:Int))) λr=>∃p:Nat,r=(p:Int)/\p<=l.length/\(∀j x,j<p->l[j]?=some x->x<b)/\∀j x,p<=j->l[j]?=some x->¬x<b:=by
 refine bZ (aC (λh=>?_) λh=>aA ⟨f,rfl,by omega,lo,λj x hj=>hi j x (by have:=Zp h;omega)⟩)
 have h:(f:Int)<(g:Int):=Zl h
 have d:(f+g) / 2<l.length:=by omega
 have asc:∀(i j:Nat) (x y:Int),i<j->l[i]?=some x->l[j]?=some y->x<y:=λi j x y hij ha hb=>by
  obtain⟨p,rfl⟩:=Ze.1 ha
  obtain⟨q,rfl⟩:=Ze.1 hb
  exact List.pairwise_iff_getElem.1 hl _ _ p q hij
 have em:=Zb d
 rw[aAP f g (by omega)]
 refine aF (x:=l[(f+g) / 2]) (by rw[bF];exact em) (aE (aPW _ b) λr hr=>aC (λk=>?_) λk=>?_)
 .have k:=hr.1 k
  rw[cA (by omega)]
  refine aDv l hl b a ((f+g) / 2+1) g (by omega) c (λj x hj hx=>?_) hi
  rcases ZI j ((f+g) / 2) with h2 | h2
  .have:=asc _ _ _ _ h2 hx em;omega
  .have:j=(f+g) / 2:=by omega
   subst this
   rw[em] at hx;cases hx;exact k
 .have k:¬l[(f+g) / 2]<b:=λq=>by rw[hr.2 q] at k;cases k
  refine aDv l hl b a f ((f+g) / 2) (by omega) (by omega) lo λj x hj hx=>?_
  rcases ZI ((f+g) / 2) j with h2 | h2
  .have:=asc _ _ _ _ h2 em hx;omega
  .have:j=(f+g) / 2:=by omega
   subst this
   rw[em] at hx;cases hx;exact k
termination_by g-f
theorem aQ5(l:List Int)(hl:As l)(b:Int)(d:l.length<=400000): aB (λn _=>eW n l b) λr=>r.2=true↔b∈l:=by
 refine aX (λ_=>rfl) (aE (bA (aDv l hl b d 0 l.length (by omega) (Zf _) (λj x h=>by omega) λj x h k=>by have:=(Ze.1 k).1;omega)) λf c=>?_)
 obtain⟨p,rfl,hp,lo,hi⟩:=c
 have nin:(∀x,l[p]?=some x->x≠b)->b∉l:=λh hb=>by
  obtain⟨j,hj⟩:=Yi.1 hb
  rcases Nat.lt_trichotomy j p with k | k | k
  .have:=lo j b k hj;omega
  .subst k;exact h b hj rfl
  .have hlt:p<l.length:=by have:=(Ze.1 hj).1;omega
   have em:=Zb hlt
   have h1:=hi p _ (Zf _) em
   have h2:=h _ em
   obtain⟨q,hq⟩:=Ze.1 hj
   have:=List.pairwise_iff_getElem.1 hl p j hlt q k
   omega
 refine aC (λh=>?_) λh=>aA ⟨by simp,λhb=>absurd hb (nin λx hx=>by have:=(Ze.1 hx).1;have:=Zp h;unfold ln at this;omega)⟩
 have hlt:p<l.length:=by have:=Zl h;unfold ln at this;omega
 have em:=Zb hlt
 have ei:idx l (p:Int)=some l[p]:=by rw[bF];exact em
 have no:∀q:Int,(l[p]==b)=false->aB (λ_ _=>some (q,false)) λr=>r.2=true↔b∈l:=λq h=>aA ⟨by simp,λhb=>absurd hb (nin λx hx=>by rw[em] at hx;cases hx;simpa using h)⟩
 refine aF ei (aC (λk=>aA ⟨λ_=>?_,λ_=>rfl⟩) λk=>aF ei (aE (i2x l[p]) λr hr=>aC (λh=>by rw[show r=false from hr] at h;cases h) λ_=>no _ k))
 have k:l[p]=b:=by simpa using k
 rw[<-k];exact ZP hlt
theorem aCR(c d:List Int)(hc:As c)(a:c.length<=400000)(b:d.length<=400000)(i:Nat)(h:List Int)(j:h=(d.take i).filter λx=>decide (x∉c)): aB (λn m=>qN kV n m (c,d,ln d) (h,(i:Int))) λr=>r=d.filter λx=>decide (x∉c):=
 bZ (bB (λx k g=>by
  rw[cA (by omega)]
  have hl:h.length<=400000:=by rw[j];have:=List.length_filter_le (λx=>decide (x∉c)) (d.take i);rw[ZH] at this;omega
  have st:(d.take (i+1)).filter (λx=>decide (x∉c))=h++if x∈c then[] else[x]:=by
   rw[YX,k,List.filter_append,<-j]
   by_cases e:x∈c<;>simp[e]
  refine aE (f:=λn _=>wQ n (c,x)) (Q:=λr=>r=false↔x∈c) (aU (aE (aQ5 c hc x a) λr hr=>aC (λh=>aA ⟨λ_=>hr.1 h,λ_=>rfl⟩) λh=>aA ⟨by simp,λe=>by rw[hr.2 e] at h;cases h⟩)) λr hr=>aC (λe=>aF (Il (by omega)) (aCR c d hc a b (i+1) _ ?_)) λe=>aCR c d hc a b (i+1) h ?_
  .have:¬x∈c:=λh=>by rw[hr.2 h] at e;cases e
   rw[st,ZF this]
  .rw[st,Zu (hr.1 e),Wo]) λe=>aA (by rw[j,ZW e]))
termination_by d.length-i
theorem aO3(a b:List Int)(h:a.length<=400000)(i:b.length<=400000): aB (λn _=>zQ n a b) λr=>As r/\∀x,x∈r↔x∈a/\x∉b:=by
 refine aX (λ_=>rfl) (aE ((d7 [b] (by simp) (by simpa using i)).both (aDr [b] (by simp) (by simpa using i))) λc j=>aE (f:=λn _=>wR n (c,a)) (Q:=λr=>As r/\∀x,x∈r↔x∈a/\x∉b) (aU (aE ((d7 [a] (by simp) (by simpa using h)).both (aDr [a] (by simp) (by simpa using h))) λd g=>?_)) λr e=>aA e)
 obtain⟨j1,j⟩:=j
 obtain⟨g1,g⟩:=g
 have j1:c.length<=b.length:=by simpa using j1
 have g1:d.length<=a.length:=by simpa using g1
 have j:CW b c:=by simpa using j
 have g:CW a d:=by simpa using g
 exact aE (bA (aCR c d j.s (by omega) (by omega) 0 [] (by simp))) λr e=>aA (by
  rw[show r=_ from e]
  refine⟨g.s.filter _,λx=>?_⟩
  rw[List.mem_filter,g.m,Z4,j.m])
structure Swp(f g:Int)(l r:List Int): Prop where
 no:f∉l->r=l
 yes:f∈l->∃m,As m/\m.length+1=l.length/\(∀x,x∈m↔x∈l/\x≠f)/\As r/\(g=0->r=m)/\(g≠0->∀x,x∈r↔x∈m\/x=g)
theorem Swp.keep(h:Swp f g l r)(a:f∈l)(b:g≠0)(c:g∉l): r.length=l.length:=by
 obtain⟨m,m1,m2,m3,m4,_,m6⟩:=h.yes a
 have:=m4.len m1 (g:=g) ((m6 b g).2 (.inr rfl)) λx=>by rw[m6 b x];exact⟨λh=>⟨.inl h,λe=>c (e▸((m3 x).1 h).1)⟩,λh=>h.1.elim id λe=>absurd e h.2⟩
 omega
theorem Swp.less(h:Swp f g l r)(a:f∈l)(b:g=0\/g∈l)(c:g≠f): r.length+1=l.length:=by
 obtain⟨m,m1,m2,m3,m4,m5,m6⟩:=h.yes a
 by_cases e:g=0
 .rw[m5 e];exact m2
 .have:r=m:=m4.uniq m1 λx=>by
   rw[m6 e x]
   exact⟨λh=>h.elim id λe'=>by rw[e'];exact (m3 g).2 ⟨b.resolve_left e,c⟩,.inl⟩
  rw[this];exact m2
theorem aJn(a b:Int)(l:List Int)(hl:As l)(e:l.length<=10000): aB (λn _=>fM n (a,b,l)) λr=>Swp a b l r:=
 aU (aE (s6 l a (by omega)) λc hc=>aC (λh=>aE (aO3 l [a] (by omega) (by simp)) λg d=>by
  obtain⟨d1,d2⟩:=d
  have ha:a∈l:=by rw[show c=_ from hc] at h;exact Zl h
  have d3:∀x,x∈g↔x∈l/\x≠a:=λx=>by rw[d2 x];simp
  have m2:g.length+1=l.length:=hl.len d1 ha d3
  refine aC (λk=>aE (aJi g [b] (by simp;omega)) λh o=>aA ⟨λq=>absurd ha q,λ_=>⟨g,d1,m2,d3,o.s,λz=>by rw[z] at k;simp at k,λ_ x=>by rw[o.m x,ZD,ZJ]⟩⟩) λk=>aA ⟨λq=>absurd ha q,λ_=>⟨g,d1,m2,d3,d1,λ_=>rfl,λz=>absurd (by simpa using k) z⟩⟩) λh=>aA ⟨λ_=>rfl,λk=>by
  rw[show c=_ from hc,Wx] at h;exact absurd k h⟩)
end
structure FeI(l:List aI)(N i:Nat): Prop where
 len:l.length=N
 lo:∀(j:Nat) (f:aI),l[j]?=some f->f.Parts.length<=65
 hi:∀(j:Nat) (f:aI),i<=j->l[j]?=some f->f.Parts.length<=64
theorem FeI.next{l:List aI}{N i:Nat}(h:FeI l N i): FeI l N<|i+1:=⟨h.len,h.lo,λj f a=>h.hi j f<|by omega⟩
theorem FeI.set{l:List aI}{N i:Nat}(h:FeI l N i){g:aI}(b:g.Parts.length<=65): FeI (l.set i g) N<|i+1:=by
 refine⟨by rw[Yr];exact h.len,λj f a=>?_,λj f c a=>?_⟩
 .rw[Z5] at a;split at a
  .split at a
   .cases a;exact b
   .cases a
  .exact h.lo j f a
 .rw[Zv<|by omega] at a;exact h.hi j f (by omega) a
theorem FeI.all{l:List aI}{N i:Nat}(h:FeI l N i): ∀f∈l,f.Parts.length<=65:=λf a=>by
 let⟨j,b⟩:=Yi.1 a;exact h.lo j f b
theorem FeI.at{l:List aI}{N i:Nat}(h:FeI l N i)(c:N<=1000)(b:(i:Int)<(N:Int)): ∃f,f.Parts.length<=64/\gM l l.length (i:Int)=some f/\idx l (i:Int)=some f:=by
 have a:i<l.length:=by rw[h.len];omega
 have e:=Zb a;exact⟨l[i],h.hi i _ (Zf _) e,by rw[fS a];exact e,by rw[bF];exact e⟩
theorem aCA(a b:List Int)(c:List Aab)(d f:List aR)(g h:Int)(N:Nat)(j:N<=1000)(i:Nat)(l:List aI)(e:FeI l N i): aB (λn m=>qN nI n m (a,b,c,d,f,g,h,(N:Int)) (l,(i:Int))) λr=>r.length=N/\∀f∈r,f.Parts.length<=65:=by
 refine bZ<|aC (λk=>?_) λ_=>aA ⟨e.len,e.all⟩;have k:(i:Int)<(N:Int):=Zl k;let⟨x,q,o,e2⟩:=e.at j k;rw[cA<|by omega];refine aF o<|aF e2<|aE (f:=λn _=>Fh n (x,g)) (Q:=λ_=>True) (bE λ_=>aC (λ_=>aE (s6 x.Parts g<|by omega) λ_ _=>aC (λ_=>aA trivial) λ_=>aA trivial) λ_=>aA trivial) λ_ _=>aC (λ_=>aE (U0 x.Parts [h]<|by simp;omega) λt p=>aF o<|aF e2 ?_) λ_=>aCA a b c d f g h N j (i+1) l e.next;simp only[YA];exact aCA a b c d f g h N j (i+1) _<|e.set<|by simp at p;show t.length<=65;omega
termination_by N-i
theorem aC8(a b:List Int)(c:List Aab)(d:List aR)(f g:Int)(N:Nat)(j:N<=1000)(i:Nat)(l:List aI)(e:FeI l N i): aB (λn m=>qN nG n m (a,b,c,d,f,g,(N:Int)) (l,(i:Int))) λr=>r.length=N/\∀f∈r,f.Parts.length<=65:=by
 refine bZ<|aC (λh=>?_) λ_=>aA ⟨e.len,e.all⟩;have h:(i:Int)<(N:Int):=Zl h;let⟨x,o,k,e2⟩:=e.at j h;rw[cA<|by omega];refine aF k<|aF e2<|bE λ_=>aC (λ_=>aE (aFt f g x.Parts<|by omega) λt p=>aF k<|aF e2 ?_) λ_=>aC8 a b c d f g N j (i+1) l e.next;simp only[YA];exact aC8 a b c d f g N j (i+1) _<|e.set<|by show t.length<=65;omega
termination_by N-i
theorem aC6(w:Nat×Nat)(a b:List Int)(c:List Aab)(d:List aR)(f g:Int)(N:Nat)(h:N<=1000)(i:Nat)(l:List aI)(e:FeI l N i): aB (λn m=>qN nE n m (w,a,b,c,d,f,g,(N:Int)) (l,(i:Int))) λr=>r.length=N/\∀f∈r,f.Parts.length<=65:=by
 refine bZ<|aC (λj=>?_) λ_=>aA ⟨e.len,e.all⟩;have j:(i:Int)<(N:Int):=Zl j;let⟨x,p,k,e2⟩:=e.at h j;rw[cA<|by omega];refine aF k<|aF e2<|bE λ_=>aC (λ_=>aE (aFt f g x.Parts<|by omega) λt o=>aF k<|aF e2 ?_) λ_=>aC6 w a b c d f g N h (i+1) l e.next;simp only[YA];exact aC6 w a b c d f g N h (i+1) _<|e.set<|by show t.length<=65;omega
termination_by N-i
theorem mL.at{l:List aR}{N i:Nat}(h:mL l N)(c:i<N): ∃a,l[i]?=some a/\gM l l.length (i:Int)=some a/\idx l (i:Int)=some a:=by
 have b:i<l.length:=by rw[h.1];omega
 have e:=Zb b;exact⟨l[i],e,by rw[fS b];exact e,by rw[bF];exact e⟩
theorem aCB(a:List Int)(b:List Aab)(c:List aI)(d:List Int)(f:Int)(g:List Int)(j:g.length<=900000)(N:Nat)(o:N<=300)(i:Nat)(l:List aR)(e:mL l N): aB (λn m=>qN nJ n m (a,b,c,d,f,g,ln g) (l,(i:Int))) λr=>mL r N:=by
 refine bZ<|bB (λx w u=>?_) λ_=>aA e;rw[cA<|by omega];refine aE (T4 ⟨⟨b,l,a⟩,c⟩ _<|by show l.length<=_;rw[e.1];omega) λr t=>aC (λs=>?_) λ_=>aCB a b c d f g j N o (i+1) l e;let⟨y,_,h⟩:=t;have h:r.1.toNat<l.length:=h s;let⟨q,p⟩:∃q:Nat,r.1=(q:Int):=⟨r.1.toNat,by omega⟩;rw[p] at h |-;let⟨x,v,k,e2⟩:=e.at (i:=q) (by rw[<-e.1];simpa using h);refine aC (λ_=>aF k<|aF e2 ?_) λ_=>aF k<|aF e2 ?_;all_goals
  simp only[YA];exact aCB a b c d f g j N o (i+1) _<|e.set v rfl
termination_by g.length-i
theorem aC9(a b:List Int)(c:List Aab)(d:List aI)(f g:Int)(N:Nat)(o:N<=300)(i:Nat)(l:List aR)(e:mL l N): aB (λn m=>qN nH n m (a,b,c,d,f,g,(N:Int)) (l,(i:Int))) λr=>mL r N:=by
 refine bZ<|aC (λp=>?_) λ_=>aA e;have p:(i:Int)<(N:Int):=Zl p;have k:i<N:=by omega
 let⟨x,u,j,e2⟩:=e.at k;rw[cA<|by omega];refine aF j<|aF e2<|aE (f:=λn _=>Ff n (a,b,c,l,d,f,g,x,(i:Int))) (Q:=λr=>mL r N) (aC (λ_=>aF j<|aF e2<|aA ?_) λ_=>aA e) λr h=>?_
 .simp only[YA];exact e.set u rfl
 .let⟨y,t,s,q⟩:=h.at k;refine aC (λ_=>aF s<|aF q ?_) λ_=>aC9 a b c d f g N o (i+1) r h;simp only[YA];exact aC9 a b c d f g N o (i+1) _<|h.set t rfl
termination_by N-i
section
variable {α:Type}(l:List α)(z:α)(hl:l.length<=1000)(j:Nat)(hj:j<l.length)
include hl hj
theorem aOe: sub l (0,l.length) 0 (j:Int)=some (0,j):=by
 unfold sub;rw[Zu ⟨by omega,by omega,by simp;omega⟩];simp
theorem aOd: sub l (0,l.length) ((j+1:Nat):Int) (ln l)=some (j+1,l.length-(j+1)):=by
 unfold sub ln;rw[Zu ⟨by omega,by omega,by simp⟩];simp
theorem aGm: (win l<|some (j+1,l.length-(j+1))).length=l.length-(j+1):=by simp[win]
def aDm: List α:=aP l j<|win l<|some (j+1,l.length-(j+1))
theorem aOc: MW l (0,j) (win l<|some (j+1,l.length-(j+1)))=some (aDm l j):=by
 unfold MW aDm;rw[aGm l hl j hj,Zu ⟨by simp;omega,by omega⟩,Z0]
theorem c7: (aDm l j).length=l.length:=by
 unfold aDm aP;rw[Zh,Zh,ZV,ZH,aGm l hl j hj];omega
theorem aOb: sub (aDm l j) (0,j+(win l<|some (j+1,l.length-(j+1))).length) (((0,j+(win l<|some (j+1,l.length-(j+1))).length).2:Nat):Int) (ln l)=some (l.length-1,1):=by
 rw[aGm l hl j hj,show j+(l.length-(j+1))=l.length-1 by omega];unfold sub ln;rw[Zu ⟨by omega,by simp,by rw[c7 l hl j hj];simp⟩];simp;omega
def HB: List α:=aP (aDm l j) (l.length-1)<|List.replicate 1 z
theorem aOa: clr (aDm l j) (l.length-1,1) z=some (HB l z j):=by
 unfold clr HB;rw[Zu<|by rw[c7 l hl j hj];show l.length-1+1<=_;omega]
theorem aIK: (HB l z j).length=l.length:=by
 unfold HB aP;rw[Zh,Zh,ZV,ZH,c7 l hl j hj];simp;omega
omit hl hj in
theorem UC{e cs:List α}{k:Nat}{x:α}(h:x∈aP e k cs): x∈e\/x∈cs:=by
 unfold aP at h;rcases ZD.1 h with h | h
 .exact .inl<|Z7 h
 rcases ZD.1 h with h | h
 .exact .inr h
 .exact .inl<|ZZ h
omit hl hj in
theorem aBC: ∀x∈HB l z j,x∈l\/x=z:=by
 intro x a;rcases UC a with a | a
 .rcases UC (show x∈aP l j _ from a) with a | a
  .exact .inl a
  .exact .inl<|ZZ<|Z7 a
 .exact .inr<|List.eq_of_mem_replicate a
end
theorem aLk(a b:List Int)(d:List aR)(f:List aI)(l:List Aab)(e:l.length<=1000)(j:Nat)(c:j<l.length): aB (λn _=>Jt n (a,b,l,d,f,(j:Int),((j+1:Nat):Int)))<|Su (λ_=>False) λv=>v=(HB l (Aab.mk 0<|Aaa.mk 0 0) j,(0,l.length-1)):=by
 refine aU<|aF (tB<|Yj ⟨by omega,by omega,by unfold ln;omega,Wn _⟩)<|aC (λh=>?_) λ_=>aF (aOe l e j c)<|aF (aOd l e j c)<|aF (aOc l e j c)<|aF (aOb l e j c)<|aF (aOa l (Aab.mk 0<|Aaa.mk 0 0) e j c)<|aA ?_
 .have h:(j:Int)=((j+1:Nat):Int):=by simpa using h
  omega
 .show (HB l (Aab.mk 0<|Aaa.mk 0 0) j,(0,j+(win l<|some (j+1,l.length-(j+1))).length))=_;rw[aGm l e j c,show j+(l.length-(j+1))=l.length-1 by omega]
theorem aIM(a b:List Int)(c:List Aab)(f:List aI)(l:List aR)(e:l.length<=1000)(j:Nat)(d:j<l.length): aB (λn _=>Fu n (a,b,c,l,f,(j:Int),((j+1:Nat):Int)))<|Su (λ_=>False) λv=>v=(HB l (aR.mk 0 0 0 [] 0 0) j,(0,l.length-1)):=by
 refine aU<|aF (tB<|Yj ⟨by omega,by omega,by unfold ln;omega,Wn _⟩)<|aC (λh=>?_) λ_=>aF (aOe l e j d)<|aF (aOd l e j d)<|aF (aOc l e j d)<|aF (aOb l e j d)<|aF (aOa l (aR.mk 0 0 0 [] 0 0) e j d)<|aA ?_
 .have h:(j:Int)=((j+1:Nat):Int):=by simpa using h
  omega
 .show (HB l (aR.mk 0 0 0 [] 0 0) j,(0,j+(win l<|some (j+1,l.length-(j+1))).length))=_;rw[aGm l e j d,show j+(l.length-(j+1))=l.length-1 by omega]
theorem aIL(a b:List Int)(c:List Aab)(d:List aR)(l:List aI)(f:l.length<=1000)(j:Nat)(e:j<l.length): aB (λn _=>Fo n (a,b,c,d,l,(j:Int),((j+1:Nat):Int)))<|Su (λ_=>False) λv=>v=(HB l (aI.mk 0 0 0 (⟨#[]⟩:ByteArray) []) j,(0,l.length-1)):=by
 refine aU<|aF (tB<|Yj ⟨by omega,by omega,by unfold ln;omega,Wn _⟩)<|aC (λh=>?_) λ_=>aF (aOe l f j e)<|aF (aOd l f j e)<|aF (aOc l f j e)<|aF (aOb l f j e)<|aF (aOa l (aI.mk 0 0 0 (⟨#[]⟩:ByteArray) []) f j e)<|aA ?_
 .have h:(j:Int)=((j+1:Nat):Int):=by simpa using h
  omega
 .show (HB l (aI.mk 0 0 0 (⟨#[]⟩:ByteArray) []) j,(0,j+(win l<|some (j+1,l.length-(j+1))).length))=_;rw[aGm l f j e,show j+(l.length-(j+1))=l.length-1 by omega]
theorem aDA{α:Type}{l:List α}{w:Option<|Nat×Nat}{x:α}(h:x∈win l w): x∈l:=by
 cases w with
 | none=>exact h
 | some w=>exact ZZ<|Z7 h
theorem aDB{α:Type}{l:List α}{k r:Nat}(a:r<k)(b:k<=l.length): idx (win l<|some (0,k)) (r:Int)=some (l[r]'(by omega))/\idx l ((r:Int)+((0:Nat):Int))=some (l[r]'(by omega)):=by
 constructor
 .rw[bF];simp only[win];rw[XL a,Zw,Z0];exact Zb<|by omega
 .rw[show (r:Int)+((0:Nat):Int)=(r:Int) by omega,bF];exact Zb<|by omega
theorem aC7(k:Nat)(b c:List Int)(d:List Aab)(f:List aI)(g h:Int)(N:Nat)(p:k<=N)(t:N<=300)(i:Nat)(l:List aR)(a:mL l N): aB (λn m=>qN nF n m ((0,k),b,c,d,f,g,h,(0,k),((k:Nat):Int)) (l,(i:Int))) λr=>mL r N:=by
 refine bZ<|aC (λs=>?_) λ_=>aA a;have s:(i:Int)<((k:Nat):Int):=Zl s;have q:i<k:=by omega
 have e:=aDB (l:=l) q (by rw[a.1];omega);have w:=Zb (l:=l) (i:=i) (by rw[a.1];omega);have o:((i:Int)+((0:Nat):Int)).toNat=i:=by omega
 rw[cA<|by omega];refine aF e.1<|aF e.2<|aE (f:=λn _=>Fe n ((0,k),b,c,d,l,f,g,h,l[i]'(by rw[a.1];omega),(i:Int),(0,k))) (Q:=λr=>mL r N) ?_ λr j=>?_
 .refine aC (λ_=>?_) λ_=>aA a;refine aF e.1<|aF e.2<|aA ?_;show mL (List.set l ((i:Int)+((0:Nat):Int)).toNat _) N;rw[o];exact a.set w rfl
 .have u:=aDB (l:=r) q (by rw[j.1];omega);have v:=Zb (l:=r) (i:=i) (by rw[j.1];omega);refine aC (λ_=>aF u.1<|aF u.2 ?_) λ_=>aC7 k b c d f g h N p t (i+1) r j;refine aC7 k b c d f g h N p t (i+1) _ ?_;show mL (List.set r ((i:Int)+((0:Nat):Int)).toNat _) N;rw[o];exact j.set v rfl
termination_by k-i
def n8: Prop:=∀(p q:aM) (x:Int),Sm p->Sm q->Tt (λn _=>dH n p q x)
theorem B8(f:Sw)(a:List Int)(b:List Aab)(c:List aR)(d:List aI)(e:Int)(i:Sv ⟨⟨b,c,a⟩,d⟩): aB (λn _=>cD n (a,b,c,d,e)) λr=>r=0->CU ⟨⟨b,c,a⟩,d⟩:=
 aC (λ_=>aE (LQ f _ i) λr j=>aA j) λh=>aA λg=>by rw[g] at h;simp at h
theorem aQM(a:Sw)(w:Nat×Nat)(b:List Int)(c:List Aab)(d:List aR)(f:List aI)(e:Int)(i:Sv ⟨⟨win c<|some w,d,b⟩,f⟩): aB (λn _=>rG n (w,b,c,d,f,e)) λr=>r=0->CU ⟨⟨win c<|some w,d,b⟩,f⟩:=
 aC (λ_=>aE (LQ a _ i) λr j=>aA j) λh=>aA λg=>by rw[g] at h;simp at h
theorem aQI(f:Sw)(a:List Int)(b:List Aab)(c:List aI)(d:List aR)(e:Int)(i:Sv ⟨⟨b,d,a⟩,c⟩): aB (λn _=>Fc n (a,b,c,d,e)) λr=>r=0->CU ⟨⟨b,d,a⟩,c⟩:=
 aC (λ_=>aE (LQ f _ i) λr j=>aA j) λh=>aA λg=>by rw[g] at h;simp at h
theorem aM1(a:Sw)(w:Nat×Nat)(b:List Int)(c:List Aab)(d:List aR)(f:List aI)(e:Int)(i:Sv ⟨⟨c,win d<|some w,b⟩,f⟩): aB (λn _=>rA n (w,b,c,d,f,e)) λr=>r=0->CU ⟨⟨c,win d<|some w,b⟩,f⟩:=
 aC (λ_=>aE (LQ a _ i) λr j=>aA j) λh=>aA λg=>by rw[g] at h;simp at h
theorem aQG(b:Sw)(a:List Int)(w:Nat×Nat)(c:List Aab)(d:List aR)(f:List aI)(e:Int)(i:Sv ⟨⟨c,d,a⟩,win f<|some w⟩): aB (λn _=>Ex n (a,w,c,d,f,e)) λr=>r=0->CU ⟨⟨c,d,a⟩,win f<|some w⟩:=
 aC (λ_=>aE (LQ b _ i) λr j=>aA j) λh=>aA λg=>by rw[g] at h;simp at h
theorem aG8(j:n8)(s:aJ)(t:aN)(a:List Int)(b:List Aab)(c:List aR)(d:List aI)(e:Int)(k:Int)(g:Sm s.Plan)(i:Sm ⟨b,c,a⟩): aB (λn _=>dX n (s,t,a,b,c,d,e,k)) λr=>r=0->e=0:=
 aE (f:=λn _=>Fn n (s,t,a,b,c,d,e,k)) (Q:=λ_=>True) (aC (λ_=>aC (λ_=>aE (j _ _ _ g i) λ_ _=>aC (λ_=>aA trivial) λ_=>aA trivial) λ_=>aC (λ_=>aE (j _ _ _ g i) λ_ _=>aC (λ_=>aA trivial) λ_=>aA trivial) λ_=>aA trivial) λ_=>aA trivial) λ_ _=>aC (λ_=>aA<|by simp) λ_=>aA λh=>h
theorem aQL(i:n8)(s:aJ)(t:aN)(w:Nat×Nat)(b:List Int)(c:List Aab)(d:List aR)(f:List aI)(e:Int)(k:Int)(a:Sm s.Plan)(g:Sm ⟨win c<|some w,d,b⟩): aB (λn _=>rE n (s,t,w,b,c,d,f,e,k)) λr=>r=0->e=0:=
 aE (f:=λn _=>Fm n (s,t,w,b,c,d,f,e,k)) (Q:=λ_=>True) (aC (λ_=>aC (λ_=>aE (i _ _ _ a g) λ_ _=>aC (λ_=>aA trivial) λ_=>aA trivial) λ_=>aC (λ_=>aE (i _ _ _ a g) λ_ _=>aC (λ_=>aA trivial) λ_=>aA trivial) λ_=>aA trivial) λ_=>aA trivial) λ_ _=>aC (λ_=>aA<|by simp) λ_=>aA λh=>h
theorem aFr(j:n8)(s:aJ)(t:aN)(a:List Int)(b:List Aab)(c:List aR)(d:List aI)(e:Int)(g:Sm s.Plan)(i:Sm ⟨b,c,a⟩): aB (λn _=>fL n (s,t,a,b,c,d,e)) λr=>r=0->e=0:=
 aE (f:=λn _=>Fd n (s,t,a,b,c,d,e)) (Q:=λ_=>True) (aC (λ_=>aC (λ_=>aE (j _ _ _ g i) λ_ _=>aC (λ_=>aA trivial) λ_=>aA trivial) λ_=>aC (λ_=>aE (j _ _ _ g i) λ_ _=>aC (λ_=>aA trivial) λ_=>aA trivial) λ_=>aA trivial) λ_=>aA trivial) λ_ _=>aC (λ_=>aA<|by simp) λ_=>aA λh=>h
theorem aQH(j:n8)(s:aJ)(t:aN)(a:List Int)(b:List Aab)(c:List aI)(d:List aR)(e:Int)(g:Sm s.Plan)(i:Sm ⟨b,d,a⟩): aB (λn _=>Fb n (s,t,a,b,c,d,e)) λr=>r=0->e=0:=
 aE (f:=λn _=>Fa n (s,t,a,b,c,d,e)) (Q:=λ_=>True) (aC (λ_=>aC (λ_=>aE (j _ _ _ g i) λ_ _=>aC (λ_=>aA trivial) λ_=>aA trivial) λ_=>aC (λ_=>aE (j _ _ _ g i) λ_ _=>aC (λ_=>aA trivial) λ_=>aA trivial) λ_=>aA trivial) λ_=>aA trivial) λ_ _=>aC (λ_=>aA<|by simp) λ_=>aA λh=>h
theorem aM0(i:n8)(s:aJ)(t:aN)(w:Nat×Nat)(b:List Int)(c:List Aab)(d:List aR)(f:List aI)(e:Int)(a:Sm s.Plan)(g:Sm ⟨c,win d<|some w,b⟩): aB (λn _=>qZ n (s,t,w,b,c,d,f,e)) λr=>r=0->e=0:=
 aE (f:=λn _=>Ez n (s,t,w,b,c,d,f,e)) (Q:=λ_=>True) (aC (λ_=>aC (λ_=>aE (i _ _ _ a g) λ_ _=>aC (λ_=>aA trivial) λ_=>aA trivial) λ_=>aC (λ_=>aE (i _ _ _ a g) λ_ _=>aC (λ_=>aA trivial) λ_=>aA trivial) λ_=>aA trivial) λ_=>aA trivial) λ_ _=>aC (λ_=>aA<|by simp) λ_=>aA λh=>h
theorem aQF(i:n8)(s:aJ)(t:aN)(a:List Int)(w:Nat×Nat)(c:List Aab)(d:List aR)(f:List aI)(e:Int)(b:Sm s.Plan)(g:Sm ⟨c,d,a⟩): aB (λn _=>Ew n (s,t,a,w,c,d,f,e)) λr=>r=0->e=0:=
 aE (f:=λn _=>Ev n (s,t,a,w,c,d,f,e)) (Q:=λ_=>True) (aC (λ_=>aC (λ_=>aE (i _ _ _ b g) λ_ _=>aC (λ_=>aA trivial) λ_=>aA trivial) λ_=>aC (λ_=>aE (i _ _ _ b g) λ_ _=>aC (λ_=>aA trivial) λ_=>aA trivial) λ_=>aA trivial) λ_=>aA trivial) λ_ _=>aC (λ_=>aA<|by simp) λ_=>aA λh=>h
theorem aEF{α:Type}{l:List α}{j:Nat}{y x:α}(h:x∈l.take j++y::l.drop j): x∈l\/x=y:=by
 rcases ZD.1 h with h | h
 .exact .inl<|Z7 h
 rcases ZN.1 h with h | h
 .exact .inr h
 .exact .inl<|ZZ h
theorem O7{α:Type}{l:List α}{j:Int}{y:α}(a:0<=j)(h:j.toNat<=l.length)(b:l.length<=1000): aCW l j y=some (l.take j.toNat++y::l.drop j.toNat):=by
 unfold aCW;rw[Zu ⟨a,h,by omega⟩]
theorem aS9(s:aJ)(d:CU s)(b:List Int)(g:aN): aB (λn _=>tD n (s.Plan.Faces,b,s.Plan.Nodes,s.Plan.Arcs,s.Features,g))<|Su (λv=>v.1.length<=257)<|Su (λv=>(win v.2<|some v.1).length<=257) λv=>v.1.length<=257:=by
 have m:=d.v.leN;have ok:=d.ok;refine aU<|aE (EH s g.ID<|by omega) λl c=>aC (λi=>?_) λi=>?_
 .have a:=c.2.2 i;let⟨q,j⟩:∃q:Nat,l.1=(q:Int):=⟨l.1.toNat,by have:=c.1;omega⟩;rw[j] at a |-;have a:q<s.Plan.Nodes.length:=by simpa using a
  have e:=Zb a;refine aC (λ_=>aA<|show s.Plan.Nodes.length<=257 by omega) λ_=>aC (λ_=>aF (by rw[fS a];exact e)<|aF (by rw[bF];exact e)<|aA ?_) λ_=>?_
  .show (List.set _ _ _).length<=257;rw[Yr];omega
  .refine aE (f:=λn _=>Jr n (s.Plan.Faces,s.Plan.Nodes,s.Plan.Arcs,s.Features,g)) (Q:=λ_=>True) (aE (J5 _ ok.p g.ID) λ_ _=>aC (λ_=>aA trivial) λ_=>aE (RY s ok 1 g.ID) λ_ _=>aC (λ_=>aA trivial) λ_=>aA trivial) λ_ _=>aC (λ_=>aA<|show s.Plan.Nodes.length<=257 by omega) λ_=>?_;rw[cA<|by omega];refine aS (aLk s.Plan.Faces b s.Plan.Arcs s.Features s.Plan.Nodes (by omega) q a) (λ_ h=>h.elim) λv k=>aF rfl<|aA ?_;subst k;show (win _ _).length<=257;simp[win];omega
 .refine aC (λ_=>aU<|aF (O7 c.1 c.2.1<|by omega)<|aA ?_) λ_=>aA (show s.Plan.Nodes.length<=257 by omega);show (List.take _ _++_::_).length<=257;simp;omega
theorem CU.fe{s:aJ}(h:CU s): FeI s.Features s.Features.length 0:=⟨rfl,λj f a=>by have:=h.f f<|Zg a;omega,λj f _ a=>h.f f<|Zg a⟩
theorem CU.ar{s:aJ}(h:CU s): mL s.Plan.Arcs s.Plan.Arcs.length:=⟨rfl,h.ok.p.v⟩
def s7(l:List aI): Prop:=l.length<=1000/\∀f∈l,f.Parts.length<=1000
theorem CU.fs{s:aJ}(h:CU s): s7 s.Features:=⟨h.ok.n,h.ok.f⟩
theorem s7.set{l:List aI}(h:s7 l){i:Nat}{g:aI}(b:g.Parts.length<=1000): s7<|l.set i g:=⟨by rw[Yr];exact h.1,λf a=>by
 rcases YL a with a | rfl
 .exact h.2 f a
 .exact b⟩
theorem aQV(s:aJ)(p:CU s)(b:List Int)(g:aN)(d:aGC g): aB (λn _=>Fp n (s.Plan.Faces,b,s.Plan.Nodes,s.Plan.Arcs,s.Features,g))<|Su (λv=>s7 v.1)<|Su (λv=>s7<|win v.2<|some v.1) λv=>s7 v.1:=by
 have x:=p.n;have c:=p.fs;refine aU<|aE (aBy s g.ID<|by omega) λl i=>aC (λo=>?_) λo=>?_
 .have a:=i.2.2 o;let⟨q,w⟩:∃q:Nat,l.1=(q:Int):=⟨l.1.toNat,by have:=i.1;omega⟩;rw[w] at a |-;have a:q<s.Features.length:=by simpa using a
  have e:=Zb a;have m:gM s.Features s.Features.length (q:Int)=some s.Features[q]:=by rw[fS a];exact e
  have e2:idx s.Features (q:Int)=some s.Features[q]:=by rw[bF];exact e
  have r:=c.2 _<|ZP a;rw[cA<|by omega];refine aC (λ_=>aA<|by exact c) λ_=>aC (λ_=>aS (aIL s.Plan.Faces b s.Plan.Nodes s.Plan.Arcs s.Features (by omega) q a) (λ_ h=>h.elim) λv u=>aF rfl<|aA ?_) λ_=>aC (λ_=>aF m<|aF e2<|aA ?_) λ_=>aC (λ_=>aF m<|aF e2<|aA ?_) λ_=>aC (λ_=>aE (aKI g.Parts<|by have:=d.2;omega) λt j=>aF m<|aF e2<|aA ?_) λ_=>aA<|by exact c
  .subst u;refine⟨by simp[win];omega,λf k=>?_⟩;rcases aBC _ _ _ f (aDA k) with h | rfl
   .exact c.2 f h
   .simp
  .exact c.set r
  .exact c.set r
  .exact c.set<|by subst j;have:=d.2;show g.Parts.length<=1000;omega
 .refine aC (λ_=>aE (aKI g.Parts<|by have:=d.2;omega) λt j=>aU<|aF (O7 i.1 i.2.1<|by omega)<|aA ?_) λ_=>aA (by exact c);subst j;refine⟨by simp;omega,λf k=>?_⟩;rcases aEF k with h | rfl
  .exact c.2 f h
  .have:=d.2;show g.Parts.length<=1000;omega
theorem aD7.mem{l:List Int}{k:Nat}(h:aD7 l k){x:Int}(a:x∈l): 1<=x/\x.toNat<=k:=by
 rw[h] at a;obtain⟨j,b,rfl⟩:=Yh.1 a;have:=Ws.1 b;omega
theorem SzR.da{r:dR}(h:SzR r.Outer r.Inner r.Alone): aLH r:=⟨by have:=h.1;omega,h.2.1.1⟩
theorem aQK(g:aN)(x y:Int): aB (λn _=>Fj n (g,x,y)) λr=>r=x\/r=y:=aC (λ_=>aA<|.inl rfl) λ_=>aA<|.inr rfl
theorem aQJ(s:aJ)(a:Sv s)(f g:Int): Tt λn _=>Fg n (s.Plan.Faces,s.Plan.Nodes,s.Plan.Arcs,s.Features,f,g):=
 aC (λ_=>aE (RY s a 3 f) λi b=>aE (RY s a 3 g) λj _=>aE (aLF i j<|by omega) λ_ _=>aC (λ_=>aA trivial) λ_=>aA trivial) λ_=>aA trivial
theorem aL8{α:Type}{P:α->Prop}{g:Nat->Nat->Option α}(h:aB g P): aB (λn m=>Av.bnd (Av.prd n) λ_=>g n m) P:=by
 let⟨r,a,K,b⟩:=h;refine⟨r,a,K+1,λn m c d=>?_⟩;obtain⟨n,rfl⟩:∃k,n=k+1:=⟨n-1,by omega⟩;exact b (n+1) m (by omega)<|by omega
def L19(s:aJ)(v:List Int×List aI×List aR×List aR×aM): Prop:=v.1.length<=65/\(v.2.1.length<=1000/\∀f∈v.2.1,f.Parts.length<=65)/\mL v.2.2.1 (s.Plan.Arcs.length+1)
def Ft(l:List aI): Prop:=l.length<=1000/\∀f∈l,f.Parts.length<=65
def Ar(l:List aR): Prop:=l.length<=300/\∀a∈l,a.Via.length<=300
theorem mL.le{l:List aR}{k:Nat}(h:mL l k)(a:k<=300): Ar l:=⟨by rw[h.1];exact a,h.2⟩
theorem TW{n:List Aab}{a:List aR}{f:List Int}{l:List aI}(e:n.length<=300)(c:Ar a)(d:f.length<=300)(b:s7 l): Sv ⟨⟨n,a,f⟩,l⟩:=⟨⟨e,c.1,d,c.2⟩,b.1,b.2⟩
theorem Ft.ok{l:List aI}(h:Ft l): s7 l:=⟨h.1,λf a=>by have:=h.2 f a;omega⟩
theorem Ar.win{l:List aR}(h:Ar l)(w:Option<|Nat×Nat): Ar<|win l w:=⟨by
 cases w with
 | none=>exact h.1
 | some w=>simp only[Av.win];rw[ZH,ZV];have:=h.1;omega,λa b=>h.2 a<|aDA b⟩
end Go.Proofs.YtabioopnpgiijaaGreatDoor.Av
