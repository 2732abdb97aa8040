/- A part of the proof of a law. -/
import Derived.Test.YtmcgghedgfkjiaaGreatDoorP9
set_option maxRecDepth 100000
set_option maxHeartbeats 4000000
set_option linter.all false
namespace Go.Proofs.YtmcgghedgfkjiaaGreatDoor.Av
open Go
theorem Rt{α:Type}{l:List α}{x:α}(h:l.length<=900000): app l [x]=some (l++[x]):=Ko<|by simp;omega
theorem aGt{α:Type}{l:List α}{i:Nat}{x:α}{q:α->Bool}(a:l[i]?=some x)(h:q x=true): (l.drop i).find? q=some x:=by
 obtain⟨b,rfl⟩:=Zd.1 a;rw[YM b,List.find?_cons,h]
theorem aGu{α:Type}{l:List α}{i:Nat}{x:α}{q:α->Bool}(a:l[i]?=some x)(h:q x=false): (l.drop i).find? q=(l.drop<|i+1).find? q:=by
 obtain⟨b,rfl⟩:=Zd.1 a;rw[YM b,List.find?_cons,h]
theorem aGv{α:Type}{l:List α}{i:Nat}{q:α->Bool}(h:l.length<=i): (l.drop i).find? q=none:=by
 rw[Y8 h];rfl
def kK(p:aM)(id:Int): Aab×Bool:=match p.Nodes.find? λx=>x.ID==id with
 | some x=>(x,true)
 | none=>(⟨0,⟨0,0⟩⟩,false)
def SI(p:aM)(id:Int): aO×Bool:=match p.Arcs.find? λx=>x.ID==id with
 | some x=>(x,true)
 | none=>(⟨0,0,0,[],0,0⟩,false)
theorem aBh(l:List Aab)(d:l.length<=300)(id:Int)(i:Nat): aB (λn m=>pK yC n m (id,l,ln l) (i:Int))<|Su (λv=>∃x,(l.drop i).find? (λx=>x.ID==id)=some x/\v=(x,x)) λ_=>(l.drop i).find? (λx=>x.ID==id)=none:=
 bL<|bA (λx b c=>aC (λh=>aA ⟨x,aGt (q:=λx=>x.ID==id) b h,rfl⟩) λh=>by
  rw[bS<|by omega,aGu (q:=λx=>x.ID==id) b h];exact aBh l d id<|i+1)
  (λa=>aA<|aGv a)
termination_by l.length-i
theorem SR(p:aM)(c:Sm p)(id:Int): aB (λn _=>iY n p id) λr=>r=kK p id:=
 aU (λ_=>rfl)<|aP (aW<|aBh _ c.n id 0) (λv b=>aA<|by
  obtain⟨x,a,rfl⟩:=b;rw[YD] at a;unfold kK;rw[a]) λ_ h=>aA<|by
  rw[YD] at h;unfold kK;rw[h]
theorem aEV{α:Type}(l:List α)(h:l.length<=1000000): aB (λn _=>clF n l) λr=>r=l:=
 aU (g:=λ_=>app [] l) (λ_=>rfl) ⟨l,rfl,0,λ_ _ _ _=>by rw[Ko<|by simpa using h];rfl⟩
theorem aF2(l:List aO)(g:l.length<=300)(d:∀a∈l,a.Via.length<=300)(id:Int)(i:Nat): aB (λn m=>pK Eb n m (id,l,ln l) (i:Int))<|Su (λv=>∃x,(l.drop i).find? (λx=>x.ID==id)=some x/\v=(x.ID,x.From,x.To,x.Via,x.Left,x.Right,x.ID,x.From,x.To,x.Via,x.Left,x.Right)) λ_=>(l.drop i).find? (λx=>x.ID==id)=none:=
 bL<|bA (λx c e=>aC (λh=>aD (aEV x.Via<|by have:=d x<|Zg c;omega) λr f=>aA ⟨x,aGt (q:=λx=>x.ID==id) c h,by rw[f]⟩) λh=>by
  rw[bS<|by omega,aGu (q:=λx=>x.ID==id) c h];exact aF2 l g d id<|i+1)
  (λb=>aA<|aGv b)
termination_by l.length-i
theorem aNl(p:aM)(c:Sm p)(id:Int): aB (λn _=>Ou n p id) λr=>r=SI p id:=
 aU (λ_=>rfl)<|aP (aW<|aF2 _ c.a c.v id 0) (λv d=>aA<|by
  obtain⟨x,b,rfl⟩:=d;rw[YD] at b;unfold SI;rw[b]) λ_ h=>aA<|by
  rw[YD] at h;unfold SI;rw[h]
theorem wZ{α:Type}{a:List<|List α}{i:Nat}{x:List α}(b:a[i]?=some x): (a.drop i).flatten=x++(a.drop<|i+1).flatten:=by
 obtain⟨c,rfl⟩:=Zd.1 b;rw[YM c,Yt]
theorem aIR{α:Type}{a:List<|List α}{i:Nat}{x:List α}(b:a[i]?=some x): (a.take<|i+1).flatten=(a.take i).flatten++x:=by
 rw[YR,b];simp
theorem aIA(c:List<|List Aaa)(g:c.length<=1000)(i a:Nat)(f:a+(c.drop i).flatten.length<=100000): aB (λn m=>qF gJ n m (c,ln c) ((a:Int),(i:Int))) λr=>r=((a+(c.drop i).flatten.length:Nat):Int):=
 bZ<|bA (λx k o=>by
  have e:=wZ k;rw[e,Zj] at f;have l:wr ((a:Int)+ln x)=((a+x.length:Nat):Int):=by rw[wr,ln,i64_in _<|by omega];push_cast;rfl
  rw[l,bS<|by omega];refine aC (λh=>?_) λ_=>?_
  .have:=Zh h;omega
  .refine (aIA c g (i+1) (a+x.length)<|by omega).imp λr j=>?_;rw[j,e,Zj,Yu])
  (λd=>aA<|by rw[Y8 d];rfl)
termination_by c.length-i
theorem aI9(a:List<|List Aaa)(o:a.length<=1000)(N:Nat)(g:N<=100000)(i:Nat)(l:List Aaa)(k:Nat)(q:l.length=N)(d:l.take k=(a.take i).flatten)(j:k=(a.take i).flatten.length)(h:k+(a.drop i).flatten.length=N): aB (λn m=>qF gI n m (a,ln a) (l,(0,k),(i:Int))) λr=>win r.1 (some r.2)=a.flatten:=
 bZ<|bA (λx f p=>by
  have e:=wZ f;rw[e,Zj] at h;rw[bS<|by omega];have c:=aIR f;refine aE (x:=aR l k x) (by unfold g9;rw[Zu<|by simp only[Z0];omega,Z0])<|aI9 a o N g (i+1) _ (k+x.length) (by simp[aR];omega) ?_ (by rw[c,Zj,j]) (by omega);unfold aR;rw[c,<-d,<-Yf,Yi<|by simp;omega,ZS<|by simp;omega])
  (λb=>aA<|by
   show (l.drop 0).take k=a.flatten;rw[YD,d,ZS b])
termination_by a.length-i
theorem aNa(a:List<|List Aaa)(c:a.length<=1000)(g:0<a.flatten.length)(d:a.flatten.length<=100000): aB (λn _=>lI n a) λr=>r=a.flatten:=by
 refine aU (λ_=>rfl)<|aD (aW<|aIA a c 0 0<|by simpa using d) λv e=>?_;have f:v=((a.flatten.length:Nat):Int):=by rw[e];simp
 have e2:wr (v-0)=((a.flatten.length:Nat):Int):=by rw[f,wr,i64_in _<|by omega];omega
 refine aP (Q:=λ_=>False) (R:=λr=>r=(List.replicate a.flatten.length ⟨0,0⟩,(0,0))) (aV<|aC (λh=>by have:=Zh h;omega) λ_=>aC (λ_=>?_) λh=>by rw[e2] at h;have:=Zi h;omega) (λ_ h=>h.elim) λr b=>?_
 .refine aE (x:=List.replicate a.flatten.length ⟨0,0⟩) (by rw[e2];unfold rep;rw[Zu<|by omega];simp)<|aC (λh=>?_) λ_=>aE (x:=(0,0)) (by unfold sub;rw[Zu<|by simp];rfl)<|aA rfl;rw[Vd] at h;have:=congrArg List.length h;rw[Yo,Z2] at this;omega
 .subst b;exact aE rfl<|aD (aW<|aI9 a c a.flatten.length d 0 _ 0 (by simp) (by simp) (by simp)<|by simp) λr b=>aA b
def dQ(p:aM)(id:Int): List Aaa×Int:=match (SI p id).2&&(kK p (SI p id).1.From).2&&(kK p (SI p id).1.To).2 with
 | true=>([(kK p (SI p id).1.From).1.At]++(SI p id).1.Via++[(kK p (SI p id).1.To).1.At],0)
 | false=>([],7)
theorem aFa(p:aM)(a:Sm p)(id:Int): (SI p id).1.Via.length<=300:=by
 unfold SI;split
 .rename_i x h;exact a.v x<|Xi h
 .simp
theorem aCU(p:aM)(a:Sm p)(id:Int): aB (λn _=>wX n p id) λr=>r=dQ p id:=by
 have k:=aFa p a id;refine aU (λ_=>rfl)<|aD (aNl p a id) λl j=>?_;subst j;refine aC (λc=>aD (SR p a _) λg f=>?_) λc=>aD (SR p a _) λg f=>?_;all_goals subst f;all_goals refine aC (λb=>aD (SR p a _) λi e=>?_) λb=>aD (SR p a _) λi e=>?_;all_goals subst e;all_goals refine aC (λd=>aD (Q:=λ_=>True) (aA trivial) λ_ _=>?_) λd=>aD (Q:=λ_=>True) (aA trivial) λ_ _=>?_
 .refine aD (aNa _ (by simp) (by simp)<|by simp;omega) λr h=>aA ?_;unfold dQ;rw[c,b,d,h];simp
 all_goals (refine aA ?_;unfold dQ;rw[c,b,d];rfl)
theorem Jt(p:aM)(a:Sm p)(id:Int): (dQ p id).1.length<=302:=by
 have b:=aFa p a id;unfold dQ;split
 .simp;omega
 .simp
theorem yE{p:aM}{id:Int}(h:(dQ p id).2=0): 2<=(dQ p id).1.length:=by
 unfold dQ at h |-;split
 .simp
 .rename_i a;rw[a] at h;cases h
def aJU(l:List Aaa): Prop:=∀(j:Nat) (x y:Aaa),l[j]?=some x->l[j+1]?=some y->x≠y
structure wF(s:aY): Prop where
 h0:0<=s.at_
 h1:s.at_.toNat+1<s.line.path.length
 h2:s.line.path.length<=302
theorem aKF(x:aO)(l:List Aaa)(v:Int): aB (λn _=>Fa n (x,l,v)) λr=>r=false->v=0:=by
 refine aC (λ_=>aA<|by simp) λh=>aC (λ_=>aC (λ_=>aA<|by simp) λ_=>aA λ_=>?_) λ_=>aA λ_=>?_;all_goals simpa using h
theorem aD0(v:List Aaa)(g:aBk)(p:g.path=v)(C:2<=v.length)(t:v.length<=302)(i:Nat)(l:List aY)(B:Nat)(A:l.length<=B+i/\B<=100000)(F:i+1<=v.length)(u:∀s∈l,wF s)(q:∀(j:Nat) (x y:Aaa),j<i->v[j]?=some x->v[j+1]?=some y->x≠y):
 aB (λn m=>pK mZ n m (v,g,wr<|ln v-1) (l,(i:Int)))<|Su (λ_=>True) λr=>r.length<=B+302/\(∀s∈r,wF s)/\aJU v:=by
 have z:wr (ln v-1)=((v.length-1:Nat):Int):=by rw[wr,ln,i64_in _<|by omega];omega
 refine bL<|aC (λh=>?_) λh=>aA ⟨by omega,u,λj x y E w=>q j x y ?_ E w⟩
 .have D:i<v.length-1:=by rw[z] at h;have:=Zh h;omega
  rw[bS<|by omega];refine aE (x:=v[i]) (by rw[bN];exact Za<|by omega)<|aE (x:=v[i+1]) (by rw[bN];exact Za<|by omega)<|aC (λ_=>aA trivial) λf=>aE (Rt<|by omega) ?_;refine aD0 v g p C t (i+1) _ B ⟨by simp;omega,A.2⟩ (by omega) ?_ ?_
  .intro s o;rcases ZC.1 o with h | h
   .exact u s h
   .rw[ZN.1 h];exact⟨by show (0:Int)<=(i:Int);omega,by show (i:Int).toNat+1<g.path.length;rw[p];omega,by show g.path.length<=302;rw[p];exact t⟩
  .intro j a b G e d;by_cases k:j=i
   .subst k;rw[Za<|by omega] at e d;cases e;cases d;exact Zi f
   .exact q j a b (by omega) e d
 .rw[z] at h;have:=Zi h;have:=(Zd.1 w).1;omega
termination_by v.length-i
theorem aD1(p:aM)(d:Sm p)(i:Nat)(u:i<=p.Arcs.length)(l:List aY)(A:l.length<=302*i)(g:∀s∈l,wF s)(k:Am p.Arcs i λa=>(dQ p a.ID).2=0/\aJU (dQ p a.ID).1):
 aB (λn m=>lm3 nA n m (p,p.Arcs,ln p.Arcs) (l,(i:Int)))<|Su (λ_=>True) (Su (λ_=>True) λr=>r.length<=100000/\(∀s∈r,wF s)/\∀a∈p.Arcs,(dQ p a.ID).2=0/\aJU (dQ p a.ID).1):=by
 have z:=d.a;refine aMR<|bA (λx o q=>aD (aCU p d x.ID) λv c=>aD (aKF _ v.1 v.2) λr t=>aC (λ_=>aA trivial) λh=>?_) λf=>aA ⟨?_,g,k.fin f⟩
 .have b:=t h;rw[bS<|by omega];refine aP (aW<|aD0 v.1 ⟨x,v.1⟩ rfl (by rw[c] at b |-;exact yE b) (by rw[c];exact Jt p d x.ID) 0 l (302*i) ⟨by omega,by omega⟩ (by rw[c] at b |-;have:=yE b;omega) g λj x y h=>by omega) (λ_ _=>aA trivial) λw e=>?_;exact aD1 p d (i+1) (by omega) w (by have:=e.1;omega) e.2.1<|k.step o ⟨by rw[c] at b;exact b,by have:=e.2.2;rw[c] at this;exact this⟩
 .omega
termination_by p.Arcs.length-i
theorem aQR(p:aM)(c:Sm p): aB (λn _=>Dz n p) λr=>(r.2=true->r.1.length<=100000/\(∀s∈r.1,wF s)/\∀a∈p.Arcs,(dQ p a.ID).2=0/\aJU (dQ p a.ID).1):=
 aU (λ_=>rfl)<|aP (aW<|aD1 p c 0 (by omega) [] (by simp) (by simp) Am.nil) (λ_ _=>aE rfl<|aA<|by simp) λw b=>aP (aA b) (λ_ _=>aE rfl<|aA<|by simp) λv d=>aE rfl<|aA λ_=>d
theorem uL{α:Type}{l:List α}{i:Int}(a:0<=i)(h:i.toNat<l.length): idx l i=some l[i.toNat]:=by
 unfold idx;rw[Zu a];exact Za h
def J3(s:aY): Aaa×Aaa:=(s.line.path.getD s.at_.toNat ⟨0,0⟩,s.line.path.getD (s.at_.toNat+1) ⟨0,0⟩)
theorem J2(s:aY)(a:wF s): aB (λn _=>dF n s) λr=>r=J3 s:=by
 have e:=a.h0;have c:=a.h1;have g:=a.h2;have b:wr (s.at_+1)=s.at_+1:=i64_in _ (by omega);have e2:(s.at_+1).toNat=s.at_.toNat+1:=by omega
 have d:idx s.line.path s.at_=some (s.line.path.getD s.at_.toNat ⟨0,0⟩):=by rw[uL e<|by omega,YV,Za<|by omega];rfl
 have f:idx s.line.path (wr<|s.at_+1)=some (s.line.path.getD (s.at_.toNat+1) ⟨0,0⟩):=by
  rw[b];unfold idx;rw[Zu<|by omega,e2,YV,Za c];rfl
 exact aU (λ_=>rfl)<|aE d<|aE f<|aA rfl
theorem aF6(s:aY)(b:wF s): aB (λn _=>gB n s) λr=>r=QE (J3 s).1.X (J3 s).2.X:=
 aU (λ_=>rfl)<|aD (J2 s b) λr a=>aA<|by rw[a]
theorem aSa(s:aY)(a:wF s): Tt λn _=>pB n s:=
 aU (λ_=>rfl)<|aD (J2 s a) λr b=>aA trivial
theorem aUb(s t:aY)(f:wF s)(c:wF t): aB (λn _=>pC n s t) λr=>r=AU (QE (J3 s).1.X (J3 s).2.X) (QE (J3 t).1.X (J3 t).2.X):=
 aU (λ_=>rfl)<|aD (aF6 s f) λa e=>aD (aF6 t c) λb d=>aD (fL a b) λr g=>aA<|by rw[g,e,d]
theorem Ec{b:Bool}(h:b=true): Na b=some ():=by subst h;rfl
theorem TD(l:List Aab)(b:l.length<=300)(i:Nat)(m:List<|Int×Aaa): Tt λn k=>qF qV n k (l,ln l) (m,(i:Int)):=
 bZ<|bA (λx d a=>by
  rw[bS<|by omega];exact TD l b (i+1) _)
  (λc=>aA trivial)
termination_by l.length-i
theorem aNW(m:List<|Int×Aaa)(x y:aY)(b:wF x)(a:wF y): aB (λn _=>Oj n (m,x,y))<|Su (λ_=>True) λ_=>True:=by
 refine aV<|aD (J2 x b) λ_ _=>aD (J2 y a) λ_ _=>?_;repeat' first
  | exact aA trivial
  | refine aC (λ_=>?_) (λ_=>?_)
  | refine O0 ?_
  | refine bH λ_=>?_
theorem aBL(m:List<|Int×Aaa)(x:aY)(l:List aY)(b:wF x)(c:∀s∈l,wF s)(d:l.length<=100000)(i:Nat): aB (λn k=>pK qT n k (m,x,l,ln l) (i:Int))<|Su (λ_=>True) λ_=>True:=
 bL<|bA (λy f e=>by
  have a:=c y<|Zg f;rw[bS<|by omega];refine aD (aF6 y a) λ_ _=>aD (aSa x b) λ_ _=>aC (λ_=>aA trivial) λ_=>aP (aNW m x y b a) (λ_ _=>aC (λ_=>aBL m x l b c d<|i+1) λ_=>aA trivial) λ_ _=>aBL m x l b c d<|i+1)
  (λg=>aA trivial)
termination_by l.length-i
instance aYB{s:aY}{x:Aab}{a b:Aaa}: TC (λn=>Oh n (s,x,a,b)):=⟨by repeat' first | exact aA trivial | refine aC (λ_=>?_) (λ_=>?_) | refine bH λ_=>?_⟩
theorem aH5(x:aY)(a:wF x)(l:List Aab)(c:l.length<=300)(i:Nat): aB (λn m=>pK qS n m (x,l,ln l) (i:Int))<|Su (λ_=>True) λ_=>True:=
 bL<|bA (λy e b=>by
  rw[bS<|by omega];exact aD (J2 x a) λ_ _=>bH λ_=>aC (λ_=>aA trivial) λ_=>aH5 x a l c<|i+1)
  (λd=>aA trivial)
termination_by l.length-i
theorem aH6(p:aM)(e:Sm p)(m:List<|Int×Aaa)(l:List aY)(d:∀s∈l,wF s)(j:l.length<=100000)(i:Nat): aB (λn k=>lm3 qU n k (p,m,l,l,ln l) (i:Int))<|Su (λ_=>True)<|Su (λ_=>True) λ_=>True:=
 aMR<|bA (λy g f=>by
  have c:=d y<|Zg g;rw[bS<|by omega];refine aE (aM7 (a:=i+1) (b:=l.length) (by omega)<|Zf _)<|aP (aW<|aBL m y _ c (λs h=>d s<|Z1<|ZX h) (by simp;omega) 0) (λ_ _=>aP (aW<|aH5 y c _ e.n 0) (λ_ _=>aA trivial) λ_ _=>aH6 p e m l d j<|i+1) λ_ _=>aA trivial)
  (λo=>aA trivial)
termination_by l.length-i
theorem aLa(p:aM)(c:Sm p): aB (λn _=>Ok n p) λr=>r=true->∀a∈p.Arcs,(dQ p a.ID).2=0/\aJU (dQ p a.ID).1:=by
 refine aU (λ_=>rfl)<|aD (aQR p c) λv b=>aC (λh=>aD (aW<|TD _ c.n 0 []) λw _=>aV ?_) λ_=>aA (by simp);have b:=b h;refine aE (Ec<|Yk<|by have:=b.1;omega)<|aD (j6 (F:=λn x y=>bnd (pC n x y) λh=>some h) (λx i y g=>aD (aUb x y (b.2.1 x i)<|b.2.1 y g) λ_ h=>aA h)<|aKv _ _) λl d=>?_;refine aP (GV (f:=λn=>Oi n (p,w,l,l,ln l) 0)<|aW<|aH6 p c w l (λs j=>b.2.1 s<|d.2 s j) (by rw[d.1];exact b.1) 0) (λ_ _=>aA<|by simp) λw e=>aP (aA e) (λ_ _=>aA<|by simp) λ_ _=>aA λ_=>b.2.2
theorem aI5(l:List aO)(e:l.length<=300)(i:Nat)(c:Am l i λa=>a.Via.length<=64): aB (λn m=>pK uH n m (l,ln l) (i:Int)) (Su (λ_=>True) λ_=>∀a∈l,a.Via.length<=64):=
 bL<|bA (λy f d=>by
  rw[bS<|by omega];exact aC (λ_=>aA trivial) λh=>aI5 l e (i+1)<|c.step f<|by have:¬ln y.Via > 64:=Zi h;unfold ln at this;omega)
  (λb=>aA<|c.fin b)
termination_by l.length-i
structure tV(p:aM): Prop where
 leN:p.Nodes.length<=256
 leA:p.Arcs.length<=256
 leF:p.Faces.length<=64
 leV:∀a∈p.Arcs,a.Via.length<=64
 asN:Asc (p.Nodes.map Aab.ID)
 asA:Asc (p.Arcs.map aO.ID)
 asF:Asc p.Faces
 nuA:∀a∈p.Arcs,1<=a.ID/\a.ID<=1073741824
 nuN:∀x∈p.Nodes,1<=x.ID/\x.ID<=1073741824
 nuF:∀x∈p.Faces,1<=x/\x<=1073741824
 ptN:∀x∈p.Nodes,Ku x.At
 ptA:∀a∈p.Arcs,∀y∈a.Via,Ku y
 con:∀a∈p.Arcs,a.From∈p.Nodes.map Aab.ID/\a.To∈p.Nodes.map Aab.ID
 sid:∀a∈p.Arcs,(a.Left=0\/a.Left∈p.Faces)/\(a.Right=0\/a.Right∈p.Faces)
 pth:∀a∈p.Arcs,(dQ p a.ID).2=0/\aJU (dQ p a.ID).1
theorem aIL(p:aM)(c:Sm p): aB (λn _=>Jq n p) λr=>r=0->tV p:=by
 have T:=c.n;have m:=c.a;have S:=c.f;refine aU (λ_=>rfl)<|aD (Q:=λr=>r=false->p.Nodes.length<=256/\p.Arcs.length<=256/\p.Faces.length<=64) ?_ λU H=>aC (λ_=>aA<|by simp) λI=>aP (aW<|aI5 _ c.a 0 .nil) (λ_ _=>aA<|by simp) λ_ e=>aE rfl<|aD (aUx p c) λv M=>?_
 .refine aC (λ_=>aA<|by simp) λq=>aC (λ_=>aA<|by simp) λt=>aC (λ_=>aA<|by simp) λs=>aA λ_=>?_;have q:¬ln p.Nodes > 256:=Zi q;have t:¬ln p.Arcs > 256:=Zi t;have s:¬ln p.Faces > 64:=Zi s;unfold ln at q t s;omega
 subst M;refine aD (Q:=λr=>r=false->Asc (p.Nodes.map Aab.ID)/\Asc (p.Arcs.map aO.ID)/\Asc p.Faces) ?_ λw j=>aC (λ_=>aA<|by simp) λk=>aD (Q:=λr=>r=false->(∀x∈p.Nodes.map Aab.ID,1<=x/\x<=1073741824)/\(∀x∈p.Arcs.map aO.ID,1<=x/\x<=1073741824)/\(∀x∈p.Faces,1<=x/\x<=1073741824)/\(∀x∈p.Nodes,Ku x.At)/\∀a∈p.Arcs,∀y∈a.Via,Ku y) ?_ λz g=>aC (λ_=>aA<|by simp) λi=>aD (aSo p c (p.Nodes.map Aab.ID)<|by simp;omega) λu d=>aC (λb=>aA λh=>?_) λb=>aD (aLa p c) λL l=>aC (λo=>aA λ_=>?_) λ_=>aA<|by simp
 .exact aD (aMK _<|by simp;omega) λw j=>aC (λk=>aD (aMK _<|by simp;omega) λz g=>aC (λi=>aD (aMK _<|by omega) λu d=>aC (λb=>aA λ_=>⟨j k,g i,d b⟩) λ_=>aA<|by simp) λ_=>aA<|by simp) λ_=>aA<|by simp
 .exact aD (aLz _<|by simp;omega) λw j=>aC (λk=>aD (aLz _<|by simp;omega) λz g=>aC (λi=>aD (aLz _<|by omega) λu d=>aC (λb=>aD (aLb p c) λL l=>aC (λo=>aA λ_=>⟨j k,g i,d b,(l o).1,(l o).2⟩) λ_=>aA<|by simp) λ_=>aA<|by simp) λ_=>aA<|by simp) λ_=>aA<|by simp
 .rw[h] at b;simp at b
 .have A:u=0:=by simpa using b
  let⟨C,F,E,B,O⟩:=g i;let⟨N,D,J⟩:=j k;let⟨G,R,K⟩:=H I;exact⟨G,R,K,e,N,D,J,λa m=>F _<|WV m,λa m=>C _<|WV m,E,B,O,(d A).1,(d A).2,l o⟩
def cr(ux uy vx vy:Int): Int:=ux*vy-uy*vx
theorem aQw(f c d b e a:Int): b*cr f c e a=a*cr f c d b+c*cr d b e a:=by
 unfold cr;simp only[Int.mul_sub];have g:a*(f*b)=b*(f*a):=by rw[XK,WF a b,XK]
 have e2:a*(c*d)=c*(d*a):=by rw[XK,WF a d]
 have h:b*(c*e)=c*(b*e):=XK _ _ _;omega
def Up(x y:Int): Prop:=0<y\/(y=0/\0<x)
theorem aGA{e b d a:Int}(f:Up e b)(g:Up d a)(h:cr e b d a > 0): 0<a:=by
 rcases g with c | ⟨c,i⟩
 .exact c
 .unfold cr at h;rw[c,Int.mul_zero] at h;have:0<=b*d:=by
   refine Int.mul_nonneg ?_ (by omega);rcases f with h | ⟨h,_⟩<;>omega
  omega
theorem aEO{i c j f g d:Int}(k:Up i c)(m:Up j f)(o:Up g d)(l:cr i c j f > 0)(n:cr j f g d > 0): cr i c g d > 0:=by
 have q:=aGA k m l;have p:=aGA m o n;have e:=aQw i c j f g d;have r:0<d*cr i c j f:=WT p l;have s:0<=c*cr j f g d:=Int.mul_nonneg (by rcases k with h | ⟨h,_⟩<;>omega) (by omega);have t:0<f*cr i c g d:=by omega
 rcases Int.lt_or_le 0 (cr i c g d) with h | h
 .exact h
 .have:=Xl (a:=f) (b:=cr i c g d) (by omega) h;omega
theorem aM9{i a g d f b:Int}(n:Up i a)(p:Up g d)(q:Up f b)(s:¬cr i a g d > 0)(m:¬cr g d f b > 0): ¬cr i a f b > 0:=by
 intro o;have k:0<b:=aGA n q o;have l:0<=a:=by rcases n with h | ⟨h,_⟩<;>omega
 rcases p with c | ⟨c,j⟩
 .have e:=aQw i a g d f b;have r:0<d*cr i a f b:=WT c o;have t:b*cr i a g d<=0:=Xl (by omega) (by omega);have u:a*cr g d f b<=0:=Xl l (by omega);omega
 .unfold cr at m;rw[c,Int.zero_mul] at m;have:=WT j k;omega
theorem aM8(c d a b:Int): cr (-c) (-d) (-a) (-b)=cr c d a b:=by
 unfold cr;rw[Int.neg_mul_neg,Int.neg_mul_neg]
def Fu(o p:Aaa): Bool:=decide (p.Y<o.Y)||(p.Y==o.Y&&decide (p.X<o.X))
def twE(o a b:Aaa): Int:=cr (a.X-o.X) (a.Y-o.Y) (b.X-o.X)<|b.Y-o.Y
def qK(o a b:Aaa): Bool:=if Fu o a != Fu o b then Fu o b else decide (twE o a b > 0)
theorem PY{o p:Aaa}(h:Fu o p=false)(b:p≠o): Up (p.X-o.X)<|p.Y-o.Y:=by
 simp only[Fu,WU,Wy,Bool.and_eq_false_iff,X7] at h;by_cases c:p.Y=o.Y
 .refine .inr ⟨by omega,?_⟩;have:p.X≠o.X:=by
   intro d;apply b;cases p;cases o;simp_all
  rcases h.2 with h | h
  .exact absurd c h
  .omega
 .exact .inl<|by omega
theorem QA{o p:Aaa}(h:Fu o p=true): Up (-(p.X-o.X)) (-(p.Y-o.Y)):=by
 simp only[Fu,YW,Z6,Ze,ZD] at h;rcases h with h | ⟨b,a⟩
 .exact .inl<|by omega
 .exact .inr ⟨by omega,by omega⟩
theorem aOy{o a b c:Aaa}(j:a≠o)(i:b≠o)(k:c≠o)(d:qK o a b=true)(e:qK o b c=true): qK o a c=true:=by
 unfold qK at d e |-;cases g:Fu o a<;>cases f:Fu o b<;>cases h:Fu o c<;>rw[g,f] at d<;>rw[f,h] at e<;>simp only[Wh,Zo,Ya,Bool.true_bne,Bool.false_bne,X5,Zz,Xj,Z6] at d e |-
 .exact aEO (PY g j) (PY f i) (PY h k) d e
 .unfold twE at d e |-;rw[<-aM8] at d e |-;exact aEO (QA g) (QA f) (QA h) d e
theorem aOz{o a b c:Aaa}(j:a≠o)(i:b≠o)(k:c≠o)(d:qK o a b=false)(e:qK o b c=false): qK o a c=false:=by
 unfold qK at d e |-;cases g:Fu o a<;>cases f:Fu o b<;>cases h:Fu o c<;>rw[g,f] at d<;>rw[f,h] at e<;>simp only[Wh,Zo,Ya,Bool.true_bne,Bool.false_bne,X5,Zz,Xj,Wy,Bool.true_eq_false] at d e |-
 .exact aM9 (PY g j) (PY f i) (PY h k) d e
 .unfold twE at d e |-;rw[<-aM8] at d e |-;exact aM9 (QA g) (QA f) (QA h) d e
theorem aO0(o a:Aaa): qK o a a=false:=by
 unfold qK twE cr;rw[Wh,ZF<|by simp,WF];simp
theorem aUm{x y:Int}{B:Nat}(a:-(B:Int)<=x/\x<=B)(b:-(B:Int)<=y/\y<=B): -((B*B:Nat):Int)<=x*y/\x*y<=((B*B:Nat):Int):=by
 have h:(x*y).natAbs<=B*B:=by rw[Int.natAbs_mul];exact Xb (by omega)<|by omega
 omega
theorem aQL{o a b:Aaa}(e:Ku o)(c:Ku a)(d:Ku b): twV o a b=twE o a b:=by
 let⟨o1,m,n,l⟩:=e;let⟨g,j,p,h⟩:=c;let⟨r,f,k,s⟩:=d;have i:=aUm (B:=2097152) (x:=a.X-o.X) (y:=b.Y-o.Y) ⟨by omega,by omega⟩ ⟨by omega,by omega⟩;have q:=aUm (B:=2097152) (x:=a.Y-o.Y) (y:=b.X-o.X) ⟨by omega,by omega⟩ ⟨by omega,by omega⟩;unfold twV twE cr;simp only[wr];rw[i64_in (a.X-o.X)<|by omega,i64_in (b.Y-o.Y)<|by omega,i64_in (a.Y-o.Y)<|by omega,i64_in (b.X-o.X)<|by omega,i64_in ((a.X-o.X)*(b.Y-o.Y))<|by omega,i64_in ((a.Y-o.Y)*(b.X-o.X))<|by omega,i64_in _<|by omega]
theorem aCe(o p:Aaa): aB (λn _=>gN n o p) λr=>r=Fu o p:=by
 refine aU (λ_=>rfl)<|aD (Q:=λr=>r=Fu o p) ?_ λr c=>aC (λh=>aA<|by rw[<-c,h]) λh=>aA (by rw[<-c,h]);unfold Fu;refine aC (λh=>aA<|by rw[h];rfl) λh=>aC (λa=>aC (λb=>aA<|by rw[h,a,b];rfl) λb=>aA<|by rw[h,a,b];rfl) λa=>aA<|by rw[h,a];rfl
theorem Ku.near{x:Aaa}(h:Ku x): aDV x:=by let⟨b,c,a,d⟩:=h;exact⟨by omega,by omega,by omega,by omega⟩
theorem aJV(o a b:Aaa)(j:Ku o)(f:Ku a)(g:Ku b)(e:a≠o)(d:b≠o): aB (λn _=>KN n (o,a,b)) λr=>r=false:=by
 refine aD (aGl [o,a,b]<|by simp) λr i=>aC (λ_=>aC (λh=>absurd (Zh h) e) λ_=>aC (λh=>absurd (Zh h) d) λ_=>aA rfl) λh=>?_;rw[i (by
  intro x c;rcases ZJ.1 c with rfl | c
  .exact j.near
  rcases ZJ.1 c with rfl | c
  .exact f.near
  .rw[ZN.1 c];exact g.near)] at h
 cases h
theorem aMX(o a b:Aaa)(q:Ku o)(p:Ku a)(s:Ku b)(m:a≠o)(f:b≠o): aB (λn _=>Sw n o a b) λr=>r=qK o a b:=by
 refine aU (λ_=>rfl)<|aD (aJV o a b q p s m f) λr v=>aC (λh=>by rw[v] at h;cases h) λ_=>aD (aCe o a) λw c=>?_;have tw:Fu o a=Fu o b->aB (λn _=>bnd (gM n o a b) λh=>cd (h > 0) (some true)<|some false) λr=>r=qK o a b:=by
  intro e;refine aD (aHg o a b) λt k=>?_;rw[aQL q p s] at k;subst k;refine aC (λh=>aA ?_) λh=>aA ?_<;>(unfold qK;rw[e];simp_all)
 have u:Fu o a≠Fu o b->aB (λn _=>bnd (gN n o b) λi=>cnd i (some true)<|some false) λr=>r=qK o a b:=by
  intro e;refine aD (aCe o b) λt k=>?_;refine aC (λh=>aA ?_) λh=>aA ?_<;>(unfold qK;rw[Zu<|by simpa using e];simp_all)
 refine aC (λl=>?_) λl=>?_;all_goals
  refine aD (aCe o b) λx d=>aC (λj=>?_) λj=>?_;all_goals
   refine aC (λg=>?_) λg=>?_;all_goals
    first
    | exact absurd (Zh g) (by decide)
    | exact absurd rfl (Zi g)
    | exact tw (by rw[<-c,<-d,l,j])
    | exact u (by rw[<-c,<-d,l,j];decide)
theorem Asc.lt{l:List Int}(h:Asc l): ∀(d i:Nat) (x y:Int),l[i]?=some x->l[i+d+1]?=some y->x<y
 | 0,i,x,y,b,a=>h i x y b a
 | d+1,i,x,y,b,a=>by
  have c:i+d+1<l.length:=by have:=(Zd.1 a).1;omega
  have f:=Asc.lt h d i x _ b<|Za c;have e:=h (i+d+1) _ y (Za c) (by rw[show i+d+1+1=i+(d+1)+1 by omega];exact a);omega
theorem Asc.inj{α:Type}{f:α->Int}{l:List α}(h:Asc<|l.map f){a b:α}(p:a∈l)(o:b∈l)(e:f a=f b): a=b:=by
 let⟨i,n⟩:=Yd.1 p;let⟨j,c⟩:=Yd.1 o;have m:(l.map f)[i]?=some (f a):=by rw[Zm,n];rfl
 have k:(l.map f)[j]?=some (f b):=by rw[Zm,c];rfl
 rcases Nat.lt_trichotomy i j with g | d | g
 .have:=h.lt (j-i-1) i _ _ m (by rw[show i+(j-i-1)+1=j by omega];exact k);omega
 .subst d;rw[n] at c;cases c;rfl
 .have:=h.lt (i-j-1) j _ _ k (by rw[show j+(i-j-1)+1=i by omega];exact m);omega
theorem aPv{p:aM}(c:tV p){a:aO}(b:a∈p.Arcs): SI p a.ID=(a,true):=by
 unfold SI;cases h:p.Arcs.find? λx=>x.ID==a.ID with
 | none=>
  have:=W4.1 h a b;simp at this
 | some x=>
  have e:=Xi h;have d:x.ID=a.ID:=by have:=List.find?_some h;simpa using this
  rw[c.asA.inj e b d]
theorem Sr{p:aM}{id:Int}(h:id∈p.Nodes.map Aab.ID): (kK p id).2=true/\(kK p id).1∈p.Nodes:=by
 unfold kK;cases a:p.Nodes.find? λx=>x.ID==id with
 | none=>
  obtain⟨x,b,rfl⟩:=Yj.1 h;have:=W4.1 a x b;simp at this
 | some x=>exact⟨rfl,Xi a⟩
theorem aHB{p:aM}(b:tV p){a:aO}(c:a∈p.Arcs): (dQ p a.ID).1=[(kK p a.From).1.At]++a.Via++[(kK p a.To).1.At]:=by
 let⟨g,d⟩:=b.con a c;have f:=(Sr g).1;have e:=(Sr d).1;unfold dQ;rw[aPv b c];simp only[f,e,Xt]
theorem aOc{p:aM}(c:tV p){a:aO}(d:a∈p.Arcs): ∀x∈(dQ p a.ID).1,Ku x:=by
 let⟨f,e⟩:=c.con a d;rw[aHB c d];intro x b;rcases ZC.1 b with b | b
 .rcases ZC.1 b with b | b
  .rw[ZN.1 b];exact c.ptN _ (Sr f).2
  .exact c.ptA a d x b
 .rw[ZN.1 b];exact c.ptN _ (Sr e).2
def fR(p:aM)(d:Int): Prop:=∃a∈p.Arcs,d=a.ID\/d=-a.ID
structure aGX(p:aM)(o:Aaa)(i:Nat)(l:List Int)(tw:List (Int×Aaa)): Prop where
 len:l.length<=2*i
 dart:∀d∈l,fR p d
 tow:∀d∈l,∃q,cE tw d=some q/\Ku q/\q≠o
theorem aGX.add{p:aM}{o:Aaa}{i:Nat}{l:List Int}{tw:List<|Int×Aaa}{d:Int}{q:Aaa}(g:fR p d)(f:Ku q)(c:q≠o)(k:l.length<=2*i+1)(j:∀d∈l,fR p d)(h:∀d∈l,∃q,cE tw d=some q/\Ku q/\q≠o):
 (l++[d]).length<=2*i+2/\(∀e∈l++[d],fR p e)/\∀e∈l++[d],∃q',cE (kL tw d q) e=some q'/\Ku q'/\q'≠o:=by
 refine⟨by simp;omega,?_,?_⟩
 .intro e he;rcases ZC.1 he with he | he
  .exact j e he
  .rw[ZN.1 he];exact g
 .intro e he;rw[tL];by_cases a:d=e
  .rw[Zu a];exact⟨q,rfl,f,c⟩
  .rw[ZF a];rcases ZC.1 he with he | he
   .exact h e he
   .exact absurd (ZN.1 he).symm a
theorem Q0(l:List Int)(tw:List<|Int×Aaa)(d:Int)(q:Aaa)(h:l.length<=100000): aB (λn _=>oK n (l,tw,d,q)) λr=>r=(l++[d],kL tw d q):=
 aV<|aE (BU h)<|aA rfl
theorem aF1(p:aM)(H:Sm p)(t:tV p)(id:Int)(v:Aab×Bool)(o:v=kK p id)(i:Nat)(l:List Int)(tw:List<|Int×Aaa)(g:aGX p v.1.At i l tw)(hi:i<=p.Arcs.length): aB (λn m=>qF kS n m (p,id,p.Arcs,ln p.Arcs) (l,tw,(i:Int))) λr=>r.1.length<=600/\(∀d∈r.1,fR p d)/\∀d∈r.1,∃q,cE r.2 d=some q/\Ku q/\q≠v.1.At:=by
 have ha:=H.a;refine bZ<|bA (λx Z a2=>?_) λa1=>aA ⟨by have:=g.len;show l.length<=600;omega,g.dart,g.tow⟩;have c:=Zg Z;have W:=t.nuA x c;have e0:wr (0-x.ID)=-x.ID:=by rw[wr,i64_in _<|by omega];omega
 rw[bS<|by omega,e0];have e:∀I j,aGX p v.1.At (i+1) I j->aB (λn m=>qF kS n m (p,id,p.Arcs,ln p.Arcs) (I,j,((i+1:Nat):Int))) λr=>r.1.length<=600/\(∀d∈r.1,fR p d)/\∀d∈r.1,∃q,cE r.2 d=some q/\Ku q/\q≠v.1.At:=λI j T=>aF1 p H t id v o (i+1) I j T (by omega);have f:aGX p v.1.At (i+1) l tw:=⟨by have:=g.len;omega,g.dart,g.tow⟩;refine aD (Q:=λ_=>True) ?_ λr _=>aC (λ_=>e _ _ f) λ_=>aD (aCU p H x.ID) λw R=>aC (λ_=>e _ _ f) λ_=>?_
 .repeat' first
   | exact aA trivial
   | refine aC (λ_=>?_) (λ_=>?_)
 subst R;have u:=aOc t c;have z:=(t.pth x c).2;have h2:=yE (t.pth x c).1;have K:=Jt p H x.ID;have k:=aHB t c;have C:∃q,(dQ p x.ID).1[1]?=some q:=⟨_,Za<|by omega⟩;have E:∃q,(dQ p x.ID).1[(dQ p x.ID).1.length-2]?=some q:=⟨_,Za<|by omega⟩;let⟨G,C⟩:=C;let⟨D,E⟩:=E;have i1:idx (dQ p x.ID).1 1=some G:=C;have U:wr (ln (dQ p x.ID).1-2)=(((dQ p x.ID).1.length-2:Nat):Int):=by rw[wr,i64_in _<|by unfold ln;omega];unfold ln;omega
 have M:idx (dQ p x.ID).1 (wr<|ln (dQ p x.ID).1-2)=some D:=by rw[U,bN];exact E
 have X:Ku G:=u _<|Zg C;have O:Ku D:=u _<|Zg E;have z0:(dQ p x.ID).1[0]?=some (kK p x.From).1.At:=by rw[k];rfl
 have S:(dQ p x.ID).1[(dQ p x.ID).1.length-2+1]?=some (kK p x.To).1.At:=by
  have:(dQ p x.ID).1.length-2+1=([(kK p x.From).1.At]++x.Via).length:=by rw[k];simp
  rw[this,k,ZY<|Zf _,XT];rfl
 have V:x.From=id->G≠v.1.At:=by
  intro h;rw[o,<-h];exact (z 0 _ _ z0 C).symm
 have J:x.To=id->D≠v.1.At:=by
  intro h;rw[o,<-h];exact z _ _ _ E S
 have d1:fR p x.ID:=⟨x,c,.inl rfl⟩;have L:fR p (-x.ID):=⟨x,c,.inr rfl⟩;have Y:=g.len;refine aC (λN=>?_) λN=>aC (λy=>?_) λy=>e _ _ f
 .have A:=aGX.add (i:=i) d1 X (V<|Wk N) (by omega) g.dart g.tow;refine aE i1<|aD (Q0 l tw _ G<|by omega) λs F=>?_;subst F;refine aC (λy=>?_) λy=>e _ _ ⟨by have:=A.1;omega,A.2.1,A.2.2⟩;have B:=aGX.add (l:=l++[x.ID]) (tw:=kL tw x.ID G) (i:=i) L O (J<|Wk y) (by simp;omega) A.2.1 A.2.2;refine aE M<|aD (Q0 _ _ _ D<|by simp;omega) λs F=>?_;subst F;exact e _ _ ⟨by have:=B.1;omega,B.2.1,B.2.2⟩
 .have A:=aGX.add (i:=i) L O (J<|Wk y) (by omega) g.dart g.tow;refine aE M<|aD (Q0 l tw _ D<|by omega) λs F=>?_;subst F;exact e _ _ ⟨by have:=A.1;omega,A.2.1,A.2.2⟩
termination_by p.Arcs.length-i
def aET(o a b:Aaa): Int:=if qK o a b=true then -1 else if qK o b a=true then 1 else 0
theorem L5{o a b:Aaa}: aET o a b<0↔qK o a b=true:=by
 unfold aET;split<;>(try split)<;>simp_all
theorem aNk(p:aM)(u:Sm p)(A:tV p)(id:Int): aB (λn _=>Nc n p id) λr=>r.length<=600/\∀d∈r,fR p d:=by
 refine aU (λ_=>rfl)<|aD (SR p u id) λv j=>aC (λb=>aD (aW<|aF1 p u A id v j 0 [] [] ⟨by simp,by simp,by simp⟩<|by omega) λw m=>aV<|aE (Ec<|Yk<|by have:=m.1;omega) ?_) λ_=>aA (by simp);have k:Ku v.1.At:=by
  rw[j] at b |-;unfold kK at b |-;cases h:p.Nodes.find? λx=>x.ID==id with
  | none=>rw[h] at b;cases b
  | some x=>exact A.ptN x<|Xi h
 have E:∀x∈w.1,∀y∈w.1,aB (λn _=>bnd (xD n (v.1,w.2,x,y)) λi=>some i) λr=>r=aET v.1.At ((cE w.2 x).getD ⟨0,0⟩) ((cE w.2 y).getD ⟨0,0⟩):=by
  have a:∀x∈w.1,Ku ((cE w.2 x).getD ⟨0,0⟩)/\(cE w.2 x).getD ⟨0,0⟩≠v.1.At:=by
   intro x c;let⟨D,q,e2,t⟩:=m.2.2 x c;rw[q];exact⟨e2,t⟩
  intro x c y f;refine aD (Q:=λr=>r=aET v.1.At ((cE w.2 x).getD ⟨0,0⟩) ((cE w.2 y).getD ⟨0,0⟩)) (aV ?_) λr e=>aA e;refine aD (aMX v.1.At ((cE w.2 x).getD ⟨0,0⟩) ((cE w.2 y).getD ⟨0,0⟩) k (a x c).1 (a y f).1 (a x c).2 (a y f).2) λr e=>aC (λh=>aA ?_) λh=>aD (aMX v.1.At ((cE w.2 y).getD ⟨0,0⟩) ((cE w.2 x).getD ⟨0,0⟩) k (a y f).1 (a x c).1 (a y f).2 (a x c).2) λG l=>aC (λg=>aA ?_) λg=>aA ?_
  .unfold aET;rw[Zu<|by rw[<-e,h]]
  .unfold aET;rw[ZF<|by rw[<-e,h];simp,Zu<|by rw[<-l,g]]
  .unfold aET;rw[ZF<|by rw[<-e,h];simp,ZF<|by rw[<-l,g];simp]
 have B:Swo (λx y=>aET v.1.At ((cE w.2 x).getD ⟨0,0⟩)<|(cE w.2 y).getD ⟨0,0⟩) w.1:=by
  have a:∀x∈w.1,(cE w.2 x).getD ⟨0,0⟩≠v.1.At:=by
   intro x c;let⟨D,q,e2,t⟩:=m.2.2 x c;rw[q];exact t
  refine⟨λx c=>?_,λx c y f z s o g=>?_,λx c y f z s o g=>?_⟩
  .rw[L5,aO0];simp
  .rw[L5] at *;exact aOy (a x c) (a y f) (a z s) o g
  .rw[L5,Bool.not_eq_true] at *;exact aOz (a x c) (a y f) (a z s) o g
 exact aD (j6 (F:=λn x y=>bnd (xD n (v.1,w.2,x,y)) λi=>some i) E B) λr e=>aA ⟨by rw[e.1];exact m.1,λd C=>m.2.1 d<|e.2 d C⟩
theorem aDH(l:List Int)(d:Int)(f:l.length<=1000): Tt λn _=>xC n l d:=by
 refine aU (λ_=>rfl)<|aD (aIH l d<|by omega) λr a=>aC (λ_=>aA trivial) λh=>?_;have i:0<=r:=by have:=Zi h;omega
 have g:r.toNat<l.length:=by rcases a with a | a<;>omega
 have c:wr (wr (r+ln l)-1)=r+(l.length:Int)-1:=by unfold wr ln;rw[i64_in (r+_)<|by omega,i64_in _<|by omega]
 rw[c];have e2:aJb (r+(l.length:Int)-1) (ln l)=some ((r+(l.length:Int)-1).tmod (l.length:Int)):=by unfold aJb ln;rw[ZF<|by omega]
 have b:0<=(r+(l.length:Int)-1).tmod (l.length:Int):=Int.tmod_nonneg _ (by omega);have e:(r+(l.length:Int)-1).tmod (l.length:Int)<(l.length:Int):=Int.tmod_lt_of_pos _ (by omega);exact aE e2<|aE (uL b<|by omega)<|aA trivial
theorem aL7{V:Type}{m:List<|Int×V}{k:Int}{v:V}(h:cE m k=some v): v∈m.map Prod.snd:=by
 induction m with
 | nil=>cases h
 | cons a r b=>
  simp only[cE] at h;split at h
  .cases h;exact ZG ..
  .exact ZH _<|b h
theorem aL2{V:Type}(m:List<|Int×V)(k:Int)(v:V): (kL m k v).length<=m.length+1:=by
 induction m with
 | nil=>simp[kL]
 | cons a r b=>
  simp only[kL];split
  .simp
  .simp only[Z9];omega
theorem aIJ(p:aM)(v:List Int)(f:v.length<=600)(b:∀d∈v,fR p d)(B:Nat)(c:B<=190000)(i:Nat)(o:i<=v.length)(l:List Int)(m:List<|Int×Int)(s:l.length<=B+i)(q:m.length<=B+i)(a:∀d∈l,fR p d):
 aB (λn k=>qF qO n k (v,v,ln v) (l,m,(i:Int))) λr=>r.1.length<=B+600/\r.2.length<=B+600/\∀d∈r.1,fR p d:=
 bZ<|bA (λd h j=>aE (Rt<|by omega) (aD (aDH v d<|by omega) λw _=>by
  rw[bS<|by omega];refine aIJ p v f b B c (i+1) (by omega) _ _ (by simp;omega) (by have:=aL2 m (wr<|0-d) w;omega) ?_;intro e he;rcases ZC.1 he with he | he
  .exact a e he
  .rw[ZN.1 he];exact b d<|Zg h))
  (λg=>aA ⟨by show l.length<=_;omega,by show m.length<=_;omega,a⟩)
termination_by v.length-i
theorem aIK(p:aM)(b:Sm p)(e:tV p)(i:Nat)(t:i<=p.Nodes.length)(l:List Int)(m:List<|Int×Int)(j:l.length<=600*i)(o:m.length<=600*i)(f:∀d∈l,fR p d):
 aB (λn k=>qF qP n k (p,p.Nodes,ln p.Nodes) (l,m,(i:Int))) λr=>r.1.length<=180000/\r.2.length<=180000/\∀d∈r.1,fR p d:=by
 have s:=b.n;refine bZ<|bA (λx q h=>aD (aNk p b e x.ID) λw c=>aD (aW<|aIJ p w c.1 c.2 (600*i) (by omega) 0 (by omega) l m (by omega) (by omega) f) λr a=>?_) λg=>aA ⟨by show l.length<=_;omega,by show m.length<=_;omega,f⟩;rw[bS<|by omega];exact aIK p b e (i+1) (by omega) r.1 r.2 (by have:=a.1;omega) (by have:=a.2.1;omega) a.2.2
termination_by p.Nodes.length-i
theorem aMC{p q:Int->Bool}{d:Int}: ∀(l:List Int),(∀x,q x=true->p x=true)->d∈l->p d=true->q d=false->l.countP q<l.countP p
 | [],_,h,_,_=>by cases h
 | a::l,b,h,i,g=>by
  have e:∀l:List Int,l.countP q<=l.countP p:=λl=>List.countP_mono_left λx _ h=>b x h;rw[Ve,Ve];rcases ZJ.1 h with rfl | h
  .rw[i,g];have:=e l;simp;omega
  .have:=aMC l b h i g;by_cases f:q a=true
   .rw[f,b a f];simp;omega
   .rw[ZF f];omega
def oM(m:List<|Int×Bool)(k:Int): Bool:=!(cE m k).getD false
theorem aE2(p:aM)(v:List<|Int×Int)(V:List Int)(f:∀k,(cE v k).getD 0∈V)(g:V.length<=800000)(seen:List<|Int×Bool)(a:List Int)(d:Int)(j:d∈V)(o:a.length+V.countP (oM seen)<=800000):
 aB (λn k=>qF qM n k v (seen,a,d)) λr=>∃t,r.2=a++t/\r.2.length+V.countP (oM r.1)<=a.length+V.countP (oM seen)/\((cE seen d).getD false=false->∃i,t=d::i):=by
 refine bZ<|aC (λh=>aA ⟨[],by simp,Zf _,λc=>by rw[h] at c;cases c⟩) λh=>aE (Rt<|by omega) ?_;have m:V.countP (oM<|kL seen d true)<V.countP (oM seen):=by
  refine aMC V (λx b=>?_) j (by unfold oM;rw[h];rfl) (by unfold oM;rw[tL,Zu rfl];rfl);unfold oM at b |-;rw[tL] at b;split at b
  .cases b
  .exact b
 refine (aE2 p v V f g (kL seen d true) (a++[d]) ((cE v d).getD 0) (f d)<|by simp;omega).imp ?_;rintro r ⟨t,l,c,_⟩;exact⟨d::t,by rw[l];simp,by simp only[Zj,Z9,Z2] at c;omega,λ_=>⟨t,rfl⟩⟩
termination_by V.countP<|oM seen
def dV(v:List Int×List (Int×Int)): List Int:=v.1++0::v.2.map Prod.snd
theorem aDa(p:aM)(v:List Int×List (Int×Int))(s:v.1.length<=180000)(u:v.2.length<=180000)(e:∀d∈v.1,fR p d)(i:Nat)(G:i<=v.1.length)(l:List<|List Int)(m:List<|Int×Bool)(H:l.length<=i)(z:l.flatten.length+(dV v).countP (oM m)<=400000)(g:∀c∈l,c.length<=800000/\∃d t,c=d::t/\fR p d):
 aB (λn k=>qF qN n k (v.2,tD v.1,ln<|tD v.1) (l,m,(i:Int))) λr=>r.1.length<=180000/\r.1.flatten.length<=400000/\∀c∈r.1,c.length<=800000/\∃d t,c=d::t/\fR p d:=by
 have y:=xJ v.1;refine bZ<|bA (λd B F=>?_) λE=>aA ⟨by show l.length<=_;omega,by show l.flatten.length<=_;omega,g⟩;rw[bS<|by omega];have b:d∈v.1:=(aIV v.1).mem_iff.1<|Zg B;refine aC (λ_=>aDa p v s u e (i+1) (by omega) l m (by omega) z g) λx=>?_;have A:∀k,(cE v.2 k).getD 0∈dV v:=by
  intro k;unfold dV;cases D:cE v.2 k with
  | none=>simp
  | some w=>exact List.mem_append_right _<|ZH _<|aL7 D
 have o:(dV v).length<=400000:=by simp[dV];omega
 refine aD (Q:=λr=>∃t,r.2=d::t/\r.2.length+(dV v).countP (oM r.1)<=(dV v).countP (oM m)) (aV<|aD (aW<|aE2 p v.2 (dV v) A (by omega) m [] d (List.mem_append_left _ b)<|by simp only[Z2];omega) λr j=>aA ?_) λr j=>aE (Rt<|by omega) ?_
 .let⟨t,h,q,C⟩:=j;obtain⟨f,rfl⟩:=C x;exact⟨f,by simpa using h,by simpa using q⟩
 let⟨f,h,q⟩:=j;refine aDa p v s u e (i+1) (by omega) _ _ (by simp;omega) ?_ ?_
 .rw[Xz,Zj,show[r.2].flatten=r.2 by simp];omega
 intro c a;rcases ZC.1 a with a | a
 .exact g c a
 .rw[ZN.1 a];exact⟨by omega,d,f,h,e d b⟩
termination_by v.1.length-i
decreasing_by all_goals (have:=xJ v.1;omega)
theorem aUH{v:List Int×List (Int×Int)}(c:v.1.length<=180000)(d:v.2.length<=180000){m:List<|Int×Bool}: ([]:List<|List Int).flatten.length+(dV v).countP (oM m)<=400000:=by
 have b:(dV v).countP (oM m)<=(dV v).length:=List.countP_le_length;have a:(dV v).length<=400000:=by simp[dV];omega
 simp only[Xg,Z2];omega
def aQ7(p:aM)(l:List<|List Int): Prop:=l.length<=180000/\l.flatten.length<=400000/\∀c∈l,c.length<=800000/\∃d t,c=d::t/\fR p d
theorem aFy(p:aM)(b:Sm p): aB (λn _=>Ax n p) λr=>r.2=0->tV p/\aQ7 p r.1:=by
 refine aU (λ_=>rfl)<|aD (aIL p b) λc i=>aC (λh=>aA λe=>?_) λh=>?_
 .rw[show c=0 from e] at h;simp at h
 .have d:=i (by simpa using h);exact aD (aW<|aIK p b d 0 (by omega) [] [] (by simp) (by simp)<|by simp) λv a=>aV<|aE (Ec<|Yk<|by have:=a.1;omega)<|aD (GV (f:=λn=>Nb n (v.2,tD v.1,ln<|tD v.1) ([],[],0))<|aW<|aDa p v a.1 a.2.1 a.2.2 0 (by omega) [] [] (by simp) (aUH a.1 a.2.1)<|by simp) λr g=>aA λ_=>⟨d,g⟩
structure MU(p:aM)(m:List (Int×List Aaa)): Prop where
 has:∀a∈p.Arcs,∃l,cE m a.ID=some l/\2<=l.length
 len:∀k l,cE m k=some l->l.length<=302
theorem aDG(p:aM)(d:Sm p)(g:tV p)(i:Nat)(m:List<|Int×List Aaa)(s:∀(j:Nat) (a:aO),j<i->p.Arcs[j]?=some a->∃l,cE m a.ID=some l/\2<=l.length)(t:∀k l,cE m k=some l->l.length<=302): aB (λn k=>qF lK n k (p,p.Arcs,ln p.Arcs) (m,(i:Int))) λr=>MU p r:=by
 have y:=d.a;refine bZ<|bA (λx f u=>aD (aCU p d x.ID) λw q=>aC (λ_=>?_) λh=>?_) λo=>aA ⟨Am.fin (l:=p.Arcs) (i:=i) (Q:=λ(a:aO)=>∃l,cE m a.ID=some l/\2<=l.length) s o,t⟩
 .rw[bS<|by omega];subst q;refine aDG p d g (i+1) _ (λj a v b=>?_) λk l e=>?_
  .rw[tL];by_cases he:x.ID=a.ID
   .rw[Zu he];exact⟨_,rfl,yE (g.pth x<|Zg f).1⟩
   .rw[ZF he];refine s j a ?_ b;rcases ZI j i with h | h
    .exact h
    .have:j=i:=by omega
     subst this;rw[f] at b;cases b;exact absurd rfl he
  .rw[tL] at e;split at e
   .cases e;exact Jt p d _
   .exact t k l e
 .subst q;rw[(g.pth x<|Zg f).1] at h;simp at h
termination_by p.Arcs.length-i
theorem aA2(p:aM)(c:Sm p)(b:tV p): aB (λn _=>oT n p) λr=>MU p r:=
 aU (λ_=>rfl)<|aD (aW<|aDG p c b 0 [] (λj a h=>by omega) λk l h=>by cases h) λr d=>aA d
theorem aFb(p:aM)(a:Sm p)(d:Int): Tt λn _=>Ir n p d:=
 aU (λ_=>rfl)<|aC (λ_=>aA trivial) λ_=>aC (λ_=>aA trivial) λ_=>aD (aNl p a _) λ_ _=>aC (λ_=>aA trivial) λ_=>aA trivial
theorem O3(p:aM)(a:Sm p)(d:Int): Tt λn _=>El n p d:=
 aU (λ_=>rfl)<|aD (aFb p a d) λ_ _=>aC (λ_=>aC (λ_=>aA trivial) λ_=>aA trivial) λ_=>aA trivial
theorem aIE(v:List Aaa)(k:Int)(c:k=wr (ln v-1))(f:2<=v.length)(e:v.length<=1000)(i:Nat)(s:Int): Tt λn m=>qF tY n m (v,k) (s,(i:Int)):=by
 have g:wr (ln v-1)=((v.length-1:Nat):Int):=by unfold wr ln;rw[i64_in _<|by omega];omega
 refine bZ<|aC (λh=>?_) λh=>aA trivial;have d:i<v.length-1:=by rw[c,g] at h;have:=Zh h;omega
 have b:idx v (i:Int)=some v[i]:=by rw[bN];exact Za<|by omega
 have a:idx v ((i+1:Nat):Int)=some v[i+1]:=by rw[bN];exact Za<|by omega
 rw[bS<|by omega];exact aE b<|aE a<|aE a<|aE b<|aIE v k c f e (i+1) _
termination_by v.length-i
theorem aCS(p:aM)(e:Sm p)(c:List Int)(f:c.length<=512)(i:Nat)(s:Int): aB (λn m=>pK tZ n m (p,c,ln c) (s,(i:Int)))<|Su (λ_=>True) λ_=>True:=
 bL<|bA (λd k j=>aD (aFb p e d) λw _=>aC (λ_=>aD (aCU p e _) λv g=>aC (λ_=>aA trivial) λb=>by
  rw[bS<|by omega];have a:v.2=0:=by simpa using b
  refine aD (aW<|aIE v.1 _ rfl (by rw[g] at a |-;exact yE a) (by rw[g];have:=Jt p e<|nE d<|wr<|0-d;omega) 0 0) λt _=>aC (λ_=>aCS p e c f (i+1) _) λ_=>aCS p e c f (i+1) _) λ_=>aA trivial)
  (λh=>aA trivial)
termination_by c.length-i
theorem aJS(p:aM)(a:Sm p)(c:List Int): Tt λn _=>qL n p c:=
 aU (λ_=>rfl)<|aC (λ_=>aA trivial) λh=>aP (aW<|aCS p a c (by have h:¬ln c > 512:=Zi h;unfold ln at h;omega) 0 0) (λ_ _=>aA trivial) λ_ _=>aE rfl<|aA trivial
section
variable {a b c:Aaa}
instance aYZ: TC (λn=>mJ n (a,b,c)):=⟨by repeat' first | exact aA trivial | refine aC (λ_=>?_) (λ_=>?_) | refine bH λ_=>?_⟩
instance aYY: TC (λn=>mI n (a,b,c)):=⟨by repeat' first | exact aA trivial | refine aC (λ_=>?_) (λ_=>?_) | refine bH λ_=>?_⟩
end
theorem aOP(a x y:Aaa)(b c:Bool): Tt λn _=>mK n (a,b,c,x,y):=by
 refine aV ?_;repeat' first | exact aA trivial | refine aC (λ_=>?_) (λ_=>?_) | refine bH λ_=>?_
theorem aIt(a:Aaa)(l:List Aaa)(g:l.length<=1000)(i:Nat)(q:1<=i)(p f:Bool): Tt λn k=>qF eE n k (a,l) (p,f,(i:Int)):=by
 refine bZ<|aC (λh=>?_) λ_=>aA trivial;have b:(i:Int)<ln l:=Zh h;have b:i<l.length:=by unfold ln at b;omega
 have j:wr ((i:Int)-1)=((i-1:Nat):Int):=by rw[wr,i64_in _<|by omega];omega
 rw[bS<|by omega,j];have c:∀e d,Tt λn k=>qF eE n k (a,l) (e,d,((i+1:Nat):Int)):=λe d=>aIt a l g (i+1) (by omega) e d;have o:idx l ((i-1:Nat):Int)=some (l[i-1]'(by omega)):=by rw[bN];exact Za<|by omega
 have m:idx l (i:Int)=some l[i]:=by rw[bN];exact Za<|by omega
 exact aE o<|aE m<|aD (aOP _ _ _ _ _) λ_ _=>aC (λ_=>aC (λ_=>c _ _) λ_=>c _ _) λ_=>aC (λ_=>c _ _) λ_=>c _ _
termination_by l.length-i
def P3(m:List<|Int×List Aaa): Prop:=∀k l,cE m k=some l->l.length<=302
theorem P3.d{m:List<|Int×List Aaa}(h:P3 m)(k:Int): ((cE m k).getD []).length<=1000:=by
 cases e:cE m k with
 | none=>simp
 | some l=>have:=h k l e;show l.length<=_;omega
theorem aIu(m:List<|Int×List Aaa)(f:P3 m)(c:List Int)(g:c.length<=800000)(a:Aaa)(i:Nat)(e b:Bool): Tt λn k=>qF fO n k (a,m,c,ln c) (e,b,(i:Int)):=
 bZ<|bA (λd l j=>by
  rw[bS<|by omega];exact aD (aW<|aIt a _ (f.d _) 1 (by omega) e b) λ_ _=>aIu m f c g a (i+1) _ _)
  (λh=>aA trivial)
termination_by c.length-i
theorem aOO(m:List<|Int×List Aaa)(d:P3 m)(c:List Int)(b:c.length<=800000)(a:Aaa): Tt λn _=>eI n m c a:=
 aU (λ_=>rfl)<|aD (Q:=λ_=>True) (aV<|aD (aW<|aIu m d c b a 0 false false) λ_ _=>aA trivial) λ_ _=>aC (λ_=>aC (λ_=>aA trivial) λ_=>aA trivial) λ_=>aC (λ_=>aA trivial) λ_=>aA trivial
theorem aGw(m:List<|Int×List Aaa)(e:P3 m)(l:List Kv)(f:∀x∈l,x.outer.length<=800000)(a:Aaa)(b i:Nat)(g:b<l.length)(d:i<l.length): Tt λn _=>tE n (a,m,l,(b:Int),(i:Int)):=by
 have c:idx l (i:Int)=some l[i]:=by rw[bN];exact Za d
 have e2:idx l (b:Int)=some l[b]:=by rw[bN];exact Za g
 have k:Tt λn _=>eI n m l[i].outer a:=aOO m e _ (f _<|ZQ d) a;exact aC (λ_=>aE c<|aD k λ_ _=>aC (λ_=>aA trivial) λ_=>aA trivial) λ_=>aE c<|aE e2<|aC (λ_=>aE c<|aD k λ_ _=>aC (λ_=>aA trivial) λ_=>aA trivial) λ_=>aA trivial
theorem QR(m:List<|Int×List Aaa)(d:P3 m)(l:List Kv)(f:∀x∈l,x.outer.length<=800000)(g:l.length<=800000)(a:Aaa)(b i:Nat)(e:b<l.length): aB (λn k=>qF iJ n k (a,m,l) ((b:Int),(i:Int))) λr=>0<=r/\r.toNat<l.length:=
 bZ<|aC (λh=>by
  have c:(i:Int)<ln l:=Zh h;have c:i<l.length:=by unfold ln at c;omega
  rw[bS<|by omega];exact aD (aGw m d l f a b i e c) λ_ _=>aC (λ_=>QR m d l f g a i (i+1) c) λ_=>QR m d l f g a b (i+1) e)
  (λj=>aA<|show 0<=(b:Int)/\(b:Int).toNat<l.length from⟨by omega,by simpa using e⟩)
termination_by l.length-i
theorem aIl(m:List<|Int×List Aaa)(c:P3 m)(l:List Kv)(d:∀x∈l,x.outer.length<=800000)(e:l.length<=800000)(f:0<l.length)(a:Aaa): aB (λn _=>eD n m l a) λr=>0<=r/\r.toNat<l.length:=
 aU (λ_=>rfl)<|aD (aW<|QR m c l d e a 0 1 f) λr b=>aA b
theorem aCZ(l:List aO)(a:l.length<=300)(id:Int)(i:Nat)(s:Int): Tt λn m=>qF rE n m (id,l,ln l) (s,(i:Int)):=
 bZ<|bA (λd e b=>by
  rw[bS<|by omega];refine aD (Q:=λ_=>True) ?_ λ_ _=>aC (λ_=>aCZ l a id (i+1) _) λ_=>aCZ l a id (i+1) _;exact aC (λ_=>aA trivial) λ_=>aA trivial)
  (λc=>aA trivial)
termination_by l.length-i
theorem aBl(p:aM)(b:Sm p)(id:Int): Tt λn _=>kI n p id:=
 aU (λ_=>rfl)<|aD (aW<|aCZ p.Arcs b.a id 0 0) λ_ _=>aA trivial
structure aTa(l:List dO)(b c:Nat): Prop where
 al:∀a∈l,a.alone.length<=c
 sz:∀a∈l,a.outer.length+a.inner.flatten.length<=400000
 l1:1<=l.length
 l2:l.length<=200000
 ou:∀a∈l,a.outer.length<=800000
 inn:∀a∈l,a.inner.length<=b/\∀c∈a.inner,c.length<=800000
 ne:∀(i:Nat) (a:dO),1<=i->l[i]?=some a->a.outer≠[]
def Si: Prop:=∀(p:aM) (cs:List<|List Int) (m:List<|Int×List Aaa),Sm p->tV p->aQ7 p cs->MU p m->aB (λn _=>iX n p cs m) λr=>aTa r 200000 300
theorem aM6(a:dO)(h:a.inner.length<=200000): aB (λn _=>fP n a) λr=>r=a.outer::a.inner:=
 aU (λ_=>rfl)<|aE (Ko (l:=[a.outer]) (m:=a.inner)<|by simp;omega)<|aA rfl
section
variable (p:aM)(hp:Sm p)(lf:List Int)(v:Int)
include hp
theorem aIo(c:List Int)(a:c.length<=800000)(i:Nat): aB (λn m=>pK oU n m (p,lf,v,c,ln c) (i:Int))<|Su (λ_=>True) λ_=>True:=
 bL<|bA (λd g b=>aD (O3 p hp d) λ_ _=>by
  rw[bS<|by omega];exact aC (λ_=>aA trivial) λ_=>aIo c a<|i+1)
  (λe=>aA trivial)
termination_by c.length-i
theorem aC1(a:List<|List Int)(g:a.length<=800000)(b:∀c∈a,c.length<=800000)(i:Nat): aB (λn m=>pK oV n m (p,lf,v,a,ln a) (i:Int))<|Su (λ_=>True) λ_=>True:=
 bL<|bA (λc e d=>aP (aW<|aIo p hp lf v c (b c<|Zg e) 0) (λ_ _=>aA trivial) λ_ _=>aE rfl<|by
  rw[bS<|by omega];exact aC1 a g b<|i+1)
  (λf=>aA trivial)
termination_by a.length-i
end
theorem aDY{V:Type}(k:Int)(v:V): ∀m:List<|Int×V,cE m k=none->(kL m k v).length=m.length+1
 | [],_=>rfl
 | a::r,h=>by
  simp only[cE] at h;split at h
  .cases h
  .rename_i b;simp only[kL];rw[ZF b];simp only[Z9];rw[aDY k v r h]
theorem aC2(p:aM)(q:Sm p)(l:List dO)(o:aTa l 200000 300)(i:Nat)(R:i<=l.length)(lf:List Int)(g:List<|Int×Bool)(K:lf.length=i)(E:g.length=i-1)(j:∀k v,cE g k=some v->v=true): aB (λn m=>pK oW n m (p,l,ln l) (lf,g,(i:Int)))<|Su (λ_=>True) λr=>r.1.length=l.length/\r.2.length=l.length-1:=by
 have O:=o.l2;refine bL<|bA (λa I N=>?_) λL=>aA (show lf.length=l.length/\g.length=l.length-1 by omega);have y:=Zg I;have D:=o.inn a y;have B:=o.ou a y;have f:∀w,w=a.outer::a.inner->w.length<=800000/\∀c∈w,c.length<=800000:=by
  rintro w rfl;refine⟨by simp;omega,λc H=>?_⟩;rcases ZJ.1 H with rfl | H
  .exact B
  .exact D.2 c H
 rw[bS<|by omega];refine aC (λb=>?_) λb=>?_
 .have F:1<=i:=by have:(i:Int) > 0:=Zh b;omega
  have G:=o.ne i a F I;let⟨d,t,C⟩:∃d t,a.outer=d::t:=by
   cases h:a.outer with
   | nil=>exact absurd h G
   | cons d t=>exact⟨d,t,rfl⟩
  refine aE (x:=d) (by rw[C];rfl)<|aD (O3 p q d) λv _=>aD (Q:=λr=>r=false->(cE g v).getD false=false) ?_ λ_ M=>aC (λ_=>aA trivial) λJ=>aD (aM6 a<|by omega) λw s=>aP (aW<|aC1 p q lf v w (f w s).1 (f w s).2 0) (λ_ _=>aA trivial) λ_ _=>aE rfl<|aE (Rt<|by omega)<|aC2 p q l o (i+1) (by omega) _ _ (by simp;omega) ?_ ?_
  .exact aC (λ_=>aA<|by simp) λ_=>aC (λ_=>aA<|by simp) λh=>aA λ_=>h
  .have h:=M J;have:cE g v=none:=by
    cases e:cE g v with
    | none=>rfl
    | some w=>rw[e,j v w e] at h;cases h
   rw[aDY v true g this,E];omega
  .intro k u z;rw[tL] at z;split at z
   .cases z;rfl
   .exact j k u z
 .exact aD (aM6 a<|by omega) λw s=>aP (aW<|aC1 p q lf 0 w (f w s).1 (f w s).2 0) (λ_ _=>aA trivial) λ_ _=>aE rfl<|aE (Rt<|by omega)<|aC2 p q l o (i+1) (by omega) _ _ (by simp;omega) (by have:¬(i:Int) > 0:=Zi b;omega) j
termination_by l.length-i
theorem aOL(p:aM)(e:Sm p)(l:List dO)(c:aTa l 200000 300): aB (λn _=>Jn n p l) λr=>r.2=true->r.1.length=l.length/\l.length=p.Faces.length+1:=
 aU (λ_=>rfl)<|aP (aW<|aC2 p e l c 0 (by omega) [] [] rfl rfl λ_ _ h=>by cases h) (λ_ _=>aA<|by simp) λr d=>aE rfl<|aC (λb=>aA λ_=>⟨d.1,by have:=c.l1;have f:=d.2;have b:ln r.2=ln p.Faces:=Wk b;unfold ln at b;omega⟩) λ_=>aA λh=>by cases h
def SzR(o:List Int)(i:List<|List Int)(a:List Int): Prop:=o.length+i.flatten.length<=400000/\(i.length<=200000/\∀c∈i,c.length<=800000)/\a.length<=300
theorem aRa(s:Si)(p:aM)(g:Sm p): aB (λn _=>Bf n p) λr=>r.2.2.2=0->tV p/\r.1.length=p.Faces.length+1/\r.2.1.length=r.1.length/\r.1.length<=200000/\∀a∈r.1,SzR a.outer a.inner a.alone:=by
 refine aU (λ_=>rfl)<|aD (aFy p g) λc o=>aC (λb=>aA λh=>?_) λb=>?_
 .rw[show c.2=0 from h] at b;simp at b
 .let⟨j,i⟩:=o (by simpa using b);exact aD (aA2 p g j) λm q=>aD (s p c.1 m g j i q) λl d=>aD (aOL p g l d) λf k=>aC (λb=>aA λ_=>⟨j,(k b).2,(k b).1,d.l2,λa e=>⟨d.sz a e,⟨by have:=(d.inn a e).1;omega,(d.inn a e).2⟩,by have:=d.al a e;omega⟩⟩) λ_=>aA λh=>by cases h
theorem aIG(d:List Int)(b:List dO)(k:d.length=b.length)(j:b.length<=200000)(f:∀a∈b,SzR a.outer a.inner a.alone)(i:Nat)(l:List dR)(q:l.length=i)(e:∀r∈l,SzR r.Outer r.Inner r.Alone)(s:i<=b.length): aB (λn m=>qF lL n m (d,b,ln b) (l,(i:Int))) λr=>r.length=b.length/\r.length<=200000/\∀x∈r,SzR x.Outer x.Inner x.Alone:=by
 refine bZ<|bA (λa h g=>?_) λp=>aA ⟨show l.length=_ by omega,show l.length<=_ by omega,e⟩;let⟨y,o⟩:∃y,d[i]?=some y:=⟨_,Za<|by omega⟩;rw[bS<|by omega];exact aE (by rw[bN];exact o)<|aE (Rt<|by omega)<|aIG d b k j f (i+1) _ (by simp;omega) (by
  intro r c;rcases ZC.1 c with c | c
  .exact e r c
  .rw[ZN.1 c];exact f a<|Zg h)<|by omega
termination_by b.length-i
theorem aUV(x y:dR): aB (λn _=>jM n x y) λr=>r=AU x.Face y.Face:=
 aU (λ_=>rfl)<|aD (fL _ _) λr a=>aA a
theorem SM(m:Si)(p:aM)(s:Sm p): ∃v:List dR×Int,aB (λn _=>kC n p) (λr=>r=v)/\(v.2=0->tV p/\v.1.length=p.Faces.length+1)/\(v.1.length<=200000/\∀x∈v.1,SzR x.Outer x.Inner x.Alone)/\aB (λn _=>Jp n p) λr=>r=v.2:=by
 let⟨v,e,g⟩:=(aRa m p s).val;have k:aB (λn _=>kC n p) λr=>r.2=v.2.2.2/\(r.2=0->r.1.length=v.1.length)/\r.1.length<=200000/\∀x∈r.1,SzR x.Outer x.Inner x.Alone:=by
  refine aU (λ_=>rfl)<|aD g λw a=>?_;subst a;refine aC (λb=>aA ⟨rfl,λh=>by rw[show w.2.2.2=0 from h] at b;simp at b,by simp,by simp⟩) λb=>?_;have i:w.2.2.2=0:=by simpa using b
  let⟨_,_,u,j,q⟩:=e i;exact aD (aW<|aIG w.2.1 w.1 u j q 0 [] (by simp) (by simp)<|by omega) λl c=>aV<|aE (Ec<|Yk<|by have:=c.2.1;omega)<|aD (j6 (F:=λn x y=>bnd (jM n x y) λh=>some h) (λx _ y _=>aD (aUV x y) λ_ h=>aA h)<|aKv _ _) λr f=>aA ⟨by rw[i],λ_=>by show r.length=_;rw[f.1];exact c.1,by show r.length<=_;rw[f.1];exact c.2.1,λx t=>c.2.2 x<|f.2 x t⟩
 let⟨w,a,d⟩:=k.val;exact⟨w,d,λh=>⟨(e<|a.1▸h).1,by rw[a.2.1 h];exact (e<|a.1▸h).2.1⟩,a.2.2,aU (λ_=>rfl)<|aD g λz o=>aA<|by rw[o,a.1]⟩
theorem aWG{c:Prop}[Decidable c]{x y:Nat×Nat}(b:1<=x.2/\x.2<=4)(a:1<=y.2/\y.2<=4): 1<=(if c then x else y).2/\(if c then x else y).2<=4:=by split<;>assumption
theorem aUF(s:ByteArray)(p:Nat)(h:p<s.size): 1<=(Utf8.decode s p).2/\(Utf8.decode s p).2<=4:=by
 unfold Utf8.decode;dsimp only;repeat' first
  | apply aWG
  | (show 1<=_/\_<=4;exact⟨by dsimp only;omega,by dsimp only;omega⟩)
theorem aXb{α:Type}{P:α->Prop}{f:Nat->Nat->Option α}(h:aB f P): Tt f:=h.imp λ_ _=>trivial
theorem aFj(a:Int)(b:wU)(i:Nat): aB (λn m=>pK pO n m (a,b) (i:Int))<|Su (λ_=>True) λ_=>True:=
 bL<|aC (λh=>by
  have h:(i:Int)<13:=Zh h;have h:i<13:=by omega
  rw[bS<|by omega];refine aE (x:=([b.e0,b.e1,b.e2,b.e3,b.e4,b.e5,b.e6,b.e7,b.e8,b.e9,b.e10,b.e11,b.e12]:List fV)[i]) (by rw[bN];exact Za<|by simpa using h)<|aD (Q:=λ_=>True) ?_ λ_ _=>aC (λ_=>aA trivial) λ_=>aFj a b<|i+1;repeat' first
   | exact aA trivial
   | refine aC (λ_=>?_) (λ_=>?_)) λ_=>aA trivial
termination_by 13-i
theorem aFi(a:Int): Tt λn _=>wK n a:=
 aU (λ_=>rfl)<|aC (λ_=>aA trivial) λ_=>aC (λ_=>aA trivial) λ_=>aP (aW<|aFj _ _ 0) (λ_ _=>aA trivial) λ_ _=>aE rfl<|aA trivial
theorem aFx(s:ByteArray)(b:s.size<=1000)(i:Nat)(l:List Int)(d:l.length<=i)(e:i<=1010): aB (λn m=>pK pP n m () (l,(s,i)))<|Su (λ_=>True) λv=>v.1.length<=1010:=
 bL<|aC (λh=>by
  have h:i<s.size:=Zh h;have c:=aUF s i h;refine aD (aFi _) λ_ _=>aC (λ_=>aA trivial) λ_=>aE (BU<|by omega)<|aFx s b (i+(Utf8.decode s i).2) _ (by simp;omega)<|by omega) λh=>aA<|show l.length<=1010 by omega
termination_by s.size-i
theorem aMZ(s:ByteArray)(a:s.size<=1000): aB (λn _=>Jz n s) λr=>r.1.length<=1010:=
 aU (λ_=>rfl)<|aP (aW<|aFx s a 0 [] (by simp)<|by omega) (λ_ _=>aA<|by simp) λv b=>aE rfl<|aA b
theorem aOX(s t:ByteArray)(h:s.size<=1000): Tt λn _=>aAS n s t:=
 ⟨_,trivial,1,λn m a _=>by
  obtain⟨n,rfl⟩:∃k,n=k+1:=⟨n-1,by omega⟩;show (match Nat.blt s.size 4294967281 with | true=>_ | false=>_)=_;rw[show Nat.blt s.size 4294967281=true from by rw[YC];omega]⟩
theorem aKJ{s:ByteArray}{i:Int}(a:0<=i)(h:i.toNat<s.size): ∃c,sat s i=some c:=by
 unfold sat;rw[Zu a,Za<|by simpa using h];exact⟨_,rfl⟩
theorem aHP(a b:List Int)(d:b.length<=100000)(i:Nat): aB (λn m=>pK yH n m (a,b,ln b) (i:Int))<|Su (λ_=>True) λ_=>True:=
 bL<|bA (λx f c=>aD (aFi x) λ_ _=>by
  rw[bS<|by omega];exact aC (λ_=>aA trivial) λ_=>aHP a b d<|i+1)
  (λe=>aA trivial)
termination_by b.length-i
theorem aL1(s:ByteArray): Tt λn _=>rQ n s:=by
 refine aU (λ_=>rfl)<|aD (Q:=λ_=>True) ?_ λ_ _=>aA trivial;refine aU (λ_=>rfl)<|aC (λ_=>aA trivial) λf=>aC (λ_=>aA trivial) λh=>?_;have h:¬((s.size:Nat):Int) > 40:=Zi h;have f:s≠(⟨#[]⟩:ByteArray):=Zi f;have m:0<s.size:=by
  rcases XF s.size with e | e
  .exfalso;apply f;cases s with
   | mk d=>cases d with
    | mk l=>cases l with
     | nil=>rfl
     | cons a l=>simp[ByteArray.size] at e
  .exact e
 let⟨c,j⟩:=aKJ (s:=s) (i:=0) (by omega) (by simpa using m);have g:wr ((s.size:Int)-1)=(s.size:Int)-1:=by rw[wr,i64_in _<|by omega]
 let⟨d,k⟩:=aKJ (s:=s) (i:=(s.size:Int)-1) (by omega) (by omega);refine aD (aMZ s<|by omega) λb o=>aC (λ_=>aA trivial) λ_=>aD (Q:=λ_=>True) ?_ λ_ _=>aC (λ_=>aA trivial) λ_=>aP (aW<|aHP b.1 b.1 (by omega) 0) (λ_ _=>aA trivial) λ_ _=>aE rfl<|aA trivial;exact aE j<|aC (λ_=>aA trivial) λ_=>aE (by rw[g];exact k)<|aC (λ_=>aA trivial) λ_=>aD (aOX s _<|by omega) λ_ _=>aC (λ_=>aA trivial) λ_=>aA trivial
instance aW8{s:ByteArray}: TC (λn=>rQ n s):=⟨aL1 s⟩
structure wR(s:aJ): Prop where
 p:Sm s.Plan
 n:s.Features.length<=1000
 f:∀f∈s.Features,f.Parts.length<=1000
abbrev Sx{β γ:Type}(f:Nat->Nat->Option (β⊕γ)): Prop:=aB f (Su (λ_=>True) λ_=>True)
instance aVV{x:Int}: TC (λn=>dM n x):=⟨aU (λ_=>rfl) (by repeat' first|apply dU|apply aC|apply bH|intro)⟩
section
variable {f:aG}
instance fc1: TC (λn=>lV n f):=⟨by repeat' first|apply dU|apply aC|apply bH|intro⟩
instance fc4: TC (λn=>lU n f):=⟨by repeat' first|apply dU|apply aC|apply bH|intro⟩
instance fc5: TC (λn=>lT n f):=⟨by repeat' first|apply dU|apply aC|apply bH|intro⟩
instance aYV: TC (λn=>Cm n f):=⟨aV (by repeat' first|apply dU|apply aC|apply bH|intro)⟩
instance aYU: TC (λn=>Cj n f):=⟨aV (by repeat' first|apply dU|apply aC|apply bH|intro)⟩
instance aYT: TC (λn=>Cg n f):=⟨aV (by repeat' first|apply dU|apply aC|apply bH|intro)⟩
instance aYS: TC (λn=>Cc n f):=⟨aV (by repeat' first|apply dU|apply aC|apply bH|intro)⟩
instance aYR: TC (λn=>pS n f):=⟨aV (by repeat' first|apply dU|apply aC|apply bH|intro)⟩
end
section
variable (l:List aG)(hl:l.length<=1000)
include hl
theorem aU6(i:Nat): Sx λn m=>pK mB n m (l,ln l) (i:Int):=
 bL<|bA (λx c a=>by
  rw[bS<|by omega];exact bH λ_=>aC (λ_=>aA trivial) λ_=>aU6<|i+1)
  (λb=>aA trivial)
termination_by l.length-i
theorem aWO: Sx λn _=>Co n l:=
 aV<|aP (f:=λn _=>Cn n l) (Q:=λ_=>True) (R:=λ_=>True) (aV<|aP (aW<|aU6 l hl 0) (λ_ _=>aA trivial) λ_ _=>aE rfl<|aA trivial) (λ_ _=>aC (λ_=>aA trivial) λ_=>aA trivial) λ_ _=>aE rfl<|aA trivial
theorem aU5(i:Nat): Sx λn m=>pK mA n m (l,ln l) (i:Int):=
 bL<|bA (λx c a=>by
  rw[bS<|by omega];exact bH λ_=>aC (λ_=>aA trivial) λ_=>aU5<|i+1)
  (λb=>aA trivial)
termination_by l.length-i
theorem aWN: Sx λn _=>Cl n l:=
 aV<|aP (f:=λn _=>Ck n l) (Q:=λ_=>True) (R:=λ_=>True) (aV<|aP (aW<|aU5 l hl 0) (λ_ _=>aA trivial) λ_ _=>aE rfl<|aA trivial) (λ_ _=>aC (λ_=>aA trivial) λ_=>aA trivial) λ_ _=>aE rfl<|aA trivial
theorem aU4(i:Nat): Sx λn m=>pK lZ n m (l,ln l) (i:Int):=
 bL<|bA (λx c a=>by
  rw[bS<|by omega];exact bH λ_=>aC (λ_=>aA trivial) λ_=>aU4<|i+1)
  (λb=>aA trivial)
termination_by l.length-i
theorem aWM: Sx λn _=>Ci n l:=
 aV<|aP (f:=λn _=>Ch n l) (Q:=λ_=>True) (R:=λ_=>True) (aV<|aP (aW<|aU4 l hl 0) (λ_ _=>aA trivial) λ_ _=>aE rfl<|aA trivial) (λ_ _=>aC (λ_=>aA trivial) λ_=>aA trivial) λ_ _=>aE rfl<|aA trivial
theorem aU3(i:Nat): Sx λn m=>pK lY n m (l,ln l) (i:Int):=
 bL<|bA (λx c a=>by
  rw[bS<|by omega];exact bH λ_=>aC (λ_=>aA trivial) λ_=>aU3<|i+1)
  (λb=>aA trivial)
termination_by l.length-i
theorem aWL: Sx λn _=>Cf n l:=
 aV<|aP (f:=λn _=>Ce n l) (Q:=λ_=>True) (R:=λ_=>True) (aV<|aP (aW<|aU3 l hl 0) (λ_ _=>aA trivial) λ_ _=>aE rfl<|aA trivial) (λ_ _=>aC (λ_=>aA trivial) λ_=>aA trivial) λ_ _=>aE rfl<|aA trivial
theorem fI3(j:∀f∈l,f.Parts.length<=1000)(m:List<|Aac×Bool): Sx λn _=>Gm n (m,l):=by
 have o:∀(a:Int) (p:List Int) (d:p.length<=1000) (k i:Nat) (m:List<|Aac×Bool),p.length<=i+k->Sx (λn k=>pK nK n k (a,p,ln p) (m,(i:Int))):=by
  intro a p d k;induction k with
  | zero=>exact λi m h=>bL<|bA (λx c b=>by omega) λ_=>aA trivial
  | succ k e=>
   intro i m h;refine bL<|bA (λx c b=>?_) λ_=>aA trivial;rw[bS<|by omega];exact aC (λ_=>aA trivial) λ_=>e (i+1) _<|by omega
 have q:∀(m:List<|Aac×Bool) (f:aG),f.Parts.length<=1000->Sx (λn _=>Gk n (m,f)):=λm f d=>
  aV<|aP (f:=λn _=>Gi n f) (Q:=λ_=>True) (R:=λ_=>True) (bH λ_=>aC (λ_=>aA trivial) λ_=>aC (λ_=>aA trivial) λ_=>aA trivial) (λ_ _=>aA trivial) λ_ _=>aE rfl<|aP (aW<|o _ _ d _ 0 _<|Xk ..) (λ_ _=>aA trivial) λ_ _=>aE rfl<|aA trivial
 have g:∀(k i:Nat) (m:List<|Aac×Bool),l.length<=i+k->Sx (λn k=>pK nL n k (l,ln l) (m,(i:Int))):=by
  intro k;induction k with
  | zero=>exact λi m h=>bL<|bA (λx c b=>by omega) λ_=>aA trivial
  | succ k e=>
   intro i m h;refine bL<|bA (λx c b=>?_) λ_=>aA trivial;rw[bS<|by omega];exact aP (q _ x<|j x<|Zg c) (λ_ _=>e (i+1) _<|by omega) λ_ _=>aE rfl<|aA trivial
 exact aV<|aP (f:=λn _=>Gl n (m,l)) (Q:=λ_=>True) (R:=λ_=>True) (aV<|aP (aW<|g _ 0 m<|Xk ..) (λ_ _=>aA trivial) λ_ _=>aE rfl<|aA trivial) (λ_ _=>aC (λ_=>aA trivial) λ_=>aA trivial) λ_ _=>aE rfl<|aA trivial
end
theorem aBi(l:List Int)(x:Int)(b:l.length<=100000): aB (λn _=>oD n l x) λr=>r=decide (x∈l):=
 aU (λ_=>rfl)<|aD (Ap l x b) λr a=>aC (λh=>aA<|by rw[<-a,h]) λh=>aA<|by rw[<-a,h]
theorem aR7(p:aM)(b:Sm p)(f:aG)(l:List Int)(j:l.length<=1000): Tt λn _=>nH n (p,f,l):=by
 have d:∀x:Int,Tt λn _=>yP n (p,f,x):=λx=>
  aV<|bH λ_=>aC (λ_=>aD (SR p b x) λ_ _=>aC (λ_=>aA trivial) λ_=>aA trivial) λ_=>aC (λ_=>aD (aNl p b x) λ_ _=>aC (λ_=>aA trivial) λ_=>aA trivial) λ_=>aC (λ_=>aD (aBi p.Faces x<|by have:=b.f;omega) λ_ _=>aC (λ_=>aA trivial) λ_=>aA trivial) λ_=>aA trivial
 have c:∀(k i:Nat),l.length<=i+k->Sx (λn k=>pK gH n k (p,f,l,ln l) (i:Int)):=by
  intro k;induction k with
  | zero=>exact λi h=>bL<|bA (λx g a=>by omega) λ_=>aA trivial
  | succ k e=>
   intro i h;refine bL<|bA (λx g a=>?_) λ_=>aA trivial;rw[bS<|by omega];exact aD (d x) λ_ _=>aC (λ_=>aA trivial) λ_=>e (i+1)<|by omega
 exact aV<|aD (f:=λn _=>yQ n (p,f,l)) (Q:=λ_=>True) (aV<|aP (aW<|c _ 0<|Xk ..) (λ_ _=>aA trivial) λ_ _=>aE rfl<|aA trivial) λ_ _=>aC (λ_=>aA trivial) λ_=>aA trivial
theorem fI9(s:aJ)(d:wR s): Sx λn _=>Gj n (s,s.Features):=by
 have c:∀f∈s.Features,Tt λn _=>Cq n (s,f):=λf g=>
  aV<|aD (f:=λn _=>Cp n (s.Plan,f)) (Q:=λ_=>True) (aV<|aD (aR7 s.Plan d.p f f.Parts<|d.f f g) λ_ _=>aC (λ_=>aA trivial) λ_=>aA trivial) λ_ _=>aC (λ_=>aA trivial) λ_=>aA trivial
 have b:∀(k i:Nat),s.Features.length<=i+k->Sx (λn k=>pK mC n k (s,s.Features,ln s.Features) (i:Int)):=by
  have:=d.n;intro k;induction k with
  | zero=>exact λi h=>bL<|bA (λx e a=>by omega) λ_=>aA trivial
  | succ k j=>
   intro i h;refine bL<|bA (λx e a=>?_) λ_=>aA trivial;rw[bS<|by omega];exact aD (c x<|Zg e) λ_ _=>aC (λ_=>aA trivial) λ_=>j (i+1)<|by omega
 exact aV<|aP (f:=λn _=>Cr n (s,s.Features)) (Q:=λ_=>True) (R:=λ_=>True) (aV<|aP (aW<|b _ 0<|Xk ..) (λ_ _=>aA trivial) λ_ _=>aE rfl<|aA trivial) (λ_ _=>aC (λ_=>aA trivial) λ_=>aA trivial) λ_ _=>aE rfl<|aA trivial
theorem aQh(l:List Int)(a:l.length<=1000): aB (λn _=>tP n l) λr=>r=true->Asc l:=
 aU (λ_=>rfl)<|aP (aW<|M5 l a 1 (Zf _) λj x y h=>by omega) (λ_ _=>aA<|by simp) λ_ h=>aE rfl<|aA λ_=>h
theorem aWK(s:aJ)(g:wR s): Sx λn _=>Cb n (s,0,s.Features):=by
 have q:=g.n;have b:∀(i:Nat) (f:aG),f∈s.Features->i<s.Features.length->Tt (λn _=>Bv n (s,((i+1:Nat):Int),f)):=by
  intro i f m p;have j:=aQh f.Parts<|g.f f m;refine aC (λh=>?_) λ_=>aD j λ_ _=>aC (λ_=>aA trivial) λ_=>aA trivial;have h:((i+1:Nat):Int) > 1:=Zh h;have e:wr (((i+1:Nat):Int)-2)=((i-1:Nat):Int):=by rw[wr,i64_in _<|by omega];omega
  refine aE (x:=s.Features[i-1]'(by omega)) (by rw[e,bN];exact Za<|by omega)<|aC (λ_=>aA trivial) λ_=>aD j λ_ _=>aC (λ_=>aA trivial) λ_=>aA trivial
 have c:∀(k i:Nat),s.Features.length<=i+k->Sx (λn k=>pK lX n k (s,s.Features,ln s.Features) ((i:Int),(i:Int))):=by
  intro k;induction k with
  | zero=>exact λi h=>bL<|bA (λx d a=>by omega) λ_=>aA trivial
  | succ k l=>
   intro i h;refine bL<|bA (λx d a=>?_) λ_=>aA trivial;rw[bS<|by omega];refine aD (f:=λn _=>Bz n (s,(i:Int),x)) (Q:=λr=>r.1=((i+1:Nat):Int)) (aV ?_) λr o=>aC (λ_=>aA trivial) λ_=>by rw[o];exact l (i+1)<|by omega
   have e:=bS (i:=i) (by omega);have h:=b i x (Zg d) a;rw[<-e] at h |-;exact aD h λ_ _=>aC (λ_=>aA rfl) λ_=>aA rfl
 exact aV<|aP (f:=λn _=>Ca n (s,0,s.Features)) (Q:=λ_=>True) (R:=λ_=>True) (aV<|aP (aW<|c _ 0<|Xk ..) (λ_ _=>aA trivial) λ_ _=>aE rfl<|aA trivial) (λ_ _=>aC (λ_=>aA trivial) λ_=>aA trivial) λ_ _=>aE rfl<|aA trivial
theorem Ks{β γ:Type}{f:Nat->Nat->Option (β⊕γ)}{N:Nat->Nat->Option Int}{q:β->Bool}{c:Int}(h:Sx f)(k:Tt N): Tt λn m=>Av.bnd2 (f n m) (λv=>Av.cnd (q v) (some c)<|N n m) λw=>Av.bnd (some w) λ_=>N n m:=
 aP h (λ_ _=>aC (λ_=>aA trivial) λ_=>k) λ_ _=>aE rfl k
theorem aWJ(l:List aG)(m:l.length<=1000): aB (λn _=>Bx n l) (Su (λv=>v.2=true) λ_=>∀f∈l,f.Parts.length<=64):=by
 have d:∀(k i:Nat),l.length<=i+k->Am l i (λf=>f.Parts.length<=64)->aB (λn k=>pK lW n k (l,ln l) (i:Int)) (Su (λv=>0<=v.2) λ_=>∀f∈l,f.Parts.length<=64):=by
  intro k;induction k with
  | zero=>exact λi h b=>bL<|bA (λx e c=>by omega) λa=>aA<|b.fin a
  | succ k g=>
   intro i h b;refine bL<|bA (λx e c=>?_) λa=>aA<|b.fin a;rw[bS<|by omega];refine aD (f:=λn _=>pS n x) (Q:=λr=>r=false->x.Parts.length<=64) (aV (aC (λ_=>aA<|by simp) λh=>aA λ_=>by have h:¬ln x.Parts > 64:=Zi h;unfold ln at h;omega)) λr j=>aC (λ_=>aA<|show (0:Int)<=(i:Int) by omega) λh=>g (i+1) (by omega)<|b.step e<|j h
 refine aV<|aP (f:=λn _=>Bw n l) (Q:=λv:aG×Int=>0<=v.2) (R:=λ_=>∀f∈l,f.Parts.length<=64) (aV<|aP (aW<|d _ 0 (Xk ..) .nil) (λv h=>aA<|show 0<=v.2 from h) λ_ h=>aE rfl<|aA<|by exact h) (λv o=>aC (λ_=>aA rfl) λh=>?_) λ_ h=>aE rfl<|aA (by exact h);have:=Zi h;omega
structure GW(s:aJ): Prop where
 v:tV s.Plan
 n:s.Features.length<=128
 f:∀f∈s.Features,f.Parts.length<=64
theorem tV.sm{p:aM}(h:tV p): Sm p:=⟨by have:=h.leN;omega,by have:=h.leA;omega,by have:=h.leF;omega,λa b=>by have:=h.leV a b;omega⟩
theorem GW.ok{s:aJ}(h:GW s): wR s:=⟨h.v.sm,by have:=h.n;omega,λf a=>by have:=h.f f a;omega⟩
theorem RB(o:Si)(s:aJ)(a:wR s): aB (λn _=>fI n s) λr=>r=0->GW s:=by
 let⟨v,_,e,_,j⟩:=SM o s.Plan a.p;refine aU (λ_=>rfl)<|aD j λr m=>aC (λb=>aA λh=>by rw[show r=0 from h] at b;simp at b) λb=>aC (λ_=>aA<|by simp) λd=>aD (f:=λn _=>Gp n s) (Q:=λ_=>True) (aV<|aA trivial) λ_ _=>aD (f:=λn _=>Gn n ()) (Q:=λ_=>True) (aV<|aA trivial) λc _=>O0 ?_;have l:r=0:=by simpa using b
 have i:=(e<|by rw[<-m];exact l).1;have g:s.Features.length<=128:=by have h:¬ln s.Features > 128:=Zi d;unfold ln at h;omega
 refine aP (aWJ _ a.n) (λv e=>aC (λ_=>aA<|by simp) λh=>by rw[show v.2=true from e] at h;cases h) λ_ k=>aE rfl<|aB.imp (P:=λ_=>True) ?_ λ_ _ _=>⟨i,g,k⟩;exact Ks (aWK s a)<|Ks (aWL _ a.n)<|Ks (aWM _ a.n)<|Ks (aWN _ a.n)<|Ks (aWO _ a.n)<|Ks (fI9 s a)<|Ks (fI3 _ a.n a.f c)<|aA trivial
theorem aBP(l:List Int)(d:l.length<=1000)(i:Nat): aB (λn m=>pK uS n m (l,ln l) (i:Int))<|Su (λv=>(l.drop i).find? (· != 0)=some v) λ_=>(l.drop i).find? (· != 0)=none:=
 bL<|bA (λx b c=>by
  rw[bS<|by omega];refine aC (λh=>aA<|aGt b h) λh=>?_;have e:=aGu (q:=(· != (0:Int))) b h;rw[e];exact aBP l d<|i+1) λa=>aA<|aGv a
termination_by l.length-i
def orV(c d:Int): Int:=([c,d].find? (· != 0)).getD 0
theorem aW4(c d:Int): aB (λn _=>Ad n [c,d]) λr=>r=orV c d:=
 aU (λ_=>rfl)<|aP (aW<|aBP [c,d] (by simp) 0) (λv h=>aA<|by unfold orV;rw[show[c,d].find? (· != 0)=some v from h];rfl) λ_ h=>aE rfl<|aA<|by unfold orV;rw[show[c,d].find? (· != 0)=none from h];rfl
def ML(x:Int): Int:=nE x<|wr<|0-x
def aJv(c d:Int): Int:=orV (AU (ML c)<|ML d)<|AU d c
theorem G0(c d:Int): aJv c d<0↔ML c<ML d\/(ML c=ML d/\d<c):=by
 unfold aJv orV AU;by_cases e:ML c<ML d
 .simp[e]
 .by_cases g:ML c > ML d
  .have:¬ML c=ML d:=by omega
   simp[e,g,this]
  .have:ML c=ML d:=by omega
   by_cases b:d<c
   .simp[this,b]
   .by_cases f:d > c
    .simp[this,b,f]
    .simp[this,b,f]
theorem aPh(c d:Int): aB (λn _=>mY n c d) λr=>r=aJv c d:=
 aU (λ_=>rfl)<|aD (fL _ _) λx e=>aD (fL _ _) λy a=>aD (aW4 x y) λz b=>aA<|by subst e a b;rfl
theorem F5(l:List Int)(a:l.length<=800000)(i:Nat)(s:Int): Tt λn m=>qF uF n m (l,ln l) (s,(i:Int)):=
 bZ<|bA (λx d b=>by
  rw[bS<|by omega];refine aD (Q:=λ_=>True) ?_ λ_ _=>aC (λ_=>F5 l a (i+1) _) λ_=>F5 l a (i+1) _;exact aC (λ_=>aA trivial) λ_=>aC (λ_=>aC (λ_=>aA trivial) λ_=>aA trivial) λ_=>aA trivial) λc=>aA trivial
termination_by l.length-i
theorem aUv(l:List Int)(a:l.length<=800000)(e:l≠[]): Tt λn _=>mX n l:=by
 obtain⟨d,t,rfl⟩:∃d t,l=d::t:=by
  cases l with
  | nil=>exact absurd rfl e
  | cons d t=>exact⟨d,t,rfl⟩
 exact aU (g:=λn=>bnd (idx (d::t) 0) λb=>bnd (BB n (d::t,ln (d::t)) (b,0)) λc=>some c) (λ_=>rfl)<|aE (x:=d) rfl<|aD (aW<|F5 _ a 0 d) λ_ _=>aA trivial
open Classical in
noncomputable def aJu(l:List Int): Int:=if h:∃k,aB (λn _=>mX n l) (λr=>r=k) then h.choose else 0
theorem aLP(l:List Int)(b:l.length<=800000)(a:l≠[]): aB (λn _=>mX n l) λr=>r=aJu l:=by
 have h:∃k,aB (λn _=>mX n l) λr=>r=k:=by
  let⟨k,_,h⟩:=(aUv l b a).val;exact⟨k,h⟩
 unfold aJu;rw[WA h];exact h.choose_spec
theorem aVi(x y:dO)(d:x.outer.length<=800000/\x.outer≠[])(c:y.outer.length<=800000/\y.outer≠[]): aB (λn _=>mP n x y) λr=>r=aJv (aJu x.outer) (aJu y.outer):=
 aU (λ_=>rfl)<|aD (aLP _ d.1 d.2) λa g=>aD (aLP _ c.1 c.2) λb e=>aD (aPh a b) λr f=>aA<|by rw[f,g,e]
theorem aT4{α:Type}(k:α->Int)(l:List α): Swo (λx y=>aJv (k x)<|k y) l where
 ir x _:=by rw[G0];omega
 tr x _ y _ z _:=by simp only[G0];omega
 ti x _ y _ z _:=by simp only[G0];omega
def MI(a:aO): aO:=⟨a.ID,a.From,a.To,a.Via,0,0⟩
theorem aBf(f:List Int)(b:List Aab)(l:List aO)(o:l.length<=300)(j:∀a∈l,a.Via.length<=300)(i:Nat)(h:List aO)(d:h=(l.take i).map MI): aB (λn m=>qF kW n m (f,b,l,ln l) (h,(i:Int))) λr=>r=l.map MI:=
 bZ<|bA (λx g k=>aD (aEV x.Via<|by have:=j x<|Zg g;omega) λv e=>aE (BU<|by rw[d];simp;omega)<|by
  rw[bS<|by omega];refine aBf f b l o j (i+1) _ ?_;rw[d,e,YR,g];simp[MI])
  (λc=>aA<|show h=_ by rw[d,ZS c])
termination_by l.length-i
theorem aVk(a:Int)(l:List Int)(c:l.length<=800000)(i:Nat)(m:List<|Int×Int): Tt λn k=>qF oY n k (a,l,ln l) (m,(i:Int)):=
 bZ<|bA (λx e b=>by
  rw[bS<|by omega];exact aVk a l c (i+1) _) λd=>aA trivial
termination_by l.length-i
theorem aVl(a:Int)(l:List<|List Int)(f:l.length<=800000)(b:∀c∈l,c.length<=800000)(i:Nat)(m:List<|Int×Int): Tt λn k=>qF oZ n k (a,l,ln l) (m,(i:Int)):=
 bZ<|bA (λx e d=>by
  rw[bS<|by omega];exact aD (aW<|aVk a x (b x<|Zg e) 0 m) λ_ _=>aVl a l f b (i+1) _) λg=>aA trivial
termination_by l.length-i
def aGR(l:List Int)(k:Nat): Prop:=l=(List.range k).map λj=>((j+1:Nat):Int)
theorem aVm(b:List aO)(c d:List Aab)(e:List dO)(w:Nat×Nat)(v:w.1+w.2<=e.length)(u:w.2<=1000)(o:∀a∈e,a.outer.length<=800000/\a.inner.length<=200000/\∀c∈a.inner,c.length<=800000)(i:Nat)(y:i<=w.2)(l:List Int)(f:aGR l i)(m:List<|Int×Int):
 aB (λn k=>qF pA n k (b,c,d,e,w,((w.2:Nat):Int)) (l,m,(i:Int))) λr=>aGR r.1 w.2:=by
 refine bZ<|aC (λh=>?_) λh=>aA ?_
 .have h:(i:Int)<((w.2:Nat):Int):=Zh h;have h:i<w.2:=by omega
  have x:idx (win e<|some w) (i:Int)=some (e[w.1+i]'(by omega)):=by
   rw[bN];simp only[win];rw[XN h,Zw,Za<|by omega]
  have e2:idx e ((i:Int)+((w.1:Nat):Int))=some (e[w.1+i]'(by omega)):=by
   rw[show (i:Int)+((w.1:Nat):Int)=((w.1+i:Nat):Int) by omega,bN,Za<|by omega]
  have j:=o _<|ZQ (show w.1+i<e.length by omega);have q:l.length=i:=by rw[f];simp
  rw[bS<|by omega];refine aE x<|aE e2<|aE (BU<|by omega)<|aD (aM6 _ j.2.1) λs p=>aD (aW<|aVl _ s (by rw[p];simp;omega) (by
   rw[p];intro c g;rcases ZJ.1 g with rfl | g
   .exact j.1
   .exact j.2.2 c g) 0 m) λt _=>aVm b c d e w v u o (i+1) (by omega) _ (by unfold aGR at f |-;rw[List.range_succ,YJ,<-f];rfl) t
 .have h:¬(i:Int)<((w.2:Nat):Int):=Zi h;have:i=w.2:=by omega
  exact this▸f
termination_by w.2-i
def mO(l:List aO)(k:Nat): Prop:=l.length=k/\∀a∈l,a.Via.length<=300
theorem gZ{α:Type}{l:List α}{i k:Nat}(h:i<k): eK l k (i:Int)=l[i]?:=by
 unfold eK;rw[Zu ⟨by omega,by simpa using h⟩];simp
theorem mO.set{l:List aO}{k i:Nat}{a b:aO}(h:mO l k)(e:l[i]?=some a)(d:b.Via=a.Via): mO (l.set i b) k:=⟨by rw[Yr];exact h.1,λx c=>by
 rcases YL c with c | rfl
 .exact h.2 x c
 .rw[d];exact h.2 a<|Zg e⟩
theorem aVj(f:List Int)(b c:List Aab)(d:List<|Int×Int)(k:Nat)(o:k<=300)(i:Nat)(l:List aO)(g:mO l k): aB (λn m=>qF oX n m (f,b,c,d,(k:Int)) (l,(i:Int))) λr=>mO r k:=by
 refine bZ<|aC (λh=>?_) λh=>aA g;have h:(i:Int)<(k:Int):=Zh h;have e:i<l.length:=by rw[g.1];omega
 have j:eK l l.length (i:Int)=some l[i]:=by rw[gZ e];exact Za e
 have e2:idx l (i:Int)=some l[i]:=by rw[bN];exact Za e
 rw[bS<|by omega];have A:=g.set (b:=⟨l[i].ID,l[i].From,l[i].To,l[i].Via,Option.getD (cE d l[i].ID) 0,l[i].Right⟩) (Za e) rfl;generalize t:l.set i ⟨l[i].ID,l[i].From,l[i].To,l[i].Via,Option.getD (cE d l[i].ID) 0,l[i].Right⟩=q at A;have a:i<q.length:=by rw[A.1];omega
 have s:eK q q.length (i:Int)=some q[i]:=by rw[gZ a];exact Za a
 have p:idx q (i:Int)=some q[i]:=by rw[bN];exact Za a
 refine aE j<|aE e2<|aE j<|aE e2 ?_;simp only[YA];rw[t];refine aE s<|aE p<|aVj f b c d k o (i+1) _ ?_;exact A.set (Za a) rfl
termination_by k-i
theorem aP4(U:Si)(p:aM)(w:Sm p): aB (λn _=>Jo n p) λr=>Sm r.1/\(r.2=0->r.1.Arcs.length=p.Arcs.length/\aGR r.1.Faces r.1.Faces.length):=by
 have L:=w.n;have B:=w.a;have z:Sm ⟨p.Nodes,p.Arcs.map MI,[]⟩:=⟨L,by simp;omega,by simp,λa e=>by
  obtain⟨x,t,rfl⟩:=Yj.1 e;exact w.v x t⟩
 have N:Sm ⟨[],[],[]⟩:=⟨by simp,by simp,by simp,by simp⟩;refine aU (λ_=>rfl)<|aD (f:=λn _=>Li n p) (Q:=λr=>r=(p.Arcs.map MI,[],p.Nodes,p.Nodes)) (aV<|aD (aEV p.Nodes<|by omega) λc I=>aD (aW<|aBf [] c p.Arcs B w.v 0 [] rfl) λd V=>aA<|by rw[I,V]) λb G=>?_;subst G;refine aD (aFy _ z) λc I=>aC (λb=>aA ⟨N,λh=>by rw[show c.2=0 from h] at b;simp at b⟩) λb=>?_;let⟨K,H⟩:=I (by simpa using b);refine aD (aA2 _ z K) λm S=>aD (U _ c.1 m z K H S) λf k=>?_;have X:=k.l1;have W:=k.l2;refine aE (x:=(1,f.length-1)) (by unfold sub;rw[Zu ⟨by omega,by unfold ln;omega,by unfold ln;simp⟩];simp[ln])<|aC (λ_=>aA ⟨N,λh=>by cases h⟩) λu=>?_;have u:¬((f.length-1:Nat):Int) > 64:=Zi u;have J:win f (some (1,f.length-1))=f.drop 1:=by simp only[win];rw[ZS<|by simp]
 have i:∀x∈win f (some (1,f.length-1)),x∈f/\x.outer≠[]:=by
  rw[J];intro x t;let⟨j,D⟩:=Yd.1 t;rw[Zw] at D;exact⟨Zg D,k.ne (1+j) x (by omega) D⟩
 refine aV<|aE (Ec<|Yk ⟨by omega,by show 1+(f.length-1)<=_;omega⟩)<|aD (j6 (F:=λn x y=>bnd (mP n x y) λl=>some l) (g:=λx y=>aJv (aJu x.outer)<|aJu y.outer) (λx t y R=>aD (aVi x y ⟨k.ou x (i x t).1,(i x t).2⟩ ⟨k.ou y (i y R).1,(i y R).2⟩) λ_ h=>aA h)<|aT4 _ _) λq M=>?_;have T:q.length=f.length-1:=by rw[M.1,J];simp
 have s:∀a∈aR f 1 q,a∈f:=by
  intro a e;unfold aR at e;rcases ZC.1 e with e | e
  .exact Z1 e
  rcases ZC.1 e with e | e
  .exact (i a<|M.2 a e).1
  .exact ZX e
 have C:(aR f 1 q).length=f.length:=by unfold aR;simp;omega
 refine aD (GV (f:=λn=>Lh n (p.Arcs.map MI,p.Nodes,p.Nodes,aR f 1 q,(1,f.length-1),((f.length-1:Nat):Int)) ([],[],0))<|aW<|aVm _ _ _ _ (1,f.length-1) (by rw[C];show 1+(f.length-1)<=_;omega) (by show f.length-1<=_;omega) (λa e=>⟨k.ou a<|s a e,(k.inn a<|s a e).1,(k.inn a<|s a e).2⟩) 0 (by omega) [] rfl []) λo O=>aD (GV (f:=λn=>Lg n (o.1,p.Nodes,p.Nodes,o.2,((p.Arcs.map MI).length:Int)) (p.Arcs.map MI,0))<|aW<|aVj _ _ _ _ (p.Arcs.map MI).length (by simp;omega) 0 _ ⟨rfl,z.v⟩) λr A=>aA ?_;have E:o.1.length=f.length-1:=by rw[O];simp
 refine⟨⟨L,by show r.length<=_;rw[A.1];simp;omega,by show o.1.length<=_;omega,A.2⟩,λ_=>⟨by show r.length=_;rw[A.1];simp,by show aGR o.1 o.1.length;rw[E];exact O⟩⟩
theorem NV{α:Type}{l:List α}(z:α)(h:l.length<=900000): rep z (ln l) (ln l)=some (List.replicate l.length z):=by
 unfold rep ln;rw[Zu ⟨by omega,by omega,by omega⟩];simp
theorem K8{α:Type}(l:List α)(z:α): cpy (List.replicate l.length z) (0,(List.replicate l.length z).length) l=some l:=by
 unfold cpy aR;rw[Zu ⟨by simp,by simp⟩];simp
theorem aUo(l:List Aab)(h:l.length<=900000): aB (λn _=>pW n l) λr=>r=l:=
 aU (λ_=>rfl)<|aE (NV _ h)<|aE (K8 l _)<|aE rfl<|aA rfl
theorem aRF(l:List aO)(h:l.length<=900000): aB (λn _=>mN n l) λr=>r=l:=
 aU (λ_=>rfl)<|aE (NV _ h)<|aE (K8 l _)<|aE rfl<|aA rfl
theorem aLM(l:List Int)(h:l.length<=900000): aB (λn _=>gP n l) λr=>r=l:=
 aU (λ_=>rfl)<|aE (NV _ h)<|aE (K8 l _)<|aA rfl
theorem aUp(l:List aG)(h:l.length<=900000): aB (λn _=>jU n l) λr=>r=l:=
 aU (λ_=>rfl)<|aE (NV _ h)<|aE (K8 l _)<|aE rfl<|aA rfl
theorem aRE(l:List Aaa)(h:l.length<=900000): aB (λn _=>iU n l) λr=>r=l:=
 aU (λ_=>rfl)<|aE (NV _ h)<|aE (K8 l _)<|aA rfl
theorem aMh(a:List Int)(b:List Aab)(c:List aG)(l:List aO)(j:l.length<=300)(g:∀x∈l,x.Via.length<=300)(i:Nat): aB (λn m=>qF mT n m (a,b,c,ln l) (l,(i:Int))) λr=>r=l:=by
 refine bZ<|aC (λh=>?_) λ_=>aA rfl;have h:(i:Int)<ln l:=Zh h;have d:i<l.length:=by unfold ln at h;omega
 have f:eK l l.length (i:Int)=some l[i]:=by rw[gZ d];exact Za d
 have e2:idx l (i:Int)=some l[i]:=by rw[bN];exact Za d
 rw[bS<|by omega];refine aE f<|aE e2<|aD (aRE l[i].Via<|by have:=g l[i]<|ZQ d;omega) λv e=>aE f<|aE e2 ?_;subst e;simp only[YA];rw[show l.set i ⟨l[i].ID,l[i].From,l[i].To,l[i].Via,l[i].Left,l[i].Right⟩=l from WH d];exact aMh a b c l j g<|i+1
termination_by l.length-i
theorem aMg(a:List Int)(b:List Aab)(c:List aO)(l:List aG)(j:l.length<=1000)(g:∀x∈l,x.Parts.length<=1000)(i:Nat): aB (λn m=>qF mS n m (a,b,c,ln l) (l,(i:Int))) λr=>r=l:=by
 refine bZ<|aC (λh=>?_) λ_=>aA rfl;have h:(i:Int)<ln l:=Zh h;have d:i<l.length:=by unfold ln at h;omega
 have f:eK l l.length (i:Int)=some l[i]:=by rw[gZ d];exact Za d
 have e2:idx l (i:Int)=some l[i]:=by rw[bN];exact Za d
 rw[bS<|by omega];refine aE f<|aE e2<|aD (aLM l[i].Parts<|by have:=g l[i]<|ZQ d;omega) λv e=>aE f<|aE e2 ?_;subst e;simp only[YA];rw[show l.set i ⟨l[i].ID,l[i].Kind,l[i].Class,l[i].Name,l[i].Parts⟩=l from WH d];exact aMg a b c l j g<|i+1
termination_by l.length-i
theorem aOJ(s:aJ)(m:wR s): aB (λn _=>GQ n s) λr=>r=s:=by
 let⟨⟨v,o,u,q⟩,p,t⟩:=m;refine aU (λ_=>rfl)<|aD (aUo _<|by omega) λb i=>aD (aRF _<|by omega) λc l=>aD (aLM _<|by omega) λd j=>aD (aUp _<|by omega) λf e=>?_;subst i l j e;exact aD (aW<|aMh _ _ _ _ o q 0) λg k=>aD (aW<|aMg _ _ _ _ p t 0) λh a=>aA<|by rw[k,a]
theorem aUc(s:aJ)(m:wR s): aB (λn _=>Ma n s) λr=>r=(s.Plan.Faces,s.Plan.Nodes,s.Plan.Arcs,s.Features,s.Plan.Faces):=by
 let⟨⟨v,o,u,q⟩,p,t⟩:=m;refine aV<|aD (aUo _<|by omega) λb i=>aD (aRF _<|by omega) λc l=>aD (aLM _<|by omega) λd j=>aD (aUp _<|by omega) λf e=>?_;subst i l j e;exact aD (aW<|aMh _ _ _ _ o q 0) λg k=>aD (aW<|aMg _ _ _ _ p t 0) λh a=>aA<|by rw[k,a]
instance aYP{x:Int}: TC (λn=>Mc n x):=⟨by repeat' first|apply dU|apply aC|apply bH|intro⟩
instance aYQ{x:aZ}: TC (λn=>Md n x):=⟨by repeat' first|apply dU|apply aC|apply bH|intro⟩
instance aYO{x:aZ}: TC (λn=>Mb n x):=⟨by repeat' first|apply dU|apply aC|apply bH|intro⟩
instance aXJ{x:aZ}: TC (λn=>Ke n x):=⟨aU (λ_=>rfl) (by repeat' first|apply dU|apply aC|apply bH|intro)⟩
instance aZo{b:aJW}{x:Aaa}: TC (λn=>H9 n (b,x)):=⟨by repeat' first|apply dU|apply aC|apply bH|intro⟩
instance aZn{b:aJW}{x:Aaa}: TC (λn=>aCx n b x):=⟨aU (λ_=>rfl) (by repeat' first|apply dU|apply aC|apply bH|intro)⟩
instance aY6{x:Int}: TC (λn=>eF n x):=⟨aV (by repeat' first|apply dU|apply aC|apply bH|intro)⟩
instance aY5{x:Aaa}: TC (λn=>hM n x):=⟨aV (by repeat' first|apply dU|apply aC|apply bH|intro)⟩
instance aX8{x:Int}: TC (λn=>Lw n x):=⟨aV (by repeat' first|apply dU|apply aC|apply bH|intro)⟩
instance aX7{x:Int}: TC (λn=>Lv n x):=⟨by repeat' first|apply dU|apply aC|apply bH|intro⟩
instance aX6{x:aZ}: TC (λn=>Lu n x):=⟨by repeat' first|apply dU|apply aC|apply bH|intro⟩
theorem aTN(l:List Aaa)(b:l.length<=1000)(i:Nat): Sx λn m=>pK sE n m (l,ln l) (i:Int):=
 bL<|bA (λx d a=>by
  rw[bS<|by omega];exact bH λ_=>aC (λ_=>aA trivial) λ_=>aTN l b<|i+1) λc=>aA trivial
termination_by l.length-i
theorem aWy(l:List Aaa)(a:l.length<=1000): Tt λn _=>hK n l:=
 aV<|aD (f:=λn _=>Qz n l) (Q:=λ_=>True) (aV<|aP (aW<|aTN l a 0) (λ_ _=>aA trivial) λ_ _=>aE rfl<|aA trivial) λ_ _=>aC (λ_=>aA trivial) λ_=>aA trivial
theorem aTM(l:List Int)(b:l.length<=1000)(i:Nat): Sx λn m=>pK sD n m (l,ln l) (i:Int):=
 bL<|bA (λx d a=>by
  rw[bS<|by omega];exact bH λ_=>aC (λ_=>aA trivial) λ_=>aTM l b<|i+1) λc=>aA trivial
termination_by l.length-i
theorem aWx(l:List Int)(a:l.length<=1000): Tt λn _=>hJ n l:=
 aV<|aD (f:=λn _=>Qy n l) (Q:=λ_=>True) (aV<|aP (aW<|aTM l a 0) (λ_ _=>aA trivial) λ_ _=>aE rfl<|aA trivial) λ_ _=>aC (λ_=>aA trivial) λ_=>aA trivial
theorem aKV(e:aZ)(b:e.Via.length<=1000)(a:e.Parts.length<=1000): Tt λn _=>Ra n e:=by
 have c:TC λn=>hK n e.Via:=⟨aWy _ b⟩;have f:TC λn=>hJ n e.Parts:=⟨aWx _ a⟩;refine aU (λ_=>rfl) ?_;repeat' first|apply dU|apply aC|apply bH|intro
instance aZc{x:aZ}: TC (λn=>BR n x):=⟨by repeat' first|apply dU|apply aC|apply bH|intro⟩
instance aZb{x:aZ}: TC (λn=>BQ n x):=⟨by repeat' first|apply dU|apply aC|apply bH|intro⟩
instance aZa{x:aZ}: TC (λn=>BN n x):=⟨by repeat' first|apply dU|apply aC|apply bH|intro⟩
def aAl(e:aZ): Prop:=e.Via.length<=64/\e.Parts.length<=64
theorem aMw(e:aZ): aB (λn _=>Kg n e) λr=>r=0->aAl e:=by
 refine aU (λ_=>rfl)<|bH λ_=>aC (λ_=>aA<|by simp) λ_=>bH λ_=>aC (λ_=>aA<|by simp) λ_=>bH λ_=>aC (λ_=>aA<|by simp) λ_=>aD (f:=λn _=>BO n e) (Q:=λr=>r=false->aAl e) (aC (λ_=>aA<|by simp) λb=>aC (λ_=>aA<|by simp) λc=>aA λ_=>?_) λr d=>aC (λ_=>aA<|by simp) λh=>?_
 .have b:¬ln e.Via > 64:=Zi b;have c:¬ln e.Parts > 64:=Zi c;unfold ln at b c;exact⟨by omega,by omega⟩
 .have a:=d h;refine aD (aKV e (by have:=a.1;omega)<|by have:=a.2;omega) λ_ _=>aC (λ_=>aD (aQh e.Parts<|by have:=a.2;omega) λ_ _=>aC (λ_=>bH λ_=>aC (λ_=>aA<|by simp) λ_=>aA λ_=>a) λ_=>aA<|by simp) λ_=>aA<|by simp
def aXa(t:bD): Prop:=t.Edits.length<=64/\∀e∈t.Edits,aAl e
theorem aT3(l:List aZ)(f:l.length<=64)(i:Nat)(b:Am l i aAl): aB (λn m=>pK xH n m (l,ln l) (i:Int)) (Su (λv=>v.2≠0) λ_=>∀e∈l,aAl e):=
 bL<|bA (λx d c=>by
  rw[bS<|by omega];exact aD (aMw x) λr g=>aC (λh=>aA<|show r≠0 by simpa using h) λh=>aT3 l f (i+1)<|b.step d<|g<|by simpa using h) λa=>aA<|b.fin a
termination_by l.length-i
theorem aQJ(x:Int)(h:0<=x/\x<=1000000000): IntKind.u64.wrap x=x:=by
 have e:IntKind.u64.wrap x=x % 18446744073709551616:=by simp[IntKind.wrap,IntKind.bits,IntKind.signed]
 rw[e];omega
theorem aHT(f g:Nat)(h:f+g<=10000000): wr (Int.fdiv (IntKind.u64.wrap<|wr<|(f:Int)+(g:Int)) 2)=(((f+g) / 2:Nat):Int):=by
 have a:wr ((f:Int)+(g:Int))=((f+g:Nat):Int):=by rw[wr,i64_in _<|by omega];omega
 rw[a,aQJ _<|by omega,Int.fdiv_eq_ediv_of_nonneg _<|by omega,wr,i64_in _<|by omega];omega
theorem PX(l:List Aab)(b:Int)(a:l.length<=1000)(f g:Nat)(e:f<=g)(c:g<=l.length): aB (λn m=>qF sN n m (l,b) ((f:Int),(g:Int))) λr=>0<=r/\r.toNat<=l.length:=by
 refine bZ<|aC (λh=>?_) λ_=>aA ⟨by show (0:Int)<=(f:Int);omega,by show (f:Int).toNat<=_;omega⟩;have h:(f:Int)<(g:Int):=Zh h;have d:(f+g) / 2<l.length:=by omega
 rw[aHT f g<|by omega];refine aE (x:=l[(f+g) / 2]) (by rw[bN];exact Za d)<|aD (f:=λn _=>pV n (l[(f+g) / 2],b)) (Q:=λ_=>True) (aV<|aD (fL _ _) λ_ _=>aA trivial) λ_ _=>aC (λ_=>?_) λ_=>PX l b a f ((f+g) / 2) (by omega) (by omega);rw[bS<|by omega];exact PX l b a ((f+g) / 2+1) g (by omega) c
termination_by g-f
theorem JT(a:aJ)(b:Int)(g:a.Plan.Nodes.length<=1000): aB (λn _=>oG n a b) λr=>0<=r.1/\r.1.toNat<=a.Plan.Nodes.length/\(r.2=true->r.1.toNat<a.Plan.Nodes.length):=by
 refine aU (λ_=>rfl)<|aP (f:=λn _=>Rb n (a.Plan.Nodes,b)) (Q:=λv=>0<=v.2.1/\v.2.1.toNat<a.Plan.Nodes.length) (R:=λv=>0<=v/\v.toNat<=a.Plan.Nodes.length) (aV<|aD (aW<|PX _ b g 0 a.Plan.Nodes.length (by omega)<|Zf _) λf e=>aC (λh=>?_) λ_=>aA<|by exact e) (λv c=>aC (λ_=>aA ⟨c.1,by have:=c.2;show v.2.1.toNat<=_;omega,λ_=>c.2⟩) λ_=>aA ⟨c.1,by have:=c.2;show v.2.1.toNat<=_;omega,λh=>by cases h⟩) λv c=>aE rfl<|aA ⟨c.1,c.2,λh=>by cases h⟩;have h:f<ln a.Plan.Nodes:=Zh h;have d:f.toNat<a.Plan.Nodes.length:=by unfold ln at h;omega
 exact aE (uL e.1 d)<|aD (f:=λn _=>pV n (a.Plan.Nodes[f.toNat],b)) (Q:=λ_=>True) (aV<|aD (fL _ _) λ_ _=>aA trivial) λ_ _=>aC (λ_=>aA<|by exact⟨e.1,d⟩) λ_=>aA<|by exact⟨e.1,d⟩
theorem M7(l:List aO)(b:Int)(a:l.length<=1000)(f g:Nat)(e:f<=g)(c:g<=l.length): aB (λn m=>qF uR n m (l,b) ((f:Int),(g:Int))) λr=>0<=r/\r.toNat<=l.length:=by
 refine bZ<|aC (λh=>?_) λ_=>aA ⟨by show (0:Int)<=(f:Int);omega,by show (f:Int).toNat<=_;omega⟩;have h:(f:Int)<(g:Int):=Zh h;have d:(f+g) / 2<l.length:=by omega
 rw[aHT f g<|by omega];refine aE (x:=l[(f+g) / 2]) (by rw[bN];exact Za d)<|aD (f:=λn _=>sW n (l[(f+g) / 2],b)) (Q:=λ_=>True) (aV<|aD (fL _ _) λ_ _=>aA trivial) λ_ _=>aC (λ_=>?_) λ_=>M7 l b a f ((f+g) / 2) (by omega) (by omega);rw[bS<|by omega];exact M7 l b a ((f+g) / 2+1) g (by omega) c
termination_by g-f
theorem aCL(a:aJ)(b:Int)(g:a.Plan.Arcs.length<=1000): aB (λn _=>Ac n a b) λr=>0<=r.1/\r.1.toNat<=a.Plan.Arcs.length/\(r.2=true->r.1.toNat<a.Plan.Arcs.length):=by
 refine aU (λ_=>rfl)<|aP (f:=λn _=>BJ n (a.Plan.Arcs,b)) (Q:=λv=>0<=v.2.1/\v.2.1.toNat<a.Plan.Arcs.length) (R:=λv=>0<=v/\v.toNat<=a.Plan.Arcs.length) (aV<|aD (aW<|M7 _ b g 0 a.Plan.Arcs.length (by omega)<|Zf _) λf e=>aC (λh=>?_) λ_=>aA<|by exact e) (λv c=>aC (λ_=>aA ⟨c.1,by have:=c.2;show v.2.1.toNat<=_;omega,λ_=>c.2⟩) λ_=>aA ⟨c.1,by have:=c.2;show v.2.1.toNat<=_;omega,λh=>by cases h⟩) λv c=>aE rfl<|aA ⟨c.1,c.2,λh=>by cases h⟩;have h:f<ln a.Plan.Arcs:=Zh h;have d:f.toNat<a.Plan.Arcs.length:=by unfold ln at h;omega
 exact aE (uL e.1 d)<|aD (f:=λn _=>sW n (a.Plan.Arcs[f.toNat],b)) (Q:=λ_=>True) (aV<|aD (fL _ _) λ_ _=>aA trivial) λ_ _=>aC (λ_=>aA<|by exact⟨e.1,d⟩) λ_=>aA<|by exact⟨e.1,d⟩
theorem Kb(l:List aG)(b:Int)(a:l.length<=1000)(f g:Nat)(e:f<=g)(c:g<=l.length): aB (λn m=>qF mD n m (l,b) ((f:Int),(g:Int))) λr=>0<=r/\r.toNat<=l.length:=by
 refine bZ<|aC (λh=>?_) λ_=>aA ⟨by show (0:Int)<=(f:Int);omega,by show (f:Int).toNat<=_;omega⟩;have h:(f:Int)<(g:Int):=Zh h;have d:(f+g) / 2<l.length:=by omega
 rw[aHT f g<|by omega];refine aE (x:=l[(f+g) / 2]) (by rw[bN];exact Za d)<|aD (f:=λn _=>jV n (l[(f+g) / 2],b)) (Q:=λ_=>True) (aV<|aD (fL _ _) λ_ _=>aA trivial) λ_ _=>aC (λ_=>?_) λ_=>Kb l b a f ((f+g) / 2) (by omega) (by omega);rw[bS<|by omega];exact Kb l b a ((f+g) / 2+1) g (by omega) c
termination_by g-f
theorem aE9(a:aJ)(b:Int)(g:a.Features.length<=1000): aB (λn _=>Ab n a b) λr=>0<=r.1/\r.1.toNat<=a.Features.length/\(r.2=true->r.1.toNat<a.Features.length):=by
 refine aU (λ_=>rfl)<|aP (f:=λn _=>Df n (a.Features,b)) (Q:=λv=>0<=v.2.1/\v.2.1.toNat<a.Features.length) (R:=λv=>0<=v/\v.toNat<=a.Features.length) (aV<|aD (aW<|Kb _ b g 0 a.Features.length (by omega)<|Zf _) λf e=>aC (λh=>?_) λ_=>aA<|by exact e) (λv c=>aC (λ_=>aA ⟨c.1,by have:=c.2;show v.2.1.toNat<=_;omega,λ_=>c.2⟩) λ_=>aA ⟨c.1,by have:=c.2;show v.2.1.toNat<=_;omega,λh=>by cases h⟩) λv c=>aE rfl<|aA ⟨c.1,c.2,λh=>by cases h⟩;have h:f<ln a.Features:=Zh h;have d:f.toNat<a.Features.length:=by unfold ln at h;omega
 exact aE (uL e.1 d)<|aD (f:=λn _=>jV n (a.Features[f.toNat],b)) (Q:=λ_=>True) (aV<|aD (fL _ _) λ_ _=>aA trivial) λ_ _=>aC (λ_=>aA<|by exact⟨e.1,d⟩) λ_=>aA<|by exact⟨e.1,d⟩
theorem aBr(a b:Int)(l:List aG)(d:l.length<=1000)(c:∀f∈l,f.Parts.length<=1000)(i:Nat)(o:i<=l.length)(h:List Int)(k:h.length<=i): aB (λn m=>qF nI n m (a,b,l,ln l) (h,(i:Int))) λr=>r.length<=l.length:=
 bZ<|bA (λx e j=>by
  rw[bS<|by omega];refine aD (f:=λn _=>Gh n (x,a,b)) (Q:=λ_=>True) (bH λ_=>aC (λ_=>aD (Ap x.Parts b<|by have:=c x<|Zg e;omega) λ_ _=>aC (λ_=>aA trivial) λ_=>aA trivial) λ_=>aA trivial) λ_ _=>aC (λ_=>aE (BU<|by omega)<|aBr a b l d c (i+1) (by omega) _<|by simp;omega) λ_=>aBr a b l d c (i+1) (by omega) h<|by omega)
  (λg=>aA<|show h.length<=_ by omega)
termination_by l.length-i
theorem o9(s:aJ)(c:wR s)(a b:Int): aB (λn _=>jB n s a b) λr=>r.length<=1000:=
 aU (λ_=>rfl)<|aC (λ_=>aA<|by simp) λ_=>aC (λ_=>aA<|by simp) λ_=>aD (aW<|aBr a b s.Features c.n c.f 0 (by omega) []<|by simp) λr d=>aA<|by have:=c.n;omega
theorem aIp(a b:List Int)(h:a.length=b.length)(d:a.length<=100000)(i:Nat): Sx λn m=>pK fX n m (a,b,ln a) (i:Int):=
 bL<|bA (λx f c=>by
  rw[bS<|by omega];exact aE (x:=b[i]'(by omega)) (by rw[bN];exact Za<|by omega)<|aC (λ_=>aA trivial) λ_=>aIp a b h d<|i+1) λe=>aA trivial
termination_by a.length-i
theorem aCh{α:Type}{a b:List α}(h:(ln a != ln b)=false): a.length=b.length:=by
 have h:ln a=ln b:=by simpa using h
 unfold ln at h;omega
theorem aP8(a b:List Int)(c:a.length<=100000): Tt λn _=>eL n a b:=
 aU (λ_=>rfl)<|aC (λ_=>aA trivial) λh=>aP (aW<|aIp a b (aCh h) c 0) (λ_ _=>aA trivial) λ_ _=>aE rfl<|aA trivial
theorem aI8(c:List<|List Int)(g:c.length<=1000)(i a:Nat)(f:a+(c.drop i).flatten.length<=900000): aB (λn m=>qF iH n m (c,ln c) ((a:Int),(i:Int))) λr=>r=((a+(c.drop i).flatten.length:Nat):Int):=
 bZ<|bA (λx k o=>by
  have e:=wZ k;rw[e,Zj] at f;have l:wr ((a:Int)+ln x)=((a+x.length:Nat):Int):=by rw[wr,ln,i64_in _<|by omega];push_cast;rfl
  rw[l,bS<|by omega];refine aC (λh=>?_) λ_=>?_
  .have:=Zh h;omega
  .refine (aI8 c g (i+1) (a+x.length)<|by omega).imp λr j=>?_;rw[j,e,Zj,Yu])
  (λd=>aA<|by rw[Y8 d];rfl)
termination_by c.length-i
theorem aI7(a:List<|List Int)(d:a.length<=1000)(i:Nat)(b:(a.drop i).flatten.length=0): Tt λn m=>qF iG n m (a,ln a) (i:Int):=
 bZ<|bA (λx c g=>by
  have e:=wZ c;rw[e,Zj] at b;rw[bS<|by omega];refine aC (λh=>aI7 a d (i+1)<|by omega) λh=>?_;have:x=[]:=ZO.1 (by omega);rw[this] at h;cases h)
  (λf=>aA trivial)
termination_by a.length-i
theorem aI6(a:List<|List Int)(h:a.length<=1000)(N:Nat)(f:N<=400000)(i:Nat)(l:List Int)(k:Nat)(d:l.length=N)(c:k+(a.drop i).flatten.length=N): aB (λn m=>qF iF n m (a,ln a) (l,(0,k),(i:Int))) λr=>r.2=(0,r.1.length)/\r.1.length=N:=
 bZ<|bA (λx g j=>by
  have e:=wZ g;rw[e,Zj] at c;rw[bS<|by omega];exact aE (x:=aR l k x) (by unfold g9;rw[Zu<|by simp only[Z0];omega,Z0])<|aI6 a h N f (i+1) _ (k+x.length) (by simp[aR];omega)<|by omega)
  (λb=>aA<|by
   rw[Y8 b,Xg,Z2,Xp] at c;exact⟨by show ((0:Nat),k)=(0,l.length);rw[c,d],d⟩)
termination_by a.length-i
theorem aSw(a:List<|List Int)(c:a.length<=1000)(d:a.flatten.length<=400000): aB (λn _=>oR n a) λr=>r.length=a.flatten.length:=by
 refine aU (λ_=>rfl)<|aD (aW<|aI8 a c 0 0<|by rw[YD];omega) λv e=>?_;have f:v=((a.flatten.length:Nat):Int):=by rw[e];simp
 have e2:wr (v-0)=((a.flatten.length:Nat):Int):=by rw[f,wr,i64_in _<|by omega];omega
 refine aP (Q:=λ_=>a.flatten.length=0) (R:=λr=>r=(List.replicate a.flatten.length 0,(0,0))) (aV<|aC (λh=>by have:=Zh h;omega) λ_=>aC (λ_=>?_) λh=>by rw[e2] at h;have:=Zi h;exact aA<|show a.flatten.length=0 by omega) (λ_ h=>?_) λr b=>?_
 .refine aE (x:=List.replicate a.flatten.length 0) (by rw[e2];unfold rep;rw[Zu<|by omega];simp)<|aC (λh=>?_) λ_=>aE (x:=(0,0)) (by unfold sub;rw[Zu<|by simp];rfl)<|aA rfl;rw[Vd] at h;have:=congrArg List.length h;rw[Yo,Z2] at this;exact aA this
 .exact aD (aW<|aI7 a c 0<|by simpa using h) λ_ _=>aE rfl<|aA h.symm
 .subst b;refine aE rfl<|aD (aW<|aI6 a c a.flatten.length d 0 _ 0 (by simp)<|by simp) λr b=>aE (Ec<|Yk b.1)<|aA ?_;rw[b.1,<-b.2];simp[win]
theorem L0(s c N:Nat)(f:s+c=N)(e:N<=400000)(g:Nat)(u:1<=g)(v:g<=c)(d:List Int)(a:d.length=N)(q:Nat)(t:q+1<=s+g): aB (λn m=>qF nF n m (s,c) (d,(q:Int),(g:Int))) λr=>r.1.length=N/\0<=r.2/\r.2.toNat<=N:=by
 refine bZ<|aC (λh=>?_) λ_=>aA ⟨a,by show (0:Int)<=(q:Int);omega,by show ((q:Int)).toNat<=N;omega⟩;have h:(g:Int)<((c:Nat):Int):=Zh h;have h:g<c:=by omega
 have l:wr ((g:Int)-1)=((g-1:Nat):Int):=by rw[wr,i64_in _<|by omega];omega
 have b:∀j,j<c->idx (win d<|some (s,c)) (j:Int)=d[s+j]?:=λj p=>by
  rw[bN];simp only[win];rw[XN p,Zw]
 have i:idx (win d<|some (s,c)) (g:Int)=some (d[s+g]'(by omega)):=by rw[b g h];exact Za<|by omega
 have e2:idx d ((g:Int)+((s:Nat):Int))=some (d[s+g]'(by omega)):=by
  rw[show (g:Int)+((s:Nat):Int)=((s+g:Nat):Int) by omega,bN];exact Za<|by omega
 have o:idx (win d<|some (s,c)) ((g-1:Nat):Int)=some (d[s+(g-1)]'(by omega)):=by rw[b (g-1)<|by omega];exact Za<|by omega
 have k:idx d (((g-1:Nat):Int)+((s:Nat):Int))=some (d[s+(g-1)]'(by omega)):=by
  rw[show ((g-1:Nat):Int)+((s:Nat):Int)=((s+(g-1):Nat):Int) by omega,bN];exact Za<|by omega
 rw[l,bS<|by omega,bS<|by omega];refine aE i<|aE e2<|aE o<|aE k<|aC (λ_=>?_) λ_=>L0 s c N f e (g+1) (by omega) (by omega) d a q (by omega);refine aE i<|aE e2<|aE (x:=d[q]'(by omega)) (by rw[gZ<|by omega];exact Za<|by omega)<|aE (x:=d[q]'(by omega)) (by rw[bN];exact Za<|by omega) ?_;exact L0 s c N f e (g+1) (by omega) (by omega) _ (by rw[Yr];exact a) (q+1)<|by omega
termination_by c-g
theorem aEQ(a:List Int)(c:a.length<=400000)(i:Nat)(l:1<=i): aB (λn m=>pK nG n m a (i:Int))<|Su (λv=>(win v.1<|some v.2).length<=a.length) λ_=>True:=by
 refine bL<|aC (λh=>?_) λ_=>aA trivial;have h:(i:Int)<ln a:=Zh h;have h:i<a.length:=by unfold ln at h;omega
 have g:wr ((i:Int)-1)=((i-1:Nat):Int):=by rw[wr,i64_in _<|by omega];omega
 rw[g,bS<|by omega];refine aE (x:=a[i]) (by rw[gZ h];exact Za h)<|aE (x:=a[i]) (by rw[bN];exact Za h)<|aE (x:=a[i-1]'(by omega)) (by rw[gZ<|by omega];exact Za<|by omega)<|aE (x:=a[i-1]'(by omega)) (by rw[bN];exact Za<|by omega)<|aC (λ_=>?_) λ_=>aEQ a c (i+1) (by omega);refine aE (x:=(i,a.length-i)) (by unfold sub;rw[Zu ⟨by omega,by unfold ln;omega,by unfold ln;simp⟩];simp[ln])<|aD (aW<|L0 i (a.length-i) a.length (by omega) c 1 (Zf _) (by omega) a rfl i<|by omega) λj k=>?_;let⟨e,p,o⟩:=k;let⟨q,d⟩:∃q:Nat,j.2=(q:Int):=⟨j.2.toNat,by omega⟩;have f:q<=a.length:=by omega
 refine aE (x:=(q,a.length-q)) (by rw[d];unfold sub;rw[Zu ⟨by omega,by unfold ln;omega,by unfold ln;simp⟩];simp[ln,e])<|aE (x:=aR j.1 q<|List.replicate (a.length-q) 0) (by unfold clr;rw[Zu<|by show q+(a.length-q)<=_;omega]) ?_;have b:(aR j.1 q<|List.replicate (a.length-q) 0).length=a.length:=by unfold aR;simp;omega
 refine aE (x:=(0,q)) (by rw[d];unfold sub;rw[Zu ⟨by omega,by omega,by simp[b];omega⟩];simp)<|aA ?_;show (List.take q<|List.drop 0 _).length<=_;simp;omega
termination_by a.length-i
theorem aRC{l b:List Int}{k:Nat}(h:l.length<=(tD b).length)(e:b.length=k): l.length<=k:=by rw[xJ] at h;omega
theorem aGB(a:List<|List Int)(e:a.length<=1000)(g:a.flatten.length<=400000): aB (λn _=>mM n a) λr=>r.length<=a.flatten.length:=by
 refine aU (λ_=>rfl)<|aD (aSw a e g) λb d=>aV<|aE (Ec<|Yk<|by omega)<|aP (GV (f:=λn=>Fz n<|tD b) (P:=Su (λ_=>True) λv=>(win v.1<|some v.2).length<=(tD b).length)<|aV<|aC (λ_=>aA trivial) λ_=>aP (aW<|aEQ (tD b) (by rw[xJ];omega) 1<|Zf _) (λv c=>aA<|by exact c) λ_ _=>aE rfl<|aA trivial) (λ_ _=>aA<|by rw[xJ];omega) λv c=>aE rfl<|aA<|aRC c d
theorem aCR(a b:List Int)(h:a.length+b.length<=400000): aB (λn _=>tQ n a b) λr=>r.length<=a.length+b.length:=
 aU (λ_=>rfl)<|aD (aGB [a,b] (by simp)<|by simpa using h) λc d=>aA<|by simpa using d
instance aXH{x:Int}: TC (λn=>fJ n x):=⟨aU (λ_=>rfl) (by repeat' first|apply dU|apply aC|apply bH|intro)⟩
instance aYJ{x y:Int}: TC (λn=>Mm n (x,y)):=⟨by repeat' first|apply dU|apply aC|apply bH|intro⟩
instance aWC{x y:Int}: TC (λn=>Ki n x y):=⟨aU (λ_=>rfl) (by repeat' first|apply dU|apply aC|apply bH|intro)⟩
instance aZg{x:Int}: TC (λn=>fN n x):=⟨aV (by repeat' first|apply dU|apply aC|apply bH|intro)⟩
theorem aCI(l:List Int)(b:Int)(a:l.length<=400000)(f g:Nat)(e:f<=g)(c:g<=l.length): aB (λn m=>qF fD n m (l,b) ((f:Int),(g:Int))) λr=>0<=r/\r.toNat<=l.length:=by
 refine bZ<|aC (λh=>?_) λ_=>aA ⟨by show (0:Int)<=(f:Int);omega,by show (f:Int).toNat<=_;omega⟩;have h:(f:Int)<(g:Int):=Zh h;have d:(f+g) / 2<l.length:=by omega
 rw[aHT f g<|by omega];refine aE (x:=l[(f+g) / 2]) (by rw[bN];exact Za d)<|bH λ_=>aC (λ_=>?_) λ_=>aCI l b a f ((f+g) / 2) (by omega) (by omega);rw[bS<|by omega];exact aCI l b a ((f+g) / 2+1) g (by omega) c
termination_by g-f
theorem aWX(l:List Int)(b:Int)(d:l.length<=400000): Tt λn _=>gU n l b:=by
 refine aU (λ_=>rfl)<|aD (aW<|aCI l b d 0 l.length (by omega)<|Zf _) λf c=>aC (λh=>?_) λ_=>aA trivial;have h:f<ln l:=Zh h;have a:f.toNat<l.length:=by unfold ln at h;omega
 have e:=uL c.1 a;refine aE e<|aC (λ_=>aA trivial) λ_=>aE e ?_;repeat' first|apply dU|apply aC|apply bH|intro
theorem aCc(c d:List Int)(a:c.length<=400000)(b:d.length<=400000)(i:Nat)(l:i<=d.length)(h:List Int)(j:h.length<=i): aB (λn m=>qF rU n m (c,d,ln d) (h,(i:Int))) λr=>r.length<=d.length:=
 bZ<|bA (λx k g=>by
  rw[bS<|by omega];refine aD (f:=λn _=>Po n (c,x)) (Q:=λ_=>True) (aV<|aD (aWX c x a) λ_ _=>aC (λ_=>aA trivial) λ_=>aA trivial) λ_ _=>aC (λ_=>aE (Rt<|by omega)<|aCc c d a b (i+1) (by omega) _<|by simp;omega) λ_=>aCc c d a b (i+1) (by omega) h<|by omega)
  (λe=>aA<|show h.length<=_ by omega)
termination_by d.length-i
theorem aP3(a b:List Int)(h:a.length<=400000)(i:b.length<=400000): aB (λn _=>Pq n a b) λr=>r.length<=a.length:=
 aU (λ_=>rfl)<|aD (aGB [b] (by simp)<|by simpa using i) λc j=>aD (f:=λn _=>Pp n (c,a)) (Q:=λr=>r.length<=a.length) (aV<|aD (aGB [a] (by simp)<|by simpa using h) λd g=>aD (aW<|aCc c d (by simp at j;omega) (by simp at g;omega) 0 (by omega) []<|by simp) λr e=>aA<|by simp at g;show r.length<=_;omega) λr e=>aA e
theorem aII(a b:Int)(l:List Int)(e:l.length<=10000): aB (λn _=>hP n (a,b,l)) λr=>r.length<=l.length+1:=
 aV<|aD (aBi l a<|by omega) λ_ _=>aC (λ_=>aD (aP3 l [a] (by omega)<|by simp) λg d=>aC (λ_=>aD (aCR g [b]<|by simp;omega) λh c=>aA<|by simp at c;show h.length<=_;omega) λ_=>aA<|by show g.length<=_;omega) λ_=>aA<|by show l.length<=_;omega
def aPA(r:dR): Prop:=r.Outer.length+r.Inner.flatten.length<=900000/\r.Inner.length<=200000
theorem aIz(a:List<|List Int)(c:a.length<=200000)(i:Nat)(h:List Int)(b:h.length+(a.drop i).flatten.length<=900000): aB (λn m=>qF uQ n m (a,ln a) (h,(i:Int))) λr=>r.length<=900000:=
 bZ<|bA (λx d g=>by
  have e:=wZ d;rw[e,Zj] at b;rw[bS<|by omega];exact aE (Ko<|by omega)<|aIz a c (i+1) _<|by rw[Zj];omega)
  (λf=>aA<|show h.length<=_ by omega)
termination_by a.length-i
theorem aIy(r:dR)(h:aPA r): aB (λn _=>Kf n r) λr=>r.length<=900000:=by
 let⟨a,b⟩:=h;refine aU (λ_=>rfl)<|aE (Ko (l:=([]:List Int)) (m:=r.Outer)<|by simp;omega)<|aD (aW<|aIz r.Inner b 0 _<|by simpa using a) λc d=>aA d
theorem aHa(p:aM)(a:Sm p)(b:Int)(c:List Int)(e:c.length<=900000)(i:Nat): Sx λn m=>pK sA n m (p,b,c,ln c) (i:Int):=
 bL<|bA (λx h d=>by
  rw[bS<|by omega];refine aD (f:=λn _=>Qw n (b,x)) (Q:=λ_=>True) (by repeat' first|apply dU|apply aC|apply bH|intro) λ_ _=>aC (λ_=>aD (O3 p a x) λ_ _=>aA trivial) λ_=>aHa p a b c e<|i+1) λg=>aA trivial
termination_by c.length-i
theorem aHb(p:aM)(d:Sm p)(b:Int)(c:List dR)(f:c.length<=1000)(a:∀r∈c,aPA r)(i:Nat): Sx λn m=>pK sC n m (p,b,c,ln c) (i:Int):=
 bL<|bA (λx g e=>by
  rw[bS<|by omega];exact aD (aIy x<|a x<|Zg g) λl h=>aP (aW<|aHa p d b l h 0) (λ_ _=>aA trivial) λ_ _=>aE rfl<|aHb p d b c f a<|i+1) λj=>aA trivial
termination_by c.length-i
theorem aKn(p:aM)(d:Sm p)(b:Int)(c:List dR)(a:c.length<=1000)(e:∀r∈c,aPA r): Tt λn _=>Qx n p b c:=
 aU (λ_=>rfl)<|aP (aW<|aHb p d b c a e 0) (λ_ _=>aA trivial) λ_ _=>aE rfl<|aA trivial
structure FeI(l:List aG)(N i:Nat): Prop where
 len:l.length=N
 lo:∀(j:Nat) (f:aG),l[j]?=some f->f.Parts.length<=65
 hi:∀(j:Nat) (f:aG),i<=j->l[j]?=some f->f.Parts.length<=64
theorem FeI.next{l:List aG}{N i:Nat}(h:FeI l N i): FeI l N<|i+1:=⟨h.len,h.lo,λj f a=>h.hi j f<|by omega⟩
theorem FeI.set{l:List aG}{N i:Nat}(h:FeI l N i){g:aG}(b:g.Parts.length<=65): FeI (l.set i g) N<|i+1:=by
 refine⟨by rw[Yr];exact h.len,λj f a=>?_,λj f c a=>?_⟩
 .rw[Z7] at a;split at a
  .split at a
   .cases a;exact b
   .cases a
  .exact h.lo j f a
 .rw[Zv<|by omega] at a;exact h.hi j f (by omega) a
theorem FeI.all{l:List aG}{N i:Nat}(h:FeI l N i): ∀f∈l,f.Parts.length<=65:=λf a=>by
 let⟨j,b⟩:=Yd.1 a;exact h.lo j f b
theorem FeI.at{l:List aG}{N i:Nat}(h:FeI l N i)(c:N<=1000)(b:(i:Int)<(N:Int)): ∃f,f.Parts.length<=64/\eK l l.length (i:Int)=some f/\idx l (i:Int)=some f:=by
 have a:i<l.length:=by rw[h.len];omega
 have e:=Za a;exact⟨l[i],h.hi i _ (Zf _) e,by rw[gZ a];exact e,by rw[bN];exact e⟩
theorem aFW(a b:List Int)(c:List Aab)(d f:List aO)(g h:Int)(N:Nat)(j:N<=1000)(i:Nat)(l:List aG)(e:FeI l N i): aB (λn m=>qF nV n m (a,b,c,d,f,g,h,(N:Int)) (l,(i:Int))) λr=>r.length=N/\∀f∈r,f.Parts.length<=65:=by
 refine bZ<|aC (λk=>?_) λ_=>aA ⟨e.len,e.all⟩;have k:(i:Int)<(N:Int):=Zh k;let⟨x,q,o,e2⟩:=e.at j k;rw[bS<|by omega];refine aE o<|aE e2<|aD (f:=λn _=>Hj n (x,g)) (Q:=λ_=>True) (bH λ_=>aC (λ_=>aD (aBi x.Parts g<|by omega) λ_ _=>aC (λ_=>aA trivial) λ_=>aA trivial) λ_=>aA trivial) λ_ _=>aC (λ_=>aD (aCR x.Parts [h]<|by simp;omega) λt p=>aE o<|aE e2 ?_) λ_=>aFW a b c d f g h N j (i+1) l e.next;simp only[YA];exact aFW a b c d f g h N j (i+1) _<|e.set<|by simp at p;show t.length<=65;omega
termination_by N-i
theorem aFU(a b:List Int)(c:List Aab)(d:List aO)(f g:Int)(N:Nat)(j:N<=1000)(i:Nat)(l:List aG)(e:FeI l N i): aB (λn m=>qF nT n m (a,b,c,d,f,g,(N:Int)) (l,(i:Int))) λr=>r.length=N/\∀f∈r,f.Parts.length<=65:=by
 refine bZ<|aC (λh=>?_) λ_=>aA ⟨e.len,e.all⟩;have h:(i:Int)<(N:Int):=Zh h;let⟨x,o,k,e2⟩:=e.at j h;rw[bS<|by omega];refine aE k<|aE e2<|bH λ_=>aC (λ_=>aD (aII f g x.Parts<|by omega) λt p=>aE k<|aE e2 ?_) λ_=>aFU a b c d f g N j (i+1) l e.next;simp only[YA];exact aFU a b c d f g N j (i+1) _<|e.set<|by show t.length<=65;omega
termination_by N-i
theorem aFS(w:Nat×Nat)(a b:List Int)(c:List Aab)(d:List aO)(f g:Int)(N:Nat)(h:N<=1000)(i:Nat)(l:List aG)(e:FeI l N i): aB (λn m=>qF nR n m (w,a,b,c,d,f,g,(N:Int)) (l,(i:Int))) λr=>r.length=N/\∀f∈r,f.Parts.length<=65:=by
 refine bZ<|aC (λj=>?_) λ_=>aA ⟨e.len,e.all⟩;have j:(i:Int)<(N:Int):=Zh j;let⟨x,p,k,e2⟩:=e.at h j;rw[bS<|by omega];refine aE k<|aE e2<|bH λ_=>aC (λ_=>aD (aII f g x.Parts<|by omega) λt o=>aE k<|aE e2 ?_) λ_=>aFS w a b c d f g N h (i+1) l e.next;simp only[YA];exact aFS w a b c d f g N h (i+1) _<|e.set<|by show t.length<=65;omega
termination_by N-i
theorem mO.at{l:List aO}{N i:Nat}(h:mO l N)(c:i<N): ∃a,l[i]?=some a/\eK l l.length (i:Int)=some a/\idx l (i:Int)=some a:=by
 have b:i<l.length:=by rw[h.1];omega
 have e:=Za b;exact⟨l[i],e,by rw[gZ b];exact e,by rw[bN];exact e⟩
theorem aFX(a:List Int)(b:List Aab)(c:List aG)(d:List Int)(f:Int)(g:List Int)(j:g.length<=900000)(N:Nat)(o:N<=300)(i:Nat)(l:List aO)(e:mO l N): aB (λn m=>qF nW n m (a,b,c,d,f,g,ln g) (l,(i:Int))) λr=>mO r N:=by
 refine bZ<|bA (λx w u=>?_) λ_=>aA e;rw[bS<|by omega];refine aD (aCL ⟨⟨b,l,a⟩,c⟩ _<|by show l.length<=_;rw[e.1];omega) λr t=>aC (λs=>?_) λ_=>aFX a b c d f g j N o (i+1) l e;let⟨y,_,h⟩:=t;have h:r.1.toNat<l.length:=h s;let⟨q,p⟩:∃q:Nat,r.1=(q:Int):=⟨r.1.toNat,by omega⟩;rw[p] at h |-;let⟨x,v,k,e2⟩:=e.at (i:=q) (by rw[<-e.1];simpa using h);refine aC (λ_=>aE k<|aE e2 ?_) λ_=>aE k<|aE e2 ?_;all_goals
  simp only[YA];exact aFX a b c d f g j N o (i+1) _<|e.set v rfl
termination_by g.length-i
theorem aFV(a b:List Int)(c:List Aab)(d:List aG)(f g:Int)(N:Nat)(o:N<=300)(i:Nat)(l:List aO)(e:mO l N): aB (λn m=>qF nU n m (a,b,c,d,f,g,(N:Int)) (l,(i:Int))) λr=>mO r N:=by
 refine bZ<|aC (λp=>?_) λ_=>aA e;have p:(i:Int)<(N:Int):=Zh p;have k:i<N:=by omega
 let⟨x,u,j,e2⟩:=e.at k;rw[bS<|by omega];refine aE j<|aE e2<|aD (f:=λn _=>Hh n (a,b,c,l,d,f,g,x,(i:Int))) (Q:=λr=>mO r N) (aC (λ_=>aE j<|aE e2<|aA ?_) λ_=>aA e) λr h=>?_
 .simp only[YA];exact e.set u rfl
 .let⟨y,t,s,q⟩:=h.at k;refine aC (λ_=>aE s<|aE q ?_) λ_=>aFV a b c d f g N o (i+1) r h;simp only[YA];exact aFV a b c d f g N o (i+1) _<|h.set t rfl
termination_by N-i
theorem aVt(a b:List Int)(c:List Aab)(d:List aO)(f:List aG)(g h:Int)(t:a.length<=1000)(q:mO d d.length)(e:d.length<=300)(p:FeI f f.length 0)(i:f.length<=1000): aB (λn _=>sM n (a,b,c,d,f,g,h)) λr=>r.1.length<=a.length+1/\mO r.2.1 d.length/\r.2.2.length=f.length/\∀x∈r.2.2,x.Parts.length<=65:=
 aV<|aD (aW<|aFV a b c f g h d.length e 0 d q) λj o=>aD (aII g h a<|by omega) λl s=>aD (aW<|aFU l b c j g h f.length i 0 f p) λm k=>aA ⟨s,o,k.1,k.2⟩
theorem aVu(a b:List Int)(c:List Aab)(d:List aO)(f:List aG)(g:List Int)(h:List aO)(i:List Int)(j l:Int)(w:a.length<=1000)(p:mO h h.length)(e:h.length<=300)(u:FeI f f.length 0)(k:f.length<=1000)(v:i.length<=900000): aB (λn _=>Hu n (a,b,c,d,f,g,h,i,j,l)) λr=>r.1.length<=a.length+1/\mO r.2.2 h.length/\r.2.1.length=f.length/\∀x∈r.2.1,x.Parts.length<=65:=
 aV<|aD (aW<|aFX a c f g l i v h.length e 0 h p) λo t=>aD (aCR a [l]<|by simp;omega) λr q=>aD (aW<|aFW r b c d o j l f.length k 0 f u) λs m=>aA ⟨by simpa using q,t,m.1,m.2⟩
section
variable {α:Type}(l:List α)(z:α)(hl:l.length<=1000)(j:Nat)(hj:j<l.length)
include hl hj
theorem aSj: sub l (0,l.length) 0 (j:Int)=some (0,j):=by
 unfold sub;rw[Zu ⟨by omega,by omega,by simp;omega⟩];simp
theorem aSi: sub l (0,l.length) ((j+1:Nat):Int) (ln l)=some (j+1,l.length-(j+1)):=by
 unfold sub ln;rw[Zu ⟨by omega,by omega,by simp⟩];simp
theorem aJC: (win l<|some (j+1,l.length-(j+1))).length=l.length-(j+1):=by simp[win]
def aG6: List α:=aR l j<|win l<|some (j+1,l.length-(j+1))
theorem aSh: g9 l (0,j) (win l<|some (j+1,l.length-(j+1)))=some (aG6 l j):=by
 unfold g9 aG6;rw[aJC l hl j hj,Zu ⟨by simp;omega,by omega⟩,Z0]
theorem K7: (aG6 l j).length=l.length:=by
 unfold aG6 aR;rw[Zj,Zj,ZU,ZM,aJC l hl j hj];omega
theorem aSg: sub (aG6 l j) (0,j+(win l<|some (j+1,l.length-(j+1))).length) (((0,j+(win l<|some (j+1,l.length-(j+1))).length).2:Nat):Int) (ln l)=some (l.length-1,1):=by
 rw[aJC l hl j hj,show j+(l.length-(j+1))=l.length-1 by omega];unfold sub ln;rw[Zu ⟨by omega,by simp,by rw[K7 l hl j hj];simp⟩];simp;omega
def MC: List α:=aR (aG6 l j) (l.length-1)<|List.replicate 1 z
theorem aSf: clr (aG6 l j) (l.length-1,1) z=some (MC l z j):=by
 unfold clr MC;rw[Zu<|by rw[K7 l hl j hj];show l.length-1+1<=_;omega]
theorem aM3: (MC l z j).length=l.length:=by
 unfold MC aR;rw[Zj,Zj,ZU,ZM,K7 l hl j hj];simp;omega
omit hl hj in
theorem E7{e cs:List α}{k:Nat}{x:α}(h:x∈aR e k cs): x∈e\/x∈cs:=by
 unfold aR at h;rcases ZC.1 h with h | h
 .exact .inl<|Z1 h
 rcases ZC.1 h with h | h
 .exact .inr h
 .exact .inl<|ZX h
omit hl hj in
theorem aEL: ∀x∈MC l z j,x∈l\/x=z:=by
 intro x a;rcases E7 a with a | a
 .rcases E7 (show x∈aR l j _ from a) with a | a
  .exact .inl a
  .exact .inl<|ZX<|Z1 a
 .exact .inr<|List.eq_of_mem_replicate a
end
theorem aOT(a b:List Int)(d:List aO)(f:List aG)(l:List Aab)(e:l.length<=1000)(j:Nat)(c:j<l.length): aB (λn _=>Lz n (a,b,l,d,f,(j:Int),((j+1:Nat):Int)))<|Su (λ_=>False) λv=>v=(MC l (Aab.mk 0<|Aaa.mk 0 0) j,(0,l.length-1)):=by
 refine aV<|aE (Ec<|Yk ⟨by omega,by omega,by unfold ln;omega,Wp _⟩)<|aC (λh=>?_) λ_=>aE (aSj l e j c)<|aE (aSi l e j c)<|aE (aSh l e j c)<|aE (aSg l e j c)<|aE (aSf l (Aab.mk 0<|Aaa.mk 0 0) e j c)<|aA ?_
 .have h:(j:Int)=((j+1:Nat):Int):=by simpa using h
  omega
 .show (MC l (Aab.mk 0<|Aaa.mk 0 0) j,(0,j+(win l<|some (j+1,l.length-(j+1))).length))=_;rw[aJC l e j c,show j+(l.length-(j+1))=l.length-1 by omega]
theorem aM5(a b:List Int)(c:List Aab)(f:List aG)(l:List aO)(e:l.length<=1000)(j:Nat)(d:j<l.length): aB (λn _=>Ht n (a,b,c,l,f,(j:Int),((j+1:Nat):Int)))<|Su (λ_=>False) λv=>v=(MC l (aO.mk 0 0 0 [] 0 0) j,(0,l.length-1)):=by
 refine aV<|aE (Ec<|Yk ⟨by omega,by omega,by unfold ln;omega,Wp _⟩)<|aC (λh=>?_) λ_=>aE (aSj l e j d)<|aE (aSi l e j d)<|aE (aSh l e j d)<|aE (aSg l e j d)<|aE (aSf l (aO.mk 0 0 0 [] 0 0) e j d)<|aA ?_
 .have h:(j:Int)=((j+1:Nat):Int):=by simpa using h
  omega
 .show (MC l (aO.mk 0 0 0 [] 0 0) j,(0,j+(win l<|some (j+1,l.length-(j+1))).length))=_;rw[aJC l e j d,show j+(l.length-(j+1))=l.length-1 by omega]
theorem aM4(a b:List Int)(c:List Aab)(d:List aO)(l:List aG)(f:l.length<=1000)(j:Nat)(e:j<l.length): aB (λn _=>Hp n (a,b,c,d,l,(j:Int),((j+1:Nat):Int)))<|Su (λ_=>False) λv=>v=(MC l (aG.mk 0 0 0 (⟨#[]⟩:ByteArray) []) j,(0,l.length-1)):=by
 refine aV<|aE (Ec<|Yk ⟨by omega,by omega,by unfold ln;omega,Wp _⟩)<|aC (λh=>?_) λ_=>aE (aSj l f j e)<|aE (aSi l f j e)<|aE (aSh l f j e)<|aE (aSg l f j e)<|aE (aSf l (aG.mk 0 0 0 (⟨#[]⟩:ByteArray) []) f j e)<|aA ?_
 .have h:(j:Int)=((j+1:Nat):Int):=by simpa using h
  omega
 .show (MC l (aG.mk 0 0 0 (⟨#[]⟩:ByteArray) []) j,(0,j+(win l<|some (j+1,l.length-(j+1))).length))=_;rw[aJC l f j e,show j+(l.length-(j+1))=l.length-1 by omega]
theorem aGY{α:Type}{l:List α}{w:Option<|Nat×Nat}{x:α}(h:x∈win l w): x∈l:=by
 cases w with
 | none=>exact h
 | some w=>exact ZX<|Z1 h
theorem aGZ{α:Type}{l:List α}{k r:Nat}(a:r<k)(b:k<=l.length): idx (win l<|some (0,k)) (r:Int)=some (l[r]'(by omega))/\idx l ((r:Int)+((0:Nat):Int))=some (l[r]'(by omega)):=by
 constructor
 .rw[bN];simp only[win];rw[XN a,Zw,Z0];exact Za<|by omega
 .rw[show (r:Int)+((0:Nat):Int)=(r:Int) by omega,bN];exact Za<|by omega
theorem aFT(k:Nat)(b c:List Int)(d:List Aab)(f:List aG)(g h:Int)(N:Nat)(p:k<=N)(t:N<=300)(i:Nat)(l:List aO)(a:mO l N): aB (λn m=>qF nS n m ((0,k),b,c,d,f,g,h,(0,k),((k:Nat):Int)) (l,(i:Int))) λr=>mO r N:=by
 refine bZ<|aC (λs=>?_) λ_=>aA a;have s:(i:Int)<((k:Nat):Int):=Zh s;have q:i<k:=by omega
 have e:=aGZ (l:=l) q (by rw[a.1];omega);have w:=Za (l:=l) (i:=i) (by rw[a.1];omega);have o:((i:Int)+((0:Nat):Int)).toNat=i:=by omega
 rw[bS<|by omega];refine aE e.1<|aE e.2<|aD (f:=λn _=>Hg n ((0,k),b,c,d,l,f,g,h,l[i]'(by rw[a.1];omega),(i:Int),(0,k))) (Q:=λr=>mO r N) ?_ λr j=>?_
 .refine aC (λ_=>?_) λ_=>aA a;refine aE e.1<|aE e.2<|aA ?_;show mO (List.set l ((i:Int)+((0:Nat):Int)).toNat _) N;rw[o];exact a.set w rfl
 .have u:=aGZ (l:=r) q (by rw[j.1];omega);have v:=Za (l:=r) (i:=i) (by rw[j.1];omega);refine aC (λ_=>aE u.1<|aE u.2 ?_) λ_=>aFT k b c d f g h N p t (i+1) r j;refine aFT k b c d f g h N p t (i+1) _ ?_;show mO (List.set r ((i:Int)+((0:Nat):Int)).toNat _) N;rw[o];exact j.set v rfl
termination_by k-i
theorem aVs(k:Nat)(b c:List Int)(d:List Aab)(f:List aO)(g:List aG)(h i:Int)(v:b.length<=1000)(s:mO f f.length)(a:f.length<=300)(p:k<=f.length)(q:FeI g g.length 0)(e:g.length<=1000): aB (λn _=>Hs n ((0,k),b,c,d,f,g,h,i)) λr=>r.1.length<=b.length+1/\mO r.2.1 f.length/\r.2.2.length=g.length/\∀x∈r.2.2,x.Parts.length<=65:=
 aV<|aD (aW<|aFT k b c d g h i f.length p a 0 f s) λl u=>aD (aII h i b<|by omega) λm t=>aD (aW<|aFS (0,k) m c d l h i g.length e 0 g q) λo j=>aA ⟨t,u,j.1,j.2⟩
def O1: Prop:=∀(p q:aM) (x:Int),Sm p->Sm q->Tt (λn _=>dG n p q x)
theorem P1(f:Si)(a:List Int)(b:List Aab)(c:List aO)(d:List aG)(e:Int)(i:wR ⟨⟨b,c,a⟩,d⟩): aB (λn _=>cH n (a,b,c,d,e)) λr=>r=0->GW ⟨⟨b,c,a⟩,d⟩:=
 aC (λ_=>aD (RB f _ i) λr j=>aA j) λh=>aA λg=>by rw[g] at h;simp at h
theorem aVg(a:Si)(w:Nat×Nat)(b:List Int)(c:List Aab)(d:List aO)(f:List aG)(e:Int)(i:wR ⟨⟨win c<|some w,d,b⟩,f⟩): aB (λn _=>sK n (w,b,c,d,f,e)) λr=>r=0->GW ⟨⟨win c<|some w,d,b⟩,f⟩:=
 aC (λ_=>aD (RB a _ i) λr j=>aA j) λh=>aA λg=>by rw[g] at h;simp at h
theorem aVb(f:Si)(a:List Int)(b:List Aab)(c:List aG)(d:List aO)(e:Int)(i:wR ⟨⟨b,d,a⟩,c⟩): aB (λn _=>He n (a,b,c,d,e)) λr=>r=0->GW ⟨⟨b,d,a⟩,c⟩:=
 aC (λ_=>aD (RB f _ i) λr j=>aA j) λh=>aA λg=>by rw[g] at h;simp at h
theorem aQ3(a:Si)(w:Nat×Nat)(b:List Int)(c:List Aab)(d:List aO)(f:List aG)(e:Int)(i:wR ⟨⟨c,win d<|some w,b⟩,f⟩): aB (λn _=>sI n (w,b,c,d,f,e)) λr=>r=0->GW ⟨⟨c,win d<|some w,b⟩,f⟩:=
 aC (λ_=>aD (RB a _ i) λr j=>aA j) λh=>aA λg=>by rw[g] at h;simp at h
theorem aUZ(b:Si)(a:List Int)(w:Nat×Nat)(c:List Aab)(d:List aO)(f:List aG)(e:Int)(i:wR ⟨⟨c,d,a⟩,win f<|some w⟩): aB (λn _=>Gy n (a,w,c,d,f,e)) λr=>r=0->GW ⟨⟨c,d,a⟩,win f<|some w⟩:=
 aC (λ_=>aD (RB b _ i) λr j=>aA j) λh=>aA λg=>by rw[g] at h;simp at h
theorem aJT(j:O1)(s:aJ)(t:aZ)(a:List Int)(b:List Aab)(c:List aO)(d:List aG)(e:Int)(k:Int)(g:Sm s.Plan)(i:Sm ⟨b,c,a⟩): aB (λn _=>dX n (s,t,a,b,c,d,e,k)) λr=>r=0->e=0:=
 aD (f:=λn _=>Ho n (s,t,a,b,c,d,e,k)) (Q:=λ_=>True) (aC (λ_=>aC (λ_=>aD (j _ _ _ g i) λ_ _=>aC (λ_=>aA trivial) λ_=>aA trivial) λ_=>aC (λ_=>aD (j _ _ _ g i) λ_ _=>aC (λ_=>aA trivial) λ_=>aA trivial) λ_=>aA trivial) λ_=>aA trivial) λ_ _=>aC (λ_=>aA<|by simp) λ_=>aA λh=>h
theorem aVf(i:O1)(s:aJ)(t:aZ)(w:Nat×Nat)(b:List Int)(c:List Aab)(d:List aO)(f:List aG)(e:Int)(k:Int)(a:Sm s.Plan)(g:Sm ⟨win c<|some w,d,b⟩): aB (λn _=>sJ n (s,t,w,b,c,d,f,e,k)) λr=>r=0->e=0:=
 aD (f:=λn _=>Hn n (s,t,w,b,c,d,f,e,k)) (Q:=λ_=>True) (aC (λ_=>aC (λ_=>aD (i _ _ _ a g) λ_ _=>aC (λ_=>aA trivial) λ_=>aA trivial) λ_=>aC (λ_=>aD (i _ _ _ a g) λ_ _=>aC (λ_=>aA trivial) λ_=>aA trivial) λ_=>aA trivial) λ_=>aA trivial) λ_ _=>aC (λ_=>aA<|by simp) λ_=>aA λh=>h
theorem aFv(j:O1)(s:aJ)(t:aZ)(a:List Int)(b:List Aab)(c:List aO)(d:List aG)(e:Int)(g:Sm s.Plan)(i:Sm ⟨b,c,a⟩): aB (λn _=>fK n (s,t,a,b,c,d,e)) λr=>r=0->e=0:=
 aD (f:=λn _=>Hf n (s,t,a,b,c,d,e)) (Q:=λ_=>True) (aC (λ_=>aC (λ_=>aD (j _ _ _ g i) λ_ _=>aC (λ_=>aA trivial) λ_=>aA trivial) λ_=>aC (λ_=>aD (j _ _ _ g i) λ_ _=>aC (λ_=>aA trivial) λ_=>aA trivial) λ_=>aA trivial) λ_=>aA trivial) λ_ _=>aC (λ_=>aA<|by simp) λ_=>aA λh=>h
theorem aVa(j:O1)(s:aJ)(t:aZ)(a:List Int)(b:List Aab)(c:List aG)(d:List aO)(e:Int)(g:Sm s.Plan)(i:Sm ⟨b,d,a⟩): aB (λn _=>Hc n (s,t,a,b,c,d,e)) λr=>r=0->e=0:=
 aD (f:=λn _=>Hb n (s,t,a,b,c,d,e)) (Q:=λ_=>True) (aC (λ_=>aC (λ_=>aD (j _ _ _ g i) λ_ _=>aC (λ_=>aA trivial) λ_=>aA trivial) λ_=>aC (λ_=>aD (j _ _ _ g i) λ_ _=>aC (λ_=>aA trivial) λ_=>aA trivial) λ_=>aA trivial) λ_=>aA trivial) λ_ _=>aC (λ_=>aA<|by simp) λ_=>aA λh=>h
theorem aQ2(i:O1)(s:aJ)(t:aZ)(w:Nat×Nat)(b:List Int)(c:List Aab)(d:List aO)(f:List aG)(e:Int)(a:Sm s.Plan)(g:Sm ⟨c,win d<|some w,b⟩): aB (λn _=>sH n (s,t,w,b,c,d,f,e)) λr=>r=0->e=0:=
 aD (f:=λn _=>Ha n (s,t,w,b,c,d,f,e)) (Q:=λ_=>True) (aC (λ_=>aC (λ_=>aD (i _ _ _ a g) λ_ _=>aC (λ_=>aA trivial) λ_=>aA trivial) λ_=>aC (λ_=>aD (i _ _ _ a g) λ_ _=>aC (λ_=>aA trivial) λ_=>aA trivial) λ_=>aA trivial) λ_=>aA trivial) λ_ _=>aC (λ_=>aA<|by simp) λ_=>aA λh=>h
theorem aUY(i:O1)(s:aJ)(t:aZ)(a:List Int)(w:Nat×Nat)(c:List Aab)(d:List aO)(f:List aG)(e:Int)(b:Sm s.Plan)(g:Sm ⟨c,d,a⟩): aB (λn _=>Gx n (s,t,a,w,c,d,f,e)) λr=>r=0->e=0:=
 aD (f:=λn _=>Gw n (s,t,a,w,c,d,f,e)) (Q:=λ_=>True) (aC (λ_=>aC (λ_=>aD (i _ _ _ b g) λ_ _=>aC (λ_=>aA trivial) λ_=>aA trivial) λ_=>aC (λ_=>aD (i _ _ _ b g) λ_ _=>aC (λ_=>aA trivial) λ_=>aA trivial) λ_=>aA trivial) λ_=>aA trivial) λ_ _=>aC (λ_=>aA<|by simp) λ_=>aA λh=>h
theorem vF{f g:Nat->Nat->Option Int}{k:Nat->Nat->Int->Option Int}{s:aJ}(e:Int)(i:aB f λr=>r=0->GW s)(b:∀r,aB (λn m=>k n m r) λq=>q=0->r=0): aB (λn m=>Av.bnd (f n m) λr=>Av.bnd (k n m r) λq=>Av.cnd (q != 0) (some ((⟨⟨[],[],[]⟩,[]⟩:aJ),q))<|some (s,0)) λv=>v.2=0->GW v.1:=
 aD i λr d=>aD (b r) λq a=>aC (λh=>aA λc=>by rw[show q=0 from c] at h;simp at h) λh=>aA λ_=>d<|a<|by simpa using h
theorem aId{α:Type}{l:List α}{j:Nat}{y x:α}(h:x∈l.take j++y::l.drop j): x∈l\/x=y:=by
 rcases ZC.1 h with h | h
 .exact .inl<|Z1 h
 rcases ZJ.1 h with h | h
 .exact .inr h
 .exact .inl<|ZX h
theorem aCo{α:Type}{l:List α}{j:Int}{y:α}(a:0<=j)(h:j.toNat<=l.length)(b:l.length<=1000): G2 l j y=some (l.take j.toNat++y::l.drop j.toNat):=by
 unfold G2;rw[Zu ⟨a,h,by omega⟩]
theorem aXg(s:aJ)(d:GW s)(b:List Int)(g:aZ): aB (λn _=>uN n (s.Plan.Faces,b,s.Plan.Nodes,s.Plan.Arcs,s.Features,g))<|Su (λv=>v.1.length<=257)<|Su (λv=>(win v.2<|some v.1).length<=257) λv=>v.1.length<=257:=by
 have m:=d.v.leN;have ok:=d.ok;refine aV<|aD (JT s g.ID<|by omega) λl c=>aC (λi=>?_) λi=>?_
 .have a:=c.2.2 i;let⟨q,j⟩:∃q:Nat,l.1=(q:Int):=⟨l.1.toNat,by have:=c.1;omega⟩;rw[j] at a |-;have a:q<s.Plan.Nodes.length:=by simpa using a
  have e:=Za a;refine aC (λ_=>aA<|show s.Plan.Nodes.length<=257 by omega) λ_=>aC (λ_=>aE (by rw[gZ a];exact e)<|aE (by rw[bN];exact e)<|aA ?_) λ_=>?_
  .show (List.set _ _ _).length<=257;rw[Yr];omega
  .refine aD (f:=λn _=>Lx n (s.Plan.Faces,s.Plan.Nodes,s.Plan.Arcs,s.Features,g)) (Q:=λ_=>True) (aD (aBl _ ok.p g.ID) λ_ _=>aC (λ_=>aA trivial) λ_=>aD (o9 s ok 1 g.ID) λ_ _=>aC (λ_=>aA trivial) λ_=>aA trivial) λ_ _=>aC (λ_=>aA<|show s.Plan.Nodes.length<=257 by omega) λ_=>?_;rw[bS<|by omega];refine aP (aOT s.Plan.Faces b s.Plan.Arcs s.Features s.Plan.Nodes (by omega) q a) (λ_ h=>h.elim) λv k=>aE rfl<|aA ?_;subst k;show (win _ _).length<=257;simp[win];omega
 .refine aC (λ_=>aV<|aE (aCo c.1 c.2.1<|by omega)<|aA ?_) λ_=>aA (show s.Plan.Nodes.length<=257 by omega);show (List.take _ _++_::_).length<=257;simp;omega
theorem GW.fe{s:aJ}(h:GW s): FeI s.Features s.Features.length 0:=⟨rfl,λj f a=>by have:=h.f f<|Zg a;omega,λj f _ a=>h.f f<|Zg a⟩
theorem GW.ar{s:aJ}(h:GW s): mO s.Plan.Arcs s.Plan.Arcs.length:=⟨rfl,h.ok.p.v⟩
def P8(l:List aG): Prop:=l.length<=1000/\∀f∈l,f.Parts.length<=1000
theorem GW.fs{s:aJ}(h:GW s): P8 s.Features:=⟨h.ok.n,h.ok.f⟩
theorem P8.set{l:List aG}(h:P8 l){i:Nat}{g:aG}(b:g.Parts.length<=1000): P8<|l.set i g:=⟨by rw[Yr];exact h.1,λf a=>by
 rcases YL a with a | rfl
 .exact h.2 f a
 .exact b⟩
theorem aVr(s:aJ)(a:GW s)(b:List Int)(g:aZ): aB (λn _=>Hr n (s.Plan.Faces,b,s.Plan.Nodes,s.Plan.Arcs,s.Features,g)) (Su (λv=>v≠0) λv=>v.1.length<=65/\mO v.2.1 s.Plan.Arcs.length/\v.2.2.1.length=s.Features.length/\∀x∈v.2.2.1,x.Parts.length<=65):=by
 have i:=a.v.leF;have d:=a.v.leA;have e:=a.n;refine aV<|aP (f:=λn _=>Gz n (s.Plan.Faces,s.Plan.Nodes,s.Plan.Arcs,s.Features,g)) (Q:=λv:Int=>v≠0) (R:=λ_=>True) (aD (aBi s.Plan.Faces g.ID<|by omega) λ_ _=>aC (λ_=>aD (aBi s.Plan.Faces g.A<|by omega) λ_ _=>aC (λ_=>aA<|show (8:Int)≠0 by decide) λ_=>aA trivial) λ_=>aA<|show (7:Int)≠0 by decide) (λ_ h=>aA<|by exact h) λ_ _=>aE rfl ?_;exact aD (aVt s.Plan.Faces b s.Plan.Nodes s.Plan.Arcs s.Features g.ID g.A (by omega) a.ar (by omega) a.fe<|by omega) λm c=>aA ⟨by have:=c.1;show m.1.length<=65;omega,c.2.1,c.2.2.1,c.2.2.2⟩
theorem aVq(s:aJ)(p:GW s)(b:List Int)(g:aZ)(d:aAl g): aB (λn _=>Hq n (s.Plan.Faces,b,s.Plan.Nodes,s.Plan.Arcs,s.Features,g))<|Su (λv=>P8 v.1)<|Su (λv=>P8<|win v.2<|some v.1) λv=>P8 v.1:=by
 have x:=p.n;have c:=p.fs;refine aV<|aD (aE9 s g.ID<|by omega) λl i=>aC (λo=>?_) λo=>?_
 .have a:=i.2.2 o;let⟨q,w⟩:∃q:Nat,l.1=(q:Int):=⟨l.1.toNat,by have:=i.1;omega⟩;rw[w] at a |-;have a:q<s.Features.length:=by simpa using a
  have e:=Za a;have m:eK s.Features s.Features.length (q:Int)=some s.Features[q]:=by rw[gZ a];exact e
  have e2:idx s.Features (q:Int)=some s.Features[q]:=by rw[bN];exact e
  have r:=c.2 _<|ZQ a;rw[bS<|by omega];refine aC (λ_=>aA<|by exact c) λ_=>aC (λ_=>aP (aM4 s.Plan.Faces b s.Plan.Nodes s.Plan.Arcs s.Features (by omega) q a) (λ_ h=>h.elim) λv u=>aE rfl<|aA ?_) λ_=>aC (λ_=>aE m<|aE e2<|aA ?_) λ_=>aC (λ_=>aE m<|aE e2<|aA ?_) λ_=>aC (λ_=>aD (aLM g.Parts<|by have:=d.2;omega) λt j=>aE m<|aE e2<|aA ?_) λ_=>aA<|by exact c
  .subst u;refine⟨by simp[win];omega,λf k=>?_⟩;rcases aEL _ _ _ f (aGY k) with h | rfl
   .exact c.2 f h
   .simp
  .exact c.set r
  .exact c.set r
  .exact c.set<|by subst j;have:=d.2;show g.Parts.length<=1000;omega
 .refine aC (λ_=>aD (aLM g.Parts<|by have:=d.2;omega) λt j=>aV<|aE (aCo i.1 i.2.1<|by omega)<|aA ?_) λ_=>aA (by exact c);subst j;refine⟨by simp;omega,λf k=>?_⟩;rcases aId k with h | rfl
  .exact c.2 f h
  .have:=d.2;show g.Parts.length<=1000;omega
theorem aGR.mem{l:List Int}{k:Nat}(h:aGR l k){x:Int}(a:x∈l): 1<=x/\x.toNat<=k:=by
 rw[h] at a;obtain⟨j,b,rfl⟩:=Yj.1 a;have:=Wt.1 b;omega
theorem SzR.da{r:dR}(h:SzR r.Outer r.Inner r.Alone): aPA r:=⟨by have:=h.1;omega,h.2.1.1⟩
theorem aVe(g:aZ)(x y:Int): aB (λn _=>Hl n (g,x,y)) λr=>r=x\/r=y:=aC (λ_=>aA<|.inl rfl) λ_=>aA<|.inr rfl
theorem aVd(a:List Aab)(b:List Int)(c:List aO)(d f:Int)(e:b.length<=1000): aB (λn _=>Hk n (a,b,c,d,f))<|Su (λv=>v≠0) λ_=>True:=
 aC (λ_=>aA<|show (12:Int)≠0 by decide) λ_=>aD (aBi b f<|by omega) λ_ _=>aC (λ_=>aA<|show (8:Int)≠0 by decide) λ_=>aC (λ_=>aA<|show (12:Int)≠0 by decide) λ_=>aA trivial
theorem aVc(s:aJ)(a:wR s)(f g:Int): Tt λn _=>Hi n (s.Plan.Faces,s.Plan.Nodes,s.Plan.Arcs,s.Features,f,g):=
 aC (λ_=>aD (o9 s a 3 f) λi b=>aD (o9 s a 3 g) λj _=>aD (aP8 i j<|by omega) λ_ _=>aC (λ_=>aA trivial) λ_=>aA trivial) λ_=>aA trivial
theorem aPz{α:Type}{P:α->Prop}{g:Nat->Nat->Option α}(h:aB g P): aB (λn m=>Av.bnd (Av.prd n) λ_=>g n m) P:=by
 let⟨r,a,K,b⟩:=h;refine⟨r,a,K+1,λn m c d=>?_⟩;obtain⟨n,rfl⟩:∃k,n=k+1:=⟨n-1,by omega⟩;exact b (n+1) m (by omega)<|by omega
def L19(s:aJ)(v:List Int×List aG×List aO×List aO×aM): Prop:=v.1.length<=65/\(v.2.1.length<=1000/\∀f∈v.2.1,f.Parts.length<=65)/\mO v.2.2.1 (s.Plan.Arcs.length+1)
theorem aVv(hD:Si)(s:aJ)(o:GW s)(b:List Int)(g:aZ)(hg:aAl g): aB (λn _=>Hv n (s.Plan.Faces,b,s.Plan.Nodes,s.Plan.Arcs,s.Features,g))<|Su (λ_=>True)<|Su (λ_=>True)<|Su (λ_=>True)<|L19 s:=by
 have ok:=o.ok;have h1:=o.v.leA;have h2:=o.v.leN;have h3:=o.v.leF;have h4:=o.n;refine aV<|aD (aCL s g.ID<|by omega) λm J=>aC (λ_=>aA trivial) λ_=>aD (JT s g.A<|by omega) λ_ _=>aC (λ_=>aD (JT s g.B<|by omega) λ_ _=>aC (λ_=>?_) λ_=>aA trivial) λ_=>aD (JT s g.B<|by omega) λ_ _=>aC (λ_=>aA trivial) λ_=>aA trivial;refine aD (aRF s.Plan.Arcs<|by omega) λsa O=>aD (aRE g.Via<|by have:=hg.1;omega) λt ht=>?_;subst O ht;refine aPz<|aE (aCo J.1 J.2.1<|by omega) ?_;let⟨q,R⟩:∃q:Nat,m.1=(q:Int):=⟨m.1.toNat,by have:=J.1;omega⟩;have a1:q<=s.Plan.Arcs.length:=by have:=J.2.1;omega
 generalize X:(s.Plan.Arcs.take m.1.toNat++(⟨g.ID,g.A,g.B,g.Via,0,0⟩:aO)::s.Plan.Arcs.drop m.1.toNat)=u;have I:mO u<|s.Plan.Arcs.length+1:=by
  refine⟨by rw[<-X,R];simp;omega,λa ha=>?_⟩;rw[<-X] at ha;rcases aId ha with h | rfl
  .exact ok.p.v a h
  .have:=hg.1;show g.Via.length<=300;omega
 have G:Sm ⟨s.Plan.Nodes,u,s.Plan.Faces⟩:=⟨by show s.Plan.Nodes.length<=_;omega,by show u.length<=_;rw[I.1];omega,by show s.Plan.Faces.length<=_;omega,I.2⟩;refine aD (aIL _ G) λ_ _=>aC (λ_=>aA trivial) λ_=>aD (aP4 hD _ G) λw hw=>aC (λ_=>aA trivial) λK=>?_;let⟨U,Q⟩:=hw.2 (by simpa using K);let⟨x,T,V,l,_⟩:=SM hD w.1 hw.1;refine aD T λx' N=>?_;subst N;refine aC (λ_=>aA trivial) λS=>?_;let⟨hV,C⟩:=V (by simpa using S);have H:q<w.1.Arcs.length:=by rw[U];show q<u.length;rw[I.1];omega
 have ey:idx w.1.Arcs m.1=some w.1.Arcs[q]:=by rw[R,bN];exact Za H
 have d:∀z:Int,(z=0\/z∈w.1.Faces)->0<=z/\z.toNat<x'.1.length:=by
  intro z F;rcases F with rfl | F
  .exact⟨Wp _,by rw[C];simp⟩
  .have:=Q.mem F;omega
 have E:=hV.sid _<|ZQ H;have W:=d _ E.1;have sr:=d _ E.2;let⟨j,k0,k1,k2⟩:=I.at (i:=q) (by omega);refine aE ey<|aE ey<|aE (uL W.1 W.2)<|aE (uL sr.1 sr.2)<|aD (aKn _ ok.p g.ID [_,_] (by simp) (by
  intro r M;rcases ZJ.1 M with rfl | M
  .exact (l.2 _<|ZQ _).da
  .rw[ZN.1 M];exact (l.2 _<|ZQ _).da)) λc0 _=>?_
 rw[R];refine aE k1<|aE k2 ?_;simp only[YA];have y:mO (u.set q ⟨j.ID,j.From,j.To,j.Via,c0,j.Right⟩)<|s.Plan.Arcs.length+1:=I.set k0 rfl;generalize u.set q ⟨j.ID,j.From,j.To,j.Via,c0,j.Right⟩=Y at y;let⟨e,j0,j1,j2⟩:=y.at (i:=q) (by omega);refine aE j1<|aE j2 ?_;have c:mO (Y.set q ⟨e.ID,e.From,e.To,e.Via,e.Left,c0⟩)<|s.Plan.Arcs.length+1:=y.set j0 rfl;generalize Y.set q ⟨e.ID,e.From,e.To,e.Via,e.Left,c0⟩=u3 at c;have D:L19 s (s.Plan.Faces,s.Features,u3,[(⟨g.ID,g.A,g.B,g.Via,0,0⟩:aO)],w.1):=⟨by show s.Plan.Faces.length<=65;omega,⟨by show s.Features.length<=1000;omega,λf hf=>by have:=o.f f hf;omega⟩,c⟩;refine aC (λ_=>aC (λ_=>aA trivial) λ_=>aA<|by exact D) λ_=>aD (aVe g _ _) λz F=>aP (aVd _ _ _ _ _<|by omega) (λ_ _=>aA trivial) λ_ _=>aE rfl ?_;have Z:0<=z/\z.toNat<x'.1.length:=by rcases F with rfl | rfl<;>assumption
 refine aE (uL Z.1 Z.2)<|aD (aIy _ (l.2 _<|ZQ _).da) λl0 L=>aD (aVu s.Plan.Faces b s.Plan.Nodes s.Plan.Arcs s.Features s.Plan.Faces u3 l0 c0 _ (by omega) ⟨rfl,c.2⟩ (by rw[c.1];omega) o.fe (by omega) L) λm0 k=>aA ?_;exact⟨by have:=k.1;show m0.1.length<=65;omega,⟨by show m0.2.1.length<=1000;rw[k.2.2.1];omega,k.2.2.2⟩,by have:=k.2.1;rw[c.1] at this;exact this⟩
def Ft(l:List aG): Prop:=l.length<=1000/\∀f∈l,f.Parts.length<=65
def Ar(l:List aO): Prop:=l.length<=300/\∀a∈l,a.Via.length<=300
def S18(s:aJ): Int⊕(List aO×List aO×Int)⊕(List aO×List aO×List Aab×List aO×List Int×Int)⊕(List Int×List aG×List aO×List aO×List Aab×List aO×List Int)⊕(List aO×Int)⊕(List Int×List aO×List aG×Int×Int)⊕((Nat×Nat)×List Int×List aO×List aG×Int×Int)⊕((Nat×Nat)×List aO)->Prop:=
 Su (λ_=>True)<|Su (λ_=>True)<|Su (λ_=>True)<|Su (λv=>v.1.length<=300/\Ft v.2.1/\Ar v.2.2.1)<|Su (λv=>Ar v.1)<|Su (λv=>v.1.length<=300/\Ar v.2.1/\Ft v.2.2.1)<|Su (λv=>v.2.1.length<=300/\Ar v.2.2.1/\Ft v.2.2.2.1) λv=>Ar v.2
theorem mO.le{l:List aO}{k:Nat}(h:mO l k)(a:k<=300): Ar l:=⟨by rw[h.1];exact a,h.2⟩
theorem aVw(y:Si)(s:aJ)(f:GW s)(b:List Int)(g:aZ)(l:aAl g): aB (λn _=>Hw n (s.Plan.Faces,b,s.Plan.Nodes,s.Plan.Arcs,s.Features,g))<|S18 s:=by
 have ok:=f.ok;have H:=f.v.leA;have I:=f.v.leN;have K:=f.v.leF;have J:=f.n;have d:=f.ar.le (by omega);refine aV<|aC (λ_=>aP (aVv y s f b g l) (λ_ _=>aA trivial) λu z=>?_) λ_=>?_
 .rcases u with v | u
  .exact aA trivial
  rcases u with v | v
  .exact aA trivial
  .let⟨G,E,C⟩:=z;exact aA<|show _/\_/\_ from⟨by show v.1.length<=300;omega,E,C.le<|by omega⟩
 refine aD (aCL s g.ID<|by omega) λm o=>aC (λB=>?_) λ_=>aA (by exact d);have c:=o.2.2 B;let⟨q,x⟩:∃q:Nat,m.1=(q:Int):=⟨m.1.toNat,by have:=o.1;omega⟩;rw[x] at c |-;have c:q<s.Plan.Arcs.length:=by simpa using c
 have e:=Za c;have k:eK s.Plan.Arcs s.Plan.Arcs.length (q:Int)=some s.Plan.Arcs[q]:=by rw[gZ c];exact e
 have e2:idx s.Plan.Arcs (q:Int)=some s.Plan.Arcs[q]:=by rw[bN];exact e
 rw[bS<|by omega];refine aC (λ_=>aD (aRE g.Via<|by have:=l.1;omega) λt F=>aE k<|aE e2<|aA ?_) λ_=>aD (o9 s ok 2 g.ID) λ_ _=>aC (λ_=>aA<|by exact d) λ_=>aE k<|aE e2<|aE k<|aE e2<|aD (aVc s ok _ _) λ_ _=>aC (λ_=>aA<|by exact d) λ_=>aP (aM5 s.Plan.Faces b s.Plan.Nodes s.Features s.Plan.Arcs (by omega) q c) (λ_ h=>h.elim) λv D=>aE rfl ?_
 .show Ar<|List.set _ _ _;refine⟨by rw[Yr];exact d.1,λa i=>?_⟩;rcases YL i with i | rfl
  .exact d.2 a i
  .subst F;have:=l.1;show g.Via.length<=300;omega
 .subst D;have w:mO (MC s.Plan.Arcs ⟨0,0,0,[],0,0⟩ q) (MC s.Plan.Arcs ⟨0,0,0,[],0,0⟩ q).length:=⟨rfl,λa i=>by
   rcases aEL _ _ _ a i with h | rfl
   .exact ok.p.v a h
   .simp⟩
  have A:=aM3 s.Plan.Arcs ⟨0,0,0,[],0,0⟩ (by omega) q c;refine aC (λ_=>aD (aVs (s.Plan.Arcs.length-1) s.Plan.Faces b s.Plan.Nodes (MC s.Plan.Arcs ⟨0,0,0,[],0,0⟩ q) s.Features _ _ (by omega) w (by omega) (by omega) f.fe<|by omega) λr j=>aA ?_) λ_=>aA (by exact w.le<|by omega);exact (show _/\_/\_ from⟨by have:=j.1;show r.1.length<=300;omega,j.2.1.le<|by omega,by rw[j.2.2.1];omega,j.2.2.2⟩)
theorem VH{n:List Aab}{a:List aO}{f:List Int}{l:List aG}(e:n.length<=300)(c:Ar a)(d:f.length<=300)(b:P8 l): wR ⟨⟨n,a,f⟩,l⟩:=⟨⟨e,c.1,d,c.2⟩,b.1,b.2⟩
theorem Ft.ok{l:List aG}(h:Ft l): P8 l:=⟨h.1,λf a=>by have:=h.2 f a;omega⟩
theorem Ar.win{l:List aO}(h:Ar l)(w:Option<|Nat×Nat): Ar<|win l w:=⟨by
 cases w with
 | none=>exact h.1
 | some w=>simp only[Av.win];rw[ZM,ZU];have:=h.1;omega,λa b=>h.2 a<|aGY b⟩
theorem aOb(d:Si)(e:O1)(s:aJ)(a:GW s)(g:aZ)(b:List Int): aB (λn _=>bnd2 (uN n (s.Plan.Faces,b,s.Plan.Nodes,s.Plan.Arcs,s.Features,g)) (λf=>(bnd (cH n (s.Plan.Faces,f.1,s.Plan.Arcs,s.Features,f.2)) λq=>(bnd (dX n (s,g,s.Plan.Faces,f.1,s.Plan.Arcs,s.Features,q,g.ID)) λh=>(cnd (h != 0) (some ((aJ.mk (aM.mk [] [] []) []),h))<|some ((aJ.mk (aM.mk f.1 s.Plan.Arcs s.Plan.Faces) s.Features),0))))) λi=>(bnd2 (some i) (λj=>(bnd (sK n (j.1,s.Plan.Faces,j.2,s.Plan.Arcs,s.Features,0)) λl=>(bnd (sJ n (s,g,j.1,s.Plan.Faces,j.2,s.Plan.Arcs,s.Features,l,g.ID)) λm=>(cnd (m != 0) (some ((aJ.mk (aM.mk [] [] []) []),m))<|some ((aJ.mk (aM.mk (win j.2<|some j.1) s.Plan.Arcs s.Plan.Faces) s.Features),0))))) λo=>(bnd (some o) λr=>(bnd (cH n (s.Plan.Faces,r.1,s.Plan.Arcs,s.Features,0)) λq=>(bnd (dX n (s,g,s.Plan.Faces,r.1,s.Plan.Arcs,s.Features,q,g.ID)) λt=>(cnd (t != 0) (some ((aJ.mk (aM.mk [] [] []) []),t))<|some ((aJ.mk (aM.mk r.1 s.Plan.Arcs s.Plan.Faces) s.Features),0)))))) ) λr=>r.2=0->GW r.1:=by
 have ok:=a.ok;have c:=a.ar.le (by have:=a.v.leA;omega);have k:s.Plan.Faces.length<=300:=by have:=a.v.leF;omega
 refine aP (aXg s a b g) (λv x=>?_) λu w=>?_
 .have o:=VH (n:=v.1) (show v.1.length<=300 from ZB x (by decide)) c k a.fs;exact vF (g:=λ_ _=>none) 0 (P1 d _ _ _ _ _ o) λr=>aJT e s g _ _ _ _ r g.ID ok.p o.p
 .rcases u with v | v
  .have o:=VH (n:=win v.2<|some v.1) (show _<=300 from ZB w (by decide)) c k a.fs;exact vF (g:=λ_ _=>none) 0 (aVg d _ _ _ _ _ _ o) λr=>aVf e s g _ _ _ _ _ r g.ID ok.p o.p
  .have o:=VH (n:=v.1) (show v.1.length<=300 from ZB w (by decide)) c k a.fs;exact vF (g:=λ_ _=>none) 0 (P1 d _ _ _ _ _ o) λr=>aJT e s g _ _ _ _ r g.ID ok.p o.p
theorem aRr(a:Si)(d:O1)(s:aJ)(e:GW s)(g:aZ)(l:aAl g): aB (λn _=>Kc n s g) λr=>r.2=0->GW r.1:=by
 have ok:=e.ok;have h:s.Plan.Nodes.length<=300:=by have:=e.v.leN;omega
 have i:=e.ar.le (by have:=e.v.leA;omega);have k:s.Plan.Faces.length<=300:=by have:=e.v.leF;omega
 refine aU (λ_=>rfl)<|aD (aUc s ok) λc m=>?_;subst m;refine aD (f:=λn _=>Ly n g.Kind) (Q:=λ_=>True) (by repeat' first|apply dU|apply aC|apply bH|intro) λ_ _=>aC (λ_=>aOb a d s e g s.Plan.Faces) λ_=>aD (f:=λn _=>Hm n g.Kind) (Q:=λ_=>True) (by repeat' first|apply dU|apply aC|apply bH|intro) λ_ _=>aC (λ_=>aP (aVw a s e s.Plan.Faces g l) (λv _=>?_) λu b=>?_) λ_=>aC (λ_=>aP (aVr s e s.Plan.Faces g) (λv _=>?_) λv j=>aE rfl ?_) λ_=>aP (aVq s e s.Plan.Faces g l) (λv j=>?_) λu b=>?_
 .exact vF (g:=λ_ _=>none) 0 (P1 a _ _ _ _ _ ok) λr=>aJT d s g _ _ _ _ r 0 ok.p ok.p
 .rcases u with v | u
  .exact vF (g:=λ_ _=>none) 0 (P1 a _ _ _ _ _ ok) λr=>aFv d s g _ _ _ _ r ok.p ok.p
  rcases u with v | u
  .exact vF (g:=λ_ _=>none) 0 (P1 a _ _ _ _ _ ok) λr=>aFv d s g _ _ _ _ r ok.p ok.p
  rcases u with v | u
  .have o:=VH h b.2.2 b.1 b.2.1.ok;exact vF (g:=λ_ _=>none) 0 (aVb a _ _ _ _ _ o) λr=>aVa d s g _ _ _ _ r ok.p o.p
  rcases u with v | u
  .have o:=VH h b k e.fs;exact vF (g:=λ_ _=>none) 0 (P1 a _ _ _ _ _ o) λr=>aJT d s g _ _ _ _ r 0 ok.p o.p
  rcases u with v | u
  .have o:=VH h b.2.1 b.1 b.2.2.ok;exact vF (g:=λ_ _=>none) 0 (P1 a _ _ _ _ _ o) λr=>aFv d s g _ _ _ _ r ok.p o.p
  rcases u with v | v
  .have o:=VH h (b.2.1.win<|some v.1) b.1 b.2.2.ok;exact vF (g:=λ_ _=>none) 0 (aQ3 a _ _ _ _ _ _ o) λr=>aQ2 d s g _ _ _ _ _ r ok.p o.p
  .have o:=VH h (Ar.win b<|some v.1) k e.fs;exact vF (g:=λ_ _=>none) 0 (aQ3 a _ _ _ _ _ _ o) λr=>aQ2 d s g _ _ _ _ _ r ok.p o.p
 .exact vF (g:=λ_ _=>none) 0 (P1 a _ _ _ _ _ ok) λr=>aJT d s g _ _ _ _ r 0 ok.p ok.p
 .have o:=VH h (j.2.1.le<|by have:=e.v.leA;omega) (show v.1.length<=300 from ZB j.1 (by decide))<|Ft.ok ⟨by rw[j.2.2.1];have:=e.n;omega,j.2.2.2⟩;exact vF (g:=λ_ _=>none) 0 (P1 a _ _ _ _ _ o) λr=>aFv d s g _ _ _ _ r ok.p o.p
 .have o:=VH h i k j;exact vF (g:=λ_ _=>none) 0 (P1 a _ _ _ _ _ o) λr=>aJT d s g _ _ _ _ r 0 ok.p o.p
 .rcases u with v | v
  .have o:=VH h i k<|show P8 (win v.2<|some v.1) from b;exact vF (g:=λ_ _=>none) 0 (aUZ a _ _ _ _ _ _ o) λr=>aUY d s g _ _ _ _ _ r ok.p o.p
  .have o:=VH h i k<|show P8 v.1 from b;exact vF (g:=λ_ _=>none) 0 (P1 a _ _ _ _ _ o) λr=>aFv d s g _ _ _ _ r ok.p o.p
theorem aTP(c:Si)(s:aJ)(d:wR s)(g:aZ)(k:Int)(j:k≠0->GW s): aB (λn _=>UB n (s,g,k)) λr=>r=0->GW s/\aAl g:=by
 refine aD (aMw g) λf b=>aC (λh=>aC (λ_=>aD (RB c s d) λr i=>aA λa=>⟨i a,b<|by simpa using h⟩) λe=>aA λa=>⟨j<|by simpa using e,b<|by simpa using h⟩) λh=>aA λa=>by rw[a] at h;simp at h
theorem aD8(b:Si)(g:O1)(l:List aZ)(q:l.length<=5000)(i:Nat)(s:aJ)(o:wR s)(j:i≠0->GW s): aB (λn m=>pK Ef n m (l,ln l) (s,(i:Int)))<|Su (λv=>v.2.2≠0) λr=>wR r/\(l≠[]\/i≠0->GW r):=by
 refine bL<|bA (λx z p=>?_) λu=>aA ?_
 .rw[bS<|by omega];refine aD (aTP b s o x (i:Int) λh=>j<|by omega) λc t=>aD (f:=λn _=>UA n (s,x,c)) (Q:=λr=>r.2=0->GW r.1) (aC (λh=>?_) λh=>aA λe=>by rw[show c=0 from e] at h;simp at h) λr a=>aC (λh=>aA<|show r.2≠0 by simpa using h) λh=>?_
  .let⟨w,y⟩:=t (by simpa using h);exact aD (aRr b g s w x y) λr a=>aA a
  .have k:=a (by simpa using h);refine (aD8 b g l q (i+1) r.1 k.ok λ_=>k).imp λv d=>?_;rcases v with v | v
   .exact d
   .exact⟨d.1,λ_=>d.2<|.inr<|by omega⟩
 .refine⟨o,λh=>j ?_⟩;rcases h with h | h
  .intro e;have:l.length=0:=by omega
   exact h<|ZO.1 this
  .exact h
termination_by l.length-i
theorem aUR(d:Si)(g:O1)(s:aJ)(a:wR s)(l:List aZ): aB (λn _=>Rc n s l) λr=>r.2.2=0->wR r.1/\(l≠[]->GW r.1):=by
 refine aU (λ_=>rfl)<|aC (λ_=>aA<|by simp) λh=>aD (aOJ s a) λc f=>?_;have h:¬ln l > 4096:=Zi h;subst f;exact aP (aW<|aD8 d g l (by unfold ln at h;omega) 0 c a<|by simp) (λv i=>aA λe=>absurd e i) λr b=>aE rfl<|aA λ_=>⟨b.1,λh=>b.2<|.inl h⟩
structure ArO(l:List dO)(b c:Nat): Prop where
 al:∀a∈l,a.alone.length<=c
 l1:1<=l.length
 l2:l.length<=200000
 ou:∀a∈l,a.outer.length<=800000
 inn:∀a∈l,a.inner.length<=b/\∀c∈a.inner,c.length<=800000
 ne:∀(i:Nat) (a:dO),1<=i->l[i]?=some a->a.outer≠[]
theorem aM1(p:aM)(w:Sm p)(B:Nat): ∀(cs:List<|List Int) (l:List dO) (q:List<|List Int),ArO l 0 0->l.length+cs.length<=200000->(∀c∈cs,c.length<=800000/\∃d t,c=d::t/\fR p d)->(∀c∈q,c.length<=800000/\∃d t,c=d::t/\fR p d)->
 (∀a∈l,a.inner=[]/\a.outer.length+q.flatten.length+cs.flatten.length<=B)->q.flatten.length+cs.flatten.length<=B->
 aB (λn _=>dv1 n p cs l q) λr=>ArO r.1 0 0/\r.2.length<=q.length+cs.length/\(∀c∈r.2,c.length<=800000/\∃d t,c=d::t/\fR p d)/\∀a∈r.1,a.inner=[]/\a.outer.length+r.2.flatten.length<=B
 | [],l,q,f,_,_,s,j,_=>aA (x:=(l,q)) ⟨f,by simp,s,λa b=>⟨(j a b).1,by have:=(j a b).2;simpa using this⟩⟩
 | c::cs,l,q,f,A,y,s,j,C=>by
  have u:=y c<|ZG ..;have m:∀c∈cs,c.length<=800000/\∃d t,c=d::t/\fR p d:=λc h=>y c<|ZH _ h;simp only[Z9] at A;simp only[Yt,Zj] at j C;let⟨o,d,D,k,v⟩:=u;refine aD (aJS p w c) λt _=>aC (λ_=>?_) λ_=>?_
  .refine aB.imp (aM1 p w B cs (l++[⟨t,c,[],[]⟩]) q ⟨?_,by simp,by simp;omega,?_,?_,?_⟩ (by simp;omega) m s ?_<|by omega) ?_
   .intro a b;rcases ZC.1 b with b | b
    .exact f.al a b
    .rw[ZN.1 b];exact Zf _
   .intro a b;rcases ZC.1 b with b | b
    .exact f.ou a b
    .rw[ZN.1 b];exact o
   .intro a b;rcases ZC.1 b with b | b
    .exact f.inn a b
    .rw[ZN.1 b];exact⟨Zf _,λc h=>by cases h⟩
   .intro i a z b;rcases ZI i l.length with h | h
    .rw[Zp h] at b;exact f.ne i a z b
    .rw[ZY h] at b;have:a=⟨t,c,[],[]⟩:=by
      have:=Zg b;exact ZN.1 this
     rw[this,k];simp
   .intro a b;rcases ZC.1 b with b | b
    .have:=j a b;exact⟨this.1,by omega⟩
    .rw[ZN.1 b];exact⟨rfl,by show c.length+_+_<=B;omega⟩
   .intro r g;exact⟨g.1,by have:=g.2.1;simp only[Z9];omega,g.2.2⟩
  .refine aB.imp (aM1 p w B cs l (q++[c]) f (by omega) m ?_ ?_ ?_) ?_
   .intro e he;rcases ZC.1 he with he | he
    .exact s e he
    .rw[ZN.1 he];exact⟨o,d,D,k,v⟩
   .intro a b;have:=j a b;exact⟨this.1,by simp only[Xz,Zj,Yt,Xg,Z2];omega⟩
   .simp only[Xz,Zj,Yt,Xg,Z2];omega
   .intro r g;exact⟨g.1,by have:=g.2.1;simp only[Z9,Zj,Z2] at this |-;omega,g.2.2⟩
theorem aIB{l:List dO}{b c:Nat}(h:ArO l b c): ∀x∈l.map arV,x.outer.length<=800000:=by
 intro x d;obtain⟨a,e,rfl⟩:=Yj.1 d;exact h.ou a e
theorem aDy{α:Type}{l:List α}{i:Nat}{a' x:α}(a:x∈l.set i a'): x=a'\/x∈l:=(YL a).symm
theorem ArO.set{l:List dO}{b b' c c':Nat}{i:Nat}{a a':dO}(h:ArO l b c)(m:l[i]?=some a)(g:a'.outer=a.outer)(n:b<=b')(p:a'.inner.length<=b'/\∀c∈a'.inner,c.length<=800000)(o:c<=c')(f:a'.alone.length<=c'): ArO (l.set i a') b' c':=by
 refine⟨?_,by rw[Yr];exact h.l1,by rw[Yr];exact h.l2,?_,?_,?_⟩
 .intro x d;rcases aDy d with rfl | d
  .exact f
  .exact ZB (h.al x d) o
 .intro x d;rcases aDy d with rfl | d
  .rw[g];exact h.ou a<|Zg m
  .exact h.ou x d
 .intro x d;rcases aDy d with rfl | d
  .exact p
  .exact⟨ZB (h.inn x d).1 n,(h.inn x d).2⟩
 .intro j x k d;rw[Z7] at d;split at d
  .rename_i e;subst e;split at d
   .cases d;rw[g];exact h.ne i a k m
   .cases d
  .exact h.ne j x k d
theorem aQt(p:aM)(F:Sm p)(y:tV p)(m:List<|Int×List Aaa)(o:MU p m)(B:Nat): ∀(cs:List<|List Int) (l:List dO) (b:Nat),ArO l b 0->(∀c∈cs,c.length<=800000/\∃d t,c=d::t/\fR p d)->(∀a∈l,a.outer.length+a.inner.flatten.length+cs.flatten.length<=B)->
 aB (λn _=>dv2 n m cs l) λr=>ArO r (b+cs.length) 0/\∀a∈r,a.outer.length+a.inner.flatten.length<=B
 | [],l,b,g,_,j=>aA ⟨g,λa k=>by have:=j a k;simpa using this⟩
 | c::cs,l,b,g,u,j=>by
  obtain⟨q,d,z,rfl,a,k,I⟩:=u c<|ZG ..;have E:=y.nuA a k;have G:nE d (wr<|0-d)=a.ID:=by
   rw[wr,i64_in _<|by omega];unfold nE;split<;>omega
  let⟨w,A,C⟩:=o.has a k;refine aE (x:=d) rfl<|aE (x:=w[0]'(by omega)) (by rw[G,A];show idx w ((0:Nat):Int)=_;rw[bN];exact Za<|by omega)<|aD (aIl m o.len (l.map arV) (aIB g) (by simp;have:=g.l2;omega) (by simp;have:=g.l1;omega) _) λi v=>?_;have f:i.toNat<l.length:=by simpa using v.2
  refine aE (uL v.1 f) ?_;simp only[Yt,Zj,Z9] at j;have H:=aQt p F y m o B cs (l.set i.toNat ⟨l[i.toNat].twice,l[i.toNat].outer,l[i.toNat].inner++[d::z],l[i.toNat].alone⟩) (b+1) (g.set (Za f) rfl (by omega) (by
   have:=g.inn _<|ZQ f;refine⟨by simp;omega,λc e=>?_⟩;rcases ZC.1 e with e | e
   .exact this.2 c e
   .rw[ZN.1 e];exact q) (Zf _)<|g.al l[i.toNat]<|ZQ f) (λc h=>u c<|ZH _ h) (λx s=>by
    rcases aDy s with rfl | s
    .have:=j _<|ZQ f;simp only[Xz,Zj,Yt,Xg,Z2,Z9];omega
    .have:=j x s;omega)
  refine H.imp λr D=>?_;have:b+((d::z)::cs).length=b+1+cs.length:=by simp;omega
  rw[this];exact D
theorem aM0(p:aM)(k:Sm p)(m:List<|Int×List Aaa)(q:MU p m)(b B:Nat): ∀(h:List Aab) (l:List dO) (c:Nat),ArO l b c->(∀a∈l,a.outer.length+a.inner.flatten.length<=B)->aB (λn _=>dv3 n p m h l) λr=>ArO r b (c+h.length)/\∀a∈r,a.outer.length+a.inner.flatten.length<=B
 | [],l,c,f,j=>aA ⟨f,j⟩
 | x::h,l,c,f,j=>by
  have e:c+(x::h).length=c+1+h.length:=by simp;omega
  rw[e];refine aD (aBl p k x.ID) λd _=>aC (λ_=>aD (aIl m q.len (l.map arV) (aIB f) (by simp;have:=f.l2;omega) (by simp;have:=f.l1;omega) _) λi s=>?_) λ_=>aM0 p k m q b B h l (c+1) ⟨λa t=>Xo<|f.al a t,f.l1,f.l2,f.ou,f.inn,f.ne⟩ j;have g:i.toNat<l.length:=by simpa using s.2
  exact aE (uL s.1 g) (aM0 p k m q b B h _ (c+1) (f.set (Za g) rfl (Zf _) (f.inn l[i.toNat]<|ZQ g) (Ys _)<|by have:=f.al l[i.toNat]<|ZQ g;simp;omega) λx o=>by
   rcases aDy o with rfl | o
   .exact j l[i.toNat]<|ZQ g
   .exact j x o)
theorem aMS{α:Type}{P:α->Prop}{c:Nat->Bool}{g:Nat->Nat->Option α}(K:Nat)(b:∀n,K<=n->c n=true)(h:aB g P): aB (λn m=>Av.bnd (Na<|c n) λ_=>g n m) P:=by
 let⟨r,a,J,d⟩:=h;refine⟨r,a,max K J,λn m f i=>?_⟩;show Av.bnd (Na<|c n) (λ_=>g n m)=some r;rw[b n<|by omega];exact d n m (by omega)<|by omega
theorem aUD: Si:=by
 intro p cs m g t j o;have v:=g.n;have u:=j.1;refine aU (λ_=>rfl)<|aMS (c:=λn=>decide<|cs.length<n/\p.Nodes.length<n/\cs.length<=190000/\p.Nodes.length<=9000) 200000 (λn h=>Yk<|by omega) ?_;refine aD (aM1 p g 400000 cs [⟨0,[],[],[]⟩] [] ⟨by simp,by simp,by simp,by simp,by simp,?_⟩ (by simp;omega) j.2.2 (by simp) (by simpa using j.2.1)<|by simpa using j.2.1) λq f=>aD (aQt p g t m o 400000 q.2 q.1 0 f.1 f.2.2.1 λa d=>by rw[(f.2.2.2 a d).1];have:=(f.2.2.2 a d).2;simpa using this) λl b=>?_
 .intro i a w d;have:=(Zd.1 d).1;simp at this;omega
 .have k:=f.2.1;simp only[Z2,Z0] at k;let⟨b,s⟩:=b;refine aB.imp (aM0 p g m o 200000 400000 p.Nodes l 0 ⟨b.al,b.l1,b.l2,b.ou,λa d=>⟨by have:=(b.inn a d).1;omega,(b.inn a d).2⟩,b.ne⟩ s) λr e=>⟨λa d=>by have:=e.1.al a d;omega,e.2,e.1.l1,e.1.l2,e.1.ou,e.1.inn,e.1.ne⟩
theorem aIh(g:dR)(l:List Int)(b:l.length<=300)(i:Nat)(m:List (Int×Int)): Tt (λn k=>qF uO n k (g,l,ln l) (m,(i:Int))):=
 bZ (bA (λx d a=>by
  rw[bS (by omega)];exact aIh g l b (i+1) _)
  (λc=>aA trivial))
termination_by l.length-i
theorem aIi(l:List dR)(d:l.length<=200000)(a:∀x∈l,x.Alone.length<=300)(i:Nat)(m:List (Int×Int)): Tt (λn k=>qF uP n k (l,ln l) (m,(i:Int))):=
 bZ (bA (λx c b=>by
  rw[bS (by omega)];exact aD (aW (aIh x x.Alone (a x (Zg c)) 0 m)) λ_ _=>aIi l d a (i+1) _)
  (λe=>aA trivial))
termination_by l.length-i
theorem aIg(p:aM)(c:Sm p): Tt (λn _=>nX n p):=by
 obtain⟨v,e,_,a,_⟩:=SM aUD p c;exact aU (λ_=>rfl) (aD e λw b=>by
  subst b;exact aD (aW (aIi w.1 a.1 (λx d=>(a.2 x d).2.2) 0 [])) λ_ _=>aA trivial)
theorem aWp: O1:=λp q x b a=>aU (λ_=>rfl) (aD (aIg p b) λ_ _=>aD (aIg q a) λ_ _=>aA trivial)
end Go.Proofs.YtmcgghedgfkjiaaGreatDoor.Av
