/- A part of the proof of a law. -/
import Derived.Test.YtabioopnpgiijaaGreatDoorP10
import Derived.Test.YtabioopnpgiijaaGreatDoorP7
import Derived.Test.YtabioopnpgiijaaGreatDoorP6
set_option maxRecDepth 100000
set_option maxHeartbeats 4000000
set_option linter.all false
namespace Go.Proofs.YtabioopnpgiijaaGreatDoor.Av
open Go
theorem Li.fe{s:aJ}(h:Li s): FeI s.Features s.Features.length 0:=⟨rfl,λj f a=>by have:=h.f f<|Zg a;omega,λj f _ a=>h.f f<|Zg a⟩
theorem Li.ar{s:aJ}(h:Li s): nA s.Plan.Arcs s.Plan.Arcs.length:=⟨rfl,h.ok.p.v⟩
def D2(l:List aG): Prop:=l.length<=1000/\∀f∈l,f.Parts.length<=1000
theorem Li.fs{s:aJ}(h:Li s): D2 s.Features:=⟨h.ok.n,h.ok.f⟩
theorem D2.set{l:List aG}(h:D2 l){i:Nat}{g:aG}(b:g.Parts.length<=1000): D2<|l.set i g:=⟨by rw[Yr];exact h.1,λf a=>by
 rcases YL a with a | rfl
 .exact h.2 f a
 .exact b⟩
theorem aTm(s:aJ)(a:Li s)(b:List Int)(g:aO): aB (λn _=>Gw n (s.Plan.Faces,b,s.Plan.Nodes,s.Plan.Arcs,s.Features,g)) (Su (λv=>v≠0) λv=>v.1.length<=65/\nA v.2.1 s.Plan.Arcs.length/\v.2.2.1.length=s.Features.length/\∀x∈v.2.2.1,x.Parts.length<=65):=by
 have i:=a.v.leF;have d:=a.v.leA;have e:=a.n;refine aS<|aP (f:=λn _=>Gd n (s.Plan.Faces,s.Plan.Nodes,s.Plan.Arcs,s.Features,g)) (Q:=λv:Int=>v≠0) (R:=λ_=>True) (aD (QP s.Plan.Faces g.ID<|by omega) λ_ _=>aC (λ_=>aD (QP s.Plan.Faces g.A<|by omega) λ_ _=>aC (λ_=>aA<|show (8:Int)≠0 by decide) λ_=>aA trivial) λ_=>aA<|show (7:Int)≠0 by decide) (λ_ h=>aA<|by exact h) λ_ _=>aF rfl ?_;exact aD (aTo s.Plan.Faces b s.Plan.Nodes s.Plan.Arcs s.Features g.ID g.A (by omega) a.ar (by omega) a.fe<|by omega) λm c=>aA ⟨by have:=c.1;show m.1.length<=65;omega,c.2.1,c.2.2.1,c.2.2.2⟩
theorem aTl(s:aJ)(p:Li s)(b:List Int)(g:aO)(d:aIb g): aB (λn _=>Gv n (s.Plan.Faces,b,s.Plan.Nodes,s.Plan.Arcs,s.Features,g))<|Su (λv=>D2 v.1)<|Su (λv=>D2<|win v.2<|some v.1) λv=>D2 v.1:=by
 have x:=p.n;have c:=p.fs;refine aS<|aD (aC5 s g.ID<|by omega) λl i=>aC (λo=>?_) λo=>?_
 .have a:=i.2.2 o;let⟨q,w⟩:∃q:Nat,l.1=(q:Int):=⟨l.1.toNat,by have:=i.1;omega⟩;rw[w] at a |-;have a:q<s.Features.length:=by simpa using a
  have e:=Zb a;have m:gR s.Features s.Features.length (q:Int)=some s.Features[q]:=by rw[jE a];exact e
  have e2:idx s.Features (q:Int)=some s.Features[q]:=by rw[bF];exact e
  have r:=c.2 _<|ZP a;rw[bO<|by omega];refine aC (λ_=>aA<|by exact c) λ_=>aC (λ_=>aP (aKs s.Plan.Faces b s.Plan.Nodes s.Plan.Arcs s.Features (by omega) q a) (λ_ h=>h.elim) λv u=>aF rfl<|aA ?_) λ_=>aC (λ_=>aF m<|aF e2<|aA ?_) λ_=>aC (λ_=>aF m<|aF e2<|aA ?_) λ_=>aC (λ_=>aD (aMm g.Parts<|by have:=d.2;omega) λt j=>aF m<|aF e2<|aA ?_) λ_=>aA<|by exact c
  .subst u;refine⟨by simp[win];omega,λf k=>?_⟩;rcases aCL _ _ _ f (aES k) with h | rfl
   .exact c.2 f h
   .simp
  .exact c.set r
  .exact c.set r
  .exact c.set<|by subst j;have:=d.2;show g.Parts.length<=1000;omega
 .refine aC (λ_=>aD (aMm g.Parts<|by have:=d.2;omega) λt j=>aS<|aF (aAj i.1 i.2.1<|by omega)<|aA ?_) λ_=>aA (by exact c);subst j;refine⟨by simp;omega,λf k=>?_⟩;rcases aFZ k with h | rfl
  .exact c.2 f h
  .have:=d.2;show g.Parts.length<=1000;omega
theorem aEP.mem{l:List Int}{k:Nat}(h:aEP l k){x:Int}(a:x∈l): 1<=x/\x.toNat<=k:=by
 rw[h] at a;obtain⟨j,b,rfl⟩:=Yh.1 a;have:=Ws.1 b;omega
theorem SzR.da{r:dW}(h:SzR r.Outer r.Inner r.Alone): aNp r:=⟨by have:=h.1;omega,h.2.1.1⟩
theorem aSW(g:aO)(x y:Int): aB (λn _=>Gp n (g,x,y)) λr=>r=x\/r=y:=aC (λ_=>aA<|.inl rfl) λ_=>aA<|.inr rfl
theorem aSV(a:List Aab)(b:List Int)(c:List aQ)(d f:Int)(e:b.length<=1000): aB (λn _=>Gn n (a,b,c,d,f))<|Su (λv=>v≠0) λ_=>True:=
 aC (λ_=>aA<|show (12:Int)≠0 by decide) λ_=>aD (QP b f<|by omega) λ_ _=>aC (λ_=>aA<|show (8:Int)≠0 by decide) λ_=>aC (λ_=>aA<|show (12:Int)≠0 by decide) λ_=>aA trivial
theorem aSU(s:aJ)(a:mO s)(f g:Int): Tt λn _=>Gl n (s.Plan.Faces,s.Plan.Nodes,s.Plan.Arcs,s.Features,f,g):=
 aC (λ_=>aD (UG s a 3 f) λi b=>aD (UG s a 3 g) λj _=>aD (aNn i j<|by omega) λ_ _=>aC (λ_=>aA trivial) λ_=>aA trivial) λ_=>aA trivial
theorem aNd{α:Type}{P:α->Prop}{g:Nat->Nat->Option α}(h:aB g P): aB (λn m=>Av.bnd (Av.prd n) λ_=>g n m) P:=by
 let⟨r,a,K,b⟩:=h;refine⟨r,a,K+1,λn m c d=>?_⟩;obtain⟨n,rfl⟩:∃k,n=k+1:=⟨n-1,by omega⟩;exact b (n+1) m (by omega)<|by omega
def L19(s:aJ)(v:List Int×List aG×List aQ×List aQ×aK): Prop:=v.1.length<=65/\(v.2.1.length<=1000/\∀f∈v.2.1,f.Parts.length<=65)/\nA v.2.2.1 (s.Plan.Arcs.length+1)
theorem aTq(hD:Ec)(s:aJ)(o:Li s)(b:List Int)(g:aO)(hg:aIb g): aB (λn _=>Ha n (s.Plan.Faces,b,s.Plan.Nodes,s.Plan.Arcs,s.Features,g))<|Su (λ_=>True)<|Su (λ_=>True)<|Su (λ_=>True)<|L19 s:=by
 have ok:=o.ok;have h1:=o.v.leA;have h2:=o.v.leN;have h3:=o.v.leF;have h4:=o.n;refine aS<|aD (aAJ s g.ID<|by omega) λm J=>aC (λ_=>aA trivial) λ_=>aD (FQ s g.A<|by omega) λ_ _=>aC (λ_=>aD (FQ s g.B<|by omega) λ_ _=>aC (λ_=>?_) λ_=>aA trivial) λ_=>aD (FQ s g.B<|by omega) λ_ _=>aC (λ_=>aA trivial) λ_=>aA trivial;refine aD (aRW s.Plan.Arcs<|by omega) λsa O=>aD (aPx g.Via<|by have:=hg.1;omega) λt ht=>?_;subst O ht;refine aNd<|aF (aAj J.1 J.2.1<|by omega) ?_;let⟨q,R⟩:∃q:Nat,m.1=(q:Int):=⟨m.1.toNat,by have:=J.1;omega⟩;have a1:q<=s.Plan.Arcs.length:=by have:=J.2.1;omega
 generalize X:(s.Plan.Arcs.take m.1.toNat++(⟨g.ID,g.A,g.B,g.Via,0,0⟩:aQ)::s.Plan.Arcs.drop m.1.toNat)=u;have I:nA u<|s.Plan.Arcs.length+1:=by
  refine⟨by rw[<-X,R];simp;omega,λa ha=>?_⟩;rw[<-X] at ha;rcases aFZ ha with h | rfl
  .exact ok.p.v a h
  .have:=hg.1;show g.Via.length<=300;omega
 have G:Sm ⟨s.Plan.Nodes,u,s.Plan.Faces⟩:=⟨by show s.Plan.Nodes.length<=_;omega,by show u.length<=_;rw[I.1];omega,by show s.Plan.Faces.length<=_;omega,I.2⟩;refine aD (aGJ _ G) λ_ _=>aC (λ_=>aA trivial) λ_=>aD (aNl hD _ G) λw hw=>aC (λ_=>aA trivial) λK=>?_;let⟨U,Q⟩:=hw.2 (by simpa using K);let⟨x,T,V,l,_⟩:=OR hD w.1 hw.1;refine aD T λx' N=>?_;subst N;refine aC (λ_=>aA trivial) λS=>?_;let⟨hV,C⟩:=V (by simpa using S);have H:q<w.1.Arcs.length:=by rw[U];show q<u.length;rw[I.1];omega
 have ey:idx w.1.Arcs m.1=some w.1.Arcs[q]:=by rw[R,bF];exact Zb H
 have d:∀z:Int,(z=0\/z∈w.1.Faces)->0<=z/\z.toNat<x'.1.length:=by
  intro z F;rcases F with rfl | F
  .exact⟨Wn _,by rw[C];simp⟩
  .have:=Q.mem F;omega
 have E:=hV.sid _<|ZP H;have W:=d _ E.1;have sr:=d _ E.2;let⟨j,k0,k1,k2⟩:=I.at (i:=q) (by omega);refine aF ey<|aF ey<|aF (yK W.1 W.2)<|aF (yK sr.1 sr.2)<|aD (aIo _ ok.p g.ID [_,_] (by simp) (by
  intro r M;rcases ZN.1 M with rfl | M
  .exact (l.2 _<|ZP _).da
  .rw[ZJ.1 M];exact (l.2 _<|ZP _).da)) λc0 _=>?_
 rw[R];refine aF k1<|aF k2 ?_;simp only[YA];have y:nA (u.set q ⟨j.ID,j.From,j.To,j.Via,c0,j.Right⟩)<|s.Plan.Arcs.length+1:=I.set k0 rfl;generalize u.set q ⟨j.ID,j.From,j.To,j.Via,c0,j.Right⟩=Y at y;let⟨e,j0,j1,j2⟩:=y.at (i:=q) (by omega);refine aF j1<|aF j2 ?_;have c:nA (Y.set q ⟨e.ID,e.From,e.To,e.Via,e.Left,c0⟩)<|s.Plan.Arcs.length+1:=y.set j0 rfl;generalize Y.set q ⟨e.ID,e.From,e.To,e.Via,e.Left,c0⟩=u3 at c;have D:L19 s (s.Plan.Faces,s.Features,u3,[(⟨g.ID,g.A,g.B,g.Via,0,0⟩:aQ)],w.1):=⟨by show s.Plan.Faces.length<=65;omega,⟨by show s.Features.length<=1000;omega,λf hf=>by have:=o.f f hf;omega⟩,c⟩;refine aC (λ_=>aC (λ_=>aA trivial) λ_=>aA<|by exact D) λ_=>aD (aSW g _ _) λz F=>aP (aSV _ _ _ _ _<|by omega) (λ_ _=>aA trivial) λ_ _=>aF rfl ?_;have Z:0<=z/\z.toNat<x'.1.length:=by rcases F with rfl | rfl<;>assumption
 refine aF (yK Z.1 Z.2)<|aD (aGs _ (l.2 _<|ZP _).da) λl0 L=>aD (aTp s.Plan.Faces b s.Plan.Nodes s.Plan.Arcs s.Features s.Plan.Faces u3 l0 c0 _ (by omega) ⟨rfl,c.2⟩ (by rw[c.1];omega) o.fe (by omega) L) λm0 k=>aA ?_;exact⟨by have:=k.1;show m0.1.length<=65;omega,⟨by show m0.2.1.length<=1000;rw[k.2.2.1];omega,k.2.2.2⟩,by have:=k.2.1;rw[c.1] at this;exact this⟩
def Ft(l:List aG): Prop:=l.length<=1000/\∀f∈l,f.Parts.length<=65
def Ar(l:List aQ): Prop:=l.length<=300/\∀a∈l,a.Via.length<=300
def S18(s:aJ): Int⊕(List aQ×List aQ×Int)⊕(List aQ×List aQ×List Aab×List aQ×List Int×Int)⊕(List Int×List aG×List aQ×List aQ×List Aab×List aQ×List Int)⊕(List aQ×Int)⊕(List Int×List aQ×List aG×Int×Int)⊕((Nat×Nat)×List Int×List aQ×List aG×Int×Int)⊕((Nat×Nat)×List aQ)->Prop:=
 Su (λ_=>True)<|Su (λ_=>True)<|Su (λ_=>True)<|Su (λv=>v.1.length<=300/\Ft v.2.1/\Ar v.2.2.1)<|Su (λv=>Ar v.1)<|Su (λv=>v.1.length<=300/\Ar v.2.1/\Ft v.2.2.1)<|Su (λv=>v.2.1.length<=300/\Ar v.2.2.1/\Ft v.2.2.2.1) λv=>Ar v.2
theorem nA.le{l:List aQ}{k:Nat}(h:nA l k)(a:k<=300): Ar l:=⟨by rw[h.1];exact a,h.2⟩
theorem aTr(y:Ec)(s:aJ)(f:Li s)(b:List Int)(g:aO)(l:aIb g): aB (λn _=>Hb n (s.Plan.Faces,b,s.Plan.Nodes,s.Plan.Arcs,s.Features,g))<|S18 s:=by
 have ok:=f.ok;have H:=f.v.leA;have I:=f.v.leN;have K:=f.v.leF;have J:=f.n;have d:=f.ar.le (by omega);refine aS<|aC (λ_=>aP (aTq y s f b g l) (λ_ _=>aA trivial) λu z=>?_) λ_=>?_
 .rcases u with v | u
  .exact aA trivial
  rcases u with v | v
  .exact aA trivial
  .let⟨G,E,C⟩:=z;exact aA<|show _/\_/\_ from⟨by show v.1.length<=300;omega,E,C.le<|by omega⟩
 refine aD (aAJ s g.ID<|by omega) λm o=>aC (λB=>?_) λ_=>aA (by exact d);have c:=o.2.2 B;let⟨q,x⟩:∃q:Nat,m.1=(q:Int):=⟨m.1.toNat,by have:=o.1;omega⟩;rw[x] at c |-;have c:q<s.Plan.Arcs.length:=by simpa using c
 have e:=Zb c;have k:gR s.Plan.Arcs s.Plan.Arcs.length (q:Int)=some s.Plan.Arcs[q]:=by rw[jE c];exact e
 have e2:idx s.Plan.Arcs (q:Int)=some s.Plan.Arcs[q]:=by rw[bF];exact e
 rw[bO<|by omega];refine aC (λ_=>aD (aPx g.Via<|by have:=l.1;omega) λt F=>aF k<|aF e2<|aA ?_) λ_=>aD (UG s ok 2 g.ID) λ_ _=>aC (λ_=>aA<|by exact d) λ_=>aF k<|aF e2<|aF k<|aF e2<|aD (aSU s ok _ _) λ_ _=>aC (λ_=>aA<|by exact d) λ_=>aP (aKt s.Plan.Faces b s.Plan.Nodes s.Features s.Plan.Arcs (by omega) q c) (λ_ h=>h.elim) λv D=>aF rfl ?_
 .show Ar<|List.set _ _ _;refine⟨by rw[Yr];exact d.1,λa i=>?_⟩;rcases YL i with i | rfl
  .exact d.2 a i
  .subst F;have:=l.1;show g.Via.length<=300;omega
 .subst D;have w:nA (IL s.Plan.Arcs ⟨0,0,0,[],0,0⟩ q) (IL s.Plan.Arcs ⟨0,0,0,[],0,0⟩ q).length:=⟨rfl,λa i=>by
   rcases aCL _ _ _ a i with h | rfl
   .exact ok.p.v a h
   .simp⟩
  have A:=aKr s.Plan.Arcs ⟨0,0,0,[],0,0⟩ (by omega) q c;refine aC (λ_=>aD (aTn (s.Plan.Arcs.length-1) s.Plan.Faces b s.Plan.Nodes (IL s.Plan.Arcs ⟨0,0,0,[],0,0⟩ q) s.Features _ _ (by omega) w (by omega) (by omega) f.fe<|by omega) λr j=>aA ?_) λ_=>aA (by exact w.le<|by omega);exact (show _/\_/\_ from⟨by have:=j.1;show r.1.length<=300;omega,j.2.1.le<|by omega,by rw[j.2.2.1];omega,j.2.2.2⟩)
theorem RK{n:List Aab}{a:List aQ}{f:List Int}{l:List aG}(e:n.length<=300)(c:Ar a)(d:f.length<=300)(b:D2 l): mO ⟨⟨n,a,f⟩,l⟩:=⟨⟨e,c.1,d,c.2⟩,b.1,b.2⟩
theorem Ft.ok{l:List aG}(h:Ft l): D2 l:=⟨h.1,λf a=>by have:=h.2 f a;omega⟩
theorem Ar.win{l:List aQ}(h:Ar l)(w:Option<|Nat×Nat): Ar<|win l w:=⟨by
 cases w with
 | none=>exact h.1
 | some w=>simp only[Av.win];rw[ZH,ZV];have:=h.1;omega,λa b=>h.2 a<|aES b⟩
theorem aLH(d:Ec)(e:A1)(s:aJ)(a:Li s)(g:aO)(b:List Int): aB (λn _=>bnd2 (uV n (s.Plan.Faces,b,s.Plan.Nodes,s.Plan.Arcs,s.Features,g)) (λf=>(bnd (cG n (s.Plan.Faces,f.1,s.Plan.Arcs,s.Features,f.2)) λq=>(bnd (eA n (s,g,s.Plan.Faces,f.1,s.Plan.Arcs,s.Features,q,g.ID)) λh=>(cnd (h != 0) (some ((aJ.mk (aK.mk [] [] []) []),h))<|some ((aJ.mk (aK.mk f.1 s.Plan.Arcs s.Plan.Faces) s.Features),0))))) λi=>(bnd2 (some i) (λj=>(bnd (tK n (j.1,s.Plan.Faces,j.2,s.Plan.Arcs,s.Features,0)) λl=>(bnd (tJ n (s,g,j.1,s.Plan.Faces,j.2,s.Plan.Arcs,s.Features,l,g.ID)) λm=>(cnd (m != 0) (some ((aJ.mk (aK.mk [] [] []) []),m))<|some ((aJ.mk (aK.mk (win j.2<|some j.1) s.Plan.Arcs s.Plan.Faces) s.Features),0))))) λo=>(bnd (some o) λr=>(bnd (cG n (s.Plan.Faces,r.1,s.Plan.Arcs,s.Features,0)) λq=>(bnd (eA n (s,g,s.Plan.Faces,r.1,s.Plan.Arcs,s.Features,q,g.ID)) λt=>(cnd (t != 0) (some ((aJ.mk (aK.mk [] [] []) []),t))<|some ((aJ.mk (aK.mk r.1 s.Plan.Arcs s.Plan.Faces) s.Features),0)))))) ) λr=>r.2=0->Li r.1:=by
 have ok:=a.ok;have c:=a.ar.le (by have:=a.v.leA;omega);have k:s.Plan.Faces.length<=300:=by have:=a.v.leF;omega
 refine aP (aUW s a b g) (λv x=>?_) λu w=>?_
 .have o:=RK (n:=v.1) (show v.1.length<=300 from ZB x (by decide)) c k a.fs;exact vI (g:=λ_ _=>none) 0 (B6 d _ _ _ _ _ o) λr=>aHU e s g _ _ _ _ r g.ID ok.p o.p
 .rcases u with v | v
  .have o:=RK (n:=win v.2<|some v.1) (show _<=300 from ZB w (by decide)) c k a.fs;exact vI (g:=λ_ _=>none) 0 (aSY d _ _ _ _ _ _ o) λr=>aSX e s g _ _ _ _ _ r g.ID ok.p o.p
  .have o:=RK (n:=v.1) (show v.1.length<=300 from ZB w (by decide)) c k a.fs;exact vI (g:=λ_ _=>none) 0 (B6 d _ _ _ _ _ o) λr=>aHU e s g _ _ _ _ r g.ID ok.p o.p
theorem aOW(a:Ec)(d:A1)(s:aJ)(e:Li s)(g:aO)(l:aIb g): aB (λn _=>wW n s g) λr=>r.2=0->Li r.1:=by
 have ok:=e.ok;have h:s.Plan.Nodes.length<=300:=by have:=e.v.leN;omega
 have i:=e.ar.le (by have:=e.v.leA;omega);have k:s.Plan.Faces.length<=300:=by have:=e.v.leF;omega
 refine aV (λ_=>rfl)<|aD (aRJ s ok) λc m=>?_;subst m;refine aD (f:=λn _=>Ko n g.Kind) (Q:=λ_=>True) (by repeat' first|apply dU|apply aC|apply bE|intro) λ_ _=>aC (λ_=>aLH a d s e g s.Plan.Faces) λ_=>aD (f:=λn _=>Gq n g.Kind) (Q:=λ_=>True) (by repeat' first|apply dU|apply aC|apply bE|intro) λ_ _=>aC (λ_=>aP (aTr a s e s.Plan.Faces g l) (λv _=>?_) λu b=>?_) λ_=>aC (λ_=>aP (aTm s e s.Plan.Faces g) (λv _=>?_) λv j=>aF rfl ?_) λ_=>aP (aTl s e s.Plan.Faces g l) (λv j=>?_) λu b=>?_
 .exact vI (g:=λ_ _=>none) 0 (B6 a _ _ _ _ _ ok) λr=>aHU d s g _ _ _ _ r 0 ok.p ok.p
 .rcases u with v | u
  .exact vI (g:=λ_ _=>none) 0 (B6 a _ _ _ _ _ ok) λr=>aDo d s g _ _ _ _ r ok.p ok.p
  rcases u with v | u
  .exact vI (g:=λ_ _=>none) 0 (B6 a _ _ _ _ _ ok) λr=>aDo d s g _ _ _ _ r ok.p ok.p
  rcases u with v | u
  .have o:=RK h b.2.2 b.1 b.2.1.ok;exact vI (g:=λ_ _=>none) 0 (aST a _ _ _ _ _ o) λr=>aSS d s g _ _ _ _ r ok.p o.p
  rcases u with v | u
  .have o:=RK h b k e.fs;exact vI (g:=λ_ _=>none) 0 (B6 a _ _ _ _ _ o) λr=>aHU d s g _ _ _ _ r 0 ok.p o.p
  rcases u with v | u
  .have o:=RK h b.2.1 b.1 b.2.2.ok;exact vI (g:=λ_ _=>none) 0 (B6 a _ _ _ _ _ o) λr=>aDo d s g _ _ _ _ r ok.p o.p
  rcases u with v | v
  .have o:=RK h (b.2.1.win<|some v.1) b.1 b.2.2.ok;exact vI (g:=λ_ _=>none) 0 (aOf a _ _ _ _ _ _ o) λr=>aOe d s g _ _ _ _ _ r ok.p o.p
  .have o:=RK h (Ar.win b<|some v.1) k e.fs;exact vI (g:=λ_ _=>none) 0 (aOf a _ _ _ _ _ _ o) λr=>aOe d s g _ _ _ _ _ r ok.p o.p
 .exact vI (g:=λ_ _=>none) 0 (B6 a _ _ _ _ _ ok) λr=>aHU d s g _ _ _ _ r 0 ok.p ok.p
 .have o:=RK h (j.2.1.le<|by have:=e.v.leA;omega) (show v.1.length<=300 from ZB j.1 (by decide))<|Ft.ok ⟨by rw[j.2.2.1];have:=e.n;omega,j.2.2.2⟩;exact vI (g:=λ_ _=>none) 0 (B6 a _ _ _ _ _ o) λr=>aDo d s g _ _ _ _ r ok.p o.p
 .have o:=RK h i k j;exact vI (g:=λ_ _=>none) 0 (B6 a _ _ _ _ _ o) λr=>aHU d s g _ _ _ _ r 0 ok.p o.p
 .rcases u with v | v
  .have o:=RK h i k<|show D2 (win v.2<|some v.1) from b;exact vI (g:=λ_ _=>none) 0 (aSR a _ _ _ _ _ _ o) λr=>aSQ d s g _ _ _ _ _ r ok.p o.p
  .have o:=RK h i k<|show D2 v.1 from b;exact vI (g:=λ_ _=>none) 0 (B6 a _ _ _ _ _ o) λr=>aDo d s g _ _ _ _ r ok.p o.p
theorem aAI{l:List Int}(h:L0 l): As l:=by
 have:∀(i j:Nat) (x y:Int),i<j->l[i]?=some x->l[j]?=some y->x<y:=by
  intro i j
  induction j with
  | zero=>intro x y hi;omega
  | succ j ih=>
   intro x y hi hx hy
   have hlt:j<l.length:=by have:=(Ze.1 hy).1;omega
   have em:=Zb hlt
   have h1:=h j _ y em hy
   rcases ZI i j with h2 | h2
   .have:=ih x _ h2 hx em;omega
   .have:i=j:=by omega
    subst this
    rw[em] at hx;cases hx;exact h1
 exact List.pairwise_iff_getElem.2 λi j hi hj hij=>this i j _ _ hij (Zb hi) (Zb hj)
theorem aJR{a b:Int}(h:0<=a)(k:0<=b): 0<=pO a b/\pO a b<=a/\pO a b<=b/\(pO a b=a\/pO a b=b):=by
 unfold pO
 split<;>omega
theorem aIn{x:Int}(h:-1000000<=x/\x<=1000000): wr x=x:=by rw[wr,i64_in _ (by omega)]
theorem aSs(p:aK)(c d:Int): aB (λn _=>B3 n (p,60,c,d)) λr=>r=true↔d<ln p.Arcs/\c<=60:=
 aC (λh=>aC (λk=>aA ⟨λ_=>⟨Zl h,Zl k⟩,λ_=>rfl⟩) λk=>aA ⟨by simp,λq=>absurd q.2 (Zp k)⟩) λh=>aA ⟨by simp,λq=>absurd q.1 (Zp h)⟩
theorem aNL(p:aK)(hl:p.Arcs.length<=60)(i:Nat)(c:Int)(h0:0<=c)(h1:c<=122)(hu:c<=60->lK p.Arcs i λa=>a.Via.length<=60): aB (λn m=>mX Jo n m (p,60) (c,(i:Int))) λr=>r<=60->∀a∈p.Arcs,a.Via.length<=60:=
 bU (aD (aSs p c i) λr hr=>aC (λh=>by
  obtain⟨hi,hc⟩:=hr.1 h
  have hi:i<p.Arcs.length:=by unfold ln at hi;omega
  have em:=Zb hi
  refine aF (x:=p.Arcs[i]) (by rw[bF];exact em) ?_
  have b:=aJR (a:=ln p.Arcs[i].Via) (b:=61) (by unfold ln;omega) (by decide)
  rw[bO (i:=i) (by omega),show wr (60+1)=61 from aIn (by decide),aIn (x:=c+_) (by omega)]
  refine aNL p hl (i+1) _ (by omega) (by omega) λk=>(hu hc).step em ?_
  have:ln p.Arcs[i].Via<=60:=by omega
  unfold ln at this
  omega) λh=>aA λk=>(hu k).fin (by
   have:¬((i:Int)<ln p.Arcs/\c<=60):=λq=>by rw[hr.2 q] at h;cases h
   unfold ln at this
   omega))
termination_by p.Arcs.length-i
theorem aM3(p:aK): aB (λn _=>aAX n p 60) λr=>r=true->Sm p:=by
 refine aV (λ_=>rfl) (aD (f:=λn _=>B5 n (p,60)) (Q:=λr=>r=false->p.Nodes.length<=60/\p.Arcs.length<=60/\p.Faces.length<=60) (aC (λ_=>aA (by simp)) λh=>aC (λ_=>aA (by simp)) λk=>aC (λ_=>aA (by simp)) λj=>aA λ_=>by
  have h:=Zp h
  have k:=Zp k
  have j:=Zp j
  unfold ln at h k j
  exact⟨by omega,by omega,by omega⟩) λr hr=>aC (λ_=>aA (by simp)) λh=>aD (aX (aNL p (hr h).2.1 0 0 (by omega) (by omega) λ_=>.nil)) λd hd=>aC (λk=>aA λ_=>?_) λ_=>aA (by simp))
 have q:=hr h
 exact⟨by omega,by omega,by omega,λa ha=>by have:=hd (Zl k) a ha;omega⟩
theorem aSr(s:aJ)(c d:Int): aB (λn _=>A8 n (s,60,c,d)) λr=>r=true↔d<ln s.Features/\c<=60:=
 aC (λh=>aC (λk=>aA ⟨λ_=>⟨Zl h,Zl k⟩,λ_=>rfl⟩) λk=>aA ⟨by simp,λq=>absurd q.2 (Zp k)⟩) λh=>aA ⟨by simp,λq=>absurd q.1 (Zp h)⟩
theorem aNK(s:aJ)(hl:s.Features.length<=60)(i:Nat)(c:Int)(h0:0<=c)(h1:c<=122)(hu:c<=60->lK s.Features i λa=>a.Parts.length<=60): aB (λn m=>mX Jn n m (s,60) (c,(i:Int))) λr=>r<=60->∀a∈s.Features,a.Parts.length<=60:=
 bU (aD (aSr s c i) λr hr=>aC (λh=>by
  obtain⟨hi,hc⟩:=hr.1 h
  have hi:i<s.Features.length:=by unfold ln at hi;omega
  have em:=Zb hi
  refine aF (x:=s.Features[i]) (by rw[bF];exact em) ?_
  have b:=aJR (a:=ln s.Features[i].Parts) (b:=61) (by unfold ln;omega) (by decide)
  rw[bO (i:=i) (by omega),show wr (60+1)=61 from aIn (by decide),aIn (x:=c+_) (by omega)]
  refine aNK s hl (i+1) _ (by omega) (by omega) λk=>(hu hc).step em ?_
  have:ln s.Features[i].Parts<=60:=by omega
  unfold ln at this
  omega) λh=>aA λk=>(hu k).fin (by
   have:¬((i:Int)<ln s.Features/\c<=60):=λq=>by rw[hr.2 q] at h;cases h
   unfold ln at this
   omega))
termination_by s.Features.length-i
theorem aM2(s:aJ): aB (λn _=>aAT n s 60) λr=>r=true->mO s:=by
 refine aV (λ_=>rfl) (aD (f:=λn _=>A9 n (s,60)) (Q:=λr=>r=false->Sm s.Plan/\s.Features.length<=60) (aD (aM3 s.Plan) λc hc=>aC (λz=>aC (λ_=>aA (by simp)) λj=>aA λ_=>⟨hc z,?_⟩) λ_=>aA (by simp)) λr hr=>aC (λ_=>aA (by simp)) λh=>aD (aX (aNK s (hr h).2 0 0 (by omega) (by omega) λ_=>.nil)) λd hd=>aC (λk=>aA λ_=>⟨(hr h).1,by have:=(hr h).2;omega,λf hf=>by have:=hd (Zl k) f hf;omega⟩) λ_=>aA (by simp))
 have j:=Zp j
 unfold ln at j
 omega
theorem aSj(l:List aO)(hl:l.length<=1000)(i:Nat)(c:Int): Tt λn m=>mX qU n m (l,400) (c,(i:Int)):=
 bU (aD (f:=λn _=>Lj n (l,400,c,(i:Int))) (Q:=λr=>r=true->i<l.length) (aC (λh=>aC (λk=>aA λ_=>by have:=Zl h;unfold ln at this;omega) λk=>aA (by simp)) λh=>aA (by simp)) λr hr=>aC (λh=>by
  have hi:=hr h
  have e:idx l (i:Int)=some l[i]:=by rw[bF];exact Zb hi
  refine aF e (aF e (aF e ?_))
  rw[bO (i:=i) (by omega)]
  exact aSj l hl (i+1) _) λ_=>aA trivial)
termination_by l.length-i
theorem aM1(s:aJ)(g:aO): aB (λn _=>UF n s [g]) λr=>r=true->mO s:=
 aV (λ_=>rfl) (aD (aM2 s) λc hc=>aC (λz=>aD (f:=λn _=>Jm n [g] 400) (Q:=λ_=>True) (aV (λ_=>rfl) (aD (aX (aSj [g] (by simp) 0 0)) λd _=>aC (λ_=>aA trivial) λ_=>aA trivial)) λd _=>aC (λ_=>aA λ_=>hc z) λ_=>aA (by simp)) λ_=>aA (by simp))
theorem aR8(x:Int): aB (λn _=>dZ n x) λr=>r=true->x≠0:=
 aS (aC (λh=>aC (λ_=>aA λ_=>by have:=Zl h;omega) λ_=>aA (by simp)) λ_=>aA (by simp))
theorem aHa(e:aO)(b:e.Via.length<=1000)(a:e.Parts.length<=1000): aB (λn _=>Cc n e) λr=>r=true->e.Kind=12->e.A≠0:=by
 have c:TC λn=>fY n e.Via:=⟨aR7 _ b⟩
 have f:TC λn=>fX n e.Parts:=⟨aR6 _ a⟩
 by_cases k:e.Kind=12
 .refine aV (λ_=>rfl) (aC (λz=>absurd (show e.Kind=4 by simpa using z) (by omega)) λ_=>aC (λ_=>aD (aR8 e.A) λr hr=>aC (λh=>aB.imp (P:=λ_=>True) ?_ λ_ _ _ _=>hr h) λ_=>aA (by simp)) λz=>absurd k (by simpa using z))
  repeat' first|apply dU|apply aC|apply bE|intro
 .exact (aIR e b a).imp λ_ _ _ q=>absurd q k
theorem aMD(e:aO): aB (λn _=>tO n e) λr=>r=0->aIb e/\(e.Kind=12->e.A≠0):=by
 refine aV (λ_=>rfl) (bE λ_=>aC (λ_=>aA (by simp)) λ_=>bE λ_=>aC (λ_=>aA (by simp)) λ_=>bE λ_=>aC (λ_=>aA (by simp)) λ_=>aD (f:=λn _=>Uv n e) (Q:=λr=>r=false->aIb e) (aC (λ_=>aA (by simp)) λb=>aC (λ_=>aA (by simp)) λc=>aA λ_=>?_) λr d=>aC (λ_=>aA (by simp)) λh=>?_)
 .have b:=Zp b
  have c:=Zp c
  unfold ln at b c
  exact⟨by omega,by omega⟩
 .have a:=d h
  exact aD (aHa e (by have:=a.1;omega) (by have:=a.2;omega)) λr hr=>aC (λz=>aD (aJT e.Parts (by have:=a.2;omega)) λ_ _=>aC (λ_=>bE λ_=>aC (λ_=>aA (by simp)) λ_=>aA λ_=>⟨a,hr z⟩) λ_=>aA (by simp)) λ_=>aA (by simp)
theorem aEA: ∀n,fN (n+100)=some true:=by intro n;kernel_rfl
theorem OJ: aB (λn _=>fN n) λr=>r=true:=⟨true,rfl,100,λn m a _=>by
 obtain⟨k,rfl⟩:∃k,n=k+100:=⟨n-100,by omega⟩
 exact aEA k⟩
theorem aSJ: aB (λn _=>bnd (fN n) λf=>cnd f (some true) (some false)) λr=>r=true:=
 aD OJ λf hf=>aC (λ_=>aA rfl) λz=>by rw[show f=true from hf] at z;cases z
theorem shE(k:Int): ∃v:Int,aB (λn _=>cM n k) λr=>r=v:=by
 obtain⟨v,_,h⟩:=(TC.h (f:=λn=>cM n k)).val
 exact⟨v,h⟩
noncomputable def shV(k:Int): Int:=(shE k).choose
theorem aFi(k:Int): aB (λn _=>cM n k) λr=>r=shV k:=(shE k).choose_spec
def Lab(p:aK)(x:Int): Prop:=∃a,a∈p.Arcs/\(a.Left=x\/a.Right=x)
def vD(p:aK)(k x:Int): Prop:=(shV k=1/\(dE p x).2=true)\/(shV k=2/\(vC p x).2=true)\/(shV k=3/\x∈p.Faces)
structure SvX(s:aJ): Prop where
 ne:∀f∈s.Features,f.Parts≠[]
 sh:∀f∈s.Features,shV f.Kind≠0
 pt:∀f∈s.Features,∀x∈f.Parts,vD s.Plan f.Kind x
 asc:L0 (s.Features.map aG.ID)
 lb:∀x∈s.Plan.Faces,Lab s.Plan x
theorem c5x(x:aG): aB (λn _=>hJ n x) λr=>r=false->x.Parts≠[]:=by
 refine aC (λ_=>aA (by simp)) λh=>?_
 have ne:x.Parts≠[]:=λe=>by rw[e] at h;simp[ln] at h
 exact aD (aFi _) λc _=>aC (λ_=>aC (λ_=>aA λ_=>ne) λ_=>aA λ_=>ne) λ_=>aA λ_=>ne
theorem aVa(x:aG): aB (λn _=>qC n x) λr=>r=false->x.Parts≠[]:=
 aS (aD (c5x x) λc h=>aC (λ_=>aA (by simp)) λz=>aA λ_=>h z)
theorem aUY(x:aG): aB (λn _=>pZ n x) λr=>r=false->shV x.Kind≠0:=
 aS (aD (aFi _) λc h=>aC (λ_=>aA (by simp)) λz=>aA λ_=>by rw[<-show c=_ from h];simpa using z)
theorem aTh(l:List aG)(hl:l.length<=1000)(i:Nat)(hu:lK l i λf=>f.Parts≠[]): aB (λn m=>oR hU n m (l,ln l) (i:Int)) (Su (λv=>0<=v.2) λ_=>∀f∈l,f.Parts≠[]):=
 bK (aW (λx e c=>by
  rw[bO (i:=i) (by omega)]
  exact aD (aVa x) λr h=>aC (λ_=>aA (show (0:Int)<=i by omega)) λz=>aTh l hl (i+1) (hu.step e (h z))) λh=>aA (hu.fin h))
termination_by l.length-i
theorem aVb(l:List aG)(hl:l.length<=1000): aB (λn _=>qE n l) (Su (λv=>v.2=true) λ_=>∀f∈l,f.Parts≠[]):=
 aS (aP (f:=λn _=>qD n l) (Q:=λv:aG×Int=>(0:Int)<=v.2) (R:=λ_=>∀f∈l,f.Parts≠[]) (aS (aP (aX (aTh l hl 0 .nil)) (λv h=>aA (show 0<=v.2 from h)) λ_ h=>aF rfl (aA (by exact h)))) (λv h=>aC (λ_=>aA rfl) λz=>absurd h (Zp z)) λ_ h=>aF rfl (aA (by exact h)))
theorem aTg(l:List aG)(hl:l.length<=1000)(i:Nat)(hu:lK l i λf=>shV f.Kind≠0): aB (λn m=>oR hM n m (l,ln l) (i:Int)) (Su (λv=>0<=v.2) λ_=>∀f∈l,shV f.Kind≠0):=
 bK (aW (λx e c=>by
  rw[bO (i:=i) (by omega)]
  exact aD (aUY x) λr h=>aC (λ_=>aA (show (0:Int)<=i by omega)) λz=>aTg l hl (i+1) (hu.step e (h z))) λh=>aA (hu.fin h))
termination_by l.length-i
theorem aUZ(l:List aG)(hl:l.length<=1000): aB (λn _=>qB n l) (Su (λv=>v.2=true) λ_=>∀f∈l,shV f.Kind≠0):=
 aS (aP (f:=λn _=>qA n l) (Q:=λv:aG×Int=>(0:Int)<=v.2) (R:=λ_=>∀f∈l,shV f.Kind≠0) (aS (aP (aX (aTg l hl 0 .nil)) (λv h=>aA (show 0<=v.2 from h)) λ_ h=>aF rfl (aA (by exact h)))) (λv h=>aC (λ_=>aA rfl) λz=>absurd h (Zp z)) λ_ h=>aF rfl (aA (by exact h)))
theorem I4x(p:aK)(hp:Sm p)(f:aG)(x:Int): aB (λn _=>nS n (p,f,x)) λr=>r=false->vD p f.Kind x:=by
 refine aS (aD (aFi _) λc h=>?_)
 have h:c=shV f.Kind:=h
 subst h
 refine aC (λz=>aD (Jq p hp x) λr hr=>aC (λy=>aA λ_=>.inl ⟨by simpa using z,by rw[<-show r=_ from hr];exact y⟩) λ_=>aA (by simp)) λ_=>aC (λz=>aD (R2 p hp x) λr hr=>aC (λy=>aA λ_=>.inr (.inl ⟨by simpa using z,by rw[<-show r=_ from hr];exact y⟩)) λ_=>aA (by simp)) λ_=>aC (λz=>aD (QP p.Faces x (by have:=hp.f;omega)) λr hr=>aC (λy=>aA λ_=>.inr (.inr ⟨by simpa using z,by rw[show r=_ from hr] at y;exact Zl y⟩)) λ_=>aA (by simp)) λ_=>aA (by simp)
theorem aRU(p:aK)(hp:Sm p)(f:aG)(l:List Int)(hl:l.length<=1000)(i:Nat)(hu:lK l i (vD p f.Kind)): aB (λn m=>oR eV n m (p,f,l,ln l) (i:Int)) (Su (λv=>0<=v) λ_=>∀x∈l,vD p f.Kind x):=
 bK (aW (λx e c=>by
  rw[bO (i:=i) (by omega)]
  exact aD (I4x p hp f x) λr h=>aC (λ_=>aA (show (0:Int)<=i by omega)) λz=>aRU p hp f l hl (i+1) (hu.step e (h z))) λh=>aA (hu.fin h))
termination_by l.length-i
theorem aPo(p:aK)(hp:Sm p)(f:aG)(l:List Int)(hl:l.length<=1000): aB (λn _=>iZ n (p,f,l)) λr=>r=false->∀x∈l,vD p f.Kind x:=
 aS (aD (f:=λn _=>nT n (p,f,l)) (Q:=λr=>0<=r\/∀x∈l,vD p f.Kind x) (aS (aP (aX (aRU p hp f l hl 0 .nil)) (λv h=>aA (.inl h)) λ_ h=>aF rfl (aA (.inr h)))) λr h=>aC (λ_=>aA (by simp)) λz=>aA λ_=>h.elim (λq=>absurd q (Zp z)) id)
theorem aVc(s:aJ)(d:mO s)(f:aG)(hf:f∈s.Features): aB (λn _=>qG n (s,f)) λr=>r.2=false->∀x∈f.Parts,vD s.Plan f.Kind x:=
 aS (aD (f:=λn _=>qF n (s.Plan,f)) (Q:=λr=>r=false->∀x∈f.Parts,vD s.Plan f.Kind x) (aS (aD (aPo s.Plan d.p f f.Parts (d.f f hf)) λr h=>aC (λ_=>aA (by simp)) λz=>aA λ_=>h z)) λr h=>aC (λ_=>aA (by simp)) λz=>aA λ_=>h z)
theorem aTi(s:aJ)(d:mO s)(i:Nat)(hu:lK s.Features i λf=>∀x∈f.Parts,vD s.Plan f.Kind x): aB (λn m=>oR hZ n m (s,s.Features,ln s.Features) (i:Int)) (Su (λv=>0<=v.2.2.2) λ_=>∀f∈s.Features,∀x∈f.Parts,vD s.Plan f.Kind x):=
 bK (aW (λx e c=>by
  rw[bO (i:=i) (by have:=d.n;omega)]
  exact aD (aVc s d x (Zg e)) λr h=>aC (λ_=>aA (show (0:Int)<=i by omega)) λz=>aTi s d (i+1) (hu.step e (h z))) λh=>aA (hu.fin h))
termination_by s.Features.length-i
theorem I9x(s:aJ)(d:mO s): aB (λn _=>sY n (s,s.Features)) (Su (λv=>v.2.2.2=true) λ_=>∀f∈s.Features,∀x∈f.Parts,vD s.Plan f.Kind x):=
 aS (aP (f:=λn _=>qH n (s,s.Features)) (Q:=λv:aG×aK×aG×Int=>(0:Int)<=v.2.2.2) (R:=λ_=>∀f∈s.Features,∀x∈f.Parts,vD s.Plan f.Kind x) (aS (aP (aX (aTi s d 0 .nil)) (λv h=>aA (show 0<=v.2.2.2 from h)) λ_ h=>aF rfl (aA (by exact h)))) (λv h=>aC (λ_=>aA rfl) λz=>absurd h (Zp z)) λ_ h=>aF rfl (aA (by exact h)))
theorem aUU(s:aJ)(d:mO s)(i:Nat)(f:aG)(hf:f∈s.Features)(hi:i<s.Features.length): aB (λn _=>pU n (s,((i+1:Nat):Int),f)) λr=>r=false->∀x,0<i->s.Features[i-1]?=some x->x.ID<f.ID:=by
 have hn:=d.n
 have j:=aJT f.Parts (d.f f hf)
 refine aC (λh=>?_) λh=>aD j λ_ _=>aC (λ_=>aA λ_ x q=>by have:=Zp h;omega) λ_=>aA (by simp)
 have h:((i+1:Nat):Int) > 1:=Zl h
 have e:wr (((i+1:Nat):Int)-2)=((i-1:Nat):Int):=by rw[aIn (by omega)];omega
 have em:=Zb (l:=s.Features) (i:=i-1) (by omega)
 refine aF (x:=s.Features[i-1]) (by rw[e,bF];exact em) (aC (λ_=>aA (by simp)) λz=>aD j λ_ _=>aC (λ_=>aA λ_ x _ hx=>?_) λ_=>aA (by simp))
 rw[em] at hx
 cases hx
 have:=Zp z
 omega
theorem aTf(s:aJ)(d:mO s)(i:Nat)(hu:∀(j:Nat) (x y:aG),j+1<i->s.Features[j]?=some x->s.Features[j+1]?=some y->x.ID<y.ID): aB (λn m=>oR hK n m (s,s.Features,ln s.Features) ((i:Int),(i:Int))) (Su (λv=>0<=v.2.2) λ_=>L0 (s.Features.map aG.ID)):=
 bK (aW (λx e c=>by
  have hn:=d.n
  rw[bO (i:=i) (by omega)]
  have P:=aUU s d i x (Zg e) c
  have w:=bO (i:=i) (by omega)
  refine aD (f:=λn _=>pW n (s,(i:Int),x)) (Q:=λr=>r.1=((i+1:Nat):Int)/\(r.2=false->∀y,0<i->s.Features[i-1]?=some y->y.ID<x.ID)) (aS (by
   rw[<-w] at P |-
   exact aD P λq hq=>aC (λ_=>aA ⟨rfl,by simp⟩) λz=>aA ⟨rfl,λ_=>hq z⟩)) λr hr=>aC (λ_=>aA (show (0:Int)<=i by omega)) λz=>?_
  rw[hr.1]
  refine aTf s d (i+1) λj u v hj hu1 hv=>?_
  rcases ZI (j+1) i with h | h
  .exact hu j u v h hu1 hv
  .have:j+1=i:=by omega
   subst this
   rw[e] at hv
   cases hv
   exact hr.2 z u (by omega) hu1) λh=>aA (by
  intro j x y hx hy
  rw[Zk,Zq] at hx hy
  obtain⟨a,ha,rfl⟩:=hx
  obtain⟨b,hb,rfl⟩:=hy
  exact hu j a b (by have:=(Ze.1 hb).1;omega) ha hb))
termination_by s.Features.length-i
theorem aUX(s:aJ)(d:mO s): aB (λn _=>pY n (s,0,s.Features)) (Su (λv=>v.2.2=true) λ_=>L0 (s.Features.map aG.ID)):=
 aS (aP (f:=λn _=>pX n (s,0,s.Features)) (Q:=λv:Int×aG×Int=>(0:Int)<=v.2.2) (R:=λ_=>L0 (s.Features.map aG.ID)) (aS (aP (aX (aTf s d 0 λj x y h=>by omega)) (λv h=>aA (show 0<=v.2.2 from h)) λ_ h=>aF rfl (aA (by exact h)))) (λv h=>aC (λ_=>aA rfl) λz=>absurd h (Zp z)) λ_ h=>aF rfl (aA (by exact h)))
theorem aQp(p:aK)(hp:Sm p)(d:Int): aB (λn _=>xK n p d) λr=>r.2=true->r.1∈p.Arcs:=
 aV (λ_=>rfl) (aC (λ_=>aA (by simp)) λ_=>aC (λ_=>aA (by simp)) λ_=>aD (R2 p hp _) λr hr=>by
  have m:r.2=true->r.1∈p.Arcs:=by
   rw[show r=_ from hr]
   unfold vC
   split
   .rename_i a h;exact λ_=>Xf h
   .exact λh=>by cases h
  exact aC (λz=>aA λ_=>m z) λ_=>aA (by simp))
theorem aQs(p:aK)(hp:Sm p)(d:Int): aB (λn _=>xD n p d) λr=>r=0\/Lab p r:=
 aV (λ_=>rfl) (aD (aQp p hp d) λc h=>aC (λz=>aC (λ_=>aA (.inr ⟨_,h z,.inl rfl⟩)) λ_=>aA (.inr ⟨_,h z,.inr rfl⟩)) λ_=>aA (.inl rfl))
section
theorem aRR{a b:List Int}(h:a.Nodup)(s:∀x∈a,x∈b): a.length<=b.length:=by
 induction a generalizing b with
 | nil=>simp
 | cons x r ih=>
  have⟨hx,hr⟩:=List.nodup_cons.1 h
  have i:=ih (b:=b.erase x) hr λy hy=>(List.mem_erase_of_ne (by rintro rfl;exact hx hy)).2 (s y (ZQ _ hy))
  have m:=s x ZM
  rw[List.length_erase_of_mem m] at i
  have:=List.length_pos_of_mem m
  simp
  omega
theorem N7{V:Type}(k:Int)(v:V): ∀m:List (Int×V),bX m k=none->(jS m k v).map Prod.fst=m.map Prod.fst++[k]/\k∉m.map Prod.fst
 | [],_=>⟨rfl,by simp⟩
 | a::r,h=>by
  simp only[bX] at h
  split at h
  .cases h
  .rename_i b
   have i:=N7 k v r h
   simp only[jS]
   rw[ZF b]
   exact⟨by simp[i.1],by simp only[ZE,ZN,not_or];exact⟨λe=>b e.symm,i.2⟩⟩
structure aQt(p:aK)(g:List (Int×Bool)): Prop where
 nd:(g.map Prod.fst).Nodup
 lb:∀k∈g.map Prod.fst,k≠0/\Lab p k
 tt:∀k v,bX g k=some v->v=true
theorem aEs(p:aK)(q:Sm p)(l:List dQ)(o:aKR l 200000 300)(i:Nat)(R:i<=l.length)(lf:List Int)(g:List (Int×Bool))(K:lf.length=i)(j:aQt p g): aB (λn m=>oR jY n m (p,l,ln l) (lf,g,(i:Int))) (Su (λ_=>True) λr=>aQt p r.2):=by
 have O:=o.l2
 refine bK (aW (λa I N=>?_) λL=>aA j)
 have y:=Zg I
 have D:=o.inn a y
 have B:=o.ou a y
 have f:∀w,w=a.outer::a.inner->w.length<=800000/\∀c∈w,c.length<=800000:=by
  rintro w rfl
  refine⟨by simp;omega,λc H=>?_⟩
  rcases ZN.1 H with rfl | H
  .exact B
  .exact D.2 c H
 rw[bO (by omega)]
 refine aC (λb=>?_) λb=>?_
 .have F:1<=i:=by have:(i:Int) > 0:=Zl b;omega
  have G:=o.ne i a F I
  obtain⟨d,t,C⟩:∃d t,a.outer=d::t:=by
   cases h:a.outer with
   | nil=>exact absurd h G
   | cons d t=>exact⟨d,t,rfl⟩
  refine aF (x:=d) (by rw[C];rfl) (aD (aQs p q d) λv hv=>aD (f:=λn _=>Jw n (g,v)) (Q:=λr=>r=false->v≠0/\(bX g v).getD false=false) (aC (λ_=>aA (by simp)) λz=>aC (λ_=>aA (by simp)) λh=>aA λ_=>⟨by simpa using z,h⟩) λ_ M=>aC (λ_=>aA trivial) λJ=>aD (aCO a (by omega)) λw s=>aP (aX (HA p q lf v w (f w s).1 (f w s).2 0)) (λ_ _=>aA trivial) λ_ _=>aF rfl (aF (Dr (by omega)) (aEs p q l o (i+1) (by omega) _ _ (by simp;omega) ?_)))
  have h:=M J
  have e:bX g v=none:=by
   cases e:bX g v with
   | none=>rfl
   | some w=>have:=h.2;rw[e,j.tt v w e] at this;cases this
  have mk:=N7 v true g e
  refine⟨?_,?_,?_⟩
  .rw[mk.1,List.nodup_append]
   exact⟨j.nd,by simp,λa ha b hb=>by rw[ZJ.1 hb];rintro rfl;exact mk.2 ha⟩
  .intro k hk
   rw[mk.1] at hk
   rcases ZD.1 hk with hk | hk
   .exact j.lb k hk
   .rw[ZJ.1 hk];exact⟨h.1,hv.elim (λz=>absurd z h.1) id⟩
  .intro k u z
   rw[mW] at z
   split at z
   .cases z;rfl
   .exact j.tt k u z
 .exact aD (aCO a (by omega)) λw s=>aP (aX (HA p q lf 0 w (f w s).1 (f w s).2 0)) (λ_ _=>aA trivial) λ_ _=>aF rfl (aF (Dr (by omega)) (aEs p q l o (i+1) (by omega) _ _ (by simp;omega) j))
termination_by l.length-i
theorem aKb(p:aK)(V:iQ p)(l:List dQ)(c:aKR l 200000 300): aB (λn _=>wQ n p l) λr=>r.2=true->∀x∈p.Faces,Lab p x:=
 aV (λ_=>rfl) (aP (aX (aEs p V.sm l c 0 (by omega) [] [] rfl ⟨by simp,by simp,λ_ _ h=>by cases h⟩)) (λ_ _=>aA (by simp)) λr d=>aF rfl (aC (λb=>aA λ_ x hx=>by
  have b:ln r.2=ln p.Faces:=Wi b
  have b:r.2.length=p.Faces.length:=by unfold ln at b;omega
  have d:aQt p r.2:=d
  rcases Classical.em (x∈r.2.map Prod.fst) with h | h
  .exact (d.lb x h).2
  .have:=aRR (b:=p.Faces.erase x) d.nd λy hy=>(List.mem_erase_of_ne (by rintro rfl;exact h hy)).2 (by
    obtain⟨n0,a,ha,e⟩:=d.lb y hy
    have s:=V.sid a ha
    rcases e with e | e
    .rw[<-e] at n0 |-;exact s.1.elim (λz=>absurd z n0) id
    .rw[<-e] at n0 |-;exact s.2.elim (λz=>absurd z n0) id)
   rw[List.length_erase_of_mem hx,ZO] at this
   have:=List.length_pos_of_mem hx
   omega) λ_=>aA λh=>by cases h))
theorem aL7(s:Ec)(p:aK)(g:Sm p): aB (λn _=>uB n p) λr=>r.2.2.2=0->∀x∈p.Faces,Lab p x:=by
 refine aV (λ_=>rfl) (aD (D4 p g) λc o=>aC (λb=>aA λh=>?_) λb=>?_)
 .rw[show c.2=0 from h] at b;simp at b
 .obtain⟨j,i⟩:=o (by simpa using b)
  exact aD (LW p g j) λm q=>aD (s p c.1 m g j i q) λl d=>aD (aKb p j l d) λf k=>aC (λb=>aA λ_=>k b) λ_=>aA λh=>by cases h
variable {N:Nat->Nat->Option Int}{P:Int->Prop}{c:Int}{β γ:Type}{f:Nat->Nat->Option (β⊕γ)}{q:β->Bool}
theorem aO0(hc:P c)(h:Sx f)(k:aB N P): aB (λn m=>Av.bnd2 (f n m) (λv=>Av.cnd (q v) (some c) (N n m)) λw=>Av.bnd (some w) λ_=>N n m) P:=
 aP h (λ_ _=>aC (λ_=>aA hc) λ_=>k) λ_ _=>aF rfl k
theorem aIx{Q:Prop}(hc:P c)(h:aB f (Su (λv=>q v=true) λ_=>Q))(k:Q->aB N P): aB (λn m=>Av.bnd2 (f n m) (λv=>Av.cnd (q v) (some c) (N n m)) λw=>Av.bnd (some w) λ_=>N n m) P:=
 aP h (λv e=>aC (λ_=>aA hc) λz=>by rw[show q v=true from e] at z;cases z) λ_ e=>aF rfl (k e)
theorem aM5(o:Ec)(s:aJ)(a:mO s): aB (λn _=>dR n s) λr=>r=0->SvX s:=by
 refine aV (λ_=>rfl) (aD (f:=λn _=>wR n s.Plan) (Q:=λr=>r=0->∀x∈s.Plan.Faces,Lab s.Plan x) (aV (λ_=>rfl) (aD (aL7 o s.Plan a.p) λb h=>aA h)) λr hr=>aC (λb=>aA λh=>absurd (show r=0 from h) (by simpa using b)) λb=>aC (λ_=>aA (by simp)) λd=>aD (f:=λn _=>tA n s) (Q:=λ_=>True) (aS (aA trivial)) λ_ _=>aD (f:=λn _=>sZ n ()) (Q:=λ_=>True) (aS (aA trivial)) λc _=>JB ?_)
 have lb:=hr (by simpa using b)
 exact aIx (by simp) (aSk _ a.n) λ_=>aIx (by simp) (aUX s a) λA=>aO0 (by simp) (aSp _ a.n) <| aIx (by simp) (aUZ _ a.n) λB=>aO0 (by simp) (aSq _ a.n) <| aIx (by simp) (aVb _ a.n) λC=>aIx (by simp) (I9x s a) λD=>aO0 (by simp) (fI3 _ a.n a.f c) <| aA λ_=>⟨C,B,D,A,lb⟩
theorem Li.x(o:Ec){s:aJ}(h:Li s): SvX s:=aB.uniq h.c (aM5 o s h.ok) rfl
def InB(B:Aad)(p:Aaa): Prop:=B.X0<=p.X/\p.X<=B.X1/\B.Y0<=p.Y/\p.Y<=B.Y1
theorem lK.mono{α:Type}{l:List α}{i:Nat}{Q R:α->Prop}(h:lK l i Q)(k:∀x,Q x->R x): lK l i R:=λj x a b=>k x (h j x a b)
theorem aND(a b:Int): pO a b<=a/\pO a b<=b:=by unfold pO;split<;>omega
theorem aNE(a b:Int): a<=iY a b/\b<=iY a b:=by unfold iY;split<;>omega
theorem aN4(l:List Aaa)(hl:l.length<=900000)(i:Nat)(a b c d:Int)(hu:lK l i λp=>a<=p.X/\p.X<=c/\b<=p.Y/\p.Y<=d): aB (λn m=>mX sC n m (l,ln l) (a,b,c,d,(i:Int))) λr=>∀p∈l,r.1<=p.X/\p.X<=r.2.2.1/\r.2.1<=p.Y/\p.Y<=r.2.2.2:=
 bU (aW (λx e k=>by
  rw[bO (i:=i) (by omega)]
  have h1:=aND a x.X;have h2:=aND b x.Y;have h3:=aNE c x.X;have h4:=aNE d x.Y
  exact aN4 l hl (i+1) _ _ _ _ ((hu.mono λp h=>⟨by omega,by omega,by omega,by omega⟩).step e ⟨h1.2,h3.2,h2.2,h4.2⟩)) λh=>aA (hu.fin h))
termination_by l.length-i
theorem aRD(l:List Aaa)(hl:l.length<=900000): aB (λn _=>kK n l) λB=>(∀p∈l,InB B p)/\(l=[]->B.X1<B.X0):=by
 refine aV (λ_=>rfl) (aC (λz=>?_) λz=>?_)
 .have:l=[]:=by
   have z:ln l=0:=by simpa using z
   unfold ln at z
   exact ZK.1 (by omega)
  subst this
  exact aA ⟨by simp,λ_=>by decide⟩
 .have ne:l≠[]:=λe=>by subst e;simp[ln] at z
  have e:idx l 0=some (l.head ne):=by
   cases l with
   | nil=>exact absurd rfl ne
   | cons a r=>rfl
  exact aF e (aF e (aF e (aF e (aD (aX (aN4 l hl 0 _ _ _ _ .nil)) λg h=>aA ⟨h,λz=>absurd z ne⟩))))
end
def oO(s:aJ)(id:Int): aG×Bool:=match s.Features.find? λx=>x.ID==id with
 | some x=>(x,true)
 | none=>(⟨0,0,0,⟨#[]⟩,[]⟩,false)
theorem aSi(l:List aG)(hl:l.length<=1000)(hv:∀f∈l,f.Parts.length<=1000)(b:ByteArray)(id:Int)(i:Nat): aB (λn m=>oR pT n m (b,id,l,ln l) (i:Int)) (Su (λv=>∃x,(l.drop i).find? (λx=>x.ID==id)=some x/\(aG.mk v.1 v.2.1 v.2.2.1 v.2.2.2.1 v.2.2.2.2.1)=x) λ_=>(l.drop i).find? (λx=>x.ID==id)=none):=
 bK (aW (λx c e=>aC (λh=>aD (aGx x.Parts (by have:=hv x (Zg c);omega)) λr f=>aA ⟨x,AP (q:=λx=>x.ID==id) c h,by rw[show r=_ from f]⟩) λh=>by
  rw[bO (i:=i) (by omega),MR (q:=λx=>x.ID==id) c h];exact aSi l hl hv b id (i+1)) λh=>aA (MS h))
termination_by l.length-i
theorem aKH(s:aJ)(o:mO s)(id:Int): aB (λn _=>gL n s id) λr=>r=oO s id:=
 aV (λ_=>rfl) (aP (aX (aSi s.Features o.n o.f _ id 0)) (λv h=>aA (by
  obtain⟨x,h,e⟩:=h
  rw[YD] at h
  unfold oO
  rw[h,e])) λ_ h=>aF rfl (aA (by
  have h:(s.Features.drop 0).find? (λx=>x.ID==id)=none:=h
  rw[YD] at h
  unfold oO
  rw[h])))
theorem aRt(s:aJ)(o:mO s)(b:ByteArray)(id:Int)(i:Nat): aB (λn m=>lm3 Dv n m (s,b,id) (i:Int)) (Su (λv=>∃x,(s.Features.drop i).find? (λx=>x.ID==id)=some x/\(aG.mk v.1 v.2.1 v.2.2.1 v.2.2.2.1 [])=x) (Su (λv=>∃x,(s.Features.drop i).find? (λx=>x.ID==id)=some x/\(aG.mk v.1 v.2.1 v.2.2.1 v.2.2.2.1 v.2.2.2.2.2.2.2.2)=x) λ_=>(s.Features.drop i).find? (λx=>x.ID==id)=none)):=
 aEF (aW (λx c e=>aC (λh=>by
  refine aF (by rw[bF];exact c) (aC (λz=>aA ⟨x,AP (q:=λx=>x.ID==id) c h,?_⟩) λ_=>aF (tP (l:=[]) (by have:=o.f x (Zg c);simp;omega)) (aA ⟨x,AP (q:=λx=>x.ID==id) c h,by simp⟩))
  rw[<-Vd.1 z]) λh=>by
  rw[bO (i:=i) (by have:=o.n;omega),MR (q:=λx=>x.ID==id) c h];exact aRt s o b id (i+1)) λh=>aA (MS h))
termination_by s.Features.length-i
theorem aNi(s:aJ)(o:mO s)(id:Int): aB (λn _=>JI n s id) λr=>r=oO s id:=by
 have P:∀x:aG,(s.Features.drop 0).find? (λx=>x.ID==id)=some x->(x,true)=oO s id:=λx h=>by
  rw[YD] at h
  unfold oO
  rw[h]
 exact aV (λ_=>rfl) (aP (aX (aRt s o _ id 0)) (λv h=>aA (by
  obtain⟨x,h,e⟩:=h
  rw[<-P x h,<-e])) λv h=>aP (aA h) (λv h=>aA (by
  obtain⟨x,h,e⟩:=h
  rw[<-P x h,<-e])) λ_ h=>aF rfl (aA (by
  have h:(s.Features.drop 0).find? (λx=>x.ID==id)=none:=h
  rw[YD] at h
  unfold oO
  rw[h])))
theorem aRs(p:aK)(o:Sm p)(id:Int)(i:Nat): aB (λn m=>oR Dz n m (p,id) (i:Int)) (Su (λv=>(p.Nodes.drop i).find? (λx=>x.ID==id)=some v) λ_=>(p.Nodes.drop i).find? (λx=>x.ID==id)=none):=
 bK (aW (λx c e=>aC (λh=>aF (by rw[bF];exact c) (aA (show (p.Nodes.drop i).find? (λx=>x.ID==id)=some x from AP (q:=λx=>x.ID==id) c h))) λh=>by
  rw[bO (i:=i) (by have:=o.n;omega),MR (q:=λx=>x.ID==id) c h];exact aRs p o id (i+1)) λh=>aA (MS h))
termination_by p.Nodes.length-i
theorem aNh(p:aK)(o:Sm p)(id:Int): aB (λn _=>B2 n p id) λr=>r=dE p id:=
 aV (λ_=>rfl) (aP (aX (aRs p o id 0)) (λv h=>aA (by
  have h:(p.Nodes.drop 0).find? (λx=>x.ID==id)=some v:=h
  rw[YD] at h
  unfold dE
  rw[h])) λ_ h=>aF rfl (aA (by
  have h:(p.Nodes.drop 0).find? (λx=>x.ID==id)=none:=h
  rw[YD] at h
  unfold dE
  rw[h])))
theorem aKa{s:aJ}(x:SvX s){f:aG}(hf:f∈s.Features): oO s f.ID=(f,true):=by
 unfold oO
 cases h:s.Features.find? λx=>x.ID==f.ID with
 | none=>have:=W4.1 h f hf;simp at this
 | some y=>
  have e:y.ID=f.ID:=by have:=List.find?_some h;simpa using this
  rw[x.asc.inj (Xf h) hf e]
theorem aQm(l:List Aaa)(ne:l≠[])(hl:l.length<=900000): aB (λn _=>cnd (ln l==0) (some ((Aad.mk 0 0 0 0),false)) (bnd (kK n l) λg=>some (g,true))) λr=>r.2=true/\r.1.X0<=r.1.X1/\r.1.Y0<=r.1.Y1:=by
 refine aC (λz=>absurd ?_ ne) λ_=>aD (aRD l hl) λg h=>aA ⟨rfl,?_⟩
 .have z:ln l=0:=by simpa using z
  unfold ln at z
  exact ZK.1 (by omega)
 .obtain⟨p,hp⟩:=List.exists_mem_of_ne_nil l ne
  obtain⟨a,b,c,d⟩:=h.1 p hp
  exact⟨by show g.X0<=g.X1;omega,by show g.Y0<=g.Y1;omega⟩
theorem aSI(s:aJ)(hp:Sm s.Plan)(l:List Int)(hl:l.length<=1000)(hn:∀x∈l,(dE s.Plan x).2=true)(i:Nat)(R:i<=l.length)(g:List Aaa)(hg:g.length=i): aB (λn m=>mX mI n m (s,l,ln l) (g,(i:Int))) λr=>r.length=l.length:=
 bU (aW (λx e c=>by
  rw[bO (i:=i) (by omega)]
  exact aD (Jq s.Plan hp x) λj hj=>aC (λ_=>aF (IX (by omega)) (aSI s hp l hl hn (i+1) c _ (by simp;omega))) λz=>by rw[show j=_ from hj,hn x (Zg e)] at z;cases z) λh=>aA (show g.length=l.length by omega))
termination_by l.length-i
theorem aF6{p:aK}(V:iQ p){a:aQ}(ha:a∈p.Arcs): (dD p a.ID).1≠[]:=by rw[FM V ha];simp
theorem bI3(s:aJ)(V:iQ s.Plan)(g:List Aaa)(hg:g.length<=500000)(a:aQ)(ha:a∈s.Plan.Arcs): aB (λn _=>qI n (s,g,a.ID)) λr=>r≠[]/\r.length<=g.length+302:=by
 refine aS (aD (Ea s.Plan V.sm a.ID) λf hf=>?_)
 have hf:f=dD s.Plan a.ID:=hf
 subst hf
 have:=nP s.Plan V.sm a.ID
 refine aC (λ_=>aF (tP (by omega)) (aA ⟨by simp[aF6 V ha],by simp;omega⟩)) λz=>?_
 rw[(V.pth a ha).1] at z
 cases z
theorem aG7{p:aK}{x:Int}(h:(vC p x).2=true): ∃a,a∈p.Arcs/\a.ID=x:=by
 unfold vC at h
 split at h
 .rename_i a e
  exact⟨a,Xf e,by have:=List.find?_some e;simpa using this⟩
 .cases h
theorem aSH(s:aJ)(V:iQ s.Plan)(l:List Int)(hl:l.length<=1000)(hn:∀x∈l,(vC s.Plan x).2=true)(i:Nat)(R:i<=l.length)(g:List Aaa)(hg:g.length<=302*i)(ne:0<i->g≠[]): aB (λn m=>mX mH n m (s,l,ln l) (g,(i:Int))) λr=>r.length<=500000/\(0<l.length->r≠[]):=
 bU (aW (λx e c=>by
  obtain⟨a,ha,rfl⟩:=aG7 (hn x (Zg e))
  rw[bO (i:=i) (by omega)]
  exact aD (bI3 s V g (by omega) a ha) λr hr=>aSH s V l hl hn (i+1) c _ (by have:=hr.2;omega) λ_=>hr.1) λh=>aA ⟨show g.length<=_ by omega,λq=>ne (by omega)⟩)
termination_by l.length-i
theorem bP5(f:aG)(hf:f.Parts.length<=1000)(a:aQ): aB (λn _=>Bt n (f,a)) λr=>r=true↔a.Left∈f.Parts\/a.Right∈f.Parts:=by
 refine aD (oJ f.Parts a.Left (by omega)) λc hc=>aC (λz=>aA ⟨λ_=>.inl ?_,λ_=>rfl⟩) λz=>aD (oJ f.Parts a.Right (by omega)) λd hd=>aC (λy=>aA ⟨λ_=>.inr ?_,λ_=>rfl⟩) λy=>aA ⟨by simp,?_⟩
 .rw[show c=_ from hc] at z;exact Zl z
 .rw[show d=_ from hd] at y;exact Zl y
 .rw[show c=_ from hc] at z
  rw[show d=_ from hd] at y
  exact λh=>(h.elim (Zp z) (Zp y)).elim
theorem aQn(s:aJ)(V:iQ s.Plan)(f:aG)(hf:f.Parts.length<=1000)(i:Nat)(R:i<=s.Plan.Arcs.length)(g:List Aaa)(hg:g.length<=302*i)(hu:lK s.Plan.Arcs i λa=>(a.Left∈f.Parts\/a.Right∈f.Parts)->g≠[]): aB (λn m=>mX mG n m (s,f,s.Plan.Arcs,ln s.Plan.Arcs) (g,(i:Int))) λr=>r.length<=500000/\∀a∈s.Plan.Arcs,(a.Left∈f.Parts\/a.Right∈f.Parts)->r≠[]:=
 bU (aW (λx e c=>by
  have:=V.leA
  rw[bO (i:=i) (by omega)]
  exact aD (bP5 f hf x) λr hr=>aC (λz=>aD (bI3 s V g (by omega) x (Zg e)) λr hr=>aQn s V f hf (i+1) c _ (by have:=hr.2;omega) λ_ _ _ _ _=>hr.1) λz=>aQn s V f hf (i+1) c _ (by omega) (hu.step e λq=>by rw[hr.2 q] at z;cases z)) λh=>by
   have hfin:=hu.fin h
   have:=V.leA
   exact aA ⟨show g.length<=_ by omega,hfin⟩)
termination_by s.Plan.Arcs.length-i
theorem aDu(s:aJ)(h:Li s)(x:SvX s)(f:aG)(hf:f∈s.Features): ∃B:Aad,(B.X0<=B.X1/\B.Y0<=B.Y1)/\aB (λn _=>eI n s f.ID) λr=>r=(B,true):=by
 have hP:=h.f f hf
 have T:aB (λn _=>eI n s f.ID) λr=>r.2=true/\r.1.X0<=r.1.X1/\r.1.Y0<=r.1.Y1:=by
  refine aV (λ_=>rfl) (aD (aKH s h.ok f.ID) λc e=>?_)
  have e:c=(f,true):=by rw[show c=_ from e,aKa x hf]
  subst e
  have pt:=x.pt f hf
  have len:0<f.Parts.length:=WW.2 (x.ne f hf)
  refine aC (λ_=>aD (aFi f.Kind) λd hd=>?_) λz=>by cases z
  have hd:d=shV f.Kind:=hd
  subst hd
  refine aC (λz=>?_) λz1=>aC (λz=>?_) λz2=>aC (λz=>?_) λz3=>?_
  .have z:shV f.Kind=1:=by simpa using z
   refine aD (aX (aSI s h.v.sm f.Parts (by omega) (λy hy=>?_) 0 (by omega) [] rfl)) λr hr=>aQm r (λq=>by subst q;simp at hr;omega) (by omega)
   rcases pt y hy with q | q | q
   .exact q.2
   .rw[z] at q;exact absurd q.1 (by decide)
   .rw[z] at q;exact absurd q.1 (by decide)
  .have z:shV f.Kind=2:=by simpa using z
   refine aD (aX (aSH s h.v f.Parts (by omega) (λy hy=>?_) 0 (by omega) [] (by simp) (by omega))) λr hr=>aQm r (hr.2 len) (by have:=hr.1;omega)
   rcases pt y hy with q | q | q
   .rw[z] at q;exact absurd q.1 (by decide)
   .exact q.2
   .rw[z] at q;exact absurd q.1 (by decide)
  .have z:shV f.Kind=3:=by simpa using z
   refine aD (aX (aQn s h.v f (by omega) 0 (by omega) [] (by simp) .nil)) λr hr=>aQm r ?_ (by have:=hr.1;omega)
   obtain⟨y,hy⟩:=List.exists_mem_of_length_pos len
   rcases pt y hy with q | q | q
   .rw[z] at q;exact absurd q.1 (by decide)
   .rw[z] at q;exact absurd q.1 (by decide)
   .obtain⟨a,ha,e⟩:=x.lb y q.2
    exact hr.2 a ha (e.imp (λe=>by rw[e];exact hy) λe=>by rw[e];exact hy)
  .obtain⟨y,hy⟩:=List.exists_mem_of_length_pos len
   exfalso
   rcases pt y hy with q | q | q
   .rw[q.1] at z1;cases z1
   .rw[q.1] at z2;cases z2
   .rw[q.1] at z3;cases z3
 obtain⟨r,hr,t⟩:=T.val
 obtain⟨B,b⟩:=r
 have:b=true:=hr.1
 subst this
 exact⟨B,hr.2,t⟩
section
variable {α:Type}{a b:List α}
theorem aC7(hl:a.length=b.length)(h:∀(j:Nat) (x:α),a[j]?=some x->b[j]?=some x): a=b:=
 Ym λj=>by
  cases e:a[j]? with
  | some x=>exact (h j x e).symm
  | none=>rw[Zy];have:=XG.1 e;omega
theorem lnE(z:(ln a != ln b)=false): a.length=b.length:=by
 have z:ln a=ln b:=by simpa using z
 unfold ln at z
 omega
theorem neE{a b:Int}(z:(a != b)=false): b=a:=by
 have z:a=b:=by simpa using z
 exact z.symm
theorem aNM(a b:List Aaa)(hl:a.length=b.length)(ha:a.length<=100000)(i:Nat)(hu:∀(j:Nat) (x),j<i->a[j]?=some x->b[j]?=some x): aB (λn m=>oR iB n m (a,b,ln a) (i:Int)) (Su (λ_=>True) λ_=>a=b):=
 bK (aW (λx e c=>by
  have hb:b[i]?=some b[i]:=Zb (by omega)
  rw[bO (i:=i) (by omega)]
  refine aF (by rw[bF];exact hb) (aC (λz=>aNM a b hl ha (i+1) λj y hj hy=>?_) λ_=>aA trivial)
  rcases ZI j i with k | k
  .exact hu j y k hy
  .have:j=i:=by omega
   subst this
   rw[e] at hy
   cases hy
   rw[hb,<-Zl z]) λh=>aA (aC7 hl λj x hx=>hu j x (by have:=(Ze.1 hx).1;omega) hx))
termination_by a.length-i
theorem aSt(a b:List Aaa)(ha:a.length<=100000): aB (λn _=>nG n a b) λr=>r=true->a=b:=
 aV (λ_=>rfl) (aC (λ_=>aA (by simp)) λz=>aP (aX (aNM a b (lnE z) ha 0 λj x h=>by omega)) (λ_ _=>aA (by simp)) λ_ h=>aF rfl (aA λ_=>h))
theorem aNN(a b:List Int)(hl:a.length=b.length)(ha:a.length<=100000)(i:Nat)(hu:∀(j:Nat) (x),j<i->a[j]?=some x->b[j]?=some x): aB (λn m=>oR gB n m (a,b,ln a) (i:Int)) (Su (λ_=>True) λ_=>a=b):=
 bK (aW (λx e c=>by
  have hb:b[i]?=some b[i]:=Zb (by omega)
  rw[bO (i:=i) (by omega)]
  refine aF (by rw[bF];exact hb) (aC (λ_=>aA trivial) λz=>aNN a b hl ha (i+1) λj y hj hy=>?_)
  rcases ZI j i with k | k
  .exact hu j y k hy
  .have:j=i:=by omega
   subst this
   rw[e] at hy
   cases hy
   rw[hb,show b[j]=x from neE z]) λh=>aA (aC7 hl λj x hx=>hu j x (by have:=(Ze.1 hx).1;omega) hx))
termination_by a.length-i
theorem aSu(a b:List Int)(ha:a.length<=100000): aB (λn _=>iA n a b) λr=>r=true->a=b:=
 aV (λ_=>rfl) (aC (λ_=>aA (by simp)) λz=>aP (aX (aNN a b (lnE z) ha 0 λj x h=>by omega)) (λ_ _=>aA (by simp)) λ_ h=>aF rfl (aA λ_=>h))
def QM(p q:aK)(l:aQ): Prop:=(vC q l.ID).2=true/\(l.From=(vC q l.ID).1.From/\l.To=(vC q l.ID).1.To/\l.Left=(vC q l.ID).1.Left/\l.Right=(vC q l.ID).1.Right)/\(dD p l.ID).1=(dD q l.ID).1
theorem aSB(a b:aQ): aB (λn _=>mL n (a,b)) λr=>r=true->a.From=b.From/\a.To=b.To/\a.Left=b.Left/\a.Right=b.Right:=
 aC (λh1=>aC (λh2=>aC (λh3=>aC (λh4=>aA λ_=>⟨by simpa using h1,by simpa using h2,by simpa using h3,by simpa using h4⟩) λ_=>aA (by simp)) λ_=>aA (by simp)) λ_=>aA (by simp)) λ_=>aA (by simp)
theorem aSC(p q:aK)(hp:Sm p)(hq:Sm q)(i:Nat)(R:i<=p.Arcs.length)(h:List Int)(m:List (Int×Bool))(hh:h.length<=2*i)(hu:lK p.Arcs i λl=>QM p q l\/bX m l.ID=some true): aB (λn k=>mX eN n k (p,q,p.Arcs,ln p.Arcs) (h,m,(i:Int))) λr=>r.1.length<=100000/\∀l∈p.Arcs,QM p q l\/bX r.2 l.ID=some true:=
 bU (aW (λx e c=>by
  have la:=hp.a
  rw[bO (i:=i) (by omega)]
  have rc:∀h' m',h'.length<=2*(i+1)->(∀l,bX m l=some true->bX m' l=some true)->(QM p q x\/bX m' x.ID=some true)->aB (λn k=>mX eN n k (p,q,p.Arcs,ln p.Arcs) (h',m',((i+1:Nat):Int))) λr=>r.1.length<=100000/\∀l∈p.Arcs,QM p q l\/bX r.2 l.ID=some true:=λh' m' a b d=>aSC p q hp hq (i+1) c h' m' a ((hu.mono λl=>Or.imp_right (b l.ID)).step e d)
  have chg:aB (λn k=>bnd (app h [x.Left,x.Right]) λu=>mX eN n k (p,q,p.Arcs,ln p.Arcs) (u,jS m x.ID true,((i+1:Nat):Int))) λr=>r.1.length<=100000/\∀l∈p.Arcs,QM p q l\/bX r.2 l.ID=some true:=aF (tP (by simp;omega)) (rc _ _ (by simp;omega) (λl hl=>by rw[mW];split;rfl;exact hl) (.inr (by rw[mW,Zu rfl])))
  have tr:∀{X:Nat->Nat->Option (List Int×List (Int×Bool))} {P:List Int×List (Int×Bool)->Prop},aB X P->aB (λn k=>bnd (cE n ()) λ_=>X n k) P:=λh=>aD (f:=λn _=>cE n ()) (Q:=λ_=>True) (aA trivial) λ_ _=>h
  refine aD (R2 q hq x.ID) λm0 hm=>?_
  have hm:m0=vC q x.ID:=hm
  subst hm
  refine aC (λz=>aD (Ea p hp x.ID) λo ho=>aD (Ea q hq x.ID) λr hr=>aD (aSB _ _) λs hs=>aC (λy=>aD (f:=λn _=>wK n (o.1,r.1)) (Q:=λb=>b=true->o.1=r.1) (aD (aSt _ _ (by rw[show o=_ from ho];have:=nP p hp x.ID;omega)) λd hd=>aC (λw=>aA λ_=>hd w) λ_=>aA (by simp)) λb hb=>aC (λw=>rc _ _ (by omega) (λ_ h=>h) (.inl ⟨z,hs y,?_⟩)) λ_=>chg) λ_=>tr chg) λz=>aD (Ea p hp x.ID) λo ho=>aD (Ea q hq x.ID) λr hr=>aD (aSB _ _) λs hs=>aC (λy=>tr chg) λ_=>tr chg
  have:=hb w
  rw[show o=_ from ho,show r=_ from hr] at this
  exact this) λk=>by
   have hfin:=hu.fin k
   have:=hp.a
   exact aA ⟨show h.length<=_ by omega,hfin⟩)
termination_by p.Arcs.length-i
theorem aSD(b:List Int)(hb:b.length<=100000)(x:Int): Tt λn _=>mM n (b,x):=
 aS (aD (f:=λn _=>wJ n (b,x)) (Q:=λ_=>True) (aC (λ_=>aD (QP b x hb) λ_ _=>aC (λ_=>aA trivial) λ_=>aA trivial) λ_=>aA trivial) λ_ _=>aC (λ_=>aA trivial) λ_=>aA trivial)
theorem aQk(p:aK)(V:iQ p)(b:List Int)(hb:b.length<=100000)(m:List (Int×Bool))(i:Nat)(R:i<=p.Arcs.length)(g:List Aaa)(hg:g.length<=302*i)(hu:lK p.Arcs i λl=>bX m l.ID=some true->g≠[]): aB (λn k=>mX gC n k (p,b,m,p.Arcs,ln p.Arcs) (g,(i:Int))) λr=>r.length<=100000/\∀l∈p.Arcs,bX m l.ID=some true->r≠[]:=
 bU (aW (λx e c=>by
  have la:=V.leA
  have mx:=Zg e
  rw[bO (i:=i) (by omega)]
  have app1:aB (λn k=>bnd (eO n p x.ID) λf=>bnd (app g f.1) λo=>mX gC n k (p,b,m,p.Arcs,ln p.Arcs) (o,((i+1:Nat):Int))) λr=>r.length<=100000/\∀l∈p.Arcs,bX m l.ID=some true->r≠[]:=by
   refine aD (Ea p V.sm x.ID) λf hf=>?_
   have hf:f=dD p x.ID:=hf
   subst hf
   have:=nP p V.sm x.ID
   have ne:=aF6 V mx
   exact aF (tP (by omega)) (aQk p V b hb m (i+1) c _ (by simp;omega) λ_ _ _ _ _=>by simp[ne])
  refine aC (λ_=>app1) λz=>aD (aSD b hb _) λ_ _=>aC (λ_=>app1) λ_=>aD (aSD b hb _) λ_ _=>aC (λ_=>app1) λ_=>aQk p V b hb m (i+1) c _ (by omega) (hu.step e λq=>by rw[q] at z;cases z)) λk=>by
   have hfin:=hu.fin k
   have:=V.leA
   exact aA ⟨show g.length<=_ by omega,hfin⟩)
termination_by p.Arcs.length-i
theorem aMV(p q:aK)(V:iQ p)(hq:Sm q): aB (λn _=>tN n p q) λr=>r.length<=100000/\(r=[]->∀l∈p.Arcs,QM p q l):=
 aV (λ_=>rfl) (aD (aX (aSC p q V.sm hq 0 (by omega) [] [] (by simp) .nil)) λc hc=>aD (aX (aQk p V c.1 hc.1 c.2 0 (by omega) [] (by simp) .nil)) λd hd=>aA ⟨hd.1,λe l hl=>(hc.2 l hl).elim id λk=>absurd e (hd.2 l hl k)⟩)
end
structure Chg(x y:aJ)(r:List Aaa): Prop where
 len:r.length<=400000
 nd:∀v∈x.Plan.Nodes,dE y.Plan v.ID=(v,true)\/v.At∈r
 ft:∀f∈x.Features,oO y f.ID=(f,true)\/∃B:Aad,(B.X0<=B.X1/\B.Y0<=B.Y1)/\aB (λn _=>eI n x f.ID) (λr=>r=(B,true))/\Aaa.mk B.X0 B.Y0∈r/\Aaa.mk B.X1 B.Y1∈r
 ar:r=[]->∀l∈x.Plan.Arcs,QM x.Plan y.Plan l
theorem aQg(y:aJ)(hy:Sm y.Plan)(l:List Aab)(hl:l.length<=1000)(i:Nat)(R:i<=l.length)(g:List Aaa)(hg:g.length<=i)(hu:lK l i λv=>dE y.Plan v.ID=(v,true)\/v.At∈g): aB (λn m=>mX kH n m (y,l,ln l) (g,(i:Int))) λr=>r.length<=1000/\∀v∈l,dE y.Plan v.ID=(v,true)\/v.At∈r:=
 bU (aW (λx e c=>by
  rw[bO (i:=i) (by omega)]
  have put:aB (λn m=>bnd (app g [x.At]) λo=>mX kH n m (y,l,ln l) (o,((i+1:Nat):Int))) λr=>r.length<=1000/\∀v∈l,dE y.Plan v.ID=(v,true)\/v.At∈r:=
   aF (IX (by omega)) (aQg y hy l hl (i+1) c _ (by simp;omega) ((hu.mono λv=>Or.imp_right (List.mem_append_left _)).step e (.inr (by simp))))
  refine aD (Jq y.Plan hy x.ID) λj hj=>?_
  have hj:j=dE y.Plan x.ID:=hj
  subst hj
  refine aC (λz=>aD (f:=λn _=>Kw n (x,(dE y.Plan x.ID).1)) (Q:=λr=>r=false->(dE y.Plan x.ID).1=x) (aC (λw=>aA λ_=>Zl w) λ_=>aA (by simp)) λr hr=>aC (λ_=>put) λw=>aQg y hy l hl (i+1) c g (by omega) (hu.step e (.inl (Prod.ext (hr w) z)))) λ_=>aD (f:=λn _=>cE n ()) (Q:=λ_=>True) (aA trivial) λ_ _=>put) λh=>aA ⟨show g.length<=_ by omega,hu.fin h⟩)
termination_by l.length-i
theorem ftE{f g:aG}(a:f.ID=g.ID)(b:f.Kind=g.Kind)(c:f.Class=g.Class)(d:f.Name=g.Name)(e:f.Parts=g.Parts): g=f:=by
 cases f;cases g
 simp only at a b c d e
 subst a b c d e
 rfl
theorem aUO(f g:aG)(hf:f.Parts.length<=1000)(id:f.ID=g.ID): aB (λn _=>Kv n (f,g)) λr=>r=true->g=f:=
 aC (λh1=>aC (λh2=>aC (λh3=>aD (aSu f.Parts g.Parts (by omega)) λd hd=>aC (λh4=>aA λ_=>by
  have k1:f.Kind=g.Kind:=by simpa using h1
  have k2:f.Class=g.Class:=by simpa using h2
  have k3:=Zl h3
  have k4:=hd h4
  exact ftE id k1 k2 k3 k4) λ_=>aA (by simp)) λ_=>aA (by simp)) λ_=>aA (by simp)) λ_=>aA (by simp)
theorem aC6{s:aJ}{id:Int}(h:(oO s id).2=true): (oO s id).1∈s.Features/\(oO s id).1.ID=id:=by
 unfold oO at h |-
 split at h
 .rename_i a e
  exact⟨Xf e,by have:=List.find?_some e;simpa using this⟩
 .cases h
def aHZ(x y:aJ)(r:List Aaa)(f:aG): Prop:=oO y f.ID=(f,true)\/∃B:Aad,(B.X0<=B.X1/\B.Y0<=B.Y1)/\aB (λn _=>eI n x f.ID) (λr=>r=(B,true))/\Aaa.mk B.X0 B.Y0∈r/\Aaa.mk B.X1 B.Y1∈r
theorem aHZ.mono{x y:aJ}{r s:List Aaa}{f:aG}(h:aHZ x y r f)(k:∀p∈r,p∈s): aHZ x y s f:=h.imp_right λ⟨B,a,b,c,d⟩=>⟨B,a,b,k _ c,k _ d⟩
theorem aQf(x y:aJ)(hx:Li x)(sx:SvX x)(hy:mO y)(i:Nat)(R:i<=x.Features.length)(b g:List Aaa)(hb:b.length<=200000)(hg:g.length<=b.length+2*i)(sub:∀p∈b,p∈g)(hu:lK x.Features i (aHZ x y g)): aB (λn m=>mX gM n m (x,y,x.Features,ln x.Features) (g,(i:Int))) λr=>r.length<=400000/\(∀p∈b,p∈r)/\∀f∈x.Features,aHZ x y r f:=
 bU (aW (λf e c=>by
  have hn:=hx.n
  have mf:=Zg e
  have hf:=hx.f f mf
  rw[bO (i:=i) (by omega)]
  obtain⟨B,b1,b2⟩:=aDu x hx sx f mf
  have put:aB (λn m=>bnd (eI n x f.ID) λo=>cnd o.2 (bnd (app g [(Aaa.mk o.1.X0 o.1.Y0),(Aaa.mk o.1.X1 o.1.Y1)]) λr=>mX gM n m (x,y,x.Features,ln x.Features) (r,((i+1:Nat):Int))) (mX gM n m (x,y,x.Features,ln x.Features) (g,((i+1:Nat):Int)))) λr=>r.length<=400000/\(∀p∈b,p∈r)/\∀f∈x.Features,aHZ x y r f:=by
   refine aD b2 λo ho=>?_
   have ho:o=(B,true):=ho
   subst ho
   refine aC (λ_=>aF (tP (by simp;omega)) (aQf x y hx sx hy (i+1) c b _ hb (by simp;omega) (λp hp=>List.mem_append_left _ (sub p hp)) ((hu.mono λv h=>h.mono λp hp=>List.mem_append_left _ hp).step e (.inr ⟨B,b1,b2,by simp,by simp⟩)))) λz=>by cases z
  refine aD (aKH y hy f.ID) λl hl=>?_
  have hl:l=oO y f.ID:=hl
  subst hl
  refine aC (λz=>aD (aUO f _ (by omega) (aC6 z).2.symm) λr hr=>aC (λw=>aQf x y hx sx hy (i+1) c b g hb (by omega) sub (hu.step e (.inl (Prod.ext (hr w) z)))) λ_=>put) λ_=>aD (f:=λn _=>cE n ()) (Q:=λ_=>True) (aA trivial) λ_ _=>put) λh=>aA ⟨show g.length<=_ by have:=hx.n;omega,sub,hu.fin h⟩)
termination_by x.Features.length-i
theorem Q4(x y:aJ)(hx:Li x)(sx:SvX x)(hy:mO y): aB (λn _=>wX n x y) (Chg x y):=by
 have lN:=hx.v.leN
 refine aV (λ_=>rfl) (aD (aX (aQg y hy.p x.Plan.Nodes (by omega) 0 (by omega) [] (by simp) .nil)) λc hc=>aD (aMV x.Plan y.Plan hx.v hy.p) λd hd=>aF (tP (by have:=hc.1;have:=hd.1;omega)) (aD (aX (aQf x y hx sx hy 0 (by omega) (c++d) (c++d) (by have:=hc.1;have:=hd.1;simp;omega) (by omega) (λ_ h=>h) .nil)) λg hg=>aF rfl (aA ⟨hg.1,λv hv=>(hc.2 v hv).imp_right λh=>hg.2.1 _ (List.mem_append_left _ h),hg.2.2,λe=>hd.2 ?_⟩)))
 rcases d with _ | ⟨a,t⟩
 .rfl
 .have:=hg.2.1 a (by simp)
  rw[e] at this
  cases this
section
theorem aRj(a:List Int)(ha:a.length<=100000)(i:Nat): aB (λn m=>oR qV n m (a,a) (i:Int)) (Su (λ_=>False) λ_=>True):=
 bK (aW (λx e c=>by
  rw[bO (i:=i) (by omega)]
  exact aF (by rw[bF];exact e) (aC (λz=>by simp at z) λ_=>aRj a ha (i+1))) λh=>aA trivial)
termination_by a.length-i
theorem aUo(a:List Int)(ha:a.length<=100000): aB (λn _=>qW n a a) λr=>r=true:=
 aV (λ_=>rfl) (aC (λz=>by simp at z) λ_=>aP (aX (aRj a ha 0)) (λ_ h=>h.elim) λ_ _=>aF rfl (aA rfl))
theorem aRm(f:aG)(hf:f.Parts.length<=1000): aB (λn _=>nF n f f) λr=>r=true:=
 aV (λ_=>rfl) (aD (f:=λn _=>Am n (f,f)) (Q:=λr=>r=true) (aC (λ_=>aC (λ_=>aC (λ_=>aC (λ_=>aD (aUo f.Parts (by omega)) λd hd=>aC (λ_=>aA rfl) λz=>by rw[show d=true from hd] at z;cases z) λz=>by simp at z) λz=>by simp at z) λz=>by simp at z) λz=>by simp at z) λr hr=>aC (λ_=>aA rfl) λz=>by rw[show r=true from hr] at z;cases z)
theorem aO1(a:List Aaa)(ha:a.length<=100000)(i:Nat): aB (λn m=>oR qX n m (a,a) (i:Int)) (Su (λ_=>False) λ_=>True):=
 bK (aW (λx e c=>by
  rw[bO (i:=i) (by omega)]
  exact aF (by rw[bF];exact e) (aC (λz=>by first | exact aO1 a ha (i+1) | (simp at z)) λz=>by first | exact aO1 a ha (i+1) | (simp at z))) λh=>aA trivial)
termination_by a.length-i
theorem aUn(a:List Aaa)(ha:a.length<=100000): aB (λn _=>xB n a a) λr=>r=true:=
 aV (λ_=>rfl) (aC (λz=>by simp at z) λ_=>aP (aX (aO1 a ha 0)) (λ_ h=>h.elim) λ_ _=>aF rfl (aA rfl))
theorem aUp(a:aQ)(ha:a.Via.length<=1000): aB (λn _=>Pz n a a) λr=>r=true:=
 aV (λ_=>rfl) (aD (f:=λn _=>Py n (a,a)) (Q:=λr=>r=true) (aC (λ_=>aC (λ_=>aC (λ_=>aC (λ_=>aC (λ_=>aD (aUn a.Via (by omega)) λd hd=>aC (λ_=>aA rfl) λz=>by rw[show d=true from hd] at z;cases z) λz=>by simp at z) λz=>by simp at z) λz=>by simp at z) λz=>by simp at z) λz=>by simp at z) λr hr=>aC (λ_=>aA rfl) λz=>by rw[show r=true from hr] at z;cases z)
theorem aRq(p:aK)(hp:Sm p)(i:Nat): aB (λn m=>oR Dy n m (p,p) (i:Int)) (Su (λ_=>False) λ_=>True):=
 bK (aW (λx e c=>by
  rw[bO (i:=i) (by have:=hp.n;omega)]
  exact aF (by rw[bF];exact e) (aC (λ_=>aRq p hp (i+1)) λz=>by simp at z)) λh=>aA trivial)
termination_by p.Nodes.length-i
theorem aRp(p:aK)(hp:Sm p)(i:Nat): aB (λn m=>oR Dx n m (p,p) (i:Int)) (Su (λ_=>False) λ_=>True):=
 bK (aW (λx e c=>by
  rw[bO (i:=i) (by have:=hp.a;omega)]
  exact aF (by rw[bF];exact e) (aD (aUp x (by have:=hp.v x (Zg e);omega)) λd hd=>aC (λ_=>aRp p hp (i+1)) λz=>by rw[show d=true from hd] at z;cases z)) λh=>aA trivial)
termination_by p.Arcs.length-i
theorem aRo(p:aK)(hp:Sm p)(i:Nat): aB (λn m=>oR Dw n m (p,p) (i:Int)) (Su (λ_=>False) λ_=>True):=
 bK (aW (λx e c=>by
  rw[bO (i:=i) (by have:=hp.f;omega)]
  exact aF (by rw[bF];exact e) (aC (λz=>by simp at z) λ_=>aRo p hp (i+1))) λh=>aA trivial)
termination_by p.Faces.length-i
theorem aOA(p:aK)(hp:Sm p): aB (λn _=>B1 n p p) λr=>r=true:=
 aV (λ_=>rfl) (aD (f:=λn _=>QO n (p,p)) (Q:=λr=>r=false) (aC (λz=>by simp at z) λ_=>aC (λz=>by simp at z) λ_=>aC (λz=>by simp at z) λ_=>aA rfl) λr hr=>aC (λz=>by rw[show r=false from hr] at z;cases z) λ_=>aP (aX (aRq p hp 0)) (λ_ h=>h.elim) λ_ _=>aF rfl (aP (aX (aRp p hp 0)) (λ_ h=>h.elim) λ_ _=>aF rfl (aP (aX (aRo p hp 0)) (λ_ h=>h.elim) λ_ _=>aF rfl (aA rfl))))
theorem aIJ(s:aJ)(o:mO s)(i:Nat): aB (λn m=>oR Du n m (s,s) (i:Int)) (Su (λ_=>False) λ_=>True):=
 bK (aW (λx e c=>by
  rw[bO (i:=i) (by have:=o.n;omega)]
  exact aF (by rw[bF];exact e) (aD (aRm x (o.f x (Zg e))) λd hd=>aC (λ_=>aIJ s o (i+1)) λz=>by rw[show d=true from hd] at z;cases z)) λh=>aA trivial)
termination_by s.Features.length-i
theorem aO9(s:aJ)(o:mO s): aB (λn _=>A7 n s s) λr=>r=true:=
 aV (λ_=>rfl) (aD (f:=λn _=>QN n (s,s)) (Q:=λr=>r=false) (aD (aOA s.Plan o.p) λd hd=>aC (λ_=>aC (λz=>by simp at z) λ_=>aA rfl) λz=>by rw[show d=true from hd] at z;cases z) λr hr=>aC (λz=>by rw[show r=false from hr] at z;cases z) λ_=>aP (aX (aIJ s o 0)) (λ_ h=>h.elim) λ_ _=>aF rfl (aA rfl))
variable {α:Type}{g:α->Int}{p:aK}
theorem aIS: ∀{l m:List α},l.Pairwise (λa b=>g a<g b)->m.Pairwise (λa b=>g a<g b)->(∀v,v∈l↔v∈m)->l=m
 | [],[],_,_,_=>rfl
 | [],b::m,_,_,h=>absurd ((h b).2 ZM) (by simp)
 | a::l,[],_,_,h=>absurd ((h a).1 ZM) (by simp)
 | a::l,b::m,p,q,h=>by
  obtain⟨p1,p2⟩:=List.pairwise_cons.1 p
  obtain⟨q1,q2⟩:=List.pairwise_cons.1 q
  have e:a=b:=by
   rcases ZN.1 ((h a).1 ZM) with k | k
   .exact k
   .rcases ZN.1 ((h b).2 ZM) with j | j
    .exact j.symm
    .have:=q1 a k;have:=p1 b j;omega
  subst e
  rw[aIS p2 q2 λv=>⟨λk=>?_,λk=>?_⟩]
  .rcases ZN.1 ((h v).1 (ZQ _ k)) with j | j
   .subst j;have:=p1 v k;omega
   .exact j
  .rcases ZN.1 ((h v).2 (ZQ _ k)) with j | j
   .subst j;have:=q1 v k;omega
   .exact j
theorem aK5{l m:List α}(a:L0 (l.map g))(b:L0 (m.map g))(h:∀v∈l,v∈m)(k:∀v∈m,v∈l): l=m:=
 aIS (g:=g) (List.pairwise_map.1 (aAI a)) (List.pairwise_map.1 (aAI b)) λv=>⟨h v,k v⟩
theorem VZ{v:Aab}(h:dE p v.ID=(v,true)): v∈p.Nodes:=by
 unfold dE at h
 split at h
 .rename_i a e
  cases h
  exact Xf e
 .cases h
theorem O8{s:aJ}{f:aG}(h:oO s f.ID=(f,true)): f∈s.Features:=by
 have:=aC6 (s:=s) (id:=f.ID) (by rw[h])
 rw[h] at this
 exact this.1
theorem aG5{q:aK}(V:iQ p)(W:iQ q){l:aQ}(hl:l∈p.Arcs)(h:QM p q l): l∈q.Arcs:=by
 obtain⟨f,⟨e1,e2,e3,e4⟩,e5⟩:=h
 obtain⟨m,hm,hid⟩:=aG7 f
 have ev:vC q l.ID=(m,true):=by rw[<-hid];exact aG6 W hm
 rw[ev] at e1 e2 e3 e4
 have h1:=FM V hl
 have h2:=FM W hm
 rw[hid] at h2
 rw[h1,h2] at e5
 have e6:(dE p l.From).fst.At=(dE q m.From).fst.At/\l.Via=m.Via/\(dE p l.To).fst.At=(dE q m.To).fst.At:=by simpa using e5
 have e7:=e6.2.1
 have:l=m:=by
  cases l;cases m
  simp only at hid e1 e2 e3 e4 e7
  subst hid e1 e2 e3 e4 e7
  rfl
 rw[this]
 exact hm
theorem aPh(d:Ec){x y:aJ}(hx:Li x)(hy:Li y)(a:Chg x y [])(b:Chg y x []): x=y:=by
 have X:=hx.x d
 have Y:=hy.x d
 have n:x.Plan.Nodes=y.Plan.Nodes:=aK5 hx.v.asN hy.v.asN (λv h=>(a.nd v h).elim VZ λk=>by cases k) λv h=>(b.nd v h).elim VZ λk=>by cases k
 have r:x.Plan.Arcs=y.Plan.Arcs:=aK5 hx.v.asA hy.v.asA (λv h=>aG5 hx.v hy.v h (a.ar rfl v h)) λv h=>aG5 hy.v hx.v h (b.ar rfl v h)
 have f:x.Features=y.Features:=aK5 X.asc Y.asc (λv h=>(a.ft v h).elim O8 λ⟨_,_,_,k,_⟩=>by cases k) λv h=>(b.ft v h).elim O8 λ⟨_,_,_,k,_⟩=>by cases k
 have fc:∀{s t:aJ} (hs:Li s) (ht:Li t) (S:SvX s) (e:s.Plan.Arcs=t.Plan.Arcs) (v:Int),v∈s.Plan.Faces->v∈t.Plan.Faces:=λ{s t} hs ht S e v h=>by
  obtain⟨w,hw,k⟩:=S.lb v h
  rw[e] at hw
  have n0:=(hs.v.nuF v h).1
  have sd:=ht.v.sid w hw
  rcases k with k | k
  .rw[k] at sd;exact sd.1.elim (λz=>by omega) id
  .rw[k] at sd;exact sd.2.elim (λz=>by omega) id
 have c:x.Plan.Faces=y.Plan.Faces:=(aAI hx.v.asF).uniq (aAI hy.v.asF) λv=>⟨fc hx hy X r v,fc hy hx Y r.symm v⟩
 obtain⟨⟨x1,x2,x3⟩,x4⟩:=x
 obtain⟨⟨y1,y2,y3⟩,y4⟩:=y
 simp only at n r f c
 subst n r f c
 rfl
end
theorem aUB(B:Aad)(p:Aaa)(h:InB B p): aB (λn _=>AN n (B,p)) λr=>r=true:=
 aC (λ_=>aC (λ_=>aC (λ_=>aC (λ_=>aA rfl) λz=>absurd h.2.2.2 (Zp z)) λz=>absurd h.2.2.1 (Zp z)) λz=>absurd h.2.1 (Zp z)) λz=>absurd h.1 (Zp z)
theorem aSe(B:Aad)(p:Aaa): aB (λn _=>Ix n B p) λr=>InB B p->r=true:=by
 rcases Classical.em (InB B p) with h | h
 .exact aB.imp (P:=λr=>r=true) (aV (λ_=>rfl) (aD (aUB B p h) λc hc=>aC (λ_=>aA rfl) λz=>by rw[show c=true from hc] at z;cases z)) λ_ e _=>e
 .exact aB.imp (P:=λ_=>True) (TC.h (f:=λn=>Ix n B p)) λ_ _ e=>absurd e h
theorem aN8(B b:Aad): aB (λn _=>Cw n B b) λr=>InB B ⟨b.X0,b.Y0⟩->InB B ⟨b.X1,b.Y1⟩->r=false:=by
 refine aV (λ_=>rfl) (aD (f:=λn _=>Ps n (B,b)) (Q:=λr=>InB B ⟨b.X0,b.Y0⟩->InB B ⟨b.X1,b.Y1⟩->r=false) ?_ λr h=>aC (λz=>aA λi j=>by rw[h i j] at z;cases z) λ_=>aA λ_ _=>rfl)
 refine aC (λz=>aA λi j=>?_) λ_=>aC (λz=>aA λi j=>?_) λ_=>aC (λz=>aA λi j=>?_) λ_=>aC (λz=>aA λi j=>?_) λ_=>aC (λz=>aA λi j=>?_) λ_=>aC (λz=>aA λi j=>?_) λ_=>aA λ_ _=>rfl
 all_goals
  have z:=Zl z
  obtain⟨i1,i2,i3,i4⟩:=i
  obtain⟨j1,j2,j3,j4⟩:=j
  simp only at i1 i2 i3 i4 j1 j2 j3 j4
  omega
theorem aP0(x y:aJ)(B:Aad)(r:List Aaa)(c:Chg x y r)(hx:Sm x.Plan)(hy:Sm y.Plan)(hb:∀p∈r,InB B p)(i:Nat): aB (λn m=>oR Dt n m (x,y,B) (i:Int)) (Su (λ_=>False) λ_=>True):=
 bK (aW (λv e k=>by
  rw[bO (i:=i) (by have:=hx.n;omega)]
  have cv:=c.nd v (Zg e)
  refine aD (aNh y.Plan hy v.ID) λj hj=>?_
  have hj:j=dE y.Plan v.ID:=hj
  subst hj
  refine aC (λz=>aD (f:=λn _=>QK n (B,v,(dE y.Plan v.ID).1)) (Q:=λr=>r=false) (aD (aSe B v.At) λf hf=>aC (λ_=>aA rfl) λw=>aC (λ_=>aA rfl) λu=>?_) λl hl=>aC (λw=>by rw[show l=false from hl] at w;cases w) λ_=>aP0 x y B r c hx hy hb (i+1)) λz=>aD (f:=λn _=>QJ n (B,v)) (Q:=λr=>r=false) (aD (aSe B v.At) λf hf=>aC (λ_=>aA rfl) λw=>?_) λl hl=>aC (λw=>by rw[show l=false from hl] at w;cases w) λ_=>aP0 x y B r c hx hy hb (i+1)
  .rcases cv with q | q
   .exact absurd (show (dE y.Plan v.ID).1=v by rw[q]) (Zp u)
   .rw[hf (hb _ q)] at w;cases w
  .rcases cv with q | q
   .rw[q] at z;cases z
   .rw[hf (hb _ q)] at w;cases w) λh=>aA trivial)
termination_by x.Plan.Nodes.length-i
theorem aPz(x y:aJ)(B:Aad)(r:List Aaa)(c:Chg x y r)(hx:Li x)(sx:SvX x)(hy:mO y)(hb:∀p∈r,InB B p)(i:Nat): aB (λn m=>oR Ds n m (x,y,B) (i:Int)) (Su (λ_=>False) λ_=>True):=
 bK (aW (λf e k=>by
  have mf:=Zg e
  have hf:=hx.f f mf
  rw[bO (i:=i) (by have:=hx.n;omega)]
  obtain⟨D,_,b2⟩:=aDu x hx sx f mf
  have cf:oO y f.ID=(f,true)\/(InB B ⟨D.X0,D.Y0⟩/\InB B ⟨D.X1,D.Y1⟩):=(c.ft f mf).imp_right λ⟨E,_,t,p,q⟩=>by
   have:(D,true)=(E,true):=aB.uniq (P:=λr=>r=(E,true)) b2 t
   cases this
   exact⟨hb _ p,hb _ q⟩
  refine aD b2 λo ho=>?_
  have ho:o=(D,true):=ho
  subst ho
  refine aC (λ_=>aD (aNi y hy f.ID) λl hl=>?_) λz=>by cases z
  have hl:l=oO y f.ID:=hl
  subst hl
  refine aC (λz=>aD (f:=λn _=>QI n (B,f,D,(oO y f.ID).1)) (Q:=λr=>r=false) (aD (aN8 B D) λg hg=>aC (λw=>?_) λ_=>aA rfl) λl hl=>aC (λw=>by rw[show l=false from hl] at w;cases w) λ_=>aPz x y B r c hx sx hy hb (i+1)) λz=>aD (f:=λn _=>QH n (B,D)) (Q:=λr=>r=false) (aD (aN8 B D) λg hg=>aC (λw=>?_) λ_=>aA rfl) λl hl=>aC (λw=>by rw[show l=false from hl] at w;cases w) λ_=>aPz x y B r c hx sx hy hb (i+1)
  .rcases cf with q | q
   .rw[q]
    exact aD (aRm f (by omega)) λd hd=>aC (λ_=>aA rfl) λu=>by rw[show d=true from hd] at u;cases u
   .rw[hg q.1 q.2] at w;cases w
  .rcases cf with q | q
   .rw[q] at z;cases z
   .rw[hg q.1 q.2] at w;cases w) λh=>aA trivial)
termination_by x.Features.length-i
theorem aJF(x y:aJ)(B:Aad)(r:List Aaa)(c:Chg x y r)(hx:Li x)(sx:SvX x)(hy:mO y)(hb:∀p∈r,InB B p): aB (λn _=>JA n x y B) λr=>r=true:=
 aV (λ_=>rfl) (aP (aX (aP0 x y B r c hx.v.sm hy.p hb 0)) (λ_ h=>h.elim) λ_ _=>aF rfl (aP (aX (aPz x y B r c hx sx hy hb 0)) (λ_ h=>h.elim) λ_ _=>aF rfl (aA rfl)))
theorem aEC(d:Ec)(t:A1)(s:aJ)(o:mO s)(g:aO): aB (λn _=>gX n s g) λr=>r.2=0->Li s/\Li r.1:=
 aV (λ_=>rfl) (aD (aMD g) λc hc=>aC (λz=>aA λk=>absurd (show c=0 from k) (by simpa using z)) λz=>aD (ND d s o) λe he=>aC (λy=>aA λk=>absurd (show e=0 from k) (by simpa using y)) λy=>by
  have hc:=hc (by simpa using z)
  have he:=he (by simpa using y)
  exact aD (aOW d t s he g hc.1) λf hf=>aA λk=>⟨he,hf k⟩)
theorem aHV(d:Ec)(t:A1)(s:aJ)(g:aO): aB (λn _=>nE n s g) λr=>r=true:=by
 refine aV (λ_=>rfl) (aD (aM1 s g) λc hc=>aC (λz=>?_) λ_=>aSJ)
 have o:=hc z
 obtain⟨a,ha,A⟩:=(aEC d t s o g).val
 obtain⟨y,e⟩:=a
 refine aD A λr hr=>?_
 have hr:r=(y,e):=hr
 subst hr
 rcases Classical.em (e=0) with e0 | e0
 .subst e0
  obtain⟨hx,hy⟩:=ha rfl
  have sx:=hx.x d
  have sy:=hy.x d
  obtain⟨p,hp,P⟩:=(Q4 s y hx sx hy.ok).val
  obtain⟨q,hq,Q⟩:=(Q4 y s hy sy hx.ok).val
  have lp:=hp.len
  have lq:=hq.len
  obtain⟨B,hB,RB⟩:=(aRD (p++q) (by simp;omega)).val
  have TT:aB (λn _=>qN n s g) λr=>r=(B,0):=by
   refine aV (λ_=>rfl) (aD A λr hr=>?_)
   have hr:r=(y,0):=hr
   subst hr
   refine aC (λz=>by simp at z) λ_=>aD P λu hu=>aD Q λv hv=>?_
   have hu:u=p:=hu
   have hv:v=q:=hv
   subst hu hv
   exact aF (tP (by omega)) (aD RB λh hh=>aA (by rw[show h=B from hh]))
  refine aD TT λf hf=>?_
  have hf:f=(B,0):=hf
  subst hf
  refine aC (λz=>by simp at z) λ_=>aC (λz=>by simp at z) λ_=>aD (f:=λn _=>Ag n (s,y,B)) (Q:=λr=>r=true) (aD (aJF s y B p hp hx sx hy.ok λv h=>hB.1 v (List.mem_append_left _ h)) λk1 h1=>aC (λ_=>aD (aJF y s B q hq hy sy hx.ok λv h=>hB.1 v (List.mem_append_right _ h)) λk2 h2=>aC (λ_=>aC (λ_=>aD OJ λw hw=>aC (λ_=>aA rfl) λz=>by rw[show w=true from hw] at z;cases z) λz=>?_) λz=>by rw[show k2=true from h2] at z;cases z) λz=>by rw[show k1=true from h1] at z;cases z) λr hr=>aC (λ_=>aA rfl) λz=>by rw[show r=true from hr] at z;cases z
  have z:¬B.X0<=B.X1:=Zp z
  have em:p++q=[]:=by
   rcases h:p++q with _ | ⟨v,w⟩
   .rfl
   .have i:=hB.1 v (by rw[h];exact ZM)
    exact absurd (show B.X0<=B.X1 from Int.le_trans i.1 i.2.1) z
  obtain⟨rfl,rfl⟩:=List.append_eq_nil_iff.1 em
  have xy:=aPh d hx hy hp hq
  subst xy
  exact aD (aO9 s hx.ok) λw hw=>aC (λ_=>aD OJ λw hw=>aC (λ_=>aA rfl) λz=>by rw[show w=true from hw] at z;cases z) λz=>by rw[show w=true from hw] at z;cases z
 .have TT:aB (λn _=>qN n s g) λr=>r=(⟨0,0,0,0⟩,e):=by
   refine aV (λ_=>rfl) (aD A λr hr=>?_)
   have hr:r=(y,e):=hr
   subst hr
   exact aC (λ_=>aA rfl) λz=>absurd (show e=0 by simpa using z) e0
  refine aD TT λf hf=>?_
  have hf:f=(⟨0,0,0,0⟩,e):=hf
  subst hf
  exact aC (λz=>by simp at z) λ_=>aC (λ_=>aC (λ_=>aSJ) λz=>absurd rfl (Zp z)) λz=>absurd (show e=0 by simpa using z) e0
structure ArO(l:List dQ)(b c:Nat): Prop where
 al:∀a∈l,a.alone.length<=c
 l1:1<=l.length
 l2:l.length<=200000
 ou:∀a∈l,a.outer.length<=800000
 inn:∀a∈l,a.inner.length<=b/\∀c∈a.inner,c.length<=800000
 ne:∀(i:Nat) (a:dQ),1<=i->l[i]?=some a->a.outer≠[]
theorem aKp(p:aK)(w:Sm p)(B:Nat): ∀(cs:List<|List Int) (l:List dQ) (q:List<|List Int),ArO l 0 0->l.length+cs.length<=200000->(∀c∈cs,c.length<=800000/\∃d t,c=d::t/\fU p d)->(∀c∈q,c.length<=800000/\∃d t,c=d::t/\fU p d)->
 (∀a∈l,a.inner=[]/\a.outer.length+q.flatten.length+cs.flatten.length<=B)->q.flatten.length+cs.flatten.length<=B->
 aB (λn _=>dv1 n p cs l q) λr=>ArO r.1 0 0/\r.2.length<=q.length+cs.length/\(∀c∈r.2,c.length<=800000/\∃d t,c=d::t/\fU p d)/\∀a∈r.1,a.inner=[]/\a.outer.length+r.2.flatten.length<=B
 | [],l,q,f,_,_,s,j,_=>aA (x:=(l,q)) ⟨f,by simp,s,λa b=>⟨(j a b).1,by have:=(j a b).2;simpa using this⟩⟩
 | c::cs,l,q,f,A,y,s,j,C=>by
  have u:=y c<|ZM ..;have m:∀c∈cs,c.length<=800000/\∃d t,c=d::t/\fU p d:=λc h=>y c<|ZQ _ h;simp only[Yc] at A;simp only[Yt,Zh] at j C;let⟨o,d,D,k,v⟩:=u;refine aD (aHQ p w c) λt _=>aC (λ_=>?_) λ_=>?_
  .refine aB.imp (aKp p w B cs (l++[⟨t,c,[],[]⟩]) q ⟨?_,by simp,by simp;omega,?_,?_,?_⟩ (by simp;omega) m s ?_<|by omega) ?_
   .intro a b;rcases ZD.1 b with b | b
    .exact f.al a b
    .rw[ZJ.1 b];exact Zf _
   .intro a b;rcases ZD.1 b with b | b
    .exact f.ou a b
    .rw[ZJ.1 b];exact o
   .intro a b;rcases ZD.1 b with b | b
    .exact f.inn a b
    .rw[ZJ.1 b];exact⟨Zf _,λc h=>by cases h⟩
   .intro i a z b;rcases ZI i l.length with h | h
    .rw[Zo h] at b;exact f.ne i a z b
    .rw[ZX h] at b;have:a=⟨t,c,[],[]⟩:=by
      have:=Zg b;exact ZJ.1 this
     rw[this,k];simp
   .intro a b;rcases ZD.1 b with b | b
    .have:=j a b;exact⟨this.1,by omega⟩
    .rw[ZJ.1 b];exact⟨rfl,by show c.length+_+_<=B;omega⟩
   .intro r g;exact⟨g.1,by have:=g.2.1;simp only[Yc];omega,g.2.2⟩
  .refine aB.imp (aKp p w B cs l (q++[c]) f (by omega) m ?_ ?_ ?_) ?_
   .intro e he;rcases ZD.1 he with he | he
    .exact s e he
    .rw[ZJ.1 he];exact⟨o,d,D,k,v⟩
   .intro a b;have:=j a b;exact⟨this.1,by simp only[Xw,Zh,Yt,Xd,Z1];omega⟩
   .simp only[Xw,Zh,Yt,Xd,Z1];omega
   .intro r g;exact⟨g.1,by have:=g.2.1;simp only[Yc,Zh,Z1] at this |-;omega,g.2.2⟩
theorem aG8{l:List dQ}{b c:Nat}(h:ArO l b c): ∀x∈l.map arV,x.outer.length<=800000:=by
 intro x d;obtain⟨a,e,rfl⟩:=Yh.1 d;exact h.ou a e
theorem aBv{α:Type}{l:List α}{i:Nat}{a' x:α}(a:x∈l.set i a'): x=a'\/x∈l:=(YL a).symm
theorem ArO.set{l:List dQ}{b b' c c':Nat}{i:Nat}{a a':dQ}(h:ArO l b c)(m:l[i]?=some a)(g:a'.outer=a.outer)(n:b<=b')(p:a'.inner.length<=b'/\∀c∈a'.inner,c.length<=800000)(o:c<=c')(f:a'.alone.length<=c'): ArO (l.set i a') b' c':=by
 refine⟨?_,by rw[Yr];exact h.l1,by rw[Yr];exact h.l2,?_,?_,?_⟩
 .intro x d;rcases aBv d with rfl | d
  .exact f
  .exact ZB (h.al x d) o
 .intro x d;rcases aBv d with rfl | d
  .rw[g];exact h.ou a<|Zg m
  .exact h.ou x d
 .intro x d;rcases aBv d with rfl | d
  .exact p
  .exact⟨ZB (h.inn x d).1 n,(h.inn x d).2⟩
 .intro j x k d;rw[Z5] at d;split at d
  .rename_i e;subst e;split at d
   .cases d;rw[g];exact h.ne i a k m
   .cases d
  .exact h.ne j x k d
theorem aNV(p:aK)(F:Sm p)(y:iQ p)(m:List<|Int×List Aaa)(o:JP p m)(B:Nat): ∀(cs:List<|List Int) (l:List dQ) (b:Nat),ArO l b 0->(∀c∈cs,c.length<=800000/\∃d t,c=d::t/\fU p d)->(∀a∈l,a.outer.length+a.inner.flatten.length+cs.flatten.length<=B)->
 aB (λn _=>dv2 n m cs l) λr=>ArO r (b+cs.length) 0/\∀a∈r,a.outer.length+a.inner.flatten.length<=B
 | [],l,b,g,_,j=>aA ⟨g,λa k=>by have:=j a k;simpa using this⟩
 | c::cs,l,b,g,u,j=>by
  obtain⟨q,d,z,rfl,a,k,I⟩:=u c<|ZM ..;have E:=y.nuA a k;have G:iY d (wr<|0-d)=a.ID:=by
   rw[wr,i64_in _<|by omega];unfold iY;split<;>omega
  let⟨w,A,C⟩:=o.has a k;refine aF (x:=d) rfl<|aF (x:=w[0]'(by omega)) (by rw[G,A];show idx w ((0:Nat):Int)=_;rw[bF];exact Zb<|by omega)<|aD (aGg m o.len (l.map arV) (aG8 g) (by simp;have:=g.l2;omega) (by simp;have:=g.l1;omega) _) λi v=>?_;have f:i.toNat<l.length:=by simpa using v.2
  refine aF (yK v.1 f) ?_;simp only[Yt,Zh,Yc] at j;have H:=aNV p F y m o B cs (l.set i.toNat ⟨l[i.toNat].twice,l[i.toNat].outer,l[i.toNat].inner++[d::z],l[i.toNat].alone⟩) (b+1) (g.set (Zb f) rfl (by omega) (by
   have:=g.inn _<|ZP f;refine⟨by simp;omega,λc e=>?_⟩;rcases ZD.1 e with e | e
   .exact this.2 c e
   .rw[ZJ.1 e];exact q) (Zf _)<|g.al l[i.toNat]<|ZP f) (λc h=>u c<|ZQ _ h) (λx s=>by
    rcases aBv s with rfl | s
    .have:=j _<|ZP f;simp only[Xw,Zh,Yt,Xd,Z1,Yc];omega
    .have:=j x s;omega)
  refine H.imp λr D=>?_;have:b+((d::z)::cs).length=b+1+cs.length:=by simp;omega
  rw[this];exact D
theorem aKo(p:aK)(k:Sm p)(m:List<|Int×List Aaa)(q:JP p m)(b B:Nat): ∀(h:List Aab) (l:List dQ) (c:Nat),ArO l b c->(∀a∈l,a.outer.length+a.inner.flatten.length<=B)->aB (λn _=>dv3 n p m h l) λr=>ArO r b (c+h.length)/\∀a∈r,a.outer.length+a.inner.flatten.length<=B
 | [],l,c,f,j=>aA ⟨f,j⟩
 | x::h,l,c,f,j=>by
  have e:c+(x::h).length=c+1+h.length:=by simp;omega
  rw[e];refine aD (R1 p k x.ID) λd _=>aC (λ_=>aD (aGg m q.len (l.map arV) (aG8 f) (by simp;have:=f.l2;omega) (by simp;have:=f.l1;omega) _) λi s=>?_) λ_=>aKo p k m q b B h l (c+1) ⟨λa t=>Xl<|f.al a t,f.l1,f.l2,f.ou,f.inn,f.ne⟩ j;have g:i.toNat<l.length:=by simpa using s.2
  exact aF (yK s.1 g) (aKo p k m q b B h _ (c+1) (f.set (Zb g) rfl (Zf _) (f.inn l[i.toNat]<|ZP g) (Ys _)<|by have:=f.al l[i.toNat]<|ZP g;simp;omega) λx o=>by
   rcases aBv o with rfl | o
   .exact j l[i.toNat]<|ZP g
   .exact j x o)
theorem aKD{α:Type}{P:α->Prop}{c:Nat->Bool}{g:Nat->Nat->Option α}(K:Nat)(b:∀n,K<=n->c n=true)(h:aB g P): aB (λn m=>Av.bnd (Ls<|c n) λ_=>g n m) P:=by
 let⟨r,a,J,d⟩:=h;refine⟨r,a,max K J,λn m f i=>?_⟩;show Av.bnd (Ls<|c n) (λ_=>g n m)=some r;rw[b n<|by omega];exact d n m (by omega)<|by omega
theorem aS0: Ec:=by
 intro p cs m g t j o;have v:=g.n;have u:=j.1;refine aV (λ_=>rfl)<|aKD (c:=λn=>decide<|cs.length<n/\p.Nodes.length<n/\cs.length<=190000/\p.Nodes.length<=9000) 200000 (λn h=>Yj<|by omega) ?_;refine aD (aKp p g 400000 cs [⟨0,[],[],[]⟩] [] ⟨by simp,by simp,by simp,by simp,by simp,?_⟩ (by simp;omega) j.2.2 (by simp) (by simpa using j.2.1)<|by simpa using j.2.1) λq f=>aD (aNV p g t m o 400000 q.2 q.1 0 f.1 f.2.2.1 λa d=>by rw[(f.2.2.2 a d).1];have:=(f.2.2.2 a d).2;simpa using this) λl b=>?_
 .intro i a w d;have:=(Ze.1 d).1;simp at this;omega
 .have k:=f.2.1;simp only[Z1,Z0] at k;let⟨b,s⟩:=b;refine aB.imp (aKo p g m o 200000 400000 p.Nodes l 0 ⟨b.al,b.l1,b.l2,b.ou,λa d=>⟨by have:=(b.inn a d).1;omega,(b.inn a d).2⟩,b.ne⟩ s) λr e=>⟨λa d=>by have:=e.1.al a d;omega,e.2,e.1.l1,e.1.l2,e.1.ou,e.1.inn,e.1.ne⟩
theorem aGc(g:dW)(l:List Int)(b:l.length<=300)(i:Nat)(m:List (Int×Int)): Tt (λn k=>mX uW n k (g,l,ln l) (m,(i:Int))):=
 bU (aW (λx d a=>by
  rw[bO (by omega)];exact aGc g l b (i+1) _)
  (λc=>aA trivial))
termination_by l.length-i
theorem aGd(l:List dW)(d:l.length<=200000)(a:∀x∈l,x.Alone.length<=300)(i:Nat)(m:List (Int×Int)): Tt (λn k=>mX uX n k (l,ln l) (m,(i:Int))):=
 bU (aW (λx c b=>by
  rw[bO (by omega)];exact aD (aX (aGc x x.Alone (a x (Zg c)) 0 m)) λ_ _=>aGd l d a (i+1) _)
  (λe=>aA trivial))
termination_by l.length-i
theorem aGb(p:aK)(c:Sm p): Tt (λn _=>oH n p):=by
 obtain⟨v,e,_,a,_⟩:=OR aS0 p c;exact aV (λ_=>rfl) (aD e λw b=>by
  subst b;exact aD (aX (aGd w.1 a.1 (λx d=>(a.2 x d).2.2) 0 [])) λ_ _=>aA trivial)
theorem aUm: A1:=λp q x b a=>aV (λ_=>rfl) (aD (aGb p b) λ_ _=>aD (aGb q a) λ_ _=>aA trivial)
section
open Go.Proofs
theorem aI8{P:Program}{n:Nat}{t0 t1:TypeId}{c:List AV}(h:Pw P n [t0,t1] c): ∃x0 x1,c=[x0,x1]/\(∃ys,wL P n t0 ys/\x0=QG P t0 ys)/\(∃ys,wL P n t1 ys/\x1=QG P t1 ys):=
 match c,h with
 | [x0,x1],⟨h0,h1,_⟩=>⟨x0,x1,rfl,h0,h1⟩
theorem aOY: Cx.c=⟨[.v 7,.v 8],[5],false,λn p=>nE n p.1 p.2⟩:=by kernel_rfl
theorem aLK(b:List AV)(h:Pw PP 10 [29,34] b): ∃k H',fC PP T k 0 1 b []=some (.lit<|.bool true,H'):=by
 obtain⟨x0,x1,rfl,h0,h1⟩:=aI8 h
 let⟨a0,q0,l0⟩:=aG4 (k:=7) (H:=[]) (by kernel_rfl) (by kernel_rfl) (.inl<|by kernel_rfl) h0
 let⟨a1,q1,l1⟩:=aG4 (k:=8) (H:=[]) (by kernel_rfl) (by kernel_rfl) (.inl<|by kernel_rfl) h1
 let⟨r,l,n,f⟩:=aHV aS0 aUm a0 a1;subst l
 have i:FOK PP T 1 ⟨[.v 7,.v 8],[5],false,λn p=>nE n p.1 p.2⟩:=aOY▸Cx.ok
 exact aM8 i (n:=n) (p:=(a0,a1)) (r:=true) (f n n (Zf _)<|Zf _) rfl ⟨q0,q1,trivial⟩
theorem aBK(os:Os)(started:os.Started)(H:Type)(enc:TypeId×Value->H):
 ReturnsInHanded {} Tryz.checked os 3 .any (λw args=>(Rows.editOutsideSpec.pre enc Tryz.prog Tryz.f3 [] false w args/\laidMetH Tryz.prog Rows.editOutsideRow.laid w)/\sizedMet enc Tryz.prog Tryz.f3 (OpenSpec.ofChange Rows.editOutsideSpec) false w args)
  (Rows.editOutsideSpec.post enc Tryz.prog Tryz.f3 false true false false):=by
 refine G5 (C:=Tryz.checked) (X:=λw _=>laidMetH Tryz.prog Rows.editOutsideRow.laid w) (λ_ _ _ hh h=>h.of_heap hh) own started (by kernel_rfl) Tryz.func3
  (ChangeSpec.witness_shaped (enc:=enc) (C:=Tryz.checked) (os:=os) (X:=λw _=>laidMetH Tryz.prog Rows.editOutsideRow.laid w) false (World.laidAll Tryz.prog os Rows.editOutsideRow.laid) #[.agg #[.slice none 0 0,.slice none 0 0,.slice none 0 0,.slice none 0 0],.agg #[.int .i64 0,.int .i64 0,.int .i64 0,.int .i64 0,.int .i64 0,.int .i64 0,.int .i64 0,.slice none 0 0,.string ⟨#[]⟩,.slice none 0 0]] 8 (World.laidAll_os _ _ _)
   (World.shaped_of_ZipB (by kernel_rfl) (by kernel_rfl)) (by kernel_rfl) (by kernel_rfl) (by kernel_rfl)
   (by rw[MakeChecks.laidMetH_plain _ _ _ (by kernel_rfl)];exact laidMet_laidAll _ (by kernel_rfl) (by kernel_rfl))) ?_
 intro W base args ds gs before hval hW hlaid hsh hwt
 have hds:∃d0 d1,ds=[d0,d1]/\gs=[]:=by
  obtain⟨p,q,hA,hV,_⟩:=hW
  have hA':DataW.TrodAll enc Tryz.prog W 0 (λ_=>true) true [29,34] args.toList ds p:=by
   have:=hA
   rw[Tryz.params3] at this
   exact this
  obtain⟨v0,vs0,d0,ds0,p0,q0,_,rfl,rfl,h0,r0⟩:=ChangeShapes.trodAll_cons hA'
  obtain⟨v1,vs1,d1,ds1,p1,q1,_,rfl,rfl,h1,r1⟩:=ChangeShapes.trodAll_cons r0
  obtain⟨rfl,rfl,rfl⟩:=ChangeShapes.trodAll_nil r1
  obtain⟨rfl,rfl⟩:=ChangeShapes.trodVars_none hV
  exact⟨_,_,rfl,rfl⟩
 obtain⟨d0,d1,rfl,rfl⟩:=hds
 refine aAe (T:=T) (n:=10) (vi:=1) mixed checked aLB (by kernel_rfl) rfl (tb:=4) (by kernel_rfl) (by kernel_rfl) laid (by rw[Tryz.params3];intro t ht;simp at ht;rcases ht with rfl | rfl<;>exact⟨by kernel_rfl,Zl (by kernel_rfl)⟩) (by kernel_rfl) ?_ (aJV hlaid hsh) ⟨rfl,rfl,rfl⟩ hval hW ?_
 .intro xs hxs
  rw[Tryz.params3] at hxs
  exact aLK xs hxs
 .intro n hn
  have:=Yl.1 hwt n (by
   have e:Tryz.f3.params.toList++Rows.editOutsideSpec.plain.varTypes Tryz.prog=Tryz.f3.params.toList:=Wo _
   show n∈DataW.weightsEach Tryz.prog (Tryz.f3.params.toList++Rows.editOutsideSpec.plain.varTypes Tryz.prog) ([d0,d1]++[])
   rw[e,Wo];exact hn)
  simpa using this
theorem aHd: Rows.EditOutsideSaid:=
 OpenClaim.holds_of_wide 3 Tryz.f3 rfl rfl rfl rfl rfl rfl rfl ⟨rfl,rfl,rfl,rfl,rfl⟩ rfl rfl rfl rfl rfl (by kernel_rfl) Tryz.func3 aHE
  (Zl (by kernel_rfl)) (by unfold Func.isWrapper;first | (rw[Zu (by decide +kernel)];kernel_rfl) | (rw[ZF (by decide +kernel)];exact⟨rfl,rfl⟩))
  (λos started H enc _=>aBK os started H enc)
theorem outs_card: Rows.EditOutsideCardSaid:=
 Claim7.holds_tied_plain_at .later [] [.data] true (true,"840ba4ae51e0abe49a9fc47521eecafb130921000781108fe3f944600d4ccb88") false
  aHd (λ_ h=>by cases h) aRX (λ_ h=>by cases h) editOutside_row_tie rfl ⟨rfl,rfl⟩ aRY rfl
  (λf fn hf hfn=>by
   obtain rfl:f=3:=ZR (aSb.symm.trans hf) |>.symm
   obtain rfl:fn=Tryz.f3:=(ZR (Tryz.func3.symm.trans hfn)).symm
   exact⟨aRZ,λj t ht=>by
    rw[Tryz.params3] at ht
    exact match j,ht with
    | 0,ht=>(by have e:29=t:=(by simpa using ht);subst e;exact aMo)
    | 1,ht=>(by have e:34=t:=(by simpa using ht);subst e;exact aMn)
    | n+2,ht=>(by simp at ht)⟩)
  aSa
end
end Go.Proofs.YtabioopnpgiijaaGreatDoor.Av
