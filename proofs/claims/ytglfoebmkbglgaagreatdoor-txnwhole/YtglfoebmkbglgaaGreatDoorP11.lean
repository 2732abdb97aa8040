/- A part of the proof of a law on transactions. -/
import Derived.Test.YtglfoebmkbglgaaGreatDoorP10
import Derived.Test.YtglfoebmkbglgaaGreatDoorP7
import Derived.Test.YtglfoebmkbglgaaGreatDoorP0
import Derived.Test.YtglfoebmkbglgaaGreatDoorP9
import Derived.Test.YtglfoebmkbglgaaGreatDoorP6
set_option maxRecDepth 100000
set_option maxHeartbeats 4000000
set_option linter.all false
namespace Go.Proofs.YtglfoebmkbglgaaGreatDoor.Av
open Go
theorem FE.fe{s:aJ}(h:FE s): FeI s.Features s.Features.length 0:=⟨rfl,λj f a=>by have:=h.f f (Zf a);omega,λj f _ a=>h.f f (Zf a)⟩
theorem FE.ar{s:aJ}(h:FE s): mR s.Plan.Arcs s.Plan.Arcs.length:=⟨rfl,h.ok.p.v⟩
def M7(l:List aD): Prop:=l.length<=1000/\∀f∈l,f.Parts.length<=1000
theorem FE.fs{s:aJ}(h:FE s): M7 s.Features:=⟨h.ok.n,h.ok.f⟩
theorem M7.set{l:List aD}(h:M7 l){i:Nat}{g:aD}(b:g.Parts.length<=1000): M7 (l.set i g):=⟨by rw[Yq];exact h.1,λf a=>by
 rcases YL a with a | rfl
 .exact h.2 f a
 .exact b⟩
theorem aUz(s:aJ)(a:FE s)(b:List Int)(g:bF): aB (λn _=>He n (s.Plan.Faces,b,s.Plan.Nodes,s.Plan.Arcs,s.Features,g)) (Su (λv=>v≠0) λv=>v.1.length<=65/\mR v.2.1 s.Plan.Arcs.length/\v.2.2.1.length=s.Features.length/\∀x∈v.2.2.1,x.Parts.length<=65):=by
 have i:=a.v.leF;have d:=a.v.leA;have e:=a.n;refine aY (aS (f:=λn _=>Gk n (s.Plan.Faces,s.Plan.Nodes,s.Plan.Arcs,s.Features,g)) (Q:=λv:Int=>v≠0) (R:=λ_=>True) (aE (aAC s.Plan.Faces g.ID (by omega)) λ_ _=>aC (λ_=>aE (aAC s.Plan.Faces g.A (by omega)) λ_ _=>aC (λ_=>aA (show (8:Int)≠0 by decide)) λ_=>aA trivial) λ_=>aA (show (7:Int)≠0 by decide)) (λ_ h=>aA (by exact h)) λ_ _=>aF rfl ?_);exact aE (aU1 s.Plan.Faces b s.Plan.Nodes s.Plan.Arcs s.Features g.ID g.A (by omega) a.ar (by omega) a.fe (by omega)) λm c=>aA ⟨by have:=c.1;show m.1.length<=65;omega,c.2.1,c.2.2.1,c.2.2.2⟩
theorem aUy(s:aJ)(p:FE s)(b:List Int)(g:bF)(d:U1 g): aB (λn _=>Hc n (s.Plan.Faces,b,s.Plan.Nodes,s.Plan.Arcs,s.Features,g)) (Su (λv=>M7 v.1) (Su (λv=>M7 (win v.2 (some v.1))) λv=>M7 v.1)):=by
 have x:=p.n;have c:=p.fs;refine aY (aE (aEa s g.ID (by omega)) λl i=>aC (λo=>?_) λo=>?_)
 .have a:=i.2.2 o;obtain⟨q,w⟩:∃q:Nat,l.1=(q:Int):=⟨l.1.toNat,by have:=i.1;omega⟩;rw[w] at a |-;have a:q<s.Features.length:=by simpa using a
  have e:=Za a;have m:fU s.Features s.Features.length (q:Int)=some s.Features[q]:=by rw[hP a];exact e
  have e2:idx s.Features (q:Int)=some s.Features[q]:=by rw[bM];exact e
  have r:=c.2 _ (ZR a);rw[bU (by omega)];refine aC (λ_=>aA (by exact c)) λ_=>aC (λ_=>aS (aLQ s.Plan.Faces b s.Plan.Nodes s.Plan.Arcs s.Features (by omega) q a) (λ_ h=>h.elim) λv u=>aF rfl (aA ?_)) λ_=>aC (λ_=>aF m (aF e2 (aA ?_))) λ_=>aC (λ_=>aF m (aF e2 (aA ?_))) λ_=>aC (λ_=>aE (aLk g.Parts (by have:=d.2;omega)) λt j=>aF m (aF e2 (aA ?_))) λ_=>aA (by exact c)
  .subst u;refine⟨by simp[win];omega,λf k=>?_⟩;rcases aEm _ _ _ f (aGt k) with h | rfl
   .exact c.2 f h
   .simp
  .exact c.set r
  .exact c.set r
  .exact c.set (by subst j;have:=d.2;show g.Parts.length<=1000;omega)
 .refine aC (λ_=>aE (aLk g.Parts (by have:=d.2;omega)) λt j=>aY (aF (aBA i.1 i.2.1 (by omega)) (aA ?_))) λ_=>aA (by exact c);subst j;refine⟨by simp;omega,λf k=>?_⟩;rcases aH2 k with h | rfl
  .exact c.2 f h
  .have:=d.2;show g.Parts.length<=1000;omega
theorem aGq.mem{l:List Int}{k:Nat}(h:aGq l k){x:Int}(a:x∈l): 1<=x/\x.toNat<=k:=by
 rw[h] at a;obtain⟨j,b,rfl⟩:=Yi.1 a;have:=Wu.1 b;omega
theorem SzR.da{r:dW}(h:SzR r.Outer r.Inner r.Alone): aOS r:=⟨by have:=h.1;omega,h.2.1.1⟩
theorem aUn(g:bF)(x y:Int): aB (λn _=>Gx n (g,x,y)) λr=>r=x\/r=y:=aC (λ_=>aA (.inl rfl)) λ_=>aA (.inr rfl)
theorem aUm(a:List Aac)(b:List Int)(c:List aP)(d f:Int)(e:b.length<=1000): aB (λn _=>Gw n (a,b,c,d,f)) (Su (λv=>v≠0) λ_=>True):=
 aC (λ_=>aA (show (12:Int)≠0 by decide)) λ_=>aE (aAC b f (by omega)) λ_ _=>aC (λ_=>aA (show (8:Int)≠0 by decide)) λ_=>aC (λ_=>aA (show (12:Int)≠0 by decide)) λ_=>aA trivial
theorem aUl(s:aJ)(a:sE s)(f g:Int): Tt (λn _=>Gu n (s.Plan.Faces,s.Plan.Nodes,s.Plan.Arcs,s.Features,f,g)):=
 aC (λ_=>aE (l7 s a 3 f) λi b=>aE (l7 s a 3 g) λj _=>aE (aOQ i j (by omega)) λ_ _=>aC (λ_=>aA trivial) λ_=>aA trivial) λ_=>aA trivial
theorem aOK{α:Type}{P:α->Prop}{g:Nat->Nat->Option α}(h:aB g P): aB (λn m=>Av.bnd (Av.prd n) λ_=>g n m) P:=by
 obtain⟨r,a,K,b⟩:=h;refine⟨r,a,K+1,λn m c d=>?_⟩;obtain⟨n,rfl⟩:∃k,n=k+1:=⟨n-1,by omega⟩;exact b (n+1) m (by omega) (by omega)
def L19(s:aJ)(v:List Int×List aD×List aP×List aP×aM): Prop:=v.1.length<=65/\(v.2.1.length<=1000/\∀f∈v.2.1,f.Parts.length<=65)/\mR v.2.2.1 (s.Plan.Arcs.length+1)
theorem aU3(hD:Rq)(s:aJ)(o:FE s)(b:List Int)(g:bF)(hg:U1 g): aB (λn _=>Hi n (s.Plan.Faces,b,s.Plan.Nodes,s.Plan.Arcs,s.Features,g)) (Su (λ_=>True) (Su (λ_=>True) (Su (λ_=>True) (L19 s)))):=by
 have ok:=o.ok;have h1:=o.v.leA;have h2:=o.v.leN;have h3:=o.v.leF;have h4:=o.n;refine aY (aE (aCl s g.ID (by omega)) λm J=>aC (λ_=>aA trivial) λ_=>aE (IQ s g.A (by omega)) λ_ _=>aC (λ_=>aE (IQ s g.B (by omega)) λ_ _=>aC (λ_=>?_) λ_=>aA trivial) λ_=>aE (IQ s g.B (by omega)) λ_ _=>aC (λ_=>aA trivial) λ_=>aA trivial);refine aE (aQT s.Plan.Arcs (by omega)) λsa O=>aE (aQS g.Via (by have:=hg.1;omega)) λt ht=>?_;subst O ht;refine aOK (aF (aBA J.1 J.2.1 (by omega)) ?_);obtain⟨q,R⟩:∃q:Nat,m.1=(q:Int):=⟨m.1.toNat,by have:=J.1;omega⟩;have a1:q<=s.Plan.Arcs.length:=by have:=J.2.1;omega
 generalize X:(s.Plan.Arcs.take m.1.toNat++(⟨g.ID,g.A,g.B,g.Via,0,0⟩:aP)::s.Plan.Arcs.drop m.1.toNat)=u;have I:mR u (s.Plan.Arcs.length+1):=by
  refine⟨by rw[<-X,R];simp;omega,λa ha=>?_⟩;rw[<-X] at ha;rcases aH2 ha with h | rfl
  .exact ok.p.v a h
  .have:=hg.1;show g.Via.length<=300;omega
 have G:Sm ⟨s.Plan.Nodes,u,s.Plan.Faces⟩:=⟨by show s.Plan.Nodes.length<=_;omega,by show u.length<=_;rw[I.1];omega,by show s.Plan.Faces.length<=_;omega,I.2⟩;refine aE (aIh _ G) λ_ _=>aC (λ_=>aA trivial) λ_=>aE (aOO hD _ G) λw hw=>aC (λ_=>aA trivial) λK=>?_;obtain⟨U,Q⟩:=hw.2 (by simpa using K);obtain⟨x,T,V,l,_⟩:=RK hD w.1 hw.1;refine aE T λx' N=>?_;subst N;refine aC (λ_=>aA trivial) λS=>?_;obtain⟨hV,C⟩:=V (by simpa using S);have H:q<w.1.Arcs.length:=by rw[U];show q<u.length;rw[I.1];omega
 have ey:idx w.1.Arcs m.1=some w.1.Arcs[q]:=by rw[R,bM];exact Za H
 have d:∀z:Int,(z=0\/z∈w.1.Faces)->0<=z/\z.toNat<x'.1.length:=by
  intro z F;rcases F with rfl | F
  .exact⟨Wq _,by rw[C];simp⟩
  .have:=Q.mem F;omega
 have E:=hV.sid _ (ZR H);have W:=d _ E.1;have sr:=d _ E.2;obtain⟨j,k0,k1,k2⟩:=I.at (i:=q) (by omega);refine aF ey (aF ey (aF (xJ W.1 W.2) (aF (xJ sr.1 sr.2) (aE (aJ9 _ ok.p g.ID [_,_] (by simp) (by
  intro r M;rcases ZO.1 M with rfl | M
  .exact (l.2 _ (ZR _)).da
  .rw[ZK.1 M];exact (l.2 _ (ZR _)).da)) λc0 _=>?_))))
 rw[R];refine aF k1 (aF k2 ?_);simp only[YA];have y:mR (u.set q ⟨j.ID,j.From,j.To,j.Via,c0,j.Right⟩) (s.Plan.Arcs.length+1):=I.set k0 rfl;generalize u.set q ⟨j.ID,j.From,j.To,j.Via,c0,j.Right⟩=Y at y;obtain⟨e,j0,j1,j2⟩:=y.at (i:=q) (by omega);refine aF j1 (aF j2 ?_);have c:mR (Y.set q ⟨e.ID,e.From,e.To,e.Via,e.Left,c0⟩) (s.Plan.Arcs.length+1):=y.set j0 rfl;generalize Y.set q ⟨e.ID,e.From,e.To,e.Via,e.Left,c0⟩=u3 at c;have D:L19 s (s.Plan.Faces,s.Features,u3,[(⟨g.ID,g.A,g.B,g.Via,0,0⟩:aP)],w.1):=⟨by show s.Plan.Faces.length<=65;omega,⟨by show s.Features.length<=1000;omega,λf hf=>by have:=o.f f hf;omega⟩,c⟩;refine aC (λ_=>aC (λ_=>aA trivial) λ_=>aA (by exact D)) λ_=>aE (aUn g _ _) λz F=>aS (aUm _ _ _ _ _ (by omega)) (λ_ _=>aA trivial) λ_ _=>aF rfl ?_;have Z:0<=z/\z.toNat<x'.1.length:=by rcases F with rfl | rfl<;>assumption
 refine aF (xJ Z.1 Z.2) (aE (aHK _ (l.2 _ (ZR _)).da) λl0 L=>aE (aU2 s.Plan.Faces b s.Plan.Nodes s.Plan.Arcs s.Features s.Plan.Faces u3 l0 c0 _ (by omega) ⟨rfl,c.2⟩ (by rw[c.1];omega) o.fe (by omega) L) λm0 k=>aA ?_);exact⟨by have:=k.1;show m0.1.length<=65;omega,⟨by show m0.2.1.length<=1000;rw[k.2.2.1];omega,k.2.2.2⟩,by have:=k.2.1;rw[c.1] at this;exact this⟩
def Ft(l:List aD): Prop:=l.length<=1000/\∀f∈l,f.Parts.length<=65
def Ar(l:List aP): Prop:=l.length<=300/\∀a∈l,a.Via.length<=300
def S18(s:aJ): Int⊕(List aP×List aP×Int)⊕(List aP×List aP×List Aac×List aP×List Int×Int)⊕(List Int×List aD×List aP×List aP×List Aac×List aP×List Int)⊕(List aP×Int)⊕(List Int×List aP×List aD×Int×Int)⊕((Nat×Nat)×List Int×List aP×List aD×Int×Int)⊕((Nat×Nat)×List aP)->Prop:=
 Su (λ_=>True) (Su (λ_=>True) (Su (λ_=>True) (Su (λv=>v.1.length<=300/\Ft v.2.1/\Ar v.2.2.1) (Su (λv=>Ar v.1) (Su (λv=>v.1.length<=300/\Ar v.2.1/\Ft v.2.2.1) (Su (λv=>v.2.1.length<=300/\Ar v.2.2.1/\Ft v.2.2.2.1) (λv=>Ar v.2)))))))
theorem mR.le{l:List aP}{k:Nat}(h:mR l k)(a:k<=300): Ar l:=⟨by rw[h.1];exact a,h.2⟩
theorem aU4(y:Rq)(s:aJ)(f:FE s)(b:List Int)(g:bF)(l:U1 g): aB (λn _=>Hj n (s.Plan.Faces,b,s.Plan.Nodes,s.Plan.Arcs,s.Features,g)) (S18 s):=by
 have ok:=f.ok;have H:=f.v.leA;have I:=f.v.leN;have K:=f.v.leF;have J:=f.n;have d:=f.ar.le (by omega);refine aY (aC (λ_=>aS (aU3 y s f b g l) (λ_ _=>aA trivial) λu z=>?_) λ_=>?_)
 .rcases u with v | u
  .exact aA trivial
  rcases u with v | v
  .exact aA trivial
  .obtain⟨G,E,C⟩:=z;exact aA (show _/\_/\_ from⟨by show v.1.length<=300;omega,E,C.le (by omega)⟩)
 refine aE (aCl s g.ID (by omega)) λm o=>aC (λB=>?_) λ_=>aA (by exact d);have c:=o.2.2 B;obtain⟨q,x⟩:∃q:Nat,m.1=(q:Int):=⟨m.1.toNat,by have:=o.1;omega⟩;rw[x] at c |-;have c:q<s.Plan.Arcs.length:=by simpa using c
 have e:=Za c;have k:fU s.Plan.Arcs s.Plan.Arcs.length (q:Int)=some s.Plan.Arcs[q]:=by rw[hP c];exact e
 have e2:idx s.Plan.Arcs (q:Int)=some s.Plan.Arcs[q]:=by rw[bM];exact e
 rw[bU (by omega)];refine aC (λ_=>aE (aQS g.Via (by have:=l.1;omega)) λt F=>aF k (aF e2 (aA ?_))) λ_=>aE (l7 s ok 2 g.ID) λ_ _=>aC (λ_=>aA (by exact d)) λ_=>aF k (aF e2 (aF k (aF e2 (aE (aUl s ok _ _) λ_ _=>aC (λ_=>aA (by exact d)) λ_=>aS (aLR s.Plan.Faces b s.Plan.Nodes s.Features s.Plan.Arcs (by omega) q c) (λ_ h=>h.elim) λv D=>aF rfl ?_))))
 .show Ar (List.set _ _ _);refine⟨by rw[Yq];exact d.1,λa i=>?_⟩;rcases YL i with i | rfl
  .exact d.2 a i
  .subst F;have:=l.1;show g.Via.length<=300;omega
 .subst D;have w:mR (KY s.Plan.Arcs ⟨0,0,0,[],0,0⟩ q) (KY s.Plan.Arcs ⟨0,0,0,[],0,0⟩ q).length:=⟨rfl,λa i=>by
   rcases aEm _ _ _ a i with h | rfl
   .exact ok.p.v a h
   .simp⟩
  have A:=aLP s.Plan.Arcs ⟨0,0,0,[],0,0⟩ (by omega) q c;refine aC (λ_=>aE (aU0 (s.Plan.Arcs.length-1) s.Plan.Faces b s.Plan.Nodes (KY s.Plan.Arcs ⟨0,0,0,[],0,0⟩ q) s.Features _ _ (by omega) w (by omega) (by omega) f.fe (by omega)) λr j=>aA ?_) λ_=>aA (by exact w.le (by omega));exact (show _/\_/\_ from⟨by have:=j.1;show r.1.length<=300;omega,j.2.1.le (by omega),by rw[j.2.2.1];omega,j.2.2.2⟩)
theorem UY{n:List Aac}{a:List aP}{f:List Int}{l:List aD}(e:n.length<=300)(c:Ar a)(d:f.length<=300)(b:M7 l): sE ⟨⟨n,a,f⟩,l⟩:=⟨⟨e,c.1,d,c.2⟩,b.1,b.2⟩
theorem Ft.ok{l:List aD}(h:Ft l): M7 l:=⟨h.1,λf a=>by have:=h.2 f a;omega⟩
theorem Ar.win{l:List aP}(h:Ar l)(w:Option (Nat×Nat)): Ar (win l w):=⟨by
 cases w with
 | none=>exact h.1
 | some w=>simp only[Av.win];rw[ZI,ZW];have:=h.1;omega,λa b=>h.2 a (aGt b)⟩
theorem aNv(d:Rq)(e:L1)(s:aJ)(a:FE s)(g:bF)(b:List Int): aB (λn _=>bnd2 (tW n (s.Plan.Faces,b,s.Plan.Nodes,s.Plan.Arcs,s.Features,g)) (λf=>(bnd (cH n (s.Plan.Faces,f.1,s.Plan.Arcs,s.Features,f.2)) λq=>(bnd (dZ n (s,g,s.Plan.Faces,f.1,s.Plan.Arcs,s.Features,q,g.ID)) λh=>(cnd (h != 0) (some ((aJ.mk (aM.mk [] [] []) []),h)) (some ((aJ.mk (aM.mk f.1 s.Plan.Arcs s.Plan.Faces) s.Features),0)))))) λi=>(bnd2 (some i) (λj=>(bnd (sA n (j.1,s.Plan.Faces,j.2,s.Plan.Arcs,s.Features,0)) λl=>(bnd (rZ n (s,g,j.1,s.Plan.Faces,j.2,s.Plan.Arcs,s.Features,l,g.ID)) λm=>(cnd (m != 0) (some ((aJ.mk (aM.mk [] [] []) []),m)) (some ((aJ.mk (aM.mk (win j.2 (some j.1)) s.Plan.Arcs s.Plan.Faces) s.Features),0)))))) λo=>(bnd (some o) λr=>(bnd (cH n (s.Plan.Faces,r.1,s.Plan.Arcs,s.Features,0)) λq=>(bnd (dZ n (s,g,s.Plan.Faces,r.1,s.Plan.Arcs,s.Features,q,g.ID)) λt=>(cnd (t != 0) (some ((aJ.mk (aM.mk [] [] []) []),t)) (some ((aJ.mk (aM.mk r.1 s.Plan.Arcs s.Plan.Faces) s.Features),0))))))) ) λr=>r.2=0->FE r.1:=by
 have ok:=a.ok;have c:=a.ar.le (by have:=a.v.leA;omega);have k:s.Plan.Faces.length<=300:=by have:=a.v.leF;omega
 refine aS (aWk s a b g) (λv x=>?_) λu w=>?_
 .have o:=UY (n:=v.1) (show v.1.length<=300 from ZC x (by decide)) c k a.fs;exact uI (g:=λ_ _=>none) 0 (M1 d _ _ _ _ _ o) λr=>aJr e s g _ _ _ _ r g.ID ok.p o.p
 .rcases u with v | v
  .have o:=UY (n:=win v.2 (some v.1)) (show _<=300 from ZC w (by decide)) c k a.fs;exact uI (g:=λ_ _=>none) 0 (aUp d _ _ _ _ _ _ o) λr=>aUo e s g _ _ _ _ _ r g.ID ok.p o.p
  .have o:=UY (n:=v.1) (show v.1.length<=300 from ZC w (by decide)) c k a.fs;exact uI (g:=λ_ _=>none) 0 (M1 d _ _ _ _ _ o) λr=>aJr e s g _ _ _ _ r g.ID ok.p o.p
theorem aQ6(a:Rq)(d:L1)(s:aJ)(e:FE s)(g:bF)(l:U1 g): aB (λn _=>Jo n s g) λr=>r.2=0->FE r.1:=by
 have ok:=e.ok;have h:s.Plan.Nodes.length<=300:=by have:=e.v.leN;omega
 have i:=e.ar.le (by have:=e.v.leA;omega);have k:s.Plan.Faces.length<=300:=by have:=e.v.leF;omega
 refine aV (λ_=>rfl) (aE (aTj s ok) λc m=>?_);subst m;refine aE (f:=λn _=>Lk n g.Kind) (Q:=λ_=>True) (by repeat' first|apply dY|apply aC|apply bI|intro) λ_ _=>aC (λ_=>aNv a d s e g s.Plan.Faces) λ_=>aE (f:=λn _=>Gy n g.Kind) (Q:=λ_=>True) (by repeat' first|apply dY|apply aC|apply bI|intro) λ_ _=>aC (λ_=>aS (aU4 a s e s.Plan.Faces g l) (λv _=>?_) λu b=>?_) λ_=>aC (λ_=>aS (aUz s e s.Plan.Faces g) (λv _=>?_) λv j=>aF rfl ?_) λ_=>aS (aUy s e s.Plan.Faces g l) (λv j=>?_) λu b=>?_
 .exact uI (g:=λ_ _=>none) 0 (M1 a _ _ _ _ _ ok) λr=>aJr d s g _ _ _ _ r 0 ok.p ok.p
 .rcases u with v | u
  .exact uI (g:=λ_ _=>none) 0 (M1 a _ _ _ _ _ ok) λr=>aEI d s g _ _ _ _ r ok.p ok.p
  rcases u with v | u
  .exact uI (g:=λ_ _=>none) 0 (M1 a _ _ _ _ _ ok) λr=>aEI d s g _ _ _ _ r ok.p ok.p
  rcases u with v | u
  .have o:=UY h b.2.2 b.1 b.2.1.ok;exact uI (g:=λ_ _=>none) 0 (aUk a _ _ _ _ _ o) λr=>aUj d s g _ _ _ _ r ok.p o.p
  rcases u with v | u
  .have o:=UY h b k e.fs;exact uI (g:=λ_ _=>none) 0 (M1 a _ _ _ _ _ o) λr=>aJr d s g _ _ _ _ r 0 ok.p o.p
  rcases u with v | u
  .have o:=UY h b.2.1 b.1 b.2.2.ok;exact uI (g:=λ_ _=>none) 0 (M1 a _ _ _ _ _ o) λr=>aEI d s g _ _ _ _ r ok.p o.p
  rcases u with v | v
  .have o:=UY h (b.2.1.win (some v.1)) b.1 b.2.2.ok;exact uI (g:=λ_ _=>none) 0 (aPH a _ _ _ _ _ _ o) λr=>aPG d s g _ _ _ _ _ r ok.p o.p
  .have o:=UY h (Ar.win b (some v.1)) k e.fs;exact uI (g:=λ_ _=>none) 0 (aPH a _ _ _ _ _ _ o) λr=>aPG d s g _ _ _ _ _ r ok.p o.p
 .exact uI (g:=λ_ _=>none) 0 (M1 a _ _ _ _ _ ok) λr=>aJr d s g _ _ _ _ r 0 ok.p ok.p
 .have o:=UY h (j.2.1.le (by have:=e.v.leA;omega)) (show v.1.length<=300 from ZC j.1 (by decide)) (Ft.ok ⟨by rw[j.2.2.1];have:=e.n;omega,j.2.2.2⟩);exact uI (g:=λ_ _=>none) 0 (M1 a _ _ _ _ _ o) λr=>aEI d s g _ _ _ _ r ok.p o.p
 .have o:=UY h i k j;exact uI (g:=λ_ _=>none) 0 (M1 a _ _ _ _ _ o) λr=>aJr d s g _ _ _ _ r 0 ok.p o.p
 .rcases u with v | v
  .have o:=UY h i k (show M7 (win v.2 (some v.1)) from b);exact uI (g:=λ_ _=>none) 0 (aUi a _ _ _ _ _ _ o) λr=>aUh d s g _ _ _ _ _ r ok.p o.p
  .have o:=UY h i k (show M7 v.1 from b);exact uI (g:=λ_ _=>none) 0 (M1 a _ _ _ _ _ o) λr=>aEI d s g _ _ _ _ r ok.p o.p
theorem aSW(c:Rq)(s:aJ)(d:sE s)(g:bF)(k:Int)(j:k≠0->FE s): aB (λn _=>SY n (s,g,k)) λr=>r=0->FE s/\U1 g:=by
 refine aE (aLI g) λf b=>aC (λh=>aC (λ_=>aE (QA c s d) λr i=>aA λa=>⟨i a,b (by simpa using h)⟩) λe=>aA λa=>⟨j (by simpa using e),b (by simpa using h)⟩) λh=>aA λa=>by rw[a] at h;simp at h
theorem aCX(b:Rq)(g:L1)(l:List bF)(q:l.length<=5000)(i:Nat)(s:aJ)(o:sE s)(j:i≠0->FE s): aB (λn m=>nZ Dv n m (l,ln l) (s,(i:Int))) (Su (λv=>v.2.2≠0) λr=>sE r/\(l≠[]\/i≠0->FE r)):=by
 refine bK (bC (λx z p=>?_) λu=>aA ?_)
 .rw[bU (by omega)];refine aE (aSW b s o x (i:Int) λh=>j (by omega)) λc t=>aE (f:=λn _=>SX n (s,x,c)) (Q:=λr=>r.2=0->FE r.1) (aC (λh=>?_) λh=>aA λe=>by rw[show c=0 from e] at h;simp at h) λr a=>aC (λh=>aA (show r.2≠0 by simpa using h)) λh=>?_
  .obtain⟨w,y⟩:=t (by simpa using h);exact aE (aQ6 b g s w x y) λr a=>aA a
  .have k:=a (by simpa using h);refine (aCX b g l q (i+1) r.1 k.ok λ_=>k).imp λv d=>?_;rcases v with v | v
   .exact d
   .exact⟨d.1,λ_=>d.2 (.inr (by omega))⟩
 .refine⟨o,λh=>j ?_⟩;rcases h with h | h
  .intro e;have:l.length=0:=by omega
   exact h (ZL.1 this)
  .exact h
termination_by l.length-i
theorem aUa(d:Rq)(g:L1)(s:aJ)(a:sE s)(l:List bF): aB (λn _=>zE n s l) λr=>r.2.2=0->sE r.1/\(l≠[]->FE r.1):=by
 refine aV (λ_=>rfl) (aC (λ_=>aA (by simp)) λh=>aE (aOg s a) λc f=>?_);have h:¬ln l > 4096:=Zk h;subst f;exact aS (aX (aCX d g l (by unfold ln at h;omega) 0 c a (by simp))) (λv i=>aA λe=>absurd e i) λr b=>aF rfl (aA λ_=>⟨b.1,λh=>b.2 (.inl h)⟩)
structure ArO(l:List dR)(b c:Nat): Prop where
 al:∀a∈l,a.alone.length<=c
 l1:1<=l.length
 l2:l.length<=200000
 ou:∀a∈l,a.outer.length<=800000
 inn:∀a∈l,a.inner.length<=b/\∀c∈a.inner,c.length<=800000
 ne:∀(i:Nat) (a:dR),1<=i->l[i]?=some a->a.outer≠[]
theorem aLN(p:aM)(w:Sm p)(B:Nat): ∀(cs:List (List Int)) (l:List dR) (q:List (List Int)),ArO l 0 0->l.length+cs.length<=200000->(∀c∈cs,c.length<=800000/\∃d t,c=d::t/\fT p d)->(∀c∈q,c.length<=800000/\∃d t,c=d::t/\fT p d)->
 (∀a∈l,a.inner=[]/\a.outer.length+q.flatten.length+cs.flatten.length<=B)->q.flatten.length+cs.flatten.length<=B->
 aB (λn _=>dv1 n p cs l q) λr=>ArO r.1 0 0/\r.2.length<=q.length+cs.length/\(∀c∈r.2,c.length<=800000/\∃d t,c=d::t/\fT p d)/\∀a∈r.1,a.inner=[]/\a.outer.length+r.2.flatten.length<=B
 | [],l,q,f,_,_,s,j,_=>aA (x:=(l,q)) ⟨f,by simp,s,λa b=>⟨(j a b).1,by have:=(j a b).2;simpa using this⟩⟩
 | c::cs,l,q,f,A,y,s,j,C=>by
  have u:=y c (ZN ..);have m:∀c∈cs,c.length<=800000/\∃d t,c=d::t/\fT p d:=λc h=>y c (ZS _ h);simp only[Yc] at A;simp only[Ys,Zi] at j C;obtain⟨o,d,D,k,v⟩:=u;refine aE (aJq p w c) λt _=>aC (λ_=>?_) λ_=>?_
  .refine aB.imp (aLN p w B cs (l++[⟨t,c,[],[]⟩]) q ⟨?_,by simp,by simp;omega,?_,?_,?_⟩ (by simp;omega) m s ?_ (by omega)) ?_
   .intro a b;rcases ZD.1 b with b | b
    .exact f.al a b
    .rw[ZK.1 b];exact Zg _
   .intro a b;rcases ZD.1 b with b | b
    .exact f.ou a b
    .rw[ZK.1 b];exact o
   .intro a b;rcases ZD.1 b with b | b
    .exact f.inn a b
    .rw[ZK.1 b];exact⟨Zg _,λc h=>by cases h⟩
   .intro i a z b;rcases ZJ i l.length with h | h
    .rw[Zp h] at b;exact f.ne i a z b
    .rw[ZX h] at b;have:a=⟨t,c,[],[]⟩:=by
      have:=Zf b;exact ZK.1 this
     rw[this,k];simp
   .intro a b;rcases ZD.1 b with b | b
    .have:=j a b;exact⟨this.1,by omega⟩
    .rw[ZK.1 b];exact⟨rfl,by show c.length+_+_<=B;omega⟩
   .intro r g;exact⟨g.1,by have:=g.2.1;simp only[Yc];omega,g.2.2⟩
  .refine aB.imp (aLN p w B cs l (q++[c]) f (by omega) m ?_ ?_ ?_) ?_
   .intro e he;rcases ZD.1 he with he | he
    .exact s e he
    .rw[ZK.1 he];exact⟨o,d,D,k,v⟩
   .intro a b;have:=j a b;exact⟨this.1,by simp only[XB,Zi,Ys,Xd,Z4];omega⟩
   .simp only[XB,Zi,Ys,Xd,Z4];omega
   .intro r g;exact⟨g.1,by have:=g.2.1;simp only[Yc,Zi,Z4] at this |-;omega,g.2.2⟩
theorem aHW{l:List dR}{b c:Nat}(h:ArO l b c): ∀x∈l.map arV,x.outer.length<=800000:=by
 intro x d;obtain⟨a,e,rfl⟩:=Yi.1 d;exact h.ou a e
theorem aCN{α:Type}{l:List α}{i:Nat}{a' x:α}(a:x∈l.set i a'): x=a'\/x∈l:=(YL a).symm
theorem ArO.set{l:List dR}{b b' c c':Nat}{i:Nat}{a a':dR}(h:ArO l b c)(m:l[i]?=some a)(g:a'.outer=a.outer)(n:b<=b')(p:a'.inner.length<=b'/\∀c∈a'.inner,c.length<=800000)(o:c<=c')(f:a'.alone.length<=c'): ArO (l.set i a') b' c':=by
 refine⟨?_,by rw[Yq];exact h.l1,by rw[Yq];exact h.l2,?_,?_,?_⟩
 .intro x d;rcases aCN d with rfl | d
  .exact f
  .exact ZC (h.al x d) o
 .intro x d;rcases aCN d with rfl | d
  .rw[g];exact h.ou a (Zf m)
  .exact h.ou x d
 .intro x d;rcases aCN d with rfl | d
  .exact p
  .exact⟨ZC (h.inn x d).1 n,(h.inn x d).2⟩
 .intro j x k d;rw[Z7] at d;split at d
  .rename_i e;subst e;split at d
   .cases d;rw[g];exact h.ne i a k m
   .cases d
  .exact h.ne j x k d
theorem aP8(p:aM)(F:Sm p)(y:tB p)(m:List (Int×List Aaa))(o:MB p m)(B:Nat): ∀(cs:List (List Int)) (l:List dR) (b:Nat),ArO l b 0->(∀c∈cs,c.length<=800000/\∃d t,c=d::t/\fT p d)->(∀a∈l,a.outer.length+a.inner.flatten.length+cs.flatten.length<=B)->
 aB (λn _=>dv2 n m cs l) λr=>ArO r (b+cs.length) 0/\∀a∈r,a.outer.length+a.inner.flatten.length<=B
 | [],l,b,g,_,j=>aA ⟨g,λa k=>by have:=j a k;simpa using this⟩
 | c::cs,l,b,g,u,j=>by
  obtain⟨q,d,z,rfl,a,k,I⟩:=u c (ZN ..);have E:=y.nuA a k;have G:nE d (wr (0-d))=a.ID:=by
   rw[wr,i64_in _ (by omega)];unfold nE;split<;>omega
  obtain⟨w,A,C⟩:=o.has a k;refine aF (x:=d) rfl (aF (x:=w[0]'(by omega)) (by rw[G,A];show idx w ((0:Nat):Int)=_;rw[bM];exact Za (by omega)) (aE (aH8 m o.len (l.map arV) (aHW g) (by simp;have:=g.l2;omega) (by simp;have:=g.l1;omega) _) λi v=>?_));have f:i.toNat<l.length:=by simpa using v.2
  refine aF (xJ v.1 f) ?_;simp only[Ys,Zi,Yc] at j;have H:=aP8 p F y m o B cs (l.set i.toNat ⟨l[i.toNat].twice,l[i.toNat].outer,l[i.toNat].inner++[d::z],l[i.toNat].alone⟩) (b+1) (g.set (Za f) rfl (by omega) (by
   have:=g.inn _ (ZR f);refine⟨by simp;omega,λc e=>?_⟩;rcases ZD.1 e with e | e
   .exact this.2 c e
   .rw[ZK.1 e];exact q) (Zg _) (g.al l[i.toNat] (ZR f))) (λc h=>u c (ZS _ h)) (λx s=>by
    rcases aCN s with rfl | s
    .have:=j _ (ZR f);simp only[XB,Zi,Ys,Xd,Z4,Yc];omega
    .have:=j x s;omega)
  refine H.imp λr D=>?_;have:b+((d::z)::cs).length=b+1+cs.length:=by simp;omega
  rw[this];exact D
theorem aLM(p:aM)(k:Sm p)(m:List (Int×List Aaa))(q:MB p m)(b B:Nat): ∀(h:List Aac) (l:List dR) (c:Nat),ArO l b c->(∀a∈l,a.outer.length+a.inner.flatten.length<=B)->aB (λn _=>dv3 n p m h l) λr=>ArO r b (c+h.length)/\∀a∈r,a.outer.length+a.inner.flatten.length<=B
 | [],l,c,f,j=>aA ⟨f,j⟩
 | x::h,l,c,f,j=>by
  have e:c+(x::h).length=c+1+h.length:=by simp;omega
  rw[e];refine aE (aAE p k x.ID) λd _=>aC (λ_=>aE (aH8 m q.len (l.map arV) (aHW f) (by simp;have:=f.l2;omega) (by simp;have:=f.l1;omega) _) λi s=>?_) λ_=>aLM p k m q b B h l (c+1) ⟨λa t=>Xp (f.al a t),f.l1,f.l2,f.ou,f.inn,f.ne⟩ j;have g:i.toNat<l.length:=by simpa using s.2
  exact aF (xJ s.1 g) (aLM p k m q b B h _ (c+1) (f.set (Za g) rfl (Zg _) (f.inn l[i.toNat] (ZR g)) (Yr _) (by have:=f.al l[i.toNat] (ZR g);simp;omega)) λx o=>by
   rcases aCN o with rfl | o
   .exact j l[i.toNat] (ZR g)
   .exact j x o)
theorem aMo{α:Type}{P:α->Prop}{c:Nat->Bool}{g:Nat->Nat->Option α}(K:Nat)(b:∀n,K<=n->c n=true)(h:aB g P): aB (λn m=>Av.bnd (Ky (c n)) (λ_=>g n m)) P:=by
 obtain⟨r,a,J,d⟩:=h;refine⟨r,a,max K J,λn m f i=>?_⟩;show Av.bnd (Ky (c n)) (λ_=>g n m)=some r;rw[b n (by omega)];exact d n m (by omega) (by omega)
theorem aTK: Rq:=by
 intro p cs m g t j o;have v:=g.n;have u:=j.1;refine aV (λ_=>rfl) (aMo (c:=λn=>decide (cs.length<n/\p.Nodes.length<n/\cs.length<=190000/\p.Nodes.length<=9000)) 200000 (λn h=>Yk (by omega)) ?_);refine aE (aLN p g 400000 cs [⟨0,[],[],[]⟩] [] ⟨by simp,by simp,by simp,by simp,by simp,?_⟩ (by simp;omega) j.2.2 (by simp) (by simpa using j.2.1) (by simpa using j.2.1)) λq f=>aE (aP8 p g t m o 400000 q.2 q.1 0 f.1 f.2.2.1 λa d=>by rw[(f.2.2.2 a d).1];have:=(f.2.2.2 a d).2;simpa using this) λl b=>?_
 .intro i a w d;have:=(Ze.1 d).1;simp at this;omega
 .have k:=f.2.1;simp only[Z4,Z0] at k;obtain⟨b,s⟩:=b;refine aB.imp (aLM p g m o 200000 400000 p.Nodes l 0 ⟨b.al,b.l1,b.l2,b.ou,λa d=>⟨by have:=(b.inn a d).1;omega,(b.inn a d).2⟩,b.ne⟩ s) λr e=>⟨λa d=>by have:=e.1.al a d;omega,e.2,e.1.l1,e.1.l2,e.1.ou,e.1.inn,e.1.ne⟩
theorem aH5(g:dW)(l:List Int)(b:l.length<=300)(i:Nat)(m:List (Int×Int)): Tt (λn k=>sV tX n k (g,l,ln l) (m,(i:Int))):=
 cG (bC (λx d a=>by
  rw[bU (by omega)];exact aH5 g l b (i+1) _)
  (λc=>aA trivial))
termination_by l.length-i
theorem aH6(l:List dW)(d:l.length<=200000)(a:∀x∈l,x.Alone.length<=300)(i:Nat)(m:List (Int×Int)): Tt (λn k=>sV tY n k (l,ln l) (m,(i:Int))):=
 cG (bC (λx c b=>by
  rw[bU (by omega)];exact aE (aX (aH5 x x.Alone (a x (Zf c)) 0 m)) λ_ _=>aH6 l d a (i+1) _)
  (λe=>aA trivial))
termination_by l.length-i
theorem aH4(p:aM)(c:Sm p): Tt (λn _=>nX n p):=by
 obtain⟨v,e,_,a,_⟩:=RK aTK p c;exact aV (λ_=>rfl) (aE e λw b=>by
  subst b;exact aE (aX (aH6 w.1 a.1 (λx d=>(a.2 x d).2.2) 0 [])) λ_ _=>aA trivial)
theorem aVr: L1:=λp q x b a=>aV (λ_=>rfl) (aE (aH4 p b) λ_ _=>aE (aH4 q a) λ_ _=>aA trivial)
def aJv(e:bF): Prop:=e.Via.length<=100000/\e.Parts.length<=100000
def FC(t:dH): Prop:=t.Edits.length<=100000/\∀e∈t.Edits,aJv e
theorem aQb(t:dH): aB (λn _=>MY n t) λr=>r=0->aWf t:=by
 refine aV (λ_=>rfl) (aE (f:=λn _=>HB n t) (Q:=λ_=>True) (by repeat' first | exact aA trivial | refine aC (λ_=>?_) (λ_=>?_)) λ_ _=>aC (λ_=>aA (by simp)) λ_=>?_);refine aS (f:=λn _=>HA n t) (Q:=λ_=>True) (R:=λr=>r≠0) (aC (λ_=>aA trivial) λ_=>aE (aKP t.Source) λd _=>aC (λh=>aA (show d≠0 by simpa using h)) λ_=>aA trivial) (λ_ _=>?_) λr g=>aF rfl (aA λh=>absurd h g);refine aE (f:=λn _=>GZ n t) (Q:=λr=>r=false->t.Edits.length<=64) (aC (λ_=>aA (by simp)) λ_=>aC (λ_=>aA (by simp)) λh=>aA λ_=>by
  have h:¬ln t.Edits > 64:=Zk h;unfold ln at h;omega) λc e=>aC (λ_=>aA (by simp)) λh=>?_
 have a:=e h;refine aS (aX (aSB t.Edits a 0 .nil)) (λv b=>aA λh=>absurd h b) λ_ i=>aF rfl (aA λ_=>⟨a,i⟩)
theorem aL2(x:Int×Int×Int×ByteArray)(b:List bF)(k:b.length<=100000)(g:∀e∈b,aJv e)(i:Nat)(l:List bF)(h:l=b): aB (λn m=>sV wG n m (x.1,x.2.1,x.2.2.1,x.2.2.2,ln b) (l,(i:Int))) λr=>r=b:=by
 subst h;refine cG (aC (λa=>?_) λo=>aA rfl);have a:(i:Int)<ln l:=Zh a;have a:i<l.length:=by unfold ln at a;omega
 have d:fU l l.length (i:Int)=some l[i]:=by rw[hP a];exact Za a
 have e2:idx l (i:Int)=some l[i]:=by rw[bM];exact Za a
 have j:=g _ (ZR a);have es:l.set (Int.toNat (i:Int)) l[i]=l:=by rw[YA];simp
 refine aF d (aF e2 (aE (aEu l[i].Via (by have:=j.1;omega)) λv c=>?_));subst c;refine aF d (aF e2 (aE (aEu l[i].Parts (by have:=j.2;omega)) λv c=>?_));subst c;have f:l.set (Int.toNat (i:Int)) (bF.mk l[i].Kind l[i].ID l[i].A l[i].B l[i].C l[i].At l[i].Via l[i].Name l[i].Parts)=l:=es;simp only[f];refine aF d (aF e2 ?_);simp only[f];rw[bU (by omega)];exact aL2 x l k g (i+1) l rfl
termination_by b.length-i
theorem aDS(t:dH)(h:FC t): aB (λn _=>Rs n t) λr=>r=t:=by
 obtain⟨o,s,u,z,l⟩:=t;obtain⟨a,c⟩:=h;refine aV (λ_=>rfl) (aY (aC (λb=>?_) λ_=>?_))
 .have:l=[]:=by simpa using b
  subst this;exact aE (Q:=λ_=>True) (FD (f:=λn=>FN n () ()) (aX (f:=λn m=>sV wH n m () ()) (cG (aA trivial)))) λ_ _=>aA rfl
 .exact aF (Qy (l:=[]) (m:=l) (by show 0+l.length<=_;have:l.length<=100000:=a;omega)) (aE (Q:=λr=>r=l) (FD (f:=λn=>FM n (o,s,u,z,ln l) (l,0)) (aX (aL2 (o,s,u,z) l a c 0 l rfl))) λr d=>aA (by rw[d]))
theorem aGb(t:dH)(l:List dH)(a:l.length<=256)(i:Nat)(k:Int): Sx (λn m=>nZ tN n m (t,[],l,ln l) (k,(i:Int))):=
 bK (bC (λx d b=>by
  rw[bU (by omega)];exact aC (λ_=>aGb t l a (i+1) _) λ_=>aC (λ_=>aA trivial) λ_=>aGb t l a (i+1) _) (λc=>aA trivial))
termination_by l.length-i
theorem aLZ(x:List Aac×List aP×List Int×List aD)(l:List dH)(g:l.length<=256)(c:∀t∈l,FC t)(i:Nat)(r:List dH)(a:r=l.take i): aB (λn m=>sV tM n m (x.1,x.2.1,x.2.2.1,x.2.2.2,l,ln l) (r,(i:Int))) λr=>r=l:=
 cG (bC (λt d e=>aE (aDS t (c t (Zf d))) λu f=>aF (AL (by rw[a];simp;omega)) (by
  rw[bU (by omega)];exact aLZ x l g c (i+1) _ (by rw[a,f,YZ,d];simp))) (λb=>aA (by rw[a,ZY b])))
termination_by l.length-i
def eS: aJ:=⟨⟨[],[],[]⟩,[]⟩
def eR: dA:=⟨eS,[]⟩
theorem aMv(a:dA)(t:dH)(l:sE a.Survey)(m:∀t∈a.Txns,FC t)(k:FC t): ∃s:aJ×Int×Int,aB (λn _=>zE n a.Survey t.Edits) (λr=>r=s) /\
 aB (λn _=>fN n a t) λr=>(r.2≠0->r.1=eR)/\(r.2=0->s.2.2=0/\r.1=⟨s.1,a.Txns++[t]⟩/\sE s.1/\a.Txns.length<256):=by
 obtain⟨s,e,d⟩:=(aUa aTK aVr a.Survey l t.Edits).val;refine⟨s,d,aV (λ_=>rfl) (aE (aQb t) λc p=>aC (λh=>aA ⟨λ_=>rfl,λf=>by rw[show c=0 from f] at h;simp at h⟩) λ_=>aC (λ_=>aA ⟨λ_=>rfl,by simp⟩) λh=>?_)⟩;have h:¬ln a.Txns>=256:=Zk h;have h:a.Txns.length<256:=by unfold ln at h;omega
 refine aS (aX (aGb t a.Txns (by omega) 0 0)) (λ_ _=>aA ⟨λ_=>rfl,by simp⟩) λ_ _=>aF rfl (aC (λ_=>aA ⟨λ_=>rfl,by simp⟩) λ_=>aE d λg j=>?_);subst j;refine aC (λb=>aA ⟨λ_=>rfl,λf=>by rw[show g.2.2=0 from f] at b;simp at b⟩) λb=>?_;have b:g.2.2=0:=by simpa using b
 exact aE (aX (aLZ (g.1.Plan.Nodes,g.1.Plan.Arcs,g.1.Plan.Faces,g.1.Features) a.Txns (by omega) m 0 [] rfl)) λr i=>aE (aDS t k) λu o=>by
  subst i;subst o;exact aF (AL (by omega)) (aA ⟨λh=>absurd rfl h,λ_=>⟨b,rfl,(e b).1,h⟩⟩)
section
variable {α β γ:Type}
theorem mQ{a b:List α}{i:Nat}{P:β->Prop}{f:Nat->Nat->α->α->Option β}{e:Nat->Nat->Option β}(j:a.length=b.length)(h:∀x y,a[i]?=some x->b[i]?=some y->i<a.length->aB (λn m=>f n m x y) P)(d:a.length<=i->aB e P):
 aB (λn m=>Av.cnd (decide ((i:Int)<((a.length:Nat):Int))) (Av.bnd (idx a (i:Int)) λx=>Av.bnd (idx b (i:Int)) λy=>f n m x y) (e n m)) P:=
 bC (λx g c=>aF (x:=b[i]'(by omega)) (by rw[bM];exact Za (by omega)) (h x _ g (Za (by omega)) c)) d
theorem O1{a b:List α}{i:Nat}{x y:α}(d:a.take i=b.take i)(f:a[i]?=some x)(c:b[i]?=some y)(e:x=y): a.take (i+1)=b.take (i+1):=by
 rw[YZ,YZ,d,f,c,e]
theorem O2{a b:List α}{i:Nat}{x y:α}(d:a[i]?=some x)(c:b[i]?=some y)(e:x≠y): a≠b:=λh=>by
 subst h;rw[d] at c;exact e (ZF c)
theorem O3{a b:List α}{i:Nat}(d:a.length=b.length)(c:a.take i=b.take i)(h:a.length<=i): a=b:=by
 rw[ZY h,ZY (by omega)] at c;exact c
abbrev Q2(a b:List α): (β⊕γ)->Prop:=Su (λ_=>a≠b) λ_=>a=b
theorem eqW{a b:List α}{f:Nat->Nat->Option (Unit⊕Unit)}(h:a.length=b.length->aB f (Q2 a b)): aB (λn m=>Av.cnd (ln a != ln b) (some false) (Av.bnd2 (f n m) (λ_=>some false) λc=>Av.bnd (some c) λ_=>some true)) λr=>r=true↔a=b:=
 aC (λh=>aA ⟨by simp,λe=>by subst e;simp at h⟩) λd=>aS (h (Oq d)) (λ_ h=>aA ⟨by simp,λe=>absurd e h⟩) λ_ h=>aF rfl (aA ⟨λ_=>h,λ_=>rfl⟩)
abbrev Iq{α:Type}(f:Nat->Nat->Option Bool)(a b:α): Prop:=aB f λr=>r=true↔a=b
theorem Iq.ret{P:α->Prop}{x:α}(h:P x): aB (λ_ _=>some x) P:=aA h
end
theorem aJQ(a b:List Aaa)(d:a.length=b.length)(k:a.length<=100000)(i:Nat)(g:a.take i=b.take i): aB (λn m=>nZ kB n m (a,b) (i:Int)) (Q2 a b):=
 bK (mQ d (λx y e f j=>aC (λh=>by
  rw[bU (by omega)];exact aJQ a b d k (i+1) (O1 g e f (Zh h))) λh=>aA (O2 e f (Zk h))) λc=>aA (O3 d g c))
termination_by a.length-i
theorem aVt(a b:List Aaa)(c:a.length<=100000): Iq (λn _=>Kd n a b) a b:=aV (λ_=>rfl) (eqW λd=>aX (aJQ a b d c 0 rfl))
theorem aTc(a b:List Aaa)(c:a.length<=100000): Iq (λn _=>FF n a b) a b:=aV (λ_=>rfl) (eqW λd=>aX (aJQ a b d c 0 rfl))
theorem aJY(a b:List Int)(d:a.length=b.length)(k:a.length<=100000)(i:Nat)(g:a.take i=b.take i): aB (λn m=>nZ kA n m (a,b) (i:Int)) (Q2 a b):=
 bK (mQ d (λx y e f j=>aC (λh=>aA (O2 e f (by simpa using h))) λh=>by
  rw[bU (by omega)];exact aJY a b d k (i+1) (O1 g e f (by simpa using h))) λc=>aA (O3 d g c))
termination_by a.length-i
theorem aVu(a b:List Int)(c:a.length<=100000): Iq (λn _=>Kc n a b) a b:=aV (λ_=>rfl) (eqW λd=>aX (aJY a b d c 0 rfl))
theorem aV7(a b:List Int)(c:a.length<=100000): Iq (λn _=>M0 n a b) a b:=aV (λ_=>rfl) (eqW λd=>aX (aJY a b d c 0 rfl))
theorem aKc(a b:List Int)(d:a.length=b.length)(k:a.length<=100000)(i:Nat)(g:a.take i=b.take i): aB (λn m=>nZ fZ n m (a,b,ln a) (i:Int)) (Q2 a b):=
 bK (mQ d (λx y e f j=>aC (λh=>aA (O2 e f (by simpa using h))) λh=>by
  rw[bU (by omega)];exact aKc a b d k (i+1) (O1 g e f (by simpa using h))) λc=>aA (O3 d g c))
termination_by a.length-i
theorem aPe(a b:List Int)(c:a.length<=100000): Iq (λn _=>eM n a b) a b:=aV (λ_=>rfl) (eqW λd=>aX (aKc a b d c 0 rfl))
theorem aKa(a b:List Aaa)(d:a.length=b.length)(k:a.length<=100000)(i:Nat)(g:a.take i=b.take i): aB (λn m=>nZ gV n m (a,b,ln a) (i:Int)) (Q2 a b):=
 bK (mQ d (λx y e f j=>aC (λh=>by
  rw[bU (by omega)];exact aKa a b d k (i+1) (O1 g e f (Zh h))) λh=>aA (O2 e f (Zk h))) λc=>aA (O3 d g c))
termination_by a.length-i
theorem aSF(a b:List Aaa)(c:a.length<=100000): Iq (λn _=>fO n a b) a b:=aV (λ_=>rfl) (eqW λd=>aX (aKa a b d c 0 rfl))
theorem aKb(a b:List Aac)(d:a.length=b.length)(k:a.length<=100000)(i:Nat)(g:a.take i=b.take i): aB (λn m=>nZ iJ n m (a,b,ln a) (i:Int)) (Q2 a b):=
 bK (mQ d (λx y e f j=>aC (λh=>by
  rw[bU (by omega)];exact aKb a b d k (i+1) (O1 g e f (Zh h))) λh=>aA (O2 e f (Zk h))) λc=>aA (O3 d g c))
termination_by a.length-i
theorem aSG(a b:List Aac)(c:a.length<=100000): Iq (λn _=>oO n a b) a b:=aV (λ_=>rfl) (eqW λd=>aX (aKb a b d c 0 rfl))
theorem Iq.and{α:Type}{a b:α}{p:Prop}{x:Nat->Nat->Option Bool}{c:Bool}(d:c=true↔p)(f:a=b->p)(h:p->Iq x a b): Iq (λn m=>cnd c (x n m) (some false)) a b:=
 aC (λe=>h (d.1 e)) λe=>aA ⟨by simp,λh=>by rw[d.2 (f h)] at e;cases e⟩
theorem Iq.end_{α β:Type}{a b:α}{u v:β}{f:Nat->Nat->Option Bool}(g:Iq f u v)(h:u=v↔a=b): Iq (λn m=>bnd (f n m) λd=>cnd d (some true) (some false)) a b:=
 aE g λr c=>aC (λe=>aA ⟨λ_=>h.1 (c.1 e),λ_=>rfl⟩) λe=>aA ⟨by simp,λk=>by rw[c.2 (h.2 k)] at e;cases e⟩
theorem Iq.bb{α:Type}{a b:α}{f:Nat->Nat->Option Bool}(c:Iq f a b): Iq (λn m=>bnd (f n m) λd=>cnd d (some true) (some false)) a b:=Iq.end_ c Iff.rfl
theorem aOF{a b:aP}(e:a.ID=b.ID)(f:a.From=b.From)(i:a.To=b.To)(g:a.Left=b.Left)(d:a.Right=b.Right): a.Via=b.Via↔a=b:=by
 constructor
 .intro h;cases a;cases b;simp_all
 .rintro rfl;rfl
theorem aTY(a b:aP){f:Nat->Nat->Option Bool}(h:Iq f a.Via b.Via): Iq (λn m=>(cnd (a.ID==b.ID) (cnd (a.From==b.From) (cnd (a.To==b.To) (cnd (a.Left==b.Left) (cnd (a.Right==b.Right) (bnd (f n m) λd=>(cnd (d) (some true) (some false))) (some false)) (some false)) (some false)) (some false)) (some false))) a b:=
 Iq.and ZB (congrArg _) λj=>Iq.and ZB (congrArg _) λg=>Iq.and ZB (congrArg _) λi=>Iq.and ZB (congrArg _) λc=>Iq.and ZB (congrArg _) λe=>Iq.end_ h (aOF j g i c e)
theorem aL8{a b:aD}(d:a.ID=b.ID)(e:a.Kind=b.Kind)(g:a.Class=b.Class)(f:a.Name=b.Name): a.Parts=b.Parts↔a=b:=by
 constructor
 .intro h;cases a;cases b;simp_all
 .rintro rfl;rfl
theorem aPz(a b:aD){f:Nat->Nat->Option Bool}(g:Iq f a.Parts b.Parts): Iq (λn m=>(cnd (a.ID==b.ID) (cnd (a.Kind==b.Kind) (cnd (a.Class==b.Class) (cd (a.Name=b.Name) (bnd (f n m) λd=>(cnd (d) (some true) (some false))) (some false)) (some false)) (some false)) (some false))) a b:=
 Iq.and ZB (congrArg _) λi=>Iq.and ZB (congrArg _) λe=>Iq.and ZB (congrArg _) λh=>Iq.and We (congrArg _) λc=>Iq.end_ g (aL8 i e h c)
theorem aVx(a b:aP)(h:a.Via.length<=100000): Iq (λn _=>Dg n a b) a b:=aV (λ_=>rfl) (Iq.bb (aTY a b (aVt a.Via b.Via h)))
theorem aTd(a b:aP)(h:a.Via.length<=100000): Iq (λn _=>tR n (a,b)) a b:=aTY a b (aSF a.Via b.Via h)
theorem aVv(a b:aD)(h:a.Parts.length<=100000): Iq (λn _=>mW n a b) a b:=aV (λ_=>rfl) (Iq.bb (aPz a b (aVu a.Parts b.Parts h)))
theorem aT7(a b:aD)(h:a.Parts.length<=100000): Iq (λn _=>nJ n (a,b)) a b:=aPz a b (aPe a.Parts b.Parts h)
section
variable {α:Type}{a b:List α}
theorem rq{i:Nat}(l:a.length=b.length)(u:a.length<=100000)(g:a.take i=b.take i){t:Nat->Nat->α->α->Option Bool}(s:∀x∈a,∀y,Iq (λn m=>t n m x y) x y){k:Nat->Nat->Option (Unit⊕Unit)}(q:a.take (i+1)=b.take (i+1)->i<a.length->aB k (Q2 a b)):
 aB (λn m=>cnd (decide ((i:Int)<((a.length:Nat):Int))) (bnd (idx a (i:Int)) λx=>bnd (idx b (i:Int)) λy=>bnd (t n m x y) λj=>cnd j (k n m) (some (.inl ()))) (some (.inr ()))) (Q2 a b):=
 mQ l (λx y c o d=>aE (s x (Zf c) y) λr p=>aC (λh=>q (O1 g c o (p.1 h)) d) λh=>aA (O2 c o λe=>by rw[p.2 e] at h;cases h)) λf=>aA (O3 l g f)
end
section
variable (a b:aM)(ha:Sm a)
include ha
theorem aPj(d:a.Nodes.length=b.Nodes.length)(i:Nat)(g:a.Nodes.take i=b.Nodes.take i): aB (λn m=>nZ Ea n m (a,b) (i:Int)) (Q2 a.Nodes b.Nodes):=
 have k:=ha.n;bK (mQ d (λx y f e j=>aC (λh=>by
  rw[bU (by omega)];exact aPj d (i+1) (O1 g f e (Zh h))) λh=>aA (O2 f e (Zk h))) λc=>aA (O3 d g c))
termination_by a.Nodes.length-i
theorem aPi(c:a.Arcs.length=b.Arcs.length)(i:Nat)(g:a.Arcs.take i=b.Arcs.take i): aB (λn m=>nZ Dz n m (a,b) (i:Int)) (Q2 a.Arcs b.Arcs):=
 have j:=ha.a;bK (rq c (by omega) g (t:=λn _ x y=>Dg n x y) (λx f y=>aVx x y (by have:=ha.v x f;omega)) λh d=>by
  rw[bU (by omega)];exact aPi c (i+1) h)
termination_by a.Arcs.length-i
theorem aPh(d:a.Faces.length=b.Faces.length)(i:Nat)(j:a.Faces.take i=b.Faces.take i): aB (λn m=>nZ Dy n m (a,b) (i:Int)) (Q2 a.Faces b.Faces):=
 have l:=ha.f;bK (mQ d (λx y g e k=>aC (λh=>aA (O2 g e (by simpa using h))) λh=>by
  rw[bU (by omega)];exact aPh d (i+1) (O1 j g e (by simpa using h))) λc=>aA (O3 d j c))
termination_by a.Faces.length-i
theorem aVy: Iq (λn _=>L9 n a b) a b:=by
 have d:∀{p:Prop},(a=b->p)->¬p->aB (λ_ _=>some false) (λr=>r=true↔a=b):=λh o=>aA ⟨by simp,λe=>absurd (h e) o⟩;refine aV (λ_=>rfl) (aE (f:=λn _=>TJ n (a,b)) (Q:=λr=>(r=true->a≠b)/\(r=false->a.Nodes.length=b.Nodes.length/\a.Arcs.length=b.Arcs.length/\a.Faces.length=b.Faces.length)) ?_ λc l=>aC (λh=>d id (l.1 h)) λh=>?_)
 .refine aC (λh=>aA ⟨λ_ e=>by subst e;simp at h,by simp⟩) λg=>aC (λh=>aA ⟨λ_ e=>by subst e;simp at h,by simp⟩) λi=>aC (λh=>aA ⟨λ_ e=>by subst e;simp at h,by simp⟩) λj=>aA ⟨by simp,λ_=>⟨Oq g,Oq i,Oq j⟩⟩
 .obtain⟨s,m,q⟩:=l.2 h;exact aS (aX (aPj a b ha s 0 rfl)) (λ_ h=>d (congrArg _) h) λ_ g=>aF rfl (aS (aX (aPi a b ha m 0 rfl)) (λ_ h=>d (congrArg _) h) λ_ i=>aF rfl (aS (aX (aPh a b ha q 0 rfl)) (λ_ h=>d (congrArg _) h) λ_ j=>aF rfl (aA ⟨λ_=>by cases a;cases b;simp_all,λ_=>rfl⟩)))
end
section
variable (a b:aJ)(ha:sE a)
include ha
theorem aPx(c:a.Features.length=b.Features.length)(i:Nat)(j:a.Features.take i=b.Features.take i): aB (λn m=>nZ Dx n m (a,b) (i:Int)) (Q2 a.Features b.Features):=
 have k:=ha.n;bK (rq c (by omega) j (t:=λn _ x y=>mW n x y) (λx g y=>aVv x y (by have:=ha.f x g;omega)) λh d=>by
  rw[bU (by omega)];exact aPx c (i+1) h)
termination_by a.Features.length-i
theorem aT8: Iq (λn _=>pY n a b) a b:=by
 have g:∀{p:Prop},(a=b->p)->¬p->aB (λ_ _=>some false) (λr=>r=true↔a=b):=λh l=>aA ⟨by simp,λe=>absurd (h e) l⟩;refine aV (λ_=>rfl) (aE (f:=λn _=>TI n (a,b)) (Q:=λr=>(r=true->a≠b)/\(r=false->a.Plan=b.Plan/\a.Features.length=b.Features.length)) (aE (aVy a.Plan b.Plan ha.p) λd i=>?_) λc j=>aC (λh=>g id (j.1 h)) λh=>?_)
 .exact aC (λk=>aC (λh=>aA ⟨λ_ e=>by subst e;simp at h,by simp⟩) λh=>aA ⟨by simp,λ_=>⟨i.1 k,Oq h⟩⟩) λh=>aA ⟨λ_ e=>(by rw[i.2 (congrArg _ e)] at h;cases h),by simp⟩
 .obtain⟨q,m⟩:=j.2 h;exact aS (aX (aPx a b ha m 0 rfl)) (λ_ h=>g (congrArg _) h) λ_ k=>aF rfl (aA ⟨λ_=>by cases a;cases b;simp_all,λ_=>rfl⟩)
end
theorem aTe(a b:List aP)(q:a.length<=300)(o:∀x∈a,x.Via.length<=300)(c:a.length=b.length)(i:Nat)(j:a.take i=b.take i): aB (λn m=>nZ xB n m (b,a,ln a) (i:Int)) (Su (λ_=>a≠b) λ_=>a=b):=
 bK (mQ c (λx y d k p=>aE (f:=λn _=>II n (x,y)) (Q:=λr=>r=true↔x=y) (aY (Iq.bb (aTd x y (by have:=o x (Zf d);omega)))) λr l=>aC (λh=>by
  rw[bU (by omega)];exact aTe a b q o c (i+1) (O1 j d k (l.1 h))) λh=>aA (O2 d k λe=>by rw[l.2 e] at h;cases h)) λg=>aA (O3 c j g))
termination_by a.length-i
theorem aV9(a b:List aP)(d:a.length<=300)(c:∀x∈a,x.Via.length<=300): aB (λn _=>IJ n (a,b)) (Su (λr=>r=true↔a=b) λ_=>a≠b):=by
 refine aY (aC (λh=>aA (show (false=true↔a=b) from⟨by simp,λe=>by subst e;simp at h⟩)) λf=>?_);refine aS (aX (aTe a b d c (Oq f) 0 rfl)) (λ_ h=>?_) λ_ h=>?_
 .exact aA (show a≠b from h)
 .exact aF rfl (aA (show (true=true↔a=b) from⟨λ_=>h,λ_=>rfl⟩))
theorem aV8(a b:aM)(i:Sm a): Iq (λn _=>OP n a b) a b:=by
 have g:∀{p:Prop},(a=b->p)->¬p->aB (λ_ _=>some false) (λr=>r=true↔a=b):=λh l=>aA ⟨by simp,λe=>absurd (h e) l⟩;refine aV (λ_=>rfl) (aE (aSG a.Nodes b.Nodes (by have:=i.n;omega)) λc k=>aC (λm=>?_) λh=>g (congrArg _) λe=>by rw[k.2 e] at h;cases h);refine aS (aV9 a.Arcs b.Arcs i.a i.v) (λd j=>aC (λo=>?_) λh=>g (congrArg _) λe=>by rw[j.2 e] at h;cases h) λ_ h=>aF rfl (g (congrArg _) h);exact Iq.end_ (aPe a.Faces b.Faces (by have:=i.f;omega)) ⟨λq=>by have:=k.1 m;have:=j.1 o;cases a;cases b;simp_all,λe=>by rw[e]⟩
theorem aT9(a b:List aD)(q:a.length<=1000)(o:∀x∈a,x.Parts.length<=1000)(c:a.length=b.length)(i:Nat)(j:a.take i=b.take i): aB (λn m=>nZ pL n m (b,a,ln a) (i:Int)) (Su (λ_=>a≠b) λ_=>a=b):=
 bK (mQ c (λx y d k p=>aE (f:=λn _=>Lb n (x,y)) (Q:=λr=>r=true↔x=y) (aY (Iq.bb (aT7 x y (by have:=o x (Zf d);omega)))) λr l=>aC (λh=>by
  rw[bU (by omega)];exact aT9 a b q o c (i+1) (O1 j d k (l.1 h))) λh=>aA (O2 d k λe=>by rw[l.2 e] at h;cases h)) λg=>aA (O3 c j g))
termination_by a.length-i
theorem aVO(a b:List aD)(d:a.length<=1000)(c:∀x∈a,x.Parts.length<=1000): aB (λn _=>Ld n (a,b)) (Su (λr=>r=true↔a=b) λ_=>a≠b):=by
 refine aY (aC (λh=>aA (show (false=true↔a=b) from⟨by simp,λe=>by subst e;simp at h⟩)) λf=>?_);refine aS (aX (aT9 a b d c (Oq f) 0 rfl)) (λ_ h=>?_) λ_ h=>?_
 .exact aA (show a≠b from h)
 .exact aF rfl (aA (show (true=true↔a=b) from⟨λ_=>h,λ_=>rfl⟩))
theorem aOf(a b:aJ)(i:sE a): Iq (λn _=>Jm n a b) a b:=by
 have g:∀{p:Prop},(a=b->p)->¬p->aB (λ_ _=>some false) (λr=>r=true↔a=b):=λh l=>aA ⟨by simp,λe=>absurd (h e) l⟩;refine aV (λ_=>rfl) (aE (aV8 a.Plan b.Plan i.p) λc k=>aC (λo=>?_) λh=>g (congrArg _) λe=>by rw[k.2 e] at h;cases h);exact aS (aVO a.Features b.Features i.n i.f) (λd j=>aC (λm=>aA ⟨λ_=>by have:=k.1 o;have:=j.1 m;cases a;cases b;simp_all,λ_=>rfl⟩) λh=>g (congrArg _) λe=>by rw[j.2 e] at h;cases h) λ_ h=>aF rfl (g (congrArg _) h)
theorem aRo{a b:bF}(e:a.Kind=b.Kind)(g:a.ID=b.ID)(l:a.A=b.A)(j:a.B=b.B)(d:a.C=b.C)(k:a.At=b.At)(f:a.Via=b.Via)(i:a.Name=b.Name): a.Parts=b.Parts↔a=b:=by
 constructor
 .intro h;cases a;cases b;simp_all
 .rintro rfl;rfl
theorem aVw(a b:bF)(h:aJv a): Iq (λn _=>vW n a b) a b:=
 aV (λ_=>rfl) (Iq.bb (Iq.and ZB (congrArg _) λk=>Iq.and ZB (congrArg _) λg=>Iq.and ZB (congrArg _) λj=>Iq.and ZB (congrArg _) λl=>Iq.and ZB (congrArg _) λe=>Iq.and We (congrArg _) λc=>
  aE (aTc a.Via b.Via h.1) λd i=>Iq.and i (congrArg _) λf=>Iq.and We (congrArg _) λm=>Iq.end_ (aV7 a.Parts b.Parts h.2) (aRo k g j l e c f m)))
theorem aPd(a b:dH)(c:FC a)(d:a.Edits.length=b.Edits.length)(i:Nat)(f:a.Edits.take i=b.Edits.take i): aB (λn m=>nZ sF n m (a,b) (i:Int)) (Q2 a.Edits b.Edits):=
 have j:=c.1;bK (rq d (by omega) f (t:=λn _ x y=>vW n x y) (λx g y=>aVw x y (c.2 x g)) λh e=>by
  rw[bU (by omega)];exact aPd a b c d (i+1) h)
termination_by a.Edits.length-i
theorem aVs(a:dH)(d:FC a): aB (λn _=>tC n a a) λr=>r=true:=by
 refine aV (λ_=>rfl) (aE (f:=λn _=>Rm n (a,a)) (Q:=λr=>r=false) ?_ λc b=>aC (λh=>by rw[show c=false from b] at h;cases h) λ_=>aS (aX (aPd a a d rfl 0 rfl)) (λ_ h=>absurd rfl h) λ_ _=>aF rfl (aA rfl));refine aC (λh=>by simp at h) λ_=>aC (λh=>by simp at h) λ_=>aC (λh=>by simp at h) λ_=>aC (λ_=>aC (λh=>by simp at h) λ_=>aA rfl) λh=>by simp at h
def CmV(a:dA)(t:dH)(v:dA×Int): Prop:=aB (λn _=>fN n a t) λr=>r=v
theorem CmV.uniq{a:dA}{t:dH}{v w:dA×Int}(h:CmV a t v)(k:CmV a t w): v=w:=aB.uniq (r:=v) (P:=λx=>x=w) h k
inductive Rp: List dH->dA->dA×Int->Prop
 | nil (p):Rp [] p (p,0)
 | err (t l p v):CmV p t v->v.2≠0->Rp (t::l) p v
 | ok (t l p v r):CmV p t v->v.2=0->Rp l v.1 r->Rp (t::l) p r
theorem Rp.uniq{l:List dH}{p:dA}{v w:dA×Int}(h:Rp l p v)(k:Rp l p w): v=w:=by
 induction h with
 | nil p=>cases k;rfl
 | err t l p v d e=>
  cases k with
  | err _ _ _ _ a b=>exact d.uniq a
  | ok _ _ _ u _ a b _=>rw[d.uniq a] at e;exact absurd b e
 | ok t l p v r d e i g=>
  cases k with
  | err _ _ _ _ a b=>rw[<-d.uniq a] at b;exact absurd e b
  | ok _ _ _ u _ a b f=>rw[<-d.uniq a] at f;exact g f
theorem Rp.snoc{l:List dH}{p q:dA}{t:dH}{v:dA×Int}(h:Rp l p (q,0))(k:CmV q t v)(e:v.2=0): Rp (l++[t]) p v:=by
 generalize c:(q,(0:Int))=r at h;induction h with
 | nil p=>cases c;exact .ok _ _ _ _ _ k e (by obtain⟨a,b⟩:=v;subst e;exact .nil a)
 | err t l p v f d=>subst c;exact absurd rfl d
 | ok t l p v r f d j g=>exact .ok _ _ _ _ _ f d (g c)
structure aEC(a:dA): Prop where
 s:sE a.Survey
 t:∀t∈a.Txns,FC t
theorem aEN(a:dA)(t:dH)(c:aEC a)(f:FC t): ∃s:aJ×Int×Int,∃v,aB (λn _=>zE n a.Survey t.Edits) (λr=>r=s)/\CmV a t v/\(v.2≠0->v.1=eR)/\(v.2=0->s.2.2=0/\v.1=⟨s.1,a.Txns++[t]⟩/\aEC v.1/\a.Txns.length<256):=by
 obtain⟨s,i,g⟩:=aMv a t c.s c.t f;obtain⟨v,e,l⟩:=g.val;refine⟨s,v,i,l,e.1,λh=>?_⟩;obtain⟨k,d,j,m⟩:=e.2 h;refine⟨k,d,?_,m⟩;rw[d];refine⟨j,λu b=>?_⟩;rcases ZD.1 b with b | b
 .exact c.t u b
 .rw[ZK.1 b];exact f
theorem aKo(e:List dH)(D:e.length<=100000)(y:∀t∈e,FC t): ∀(a:List dH) (i:Nat) (p:dA),e.drop i=a->aEC p->∃v,Rp a p v/\(v.2=0->aEC v.1/\v.1.Txns=p.Txns++a)/\aB (λn m=>nZ tH n m (e,ln e) (p.Survey.Plan.Nodes,p.Survey.Plan.Arcs,p.Survey.Plan.Faces,p.Survey.Features,p.Txns,(i:Int))) (Su (λw=>v.2≠0/\w.2.2=v.2) λw=>v.2=0/\v.1=⟨⟨⟨w.1,w.2.1,w.2.2.1⟩,w.2.2.2.1⟩,w.2.2.2.2⟩)
 | [],i,p,o,k=>⟨(p,0),.nil p,λ_=>⟨k,by simp⟩,bK (bC (λx d g=>by
  have:=congrArg List.length o;rw[ZW,Z4] at this;omega) λ_=>aA ⟨rfl,rfl⟩)⟩
 | t::a,i,p,o,k=>by
  obtain⟨q,A,G⟩:=Sf o;obtain⟨s,v,_,j,H,B⟩:=aEN p t k (y t (Zf q));by_cases c:v.2=0
  .obtain⟨_,F,E,_⟩:=B c;obtain⟨w,z,u,C⟩:=aKo e D y a (i+1) v.1 A E;refine⟨w,.ok _ _ _ v _ j c z,λh=>⟨(u h).1,?_⟩,bK (bC (λx d g=>?_) λh=>by omega)⟩
   .rw[(u h).2,F];simp
   .rw[q] at d;cases d;refine aE j λr l=>?_;subst l;refine aC (λb=>by rw[c] at b;simp at b) λ_=>?_;rw[bU (by omega)];exact C
  .refine⟨v,.err _ _ _ v j c,λh=>absurd h c,bK (bC (λx d g=>?_) λh=>by omega)⟩;rw[q] at d;cases d;refine aE j λr l=>?_;subst l;exact aC (λ_=>aA ⟨c,rfl⟩) λb=>absurd (by simpa using b) c
theorem aP6: aEC eR:=⟨⟨⟨by simp[eR,eS],by simp[eR,eS],by simp[eR,eS],by simp[eR,eS]⟩,by simp[eR,eS],by simp[eR,eS]⟩,by simp[eR]⟩
theorem aED(l:List dH)(e:l.length<=100000)(c:∀t∈l,FC t): ∃v,Rp l eR v/\(v.2=0->aEC v.1/\v.1.Txns=l)/\aB (λn _=>Id n l) λr=>r.2.2=v.2/\(v.2=0->r.1=v.1):=by
 obtain⟨v,f,b,d⟩:=aKo l e c l 0 eR rfl aP6;refine⟨v,f,b,aV (λ_=>rfl) (aS (aX d) (λw a=>aA ⟨a.2,λh=>absurd h a.1⟩) λw a=>aF rfl (aA ⟨a.1.symm,λ_=>a.2.symm⟩))⟩
def VlP(a:dA): Prop:=∃v,Rp a.Txns eR v/\v.2=0/\v.1.Survey=a.Survey
theorem aHZ(a:dA)(z:a.Txns.length<=100000)(y:∀t∈a.Txns,FC t): aB (λn _=>jA n a) λr=>r=true↔VlP a:=by
 obtain⟨v,j,u,x⟩:=aED a.Txns z y;refine aV (λ_=>rfl) (aE x λb i=>aE (f:=λn _=>FU n (a,b.1,b.2.2)) (Q:=λr=>r=true↔VlP a) (aC (λh=>?_) λh=>aA ⟨by simp,λ⟨w,l,g,_⟩=>?_⟩) λc q=>aC (λe=>aA ⟨λ_=>q.1 e,λ_=>rfl⟩) λe=>aA ⟨by simp,λk=>by rw[q.2 k] at e;cases e⟩)
 .have m:v.2=0:=by rw[<-i.1];simpa using h
  have e:=i.2 m;refine aE (aOf b.1.Survey a.Survey (by rw[e];exact (u m).1.s)) λd p=>aC (λk=>aA ⟨λ_=>⟨v,j,m,by rw[<-e];exact p.1 k⟩,λ_=>rfl⟩) λk=>aA ⟨by simp,λ⟨w,l,g,o⟩=>?_⟩;rw[l.uniq j,<-e] at o;rw[p.2 o] at k;cases k
 .rw[l.uniq j,<-i.1] at g;have:b.2.2≠0:=by simpa using h
  exact absurd g this
def Wd(p:aM): Prop:=∀a∈p.Arcs,a.Via.length<=140737488355328
theorem aMe(l:List Aaa)(g:l.length<=1000)(i:Nat)(a b c d:Int): Tt (λn m=>sV uD n m l (a,b,c,d,(i:Int))):=by
 refine cG (aC (λf=>?_) λ_=>aA trivial);have f:(i:Int)<ln l:=Zh f;have f:i<l.length:=by unfold ln at f;omega
 have e:idx l (i:Int)=some l[i]:=by rw[bM];exact Za f
 refine aF e (aF e (aF e (aF e ?_)));rw[bU (by omega)];exact aMe l g (i+1) _ _ _ _
termination_by l.length-i
theorem aM4(l:List Aaa)(c:l.length<=1000): Tt (λn _=>FI n l):=by
 refine aV (λ_=>rfl) (aC (λ_=>aA trivial) λh=>?_);have b:0<l.length:=by
  rcases Xj l.length with a | a
  .have:ln l=0:=by unfold ln;omega
   rw[this] at h;simp at h
  .exact a
 have e:idx l 0=some l[0]:=by show idx l ((0:Nat):Int)=_;rw[bM];exact Za b
 exact aF e (aF e (aF e (aF e (aE (aX (aMe l c 1 _ _ _ _)) λ_ _=>aA trivial))))
section
variable (p:aM)(hn:p.Nodes.length<=30)(ha:p.Arcs.length<=30)(hw:Wd p)
include hn in
theorem aLb(i:Nat)(l:List Aaa)(c:l.length=i)(d:i<=p.Nodes.length): aB (λn m=>sV zL n m p (l,(i:Int))) λr=>r.length<=30:=
 cG (bC (λx b a=>aF (AL (by omega)) (by
  rw[bU (by omega)];exact aLb (i+1) _ (by simp;omega) (by omega))) λ_=>aA (by omega))
termination_by p.Nodes.length-i
include ha hw in
theorem aLa(i:Nat)(l:List Aaa)(f:l.length<=210)(d:vV p.Arcs i λa=>a.Via.length<=210): aB (λn m=>nZ zK n m p (l,(i:Int))) (Su (λ_=>True) λr=>r.length<=210/\∀a∈p.Arcs,a.Via.length<=210):=by
 refine bK (bC (λx b e=>aC (λ_=>aA trivial) λh=>?_) λc=>aA ⟨f,d.fin c⟩);have j:=hw x (Zf b);have h:¬wr (ln l+ln x.Via) > 180:=Zk h;rw[wr,i64_in _ (by unfold ln;omega)] at h;unfold ln at h;refine aF (x:=x) (by rw[bM];exact b) (aF (Qy (by omega)) ?_);rw[bU (by omega)];exact aLa (i+1) _ (by simp;omega) (d.step b (by omega))
termination_by p.Arcs.length-i
include hw in
theorem aIH: aB (λn _=>RJ n p) λr=>r=true->Sm p:=by
 refine aV (λ_=>rfl) (aE (f:=λn _=>LV n p) (Q:=λr=>r=false->p.Nodes.length<=30/\p.Arcs.length<=30/\p.Faces.length<=30) ?_ λc j=>aC (λ_=>aA (by simp)) λh=>?_)
 .refine aC (λ_=>aA (by simp)) λi=>aC (λ_=>aA (by simp)) λe=>aC (λ_=>aA (by simp)) λd=>aA λ_=>?_;have i:¬ln p.Nodes > 30:=Zk i;have e:¬ln p.Arcs > 30:=Zk e;have d:¬ln p.Faces > 30:=Zk d;unfold ln at i e d;exact⟨by omega,by omega,by omega⟩
 .obtain⟨k,l,o⟩:=j h;refine aE (aX (aLb p k 0 [] rfl (ZE _))) λc j=>aS (aX (aLa p l hw 0 c (by omega) .nil)) (λ_ _=>aA (by simp)) λf b=>aF rfl (aE (aM4 f (by have:=b.1;omega)) λg _=>aE (f:=λn _=>LU n g) (Q:=λ_=>True) (by repeat' first | exact aA trivial | refine aC (λ_=>?_) (λ_=>?_)) λh _=>aC (λ_=>aA λ_=>⟨by omega,by omega,by omega,λa h=>by have:=b.2 a h;omega⟩) λ_=>aA (by simp))
end
theorem aHw(s:aJ)(j:s.Features.length<=20)(i:Nat)(d:vV s.Features i λf=>f.Parts.length<=40): aB (λn m=>nZ zH n m s (i:Int)) (Su (λ_=>True) λ_=>∀f∈s.Features,f.Parts.length<=40):=by
 refine bK (aC (λa=>?_) λb=>aA (d.fin ?_))
 .have a:(i:Int)<ln s.Features:=Zh a;have a:i<s.Features.length:=by unfold ln at a;omega
  have e:idx s.Features (i:Int)=some s.Features[i]:=by rw[bM];exact Za a
  refine aE (f:=λn _=>LL n (s,(i:Int))) (Q:=λr=>r=false->s.Features[i].Parts.length<=40) (aF e (aC (λ_=>aA (by simp)) λh=>aF e ?_)) λc g=>aC (λ_=>aA trivial) λh=>?_
  .have h:¬ln s.Features[i].Parts > 40:=Zk h;unfold ln at h;exact aC (λ_=>aA (by simp)) λ_=>aA λ_=>by omega
  .rw[bU (by omega)];exact aHw s j (i+1) (d.step (Za a) (g h))
 .have b:¬(i:Int)<ln s.Features:=Zk b;unfold ln at b;omega
termination_by s.Features.length-i
theorem aIG(s:aJ)(e:Wd s.Plan): aB (λn _=>RH n s) λr=>r=true->sE s:=by
 refine aV (λ_=>rfl) (aE (f:=λn _=>LM n s) (Q:=λr=>r=false->Sm s.Plan/\s.Features.length<=20) (aE (aIH s.Plan e) λc b=>aC (λd=>aC (λ_=>aA (by simp)) λa=>aA λ_=>?_) λ_=>aA (by simp)) λc b=>aC (λ_=>aA (by simp)) λh=>?_)
 .have a:¬ln s.Features > 20:=Zk a;unfold ln at a;exact⟨b d,by omega⟩
 .obtain⟨d,a⟩:=b h;exact aS (aX (aHw s a 0 .nil)) (λ_ _=>aA (by simp)) λ_ g=>aF rfl (aA λ_=>⟨d,by omega,λf i=>by have:=g f i;omega⟩)
theorem aQe(e:bF): aB (λn _=>LN n e) λr=>r=false->aJv e:=
 aC (λ_=>aA (by simp)) λb=>aC (λ_=>aA (by simp)) λa=>aC (λ_=>aA (by simp)) λ_=>aA λ_=>by
  have b:¬ln e.Via > 20:=Zk b;have a:¬ln e.Parts > 20:=Zk a;unfold ln at b a;exact⟨by omega,by omega⟩
theorem aJU(l:List dH)(k:Nat)(t:dH)(g:l[k]?=some t)(o:t.Edits.length<=6)(i:Nat)(d:vV t.Edits i aJv): aB (λn m=>nZ zI n m (l,(k:Int)) (i:Int)) (Su (λ_=>True) λ_=>∀e∈t.Edits,aJv e):=by
 have f:idx l (k:Int)=some t:=by rw[bM];exact g
 refine bK (aF f (aC (λa=>?_) λb=>aA (d.fin ?_)))
 .have a:(i:Int)<ln t.Edits:=Zh a;have a:i<t.Edits.length:=by unfold ln at a;omega
  have e2:idx t.Edits (i:Int)=some t.Edits[i]:=by rw[bM];exact Za a
  refine aF f (aF e2 (aE (aQe t.Edits[i]) λc j=>aC (λ_=>aA trivial) λh=>?_));rw[bU (by omega)];exact aJU l k t g o (i+1) (d.step (Za a) (j h))
 .have b:¬(i:Int)<ln t.Edits:=Zk b;unfold ln at b;omega
termination_by t.Edits.length-i
theorem aJV(l:List dH)(k:l.length<=12)(i:Nat)(e:vV l i FC): aB (λn m=>lm3 zJ n m l (i:Int)) (Su (λ_=>True) (Su (λ_=>True) λ_=>∀t∈l,FC t)):=by
 refine aGk (aC (λa=>?_) λb=>aA (e.fin ?_))
 .have a:(i:Int)<ln l:=Zh a;have a:i<l.length:=by unfold ln at a;omega
  have g:idx l (i:Int)=some l[i]:=by rw[bM];exact Za a
  refine aE (f:=λn _=>LO n (l,(i:Int))) (Q:=λr=>r=false->l[i].Edits.length<=6) (aF g (aC (λ_=>aA (by simp)) λd=>aF g (aC (λ_=>aA (by simp)) λ_=>aA λ_=>?_))) λc j=>aC (λ_=>aA trivial) λh=>?_
  .have d:¬ln l[i].Edits > 6:=Zk d;unfold ln at d;omega
  .have o:=j h;refine aS (aX (aJU l i l[i] (Za a) o 0 .nil)) (λ_ _=>aA trivial) λ_ p=>aF rfl ?_;rw[bU (by omega)];exact aJV l k (i+1) (e.step (Za a) ⟨by omega,p⟩)
 .have b:¬(i:Int)<ln l:=Zk b;unfold ln at b;omega
termination_by l.length-i
theorem aG8(l:List dH): aB (λn _=>Sk n l) λr=>r=true->l.length<=12/\∀t∈l,FC t:=by
 refine aV (λ_=>rfl) (aC (λ_=>aA (by simp)) λh=>?_);have h:¬ln l > 12:=Zk h;unfold ln at h;exact aS (aX (aJV l (by omega) 0 .nil)) (λ_ _=>aA (by simp)) λb a=>by
  cases b with
  | inl x=>exact aS (Q:=λ_=>True) (R:=λ_=>False) (aA (x:=Sum.inl x) trivial) (λ_ _=>aA (by simp)) λ_ h=>h.elim
  | inr x=>exact aS (Q:=λ_=>False) (R:=λ_=>True) (aA (x:=Sum.inr x) trivial) (λ_ h=>h.elim) λ_ _=>aF rfl (aA λ_=>⟨by omega,a⟩)
theorem aNI(a:dA)(i:Wd a.Survey.Plan): aB (λn _=>RI n a) λr=>r=true->aEC a/\a.Txns.length<=12:=by
 refine aV (λ_=>rfl) (aE (f:=λn _=>LP n a) (Q:=λr=>r=true->aEC a/\a.Txns.length<=12) (aE (aIG a.Survey i) λc b=>aC (λj=>aE (aG8 a.Txns) λd g=>aC (λe=>aA λ_=>⟨⟨b j,(g e).2⟩,(g e).1⟩) λ_=>aA (by simp)) λ_=>aA (by simp)) λc b=>aC (λh=>aA λ_=>b h) λ_=>aA (by simp))
theorem aGg{f:Nat->Nat->Option Bool}(h:aB f λr=>r=true): aB (λn m=>bnd (f n m) λd=>cnd d (some true) (some false)) λr=>r=true:=
 aE h λr a=>aC (λ_=>aA rfl) λh=>by rw[show r=true from a] at h;cases h
theorem aTI: sE eS:=aP6.s
section
variable (aw:aB (λn _=>fL n) λr=>r=true)
include aw
theorem awk{α:Type}{P:α->Prop}{x y:Nat->Nat->Option α}(h:aB x P): aB (λn m=>bnd (fL n) λd=>cnd d (x n m) (y n m)) P:=
 aE aw λr a=>aC (λ_=>h) λh=>by rw[show r=true from a] at h;cases h
theorem aOJ(a:dA)(t:dH)(k:Wd a.Survey.Plan): aB (λn _=>vU n a t) λr=>r=true:=by
 refine aV (λ_=>rfl) (aE (aNI a k) λc Y=>aC (λS=>?_) λ_=>aGg aw);obtain⟨H,I⟩:=Y S;refine aE (aG8 [t]) λd X=>aC (λZ=>?_) λ_=>aGg aw;have J:FC t:=(X Z).2 t (by simp);have N:=aHZ a (by omega) H.t;obtain⟨s,v,L,F,k3,R⟩:=aEN a t H J;have O:v.2≠0->∀(x:Nat->Nat->Bool->Option Bool),(∀w:Bool,(w=true↔VlP a)->aB (λn m=>x n m w) λr=>r=true)->aB (λn m=>bnd (fL n) λd=>cnd d (cnd (ln v.1.Txns==0) (bnd (pY n v.1.Survey (aJ.mk (aM.mk [] [] []) [])) λf=>cnd f (bnd (jA n a) λg=>x n m g) (some false)) (some false)) (some false)) λr=>r=true:=by
  intro h x C;rw[k3 h];exact awk aw (aC (λ_=>aE (aT8 eS eS aTI) λr e=>aC (λ_=>aE N C) λh=>by rw[e.2 rfl] at h;cases h) λh=>by simp[eR,ln] at h)
 have ok:v.2=0->∀(x:Nat->Nat->Option Bool),aB x (λr=>r=true)->aB (λn m=>bnd (fL n) λd=>cnd d (cnd (s.2.2==0) (bnd (pY n s.1 v.1.Survey) λi=>cnd i (cnd (ln v.1.Txns==wr (ln a.Txns+1)) (bnd (idx v.1.Txns (ln a.Txns)) λj=>bnd (tC n j t) λl=>cnd l (x n m) (some false)) (some false)) (some false)) (some false)) (some false)) λr=>r=true:=by
  intro h x C;obtain⟨g1,o,G,U⟩:=R h;have Q:v.1.Survey=s.1:=by rw[o]
  have e2:v.1.Txns=a.Txns++[t]:=by rw[o]
  have g5:sE s.1:=by rw[<-Q];exact G.s
  rw[Q,e2];refine awk aw (aC (λ_=>aE (aT8 s.1 s.1 g5) λr e=>aC (λ_=>aC (λ_=>aF (x:=t) ?_ (aE (aVs t J) λl V=>aC (λ_=>C) λh=>by rw[show l=true from V] at h;cases h)) λh=>?_) λh=>by rw[e.2 rfl] at h;cases h) λh=>by rw[g1] at h;simp at h)
  .show idx _ ((a.Txns.length:Nat):Int)=_;rw[bM,ZX (Zg _),XD];rfl
  .unfold ln at h;rw[bU (by omega)] at h;simp at h
 refine aE N λw p=>aC (λq=>?_) λq=>?_
 .have M:VlP a:=p.1 q;refine aE F λg E=>?_;subst E;refine aC (λb=>aGg (f:=λn _=>Md n (a,g.1)) (O (by simpa using b) (λn m w=>cnd w (cd (true=true) (some true) (some false)) (cd (false=true) (some true) (some false))) λw k=>aC (λ_=>aC (λ_=>aA rfl) λh=>by simp at h) λh=>by rw[k.2 M] at h;cases h)) λb=>aE L λi B=>?_;subst B;have y:g.2=0:=by simpa using b
  obtain⟨_,o,G,U⟩:=R y;refine aGg (f:=λn _=>Mc n (a,t,g.1,i.1,i.2.2)) (ok y (λn _=>bnd (jA n g.1) λm=>cnd m (some true) (some false)) (aGg ((aHZ g.1 (by rw[o];simp;omega) G.t).imp λr e=>e.2 ?_)));obtain⟨u,D,A,v3⟩:=M;have K:u.1=a:=by
   obtain⟨z,W,z2,_⟩:=aED a.Txns (by omega) H.t;obtain rfl:=W.uniq D;have:=(z2 A).2;obtain⟨⟨us,ut⟩,ue⟩:=z;cases a;simp_all
  have e:Rp a.Txns eR (a,0):=by
   obtain⟨u1,u2⟩:=u;simp only at A K;rw[A,K] at D;exact D
  refine⟨g,?_,y,rfl⟩;have:=e.snoc F y;rw[o];exact this
 .refine aE F λg E=>?_;subst E;have T:¬VlP a:=λh=>by rw[p.2 h] at q;cases q
  refine aC (λb=>aGg (f:=λn _=>Mb n (a,g.1)) (O (by simpa using b) (λn m w=>cnd w (cd (true=false) (some true) (some false)) (cd (false=false) (some true) (some false))) λw k=>aC (λh=>absurd (k.1 h) T) λ_=>aC (λ_=>aA rfl) λh=>by simp at h)) λb=>aE L λi B=>?_;subst B;exact aGg (f:=λn _=>Ma n (a,t,g.1,i.1,i.2.2)) (ok (by simpa using b) (λ_ _=>some true) (aA rfl))
end
theorem aMf: ∀n,fL (n+100)=some true:=by intro n;kernel_rfl
theorem aOC: aB (λn _=>fL n) λr=>r=true:=⟨true,rfl,100,λn m a _=>by
 obtain⟨k,rfl⟩:∃k,n=k+100:=⟨n-100,by omega⟩;exact aMf k⟩
section
open Go.Proofs
theorem aIw{P:Program}{n:Nat}{a b:TypeId}{c:List AV}(h:Rl P n [a,b] c): ∃x y,c=[x,y]/\(∃ys,vI P n a ys/\x=TF P a ys)/\(∃ys,vI P n b ys/\y=TF P b ys):=
 match c,h with
 | [x,y],⟨e,d,_⟩=>⟨x,y,rfl,e,d⟩
theorem aS8(a:dA)(h:LnC 6 (iU.cds 13) (dQ.un 13 a)): Wd a.Survey.Plan:=by
 obtain⟨_,⟨_,c⟩,_⟩:=h;intro x b;obtain⟨⟨d,_⟩,_⟩:=c x b;exact d
theorem aMC: Rh.c=⟨[.v 13,.v 11],[7],false,λn p=>vU n p.1 p.2⟩:=by kernel_rfl
theorem aJA(b:List AV)(h:Rl PP 10 [32,35] b): ∃k H',eZ PP T k 0 0 b []=some (.lit (.bool true),H'):=by
 obtain⟨x,y,rfl,e,d⟩:=aIw h;obtain⟨a,j,c⟩:=aHV (k:=13) (H:=[]) (by kernel_rfl) (by kernel_rfl) (.inl (by kernel_rfl)) e;obtain⟨t,g,_⟩:=aHV (k:=11) (H:=[]) (by kernel_rfl) (by kernel_rfl) (.inl (by kernel_rfl)) d;obtain⟨r,l,n,f⟩:=aOJ aOC a t (aS8 a (c 6));subst l;have i:FOK PP T 0 ⟨[.v 13,.v 11],[7],false,λn p=>vU n p.1 p.2⟩:=aMC▸Rh.ok;exact aOk i (n:=n) (p:=(a,t)) (r:=true) (f n n (Zg _) (Zg _)) rfl ⟨j,g,trivial⟩
theorem aAH(os:Os)(started:os.Started)(H:Type)(enc:TypeId×Value->H):
 ReturnsInHanded {} Tryz.checked os 3 .any (λw args=>(Rows.txnWholeSpec.pre enc Tryz.prog Tryz.f3 [] false w args/\laidMetH Tryz.prog Rows.txnWholeRow.laid w)/\sizedMet enc Tryz.prog Tryz.f3 (OpenSpec.ofChange Rows.txnWholeSpec) false w args)
  (Rows.txnWholeSpec.post enc Tryz.prog Tryz.f3 false true false false):=by
 refine Q3 (C:=Tryz.checked) (X:=λw _=>laidMetH Tryz.prog Rows.txnWholeRow.laid w) (λ_ _ _ hh h=>h.of_heap hh) own started (by kernel_rfl) Tryz.func3
  (ChangeSpec.witness_shaped (enc:=enc) (C:=Tryz.checked) (os:=os) (X:=λw _=>laidMetH Tryz.prog Rows.txnWholeRow.laid w) false (World.laidAll Tryz.prog os Rows.txnWholeRow.laid) #[.agg #[.slice none 0 0,.slice none 0 0,.slice none 0 0,.slice none 0 0,.slice none 0 0],.agg #[.int .i64 0,.int .i64 0,.int .i64 0,.string ⟨#[]⟩,.slice none 0 0]] 8 (World.laidAll_os _ _ _)
   (World.shaped_of_ZipB (by kernel_rfl) (by kernel_rfl)) (by kernel_rfl) (by kernel_rfl) (by kernel_rfl)
   (by rw[MakeChecks.laidMetH_plain _ _ _ (by kernel_rfl)];exact laidMet_laidAll _ (by kernel_rfl) (by kernel_rfl))) ?_
 intro W base args ds gs before hval hW hlaid hsh hwt
 have hds:∃d0 d1,ds=[d0,d1]/\gs=[]:=by
  obtain⟨p,q,hA,hV,_⟩:=hW
  have hA':DataW.TrodAll enc Tryz.prog W 0 (λ_=>true) true [32,35] args.toList ds p:=by
   have:=hA
   rw[Tryz.params3] at this
   exact this
  obtain⟨v0,vs0,d0,ds0,p0,q0,_,rfl,rfl,h0,r0⟩:=Wx hA'
  obtain⟨v1,vs1,d1,ds1,p1,q1,_,rfl,rfl,h1,r1⟩:=Wx r0
  obtain⟨rfl,rfl,rfl⟩:=ChangeShapes.trodAll_nil r1
  obtain⟨rfl,rfl⟩:=ChangeShapes.trodVars_none hV
  exact⟨_,_,rfl,rfl⟩
 obtain⟨d0,d1,rfl,rfl⟩:=hds
 refine aB6 (T:=T) (n:=10) (vi:=0) mixed checked aNp (by kernel_rfl) rfl (tb:=4) (by kernel_rfl) (by kernel_rfl) laid (by rw[Tryz.params3];intro t ht;simp at ht;rcases ht with rfl | rfl<;>exact⟨by kernel_rfl,Zh (by kernel_rfl)⟩) (by kernel_rfl) ?_ (aL0 hlaid hsh) ⟨rfl,rfl,rfl⟩ hval hW ?_
 .intro xs hxs
  rw[Tryz.params3] at hxs
  exact aJA xs hxs
 .intro n hn
  have:=Yg.1 hwt n (by
   have e:Tryz.f3.params.toList++Rows.txnWholeSpec.plain.varTypes Tryz.prog=Tryz.f3.params.toList:=Xz _
   show n∈DataW.weightsEach Tryz.prog (Tryz.f3.params.toList++Rows.txnWholeSpec.plain.varTypes Tryz.prog) ([d0,d1]++[])
   rw[e,Xz];exact hn)
  simpa using this
theorem aET: Rows.TxnWholeSaid:=
 OpenClaim.holds_of_wide 3 Tryz.f3 rfl rfl rfl rfl rfl rfl rfl ⟨rfl,rfl,rfl,rfl,rfl⟩ rfl rfl rfl rfl rfl (by kernel_rfl) Tryz.func3 aJf
  (Zh (by kernel_rfl)) (by unfold Func.isWrapper;first | (rw[Zu (by decide +kernel)];kernel_rfl) | (rw[ZH (by decide +kernel)];exact⟨rfl,rfl⟩))
  (λos started H enc _=>aAH os started H enc)
theorem whole_card: Rows.TxnWholeCardSaid:=
 Claim7.holds_tied_plain_at .later [] [.data] true (true,"5f2e44b848a283ad6590559d892537b2f394330b1648daa94e42d46b75f41e2f") false
  aET (λ_ h=>by cases h) aTw (λ_ h=>by cases h) txnWhole_row_tie rfl ⟨rfl,rfl⟩ aTx rfl
  (λf fn hf hfn=>by
   obtain rfl:f=3:=ZF (aT0.symm.trans hf) |>.symm
   obtain rfl:fn=Tryz.f3:=(ZF (Tryz.func3.symm.trans hfn)).symm
   exact⟨aTy,λj t ht=>by
    rw[Tryz.params3] at ht
    exact match j,ht with
    | 0,ht=>(by have e:32=t:=(by simpa using ht);subst e;exact aNS)
    | 1,ht=>(by have e:35=t:=(by simpa using ht);subst e;exact aNR)
    | n+2,ht=>(by simp at ht)⟩)
  aTz
end
end Go.Proofs.YtglfoebmkbglgaaGreatDoor.Av
