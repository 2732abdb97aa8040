/- A part of the proof of a law on transactions. -/
import Derived.Test.YtglfoebmkbglgaaGreatDoorP10
import Derived.Test.YtglfoebmkbglgaaGreatDoorP7
import Derived.Test.YtglfoebmkbglgaaGreatDoorP0
import Derived.Test.YtglfoebmkbglgaaGreatDoorP6
set_option maxRecDepth 100000
set_option maxHeartbeats 4000000
set_option linter.all false
namespace Go.Proofs.YtglfoebmkbglgaaGreatDoor.Av
open Go
theorem FI.fe{s:aK}(h:FI s): FeI s.Features s.Features.length 0:=⟨rfl,λj f a=>by have:=h.f f (Zf a);omega,λj f _ a=>h.f f (Zf a)⟩
theorem FI.ar{s:aK}(h:FI s): mT s.Plan.Arcs s.Plan.Arcs.length:=⟨rfl,h.ok.p.v⟩
def N6(l:List aD): Prop:=l.length<=1000/\∀f∈l,f.Parts.length<=1000
theorem FI.fs{s:aK}(h:FI s): N6 s.Features:=⟨h.ok.n,h.ok.f⟩
theorem N6.set{l:List aD}(h:N6 l){i:Nat}{g:aD}(b:g.Parts.length<=1000): N6 (l.set i g):=⟨by rw[Yq];exact h.1,λf a=>by
 rcases YL a with a | rfl
 .exact h.2 f a
 .exact b⟩
theorem aUX(s:aK)(a:FI s)(b:List Int)(g:bG): aB (λn _=>Gy n (s.Plan.Faces,b,s.Plan.Nodes,s.Plan.Arcs,s.Features,g)) (Su (λv=>v≠0) λv=>v.1.length<=65/\mT v.2.1 s.Plan.Arcs.length/\v.2.2.1.length=s.Features.length/\∀x∈v.2.2.1,x.Parts.length<=65):=by
 have i:=a.v.leF;have d:=a.v.leA;have e:=a.n;refine aX (aS (f:=λn _=>Gf n (s.Plan.Faces,s.Plan.Nodes,s.Plan.Arcs,s.Features,g)) (Q:=λv:Int=>v≠0) (R:=λ_=>True) (aE (aAH s.Plan.Faces g.ID (by omega)) λ_ _=>aC (λ_=>aE (aAH s.Plan.Faces g.A (by omega)) λ_ _=>aC (λ_=>aA (show (8:Int)≠0 by decide)) λ_=>aA trivial) λ_=>aA (show (7:Int)≠0 by decide)) (λ_ h=>aA (by exact h)) λ_ _=>aF rfl ?_);exact aE (aUZ s.Plan.Faces b s.Plan.Nodes s.Plan.Arcs s.Features g.ID g.A (by omega) a.ar (by omega) a.fe (by omega)) λm c=>aA ⟨by have:=c.1;show m.1.length<=65;omega,c.2.1,c.2.2.1,c.2.2.2⟩
theorem aUW(s:aK)(p:FI s)(b:List Int)(g:bG)(d:U6 g): aB (λn _=>Gx n (s.Plan.Faces,b,s.Plan.Nodes,s.Plan.Arcs,s.Features,g)) (Su (λv=>N6 v.1) (Su (λv=>N6 (win v.2 (some v.1))) λv=>N6 v.1)):=by
 have x:=p.n;have c:=p.fs;refine aX (aE (aEh s g.ID (by omega)) λl i=>aC (λo=>?_) λo=>?_)
 .have a:=i.2.2 o;obtain⟨q,w⟩:∃q:Nat,l.1=(q:Int):=⟨l.1.toNat,by have:=i.1;omega⟩;rw[w] at a |-;have a:q<s.Features.length:=by simpa using a
  have e:=Za a;have m:fV s.Features s.Features.length (q:Int)=some s.Features[q]:=by rw[hU a];exact e
  have e2:idx s.Features (q:Int)=some s.Features[q]:=by rw[bK];exact e
  have r:=c.2 _ (ZS a);rw[bT (by omega)];refine aC (λ_=>aA (by exact c)) λ_=>aC (λ_=>aS (aMh s.Plan.Faces b s.Plan.Nodes s.Plan.Arcs s.Features (by omega) q a) (λ_ h=>h.elim) λv u=>aF rfl (aA ?_)) λ_=>aC (λ_=>aF m (aF e2 (aA ?_))) λ_=>aC (λ_=>aF m (aF e2 (aA ?_))) λ_=>aC (λ_=>aE (aL2 g.Parts (by have:=d.2;omega)) λt j=>aF m (aF e2 (aA ?_))) λ_=>aA (by exact c)
  .subst u;refine⟨by simp[win];omega,λf k=>?_⟩;rcases aEu _ _ _ f (aG8 k) with h | rfl
   .exact c.2 f h
   .simp
  .exact c.set r
  .exact c.set r
  .exact c.set (by subst j;have:=d.2;show g.Parts.length<=1000;omega)
 .refine aC (λ_=>aE (aL2 g.Parts (by have:=d.2;omega)) λt j=>aX (aF (aBG i.1 i.2.1 (by omega)) (aA ?_))) λ_=>aA (by exact c);subst j;refine⟨by simp;omega,λf k=>?_⟩;rcases aHG k with h | rfl
  .exact c.2 f h
  .have:=d.2;show g.Parts.length<=1000;omega
theorem aG4.mem{l:List Int}{k:Nat}(h:aG4 l k){x:Int}(a:x∈l): 1<=x/\x.toNat<=k:=by
 rw[h] at a;obtain⟨j,b,rfl⟩:=Yb.1 a;have:=Wt.1 b;omega
theorem SzR.da{r:dW}(h:SzR r.Outer r.Inner r.Alone): aPo r:=⟨by have:=h.1;omega,h.2.1.1⟩
theorem aUL(g:bG)(x y:Int): aB (λn _=>Gs n (g,x,y)) λr=>r=x\/r=y:=aC (λ_=>aA (.inl rfl)) λ_=>aA (.inr rfl)
theorem aUK(a:List Aad)(b:List Int)(c:List aP)(d f:Int)(e:b.length<=1000): aB (λn _=>Gq n (a,b,c,d,f)) (Su (λv=>v≠0) λ_=>True):=
 aC (λ_=>aA (show (12:Int)≠0 by decide)) λ_=>aE (aAH b f (by omega)) λ_ _=>aC (λ_=>aA (show (8:Int)≠0 by decide)) λ_=>aC (λ_=>aA (show (12:Int)≠0 by decide)) λ_=>aA trivial
theorem aUJ(s:aK)(a:lG s)(f g:Int): Tt (λn _=>Gn n (s.Plan.Faces,s.Plan.Nodes,s.Plan.Arcs,s.Features,f,g)):=
 aC (λ_=>aE (n7 s a 3 f) λi b=>aE (n7 s a 3 g) λj _=>aE (aPm i j (by omega)) λ_ _=>aC (λ_=>aA trivial) λ_=>aA trivial) λ_=>aA trivial
theorem aPf{α:Type}{P:α->Prop}{g:Nat->Nat->Option α}(h:aB g P): aB (λn m=>Av.bnd (Av.prd n) λ_=>g n m) P:=by
 obtain⟨r,a,K,b⟩:=h;refine⟨r,a,K+1,λn m c d=>?_⟩;obtain⟨n,rfl⟩:∃k,n=k+1:=⟨n-1,by omega⟩;exact b (n+1) m (by omega) (by omega)
def L19(s:aK)(v:List Int×List aD×List aP×List aP×aN): Prop:=v.1.length<=65/\(v.2.1.length<=1000/\∀f∈v.2.1,f.Parts.length<=65)/\mT v.2.2.1 (s.Plan.Arcs.length+1)
theorem aVb(hD:Ru)(s:aK)(o:FI s)(b:List Int)(g:bG)(hg:U6 g): aB (λn _=>Hc n (s.Plan.Faces,b,s.Plan.Nodes,s.Plan.Arcs,s.Features,g)) (Su (λ_=>True) (Su (λ_=>True) (Su (λ_=>True) (L19 s)))):=by
 have ok:=o.ok;have h1:=o.v.leA;have h2:=o.v.leN;have h3:=o.v.leF;have h4:=o.n;refine aX (aE (aCs s g.ID (by omega)) λm J=>aC (λ_=>aA trivial) λ_=>aE (IW s g.A (by omega)) λ_ _=>aC (λ_=>aE (IW s g.B (by omega)) λ_ _=>aC (λ_=>?_) λ_=>aA trivial) λ_=>aE (IW s g.B (by omega)) λ_ _=>aC (λ_=>aA trivial) λ_=>aA trivial);refine aE (aRs s.Plan.Arcs (by omega)) λsa O=>aE (aRr g.Via (by have:=hg.1;omega)) λt ht=>?_;subst O ht;refine aPf (aF (aBG J.1 J.2.1 (by omega)) ?_);obtain⟨q,R⟩:∃q:Nat,m.1=(q:Int):=⟨m.1.toNat,by have:=J.1;omega⟩;have a1:q<=s.Plan.Arcs.length:=by have:=J.2.1;omega
 generalize X:(s.Plan.Arcs.take m.1.toNat++(⟨g.ID,g.A,g.B,g.Via,0,0⟩:aP)::s.Plan.Arcs.drop m.1.toNat)=u;have I:mT u (s.Plan.Arcs.length+1):=by
  refine⟨by rw[<-X,R];simp;omega,λa ha=>?_⟩;rw[<-X] at ha;rcases aHG ha with h | rfl
  .exact ok.p.v a h
  .have:=hg.1;show g.Via.length<=300;omega
 have G:Sm ⟨s.Plan.Nodes,u,s.Plan.Faces⟩:=⟨by show s.Plan.Nodes.length<=_;omega,by show u.length<=_;rw[I.1];omega,by show s.Plan.Faces.length<=_;omega,I.2⟩;refine aE (aIt _ G) λ_ _=>aC (λ_=>aA trivial) λ_=>aE (aPj hD _ G) λw hw=>aC (λ_=>aA trivial) λK=>?_;obtain⟨U,Q⟩:=hw.2 (by simpa using K);obtain⟨x,T,V,l,_⟩:=SB hD w.1 hw.1;refine aE T λx' N=>?_;subst N;refine aC (λ_=>aA trivial) λS=>?_;obtain⟨hV,C⟩:=V (by simpa using S);have H:q<w.1.Arcs.length:=by rw[U];show q<u.length;rw[I.1];omega
 have ey:idx w.1.Arcs m.1=some w.1.Arcs[q]:=by rw[R,bK];exact Za H
 have d:∀z:Int,(z=0\/z∈w.1.Faces)->0<=z/\z.toNat<x'.1.length:=by
  intro z F;rcases F with rfl | F
  .exact⟨XA _,by rw[C];simp⟩
  .have:=Q.mem F;omega
 have E:=hV.sid _ (ZS H);have W:=d _ E.1;have sr:=d _ E.2;obtain⟨j,k0,k1,k2⟩:=I.at (i:=q) (by omega);refine aF ey (aF ey (aF (xU W.1 W.2) (aF (xU sr.1 sr.2) (aE (aJO _ ok.p g.ID [_,_] (by simp) (by
  intro r M;rcases ZO.1 M with rfl | M
  .exact (l.2 _ (ZS _)).da
  .rw[ZJ.1 M];exact (l.2 _ (ZS _)).da)) λc0 _=>?_))))
 rw[R];refine aF k1 (aF k2 ?_);simp only[YA];have y:mT (u.set q ⟨j.ID,j.From,j.To,j.Via,c0,j.Right⟩) (s.Plan.Arcs.length+1):=I.set k0 rfl;generalize u.set q ⟨j.ID,j.From,j.To,j.Via,c0,j.Right⟩=Y at y;obtain⟨e,j0,j1,j2⟩:=y.at (i:=q) (by omega);refine aF j1 (aF j2 ?_);have c:mT (Y.set q ⟨e.ID,e.From,e.To,e.Via,e.Left,c0⟩) (s.Plan.Arcs.length+1):=y.set j0 rfl;generalize Y.set q ⟨e.ID,e.From,e.To,e.Via,e.Left,c0⟩=u3 at c;have D:L19 s (s.Plan.Faces,s.Features,u3,[(⟨g.ID,g.A,g.B,g.Via,0,0⟩:aP)],w.1):=⟨by show s.Plan.Faces.length<=65;omega,⟨by show s.Features.length<=1000;omega,λf hf=>by have:=o.f f hf;omega⟩,c⟩;refine aC (λ_=>aC (λ_=>aA trivial) λ_=>aA (by exact D)) λ_=>aE (aUL g _ _) λz F=>aS (aUK _ _ _ _ _ (by omega)) (λ_ _=>aA trivial) λ_ _=>aF rfl ?_;have Z:0<=z/\z.toNat<x'.1.length:=by rcases F with rfl | rfl<;>assumption
 refine aF (xU Z.1 Z.2) (aE (aHY _ (l.2 _ (ZS _)).da) λl0 L=>aE (aVa s.Plan.Faces b s.Plan.Nodes s.Plan.Arcs s.Features s.Plan.Faces u3 l0 c0 _ (by omega) ⟨rfl,c.2⟩ (by rw[c.1];omega) o.fe (by omega) L) λm0 k=>aA ?_);exact⟨by have:=k.1;show m0.1.length<=65;omega,⟨by show m0.2.1.length<=1000;rw[k.2.2.1];omega,k.2.2.2⟩,by have:=k.2.1;rw[c.1] at this;exact this⟩
def Ft(l:List aD): Prop:=l.length<=1000/\∀f∈l,f.Parts.length<=65
def Ar(l:List aP): Prop:=l.length<=300/\∀a∈l,a.Via.length<=300
def S18(s:aK): Int⊕(List aP×List aP×Int)⊕(List aP×List aP×List Aad×List aP×List Int×Int)⊕(List Int×List aD×List aP×List aP×List Aad×List aP×List Int)⊕(List aP×Int)⊕(List Int×List aP×List aD×Int×Int)⊕((Nat×Nat)×List Int×List aP×List aD×Int×Int)⊕((Nat×Nat)×List aP)->Prop:=
 Su (λ_=>True) (Su (λ_=>True) (Su (λ_=>True) (Su (λv=>v.1.length<=300/\Ft v.2.1/\Ar v.2.2.1) (Su (λv=>Ar v.1) (Su (λv=>v.1.length<=300/\Ar v.2.1/\Ft v.2.2.1) (Su (λv=>v.2.1.length<=300/\Ar v.2.2.1/\Ft v.2.2.2.1) (λv=>Ar v.2)))))))
theorem mT.le{l:List aP}{k:Nat}(h:mT l k)(a:k<=300): Ar l:=⟨by rw[h.1];exact a,h.2⟩
theorem aVc(y:Ru)(s:aK)(f:FI s)(b:List Int)(g:bG)(l:U6 g): aB (λn _=>He n (s.Plan.Faces,b,s.Plan.Nodes,s.Plan.Arcs,s.Features,g)) (S18 s):=by
 have ok:=f.ok;have H:=f.v.leA;have I:=f.v.leN;have K:=f.v.leF;have J:=f.n;have d:=f.ar.le (by omega);refine aX (aC (λ_=>aS (aVb y s f b g l) (λ_ _=>aA trivial) λu z=>?_) λ_=>?_)
 .rcases u with v | u
  .exact aA trivial
  rcases u with v | v
  .exact aA trivial
  .obtain⟨G,E,C⟩:=z;exact aA (show _/\_/\_ from⟨by show v.1.length<=300;omega,E,C.le (by omega)⟩)
 refine aE (aCs s g.ID (by omega)) λm o=>aC (λB=>?_) λ_=>aA (by exact d);have c:=o.2.2 B;obtain⟨q,x⟩:∃q:Nat,m.1=(q:Int):=⟨m.1.toNat,by have:=o.1;omega⟩;rw[x] at c |-;have c:q<s.Plan.Arcs.length:=by simpa using c
 have e:=Za c;have k:fV s.Plan.Arcs s.Plan.Arcs.length (q:Int)=some s.Plan.Arcs[q]:=by rw[hU c];exact e
 have e2:idx s.Plan.Arcs (q:Int)=some s.Plan.Arcs[q]:=by rw[bK];exact e
 rw[bT (by omega)];refine aC (λ_=>aE (aRr g.Via (by have:=l.1;omega)) λt F=>aF k (aF e2 (aA ?_))) λ_=>aE (n7 s ok 2 g.ID) λ_ _=>aC (λ_=>aA (by exact d)) λ_=>aF k (aF e2 (aF k (aF e2 (aE (aUJ s ok _ _) λ_ _=>aC (λ_=>aA (by exact d)) λ_=>aS (aMi s.Plan.Faces b s.Plan.Nodes s.Features s.Plan.Arcs (by omega) q c) (λ_ h=>h.elim) λv D=>aF rfl ?_))))
 .show Ar (List.set _ _ _);refine⟨by rw[Yq];exact d.1,λa i=>?_⟩;rcases YL i with i | rfl
  .exact d.2 a i
  .subst F;have:=l.1;show g.Via.length<=300;omega
 .subst D;have w:mT (LE s.Plan.Arcs ⟨0,0,0,[],0,0⟩ q) (LE s.Plan.Arcs ⟨0,0,0,[],0,0⟩ q).length:=⟨rfl,λa i=>by
   rcases aEu _ _ _ a i with h | rfl
   .exact ok.p.v a h
   .simp⟩
  have A:=aMg s.Plan.Arcs ⟨0,0,0,[],0,0⟩ (by omega) q c;refine aC (λ_=>aE (aUY (s.Plan.Arcs.length-1) s.Plan.Faces b s.Plan.Nodes (LE s.Plan.Arcs ⟨0,0,0,[],0,0⟩ q) s.Features _ _ (by omega) w (by omega) (by omega) f.fe (by omega)) λr j=>aA ?_) λ_=>aA (by exact w.le (by omega));exact (show _/\_/\_ from⟨by have:=j.1;show r.1.length<=300;omega,j.2.1.le (by omega),by rw[j.2.2.1];omega,j.2.2.2⟩)
theorem VE{n:List Aad}{a:List aP}{f:List Int}{l:List aD}(e:n.length<=300)(c:Ar a)(d:f.length<=300)(b:N6 l): lG ⟨⟨n,a,f⟩,l⟩:=⟨⟨e,c.1,d,c.2⟩,b.1,b.2⟩
theorem Ft.ok{l:List aD}(h:Ft l): N6 l:=⟨h.1,λf a=>by have:=h.2 f a;omega⟩
theorem Ar.win{l:List aP}(h:Ar l)(w:Option (Nat×Nat)): Ar (win l w):=⟨by
 cases w with
 | none=>exact h.1
 | some w=>simp only[Av.win];rw[ZK,ZX];have:=h.1;omega,λa b=>h.2 a (aG8 b)⟩
theorem aND(d:Ru)(e:M0)(s:aK)(a:FI s)(g:bG)(b:List Int): aB (λn _=>bnd2 (uK n (s.Plan.Faces,b,s.Plan.Nodes,s.Plan.Arcs,s.Features,g)) (λf=>(bnd (cH n (s.Plan.Faces,f.1,s.Plan.Arcs,s.Features,f.2)) λq=>(bnd (dZ n (s,g,s.Plan.Faces,f.1,s.Plan.Arcs,s.Features,q,g.ID)) λh=>(cnd (h != 0) (some ((aK.mk (aN.mk [] [] []) []),h)) (some ((aK.mk (aN.mk f.1 s.Plan.Arcs s.Plan.Faces) s.Features),0)))))) λi=>(bnd2 (some i) (λj=>(bnd (sN n (j.1,s.Plan.Faces,j.2,s.Plan.Arcs,s.Features,0)) λl=>(bnd (sM n (s,g,j.1,s.Plan.Faces,j.2,s.Plan.Arcs,s.Features,l,g.ID)) λm=>(cnd (m != 0) (some ((aK.mk (aN.mk [] [] []) []),m)) (some ((aK.mk (aN.mk (win j.2 (some j.1)) s.Plan.Arcs s.Plan.Faces) s.Features),0)))))) λo=>(bnd (some o) λr=>(bnd (cH n (s.Plan.Faces,r.1,s.Plan.Arcs,s.Features,0)) λq=>(bnd (dZ n (s,g,s.Plan.Faces,r.1,s.Plan.Arcs,s.Features,q,g.ID)) λt=>(cnd (t != 0) (some ((aK.mk (aN.mk [] [] []) []),t)) (some ((aK.mk (aN.mk r.1 s.Plan.Arcs s.Plan.Faces) s.Features),0))))))) ) λr=>r.2=0->FI r.1:=by
 have ok:=a.ok;have c:=a.ar.le (by have:=a.v.leA;omega);have k:s.Plan.Faces.length<=300:=by have:=a.v.leF;omega
 refine aS (aWE s a b g) (λv x=>?_) λu w=>?_
 .have o:=VE (n:=v.1) (show v.1.length<=300 from ZB x (by decide)) c k a.fs;exact uW (g:=λ_ _=>none) 0 (N0 d _ _ _ _ _ o) λr=>aJ7 e s g _ _ _ _ r g.ID ok.p o.p
 .rcases u with v | v
  .have o:=VE (n:=win v.2 (some v.1)) (show _<=300 from ZB w (by decide)) c k a.fs;exact uW (g:=λ_ _=>none) 0 (aUN d _ _ _ _ _ _ o) λr=>aUM e s g _ _ _ _ _ r g.ID ok.p o.p
  .have o:=VE (n:=v.1) (show v.1.length<=300 from ZB w (by decide)) c k a.fs;exact uW (g:=λ_ _=>none) 0 (N0 d _ _ _ _ _ o) λr=>aJ7 e s g _ _ _ _ r g.ID ok.p o.p
theorem aQU(a:Ru)(d:M0)(s:aK)(e:FI s)(g:bG)(l:U6 g): aB (λn _=>Jr n s g) λr=>r.2=0->FI r.1:=by
 have ok:=e.ok;have h:s.Plan.Nodes.length<=300:=by have:=e.v.leN;omega
 have i:=e.ar.le (by have:=e.v.leA;omega);have k:s.Plan.Faces.length<=300:=by have:=e.v.leF;omega
 refine aV (λ_=>rfl) (aE (aT8 s ok) λc m=>?_);subst m;refine aE (f:=λn _=>Ln n g.Kind) (Q:=λ_=>True) (by repeat' first|apply dY|apply aC|apply bI|intro) λ_ _=>aC (λ_=>aND a d s e g s.Plan.Faces) λ_=>aE (f:=λn _=>Gt n g.Kind) (Q:=λ_=>True) (by repeat' first|apply dY|apply aC|apply bI|intro) λ_ _=>aC (λ_=>aS (aVc a s e s.Plan.Faces g l) (λv _=>?_) λu b=>?_) λ_=>aC (λ_=>aS (aUX s e s.Plan.Faces g) (λv _=>?_) λv j=>aF rfl ?_) λ_=>aS (aUW s e s.Plan.Faces g l) (λv j=>?_) λu b=>?_
 .exact uW (g:=λ_ _=>none) 0 (N0 a _ _ _ _ _ ok) λr=>aJ7 d s g _ _ _ _ r 0 ok.p ok.p
 .rcases u with v | u
  .exact uW (g:=λ_ _=>none) 0 (N0 a _ _ _ _ _ ok) λr=>aEU d s g _ _ _ _ r ok.p ok.p
  rcases u with v | u
  .exact uW (g:=λ_ _=>none) 0 (N0 a _ _ _ _ _ ok) λr=>aEU d s g _ _ _ _ r ok.p ok.p
  rcases u with v | u
  .have o:=VE h b.2.2 b.1 b.2.1.ok;exact uW (g:=λ_ _=>none) 0 (aUI a _ _ _ _ _ o) λr=>aUH d s g _ _ _ _ r ok.p o.p
  rcases u with v | u
  .have o:=VE h b k e.fs;exact uW (g:=λ_ _=>none) 0 (N0 a _ _ _ _ _ o) λr=>aJ7 d s g _ _ _ _ r 0 ok.p o.p
  rcases u with v | u
  .have o:=VE h b.2.1 b.1 b.2.2.ok;exact uW (g:=λ_ _=>none) 0 (N0 a _ _ _ _ _ o) λr=>aEU d s g _ _ _ _ r ok.p o.p
  rcases u with v | v
  .have o:=VE h (b.2.1.win (some v.1)) b.1 b.2.2.ok;exact uW (g:=λ_ _=>none) 0 (aQd a _ _ _ _ _ _ o) λr=>aQc d s g _ _ _ _ _ r ok.p o.p
  .have o:=VE h (Ar.win b (some v.1)) k e.fs;exact uW (g:=λ_ _=>none) 0 (aQd a _ _ _ _ _ _ o) λr=>aQc d s g _ _ _ _ _ r ok.p o.p
 .exact uW (g:=λ_ _=>none) 0 (N0 a _ _ _ _ _ ok) λr=>aJ7 d s g _ _ _ _ r 0 ok.p ok.p
 .have o:=VE h (j.2.1.le (by have:=e.v.leA;omega)) (show v.1.length<=300 from ZB j.1 (by decide)) (Ft.ok ⟨by rw[j.2.2.1];have:=e.n;omega,j.2.2.2⟩);exact uW (g:=λ_ _=>none) 0 (N0 a _ _ _ _ _ o) λr=>aEU d s g _ _ _ _ r ok.p o.p
 .have o:=VE h i k j;exact uW (g:=λ_ _=>none) 0 (N0 a _ _ _ _ _ o) λr=>aJ7 d s g _ _ _ _ r 0 ok.p o.p
 .rcases u with v | v
  .have o:=VE h i k (show N6 (win v.2 (some v.1)) from b);exact uW (g:=λ_ _=>none) 0 (aUG a _ _ _ _ _ _ o) λr=>aUF d s g _ _ _ _ _ r ok.p o.p
  .have o:=VE h i k (show N6 v.1 from b);exact uW (g:=λ_ _=>none) 0 (N0 a _ _ _ _ _ o) λr=>aEU d s g _ _ _ _ r ok.p o.p
theorem aTw(c:Ru)(s:aK)(d:lG s)(g:bG)(k:Int)(j:k≠0->FI s): aB (λn _=>TN n (s,g,k)) λr=>r=0->FI s/\U6 g:=by
 refine aE (aLZ g) λf b=>aC (λh=>aC (λ_=>aE (QG c s d) λr i=>aA λa=>⟨i a,b (by simpa using h)⟩) λe=>aA λa=>⟨j (by simpa using e),b (by simpa using h)⟩) λh=>aA λa=>by rw[a] at h;simp at h
theorem aDe(b:Ru)(g:M0)(l:List bG)(q:l.length<=5000)(i:Nat)(s:aK)(o:lG s)(j:i≠0->FI s): aB (λn m=>qH Dw n m (l,ln l) (s,(i:Int))) (Su (λv=>v.2.2≠0) λr=>lG r/\(l≠[]\/i≠0->FI r)):=by
 refine bO (aZ (λx z p=>?_) λu=>aA ?_)
 .rw[bT (by omega)];refine aE (aTw b s o x (i:Int) λh=>j (by omega)) λc t=>aE (f:=λn _=>TM n (s,x,c)) (Q:=λr=>r.2=0->FI r.1) (aC (λh=>?_) λh=>aA λe=>by rw[show c=0 from e] at h;simp at h) λr a=>aC (λh=>aA (show r.2≠0 by simpa using h)) λh=>?_
  .obtain⟨w,y⟩:=t (by simpa using h);exact aE (aQU b g s w x y) λr a=>aA a
  .have k:=a (by simpa using h);refine (aDe b g l q (i+1) r.1 k.ok λ_=>k).imp λv d=>?_;rcases v with v | v
   .exact d
   .exact⟨d.1,λ_=>d.2 (.inr (by omega))⟩
 .refine⟨o,λh=>j ?_⟩;rcases h with h | h
  .intro e;have:l.length=0:=by omega
   exact h (ZM.1 this)
  .exact h
termination_by l.length-i
theorem aU8(d:Ru)(g:M0)(s:aK)(a:lG s)(l:List bG): aB (λn _=>Qd n s l) λr=>r.2.2=0->lG r.1/\(l≠[]->FI r.1):=by
 refine aV (λ_=>rfl) (aC (λ_=>aA (by simp)) λh=>aE (aO0 s a) λc f=>?_);have h:¬ln l > 4096:=Zk h;subst f;exact aS (aW (aDe d g l (by unfold ln at h;omega) 0 c a (by simp))) (λv i=>aA λe=>absurd e i) λr b=>aF rfl (aA λ_=>⟨b.1,λh=>b.2 (.inl h)⟩)
structure ArO(l:List dR)(b c:Nat): Prop where
 al:∀a∈l,a.alone.length<=c
 l1:1<=l.length
 l2:l.length<=200000
 ou:∀a∈l,a.outer.length<=800000
 inn:∀a∈l,a.inner.length<=b/\∀c∈a.inner,c.length<=800000
 ne:∀(i:Nat) (a:dR),1<=i->l[i]?=some a->a.outer≠[]
theorem aMe(p:aN)(w:Sm p)(B:Nat): ∀(cs:List (List Int)) (l:List dR) (q:List (List Int)),ArO l 0 0->l.length+cs.length<=200000->(∀c∈cs,c.length<=800000/\∃d t,c=d::t/\fU p d)->(∀c∈q,c.length<=800000/\∃d t,c=d::t/\fU p d)->
 (∀a∈l,a.inner=[]/\a.outer.length+q.flatten.length+cs.flatten.length<=B)->q.flatten.length+cs.flatten.length<=B->
 aB (λn _=>dv1 n p cs l q) λr=>ArO r.1 0 0/\r.2.length<=q.length+cs.length/\(∀c∈r.2,c.length<=800000/\∃d t,c=d::t/\fU p d)/\∀a∈r.1,a.inner=[]/\a.outer.length+r.2.flatten.length<=B
 | [],l,q,f,_,_,s,j,_=>aA (x:=(l,q)) ⟨f,by simp,s,λa b=>⟨(j a b).1,by have:=(j a b).2;simpa using this⟩⟩
 | c::cs,l,q,f,A,y,s,j,C=>by
  have u:=y c (ZP ..);have m:∀c∈cs,c.length<=800000/\∃d t,c=d::t/\fU p d:=λc h=>y c (ZU _ h);simp only[Z5] at A;simp only[Ys,Zi] at j C;obtain⟨o,d,D,k,v⟩:=u;refine aE (aJ6 p w c) λt _=>aC (λ_=>?_) λ_=>?_
  .refine aB.imp (aMe p w B cs (l++[⟨t,c,[],[]⟩]) q ⟨?_,by simp,by simp;omega,?_,?_,?_⟩ (by simp;omega) m s ?_ (by omega)) ?_
   .intro a b;rcases ZD.1 b with b | b
    .exact f.al a b
    .rw[ZJ.1 b];exact Zg _
   .intro a b;rcases ZD.1 b with b | b
    .exact f.ou a b
    .rw[ZJ.1 b];exact o
   .intro a b;rcases ZD.1 b with b | b
    .exact f.inn a b
    .rw[ZJ.1 b];exact⟨Zg _,λc h=>by cases h⟩
   .intro i a z b;rcases ZL i l.length with h | h
    .rw[Zp h] at b;exact f.ne i a z b
    .rw[ZY h] at b;have:a=⟨t,c,[],[]⟩:=by
      have:=Zf b;exact ZJ.1 this
     rw[this,k];simp
   .intro a b;rcases ZD.1 b with b | b
    .have:=j a b;exact⟨this.1,by omega⟩
    .rw[ZJ.1 b];exact⟨rfl,by show c.length+_+_<=B;omega⟩
   .intro r g;exact⟨g.1,by have:=g.2.1;simp only[Z5];omega,g.2.2⟩
  .refine aB.imp (aMe p w B cs l (q++[c]) f (by omega) m ?_ ?_ ?_) ?_
   .intro e he;rcases ZD.1 he with he | he
    .exact s e he
    .rw[ZJ.1 he];exact⟨o,d,D,k,v⟩
   .intro a b;have:=j a b;exact⟨this.1,by simp only[XD,Zi,Ys,Xg,Z2];omega⟩
   .simp only[XD,Zi,Ys,Xg,Z2];omega
   .intro r g;exact⟨g.1,by have:=g.2.1;simp only[Z5,Zi,Z2] at this |-;omega,g.2.2⟩
theorem aIj{l:List dR}{b c:Nat}(h:ArO l b c): ∀x∈l.map arV,x.outer.length<=800000:=by
 intro x d;obtain⟨a,e,rfl⟩:=Yb.1 d;exact h.ou a e
theorem aCU{α:Type}{l:List α}{i:Nat}{a' x:α}(a:x∈l.set i a'): x=a'\/x∈l:=(YL a).symm
theorem ArO.set{l:List dR}{b b' c c':Nat}{i:Nat}{a a':dR}(h:ArO l b c)(m:l[i]?=some a)(g:a'.outer=a.outer)(n:b<=b')(p:a'.inner.length<=b'/\∀c∈a'.inner,c.length<=800000)(o:c<=c')(f:a'.alone.length<=c'): ArO (l.set i a') b' c':=by
 refine⟨?_,by rw[Yq];exact h.l1,by rw[Yq];exact h.l2,?_,?_,?_⟩
 .intro x d;rcases aCU d with rfl | d
  .exact f
  .exact ZB (h.al x d) o
 .intro x d;rcases aCU d with rfl | d
  .rw[g];exact h.ou a (Zf m)
  .exact h.ou x d
 .intro x d;rcases aCU d with rfl | d
  .exact p
  .exact⟨ZB (h.inn x d).1 n,(h.inn x d).2⟩
 .intro j x k d;rw[Z8] at d;split at d
  .rename_i e;subst e;split at d
   .cases d;rw[g];exact h.ne i a k m
   .cases d
  .exact h.ne j x k d
theorem aPU(p:aN)(F:Sm p)(y:tN p)(m:List (Int×List Aaa))(o:MG p m)(B:Nat): ∀(cs:List (List Int)) (l:List dR) (b:Nat),ArO l b 0->(∀c∈cs,c.length<=800000/\∃d t,c=d::t/\fU p d)->(∀a∈l,a.outer.length+a.inner.flatten.length+cs.flatten.length<=B)->
 aB (λn _=>dv2 n m cs l) λr=>ArO r (b+cs.length) 0/\∀a∈r,a.outer.length+a.inner.flatten.length<=B
 | [],l,b,g,_,j=>aA ⟨g,λa k=>by have:=j a k;simpa using this⟩
 | c::cs,l,b,g,u,j=>by
  obtain⟨q,d,z,rfl,a,k,I⟩:=u c (ZP ..);have E:=y.nuA a k;have G:nF d (wr (0-d))=a.ID:=by
   rw[wr,i64_in _ (by omega)];unfold nF;split<;>omega
  obtain⟨w,A,C⟩:=o.has a k;refine aF (x:=d) rfl (aF (x:=w[0]'(by omega)) (by rw[G,A];show idx w ((0:Nat):Int)=_;rw[bK];exact Za (by omega)) (aE (aHM m o.len (l.map arV) (aIj g) (by simp;have:=g.l2;omega) (by simp;have:=g.l1;omega) _) λi v=>?_));have f:i.toNat<l.length:=by simpa using v.2
  refine aF (xU v.1 f) ?_;simp only[Ys,Zi,Z5] at j;have H:=aPU p F y m o B cs (l.set i.toNat ⟨l[i.toNat].twice,l[i.toNat].outer,l[i.toNat].inner++[d::z],l[i.toNat].alone⟩) (b+1) (g.set (Za f) rfl (by omega) (by
   have:=g.inn _ (ZS f);refine⟨by simp;omega,λc e=>?_⟩;rcases ZD.1 e with e | e
   .exact this.2 c e
   .rw[ZJ.1 e];exact q) (Zg _) (g.al l[i.toNat] (ZS f))) (λc h=>u c (ZU _ h)) (λx s=>by
    rcases aCU s with rfl | s
    .have:=j _ (ZS f);simp only[XD,Zi,Ys,Xg,Z2,Z5];omega
    .have:=j x s;omega)
  refine H.imp λr D=>?_;have:b+((d::z)::cs).length=b+1+cs.length:=by simp;omega
  rw[this];exact D
theorem aMd(p:aN)(k:Sm p)(m:List (Int×List Aaa))(q:MG p m)(b B:Nat): ∀(h:List Aad) (l:List dR) (c:Nat),ArO l b c->(∀a∈l,a.outer.length+a.inner.flatten.length<=B)->aB (λn _=>dv3 n p m h l) λr=>ArO r b (c+h.length)/\∀a∈r,a.outer.length+a.inner.flatten.length<=B
 | [],l,c,f,j=>aA ⟨f,j⟩
 | x::h,l,c,f,j=>by
  have e:c+(x::h).length=c+1+h.length:=by simp;omega
  rw[e];refine aE (aAJ p k x.ID) λd _=>aC (λ_=>aE (aHM m q.len (l.map arV) (aIj f) (by simp;have:=f.l2;omega) (by simp;have:=f.l1;omega) _) λi s=>?_) λ_=>aMd p k m q b B h l (c+1) ⟨λa t=>Xu (f.al a t),f.l1,f.l2,f.ou,f.inn,f.ne⟩ j;have g:i.toNat<l.length:=by simpa using s.2
  exact aF (xU s.1 g) (aMd p k m q b B h _ (c+1) (f.set (Za g) rfl (Zg _) (f.inn l[i.toNat] (ZS g)) (Yr _) (by have:=f.al l[i.toNat] (ZS g);simp;omega)) λx o=>by
   rcases aCU o with rfl | o
   .exact j l[i.toNat] (ZS g)
   .exact j x o)
theorem aM5{α:Type}{P:α->Prop}{c:Nat->Bool}{g:Nat->Nat->Option α}(K:Nat)(b:∀n,K<=n->c n=true)(h:aB g P): aB (λn m=>Av.bnd (Lb (c n)) (λ_=>g n m)) P:=by
 obtain⟨r,a,J,d⟩:=h;refine⟨r,a,max K J,λn m f i=>?_⟩;show Av.bnd (Lb (c n)) (λ_=>g n m)=some r;rw[b n (by omega)];exact d n m (by omega) (by omega)
theorem aUt: Ru:=by
 intro p cs m g t j o;have v:=g.n;have u:=j.1;refine aV (λ_=>rfl) (aM5 (c:=λn=>decide (cs.length<n/\p.Nodes.length<n/\cs.length<=190000/\p.Nodes.length<=9000)) 200000 (λn h=>Yi (by omega)) ?_);refine aE (aMe p g 400000 cs [⟨0,[],[],[]⟩] [] ⟨by simp,by simp,by simp,by simp,by simp,?_⟩ (by simp;omega) j.2.2 (by simp) (by simpa using j.2.1) (by simpa using j.2.1)) λq f=>aE (aPU p g t m o 400000 q.2 q.1 0 f.1 f.2.2.1 λa d=>by rw[(f.2.2.2 a d).1];have:=(f.2.2.2 a d).2;simpa using this) λl b=>?_
 .intro i a w d;have:=(Ze.1 d).1;simp at this;omega
 .have k:=f.2.1;simp only[Z2,ZZ] at k;obtain⟨b,s⟩:=b;refine aB.imp (aMd p g m o 200000 400000 p.Nodes l 0 ⟨b.al,b.l1,b.l2,b.ou,λa d=>⟨by have:=(b.inn a d).1;omega,(b.inn a d).2⟩,b.ne⟩ s) λr e=>⟨λa d=>by have:=e.1.al a d;omega,e.2,e.1.l1,e.1.l2,e.1.ou,e.1.inn,e.1.ne⟩
theorem aHJ(g:dW)(l:List Int)(b:l.length<=300)(i:Nat)(m:List (Int×Int)): Tt (λn k=>kV uL n k (g,l,ln l) (m,(i:Int))):=
 bS (aZ (λx d a=>by
  rw[bT (by omega)];exact aHJ g l b (i+1) _)
  (λc=>aA trivial))
termination_by l.length-i
theorem aHK(l:List dW)(d:l.length<=200000)(a:∀x∈l,x.Alone.length<=300)(i:Nat)(m:List (Int×Int)): Tt (λn k=>kV uM n k (l,ln l) (m,(i:Int))):=
 bS (aZ (λx c b=>by
  rw[bT (by omega)];exact aE (aW (aHJ x x.Alone (a x (Zf c)) 0 m)) λ_ _=>aHK l d a (i+1) _)
  (λe=>aA trivial))
termination_by l.length-i
theorem aHI(p:aN)(c:Sm p): Tt (λn _=>nY n p):=by
 obtain⟨v,e,_,a,_⟩:=SB aUt p c;exact aV (λ_=>rfl) (aE e λw b=>by
  subst b;exact aE (aW (aHK w.1 a.1 (λx d=>(a.2 x d).2.2) 0 [])) λ_ _=>aA trivial)
theorem aVP: M0:=λp q x b a=>aV (λ_=>rfl) (aE (aHI p b) λ_ _=>aE (aHI q a) λ_ _=>aA trivial)
def aMB(e:bG): Prop:=e.Via.length<=100000/\e.Parts.length<=100000
def FG(t:dJ): Prop:=t.Edits.length<=100000/\∀e∈t.Edits,aMB e
theorem aQz(t:dJ): aB (λn _=>ND n t) λr=>r=0->aW9 t:=by
 refine aV (λ_=>rfl) (aE (f:=λn _=>HD n t) (Q:=λ_=>True) (by repeat' first | exact aA trivial | refine aC (λ_=>?_) (λ_=>?_)) λ_ _=>aC (λ_=>aA (by simp)) λ_=>?_);refine aS (f:=λn _=>HC n t) (Q:=λ_=>True) (R:=λr=>r≠0) (aC (λ_=>aA trivial) λ_=>aE (aLh t.Source) λd _=>aC (λh=>aA (show d≠0 by simpa using h)) λ_=>aA trivial) (λ_ _=>?_) λr g=>aF rfl (aA λh=>absurd h g);refine aE (f:=λn _=>HB n t) (Q:=λr=>r=false->t.Edits.length<=64) (aC (λ_=>aA (by simp)) λ_=>aC (λ_=>aA (by simp)) λh=>aA λ_=>by
  have h:¬ln t.Edits > 64:=Zk h;unfold ln at h;omega) λc e=>aC (λ_=>aA (by simp)) λh=>?_
 have a:=e h;refine aS (aW (aTc t.Edits a 0 .nil)) (λv b=>aA λh=>absurd h b) λ_ i=>aF rfl (aA λ_=>⟨a,i⟩)
theorem aLJ(x:Int×Int×Int×ByteArray)(b:List bG)(k:b.length<=100000)(g:∀e∈b,aMB e)(i:Nat)(l:List bG)(h:l=b): aB (λn m=>kV wR n m (x.1,x.2.1,x.2.2.1,x.2.2.2,ln b) (l,(i:Int))) λr=>r=b:=by
 subst h;refine bS (aC (λa=>?_) λo=>aA rfl);have a:(i:Int)<ln l:=Zh a;have a:i<l.length:=by unfold ln at a;omega
 have d:fV l l.length (i:Int)=some l[i]:=by rw[hU a];exact Za a
 have e2:idx l (i:Int)=some l[i]:=by rw[bK];exact Za a
 have j:=g _ (ZS a);have es:l.set (Int.toNat (i:Int)) l[i]=l:=by rw[YA];simp
 refine aF d (aF e2 (aE (aE2 l[i].Via (by have:=j.1;omega)) λv c=>?_));subst c;refine aF d (aF e2 (aE (aE2 l[i].Parts (by have:=j.2;omega)) λv c=>?_));subst c;have f:l.set (Int.toNat (i:Int)) (bG.mk l[i].Kind l[i].ID l[i].A l[i].B l[i].C l[i].At l[i].Via l[i].Name l[i].Parts)=l:=es;simp only[f];refine aF d (aF e2 ?_);simp only[f];rw[bT (by omega)];exact aLJ x l k g (i+1) l rfl
termination_by b.length-i
theorem aDZ(t:dJ)(h:FG t): aB (λn _=>Rw n t) λr=>r=t:=by
 obtain⟨o,s,u,z,l⟩:=t;obtain⟨a,c⟩:=h;refine aV (λ_=>rfl) (aX (aC (λb=>?_) λ_=>?_))
 .have:l=[]:=by simpa using b
  subst this;exact aE (Q:=λ_=>True) (FH (f:=λn=>FQ n () ()) (aW (f:=λn m=>kV wS n m () ()) (bS (aA trivial)))) λ_ _=>aA rfl
 .exact aF (Qz (l:=[]) (m:=l) (by show 0+l.length<=_;have:l.length<=100000:=a;omega)) (aE (Q:=λr=>r=l) (FH (f:=λn=>FP n (o,s,u,z,ln l) (l,0)) (aW (aLJ (o,s,u,z) l a c 0 l rfl))) λr d=>aA (by rw[d]))
theorem aGq(t:dJ)(l:List dJ)(a:l.length<=256)(i:Nat)(k:Int): Sx (λn m=>qH uB n m (t,[],l,ln l) (k,(i:Int))):=
 bO (aZ (λx d b=>by
  rw[bT (by omega)];exact aC (λ_=>aGq t l a (i+1) _) λ_=>aC (λ_=>aA trivial) λ_=>aGq t l a (i+1) _) (λc=>aA trivial))
termination_by l.length-i
theorem aMq(x:List Aad×List aP×List Int×List aD)(l:List dJ)(g:l.length<=256)(c:∀t∈l,FG t)(i:Nat)(r:List dJ)(a:r=l.take i): aB (λn m=>kV uA n m (x.1,x.2.1,x.2.2.1,x.2.2.2,l,ln l) (r,(i:Int))) λr=>r=l:=
 bS (aZ (λt d e=>aE (aDZ t (c t (Zf d))) λu f=>aF (Dc (by rw[a];simp;omega)) (by
  rw[bT (by omega)];exact aMq x l g c (i+1) _ (by rw[a,f,YR,d];simp))) (λb=>aA (by rw[a,ZC b])))
termination_by l.length-i
def eS: aK:=⟨⟨[],[],[]⟩,[]⟩
def eR: cN:=⟨eS,[]⟩
theorem aME(a:cN)(t:dJ)(l:lG a.Survey)(m:∀t∈a.Txns,FG t)(k:FG t): ∃s:aK×Int×Int,aB (λn _=>Qd n a.Survey t.Edits) (λr=>r=s) /\
 aB (λn _=>iK n a t) λr=>(r.2≠0->r.1=eR)/\(r.2=0->s.2.2=0/\r.1=⟨s.1,a.Txns++[t]⟩/\lG s.1/\a.Txns.length<256):=by
 obtain⟨s,e,d⟩:=(aU8 aUt aVP a.Survey l t.Edits).val;refine⟨s,d,aV (λ_=>rfl) (aE (aQz t) λc p=>aC (λh=>aA ⟨λ_=>rfl,λf=>by rw[show c=0 from f] at h;simp at h⟩) λ_=>aC (λ_=>aA ⟨λ_=>rfl,by simp⟩) λh=>?_)⟩;have h:¬ln a.Txns>=256:=Zk h;have h:a.Txns.length<256:=by unfold ln at h;omega
 refine aS (aW (aGq t a.Txns (by omega) 0 0)) (λ_ _=>aA ⟨λ_=>rfl,by simp⟩) λ_ _=>aF rfl (aC (λ_=>aA ⟨λ_=>rfl,by simp⟩) λ_=>aE d λg j=>?_);subst j;refine aC (λb=>aA ⟨λ_=>rfl,λf=>by rw[show g.2.2=0 from f] at b;simp at b⟩) λb=>?_;have b:g.2.2=0:=by simpa using b
 exact aE (aW (aMq (g.1.Plan.Nodes,g.1.Plan.Arcs,g.1.Plan.Faces,g.1.Features) a.Txns (by omega) m 0 [] rfl)) λr i=>aE (aDZ t k) λu o=>by
  subst i;subst o;exact aF (Dc (by omega)) (aA ⟨λh=>absurd rfl h,λ_=>⟨b,rfl,(e b).1,h⟩⟩)
section
variable {α β γ:Type}
theorem Rq{a b:List α}{i:Nat}{P:β->Prop}{f:Nat->Nat->α->α->Option β}{e:Nat->Nat->Option β}(j:a.length=b.length)(h:∀x y,a[i]?=some x->b[i]?=some y->i<a.length->aB (λn m=>f n m x y) P)(d:a.length<=i->aB e P):
 aB (λn m=>Av.cnd (decide ((i:Int)<((a.length:Nat):Int))) (Av.bnd (idx a (i:Int)) λx=>Av.bnd (idx b (i:Int)) λy=>f n m x y) (e n m)) P:=
 aZ (λx g c=>aF (x:=b[i]'(by omega)) (by rw[bK];exact Za (by omega)) (h x _ g (Za (by omega)) c)) d
theorem aJV{a b:List α}{i:Nat}{x y:α}(d:a.take i=b.take i)(f:a[i]?=some x)(c:b[i]?=some y)(e:x=y): a.take (i+1)=b.take (i+1):=by
 rw[YR,YR,d,f,c,e]
theorem aJW{a b:List α}{i:Nat}{x y:α}(d:a[i]?=some x)(c:b[i]?=some y)(e:x≠y): a≠b:=λh=>by
 subst h;rw[d] at c;exact e (ZE c)
theorem aJX{a b:List α}{i:Nat}(d:a.length=b.length)(c:a.take i=b.take i)(h:a.length<=i): a=b:=by
 rw[ZC h,ZC (by omega)] at c;exact c
abbrev Q2(a b:List α): (β⊕γ)->Prop:=Su (λ_=>a≠b) λ_=>a=b
theorem eqW{a b:List α}{f:Nat->Nat->Option (Unit⊕Unit)}(h:a.length=b.length->aB f (Q2 a b)): aB (λn m=>Av.cnd (ln a != ln b) (some false) (Av.bnd2 (f n m) (λ_=>some false) λc=>Av.bnd (some c) λ_=>some true)) λr=>r=true↔a=b:=
 aC (λh=>aA ⟨by simp,λe=>by subst e;simp at h⟩) λd=>aS (h (aBB d)) (λ_ h=>aA ⟨by simp,λe=>absurd e h⟩) λ_ h=>aF rfl (aA ⟨λ_=>h,λ_=>rfl⟩)
abbrev Iq{α:Type}(f:Nat->Nat->Option Bool)(a b:α): Prop:=aB f λr=>r=true↔a=b
theorem Iq.ret{P:α->Prop}{x:α}(h:P x): aB (λ_ _=>some x) P:=aA h
end
theorem aKt(a b:List Int)(d:a.length=b.length)(k:a.length<=100000)(i:Nat)(g:a.take i=b.take i): aB (λn m=>qH gA n m (a,b,ln a) (i:Int)) (Q2 a b):=
 bO (Rq d (λx y e f j=>aC (λh=>aA (aJW e f (by simpa using h))) λh=>by
  rw[bT (by omega)];exact aKt a b d k (i+1) (aJV g e f (by simpa using h))) λc=>aA (aJX d g c))
termination_by a.length-i
theorem aKs(a b:List Int)(c:a.length<=100000): Iq (λn _=>eN n a b) a b:=aV (λ_=>rfl) (eqW λd=>aW (aKt a b d c 0 rfl))
theorem aKq(a b:List Aaa)(d:a.length=b.length)(k:a.length<=100000)(i:Nat)(g:a.take i=b.take i): aB (λn m=>qH gW n m (a,b,ln a) (i:Int)) (Q2 a b):=
 bO (Rq d (λx y e f j=>aC (λh=>by
  rw[bT (by omega)];exact aKq a b d k (i+1) (aJV g e f (Zh h))) λh=>aA (aJW e f (Zk h))) λc=>aA (aJX d g c))
termination_by a.length-i
theorem aKp(a b:List Aaa)(c:a.length<=100000): Iq (λn _=>fP n a b) a b:=aV (λ_=>rfl) (eqW λd=>aW (aKq a b d c 0 rfl))
theorem aKr(a b:List Aad)(d:a.length=b.length)(k:a.length<=100000)(i:Nat)(g:a.take i=b.take i): aB (λn m=>qH iL n m (a,b,ln a) (i:Int)) (Q2 a b):=
 bO (Rq d (λx y e f j=>aC (λh=>by
  rw[bT (by omega)];exact aKr a b d k (i+1) (aJV g e f (Zh h))) λh=>aA (aJW e f (Zk h))) λc=>aA (aJX d g c))
termination_by a.length-i
theorem aTg(a b:List Aad)(c:a.length<=100000): Iq (λn _=>oU n a b) a b:=aV (λ_=>rfl) (eqW λd=>aW (aKr a b d c 0 rfl))
theorem Iq.and{α:Type}{a b:α}{p:Prop}{x:Nat->Nat->Option Bool}{c:Bool}(d:c=true↔p)(f:a=b->p)(h:p->Iq x a b): Iq (λn m=>cnd c (x n m) (some false)) a b:=
 aC (λe=>h (d.1 e)) λe=>aA ⟨by simp,λh=>by rw[d.2 (f h)] at e;cases e⟩
theorem Iq.end_{α β:Type}{a b:α}{u v:β}{f:Nat->Nat->Option Bool}(g:Iq f u v)(h:u=v↔a=b): Iq (λn m=>bnd (f n m) λd=>cnd d (some true) (some false)) a b:=
 aE g λr c=>aC (λe=>aA ⟨λ_=>h.1 (c.1 e),λ_=>rfl⟩) λe=>aA ⟨by simp,λk=>by rw[c.2 (h.2 k)] at e;cases e⟩
theorem Iq.bb{α:Type}{a b:α}{f:Nat->Nat->Option Bool}(c:Iq f a b): Iq (λn m=>bnd (f n m) λd=>cnd d (some true) (some false)) a b:=Iq.end_ c Iff.rfl
theorem aPa{a b:aP}(e:a.ID=b.ID)(f:a.From=b.From)(i:a.To=b.To)(g:a.Left=b.Left)(d:a.Right=b.Right): a.Via=b.Via↔a=b:=by
 constructor
 .intro h;cases a;cases b;simp_all
 .rintro rfl;rfl
theorem aW6(a b:aP){f:Nat->Nat->Option Bool}(h:Iq f a.Via b.Via): Iq (λn m=>(cnd (a.ID==b.ID) (cnd (a.From==b.From) (cnd (a.To==b.To) (cnd (a.Left==b.Left) (cnd (a.Right==b.Right) (bnd (f n m) λd=>(cnd (d) (some true) (some false))) (some false)) (some false)) (some false)) (some false)) (some false))) a b:=
 Iq.and ZI (congrArg _) λj=>Iq.and ZI (congrArg _) λg=>Iq.and ZI (congrArg _) λi=>Iq.and ZI (congrArg _) λc=>Iq.and ZI (congrArg _) λe=>Iq.end_ h (aPa j g i c e)
theorem aLP{a b:aD}(d:a.ID=b.ID)(e:a.Kind=b.Kind)(g:a.Class=b.Class)(f:a.Name=b.Name): a.Parts=b.Parts↔a=b:=by
 constructor
 .intro h;cases a;cases b;simp_all
 .rintro rfl;rfl
theorem aUc(a b:aD){f:Nat->Nat->Option Bool}(g:Iq f a.Parts b.Parts): Iq (λn m=>(cnd (a.ID==b.ID) (cnd (a.Kind==b.Kind) (cnd (a.Class==b.Class) (cd (a.Name=b.Name) (bnd (f n m) λd=>(cnd (d) (some true) (some false))) (some false)) (some false)) (some false)) (some false))) a b:=
 Iq.and ZI (congrArg _) λi=>Iq.and ZI (congrArg _) λe=>Iq.and ZI (congrArg _) λh=>Iq.and decide_eq_true_iff (congrArg _) λc=>Iq.end_ g (aLP i e h c)
theorem aT2(a b:aP)(h:a.Via.length<=100000): Iq (λn _=>uF n (a,b)) a b:=aW6 a b (aKp a.Via b.Via h)
theorem aUa(a b:aD)(h:a.Parts.length<=100000): Iq (λn _=>nK n (a,b)) a b:=aUc a b (aKs a.Parts b.Parts h)
section
variable {α:Type}{a b:List α}
end
section
variable (a b:aN)(ha:Sm a)
include ha
end
section
variable (a b:aK)(ha:lG a)
include ha
end
theorem aT3(a b:List aP)(q:a.length<=300)(o:∀x∈a,x.Via.length<=300)(c:a.length=b.length)(i:Nat)(j:a.take i=b.take i): aB (λn m=>qH xN n m (b,a,ln a) (i:Int)) (Su (λ_=>a≠b) λ_=>a=b):=
 bO (Rq c (λx y d k p=>aE (f:=λn _=>IM n (x,y)) (Q:=λr=>r=true↔x=y) (aX (Iq.bb (aT2 x y (by have:=o x (Zf d);omega)))) λr l=>aC (λh=>by
  rw[bT (by omega)];exact aT3 a b q o c (i+1) (aJV j d k (l.1 h))) λh=>aA (aJW d k λe=>by rw[l.2 e] at h;cases h)) λg=>aA (aJX c j g))
termination_by a.length-i
theorem aVZ(a b:List aP)(d:a.length<=300)(c:∀x∈a,x.Via.length<=300): aB (λn _=>IP n (a,b)) (Su (λr=>r=true↔a=b) λ_=>a≠b):=by
 refine aX (aC (λh=>aA (show (false=true↔a=b) from⟨by simp,λe=>by subst e;simp at h⟩)) λf=>?_);refine aS (aW (aT3 a b d c (aBB f) 0 rfl)) (λ_ h=>?_) λ_ h=>?_
 .exact aA (show a≠b from h)
 .exact aF rfl (aA (show (true=true↔a=b) from⟨λ_=>h,λ_=>rfl⟩))
theorem aVY(a b:aN)(i:Sm a): Iq (λn _=>OV n a b) a b:=by
 have g:∀{p:Prop},(a=b->p)->¬p->aB (λ_ _=>some false) (λr=>r=true↔a=b):=λh l=>aA ⟨by simp,λe=>absurd (h e) l⟩;refine aV (λ_=>rfl) (aE (aTg a.Nodes b.Nodes (by have:=i.n;omega)) λc k=>aC (λm=>?_) λh=>g (congrArg _) λe=>by rw[k.2 e] at h;cases h);refine aS (aVZ a.Arcs b.Arcs i.a i.v) (λd j=>aC (λo=>?_) λh=>g (congrArg _) λe=>by rw[j.2 e] at h;cases h) λ_ h=>aF rfl (g (congrArg _) h);exact Iq.end_ (aKs a.Faces b.Faces (by have:=i.f;omega)) ⟨λq=>by have:=k.1 m;have:=j.1 o;cases a;cases b;simp_all,λe=>by rw[e]⟩
theorem aUb(a b:List aD)(q:a.length<=1000)(o:∀x∈a,x.Parts.length<=1000)(c:a.length=b.length)(i:Nat)(j:a.take i=b.take i): aB (λn m=>qH pS n m (b,a,ln a) (i:Int)) (Su (λ_=>a≠b) λ_=>a=b):=
 bO (Rq c (λx y d k p=>aE (f:=λn _=>Lg n (x,y)) (Q:=λr=>r=true↔x=y) (aX (Iq.bb (aUa x y (by have:=o x (Zf d);omega)))) λr l=>aC (λh=>by
  rw[bT (by omega)];exact aUb a b q o c (i+1) (aJV j d k (l.1 h))) λh=>aA (aJW d k λe=>by rw[l.2 e] at h;cases h)) λg=>aA (aJX c j g))
termination_by a.length-i
theorem aWo(a b:List aD)(d:a.length<=1000)(c:∀x∈a,x.Parts.length<=1000): aB (λn _=>Lh n (a,b)) (Su (λr=>r=true↔a=b) λ_=>a≠b):=by
 refine aX (aC (λh=>aA (show (false=true↔a=b) from⟨by simp,λe=>by subst e;simp at h⟩)) λf=>?_);refine aS (aW (aUb a b d c (aBB f) 0 rfl)) (λ_ h=>?_) λ_ h=>?_
 .exact aA (show a≠b from h)
 .exact aF rfl (aA (show (true=true↔a=b) from⟨λ_=>h,λ_=>rfl⟩))
theorem aOz(a b:aK)(i:lG a): Iq (λn _=>Jp n a b) a b:=by
 have g:∀{p:Prop},(a=b->p)->¬p->aB (λ_ _=>some false) (λr=>r=true↔a=b):=λh l=>aA ⟨by simp,λe=>absurd (h e) l⟩;refine aV (λ_=>rfl) (aE (aVY a.Plan b.Plan i.p) λc k=>aC (λo=>?_) λh=>g (congrArg _) λe=>by rw[k.2 e] at h;cases h);exact aS (aWo a.Features b.Features i.n i.f) (λd j=>aC (λm=>aA ⟨λ_=>by have:=k.1 o;have:=j.1 m;cases a;cases b;simp_all,λ_=>rfl⟩) λh=>g (congrArg _) λe=>by rw[j.2 e] at h;cases h) λ_ h=>aF rfl (g (congrArg _) h)
def CmV(a:cN)(t:dJ)(v:cN×Int): Prop:=aB (λn _=>iK n a t) λr=>r=v
theorem CmV.uniq{a:cN}{t:dJ}{v w:cN×Int}(h:CmV a t v)(k:CmV a t w): v=w:=aB.uniq (r:=v) (P:=λx=>x=w) h k
inductive Rp: List dJ->cN->cN×Int->Prop
 | nil (p):Rp [] p (p,0)
 | err (t l p v):CmV p t v->v.2≠0->Rp (t::l) p v
 | ok (t l p v r):CmV p t v->v.2=0->Rp l v.1 r->Rp (t::l) p r
theorem Rp.uniq{l:List dJ}{p:cN}{v w:cN×Int}(h:Rp l p v)(k:Rp l p w): v=w:=by
 induction h with
 | nil p=>cases k;rfl
 | err t l p v d e=>
  cases k with
  | err _ _ _ _ a b=>exact d.uniq a
  | ok _ _ _ u _ a b _=>rw[d.uniq a] at e;exact absurd b e
 | ok t l p v r d e i g=>
  cases k with
  | err _ _ _ _ a b=>rw[<-d.uniq a] at b;exact absurd e b
  | ok _ _ _ u _ a b f=>rw[<-d.uniq a] at f;exact g f
structure SA(a:cN): Prop where
 s:lG a.Survey
 t:∀t∈a.Txns,FG t
theorem aEZ(a:cN)(t:dJ)(c:SA a)(f:FG t): ∃s:aK×Int×Int,∃v,aB (λn _=>Qd n a.Survey t.Edits) (λr=>r=s)/\CmV a t v/\(v.2≠0->v.1=eR)/\(v.2=0->s.2.2=0/\v.1=⟨s.1,a.Txns++[t]⟩/\SA v.1/\a.Txns.length<256):=by
 obtain⟨s,i,g⟩:=aME a t c.s c.t f;obtain⟨v,e,l⟩:=g.val;refine⟨s,v,i,l,e.1,λh=>?_⟩;obtain⟨k,d,j,m⟩:=e.2 h;refine⟨k,d,?_,m⟩;rw[d];refine⟨j,λu b=>?_⟩;rcases ZD.1 b with b | b
 .exact c.t u b
 .rw[ZJ.1 b];exact f
theorem aK5(e:List dJ)(D:e.length<=100000)(y:∀t∈e,FG t): ∀(a:List dJ) (i:Nat) (p:cN),e.drop i=a->SA p->∃v,Rp a p v/\(v.2=0->SA v.1/\v.1.Txns=p.Txns++a)/\aB (λn m=>qH tS n m (e,ln e) (p.Survey.Plan.Nodes,p.Survey.Plan.Arcs,p.Survey.Plan.Faces,p.Survey.Features,p.Txns,(i:Int))) (Su (λw=>v.2≠0/\w.2.2=v.2) λw=>v.2=0/\v.1=⟨⟨⟨w.1,w.2.1,w.2.2.1⟩,w.2.2.2.1⟩,w.2.2.2.2⟩)
 | [],i,p,o,k=>⟨(p,0),.nil p,λ_=>⟨k,by simp⟩,bO (aZ (λx d g=>by
  have:=congrArg List.length o;rw[ZX,Z2] at this;omega) λ_=>aA ⟨rfl,rfl⟩)⟩
 | t::a,i,p,o,k=>by
  obtain⟨q,A,G⟩:=Hi o;obtain⟨s,v,_,j,H,B⟩:=aEZ p t k (y t (Zf q));by_cases c:v.2=0
  .obtain⟨_,F,E,_⟩:=B c;obtain⟨w,z,u,C⟩:=aK5 e D y a (i+1) v.1 A E;refine⟨w,.ok _ _ _ v _ j c z,λh=>⟨(u h).1,?_⟩,bO (aZ (λx d g=>?_) λh=>by omega)⟩
   .rw[(u h).2,F];simp
   .rw[q] at d;cases d;refine aE j λr l=>?_;subst l;refine aC (λb=>by rw[c] at b;simp at b) λ_=>?_;rw[bT (by omega)];exact C
  .refine⟨v,.err _ _ _ v j c,λh=>absurd h c,bO (aZ (λx d g=>?_) λh=>by omega)⟩;rw[q] at d;cases d;refine aE j λr l=>?_;subst l;exact aC (λ_=>aA ⟨c,rfl⟩) λb=>absurd (by simpa using b) c
theorem aPS: SA eR:=⟨⟨⟨by simp[eR,eS],by simp[eR,eS],by simp[eR,eS],by simp[eR,eS]⟩,by simp[eR,eS],by simp[eR,eS]⟩,by simp[eR]⟩
theorem aM7(l:List dJ)(e:l.length<=100000)(c:∀t∈l,FG t): ∃v,Rp l eR v/\(v.2=0->SA v.1/\v.1.Txns=l)/\aB (λn _=>Ih n l) λr=>r.2.2=v.2/\(v.2=0->r.1=v.1):=by
 obtain⟨v,f,b,d⟩:=aK5 l e c l 0 eR rfl aPS;refine⟨v,f,b,aV (λ_=>rfl) (aS (aW d) (λw a=>aA ⟨a.2,λh=>absurd h a.1⟩) λw a=>aF rfl (aA ⟨a.1.symm,λ_=>a.2.symm⟩))⟩
def VlP(a:cN): Prop:=∃v,Rp a.Txns eR v/\v.2=0/\v.1.Survey=a.Survey
theorem aPe(a:cN)(z:a.Txns.length<=100000)(y:∀t∈a.Txns,FG t): aB (λn _=>Ee n a) λr=>r=true↔VlP a:=by
 obtain⟨v,j,u,x⟩:=aM7 a.Txns z y;refine aV (λ_=>rfl) (aE x λb i=>aE (f:=λn _=>FW n (a,b.1,b.2.2)) (Q:=λr=>r=true↔VlP a) (aC (λh=>?_) λh=>aA ⟨by simp,λ⟨w,l,g,_⟩=>?_⟩) λc q=>aC (λe=>aA ⟨λ_=>q.1 e,λ_=>rfl⟩) λe=>aA ⟨by simp,λk=>by rw[q.2 k] at e;cases e⟩)
 .have m:v.2=0:=by rw[<-i.1];simpa using h
  have e:=i.2 m;refine aE (aOz b.1.Survey a.Survey (by rw[e];exact (u m).1.s)) λd p=>aC (λk=>aA ⟨λ_=>⟨v,j,m,by rw[<-e];exact p.1 k⟩,λ_=>rfl⟩) λk=>aA ⟨by simp,λ⟨w,l,g,o⟩=>?_⟩;rw[l.uniq j,<-e] at o;rw[p.2 o] at k;cases k
 .rw[l.uniq j,<-i.1] at g;have:b.2.2≠0:=by simpa using h
  exact absurd g this
def Wd(p:aN): Prop:=∀a∈p.Arcs,a.Via.length<=140737488355328
theorem aMv(l:List Aaa)(g:l.length<=1000)(i:Nat)(a b c d:Int): Tt (λn m=>kV uR n m l (a,b,c,d,(i:Int))):=by
 refine bS (aC (λf=>?_) λ_=>aA trivial);have f:(i:Int)<ln l:=Zh f;have f:i<l.length:=by unfold ln at f;omega
 have e:idx l (i:Int)=some l[i]:=by rw[bK];exact Za f
 refine aF e (aF e (aF e (aF e ?_)));rw[bT (by omega)];exact aMv l g (i+1) _ _ _ _
termination_by l.length-i
theorem aMM(l:List Aaa)(c:l.length<=1000): Tt (λn _=>FL n l):=by
 refine aV (λ_=>rfl) (aC (λ_=>aA trivial) λh=>?_);have b:0<l.length:=by
  rcases Xo l.length with a | a
  .have:ln l=0:=by unfold ln;omega
   rw[this] at h;simp at h
  .exact a
 have e:idx l 0=some l[0]:=by show idx l ((0:Nat):Int)=_;rw[bK];exact Za b
 exact aF e (aF e (aF e (aF e (aE (aW (aMv l c 1 _ _ _ _)) λ_ _=>aA trivial))))
section
variable (p:aN)(hn:p.Nodes.length<=30)(ha:p.Arcs.length<=30)(hw:Wd p)
include hn in
theorem aLt(i:Nat)(l:List Aaa)(c:l.length=i)(d:i<=p.Nodes.length): aB (λn m=>kV zX n m p (l,(i:Int))) λr=>r.length<=30:=
 bS (aZ (λx b a=>aF (Dc (by omega)) (by
  rw[bT (by omega)];exact aLt (i+1) _ (by simp;omega) (by omega))) λ_=>aA (by omega))
termination_by p.Nodes.length-i
include ha hw in
theorem aLs(i:Nat)(l:List Aaa)(f:l.length<=210)(d:wH p.Arcs i λa=>a.Via.length<=210): aB (λn m=>qH zW n m p (l,(i:Int))) (Su (λ_=>True) λr=>r.length<=210/\∀a∈p.Arcs,a.Via.length<=210):=by
 refine bO (aZ (λx b e=>aC (λ_=>aA trivial) λh=>?_) λc=>aA ⟨f,d.fin c⟩);have j:=hw x (Zf b);have h:¬wr (ln l+ln x.Via) > 180:=Zk h;rw[wr,i64_in _ (by unfold ln;omega)] at h;unfold ln at h;refine aF (x:=x) (by rw[bK];exact b) (aF (Qz (by omega)) ?_);rw[bT (by omega)];exact aLs (i+1) _ (by simp;omega) (d.step b (by omega))
termination_by p.Arcs.length-i
include hw in
theorem aIU: aB (λn _=>RZ n p) λr=>r=true->Sm p:=by
 refine aV (λ_=>rfl) (aE (f:=λn _=>LW n p) (Q:=λr=>r=false->p.Nodes.length<=30/\p.Arcs.length<=30/\p.Faces.length<=30) ?_ λc j=>aC (λ_=>aA (by simp)) λh=>?_)
 .refine aC (λ_=>aA (by simp)) λi=>aC (λ_=>aA (by simp)) λe=>aC (λ_=>aA (by simp)) λd=>aA λ_=>?_;have i:¬ln p.Nodes > 30:=Zk i;have e:¬ln p.Arcs > 30:=Zk e;have d:¬ln p.Faces > 30:=Zk d;unfold ln at i e d;exact⟨by omega,by omega,by omega⟩
 .obtain⟨k,l,o⟩:=j h;refine aE (aW (aLt p k 0 [] rfl (ZF _))) λc j=>aS (aW (aLs p l hw 0 c (by omega) .nil)) (λ_ _=>aA (by simp)) λf b=>aF rfl (aE (aMM f (by have:=b.1;omega)) λg _=>aE (f:=λn _=>LV n g) (Q:=λ_=>True) (by repeat' first | exact aA trivial | refine aC (λ_=>?_) (λ_=>?_)) λh _=>aC (λ_=>aA λ_=>⟨by omega,by omega,by omega,λa h=>by have:=b.2 a h;omega⟩) λ_=>aA (by simp))
end
theorem aHA(s:aK)(j:s.Features.length<=20)(i:Nat)(d:wH s.Features i λf=>f.Parts.length<=40): aB (λn m=>qH zS n m s (i:Int)) (Su (λ_=>True) λ_=>∀f∈s.Features,f.Parts.length<=40):=by
 refine bO (aC (λa=>?_) λb=>aA (d.fin ?_))
 .have a:(i:Int)<ln s.Features:=Zh a;have a:i<s.Features.length:=by unfold ln at a;omega
  have e:idx s.Features (i:Int)=some s.Features[i]:=by rw[bK];exact Za a
  refine aE (f:=λn _=>LQ n (s,(i:Int))) (Q:=λr=>r=false->s.Features[i].Parts.length<=40) (aF e (aC (λ_=>aA (by simp)) λh=>aF e ?_)) λc g=>aC (λ_=>aA trivial) λh=>?_
  .have h:¬ln s.Features[i].Parts > 40:=Zk h;unfold ln at h;exact aC (λ_=>aA (by simp)) λ_=>aA λ_=>by omega
  .rw[bT (by omega)];exact aHA s j (i+1) (d.step (Za a) (g h))
 .have b:¬(i:Int)<ln s.Features:=Zk b;unfold ln at b;omega
termination_by s.Features.length-i
theorem aIT(s:aK)(e:Wd s.Plan): aB (λn _=>RN n s) λr=>r=true->lG s:=by
 refine aV (λ_=>rfl) (aE (f:=λn _=>LR n s) (Q:=λr=>r=false->Sm s.Plan/\s.Features.length<=20) (aE (aIU s.Plan e) λc b=>aC (λd=>aC (λ_=>aA (by simp)) λa=>aA λ_=>?_) λ_=>aA (by simp)) λc b=>aC (λ_=>aA (by simp)) λh=>?_)
 .have a:¬ln s.Features > 20:=Zk a;unfold ln at a;exact⟨b d,by omega⟩
 .obtain⟨d,a⟩:=b h;exact aS (aW (aHA s a 0 .nil)) (λ_ _=>aA (by simp)) λ_ g=>aF rfl (aA λ_=>⟨d,by omega,λf i=>by have:=g f i;omega⟩)
theorem aQ2(e:bG): aB (λn _=>LS n e) λr=>r=false->aMB e:=
 aC (λ_=>aA (by simp)) λb=>aC (λ_=>aA (by simp)) λa=>aC (λ_=>aA (by simp)) λ_=>aA λ_=>by
  have b:¬ln e.Via > 20:=Zk b;have a:¬ln e.Parts > 20:=Zk a;unfold ln at b a;exact⟨by omega,by omega⟩
theorem aKk(l:List dJ)(k:Nat)(t:dJ)(g:l[k]?=some t)(o:t.Edits.length<=6)(i:Nat)(d:wH t.Edits i aMB): aB (λn m=>qH zU n m (l,(k:Int)) (i:Int)) (Su (λ_=>True) λ_=>∀e∈t.Edits,aMB e):=by
 have f:idx l (k:Int)=some t:=by rw[bK];exact g
 refine bO (aF f (aC (λa=>?_) λb=>aA (d.fin ?_)))
 .have a:(i:Int)<ln t.Edits:=Zh a;have a:i<t.Edits.length:=by unfold ln at a;omega
  have e2:idx t.Edits (i:Int)=some t.Edits[i]:=by rw[bK];exact Za a
  refine aF f (aF e2 (aE (aQ2 t.Edits[i]) λc j=>aC (λ_=>aA trivial) λh=>?_));rw[bT (by omega)];exact aKk l k t g o (i+1) (d.step (Za a) (j h))
 .have b:¬(i:Int)<ln t.Edits:=Zk b;unfold ln at b;omega
termination_by t.Edits.length-i
theorem aKl(l:List dJ)(k:l.length<=12)(i:Nat)(e:wH l i FG): aB (λn m=>lm3 zV n m l (i:Int)) (Su (λ_=>True) (Su (λ_=>True) λ_=>∀t∈l,FG t)):=by
 refine aGy (aC (λa=>?_) λb=>aA (e.fin ?_))
 .have a:(i:Int)<ln l:=Zh a;have a:i<l.length:=by unfold ln at a;omega
  have g:idx l (i:Int)=some l[i]:=by rw[bK];exact Za a
  refine aE (f:=λn _=>LT n (l,(i:Int))) (Q:=λr=>r=false->l[i].Edits.length<=6) (aF g (aC (λ_=>aA (by simp)) λd=>aF g (aC (λ_=>aA (by simp)) λ_=>aA λ_=>?_))) λc j=>aC (λ_=>aA trivial) λh=>?_
  .have d:¬ln l[i].Edits > 6:=Zk d;unfold ln at d;omega
  .have o:=j h;refine aS (aW (aKk l i l[i] (Za a) o 0 .nil)) (λ_ _=>aA trivial) λ_ p=>aF rfl ?_;rw[bT (by omega)];exact aKl l k (i+1) (e.step (Za a) ⟨by omega,p⟩)
 .have b:¬(i:Int)<ln l:=Zk b;unfold ln at b;omega
termination_by l.length-i
theorem aNo(l:List dJ): aB (λn _=>RO n l) λr=>r=true->l.length<=12/\∀t∈l,FG t:=by
 refine aV (λ_=>rfl) (aC (λ_=>aA (by simp)) λh=>?_);have h:¬ln l > 12:=Zk h;unfold ln at h;exact aS (aW (aKl l (by omega) 0 .nil)) (λ_ _=>aA (by simp)) λb a=>by
  cases b with
  | inl x=>exact aS (Q:=λ_=>True) (R:=λ_=>False) (aA (x:=Sum.inl x) trivial) (λ_ _=>aA (by simp)) λ_ h=>h.elim
  | inr x=>exact aS (Q:=λ_=>False) (R:=λ_=>True) (aA (x:=Sum.inr x) trivial) (λ_ h=>h.elim) λ_ _=>aF rfl (aA λ_=>⟨by omega,a⟩)
theorem aOc(a:cN)(i:Wd a.Survey.Plan): aB (λn _=>RQ n a) λr=>r=true->SA a/\a.Txns.length<=12:=by
 refine aV (λ_=>rfl) (aE (f:=λn _=>LU n a) (Q:=λr=>r=true->SA a/\a.Txns.length<=12) (aE (aIT a.Survey i) λc b=>aC (λj=>aE (aNo a.Txns) λd g=>aC (λe=>aA λ_=>⟨⟨b j,(g e).2⟩,(g e).1⟩) λ_=>aA (by simp)) λ_=>aA (by simp)) λc b=>aC (λh=>aA λ_=>b h) λ_=>aA (by simp))
theorem aU7{f:Nat->Nat->Option Bool}(h:aB f λr=>r=true): aB (λn m=>bnd (f n m) λd=>cnd d (some true) (some false)) λr=>r=true:=
 aE h λr a=>aC (λ_=>aA rfl) λh=>by rw[show r=true from a] at h;cases h
section
variable (aw:aB (λn _=>sQ n) λr=>r=true)
include aw
end
theorem aMw: ∀n,sQ (n+100)=some true:=by intro n;kernel_rfl
theorem aOW: aB (λn _=>sQ n) λr=>r=true:=⟨true,rfl,100,λn m a _=>by
 obtain⟨k,rfl⟩:∃k,n=k+100:=⟨n-100,by omega⟩;exact aMw k⟩
section
abbrev OM:=List (Aab×Aac)
def og(m:OM)(k:Aab): Aac:=(bD m k).getD ⟨0,0,0,0⟩
theorem aRa(m:OM)(k k':Aab)(v:Aac): og (eI m k v) k'=if k=k' then v else og m k':=by
 unfold og;rw[pM];split<;>rfl
def nk(l:List Aad): List Aab:=l.map λx=>⟨1,x.ID⟩
def ak(l:List aP): List Aab:=l.map λx=>⟨2,x.ID⟩
def fk(l:List aD): List Aab:=l.map λx=>⟨3,x.ID⟩
def KI(s:aK): List Aab:=nk s.Plan.Nodes++ak s.Plan.Arcs++fk s.Features
def Gd(c:Int)(o:Aac): Prop:=1<=o.Made/\o.Made<=o.Changed/\o.Changed<=c
def Jv(c:Int)(E:List Aab)(m:OM)(k:Aab)(v:Aac): Prop:=Gd c v/\(v.Changed=c\/(k∈E/\v=og m k))
def Mt(c:Int)(E:List Aab)(m:OM)(D:List Aab)(t:OM): Prop:=∀k,(k∈E\/k∈D)->Jv c E m k (og t k)
variable {D E:List Aab}{c:Int}{k:Aab}{m t:OM}{x1:List Aad}{x2:List aP}{x3:List Int}{x4:List aD}{y1:List Aad}{y2:List aP}{y3:List Int}{y4:List aD}
section
theorem Mt.start(h:∀k∈E,Gd (c-1) (og m k)): Mt c E m [] m:=λk hk=>by
 have hk:k∈E:=by simpa using hk
 have:=h k hk
 refine⟨?_,.inr ⟨hk,rfl⟩⟩
 unfold Gd at *;omega
theorem Mt.mark{v:Aac}(h:Mt c E m D t)(hv:Jv c E m k v): Mt c E m (D++[k]) (eI t k v):=λx hx=>by
 rw[aRa];split
 .rename_i e;subst e;exact hv
 .rename_i e
  exact h x (hx.imp id λhx=>by
   rcases ZD.1 hx with hx | hx
   .exact hx
   .exact absurd (ZJ.1 hx).symm e)
theorem Mt.same(h:Mt c E m D t)(hk:k∈E): Mt c E m (D++[k]) (eI t k (og t k)):=h.mark (h k (.inl hk))
theorem Mt.chg(h:Mt c E m D t)(hk:k∈E): Mt c E m (D++[k]) (eI t k ⟨(og t k).Kind,(og t k).ID,(og t k).Made,c⟩):=h.mark (by
 obtain⟨⟨a,b,d⟩,_⟩:=h k (.inl hk)
 exact⟨⟨a,Int.le_trans b d,XA _⟩,.inl rfl⟩)
theorem Mt.new{x y:Int}(h:Mt c E m D t)(hc:1<=c): Mt c E m (D++[k]) (eI t k ⟨x,y,c,c⟩):=h.mark ⟨⟨hc,XA _,XA _⟩,.inl rfl⟩
end
def Has{V:Type}(f:V->Int)(l:List V)(o:List (Int×V)): Prop:=∀i,(bD o i).isSome=true->∃x∈l,f x=i
theorem Has.put{V:Type}{f:V->Int}{l:List V}{o:List (Int×V)}(h:Has f l o){x:V}(hx:x∈l): Has f l (eI o (f x) x):=λi hi=>by
 rw[pM] at hi
 by_cases e:f x=i
 .exact⟨x,hx,e⟩
 .rw[ZG e] at hi;exact h i hi
theorem aTG(l:List Aad)(hl:l.length<=100000)(i:Nat)(o:List (Int×Aad))(h:Has Aad.ID l o): aB (λn k=>kV qU n k (l,ln l) (o,(i:Int))) (Has Aad.ID l):=
 bS (aZ (λx hx hlt=>by
  rw[bT (by omega)]
  exact aTG l hl (i+1) _ (h.put (Zf hx))) λ_=>aA h)
termination_by l.length-i
theorem aPD(l:List aP)(hl:l.length<=100000)(i:Nat)(o:List (Int×aP))(h:Has aP.ID l o): aB (λn k=>kV oR n k (l,ln l) (o,(i:Int))) (Has aP.ID l):=
 bS (aZ (λx hx hlt=>by
  rw[bT (by omega)]
  exact aPD l hl (i+1) _ (h.put (Zf hx))) λ_=>aA h)
termination_by l.length-i
theorem aPB(l:List aD)(hl:l.length<=100000)(i:Nat)(o:List (Int×aD))(h:Has aD.ID l o): aB (λn k=>kV oQ n k (l,ln l) (o,(i:Int))) (Has aD.ID l):=
 bS (aZ (λx hx hlt=>by
  rw[bT (by omega)]
  exact aPB l hl (i+1) _ (h.put (Zf hx))) λ_=>aA h)
termination_by l.length-i
theorem tkm{α β:Type}{f:α->β}{D:List β}{l:List α}{i:Nat}{x:α}(h:l[i]?=some x): D++(l.take i).map f++[f x]=D++(l.take (i+1)).map f:=by
 rw[YR,h];simp
section
theorem aTF(hc:1<=c)(o:List (Int×Aad))(ho:∀i,(bD o i).isSome=true->(⟨1,i⟩:Aab)∈E)(l:List Aad)(hl:l.length<=100000)(i:Nat)(t:OM)(h:Mt c E m (D++nk (l.take i)) t):
 aB (λn k=>kV qT n k (c,x1,x2,x3,x4,y1,y2,y3,y4,o,l,ln l) (t,(i:Int))) (Mt c E m (D++nk l)):=
 bS (aZ (λx hx hlt=>by
  rw[bT (by omega)]
  have go:∀v,Mt c E m (D++nk (l.take i)++[⟨1,x.ID⟩]) v->_:=λv hv=>aTF hc o ho l hl (i+1) v (by rw[nk,<-tkm (f:=λx:Aad=>(⟨1,x.ID⟩:Aab)) hx];exact hv)
  refine aC (λhs=>?_) λhs=>?_
  .have hk:=ho _ hs
   refine aC (λ_=>aE (Q:=λw=>w.1=eI t ⟨1,x.ID⟩ (og t ⟨1,x.ID⟩)) (aV (λ_=>rfl) (aA rfl)) λw e=>?_) λ_=>aE (Q:=λw=>w.1=eI t ⟨1,x.ID⟩ ⟨(og t ⟨1,x.ID⟩).Kind,(og t ⟨1,x.ID⟩).ID,(og t ⟨1,x.ID⟩).Made,c⟩) (aV (λ_=>rfl) (aA rfl)) λw e=>?_
   .rw[e];exact go _ (h.same hk)
   .rw[e];exact go _ (h.chg hk)
  .refine aC (λ_=>aE (Q:=λw=>w=eI t ⟨1,x.ID⟩ ⟨1,x.ID,c,c⟩) (aV (λ_=>rfl) (aA rfl)) λw e=>?_) λ_=>aE (Q:=λw=>w=eI t ⟨1,x.ID⟩ ⟨1,x.ID,c,c⟩) (aV (λ_=>rfl) (aA rfl)) λw e=>?_
   .rw[e];exact go _ (h.new hc)
   .rw[e];exact go _ (h.new hc)) λhge=>aA (by rwa [ZC hge] at h))
termination_by l.length-i
theorem aPC(hc:1<=c)(o:List (Int×aP))(ho:∀i,(bD o i).isSome=true->(⟨2,i⟩:Aab)∈E)(l:List aP)(hl:l.length<=100000)(hv:∀x∈l,x.Via.length<=100000)(i:Nat)(t:OM)(h:Mt c E m (D++ak (l.take i)) t):
 aB (λn k=>kV eY n k (c,x1,x2,x3,x4,y1,y2,y3,y4,o,l,ln l) (t,(i:Int))) (Mt c E m (D++ak l)):=
 bS (aZ (λx hx hlt=>by
  rw[bT (by omega)]
  have hvx:=hv x (Zf hx)
  have go:∀v,Mt c E m (D++ak (l.take i)++[⟨2,x.ID⟩]) v->_:=λv hv'=>aPC hc o ho l hl hv (i+1) v (by rw[ak,<-tkm (f:=λx:aP=>(⟨2,x.ID⟩:Aab)) hx];exact hv')
  have nw:aB (λn k=>bnd (iX n (t,c,x1,x2,x3,x4,y1,y2,y3,y4,x.ID)) λw=>kV eY n k (c,x1,x2,x3,x4,y1,y2,y3,y4,o,l,ln l) (w,((i+1:Nat):Int))) (Mt c E m (D++ak l)):=aE (Q:=λw=>w=eI t ⟨2,x.ID⟩ ⟨2,x.ID,c,c⟩) (aV (λ_=>rfl) (aA rfl)) λw e=>by rw[e];exact go _ (h.new hc)
  refine aC (λhs=>?_) λhs=>?_
  .have hk:=ho _ hs
   have sa:aB (λn k=>bnd (Km n (t,c,x1,x2,x3,x4,y1,y2,y3,y4,x.ID)) λw=>kV eY n k (c,x1,x2,x3,x4,y1,y2,y3,y4,o,l,ln l) (w.1,((i+1:Nat):Int))) (Mt c E m (D++ak l)):=aE (Q:=λw=>w.1=eI t ⟨2,x.ID⟩ (og t ⟨2,x.ID⟩)) (aV (λ_=>rfl) (aA rfl)) λw e=>by rw[e];exact go _ (h.same hk)
   have ch:aB (λn k=>bnd (mU n (t,c,x1,x2,x3,x4,y1,y2,y3,y4,x.ID)) λw=>kV eY n k (c,x1,x2,x3,x4,y1,y2,y3,y4,o,l,ln l) (w.1,((i+1:Nat):Int))) (Mt c E m (D++ak l)):=aE (Q:=λw=>w.1=eI t ⟨2,x.ID⟩ ⟨(og t ⟨2,x.ID⟩).Kind,(og t ⟨2,x.ID⟩).ID,(og t ⟨2,x.ID⟩).Made,c⟩) (aV (λ_=>rfl) (aA rfl)) λw e=>by rw[e];exact go _ (h.chg hk)
   exact aC (λ_=>aC (λ_=>aE (aKp x.Via _ hvx) λ_ _=>aC (λ_=>sa) λ_=>ch) λ_=>ch) λ_=>ch
  .exact aC (λ_=>aC (λ_=>aE (aKp x.Via _ hvx) λ_ _=>aC (λ_=>nw) λ_=>nw) λ_=>nw) λ_=>nw) λhge=>aA (by rwa [ZC hge] at h))
termination_by l.length-i
theorem aP9(x:aD)(p:Int×Int×Int×ByteArray×List Int)(hv:x.Parts.length<=100000): Tt (λn _=>tT n (x,p)):=
 aC (λ_=>aC (λ_=>aC (λ_=>aE (aKs x.Parts _ hv) λ_ _=>aC (λ_=>aA trivial) λ_=>aA trivial) λ_=>aA trivial) λ_=>aA trivial) λ_=>aA trivial
theorem aPA(hc:1<=c)(o:List (Int×aD))(ho:∀i,(bD o i).isSome=true->(⟨3,i⟩:Aab)∈E)(l:List aD)(hl:l.length<=100000)(hv:∀x∈l,x.Parts.length<=100000)(i:Nat)(t:OM)(h:Mt c E m (D++fk (l.take i)) t):
 aB (λn k=>kV eX n k (c,x1,x2,x3,x4,y1,y2,y3,y4,o,l,ln l) (t,(i:Int))) (Mt c E m (D++fk l)):=
 bS (aZ (λx hx hlt=>by
  rw[bT (by omega)]
  have hvx:=hv x (Zf hx)
  have go:∀v,Mt c E m (D++fk (l.take i)++[⟨3,x.ID⟩]) v->_:=λv hv'=>aPA hc o ho l hl hv (i+1) v (by rw[fk,<-tkm (f:=λx:aD=>(⟨3,x.ID⟩:Aab)) hx];exact hv')
  have nw:aB (λn k=>bnd (tX n (t,c,x1,x2,x3,x4,y1,y2,y3,y4,x.ID)) λw=>kV eX n k (c,x1,x2,x3,x4,y1,y2,y3,y4,o,l,ln l) (w,((i+1:Nat):Int))) (Mt c E m (D++fk l)):=aE (Q:=λw=>w=eI t ⟨3,x.ID⟩ ⟨3,x.ID,c,c⟩) (aV (λ_=>rfl) (aA rfl)) λw e=>by rw[e];exact go _ (h.new hc)
  refine aC (λhs=>?_) λhs=>?_
  .have hk:=ho _ hs
   have sa:aB (λn k=>bnd (Kl n (t,c,x1,x2,x3,x4,y1,y2,y3,y4,x.ID)) λw=>kV eX n k (c,x1,x2,x3,x4,y1,y2,y3,y4,o,l,ln l) (w.1,((i+1:Nat):Int))) (Mt c E m (D++fk l)):=aE (Q:=λw=>w.1=eI t ⟨3,x.ID⟩ (og t ⟨3,x.ID⟩)) (aV (λ_=>rfl) (aA rfl)) λw e=>by rw[e];exact go _ (h.same hk)
   have ch:aB (λn k=>bnd (Kk n (t,c,x1,x2,x3,x4,y1,y2,y3,y4,x.ID)) λw=>kV eX n k (c,x1,x2,x3,x4,y1,y2,y3,y4,o,l,ln l) (w.1,((i+1:Nat):Int))) (Mt c E m (D++fk l)):=aE (Q:=λw=>w.1=eI t ⟨3,x.ID⟩ ⟨(og t ⟨3,x.ID⟩).Kind,(og t ⟨3,x.ID⟩).ID,(og t ⟨3,x.ID⟩).Made,c⟩) (aV (λ_=>rfl) (aA rfl)) λw e=>by rw[e];exact go _ (h.chg hk)
   exact aE (aP9 x _ hvx) λ_ _=>aC (λ_=>sa) λ_=>ch
  .exact aE (aP9 x _ hvx) λ_ _=>aC (λ_=>nw) λ_=>nw) λhge=>aA (by rwa [ZC hge] at h))
termination_by l.length-i
end
end
section
variable {D E:List Aab}{c:Int}{l:List dJ}{m:OM}{q s:aK}{t:OM}{α:Type}
theorem aB.eq{f g:Nat->Nat->Option α}{P:α->Prop}(e:∀n m,f n m=g n m)(h:aB g P): aB f P:=by
 have:f=g:=by funext n m;exact e n m
 rw[this];exact h
section
theorem aUh{x:Aad}(h:x∈s.Plan.Nodes): (⟨1,x.ID⟩:Aab)∈KI s:=by
 unfold KI nk;simp;exact .inl ⟨x,h,rfl⟩
theorem aUj{x:aP}(h:x∈s.Plan.Arcs): (⟨2,x.ID⟩:Aab)∈KI s:=by
 unfold KI ak;simp;exact .inr (.inl ⟨x,h,rfl⟩)
theorem aUi{x:aD}(h:x∈s.Features): (⟨3,x.ID⟩:Aab)∈KI s:=by
 unfold KI fk;simp;exact .inr (.inr ⟨x,h,rfl⟩)
theorem aWn(hc:1<=c)(hs:lG s)(hq:lG q)(h:Mt c (KI s) m D t): aB (λn _=>wT n (t,c,s.Plan.Nodes,s.Plan.Arcs,s.Plan.Faces,s.Features,q.Plan.Nodes,q.Plan.Arcs,q.Plan.Faces,q.Features)) λr=>Mt c (KI s) m (D++nk q.Plan.Nodes) r.1:=
 aX (aE (aW (aTG s.Plan.Nodes (by have:=hs.p.n;omega) 0 [] λi hi=>by simp[bD] at hi)) λo ho=>aE (aW (aTF hc o (λi hi=>by obtain⟨x,hx,e⟩:=ho i hi;subst e;exact aUh hx) q.Plan.Nodes (by have:=hq.p.n;omega) 0 t (by simpa [nk] using h))) λr hr=>aA hr)
theorem aTX(hc:1<=c)(hs:lG s)(hq:lG q)(h:Mt c (KI s) m D t): aB (λn _=>tZ n (t,c,s.Plan.Nodes,s.Plan.Arcs,s.Plan.Faces,s.Features,q.Plan.Nodes,q.Plan.Arcs,q.Plan.Faces,q.Features)) λr=>Mt c (KI s) m (D++ak q.Plan.Arcs) r.1:=
 aX (aE (aW (aPD s.Plan.Arcs (by have:=hs.p.a;omega) 0 [] λi hi=>by simp[bD] at hi)) λo ho=>aE (aW (aPC hc o (λi hi=>by obtain⟨x,hx,e⟩:=ho i hi;subst e;exact aUj hx) q.Plan.Arcs (by have:=hq.p.a;omega) (λx hx=>by have:=hq.p.v x hx;omega) 0 t (by simpa [ak] using h))) λr hr=>aA hr)
theorem aTW(hc:1<=c)(hs:lG s)(hq:lG q)(h:Mt c (KI s) m D t): aB (λn _=>tY n (t,c,s.Plan.Nodes,s.Plan.Arcs,s.Plan.Faces,s.Features,q.Plan.Nodes,q.Plan.Arcs,q.Plan.Faces,q.Features)) λr=>Mt c (KI s) m (D++fk q.Features) r.1:=
 aX (aE (aW (aPB s.Features (by have:=hs.n;omega) 0 [] λi hi=>by simp[bD] at hi)) λo ho=>aE (aW (aPA hc o (λi hi=>by obtain⟨x,hx,e⟩:=ho i hi;subst e;exact aUi hx) q.Features (by have:=hq.n;omega) (λx hx=>by have:=hq.f x hx;omega) 0 t (by simpa [fk] using h))) λr hr=>aA hr)
end
def stp(n:Nat)(c:Int)(s q:aK)(m:OM): Option OM:=bnd (wT n (m,c,s.Plan.Nodes,s.Plan.Arcs,s.Plan.Faces,s.Features,q.Plan.Nodes,q.Plan.Arcs,q.Plan.Faces,q.Features)) λd=>bnd (tZ n (d.1,c,s.Plan.Nodes,s.Plan.Arcs,s.Plan.Faces,s.Features,q.Plan.Nodes,q.Plan.Arcs,q.Plan.Faces,q.Features)) λf=>bnd (tY n (f.1,c,s.Plan.Nodes,s.Plan.Arcs,s.Plan.Faces,s.Features,q.Plan.Nodes,q.Plan.Arcs,q.Plan.Faces,q.Features)) λg=>some g.1
theorem aSc{β γ:Type}(o:Option α)(f:α->Option β)(k:β->Option γ): bnd (bnd o f) k=bnd o λx=>bnd (f x) k:=by cases o<;>rfl
def StP(c:Int)(s q:aK)(m m':OM): Prop:=aB (λn _=>stp n c s q m) λr=>r=m'
theorem StP.uniq{a b:OM}(h:StP c s q m a)(k:StP c s q m b): a=b:=aB.uniq (r:=a) (P:=λx=>x=b) h k
theorem aPz(hc:1<=c)(hs:lG s)(hq:lG q)(h:∀k∈KI s,Gd (c-1) (og m k)): ∃m',StP c s q m m'/\∀k∈KI q,Jv c (KI s) m k (og m' k):=by
 obtain⟨m',h1,h2⟩:=aB.val (f:=λn _=>stp n c s q m) (P:=λr=>Mt c (KI s) m (KI q) r) (aE (aWn hc hs hq (Mt.start h)) λd hd=>aE (aTX hc hs hq hd) λf hf=>aE (aTW hc hs hq hf) λg hg=>aA (by rw[Xl] at hg;exact hg))
 exact⟨m',h2,λk hk=>h1 k (.inr hk)⟩
inductive OrP: Nat->List dJ->cN->OM->cN×OM->Prop
 | nil (c p m):OrP c [] p m (p,m)
 | ok (c t l p m v m' r):CmV p t v->v.2=0->StP ((c+1:Nat):Int) p.Survey v.1.Survey m m'->OrP (c+1) l v.1 m' r->OrP c (t::l) p m r
theorem OrP.uniq{c:Nat}{p:cN}{a b:cN×OM}(h:OrP c l p m a)(k:OrP c l p m b): a=b:=by
 induction h with
 | nil c p m=>cases k;rfl
 | ok c t l p m v m' r h1 h2 h3 h4 ih=>
  cases k with
  | ok _ _ _ _ _ w m2 _ k1 k2 k3 k4=>
   obtain rfl:=h1.uniq k1
   obtain rfl:=h3.uniq k3
   exact ih k4
theorem OrP.split{t:dJ}: ∀{c:Nat} {p:cN} {m:OM} {r:cN×OM},OrP c (l++[t]) p m r->∃q m1 v,OrP c l p m (q,m1)/\CmV q t v/\v.2=0/\StP ((c+l.length+1:Nat):Int) q.Survey v.1.Survey m1 r.2/\r.1=v.1:=by
 induction l with
 | nil=>
  intro c p m r h
  cases h with
  | ok _ _ _ _ _ v m' _ h1 h2 h3 h4=>cases h4;exact⟨p,m,v,.nil c p m,h1,h2,h3,rfl⟩
 | cons u l ih=>
  intro c p m r h
  cases h with
  | ok _ _ _ _ _ v m' _ h1 h2 h3 h4=>
   obtain⟨q,m1,w,k1,k2,k3,k4,k5⟩:=ih h4
   refine⟨q,m1,w,.ok _ _ _ _ _ v m' _ h1 h2 h3 k1,k2,k3,?_,k5⟩
   rw[Z5,show c+(l.length+1)+1=c+1+l.length+1 by omega];exact k4
theorem aKM(l0:List dJ)(hl:l0.length<=100000)(hs:∀t∈l0,FG t): ∀(todo:List dJ) (i:Nat) (p q:cN) (m:OM) (c:Int) (x1 y1:List Aad) (x2 y2:List aP) (x3 y3:List Int) (x4 y4:List aD),l0.drop i=todo->i+todo.length=l0.length->SA p->Rp todo p (q,0)->(∀k∈KI p.Survey,Gd i (og m k))->∃m',OrP i todo p m (q,m')/\SA q/\(∀k∈KI q.Survey,Gd l0.length (og m' k)) /\
 aB (λn k=>qH kX n k ([],l0,ln l0) (m,c,x1,x2,x3,x4,y1,y2,y3,y4,p.Survey.Plan.Nodes,p.Survey.Plan.Arcs,p.Survey.Plan.Faces,p.Survey.Features,p.Txns,(i:Int))) (Su (λ_=>False) λw=>w.1=m'/\aK.mk (aN.mk w.2.2.2.2.2.2.2.2.2.2.1 w.2.2.2.2.2.2.2.2.2.2.2.1 w.2.2.2.2.2.2.2.2.2.2.2.2.1) w.2.2.2.2.2.2.2.2.2.2.2.2.2.1=q.Survey)
 | [],i,p,q,m,c,x1,y1,x2,y2,x3,y3,x4,y4,hd,hi,hp,hr,hg=>by
  cases hr
  simp only[Z2,Xf] at hi
  exact⟨m,.nil _ _ _,hp,by rw[<-hi];exact hg,bO (aZ (λx hx hlt=>by omega) λ_=>aA ⟨rfl,rfl⟩)⟩
 | t::todo,i,p,q,m,c,x1,y1,x2,y2,x3,y3,x4,y4,hd,hi,hp,hr,hg=>by
  obtain⟨g1,g2,g3⟩:=Hi hd
  cases hr with
  | err _ _ _ _ h1 h2=>exact absurd rfl h2
  | ok _ _ _ v _ h1 h2 h3=>
   obtain⟨_,w,_,k1,_,k2⟩:=aEZ p t hp (hs t (Zf g1))
   obtain rfl:=k1.uniq h1
   obtain⟨_,_,k3,_⟩:=k2 h2
   rw[Z5] at hi
   obtain⟨m1,j1,j2⟩:=aPz (c:=((i+1:Nat):Int)) (s:=p.Survey) (q:=w.1.Survey) (m:=m) (by omega) hp.s k3.s (λk hk=>by have:=hg k hk;rw[show (((i+1:Nat):Int)-1)=(i:Int) by omega];exact this)
   obtain⟨m',n1,n2,n3,n4⟩:=aKM l0 hl hs todo (i+1) w.1 q m1 ((i+1:Nat):Int) p.Survey.Plan.Nodes w.1.Survey.Plan.Nodes p.Survey.Plan.Arcs w.1.Survey.Plan.Arcs p.Survey.Plan.Faces w.1.Survey.Plan.Faces p.Survey.Features w.1.Survey.Features g2 (by omega) k3 h3 λk hk=>(j2 k hk).1
   refine⟨m',.ok _ _ _ _ _ w m1 _ h1 h2 j1 n1,n2,n3,bO (aZ (λx hx hlt=>?_) λh=>by omega)⟩
   rw[g1] at hx
   cases hx
   refine aE h1 λr hr=>?_
   subst hr
   refine aC (λb=>by rw[h2] at b;simp at b) λ_=>LX ?_
   rw[bT (by omega)]
   refine aB.eq (g:=λn k=>bnd (stp n ((i+1:Nat):Int) p.Survey r.1.Survey m) λz=>qH kX n k ([],l0,ln l0) (z,((i+1:Nat):Int),p.Survey.Plan.Nodes,p.Survey.Plan.Arcs,p.Survey.Plan.Faces,p.Survey.Features,r.1.Survey.Plan.Nodes,r.1.Survey.Plan.Arcs,r.1.Survey.Plan.Faces,r.1.Survey.Features,r.1.Survey.Plan.Nodes,r.1.Survey.Plan.Arcs,r.1.Survey.Plan.Faces,r.1.Survey.Features,r.1.Txns,((i+1:Nat):Int))) (λn k=>?_) (aE j1 λz hz=>by subst hz;exact n4)
   unfold stp
   simp only[aSc];rfl
end
noncomputable section
abbrev aG6:=aWY
def Ht{R:Type}(n:Nat): cN->((Bool->Option R)×Unit)->Unit->Option R:=λa (b,_) _=>(bnd (RQ n a) λc=>(cnd (c) (bnd (Ee n a) λd=>(cnd (d) (b false) (b true))) (b true)))
def Rm:=eV Ht
def RW: Lc 1 0 0:=bH 0x1ef97ad1004f322 aG6 [] [] @Ht
def Hs{R:Type}(n:Nat): (cN×Int)->(((List Aac)->Option R)×Unit)->Unit->Option R:=λ(a,b) (c,_) _=>(cd (b > 0) (bnd (cut a.Txns 0 (wr (b-1))) λd=>(bnd (tC n (cN.mk (aK.mk (aN.mk [] [] []) []) d)) λf=>(c f))) (c []))
def Rl:=eV Hs
def RU: Lc 1 0 1:=bH 0x1635ab2145d5f51658f694c83186a82eb30a1bc0e9ce332167105c4 aG6 [] [] @Hs
def Hq{R:Type}(n:Nat): ((List Aac)×Int×Int)->((Bool->Option R)×Unit)->Unit->Option R:=λ(a,b,c) (d,_) _=>(bnd (idx a c) λf=>(cd (f.Made<1) (d true) (bnd (idx a c) λg=>(bnd (idx a c) λh=>(cd (g.Changed<h.Made) (d true) (bnd (idx a c) λi=>(cd (i.Changed > b) (d true) (d false))))))))
def Rk:=eV Hq
def RT: Lc 1 0 3:=bH 0x189952ac526e4ca28fec5dbd56f3b63d5e0d1b2727dc18d aG6 [] [] @Hq
def Hp{R:Type}(n:Nat): ((List Aac)×(List Aac)×Int×Bool×Int)->((Bool->Option R)×Unit)->Unit->Option R:=λ(a,b,c,d,f) (g,_) _=>(cnd (d) (g true) (bnd (idx b f) λh=>(bnd (idx a c) λi=>(cd (h=i) (g true) (g false)))))
def Ri:=eV Hp
def RS: Lc 1 0 5:=bH 0x10381b9837db7fb8ac22e56680dfbf7758976502ee2b27223f637119fd aG6 [] [] @Hp
def sS{R:Type}(n:Nat): ((List Aac)×(List Aac)×Int)->((Bool×Int)->Option R)->((Bool->Option R)×Unit)->(Bool×Int)->Option R:=λ(a,b,c) d (f,_) (g,h)=>(cd (h<(ln b)) (bnd (Ri n (a,b,c,g,h)) λi=>(cnd (i) (d (true,(wr (h+1)))) (d (false,(wr (h+1)))))) (f g))
def L4:=oH sS
def RX: Lc 1 0 4:=bL 0x103d87c90e4c7c43f160538e8780bc098b76206911ca2394ab2c79eded aG6 [⟨0,[cs RS]⟩] [] @sS
def sU{R:Type}(n:Nat): ((List Aac)×Int×(List Aac))->(Int->Option R)->((Unit->Option R)×(Unit->Option R)×Unit)->Int->Option R:=λ(a,b,c) d (f,g,_) h=>(cd (h<(ln a)) (bnd (Rk n (a,b,h)) λi=>(cnd (i) (f ()) (bnd (idx a h) λj=>(cnd (j.Changed==b) (d (wr (h+1))) (bnd (L4 n (a,c,h) (false,0)) λl=>(cnd ((!l)) (f ()) (d (wr (h+1))))))))) (g ()))
def L5:=oA sU
def RY: Lc 1 0 2:=bL 0x30b1d89b9962ca2f023b625f3a562fc4b556bd622 aG6 [⟨0,[cs RT]⟩,⟨1,[cs RX]⟩] [] @sU
def Df: Nat->cN->Option Bool
 | 0,_=>none
 | n+1,a=>(bnd (Rm n a) λb=>(cnd (b) (bnd (sQ n) λc=>(cnd (c) (some true) (some false))) (bnd (tC n a) λd=>(cnd ((ln d) != (wr ((wr ((ln a.Survey.Plan.Nodes)+(ln a.Survey.Plan.Arcs)))+(ln a.Survey.Features)))) (some false) (bnd (Rl n (a,(ln a.Txns))) λf=>(bnd2 (L5 n (d,(ln a.Txns),f) 0) (λ_=>(some false)) λg=>(bnd (some g) λ_=>(bnd (sQ n) λh=>(cnd (h) (some true) (some false))))))))))
def AL: Kn:=bJ 1 0x1fd78b302 aG6 [⟨0,[RW]⟩,⟨1,[RU]⟩,⟨2,[RY]⟩] [] Df
end
section
open Go.Sort
theorem aOq{m:Nat}{tb:List (List Int)}(hsw:s9 (m+1) tb=true){i:Nat}(hi:i<m+1): i∈ixG m tb:=by
 obtain⟨h1,_,h2⟩:=(pdq_sorts (Go.Proofs.ltOf λ(x y:Fin (m+1))=>at2 tb x.1 y.1) (HG hsw) (Array.ofFn λi=>i) 0 (m+1) (Lib.bitLen (m+1)) true true (ZF _) (by simp) (.inl rfl)).1
 unfold ixG
 refine Yb.2 ⟨⟨i,hi⟩,?_,rfl⟩
 have e:∀{k:Nat} (d:Array (Fin (m+1))),d.size=k->(d.extract 0 k).toList=d.toList:=λd hd=>by subst hd;rw[Array.extract_size]
 rw[e _ (by rw[h1];simp),e _ (by simp)] at h2
 exact h2.mem_iff.2 (by rw[Array.toList_ofFn];exact List.mem_ofFn.2 ⟨⟨i,hi⟩,rfl⟩)
theorem aI6{α:Type}{F:α->α->Option Int}{l r:List α}(h:mJ F l=some r): ∀x∈l,x∈r:=by
 cases l with
 | nil=>intro x hx;cases hx
 | cons a l=>
  unfold mJ at h
  simp only at h
  split at h
  .cases h
  rename_i tb _
  split at h
  .cases h
  rename_i hsw
  cases h
  intro x hx
  obtain⟨i,hi,rfl⟩:=Xb.1 hx
  refine Yb.2 ⟨i,aOq hsw (by simpa using hi),?_⟩
  unfold Ay;rw[Za hi]
theorem aB.and{α:Type}{f:Nat->Nat->Option α}{P Q:α->Prop}(h:aB f P)(k:∀n m r,f n m=some r->Q r): aB f λr=>P r/\Q r:=by
 obtain⟨r,hr,K,hK⟩:=h
 exact⟨r,⟨hr,k K K r (hK K K (Zg _) (Zg _))⟩,K,hK⟩
theorem aUr(D:List Aab)(hD:D.length<=2000)(l:List Aad)(hl:l.length<=2000)(i:Nat)(t:List Aab)(h:t=D++nk (l.take i)): aB (λn k=>kV oN n k (l,ln l) (t,(i:Int))) λr=>r=D++nk l:=
 bS (aZ (λx hx hlt=>by
  rw[bT (by omega)]
  exact aF (Dc (by rw[h];simp[nk];omega)) (aUr D hD l hl (i+1) _ (by rw[h];exact tkm (f:=λx:Aad=>(⟨1,x.ID⟩:Aab)) hx))) λhge=>aA (by rw[h,ZC hge]))
termination_by l.length-i
theorem aUq(D:List Aab)(hD:D.length<=2000)(l:List aP)(hl:l.length<=2000)(i:Nat)(t:List Aab)(h:t=D++ak (l.take i)): aB (λn k=>kV oM n k (l,ln l) (t,(i:Int))) λr=>r=D++ak l:=
 bS (aZ (λx hx hlt=>by
  rw[bT (by omega)]
  exact aF (Dc (by rw[h];simp[ak];omega)) (aUq D hD l hl (i+1) _ (by rw[h];exact tkm (f:=λx:aP=>(⟨2,x.ID⟩:Aab)) hx))) λhge=>aA (by rw[h,ZC hge]))
termination_by l.length-i
theorem aUp(D:List Aab)(hD:D.length<=2000)(l:List aD)(hl:l.length<=2000)(i:Nat)(t:List Aab)(h:t=D++fk (l.take i)): aB (λn k=>kV oL n k (l,ln l) (t,(i:Int))) λr=>r=D++fk l:=
 bS (aZ (λx hx hlt=>by
  rw[bT (by omega)]
  exact aF (Dc (by rw[h];simp[fk];omega)) (aUp D hD l hl (i+1) _ (by rw[h];exact tkm (f:=λx:aD=>(⟨3,x.ID⟩:Aab)) hx))) λhge=>aA (by rw[h,ZC hge]))
termination_by l.length-i
theorem aCg(s:aK): (KI s).length=s.Plan.Nodes.length+s.Plan.Arcs.length+s.Features.length:=by simp[KI,nk,ak,fk];omega
theorem aUk(s:aK)(hs:lG s): aB (λn _=>Ig n s) λr=>r=KI s:=by
 have h1:=hs.p.n;have h2:=hs.p.a;have h3:=hs.n
 exact aV (λ_=>rfl) (aE (aW (aUr [] (by simp) s.Plan.Nodes (by omega) 0 [] (by simp[nk]))) λa ha=>aE (aW (aUq a (by rw[ha];simp[nk];omega) s.Plan.Arcs (by omega) 0 a (by simp[ak]))) λb hb=>aE (aW (aUp b (by rw[hb,ha];simp[nk,ak];omega) s.Features (by omega) 0 b (by simp[fk]))) λd hd=>aA (by rw[hd,hb,ha];rfl))
theorem aPH(m:OM){c:Int}{x1 y1:List Aad}{x2 y2:List aP}{x3 y3:List Int}{x4 y4:List aD}(l:List Aab)(hl:l.length<=2000)(i:Nat)(t:List Aac)(h:t=(l.take i).map (og m)): aB (λn k=>kV oP n k (m,c,x1,x2,x3,x4,y1,y2,y3,y4,l,ln l) (t,(i:Int))) λr=>r=l.map (og m):=
 bS (aZ (λx hx hlt=>by
  rw[bT (by omega)]
  exact aF (Dc (x:=og m x) (by rw[h];simp;omega)) (aPH m l hl (i+1) _ (by rw[h];have:=tkm (D:=[]) (f:=og m) hx;simpa using this))) λhge=>aA (by rw[h,ZC hge]))
termination_by l.length-i
theorem aBu(c d:Int): orV c d<0↔c<0\/(c=0/\d<0):=by
 unfold orV
 by_cases h:c=0
 .by_cases h2:d=0<;>simp[h,h2]
 .simp[h]
theorem aGp{a b:Int}: Ms a b=0↔a=b:=by unfold Ms;split<;>(try split)<;>omega
theorem aW4(a b:Aac): aB (λn _=>oO n a b) λr=>r=orV (Ms a.Kind b.Kind) (Ms a.ID b.ID):=
 aV (λ_=>rfl) (aE (gD _ _) λx hx=>aE (gD _ _) λy hy=>aE (aTC x y) λr hr=>aA (by rw[hr,hx,hy]))
theorem aNI(l:List Aac): Swo (λa b=>orV (Ms a.Kind b.Kind) (Ms a.ID b.ID)) l where
 ir x _:=by simp only[aBu,Hj,aGp];omega
 tr x _ y _ z _:=by simp only[aBu,Hj,aGp];omega
 ti x _ y _ z _:=by simp only[aBu,Hj,aGp];omega
theorem aAF(a:cN)(q:cN)(hl:a.Txns.length<=100000)(hs:∀t∈a.Txns,FG t)(hr:Rp a.Txns eR (q,0)): ∃m,OrP 0 a.Txns eR [] (q,m)/\SA q/\(∀k∈KI q.Survey,Gd a.Txns.length (og m k)) /\
 aB (λn _=>tC n a) λr=>r.length=(KI q.Survey).length/\∀o,o∈r↔∃k∈KI q.Survey,og m k=o:=by
 obtain⟨m,h1,h2,h3,h4⟩:=aKM a.Txns hl hs a.Txns 0 eR q [] 0 [] [] [] [] [] [] [] [] rfl (by simp) aPS hr (λk hk=>by simp[KI,nk,ak,fk,eR,eS] at hk)
 refine⟨m,h1,h2,h3,aV (λ_=>rfl) (aS (aW h4) (λ_ h=>h.elim) λw hw=>aF rfl ?_)⟩
 have hn:=h2.s.p.n;have ha:=h2.s.p.a;have hf:=h2.s.n
 have hL:=aCg q.Survey
 refine aE (aUk _ (by rw[hw.2];exact h2.s)) λd hd=>?_
 rw[hw.2] at hd
 subst hd
 refine aE (aW (aPH w.1 (KI q.Survey) (by omega) 0 [] rfl)) λf hf=>?_
 subst hf
 rw[hw.1]
 refine aX (aF (xZ (Yi (by simp;omega))) (aE ((HI (F:=λn x y=>bnd (oO n x y) λh=>some h) (λx hx y hy=>aE (aW4 x y) λ_ h=>aA h) (aNI _)).and λn k r h=>aI6 h) λl hl=>aA ⟨by rw[hl.1.1];simp,λo=>⟨λho=>?_,λho=>?_⟩⟩))
 .exact Yb.1 (hl.1.2 o ho)
 .exact hl.2 o (Yb.2 ho)
end
theorem aGf(d f:List Aac)(h:Nat)(x:Aac)(hx:d[h]?=some x)(hf:f.length<=100000)(i:Nat)(g:Bool)(hg:g=true\/x∈f.drop i): aB (λn k=>kV sS n k (d,f,(h:Int)) (g,(i:Int))) λr=>r=true:=
 bS (aC (λhc=>by
  have hlt:i<f.length:=by have:=Zh hc;unfold ln at this;omega
  obtain⟨y,hy⟩:∃y,f[i]?=some y:=⟨_,Za hlt⟩
  rw[bT (by omega)]
  have e1:idx f (i:Int)=some y:=by rw[bK];exact hy
  have e2:idx d (h:Int)=some x:=by rw[bK];exact hx
  have st:g=true\/y=x\/x∈f.drop (i+1):=by
   rcases hg with hg | hg
   .exact .inl hg
   .rw[Xj hlt] at hg
    rcases ZO.1 hg with e | e
    .right;left;rw[e];rw[Za hlt] at hy;exact (ZE hy).symm
    .exact .inr (.inr e)
  refine aE (f:=λn _=>Ri n (d,f,(h:Int),g,(i:Int))) (Q:=λr=>r=true\/x∈f.drop (i+1)) (aC (λ_=>aA (.inl rfl)) λhg'=>aF e1 (aF e2 (aC (λ_=>aA (.inl rfl)) λhne=>aA ?_))) λr hr=>aC (λ_=>aGf d f h x hx hf (i+1) true (.inl rfl)) λhr'=>aGf d f h x hx hf (i+1) false (.inr (hr.resolve_left (by rw[hr'];simp)))
  rcases st with e | e | e
  .rw[e] at hg';cases hg'
  .exact absurd e (Zk hne)
  .exact .inr e) λhc=>aA (hg.resolve_right (by rw[Y9 (by have:=Zk hc;unfold ln at this;omega)];simp)))
termination_by f.length-i
theorem aGg(d f:List Aac)(c:Nat)(hd:d.length<=100000)(hf:f.length<=100000)(hG:∀x∈d,Gd c x)(hm:∀x∈d,x.Changed≠c->x∈f)(i:Nat): aB (λn k=>qH sU n k (d,(c:Int),f) (i:Int)) (Su (λ_=>False) λ_=>True):=
 bO (aC (λh=>by
  have hlt:i<d.length:=by have:=Zh h;unfold ln at this;omega
  obtain⟨x,hx⟩:∃x,d[i]?=some x:=⟨_,Za hlt⟩
  have e2:idx d (i:Int)=some x:=by rw[bK];exact hx
  have hxd:=Zf hx
  obtain⟨g1,g2,g3⟩:=hG x hxd
  rw[bT (by omega)]
  refine aE (f:=λn _=>Rk n (d,(c:Int),(i:Int))) (Q:=λr=>r=false) (aF e2 (aC (λb=>absurd (Zh b) (by omega)) λ_=>aF e2 (aF e2 (aC (λb=>absurd (Zh b) (by omega)) λ_=>aF e2 (aC (λb=>absurd (Zh b) (by omega)) λ_=>aA rfl))))) λr hr=>aC (λb=>by rw[hr] at b;cases b) λ_=>aF e2 (aC (λ_=>aGg d f c hd hf hG hm (i+1)) λb=>aE (aW (aGf d f i x hx hf 0 false (.inr (by rw[YB];exact hm x hxd (by simpa using b))))) λl hl=>aC (λb=>by rw[hl] at b;cases b) λ_=>aGg d f c hd hf hG hm (i+1))) λ_=>aA trivial)
termination_by d.length-i
theorem Rp.split{l:List dJ}{t:dJ}: ∀{p q:cN},Rp (l++[t]) p (q,0)->∃w,Rp l p (w,0):=by
 induction l with
 | nil=>intro p q h;exact⟨p,.nil p⟩
 | cons u l ih=>
  intro p q h
  cases h with
  | err _ _ _ _ h1 h2=>exact absurd rfl h2
  | ok _ _ _ v _ h1 h2 h3=>obtain⟨w,hw⟩:=ih h3;exact⟨w,.ok _ _ _ _ _ h1 h2 hw⟩
theorem aRE(a:cN)(q:cN)(m:OM)(hl:a.Txns.length<=12)(hs:∀t∈a.Txns,FG t)(hr:Rp a.Txns eR (q,0))(ho:OrP 0 a.Txns eR [] (q,m))(hq:SA q):
 aB (λn _=>Rl n (a,ln a.Txns)) λf=>f.length<=2000/\∀k∈KI q.Survey,(og m k).Changed≠(a.Txns.length:Int)->og m k∈f:=by
 rcases List.eq_nil_or_concat a.Txns with e | ⟨l,t,e⟩
 .have hn:¬ln a.Txns > 0:=by unfold ln;rw[e];simp
  refine aC (λb=>absurd (Zh b) hn) λ_=>aA ⟨by simp,λk hk=>?_⟩
  rw[e] at hr
  cases hr
  simp[KI,nk,ak,fk,eR,eS] at hk
 .rw[List.concat_eq_append] at e
  have hlen:a.Txns.length=l.length+1:=by rw[e];simp
  rw[e] at hr ho
  obtain⟨w,hw⟩:=Rp.split hr
  obtain⟨m1,k1,k2,k3,k4⟩:=aAF ⟨eS,l⟩ w (by show l.length<=_;omega) (λu hu=>hs u (by rw[e];exact List.mem_append_left _ hu)) hw
  obtain⟨z,m2,v,n1,n2,n3,n4,n5⟩:=ho.split
  cases n1.uniq k1
  have hc:cut a.Txns 0 (wr (ln a.Txns-1))=some l:=by
   have:=aGm (l:=a.Txns) (a:=0) (b:=l.length) (by omega) (by omega)
   have e3:wr (ln a.Txns-1)=((l.length:Nat):Int):=by unfold wr ln;rw[i64_in _ (by omega),hlen];omega
   rw[e3]
   refine this.trans ?_
   rw[e];simp
  refine aC (λ_=>aF hc (aE k4 λf hf=>aA ⟨?_,λk hk hne=>?_⟩)) λb=>absurd (Zk b) (by unfold ln;omega)
  .have:=aCg w.Survey;have:=k2.s.p.n;have:=k2.s.p.a;have:=k2.s.n;omega
  .rw[ZZ] at n4
   simp only at n5
   obtain⟨m3,j1,j2⟩:=aPz (c:=((l.length+1:Nat):Int)) (s:=w.Survey) (q:=v.1.Survey) (m:=m1) (by omega) k2.s (by rw[<-n5];exact hq.s) (λx hx=>by have:=k3 x hx;rw[show (((l.length+1:Nat):Int)-1)=(l.length:Int) by omega];exact this)
   have:=n4.uniq j1
   simp only at this
   subst this
   rw[n5] at hk
   rcases (j2 k hk).2 with c | ⟨c,d⟩
   .rw[hlen] at hne;exact absurd c hne
   .exact (hf.2 _).2 ⟨k,c,d.symm⟩
theorem aSk(aw:aB (λn _=>sQ n) λr=>r=true)(a:cN)(hw:Wd a.Survey.Plan): aB (λn _=>Df n a) λr=>r=true:=by
 refine aV (λ_=>rfl) (aE (f:=λn _=>Rm n a) (Q:=λr=>r=false->(SA a/\a.Txns.length<=12)/\VlP a) (aE (aOc a hw) λb hb=>aC (λh=>aE (aPe a (by have:=(hb h).2;omega) (hb h).1.t) λd hd=>aC (λk=>aA λ_=>⟨hb h,hd.1 k⟩) λ_=>aA (by simp)) λ_=>aA (by simp)) λb hb=>aC (λ_=>aU7 aw) λh=>?_)
 obtain⟨⟨h1,h2⟩,⟨v1,v2⟩,v3,v4,v5⟩:=hb h
 simp only at v4 v5
 subst v4
 obtain⟨m,k1,k2,k3,k4⟩:=aAF a v1 (by omega) h1.t v3
 have hL:=aCg v1.Survey
 have q1:=k2.s.p.n;have q2:=k2.s.p.a;have q3:=k2.s.n
 refine aE k4 λd hd=>aC (λb=>?_) λ_=>aE (aRE a v1 m h2 h1.t v3 k1 k2) λf hf=>aS (aW (aGg d f a.Txns.length (by omega) (by omega) (λx hx=>?_) (λx hx hne=>?_) 0)) (λ_ h=>h.elim) λw _=>aF rfl (aU7 aw)
 .rw[<-v5] at b
  simp only[bne_iff_ne,XT,ln] at b
  refine absurd ?_ b
  have e1:wr ((v1.Survey.Plan.Nodes.length:Int)+v1.Survey.Plan.Arcs.length)=(v1.Survey.Plan.Nodes.length:Int)+v1.Survey.Plan.Arcs.length:=by unfold wr;rw[i64_in _ (by omega)]
  rw[e1];unfold wr;rw[i64_in _ (by omega),hd.1,hL];push_cast;rfl
 .obtain⟨k,hk,rfl⟩:=(hd.2 x).1 hx
  exact k3 k hk
 .obtain⟨k,hk,rfl⟩:=(hd.2 x).1 hx
  exact hf.2 k hk hne
section
open Go.Proofs
theorem aI9{P:Program}{n:Nat}{a:TypeId}{xs:List AV}(h:Rr P n [a] xs): ∃x,xs=[x]/\∃ys,zZ P n a ys/\x=J9 P a ys:=
 match xs,h with
 | [x],⟨h1,_⟩=>⟨x,rfl,h1⟩
theorem aSZ(a:cN)(h:LnC 6 (iW.cds 13) (dQ.un 13 a)): Wd a.Survey.Plan:=by
 obtain⟨_,⟨_,ha⟩,_⟩:=h
 intro x hx
 obtain⟨⟨hv,_⟩,_⟩:=ha x hx
 exact hv
theorem aRD: AL.c=⟨[.v 13],[7],false,Df⟩:=by kernel_rfl
theorem aO8(xs:List AV)(h:Rr PP 10 [32] xs): ∃k H',fC PP T k 0 1 xs []=some (.lit (.bool true),H'):=by
 obtain⟨x,rfl,h1⟩:=aI9 h
 obtain⟨a,q1,l1⟩:=aOY (k:=13) (H:=[]) (by kernel_rfl) (by kernel_rfl) (.inl (by kernel_rfl)) h1
 obtain⟨r,hr,n,hn⟩:=aSk aOW a (aSZ a (l1 6))
 subst hr
 have hK:FOK PP T 1 ⟨[.v 13],[7],false,Df⟩:=aRD▸AL.ok
 exact aO4 hK (n:=n) (p:=a) (r:=true) (hn n n (Zg _) (Zg _)) rfl ⟨q1,trivial⟩
theorem aEq(os:Os)(started:os.Started)(H:Type)(enc:TypeId×Value->H):
 ReturnsInHanded {} Tryz.checked os 4 .any (λw args=>(Rows.txnEachSpec.pre enc Tryz.prog Tryz.f4 [] false w args/\laidMetH Tryz.prog Rows.txnEachRow.laid w)/\sizedMet enc Tryz.prog Tryz.f4 (OpenSpec.ofChange Rows.txnEachSpec) false w args)
  (Rows.txnEachSpec.post enc Tryz.prog Tryz.f4 false true false false):=by
 refine Q8 (C:=Tryz.checked) (X:=λw _=>laidMetH Tryz.prog Rows.txnEachRow.laid w) (λ_ _ _ hh h=>h.of_heap hh) own started (by kernel_rfl) Tryz.func4
  (ChangeSpec.witness_shaped (enc:=enc) (C:=Tryz.checked) (os:=os) (X:=λw _=>laidMetH Tryz.prog Rows.txnEachRow.laid w) false (World.laidAll Tryz.prog os Rows.txnEachRow.laid) #[.agg #[.slice none 0 0,.slice none 0 0,.slice none 0 0,.slice none 0 0,.slice none 0 0]] 8 (World.laidAll_os _ _ _)
   (World.shaped_of_ZipB (by kernel_rfl) (by kernel_rfl)) (by kernel_rfl) (by kernel_rfl) (by kernel_rfl)
   (by rw[MakeChecks.laidMetH_plain _ _ _ (by kernel_rfl)];exact laidMet_laidAll _ (by kernel_rfl) (by kernel_rfl))) ?_
 intro W base args ds gs before hval hW hlaid hsh hwt
 have hds:∃d0,ds=[d0]/\gs=[]:=by
  obtain⟨p,q,hA,hV,_⟩:=hW
  have hA':DataW.TrodAll enc Tryz.prog W 0 (λ_=>true) true [32] args.toList ds p:=by
   have:=hA
   rw[Tryz.params4] at this
   exact this
  obtain⟨v0,vs0,d0,ds0,p0,q0,_,rfl,rfl,h0,r0⟩:=ChangeShapes.trodAll_cons hA'
  obtain⟨rfl,rfl,rfl⟩:=ChangeShapes.trodAll_nil r0
  obtain⟨rfl,rfl⟩:=ChangeShapes.trodVars_none hV
  exact⟨_,rfl,rfl⟩
 obtain⟨d0,rfl,rfl⟩:=hds
 refine aBC (T:=T) (n:=10) (vi:=1) mixed checked aN7 (by kernel_rfl) rfl (tb:=4) (by kernel_rfl) (by kernel_rfl) laid (by rw[Tryz.params4];intro t ht;simp at ht;subst ht;exact⟨by kernel_rfl,Zh (by kernel_rfl)⟩) (by kernel_rfl) ?_ (aLH hlaid hsh) ⟨rfl,rfl,rfl⟩ hval hW ?_
 .intro xs hxs
  rw[Tryz.params4] at hxs
  exact aO8 xs hxs
 .intro n hn
  have:=Yh.1 hwt n (by
   have e:Tryz.f4.params.toList++Rows.txnEachSpec.plain.varTypes Tryz.prog=Tryz.f4.params.toList:=XB _
   show n∈DataW.weightsEach Tryz.prog (Tryz.f4.params.toList++Rows.txnEachSpec.plain.varTypes Tryz.prog) ([d0]++[])
   rw[e,XB];exact hn)
  simpa using this
theorem aJo: Rows.TxnEachSaid:=
 OpenClaim.holds_of_wide 4 Tryz.f4 rfl rfl rfl rfl rfl rfl rfl ⟨rfl,rfl,rfl,rfl,rfl⟩ rfl rfl rfl rfl rfl (by kernel_rfl) Tryz.func4 aJu
  (Zh (by kernel_rfl)) (by unfold Func.isWrapper;first | (rw[Zu (by decide +kernel)];kernel_rfl) | (rw[ZG (by decide +kernel)];exact⟨rfl,rfl⟩))
  (λos started H enc _=>aEq os started H enc)
theorem each_card: Rows.TxnEachCardSaid:=
 Claim7.holds_tied_plain_at .later [] [.data] true (true,"5f2e44b848a283ad6590559d892537b2f394330b1648daa94e42d46b75f41e2f") false
  aJo (λ_ h=>by cases h) aTN (λ_ h=>by cases h) txnEach_row_tie rfl ⟨rfl,rfl⟩ aTO rfl
  (λf fn hf hfn=>by
   obtain rfl:f=4:=ZE (aTR.symm.trans hf) |>.symm
   obtain rfl:fn=Tryz.f4:=(ZE (Tryz.func4.symm.trans hfn)).symm
   exact⟨aTP,λj t ht=>by
    rw[Tryz.params4] at ht
    exact match j,ht with
    | 0,ht=>(by have e:32=t:=(by simpa using ht);subst e;exact aOl)
    | n+1,ht=>(by simp at ht)⟩)
  aTQ
end
end Go.Proofs.YtglfoebmkbglgaaGreatDoor.Av
