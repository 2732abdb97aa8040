/- A part of the proof of a law. -/
import Derived.Test.YtabioopnpgiijaaGreatDoorP10
import Derived.Test.YtabioopnpgiijaaGreatDoorP7
import Derived.Test.YtabioopnpgiijaaGreatDoorP6
set_option maxRecDepth 100000
set_option maxHeartbeats 4000000
set_option linter.all false
namespace Go.Proofs.YtabioopnpgiijaaGreatDoor.Av
open Go
theorem T3{l:List Int}(h:Asc l): As l:=by
 have:∀(i j:Nat) (x y:Int),i<j->l[i]?=some x->l[j]?=some y->x<y:=by
  intro i j
  induction j with
  | zero=>intro x y hi;omega
  | succ j ih=>
   intro x y hi hx hy
   have hlt:j<l.length:=by have:=(Ze.1 hy).1;omega
   have em:=Zb hlt
   have h1:=h j _ y em hy
   rcases ZI i j with h2 | h2
   .have:=ih x _ h2 hx em;omega
   .have:i=j:=by omega
    subst this
    rw[em] at hx;cases hx;exact h1
 exact List.pairwise_iff_getElem.2 λi j hi hj hij=>this i j _ _ hij (Zb hi) (Zb hj)
theorem aOm{x y:Int}(h:CL x y=0): x=y:=by
 unfold CL at h
 split at h
 .cases h
 .split at h
  .cases h
  .omega
theorem aJd(a:aJ)(b:Int)(g:a.Plan.Arcs.length<=1000): aB (λn _=>rP n a b) λr=>r.2=true->∃c,a.Plan.Arcs[r.1.toNat]?=some c/\c.ID=b:=by
 refine aX (λ_=>rfl) (aS (f:=λn _=>Ct n (a.Plan.Arcs,b)) (Q:=λv=>v.2.2=true->∃c,a.Plan.Arcs[v.2.1.toNat]?=some c/\c.ID=b) (R:=λ_=>True) (aU (aE (bA (HK _ b g 0 a.Plan.Arcs.length (by omega) (Zf _))) λf e=>aC (λh=>?_) λ_=>aA trivial)) (λv c=>aC (λh=>aA λ_=>c h) λ_=>aA λh=>by cases h) λv c=>aF rfl (aA λh=>by cases h))
 have h:f<ln a.Plan.Arcs:=Zl h
 have d:f.toNat<a.Plan.Arcs.length:=by unfold ln at h;omega
 refine aF (tA e.1 d) (aE (f:=λn _=>mK n (a.Plan.Arcs[f.toNat],b)) (Q:=λr=>r=CL (a.Plan.Arcs[f.toNat]).ID b) (aU (aE (hJ _ _) λ_ k=>aA k)) λr k=>aC (λh=>aA (show true=true->∃c,a.Plan.Arcs[f.toNat]?=some c/\c.ID=b from λ_=>⟨_,Zb d,aOm ?_⟩)) λ_=>aA (show false=true->_ from λh=>by cases h))
 rw[<-show r=_ from k]
 simpa using h
theorem aO7(a b:List Int)(c:List Aab)(d:List aR)(f:List aI)(g h:Int)(t:a.length<=1000)(q:mL d d.length)(e:d.length<=300)(p:FeI f f.length 0)(i:f.length<=1000)(ha:As a): aB (λn _=>rH n (a,b,c,d,f,g,h)) λr=>(r.1.length<=a.length+1/\mL r.2.1 d.length/\r.2.2.length=f.length/\∀x∈r.2.2,x.Parts.length<=65)/\Swp g h a r.1:=
 aU (aE (bA (aC9 a b c f g h d.length e 0 d q)) λj o=>aE ((aFt g h a (by omega)).both (aJn g h a ha (by omega))) λl s=>aE (bA (aC8 l b c j g h f.length i 0 f p)) λm k=>aA ⟨⟨s.1,o,k.1,k.2⟩,s.2⟩)
theorem aO8(a b:List Int)(c:List Aab)(d:List aR)(f:List aI)(g:List Int)(h:List aR)(i:List Int)(j l:Int)(w:a.length<=1000)(p:mL h h.length)(e:h.length<=300)(u:FeI f f.length 0)(k:f.length<=1000)(v:i.length<=900000): aB (λn _=>Fv n (a,b,c,d,f,g,h,i,j,l)) λr=>(r.1.length<=a.length+1/\mL r.2.2 h.length/\r.2.1.length=f.length/\∀x∈r.2.1,x.Parts.length<=65)/\CW (a++[l]) r.1:=
 aU (aE (bA (aCB a c f g l i v h.length e 0 h p)) λo t=>aE ((U0 a [l] (by simp;omega)).both (aJi a [l] (by simp;omega))) λr q=>aE (bA (aCA r b c d o j l f.length k 0 f u)) λs m=>aA ⟨⟨by simpa using q.1,t,m.1,m.2⟩,q.2⟩)
theorem aO6(k:Nat)(b c:List Int)(d:List Aab)(f:List aR)(g:List aI)(h i:Int)(v:b.length<=1000)(s:mL f f.length)(a:f.length<=300)(p:k<=f.length)(q:FeI g g.length 0)(e:g.length<=1000)(hb:As b): aB (λn _=>Fs n ((0,k),b,c,d,f,g,h,i)) λr=>(r.1.length<=b.length+1/\mL r.2.1 f.length/\r.2.2.length=g.length/\∀x∈r.2.2,x.Parts.length<=65)/\Swp h i b r.1:=
 aU (aE (bA (aC7 k b c d g h i f.length p a 0 f s)) λl u=>aE ((aFt h i b (by omega)).both (aJn h i b hb (by omega))) λm t=>aE (bA (aC6 (0,k) m c d l h i g.length e 0 g q)) λo j=>aA ⟨⟨t.1,u,j.1,j.2⟩,t.2⟩)
theorem aO2(a:List Aab)(b:List Int)(c:List aR)(d f:Int)(e:b.length<=1000): aB (λn _=>Fi n (a,b,c,d,f)) (Su (λv=>v≠0) λ_=>f≠0/\f∉b):=
 aC (λ_=>aA (show (12:Int)≠0 by decide)) λh=>aE (s6 b f (by omega)) λc hc=>aC (λ_=>aA (show (8:Int)≠0 by decide)) λk=>aC (λ_=>aA (show (12:Int)≠0 by decide)) λ_=>aA (show f≠0/\f∉b from⟨by simpa using h,by rw[show c=_ from hc] at k;exact Zp k⟩)
def Ad(s:aJ)(g:aN)(n:Nat): Prop:=(g.C=0/\n=s.Plan.Faces.length)\/(g.C≠0/\n=s.Plan.Faces.length+1)
theorem aO9(hD:Sw)(s:aJ)(o:CU s)(b:List Int)(g:aN)(hg:aGC g): aB (λn _=>Fw n (s.Plan.Faces,b,s.Plan.Nodes,s.Plan.Arcs,s.Features,g)) (Su (λv=>v≠0) (Su (λv=>v.2.2≠0) (Su (λv=>v.2.2.2≠0) λv=>L19 s v/\Ad s g v.1.length))):=by
 have ok:=o.ok;have h1:=o.v.leA;have h2:=o.v.leN;have h3:=o.v.leF;have h4:=o.n;refine aU<|aE (T4 s g.ID<|by omega) λm J=>aC (λ_=>aA (by show _≠(0:Int);decide)) λ_=>aE (EH s g.A<|by omega) λ_ _=>aC (λ_=>aE (EH s g.B<|by omega) λ_ _=>aC (λ_=>?_) λ_=>aA (by show _≠(0:Int);decide)) λ_=>aE (EH s g.B<|by omega) λ_ _=>aC (λ_=>aA (by show _≠(0:Int);decide)) λ_=>aA (by show _≠(0:Int);decide);refine aE (aPX s.Plan.Arcs<|by omega) λsa O=>aE (aNC g.Via<|by have:=hg.1;omega) λt ht=>?_;subst O ht;refine aL8<|aF (O7 J.1 J.2.1<|by omega) ?_;let⟨q,R⟩:∃q:Nat,m.1=(q:Int):=⟨m.1.toNat,by have:=J.1;omega⟩;have a1:q<=s.Plan.Arcs.length:=by have:=J.2.1;omega
 generalize X:(s.Plan.Arcs.take m.1.toNat++(⟨g.ID,g.A,g.B,g.Via,0,0⟩:aR)::s.Plan.Arcs.drop m.1.toNat)=u;have I:mL u<|s.Plan.Arcs.length+1:=by
  refine⟨by rw[<-X,R];simp;omega,λa ha=>?_⟩;rw[<-X] at ha;rcases aEF ha with h | rfl
  .exact ok.p.v a h
  .have:=hg.1;show g.Via.length<=300;omega
 have G:Sm ⟨s.Plan.Nodes,u,s.Plan.Faces⟩:=⟨by show s.Plan.Nodes.length<=_;omega,by show u.length<=_;rw[I.1];omega,by show s.Plan.Faces.length<=_;omega,I.2⟩;refine aE (aFw _ G) λ_ _=>aC (λz=>aA (by show _≠(0:Int);simpa using z)) λ_=>aE (aLC hD _ G) λw hw=>aC (λz=>aA (by show _≠(0:Int);simpa using z)) λK=>?_;let⟨U,Q⟩:=hw.2 (by simpa using K);let⟨x,T,V,l,_⟩:=MZ hD w.1 hw.1;refine aE T λx' N=>?_;subst N;refine aC (λz=>aA (by show _≠(0:Int);simpa using z)) λS=>?_;let⟨hV,C⟩:=V (by simpa using S);have H:q<w.1.Arcs.length:=by rw[U];show q<u.length;rw[I.1];omega
 have ey:idx w.1.Arcs m.1=some w.1.Arcs[q]:=by rw[R,bF];exact Zb H
 have d:∀z:Int,(z=0\/z∈w.1.Faces)->0<=z/\z.toNat<x'.1.length:=by
  intro z F;rcases F with rfl | F
  .exact⟨Wn _,by rw[C];simp⟩
  .have:=Q.mem F;omega
 have E:=hV.sid _<|ZP H;have W:=d _ E.1;have sr:=d _ E.2;let⟨j,k0,k1,k2⟩:=I.at (i:=q) (by omega);refine aF ey<|aF ey<|aF (tA W.1 W.2)<|aF (tA sr.1 sr.2)<|aE (aGM _ ok.p g.ID [_,_] (by simp) (by
  intro r M;rcases ZN.1 M with rfl | M
  .exact (l.2 _<|ZP _).da
  .rw[ZJ.1 M];exact (l.2 _<|ZP _).da)) λc0 _=>?_
 rw[R];refine aF k1<|aF k2 ?_;simp only[YA];have y:mL (u.set q ⟨j.ID,j.From,j.To,j.Via,c0,j.Right⟩)<|s.Plan.Arcs.length+1:=I.set k0 rfl;generalize u.set q ⟨j.ID,j.From,j.To,j.Via,c0,j.Right⟩=Y at y;let⟨e,j0,j1,j2⟩:=y.at (i:=q) (by omega);refine aF j1<|aF j2 ?_;have c:mL (Y.set q ⟨e.ID,e.From,e.To,e.Via,e.Left,c0⟩)<|s.Plan.Arcs.length+1:=y.set j0 rfl;generalize Y.set q ⟨e.ID,e.From,e.To,e.Via,e.Left,c0⟩=u3 at c;have D:L19 s (s.Plan.Faces,s.Features,u3,[(⟨g.ID,g.A,g.B,g.Via,0,0⟩:aR)],w.1):=⟨by show s.Plan.Faces.length<=65;omega,⟨by show s.Features.length<=1000;omega,λf hf=>by have:=o.f f hf;omega⟩,c⟩;refine aC (λ_=>aC (λ_=>aA (by show (12:Int)≠0;decide)) λz=>aA<|by exact⟨D,.inl ⟨by simpa using z,rfl⟩⟩) λ_=>aE (aQK g _ _) λz F=>aS (aO2 _ _ _ _ _<|by omega) (λ_ h=>aA (by exact h)) λ_ hp=>aF rfl ?_;have Z:0<=z/\z.toNat<x'.1.length:=by rcases F with rfl | rfl<;>assumption
 obtain⟨hp1,hp2⟩:=hp
 refine aF (tA Z.1 Z.2)<|aE (aEY _ (l.2 _<|ZP _).da) λl0 L=>aE (aO8 s.Plan.Faces b s.Plan.Nodes s.Plan.Arcs s.Features s.Plan.Faces u3 l0 c0 _ (by omega) ⟨rfl,c.2⟩ (by rw[c.1];omega) o.fe (by omega) L) λm0 hk=>aA ?_
 obtain⟨k,on⟩:=hk
 refine⟨⟨by have:=k.1;show m0.1.length<=65;omega,⟨by show m0.2.1.length<=1000;rw[k.2.2.1];omega,k.2.2.2⟩,by have:=k.2.1;rw[c.1] at this;exact this⟩,.inr ⟨λz=>hp1 (by rw[z];decide),?_⟩⟩
 have:=As.len on.s (T3 o.v.asF) ((on.m _).2 (List.mem_append_right _ ZM)) λx=>by
  rw[on.m x,ZD,ZJ]
  exact⟨λh=>⟨.inl h,λe=>hp2 (e▸h)⟩,λh=>h.1.elim id λe=>absurd e h.2⟩
 exact this.symm
def aS6(s:aJ)(g:aN): Int⊕(List aR×List aR×Int)⊕(List aR×List aR×List Aab×List aR×List Int×Int)⊕(List Int×List aI×List aR×List aR×List Aab×List aR×List Int)⊕(List aR×Int)⊕(List Int×List aR×List aI×Int×Int)⊕((Nat×Nat)×List Int×List aR×List aI×Int×Int)⊕((Nat×Nat)×List aR)->Prop:=
 Su (λv=>v≠0) (Su (λv=>v.2.2≠0) (Su (λv=>v.2.2.2.2.2≠0) (Su (λv=>(v.1.length<=300/\Ft v.2.1/\Ar v.2.2.1)/\g.Kind=4/\Ad s g v.1.length) (Su (λv=>Ar v.1/\(v.2=0->g.Kind=6)) (Su (λ_=>False) (Su (λv=>(v.2.1.length<=300/\Ar v.2.2.1/\Ft v.2.2.2.1)/\g.Kind≠4/\g.Kind≠6/\∃a,a∈s.Plan.Arcs/\a.ID=g.ID/\a.Left≠a.Right/\v.2.1.length+1=s.Plan.Faces.length) λv=>Ar v.2/\g.Kind≠4/\g.Kind≠6/\∃a,a∈s.Plan.Arcs/\a.ID=g.ID/\a.Left=a.Right))))))
theorem aOA(y:Sw)(s:aJ)(f:CU s)(b:List Int)(g:aN)(l:aGC g): aB (λn _=>Fx n (s.Plan.Faces,b,s.Plan.Nodes,s.Plan.Arcs,s.Features,g)) (aS6 s g):=by
 have ok:=f.ok
 have H:=f.v.leA
 have I:=f.v.leN
 have K:=f.v.leF
 have J:=f.n
 have d:=f.ar.le (by omega)
 refine aU (aC (λhk=>aS (aO9 y s f b g l) (λ_ z=>aA (by exact z)) λu z=>?_) λhk=>?_)
 .have hk:g.Kind=4:=by simpa using hk
  rcases u with v | u
  .exact aA (by exact z)
  rcases u with v | v
  .exact aA (by exact z)
  .obtain⟨⟨G,E,C⟩,A⟩:=z
   exact aA (show (_/\_/\_)/\_/\_ from⟨⟨by show v.1.length<=300;omega,E,C.le (by omega)⟩,hk,A⟩)
 have hk:g.Kind≠4:=by simpa using hk
 have ko:∀(l:List aR) (k:Int),Ar l->k≠0->(Ar l/\(k=0->g.Kind=6)):=λl k h n=>⟨h,λe=>absurd e n⟩
 refine aE ((T4 s g.ID (by omega)).both (aJd s g.ID (by omega))) λm ho=>aC (λB=>?_) λ_=>aA (by exact ko _ _ d (by simp))
 obtain⟨o,ox⟩:=ho
 have c:=o.2.2 B
 obtain⟨ar,har,hid⟩:=ox B
 obtain⟨q,x⟩:∃q:Nat,m.1=(q:Int):=⟨m.1.toNat,by have:=o.1;omega⟩
 rw[x] at c har |-
 have c:q<s.Plan.Arcs.length:=by simpa using c
 have e:=Zb c
 rw[YA,e] at har
 obtain rfl:=ZR har
 have k:gM s.Plan.Arcs s.Plan.Arcs.length (q:Int)=some s.Plan.Arcs[q]:=by rw[fS c];exact e
 have e2:idx s.Plan.Arcs (q:Int)=some s.Plan.Arcs[q]:=by rw[bF];exact e
 have am:=ZP c
 rw[cA (by omega)]
 refine aC (λhb=>aE (aNC g.Via (by have:=l.1;omega)) λt F=>aF k (aF e2 (aA ?_))) λhb=>aE (RY s ok 2 g.ID) λ_ _=>aC (λ_=>aA (by exact ko _ _ d (by simp))) λ_=>aF k (aF e2 (aF k (aF e2 (aE (aQJ s ok _ _) λ_ _=>aC (λ_=>aA (by exact ko _ _ d (by simp))) λ_=>aS (aIM s.Plan.Faces b s.Plan.Nodes s.Features s.Plan.Arcs (by omega) q c) (λ_ h=>h.elim) λv D=>aF rfl ?_))))
 .show Ar (List.set _ _ _)/\_
  refine⟨⟨by rw[Yr];exact d.1,λa i=>?_⟩,λ_=>by simpa using hb⟩
  rcases YL i with i | rfl
  .exact d.2 a i
  .subst F;have:=l.1;show g.Via.length<=300;omega
 .subst D
  have hb:g.Kind≠6:=by simpa using hb
  have w:mL (HB s.Plan.Arcs ⟨0,0,0,[],0,0⟩ q) (HB s.Plan.Arcs ⟨0,0,0,[],0,0⟩ q).length:=⟨rfl,λa i=>by
   rcases aBC _ _ _ a i with h | rfl
   .exact ok.p.v a h
   .simp⟩
  have A:=aIK s.Plan.Arcs ⟨0,0,0,[],0,0⟩ (by omega) q c
  refine aC (λhn=>aE (aO6 (s.Plan.Arcs.length-1) s.Plan.Faces b s.Plan.Nodes (HB s.Plan.Arcs ⟨0,0,0,[],0,0⟩ q) s.Features _ _ (by omega) w (by omega) (by omega) f.fe (by omega) (T3 f.v.asF)) λr hj=>aA ?_) λhn=>aA (by exact⟨w.le (by omega),hk,hb,_,am,hid,by simpa using hn⟩)
  obtain⟨j,sw⟩:=hj
  have ne:s.Plan.Arcs[q].Left≠s.Plan.Arcs[q].Right:=by simpa using hn
  have sid:=f.v.sid _ am
  have pos:∀z∈s.Plan.Faces,1<=z:=λz hz=>(f.v.nuF z hz).1
  refine (show (_/\_/\_)/\_ from⟨⟨by have:=j.1;show r.1.length<=300;omega,j.2.1.le (by omega),by rw[j.2.2.1];omega,j.2.2.2⟩,hk,hb,_,am,hid,ne,sw.less ?_ ?_ ?_⟩)
  .unfold iP
   split
   .rcases sid.2 with h | h
    .rcases sid.1 with h' | h'
     .omega
     .have:=pos _ h';omega
    .exact h
   .rcases sid.1 with h | h
    .rcases sid.2 with h' | h'
     .omega
     .have:=pos _ h';omega
    .exact h
  .unfold pH
   split
   .exact sid.2
   .exact sid.1
  .unfold pH iP
   split<;>split<;>omega
theorem wY{f:Nat->Nat->Option Int}{k:Nat->Nat->Int->Option Int}{s:aJ}(e:Int)(i:aB f λr=>r=0->CU s)(c:e≠0->aB f λr=>r≠0)(b:∀r,aB (λn m=>k n m r) λq=>q=0->r=0): aB (λn m=>Av.bnd (f n m) λr=>Av.bnd (k n m r) λq=>Av.cnd (q != 0) (some ((⟨⟨[],[],[]⟩,[]⟩:aJ),q)) (some (s,0))) λv=>v.2=0->CU v.1/\v.1=s/\e=0:=by
 have er:∀q:Int,(q != 0)=true->aB (λ_ _=>some ((⟨⟨[],[],[]⟩,[]⟩:aJ),q)) λv=>v.2=0->CU v.1/\v.1=s/\e=0:=λq h=>aA λc=>by rw[show q=0 from c] at h;simp at h
 by_cases he:e=0
 .exact aE i λr d=>aE (b r) λq a=>aC (er q) λh=>aA λ_=>⟨d (a (by simpa using h)),rfl,he⟩
 .exact aE (c he) λr d=>aE (b r) λq a=>aC (er q) λh=>absurd (a (by simpa using h)) d
def FcW(s:aJ)(g:aN)(n:Nat): Prop:=(g.Kind=4/\Ad s g n)\/(g.Kind=5/\∃a,a∈s.Plan.Arcs/\a.ID=g.ID/\((a.Left=a.Right/\n=s.Plan.Faces.length)\/(a.Left≠a.Right/\n+1=s.Plan.Faces.length)))\/(g.Kind≠4/\g.Kind≠5/\n=s.Plan.Faces.length)
theorem aO5(s:aJ)(a:CU s)(b:List Int)(g:aN)(hA:g.A≠0): aB (λn _=>Fq n (s.Plan.Faces,b,s.Plan.Nodes,s.Plan.Arcs,s.Features,g)) (Su (λv=>v≠0) λv=>(v.1.length<=65/\mL v.2.1 s.Plan.Arcs.length/\v.2.2.1.length=s.Features.length/\∀x∈v.2.2.1,x.Parts.length<=65)/\v.1.length=s.Plan.Faces.length):=by
 have i:=a.v.leF
 have d:=a.v.leA
 have e:=a.n
 refine aU (aS (f:=λn _=>Ey n (s.Plan.Faces,s.Plan.Nodes,s.Plan.Arcs,s.Features,g)) (Q:=λv:Int=>v≠0) (R:=λ_=>g.ID∈s.Plan.Faces/\g.A∉s.Plan.Faces) (aE (s6 s.Plan.Faces g.ID (by omega)) λx hx=>aC (λk=>aE (s6 s.Plan.Faces g.A (by omega)) λy hy=>aC (λ_=>aA (show (8:Int)≠0 by decide)) λl=>aA (show _/\_ from⟨by rw[show x=_ from hx] at k;exact Zl k,by rw[show y=_ from hy] at l;exact Zp l⟩)) λ_=>aA (show (7:Int)≠0 by decide)) (λ_ h=>aA (by exact h)) λ_ hp=>aF rfl ?_)
 exact aE (aO7 s.Plan.Faces b s.Plan.Nodes s.Plan.Arcs s.Features g.ID g.A (by omega) a.ar (by omega) a.fe (by omega) (T3 a.v.asF)) λm hc=>aA (by
  obtain⟨c,sw⟩:=hc
  exact⟨⟨by have:=c.1;show m.1.length<=65;omega,c.2.1,c.2.2.1,c.2.2.2⟩,sw.keep hp.1 hA hp.2⟩)
theorem cz{e:Int}{x:Nat->Nat->Option Int}(h:e≠0): aB (λn m=>cnd (e==0) (x n m) (some e)) λr=>r≠0:=
 aC (λk=>absurd (by simpa using k) h) λ_=>aA h
theorem aH7(d:Sw)(e:n8)(s:aJ)(a:CU s)(g:aN)(b:List Int): aB (λn _=>bnd2 (tD n (s.Plan.Faces,b,s.Plan.Nodes,s.Plan.Arcs,s.Features,g)) (λf=>(bnd (cD n (s.Plan.Faces,f.1,s.Plan.Arcs,s.Features,f.2)) λq=>(bnd (dX n (s,g,s.Plan.Faces,f.1,s.Plan.Arcs,s.Features,q,g.ID)) λh=>(cnd (h != 0) (some ((aJ.mk (aM.mk [] [] []) []),h)) (some ((aJ.mk (aM.mk f.1 s.Plan.Arcs s.Plan.Faces) s.Features),0)))))) λi=>(bnd2 (some i) (λj=>(bnd (rG n (j.1,s.Plan.Faces,j.2,s.Plan.Arcs,s.Features,0)) λl=>(bnd (rE n (s,g,j.1,s.Plan.Faces,j.2,s.Plan.Arcs,s.Features,l,g.ID)) λm=>(cnd (m != 0) (some ((aJ.mk (aM.mk [] [] []) []),m)) (some ((aJ.mk (aM.mk (win j.2 (some j.1)) s.Plan.Arcs s.Plan.Faces) s.Features),0)))))) λo=>(bnd (some o) λr=>(bnd (cD n (s.Plan.Faces,r.1,s.Plan.Arcs,s.Features,0)) λq=>(bnd (dX n (s,g,s.Plan.Faces,r.1,s.Plan.Arcs,s.Features,q,g.ID)) λt=>(cnd (t != 0) (some ((aJ.mk (aM.mk [] [] []) []),t)) (some ((aJ.mk (aM.mk r.1 s.Plan.Arcs s.Plan.Faces) s.Features),0)))))))) λr=>r.2=0->CU r.1/\r.1.Plan.Faces=s.Plan.Faces:=by
 have ok:=a.ok
 have c:=a.ar.le (by have:=a.v.leA;omega)
 have k:s.Plan.Faces.length<=300:=by have:=a.v.leF;omega
 have fin:∀{t:aJ} {e:Int} {v:aJ×Int},t.Plan.Faces=s.Plan.Faces->(v.2=0->CU v.1/\v.1=t/\e=0)->v.2=0->CU v.1/\v.1.Plan.Faces=s.Plan.Faces:=λq h z=>⟨(h z).1,by rw[(h z).2.1];exact q⟩
 refine aS (aS9 s a b g) (λv x=>?_) λu w=>?_
 .have o:=TW (n:=v.1) (show v.1.length<=300 from ZB x (by decide)) c k a.fs
  exact (wY v.2 (B8 d _ _ _ _ _ o) (λh=>cz h) λr=>aG8 e s g _ _ _ _ r g.ID ok.p o.p).imp λv=>fin rfl
 .rcases u with v | v
  .have o:=TW (n:=win v.2 (some v.1)) (show _<=300 from ZB w (by decide)) c k a.fs
   exact (wY 0 (aQM d _ _ _ _ _ _ o) (λh=>absurd rfl h) λr=>aQL e s g _ _ _ _ _ r g.ID ok.p o.p).imp λv=>fin rfl
  .have o:=TW (n:=v.1) (show v.1.length<=300 from ZB w (by decide)) c k a.fs
   exact (wY 0 (B8 d _ _ _ _ _ o) (λh=>absurd rfl h) λr=>aG8 e s g _ _ _ _ r g.ID ok.p o.p).imp λv=>fin rfl
theorem kd3{k a b c:Int}: aB (λ_ _=>cnd (k==a) (some true) (cnd (k==b) (some true) (cnd (k==c) (some true) (some false)))) λr=>r=true↔k=a\/k=b\/k=c:=by
 refine aC (λz=>aA ⟨λ_=>.inl (by simpa using z),λ_=>rfl⟩) λz1=>aC (λz=>aA ⟨λ_=>.inr (.inl (by simpa using z)),λ_=>rfl⟩) λz2=>aC (λz=>aA ⟨λ_=>.inr (.inr (by simpa using z)),λ_=>rfl⟩) λz3=>aA ⟨by simp,λz=>?_⟩
 simp at z1 z2 z3
 omega
theorem aKo(a:Sw)(d:n8)(s:aJ)(e:CU s)(g:aN)(l:aGC g)(hA:g.Kind=12->g.A≠0): aB (λn _=>vD n s g) λr=>r.2=0->CU r.1/\FcW s g r.1.Plan.Faces.length:=by
 have ok:=e.ok
 have h:s.Plan.Nodes.length<=300:=by have:=e.v.leN;omega
 have i:=e.ar.le (by have:=e.v.leA;omega)
 have k:s.Plan.Faces.length<=300:=by have:=e.v.leF;omega
 have fin:∀{t:aJ} {c:Int} {v:aJ×Int},(c=0->FcW s g t.Plan.Faces.length)->(v.2=0->CU v.1/\v.1=t/\c=0)->v.2=0->CU v.1/\FcW s g v.1.Plan.Faces.length:=λq h z=>⟨(h z).1,by rw[(h z).2.1];exact q (h z).2.2⟩
 refine aX (λ_=>rfl) (aE (aPL s ok) λc m=>?_)
 subst m
 refine aE (f:=λn _=>Js n g.Kind) (Q:=λr=>r=true↔(g.Kind=1\/g.Kind=2\/g.Kind=3)) ?_ λc4 h4=>aC (λz=>?_) λz4=>aE (f:=λn _=>Fk n g.Kind) (Q:=λr=>r=true↔(g.Kind=4\/g.Kind=5\/g.Kind=6)) ?_ λc17 h17=>aC (λz=>aS (aOA a s e s.Plan.Faces g l) (λv b=>?_) λu b=>?_) λz17=>?_
 .exact kd3
 .have z:=h4.1 z
  exact (aH7 a d s e g s.Plan.Faces).imp λr q w=>⟨(q w).1,by rw[(q w).2];exact .inr (.inr ⟨by omega,by omega,rfl⟩)⟩
 .exact kd3
 .exact (wY v (B8 a _ _ _ _ _ ok) (λh=>cz h) λr=>aG8 d s g _ _ _ _ r 0 ok.p ok.p).imp λ_=>fin λz=>absurd z b
 .have z:=h17.1 z
  rcases u with v | u
  .exact (wY v.2.2 (B8 a _ _ _ _ _ ok) (λh=>cz h) λr=>aFr d s g _ _ _ _ r ok.p ok.p).imp λ_=>fin λz=>absurd z b
  rcases u with v | u
  .exact (wY v.2.2.2.2.2 (B8 a _ _ _ _ _ ok) (λh=>cz h) λr=>aFr d s g _ _ _ _ r ok.p ok.p).imp λ_=>fin λz=>absurd z b
  rcases u with v | u
  .obtain⟨b,bk,ba⟩:=b
   have o:=TW h b.2.2 b.1 b.2.1.ok
   exact (wY 0 (aQI a _ _ _ _ _ o) (λh=>absurd rfl h) λr=>aQH d s g _ _ _ _ r ok.p o.p).imp λ_=>fin λ_=>.inl ⟨bk,ba⟩
  rcases u with v | u
  .obtain⟨b,bk⟩:=b
   have o:=TW h b k e.fs
   exact (wY v.2 (B8 a _ _ _ _ _ o) (λh=>cz h) λr=>aG8 d s g _ _ _ _ r 0 ok.p o.p).imp λ_=>fin λz=>.inr (.inr ⟨by have:=bk z;omega,by have:=bk z;omega,rfl⟩)
  rcases u with v | u
  .exact b.elim
  rcases u with v | v
  .obtain⟨b,n4,n6,x,x1,x2,x3,x4⟩:=b
   have o:=TW h (b.2.1.win (some v.1)) b.1 b.2.2.ok
   exact (wY 0 (aM1 a _ _ _ _ _ _ o) (λh=>absurd rfl h) λr=>aM0 d s g _ _ _ _ _ r ok.p o.p).imp λ_=>fin λ_=>.inr (.inl ⟨by omega,x,x1,x2,.inr ⟨x3,x4⟩⟩)
  .obtain⟨b,n4,n6,x,x1,x2,x3⟩:=b
   have o:=TW h (Ar.win b (some v.1)) k e.fs
   exact (wY 0 (aM1 a _ _ _ _ _ _ o) (λh=>absurd rfl h) λr=>aM0 d s g _ _ _ _ _ r ok.p o.p).imp λ_=>fin λ_=>.inr (.inl ⟨by omega,x,x1,x2,.inl ⟨x3,rfl⟩⟩)
 .have n4:g.Kind≠4/\g.Kind≠5:=by
   have:¬(g.Kind=4\/g.Kind=5\/g.Kind=6):=λq=>by rw[h17.2 q] at z17;cases z17
   omega
  refine aC (λk=>aS (aO5 s e s.Plan.Faces g (hA (by simpa using k))) (λv b=>?_) λv j=>aF rfl ?_) λ_=>aS (aQV s e s.Plan.Faces g l) (λv j=>?_) λu b=>?_
  .exact (wY v (B8 a _ _ _ _ _ ok) (λh=>cz h) λr=>aG8 d s g _ _ _ _ r 0 ok.p ok.p).imp λ_=>fin λz=>absurd z b
  .obtain⟨j,jf⟩:=j
   have o:=TW h (j.2.1.le (by have:=e.v.leA;omega)) (show v.1.length<=300 from ZB j.1 (by decide)) (Ft.ok ⟨by rw[j.2.2.1];have:=e.n;omega,j.2.2.2⟩)
   exact (wY 0 (B8 a _ _ _ _ _ o) (λh=>absurd rfl h) λr=>aFr d s g _ _ _ _ r ok.p o.p).imp λ_=>fin λ_=>.inr (.inr ⟨n4.1,n4.2,jf⟩)
  .have o:=TW h i k j
   exact (wY v.2 (B8 a _ _ _ _ _ o) (λh=>cz h) λr=>aG8 d s g _ _ _ _ r 0 ok.p o.p).imp λ_=>fin λ_=>.inr (.inr ⟨n4.1,n4.2,rfl⟩)
  .rcases u with v | v
   .have o:=TW h i k (show s7 (win v.2 (some v.1)) from b)
    exact (wY 0 (aQG a _ _ _ _ _ _ o) (λh=>absurd rfl h) λr=>aQF d s g _ _ _ _ _ r ok.p o.p).imp λ_=>fin λ_=>.inr (.inr ⟨n4.1,n4.2,rfl⟩)
   .have o:=TW h i k (show s7 v.1 from b)
    exact (wY 0 (B8 a _ _ _ _ _ o) (λh=>absurd rfl h) λr=>aFr d s g _ _ _ _ r ok.p o.p).imp λ_=>fin λ_=>.inr (.inr ⟨n4.1,n4.2,rfl⟩)
theorem aIw{a b:Int}(h:0<=a)(k:0<=b): 0<=pH a b/\pH a b<=a/\pH a b<=b/\(pH a b=a\/pH a b=b):=by
 unfold pH
 split<;>omega
theorem aFy{x:Int}(h:-1000000<=x/\x<=1000000): wr x=x:=by rw[wr,i64_in _ (by omega)]
theorem aQo(p:aM)(c d:Int): aB (λn _=>p9 n (p,60,c,d)) λr=>r=true↔d<ln p.Arcs/\c<=60:=
 aC (λh=>aC (λk=>aA ⟨λ_=>⟨Zl h,Zl k⟩,λ_=>rfl⟩) λk=>aA ⟨by simp,λq=>absurd q.2 (Zp k)⟩) λh=>aA ⟨by simp,λq=>absurd q.1 (Zp h)⟩
theorem aMj(p:aM)(hl:p.Arcs.length<=60)(i:Nat)(c:Int)(h0:0<=c)(h1:c<=122)(hu:c<=60->yY p.Arcs i λa=>a.Via.length<=60): aB (λn m=>qN Iu n m (p,60) (c,(i:Int))) λr=>r<=60->∀a∈p.Arcs,a.Via.length<=60:=
 bZ (aE (aQo p c i) λr hr=>aC (λh=>by
  obtain⟨hi,hc⟩:=hr.1 h
  have hi:i<p.Arcs.length:=by unfold ln at hi;omega
  have em:=Zb hi
  refine aF (x:=p.Arcs[i]) (by rw[bF];exact em) ?_
  have b:=aIw (a:=ln p.Arcs[i].Via) (b:=61) (by unfold ln;omega) (by decide)
  rw[cA (i:=i) (by omega),show wr (60+1)=61 from aFy (by decide),aFy (x:=c+_) (by omega)]
  refine aMj p hl (i+1) _ (by omega) (by omega) λk=>(hu hc).step em ?_
  have:ln p.Arcs[i].Via<=60:=by omega
  unfold ln at this
  omega) λh=>aA λk=>(hu k).fin (by
   have:¬((i:Int)<ln p.Arcs/\c<=60):=λq=>by rw[hr.2 q] at h;cases h
   unfold ln at this
   omega))
termination_by p.Arcs.length-i
theorem aKZ(p:aM): aB (λn _=>U9 n p 60) λr=>r=true->Sm p:=by
 refine aX (λ_=>rfl) (aE (f:=λn _=>r4 n (p,60)) (Q:=λr=>r=false->p.Nodes.length<=60/\p.Arcs.length<=60/\p.Faces.length<=60) (aC (λ_=>aA (by simp)) λh=>aC (λ_=>aA (by simp)) λk=>aC (λ_=>aA (by simp)) λj=>aA λ_=>by
  have h:=Zp h
  have k:=Zp k
  have j:=Zp j
  unfold ln at h k j
  exact⟨by omega,by omega,by omega⟩) λr hr=>aC (λ_=>aA (by simp)) λh=>aE (bA (aMj p (hr h).2.1 0 0 (by omega) (by omega) λ_=>.nil)) λd hd=>aC (λk=>aA λ_=>?_) λ_=>aA (by simp))
 have q:=hr h
 exact⟨by omega,by omega,by omega,λa ha=>by have:=hd (Zl k) a ha;omega⟩
theorem aQn(s:aJ)(c d:Int): aB (λn _=>o8 n (s,60,c,d)) λr=>r=true↔d<ln s.Features/\c<=60:=
 aC (λh=>aC (λk=>aA ⟨λ_=>⟨Zl h,Zl k⟩,λ_=>rfl⟩) λk=>aA ⟨by simp,λq=>absurd q.2 (Zp k)⟩) λh=>aA ⟨by simp,λq=>absurd q.1 (Zp h)⟩
theorem aMi(s:aJ)(hl:s.Features.length<=60)(i:Nat)(c:Int)(h0:0<=c)(h1:c<=122)(hu:c<=60->yY s.Features i λa=>a.Parts.length<=60): aB (λn m=>qN It n m (s,60) (c,(i:Int))) λr=>r<=60->∀a∈s.Features,a.Parts.length<=60:=
 bZ (aE (aQn s c i) λr hr=>aC (λh=>by
  obtain⟨hi,hc⟩:=hr.1 h
  have hi:i<s.Features.length:=by unfold ln at hi;omega
  have em:=Zb hi
  refine aF (x:=s.Features[i]) (by rw[bF];exact em) ?_
  have b:=aIw (a:=ln s.Features[i].Parts) (b:=61) (by unfold ln;omega) (by decide)
  rw[cA (i:=i) (by omega),show wr (60+1)=61 from aFy (by decide),aFy (x:=c+_) (by omega)]
  refine aMi s hl (i+1) _ (by omega) (by omega) λk=>(hu hc).step em ?_
  have:ln s.Features[i].Parts<=60:=by omega
  unfold ln at this
  omega) λh=>aA λk=>(hu k).fin (by
   have:¬((i:Int)<ln s.Features/\c<=60):=λq=>by rw[hr.2 q] at h;cases h
   unfold ln at this
   omega))
termination_by s.Features.length-i
theorem aKY(s:aJ): aB (λn _=>U5 n s 60) λr=>r=true->Sv s:=by
 refine aX (λ_=>rfl) (aE (f:=λn _=>o9 n (s,60)) (Q:=λr=>r=false->Sm s.Plan/\s.Features.length<=60) (aE (aKZ s.Plan) λc hc=>aC (λz=>aC (λ_=>aA (by simp)) λj=>aA λ_=>⟨hc z,?_⟩) λ_=>aA (by simp)) λr hr=>aC (λ_=>aA (by simp)) λh=>aE (bA (aMi s (hr h).2 0 0 (by omega) (by omega) λ_=>.nil)) λd hd=>aC (λk=>aA λ_=>⟨(hr h).1,by have:=(hr h).2;omega,λf hf=>by have:=hd (Zl k) f hf;omega⟩) λ_=>aA (by simp))
 have j:=Zp j
 unfold ln at j
 omega
theorem aQi(l:List aN)(hl:l.length<=1000)(i:Nat)(c:Int): Tt λn m=>qN pG n m (l,400) (c,(i:Int)):=
 bZ (aE (f:=λn _=>Kh n (l,400,c,(i:Int))) (Q:=λr=>r=true->i<l.length) (aC (λh=>aC (λk=>aA λ_=>by have:=Zl h;unfold ln at this;omega) λk=>aA (by simp)) λh=>aA (by simp)) λr hr=>aC (λh=>by
  have hi:=hr h
  have e:idx l (i:Int)=some l[i]:=by rw[bF];exact Zb hi
  refine aF e (aF e (aF e ?_))
  rw[cA (i:=i) (by omega)]
  exact aQi l hl (i+1) _) λ_=>aA trivial)
termination_by l.length-i
theorem aKX(s:aJ)(g:aN): aB (λn _=>T7 n s [g]) λr=>r=true->Sv s:=
 aX (λ_=>rfl) (aE (aKY s) λc hc=>aC (λz=>aE (f:=λn _=>Ir n [g] 400) (Q:=λ_=>True) (aX (λ_=>rfl) (aE (bA (aQi [g] (by simp) 0 0)) λd _=>aC (λ_=>aA trivial) λ_=>aA trivial)) λd _=>aC (λ_=>aA λ_=>hc z) λ_=>aA (by simp)) λ_=>aA (by simp))
theorem aPB(x:Int): aB (λn _=>dU n x) λr=>r=true->x≠0:=
 aU (aC (λh=>aC (λ_=>aA λ_=>by have:=Zl h;omega) λ_=>aA (by simp)) λ_=>aA (by simp))
theorem aFD(e:aN)(b:e.Via.length<=1000)(a:e.Parts.length<=1000): aB (λn _=>Bc n e) λr=>r=true->e.Kind=12->e.A≠0:=by
 have c:TC λn=>fW n e.Via:=⟨aPA _ b⟩
 have f:TC λn=>fV n e.Parts:=⟨aP9 _ a⟩
 by_cases k:e.Kind=12
 .refine aX (λ_=>rfl) (aC (λz=>absurd (show e.Kind=4 by simpa using z) (by omega)) λ_=>aC (λ_=>aE (aPB e.A) λr hr=>aC (λh=>aB.imp (P:=λ_=>True) ?_ λ_ _ _ _=>hr h) λ_=>aA (by simp)) λz=>absurd k (by simpa using z))
  repeat' first|apply dZ|apply aC|apply bE|intro
 .exact (aHx e b a).imp λ_ _ _ q=>absurd q k
theorem aLi(e:aN): aB (λn _=>rQ n e) λr=>r=0->aGC e/\(e.Kind=12->e.A≠0):=by
 refine aX (λ_=>rfl) (bE λ_=>aC (λ_=>aA (by simp)) λ_=>bE λ_=>aC (λ_=>aA (by simp)) λ_=>bE λ_=>aC (λ_=>aA (by simp)) λ_=>aE (f:=λn _=>Tm n e) (Q:=λr=>r=false->aGC e) (aC (λ_=>aA (by simp)) λb=>aC (λ_=>aA (by simp)) λc=>aA λ_=>?_) λr d=>aC (λ_=>aA (by simp)) λh=>?_)
 .have b:=Zp b
  have c:=Zp c
  unfold ln at b c
  exact⟨by omega,by omega⟩
 .have a:=d h
  exact aE (aFD e (by have:=a.1;omega) (by have:=a.2;omega)) λr hr=>aC (λz=>aE (aMc e.Parts (by have:=a.2;omega)) λ_ _=>aC (λ_=>bE λ_=>aC (λ_=>aA (by simp)) λ_=>aA λ_=>⟨a,hr z⟩) λ_=>aA (by simp)) λ_=>aA (by simp)
theorem aGy(d:Sw)(t:n8)(s:aJ)(o:Sv s)(g:aN): aB (λn _=>iL n s g) λr=>r.2=0->CU s/\FcW s g r.1.Plan.Faces.length:=
 aX (λ_=>rfl) (aE (aLi g) λc hc=>aC (λz=>aA λk=>absurd (show c=0 from k) (by simpa using z)) λz=>aE (LQ d s o) λe he=>aC (λy=>aA λk=>absurd (show e=0 from k) (by simpa using y)) λy=>by
  have hc:=hc (by simpa using z)
  have he:=he (by simpa using y)
  exact aE (aKo d t s he g hc.1 hc.2) λf hf=>aA λk=>⟨he,(hf k).2⟩)
def Hit(p:aM)(b l r:Int): Prop:=∃a,a∈p.Arcs/\a.ID=b/\a.Left=l/\a.Right=r
theorem aFk(p:aM)(b:Int)(hp:Sm p)(i:Nat)(hu:yY p.Arcs i λa=>a.ID≠b): aB (λn m=>lm3 Iv n m (p,b) (i:Int)) (Su (λv=>Hit p b v.2.2.2.1 v.2.2.2.2.1) (Su (λv=>Hit p b v.2.2.2.1 v.2.2.2.2.1) λ_=>∀a∈p.Arcs,a.ID≠b)):=
 aD1 (aC (λh=>by
  have hi:i<p.Arcs.length:=by have:=Zl h;unfold ln at this;omega
  have em:=Zb hi
  have e:idx p.Arcs (i:Int)=some p.Arcs[i]:=by rw[bF];exact em
  have mem:=ZP hi
  refine aF e (aC (λk=>aF e ?_) λk=>?_)
  .have k:p.Arcs[i].ID=b:=by simpa using k
   exact aC (λ_=>aA ⟨_,mem,k,rfl,rfl⟩) λ_=>aF (CO (by have:=hp.v _ mem;simp;omega)) (aA ⟨_,mem,k,rfl,rfl⟩)
  .rw[cA (i:=i) (by have:=hp.a;omega)]
   exact aFk p b hp (i+1) (hu.step em (by simpa using k))) λh=>aA (hu.fin (by have:=Zp h;unfold ln at this;omega)))
termination_by p.Arcs.length-i
theorem aL5(p:aM)(b:Int)(hp:Sm p): aB (λn _=>V1 n p b) λr=>(r.2=true->Hit p b r.1.Left r.1.Right)/\(r.2=false->∀a∈p.Arcs,a.ID≠b):=
 aX (λ_=>rfl) (aS (bA (aFk p b hp 0 .nil)) (λv h=>aA ⟨λ_=>h,by simp⟩) λv h=>aS (aA h) (λv h=>aA ⟨λ_=>h,by simp⟩) λv h=>aF rfl (aA ⟨by simp,λ_=>h⟩))
theorem aBO{l:List aR}(h:Asc (l.map aR.ID)){a b:aR}(ha:a∈l)(hb:b∈l)(e:a.ID=b.ID): a=b:=by
 have h:=List.pairwise_map.1 (T3 h)
 obtain⟨i,hi,rfl⟩:=Xs.1 ha
 obtain⟨j,hj,rfl⟩:=Xs.1 hb
 rcases Nat.lt_trichotomy i j with k | k | k
 .have:=List.pairwise_iff_getElem.1 h i j hi hj k;omega
 .subst k;rfl
 .have:=List.pairwise_iff_getElem.1 h j i hj hi k;omega
theorem aDy: ∀n,kY (n+100)=some true:=by intro n;kernel_rfl
theorem aGx: aB (λn _=>kY n) λr=>r=true:=⟨true,rfl,100,λn m a _=>by
 obtain⟨k,rfl⟩:∃k,n=k+100:=⟨n-100,by omega⟩
 exact aDy k⟩
theorem aIY: aB (λn _=>bnd (kY n) λf=>cnd f (some true) (some false)) λr=>r=true:=
 aE aGx λf hf=>aC (λ_=>aA rfl) λz=>by rw[show f=true from hf] at z;cases z
theorem aLE(d:Sw)(t:n8)(s:aJ)(g:aN): aB (λn _=>sA n s g) λr=>r=true:=by
 refine aX (λ_=>rfl) (aE (aKX s g) λc hc=>aC (λz=>aE (aGy d t s (hc z) g) λr hr=>aC (λ_=>aIY) λz0=>?_) λ_=>aIY)
 obtain⟨sc,fw⟩:=hr (by simpa using z0)
 have lF:=sc.v.leF
 refine aE (f:=λn _=>Gk n (g,ln s.Plan.Faces)) (Q:=λr=>(g.Kind=4/\g.C≠0/\r=ln s.Plan.Faces+1)\/(¬(g.Kind=4/\g.C≠0)/\r=ln s.Plan.Faces)) ?_ λx hx=>aE (aL5 s.Plan g.ID sc.ok.p) λh hh=>aC (λk=>?_) λk=>?_
 .refine aE (f:=λn _=>Gj n g) (Q:=λr=>r=true↔g.Kind=4/\g.C≠0) (aC (λk=>aC (λj=>aA ⟨λ_=>⟨by simpa using k,by simpa using j⟩,λ_=>rfl⟩) λj=>aA ⟨by simp,λq=>absurd q.2 (by simpa using j)⟩) λk=>aA ⟨by simp,λq=>absurd q.1 (by simpa using k)⟩) λq hq=>aC (λk=>aA (.inl ⟨(hq.1 k).1,(hq.1 k).2,aFy (by unfold ln;omega)⟩)) λk=>aA (.inr ⟨λw=>(by rw[hq.2 w] at k;cases k),rfl⟩)
 .obtain⟨a,am,ai,al,ar⟩:=hh.1 k
  refine aE (f:=λn _=>Gi n (g,h.1)) (Q:=λr=>r=true↔g.Kind=5/\a.Left≠a.Right) (aC (λk=>aC (λj=>aA ⟨λ_=>⟨by simpa using k,by rw[al,ar];simpa using j⟩,λ_=>rfl⟩) λj=>aA ⟨by simp,λq=>absurd q.2 (by rw[al,ar];simpa using j)⟩) λk=>aA ⟨by simp,λq=>absurd q.1 (by simpa using k)⟩) λq hq=>aC (λw=>?_) λw=>?_
  .obtain⟨k5,ne⟩:=hq.1 w
   have e:ln r.1.Plan.Faces=wr (x-1):=by
    rcases hx with hx | hx
    .omega
    rw[hx.2,aFy (by unfold ln;omega)]
    rcases fw with fw | fw | fw
    .omega
    .obtain⟨_,b,bm,bi,fw⟩:=fw
     have:b=a:=aBO sc.v.asA bm am (by rw[bi,ai])
     subst this
     rcases fw with fw | fw
     .exact absurd fw.1 ne
     .unfold ln;omega
    .omega
   exact aC (λ_=>aIY) λz=>absurd e (by simpa using z)
  .have e:ln r.1.Plan.Faces=x:=by
    rcases fw with fw | fw | fw
    .obtain⟨k4,fw⟩:=fw
     unfold ln at *
     rcases fw with fw | fw<;>omega
    .obtain⟨k5,b,bm,bi,fw⟩:=fw
     have:b=a:=aBO sc.v.asA bm am (by rw[bi,ai])
     subst this
     rcases fw with fw | fw
     .unfold ln at *;omega
     .rw[hq.2 ⟨k5,fw.1⟩] at w;cases w
    .unfold ln at *;omega
   exact aC (λ_=>aIY) λz=>absurd e (by simpa using z)
 .have e:ln r.1.Plan.Faces=x:=by
   rcases fw with fw | fw | fw
   .obtain⟨k4,fw⟩:=fw
    unfold ln at *
    rcases fw with fw | fw<;>omega
   .obtain⟨k5,b,bm,bi,fw⟩:=fw
    exact absurd bi (hh.2 k b bm)
   .unfold ln at *;omega
  exact aE (f:=λn _=>Gh n g) (Q:=λ_=>True) (aC (λ_=>aA trivial) λ_=>aA trivial) λ_ _=>aC (λ_=>aIY) λz=>absurd e (by simpa using z)
structure ArO(l:List dP)(b c:Nat): Prop where
 al:∀a∈l,a.alone.length<=c
 l1:1<=l.length
 l2:l.length<=200000
 ou:∀a∈l,a.outer.length<=800000
 inn:∀a∈l,a.inner.length<=b/\∀c∈a.inner,c.length<=800000
 ne:∀(i:Nat) (a:dP),1<=i->l[i]?=some a->a.outer≠[]
theorem aII(p:aM)(w:Sm p)(B:Nat): ∀(cs:List<|List Int) (l:List dP) (q:List<|List Int),ArO l 0 0->l.length+cs.length<=200000->(∀c∈cs,c.length<=800000/\∃d t,c=d::t/\fR p d)->(∀c∈q,c.length<=800000/\∃d t,c=d::t/\fR p d)->
 (∀a∈l,a.inner=[]/\a.outer.length+q.flatten.length+cs.flatten.length<=B)->q.flatten.length+cs.flatten.length<=B->
 aB (λn _=>dv1 n p cs l q) λr=>ArO r.1 0 0/\r.2.length<=q.length+cs.length/\(∀c∈r.2,c.length<=800000/\∃d t,c=d::t/\fR p d)/\∀a∈r.1,a.inner=[]/\a.outer.length+r.2.flatten.length<=B
 | [],l,q,f,_,_,s,j,_=>aA (x:=(l,q)) ⟨f,by simp,s,λa b=>⟨(j a b).1,by have:=(j a b).2;simpa using this⟩⟩
 | c::cs,l,q,f,A,y,s,j,C=>by
  have u:=y c<|ZM ..;have m:∀c∈cs,c.length<=800000/\∃d t,c=d::t/\fR p d:=λc h=>y c<|ZQ _ h;simp only[Yc] at A;simp only[Yt,Zh] at j C;let⟨o,d,D,k,v⟩:=u;refine aE (aG4 p w c) λt _=>aC (λ_=>?_) λ_=>?_
  .refine aB.imp (aII p w B cs (l++[⟨t,c,[],[]⟩]) q ⟨?_,by simp,by simp;omega,?_,?_,?_⟩ (by simp;omega) m s ?_<|by omega) ?_
   .intro a b;rcases ZD.1 b with b | b
    .exact f.al a b
    .rw[ZJ.1 b];exact Zf _
   .intro a b;rcases ZD.1 b with b | b
    .exact f.ou a b
    .rw[ZJ.1 b];exact o
   .intro a b;rcases ZD.1 b with b | b
    .exact f.inn a b
    .rw[ZJ.1 b];exact⟨Zf _,λc h=>by cases h⟩
   .intro i a z b;rcases ZI i l.length with h | h
    .rw[Zo h] at b;exact f.ne i a z b
    .rw[ZX h] at b;have:a=⟨t,c,[],[]⟩:=by
      have:=Zg b;exact ZJ.1 this
     rw[this,k];simp
   .intro a b;rcases ZD.1 b with b | b
    .have:=j a b;exact⟨this.1,by omega⟩
    .rw[ZJ.1 b];exact⟨rfl,by show c.length+_+_<=B;omega⟩
   .intro r g;exact⟨g.1,by have:=g.2.1;simp only[Yc];omega,g.2.2⟩
  .refine aB.imp (aII p w B cs l (q++[c]) f (by omega) m ?_ ?_ ?_) ?_
   .intro e he;rcases ZD.1 he with he | he
    .exact s e he
    .rw[ZJ.1 he];exact⟨o,d,D,k,v⟩
   .intro a b;have:=j a b;exact⟨this.1,by simp only[Xw,Zh,Yt,Xd,Z1];omega⟩
   .simp only[Xw,Zh,Yt,Xd,Z1];omega
   .intro r g;exact⟨g.1,by have:=g.2.1;simp only[Yc,Zh,Z1] at this |-;omega,g.2.2⟩
theorem aFl{l:List dP}{b c:Nat}(h:ArO l b c): ∀x∈l.map arV,x.outer.length<=800000:=by
 intro x d;obtain⟨a,e,rfl⟩:=Yh.1 d;exact h.ou a e
theorem aAo{α:Type}{l:List α}{i:Nat}{a' x:α}(a:x∈l.set i a'): x=a'\/x∈l:=(YL a).symm
theorem ArO.set{l:List dP}{b b' c c':Nat}{i:Nat}{a a':dP}(h:ArO l b c)(m:l[i]?=some a)(g:a'.outer=a.outer)(n:b<=b')(p:a'.inner.length<=b'/\∀c∈a'.inner,c.length<=800000)(o:c<=c')(f:a'.alone.length<=c'): ArO (l.set i a') b' c':=by
 refine⟨?_,by rw[Yr];exact h.l1,by rw[Yr];exact h.l2,?_,?_,?_⟩
 .intro x d;rcases aAo d with rfl | d
  .exact f
  .exact ZB (h.al x d) o
 .intro x d;rcases aAo d with rfl | d
  .rw[g];exact h.ou a<|Zg m
  .exact h.ou x d
 .intro x d;rcases aAo d with rfl | d
  .exact p
  .exact⟨ZB (h.inn x d).1 n,(h.inn x d).2⟩
 .intro j x k d;rw[Z5] at d;split at d
  .rename_i e;subst e;split at d
   .cases d;rw[g];exact h.ne i a k m
   .cases d
  .exact h.ne j x k d
theorem aMr(p:aM)(F:Sm p)(y:sP p)(m:List<|Int×List Aaa)(o:HZ p m)(B:Nat): ∀(cs:List<|List Int) (l:List dP) (b:Nat),ArO l b 0->(∀c∈cs,c.length<=800000/\∃d t,c=d::t/\fR p d)->(∀a∈l,a.outer.length+a.inner.flatten.length+cs.flatten.length<=B)->
 aB (λn _=>dv2 n m cs l) λr=>ArO r (b+cs.length) 0/\∀a∈r,a.outer.length+a.inner.flatten.length<=B
 | [],l,b,g,_,j=>aA ⟨g,λa k=>by have:=j a k;simpa using this⟩
 | c::cs,l,b,g,u,j=>by
  obtain⟨q,d,z,rfl,a,k,I⟩:=u c<|ZM ..;have E:=y.nuA a k;have G:iP d (wr<|0-d)=a.ID:=by
   rw[wr,i64_in _<|by omega];unfold iP;split<;>omega
  let⟨w,A,C⟩:=o.has a k;refine aF (x:=d) rfl<|aF (x:=w[0]'(by omega)) (by rw[G,A];show idx w ((0:Nat):Int)=_;rw[bF];exact Zb<|by omega)<|aE (aEM m o.len (l.map arV) (aFl g) (by simp;have:=g.l2;omega) (by simp;have:=g.l1;omega) _) λi v=>?_;have f:i.toNat<l.length:=by simpa using v.2
  refine aF (tA v.1 f) ?_;simp only[Yt,Zh,Yc] at j;have H:=aMr p F y m o B cs (l.set i.toNat ⟨l[i.toNat].twice,l[i.toNat].outer,l[i.toNat].inner++[d::z],l[i.toNat].alone⟩) (b+1) (g.set (Zb f) rfl (by omega) (by
   have:=g.inn _<|ZP f;refine⟨by simp;omega,λc e=>?_⟩;rcases ZD.1 e with e | e
   .exact this.2 c e
   .rw[ZJ.1 e];exact q) (Zf _)<|g.al l[i.toNat]<|ZP f) (λc h=>u c<|ZQ _ h) (λx s=>by
    rcases aAo s with rfl | s
    .have:=j _<|ZP f;simp only[Xw,Zh,Yt,Xd,Z1,Yc];omega
    .have:=j x s;omega)
  refine H.imp λr D=>?_;have:b+((d::z)::cs).length=b+1+cs.length:=by simp;omega
  rw[this];exact D
theorem aIH(p:aM)(k:Sm p)(m:List<|Int×List Aaa)(q:HZ p m)(b B:Nat): ∀(h:List Aab) (l:List dP) (c:Nat),ArO l b c->(∀a∈l,a.outer.length+a.inner.flatten.length<=B)->aB (λn _=>dv3 n p m h l) λr=>ArO r b (c+h.length)/\∀a∈r,a.outer.length+a.inner.flatten.length<=B
 | [],l,c,f,j=>aA ⟨f,j⟩
 | x::h,l,c,f,j=>by
  have e:c+(x::h).length=c+1+h.length:=by simp;omega
  rw[e];refine aE (J5 p k x.ID) λd _=>aC (λ_=>aE (aEM m q.len (l.map arV) (aFl f) (by simp;have:=f.l2;omega) (by simp;have:=f.l1;omega) _) λi s=>?_) λ_=>aIH p k m q b B h l (c+1) ⟨λa t=>Xl<|f.al a t,f.l1,f.l2,f.ou,f.inn,f.ne⟩ j;have g:i.toNat<l.length:=by simpa using s.2
  exact aF (tA s.1 g) (aIH p k m q b B h _ (c+1) (f.set (Zb g) rfl (Zf _) (f.inn l[i.toNat]<|ZP g) (Ys _)<|by have:=f.al l[i.toNat]<|ZP g;simp;omega) λx o=>by
   rcases aAo o with rfl | o
   .exact j l[i.toNat]<|ZP g
   .exact j x o)
theorem aJj{α:Type}{P:α->Prop}{c:Nat->Bool}{g:Nat->Nat->Option α}(K:Nat)(b:∀n,K<=n->c n=true)(h:aB g P): aB (λn m=>Av.bnd (Ks<|c n) λ_=>g n m) P:=by
 let⟨r,a,J,d⟩:=h;refine⟨r,a,max K J,λn m f i=>?_⟩;show Av.bnd (Ks<|c n) (λ_=>g n m)=some r;rw[b n<|by omega];exact d n m (by omega)<|by omega
theorem aQu: Sw:=by
 intro p cs m g t j o;have v:=g.n;have u:=j.1;refine aX (λ_=>rfl)<|aJj (c:=λn=>decide<|cs.length<n/\p.Nodes.length<n/\cs.length<=190000/\p.Nodes.length<=9000) 200000 (λn h=>Yj<|by omega) ?_;refine aE (aII p g 400000 cs [⟨0,[],[],[]⟩] [] ⟨by simp,by simp,by simp,by simp,by simp,?_⟩ (by simp;omega) j.2.2 (by simp) (by simpa using j.2.1)<|by simpa using j.2.1) λq f=>aE (aMr p g t m o 400000 q.2 q.1 0 f.1 f.2.2.1 λa d=>by rw[(f.2.2.2 a d).1];have:=(f.2.2.2 a d).2;simpa using this) λl b=>?_
 .intro i a w d;have:=(Ze.1 d).1;simp at this;omega
 .have k:=f.2.1;simp only[Z1,Z0] at k;let⟨b,s⟩:=b;refine aB.imp (aIH p g m o 200000 400000 p.Nodes l 0 ⟨b.al,b.l1,b.l2,b.ou,λa d=>⟨by have:=(b.inn a d).1;omega,(b.inn a d).2⟩,b.ne⟩ s) λr e=>⟨λa d=>by have:=e.1.al a d;omega,e.2,e.1.l1,e.1.l2,e.1.ou,e.1.inn,e.1.ne⟩
theorem aEI(g:dR)(l:List Int)(b:l.length<=300)(i:Nat)(m:List (Int×Int)): Tt (λn k=>qN tE n k (g,l,ln l) (m,(i:Int))):=
 bZ (bB (λx d a=>by
  rw[cA (by omega)];exact aEI g l b (i+1) _)
  (λc=>aA trivial))
termination_by l.length-i
theorem aEJ(l:List dR)(d:l.length<=200000)(a:∀x∈l,x.Alone.length<=300)(i:Nat)(m:List (Int×Int)): Tt (λn k=>qN tF n k (l,ln l) (m,(i:Int))):=
 bZ (bB (λx c b=>by
  rw[cA (by omega)];exact aE (bA (aEI x x.Alone (a x (Zg c)) 0 m)) λ_ _=>aEJ l d a (i+1) _)
  (λe=>aA trivial))
termination_by l.length-i
theorem aEH(p:aM)(c:Sm p): Tt (λn _=>nK n p):=by
 obtain⟨v,e,_,a,_⟩:=MZ aQu p c;exact aX (λ_=>rfl) (aE e λw b=>by
  subst b;exact aE (bA (aEJ w.1 a.1 (λx d=>(a.2 x d).2.2) 0 [])) λ_ _=>aA trivial)
theorem aRP: n8:=λp q x b a=>aX (λ_=>rfl) (aE (aEH p b) λ_ _=>aE (aEH q a) λ_ _=>aA trivial)
section
open Go.Proofs
theorem aHf{P:Program}{n:Nat}{t0 t1:TypeId}{c:List AV}(h:Oq P n [t0,t1] c): ∃x0 x1,c=[x0,x1]/\(∃ys,uU P n t0 ys/\x0=ON P t0 ys)/\(∃ys,uU P n t1 ys/\x1=ON P t1 ys):=
 match c,h with
 | [x0,x1],⟨h0,h1,_⟩=>⟨x0,x1,rfl,h0,h1⟩
theorem aLb: Kg.c=⟨[.v 7,.v 8],[5],false,λn p=>sA n p.1 p.2⟩:=by kernel_rfl
theorem aI4(b:List AV)(h:Oq PP 10 [29,34] b): ∃k H',fB PP T k 0 0 b []=some (.lit<|.bool true,H'):=by
 obtain⟨x0,x1,rfl,h0,h1⟩:=aHf h
 let⟨a0,q0,l0⟩:=aFj (k:=7) (H:=[]) (by kernel_rfl) (by kernel_rfl) (.inl<|by kernel_rfl) h0
 let⟨a1,q1,l1⟩:=aFj (k:=8) (H:=[]) (by kernel_rfl) (by kernel_rfl) (.inl<|by kernel_rfl) h1
 let⟨r,l,n,f⟩:=aLE aQu aRP a0 a1;subst l
 have i:V5 PP T 0 ⟨[.v 7,.v 8],[5],false,λn p=>sA n p.1 p.2⟩:=aLb▸Kg.ok
 exact aLd i (n:=n) (p:=(a0,a1)) (r:=true) (f n n (Zf _)<|Zf _) rfl ⟨q0,q1,trivial⟩
theorem Q4(os:Os)(started:os.Started)(H:Type)(enc:TypeId×Value->H):
 ReturnsInHanded {} Tryz.checked os 4 .any (λw args=>(Rows.editFacesSpec.pre enc Tryz.prog Tryz.f4 [] false w args/\laidMetH Tryz.prog Rows.editFacesRow.laid w)/\sizedMet enc Tryz.prog Tryz.f4 (OpenSpec.ofChange Rows.editFacesSpec) false w args)
  (Rows.editFacesSpec.post enc Tryz.prog Tryz.f4 false true false false):=by
 refine y8 (C:=Tryz.checked) (X:=λw _=>laidMetH Tryz.prog Rows.editFacesRow.laid w) (λ_ _ _ hh h=>h.of_heap hh) own started (by kernel_rfl) Tryz.func4
  (ChangeSpec.witness_shaped (enc:=enc) (C:=Tryz.checked) (os:=os) (X:=λw _=>laidMetH Tryz.prog Rows.editFacesRow.laid w) false (World.laidAll Tryz.prog os Rows.editFacesRow.laid) #[.agg #[.slice none 0 0,.slice none 0 0,.slice none 0 0,.slice none 0 0],.agg #[.int .i64 0,.int .i64 0,.int .i64 0,.int .i64 0,.int .i64 0,.int .i64 0,.int .i64 0,.slice none 0 0,.string ⟨#[]⟩,.slice none 0 0]] 8 (World.laidAll_os _ _ _)
   (World.shaped_of_ZipB (by kernel_rfl) (by kernel_rfl)) (by kernel_rfl) (by kernel_rfl) (by kernel_rfl)
   (by rw[MakeChecks.laidMetH_plain _ _ _ (by kernel_rfl)];exact laidMet_laidAll _ (by kernel_rfl) (by kernel_rfl))) ?_
 intro W base args ds gs before hval hW hlaid hsh hwt
 have hds:∃d0 d1,ds=[d0,d1]/\gs=[]:=by
  obtain⟨p,q,hA,hV,_⟩:=hW
  have hA':DataW.TrodAll enc Tryz.prog W 0 (λ_=>true) true [29,34] args.toList ds p:=by
   have:=hA
   rw[Tryz.params4] at this
   exact this
  obtain⟨v0,vs0,d0,ds0,p0,q0,_,rfl,rfl,h0,r0⟩:=ChangeShapes.trodAll_cons hA'
  obtain⟨v1,vs1,d1,ds1,p1,q1,_,rfl,rfl,h1,r1⟩:=ChangeShapes.trodAll_cons r0
  obtain⟨rfl,rfl,rfl⟩:=ChangeShapes.trodAll_nil r1
  obtain⟨rfl,rfl⟩:=ChangeShapes.trodVars_none hV
  exact⟨_,_,rfl,rfl⟩
 obtain⟨d0,d1,rfl,rfl⟩:=hds
 refine O2 (T:=T) (n:=10) (vi:=0) mixed checked aKi (by kernel_rfl) rfl (tb:=4) (by kernel_rfl) (by kernel_rfl) laid (by rw[Tryz.params4];intro t ht;simp at ht;rcases ht with rfl | rfl<;>exact⟨by kernel_rfl,Zl (by kernel_rfl)⟩) (by kernel_rfl) ?_ (aIz hlaid hsh) ⟨rfl,rfl,rfl⟩ hval hW ?_
 .intro xs hxs
  rw[Tryz.params4] at hxs
  exact aI4 xs hxs
 .intro n hn
  have:=Yl.1 hwt n (by
   have e:Tryz.f4.params.toList++Rows.editFacesSpec.plain.varTypes Tryz.prog=Tryz.f4.params.toList:=Wo _
   show n∈DataW.weightsEach Tryz.prog (Tryz.f4.params.toList++Rows.editFacesSpec.plain.varTypes Tryz.prog) ([d0,d1]++[])
   rw[e,Wo];exact hn)
  simpa using this
theorem aDe: Rows.EditFacesSaid:=
 OpenClaim.holds_of_wide 4 Tryz.f4 rfl rfl rfl rfl rfl rfl rfl ⟨rfl,rfl,rfl,rfl,rfl⟩ rfl rfl rfl rfl rfl (by kernel_rfl) Tryz.func4 aGq
  (Zl (by kernel_rfl)) (by unfold Func.isWrapper;first | (rw[Zu (by decide +kernel)];kernel_rfl) | (rw[ZF (by decide +kernel)];exact⟨rfl,rfl⟩))
  (λos started H enc _=>Q4 os started H enc)
theorem faces_card: Rows.EditFacesCardSaid:=
 Claim7.holds_tied_plain_at .later [] [.data] true (true,"840ba4ae51e0abe49a9fc47521eecafb130921000781108fe3f944600d4ccb88") false
  aDe (λ_ h=>by cases h) aPY (λ_ h=>by cases h) editFaces_row_tie rfl ⟨rfl,rfl⟩ aPZ rfl
  (λf fn hf hfn=>by
   obtain rfl:f=4:=ZR (aQc.symm.trans hf) |>.symm
   obtain rfl:fn=Tryz.f4:=(ZR (Tryz.func4.symm.trans hfn)).symm
   exact⟨aQa,λj t ht=>by
    rw[Tryz.params4] at ht
    exact match j,ht with
    | 0,ht=>(by have e:29=t:=(by simpa using ht);subst e;exact aKK)
    | 1,ht=>(by have e:34=t:=(by simpa using ht);subst e;exact aKJ)
    | n+2,ht=>(by simp at ht)⟩)
  aQb
end
end Go.Proofs.YtabioopnpgiijaaGreatDoor.Av
