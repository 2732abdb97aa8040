/- A part of the proof of a law on transactions. -/
import Derived.Test.YtglfoebmkbglgaaGreatDoorP9
set_option maxRecDepth 100000
set_option maxHeartbeats 4000000
set_option linter.all false
namespace Go.Proofs.YtglfoebmkbglgaaGreatDoor.Av
open Go
def aB{α:Type}(f:Nat->Nat->Option α)(P:α->Prop): Prop:=∃r,P r/\∃K,∀n m,K<=n->K<=m->f n m=some r
section
variable {α β γ:Type}{P:α->Prop}{Q:β->Prop}{R:γ->Prop}
theorem aA{x:α}(h:P x): aB (λ_ _=>some x) P:=⟨x,h,0,λ_ _ _ _=>rfl⟩
theorem aB.imp{P':α->Prop}{f:Nat->Nat->Option α}(h:aB f P)(k:∀r,P r->P' r): aB f P':=by
 obtain⟨r,hr,K,hK⟩:=h
 exact⟨r,k r hr,K,hK⟩
theorem aE{f:Nat->Nat->Option β}{g:Nat->Nat->β->Option α}(h:aB f Q)(k:∀r,Q r->aB (λn m=>g n m r) P): aB (λn m=>Av.bnd (f n m) (g n m)) P:=by
 obtain⟨r,hr,K,hK⟩:=h
 obtain⟨s,hs,J,hJ⟩:=k r hr
 refine⟨s,hs,max K J,λn m hn hm=>?_⟩
 have h1:=hK n m (by omega) (by omega)
 show Av.bnd (f n m) (g n m)=some s
 rw[h1]
 exact hJ n m (by omega) (by omega)
theorem aF{o:Option β}{g:Nat->Nat->β->Option α}{x:β}(e:o=some x)(k:aB (λn m=>g n m x) P): aB (λn m=>Av.bnd o (g n m)) P:=by
 subst e;exact k
def Su(Q:β->Prop)(R:γ->Prop): β⊕γ->Prop
 | .inl a=>Q a
 | .inr b=>R b
theorem aS{f:Nat->Nat->Option (β⊕γ)}{g:Nat->Nat->β->Option α}{k:Nat->Nat->γ->Option α}(h:aB f (Su Q R))(k1:∀a,Q a->aB (λn m=>g n m a) P)(k2:∀b,R b->aB (λn m=>k n m b) P): aB (λn m=>Av.bnd2 (f n m) (g n m) (k n m)) P:=by
 obtain⟨r,hr,K,hK⟩:=h
 cases r with
 | inl a=>
  obtain⟨s,hs,J,hJ⟩:=k1 a hr
  refine⟨s,hs,max K J,λn m hn hm=>?_⟩
  show Av.bnd2 (f n m) (g n m) (k n m)=some s
  rw[hK n m (by omega) (by omega)]
  exact hJ n m (by omega) (by omega)
 | inr a=>
  obtain⟨s,hs,J,hJ⟩:=k2 a hr
  refine⟨s,hs,max K J,λn m hn hm=>?_⟩
  show Av.bnd2 (f n m) (g n m) (k n m)=some s
  rw[hK n m (by omega) (by omega)]
  exact hJ n m (by omega) (by omega)
theorem aC{b:Bool}{x y:Nat->Nat->Option α}(h1:b=true->aB x P)(h2:b=false->aB y P): aB (λn m=>Av.cnd b (x n m) (y n m)) P:=by
 cases b with
 | true=>exact h1 rfl
 | false=>exact h2 rfl
theorem aX{g:Nat->Nat->Nat->Option α}(h:aB (λn m=>g (n+1) m n) P): aB (λn m=>Av.bnd (Av.prd n) (g n m)) P:=by
 obtain⟨r,hr,K,hK⟩:=h
 refine⟨r,hr,K+1,λn m hn hm=>?_⟩
 cases n with
 | zero=>omega
 | succ n=>exact hK n m (by omega) (by omega)
theorem aV{f:Nat->Option α}{g:Nat->Option α}(e:∀n,f (n+1)=g n)(h:aB (λn _=>g n) P): aB (λn _=>f n) P:=by
 obtain⟨r,hr,K,hK⟩:=h
 refine⟨r,hr,K+1,λn m hn hm=>?_⟩
 cases n with
 | zero=>omega
 | succ n=>show f (n+1)=some r;rw[e];exact hK n m (by omega) (by omega)
theorem aB.lp{f:Nat->Nat->Option α}{g:Nat->Nat->Option α}(e:∀n m,f n (m+1)=g n m)(h:aB g P): aB f P:=by
 obtain⟨r,hr,K,hK⟩:=h
 refine⟨r,hr,K+1,λn m hn hm=>?_⟩
 cases m with
 | zero=>omega
 | succ m=>rw[e];exact hK n m (by omega) (by omega)
theorem aW{f:Nat->Nat->Option α}(h:aB f P): aB (λn _=>f n n) P:=by
 obtain⟨r,hr,K,hK⟩:=h
 exact⟨r,hr,K,λn m hn hm=>hK n n hn hn⟩
theorem FH{f:Nat->Option α}(h:aB (λn _=>f n) P): aB (λn _=>f (n+1)) P:=by
 obtain⟨r,hr,K,hK⟩:=h
 exact⟨r,hr,K,λn m hn hm=>hK (n+1) m (by omega) hm⟩
theorem aZ{l:List β}{i:Nat}{f:Nat->Nat->β->Option α}{e:Nat->Nat->Option α}(h1:∀x,l[i]?=some x->i<l.length->aB (λn m=>f n m x) P)(h2:l.length<=i->aB e P):
 aB (λn m=>Av.cnd (decide ((i:Int)<((l.length:Nat):Int))) (Av.bnd (idx l (i:Int)) (f n m)) (e n m)) P:=by
 refine aC (λh=>?_) (λh=>h2 ?_)
 .have hi:i<l.length:=by have:=Zh h;omega
  exact aF (x:=l[i]) (by rw[bK];exact Za hi) (h1 _ (Za hi) hi)
 .have:=Zk h;omega
theorem aB.uniq{f:Nat->Nat->Option α}{r:α}(h:aB f λx=>x=r)(k:aB f P): P r:=by
 obtain⟨_,rfl,K,hK⟩:=h
 obtain⟨s,hs,J,hJ⟩:=k
 have h1:=hK (max K J) (max K J) (by omega) (by omega)
 have h2:=hJ (max K J) (max K J) (by omega) (by omega)
 rw[h1] at h2;cases h2;exact hs
theorem aB.val{f:Nat->Nat->Option α}(k:aB f P): ∃r,P r/\aB f λx=>x=r:=by
 obtain⟨s,hs,J,hJ⟩:=k
 exact⟨s,hs,s,rfl,J,hJ⟩
theorem Dc{l:List α}{x:α}(h:l.length<=100000): app l [x]=some (l++[x]):=Qz (by simp;omega)
end
def kV{Q V X:Type}(B:Nat->Q->(V->Option X)->((X->Option X)×Unit)->V->Option X)(n m:Nat)(p:Q)(q:V): Option X:=lpB (λk q=>B n p k (λt=>some t,()) q) m q
def qH{Q V X Y:Type}(B:Nat->Q->(V->Option (X⊕Y))->((X->Option (X⊕Y))×(Y->Option (X⊕Y))×Unit)->V->Option (X⊕Y))(n m:Nat)(p:Q)(q:V): Option (X⊕Y):=lpB (λk q=>B n p k (λt=>some (.inl t),λt=>some (.inr t),()) q) m q
def lm3{Q V X Y Z:Type}(B:Nat->Q->(V->Option (X⊕Y⊕Z))->((X->Option (X⊕Y⊕Z))×(Y->Option (X⊕Y⊕Z))×(Z->Option (X⊕Y⊕Z))×Unit)->V->Option (X⊕Y⊕Z))(n m:Nat)(p:Q)(q:V): Option (X⊕Y⊕Z):=lpB (λk q=>B n p k (λt=>some (.inl t),λt=>some (.inr (.inl t)),λt=>some (.inr (.inr t)),()) q) m q
theorem bS{Q V X:Type}{P:X->Prop}{B:Nat->Q->(V->Option X)->((X->Option X)×Unit)->V->Option X}{p:Q}{q:V}(h:aB (λn m=>B n p (λq=>kV B n m p q) (λt=>some t,()) q) P): aB (λn m=>kV B n m p q) P:=aB.lp (λ_ _=>rfl) h
theorem bO{Q V X Y:Type}{P:X⊕Y->Prop}{B:Nat->Q->(V->Option (X⊕Y))->((X->Option (X⊕Y))×(Y->Option (X⊕Y))×Unit)->V->Option (X⊕Y)}{p:Q}{q:V}(h:aB (λn m=>B n p (λq=>qH B n m p q) (λt=>some (.inl t),λt=>some (.inr t),()) q) P): aB (λn m=>qH B n m p q) P:=aB.lp (λ_ _=>rfl) h
theorem aGy{Q V X Y Z:Type}{P:X⊕Y⊕Z->Prop}{B:Nat->Q->(V->Option (X⊕Y⊕Z))->((X->Option (X⊕Y⊕Z))×(Y->Option (X⊕Y⊕Z))×(Z->Option (X⊕Y⊕Z))×Unit)->V->Option (X⊕Y⊕Z)}{p:Q}{q:V}(h:aB (λn m=>B n p (λq=>lm3 B n m p q) (λt=>some (.inl t),λt=>some (.inr (.inl t)),λt=>some (.inr (.inr t)),()) q) P): aB (λn m=>lm3 B n m p q) P:=aB.lp (λ_ _=>rfl) h
abbrev Tt{α:Type}(f:Nat->Nat->Option α): Prop:=aB f λ_=>True
theorem i64_in(x:Int)(h:-9223372036854775808<=x/\x<=9223372036854775807): IntKind.i64.wrap x=x:=by rw[Xh];omega
theorem bT{i:Nat}(h:i<1000000): wr ((i:Int)+1)=((i+1:Nat):Int):=by rw[wr,i64_in _ (by omega)];push_cast;rfl
def wH{α:Type}(l:List α)(i:Nat)(Q:α->Prop): Prop:=∀(j:Nat) (x:α),j<i->l[j]?=some x->Q x
theorem wH.nil{α:Type}{l:List α}{Q:α->Prop}: wH l 0 Q:=λj x h _=>by omega
theorem wH.step{α:Type}{l:List α}{i:Nat}{Q:α->Prop}{x:α}(h:wH l i Q)(hx:l[i]?=some x)(hq:Q x): wH l (i+1) Q:=λj y hj hy=>by
 by_cases hji:j=i
 .subst hji;rw[hx] at hy;cases hy;exact hq
 .exact h j y (by omega) hy
theorem wH.fin{α:Type}{l:List α}{i:Nat}{Q:α->Prop}(h:wH l i Q)(hge:l.length<=i): ∀x∈l,Q x:=λx hx=>by
 obtain⟨j,hj⟩:=Yk.1 hx
 exact h j x (by have:=(Ze.1 hj).1;omega) hj
structure Sm(p:aN): Prop where
 n:p.Nodes.length<=300
 a:p.Arcs.length<=300
 f:p.Faces.length<=300
 v:∀a∈p.Arcs,a.Via.length<=300
theorem aDS(p:List Aad)(hp:p.length<=300)(i:Nat)(l:List Int)(hl:l=(p.take i).map Aad.ID): aB (λn m=>kV jL n m (p,ln p) (l,(i:Int))) (λr=>r=p.map Aad.ID):=
 bS (aZ (λx hx hlt=>aF (Dc (by rw[hl];simp;omega)) (by
  rw[bT (by omega)]
  exact aDS p hp (i+1) _ (by rw[hl,YR,hx];simp)))
  (λhge=>aA (by rw[hl,ZC hge])))
termination_by p.length-i
theorem aDR(p:List aP)(hp:p.length<=300)(i:Nat)(l:List Int)(hl:l=(p.take i).map aP.ID): aB (λn m=>kV jK n m (p,ln p) (l,(i:Int))) (λr=>r=p.map aP.ID):=
 bS (aZ (λx hx hlt=>aF (Dc (by rw[hl];simp;omega)) (by
  rw[bT (by omega)]
  exact aDR p hp (i+1) _ (by rw[hl,YR,hx];simp)))
  (λhge=>aA (by rw[hl,ZC hge])))
termination_by p.length-i
theorem aTV(p:aN)(hp:Sm p): aB (λn _=>rJ n p) (λr=>r=(p.Nodes.map Aad.ID,p.Arcs.map aP.ID)):=
 aV (λ_=>rfl) (aE (aW (aDS _ hp.n 0 [] rfl)) λv hv=>aE (aW (aDR _ hp.a 0 [] rfl)) λw hw=>aA (by rw[hv,hw]))
def Asc(l:List Int): Prop:=∀j x y,l[j]?=some x->l[j+1]?=some y->x<y
theorem J8(l:List Int)(hp:l.length<=1000)(i:Nat)(hi:1<=i)(hs:∀j x y,j+1<i->l[j]?=some x->l[j+1]?=some y->x<y): aB (λn m=>qH lE n m l (i:Int)) (Su (λ_=>True) λ_=>Asc l):=
 bO (aC (λh=>by
  have hlt:i<l.length:=by have:(i:Int)<(l.length:Int):=Zh h;omega
  have e1:wr ((i:Int)-1)=((i-1:Nat):Int):=by rw[wr,i64_in _ (by omega)];omega
  rw[e1]
  refine aF (x:=l[i-1]) (by rw[bK];exact Za (by omega)) (aF (x:=l[i]) (by rw[bK];exact Za hlt) (aC (λ_=>aA trivial) (λh2=>?_)))
  rw[bT (by omega)]
  refine J8 l hp (i+1) (by omega) λj x y hj hx hy=>?_
  by_cases hji:j+1=i
  .subst hji
   rw[Za (by omega)] at hx hy
   cases hx;cases hy
   have:=Zk h2
   simp only[Nat.add_sub_cancel] at this;omega
  .exact hs j x y (by omega) hx hy)
  (λh=>aA λj x y hx hy=>by
   have:¬(i:Int)<(l.length:Int):=Zk h
   exact hs j x y (by have:=(Ze.1 hy).1;omega) hx hy))
termination_by l.length-i
theorem aMy(l:List Int)(hp:l.length<=1000): aB (λn _=>kM n l) (λr=>r=true->Asc l):=
 aV (λ_=>rfl) (aS (aW (J8 l hp 1 (by omega) (λj x y hj _ _=>by omega))) (λ_ _=>aA (by simp)) (λ_ h=>aA λ_=>h))
theorem aLe(x:Int): aB (λn _=>rH n x) (λr=>r=false->1<=x/\x<=1073741824):=
 aV (λ_=>rfl) (aC (λ_=>aA (by simp)) (λh1=>aC (λ_=>aA (by simp)) (λh2=>aA λ_=>by
  have:=Zk h1;have:=Zk h2;omega)))
theorem aD1(l:List Int)(hp:l.length<=1000)(i:Nat)(hs:wH l i λx=>1<=x/\x<=1073741824): aB (λn m=>qH nC n m (l,ln l) (i:Int)) (Su (λv=>0<=v) λ_=>∀x∈l,1<=x/\x<=1073741824):=
 bO (aZ (λx hx hlt=>aE (aLe x) λr hr=>aC (λ_=>aA (by show (0:Int)<=(i:Int);omega)) (λh=>by
  rw[bT (by omega)]
  exact aD1 l hp (i+1) (hs.step hx (hr h))))
  (λhge=>aA (hs.fin hge)))
termination_by l.length-i
theorem aLf(l:List Int)(hp:l.length<=1000): aB (λn _=>mQ n l) (λr=>r=true->∀x∈l,1<=x/\x<=1073741824):=
 aV (λ_=>rfl) (aE (Q:=λr=>r=false->∀x∈l,1<=x/\x<=1073741824) (aX (aE (Q:=λv=>0<=v\/∀x∈l,1<=x/\x<=1073741824) (aX (aS (aW (aD1 l hp 0 .nil)) (λv hv=>aA (.inl hv)) (λ_ h=>aA (.inr h))))
  λv hv=>aC (λ_=>aA (by simp)) (λh=>aA λ_=>by have:=Zk h;rcases hv with hv | hv;omega;exact hv)))
  λr hr=>aC (λ_=>aA (by simp)) (λh=>aA λ_=>hr h))
def Kg(x:Aaa): Prop:=-1048576<=x.X/\x.X<=1048576/\-1048576<=x.Y/\x.Y<=1048576
theorem ST(x:Aaa): aB (λn _=>pI n x) (λr=>r=false->Kg x):=
 aC (λ_=>aA (by simp)) (λh1=>aC (λ_=>aA (by simp)) (λh2=>aC (λ_=>aA (by simp)) (λh3=>aC (λ_=>aA (by simp)) (λh4=>aA λ_=>by
 have:=Zk h1;have:=Zk h2;have:=Zk h3;have:=Zk h4
 exact⟨by omega,by omega,by omega,by omega⟩))))
theorem aMu{P:Bool->Prop}{b:Bool}(h:P b): aB (λ_ _=>cnd b (some true) (some false)) P:=by cases b<;>exact aA h
theorem aDu(x:Aaa): aB (λn _=>xJ n x) (λr=>r=false->Kg x):=
 aV (λ_=>rfl) (aE (ST x) λr hr=>aMu hr)
theorem SW(l:List Aad)(hp:l.length<=300)(i:Nat)(hs:wH l i λx=>Kg x.At): aB (λn m=>qH rG n m (l,ln l) (i:Int)) (Su (λ_=>True) λ_=>∀x∈l,Kg x.At):=
 bO (aZ (λx hx hlt=>aE (Q:=λr=>r=false->Kg x.At) (aX (aE (ST x.At) λr hr=>aMu hr)) λr hr=>aC (λ_=>aA trivial) (λh=>by
  rw[bT (by omega)]
  exact SW l hp (i+1) (hs.step hx (hr h))))
  (λhge=>aA (hs.fin hge)))
termination_by l.length-i
theorem SU(l:List Aaa)(hp:l.length<=300)(i:Nat)(hs:wH l i Kg): aB (λn m=>qH rA n m (l,ln l) (i:Int)) (Su (λv=>0<=v) λ_=>∀x∈l,Kg x):=
 bO (aZ (λx hx hlt=>aE (aDu x) λr hr=>aC (λ_=>aA (by show (0:Int)<=(i:Int);omega)) (λh=>by
  rw[bT (by omega)]
  exact SU l hp (i+1) (hs.step hx (hr h))))
  (λhge=>aA (hs.fin hge)))
termination_by l.length-i
theorem SV(l:List aP)(hp:l.length<=300)(hv:∀a∈l,a.Via.length<=300)(i:Nat)(hs:wH l i λa=>∀y∈a.Via,Kg y): aB (λn m=>qH rE n m (l,ln l) (i:Int)) (Su (λ_=>True) λ_=>∀a∈l,∀y∈a.Via,Kg y):=
 bO (aZ (λx hx hlt=>aE (Q:=λr=>r=false->∀y∈x.Via,Kg y) (aX (aE (Q:=λv=>0<=v\/∀y∈x.Via,Kg y) (aX (aS (aW (SU x.Via (hv x (Zf hx)) 0 .nil)) (λv hv=>aA (.inl hv)) (λ_ h=>aA (.inr h))))
  λv hv=>aC (λ_=>aA (by simp)) (λh=>aA λ_=>by have:=Zk h;rcases hv with hv | hv;omega;exact hv))) λr hr=>aC (λ_=>aA trivial) (λh=>by
  rw[bT (by omega)]
  exact SV l hp hv (i+1) (hs.step hx (hr h))))
  (λhge=>aA (hs.fin hge)))
termination_by l.length-i
theorem aKH(p:aN)(hp:Sm p): aB (λn _=>Ob n p) (λr=>r=true->(∀x∈p.Nodes,Kg x.At)/\∀a∈p.Arcs,∀y∈a.Via,Kg y):=
 aV (λ_=>rfl) (aS (aW (SW _ hp.n 0 .nil)) (λ_ _=>aA (by simp)) (λ_ h1=>aS (aW (SV _ hp.a hp.v 0 .nil)) (λ_ _=>aA (by simp)) (λ_ h2=>aA λ_=>⟨h1,h2⟩)))
theorem N5(l:List Int)(x:Int)(hl:l.length<=100000)(i:Nat)(hs:wH l i (·≠x)): aB (λn m=>qH jJ n m (l,x,ln l) (i:Int)) (Su (λv=>0<=v/\v.toNat<l.length/\x∈l) λ_=>x∉l):=
 bO (aZ (λy hy hlt=>aC (λh=>aA (by
  refine⟨by omega,by simpa using hlt,?_⟩
  rw[Wl h];exact Zf hy)) (λh=>by
  rw[bT (by omega)]
  exact N5 l x hl (i+1) (hs.step hy λe=>by subst e;simp at h)))
  (λhge=>aA λh=>hs.fin hge x h rfl))
termination_by l.length-i
theorem aIp(l:List Int)(x:Int)(hl:l.length<=100000): aB (λn _=>kY n l x) (λr=>(0<=r/\r.toNat<l.length/\x∈l)\/(r=-1/\x∉l)):=
 aV (λ_=>rfl) (aS (aW (N5 l x hl 0 .nil)) (λv hv=>aA (.inl hv)) (λ_ h=>aA (.inr ⟨rfl,h⟩)))
theorem Ab(l:List Int)(x:Int)(hl:l.length<=100000): aB (λn _=>dS n l x) (λr=>r=decide (x∈l)):=
 aV (λ_=>rfl) (aE (aIp l x hl) λr hr=>aC (λh=>aA (by
  rcases hr with hr | hr
  .simp[hr.2.2]
  .have:=Zh h;omega)) (λh=>aA (by
  rcases hr with hr | hr
  .have:=Zk h;omega
  .simp[hr.2])))
theorem aGm{α:Type}{l:List α}{a b:Nat}(h1:a<=b)(h2:b<=l.length): cut l (a:Int) (b:Int)=some ((l.take b).drop a):=by
 unfold cut
 rw[Zu (by omega)]
 simp
theorem aA5(x:Aad)(l:List Aad)(b:l.length<=300)(i:Nat): aB (λn m=>qH lS n m (x,l,ln l) (i:Int)) (Su (λ_=>True) λ_=>True):=
 bO (aZ (λy c a=>aC (λ_=>aA trivial) (λ_=>by
  rw[bT (by omega)];exact aA5 x l b (i+1))) (λ_=>aA trivial))
termination_by l.length-i
theorem aA6(p:aN)(b:Sm p)(i:Nat): aB (λn m=>qH lT n m (p,p.Nodes,ln p.Nodes) (i:Int)) (Su (λ_=>True) λ_=>True):=
 bO (aZ (λy d c=>aF (aGm (a:=0) (ZF i) (by omega)) (aS (aW (aA5 y _ (by simp;have:=b.n;omega) 0)) (λ_ _=>aA trivial) (λ_ _=>by
  have:=b.n;rw[bT (by omega)];exact aA6 p b (i+1)))) (λ_=>aA trivial))
termination_by p.Nodes.length-i
theorem aJr(x:aP)(a:List Int)(d:a.length<=100000): aB (λn _=>Bd n (x,a)) (λr=>r=false->x.From∈a/\x.To∈a):=
 aE (Ab a x.From d) λr b=>aC (λe=>aE (Ab a x.To d) λs c=>aC (λf=>aA λ_=>by rw[e] at b;rw[f] at c;exact⟨Zh b.symm,Zh c.symm⟩) (λ_=>aA (by simp))) (λ_=>aA (by simp))
theorem aA4(a:List Int)(c:a.length<=100000)(l:List aP)(g:l.length<=300)(i:Nat)(d:wH l i λx=>x.From∈a/\x.To∈a): aB (λn m=>qH lR n m (a,l,ln l) (i:Int)) (Su (λ_=>True) λ_=>∀x∈l,x.From∈a/\x.To∈a):=
 bO (aZ (λy f e=>aE (aJr y a c) λr j=>aC (λ_=>aA trivial) (λh=>by
  rw[bT (by omega)];exact aA4 a c l g (i+1) (d.step f (j h)))) (λb=>aA (d.fin b)))
termination_by l.length-i
theorem aA2(p:aN)(b:Sm p)(x:Int): aB (λn _=>pJ n (p,x)) (λr=>r=false->x=0\/x∈p.Faces):=
 aC (λh=>aE (Ab p.Faces x (by have:=b.f;omega)) λr a=>aC (λh=>aA λ_=>by rw[h] at a;exact .inr (Zh a.symm)) (λ_=>aA (by simp))) (λh=>aA λ_=>.inl (by simpa using h))
theorem LX{α:Type}{P:α->Prop}{k:Nat}{g:Nat->Nat->Unit->Option α}(h:aB (λn m=>g n m ()) P): aB (λn m=>Av.bnd (Lb (Nat.ble k n)) (g n m)) P:=by
 obtain⟨r,a,K,b⟩:=h;refine⟨r,a,K+k,λn m c d=>?_⟩;have:Lb (Nat.ble k n)=some ():=by rw[Yw (by omega:k<=n)];rfl
 show Av.bnd (Lb (Nat.ble k n)) (g n m)=some r;rw[this];exact b n m (by omega) (by omega)
theorem aA3(p:aN)(c:Sm p)(l:List aP)(f:l.length<=300)(i:Nat)(d:wH l i λx=>(x.Left=0\/x.Left∈p.Faces)/\(x.Right=0\/x.Right∈p.Faces)): aB (λn m=>qH lQ n m (p,l,ln l) (i:Int)) (Su (λ_=>True) λ_=>∀x∈l,(x.Left=0\/x.Left∈p.Faces)/\(x.Right=0\/x.Right∈p.Faces)):=
 bO (aZ (λy k e=>LX (aE (aA2 p c y.Left) λr j=>aC (λ_=>aA trivial) (λh=>aE (aA2 p c y.Right) λs b=>aC (λ_=>aA trivial) (λg=>by
  rw[bT (by omega)];exact aA3 p c l f (i+1) (d.step k ⟨j h,b g⟩))))) (λa=>aA (d.fin a)))
termination_by l.length-i
theorem aRS(p:aN)(c:Sm p)(b:List Int)(d:b.length<=100000): aB (λn _=>xM n p b) (λr=>r=0->(∀x∈p.Arcs,x.From∈b/\x.To∈b)/\∀x∈p.Arcs,(x.Left=0\/x.Left∈p.Faces)/\(x.Right=0\/x.Right∈p.Faces)):=
 aV (λ_=>rfl) (aS (aW (aA6 p c 0)) (λ_ _=>aA (by simp)) (λ_ _=>aS (aW (aA4 b d _ c.a 0 .nil)) (λ_ _=>aA (by simp)) (λ_ e=>aS (aW (aA3 p c _ c.a 0 .nil)) (λ_ _=>aA (by simp)) (λ_ f=>aA λ_=>⟨e,f⟩))))
class TC{α:Type}(f:Nat->Option α): Prop where
 h:aB (λn _=>f n) λ_=>True
theorem bI{α β:Type}{P:α->Prop}{f:Nat->Option β}[t:TC f]{g:Nat->Nat->β->Option α}(k:∀r,aB (λn m=>g n m r) P): aB (λn m=>Av.bnd (f n) (g n m)) P:=aE t.h λr _=>k r
theorem dY{α:Type}{x:α}: aB (λ_ _=>some x) λ_=>True:=aA trivial
def aD2(x:Aaa): Prop:=-2097152<=x.X/\x.X<=2097152/\-2097152<=x.Y/\x.Y<=2097152
theorem aIQ(x:Aaa): aB (λn _=>JK n x) (λr=>r=true->¬aD2 x):=by
 refine aC (λh=>aA λ_ a=>?_) (λe=>aC (λh=>aA λ_ a=>?_) (λc=>aC (λh=>aA λ_ a=>?_) (λd=>aC (λh=>aA λ_ a=>?_) (λb=>aA (by simp)))));all_goals (have:=Zh h;unfold aD2 at a;omega)
theorem aAj(l:List Aaa)(e:l.length<=1000)(i:Nat): aB (λn m=>qH yB n m (l,ln l) (i:Int)) (Su (λ_=>¬∀x∈l,aD2 x) λ_=>True):=
 bO (aZ (λy d a=>aE (aIQ y) λr c=>aC (λh=>aA λb=>c h (b y (Zf d))) (λh=>by
  rw[bT (by omega)];exact aAj l e (i+1)))
  (λf=>aA trivial))
termination_by l.length-i
theorem aFL(l:List Aaa)(b:l.length<=1000): aB (λn _=>oD n l) (λr=>(∀x∈l,aD2 x)->r=true):=
 aV (λ_=>rfl) (aS (aW (aAj l b 0)) (λ_ h=>aA λa=>absurd a h) (λ_ _=>aA λ_=>rfl))
instance aWc{a b c:Aaa}: TC (λn=>oD n [a,b,c]):=⟨(aFL _ (by simp)).imp λ_ _=>trivial⟩
instance aWb{a b c d:Aaa}: TC (λn=>oD n [a,b,c,d]):=⟨(aFL _ (by simp)).imp λ_ _=>trivial⟩
def twV(a b c:Aaa): Int:=wr ((wr ((wr (b.X-a.X))*(wr (c.Y-a.Y))))-(wr ((wr (b.Y-a.Y))*(wr (c.X-a.X)))))
theorem aGG(a b c:Aaa): aB (λn _=>gP n a b c) (λr=>r=twV a b c):=aV (λ_=>rfl) (aA rfl)
instance aVu{a b c:Aaa}: TC (λn=>gP n a b c):=⟨(aGG a b c).imp λ_ _=>trivial⟩
section
variable {a b c d:Aaa}
instance aYI: TC (λn=>E9 n (a,b,c)):=⟨by repeat' first | exact aA trivial | refine aC (λ_=>?_) (λ_=>?_) | refine bI λ_=>?_⟩
instance aYH: TC (λn=>E8 n (a,b,c)):=⟨by repeat' first | exact aA trivial | refine aC (λ_=>?_) (λ_=>?_) | refine bI λ_=>?_⟩
instance aYG: TC (λn=>sW n a b c):=⟨aV (λ_=>rfl) (by repeat' first | exact aA trivial | refine aC (λ_=>?_) (λ_=>?_) | refine bI λ_=>?_)⟩
instance aV4: TC (λn=>CA n a b c):=⟨aV (λ_=>rfl) (by repeat' first | exact aA trivial | refine aC (λ_=>?_) (λ_=>?_) | refine bI λ_=>?_)⟩
instance aWB: TC (λn=>jG n a b c):=⟨aV (λ_=>rfl) (by repeat' first | exact aA trivial | refine aC (λ_=>?_) (λ_=>?_) | refine bI λ_=>?_)⟩
instance aXq: TC (λn=>Pf n (a,b)):=⟨by repeat' first | exact aA trivial | refine aC (λ_=>?_) (λ_=>?_) | refine bI λ_=>?_⟩
instance aU6: TC (λn=>oE n a b):=⟨aV (λ_=>rfl) (by repeat' first | exact aA trivial | refine aC (λ_=>?_) (λ_=>?_) | refine bI λ_=>?_)⟩
instance aXW: TC (λn=>yA n (a,b)):=⟨by repeat' first | exact aA trivial | refine aC (λ_=>?_) (λ_=>?_) | refine bI λ_=>?_⟩
instance aXV: TC (λn=>Pc n (a,b)):=⟨by repeat' first | exact aA trivial | refine aC (λ_=>?_) (λ_=>?_) | refine bI λ_=>?_⟩
instance aXU: TC (λn=>Pb n (a,b)):=⟨by repeat' first | exact aA trivial | refine aC (λ_=>?_) (λ_=>?_) | refine bI λ_=>?_⟩
instance aTe: TC (λn=>Pd n a b c d):=⟨aV (λ_=>rfl) (by repeat' first | exact aA trivial | refine aC (λ_=>?_) (λ_=>?_) | refine bI λ_=>?_)⟩
instance aYp: TC (λn=>JO n (a,b,c,d)):=⟨by repeat' first | exact aA trivial | refine aC (λ_=>?_) (λ_=>?_) | refine bI λ_=>?_⟩
instance aYo: TC (λn=>JN n (a,b,c,d)):=⟨by repeat' first | exact aA trivial | refine aC (λ_=>?_) (λ_=>?_) | refine bI λ_=>?_⟩
instance aWD: TC (λn=>Se n a b c d):=⟨aV (λ_=>rfl) (by repeat' first | exact aA trivial | refine aC (λ_=>?_) (λ_=>?_) | refine bI λ_=>?_)⟩
instance aV1{s:bB}: TC (λn=>iT n s):=⟨aV (λ_=>rfl) (by repeat' first | exact aA trivial | refine aC (λ_=>?_) (λ_=>?_))⟩
instance aWj{s:bB}: TC (λn=>gH n s):=⟨aV (λ_=>rfl) (by repeat' first | exact aA trivial | refine aC (λ_=>?_) (λ_=>?_))⟩
instance aYC{s t:bB}: TC (λn=>nE n (s,t)):=⟨by repeat' first | exact aA trivial | refine aC (λ_=>?_) (λ_=>?_) | refine bI λ_=>?_⟩
instance aYB{s t:bB}: TC (λn=>nD n (s,t)):=⟨by repeat' first | exact aA trivial | refine aC (λ_=>?_) (λ_=>?_) | refine bI λ_=>?_⟩
instance aYA{t:bB}{x y z:Int}: TC (λn=>fT n (t,a,b,c,d,x,y,z)):=⟨by repeat' first | exact aA trivial | refine aC (λ_=>?_) (λ_=>?_) | refine bI λ_=>?_⟩
end
theorem aBY{α:Type}{Q:Nat->α->Prop}: ∀(l:List α),(∀x∈l,∃K,∀n,K<=n->Q n x)->∃K,∀n,K<=n->∀x∈l,Q n x
 | [],_=>⟨0,λ_ _ _ h=>by cases h⟩
 | a::l,h=>by
  obtain⟨K,d⟩:=h a (ZP ..);obtain⟨J,c⟩:=aBY l λx b=>h x (ZU _ b);refine⟨max K J,λn f x b=>?_⟩;rcases ZO.1 b with rfl | b
  .exact d n (by omega)
  .exact c n (by omega) x b
theorem K4{α β:Type}{f:α->Option β}{g:α->β}: ∀(l:List α),(∀x∈l,f x=some (g x))->Vr (l.map f)=some (l.map g)
 | [],_=>rfl
 | a::l,h=>by
  simp only[ZH,Vr,h a (ZP ..),K4 l λx b=>h x (ZU _ b)]
structure Swo{α:Type}(g:α->α->Int)(l:List α): Prop where
 ir:∀x∈l,¬g x x<0
 tr:∀x∈l,∀y∈l,∀z∈l,g x y<0->g y z<0->g x z<0
 ti:∀x∈l,∀y∈l,∀z∈l,¬g x y<0->¬g y z<0->¬g x z<0
theorem aOX{α:Type}{g:α->α->Int}{l:List α}{i j:Nat}{x y:α}(b:l[i]?=some x)(a:l[j]?=some y): at2 (l.map λx=>l.map (g x)) i j=g x y:=by
 simp[at2,Zl,b,a]
theorem Swo.tab{α:Type}{g:α->α->Int}{l:List α}(h:Swo g l): s9 l.length (l.map λx=>l.map (g x))=true:=by
 unfold s9;simp only[Yh,Wt,Zd,YG];have e:∀i j (b:i<l.length) (c:j<l.length),ltT (l.map λx=>l.map (g x)) i j=decide (g l[i] l[j]<0):=λi j b c=>by
  unfold ltT;rw[aOX (Za b) (Za c)]
 intro i b;refine⟨by rw[e i i b b];exact YI (h.ir _ (ZS b)),λj c k m=>?_⟩;rw[e i j b c,e j k c m,e i k b m];have n:=ZS b;have o:=ZS c;have mk:=ZS m;have q:=h.tr _ n _ o _ mk;have p:=h.ti _ n _ o _ mk;by_cases f:g l[i] l[j]<0
 .rw[Yi f];show (!decide (g l[j] l[k]<0)||decide (g l[i] l[k]<0))=true;by_cases d:g l[j] l[k]<0
  .rw[Yi (q f d)];simp
  .rw[YI d];rfl
 .rw[YI f];show (decide (g l[j] l[k]<0)||!decide (g l[i] l[k]<0))=true;by_cases d:g l[j] l[k]<0
  .rw[Yi d];rfl
  .rw[YI (p f d)];simp
theorem HI{α:Type}{F:Nat->α->α->Option Int}{g:α->α->Int}{l:List α}(q:∀x∈l,∀y∈l,aB (λn _=>F n x y) λr=>r=g x y)(o:Swo g l): aB (λn _=>mJ (λx y=>F n x y) l) λr=>r.length=l.length/\∀x∈r,x∈l:=by
 obtain⟨K,e⟩:=aBY (Q:=λn x=>∀y∈l,F n x y=some (g x y)) l λx b=>aBY (Q:=λn y=>F n x y=some (g x y)) l λy h=>by
  obtain⟨r,rfl,K,e⟩:=q x b y h;exact⟨K,λn c=>e n n c c⟩
 cases l with
 | nil=>exact⟨[],⟨rfl,λx b=>b⟩,0,λ_ _ _ _=>rfl⟩
 | cons a l=>
  have k:∀n,K<=n->HE (λx y=>F n x y) (a::l)=some ((a::l).map λx=>(a::l).map (g x)):=λn c=>
   K4 (f:=λx=>Vr ((a::l).map λy=>F n x y)) (g:=λx=>(a::l).map (g x)) (a::l) λx b=>K4 (a::l) λy h=>e n c x b y h
  have j:=o.tab;refine⟨(ixG l.length ((a::l).map λx=>(a::l).map (g x))).map (Ay a (a::l)),⟨?_,?_⟩,K,λn m c s=>?_⟩
  .rw[ZR,aBD (by simpa using j)];rfl
  .intro x b;obtain⟨i,p,rfl⟩:=Yb.1 b;have:=aFQ p;unfold Ay;rw[Za (by simpa using this)];exact ZS _
  .have d:s9 (l.length+1) ((a::l).map λx=>(a::l).map (g x))=true:=by simpa using j
   simp only[mJ,k n c,d]
def Ms(a b:Int): Int:=if a<b then -1 else if a > b then 1 else 0
theorem gD(a b:Int): aB (λn _=>cJ n a b) λr=>r=Ms a b:=by
 have d:∀a:Int,aB (λn _=>fM n a) λr=>r=false:=λa=>aV (λ_=>rfl) (aC (λh=>by simp at h) (λ_=>aA rfl));refine aV (λ_=>rfl) (aE (d a) λr c=>aC (λh=>by rw[c] at h;cases h) (λ_=>aE (d b) λr c=>aC (λh=>by rw[c] at h;cases h) (λ_=>aC (λh=>aA ?_) (λe=>aC (λh=>aA ?_) (λf=>aA ?_)))))
 .unfold Ms;rw[Zu (Zh h)]
 .unfold Ms;rw[ZG (Zk e),Zu (Zh h)]
 .unfold Ms;rw[ZG (Zk e),ZG (Zk f)]
theorem Hj{a b:Int}: Ms a b<0↔a<b:=by unfold Ms;split<;>(try split)<;>omega
theorem aJZ{α:Type}(k:α->Int)(l:List α): Swo (λx y=>Ms (k x) (k y)) l where
 ir x _:=by rw[Hj];omega
 tr x _ y _ z _:=by simp only[Hj];omega
 ti x _ y _ z _:=by simp only[Hj];omega
theorem Ra{α:Type}{l:List α}{x:α}(h:l.length<=900000): app l [x]=some (l++[x]):=Qz (by simp;omega)
theorem aFT{α:Type}{l:List α}{i:Nat}{x:α}{q:α->Bool}(a:l[i]?=some x)(h:q x=true): (l.drop i).find? q=some x:=by
 obtain⟨b,rfl⟩:=Ze.1 a;rw[Xj b,List.find?_cons,h]
theorem aFU{α:Type}{l:List α}{i:Nat}{x:α}{q:α->Bool}(a:l[i]?=some x)(h:q x=false): (l.drop i).find? q=(l.drop (i+1)).find? q:=by
 obtain⟨b,rfl⟩:=Ze.1 a;rw[Xj b,List.find?_cons,h]
theorem aFV{α:Type}{l:List α}{i:Nat}{q:α->Bool}(h:l.length<=i): (l.drop i).find? q=none:=by
 rw[Y9 h];rfl
def kP(p:aN)(id:Int): Aad×Bool:=match p.Nodes.find? λx=>x.ID==id with
 | some x=>(x,true)
 | none=>(⟨0,⟨0,0⟩⟩,false)
def RL(p:aN)(id:Int): aP×Bool:=match p.Arcs.find? λx=>x.ID==id with
 | some x=>(x,true)
 | none=>(⟨0,0,0,[],0,0⟩,false)
theorem aAG(l:List Aad)(d:l.length<=300)(id:Int)(i:Nat): aB (λn m=>qH xO n m (id,l,ln l) (i:Int)) (Su (λv=>∃x,(l.drop i).find? (λx=>x.ID==id)=some x/\v=(x,x)) λ_=>(l.drop i).find? (λx=>x.ID==id)=none):=
 bO (aZ (λx b c=>aC (λh=>aA ⟨x,aFT (q:=λx=>x.ID==id) b h,rfl⟩) (λh=>by
  rw[bT (by omega),aFU (q:=λx=>x.ID==id) b h];exact aAG l d id (i+1)))
  (λa=>aA (aFV a)))
termination_by l.length-i
theorem SG(p:aN)(c:Sm p)(id:Int): aB (λn _=>jE n p id) λr=>r=kP p id:=
 aV (λ_=>rfl) (aS (aW (aAG _ c.n id 0)) (λv b=>aA (by
  obtain⟨x,a,rfl⟩:=b;rw[YB] at a;unfold kP;rw[a])) (λ_ h=>aA (by
  rw[YB] at h;unfold kP;rw[h])))
theorem aE2{α:Type}(l:List α)(h:l.length<=1000000): aB (λn _=>clF n l) λr=>r=l:=
 aV (g:=λ_=>app [] l) (λ_=>rfl) ⟨l,rfl,0,λ_ _ _ _=>by rw[Qz (by simpa using h)];rfl⟩
theorem aFb(l:List aP)(g:l.length<=300)(d:∀a∈l,a.Via.length<=300)(id:Int)(i:Nat): aB (λn m=>qH Dt n m (id,l,ln l) (i:Int)) (Su (λv=>∃x,(l.drop i).find? (λx=>x.ID==id)=some x/\v=(x.ID,x.From,x.To,x.Via,x.Left,x.Right,x.ID,x.From,x.To,x.Via,x.Left,x.Right)) λ_=>(l.drop i).find? (λx=>x.ID==id)=none):=
 bO (aZ (λx c e=>aC (λh=>aE (aE2 x.Via (by have:=d x (Zf c);omega)) λr f=>aA ⟨x,aFT (q:=λx=>x.ID==id) c h,by rw[f]⟩) (λh=>by
  rw[bT (by omega),aFU (q:=λx=>x.ID==id) c h];exact aFb l g d id (i+1)))
  (λb=>aA (aFV b)))
termination_by l.length-i
theorem aMO(p:aN)(c:Sm p)(id:Int): aB (λn _=>Oh n p id) λr=>r=RL p id:=
 aV (λ_=>rfl) (aS (aW (aFb _ c.a c.v id 0)) (λv d=>aA (by
  obtain⟨x,b,rfl⟩:=d;rw[YB] at b;unfold RL;rw[b])) (λ_ h=>aA (by
  rw[YB] at h;unfold RL;rw[h])))
theorem wM{α:Type}{a:List (List α)}{i:Nat}{x:List α}(b:a[i]?=some x): (a.drop i).flatten=x++(a.drop (i+1)).flatten:=by
 obtain⟨c,rfl⟩:=Ze.1 b;rw[Xj c,Ys]
theorem aI0{α:Type}{a:List (List α)}{i:Nat}{x:List α}(b:a[i]?=some x): (a.take (i+1)).flatten=(a.take i).flatten++x:=by
 rw[YR,b];simp
theorem aIi(c:List (List Aaa))(g:c.length<=1000)(i a:Nat)(f:a+(c.drop i).flatten.length<=100000): aB (λn m=>kV gM n m (c,ln c) ((a:Int),(i:Int))) λr=>r=((a+(c.drop i).flatten.length:Nat):Int):=
 bS (aZ (λx k o=>by
  have e:=wM k;rw[e,Zi] at f;have l:wr ((a:Int)+ln x)=((a+x.length:Nat):Int):=by rw[wr,ln,i64_in _ (by omega)];push_cast;rfl
  rw[l,bT (by omega)];refine aC (λh=>?_) (λ_=>?_)
  .have:=Zh h;omega
  .refine (aIi c g (i+1) (a+x.length) (by omega)).imp λr j=>?_;rw[j,e,Zi,Yt])
  (λd=>aA (by rw[Y9 d];rfl)))
termination_by c.length-i
theorem aIh(a:List (List Aaa))(o:a.length<=1000)(N:Nat)(g:N<=100000)(i:Nat)(l:List Aaa)(k:Nat)(q:l.length=N)(d:l.take k=(a.take i).flatten)(j:k=(a.take i).flatten.length)(h:k+(a.drop i).flatten.length=N): aB (λn m=>kV gL n m (a,ln a) (l,(0,k),(i:Int))) λr=>win r.1 (some r.2)=a.flatten:=
 bS (aZ (λx f p=>by
  have e:=wM f;rw[e,Zi] at h;rw[bT (by omega)];have c:=aI0 f;refine aF (x:=aU l k x) (by unfold b9;rw[Zu (by simp only[ZZ];omega),ZZ]) (aIh a o N g (i+1) _ (k+x.length) (by simp[aU];omega) ?_ (by rw[c,Zi,j]) (by omega));unfold aU;rw[c,<-d,<-Yf,Yj (by simp;omega),ZC (by simp;omega)])
  (λb=>aA (by
   show (l.drop 0).take k=a.flatten;rw[YB,d,ZC b])))
termination_by a.length-i
theorem aMD(a:List (List Aaa))(c:a.length<=1000)(g:0<a.flatten.length)(d:a.flatten.length<=100000): aB (λn _=>lL n a) λr=>r=a.flatten:=by
 refine aV (λ_=>rfl) (aE (aW (aIi a c 0 0 (by simpa using d))) λv e=>?_);have f:v=((a.flatten.length:Nat):Int):=by rw[e];simp
 have e2:wr (v-0)=((a.flatten.length:Nat):Int):=by rw[f,wr,i64_in _ (by omega)];omega
 refine aS (Q:=λ_=>False) (R:=λr=>r=(List.replicate a.flatten.length ⟨0,0⟩,(0,0))) (aX (aC (λh=>by have:=Zh h;omega) (λ_=>aC (λ_=>?_) (λh=>by rw[e2] at h;have:=Zk h;omega)))) (λ_ h=>h.elim) (λr b=>?_)
 .refine aF (x:=List.replicate a.flatten.length ⟨0,0⟩) (by rw[e2];unfold rep;rw[Zu (by omega)];simp) (aC (λh=>?_) (λ_=>aF (x:=(0,0)) (by unfold sub;rw[Zu (by simp)];rfl) (aA rfl)));rw[Vd] at h;have:=congrArg List.length h;rw[YM,Z2] at this;omega
 .subst b;exact aF rfl (aE (aW (aIh a c a.flatten.length d 0 _ 0 (by simp) (by simp) (by simp) (by simp))) λr b=>aA b)
def dU(p:aN)(id:Int): List Aaa×Int:=match (RL p id).2&&(kP p (RL p id).1.From).2&&(kP p (RL p id).1.To).2 with
 | true=>([(kP p (RL p id).1.From).1.At]++(RL p id).1.Via++[(kP p (RL p id).1.To).1.At],0)
 | false=>([],7)
theorem aE7(p:aN)(a:Sm p)(id:Int): (RL p id).1.Via.length<=300:=by
 unfold RL;split
 .rename_i x h;exact a.v x (Xi h)
 .simp
theorem aC4(p:aN)(a:Sm p)(id:Int): aB (λn _=>wK n p id) λr=>r=dU p id:=by
 have k:=aE7 p a id;refine aV (λ_=>rfl) (aE (aMO p a id) λl j=>?_);subst j;refine aC (λc=>aE (SG p a _) λg f=>?_) (λc=>aE (SG p a _) λg f=>?_);all_goals subst f;all_goals refine aC (λb=>aE (SG p a _) λi e=>?_) (λb=>aE (SG p a _) λi e=>?_);all_goals subst e;all_goals refine aC (λd=>aE (Q:=λ_=>True) (aA trivial) λ_ _=>?_) (λd=>aE (Q:=λ_=>True) (aA trivial) λ_ _=>?_)
 .refine aE (aMD _ (by simp) (by simp) (by simp;omega)) λr h=>aA ?_;unfold dU;rw[c,b,d,h];simp
 all_goals (refine aA ?_;unfold dU;rw[c,b,d];rfl)
theorem Jj(p:aN)(a:Sm p)(id:Int): (dU p id).1.length<=302:=by
 have b:=aE7 p a id;unfold dU;split
 .simp;omega
 .simp
theorem xQ{p:aN}{id:Int}(h:(dU p id).2=0): 2<=(dU p id).1.length:=by
 unfold dU at h |-;split
 .simp
 .rename_i a;rw[a] at h;cases h
def aJ8(l:List Aaa): Prop:=∀(j:Nat) (x y:Aaa),l[j]?=some x->l[j+1]?=some y->x≠y
structure vW(s:bB): Prop where
 h0:0<=s.at_
 h1:s.at_.toNat+1<s.line.path.length
 h2:s.line.path.length<=302
theorem aKv(x:aP)(l:List Aaa)(v:Int): aB (λn _=>Es n (x,l,v)) λr=>r=false->v=0:=by
 refine aC (λ_=>aA (by simp)) (λh=>aC (λ_=>aC (λ_=>aA (by simp)) (λ_=>aA λ_=>?_)) (λ_=>aA λ_=>?_));all_goals simpa using h
theorem aCW(v:List Aaa)(g:aAI)(p:g.path=v)(C:2<=v.length)(t:v.length<=302)(i:Nat)(l:List bB)(B:Nat)(A:l.length<=B+i/\B<=100000)(F:i+1<=v.length)(u:∀s∈l,vW s)(q:∀(j:Nat) (x y:Aaa),j<i->v[j]?=some x->v[j+1]?=some y->x≠y):
 aB (λn m=>qH nA n m (v,g,wr (ln v-1)) (l,(i:Int))) (Su (λ_=>True) λr=>r.length<=B+302/\(∀s∈r,vW s)/\aJ8 v):=by
 have z:wr (ln v-1)=((v.length-1:Nat):Int):=by rw[wr,ln,i64_in _ (by omega)];omega
 refine bO (aC (λh=>?_) (λh=>aA ⟨by omega,u,λj x y E w=>q j x y ?_ E w⟩))
 .have D:i<v.length-1:=by rw[z] at h;have:=Zh h;omega
  rw[bT (by omega)];refine aF (x:=v[i]) (by rw[bK];exact Za (by omega)) (aF (x:=v[i+1]) (by rw[bK];exact Za (by omega)) (aC (λ_=>aA trivial) (λf=>aF (Ra (by omega)) ?_)));refine aCW v g p C t (i+1) _ B ⟨by simp;omega,A.2⟩ (by omega) ?_ ?_
  .intro s o;rcases ZD.1 o with h | h
   .exact u s h
   .rw[ZJ.1 h];exact⟨by show (0:Int)<=(i:Int);omega,by show (i:Int).toNat+1<g.path.length;rw[p];omega,by show g.path.length<=302;rw[p];exact t⟩
  .intro j a b G e d;by_cases k:j=i
   .subst k;rw[Za (by omega)] at e d;cases e;cases d;exact Zk f
   .exact q j a b (by omega) e d
 .rw[z] at h;have:=Zk h;have:=(Ze.1 w).1;omega
termination_by v.length-i
theorem aCX(p:aN)(d:Sm p)(i:Nat)(u:i<=p.Arcs.length)(l:List bB)(A:l.length<=302*i)(g:∀s∈l,vW s)(k:wH p.Arcs i λa=>(dU p a.ID).2=0/\aJ8 (dU p a.ID).1):
 aB (λn m=>lm3 nB n m (p,p.Arcs,ln p.Arcs) (l,(i:Int))) (Su (λ_=>True) (Su (λ_=>True) λr=>r.length<=100000/\(∀s∈r,vW s)/\∀a∈p.Arcs,(dU p a.ID).2=0/\aJ8 (dU p a.ID).1)):=by
 have z:=d.a;refine aGy (aZ (λx o q=>aE (aC4 p d x.ID) λv c=>aE (aKv _ v.1 v.2) λr t=>aC (λ_=>aA trivial) (λh=>?_)) (λf=>aA ⟨?_,g,k.fin f⟩))
 .have b:=t h;rw[bT (by omega)];refine aS (aW (aCW v.1 ⟨x,v.1⟩ rfl (by rw[c] at b |-;exact xQ b) (by rw[c];exact Jj p d x.ID) 0 l (302*i) ⟨by omega,by omega⟩ (by rw[c] at b |-;have:=xQ b;omega) g (λj x y h=>by omega))) (λ_ _=>aA trivial) (λw e=>?_);exact aCX p d (i+1) (by omega) w (by have:=e.1;omega) e.2.1 (k.step o ⟨by rw[c] at b;exact b,by have:=e.2.2;rw[c] at this;exact this⟩)
 .omega
termination_by p.Arcs.length-i
theorem aQ4(p:aN)(c:Sm p): aB (λn _=>Dr n p) λr=>(r.2=true->r.1.length<=100000/\(∀s∈r.1,vW s)/\∀a∈p.Arcs,(dU p a.ID).2=0/\aJ8 (dU p a.ID).1):=
 aV (λ_=>rfl) (aS (aW (aCX p c 0 (by omega) [] (by simp) (by simp) wH.nil)) (λ_ _=>aF rfl (aA (by simp))) (λw b=>aS (aA b) (λ_ _=>aF rfl (aA (by simp))) (λv d=>aF rfl (aA λ_=>d))))
theorem xU{α:Type}{l:List α}{i:Int}(a:0<=i)(h:i.toNat<l.length): idx l i=some l[i.toNat]:=by
 unfold idx;rw[Zu a];exact Za h
def G5(s:bB): Aaa×Aaa:=(s.line.path.getD s.at_.toNat ⟨0,0⟩,s.line.path.getD (s.at_.toNat+1) ⟨0,0⟩)
theorem G4(s:bB)(a:vW s): aB (λn _=>dH n s) λr=>r=G5 s:=by
 have e:=a.h0;have c:=a.h1;have g:=a.h2;have b:wr (s.at_+1)=s.at_+1:=i64_in _ (by omega);have e2:(s.at_+1).toNat=s.at_.toNat+1:=by omega
 have d:idx s.line.path s.at_=some (s.line.path.getD s.at_.toNat ⟨0,0⟩):=by rw[xU e (by omega),YV,Za (by omega)];rfl
 have f:idx s.line.path (wr (s.at_+1))=some (s.line.path.getD (s.at_.toNat+1) ⟨0,0⟩):=by
  rw[b];unfold idx;rw[Zu (by omega),e2,YV,Za c];rfl
 exact aV (λ_=>rfl) (aF d (aF f (aA rfl)))
theorem aFf(s:bB)(b:vW s): aB (λn _=>gF n s) λr=>r=BV (G5 s).1.X (G5 s).2.X:=
 aV (λ_=>rfl) (aE (G4 s b) λr a=>aA (by rw[a]))
theorem aRC(s:bB)(a:vW s): Tt (λn _=>pG n s):=
 aV (λ_=>rfl) (aE (G4 s a) λr b=>aA trivial)
theorem aT7(s t:bB)(f:vW s)(c:vW t): aB (λn _=>pH n s t) λr=>r=Ms (BV (G5 s).1.X (G5 s).2.X) (BV (G5 t).1.X (G5 t).2.X):=
 aV (λ_=>rfl) (aE (aFf s f) λa e=>aE (aFf t c) λb d=>aE (gD a b) λr g=>aA (by rw[g,e,d]))
theorem xZ{b:Bool}(h:b=true): Lb b=some ():=by subst h;rfl
theorem SS(l:List Aad)(b:l.length<=300)(i:Nat)(m:List (Int×Aaa)): Tt (λn k=>kV qZ n k (l,ln l) (m,(i:Int))):=
 bS (aZ (λx d a=>by
  rw[bT (by omega)];exact SS l b (i+1) _)
  (λc=>aA trivial))
termination_by l.length-i
theorem aN8(m:List (Int×Aaa))(x y:bB)(b:vW x)(a:vW y): aB (λn _=>Nz n (m,x,y)) (Su (λ_=>True) λ_=>True):=by
 refine aX (aE (G4 x b) λ_ _=>aE (G4 y a) λ_ _=>?_);repeat' first
  | exact aA trivial
  | refine aC (λ_=>?_) (λ_=>?_)
  | refine LX ?_
  | refine bI λ_=>?_
theorem aBr(m:List (Int×Aaa))(x:bB)(l:List bB)(b:vW x)(c:∀s∈l,vW s)(d:l.length<=100000)(i:Nat): aB (λn k=>qH qX n k (m,x,l,ln l) (i:Int)) (Su (λ_=>True) λ_=>True):=
 bO (aZ (λy f e=>by
  have a:=c y (Zf f);rw[bT (by omega)];refine aE (aFf y a) λ_ _=>aE (aRC x b) λ_ _=>aC (λ_=>aA trivial) (λ_=>aS (aN8 m x y b a) (λ_ _=>aC (λ_=>aBr m x l b c d (i+1)) (λ_=>aA trivial)) (λ_ _=>aBr m x l b c d (i+1))))
  (λg=>aA trivial))
termination_by l.length-i
instance aYi{s:bB}{x:Aad}{a b:Aaa}: TC (λn=>Nx n (s,x,a,b)):=⟨by repeat' first | exact aA trivial | refine aC (λ_=>?_) (λ_=>?_) | refine bI λ_=>?_⟩
theorem aHf(x:bB)(a:vW x)(l:List Aad)(c:l.length<=300)(i:Nat): aB (λn m=>qH qW n m (x,l,ln l) (i:Int)) (Su (λ_=>True) λ_=>True):=
 bO (aZ (λy e b=>by
  rw[bT (by omega)];exact aE (G4 x a) λ_ _=>bI λ_=>aC (λ_=>aA trivial) λ_=>aHf x a l c (i+1))
  (λd=>aA trivial))
termination_by l.length-i
theorem aHg(p:aN)(e:Sm p)(m:List (Int×Aaa))(l:List bB)(d:∀s∈l,vW s)(j:l.length<=100000)(i:Nat): aB (λn k=>lm3 qY n k (p,m,l,l,ln l) (i:Int)) (Su (λ_=>True) (Su (λ_=>True) λ_=>True)):=
 aGy (aZ (λy g f=>by
  have c:=d y (Zf g);rw[bT (by omega)];refine aF (aGm (a:=i+1) (b:=l.length) (by omega) (Zg _)) (aS (aW (aBr m y _ c (λs h=>d s (Ya (Z1 h))) (by simp;omega) 0)) (λ_ _=>aS (aW (aHf y c _ e.n 0)) (λ_ _=>aA trivial) (λ_ _=>aHg p e m l d j (i+1))) (λ_ _=>aA trivial)))
  (λo=>aA trivial))
termination_by l.length-i
theorem aKG(p:aN)(c:Sm p): aB (λn _=>Oa n p) λr=>r=true->∀a∈p.Arcs,(dU p a.ID).2=0/\aJ8 (dU p a.ID).1:=by
 refine aV (λ_=>rfl) (aE (aQ4 p c) λv b=>aC (λh=>aE (aW (SS _ c.n 0 [])) λw _=>aX ?_) (λ_=>aA (by simp)));have b:=b h;refine aF (xZ (Yi (by have:=b.1;omega))) (aE (HI (F:=λn x y=>bnd (pH n x y) λh=>some h) (λx i y g=>aE (aT7 x y (b.2.1 x i) (b.2.1 y g)) λ_ h=>aA h) (aJZ _ _)) λl d=>?_);refine aS (FH (f:=λn=>Ny n (p,w,l,l,ln l) 0) (aW (aHg p c w l (λs j=>b.2.1 s (d.2 s j)) (by rw[d.1];exact b.1) 0))) (λ_ _=>aA (by simp)) (λw e=>aS (aA e) (λ_ _=>aA (by simp)) (λ_ _=>aA λ_=>b.2.2))
theorem aId(l:List aP)(e:l.length<=300)(i:Nat)(c:wH l i λa=>a.Via.length<=64): aB (λn m=>qH uG n m (l,ln l) (i:Int)) (Su (λ_=>True) λ_=>∀a∈l,a.Via.length<=64):=
 bO (aZ (λy f d=>by
  rw[bT (by omega)];exact aC (λ_=>aA trivial) λh=>aId l e (i+1) (c.step f (by have:¬ln y.Via > 64:=Zk h;unfold ln at this;omega)))
  (λb=>aA (c.fin b)))
termination_by l.length-i
structure tN(p:aN): Prop where
 leN:p.Nodes.length<=256
 leA:p.Arcs.length<=256
 leF:p.Faces.length<=64
 leV:∀a∈p.Arcs,a.Via.length<=64
 asN:Asc (p.Nodes.map Aad.ID)
 asA:Asc (p.Arcs.map aP.ID)
 asF:Asc p.Faces
 nuA:∀a∈p.Arcs,1<=a.ID/\a.ID<=1073741824
 nuN:∀x∈p.Nodes,1<=x.ID/\x.ID<=1073741824
 nuF:∀x∈p.Faces,1<=x/\x<=1073741824
 ptN:∀x∈p.Nodes,Kg x.At
 ptA:∀a∈p.Arcs,∀y∈a.Via,Kg y
 con:∀a∈p.Arcs,a.From∈p.Nodes.map Aad.ID/\a.To∈p.Nodes.map Aad.ID
 sid:∀a∈p.Arcs,(a.Left=0\/a.Left∈p.Faces)/\(a.Right=0\/a.Right∈p.Faces)
 pth:∀a∈p.Arcs,(dU p a.ID).2=0/\aJ8 (dU p a.ID).1
theorem aIt(p:aN)(c:Sm p): aB (λn _=>Jg n p) λr=>r=0->tN p:=by
 have T:=c.n;have m:=c.a;have S:=c.f;refine aV (λ_=>rfl) (aE (Q:=λr=>r=false->p.Nodes.length<=256/\p.Arcs.length<=256/\p.Faces.length<=64) ?_ λU H=>aC (λ_=>aA (by simp)) λI=>aS (aW (aId _ c.a 0 .nil)) (λ_ _=>aA (by simp)) λ_ e=>aF rfl (aE (aTV p c) λv M=>?_))
 .refine aC (λ_=>aA (by simp)) λq=>aC (λ_=>aA (by simp)) λt=>aC (λ_=>aA (by simp)) λs=>aA λ_=>?_;have q:¬ln p.Nodes > 256:=Zk q;have t:¬ln p.Arcs > 256:=Zk t;have s:¬ln p.Faces > 64:=Zk s;unfold ln at q t s;omega
 subst M;refine aE (Q:=λr=>r=false->Asc (p.Nodes.map Aad.ID)/\Asc (p.Arcs.map aP.ID)/\Asc p.Faces) ?_ λw j=>aC (λ_=>aA (by simp)) λk=>aE (Q:=λr=>r=false->(∀x∈p.Nodes.map Aad.ID,1<=x/\x<=1073741824)/\(∀x∈p.Arcs.map aP.ID,1<=x/\x<=1073741824)/\(∀x∈p.Faces,1<=x/\x<=1073741824)/\(∀x∈p.Nodes,Kg x.At)/\∀a∈p.Arcs,∀y∈a.Via,Kg y) ?_ λz g=>aC (λ_=>aA (by simp)) λi=>aE (aRS p c (p.Nodes.map Aad.ID) (by simp;omega)) λu d=>aC (λb=>aA λh=>?_) λb=>aE (aKG p c) λL l=>aC (λo=>aA λ_=>?_) λ_=>aA (by simp)
 .exact aE (aMy _ (by simp;omega)) λw j=>aC (λk=>aE (aMy _ (by simp;omega)) λz g=>aC (λi=>aE (aMy _ (by omega)) λu d=>aC (λb=>aA λ_=>⟨j k,g i,d b⟩) λ_=>aA (by simp)) λ_=>aA (by simp)) λ_=>aA (by simp)
 .exact aE (aLf _ (by simp;omega)) λw j=>aC (λk=>aE (aLf _ (by simp;omega)) λz g=>aC (λi=>aE (aLf _ (by omega)) λu d=>aC (λb=>aE (aKH p c) λL l=>aC (λo=>aA λ_=>⟨j k,g i,d b,(l o).1,(l o).2⟩) λ_=>aA (by simp)) λ_=>aA (by simp)) λ_=>aA (by simp)) λ_=>aA (by simp)
 .rw[h] at b;simp at b
 .have A:u=0:=by simpa using b
  obtain⟨C,F,E,B,O⟩:=g i;obtain⟨N,D,J⟩:=j k;obtain⟨G,R,K⟩:=H I;exact⟨G,R,K,e,N,D,J,λa m=>F _ (WV m),λa m=>C _ (WV m),E,B,O,(d A).1,(d A).2,l o⟩
def cr(ux uy vx vy:Int): Int:=ux*vy-uy*vx
theorem aPW(f c d b e a:Int): b*cr f c e a=a*cr f c d b+c*cr d b e a:=by
 unfold cr;simp only[Int.mul_sub];have g:a*(f*b)=b*(f*a):=by rw[XN,WE a b,XN]
 have e2:a*(c*d)=c*(d*a):=by rw[XN,WE a d]
 have h:b*(c*e)=c*(b*e):=XN _ _ _;omega
def Up(x y:Int): Prop:=0<y\/(y=0/\0<x)
theorem aGn{e b d a:Int}(f:Up e b)(g:Up d a)(h:cr e b d a > 0): 0<a:=by
 rcases g with c | ⟨c,i⟩
 .exact c
 .unfold cr at h;rw[c,Int.mul_zero] at h;have:0<=b*d:=by
   refine Int.mul_nonneg ?_ (by omega);rcases f with h | ⟨h,_⟩<;>omega
  omega
theorem aEx{i c j f g d:Int}(k:Up i c)(m:Up j f)(o:Up g d)(l:cr i c j f > 0)(n:cr j f g d > 0): cr i c g d > 0:=by
 have q:=aGn k m l;have p:=aGn m o n;have e:=aPW i c j f g d;have r:0<d*cr i c j f:=WT p l;have s:0<=c*cr j f g d:=Int.mul_nonneg (by rcases k with h | ⟨h,_⟩<;>omega) (by omega);have t:0<f*cr i c g d:=by omega
 rcases Int.lt_or_le 0 (cr i c g d) with h | h
 .exact h
 .have:=Xq (a:=f) (b:=cr i c g d) (by omega) h;omega
theorem aMm{i a g d f b:Int}(n:Up i a)(p:Up g d)(q:Up f b)(s:¬cr i a g d > 0)(m:¬cr g d f b > 0): ¬cr i a f b > 0:=by
 intro o;have k:0<b:=aGn n q o;have l:0<=a:=by rcases n with h | ⟨h,_⟩<;>omega
 rcases p with c | ⟨c,j⟩
 .have e:=aPW i a g d f b;have r:0<d*cr i a f b:=WT c o;have t:b*cr i a g d<=0:=Xq (by omega) (by omega);have u:a*cr g d f b<=0:=Xq l (by omega);omega
 .unfold cr at m;rw[c,Int.zero_mul] at m;have:=WT j k;omega
theorem aMl(c d a b:Int): cr (-c) (-d) (-a) (-b)=cr c d a b:=by
 unfold cr;rw[Int.neg_mul_neg,Int.neg_mul_neg]
def Fb(o p:Aaa): Bool:=decide (p.Y<o.Y)||(p.Y==o.Y&&decide (p.X<o.X))
def twE(o a b:Aaa): Int:=cr (a.X-o.X) (a.Y-o.Y) (b.X-o.X) (b.Y-o.Y)
def qL(o a b:Aaa): Bool:=if Fb o a != Fb o b then Fb o b else decide (twE o a b > 0)
theorem PC{o p:Aaa}(h:Fb o p=false)(b:p≠o): Up (p.X-o.X) (p.Y-o.Y):=by
 simp only[Fb,WU,Wx,Bool.and_eq_false_iff,X9] at h;by_cases c:p.Y=o.Y
 .refine .inr ⟨by omega,?_⟩;have:p.X≠o.X:=by
   intro d;apply b;cases p;cases o;simp_all
  rcases h.2 with h | h
  .exact absurd c h
  .omega
 .exact .inl (by omega)
theorem PD{o p:Aaa}(h:Fb o p=true): Up (-(p.X-o.X)) (-(p.Y-o.Y)):=by
 simp only[Fb,YX,Z3,Zd,ZI] at h;rcases h with h | ⟨b,a⟩
 .exact .inl (by omega)
 .exact .inr ⟨by omega,by omega⟩
theorem aOd{o a b c:Aaa}(j:a≠o)(i:b≠o)(k:c≠o)(d:qL o a b=true)(e:qL o b c=true): qL o a c=true:=by
 unfold qL at d e |-;cases g:Fb o a<;>cases f:Fb o b<;>cases h:Fb o c<;>rw[g,f] at d<;>rw[f,h] at e<;>simp only[Wi,Zm,Z4,Bool.true_bne,Bool.false_bne,X6,Zy,YP,Z3] at d e |-
 .exact aEx (PC g j) (PC f i) (PC h k) d e
 .unfold twE at d e |-;rw[<-aMl] at d e |-;exact aEx (PD g) (PD f) (PD h) d e
theorem aOe{o a b c:Aaa}(j:a≠o)(i:b≠o)(k:c≠o)(d:qL o a b=false)(e:qL o b c=false): qL o a c=false:=by
 unfold qL at d e |-;cases g:Fb o a<;>cases f:Fb o b<;>cases h:Fb o c<;>rw[g,f] at d<;>rw[f,h] at e<;>simp only[Wi,Zm,Z4,Bool.true_bne,Bool.false_bne,X6,Zy,YP,Wx,Bool.true_eq_false] at d e |-
 .exact aMm (PC g j) (PC f i) (PC h k) d e
 .unfold twE at d e |-;rw[<-aMl] at d e |-;exact aMm (PD g) (PD f) (PD h) d e
theorem aOf(o a:Aaa): qL o a a=false:=by
 unfold qL twE cr;rw[Wi,ZG (by simp),WE];simp
theorem aTI{x y:Int}{B:Nat}(a:-(B:Int)<=x/\x<=B)(b:-(B:Int)<=y/\y<=B): -((B*B:Nat):Int)<=x*y/\x*y<=((B*B:Nat):Int):=by
 have h:(x*y).natAbs<=B*B:=by rw[Int.natAbs_mul];exact Xt (by omega) (by omega)
 omega
theorem aQv{o a b:Aaa}(e:Kg o)(c:Kg a)(d:Kg b): twV o a b=twE o a b:=by
 obtain⟨o1,m,n,l⟩:=e;obtain⟨g,j,p,h⟩:=c;obtain⟨r,f,k,s⟩:=d;have i:=aTI (B:=2097152) (x:=a.X-o.X) (y:=b.Y-o.Y) ⟨by omega,by omega⟩ ⟨by omega,by omega⟩;have q:=aTI (B:=2097152) (x:=a.Y-o.Y) (y:=b.X-o.X) ⟨by omega,by omega⟩ ⟨by omega,by omega⟩;unfold twV twE cr;simp only[wr];rw[i64_in (a.X-o.X) (by omega),i64_in (b.Y-o.Y) (by omega),i64_in (a.Y-o.Y) (by omega),i64_in (b.X-o.X) (by omega),i64_in ((a.X-o.X)*(b.Y-o.Y)) (by omega),i64_in ((a.Y-o.Y)*(b.X-o.X)) (by omega),i64_in _ (by omega)]
theorem aB8(o p:Aaa): aB (λn _=>gQ n o p) λr=>r=Fb o p:=by
 refine aV (λ_=>rfl) (aE (Q:=λr=>r=Fb o p) ?_ λr c=>aC (λh=>aA (by rw[<-c,h])) λh=>aA (by rw[<-c,h]));unfold Fb;refine aC (λh=>aA (by rw[h];rfl)) λh=>aC (λa=>aC (λb=>aA (by rw[h,a,b];rfl)) λb=>aA (by rw[h,a,b];rfl)) λa=>aA (by rw[h,a];rfl)
theorem Kg.near{x:Aaa}(h:Kg x): aD2 x:=by obtain⟨b,c,a,d⟩:=h;exact⟨by omega,by omega,by omega,by omega⟩
theorem aJ9(o a b:Aaa)(j:Kg o)(f:Kg a)(g:Kg b)(e:a≠o)(d:b≠o): aB (λn _=>JP n (o,a,b)) λr=>r=false:=by
 refine aE (aFL [o,a,b] (by simp)) λr i=>aC (λ_=>aC (λh=>absurd (Zh h) e) λ_=>aC (λh=>absurd (Zh h) d) λ_=>aA rfl) λh=>?_;rw[i (by
  intro x c;rcases ZO.1 c with rfl | c
  .exact j.near
  rcases ZO.1 c with rfl | c
  .exact f.near
  .rw[ZJ.1 c];exact g.near)] at h
 cases h
theorem aM9(o a b:Aaa)(q:Kg o)(p:Kg a)(s:Kg b)(m:a≠o)(f:b≠o): aB (λn _=>Sf n o a b) λr=>r=qL o a b:=by
 refine aV (λ_=>rfl) (aE (aJ9 o a b q p s m f) λr v=>aC (λh=>by rw[v] at h;cases h) λ_=>aE (aB8 o a) λw c=>?_);have tw:Fb o a=Fb o b->aB (λn _=>bnd (gP n o a b) λh=>cd (h > 0) (some true) (some false)) λr=>r=qL o a b:=by
  intro e;refine aE (aGG o a b) λt k=>?_;rw[aQv q p s] at k;subst k;refine aC (λh=>aA ?_) λh=>aA ?_<;>(unfold qL;rw[e];simp_all)
 have u:Fb o a≠Fb o b->aB (λn _=>bnd (gQ n o b) λi=>cnd i (some true) (some false)) λr=>r=qL o a b:=by
  intro e;refine aE (aB8 o b) λt k=>?_;refine aC (λh=>aA ?_) λh=>aA ?_<;>(unfold qL;rw[Zu (by simpa using e)];simp_all)
 refine aC (λl=>?_) λl=>?_;all_goals
  refine aE (aB8 o b) λx d=>aC (λj=>?_) λj=>?_;all_goals
   refine aC (λg=>?_) λg=>?_;all_goals
    first
    | exact absurd (Zh g) (by decide)
    | exact absurd rfl (Zk g)
    | exact tw (by rw[<-c,<-d,l,j])
    | exact u (by rw[<-c,<-d,l,j];decide)
theorem Asc.lt{l:List Int}(h:Asc l): ∀(d i:Nat) (x y:Int),l[i]?=some x->l[i+d+1]?=some y->x<y
 | 0,i,x,y,b,a=>h i x y b a
 | d+1,i,x,y,b,a=>by
  have c:i+d+1<l.length:=by have:=(Ze.1 a).1;omega
  have f:=Asc.lt h d i x _ b (Za c);have e:=h (i+d+1) _ y (Za c) (by rw[show i+d+1+1=i+(d+1)+1 by omega];exact a);omega
theorem Asc.inj{α:Type}{f:α->Int}{l:List α}(h:Asc (l.map f)){a b:α}(p:a∈l)(o:b∈l)(e:f a=f b): a=b:=by
 obtain⟨i,n⟩:=Yk.1 p;obtain⟨j,c⟩:=Yk.1 o;have m:(l.map f)[i]?=some (f a):=by rw[Zl,n];rfl
 have k:(l.map f)[j]?=some (f b):=by rw[Zl,c];rfl
 rcases Nat.lt_trichotomy i j with g | d | g
 .have:=h.lt (j-i-1) i _ _ m (by rw[show i+(j-i-1)+1=j by omega];exact k);omega
 .subst d;rw[n] at c;cases c;rfl
 .have:=h.lt (i-j-1) j _ _ k (by rw[show j+(i-j-1)+1=i by omega];exact m);omega
theorem aPb{p:aN}(c:tN p){a:aP}(b:a∈p.Arcs): RL p a.ID=(a,true):=by
 unfold RL;cases h:p.Arcs.find? λx=>x.ID==a.ID with
 | none=>
  have:=W4.1 h a b;simp at this
 | some x=>
  have e:=Xi h;have d:x.ID=a.ID:=by have:=List.find?_some h;simpa using this
  rw[c.asA.inj e b d]
theorem Sd{p:aN}{id:Int}(h:id∈p.Nodes.map Aad.ID): (kP p id).2=true/\(kP p id).1∈p.Nodes:=by
 unfold kP;cases a:p.Nodes.find? λx=>x.ID==id with
 | none=>
  obtain⟨x,b,rfl⟩:=Yb.1 h;have:=W4.1 a x b;simp at this
 | some x=>exact⟨rfl,Xi a⟩
theorem aHl{p:aN}(b:tN p){a:aP}(c:a∈p.Arcs): (dU p a.ID).1=[(kP p a.From).1.At]++a.Via++[(kP p a.To).1.At]:=by
 obtain⟨g,d⟩:=b.con a c;have f:=(Sd g).1;have e:=(Sd d).1;unfold dU;rw[aPb b c];simp only[f,e,Xz]
theorem aNE{p:aN}(c:tN p){a:aP}(d:a∈p.Arcs): ∀x∈(dU p a.ID).1,Kg x:=by
 obtain⟨f,e⟩:=c.con a d;rw[aHl c d];intro x b;rcases ZD.1 b with b | b
 .rcases ZD.1 b with b | b
  .rw[ZJ.1 b];exact c.ptN _ (Sd f).2
  .exact c.ptA a d x b
 .rw[ZJ.1 b];exact c.ptN _ (Sd e).2
def fU(p:aN)(d:Int): Prop:=∃a∈p.Arcs,d=a.ID\/d=-a.ID
structure aG7(p:aN)(o:Aaa)(i:Nat)(l:List Int)(tw:List (Int×Aaa)): Prop where
 len:l.length<=2*i
 dart:∀d∈l,fU p d
 tow:∀d∈l,∃q,bD tw d=some q/\Kg q/\q≠o
theorem aG7.add{p:aN}{o:Aaa}{i:Nat}{l:List Int}{tw:List (Int×Aaa)}{d:Int}{q:Aaa}(g:fU p d)(f:Kg q)(c:q≠o)(k:l.length<=2*i+1)(j:∀d∈l,fU p d)(h:∀d∈l,∃q,bD tw d=some q/\Kg q/\q≠o):
 (l++[d]).length<=2*i+2/\(∀e∈l++[d],fU p e)/\∀e∈l++[d],∃q',bD (eI tw d q) e=some q'/\Kg q'/\q'≠o:=by
 refine⟨by simp;omega,?_,?_⟩
 .intro e he;rcases ZD.1 he with he | he
  .exact j e he
  .rw[ZJ.1 he];exact g
 .intro e he;rw[pM];by_cases a:d=e
  .rw[Zu a];exact⟨q,rfl,f,c⟩
  .rw[ZG a];rcases ZD.1 he with he | he
   .exact h e he
   .exact absurd (ZJ.1 he).symm a
theorem N8(l:List Int)(tw:List (Int×Aaa))(d:Int)(q:Aaa)(h:l.length<=100000): aB (λn _=>oJ n (l,tw,d,q)) λr=>r=(l++[d],eI tw d q):=
 aX (aF (Dc h) (aA rfl))
theorem aFa(p:aN)(H:Sm p)(t:tN p)(id:Int)(v:Aad×Bool)(o:v=kP p id)(i:Nat)(l:List Int)(tw:List (Int×Aaa))(g:aG7 p v.1.At i l tw)(hi:i<=p.Arcs.length): aB (λn m=>kV kW n m (p,id,p.Arcs,ln p.Arcs) (l,tw,(i:Int))) λr=>r.1.length<=600/\(∀d∈r.1,fU p d)/\∀d∈r.1,∃q,bD r.2 d=some q/\Kg q/\q≠v.1.At:=by
 have ha:=H.a;refine bS (aZ (λx Z a2=>?_) (λa1=>aA ⟨by have:=g.len;show l.length<=600;omega,g.dart,g.tow⟩));have c:=Zf Z;have W:=t.nuA x c;have e0:wr (0-x.ID)=-x.ID:=by rw[wr,i64_in _ (by omega)];omega
 rw[bT (by omega),e0];have e:∀I j,aG7 p v.1.At (i+1) I j->aB (λn m=>kV kW n m (p,id,p.Arcs,ln p.Arcs) (I,j,((i+1:Nat):Int))) λr=>r.1.length<=600/\(∀d∈r.1,fU p d)/\∀d∈r.1,∃q,bD r.2 d=some q/\Kg q/\q≠v.1.At:=λI j T=>aFa p H t id v o (i+1) I j T (by omega);have f:aG7 p v.1.At (i+1) l tw:=⟨by have:=g.len;omega,g.dart,g.tow⟩;refine aE (Q:=λ_=>True) ?_ λr _=>aC (λ_=>e _ _ f) λ_=>aE (aC4 p H x.ID) λw R=>aC (λ_=>e _ _ f) λ_=>?_
 .repeat' first
   | exact aA trivial
   | refine aC (λ_=>?_) (λ_=>?_)
 subst R;have u:=aNE t c;have z:=(t.pth x c).2;have h2:=xQ (t.pth x c).1;have K:=Jj p H x.ID;have k:=aHl t c;have C:∃q,(dU p x.ID).1[1]?=some q:=⟨_,Za (by omega)⟩;have E:∃q,(dU p x.ID).1[(dU p x.ID).1.length-2]?=some q:=⟨_,Za (by omega)⟩;obtain⟨G,C⟩:=C;obtain⟨D,E⟩:=E;have i1:idx (dU p x.ID).1 1=some G:=C;have U:wr (ln (dU p x.ID).1-2)=(((dU p x.ID).1.length-2:Nat):Int):=by rw[wr,i64_in _ (by unfold ln;omega)];unfold ln;omega
 have M:idx (dU p x.ID).1 (wr (ln (dU p x.ID).1-2))=some D:=by rw[U,bK];exact E
 have X:Kg G:=u _ (Zf C);have O:Kg D:=u _ (Zf E);have z0:(dU p x.ID).1[0]?=some (kP p x.From).1.At:=by rw[k];rfl
 have S:(dU p x.ID).1[(dU p x.ID).1.length-2+1]?=some (kP p x.To).1.At:=by
  have:(dU p x.ID).1.length-2+1=([(kP p x.From).1.At]++x.Via).length:=by rw[k];simp
  rw[this,k,ZY (Zg _),XX];rfl
 have V:x.From=id->G≠v.1.At:=by
  intro h;rw[o,<-h];exact (z 0 _ _ z0 C).symm
 have J:x.To=id->D≠v.1.At:=by
  intro h;rw[o,<-h];exact z _ _ _ E S
 have d1:fU p x.ID:=⟨x,c,.inl rfl⟩;have L:fU p (-x.ID):=⟨x,c,.inr rfl⟩;have Y:=g.len;refine aC (λN=>?_) λN=>aC (λy=>?_) λy=>e _ _ f
 .have A:=aG7.add (i:=i) d1 X (V (Wl N)) (by omega) g.dart g.tow;refine aF i1 (aE (N8 l tw _ G (by omega)) λs F=>?_);subst F;refine aC (λy=>?_) λy=>e _ _ ⟨by have:=A.1;omega,A.2.1,A.2.2⟩;have B:=aG7.add (l:=l++[x.ID]) (tw:=eI tw x.ID G) (i:=i) L O (J (Wl y)) (by simp;omega) A.2.1 A.2.2;refine aF M (aE (N8 _ _ _ D (by simp;omega)) λs F=>?_);subst F;exact e _ _ ⟨by have:=B.1;omega,B.2.1,B.2.2⟩
 .have A:=aG7.add (i:=i) L O (J (Wl y)) (by omega) g.dart g.tow;refine aF M (aE (N8 l tw _ D (by omega)) λs F=>?_);subst F;exact e _ _ ⟨by have:=A.1;omega,A.2.1,A.2.2⟩
termination_by p.Arcs.length-i
def aE0(o a b:Aaa): Int:=if qL o a b=true then -1 else if qL o b a=true then 1 else 0
theorem I8{o a b:Aaa}: aE0 o a b<0↔qL o a b=true:=by
 unfold aE0;split<;>(try split)<;>simp_all
theorem aMN(p:aN)(u:Sm p)(A:tN p)(id:Int): aB (λn _=>Mw n p id) λr=>r.length<=600/\∀d∈r,fU p d:=by
 refine aV (λ_=>rfl) (aE (SG p u id) λv j=>aC (λb=>aE (aW (aFa p u A id v j 0 [] [] ⟨by simp,by simp,by simp⟩ (by omega))) λw m=>aX (aF (xZ (Yi (by have:=m.1;omega))) ?_)) λ_=>aA (by simp));have k:Kg v.1.At:=by
  rw[j] at b |-;unfold kP at b |-;cases h:p.Nodes.find? λx=>x.ID==id with
  | none=>rw[h] at b;cases b
  | some x=>exact A.ptN x (Xi h)
 have E:∀x∈w.1,∀y∈w.1,aB (λn _=>bnd (wQ n (v.1,w.2,x,y)) λi=>some i) λr=>r=aE0 v.1.At ((bD w.2 x).getD ⟨0,0⟩) ((bD w.2 y).getD ⟨0,0⟩):=by
  have a:∀x∈w.1,Kg ((bD w.2 x).getD ⟨0,0⟩)/\(bD w.2 x).getD ⟨0,0⟩≠v.1.At:=by
   intro x c;obtain⟨D,q,e2,t⟩:=m.2.2 x c;rw[q];exact⟨e2,t⟩
  intro x c y f;refine aE (Q:=λr=>r=aE0 v.1.At ((bD w.2 x).getD ⟨0,0⟩) ((bD w.2 y).getD ⟨0,0⟩)) (aX ?_) λr e=>aA e;refine aE (aM9 v.1.At ((bD w.2 x).getD ⟨0,0⟩) ((bD w.2 y).getD ⟨0,0⟩) k (a x c).1 (a y f).1 (a x c).2 (a y f).2) λr e=>aC (λh=>aA ?_) λh=>aE (aM9 v.1.At ((bD w.2 y).getD ⟨0,0⟩) ((bD w.2 x).getD ⟨0,0⟩) k (a y f).1 (a x c).1 (a y f).2 (a x c).2) λG l=>aC (λg=>aA ?_) λg=>aA ?_
  .unfold aE0;rw[Zu (by rw[<-e,h])]
  .unfold aE0;rw[ZG (by rw[<-e,h];simp),Zu (by rw[<-l,g])]
  .unfold aE0;rw[ZG (by rw[<-e,h];simp),ZG (by rw[<-l,g];simp)]
 have B:Swo (λx y=>aE0 v.1.At ((bD w.2 x).getD ⟨0,0⟩) ((bD w.2 y).getD ⟨0,0⟩)) w.1:=by
  have a:∀x∈w.1,(bD w.2 x).getD ⟨0,0⟩≠v.1.At:=by
   intro x c;obtain⟨D,q,e2,t⟩:=m.2.2 x c;rw[q];exact t
  refine⟨λx c=>?_,λx c y f z s o g=>?_,λx c y f z s o g=>?_⟩
  .rw[I8,aOf];simp
  .rw[I8] at *;exact aOd (a x c) (a y f) (a z s) o g
  .rw[I8,Bool.not_eq_true] at *;exact aOe (a x c) (a y f) (a z s) o g
 exact aE (HI (F:=λn x y=>bnd (wQ n (v.1,w.2,x,y)) λi=>some i) E B) λr e=>aA ⟨by rw[e.1];exact m.1,λd C=>m.2.1 d (e.2 d C)⟩
theorem aDo(l:List Int)(d:Int)(f:l.length<=1000): Tt (λn _=>wP n l d):=by
 refine aV (λ_=>rfl) (aE (aIp l d (by omega)) λr a=>aC (λ_=>aA trivial) λh=>?_);have i:0<=r:=by have:=Zk h;omega
 have g:r.toNat<l.length:=by rcases a with a | a<;>omega
 have c:wr (wr (r+ln l)-1)=r+(l.length:Int)-1:=by unfold wr ln;rw[i64_in (r+_) (by omega),i64_in _ (by omega)]
 rw[c];have e2:aIB (r+(l.length:Int)-1) (ln l)=some ((r+(l.length:Int)-1).tmod (l.length:Int)):=by unfold aIB ln;rw[ZG (by omega)]
 have b:0<=(r+(l.length:Int)-1).tmod (l.length:Int):=Int.tmod_nonneg _ (by omega);have e:(r+(l.length:Int)-1).tmod (l.length:Int)<(l.length:Int):=Int.tmod_lt_of_pos _ (by omega);exact aF e2 (aF (xU b (by omega)) (aA trivial))
theorem aLn{V:Type}{m:List (Int×V)}{k:Int}{v:V}(h:bD m k=some v): v∈m.map Prod.snd:=by
 induction m with
 | nil=>cases h
 | cons a r b=>
  simp only[bD] at h;split at h
  .cases h;exact ZP ..
  .exact ZU _ (b h)
theorem aLi{V:Type}(m:List (Int×V))(k:Int)(v:V): (eI m k v).length<=m.length+1:=by
 induction m with
 | nil=>simp[eI]
 | cons a r b=>
  simp only[eI];split
  .simp
  .simp only[Z5];omega
theorem aIr(p:aN)(v:List Int)(f:v.length<=600)(b:∀d∈v,fU p d)(B:Nat)(c:B<=190000)(i:Nat)(o:i<=v.length)(l:List Int)(m:List (Int×Int))(s:l.length<=B+i)(q:m.length<=B+i)(a:∀d∈l,fU p d):
 aB (λn k=>kV qQ n k (v,v,ln v) (l,m,(i:Int))) λr=>r.1.length<=B+600/\r.2.length<=B+600/\∀d∈r.1,fU p d:=
 bS (aZ (λd h j=>aF (Ra (by omega)) (aE (aDo v d (by omega)) λw _=>by
  rw[bT (by omega)];refine aIr p v f b B c (i+1) (by omega) _ _ (by simp;omega) (by have:=aLi m (wr (0-d)) w;omega) ?_;intro e he;rcases ZD.1 he with he | he
  .exact a e he
  .rw[ZJ.1 he];exact b d (Zf h)))
  (λg=>aA ⟨by show l.length<=_;omega,by show m.length<=_;omega,a⟩))
termination_by v.length-i
theorem aIs(p:aN)(b:Sm p)(e:tN p)(i:Nat)(t:i<=p.Nodes.length)(l:List Int)(m:List (Int×Int))(j:l.length<=600*i)(o:m.length<=600*i)(f:∀d∈l,fU p d):
 aB (λn k=>kV qR n k (p,p.Nodes,ln p.Nodes) (l,m,(i:Int))) λr=>r.1.length<=180000/\r.2.length<=180000/\∀d∈r.1,fU p d:=by
 have s:=b.n;refine bS (aZ (λx q h=>aE (aMN p b e x.ID) λw c=>aE (aW (aIr p w c.1 c.2 (600*i) (by omega) 0 (by omega) l m (by omega) (by omega) f)) λr a=>?_) (λg=>aA ⟨by show l.length<=_;omega,by show m.length<=_;omega,f⟩));rw[bT (by omega)];exact aIs p b e (i+1) (by omega) r.1 r.2 (by have:=a.1;omega) (by have:=a.2.1;omega) a.2.2
termination_by p.Nodes.length-i
theorem aMp{p q:Int->Bool}{d:Int}: ∀(l:List Int),(∀x,q x=true->p x=true)->d∈l->p d=true->q d=false->l.countP q<l.countP p
 | [],_,h,_,_=>by cases h
 | a::l,b,h,i,g=>by
  have e:∀l:List Int,l.countP q<=l.countP p:=λl=>List.countP_mono_left λx _ h=>b x h;rw[Ve,Ve];rcases ZO.1 h with rfl | h
  .rw[i,g];have:=e l;simp;omega
  .have:=aMp l b h i g;by_cases f:q a=true
   .rw[f,b a f];simp;omega
   .rw[ZG f];omega
def oK(m:List (Int×Bool))(k:Int): Bool:=!(bD m k).getD false
theorem aEa(p:aN)(v:List (Int×Int))(V:List Int)(f:∀k,(bD v k).getD 0∈V)(g:V.length<=800000)(seen:List (Int×Bool))(a:List Int)(d:Int)(j:d∈V)(o:a.length+V.countP (oK seen)<=800000):
 aB (λn k=>kV qO n k v (seen,a,d)) λr=>∃t,r.2=a++t/\r.2.length+V.countP (oK r.1)<=a.length+V.countP (oK seen)/\((bD seen d).getD false=false->∃i,t=d::i):=by
 refine bS (aC (λh=>aA ⟨[],by simp,Zg _,λc=>by rw[h] at c;cases c⟩) λh=>aF (Ra (by omega)) ?_);have m:V.countP (oK (eI seen d true))<V.countP (oK seen):=by
  refine aMp V (λx b=>?_) j (by unfold oK;rw[h];rfl) (by unfold oK;rw[pM,Zu rfl];rfl);unfold oK at b |-;rw[pM] at b;split at b
  .cases b
  .exact b
 refine (aEa p v V f g (eI seen d true) (a++[d]) ((bD v d).getD 0) (f d) (by simp;omega)).imp ?_;rintro r ⟨t,l,c,_⟩;exact⟨d::t,by rw[l];simp,by simp only[Zi,Z5,Z2] at c;omega,λ_=>⟨t,rfl⟩⟩
termination_by V.countP (oK seen)
def dV(v:List Int×List (Int×Int)): List Int:=v.1++0::v.2.map Prod.snd
theorem aC9(p:aN)(v:List Int×List (Int×Int))(s:v.1.length<=180000)(u:v.2.length<=180000)(e:∀d∈v.1,fU p d)(i:Nat)(G:i<=v.1.length)(l:List (List Int))(m:List (Int×Bool))(H:l.length<=i)(z:l.flatten.length+(dV v).countP (oK m)<=400000)(g:∀c∈l,c.length<=800000/\∃d t,c=d::t/\fU p d):
 aB (λn k=>kV qP n k (v.2,tE v.1,ln (tE v.1)) (l,m,(i:Int))) λr=>r.1.length<=180000/\r.1.flatten.length<=400000/\∀c∈r.1,c.length<=800000/\∃d t,c=d::t/\fU p d:=by
 have y:=wW v.1;refine bS (aZ (λd B F=>?_) (λE=>aA ⟨by show l.length<=_;omega,by show l.flatten.length<=_;omega,g⟩));rw[bT (by omega)];have b:d∈v.1:=(aI4 v.1).mem_iff.1 (Zf B);refine aC (λ_=>aC9 p v s u e (i+1) (by omega) l m (by omega) z g) λx=>?_;have A:∀k,(bD v.2 k).getD 0∈dV v:=by
  intro k;unfold dV;cases D:bD v.2 k with
  | none=>simp
  | some w=>exact List.mem_append_right _ (ZU _ (aLn D))
 have o:(dV v).length<=400000:=by simp[dV];omega
 refine aE (Q:=λr=>∃t,r.2=d::t/\r.2.length+(dV v).countP (oK r.1)<=(dV v).countP (oK m)) (aX (aE (aW (aEa p v.2 (dV v) A (by omega) m [] d (List.mem_append_left _ b) (by simp only[Z2];omega))) λr j=>aA ?_)) λr j=>aF (Ra (by omega)) ?_
 .obtain⟨t,h,q,C⟩:=j;obtain⟨f,rfl⟩:=C x;exact⟨f,by simpa using h,by simpa using q⟩
 obtain⟨f,h,q⟩:=j;refine aC9 p v s u e (i+1) (by omega) _ _ (by simp;omega) ?_ ?_
 .rw[XD,Zi,show[r.2].flatten=r.2 by simp];omega
 intro c a;rcases ZD.1 a with a | a
 .exact g c a
 .rw[ZJ.1 a];exact⟨by omega,d,f,h,e d b⟩
termination_by v.1.length-i
decreasing_by all_goals (have:=wW v.1;omega)
theorem aUx{v:List Int×List (Int×Int)}(c:v.1.length<=180000)(d:v.2.length<=180000){m:List (Int×Bool)}: ([]:List (List Int)).flatten.length+(dV v).countP (oK m)<=400000:=by
 have b:(dV v).countP (oK m)<=(dV v).length:=List.countP_le_length;have a:(dV v).length<=400000:=by simp[dV];omega
 simp only[Xg,Z2];omega
def aQh(p:aN)(l:List (List Int)): Prop:=l.length<=180000/\l.flatten.length<=400000/\∀c∈l,c.length<=800000/\∃d t,c=d::t/\fU p d
theorem aEY(p:aN)(b:Sm p): aB (λn _=>Ah n p) λr=>r.2=0->tN p/\aQh p r.1:=by
 refine aV (λ_=>rfl) (aE (aIt p b) λc i=>aC (λh=>aA λe=>?_) λh=>?_)
 .rw[show c=0 from e] at h;simp at h
 .have d:=i (by simpa using h);exact aE (aW (aIs p b d 0 (by omega) [] [] (by simp) (by simp) (by simp))) λv a=>aX (aF (xZ (Yi (by have:=a.1;omega))) (aE (FH (f:=λn=>Mv n (v.2,tE v.1,ln (tE v.1)) ([],[],0)) (aW (aC9 p v a.1 a.2.1 a.2.2 0 (by omega) [] [] (by simp) (aUx a.1 a.2.1) (by simp)))) λr g=>aA λ_=>⟨d,g⟩))
structure MG(p:aN)(m:List (Int×List Aaa)): Prop where
 has:∀a∈p.Arcs,∃l,bD m a.ID=some l/\2<=l.length
 len:∀k l,bD m k=some l->l.length<=302
theorem aDn(p:aN)(d:Sm p)(g:tN p)(i:Nat)(m:List (Int×List Aaa))(s:∀(j:Nat) (a:aP),j<i->p.Arcs[j]?=some a->∃l,bD m a.ID=some l/\2<=l.length)(t:∀k l,bD m k=some l->l.length<=302): aB (λn k=>kV lN n k (p,p.Arcs,ln p.Arcs) (m,(i:Int))) λr=>MG p r:=by
 have y:=d.a;refine bS (aZ (λx f u=>aE (aC4 p d x.ID) λw q=>aC (λ_=>?_) λh=>?_) (λo=>aA ⟨wH.fin (l:=p.Arcs) (i:=i) (Q:=λ(a:aP)=>∃l,bD m a.ID=some l/\2<=l.length) s o,t⟩))
 .rw[bT (by omega)];subst q;refine aDn p d g (i+1) _ (λj a v b=>?_) λk l e=>?_
  .rw[pM];by_cases he:x.ID=a.ID
   .rw[Zu he];exact⟨_,rfl,xQ (g.pth x (Zf f)).1⟩
   .rw[ZG he];refine s j a ?_ b;rcases ZL j i with h | h
    .exact h
    .have:j=i:=by omega
     subst this;rw[f] at b;cases b;exact absurd rfl he
  .rw[pM] at e;split at e
   .cases e;exact Jj p d _
   .exact t k l e
 .subst q;rw[(g.pth x (Zf f)).1] at h;simp at h
termination_by p.Arcs.length-i
theorem aAb(p:aN)(c:Sm p)(b:tN p): aB (λn _=>oY n p) λr=>MG p r:=
 aV (λ_=>rfl) (aE (aW (aDn p c b 0 [] (λj a h=>by omega) (λk l h=>by cases h))) λr d=>aA d)
theorem aE8(p:aN)(a:Sm p)(d:Int): Tt (λn _=>Id n p d):=
 aV (λ_=>rfl) (aC (λ_=>aA trivial) λ_=>aC (λ_=>aA trivial) λ_=>aE (aMO p a _) λ_ _=>aC (λ_=>aA trivial) λ_=>aA trivial)
theorem M2(p:aN)(a:Sm p)(d:Int): Tt (λn _=>Ea n p d):=
 aV (λ_=>rfl) (aE (aE8 p a d) λ_ _=>aC (λ_=>aC (λ_=>aA trivial) λ_=>aA trivial) λ_=>aA trivial)
theorem aIm(v:List Aaa)(k:Int)(c:k=wr (ln v-1))(f:2<=v.length)(e:v.length<=1000)(i:Nat)(s:Int): Tt (λn m=>kV tQ n m (v,k) (s,(i:Int))):=by
 have g:wr (ln v-1)=((v.length-1:Nat):Int):=by unfold wr ln;rw[i64_in _ (by omega)];omega
 refine bS (aC (λh=>?_) (λh=>aA trivial));have d:i<v.length-1:=by rw[c,g] at h;have:=Zh h;omega
 have b:idx v (i:Int)=some v[i]:=by rw[bK];exact Za (by omega)
 have a:idx v ((i+1:Nat):Int)=some v[i+1]:=by rw[bK];exact Za (by omega)
 rw[bT (by omega)];exact aF b (aF a (aF a (aF b (aIm v k c f e (i+1) _))))
termination_by v.length-i
theorem aC1(p:aN)(e:Sm p)(c:List Int)(f:c.length<=512)(i:Nat)(s:Int): aB (λn m=>qH tR n m (p,c,ln c) (s,(i:Int))) (Su (λ_=>True) λ_=>True):=
 bO (aZ (λd k j=>aE (aE8 p e d) λw _=>aC (λ_=>aE (aC4 p e _) λv g=>aC (λ_=>aA trivial) λb=>by
  rw[bT (by omega)];have a:v.2=0:=by simpa using b
  refine aE (aW (aIm v.1 _ rfl (by rw[g] at a |-;exact xQ a) (by rw[g];have:=Jj p e (nF d (wr (0-d)));omega) 0 0)) λt _=>aC (λ_=>aC1 p e c f (i+1) _) λ_=>aC1 p e c f (i+1) _) λ_=>aA trivial)
  (λh=>aA trivial))
termination_by c.length-i
theorem aJ6(p:aN)(a:Sm p)(c:List Int): Tt (λn _=>qN n p c):=
 aV (λ_=>rfl) (aC (λ_=>aA trivial) λh=>aS (aW (aC1 p a c (by have h:¬ln c > 512:=Zk h;unfold ln at h;omega) 0 0)) (λ_ _=>aA trivial) λ_ _=>aF rfl (aA trivial))
section
variable {a b c:Aaa}
instance aY6: TC (λn=>mN n (a,b,c)):=⟨by repeat' first | exact aA trivial | refine aC (λ_=>?_) (λ_=>?_) | refine bI λ_=>?_⟩
instance aY5: TC (λn=>mM n (a,b,c)):=⟨by repeat' first | exact aA trivial | refine aC (λ_=>?_) (λ_=>?_) | refine bI λ_=>?_⟩
end
theorem aO7(a x y:Aaa)(b c:Bool): Tt (λn _=>mO n (a,b,c,x,y)):=by
 refine aX ?_;repeat' first | exact aA trivial | refine aC (λ_=>?_) (λ_=>?_) | refine bI λ_=>?_
theorem aHT(a:Aaa)(l:List Aaa)(g:l.length<=1000)(i:Nat)(q:1<=i)(p f:Bool): Tt (λn k=>kV eF n k (a,l) (p,f,(i:Int))):=by
 refine bS (aC (λh=>?_) λ_=>aA trivial);have b:(i:Int)<ln l:=Zh h;have b:i<l.length:=by unfold ln at b;omega
 have j:wr ((i:Int)-1)=((i-1:Nat):Int):=by rw[wr,i64_in _ (by omega)];omega
 rw[bT (by omega),j];have c:∀e d,Tt (λn k=>kV eF n k (a,l) (e,d,((i+1:Nat):Int))):=λe d=>aHT a l g (i+1) (by omega) e d;have o:idx l ((i-1:Nat):Int)=some (l[i-1]'(by omega)):=by rw[bK];exact Za (by omega)
 have m:idx l (i:Int)=some l[i]:=by rw[bK];exact Za (by omega)
 exact aF o (aF m (aE (aO7 _ _ _ _ _) λ_ _=>aC (λ_=>aC (λ_=>c _ _) λ_=>c _ _) λ_=>aC (λ_=>c _ _) λ_=>c _ _))
termination_by l.length-i
def N2(m:List (Int×List Aaa)): Prop:=∀k l,bD m k=some l->l.length<=302
theorem N2.d{m:List (Int×List Aaa)}(h:N2 m)(k:Int): ((bD m k).getD []).length<=1000:=by
 cases e:bD m k with
 | none=>simp
 | some l=>have:=h k l e;show l.length<=_;omega
theorem aHU(m:List (Int×List Aaa))(f:N2 m)(c:List Int)(g:c.length<=800000)(a:Aaa)(i:Nat)(e b:Bool): Tt (λn k=>kV fR n k (a,m,c,ln c) (e,b,(i:Int))):=
 bS (aZ (λd l j=>by
  rw[bT (by omega)];exact aE (aW (aHT a _ (f.d _) 1 (by omega) e b)) λ_ _=>aHU m f c g a (i+1) _ _)
  (λh=>aA trivial))
termination_by c.length-i
theorem aO6(m:List (Int×List Aaa))(d:N2 m)(c:List Int)(b:c.length<=800000)(a:Aaa): Tt (λn _=>eL n m c a):=
 aV (λ_=>rfl) (aE (Q:=λ_=>True) (aX (aE (aW (aHU m d c b a 0 false false)) λ_ _=>aA trivial)) λ_ _=>aC (λ_=>aC (λ_=>aA trivial) λ_=>aA trivial) λ_=>aC (λ_=>aA trivial) λ_=>aA trivial)
theorem aFW(m:List (Int×List Aaa))(e:N2 m)(l:List Kh)(f:∀x∈l,x.outer.length<=800000)(a:Aaa)(b i:Nat)(g:b<l.length)(d:i<l.length): Tt (λn _=>tH n (a,m,l,(b:Int),(i:Int))):=by
 have c:idx l (i:Int)=some l[i]:=by rw[bK];exact Za d
 have e2:idx l (b:Int)=some l[b]:=by rw[bK];exact Za g
 have k:Tt (λn _=>eL n m l[i].outer a):=aO6 m e _ (f _ (ZS d)) a;exact aC (λ_=>aF c (aE k λ_ _=>aC (λ_=>aA trivial) λ_=>aA trivial)) λ_=>aF c (aF e2 (aC (λ_=>aF c (aE k λ_ _=>aC (λ_=>aA trivial) λ_=>aA trivial)) λ_=>aA trivial))
theorem PW(m:List (Int×List Aaa))(d:N2 m)(l:List Kh)(f:∀x∈l,x.outer.length<=800000)(g:l.length<=800000)(a:Aaa)(b i:Nat)(e:b<l.length): aB (λn k=>kV iQ n k (a,m,l) ((b:Int),(i:Int))) λr=>0<=r/\r.toNat<l.length:=
 bS (aC (λh=>by
  have c:(i:Int)<ln l:=Zh h;have c:i<l.length:=by unfold ln at c;omega
  rw[bT (by omega)];exact aE (aFW m d l f a b i e c) λ_ _=>aC (λ_=>PW m d l f g a i (i+1) c) λ_=>PW m d l f g a b (i+1) e)
  (λj=>aA (show 0<=(b:Int)/\(b:Int).toNat<l.length from⟨by omega,by simpa using e⟩)))
termination_by l.length-i
theorem aHM(m:List (Int×List Aaa))(c:N2 m)(l:List Kh)(d:∀x∈l,x.outer.length<=800000)(e:l.length<=800000)(f:0<l.length)(a:Aaa): aB (λn _=>eE n m l a) λr=>0<=r/\r.toNat<l.length:=
 aV (λ_=>rfl) (aE (aW (PW m c l d e a 0 1 f)) λr b=>aA b)
theorem aC8(l:List aP)(a:l.length<=300)(id:Int)(i:Nat)(s:Int): Tt (λn m=>kV rP n m (id,l,ln l) (s,(i:Int))):=
 bS (aZ (λd e b=>by
  rw[bT (by omega)];refine aE (Q:=λ_=>True) ?_ λ_ _=>aC (λ_=>aC8 l a id (i+1) _) λ_=>aC8 l a id (i+1) _;exact aC (λ_=>aA trivial) λ_=>aA trivial)
  (λc=>aA trivial))
termination_by l.length-i
theorem aAJ(p:aN)(b:Sm p)(id:Int): Tt (λn _=>kN n p id):=
 aV (λ_=>rfl) (aE (aW (aC8 p.Arcs b.a id 0 0)) λ_ _=>aA trivial)
structure aS9(l:List dR)(b c:Nat): Prop where
 al:∀a∈l,a.alone.length<=c
 sz:∀a∈l,a.outer.length+a.inner.flatten.length<=400000
 l1:1<=l.length
 l2:l.length<=200000
 ou:∀a∈l,a.outer.length<=800000
 inn:∀a∈l,a.inner.length<=b/\∀c∈a.inner,c.length<=800000
 ne:∀(i:Nat) (a:dR),1<=i->l[i]?=some a->a.outer≠[]
def Ru: Prop:=∀(p:aN) (cs:List (List Int)) (m:List (Int×List Aaa)),Sm p->tN p->aQh p cs->MG p m->aB (λn _=>jD n p cs m) λr=>aS9 r 200000 300
theorem aMj(a:dR)(h:a.inner.length<=200000): aB (λn _=>fS n a) λr=>r=a.outer::a.inner:=
 aV (λ_=>rfl) (aF (Qz (l:=[a.outer]) (m:=a.inner) (by simp;omega)) (aA rfl))
section
variable (p:aN)(hp:Sm p)(lf:List Int)(v:Int)
include hp
theorem aHP(c:List Int)(a:c.length<=800000)(i:Nat): aB (λn m=>qH oZ n m (p,lf,v,c,ln c) (i:Int)) (Su (λ_=>True) λ_=>True):=
 bO (aZ (λd g b=>aE (M2 p hp d) λ_ _=>by
  rw[bT (by omega)];exact aC (λ_=>aA trivial) λ_=>aHP c a (i+1))
  (λe=>aA trivial))
termination_by c.length-i
theorem aBV(a:List (List Int))(g:a.length<=800000)(b:∀c∈a,c.length<=800000)(i:Nat): aB (λn m=>qH pA n m (p,lf,v,a,ln a) (i:Int)) (Su (λ_=>True) λ_=>True):=
 bO (aZ (λc e d=>aS (aW (aHP p hp lf v c (b c (Zf e)) 0)) (λ_ _=>aA trivial) λ_ _=>aF rfl (by
  rw[bT (by omega)];exact aBV a g b (i+1)))
  (λf=>aA trivial))
termination_by a.length-i
end
theorem aD5{V:Type}(k:Int)(v:V): ∀m:List (Int×V),bD m k=none->(eI m k v).length=m.length+1
 | [],_=>rfl
 | a::r,h=>by
  simp only[bD] at h;split at h
  .cases h
  .rename_i b;simp only[eI];rw[ZG b];simp only[Z5];rw[aD5 k v r h]
theorem aBW(p:aN)(q:Sm p)(l:List dR)(o:aS9 l 200000 300)(i:Nat)(R:i<=l.length)(lf:List Int)(g:List (Int×Bool))(K:lf.length=i)(E:g.length=i-1)(j:∀k v,bD g k=some v->v=true): aB (λn m=>qH pB n m (p,l,ln l) (lf,g,(i:Int))) (Su (λ_=>True) λr=>r.1.length=l.length/\r.2.length=l.length-1):=by
 have O:=o.l2;refine bO (aZ (λa I N=>?_) (λL=>aA (show lf.length=l.length/\g.length=l.length-1 by omega)));have y:=Zf I;have D:=o.inn a y;have B:=o.ou a y;have f:∀w,w=a.outer::a.inner->w.length<=800000/\∀c∈w,c.length<=800000:=by
  rintro w rfl;refine⟨by simp;omega,λc H=>?_⟩;rcases ZO.1 H with rfl | H
  .exact B
  .exact D.2 c H
 rw[bT (by omega)];refine aC (λb=>?_) λb=>?_
 .have F:1<=i:=by have:(i:Int) > 0:=Zh b;omega
  have G:=o.ne i a F I;obtain⟨d,t,C⟩:∃d t,a.outer=d::t:=by
   cases h:a.outer with
   | nil=>exact absurd h G
   | cons d t=>exact⟨d,t,rfl⟩
  refine aF (x:=d) (by rw[C];rfl) (aE (M2 p q d) λv _=>aE (Q:=λr=>r=false->(bD g v).getD false=false) ?_ λ_ M=>aC (λ_=>aA trivial) λJ=>aE (aMj a (by omega)) λw s=>aS (aW (aBV p q lf v w (f w s).1 (f w s).2 0)) (λ_ _=>aA trivial) λ_ _=>aF rfl (aF (Ra (by omega)) (aBW p q l o (i+1) (by omega) _ _ (by simp;omega) ?_ ?_)))
  .exact aC (λ_=>aA (by simp)) λ_=>aC (λ_=>aA (by simp)) λh=>aA λ_=>h
  .have h:=M J;have:bD g v=none:=by
    cases e:bD g v with
    | none=>rfl
    | some w=>rw[e,j v w e] at h;cases h
   rw[aD5 v true g this,E];omega
  .intro k u z;rw[pM] at z;split at z
   .cases z;rfl
   .exact j k u z
 .exact aE (aMj a (by omega)) λw s=>aS (aW (aBV p q lf 0 w (f w s).1 (f w s).2 0)) (λ_ _=>aA trivial) λ_ _=>aF rfl (aF (Ra (by omega)) (aBW p q l o (i+1) (by omega) _ _ (by simp;omega) (by have:¬(i:Int) > 0:=Zk b;omega) j))
termination_by l.length-i
theorem aO2(p:aN)(e:Sm p)(l:List dR)(c:aS9 l 200000 300): aB (λn _=>Jd n p l) λr=>r.2=true->r.1.length=l.length/\l.length=p.Faces.length+1:=
 aV (λ_=>rfl) (aS (aW (aBW p e l c 0 (by omega) [] [] rfl rfl (λ_ _ h=>by cases h))) (λ_ _=>aA (by simp)) λr d=>aF rfl (aC (λb=>aA λ_=>⟨d.1,by have:=c.l1;have f:=d.2;have b:ln r.2=ln p.Faces:=Wl b;unfold ln at b;omega⟩) λ_=>aA λh=>by cases h))
def SzR(o:List Int)(i:List (List Int))(a:List Int): Prop:=o.length+i.flatten.length<=400000/\(i.length<=200000/\∀c∈i,c.length<=800000)/\a.length<=300
theorem aQD(s:Ru)(p:aN)(g:Sm p): aB (λn _=>Ba n p) λr=>r.2.2.2=0->tN p/\r.1.length=p.Faces.length+1/\r.2.1.length=r.1.length/\r.1.length<=200000/\∀a∈r.1,SzR a.outer a.inner a.alone:=by
 refine aV (λ_=>rfl) (aE (aEY p g) λc o=>aC (λb=>aA λh=>?_) λb=>?_)
 .rw[show c.2=0 from h] at b;simp at b
 .obtain⟨j,i⟩:=o (by simpa using b);exact aE (aAb p g j) λm q=>aE (s p c.1 m g j i q) λl d=>aE (aO2 p g l d) λf k=>aC (λb=>aA λ_=>⟨j,(k b).2,(k b).1,d.l2,λa e=>⟨d.sz a e,⟨by have:=(d.inn a e).1;omega,(d.inn a e).2⟩,by have:=d.al a e;omega⟩⟩) λ_=>aA λh=>by cases h
theorem aIo(d:List Int)(b:List dR)(k:d.length=b.length)(j:b.length<=200000)(f:∀a∈b,SzR a.outer a.inner a.alone)(i:Nat)(l:List dW)(q:l.length=i)(e:∀r∈l,SzR r.Outer r.Inner r.Alone)(s:i<=b.length): aB (λn m=>kV lO n m (d,b,ln b) (l,(i:Int))) λr=>r.length=b.length/\r.length<=200000/\∀x∈r,SzR x.Outer x.Inner x.Alone:=by
 refine bS (aZ (λa h g=>?_) (λp=>aA ⟨show l.length=_ by omega,show l.length<=_ by omega,e⟩));obtain⟨y,o⟩:∃y,d[i]?=some y:=⟨_,Za (by omega)⟩;rw[bT (by omega)];exact aF (by rw[bK];exact o) (aF (Ra (by omega)) (aIo d b k j f (i+1) _ (by simp;omega) (by
  intro r c;rcases ZD.1 c with c | c
  .exact e r c
  .rw[ZJ.1 c];exact f a (Zf h)) (by omega)))
termination_by b.length-i
theorem aUC(x y:dW): aB (λn _=>jT n x y) λr=>r=Ms x.Face y.Face:=
 aV (λ_=>rfl) (aE (gD _ _) λr a=>aA a)
theorem SB(m:Ru)(p:aN)(s:Sm p): ∃v:List dW×Int,aB (λn _=>kG n p) (λr=>r=v)/\(v.2=0->tN p/\v.1.length=p.Faces.length+1)/\(v.1.length<=200000/\∀x∈v.1,SzR x.Outer x.Inner x.Alone)/\aB (λn _=>Jf n p) λr=>r=v.2:=by
 obtain⟨v,e,g⟩:=(aQD m p s).val;have k:aB (λn _=>kG n p) λr=>r.2=v.2.2.2/\(r.2=0->r.1.length=v.1.length)/\r.1.length<=200000/\∀x∈r.1,SzR x.Outer x.Inner x.Alone:=by
  refine aV (λ_=>rfl) (aE g λw a=>?_);subst a;refine aC (λb=>aA ⟨rfl,λh=>by rw[show w.2.2.2=0 from h] at b;simp at b,by simp,by simp⟩) λb=>?_;have i:w.2.2.2=0:=by simpa using b
  obtain⟨_,_,u,j,q⟩:=e i;exact aE (aW (aIo w.2.1 w.1 u j q 0 [] (by simp) (by simp) (by omega))) λl c=>aX (aF (xZ (Yi (by have:=c.2.1;omega))) (aE (HI (F:=λn x y=>bnd (jT n x y) λh=>some h) (λx _ y _=>aE (aUC x y) λ_ h=>aA h) (aJZ _ _)) λr f=>aA ⟨by rw[i],λ_=>by show r.length=_;rw[f.1];exact c.1,by show r.length<=_;rw[f.1];exact c.2.1,λx t=>c.2.2 x (f.2 x t)⟩))
 obtain⟨w,a,d⟩:=k.val;exact⟨w,d,λh=>⟨(e (a.1▸h)).1,by rw[a.2.1 h];exact (e (a.1▸h)).2.1⟩,a.2.2,aV (λ_=>rfl) (aE g λz o=>aA (by rw[o,a.1]))⟩
theorem aWl{c:Prop}[Decidable c]{x y:Nat×Nat}(b:1<=x.2/\x.2<=4)(a:1<=y.2/\y.2<=4): 1<=(if c then x else y).2/\(if c then x else y).2<=4:=by split<;>assumption
theorem aUv(s:ByteArray)(p:Nat)(h:p<s.size): 1<=(Utf8.decode s p).2/\(Utf8.decode s p).2<=4:=by
 unfold Utf8.decode;dsimp only;repeat' first
  | apply aWl
  | (show 1<=_/\_<=4;exact⟨by dsimp only;omega,by dsimp only;omega⟩)
theorem aWA{α:Type}{P:α->Prop}{f:Nat->Nat->Option α}(h:aB f P): Tt f:=h.imp λ_ _=>trivial
theorem aEJ(a:Int)(b:wI)(i:Nat): aB (λn m=>qH pP n m (a,b) (i:Int)) (Su (λ_=>True) λ_=>True):=
 bO (aC (λh=>by
  have h:(i:Int)<13:=Zh h;have h:i<13:=by omega
  rw[bT (by omega)];refine aF (x:=([b.e0,b.e1,b.e2,b.e3,b.e4,b.e5,b.e6,b.e7,b.e8,b.e9,b.e10,b.e11,b.e12]:List fZ)[i]) (by rw[bK];exact Za (by simpa using h)) (aE (Q:=λ_=>True) ?_ λ_ _=>aC (λ_=>aA trivial) λ_=>aEJ a b (i+1));repeat' first
   | exact aA trivial
   | refine aC (λ_=>?_) (λ_=>?_)) λ_=>aA trivial)
termination_by 13-i
theorem aEI(a:Int): Tt (λn _=>wA n a):=
 aV (λ_=>rfl) (aC (λ_=>aA trivial) λ_=>aC (λ_=>aA trivial) λ_=>aS (aW (aEJ _ _ 0)) (λ_ _=>aA trivial) λ_ _=>aF rfl (aA trivial))
theorem aEX(s:ByteArray)(b:s.size<=1000)(i:Nat)(l:List Int)(d:l.length<=i)(e:i<=1010): aB (λn m=>qH pQ n m () (l,(s,i))) (Su (λ_=>True) λv=>v.1.length<=1010):=
 bO (aC (λh=>by
  have h:i<s.size:=Zh h;have c:=aUv s i h;refine aE (aEI _) λ_ _=>aC (λ_=>aA trivial) λ_=>aF (Dc (by omega)) (aEX s b (i+(Utf8.decode s i).2) _ (by simp;omega) (by omega))) λh=>aA (show l.length<=1010 by omega))
termination_by s.size-i
theorem aMC(s:ByteArray)(a:s.size<=1000): aB (λn _=>Jo n s) λr=>r.1.length<=1010:=
 aV (λ_=>rfl) (aS (aW (aEX s a 0 [] (by simp) (by omega))) (λ_ _=>aA (by simp)) λv b=>aF rfl (aA b))
theorem aOE(s t:ByteArray)(h:s.size<=1000): Tt (λn _=>aA0 n s t):=
 ⟨_,trivial,1,λn m a _=>by
  obtain⟨n,rfl⟩:∃k,n=k+1:=⟨n-1,by omega⟩;show (match Nat.blt s.size 4294967281 with | true=>_ | false=>_)=_;rw[show Nat.blt s.size 4294967281=true from by rw[YF];omega]⟩
theorem aKz{s:ByteArray}{i:Int}(a:0<=i)(h:i.toNat<s.size): ∃c,sat s i=some c:=by
 unfold sat;rw[Zu a,Za (by simpa using h)];exact⟨_,rfl⟩
theorem aH0(a b:List Int)(d:b.length<=100000)(i:Nat): aB (λn m=>qH xS n m (a,b,ln b) (i:Int)) (Su (λ_=>True) λ_=>True):=
 bO (aZ (λx f c=>aE (aEI x) λ_ _=>by
  rw[bT (by omega)];exact aC (λ_=>aA trivial) λ_=>aH0 a b d (i+1))
  (λe=>aA trivial))
termination_by b.length-i
theorem aLh(s:ByteArray): Tt (λn _=>rV n s):=by
 refine aV (λ_=>rfl) (aE (Q:=λ_=>True) ?_ λ_ _=>aA trivial);refine aV (λ_=>rfl) (aC (λ_=>aA trivial) λf=>aC (λ_=>aA trivial) λh=>?_);have h:¬((s.size:Nat):Int) > 40:=Zk h;have f:s≠(⟨#[]⟩:ByteArray):=Zk f;have m:0<s.size:=by
  rcases Xo s.size with e | e
  .exfalso;apply f;cases s with
   | mk d=>cases d with
    | mk l=>cases l with
     | nil=>rfl
     | cons a l=>simp[ByteArray.size] at e
  .exact e
 obtain⟨c,j⟩:=aKz (s:=s) (i:=0) (by omega) (by simpa using m);have g:wr ((s.size:Int)-1)=(s.size:Int)-1:=by rw[wr,i64_in _ (by omega)]
 obtain⟨d,k⟩:=aKz (s:=s) (i:=(s.size:Int)-1) (by omega) (by omega);refine aE (aMC s (by omega)) λb o=>aC (λ_=>aA trivial) λ_=>aE (Q:=λ_=>True) ?_ λ_ _=>aC (λ_=>aA trivial) λ_=>aS (aW (aH0 b.1 b.1 (by omega) 0)) (λ_ _=>aA trivial) λ_ _=>aF rfl (aA trivial);exact aF j (aC (λ_=>aA trivial) λ_=>aF (by rw[g];exact k) (aC (λ_=>aA trivial) λ_=>aE (aOE s _ (by omega)) λ_ _=>aC (λ_=>aA trivial) λ_=>aA trivial))
instance aWd{s:ByteArray}: TC (λn=>rV n s):=⟨aLh s⟩
structure lG(s:aK): Prop where
 p:Sm s.Plan
 n:s.Features.length<=1000
 f:∀f∈s.Features,f.Parts.length<=1000
abbrev Sx{β γ:Type}(f:Nat->Nat->Option (β⊕γ)): Prop:=aB f (Su (λ_=>True) λ_=>True)
instance aV5{x:Int}: TC (λn=>dP n x):=⟨aV (λ_=>rfl) (by repeat' first|apply dY|apply aC|apply bI|intro)⟩
section
variable {f:aD}
instance fc1: TC (λn=>lY n f):=⟨by repeat' first|apply dY|apply aC|apply bI|intro⟩
instance fc4: TC (λn=>lX n f):=⟨by repeat' first|apply dY|apply aC|apply bI|intro⟩
instance fc5: TC (λn=>lW n f):=⟨by repeat' first|apply dY|apply aC|apply bI|intro⟩
instance aY2: TC (λn=>Cc n f):=⟨aX (by repeat' first|apply dY|apply aC|apply bI|intro)⟩
instance aY1: TC (λn=>Bz n f):=⟨aX (by repeat' first|apply dY|apply aC|apply bI|intro)⟩
instance aY0: TC (λn=>Bv n f):=⟨aX (by repeat' first|apply dY|apply aC|apply bI|intro)⟩
instance aYz: TC (λn=>Bs n f):=⟨aX (by repeat' first|apply dY|apply aC|apply bI|intro)⟩
instance aYy: TC (λn=>pT n f):=⟨aX (by repeat' first|apply dY|apply aC|apply bI|intro)⟩
end
section
variable (l:List aD)(hl:l.length<=1000)
include hl
theorem aUg(i:Nat): Sx (λn m=>qH mE n m (l,ln l) (i:Int)):=
 bO (aZ (λx c a=>by
  rw[bT (by omega)];exact bI λ_=>aC (λ_=>aA trivial) λ_=>aUg (i+1))
  (λb=>aA trivial))
termination_by l.length-i
theorem aWu: Sx (λn _=>Cf n l):=
 aX (aS (f:=λn _=>Ce n l) (Q:=λ_=>True) (R:=λ_=>True) (aX (aS (aW (aUg l hl 0)) (λ_ _=>aA trivial) λ_ _=>aF rfl (aA trivial))) (λ_ _=>aC (λ_=>aA trivial) λ_=>aA trivial) λ_ _=>aF rfl (aA trivial))
theorem aUf(i:Nat): Sx (λn m=>qH mD n m (l,ln l) (i:Int)):=
 bO (aZ (λx c a=>by
  rw[bT (by omega)];exact bI λ_=>aC (λ_=>aA trivial) λ_=>aUf (i+1))
  (λb=>aA trivial))
termination_by l.length-i
theorem aWt: Sx (λn _=>Cb n l):=
 aX (aS (f:=λn _=>Ca n l) (Q:=λ_=>True) (R:=λ_=>True) (aX (aS (aW (aUf l hl 0)) (λ_ _=>aA trivial) λ_ _=>aF rfl (aA trivial))) (λ_ _=>aC (λ_=>aA trivial) λ_=>aA trivial) λ_ _=>aF rfl (aA trivial))
theorem aUe(i:Nat): Sx (λn m=>qH mC n m (l,ln l) (i:Int)):=
 bO (aZ (λx c a=>by
  rw[bT (by omega)];exact bI λ_=>aC (λ_=>aA trivial) λ_=>aUe (i+1))
  (λb=>aA trivial))
termination_by l.length-i
theorem aWs: Sx (λn _=>Bx n l):=
 aX (aS (f:=λn _=>Bw n l) (Q:=λ_=>True) (R:=λ_=>True) (aX (aS (aW (aUe l hl 0)) (λ_ _=>aA trivial) λ_ _=>aF rfl (aA trivial))) (λ_ _=>aC (λ_=>aA trivial) λ_=>aA trivial) λ_ _=>aF rfl (aA trivial))
theorem aUd(i:Nat): Sx (λn m=>qH mB n m (l,ln l) (i:Int)):=
 bO (aZ (λx c a=>by
  rw[bT (by omega)];exact bI λ_=>aC (λ_=>aA trivial) λ_=>aUd (i+1))
  (λb=>aA trivial))
termination_by l.length-i
theorem aWr: Sx (λn _=>Bu n l):=
 aX (aS (f:=λn _=>Bt n l) (Q:=λ_=>True) (R:=λ_=>True) (aX (aS (aW (aUd l hl 0)) (λ_ _=>aA trivial) λ_ _=>aF rfl (aA trivial))) (λ_ _=>aC (λ_=>aA trivial) λ_=>aA trivial) λ_ _=>aF rfl (aA trivial))
theorem fI3(j:∀f∈l,f.Parts.length<=1000)(m:List (Aae×Bool)): Sx (λn _=>Fs n (m,l)):=by
 have o:∀(a:Int) (p:List Int) (d:p.length<=1000) (k i:Nat) (m:List (Aae×Bool)),p.length<=i+k->Sx (λn k=>qH nL n k (a,p,ln p) (m,(i:Int))):=by
  intro a p d k;induction k with
  | zero=>exact λi m h=>bO (aZ (λx c b=>by omega) λ_=>aA trivial)
  | succ k e=>
   intro i m h;refine bO (aZ (λx c b=>?_) λ_=>aA trivial);rw[bT (by omega)];exact aC (λ_=>aA trivial) λ_=>e (i+1) _ (by omega)
 have q:∀(m:List (Aae×Bool)) (f:aD),f.Parts.length<=1000->Sx (λn _=>Fp n (m,f)):=λm f d=>
  aX (aS (f:=λn _=>Fn n f) (Q:=λ_=>True) (R:=λ_=>True) (bI λ_=>aC (λ_=>aA trivial) λ_=>aC (λ_=>aA trivial) λ_=>aA trivial) (λ_ _=>aA trivial) λ_ _=>aF rfl (aS (aW (o _ _ d _ 0 _ (Xk ..))) (λ_ _=>aA trivial) λ_ _=>aF rfl (aA trivial)))
 have g:∀(k i:Nat) (m:List (Aae×Bool)),l.length<=i+k->Sx (λn k=>qH nM n k (l,ln l) (m,(i:Int))):=by
  intro k;induction k with
  | zero=>exact λi m h=>bO (aZ (λx c b=>by omega) λ_=>aA trivial)
  | succ k e=>
   intro i m h;refine bO (aZ (λx c b=>?_) λ_=>aA trivial);rw[bT (by omega)];exact aS (q _ x (j x (Zf c))) (λ_ _=>e (i+1) _ (by omega)) λ_ _=>aF rfl (aA trivial)
 exact aX (aS (f:=λn _=>Fq n (m,l)) (Q:=λ_=>True) (R:=λ_=>True) (aX (aS (aW (g _ 0 m (Xk ..))) (λ_ _=>aA trivial) λ_ _=>aF rfl (aA trivial))) (λ_ _=>aC (λ_=>aA trivial) λ_=>aA trivial) λ_ _=>aF rfl (aA trivial))
end
theorem aAH(l:List Int)(x:Int)(b:l.length<=100000): aB (λn _=>oC n l x) λr=>r=decide (x∈l):=
 aV (λ_=>rfl) (aE (Ab l x b) λr a=>aC (λh=>aA (by rw[<-a,h])) λh=>aA (by rw[<-a,h]))
theorem aRk(p:aN)(b:Sm p)(f:aD)(l:List Int)(j:l.length<=1000): Tt (λn _=>nI n (p,f,l)):=by
 have d:∀x:Int,Tt (λn _=>yD n (p,f,x)):=λx=>
  aX (bI λ_=>aC (λ_=>aE (SG p b x) λ_ _=>aC (λ_=>aA trivial) λ_=>aA trivial) λ_=>aC (λ_=>aE (aMO p b x) λ_ _=>aC (λ_=>aA trivial) λ_=>aA trivial) λ_=>aC (λ_=>aE (aAH p.Faces x (by have:=b.f;omega)) λ_ _=>aC (λ_=>aA trivial) λ_=>aA trivial) λ_=>aA trivial)
 have c:∀(k i:Nat),l.length<=i+k->Sx (λn k=>qH gK n k (p,f,l,ln l) (i:Int)):=by
  intro k;induction k with
  | zero=>exact λi h=>bO (aZ (λx g a=>by omega) λ_=>aA trivial)
  | succ k e=>
   intro i h;refine bO (aZ (λx g a=>?_) λ_=>aA trivial);rw[bT (by omega)];exact aE (d x) λ_ _=>aC (λ_=>aA trivial) λ_=>e (i+1) (by omega)
 exact aX (aE (f:=λn _=>yE n (p,f,l)) (Q:=λ_=>True) (aX (aS (aW (c _ 0 (Xk ..))) (λ_ _=>aA trivial) λ_ _=>aF rfl (aA trivial))) λ_ _=>aC (λ_=>aA trivial) λ_=>aA trivial)
theorem fI9(s:aK)(d:lG s): Sx (λn _=>Fo n (s,s.Features)):=by
 have c:∀f∈s.Features,Tt (λn _=>Ch n (s,f)):=λf g=>
  aX (aE (f:=λn _=>Cg n (s.Plan,f)) (Q:=λ_=>True) (aX (aE (aRk s.Plan d.p f f.Parts (d.f f g)) λ_ _=>aC (λ_=>aA trivial) λ_=>aA trivial)) λ_ _=>aC (λ_=>aA trivial) λ_=>aA trivial)
 have b:∀(k i:Nat),s.Features.length<=i+k->Sx (λn k=>qH mF n k (s,s.Features,ln s.Features) (i:Int)):=by
  have:=d.n;intro k;induction k with
  | zero=>exact λi h=>bO (aZ (λx e a=>by omega) λ_=>aA trivial)
  | succ k j=>
   intro i h;refine bO (aZ (λx e a=>?_) λ_=>aA trivial);rw[bT (by omega)];exact aE (c x (Zf e)) λ_ _=>aC (λ_=>aA trivial) λ_=>j (i+1) (by omega)
 exact aX (aS (f:=λn _=>Ci n (s,s.Features)) (Q:=λ_=>True) (R:=λ_=>True) (aX (aS (aW (b _ 0 (Xk ..))) (λ_ _=>aA trivial) λ_ _=>aF rfl (aA trivial))) (λ_ _=>aC (λ_=>aA trivial) λ_=>aA trivial) λ_ _=>aF rfl (aA trivial))
theorem aPI(l:List Int)(a:l.length<=1000): aB (λn _=>tL n l) (λr=>r=true->Asc l):=
 aV (λ_=>rfl) (aS (aW (J8 l a 1 (Zg _) (λj x y h=>by omega))) (λ_ _=>aA (by simp)) λ_ h=>aF rfl (aA λ_=>h))
theorem aWq(s:aK)(g:lG s): Sx (λn _=>Br n (s,0,s.Features)):=by
 have q:=g.n;have b:∀(i:Nat) (f:aD),f∈s.Features->i<s.Features.length->Tt (λn _=>Bm n (s,((i+1:Nat):Int),f)):=by
  intro i f m p;have j:=aPI f.Parts (g.f f m);refine aC (λh=>?_) λ_=>aE j λ_ _=>aC (λ_=>aA trivial) λ_=>aA trivial;have h:((i+1:Nat):Int) > 1:=Zh h;have e:wr (((i+1:Nat):Int)-2)=((i-1:Nat):Int):=by rw[wr,i64_in _ (by omega)];omega
  refine aF (x:=s.Features[i-1]'(by omega)) (by rw[e,bK];exact Za (by omega)) (aC (λ_=>aA trivial) λ_=>aE j λ_ _=>aC (λ_=>aA trivial) λ_=>aA trivial)
 have c:∀(k i:Nat),s.Features.length<=i+k->Sx (λn k=>qH mA n k (s,s.Features,ln s.Features) ((i:Int),(i:Int))):=by
  intro k;induction k with
  | zero=>exact λi h=>bO (aZ (λx d a=>by omega) λ_=>aA trivial)
  | succ k l=>
   intro i h;refine bO (aZ (λx d a=>?_) λ_=>aA trivial);rw[bT (by omega)];refine aE (f:=λn _=>Bp n (s,(i:Int),x)) (Q:=λr=>r.1=((i+1:Nat):Int)) (aX ?_) λr o=>aC (λ_=>aA trivial) λ_=>by rw[o];exact l (i+1) (by omega)
   have e:=bT (i:=i) (by omega);have h:=b i x (Zf d) a;rw[<-e] at h |-;exact aE h λ_ _=>aC (λ_=>aA rfl) λ_=>aA rfl
 exact aX (aS (f:=λn _=>Bq n (s,0,s.Features)) (Q:=λ_=>True) (R:=λ_=>True) (aX (aS (aW (c _ 0 (Xk ..))) (λ_ _=>aA trivial) λ_ _=>aF rfl (aA trivial))) (λ_ _=>aC (λ_=>aA trivial) λ_=>aA trivial) λ_ _=>aF rfl (aA trivial))
theorem Kf{β γ:Type}{f:Nat->Nat->Option (β⊕γ)}{N:Nat->Nat->Option Int}{q:β->Bool}{c:Int}(h:Sx f)(k:Tt N): Tt (λn m=>Av.bnd2 (f n m) (λv=>Av.cnd (q v) (some c) (N n m)) λw=>Av.bnd (some w) λ_=>N n m):=
 aS h (λ_ _=>aC (λ_=>aA trivial) λ_=>k) λ_ _=>aF rfl k
theorem aWp(l:List aD)(m:l.length<=1000): aB (λn _=>Bo n l) (Su (λv=>v.2=true) λ_=>∀f∈l,f.Parts.length<=64):=by
 have d:∀(k i:Nat),l.length<=i+k->wH l i (λf=>f.Parts.length<=64)->aB (λn k=>qH lZ n k (l,ln l) (i:Int)) (Su (λv=>0<=v.2) λ_=>∀f∈l,f.Parts.length<=64):=by
  intro k;induction k with
  | zero=>exact λi h b=>bO (aZ (λx e c=>by omega) λa=>aA (b.fin a))
  | succ k g=>
   intro i h b;refine bO (aZ (λx e c=>?_) λa=>aA (b.fin a));rw[bT (by omega)];refine aE (f:=λn _=>pT n x) (Q:=λr=>r=false->x.Parts.length<=64) (aX (aC (λ_=>aA (by simp)) λh=>aA λ_=>by have h:¬ln x.Parts > 64:=Zk h;unfold ln at h;omega)) λr j=>aC (λ_=>aA (show (0:Int)<=(i:Int) by omega)) λh=>g (i+1) (by omega) (b.step e (j h))
 refine aX (aS (f:=λn _=>Bn n l) (Q:=λv:aD×Int=>0<=v.2) (R:=λ_=>∀f∈l,f.Parts.length<=64) (aX (aS (aW (d _ 0 (Xk ..) .nil)) (λv h=>aA (show 0<=v.2 from h)) λ_ h=>aF rfl (aA (by exact h)))) (λv o=>aC (λ_=>aA rfl) λh=>?_) λ_ h=>aF rfl (aA (by exact h)));have:=Zk h;omega
structure FI(s:aK): Prop where
 v:tN s.Plan
 n:s.Features.length<=128
 f:∀f∈s.Features,f.Parts.length<=64
theorem tN.sm{p:aN}(h:tN p): Sm p:=⟨by have:=h.leN;omega,by have:=h.leA;omega,by have:=h.leF;omega,λa b=>by have:=h.leV a b;omega⟩
theorem FI.ok{s:aK}(h:FI s): lG s:=⟨h.v.sm,by have:=h.n;omega,λf a=>by have:=h.f f a;omega⟩
theorem QG(o:Ru)(s:aK)(a:lG s): aB (λn _=>fL n s) λr=>r=0->FI s:=by
 obtain⟨v,_,e,_,j⟩:=SB o s.Plan a.p;refine aV (λ_=>rfl) (aE j λr m=>aC (λb=>aA λh=>by rw[show r=0 from h] at b;simp at b) λb=>aC (λ_=>aA (by simp)) λd=>aE (f:=λn _=>Fv n s) (Q:=λ_=>True) (aX (aA trivial)) λ_ _=>aE (f:=λn _=>Fu n ()) (Q:=λ_=>True) (aX (aA trivial)) λc _=>LX ?_);have l:r=0:=by simpa using b
 have i:=(e (by rw[<-m];exact l)).1;have g:s.Features.length<=128:=by have h:¬ln s.Features > 128:=Zk d;unfold ln at h;omega
 refine aS (aWp _ a.n) (λv e=>aC (λ_=>aA (by simp)) λh=>by rw[show v.2=true from e] at h;cases h) λ_ k=>aF rfl (aB.imp (P:=λ_=>True) ?_ λ_ _ _=>⟨i,g,k⟩);exact Kf (aWq s a) (Kf (aWr _ a.n) (Kf (aWs _ a.n) (Kf (aWt _ a.n) (Kf (aWu _ a.n) (Kf (fI9 s a) (Kf (fI3 _ a.n a.f c) (aA trivial)))))))
theorem aHq(l:List Int)(d:l.length<=1000)(i:Nat): aB (λn m=>qH uP n m (l,ln l) (i:Int)) (Su (λv=>(l.drop i).find? (· != 0)=some v) λ_=>(l.drop i).find? (· != 0)=none):=
 bO (aZ (λx b c=>by
  rw[bT (by omega)];refine aC (λh=>aA (aFT b h)) λh=>?_;have e:=aFU (q:=(· != (0:Int))) b h;rw[e];exact aHq l d (i+1)) (λa=>aA (aFV a)))
termination_by l.length-i
def orV(c d:Int): Int:=([c,d].find? (· != 0)).getD 0
theorem aTC(c d:Int): aB (λn _=>Jy n [c,d]) λr=>r=orV c d:=
 aV (λ_=>rfl) (aS (aW (aHq [c,d] (by simp) 0)) (λv h=>aA (by unfold orV;rw[show[c,d].find? (· != 0)=some v from h];rfl)) λ_ h=>aF rfl (aA (by unfold orV;rw[show[c,d].find? (· != 0)=none from h];rfl)))
def LP(x:Int): Int:=nF x (wr (0-x))
def aIX(c d:Int): Int:=orV (Ms (LP c) (LP d)) (Ms d c)
theorem D5(c d:Int): aIX c d<0↔LP c<LP d\/(LP c=LP d/\d<c):=by
 unfold aIX orV Ms;by_cases e:LP c<LP d
 .simp[e]
 .by_cases g:LP c > LP d
  .have:¬LP c=LP d:=by omega
   simp[e,g,this]
  .have:LP c=LP d:=by omega
   by_cases b:d<c
   .simp[this,b]
   .by_cases f:d > c
    .simp[this,b,f]
    .simp[this,b,f]
theorem aOO(c d:Int): aB (λn _=>mZ n c d) λr=>r=aIX c d:=
 aV (λ_=>rfl) (aE (gD _ _) λx e=>aE (gD _ _) λy a=>aE (aTC x y) λz b=>aA (by subst e a b;rfl))
theorem D0(l:List Int)(a:l.length<=800000)(i:Nat)(s:Int): Tt (λn m=>kV uE n m (l,ln l) (s,(i:Int))):=
 bS (aZ (λx d b=>by
  rw[bT (by omega)];refine aE (Q:=λ_=>True) ?_ λ_ _=>aC (λ_=>D0 l a (i+1) _) λ_=>D0 l a (i+1) _;exact aC (λ_=>aA trivial) λ_=>aC (λ_=>aC (λ_=>aA trivial) λ_=>aA trivial) λ_=>aA trivial) (λc=>aA trivial))
termination_by l.length-i
theorem aTS(l:List Int)(a:l.length<=800000)(e:l≠[]): Tt (λn _=>mY n l):=by
 obtain⟨d,t,rfl⟩:∃d t,l=d::t:=by
  cases l with
  | nil=>exact absurd rfl e
  | cons d t=>exact⟨d,t,rfl⟩
 exact aV (g:=λn=>bnd (idx (d::t) 0) λb=>bnd (Vv n (d::t,ln (d::t)) (b,0)) λc=>some c) (λ_=>rfl) (aF (x:=d) rfl (aE (aW (D0 _ a 0 d)) λ_ _=>aA trivial))
open Classical in
noncomputable def aIW(l:List Int): Int:=if h:∃k,aB (λn _=>mY n l) (λr=>r=k) then h.choose else 0
theorem aL4(l:List Int)(b:l.length<=800000)(a:l≠[]): aB (λn _=>mY n l) λr=>r=aIW l:=by
 have h:∃k,aB (λn _=>mY n l) (λr=>r=k):=by
  obtain⟨k,_,h⟩:=(aTS l b a).val;exact⟨k,h⟩
 unfold aIW;rw[Wz h];exact h.choose_spec
theorem aUP(x y:dR)(d:x.outer.length<=800000/\x.outer≠[])(c:y.outer.length<=800000/\y.outer≠[]): aB (λn _=>mV n x y) λr=>r=aIX (aIW x.outer) (aIW y.outer):=
 aV (λ_=>rfl) (aE (aL4 _ d.1 d.2) λa g=>aE (aL4 _ c.1 c.2) λb e=>aE (aOO a b) λr f=>aA (by rw[f,g,e]))
theorem aTd{α:Type}(k:α->Int)(l:List α): Swo (λx y=>aIX (k x) (k y)) l where
 ir x _:=by rw[D5];omega
 tr x _ y _ z _:=by simp only[D5];omega
 ti x _ y _ z _:=by simp only[D5];omega
def LL(a:aP): aP:=⟨a.ID,a.From,a.To,a.Via,0,0⟩
theorem aAD(f:List Int)(b:List Aad)(l:List aP)(o:l.length<=300)(j:∀a∈l,a.Via.length<=300)(i:Nat)(h:List aP)(d:h=(l.take i).map LL): aB (λn m=>kV lB n m (f,b,l,ln l) (h,(i:Int))) λr=>r=l.map LL:=
 bS (aZ (λx g k=>aE (aE2 x.Via (by have:=j x (Zf g);omega)) λv e=>aF (Dc (by rw[d];simp;omega)) (by
  rw[bT (by omega)];refine aAD f b l o j (i+1) _ ?_;rw[d,e,YR,g];simp[LL]))
  (λc=>aA (show h=_ by rw[d,ZC c])))
termination_by l.length-i
theorem aUR(a:Int)(l:List Int)(c:l.length<=800000)(i:Nat)(m:List (Int×Int)): Tt (λn k=>kV pD n k (a,l,ln l) (m,(i:Int))):=
 bS (aZ (λx e b=>by
  rw[bT (by omega)];exact aUR a l c (i+1) _) (λd=>aA trivial))
termination_by l.length-i
theorem aUS(a:Int)(l:List (List Int))(f:l.length<=800000)(b:∀c∈l,c.length<=800000)(i:Nat)(m:List (Int×Int)): Tt (λn k=>kV pE n k (a,l,ln l) (m,(i:Int))):=
 bS (aZ (λx e d=>by
  rw[bT (by omega)];exact aE (aW (aUR a x (b x (Zf e)) 0 m)) λ_ _=>aUS a l f b (i+1) _) (λg=>aA trivial))
termination_by l.length-i
def aG4(l:List Int)(k:Nat): Prop:=l=(List.range k).map λj=>((j+1:Nat):Int)
theorem aUT(b:List aP)(c d:List Aad)(e:List dR)(w:Nat×Nat)(v:w.1+w.2<=e.length)(u:w.2<=1000)(o:∀a∈e,a.outer.length<=800000/\a.inner.length<=200000/\∀c∈a.inner,c.length<=800000)(i:Nat)(y:i<=w.2)(l:List Int)(f:aG4 l i)(m:List (Int×Int)):
 aB (λn k=>kV pF n k (b,c,d,e,w,((w.2:Nat):Int)) (l,m,(i:Int))) λr=>aG4 r.1 w.2:=by
 refine bS (aC (λh=>?_) λh=>aA ?_)
 .have h:(i:Int)<((w.2:Nat):Int):=Zh h;have h:i<w.2:=by omega
  have x:idx (win e (some w)) (i:Int)=some (e[w.1+i]'(by omega)):=by
   rw[bK];simp only[win];rw[XQ h,Zw,Za (by omega)]
  have e2:idx e ((i:Int)+((w.1:Nat):Int))=some (e[w.1+i]'(by omega)):=by
   rw[show (i:Int)+((w.1:Nat):Int)=((w.1+i:Nat):Int) by omega,bK,Za (by omega)]
  have j:=o _ (ZS (show w.1+i<e.length by omega));have q:l.length=i:=by rw[f];simp
  rw[bT (by omega)];refine aF x (aF e2 (aF (Dc (by omega)) (aE (aMj _ j.2.1) λs p=>aE (aW (aUS _ s (by rw[p];simp;omega) (by
   rw[p];intro c g;rcases ZO.1 g with rfl | g
   .exact j.1
   .exact j.2.2 c g) 0 m)) λt _=>aUT b c d e w v u o (i+1) (by omega) _ (by unfold aG4 at f |-;rw[List.range_succ,YJ,<-f];rfl) t)))
 .have h:¬(i:Int)<((w.2:Nat):Int):=Zk h;have:i=w.2:=by omega
  exact this▸f
termination_by w.2-i
def mT(l:List aP)(k:Nat): Prop:=l.length=k/\∀a∈l,a.Via.length<=300
theorem hU{α:Type}{l:List α}{i k:Nat}(h:i<k): fV l k (i:Int)=l[i]?:=by
 unfold fV;rw[Zu ⟨by omega,by simpa using h⟩];simp
theorem mT.set{l:List aP}{k i:Nat}{a b:aP}(h:mT l k)(e:l[i]?=some a)(d:b.Via=a.Via): mT (l.set i b) k:=⟨by rw[Yq];exact h.1,λx c=>by
 rcases YL c with c | rfl
 .exact h.2 x c
 .rw[d];exact h.2 a (Zf e)⟩
theorem aUQ(f:List Int)(b c:List Aad)(d:List (Int×Int))(k:Nat)(o:k<=300)(i:Nat)(l:List aP)(g:mT l k): aB (λn m=>kV pC n m (f,b,c,d,(k:Int)) (l,(i:Int))) λr=>mT r k:=by
 refine bS (aC (λh=>?_) λh=>aA g);have h:(i:Int)<(k:Int):=Zh h;have e:i<l.length:=by rw[g.1];omega
 have j:fV l l.length (i:Int)=some l[i]:=by rw[hU e];exact Za e
 have e2:idx l (i:Int)=some l[i]:=by rw[bK];exact Za e
 rw[bT (by omega)];have A:=g.set (b:=⟨l[i].ID,l[i].From,l[i].To,l[i].Via,Option.getD (bD d l[i].ID) 0,l[i].Right⟩) (Za e) rfl;generalize t:l.set i ⟨l[i].ID,l[i].From,l[i].To,l[i].Via,Option.getD (bD d l[i].ID) 0,l[i].Right⟩=q at A;have a:i<q.length:=by rw[A.1];omega
 have s:fV q q.length (i:Int)=some q[i]:=by rw[hU a];exact Za a
 have p:idx q (i:Int)=some q[i]:=by rw[bK];exact Za a
 refine aF j (aF e2 (aF j (aF e2 ?_)));simp only[YA];rw[t];refine aF s (aF p (aUQ f b c d k o (i+1) _ ?_));exact A.set (Za a) rfl
termination_by k-i
theorem aPj(U:Ru)(p:aN)(w:Sm p): aB (λn _=>Je n p) λr=>Sm r.1/\(r.2=0->r.1.Arcs.length=p.Arcs.length/\aG4 r.1.Faces r.1.Faces.length):=by
 have L:=w.n;have B:=w.a;have z:Sm ⟨p.Nodes,p.Arcs.map LL,[]⟩:=⟨L,by simp;omega,by simp,λa e=>by
  obtain⟨x,t,rfl⟩:=Yb.1 e;exact w.v x t⟩
 have N:Sm ⟨[],[],[]⟩:=⟨by simp,by simp,by simp,by simp⟩;refine aV (λ_=>rfl) (aE (f:=λn _=>Kw n p) (Q:=λr=>r=(p.Arcs.map LL,[],p.Nodes,p.Nodes)) (aX (aE (aE2 p.Nodes (by omega)) λc I=>aE (aW (aAD [] c p.Arcs B w.v 0 [] rfl)) λd V=>aA (by rw[I,V]))) λb G=>?_);subst G;refine aE (aEY _ z) λc I=>aC (λb=>aA ⟨N,λh=>by rw[show c.2=0 from h] at b;simp at b⟩) λb=>?_;obtain⟨K,H⟩:=I (by simpa using b);refine aE (aAb _ z K) λm S=>aE (U _ c.1 m z K H S) λf k=>?_;have X:=k.l1;have W:=k.l2;refine aF (x:=(1,f.length-1)) (by unfold sub;rw[Zu ⟨by omega,by unfold ln;omega,by unfold ln;simp⟩];simp[ln]) (aC (λ_=>aA ⟨N,λh=>by cases h⟩) λu=>?_);have u:¬((f.length-1:Nat):Int) > 64:=Zk u;have J:win f (some (1,f.length-1))=f.drop 1:=by simp only[win];rw[ZC (by simp)]
 have i:∀x∈win f (some (1,f.length-1)),x∈f/\x.outer≠[]:=by
  rw[J];intro x t;obtain⟨j,D⟩:=Yk.1 t;rw[Zw] at D;exact⟨Zf D,k.ne (1+j) x (by omega) D⟩
 refine aX (aF (xZ (Yi ⟨by omega,by show 1+(f.length-1)<=_;omega⟩)) (aE (HI (F:=λn x y=>bnd (mV n x y) λl=>some l) (g:=λx y=>aIX (aIW x.outer) (aIW y.outer)) (λx t y R=>aE (aUP x y ⟨k.ou x (i x t).1,(i x t).2⟩ ⟨k.ou y (i y R).1,(i y R).2⟩) λ_ h=>aA h) (aTd _ _)) λq M=>?_));have T:q.length=f.length-1:=by rw[M.1,J];simp
 have s:∀a∈aU f 1 q,a∈f:=by
  intro a e;unfold aU at e;rcases ZD.1 e with e | e
  .exact Ya e
  rcases ZD.1 e with e | e
  .exact (i a (M.2 a e)).1
  .exact Z1 e
 have C:(aU f 1 q).length=f.length:=by unfold aU;simp;omega
 refine aE (FH (f:=λn=>Kv n (p.Arcs.map LL,p.Nodes,p.Nodes,aU f 1 q,(1,f.length-1),((f.length-1:Nat):Int)) ([],[],0)) (aW (aUT _ _ _ _ (1,f.length-1) (by rw[C];show 1+(f.length-1)<=_;omega) (by show f.length-1<=_;omega) (λa e=>⟨k.ou a (s a e),(k.inn a (s a e)).1,(k.inn a (s a e)).2⟩) 0 (by omega) [] rfl []))) λo O=>aE (FH (f:=λn=>Ku n (o.1,p.Nodes,p.Nodes,o.2,((p.Arcs.map LL).length:Int)) (p.Arcs.map LL,0)) (aW (aUQ _ _ _ _ (p.Arcs.map LL).length (by simp;omega) 0 _ ⟨rfl,z.v⟩))) λr A=>aA ?_;have E:o.1.length=f.length-1:=by rw[O];simp
 refine⟨⟨L,by show r.length<=_;rw[A.1];simp;omega,by show o.1.length<=_;omega,A.2⟩,λ_=>⟨by show r.length=_;rw[A.1];simp,by show aG4 o.1 o.1.length;rw[E];exact O⟩⟩
theorem u9{α:Type}{l:List α}(z:α)(h:l.length<=900000): rep z (ln l) (ln l)=some (List.replicate l.length z):=by
 unfold rep ln;rw[Zu ⟨by omega,by omega,by omega⟩];simp
theorem I3{α:Type}(l:List α)(z:α): cpy (List.replicate l.length z) (0,(List.replicate l.length z).length) l=some l:=by
 unfold cpy aU;rw[Zu ⟨by simp,by simp⟩];simp
theorem aTL(l:List Aad)(h:l.length<=900000): aB (λn _=>pX n l) λr=>r=l:=
 aV (λ_=>rfl) (aF (u9 _ h) (aF (I3 l _) (aF rfl (aA rfl))))
theorem aRs(l:List aP)(h:l.length<=900000): aB (λn _=>mS n l) λr=>r=l:=
 aV (λ_=>rfl) (aF (u9 _ h) (aF (I3 l _) (aF rfl (aA rfl))))
theorem aL2(l:List Int)(h:l.length<=900000): aB (λn _=>gS n l) λr=>r=l:=
 aV (λ_=>rfl) (aF (u9 _ h) (aF (I3 l _) (aA rfl)))
theorem aTM(l:List aD)(h:l.length<=900000): aB (λn _=>jY n l) λr=>r=l:=
 aV (λ_=>rfl) (aF (u9 _ h) (aF (I3 l _) (aF rfl (aA rfl))))
theorem aRr(l:List Aaa)(h:l.length<=900000): aB (λn _=>jB n l) λr=>r=l:=
 aV (λ_=>rfl) (aF (u9 _ h) (aF (I3 l _) (aA rfl)))
theorem aLL(a:List Int)(b:List Aad)(c:List aD)(l:List aP)(j:l.length<=300)(g:∀x∈l,x.Via.length<=300)(i:Nat): aB (λn m=>kV mX n m (a,b,c,ln l) (l,(i:Int))) λr=>r=l:=by
 refine bS (aC (λh=>?_) λ_=>aA rfl);have h:(i:Int)<ln l:=Zh h;have d:i<l.length:=by unfold ln at h;omega
 have f:fV l l.length (i:Int)=some l[i]:=by rw[hU d];exact Za d
 have e2:idx l (i:Int)=some l[i]:=by rw[bK];exact Za d
 rw[bT (by omega)];refine aF f (aF e2 (aE (aRr l[i].Via (by have:=g l[i] (ZS d);omega)) λv e=>aF f (aF e2 ?_)));subst e;simp only[YA];rw[show l.set i ⟨l[i].ID,l[i].From,l[i].To,l[i].Via,l[i].Left,l[i].Right⟩=l from WG d];exact aLL a b c l j g (i+1)
termination_by l.length-i
theorem aLK(a:List Int)(b:List Aad)(c:List aP)(l:List aD)(j:l.length<=1000)(g:∀x∈l,x.Parts.length<=1000)(i:Nat): aB (λn m=>kV mW n m (a,b,c,ln l) (l,(i:Int))) λr=>r=l:=by
 refine bS (aC (λh=>?_) λ_=>aA rfl);have h:(i:Int)<ln l:=Zh h;have d:i<l.length:=by unfold ln at h;omega
 have f:fV l l.length (i:Int)=some l[i]:=by rw[hU d];exact Za d
 have e2:idx l (i:Int)=some l[i]:=by rw[bK];exact Za d
 rw[bT (by omega)];refine aF f (aF e2 (aE (aL2 l[i].Parts (by have:=g l[i] (ZS d);omega)) λv e=>aF f (aF e2 ?_)));subst e;simp only[YA];rw[show l.set i ⟨l[i].ID,l[i].Kind,l[i].Class,l[i].Name,l[i].Parts⟩=l from WG d];exact aLK a b c l j g (i+1)
termination_by l.length-i
theorem aO0(s:aK)(m:lG s): aB (λn _=>FC n s) λr=>r=s:=by
 obtain⟨⟨v,o,u,q⟩,p,t⟩:=m;refine aV (λ_=>rfl) (aE (aTL _ (by omega)) λb i=>aE (aRs _ (by omega)) λc l=>aE (aL2 _ (by omega)) λd j=>aE (aTM _ (by omega)) λf e=>?_);subst i l j e;exact aE (aW (aLL _ _ _ _ o q 0)) λg k=>aE (aW (aLK _ _ _ _ p t 0)) λh a=>aA (by rw[k,a])
theorem aT8(s:aK)(m:lG s): aB (λn _=>Lp n s) λr=>r=(s.Plan.Faces,s.Plan.Nodes,s.Plan.Arcs,s.Features,s.Plan.Faces):=by
 obtain⟨⟨v,o,u,q⟩,p,t⟩:=m;refine aX (aE (aTL _ (by omega)) λb i=>aE (aRs _ (by omega)) λc l=>aE (aL2 _ (by omega)) λd j=>aE (aTM _ (by omega)) λf e=>?_);subst i l j e;exact aE (aW (aLL _ _ _ _ o q 0)) λg k=>aE (aW (aLK _ _ _ _ p t 0)) λh a=>aA (by rw[k,a])
instance aYw{x:Int}: TC (λn=>Lr n x):=⟨by repeat' first|apply dY|apply aC|apply bI|intro⟩
instance aYx{x:bG}: TC (λn=>Lt n x):=⟨by repeat' first|apply dY|apply aC|apply bI|intro⟩
instance aYv{x:bG}: TC (λn=>Lq n x):=⟨by repeat' first|apply dY|apply aC|apply bI|intro⟩
instance aXp{x:bG}: TC (λn=>Jt n x):=⟨aV (λ_=>rfl) (by repeat' first|apply dY|apply aC|apply bI|intro)⟩
instance aYK{b:U5}{x:Aaa}: TC (λn=>F3 n (b,x)):=⟨by repeat' first|apply dY|apply aC|apply bI|intro⟩
instance aYJ{b:U5}{x:Aaa}: TC (λn=>aBR n b x):=⟨aV (λ_=>rfl) (by repeat' first|apply dY|apply aC|apply bI|intro)⟩
instance aYd{x:Int}: TC (λn=>eG n x):=⟨aX (by repeat' first|apply dY|apply aC|apply bI|intro)⟩
instance aYc{x:Aaa}: TC (λn=>iB n x):=⟨aX (by repeat' first|apply dY|apply aC|apply bI|intro)⟩
instance aXg{x:Int}: TC (λn=>Ll n x):=⟨aX (by repeat' first|apply dY|apply aC|apply bI|intro)⟩
instance aXf{x:Int}: TC (λn=>Lk n x):=⟨by repeat' first|apply dY|apply aC|apply bI|intro⟩
instance aXe{x:bG}: TC (λn=>Lj n x):=⟨by repeat' first|apply dY|apply aC|apply bI|intro⟩
theorem aTu(l:List Aaa)(b:l.length<=1000)(i:Nat): Sx (λn m=>qH sG n m (l,ln l) (i:Int)):=
 bO (aZ (λx d a=>by
  rw[bT (by omega)];exact bI λ_=>aC (λ_=>aA trivial) λ_=>aTu l b (i+1)) (λc=>aA trivial))
termination_by l.length-i
theorem aVV(l:List Aaa)(a:l.length<=1000): Tt (λn _=>iA n l):=
 aX (aE (f:=λn _=>Pz n l) (Q:=λ_=>True) (aX (aS (aW (aTu l a 0)) (λ_ _=>aA trivial) λ_ _=>aF rfl (aA trivial))) λ_ _=>aC (λ_=>aA trivial) λ_=>aA trivial)
theorem aTt(l:List Int)(b:l.length<=1000)(i:Nat): Sx (λn m=>qH sF n m (l,ln l) (i:Int)):=
 bO (aZ (λx d a=>by
  rw[bT (by omega)];exact bI λ_=>aC (λ_=>aA trivial) λ_=>aTt l b (i+1)) (λc=>aA trivial))
termination_by l.length-i
theorem aVU(l:List Int)(a:l.length<=1000): Tt (λn _=>hZ n l):=
 aX (aE (f:=λn _=>Py n l) (Q:=λ_=>True) (aX (aS (aW (aTt l a 0)) (λ_ _=>aA trivial) λ_ _=>aF rfl (aA trivial))) λ_ _=>aC (λ_=>aA trivial) λ_=>aA trivial)
theorem aKB(e:bG)(b:e.Via.length<=1000)(a:e.Parts.length<=1000): Tt (λn _=>Qa n e):=by
 have c:TC (λn=>iA n e.Via):=⟨aVV _ b⟩;have f:TC (λn=>hZ n e.Parts):=⟨aVU _ a⟩;refine aV (λ_=>rfl) ?_;repeat' first|apply dY|apply aC|apply bI|intro
instance aY9{x:bG}: TC (λn=>AH n x):=⟨by repeat' first|apply dY|apply aC|apply bI|intro⟩
instance aY8{x:bG}: TC (λn=>AG n x):=⟨by repeat' first|apply dY|apply aC|apply bI|intro⟩
instance aY7{x:bG}: TC (λn=>AE n x):=⟨by repeat' first|apply dY|apply aC|apply bI|intro⟩
def U6(e:bG): Prop:=e.Via.length<=64/\e.Parts.length<=64
theorem aLZ(e:bG): aB (λn _=>Jw n e) λr=>r=0->U6 e:=by
 refine aV (λ_=>rfl) (bI λ_=>aC (λ_=>aA (by simp)) λ_=>bI λ_=>aC (λ_=>aA (by simp)) λ_=>bI λ_=>aC (λ_=>aA (by simp)) λ_=>aE (f:=λn _=>AF n e) (Q:=λr=>r=false->U6 e) (aC (λ_=>aA (by simp)) λb=>aC (λ_=>aA (by simp)) λc=>aA λ_=>?_) λr d=>aC (λ_=>aA (by simp)) λh=>?_)
 .have b:¬ln e.Via > 64:=Zk b;have c:¬ln e.Parts > 64:=Zk c;unfold ln at b c;exact⟨by omega,by omega⟩
 .have a:=d h;refine aE (aKB e (by have:=a.1;omega) (by have:=a.2;omega)) λ_ _=>aC (λ_=>aE (aPI e.Parts (by have:=a.2;omega)) λ_ _=>aC (λ_=>bI λ_=>aC (λ_=>aA (by simp)) λ_=>aA λ_=>a) λ_=>aA (by simp)) λ_=>aA (by simp)
def aW9(t:dJ): Prop:=t.Edits.length<=64/\∀e∈t.Edits,U6 e
theorem aTc(l:List bG)(f:l.length<=64)(i:Nat)(b:wH l i U6): aB (λn m=>qH wU n m (l,ln l) (i:Int)) (Su (λv=>v.2≠0) λ_=>∀e∈l,U6 e):=
 bO (aZ (λx d c=>by
  rw[bT (by omega)];exact aE (aLZ x) λr g=>aC (λh=>aA (show r≠0 by simpa using h)) λh=>aTc l f (i+1) (b.step d (g (by simpa using h)))) (λa=>aA (b.fin a)))
termination_by l.length-i
theorem aQu(x:Int)(h:0<=x/\x<=1000000000): IntKind.u64.wrap x=x:=by
 have e:IntKind.u64.wrap x=x % 18446744073709551616:=by simp[IntKind.wrap,IntKind.bits,IntKind.signed]
 rw[e];omega
theorem aH4(f g:Nat)(h:f+g<=10000000): wr (Int.fdiv (IntKind.u64.wrap (wr ((f:Int)+(g:Int)))) 2)=(((f+g) / 2:Nat):Int):=by
 have a:wr ((f:Int)+(g:Int))=((f+g:Nat):Int):=by rw[wr,i64_in _ (by omega)];omega
 rw[a,aQu _ (by omega),Int.fdiv_eq_ediv_of_nonneg _ (by omega),wr,i64_in _ (by omega)];omega
theorem PA(l:List Aad)(b:Int)(a:l.length<=1000)(f g:Nat)(e:f<=g)(c:g<=l.length): aB (λn m=>kV sP n m (l,b) ((f:Int),(g:Int))) λr=>0<=r/\r.toNat<=l.length:=by
 refine bS (aC (λh=>?_) λ_=>aA ⟨by show (0:Int)<=(f:Int);omega,by show (f:Int).toNat<=_;omega⟩);have h:(f:Int)<(g:Int):=Zh h;have d:(f+g) / 2<l.length:=by omega
 rw[aH4 f g (by omega)];refine aF (x:=l[(f+g) / 2]) (by rw[bK];exact Za d) (aE (f:=λn _=>pW n (l[(f+g) / 2],b)) (Q:=λ_=>True) (aX (aE (gD _ _) λ_ _=>aA trivial)) λ_ _=>aC (λ_=>?_) λ_=>PA l b a f ((f+g) / 2) (by omega) (by omega));rw[bT (by omega)];exact PA l b a ((f+g) / 2+1) g (by omega) c
termination_by g-f
theorem IW(a:aK)(b:Int)(g:a.Plan.Nodes.length<=1000): aB (λn _=>oF n a b) λr=>0<=r.1/\r.1.toNat<=a.Plan.Nodes.length/\(r.2=true->r.1.toNat<a.Plan.Nodes.length):=by
 refine aV (λ_=>rfl) (aS (f:=λn _=>Qb n (a.Plan.Nodes,b)) (Q:=λv=>0<=v.2.1/\v.2.1.toNat<a.Plan.Nodes.length) (R:=λv=>0<=v/\v.toNat<=a.Plan.Nodes.length) (aX (aE (aW (PA _ b g 0 a.Plan.Nodes.length (by omega) (Zg _))) λf e=>aC (λh=>?_) λ_=>aA (by exact e))) (λv c=>aC (λ_=>aA ⟨c.1,by have:=c.2;show v.2.1.toNat<=_;omega,λ_=>c.2⟩) λ_=>aA ⟨c.1,by have:=c.2;show v.2.1.toNat<=_;omega,λh=>by cases h⟩) λv c=>aF rfl (aA ⟨c.1,c.2,λh=>by cases h⟩));have h:f<ln a.Plan.Nodes:=Zh h;have d:f.toNat<a.Plan.Nodes.length:=by unfold ln at h;omega
 exact aF (xU e.1 d) (aE (f:=λn _=>pW n (a.Plan.Nodes[f.toNat],b)) (Q:=λ_=>True) (aX (aE (gD _ _) λ_ _=>aA trivial)) λ_ _=>aC (λ_=>aA (by exact⟨e.1,d⟩)) λ_=>aA (by exact⟨e.1,d⟩))
theorem K0(l:List aP)(b:Int)(a:l.length<=1000)(f g:Nat)(e:f<=g)(c:g<=l.length): aB (λn m=>kV uO n m (l,b) ((f:Int),(g:Int))) λr=>0<=r/\r.toNat<=l.length:=by
 refine bS (aC (λh=>?_) λ_=>aA ⟨by show (0:Int)<=(f:Int);omega,by show (f:Int).toNat<=_;omega⟩);have h:(f:Int)<(g:Int):=Zh h;have d:(f+g) / 2<l.length:=by omega
 rw[aH4 f g (by omega)];refine aF (x:=l[(f+g) / 2]) (by rw[bK];exact Za d) (aE (f:=λn _=>sX n (l[(f+g) / 2],b)) (Q:=λ_=>True) (aX (aE (gD _ _) λ_ _=>aA trivial)) λ_ _=>aC (λ_=>?_) λ_=>K0 l b a f ((f+g) / 2) (by omega) (by omega));rw[bT (by omega)];exact K0 l b a ((f+g) / 2+1) g (by omega) c
termination_by g-f
theorem aCs(a:aK)(b:Int)(g:a.Plan.Arcs.length<=1000): aB (λn _=>zP n a b) λr=>0<=r.1/\r.1.toNat<=a.Plan.Arcs.length/\(r.2=true->r.1.toNat<a.Plan.Arcs.length):=by
 refine aV (λ_=>rfl) (aS (f:=λn _=>AB n (a.Plan.Arcs,b)) (Q:=λv=>0<=v.2.1/\v.2.1.toNat<a.Plan.Arcs.length) (R:=λv=>0<=v/\v.toNat<=a.Plan.Arcs.length) (aX (aE (aW (K0 _ b g 0 a.Plan.Arcs.length (by omega) (Zg _))) λf e=>aC (λh=>?_) λ_=>aA (by exact e))) (λv c=>aC (λ_=>aA ⟨c.1,by have:=c.2;show v.2.1.toNat<=_;omega,λ_=>c.2⟩) λ_=>aA ⟨c.1,by have:=c.2;show v.2.1.toNat<=_;omega,λh=>by cases h⟩) λv c=>aF rfl (aA ⟨c.1,c.2,λh=>by cases h⟩));have h:f<ln a.Plan.Arcs:=Zh h;have d:f.toNat<a.Plan.Arcs.length:=by unfold ln at h;omega
 exact aF (xU e.1 d) (aE (f:=λn _=>sX n (a.Plan.Arcs[f.toNat],b)) (Q:=λ_=>True) (aX (aE (gD _ _) λ_ _=>aA trivial)) λ_ _=>aC (λ_=>aA (by exact⟨e.1,d⟩)) λ_=>aA (by exact⟨e.1,d⟩))
theorem Jq(l:List aD)(b:Int)(a:l.length<=1000)(f g:Nat)(e:f<=g)(c:g<=l.length): aB (λn m=>kV mG n m (l,b) ((f:Int),(g:Int))) λr=>0<=r/\r.toNat<=l.length:=by
 refine bS (aC (λh=>?_) λ_=>aA ⟨by show (0:Int)<=(f:Int);omega,by show (f:Int).toNat<=_;omega⟩);have h:(f:Int)<(g:Int):=Zh h;have d:(f+g) / 2<l.length:=by omega
 rw[aH4 f g (by omega)];refine aF (x:=l[(f+g) / 2]) (by rw[bK];exact Za d) (aE (f:=λn _=>jZ n (l[(f+g) / 2],b)) (Q:=λ_=>True) (aX (aE (gD _ _) λ_ _=>aA trivial)) λ_ _=>aC (λ_=>?_) λ_=>Jq l b a f ((f+g) / 2) (by omega) (by omega));rw[bT (by omega)];exact Jq l b a ((f+g) / 2+1) g (by omega) c
termination_by g-f
theorem aEh(a:aK)(b:Int)(g:a.Features.length<=1000): aB (λn _=>zO n a b) λr=>0<=r.1/\r.1.toNat<=a.Features.length/\(r.2=true->r.1.toNat<a.Features.length):=by
 refine aV (λ_=>rfl) (aS (f:=λn _=>Cw n (a.Features,b)) (Q:=λv=>0<=v.2.1/\v.2.1.toNat<a.Features.length) (R:=λv=>0<=v/\v.toNat<=a.Features.length) (aX (aE (aW (Jq _ b g 0 a.Features.length (by omega) (Zg _))) λf e=>aC (λh=>?_) λ_=>aA (by exact e))) (λv c=>aC (λ_=>aA ⟨c.1,by have:=c.2;show v.2.1.toNat<=_;omega,λ_=>c.2⟩) λ_=>aA ⟨c.1,by have:=c.2;show v.2.1.toNat<=_;omega,λh=>by cases h⟩) λv c=>aF rfl (aA ⟨c.1,c.2,λh=>by cases h⟩));have h:f<ln a.Features:=Zh h;have d:f.toNat<a.Features.length:=by unfold ln at h;omega
 exact aF (xU e.1 d) (aE (f:=λn _=>jZ n (a.Features[f.toNat],b)) (Q:=λ_=>True) (aX (aE (gD _ _) λ_ _=>aA trivial)) λ_ _=>aC (λ_=>aA (by exact⟨e.1,d⟩)) λ_=>aA (by exact⟨e.1,d⟩))
theorem aAN(a b:Int)(l:List aD)(d:l.length<=1000)(c:∀f∈l,f.Parts.length<=1000)(i:Nat)(o:i<=l.length)(h:List Int)(k:h.length<=i): aB (λn m=>kV nJ n m (a,b,l,ln l) (h,(i:Int))) λr=>r.length<=l.length:=
 bS (aZ (λx e j=>by
  rw[bT (by omega)];refine aE (f:=λn _=>Fm n (x,a,b)) (Q:=λ_=>True) (bI λ_=>aC (λ_=>aE (Ab x.Parts b (by have:=c x (Zf e);omega)) λ_ _=>aC (λ_=>aA trivial) λ_=>aA trivial) λ_=>aA trivial) λ_ _=>aC (λ_=>aF (Dc (by omega)) (aAN a b l d c (i+1) (by omega) _ (by simp;omega))) λ_=>aAN a b l d c (i+1) (by omega) h (by omega))
  (λg=>aA (show h.length<=_ by omega)))
termination_by l.length-i
theorem n7(s:aK)(c:lG s)(a b:Int): aB (λn _=>jH n s a b) λr=>r.length<=1000:=
 aV (λ_=>rfl) (aC (λ_=>aA (by simp)) λ_=>aC (λ_=>aA (by simp)) λ_=>aE (aW (aAN a b s.Features c.n c.f 0 (by omega) [] (by simp))) λr d=>aA (by have:=c.n;omega))
theorem aHQ(a b:List Int)(h:a.length=b.length)(d:a.length<=100000)(i:Nat): Sx (λn m=>qH gA n m (a,b,ln a) (i:Int)):=
 bO (aZ (λx f c=>by
  rw[bT (by omega)];exact aF (x:=b[i]'(by omega)) (by rw[bK];exact Za (by omega)) (aC (λ_=>aA trivial) λ_=>aHQ a b h d (i+1))) (λe=>aA trivial))
termination_by a.length-i
theorem aBB{α:Type}{a b:List α}(h:(ln a != ln b)=false): a.length=b.length:=by
 have h:ln a=ln b:=by simpa using h
 unfold ln at h;omega
theorem aPm(a b:List Int)(c:a.length<=100000): Tt (λn _=>eN n a b):=
 aV (λ_=>rfl) (aC (λ_=>aA trivial) λh=>aS (aW (aHQ a b (aBB h) c 0)) (λ_ _=>aA trivial) λ_ _=>aF rfl (aA trivial))
theorem aIg(c:List (List Int))(g:c.length<=1000)(i a:Nat)(f:a+(c.drop i).flatten.length<=900000): aB (λn m=>kV iP n m (c,ln c) ((a:Int),(i:Int))) λr=>r=((a+(c.drop i).flatten.length:Nat):Int):=
 bS (aZ (λx k o=>by
  have e:=wM k;rw[e,Zi] at f;have l:wr ((a:Int)+ln x)=((a+x.length:Nat):Int):=by rw[wr,ln,i64_in _ (by omega)];push_cast;rfl
  rw[l,bT (by omega)];refine aC (λh=>?_) (λ_=>?_)
  .have:=Zh h;omega
  .refine (aIg c g (i+1) (a+x.length) (by omega)).imp λr j=>?_;rw[j,e,Zi,Yt])
  (λd=>aA (by rw[Y9 d];rfl)))
termination_by c.length-i
theorem aIf(a:List (List Int))(d:a.length<=1000)(i:Nat)(b:(a.drop i).flatten.length=0): Tt (λn m=>kV iN n m (a,ln a) (i:Int)):=
 bS (aZ (λx c g=>by
  have e:=wM c;rw[e,Zi] at b;rw[bT (by omega)];refine aC (λh=>aIf a d (i+1) (by omega)) (λh=>?_);have:x=[]:=ZM.1 (by omega);rw[this] at h;cases h)
  (λf=>aA trivial))
termination_by a.length-i
theorem aIe(a:List (List Int))(h:a.length<=1000)(N:Nat)(f:N<=400000)(i:Nat)(l:List Int)(k:Nat)(d:l.length=N)(c:k+(a.drop i).flatten.length=N): aB (λn m=>kV iM n m (a,ln a) (l,(0,k),(i:Int))) λr=>r.2=(0,r.1.length)/\r.1.length=N:=
 bS (aZ (λx g j=>by
  have e:=wM g;rw[e,Zi] at c;rw[bT (by omega)];exact aF (x:=aU l k x) (by unfold b9;rw[Zu (by simp only[ZZ];omega),ZZ]) (aIe a h N f (i+1) _ (k+x.length) (by simp[aU];omega) (by omega)))
  (λb=>aA (by
   rw[Y9 b,Xg,Z2,Xf] at c;exact⟨by show ((0:Nat),k)=(0,l.length);rw[c,d],d⟩)))
termination_by a.length-i
theorem aRZ(a:List (List Int))(c:a.length<=1000)(d:a.flatten.length<=400000): aB (λn _=>oW n a) λr=>r.length=a.flatten.length:=by
 refine aV (λ_=>rfl) (aE (aW (aIg a c 0 0 (by rw[YB];omega))) λv e=>?_);have f:v=((a.flatten.length:Nat):Int):=by rw[e];simp
 have e2:wr (v-0)=((a.flatten.length:Nat):Int):=by rw[f,wr,i64_in _ (by omega)];omega
 refine aS (Q:=λ_=>a.flatten.length=0) (R:=λr=>r=(List.replicate a.flatten.length 0,(0,0))) (aX (aC (λh=>by have:=Zh h;omega) (λ_=>aC (λ_=>?_) (λh=>by rw[e2] at h;have:=Zk h;exact aA (show a.flatten.length=0 by omega))))) (λ_ h=>?_) (λr b=>?_)
 .refine aF (x:=List.replicate a.flatten.length 0) (by rw[e2];unfold rep;rw[Zu (by omega)];simp) (aC (λh=>?_) (λ_=>aF (x:=(0,0)) (by unfold sub;rw[Zu (by simp)];rfl) (aA rfl)));rw[Vd] at h;have:=congrArg List.length h;rw[YM,Z2] at this;exact aA this
 .exact aE (aW (aIf a c 0 (by simpa using h))) λ_ _=>aF rfl (aA h.symm)
 .subst b;refine aF rfl (aE (aW (aIe a c a.flatten.length d 0 _ 0 (by simp) (by simp))) λr b=>aF (xZ (Yi b.1)) (aA ?_));rw[b.1,<-b.2];simp[win]
theorem I5(s c N:Nat)(f:s+c=N)(e:N<=400000)(g:Nat)(u:1<=g)(v:g<=c)(d:List Int)(a:d.length=N)(q:Nat)(t:q+1<=s+g): aB (λn m=>kV nG n m (s,c) (d,(q:Int),(g:Int))) λr=>r.1.length=N/\0<=r.2/\r.2.toNat<=N:=by
 refine bS (aC (λh=>?_) λ_=>aA ⟨a,by show (0:Int)<=(q:Int);omega,by show ((q:Int)).toNat<=N;omega⟩);have h:(g:Int)<((c:Nat):Int):=Zh h;have h:g<c:=by omega
 have l:wr ((g:Int)-1)=((g-1:Nat):Int):=by rw[wr,i64_in _ (by omega)];omega
 have b:∀j,j<c->idx (win d (some (s,c))) (j:Int)=d[s+j]?:=λj p=>by
  rw[bK];simp only[win];rw[XQ p,Zw]
 have i:idx (win d (some (s,c))) (g:Int)=some (d[s+g]'(by omega)):=by rw[b g h];exact Za (by omega)
 have e2:idx d ((g:Int)+((s:Nat):Int))=some (d[s+g]'(by omega)):=by
  rw[show (g:Int)+((s:Nat):Int)=((s+g:Nat):Int) by omega,bK];exact Za (by omega)
 have o:idx (win d (some (s,c))) ((g-1:Nat):Int)=some (d[s+(g-1)]'(by omega)):=by rw[b (g-1) (by omega)];exact Za (by omega)
 have k:idx d (((g-1:Nat):Int)+((s:Nat):Int))=some (d[s+(g-1)]'(by omega)):=by
  rw[show ((g-1:Nat):Int)+((s:Nat):Int)=((s+(g-1):Nat):Int) by omega,bK];exact Za (by omega)
 rw[l,bT (by omega),bT (by omega)];refine aF i (aF e2 (aF o (aF k (aC (λ_=>?_) λ_=>I5 s c N f e (g+1) (by omega) (by omega) d a q (by omega)))));refine aF i (aF e2 (aF (x:=d[q]'(by omega)) (by rw[hU (by omega)];exact Za (by omega)) (aF (x:=d[q]'(by omega)) (by rw[bK];exact Za (by omega)) ?_)));exact I5 s c N f e (g+1) (by omega) (by omega) _ (by rw[Yq];exact a) (q+1) (by omega)
termination_by c-g
theorem aEz(a:List Int)(c:a.length<=400000)(i:Nat)(l:1<=i): aB (λn m=>qH nH n m a (i:Int)) (Su (λv=>(win v.1 (some v.2)).length<=a.length) λ_=>True):=by
 refine bO (aC (λh=>?_) λ_=>aA trivial);have h:(i:Int)<ln a:=Zh h;have h:i<a.length:=by unfold ln at h;omega
 have g:wr ((i:Int)-1)=((i-1:Nat):Int):=by rw[wr,i64_in _ (by omega)];omega
 rw[g,bT (by omega)];refine aF (x:=a[i]) (by rw[hU h];exact Za h) (aF (x:=a[i]) (by rw[bK];exact Za h) (aF (x:=a[i-1]'(by omega)) (by rw[hU (by omega)];exact Za (by omega)) (aF (x:=a[i-1]'(by omega)) (by rw[bK];exact Za (by omega)) (aC (λ_=>?_) λ_=>aEz a c (i+1) (by omega)))));refine aF (x:=(i,a.length-i)) (by unfold sub;rw[Zu ⟨by omega,by unfold ln;omega,by unfold ln;simp⟩];simp[ln]) (aE (aW (I5 i (a.length-i) a.length (by omega) c 1 (Zg _) (by omega) a rfl i (by omega))) λj k=>?_);obtain⟨e,p,o⟩:=k;obtain⟨q,d⟩:∃q:Nat,j.2=(q:Int):=⟨j.2.toNat,by omega⟩;have f:q<=a.length:=by omega
 refine aF (x:=(q,a.length-q)) (by rw[d];unfold sub;rw[Zu ⟨by omega,by unfold ln;omega,by unfold ln;simp⟩];simp[ln,e]) (aF (x:=aU j.1 q (List.replicate (a.length-q) 0)) (by unfold clr;rw[Zu (by show q+(a.length-q)<=_;omega)]) ?_);have b:(aU j.1 q (List.replicate (a.length-q) 0)).length=a.length:=by unfold aU;simp;omega
 refine aF (x:=(0,q)) (by rw[d];unfold sub;rw[Zu ⟨by omega,by omega,by simp[b];omega⟩];simp) (aA ?_);show (List.take q (List.drop 0 _)).length<=_;simp;omega
termination_by a.length-i
theorem aRp{l b:List Int}{k:Nat}(h:l.length<=(tE b).length)(e:b.length=k): l.length<=k:=by rw[wW] at h;omega
theorem aGo(a:List (List Int))(e:a.length<=1000)(g:a.flatten.length<=400000): aB (λn _=>mR n a) λr=>r.length<=a.flatten.length:=by
 refine aV (λ_=>rfl) (aE (aRZ a e g) λb d=>aX (aF (xZ (Yi (by omega))) (aS (FH (f:=λn=>Fe n (tE b)) (P:=Su (λ_=>True) λv=>(win v.1 (some v.2)).length<=(tE b).length) (aX (aC (λ_=>aA trivial) λ_=>aS (aW (aEz (tE b) (by rw[wW];omega) 1 (Zg _))) (λv c=>aA (by exact c)) λ_ _=>aF rfl (aA trivial)))) (λ_ _=>aA (by rw[wW];omega)) λv c=>aF rfl (aA (aRp c d)))))
theorem aC0(a b:List Int)(h:a.length+b.length<=400000): aB (λn _=>tM n a b) λr=>r.length<=a.length+b.length:=
 aV (λ_=>rfl) (aE (aGo [a,b] (by simp) (by simpa using h)) λc d=>aA (by simpa using d))
instance aXn{x:Int}: TC (λn=>fM n x):=⟨aV (λ_=>rfl) (by repeat' first|apply dY|apply aC|apply bI|intro)⟩
instance aYq{x y:Int}: TC (λn=>Mc n (x,y)):=⟨by repeat' first|apply dY|apply aC|apply bI|intro⟩
instance aWi{x y:Int}: TC (λn=>Jz n x y):=⟨aV (λ_=>rfl) (by repeat' first|apply dY|apply aC|apply bI|intro)⟩
instance aYD{x:Int}: TC (λn=>fQ n x):=⟨aX (by repeat' first|apply dY|apply aC|apply bI|intro)⟩
theorem aCp(l:List Int)(b:Int)(a:l.length<=400000)(f g:Nat)(e:f<=g)(c:g<=l.length): aB (λn m=>kV fE n m (l,b) ((f:Int),(g:Int))) λr=>0<=r/\r.toNat<=l.length:=by
 refine bS (aC (λh=>?_) λ_=>aA ⟨by show (0:Int)<=(f:Int);omega,by show (f:Int).toNat<=_;omega⟩);have h:(f:Int)<(g:Int):=Zh h;have d:(f+g) / 2<l.length:=by omega
 rw[aH4 f g (by omega)];refine aF (x:=l[(f+g) / 2]) (by rw[bK];exact Za d) (bI λ_=>aC (λ_=>?_) λ_=>aCp l b a f ((f+g) / 2) (by omega) (by omega));rw[bT (by omega)];exact aCp l b a ((f+g) / 2+1) g (by omega) c
termination_by g-f
theorem aW5(l:List Int)(b:Int)(d:l.length<=400000): Tt (λn _=>gX n l b):=by
 refine aV (λ_=>rfl) (aE (aW (aCp l b d 0 l.length (by omega) (Zg _))) λf c=>aC (λh=>?_) λ_=>aA trivial);have h:f<ln l:=Zh h;have a:f.toNat<l.length:=by unfold ln at h;omega
 have e:=xU c.1 a;refine aF e (aC (λ_=>aA trivial) λ_=>aF e ?_);repeat' first|apply dY|apply aC|apply bI|intro
theorem aB6(c d:List Int)(a:c.length<=400000)(b:d.length<=400000)(i:Nat)(l:i<=d.length)(h:List Int)(j:h.length<=i): aB (λn m=>kV rY n m (c,d,ln d) (h,(i:Int))) λr=>r.length<=d.length:=
 bS (aZ (λx k g=>by
  rw[bT (by omega)];refine aE (f:=λn _=>Ow n (c,x)) (Q:=λ_=>True) (aX (aE (aW5 c x a) λ_ _=>aC (λ_=>aA trivial) λ_=>aA trivial)) λ_ _=>aC (λ_=>aF (Ra (by omega)) (aB6 c d a b (i+1) (by omega) _ (by simp;omega))) λ_=>aB6 c d a b (i+1) (by omega) h (by omega))
  (λe=>aA (show h.length<=_ by omega)))
termination_by d.length-i
theorem aPi(a b:List Int)(h:a.length<=400000)(i:b.length<=400000): aB (λn _=>Oy n a b) λr=>r.length<=a.length:=
 aV (λ_=>rfl) (aE (aGo [b] (by simp) (by simpa using i)) λc j=>aE (f:=λn _=>Ox n (c,a)) (Q:=λr=>r.length<=a.length) (aX (aE (aGo [a] (by simp) (by simpa using h)) λd g=>aE (aW (aB6 c d (by simp at j;omega) (by simp at g;omega) 0 (by omega) [] (by simp))) λr e=>aA (by simp at g;show r.length<=_;omega))) λr e=>aA e)
theorem aIq(a b:Int)(l:List Int)(e:l.length<=10000): aB (λn _=>iC n (a,b,l)) λr=>r.length<=l.length+1:=
 aX (aE (aAH l a (by omega)) λ_ _=>aC (λ_=>aE (aPi l [a] (by omega) (by simp)) λg d=>aC (λ_=>aE (aC0 g [b] (by simp;omega)) λh c=>aA (by simp at c;show h.length<=_;omega)) λ_=>aA (by show g.length<=_;omega)) λ_=>aA (by show l.length<=_;omega))
def aPo(r:dW): Prop:=r.Outer.length+r.Inner.flatten.length<=900000/\r.Inner.length<=200000
theorem aHZ(a:List (List Int))(c:a.length<=200000)(i:Nat)(h:List Int)(b:h.length+(a.drop i).flatten.length<=900000): aB (λn m=>kV uN n m (a,ln a) (h,(i:Int))) λr=>r.length<=900000:=
 bS (aZ (λx d g=>by
  have e:=wM d;rw[e,Zi] at b;rw[bT (by omega)];exact aF (Qz (by omega)) (aHZ a c (i+1) _ (by rw[Zi];omega)))
  (λf=>aA (show h.length<=_ by omega)))
termination_by a.length-i
theorem aHY(r:dW)(h:aPo r): aB (λn _=>Ju n r) λr=>r.length<=900000:=by
 obtain⟨a,b⟩:=h;refine aV (λ_=>rfl) (aF (Qz (l:=([]:List Int)) (m:=r.Outer) (by simp;omega)) (aE (aW (aHZ r.Inner b 0 _ (by simpa using a))) λc d=>aA d))
theorem aGA(p:aN)(a:Sm p)(b:Int)(c:List Int)(e:c.length<=900000)(i:Nat): Sx (λn m=>qH sD n m (p,b,c,ln c) (i:Int)):=
 bO (aZ (λx h d=>by
  rw[bT (by omega)];refine aE (f:=λn _=>Pw n (b,x)) (Q:=λ_=>True) (by repeat' first|apply dY|apply aC|apply bI|intro) λ_ _=>aC (λ_=>aE (M2 p a x) λ_ _=>aA trivial) λ_=>aGA p a b c e (i+1)) (λg=>aA trivial))
termination_by c.length-i
theorem aGB(p:aN)(d:Sm p)(b:Int)(c:List dW)(f:c.length<=1000)(a:∀r∈c,aPo r)(i:Nat): Sx (λn m=>qH sE n m (p,b,c,ln c) (i:Int)):=
 bO (aZ (λx g e=>by
  rw[bT (by omega)];exact aE (aHY x (a x (Zf g))) λl h=>aS (aW (aGA p d b l h 0)) (λ_ _=>aA trivial) λ_ _=>aF rfl (aGB p d b c f a (i+1))) (λj=>aA trivial))
termination_by c.length-i
theorem aJO(p:aN)(d:Sm p)(b:Int)(c:List dW)(a:c.length<=1000)(e:∀r∈c,aPo r): Tt (λn _=>Px n p b c):=
 aV (λ_=>rfl) (aS (aW (aGB p d b c a e 0)) (λ_ _=>aA trivial) λ_ _=>aF rfl (aA trivial))
structure FeI(l:List aD)(N i:Nat): Prop where
 len:l.length=N
 lo:∀(j:Nat) (f:aD),l[j]?=some f->f.Parts.length<=65
 hi:∀(j:Nat) (f:aD),i<=j->l[j]?=some f->f.Parts.length<=64
theorem FeI.next{l:List aD}{N i:Nat}(h:FeI l N i): FeI l N (i+1):=⟨h.len,h.lo,λj f a=>h.hi j f (by omega)⟩
theorem FeI.set{l:List aD}{N i:Nat}(h:FeI l N i){g:aD}(b:g.Parts.length<=65): FeI (l.set i g) N (i+1):=by
 refine⟨by rw[Yq];exact h.len,λj f a=>?_,λj f c a=>?_⟩
 .rw[Z8] at a;split at a
  .split at a
   .cases a;exact b
   .cases a
  .exact h.lo j f a
 .rw[Zv (by omega)] at a;exact h.hi j f (by omega) a
theorem FeI.all{l:List aD}{N i:Nat}(h:FeI l N i): ∀f∈l,f.Parts.length<=65:=λf a=>by
 obtain⟨j,b⟩:=Yk.1 a;exact h.lo j f b
theorem FeI.at{l:List aD}{N i:Nat}(h:FeI l N i)(c:N<=1000)(b:(i:Int)<(N:Int)): ∃f,f.Parts.length<=64/\fV l l.length (i:Int)=some f/\idx l (i:Int)=some f:=by
 have a:i<l.length:=by rw[h.len];omega
 have e:=Za a;exact⟨l[i],h.hi i _ (Zg _) e,by rw[hU a];exact e,by rw[bK];exact e⟩
theorem aF6(a b:List Int)(c:List Aad)(d f:List aP)(g h:Int)(N:Nat)(j:N<=1000)(i:Nat)(l:List aD)(e:FeI l N i): aB (λn m=>kV nW n m (a,b,c,d,f,g,h,(N:Int)) (l,(i:Int))) λr=>r.length=N/\∀f∈r,f.Parts.length<=65:=by
 refine bS (aC (λk=>?_) λ_=>aA ⟨e.len,e.all⟩);have k:(i:Int)<(N:Int):=Zh k;obtain⟨x,q,o,e2⟩:=e.at j k;rw[bT (by omega)];refine aF o (aF e2 (aE (f:=λn _=>Gp n (x,g)) (Q:=λ_=>True) (bI λ_=>aC (λ_=>aE (aAH x.Parts g (by omega)) λ_ _=>aC (λ_=>aA trivial) λ_=>aA trivial) λ_=>aA trivial) λ_ _=>aC (λ_=>aE (aC0 x.Parts [h] (by simp;omega)) λt p=>aF o (aF e2 ?_)) λ_=>aF6 a b c d f g h N j (i+1) l e.next));simp only[YA];exact aF6 a b c d f g h N j (i+1) _ (e.set (by simp at p;show t.length<=65;omega))
termination_by N-i
theorem aF4(a b:List Int)(c:List Aad)(d:List aP)(f g:Int)(N:Nat)(j:N<=1000)(i:Nat)(l:List aD)(e:FeI l N i): aB (λn m=>kV nU n m (a,b,c,d,f,g,(N:Int)) (l,(i:Int))) λr=>r.length=N/\∀f∈r,f.Parts.length<=65:=by
 refine bS (aC (λh=>?_) λ_=>aA ⟨e.len,e.all⟩);have h:(i:Int)<(N:Int):=Zh h;obtain⟨x,o,k,e2⟩:=e.at j h;rw[bT (by omega)];refine aF k (aF e2 (bI λ_=>aC (λ_=>aE (aIq f g x.Parts (by omega)) λt p=>aF k (aF e2 ?_)) λ_=>aF4 a b c d f g N j (i+1) l e.next));simp only[YA];exact aF4 a b c d f g N j (i+1) _ (e.set (by show t.length<=65;omega))
termination_by N-i
theorem aF2(w:Nat×Nat)(a b:List Int)(c:List Aad)(d:List aP)(f g:Int)(N:Nat)(h:N<=1000)(i:Nat)(l:List aD)(e:FeI l N i): aB (λn m=>kV nS n m (w,a,b,c,d,f,g,(N:Int)) (l,(i:Int))) λr=>r.length=N/\∀f∈r,f.Parts.length<=65:=by
 refine bS (aC (λj=>?_) λ_=>aA ⟨e.len,e.all⟩);have j:(i:Int)<(N:Int):=Zh j;obtain⟨x,p,k,e2⟩:=e.at h j;rw[bT (by omega)];refine aF k (aF e2 (bI λ_=>aC (λ_=>aE (aIq f g x.Parts (by omega)) λt o=>aF k (aF e2 ?_)) λ_=>aF2 w a b c d f g N h (i+1) l e.next));simp only[YA];exact aF2 w a b c d f g N h (i+1) _ (e.set (by show t.length<=65;omega))
termination_by N-i
theorem mT.at{l:List aP}{N i:Nat}(h:mT l N)(c:i<N): ∃a,l[i]?=some a/\fV l l.length (i:Int)=some a/\idx l (i:Int)=some a:=by
 have b:i<l.length:=by rw[h.1];omega
 have e:=Za b;exact⟨l[i],e,by rw[hU b];exact e,by rw[bK];exact e⟩
theorem aF7(a:List Int)(b:List Aad)(c:List aD)(d:List Int)(f:Int)(g:List Int)(j:g.length<=900000)(N:Nat)(o:N<=300)(i:Nat)(l:List aP)(e:mT l N): aB (λn m=>kV nX n m (a,b,c,d,f,g,ln g) (l,(i:Int))) λr=>mT r N:=by
 refine bS (aZ (λx w u=>?_) λ_=>aA e);rw[bT (by omega)];refine aE (aCs ⟨⟨b,l,a⟩,c⟩ _ (by show l.length<=_;rw[e.1];omega)) λr t=>aC (λs=>?_) λ_=>aF7 a b c d f g j N o (i+1) l e;obtain⟨y,_,h⟩:=t;have h:r.1.toNat<l.length:=h s;obtain⟨q,p⟩:∃q:Nat,r.1=(q:Int):=⟨r.1.toNat,by omega⟩;rw[p] at h |-;obtain⟨x,v,k,e2⟩:=e.at (i:=q) (by rw[<-e.1];simpa using h);refine aC (λ_=>aF k (aF e2 ?_)) λ_=>aF k (aF e2 ?_);all_goals
  simp only[YA];exact aF7 a b c d f g j N o (i+1) _ (e.set v rfl)
termination_by g.length-i
theorem aF5(a b:List Int)(c:List Aad)(d:List aD)(f g:Int)(N:Nat)(o:N<=300)(i:Nat)(l:List aP)(e:mT l N): aB (λn m=>kV nV n m (a,b,c,d,f,g,(N:Int)) (l,(i:Int))) λr=>mT r N:=by
 refine bS (aC (λp=>?_) λ_=>aA e);have p:(i:Int)<(N:Int):=Zh p;have k:i<N:=by omega
 obtain⟨x,u,j,e2⟩:=e.at k;rw[bT (by omega)];refine aF j (aF e2 (aE (f:=λn _=>Gm n (a,b,c,l,d,f,g,x,(i:Int))) (Q:=λr=>mT r N) (aC (λ_=>aF j (aF e2 (aA ?_))) λ_=>aA e) λr h=>?_))
 .simp only[YA];exact e.set u rfl
 .obtain⟨y,t,s,q⟩:=h.at k;refine aC (λ_=>aF s (aF q ?_)) λ_=>aF5 a b c d f g N o (i+1) r h;simp only[YA];exact aF5 a b c d f g N o (i+1) _ (h.set t rfl)
termination_by N-i
theorem aUZ(a b:List Int)(c:List Aad)(d:List aP)(f:List aD)(g h:Int)(t:a.length<=1000)(q:mT d d.length)(e:d.length<=300)(p:FeI f f.length 0)(i:f.length<=1000): aB (λn _=>sO n (a,b,c,d,f,g,h)) λr=>r.1.length<=a.length+1/\mT r.2.1 d.length/\r.2.2.length=f.length/\∀x∈r.2.2,x.Parts.length<=65:=
 aX (aE (aW (aF5 a b c f g h d.length e 0 d q)) λj o=>aE (aIq g h a (by omega)) λl s=>aE (aW (aF4 l b c j g h f.length i 0 f p)) λm k=>aA ⟨s,o,k.1,k.2⟩)
theorem aVa(a b:List Int)(c:List Aad)(d:List aP)(f:List aD)(g:List Int)(h:List aP)(i:List Int)(j l:Int)(w:a.length<=1000)(p:mT h h.length)(e:h.length<=300)(u:FeI f f.length 0)(k:f.length<=1000)(v:i.length<=900000): aB (λn _=>Hb n (a,b,c,d,f,g,h,i,j,l)) λr=>r.1.length<=a.length+1/\mT r.2.2 h.length/\r.2.1.length=f.length/\∀x∈r.2.1,x.Parts.length<=65:=
 aX (aE (aW (aF7 a c f g l i v h.length e 0 h p)) λo t=>aE (aC0 a [l] (by simp;omega)) λr q=>aE (aW (aF6 r b c d o j l f.length k 0 f u)) λs m=>aA ⟨by simpa using q,t,m.1,m.2⟩)
section
variable {α:Type}(l:List α)(z:α)(hl:l.length<=1000)(j:Nat)(hj:j<l.length)
include hl hj
theorem aRN: sub l (0,l.length) 0 (j:Int)=some (0,j):=by
 unfold sub;rw[Zu ⟨by omega,by omega,by simp;omega⟩];simp
theorem aRM: sub l (0,l.length) ((j+1:Nat):Int) (ln l)=some (j+1,l.length-(j+1)):=by
 unfold sub ln;rw[Zu ⟨by omega,by omega,by simp⟩];simp
theorem aJq: (win l (some (j+1,l.length-(j+1)))).length=l.length-(j+1):=by simp[win]
def aGi: List α:=aU l j (win l (some (j+1,l.length-(j+1))))
theorem aRL: b9 l (0,j) (win l (some (j+1,l.length-(j+1))))=some (aGi l j):=by
 unfold b9 aGi;rw[aJq l hl j hj,Zu ⟨by simp;omega,by omega⟩,ZZ]
theorem I2: (aGi l j).length=l.length:=by
 unfold aGi aU;rw[Zi,Zi,ZX,ZK,aJq l hl j hj];omega
theorem aRK: sub (aGi l j) (0,j+(win l (some (j+1,l.length-(j+1)))).length) (((0,j+(win l (some (j+1,l.length-(j+1)))).length).2:Nat):Int) (ln l)=some (l.length-1,1):=by
 rw[aJq l hl j hj,show j+(l.length-(j+1))=l.length-1 by omega];unfold sub ln;rw[Zu ⟨by omega,by simp,by rw[I2 l hl j hj];simp⟩];simp;omega
def LE: List α:=aU (aGi l j) (l.length-1) (List.replicate 1 z)
theorem aRJ: clr (aGi l j) (l.length-1,1) z=some (LE l z j):=by
 unfold clr LE;rw[Zu (by rw[I2 l hl j hj];show l.length-1+1<=_;omega)]
theorem aMg: (LE l z j).length=l.length:=by
 unfold LE aU;rw[Zi,Zi,ZX,ZK,I2 l hl j hj];simp;omega
omit hl hj in
theorem B1{e cs:List α}{k:Nat}{x:α}(h:x∈aU e k cs): x∈e\/x∈cs:=by
 unfold aU at h;rcases ZD.1 h with h | h
 .exact .inl (Ya h)
 rcases ZD.1 h with h | h
 .exact .inr h
 .exact .inl (Z1 h)
omit hl hj in
theorem aEu: ∀x∈LE l z j,x∈l\/x=z:=by
 intro x a;rcases B1 a with a | a
 .rcases B1 (show x∈aU l j _ from a) with a | a
  .exact .inl a
  .exact .inl (Z1 (Ya a))
 .exact .inr (List.eq_of_mem_replicate a)
end
theorem aOB(a b:List Int)(d:List aP)(f:List aD)(l:List Aad)(e:l.length<=1000)(j:Nat)(c:j<l.length): aB (λn _=>Lo n (a,b,l,d,f,(j:Int),((j+1:Nat):Int))) (Su (λ_=>False) λv=>v=(LE l (Aad.mk 0 (Aaa.mk 0 0)) j,(0,l.length-1))):=by
 refine aX (aF (xZ (Yi ⟨by omega,by omega,by unfold ln;omega,XA _⟩)) (aC (λh=>?_) λ_=>aF (aRN l e j c) (aF (aRM l e j c) (aF (aRL l e j c) (aF (aRK l e j c) (aF (aRJ l (Aad.mk 0 (Aaa.mk 0 0)) e j c) (aA ?_)))))))
 .have h:(j:Int)=((j+1:Nat):Int):=by simpa using h
  omega
 .show (LE l (Aad.mk 0 (Aaa.mk 0 0)) j,(0,j+(win l (some (j+1,l.length-(j+1)))).length))=_;rw[aJq l e j c,show j+(l.length-(j+1))=l.length-1 by omega]
theorem aMi(a b:List Int)(c:List Aad)(f:List aD)(l:List aP)(e:l.length<=1000)(j:Nat)(d:j<l.length): aB (λn _=>Ha n (a,b,c,l,f,(j:Int),((j+1:Nat):Int))) (Su (λ_=>False) λv=>v=(LE l (aP.mk 0 0 0 [] 0 0) j,(0,l.length-1))):=by
 refine aX (aF (xZ (Yi ⟨by omega,by omega,by unfold ln;omega,XA _⟩)) (aC (λh=>?_) λ_=>aF (aRN l e j d) (aF (aRM l e j d) (aF (aRL l e j d) (aF (aRK l e j d) (aF (aRJ l (aP.mk 0 0 0 [] 0 0) e j d) (aA ?_)))))))
 .have h:(j:Int)=((j+1:Nat):Int):=by simpa using h
  omega
 .show (LE l (aP.mk 0 0 0 [] 0 0) j,(0,j+(win l (some (j+1,l.length-(j+1)))).length))=_;rw[aJq l e j d,show j+(l.length-(j+1))=l.length-1 by omega]
theorem aMh(a b:List Int)(c:List Aad)(d:List aP)(l:List aD)(f:l.length<=1000)(j:Nat)(e:j<l.length): aB (λn _=>Gw n (a,b,c,d,l,(j:Int),((j+1:Nat):Int))) (Su (λ_=>False) λv=>v=(LE l (aD.mk 0 0 0 (⟨#[]⟩:ByteArray) []) j,(0,l.length-1))):=by
 refine aX (aF (xZ (Yi ⟨by omega,by omega,by unfold ln;omega,XA _⟩)) (aC (λh=>?_) λ_=>aF (aRN l f j e) (aF (aRM l f j e) (aF (aRL l f j e) (aF (aRK l f j e) (aF (aRJ l (aD.mk 0 0 0 (⟨#[]⟩:ByteArray) []) f j e) (aA ?_)))))))
 .have h:(j:Int)=((j+1:Nat):Int):=by simpa using h
  omega
 .show (LE l (aD.mk 0 0 0 (⟨#[]⟩:ByteArray) []) j,(0,j+(win l (some (j+1,l.length-(j+1)))).length))=_;rw[aJq l f j e,show j+(l.length-(j+1))=l.length-1 by omega]
theorem aG8{α:Type}{l:List α}{w:Option (Nat×Nat)}{x:α}(h:x∈win l w): x∈l:=by
 cases w with
 | none=>exact h
 | some w=>exact Z1 (Ya h)
theorem aG9{α:Type}{l:List α}{k r:Nat}(a:r<k)(b:k<=l.length): idx (win l (some (0,k))) (r:Int)=some (l[r]'(by omega))/\idx l ((r:Int)+((0:Nat):Int))=some (l[r]'(by omega)):=by
 constructor
 .rw[bK];simp only[win];rw[XQ a,Zw,ZZ];exact Za (by omega)
 .rw[show (r:Int)+((0:Nat):Int)=(r:Int) by omega,bK];exact Za (by omega)
theorem aF3(k:Nat)(b c:List Int)(d:List Aad)(f:List aD)(g h:Int)(N:Nat)(p:k<=N)(t:N<=300)(i:Nat)(l:List aP)(a:mT l N): aB (λn m=>kV nT n m ((0,k),b,c,d,f,g,h,(0,k),((k:Nat):Int)) (l,(i:Int))) λr=>mT r N:=by
 refine bS (aC (λs=>?_) λ_=>aA a);have s:(i:Int)<((k:Nat):Int):=Zh s;have q:i<k:=by omega
 have e:=aG9 (l:=l) q (by rw[a.1];omega);have w:=Za (l:=l) (i:=i) (by rw[a.1];omega);have o:((i:Int)+((0:Nat):Int)).toNat=i:=by omega
 rw[bT (by omega)];refine aF e.1 (aF e.2 (aE (f:=λn _=>Gl n ((0,k),b,c,d,l,f,g,h,l[i]'(by rw[a.1];omega),(i:Int),(0,k))) (Q:=λr=>mT r N) ?_ λr j=>?_))
 .refine aC (λ_=>?_) λ_=>aA a;refine aF e.1 (aF e.2 (aA ?_));show mT (List.set l ((i:Int)+((0:Nat):Int)).toNat _) N;rw[o];exact a.set w rfl
 .have u:=aG9 (l:=r) q (by rw[j.1];omega);have v:=Za (l:=r) (i:=i) (by rw[j.1];omega);refine aC (λ_=>aF u.1 (aF u.2 ?_)) λ_=>aF3 k b c d f g h N p t (i+1) r j;refine aF3 k b c d f g h N p t (i+1) _ ?_;show mT (List.set r ((i:Int)+((0:Nat):Int)).toNat _) N;rw[o];exact j.set v rfl
termination_by k-i
theorem aUY(k:Nat)(b c:List Int)(d:List Aad)(f:List aP)(g:List aD)(h i:Int)(v:b.length<=1000)(s:mT f f.length)(a:f.length<=300)(p:k<=f.length)(q:FeI g g.length 0)(e:g.length<=1000): aB (λn _=>Gz n ((0,k),b,c,d,f,g,h,i)) λr=>r.1.length<=b.length+1/\mT r.2.1 f.length/\r.2.2.length=g.length/\∀x∈r.2.2,x.Parts.length<=65:=
 aX (aE (aW (aF3 k b c d g h i f.length p a 0 f s)) λl u=>aE (aIq h i b (by omega)) λm t=>aE (aW (aF2 (0,k) m c d l h i g.length e 0 g q)) λo j=>aA ⟨t,u,j.1,j.2⟩)
def M0: Prop:=∀(p q:aN) (x:Int),Sm p->Sm q->Tt (λn _=>dI n p q x)
theorem N0(f:Ru)(a:List Int)(b:List Aad)(c:List aP)(d:List aD)(e:Int)(i:lG ⟨⟨b,c,a⟩,d⟩): aB (λn _=>cH n (a,b,c,d,e)) λr=>r=0->FI ⟨⟨b,c,a⟩,d⟩:=
 aC (λ_=>aE (QG f _ i) λr j=>aA j) (λh=>aA λg=>by rw[g] at h;simp at h)
theorem aUN(a:Ru)(w:Nat×Nat)(b:List Int)(c:List Aad)(d:List aP)(f:List aD)(e:Int)(i:lG ⟨⟨win c (some w),d,b⟩,f⟩): aB (λn _=>sN n (w,b,c,d,f,e)) λr=>r=0->FI ⟨⟨win c (some w),d,b⟩,f⟩:=
 aC (λ_=>aE (QG a _ i) λr j=>aA j) (λh=>aA λg=>by rw[g] at h;simp at h)
theorem aUI(f:Ru)(a:List Int)(b:List Aad)(c:List aD)(d:List aP)(e:Int)(i:lG ⟨⟨b,d,a⟩,c⟩): aB (λn _=>Gj n (a,b,c,d,e)) λr=>r=0->FI ⟨⟨b,d,a⟩,c⟩:=
 aC (λ_=>aE (QG f _ i) λr j=>aA j) (λh=>aA λg=>by rw[g] at h;simp at h)
theorem aQd(a:Ru)(w:Nat×Nat)(b:List Int)(c:List Aad)(d:List aP)(f:List aD)(e:Int)(i:lG ⟨⟨c,win d (some w),b⟩,f⟩): aB (λn _=>sK n (w,b,c,d,f,e)) λr=>r=0->FI ⟨⟨c,win d (some w),b⟩,f⟩:=
 aC (λ_=>aE (QG a _ i) λr j=>aA j) (λh=>aA λg=>by rw[g] at h;simp at h)
theorem aUG(b:Ru)(a:List Int)(w:Nat×Nat)(c:List Aad)(d:List aP)(f:List aD)(e:Int)(i:lG ⟨⟨c,d,a⟩,win f (some w)⟩): aB (λn _=>Ge n (a,w,c,d,f,e)) λr=>r=0->FI ⟨⟨c,d,a⟩,win f (some w)⟩:=
 aC (λ_=>aE (QG b _ i) λr j=>aA j) (λh=>aA λg=>by rw[g] at h;simp at h)
theorem aJ7(j:M0)(s:aK)(t:bG)(a:List Int)(b:List Aad)(c:List aP)(d:List aD)(e:Int)(k:Int)(g:Sm s.Plan)(i:Sm ⟨b,c,a⟩): aB (λn _=>dZ n (s,t,a,b,c,d,e,k)) λr=>r=0->e=0:=
 aE (f:=λn _=>Gv n (s,t,a,b,c,d,e,k)) (Q:=λ_=>True) (aC (λ_=>aC (λ_=>aE (j _ _ _ g i) λ_ _=>aC (λ_=>aA trivial) λ_=>aA trivial) λ_=>aC (λ_=>aE (j _ _ _ g i) λ_ _=>aC (λ_=>aA trivial) λ_=>aA trivial) λ_=>aA trivial) λ_=>aA trivial) λ_ _=>aC (λ_=>aA (by simp)) λ_=>aA λh=>h
theorem aUM(i:M0)(s:aK)(t:bG)(w:Nat×Nat)(b:List Int)(c:List Aad)(d:List aP)(f:List aD)(e:Int)(k:Int)(a:Sm s.Plan)(g:Sm ⟨win c (some w),d,b⟩): aB (λn _=>sM n (s,t,w,b,c,d,f,e,k)) λr=>r=0->e=0:=
 aE (f:=λn _=>Gu n (s,t,w,b,c,d,f,e,k)) (Q:=λ_=>True) (aC (λ_=>aC (λ_=>aE (i _ _ _ a g) λ_ _=>aC (λ_=>aA trivial) λ_=>aA trivial) λ_=>aC (λ_=>aE (i _ _ _ a g) λ_ _=>aC (λ_=>aA trivial) λ_=>aA trivial) λ_=>aA trivial) λ_=>aA trivial) λ_ _=>aC (λ_=>aA (by simp)) λ_=>aA λh=>h
theorem aEU(j:M0)(s:aK)(t:bG)(a:List Int)(b:List Aad)(c:List aP)(d:List aD)(e:Int)(g:Sm s.Plan)(i:Sm ⟨b,c,a⟩): aB (λn _=>fN n (s,t,a,b,c,d,e)) λr=>r=0->e=0:=
 aE (f:=λn _=>Gk n (s,t,a,b,c,d,e)) (Q:=λ_=>True) (aC (λ_=>aC (λ_=>aE (j _ _ _ g i) λ_ _=>aC (λ_=>aA trivial) λ_=>aA trivial) λ_=>aC (λ_=>aE (j _ _ _ g i) λ_ _=>aC (λ_=>aA trivial) λ_=>aA trivial) λ_=>aA trivial) λ_=>aA trivial) λ_ _=>aC (λ_=>aA (by simp)) λ_=>aA λh=>h
theorem aUH(j:M0)(s:aK)(t:bG)(a:List Int)(b:List Aad)(c:List aD)(d:List aP)(e:Int)(g:Sm s.Plan)(i:Sm ⟨b,d,a⟩): aB (λn _=>Gi n (s,t,a,b,c,d,e)) λr=>r=0->e=0:=
 aE (f:=λn _=>Gh n (s,t,a,b,c,d,e)) (Q:=λ_=>True) (aC (λ_=>aC (λ_=>aE (j _ _ _ g i) λ_ _=>aC (λ_=>aA trivial) λ_=>aA trivial) λ_=>aC (λ_=>aE (j _ _ _ g i) λ_ _=>aC (λ_=>aA trivial) λ_=>aA trivial) λ_=>aA trivial) λ_=>aA trivial) λ_ _=>aC (λ_=>aA (by simp)) λ_=>aA λh=>h
theorem aQc(i:M0)(s:aK)(t:bG)(w:Nat×Nat)(b:List Int)(c:List Aad)(d:List aP)(f:List aD)(e:Int)(a:Sm s.Plan)(g:Sm ⟨c,win d (some w),b⟩): aB (λn _=>sJ n (s,t,w,b,c,d,f,e)) λr=>r=0->e=0:=
 aE (f:=λn _=>Gg n (s,t,w,b,c,d,f,e)) (Q:=λ_=>True) (aC (λ_=>aC (λ_=>aE (i _ _ _ a g) λ_ _=>aC (λ_=>aA trivial) λ_=>aA trivial) λ_=>aC (λ_=>aE (i _ _ _ a g) λ_ _=>aC (λ_=>aA trivial) λ_=>aA trivial) λ_=>aA trivial) λ_=>aA trivial) λ_ _=>aC (λ_=>aA (by simp)) λ_=>aA λh=>h
theorem aUF(i:M0)(s:aK)(t:bG)(a:List Int)(w:Nat×Nat)(c:List Aad)(d:List aP)(f:List aD)(e:Int)(b:Sm s.Plan)(g:Sm ⟨c,d,a⟩): aB (λn _=>Gc n (s,t,a,w,c,d,f,e)) λr=>r=0->e=0:=
 aE (f:=λn _=>Gb n (s,t,a,w,c,d,f,e)) (Q:=λ_=>True) (aC (λ_=>aC (λ_=>aE (i _ _ _ b g) λ_ _=>aC (λ_=>aA trivial) λ_=>aA trivial) λ_=>aC (λ_=>aE (i _ _ _ b g) λ_ _=>aC (λ_=>aA trivial) λ_=>aA trivial) λ_=>aA trivial) λ_=>aA trivial) λ_ _=>aC (λ_=>aA (by simp)) λ_=>aA λh=>h
theorem uW{f g:Nat->Nat->Option Int}{k:Nat->Nat->Int->Option Int}{s:aK}(e:Int)(i:aB f λr=>r=0->FI s)(b:∀r,aB (λn m=>k n m r) λq=>q=0->r=0): aB (λn m=>Av.bnd (f n m) λr=>Av.bnd (k n m r) λq=>Av.cnd (q != 0) (some ((⟨⟨[],[],[]⟩,[]⟩:aK),q)) (some (s,0))) λv=>v.2=0->FI v.1:=
 aE i λr d=>aE (b r) λq a=>aC (λh=>aA λc=>by rw[show q=0 from c] at h;simp at h) λh=>aA λ_=>d (a (by simpa using h))
theorem aHG{α:Type}{l:List α}{j:Nat}{y x:α}(h:x∈l.take j++y::l.drop j): x∈l\/x=y:=by
 rcases ZD.1 h with h | h
 .exact .inl (Ya h)
 rcases ZO.1 h with h | h
 .exact .inr h
 .exact .inl (Z1 h)
theorem aBG{α:Type}{l:List α}{j:Int}{y:α}(a:0<=j)(h:j.toNat<=l.length)(b:l.length<=1000): aFR l j y=some (l.take j.toNat++y::l.drop j.toNat):=by
 unfold aFR;rw[Zu ⟨a,h,by omega⟩]
theorem aWE(s:aK)(d:FI s)(b:List Int)(g:bG): aB (λn _=>uK n (s.Plan.Faces,b,s.Plan.Nodes,s.Plan.Arcs,s.Features,g)) (Su (λv=>v.1.length<=257) (Su (λv=>(win v.2 (some v.1)).length<=257) λv=>v.1.length<=257)):=by
 have m:=d.v.leN;have ok:=d.ok;refine aX (aE (IW s g.ID (by omega)) λl c=>aC (λi=>?_) λi=>?_)
 .have a:=c.2.2 i;obtain⟨q,j⟩:∃q:Nat,l.1=(q:Int):=⟨l.1.toNat,by have:=c.1;omega⟩;rw[j] at a |-;have a:q<s.Plan.Nodes.length:=by simpa using a
  have e:=Za a;refine aC (λ_=>aA (show s.Plan.Nodes.length<=257 by omega)) λ_=>aC (λ_=>aF (by rw[hU a];exact e) (aF (by rw[bK];exact e) (aA ?_))) λ_=>?_
  .show (List.set _ _ _).length<=257;rw[Yq];omega
  .refine aE (f:=λn _=>Lm n (s.Plan.Faces,s.Plan.Nodes,s.Plan.Arcs,s.Features,g)) (Q:=λ_=>True) (aE (aAJ _ ok.p g.ID) λ_ _=>aC (λ_=>aA trivial) λ_=>aE (n7 s ok 1 g.ID) λ_ _=>aC (λ_=>aA trivial) λ_=>aA trivial) λ_ _=>aC (λ_=>aA (show s.Plan.Nodes.length<=257 by omega)) λ_=>?_;rw[bT (by omega)];refine aS (aOB s.Plan.Faces b s.Plan.Arcs s.Features s.Plan.Nodes (by omega) q a) (λ_ h=>h.elim) λv k=>aF rfl (aA ?_);subst k;show (win _ _).length<=257;simp[win];omega
 .refine aC (λ_=>aX (aF (aBG c.1 c.2.1 (by omega)) (aA ?_))) λ_=>aA (show s.Plan.Nodes.length<=257 by omega);show (List.take _ _++_::_).length<=257;simp;omega
end Go.Proofs.YtglfoebmkbglgaaGreatDoor.Av
