/- A part of the proof of a law on transactions. -/
import Derived.Test.YtglfoebmkbglgaaGreatDoorP9
set_option maxRecDepth 100000
set_option maxHeartbeats 4000000
set_option linter.all false
namespace Go.Proofs.YtglfoebmkbglgaaGreatDoor.Av
open Go
def aB{α:Type}(f:Nat->Nat->Option α)(P:α->Prop): Prop:=∃r,P r/\∃K,∀n m,K<=n->K<=m->f n m=some r
section
variable {α β γ:Type}{P:α->Prop}{Q:β->Prop}{R:γ->Prop}
theorem aA{x:α}(h:P x): aB (λ_ _=>some x) P:=⟨x,h,0,λ_ _ _ _=>rfl⟩
theorem aB.imp{P':α->Prop}{f:Nat->Nat->Option α}(h:aB f P)(k:∀r,P r->P' r): aB f P':=by
 obtain⟨r,hr,K,hK⟩:=h
 exact⟨r,k r hr,K,hK⟩
theorem aE{f:Nat->Nat->Option β}{g:Nat->Nat->β->Option α}(h:aB f Q)(k:∀r,Q r->aB (λn m=>g n m r) P): aB (λn m=>Av.bnd (f n m) (g n m)) P:=by
 obtain⟨r,hr,K,hK⟩:=h
 obtain⟨s,hs,J,hJ⟩:=k r hr
 refine⟨s,hs,max K J,λn m hn hm=>?_⟩
 have h1:=hK n m (by omega) (by omega)
 show Av.bnd (f n m) (g n m)=some s
 rw[h1]
 exact hJ n m (by omega) (by omega)
theorem aF{o:Option β}{g:Nat->Nat->β->Option α}{x:β}(e:o=some x)(k:aB (λn m=>g n m x) P): aB (λn m=>Av.bnd o (g n m)) P:=by
 subst e;exact k
def Su(Q:β->Prop)(R:γ->Prop): β⊕γ->Prop
 | .inl a=>Q a
 | .inr b=>R b
theorem aS{f:Nat->Nat->Option (β⊕γ)}{g:Nat->Nat->β->Option α}{k:Nat->Nat->γ->Option α}(h:aB f (Su Q R))(k1:∀a,Q a->aB (λn m=>g n m a) P)(k2:∀b,R b->aB (λn m=>k n m b) P): aB (λn m=>Av.bnd2 (f n m) (g n m) (k n m)) P:=by
 obtain⟨r,hr,K,hK⟩:=h
 cases r with
 | inl a=>
  obtain⟨s,hs,J,hJ⟩:=k1 a hr
  refine⟨s,hs,max K J,λn m hn hm=>?_⟩
  show Av.bnd2 (f n m) (g n m) (k n m)=some s
  rw[hK n m (by omega) (by omega)]
  exact hJ n m (by omega) (by omega)
 | inr a=>
  obtain⟨s,hs,J,hJ⟩:=k2 a hr
  refine⟨s,hs,max K J,λn m hn hm=>?_⟩
  show Av.bnd2 (f n m) (g n m) (k n m)=some s
  rw[hK n m (by omega) (by omega)]
  exact hJ n m (by omega) (by omega)
theorem aC{b:Bool}{x y:Nat->Nat->Option α}(h1:b=true->aB x P)(h2:b=false->aB y P): aB (λn m=>Av.cnd b (x n m) (y n m)) P:=by
 cases b with
 | true=>exact h1 rfl
 | false=>exact h2 rfl
theorem aY{g:Nat->Nat->Nat->Option α}(h:aB (λn m=>g (n+1) m n) P): aB (λn m=>Av.bnd (Av.prd n) (g n m)) P:=by
 obtain⟨r,hr,K,hK⟩:=h
 refine⟨r,hr,K+1,λn m hn hm=>?_⟩
 cases n with
 | zero=>omega
 | succ n=>exact hK n m (by omega) (by omega)
theorem aV{f:Nat->Option α}{g:Nat->Option α}(e:∀n,f (n+1)=g n)(h:aB (λn _=>g n) P): aB (λn _=>f n) P:=by
 obtain⟨r,hr,K,hK⟩:=h
 refine⟨r,hr,K+1,λn m hn hm=>?_⟩
 cases n with
 | zero=>omega
 | succ n=>show f (n+1)=some r;rw[e];exact hK n m (by omega) (by omega)
theorem aB.lp{f:Nat->Nat->Option α}{g:Nat->Nat->Option α}(e:∀n m,f n (m+1)=g n m)(h:aB g P): aB f P:=by
 obtain⟨r,hr,K,hK⟩:=h
 refine⟨r,hr,K+1,λn m hn hm=>?_⟩
 cases m with
 | zero=>omega
 | succ m=>rw[e];exact hK n m (by omega) (by omega)
theorem aX{f:Nat->Nat->Option α}(h:aB f P): aB (λn _=>f n n) P:=by
 obtain⟨r,hr,K,hK⟩:=h
 exact⟨r,hr,K,λn m hn hm=>hK n n hn hn⟩
theorem FD{f:Nat->Option α}(h:aB (λn _=>f n) P): aB (λn _=>f (n+1)) P:=by
 obtain⟨r,hr,K,hK⟩:=h
 exact⟨r,hr,K,λn m hn hm=>hK (n+1) m (by omega) hm⟩
theorem bC{l:List β}{i:Nat}{f:Nat->Nat->β->Option α}{e:Nat->Nat->Option α}(h1:∀x,l[i]?=some x->i<l.length->aB (λn m=>f n m x) P)(h2:l.length<=i->aB e P):
 aB (λn m=>Av.cnd (decide ((i:Int)<((l.length:Nat):Int))) (Av.bnd (idx l (i:Int)) (f n m)) (e n m)) P:=by
 refine aC (λh=>?_) (λh=>h2 ?_)
 .have hi:i<l.length:=by have:=Zh h;omega
  exact aF (x:=l[i]) (by rw[bM];exact Za hi) (h1 _ (Za hi) hi)
 .have:=Zk h;omega
theorem aB.uniq{f:Nat->Nat->Option α}{r:α}(h:aB f λx=>x=r)(k:aB f P): P r:=by
 obtain⟨_,rfl,K,hK⟩:=h
 obtain⟨s,hs,J,hJ⟩:=k
 have h1:=hK (max K J) (max K J) (by omega) (by omega)
 have h2:=hJ (max K J) (max K J) (by omega) (by omega)
 rw[h1] at h2;cases h2;exact hs
theorem aB.val{f:Nat->Nat->Option α}(k:aB f P): ∃r,P r/\aB f λx=>x=r:=by
 obtain⟨s,hs,J,hJ⟩:=k
 exact⟨s,hs,s,rfl,J,hJ⟩
theorem AL{l:List α}{x:α}(h:l.length<=100000): app l [x]=some (l++[x]):=Qy (by simp;omega)
end
def sV{Q V X:Type}(B:Nat->Q->(V->Option X)->((X->Option X)×Unit)->V->Option X)(n m:Nat)(p:Q)(q:V): Option X:=lpB (λk q=>B n p k (λt=>some t,()) q) m q
def nZ{Q V X Y:Type}(B:Nat->Q->(V->Option (X⊕Y))->((X->Option (X⊕Y))×(Y->Option (X⊕Y))×Unit)->V->Option (X⊕Y))(n m:Nat)(p:Q)(q:V): Option (X⊕Y):=lpB (λk q=>B n p k (λt=>some (.inl t),λt=>some (.inr t),()) q) m q
def lm3{Q V X Y Z:Type}(B:Nat->Q->(V->Option (X⊕Y⊕Z))->((X->Option (X⊕Y⊕Z))×(Y->Option (X⊕Y⊕Z))×(Z->Option (X⊕Y⊕Z))×Unit)->V->Option (X⊕Y⊕Z))(n m:Nat)(p:Q)(q:V): Option (X⊕Y⊕Z):=lpB (λk q=>B n p k (λt=>some (.inl t),λt=>some (.inr (.inl t)),λt=>some (.inr (.inr t)),()) q) m q
theorem cG{Q V X:Type}{P:X->Prop}{B:Nat->Q->(V->Option X)->((X->Option X)×Unit)->V->Option X}{p:Q}{q:V}(h:aB (λn m=>B n p (λq=>sV B n m p q) (λt=>some t,()) q) P): aB (λn m=>sV B n m p q) P:=aB.lp (λ_ _=>rfl) h
theorem bK{Q V X Y:Type}{P:X⊕Y->Prop}{B:Nat->Q->(V->Option (X⊕Y))->((X->Option (X⊕Y))×(Y->Option (X⊕Y))×Unit)->V->Option (X⊕Y)}{p:Q}{q:V}(h:aB (λn m=>B n p (λq=>nZ B n m p q) (λt=>some (.inl t),λt=>some (.inr t),()) q) P): aB (λn m=>nZ B n m p q) P:=aB.lp (λ_ _=>rfl) h
theorem aGk{Q V X Y Z:Type}{P:X⊕Y⊕Z->Prop}{B:Nat->Q->(V->Option (X⊕Y⊕Z))->((X->Option (X⊕Y⊕Z))×(Y->Option (X⊕Y⊕Z))×(Z->Option (X⊕Y⊕Z))×Unit)->V->Option (X⊕Y⊕Z)}{p:Q}{q:V}(h:aB (λn m=>B n p (λq=>lm3 B n m p q) (λt=>some (.inl t),λt=>some (.inr (.inl t)),λt=>some (.inr (.inr t)),()) q) P): aB (λn m=>lm3 B n m p q) P:=aB.lp (λ_ _=>rfl) h
abbrev Tt{α:Type}(f:Nat->Nat->Option α): Prop:=aB f λ_=>True
theorem i64_in(x:Int)(h:-9223372036854775808<=x/\x<=9223372036854775807): IntKind.i64.wrap x=x:=by rw[Xe];omega
theorem bU{i:Nat}(h:i<1000000): wr ((i:Int)+1)=((i+1:Nat):Int):=by rw[wr,i64_in _ (by omega)];push_cast;rfl
def vV{α:Type}(l:List α)(i:Nat)(Q:α->Prop): Prop:=∀(j:Nat) (x:α),j<i->l[j]?=some x->Q x
theorem vV.nil{α:Type}{l:List α}{Q:α->Prop}: vV l 0 Q:=λj x h _=>by omega
theorem vV.step{α:Type}{l:List α}{i:Nat}{Q:α->Prop}{x:α}(h:vV l i Q)(hx:l[i]?=some x)(hq:Q x): vV l (i+1) Q:=λj y hj hy=>by
 by_cases hji:j=i
 .subst hji;rw[hx] at hy;cases hy;exact hq
 .exact h j y (by omega) hy
theorem vV.fin{α:Type}{l:List α}{i:Nat}{Q:α->Prop}(h:vV l i Q)(hge:l.length<=i): ∀x∈l,Q x:=λx hx=>by
 obtain⟨j,hj⟩:=Yj.1 hx
 exact h j x (by have:=(Ze.1 hj).1;omega) hj
structure Sm(p:aM): Prop where
 n:p.Nodes.length<=300
 a:p.Arcs.length<=300
 f:p.Faces.length<=300
 v:∀a∈p.Arcs,a.Via.length<=300
theorem aDL(p:List Aac)(hp:p.length<=300)(i:Nat)(l:List Int)(hl:l=(p.take i).map Aac.ID): aB (λn m=>sV jK n m (p,ln p) (l,(i:Int))) (λr=>r=p.map Aac.ID):=
 cG (bC (λx hx hlt=>aF (AL (by rw[hl];simp;omega)) (by
  rw[bU (by omega)]
  exact aDL p hp (i+1) _ (by rw[hl,YZ,hx];simp)))
  (λhge=>aA (by rw[hl,ZY hge])))
termination_by p.length-i
theorem aDK(p:List aP)(hp:p.length<=300)(i:Nat)(l:List Int)(hl:l=(p.take i).map aP.ID): aB (λn m=>sV jJ n m (p,ln p) (l,(i:Int))) (λr=>r=p.map aP.ID):=
 cG (bC (λx hx hlt=>aF (AL (by rw[hl];simp;omega)) (by
  rw[bU (by omega)]
  exact aDK p hp (i+1) _ (by rw[hl,YZ,hx];simp)))
  (λhge=>aA (by rw[hl,ZY hge])))
termination_by p.length-i
theorem aT4(p:aM)(hp:Sm p): aB (λn _=>qT n p) (λr=>r=(p.Nodes.map Aac.ID,p.Arcs.map aP.ID)):=
 aV (λ_=>rfl) (aE (aX (aDL _ hp.n 0 [] rfl)) λv hv=>aE (aX (aDK _ hp.a 0 [] rfl)) λw hw=>aA (by rw[hv,hw]))
def Asc(l:List Int): Prop:=∀j x y,l[j]?=some x->l[j+1]?=some y->x<y
theorem J1(l:List Int)(hp:l.length<=1000)(i:Nat)(hi:1<=i)(hs:∀j x y,j+1<i->l[j]?=some x->l[j+1]?=some y->x<y): aB (λn m=>nZ lD n m l (i:Int)) (Su (λ_=>True) λ_=>Asc l):=
 bK (aC (λh=>by
  have hlt:i<l.length:=by have:(i:Int)<(l.length:Int):=Zh h;omega
  have e1:wr ((i:Int)-1)=((i-1:Nat):Int):=by rw[wr,i64_in _ (by omega)];omega
  rw[e1]
  refine aF (x:=l[i-1]) (by rw[bM];exact Za (by omega)) (aF (x:=l[i]) (by rw[bM];exact Za hlt) (aC (λ_=>aA trivial) (λh2=>?_)))
  rw[bU (by omega)]
  refine J1 l hp (i+1) (by omega) λj x y hj hx hy=>?_
  by_cases hji:j+1=i
  .subst hji
   rw[Za (by omega)] at hx hy
   cases hx;cases hy
   have:=Zk h2
   simp only[Nat.add_sub_cancel] at this;omega
  .exact hs j x y (by omega) hx hy)
  (λh=>aA λj x y hx hy=>by
   have:¬(i:Int)<(l.length:Int):=Zk h
   exact hs j x y (by have:=(Ze.1 hy).1;omega) hx hy))
termination_by l.length-i
theorem aMh(l:List Int)(hp:l.length<=1000): aB (λn _=>kN n l) (λr=>r=true->Asc l):=
 aV (λ_=>rfl) (aS (aX (J1 l hp 1 (by omega) (λj x y hj _ _=>by omega))) (λ_ _=>aA (by simp)) (λ_ h=>aA λ_=>h))
theorem aKM(x:Int): aB (λn _=>qS n x) (λr=>r=false->1<=x/\x<=1073741824):=
 aV (λ_=>rfl) (aC (λ_=>aA (by simp)) (λh1=>aC (λ_=>aA (by simp)) (λh2=>aA λ_=>by
  have:=Zk h1;have:=Zk h2;omega)))
theorem aDu(l:List Int)(hp:l.length<=1000)(i:Nat)(hs:vV l i λx=>1<=x/\x<=1073741824): aB (λn m=>nZ nB n m (l,ln l) (i:Int)) (Su (λv=>0<=v) λ_=>∀x∈l,1<=x/\x<=1073741824):=
 bK (bC (λx hx hlt=>aE (aKM x) λr hr=>aC (λ_=>aA (by show (0:Int)<=(i:Int);omega)) (λh=>by
  rw[bU (by omega)]
  exact aDu l hp (i+1) (hs.step hx (hr h))))
  (λhge=>aA (hs.fin hge)))
termination_by l.length-i
theorem aKN(l:List Int)(hp:l.length<=1000): aB (λn _=>mN n l) (λr=>r=true->∀x∈l,1<=x/\x<=1073741824):=
 aV (λ_=>rfl) (aE (Q:=λr=>r=false->∀x∈l,1<=x/\x<=1073741824) (aY (aE (Q:=λv=>0<=v\/∀x∈l,1<=x/\x<=1073741824) (aY (aS (aX (aDu l hp 0 .nil)) (λv hv=>aA (.inl hv)) (λ_ h=>aA (.inr h))))
  λv hv=>aC (λ_=>aA (by simp)) (λh=>aA λ_=>by have:=Zk h;rcases hv with hv | hv;omega;exact hv)))
  λr hr=>aC (λ_=>aA (by simp)) (λh=>aA λ_=>hr h))
def Ke(x:Aaa): Prop:=-1048576<=x.X/\x.X<=1048576/\-1048576<=x.Y/\x.Y<=1048576
theorem SG(x:Aaa): aB (λn _=>pC n x) (λr=>r=false->Ke x):=
 aC (λ_=>aA (by simp)) (λh1=>aC (λ_=>aA (by simp)) (λh2=>aC (λ_=>aA (by simp)) (λh3=>aC (λ_=>aA (by simp)) (λh4=>aA λ_=>by
 have:=Zk h1;have:=Zk h2;have:=Zk h3;have:=Zk h4
 exact⟨by omega,by omega,by omega,by omega⟩))))
theorem aMd{P:Bool->Prop}{b:Bool}(h:P b): aB (λ_ _=>cnd b (some true) (some false)) P:=by cases b<;>exact aA h
theorem aDn(x:Aaa): aB (λn _=>wX n x) (λr=>r=false->Ke x):=
 aV (λ_=>rfl) (aE (SG x) λr hr=>aMd hr)
theorem SJ(l:List Aac)(hp:l.length<=300)(i:Nat)(hs:vV l i λx=>Ke x.At): aB (λn m=>nZ qR n m (l,ln l) (i:Int)) (Su (λ_=>True) λ_=>∀x∈l,Ke x.At):=
 bK (bC (λx hx hlt=>aE (Q:=λr=>r=false->Ke x.At) (aY (aE (SG x.At) λr hr=>aMd hr)) λr hr=>aC (λ_=>aA trivial) (λh=>by
  rw[bU (by omega)]
  exact SJ l hp (i+1) (hs.step hx (hr h))))
  (λhge=>aA (hs.fin hge)))
termination_by l.length-i
theorem SH(l:List Aaa)(hp:l.length<=300)(i:Nat)(hs:vV l i Ke): aB (λn m=>nZ qP n m (l,ln l) (i:Int)) (Su (λv=>0<=v) λ_=>∀x∈l,Ke x):=
 bK (bC (λx hx hlt=>aE (aDn x) λr hr=>aC (λ_=>aA (by show (0:Int)<=(i:Int);omega)) (λh=>by
  rw[bU (by omega)]
  exact SH l hp (i+1) (hs.step hx (hr h))))
  (λhge=>aA (hs.fin hge)))
termination_by l.length-i
theorem SI(l:List aP)(hp:l.length<=300)(hv:∀a∈l,a.Via.length<=300)(i:Nat)(hs:vV l i λa=>∀y∈a.Via,Ke y): aB (λn m=>nZ qQ n m (l,ln l) (i:Int)) (Su (λ_=>True) λ_=>∀a∈l,∀y∈a.Via,Ke y):=
 bK (bC (λx hx hlt=>aE (Q:=λr=>r=false->∀y∈x.Via,Ke y) (aY (aE (Q:=λv=>0<=v\/∀y∈x.Via,Ke y) (aY (aS (aX (SH x.Via (hv x (Zf hx)) 0 .nil)) (λv hv=>aA (.inl hv)) (λ_ h=>aA (.inr h))))
  λv hv=>aC (λ_=>aA (by simp)) (λh=>aA λ_=>by have:=Zk h;rcases hv with hv | hv;omega;exact hv))) λr hr=>aC (λ_=>aA trivial) (λh=>by
  rw[bU (by omega)]
  exact SI l hp hv (i+1) (hs.step hx (hr h))))
  (λhge=>aA (hs.fin hge)))
termination_by l.length-i
theorem aK0(p:aM)(hp:Sm p): aB (λn _=>Oa n p) (λr=>r=true->(∀x∈p.Nodes,Ke x.At)/\∀a∈p.Arcs,∀y∈a.Via,Ke y):=
 aV (λ_=>rfl) (aS (aX (SJ _ hp.n 0 .nil)) (λ_ _=>aA (by simp)) (λ_ h1=>aS (aX (SI _ hp.a hp.v 0 .nil)) (λ_ _=>aA (by simp)) (λ_ h2=>aA λ_=>⟨h1,h2⟩)))
theorem M6(l:List Int)(x:Int)(hl:l.length<=100000)(i:Nat)(hs:vV l i (·≠x)): aB (λn m=>nZ jI n m (l,x,ln l) (i:Int)) (Su (λv=>0<=v/\v.toNat<l.length/\x∈l) λ_=>x∉l):=
 bK (bC (λy hy hlt=>aC (λh=>aA (by
  refine⟨by omega,by simpa using hlt,?_⟩
  rw[Wl h];exact Zf hy)) (λh=>by
  rw[bU (by omega)]
  exact M6 l x hl (i+1) (hs.step hy λe=>by subst e;simp at h)))
  (λhge=>aA λh=>hs.fin hge x h rfl))
termination_by l.length-i
theorem aId(l:List Int)(x:Int)(hl:l.length<=100000): aB (λn _=>kX n l x) (λr=>(0<=r/\r.toNat<l.length/\x∈l)\/(r=-1/\x∉l)):=
 aV (λ_=>rfl) (aS (aX (M6 l x hl 0 .nil)) (λv hv=>aA (.inl hv)) (λ_ h=>aA (.inr ⟨rfl,h⟩)))
theorem zO(l:List Int)(x:Int)(hl:l.length<=100000): aB (λn _=>dS n l x) (λr=>r=decide (x∈l)):=
 aV (λ_=>rfl) (aE (aId l x hl) λr hr=>aC (λh=>aA (by
  rcases hr with hr | hr
  .simp[hr.2.2]
  .have:=Zh h;omega)) (λh=>aA (by
  rcases hr with hr | hr
  .have:=Zk h;omega
  .simp[hr.2])))
theorem aLT{α:Type}{l:List α}{a b:Nat}(h1:a<=b)(h2:b<=l.length): cut l (a:Int) (b:Int)=some ((l.take b).drop a):=by
 unfold cut
 rw[Zu (by omega)]
 simp
theorem aA1(x:Aac)(l:List Aac)(b:l.length<=300)(i:Nat): aB (λn m=>nZ lQ n m (x,l,ln l) (i:Int)) (Su (λ_=>True) λ_=>True):=
 bK (bC (λy c a=>aC (λ_=>aA trivial) (λ_=>by
  rw[bU (by omega)];exact aA1 x l b (i+1))) (λ_=>aA trivial))
termination_by l.length-i
theorem aA2(p:aM)(b:Sm p)(i:Nat): aB (λn m=>nZ lR n m (p,p.Nodes,ln p.Nodes) (i:Int)) (Su (λ_=>True) λ_=>True):=
 bK (bC (λy d c=>aF (aLT (a:=0) (ZE i) (by omega)) (aS (aX (aA1 y _ (by simp;have:=b.n;omega) 0)) (λ_ _=>aA trivial) (λ_ _=>by
  have:=b.n;rw[bU (by omega)];exact aA2 p b (i+1)))) (λ_=>aA trivial))
termination_by p.Nodes.length-i
theorem aJc(x:aP)(a:List Int)(d:a.length<=100000): aB (λn _=>Ay n (x,a)) (λr=>r=false->x.From∈a/\x.To∈a):=
 aE (zO a x.From d) λr b=>aC (λe=>aE (zO a x.To d) λs c=>aC (λf=>aA λ_=>by rw[e] at b;rw[f] at c;exact⟨Zh b.symm,Zh c.symm⟩) (λ_=>aA (by simp))) (λ_=>aA (by simp))
theorem aA0(a:List Int)(c:a.length<=100000)(l:List aP)(g:l.length<=300)(i:Nat)(d:vV l i λx=>x.From∈a/\x.To∈a): aB (λn m=>nZ lP n m (a,l,ln l) (i:Int)) (Su (λ_=>True) λ_=>∀x∈l,x.From∈a/\x.To∈a):=
 bK (bC (λy f e=>aE (aJc y a c) λr j=>aC (λ_=>aA trivial) (λh=>by
  rw[bU (by omega)];exact aA0 a c l g (i+1) (d.step f (j h)))) (λb=>aA (d.fin b)))
termination_by l.length-i
theorem aAy(p:aM)(b:Sm p)(x:Int): aB (λn _=>pD n (p,x)) (λr=>r=false->x=0\/x∈p.Faces):=
 aC (λh=>aE (zO p.Faces x (by have:=b.f;omega)) λr a=>aC (λh=>aA λ_=>by rw[h] at a;exact .inr (Zh a.symm)) (λ_=>aA (by simp))) (λh=>aA λ_=>.inl (by simpa using h))
theorem L0{α:Type}{P:α->Prop}{k:Nat}{g:Nat->Nat->Unit->Option α}(h:aB (λn m=>g n m ()) P): aB (λn m=>Av.bnd (Ky (Nat.ble k n)) (g n m)) P:=by
 obtain⟨r,a,K,b⟩:=h;refine⟨r,a,K+k,λn m c d=>?_⟩;have:Ky (Nat.ble k n)=some ():=by rw[Yw (by omega:k<=n)];rfl
 show Av.bnd (Ky (Nat.ble k n)) (g n m)=some r;rw[this];exact b n m (by omega) (by omega)
theorem aAz(p:aM)(c:Sm p)(l:List aP)(f:l.length<=300)(i:Nat)(d:vV l i λx=>(x.Left=0\/x.Left∈p.Faces)/\(x.Right=0\/x.Right∈p.Faces)): aB (λn m=>nZ lO n m (p,l,ln l) (i:Int)) (Su (λ_=>True) λ_=>∀x∈l,(x.Left=0\/x.Left∈p.Faces)/\(x.Right=0\/x.Right∈p.Faces)):=
 bK (bC (λy k e=>L0 (aE (aAy p c y.Left) λr j=>aC (λ_=>aA trivial) (λh=>aE (aAy p c y.Right) λs b=>aC (λ_=>aA trivial) (λg=>by
  rw[bU (by omega)];exact aAz p c l f (i+1) (d.step k ⟨j h,b g⟩))))) (λa=>aA (d.fin a)))
termination_by l.length-i
theorem aR3(p:aM)(c:Sm p)(b:List Int)(d:b.length<=100000): aB (λn _=>xA n p b) (λr=>r=0->(∀x∈p.Arcs,x.From∈b/\x.To∈b)/\∀x∈p.Arcs,(x.Left=0\/x.Left∈p.Faces)/\(x.Right=0\/x.Right∈p.Faces)):=
 aV (λ_=>rfl) (aS (aX (aA2 p c 0)) (λ_ _=>aA (by simp)) (λ_ _=>aS (aX (aA0 b d _ c.a 0 .nil)) (λ_ _=>aA (by simp)) (λ_ e=>aS (aX (aAz p c _ c.a 0 .nil)) (λ_ _=>aA (by simp)) (λ_ f=>aA λ_=>⟨e,f⟩))))
class TC{α:Type}(f:Nat->Option α): Prop where
 h:aB (λn _=>f n) λ_=>True
theorem bI{α β:Type}{P:α->Prop}{f:Nat->Option β}[t:TC f]{g:Nat->Nat->β->Option α}(k:∀r,aB (λn m=>g n m r) P): aB (λn m=>Av.bnd (f n) (g n m)) P:=aE t.h λr _=>k r
theorem dY{α:Type}{x:α}: aB (λ_ _=>some x) λ_=>True:=aA trivial
def aDv(x:Aaa): Prop:=-2097152<=x.X/\x.X<=2097152/\-2097152<=x.Y/\x.Y<=2097152
theorem aID(x:Aaa): aB (λn _=>JG n x) (λr=>r=true->¬aDv x):=by
 refine aC (λh=>aA λ_ a=>?_) (λe=>aC (λh=>aA λ_ a=>?_) (λc=>aC (λh=>aA λ_ a=>?_) (λd=>aC (λh=>aA λ_ a=>?_) (λb=>aA (by simp)))));all_goals (have:=Zh h;unfold aDv at a;omega)
theorem aAf(l:List Aaa)(e:l.length<=1000)(i:Nat): aB (λn m=>nZ xP n m (l,ln l) (i:Int)) (Su (λ_=>¬∀x∈l,aDv x) λ_=>True):=
 bK (bC (λy d a=>aE (aID y) λr c=>aC (λh=>aA λb=>c h (b y (Zf d))) (λh=>by
  rw[bU (by omega)];exact aAf l e (i+1)))
  (λf=>aA trivial))
termination_by l.length-i
theorem aFA(l:List Aaa)(b:l.length<=1000): aB (λn _=>oC n l) (λr=>(∀x∈l,aDv x)->r=true):=
 aV (λ_=>rfl) (aS (aX (aAf l b 0)) (λ_ h=>aA λa=>absurd a h) (λ_ _=>aA λ_=>rfl))
instance aVD{a b c:Aaa}: TC (λn=>oC n [a,b,c]):=⟨(aFA _ (by simp)).imp λ_ _=>trivial⟩
instance aVC{a b c d:Aaa}: TC (λn=>oC n [a,b,c,d]):=⟨(aFA _ (by simp)).imp λ_ _=>trivial⟩
def twV(a b c:Aaa): Int:=wr ((wr ((wr (b.X-a.X))*(wr (c.Y-a.Y))))-(wr ((wr (b.Y-a.Y))*(wr (c.X-a.X)))))
theorem aG1(a b c:Aaa): aB (λn _=>gN n a b c) (λr=>r=twV a b c):=aV (λ_=>rfl) (aA rfl)
instance aUM{a b c:Aaa}: TC (λn=>gN n a b c):=⟨(aG1 a b c).imp λ_ _=>trivial⟩
section
variable {a b c d:Aaa}
instance aYo: TC (λn=>D8 n (a,b,c)):=⟨by repeat' first | exact aA trivial | refine aC (λ_=>?_) (λ_=>?_) | refine bI λ_=>?_⟩
instance aYn: TC (λn=>D7 n (a,b,c)):=⟨by repeat' first | exact aA trivial | refine aC (λ_=>?_) (λ_=>?_) | refine bI λ_=>?_⟩
instance aYm: TC (λn=>sH n a b c):=⟨aV (λ_=>rfl) (by repeat' first | exact aA trivial | refine aC (λ_=>?_) (λ_=>?_) | refine bI λ_=>?_)⟩
instance aUW: TC (λn=>BV n a b c):=⟨aV (λ_=>rfl) (by repeat' first | exact aA trivial | refine aC (λ_=>?_) (λ_=>?_) | refine bI λ_=>?_)⟩
instance aWh: TC (λn=>jE n a b c):=⟨aV (λ_=>rfl) (by repeat' first | exact aA trivial | refine aC (λ_=>?_) (λ_=>?_) | refine bI λ_=>?_)⟩
instance aWL: TC (λn=>Pf n (a,b)):=⟨by repeat' first | exact aA trivial | refine aC (λ_=>?_) (λ_=>?_) | refine bI λ_=>?_⟩
instance aTX: TC (λn=>oD n a b):=⟨aV (λ_=>rfl) (by repeat' first | exact aA trivial | refine aC (λ_=>?_) (λ_=>?_) | refine bI λ_=>?_)⟩
instance aX2: TC (λn=>xO n (a,b)):=⟨by repeat' first | exact aA trivial | refine aC (λ_=>?_) (λ_=>?_) | refine bI λ_=>?_⟩
instance aX1: TC (λn=>Pc n (a,b)):=⟨by repeat' first | exact aA trivial | refine aC (λ_=>?_) (λ_=>?_) | refine bI λ_=>?_⟩
instance aX0: TC (λn=>Pb n (a,b)):=⟨by repeat' first | exact aA trivial | refine aC (λ_=>?_) (λ_=>?_) | refine bI λ_=>?_⟩
instance aSD: TC (λn=>Pd n a b c d):=⟨aV (λ_=>rfl) (by repeat' first | exact aA trivial | refine aC (λ_=>?_) (λ_=>?_) | refine bI λ_=>?_)⟩
instance aXL: TC (λn=>JK n (a,b,c,d)):=⟨by repeat' first | exact aA trivial | refine aC (λ_=>?_) (λ_=>?_) | refine bI λ_=>?_⟩
instance aXK: TC (λn=>JJ n (a,b,c,d)):=⟨by repeat' first | exact aA trivial | refine aC (λ_=>?_) (λ_=>?_) | refine bI λ_=>?_⟩
instance aWj: TC (λn=>Sa n a b c d):=⟨aV (λ_=>rfl) (by repeat' first | exact aA trivial | refine aC (λ_=>?_) (λ_=>?_) | refine bI λ_=>?_)⟩
instance aUT{s:bA}: TC (λn=>iQ n s):=⟨aV (λ_=>rfl) (by repeat' first | exact aA trivial | refine aC (λ_=>?_) (λ_=>?_))⟩
instance aVK{s:bA}: TC (λn=>gE n s):=⟨aV (λ_=>rfl) (by repeat' first | exact aA trivial | refine aC (λ_=>?_) (λ_=>?_))⟩
instance aYi{s t:bA}: TC (λn=>nD n (s,t)):=⟨by repeat' first | exact aA trivial | refine aC (λ_=>?_) (λ_=>?_) | refine bI λ_=>?_⟩
instance aYh{s t:bA}: TC (λn=>nC n (s,t)):=⟨by repeat' first | exact aA trivial | refine aC (λ_=>?_) (λ_=>?_) | refine bI λ_=>?_⟩
instance aYg{t:bA}{x y z:Int}: TC (λn=>fS n (t,a,b,c,d,x,y,z)):=⟨by repeat' first | exact aA trivial | refine aC (λ_=>?_) (λ_=>?_) | refine bI λ_=>?_⟩
end
theorem aBS{α:Type}{Q:Nat->α->Prop}: ∀(l:List α),(∀x∈l,∃K,∀n,K<=n->Q n x)->∃K,∀n,K<=n->∀x∈l,Q n x
 | [],_=>⟨0,λ_ _ _ h=>by cases h⟩
 | a::l,h=>by
  obtain⟨K,d⟩:=h a (ZN ..);obtain⟨J,c⟩:=aBS l λx b=>h x (ZS _ b);refine⟨max K J,λn f x b=>?_⟩;rcases ZO.1 b with rfl | b
  .exact d n (by omega)
  .exact c n (by omega) x b
theorem J6{α β:Type}{f:α->Option β}{g:α->β}: ∀(l:List α),(∀x∈l,f x=some (g x))->Vr (l.map f)=some (l.map g)
 | [],_=>rfl
 | a::l,h=>by
  simp only[ZG,Vr,h a (ZN ..),J6 l λx b=>h x (ZS _ b)]
structure Swo{α:Type}(g:α->α->Int)(l:List α): Prop where
 ir:∀x∈l,¬g x x<0
 tr:∀x∈l,∀y∈l,∀z∈l,g x y<0->g y z<0->g x z<0
 ti:∀x∈l,∀y∈l,∀z∈l,¬g x y<0->¬g y z<0->¬g x z<0
theorem aOD{α:Type}{g:α->α->Int}{l:List α}{i j:Nat}{x y:α}(b:l[i]?=some x)(a:l[j]?=some y): at2 (l.map λx=>l.map (g x)) i j=g x y:=by
 simp[at2,Zl,b,a]
theorem Swo.tab{α:Type}{g:α->α->Int}{l:List α}(h:Swo g l): O4 l.length (l.map λx=>l.map (g x))=true:=by
 unfold O4;simp only[Yg,Wu,Zd,YG];have e:∀i j (b:i<l.length) (c:j<l.length),ltT (l.map λx=>l.map (g x)) i j=decide (g l[i] l[j]<0):=λi j b c=>by
  unfold ltT;rw[aOD (Za b) (Za c)]
 intro i b;refine⟨by rw[e i i b b];exact YI (h.ir _ (ZR b)),λj c k m=>?_⟩;rw[e i j b c,e j k c m,e i k b m];have n:=ZR b;have o:=ZR c;have mk:=ZR m;have q:=h.tr _ n _ o _ mk;have p:=h.ti _ n _ o _ mk;by_cases f:g l[i] l[j]<0
 .rw[Yk f];show (!decide (g l[j] l[k]<0)||decide (g l[i] l[k]<0))=true;by_cases d:g l[j] l[k]<0
  .rw[Yk (q f d)];simp
  .rw[YI d];rfl
 .rw[YI f];show (decide (g l[j] l[k]<0)||!decide (g l[i] l[k]<0))=true;by_cases d:g l[j] l[k]<0
  .rw[Yk d];rfl
  .rw[YI (p f d)];simp
theorem b9{α:Type}{F:Nat->α->α->Option Int}{g:α->α->Int}{l:List α}(q:∀x∈l,∀y∈l,aB (λn _=>F n x y) λr=>r=g x y)(o:Swo g l): aB (λn _=>oN (λx y=>F n x y) l) λr=>r.length=l.length/\∀x∈r,x∈l:=by
 obtain⟨K,e⟩:=aBS (Q:=λn x=>∀y∈l,F n x y=some (g x y)) l λx b=>aBS (Q:=λn y=>F n x y=some (g x y)) l λy h=>by
  obtain⟨r,rfl,K,e⟩:=q x b y h;exact⟨K,λn c=>e n n c c⟩
 cases l with
 | nil=>exact⟨[],⟨rfl,λx b=>b⟩,0,λ_ _ _ _=>rfl⟩
 | cons a l=>
  have k:∀n,K<=n->HC (λx y=>F n x y) (a::l)=some ((a::l).map λx=>(a::l).map (g x)):=λn c=>
   J6 (f:=λx=>Vr ((a::l).map λy=>F n x y)) (g:=λx=>(a::l).map (g x)) (a::l) λx b=>J6 (a::l) λy h=>e n c x b y h
  have j:=o.tab;refine⟨(ixG l.length ((a::l).map λx=>(a::l).map (g x))).map (Ew a (a::l)),⟨?_,?_⟩,K,λn m c s=>?_⟩
  .rw[ZQ,aB7 (by simpa using j)];rfl
  .intro x b;obtain⟨i,p,rfl⟩:=Yi.1 b;have:=aFF p;unfold Ew;rw[Za (by simpa using this)];exact ZR _
  .have d:O4 (l.length+1) ((a::l).map λx=>(a::l).map (g x))=true:=by simpa using j
   simp only[oN,k n c,d]
def WN(a b:Int): Int:=if a<b then -1 else if a > b then 1 else 0
theorem jH(a b:Int): aB (λn _=>cJ n a b) λr=>r=WN a b:=by
 have d:∀a:Int,aB (λn _=>fJ n a) λr=>r=false:=λa=>aV (λ_=>rfl) (aC (λh=>by simp at h) (λ_=>aA rfl));refine aV (λ_=>rfl) (aE (d a) λr c=>aC (λh=>by rw[c] at h;cases h) (λ_=>aE (d b) λr c=>aC (λh=>by rw[c] at h;cases h) (λ_=>aC (λh=>aA ?_) (λe=>aC (λh=>aA ?_) (λf=>aA ?_)))))
 .unfold WN;rw[Zu (Zh h)]
 .unfold WN;rw[ZH (Zk e),Zu (Zh h)]
 .unfold WN;rw[ZH (Zk e),ZH (Zk f)]
theorem I0{a b:Int}: WN a b<0↔a<b:=by unfold WN;split<;>(try split)<;>omega
theorem aJI{α:Type}(k:α->Int)(l:List α): Swo (λx y=>WN (k x) (k y)) l where
 ir x _:=by rw[I0];omega
 tr x _ y _ z _:=by simp only[I0];omega
 ti x _ y _ z _:=by simp only[I0];omega
theorem Qz{α:Type}{l:List α}{x:α}(h:l.length<=900000): app l [x]=some (l++[x]):=Qy (by simp;omega)
theorem aFI{α:Type}{l:List α}{i:Nat}{x:α}{q:α->Bool}(a:l[i]?=some x)(h:q x=true): (l.drop i).find? q=some x:=by
 obtain⟨b,rfl⟩:=Ze.1 a;rw[XM b,List.find?_cons,h]
theorem aFJ{α:Type}{l:List α}{i:Nat}{x:α}{q:α->Bool}(a:l[i]?=some x)(h:q x=false): (l.drop i).find? q=(l.drop (i+1)).find? q:=by
 obtain⟨b,rfl⟩:=Ze.1 a;rw[XM b,List.find?_cons,h]
theorem aFK{α:Type}{l:List α}{i:Nat}{q:α->Bool}(h:l.length<=i): (l.drop i).find? q=none:=by
 rw[Xt h];rfl
def kQ(p:aM)(id:Int): Aac×Bool:=match p.Nodes.find? λx=>x.ID==id with
 | some x=>(x,true)
 | none=>(⟨0,⟨0,0⟩⟩,false)
def RF(p:aM)(id:Int): aP×Bool:=match p.Arcs.find? λx=>x.ID==id with
 | some x=>(x,true)
 | none=>(⟨0,0,0,[],0,0⟩,false)
theorem aAB(l:List Aac)(d:l.length<=300)(id:Int)(i:Nat): aB (λn m=>nZ xC n m (id,l,ln l) (i:Int)) (Su (λv=>∃x,(l.drop i).find? (λx=>x.ID==id)=some x/\v=(x,x)) λ_=>(l.drop i).find? (λx=>x.ID==id)=none):=
 bK (bC (λx b c=>aC (λh=>aA ⟨x,aFI (q:=λx=>x.ID==id) b h,rfl⟩) (λh=>by
  rw[bU (by omega),aFJ (q:=λx=>x.ID==id) b h];exact aAB l d id (i+1)))
  (λa=>aA (aFK a)))
termination_by l.length-i
theorem RQ(p:aM)(c:Sm p)(id:Int): aB (λn _=>jC n p id) λr=>r=kQ p id:=
 aV (λ_=>rfl) (aS (aX (aAB _ c.n id 0)) (λv b=>aA (by
  obtain⟨x,a,rfl⟩:=b;rw[YC] at a;unfold kQ;rw[a])) (λ_ h=>aA (by
  rw[YC] at h;unfold kQ;rw[h])))
theorem aEu{α:Type}(l:List α)(h:l.length<=1000000): aB (λn _=>clF n l) λr=>r=l:=
 aV (g:=λ_=>app [] l) (λ_=>rfl) ⟨l,rfl,0,λ_ _ _ _=>by rw[Qy (by simpa using h)];rfl⟩
theorem aEP(l:List aP)(g:l.length<=300)(d:∀a∈l,a.Via.length<=300)(id:Int)(i:Nat): aB (λn m=>nZ Dr n m (id,l,ln l) (i:Int)) (Su (λv=>∃x,(l.drop i).find? (λx=>x.ID==id)=some x/\v=(x.ID,x.From,x.To,x.Via,x.Left,x.Right,x.ID,x.From,x.To,x.Via,x.Left,x.Right)) λ_=>(l.drop i).find? (λx=>x.ID==id)=none):=
 bK (bC (λx c e=>aC (λh=>aE (aEu x.Via (by have:=d x (Zf c);omega)) λr f=>aA ⟨x,aFI (q:=λx=>x.ID==id) c h,by rw[f]⟩) (λh=>by
  rw[bU (by omega),aFJ (q:=λx=>x.ID==id) c h];exact aEP l g d id (i+1)))
  (λb=>aA (aFK b)))
termination_by l.length-i
theorem aM6(p:aM)(c:Sm p)(id:Int): aB (λn _=>Og n p id) λr=>r=RF p id:=
 aV (λ_=>rfl) (aS (aX (aEP _ c.a c.v id 0)) (λv d=>aA (by
  obtain⟨x,b,rfl⟩:=d;rw[YC] at b;unfold RF;rw[b])) (λ_ h=>aA (by
  rw[YC] at h;unfold RF;rw[h])))
theorem wB{α:Type}{a:List (List α)}{i:Nat}{x:List α}(b:a[i]?=some x): (a.drop i).flatten=x++(a.drop (i+1)).flatten:=by
 obtain⟨c,rfl⟩:=Ze.1 b;rw[XM c,Ys]
theorem aIo{α:Type}{a:List (List α)}{i:Nat}{x:List α}(b:a[i]?=some x): (a.take (i+1)).flatten=(a.take i).flatten++x:=by
 rw[YZ,b];simp
theorem aHU(c:List (List Aaa))(g:c.length<=1000)(i a:Nat)(f:a+(c.drop i).flatten.length<=100000): aB (λn m=>sV gK n m (c,ln c) ((a:Int),(i:Int))) λr=>r=((a+(c.drop i).flatten.length:Nat):Int):=
 cG (bC (λx k o=>by
  have e:=wB k;rw[e,Zi] at f;have l:wr ((a:Int)+ln x)=((a+x.length:Nat):Int):=by rw[wr,ln,i64_in _ (by omega)];push_cast;rfl
  rw[l,bU (by omega)];refine aC (λh=>?_) (λ_=>?_)
  .have:=Zh h;omega
  .refine (aHU c g (i+1) (a+x.length) (by omega)).imp λr j=>?_;rw[j,e,Zi,Yt])
  (λd=>aA (by rw[Xt d];rfl)))
termination_by c.length-i
theorem aHT(a:List (List Aaa))(o:a.length<=1000)(N:Nat)(g:N<=100000)(i:Nat)(l:List Aaa)(k:Nat)(q:l.length=N)(d:l.take k=(a.take i).flatten)(j:k=(a.take i).flatten.length)(h:k+(a.drop i).flatten.length=N): aB (λn m=>sV gJ n m (a,ln a) (l,(0,k),(i:Int))) λr=>win r.1 (some r.2)=a.flatten:=
 cG (bC (λx f p=>by
  have e:=wB f;rw[e,Zi] at h;rw[bU (by omega)];have c:=aIo f;refine aF (x:=aU l k x) (by unfold XZ;rw[Zu (by simp only[Z0];omega),Z0]) (aHT a o N g (i+1) _ (k+x.length) (by simp[aU];omega) ?_ (by rw[c,Zi,j]) (by omega));unfold aU;rw[c,<-d,<-Ye,Yh (by simp;omega),ZY (by simp;omega)])
  (λb=>aA (by
   show (l.drop 0).take k=a.flatten;rw[YC,d,ZY b])))
termination_by a.length-i
theorem aMu(a:List (List Aaa))(c:a.length<=1000)(g:0<a.flatten.length)(d:a.flatten.length<=100000): aB (λn _=>lJ n a) λr=>r=a.flatten:=by
 refine aV (λ_=>rfl) (aE (aX (aHU a c 0 0 (by simpa using d))) λv e=>?_);have f:v=((a.flatten.length:Nat):Int):=by rw[e];simp
 have e2:wr (v-0)=((a.flatten.length:Nat):Int):=by rw[f,wr,i64_in _ (by omega)];omega
 refine aS (Q:=λ_=>False) (R:=λr=>r=(List.replicate a.flatten.length ⟨0,0⟩,(0,0))) (aY (aC (λh=>by have:=Zh h;omega) (λ_=>aC (λ_=>?_) (λh=>by rw[e2] at h;have:=Zk h;omega)))) (λ_ h=>h.elim) (λr b=>?_)
 .refine aF (x:=List.replicate a.flatten.length ⟨0,0⟩) (by rw[e2];unfold rep;rw[Zu (by omega)];simp) (aC (λh=>?_) (λ_=>aF (x:=(0,0)) (by unfold sub;rw[Zu (by simp)];rfl) (aA rfl)));rw[Vf] at h;have:=congrArg List.length h;rw[YM,Z4] at this;omega
 .subst b;exact aF rfl (aE (aX (aHT a c a.flatten.length d 0 _ 0 (by simp) (by simp) (by simp) (by simp))) λr b=>aA b)
def dU(p:aM)(id:Int): List Aaa×Int:=match (RF p id).2&&(kQ p (RF p id).1.From).2&&(kQ p (RF p id).1.To).2 with
 | true=>([(kQ p (RF p id).1.From).1.At]++(RF p id).1.Via++[(kQ p (RF p id).1.To).1.At],0)
 | false=>([],7)
theorem aEz(p:aM)(a:Sm p)(id:Int): (RF p id).1.Via.length<=300:=by
 unfold RF;split
 .rename_i x h;exact a.v x (Xf h)
 .simp
theorem aCx(p:aM)(a:Sm p)(id:Int): aB (λn _=>vZ n p id) λr=>r=dU p id:=by
 have k:=aEz p a id;refine aV (λ_=>rfl) (aE (aM6 p a id) λl j=>?_);subst j;refine aC (λc=>aE (RQ p a _) λg f=>?_) (λc=>aE (RQ p a _) λg f=>?_);all_goals subst f;all_goals refine aC (λb=>aE (RQ p a _) λi e=>?_) (λb=>aE (RQ p a _) λi e=>?_);all_goals subst e;all_goals refine aC (λd=>aE (Q:=λ_=>True) (aA trivial) λ_ _=>?_) (λd=>aE (Q:=λ_=>True) (aA trivial) λ_ _=>?_)
 .refine aE (aMu _ (by simp) (by simp) (by simp;omega)) λr h=>aA ?_;unfold dU;rw[c,b,d,h];simp
 all_goals (refine aA ?_;unfold dU;rw[c,b,d];rfl)
theorem Jg(p:aM)(a:Sm p)(id:Int): (dU p id).1.length<=302:=by
 have b:=aEz p a id;unfold dU;split
 .simp;omega
 .simp
theorem xE{p:aM}{id:Int}(h:(dU p id).2=0): 2<=(dU p id).1.length:=by
 unfold dU at h |-;split
 .simp
 .rename_i a;rw[a] at h;cases h
def aJs(l:List Aaa): Prop:=∀(j:Nat) (x y:Aaa),l[j]?=some x->l[j+1]?=some y->x≠y
structure vJ(s:bA): Prop where
 h0:0<=s.at_
 h1:s.at_.toNat+1<s.line.path.length
 h2:s.line.path.length<=302
theorem aKe(x:aP)(l:List Aaa)(v:Int): aB (λn _=>Ey n (x,l,v)) λr=>r=false->v=0:=by
 refine aC (λ_=>aA (by simp)) (λh=>aC (λ_=>aC (λ_=>aA (by simp)) (λ_=>aA λ_=>?_)) (λ_=>aA λ_=>?_));all_goals simpa using h
theorem aCP(v:List Aaa)(g:aAD)(p:g.path=v)(C:2<=v.length)(t:v.length<=302)(i:Nat)(l:List bA)(B:Nat)(A:l.length<=B+i/\B<=100000)(F:i+1<=v.length)(u:∀s∈l,vJ s)(q:∀(j:Nat) (x y:Aaa),j<i->v[j]?=some x->v[j+1]?=some y->x≠y):
 aB (λn m=>nZ mZ n m (v,g,wr (ln v-1)) (l,(i:Int))) (Su (λ_=>True) λr=>r.length<=B+302/\(∀s∈r,vJ s)/\aJs v):=by
 have z:wr (ln v-1)=((v.length-1:Nat):Int):=by rw[wr,ln,i64_in _ (by omega)];omega
 refine bK (aC (λh=>?_) (λh=>aA ⟨by omega,u,λj x y E w=>q j x y ?_ E w⟩))
 .have D:i<v.length-1:=by rw[z] at h;have:=Zh h;omega
  rw[bU (by omega)];refine aF (x:=v[i]) (by rw[bM];exact Za (by omega)) (aF (x:=v[i+1]) (by rw[bM];exact Za (by omega)) (aC (λ_=>aA trivial) (λf=>aF (Qz (by omega)) ?_)));refine aCP v g p C t (i+1) _ B ⟨by simp;omega,A.2⟩ (by omega) ?_ ?_
  .intro s o;rcases ZD.1 o with h | h
   .exact u s h
   .rw[ZK.1 h];exact⟨by show (0:Int)<=(i:Int);omega,by show (i:Int).toNat+1<g.path.length;rw[p];omega,by show g.path.length<=302;rw[p];exact t⟩
  .intro j a b G e d;by_cases k:j=i
   .subst k;rw[Za (by omega)] at e d;cases e;cases d;exact Zk f
   .exact q j a b (by omega) e d
 .rw[z] at h;have:=Zk h;have:=(Ze.1 w).1;omega
termination_by v.length-i
theorem aCQ(p:aM)(d:Sm p)(i:Nat)(u:i<=p.Arcs.length)(l:List bA)(A:l.length<=302*i)(g:∀s∈l,vJ s)(k:vV p.Arcs i λa=>(dU p a.ID).2=0/\aJs (dU p a.ID).1):
 aB (λn m=>lm3 nA n m (p,p.Arcs,ln p.Arcs) (l,(i:Int))) (Su (λ_=>True) (Su (λ_=>True) λr=>r.length<=100000/\(∀s∈r,vJ s)/\∀a∈p.Arcs,(dU p a.ID).2=0/\aJs (dU p a.ID).1)):=by
 have z:=d.a;refine aGk (bC (λx o q=>aE (aCx p d x.ID) λv c=>aE (aKe _ v.1 v.2) λr t=>aC (λ_=>aA trivial) (λh=>?_)) (λf=>aA ⟨?_,g,k.fin f⟩))
 .have b:=t h;rw[bU (by omega)];refine aS (aX (aCP v.1 ⟨x,v.1⟩ rfl (by rw[c] at b |-;exact xE b) (by rw[c];exact Jg p d x.ID) 0 l (302*i) ⟨by omega,by omega⟩ (by rw[c] at b |-;have:=xE b;omega) g (λj x y h=>by omega))) (λ_ _=>aA trivial) (λw e=>?_);exact aCQ p d (i+1) (by omega) w (by have:=e.1;omega) e.2.1 (k.step o ⟨by rw[c] at b;exact b,by have:=e.2.2;rw[c] at this;exact this⟩)
 .omega
termination_by p.Arcs.length-i
theorem aQg(p:aM)(c:Sm p): aB (λn _=>Dp n p) λr=>(r.2=true->r.1.length<=100000/\(∀s∈r.1,vJ s)/\∀a∈p.Arcs,(dU p a.ID).2=0/\aJs (dU p a.ID).1):=
 aV (λ_=>rfl) (aS (aX (aCQ p c 0 (by omega) [] (by simp) (by simp) vV.nil)) (λ_ _=>aF rfl (aA (by simp))) (λw b=>aS (aA b) (λ_ _=>aF rfl (aA (by simp))) (λv d=>aF rfl (aA λ_=>d))))
theorem xJ{α:Type}{l:List α}{i:Int}(a:0<=i)(h:i.toNat<l.length): idx l i=some l[i.toNat]:=by
 unfold idx;rw[Zu a];exact Za h
def F7(s:bA): Aaa×Aaa:=(s.line.path.getD s.at_.toNat ⟨0,0⟩,s.line.path.getD (s.at_.toNat+1) ⟨0,0⟩)
theorem F6(s:bA)(a:vJ s): aB (λn _=>dI n s) λr=>r=F7 s:=by
 have e:=a.h0;have c:=a.h1;have g:=a.h2;have b:wr (s.at_+1)=s.at_+1:=i64_in _ (by omega);have e2:(s.at_+1).toNat=s.at_.toNat+1:=by omega
 have d:idx s.line.path s.at_=some (s.line.path.getD s.at_.toNat ⟨0,0⟩):=by rw[xJ e (by omega),YU,Za (by omega)];rfl
 have f:idx s.line.path (wr (s.at_+1))=some (s.line.path.getD (s.at_.toNat+1) ⟨0,0⟩):=by
  rw[b];unfold idx;rw[Zu (by omega),e2,YU,Za c];rfl
 exact aV (λ_=>rfl) (aF d (aF f (aA rfl)))
theorem aEU(s:bA)(b:vJ s): aB (λn _=>gD n s) λr=>r=BR (F7 s).1.X (F7 s).2.X:=
 aV (λ_=>rfl) (aE (F6 s b) λr a=>aA (by rw[a]))
theorem aRp(s:bA)(a:vJ s): Tt (λn _=>pA n s):=
 aV (λ_=>rfl) (aE (F6 s a) λr b=>aA trivial)
theorem aTi(s t:bA)(f:vJ s)(c:vJ t): aB (λn _=>pB n s t) λr=>r=WN (BR (F7 s).1.X (F7 s).2.X) (BR (F7 t).1.X (F7 t).2.X):=
 aV (λ_=>rfl) (aE (aEU s f) λa e=>aE (aEU t c) λb d=>aE (jH a b) λr g=>aA (by rw[g,e,d]))
theorem Ds{b:Bool}(h:b=true): Ky b=some ():=by subst h;rfl
theorem SF(l:List Aac)(b:l.length<=300)(i:Nat)(m:List (Int×Aaa)): Tt (λn k=>sV qO n k (l,ln l) (m,(i:Int))):=
 cG (bC (λx d a=>by
  rw[bU (by omega)];exact SF l b (i+1) _)
  (λc=>aA trivial))
termination_by l.length-i
theorem aNq(m:List (Int×Aaa))(x y:bA)(b:vJ x)(a:vJ y): aB (λn _=>Ny n (m,x,y)) (Su (λ_=>True) λ_=>True):=by
 refine aY (aE (F6 x b) λ_ _=>aE (F6 y a) λ_ _=>?_);repeat' first
  | exact aA trivial
  | refine aC (λ_=>?_) (λ_=>?_)
  | refine L0 ?_
  | refine bI λ_=>?_
theorem aBn(m:List (Int×Aaa))(x:bA)(l:List bA)(b:vJ x)(c:∀s∈l,vJ s)(d:l.length<=100000)(i:Nat): aB (λn k=>nZ qM n k (m,x,l,ln l) (i:Int)) (Su (λ_=>True) λ_=>True):=
 bK (bC (λy f e=>by
  have a:=c y (Zf f);rw[bU (by omega)];refine aE (aEU y a) λ_ _=>aE (aRp x b) λ_ _=>aC (λ_=>aA trivial) (λ_=>aS (aNq m x y b a) (λ_ _=>aC (λ_=>aBn m x l b c d (i+1)) (λ_=>aA trivial)) (λ_ _=>aBn m x l b c d (i+1))))
  (λg=>aA trivial))
termination_by l.length-i
instance aXE{s:bA}{x:Aac}{a b:Aaa}: TC (λn=>Nw n (s,x,a,b)):=⟨by repeat' first | exact aA trivial | refine aC (λ_=>?_) (λ_=>?_) | refine bI λ_=>?_⟩
theorem aGR(x:bA)(a:vJ x)(l:List Aac)(c:l.length<=300)(i:Nat): aB (λn m=>nZ qL n m (x,l,ln l) (i:Int)) (Su (λ_=>True) λ_=>True):=
 bK (bC (λy e b=>by
  rw[bU (by omega)];exact aE (F6 x a) λ_ _=>bI λ_=>aC (λ_=>aA trivial) λ_=>aGR x a l c (i+1))
  (λd=>aA trivial))
termination_by l.length-i
theorem aGS(p:aM)(e:Sm p)(m:List (Int×Aaa))(l:List bA)(d:∀s∈l,vJ s)(j:l.length<=100000)(i:Nat): aB (λn k=>lm3 qN n k (p,m,l,l,ln l) (i:Int)) (Su (λ_=>True) (Su (λ_=>True) λ_=>True)):=
 aGk (bC (λy g f=>by
  have c:=d y (Zf g);rw[bU (by omega)];refine aF (aLT (a:=i+1) (b:=l.length) (by omega) (Zg _)) (aS (aX (aBn m y _ c (λs h=>d s (Z9 (Z1 h))) (by simp;omega) 0)) (λ_ _=>aS (aX (aGR y c _ e.n 0)) (λ_ _=>aA trivial) (λ_ _=>aGS p e m l d j (i+1))) (λ_ _=>aA trivial)))
  (λo=>aA trivial))
termination_by l.length-i
theorem aKz(p:aM)(c:Sm p): aB (λn _=>Nz n p) λr=>r=true->∀a∈p.Arcs,(dU p a.ID).2=0/\aJs (dU p a.ID).1:=by
 refine aV (λ_=>rfl) (aE (aQg p c) λv b=>aC (λh=>aE (aX (SF _ c.n 0 [])) λw _=>aY ?_) (λ_=>aA (by simp)));have b:=b h;refine aF (Ds (Yk (by have:=b.1;omega))) (aE (b9 (F:=λn x y=>bnd (pB n x y) λh=>some h) (λx i y g=>aE (aTi x y (b.2.1 x i) (b.2.1 y g)) λ_ h=>aA h) (aJI _ _)) λl d=>?_);refine aS (FD (f:=λn=>Nx n (p,w,l,l,ln l) 0) (aX (aGS p c w l (λs j=>b.2.1 s (d.2 s j)) (by rw[d.1];exact b.1) 0))) (λ_ _=>aA (by simp)) (λw e=>aS (aA e) (λ_ _=>aA (by simp)) (λ_ _=>aA λ_=>b.2.2))
theorem aHP(l:List aP)(e:l.length<=300)(i:Nat)(c:vV l i λa=>a.Via.length<=64): aB (λn m=>nZ tS n m (l,ln l) (i:Int)) (Su (λ_=>True) λ_=>∀a∈l,a.Via.length<=64):=
 bK (bC (λy f d=>by
  rw[bU (by omega)];exact aC (λ_=>aA trivial) λh=>aHP l e (i+1) (c.step f (by have:¬ln y.Via > 64:=Zk h;unfold ln at this;omega)))
  (λb=>aA (c.fin b)))
termination_by l.length-i
structure tB(p:aM): Prop where
 leN:p.Nodes.length<=256
 leA:p.Arcs.length<=256
 leF:p.Faces.length<=64
 leV:∀a∈p.Arcs,a.Via.length<=64
 asN:Asc (p.Nodes.map Aac.ID)
 asA:Asc (p.Arcs.map aP.ID)
 asF:Asc p.Faces
 nuA:∀a∈p.Arcs,1<=a.ID/\a.ID<=1073741824
 nuN:∀x∈p.Nodes,1<=x.ID/\x.ID<=1073741824
 nuF:∀x∈p.Faces,1<=x/\x<=1073741824
 ptN:∀x∈p.Nodes,Ke x.At
 ptA:∀a∈p.Arcs,∀y∈a.Via,Ke y
 con:∀a∈p.Arcs,a.From∈p.Nodes.map Aac.ID/\a.To∈p.Nodes.map Aac.ID
 sid:∀a∈p.Arcs,(a.Left=0\/a.Left∈p.Faces)/\(a.Right=0\/a.Right∈p.Faces)
 pth:∀a∈p.Arcs,(dU p a.ID).2=0/\aJs (dU p a.ID).1
theorem aIh(p:aM)(c:Sm p): aB (λn _=>Jd n p) λr=>r=0->tB p:=by
 have T:=c.n;have m:=c.a;have S:=c.f;refine aV (λ_=>rfl) (aE (Q:=λr=>r=false->p.Nodes.length<=256/\p.Arcs.length<=256/\p.Faces.length<=64) ?_ λU H=>aC (λ_=>aA (by simp)) λI=>aS (aX (aHP _ c.a 0 .nil)) (λ_ _=>aA (by simp)) λ_ e=>aF rfl (aE (aT4 p c) λv M=>?_))
 .refine aC (λ_=>aA (by simp)) λq=>aC (λ_=>aA (by simp)) λt=>aC (λ_=>aA (by simp)) λs=>aA λ_=>?_;have q:¬ln p.Nodes > 256:=Zk q;have t:¬ln p.Arcs > 256:=Zk t;have s:¬ln p.Faces > 64:=Zk s;unfold ln at q t s;omega
 subst M;refine aE (Q:=λr=>r=false->Asc (p.Nodes.map Aac.ID)/\Asc (p.Arcs.map aP.ID)/\Asc p.Faces) ?_ λw j=>aC (λ_=>aA (by simp)) λk=>aE (Q:=λr=>r=false->(∀x∈p.Nodes.map Aac.ID,1<=x/\x<=1073741824)/\(∀x∈p.Arcs.map aP.ID,1<=x/\x<=1073741824)/\(∀x∈p.Faces,1<=x/\x<=1073741824)/\(∀x∈p.Nodes,Ke x.At)/\∀a∈p.Arcs,∀y∈a.Via,Ke y) ?_ λz g=>aC (λ_=>aA (by simp)) λi=>aE (aR3 p c (p.Nodes.map Aac.ID) (by simp;omega)) λu d=>aC (λb=>aA λh=>?_) λb=>aE (aKz p c) λL l=>aC (λo=>aA λ_=>?_) λ_=>aA (by simp)
 .exact aE (aMh _ (by simp;omega)) λw j=>aC (λk=>aE (aMh _ (by simp;omega)) λz g=>aC (λi=>aE (aMh _ (by omega)) λu d=>aC (λb=>aA λ_=>⟨j k,g i,d b⟩) λ_=>aA (by simp)) λ_=>aA (by simp)) λ_=>aA (by simp)
 .exact aE (aKN _ (by simp;omega)) λw j=>aC (λk=>aE (aKN _ (by simp;omega)) λz g=>aC (λi=>aE (aKN _ (by omega)) λu d=>aC (λb=>aE (aK0 p c) λL l=>aC (λo=>aA λ_=>⟨j k,g i,d b,(l o).1,(l o).2⟩) λ_=>aA (by simp)) λ_=>aA (by simp)) λ_=>aA (by simp)) λ_=>aA (by simp)
 .rw[h] at b;simp at b
 .have A:u=0:=by simpa using b
  obtain⟨C,F,E,B,O⟩:=g i;obtain⟨N,D,J⟩:=j k;obtain⟨G,R,K⟩:=H I;exact⟨G,R,K,e,N,D,J,λa m=>F _ (WX m),λa m=>C _ (WX m),E,B,O,(d A).1,(d A).2,l o⟩
def cr(ux uy vx vy:Int): Int:=ux*vy-uy*vx
theorem aPA(f c d b e a:Int): b*cr f c e a=a*cr f c d b+c*cr d b e a:=by
 unfold cr;simp only[Int.mul_sub];have g:a*(f*b)=b*(f*a):=by rw[XN,WG a b,XN]
 have e2:a*(c*d)=c*(d*a):=by rw[XN,WG a d]
 have h:b*(c*e)=c*(b*e):=XN _ _ _;omega
def Up(x y:Int): Prop:=0<y\/(y=0/\0<x)
theorem aFZ{e b d a:Int}(f:Up e b)(g:Up d a)(h:cr e b d a > 0): 0<a:=by
 rcases g with c | ⟨c,i⟩
 .exact c
 .unfold cr at h;rw[c,Int.mul_zero] at h;have:0<=b*d:=by
   refine Int.mul_nonneg ?_ (by omega);rcases f with h | ⟨h,_⟩<;>omega
  omega
theorem aEp{i c j f g d:Int}(k:Up i c)(m:Up j f)(o:Up g d)(l:cr i c j f > 0)(n:cr j f g d > 0): cr i c g d > 0:=by
 have q:=aFZ k m l;have p:=aFZ m o n;have e:=aPA i c j f g d;have r:0<d*cr i c j f:=WV p l;have s:0<=c*cr j f g d:=Int.mul_nonneg (by rcases k with h | ⟨h,_⟩<;>omega) (by omega);have t:0<f*cr i c g d:=by omega
 rcases Int.lt_or_le 0 (cr i c g d) with h | h
 .exact h
 .have:=Xl (a:=f) (b:=cr i c g d) (by omega) h;omega
theorem aLV{i a g d f b:Int}(n:Up i a)(p:Up g d)(q:Up f b)(s:¬cr i a g d > 0)(m:¬cr g d f b > 0): ¬cr i a f b > 0:=by
 intro o;have k:0<b:=aFZ n q o;have l:0<=a:=by rcases n with h | ⟨h,_⟩<;>omega
 rcases p with c | ⟨c,j⟩
 .have e:=aPA i a g d f b;have r:0<d*cr i a f b:=WV c o;have t:b*cr i a g d<=0:=Xl (by omega) (by omega);have u:a*cr g d f b<=0:=Xl l (by omega);omega
 .unfold cr at m;rw[c,Int.zero_mul] at m;have:=WV j k;omega
theorem aLU(c d a b:Int): cr (-c) (-d) (-a) (-b)=cr c d a b:=by
 unfold cr;rw[Int.neg_mul_neg,Int.neg_mul_neg]
def Fh(o p:Aaa): Bool:=decide (p.Y<o.Y)||(p.Y==o.Y&&decide (p.X<o.X))
def twE(o a b:Aaa): Int:=cr (a.X-o.X) (a.Y-o.Y) (b.X-o.X) (b.Y-o.Y)
def qC(o a b:Aaa): Bool:=if Fh o a != Fh o b then Fh o b else decide (twE o a b > 0)
theorem OW{o p:Aaa}(h:Fh o p=false)(b:p≠o): Up (p.X-o.X) (p.Y-o.Y):=by
 simp only[Fh,WW,Wz,Bool.and_eq_false_iff,X8] at h;by_cases c:p.Y=o.Y
 .refine .inr ⟨by omega,?_⟩;have:p.X≠o.X:=by
   intro d;apply b;cases p;cases o;simp_all
  rcases h.2 with h | h
  .exact absurd c h
  .omega
 .exact .inl (by omega)
theorem OX{o p:Aaa}(h:Fh o p=true): Up (-(p.X-o.X)) (-(p.Y-o.Y)):=by
 simp only[Fh,YW,Z2,Zd,ZB] at h;rcases h with h | ⟨b,a⟩
 .exact .inl (by omega)
 .exact .inr ⟨by omega,by omega⟩
theorem aNJ{o a b c:Aaa}(j:a≠o)(i:b≠o)(k:c≠o)(d:qC o a b=true)(e:qC o b c=true): qC o a c=true:=by
 unfold qC at d e |-;cases g:Fh o a<;>cases f:Fh o b<;>cases h:Fh o c<;>rw[g,f] at d<;>rw[f,h] at e<;>simp only[Wi,Zm,Z3,Bool.true_bne,Bool.false_bne,X5,Zy,YP,Z2] at d e |-
 .exact aEp (OW g j) (OW f i) (OW h k) d e
 .unfold twE at d e |-;rw[<-aLU] at d e |-;exact aEp (OX g) (OX f) (OX h) d e
theorem aNK{o a b c:Aaa}(j:a≠o)(i:b≠o)(k:c≠o)(d:qC o a b=false)(e:qC o b c=false): qC o a c=false:=by
 unfold qC at d e |-;cases g:Fh o a<;>cases f:Fh o b<;>cases h:Fh o c<;>rw[g,f] at d<;>rw[f,h] at e<;>simp only[Wi,Zm,Z3,Bool.true_bne,Bool.false_bne,X5,Zy,YP,Wz,Bool.true_eq_false] at d e |-
 .exact aLV (OW g j) (OW f i) (OW h k) d e
 .unfold twE at d e |-;rw[<-aLU] at d e |-;exact aLV (OX g) (OX f) (OX h) d e
theorem aNL(o a:Aaa): qC o a a=false:=by
 unfold qC twE cr;rw[Wi,ZH (by simp),WG];simp
theorem aTr{x y:Int}{B:Nat}(a:-(B:Int)<=x/\x<=B)(b:-(B:Int)<=y/\y<=B): -((B*B:Nat):Int)<=x*y/\x*y<=((B*B:Nat):Int):=by
 have h:(x*y).natAbs<=B*B:=by rw[Int.natAbs_mul];exact Xo (by omega) (by omega)
 omega
theorem aPY{o a b:Aaa}(e:Ke o)(c:Ke a)(d:Ke b): twV o a b=twE o a b:=by
 obtain⟨o1,m,n,l⟩:=e;obtain⟨g,j,p,h⟩:=c;obtain⟨r,f,k,s⟩:=d;have i:=aTr (B:=2097152) (x:=a.X-o.X) (y:=b.Y-o.Y) ⟨by omega,by omega⟩ ⟨by omega,by omega⟩;have q:=aTr (B:=2097152) (x:=a.Y-o.Y) (y:=b.X-o.X) ⟨by omega,by omega⟩ ⟨by omega,by omega⟩;unfold twV twE cr;simp only[wr];rw[i64_in (a.X-o.X) (by omega),i64_in (b.Y-o.Y) (by omega),i64_in (a.Y-o.Y) (by omega),i64_in (b.X-o.X) (by omega),i64_in ((a.X-o.X)*(b.Y-o.Y)) (by omega),i64_in ((a.Y-o.Y)*(b.X-o.X)) (by omega),i64_in _ (by omega)]
theorem aB3(o p:Aaa): aB (λn _=>gO n o p) λr=>r=Fh o p:=by
 refine aV (λ_=>rfl) (aE (Q:=λr=>r=Fh o p) ?_ λr c=>aC (λh=>aA (by rw[<-c,h])) λh=>aA (by rw[<-c,h]));unfold Fh;refine aC (λh=>aA (by rw[h];rfl)) λh=>aC (λa=>aC (λb=>aA (by rw[h,a,b];rfl)) λb=>aA (by rw[h,a,b];rfl)) λa=>aA (by rw[h,a];rfl)
theorem Ke.near{x:Aaa}(h:Ke x): aDv x:=by obtain⟨b,c,a,d⟩:=h;exact⟨by omega,by omega,by omega,by omega⟩
theorem aJt(o a b:Aaa)(j:Ke o)(f:Ke a)(g:Ke b)(e:a≠o)(d:b≠o): aB (λn _=>JL n (o,a,b)) λr=>r=false:=by
 refine aE (aFA [o,a,b] (by simp)) λr i=>aC (λ_=>aC (λh=>absurd (Zh h) e) λ_=>aC (λh=>absurd (Zh h) d) λ_=>aA rfl) λh=>?_;rw[i (by
  intro x c;rcases ZO.1 c with rfl | c
  .exact j.near
  rcases ZO.1 c with rfl | c
  .exact f.near
  .rw[ZK.1 c];exact g.near)] at h
 cases h
theorem aMr(o a b:Aaa)(q:Ke o)(p:Ke a)(s:Ke b)(m:a≠o)(f:b≠o): aB (λn _=>Sb n o a b) λr=>r=qC o a b:=by
 refine aV (λ_=>rfl) (aE (aJt o a b q p s m f) λr v=>aC (λh=>by rw[v] at h;cases h) λ_=>aE (aB3 o a) λw c=>?_);have tw:Fh o a=Fh o b->aB (λn _=>bnd (gN n o a b) λh=>cd (h > 0) (some true) (some false)) λr=>r=qC o a b:=by
  intro e;refine aE (aG1 o a b) λt k=>?_;rw[aPY q p s] at k;subst k;refine aC (λh=>aA ?_) λh=>aA ?_<;>(unfold qC;rw[e];simp_all)
 have u:Fh o a≠Fh o b->aB (λn _=>bnd (gO n o b) λi=>cnd i (some true) (some false)) λr=>r=qC o a b:=by
  intro e;refine aE (aB3 o b) λt k=>?_;refine aC (λh=>aA ?_) λh=>aA ?_<;>(unfold qC;rw[Zu (by simpa using e)];simp_all)
 refine aC (λl=>?_) λl=>?_;all_goals
  refine aE (aB3 o b) λx d=>aC (λj=>?_) λj=>?_;all_goals
   refine aC (λg=>?_) λg=>?_;all_goals
    first
    | exact absurd (Zh g) (by decide)
    | exact absurd rfl (Zk g)
    | exact tw (by rw[<-c,<-d,l,j])
    | exact u (by rw[<-c,<-d,l,j];decide)
theorem Asc.lt{l:List Int}(h:Asc l): ∀(d i:Nat) (x y:Int),l[i]?=some x->l[i+d+1]?=some y->x<y
 | 0,i,x,y,b,a=>h i x y b a
 | d+1,i,x,y,b,a=>by
  have c:i+d+1<l.length:=by have:=(Ze.1 a).1;omega
  have f:=Asc.lt h d i x _ b (Za c);have e:=h (i+d+1) _ y (Za c) (by rw[show i+d+1+1=i+(d+1)+1 by omega];exact a);omega
theorem Asc.inj{α:Type}{f:α->Int}{l:List α}(h:Asc (l.map f)){a b:α}(p:a∈l)(o:b∈l)(e:f a=f b): a=b:=by
 obtain⟨i,n⟩:=Yj.1 p;obtain⟨j,c⟩:=Yj.1 o;have m:(l.map f)[i]?=some (f a):=by rw[Zl,n];rfl
 have k:(l.map f)[j]?=some (f b):=by rw[Zl,c];rfl
 rcases Nat.lt_trichotomy i j with g | d | g
 .have:=h.lt (j-i-1) i _ _ m (by rw[show i+(j-i-1)+1=j by omega];exact k);omega
 .subst d;rw[n] at c;cases c;rfl
 .have:=h.lt (i-j-1) j _ _ k (by rw[show j+(i-j-1)+1=i by omega];exact m);omega
theorem aOG{p:aM}(c:tB p){a:aP}(b:a∈p.Arcs): RF p a.ID=(a,true):=by
 unfold RF;cases h:p.Arcs.find? λx=>x.ID==a.ID with
 | none=>
  have:=W6.1 h a b;simp at this
 | some x=>
  have e:=Xf h;have d:x.ID=a.ID:=by have:=List.find?_some h;simpa using this
  rw[c.asA.inj e b d]
theorem Rz{p:aM}{id:Int}(h:id∈p.Nodes.map Aac.ID): (kQ p id).2=true/\(kQ p id).1∈p.Nodes:=by
 unfold kQ;cases a:p.Nodes.find? λx=>x.ID==id with
 | none=>
  obtain⟨x,b,rfl⟩:=Yi.1 h;have:=W6.1 a x b;simp at this
 | some x=>exact⟨rfl,Xf a⟩
theorem aGX{p:aM}(b:tB p){a:aP}(c:a∈p.Arcs): (dU p a.ID).1=[(kQ p a.From).1.At]++a.Via++[(kQ p a.To).1.At]:=by
 obtain⟨g,d⟩:=b.con a c;have f:=(Rz g).1;have e:=(Rz d).1;unfold dU;rw[aOG b c];simp only[f,e,Xw]
theorem aNw{p:aM}(c:tB p){a:aP}(d:a∈p.Arcs): ∀x∈(dU p a.ID).1,Ke x:=by
 obtain⟨f,e⟩:=c.con a d;rw[aGX c d];intro x b;rcases ZD.1 b with b | b
 .rcases ZD.1 b with b | b
  .rw[ZK.1 b];exact c.ptN _ (Rz f).2
  .exact c.ptA a d x b
 .rw[ZK.1 b];exact c.ptN _ (Rz e).2
def fT(p:aM)(d:Int): Prop:=∃a∈p.Arcs,d=a.ID\/d=-a.ID
structure aGs(p:aM)(o:Aaa)(i:Nat)(l:List Int)(tw:List (Int×Aaa)): Prop where
 len:l.length<=2*i
 dart:∀d∈l,fT p d
 tow:∀d∈l,∃q,bD tw d=some q/\Ke q/\q≠o
theorem aGs.add{p:aM}{o:Aaa}{i:Nat}{l:List Int}{tw:List (Int×Aaa)}{d:Int}{q:Aaa}(g:fT p d)(f:Ke q)(c:q≠o)(k:l.length<=2*i+1)(j:∀d∈l,fT p d)(h:∀d∈l,∃q,bD tw d=some q/\Ke q/\q≠o):
 (l++[d]).length<=2*i+2/\(∀e∈l++[d],fT p e)/\∀e∈l++[d],∃q',bD (gU tw d q) e=some q'/\Ke q'/\q'≠o:=by
 refine⟨by simp;omega,?_,?_⟩
 .intro e he;rcases ZD.1 he with he | he
  .exact j e he
  .rw[ZK.1 he];exact g
 .intro e he;rw[xI];by_cases a:d=e
  .rw[Zu a];exact⟨q,rfl,f,c⟩
  .rw[ZH a];rcases ZD.1 he with he | he
   .exact h e he
   .exact absurd (ZK.1 he).symm a
theorem M9(l:List Int)(tw:List (Int×Aaa))(d:Int)(q:Aaa)(h:l.length<=100000): aB (λn _=>oJ n (l,tw,d,q)) λr=>r=(l++[d],gU tw d q):=
 aY (aF (AL h) (aA rfl))
theorem aEO(p:aM)(H:Sm p)(t:tB p)(id:Int)(v:Aac×Bool)(o:v=kQ p id)(i:Nat)(l:List Int)(tw:List (Int×Aaa))(g:aGs p v.1.At i l tw)(hi:i<=p.Arcs.length): aB (λn m=>sV kW n m (p,id,p.Arcs,ln p.Arcs) (l,tw,(i:Int))) λr=>r.1.length<=600/\(∀d∈r.1,fT p d)/\∀d∈r.1,∃q,bD r.2 d=some q/\Ke q/\q≠v.1.At:=by
 have ha:=H.a;refine cG (bC (λx Z a2=>?_) (λa1=>aA ⟨by have:=g.len;show l.length<=600;omega,g.dart,g.tow⟩));have c:=Zf Z;have W:=t.nuA x c;have e0:wr (0-x.ID)=-x.ID:=by rw[wr,i64_in _ (by omega)];omega
 rw[bU (by omega),e0];have e:∀I j,aGs p v.1.At (i+1) I j->aB (λn m=>sV kW n m (p,id,p.Arcs,ln p.Arcs) (I,j,((i+1:Nat):Int))) λr=>r.1.length<=600/\(∀d∈r.1,fT p d)/\∀d∈r.1,∃q,bD r.2 d=some q/\Ke q/\q≠v.1.At:=λI j T=>aEO p H t id v o (i+1) I j T (by omega);have f:aGs p v.1.At (i+1) l tw:=⟨by have:=g.len;omega,g.dart,g.tow⟩;refine aE (Q:=λ_=>True) ?_ λr _=>aC (λ_=>e _ _ f) λ_=>aE (aCx p H x.ID) λw R=>aC (λ_=>e _ _ f) λ_=>?_
 .repeat' first
   | exact aA trivial
   | refine aC (λ_=>?_) (λ_=>?_)
 subst R;have u:=aNw t c;have z:=(t.pth x c).2;have h2:=xE (t.pth x c).1;have K:=Jg p H x.ID;have k:=aGX t c;have C:∃q,(dU p x.ID).1[1]?=some q:=⟨_,Za (by omega)⟩;have E:∃q,(dU p x.ID).1[(dU p x.ID).1.length-2]?=some q:=⟨_,Za (by omega)⟩;obtain⟨G,C⟩:=C;obtain⟨D,E⟩:=E;have i1:idx (dU p x.ID).1 1=some G:=C;have U:wr (ln (dU p x.ID).1-2)=(((dU p x.ID).1.length-2:Nat):Int):=by rw[wr,i64_in _ (by unfold ln;omega)];unfold ln;omega
 have M:idx (dU p x.ID).1 (wr (ln (dU p x.ID).1-2))=some D:=by rw[U,bM];exact E
 have X:Ke G:=u _ (Zf C);have O:Ke D:=u _ (Zf E);have z0:(dU p x.ID).1[0]?=some (kQ p x.From).1.At:=by rw[k];rfl
 have S:(dU p x.ID).1[(dU p x.ID).1.length-2+1]?=some (kQ p x.To).1.At:=by
  have:(dU p x.ID).1.length-2+1=([(kQ p x.From).1.At]++x.Via).length:=by rw[k];simp
  rw[this,k,ZX (Zg _),XD];rfl
 have V:x.From=id->G≠v.1.At:=by
  intro h;rw[o,<-h];exact (z 0 _ _ z0 C).symm
 have J:x.To=id->D≠v.1.At:=by
  intro h;rw[o,<-h];exact z _ _ _ E S
 have d1:fT p x.ID:=⟨x,c,.inl rfl⟩;have L:fT p (-x.ID):=⟨x,c,.inr rfl⟩;have Y:=g.len;refine aC (λN=>?_) λN=>aC (λy=>?_) λy=>e _ _ f
 .have A:=aGs.add (i:=i) d1 X (V (Wl N)) (by omega) g.dart g.tow;refine aF i1 (aE (M9 l tw _ G (by omega)) λs F=>?_);subst F;refine aC (λy=>?_) λy=>e _ _ ⟨by have:=A.1;omega,A.2.1,A.2.2⟩;have B:=aGs.add (l:=l++[x.ID]) (tw:=gU tw x.ID G) (i:=i) L O (J (Wl y)) (by simp;omega) A.2.1 A.2.2;refine aF M (aE (M9 _ _ _ D (by simp;omega)) λs F=>?_);subst F;exact e _ _ ⟨by have:=B.1;omega,B.2.1,B.2.2⟩
 .have A:=aGs.add (i:=i) L O (J (Wl y)) (by omega) g.dart g.tow;refine aF M (aE (M9 l tw _ D (by omega)) λs F=>?_);subst F;exact e _ _ ⟨by have:=A.1;omega,A.2.1,A.2.2⟩
termination_by p.Arcs.length-i
def aEs(o a b:Aaa): Int:=if qC o a b=true then -1 else if qC o b a=true then 1 else 0
theorem I1{o a b:Aaa}: aEs o a b<0↔qC o a b=true:=by
 unfold aEs;split<;>(try split)<;>simp_all
theorem aM5(p:aM)(u:Sm p)(A:tB p)(id:Int): aB (λn _=>Mu n p id) λr=>r.length<=600/\∀d∈r,fT p d:=by
 refine aV (λ_=>rfl) (aE (RQ p u id) λv j=>aC (λb=>aE (aX (aEO p u A id v j 0 [] [] ⟨by simp,by simp,by simp⟩ (by omega))) λw m=>aY (aF (Ds (Yk (by have:=m.1;omega))) ?_)) λ_=>aA (by simp));have k:Ke v.1.At:=by
  rw[j] at b |-;unfold kQ at b |-;cases h:p.Nodes.find? λx=>x.ID==id with
  | none=>rw[h] at b;cases b
  | some x=>exact A.ptN x (Xf h)
 have E:∀x∈w.1,∀y∈w.1,aB (λn _=>bnd (wF n (v.1,w.2,x,y)) λi=>some i) λr=>r=aEs v.1.At ((bD w.2 x).getD ⟨0,0⟩) ((bD w.2 y).getD ⟨0,0⟩):=by
  have a:∀x∈w.1,Ke ((bD w.2 x).getD ⟨0,0⟩)/\(bD w.2 x).getD ⟨0,0⟩≠v.1.At:=by
   intro x c;obtain⟨D,q,e2,t⟩:=m.2.2 x c;rw[q];exact⟨e2,t⟩
  intro x c y f;refine aE (Q:=λr=>r=aEs v.1.At ((bD w.2 x).getD ⟨0,0⟩) ((bD w.2 y).getD ⟨0,0⟩)) (aY ?_) λr e=>aA e;refine aE (aMr v.1.At ((bD w.2 x).getD ⟨0,0⟩) ((bD w.2 y).getD ⟨0,0⟩) k (a x c).1 (a y f).1 (a x c).2 (a y f).2) λr e=>aC (λh=>aA ?_) λh=>aE (aMr v.1.At ((bD w.2 y).getD ⟨0,0⟩) ((bD w.2 x).getD ⟨0,0⟩) k (a y f).1 (a x c).1 (a y f).2 (a x c).2) λG l=>aC (λg=>aA ?_) λg=>aA ?_
  .unfold aEs;rw[Zu (by rw[<-e,h])]
  .unfold aEs;rw[ZH (by rw[<-e,h];simp),Zu (by rw[<-l,g])]
  .unfold aEs;rw[ZH (by rw[<-e,h];simp),ZH (by rw[<-l,g];simp)]
 have B:Swo (λx y=>aEs v.1.At ((bD w.2 x).getD ⟨0,0⟩) ((bD w.2 y).getD ⟨0,0⟩)) w.1:=by
  have a:∀x∈w.1,(bD w.2 x).getD ⟨0,0⟩≠v.1.At:=by
   intro x c;obtain⟨D,q,e2,t⟩:=m.2.2 x c;rw[q];exact t
  refine⟨λx c=>?_,λx c y f z s o g=>?_,λx c y f z s o g=>?_⟩
  .rw[I1,aNL];simp
  .rw[I1] at *;exact aNJ (a x c) (a y f) (a z s) o g
  .rw[I1,Bool.not_eq_true] at *;exact aNK (a x c) (a y f) (a z s) o g
 exact aE (b9 (F:=λn x y=>bnd (wF n (v.1,w.2,x,y)) λi=>some i) E B) λr e=>aA ⟨by rw[e.1];exact m.1,λd C=>m.2.1 d (e.2 d C)⟩
theorem aDh(l:List Int)(d:Int)(f:l.length<=1000): Tt (λn _=>wE n l d):=by
 refine aV (λ_=>rfl) (aE (aId l d (by omega)) λr a=>aC (λ_=>aA trivial) λh=>?_);have i:0<=r:=by have:=Zk h;omega
 have g:r.toNat<l.length:=by rcases a with a | a<;>omega
 have c:wr (wr (r+ln l)-1)=r+(l.length:Int)-1:=by unfold wr ln;rw[i64_in (r+_) (by omega),i64_in _ (by omega)]
 rw[c];have e2:aIy (r+(l.length:Int)-1) (ln l)=some ((r+(l.length:Int)-1).tmod (l.length:Int)):=by unfold aIy ln;rw[ZH (by omega)]
 have b:0<=(r+(l.length:Int)-1).tmod (l.length:Int):=Int.tmod_nonneg _ (by omega);have e:(r+(l.length:Int)-1).tmod (l.length:Int)<(l.length:Int):=Int.tmod_lt_of_pos _ (by omega);exact aF e2 (aF (xJ b (by omega)) (aA trivial))
theorem aKV{V:Type}{m:List (Int×V)}{k:Int}{v:V}(h:bD m k=some v): v∈m.map Prod.snd:=by
 induction m with
 | nil=>cases h
 | cons a r b=>
  simp only[bD] at h;split at h
  .cases h;exact ZN ..
  .exact ZS _ (b h)
theorem aKQ{V:Type}(m:List (Int×V))(k:Int)(v:V): (gU m k v).length<=m.length+1:=by
 induction m with
 | nil=>simp[gU]
 | cons a r b=>
  simp only[gU];split
  .simp
  .simp only[Yc];omega
theorem aIf(p:aM)(v:List Int)(f:v.length<=600)(b:∀d∈v,fT p d)(B:Nat)(c:B<=190000)(i:Nat)(o:i<=v.length)(l:List Int)(m:List (Int×Int))(s:l.length<=B+i)(q:m.length<=B+i)(a:∀d∈l,fT p d):
 aB (λn k=>sV qH n k (v,v,ln v) (l,m,(i:Int))) λr=>r.1.length<=B+600/\r.2.length<=B+600/\∀d∈r.1,fT p d:=
 cG (bC (λd h j=>aF (Qz (by omega)) (aE (aDh v d (by omega)) λw _=>by
  rw[bU (by omega)];refine aIf p v f b B c (i+1) (by omega) _ _ (by simp;omega) (by have:=aKQ m (wr (0-d)) w;omega) ?_;intro e he;rcases ZD.1 he with he | he
  .exact a e he
  .rw[ZK.1 he];exact b d (Zf h)))
  (λg=>aA ⟨by show l.length<=_;omega,by show m.length<=_;omega,a⟩))
termination_by v.length-i
theorem aIg(p:aM)(b:Sm p)(e:tB p)(i:Nat)(t:i<=p.Nodes.length)(l:List Int)(m:List (Int×Int))(j:l.length<=600*i)(o:m.length<=600*i)(f:∀d∈l,fT p d):
 aB (λn k=>sV qI n k (p,p.Nodes,ln p.Nodes) (l,m,(i:Int))) λr=>r.1.length<=180000/\r.2.length<=180000/\∀d∈r.1,fT p d:=by
 have s:=b.n;refine cG (bC (λx q h=>aE (aM5 p b e x.ID) λw c=>aE (aX (aIf p w c.1 c.2 (600*i) (by omega) 0 (by omega) l m (by omega) (by omega) f)) λr a=>?_) (λg=>aA ⟨by show l.length<=_;omega,by show m.length<=_;omega,f⟩));rw[bU (by omega)];exact aIg p b e (i+1) (by omega) r.1 r.2 (by have:=a.1;omega) (by have:=a.2.1;omega) a.2.2
termination_by p.Nodes.length-i
theorem aLY{p q:Int->Bool}{d:Int}: ∀(l:List Int),(∀x,q x=true->p x=true)->d∈l->p d=true->q d=false->l.countP q<l.countP p
 | [],_,h,_,_=>by cases h
 | a::l,b,h,i,g=>by
  have e:∀l:List Int,l.countP q<=l.countP p:=λl=>List.countP_mono_left λx _ h=>b x h;rw[Vg,Vg];rcases ZO.1 h with rfl | h
  .rw[i,g];have:=e l;simp;omega
  .have:=aLY l b h i g;by_cases f:q a=true
   .rw[f,b a f];simp;omega
   .rw[ZH f];omega
def oK(m:List (Int×Bool))(k:Int): Bool:=!(bD m k).getD false
theorem aDT(p:aM)(v:List (Int×Int))(V:List Int)(f:∀k,(bD v k).getD 0∈V)(g:V.length<=800000)(seen:List (Int×Bool))(a:List Int)(d:Int)(j:d∈V)(o:a.length+V.countP (oK seen)<=800000):
 aB (λn k=>sV qF n k v (seen,a,d)) λr=>∃t,r.2=a++t/\r.2.length+V.countP (oK r.1)<=a.length+V.countP (oK seen)/\((bD seen d).getD false=false->∃i,t=d::i):=by
 refine cG (aC (λh=>aA ⟨[],by simp,Zg _,λc=>by rw[h] at c;cases c⟩) λh=>aF (Qz (by omega)) ?_);have m:V.countP (oK (gU seen d true))<V.countP (oK seen):=by
  refine aLY V (λx b=>?_) j (by unfold oK;rw[h];rfl) (by unfold oK;rw[xI,Zu rfl];rfl);unfold oK at b |-;rw[xI] at b;split at b
  .cases b
  .exact b
 refine (aDT p v V f g (gU seen d true) (a++[d]) ((bD v d).getD 0) (f d) (by simp;omega)).imp ?_;rintro r ⟨t,l,c,_⟩;exact⟨d::t,by rw[l];simp,by simp only[Zi,Yc,Z4] at c;omega,λ_=>⟨t,rfl⟩⟩
termination_by V.countP (oK seen)
def dV(v:List Int×List (Int×Int)): List Int:=v.1++0::v.2.map Prod.snd
theorem aC2(p:aM)(v:List Int×List (Int×Int))(s:v.1.length<=180000)(u:v.2.length<=180000)(e:∀d∈v.1,fT p d)(i:Nat)(G:i<=v.1.length)(l:List (List Int))(m:List (Int×Bool))(H:l.length<=i)(z:l.flatten.length+(dV v).countP (oK m)<=400000)(g:∀c∈l,c.length<=800000/\∃d t,c=d::t/\fT p d):
 aB (λn k=>sV qG n k (v.2,sP v.1,ln (sP v.1)) (l,m,(i:Int))) λr=>r.1.length<=180000/\r.1.flatten.length<=400000/\∀c∈r.1,c.length<=800000/\∃d t,c=d::t/\fT p d:=by
 have y:=wK v.1;refine cG (bC (λd B F=>?_) (λE=>aA ⟨by show l.length<=_;omega,by show l.flatten.length<=_;omega,g⟩));rw[bU (by omega)];have b:d∈v.1:=(aIs v.1).mem_iff.1 (Zf B);refine aC (λ_=>aC2 p v s u e (i+1) (by omega) l m (by omega) z g) λx=>?_;have A:∀k,(bD v.2 k).getD 0∈dV v:=by
  intro k;unfold dV;cases D:bD v.2 k with
  | none=>simp
  | some w=>exact List.mem_append_right _ (ZS _ (aKV D))
 have o:(dV v).length<=400000:=by simp[dV];omega
 refine aE (Q:=λr=>∃t,r.2=d::t/\r.2.length+(dV v).countP (oK r.1)<=(dV v).countP (oK m)) (aY (aE (aX (aDT p v.2 (dV v) A (by omega) m [] d (List.mem_append_left _ b) (by simp only[Z4];omega))) λr j=>aA ?_)) λr j=>aF (Qz (by omega)) ?_
 .obtain⟨t,h,q,C⟩:=j;obtain⟨f,rfl⟩:=C x;exact⟨f,by simpa using h,by simpa using q⟩
 obtain⟨f,h,q⟩:=j;refine aC2 p v s u e (i+1) (by omega) _ _ (by simp;omega) ?_ ?_
 .rw[XB,Zi,show[r.2].flatten=r.2 by simp];omega
 intro c a;rcases ZD.1 a with a | a
 .exact g c a
 .rw[ZK.1 a];exact⟨by omega,d,f,h,e d b⟩
termination_by v.1.length-i
decreasing_by all_goals (have:=wK v.1;omega)
theorem aTO{v:List Int×List (Int×Int)}(c:v.1.length<=180000)(d:v.2.length<=180000){m:List (Int×Bool)}: ([]:List (List Int)).flatten.length+(dV v).countP (oK m)<=400000:=by
 have b:(dV v).countP (oK m)<=(dV v).length:=List.countP_le_length;have a:(dV v).length<=400000:=by simp[dV];omega
 simp only[Xd,Z4];omega
def aPL(p:aM)(l:List (List Int)): Prop:=l.length<=180000/\l.flatten.length<=400000/\∀c∈l,c.length<=800000/\∃d t,c=d::t/\fT p d
theorem aEM(p:aM)(b:Sm p): aB (λn _=>zV n p) λr=>r.2=0->tB p/\aPL p r.1:=by
 refine aV (λ_=>rfl) (aE (aIh p b) λc i=>aC (λh=>aA λe=>?_) λh=>?_)
 .rw[show c=0 from e] at h;simp at h
 .have d:=i (by simpa using h);exact aE (aX (aIg p b d 0 (by omega) [] [] (by simp) (by simp) (by simp))) λv a=>aY (aF (Ds (Yk (by have:=a.1;omega))) (aE (FD (f:=λn=>Mt n (v.2,sP v.1,ln (sP v.1)) ([],[],0)) (aX (aC2 p v a.1 a.2.1 a.2.2 0 (by omega) [] [] (by simp) (aTO a.1 a.2.1) (by simp)))) λr g=>aA λ_=>⟨d,g⟩))
structure MB(p:aM)(m:List (Int×List Aaa)): Prop where
 has:∀a∈p.Arcs,∃l,bD m a.ID=some l/\2<=l.length
 len:∀k l,bD m k=some l->l.length<=302
theorem aDg(p:aM)(d:Sm p)(g:tB p)(i:Nat)(m:List (Int×List Aaa))(s:∀(j:Nat) (a:aP),j<i->p.Arcs[j]?=some a->∃l,bD m a.ID=some l/\2<=l.length)(t:∀k l,bD m k=some l->l.length<=302): aB (λn k=>sV lL n k (p,p.Arcs,ln p.Arcs) (m,(i:Int))) λr=>MB p r:=by
 have y:=d.a;refine cG (bC (λx f u=>aE (aCx p d x.ID) λw q=>aC (λ_=>?_) λh=>?_) (λo=>aA ⟨vV.fin (l:=p.Arcs) (i:=i) (Q:=λ(a:aP)=>∃l,bD m a.ID=some l/\2<=l.length) s o,t⟩))
 .rw[bU (by omega)];subst q;refine aDg p d g (i+1) _ (λj a v b=>?_) λk l e=>?_
  .rw[xI];by_cases he:x.ID=a.ID
   .rw[Zu he];exact⟨_,rfl,xE (g.pth x (Zf f)).1⟩
   .rw[ZH he];refine s j a ?_ b;rcases ZJ j i with h | h
    .exact h
    .have:j=i:=by omega
     subst this;rw[f] at b;cases b;exact absurd rfl he
  .rw[xI] at e;split at e
   .cases e;exact Jg p d _
   .exact t k l e
 .subst q;rw[(g.pth x (Zf f)).1] at h;simp at h
termination_by p.Arcs.length-i
theorem V8(p:aM)(c:Sm p)(b:tB p): aB (λn _=>oS n p) λr=>MB p r:=
 aV (λ_=>rfl) (aE (aX (aDg p c b 0 [] (λj a h=>by omega) (λk l h=>by cases h))) λr d=>aA d)
theorem aE0(p:aM)(a:Sm p)(d:Int): Tt (λn _=>Ia n p d):=
 aV (λ_=>rfl) (aC (λ_=>aA trivial) λ_=>aC (λ_=>aA trivial) λ_=>aE (aM6 p a _) λ_ _=>aC (λ_=>aA trivial) λ_=>aA trivial)
theorem L3(p:aM)(a:Sm p)(d:Int): Tt (λn _=>Ed n p d):=
 aV (λ_=>rfl) (aE (aE0 p a d) λ_ _=>aC (λ_=>aC (λ_=>aA trivial) λ_=>aA trivial) λ_=>aA trivial)
theorem aIa(v:List Aaa)(k:Int)(c:k=wr (ln v-1))(f:2<=v.length)(e:v.length<=1000)(i:Nat)(s:Int): Tt (λn m=>sV tF n m (v,k) (s,(i:Int))):=by
 have g:wr (ln v-1)=((v.length-1:Nat):Int):=by unfold wr ln;rw[i64_in _ (by omega)];omega
 refine cG (aC (λh=>?_) (λh=>aA trivial));have d:i<v.length-1:=by rw[c,g] at h;have:=Zh h;omega
 have b:idx v (i:Int)=some v[i]:=by rw[bM];exact Za (by omega)
 have a:idx v ((i+1:Nat):Int)=some v[i+1]:=by rw[bM];exact Za (by omega)
 rw[bU (by omega)];exact aF b (aF a (aF a (aF b (aIa v k c f e (i+1) _))))
termination_by v.length-i
theorem aCu(p:aM)(e:Sm p)(c:List Int)(f:c.length<=512)(i:Nat)(s:Int): aB (λn m=>nZ tG n m (p,c,ln c) (s,(i:Int))) (Su (λ_=>True) λ_=>True):=
 bK (bC (λd k j=>aE (aE0 p e d) λw _=>aC (λ_=>aE (aCx p e _) λv g=>aC (λ_=>aA trivial) λb=>by
  rw[bU (by omega)];have a:v.2=0:=by simpa using b
  refine aE (aX (aIa v.1 _ rfl (by rw[g] at a |-;exact xE a) (by rw[g];have:=Jg p e (nE d (wr (0-d)));omega) 0 0)) λt _=>aC (λ_=>aCu p e c f (i+1) _) λ_=>aCu p e c f (i+1) _) λ_=>aA trivial)
  (λh=>aA trivial))
termination_by c.length-i
theorem aJq(p:aM)(a:Sm p)(c:List Int): Tt (λn _=>qE n p c):=
 aV (λ_=>rfl) (aC (λ_=>aA trivial) λh=>aS (aX (aCu p a c (by have h:¬ln c > 512:=Zk h;unfold ln at h;omega) 0 0)) (λ_ _=>aA trivial) λ_ _=>aF rfl (aA trivial))
section
variable {a b c:Aaa}
instance aYc: TC (λn=>mK n (a,b,c)):=⟨by repeat' first | exact aA trivial | refine aC (λ_=>?_) (λ_=>?_) | refine bI λ_=>?_⟩
instance aYb: TC (λn=>mJ n (a,b,c)):=⟨by repeat' first | exact aA trivial | refine aC (λ_=>?_) (λ_=>?_) | refine bI λ_=>?_⟩
end
theorem aOn(a x y:Aaa)(b c:Bool): Tt (λn _=>mL n (a,b,c,x,y)):=by
 refine aY ?_;repeat' first | exact aA trivial | refine aC (λ_=>?_) (λ_=>?_) | refine bI λ_=>?_
theorem aHF(a:Aaa)(l:List Aaa)(g:l.length<=1000)(i:Nat)(q:1<=i)(p f:Bool): Tt (λn k=>sV eF n k (a,l) (p,f,(i:Int))):=by
 refine cG (aC (λh=>?_) λ_=>aA trivial);have b:(i:Int)<ln l:=Zh h;have b:i<l.length:=by unfold ln at b;omega
 have j:wr ((i:Int)-1)=((i-1:Nat):Int):=by rw[wr,i64_in _ (by omega)];omega
 rw[bU (by omega),j];have c:∀e d,Tt (λn k=>sV eF n k (a,l) (e,d,((i+1:Nat):Int))):=λe d=>aHF a l g (i+1) (by omega) e d;have o:idx l ((i-1:Nat):Int)=some (l[i-1]'(by omega)):=by rw[bM];exact Za (by omega)
 have m:idx l (i:Int)=some l[i]:=by rw[bM];exact Za (by omega)
 exact aF o (aF m (aE (aOn _ _ _ _ _) λ_ _=>aC (λ_=>aC (λ_=>c _ _) λ_=>c _ _) λ_=>aC (λ_=>c _ _) λ_=>c _ _))
termination_by l.length-i
def M3(m:List (Int×List Aaa)): Prop:=∀k l,bD m k=some l->l.length<=302
theorem M3.d{m:List (Int×List Aaa)}(h:M3 m)(k:Int): ((bD m k).getD []).length<=1000:=by
 cases e:bD m k with
 | none=>simp
 | some l=>have:=h k l e;show l.length<=_;omega
theorem aHG(m:List (Int×List Aaa))(f:M3 m)(c:List Int)(g:c.length<=800000)(a:Aaa)(i:Nat)(e b:Bool): Tt (λn k=>sV fQ n k (a,m,c,ln c) (e,b,(i:Int))):=
 cG (bC (λd l j=>by
  rw[bU (by omega)];exact aE (aX (aHF a _ (f.d _) 1 (by omega) e b)) λ_ _=>aHG m f c g a (i+1) _ _)
  (λh=>aA trivial))
termination_by c.length-i
theorem aOm(m:List (Int×List Aaa))(d:M3 m)(c:List Int)(b:c.length<=800000)(a:Aaa): Tt (λn _=>eK n m c a):=
 aV (λ_=>rfl) (aE (Q:=λ_=>True) (aY (aE (aX (aHG m d c b a 0 false false)) λ_ _=>aA trivial)) λ_ _=>aC (λ_=>aC (λ_=>aA trivial) λ_=>aA trivial) λ_=>aC (λ_=>aA trivial) λ_=>aA trivial)
theorem aFL(m:List (Int×List Aaa))(e:M3 m)(l:List Kf)(f:∀x∈l,x.outer.length<=800000)(a:Aaa)(b i:Nat)(g:b<l.length)(d:i<l.length): Tt (λn _=>sU n (a,m,l,(b:Int),(i:Int))):=by
 have c:idx l (i:Int)=some l[i]:=by rw[bM];exact Za d
 have e2:idx l (b:Int)=some l[b]:=by rw[bM];exact Za g
 have k:Tt (λn _=>eK n m l[i].outer a):=aOm m e _ (f _ (ZR d)) a;exact aC (λ_=>aF c (aE k λ_ _=>aC (λ_=>aA trivial) λ_=>aA trivial)) λ_=>aF c (aF e2 (aC (λ_=>aF c (aE k λ_ _=>aC (λ_=>aA trivial) λ_=>aA trivial)) λ_=>aA trivial))
theorem PQ(m:List (Int×List Aaa))(d:M3 m)(l:List Kf)(f:∀x∈l,x.outer.length<=800000)(g:l.length<=800000)(a:Aaa)(b i:Nat)(e:b<l.length): aB (λn k=>sV iN n k (a,m,l) ((b:Int),(i:Int))) λr=>0<=r/\r.toNat<l.length:=
 cG (aC (λh=>by
  have c:(i:Int)<ln l:=Zh h;have c:i<l.length:=by unfold ln at c;omega
  rw[bU (by omega)];exact aE (aFL m d l f a b i e c) λ_ _=>aC (λ_=>PQ m d l f g a i (i+1) c) λ_=>PQ m d l f g a b (i+1) e)
  (λj=>aA (show 0<=(b:Int)/\(b:Int).toNat<l.length from⟨by omega,by simpa using e⟩)))
termination_by l.length-i
theorem aH8(m:List (Int×List Aaa))(c:M3 m)(l:List Kf)(d:∀x∈l,x.outer.length<=800000)(e:l.length<=800000)(f:0<l.length)(a:Aaa): aB (λn _=>eE n m l a) λr=>0<=r/\r.toNat<l.length:=
 aV (λ_=>rfl) (aE (aX (PQ m c l d e a 0 1 f)) λr b=>aA b)
theorem aC1(l:List aP)(a:l.length<=300)(id:Int)(i:Nat)(s:Int): Tt (λn m=>sV qU n m (id,l,ln l) (s,(i:Int))):=
 cG (bC (λd e b=>by
  rw[bU (by omega)];refine aE (Q:=λ_=>True) ?_ λ_ _=>aC (λ_=>aC1 l a id (i+1) _) λ_=>aC1 l a id (i+1) _;exact aC (λ_=>aA trivial) λ_=>aA trivial)
  (λc=>aA trivial))
termination_by l.length-i
theorem aAE(p:aM)(b:Sm p)(id:Int): Tt (λn _=>kO n p id):=
 aV (λ_=>rfl) (aE (aX (aC1 p.Arcs b.a id 0 0)) λ_ _=>aA trivial)
structure aSi(l:List dR)(b c:Nat): Prop where
 al:∀a∈l,a.alone.length<=c
 sz:∀a∈l,a.outer.length+a.inner.flatten.length<=400000
 l1:1<=l.length
 l2:l.length<=200000
 ou:∀a∈l,a.outer.length<=800000
 inn:∀a∈l,a.inner.length<=b/\∀c∈a.inner,c.length<=800000
 ne:∀(i:Nat) (a:dR),1<=i->l[i]?=some a->a.outer≠[]
def Rq: Prop:=∀(p:aM) (cs:List (List Int)) (m:List (Int×List Aaa)),Sm p->tB p->aPL p cs->MB p m->aB (λn _=>jB n p cs m) λr=>aSi r 200000 300
theorem aLS(a:dR)(h:a.inner.length<=200000): aB (λn _=>fR n a) λr=>r=a.outer::a.inner:=
 aV (λ_=>rfl) (aF (Qy (l:=[a.outer]) (m:=a.inner) (by simp;omega)) (aA rfl))
section
variable (p:aM)(hp:Sm p)(lf:List Int)(v:Int)
include hp
theorem aHB(c:List Int)(a:c.length<=800000)(i:Nat): aB (λn m=>nZ oT n m (p,lf,v,c,ln c) (i:Int)) (Su (λ_=>True) λ_=>True):=
 bK (bC (λd g b=>aE (L3 p hp d) λ_ _=>by
  rw[bU (by omega)];exact aC (λ_=>aA trivial) λ_=>aHB c a (i+1))
  (λe=>aA trivial))
termination_by c.length-i
theorem aBP(a:List (List Int))(g:a.length<=800000)(b:∀c∈a,c.length<=800000)(i:Nat): aB (λn m=>nZ oU n m (p,lf,v,a,ln a) (i:Int)) (Su (λ_=>True) λ_=>True):=
 bK (bC (λc e d=>aS (aX (aHB p hp lf v c (b c (Zf e)) 0)) (λ_ _=>aA trivial) λ_ _=>aF rfl (by
  rw[bU (by omega)];exact aBP a g b (i+1)))
  (λf=>aA trivial))
termination_by a.length-i
end
theorem aDy{V:Type}(k:Int)(v:V): ∀m:List (Int×V),bD m k=none->(gU m k v).length=m.length+1
 | [],_=>rfl
 | a::r,h=>by
  simp only[bD] at h;split at h
  .cases h
  .rename_i b;simp only[gU];rw[ZH b];simp only[Yc];rw[aDy k v r h]
theorem aBQ(p:aM)(q:Sm p)(l:List dR)(o:aSi l 200000 300)(i:Nat)(R:i<=l.length)(lf:List Int)(g:List (Int×Bool))(K:lf.length=i)(E:g.length=i-1)(j:∀k v,bD g k=some v->v=true): aB (λn m=>nZ oV n m (p,l,ln l) (lf,g,(i:Int))) (Su (λ_=>True) λr=>r.1.length=l.length/\r.2.length=l.length-1):=by
 have O:=o.l2;refine bK (bC (λa I N=>?_) (λL=>aA (show lf.length=l.length/\g.length=l.length-1 by omega)));have y:=Zf I;have D:=o.inn a y;have B:=o.ou a y;have f:∀w,w=a.outer::a.inner->w.length<=800000/\∀c∈w,c.length<=800000:=by
  rintro w rfl;refine⟨by simp;omega,λc H=>?_⟩;rcases ZO.1 H with rfl | H
  .exact B
  .exact D.2 c H
 rw[bU (by omega)];refine aC (λb=>?_) λb=>?_
 .have F:1<=i:=by have:(i:Int) > 0:=Zh b;omega
  have G:=o.ne i a F I;obtain⟨d,t,C⟩:∃d t,a.outer=d::t:=by
   cases h:a.outer with
   | nil=>exact absurd h G
   | cons d t=>exact⟨d,t,rfl⟩
  refine aF (x:=d) (by rw[C];rfl) (aE (L3 p q d) λv _=>aE (Q:=λr=>r=false->(bD g v).getD false=false) ?_ λ_ M=>aC (λ_=>aA trivial) λJ=>aE (aLS a (by omega)) λw s=>aS (aX (aBP p q lf v w (f w s).1 (f w s).2 0)) (λ_ _=>aA trivial) λ_ _=>aF rfl (aF (Qz (by omega)) (aBQ p q l o (i+1) (by omega) _ _ (by simp;omega) ?_ ?_)))
  .exact aC (λ_=>aA (by simp)) λ_=>aC (λ_=>aA (by simp)) λh=>aA λ_=>h
  .have h:=M J;have:bD g v=none:=by
    cases e:bD g v with
    | none=>rfl
    | some w=>rw[e,j v w e] at h;cases h
   rw[aDy v true g this,E];omega
  .intro k u z;rw[xI] at z;split at z
   .cases z;rfl
   .exact j k u z
 .exact aE (aLS a (by omega)) λw s=>aS (aX (aBP p q lf 0 w (f w s).1 (f w s).2 0)) (λ_ _=>aA trivial) λ_ _=>aF rfl (aF (Qz (by omega)) (aBQ p q l o (i+1) (by omega) _ _ (by simp;omega) (by have:¬(i:Int) > 0:=Zk b;omega) j))
termination_by l.length-i
theorem aOi(p:aM)(e:Sm p)(l:List dR)(c:aSi l 200000 300): aB (λn _=>Ja n p l) λr=>r.2=true->r.1.length=l.length/\l.length=p.Faces.length+1:=
 aV (λ_=>rfl) (aS (aX (aBQ p e l c 0 (by omega) [] [] rfl rfl (λ_ _ h=>by cases h))) (λ_ _=>aA (by simp)) λr d=>aF rfl (aC (λb=>aA λ_=>⟨d.1,by have:=c.l1;have f:=d.2;have b:ln r.2=ln p.Faces:=Wl b;unfold ln at b;omega⟩) λ_=>aA λh=>by cases h))
def SzR(o:List Int)(i:List (List Int))(a:List Int): Prop:=o.length+i.flatten.length<=400000/\(i.length<=200000/\∀c∈i,c.length<=800000)/\a.length<=300
theorem aQp(s:Rq)(p:aM)(g:Sm p): aB (λn _=>Au n p) λr=>r.2.2.2=0->tB p/\r.1.length=p.Faces.length+1/\r.2.1.length=r.1.length/\r.1.length<=200000/\∀a∈r.1,SzR a.outer a.inner a.alone:=by
 refine aV (λ_=>rfl) (aE (aEM p g) λc o=>aC (λb=>aA λh=>?_) λb=>?_)
 .rw[show c.2=0 from h] at b;simp at b
 .obtain⟨j,i⟩:=o (by simpa using b);exact aE (V8 p g j) λm q=>aE (s p c.1 m g j i q) λl d=>aE (aOi p g l d) λf k=>aC (λb=>aA λ_=>⟨j,(k b).2,(k b).1,d.l2,λa e=>⟨d.sz a e,⟨by have:=(d.inn a e).1;omega,(d.inn a e).2⟩,by have:=d.al a e;omega⟩⟩) λ_=>aA λh=>by cases h
theorem aIc(d:List Int)(b:List dR)(k:d.length=b.length)(j:b.length<=200000)(f:∀a∈b,SzR a.outer a.inner a.alone)(i:Nat)(l:List dW)(q:l.length=i)(e:∀r∈l,SzR r.Outer r.Inner r.Alone)(s:i<=b.length): aB (λn m=>sV lM n m (d,b,ln b) (l,(i:Int))) λr=>r.length=b.length/\r.length<=200000/\∀x∈r,SzR x.Outer x.Inner x.Alone:=by
 refine cG (bC (λa h g=>?_) (λp=>aA ⟨show l.length=_ by omega,show l.length<=_ by omega,e⟩));obtain⟨y,o⟩:∃y,d[i]?=some y:=⟨_,Za (by omega)⟩;rw[bU (by omega)];exact aF (by rw[bM];exact o) (aF (Qz (by omega)) (aIc d b k j f (i+1) _ (by simp;omega) (by
  intro r c;rcases ZD.1 c with c | c
  .exact e r c
  .rw[ZK.1 c];exact f a (Zf h)) (by omega)))
termination_by b.length-i
theorem aUe(x y:dW): aB (λn _=>jS n x y) λr=>r=WN x.Face y.Face:=
 aV (λ_=>rfl) (aE (jH _ _) λr a=>aA a)
theorem RK(m:Rq)(p:aM)(s:Sm p): ∃v:List dW×Int,aB (λn _=>kH n p) (λr=>r=v)/\(v.2=0->tB p/\v.1.length=p.Faces.length+1)/\(v.1.length<=200000/\∀x∈v.1,SzR x.Outer x.Inner x.Alone)/\aB (λn _=>Jc n p) λr=>r=v.2:=by
 obtain⟨v,e,g⟩:=(aQp m p s).val;have k:aB (λn _=>kH n p) λr=>r.2=v.2.2.2/\(r.2=0->r.1.length=v.1.length)/\r.1.length<=200000/\∀x∈r.1,SzR x.Outer x.Inner x.Alone:=by
  refine aV (λ_=>rfl) (aE g λw a=>?_);subst a;refine aC (λb=>aA ⟨rfl,λh=>by rw[show w.2.2.2=0 from h] at b;simp at b,by simp,by simp⟩) λb=>?_;have i:w.2.2.2=0:=by simpa using b
  obtain⟨_,_,u,j,q⟩:=e i;exact aE (aX (aIc w.2.1 w.1 u j q 0 [] (by simp) (by simp) (by omega))) λl c=>aY (aF (Ds (Yk (by have:=c.2.1;omega))) (aE (b9 (F:=λn x y=>bnd (jS n x y) λh=>some h) (λx _ y _=>aE (aUe x y) λ_ h=>aA h) (aJI _ _)) λr f=>aA ⟨by rw[i],λ_=>by show r.length=_;rw[f.1];exact c.1,by show r.length<=_;rw[f.1];exact c.2.1,λx t=>c.2.2 x (f.2 x t)⟩))
 obtain⟨w,a,d⟩:=k.val;exact⟨w,d,λh=>⟨(e (a.1▸h)).1,by rw[a.2.1 h];exact (e (a.1▸h)).2.1⟩,a.2.2,aV (λ_=>rfl) (aE g λz o=>aA (by rw[o,a.1]))⟩
theorem aVM{c:Prop}[Decidable c]{x y:Nat×Nat}(b:1<=x.2/\x.2<=4)(a:1<=y.2/\y.2<=4): 1<=(if c then x else y).2/\(if c then x else y).2<=4:=by split<;>assumption
theorem aTM(s:ByteArray)(p:Nat)(h:p<s.size): 1<=(Utf8.decode s p).2/\(Utf8.decode s p).2<=4:=by
 unfold Utf8.decode;dsimp only;repeat' first
  | apply aVM
  | (show 1<=_/\_<=4;exact⟨by dsimp only;omega,by dsimp only;omega⟩)
theorem aWg{α:Type}{P:α->Prop}{f:Nat->Nat->Option α}(h:aB f P): Tt f:=h.imp λ_ _=>trivial
theorem aEB(a:Int)(b:vX)(i:Nat): aB (λn m=>nZ pI n m (a,b) (i:Int)) (Su (λ_=>True) λ_=>True):=
 bK (aC (λh=>by
  have h:(i:Int)<13:=Zh h;have h:i<13:=by omega
  rw[bU (by omega)];refine aF (x:=([b.e0,b.e1,b.e2,b.e3,b.e4,b.e5,b.e6,b.e7,b.e8,b.e9,b.e10,b.e11,b.e12]:List fY)[i]) (by rw[bM];exact Za (by simpa using h)) (aE (Q:=λ_=>True) ?_ λ_ _=>aC (λ_=>aA trivial) λ_=>aEB a b (i+1));repeat' first
   | exact aA trivial
   | refine aC (λ_=>?_) (λ_=>?_)) λ_=>aA trivial)
termination_by 13-i
theorem aEA(a:Int): Tt (λn _=>vN n a):=
 aV (λ_=>rfl) (aC (λ_=>aA trivial) λ_=>aC (λ_=>aA trivial) λ_=>aS (aX (aEB _ _ 0)) (λ_ _=>aA trivial) λ_ _=>aF rfl (aA trivial))
theorem aEL(s:ByteArray)(b:s.size<=1000)(i:Nat)(l:List Int)(d:l.length<=i)(e:i<=1010): aB (λn m=>nZ pJ n m () (l,(s,i))) (Su (λ_=>True) λv=>v.1.length<=1010):=
 bK (aC (λh=>by
  have h:i<s.size:=Zh h;have c:=aTM s i h;refine aE (aEA _) λ_ _=>aC (λ_=>aA trivial) λ_=>aF (AL (by omega)) (aEL s b (i+(Utf8.decode s i).2) _ (by simp;omega) (by omega))) λh=>aA (show l.length<=1010 by omega))
termination_by s.size-i
theorem aMt(s:ByteArray)(a:s.size<=1000): aB (λn _=>Jl n s) λr=>r.1.length<=1010:=
 aV (λ_=>rfl) (aS (aX (aEL s a 0 [] (by simp) (by omega))) (λ_ _=>aA (by simp)) λv b=>aF rfl (aA b))
theorem aOu(s t:ByteArray)(h:s.size<=1000): Tt (λn _=>aAw n s t):=
 ⟨_,trivial,1,λn m a _=>by
  obtain⟨n,rfl⟩:∃k,n=k+1:=⟨n-1,by omega⟩;show (match Nat.blt s.size 4294967281 with | true=>_ | false=>_)=_;rw[show Nat.blt s.size 4294967281=true from by rw[YF];omega]⟩
theorem aKi{s:ByteArray}{i:Int}(a:0<=i)(h:i.toNat<s.size): ∃c,sat s i=some c:=by
 unfold sat;rw[Zu a,Za (by simpa using h)];exact⟨_,rfl⟩
theorem aHm(a b:List Int)(d:b.length<=100000)(i:Nat): aB (λn m=>nZ xG n m (a,b,ln b) (i:Int)) (Su (λ_=>True) λ_=>True):=
 bK (bC (λx f c=>aE (aEA x) λ_ _=>by
  rw[bU (by omega)];exact aC (λ_=>aA trivial) λ_=>aHm a b d (i+1))
  (λe=>aA trivial))
termination_by b.length-i
theorem aKP(s:ByteArray): Tt (λn _=>qY n s):=by
 refine aV (λ_=>rfl) (aE (Q:=λ_=>True) ?_ λ_ _=>aA trivial);refine aV (λ_=>rfl) (aC (λ_=>aA trivial) λf=>aC (λ_=>aA trivial) λh=>?_);have h:¬((s.size:Nat):Int) > 40:=Zk h;have f:s≠(⟨#[]⟩:ByteArray):=Zk f;have m:0<s.size:=by
  rcases Xj s.size with e | e
  .exfalso;apply f;cases s with
   | mk d=>cases d with
    | mk l=>cases l with
     | nil=>rfl
     | cons a l=>simp[ByteArray.size] at e
  .exact e
 obtain⟨c,j⟩:=aKi (s:=s) (i:=0) (by omega) (by simpa using m);have g:wr ((s.size:Int)-1)=(s.size:Int)-1:=by rw[wr,i64_in _ (by omega)]
 obtain⟨d,k⟩:=aKi (s:=s) (i:=(s.size:Int)-1) (by omega) (by omega);refine aE (aMt s (by omega)) λb o=>aC (λ_=>aA trivial) λ_=>aE (Q:=λ_=>True) ?_ λ_ _=>aC (λ_=>aA trivial) λ_=>aS (aX (aHm b.1 b.1 (by omega) 0)) (λ_ _=>aA trivial) λ_ _=>aF rfl (aA trivial);exact aF j (aC (λ_=>aA trivial) λ_=>aF (by rw[g];exact k) (aC (λ_=>aA trivial) λ_=>aE (aOu s _ (by omega)) λ_ _=>aC (λ_=>aA trivial) λ_=>aA trivial))
instance aVE{s:ByteArray}: TC (λn=>qY n s):=⟨aKP s⟩
structure sE(s:aJ): Prop where
 p:Sm s.Plan
 n:s.Features.length<=1000
 f:∀f∈s.Features,f.Parts.length<=1000
abbrev Sx{β γ:Type}(f:Nat->Nat->Option (β⊕γ)): Prop:=aB f (Su (λ_=>True) λ_=>True)
instance aUX{x:Int}: TC (λn=>dP n x):=⟨aV (λ_=>rfl) (by repeat' first|apply dY|apply aC|apply bI|intro)⟩
section
variable {f:aD}
instance fc1: TC (λn=>lW n f):=⟨by repeat' first|apply dY|apply aC|apply bI|intro⟩
instance fc4: TC (λn=>lV n f):=⟨by repeat' first|apply dY|apply aC|apply bI|intro⟩
instance fc5: TC (λn=>lU n f):=⟨by repeat' first|apply dY|apply aC|apply bI|intro⟩
instance aXY: TC (λn=>Bw n f):=⟨aY (by repeat' first|apply dY|apply aC|apply bI|intro)⟩
instance aXX: TC (λn=>Bt n f):=⟨aY (by repeat' first|apply dY|apply aC|apply bI|intro)⟩
instance aXW: TC (λn=>Bq n f):=⟨aY (by repeat' first|apply dY|apply aC|apply bI|intro)⟩
instance aXV: TC (λn=>Bn n f):=⟨aY (by repeat' first|apply dY|apply aC|apply bI|intro)⟩
instance aXU: TC (λn=>pM n f):=⟨aY (by repeat' first|apply dY|apply aC|apply bI|intro)⟩
end
section
variable (l:List aD)(hl:l.length<=1000)
include hl
theorem aTD(i:Nat): Sx (λn m=>nZ mC n m (l,ln l) (i:Int)):=
 bK (bC (λx c a=>by
  rw[bU (by omega)];exact bI λ_=>aC (λ_=>aA trivial) λ_=>aTD (i+1))
  (λb=>aA trivial))
termination_by l.length-i
theorem aVU: Sx (λn _=>Bz n l):=
 aY (aS (f:=λn _=>Bx n l) (Q:=λ_=>True) (R:=λ_=>True) (aY (aS (aX (aTD l hl 0)) (λ_ _=>aA trivial) λ_ _=>aF rfl (aA trivial))) (λ_ _=>aC (λ_=>aA trivial) λ_=>aA trivial) λ_ _=>aF rfl (aA trivial))
theorem aTC(i:Nat): Sx (λn m=>nZ mB n m (l,ln l) (i:Int)):=
 bK (bC (λx c a=>by
  rw[bU (by omega)];exact bI λ_=>aC (λ_=>aA trivial) λ_=>aTC (i+1))
  (λb=>aA trivial))
termination_by l.length-i
theorem aVT: Sx (λn _=>Bv n l):=
 aY (aS (f:=λn _=>Bu n l) (Q:=λ_=>True) (R:=λ_=>True) (aY (aS (aX (aTC l hl 0)) (λ_ _=>aA trivial) λ_ _=>aF rfl (aA trivial))) (λ_ _=>aC (λ_=>aA trivial) λ_=>aA trivial) λ_ _=>aF rfl (aA trivial))
theorem aTB(i:Nat): Sx (λn m=>nZ mA n m (l,ln l) (i:Int)):=
 bK (bC (λx c a=>by
  rw[bU (by omega)];exact bI λ_=>aC (λ_=>aA trivial) λ_=>aTB (i+1))
  (λb=>aA trivial))
termination_by l.length-i
theorem aVS: Sx (λn _=>Bs n l):=
 aY (aS (f:=λn _=>Br n l) (Q:=λ_=>True) (R:=λ_=>True) (aY (aS (aX (aTB l hl 0)) (λ_ _=>aA trivial) λ_ _=>aF rfl (aA trivial))) (λ_ _=>aC (λ_=>aA trivial) λ_=>aA trivial) λ_ _=>aF rfl (aA trivial))
theorem aTA(i:Nat): Sx (λn m=>nZ lZ n m (l,ln l) (i:Int)):=
 bK (bC (λx c a=>by
  rw[bU (by omega)];exact bI λ_=>aC (λ_=>aA trivial) λ_=>aTA (i+1))
  (λb=>aA trivial))
termination_by l.length-i
theorem aVR: Sx (λn _=>Bp n l):=
 aY (aS (f:=λn _=>Bo n l) (Q:=λ_=>True) (R:=λ_=>True) (aY (aS (aX (aTA l hl 0)) (λ_ _=>aA trivial) λ_ _=>aF rfl (aA trivial))) (λ_ _=>aC (λ_=>aA trivial) λ_=>aA trivial) λ_ _=>aF rfl (aA trivial))
theorem fI3(j:∀f∈l,f.Parts.length<=1000)(m:List (Aae×Bool)): Sx (λn _=>Fz n (m,l)):=by
 have o:∀(a:Int) (p:List Int) (d:p.length<=1000) (k i:Nat) (m:List (Aae×Bool)),p.length<=i+k->Sx (λn k=>nZ nK n k (a,p,ln p) (m,(i:Int))):=by
  intro a p d k;induction k with
  | zero=>exact λi m h=>bK (bC (λx c b=>by omega) λ_=>aA trivial)
  | succ k e=>
   intro i m h;refine bK (bC (λx c b=>?_) λ_=>aA trivial);rw[bU (by omega)];exact aC (λ_=>aA trivial) λ_=>e (i+1) _ (by omega)
 have q:∀(m:List (Aae×Bool)) (f:aD),f.Parts.length<=1000->Sx (λn _=>Fx n (m,f)):=λm f d=>
  aY (aS (f:=λn _=>Fv n f) (Q:=λ_=>True) (R:=λ_=>True) (bI λ_=>aC (λ_=>aA trivial) λ_=>aC (λ_=>aA trivial) λ_=>aA trivial) (λ_ _=>aA trivial) λ_ _=>aF rfl (aS (aX (o _ _ d _ 0 _ (Xg ..))) (λ_ _=>aA trivial) λ_ _=>aF rfl (aA trivial)))
 have g:∀(k i:Nat) (m:List (Aae×Bool)),l.length<=i+k->Sx (λn k=>nZ nL n k (l,ln l) (m,(i:Int))):=by
  intro k;induction k with
  | zero=>exact λi m h=>bK (bC (λx c b=>by omega) λ_=>aA trivial)
  | succ k e=>
   intro i m h;refine bK (bC (λx c b=>?_) λ_=>aA trivial);rw[bU (by omega)];exact aS (q _ x (j x (Zf c))) (λ_ _=>e (i+1) _ (by omega)) λ_ _=>aF rfl (aA trivial)
 exact aY (aS (f:=λn _=>Fy n (m,l)) (Q:=λ_=>True) (R:=λ_=>True) (aY (aS (aX (g _ 0 m (Xg ..))) (λ_ _=>aA trivial) λ_ _=>aF rfl (aA trivial))) (λ_ _=>aC (λ_=>aA trivial) λ_=>aA trivial) λ_ _=>aF rfl (aA trivial))
end
theorem aAC(l:List Int)(x:Int)(b:l.length<=100000): aB (λn _=>oB n l x) λr=>r=decide (x∈l):=
 aV (λ_=>rfl) (aE (zO l x b) λr a=>aC (λh=>aA (by rw[<-a,h])) λh=>aA (by rw[<-a,h]))
theorem aQL(p:aM)(b:Sm p)(f:aD)(l:List Int)(j:l.length<=1000): Tt (λn _=>nH n (p,f,l)):=by
 have d:∀x:Int,Tt (λn _=>xR n (p,f,x)):=λx=>
  aY (bI λ_=>aC (λ_=>aE (RQ p b x) λ_ _=>aC (λ_=>aA trivial) λ_=>aA trivial) λ_=>aC (λ_=>aE (aM6 p b x) λ_ _=>aC (λ_=>aA trivial) λ_=>aA trivial) λ_=>aC (λ_=>aE (aAC p.Faces x (by have:=b.f;omega)) λ_ _=>aC (λ_=>aA trivial) λ_=>aA trivial) λ_=>aA trivial)
 have c:∀(k i:Nat),l.length<=i+k->Sx (λn k=>nZ gI n k (p,f,l,ln l) (i:Int)):=by
  intro k;induction k with
  | zero=>exact λi h=>bK (bC (λx g a=>by omega) λ_=>aA trivial)
  | succ k e=>
   intro i h;refine bK (bC (λx g a=>?_) λ_=>aA trivial);rw[bU (by omega)];exact aE (d x) λ_ _=>aC (λ_=>aA trivial) λ_=>e (i+1) (by omega)
 exact aY (aE (f:=λn _=>xS n (p,f,l)) (Q:=λ_=>True) (aY (aS (aX (c _ 0 (Xg ..))) (λ_ _=>aA trivial) λ_ _=>aF rfl (aA trivial))) λ_ _=>aC (λ_=>aA trivial) λ_=>aA trivial)
theorem fI9(s:aJ)(d:sE s): Sx (λn _=>Fw n (s,s.Features)):=by
 have c:∀f∈s.Features,Tt (λn _=>Cb n (s,f)):=λf g=>
  aY (aE (f:=λn _=>Ca n (s.Plan,f)) (Q:=λ_=>True) (aY (aE (aQL s.Plan d.p f f.Parts (d.f f g)) λ_ _=>aC (λ_=>aA trivial) λ_=>aA trivial)) λ_ _=>aC (λ_=>aA trivial) λ_=>aA trivial)
 have b:∀(k i:Nat),s.Features.length<=i+k->Sx (λn k=>nZ mD n k (s,s.Features,ln s.Features) (i:Int)):=by
  have:=d.n;intro k;induction k with
  | zero=>exact λi h=>bK (bC (λx e a=>by omega) λ_=>aA trivial)
  | succ k j=>
   intro i h;refine bK (bC (λx e a=>?_) λ_=>aA trivial);rw[bU (by omega)];exact aE (c x (Zf e)) λ_ _=>aC (λ_=>aA trivial) λ_=>j (i+1) (by omega)
 exact aY (aS (f:=λn _=>Cc n (s,s.Features)) (Q:=λ_=>True) (R:=λ_=>True) (aY (aS (aX (b _ 0 (Xg ..))) (λ_ _=>aA trivial) λ_ _=>aF rfl (aA trivial))) (λ_ _=>aC (λ_=>aA trivial) λ_=>aA trivial) λ_ _=>aF rfl (aA trivial))
theorem aPu(l:List Int)(a:l.length<=1000): aB (λn _=>sZ n l) (λr=>r=true->Asc l):=
 aV (λ_=>rfl) (aS (aX (J1 l a 1 (Zg _) (λj x y h=>by omega))) (λ_ _=>aA (by simp)) λ_ h=>aF rfl (aA λ_=>h))
theorem aVQ(s:aJ)(g:sE s): Sx (λn _=>Bm n (s,0,s.Features)):=by
 have q:=g.n;have b:∀(i:Nat) (f:aD),f∈s.Features->i<s.Features.length->Tt (λn _=>Bh n (s,((i+1:Nat):Int),f)):=by
  intro i f m p;have j:=aPu f.Parts (g.f f m);refine aC (λh=>?_) λ_=>aE j λ_ _=>aC (λ_=>aA trivial) λ_=>aA trivial;have h:((i+1:Nat):Int) > 1:=Zh h;have e:wr (((i+1:Nat):Int)-2)=((i-1:Nat):Int):=by rw[wr,i64_in _ (by omega)];omega
  refine aF (x:=s.Features[i-1]'(by omega)) (by rw[e,bM];exact Za (by omega)) (aC (λ_=>aA trivial) λ_=>aE j λ_ _=>aC (λ_=>aA trivial) λ_=>aA trivial)
 have c:∀(k i:Nat),s.Features.length<=i+k->Sx (λn k=>nZ lY n k (s,s.Features,ln s.Features) ((i:Int),(i:Int))):=by
  intro k;induction k with
  | zero=>exact λi h=>bK (bC (λx d a=>by omega) λ_=>aA trivial)
  | succ k l=>
   intro i h;refine bK (bC (λx d a=>?_) λ_=>aA trivial);rw[bU (by omega)];refine aE (f:=λn _=>Bk n (s,(i:Int),x)) (Q:=λr=>r.1=((i+1:Nat):Int)) (aY ?_) λr o=>aC (λ_=>aA trivial) λ_=>by rw[o];exact l (i+1) (by omega)
   have e:=bU (i:=i) (by omega);have h:=b i x (Zf d) a;rw[<-e] at h |-;exact aE h λ_ _=>aC (λ_=>aA rfl) λ_=>aA rfl
 exact aY (aS (f:=λn _=>Bl n (s,0,s.Features)) (Q:=λ_=>True) (R:=λ_=>True) (aY (aS (aX (c _ 0 (Xg ..))) (λ_ _=>aA trivial) λ_ _=>aF rfl (aA trivial))) (λ_ _=>aC (λ_=>aA trivial) λ_=>aA trivial) λ_ _=>aF rfl (aA trivial))
theorem Kb{β γ:Type}{f:Nat->Nat->Option (β⊕γ)}{N:Nat->Nat->Option Int}{q:β->Bool}{c:Int}(h:Sx f)(k:Tt N): Tt (λn m=>Av.bnd2 (f n m) (λv=>Av.cnd (q v) (some c) (N n m)) λw=>Av.bnd (some w) λ_=>N n m):=
 aS h (λ_ _=>aC (λ_=>aA trivial) λ_=>k) λ_ _=>aF rfl k
theorem aVP(l:List aD)(m:l.length<=1000): aB (λn _=>Bj n l) (Su (λv=>v.2=true) λ_=>∀f∈l,f.Parts.length<=64):=by
 have d:∀(k i:Nat),l.length<=i+k->vV l i (λf=>f.Parts.length<=64)->aB (λn k=>nZ lX n k (l,ln l) (i:Int)) (Su (λv=>0<=v.2) λ_=>∀f∈l,f.Parts.length<=64):=by
  intro k;induction k with
  | zero=>exact λi h b=>bK (bC (λx e c=>by omega) λa=>aA (b.fin a))
  | succ k g=>
   intro i h b;refine bK (bC (λx e c=>?_) λa=>aA (b.fin a));rw[bU (by omega)];refine aE (f:=λn _=>pM n x) (Q:=λr=>r=false->x.Parts.length<=64) (aY (aC (λ_=>aA (by simp)) λh=>aA λ_=>by have h:¬ln x.Parts > 64:=Zk h;unfold ln at h;omega)) λr j=>aC (λ_=>aA (show (0:Int)<=(i:Int) by omega)) λh=>g (i+1) (by omega) (b.step e (j h))
 refine aY (aS (f:=λn _=>Bi n l) (Q:=λv:aD×Int=>0<=v.2) (R:=λ_=>∀f∈l,f.Parts.length<=64) (aY (aS (aX (d _ 0 (Xg ..) .nil)) (λv h=>aA (show 0<=v.2 from h)) λ_ h=>aF rfl (aA (by exact h)))) (λv o=>aC (λ_=>aA rfl) λh=>?_) λ_ h=>aF rfl (aA (by exact h)));have:=Zk h;omega
structure FE(s:aJ): Prop where
 v:tB s.Plan
 n:s.Features.length<=128
 f:∀f∈s.Features,f.Parts.length<=64
theorem tB.sm{p:aM}(h:tB p): Sm p:=⟨by have:=h.leN;omega,by have:=h.leA;omega,by have:=h.leF;omega,λa b=>by have:=h.leV a b;omega⟩
theorem FE.ok{s:aJ}(h:FE s): sE s:=⟨h.v.sm,by have:=h.n;omega,λf a=>by have:=h.f f a;omega⟩
theorem QA(o:Rq)(s:aJ)(a:sE s): aB (λn _=>fI n s) λr=>r=0->FE s:=by
 obtain⟨v,_,e,_,j⟩:=RK o s.Plan a.p;refine aV (λ_=>rfl) (aE j λr m=>aC (λb=>aA λh=>by rw[show r=0 from h] at b;simp at b) λb=>aC (λ_=>aA (by simp)) λd=>aE (f:=λn _=>Gb n s) (Q:=λ_=>True) (aY (aA trivial)) λ_ _=>aE (f:=λn _=>Ga n ()) (Q:=λ_=>True) (aY (aA trivial)) λc _=>L0 ?_);have l:r=0:=by simpa using b
 have i:=(e (by rw[<-m];exact l)).1;have g:s.Features.length<=128:=by have h:¬ln s.Features > 128:=Zk d;unfold ln at h;omega
 refine aS (aVP _ a.n) (λv e=>aC (λ_=>aA (by simp)) λh=>by rw[show v.2=true from e] at h;cases h) λ_ k=>aF rfl (aB.imp (P:=λ_=>True) ?_ λ_ _ _=>⟨i,g,k⟩);exact Kb (aVQ s a) (Kb (aVR _ a.n) (Kb (aVS _ a.n) (Kb (aVT _ a.n) (Kb (aVU _ a.n) (Kb (fI9 s a) (Kb (fI3 _ a.n a.f c) (aA trivial)))))))
theorem aHc(l:List Int)(d:l.length<=1000)(i:Nat): aB (λn m=>nZ uB n m (l,ln l) (i:Int)) (Su (λv=>(l.drop i).find? (· != 0)=some v) λ_=>(l.drop i).find? (· != 0)=none):=
 bK (bC (λx b c=>by
  rw[bU (by omega)];refine aC (λh=>aA (aFI b h)) λh=>?_;have e:=aFJ (q:=(· != (0:Int))) b h;rw[e];exact aHc l d (i+1)) (λa=>aA (aFK a)))
termination_by l.length-i
def orV(c d:Int): Int:=([c,d].find? (· != 0)).getD 0
theorem aVA(c d:Int): aB (λn _=>Ju n [c,d]) λr=>r=orV c d:=
 aV (λ_=>rfl) (aS (aX (aHc [c,d] (by simp) 0)) (λv h=>aA (by unfold orV;rw[show[c,d].find? (· != 0)=some v from h];rfl)) λ_ h=>aF rfl (aA (by unfold orV;rw[show[c,d].find? (· != 0)=none from h];rfl)))
def LK(x:Int): Int:=nE x (wr (0-x))
def aIK(c d:Int): Int:=orV (WN (LK c) (LK d)) (WN d c)
theorem B7(c d:Int): aIK c d<0↔LK c<LK d\/(LK c=LK d/\d<c):=by
 unfold aIK orV WN;by_cases e:LK c<LK d
 .simp[e]
 .by_cases g:LK c > LK d
  .have:¬LK c=LK d:=by omega
   simp[e,g,this]
  .have:LK c=LK d:=by omega
   by_cases b:d<c
   .simp[this,b]
   .by_cases f:d > c
    .simp[this,b,f]
    .simp[this,b,f]
theorem aO4(c d:Int): aB (λn _=>mY n c d) λr=>r=aIK c d:=
 aV (λ_=>rfl) (aE (jH _ _) λx e=>aE (jH _ _) λy a=>aE (aVA x y) λz b=>aA (by subst e a b;rfl))
theorem B1(l:List Int)(a:l.length<=800000)(i:Nat)(s:Int): Tt (λn m=>sV tQ n m (l,ln l) (s,(i:Int))):=
 cG (bC (λx d b=>by
  rw[bU (by omega)];refine aE (Q:=λ_=>True) ?_ λ_ _=>aC (λ_=>B1 l a (i+1) _) λ_=>B1 l a (i+1) _;exact aC (λ_=>aA trivial) λ_=>aC (λ_=>aC (λ_=>aA trivial) λ_=>aA trivial) λ_=>aA trivial) (λc=>aA trivial))
termination_by l.length-i
theorem aT1(l:List Int)(a:l.length<=800000)(e:l≠[]): Tt (λn _=>mX n l):=by
 obtain⟨d,t,rfl⟩:∃d t,l=d::t:=by
  cases l with
  | nil=>exact absurd rfl e
  | cons d t=>exact⟨d,t,rfl⟩
 exact aV (g:=λn=>bnd (idx (d::t) 0) λb=>bnd (Vv n (d::t,ln (d::t)) (b,0)) λc=>some c) (λ_=>rfl) (aF (x:=d) rfl (aE (aX (B1 _ a 0 d)) λ_ _=>aA trivial))
open Classical in
noncomputable def aIJ(l:List Int): Int:=if h:∃k,aB (λn _=>mX n l) (λr=>r=k) then h.choose else 0
theorem aLm(l:List Int)(b:l.length<=800000)(a:l≠[]): aB (λn _=>mX n l) λr=>r=aIJ l:=by
 have h:∃k,aB (λn _=>mX n l) (λr=>r=k):=by
  obtain⟨k,_,h⟩:=(aT1 l b a).val;exact⟨k,h⟩
 unfold aIJ;rw[WB h];exact h.choose_spec
theorem aUr(x y:dR)(d:x.outer.length<=800000/\x.outer≠[])(c:y.outer.length<=800000/\y.outer≠[]): aB (λn _=>mT n x y) λr=>r=aIK (aIJ x.outer) (aIJ y.outer):=
 aV (λ_=>rfl) (aE (aLm _ d.1 d.2) λa g=>aE (aLm _ c.1 c.2) λb e=>aE (aO4 a b) λr f=>aA (by rw[f,g,e]))
theorem aSC{α:Type}(k:α->Int)(l:List α): Swo (λx y=>aIK (k x) (k y)) l where
 ir x _:=by rw[B7];omega
 tr x _ y _ z _:=by simp only[B7];omega
 ti x _ y _ z _:=by simp only[B7];omega
def LF(a:aP): aP:=⟨a.ID,a.From,a.To,a.Via,0,0⟩
theorem aA9(f:List Int)(b:List Aac)(l:List aP)(o:l.length<=300)(j:∀a∈l,a.Via.length<=300)(i:Nat)(h:List aP)(d:h=(l.take i).map LF): aB (λn m=>sV lA n m (f,b,l,ln l) (h,(i:Int))) λr=>r=l.map LF:=
 cG (bC (λx g k=>aE (aEu x.Via (by have:=j x (Zf g);omega)) λv e=>aF (AL (by rw[d];simp;omega)) (by
  rw[bU (by omega)];refine aA9 f b l o j (i+1) _ ?_;rw[d,e,YZ,g];simp[LF]))
  (λc=>aA (show h=_ by rw[d,ZY c])))
termination_by l.length-i
theorem aUt(a:Int)(l:List Int)(c:l.length<=800000)(i:Nat)(m:List (Int×Int)): Tt (λn k=>sV oX n k (a,l,ln l) (m,(i:Int))):=
 cG (bC (λx e b=>by
  rw[bU (by omega)];exact aUt a l c (i+1) _) (λd=>aA trivial))
termination_by l.length-i
theorem aUu(a:Int)(l:List (List Int))(f:l.length<=800000)(b:∀c∈l,c.length<=800000)(i:Nat)(m:List (Int×Int)): Tt (λn k=>sV oY n k (a,l,ln l) (m,(i:Int))):=
 cG (bC (λx e d=>by
  rw[bU (by omega)];exact aE (aX (aUt a x (b x (Zf e)) 0 m)) λ_ _=>aUu a l f b (i+1) _) (λg=>aA trivial))
termination_by l.length-i
def aGq(l:List Int)(k:Nat): Prop:=l=(List.range k).map λj=>((j+1:Nat):Int)
theorem aUv(b:List aP)(c d:List Aac)(e:List dR)(w:Nat×Nat)(v:w.1+w.2<=e.length)(u:w.2<=1000)(o:∀a∈e,a.outer.length<=800000/\a.inner.length<=200000/\∀c∈a.inner,c.length<=800000)(i:Nat)(y:i<=w.2)(l:List Int)(f:aGq l i)(m:List (Int×Int)):
 aB (λn k=>sV oZ n k (b,c,d,e,w,((w.2:Nat):Int)) (l,m,(i:Int))) λr=>aGq r.1 w.2:=by
 refine cG (aC (λh=>?_) λh=>aA ?_)
 .have h:(i:Int)<((w.2:Nat):Int):=Zh h;have h:i<w.2:=by omega
  have x:idx (win e (some w)) (i:Int)=some (e[w.1+i]'(by omega)):=by
   rw[bM];simp only[win];rw[XQ h,Zw,Za (by omega)]
  have e2:idx e ((i:Int)+((w.1:Nat):Int))=some (e[w.1+i]'(by omega)):=by
   rw[show (i:Int)+((w.1:Nat):Int)=((w.1+i:Nat):Int) by omega,bM,Za (by omega)]
  have j:=o _ (ZR (show w.1+i<e.length by omega));have q:l.length=i:=by rw[f];simp
  rw[bU (by omega)];refine aF x (aF e2 (aF (AL (by omega)) (aE (aLS _ j.2.1) λs p=>aE (aX (aUu _ s (by rw[p];simp;omega) (by
   rw[p];intro c g;rcases ZO.1 g with rfl | g
   .exact j.1
   .exact j.2.2 c g) 0 m)) λt _=>aUv b c d e w v u o (i+1) (by omega) _ (by unfold aGq at f |-;rw[List.range_succ,YJ,<-f];rfl) t)))
 .have h:¬(i:Int)<((w.2:Nat):Int):=Zk h;have:i=w.2:=by omega
  exact this▸f
termination_by w.2-i
def mR(l:List aP)(k:Nat): Prop:=l.length=k/\∀a∈l,a.Via.length<=300
theorem hP{α:Type}{l:List α}{i k:Nat}(h:i<k): fU l k (i:Int)=l[i]?:=by
 unfold fU;rw[Zu ⟨by omega,by simpa using h⟩];simp
theorem mR.set{l:List aP}{k i:Nat}{a b:aP}(h:mR l k)(e:l[i]?=some a)(d:b.Via=a.Via): mR (l.set i b) k:=⟨by rw[Yq];exact h.1,λx c=>by
 rcases YL c with c | rfl
 .exact h.2 x c
 .rw[d];exact h.2 a (Zf e)⟩
theorem aUs(f:List Int)(b c:List Aac)(d:List (Int×Int))(k:Nat)(o:k<=300)(i:Nat)(l:List aP)(g:mR l k): aB (λn m=>sV oW n m (f,b,c,d,(k:Int)) (l,(i:Int))) λr=>mR r k:=by
 refine cG (aC (λh=>?_) λh=>aA g);have h:(i:Int)<(k:Int):=Zh h;have e:i<l.length:=by rw[g.1];omega
 have j:fU l l.length (i:Int)=some l[i]:=by rw[hP e];exact Za e
 have e2:idx l (i:Int)=some l[i]:=by rw[bM];exact Za e
 rw[bU (by omega)];have A:=g.set (b:=⟨l[i].ID,l[i].From,l[i].To,l[i].Via,Option.getD (bD d l[i].ID) 0,l[i].Right⟩) (Za e) rfl;generalize t:l.set i ⟨l[i].ID,l[i].From,l[i].To,l[i].Via,Option.getD (bD d l[i].ID) 0,l[i].Right⟩=q at A;have a:i<q.length:=by rw[A.1];omega
 have s:fU q q.length (i:Int)=some q[i]:=by rw[hP a];exact Za a
 have p:idx q (i:Int)=some q[i]:=by rw[bM];exact Za a
 refine aF j (aF e2 (aF j (aF e2 ?_)));simp only[YA];rw[t];refine aF s (aF p (aUs f b c d k o (i+1) _ ?_));exact A.set (Za a) rfl
termination_by k-i
theorem aOO(U:Rq)(p:aM)(w:Sm p): aB (λn _=>Jb n p) λr=>Sm r.1/\(r.2=0->r.1.Arcs.length=p.Arcs.length/\aGq r.1.Faces r.1.Faces.length):=by
 have L:=w.n;have B:=w.a;have z:Sm ⟨p.Nodes,p.Arcs.map LF,[]⟩:=⟨L,by simp;omega,by simp,λa e=>by
  obtain⟨x,t,rfl⟩:=Yi.1 e;exact w.v x t⟩
 have N:Sm ⟨[],[],[]⟩:=⟨by simp,by simp,by simp,by simp⟩;refine aV (λ_=>rfl) (aE (f:=λn _=>Kt n p) (Q:=λr=>r=(p.Arcs.map LF,[],p.Nodes,p.Nodes)) (aY (aE (aEu p.Nodes (by omega)) λc I=>aE (aX (aA9 [] c p.Arcs B w.v 0 [] rfl)) λd V=>aA (by rw[I,V]))) λb G=>?_);subst G;refine aE (aEM _ z) λc I=>aC (λb=>aA ⟨N,λh=>by rw[show c.2=0 from h] at b;simp at b⟩) λb=>?_;obtain⟨K,H⟩:=I (by simpa using b);refine aE (V8 _ z K) λm S=>aE (U _ c.1 m z K H S) λf k=>?_;have X:=k.l1;have W:=k.l2;refine aF (x:=(1,f.length-1)) (by unfold sub;rw[Zu ⟨by omega,by unfold ln;omega,by unfold ln;simp⟩];simp[ln]) (aC (λ_=>aA ⟨N,λh=>by cases h⟩) λu=>?_);have u:¬((f.length-1:Nat):Int) > 64:=Zk u;have J:win f (some (1,f.length-1))=f.drop 1:=by simp only[win];rw[ZY (by simp)]
 have i:∀x∈win f (some (1,f.length-1)),x∈f/\x.outer≠[]:=by
  rw[J];intro x t;obtain⟨j,D⟩:=Yj.1 t;rw[Zw] at D;exact⟨Zf D,k.ne (1+j) x (by omega) D⟩
 refine aY (aF (Ds (Yk ⟨by omega,by show 1+(f.length-1)<=_;omega⟩)) (aE (b9 (F:=λn x y=>bnd (mT n x y) λl=>some l) (g:=λx y=>aIK (aIJ x.outer) (aIJ y.outer)) (λx t y R=>aE (aUr x y ⟨k.ou x (i x t).1,(i x t).2⟩ ⟨k.ou y (i y R).1,(i y R).2⟩) λ_ h=>aA h) (aSC _ _)) λq M=>?_));have T:q.length=f.length-1:=by rw[M.1,J];simp
 have s:∀a∈aU f 1 q,a∈f:=by
  intro a e;unfold aU at e;rcases ZD.1 e with e | e
  .exact Z9 e
  rcases ZD.1 e with e | e
  .exact (i a (M.2 a e)).1
  .exact Z1 e
 have C:(aU f 1 q).length=f.length:=by unfold aU;simp;omega
 refine aE (FD (f:=λn=>Ks n (p.Arcs.map LF,p.Nodes,p.Nodes,aU f 1 q,(1,f.length-1),((f.length-1:Nat):Int)) ([],[],0)) (aX (aUv _ _ _ _ (1,f.length-1) (by rw[C];show 1+(f.length-1)<=_;omega) (by show f.length-1<=_;omega) (λa e=>⟨k.ou a (s a e),(k.inn a (s a e)).1,(k.inn a (s a e)).2⟩) 0 (by omega) [] rfl []))) λo O=>aE (FD (f:=λn=>Kr n (o.1,p.Nodes,p.Nodes,o.2,((p.Arcs.map LF).length:Int)) (p.Arcs.map LF,0)) (aX (aUs _ _ _ _ (p.Arcs.map LF).length (by simp;omega) 0 _ ⟨rfl,z.v⟩))) λr A=>aA ?_;have E:o.1.length=f.length-1:=by rw[O];simp
 refine⟨⟨L,by show r.length<=_;rw[A.1];simp;omega,by show o.1.length<=_;omega,A.2⟩,λ_=>⟨by show r.length=_;rw[A.1];simp,by show aGq o.1 o.1.length;rw[E];exact O⟩⟩
theorem t6{α:Type}{l:List α}(z:α)(h:l.length<=900000): rep z (ln l) (ln l)=some (List.replicate l.length z):=by
 unfold rep ln;rw[Zu ⟨by omega,by omega,by omega⟩];simp
theorem H5{α:Type}(l:List α)(z:α): cpy (List.replicate l.length z) (0,(List.replicate l.length z).length) l=some l:=by
 unfold cpy aU;rw[Zu ⟨by simp,by simp⟩];simp
theorem aTu(l:List Aac)(h:l.length<=900000): aB (λn _=>pQ n l) λr=>r=l:=
 aV (λ_=>rfl) (aF (t6 _ h) (aF (H5 l _) (aF rfl (aA rfl))))
theorem aQT(l:List aP)(h:l.length<=900000): aB (λn _=>mP n l) λr=>r=l:=
 aV (λ_=>rfl) (aF (t6 _ h) (aF (H5 l _) (aF rfl (aA rfl))))
theorem aLk(l:List Int)(h:l.length<=900000): aB (λn _=>gQ n l) λr=>r=l:=
 aV (λ_=>rfl) (aF (t6 _ h) (aF (H5 l _) (aA rfl)))
theorem aTv(l:List aD)(h:l.length<=900000): aB (λn _=>jX n l) λr=>r=l:=
 aV (λ_=>rfl) (aF (t6 _ h) (aF (H5 l _) (aF rfl (aA rfl))))
theorem aQS(l:List Aaa)(h:l.length<=900000): aB (λn _=>iY n l) λr=>r=l:=
 aV (λ_=>rfl) (aF (t6 _ h) (aF (H5 l _) (aA rfl)))
theorem aL4(a:List Int)(b:List Aac)(c:List aD)(l:List aP)(j:l.length<=300)(g:∀x∈l,x.Via.length<=300)(i:Nat): aB (λn m=>sV mV n m (a,b,c,ln l) (l,(i:Int))) λr=>r=l:=by
 refine cG (aC (λh=>?_) λ_=>aA rfl);have h:(i:Int)<ln l:=Zh h;have d:i<l.length:=by unfold ln at h;omega
 have f:fU l l.length (i:Int)=some l[i]:=by rw[hP d];exact Za d
 have e2:idx l (i:Int)=some l[i]:=by rw[bM];exact Za d
 rw[bU (by omega)];refine aF f (aF e2 (aE (aQS l[i].Via (by have:=g l[i] (ZR d);omega)) λv e=>aF f (aF e2 ?_)));subst e;simp only[YA];rw[show l.set i ⟨l[i].ID,l[i].From,l[i].To,l[i].Via,l[i].Left,l[i].Right⟩=l from WI d];exact aL4 a b c l j g (i+1)
termination_by l.length-i
theorem aL3(a:List Int)(b:List Aac)(c:List aP)(l:List aD)(j:l.length<=1000)(g:∀x∈l,x.Parts.length<=1000)(i:Nat): aB (λn m=>sV mU n m (a,b,c,ln l) (l,(i:Int))) λr=>r=l:=by
 refine cG (aC (λh=>?_) λ_=>aA rfl);have h:(i:Int)<ln l:=Zh h;have d:i<l.length:=by unfold ln at h;omega
 have f:fU l l.length (i:Int)=some l[i]:=by rw[hP d];exact Za d
 have e2:idx l (i:Int)=some l[i]:=by rw[bM];exact Za d
 rw[bU (by omega)];refine aF f (aF e2 (aE (aLk l[i].Parts (by have:=g l[i] (ZR d);omega)) λv e=>aF f (aF e2 ?_)));subst e;simp only[YA];rw[show l.set i ⟨l[i].ID,l[i].Kind,l[i].Class,l[i].Name,l[i].Parts⟩=l from WI d];exact aL3 a b c l j g (i+1)
termination_by l.length-i
theorem aOg(s:aJ)(m:sE s): aB (λn _=>EY n s) λr=>r=s:=by
 obtain⟨⟨v,o,u,q⟩,p,t⟩:=m;refine aV (λ_=>rfl) (aE (aTu _ (by omega)) λb i=>aE (aQT _ (by omega)) λc l=>aE (aLk _ (by omega)) λd j=>aE (aTv _ (by omega)) λf e=>?_);subst i l j e;exact aE (aX (aL4 _ _ _ _ o q 0)) λg k=>aE (aX (aL3 _ _ _ _ p t 0)) λh a=>aA (by rw[k,a])
theorem aTj(s:aJ)(m:sE s): aB (λn _=>Lm n s) λr=>r=(s.Plan.Faces,s.Plan.Nodes,s.Plan.Arcs,s.Features,s.Plan.Faces):=by
 obtain⟨⟨v,o,u,q⟩,p,t⟩:=m;refine aY (aE (aTu _ (by omega)) λb i=>aE (aQT _ (by omega)) λc l=>aE (aLk _ (by omega)) λd j=>aE (aTv _ (by omega)) λf e=>?_);subst i l j e;exact aE (aX (aL4 _ _ _ _ o q 0)) λg k=>aE (aX (aL3 _ _ _ _ p t 0)) λh a=>aA (by rw[k,a])
instance aXS{x:Int}: TC (λn=>Lo n x):=⟨by repeat' first|apply dY|apply aC|apply bI|intro⟩
instance aXT{x:bF}: TC (λn=>Lp n x):=⟨by repeat' first|apply dY|apply aC|apply bI|intro⟩
instance aXR{x:bF}: TC (λn=>Ln n x):=⟨by repeat' first|apply dY|apply aC|apply bI|intro⟩
instance aWK{x:bF}: TC (λn=>Jq n x):=⟨aV (λ_=>rfl) (by repeat' first|apply dY|apply aC|apply bI|intro)⟩
instance aYq{b:U0}{x:Aaa}: TC (λn=>E5 n (b,x)):=⟨by repeat' first|apply dY|apply aC|apply bI|intro⟩
instance aYp{b:U0}{x:Aaa}: TC (λn=>aBL n b x):=⟨aV (λ_=>rfl) (by repeat' first|apply dY|apply aC|apply bI|intro)⟩
instance aX9{x:Int}: TC (λn=>eG n x):=⟨aY (by repeat' first|apply dY|apply aC|apply bI|intro)⟩
instance aX8{x:Aaa}: TC (λn=>iA n x):=⟨aY (by repeat' first|apply dY|apply aC|apply bI|intro)⟩
instance aWB{x:Int}: TC (λn=>Li n x):=⟨aY (by repeat' first|apply dY|apply aC|apply bI|intro)⟩
instance aWA{x:Int}: TC (λn=>Lh n x):=⟨by repeat' first|apply dY|apply aC|apply bI|intro⟩
instance aW9{x:bF}: TC (λn=>Lg n x):=⟨by repeat' first|apply dY|apply aC|apply bI|intro⟩
theorem aSU(l:List Aaa)(b:l.length<=1000)(i:Nat): Sx (λn m=>nZ rS n m (l,ln l) (i:Int)):=
 bK (bC (λx d a=>by
  rw[bU (by omega)];exact bI λ_=>aC (λ_=>aA trivial) λ_=>aSU l b (i+1)) (λc=>aA trivial))
termination_by l.length-i
theorem aV4(l:List Aaa)(a:l.length<=1000): Tt (λn _=>hZ n l):=
 aY (aE (f:=λn _=>Pz n l) (Q:=λ_=>True) (aY (aS (aX (aSU l a 0)) (λ_ _=>aA trivial) λ_ _=>aF rfl (aA trivial))) λ_ _=>aC (λ_=>aA trivial) λ_=>aA trivial)
theorem aST(l:List Int)(b:l.length<=1000)(i:Nat): Sx (λn m=>nZ rQ n m (l,ln l) (i:Int)):=
 bK (bC (λx d a=>by
  rw[bU (by omega)];exact bI λ_=>aC (λ_=>aA trivial) λ_=>aST l b (i+1)) (λc=>aA trivial))
termination_by l.length-i
theorem aV3(l:List Int)(a:l.length<=1000): Tt (λn _=>hU n l):=
 aY (aE (f:=λn _=>Py n l) (Q:=λ_=>True) (aY (aS (aX (aST l a 0)) (λ_ _=>aA trivial) λ_ _=>aF rfl (aA trivial))) λ_ _=>aC (λ_=>aA trivial) λ_=>aA trivial)
theorem aKu(e:bF)(b:e.Via.length<=1000)(a:e.Parts.length<=1000): Tt (λn _=>Qa n e):=by
 have c:TC (λn=>hZ n e.Via):=⟨aV4 _ b⟩;have f:TC (λn=>hU n e.Parts):=⟨aV3 _ a⟩;refine aV (λ_=>rfl) ?_;repeat' first|apply dY|apply aC|apply bI|intro
instance aYf{x:bF}: TC (λn=>AH n x):=⟨by repeat' first|apply dY|apply aC|apply bI|intro⟩
instance aYe{x:bF}: TC (λn=>AG n x):=⟨by repeat' first|apply dY|apply aC|apply bI|intro⟩
instance aYd{x:bF}: TC (λn=>AE n x):=⟨by repeat' first|apply dY|apply aC|apply bI|intro⟩
def U1(e:bF): Prop:=e.Via.length<=64/\e.Parts.length<=64
theorem aLI(e:bF): aB (λn _=>Js n e) λr=>r=0->U1 e:=by
 refine aV (λ_=>rfl) (bI λ_=>aC (λ_=>aA (by simp)) λ_=>bI λ_=>aC (λ_=>aA (by simp)) λ_=>bI λ_=>aC (λ_=>aA (by simp)) λ_=>aE (f:=λn _=>AF n e) (Q:=λr=>r=false->U1 e) (aC (λ_=>aA (by simp)) λb=>aC (λ_=>aA (by simp)) λc=>aA λ_=>?_) λr d=>aC (λ_=>aA (by simp)) λh=>?_)
 .have b:¬ln e.Via > 64:=Zk b;have c:¬ln e.Parts > 64:=Zk c;unfold ln at b c;exact⟨by omega,by omega⟩
 .have a:=d h;refine aE (aKu e (by have:=a.1;omega) (by have:=a.2;omega)) λ_ _=>aC (λ_=>aE (aPu e.Parts (by have:=a.2;omega)) λ_ _=>aC (λ_=>bI λ_=>aC (λ_=>aA (by simp)) λ_=>aA λ_=>a) λ_=>aA (by simp)) λ_=>aA (by simp)
def aWf(t:dH): Prop:=t.Edits.length<=64/\∀e∈t.Edits,U1 e
theorem aSB(l:List bF)(f:l.length<=64)(i:Nat)(b:vV l i U1): aB (λn m=>nZ wI n m (l,ln l) (i:Int)) (Su (λv=>v.2≠0) λ_=>∀e∈l,U1 e):=
 bK (bC (λx d c=>by
  rw[bU (by omega)];exact aE (aLI x) λr g=>aC (λh=>aA (show r≠0 by simpa using h)) λh=>aSB l f (i+1) (b.step d (g (by simpa using h)))) (λa=>aA (b.fin a)))
termination_by l.length-i
theorem aPX(x:Int)(h:0<=x/\x<=1000000000): IntKind.u64.wrap x=x:=by
 have e:IntKind.u64.wrap x=x % 18446744073709551616:=by simp[IntKind.wrap,IntKind.bits,IntKind.signed]
 rw[e];omega
theorem aHq(f g:Nat)(h:f+g<=10000000): wr (Int.fdiv (IntKind.u64.wrap (wr ((f:Int)+(g:Int)))) 2)=(((f+g) / 2:Nat):Int):=by
 have a:wr ((f:Int)+(g:Int))=((f+g:Nat):Int):=by rw[wr,i64_in _ (by omega)];omega
 rw[a,aPX _ (by omega),Int.fdiv_eq_ediv_of_nonneg _ (by omega),wr,i64_in _ (by omega)];omega
theorem OU(l:List Aac)(b:Int)(a:l.length<=1000)(f g:Nat)(e:f<=g)(c:g<=l.length): aB (λn m=>sV sD n m (l,b) ((f:Int),(g:Int))) λr=>0<=r/\r.toNat<=l.length:=by
 refine cG (aC (λh=>?_) λ_=>aA ⟨by show (0:Int)<=(f:Int);omega,by show (f:Int).toNat<=_;omega⟩);have h:(f:Int)<(g:Int):=Zh h;have d:(f+g) / 2<l.length:=by omega
 rw[aHq f g (by omega)];refine aF (x:=l[(f+g) / 2]) (by rw[bM];exact Za d) (aE (f:=λn _=>pP n (l[(f+g) / 2],b)) (Q:=λ_=>True) (aY (aE (jH _ _) λ_ _=>aA trivial)) λ_ _=>aC (λ_=>?_) λ_=>OU l b a f ((f+g) / 2) (by omega) (by omega));rw[bU (by omega)];exact OU l b a ((f+g) / 2+1) g (by omega) c
termination_by g-f
theorem IQ(a:aJ)(b:Int)(g:a.Plan.Nodes.length<=1000): aB (λn _=>oE n a b) λr=>0<=r.1/\r.1.toNat<=a.Plan.Nodes.length/\(r.2=true->r.1.toNat<a.Plan.Nodes.length):=by
 refine aV (λ_=>rfl) (aS (f:=λn _=>Qb n (a.Plan.Nodes,b)) (Q:=λv=>0<=v.2.1/\v.2.1.toNat<a.Plan.Nodes.length) (R:=λv=>0<=v/\v.toNat<=a.Plan.Nodes.length) (aY (aE (aX (OU _ b g 0 a.Plan.Nodes.length (by omega) (Zg _))) λf e=>aC (λh=>?_) λ_=>aA (by exact e))) (λv c=>aC (λ_=>aA ⟨c.1,by have:=c.2;show v.2.1.toNat<=_;omega,λ_=>c.2⟩) λ_=>aA ⟨c.1,by have:=c.2;show v.2.1.toNat<=_;omega,λh=>by cases h⟩) λv c=>aF rfl (aA ⟨c.1,c.2,λh=>by cases h⟩));have h:f<ln a.Plan.Nodes:=Zh h;have d:f.toNat<a.Plan.Nodes.length:=by unfold ln at h;omega
 exact aF (xJ e.1 d) (aE (f:=λn _=>pP n (a.Plan.Nodes[f.toNat],b)) (Q:=λ_=>True) (aY (aE (jH _ _) λ_ _=>aA trivial)) λ_ _=>aC (λ_=>aA (by exact⟨e.1,d⟩)) λ_=>aA (by exact⟨e.1,d⟩))
theorem J2(l:List aP)(b:Int)(a:l.length<=1000)(f g:Nat)(e:f<=g)(c:g<=l.length): aB (λn m=>sV uA n m (l,b) ((f:Int),(g:Int))) λr=>0<=r/\r.toNat<=l.length:=by
 refine cG (aC (λh=>?_) λ_=>aA ⟨by show (0:Int)<=(f:Int);omega,by show (f:Int).toNat<=_;omega⟩);have h:(f:Int)<(g:Int):=Zh h;have d:(f+g) / 2<l.length:=by omega
 rw[aHq f g (by omega)];refine aF (x:=l[(f+g) / 2]) (by rw[bM];exact Za d) (aE (f:=λn _=>sI n (l[(f+g) / 2],b)) (Q:=λ_=>True) (aY (aE (jH _ _) λ_ _=>aA trivial)) λ_ _=>aC (λ_=>?_) λ_=>J2 l b a f ((f+g) / 2) (by omega) (by omega));rw[bU (by omega)];exact J2 l b a ((f+g) / 2+1) g (by omega) c
termination_by g-f
theorem aCl(a:aJ)(b:Int)(g:a.Plan.Arcs.length<=1000): aB (λn _=>zD n a b) λr=>0<=r.1/\r.1.toNat<=a.Plan.Arcs.length/\(r.2=true->r.1.toNat<a.Plan.Arcs.length):=by
 refine aV (λ_=>rfl) (aS (f:=λn _=>AB n (a.Plan.Arcs,b)) (Q:=λv=>0<=v.2.1/\v.2.1.toNat<a.Plan.Arcs.length) (R:=λv=>0<=v/\v.toNat<=a.Plan.Arcs.length) (aY (aE (aX (J2 _ b g 0 a.Plan.Arcs.length (by omega) (Zg _))) λf e=>aC (λh=>?_) λ_=>aA (by exact e))) (λv c=>aC (λ_=>aA ⟨c.1,by have:=c.2;show v.2.1.toNat<=_;omega,λ_=>c.2⟩) λ_=>aA ⟨c.1,by have:=c.2;show v.2.1.toNat<=_;omega,λh=>by cases h⟩) λv c=>aF rfl (aA ⟨c.1,c.2,λh=>by cases h⟩));have h:f<ln a.Plan.Arcs:=Zh h;have d:f.toNat<a.Plan.Arcs.length:=by unfold ln at h;omega
 exact aF (xJ e.1 d) (aE (f:=λn _=>sI n (a.Plan.Arcs[f.toNat],b)) (Q:=λ_=>True) (aY (aE (jH _ _) λ_ _=>aA trivial)) λ_ _=>aC (λ_=>aA (by exact⟨e.1,d⟩)) λ_=>aA (by exact⟨e.1,d⟩))
theorem Jn(l:List aD)(b:Int)(a:l.length<=1000)(f g:Nat)(e:f<=g)(c:g<=l.length): aB (λn m=>sV mE n m (l,b) ((f:Int),(g:Int))) λr=>0<=r/\r.toNat<=l.length:=by
 refine cG (aC (λh=>?_) λ_=>aA ⟨by show (0:Int)<=(f:Int);omega,by show (f:Int).toNat<=_;omega⟩);have h:(f:Int)<(g:Int):=Zh h;have d:(f+g) / 2<l.length:=by omega
 rw[aHq f g (by omega)];refine aF (x:=l[(f+g) / 2]) (by rw[bM];exact Za d) (aE (f:=λn _=>jY n (l[(f+g) / 2],b)) (Q:=λ_=>True) (aY (aE (jH _ _) λ_ _=>aA trivial)) λ_ _=>aC (λ_=>?_) λ_=>Jn l b a f ((f+g) / 2) (by omega) (by omega));rw[bU (by omega)];exact Jn l b a ((f+g) / 2+1) g (by omega) c
termination_by g-f
theorem aEa(a:aJ)(b:Int)(g:a.Features.length<=1000): aB (λn _=>zC n a b) λr=>0<=r.1/\r.1.toNat<=a.Features.length/\(r.2=true->r.1.toNat<a.Features.length):=by
 refine aV (λ_=>rfl) (aS (f:=λn _=>Cr n (a.Features,b)) (Q:=λv=>0<=v.2.1/\v.2.1.toNat<a.Features.length) (R:=λv=>0<=v/\v.toNat<=a.Features.length) (aY (aE (aX (Jn _ b g 0 a.Features.length (by omega) (Zg _))) λf e=>aC (λh=>?_) λ_=>aA (by exact e))) (λv c=>aC (λ_=>aA ⟨c.1,by have:=c.2;show v.2.1.toNat<=_;omega,λ_=>c.2⟩) λ_=>aA ⟨c.1,by have:=c.2;show v.2.1.toNat<=_;omega,λh=>by cases h⟩) λv c=>aF rfl (aA ⟨c.1,c.2,λh=>by cases h⟩));have h:f<ln a.Features:=Zh h;have d:f.toNat<a.Features.length:=by unfold ln at h;omega
 exact aF (xJ e.1 d) (aE (f:=λn _=>jY n (a.Features[f.toNat],b)) (Q:=λ_=>True) (aY (aE (jH _ _) λ_ _=>aA trivial)) λ_ _=>aC (λ_=>aA (by exact⟨e.1,d⟩)) λ_=>aA (by exact⟨e.1,d⟩))
theorem aAJ(a b:Int)(l:List aD)(d:l.length<=1000)(c:∀f∈l,f.Parts.length<=1000)(i:Nat)(o:i<=l.length)(h:List Int)(k:h.length<=i): aB (λn m=>sV nI n m (a,b,l,ln l) (h,(i:Int))) λr=>r.length<=l.length:=
 cG (bC (λx e j=>by
  rw[bU (by omega)];refine aE (f:=λn _=>Fu n (x,a,b)) (Q:=λ_=>True) (bI λ_=>aC (λ_=>aE (zO x.Parts b (by have:=c x (Zf e);omega)) λ_ _=>aC (λ_=>aA trivial) λ_=>aA trivial) λ_=>aA trivial) λ_ _=>aC (λ_=>aF (AL (by omega)) (aAJ a b l d c (i+1) (by omega) _ (by simp;omega))) λ_=>aAJ a b l d c (i+1) (by omega) h (by omega))
  (λg=>aA (show h.length<=_ by omega)))
termination_by l.length-i
theorem l7(s:aJ)(c:sE s)(a b:Int): aB (λn _=>jF n s a b) λr=>r.length<=1000:=
 aV (λ_=>rfl) (aC (λ_=>aA (by simp)) λ_=>aC (λ_=>aA (by simp)) λ_=>aE (aX (aAJ a b s.Features c.n c.f 0 (by omega) [] (by simp))) λr d=>aA (by have:=c.n;omega))
theorem aHC(a b:List Int)(h:a.length=b.length)(d:a.length<=100000)(i:Nat): Sx (λn m=>nZ fZ n m (a,b,ln a) (i:Int)):=
 bK (bC (λx f c=>by
  rw[bU (by omega)];exact aF (x:=b[i]'(by omega)) (by rw[bM];exact Za (by omega)) (aC (λ_=>aA trivial) λ_=>aHC a b h d (i+1))) (λe=>aA trivial))
termination_by a.length-i
theorem Oq{α:Type}{a b:List α}(h:(ln a != ln b)=false): a.length=b.length:=by
 have h:ln a=ln b:=by simpa using h
 unfold ln at h;omega
theorem aOQ(a b:List Int)(c:a.length<=100000): Tt (λn _=>eM n a b):=
 aV (λ_=>rfl) (aC (λ_=>aA trivial) λh=>aS (aX (aHC a b (Oq h) c 0)) (λ_ _=>aA trivial) λ_ _=>aF rfl (aA trivial))
theorem aHS(c:List (List Int))(g:c.length<=1000)(i a:Nat)(f:a+(c.drop i).flatten.length<=900000): aB (λn m=>sV iM n m (c,ln c) ((a:Int),(i:Int))) λr=>r=((a+(c.drop i).flatten.length:Nat):Int):=
 cG (bC (λx k o=>by
  have e:=wB k;rw[e,Zi] at f;have l:wr ((a:Int)+ln x)=((a+x.length:Nat):Int):=by rw[wr,ln,i64_in _ (by omega)];push_cast;rfl
  rw[l,bU (by omega)];refine aC (λh=>?_) (λ_=>?_)
  .have:=Zh h;omega
  .refine (aHS c g (i+1) (a+x.length) (by omega)).imp λr j=>?_;rw[j,e,Zi,Yt])
  (λd=>aA (by rw[Xt d];rfl)))
termination_by c.length-i
theorem aHR(a:List (List Int))(d:a.length<=1000)(i:Nat)(b:(a.drop i).flatten.length=0): Tt (λn m=>sV iL n m (a,ln a) (i:Int)):=
 cG (bC (λx c g=>by
  have e:=wB c;rw[e,Zi] at b;rw[bU (by omega)];refine aC (λh=>aHR a d (i+1) (by omega)) (λh=>?_);have:x=[]:=ZL.1 (by omega);rw[this] at h;cases h)
  (λf=>aA trivial))
termination_by a.length-i
theorem aHQ(a:List (List Int))(h:a.length<=1000)(N:Nat)(f:N<=400000)(i:Nat)(l:List Int)(k:Nat)(d:l.length=N)(c:k+(a.drop i).flatten.length=N): aB (λn m=>sV iK n m (a,ln a) (l,(0,k),(i:Int))) λr=>r.2=(0,r.1.length)/\r.1.length=N:=
 cG (bC (λx g j=>by
  have e:=wB g;rw[e,Zi] at c;rw[bU (by omega)];exact aF (x:=aU l k x) (by unfold XZ;rw[Zu (by simp only[Z0];omega),Z0]) (aHQ a h N f (i+1) _ (k+x.length) (by simp[aU];omega) (by omega)))
  (λb=>aA (by
   rw[Xt b,Xd,Z4,Xq] at c;exact⟨by show ((0:Nat),k)=(0,l.length);rw[c,d],d⟩)))
termination_by a.length-i
theorem aRA(a:List (List Int))(c:a.length<=1000)(d:a.flatten.length<=400000): aB (λn _=>oQ n a) λr=>r.length=a.flatten.length:=by
 refine aV (λ_=>rfl) (aE (aX (aHS a c 0 0 (by rw[YC];omega))) λv e=>?_);have f:v=((a.flatten.length:Nat):Int):=by rw[e];simp
 have e2:wr (v-0)=((a.flatten.length:Nat):Int):=by rw[f,wr,i64_in _ (by omega)];omega
 refine aS (Q:=λ_=>a.flatten.length=0) (R:=λr=>r=(List.replicate a.flatten.length 0,(0,0))) (aY (aC (λh=>by have:=Zh h;omega) (λ_=>aC (λ_=>?_) (λh=>by rw[e2] at h;have:=Zk h;exact aA (show a.flatten.length=0 by omega))))) (λ_ h=>?_) (λr b=>?_)
 .refine aF (x:=List.replicate a.flatten.length 0) (by rw[e2];unfold rep;rw[Zu (by omega)];simp) (aC (λh=>?_) (λ_=>aF (x:=(0,0)) (by unfold sub;rw[Zu (by simp)];rfl) (aA rfl)));rw[Vf] at h;have:=congrArg List.length h;rw[YM,Z4] at this;exact aA this
 .exact aE (aX (aHR a c 0 (by simpa using h))) λ_ _=>aF rfl (aA h.symm)
 .subst b;refine aF rfl (aE (aX (aHQ a c a.flatten.length d 0 _ 0 (by simp) (by simp))) λr b=>aF (Ds (Yk b.1)) (aA ?_));rw[b.1,<-b.2];simp[win]
theorem H7(s c N:Nat)(f:s+c=N)(e:N<=400000)(g:Nat)(u:1<=g)(v:g<=c)(d:List Int)(a:d.length=N)(q:Nat)(t:q+1<=s+g): aB (λn m=>sV nF n m (s,c) (d,(q:Int),(g:Int))) λr=>r.1.length=N/\0<=r.2/\r.2.toNat<=N:=by
 refine cG (aC (λh=>?_) λ_=>aA ⟨a,by show (0:Int)<=(q:Int);omega,by show ((q:Int)).toNat<=N;omega⟩);have h:(g:Int)<((c:Nat):Int):=Zh h;have h:g<c:=by omega
 have l:wr ((g:Int)-1)=((g-1:Nat):Int):=by rw[wr,i64_in _ (by omega)];omega
 have b:∀j,j<c->idx (win d (some (s,c))) (j:Int)=d[s+j]?:=λj p=>by
  rw[bM];simp only[win];rw[XQ p,Zw]
 have i:idx (win d (some (s,c))) (g:Int)=some (d[s+g]'(by omega)):=by rw[b g h];exact Za (by omega)
 have e2:idx d ((g:Int)+((s:Nat):Int))=some (d[s+g]'(by omega)):=by
  rw[show (g:Int)+((s:Nat):Int)=((s+g:Nat):Int) by omega,bM];exact Za (by omega)
 have o:idx (win d (some (s,c))) ((g-1:Nat):Int)=some (d[s+(g-1)]'(by omega)):=by rw[b (g-1) (by omega)];exact Za (by omega)
 have k:idx d (((g-1:Nat):Int)+((s:Nat):Int))=some (d[s+(g-1)]'(by omega)):=by
  rw[show ((g-1:Nat):Int)+((s:Nat):Int)=((s+(g-1):Nat):Int) by omega,bM];exact Za (by omega)
 rw[l,bU (by omega),bU (by omega)];refine aF i (aF e2 (aF o (aF k (aC (λ_=>?_) λ_=>H7 s c N f e (g+1) (by omega) (by omega) d a q (by omega)))));refine aF i (aF e2 (aF (x:=d[q]'(by omega)) (by rw[hP (by omega)];exact Za (by omega)) (aF (x:=d[q]'(by omega)) (by rw[bM];exact Za (by omega)) ?_)));exact H7 s c N f e (g+1) (by omega) (by omega) _ (by rw[Yq];exact a) (q+1) (by omega)
termination_by c-g
theorem aEr(a:List Int)(c:a.length<=400000)(i:Nat)(l:1<=i): aB (λn m=>nZ nG n m a (i:Int)) (Su (λv=>(win v.1 (some v.2)).length<=a.length) λ_=>True):=by
 refine bK (aC (λh=>?_) λ_=>aA trivial);have h:(i:Int)<ln a:=Zh h;have h:i<a.length:=by unfold ln at h;omega
 have g:wr ((i:Int)-1)=((i-1:Nat):Int):=by rw[wr,i64_in _ (by omega)];omega
 rw[g,bU (by omega)];refine aF (x:=a[i]) (by rw[hP h];exact Za h) (aF (x:=a[i]) (by rw[bM];exact Za h) (aF (x:=a[i-1]'(by omega)) (by rw[hP (by omega)];exact Za (by omega)) (aF (x:=a[i-1]'(by omega)) (by rw[bM];exact Za (by omega)) (aC (λ_=>?_) λ_=>aEr a c (i+1) (by omega)))));refine aF (x:=(i,a.length-i)) (by unfold sub;rw[Zu ⟨by omega,by unfold ln;omega,by unfold ln;simp⟩];simp[ln]) (aE (aX (H7 i (a.length-i) a.length (by omega) c 1 (Zg _) (by omega) a rfl i (by omega))) λj k=>?_);obtain⟨e,p,o⟩:=k;obtain⟨q,d⟩:∃q:Nat,j.2=(q:Int):=⟨j.2.toNat,by omega⟩;have f:q<=a.length:=by omega
 refine aF (x:=(q,a.length-q)) (by rw[d];unfold sub;rw[Zu ⟨by omega,by unfold ln;omega,by unfold ln;simp⟩];simp[ln,e]) (aF (x:=aU j.1 q (List.replicate (a.length-q) 0)) (by unfold clr;rw[Zu (by show q+(a.length-q)<=_;omega)]) ?_);have b:(aU j.1 q (List.replicate (a.length-q) 0)).length=a.length:=by unfold aU;simp;omega
 refine aF (x:=(0,q)) (by rw[d];unfold sub;rw[Zu ⟨by omega,by omega,by simp[b];omega⟩];simp) (aA ?_);show (List.take q (List.drop 0 _)).length<=_;simp;omega
termination_by a.length-i
theorem aQQ{l b:List Int}{k:Nat}(h:l.length<=(sP b).length)(e:b.length=k): l.length<=k:=by rw[wK] at h;omega
theorem aGa(a:List (List Int))(e:a.length<=1000)(g:a.flatten.length<=400000): aB (λn _=>mO n a) λr=>r.length<=a.flatten.length:=by
 refine aV (λ_=>rfl) (aE (aRA a e g) λb d=>aY (aF (Ds (Yk (by omega))) (aS (FD (f:=λn=>Fk n (sP b)) (P:=Su (λ_=>True) λv=>(win v.1 (some v.2)).length<=(sP b).length) (aY (aC (λ_=>aA trivial) λ_=>aS (aX (aEr (sP b) (by rw[wK];omega) 1 (Zg _))) (λv c=>aA (by exact c)) λ_ _=>aF rfl (aA trivial)))) (λ_ _=>aA (by rw[wK];omega)) λv c=>aF rfl (aA (aQQ c d)))))
theorem aCt(a b:List Int)(h:a.length+b.length<=400000): aB (λn _=>tA n a b) λr=>r.length<=a.length+b.length:=
 aV (λ_=>rfl) (aE (aGa [a,b] (by simp) (by simpa using h)) λc d=>aA (by simpa using d))
instance aWI{x:Int}: TC (λn=>fJ n x):=⟨aV (λ_=>rfl) (by repeat' first|apply dY|apply aC|apply bI|intro)⟩
instance aXM{x y:Int}: TC (λn=>Lz n (x,y)):=⟨by repeat' first|apply dY|apply aC|apply bI|intro⟩
instance aVJ{x y:Int}: TC (λn=>Jv n x y):=⟨aV (λ_=>rfl) (by repeat' first|apply dY|apply aC|apply bI|intro)⟩
instance aYj{x:Int}: TC (λn=>fP n x):=⟨aY (by repeat' first|apply dY|apply aC|apply bI|intro)⟩
theorem aCi(l:List Int)(b:Int)(a:l.length<=400000)(f g:Nat)(e:f<=g)(c:g<=l.length): aB (λn m=>sV fB n m (l,b) ((f:Int),(g:Int))) λr=>0<=r/\r.toNat<=l.length:=by
 refine cG (aC (λh=>?_) λ_=>aA ⟨by show (0:Int)<=(f:Int);omega,by show (f:Int).toNat<=_;omega⟩);have h:(f:Int)<(g:Int):=Zh h;have d:(f+g) / 2<l.length:=by omega
 rw[aHq f g (by omega)];refine aF (x:=l[(f+g) / 2]) (by rw[bM];exact Za d) (bI λ_=>aC (λ_=>?_) λ_=>aCi l b a f ((f+g) / 2) (by omega) (by omega));rw[bU (by omega)];exact aCi l b a ((f+g) / 2+1) g (by omega) c
termination_by g-f
theorem aWd(l:List Int)(b:Int)(d:l.length<=400000): Tt (λn _=>gW n l b):=by
 refine aV (λ_=>rfl) (aE (aX (aCi l b d 0 l.length (by omega) (Zg _))) λf c=>aC (λh=>?_) λ_=>aA trivial);have h:f<ln l:=Zh h;have a:f.toNat<l.length:=by unfold ln at h;omega
 have e:=xJ c.1 a;refine aF e (aC (λ_=>aA trivial) λ_=>aF e ?_);repeat' first|apply dY|apply aC|apply bI|intro
theorem aB1(c d:List Int)(a:c.length<=400000)(b:d.length<=400000)(i:Nat)(l:i<=d.length)(h:List Int)(j:h.length<=i): aB (λn m=>sV rA n m (c,d,ln d) (h,(i:Int))) λr=>r.length<=d.length:=
 cG (bC (λx k g=>by
  rw[bU (by omega)];refine aE (f:=λn _=>Ow n (c,x)) (Q:=λ_=>True) (aY (aE (aWd c x a) λ_ _=>aC (λ_=>aA trivial) λ_=>aA trivial)) λ_ _=>aC (λ_=>aF (Qz (by omega)) (aB1 c d a b (i+1) (by omega) _ (by simp;omega))) λ_=>aB1 c d a b (i+1) (by omega) h (by omega))
  (λe=>aA (show h.length<=_ by omega)))
termination_by d.length-i
theorem aON(a b:List Int)(h:a.length<=400000)(i:b.length<=400000): aB (λn _=>Oy n a b) λr=>r.length<=a.length:=
 aV (λ_=>rfl) (aE (aGa [b] (by simp) (by simpa using i)) λc j=>aE (f:=λn _=>Ox n (c,a)) (Q:=λr=>r.length<=a.length) (aY (aE (aGa [a] (by simp) (by simpa using h)) λd g=>aE (aX (aB1 c d (by simp at j;omega) (by simp at g;omega) 0 (by omega) [] (by simp))) λr e=>aA (by simp at g;show r.length<=_;omega))) λr e=>aA e)
theorem aIe(a b:Int)(l:List Int)(e:l.length<=10000): aB (λn _=>iB n (a,b,l)) λr=>r.length<=l.length+1:=
 aY (aE (aAC l a (by omega)) λ_ _=>aC (λ_=>aE (aON l [a] (by omega) (by simp)) λg d=>aC (λ_=>aE (aCt g [b] (by simp;omega)) λh c=>aA (by simp at c;show h.length<=_;omega)) λ_=>aA (by show g.length<=_;omega)) λ_=>aA (by show l.length<=_;omega))
def aOS(r:dW): Prop:=r.Outer.length+r.Inner.flatten.length<=900000/\r.Inner.length<=200000
theorem aHL(a:List (List Int))(c:a.length<=200000)(i:Nat)(h:List Int)(b:h.length+(a.drop i).flatten.length<=900000): aB (λn m=>sV tZ n m (a,ln a) (h,(i:Int))) λr=>r.length<=900000:=
 cG (bC (λx d g=>by
  have e:=wB d;rw[e,Zi] at b;rw[bU (by omega)];exact aF (Qy (by omega)) (aHL a c (i+1) _ (by rw[Zi];omega)))
  (λf=>aA (show h.length<=_ by omega)))
termination_by a.length-i
theorem aHK(r:dW)(h:aOS r): aB (λn _=>Jr n r) λr=>r.length<=900000:=by
 obtain⟨a,b⟩:=h;refine aV (λ_=>rfl) (aF (Qy (l:=([]:List Int)) (m:=r.Outer) (by simp;omega)) (aE (aX (aHL r.Inner b 0 _ (by simpa using a))) λc d=>aA d))
theorem aGv(p:aM)(a:Sm p)(b:Int)(c:List Int)(e:c.length<=900000)(i:Nat): Sx (λn m=>nZ rJ n m (p,b,c,ln c) (i:Int)):=
 bK (bC (λx h d=>by
  rw[bU (by omega)];refine aE (f:=λn _=>Pw n (b,x)) (Q:=λ_=>True) (by repeat' first|apply dY|apply aC|apply bI|intro) λ_ _=>aC (λ_=>aE (L3 p a x) λ_ _=>aA trivial) λ_=>aGv p a b c e (i+1)) (λg=>aA trivial))
termination_by c.length-i
theorem aGw(p:aM)(d:Sm p)(b:Int)(c:List dW)(f:c.length<=1000)(a:∀r∈c,aOS r)(i:Nat): Sx (λn m=>nZ rP n m (p,b,c,ln c) (i:Int)):=
 bK (bC (λx g e=>by
  rw[bU (by omega)];exact aE (aHK x (a x (Zf g))) λl h=>aS (aX (aGv p d b l h 0)) (λ_ _=>aA trivial) λ_ _=>aF rfl (aGw p d b c f a (i+1))) (λj=>aA trivial))
termination_by c.length-i
theorem aJ9(p:aM)(d:Sm p)(b:Int)(c:List dW)(a:c.length<=1000)(e:∀r∈c,aOS r): Tt (λn _=>Px n p b c):=
 aV (λ_=>rfl) (aS (aX (aGw p d b c a e 0)) (λ_ _=>aA trivial) λ_ _=>aF rfl (aA trivial))
structure FeI(l:List aD)(N i:Nat): Prop where
 len:l.length=N
 lo:∀(j:Nat) (f:aD),l[j]?=some f->f.Parts.length<=65
 hi:∀(j:Nat) (f:aD),i<=j->l[j]?=some f->f.Parts.length<=64
theorem FeI.next{l:List aD}{N i:Nat}(h:FeI l N i): FeI l N (i+1):=⟨h.len,h.lo,λj f a=>h.hi j f (by omega)⟩
theorem FeI.set{l:List aD}{N i:Nat}(h:FeI l N i){g:aD}(b:g.Parts.length<=65): FeI (l.set i g) N (i+1):=by
 refine⟨by rw[Yq];exact h.len,λj f a=>?_,λj f c a=>?_⟩
 .rw[Z7] at a;split at a
  .split at a
   .cases a;exact b
   .cases a
  .exact h.lo j f a
 .rw[Zv (by omega)] at a;exact h.hi j f (by omega) a
theorem FeI.all{l:List aD}{N i:Nat}(h:FeI l N i): ∀f∈l,f.Parts.length<=65:=λf a=>by
 obtain⟨j,b⟩:=Yj.1 a;exact h.lo j f b
theorem FeI.at{l:List aD}{N i:Nat}(h:FeI l N i)(c:N<=1000)(b:(i:Int)<(N:Int)): ∃f,f.Parts.length<=64/\fU l l.length (i:Int)=some f/\idx l (i:Int)=some f:=by
 have a:i<l.length:=by rw[h.len];omega
 have e:=Za a;exact⟨l[i],h.hi i _ (Zg _) e,by rw[hP a];exact e,by rw[bM];exact e⟩
theorem aFv(a b:List Int)(c:List Aac)(d f:List aP)(g h:Int)(N:Nat)(j:N<=1000)(i:Nat)(l:List aD)(e:FeI l N i): aB (λn m=>sV nV n m (a,b,c,d,f,g,h,(N:Int)) (l,(i:Int))) λr=>r.length=N/\∀f∈r,f.Parts.length<=65:=by
 refine cG (aC (λk=>?_) λ_=>aA ⟨e.len,e.all⟩);have k:(i:Int)<(N:Int):=Zh k;obtain⟨x,q,o,e2⟩:=e.at j k;rw[bU (by omega)];refine aF o (aF e2 (aE (f:=λn _=>Gv n (x,g)) (Q:=λ_=>True) (bI λ_=>aC (λ_=>aE (aAC x.Parts g (by omega)) λ_ _=>aC (λ_=>aA trivial) λ_=>aA trivial) λ_=>aA trivial) λ_ _=>aC (λ_=>aE (aCt x.Parts [h] (by simp;omega)) λt p=>aF o (aF e2 ?_)) λ_=>aFv a b c d f g h N j (i+1) l e.next));simp only[YA];exact aFv a b c d f g h N j (i+1) _ (e.set (by simp at p;show t.length<=65;omega))
termination_by N-i
theorem aFt(a b:List Int)(c:List Aac)(d:List aP)(f g:Int)(N:Nat)(j:N<=1000)(i:Nat)(l:List aD)(e:FeI l N i): aB (λn m=>sV nT n m (a,b,c,d,f,g,(N:Int)) (l,(i:Int))) λr=>r.length=N/\∀f∈r,f.Parts.length<=65:=by
 refine cG (aC (λh=>?_) λ_=>aA ⟨e.len,e.all⟩);have h:(i:Int)<(N:Int):=Zh h;obtain⟨x,o,k,e2⟩:=e.at j h;rw[bU (by omega)];refine aF k (aF e2 (bI λ_=>aC (λ_=>aE (aIe f g x.Parts (by omega)) λt p=>aF k (aF e2 ?_)) λ_=>aFt a b c d f g N j (i+1) l e.next));simp only[YA];exact aFt a b c d f g N j (i+1) _ (e.set (by show t.length<=65;omega))
termination_by N-i
theorem aFr(w:Nat×Nat)(a b:List Int)(c:List Aac)(d:List aP)(f g:Int)(N:Nat)(h:N<=1000)(i:Nat)(l:List aD)(e:FeI l N i): aB (λn m=>sV nR n m (w,a,b,c,d,f,g,(N:Int)) (l,(i:Int))) λr=>r.length=N/\∀f∈r,f.Parts.length<=65:=by
 refine cG (aC (λj=>?_) λ_=>aA ⟨e.len,e.all⟩);have j:(i:Int)<(N:Int):=Zh j;obtain⟨x,p,k,e2⟩:=e.at h j;rw[bU (by omega)];refine aF k (aF e2 (bI λ_=>aC (λ_=>aE (aIe f g x.Parts (by omega)) λt o=>aF k (aF e2 ?_)) λ_=>aFr w a b c d f g N h (i+1) l e.next));simp only[YA];exact aFr w a b c d f g N h (i+1) _ (e.set (by show t.length<=65;omega))
termination_by N-i
theorem mR.at{l:List aP}{N i:Nat}(h:mR l N)(c:i<N): ∃a,l[i]?=some a/\fU l l.length (i:Int)=some a/\idx l (i:Int)=some a:=by
 have b:i<l.length:=by rw[h.1];omega
 have e:=Za b;exact⟨l[i],e,by rw[hP b];exact e,by rw[bM];exact e⟩
theorem aFw(a:List Int)(b:List Aac)(c:List aD)(d:List Int)(f:Int)(g:List Int)(j:g.length<=900000)(N:Nat)(o:N<=300)(i:Nat)(l:List aP)(e:mR l N): aB (λn m=>sV nW n m (a,b,c,d,f,g,ln g) (l,(i:Int))) λr=>mR r N:=by
 refine cG (bC (λx w u=>?_) λ_=>aA e);rw[bU (by omega)];refine aE (aCl ⟨⟨b,l,a⟩,c⟩ _ (by show l.length<=_;rw[e.1];omega)) λr t=>aC (λs=>?_) λ_=>aFw a b c d f g j N o (i+1) l e;obtain⟨y,_,h⟩:=t;have h:r.1.toNat<l.length:=h s;obtain⟨q,p⟩:∃q:Nat,r.1=(q:Int):=⟨r.1.toNat,by omega⟩;rw[p] at h |-;obtain⟨x,v,k,e2⟩:=e.at (i:=q) (by rw[<-e.1];simpa using h);refine aC (λ_=>aF k (aF e2 ?_)) λ_=>aF k (aF e2 ?_);all_goals
  simp only[YA];exact aFw a b c d f g j N o (i+1) _ (e.set v rfl)
termination_by g.length-i
theorem aFu(a b:List Int)(c:List Aac)(d:List aD)(f g:Int)(N:Nat)(o:N<=300)(i:Nat)(l:List aP)(e:mR l N): aB (λn m=>sV nU n m (a,b,c,d,f,g,(N:Int)) (l,(i:Int))) λr=>mR r N:=by
 refine cG (aC (λp=>?_) λ_=>aA e);have p:(i:Int)<(N:Int):=Zh p;have k:i<N:=by omega
 obtain⟨x,u,j,e2⟩:=e.at k;rw[bU (by omega)];refine aF j (aF e2 (aE (f:=λn _=>Gt n (a,b,c,l,d,f,g,x,(i:Int))) (Q:=λr=>mR r N) (aC (λ_=>aF j (aF e2 (aA ?_))) λ_=>aA e) λr h=>?_))
 .simp only[YA];exact e.set u rfl
 .obtain⟨y,t,s,q⟩:=h.at k;refine aC (λ_=>aF s (aF q ?_)) λ_=>aFu a b c d f g N o (i+1) r h;simp only[YA];exact aFu a b c d f g N o (i+1) _ (h.set t rfl)
termination_by N-i
theorem aU1(a b:List Int)(c:List Aac)(d:List aP)(f:List aD)(g h:Int)(t:a.length<=1000)(q:mR d d.length)(e:d.length<=300)(p:FeI f f.length 0)(i:f.length<=1000): aB (λn _=>sC n (a,b,c,d,f,g,h)) λr=>r.1.length<=a.length+1/\mR r.2.1 d.length/\r.2.2.length=f.length/\∀x∈r.2.2,x.Parts.length<=65:=
 aY (aE (aX (aFu a b c f g h d.length e 0 d q)) λj o=>aE (aIe g h a (by omega)) λl s=>aE (aX (aFt l b c j g h f.length i 0 f p)) λm k=>aA ⟨s,o,k.1,k.2⟩)
theorem aU2(a b:List Int)(c:List Aac)(d:List aP)(f:List aD)(g:List Int)(h:List aP)(i:List Int)(j l:Int)(w:a.length<=1000)(p:mR h h.length)(e:h.length<=300)(u:FeI f f.length 0)(k:f.length<=1000)(v:i.length<=900000): aB (λn _=>Hh n (a,b,c,d,f,g,h,i,j,l)) λr=>r.1.length<=a.length+1/\mR r.2.2 h.length/\r.2.1.length=f.length/\∀x∈r.2.1,x.Parts.length<=65:=
 aY (aE (aX (aFw a c f g l i v h.length e 0 h p)) λo t=>aE (aCt a [l] (by simp;omega)) λr q=>aE (aX (aFv r b c d o j l f.length k 0 f u)) λs m=>aA ⟨by simpa using q,t,m.1,m.2⟩)
section
variable {α:Type}(l:List α)(z:α)(hl:l.length<=1000)(j:Nat)(hj:j<l.length)
include hl hj
theorem aRy: sub l (0,l.length) 0 (j:Int)=some (0,j):=by
 unfold sub;rw[Zu ⟨by omega,by omega,by simp;omega⟩];simp
theorem aRx: sub l (0,l.length) ((j+1:Nat):Int) (ln l)=some (j+1,l.length-(j+1)):=by
 unfold sub ln;rw[Zu ⟨by omega,by omega,by simp⟩];simp
theorem aJb: (win l (some (j+1,l.length-(j+1)))).length=l.length-(j+1):=by simp[win]
def aFV: List α:=aU l j (win l (some (j+1,l.length-(j+1))))
theorem aRw: XZ l (0,j) (win l (some (j+1,l.length-(j+1))))=some (aFV l j):=by
 unfold XZ aFV;rw[aJb l hl j hj,Zu ⟨by simp;omega,by omega⟩,Z0]
theorem H4: (aFV l j).length=l.length:=by
 unfold aFV aU;rw[Zi,Zi,ZW,ZI,aJb l hl j hj];omega
theorem aRv: sub (aFV l j) (0,j+(win l (some (j+1,l.length-(j+1)))).length) (((0,j+(win l (some (j+1,l.length-(j+1)))).length).2:Nat):Int) (ln l)=some (l.length-1,1):=by
 rw[aJb l hl j hj,show j+(l.length-(j+1))=l.length-1 by omega];unfold sub ln;rw[Zu ⟨by omega,by simp,by rw[H4 l hl j hj];simp⟩];simp;omega
def KY: List α:=aU (aFV l j) (l.length-1) (List.replicate 1 z)
theorem aRu: clr (aFV l j) (l.length-1,1) z=some (KY l z j):=by
 unfold clr KY;rw[Zu (by rw[H4 l hl j hj];show l.length-1+1<=_;omega)]
theorem aLP: (KY l z j).length=l.length:=by
 unfold KY aU;rw[Zi,Zi,ZW,ZI,H4 l hl j hj];simp;omega
omit hl hj in
theorem A3{e cs:List α}{k:Nat}{x:α}(h:x∈aU e k cs): x∈e\/x∈cs:=by
 unfold aU at h;rcases ZD.1 h with h | h
 .exact .inl (Z9 h)
 rcases ZD.1 h with h | h
 .exact .inr h
 .exact .inl (Z1 h)
omit hl hj in
theorem aEm: ∀x∈KY l z j,x∈l\/x=z:=by
 intro x a;rcases A3 a with a | a
 .rcases A3 (show x∈aU l j _ from a) with a | a
  .exact .inl a
  .exact .inl (Z1 (Z9 a))
 .exact .inr (List.eq_of_mem_replicate a)
end
theorem aOq(a b:List Int)(d:List aP)(f:List aD)(l:List Aac)(e:l.length<=1000)(j:Nat)(c:j<l.length): aB (λn _=>Ll n (a,b,l,d,f,(j:Int),((j+1:Nat):Int))) (Su (λ_=>False) λv=>v=(KY l (Aac.mk 0 (Aaa.mk 0 0)) j,(0,l.length-1))):=by
 refine aY (aF (Ds (Yk ⟨by omega,by omega,by unfold ln;omega,Wq _⟩)) (aC (λh=>?_) λ_=>aF (aRy l e j c) (aF (aRx l e j c) (aF (aRw l e j c) (aF (aRv l e j c) (aF (aRu l (Aac.mk 0 (Aaa.mk 0 0)) e j c) (aA ?_)))))))
 .have h:(j:Int)=((j+1:Nat):Int):=by simpa using h
  omega
 .show (KY l (Aac.mk 0 (Aaa.mk 0 0)) j,(0,j+(win l (some (j+1,l.length-(j+1)))).length))=_;rw[aJb l e j c,show j+(l.length-(j+1))=l.length-1 by omega]
theorem aLR(a b:List Int)(c:List Aac)(f:List aD)(l:List aP)(e:l.length<=1000)(j:Nat)(d:j<l.length): aB (λn _=>Hg n (a,b,c,l,f,(j:Int),((j+1:Nat):Int))) (Su (λ_=>False) λv=>v=(KY l (aP.mk 0 0 0 [] 0 0) j,(0,l.length-1))):=by
 refine aY (aF (Ds (Yk ⟨by omega,by omega,by unfold ln;omega,Wq _⟩)) (aC (λh=>?_) λ_=>aF (aRy l e j d) (aF (aRx l e j d) (aF (aRw l e j d) (aF (aRv l e j d) (aF (aRu l (aP.mk 0 0 0 [] 0 0) e j d) (aA ?_)))))))
 .have h:(j:Int)=((j+1:Nat):Int):=by simpa using h
  omega
 .show (KY l (aP.mk 0 0 0 [] 0 0) j,(0,j+(win l (some (j+1,l.length-(j+1)))).length))=_;rw[aJb l e j d,show j+(l.length-(j+1))=l.length-1 by omega]
theorem aLQ(a b:List Int)(c:List Aac)(d:List aP)(l:List aD)(f:l.length<=1000)(j:Nat)(e:j<l.length): aB (λn _=>Hb n (a,b,c,d,l,(j:Int),((j+1:Nat):Int))) (Su (λ_=>False) λv=>v=(KY l (aD.mk 0 0 0 (⟨#[]⟩:ByteArray) []) j,(0,l.length-1))):=by
 refine aY (aF (Ds (Yk ⟨by omega,by omega,by unfold ln;omega,Wq _⟩)) (aC (λh=>?_) λ_=>aF (aRy l f j e) (aF (aRx l f j e) (aF (aRw l f j e) (aF (aRv l f j e) (aF (aRu l (aD.mk 0 0 0 (⟨#[]⟩:ByteArray) []) f j e) (aA ?_)))))))
 .have h:(j:Int)=((j+1:Nat):Int):=by simpa using h
  omega
 .show (KY l (aD.mk 0 0 0 (⟨#[]⟩:ByteArray) []) j,(0,j+(win l (some (j+1,l.length-(j+1)))).length))=_;rw[aJb l f j e,show j+(l.length-(j+1))=l.length-1 by omega]
theorem aGt{α:Type}{l:List α}{w:Option (Nat×Nat)}{x:α}(h:x∈win l w): x∈l:=by
 cases w with
 | none=>exact h
 | some w=>exact Z1 (Z9 h)
theorem aGu{α:Type}{l:List α}{k r:Nat}(a:r<k)(b:k<=l.length): idx (win l (some (0,k))) (r:Int)=some (l[r]'(by omega))/\idx l ((r:Int)+((0:Nat):Int))=some (l[r]'(by omega)):=by
 constructor
 .rw[bM];simp only[win];rw[XQ a,Zw,Z0];exact Za (by omega)
 .rw[show (r:Int)+((0:Nat):Int)=(r:Int) by omega,bM];exact Za (by omega)
theorem aFs(k:Nat)(b c:List Int)(d:List Aac)(f:List aD)(g h:Int)(N:Nat)(p:k<=N)(t:N<=300)(i:Nat)(l:List aP)(a:mR l N): aB (λn m=>sV nS n m ((0,k),b,c,d,f,g,h,(0,k),((k:Nat):Int)) (l,(i:Int))) λr=>mR r N:=by
 refine cG (aC (λs=>?_) λ_=>aA a);have s:(i:Int)<((k:Nat):Int):=Zh s;have q:i<k:=by omega
 have e:=aGu (l:=l) q (by rw[a.1];omega);have w:=Za (l:=l) (i:=i) (by rw[a.1];omega);have o:((i:Int)+((0:Nat):Int)).toNat=i:=by omega
 rw[bU (by omega)];refine aF e.1 (aF e.2 (aE (f:=λn _=>Gs n ((0,k),b,c,d,l,f,g,h,l[i]'(by rw[a.1];omega),(i:Int),(0,k))) (Q:=λr=>mR r N) ?_ λr j=>?_))
 .refine aC (λ_=>?_) λ_=>aA a;refine aF e.1 (aF e.2 (aA ?_));show mR (List.set l ((i:Int)+((0:Nat):Int)).toNat _) N;rw[o];exact a.set w rfl
 .have u:=aGu (l:=r) q (by rw[j.1];omega);have v:=Za (l:=r) (i:=i) (by rw[j.1];omega);refine aC (λ_=>aF u.1 (aF u.2 ?_)) λ_=>aFs k b c d f g h N p t (i+1) r j;refine aFs k b c d f g h N p t (i+1) _ ?_;show mR (List.set r ((i:Int)+((0:Nat):Int)).toNat _) N;rw[o];exact j.set v rfl
termination_by k-i
theorem aU0(k:Nat)(b c:List Int)(d:List Aac)(f:List aP)(g:List aD)(h i:Int)(v:b.length<=1000)(s:mR f f.length)(a:f.length<=300)(p:k<=f.length)(q:FeI g g.length 0)(e:g.length<=1000): aB (λn _=>Hf n ((0,k),b,c,d,f,g,h,i)) λr=>r.1.length<=b.length+1/\mR r.2.1 f.length/\r.2.2.length=g.length/\∀x∈r.2.2,x.Parts.length<=65:=
 aY (aE (aX (aFs k b c d g h i f.length p a 0 f s)) λl u=>aE (aIe h i b (by omega)) λm t=>aE (aX (aFr (0,k) m c d l h i g.length e 0 g q)) λo j=>aA ⟨t,u,j.1,j.2⟩)
def L1: Prop:=∀(p q:aM) (x:Int),Sm p->Sm q->Tt (λn _=>dJ n p q x)
theorem M1(f:Rq)(a:List Int)(b:List Aac)(c:List aP)(d:List aD)(e:Int)(i:sE ⟨⟨b,c,a⟩,d⟩): aB (λn _=>cH n (a,b,c,d,e)) λr=>r=0->FE ⟨⟨b,c,a⟩,d⟩:=
 aC (λ_=>aE (QA f _ i) λr j=>aA j) (λh=>aA λg=>by rw[g] at h;simp at h)
theorem aUp(a:Rq)(w:Nat×Nat)(b:List Int)(c:List Aac)(d:List aP)(f:List aD)(e:Int)(i:sE ⟨⟨win c (some w),d,b⟩,f⟩): aB (λn _=>sA n (w,b,c,d,f,e)) λr=>r=0->FE ⟨⟨win c (some w),d,b⟩,f⟩:=
 aC (λ_=>aE (QA a _ i) λr j=>aA j) (λh=>aA λg=>by rw[g] at h;simp at h)
theorem aUk(f:Rq)(a:List Int)(b:List Aac)(c:List aD)(d:List aP)(e:Int)(i:sE ⟨⟨b,d,a⟩,c⟩): aB (λn _=>Gp n (a,b,c,d,e)) λr=>r=0->FE ⟨⟨b,d,a⟩,c⟩:=
 aC (λ_=>aE (QA f _ i) λr j=>aA j) (λh=>aA λg=>by rw[g] at h;simp at h)
theorem aPH(a:Rq)(w:Nat×Nat)(b:List Int)(c:List Aac)(d:List aP)(f:List aD)(e:Int)(i:sE ⟨⟨c,win d (some w),b⟩,f⟩): aB (λn _=>rY n (w,b,c,d,f,e)) λr=>r=0->FE ⟨⟨c,win d (some w),b⟩,f⟩:=
 aC (λ_=>aE (QA a _ i) λr j=>aA j) (λh=>aA λg=>by rw[g] at h;simp at h)
theorem aUi(b:Rq)(a:List Int)(w:Nat×Nat)(c:List Aac)(d:List aP)(f:List aD)(e:Int)(i:sE ⟨⟨c,d,a⟩,win f (some w)⟩): aB (λn _=>Gj n (a,w,c,d,f,e)) λr=>r=0->FE ⟨⟨c,d,a⟩,win f (some w)⟩:=
 aC (λ_=>aE (QA b _ i) λr j=>aA j) (λh=>aA λg=>by rw[g] at h;simp at h)
theorem aJr(j:L1)(s:aJ)(t:bF)(a:List Int)(b:List Aac)(c:List aP)(d:List aD)(e:Int)(k:Int)(g:Sm s.Plan)(i:Sm ⟨b,c,a⟩): aB (λn _=>dZ n (s,t,a,b,c,d,e,k)) λr=>r=0->e=0:=
 aE (f:=λn _=>Ha n (s,t,a,b,c,d,e,k)) (Q:=λ_=>True) (aC (λ_=>aC (λ_=>aE (j _ _ _ g i) λ_ _=>aC (λ_=>aA trivial) λ_=>aA trivial) λ_=>aC (λ_=>aE (j _ _ _ g i) λ_ _=>aC (λ_=>aA trivial) λ_=>aA trivial) λ_=>aA trivial) λ_=>aA trivial) λ_ _=>aC (λ_=>aA (by simp)) λ_=>aA λh=>h
theorem aUo(i:L1)(s:aJ)(t:bF)(w:Nat×Nat)(b:List Int)(c:List Aac)(d:List aP)(f:List aD)(e:Int)(k:Int)(a:Sm s.Plan)(g:Sm ⟨win c (some w),d,b⟩): aB (λn _=>rZ n (s,t,w,b,c,d,f,e,k)) λr=>r=0->e=0:=
 aE (f:=λn _=>Gz n (s,t,w,b,c,d,f,e,k)) (Q:=λ_=>True) (aC (λ_=>aC (λ_=>aE (i _ _ _ a g) λ_ _=>aC (λ_=>aA trivial) λ_=>aA trivial) λ_=>aC (λ_=>aE (i _ _ _ a g) λ_ _=>aC (λ_=>aA trivial) λ_=>aA trivial) λ_=>aA trivial) λ_=>aA trivial) λ_ _=>aC (λ_=>aA (by simp)) λ_=>aA λh=>h
theorem aEI(j:L1)(s:aJ)(t:bF)(a:List Int)(b:List Aac)(c:List aP)(d:List aD)(e:Int)(g:Sm s.Plan)(i:Sm ⟨b,c,a⟩): aB (λn _=>fK n (s,t,a,b,c,d,e)) λr=>r=0->e=0:=
 aE (f:=λn _=>Gq n (s,t,a,b,c,d,e)) (Q:=λ_=>True) (aC (λ_=>aC (λ_=>aE (j _ _ _ g i) λ_ _=>aC (λ_=>aA trivial) λ_=>aA trivial) λ_=>aC (λ_=>aE (j _ _ _ g i) λ_ _=>aC (λ_=>aA trivial) λ_=>aA trivial) λ_=>aA trivial) λ_=>aA trivial) λ_ _=>aC (λ_=>aA (by simp)) λ_=>aA λh=>h
theorem aUj(j:L1)(s:aJ)(t:bF)(a:List Int)(b:List Aac)(c:List aD)(d:List aP)(e:Int)(g:Sm s.Plan)(i:Sm ⟨b,d,a⟩): aB (λn _=>Gn n (s,t,a,b,c,d,e)) λr=>r=0->e=0:=
 aE (f:=λn _=>Gm n (s,t,a,b,c,d,e)) (Q:=λ_=>True) (aC (λ_=>aC (λ_=>aE (j _ _ _ g i) λ_ _=>aC (λ_=>aA trivial) λ_=>aA trivial) λ_=>aC (λ_=>aE (j _ _ _ g i) λ_ _=>aC (λ_=>aA trivial) λ_=>aA trivial) λ_=>aA trivial) λ_=>aA trivial) λ_ _=>aC (λ_=>aA (by simp)) λ_=>aA λh=>h
theorem aPG(i:L1)(s:aJ)(t:bF)(w:Nat×Nat)(b:List Int)(c:List Aac)(d:List aP)(f:List aD)(e:Int)(a:Sm s.Plan)(g:Sm ⟨c,win d (some w),b⟩): aB (λn _=>rW n (s,t,w,b,c,d,f,e)) λr=>r=0->e=0:=
 aE (f:=λn _=>Gl n (s,t,w,b,c,d,f,e)) (Q:=λ_=>True) (aC (λ_=>aC (λ_=>aE (i _ _ _ a g) λ_ _=>aC (λ_=>aA trivial) λ_=>aA trivial) λ_=>aC (λ_=>aE (i _ _ _ a g) λ_ _=>aC (λ_=>aA trivial) λ_=>aA trivial) λ_=>aA trivial) λ_=>aA trivial) λ_ _=>aC (λ_=>aA (by simp)) λ_=>aA λh=>h
theorem aUh(i:L1)(s:aJ)(t:bF)(a:List Int)(w:Nat×Nat)(c:List Aac)(d:List aP)(f:List aD)(e:Int)(b:Sm s.Plan)(g:Sm ⟨c,d,a⟩): aB (λn _=>Gi n (s,t,a,w,c,d,f,e)) λr=>r=0->e=0:=
 aE (f:=λn _=>Gh n (s,t,a,w,c,d,f,e)) (Q:=λ_=>True) (aC (λ_=>aC (λ_=>aE (i _ _ _ b g) λ_ _=>aC (λ_=>aA trivial) λ_=>aA trivial) λ_=>aC (λ_=>aE (i _ _ _ b g) λ_ _=>aC (λ_=>aA trivial) λ_=>aA trivial) λ_=>aA trivial) λ_=>aA trivial) λ_ _=>aC (λ_=>aA (by simp)) λ_=>aA λh=>h
theorem uI{f g:Nat->Nat->Option Int}{k:Nat->Nat->Int->Option Int}{s:aJ}(e:Int)(i:aB f λr=>r=0->FE s)(b:∀r,aB (λn m=>k n m r) λq=>q=0->r=0): aB (λn m=>Av.bnd (f n m) λr=>Av.bnd (k n m r) λq=>Av.cnd (q != 0) (some ((⟨⟨[],[],[]⟩,[]⟩:aJ),q)) (some (s,0))) λv=>v.2=0->FE v.1:=
 aE i λr d=>aE (b r) λq a=>aC (λh=>aA λc=>by rw[show q=0 from c] at h;simp at h) λh=>aA λ_=>d (a (by simpa using h))
theorem aH2{α:Type}{l:List α}{j:Nat}{y x:α}(h:x∈l.take j++y::l.drop j): x∈l\/x=y:=by
 rcases ZD.1 h with h | h
 .exact .inl (Z9 h)
 rcases ZO.1 h with h | h
 .exact .inr h
 .exact .inl (Z1 h)
theorem aBA{α:Type}{l:List α}{j:Int}{y:α}(a:0<=j)(h:j.toNat<=l.length)(b:l.length<=1000): aFG l j y=some (l.take j.toNat++y::l.drop j.toNat):=by
 unfold aFG;rw[Zu ⟨a,h,by omega⟩]
theorem aWk(s:aJ)(d:FE s)(b:List Int)(g:bF): aB (λn _=>tW n (s.Plan.Faces,b,s.Plan.Nodes,s.Plan.Arcs,s.Features,g)) (Su (λv=>v.1.length<=257) (Su (λv=>(win v.2 (some v.1)).length<=257) λv=>v.1.length<=257)):=by
 have m:=d.v.leN;have ok:=d.ok;refine aY (aE (IQ s g.ID (by omega)) λl c=>aC (λi=>?_) λi=>?_)
 .have a:=c.2.2 i;obtain⟨q,j⟩:∃q:Nat,l.1=(q:Int):=⟨l.1.toNat,by have:=c.1;omega⟩;rw[j] at a |-;have a:q<s.Plan.Nodes.length:=by simpa using a
  have e:=Za a;refine aC (λ_=>aA (show s.Plan.Nodes.length<=257 by omega)) λ_=>aC (λ_=>aF (by rw[hP a];exact e) (aF (by rw[bM];exact e) (aA ?_))) λ_=>?_
  .show (List.set _ _ _).length<=257;rw[Yq];omega
  .refine aE (f:=λn _=>Lj n (s.Plan.Faces,s.Plan.Nodes,s.Plan.Arcs,s.Features,g)) (Q:=λ_=>True) (aE (aAE _ ok.p g.ID) λ_ _=>aC (λ_=>aA trivial) λ_=>aE (l7 s ok 1 g.ID) λ_ _=>aC (λ_=>aA trivial) λ_=>aA trivial) λ_ _=>aC (λ_=>aA (show s.Plan.Nodes.length<=257 by omega)) λ_=>?_;rw[bU (by omega)];refine aS (aOq s.Plan.Faces b s.Plan.Arcs s.Features s.Plan.Nodes (by omega) q a) (λ_ h=>h.elim) λv k=>aF rfl (aA ?_);subst k;show (win _ _).length<=257;simp[win];omega
 .refine aC (λ_=>aY (aF (aBA c.1 c.2.1 (by omega)) (aA ?_))) λ_=>aA (show s.Plan.Nodes.length<=257 by omega);show (List.take _ _++_::_).length<=257;simp;omega
end Go.Proofs.YtglfoebmkbglgaaGreatDoor.Av
