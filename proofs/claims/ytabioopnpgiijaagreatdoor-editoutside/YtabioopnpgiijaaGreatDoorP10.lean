/- A part of the proof of a law. -/
import Derived.Test.YtabioopnpgiijaaGreatDoorP9
set_option maxRecDepth 100000
set_option maxHeartbeats 4000000
set_option linter.all false
namespace Go.Proofs.YtabioopnpgiijaaGreatDoor.Av
open Go
def aB{α:Type}(f:Nat->Nat->Option α)(P:α->Prop): Prop:=∃r,P r/\∃K,∀n m,K<=n->K<=m->f n m=some r
section
variable {α β γ:Type}{P:α->Prop}{Q:β->Prop}{R:γ->Prop}
theorem aA{x:α}(h:P x): aB (λ_ _=>some x) P:=⟨x,h,0,λ_ _ _ _=>rfl⟩
theorem aB.imp{a:α->Prop}{f:Nat->Nat->Option α}(h:aB f P)(k:∀r,P r->a r): aB f a:=by
 let⟨r,b,K,c⟩:=h;exact⟨r,k r b,K,c⟩
theorem aD{f:Nat->Nat->Option β}{g:Nat->Nat->β->Option α}(h:aB f Q)(k:∀r,Q r->aB (λn m=>g n m r) P): aB (λn m=>Av.bnd (f n m)<|g n m) P:=by
 let⟨r,a,K,d⟩:=h;let⟨s,b,J,c⟩:=k r a;refine⟨s,b,max K J,λn m j l=>?_⟩;have i:=d n m (by omega)<|by omega
 show Av.bnd (f n m) (g n m)=some s;rw[i];exact c n m (by omega)<|by omega
theorem aF{o:Option β}{g:Nat->Nat->β->Option α}{x:β}(e:o=some x)(k:aB (λn m=>g n m x) P): aB (λn m=>Av.bnd o<|g n m) P:=by
 subst e;exact k
def Su(Q:β->Prop)(R:γ->Prop): β⊕γ->Prop
 | .inl a=>Q a
 | .inr b=>R b
theorem aP{f:Nat->Nat->Option (β⊕γ)}{g:Nat->Nat->β->Option α}{k:Nat->Nat->γ->Option α}(h:aB f<|Su Q R)(o:∀a,Q a->aB (λn m=>g n m a) P)(l:∀b,R b->aB (λn m=>k n m b) P): aB (λn m=>Av.bnd2 (f n m) (g n m)<|k n m) P:=by
 let⟨r,j,K,i⟩:=h;cases r with
 | inl a=>
  let⟨s,d,J,c⟩:=o a j;refine⟨s,d,max K J,λn m q p=>?_⟩;show Av.bnd2 (f n m) (g n m) (k n m)=some s;rw[i n m (by omega)<|by omega];exact c n m (by omega)<|by omega
 | inr a=>
  let⟨s,d,J,c⟩:=l a j;refine⟨s,d,max K J,λn m q p=>?_⟩;show Av.bnd2 (f n m) (g n m) (k n m)=some s;rw[i n m (by omega)<|by omega];exact c n m (by omega)<|by omega
theorem aC{b:Bool}{x y:Nat->Nat->Option α}(c:b=true->aB x P)(a:b=false->aB y P): aB (λn m=>Av.cnd b (x n m)<|y n m) P:=by
 cases b with
 | true=>exact c rfl
 | false=>exact a rfl
theorem aS{g:Nat->Nat->Nat->Option α}(h:aB (λn m=>g (n+1) m n) P): aB (λn m=>Av.bnd (Av.prd n)<|g n m) P:=by
 let⟨r,a,K,b⟩:=h;refine⟨r,a,K+1,λn m c d=>?_⟩;cases n with
 | zero=>omega
 | succ n=>exact b n m (by omega)<|by omega
theorem aV{f:Nat->Option α}{g:Nat->Option α}(e:∀n,f (n+1)=g n)(h:aB (λn _=>g n) P): aB (λn _=>f n) P:=by
 let⟨r,a,K,b⟩:=h;refine⟨r,a,K+1,λn m c d=>?_⟩;cases n with
 | zero=>omega
 | succ n=>show f (n+1)=some r;rw[e];exact b n m (by omega)<|by omega
theorem aB.lp{f:Nat->Nat->Option α}{g:Nat->Nat->Option α}(e:∀n m,f n (m+1)=g n m)(h:aB g P): aB f P:=by
 let⟨r,a,K,b⟩:=h;refine⟨r,a,K+1,λn m c d=>?_⟩;cases m with
 | zero=>omega
 | succ m=>rw[e];exact b n m (by omega)<|by omega
theorem aX{f:Nat->Nat->Option α}(h:aB f P): aB (λn _=>f n n) P:=by
 let⟨r,b,K,c⟩:=h;exact⟨r,b,K,λn m a d=>c n n a a⟩
theorem A0{f:Nat->Option α}(h:aB (λn _=>f n) P): aB (λn _=>f<|n+1) P:=by
 let⟨r,a,K,c⟩:=h;exact⟨r,a,K,λn m d b=>c (n+1) m (by omega) b⟩
theorem aW{l:List β}{i:Nat}{f:Nat->Nat->β->Option α}{e:Nat->Nat->Option α}(c:∀x,l[i]?=some x->i<l.length->aB (λn m=>f n m x) P)(b:l.length<=i->aB e P):
 aB (λn m=>Av.cnd (decide<|(i:Int)<((l.length:Nat):Int)) (Av.bnd (idx l (i:Int))<|f n m)<|e n m) P:=by
 refine aC (λh=>?_) λh=>b ?_
 .have a:i<l.length:=by have:=Zl h;omega
  exact aF (x:=l[i]) (by rw[bF];exact Zb a)<|c _ (Zb a) a
 .have:=Zp h;omega
theorem aB.uniq{f:Nat->Nat->Option α}{r:α}(h:aB f λx=>x=r)(k:aB f P): P r:=by
 let⟨_,rfl,K,d⟩:=h;let⟨s,e,J,g⟩:=k;have c:=d (max K J) (max K J) (by omega)<|by omega
 have b:=g (max K J) (max K J) (by omega)<|by omega
 rw[c] at b;cases b;exact e
theorem aB.val{f:Nat->Nat->Option α}(k:aB f P): ∃r,P r/\aB f λx=>x=r:=by
 let⟨s,a,J,b⟩:=k;exact⟨s,a,s,rfl,J,b⟩
theorem IX{l:List α}{x:α}(h:l.length<=100000): app l [x]=some (l++[x]):=tP<|by simp;omega
end
def mX{Q V X:Type}(B:Nat->Q->(V->Option X)->((X->Option X)×Unit)->V->Option X)(n m:Nat)(p:Q)(q:V): Option X:=lpB (λk q=>B n p k (λt=>some t,()) q) m q
def oR{Q V X Y:Type}(B:Nat->Q->(V->Option (X⊕Y))->((X->Option (X⊕Y))×(Y->Option (X⊕Y))×Unit)->V->Option (X⊕Y))(n m:Nat)(p:Q)(q:V): Option<|X⊕Y:=lpB (λk q=>B n p k (λt=>some<|.inl t,λt=>some<|.inr t,()) q) m q
def lm3{Q V X Y Z:Type}(B:Nat->Q->(V->Option (X⊕Y⊕Z))->((X->Option (X⊕Y⊕Z))×(Y->Option (X⊕Y⊕Z))×(Z->Option (X⊕Y⊕Z))×Unit)->V->Option (X⊕Y⊕Z))(n m:Nat)(p:Q)(q:V): Option<|X⊕Y⊕Z:=lpB (λk q=>B n p k (λt=>some<|.inl t,λt=>some<|.inr<|.inl t,λt=>some<|.inr<|.inr t,()) q) m q
theorem bU{Q V X:Type}{P:X->Prop}{B:Nat->Q->(V->Option X)->((X->Option X)×Unit)->V->Option X}{p:Q}{q:V}(h:aB (λn m=>B n p (λq=>mX B n m p q) (λt=>some t,()) q) P): aB (λn m=>mX B n m p q) P:=aB.lp (λ_ _=>rfl) h
theorem bK{Q V X Y:Type}{P:X⊕Y->Prop}{B:Nat->Q->(V->Option (X⊕Y))->((X->Option (X⊕Y))×(Y->Option (X⊕Y))×Unit)->V->Option (X⊕Y)}{p:Q}{q:V}(h:aB (λn m=>B n p (λq=>oR B n m p q) (λt=>some<|.inl t,λt=>some<|.inr t,()) q) P): aB (λn m=>oR B n m p q) P:=aB.lp (λ_ _=>rfl) h
theorem aEF{Q V X Y Z:Type}{P:X⊕Y⊕Z->Prop}{B:Nat->Q->(V->Option (X⊕Y⊕Z))->((X->Option (X⊕Y⊕Z))×(Y->Option (X⊕Y⊕Z))×(Z->Option (X⊕Y⊕Z))×Unit)->V->Option (X⊕Y⊕Z)}{p:Q}{q:V}(h:aB (λn m=>B n p (λq=>lm3 B n m p q) (λt=>some<|.inl t,λt=>some<|.inr<|.inl t,λt=>some<|.inr<|.inr t,()) q) P): aB (λn m=>lm3 B n m p q) P:=aB.lp (λ_ _=>rfl) h
abbrev Tt{α:Type}(f:Nat->Nat->Option α): Prop:=aB f λ_=>True
theorem i64_in(x:Int)(h:-9223372036854775808<=x/\x<=9223372036854775807): IntKind.i64.wrap x=x:=by rw[Xe];omega
theorem bO{i:Nat}(h:i<1000000): wr ((i:Int)+1)=((i+1:Nat):Int):=by rw[wr,i64_in _<|by omega];push_cast;rfl
def lK{α:Type}(l:List α)(i:Nat)(Q:α->Prop): Prop:=∀(j:Nat) (x:α),j<i->l[j]?=some x->Q x
theorem lK.nil{α:Type}{l:List α}{Q:α->Prop}: lK l 0 Q:=λj x h _=>by omega
theorem lK.step{α:Type}{l:List α}{i:Nat}{Q:α->Prop}{x:α}(h:lK l i Q)(d:l[i]?=some x)(e:Q x): lK l (i+1) Q:=λj y f b=>by
 by_cases c:j=i
 .subst c;rw[d] at b;cases b;exact e
 .exact h j y (by omega) b
theorem lK.fin{α:Type}{l:List α}{i:Nat}{Q:α->Prop}(h:lK l i Q)(c:l.length<=i): ∀x∈l,Q x:=λx b=>by
 let⟨j,a⟩:=Yi.1 b;exact h j x (by have:=(Ze.1 a).1;omega) a
structure Sm(p:aK): Prop where
 n:p.Nodes.length<=300
 a:p.Arcs.length<=300
 f:p.Faces.length<=300
 v:∀a∈p.Arcs,a.Via.length<=300
theorem aCr(p:List Aab)(d:p.length<=300)(i:Nat)(l:List Int)(b:l=(p.take i).map Aab.ID): aB (λn m=>mX jR n m (p,ln p) (l,(i:Int))) λr=>r=p.map Aab.ID:=
 bU<|aW (λx e c=>aF (IX<|by rw[b];simp;omega)<|by
  rw[bO<|by omega];exact aCr p d (i+1) _<|by rw[b,YX,e];simp)
  (λa=>aA<|by rw[b,ZW a])
termination_by p.length-i
theorem aCq(p:List aQ)(d:p.length<=300)(i:Nat)(l:List Int)(b:l=(p.take i).map aQ.ID): aB (λn m=>mX jQ n m (p,ln p) (l,(i:Int))) λr=>r=p.map aQ.ID:=
 bU<|aW (λx e c=>aF (IX<|by rw[b];simp;omega)<|by
  rw[bO<|by omega];exact aCq p d (i+1) _<|by rw[b,YX,e];simp)
  (λa=>aA<|by rw[b,ZW a])
termination_by p.length-i
theorem aSf(p:aK)(b:Sm p): aB (λn _=>sM n p) λr=>r=(p.Nodes.map Aab.ID,p.Arcs.map aQ.ID):=
 aV (λ_=>rfl)<|aD (aX<|aCr _ b.n 0 [] rfl) λv d=>aD (aX<|aCq _ b.a 0 [] rfl) λw c=>aA<|by rw[d,c]
def L0(l:List Int): Prop:=∀j x y,l[j]?=some x->l[j+1]?=some y->x<y
theorem y5(l:List Int)(k:l.length<=1000)(i:Nat)(p:1<=i)(f:∀j x y,j+1<i->l[j]?=some x->l[j+1]?=some y->x<y): aB (λn m=>oR lH n m l (i:Int))<|Su (λ_=>True) λ_=>L0 l:=
 bK<|aC (λh=>by
  have d:i<l.length:=by have:(i:Int)<(l.length:Int):=Zl h;omega
  have o:wr ((i:Int)-1)=((i-1:Nat):Int):=by rw[wr,i64_in _<|by omega];omega
  rw[o];refine aF (x:=l[i-1]) (by rw[bF];exact Zb<|by omega)<|aF (x:=l[i]) (by rw[bF];exact Zb d)<|aC (λ_=>aA trivial) λg=>?_;rw[bO<|by omega];refine y5 l k (i+1) (by omega) λj x y q c b=>?_;by_cases e:j+1=i
  .subst e;rw[Zb<|by omega] at c b;cases c;cases b;have:=Zp g;simp only[Nat.add_sub_cancel] at this;omega
  .exact f j x y (by omega) c b)
  (λh=>aA λj x y c b=>by
   have:¬(i:Int)<(l.length:Int):=Zp h;exact f j x y (by have:=(Ze.1 b).1;omega) c b)
termination_by l.length-i
theorem aK6(l:List Int)(a:l.length<=1000): aB (λn _=>kT n l) λr=>r=true->L0 l:=
 aV (λ_=>rfl)<|aP (aX<|y5 l a 1 (by omega) λj x y b _ _=>by omega) (λ_ _=>aA<|by simp) λ_ h=>aA λ_=>h
theorem aJt(x:Int): aB (λn _=>sK n x) λr=>r=false->1<=x/\x<=1073741824:=
 aV (λ_=>rfl)<|aC (λ_=>aA<|by simp) λb=>aC (λ_=>aA<|by simp) λa=>aA λ_=>by
  have:=Zp b;have:=Zp a;omega
theorem aBQ(l:List Int)(f:l.length<=1000)(i:Nat)(b:lK l i λx=>1<=x/\x<=1073741824): aB (λn m=>oR nL n m (l,ln l) (i:Int)) (Su (λv=>0<=v) λ_=>∀x∈l,1<=x/\x<=1073741824):=
 bK<|aW (λx e c=>aD (aJt x) λr d=>aC (λ_=>aA<|by show (0:Int)<=(i:Int);omega) λh=>by
  rw[bO<|by omega];exact aBQ l f (i+1)<|b.step e<|d h)
  (λa=>aA<|b.fin a)
termination_by l.length-i
theorem aJu(l:List Int)(b:l.length<=1000): aB (λn _=>mV n l) λr=>r=true->∀x∈l,1<=x/\x<=1073741824:=
 aV (λ_=>rfl)<|aD (Q:=λr=>r=false->∀x∈l,1<=x/\x<=1073741824) (aS<|aD (Q:=λv=>0<=v\/∀x∈l,1<=x/\x<=1073741824) (aS<|aP (aX<|aBQ l b 0 .nil) (λv a=>aA<|.inl a) λ_ h=>aA<|.inr h)
  λv a=>aC (λ_=>aA<|by simp) λh=>aA λ_=>by have:=Zp h;rcases a with a | a;omega;exact a)
  λr c=>aC (λ_=>aA<|by simp) λh=>aA λ_=>c h
def Jp(x:Aaa): Prop:=-1048576<=x.X/\x.X<=1048576/\-1048576<=x.Y/\x.Y<=1048576
theorem PH(x:Aaa): aB (λn _=>pJ n x) λr=>r=false->Jp x:=
 aC (λ_=>aA<|by simp) λb=>aC (λ_=>aA<|by simp) λc=>aC (λ_=>aA<|by simp) λa=>aC (λ_=>aA<|by simp) λd=>aA λ_=>by
 have:=Zp b;have:=Zp c;have:=Zp a;have:=Zp d;exact⟨by omega,by omega,by omega,by omega⟩
theorem aK3{P:Bool->Prop}{b:Bool}(h:P b): aB (λ_ _=>cnd b (some true)<|some false) P:=by cases b<;>exact aA h
theorem aBI(x:Aaa): aB (λn _=>yB n x) λr=>r=false->Jp x:=
 aV (λ_=>rfl)<|aD (PH x) λr a=>aK3 a
theorem PK(l:List Aab)(f:l.length<=300)(i:Nat)(c:lK l i λx=>Jp x.At): aB (λn m=>oR sJ n m (l,ln l) (i:Int)) (Su (λ_=>True) λ_=>∀x∈l,Jp x.At):=
 bK<|aW (λx e d=>aD (Q:=λr=>r=false->Jp x.At) (aS<|aD (PH x.At) λr b=>aK3 b) λr b=>aC (λ_=>aA trivial) λh=>by
  rw[bO<|by omega];exact PK l f (i+1)<|c.step e<|b h)
  (λa=>aA<|c.fin a)
termination_by l.length-i
theorem PI(l:List Aaa)(f:l.length<=300)(i:Nat)(b:lK l i Jp): aB (λn m=>oR sH n m (l,ln l) (i:Int)) (Su (λv=>0<=v) λ_=>∀x∈l,Jp x):=
 bK<|aW (λx e c=>aD (aBI x) λr d=>aC (λ_=>aA<|by show (0:Int)<=(i:Int);omega) λh=>by
  rw[bO<|by omega];exact PI l f (i+1)<|b.step e<|d h)
  (λa=>aA<|b.fin a)
termination_by l.length-i
theorem PJ(l:List aQ)(j:l.length<=300)(b:∀a∈l,a.Via.length<=300)(i:Nat)(e:lK l i λa=>∀y∈a.Via,Jp y): aB (λn m=>oR sI n m (l,ln l) (i:Int)) (Su (λ_=>True) λ_=>∀a∈l,∀y∈a.Via,Jp y):=
 bK<|aW (λx d f=>aD (Q:=λr=>r=false->∀y∈x.Via,Jp y) (aS<|aD (Q:=λv=>0<=v\/∀y∈x.Via,Jp y) (aS<|aP (aX<|PI x.Via (b x<|Zg d) 0 .nil) (λv b=>aA<|.inl b) λ_ h=>aA<|.inr h)
  λv b=>aC (λ_=>aA<|by simp) λh=>aA λ_=>by have:=Zp h;rcases b with b | b;omega;exact b) λr g=>aC (λ_=>aA trivial) λh=>by
  rw[bO<|by omega];exact PJ l j b (i+1)<|e.step d<|g h)
  (λc=>aA<|e.fin c)
termination_by l.length-i
theorem aIY(p:aK)(b:Sm p): aB (λn _=>Ng n p) λr=>r=true->(∀x∈p.Nodes,Jp x.At)/\∀a∈p.Arcs,∀y∈a.Via,Jp y:=
 aV (λ_=>rfl)<|aP (aX<|PK _ b.n 0 .nil) (λ_ _=>aA<|by simp) λ_ d=>aP (aX<|PJ _ b.a b.v 0 .nil) (λ_ _=>aA<|by simp) λ_ c=>aA λ_=>⟨d,c⟩
theorem D1(l:List Int)(x:Int)(g:l.length<=100000)(i:Nat)(d:lK l i (·≠x)): aB (λn m=>oR jO n m (l,x,ln l) (i:Int))<|Su (λv=>0<=v/\v.toNat<l.length/\x∈l) λ_=>x∉l:=
 bK<|aW (λy f b=>aC (λh=>aA<|by
  refine⟨by omega,by simpa using b,?_⟩;rw[Wi h];exact Zg f) λh=>by
  rw[bO<|by omega];exact D1 l x g (i+1)<|d.step f λe=>by subst e;simp at h)
  (λc=>aA λh=>d.fin c x h rfl)
termination_by l.length-i
theorem aGF(l:List Int)(x:Int)(b:l.length<=100000): aB (λn _=>lB n l x) λr=>(0<=r/\r.toNat<l.length/\x∈l)\/(r=-1/\x∉l):=
 aV (λ_=>rfl)<|aP (aX<|D1 l x b 0 .nil) (λv a=>aA<|.inl a) λ_ h=>aA<|.inr ⟨rfl,h⟩
theorem oJ(l:List Int)(x:Int)(b:l.length<=100000): aB (λn _=>cZ n l x) λr=>r=decide (x∈l):=
 aV (λ_=>rfl)<|aD (aGF l x b) λr a=>aC (λh=>aA (by
  rcases a with a | a
  .simp[a.2.2]
  .have:=Zl h;omega)) λh=>aA (by
  rcases a with a | a
  .have:=Zp h;omega
  .simp[a.2])
theorem aKu{α:Type}{l:List α}{a b:Nat}(d:a<=b)(c:b<=l.length): cut l (a:Int) (b:Int)=some ((l.take b).drop a):=by
 unfold cut;rw[Zu<|by omega];simp
theorem P8(x:Aab)(l:List Aab)(b:l.length<=300)(i:Nat): aB (λn m=>oR lX n m (x,l,ln l) (i:Int))<|Su (λ_=>True) λ_=>True:=
 bK<|aW (λy c a=>aC (λ_=>aA trivial) λ_=>by
  rw[bO<|by omega];exact P8 x l b<|i+1) λ_=>aA trivial
termination_by l.length-i
theorem P9(p:aK)(b:Sm p)(i:Nat): aB (λn m=>oR lY n m (p,p.Nodes,ln p.Nodes) (i:Int))<|Su (λ_=>True) λ_=>True:=
 bK<|aW (λy d c=>aF (aKu (a:=0) (ZG i)<|by omega)<|aP (aX<|P8 y _ (by simp;have:=b.n;omega) 0) (λ_ _=>aA trivial) λ_ _=>by
  have:=b.n;rw[bO<|by omega];exact P9 p b<|i+1) λ_=>aA trivial
termination_by p.Nodes.length-i
theorem aHB(x:aQ)(a:List Int)(d:a.length<=100000): aB (λn _=>Bd n (x,a)) λr=>r=false->x.From∈a/\x.To∈a:=
 aD (oJ a x.From d) λr b=>aC (λe=>aD (oJ a x.To d) λs c=>aC (λf=>aA λ_=>by rw[e] at b;rw[f] at c;exact⟨Zl b.symm,Zl c.symm⟩) λ_=>aA<|by simp) λ_=>aA<|by simp
theorem P7(a:List Int)(c:a.length<=100000)(l:List aQ)(g:l.length<=300)(i:Nat)(d:lK l i λx=>x.From∈a/\x.To∈a): aB (λn m=>oR lW n m (a,l,ln l) (i:Int)) (Su (λ_=>True) λ_=>∀x∈l,x.From∈a/\x.To∈a):=
 bK<|aW (λy f e=>aD (aHB y a c) λr j=>aC (λ_=>aA trivial) λh=>by
  rw[bO<|by omega];exact P7 a c l g (i+1)<|d.step f<|j h) λb=>aA<|d.fin b
termination_by l.length-i
theorem P5(p:aK)(b:Sm p)(x:Int): aB (λn _=>pK n (p,x)) λr=>r=false->x=0\/x∈p.Faces:=
 aC (λh=>aD (oJ p.Faces x<|by have:=b.f;omega) λr a=>aC (λh=>aA λ_=>by rw[h] at a;exact .inr<|Zl a.symm) λ_=>aA<|by simp) λh=>aA λ_=>.inl<|by simpa using h
theorem JB{α:Type}{P:α->Prop}{k:Nat}{g:Nat->Nat->Unit->Option α}(h:aB (λn m=>g n m ()) P): aB (λn m=>Av.bnd (Ls<|Nat.ble k n)<|g n m) P:=by
 let⟨r,a,K,b⟩:=h;refine⟨r,a,K+k,λn m c d=>?_⟩;have:Ls (Nat.ble k n)=some ():=by rw[Yx (by omega:k<=n)];rfl
 show Av.bnd (Ls<|Nat.ble k n) (g n m)=some r;rw[this];exact b n m (by omega)<|by omega
theorem P6(p:aK)(c:Sm p)(l:List aQ)(f:l.length<=300)(i:Nat)(d:lK l i λx=>(x.Left=0\/x.Left∈p.Faces)/\(x.Right=0\/x.Right∈p.Faces)): aB (λn m=>oR lV n m (p,l,ln l) (i:Int)) (Su (λ_=>True) λ_=>∀x∈l,(x.Left=0\/x.Left∈p.Faces)/\(x.Right=0\/x.Right∈p.Faces)):=
 bK<|aW (λy k e=>JB<|aD (P5 p c y.Left) λr j=>aC (λ_=>aA trivial) λh=>aD (P5 p c y.Right) λs b=>aC (λ_=>aA trivial) λg=>by
  rw[bO<|by omega];exact P6 p c l f (i+1)<|d.step k ⟨j h,b g⟩) λa=>aA<|d.fin a
termination_by l.length-i
theorem aPW(p:aK)(c:Sm p)(b:List Int)(d:b.length<=100000): aB (λn _=>yE n p b) λr=>r=0->(∀x∈p.Arcs,x.From∈b/\x.To∈b)/\∀x∈p.Arcs,(x.Left=0\/x.Left∈p.Faces)/\(x.Right=0\/x.Right∈p.Faces):=
 aV (λ_=>rfl)<|aP (aX<|P9 p c 0) (λ_ _=>aA<|by simp) λ_ _=>aP (aX<|P7 b d _ c.a 0 .nil) (λ_ _=>aA<|by simp) λ_ e=>aP (aX<|P6 p c _ c.a 0 .nil) (λ_ _=>aA<|by simp) λ_ f=>aA λ_=>⟨e,f⟩
class TC{α:Type}(f:Nat->Option α): Prop where
 h:aB (λn _=>f n) λ_=>True
theorem bE{α β:Type}{P:α->Prop}{f:Nat->Option β}[t:TC f]{g:Nat->Nat->β->Option α}(k:∀r,aB (λn m=>g n m r) P): aB (λn m=>Av.bnd (f n)<|g n m) P:=aD t.h λr _=>k r
theorem dU{α:Type}{x:α}: aB (λ_ _=>some x) λ_=>True:=aA trivial
def aBR(x:Aaa): Prop:=-2097152<=x.X/\x.X<=2097152/\-2097152<=x.Y/\x.Y<=2097152
theorem aHo(x:Aaa): aB (λn _=>GG n x) λr=>r=true->¬aBR x:=by
 refine aC (λh=>aA λ_ a=>?_) λe=>aC (λh=>aA λ_ a=>?_) λc=>aC (λh=>aA λ_ a=>?_) λd=>aC (λh=>aA λ_ a=>?_) λb=>aA (by simp);all_goals (have:=Zl h;unfold aBR at a;omega)
theorem N4(l:List Aaa)(e:l.length<=1000)(i:Nat): aB (λn m=>oR yQ n m (l,ln l) (i:Int))<|Su (λ_=>¬∀x∈l,aBR x) λ_=>True:=
 bK<|aW (λy d a=>aD (aHo y) λr c=>aC (λh=>aA λb=>c h<|b y<|Zg d) λh=>by
  rw[bO<|by omega];exact N4 l e<|i+1)
  (λf=>aA trivial)
termination_by l.length-i
theorem aEh(l:List Aaa)(b:l.length<=1000): aB (λn _=>oM n l) λr=>(∀x∈l,aBR x)->r=true:=
 aV (λ_=>rfl)<|aP (aX<|N4 l b 0) (λ_ h=>aA λa=>absurd a h) λ_ _=>aA λ_=>rfl
instance aUz{a b c:Aaa}: TC (λn=>oM n [a,b,c]):=⟨(aEh _ (by simp)).imp λ_ _=>trivial⟩
instance aUy{a b c d:Aaa}: TC (λn=>oM n [a,b,c,d]):=⟨(aEh _ (by simp)).imp λ_ _=>trivial⟩
def twV(a b c:Aaa): Int:=wr<|(wr<|(wr<|b.X-a.X)*(wr<|c.Y-a.Y))-(wr<|(wr<|b.Y-a.Y)*(wr<|c.X-a.X))
theorem aFa(a b c:Aaa): aB (λn _=>gS n a b c) λr=>r=twV a b c:=aV (λ_=>rfl)<|aA rfl
instance aTD{a b c:Aaa}: TC (λn=>gS n a b c):=⟨(aFa a b c).imp λ_ _=>trivial⟩
section
variable {a b c d:Aaa}
instance aXk: TC (λn=>l6 n (a,b,c)):=⟨by repeat' first | exact aA trivial | refine aC (λ_=>?_) (λ_=>?_) | refine bE λ_=>?_⟩
instance aXj: TC (λn=>k9 n (a,b,c)):=⟨by repeat' first | exact aA trivial | refine aC (λ_=>?_) (λ_=>?_) | refine bE λ_=>?_⟩
instance aXi: TC (λn=>tT n a b c):=⟨aV (λ_=>rfl) (by repeat' first | exact aA trivial | refine aC (λ_=>?_) (λ_=>?_) | refine bE λ_=>?_)⟩
instance aTP: TC (λn=>AM n a b c):=⟨aV (λ_=>rfl) (by repeat' first | exact aA trivial | refine aC (λ_=>?_) (λ_=>?_) | refine bE λ_=>?_)⟩
instance aUS: TC (λn=>jK n a b c):=⟨aV (λ_=>rfl) (by repeat' first | exact aA trivial | refine aC (λ_=>?_) (λ_=>?_) | refine bE λ_=>?_)⟩
instance aVG: TC (λn=>Of n (a,b)):=⟨by repeat' first | exact aA trivial | refine aC (λ_=>?_) (λ_=>?_) | refine bE λ_=>?_⟩
instance aSG: TC (λn=>oN n a b):=⟨aV (λ_=>rfl) (by repeat' first | exact aA trivial | refine aC (λ_=>?_) (λ_=>?_) | refine bE λ_=>?_)⟩
instance aWv: TC (λn=>yP n (a,b)):=⟨by repeat' first | exact aA trivial | refine aC (λ_=>?_) (λ_=>?_) | refine bE λ_=>?_⟩
instance aWu: TC (λn=>Oc n (a,b)):=⟨by repeat' first | exact aA trivial | refine aC (λ_=>?_) (λ_=>?_) | refine bE λ_=>?_⟩
instance aWt: TC (λn=>Ob n (a,b)):=⟨by repeat' first | exact aA trivial | refine aC (λ_=>?_) (λ_=>?_) | refine bE λ_=>?_⟩
instance aRk: TC (λn=>Od n a b c d):=⟨aV (λ_=>rfl) (by repeat' first | exact aA trivial | refine aC (λ_=>?_) (λ_=>?_) | refine bE λ_=>?_)⟩
instance aWF: TC (λn=>GK n (a,b,c,d)):=⟨by repeat' first | exact aA trivial | refine aC (λ_=>?_) (λ_=>?_) | refine bE λ_=>?_⟩
instance aWE: TC (λn=>GJ n (a,b,c,d)):=⟨by repeat' first | exact aA trivial | refine aC (λ_=>?_) (λ_=>?_) | refine bE λ_=>?_⟩
instance aUV: TC (λn=>Qn n a b c d):=⟨aV (λ_=>rfl) (by repeat' first | exact aA trivial | refine aC (λ_=>?_) (λ_=>?_) | refine bE λ_=>?_)⟩
instance aTM{s:bA}: TC (λn=>iX n s):=⟨aV (λ_=>rfl) (by repeat' first | exact aA trivial | refine aC (λ_=>?_) (λ_=>?_))⟩
instance aU5{s:bA}: TC (λn=>gI n s):=⟨aV (λ_=>rfl) (by repeat' first | exact aA trivial | refine aC (λ_=>?_) (λ_=>?_))⟩
instance aXc{s t:bA}: TC (λn=>nN n (s,t)):=⟨by repeat' first | exact aA trivial | refine aC (λ_=>?_) (λ_=>?_) | refine bE λ_=>?_⟩
instance aXb{s t:bA}: TC (λn=>nM n (s,t)):=⟨by repeat' first | exact aA trivial | refine aC (λ_=>?_) (λ_=>?_) | refine bE λ_=>?_⟩
instance aXa{t:bA}{x y z:Int}: TC (λn=>fT n (t,a,b,c,d,x,y,z)):=⟨by repeat' first | exact aA trivial | refine aC (λ_=>?_) (λ_=>?_) | refine bE λ_=>?_⟩
end
theorem aAz{α:Type}{Q:Nat->α->Prop}: ∀(l:List α),(∀x∈l,∃K,∀n,K<=n->Q n x)->∃K,∀n,K<=n->∀x∈l,Q n x
 | [],_=>⟨0,λ_ _ _ h=>by cases h⟩
 | a::l,h=>by
  let⟨K,d⟩:=h a<|ZM ..;let⟨J,c⟩:=aAz l λx b=>h x<|ZQ _ b;refine⟨max K J,λn f x b=>?_⟩;rcases ZN.1 b with rfl | b
  .exact d n<|by omega
  .exact c n (by omega) x b
theorem z6{α β:Type}{f:α->Option β}{g:α->β}: ∀(l:List α),(∀x∈l,f x=some (g x))->Ue (l.map f)=some (l.map g)
 | [],_=>rfl
 | a::l,h=>by
  simp only[ZE,Ue,h a<|ZM ..,z6 l λx b=>h x<|ZQ _ b]
structure Swo{α:Type}(g:α->α->Int)(l:List α): Prop where
 ir:∀x∈l,¬g x x<0
 tr:∀x∈l,∀y∈l,∀z∈l,g x y<0->g y z<0->g x z<0
 ti:∀x∈l,∀y∈l,∀z∈l,¬g x y<0->¬g y z<0->¬g x z<0
theorem aMZ{α:Type}{g:α->α->Int}{l:List α}{i j:Nat}{x y:α}(b:l[i]?=some x)(a:l[j]?=some y): at2 (l.map λx=>l.map<|g x) i j=g x y:=by
 simp[at2,Zk,b,a]
theorem Swo.tab{α:Type}{g:α->α->Int}{l:List α}(h:Swo g l): E6 l.length (l.map λx=>l.map<|g x)=true:=by
 unfold E6;simp only[Yl,Ws,Zd,YG];have e:∀i j (b:i<l.length) (c:j<l.length),ltT (l.map λx=>l.map<|g x) i j=decide (g l[i] l[j]<0):=λi j b c=>by
  unfold ltT;rw[aMZ (Zb b)<|Zb c]
 intro i b;refine⟨by rw[e i i b b];exact YI<|h.ir _<|ZP b,λj c k m=>?_⟩;rw[e i j b c,e j k c m,e i k b m];have n:=ZP b;have o:=ZP c;have mk:=ZP m;have q:=h.tr _ n _ o _ mk;have p:=h.ti _ n _ o _ mk;by_cases f:g l[i] l[j]<0
 .rw[Yj f];show (!decide (g l[j] l[k]<0)||decide (g l[i] l[k]<0))=true;by_cases d:g l[j] l[k]<0
  .rw[Yj<|q f d];simp
  .rw[YI d];rfl
 .rw[YI f];show (decide (g l[j] l[k]<0)||!decide (g l[i] l[k]<0))=true;by_cases d:g l[j] l[k]<0
  .rw[Yj d];rfl
  .rw[YI<|p f d];simp
theorem TF{α:Type}{F:Nat->α->α->Option Int}{g:α->α->Int}{l:List α}(q:∀x∈l,∀y∈l,aB (λn _=>F n x y) λr=>r=g x y)(o:Swo g l): aB (λn _=>qZ (λx y=>F n x y) l) λr=>r.length=l.length/\∀x∈r,x∈l:=by
 let⟨K,e⟩:=aAz (Q:=λn x=>∀y∈l,F n x y=some (g x y)) l λx b=>aAz (Q:=λn y=>F n x y=some (g x y)) l λy h=>by
  obtain⟨r,rfl,K,e⟩:=q x b y h;exact⟨K,λn c=>e n n c c⟩
 cases l with
 | nil=>exact⟨[],⟨rfl,λx b=>b⟩,0,λ_ _ _ _=>rfl⟩
 | cons a l=>
  have k:∀n,K<=n->EI (λx y=>F n x y) (a::l)=some ((a::l).map λx=>(a::l).map<|g x):=λn c=>
   z6 (f:=λx=>Ue<|(a::l).map λy=>F n x y) (g:=λx=>(a::l).map<|g x) (a::l) λx b=>z6 (a::l) λy h=>e n c x b y h
  have j:=o.tab;refine⟨(ixG l.length<|(a::l).map λx=>(a::l).map<|g x).map<|Ep a (a::l),⟨?_,?_⟩,K,λn m c s=>?_⟩
  .rw[ZO,aAg<|by simpa using j];rfl
  .intro x b;obtain⟨i,p,rfl⟩:=Yh.1 b;have:=aEm p;unfold Ep;rw[Zb<|by simpa using this];exact ZP _
  .have d:E6 (l.length+1) ((a::l).map λx=>(a::l).map<|g x)=true:=by simpa using j
   simp only[qZ,k n c,d]
def SS(a b:Int): Int:=if a<b then -1 else if a > b then 1 else 0
theorem jN(a b:Int): aB (λn _=>dA n a b) λr=>r=SS a b:=by
 have d:∀a:Int,aB (λn _=>fK n a) λr=>r=false:=λa=>aV (λ_=>rfl)<|aC (λh=>by simp at h) λ_=>aA rfl;refine aV (λ_=>rfl)<|aD (d a) λr c=>aC (λh=>by rw[c] at h;cases h) λ_=>aD (d b) λr c=>aC (λh=>by rw[c] at h;cases h) λ_=>aC (λh=>aA ?_) λe=>aC (λh=>aA ?_) λf=>aA ?_
 .unfold SS;rw[Zu<|Zl h]
 .unfold SS;rw[ZF<|Zp e,Zu<|Zl h]
 .unfold SS;rw[ZF<|Zp e,ZF<|Zp f]
theorem v8{a b:Int}: SS a b<0↔a<b:=by unfold SS;split<;>(try split)<;>omega
theorem aIu{α:Type}(k:α->Int)(l:List α): Swo (λx y=>SS (k x)<|k y) l where
 ir x _:=by rw[v8];omega
 tr x _ y _ z _:=by simp only[v8];omega
 ti x _ y _ z _:=by simp only[v8];omega
theorem Dr{α:Type}{l:List α}{x:α}(h:l.length<=900000): app l [x]=some (l++[x]):=tP<|by simp;omega
theorem AP{α:Type}{l:List α}{i:Nat}{x:α}{q:α->Bool}(a:l[i]?=some x)(h:q x=true): (l.drop i).find? q=some x:=by
 obtain⟨b,rfl⟩:=Ze.1 a;rw[XH b,List.find?_cons,h]
theorem MR{α:Type}{l:List α}{i:Nat}{x:α}{q:α->Bool}(a:l[i]?=some x)(h:q x=false): (l.drop i).find? q=(l.drop<|i+1).find? q:=by
 obtain⟨b,rfl⟩:=Ze.1 a;rw[XH b,List.find?_cons,h]
theorem MS{α:Type}{l:List α}{i:Nat}{q:α->Bool}(h:l.length<=i): (l.drop i).find? q=none:=by
 rw[Xo h];rfl
def dE(p:aK)(id:Int): Aab×Bool:=match p.Nodes.find? λx=>x.ID==id with
 | some x=>(x,true)
 | none=>(⟨0,⟨0,0⟩⟩,false)
def vC(p:aK)(id:Int): aQ×Bool:=match p.Arcs.find? λx=>x.ID==id with
 | some x=>(x,true)
 | none=>(⟨0,0,0,[],0,0⟩,false)
theorem Q9(l:List Aab)(d:l.length<=300)(id:Int)(i:Nat): aB (λn m=>oR yF n m (id,l,ln l) (i:Int))<|Su (λv=>∃x,(l.drop i).find? (λx=>x.ID==id)=some x/\v=(x,x)) λ_=>(l.drop i).find? (λx=>x.ID==id)=none:=
 bK<|aW (λx b c=>aC (λh=>aA ⟨x,AP (q:=λx=>x.ID==id) b h,rfl⟩) λh=>by
  rw[bO<|by omega,MR (q:=λx=>x.ID==id) b h];exact Q9 l d id<|i+1)
  (λa=>aA<|MS a)
termination_by l.length-i
theorem Jq(p:aK)(c:Sm p)(id:Int): aB (λn _=>fL n p id) λr=>r=dE p id:=
 aV (λ_=>rfl)<|aP (aX<|Q9 _ c.n id 0) (λv b=>aA<|by
  obtain⟨x,a,rfl⟩:=b;rw[YD] at a;unfold dE;rw[a]) λ_ h=>aA<|by
  rw[YD] at h;unfold dE;rw[h]
theorem aGx{α:Type}(l:List α)(h:l.length<=1000000): aB (λn _=>clF n l) λr=>r=l:=
 aV (g:=λ_=>app [] l) (λ_=>rfl) ⟨l,rfl,0,λ_ _ _ _=>by rw[tP<|by simpa using h];rfl⟩
theorem aDw(l:List aQ)(g:l.length<=300)(d:∀a∈l,a.Via.length<=300)(id:Int)(i:Nat): aB (λn m=>oR Dl n m (id,l,ln l) (i:Int))<|Su (λv=>∃x,(l.drop i).find? (λx=>x.ID==id)=some x/\v=(x.ID,x.From,x.To,x.Via,x.Left,x.Right,x.ID,x.From,x.To,x.Via,x.Left,x.Right)) λ_=>(l.drop i).find? (λx=>x.ID==id)=none:=
 bK<|aW (λx c e=>aC (λh=>aD (aGx x.Via<|by have:=d x<|Zg c;omega) λr f=>aA ⟨x,AP (q:=λx=>x.ID==id) c h,by rw[f]⟩) λh=>by
  rw[bO<|by omega,MR (q:=λx=>x.ID==id) c h];exact aDw l g d id<|i+1)
  (λb=>aA<|MS b)
termination_by l.length-i
theorem R2(p:aK)(c:Sm p)(id:Int): aB (λn _=>pL n p id) λr=>r=vC p id:=
 aV (λ_=>rfl)<|aP (aX<|aDw _ c.a c.v id 0) (λv d=>aA<|by
  obtain⟨x,b,rfl⟩:=d;rw[YD] at b;unfold vC;rw[b]) λ_ h=>aA<|by
  rw[YD] at h;unfold vC;rw[h]
theorem xG{α:Type}{a:List<|List α}{i:Nat}{x:List α}(b:a[i]?=some x): (a.drop i).flatten=x++(a.drop<|i+1).flatten:=by
 obtain⟨c,rfl⟩:=Ze.1 b;rw[XH c,Yt]
theorem aGO{α:Type}{a:List<|List α}{i:Nat}{x:List α}(b:a[i]?=some x): (a.take<|i+1).flatten=(a.take i).flatten++x:=by
 rw[YX,b];simp
theorem aG3(c:List<|List Aaa)(g:c.length<=1000)(i a:Nat)(f:a+(c.drop i).flatten.length<=100000): aB (λn m=>mX gO n m (c,ln c) ((a:Int),(i:Int))) λr=>r=((a+(c.drop i).flatten.length:Nat):Int):=
 bU<|aW (λx k o=>by
  have e:=xG k;rw[e,Zh] at f;have l:wr ((a:Int)+ln x)=((a+x.length:Nat):Int):=by rw[wr,ln,i64_in _<|by omega];push_cast;rfl
  rw[l,bO<|by omega];refine aC (λh=>?_) λ_=>?_
  .have:=Zl h;omega
  .refine (aG3 c g (i+1) (a+x.length)<|by omega).imp λr j=>?_;rw[j,e,Zh,Yu])
  (λd=>aA<|by rw[Xo d];rfl)
termination_by c.length-i
theorem aG2(a:List<|List Aaa)(o:a.length<=1000)(N:Nat)(g:N<=100000)(i:Nat)(l:List Aaa)(k:Nat)(q:l.length=N)(d:l.take k=(a.take i).flatten)(j:k=(a.take i).flatten.length)(h:k+(a.drop i).flatten.length=N): aB (λn m=>mX gN n m (a,ln a) (l,(0,k),(i:Int))) λr=>win r.1 (some r.2)=a.flatten:=
 bU<|aW (λx f p=>by
  have e:=xG f;rw[e,Zh] at h;rw[bO<|by omega];have c:=aGO f;refine aF (x:=aT l k x) (by unfold SU;rw[Zu<|by simp only[Z0];omega,Z0])<|aG2 a o N g (i+1) _ (k+x.length) (by simp[aT];omega) ?_ (by rw[c,Zh,j]) (by omega);unfold aT;rw[c,<-d,<-Ye,Yg<|by simp;omega,ZW<|by simp;omega])
  (λb=>aA<|by
   show (l.drop 0).take k=a.flatten;rw[YD,d,ZW b])
termination_by a.length-i
theorem aKK(a:List<|List Aaa)(c:a.length<=1000)(g:0<a.flatten.length)(d:a.flatten.length<=100000): aB (λn _=>lQ n a) λr=>r=a.flatten:=by
 refine aV (λ_=>rfl)<|aD (aX<|aG3 a c 0 0<|by simpa using d) λv e=>?_;have f:v=((a.flatten.length:Nat):Int):=by rw[e];simp
 have e2:wr (v-0)=((a.flatten.length:Nat):Int):=by rw[f,wr,i64_in _<|by omega];omega
 refine aP (Q:=λ_=>False) (R:=λr=>r=(List.replicate a.flatten.length ⟨0,0⟩,(0,0))) (aS<|aC (λh=>by have:=Zl h;omega) λ_=>aC (λ_=>?_) λh=>by rw[e2] at h;have:=Zp h;omega) (λ_ h=>h.elim) λr b=>?_
 .refine aF (x:=List.replicate a.flatten.length ⟨0,0⟩) (by rw[e2];unfold rep;rw[Zu<|by omega];simp)<|aC (λh=>?_) λ_=>aF (x:=(0,0)) (by unfold sub;rw[Zu<|by simp];rfl)<|aA rfl;rw[Vd] at h;have:=congrArg List.length h;rw[Yo,Z1] at this;omega
 .subst b;exact aF rfl<|aD (aX<|aG2 a c a.flatten.length d 0 _ 0 (by simp) (by simp) (by simp)<|by simp) λr b=>aA b
def dD(p:aK)(id:Int): List Aaa×Int:=match (vC p id).2&&(dE p (vC p id).1.From).2&&(dE p (vC p id).1.To).2 with
 | true=>([(dE p (vC p id).1.From).1.At]++(vC p id).1.Via++[(dE p (vC p id).1.To).1.At],0)
 | false=>([],7)
theorem aCY(p:aK)(a:Sm p)(id:Int): (vC p id).1.Via.length<=300:=by
 unfold vC;split
 .rename_i x h;exact a.v x<|Xf h
 .simp
theorem Ea(p:aK)(a:Sm p)(id:Int): aB (λn _=>eO n p id) λr=>r=dD p id:=by
 have k:=aCY p a id;refine aV (λ_=>rfl)<|aD (R2 p a id) λl j=>?_;subst j;refine aC (λc=>aD (Jq p a _) λg f=>?_) λc=>aD (Jq p a _) λg f=>?_;all_goals subst f;all_goals refine aC (λb=>aD (Jq p a _) λi e=>?_) λb=>aD (Jq p a _) λi e=>?_;all_goals subst e;all_goals refine aC (λd=>aD (Q:=λ_=>True) (aA trivial) λ_ _=>?_) λd=>aD (Q:=λ_=>True) (aA trivial) λ_ _=>?_
 .refine aD (aKK _ (by simp) (by simp)<|by simp;omega) λr h=>aA ?_;unfold dD;rw[c,b,d,h];simp
 all_goals (refine aA ?_;unfold dD;rw[c,b,d];rfl)
theorem nP(p:aK)(a:Sm p)(id:Int): (dD p id).1.length<=302:=by
 have b:=aCY p a id;unfold dD;split
 .simp;omega
 .simp
theorem yG{p:aK}{id:Int}(h:(dD p id).2=0): 2<=(dD p id).1.length:=by
 unfold dD at h |-;split
 .simp
 .rename_i a;rw[a] at h;cases h
def aHW(l:List Aaa): Prop:=∀(j:Nat) (x y:Aaa),l[j]?=some x->l[j+1]?=some y->x≠y
structure wM(s:bA): Prop where
 h0:0<=s.at_
 h1:s.at_.toNat+1<s.line.path.length
 h2:s.line.path.length<=302
theorem aIB(x:aQ)(l:List Aaa)(v:Int): aB (λn _=>Es n (x,l,v)) λr=>r=false->v=0:=by
 refine aC (λ_=>aA<|by simp) λh=>aC (λ_=>aC (λ_=>aA<|by simp) λ_=>aA λ_=>?_) λ_=>aA λ_=>?_;all_goals simpa using h
theorem aBx(v:List Aaa)(g:R0)(p:g.path=v)(C:2<=v.length)(t:v.length<=302)(i:Nat)(l:List bA)(B:Nat)(A:l.length<=B+i/\B<=100000)(F:i+1<=v.length)(u:∀s∈l,wM s)(q:∀(j:Nat) (x y:Aaa),j<i->v[j]?=some x->v[j+1]?=some y->x≠y):
 aB (λn m=>oR nJ n m (v,g,wr<|ln v-1) (l,(i:Int)))<|Su (λ_=>True) λr=>r.length<=B+302/\(∀s∈r,wM s)/\aHW v:=by
 have z:wr (ln v-1)=((v.length-1:Nat):Int):=by rw[wr,ln,i64_in _<|by omega];omega
 refine bK<|aC (λh=>?_) λh=>aA ⟨by omega,u,λj x y E w=>q j x y ?_ E w⟩
 .have D:i<v.length-1:=by rw[z] at h;have:=Zl h;omega
  rw[bO<|by omega];refine aF (x:=v[i]) (by rw[bF];exact Zb<|by omega)<|aF (x:=v[i+1]) (by rw[bF];exact Zb<|by omega)<|aC (λ_=>aA trivial) λf=>aF (Dr<|by omega) ?_;refine aBx v g p C t (i+1) _ B ⟨by simp;omega,A.2⟩ (by omega) ?_ ?_
  .intro s o;rcases ZD.1 o with h | h
   .exact u s h
   .rw[ZJ.1 h];exact⟨by show (0:Int)<=(i:Int);omega,by show (i:Int).toNat+1<g.path.length;rw[p];omega,by show g.path.length<=302;rw[p];exact t⟩
  .intro j a b G e d;by_cases k:j=i
   .subst k;rw[Zb<|by omega] at e d;cases e;cases d;exact Zp f
   .exact q j a b (by omega) e d
 .rw[z] at h;have:=Zp h;have:=(Ze.1 w).1;omega
termination_by v.length-i
theorem aBy(p:aK)(d:Sm p)(i:Nat)(u:i<=p.Arcs.length)(l:List bA)(A:l.length<=302*i)(g:∀s∈l,wM s)(k:lK p.Arcs i λa=>(dD p a.ID).2=0/\aHW (dD p a.ID).1):
 aB (λn m=>lm3 nK n m (p,p.Arcs,ln p.Arcs) (l,(i:Int)))<|Su (λ_=>True) (Su (λ_=>True) λr=>r.length<=100000/\(∀s∈r,wM s)/\∀a∈p.Arcs,(dD p a.ID).2=0/\aHW (dD p a.ID).1):=by
 have z:=d.a;refine aEF<|aW (λx o q=>aD (Ea p d x.ID) λv c=>aD (aIB _ v.1 v.2) λr t=>aC (λ_=>aA trivial) λh=>?_) λf=>aA ⟨?_,g,k.fin f⟩
 .have b:=t h;rw[bO<|by omega];refine aP (aX<|aBx v.1 ⟨x,v.1⟩ rfl (by rw[c] at b |-;exact yG b) (by rw[c];exact nP p d x.ID) 0 l (302*i) ⟨by omega,by omega⟩ (by rw[c] at b |-;have:=yG b;omega) g λj x y h=>by omega) (λ_ _=>aA trivial) λw e=>?_;exact aBy p d (i+1) (by omega) w (by have:=e.1;omega) e.2.1<|k.step o ⟨by rw[c] at b;exact b,by have:=e.2.2;rw[c] at this;exact this⟩
 .omega
termination_by p.Arcs.length-i
theorem aO4(p:aK)(c:Sm p): aB (λn _=>Dj n p) λr=>(r.2=true->r.1.length<=100000/\(∀s∈r.1,wM s)/\∀a∈p.Arcs,(dD p a.ID).2=0/\aHW (dD p a.ID).1):=
 aV (λ_=>rfl)<|aP (aX<|aBy p c 0 (by omega) [] (by simp) (by simp) lK.nil) (λ_ _=>aF rfl<|aA<|by simp) λw b=>aP (aA b) (λ_ _=>aF rfl<|aA<|by simp) λv d=>aF rfl<|aA λ_=>d
theorem yK{α:Type}{l:List α}{i:Int}(a:0<=i)(h:i.toNat<l.length): idx l i=some l[i.toNat]:=by
 unfold idx;rw[Zu a];exact Zb h
def o9(s:bA): Aaa×Aaa:=(s.line.path.getD s.at_.toNat ⟨0,0⟩,s.line.path.getD (s.at_.toNat+1) ⟨0,0⟩)
theorem o8(s:bA)(a:wM s): aB (λn _=>dJ n s) λr=>r=o9 s:=by
 have e:=a.h0;have c:=a.h1;have g:=a.h2;have b:wr (s.at_+1)=s.at_+1:=i64_in _ (by omega);have e2:(s.at_+1).toNat=s.at_.toNat+1:=by omega
 have d:idx s.line.path s.at_=some (s.line.path.getD s.at_.toNat ⟨0,0⟩):=by rw[yK e<|by omega,YS,Zb<|by omega];rfl
 have f:idx s.line.path (wr<|s.at_+1)=some (s.line.path.getD (s.at_.toNat+1) ⟨0,0⟩):=by
  rw[b];unfold idx;rw[Zu<|by omega,e2,YS,Zb c];rfl
 exact aV (λ_=>rfl)<|aF d<|aF f<|aA rfl
theorem aD0(s:bA)(b:wM s): aB (λn _=>gH n s) λr=>r=pO (o9 s).1.X (o9 s).2.X:=
 aV (λ_=>rfl)<|aD (o8 s b) λr a=>aA<|by rw[a]
theorem aPI(s:bA)(a:wM s): Tt λn _=>pH n s:=
 aV (λ_=>rfl)<|aD (o8 s a) λr b=>aA trivial
theorem aRI(s t:bA)(f:wM s)(c:wM t): aB (λn _=>pI n s t) λr=>r=SS (pO (o9 s).1.X (o9 s).2.X) (pO (o9 t).1.X (o9 t).2.X):=
 aV (λ_=>rfl)<|aD (aD0 s f) λa e=>aD (aD0 t c) λb d=>aD (jN a b) λr g=>aA<|by rw[g,e,d]
theorem Dn{b:Bool}(h:b=true): Ls b=some ():=by subst h;rfl
theorem PG(l:List Aab)(b:l.length<=300)(i:Nat)(m:List<|Int×Aaa): Tt λn k=>mX sG n k (l,ln l) (m,(i:Int)):=
 bU<|aW (λx d a=>by
  rw[bO<|by omega];exact PG l b (i+1) _)
  (λc=>aA trivial)
termination_by l.length-i
theorem aLC(m:List<|Int×Aaa)(x y:bA)(b:wM x)(a:wM y): aB (λn _=>Nd n (m,x,y))<|Su (λ_=>True) λ_=>True:=by
 refine aS<|aD (o8 x b) λ_ _=>aD (o8 y a) λ_ _=>?_;repeat' first
  | exact aA trivial
  | refine aC (λ_=>?_) (λ_=>?_)
  | refine JB ?_
  | refine bE λ_=>?_
theorem U5(m:List<|Int×Aaa)(x:bA)(l:List bA)(b:wM x)(c:∀s∈l,wM s)(d:l.length<=100000)(i:Nat): aB (λn k=>oR sE n k (m,x,l,ln l) (i:Int))<|Su (λ_=>True) λ_=>True:=
 bK<|aW (λy f e=>by
  have a:=c y<|Zg f;rw[bO<|by omega];refine aD (aD0 y a) λ_ _=>aD (aPI x b) λ_ _=>aC (λ_=>aA trivial) λ_=>aP (aLC m x y b a) (λ_ _=>aC (λ_=>U5 m x l b c d<|i+1) λ_=>aA trivial) λ_ _=>U5 m x l b c d<|i+1)
  (λg=>aA trivial)
termination_by l.length-i
instance aW7{s:bA}{x:Aab}{a b:Aaa}: TC (λn=>Nb n (s,x,a,b)):=⟨by repeat' first | exact aA trivial | refine aC (λ_=>?_) (λ_=>?_) | refine bE λ_=>?_⟩
theorem aF0(x:bA)(a:wM x)(l:List Aab)(c:l.length<=300)(i:Nat): aB (λn m=>oR sD n m (x,l,ln l) (i:Int))<|Su (λ_=>True) λ_=>True:=
 bK<|aW (λy e b=>by
  rw[bO<|by omega];exact aD (o8 x a) λ_ _=>bE λ_=>aC (λ_=>aA trivial) λ_=>aF0 x a l c<|i+1)
  (λd=>aA trivial)
termination_by l.length-i
theorem aF1(p:aK)(e:Sm p)(m:List<|Int×Aaa)(l:List bA)(d:∀s∈l,wM s)(j:l.length<=100000)(i:Nat): aB (λn k=>lm3 sF n k (p,m,l,l,ln l) (i:Int))<|Su (λ_=>True)<|Su (λ_=>True) λ_=>True:=
 aEF<|aW (λy g f=>by
  have c:=d y<|Zg g;rw[bO<|by omega];refine aF (aKu (a:=i+1) (b:=l.length) (by omega)<|Zf _)<|aP (aX<|U5 m y _ c (λs h=>d s<|Z7<|ZZ h) (by simp;omega) 0) (λ_ _=>aP (aX<|aF0 y c _ e.n 0) (λ_ _=>aA trivial) λ_ _=>aF1 p e m l d j<|i+1) λ_ _=>aA trivial)
  (λo=>aA trivial)
termination_by l.length-i
theorem aIX(p:aK)(c:Sm p): aB (λn _=>Nf n p) λr=>r=true->∀a∈p.Arcs,(dD p a.ID).2=0/\aHW (dD p a.ID).1:=by
 refine aV (λ_=>rfl)<|aD (aO4 p c) λv b=>aC (λh=>aD (aX<|PG _ c.n 0 []) λw _=>aS ?_) λ_=>aA (by simp);have b:=b h;refine aF (Dn<|Yj<|by have:=b.1;omega)<|aD (TF (F:=λn x y=>bnd (pI n x y) λh=>some h) (λx i y g=>aD (aRI x y (b.2.1 x i)<|b.2.1 y g) λ_ h=>aA h)<|aIu _ _) λl d=>?_;refine aP (A0 (f:=λn=>Nc n (p,w,l,l,ln l) 0)<|aX<|aF1 p c w l (λs j=>b.2.1 s<|d.2 s j) (by rw[d.1];exact b.1) 0) (λ_ _=>aA<|by simp) λw e=>aP (aA e) (λ_ _=>aA<|by simp) λ_ _=>aA λ_=>b.2.2
theorem aGy(l:List aQ)(e:l.length<=300)(i:Nat)(c:lK l i λa=>a.Via.length<=64): aB (λn m=>oR uR n m (l,ln l) (i:Int)) (Su (λ_=>True) λ_=>∀a∈l,a.Via.length<=64):=
 bK<|aW (λy f d=>by
  rw[bO<|by omega];exact aC (λ_=>aA trivial) λh=>aGy l e (i+1)<|c.step f<|by have:¬ln y.Via > 64:=Zp h;unfold ln at this;omega)
  (λb=>aA<|c.fin b)
termination_by l.length-i
structure iQ(p:aK): Prop where
 leN:p.Nodes.length<=256
 leA:p.Arcs.length<=256
 leF:p.Faces.length<=64
 leV:∀a∈p.Arcs,a.Via.length<=64
 asN:L0 (p.Nodes.map Aab.ID)
 asA:L0 (p.Arcs.map aQ.ID)
 asF:L0 p.Faces
 nuA:∀a∈p.Arcs,1<=a.ID/\a.ID<=1073741824
 nuN:∀x∈p.Nodes,1<=x.ID/\x.ID<=1073741824
 nuF:∀x∈p.Faces,1<=x/\x<=1073741824
 ptN:∀x∈p.Nodes,Jp x.At
 ptA:∀a∈p.Arcs,∀y∈a.Via,Jp y
 con:∀a∈p.Arcs,a.From∈p.Nodes.map Aab.ID/\a.To∈p.Nodes.map Aab.ID
 sid:∀a∈p.Arcs,(a.Left=0\/a.Left∈p.Faces)/\(a.Right=0\/a.Right∈p.Faces)
 pth:∀a∈p.Arcs,(dD p a.ID).2=0/\aHW (dD p a.ID).1
theorem aGJ(p:aK)(c:Sm p): aB (λn _=>Ip n p) λr=>r=0->iQ p:=by
 have T:=c.n;have m:=c.a;have S:=c.f;refine aV (λ_=>rfl)<|aD (Q:=λr=>r=false->p.Nodes.length<=256/\p.Arcs.length<=256/\p.Faces.length<=64) ?_ λU H=>aC (λ_=>aA<|by simp) λI=>aP (aX<|aGy _ c.a 0 .nil) (λ_ _=>aA<|by simp) λ_ e=>aF rfl<|aD (aSf p c) λv M=>?_
 .refine aC (λ_=>aA<|by simp) λq=>aC (λ_=>aA<|by simp) λt=>aC (λ_=>aA<|by simp) λs=>aA λ_=>?_;have q:¬ln p.Nodes > 256:=Zp q;have t:¬ln p.Arcs > 256:=Zp t;have s:¬ln p.Faces > 64:=Zp s;unfold ln at q t s;omega
 subst M;refine aD (Q:=λr=>r=false->L0 (p.Nodes.map Aab.ID)/\L0 (p.Arcs.map aQ.ID)/\L0 p.Faces) ?_ λw j=>aC (λ_=>aA<|by simp) λk=>aD (Q:=λr=>r=false->(∀x∈p.Nodes.map Aab.ID,1<=x/\x<=1073741824)/\(∀x∈p.Arcs.map aQ.ID,1<=x/\x<=1073741824)/\(∀x∈p.Faces,1<=x/\x<=1073741824)/\(∀x∈p.Nodes,Jp x.At)/\∀a∈p.Arcs,∀y∈a.Via,Jp y) ?_ λz g=>aC (λ_=>aA<|by simp) λi=>aD (aPW p c (p.Nodes.map Aab.ID)<|by simp;omega) λu d=>aC (λb=>aA λh=>?_) λb=>aD (aIX p c) λL l=>aC (λo=>aA λ_=>?_) λ_=>aA<|by simp
 .exact aD (aK6 _<|by simp;omega) λw j=>aC (λk=>aD (aK6 _<|by simp;omega) λz g=>aC (λi=>aD (aK6 _<|by omega) λu d=>aC (λb=>aA λ_=>⟨j k,g i,d b⟩) λ_=>aA<|by simp) λ_=>aA<|by simp) λ_=>aA<|by simp
 .exact aD (aJu _<|by simp;omega) λw j=>aC (λk=>aD (aJu _<|by simp;omega) λz g=>aC (λi=>aD (aJu _<|by omega) λu d=>aC (λb=>aD (aIY p c) λL l=>aC (λo=>aA λ_=>⟨j k,g i,d b,(l o).1,(l o).2⟩) λ_=>aA<|by simp) λ_=>aA<|by simp) λ_=>aA<|by simp) λ_=>aA<|by simp
 .rw[h] at b;simp at b
 .have A:u=0:=by simpa using b
  let⟨C,F,E,B,O⟩:=g i;let⟨N,D,J⟩:=j k;let⟨G,R,K⟩:=H I;exact⟨G,R,K,e,N,D,J,λa m=>F _<|WV m,λa m=>C _<|WV m,E,B,O,(d A).1,(d A).2,l o⟩
def cr(ux uy vx vy:Int): Int:=ux*vy-uy*vx
theorem aNY(f c d b e a:Int): b*cr f c e a=a*cr f c d b+c*cr d b e a:=by
 unfold cr;simp only[Int.mul_sub];have g:a*(f*b)=b*(f*a):=by rw[XI,WE a b,XI]
 have e2:a*(c*d)=c*(d*a):=by rw[XI,WE a d]
 have h:b*(c*e)=c*(b*e):=XI _ _ _;omega
def Up(x y:Int): Prop:=0<y\/(y=0/\0<x)
theorem aE4{e b d a:Int}(f:Up e b)(g:Up d a)(h:cr e b d a > 0): 0<a:=by
 rcases g with c | ⟨c,i⟩
 .exact c
 .unfold cr at h;rw[c,Int.mul_zero] at h;have:0<=b*d:=by
   refine Int.mul_nonneg ?_ (by omega);rcases f with h | ⟨h,_⟩<;>omega
  omega
theorem aCP{i c j f g d:Int}(k:Up i c)(m:Up j f)(o:Up g d)(l:cr i c j f > 0)(n:cr j f g d > 0): cr i c g d > 0:=by
 have q:=aE4 k m l;have p:=aE4 m o n;have e:=aNY i c j f g d;have r:0<d*cr i c j f:=WT p l;have s:0<=c*cr j f g d:=Int.mul_nonneg (by rcases k with h | ⟨h,_⟩<;>omega) (by omega);have t:0<f*cr i c g d:=by omega
 rcases Int.lt_or_le 0 (cr i c g d) with h | h
 .exact h
 .have:=Xi (a:=f) (b:=cr i c g d) (by omega) h;omega
theorem aKw{i a g d f b:Int}(n:Up i a)(p:Up g d)(q:Up f b)(s:¬cr i a g d > 0)(m:¬cr g d f b > 0): ¬cr i a f b > 0:=by
 intro o;have k:0<b:=aE4 n q o;have l:0<=a:=by rcases n with h | ⟨h,_⟩<;>omega
 rcases p with c | ⟨c,j⟩
 .have e:=aNY i a g d f b;have r:0<d*cr i a f b:=WT c o;have t:b*cr i a g d<=0:=Xi (by omega) (by omega);have u:a*cr g d f b<=0:=Xi l (by omega);omega
 .unfold cr at m;rw[c,Int.zero_mul] at m;have:=WT j k;omega
theorem aKv(c d a b:Int): cr (-c) (-d) (-a) (-b)=cr c d a b:=by
 unfold cr;rw[Int.neg_mul_neg,Int.neg_mul_neg]
def Fb(o p:Aaa): Bool:=decide (p.Y<o.Y)||(p.Y==o.Y&&decide (p.X<o.X))
def twE(o a b:Aaa): Int:=cr (a.X-o.X) (a.Y-o.Y) (b.X-o.X)<|b.Y-o.Y
def rH(o a b:Aaa): Bool:=if Fb o a != Fb o b then Fb o b else decide (twE o a b > 0)
theorem MA{o p:Aaa}(h:Fb o p=false)(b:p≠o): Up (p.X-o.X)<|p.Y-o.Y:=by
 simp only[Fb,WU,Wx,Bool.and_eq_false_iff,X5] at h;by_cases c:p.Y=o.Y
 .refine .inr ⟨by omega,?_⟩;have:p.X≠o.X:=by
   intro d;apply b;cases p;cases o;simp_all
  rcases h.2 with h | h
  .exact absurd c h
  .omega
 .exact .inl<|by omega
theorem MB{o p:Aaa}(h:Fb o p=true): Up (-(p.X-o.X)) (-(p.Y-o.Y)):=by
 simp only[Fb,YU,Z4,Zd,ZC] at h;rcases h with h | ⟨b,a⟩
 .exact .inl<|by omega
 .exact .inr ⟨by omega,by omega⟩
theorem aMf{o a b c:Aaa}(j:a≠o)(i:b≠o)(k:c≠o)(d:rH o a b=true)(e:rH o b c=true): rH o a c=true:=by
 unfold rH at d e |-;cases g:Fb o a<;>cases f:Fb o b<;>cases h:Fb o c<;>rw[g,f] at d<;>rw[f,h] at e<;>simp only[Wf,Zn,Z9,Bool.true_bne,Bool.false_bne,X3,Zz,Xg,Z4] at d e |-
 .exact aCP (MA g j) (MA f i) (MA h k) d e
 .unfold twE at d e |-;rw[<-aKv] at d e |-;exact aCP (MB g) (MB f) (MB h) d e
theorem aMg{o a b c:Aaa}(j:a≠o)(i:b≠o)(k:c≠o)(d:rH o a b=false)(e:rH o b c=false): rH o a c=false:=by
 unfold rH at d e |-;cases g:Fb o a<;>cases f:Fb o b<;>cases h:Fb o c<;>rw[g,f] at d<;>rw[f,h] at e<;>simp only[Wf,Zn,Z9,Bool.true_bne,Bool.false_bne,X3,Zz,Xg,Wx,Bool.true_eq_false] at d e |-
 .exact aKw (MA g j) (MA f i) (MA h k) d e
 .unfold twE at d e |-;rw[<-aKv] at d e |-;exact aKw (MB g) (MB f) (MB h) d e
theorem aMh(o a:Aaa): rH o a a=false:=by
 unfold rH twE cr;rw[Wf,ZF<|by simp,WE];simp
theorem aRS{x y:Int}{B:Nat}(a:-(B:Int)<=x/\x<=B)(b:-(B:Int)<=y/\y<=B): -((B*B:Nat):Int)<=x*y/\x*y<=((B*B:Nat):Int):=by
 have h:(x*y).natAbs<=B*B:=by rw[Int.natAbs_mul];exact Y8 (by omega)<|by omega
 omega
theorem aOw{o a b:Aaa}(e:Jp o)(c:Jp a)(d:Jp b): twV o a b=twE o a b:=by
 let⟨o1,m,n,l⟩:=e;let⟨g,j,p,h⟩:=c;let⟨r,f,k,s⟩:=d;have i:=aRS (B:=2097152) (x:=a.X-o.X) (y:=b.Y-o.Y) ⟨by omega,by omega⟩ ⟨by omega,by omega⟩;have q:=aRS (B:=2097152) (x:=a.Y-o.Y) (y:=b.X-o.X) ⟨by omega,by omega⟩ ⟨by omega,by omega⟩;unfold twV twE cr;simp only[wr];rw[i64_in (a.X-o.X)<|by omega,i64_in (b.Y-o.Y)<|by omega,i64_in (a.Y-o.Y)<|by omega,i64_in (b.X-o.X)<|by omega,i64_in ((a.X-o.X)*(b.Y-o.Y))<|by omega,i64_in ((a.Y-o.Y)*(b.X-o.X))<|by omega,i64_in _<|by omega]
theorem aAb(o p:Aaa): aB (λn _=>gU n o p) λr=>r=Fb o p:=by
 refine aV (λ_=>rfl)<|aD (Q:=λr=>r=Fb o p) ?_ λr c=>aC (λh=>aA<|by rw[<-c,h]) λh=>aA (by rw[<-c,h]);unfold Fb;refine aC (λh=>aA<|by rw[h];rfl) λh=>aC (λa=>aC (λb=>aA<|by rw[h,a,b];rfl) λb=>aA<|by rw[h,a,b];rfl) λa=>aA<|by rw[h,a];rfl
theorem Jp.near{x:Aaa}(h:Jp x): aBR x:=by let⟨b,c,a,d⟩:=h;exact⟨by omega,by omega,by omega,by omega⟩
theorem aHX(o a b:Aaa)(j:Jp o)(f:Jp a)(g:Jp b)(e:a≠o)(d:b≠o): aB (λn _=>GL n (o,a,b)) λr=>r=false:=by
 refine aD (aEh [o,a,b]<|by simp) λr i=>aC (λ_=>aC (λh=>absurd (Zl h) e) λ_=>aC (λh=>absurd (Zl h) d) λ_=>aA rfl) λh=>?_;rw[i (by
  intro x c;rcases ZN.1 c with rfl | c
  .exact j.near
  rcases ZN.1 c with rfl | c
  .exact f.near
  .rw[ZJ.1 c];exact g.near)] at h
 cases h
theorem aKG(o a b:Aaa)(q:Jp o)(p:Jp a)(s:Jp b)(m:a≠o)(f:b≠o): aB (λn _=>Qq n o a b) λr=>r=rH o a b:=by
 refine aV (λ_=>rfl)<|aD (aHX o a b q p s m f) λr v=>aC (λh=>by rw[v] at h;cases h) λ_=>aD (aAb o a) λw c=>?_;have tw:Fb o a=Fb o b->aB (λn _=>bnd (gS n o a b) λh=>cd (h > 0) (some true)<|some false) λr=>r=rH o a b:=by
  intro e;refine aD (aFa o a b) λt k=>?_;rw[aOw q p s] at k;subst k;refine aC (λh=>aA ?_) λh=>aA ?_<;>(unfold rH;rw[e];simp_all)
 have u:Fb o a≠Fb o b->aB (λn _=>bnd (gU n o b) λi=>cnd i (some true)<|some false) λr=>r=rH o a b:=by
  intro e;refine aD (aAb o b) λt k=>?_;refine aC (λh=>aA ?_) λh=>aA ?_<;>(unfold rH;rw[Zu<|by simpa using e];simp_all)
 refine aC (λl=>?_) λl=>?_;all_goals
  refine aD (aAb o b) λx d=>aC (λj=>?_) λj=>?_;all_goals
   refine aC (λg=>?_) λg=>?_;all_goals
    first
    | exact absurd (Zl g) (by decide)
    | exact absurd rfl (Zp g)
    | exact tw (by rw[<-c,<-d,l,j])
    | exact u (by rw[<-c,<-d,l,j];decide)
theorem L0.lt{l:List Int}(h:L0 l): ∀(d i:Nat) (x y:Int),l[i]?=some x->l[i+d+1]?=some y->x<y
 | 0,i,x,y,b,a=>h i x y b a
 | d+1,i,x,y,b,a=>by
  have c:i+d+1<l.length:=by have:=(Ze.1 a).1;omega
  have f:=L0.lt h d i x _ b<|Zb c;have e:=h (i+d+1) _ y (Zb c) (by rw[show i+d+1+1=i+(d+1)+1 by omega];exact a);omega
theorem L0.inj{α:Type}{f:α->Int}{l:List α}(h:L0<|l.map f){a b:α}(p:a∈l)(o:b∈l)(e:f a=f b): a=b:=by
 let⟨i,n⟩:=Yi.1 p;let⟨j,c⟩:=Yi.1 o;have m:(l.map f)[i]?=some (f a):=by rw[Zk,n];rfl
 have k:(l.map f)[j]?=some (f b):=by rw[Zk,c];rfl
 rcases Nat.lt_trichotomy i j with g | d | g
 .have:=h.lt (j-i-1) i _ _ m (by rw[show i+(j-i-1)+1=j by omega];exact k);omega
 .subst d;rw[n] at c;cases c;rfl
 .have:=h.lt (i-j-1) j _ _ k (by rw[show j+(i-j-1)+1=i by omega];exact m);omega
theorem aG6{p:aK}(c:iQ p){a:aQ}(b:a∈p.Arcs): vC p a.ID=(a,true):=by
 unfold vC;cases h:p.Arcs.find? λx=>x.ID==a.ID with
 | none=>
  have:=W4.1 h a b;simp at this
 | some x=>
  have e:=Xf h;have d:x.ID=a.ID:=by have:=List.find?_some h;simpa using this
  rw[c.asA.inj e b d]
theorem Qj{p:aK}{id:Int}(h:id∈p.Nodes.map Aab.ID): (dE p id).2=true/\(dE p id).1∈p.Nodes:=by
 unfold dE;cases a:p.Nodes.find? λx=>x.ID==id with
 | none=>
  obtain⟨x,b,rfl⟩:=Yh.1 h;have:=W4.1 a x b;simp at this
 | some x=>exact⟨rfl,Xf a⟩
theorem FM{p:aK}(b:iQ p){a:aQ}(c:a∈p.Arcs): (dD p a.ID).1=[(dE p a.From).1.At]++a.Via++[(dE p a.To).1.At]:=by
 let⟨g,d⟩:=b.con a c;have f:=(Qj g).1;have e:=(Qj d).1;unfold dD;rw[aG6 b c];simp only[f,e,Xr]
theorem aLI{p:aK}(c:iQ p){a:aQ}(d:a∈p.Arcs): ∀x∈(dD p a.ID).1,Jp x:=by
 let⟨f,e⟩:=c.con a d;rw[FM c d];intro x b;rcases ZD.1 b with b | b
 .rcases ZD.1 b with b | b
  .rw[ZJ.1 b];exact c.ptN _ (Qj f).2
  .exact c.ptA a d x b
 .rw[ZJ.1 b];exact c.ptN _ (Qj e).2
def fU(p:aK)(d:Int): Prop:=∃a∈p.Arcs,d=a.ID\/d=-a.ID
structure aER(p:aK)(o:Aaa)(i:Nat)(l:List Int)(tw:List (Int×Aaa)): Prop where
 len:l.length<=2*i
 dart:∀d∈l,fU p d
 tow:∀d∈l,∃q,bX tw d=some q/\Jp q/\q≠o
theorem aER.add{p:aK}{o:Aaa}{i:Nat}{l:List Int}{tw:List<|Int×Aaa}{d:Int}{q:Aaa}(g:fU p d)(f:Jp q)(c:q≠o)(k:l.length<=2*i+1)(j:∀d∈l,fU p d)(h:∀d∈l,∃q,bX tw d=some q/\Jp q/\q≠o):
 (l++[d]).length<=2*i+2/\(∀e∈l++[d],fU p e)/\∀e∈l++[d],∃q',bX (jS tw d q) e=some q'/\Jp q'/\q'≠o:=by
 refine⟨by simp;omega,?_,?_⟩
 .intro e he;rcases ZD.1 he with he | he
  .exact j e he
  .rw[ZJ.1 he];exact g
 .intro e he;rw[mW];by_cases a:d=e
  .rw[Zu a];exact⟨q,rfl,f,c⟩
  .rw[ZF a];rcases ZD.1 he with he | he
   .exact h e he
   .exact absurd (ZJ.1 he).symm a
theorem D5(l:List Int)(tw:List<|Int×Aaa)(d:Int)(q:Aaa)(h:l.length<=100000): aB (λn _=>oT n (l,tw,d,q)) λr=>r=(l++[d],jS tw d q):=
 aS<|aF (IX h)<|aA rfl
theorem aDv(p:aK)(H:Sm p)(t:iQ p)(id:Int)(v:Aab×Bool)(o:v=dE p id)(i:Nat)(l:List Int)(tw:List<|Int×Aaa)(g:aER p v.1.At i l tw)(hi:i<=p.Arcs.length): aB (λn m=>mX lA n m (p,id,p.Arcs,ln p.Arcs) (l,tw,(i:Int))) λr=>r.1.length<=600/\(∀d∈r.1,fU p d)/\∀d∈r.1,∃q,bX r.2 d=some q/\Jp q/\q≠v.1.At:=by
 have ha:=H.a;refine bU<|aW (λx Z a2=>?_) λa1=>aA ⟨by have:=g.len;show l.length<=600;omega,g.dart,g.tow⟩;have c:=Zg Z;have W:=t.nuA x c;have e0:wr (0-x.ID)=-x.ID:=by rw[wr,i64_in _<|by omega];omega
 rw[bO<|by omega,e0];have e:∀I j,aER p v.1.At (i+1) I j->aB (λn m=>mX lA n m (p,id,p.Arcs,ln p.Arcs) (I,j,((i+1:Nat):Int))) λr=>r.1.length<=600/\(∀d∈r.1,fU p d)/\∀d∈r.1,∃q,bX r.2 d=some q/\Jp q/\q≠v.1.At:=λI j T=>aDv p H t id v o (i+1) I j T (by omega);have f:aER p v.1.At (i+1) l tw:=⟨by have:=g.len;omega,g.dart,g.tow⟩;refine aD (Q:=λ_=>True) ?_ λr _=>aC (λ_=>e _ _ f) λ_=>aD (Ea p H x.ID) λw R=>aC (λ_=>e _ _ f) λ_=>?_
 .repeat' first
   | exact aA trivial
   | refine aC (λ_=>?_) (λ_=>?_)
 subst R;have u:=aLI t c;have z:=(t.pth x c).2;have h2:=yG (t.pth x c).1;have K:=nP p H x.ID;have k:=FM t c;have C:∃q,(dD p x.ID).1[1]?=some q:=⟨_,Zb<|by omega⟩;have E:∃q,(dD p x.ID).1[(dD p x.ID).1.length-2]?=some q:=⟨_,Zb<|by omega⟩;let⟨G,C⟩:=C;let⟨D,E⟩:=E;have i1:idx (dD p x.ID).1 1=some G:=C;have U:wr (ln (dD p x.ID).1-2)=(((dD p x.ID).1.length-2:Nat):Int):=by rw[wr,i64_in _<|by unfold ln;omega];unfold ln;omega
 have M:idx (dD p x.ID).1 (wr<|ln (dD p x.ID).1-2)=some D:=by rw[U,bF];exact E
 have X:Jp G:=u _<|Zg C;have O:Jp D:=u _<|Zg E;have z0:(dD p x.ID).1[0]?=some (dE p x.From).1.At:=by rw[k];rfl
 have S:(dD p x.ID).1[(dD p x.ID).1.length-2+1]?=some (dE p x.To).1.At:=by
  have:(dD p x.ID).1.length-2+1=([(dE p x.From).1.At]++x.Via).length:=by rw[k];simp
  rw[this,k,ZX<|Zf _,XR];rfl
 have V:x.From=id->G≠v.1.At:=by
  intro h;rw[o,<-h];exact (z 0 _ _ z0 C).symm
 have J:x.To=id->D≠v.1.At:=by
  intro h;rw[o,<-h];exact z _ _ _ E S
 have d1:fU p x.ID:=⟨x,c,.inl rfl⟩;have L:fU p (-x.ID):=⟨x,c,.inr rfl⟩;have Y:=g.len;refine aC (λN=>?_) λN=>aC (λy=>?_) λy=>e _ _ f
 .have A:=aER.add (i:=i) d1 X (V<|Wi N) (by omega) g.dart g.tow;refine aF i1<|aD (D5 l tw _ G<|by omega) λs F=>?_;subst F;refine aC (λy=>?_) λy=>e _ _ ⟨by have:=A.1;omega,A.2.1,A.2.2⟩;have B:=aER.add (l:=l++[x.ID]) (tw:=jS tw x.ID G) (i:=i) L O (J<|Wi y) (by simp;omega) A.2.1 A.2.2;refine aF M<|aD (D5 _ _ _ D<|by simp;omega) λs F=>?_;subst F;exact e _ _ ⟨by have:=B.1;omega,B.2.1,B.2.2⟩
 .have A:=aER.add (i:=i) L O (J<|Wi y) (by omega) g.dart g.tow;refine aF M<|aD (D5 l tw _ D<|by omega) λs F=>?_;subst F;exact e _ _ ⟨by have:=A.1;omega,A.2.1,A.2.2⟩
termination_by p.Arcs.length-i
def aCS(o a b:Aaa): Int:=if rH o a b=true then -1 else if rH o b a=true then 1 else 0
theorem v9{o a b:Aaa}: aCS o a b<0↔rH o a b=true:=by
 unfold aCS;split<;>(try split)<;>simp_all
theorem aKQ(p:aK)(u:Sm p)(A:iQ p)(id:Int): aB (λn _=>Mg n p id) λr=>r.length<=600/\∀d∈r,fU p d:=by
 refine aV (λ_=>rfl)<|aD (Jq p u id) λv j=>aC (λb=>aD (aX<|aDv p u A id v j 0 [] [] ⟨by simp,by simp,by simp⟩<|by omega) λw m=>aS<|aF (Dn<|Yj<|by have:=m.1;omega) ?_) λ_=>aA (by simp);have k:Jp v.1.At:=by
  rw[j] at b |-;unfold dE at b |-;cases h:p.Nodes.find? λx=>x.ID==id with
  | none=>rw[h] at b;cases b
  | some x=>exact A.ptN x<|Xf h
 have E:∀x∈w.1,∀y∈w.1,aB (λn _=>bnd (xL n (v.1,w.2,x,y)) λi=>some i) λr=>r=aCS v.1.At ((bX w.2 x).getD ⟨0,0⟩) ((bX w.2 y).getD ⟨0,0⟩):=by
  have a:∀x∈w.1,Jp ((bX w.2 x).getD ⟨0,0⟩)/\(bX w.2 x).getD ⟨0,0⟩≠v.1.At:=by
   intro x c;let⟨D,q,e2,t⟩:=m.2.2 x c;rw[q];exact⟨e2,t⟩
  intro x c y f;refine aD (Q:=λr=>r=aCS v.1.At ((bX w.2 x).getD ⟨0,0⟩) ((bX w.2 y).getD ⟨0,0⟩)) (aS ?_) λr e=>aA e;refine aD (aKG v.1.At ((bX w.2 x).getD ⟨0,0⟩) ((bX w.2 y).getD ⟨0,0⟩) k (a x c).1 (a y f).1 (a x c).2 (a y f).2) λr e=>aC (λh=>aA ?_) λh=>aD (aKG v.1.At ((bX w.2 y).getD ⟨0,0⟩) ((bX w.2 x).getD ⟨0,0⟩) k (a y f).1 (a x c).1 (a y f).2 (a x c).2) λG l=>aC (λg=>aA ?_) λg=>aA ?_
  .unfold aCS;rw[Zu<|by rw[<-e,h]]
  .unfold aCS;rw[ZF<|by rw[<-e,h];simp,Zu<|by rw[<-l,g]]
  .unfold aCS;rw[ZF<|by rw[<-e,h];simp,ZF<|by rw[<-l,g];simp]
 have B:Swo (λx y=>aCS v.1.At ((bX w.2 x).getD ⟨0,0⟩)<|(bX w.2 y).getD ⟨0,0⟩) w.1:=by
  have a:∀x∈w.1,(bX w.2 x).getD ⟨0,0⟩≠v.1.At:=by
   intro x c;let⟨D,q,e2,t⟩:=m.2.2 x c;rw[q];exact t
  refine⟨λx c=>?_,λx c y f z s o g=>?_,λx c y f z s o g=>?_⟩
  .rw[v9,aMh];simp
  .rw[v9] at *;exact aMf (a x c) (a y f) (a z s) o g
  .rw[v9,Bool.not_eq_true] at *;exact aMg (a x c) (a y f) (a z s) o g
 exact aD (TF (F:=λn x y=>bnd (xL n (v.1,w.2,x,y)) λi=>some i) E B) λr e=>aA ⟨by rw[e.1];exact m.1,λd C=>m.2.1 d<|e.2 d C⟩
theorem aBD(l:List Int)(d:Int)(f:l.length<=1000): Tt λn _=>xJ n l d:=by
 refine aV (λ_=>rfl)<|aD (aGF l d<|by omega) λr a=>aC (λ_=>aA trivial) λh=>?_;have i:0<=r:=by have:=Zp h;omega
 have g:r.toNat<l.length:=by rcases a with a | a<;>omega
 have c:wr (wr (r+ln l)-1)=r+(l.length:Int)-1:=by unfold wr ln;rw[i64_in (r+_)<|by omega,i64_in _<|by omega]
 rw[c];have e2:aGX (r+(l.length:Int)-1) (ln l)=some ((r+(l.length:Int)-1).tmod (l.length:Int)):=by unfold aGX ln;rw[ZF<|by omega]
 have b:0<=(r+(l.length:Int)-1).tmod (l.length:Int):=Int.tmod_nonneg _ (by omega);have e:(r+(l.length:Int)-1).tmod (l.length:Int)<(l.length:Int):=Int.tmod_lt_of_pos _ (by omega);exact aF e2<|aF (yK b<|by omega)<|aA trivial
theorem aJ1{V:Type}{m:List<|Int×V}{k:Int}{v:V}(h:bX m k=some v): v∈m.map Prod.snd:=by
 induction m with
 | nil=>cases h
 | cons a r b=>
  simp only[bX] at h;split at h
  .cases h;exact ZM ..
  .exact ZQ _<|b h
theorem aJw{V:Type}(m:List<|Int×V)(k:Int)(v:V): (jS m k v).length<=m.length+1:=by
 induction m with
 | nil=>simp[jS]
 | cons a r b=>
  simp only[jS];split
  .simp
  .simp only[Yc];omega
theorem aGH(p:aK)(v:List Int)(f:v.length<=600)(b:∀d∈v,fU p d)(B:Nat)(c:B<=190000)(i:Nat)(o:i<=v.length)(l:List Int)(m:List<|Int×Int)(s:l.length<=B+i)(q:m.length<=B+i)(a:∀d∈l,fU p d):
 aB (λn k=>mX rY n k (v,v,ln v) (l,m,(i:Int))) λr=>r.1.length<=B+600/\r.2.length<=B+600/\∀d∈r.1,fU p d:=
 bU<|aW (λd h j=>aF (Dr<|by omega) (aD (aBD v d<|by omega) λw _=>by
  rw[bO<|by omega];refine aGH p v f b B c (i+1) (by omega) _ _ (by simp;omega) (by have:=aJw m (wr<|0-d) w;omega) ?_;intro e he;rcases ZD.1 he with he | he
  .exact a e he
  .rw[ZJ.1 he];exact b d<|Zg h))
  (λg=>aA ⟨by show l.length<=_;omega,by show m.length<=_;omega,a⟩)
termination_by v.length-i
theorem aGI(p:aK)(b:Sm p)(e:iQ p)(i:Nat)(t:i<=p.Nodes.length)(l:List Int)(m:List<|Int×Int)(j:l.length<=600*i)(o:m.length<=600*i)(f:∀d∈l,fU p d):
 aB (λn k=>mX rZ n k (p,p.Nodes,ln p.Nodes) (l,m,(i:Int))) λr=>r.1.length<=180000/\r.2.length<=180000/\∀d∈r.1,fU p d:=by
 have s:=b.n;refine bU<|aW (λx q h=>aD (aKQ p b e x.ID) λw c=>aD (aX<|aGH p w c.1 c.2 (600*i) (by omega) 0 (by omega) l m (by omega) (by omega) f) λr a=>?_) λg=>aA ⟨by show l.length<=_;omega,by show m.length<=_;omega,f⟩;rw[bO<|by omega];exact aGI p b e (i+1) (by omega) r.1 r.2 (by have:=a.1;omega) (by have:=a.2.1;omega) a.2.2
termination_by p.Nodes.length-i
theorem aKz{p q:Int->Bool}{d:Int}: ∀(l:List Int),(∀x,q x=true->p x=true)->d∈l->p d=true->q d=false->l.countP q<l.countP p
 | [],_,h,_,_=>by cases h
 | a::l,b,h,i,g=>by
  have e:∀l:List Int,l.countP q<=l.countP p:=λl=>List.countP_mono_left λx _ h=>b x h;rw[Ve,Ve];rcases ZN.1 h with rfl | h
  .rw[i,g];have:=e l;simp;omega
  .have:=aKz l b h i g;by_cases f:q a=true
   .rw[f,b a f];simp;omega
   .rw[ZF f];omega
def oU(m:List<|Int×Bool)(k:Int): Bool:=!(bX m k).getD false
theorem aCy(p:aK)(v:List<|Int×Int)(V:List Int)(f:∀k,(bX v k).getD 0∈V)(g:V.length<=800000)(seen:List<|Int×Bool)(a:List Int)(d:Int)(j:d∈V)(o:a.length+V.countP (oU seen)<=800000):
 aB (λn k=>mX rV n k v (seen,a,d)) λr=>∃t,r.2=a++t/\r.2.length+V.countP (oU r.1)<=a.length+V.countP (oU seen)/\((bX seen d).getD false=false->∃i,t=d::i):=by
 refine bU<|aC (λh=>aA ⟨[],by simp,Zf _,λc=>by rw[h] at c;cases c⟩) λh=>aF (Dr<|by omega) ?_;have m:V.countP (oU<|jS seen d true)<V.countP (oU seen):=by
  refine aKz V (λx b=>?_) j (by unfold oU;rw[h];rfl) (by unfold oU;rw[mW,Zu rfl];rfl);unfold oU at b |-;rw[mW] at b;split at b
  .cases b
  .exact b
 refine (aCy p v V f g (jS seen d true) (a++[d]) ((bX v d).getD 0) (f d)<|by simp;omega).imp ?_;rintro r ⟨t,l,c,_⟩;exact⟨d::t,by rw[l];simp,by simp only[Zh,Yc,Z1] at c;omega,λ_=>⟨t,rfl⟩⟩
termination_by V.countP<|oU seen
def dV(v:List Int×List (Int×Int)): List Int:=v.1++0::v.2.map Prod.snd
theorem aBd(p:aK)(v:List Int×List (Int×Int))(s:v.1.length<=180000)(u:v.2.length<=180000)(e:∀d∈v.1,fU p d)(i:Nat)(G:i<=v.1.length)(l:List<|List Int)(m:List<|Int×Bool)(H:l.length<=i)(z:l.flatten.length+(dV v).countP (oU m)<=400000)(g:∀c∈l,c.length<=800000/\∃d t,c=d::t/\fU p d):
 aB (λn k=>mX rW n k (v.2,uA v.1,ln<|uA v.1) (l,m,(i:Int))) λr=>r.1.length<=180000/\r.1.flatten.length<=400000/\∀c∈r.1,c.length<=800000/\∃d t,c=d::t/\fU p d:=by
 have y:=xN v.1;refine bU<|aW (λd B F=>?_) λE=>aA ⟨by show l.length<=_;omega,by show l.flatten.length<=_;omega,g⟩;rw[bO<|by omega];have b:d∈v.1:=(aGS v.1).mem_iff.1<|Zg B;refine aC (λ_=>aBd p v s u e (i+1) (by omega) l m (by omega) z g) λx=>?_;have A:∀k,(bX v.2 k).getD 0∈dV v:=by
  intro k;unfold dV;cases D:bX v.2 k with
  | none=>simp
  | some w=>exact List.mem_append_right _<|ZQ _<|aJ1 D
 have o:(dV v).length<=400000:=by simp[dV];omega
 refine aD (Q:=λr=>∃t,r.2=d::t/\r.2.length+(dV v).countP (oU r.1)<=(dV v).countP (oU m)) (aS<|aD (aX<|aCy p v.2 (dV v) A (by omega) m [] d (List.mem_append_left _ b)<|by simp only[Z1];omega) λr j=>aA ?_) λr j=>aF (Dr<|by omega) ?_
 .let⟨t,h,q,C⟩:=j;obtain⟨f,rfl⟩:=C x;exact⟨f,by simpa using h,by simpa using q⟩
 let⟨f,h,q⟩:=j;refine aBd p v s u e (i+1) (by omega) _ _ (by simp;omega) ?_ ?_
 .rw[Xw,Zh,show[r.2].flatten=r.2 by simp];omega
 intro c a;rcases ZD.1 a with a | a
 .exact g c a
 .rw[ZJ.1 a];exact⟨by omega,d,f,h,e d b⟩
termination_by v.1.length-i
decreasing_by all_goals (have:=xN v.1;omega)
theorem aS4{v:List Int×List (Int×Int)}(c:v.1.length<=180000)(d:v.2.length<=180000){m:List<|Int×Bool}: ([]:List<|List Int).flatten.length+(dV v).countP (oU m)<=400000:=by
 have b:(dV v).countP (oU m)<=(dV v).length:=List.countP_le_length;have a:(dV v).length<=400000:=by simp[dV];omega
 simp only[Xd,Z1];omega
def aOj(p:aK)(l:List<|List Int): Prop:=l.length<=180000/\l.flatten.length<=400000/\∀c∈l,c.length<=800000/\∃d t,c=d::t/\fU p d
theorem D4(p:aK)(b:Sm p): aB (λn _=>Ax n p) λr=>r.2=0->iQ p/\aOj p r.1:=by
 refine aV (λ_=>rfl)<|aD (aGJ p b) λc i=>aC (λh=>aA λe=>?_) λh=>?_
 .rw[show c=0 from e] at h;simp at h
 .have d:=i (by simpa using h);exact aD (aX<|aGI p b d 0 (by omega) [] [] (by simp) (by simp)<|by simp) λv a=>aS<|aF (Dn<|Yj<|by have:=a.1;omega)<|aD (A0 (f:=λn=>Mf n (v.2,uA v.1,ln<|uA v.1) ([],[],0))<|aX<|aBd p v a.1 a.2.1 a.2.2 0 (by omega) [] [] (by simp) (aS4 a.1 a.2.1)<|by simp) λr g=>aA λ_=>⟨d,g⟩
structure JP(p:aK)(m:List (Int×List Aaa)): Prop where
 has:∀a∈p.Arcs,∃l,bX m a.ID=some l/\2<=l.length
 len:∀k l,bX m k=some l->l.length<=302
theorem aBC(p:aK)(d:Sm p)(g:iQ p)(i:Nat)(m:List<|Int×List Aaa)(s:∀(j:Nat) (a:aQ),j<i->p.Arcs[j]?=some a->∃l,bX m a.ID=some l/\2<=l.length)(t:∀k l,bX m k=some l->l.length<=302): aB (λn k=>mX lS n k (p,p.Arcs,ln p.Arcs) (m,(i:Int))) λr=>JP p r:=by
 have y:=d.a;refine bU<|aW (λx f u=>aD (Ea p d x.ID) λw q=>aC (λ_=>?_) λh=>?_) λo=>aA ⟨lK.fin (l:=p.Arcs) (i:=i) (Q:=λ(a:aQ)=>∃l,bX m a.ID=some l/\2<=l.length) s o,t⟩
 .rw[bO<|by omega];subst q;refine aBC p d g (i+1) _ (λj a v b=>?_) λk l e=>?_
  .rw[mW];by_cases he:x.ID=a.ID
   .rw[Zu he];exact⟨_,rfl,yG (g.pth x<|Zg f).1⟩
   .rw[ZF he];refine s j a ?_ b;rcases ZI j i with h | h
    .exact h
    .have:j=i:=by omega
     subst this;rw[f] at b;cases b;exact absurd rfl he
  .rw[mW] at e;split at e
   .cases e;exact nP p d _
   .exact t k l e
 .subst q;rw[(g.pth x<|Zg f).1] at h;simp at h
termination_by p.Arcs.length-i
theorem LW(p:aK)(c:Sm p)(b:iQ p): aB (λn _=>pA n p) λr=>JP p r:=
 aV (λ_=>rfl)<|aD (aX<|aBC p c b 0 [] (λj a h=>by omega) λk l h=>by cases h) λr d=>aA d
theorem aCZ(p:aK)(a:Sm p)(d:Int): Tt λn _=>xK n p d:=
 aV (λ_=>rfl)<|aC (λ_=>aA trivial) λ_=>aC (λ_=>aA trivial) λ_=>aD (R2 p a _) λ_ _=>aC (λ_=>aA trivial) λ_=>aA trivial
theorem A3(p:aK)(a:Sm p)(d:Int): Tt λn _=>xD n p d:=
 aV (λ_=>rfl)<|aD (aCZ p a d) λ_ _=>aC (λ_=>aC (λ_=>aA trivial) λ_=>aA trivial) λ_=>aA trivial
theorem aGB(v:List Aaa)(k:Int)(c:k=wr (ln v-1))(f:2<=v.length)(e:v.length<=1000)(i:Nat)(s:Int): Tt λn m=>mX uM n m (v,k) (s,(i:Int)):=by
 have g:wr (ln v-1)=((v.length-1:Nat):Int):=by unfold wr ln;rw[i64_in _<|by omega];omega
 refine bU<|aC (λh=>?_) λh=>aA trivial;have d:i<v.length-1:=by rw[c,g] at h;have:=Zl h;omega
 have b:idx v (i:Int)=some v[i]:=by rw[bF];exact Zb<|by omega
 have a:idx v ((i+1:Nat):Int)=some v[i+1]:=by rw[bF];exact Zb<|by omega
 rw[bO<|by omega];exact aF b<|aF a<|aF a<|aF b<|aGB v k c f e (i+1) _
termination_by v.length-i
theorem aAP(p:aK)(e:Sm p)(c:List Int)(f:c.length<=512)(i:Nat)(s:Int): aB (λn m=>oR uN n m (p,c,ln c) (s,(i:Int)))<|Su (λ_=>True) λ_=>True:=
 bK<|aW (λd k j=>aD (aCZ p e d) λw _=>aC (λ_=>aD (Ea p e _) λv g=>aC (λ_=>aA trivial) λb=>by
  rw[bO<|by omega];have a:v.2=0:=by simpa using b
  refine aD (aX<|aGB v.1 _ rfl (by rw[g] at a |-;exact yG a) (by rw[g];have:=nP p e<|iY d<|wr<|0-d;omega) 0 0) λt _=>aC (λ_=>aAP p e c f (i+1) _) λ_=>aAP p e c f (i+1) _) λ_=>aA trivial)
  (λh=>aA trivial)
termination_by c.length-i
theorem aHQ(p:aK)(a:Sm p)(c:List Int): Tt λn _=>rU n p c:=
 aV (λ_=>rfl)<|aC (λ_=>aA trivial) λh=>aP (aX<|aAP p a c (by have h:¬ln c > 512:=Zp h;unfold ln at h;omega) 0 0) (λ_ _=>aA trivial) λ_ _=>aF rfl<|aA trivial
section
variable {a b c:Aaa}
instance aWW: TC (λn=>mT n (a,b,c)):=⟨by repeat' first | exact aA trivial | refine aC (λ_=>?_) (λ_=>?_) | refine bE λ_=>?_⟩
instance aWV: TC (λn=>mS n (a,b,c)):=⟨by repeat' first | exact aA trivial | refine aC (λ_=>?_) (λ_=>?_) | refine bE λ_=>?_⟩
end
theorem aMB(a x y:Aaa)(b c:Bool): Tt λn _=>mU n (a,b,c,x,y):=by
 refine aS ?_;repeat' first | exact aA trivial | refine aC (λ_=>?_) (λ_=>?_) | refine bE λ_=>?_
theorem aGn(a:Aaa)(l:List Aaa)(g:l.length<=1000)(i:Nat)(q:1<=i)(p f:Bool): Tt λn k=>mX eH n k (a,l) (p,f,(i:Int)):=by
 refine bU<|aC (λh=>?_) λ_=>aA trivial;have b:(i:Int)<ln l:=Zl h;have b:i<l.length:=by unfold ln at b;omega
 have j:wr ((i:Int)-1)=((i-1:Nat):Int):=by rw[wr,i64_in _<|by omega];omega
 rw[bO<|by omega,j];have c:∀e d,Tt λn k=>mX eH n k (a,l) (e,d,((i+1:Nat):Int)):=λe d=>aGn a l g (i+1) (by omega) e d;have o:idx l ((i-1:Nat):Int)=some (l[i-1]'(by omega)):=by rw[bF];exact Zb<|by omega
 have m:idx l (i:Int)=some l[i]:=by rw[bF];exact Zb<|by omega
 exact aF o<|aF m<|aD (aMB _ _ _ _ _) λ_ _=>aC (λ_=>aC (λ_=>c _ _) λ_=>c _ _) λ_=>aC (λ_=>c _ _) λ_=>c _ _
termination_by l.length-i
def B8(m:List<|Int×List Aaa): Prop:=∀k l,bX m k=some l->l.length<=302
theorem B8.d{m:List<|Int×List Aaa}(h:B8 m)(k:Int): ((bX m k).getD []).length<=1000:=by
 cases e:bX m k with
 | none=>simp
 | some l=>have:=h k l e;show l.length<=_;omega
theorem aGo(m:List<|Int×List Aaa)(f:B8 m)(c:List Int)(g:c.length<=800000)(a:Aaa)(i:Nat)(e b:Bool): Tt λn k=>mX fR n k (a,m,c,ln c) (e,b,(i:Int)):=
 bU<|aW (λd l j=>by
  rw[bO<|by omega];exact aD (aX<|aGn a _ (f.d _) 1 (by omega) e b) λ_ _=>aGo m f c g a (i+1) _ _)
  (λh=>aA trivial)
termination_by c.length-i
theorem aMA(m:List<|Int×List Aaa)(d:B8 m)(c:List Int)(b:c.length<=800000)(a:Aaa): Tt λn _=>eL n m c a:=
 aV (λ_=>rfl)<|aD (Q:=λ_=>True) (aS<|aD (aX<|aGo m d c b a 0 false false) λ_ _=>aA trivial) λ_ _=>aC (λ_=>aC (λ_=>aA trivial) λ_=>aA trivial) λ_=>aC (λ_=>aA trivial) λ_=>aA trivial
theorem aEp(m:List<|Int×List Aaa)(e:B8 m)(l:List Jr)(f:∀x∈l,x.outer.length<=800000)(a:Aaa)(b i:Nat)(g:b<l.length)(d:i<l.length): Tt λn _=>uC n (a,m,l,(b:Int),(i:Int)):=by
 have c:idx l (i:Int)=some l[i]:=by rw[bF];exact Zb d
 have e2:idx l (b:Int)=some l[b]:=by rw[bF];exact Zb g
 have k:Tt λn _=>eL n m l[i].outer a:=aMA m e _ (f _<|ZP d) a;exact aC (λ_=>aF c<|aD k λ_ _=>aC (λ_=>aA trivial) λ_=>aA trivial) λ_=>aF c<|aF e2<|aC (λ_=>aF c<|aD k λ_ _=>aC (λ_=>aA trivial) λ_=>aA trivial) λ_=>aA trivial
theorem MT(m:List<|Int×List Aaa)(d:B8 m)(l:List Jr)(f:∀x∈l,x.outer.length<=800000)(g:l.length<=800000)(a:Aaa)(b i:Nat)(e:b<l.length): aB (λn k=>mX iV n k (a,m,l) ((b:Int),(i:Int))) λr=>0<=r/\r.toNat<l.length:=
 bU<|aC (λh=>by
  have c:(i:Int)<ln l:=Zl h;have c:i<l.length:=by unfold ln at c;omega
  rw[bO<|by omega];exact aD (aEp m d l f a b i e c) λ_ _=>aC (λ_=>MT m d l f g a i (i+1) c) λ_=>MT m d l f g a b (i+1) e)
  (λj=>aA<|show 0<=(b:Int)/\(b:Int).toNat<l.length from⟨by omega,by simpa using e⟩)
termination_by l.length-i
theorem aGg(m:List<|Int×List Aaa)(c:B8 m)(l:List Jr)(d:∀x∈l,x.outer.length<=800000)(e:l.length<=800000)(f:0<l.length)(a:Aaa): aB (λn _=>eG n m l a) λr=>0<=r/\r.toNat<l.length:=
 aV (λ_=>rfl)<|aD (aX<|MT m c l d e a 0 1 f) λr b=>aA b
theorem aBc(l:List aQ)(a:l.length<=300)(id:Int)(i:Nat)(s:Int): Tt λn m=>mX sN n m (id,l,ln l) (s,(i:Int)):=
 bU<|aW (λd e b=>by
  rw[bO<|by omega];refine aD (Q:=λ_=>True) ?_ λ_ _=>aC (λ_=>aBc l a id (i+1) _) λ_=>aBc l a id (i+1) _;exact aC (λ_=>aA trivial) λ_=>aA trivial)
  (λc=>aA trivial)
termination_by l.length-i
theorem R1(p:aK)(b:Sm p)(id:Int): Tt λn _=>kU n p id:=
 aV (λ_=>rfl)<|aD (aX<|aBc p.Arcs b.a id 0 0) λ_ _=>aA trivial
structure aKR(l:List dQ)(b c:Nat): Prop where
 al:∀a∈l,a.alone.length<=c
 sz:∀a∈l,a.outer.length+a.inner.flatten.length<=400000
 l1:1<=l.length
 l2:l.length<=200000
 ou:∀a∈l,a.outer.length<=800000
 inn:∀a∈l,a.inner.length<=b/\∀c∈a.inner,c.length<=800000
 ne:∀(i:Nat) (a:dQ),1<=i->l[i]?=some a->a.outer≠[]
def Ec: Prop:=∀(p:aK) (cs:List<|List Int) (m:List<|Int×List Aaa),Sm p->iQ p->aOj p cs->JP p m->aB (λn _=>jI n p cs m) λr=>aKR r 200000 300
theorem aCO(a:dQ)(h:a.inner.length<=200000): aB (λn _=>fS n a) λr=>r=a.outer::a.inner:=
 aV (λ_=>rfl)<|aF (tP (l:=[a.outer]) (m:=a.inner)<|by simp;omega)<|aA rfl
section
variable (p:aK)(hp:Sm p)(lf:List Int)(v:Int)
include hp
theorem aGj(c:List Int)(a:c.length<=800000)(i:Nat): aB (λn m=>oR pB n m (p,lf,v,c,ln c) (i:Int))<|Su (λ_=>True) λ_=>True:=
 bK<|aW (λd g b=>aD (A3 p hp d) λ_ _=>by
  rw[bO<|by omega];exact aC (λ_=>aA trivial) λ_=>aGj c a<|i+1)
  (λe=>aA trivial)
termination_by c.length-i
theorem HA(a:List<|List Int)(g:a.length<=800000)(b:∀c∈a,c.length<=800000)(i:Nat): aB (λn m=>oR pC n m (p,lf,v,a,ln a) (i:Int))<|Su (λ_=>True) λ_=>True:=
 bK<|aW (λc e d=>aP (aX<|aGj p hp lf v c (b c<|Zg e) 0) (λ_ _=>aA trivial) λ_ _=>aF rfl<|by
  rw[bO<|by omega];exact HA a g b<|i+1)
  (λf=>aA trivial)
termination_by a.length-i
end
theorem aBU{V:Type}(k:Int)(v:V): ∀m:List<|Int×V,bX m k=none->(jS m k v).length=m.length+1
 | [],_=>rfl
 | a::r,h=>by
  simp only[bX] at h;split at h
  .cases h
  .rename_i b;simp only[jS];rw[ZF b];simp only[Yc];rw[aBU k v r h]
theorem aAx(p:aK)(q:Sm p)(l:List dQ)(o:aKR l 200000 300)(i:Nat)(R:i<=l.length)(lf:List Int)(g:List<|Int×Bool)(K:lf.length=i)(E:g.length=i-1)(j:∀k v,bX g k=some v->v=true): aB (λn m=>oR jY n m (p,l,ln l) (lf,g,(i:Int)))<|Su (λ_=>True) λr=>r.1.length=l.length/\r.2.length=l.length-1:=by
 have O:=o.l2;refine bK<|aW (λa I N=>?_) λL=>aA (show lf.length=l.length/\g.length=l.length-1 by omega);have y:=Zg I;have D:=o.inn a y;have B:=o.ou a y;have f:∀w,w=a.outer::a.inner->w.length<=800000/\∀c∈w,c.length<=800000:=by
  rintro w rfl;refine⟨by simp;omega,λc H=>?_⟩;rcases ZN.1 H with rfl | H
  .exact B
  .exact D.2 c H
 rw[bO<|by omega];refine aC (λb=>?_) λb=>?_
 .have F:1<=i:=by have:(i:Int) > 0:=Zl b;omega
  have G:=o.ne i a F I;let⟨d,t,C⟩:∃d t,a.outer=d::t:=by
   cases h:a.outer with
   | nil=>exact absurd h G
   | cons d t=>exact⟨d,t,rfl⟩
  refine aF (x:=d) (by rw[C];rfl)<|aD (A3 p q d) λv _=>aD (Q:=λr=>r=false->(bX g v).getD false=false) ?_ λ_ M=>aC (λ_=>aA trivial) λJ=>aD (aCO a<|by omega) λw s=>aP (aX<|HA p q lf v w (f w s).1 (f w s).2 0) (λ_ _=>aA trivial) λ_ _=>aF rfl<|aF (Dr<|by omega)<|aAx p q l o (i+1) (by omega) _ _ (by simp;omega) ?_ ?_
  .exact aC (λ_=>aA<|by simp) λ_=>aC (λ_=>aA<|by simp) λh=>aA λ_=>h
  .have h:=M J;have:bX g v=none:=by
    cases e:bX g v with
    | none=>rfl
    | some w=>rw[e,j v w e] at h;cases h
   rw[aBU v true g this,E];omega
  .intro k u z;rw[mW] at z;split at z
   .cases z;rfl
   .exact j k u z
 .exact aD (aCO a<|by omega) λw s=>aP (aX<|HA p q lf 0 w (f w s).1 (f w s).2 0) (λ_ _=>aA trivial) λ_ _=>aF rfl<|aF (Dr<|by omega)<|aAx p q l o (i+1) (by omega) _ _ (by simp;omega) (by have:¬(i:Int) > 0:=Zp b;omega) j
termination_by l.length-i
theorem aM4(p:aK)(e:Sm p)(l:List dQ)(c:aKR l 200000 300): aB (λn _=>wQ n p l) λr=>r.2=true->r.1.length=l.length/\l.length=p.Faces.length+1:=
 aV (λ_=>rfl)<|aP (aX<|aAx p e l c 0 (by omega) [] [] rfl rfl λ_ _ h=>by cases h) (λ_ _=>aA<|by simp) λr d=>aF rfl<|aC (λb=>aA λ_=>⟨d.1,by have:=c.l1;have f:=d.2;have b:ln r.2=ln p.Faces:=Wi b;unfold ln at b;omega⟩) λ_=>aA λh=>by cases h
def SzR(o:List Int)(i:List<|List Int)(a:List Int): Prop:=o.length+i.flatten.length<=400000/\(i.length<=200000/\∀c∈i,c.length<=800000)/\a.length<=300
theorem aOF(s:Ec)(p:aK)(g:Sm p): aB (λn _=>uB n p) λr=>r.2.2.2=0->iQ p/\r.1.length=p.Faces.length+1/\r.2.1.length=r.1.length/\r.1.length<=200000/\∀a∈r.1,SzR a.outer a.inner a.alone:=by
 refine aV (λ_=>rfl)<|aD (D4 p g) λc o=>aC (λb=>aA λh=>?_) λb=>?_
 .rw[show c.2=0 from h] at b;simp at b
 .let⟨j,i⟩:=o (by simpa using b);exact aD (LW p g j) λm q=>aD (s p c.1 m g j i q) λl d=>aD (aM4 p g l d) λf k=>aC (λb=>aA λ_=>⟨j,(k b).2,(k b).1,d.l2,λa e=>⟨d.sz a e,⟨by have:=(d.inn a e).1;omega,(d.inn a e).2⟩,by have:=d.al a e;omega⟩⟩) λ_=>aA λh=>by cases h
theorem aGD(d:List Int)(b:List dQ)(k:d.length=b.length)(j:b.length<=200000)(f:∀a∈b,SzR a.outer a.inner a.alone)(i:Nat)(l:List dW)(q:l.length=i)(e:∀r∈l,SzR r.Outer r.Inner r.Alone)(s:i<=b.length): aB (λn m=>mX lT n m (d,b,ln b) (l,(i:Int))) λr=>r.length=b.length/\r.length<=200000/\∀x∈r,SzR x.Outer x.Inner x.Alone:=by
 refine bU<|aW (λa h g=>?_) λp=>aA ⟨show l.length=_ by omega,show l.length<=_ by omega,e⟩;let⟨y,o⟩:∃y,d[i]?=some y:=⟨_,Zb<|by omega⟩;rw[bO<|by omega];exact aF (by rw[bF];exact o)<|aF (Dr<|by omega)<|aGD d b k j f (i+1) _ (by simp;omega) (by
  intro r c;rcases ZD.1 c with c | c
  .exact e r c
  .rw[ZJ.1 c];exact f a<|Zg h)<|by omega
termination_by b.length-i
theorem aSN(x y:dW): aB (λn _=>jZ n x y) λr=>r=SS x.Face y.Face:=
 aV (λ_=>rfl)<|aD (jN _ _) λr a=>aA a
theorem OR(m:Ec)(p:aK)(s:Sm p): ∃v:List dW×Int,aB (λn _=>kP n p) (λr=>r=v)/\(v.2=0->iQ p/\v.1.length=p.Faces.length+1)/\(v.1.length<=200000/\∀x∈v.1,SzR x.Outer x.Inner x.Alone)/\aB (λn _=>wR n p) λr=>r=v.2:=by
 let⟨v,e,g⟩:=(aOF m p s).val;have k:aB (λn _=>kP n p) λr=>r.2=v.2.2.2/\(r.2=0->r.1.length=v.1.length)/\r.1.length<=200000/\∀x∈r.1,SzR x.Outer x.Inner x.Alone:=by
  refine aV (λ_=>rfl)<|aD g λw a=>?_;subst a;refine aC (λb=>aA ⟨rfl,λh=>by rw[show w.2.2.2=0 from h] at b;simp at b,by simp,by simp⟩) λb=>?_;have i:w.2.2.2=0:=by simpa using b
  let⟨_,_,u,j,q⟩:=e i;exact aD (aX<|aGD w.2.1 w.1 u j q 0 [] (by simp) (by simp)<|by omega) λl c=>aS<|aF (Dn<|Yj<|by have:=c.2.1;omega)<|aD (TF (F:=λn x y=>bnd (jZ n x y) λh=>some h) (λx _ y _=>aD (aSN x y) λ_ h=>aA h)<|aIu _ _) λr f=>aA ⟨by rw[i],λ_=>by show r.length=_;rw[f.1];exact c.1,by show r.length<=_;rw[f.1];exact c.2.1,λx t=>c.2.2 x<|f.2 x t⟩
 let⟨w,a,d⟩:=k.val;exact⟨w,d,λh=>⟨(e<|a.1▸h).1,by rw[a.2.1 h];exact (e<|a.1▸h).2.1⟩,a.2.2,aV (λ_=>rfl)<|aD g λz o=>aA<|by rw[o,a.1]⟩
theorem aUA{c:Prop}[Decidable c]{x y:Nat×Nat}(b:1<=x.2/\x.2<=4)(a:1<=y.2/\y.2<=4): 1<=(if c then x else y).2/\(if c then x else y).2<=4:=by split<;>assumption
theorem aS2(s:ByteArray)(p:Nat)(h:p<s.size): 1<=(Utf8.decode s p).2/\(Utf8.decode s p).2<=4:=by
 unfold Utf8.decode;dsimp only;repeat' first
  | apply aUA
  | (show 1<=_/\_<=4;exact⟨by dsimp only;omega,by dsimp only;omega⟩)
theorem aUR{α:Type}{P:α->Prop}{f:Nat->Nat->Option α}(h:aB f P): Tt f:=h.imp λ_ _=>trivial
theorem aDh(a:Int)(b:xC)(i:Nat): aB (λn m=>oR pQ n m (a,b) (i:Int))<|Su (λ_=>True) λ_=>True:=
 bK<|aC (λh=>by
  have h:(i:Int)<13:=Zl h;have h:i<13:=by omega
  rw[bO<|by omega];refine aF (x:=([b.e0,b.e1,b.e2,b.e3,b.e4,b.e5,b.e6,b.e7,b.e8,b.e9,b.e10,b.e11,b.e12]:List gA)[i]) (by rw[bF];exact Zb<|by simpa using h)<|aD (Q:=λ_=>True) ?_ λ_ _=>aC (λ_=>aA trivial) λ_=>aDh a b<|i+1;repeat' first
   | exact aA trivial
   | refine aC (λ_=>?_) (λ_=>?_)) λ_=>aA trivial
termination_by 13-i
theorem aDg(a:Int): Tt λn _=>wS n a:=
 aV (λ_=>rfl)<|aC (λ_=>aA trivial) λ_=>aC (λ_=>aA trivial) λ_=>aP (aX<|aDh _ _ 0) (λ_ _=>aA trivial) λ_ _=>aF rfl<|aA trivial
theorem aDr(s:ByteArray)(b:s.size<=1000)(i:Nat)(l:List Int)(d:l.length<=i)(e:i<=1010): aB (λn m=>oR pR n m () (l,(s,i)))<|Su (λ_=>True) λv=>v.1.length<=1010:=
 bK<|aC (λh=>by
  have h:i<s.size:=Zl h;have c:=aS2 s i h;refine aD (aDg _) λ_ _=>aC (λ_=>aA trivial) λ_=>aF (IX<|by omega)<|aDr s b (i+(Utf8.decode s i).2) _ (by simp;omega)<|by omega) λh=>aA<|show l.length<=1010 by omega
termination_by s.size-i
theorem aKJ(s:ByteArray)(a:s.size<=1000): aB (λn _=>Iw n s) λr=>r.1.length<=1010:=
 aV (λ_=>rfl)<|aP (aX<|aDr s a 0 [] (by simp)<|by omega) (λ_ _=>aA<|by simp) λv b=>aF rfl<|aA b
theorem aMI(s t:ByteArray)(h:s.size<=1000): Tt λn _=>P3 n s t:=
 ⟨_,trivial,1,λn m a _=>by
  obtain⟨n,rfl⟩:∃k,n=k+1:=⟨n-1,by omega⟩;show (match Nat.blt s.size 4294967281 with | true=>_ | false=>_)=_;rw[show Nat.blt s.size 4294967281=true from by rw[YC];omega]⟩
theorem aIF{s:ByteArray}{i:Int}(a:0<=i)(h:i.toNat<s.size): ∃c,sat s i=some c:=by
 unfold sat;rw[Zu a,Zb<|by simpa using h];exact⟨_,rfl⟩
theorem aFL(a b:List Int)(d:b.length<=100000)(i:Nat): aB (λn m=>oR yI n m (a,b,ln b) (i:Int))<|Su (λ_=>True) λ_=>True:=
 bK<|aW (λx f c=>aD (aDg x) λ_ _=>by
  rw[bO<|by omega];exact aC (λ_=>aA trivial) λ_=>aFL a b d<|i+1)
  (λe=>aA trivial)
termination_by b.length-i
theorem aPk(s:ByteArray): Tt λn _=>yJ n s:=by
 refine aV (λ_=>rfl)<|aD (Q:=λ_=>True) ?_ λ_ _=>aA trivial;refine aV (λ_=>rfl)<|aC (λ_=>aA trivial) λf=>aC (λ_=>aA trivial) λh=>?_;have h:¬((s.size:Nat):Int) > 40:=Zp h;have f:s≠(⟨#[]⟩:ByteArray):=Zp f;have m:0<s.size:=by
  rcases XB s.size with e | e
  .exfalso;apply f;cases s with
   | mk d=>cases d with
    | mk l=>cases l with
     | nil=>rfl
     | cons a l=>simp[ByteArray.size] at e
  .exact e
 let⟨c,j⟩:=aIF (s:=s) (i:=0) (by omega) (by simpa using m);have g:wr ((s.size:Int)-1)=(s.size:Int)-1:=by rw[wr,i64_in _<|by omega]
 let⟨d,k⟩:=aIF (s:=s) (i:=(s.size:Int)-1) (by omega) (by omega);refine aD (aKJ s<|by omega) λb o=>aC (λ_=>aA trivial) λ_=>aD (Q:=λ_=>True) ?_ λ_ _=>aC (λ_=>aA trivial) λ_=>aP (aX<|aFL b.1 b.1 (by omega) 0) (λ_ _=>aA trivial) λ_ _=>aF rfl<|aA trivial;exact aF j<|aC (λ_=>aA trivial) λ_=>aF (by rw[g];exact k)<|aC (λ_=>aA trivial) λ_=>aD (aMI s _<|by omega) λ_ _=>aC (λ_=>aA trivial) λ_=>aA trivial
instance aU0{s:ByteArray}: TC (λn=>yJ n s):=⟨aPk s⟩
structure mO(s:aJ): Prop where
 p:Sm s.Plan
 n:s.Features.length<=1000
 f:∀f∈s.Features,f.Parts.length<=1000
abbrev Sx{β γ:Type}(f:Nat->Nat->Option (β⊕γ)): Prop:=aB f (Su (λ_=>True) λ_=>True)
instance aTQ{x:Int}: TC (λn=>cM n x):=⟨aV (λ_=>rfl) (by repeat' first|apply dU|apply aC|apply bE|intro)⟩
section
variable {f:aG}
instance fc1: TC (λn=>mC n f):=⟨by repeat' first|apply dU|apply aC|apply bE|intro⟩
instance fc4: TC (λn=>mB n f):=⟨by repeat' first|apply dU|apply aC|apply bE|intro⟩
instance fc5: TC (λn=>hJ n f):=⟨by repeat' first|apply dU|apply aC|apply bE|intro⟩
instance aWT: TC (λn=>qC n f):=⟨aS (by repeat' first|apply dU|apply aC|apply bE|intro)⟩
instance aWS: TC (λn=>Bq n f):=⟨aS (by repeat' first|apply dU|apply aC|apply bE|intro)⟩
instance aWR: TC (λn=>pZ n f):=⟨aS (by repeat' first|apply dU|apply aC|apply bE|intro)⟩
instance aWQ: TC (λn=>Bn n f):=⟨aS (by repeat' first|apply dU|apply aC|apply bE|intro)⟩
instance aWP: TC (λn=>pV n f):=⟨aS (by repeat' first|apply dU|apply aC|apply bE|intro)⟩
end
section
variable (l:List aG)(hl:l.length<=1000)
include hl
theorem aSo(i:Nat): Sx λn m=>oR hU n m (l,ln l) (i:Int):=
 bK<|aW (λx c a=>by
  rw[bO<|by omega];exact bE λ_=>aC (λ_=>aA trivial) λ_=>aSo<|i+1)
  (λb=>aA trivial)
termination_by l.length-i
theorem aUF: Sx λn _=>qE n l:=
 aS<|aP (f:=λn _=>qD n l) (Q:=λ_=>True) (R:=λ_=>True) (aS<|aP (aX<|aSo l hl 0) (λ_ _=>aA trivial) λ_ _=>aF rfl<|aA trivial) (λ_ _=>aC (λ_=>aA trivial) λ_=>aA trivial) λ_ _=>aF rfl<|aA trivial
theorem aSn(i:Nat): Sx λn m=>oR mF n m (l,ln l) (i:Int):=
 bK<|aW (λx c a=>by
  rw[bO<|by omega];exact bE λ_=>aC (λ_=>aA trivial) λ_=>aSn<|i+1)
  (λb=>aA trivial)
termination_by l.length-i
theorem aSq: Sx λn _=>Bs n l:=
 aS<|aP (f:=λn _=>Br n l) (Q:=λ_=>True) (R:=λ_=>True) (aS<|aP (aX<|aSn l hl 0) (λ_ _=>aA trivial) λ_ _=>aF rfl<|aA trivial) (λ_ _=>aC (λ_=>aA trivial) λ_=>aA trivial) λ_ _=>aF rfl<|aA trivial
theorem aSm(i:Nat): Sx λn m=>oR hM n m (l,ln l) (i:Int):=
 bK<|aW (λx c a=>by
  rw[bO<|by omega];exact bE λ_=>aC (λ_=>aA trivial) λ_=>aSm<|i+1)
  (λb=>aA trivial)
termination_by l.length-i
theorem aUE: Sx λn _=>qB n l:=
 aS<|aP (f:=λn _=>qA n l) (Q:=λ_=>True) (R:=λ_=>True) (aS<|aP (aX<|aSm l hl 0) (λ_ _=>aA trivial) λ_ _=>aF rfl<|aA trivial) (λ_ _=>aC (λ_=>aA trivial) λ_=>aA trivial) λ_ _=>aF rfl<|aA trivial
theorem aSl(i:Nat): Sx λn m=>oR mE n m (l,ln l) (i:Int):=
 bK<|aW (λx c a=>by
  rw[bO<|by omega];exact bE λ_=>aC (λ_=>aA trivial) λ_=>aSl<|i+1)
  (λb=>aA trivial)
termination_by l.length-i
theorem aSp: Sx λn _=>Bp n l:=
 aS<|aP (f:=λn _=>Bo n l) (Q:=λ_=>True) (R:=λ_=>True) (aS<|aP (aX<|aSl l hl 0) (λ_ _=>aA trivial) λ_ _=>aF rfl<|aA trivial) (λ_ _=>aC (λ_=>aA trivial) λ_=>aA trivial) λ_ _=>aF rfl<|aA trivial
theorem fI3(j:∀f∈l,f.Parts.length<=1000)(m:List<|Aac×Bool): Sx λn _=>Fu n (m,l):=by
 have o:∀(a:Int) (p:List Int) (d:p.length<=1000) (k i:Nat) (m:List<|Aac×Bool),p.length<=i+k->Sx (λn k=>oR nV n k (a,p,ln p) (m,(i:Int))):=by
  intro a p d k;induction k with
  | zero=>exact λi m h=>bK<|aW (λx c b=>by omega) λ_=>aA trivial
  | succ k e=>
   intro i m h;refine bK<|aW (λx c b=>?_) λ_=>aA trivial;rw[bO<|by omega];exact aC (λ_=>aA trivial) λ_=>e (i+1) _<|by omega
 have q:∀(m:List<|Aac×Bool) (f:aG),f.Parts.length<=1000->Sx (λn _=>Fq n (m,f)):=λm f d=>
  aS<|aP (f:=λn _=>Fp n f) (Q:=λ_=>True) (R:=λ_=>True) (bE λ_=>aC (λ_=>aA trivial) λ_=>aC (λ_=>aA trivial) λ_=>aA trivial) (λ_ _=>aA trivial) λ_ _=>aF rfl<|aP (aX<|o _ _ d _ 0 _<|Xh ..) (λ_ _=>aA trivial) λ_ _=>aF rfl<|aA trivial
 have g:∀(k i:Nat) (m:List<|Aac×Bool),l.length<=i+k->Sx (λn k=>oR nW n k (l,ln l) (m,(i:Int))):=by
  intro k;induction k with
  | zero=>exact λi m h=>bK<|aW (λx c b=>by omega) λ_=>aA trivial
  | succ k e=>
   intro i m h;refine bK<|aW (λx c b=>?_) λ_=>aA trivial;rw[bO<|by omega];exact aP (q _ x<|j x<|Zg c) (λ_ _=>e (i+1) _<|by omega) λ_ _=>aF rfl<|aA trivial
 exact aS<|aP (f:=λn _=>Fs n (m,l)) (Q:=λ_=>True) (R:=λ_=>True) (aS<|aP (aX<|g _ 0 m<|Xh ..) (λ_ _=>aA trivial) λ_ _=>aF rfl<|aA trivial) (λ_ _=>aC (λ_=>aA trivial) λ_=>aA trivial) λ_ _=>aF rfl<|aA trivial
end
theorem QP(l:List Int)(x:Int)(b:l.length<=100000): aB (λn _=>lI n l x) λr=>r=decide (x∈l):=
 aV (λ_=>rfl)<|aD (oJ l x b) λr a=>aC (λh=>aA<|by rw[<-a,h]) λh=>aA<|by rw[<-a,h]
theorem aPp(p:aK)(b:Sm p)(f:aG)(l:List Int)(j:l.length<=1000): Tt λn _=>iZ n (p,f,l):=by
 have d:∀x:Int,Tt λn _=>nS n (p,f,x):=λx=>
  aS<|bE λ_=>aC (λ_=>aD (Jq p b x) λ_ _=>aC (λ_=>aA trivial) λ_=>aA trivial) λ_=>aC (λ_=>aD (R2 p b x) λ_ _=>aC (λ_=>aA trivial) λ_=>aA trivial) λ_=>aC (λ_=>aD (QP p.Faces x<|by have:=b.f;omega) λ_ _=>aC (λ_=>aA trivial) λ_=>aA trivial) λ_=>aA trivial
 have c:∀(k i:Nat),l.length<=i+k->Sx (λn k=>oR eV n k (p,f,l,ln l) (i:Int)):=by
  intro k;induction k with
  | zero=>exact λi h=>bK<|aW (λx g a=>by omega) λ_=>aA trivial
  | succ k e=>
   intro i h;refine bK<|aW (λx g a=>?_) λ_=>aA trivial;rw[bO<|by omega];exact aD (d x) λ_ _=>aC (λ_=>aA trivial) λ_=>e (i+1)<|by omega
 exact aS<|aD (f:=λn _=>nT n (p,f,l)) (Q:=λ_=>True) (aS<|aP (aX<|c _ 0<|Xh ..) (λ_ _=>aA trivial) λ_ _=>aF rfl<|aA trivial) λ_ _=>aC (λ_=>aA trivial) λ_=>aA trivial
theorem fI9(s:aJ)(d:mO s): Sx λn _=>sY n (s,s.Features):=by
 have c:∀f∈s.Features,Tt λn _=>qG n (s,f):=λf g=>
  aS<|aD (f:=λn _=>qF n (s.Plan,f)) (Q:=λ_=>True) (aS<|aD (aPp s.Plan d.p f f.Parts<|d.f f g) λ_ _=>aC (λ_=>aA trivial) λ_=>aA trivial) λ_ _=>aC (λ_=>aA trivial) λ_=>aA trivial
 have b:∀(k i:Nat),s.Features.length<=i+k->Sx (λn k=>oR hZ n k (s,s.Features,ln s.Features) (i:Int)):=by
  have:=d.n;intro k;induction k with
  | zero=>exact λi h=>bK<|aW (λx e a=>by omega) λ_=>aA trivial
  | succ k j=>
   intro i h;refine bK<|aW (λx e a=>?_) λ_=>aA trivial;rw[bO<|by omega];exact aD (c x<|Zg e) λ_ _=>aC (λ_=>aA trivial) λ_=>j (i+1)<|by omega
 exact aS<|aP (f:=λn _=>qH n (s,s.Features)) (Q:=λ_=>True) (R:=λ_=>True) (aS<|aP (aX<|b _ 0<|Xh ..) (λ_ _=>aA trivial) λ_ _=>aF rfl<|aA trivial) (λ_ _=>aC (λ_=>aA trivial) λ_=>aA trivial) λ_ _=>aF rfl<|aA trivial
theorem aJT(l:List Int)(a:l.length<=1000): aB (λn _=>uH n l) λr=>r=true->L0 l:=
 aV (λ_=>rfl)<|aP (aX<|y5 l a 1 (Zf _) λj x y h=>by omega) (λ_ _=>aA<|by simp) λ_ h=>aF rfl<|aA λ_=>h
theorem aUD(s:aJ)(g:mO s): Sx λn _=>pY n (s,0,s.Features):=by
 have q:=g.n;have b:∀(i:Nat) (f:aG),f∈s.Features->i<s.Features.length->Tt (λn _=>pU n (s,((i+1:Nat):Int),f)):=by
  intro i f m p;have j:=aJT f.Parts<|g.f f m;refine aC (λh=>?_) λ_=>aD j λ_ _=>aC (λ_=>aA trivial) λ_=>aA trivial;have h:((i+1:Nat):Int) > 1:=Zl h;have e:wr (((i+1:Nat):Int)-2)=((i-1:Nat):Int):=by rw[wr,i64_in _<|by omega];omega
  refine aF (x:=s.Features[i-1]'(by omega)) (by rw[e,bF];exact Zb<|by omega)<|aC (λ_=>aA trivial) λ_=>aD j λ_ _=>aC (λ_=>aA trivial) λ_=>aA trivial
 have c:∀(k i:Nat),s.Features.length<=i+k->Sx (λn k=>oR hK n k (s,s.Features,ln s.Features) ((i:Int),(i:Int))):=by
  intro k;induction k with
  | zero=>exact λi h=>bK<|aW (λx d a=>by omega) λ_=>aA trivial
  | succ k l=>
   intro i h;refine bK<|aW (λx d a=>?_) λ_=>aA trivial;rw[bO<|by omega];refine aD (f:=λn _=>pW n (s,(i:Int),x)) (Q:=λr=>r.1=((i+1:Nat):Int)) (aS ?_) λr o=>aC (λ_=>aA trivial) λ_=>by rw[o];exact l (i+1)<|by omega
   have e:=bO (i:=i) (by omega);have h:=b i x (Zg d) a;rw[<-e] at h |-;exact aD h λ_ _=>aC (λ_=>aA rfl) λ_=>aA rfl
 exact aS<|aP (f:=λn _=>pX n (s,0,s.Features)) (Q:=λ_=>True) (R:=λ_=>True) (aS<|aP (aX<|c _ 0<|Xh ..) (λ_ _=>aA trivial) λ_ _=>aF rfl<|aA trivial) (λ_ _=>aC (λ_=>aA trivial) λ_=>aA trivial) λ_ _=>aF rfl<|aA trivial
theorem Jk{β γ:Type}{f:Nat->Nat->Option (β⊕γ)}{N:Nat->Nat->Option Int}{q:β->Bool}{c:Int}(h:Sx f)(k:Tt N): Tt λn m=>Av.bnd2 (f n m) (λv=>Av.cnd (q v) (some c)<|N n m) λw=>Av.bnd (some w) λ_=>N n m:=
 aP h (λ_ _=>aC (λ_=>aA trivial) λ_=>k) λ_ _=>aF rfl k
theorem aSk(l:List aG)(m:l.length<=1000): aB (λn _=>Bm n l) (Su (λv=>v.2=true) λ_=>∀f∈l,f.Parts.length<=64):=by
 have d:∀(k i:Nat),l.length<=i+k->lK l i (λf=>f.Parts.length<=64)->aB (λn k=>oR mD n k (l,ln l) (i:Int)) (Su (λv=>0<=v.2) λ_=>∀f∈l,f.Parts.length<=64):=by
  intro k;induction k with
  | zero=>exact λi h b=>bK<|aW (λx e c=>by omega) λa=>aA<|b.fin a
  | succ k g=>
   intro i h b;refine bK<|aW (λx e c=>?_) λa=>aA<|b.fin a;rw[bO<|by omega];refine aD (f:=λn _=>pV n x) (Q:=λr=>r=false->x.Parts.length<=64) (aS (aC (λ_=>aA<|by simp) λh=>aA λ_=>by have h:¬ln x.Parts > 64:=Zp h;unfold ln at h;omega)) λr j=>aC (λ_=>aA<|show (0:Int)<=(i:Int) by omega) λh=>g (i+1) (by omega)<|b.step e<|j h
 refine aS<|aP (f:=λn _=>Bl n l) (Q:=λv:aG×Int=>0<=v.2) (R:=λ_=>∀f∈l,f.Parts.length<=64) (aS<|aP (aX<|d _ 0 (Xh ..) .nil) (λv h=>aA<|show 0<=v.2 from h) λ_ h=>aF rfl<|aA<|by exact h) (λv o=>aC (λ_=>aA rfl) λh=>?_) λ_ h=>aF rfl<|aA (by exact h);have:=Zp h;omega
structure SvB(s:aJ): Prop where
 v:iQ s.Plan
 n:s.Features.length<=128
 f:∀f∈s.Features,f.Parts.length<=64
structure Li(s:aJ): Prop extends SvB s where
 c:aB (λn _=>dR n s) λr=>r=0
theorem iQ.sm{p:aK}(h:iQ p): Sm p:=⟨by have:=h.leN;omega,by have:=h.leA;omega,by have:=h.leF;omega,λa b=>by have:=h.leV a b;omega⟩
theorem Li.ok{s:aJ}(h:Li s): mO s:=⟨h.v.sm,by have:=h.n;omega,λf a=>by have:=h.f f a;omega⟩
theorem aM6(o:Ec)(s:aJ)(a:mO s): aB (λn _=>dR n s) λr=>r=0->SvB s:=by
 let⟨v,_,e,_,j⟩:=OR o s.Plan a.p;refine aV (λ_=>rfl)<|aD j λr m=>aC (λb=>aA λh=>by rw[show r=0 from h] at b;simp at b) λb=>aC (λ_=>aA<|by simp) λd=>aD (f:=λn _=>tA n s) (Q:=λ_=>True) (aS<|aA trivial) λ_ _=>aD (f:=λn _=>sZ n ()) (Q:=λ_=>True) (aS<|aA trivial) λc _=>JB ?_;have l:r=0:=by simpa using b
 have i:=(e<|by rw[<-m];exact l).1;have g:s.Features.length<=128:=by have h:¬ln s.Features > 128:=Zp d;unfold ln at h;omega
 refine aP (aSk _ a.n) (λv e=>aC (λ_=>aA<|by simp) λh=>by rw[show v.2=true from e] at h;cases h) λ_ k=>aF rfl<|aB.imp (P:=λ_=>True) ?_ λ_ _ _=>⟨i,g,k⟩;exact Jk (aUD s a)<|Jk (aSp _ a.n)<|Jk (aUE _ a.n)<|Jk (aSq _ a.n)<|Jk (aUF _ a.n)<|Jk (fI9 s a)<|Jk (fI3 _ a.n a.f c)<|aA trivial
theorem ND(o:Ec)(s:aJ)(a:mO s): aB (λn _=>dR n s) λr=>r=0->Li s:=by
 let⟨r,h,t⟩:=(aM6 o s a).val;exact t.imp λx e z=>⟨h<|e.symm.trans z,(e.symm.trans z)▸t⟩
theorem aFB(l:List Int)(d:l.length<=1000)(i:Nat): aB (λn m=>oR vA n m (l,ln l) (i:Int))<|Su (λv=>(l.drop i).find? (· != 0)=some v) λ_=>(l.drop i).find? (· != 0)=none:=
 bK<|aW (λx b c=>by
  rw[bO<|by omega];refine aC (λh=>aA<|AP b h) λh=>?_;have e:=MR (q:=(· != (0:Int))) b h;rw[e];exact aFB l d<|i+1) λa=>aA<|MS a
termination_by l.length-i
def orV(c d:Int): Int:=([c,d].find? (· != 0)).getD 0
theorem aUw(c d:Int): aB (λn _=>DY n [c,d]) λr=>r=orV c d:=
 aV (λ_=>rfl)<|aP (aX<|aFB [c,d] (by simp) 0) (λv h=>aA<|by unfold orV;rw[show[c,d].find? (· != 0)=some v from h];rfl) λ_ h=>aF rfl<|aA<|by unfold orV;rw[show[c,d].find? (· != 0)=none from h];rfl
def IZ(x:Int): Int:=iY x<|wr<|0-x
def aHt(c d:Int): Int:=orV (SS (IZ c)<|IZ d)<|SS d c
theorem i5(c d:Int): aHt c d<0↔IZ c<IZ d\/(IZ c=IZ d/\d<c):=by
 unfold aHt orV SS;by_cases e:IZ c<IZ d
 .simp[e]
 .by_cases g:IZ c > IZ d
  .have:¬IZ c=IZ d:=by omega
   simp[e,g,this]
  .have:IZ c=IZ d:=by omega
   by_cases b:d<c
   .simp[this,b]
   .by_cases f:d > c
    .simp[this,b,f]
    .simp[this,b,f]
theorem aMQ(c d:Int): aB (λn _=>nI n c d) λr=>r=aHt c d:=
 aV (λ_=>rfl)<|aD (jN _ _) λx e=>aD (jN _ _) λy a=>aD (aUw x y) λz b=>aA<|by subst e a b;rfl
theorem d7(l:List Int)(a:l.length<=800000)(i:Nat)(s:Int): Tt λn m=>mX uQ n m (l,ln l) (s,(i:Int)):=
 bU<|aW (λx d b=>by
  rw[bO<|by omega];refine aD (Q:=λ_=>True) ?_ λ_ _=>aC (λ_=>d7 l a (i+1) _) λ_=>d7 l a (i+1) _;exact aC (λ_=>aA trivial) λ_=>aC (λ_=>aC (λ_=>aA trivial) λ_=>aA trivial) λ_=>aA trivial) λc=>aA trivial
termination_by l.length-i
theorem aSc(l:List Int)(a:l.length<=800000)(e:l≠[]): Tt λn _=>nH n l:=by
 obtain⟨d,t,rfl⟩:∃d t,l=d::t:=by
  cases l with
  | nil=>exact absurd rfl e
  | cons d t=>exact⟨d,t,rfl⟩
 exact aV (g:=λn=>bnd (idx (d::t) 0) λb=>bnd (Ui n (d::t,ln (d::t)) (b,0)) λc=>some c) (λ_=>rfl)<|aF (x:=d) rfl<|aD (aX<|d7 _ a 0 d) λ_ _=>aA trivial
open Classical in
noncomputable def aHs(l:List Int): Int:=if h:∃k,aB (λn _=>nH n l) (λr=>r=k) then h.choose else 0
theorem aJE(l:List Int)(b:l.length<=800000)(a:l≠[]): aB (λn _=>nH n l) λr=>r=aHs l:=by
 have h:∃k,aB (λn _=>nH n l) λr=>r=k:=by
  let⟨k,_,h⟩:=(aSc l b a).val;exact⟨k,h⟩
 unfold aHs;rw[Wz h];exact h.choose_spec
theorem aTa(x y:dQ)(d:x.outer.length<=800000/\x.outer≠[])(c:y.outer.length<=800000/\y.outer≠[]): aB (λn _=>nB n x y) λr=>r=aHt (aHs x.outer) (aHs y.outer):=
 aV (λ_=>rfl)<|aD (aJE _ d.1 d.2) λa g=>aD (aJE _ c.1 c.2) λb e=>aD (aMQ a b) λr f=>aA<|by rw[f,g,e]
theorem aRi{α:Type}(k:α->Int)(l:List α): Swo (λx y=>aHt (k x)<|k y) l where
 ir x _:=by rw[i5];omega
 tr x _ y _ z _:=by simp only[i5];omega
 ti x _ y _ z _:=by simp only[i5];omega
def IV(a:aQ): aQ:=⟨a.ID,a.From,a.To,a.Via,0,0⟩
theorem Q7(f:List Int)(b:List Aab)(l:List aQ)(o:l.length<=300)(j:∀a∈l,a.Via.length<=300)(i:Nat)(h:List aQ)(d:h=(l.take i).map IV): aB (λn m=>mX lE n m (f,b,l,ln l) (h,(i:Int))) λr=>r=l.map IV:=
 bU<|aW (λx g k=>aD (aGx x.Via<|by have:=j x<|Zg g;omega) λv e=>aF (IX<|by rw[d];simp;omega)<|by
  rw[bO<|by omega];refine Q7 f b l o j (i+1) _ ?_;rw[d,e,YX,g];simp[IV])
  (λc=>aA<|show h=_ by rw[d,ZW c])
termination_by l.length-i
theorem aTc(a:Int)(l:List Int)(c:l.length<=800000)(i:Nat)(m:List<|Int×Int): Tt λn k=>mX pE n k (a,l,ln l) (m,(i:Int)):=
 bU<|aW (λx e b=>by
  rw[bO<|by omega];exact aTc a l c (i+1) _) λd=>aA trivial
termination_by l.length-i
theorem aTd(a:Int)(l:List<|List Int)(f:l.length<=800000)(b:∀c∈l,c.length<=800000)(i:Nat)(m:List<|Int×Int): Tt λn k=>mX pF n k (a,l,ln l) (m,(i:Int)):=
 bU<|aW (λx e d=>by
  rw[bO<|by omega];exact aD (aX<|aTc a x (b x<|Zg e) 0 m) λ_ _=>aTd a l f b (i+1) _) λg=>aA trivial
termination_by l.length-i
def aEP(l:List Int)(k:Nat): Prop:=l=(List.range k).map λj=>((j+1:Nat):Int)
theorem aTe(b:List aQ)(c d:List Aab)(e:List dQ)(w:Nat×Nat)(v:w.1+w.2<=e.length)(u:w.2<=1000)(o:∀a∈e,a.outer.length<=800000/\a.inner.length<=200000/\∀c∈a.inner,c.length<=800000)(i:Nat)(y:i<=w.2)(l:List Int)(f:aEP l i)(m:List<|Int×Int):
 aB (λn k=>mX pG n k (b,c,d,e,w,((w.2:Nat):Int)) (l,m,(i:Int))) λr=>aEP r.1 w.2:=by
 refine bU<|aC (λh=>?_) λh=>aA ?_
 .have h:(i:Int)<((w.2:Nat):Int):=Zl h;have h:i<w.2:=by omega
  have x:idx (win e<|some w) (i:Int)=some (e[w.1+i]'(by omega)):=by
   rw[bF];simp only[win];rw[XL h,Zw,Zb<|by omega]
  have e2:idx e ((i:Int)+((w.1:Nat):Int))=some (e[w.1+i]'(by omega)):=by
   rw[show (i:Int)+((w.1:Nat):Int)=((w.1+i:Nat):Int) by omega,bF,Zb<|by omega]
  have j:=o _<|ZP (show w.1+i<e.length by omega);have q:l.length=i:=by rw[f];simp
  rw[bO<|by omega];refine aF x<|aF e2<|aF (IX<|by omega)<|aD (aCO _ j.2.1) λs p=>aD (aX<|aTd _ s (by rw[p];simp;omega) (by
   rw[p];intro c g;rcases ZN.1 g with rfl | g
   .exact j.1
   .exact j.2.2 c g) 0 m) λt _=>aTe b c d e w v u o (i+1) (by omega) _ (by unfold aEP at f |-;rw[List.range_succ,YJ,<-f];rfl) t
 .have h:¬(i:Int)<((w.2:Nat):Int):=Zp h;have:i=w.2:=by omega
  exact this▸f
termination_by w.2-i
def nA(l:List aQ)(k:Nat): Prop:=l.length=k/\∀a∈l,a.Via.length<=300
theorem jE{α:Type}{l:List α}{i k:Nat}(h:i<k): gR l k (i:Int)=l[i]?:=by
 unfold gR;rw[Zu ⟨by omega,by simpa using h⟩];simp
theorem nA.set{l:List aQ}{k i:Nat}{a b:aQ}(h:nA l k)(e:l[i]?=some a)(d:b.Via=a.Via): nA (l.set i b) k:=⟨by rw[Yr];exact h.1,λx c=>by
 rcases YL c with c | rfl
 .exact h.2 x c
 .rw[d];exact h.2 a<|Zg e⟩
theorem aTb(f:List Int)(b c:List Aab)(d:List<|Int×Int)(k:Nat)(o:k<=300)(i:Nat)(l:List aQ)(g:nA l k): aB (λn m=>mX pD n m (f,b,c,d,(k:Int)) (l,(i:Int))) λr=>nA r k:=by
 refine bU<|aC (λh=>?_) λh=>aA g;have h:(i:Int)<(k:Int):=Zl h;have e:i<l.length:=by rw[g.1];omega
 have j:gR l l.length (i:Int)=some l[i]:=by rw[jE e];exact Zb e
 have e2:idx l (i:Int)=some l[i]:=by rw[bF];exact Zb e
 rw[bO<|by omega];have A:=g.set (b:=⟨l[i].ID,l[i].From,l[i].To,l[i].Via,Option.getD (bX d l[i].ID) 0,l[i].Right⟩) (Zb e) rfl;generalize t:l.set i ⟨l[i].ID,l[i].From,l[i].To,l[i].Via,Option.getD (bX d l[i].ID) 0,l[i].Right⟩=q at A;have a:i<q.length:=by rw[A.1];omega
 have s:gR q q.length (i:Int)=some q[i]:=by rw[jE a];exact Zb a
 have p:idx q (i:Int)=some q[i]:=by rw[bF];exact Zb a
 refine aF j<|aF e2<|aF j<|aF e2 ?_;simp only[YA];rw[t];refine aF s<|aF p<|aTb f b c d k o (i+1) _ ?_;exact A.set (Zb a) rfl
termination_by k-i
theorem aNl(U:Ec)(p:aK)(w:Sm p): aB (λn _=>Io n p) λr=>Sm r.1/\(r.2=0->r.1.Arcs.length=p.Arcs.length/\aEP r.1.Faces r.1.Faces.length):=by
 have L:=w.n;have B:=w.a;have z:Sm ⟨p.Nodes,p.Arcs.map IV,[]⟩:=⟨L,by simp;omega,by simp,λa e=>by
  obtain⟨x,t,rfl⟩:=Yh.1 e;exact w.v x t⟩
 have N:Sm ⟨[],[],[]⟩:=⟨by simp,by simp,by simp,by simp⟩;refine aV (λ_=>rfl)<|aD (f:=λn _=>Ka n p) (Q:=λr=>r=(p.Arcs.map IV,[],p.Nodes,p.Nodes)) (aS<|aD (aGx p.Nodes<|by omega) λc I=>aD (aX<|Q7 [] c p.Arcs B w.v 0 [] rfl) λd V=>aA<|by rw[I,V]) λb G=>?_;subst G;refine aD (D4 _ z) λc I=>aC (λb=>aA ⟨N,λh=>by rw[show c.2=0 from h] at b;simp at b⟩) λb=>?_;let⟨K,H⟩:=I (by simpa using b);refine aD (LW _ z K) λm S=>aD (U _ c.1 m z K H S) λf k=>?_;have X:=k.l1;have W:=k.l2;refine aF (x:=(1,f.length-1)) (by unfold sub;rw[Zu ⟨by omega,by unfold ln;omega,by unfold ln;simp⟩];simp[ln])<|aC (λ_=>aA ⟨N,λh=>by cases h⟩) λu=>?_;have u:¬((f.length-1:Nat):Int) > 64:=Zp u;have J:win f (some (1,f.length-1))=f.drop 1:=by simp only[win];rw[ZW<|by simp]
 have i:∀x∈win f (some (1,f.length-1)),x∈f/\x.outer≠[]:=by
  rw[J];intro x t;let⟨j,D⟩:=Yi.1 t;rw[Zw] at D;exact⟨Zg D,k.ne (1+j) x (by omega) D⟩
 refine aS<|aF (Dn<|Yj ⟨by omega,by show 1+(f.length-1)<=_;omega⟩)<|aD (TF (F:=λn x y=>bnd (nB n x y) λl=>some l) (g:=λx y=>aHt (aHs x.outer)<|aHs y.outer) (λx t y R=>aD (aTa x y ⟨k.ou x (i x t).1,(i x t).2⟩ ⟨k.ou y (i y R).1,(i y R).2⟩) λ_ h=>aA h)<|aRi _ _) λq M=>?_;have T:q.length=f.length-1:=by rw[M.1,J];simp
 have s:∀a∈aT f 1 q,a∈f:=by
  intro a e;unfold aT at e;rcases ZD.1 e with e | e
  .exact Z7 e
  rcases ZD.1 e with e | e
  .exact (i a<|M.2 a e).1
  .exact ZZ e
 have C:(aT f 1 q).length=f.length:=by unfold aT;simp;omega
 refine aD (A0 (f:=λn=>Jz n (p.Arcs.map IV,p.Nodes,p.Nodes,aT f 1 q,(1,f.length-1),((f.length-1:Nat):Int)) ([],[],0))<|aX<|aTe _ _ _ _ (1,f.length-1) (by rw[C];show 1+(f.length-1)<=_;omega) (by show f.length-1<=_;omega) (λa e=>⟨k.ou a<|s a e,(k.inn a<|s a e).1,(k.inn a<|s a e).2⟩) 0 (by omega) [] rfl []) λo O=>aD (A0 (f:=λn=>Jy n (o.1,p.Nodes,p.Nodes,o.2,((p.Arcs.map IV).length:Int)) (p.Arcs.map IV,0))<|aX<|aTb _ _ _ _ (p.Arcs.map IV).length (by simp;omega) 0 _ ⟨rfl,z.v⟩) λr A=>aA ?_;have E:o.1.length=f.length-1:=by rw[O];simp
 refine⟨⟨L,by show r.length<=_;rw[A.1];simp;omega,by show o.1.length<=_;omega,A.2⟩,λ_=>⟨by show r.length=_;rw[A.1];simp,by show aEP o.1 o.1.length;rw[E];exact O⟩⟩
theorem VB{α:Type}{l:List α}(z:α)(h:l.length<=900000): rep z (ln l) (ln l)=some (List.replicate l.length z):=by
 unfold rep ln;rw[Zu ⟨by omega,by omega,by omega⟩];simp
theorem u7{α:Type}(l:List α)(z:α): cpy (List.replicate l.length z) (0,(List.replicate l.length z).length) l=some l:=by
 unfold cpy aT;rw[Zu ⟨by simp,by simp⟩];simp
theorem aU6(l:List Aab)(h:l.length<=900000): aB (λn _=>qM n l) λr=>r=l:=
 aV (λ_=>rfl)<|aF (VB _ h)<|aF (u7 l _)<|aF rfl<|aA rfl
theorem aRW(l:List aQ)(h:l.length<=900000): aB (λn _=>mZ n l) λr=>r=l:=
 aV (λ_=>rfl)<|aF (VB _ h)<|aF (u7 l _)<|aF rfl<|aA rfl
theorem aMm(l:List Int)(h:l.length<=900000): aB (λn _=>bJ n l) λr=>r=l:=
 aV (λ_=>rfl)<|aF (VB _ h)<|aF (u7 l _)<|aA rfl
theorem aU7(l:List aG)(h:l.length<=900000): aB (λn _=>kF n l) λr=>r=l:=
 aV (λ_=>rfl)<|aF (VB _ h)<|aF (u7 l _)<|aF rfl<|aA rfl
theorem aPx(l:List Aaa)(h:l.length<=900000): aB (λn _=>cH n l) λr=>r=l:=
 aV (λ_=>rfl)<|aF (VB _ h)<|aF (u7 l _)<|aA rfl
theorem aNI(a:List Int)(b:List Aab)(c:List aG)(l:List aQ)(j:l.length<=300)(g:∀x∈l,x.Via.length<=300)(i:Nat): aB (λn m=>mX nD n m (a,b,c,ln l) (l,(i:Int))) λr=>r=l:=by
 refine bU<|aC (λh=>?_) λ_=>aA rfl;have h:(i:Int)<ln l:=Zl h;have d:i<l.length:=by unfold ln at h;omega
 have f:gR l l.length (i:Int)=some l[i]:=by rw[jE d];exact Zb d
 have e2:idx l (i:Int)=some l[i]:=by rw[bF];exact Zb d
 rw[bO<|by omega];refine aF f<|aF e2<|aD (aPx l[i].Via<|by have:=g l[i]<|ZP d;omega) λv e=>aF f<|aF e2 ?_;subst e;simp only[YA];rw[show l.set i ⟨l[i].ID,l[i].From,l[i].To,l[i].Via,l[i].Left,l[i].Right⟩=l from WG d];exact aNI a b c l j g<|i+1
termination_by l.length-i
theorem aNH(a:List Int)(b:List Aab)(c:List aQ)(l:List aG)(j:l.length<=1000)(g:∀x∈l,x.Parts.length<=1000)(i:Nat): aB (λn m=>mX nC n m (a,b,c,ln l) (l,(i:Int))) λr=>r=l:=by
 refine bU<|aC (λh=>?_) λ_=>aA rfl;have h:(i:Int)<ln l:=Zl h;have d:i<l.length:=by unfold ln at h;omega
 have f:gR l l.length (i:Int)=some l[i]:=by rw[jE d];exact Zb d
 have e2:idx l (i:Int)=some l[i]:=by rw[bF];exact Zb d
 rw[bO<|by omega];refine aF f<|aF e2<|aD (aMm l[i].Parts<|by have:=g l[i]<|ZP d;omega) λv e=>aF f<|aF e2 ?_;subst e;simp only[YA];rw[show l.set i ⟨l[i].ID,l[i].Kind,l[i].Class,l[i].Name,l[i].Parts⟩=l from WG d];exact aNH a b c l j g<|i+1
termination_by l.length-i
theorem aRJ(s:aJ)(m:mO s): aB (λn _=>Kr n s) λr=>r=(s.Plan.Faces,s.Plan.Nodes,s.Plan.Arcs,s.Features,s.Plan.Faces):=by
 let⟨⟨v,o,u,q⟩,p,t⟩:=m;refine aS<|aD (aU6 _<|by omega) λb i=>aD (aRW _<|by omega) λc l=>aD (aMm _<|by omega) λd j=>aD (aU7 _<|by omega) λf e=>?_;subst i l j e;exact aD (aX<|aNI _ _ _ _ o q 0) λg k=>aD (aX<|aNH _ _ _ _ p t 0) λh a=>aA<|by rw[k,a]
instance aWN{x:Int}: TC (λn=>Kt n x):=⟨by repeat' first|apply dU|apply aC|apply bE|intro⟩
instance aWO{x:aO}: TC (λn=>Ku n x):=⟨by repeat' first|apply dU|apply aC|apply bE|intro⟩
instance aWM{x:aO}: TC (λn=>Ks n x):=⟨by repeat' first|apply dU|apply aC|apply bE|intro⟩
instance aVE{x:aO}: TC (λn=>Ja n x):=⟨aV (λ_=>rfl) (by repeat' first|apply dU|apply aC|apply bE|intro)⟩
instance aXm{b:Aad}{x:Aaa}: TC (λn=>AN n (b,x)):=⟨by repeat' first|apply dU|apply aC|apply bE|intro⟩
instance aXl{b:Aad}{x:Aaa}: TC (λn=>Ix n b x):=⟨aV (λ_=>rfl) (by repeat' first|apply dU|apply aC|apply bE|intro)⟩
instance aW2{x:Int}: TC (λn=>dZ n x):=⟨aS (by repeat' first|apply dU|apply aC|apply bE|intro)⟩
instance aW1{x:Aaa}: TC (λn=>iJ n x):=⟨aS (by repeat' first|apply dU|apply aC|apply bE|intro)⟩
instance aV4{x:Int}: TC (λn=>Kl n x):=⟨aS (by repeat' first|apply dU|apply aC|apply bE|intro)⟩
instance aV3{x:Int}: TC (λn=>Kk n x):=⟨by repeat' first|apply dU|apply aC|apply bE|intro⟩
instance aV2{x:aO}: TC (λn=>Kj n x):=⟨by repeat' first|apply dU|apply aC|apply bE|intro⟩
theorem aR5(l:List Aaa)(b:l.length<=1000)(i:Nat): Sx λn m=>oR tE n m (l,ln l) (i:Int):=
 bK<|aW (λx d a=>by
  rw[bO<|by omega];exact bE λ_=>aC (λ_=>aA trivial) λ_=>aR5 l b<|i+1) λc=>aA trivial
termination_by l.length-i
theorem aR7(l:List Aaa)(a:l.length<=1000): Tt λn _=>fY n l:=
 aS<|aD (f:=λn _=>Pa n l) (Q:=λ_=>True) (aS<|aP (aX<|aR5 l a 0) (λ_ _=>aA trivial) λ_ _=>aF rfl<|aA trivial) λ_ _=>aC (λ_=>aA trivial) λ_=>aA trivial
theorem aR4(l:List Int)(b:l.length<=1000)(i:Nat): Sx λn m=>oR tD n m (l,ln l) (i:Int):=
 bK<|aW (λx d a=>by
  rw[bO<|by omega];exact bE λ_=>aC (λ_=>aA trivial) λ_=>aR4 l b<|i+1) λc=>aA trivial
termination_by l.length-i
theorem aR6(l:List Int)(a:l.length<=1000): Tt λn _=>fX n l:=
 aS<|aD (f:=λn _=>Oz n l) (Q:=λ_=>True) (aS<|aP (aX<|aR4 l a 0) (λ_ _=>aA trivial) λ_ _=>aF rfl<|aA trivial) λ_ _=>aC (λ_=>aA trivial) λ_=>aA trivial
theorem aIR(e:aO)(b:e.Via.length<=1000)(a:e.Parts.length<=1000): Tt λn _=>Cc n e:=by
 have c:TC λn=>fY n e.Via:=⟨aR7 _ b⟩;have f:TC λn=>fX n e.Parts:=⟨aR6 _ a⟩;refine aV (λ_=>rfl) ?_;repeat' first|apply dU|apply aC|apply bE|intro
instance aWZ{x:aO}: TC (λn=>Ux n x):=⟨by repeat' first|apply dU|apply aC|apply bE|intro⟩
instance aWY{x:aO}: TC (λn=>Uw n x):=⟨by repeat' first|apply dU|apply aC|apply bE|intro⟩
instance aWX{x:aO}: TC (λn=>Uu n x):=⟨by repeat' first|apply dU|apply aC|apply bE|intro⟩
def aIb(e:aO): Prop:=e.Via.length<=64/\e.Parts.length<=64
theorem aOv(x:Int)(h:0<=x/\x<=1000000000): IntKind.u64.wrap x=x:=by
 have e:IntKind.u64.wrap x=x % 18446744073709551616:=by simp[IntKind.wrap,IntKind.bits,IntKind.signed]
 rw[e];omega
theorem aFP(f g:Nat)(h:f+g<=10000000): wr (Int.fdiv (IntKind.u64.wrap<|wr<|(f:Int)+(g:Int)) 2)=(((f+g) / 2:Nat):Int):=by
 have a:wr ((f:Int)+(g:Int))=((f+g:Nat):Int):=by rw[wr,i64_in _<|by omega];omega
 rw[a,aOv _<|by omega,Int.fdiv_eq_ediv_of_nonneg _<|by omega,wr,i64_in _<|by omega];omega
theorem LZ(l:List Aab)(b:Int)(a:l.length<=1000)(f g:Nat)(e:f<=g)(c:g<=l.length): aB (λn m=>mX tM n m (l,b) ((f:Int),(g:Int))) λr=>0<=r/\r.toNat<=l.length:=by
 refine bU<|aC (λh=>?_) λ_=>aA ⟨by show (0:Int)<=(f:Int);omega,by show (f:Int).toNat<=_;omega⟩;have h:(f:Int)<(g:Int):=Zl h;have d:(f+g) / 2<l.length:=by omega
 rw[aFP f g<|by omega];refine aF (x:=l[(f+g) / 2]) (by rw[bF];exact Zb d)<|aD (f:=λn _=>qL n (l[(f+g) / 2],b)) (Q:=λ_=>True) (aS<|aD (jN _ _) λ_ _=>aA trivial) λ_ _=>aC (λ_=>?_) λ_=>LZ l b a f ((f+g) / 2) (by omega) (by omega);rw[bO<|by omega];exact LZ l b a ((f+g) / 2+1) g (by omega) c
termination_by g-f
theorem FQ(a:aJ)(b:Int)(g:a.Plan.Nodes.length<=1000): aB (λn _=>oP n a b) λr=>0<=r.1/\r.1.toNat<=a.Plan.Nodes.length/\(r.2=true->r.1.toNat<a.Plan.Nodes.length):=by
 refine aV (λ_=>rfl)<|aP (f:=λn _=>Pb n (a.Plan.Nodes,b)) (Q:=λv=>0<=v.2.1/\v.2.1.toNat<a.Plan.Nodes.length) (R:=λv=>0<=v/\v.toNat<=a.Plan.Nodes.length) (aS<|aD (aX<|LZ _ b g 0 a.Plan.Nodes.length (by omega)<|Zf _) λf e=>aC (λh=>?_) λ_=>aA<|by exact e) (λv c=>aC (λ_=>aA ⟨c.1,by have:=c.2;show v.2.1.toNat<=_;omega,λ_=>c.2⟩) λ_=>aA ⟨c.1,by have:=c.2;show v.2.1.toNat<=_;omega,λh=>by cases h⟩) λv c=>aF rfl<|aA ⟨c.1,c.2,λh=>by cases h⟩;have h:f<ln a.Plan.Nodes:=Zl h;have d:f.toNat<a.Plan.Nodes.length:=by unfold ln at h;omega
 exact aF (yK e.1 d)<|aD (f:=λn _=>qL n (a.Plan.Nodes[f.toNat],b)) (Q:=λ_=>True) (aS<|aD (jN _ _) λ_ _=>aA trivial) λ_ _=>aC (λ_=>aA<|by exact⟨e.1,d⟩) λ_=>aA<|by exact⟨e.1,d⟩
theorem y6(l:List aQ)(b:Int)(a:l.length<=1000)(f g:Nat)(e:f<=g)(c:g<=l.length): aB (λn m=>mX uZ n m (l,b) ((f:Int),(g:Int))) λr=>0<=r/\r.toNat<=l.length:=by
 refine bU<|aC (λh=>?_) λ_=>aA ⟨by show (0:Int)<=(f:Int);omega,by show (f:Int).toNat<=_;omega⟩;have h:(f:Int)<(g:Int):=Zl h;have d:(f+g) / 2<l.length:=by omega
 rw[aFP f g<|by omega];refine aF (x:=l[(f+g) / 2]) (by rw[bF];exact Zb d)<|aD (f:=λn _=>tU n (l[(f+g) / 2],b)) (Q:=λ_=>True) (aS<|aD (jN _ _) λ_ _=>aA trivial) λ_ _=>aC (λ_=>?_) λ_=>y6 l b a f ((f+g) / 2) (by omega) (by omega);rw[bO<|by omega];exact y6 l b a ((f+g) / 2+1) g (by omega) c
termination_by g-f
theorem aAJ(a:aJ)(b:Int)(g:a.Plan.Arcs.length<=1000): aB (λn _=>Ad n a b) λr=>0<=r.1/\r.1.toNat<=a.Plan.Arcs.length/\(r.2=true->r.1.toNat<a.Plan.Arcs.length):=by
 refine aV (λ_=>rfl)<|aP (f:=λn _=>Uq n (a.Plan.Arcs,b)) (Q:=λv=>0<=v.2.1/\v.2.1.toNat<a.Plan.Arcs.length) (R:=λv=>0<=v/\v.toNat<=a.Plan.Arcs.length) (aS<|aD (aX<|y6 _ b g 0 a.Plan.Arcs.length (by omega)<|Zf _) λf e=>aC (λh=>?_) λ_=>aA<|by exact e) (λv c=>aC (λ_=>aA ⟨c.1,by have:=c.2;show v.2.1.toNat<=_;omega,λ_=>c.2⟩) λ_=>aA ⟨c.1,by have:=c.2;show v.2.1.toNat<=_;omega,λh=>by cases h⟩) λv c=>aF rfl<|aA ⟨c.1,c.2,λh=>by cases h⟩;have h:f<ln a.Plan.Arcs:=Zl h;have d:f.toNat<a.Plan.Arcs.length:=by unfold ln at h;omega
 exact aF (yK e.1 d)<|aD (f:=λn _=>tU n (a.Plan.Arcs[f.toNat],b)) (Q:=λ_=>True) (aS<|aD (jN _ _) λ_ _=>aA trivial) λ_ _=>aC (λ_=>aA<|by exact⟨e.1,d⟩) λ_=>aA<|by exact⟨e.1,d⟩
theorem Iy(l:List aG)(b:Int)(a:l.length<=1000)(f g:Nat)(e:f<=g)(c:g<=l.length): aB (λn m=>mX mK n m (l,b) ((f:Int),(g:Int))) λr=>0<=r/\r.toNat<=l.length:=by
 refine bU<|aC (λh=>?_) λ_=>aA ⟨by show (0:Int)<=(f:Int);omega,by show (f:Int).toNat<=_;omega⟩;have h:(f:Int)<(g:Int):=Zl h;have d:(f+g) / 2<l.length:=by omega
 rw[aFP f g<|by omega];refine aF (x:=l[(f+g) / 2]) (by rw[bF];exact Zb d)<|aD (f:=λn _=>kG n (l[(f+g) / 2],b)) (Q:=λ_=>True) (aS<|aD (jN _ _) λ_ _=>aA trivial) λ_ _=>aC (λ_=>?_) λ_=>Iy l b a f ((f+g) / 2) (by omega) (by omega);rw[bO<|by omega];exact Iy l b a ((f+g) / 2+1) g (by omega) c
termination_by g-f
theorem aC5(a:aJ)(b:Int)(g:a.Features.length<=1000): aB (λn _=>Ac n a b) λr=>0<=r.1/\r.1.toNat<=a.Features.length/\(r.2=true->r.1.toNat<a.Features.length):=by
 refine aV (λ_=>rfl)<|aP (f:=λn _=>Cm n (a.Features,b)) (Q:=λv=>0<=v.2.1/\v.2.1.toNat<a.Features.length) (R:=λv=>0<=v/\v.toNat<=a.Features.length) (aS<|aD (aX<|Iy _ b g 0 a.Features.length (by omega)<|Zf _) λf e=>aC (λh=>?_) λ_=>aA<|by exact e) (λv c=>aC (λ_=>aA ⟨c.1,by have:=c.2;show v.2.1.toNat<=_;omega,λ_=>c.2⟩) λ_=>aA ⟨c.1,by have:=c.2;show v.2.1.toNat<=_;omega,λh=>by cases h⟩) λv c=>aF rfl<|aA ⟨c.1,c.2,λh=>by cases h⟩;have h:f<ln a.Features:=Zl h;have d:f.toNat<a.Features.length:=by unfold ln at h;omega
 exact aF (yK e.1 d)<|aD (f:=λn _=>kG n (a.Features[f.toNat],b)) (Q:=λ_=>True) (aS<|aD (jN _ _) λ_ _=>aA trivial) λ_ _=>aC (λ_=>aA<|by exact⟨e.1,d⟩) λ_=>aA<|by exact⟨e.1,d⟩
theorem R6(a b:Int)(l:List aG)(d:l.length<=1000)(c:∀f∈l,f.Parts.length<=1000)(i:Nat)(o:i<=l.length)(h:List Int)(k:h.length<=i): aB (λn m=>mX nU n m (a,b,l,ln l) (h,(i:Int))) λr=>r.length<=l.length:=
 bU<|aW (λx e j=>by
  rw[bO<|by omega];refine aD (f:=λn _=>Fo n (x,a,b)) (Q:=λ_=>True) (bE λ_=>aC (λ_=>aD (oJ x.Parts b<|by have:=c x<|Zg e;omega) λ_ _=>aC (λ_=>aA trivial) λ_=>aA trivial) λ_=>aA trivial) λ_ _=>aC (λ_=>aF (IX<|by omega)<|R6 a b l d c (i+1) (by omega) _<|by simp;omega) λ_=>R6 a b l d c (i+1) (by omega) h<|by omega)
  (λg=>aA<|show h.length<=_ by omega)
termination_by l.length-i
theorem UG(s:aJ)(c:mO s)(a b:Int): aB (λn _=>jL n s a b) λr=>r.length<=1000:=
 aV (λ_=>rfl)<|aC (λ_=>aA<|by simp) λ_=>aC (λ_=>aA<|by simp) λ_=>aD (aX<|R6 a b s.Features c.n c.f 0 (by omega) []<|by simp) λr d=>aA<|by have:=c.n;omega
theorem aGk(a b:List Int)(h:a.length=b.length)(d:a.length<=100000)(i:Nat): Sx λn m=>oR gB n m (a,b,ln a) (i:Int):=
 bK<|aW (λx f c=>by
  rw[bO<|by omega];exact aF (x:=b[i]'(by omega)) (by rw[bF];exact Zb<|by omega)<|aC (λ_=>aA trivial) λ_=>aGk a b h d<|i+1) λe=>aA trivial
termination_by a.length-i
theorem aPr{α:Type}{a b:List α}(h:(ln a != ln b)=false): a.length=b.length:=by
 have h:ln a=ln b:=by simpa using h
 unfold ln at h;omega
theorem aNn(a b:List Int)(c:a.length<=100000): Tt λn _=>iA n a b:=
 aV (λ_=>rfl)<|aC (λ_=>aA trivial) λh=>aP (aX<|aGk a b (aPr h) c 0) (λ_ _=>aA trivial) λ_ _=>aF rfl<|aA trivial
theorem aG1(c:List<|List Int)(g:c.length<=1000)(i a:Nat)(f:a+(c.drop i).flatten.length<=900000): aB (λn m=>mX iU n m (c,ln c) ((a:Int),(i:Int))) λr=>r=((a+(c.drop i).flatten.length:Nat):Int):=
 bU<|aW (λx k o=>by
  have e:=xG k;rw[e,Zh] at f;have l:wr ((a:Int)+ln x)=((a+x.length:Nat):Int):=by rw[wr,ln,i64_in _<|by omega];push_cast;rfl
  rw[l,bO<|by omega];refine aC (λh=>?_) λ_=>?_
  .have:=Zl h;omega
  .refine (aG1 c g (i+1) (a+x.length)<|by omega).imp λr j=>?_;rw[j,e,Zh,Yu])
  (λd=>aA<|by rw[Xo d];rfl)
termination_by c.length-i
theorem aG0(a:List<|List Int)(d:a.length<=1000)(i:Nat)(b:(a.drop i).flatten.length=0): Tt λn m=>mX iT n m (a,ln a) (i:Int):=
 bU<|aW (λx c g=>by
  have e:=xG c;rw[e,Zh] at b;rw[bO<|by omega];refine aC (λh=>aG0 a d (i+1)<|by omega) λh=>?_;have:x=[]:=ZK.1 (by omega);rw[this] at h;cases h)
  (λf=>aA trivial)
termination_by a.length-i
theorem aGz(a:List<|List Int)(h:a.length<=1000)(N:Nat)(f:N<=400000)(i:Nat)(l:List Int)(k:Nat)(d:l.length=N)(c:k+(a.drop i).flatten.length=N): aB (λn m=>mX iS n m (a,ln a) (l,(0,k),(i:Int))) λr=>r.2=(0,r.1.length)/\r.1.length=N:=
 bU<|aW (λx g j=>by
  have e:=xG g;rw[e,Zh] at c;rw[bO<|by omega];exact aF (x:=aT l k x) (by unfold SU;rw[Zu<|by simp only[Z0];omega,Z0])<|aGz a h N f (i+1) _ (k+x.length) (by simp[aT];omega)<|by omega)
  (λb=>aA<|by
   rw[Xo b,Xd,Z1,Xm] at c;exact⟨by show ((0:Nat),k)=(0,l.length);rw[c,d],d⟩)
termination_by a.length-i
theorem aQh(a:List<|List Int)(c:a.length<=1000)(d:a.flatten.length<=400000): aB (λn _=>oY n a) λr=>r.length=a.flatten.length:=by
 refine aV (λ_=>rfl)<|aD (aX<|aG1 a c 0 0<|by rw[YD];omega) λv e=>?_;have f:v=((a.flatten.length:Nat):Int):=by rw[e];simp
 have e2:wr (v-0)=((a.flatten.length:Nat):Int):=by rw[f,wr,i64_in _<|by omega];omega
 refine aP (Q:=λ_=>a.flatten.length=0) (R:=λr=>r=(List.replicate a.flatten.length 0,(0,0))) (aS<|aC (λh=>by have:=Zl h;omega) λ_=>aC (λ_=>?_) λh=>by rw[e2] at h;have:=Zp h;exact aA<|show a.flatten.length=0 by omega) (λ_ h=>?_) λr b=>?_
 .refine aF (x:=List.replicate a.flatten.length 0) (by rw[e2];unfold rep;rw[Zu<|by omega];simp)<|aC (λh=>?_) λ_=>aF (x:=(0,0)) (by unfold sub;rw[Zu<|by simp];rfl)<|aA rfl;rw[Vd] at h;have:=congrArg List.length h;rw[Yo,Z1] at this;exact aA this
 .exact aD (aX<|aG0 a c 0<|by simpa using h) λ_ _=>aF rfl<|aA h.symm
 .subst b;refine aF rfl<|aD (aX<|aGz a c a.flatten.length d 0 _ 0 (by simp)<|by simp) λr b=>aF (Dn<|Yj b.1)<|aA ?_;rw[b.1,<-b.2];simp[win]
theorem v5(s c N:Nat)(f:s+c=N)(e:N<=400000)(g:Nat)(u:1<=g)(v:g<=c)(d:List Int)(a:d.length=N)(q:Nat)(t:q+1<=s+g): aB (λn m=>mX nQ n m (s,c) (d,(q:Int),(g:Int))) λr=>r.1.length=N/\0<=r.2/\r.2.toNat<=N:=by
 refine bU<|aC (λh=>?_) λ_=>aA ⟨a,by show (0:Int)<=(q:Int);omega,by show ((q:Int)).toNat<=N;omega⟩;have h:(g:Int)<((c:Nat):Int):=Zl h;have h:g<c:=by omega
 have l:wr ((g:Int)-1)=((g-1:Nat):Int):=by rw[wr,i64_in _<|by omega];omega
 have b:∀j,j<c->idx (win d<|some (s,c)) (j:Int)=d[s+j]?:=λj p=>by
  rw[bF];simp only[win];rw[XL p,Zw]
 have i:idx (win d<|some (s,c)) (g:Int)=some (d[s+g]'(by omega)):=by rw[b g h];exact Zb<|by omega
 have e2:idx d ((g:Int)+((s:Nat):Int))=some (d[s+g]'(by omega)):=by
  rw[show (g:Int)+((s:Nat):Int)=((s+g:Nat):Int) by omega,bF];exact Zb<|by omega
 have o:idx (win d<|some (s,c)) ((g-1:Nat):Int)=some (d[s+(g-1)]'(by omega)):=by rw[b (g-1)<|by omega];exact Zb<|by omega
 have k:idx d (((g-1:Nat):Int)+((s:Nat):Int))=some (d[s+(g-1)]'(by omega)):=by
  rw[show ((g-1:Nat):Int)+((s:Nat):Int)=((s+(g-1):Nat):Int) by omega,bF];exact Zb<|by omega
 rw[l,bO<|by omega,bO<|by omega];refine aF i<|aF e2<|aF o<|aF k<|aC (λ_=>?_) λ_=>v5 s c N f e (g+1) (by omega) (by omega) d a q (by omega);refine aF i<|aF e2<|aF (x:=d[q]'(by omega)) (by rw[jE<|by omega];exact Zb<|by omega)<|aF (x:=d[q]'(by omega)) (by rw[bF];exact Zb<|by omega) ?_;exact v5 s c N f e (g+1) (by omega) (by omega) _ (by rw[Yr];exact a) (q+1)<|by omega
termination_by c-g
theorem aCR(a:List Int)(c:a.length<=400000)(i:Nat)(l:1<=i): aB (λn m=>oR nR n m a (i:Int))<|Su (λv=>(win v.1<|some v.2).length<=a.length) λ_=>True:=by
 refine bK<|aC (λh=>?_) λ_=>aA trivial;have h:(i:Int)<ln a:=Zl h;have h:i<a.length:=by unfold ln at h;omega
 have g:wr ((i:Int)-1)=((i-1:Nat):Int):=by rw[wr,i64_in _<|by omega];omega
 rw[g,bO<|by omega];refine aF (x:=a[i]) (by rw[jE h];exact Zb h)<|aF (x:=a[i]) (by rw[bF];exact Zb h)<|aF (x:=a[i-1]'(by omega)) (by rw[jE<|by omega];exact Zb<|by omega)<|aF (x:=a[i-1]'(by omega)) (by rw[bF];exact Zb<|by omega)<|aC (λ_=>?_) λ_=>aCR a c (i+1) (by omega);refine aF (x:=(i,a.length-i)) (by unfold sub;rw[Zu ⟨by omega,by unfold ln;omega,by unfold ln;simp⟩];simp[ln])<|aD (aX<|v5 i (a.length-i) a.length (by omega) c 1 (Zf _) (by omega) a rfl i<|by omega) λj k=>?_;let⟨e,p,o⟩:=k;let⟨q,d⟩:∃q:Nat,j.2=(q:Int):=⟨j.2.toNat,by omega⟩;have f:q<=a.length:=by omega
 refine aF (x:=(q,a.length-q)) (by rw[d];unfold sub;rw[Zu ⟨by omega,by unfold ln;omega,by unfold ln;simp⟩];simp[ln,e])<|aF (x:=aT j.1 q<|List.replicate (a.length-q) 0) (by unfold clr;rw[Zu<|by show q+(a.length-q)<=_;omega]) ?_;have b:(aT j.1 q<|List.replicate (a.length-q) 0).length=a.length:=by unfold aT;simp;omega
 refine aF (x:=(0,q)) (by rw[d];unfold sub;rw[Zu ⟨by omega,by omega,by simp[b];omega⟩];simp)<|aA ?_;show (List.take q<|List.drop 0 _).length<=_;simp;omega
termination_by a.length-i
theorem aPv{l b:List Int}{k:Nat}(h:l.length<=(uA b).length)(e:b.length=k): l.length<=k:=by rw[xN] at h;omega
theorem aE5(a:List<|List Int)(e:a.length<=1000)(g:a.flatten.length<=400000): aB (λn _=>mY n a) λr=>r.length<=a.flatten.length:=by
 refine aV (λ_=>rfl)<|aD (aQh a e g) λb d=>aS<|aF (Dn<|Yj<|by omega)<|aP (A0 (f:=λn=>Ff n<|uA b) (P:=Su (λ_=>True) λv=>(win v.1<|some v.2).length<=(uA b).length)<|aS<|aC (λ_=>aA trivial) λ_=>aP (aX<|aCR (uA b) (by rw[xN];omega) 1<|Zf _) (λv c=>aA<|by exact c) λ_ _=>aF rfl<|aA trivial) (λ_ _=>aA<|by rw[xN];omega) λv c=>aF rfl<|aA<|aPv c d
theorem aAO(a b:List Int)(h:a.length+b.length<=400000): aB (λn _=>uI n a b) λr=>r.length<=a.length+b.length:=
 aV (λ_=>rfl)<|aD (aE5 [a,b] (by simp)<|by simpa using h) λc d=>aA<|by simpa using d
instance aVC{x:Int}: TC (λn=>fK n x):=⟨aV (λ_=>rfl) (by repeat' first|apply dU|apply aC|apply bE|intro)⟩
instance aWG{x y:Int}: TC (λn=>Lh n (x,y)):=⟨by repeat' first|apply dU|apply aC|apply bE|intro⟩
instance aU4{x y:Int}: TC (λn=>Jd n x y):=⟨aV (λ_=>rfl) (by repeat' first|apply dU|apply aC|apply bE|intro)⟩
instance aXe{x:Int}: TC (λn=>fQ n x):=⟨aS (by repeat' first|apply dU|apply aC|apply bE|intro)⟩
theorem aAF(l:List Int)(b:Int)(a:l.length<=400000)(f g:Nat)(e:f<=g)(c:g<=l.length): aB (λn m=>mX fE n m (l,b) ((f:Int),(g:Int))) λr=>0<=r/\r.toNat<=l.length:=by
 refine bU<|aC (λh=>?_) λ_=>aA ⟨by show (0:Int)<=(f:Int);omega,by show (f:Int).toNat<=_;omega⟩;have h:(f:Int)<(g:Int):=Zl h;have d:(f+g) / 2<l.length:=by omega
 rw[aFP f g<|by omega];refine aF (x:=l[(f+g) / 2]) (by rw[bF];exact Zb d)<|bE λ_=>aC (λ_=>?_) λ_=>aAF l b a f ((f+g) / 2) (by omega) (by omega);rw[bO<|by omega];exact aAF l b a ((f+g) / 2+1) g (by omega) c
termination_by g-f
theorem aUP(l:List Int)(b:Int)(d:l.length<=400000): Tt λn _=>iC n l b:=by
 refine aV (λ_=>rfl)<|aD (aX<|aAF l b d 0 l.length (by omega)<|Zf _) λf c=>aC (λh=>?_) λ_=>aA trivial;have h:f<ln l:=Zl h;have a:f.toNat<l.length:=by unfold ln at h;omega
 have e:=yK c.1 a;refine aF e<|aC (λ_=>aA trivial) λ_=>aF e ?_;repeat' first|apply dU|apply aC|apply bE|intro
theorem V9(c d:List Int)(a:c.length<=400000)(b:d.length<=400000)(i:Nat)(l:i<=d.length)(h:List Int)(j:h.length<=i): aB (λn m=>mX sU n m (c,d,ln d) (h,(i:Int))) λr=>r.length<=d.length:=
 bU<|aW (λx k g=>by
  rw[bO<|by omega];refine aD (f:=λn _=>Nw n (c,x)) (Q:=λ_=>True) (aS<|aD (aUP c x a) λ_ _=>aC (λ_=>aA trivial) λ_=>aA trivial) λ_ _=>aC (λ_=>aF (Dr<|by omega)<|V9 c d a b (i+1) (by omega) _<|by simp;omega) λ_=>V9 c d a b (i+1) (by omega) h<|by omega)
  (λe=>aA<|show h.length<=_ by omega)
termination_by d.length-i
theorem aNk(a b:List Int)(h:a.length<=400000)(i:b.length<=400000): aB (λn _=>Ny n a b) λr=>r.length<=a.length:=
 aV (λ_=>rfl)<|aD (aE5 [b] (by simp)<|by simpa using i) λc j=>aD (f:=λn _=>Nx n (c,a)) (Q:=λr=>r.length<=a.length) (aS<|aD (aE5 [a] (by simp)<|by simpa using h) λd g=>aD (aX<|V9 c d (by simp at j;omega) (by simp at g;omega) 0 (by omega) []<|by simp) λr e=>aA<|by simp at g;show r.length<=_;omega) λr e=>aA e
theorem aGG(a b:Int)(l:List Int)(e:l.length<=10000): aB (λn _=>iK n (a,b,l)) λr=>r.length<=l.length+1:=
 aS<|aD (QP l a<|by omega) λ_ _=>aC (λ_=>aD (aNk l [a] (by omega)<|by simp) λg d=>aC (λ_=>aD (aAO g [b]<|by simp;omega) λh c=>aA<|by simp at c;show h.length<=_;omega) λ_=>aA<|by show g.length<=_;omega) λ_=>aA<|by show l.length<=_;omega
def aNp(r:dW): Prop:=r.Outer.length+r.Inner.flatten.length<=900000/\r.Inner.length<=200000
theorem aGt(a:List<|List Int)(c:a.length<=200000)(i:Nat)(h:List Int)(b:h.length+(a.drop i).flatten.length<=900000): aB (λn m=>mX uY n m (a,ln a) (h,(i:Int))) λr=>r.length<=900000:=
 bU<|aW (λx d g=>by
  have e:=xG d;rw[e,Zh] at b;rw[bO<|by omega];exact aF (tP<|by omega)<|aGt a c (i+1) _<|by rw[Zh];omega)
  (λf=>aA<|show h.length<=_ by omega)
termination_by a.length-i
theorem aGs(r:dW)(h:aNp r): aB (λn _=>Jb n r) λr=>r.length<=900000:=by
 let⟨a,b⟩:=h;refine aV (λ_=>rfl)<|aF (tP (l:=([]:List Int)) (m:=r.Outer)<|by simp;omega)<|aD (aX<|aGt r.Inner b 0 _<|by simpa using a) λc d=>aA d
theorem aEU(p:aK)(a:Sm p)(b:Int)(c:List Int)(e:c.length<=900000)(i:Nat): Sx λn m=>oR tB n m (p,b,c,ln c) (i:Int):=
 bK<|aW (λx h d=>by
  rw[bO<|by omega];refine aD (f:=λn _=>Ox n (b,x)) (Q:=λ_=>True) (by repeat' first|apply dU|apply aC|apply bE|intro) λ_ _=>aC (λ_=>aD (A3 p a x) λ_ _=>aA trivial) λ_=>aEU p a b c e<|i+1) λg=>aA trivial
termination_by c.length-i
theorem aEV(p:aK)(d:Sm p)(b:Int)(c:List dW)(f:c.length<=1000)(a:∀r∈c,aNp r)(i:Nat): Sx λn m=>oR tC n m (p,b,c,ln c) (i:Int):=
 bK<|aW (λx g e=>by
  rw[bO<|by omega];exact aD (aGs x<|a x<|Zg g) λl h=>aP (aX<|aEU p d b l h 0) (λ_ _=>aA trivial) λ_ _=>aF rfl<|aEV p d b c f a<|i+1) λj=>aA trivial
termination_by c.length-i
theorem aIo(p:aK)(d:Sm p)(b:Int)(c:List dW)(a:c.length<=1000)(e:∀r∈c,aNp r): Tt λn _=>Oy n p b c:=
 aV (λ_=>rfl)<|aP (aX<|aEV p d b c a e 0) (λ_ _=>aA trivial) λ_ _=>aF rfl<|aA trivial
structure aNj(a r:List Int): Prop where
 s:r.Pairwise (·<·)
 m:∀x,x∈r↔x∈a
theorem aNj.len{a b r s:List Int}(h:aNj a r)(k:aNj b s)(e:∀x,x∈a↔x∈b): r=s:=by
 have:∀{r s:List Int},r.Pairwise (·<·)->s.Pairwise (·<·)->(∀x,x∈r↔x∈s)->r=s:=by
  intro r
  induction r with
  | nil=>intro s _ _ h;cases s with
   | nil=>rfl
   | cons y s=>exact absurd ((h y).2 ZM) (by simp)
  | cons x r ih=>intro s hr hs h;cases s with
   | nil=>exact absurd ((h x).1 ZM) (by simp)
   | cons y s=>
    obtain⟨a1,a2⟩:=List.pairwise_cons.1 hr
    obtain⟨b1,b2⟩:=List.pairwise_cons.1 hs
    have e:x=y:=by
     rcases ZN.1 ((h x).1 ZM) with e | e
     .exact e
     .rcases ZN.1 ((h y).2 ZM) with e2 | e2
      .exact e2.symm
      .have:=a1 y e2;have:=b1 x e;omega
    subst e
    rw[ih a2 b2 λt=>⟨λht=>by
     rcases ZN.1 ((h t).1 (ZQ _ ht)) with e | e
     .have:=a1 t ht;omega
     .exact e,λht=>by
     rcases ZN.1 ((h t).2 (ZQ _ ht)) with e | e
     .have:=b1 t ht;omega
     .exact e⟩]
 exact this h.s k.s λx=>by rw[h.m,k.m,e]
section
abbrev As(l:List Int): Prop:=l.Pairwise (·<·)
variable {g:Int}{r s:List Int}
theorem As.uniq(h:As r)(k:As s)(e:∀x,x∈r↔x∈s): r=s:=aNj.len (a:=s) (b:=s) ⟨h,e⟩ ⟨k,λ_=>Iff.rfl⟩ λ_=>Iff.rfl
theorem As.len(hr:As r)(hs:As s)(hg:g∈r)(e:∀x,x∈s↔x∈r/\x≠g): s.length+1=r.length:=by
 have nd:r.Nodup:=hr.imp λh=>by omega
 have:s=r.erase g:=hs.uniq (hr.sublist List.erase_sublist) λx=>by rw[e,nd.mem_erase_iff];exact And.comm
 rw[this,List.length_erase_of_mem hg]
 have:=List.length_pos_of_mem hg
 omega
structure Swp(f g:Int)(l r:List Int): Prop where
 no:f∉l->r=l
 yes:f∈l->∃m,As m/\m.length+1=l.length/\(∀x,x∈m↔x∈l/\x≠f)/\As r/\(g=0->r=m)/\(g≠0->∀x,x∈r↔x∈m\/x=g)
theorem Swp.keep{f:Int}{l:List Int}(h:Swp f g l r)(a:f∈l)(b:g≠0)(c:g∉l): r.length=l.length:=by
 obtain⟨m,m1,m2,m3,m4,_,m6⟩:=h.yes a
 have:=m4.len m1 (g:=g) ((m6 b g).2 (.inr rfl)) λx=>by rw[m6 b x];exact⟨λh=>⟨.inl h,λe=>c (e▸((m3 x).1 h).1)⟩,λh=>h.1.elim id λe=>absurd e h.2⟩
 omega
end
structure FeI(l:List aG)(N i:Nat): Prop where
 len:l.length=N
 lo:∀(j:Nat) (f:aG),l[j]?=some f->f.Parts.length<=65
 hi:∀(j:Nat) (f:aG),i<=j->l[j]?=some f->f.Parts.length<=64
theorem FeI.next{l:List aG}{N i:Nat}(h:FeI l N i): FeI l N<|i+1:=⟨h.len,h.lo,λj f a=>h.hi j f<|by omega⟩
theorem FeI.set{l:List aG}{N i:Nat}(h:FeI l N i){g:aG}(b:g.Parts.length<=65): FeI (l.set i g) N<|i+1:=by
 refine⟨by rw[Yr];exact h.len,λj f a=>?_,λj f c a=>?_⟩
 .rw[Z5] at a;split at a
  .split at a
   .cases a;exact b
   .cases a
  .exact h.lo j f a
 .rw[Zv<|by omega] at a;exact h.hi j f (by omega) a
theorem FeI.all{l:List aG}{N i:Nat}(h:FeI l N i): ∀f∈l,f.Parts.length<=65:=λf a=>by
 let⟨j,b⟩:=Yi.1 a;exact h.lo j f b
theorem FeI.at{l:List aG}{N i:Nat}(h:FeI l N i)(c:N<=1000)(b:(i:Int)<(N:Int)): ∃f,f.Parts.length<=64/\gR l l.length (i:Int)=some f/\idx l (i:Int)=some f:=by
 have a:i<l.length:=by rw[h.len];omega
 have e:=Zb a;exact⟨l[i],h.hi i _ (Zf _) e,by rw[jE a];exact e,by rw[bF];exact e⟩
theorem aDS(a b:List Int)(c:List Aab)(d f:List aQ)(g h:Int)(N:Nat)(j:N<=1000)(i:Nat)(l:List aG)(e:FeI l N i): aB (λn m=>mX oF n m (a,b,c,d,f,g,h,(N:Int)) (l,(i:Int))) λr=>r.length=N/\∀f∈r,f.Parts.length<=65:=by
 refine bU<|aC (λk=>?_) λ_=>aA ⟨e.len,e.all⟩;have k:(i:Int)<(N:Int):=Zl k;let⟨x,q,o,e2⟩:=e.at j k;rw[bO<|by omega];refine aF o<|aF e2<|aD (f:=λn _=>Gm n (x,g)) (Q:=λ_=>True) (bE λ_=>aC (λ_=>aD (QP x.Parts g<|by omega) λ_ _=>aC (λ_=>aA trivial) λ_=>aA trivial) λ_=>aA trivial) λ_ _=>aC (λ_=>aD (aAO x.Parts [h]<|by simp;omega) λt p=>aF o<|aF e2 ?_) λ_=>aDS a b c d f g h N j (i+1) l e.next;simp only[YA];exact aDS a b c d f g h N j (i+1) _<|e.set<|by simp at p;show t.length<=65;omega
termination_by N-i
theorem aDQ(a b:List Int)(c:List Aab)(d:List aQ)(f g:Int)(N:Nat)(j:N<=1000)(i:Nat)(l:List aG)(e:FeI l N i): aB (λn m=>mX oD n m (a,b,c,d,f,g,(N:Int)) (l,(i:Int))) λr=>r.length=N/\∀f∈r,f.Parts.length<=65:=by
 refine bU<|aC (λh=>?_) λ_=>aA ⟨e.len,e.all⟩;have h:(i:Int)<(N:Int):=Zl h;let⟨x,o,k,e2⟩:=e.at j h;rw[bO<|by omega];refine aF k<|aF e2<|bE λ_=>aC (λ_=>aD (aGG f g x.Parts<|by omega) λt p=>aF k<|aF e2 ?_) λ_=>aDQ a b c d f g N j (i+1) l e.next;simp only[YA];exact aDQ a b c d f g N j (i+1) _<|e.set<|by show t.length<=65;omega
termination_by N-i
theorem aDO(w:Nat×Nat)(a b:List Int)(c:List Aab)(d:List aQ)(f g:Int)(N:Nat)(h:N<=1000)(i:Nat)(l:List aG)(e:FeI l N i): aB (λn m=>mX oB n m (w,a,b,c,d,f,g,(N:Int)) (l,(i:Int))) λr=>r.length=N/\∀f∈r,f.Parts.length<=65:=by
 refine bU<|aC (λj=>?_) λ_=>aA ⟨e.len,e.all⟩;have j:(i:Int)<(N:Int):=Zl j;let⟨x,p,k,e2⟩:=e.at h j;rw[bO<|by omega];refine aF k<|aF e2<|bE λ_=>aC (λ_=>aD (aGG f g x.Parts<|by omega) λt o=>aF k<|aF e2 ?_) λ_=>aDO w a b c d f g N h (i+1) l e.next;simp only[YA];exact aDO w a b c d f g N h (i+1) _<|e.set<|by show t.length<=65;omega
termination_by N-i
theorem nA.at{l:List aQ}{N i:Nat}(h:nA l N)(c:i<N): ∃a,l[i]?=some a/\gR l l.length (i:Int)=some a/\idx l (i:Int)=some a:=by
 have b:i<l.length:=by rw[h.1];omega
 have e:=Zb b;exact⟨l[i],e,by rw[jE b];exact e,by rw[bF];exact e⟩
theorem aDT(a:List Int)(b:List Aab)(c:List aG)(d:List Int)(f:Int)(g:List Int)(j:g.length<=900000)(N:Nat)(o:N<=300)(i:Nat)(l:List aQ)(e:nA l N): aB (λn m=>mX oG n m (a,b,c,d,f,g,ln g) (l,(i:Int))) λr=>nA r N:=by
 refine bU<|aW (λx w u=>?_) λ_=>aA e;rw[bO<|by omega];refine aD (aAJ ⟨⟨b,l,a⟩,c⟩ _<|by show l.length<=_;rw[e.1];omega) λr t=>aC (λs=>?_) λ_=>aDT a b c d f g j N o (i+1) l e;let⟨y,_,h⟩:=t;have h:r.1.toNat<l.length:=h s;let⟨q,p⟩:∃q:Nat,r.1=(q:Int):=⟨r.1.toNat,by omega⟩;rw[p] at h |-;let⟨x,v,k,e2⟩:=e.at (i:=q) (by rw[<-e.1];simpa using h);refine aC (λ_=>aF k<|aF e2 ?_) λ_=>aF k<|aF e2 ?_;all_goals
  simp only[YA];exact aDT a b c d f g j N o (i+1) _<|e.set v rfl
termination_by g.length-i
theorem aDR(a b:List Int)(c:List Aab)(d:List aG)(f g:Int)(N:Nat)(o:N<=300)(i:Nat)(l:List aQ)(e:nA l N): aB (λn m=>mX oE n m (a,b,c,d,f,g,(N:Int)) (l,(i:Int))) λr=>nA r N:=by
 refine bU<|aC (λp=>?_) λ_=>aA e;have p:(i:Int)<(N:Int):=Zl p;have k:i<N:=by omega
 let⟨x,u,j,e2⟩:=e.at k;rw[bO<|by omega];refine aF j<|aF e2<|aD (f:=λn _=>Gk n (a,b,c,l,d,f,g,x,(i:Int))) (Q:=λr=>nA r N) (aC (λ_=>aF j<|aF e2<|aA ?_) λ_=>aA e) λr h=>?_
 .simp only[YA];exact e.set u rfl
 .let⟨y,t,s,q⟩:=h.at k;refine aC (λ_=>aF s<|aF q ?_) λ_=>aDR a b c d f g N o (i+1) r h;simp only[YA];exact aDR a b c d f g N o (i+1) _<|h.set t rfl
termination_by N-i
theorem aTo(a b:List Int)(c:List Aab)(d:List aQ)(f:List aG)(g h:Int)(t:a.length<=1000)(q:nA d d.length)(e:d.length<=300)(p:FeI f f.length 0)(i:f.length<=1000): aB (λn _=>tL n (a,b,c,d,f,g,h)) λr=>r.1.length<=a.length+1/\nA r.2.1 d.length/\r.2.2.length=f.length/\∀x∈r.2.2,x.Parts.length<=65:=
 aS<|aD (aX<|aDR a b c f g h d.length e 0 d q) λj o=>aD (aGG g h a<|by omega) λl s=>aD (aX<|aDQ l b c j g h f.length i 0 f p) λm k=>aA ⟨s,o,k.1,k.2⟩
theorem aTp(a b:List Int)(c:List Aab)(d:List aQ)(f:List aG)(g:List Int)(h:List aQ)(i:List Int)(j l:Int)(w:a.length<=1000)(p:nA h h.length)(e:h.length<=300)(u:FeI f f.length 0)(k:f.length<=1000)(v:i.length<=900000): aB (λn _=>Gz n (a,b,c,d,f,g,h,i,j,l)) λr=>r.1.length<=a.length+1/\nA r.2.2 h.length/\r.2.1.length=f.length/\∀x∈r.2.1,x.Parts.length<=65:=
 aS<|aD (aX<|aDT a c f g l i v h.length e 0 h p) λo t=>aD (aAO a [l]<|by simp;omega) λr q=>aD (aX<|aDS r b c d o j l f.length k 0 f u) λs m=>aA ⟨by simpa using q,t,m.1,m.2⟩
section
variable {α:Type}(l:List α)(z:α)(hl:l.length<=1000)(j:Nat)(hj:j<l.length)
include hl hj
theorem aPR: sub l (0,l.length) 0 (j:Int)=some (0,j):=by
 unfold sub;rw[Zu ⟨by omega,by omega,by simp;omega⟩];simp
theorem aPQ: sub l (0,l.length) ((j+1:Nat):Int) (ln l)=some (j+1,l.length-(j+1)):=by
 unfold sub ln;rw[Zu ⟨by omega,by omega,by simp⟩];simp
theorem aHA: (win l<|some (j+1,l.length-(j+1))).length=l.length-(j+1):=by simp[win]
def aE0: List α:=aT l j<|win l<|some (j+1,l.length-(j+1))
theorem aPP: SU l (0,j) (win l<|some (j+1,l.length-(j+1)))=some (aE0 l j):=by
 unfold SU aE0;rw[aHA l hl j hj,Zu ⟨by simp;omega,by omega⟩,Z0]
theorem u6: (aE0 l j).length=l.length:=by
 unfold aE0 aT;rw[Zh,Zh,ZV,ZH,aHA l hl j hj];omega
theorem aPO: sub (aE0 l j) (0,j+(win l<|some (j+1,l.length-(j+1))).length) (((0,j+(win l<|some (j+1,l.length-(j+1))).length).2:Nat):Int) (ln l)=some (l.length-1,1):=by
 rw[aHA l hl j hj,show j+(l.length-(j+1))=l.length-1 by omega];unfold sub ln;rw[Zu ⟨by omega,by simp,by rw[u6 l hl j hj];simp⟩];simp;omega
def IL: List α:=aT (aE0 l j) (l.length-1)<|List.replicate 1 z
theorem aPN: clr (aE0 l j) (l.length-1,1) z=some (IL l z j):=by
 unfold clr IL;rw[Zu<|by rw[u6 l hl j hj];show l.length-1+1<=_;omega]
theorem aKr: (IL l z j).length=l.length:=by
 unfold IL aT;rw[Zh,Zh,ZV,ZH,u6 l hl j hj];simp;omega
omit hl hj in
theorem a8{e cs:List α}{k:Nat}{x:α}(h:x∈aT e k cs): x∈e\/x∈cs:=by
 unfold aT at h;rcases ZD.1 h with h | h
 .exact .inl<|Z7 h
 rcases ZD.1 h with h | h
 .exact .inr h
 .exact .inl<|ZZ h
omit hl hj in
theorem aCL: ∀x∈IL l z j,x∈l\/x=z:=by
 intro x a;rcases a8 a with a | a
 .rcases a8 (show x∈aT l j _ from a) with a | a
  .exact .inl a
  .exact .inl<|ZZ<|Z7 a
 .exact .inr<|List.eq_of_mem_replicate a
end
theorem aMF(a b:List Int)(d:List aQ)(f:List aG)(l:List Aab)(e:l.length<=1000)(j:Nat)(c:j<l.length): aB (λn _=>Kq n (a,b,l,d,f,(j:Int),((j+1:Nat):Int)))<|Su (λ_=>False) λv=>v=(IL l (Aab.mk 0<|Aaa.mk 0 0) j,(0,l.length-1)):=by
 refine aS<|aF (Dn<|Yj ⟨by omega,by omega,by unfold ln;omega,Wn _⟩)<|aC (λh=>?_) λ_=>aF (aPR l e j c)<|aF (aPQ l e j c)<|aF (aPP l e j c)<|aF (aPO l e j c)<|aF (aPN l (Aab.mk 0<|Aaa.mk 0 0) e j c)<|aA ?_
 .have h:(j:Int)=((j+1:Nat):Int):=by simpa using h
  omega
 .show (IL l (Aab.mk 0<|Aaa.mk 0 0) j,(0,j+(win l<|some (j+1,l.length-(j+1))).length))=_;rw[aHA l e j c,show j+(l.length-(j+1))=l.length-1 by omega]
theorem aKt(a b:List Int)(c:List Aab)(f:List aG)(l:List aQ)(e:l.length<=1000)(j:Nat)(d:j<l.length): aB (λn _=>Gy n (a,b,c,l,f,(j:Int),((j+1:Nat):Int)))<|Su (λ_=>False) λv=>v=(IL l (aQ.mk 0 0 0 [] 0 0) j,(0,l.length-1)):=by
 refine aS<|aF (Dn<|Yj ⟨by omega,by omega,by unfold ln;omega,Wn _⟩)<|aC (λh=>?_) λ_=>aF (aPR l e j d)<|aF (aPQ l e j d)<|aF (aPP l e j d)<|aF (aPO l e j d)<|aF (aPN l (aQ.mk 0 0 0 [] 0 0) e j d)<|aA ?_
 .have h:(j:Int)=((j+1:Nat):Int):=by simpa using h
  omega
 .show (IL l (aQ.mk 0 0 0 [] 0 0) j,(0,j+(win l<|some (j+1,l.length-(j+1))).length))=_;rw[aHA l e j d,show j+(l.length-(j+1))=l.length-1 by omega]
theorem aKs(a b:List Int)(c:List Aab)(d:List aQ)(l:List aG)(f:l.length<=1000)(j:Nat)(e:j<l.length): aB (λn _=>Gu n (a,b,c,d,l,(j:Int),((j+1:Nat):Int)))<|Su (λ_=>False) λv=>v=(IL l (aG.mk 0 0 0 (⟨#[]⟩:ByteArray) []) j,(0,l.length-1)):=by
 refine aS<|aF (Dn<|Yj ⟨by omega,by omega,by unfold ln;omega,Wn _⟩)<|aC (λh=>?_) λ_=>aF (aPR l f j e)<|aF (aPQ l f j e)<|aF (aPP l f j e)<|aF (aPO l f j e)<|aF (aPN l (aG.mk 0 0 0 (⟨#[]⟩:ByteArray) []) f j e)<|aA ?_
 .have h:(j:Int)=((j+1:Nat):Int):=by simpa using h
  omega
 .show (IL l (aG.mk 0 0 0 (⟨#[]⟩:ByteArray) []) j,(0,j+(win l<|some (j+1,l.length-(j+1))).length))=_;rw[aHA l f j e,show j+(l.length-(j+1))=l.length-1 by omega]
theorem aES{α:Type}{l:List α}{w:Option<|Nat×Nat}{x:α}(h:x∈win l w): x∈l:=by
 cases w with
 | none=>exact h
 | some w=>exact ZZ<|Z7 h
theorem aET{α:Type}{l:List α}{k r:Nat}(a:r<k)(b:k<=l.length): idx (win l<|some (0,k)) (r:Int)=some (l[r]'(by omega))/\idx l ((r:Int)+((0:Nat):Int))=some (l[r]'(by omega)):=by
 constructor
 .rw[bF];simp only[win];rw[XL a,Zw,Z0];exact Zb<|by omega
 .rw[show (r:Int)+((0:Nat):Int)=(r:Int) by omega,bF];exact Zb<|by omega
theorem aDP(k:Nat)(b c:List Int)(d:List Aab)(f:List aG)(g h:Int)(N:Nat)(p:k<=N)(t:N<=300)(i:Nat)(l:List aQ)(a:nA l N): aB (λn m=>mX oC n m ((0,k),b,c,d,f,g,h,(0,k),((k:Nat):Int)) (l,(i:Int))) λr=>nA r N:=by
 refine bU<|aC (λs=>?_) λ_=>aA a;have s:(i:Int)<((k:Nat):Int):=Zl s;have q:i<k:=by omega
 have e:=aET (l:=l) q (by rw[a.1];omega);have w:=Zb (l:=l) (i:=i) (by rw[a.1];omega);have o:((i:Int)+((0:Nat):Int)).toNat=i:=by omega
 rw[bO<|by omega];refine aF e.1<|aF e.2<|aD (f:=λn _=>Gj n ((0,k),b,c,d,l,f,g,h,l[i]'(by rw[a.1];omega),(i:Int),(0,k))) (Q:=λr=>nA r N) ?_ λr j=>?_
 .refine aC (λ_=>?_) λ_=>aA a;refine aF e.1<|aF e.2<|aA ?_;show nA (List.set l ((i:Int)+((0:Nat):Int)).toNat _) N;rw[o];exact a.set w rfl
 .have u:=aET (l:=r) q (by rw[j.1];omega);have v:=Zb (l:=r) (i:=i) (by rw[j.1];omega);refine aC (λ_=>aF u.1<|aF u.2 ?_) λ_=>aDP k b c d f g h N p t (i+1) r j;refine aDP k b c d f g h N p t (i+1) _ ?_;show nA (List.set r ((i:Int)+((0:Nat):Int)).toNat _) N;rw[o];exact j.set v rfl
termination_by k-i
theorem aTn(k:Nat)(b c:List Int)(d:List Aab)(f:List aQ)(g:List aG)(h i:Int)(v:b.length<=1000)(s:nA f f.length)(a:f.length<=300)(p:k<=f.length)(q:FeI g g.length 0)(e:g.length<=1000): aB (λn _=>Gx n ((0,k),b,c,d,f,g,h,i)) λr=>r.1.length<=b.length+1/\nA r.2.1 f.length/\r.2.2.length=g.length/\∀x∈r.2.2,x.Parts.length<=65:=
 aS<|aD (aX<|aDP k b c d g h i f.length p a 0 f s) λl u=>aD (aGG h i b<|by omega) λm t=>aD (aX<|aDO (0,k) m c d l h i g.length e 0 g q) λo j=>aA ⟨t,u,j.1,j.2⟩
def A1: Prop:=∀(p q:aK) (x:Int),Sm p->Sm q->Tt (λn _=>dK n p q x)
theorem B6(f:Ec)(a:List Int)(b:List Aab)(c:List aQ)(d:List aG)(e:Int)(i:mO ⟨⟨b,c,a⟩,d⟩): aB (λn _=>cG n (a,b,c,d,e)) λr=>r=0->Li ⟨⟨b,c,a⟩,d⟩:=
 aC (λ_=>aD (ND f _ i) λr j=>aA j) λh=>aA λg=>by rw[g] at h;simp at h
theorem aSY(a:Ec)(w:Nat×Nat)(b:List Int)(c:List Aab)(d:List aQ)(f:List aG)(e:Int)(i:mO ⟨⟨win c<|some w,d,b⟩,f⟩): aB (λn _=>tK n (w,b,c,d,f,e)) λr=>r=0->Li ⟨⟨win c<|some w,d,b⟩,f⟩:=
 aC (λ_=>aD (ND a _ i) λr j=>aA j) λh=>aA λg=>by rw[g] at h;simp at h
theorem aST(f:Ec)(a:List Int)(b:List Aab)(c:List aG)(d:List aQ)(e:Int)(i:mO ⟨⟨b,d,a⟩,c⟩): aB (λn _=>Gh n (a,b,c,d,e)) λr=>r=0->Li ⟨⟨b,d,a⟩,c⟩:=
 aC (λ_=>aD (ND f _ i) λr j=>aA j) λh=>aA λg=>by rw[g] at h;simp at h
theorem aOf(a:Ec)(w:Nat×Nat)(b:List Int)(c:List Aab)(d:List aQ)(f:List aG)(e:Int)(i:mO ⟨⟨c,win d<|some w,b⟩,f⟩): aB (λn _=>tI n (w,b,c,d,f,e)) λr=>r=0->Li ⟨⟨c,win d<|some w,b⟩,f⟩:=
 aC (λ_=>aD (ND a _ i) λr j=>aA j) λh=>aA λg=>by rw[g] at h;simp at h
theorem aSR(b:Ec)(a:List Int)(w:Nat×Nat)(c:List Aab)(d:List aQ)(f:List aG)(e:Int)(i:mO ⟨⟨c,d,a⟩,win f<|some w⟩): aB (λn _=>Gc n (a,w,c,d,f,e)) λr=>r=0->Li ⟨⟨c,d,a⟩,win f<|some w⟩:=
 aC (λ_=>aD (ND b _ i) λr j=>aA j) λh=>aA λg=>by rw[g] at h;simp at h
theorem aHU(j:A1)(s:aJ)(t:aO)(a:List Int)(b:List Aab)(c:List aQ)(d:List aG)(e:Int)(k:Int)(g:Sm s.Plan)(i:Sm ⟨b,c,a⟩): aB (λn _=>eA n (s,t,a,b,c,d,e,k)) λr=>r=0->e=0:=
 aD (f:=λn _=>Gt n (s,t,a,b,c,d,e,k)) (Q:=λ_=>True) (aC (λ_=>aC (λ_=>aD (j _ _ _ g i) λ_ _=>aC (λ_=>aA trivial) λ_=>aA trivial) λ_=>aC (λ_=>aD (j _ _ _ g i) λ_ _=>aC (λ_=>aA trivial) λ_=>aA trivial) λ_=>aA trivial) λ_=>aA trivial) λ_ _=>aC (λ_=>aA<|by simp) λ_=>aA λh=>h
theorem aSX(i:A1)(s:aJ)(t:aO)(w:Nat×Nat)(b:List Int)(c:List Aab)(d:List aQ)(f:List aG)(e:Int)(k:Int)(a:Sm s.Plan)(g:Sm ⟨win c<|some w,d,b⟩): aB (λn _=>tJ n (s,t,w,b,c,d,f,e,k)) λr=>r=0->e=0:=
 aD (f:=λn _=>Gs n (s,t,w,b,c,d,f,e,k)) (Q:=λ_=>True) (aC (λ_=>aC (λ_=>aD (i _ _ _ a g) λ_ _=>aC (λ_=>aA trivial) λ_=>aA trivial) λ_=>aC (λ_=>aD (i _ _ _ a g) λ_ _=>aC (λ_=>aA trivial) λ_=>aA trivial) λ_=>aA trivial) λ_=>aA trivial) λ_ _=>aC (λ_=>aA<|by simp) λ_=>aA λh=>h
theorem aDo(j:A1)(s:aJ)(t:aO)(a:List Int)(b:List Aab)(c:List aQ)(d:List aG)(e:Int)(g:Sm s.Plan)(i:Sm ⟨b,c,a⟩): aB (λn _=>fM n (s,t,a,b,c,d,e)) λr=>r=0->e=0:=
 aD (f:=λn _=>Gi n (s,t,a,b,c,d,e)) (Q:=λ_=>True) (aC (λ_=>aC (λ_=>aD (j _ _ _ g i) λ_ _=>aC (λ_=>aA trivial) λ_=>aA trivial) λ_=>aC (λ_=>aD (j _ _ _ g i) λ_ _=>aC (λ_=>aA trivial) λ_=>aA trivial) λ_=>aA trivial) λ_=>aA trivial) λ_ _=>aC (λ_=>aA<|by simp) λ_=>aA λh=>h
theorem aSS(j:A1)(s:aJ)(t:aO)(a:List Int)(b:List Aab)(c:List aG)(d:List aQ)(e:Int)(g:Sm s.Plan)(i:Sm ⟨b,d,a⟩): aB (λn _=>Gg n (s,t,a,b,c,d,e)) λr=>r=0->e=0:=
 aD (f:=λn _=>Gf n (s,t,a,b,c,d,e)) (Q:=λ_=>True) (aC (λ_=>aC (λ_=>aD (j _ _ _ g i) λ_ _=>aC (λ_=>aA trivial) λ_=>aA trivial) λ_=>aC (λ_=>aD (j _ _ _ g i) λ_ _=>aC (λ_=>aA trivial) λ_=>aA trivial) λ_=>aA trivial) λ_=>aA trivial) λ_ _=>aC (λ_=>aA<|by simp) λ_=>aA λh=>h
theorem aOe(i:A1)(s:aJ)(t:aO)(w:Nat×Nat)(b:List Int)(c:List Aab)(d:List aQ)(f:List aG)(e:Int)(a:Sm s.Plan)(g:Sm ⟨c,win d<|some w,b⟩): aB (λn _=>tH n (s,t,w,b,c,d,f,e)) λr=>r=0->e=0:=
 aD (f:=λn _=>Ge n (s,t,w,b,c,d,f,e)) (Q:=λ_=>True) (aC (λ_=>aC (λ_=>aD (i _ _ _ a g) λ_ _=>aC (λ_=>aA trivial) λ_=>aA trivial) λ_=>aC (λ_=>aD (i _ _ _ a g) λ_ _=>aC (λ_=>aA trivial) λ_=>aA trivial) λ_=>aA trivial) λ_=>aA trivial) λ_ _=>aC (λ_=>aA<|by simp) λ_=>aA λh=>h
theorem aSQ(i:A1)(s:aJ)(t:aO)(a:List Int)(w:Nat×Nat)(c:List Aab)(d:List aQ)(f:List aG)(e:Int)(b:Sm s.Plan)(g:Sm ⟨c,d,a⟩): aB (λn _=>Gb n (s,t,a,w,c,d,f,e)) λr=>r=0->e=0:=
 aD (f:=λn _=>Ga n (s,t,a,w,c,d,f,e)) (Q:=λ_=>True) (aC (λ_=>aC (λ_=>aD (i _ _ _ b g) λ_ _=>aC (λ_=>aA trivial) λ_=>aA trivial) λ_=>aC (λ_=>aD (i _ _ _ b g) λ_ _=>aC (λ_=>aA trivial) λ_=>aA trivial) λ_=>aA trivial) λ_=>aA trivial) λ_ _=>aC (λ_=>aA<|by simp) λ_=>aA λh=>h
theorem vI{f g:Nat->Nat->Option Int}{k:Nat->Nat->Int->Option Int}{s:aJ}(e:Int)(i:aB f λr=>r=0->Li s)(b:∀r,aB (λn m=>k n m r) λq=>q=0->r=0): aB (λn m=>Av.bnd (f n m) λr=>Av.bnd (k n m r) λq=>Av.cnd (q != 0) (some ((⟨⟨[],[],[]⟩,[]⟩:aJ),q))<|some (s,0)) λv=>v.2=0->Li v.1:=
 aD i λr d=>aD (b r) λq a=>aC (λh=>aA λc=>by rw[show q=0 from c] at h;simp at h) λh=>aA λ_=>d<|a<|by simpa using h
theorem aFZ{α:Type}{l:List α}{j:Nat}{y x:α}(h:x∈l.take j++y::l.drop j): x∈l\/x=y:=by
 rcases ZD.1 h with h | h
 .exact .inl<|Z7 h
 rcases ZN.1 h with h | h
 .exact .inr h
 .exact .inl<|ZZ h
theorem aAj{α:Type}{l:List α}{j:Int}{y:α}(a:0<=j)(h:j.toNat<=l.length)(b:l.length<=1000): aEn l j y=some (l.take j.toNat++y::l.drop j.toNat):=by
 unfold aEn;rw[Zu ⟨a,h,by omega⟩]
theorem aUW(s:aJ)(d:Li s)(b:List Int)(g:aO): aB (λn _=>uV n (s.Plan.Faces,b,s.Plan.Nodes,s.Plan.Arcs,s.Features,g))<|Su (λv=>v.1.length<=257)<|Su (λv=>(win v.2<|some v.1).length<=257) λv=>v.1.length<=257:=by
 have m:=d.v.leN;have ok:=d.ok;refine aS<|aD (FQ s g.ID<|by omega) λl c=>aC (λi=>?_) λi=>?_
 .have a:=c.2.2 i;let⟨q,j⟩:∃q:Nat,l.1=(q:Int):=⟨l.1.toNat,by have:=c.1;omega⟩;rw[j] at a |-;have a:q<s.Plan.Nodes.length:=by simpa using a
  have e:=Zb a;refine aC (λ_=>aA<|show s.Plan.Nodes.length<=257 by omega) λ_=>aC (λ_=>aF (by rw[jE a];exact e)<|aF (by rw[bF];exact e)<|aA ?_) λ_=>?_
  .show (List.set _ _ _).length<=257;rw[Yr];omega
  .refine aD (f:=λn _=>Km n (s.Plan.Faces,s.Plan.Nodes,s.Plan.Arcs,s.Features,g)) (Q:=λ_=>True) (aD (R1 _ ok.p g.ID) λ_ _=>aC (λ_=>aA trivial) λ_=>aD (UG s ok 1 g.ID) λ_ _=>aC (λ_=>aA trivial) λ_=>aA trivial) λ_ _=>aC (λ_=>aA<|show s.Plan.Nodes.length<=257 by omega) λ_=>?_;rw[bO<|by omega];refine aP (aMF s.Plan.Faces b s.Plan.Arcs s.Features s.Plan.Nodes (by omega) q a) (λ_ h=>h.elim) λv k=>aF rfl<|aA ?_;subst k;show (win _ _).length<=257;simp[win];omega
 .refine aC (λ_=>aS<|aF (aAj c.1 c.2.1<|by omega)<|aA ?_) λ_=>aA (show s.Plan.Nodes.length<=257 by omega);show (List.take _ _++_::_).length<=257;simp;omega
end Go.Proofs.YtabioopnpgiijaaGreatDoor.Av
