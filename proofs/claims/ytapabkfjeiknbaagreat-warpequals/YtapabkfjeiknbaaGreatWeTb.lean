/- A part of the proof of a law of the chapter warp: an evaluator of the program, proved sound, and what it says. -/
import Derived.Test.YtapabkfjeiknbaaGreatWeTl3
set_option linter.unusedVariables false
set_option linter.unusedSimpArgs false
namespace Go.Proofs.YtapabkfjeiknbaaGreat.Av
open Go
def Tot {α : Type} (f : Nat→Nat→Option α) (P : α→Prop) : Prop:=∃ r,P r∧∃ K,∀ n m,K ≤ n→K ≤ m→f n m=some r
section
variable {α β γ : Type} {P : α→Prop} {Q : β→Prop} {R : γ→Prop}
theorem Tot.ret {x : α} (h : P x) : Tot (fun _ _=>some x) P:=⟨x,h,0,fun _ _ _ _=>rfl⟩
theorem Tot.imp {P' : α→Prop} {f : Nat→Nat→Option α} (h : Tot f P) (k : ∀ r,P r→P' r) : Tot f P':=by
 obtain ⟨r,hr,K,hK⟩:=h
 exact ⟨r,k r hr,K,hK⟩
theorem Tot.bnd {f : Nat→Nat→Option β} {g : Nat→Nat→β→Option α} (h : Tot f Q) (k : ∀ r,Q r→Tot (fun n m=>g n m r) P) : Tot (fun n m=>Go.Proofs.YtapabkfjeiknbaaGreat.Av.bnd (f n m) (g n m)) P:=by
 obtain ⟨r,hr,K,hK⟩:=h
 obtain ⟨s,hs,J,hJ⟩:=k r hr
 refine ⟨s,hs,max K J,fun n m hn hm=>?_⟩
 have h1:=hK n m (by omega) (by omega)
 show Go.Proofs.YtapabkfjeiknbaaGreat.Av.bnd (f n m) (g n m)=some s
 rw [h1]
 exact hJ n m (by omega) (by omega)
theorem Tot.bndc {o : Option β} {g : Nat→Nat→β→Option α} {x : β} (e : o=some x) (k : Tot (fun n m=>g n m x) P) : Tot (fun n m=>Go.Proofs.YtapabkfjeiknbaaGreat.Av.bnd o (g n m)) P:=by
 subst e; exact k
def Su (Q : β→Prop) (R : γ→Prop) : β ⊕ γ→Prop
 | .inl a=>Q a
 | .inr b=>R b
theorem Tot.bnd2 {f : Nat→Nat→Option (β ⊕ γ)} {g : Nat→Nat→β→Option α} {k : Nat→Nat→γ→Option α} (h : Tot f (Su Q R))
  (k1 : ∀ a,Q a→Tot (fun n m=>g n m a) P) (k2 : ∀ b,R b→Tot (fun n m=>k n m b) P) : Tot (fun n m=>Go.Proofs.YtapabkfjeiknbaaGreat.Av.bnd2 (f n m) (g n m) (k n m)) P:=by
 obtain ⟨r,hr,K,hK⟩:=h
 cases r with
 | inl a =>
  obtain ⟨s,hs,J,hJ⟩:=k1 a hr
  refine ⟨s,hs,max K J,fun n m hn hm=>?_⟩
  show Go.Proofs.YtapabkfjeiknbaaGreat.Av.bnd2 (f n m) (g n m) (k n m)=some s
  rw [hK n m (by omega) (by omega)]
  exact hJ n m (by omega) (by omega)
 | inr a =>
  obtain ⟨s,hs,J,hJ⟩:=k2 a hr
  refine ⟨s,hs,max K J,fun n m hn hm=>?_⟩
  show Go.Proofs.YtapabkfjeiknbaaGreat.Av.bnd2 (f n m) (g n m) (k n m)=some s
  rw [hK n m (by omega) (by omega)]
  exact hJ n m (by omega) (by omega)
theorem Tot.cnd {b : Bool} {x y : Nat→Nat→Option α} (h1 : b=true→Tot x P) (h2 : b=false→Tot y P) : Tot (fun n m=>Go.Proofs.YtapabkfjeiknbaaGreat.Av.cnd b (x n m) (y n m)) P:=by
 cases b with
 | true=>exact h1 rfl
 | false=>exact h2 rfl
theorem Tot.prd {g : Nat→Nat→Nat→Option α} (h : Tot (fun n m=>g (n + 1) m n) P) : Tot (fun n m=>Go.Proofs.YtapabkfjeiknbaaGreat.Av.bnd (Go.Proofs.YtapabkfjeiknbaaGreat.Av.prd n) (g n m)) P:=by
 obtain ⟨r,hr,K,hK⟩:=h
 refine ⟨r,hr,K + 1,fun n m hn hm=>?_⟩
 cases n with
 | zero=>omega
 | succ n=>exact hK n m (by omega) (by omega)
theorem Tot.fn {f : Nat→Option α} {g : Nat→Option α} (e : ∀ n,f (n + 1)=g n) (h : Tot (fun n _=>g n) P) : Tot (fun n _=>f n) P:=by
 obtain ⟨r,hr,K,hK⟩:=h
 refine ⟨r,hr,K + 1,fun n m hn hm=>?_⟩
 cases n with
 | zero=>omega
 | succ n=>show f (n + 1)=some r; rw [e]; exact hK n m (by omega) (by omega)
theorem Tot.lp {f : Nat→Nat→Option α} {g : Nat→Nat→Option α} (e : ∀ n m,f n (m + 1)=g n m) (h : Tot g P) : Tot f P:=by
 obtain ⟨r,hr,K,hK⟩:=h
 refine ⟨r,hr,K + 1,fun n m hn hm=>?_⟩
 cases m with
 | zero=>omega
 | succ m=>rw [e]; exact hK n m (by omega) (by omega)
theorem Tot.dg {f : Nat→Nat→Option α} (h : Tot f P) : Tot (fun n _=>f n n) P:=by
 obtain ⟨r,hr,K,hK⟩:=h
 exact ⟨r,hr,K,fun n m hn hm=>hK n n hn hn⟩
theorem Tot.sh {f : Nat→Option α} (h : Tot (fun n _=>f n) P) : Tot (fun n _=>f (n + 1)) P:=by
 obtain ⟨r,hr,K,hK⟩:=h
 exact ⟨r,hr,K,fun n m hn hm=>hK (n + 1) m (by omega) hm⟩
theorem Tot.sh2 {f : Nat→Nat→Option α} (h : Tot f P) : Tot (fun n m=>f (n + 1) m) P:=by
 obtain ⟨r,hr,K,hK⟩:=h
 exact ⟨r,hr,K,fun n m hn hm=>hK (n + 1) m (by omega) hm⟩
theorem Tot.prdk {k : Nat} {g : Nat→Nat→Nat→Option α} (h : Tot (fun n m=>g (n + k) m n) P) : Tot (fun n m=>Go.Proofs.YtapabkfjeiknbaaGreat.Av.bnd (Go.Proofs.YtapabkfjeiknbaaGreat.Av.prdk k n) (g n m)) P:=by
 obtain ⟨r,hr,K,hK⟩:=h
 refine ⟨r,hr,K + k,fun n m hn hm=>?_⟩
 obtain ⟨n,rfl⟩ : ∃ n',n=n' + k:=⟨n - k,by omega⟩
 have : Go.Proofs.YtapabkfjeiknbaaGreat.Av.prdk k (n + k)=some n:=by unfold Go.Proofs.YtapabkfjeiknbaaGreat.Av.prdk; rw [if_pos (by omega)]; simp
 show Go.Proofs.YtapabkfjeiknbaaGreat.Av.bnd (Go.Proofs.YtapabkfjeiknbaaGreat.Av.prdk k (n + k)) (g (n + k) m)=some r
 rw [this]
 exact hK n m (by omega) (by omega)
theorem Tot.rng {l : List β} {i : Nat} {f : Nat→Nat→β→Option α} {e : Nat→Nat→Option α} (h1 : ∀ x,l[i]? = some x→i < l.length→Tot (fun n m=>f n m x) P) (h2 : l.length ≤ i→Tot e P) :
  Tot (fun n m=>Go.Proofs.YtapabkfjeiknbaaGreat.Av.cnd (decide ((i : Int) < ((l.length : Nat) : Int))) (Go.Proofs.YtapabkfjeiknbaaGreat.Av.bnd (idx l (i : Int)) (f n m)) (e n m)) P:=by
 refine Tot.cnd (fun h=>?_) (fun h=>h2 ?_)
 ·have hi : i < l.length:=by have:=of_decide_eq_true h; omega
  exact Tot.bndc (x:=l[i]) (by rw [nM]; exact List.getElem?_eq_getElem hi) (h1 _ (List.getElem?_eq_getElem hi) hi)
 ·have:=of_decide_eq_false h; omega
theorem Tot.val {f : Nat→Nat→Option α} (k : Tot f P) : ∃ r,P r∧Tot f fun x=>x=r:=by
 obtain ⟨s,hs,J,hJ⟩:=k
 exact ⟨s,hs,s,rfl,J,hJ⟩
theorem aJm {l : List α} {x : α} (h : l.length ≤ 100000) : app l [x]=some (l++[x]):=aM2 (by simp; omega)
end
structure Sm (p : GPlan) : Prop where
 n : p.Nodes.length ≤ 40
 a : p.Arcs.length ≤ 40
 f : p.Faces.length ≤ 40
 v : ∀ a ∈ p.Arcs,a.Via.length ≤ 12
theorem aM4 (p : GPlan) (hp : p.Arcs.length ≤ 40) (i : Nat) (hi : ∀ j a,j < i→p.Arcs[j]? = some a→a.Via.length ≤ 12) : Tot (fun n m=>jP n p m (i : Int)) (Su (fun _=>True) fun _=>∀ a ∈ p.Arcs,a.Via.length ≤ 12) :=
 Tot.lp (fun _ _=>rfl) (Tot.rng (fun x hx hlt=>Tot.cnd (fun _=>Tot.ret trivial) (fun h=>by
   rw [eW (by omega)]
   refine aM4 p hp (i + 1) fun j a hj ha=>?_
   by_cases hji : j=i
   ·subst hji; rw [hx] at ha; cases ha; have:=of_decide_eq_false h; omega
   ·exact hi j a (by omega) ha))
  (fun hge=>Tot.ret fun a ha=>by
   obtain ⟨j,hj⟩:=List.mem_iff_getElem?.1 ha
   exact hi j a (by have:=(List.getElem?_eq_some_iff.1 hj).1; omega) hj))
termination_by p.Arcs.length - i
theorem aSm (p : GPlan) : Tot (fun n _=>jV n p) (fun r=>r=true→Sm p):=by
 refine Tot.fn (fun _=>rfl) (Tot.bnd (Q:=fun r=>r=false→p.Nodes.length ≤ 40∧p.Arcs.length ≤ 40∧p.Faces.length ≤ 40) ?_ fun r hr=>Tot.cnd (fun h=>Tot.ret (by simp)) (fun h=>?_))
 ·refine Tot.cnd (fun _=>Tot.ret (by simp)) (fun h1=>Tot.cnd (fun _=>Tot.ret (by simp)) (fun h2=>Tot.cnd (fun _=>Tot.ret (by simp)) (fun h3=>Tot.ret fun _=>?_)))
  have:=of_decide_eq_false h1; have:=of_decide_eq_false h2; have:=of_decide_eq_false h3; omega
 ·obtain ⟨h1,h2,h3⟩:=hr h
  exact Tot.bnd2 (Tot.dg (aM4 p h2 0 (fun j a hj _=>by omega))) (fun _ _=>Tot.ret (by simp)) (fun _ hv=>Tot.ret fun _=>⟨h1,h2,h3,hv⟩)
theorem aTp (p : GPlan) (hp : Sm p) (i : Nat) (l : List Int) (hl : l=(p.Nodes.take i).map GNode.ID) : Tot (fun n m=>mD n p m l (i : Int)) (fun r=>r=p.Nodes.map GNode.ID) :=
 Tot.lp (fun _ _=>rfl) (Tot.rng (fun x hx hlt=>Tot.bndc (aJm (by rw [hl]; simp; have:=hp.n; omega)) (by
   rw [eW (by have:=hp.n; omega)]
   exact aTp p hp (i + 1) _ (by rw [hl,List.take_add_one,hx]; simp)))
  (fun hge=>Tot.ret (by rw [hl,List.take_of_length_le hge])))
termination_by p.Nodes.length - i
theorem aTo (p : GPlan) (hp : Sm p) (v : List Int) (i : Nat) (l : List Int) (hl : l=(p.Arcs.take i).map GArc.ID) : Tot (fun n m=>mC n v p m l (i : Int)) (fun r=>r=p.Arcs.map GArc.ID) :=
 Tot.lp (fun _ _=>rfl) (Tot.rng (fun x hx hlt=>Tot.bndc (aJm (by rw [hl]; simp; have:=hp.a; omega)) (by
   rw [eW (by have:=hp.a; omega)]
   exact aTo p hp v (i + 1) _ (by rw [hl,List.take_add_one,hx]; simp)))
  (fun hge=>Tot.ret (by rw [hl,List.take_of_length_le hge])))
termination_by p.Arcs.length - i
theorem bIw (p : GPlan) (hp : Sm p) : Tot (fun n _=>tY n p) (fun r=>r=(p.Nodes.map GNode.ID,p.Arcs.map GArc.ID)) :=
 Tot.fn (fun _=>rfl) (Tot.bnd (Tot.dg (aTp p hp 0 [] rfl)) fun v hv=>Tot.bnd (Tot.dg (aTo p hp v 0 [] rfl)) fun w hw=>Tot.ret (by rw [hv,hw]))
theorem aUb (l : List Int) (hp : l.length ≤ 1000) (i : Nat) (hi : 1 ≤ i) (hs : ∀ j x y,j + 1 < i→l[j]? = some x→l[j + 1]? = some y→x < y) : Tot (fun n m=>oO n l m (i : Int)) (Su (fun _=>True) fun _=>∀ (j : Nat) (x y : Int),l[j]? = some x→l[j + 1]? = some y→x < y) :=
 Tot.lp (fun _ _=>rfl) (Tot.cnd (fun h=>by
   have hlt : i < l.length:=by have:=of_decide_eq_true h; omega
   have e1 : IntKind.i64.wrap ((i : Int) - 1)=((i - 1 : Nat) : Int):=by rw [i64_in _ (by omega)]; omega
   rw [e1]
   refine Tot.bndc (x:=l[i - 1]) (by rw [nM]; exact List.getElem?_eq_getElem (by omega)) (Tot.bndc (x:=l[i]) (by rw [nM]; exact List.getElem?_eq_getElem hlt) (Tot.cnd (fun _=>Tot.ret trivial) (fun h2=>?_)))
   rw [eW (by omega)]
   refine aUb l hp (i + 1) (by omega) fun j x y hj hx hy=>?_
   by_cases hji : j + 1=i
   ·subst hji
    rw [List.getElem?_eq_getElem (by omega)] at hx hy
    cases hx; cases hy
    have:=of_decide_eq_false h2
    simp only [Nat.add_sub_cancel] at this; omega
   ·exact hs j x y (by omega) hx hy)
  (fun h=>Tot.ret fun j x y hx hy=>by
   have:=of_decide_eq_false h
   exact hs j x y (by have:=(List.getElem?_eq_some_iff.1 hy).1; omega) hx hy))
termination_by l.length - i
def Asc (l : List Int) : Prop:=∀ j x y,l[j]? = some x→l[j + 1]? = some y→x < y
theorem bEz (l : List Int) (hp : l.length ≤ 1000) : Tot (fun n _=>pX n l) (fun r=>r=true→Asc l) :=
 Tot.fn (fun _=>rfl) (Tot.bnd2 (Tot.dg (aUb l hp 1 (by omega) (fun j x y hj _ _=>by omega))) (fun _ _=>Tot.ret (by simp)) (fun _ h=>Tot.ret fun _=>h))
theorem bAm (x : Int) : Tot (fun n _=>tX n x) (fun r=>r=false→1 ≤ x∧x ≤ 1073741824) :=
 Tot.fn (fun _=>rfl) (Tot.cnd (fun _=>Tot.ret (by simp)) (fun h1=>Tot.cnd (fun _=>Tot.ret (by simp)) (fun h2=>Tot.ret fun _=>by
  have:=of_decide_eq_false h1; have:=of_decide_eq_false h2; omega)))
theorem aTd (l : List Int) (hp : l.length ≤ 1000) (i : Nat) (hs : ∀ j x,j < i→l[j]? = some x→1 ≤ x∧x ≤ 1073741824) : Tot (fun n m=>lA n l m (i : Int)) (Su (fun v=>0 ≤ v) fun _=>∀ x ∈ l,1 ≤ x∧x ≤ 1073741824) :=
 Tot.lp (fun _ _=>rfl) (Tot.rng (fun x hx hlt=>Tot.bnd (bAm x) fun r hr=>Tot.cnd (fun _=>Tot.ret (by show (0 : Int) ≤ (i : Int); omega)) (fun h=>by
   rw [eW (by omega)]
   refine aTd l hp (i + 1) fun j y hj hy=>?_
   by_cases hji : j=i
   ·subst hji; rw [hx] at hy; cases hy; exact hr h
   ·exact hs j y (by omega) hy))
  (fun hge=>Tot.ret fun x hx=>by
   obtain ⟨j,hj⟩:=List.mem_iff_getElem?.1 hx
   exact hs j x (by have:=(List.getElem?_eq_some_iff.1 hj).1; omega) hj))
termination_by l.length - i
theorem bD8 (l : List Int) (hp : l.length ≤ 1000) : Tot (fun n _=>rJ n l) (fun r=>r=true→∀ x ∈ l,1 ≤ x∧x ≤ 1073741824) :=
 Tot.fn (fun _=>rfl) (Tot.prd (Tot.prd (Tot.bnd2 (Tot.dg (aTd l hp 0 (fun j x hj _=>by omega))) (fun v hv=>Tot.cnd (fun _=>Tot.ret (by simp)) (fun h=>by have:=of_decide_eq_false h; omega)) (fun _ h=>Tot.ret fun _=>h))))
end Go.Proofs.YtapabkfjeiknbaaGreat.Av
namespace Go.Proofs.YtapabkfjeiknbaaGreat.Av
open Go
def Upto {α : Type} (l : List α) (i : Nat) (Q : α→Prop) : Prop:=∀ (j : Nat) (x : α),j < i→l[j]? = some x→Q x
theorem Upto.nil {α : Type} {l : List α} {Q : α→Prop} : Upto l 0 Q:=fun j x h _=>by omega
theorem Upto.step {α : Type} {l : List α} {i : Nat} {Q : α→Prop} {x : α} (h : Upto l i Q) (hx : l[i]? = some x) (hq : Q x) : Upto l (i + 1) Q:=fun j y hj hy=>by
 by_cases hji : j=i
 ·subst hji; rw [hx] at hy; cases hy; exact hq
 ·exact h j y (by omega) hy
theorem Upto.fin {α : Type} {l : List α} {i : Nat} {Q : α→Prop} (h : Upto l i Q) (hge : l.length ≤ i) : ∀ x ∈ l,Q x:=fun x hx=>by
 obtain ⟨j,hj⟩:=List.mem_iff_getElem?.1 hx
 exact h j x (by have:=(List.getElem?_eq_some_iff.1 hj).1; omega) hj
def PtV (x : GPoint) : Prop:=-1048576 ≤ x.X∧x.X ≤ 1048576∧-1048576 ≤ x.Y∧x.Y ≤ 1048576
theorem pt4 {x : GPoint} {R : Nat→Nat→Option Bool} (e : ∀ n m,R n m=(cnd (decide (x.X < (-1048576))) (some true) (cnd (decide (x.X > 1048576)) (some true) (cnd (decide (x.Y < (-1048576))) (some true) (cnd (decide (x.Y > 1048576)) (some true) (some false)))))) : Tot R (fun r=>r=false→PtV x):=by
 have : R=fun n m=>(cnd (decide (x.X < (-1048576))) (some true) (cnd (decide (x.X > 1048576)) (some true) (cnd (decide (x.Y < (-1048576))) (some true) (cnd (decide (x.Y > 1048576)) (some true) (some false))))):=by funext n m; exact e n m
 rw [this]
 refine Tot.cnd (fun _=>Tot.ret (by simp)) (fun h1=>Tot.cnd (fun _=>Tot.ret (by simp)) (fun h2=>Tot.cnd (fun _=>Tot.ret (by simp)) (fun h3=>Tot.cnd (fun _=>Tot.ret (by simp)) (fun h4=>Tot.ret fun _=>?_))))
 have:=of_decide_eq_false h1; have:=of_decide_eq_false h2; have:=of_decide_eq_false h3; have:=of_decide_eq_false h4
 exact ⟨by omega,by omega,by omega,by omega⟩
theorem aRf (x : GPoint) : Tot (fun n _=>xL n x) (fun r=>r=false→PtV x) :=
 Tot.fn (fun _=>rfl) (Tot.bnd (pt4 (x:=x) fun _ _=>rfl) fun r hr=>Tot.cnd (fun h=>Tot.ret (by simp)) (fun h=>Tot.ret fun _=>hr h))
theorem aKn (p : GPlan) (hp : Sm p) (i : Nat) (hs : Upto p.Nodes i fun x=>PtV x.At) : Tot (fun n m=>tE n p m (i : Int)) (Su (fun _=>True) fun _=>∀ x ∈ p.Nodes,PtV x.At) :=
 Tot.lp (fun _ _=>rfl) (Tot.rng (fun x hx hlt=>Tot.prd (Tot.bnd (pt4 (x:=x.At) fun _ _=>rfl) fun r hr=>Tot.cnd (fun _=>Tot.ret trivial) (fun h=>by
   rw [eW (by have:=hp.n; omega)]
   exact Tot.sh2 (aKn p hp (i + 1) (hs.step hx (hr h))))))
  (fun hge=>Tot.ret (hs.fin hge)))
termination_by p.Nodes.length - i
theorem aMf (p : GPlan) (x : GArc) (hx : x.Via.length ≤ 12) (i : Nat) (hs : Upto x.Via i PtV) : Tot (fun n m=>nD n x p m (i : Int)) (Su (fun v=>0 ≤ v) fun _=>∀ y ∈ x.Via,PtV y) :=
 Tot.lp (fun _ _=>rfl) (Tot.rng (fun y hy hlt=>Tot.bnd (aRf y) fun r hr=>Tot.cnd (fun _=>Tot.ret (by show (0 : Int) ≤ (i : Int); omega)) (fun h=>by
   rw [eW (by omega)]
   exact aMf p x hx (i + 1) (hs.step hy (hr h))))
  (fun hge=>Tot.ret (hs.fin hge)))
termination_by x.Via.length - i
theorem aKm (p : GPlan) (hp : Sm p) (i : Nat) (hs : Upto p.Arcs i fun a=>∀ y ∈ a.Via,PtV y) : Tot (fun n m=>nL n p m (i : Int)) (Su (fun _=>True) fun _=>∀ a ∈ p.Arcs,∀ y ∈ a.Via,PtV y) :=
 Tot.lp (fun _ _=>rfl) (Tot.rng (fun x hx hlt=>Tot.prd (Tot.prd (Tot.bnd2 (Tot.dg (aMf p x (hp.v x (List.mem_of_getElem? hx)) 0 Upto.nil)) (fun v hv=>Tot.cnd (fun _=>Tot.ret trivial) (fun h=>by
   have:=of_decide_eq_false h; omega)) (fun _ hv=>by
   rw [eW (by have:=hp.a; omega)]
   exact Tot.sh2 (f:=fun n m=>nL (n + 1) p m ((i + 1 : Nat) : Int)) (Tot.sh2 (aKm p hp (i + 1) (hs.step hx hv)))))))
  (fun hge=>Tot.ret (hs.fin hge)))
termination_by p.Arcs.length - i
theorem aZ1 (p : GPlan) (hp : Sm p) : Tot (fun n _=>aCl n p) (fun r=>r=true→(∀ x ∈ p.Nodes,PtV x.At)∧∀ a ∈ p.Arcs,∀ y ∈ a.Via,PtV y) :=
 Tot.fn (fun _=>rfl) (Tot.bnd2 (Tot.dg (aKn p hp 0 Upto.nil)) (fun _ _=>Tot.ret (by simp)) (fun _ h1=>Tot.bnd2 (Tot.dg (aKm p hp 0 Upto.nil)) (fun _ _=>Tot.ret (by simp)) (fun _ h2=>Tot.ret fun _=>⟨h1,h2⟩)))
theorem aM5 (l : List Int) (x : Int) (hl : l.length ≤ 100000) (i : Nat) : Tot (fun n m=>mA n l x m (i : Int)) (Su (fun v=>0 ≤ v∧v.toNat < l.length∧x ∈ l) fun _=>True) :=
 Tot.lp (fun _ _=>rfl) (Tot.rng (fun y hy hlt=>Tot.cnd (fun h=>Tot.ret (by
   refine ⟨by omega,by simpa using hlt,?_⟩
   rw [eq_of_beq h]; exact List.mem_of_getElem? hy)) (fun h=>by
   rw [eW (by omega)]
   exact aM5 l x hl (i + 1)))
  (fun hge=>Tot.ret trivial))
termination_by l.length - i
theorem aZd (l : List Int) (x : Int) (hl : l.length ≤ 100000) : Tot (fun n _=>pP n l x) (fun r=>0 ≤ r→r.toNat < l.length∧x ∈ l) :=
 Tot.fn (fun _=>rfl) (Tot.bnd2 (Tot.dg (aM5 l x hl 0)) (fun v hv=>Tot.ret fun _=>hv.2) (fun _ _=>Tot.ret (by intro h; omega)))
theorem aE3 (l : List Int) (x : Int) (hl : l.length ≤ 100000) : Tot (fun n _=>jG n l x) (fun r=>r=true→x ∈ l) :=
 Tot.fn (fun _=>rfl) (Tot.bnd (aZd l x hl) fun r hr=>Tot.cnd (fun h=>Tot.ret fun _=>(hr (of_decide_eq_true h)).2) (fun _=>Tot.ret (by simp)))
theorem bB4 {α : Type} {l : List α} {a b : Nat} (h1 : a ≤ b) (h2 : b ≤ l.length) : cut l (a : Int) (b : Int)=some ((l.take b).drop a):=by
 unfold cut
 rw [if_pos (by omega)]
 simp
theorem aQa (ids : List Int) (p : GPlan) (i : Int) (l : List GNode) (x : GNode) (hl : l.length ≤ 100) (j : Nat) : Tot (fun n m=>oM n ids p i l x m (j : Int)) (Su (fun _=>True) fun _=>True) :=
 Tot.lp (fun _ _=>rfl) (Tot.rng (fun y hy hlt=>Tot.cnd (fun h=>Tot.ret trivial) (fun h=>by
   rw [eW (by omega)]
   exact aQa ids p i l x hl (j + 1)))
  (fun hge=>Tot.ret trivial))
termination_by l.length - j
theorem aQb (ids : List Int) (p : GPlan) (hp : Sm p) (i : Nat) : Tot (fun n m=>oN n ids p m (i : Int)) (Su (fun _=>True) fun _=>True) :=
 Tot.lp (fun _ _=>rfl) (Tot.rng (fun y hy hlt=>Tot.bndc (bB4 (a:=0) (Nat.zero_le _) (by omega)) (Tot.bnd2 (Tot.dg (aQa ids p i _ y (by simp; have:=hp.n; omega) 0)) (fun _ _=>Tot.ret trivial) (fun _ _=>by
   rw [eW (by have:=hp.n; omega)]
   exact aQb ids p hp (i + 1))))
  (fun hge=>Tot.ret trivial))
termination_by p.Nodes.length - i
theorem aYp (ids : List Int) (p : GPlan) (i : Int) (x : GArc) (hl : ids.length ≤ 100000) : Tot (fun n m=>rL n ids p i x) (fun r=>r=false→x.From ∈ ids∧x.To ∈ ids) :=
 Tot.bnd (aE3 ids x.From hl) fun r1 h1=>Tot.cnd (fun b1=>Tot.bnd (aE3 ids x.To hl) fun r2 h2=>Tot.cnd (fun b2=>Tot.ret fun _=>⟨h1 b1,h2 b2⟩) (fun _=>Tot.ret (by simp))) (fun _=>Tot.ret (by simp))
theorem aP9 (ids : List Int) (p : GPlan) (hp : Sm p) (hl : ids.length ≤ 100000) (i : Nat) (hs : Upto p.Arcs i fun a=>a.From ∈ ids∧a.To ∈ ids) : Tot (fun n m=>oL n ids p m (i : Int)) (Su (fun _=>True) fun _=>∀ a ∈ p.Arcs,a.From ∈ ids∧a.To ∈ ids) :=
 Tot.lp (fun _ _=>rfl) (Tot.rng (fun y hy hlt=>Tot.bnd (aYp ids p i y hl) fun r hr=>Tot.cnd (fun _=>Tot.ret trivial) (fun h=>by
   rw [eW (by have:=hp.a; omega)]
   exact aP9 ids p hp hl (i + 1) (hs.step hy (hr h))))
  (fun hge=>Tot.ret (hs.fin hge)))
termination_by p.Arcs.length - i
theorem aYo (p : GPlan) (hp : Sm p) (i : Int) (x : GArc) : Tot (fun n m=>rK n p i x) (Su (fun _=>True) fun _=>True):=by
 have hf : p.Faces.length ≤ 100000:=by have:=hp.f; omega
 refine Tot.prdk (k:=3) (g:=fun n m n1=>bnd (oJ n x p i) fun v904=>(cnd (v904) (some (Sum.inl ())) (bnd (mE n x p i) fun v925=>(cnd (v925) (some (Sum.inl ())) (some (Sum.inr ())))))) ?_
 have s3 : ∀ {f : Nat→Option Bool},Tot (fun n _=>f n) (fun _=>True)→Tot (fun n _=>f (n + 3)) (fun _=>True):=fun h=>Tot.sh (f:=fun n=>_) (Tot.sh (f:=fun n=>_) (Tot.sh h))
 refine Tot.bnd (s3 (f:=fun n=>oJ n x p i) ?_) fun r _=>Tot.cnd (fun _=>Tot.ret trivial) (fun _=>Tot.bnd (s3 (f:=fun n=>mE n x p i) ?_) fun r _=>Tot.cnd (fun _=>Tot.ret trivial) (fun _=>Tot.ret trivial))
 ·exact Tot.cnd (fun _=>Tot.bnd (aE3 _ _ hf) fun _ _=>Tot.cnd (fun _=>Tot.ret trivial) (fun _=>Tot.ret trivial)) (fun _=>Tot.ret trivial)
 ·exact Tot.cnd (fun _=>Tot.bnd (aE3 _ _ hf) fun _ _=>Tot.cnd (fun _=>Tot.ret trivial) (fun _=>Tot.ret trivial)) (fun _=>Tot.ret trivial)
theorem aP8 (p : GPlan) (hp : Sm p) (i : Nat) : Tot (fun n m=>oK n p m (i : Int)) (Su (fun _=>True) fun _=>True) :=
 Tot.lp (fun _ _=>rfl) (Tot.rng (fun y hy hlt=>Tot.bnd2 (aYo p hp i y) (fun _ _=>Tot.ret trivial) (fun _ _=>by
   rw [eW (by have:=hp.a; omega)]
   exact aP8 p hp (i + 1)))
  (fun hge=>Tot.ret trivial))
termination_by p.Arcs.length - i
theorem bGb (p : GPlan) (hp : Sm p) (ids : List Int) (hl : ids.length ≤ 100000) : Tot (fun n _=>xM n p ids) (fun r=>r=0→∀ a ∈ p.Arcs,a.From ∈ ids∧a.To ∈ ids) :=
 Tot.fn (fun _=>rfl) (Tot.bnd2 (Tot.dg (aQb ids p hp 0)) (fun _ _=>Tot.ret (by simp)) (fun _ _=>Tot.bnd2 (Tot.dg (aP9 ids p hp hl 0 Upto.nil)) (fun _ _=>Tot.ret (by simp)) (fun _ h=>Tot.bnd2 (Tot.dg (aP8 p hp 0)) (fun _ _=>Tot.ret (by simp)) (fun _ _=>Tot.ret fun _=>h))))
end Go.Proofs.YtapabkfjeiknbaaGreat.Av
namespace Go.Proofs.YtapabkfjeiknbaaGreat.Av
open Go
abbrev Tt {α : Type} (f : Nat→Nat→Option α) : Prop:=Tot f fun _=>True
def aW9 (x : GPoint) : Prop:=-2097152 ≤ x.X∧x.X ≤ 2097152∧-2097152 ≤ x.Y∧x.Y ≤ 2097152
theorem aW8 (l : List GPoint) (i : Int) (x : GPoint) : Tot (fun n _=>aA3 n l i x) (fun r=>r=true→¬ aW9 x):=by
 refine Tot.cnd (fun h=>Tot.ret fun _ hp=>?_) (fun h1=>Tot.cnd (fun h=>Tot.ret fun _ hp=>?_) (fun h2=>Tot.cnd (fun h=>Tot.ret fun _ hp=>?_) (fun h3=>Tot.cnd (fun h=>Tot.ret fun _ hp=>?_) (fun h4=>Tot.ret (by simp)))))
 all_goals (have:=of_decide_eq_true h; unfold aW9 at hp; omega)
theorem aPk (l : List GPoint) (hl : l.length ≤ 1000) (i : Nat) : Tot (fun n m=>yH n l m (i : Int)) (Su (fun _=>¬ ∀ x ∈ l,aW9 x) fun _=>True) :=
 Tot.lp (fun _ _=>rfl) (Tot.rng (fun y hy hlt=>Tot.bnd (aW8 l i y) fun r hr=>Tot.cnd (fun h=>Tot.ret fun hc=>hr h (hc y (List.mem_of_getElem? hy))) (fun h=>by
   rw [eW (by omega)]
   exact aPk l hl (i + 1)))
  (fun hge=>Tot.ret trivial))
termination_by l.length - i
theorem bBp (l : List GPoint) (hl : l.length ≤ 1000) : Tot (fun n _=>yI n l) (fun r=>(∀ x ∈ l,aW9 x)→r=true) :=
 Tot.fn (fun _=>rfl) (Tot.bnd2 (Tot.dg (aPk l hl 0)) (fun _ h=>Tot.ret fun hc=>absurd hc h) (fun _ _=>Tot.ret fun _=>rfl))
theorem aRp (l : List GPoint) (hl : l.length ≤ 1000) : Tt (fun n _=>yI n l):=(bBp l hl).imp fun _ _=>trivial
def twV (a b c : GPoint) : Int:=IntKind.i64.wrap ((IntKind.i64.wrap ((IntKind.i64.wrap (b.X - a.X)) * (IntKind.i64.wrap (c.Y - a.Y)))) - (IntKind.i64.wrap ((IntKind.i64.wrap (b.Y - a.Y)) * (IntKind.i64.wrap (c.X - a.X)))))
theorem aQy (a b c : GPoint) : Tot (fun n _=>uX n a b c) (fun r=>r=twV a b c):=Tot.fn (fun _=>rfl) (Tot.ret rfl)
theorem aSr (a b c : GPoint) : Tt (fun n _=>uX n a b c):=(aQy a b c).imp fun _ _=>trivial
theorem bBf (a b c : GPoint) : Tt (fun n _=>aCf n a b c):=by
 unfold aCf
 repeat' first
  | exact Tot.ret trivial
  | refine Tot.cnd (fun _=>?_) (fun _=>?_)
  | refine Tot.bnd (aRp _ (by simp)) (fun _ _=>?_)
  | refine Tot.bnd (aSr _ _ _) (fun _ _=>?_)
theorem bBe (a b c : GPoint) : Tt (fun n _=>aCe n a b c):=by
 unfold aCe
 repeat' first
  | exact Tot.ret trivial
  | refine Tot.cnd (fun _=>?_) (fun _=>?_)
theorem aZa (a b c : GPoint) : Tt (fun n _=>uU n a b c):=by
 refine Tot.fn (fun _=>rfl) ?_
 repeat' first
  | exact Tot.ret trivial
  | refine Tot.cnd (fun _=>?_) (fun _=>?_)
  | refine Tot.bnd (bBf _ _ _) (fun _ _=>?_)
  | refine Tot.bnd (bBe _ _ _) (fun _ _=>?_)
theorem bBc (a b c : GPoint) : Tt (fun n _=>aEx n a b c):=by
 refine Tot.fn (fun _=>rfl) ?_
 repeat' first
  | exact Tot.ret trivial
  | refine Tot.cnd (fun _=>?_) (fun _=>?_)
  | refine Tot.bnd (aRp _ (by simp)) (fun _ _=>?_)
  | refine Tot.bnd (aSr _ _ _) (fun _ _=>?_)
theorem aOk (a b c : GPoint) : Tt (fun n _=>rA n a b c):=by
 refine Tot.fn (fun _=>rfl) ?_
 repeat' first
  | exact Tot.ret trivial
  | refine Tot.cnd (fun _=>?_) (fun _=>?_)
  | refine Tot.bnd (bBc _ _ _) (fun _ _=>?_)
theorem aQo (a b : GPoint) : Tt (fun n _=>tN n a b):=by
 unfold tN
 repeat' first
  | exact Tot.ret trivial
  | refine Tot.cnd (fun _=>?_) (fun _=>?_)
theorem aEe (a b : GPoint) : Tt (fun n _=>qZ n a b):=by
 refine Tot.fn (fun _=>rfl) ?_
 repeat' first
  | exact Tot.ret trivial
  | refine Tot.cnd (fun _=>?_) (fun _=>?_)
  | refine Tot.bnd (aQo _ _) (fun _ _=>?_)
theorem aO2 (a b c d : GPoint) : Tt (fun n _=>tM n a b c d):=by
 unfold tM
 repeat' first
  | exact Tot.ret trivial
  | refine Tot.cnd (fun _=>?_) (fun _=>?_)
  | refine Tot.bnd (aEe _ _) (fun _ _=>?_)
theorem aO1 (v : Int × Int × Int × Int) (c d : GPoint) : Tt (fun n _=>tL n v c d):=by
 unfold tL
 repeat' first
  | exact Tot.ret trivial
  | refine Tot.cnd (fun _=>?_) (fun _=>?_)
  | refine Tot.bnd (aEe _ _) (fun _ _=>?_)
theorem aO0 (v w : Int × Int × Int × Int) : Tt (fun n _=>tK n v w):=by
 unfold tK
 repeat' first
  | exact Tot.ret trivial
  | refine Tot.cnd (fun _=>?_) (fun _=>?_)
  | refine Tot.bnd (aEe _ _) (fun _ _=>?_)
theorem aOz (v w : Int × Int × Int × Int) (z : Int × Int) : Tt (fun n _=>tJ n v w z):=by
 unfold tJ
 repeat' first
  | exact Tot.ret trivial
  | refine Tot.cnd (fun _=>?_) (fun _=>?_)
  | refine Tot.bnd (aEe _ _) (fun _ _=>?_)
theorem aV0 (a b c d : GPoint) : Tt (fun n _=>aCx n a b c d):=by
 refine Tot.fn (fun _=>rfl) ?_
 repeat' first
  | exact Tot.ret trivial
  | refine Tot.cnd (fun _=>?_) (fun _=>?_)
  | refine Tot.bnd (aO2 _ _ _ _) (fun _ _=>?_)
  | refine Tot.bnd (aO1 _ _ _) (fun _ _=>?_)
  | refine Tot.bnd (aO0 _ _) (fun _ _=>?_)
  | refine Tot.bnd (aOz _ _ _) (fun _ _=>?_)
  | refine Tot.bnd (aEe _ _) (fun _ _=>?_)
theorem aVo (a b c d : GPoint) : Tt (fun n _=>yK n a b c d):=by
 unfold yK
 repeat' first
  | exact Tot.ret trivial
  | refine Tot.cnd (fun _=>?_) (fun _=>?_)
  | refine Tot.bnd (aOk _ _ _) (fun _ _=>?_)
theorem aVn (a b c d : GPoint) : Tt (fun n _=>yJ n a b c d):=by
 unfold yJ
 repeat' first
  | exact Tot.ret trivial
  | refine Tot.cnd (fun _=>?_) (fun _=>?_)
  | refine Tot.bnd (aOk _ _ _) (fun _ _=>?_)
theorem bE3 (a b c d : GPoint) : Tt (fun n _=>aG2 n a b c d):=by
 refine Tot.fn (fun _=>rfl) ?_
 repeat' first
  | exact Tot.ret trivial
  | refine Tot.cnd (fun _=>?_) (fun _=>?_)
  | refine Tot.bnd (aRp _ (by simp)) (fun _ _=>?_)
  | refine Tot.bnd (aZa _ _ _) (fun _ _=>?_)
  | refine Tot.bnd (aVo _ _ _ _) (fun _ _=>?_)
  | refine Tot.bnd (aV0 _ _ _ _) (fun _ _=>?_)
  | refine Tot.bnd (aVn _ _ _ _) (fun _ _=>?_)
theorem aTs (s : Gsegment) : Tt (fun n _=>mX n s):=by
 refine Tot.fn (fun _=>rfl) ?_
 repeat' first
  | exact Tot.ret trivial
  | refine Tot.cnd (fun _=>?_) (fun _=>?_)
theorem aXh (s : Gsegment) : Tt (fun n _=>lQ n s):=by
 refine Tot.fn (fun _=>rfl) ?_
 repeat' first
  | exact Tot.ret trivial
  | refine Tot.cnd (fun _=>?_) (fun _=>?_)
theorem aSf {α : Type} {Q : Nat→α→Prop} : ∀ (l : List α),(∀ x ∈ l,∃ K,∀ n,K ≤ n→Q n x)→∃ K,∀ n,K ≤ n→∀ x ∈ l,Q n x
 | [],_=>⟨0,fun _ _ _ h=>by cases h⟩
 | a :: l,h=>by
  obtain ⟨K,hK⟩:=h a (List.mem_cons_self ..)
  obtain ⟨J,hJ⟩:=aSf l fun x hx=>h x (List.mem_cons_of_mem _ hx)
  refine ⟨max K J,fun n hn x hx=>?_⟩
  rcases List.mem_cons.1 hx with rfl | hx
  ·exact hK n (by omega)
  ·exact hJ n (by omega) x hx
theorem aOi {α β : Type} {f : α→Option β} {g : α→β} : ∀ (l : List α),(∀ x ∈ l,f x=some (g x))→allO (l.map f)=some (l.map g)
 | [],_=>rfl
 | a :: l,h=>by
  simp only [List.map_cons,allO,h a (List.mem_cons_self ..),aOi l fun x hx=>h x (List.mem_cons_of_mem _ hx)]
structure Swo {α : Type} (g : α→α→Int) (l : List α) : Prop where
 ir : ∀ x ∈ l,¬ g x x < 0
 tr : ∀ x ∈ l,∀ y ∈ l,∀ z ∈ l,g x y < 0→g y z < 0→g x z < 0
 ti : ∀ x ∈ l,∀ y ∈ l,∀ z ∈ l,¬ g x y < 0→¬ g y z < 0→¬ g x z < 0
theorem bEy {α : Type} {g : α→α→Int} {l : List α} {i j : Nat} {x y : α} (hi : l[i]? = some x) (hj : l[j]? = some y) : at2 (l.map fun x=>l.map (g x)) i j=g x y:=by
 simp [at2,List.getElem?_map,hi,hj]
theorem Swo.tab {α : Type} {g : α→α→Int} {l : List α} (h : Swo g l) : swoB l.length (l.map fun x=>l.map (g x))=true:=by
 unfold swoB
 simp only [List.all_eq_true,List.mem_range,Bool.and_eq_true,Bool.not_eq_true']
 have e : ∀ i j (hi : i < l.length) (hj : j < l.length),ltT (l.map fun x=>l.map (g x)) i j=decide (g l[i] l[j] < 0):=fun i j hi hj=>by
  unfold ltT; rw [bEy (List.getElem?_eq_getElem hi) (List.getElem?_eq_getElem hj)]
 intro i hi
 refine ⟨by rw [e i i hi hi]; exact decide_eq_false (h.ir _ (List.getElem_mem hi)),fun j hj k hk=>?_⟩
 rw [e i j hi hj,e j k hj hk,e i k hi hk]
 have mi:=List.getElem_mem hi; have mj:=List.getElem_mem hj; have mk:=List.getElem_mem hk
 have t1:=h.tr _ mi _ mj _ mk
 have t2:=h.ti _ mi _ mj _ mk
 by_cases h1 : g l[i] l[j] < 0
 ·rw [decide_eq_true h1]
  show (!decide (g l[j] l[k] < 0) || decide (g l[i] l[k] < 0))=true
  by_cases h2 : g l[j] l[k] < 0
  ·rw [decide_eq_true (t1 h1 h2)]; simp
  ·rw [decide_eq_false h2]; rfl
 ·rw [decide_eq_false h1]
  show (decide (g l[j] l[k] < 0) || !decide (g l[i] l[k] < 0))=true
  by_cases h2 : g l[j] l[k] < 0
  ·rw [decide_eq_true h2]; rfl
  ·rw [decide_eq_false (t2 h1 h2)]; simp
theorem aQ4 {α : Type} {F : Nat→α→α→Option Int} {g : α→α→Int} {l : List α} (hF : ∀ x ∈ l,∀ y ∈ l,Tot (fun n _=>F n x y) fun r=>r=g x y) (hs : Swo g l) : Tot (fun n _=>aLx (fun x y=>F n x y) l) fun r=>r.length=l.length∧∀ x ∈ r,x ∈ l:=by
 obtain ⟨K,hK⟩:=aSf (Q:=fun n x=>∀ y ∈ l,F n x y=some (g x y)) l fun x hx=>aSf (Q:=fun n y=>F n x y=some (g x y)) l fun y hy=>by
  obtain ⟨r,rfl,K,hK⟩:=hF x hx y hy
  exact ⟨K,fun n hn=>hK n n hn hn⟩
 cases l with
 | nil=>exact ⟨[],⟨rfl,fun x hx=>hx⟩,0,fun _ _ _ _=>rfl⟩
 | cons a l =>
  have h1 : ∀ n,K ≤ n→tabG (fun x y=>F n x y) (a :: l)=some ((a :: l).map fun x=>(a :: l).map (g x)):=fun n hn =>
   aOi (f:=fun x=>allO ((a :: l).map fun y=>F n x y)) (g:=fun x=>(a :: l).map (g x)) (a :: l) fun x hx=>aOi (a :: l) fun y hy=>hK n hn x hx y hy
  have h2:=hs.tab
  refine ⟨(ixG l.length ((a :: l).map fun x=>(a :: l).map (g x))).map (aI2 a (a :: l)),⟨?_,?_⟩,K,fun n m hn hm=>?_⟩
  ·rw [List.length_map,aXv (by simpa using h2)]; rfl
  ·intro x hx
   obtain ⟨i,hi,rfl⟩:=List.mem_map.1 hx
   have:=bBs hi
   unfold aI2
   rw [List.getElem?_eq_getElem (by simpa using this)]
   exact List.getElem_mem _
  ·have h2' : swoB (l.length + 1) ((a :: l).map fun x=>(a :: l).map (g x))=true:=by simpa using h2
   simp only [aLx,h1 n hn,h2']
def cmpV (a b : Int) : Int:=if a < b then -1 else if a > b then 1 else 0
theorem aQv (a b : Int) : Tot (fun n _=>rB n a b) fun r=>r=cmpV a b:=by
 have hn : ∀ a : Int,Tot (fun n _=>rM n a) fun r=>r=false:=fun a=>Tot.fn (fun _=>rfl) (Tot.cnd (fun h=>by simp at h) (fun _=>Tot.ret rfl))
 refine Tot.fn (fun _=>rfl) (Tot.bnd (hn a) fun r hr=>Tot.cnd (fun h=>by rw [hr] at h; cases h) (fun _=>Tot.bnd (hn b) fun r hr=>Tot.cnd (fun h=>by rw [hr] at h; cases h) (fun _=>Tot.cnd (fun h=>Tot.ret ?_) (fun h1=>Tot.cnd (fun h=>Tot.ret ?_) (fun h2=>Tot.ret ?_)))))
 ·unfold cmpV; rw [if_pos (of_decide_eq_true h)]
 ·unfold cmpV; rw [if_neg (of_decide_eq_false h1),if_pos (of_decide_eq_true h)]
 ·unfold cmpV; rw [if_neg (of_decide_eq_false h1),if_neg (of_decide_eq_false h2)]
theorem aOa {a b : Int} : cmpV a b < 0 ↔ a < b:=by unfold cmpV; split <;> (try split) <;> omega
theorem bBk {α : Type} (k : α→Int) (l : List α) : Swo (fun x y=>cmpV (k x) (k y)) l where
 ir x _:=by rw [aOa]; omega
 tr x _ y _ z _:=by simp only [aOa]; omega
 ti x _ y _ z _:=by simp only [aOa]; omega
end Go.Proofs.YtapabkfjeiknbaaGreat.Av
namespace Go.Proofs.YtapabkfjeiknbaaGreat.Av
open Go
theorem bBv {α : Type} {l : List α} {i : Nat} {x : α} {q : α→Bool} (hx : l[i]? = some x) (h : q x=true) : (l.drop i).find? q=some x:=by
 obtain ⟨hi,rfl⟩:=List.getElem?_eq_some_iff.1 hx
 rw [List.drop_eq_getElem_cons hi,List.find?_cons,h]
theorem bBw {α : Type} {l : List α} {i : Nat} {x : α} {q : α→Bool} (hx : l[i]? = some x) (h : q x=false) : (l.drop i).find? q=(l.drop (i + 1)).find? q:=by
 obtain ⟨hi,rfl⟩:=List.getElem?_eq_some_iff.1 hx
 rw [List.drop_eq_getElem_cons hi,List.find?_cons,h]
theorem bBx {α : Type} {l : List α} {i : Nat} {q : α→Bool} (h : l.length ≤ i) : (l.drop i).find? q=none:=by
 rw [List.drop_of_length_le h]; rfl
def yD (p : GPlan) (id : Int) : GNode × Bool:=match p.Nodes.find? fun x=>x.ID == id with
 | some x=>(x,true)
 | none=>(⟨0,⟨0,0⟩⟩,false)
def arcV (p : GPlan) (id : Int) : GArc × Bool:=match p.Arcs.find? fun x=>x.ID == id with
 | some x=>(x,true)
 | none=>(⟨0,0,0,[],0,0⟩,false)
theorem aQu (p : GPlan) (hp : Sm p) (id : Int) (i : Nat) : Tot (fun n m=>yC n id p m (i : Int)) (Su (fun v=>∃ x,(p.Nodes.drop i).find? (fun x=>x.ID == id)=some x∧v=(x.ID,x.At.X,x.At.Y,x.ID,x.At.X,x.At.Y)) fun _=>(p.Nodes.drop i).find? (fun x=>x.ID == id)=none) :=
 Tot.lp (fun _ _=>rfl) (Tot.rng (fun x hx hlt=>Tot.cnd (fun h=>Tot.ret ⟨x,bBv (q:=fun x=>x.ID == id) hx h,rfl⟩) (fun h=>by
   rw [eW (by have:=hp.n; omega),bBw (q:=fun x=>x.ID == id) hx h]
   exact aQu p hp id (i + 1)))
  (fun hge=>Tot.ret (bBx hge)))
termination_by p.Nodes.length - i
theorem aQt (p : GPlan) (hp : Sm p) (id : Int) : Tot (fun n _=>tF n p id) fun r=>r=yD p id :=
 Tot.fn (fun _=>rfl) (Tot.bnd2 (Tot.dg (aQu p hp id 0)) (fun v hv=>Tot.ret (by
  obtain ⟨x,h1,rfl⟩:=hv
  rw [List.drop_zero] at h1
  unfold yD; rw [h1])) (fun _ h=>Tot.ret (by
  rw [List.drop_zero] at h
  unfold yD; rw [h])))
theorem bFa (l : List GPoint) (h : l.length ≤ 1000000) : Tot (fun n _=>qJ n l) fun r=>r=l :=
 Tot.fn (g:=fun _=>if l.length ≤ 1000000 then some l else none) (fun _=>rfl) ⟨l,rfl,0,fun _ _ _ _=>if_pos h⟩
theorem aUj (p : GPlan) (hp : Sm p) (id : Int) (i : Nat) : Tot (fun n m=>aAk n id p m (i : Int)) (Su (fun v=>∃ x,(p.Arcs.drop i).find? (fun x=>x.ID == id)=some x∧v=(x.ID,x.From,x.To,x.Via,x.Left,x.Right,x.ID,x.From,x.To,x.Via,x.Left,x.Right)) fun _=>(p.Arcs.drop i).find? (fun x=>x.ID == id)=none) :=
 Tot.lp (fun _ _=>rfl) (Tot.rng (fun x hx hlt=>Tot.cnd (fun h=>Tot.bnd (bFa x.Via (by have:=hp.v x (List.mem_of_getElem? hx); omega)) fun r hr=>Tot.ret ⟨x,bBv (q:=fun x=>x.ID == id) hx h,by rw [hr]⟩) (fun h=>by
   rw [eW (by have:=hp.a; omega),bBw (q:=fun x=>x.ID == id) hx h]
   exact aUj p hp id (i + 1)))
  (fun hge=>Tot.ret (bBx hge)))
termination_by p.Arcs.length - i
theorem bIo (p : GPlan) (hp : Sm p) (id : Int) : Tot (fun n _=>aGt n p id) fun r=>r=arcV p id :=
 Tot.fn (fun _=>rfl) (Tot.bnd2 (Tot.dg (aUj p hp id 0)) (fun v hv=>Tot.ret (by
  obtain ⟨x,h1,rfl⟩:=hv
  rw [List.drop_zero] at h1
  unfold arcV; rw [h1])) (fun _ h=>Tot.ret (by
  rw [List.drop_zero] at h
  unfold arcV; rw [h])))
theorem aP6 {α : Type} {ls : List (List α)} {i : Nat} {x : List α} (hx : ls[i]? = some x) : (ls.drop i).flatten=x++(ls.drop (i + 1)).flatten:=by
 obtain ⟨hi,rfl⟩:=List.getElem?_eq_some_iff.1 hx
 rw [List.drop_eq_getElem_cons hi,List.flatten_cons]
theorem aVt {α : Type} {ls : List (List α)} {i : Nat} {x : List α} (hx : ls[i]? = some x) : (ls.take (i + 1)).flatten=(ls.take i).flatten++x:=by
 rw [List.take_add_one,hx]; simp
theorem aYv (ls : List (List GPoint)) (hl : ls.length ≤ 1000) (i acc : Nat) (hb : acc + (ls.drop i).flatten.length ≤ 100000) : Tot (fun n m=>jZ n ls m (i : Int) (acc : Int)) fun r=>r=((acc + (ls.drop i).flatten.length : Nat) : Int) :=
 Tot.lp (fun _ _=>rfl) (Tot.rng (fun x hx hlt=>by
   have e:=aP6 hx
   rw [e,List.length_append] at hb
   have e1 : IntKind.i64.wrap ((acc : Int) + ((x.length : Nat) : Int))=((acc + x.length : Nat) : Int):=by rw [i64_in _ (by omega)]; push_cast; rfl
   rw [e1,eW (by omega)]
   refine Tot.cnd (fun h=>?_) (fun _=>?_)
   ·have:=of_decide_eq_true h; omega
   ·refine (aYv ls hl (i + 1) (acc + x.length) (by omega)).imp fun r hr=>?_
    rw [hr,e,List.length_append,Nat.add_assoc])
  (fun hge=>Tot.ret (by rw [List.drop_of_length_le hge]; rfl)))
termination_by ls.length - i
theorem aYu (ls : List (List GPoint)) (hl : ls.length ≤ 1000) (N : Nat) (hN : N ≤ 100000) (i : Nat) (l : List GPoint) (k : Nat) (h1 : l.length=N) (h2 : l.take k=(ls.take i).flatten) (h3 : k=(ls.take i).flatten.length) (h4 : k + (ls.drop i).flatten.length=N) : Tot (fun n m=>jD n ls m l (i : Int) k) fun r=>r.1.take r.2=ls.flatten :=
 Tot.lp (fun _ _=>rfl) (Tot.rng (fun x hx hlt=>by
   have e:=aP6 hx
   rw [e,List.length_append] at h4
   rw [eW (by omega)]
   have ht:=aVt hx
   have hst : ∃ l',appK l k x=some l'∧l'.length=N∧l'.take (k + x.length)=(ls.take (i + 1)).flatten:=by
    unfold appK
    by_cases hk : k=l.length
    ·have : x=[]:=List.length_eq_zero_iff.1 (by omega)
     subst this
     refine ⟨l,by rw [if_pos hk]; unfold app; rw [if_pos (by simp; omega)]; simp,h1,?_⟩
     rw [List.length_nil,Nat.add_zero,h2,ht,List.append_nil]
    ·refine ⟨_,by rw [if_neg hk,if_pos (by omega)],by simp; omega,?_⟩
     rw [ht,← h2,← List.append_assoc,List.take_append_of_le_length (by simp; omega),List.take_of_length_le (by simp; omega)]
   obtain ⟨l',a1,a2,a3⟩:=hst
   refine Tot.bndc a1 (aYu ls hl N hN (i + 1) l' (k + x.length) a2 a3 ?_ (by omega))
   rw [ht,List.length_append,h3])
  (fun hge=>Tot.ret (by
   show l.take k=ls.flatten
   rw [h2,List.take_of_length_le hge])))
termination_by ls.length - i
theorem bBi (ls : List (List GPoint)) (hl : ls.length ≤ 1000) (h0 : 0 < ls.flatten.length) (hb : ls.flatten.length ≤ 100000) : Tot (fun n _=>oZ n ls) fun r=>r=ls.flatten:=by
 refine Tot.fn (fun _=>rfl) (Tot.bnd (Tot.dg (aYv ls hl 0 0 (by simpa using hb))) fun v hv=>Tot.prd ?_)
 have e1 : v=((ls.flatten.length : Nat) : Int):=by rw [hv]; simp
 rw [e1]
 have eg : aXy ((ls.flatten.length : Nat) : Int)=some (List.replicate ls.flatten.length ⟨0,0⟩):=by
  unfold aXy
  rw [if_pos (by omega)]
  simp
 refine Tot.bndc eg (Tot.bnd (Tot.sh (f:=fun n=>jD n ls n (List.replicate ls.flatten.length ⟨0,0⟩) 0 0) (Tot.dg (aYu ls hl ls.flatten.length hb 0 _ 0 (by simp) (by simp) (by simp) (by simp)))) fun r hr=>Tot.ret hr)
def lC (p : GPlan) (id : Int) : List GPoint × Int:=match (arcV p id).2 && (yD p (arcV p id).1.From).2 && (yD p (arcV p id).1.To).2 with
 | true=>([(yD p (arcV p id).1.From).1.At]++(arcV p id).1.Via++[(yD p (arcV p id).1.To).1.At],0)
 | false=>([],7)
theorem aUd (p : GPlan) (hp : Sm p) (id : Int) : (arcV p id).1.Via.length ≤ 12:=by
 unfold arcV
 split
 ·rename_i x h; exact hp.v x (List.mem_of_find?_eq_some h)
 ·simp
theorem aUg (p : GPlan) (hp : Sm p) (id : Int) : Tot (fun n _=>aAf n p id) fun r=>r=lC p id:=by
 have hv:=aUd p hp id
 refine Tot.fn (fun _=>rfl) (Tot.bnd (bIo p hp id) fun v1 h1=>?_)
 subst h1
 refine Tot.cnd (fun b1=>Tot.bnd (aQt p hp _) fun v2 h2=>?_) (fun b1=>Tot.bnd (aQt p hp _) fun v2 h2=>?_)
 all_goals subst h2
 all_goals refine Tot.cnd (fun b2=>Tot.bnd (aQt p hp _) fun v3 h3=>?_) (fun b2=>Tot.bnd (aQt p hp _) fun v3 h3=>?_)
 all_goals subst h3
 all_goals refine Tot.cnd (fun b3=>Tot.bndc (o:=some ()) rfl ?_) (fun b3=>Tot.bndc (o:=some ()) rfl ?_)
 ·refine Tot.bnd (bBi _ (by simp) (by simp) (by simp; omega)) fun r hr=>Tot.ret ?_
  unfold lC
  rw [b1,b2,b3,hr]
  simp
 all_goals (refine Tot.ret ?_; unfold lC; rw [b1,b2,b3]; rfl)
theorem aEu (p : GPlan) (hp : Sm p) (id : Int) : (lC p id).1.length ≤ 14:=by
 have hv:=aUd p hp id
 unfold lC
 split
 ·simp; omega
 ·simp
theorem aB7 {p : GPlan} {id : Int} (h : (lC p id).2=0) : 2 ≤ (lC p id).1.length:=by
 unfold lC at h ⊢
 split
 ·simp
 ·rename_i hb; rw [hb] at h; cases h
def NoEq (l : List GPoint) : Prop:=∀ (j : Nat) (x y : GPoint),l[j]? = some x→l[j + 1]? = some y→x ≠ y
structure SegOK (s : Gsegment) : Prop where
 h0 : 0 ≤ s.at_
 h1 : s.at_.toNat + 1 < s.line.path.length
 h2 : s.line.path.length ≤ 100
theorem aZt (l : List Gsegment) (v : List GPoint × Int) (p : GPlan) (i : Int) (x : GArc) : Tot (fun n _=>tU n l v p i x) fun r=>r=false→v.2=0:=by
 refine Tot.cnd (fun _=>Tot.ret (by simp)) (fun h=>Tot.cnd (fun _=>Tot.cnd (fun _=>Tot.ret (by simp)) (fun _=>Tot.ret fun _=>?_)) (fun _=>Tot.ret fun _=>?_))
 all_goals simpa using h
theorem aSy (v : List GPoint × Int) (x : GArc) (p : GPlan) (q : Int) (h2 : 2 ≤ v.1.length) (hl : v.1.length ≤ 100) (i : Nat) (l : List Gsegment) (B : Nat) (hB : l.length ≤ B + i∧B ≤ 10000) (hi : i + 1 ≤ v.1.length) (hs : ∀ s ∈ l,SegOK s) (hn : ∀ (j : Nat) (x y : GPoint),j < i→v.1[j]? = some x→v.1[j + 1]? = some y→x ≠ y) :
  Tot (fun n m=>pR n v x p q m l (i : Int)) (Su (fun _=>True) fun r=>r.length ≤ B + 100∧(∀ s ∈ r,SegOK s)∧NoEq v.1):=by
 have e1 : IntKind.i64.wrap (((v.1.length : Nat) : Int) - 1)=((v.1.length - 1 : Nat) : Int):=by rw [i64_in _ (by omega)]; omega
 refine Tot.lp (fun _ _=>rfl) (Tot.cnd (fun h=>?_) (fun h=>Tot.ret ⟨by omega,hs,fun j x y hx hy=>hn j x y ?_ hx hy⟩))
 ·have hlt : i < v.1.length - 1:=by rw [e1] at h; have:=of_decide_eq_true h; omega
  rw [eW (by omega)]
  refine Tot.bndc (x:=v.1[i]) (by rw [nM]; exact List.getElem?_eq_getElem (by omega)) (Tot.bndc (x:=v.1[i + 1]) (by rw [nM]; exact List.getElem?_eq_getElem (by omega)) (Tot.cnd (fun _=>Tot.ret trivial) (fun hne=>Tot.bndc (aJm (by omega)) ?_)))
  refine aSy v x p q h2 hl (i + 1) _ B ⟨by simp; omega,hB.2⟩ (by omega) ?_ ?_
  ·intro s hs'
   rcases List.mem_append.1 hs' with h | h
   ·exact hs s h
   ·rw [List.mem_singleton.1 h]; exact ⟨by show (0 : Int) ≤ (i : Int); omega,by show (i : Int).toNat + 1 < v.1.length; omega,hl⟩
  ·intro j a b hj ha hb
   by_cases hji : j=i
   ·subst hji
    rw [List.getElem?_eq_getElem (by omega)] at ha hb
    cases ha; cases hb
    exact of_decide_eq_false hne
   ·exact hn j a b (by omega) ha hb
 ·rw [e1] at h
  have:=of_decide_eq_false h
  have:=(List.getElem?_eq_some_iff.1 hy).1; omega
termination_by v.1.length - i
theorem aSz (p : GPlan) (hp : Sm p) (i : Nat) (hi : i ≤ p.Arcs.length) (l : List Gsegment) (hB : l.length ≤ 100 * i) (hs : ∀ s ∈ l,SegOK s) (hu : Upto p.Arcs i fun a=>(lC p a.ID).2=0∧NoEq (lC p a.ID).1) :
  Tot (fun n m=>pS n p m l (i : Int)) (Su (fun _=>True) (Su (fun _=>True) fun r=>r.length ≤ 4000∧(∀ s ∈ r,SegOK s)∧∀ a ∈ p.Arcs,(lC p a.ID).2=0∧NoEq (lC p a.ID).1)):=by
 have ha:=hp.a
 refine Tot.lp (fun _ _=>rfl) (Tot.rng (fun x hx hlt=>Tot.bnd (aUg p hp x.ID) fun v hv=>Tot.bnd (aZt _ v _ _ _) fun r hr=>Tot.cnd (fun _=>Tot.ret trivial) (fun h=>?_)) (fun hge=>Tot.ret ⟨?_,hs,hu.fin hge⟩))
 ·have hv0:=hr h
  rw [eW (by omega)]
  refine Tot.bnd2 (Tot.dg (aSy v x p _ (by rw [hv] at hv0 ⊢; exact aB7 hv0) (by rw [hv]; have:=aEu p hp x.ID; omega) 0 l (100 * i) ⟨by omega,by omega⟩ (by rw [hv] at hv0 ⊢; have:=aB7 hv0; omega) hs (fun j x y h=>by omega))) (fun _ _=>Tot.ret trivial) (fun w hw=>?_)
  exact aSz p hp (i + 1) (by omega) w (by have:=hw.1; omega) hw.2.1 (hu.step hx ⟨by rw [hv] at hv0; exact hv0,by have:=hw.2.2; rw [hv] at this; exact this⟩)
 ·omega
termination_by p.Arcs.length - i
theorem bFi (p : GPlan) (hp : Sm p) : Tot (fun n _=>zO n p) fun r=>r.1.length ≤ 4000∧(∀ s ∈ r.1,SegOK s)∧(r.2=true→∀ a ∈ p.Arcs,(lC p a.ID).2=0∧NoEq (lC p a.ID).1) :=
 Tot.fn (fun _=>rfl) (Tot.bnd2 (Tot.dg (aSz p hp 0 (by omega) [] (by simp) (by simp) Upto.nil)) (fun _ _=>Tot.ret ⟨by simp,by simp,by simp⟩) (fun w hw=>Tot.bnd2 (Tot.ret hw) (fun _ _=>Tot.ret ⟨by simp,by simp,by simp⟩) (fun v hv=>Tot.ret ⟨hv.1,hv.2.1,fun _=>hv.2.2⟩)))
theorem aTm {α : Type} {l : List α} {i : Int} (h0 : 0 ≤ i) (h : i.toNat < l.length) : idx l i=some l[i.toNat]:=by
 unfold idx; rw [if_pos h0]; exact List.getElem?_eq_getElem h
def aSi (s : Gsegment) : GPoint × GPoint:=(s.line.path.getD s.at_.toNat ⟨0,0⟩,s.line.path.getD (s.at_.toNat + 1) ⟨0,0⟩)
theorem aP5 (s : Gsegment) (hs : SegOK s) : Tot (fun n _=>jI n s) fun r=>r=aSi s:=by
 have h0:=hs.h0; have h1:=hs.h1; have h2:=hs.h2
 have e1 : IntKind.i64.wrap (s.at_ + 1)=s.at_ + 1:=i64_in _ (by omega)
 have e2 : (s.at_ + 1).toNat=s.at_.toNat + 1:=by omega
 have g1 : idx s.line.path s.at_=some (s.line.path.getD s.at_.toNat ⟨0,0⟩):=by rw [aTm h0 (by omega),List.getD_eq_getElem?_getD,List.getElem?_eq_getElem (by omega)]; rfl
 have g2 : idx s.line.path (IntKind.i64.wrap (s.at_ + 1))=some (s.line.path.getD (s.at_.toNat + 1) ⟨0,0⟩):=by
  rw [e1]
  unfold idx
  rw [if_pos (by omega),e2,List.getD_eq_getElem?_getD,List.getElem?_eq_getElem h1]; rfl
 exact Tot.fn (fun _=>rfl) (Tot.bndc g1 (Tot.bndc g2 (Tot.ret rfl)))
theorem aVq (s : Gsegment) (hs : SegOK s) : Tot (fun n _=>lP n s) fun r=>r=imin (aSi s).1.X (aSi s).2.X :=
 Tot.fn (fun _=>rfl) (Tot.bnd (aP5 s hs) fun r hr=>Tot.ret (by rw [hr]))
theorem bF5 (s : Gsegment) (hs : SegOK s) : Tt (fun n _=>rF n s) :=
 Tot.fn (fun _=>rfl) (Tot.bnd (aP5 s hs) fun r hr=>Tot.ret trivial)
theorem bIu (s t : Gsegment) (hs : SegOK s) (ht : SegOK t) : Tot (fun n _=>pV n s t) fun r=>r=cmpV (imin (aSi s).1.X (aSi s).2.X) (imin (aSi t).1.X (aSi t).2.X) :=
 Tot.fn (fun _=>rfl) (Tot.bnd (aVq s hs) fun a ha=>Tot.bnd (aVq t ht) fun b hb=>Tot.bnd (aQv a b) fun r hr=>Tot.ret (by rw [hr,ha,hb]))
theorem aKf (v : List Gsegment × Bool) (p : GPlan) (hp : Sm p) (i : Nat) (l : List (Int × GPoint)) : Tt (fun n m=>tD n v p m l (i : Int)) :=
 Tot.lp (fun _ _=>rfl) (Tot.rng (fun x hx hlt=>by
   rw [eW (by have:=hp.n; omega)]
   exact aKf v p hp (i + 1) _)
  (fun hge=>Tot.ret trivial))
termination_by p.Nodes.length - i
end Go.Proofs.YtapabkfjeiknbaaGreat.Av
namespace Go.Proofs.YtapabkfjeiknbaaGreat.Av
open Go
theorem Tot.prdk0 {α : Type} {P : α→Prop} {k : Nat} {g : Nat→Nat→Option α} (h : Tot g P) : Tot (fun n m=>Go.Proofs.YtapabkfjeiknbaaGreat.Av.bnd (Go.Proofs.YtapabkfjeiknbaaGreat.Av.prdk k n) (fun _=>g n m)) P:=by
 obtain ⟨r,hr,K,hK⟩:=h
 refine ⟨r,hr,max K k,fun n m hn hm=>?_⟩
 have : Go.Proofs.YtapabkfjeiknbaaGreat.Av.prdk k n=some (n - k):=by unfold Go.Proofs.YtapabkfjeiknbaaGreat.Av.prdk; rw [if_pos (by omega)]
 show Go.Proofs.YtapabkfjeiknbaaGreat.Av.bnd (Go.Proofs.YtapabkfjeiknbaaGreat.Av.prdk k n) (fun _=>g n m)=some r
 rw [this]
 exact hK n m (by omega) (by omega)
theorem aPr {b : Bool} (h : b=true) : grd b=some ():=by subst h; rfl
section
variable (z : Int) (p : GPlan) (l : List Gsegment) (v : List (Int × GPoint)) (x y : Gsegment) (e f : GPoint × GPoint)
theorem aZ5 : Tt (fun n _=>nC n z p l v x y e f):=by
 unfold nC
 repeat' first
  | exact Tot.ret trivial
  | refine Tot.cnd (fun _=>?_) (fun _=>?_)
theorem aZ4 (w : Gline × Int × Gline × Int) : Tt (fun n _=>nB n z p l v x y w e f):=by
 unfold nB
 repeat' first
  | exact Tot.ret trivial
  | refine Tot.cnd (fun _=>?_) (fun _=>?_)
  | refine Tot.bnd (aTs _) (fun _ _=>?_)
  | refine Tot.bnd (aXh _) (fun _ _=>?_)
theorem aZ3 : Tt (fun n _=>mY n x p l v y e f):=by
 unfold mY
 repeat' first
  | exact Tot.ret trivial
  | refine Tot.cnd (fun _=>?_) (fun _=>?_)
  | refine Tot.bnd (aZa _ _ _) (fun _ _=>?_)
theorem aWf : Tt (fun n _=>kZ n x p l v y e f):=by
 unfold kZ
 repeat' first
  | exact Tot.ret trivial
  | refine Tot.cnd (fun _=>?_) (fun _=>?_)
  | refine Tot.bnd (aZa _ _ _) (fun _ _=>?_)
theorem bDt : Tot (fun n _=>nA n x p l v y e f) (Su (fun _=>True) fun _=>True):=by
 unfold nA
 refine Tot.prdk0 ?_
 repeat' first
  | exact Tot.ret trivial
  | refine Tot.cnd (fun _=>?_) (fun _=>?_)
  | refine Tot.bnd (aZ3 _ _ _ _ _ _ _) (fun _ _=>?_)
  | refine Tot.bnd (aWf _ _ _ _ _ _ _) (fun _ _=>?_)
theorem aWh (q : Int) (l2 : List Gsegment) (hx : SegOK x) (h2 : ∀ s ∈ l2,SegOK s) (hl : l2.length ≤ 10000) (i : Nat) : Tot (fun n m=>lK n l q l2 p v x m (i : Int)) (Su (fun _=>True) fun _=>True) :=
 Tot.lp (fun _ _=>rfl) (Tot.rng (fun y hy hlt=>by
   have hy':=h2 y (List.mem_of_getElem? hy)
   rw [eW (by omega)]
   refine Tot.bnd (aVq y hy') fun _ _=>Tot.bnd (bF5 x hx) fun _ _=>Tot.cnd (fun _=>Tot.ret trivial) (fun _=>Tot.prd ?_)
   have ih':=Tot.sh2 (aWh q l2 hx h2 hl (i + 1))
   repeat' first
    | exact Tot.ret trivial
    | exact ih'
    | refine Tot.cnd (fun _=>?_) (fun _=>?_)
    | refine Tot.bnd (aP5 x hx) (fun _ _=>?_)
    | refine Tot.bnd (aP5 y hy') (fun _ _=>?_)
    | refine Tot.bnd (bE3 _ _ _ _) (fun _ _=>?_)
    | refine Tot.bnd (aZ5 _ _ _ _ _ _ _ _) (fun _ _=>?_)
    | refine Tot.bnd (aZ4 _ _ _ _ _ _ _ _ _) (fun _ _=>?_)
    | refine Tot.bnd2 (bDt _ _ _ _ _ _ _) (fun _ _=>?_) (fun _ _=>?_))
  (fun hge=>Tot.ret trivial))
termination_by l2.length - i
theorem aZ2 (q r : Int) (d : GNode) : Tt (fun n _=>tB n l q p r v x d e):=by
 unfold tB
 repeat' first
  | exact Tot.ret trivial
  | refine Tot.cnd (fun _=>?_) (fun _=>?_)
  | refine Tot.bnd (aZa _ _ _) (fun _ _=>?_)
  | refine Tot.bnd (aTs _) (fun _ _=>?_)
  | refine Tot.bnd (aXh _) (fun _ _=>?_)
theorem aWg (q : Int) (hp : Sm p) (hx : SegOK x) (i : Nat) : Tot (fun n m=>tC n l q p v x m (i : Int)) (Su (fun _=>True) fun _=>True) :=
 Tot.lp (fun _ _=>rfl) (Tot.rng (fun y hy hlt=>by
   rw [eW (by have:=hp.n; omega)]
   exact Tot.bnd (aP5 x hx) fun _ _=>Tot.bnd (aZ2 _ _ _ _ _ _ _ _) fun _ _=>Tot.cnd (fun _=>Tot.ret trivial) fun _=>aWg q hp hx (i + 1))
  (fun hge=>Tot.ret trivial))
termination_by p.Nodes.length - i
theorem aWi (hp : Sm p) (hs : ∀ s ∈ l,SegOK s) (hl : l.length ≤ 10000) (i : Nat) : Tot (fun n m=>pW n l p v m (i : Int)) (Su (fun _=>True) (Su (fun _=>True) fun _=>True)) :=
 Tot.lp (fun _ _=>rfl) (Tot.rng (fun y hy hlt=>by
   rw [eW (by omega)]
   refine Tot.bndc (bB4 (a:=i + 1) (b:=l.length) (by omega) (Nat.le_refl _)) (Tot.bnd2 (Tot.dg (aWh p l v y _ _ (hs y (List.mem_of_getElem? hy)) (fun s h=>hs s (List.mem_of_mem_take (List.mem_of_mem_drop h))) (by simp; omega) 0)) (fun _ _=>Tot.bnd2 (Tot.dg (aWg p l v y _ hp (hs y (List.mem_of_getElem? hy)) 0)) (fun _ _=>Tot.ret trivial) (fun _ _=>aWi hp hs hl (i + 1))) (fun _ _=>Tot.ret trivial)))
  (fun hge=>Tot.ret trivial))
termination_by l.length - i
end
theorem aZ0 (p : GPlan) (hp : Sm p) : Tot (fun n _=>aCk n p) fun r=>r=true→∀ a ∈ p.Arcs,(lC p a.ID).2=0∧NoEq (lC p a.ID).1:=by
 refine Tot.fn (fun _=>rfl) (Tot.bnd (bFi p hp) fun v hv=>Tot.cnd (fun h=>Tot.bnd (Tot.dg (aKf v p hp 0 [])) fun w _=>Tot.prd ?_) (fun _=>Tot.ret (by simp)))
 refine Tot.bndc (aPr (decide_eq_true (by have:=hv.1; omega))) (Tot.bnd (aQ4 (F:=fun n x y=>pV n x y) (fun x hx y hy=>bIu x y (hv.2.1 x hx) (hv.2.1 y hy)) (bBk _ _)) fun l hl=>?_)
 refine Tot.bnd2 (Tot.sh (f:=fun n=>pW n l p w n 0) (Tot.dg (aWi p l w hp (fun s hs=>hv.2.1 s (hl.2 s hs)) (by rw [hl.1]; have:=hv.1; omega) 0))) (fun _ _=>Tot.ret (by simp)) (fun w hw=>Tot.bnd2 (Tot.ret hw) (fun _ _=>Tot.ret (by simp)) (fun _ _=>Tot.ret fun _=>hv.2.2 h))
theorem aYt (p : GPlan) (hp : Sm p) (i : Nat) : Tot (fun n m=>vS n p m (i : Int)) (Su (fun _=>True) fun _=>True) :=
 Tot.lp (fun _ _=>rfl) (Tot.rng (fun y hy hlt=>by
   rw [eW (by have:=hp.a; omega)]
   exact Tot.cnd (fun _=>Tot.ret trivial) fun _=>aYt p hp (i + 1))
  (fun hge=>Tot.ret trivial))
termination_by p.Arcs.length - i
structure Valid (p : GPlan) : Prop where
 asN : Asc (p.Nodes.map GNode.ID)
 asA : Asc (p.Arcs.map GArc.ID)
 nuA : ∀ a ∈ p.Arcs,1 ≤ a.ID∧a.ID ≤ 1073741824
 nuN : ∀ x ∈ p.Nodes,1 ≤ x.ID∧x.ID ≤ 1073741824
 ptN : ∀ x ∈ p.Nodes,PtV x.At
 ptA : ∀ a ∈ p.Arcs,∀ y ∈ a.Via,PtV y
 con : ∀ a ∈ p.Arcs,a.From ∈ p.Nodes.map GNode.ID∧a.To ∈ p.Nodes.map GNode.ID
 pth : ∀ a ∈ p.Arcs,(lC p a.ID).2=0∧NoEq (lC p a.ID).1
theorem bFb (p : GPlan) (hp : Sm p) : Tot (fun n _=>aEt n p) fun r=>r=0→Valid p:=by
 have hn:=hp.n; have ha:=hp.a; have hf:=hp.f
 refine Tot.fn (fun _=>rfl) (Tot.bnd (Q:=fun _=>True) ?_ fun _ _=>Tot.cnd (fun _=>Tot.ret (by simp)) fun _=>Tot.bnd2 (Tot.dg (aYt p hp 0)) (fun _ _=>Tot.ret (by simp)) fun _ _=>Tot.bnd (bIw p hp) fun v hv=>?_)
 ·unfold zP
  repeat' first
   | exact Tot.ret trivial
   | refine Tot.cnd (fun _=>?_) (fun _=>?_)
 subst hv
 refine Tot.bnd (Q:=fun r=>r=false→Asc (p.Nodes.map GNode.ID)∧Asc (p.Arcs.map GArc.ID)) ?_ fun r1 h1=>Tot.cnd (fun _=>Tot.ret (by simp)) fun b1=>Tot.bnd (Q:=fun r=>r=false→(∀ x ∈ p.Nodes.map GNode.ID,1 ≤ x∧x ≤ 1073741824)∧(∀ x ∈ p.Arcs.map GArc.ID,1 ≤ x∧x ≤ 1073741824)∧(∀ x ∈ p.Nodes,PtV x.At)∧∀ a ∈ p.Arcs,∀ y ∈ a.Via,PtV y) ?_ fun r2 h2=>Tot.cnd (fun _=>Tot.ret (by simp)) fun b2=>Tot.bnd (bGb p hp (p.Nodes.map GNode.ID) (by simp; omega)) fun r3 h3=>Tot.cnd (fun b3=>Tot.ret fun h=>?_) fun b3=>Tot.bnd (aZ0 p hp) fun r4 h4=>Tot.cnd (fun b4=>Tot.ret fun _=>?_) fun _=>Tot.ret (by simp)
 ·exact Tot.bnd (bEz _ (by simp; omega)) fun r1 h1=>Tot.cnd (fun b1=>Tot.bnd (bEz _ (by simp; omega)) fun r2 h2=>Tot.cnd (fun b2=>Tot.bnd (bEz _ (by omega)) fun r3 h3=>Tot.cnd (fun b3=>Tot.ret fun _=>⟨h1 b1,h2 b2⟩) fun _=>Tot.ret (by simp)) fun _=>Tot.ret (by simp)) fun _=>Tot.ret (by simp)
 ·exact Tot.bnd (bD8 _ (by simp; omega)) fun r1 h1=>Tot.cnd (fun b1=>Tot.bnd (bD8 _ (by simp; omega)) fun r2 h2=>Tot.cnd (fun b2=>Tot.bnd (bD8 _ (by omega)) fun r3 h3=>Tot.cnd (fun b3=>Tot.bnd (aZ1 p hp) fun r4 h4=>Tot.cnd (fun b4=>Tot.ret fun _=>⟨h1 b1,h2 b2,(h4 b4).1,(h4 b4).2⟩) fun _=>Tot.ret (by simp)) fun _=>Tot.ret (by simp)) fun _=>Tot.ret (by simp)) fun _=>Tot.ret (by simp)
 ·rw [h] at b3; simp at b3
 ·have e3 : r3=0:=by simpa using b3
  obtain ⟨c1,c2,c3,c4⟩:=h2 b2
  exact ⟨(h1 b1).1,(h1 b1).2,fun a ha=>c2 _ (List.mem_map_of_mem ha),fun a ha=>c1 _ (List.mem_map_of_mem ha),c3,c4,h3 e3,h4 b4⟩
end Go.Proofs.YtapabkfjeiknbaaGreat.Av
namespace Go.Proofs.YtapabkfjeiknbaaGreat.Av
open Go
def cr (ux uy vx vy : Int) : Int:=ux * vy - uy * vx
theorem bGa (ux uy vx vy wx wy : Int) : vy * cr ux uy wx wy=wy * cr ux uy vx vy + uy * cr vx vy wx wy:=by
 unfold cr
 simp only [Int.mul_sub]
 have e1 : wy * (ux * vy)=vy * (ux * wy):=by rw [Int.mul_left_comm,Int.mul_comm wy vy,Int.mul_left_comm]
 have e2 : wy * (uy * vx)=uy * (vx * wy):=by rw [Int.mul_left_comm,Int.mul_comm wy vx]
 have e3 : vy * (uy * wx)=uy * (vy * wx):=Int.mul_left_comm _ _ _
 omega
def Up (x y : Int) : Prop:=0 < y ∨ (y=0∧0 < x)
theorem aYm {vx vy wx wy : Int} (hv : Up vx vy) (hw : Up wx wy) (h : cr vx vy wx wy > 0) : 0 < wy:=by
 rcases hw with h1 | ⟨h1,h2⟩
 ·exact h1
 ·unfold cr at h
  rw [h1,Int.mul_zero] at h
  have : 0 ≤ vy * wx:=by
   refine Int.mul_nonneg ?_ (by omega)
   rcases hv with h | ⟨h,_⟩ <;> omega
  omega
theorem aT8 {ux uy vx vy wx wy : Int} (hu : Up ux uy) (hv : Up vx vy) (hw : Up wx wy) (h1 : cr ux uy vx vy > 0) (h2 : cr vx vy wx wy > 0) : cr ux uy wx wy > 0:=by
 have p1:=aYm hu hv h1
 have p2:=aYm hv hw h2
 have e:=bGa ux uy vx vy wx wy
 have a1 : 0 < wy * cr ux uy vx vy:=Int.mul_pos p2 h1
 have a2 : 0 ≤ uy * cr vx vy wx wy:=Int.mul_nonneg (by rcases hu with h | ⟨h,_⟩ <;> omega) (by omega)
 have a3 : 0 < vy * cr ux uy wx wy:=by omega
 rcases Int.lt_or_le 0 (cr ux uy wx wy) with h | h
 ·exact h
 ·have:=Int.mul_nonpos_of_nonneg_of_nonpos (a:=vy) (b:=cr ux uy wx wy) (by omega) h
  omega
theorem bB6 {ux uy vx vy wx wy : Int} (hu : Up ux uy) (hv : Up vx vy) (hw : Up wx wy) (h1 : ¬ cr ux uy vx vy > 0) (h2 : ¬ cr vx vy wx wy > 0) : ¬ cr ux uy wx wy > 0:=by
 intro h3
 have hwy : 0 < wy:=aYm hu hw h3
 have huy : 0 ≤ uy:=by rcases hu with h | ⟨h,_⟩ <;> omega
 rcases hv with hvy | ⟨hvy,hvx⟩
 ·have e:=bGa ux uy vx vy wx wy
  have a1 : 0 < vy * cr ux uy wx wy:=Int.mul_pos hvy h3
  have a2 : wy * cr ux uy vx vy ≤ 0:=Int.mul_nonpos_of_nonneg_of_nonpos (by omega) (by omega)
  have a3 : uy * cr vx vy wx wy ≤ 0:=Int.mul_nonpos_of_nonneg_of_nonpos huy (by omega)
  omega
 ·unfold cr at h2
  rw [hvy,Int.zero_mul] at h2
  have:=Int.mul_pos hvx hwy
  omega
theorem bB5 (ux uy vx vy : Int) : cr (-ux) (-uy) (-vx) (-vy)=cr ux uy vx vy:=by
 unfold cr; rw [Int.neg_mul_neg,Int.neg_mul_neg]
def lowB (o p : GPoint) : Bool:=decide (p.Y < o.Y) || (p.Y == o.Y && decide (p.X < o.X))
def twE (o a b : GPoint) : Int:=cr (a.X - o.X) (a.Y - o.Y) (b.X - o.X) (b.Y - o.Y)
def aF7 (o a b : GPoint) : Bool:=if lowB o a != lowB o b then lowB o b else decide (twE o a b > 0)
theorem aMi {o p : GPoint} (h : lowB o p=false) (hn : p ≠ o) : Up (p.X - o.X) (p.Y - o.Y):=by
 simp only [lowB,Bool.or_eq_false_iff,decide_eq_false_iff_not,Bool.and_eq_false_iff,beq_eq_false_iff_ne] at h
 by_cases hy : p.Y=o.Y
 ·refine .inr ⟨by omega,?_⟩
  have : p.X ≠ o.X:=by
   intro hx; apply hn
   cases p; cases o; simp_all
  rcases h.2 with h | h
  ·exact absurd hy h
  ·omega
 ·exact .inl (by omega)
theorem aMj {o p : GPoint} (h : lowB o p=true) : Up (-(p.X - o.X)) (-(p.Y - o.Y)):=by
 simp only [lowB,Bool.or_eq_true,decide_eq_true_eq,Bool.and_eq_true,beq_iff_eq] at h
 rcases h with h | ⟨h1,h2⟩
 ·exact .inl (by omega)
 ·exact .inr ⟨by omega,by omega⟩
theorem bD9 {o a b c : GPoint} (ha : a ≠ o) (hb : b ≠ o) (hc : c ≠ o) (h1 : aF7 o a b=true) (h2 : aF7 o b c=true) : aF7 o a c=true:=by
 unfold aF7 at h1 h2 ⊢
 cases la : lowB o a <;> cases lb : lowB o b <;> cases lc : lowB o c <;> rw [la,lb] at h1 <;> rw [lb,lc] at h2 <;> simp only [bne_self_eq_false,Bool.false_eq_true,if_false,Bool.true_bne,Bool.false_bne,Bool.not_false,if_true,Bool.not_true,decide_eq_true_eq] at h1 h2 ⊢
 ·exact aT8 (aMi la ha) (aMi lb hb) (aMi lc hc) h1 h2
 ·unfold twE at h1 h2 ⊢
  rw [← bB5] at h1 h2 ⊢
  exact aT8 (aMj la) (aMj lb) (aMj lc) h1 h2
theorem bEa {o a b c : GPoint} (ha : a ≠ o) (hb : b ≠ o) (hc : c ≠ o) (h1 : aF7 o a b=false) (h2 : aF7 o b c=false) : aF7 o a c=false:=by
 unfold aF7 at h1 h2 ⊢
 cases la : lowB o a <;> cases lb : lowB o b <;> cases lc : lowB o c <;> rw [la,lb] at h1 <;> rw [lb,lc] at h2 <;> simp only [bne_self_eq_false,Bool.false_eq_true,if_false,Bool.true_bne,Bool.false_bne,Bool.not_false,if_true,Bool.not_true,decide_eq_false_iff_not,Bool.true_eq_false] at h1 h2 ⊢
 ·exact bB6 (aMi la ha) (aMi lb hb) (aMi lc hc) h1 h2
 ·unfold twE at h1 h2 ⊢
  rw [← bB5] at h1 h2 ⊢
  exact bB6 (aMj la) (aMj lb) (aMj lc) h1 h2
theorem bEb (o a : GPoint) : aF7 o a a=false:=by
 unfold aF7 twE cr
 rw [bne_self_eq_false,if_neg (by simp),Int.mul_comm]
 simp
theorem mulb {x y : Int} {B : Nat} (hx : -(B : Int) ≤ x∧x ≤ B) (hy : -(B : Int) ≤ y∧y ≤ B) : -((B * B : Nat) : Int) ≤ x * y∧x * y ≤ ((B * B : Nat) : Int):=by
 have h : (x * y).natAbs ≤ B * B:=by rw [Int.natAbs_mul]; exact Nat.mul_le_mul (by omega) (by omega)
 omega
theorem bFe {o a b : GPoint} (ho : PtV o) (ha : PtV a) (hb : PtV b) : twV o a b=twE o a b:=by
 obtain ⟨o1,o2,o3,o4⟩:=ho; obtain ⟨a1,a2,a3,a4⟩:=ha; obtain ⟨b1,b2,b3,b4⟩:=hb
 have m1:=mulb (B:=2097152) (x:=a.X - o.X) (y:=b.Y - o.Y) ⟨by omega,by omega⟩ ⟨by omega,by omega⟩
 have m2:=mulb (B:=2097152) (x:=a.Y - o.Y) (y:=b.X - o.X) ⟨by omega,by omega⟩ ⟨by omega,by omega⟩
 unfold twV twE cr
 rw [i64_in (a.X - o.X) (by omega),i64_in (b.Y - o.Y) (by omega),i64_in (a.Y - o.Y) (by omega),i64_in (b.X - o.X) (by omega),i64_in ((a.X - o.X) * (b.Y - o.Y)) (by omega),i64_in ((a.Y - o.Y) * (b.X - o.X)) (by omega),i64_in _ (by omega)]
theorem aKs (o p : GPoint) : Tot (fun n _=>uY n o p) fun r=>r=lowB o p:=by
 refine Tot.fn (fun _=>rfl) (Tot.bnd (Q:=fun r=>r=lowB o p) ?_ fun r hr=>Tot.cnd (fun h=>Tot.ret (by rw [← hr,h])) fun h=>Tot.ret (by rw [← hr,h]))
 unfold zS lowB
 refine Tot.cnd (fun h=>Tot.ret (by rw [h]; rfl)) fun h=>Tot.cnd (fun h2=>Tot.cnd (fun h3=>Tot.ret (by rw [h,h2,h3]; rfl)) fun h3=>Tot.ret (by rw [h,h2,h3]; rfl)) fun h2=>Tot.ret (by rw [h,h2]; rfl)
theorem PtV.near {x : GPoint} (h : PtV x) : aW9 x:=by obtain ⟨h1,h2,h3,h4⟩:=h; exact ⟨by omega,by omega,by omega,by omega⟩
theorem bDc (o a b : GPoint) (ho : PtV o) (ha : PtV a) (hb : PtV b) (hao : a ≠ o) (hbo : b ≠ o) : Tot (fun n _=>aEa n o a b) fun r=>r=aF7 o a b:=by
 refine Tot.fn (fun _=>rfl) (Tot.bnd (Q:=fun r=>r=false) ?_ fun r hr=>Tot.cnd (fun h=>by rw [hr] at h; cases h) fun _=>Tot.bnd (aKs o a) fun la hla=>Tot.cnd (fun h1=>Tot.bnd (aKs o b) fun lb hlb=>Tot.cnd (fun h2=>Tot.bnd (aQy o a b) fun t ht=>Tot.cnd (fun h3=>Tot.ret ?_) fun h3=>Tot.ret ?_) fun h2=>Tot.bnd (aKs o b) fun lb' hlb'=>Tot.cnd (fun h3=>Tot.ret ?_) fun h3=>Tot.ret ?_) fun h1=>Tot.bnd (aKs o b) fun lb hlb=>Tot.cnd (fun h2=>Tot.bnd (aKs o b) fun lb' hlb'=>Tot.cnd (fun h3=>Tot.ret ?_) fun h3=>Tot.ret ?_) fun h2=>Tot.bnd (aQy o a b) fun t ht=>Tot.cnd (fun h3=>Tot.ret ?_) fun h3=>Tot.ret ?_)
 ·unfold aA5
  refine Tot.bnd (bBp [o,a,b] (by simp)) fun r hr=>Tot.cnd (fun _=>Tot.cnd (fun h=>absurd (of_decide_eq_true h) hao) fun _=>Tot.cnd (fun h=>absurd (of_decide_eq_true h) hbo) fun _=>Tot.ret rfl) fun h=>?_
  rw [hr (by
   intro x hx
   rcases List.mem_cons.1 hx with rfl | hx
   ·exact ho.near
   rcases List.mem_cons.1 hx with rfl | hx
   ·exact ha.near
   ·rw [List.mem_singleton.1 hx]; exact hb.near)] at h
  cases h
 all_goals unfold aF7
 all_goals (try rw [bFe ho ha hb] at ht)
 all_goals (try subst hlb')
 all_goals simp_all
end Go.Proofs.YtapabkfjeiknbaaGreat.Av
namespace Go.Proofs.YtapabkfjeiknbaaGreat.Av
open Go
theorem Asc.lt {l : List Int} (h : Asc l) : ∀ (d i : Nat) (x y : Int),l[i]? = some x→l[i + d + 1]? = some y→x < y
 | 0,i,x,y,hx,hy=>h i x y hx hy
 | d + 1,i,x,y,hx,hy=>by
  have hl : i + d + 1 < l.length:=by have:=(List.getElem?_eq_some_iff.1 hy).1; omega
  have h1:=Asc.lt h d i x _ hx (List.getElem?_eq_getElem hl)
  have h2:=h (i + d + 1) _ y (List.getElem?_eq_getElem hl) (by rw [show i + d + 1 + 1=i + (d + 1) + 1 by omega]; exact hy)
  omega
theorem Asc.inj {α : Type} {f : α→Int} {l : List α} (h : Asc (l.map f)) {a b : α} (ha : a ∈ l) (hb : b ∈ l) (e : f a=f b) : a=b:=by
 obtain ⟨i,hi⟩:=List.mem_iff_getElem?.1 ha
 obtain ⟨j,hj⟩:=List.mem_iff_getElem?.1 hb
 have gi : (l.map f)[i]? = some (f a):=by rw [List.getElem?_map,hi]; rfl
 have gj : (l.map f)[j]? = some (f b):=by rw [List.getElem?_map,hj]; rfl
 rcases Nat.lt_trichotomy i j with hlt | heq | hlt
 ·have:=h.lt (j - i - 1) i _ _ gi (by rw [show i + (j - i - 1) + 1=j by omega]; exact gj)
  omega
 ·subst heq; rw [hi] at hj; cases hj; rfl
 ·have:=h.lt (i - j - 1) j _ _ gj (by rw [show j + (i - j - 1) + 1=i by omega]; exact gi)
  omega
theorem bE0 {p : GPlan} (hv : Valid p) {a : GArc} (ha : a ∈ p.Arcs) : arcV p a.ID=(a,true):=by
 unfold arcV
 cases h : p.Arcs.find? fun x=>x.ID == a.ID with
 | none =>
  have:=List.find?_eq_none.1 h a ha
  simp at this
 | some x =>
  have h1:=List.mem_of_find?_eq_some h
  have h2 : x.ID=a.ID:=by have:=List.find?_some h; simpa using this
  rw [hv.asA.inj h1 ha h2]
theorem aGw {p : GPlan} {id : Int} (h : id ∈ p.Nodes.map GNode.ID) : (yD p id).2=true∧(yD p id).1 ∈ p.Nodes:=by
 unfold yD
 cases h2 : p.Nodes.find? fun x=>x.ID == id with
 | none =>
  obtain ⟨x,hx,rfl⟩:=List.mem_map.1 h
  have:=List.find?_eq_none.1 h2 x hx
  simp at this
 | some x=>exact ⟨rfl,List.mem_of_find?_eq_some h2⟩
theorem aWk {p : GPlan} (hv : Valid p) {a : GArc} (ha : a ∈ p.Arcs) : (lC p a.ID).1=[(yD p a.From).1.At]++a.Via++[(yD p a.To).1.At]:=by
 obtain ⟨c1,c2⟩:=hv.con a ha
 have n1:=(aGw c1).1
 have n2:=(aGw c2).1
 unfold lC
 rw [bE0 hv ha]
 simp only [n1,n2,Bool.and_self]
theorem bDv {p : GPlan} (hv : Valid p) {a : GArc} (ha : a ∈ p.Arcs) : ∀ x ∈ (lC p a.ID).1,PtV x:=by
 obtain ⟨c1,c2⟩:=hv.con a ha
 rw [aWk hv ha]
 intro x hx
 rcases List.mem_append.1 hx with hx | hx
 ·rcases List.mem_append.1 hx with hx | hx
  ·rw [List.mem_singleton.1 hx]; exact hv.ptN _ (aGw c1).2
  ·exact hv.ptA a ha x hx
 ·rw [List.mem_singleton.1 hx]; exact hv.ptN _ (aGw c2).2
def qY (p : GPlan) (d : Int) : Prop:=∃ a ∈ p.Arcs,d=a.ID ∨ d=-a.ID
structure AroI (p : GPlan) (o : GPoint) (i : Nat) (l : List Int) (tw : List (Int × GPoint)) : Prop where
 len : l.length ≤ 2 * i
 dart : ∀ d ∈ l,qY p d
 tow : ∀ d ∈ l,∃ q,mget tw d=some q∧PtV q∧q ≠ o
theorem AroI.add {p : GPlan} {o : GPoint} {i : Nat} {l : List Int} {tw : List (Int × GPoint)} {d : Int} {q : GPoint} (hd : qY p d) (hq : PtV q) (hqo : q ≠ o) (h1 : l.length ≤ 2 * i + 1) (h2 : ∀ d ∈ l,qY p d) (h3 : ∀ d ∈ l,∃ q,mget tw d=some q∧PtV q∧q ≠ o) :
  (l++[d]).length ≤ 2 * i + 2∧(∀ e ∈ l++[d],qY p e)∧∀ e ∈ l++[d],∃ q',mget (mput tw d q) e=some q'∧PtV q'∧q' ≠ o:=by
 refine ⟨by simp; omega,?_,?_⟩
 ·intro e he
  rcases List.mem_append.1 he with he | he
  ·exact h2 e he
  ·rw [List.mem_singleton.1 he]; exact hd
 ·intro e he
  rw [aEv]
  by_cases hde : d=e
  ·rw [if_pos hde]; exact ⟨q,rfl,hq,hqo⟩
  ·rw [if_neg hde]
   rcases List.mem_append.1 he with he | he
   ·exact h3 e he
   ·exact absurd (List.mem_singleton.1 he).symm hde
theorem aUi (p : GPlan) (hp : Sm p) (hv : Valid p) (id : Int) (v : GNode × Bool) (hvn : v=yD p id) (i : Nat) (l : List Int) (tw : List (Int × GPoint)) (hI : AroI p v.1.At i l tw) (hi : i ≤ p.Arcs.length) : Tot (fun n m=>jF n id p v m l tw (i : Int)) fun r=>r.1.length ≤ 80∧(∀ d ∈ r.1,qY p d)∧∀ d ∈ r.1,∃ q,mget r.2 d=some q∧PtV q∧q ≠ v.1.At:=by
 have ha:=hp.a
 refine Tot.lp (fun _ _=>rfl) (Tot.rng (fun x hx hlt=>?_) (fun hge=>Tot.ret ⟨by have:=hI.len; show l.length ≤ 80; omega,hI.dart,hI.tow⟩))
 have hxm:=List.mem_of_getElem? hx
 have hnu:=hv.nuA x hxm
 have e0 : IntKind.i64.wrap (0 - x.ID)=-x.ID:=by rw [i64_in _ (by omega)]; omega
 rw [eW (by omega),e0]
 have ihs : ∀ l' tw',AroI p v.1.At (i + 1) l' tw'→Tot (fun n m=>jF n id p v m l' tw' ((i + 1 : Nat) : Int)) fun r=>r.1.length ≤ 80∧(∀ d ∈ r.1,qY p d)∧∀ d ∈ r.1,∃ q,mget r.2 d=some q∧PtV q∧q ≠ v.1.At:=fun l' tw' h'=>aUi p hp hv id v hvn (i + 1) l' tw' h' (by omega)
 have same : AroI p v.1.At (i + 1) l tw:=⟨by have:=hI.len; omega,hI.dart,hI.tow⟩
 refine Tot.bnd (Q:=fun _=>True) ?_ fun r _=>Tot.cnd (fun _=>ihs _ _ same) fun _=>Tot.bnd (aUg p hp x.ID) fun w hw=>Tot.cnd (fun _=>ihs _ _ same) fun _=>?_
 ·unfold xJ
  repeat' first
   | exact Tot.ret trivial
   | refine Tot.cnd (fun _=>?_) (fun _=>?_)
 subst hw
 have hpt:=bDv hv hxm
 have hne:=(hv.pth x hxm).2
 have h2:=aB7 (hv.pth x hxm).1
 have hl14:=aEu p hp x.ID
 have hpa:=aWk hv hxm
 have k1 : ∃ q,(lC p x.ID).1[1]? = some q:=⟨_,List.getElem?_eq_getElem (by omega)⟩
 have k2 : ∃ q,(lC p x.ID).1[(lC p x.ID).1.length - 2]? = some q:=⟨_,List.getElem?_eq_getElem (by omega)⟩
 obtain ⟨q1,k1⟩:=k1
 obtain ⟨q2,k2⟩:=k2
 have i1 : idx (lC p x.ID).1 1=some q1:=k1
 have ew : IntKind.i64.wrap ((((lC p x.ID).1.length : Nat) : Int) - 2)=(((lC p x.ID).1.length - 2 : Nat) : Int):=by rw [i64_in _ (by omega)]; omega
 have i2 : idx (lC p x.ID).1 (IntKind.i64.wrap ((((lC p x.ID).1.length : Nat) : Int) - 2))=some q2:=by rw [ew,nM]; exact k2
 have p1 : PtV q1:=hpt _ (List.mem_of_getElem? k1)
 have p2 : PtV q2:=hpt _ (List.mem_of_getElem? k2)
 have z0 : (lC p x.ID).1[0]? = some (yD p x.From).1.At:=by rw [hpa]; rfl
 have z1 : (lC p x.ID).1[(lC p x.ID).1.length - 2 + 1]? = some (yD p x.To).1.At:=by
  have : (lC p x.ID).1.length - 2 + 1=([(yD p x.From).1.At]++x.Via).length:=by rw [hpa]; simp
  rw [this,hpa,List.getElem?_append_right (Nat.le_refl _),Nat.sub_self]; rfl
 have n1 : x.From=id→q1 ≠ v.1.At:=by
  intro h; rw [hvn,← h]; exact (hne 0 _ _ z0 k1).symm
 have n2 : x.To=id→q2 ≠ v.1.At:=by
  intro h; rw [hvn,← h]; exact hne _ _ _ k2 z1
 have d1 : qY p x.ID:=⟨x,hxm,.inl rfl⟩
 have d2 : qY p (-x.ID):=⟨x,hxm,.inr rfl⟩
 have hll:=hI.len
 refine Tot.cnd (fun b1=>?_) fun b1=>Tot.cnd (fun b2=>?_) fun b2=>ihs _ _ same
 ·have A:=AroI.add (i:=i) d1 p1 (n1 (eq_of_beq b1)) (by omega) hI.dart hI.tow
  refine Tot.bndc i1 (Tot.prd (Tot.bndc (aJm (by omega)) (Tot.cnd (fun b2=>?_) fun b2=>Tot.sh2 (ihs _ _ ⟨by have:=A.1; omega,A.2.1,A.2.2⟩))))
  have B:=AroI.add (l:=l++[x.ID]) (tw:=mput tw x.ID q1) (i:=i) d2 p2 (n2 (eq_of_beq b2)) (by simp; omega) A.2.1 A.2.2
  have:=ihs _ _ ⟨by have:=B.1; omega,B.2.1,B.2.2⟩
  refine Tot.bndc i2 ?_
  obtain ⟨r,hr,K,hK⟩:=this
  refine ⟨r,hr,K + 1,fun n m hn hm=>?_⟩
  show bnd (Go.Proofs.YtapabkfjeiknbaaGreat.Av.prd (n + 1)) _=_
  show bnd (app (l++[x.ID]) [-x.ID]) _=_
  rw [aJm (by simp; omega)]
  exact hK (n + 1) m (by omega) (by omega)
 ·have A:=AroI.add (i:=i) d2 p2 (n2 (eq_of_beq b2)) (by omega) hI.dart hI.tow
  exact Tot.bndc i2 (Tot.prd (Tot.bndc (aJm (by omega)) (Tot.sh2 (ihs _ _ ⟨by have:=A.1; omega,A.2.1,A.2.2⟩))))
termination_by p.Arcs.length - i
def cmpA (o a b : GPoint) : Int:=if aF7 o a b=true then -1 else if aF7 o b a=true then 1 else 0
theorem aOb {o a b : GPoint} : cmpA o a b < 0 ↔ aF7 o a b=true:=by
 unfold cmpA; split <;> (try split) <;> simp_all
theorem bBj (p : GPlan) (hp : Sm p) (hv : Valid p) (id : Int) : Tot (fun n _=>aCh n p id) fun r=>r.length ≤ 80∧∀ d ∈ r,qY p d:=by
 refine Tot.fn (fun _=>rfl) (Tot.bnd (aQt p hp id) fun v hvn=>Tot.cnd (fun b=>Tot.bnd (Tot.dg (aUi p hp hv id v hvn 0 [] [] ⟨by simp,by simp,by simp⟩ (by omega))) fun w hw=>Tot.prd (Tot.bndc (aPr (decide_eq_true (by have:=hw.1; omega))) ?_)) fun _=>Tot.ret (by simp))
 have hvm : PtV v.1.At:=by
  rw [hvn] at b ⊢
  unfold yD at b ⊢
  cases h : p.Nodes.find? fun x=>x.ID == id with
  | none=>rw [h] at b; cases b
  | some x=>exact hv.ptN x (List.mem_of_find?_eq_some h)
 have hF : ∀ x ∈ w.1,∀ y ∈ w.1,Tot (fun n _=>lZ p w v n x y) fun r=>r=cmpA v.1.At ((mget w.2 x).getD ⟨0,0⟩) ((mget w.2 y).getD ⟨0,0⟩):=by
  have hq : ∀ x ∈ w.1,PtV ((mget w.2 x).getD ⟨0,0⟩)∧(mget w.2 x).getD ⟨0,0⟩ ≠ v.1.At:=by
   intro x hx
   obtain ⟨qx,e1,e2,e3⟩:=hw.2.2 x hx
   rw [e1]; exact ⟨e2,e3⟩
  intro x hx y hy
  refine Tot.fn (f:=fun n=>lZ p w v n x y) (fun _=>rfl) ?_
  refine Tot.bnd (bDc v.1.At ((mget w.2 x).getD ⟨0,0⟩) ((mget w.2 y).getD ⟨0,0⟩) hvm (hq x hx).1 (hq y hy).1 (hq x hx).2 (hq y hy).2) fun r hr=>Tot.cnd (fun h=>Tot.ret ?_) fun h=>Tot.bnd (bDc v.1.At ((mget w.2 y).getD ⟨0,0⟩) ((mget w.2 x).getD ⟨0,0⟩) hvm (hq y hy).1 (hq x hx).1 (hq y hy).2 (hq x hx).2) fun r2 hr2=>Tot.cnd (fun h2=>Tot.ret ?_) fun h2=>Tot.ret ?_
  ·unfold cmpA; rw [if_pos (by rw [← hr,h])]
  ·unfold cmpA; rw [if_neg (by rw [← hr,h]; simp),if_pos (by rw [← hr2,h2])]
  ·unfold cmpA; rw [if_neg (by rw [← hr,h]; simp),if_neg (by rw [← hr2,h2]; simp)]
 have hS : Swo (fun x y=>cmpA v.1.At ((mget w.2 x).getD ⟨0,0⟩) ((mget w.2 y).getD ⟨0,0⟩)) w.1:=by
  have hq : ∀ x ∈ w.1,(mget w.2 x).getD ⟨0,0⟩ ≠ v.1.At:=by
   intro x hx
   obtain ⟨qx,e1,e2,e3⟩:=hw.2.2 x hx
   rw [e1]; exact e3
  refine ⟨fun x hx=>?_,fun x hx y hy z hz h1 h2=>?_,fun x hx y hy z hz h1 h2=>?_⟩
  ·rw [aOb,bEb]; simp
  ·rw [aOb] at *
   exact bD9 (hq x hx) (hq y hy) (hq z hz) h1 h2
  ·rw [aOb,Bool.not_eq_true] at *
   exact bEa (hq x hx) (hq y hy) (hq z hz) h1 h2
 exact Tot.bnd (aQ4 (F:=fun n x y=>lZ p w v n x y) hF hS) fun r hr=>Tot.ret ⟨by rw [hr.1]; exact hw.1,fun d hd=>hw.2.1 d (hr.2 d hd)⟩
theorem aRe (l : List Int) (d : Int) (hl : l.length ≤ 1000) : Tt (fun n _=>xI n l d):=by
 refine Tot.fn (fun _=>rfl) (Tot.bnd (aZd l d (by omega)) fun r hr=>Tot.cnd (fun _=>Tot.ret trivial) fun h=>?_)
 have h0 : 0 ≤ r:=by have:=of_decide_eq_false h; omega
 have h1:=(hr h0).1
 have e1 : IntKind.i64.wrap (IntKind.i64.wrap (r + ((l.length : Nat) : Int)) - 1)=r + (l.length : Int) - 1:=by rw [i64_in (r + _) (by omega),i64_in _ (by omega)]
 rw [e1]
 have e2 : remO (r + (l.length : Int) - 1) ((l.length : Nat) : Int)=some ((r + (l.length : Int) - 1).tmod (l.length : Int)):=by unfold remO; rw [if_neg (by omega)]
 have e3 : 0 ≤ (r + (l.length : Int) - 1).tmod (l.length : Int):=Int.tmod_nonneg _ (by omega)
 have e4 : (r + (l.length : Int) - 1).tmod (l.length : Int) < (l.length : Int):=Int.tmod_lt_of_pos _ (by omega)
 exact Tot.bndc e2 (Tot.bndc (aTm e3 (by omega)) (Tot.ret trivial))
end Go.Proofs.YtapabkfjeiknbaaGreat.Av
namespace Go.Proofs.YtapabkfjeiknbaaGreat.Av
open Go
theorem bAp {V : Type} {m : List (Int × V)} {k : Int} {v : V} (h : mget m k=some v) : v ∈ m.map Prod.snd:=by
 induction m with
 | nil=>cases h
 | cons a r ih =>
  simp only [mget] at h
  split at h
  ·cases h; exact List.mem_cons_self ..
  ·exact List.mem_cons_of_mem _ (ih h)
theorem bAn {V : Type} (m : List (Int × V)) (k : Int) (v : V) : (mput m k v).length ≤ m.length + 1:=by
 induction m with
 | nil=>simp [mput]
 | cons a r ih =>
  simp only [mput]
  split
  ·simp
  ·simp only [List.length_cons]; omega
theorem aZg (p : GPlan) (q : Int) (x : GNode) (v : List Int) (hv : v.length ≤ 80) (hd : ∀ d ∈ v,qY p d) (B : Nat) (hB : B ≤ 10000) (i : Nat) (hi : i ≤ v.length) (l : List Int) (m : List (Int × Int)) (h1 : l.length ≤ B + i) (h2 : m.length ≤ B + i) (h3 : ∀ d ∈ l,qY p d) :
  Tot (fun n k=>sX n v p q x k l m (i : Int)) fun r=>r.1.length ≤ B + 80∧r.2.length ≤ B + 80∧∀ d ∈ r.1,qY p d :=
 Tot.lp (fun _ _=>rfl) (Tot.rng (fun d hx hlt=>Tot.bndc (aJm (by omega)) (Tot.bnd (aRe v d (by omega)) fun w _=>by
   rw [eW (by omega)]
   refine aZg p q x v hv hd B hB (i + 1) (by omega) _ _ (by simp; omega) (by have:=bAn m (IntKind.i64.wrap (0 - d)) w; omega) ?_
   intro e he
   rcases List.mem_append.1 he with he | he
   ·exact h3 e he
   ·rw [List.mem_singleton.1 he]; exact hd d (List.mem_of_getElem? hx)))
  (fun hge=>Tot.ret ⟨by show l.length ≤ _; omega,by show m.length ≤ _; omega,h3⟩))
termination_by v.length - i
theorem aZh (p : GPlan) (hp : Sm p) (hv : Valid p) (i : Nat) (hi : i ≤ p.Nodes.length) (l : List Int) (m : List (Int × Int)) (h1 : l.length ≤ 80 * i) (h2 : m.length ≤ 80 * i) (h3 : ∀ d ∈ l,qY p d) :
  Tot (fun n k=>sY n p k l m (i : Int)) fun r=>r.1.length ≤ 3200∧r.2.length ≤ 3200∧∀ d ∈ r.1,qY p d:=by
 have hn:=hp.n
 refine Tot.lp (fun _ _=>rfl) (Tot.rng (fun x hx hlt=>Tot.bnd (bBj p hp hv x.ID) fun w hw=>Tot.bnd (Tot.dg (aZg p _ x w hw.1 hw.2 (80 * i) (by omega) 0 (by omega) l m (by omega) (by omega) h3)) fun r hr=>?_) (fun hge=>Tot.ret ⟨by show l.length ≤ _; omega,by show m.length ≤ _; omega,h3⟩))
 rw [eW (by omega)]
 exact aZh p hp hv (i + 1) (by omega) r.1 r.2 (by have:=hr.1; omega) (by have:=hr.2.1; omega) hr.2.2
termination_by p.Nodes.length - i
theorem bB7 {p q : Int→Bool} {d : Int} : ∀ (l : List Int),(∀ x,q x=true→p x=true)→d ∈ l→p d=true→q d=false→l.countP q < l.countP p
 | [],_,h,_,_=>by cases h
 | a :: l,hpq,h,h1,h2=>by
  have hle : ∀ l : List Int,l.countP q ≤ l.countP p:=fun l=>List.countP_mono_left fun x _ h=>hpq x h
  rw [List.countP_cons,List.countP_cons]
  rcases List.mem_cons.1 h with rfl | h
  ·rw [h1,h2]; have:=hle l; simp; omega
  ·have:=bB7 l hpq h h1 h2
   by_cases ha : q a=true
   ·rw [ha,hpq a ha]; simp; omega
   ·rw [if_neg ha]; omega
def aIm (m : List (Int × Bool)) (k : Int) : Bool:=!(mget m k).getD false
theorem aTq (p : GPlan) (l : List (List Int)) (v : List Int × List (Int × Int)) (V : List Int) (hV : ∀ k,(mget v.2 k).getD 0 ∈ V) (hl : V.length ≤ 10000) (seen : List (Int × Bool)) (cyc : List Int) (d : Int) (hd : d ∈ V) (hc : cyc.length + V.countP (aIm seen) ≤ 10000) :
  Tot (fun n m=>mS n p l v m seen cyc d) fun r=>∃ t,r.2=cyc++t∧r.2.length ≤ 10000∧((mget seen d).getD false=false→∃ t',t=d :: t'):=by
 refine Tot.lp (fun _ _=>rfl) (Tot.cnd (fun h=>Tot.ret ⟨[],by simp,by show cyc.length ≤ _; omega,fun h2=>by rw [h] at h2; cases h2⟩) fun h=>Tot.bndc (aJm (by omega)) ?_)
 have hlt : V.countP (aIm (mput seen d true)) < V.countP (aIm seen):=by
  refine bB7 V (fun x hx=>?_) hd (by unfold aIm; rw [h]; rfl) (by unfold aIm; rw [aEv,if_pos rfl]; rfl)
  unfold aIm at hx ⊢
  rw [aEv] at hx
  split at hx
  ·cases hx
  ·exact hx
 refine (aTq p l v V hV hl (mput seen d true) (cyc++[d]) ((mget v.2 d).getD 0) (hV d) (by simp; omega)).imp ?_
 rintro r ⟨t,h1,h2,_⟩
 exact ⟨d :: t,by rw [h1]; simp,h2,fun _=>⟨t,rfl⟩⟩
termination_by V.countP (aIm seen)
theorem aSo (p : GPlan) (v : List Int × List (Int × Int)) (h1 : v.1.length ≤ 3200) (h2 : v.2.length ≤ 3200) (h3 : ∀ d ∈ v.1,qY p d) (i : Nat) (hi : i ≤ v.1.length) (l : List (List Int)) (m : List (Int × Bool)) (hl : l.length ≤ i) (hc : ∀ c ∈ l,c.length ≤ 10000∧∃ d t,c=d :: t∧qY p d) :
  Tot (fun n k=>lI n v p k l m (i : Int)) fun r=>r.1.length ≤ 3200∧∀ c ∈ r.1,c.length ≤ 10000∧∃ d t,c=d :: t∧qY p d:=by
 have hsl:=aGn v.1
 refine Tot.lp (fun _ _=>rfl) (Tot.rng (fun d hx hlt=>?_) (fun hge=>Tot.ret ⟨by show l.length ≤ _; omega,hc⟩))
 rw [eW (by omega)]
 have hdm : d ∈ v.1:=(aVw v.1).mem_iff.1 (List.mem_of_getElem? hx)
 refine Tot.cnd (fun _=>aSo p v h1 h2 h3 (i + 1) (by omega) l m (by omega) hc) fun hs=>Tot.prd ?_
 have hV : ∀ k,(mget v.2 k).getD 0 ∈ (d :: 0 :: v.2.map Prod.snd):=by
  intro k
  cases hk : mget v.2 k with
  | none=>simp
  | some w=>exact List.mem_cons_of_mem _ (List.mem_cons_of_mem _ (bAp hk))
 have hle : (d :: 0 :: v.2.map Prod.snd).countP (aIm m) ≤ (d :: 0 :: v.2.map Prod.snd).length:=List.countP_le_length
 have hlen : (d :: 0 :: v.2.map Prod.snd).length=v.2.length + 2:=by simp
 refine Tot.bnd (Tot.dg (aTq p l v (d :: 0 :: v.2.map Prod.snd) hV (by omega) m [] d (List.mem_cons_self ..) (by simp only [List.length_nil]; omega))) fun r hr=>Tot.bndc (aJm (by omega)) ?_
 obtain ⟨t,g1,g2,g3⟩:=hr
 obtain ⟨t',rfl⟩:=g3 hs
 refine Tot.sh2 (f:=fun n m=>lI n v p m (l++[r.2]) r.1 ((i + 1 : Nat) : Int)) (aSo p v h1 h2 h3 (i + 1) (by omega) _ _ (by simp; omega) ?_)
 intro c hcm
 rcases List.mem_append.1 hcm with hcm | hcm
 ·exact hc c hcm
 ·rw [List.mem_singleton.1 hcm]; exact ⟨g2,d,t',by simpa using g1,h3 d hdm⟩
termination_by v.1.length - i
decreasing_by all_goals (have:=aGn v.1; omega)
def bIn (p : GPlan) (l : List (List Int)) : Prop:=l.length ≤ 3200∧∀ c ∈ l,c.length ≤ 10000∧∃ d t,c=d :: t∧qY p d
theorem bBh (p : GPlan) (hp : Sm p) : Tot (fun n _=>aCg n p) fun r=>r.2=0→Valid p∧bIn p r.1:=by
 refine Tot.fn (fun _=>rfl) (Tot.bnd (bFb p hp) fun c hc=>Tot.cnd (fun h=>Tot.ret fun h2=>?_) fun h=>?_)
 ·rw [show c=0 from h2] at h; simp at h
 ·have hv:=hc (by simpa using h)
  refine Tot.bnd (Tot.dg (aZh p hp hv 0 (by omega) [] [] (by simp) (by simp) (by simp))) fun v hw=>Tot.prd (Tot.bndc (aPr (decide_eq_true (by have:=hw.1; omega))) (Tot.bnd (Tot.sh (f:=fun n=>lI n v p n [] ([] : List (Int × Bool)) 0) (Tot.dg (aSo p v hw.1 hw.2.1 hw.2.2 0 (by omega) [] [] (by simp) (by simp)))) fun r hr=>Tot.ret fun _=>⟨hv,hr⟩))
structure PathsOK (p : GPlan) (m : List (Int × List GPoint)) : Prop where
 has : ∀ a ∈ p.Arcs,∃ l,mget m a.ID=some l∧2 ≤ l.length
 len : ∀ k l,mget m k=some l→l.length ≤ 14
theorem aS5 (p : GPlan) (hp : Sm p) (hv : Valid p) (i : Nat) (m : List (Int × List GPoint)) (h1 : ∀ (j : Nat) (a : GArc),j < i→p.Arcs[j]? = some a→∃ l,mget m a.ID=some l∧2 ≤ l.length) (h2 : ∀ k l,mget m k=some l→l.length ≤ 14) : Tot (fun n k=>lN n p k m (i : Int)) fun r=>PathsOK p r:=by
 have ha:=hp.a
 refine Tot.lp (fun _ _=>rfl) (Tot.rng (fun x hx hlt=>Tot.bnd (aUg p hp x.ID) fun w hw=>Tot.cnd (fun _=>?_) fun h=>?_) (fun hge=>Tot.ret ⟨Upto.fin (l:=p.Arcs) (i:=i) (Q:=fun (a : GArc)=>∃ l,mget m a.ID=some l∧2 ≤ l.length) h1 hge,h2⟩))
 ·rw [eW (by omega)]
  subst hw
  refine aS5 p hp hv (i + 1) _ (fun j a hj haj=>?_) fun k l hk=>?_
  ·rw [aEv]
   by_cases he : x.ID=a.ID
   ·rw [if_pos he]; exact ⟨_,rfl,aB7 (hv.pth x (List.mem_of_getElem? hx)).1⟩
   ·rw [if_neg he]
    refine h1 j a ?_ haj
    rcases Nat.lt_or_ge j i with h | h
    ·exact h
    ·have : j=i:=by omega
     subst this; rw [hx] at haj; cases haj; exact absurd rfl he
  ·rw [aEv] at hk
   split at hk
   ·cases hk; exact aEu p hp _
   ·exact h2 k l hk
 ·subst hw
  rw [(hv.pth x (List.mem_of_getElem? hx)).1] at h; simp at h
termination_by p.Arcs.length - i
theorem aWj (p : GPlan) (hp : Sm p) (hv : Valid p) : Tot (fun n _=>xK n p) fun r=>PathsOK p r :=
 Tot.fn (fun _=>rfl) (Tot.bnd (Tot.dg (aS5 p hp hv 0 [] (fun j a h=>by omega) (fun k l h=>by cases h))) fun r hr=>Tot.ret hr)
end Go.Proofs.YtapabkfjeiknbaaGreat.Av
namespace Go.Proofs.YtapabkfjeiknbaaGreat.Av
open Go
theorem aUe (p : GPlan) (hp : Sm p) (d : Int) : Tt (fun n _=>aBs n p d) :=
 Tot.fn (fun _=>rfl) (Tot.cnd (fun _=>Tot.ret trivial) fun _=>Tot.cnd (fun _=>Tot.ret trivial) fun _=>Tot.bnd (bIo p hp _) fun _ _=>Tot.cnd (fun _=>Tot.ret trivial) fun _=>Tot.ret trivial)
theorem aOj (p : GPlan) (hp : Sm p) (d : Int) : Tt (fun n _=>aBt n p d) :=
 Tot.fn (fun _=>rfl) (Tot.bnd (aUe p hp d) fun _ _=>Tot.cnd (fun _=>Tot.cnd (fun _=>Tot.ret trivial) fun _=>Tot.ret trivial) fun _=>Tot.ret trivial)
theorem aY8 (q x : Int) (v : List GPoint × Int) (c : List Int) (r : Int) (p : GPlan) (w : GArc × Bool) (h2 : 2 ≤ v.1.length) (hl : v.1.length ≤ 100) (i : Nat) (s : Int) : Tt (fun n m=>vA n q x v c r p w m s (i : Int)):=by
 have e1 : IntKind.i64.wrap (((v.1.length : Nat) : Int) - 1)=((v.1.length - 1 : Nat) : Int):=by rw [i64_in _ (by omega)]; omega
 refine Tot.lp (fun _ _=>rfl) (Tot.cnd (fun h=>?_) (fun h=>Tot.ret trivial))
 have hlt : i < v.1.length - 1:=by rw [e1] at h; have:=of_decide_eq_true h; omega
 rw [eW (by omega)]
 exact Tot.bndc (x:=v.1[i]) (by rw [nM]; exact List.getElem?_eq_getElem (by omega)) (Tot.bndc (x:=v.1[i + 1]) (by rw [nM]; exact List.getElem?_eq_getElem (by omega)) (aY8 q x v c r p w h2 hl (i + 1) _))
termination_by v.1.length - i
theorem aSl (p : GPlan) (hp : Sm p) (c : List Int) (hc : c.length ≤ 512) (i : Nat) (s : Int) : Tot (fun n m=>rD n c p m (i : Int) s) (Su (fun _=>True) fun _=>True) :=
 Tot.lp (fun _ _=>rfl) (Tot.rng (fun d hx hlt=>Tot.bnd (aUe p hp d) fun w _=>Tot.cnd (fun _=>Tot.bnd (aUg p hp _) fun v hv=>Tot.cnd (fun _=>Tot.ret trivial) fun b=>by
   rw [eW (by omega)]
   have hv2 : v.2=0:=by simpa using b
   refine Tot.bnd (Tot.dg (aY8 s d v c (i : Int) p w (by rw [hv] at hv2 ⊢; exact aB7 hv2) (by rw [hv]; have:=aEu p hp (imax d (IntKind.i64.wrap (0 - d))); omega) 0 0)) fun t _=>Tot.cnd (fun _=>aSl p hp c hc (i + 1) _) fun _=>aSl p hp c hc (i + 1) _) fun _=>Tot.ret trivial)
  (fun hge=>Tot.ret trivial))
termination_by c.length - i
theorem aY7 (p : GPlan) (hp : Sm p) (c : List Int) : Tt (fun n _=>aEl n p c) :=
 Tot.fn (fun _=>rfl) (Tot.cnd (fun _=>Tot.ret trivial) fun h=>Tot.bnd2 (Tot.dg (aSl p hp c (by have:=of_decide_eq_false h; omega) 0 0)) (fun _ _=>Tot.ret trivial) fun _ _=>Tot.ret trivial)
theorem bA3 (a : GPoint) (b c : Bool) (x y : GPoint) : Tt (fun n _=>iL n a b c x y):=by
 unfold iL
 repeat' first
  | exact Tot.ret trivial
  | refine Tot.cnd (fun _=>?_) (fun _=>?_)
  | refine Tot.bnd (aOk _ _ _) (fun _ _=>?_)
theorem bA2 (a : GPoint) (b c : Bool) (x y : GPoint) : Tt (fun n _=>iK n a b c x y):=by
 unfold iK
 repeat' first
  | exact Tot.ret trivial
  | refine Tot.cnd (fun _=>?_) (fun _=>?_)
  | refine Tot.bnd (aOk _ _ _) (fun _ _=>?_)
theorem aYi (m : List (Int × List GPoint)) (hm : ∀ k l,mget m k=some l→l.length ≤ 14) (x : Int) (c : List Int) (q : Int) (a : GPoint) (i : Nat) (hi : 1 ≤ i) (b1 b2 : Bool) : Tt (fun n k=>eU n m x c q a k b1 b2 (i : Int)):=by
 have hl : ((mget m (imax x (IntKind.i64.wrap (0 - x)))).getD []).length ≤ 14:=by
  cases h : mget m (imax x (IntKind.i64.wrap (0 - x))) with
  | none=>simp
  | some l=>exact hm _ l h
 refine Tot.lp (fun _ _=>rfl) (Tot.cnd (fun h=>?_) fun _=>Tot.ret trivial)
 have hlt : i < ((mget m (imax x (IntKind.i64.wrap (0 - x)))).getD []).length:=by have:=of_decide_eq_true h; omega
 have e1 : IntKind.i64.wrap ((i : Int) - 1)=((i - 1 : Nat) : Int):=by rw [i64_in _ (by omega)]; omega
 rw [eW (by omega),e1]
 have ih : ∀ c1 c2,Tt (fun n k=>eU (n + 1) m x c q a k c1 c2 ((i + 1 : Nat) : Int)):=fun c1 c2=>Tot.sh2 (f:=fun n k=>eU n m x c q a k c1 c2 ((i + 1 : Nat) : Int)) (aYi m hm x c q a (i + 1) (by omega) c1 c2)
 obtain ⟨y1,hy1⟩ : ∃ y,((mget m (imax x (IntKind.i64.wrap (0 - x)))).getD [])[i - 1]? = some y:=⟨_,List.getElem?_eq_getElem (Nat.lt_of_le_of_lt (Nat.sub_le _ _) hlt)⟩
 obtain ⟨y2,hy2⟩ : ∃ y,((mget m (imax x (IntKind.i64.wrap (0 - x)))).getD [])[i]? = some y:=⟨_,List.getElem?_eq_getElem hlt⟩
 refine Tot.bndc (x:=y1) (by rw [nM]; exact hy1) (Tot.bndc (x:=y2) (by rw [nM]; exact hy2) (Tot.prd (Tot.bnd (aZa _ _ _) fun _ _=>Tot.cnd (fun _=>ih _ _) fun _=>Tot.bnd (bA3 _ _ _ _ _) fun _ _=>Tot.cnd (fun _=>ih _ _) fun _=>Tot.bnd (bA2 _ _ _ _ _) fun _ _=>Tot.cnd (fun _=>ih _ _) fun _=>ih _ _)))
termination_by 15 - i
decreasing_by all_goals omega
theorem aSj (m : List (Int × List GPoint)) (hm : ∀ k l,mget m k=some l→l.length ≤ 14) (c : List Int) (hc : c.length ≤ 10000) (a : GPoint) (i : Nat) (b1 b2 : Bool) : Tt (fun n k=>gS n m c a k b1 b2 (i : Int)) :=
 Tot.lp (fun _ _=>rfl) (Tot.rng (fun d hx hlt=>by
   rw [eW (by omega)]
   exact Tot.cnd (fun _=>Tot.bnd (Tot.dg (aYi m hm d c (i : Int) a 1 (by omega) b1 b2)) fun _ _=>aSj m hm c hc a (i + 1) _ _) fun _=>Tot.bnd (Q:=fun _=>True) (Tot.dg (f:=fun n k=>iY n m c (i : Int) a b1 b2 k) (Tot.lp (fun _ _=>rfl) (Tot.ret trivial))) fun _ _=>aSj m hm c hc a (i + 1) _ _)
  (fun hge=>Tot.ret trivial))
termination_by c.length - i
theorem aYh (m : List (Int × List GPoint)) (hm : ∀ k l,mget m k=some l→l.length ≤ 14) (c : List Int) (hc : c.length ≤ 10000) (a : GPoint) : Tt (fun n _=>kM n m c a) :=
 Tot.fn (fun _=>rfl) (Tot.prd (Tot.bnd (Tot.dg (aSj m hm c hc a 0 false false)) fun _ _=>Tot.cnd (fun _=>Tot.ret trivial) fun _=>Tot.ret trivial))
theorem aU9 (m : List (Int × List GPoint)) (hm : ∀ k l,mget m k=some l→l.length ≤ 14) (l : List GareaV) (hl : ∀ x ∈ l,x.outer.length ≤ 10000) (a : GPoint) (b i : Nat) (hb : b < l.length) (hi : i < l.length) : Tt (fun n _=>nQ n m l (b : Int) (i : Int) a):=by
 have e1 : idx l (i : Int)=some l[i]:=by rw [nM]; exact List.getElem?_eq_getElem hi
 have e2 : idx l (b : Int)=some l[b]:=by rw [nM]; exact List.getElem?_eq_getElem hb
 exact Tot.cnd (fun _=>Tot.bndc e1 (Tot.bnd (aYh m hm _ (hl _ (List.getElem_mem hi)) a) fun _ _=>Tot.cnd (fun _=>Tot.ret trivial) fun _=>Tot.ret trivial)) fun _=>Tot.bndc e1 (Tot.bndc e2 (Tot.cnd (fun _=>Tot.bnd (aYh m hm _ (hl _ (List.getElem_mem hi)) a) fun _ _=>Tot.cnd (fun _=>Tot.ret trivial) fun _=>Tot.ret trivial) fun _=>Tot.ret trivial))
theorem aLa (m : List (Int × List GPoint)) (hm : ∀ k l,mget m k=some l→l.length ≤ 14) (l : List GareaV) (hl : ∀ x ∈ l,x.outer.length ≤ 10000) (hn : l.length ≤ 10000) (a : GPoint) (b i : Nat) (hb : b < l.length) : Tot (fun n k=>jS n m l a k (b : Int) (i : Int)) fun r=>0 ≤ r∧r.toNat < l.length :=
 Tot.lp (fun _ _=>rfl) (Tot.cnd (fun h=>by
   have hlt : i < l.length:=by have:=of_decide_eq_true h; omega
   rw [eW (by omega)]
   exact Tot.bnd (aU9 m hm l hl a b i hb hlt) fun _ _=>Tot.cnd (fun _=>aLa m hm l hl hn a i (i + 1) hlt) fun _=>aLa m hm l hl hn a b (i + 1) hb)
  (fun hge=>Tot.ret (show 0 ≤ (b : Int)∧(b : Int).toNat < l.length from ⟨by omega,by simpa using hb⟩)))
termination_by l.length - i
theorem aX5 (m : List (Int × List GPoint)) (hm : ∀ k l,mget m k=some l→l.length ≤ 14) (l : List GareaV) (hl : ∀ x ∈ l,x.outer.length ≤ 10000) (hn : l.length ≤ 10000) (h0 : 0 < l.length) (a : GPoint) : Tot (fun n _=>nW n m l a) fun r=>0 ≤ r∧r.toNat < l.length :=
 Tot.fn (fun _=>rfl) (Tot.bnd (Tot.dg (aLa m hm l hl hn a 0 1 h0)) fun r hr=>Tot.ret hr)
theorem aSn (p : GPlan) (hp : Sm p) (id : Int) (i : Nat) (s : Int) : Tt (fun n m=>pY n id p m (i : Int) s) :=
 Tot.lp (fun _ _=>rfl) (Tot.rng (fun d hx hlt=>by
   rw [eW (by have:=hp.a; omega)]
   refine Tot.bnd (Q:=fun _=>True) ?_ fun _ _=>Tot.cnd (fun _=>aSn p hp id (i + 1) _) fun _=>aSn p hp id (i + 1) _
   exact Tot.cnd (fun _=>Tot.ret trivial) fun _=>Tot.ret trivial)
  (fun hge=>Tot.ret trivial))
termination_by p.Arcs.length - i
theorem aZf (p : GPlan) (hp : Sm p) (id : Int) : Tt (fun n _=>xD n p id) :=
 Tot.fn (fun _=>rfl) (Tot.bnd (Tot.dg (aSn p hp id 0 0)) fun _ _=>Tot.ret trivial)
structure ArOK (l : List Garea) (b c : Nat) : Prop where
 al : ∀ a ∈ l,a.alone.length ≤ c
 l1 : 1 ≤ l.length
 l2 : l.length ≤ 4000
 ou : ∀ a ∈ l,a.outer.length ≤ 10000
 inn : ∀ a ∈ l,a.inner.length ≤ b∧∀ c ∈ a.inner,c.length ≤ 10000
 ne : ∀ (i : Nat) (a : Garea),1 ≤ i→l[i]? = some a→a.outer ≠ []
theorem bEs (p : GPlan) (hp : Sm p) : ∀ (cs : List (List Int)) (l : List Garea) (q : List (List Int)),ArOK l 0 0→l.length + cs.length ≤ 4000→(∀ c ∈ cs,c.length ≤ 10000∧∃ d t,c=d :: t∧qY p d)→(∀ c ∈ q,c.length ≤ 10000∧∃ d t,c=d :: t∧qY p d) →
  Tot (fun n _=>dv1 n p cs l q) fun r=>ArOK r.1 0 0∧r.2.length ≤ q.length + cs.length∧∀ c ∈ r.2,c.length ≤ 10000∧∃ d t,c=d :: t∧qY p d
 | [],l,q,hl,_,_,hq=>Tot.ret (x:=(l,q)) (And.intro hl (And.intro (by simp) hq))
 | c :: cs,l,q,hl,hn,hc,hq=>by
  have hcc:=hc c (List.mem_cons_self ..)
  have hcs : ∀ c ∈ cs,c.length ≤ 10000∧∃ d t,c=d :: t∧qY p d:=fun c h=>hc c (List.mem_cons_of_mem _ h)
  simp only [List.length_cons] at hn
  obtain ⟨hc1,d,t',hct,hdt⟩:=hcc
  refine Tot.bnd (aY7 p hp c) fun t _=>Tot.cnd (fun _=>Tot.bndc (aPr (by rw [hct]; rfl)) ?_) fun _=>?_
  ·refine Tot.imp (bEs p hp cs (l++[⟨t,c,[],[]⟩]) q ⟨?_,by simp,by simp; omega,?_,?_,?_⟩ (by simp; omega) hcs hq) ?_
   ·intro a ha
    rcases List.mem_append.1 ha with ha | ha
    ·exact hl.al a ha
    ·rw [List.mem_singleton.1 ha]; exact Nat.le_refl _
   ·intro a ha
    rcases List.mem_append.1 ha with ha | ha
    ·exact hl.ou a ha
    ·rw [List.mem_singleton.1 ha]; exact hc1
   ·intro a ha
    rcases List.mem_append.1 ha with ha | ha
    ·exact hl.inn a ha
    ·rw [List.mem_singleton.1 ha]; exact ⟨Nat.le_refl _,fun c h=>by cases h⟩
   ·intro i a hi ha
    rcases Nat.lt_or_ge i l.length with h | h
    ·rw [List.getElem?_append_left h] at ha; exact hl.ne i a hi ha
    ·rw [List.getElem?_append_right h] at ha
     have : a=⟨t,c,[],[]⟩:=by
      have:=List.mem_of_getElem? ha; exact List.mem_singleton.1 this
     rw [this,hct]; simp
   ·intro r hr
    exact ⟨hr.1,by have:=hr.2.1; simp only [List.length_cons]; omega,hr.2.2⟩
  ·refine Tot.imp (bEs p hp cs l (q++[c]) hl (by omega) hcs ?_) ?_
   ·intro e he
    rcases List.mem_append.1 he with he | he
    ·exact hq e he
    ·rw [List.mem_singleton.1 he]; exact ⟨hc1,d,t',hct,hdt⟩
   ·intro r hr
    exact ⟨hr.1,by have:=hr.2.1; simp only [List.length_cons,List.length_append,List.length_nil] at this ⊢; omega,hr.2.2⟩
theorem aY3 {l : List Garea} {b c : Nat} (h : ArOK l b c) : ∀ x ∈ l.map arV,x.outer.length ≤ 10000:=by
 intro x hx
 obtain ⟨a,ha,rfl⟩:=List.mem_map.1 hx
 exact h.ou a ha
theorem ArOK.set {l : List Garea} {b b' c c' : Nat} {i : Nat} {a a' : Garea} (h : ArOK l b c) (ha : l[i]? = some a) (ho : a'.outer=a.outer) (hb : b ≤ b') (hi : a'.inner.length ≤ b'∧∀ c ∈ a'.inner,c.length ≤ 10000) (hc : c ≤ c') (hal : a'.alone.length ≤ c') : ArOK (l.set i a') b' c':=by
 have g : ∀ x ∈ l.set i a',x=a' ∨ x ∈ l:=fun x hx=>(List.mem_or_eq_of_mem_set hx).symm
 refine ⟨?_,by rw [List.length_set]; exact h.l1,by rw [List.length_set]; exact h.l2,?_,?_,?_⟩
 ·intro x hx
  rcases g x hx with rfl | hx
  ·exact hal
  ·exact Nat.le_trans (h.al x hx) hc
 ·intro x hx
  rcases g x hx with rfl | hx
  ·rw [ho]; exact h.ou a (List.mem_of_getElem? ha)
  ·exact h.ou x hx
 ·intro x hx
  rcases g x hx with rfl | hx
  ·exact hi
  ·exact ⟨Nat.le_trans (h.inn x hx).1 hb,(h.inn x hx).2⟩
 ·intro j x hj hx
  rw [List.getElem?_set] at hx
  split at hx
  ·rename_i hij
   subst hij
   split at hx
   ·cases hx; rw [ho]; exact h.ne i a hj ha
   ·cases hx
  ·exact h.ne j x hj hx
theorem bF8 (p : GPlan) (hp : Sm p) (hv : Valid p) (m : List (Int × List GPoint)) (hm : PathsOK p m) : ∀ (cs : List (List Int)) (l : List Garea) (b : Nat),ArOK l b 0→(∀ c ∈ cs,c.length ≤ 10000∧∃ d t,c=d :: t∧qY p d)→Tot (fun n _=>dv2 n m cs l) fun r=>ArOK r (b + cs.length) 0
 | [],l,b,hl,_=>Tot.ret hl
 | c :: cs,l,b,hl,hc=>by
  obtain ⟨hc1,d,t',rfl,a,ha,hd⟩:=hc c (List.mem_cons_self ..)
  have hnu:=hv.nuA a ha
  have e1 : imax d (IntKind.i64.wrap (0 - d))=a.ID:=by
   rw [i64_in _ (by omega)]
   unfold imax
   split <;> omega
  obtain ⟨w,hw,hw2⟩:=hm.has a ha
  refine Tot.bndc (x:=d) rfl (Tot.bndc (x:=w) (by rw [e1]; exact hw) (Tot.bndc (x:=w[0]'(by omega)) (by exact List.getElem?_eq_getElem (by omega)) (Tot.bnd (aX5 m hm.len (l.map arV) (aY3 hl) (by simp; have:=hl.l2; omega) (by simp; have:=hl.l1; omega) _) fun i hi=>?_)))
  have hi2 : i.toNat < l.length:=by simpa using hi.2
  refine Tot.bndc (aTm hi.1 hi2) ?_
  have ih:=bF8 p hp hv m hm cs (l.set i.toNat ⟨l[i.toNat].twice,l[i.toNat].outer,l[i.toNat].inner++[d :: t'],l[i.toNat].alone⟩) (b + 1) (hl.set (List.getElem?_eq_getElem hi2) rfl (by omega) (by
   have:=hl.inn _ (List.getElem_mem hi2)
   refine ⟨by simp; omega,fun c hcm=>?_⟩
   rcases List.mem_append.1 hcm with hcm | hcm
   ·exact this.2 c hcm
   ·rw [List.mem_singleton.1 hcm]; exact hc1) (Nat.le_refl _) (hl.al l[i.toNat] (List.getElem_mem hi2))) fun c h=>hc c (List.mem_cons_of_mem _ h)
  refine ih.imp fun r hr=>?_
  have : b + ((d :: t') :: cs).length=b + 1 + cs.length:=by simp; omega
  rw [this]; exact hr
theorem bEr (p : GPlan) (hp : Sm p) (m : List (Int × List GPoint)) (hm : PathsOK p m) (b : Nat) : ∀ (xs : List GNode) (l : List Garea) (c : Nat),ArOK l b c→Tot (fun n _=>dv3 n p m xs l) fun r=>ArOK r b (c + xs.length)
 | [],l,c,hl=>Tot.ret hl
 | x :: xs,l,c,hl=>by
  have e : c + (x :: xs).length=c + 1 + xs.length:=by simp; omega
  rw [e]
  refine Tot.bnd (aZf p hp x.ID) fun d _=>Tot.cnd (fun _=>Tot.bnd (aX5 m hm.len (l.map arV) (aY3 hl) (by simp; have:=hl.l2; omega) (by simp; have:=hl.l1; omega) _) fun i hi=>?_) fun _=>bEr p hp m hm b xs l (c + 1) ⟨fun a ha=>Nat.le_succ_of_le (hl.al a ha),hl.l1,hl.l2,hl.ou,hl.inn,hl.ne⟩
  have hi2 : i.toNat < l.length:=by simpa using hi.2
  exact Tot.bndc (aTm hi.1 hi2) (bEr p hp m hm b xs _ (c + 1) (hl.set (List.getElem?_eq_getElem hi2) rfl (Nat.le_refl _) (hl.inn l[i.toNat] (List.getElem_mem hi2)) (Nat.le_succ _) (by have:=hl.al l[i.toNat] (List.getElem_mem hi2); simp; omega)))
theorem Tot.grdn {α : Type} {P : α→Prop} {c : Nat→Bool} {g : Nat→Nat→Option α} (K : Nat) (hc : ∀ n,K ≤ n→c n=true) (h : Tot g P) : Tot (fun n m=>Go.Proofs.YtapabkfjeiknbaaGreat.Av.bnd (grd (c n)) (fun _=>g n m)) P:=by
 obtain ⟨r,hr,J,hJ⟩:=h
 refine ⟨r,hr,max K J,fun n m hn hm=>?_⟩
 show Go.Proofs.YtapabkfjeiknbaaGreat.Av.bnd (grd (c n)) (fun _=>g n m)=some r
 rw [hc n (by omega)]
 exact hJ n m (by omega) (by omega)
theorem bA5 (p : GPlan) (hp : Sm p) (hv : Valid p) (cs : List (List Int)) (hc : bIn p cs) (m : List (Int × List GPoint)) (hm : PathsOK p m) : Tot (fun n _=>zN n p cs m) fun r=>ArOK r 3200 40:=by
 have hn:=hp.n
 have hcl:=hc.1
 refine Tot.fn (fun _=>rfl) (Tot.grdn (c:=fun n=>decide (cs.length < n∧p.Nodes.length < n∧cs.length ≤ 100000∧p.Nodes.length ≤ 100000)) 4000 (fun n h=>decide_eq_true (by omega)) ?_)
 refine Tot.bnd (bEs p hp cs [⟨0,[],[],[]⟩] [] ⟨by simp,by simp,by simp,by simp,by simp,?_⟩ (by simp; omega) hc.2 (by simp)) fun q hq=>Tot.bnd (bF8 p hp hv m hm q.2 q.1 0 hq.1 hq.2.2) fun l hl=>?_
 ·intro i a hi ha
  have:=(List.getElem?_eq_some_iff.1 ha).1
  simp at this; omega
 ·have hql:=hq.2.1
  simp only [List.length_nil,Nat.zero_add] at hql
  refine Tot.imp (bEr p hp m hm 3200 p.Nodes l 0 ⟨hl.al,hl.l1,hl.l2,hl.ou,fun a ha=>⟨by have:=(hl.inn a ha).1; omega,(hl.inn a ha).2⟩,hl.ne⟩) fun r hr=>⟨fun a ha=>by have:=hr.al a ha; omega,hr.l1,hr.l2,hr.ou,hr.inn,hr.ne⟩
end Go.Proofs.YtapabkfjeiknbaaGreat.Av
namespace Go.Proofs.YtapabkfjeiknbaaGreat.Av
open Go
theorem bF9 (a : Garea) (h : a.inner.length ≤ 5000) : Tot (fun n _=>mV n a) fun r=>r=a.outer :: a.inner :=
 Tot.fn (fun _=>rfl) (Tot.bndc (aM2 (l:=[a.outer]) (m:=a.inner) (by simp; omega)) (Tot.ret rfl))
section
variable (p : GPlan) (hp : Sm p) (lf : List Int) (v : Int) (l : List Garea) (q : Int) (cy : List (List Int)) (sn : List (Int × Bool)) (ar : Garea)
include hp
theorem aX6 (z : Int) (c : List Int) (hc : c.length ≤ 10000) (i : Nat) : Tot (fun n m=>qQ n lf v l q cy z c p sn ar m (i : Int)) (Su (fun _=>True) fun _=>True) :=
 Tot.lp (fun _ _=>rfl) (Tot.rng (fun d hx hlt=>Tot.bnd (aOj p hp d) fun _ _=>by
   rw [eW (by omega)]
   exact Tot.cnd (fun _=>Tot.ret trivial) fun _=>aX6 z c hc (i + 1))
  (fun hge=>Tot.ret trivial))
termination_by c.length - i
theorem aX7 (hn : cy.length ≤ 10000) (hc : ∀ c ∈ cy,c.length ≤ 10000) (i : Nat) : Tot (fun n m=>qR n lf v l q cy p sn ar m (i : Int)) (Su (fun _=>True) fun _=>True) :=
 Tot.lp (fun _ _=>rfl) (Tot.rng (fun c hx hlt=>Tot.bnd2 (Tot.dg (aX6 p hp lf v l q cy sn ar (i : Int) c (hc c (List.mem_of_getElem? hx)) 0)) (fun _ _=>Tot.ret trivial) fun _ _=>by
   rw [eW (by omega)]
   exact aX7 hn hc (i + 1))
  (fun hge=>Tot.ret trivial))
termination_by cy.length - i
theorem aTu (z : Int) (c : List Int) (hc : c.length ≤ 10000) (i : Nat) : Tot (fun n m=>nZ n lf l q cy z c p sn ar m (i : Int)) (Su (fun _=>True) fun _=>True) :=
 Tot.lp (fun _ _=>rfl) (Tot.rng (fun d hx hlt=>Tot.bnd (aOj p hp d) fun _ _=>by
   rw [eW (by omega)]
   exact Tot.cnd (fun _=>Tot.ret trivial) fun _=>aTu z c hc (i + 1))
  (fun hge=>Tot.ret trivial))
termination_by c.length - i
theorem aTv (hn : cy.length ≤ 10000) (hc : ∀ c ∈ cy,c.length ≤ 10000) (i : Nat) : Tot (fun n m=>oA n lf l q cy p sn ar m (i : Int)) (Su (fun _=>True) fun _=>True) :=
 Tot.lp (fun _ _=>rfl) (Tot.rng (fun c hx hlt=>Tot.bnd2 (Tot.dg (aTu p hp lf l q cy sn ar (i : Int) c (hc c (List.mem_of_getElem? hx)) 0)) (fun _ _=>Tot.ret trivial) fun _ _=>by
   rw [eW (by omega)]
   exact aTv hn hc (i + 1))
  (fun hge=>Tot.ret trivial))
termination_by cy.length - i
end
theorem aSe (p : GPlan) (hp : Sm p) (l : List Garea) (hl : ArOK l 3200 40) (i : Nat) (hi : i ≤ l.length) (lf : List Int) (sn : List (Int × Bool)) (hlf : lf.length=i) : Tot (fun n m=>oD n l p m lf sn (i : Int)) (Su (fun _=>True) fun r=>r.1.length=l.length):=by
 have h2:=hl.l2
 refine Tot.lp (fun _ _=>rfl) (Tot.rng (fun a hx hlt=>?_) (fun hge=>Tot.ret (show lf.length=l.length by omega)))
 have ham:=List.mem_of_getElem? hx
 have hin:=hl.inn a ham
 have hou:=hl.ou a ham
 have hcy : ∀ w,w=a.outer :: a.inner→w.length ≤ 10000∧∀ c ∈ w,c.length ≤ 10000:=by
  rintro w rfl
  refine ⟨by simp; omega,fun c hc=>?_⟩
  rcases List.mem_cons.1 hc with rfl | hc
  ·exact hou
  ·exact hin.2 c hc
 rw [eW (by omega)]
 refine Tot.cnd (fun b=>?_) fun b=>?_
 ·have hi1 : 1 ≤ i:=by have:=of_decide_eq_true b; omega
  have hne:=hl.ne i a hi1 hx
  obtain ⟨d,t,hdt⟩ : ∃ d t,a.outer=d :: t:=by
   cases h : a.outer with
   | nil=>exact absurd h hne
   | cons d t=>exact ⟨d,t,rfl⟩
  refine Tot.bndc (x:=d) (by rw [hdt]; rfl) (Tot.bnd (aOj p hp d) fun v _=>Tot.bnd (Q:=fun _=>True) ?_ fun _ _=>Tot.cnd (fun _=>Tot.ret trivial) fun _=>Tot.bnd (bF9 a (by omega)) fun w hw=>Tot.bnd2 (Tot.dg (aX7 p hp lf v l (i : Int) w sn a (hcy w hw).1 (hcy w hw).2 0)) (fun _ _=>Tot.ret trivial) fun _ _=>Tot.bndc (aJm (by omega)) (aSe p hp l hl (i + 1) (by omega) _ _ (by simp; omega)))
  unfold vH
  repeat' first
   | exact Tot.ret trivial
   | refine Tot.cnd (fun _=>?_) (fun _=>?_)
 ·exact Tot.bnd (bF9 a (by omega)) fun w hw=>Tot.bnd2 (Tot.dg (aTv p hp lf l (i : Int) w sn a (hcy w hw).1 (hcy w hw).2 0)) (fun _ _=>Tot.ret trivial) fun _ _=>Tot.bndc (aJm (by omega)) (aSe p hp l hl (i + 1) (by omega) _ _ (by simp; omega))
termination_by l.length - i
theorem bEm (p : GPlan) (hp : Sm p) (l : List Garea) (hl : ArOK l 3200 40) : Tot (fun n _=>aAz n p l) fun r=>r.2=true→r.1.length=l.length :=
 Tot.fn (fun _=>rfl) (Tot.bnd2 (Tot.dg (aSe p hp l hl 0 (by omega) [] [] rfl)) (fun _ _=>Tot.ret (by simp)) fun r hr=>Tot.cnd (fun _=>Tot.ret fun _=>hr) fun _=>Tot.ret fun _=>hr)
def SzR (o : List Int) (i : List (List Int)) (a : List Int) : Prop:=o.length ≤ 10000∧(i.length ≤ 5000∧∀ c ∈ i,c.length ≤ 10000)∧a.length ≤ 10000
theorem bFl (p : GPlan) (hp : Sm p) : Tot (fun n _=>zX n p) fun r=>r.2.2.2=0→r.2.1.length=r.1.length∧r.1.length ≤ 4000∧∀ a ∈ r.1,SzR a.outer a.inner a.alone:=by
 refine Tot.fn (fun _=>rfl) (Tot.bnd (bBh p hp) fun c hc=>Tot.cnd (fun b=>Tot.ret fun h=>?_) fun b=>?_)
 ·rw [show c.2=0 from h] at b; simp at b
 ·obtain ⟨hv,hcy⟩:=hc (by simpa using b)
  exact Tot.bnd (aWj p hp hv) fun m hm=>Tot.bnd (bA5 p hp hv c.1 hcy m hm) fun l hl=>Tot.bnd (bEm p hp l hl) fun f hf=>Tot.cnd (fun b=>Tot.ret fun _=>⟨hf b,hl.l2,fun a ha=>⟨hl.ou a ha,⟨by have:=(hl.inn a ha).1; omega,(hl.inn a ha).2⟩,by have:=hl.al a ha; omega⟩⟩) fun _=>Tot.ret fun h=>by cases h
theorem aY9 (v : List Garea × List Int × Unit × Int) (p : GPlan) (h1 : v.2.1.length=v.1.length) (h2 : v.1.length ≤ 4000) (h3 : ∀ a ∈ v.1,SzR a.outer a.inner a.alone) (i : Nat) (l : List GRegion) (hl : l.length ≤ i) (hs : ∀ r ∈ l,SzR r.Outer r.Inner r.Alone) (hi : i ≤ v.1.length) : Tot (fun n m=>oG n v p m l (i : Int)) fun r=>r.length ≤ 4000∧∀ x ∈ r,SzR x.Outer x.Inner x.Alone:=by
 refine Tot.lp (fun _ _=>rfl) (Tot.rng (fun a hx hlt=>?_) (fun hge=>Tot.ret ⟨by omega,hs⟩))
 obtain ⟨y,hy⟩ : ∃ y,v.2.1[i]? = some y:=⟨_,List.getElem?_eq_getElem (by omega)⟩
 rw [eW (by omega)]
 exact Tot.bndc (by rw [nM]; exact hy) (Tot.bndc (aJm (by omega)) (aY9 v p h1 h2 h3 (i + 1) _ (by simp; omega) (by
  intro r hr
  rcases List.mem_append.1 hr with hr | hr
  ·exact hs r hr
  ·rw [List.mem_singleton.1 hr]; exact h3 a (List.mem_of_getElem? hx)) (by omega)))
termination_by v.1.length - i
theorem bLw (x y : GRegion) : Tot (fun n _=>lO n x y) fun r=>r=cmpV x.Face y.Face :=
 Tot.fn (fun _=>rfl) (Tot.bnd (aQv _ _) fun r hr=>Tot.ret hr)
theorem aLs (p : GPlan) (hp : Sm p) : ∃ v : List GRegion × Int,Tot (fun n _=>lJ n p) (fun r=>r=v)∧(v.1.length ≤ 4000∧∀ x ∈ v.1,SzR x.Outer x.Inner x.Alone)∧Tot (fun n _=>jH n p) fun r=>r=v.2:=by
 obtain ⟨v,hv,hT⟩:=(bFl p hp).val
 have k : Tot (fun n _=>lJ n p) fun r=>r.2=v.2.2.2∧r.1.length ≤ 4000∧∀ x ∈ r.1,SzR x.Outer x.Inner x.Alone:=by
  refine Tot.fn (fun _=>rfl) (Tot.bnd hT fun w hw=>?_)
  subst hw
  refine Tot.cnd (fun _=>Tot.ret ⟨rfl,by simp,by simp⟩) fun b=>?_
  have h0 : w.2.2.2=0:=by simpa using b
  obtain ⟨h1,h2,h3⟩:=hv h0
  exact Tot.bnd (Tot.dg (aY9 w p h1 h2 h3 0 [] (by simp) (by simp) (by omega))) fun l hl=>Tot.prd (Tot.bndc (aPr (decide_eq_true (by have:=hl.1; omega))) (Tot.bnd (aQ4 (F:=fun n x y=>lO n x y) (fun x _ y _=>bLw x y) (bBk _ _)) fun r hr=>Tot.ret ⟨by rw [h0],by show r.length ≤ _; rw [hr.1]; exact hl.1,fun x hx=>hl.2 x (hr.2 x hx)⟩))
 obtain ⟨w,hw,hT2⟩:=k.val
 exact ⟨w,hT2,hw.2,Tot.fn (fun _=>rfl) (Tot.bnd hT fun z hz=>Tot.ret (by rw [hz,hw.1]))⟩
end Go.Proofs.YtapabkfjeiknbaaGreat.Av
namespace Go.Proofs.YtapabkfjeiknbaaGreat.Av
open Go
def Pre {α β : Type} (f : α→β) (a b : List α) (i : Nat) : Prop:=∀ (j : Nat) (x y : α),j < i→a[j]? = some x→b[j]? = some y→f x=f y
theorem Pre.nil {α β : Type} {f : α→β} {a b : List α} : Pre f a b 0:=fun j x y h=>by omega
theorem Pre.step {α β : Type} {f : α→β} {a b : List α} {i : Nat} {x y : α} (h : Pre f a b i) (hx : a[i]? = some x) (hy : b[i]? = some y) (e : f x=f y) : Pre f a b (i + 1):=fun j u v hj hu hv=>by
 by_cases hji : j=i
 ·subst hji; rw [hx] at hu; rw [hy] at hv; cases hu; cases hv; exact e
 ·exact h j u v (by omega) hu hv
theorem Pre.fin {α β : Type} {f : α→β} {a b : List α} {i : Nat} (h : Pre f a b i) (hl : a.length=b.length) (hi : a.length ≤ i) : a.map f=b.map f:=by
 apply List.ext_getElem?
 intro j
 rw [List.getElem?_map,List.getElem?_map]
 rcases Nat.lt_or_ge j a.length with hj | hj
 ·rw [List.getElem?_eq_getElem hj,List.getElem?_eq_getElem (by omega)]
  exact congrArg some (h j _ _ (by omega) (List.getElem?_eq_getElem hj) (List.getElem?_eq_getElem (by omega)))
 ·rw [List.getElem?_eq_none hj,List.getElem?_eq_none (by omega)]
theorem dif {α β : Type} {f : α→β} {a b : List α} {i : Nat} {x y : α} (hx : a[i]? = some x) (hy : b[i]? = some y) (e : f x ≠ f y) : a.map f ≠ b.map f:=by
 intro h
 have h1:=congrArg (fun l=>l[i]?) h
 simp only [List.getElem?_map,hx,hy,Option.map_some,Option.some.injEq] at h1
 exact e h1
theorem aYl {α β : Type} {f : α→β} {a b : List α} (h : a.length ≠ b.length) : a.map f ≠ b.map f:=by
 intro e; exact h (by simpa using congrArg List.length e)
theorem Pre.finI {α : Type} {a b : List α} {i : Nat} (h : Pre (fun c=>c) a b i) (hl : a.length=b.length) (hi : a.length ≤ i) : a=b:=by simpa using h.fin hl hi
theorem difI {α : Type} {a b : List α} {i : Nat} {x y : α} (hx : a[i]? = some x) (hy : b[i]? = some y) (e : x ≠ y) : a ≠ b:=by simpa using dif (f:=fun c=>c) hx hy e
theorem Tot.prd1 {α : Type} {P : α→Prop} {g : Nat→Nat→Nat→Option α} (h : Tot (fun n m=>g n m n) P) : Tot (fun n m=>Go.Proofs.YtapabkfjeiknbaaGreat.Av.bnd (Go.Proofs.YtapabkfjeiknbaaGreat.Av.prd (n + 1)) (g n m)) P:=h
theorem oth {α : Type} {a b : List α} {i : Nat} (hl : a.length=b.length) (hi : i < a.length) : ∃ y,b[i]? = some y:=⟨_,List.getElem?_eq_getElem (by omega)⟩
theorem aZe (a b : List Int) (hl : a.length=b.length) (hb : a.length ≤ 100000) (i : Nat) (hp : Pre (fun c=>c) a b i) : Tot (fun n m=>mB n a b m (i : Int)) (Su (fun _=>a ≠ b) fun _=>a=b):=by
 refine Tot.lp (fun _ _=>rfl) (Tot.rng (fun x hx hlt=>?_) (fun hge=>Tot.ret (hp.finI hl hge)))
 obtain ⟨y,hy⟩:=oth hl hlt
 refine Tot.bndc (by rw [nM]; exact hy) (Tot.cnd (fun h=>Tot.ret ?_) fun h=>?_)
 ·exact difI hx hy (by simpa using h)
 ·rw [eW (by omega)]
  exact aZe a b hl hb (i + 1) (hp.step hx hy (by simpa using h))
termination_by a.length - i
theorem Eq_T (a b : List Int) (hb : a.length ≤ 100000) : Tot (fun n _=>mO n a b) fun r=>r=decide (a=b):=by
 refine Tot.fn (fun _=>rfl) (Tot.cnd (fun h=>Tot.ret ?_) fun h=>?_)
 ·have : a ≠ b:=by rintro rfl; simp at h
  rw [decide_eq_false this]
 ·have hl : a.length=b.length:=by simp at h; exact_mod_cast h
  exact Tot.bnd2 (Tot.dg (aZe a b hl hb 0 Pre.nil)) (fun _ h=>Tot.ret (decide_eq_false h).symm) fun _ h=>Tot.ret (decide_eq_true h).symm
theorem A8_T (a b : GPlan) (hl : a.Nodes.length=b.Nodes.length) (ha : a.Nodes.length ≤ 40) (i : Nat) (hp : Pre GNode.ID a.Nodes b.Nodes i) : Tot (fun n m=>mM n b a m (i : Int)) (Su (fun _=>a.Nodes.map GNode.ID ≠ b.Nodes.map GNode.ID) fun _=>a.Nodes.map GNode.ID=b.Nodes.map GNode.ID):=by
 refine Tot.lp (fun _ _=>rfl) (Tot.rng (fun x hx hlt=>?_) (fun hge=>Tot.ret (hp.fin hl hge)))
 obtain ⟨y,hy⟩:=oth hl hlt
 refine Tot.bndc (by rw [nM]; exact hy) (Tot.prd (Tot.cnd (fun h=>?_) fun h=>Tot.ret (dif hx hy (by simpa using h))))
 rw [eW (by omega)]
 exact Tot.sh2 (f:=fun n m=>mM n b a m ((i + 1 : Nat) : Int)) (A8_T a b hl ha (i + 1) (hp.step hx hy (by simpa using h)))
termination_by a.Nodes.length - i
def frV (a : GArc) : Gframe:=⟨a.ID,a.From,a.To,a.Left,a.Right⟩
theorem fr_T (a : GArc) : Tot (fun n _=>xO n a) fun r=>r=frV a:=Tot.fn (fun _=>rfl) (Tot.ret rfl)
theorem bIr (a b : GPlan) (hl : a.Arcs.length=b.Arcs.length) (ha : a.Arcs.length ≤ 40) (i : Nat) (hp : Pre frV a.Arcs b.Arcs i) : Tot (fun n m=>lM n b a m (i : Int)) (Su (fun _=>a.Arcs.map frV ≠ b.Arcs.map frV) fun _=>a.Arcs.map frV=b.Arcs.map frV):=by
 refine Tot.lp (fun _ _=>rfl) (Tot.rng (fun x hx hlt=>?_) (fun hge=>Tot.ret (hp.fin hl hge)))
 obtain ⟨y,hy⟩:=oth hl hlt
 refine Tot.bndc (by rw [nM]; exact hy) (Tot.prd (Tot.bnd (fr_T x) fun u hu=>Tot.bnd (fr_T y) fun v hv=>?_))
 subst hu hv
 refine Tot.cnd (fun h=>?_) fun h=>Tot.ret (dif hx hy (of_decide_eq_false h))
 rw [eW (by omega)]
 exact Tot.sh2 (f:=fun n m=>lM n b a m ((i + 1 : Nat) : Int)) (bIr a b hl ha (i + 1) (hp.step hx hy (of_decide_eq_true h)))
termination_by a.Arcs.length - i
theorem bIp (x y : GRegion) (a b : GPlan) (hl : x.Inner.length=y.Inner.length) (hx5 : x.Inner.length ≤ 5000∧∀ c ∈ x.Inner,c.length ≤ 10000) (i : Nat) (hp : Pre (fun c=>c) x.Inner y.Inner i) : Tot (fun n m=>lL n y x a b m (i : Int)) (Su (fun _=>x.Inner ≠ y.Inner) fun _=>x.Inner=y.Inner):=by
 refine Tot.lp (fun _ _=>rfl) (Tot.rng (fun c hx hlt=>?_) (fun hge=>Tot.ret (hp.finI hl hge)))
 obtain ⟨d,hy⟩:=oth hl hlt
 refine Tot.bndc (by rw [nM]; exact hy) (Tot.prd (Tot.bnd (Eq_T c d (by have:=hx5.2 c (List.mem_of_getElem? hx); omega)) fun r hr=>Tot.cnd (fun h=>?_) fun h=>Tot.ret ?_))
 ·rw [eW (by omega)]
  exact Tot.sh2 (f:=fun n m=>lL n y x a b m ((i + 1 : Nat) : Int)) (bIp x y a b hl hx5 (i + 1) (hp.step hx hy (of_decide_eq_true (hr ▸ h))))
 ·exact difI hx hy (of_decide_eq_false (hr ▸ h))
termination_by x.Inner.length - i
theorem bIq (v w : List GRegion × Int) (a b : GPlan) (hl : v.1.length=w.1.length) (hv : v.1.length ≤ 4000) (hs : ∀ x ∈ v.1,SzR x.Outer x.Inner x.Alone) (i : Nat) (hp : Pre (fun c=>c) v.1 w.1 i) : Tot (fun n m=>kB n w v a b m (i : Int)) (Su (fun _=>v.1 ≠ w.1) fun _=>v.1=w.1):=by
 refine Tot.lp (fun _ _=>rfl) (Tot.rng (fun x hx hlt=>?_) (fun hge=>Tot.ret (hp.finI hl hge)))
 obtain ⟨y,hy⟩:=oth hl hlt
 obtain ⟨s1,s2,s3⟩:=hs x (List.mem_of_getElem? hx)
 have bad : x ≠ y→v.1 ≠ w.1:=fun h=>by simpa using dif (f:=fun c=>c) hx hy h
 rw [eW (by omega)]
 refine Tot.bndc (by rw [nM]; exact hy) (Tot.prd (Tot.cnd (fun h1=>Tot.bnd (Eq_T x.Outer y.Outer (by omega)) fun r2 hr2=>Tot.cnd (fun h2=>Tot.bnd (Eq_T x.Alone y.Alone (by omega)) fun r3 hr3=>Tot.cnd (fun h3=>Tot.prd (Tot.cnd (fun h4=>Tot.ret (bad ?_)) fun h4=>Tot.bnd2 (Tot.dg (bIp x y a b ?_ s2 0 Pre.nil)) (fun _ h5=>Tot.ret (bad ?_)) fun _ h5=>?_)) fun h3=>Tot.ret (bad ?_)) fun h2=>Tot.ret (bad ?_)) fun h1=>Tot.ret (bad ?_)))
 ·rintro rfl; simp at h4
 ·simp at h4; exact_mod_cast h4
 ·rintro rfl; exact h5 rfl
 ·have e : x=y:=by
   have e1:=eq_of_beq h1
   have e2:=of_decide_eq_true (hr2 ▸ h2)
   have e3:=of_decide_eq_true (hr3 ▸ h3)
   cases x; cases y; simp_all
  exact Tot.sh2 (f:=fun n m=>kB (n + 1) w v a b m ((i + 1 : Nat) : Int)) (Tot.sh2 (f:=fun n m=>kB n w v a b m ((i + 1 : Nat) : Int)) (bIq v w a b hl hv hs (i + 1) (hp.step hx hy e)))
 ·rintro rfl; rw [hr3] at h3; simp at h3
 ·rintro rfl; rw [hr2] at h2; simp at h2
 ·rintro rfl; simp at h1
termination_by v.1.length - i
def alikeP (a b : GPlan) (v w : List GRegion × Int) : Prop:=v.2=0∧w.2=0∧a.Nodes.map GNode.ID=b.Nodes.map GNode.ID∧a.Arcs.map frV=b.Arcs.map frV∧v.1=w.1
theorem aLt (a b : GPlan) (ha : Sm a) (hb : Sm b) {v w : List GRegion × Int} (hv : Tot (fun n _=>lJ n a) fun r=>r=v) (hw : Tot (fun n _=>lJ n b) fun r=>r=w) (hs : v.1.length ≤ 4000∧∀ x ∈ v.1,SzR x.Outer x.Inner x.Alone) : Tot (fun n _=>jR n a b) fun r=>(r=true ↔ alikeP a b v w):=by
 refine Tot.fn (fun _=>rfl) (Tot.bnd hv fun v' h=>?_)
 subst h
 have no : ¬ alikeP a b v' w→(false=true ↔ alikeP a b v' w):=fun h=>⟨fun h=>(by cases h),fun h2=>absurd h2 h⟩
 refine Tot.cnd (fun h1=>Tot.ret (no fun h=>by rw [h.1] at h1; simp at h1)) fun h1=>Tot.bnd hw fun w' h=>?_
 subst h
 have q1 : v'.2=0:=by simpa using h1
 refine Tot.cnd (fun h2=>Tot.ret (no fun h=>by rw [h.2.1] at h2; simp at h2)) fun h2=>Tot.prd ?_
 have q2 : w'.2=0:=by simpa using h2
 refine Tot.cnd (fun h3=>Tot.ret (no fun h=>aYl (f:=GNode.ID) (a:=a.Nodes) (b:=b.Nodes) (by simp at h3; omega) h.2.2.1)) fun h3=>Tot.bnd2 (Tot.dg (A8_T a b (by simp at h3; exact_mod_cast h3) ha.n 0 Pre.nil)) (fun _ h=>Tot.ret (no fun k=>h k.2.2.1)) fun _ q3=>Tot.prd1 ?_
 refine Tot.cnd (fun h4=>Tot.ret (no fun h=>aYl (f:=frV) (a:=a.Arcs) (b:=b.Arcs) (by simp at h4; omega) h.2.2.2.1)) fun h4=>Tot.bnd2 (Tot.dg (bIr a b (by simp at h4; exact_mod_cast h4) ha.a 0 Pre.nil)) (fun _ h=>Tot.ret (no fun k=>h k.2.2.2.1)) fun _ q4=>Tot.prd1 ?_
 refine Tot.cnd (fun h5=>Tot.ret (no fun h=>by rw [h.2.2.2.2] at h5; simp at h5)) fun h5=>Tot.bnd2 (Tot.dg (bIq v' w' a b (by simp at h5; exact_mod_cast h5) hs.1 hs.2 0 Pre.nil)) (fun _ h=>Tot.ret (no fun k=>h k.2.2.2.2)) fun _ q5=>Tot.ret ⟨fun _=>⟨q1,q2,q3,q4,q5⟩,fun _=>rfl⟩
end Go.Proofs.YtapabkfjeiknbaaGreat.Av
namespace Go.Proofs.YtapabkfjeiknbaaGreat.Av
open Go
theorem bEx : Tot (fun n _=>eV n) fun r=>r=true:=⟨true,rfl,10000,fun n _ h _=>if_pos h⟩
theorem alikeP.symm {a b : GPlan} {v w : List GRegion × Int} (h : alikeP a b v w) : alikeP b a w v:=⟨h.2.1,h.1,h.2.2.1.symm,h.2.2.2.1.symm,h.2.2.2.2.symm⟩
theorem alikeP.trans {a b c : GPlan} {u v w : List GRegion × Int} (h : alikeP a b u v) (k : alikeP b c v w) : alikeP a c u w:=⟨h.1,k.2.1,h.2.2.1.trans k.2.2.1,h.2.2.2.1.trans k.2.2.2.1,h.2.2.2.2.trans k.2.2.2.2⟩
theorem alikeP.refl {a : GPlan} {v : List GRegion × Int} (h : v.2=0) : alikeP a a v v:=⟨h,h,rfl,rfl,rfl⟩
theorem bGf (a b c : GPlan) : Tot (fun n _=>kJ n a b c) fun r=>r=true:=by
 have aw : Tot (fun n _=>bnd (eV n) fun v=>cnd v (some true) (some false)) fun r=>r=true:=Tot.bnd bEx fun r hr=>Tot.cnd (fun _=>Tot.ret rfl) fun h=>by rw [hr] at h; cases h
 refine Tot.fn (fun _=>rfl) (Tot.bnd (Q:=fun r=>r=false→Sm a∧Sm b∧Sm c) ?_ fun r hr=>Tot.cnd (fun _=>aw) fun h=>?_)
 ·exact Tot.bnd (aSm a) fun r1 h1=>Tot.cnd (fun b1=>Tot.bnd (aSm b) fun r2 h2=>Tot.cnd (fun b2=>Tot.bnd (aSm c) fun r3 h3=>Tot.cnd (fun b3=>Tot.ret fun _=>⟨h1 b1,h2 b2,h3 b3⟩) fun _=>Tot.ret (by simp)) fun _=>Tot.ret (by simp)) fun _=>Tot.ret (by simp)
 obtain ⟨ha,hb,hc⟩:=hr h
 obtain ⟨u,hu,su,cu⟩:=aLs a ha
 obtain ⟨v,hv,sv,cv⟩:=aLs b hb
 obtain ⟨w,hw,sw,cw⟩:=aLs c hc
 have ab:=aLt a b ha hb hu hv su
 have ba:=aLt b a hb ha hv hu sv
 have bc:=aLt b c hb hc hv hw sv
 have ac:=aLt a c ha hc hu hw su
 have aa:=aLt a a ha ha hu hu su
 have rest : Tot (fun n _=>bnd (jR n a a) fun x=>cnd x (bnd (jH n a) fun z=>cnd (z == 0) (bnd (eV n) fun y=>cnd y (some true) (some false)) (some false)) (bnd (jH n a) fun z=>cnd (z == 0) (some false) (bnd (eV n) fun y=>cnd y (some true) (some false)))) fun r=>r=true:=by
  refine Tot.bnd aa fun r hr=>Tot.cnd (fun h=>Tot.bnd cu fun z hz=>Tot.cnd (fun _=>aw) fun h2=>?_) fun h=>Tot.bnd cu fun z hz=>Tot.cnd (fun h2=>?_) fun _=>aw
  ·rw [hz,(hr.1 h).1] at h2; simp at h2
  ·have:=hr.2 (alikeP.refl (by rw [hz] at h2; simpa using h2))
   rw [h] at this; cases this
 refine Tot.bnd ab fun r1 h1=>Tot.cnd (fun b1=>Tot.bnd bc fun r2 h2=>Tot.cnd (fun b2=>Tot.bnd (Q:=fun r=>r=false) ?_ fun r hr=>Tot.cnd (fun h=>by rw [hr] at h; cases h) fun _=>rest) fun b2=>Tot.bnd (Q:=fun r=>r=false) ?_ fun r hr=>Tot.cnd (fun h=>by rw [hr] at h; cases h) fun _=>rest) fun b1=>Tot.bnd bc fun r2 h2=>Tot.cnd (fun b2=>Tot.bnd (Q:=fun r=>r=false) ?_ fun r hr=>Tot.cnd (fun h=>by rw [hr] at h; cases h) fun _=>rest) fun b2=>Tot.bnd (Q:=fun r=>r=false) ?_ fun r hr=>Tot.cnd (fun h=>by rw [hr] at h; cases h) fun _=>rest
 ·refine Tot.bnd ba fun r3 h3=>Tot.cnd (fun _=>Tot.bnd ac fun r4 h4=>Tot.cnd (fun _=>Tot.ret rfl) fun b4=>?_) fun b3=>?_
  ·have:=h4.2 ((h1.1 b1).trans (h2.1 b2)); rw [b4] at this; cases this
  ·have:=h3.2 (h1.1 b1).symm; rw [b3] at this; cases this
 ·refine Tot.bnd ba fun r3 h3=>Tot.cnd (fun _=>Tot.ret rfl) fun b3=>?_
  have:=h3.2 (h1.1 b1).symm; rw [b3] at this; cases this
 ·refine Tot.bnd ba fun r3 h3=>Tot.cnd (fun b3=>?_) fun _=>Tot.ret rfl
  have:=h1.2 (h3.1 b3).symm; rw [b1] at this; cases this
 ·refine Tot.bnd ba fun r3 h3=>Tot.cnd (fun b3=>?_) fun _=>Tot.ret rfl
  have:=h1.2 (h3.1 b3).symm; rw [b1] at this; cases this
theorem aXg (a b c : GPlan) : ∃ n,kJ n a b c=some true:=by
 obtain ⟨r,rfl,K,hK⟩:=bGf a b c
 exact ⟨K,hK K K (Nat.le_refl _) (Nat.le_refl _)⟩
end Go.Proofs.YtapabkfjeiknbaaGreat.Av
