/- A part of the proof of a law. -/
import Derived.Test.YtmlgedgcbfchjaaGreatDoorP10
set_option maxRecDepth 100000
set_option maxHeartbeats 4000000
set_option linter.all false
namespace Go.Proofs.YtmlgedgcbfchjaaGreatDoor.Av
open Go
def cr(ux uy vx vy:Int): Int:=ux*vy-uy*vx
theorem aPy(f c d b e a:Int): b*cr f c e a=a*cr f c d b+c*cr d b e a:=by
 unfold cr;simp only[Int.mul_sub];have g:a*(f*b)=b*(f*a):=by rw[XI,WE a b,XI]
 have e2:a*(c*d)=c*(d*a):=by rw[XI,WE a d]
 have h:b*(c*e)=c*(b*e):=XI _ _ _;omega
def Up(x y:Int): Prop:=0<y\/(y=0/\0<x)
theorem aFV{e b d a:Int}(f:Up e b)(g:Up d a)(h:cr e b d a > 0): 0<a:=by
 rcases g with c | ⟨c,i⟩
 .exact c
 .unfold cr at h;rw[c,Int.mul_zero] at h;have:0<=b*d:=by
   refine Int.mul_nonneg ?_ (by omega);rcases f with h | ⟨h,_⟩<;>omega
  omega
theorem aE0{i c j f g d:Int}(k:Up i c)(m:Up j f)(o:Up g d)(l:cr i c j f > 0)(n:cr j f g d > 0): cr i c g d > 0:=by
 have q:=aFV k m l;have p:=aFV m o n;have e:=aPy i c j f g d;have r:0<d*cr i c j f:=WT p l;have s:0<=c*cr j f g d:=Int.mul_nonneg (by rcases k with h | ⟨h,_⟩<;>omega) (by omega);have t:0<f*cr i c g d:=by omega
 rcases Int.lt_or_le 0 (cr i c g d) with h | h
 .exact h
 .have:=Xi (a:=f) (b:=cr i c g d) (by omega) h;omega
theorem aLF{i a g d f b:Int}(n:Up i a)(p:Up g d)(q:Up f b)(s:¬cr i a g d > 0)(m:¬cr g d f b > 0): ¬cr i a f b > 0:=by
 intro o;have k:0<b:=aFV n q o;have l:0<=a:=by rcases n with h | ⟨h,_⟩<;>omega
 rcases p with c | ⟨c,j⟩
 .have e:=aPy i a g d f b;have r:0<d*cr i a f b:=WT c o;have t:b*cr i a g d<=0:=Xi (by omega) (by omega);have u:a*cr g d f b<=0:=Xi l (by omega);omega
 .unfold cr at m;rw[c,Int.zero_mul] at m;have:=WT j k;omega
theorem aLE(c d a b:Int): cr (-c) (-d) (-a) (-b)=cr c d a b:=by
 unfold cr;rw[Int.neg_mul_neg,Int.neg_mul_neg]
def Hq(o p:Aaa): Bool:=decide (p.Y<o.Y)||(p.Y==o.Y&&decide (p.X<o.X))
def twE(o a b:Aaa): Int:=cr (a.X-o.X) (a.Y-o.Y) (b.X-o.X)<|b.Y-o.Y
def tE(o a b:Aaa): Bool:=if Hq o a != Hq o b then Hq o b else decide (twE o a b > 0)
theorem RF{o p:Aaa}(h:Hq o p=false)(b:p≠o): Up (p.X-o.X)<|p.Y-o.Y:=by
 simp only[Hq,WU,Wx,Bool.and_eq_false_iff,X5] at h;by_cases c:p.Y=o.Y
 .refine .inr ⟨by omega,?_⟩;have:p.X≠o.X:=by
   intro d;apply b;cases p;cases o;simp_all
  rcases h.2 with h | h
  .exact absurd c h
  .omega
 .exact .inl<|by omega
theorem RG{o p:Aaa}(h:Hq o p=true): Up (-(p.X-o.X)) (-(p.Y-o.Y)):=by
 simp only[Hq,YU,Z4,Zd,ZC] at h;rcases h with h | ⟨b,a⟩
 .exact .inl<|by omega
 .exact .inr ⟨by omega,by omega⟩
theorem aNB{o a b c:Aaa}(j:a≠o)(i:b≠o)(k:c≠o)(d:tE o a b=true)(e:tE o b c=true): tE o a c=true:=by
 unfold tE at d e |-;cases g:Hq o a<;>cases f:Hq o b<;>cases h:Hq o c<;>rw[g,f] at d<;>rw[f,h] at e<;>simp only[Wf,Zn,Z9,Bool.true_bne,Bool.false_bne,X3,Zz,Xg,Z4] at d e |-
 .exact aE0 (RF g j) (RF f i) (RF h k) d e
 .unfold twE at d e |-;rw[<-aLE] at d e |-;exact aE0 (RG g) (RG f) (RG h) d e
theorem aNC{o a b c:Aaa}(j:a≠o)(i:b≠o)(k:c≠o)(d:tE o a b=false)(e:tE o b c=false): tE o a c=false:=by
 unfold tE at d e |-;cases g:Hq o a<;>cases f:Hq o b<;>cases h:Hq o c<;>rw[g,f] at d<;>rw[f,h] at e<;>simp only[Wf,Zn,Z9,Bool.true_bne,Bool.false_bne,X3,Zz,Xg,Wx,Bool.true_eq_false] at d e |-
 .exact aLF (RF g j) (RF f i) (RF h k) d e
 .unfold twE at d e |-;rw[<-aLE] at d e |-;exact aLF (RG g) (RG f) (RG h) d e
theorem aND(o a:Aaa): tE o a a=false:=by
 unfold tE twE cr;rw[Wf,ZF<|by simp,WE];simp
theorem aTh{x y:Int}{B:Nat}(a:-(B:Int)<=x/\x<=B)(b:-(B:Int)<=y/\y<=B): -((B*B:Nat):Int)<=x*y/\x*y<=((B*B:Nat):Int):=by
 have h:(x*y).natAbs<=B*B:=by rw[Int.natAbs_mul];exact Y8 (by omega)<|by omega
 omega
theorem aPL{o a b:Aaa}(e:Ly o)(c:Ly a)(d:Ly b): twV o a b=twE o a b:=by
 let⟨o1,m,n,l⟩:=e;let⟨g,j,p,h⟩:=c;let⟨r,f,k,s⟩:=d;have i:=aTh (B:=2097152) (x:=a.X-o.X) (y:=b.Y-o.Y) ⟨by omega,by omega⟩ ⟨by omega,by omega⟩;have q:=aTh (B:=2097152) (x:=a.Y-o.Y) (y:=b.X-o.X) ⟨by omega,by omega⟩ ⟨by omega,by omega⟩;unfold twV twE cr;simp only[wr];rw[i64_in (a.X-o.X)<|by omega,i64_in (b.Y-o.Y)<|by omega,i64_in (a.Y-o.Y)<|by omega,i64_in (b.X-o.X)<|by omega,i64_in ((a.X-o.X)*(b.Y-o.Y))<|by omega,i64_in ((a.Y-o.Y)*(b.X-o.X))<|by omega,i64_in _<|by omega]
theorem aBO(o p:Aaa): aB (λn _=>gU n o p) λr=>r=Hq o p:=by
 refine aW (λ_=>rfl)<|aE (Q:=λr=>r=Hq o p) ?_ λr c=>aC (λh=>aA<|by rw[<-c,h]) λh=>aA (by rw[<-c,h]);unfold Hq;refine aC (λh=>aA<|by rw[h];rfl) λh=>aC (λa=>aC (λb=>aA<|by rw[h,a,b];rfl) λb=>aA<|by rw[h,a,b];rfl) λa=>aA<|by rw[h,a];rfl
theorem Ly.near{x:Aaa}(h:Ly x): aD9 x:=by let⟨b,c,a,d⟩:=h;exact⟨by omega,by omega,by omega,by omega⟩
theorem aJe(o a b:Aaa)(j:Ly o)(f:Ly a)(g:Ly b)(e:a≠o)(d:b≠o): aB (λn _=>ML n (o,a,b)) λr=>r=false:=by
 refine aE (aF5 [o,a,b]<|by simp) λr i=>aC (λ_=>aC (λh=>absurd (Zl h) e) λ_=>aC (λh=>absurd (Zl h) d) λ_=>aA rfl) λh=>?_;rw[i (by
  intro x c;rcases ZN.1 c with rfl | c
  .exact j.near
  rcases ZN.1 c with rfl | c
  .exact f.near
  .rw[ZJ.1 c];exact g.near)] at h
 cases h
theorem aMi(o a b:Aaa)(q:Ly o)(p:Ly a)(s:Ly b)(m:a≠o)(f:b≠o): aB (λn _=>AC n o a b) λr=>r=tE o a b:=by
 refine aW (λ_=>rfl)<|aE (aJe o a b q p s m f) λr v=>aC (λh=>by rw[v] at h;cases h) λ_=>aE (aBO o a) λw c=>?_;have tw:Hq o a=Hq o b->aB (λn _=>bnd (gS n o a b) λh=>cd (h > 0) (some true)<|some false) λr=>r=tE o a b:=by
  intro e;refine aE (aGu o a b) λt k=>?_;rw[aPL q p s] at k;subst k;refine aC (λh=>aA ?_) λh=>aA ?_<;>(unfold tE;rw[e];simp_all)
 have u:Hq o a≠Hq o b->aB (λn _=>bnd (gU n o b) λi=>cnd i (some true)<|some false) λr=>r=tE o a b:=by
  intro e;refine aE (aBO o b) λt k=>?_;refine aC (λh=>aA ?_) λh=>aA ?_<;>(unfold tE;rw[Zu<|by simpa using e];simp_all)
 refine aC (λl=>?_) λl=>?_;all_goals
  refine aE (aBO o b) λx d=>aC (λj=>?_) λj=>?_;all_goals
   refine aC (λg=>?_) λg=>?_;all_goals
    first
    | exact absurd (Zl g) (by decide)
    | exact absurd rfl (Zp g)
    | exact tw (by rw[<-c,<-d,l,j])
    | exact u (by rw[<-c,<-d,l,j];decide)
theorem Asc.lt{l:List Int}(h:Asc l): ∀(d i:Nat) (x y:Int),l[i]?=some x->l[i+d+1]?=some y->x<y
 | 0,i,x,y,b,a=>h i x y b a
 | d+1,i,x,y,b,a=>by
  have c:i+d+1<l.length:=by have:=(Ze.1 a).1;omega
  have f:=Asc.lt h d i x _ b<|Zb c;have e:=h (i+d+1) _ y (Zb c) (by rw[show i+d+1+1=i+(d+1)+1 by omega];exact a);omega
theorem Asc.inj{α:Type}{f:α->Int}{l:List α}(h:Asc<|l.map f){a b:α}(p:a∈l)(o:b∈l)(e:f a=f b): a=b:=by
 let⟨i,n⟩:=Yi.1 p;let⟨j,c⟩:=Yi.1 o;have m:(l.map f)[i]?=some (f a):=by rw[Zk,n];rfl
 have k:(l.map f)[j]?=some (f b):=by rw[Zk,c];rfl
 rcases Nat.lt_trichotomy i j with g | d | g
 .have:=h.lt (j-i-1) i _ _ m (by rw[show i+(j-i-1)+1=j by omega];exact k);omega
 .subst d;rw[n] at c;cases c;rfl
 .have:=h.lt (i-j-1) j _ _ k (by rw[show j+(i-j-1)+1=i by omega];exact m);omega
theorem aO6{p:aM}(c:tH p){a:aP}(b:a∈p.Arcs): KB p a.ID=(a,true):=by
 unfold KB;cases h:p.Arcs.find? λx=>x.ID==a.ID with
 | none=>
  have:=W4.1 h a b;simp at this
 | some x=>
  have e:=Xf h;have d:x.ID=a.ID:=by have:=List.find?_some h;simpa using this
  rw[c.asA.inj e b d]
theorem Wu{p:aM}{id:Int}(h:id∈p.Nodes.map Aab.ID): (kB p id).2=true/\(kB p id).1∈p.Nodes:=by
 unfold kB;cases a:p.Nodes.find? λx=>x.ID==id with
 | none=>
  obtain⟨x,b,rfl⟩:=Yh.1 h;have:=W4.1 a x b;simp at this
 | some x=>exact⟨rfl,Xf a⟩
theorem aGP{p:aM}(b:tH p){a:aP}(c:a∈p.Arcs): (dW p a.ID).1=[(kB p a.From).1.At]++a.Via++[(kB p a.To).1.At]:=by
 let⟨g,d⟩:=b.con a c;have f:=(Wu g).1;have e:=(Wu d).1;unfold dW;rw[aO6 b c];simp only[f,e,Xr]
theorem aNn{p:aM}(c:tH p){a:aP}(d:a∈p.Arcs): ∀x∈(dW p a.ID).1,Ly x:=by
 let⟨f,e⟩:=c.con a d;rw[aGP c d];intro x b;rcases ZD.1 b with b | b
 .rcases ZD.1 b with b | b
  .rw[ZJ.1 b];exact c.ptN _ (Wu f).2
  .exact c.ptA a d x b
 .rw[ZJ.1 b];exact c.ptN _ (Wu e).2
def fZ(p:aM)(d:Int): Prop:=∃a∈p.Arcs,d=a.ID\/d=-a.ID
structure aGp(p:aM)(o:Aaa)(i:Nat)(l:List Int)(tw:List (Int×Aaa)): Prop where
 len:l.length<=2*i
 dart:∀d∈l,fZ p d
 tow:∀d∈l,∃q,bQ tw d=some q/\Ly q/\q≠o
theorem aGp.add{p:aM}{o:Aaa}{i:Nat}{l:List Int}{tw:List<|Int×Aaa}{d:Int}{q:Aaa}(g:fZ p d)(f:Ly q)(c:q≠o)(k:l.length<=2*i+1)(j:∀d∈l,fZ p d)(h:∀d∈l,∃q,bQ tw d=some q/\Ly q/\q≠o):
 (l++[d]).length<=2*i+2/\(∀e∈l++[d],fZ p e)/\∀e∈l++[d],∃q',bQ (dX tw d q) e=some q'/\Ly q'/\q'≠o:=by
 refine⟨by simp;omega,?_,?_⟩
 .intro e he;rcases ZD.1 he with he | he
  .exact j e he
  .rw[ZJ.1 he];exact g
 .intro e he;rw[lG];by_cases a:d=e
  .rw[Zu a];exact⟨q,rfl,f,c⟩
  .rw[ZF a];rcases ZD.1 he with he | he
   .exact h e he
   .exact absurd (ZJ.1 he).symm a
theorem Q7(l:List Int)(tw:List<|Int×Aaa)(d:Int)(q:Aaa)(h:l.length<=100000): aB (λn _=>pX n (l,tw,d,q)) λr=>r=(l++[d],dX tw d q):=
 aT<|aI (c8 h)<|aA rfl
theorem aEN(p:aM)(H:Sm p)(t:tH p)(id:Int)(v:Aab×Bool)(o:v=kB p id)(i:Nat)(l:List Int)(tw:List<|Int×Aaa)(g:aGp p v.1.At i l tw)(hi:i<=p.Arcs.length): aB (λn m=>Ob mQ n m (p,id,p.Arcs,ln p.Arcs) (l,tw,(i:Int))) λr=>r.1.length<=600/\(∀d∈r.1,fZ p d)/\∀d∈r.1,∃q,bQ r.2 d=some q/\Ly q/\q≠v.1.At:=by
 have ha:=H.a;refine eD<|aY (λx Z a2=>?_) λa1=>aA ⟨by have:=g.len;show l.length<=600;omega,g.dart,g.tow⟩;have c:=Zg Z;have W:=t.nuA x c;have e0:wr (0-x.ID)=-x.ID:=by rw[wr,i64_in _<|by omega];omega
 rw[cD<|by omega,e0];have e:∀I j,aGp p v.1.At (i+1) I j->aB (λn m=>Ob mQ n m (p,id,p.Arcs,ln p.Arcs) (I,j,((i+1:Nat):Int))) λr=>r.1.length<=600/\(∀d∈r.1,fZ p d)/\∀d∈r.1,∃q,bQ r.2 d=some q/\Ly q/\q≠v.1.At:=λI j T=>aEN p H t id v o (i+1) I j T (by omega);have f:aGp p v.1.At (i+1) l tw:=⟨by have:=g.len;omega,g.dart,g.tow⟩;refine aE (Q:=λ_=>True) ?_ λr _=>aC (λ_=>e _ _ f) λ_=>aE (aCD p H x.ID) λw R=>aC (λ_=>e _ _ f) λ_=>?_
 .repeat' first
   | exact aA trivial
   | refine aC (λ_=>?_) (λ_=>?_)
 subst R;have u:=aNn t c;have z:=(t.pth x c).2;have h2:=zW (t.pth x c).1;have K:=Kt p H x.ID;have k:=aGP t c;have C:∃q,(dW p x.ID).1[1]?=some q:=⟨_,Zb<|by omega⟩;have E:∃q,(dW p x.ID).1[(dW p x.ID).1.length-2]?=some q:=⟨_,Zb<|by omega⟩;let⟨G,C⟩:=C;let⟨D,E⟩:=E;have i1:idx (dW p x.ID).1 1=some G:=C;have U:wr (ln (dW p x.ID).1-2)=(((dW p x.ID).1.length-2:Nat):Int):=by rw[wr,i64_in _<|by unfold ln;omega];unfold ln;omega
 have M:idx (dW p x.ID).1 (wr<|ln (dW p x.ID).1-2)=some D:=by rw[U,bL];exact E
 have X:Ly G:=u _<|Zg C;have O:Ly D:=u _<|Zg E;have z0:(dW p x.ID).1[0]?=some (kB p x.From).1.At:=by rw[k];rfl
 have S:(dW p x.ID).1[(dW p x.ID).1.length-2+1]?=some (kB p x.To).1.At:=by
  have:(dW p x.ID).1.length-2+1=([(kB p x.From).1.At]++x.Via).length:=by rw[k];simp
  rw[this,k,ZX<|Zf _,XR];rfl
 have V:x.From=id->G≠v.1.At:=by
  intro h;rw[o,<-h];exact (z 0 _ _ z0 C).symm
 have J:x.To=id->D≠v.1.At:=by
  intro h;rw[o,<-h];exact z _ _ _ E S
 have d1:fZ p x.ID:=⟨x,c,.inl rfl⟩;have L:fZ p (-x.ID):=⟨x,c,.inr rfl⟩;have Y:=g.len;refine aC (λN=>?_) λN=>aC (λy=>?_) λy=>e _ _ f
 .have A:=aGp.add (i:=i) d1 X (V<|Wi N) (by omega) g.dart g.tow;refine aI i1<|aE (Q7 l tw _ G<|by omega) λs F=>?_;subst F;refine aC (λy=>?_) λy=>e _ _ ⟨by have:=A.1;omega,A.2.1,A.2.2⟩;have B:=aGp.add (l:=l++[x.ID]) (tw:=dX tw x.ID G) (i:=i) L O (J<|Wi y) (by simp;omega) A.2.1 A.2.2;refine aI M<|aE (Q7 _ _ _ D<|by simp;omega) λs F=>?_;subst F;exact e _ _ ⟨by have:=B.1;omega,B.2.1,B.2.2⟩
 .have A:=aGp.add (i:=i) L O (J<|Wi y) (by omega) g.dart g.tow;refine aI M<|aE (Q7 l tw _ D<|by omega) λs F=>?_;subst F;exact e _ _ ⟨by have:=A.1;omega,A.2.1,A.2.2⟩
termination_by p.Arcs.length-i
def aE2(o a b:Aaa): Int:=if tE o a b=true then -1 else if tE o b a=true then 1 else 0
theorem N5{o a b:Aaa}: aE2 o a b<0↔tE o a b=true:=by
 unfold aE2;split<;>(try split)<;>simp_all
theorem aMt(p:aM)(u:Sm p)(A:tH p)(id:Int): aB (λn _=>Oe n p id) λr=>r.length<=600/\∀d∈r,fZ p d:=by
 refine aW (λ_=>rfl)<|aE (KF p u id) λv j=>aC (λb=>aE (bB<|aEN p u A id v j 0 [] [] ⟨by simp,by simp,by simp⟩<|by omega) λw m=>aT<|aI (aBX<|Yj<|by have:=m.1;omega) ?_) λ_=>aA (by simp);have k:Ly v.1.At:=by
  rw[j] at b |-;unfold kB at b |-;cases h:p.Nodes.find? λx=>x.ID==id with
  | none=>rw[h] at b;cases b
  | some x=>exact A.ptN x<|Xf h
 have E:∀x∈w.1,∀y∈w.1,aB (λn _=>bnd (yY n (v.1,w.2,x,y)) λi=>some i) λr=>r=aE2 v.1.At ((bQ w.2 x).getD ⟨0,0⟩) ((bQ w.2 y).getD ⟨0,0⟩):=by
  have a:∀x∈w.1,Ly ((bQ w.2 x).getD ⟨0,0⟩)/\(bQ w.2 x).getD ⟨0,0⟩≠v.1.At:=by
   intro x c;let⟨D,q,e2,t⟩:=m.2.2 x c;rw[q];exact⟨e2,t⟩
  intro x c y f;refine aE (Q:=λr=>r=aE2 v.1.At ((bQ w.2 x).getD ⟨0,0⟩) ((bQ w.2 y).getD ⟨0,0⟩)) (aT ?_) λr e=>aA e;refine aE (aMi v.1.At ((bQ w.2 x).getD ⟨0,0⟩) ((bQ w.2 y).getD ⟨0,0⟩) k (a x c).1 (a y f).1 (a x c).2 (a y f).2) λr e=>aC (λh=>aA ?_) λh=>aE (aMi v.1.At ((bQ w.2 y).getD ⟨0,0⟩) ((bQ w.2 x).getD ⟨0,0⟩) k (a y f).1 (a x c).1 (a y f).2 (a x c).2) λG l=>aC (λg=>aA ?_) λg=>aA ?_
  .unfold aE2;rw[Zu<|by rw[<-e,h]]
  .unfold aE2;rw[ZF<|by rw[<-e,h];simp,Zu<|by rw[<-l,g]]
  .unfold aE2;rw[ZF<|by rw[<-e,h];simp,ZF<|by rw[<-l,g];simp]
 have B:Swo (λx y=>aE2 v.1.At ((bQ w.2 x).getD ⟨0,0⟩)<|(bQ w.2 y).getD ⟨0,0⟩) w.1:=by
  have a:∀x∈w.1,(bQ w.2 x).getD ⟨0,0⟩≠v.1.At:=by
   intro x c;let⟨D,q,e2,t⟩:=m.2.2 x c;rw[q];exact t
  refine⟨λx c=>?_,λx c y f z s o g=>?_,λx c y f z s o g=>?_⟩
  .rw[N5,aND];simp
  .rw[N5] at *;exact aNB (a x c) (a y f) (a z s) o g
  .rw[N5,Bool.not_eq_true] at *;exact aNC (a x c) (a y f) (a z s) o g
 exact aE (aBr (F:=λn x y=>bnd (yY n (v.1,w.2,x,y)) λi=>some i) E B) λr e=>aA ⟨by rw[e.1];exact m.1,λd C=>m.2.1 d<|e.2 d C⟩
theorem aDw(l:List Int)(d:Int)(f:l.length<=1000): Tt λn _=>yW n l d:=by
 refine aW (λ_=>rfl)<|aE (aHS l d<|by omega) λr a=>aC (λ_=>aA trivial) λh=>?_;have i:0<=r:=by have:=Zp h;omega
 have g:r.toNat<l.length:=by rcases a with a | a<;>omega
 have c:wr (wr (r+ln l)-1)=r+(l.length:Int)-1:=by unfold wr ln;rw[i64_in (r+_)<|by omega,i64_in _<|by omega]
 rw[c];have e2:aIj (r+(l.length:Int)-1) (ln l)=some ((r+(l.length:Int)-1).tmod (l.length:Int)):=by unfold aIj ln;rw[ZF<|by omega]
 have b:0<=(r+(l.length:Int)-1).tmod (l.length:Int):=Int.tmod_nonneg _ (by omega);have e:(r+(l.length:Int)-1).tmod (l.length:Int)<(l.length:Int):=Int.tmod_lt_of_pos _ (by omega);exact aI e2<|aI (Gd b<|by omega)<|aA trivial
theorem aKF{V:Type}{m:List<|Int×V}{k:Int}{v:V}(h:bQ m k=some v): v∈m.map Prod.snd:=by
 induction m with
 | nil=>cases h
 | cons a r b=>
  simp only[bQ] at h;split at h
  .cases h;exact ZM ..
  .exact ZQ _<|b h
theorem aK9{V:Type}(m:List<|Int×V)(k:Int)(v:V): (dX m k v).length<=m.length+1:=by
 induction m with
 | nil=>simp[dX]
 | cons a r b=>
  simp only[dX];split
  .simp
  .simp only[Yc];omega
theorem aHT(p:aM)(v:List Int)(f:v.length<=600)(b:∀d∈v,fZ p d)(B:Nat)(c:B<=190000)(i:Nat)(o:i<=v.length)(l:List Int)(m:List<|Int×Int)(s:l.length<=B+i)(q:m.length<=B+i)(a:∀d∈l,fZ p d):
 aB (λn k=>Ob tM n k (v,v,ln v) (l,m,(i:Int))) λr=>r.1.length<=B+600/\r.2.length<=B+600/\∀d∈r.1,fZ p d:=
 eD<|aY (λd h j=>aI (Lr<|by omega) (aE (aDw v d<|by omega) λw _=>by
  rw[cD<|by omega];refine aHT p v f b B c (i+1) (by omega) _ _ (by simp;omega) (by have:=aK9 m (wr<|0-d) w;omega) ?_;intro e he;rcases ZD.1 he with he | he
  .exact a e he
  .rw[ZJ.1 he];exact b d<|Zg h))
  (λg=>aA ⟨by show l.length<=_;omega,by show m.length<=_;omega,a⟩)
termination_by v.length-i
theorem aHU(p:aM)(b:Sm p)(e:tH p)(i:Nat)(t:i<=p.Nodes.length)(l:List Int)(m:List<|Int×Int)(j:l.length<=600*i)(o:m.length<=600*i)(f:∀d∈l,fZ p d):
 aB (λn k=>Ob tN n k (p,p.Nodes,ln p.Nodes) (l,m,(i:Int))) λr=>r.1.length<=180000/\r.2.length<=180000/\∀d∈r.1,fZ p d:=by
 have s:=b.n;refine eD<|aY (λx q h=>aE (aMt p b e x.ID) λw c=>aE (bB<|aHT p w c.1 c.2 (600*i) (by omega) 0 (by omega) l m (by omega) (by omega) f) λr a=>?_) λg=>aA ⟨by show l.length<=_;omega,by show m.length<=_;omega,f⟩;rw[cD<|by omega];exact aHU p b e (i+1) (by omega) r.1 r.2 (by have:=a.1;omega) (by have:=a.2.1;omega) a.2.2
termination_by p.Nodes.length-i
theorem aLJ{p q:Int->Bool}{d:Int}: ∀(l:List Int),(∀x,q x=true->p x=true)->d∈l->p d=true->q d=false->l.countP q<l.countP p
 | [],_,h,_,_=>by cases h
 | a::l,b,h,i,g=>by
  have e:∀l:List Int,l.countP q<=l.countP p:=λl=>List.countP_mono_left λx _ h=>b x h;rw[Ve,Ve];rcases ZN.1 h with rfl | h
  .rw[i,g];have:=e l;simp;omega
  .have:=aLJ l b h i g;by_cases f:q a=true
   .rw[f,b a f];simp;omega
   .rw[ZF f];omega
def pY(m:List<|Int×Bool)(k:Int): Bool:=!(bQ m k).getD false
theorem aEf(p:aM)(v:List<|Int×Int)(V:List Int)(f:∀k,(bQ v k).getD 0∈V)(g:V.length<=800000)(seen:List<|Int×Bool)(a:List Int)(d:Int)(j:d∈V)(o:a.length+V.countP (pY seen)<=800000):
 aB (λn k=>Ob tK n k v (seen,a,d)) λr=>∃t,r.2=a++t/\r.2.length+V.countP (pY r.1)<=a.length+V.countP (pY seen)/\((bQ seen d).getD false=false->∃i,t=d::i):=by
 refine eD<|aC (λh=>aA ⟨[],by simp,Zf _,λc=>by rw[h] at c;cases c⟩) λh=>aI (Lr<|by omega) ?_;have m:V.countP (pY<|dX seen d true)<V.countP (pY seen):=by
  refine aLJ V (λx b=>?_) j (by unfold pY;rw[h];rfl) (by unfold pY;rw[lG,Zu rfl];rfl);unfold pY at b |-;rw[lG] at b;split at b
  .cases b
  .exact b
 refine (aEf p v V f g (dX seen d true) (a++[d]) ((bQ v d).getD 0) (f d)<|by simp;omega).imp ?_;rintro r ⟨t,l,c,_⟩;exact⟨d::t,by rw[l];simp,by simp only[Zh,Yc,Z1] at c;omega,λ_=>⟨t,rfl⟩⟩
termination_by V.countP<|pY seen
def dV(v:List Int×List (Int×Int)): List Int:=v.1++0::v.2.map Prod.snd
theorem aCJ(p:aM)(v:List Int×List (Int×Int))(s:v.1.length<=180000)(u:v.2.length<=180000)(e:∀d∈v.1,fZ p d)(i:Nat)(G:i<=v.1.length)(l:List<|List Int)(m:List<|Int×Bool)(H:l.length<=i)(z:l.flatten.length+(dV v).countP (pY m)<=400000)(g:∀c∈l,c.length<=800000/\∃d t,c=d::t/\fZ p d):
 aB (λn k=>Ob tL n k (v.2,Db v.1,ln<|Db v.1) (l,m,(i:Int))) λr=>r.1.length<=180000/\r.1.flatten.length<=400000/\∀c∈r.1,c.length<=800000/\∃d t,c=d::t/\fZ p d:=by
 have y:=KK v.1;refine eD<|aY (λd B F=>?_) λE=>aA ⟨by show l.length<=_;omega,by show l.flatten.length<=_;omega,g⟩;rw[cD<|by omega];have b:d∈v.1:=(aId v.1).mem_iff.1<|Zg B;refine aC (λ_=>aCJ p v s u e (i+1) (by omega) l m (by omega) z g) λx=>?_;have A:∀k,(bQ v.2 k).getD 0∈dV v:=by
  intro k;unfold dV;cases D:bQ v.2 k with
  | none=>simp
  | some w=>exact List.mem_append_right _<|ZQ _<|aKF D
 have o:(dV v).length<=400000:=by simp[dV];omega
 refine aE (Q:=λr=>∃t,r.2=d::t/\r.2.length+(dV v).countP (pY r.1)<=(dV v).countP (pY m)) (aT<|aE (bB<|aEf p v.2 (dV v) A (by omega) m [] d (List.mem_append_left _ b)<|by simp only[Z1];omega) λr j=>aA ?_) λr j=>aI (Lr<|by omega) ?_
 .let⟨t,h,q,C⟩:=j;obtain⟨f,rfl⟩:=C x;exact⟨f,by simpa using h,by simpa using q⟩
 let⟨f,h,q⟩:=j;refine aCJ p v s u e (i+1) (by omega) _ _ (by simp;omega) ?_ ?_
 .rw[Xw,Zh,show[r.2].flatten=r.2 by simp];omega
 intro c a;rcases ZD.1 a with a | a
 .exact g c a
 .rw[ZJ.1 a];exact⟨by omega,d,f,h,e d b⟩
termination_by v.1.length-i
decreasing_by all_goals (have:=KK v.1;omega)
theorem aTM{v:List Int×List (Int×Int)}(c:v.1.length<=180000)(d:v.2.length<=180000){m:List<|Int×Bool}: ([]:List<|List Int).flatten.length+(dV v).countP (pY m)<=400000:=by
 have b:(dV v).countP (pY m)<=(dV v).length:=List.countP_le_length;have a:(dV v).length<=400000:=by simp[dV];omega
 simp only[Xd,Z1];omega
def aP8(p:aM)(l:List<|List Int): Prop:=l.length<=180000/\l.flatten.length<=400000/\∀c∈l,c.length<=800000/\∃d t,c=d::t/\fZ p d
theorem aEM(p:aM)(b:Sm p): aB (λn _=>Dg n p) λr=>r.2=0->tH p/\aP8 p r.1:=by
 refine aW (λ_=>rfl)<|aE (aOJ p b) λc i=>aC (λh=>aA λe=>?_) λh=>?_
 .rw[show c=0 from e] at h;simp at h
 .have d:=i (by simpa using h);exact aE (bB<|aHU p b d 0 (by omega) [] [] (by simp) (by simp)<|by simp) λv a=>aT<|aI (aBX<|Yj<|by have:=a.1;omega)<|aE (aMb (f:=λn=>Od n (v.2,Db v.1,ln<|Db v.1) ([],[],0))<|bB<|aCJ p v a.1 a.2.1 a.2.2 0 (by omega) [] [] (by simp) (aTM a.1 a.2.1)<|by simp) λr g=>aA λ_=>⟨d,g⟩
structure OW(p:aM)(m:List (Int×List Aaa)): Prop where
 has:∀a∈p.Arcs,∃l,bQ m a.ID=some l/\2<=l.length
 len:∀k l,bQ m k=some l->l.length<=302
theorem aDv(p:aM)(d:Sm p)(g:tH p)(i:Nat)(m:List<|Int×List Aaa)(s:∀(j:Nat) (a:aP),j<i->p.Arcs[j]?=some a->∃l,bQ m a.ID=some l/\2<=l.length)(t:∀k l,bQ m k=some l->l.length<=302): aB (λn k=>Ob nJ n k (p,p.Arcs,ln p.Arcs) (m,(i:Int))) λr=>OW p r:=by
 have y:=d.a;refine eD<|aY (λx f u=>aE (aCD p d x.ID) λw q=>aC (λ_=>?_) λh=>?_) λo=>aA ⟨wC.fin (l:=p.Arcs) (i:=i) (Q:=λ(a:aP)=>∃l,bQ m a.ID=some l/\2<=l.length) s o,t⟩
 .rw[cD<|by omega];subst q;refine aDv p d g (i+1) _ (λj a v b=>?_) λk l e=>?_
  .rw[lG];by_cases he:x.ID=a.ID
   .rw[Zu he];exact⟨_,rfl,zW (g.pth x<|Zg f).1⟩
   .rw[ZF he];refine s j a ?_ b;rcases ZI j i with h | h
    .exact h
    .have:j=i:=by omega
     subst this;rw[f] at b;cases b;exact absurd rfl he
  .rw[lG] at e;split at e
   .cases e;exact Kt p d _
   .exact t k l e
 .subst q;rw[(g.pth x<|Zg f).1] at h;simp at h
termination_by p.Arcs.length-i
theorem aAx(p:aM)(c:Sm p)(b:tH p): aB (λn _=>qH n p) λr=>OW p r:=
 aW (λ_=>rfl)<|aE (bB<|aDv p c b 0 [] (λj a h=>by omega) λk l h=>by cases h) λr d=>aA d
theorem aE9(p:aM)(a:Sm p)(d:Int): Tt λn _=>yX n p d:=
 aW (λ_=>rfl)<|aC (λ_=>aA trivial) λ_=>aC (λ_=>aA trivial) λ_=>aE (aEO p a _) λ_ _=>aC (λ_=>aA trivial) λ_=>aA trivial
theorem aEE(p:aM)(a:Sm p)(d:Int): Tt λn _=>yQ n p d:=
 aW (λ_=>rfl)<|aE (aE9 p a d) λ_ _=>aC (λ_=>aC (λ_=>aA trivial) λ_=>aA trivial) λ_=>aA trivial
theorem aHP(v:List Aaa)(k:Int)(c:k=wr (ln v-1))(f:2<=v.length)(e:v.length<=1000)(i:Nat)(s:Int): Tt λn m=>Ob wE n m (v,k) (s,(i:Int)):=by
 have g:wr (ln v-1)=((v.length-1:Nat):Int):=by unfold wr ln;rw[i64_in _<|by omega];omega
 refine eD<|aC (λh=>?_) λh=>aA trivial;have d:i<v.length-1:=by rw[c,g] at h;have:=Zl h;omega
 have b:idx v (i:Int)=some v[i]:=by rw[bL];exact Zb<|by omega
 have a:idx v ((i+1:Nat):Int)=some v[i+1]:=by rw[bL];exact Zb<|by omega
 rw[cD<|by omega];exact aI b<|aI a<|aI a<|aI b<|aHP v k c f e (i+1) _
termination_by v.length-i
theorem aC5(p:aM)(e:Sm p)(c:List Int)(f:c.length<=512)(i:Nat)(s:Int): aB (λn m=>mV wF n m (p,c,ln c) (s,(i:Int)))<|Su (λ_=>True) λ_=>True:=
 bF<|aY (λd k j=>aE (aE9 p e d) λw _=>aC (λ_=>aE (aCD p e _) λv g=>aC (λ_=>aA trivial) λb=>by
  rw[cD<|by omega];have a:v.2=0:=by simpa using b
  refine aE (bB<|aHP v.1 _ rfl (by rw[g] at a |-;exact zW a) (by rw[g];have:=Kt p e<|uF d<|wr<|0-d;omega) 0 0) λt _=>aC (λ_=>aC5 p e c f (i+1) _) λ_=>aC5 p e c f (i+1) _) λ_=>aA trivial)
  (λh=>aA trivial)
termination_by c.length-i
theorem aIZ(p:aM)(a:Sm p)(c:List Int): Tt λn _=>tJ n p c:=
 aW (λ_=>rfl)<|aC (λ_=>aA trivial) λh=>aR (bB<|aC5 p a c (by have h:¬ln c > 512:=Zp h;unfold ln at h;omega) 0 0) (λ_ _=>aA trivial) λ_ _=>aI rfl<|aA trivial
section
variable {a b c:Aaa}
instance aYb: TC (λn=>oE n (a,b,c)):=⟨by repeat' first | exact aA trivial | refine aC (λ_=>?_) (λ_=>?_) | refine bN λ_=>?_⟩
instance aYa: TC (λn=>oD n (a,b,c)):=⟨by repeat' first | exact aA trivial | refine aC (λ_=>?_) (λ_=>?_) | refine bN λ_=>?_⟩
end
theorem aOf(a x y:Aaa)(b c:Bool): Tt λn _=>oF n (a,b,c,x,y):=by
 refine aT ?_;repeat' first | exact aA trivial | refine aC (λ_=>?_) (λ_=>?_) | refine bN λ_=>?_
theorem aH7(a:Aaa)(l:List Aaa)(g:l.length<=1000)(i:Nat)(q:1<=i)(p f:Bool): Tt λn k=>Ob eG n k (a,l) (p,f,(i:Int)):=by
 refine eD<|aC (λh=>?_) λ_=>aA trivial;have b:(i:Int)<ln l:=Zl h;have b:i<l.length:=by unfold ln at b;omega
 have j:wr ((i:Int)-1)=((i-1:Nat):Int):=by rw[wr,i64_in _<|by omega];omega
 rw[cD<|by omega,j];have c:∀e d,Tt λn k=>Ob eG n k (a,l) (e,d,((i+1:Nat):Int)):=λe d=>aH7 a l g (i+1) (by omega) e d;have o:idx l ((i-1:Nat):Int)=some (l[i-1]'(by omega)):=by rw[bL];exact Zb<|by omega
 have m:idx l (i:Int)=some l[i]:=by rw[bL];exact Zb<|by omega
 exact aI o<|aI m<|aE (aOf _ _ _ _ _) λ_ _=>aC (λ_=>aC (λ_=>c _ _) λ_=>c _ _) λ_=>aC (λ_=>c _ _) λ_=>c _ _
termination_by l.length-i
def Q2(m:List<|Int×List Aaa): Prop:=∀k l,bQ m k=some l->l.length<=302
theorem Q2.d{m:List<|Int×List Aaa}(h:Q2 m)(k:Int): ((bQ m k).getD []).length<=1000:=by
 cases e:bQ m k with
 | none=>simp
 | some l=>have:=h k l e;show l.length<=_;omega
theorem aH8(m:List<|Int×List Aaa)(f:Q2 m)(c:List Int)(g:c.length<=800000)(a:Aaa)(i:Nat)(e b:Bool): Tt λn k=>Ob fW n k (a,m,c,ln c) (e,b,(i:Int)):=
 eD<|aY (λd l j=>by
  rw[cD<|by omega];exact aE (bB<|aH7 a _ (f.d _) 1 (by omega) e b) λ_ _=>aH8 m f c g a (i+1) _ _)
  (λh=>aA trivial)
termination_by c.length-i
theorem aOe(m:List<|Int×List Aaa)(d:Q2 m)(c:List Int)(b:c.length<=800000)(a:Aaa): Tt λn _=>eL n m c a:=
 aW (λ_=>rfl)<|aE (Q:=λ_=>True) (aT<|aE (bB<|aH8 m d c b a 0 false false) λ_ _=>aA trivial) λ_ _=>aC (λ_=>aC (λ_=>aA trivial) λ_=>aA trivial) λ_=>aC (λ_=>aA trivial) λ_=>aA trivial
theorem aFG(m:List<|Int×List Aaa)(e:Q2 m)(l:List Lz)(f:∀x∈l,x.outer.length<=800000)(a:Aaa)(b i:Nat)(g:b<l.length)(d:i<l.length): Tt λn _=>vJ n (a,m,l,(b:Int),(i:Int)):=by
 have c:idx l (i:Int)=some l[i]:=by rw[bL];exact Zb d
 have e2:idx l (b:Int)=some l[b]:=by rw[bL];exact Zb g
 have k:Tt λn _=>eL n m l[i].outer a:=aOe m e _ (f _<|ZP d) a;exact aC (λ_=>aI c<|aE k λ_ _=>aC (λ_=>aA trivial) λ_=>aA trivial) λ_=>aI c<|aI e2<|aC (λ_=>aI c<|aE k λ_ _=>aC (λ_=>aA trivial) λ_=>aA trivial) λ_=>aA trivial
theorem SB(m:List<|Int×List Aaa)(d:Q2 m)(l:List Lz)(f:∀x∈l,x.outer.length<=800000)(g:l.length<=800000)(a:Aaa)(b i:Nat)(e:b<l.length): aB (λn k=>Ob jB n k (a,m,l) ((b:Int),(i:Int))) λr=>0<=r/\r.toNat<l.length:=
 eD<|aC (λh=>by
  have c:(i:Int)<ln l:=Zl h;have c:i<l.length:=by unfold ln at c;omega
  rw[cD<|by omega];exact aE (aFG m d l f a b i e c) λ_ _=>aC (λ_=>SB m d l f g a i (i+1) c) λ_=>SB m d l f g a b (i+1) e)
  (λj=>aA<|show 0<=(b:Int)/\(b:Int).toNat<l.length from⟨by omega,by simpa using e⟩)
termination_by l.length-i
theorem aHz(m:List<|Int×List Aaa)(c:Q2 m)(l:List Lz)(d:∀x∈l,x.outer.length<=800000)(e:l.length<=800000)(f:0<l.length)(a:Aaa): aB (λn _=>eF n m l a) λr=>0<=r/\r.toNat<l.length:=
 aW (λ_=>rfl)<|aE (bB<|SB m c l d e a 0 1 f) λr b=>aA b
theorem aCI(l:List aP)(a:l.length<=300)(id:Int)(i:Nat)(s:Int): Tt λn m=>Ob uA n m (id,l,ln l) (s,(i:Int)):=
 eD<|aY (λd e b=>by
  rw[cD<|by omega];refine aE (Q:=λ_=>True) ?_ λ_ _=>aC (λ_=>aCI l a id (i+1) _) λ_=>aCI l a id (i+1) _;exact aC (λ_=>aA trivial) λ_=>aA trivial)
  (λc=>aA trivial)
termination_by l.length-i
theorem aJh(p:aM)(b:Sm p)(id:Int): Tt λn _=>lE n p id:=
 aW (λ_=>rfl)<|aE (bB<|aCI p.Arcs b.a id 0 0) λ_ _=>aA trivial
structure aMu(l:List dS)(b c:Nat): Prop where
 al:∀a∈l,a.alone.length<=c
 sz:∀a∈l,a.outer.length+a.inner.flatten.length<=400000
 l1:1<=l.length
 l2:l.length<=200000
 ou:∀a∈l,a.outer.length<=800000
 inn:∀a∈l,a.inner.length<=b/\∀c∈a.inner,c.length<=800000
 ne:∀(i:Nat) (a:dS),1<=i->l[i]?=some a->a.outer≠[]
def KG: Prop:=∀(p:aM) (cs:List<|List Int) (m:List<|Int×List Aaa),Sm p->tH p->aP8 p cs->OW p m->aB (λn _=>jR n p cs m) λr=>aMu r 200000 300
theorem aHE(a:dS)(h:a.inner.length<=200000): aB (λn _=>fX n a) λr=>r=a.outer::a.inner:=
 aW (λ_=>rfl)<|aI (O7 (l:=[a.outer]) (m:=a.inner)<|by simp;omega)<|aA rfl
section
variable (p:aM)(hp:Sm p)(lf:List Int)(v:Int)
include hp
theorem aH3(c:List Int)(a:c.length<=800000)(i:Nat): aB (λn m=>mV qI n m (p,lf,v,c,ln c) (i:Int))<|Su (λ_=>True) λ_=>True:=
 bF<|aY (λd g b=>aE (aEE p hp d) λ_ _=>by
  rw[cD<|by omega];exact aC (λ_=>aA trivial) λ_=>aH3 c a<|i+1)
  (λe=>aA trivial)
termination_by c.length-i
theorem MX(a:List<|List Int)(g:a.length<=800000)(b:∀c∈a,c.length<=800000)(i:Nat): aB (λn m=>mV qJ n m (p,lf,v,a,ln a) (i:Int))<|Su (λ_=>True) λ_=>True:=
 bF<|aY (λc e d=>aR (bB<|aH3 p hp lf v c (b c<|Zg e) 0) (λ_ _=>aA trivial) λ_ _=>aI rfl<|by
  rw[cD<|by omega];exact MX a g b<|i+1)
  (λf=>aA trivial)
termination_by a.length-i
end
theorem aDC{V:Type}(k:Int)(v:V): ∀m:List<|Int×V,bQ m k=none->(dX m k v).length=m.length+1
 | [],_=>rfl
 | a::r,h=>by
  simp only[bQ] at h;split at h
  .cases h
  .rename_i b;simp only[dX];rw[ZF b];simp only[Yc];rw[aDC k v r h]
theorem aCk(p:aM)(q:Sm p)(l:List dS)(o:aMu l 200000 300)(i:Nat)(R:i<=l.length)(lf:List Int)(g:List<|Int×Bool)(K:lf.length=i)(E:g.length=i-1)(j:∀k v,bQ g k=some v->v=true): aB (λn m=>mV kK n m (p,l,ln l) (lf,g,(i:Int)))<|Su (λ_=>True) λr=>r.1.length=l.length/\r.2.length=l.length-1:=by
 have O:=o.l2;refine bF<|aY (λa I N=>?_) λL=>aA (show lf.length=l.length/\g.length=l.length-1 by omega);have y:=Zg I;have D:=o.inn a y;have B:=o.ou a y;have f:∀w,w=a.outer::a.inner->w.length<=800000/\∀c∈w,c.length<=800000:=by
  rintro w rfl;refine⟨by simp;omega,λc H=>?_⟩;rcases ZN.1 H with rfl | H
  .exact B
  .exact D.2 c H
 rw[cD<|by omega];refine aC (λb=>?_) λb=>?_
 .have F:1<=i:=by have:(i:Int) > 0:=Zl b;omega
  have G:=o.ne i a F I;let⟨d,t,C⟩:∃d t,a.outer=d::t:=by
   cases h:a.outer with
   | nil=>exact absurd h G
   | cons d t=>exact⟨d,t,rfl⟩
  refine aI (x:=d) (by rw[C];rfl)<|aE (aEE p q d) λv _=>aE (Q:=λr=>r=false->(bQ g v).getD false=false) ?_ λ_ M=>aC (λ_=>aA trivial) λJ=>aE (aHE a<|by omega) λw s=>aR (bB<|MX p q lf v w (f w s).1 (f w s).2 0) (λ_ _=>aA trivial) λ_ _=>aI rfl<|aI (Lr<|by omega)<|aCk p q l o (i+1) (by omega) _ _ (by simp;omega) ?_ ?_
  .exact aC (λ_=>aA<|by simp) λ_=>aC (λ_=>aA<|by simp) λh=>aA λ_=>h
  .have h:=M J;have:bQ g v=none:=by
    cases e:bQ g v with
    | none=>rfl
    | some w=>rw[e,j v w e] at h;cases h
   rw[aDC v true g this,E];omega
  .intro k u z;rw[lG] at z;split at z
   .cases z;rfl
   .exact j k u z
 .exact aE (aHE a<|by omega) λw s=>aR (bB<|MX p q lf 0 w (f w s).1 (f w s).2 0) (λ_ _=>aA trivial) λ_ _=>aI rfl<|aI (Lr<|by omega)<|aCk p q l o (i+1) (by omega) _ _ (by simp;omega) (by have:¬(i:Int) > 0:=Zp b;omega) j
termination_by l.length-i
theorem aNZ(p:aM)(e:Sm p)(l:List dS)(c:aMu l 200000 300): aB (λn _=>yG n p l) λr=>r.2=true->r.1.length=l.length/\l.length=p.Faces.length+1:=
 aW (λ_=>rfl)<|aR (bB<|aCk p e l c 0 (by omega) [] [] rfl rfl λ_ _ h=>by cases h) (λ_ _=>aA<|by simp) λr d=>aI rfl<|aC (λb=>aA λ_=>⟨d.1,by have:=c.l1;have f:=d.2;have b:ln r.2=ln p.Faces:=Wi b;unfold ln at b;omega⟩) λ_=>aA λh=>by cases h
def SzR(o:List Int)(i:List<|List Int)(a:List Int): Prop:=o.length+i.flatten.length<=400000/\(i.length<=200000/\∀c∈i,c.length<=800000)/\a.length<=300
theorem aQg(s:KG)(p:aM)(g:Sm p): aB (λn _=>vI n p) λr=>r.2.2.2=0->tH p/\r.1.length=p.Faces.length+1/\r.2.1.length=r.1.length/\r.1.length<=200000/\∀a∈r.1,SzR a.outer a.inner a.alone:=by
 refine aW (λ_=>rfl)<|aE (aEM p g) λc o=>aC (λb=>aA λh=>?_) λb=>?_
 .rw[show c.2=0 from h] at b;simp at b
 .let⟨j,i⟩:=o (by simpa using b);exact aE (aAx p g j) λm q=>aE (s p c.1 m g j i q) λl d=>aE (aNZ p g l d) λf k=>aC (λb=>aA λ_=>⟨j,(k b).2,(k b).1,d.l2,λa e=>⟨d.sz a e,⟨by have:=(d.inn a e).1;omega,(d.inn a e).2⟩,by have:=d.al a e;omega⟩⟩) λ_=>aA λh=>by cases h
theorem aHR(d:List Int)(b:List dS)(k:d.length=b.length)(j:b.length<=200000)(f:∀a∈b,SzR a.outer a.inner a.alone)(i:Nat)(l:List eR)(q:l.length=i)(e:∀r∈l,SzR r.Outer r.Inner r.Alone)(s:i<=b.length): aB (λn m=>Ob nK n m (d,b,ln b) (l,(i:Int))) λr=>r.length=b.length/\r.length<=200000/\∀x∈r,SzR x.Outer x.Inner x.Alone:=by
 refine eD<|aY (λa h g=>?_) λp=>aA ⟨show l.length=_ by omega,show l.length<=_ by omega,e⟩;let⟨y,o⟩:∃y,d[i]?=some y:=⟨_,Zb<|by omega⟩;rw[cD<|by omega];exact aI (by rw[bL];exact o)<|aI (Lr<|by omega)<|aHR d b k j f (i+1) _ (by simp;omega) (by
  intro r c;rcases ZD.1 c with c | c
  .exact e r c
  .rw[ZJ.1 c];exact f a<|Zg h)<|by omega
termination_by b.length-i
theorem aUe(x y:eR): aB (λn _=>kL n x y) λr=>r=NY x.Face y.Face:=
 aW (λ_=>rfl)<|aE (iX _ _) λr a=>aA a
theorem aBf(m:KG)(p:aM)(s:Sm p): ∃v:List eR×Int,aB (λn _=>kZ n p) (λr=>r=v)/\(v.2=0->tH p/\v.1.length=p.Faces.length+1)/\(v.1.length<=200000/\∀x∈v.1,SzR x.Outer x.Inner x.Alone)/\aB (λn _=>yH n p) λr=>r=v.2:=by
 let⟨v,e,g⟩:=(aQg m p s).val;have k:aB (λn _=>kZ n p) λr=>r.2=v.2.2.2/\(r.2=0->r.1.length=v.1.length)/\r.1.length<=200000/\∀x∈r.1,SzR x.Outer x.Inner x.Alone:=by
  refine aW (λ_=>rfl)<|aE g λw a=>?_;subst a;refine aC (λb=>aA ⟨rfl,λh=>by rw[show w.2.2.2=0 from h] at b;simp at b,by simp,by simp⟩) λb=>?_;have i:w.2.2.2=0:=by simpa using b
  let⟨_,_,u,j,q⟩:=e i;exact aE (bB<|aHR w.2.1 w.1 u j q 0 [] (by simp) (by simp)<|by omega) λl c=>aT<|aI (aBX<|Yj<|by have:=c.2.1;omega)<|aE (aBr (F:=λn x y=>bnd (kL n x y) λh=>some h) (λx _ y _=>aE (aUe x y) λ_ h=>aA h)<|aJ1 _ _) λr f=>aA ⟨by rw[i],λ_=>by show r.length=_;rw[f.1];exact c.1,by show r.length<=_;rw[f.1];exact c.2.1,λx t=>c.2.2 x<|f.2 x t⟩
 let⟨w,a,d⟩:=k.val;exact⟨w,d,λh=>⟨(e<|a.1▸h).1,by rw[a.2.1 h];exact (e<|a.1▸h).2.1⟩,a.2.2,aW (λ_=>rfl)<|aE g λz o=>aA<|by rw[o,a.1]⟩
theorem aVB{c:Prop}[Decidable c]{x y:Nat×Nat}(b:1<=x.2/\x.2<=4)(a:1<=y.2/\y.2<=4): 1<=(if c then x else y).2/\(if c then x else y).2<=4:=by split<;>assumption
theorem aTK(s:ByteArray)(p:Nat)(h:p<s.size): 1<=(Utf8.decode s p).2/\(Utf8.decode s p).2<=4:=by
 unfold Utf8.decode;dsimp only;repeat' first
  | apply aVB
  | (show 1<=_/\_<=4;exact⟨by dsimp only;omega,by dsimp only;omega⟩)
theorem aVR{α:Type}{P:α->Prop}{f:Nat->Nat->Option α}(h:aB f P): Tt f:=h.imp λ_ _=>trivial
theorem aEG(a:Int)(b:yP)(i:Nat): aB (λn m=>mV qT n m (a,b) (i:Int))<|Su (λ_=>True) λ_=>True:=
 bF<|aC (λh=>by
  have h:(i:Int)<13:=Zl h;have h:i<13:=by omega
  rw[cD<|by omega];refine aI (x:=([b.e0,b.e1,b.e2,b.e3,b.e4,b.e5,b.e6,b.e7,b.e8,b.e9,b.e10,b.e11,b.e12]:List gD)[i]) (by rw[bL];exact Zb<|by simpa using h)<|aE (Q:=λ_=>True) ?_ λ_ _=>aC (λ_=>aA trivial) λ_=>aEG a b<|i+1;repeat' first
   | exact aA trivial
   | refine aC (λ_=>?_) (λ_=>?_)) λ_=>aA trivial
termination_by 13-i
theorem aEF(a:Int): Tt λn _=>yI n a:=
 aW (λ_=>rfl)<|aC (λ_=>aA trivial) λ_=>aC (λ_=>aA trivial) λ_=>aR (bB<|aEG _ _ 0) (λ_ _=>aA trivial) λ_ _=>aI rfl<|aA trivial
theorem aEL(s:ByteArray)(b:s.size<=1000)(i:Nat)(l:List Int)(d:l.length<=i)(e:i<=1010): aB (λn m=>mV qU n m () (l,(s,i)))<|Su (λ_=>True) λv=>v.1.length<=1010:=
 bF<|aC (λh=>by
  have h:i<s.size:=Zl h;have c:=aTK s i h;refine aE (aEF _) λ_ _=>aC (λ_=>aA trivial) λ_=>aI (c8<|by omega)<|aEL s b (i+(Utf8.decode s i).2) _ (by simp;omega)<|by omega) λh=>aA<|show l.length<=1010 by omega
termination_by s.size-i
theorem aMl(s:ByteArray)(a:s.size<=1000): aB (λn _=>Ky n s) λr=>r.1.length<=1010:=
 aW (λ_=>rfl)<|aR (bB<|aEL s a 0 [] (by simp)<|by omega) (λ_ _=>aA<|by simp) λv b=>aI rfl<|aA b
theorem aOp(s t:ByteArray)(h:s.size<=1000): Tt λn _=>aAO n s t:=
 ⟨_,trivial,1,λn m a _=>by
  obtain⟨n,rfl⟩:∃k,n=k+1:=⟨n-1,by omega⟩;show (match Nat.blt s.size 4294967281 with | true=>_ | false=>_)=_;rw[show Nat.blt s.size 4294967281=true from by rw[YC];omega]⟩
theorem aJP{s:ByteArray}{i:Int}(a:0<=i)(h:i.toNat<s.size): ∃c,sat s i=some c:=by
 unfold sat;rw[Zu a,Zb<|by simpa using h];exact⟨_,rfl⟩
theorem aHd(a b:List Int)(d:b.length<=100000)(i:Nat): aB (λn m=>mV zY n m (a,b,ln b) (i:Int))<|Su (λ_=>True) λ_=>True:=
 bF<|aY (λx f c=>aE (aEF x) λ_ _=>by
  rw[cD<|by omega];exact aC (λ_=>aA trivial) λ_=>aHd a b d<|i+1)
  (λe=>aA trivial)
termination_by b.length-i
theorem aQ9(s:ByteArray): Tt λn _=>zZ n s:=by
 refine aW (λ_=>rfl)<|aE (Q:=λ_=>True) ?_ λ_ _=>aA trivial;refine aW (λ_=>rfl)<|aC (λ_=>aA trivial) λf=>aC (λ_=>aA trivial) λh=>?_;have h:¬((s.size:Nat):Int) > 40:=Zp h;have f:s≠(⟨#[]⟩:ByteArray):=Zp f;have m:0<s.size:=by
  rcases XB s.size with e | e
  .exfalso;apply f;cases s with
   | mk d=>cases d with
    | mk l=>cases l with
     | nil=>rfl
     | cons a l=>simp[ByteArray.size] at e
  .exact e
 let⟨c,j⟩:=aJP (s:=s) (i:=0) (by omega) (by simpa using m);have g:wr ((s.size:Int)-1)=(s.size:Int)-1:=by rw[wr,i64_in _<|by omega]
 let⟨d,k⟩:=aJP (s:=s) (i:=(s.size:Int)-1) (by omega) (by omega);refine aE (aMl s<|by omega) λb o=>aC (λ_=>aA trivial) λ_=>aE (Q:=λ_=>True) ?_ λ_ _=>aC (λ_=>aA trivial) λ_=>aR (bB<|aHd b.1 b.1 (by omega) 0) (λ_ _=>aA trivial) λ_ _=>aI rfl<|aA trivial;exact aI j<|aC (λ_=>aA trivial) λ_=>aI (by rw[g];exact k)<|aC (λ_=>aA trivial) λ_=>aE (aOp s _<|by omega) λ_ _=>aC (λ_=>aA trivial) λ_=>aA trivial
instance aV1{s:ByteArray}: TC (λn=>zZ n s):=⟨aQ9 s⟩
structure pL(s:aJ): Prop where
 p:Sm s.Plan
 n:s.Features.length<=1000
 f:∀f∈s.Features,f.Parts.length<=1000
abbrev Sx{β γ:Type}(f:Nat->Nat->Option (β⊕γ)): Prop:=aB f (Su (λ_=>True) λ_=>True)
instance aUM{x:Int}: TC (λn=>cL n x):=⟨aW (λ_=>rfl) (by repeat' first|apply eK|apply aC|apply bN|intro)⟩
section
variable {f:aD}
instance fc1: TC (λn=>nT n f):=⟨by repeat' first|apply eK|apply aC|apply bN|intro⟩
instance fc4: TC (λn=>nS n f):=⟨by repeat' first|apply eK|apply aC|apply bN|intro⟩
instance fc5: TC (λn=>hJ n f):=⟨by repeat' first|apply eK|apply aC|apply bN|intro⟩
instance aXY: TC (λn=>rP n f):=⟨aT (by repeat' first|apply eK|apply aC|apply bN|intro)⟩
instance aXX: TC (λn=>Ef n f):=⟨aT (by repeat' first|apply eK|apply aC|apply bN|intro)⟩
instance aXW: TC (λn=>rG n f):=⟨aT (by repeat' first|apply eK|apply aC|apply bN|intro)⟩
instance aXV: TC (λn=>Ec n f):=⟨aT (by repeat' first|apply eK|apply aC|apply bN|intro)⟩
instance aXU: TC (λn=>qY n f):=⟨aT (by repeat' first|apply eK|apply aC|apply bN|intro)⟩
end
section
variable (l:List aD)(hl:l.length<=1000)
include hl
theorem aT7(i:Nat): Sx λn m=>mV hP n m (l,ln l) (i:Int):=
 bF<|aY (λx c a=>by
  rw[cD<|by omega];exact bN λ_=>aC (λ_=>aA trivial) λ_=>aT7<|i+1)
  (λb=>aA trivial)
termination_by l.length-i
theorem aVH: Sx λn _=>rS n l:=
 aT<|aR (f:=λn _=>rQ n l) (Q:=λ_=>True) (R:=λ_=>True) (aT<|aR (bB<|aT7 l hl 0) (λ_ _=>aA trivial) λ_ _=>aI rfl<|aA trivial) (λ_ _=>aC (λ_=>aA trivial) λ_=>aA trivial) λ_ _=>aI rfl<|aA trivial
theorem aT6(i:Nat): Sx λn m=>mV nW n m (l,ln l) (i:Int):=
 bF<|aY (λx c a=>by
  rw[cD<|by omega];exact bN λ_=>aC (λ_=>aA trivial) λ_=>aT6<|i+1)
  (λb=>aA trivial)
termination_by l.length-i
theorem aT9: Sx λn _=>Eh n l:=
 aT<|aR (f:=λn _=>Eg n l) (Q:=λ_=>True) (R:=λ_=>True) (aT<|aR (bB<|aT6 l hl 0) (λ_ _=>aA trivial) λ_ _=>aI rfl<|aA trivial) (λ_ _=>aC (λ_=>aA trivial) λ_=>aA trivial) λ_ _=>aI rfl<|aA trivial
theorem aT5(i:Nat): Sx λn m=>mV hM n m (l,ln l) (i:Int):=
 bF<|aY (λx c a=>by
  rw[cD<|by omega];exact bN λ_=>aC (λ_=>aA trivial) λ_=>aT5<|i+1)
  (λb=>aA trivial)
termination_by l.length-i
theorem aVG: Sx λn _=>rJ n l:=
 aT<|aR (f:=λn _=>rH n l) (Q:=λ_=>True) (R:=λ_=>True) (aT<|aR (bB<|aT5 l hl 0) (λ_ _=>aA trivial) λ_ _=>aI rfl<|aA trivial) (λ_ _=>aC (λ_=>aA trivial) λ_=>aA trivial) λ_ _=>aI rfl<|aA trivial
theorem aT4(i:Nat): Sx λn m=>mV nV n m (l,ln l) (i:Int):=
 bF<|aY (λx c a=>by
  rw[cD<|by omega];exact bN λ_=>aC (λ_=>aA trivial) λ_=>aT4<|i+1)
  (λb=>aA trivial)
termination_by l.length-i
theorem aT8: Sx λn _=>Ee n l:=
 aT<|aR (f:=λn _=>Ed n l) (Q:=λ_=>True) (R:=λ_=>True) (aT<|aR (bB<|aT4 l hl 0) (λ_ _=>aA trivial) λ_ _=>aI rfl<|aA trivial) (λ_ _=>aC (λ_=>aA trivial) λ_=>aA trivial) λ_ _=>aI rfl<|aA trivial
theorem fI3(j:∀f∈l,f.Parts.length<=1000)(m:List<|Aad×Bool): Sx λn _=>Ii n (m,l):=by
 have o:∀(a:Int) (p:List Int) (d:p.length<=1000) (k i:Nat) (m:List<|Aad×Bool),p.length<=i+k->Sx (λn k=>mV oY n k (a,p,ln p) (m,(i:Int))):=by
  intro a p d k;induction k with
  | zero=>exact λi m h=>bF<|aY (λx c b=>by omega) λ_=>aA trivial
  | succ k e=>
   intro i m h;refine bF<|aY (λx c b=>?_) λ_=>aA trivial;rw[cD<|by omega];exact aC (λ_=>aA trivial) λ_=>e (i+1) _<|by omega
 have q:∀(m:List<|Aad×Bool) (f:aD),f.Parts.length<=1000->Sx (λn _=>Ig n (m,f)):=λm f d=>
  aT<|aR (f:=λn _=>Ie n f) (Q:=λ_=>True) (R:=λ_=>True) (bN λ_=>aC (λ_=>aA trivial) λ_=>aC (λ_=>aA trivial) λ_=>aA trivial) (λ_ _=>aA trivial) λ_ _=>aI rfl<|aR (bB<|o _ _ d _ 0 _<|Xh ..) (λ_ _=>aA trivial) λ_ _=>aI rfl<|aA trivial
 have g:∀(k i:Nat) (m:List<|Aad×Bool),l.length<=i+k->Sx (λn k=>mV oZ n k (l,ln l) (m,(i:Int))):=by
  intro k;induction k with
  | zero=>exact λi m h=>bF<|aY (λx c b=>by omega) λ_=>aA trivial
  | succ k e=>
   intro i m h;refine bF<|aY (λx c b=>?_) λ_=>aA trivial;rw[cD<|by omega];exact aR (q _ x<|j x<|Zg c) (λ_ _=>e (i+1) _<|by omega) λ_ _=>aI rfl<|aA trivial
 exact aT<|aR (f:=λn _=>Ih n (m,l)) (Q:=λ_=>True) (R:=λ_=>True) (aT<|aR (bB<|g _ 0 m<|Xh ..) (λ_ _=>aA trivial) λ_ _=>aI rfl<|aA trivial) (λ_ _=>aC (λ_=>aA trivial) λ_=>aA trivial) λ_ _=>aI rfl<|aA trivial
end
theorem aP6(l:List Int)(x:Int)(b:l.length<=100000): aB (λn _=>iM n l x) λr=>r=decide (x∈l):=
 aW (λ_=>rfl)<|aE (Ma l x b) λr a=>aC (λh=>aA<|by rw[<-a,h]) λh=>aA<|by rw[<-a,h]
theorem aQE(p:aM)(b:Sm p)(f:aD)(l:List Int)(j:l.length<=1000): Tt λn _=>jE n (p,f,l):=by
 have d:∀x:Int,Tt λn _=>oW n (p,f,x):=λx=>
  aT<|bN λ_=>aC (λ_=>aE (KF p b x) λ_ _=>aC (λ_=>aA trivial) λ_=>aA trivial) λ_=>aC (λ_=>aE (aEO p b x) λ_ _=>aC (λ_=>aA trivial) λ_=>aA trivial) λ_=>aC (λ_=>aE (aP6 p.Faces x<|by have:=b.f;omega) λ_ _=>aC (λ_=>aA trivial) λ_=>aA trivial) λ_=>aA trivial
 have c:∀(k i:Nat),l.length<=i+k->Sx (λn k=>mV eV n k (p,f,l,ln l) (i:Int)):=by
  intro k;induction k with
  | zero=>exact λi h=>bF<|aY (λx g a=>by omega) λ_=>aA trivial
  | succ k e=>
   intro i h;refine bF<|aY (λx g a=>?_) λ_=>aA trivial;rw[cD<|by omega];exact aE (d x) λ_ _=>aC (λ_=>aA trivial) λ_=>e (i+1)<|by omega
 exact aT<|aE (f:=λn _=>oX n (p,f,l)) (Q:=λ_=>True) (aT<|aR (bB<|c _ 0<|Xh ..) (λ_ _=>aA trivial) λ_ _=>aI rfl<|aA trivial) λ_ _=>aC (λ_=>aA trivial) λ_=>aA trivial
theorem fI9(s:aJ)(d:pL s): Sx λn _=>uJ n (s,s.Features):=by
 have c:∀f∈s.Features,Tt λn _=>rV n (s,f):=λf g=>
  aT<|aE (f:=λn _=>rU n (s.Plan,f)) (Q:=λ_=>True) (aT<|aE (aQE s.Plan d.p f f.Parts<|d.f f g) λ_ _=>aC (λ_=>aA trivial) λ_=>aA trivial) λ_ _=>aC (λ_=>aA trivial) λ_=>aA trivial
 have b:∀(k i:Nat),s.Features.length<=i+k->Sx (λn k=>mV hU n k (s,s.Features,ln s.Features) (i:Int)):=by
  have:=d.n;intro k;induction k with
  | zero=>exact λi h=>bF<|aY (λx e a=>by omega) λ_=>aA trivial
  | succ k j=>
   intro i h;refine bF<|aY (λx e a=>?_) λ_=>aA trivial;rw[cD<|by omega];exact aE (c x<|Zg e) λ_ _=>aC (λ_=>aA trivial) λ_=>j (i+1)<|by omega
 exact aT<|aR (f:=λn _=>rW n (s,s.Features)) (Q:=λ_=>True) (R:=λ_=>True) (aT<|aR (bB<|b _ 0<|Xh ..) (λ_ _=>aA trivial) λ_ _=>aI rfl<|aA trivial) (λ_ _=>aC (λ_=>aA trivial) λ_=>aA trivial) λ_ _=>aI rfl<|aA trivial
theorem aLj(l:List Int)(a:l.length<=1000): aB (λn _=>vO n l) λr=>r=true->Asc l:=
 aW (λ_=>rfl)<|aR (bB<|O5 l a 1 (Zf _) λj x y h=>by omega) (λ_ _=>aA<|by simp) λ_ h=>aI rfl<|aA λ_=>h
theorem aVF(s:aJ)(g:pL s): Sx λn _=>rE n (s,0,s.Features):=by
 have q:=g.n;have b:∀(i:Nat) (f:aD),f∈s.Features->i<s.Features.length->Tt (λn _=>qX n (s,((i+1:Nat):Int),f)):=by
  intro i f m p;have j:=aLj f.Parts<|g.f f m;refine aC (λh=>?_) λ_=>aE j λ_ _=>aC (λ_=>aA trivial) λ_=>aA trivial;have h:((i+1:Nat):Int) > 1:=Zl h;have e:wr (((i+1:Nat):Int)-2)=((i-1:Nat):Int):=by rw[wr,i64_in _<|by omega];omega
  refine aI (x:=s.Features[i-1]'(by omega)) (by rw[e,bL];exact Zb<|by omega)<|aC (λ_=>aA trivial) λ_=>aE j λ_ _=>aC (λ_=>aA trivial) λ_=>aA trivial
 have c:∀(k i:Nat),s.Features.length<=i+k->Sx (λn k=>mV hK n k (s,s.Features,ln s.Features) ((i:Int),(i:Int))):=by
  intro k;induction k with
  | zero=>exact λi h=>bF<|aY (λx d a=>by omega) λ_=>aA trivial
  | succ k l=>
   intro i h;refine bF<|aY (λx d a=>?_) λ_=>aA trivial;rw[cD<|by omega];refine aE (f:=λn _=>qZ n (s,(i:Int),x)) (Q:=λr=>r.1=((i+1:Nat):Int)) (aT ?_) λr o=>aC (λ_=>aA trivial) λ_=>by rw[o];exact l (i+1)<|by omega
   have e:=cD (i:=i) (by omega);have h:=b i x (Zg d) a;rw[<-e] at h |-;exact aE h λ_ _=>aC (λ_=>aA rfl) λ_=>aA rfl
 exact aT<|aR (f:=λn _=>rA n (s,0,s.Features)) (Q:=λ_=>True) (R:=λ_=>True) (aT<|aR (bB<|c _ 0<|Xh ..) (λ_ _=>aA trivial) λ_ _=>aI rfl<|aA trivial) (λ_ _=>aC (λ_=>aA trivial) λ_=>aA trivial) λ_ _=>aI rfl<|aA trivial
theorem Lu{β γ:Type}{f:Nat->Nat->Option (β⊕γ)}{N:Nat->Nat->Option Int}{q:β->Bool}{c:Int}(h:Sx f)(k:Tt N): Tt λn m=>Av.bnd2 (f n m) (λv=>Av.cnd (q v) (some c)<|N n m) λw=>Av.bnd (some w) λ_=>N n m:=
 aR h (λ_ _=>aC (λ_=>aA trivial) λ_=>k) λ_ _=>aI rfl k
theorem aT3(l:List aD)(m:l.length<=1000): aB (λn _=>Eb n l) (Su (λv=>v.2=true) λ_=>∀f∈l,f.Parts.length<=64):=by
 have d:∀(k i:Nat),l.length<=i+k->wC l i (λf=>f.Parts.length<=64)->aB (λn k=>mV nU n k (l,ln l) (i:Int)) (Su (λv=>0<=v.2) λ_=>∀f∈l,f.Parts.length<=64):=by
  intro k;induction k with
  | zero=>exact λi h b=>bF<|aY (λx e c=>by omega) λa=>aA<|b.fin a
  | succ k g=>
   intro i h b;refine bF<|aY (λx e c=>?_) λa=>aA<|b.fin a;rw[cD<|by omega];refine aE (f:=λn _=>qY n x) (Q:=λr=>r=false->x.Parts.length<=64) (aT (aC (λ_=>aA<|by simp) λh=>aA λ_=>by have h:¬ln x.Parts > 64:=Zp h;unfold ln at h;omega)) λr j=>aC (λ_=>aA<|show (0:Int)<=(i:Int) by omega) λh=>g (i+1) (by omega)<|b.step e<|j h
 refine aT<|aR (f:=λn _=>Ea n l) (Q:=λv:aD×Int=>0<=v.2) (R:=λ_=>∀f∈l,f.Parts.length<=64) (aT<|aR (bB<|d _ 0 (Xh ..) .nil) (λv h=>aA<|show 0<=v.2 from h) λ_ h=>aI rfl<|aA<|by exact h) (λv o=>aC (λ_=>aA rfl) λh=>?_) λ_ h=>aI rfl<|aA (by exact h);have:=Zp h;omega
structure SvB(s:aJ): Prop where
 v:tH s.Plan
 n:s.Features.length<=128
 f:∀f∈s.Features,f.Parts.length<=64
structure OK(s:aJ): Prop extends SvB s where
 c:aB (λn _=>cC n s) λr=>r=0
theorem tH.sm{p:aM}(h:tH p): Sm p:=⟨by have:=h.leN;omega,by have:=h.leA;omega,by have:=h.leF;omega,λa b=>by have:=h.leV a b;omega⟩
theorem OK.ok{s:aJ}(h:OK s): pL s:=⟨h.v.sm,by have:=h.n;omega,λf a=>by have:=h.f f a;omega⟩
theorem aOb(o:KG)(s:aJ)(a:pL s): aB (λn _=>cC n s) λr=>r=0->SvB s:=by
 let⟨v,_,e,_,j⟩:=aBf o s.Plan a.p;refine aW (λ_=>rfl)<|aE j λr m=>aC (λb=>aA λh=>by rw[show r=0 from h] at b;simp at b) λb=>aC (λ_=>aA<|by simp) λd=>aE (f:=λn _=>uL n s) (Q:=λ_=>True) (aT<|aA trivial) λ_ _=>aE (f:=λn _=>uK n ()) (Q:=λ_=>True) (aT<|aA trivial) λc _=>OJ ?_;have l:r=0:=by simpa using b
 have i:=(e<|by rw[<-m];exact l).1;have g:s.Features.length<=128:=by have h:¬ln s.Features > 128:=Zp d;unfold ln at h;omega
 refine aR (aT3 _ a.n) (λv e=>aC (λ_=>aA<|by simp) λh=>by rw[show v.2=true from e] at h;cases h) λ_ k=>aI rfl<|aB.imp (P:=λ_=>True) ?_ λ_ _ _=>⟨i,g,k⟩;exact Lu (aVF s a)<|Lu (aT8 _ a.n)<|Lu (aVG _ a.n)<|Lu (aT9 _ a.n)<|Lu (aVH _ a.n)<|Lu (fI9 s a)<|Lu (fI3 _ a.n a.f c)<|aA trivial
theorem K3(o:KG)(s:aJ)(a:pL s): aB (λn _=>cC n s) λr=>r=0->OK s:=by
 let⟨r,h,t⟩:=(aOb o s a).val;exact t.imp λx e z=>⟨h<|e.symm.trans z,(e.symm.trans z)▸t⟩
def aUj(l:List Int)(k:Nat): Prop:=l=(List.range k).map λj=>((j+1:Nat):Int)
def aEQ(l:List aP)(k:Nat): Prop:=l.length=k/\∀a∈l,a.Via.length<=300
theorem Aa{α:Type}{l:List α}{i k:Nat}(h:i<k): iL l k (i:Int)=l[i]?:=by
 unfold iL;rw[Zu ⟨by omega,by simpa using h⟩];simp
theorem aEQ.set{l:List aP}{k i:Nat}{a b:aP}(h:aEQ l k)(e:l[i]?=some a)(d:b.Via=a.Via): aEQ (l.set i b) k:=⟨by rw[Yr];exact h.1,λx c=>by
 rcases YL c with c | rfl
 .exact h.2 x c
 .rw[d];exact h.2 a<|Zg e⟩
theorem D6{α:Type}{l:List α}(z:α)(h:l.length<=900000): rep z (ln l) (ln l)=some (List.replicate l.length z):=by
 unfold rep ln;rw[Zu ⟨by omega,by omega,by omega⟩];simp
theorem N0{α:Type}(l:List α)(z:α): cpy (List.replicate l.length z) (0,(List.replicate l.length z).length) l=some l:=by
 unfold cpy aV;rw[Zu ⟨by simp,by simp⟩];simp
theorem aV7(l:List Aab)(h:l.length<=900000): aB (λn _=>sC n l) λr=>r=l:=
 aW (λ_=>rfl)<|aI (D6 _ h)<|aI (N0 l _)<|aI rfl<|aA rfl
theorem aV9(l:List aP)(h:l.length<=900000): aB (λn _=>oJ n l) λr=>r=l:=
 aW (λ_=>rfl)<|aI (D6 _ h)<|aI (N0 l _)<|aI rfl<|aA rfl
theorem aTl(l:List Int)(h:l.length<=900000): aB (λn _=>gW n l) λr=>r=l:=
 aW (λ_=>rfl)<|aI (D6 _ h)<|aI (N0 l _)<|aA rfl
theorem aV8(l:List aD)(h:l.length<=900000): aB (λn _=>kR n l) λr=>r=l:=
 aW (λ_=>rfl)<|aI (D6 _ h)<|aI (N0 l _)<|aI rfl<|aA rfl
theorem aTk(l:List Aaa)(h:l.length<=900000): aB (λn _=>jO n l) λr=>r=l:=
 aW (λ_=>rfl)<|aI (D6 _ h)<|aI (N0 l _)<|aA rfl
theorem aPg(a:List Int)(b:List Aab)(c:List aD)(l:List aP)(j:l.length<=300)(g:∀x∈l,x.Via.length<=300)(i:Nat): aB (λn m=>Ob oP n m (a,b,c,ln l) (l,(i:Int))) λr=>r=l:=by
 refine eD<|aC (λh=>?_) λ_=>aA rfl;have h:(i:Int)<ln l:=Zl h;have d:i<l.length:=by unfold ln at h;omega
 have f:iL l l.length (i:Int)=some l[i]:=by rw[Aa d];exact Zb d
 have e2:idx l (i:Int)=some l[i]:=by rw[bL];exact Zb d
 rw[cD<|by omega];refine aI f<|aI e2<|aE (aTk l[i].Via<|by have:=g l[i]<|ZP d;omega) λv e=>aI f<|aI e2 ?_;subst e;simp only[YA];rw[show l.set i ⟨l[i].ID,l[i].From,l[i].To,l[i].Via,l[i].Left,l[i].Right⟩=l from WG d];exact aPg a b c l j g<|i+1
termination_by l.length-i
theorem aPf(a:List Int)(b:List Aab)(c:List aP)(l:List aD)(j:l.length<=1000)(g:∀x∈l,x.Parts.length<=1000)(i:Nat): aB (λn m=>Ob oO n m (a,b,c,ln l) (l,(i:Int))) λr=>r=l:=by
 refine eD<|aC (λh=>?_) λ_=>aA rfl;have h:(i:Int)<ln l:=Zl h;have d:i<l.length:=by unfold ln at h;omega
 have f:iL l l.length (i:Int)=some l[i]:=by rw[Aa d];exact Zb d
 have e2:idx l (i:Int)=some l[i]:=by rw[bL];exact Zb d
 rw[cD<|by omega];refine aI f<|aI e2<|aE (aTl l[i].Parts<|by have:=g l[i]<|ZP d;omega) λv e=>aI f<|aI e2 ?_;subst e;simp only[YA];rw[show l.set i ⟨l[i].ID,l[i].Kind,l[i].Class,l[i].Name,l[i].Parts⟩=l from WG d];exact aPf a b c l j g<|i+1
termination_by l.length-i
theorem aKm(s:aJ)(m:pL s): aB (λn _=>Mt n s) λr=>r=(s.Plan.Faces,s.Plan.Nodes,s.Plan.Arcs,s.Features,s.Plan.Faces):=by
 let⟨⟨v,o,u,q⟩,p,t⟩:=m;refine aT<|aE (aV7 _<|by omega) λb i=>aE (aV9 _<|by omega) λc l=>aE (aTl _<|by omega) λd j=>aE (aV8 _<|by omega) λf e=>?_;subst i l j e;exact aE (bB<|aPg _ _ _ _ o q 0) λg k=>aE (bB<|aPf _ _ _ _ p t 0) λh a=>aA<|by rw[k,a]
instance aXS{x:Int}: TC (λn=>wP n x):=⟨by repeat' first|apply eK|apply aC|apply bN|intro⟩
instance aXT{x:aN}: TC (λn=>wQ n x):=⟨by repeat' first|apply eK|apply aC|apply bN|intro⟩
instance aXR{x:aN}: TC (λn=>wO n x):=⟨by repeat' first|apply eK|apply aC|apply bN|intro⟩
instance aWG{x:aN}: TC (λn=>nC n x):=⟨aW (λ_=>rfl) (by repeat' first|apply eK|apply aC|apply bN|intro)⟩
instance aYp{b:aJf}{x:Aaa}: TC (λn=>J9 n (b,x)):=⟨by repeat' first|apply eK|apply aC|apply bN|intro⟩
instance aYo{b:aJf}{x:Aaa}: TC (λn=>aCg n b x):=⟨aW (λ_=>rfl) (by repeat' first|apply eK|apply aC|apply bN|intro)⟩
instance aX8{x:Int}: TC (λn=>eH n x):=⟨aT (by repeat' first|apply eK|apply aC|apply bN|intro)⟩
instance aX7{x:Aaa}: TC (λn=>iQ n x):=⟨aT (by repeat' first|apply eK|apply aC|apply bN|intro)⟩
instance aW6{x:Int}: TC (λn=>Mr n x):=⟨aT (by repeat' first|apply eK|apply aC|apply bN|intro)⟩
instance aW5{x:Int}: TC (λn=>Mq n x):=⟨by repeat' first|apply eK|apply aC|apply bN|intro⟩
instance aW4{x:aN}: TC (λn=>Mp n x):=⟨by repeat' first|apply eK|apply aC|apply bN|intro⟩
theorem aSN(l:List Aaa)(b:l.length<=1000)(i:Nat): Sx λn m=>mV uN n m (l,ln l) (i:Int):=
 bF<|aY (λx d a=>by
  rw[cD<|by omega];exact bN λ_=>aC (λ_=>aA trivial) λ_=>aSN l b<|i+1) λc=>aA trivial
termination_by l.length-i
theorem aVv(l:List Aaa)(a:l.length<=1000): Tt λn _=>iP n l:=
 aT<|aE (f:=λn _=>Ra n l) (Q:=λ_=>True) (aT<|aR (bB<|aSN l a 0) (λ_ _=>aA trivial) λ_ _=>aI rfl<|aA trivial) λ_ _=>aC (λ_=>aA trivial) λ_=>aA trivial
theorem aSM(l:List Int)(b:l.length<=1000)(i:Nat): Sx λn m=>mV uM n m (l,ln l) (i:Int):=
 bF<|aY (λx d a=>by
  rw[cD<|by omega];exact bN λ_=>aC (λ_=>aA trivial) λ_=>aSM l b<|i+1) λc=>aA trivial
termination_by l.length-i
theorem aVu(l:List Int)(a:l.length<=1000): Tt λn _=>iN n l:=
 aT<|aE (f:=λn _=>Qz n l) (Q:=λ_=>True) (aT<|aR (bB<|aSM l a 0) (λ_ _=>aA trivial) λ_ _=>aI rfl<|aA trivial) λ_ _=>aC (λ_=>aA trivial) λ_=>aA trivial
theorem aKc(e:aN)(b:e.Via.length<=1000)(a:e.Parts.length<=1000): Tt λn _=>Rb n e:=by
 have c:TC λn=>iP n e.Via:=⟨aVv _ b⟩;have f:TC λn=>iN n e.Parts:=⟨aVu _ a⟩;refine aW (λ_=>rfl) ?_;repeat' first|apply eK|apply aC|apply bN|intro
instance aYe{x:aN}: TC (λn=>EK n x):=⟨by repeat' first|apply eK|apply aC|apply bN|intro⟩
instance aYd{x:aN}: TC (λn=>EJ n x):=⟨by repeat' first|apply eK|apply aC|apply bN|intro⟩
instance aYc{x:aN}: TC (λn=>EH n x):=⟨by repeat' first|apply eK|apply aC|apply bN|intro⟩
def aCH(e:aN): Prop:=e.Via.length<=64/\e.Parts.length<=64
theorem aPK(x:Int)(h:0<=x/\x<=1000000000): IntKind.u64.wrap x=x:=by
 have e:IntKind.u64.wrap x=x % 18446744073709551616:=by simp[IntKind.wrap,IntKind.bits,IntKind.signed]
 rw[e];omega
theorem aKE(f g:Nat)(h:f+g<=10000000): wr (Int.fdiv (IntKind.u64.wrap<|wr<|(f:Int)+(g:Int)) 2)=(((f+g) / 2:Nat):Int):=by
 have a:wr ((f:Int)+(g:Int))=((f+g:Nat):Int):=by rw[wr,i64_in _<|by omega];omega
 rw[a,aPK _<|by omega,Int.fdiv_eq_ediv_of_nonneg _<|by omega,wr,i64_in _<|by omega];omega
theorem Xv(l:List Aab)(b:Int)(a:l.length<=1000)(f g:Nat)(e:f<=g)(c:g<=l.length): aB (λn m=>Ob uQ n m (l,b) ((f:Int),(g:Int))) λr=>0<=r/\r.toNat<=l.length:=by
 refine eD<|aC (λh=>?_) λ_=>aA ⟨by show (0:Int)<=(f:Int);omega,by show (f:Int).toNat<=_;omega⟩;have h:(f:Int)<(g:Int):=Zl h;have d:(f+g) / 2<l.length:=by omega
 rw[aKE f g<|by omega];refine aI (x:=l[(f+g) / 2]) (by rw[bL];exact Zb d)<|aE (f:=λn _=>lM n (l[(f+g) / 2],b)) (Q:=λ_=>True) (aT<|aE (iX _ _) λ_ _=>aA trivial) λ_ _=>aC (λ_=>?_) λ_=>Xv l b a f ((f+g) / 2) (by omega) (by omega);rw[cD<|by omega];exact Xv l b a ((f+g) / 2+1) g (by omega) c
termination_by g-f
theorem aK7(a:aJ)(b:Int)(g:a.Plan.Nodes.length<=1000): aB (λn _=>lN n a b) λr=>0<=r.1/\r.1.toNat<=a.Plan.Nodes.length/\(r.2=true->r.1.toNat<a.Plan.Nodes.length):=by
 refine aW (λ_=>rfl)<|aR (f:=λn _=>Cf n (a.Plan.Nodes,b)) (Q:=λv=>0<=v.2.1/\v.2.1.toNat<a.Plan.Nodes.length) (R:=λv=>0<=v/\v.toNat<=a.Plan.Nodes.length) (aT<|aE (bB<|Xv _ b g 0 a.Plan.Nodes.length (by omega)<|Zf _) λf e=>aC (λh=>?_) λ_=>aA<|by exact e) (λv c=>aC (λ_=>aA ⟨c.1,by have:=c.2;show v.2.1.toNat<=_;omega,λ_=>c.2⟩) λ_=>aA ⟨c.1,by have:=c.2;show v.2.1.toNat<=_;omega,λh=>by cases h⟩) λv c=>aI rfl<|aA ⟨c.1,c.2,λh=>by cases h⟩;have h:f<ln a.Plan.Nodes:=Zl h;have d:f.toNat<a.Plan.Nodes.length:=by unfold ln at h;omega
 exact aI (Gd e.1 d)<|aE (f:=λn _=>lM n (a.Plan.Nodes[f.toNat],b)) (Q:=λ_=>True) (aT<|aE (iX _ _) λ_ _=>aA trivial) λ_ _=>aC (λ_=>aA<|by exact⟨e.1,d⟩) λ_=>aA<|by exact⟨e.1,d⟩
theorem OH(l:List aP)(b:Int)(a:l.length<=1000)(f g:Nat)(e:f<=g)(c:g<=l.length): aB (λn m=>Ob wR n m (l,b) ((f:Int),(g:Int))) λr=>0<=r/\r.toNat<=l.length:=by
 refine eD<|aC (λh=>?_) λ_=>aA ⟨by show (0:Int)<=(f:Int);omega,by show (f:Int).toNat<=_;omega⟩;have h:(f:Int)<(g:Int):=Zl h;have d:(f+g) / 2<l.length:=by omega
 rw[aKE f g<|by omega];refine aI (x:=l[(f+g) / 2]) (by rw[bL];exact Zb d)<|aE (f:=λn _=>oK n (l[(f+g) / 2],b)) (Q:=λ_=>True) (aT<|aE (iX _ _) λ_ _=>aA trivial) λ_ _=>aC (λ_=>?_) λ_=>OH l b a f ((f+g) / 2) (by omega) (by omega);rw[cD<|by omega];exact OH l b a ((f+g) / 2+1) g (by omega) c
termination_by g-f
theorem aO7(a:aJ)(b:Int)(g:a.Plan.Arcs.length<=1000): aB (λn _=>uR n a b) λr=>0<=r.1/\r.1.toNat<=a.Plan.Arcs.length/\(r.2=true->r.1.toNat<a.Plan.Arcs.length):=by
 refine aW (λ_=>rfl)<|aR (f:=λn _=>Gg n (a.Plan.Arcs,b)) (Q:=λv=>0<=v.2.1/\v.2.1.toNat<a.Plan.Arcs.length) (R:=λv=>0<=v/\v.toNat<=a.Plan.Arcs.length) (aT<|aE (bB<|OH _ b g 0 a.Plan.Arcs.length (by omega)<|Zf _) λf e=>aC (λh=>?_) λ_=>aA<|by exact e) (λv c=>aC (λ_=>aA ⟨c.1,by have:=c.2;show v.2.1.toNat<=_;omega,λ_=>c.2⟩) λ_=>aA ⟨c.1,by have:=c.2;show v.2.1.toNat<=_;omega,λh=>by cases h⟩) λv c=>aI rfl<|aA ⟨c.1,c.2,λh=>by cases h⟩;have h:f<ln a.Plan.Arcs:=Zl h;have d:f.toNat<a.Plan.Arcs.length:=by unfold ln at h;omega
 exact aI (Gd e.1 d)<|aE (f:=λn _=>oK n (a.Plan.Arcs[f.toNat],b)) (Q:=λ_=>True) (aT<|aE (iX _ _) λ_ _=>aA trivial) λ_ _=>aC (λ_=>aA<|by exact⟨e.1,d⟩) λ_=>aA<|by exact⟨e.1,d⟩
theorem yL(l:List aD)(b:Int)(a:l.length<=1000)(f g:Nat)(e:f<=g)(c:g<=l.length): aB (λn m=>Ob nX n m (l,b) ((f:Int),(g:Int))) λr=>0<=r/\r.toNat<=l.length:=by
 refine eD<|aC (λh=>?_) λ_=>aA ⟨by show (0:Int)<=(f:Int);omega,by show (f:Int).toNat<=_;omega⟩;have h:(f:Int)<(g:Int):=Zl h;have d:(f+g) / 2<l.length:=by omega
 rw[aKE f g<|by omega];refine aI (x:=l[(f+g) / 2]) (by rw[bL];exact Zb d)<|aE (f:=λn _=>gM n (l[(f+g) / 2],b)) (Q:=λ_=>True) (aT<|aE (iX _ _) λ_ _=>aA trivial) λ_ _=>aC (λ_=>?_) λ_=>yL l b a f ((f+g) / 2) (by omega) (by omega);rw[cD<|by omega];exact yL l b a ((f+g) / 2+1) g (by omega) c
termination_by g-f
theorem aEm(a:aJ)(b:Int)(g:a.Features.length<=1000): aB (λn _=>sE n a b) λr=>0<=r.1/\r.1.toNat<=a.Features.length/\(r.2=true->r.1.toNat<a.Features.length):=by
 refine aW (λ_=>rfl)<|aR (f:=λn _=>sD n (a.Features,b)) (Q:=λv=>0<=v.2.1/\v.2.1.toNat<a.Features.length) (R:=λv=>0<=v/\v.toNat<=a.Features.length) (aT<|aE (bB<|yL _ b g 0 a.Features.length (by omega)<|Zf _) λf e=>aC (λh=>?_) λ_=>aA<|by exact e) (λv c=>aC (λ_=>aA ⟨c.1,by have:=c.2;show v.2.1.toNat<=_;omega,λ_=>c.2⟩) λ_=>aA ⟨c.1,by have:=c.2;show v.2.1.toNat<=_;omega,λh=>by cases h⟩) λv c=>aI rfl<|aA ⟨c.1,c.2,λh=>by cases h⟩;have h:f<ln a.Features:=Zl h;have d:f.toNat<a.Features.length:=by unfold ln at h;omega
 exact aI (Gd e.1 d)<|aE (f:=λn _=>gM n (a.Features[f.toNat],b)) (Q:=λ_=>True) (aT<|aE (iX _ _) λ_ _=>aA trivial) λ_ _=>aC (λ_=>aA<|by exact⟨e.1,d⟩) λ_=>aA<|by exact⟨e.1,d⟩
instance aWE{x:Int}: TC (λn=>fS n x):=⟨aW (λ_=>rfl) (by repeat' first|apply eK|apply aC|apply bN|intro)⟩
instance aXM{x y:Int}: TC (λn=>Nf n (x,y)):=⟨by repeat' first|apply eK|apply aC|apply bN|intro⟩
instance aV5{x y:Int}: TC (λn=>Ld n x y):=⟨aW (λ_=>rfl) (by repeat' first|apply eK|apply aC|apply bN|intro)⟩
instance aYj{x:Int}: TC (λn=>fV n x):=⟨aT (by repeat' first|apply eK|apply aC|apply bN|intro)⟩
theorem aB.both{α:Type}{P Q:α->Prop}{f:Nat->Nat->Option α}(h:aB f P)(k:aB f Q): aB f λr=>P r/\Q r:=by
 obtain⟨r,p,hr⟩:=h.val
 exact hr.imp λs e=>by rw[show s=r from e];exact⟨p,aB.uniq hr k⟩
structure aOD(a r:List Int): Prop where
 s:r.Pairwise (·<·)
 m:∀x,x∈r↔x∈a
theorem aOD.len{a b r s:List Int}(h:aOD a r)(k:aOD b s)(e:∀x,x∈a↔x∈b): r=s:=by
 have:∀{r s:List Int},r.Pairwise (·<·)->s.Pairwise (·<·)->(∀x,x∈r↔x∈s)->r=s:=by
  intro r
  induction r with
  | nil=>intro s _ _ h;cases s with
   | nil=>rfl
   | cons y s=>exact absurd ((h y).2 ZM) (by simp)
  | cons x r ih=>intro s hr hs h;cases s with
   | nil=>exact absurd ((h x).1 ZM) (by simp)
   | cons y s=>
    obtain⟨a1,a2⟩:=List.pairwise_cons.1 hr
    obtain⟨b1,b2⟩:=List.pairwise_cons.1 hs
    have e:x=y:=by
     rcases ZN.1 ((h x).1 ZM) with e | e
     .exact e
     .rcases ZN.1 ((h y).2 ZM) with e2 | e2
      .exact e2.symm
      .have:=a1 y e2;have:=b1 x e;omega
    subst e
    rw[ih a2 b2 λt=>⟨λht=>by
     rcases ZN.1 ((h t).1 (ZQ _ ht)) with e | e
     .have:=a1 t ht;omega
     .exact e,λht=>by
     rcases ZN.1 ((h t).2 (ZQ _ ht)) with e | e
     .have:=b1 t ht;omega
     .exact e⟩]
 exact this h.s k.s λx=>by rw[h.m,k.m,e]
section
abbrev As(l:List Int): Prop:=l.Pairwise (·<·)
variable {g:Int}{r s:List Int}
theorem As.uniq(h:As r)(k:As s)(e:∀x,x∈r↔x∈s): r=s:=aOD.len (a:=s) (b:=s) ⟨h,e⟩ ⟨k,λ_=>Iff.rfl⟩ λ_=>Iff.rfl
theorem As.len(hr:As r)(hs:As s)(hg:g∈r)(e:∀x,x∈s↔x∈r/\x≠g): s.length+1=r.length:=by
 have nd:r.Nodup:=hr.imp λh=>by omega
 have:s=r.erase g:=hs.uniq (hr.sublist List.erase_sublist) λx=>by rw[e,nd.mem_erase_iff];exact And.comm
 rw[this,List.length_erase_of_mem hg]
 have:=List.length_pos_of_mem hg
 omega
structure Swp(f g:Int)(l r:List Int): Prop where
 no:f∉l->r=l
 yes:f∈l->∃m,As m/\m.length+1=l.length/\(∀x,x∈m↔x∈l/\x≠f)/\As r/\(g=0->r=m)/\(g≠0->∀x,x∈r↔x∈m\/x=g)
theorem Swp.keep{f:Int}{l:List Int}(h:Swp f g l r)(a:f∈l)(b:g≠0)(c:g∉l): r.length=l.length:=by
 obtain⟨m,m1,m2,m3,m4,_,m6⟩:=h.yes a
 have:=m4.len m1 (g:=g) ((m6 b g).2 (.inr rfl)) λx=>by rw[m6 b x];exact⟨λh=>⟨.inl h,λe=>c (e▸((m3 x).1 h).1)⟩,λh=>h.1.elim id λe=>absurd e h.2⟩
 omega
end
structure FeI(l:List aD)(N i:Nat): Prop where
 len:l.length=N
 lo:∀(j:Nat) (f:aD),l[j]?=some f->f.Parts.length<=65
 hi:∀(j:Nat) (f:aD),i<=j->l[j]?=some f->f.Parts.length<=64
theorem FeI.next{l:List aD}{N i:Nat}(h:FeI l N i): FeI l N<|i+1:=⟨h.len,h.lo,λj f a=>h.hi j f<|by omega⟩
theorem FeI.set{l:List aD}{N i:Nat}(h:FeI l N i){g:aD}(b:g.Parts.length<=65): FeI (l.set i g) N<|i+1:=by
 refine⟨by rw[Yr];exact h.len,λj f a=>?_,λj f c a=>?_⟩
 .rw[Z5] at a;split at a
  .split at a
   .cases a;exact b
   .cases a
  .exact h.lo j f a
 .rw[Zv<|by omega] at a;exact h.hi j f (by omega) a
theorem FeI.all{l:List aD}{N i:Nat}(h:FeI l N i): ∀f∈l,f.Parts.length<=65:=λf a=>by
 let⟨j,b⟩:=Yi.1 a;exact h.lo j f b
theorem FeI.at{l:List aD}{N i:Nat}(h:FeI l N i)(c:N<=1000)(b:(i:Int)<(N:Int)): ∃f,f.Parts.length<=64/\iL l l.length (i:Int)=some f/\idx l (i:Int)=some f:=by
 have a:i<l.length:=by rw[h.len];omega
 have e:=Zb a;exact⟨l[i],h.hi i _ (Zf _) e,by rw[Aa a];exact e,by rw[bL];exact e⟩
theorem aEQ.at{l:List aP}{N i:Nat}(h:aEQ l N)(c:i<N): ∃a,l[i]?=some a/\iL l l.length (i:Int)=some a/\idx l (i:Int)=some a:=by
 have b:i<l.length:=by rw[h.1];omega
 have e:=Zb b;exact⟨l[i],e,by rw[Aa b];exact e,by rw[bL];exact e⟩
section
variable {α:Type}(l:List α)(z:α)(hl:l.length<=1000)(j:Nat)(hj:j<l.length)
include hl hj
end
theorem aM0{α:Type}{l:List α}{w:Option<|Nat×Nat}{x:α}(h:x∈win l w): x∈l:=by
 cases w with
 | none=>exact h
 | some w=>exact ZZ<|Z7 h
def aMe: Prop:=∀(p q:aM) (x:Int),Sm p->Sm q->Tt (λn _=>dJ n p q x)
theorem aR4(f:KG)(a:List Int)(b:List Aab)(c:List aP)(d:List aD)(e:Int)(i:pL ⟨⟨b,c,a⟩,d⟩): aB (λn _=>cN n (a,b,c,d,e)) λr=>r=0->OK ⟨⟨b,c,a⟩,d⟩:=
 aC (λ_=>aE (K3 f _ i) λr j=>aA j) λh=>aA λg=>by rw[g] at h;simp at h
theorem aJc(j:aMe)(s:aJ)(t:aN)(a:List Int)(b:List Aab)(c:List aP)(d:List aD)(e:Int)(k:Int)(g:Sm s.Plan)(i:Sm ⟨b,c,a⟩): aB (λn _=>fJ n (s,t,a,b,c,d,e,k)) λr=>r=0->e=0:=
 aE (f:=λn _=>It n (s,t,a,b,c,d,e,k)) (Q:=λ_=>True) (aC (λ_=>aC (λ_=>aE (j _ _ _ g i) λ_ _=>aC (λ_=>aA trivial) λ_=>aA trivial) λ_=>aC (λ_=>aE (j _ _ _ g i) λ_ _=>aC (λ_=>aA trivial) λ_=>aA trivial) λ_=>aA trivial) λ_=>aA trivial) λ_ _=>aC (λ_=>aA<|by simp) λ_=>aA λh=>h
theorem OK.ar{s:aJ}(h:OK s): aEQ s.Plan.Arcs s.Plan.Arcs.length:=⟨rfl,h.ok.p.v⟩
def aGl(l:List aD): Prop:=l.length<=1000/\∀f∈l,f.Parts.length<=1000
theorem OK.fs{s:aJ}(h:OK s): aGl s.Features:=⟨h.ok.n,h.ok.f⟩
theorem aGl.set{l:List aD}(h:aGl l){i:Nat}{g:aD}(b:g.Parts.length<=1000): aGl<|l.set i g:=⟨by rw[Yr];exact h.1,λf a=>by
 rcases YL a with a | rfl
 .exact h.2 f a
 .exact b⟩
theorem aUj.mem{l:List Int}{k:Nat}(h:aUj l k){x:Int}(a:x∈l): 1<=x/\x.toNat<=k:=by
 rw[h] at a;obtain⟨j,b,rfl⟩:=Yh.1 a;have:=Ws.1 b;omega
def Ft(l:List aD): Prop:=l.length<=1000/\∀f∈l,f.Parts.length<=65
def Ar(l:List aP): Prop:=l.length<=300/\∀a∈l,a.Via.length<=300
theorem aEQ.le{l:List aP}{k:Nat}(h:aEQ l k)(a:k<=300): Ar l:=⟨by rw[h.1];exact a,h.2⟩
theorem aQ2{n:List Aab}{a:List aP}{f:List Int}{l:List aD}(e:n.length<=300)(c:Ar a)(d:f.length<=300)(b:aGl l): pL ⟨⟨n,a,f⟩,l⟩:=⟨⟨e,c.1,d,c.2⟩,b.1,b.2⟩
theorem Ft.ok{l:List aD}(h:Ft l): aGl l:=⟨h.1,λf a=>by have:=h.2 f a;omega⟩
theorem Ar.win{l:List aP}(h:Ar l)(w:Option<|Nat×Nat): Ar<|win l w:=⟨by
 cases w with
 | none=>exact h.1
 | some w=>simp only[Av.win];rw[ZH,ZV];have:=h.1;omega,λa b=>h.2 a<|aM0 b⟩
theorem aFW{x y:Int}(h:NY x y=0): x=y:=by
 unfold NY at h
 split at h
 .cases h
 .split at h
  .cases h
  .omega
theorem aLU(a:aJ)(b:Int)(g:a.Plan.Arcs.length<=1000): aB (λn _=>uR n a b) λr=>r.2=true->∃c,a.Plan.Arcs[r.1.toNat]?=some c/\c.ID=b:=by
 refine aW (λ_=>rfl) (aR (f:=λn _=>Gg n (a.Plan.Arcs,b)) (Q:=λv=>v.2.2=true->∃c,a.Plan.Arcs[v.2.1.toNat]?=some c/\c.ID=b) (R:=λ_=>True) (aT (aE (bB (OH _ b g 0 a.Plan.Arcs.length (by omega) (Zf _))) λf e=>aC (λh=>?_) λ_=>aA trivial)) (λv c=>aC (λh=>aA λ_=>c h) λ_=>aA λh=>by cases h) λv c=>aI rfl (aA λh=>by cases h))
 have h:f<ln a.Plan.Arcs:=Zl h
 have d:f.toNat<a.Plan.Arcs.length:=by unfold ln at h;omega
 refine aI (Gd e.1 d) (aE (f:=λn _=>oK n (a.Plan.Arcs[f.toNat],b)) (Q:=λr=>r=NY (a.Plan.Arcs[f.toNat]).ID b) (aT (aE (iX _ _) λ_ k=>aA k)) λr k=>aC (λh=>aA (show true=true->∃c,a.Plan.Arcs[f.toNat]?=some c/\c.ID=b from λ_=>⟨_,Zb d,aFW ?_⟩)) λ_=>aA (show false=true->_ from λh=>by cases h))
 rw[<-show r=_ from k]
 simpa using h
theorem aLs{f:Nat->Nat->Option Int}{k:Nat->Nat->Int->Option Int}{s:aJ}(e:Int)(i:aB f λr=>r=0->OK s)(c:e≠0->aB f λr=>r≠0)(b:∀r,aB (λn m=>k n m r) λq=>q=0->r=0): aB (λn m=>Av.bnd (f n m) λr=>Av.bnd (k n m r) λq=>Av.cnd (q != 0) (some ((⟨⟨[],[],[]⟩,[]⟩:aJ),q)) (some (s,0))) λv=>v.2=0->OK v.1/\v.1=s/\e=0:=by
 have er:∀q:Int,(q != 0)=true->aB (λ_ _=>some ((⟨⟨[],[],[]⟩,[]⟩:aJ),q)) λv=>v.2=0->OK v.1/\v.1=s/\e=0:=λq h=>aA λc=>by rw[show q=0 from c] at h;simp at h
 by_cases he:e=0
 .exact aE i λr d=>aE (b r) λq a=>aC (er q) λh=>aA λ_=>⟨d (a (by simpa using h)),rfl,he⟩
 .exact aE (c he) λr d=>aE (b r) λq a=>aC (er q) λh=>absurd (a (by simpa using h)) d
theorem cz{e:Int}{x:Nat->Nat->Option Int}(h:e≠0): aB (λn m=>cnd (e==0) (x n m) (some e)) λr=>r≠0:=
 aC (λk=>absurd (by simpa using k) h) λ_=>aA h
theorem kd3{k a b c:Int}: aB (λ_ _=>cnd (k==a) (some true) (cnd (k==b) (some true) (cnd (k==c) (some true) (some false)))) λr=>r=true↔k=a\/k=b\/k=c:=by
 refine aC (λz=>aA ⟨λ_=>.inl (by simpa using z),λ_=>rfl⟩) λz1=>aC (λz=>aA ⟨λ_=>.inr (.inl (by simpa using z)),λ_=>rfl⟩) λz2=>aC (λz=>aA ⟨λ_=>.inr (.inr (by simpa using z)),λ_=>rfl⟩) λz3=>aA ⟨by simp,λz=>?_⟩
 simp at z1 z2 z3
 omega
theorem aIv(a:aJ)(b:Int)(g:a.Plan.Nodes.length<=1000): aB (λn _=>lN n a b) λr=>r.2=true->∃c,a.Plan.Nodes[r.1.toNat]?=some c/\c.ID=b:=by
 refine aW (λ_=>rfl) (aR (f:=λn _=>Cf n (a.Plan.Nodes,b)) (Q:=λv=>v.2.2=true->∃c,a.Plan.Nodes[v.2.1.toNat]?=some c/\c.ID=b) (R:=λ_=>True) (aT (aE (bB (Xv _ b g 0 a.Plan.Nodes.length (by omega) (Zf _))) λf e=>aC (λh=>?_) λ_=>aA trivial)) (λv c=>aC (λh=>aA λ_=>c h) λ_=>aA λh=>by cases h) λv c=>aI rfl (aA λh=>by cases h))
 have h:f<ln a.Plan.Nodes:=Zl h
 have d:f.toNat<a.Plan.Nodes.length:=by unfold ln at h;omega
 refine aI (Gd e.1 d) (aE (f:=λn _=>lM n (a.Plan.Nodes[f.toNat],b)) (Q:=λr=>r=NY (a.Plan.Nodes[f.toNat]).ID b) (aT (aE (iX _ _) λ_ k=>aA k)) λr k=>aC (λh=>aA (show true=true->∃c,a.Plan.Nodes[f.toNat]?=some c/\c.ID=b from λ_=>⟨_,Zb d,aFW ?_⟩)) λ_=>aA (show false=true->_ from λh=>by cases h))
 rw[<-show r=_ from k]
 simpa using h
theorem aIG(a:aJ)(b:Int)(g:a.Features.length<=1000): aB (λn _=>sE n a b) λr=>r.2=true->∃c,a.Features[r.1.toNat]?=some c/\c.ID=b:=by
 refine aW (λ_=>rfl) (aR (f:=λn _=>sD n (a.Features,b)) (Q:=λv=>v.2.2=true->∃c,a.Features[v.2.1.toNat]?=some c/\c.ID=b) (R:=λ_=>True) (aT (aE (bB (yL _ b g 0 a.Features.length (by omega) (Zf _))) λf e=>aC (λh=>?_) λ_=>aA trivial)) (λv c=>aC (λh=>aA λ_=>c h) λ_=>aA λh=>by cases h) λv c=>aI rfl (aA λh=>by cases h))
 have h:f<ln a.Features:=Zl h
 have d:f.toNat<a.Features.length:=by unfold ln at h;omega
 refine aI (Gd e.1 d) (aE (f:=λn _=>gM n (a.Features[f.toNat],b)) (Q:=λr=>r=NY (a.Features[f.toNat]).ID b) (aT (aE (iX _ _) λ_ k=>aA k)) λr k=>aC (λh=>aA (show true=true->∃c,a.Features[f.toNat]?=some c/\c.ID=b from λ_=>⟨_,Zb d,aFW ?_⟩)) λ_=>aA (show false=true->_ from λh=>by cases h))
 rw[<-show r=_ from k]
 simpa using h
def FC(s:aJ): Prop:=aB (λn _=>cC n s) λr=>r=0
theorem aLr{f:Nat->Nat->Option Int}{k:Nat->Nat->Int->Option Int}{s:aJ}{v:Int}(hv:aB (λn _=>cC n s) λr=>r=v)(hi:v=0->OK s)(i:aB f λr=>r=v)(b:∀r,aB (λn m=>k n m r) λq=>q=0->r=0): aB (λn m=>Av.bnd (f n m) λr=>Av.bnd (k n m r) λq=>Av.cnd (q != 0) (some ((⟨⟨[],[],[]⟩,[]⟩:aJ),q)) (some (s,0))) λw=>w.2=0->OK s/\FC s/\w.1=s:=
 aE i λr d=>aE (b r) λq a=>aC (λh=>aA λc=>by rw[show q=0 from c] at h;simp at h) λh=>aA λ_=>by
  have r0:r=0:=a (by simpa using h)
  have v0:v=0:=by rw[<-show r=v from d];exact r0
  exact⟨hi v0,by rw[v0] at hv;exact hv,rfl⟩
theorem P8v{a:List Int}{b:List Aab}{c:List aP}{d:List aD}{v:Int}(hv:aB (λn _=>cC n ⟨⟨b,c,a⟩,d⟩) λr=>r=v): aB (λn _=>cN n (a,b,c,d,0)) λr=>r=v:=
 aC (b:=((0:Int)==0)) (P:=λr=>r=v) (x:=λn _=>Av.bnd (cC n ⟨⟨b,c,a⟩,d⟩) λh=>some h) (y:=λ_ _=>some 0) (λ_=>aE hv λr h=>aA h) λh=>by simp at h
section
variable (d:KG)(e:aMe)(s:aJ)(a:OK s)(g:aN)(hg:aCH g)
include a in
theorem aUr(b:List Int)(hk:g.Kind=3): aB (λn _=>Ms n (s.Plan.Faces,b,s.Plan.Nodes,s.Plan.Arcs,s.Features,g)) (Su (λv=>v.1.length<=257/\(v.2≠0\/(v.2=0/\∃i y,s.Plan.Nodes[i]?=some y/\y.ID=g.ID/\v.1=s.Plan.Nodes.set i ⟨y.ID,g.At⟩))) (Su (λ_=>False) λ_=>False)):=by
 have m:=a.v.leN
 refine aT (aE ((aK7 s g.ID (by omega)).both (aIv s g.ID (by omega))) λl c=>aC (λi=>?_) λi=>aC (λz=>by rw[hk] at z;simp at z) λ_=>aA (by exact⟨show s.Plan.Nodes.length<=257 by omega,.inl (show (7:Int)≠0 by decide)⟩))
 obtain⟨⟨c1,c2,c3⟩,cx⟩:=c
 have h:=c3 i
 obtain⟨y,hy,hid⟩:=cx i
 obtain⟨q,j⟩:∃q:Nat,l.1=(q:Int):=⟨l.1.toNat,by omega⟩
 rw[j,YA] at h hy
 rw[j]
 refine aC (λz=>by rw[hk] at z;simp at z) λ_=>aC (λ_=>aI (x:=y) (by rw[Aa h];exact hy) (aI (x:=y) (by rw[bL];exact hy) (aA (by
  refine⟨?_,.inr ⟨rfl,q,y,hy,hid,?_⟩⟩
  .show (List.set _ _ _).length<=257;rw[Yr];omega
  .show List.set _ (Int.toNat (q:Int)) _=_;rw[YA])))) λz=>by rw[hk] at z;simp at z
include d e a in
theorem aNk(hk:g.Kind=3): aB (λn _=>nB n s g) λr=>r.2=0->OK r.1/\FC r.1/\∃i y,s.Plan.Nodes[i]?=some y/\y.ID=g.ID/\r.1=⟨⟨s.Plan.Nodes.set i ⟨y.ID,g.At⟩,s.Plan.Arcs,s.Plan.Faces⟩,s.Features⟩:=by
 have ok:=a.ok
 have c:=a.ar.le (by have:=a.v.leA;omega)
 have k:s.Plan.Faces.length<=300:=by have:=a.v.leF;omega
 refine aW (λ_=>rfl) (aE (aKm s ok) λc m=>?_)
 subst m
 refine aE (f:=λn _=>jN n g.Kind) (Q:=λr=>r=true↔(g.Kind=1\/g.Kind=2\/g.Kind=3)) kd3 λc4 h4=>aC (λ_=>?_) λz=>by rw[h4.2 (.inr (.inr hk))] at z;cases z
 refine aR (aUr s a g s.Plan.Faces hk) (λv x=>?_) λu w=>by rcases u with u | u<;>exact w.elim
 obtain⟨v1,v2⟩:=v
 obtain⟨xl,x⟩:=x
 have o:=aQ2 (n:=v1) (show v1.length<=300 from ZB xl (by decide)) c k a.fs
 rcases x with x | ⟨x,i,y,h1,h2,h3⟩
 .exact (aLs v2 (aR4 d _ _ _ _ _ o) (λh=>cz h) λr=>aJc e s g _ _ _ _ r g.ID ok.p o.p).imp λw q z=>absurd (q z).2.2 x
 .obtain rfl:v2=0:=x
  obtain⟨r,hr,hv⟩:=(K3 d _ o).val
  refine (aLr hv hr (P8v hv) λr=>aJc e s g _ _ _ _ r g.ID ok.p o.p).imp λw q z=>?_
  obtain⟨q1,q2,q3⟩:=q z
  rw[q3]
  exact⟨q1,q2,i,y,h1,h2,by rw[show v1=_ from h3]⟩
include a hg in
theorem aR9(b:List Int)(hk:g.Kind=6): aB (λn _=>Iw n (s.Plan.Faces,b,s.Plan.Nodes,s.Plan.Arcs,s.Features,g)) (Su (λ_=>False) (Su (λ_=>False) (Su (λ_=>False) (Su (λ_=>False) (Su (λv=>Ar v.1/\(v.2≠0\/(v.2=0/\∃i y,s.Plan.Arcs[i]?=some y/\y.ID=g.ID/\v.1=s.Plan.Arcs.set i ⟨y.ID,y.From,y.To,g.Via,y.Left,y.Right⟩))) λ_=>False))))):=by
 have H:=a.v.leA
 have d:=a.ar.le (by omega)
 refine aT (aC (λz=>by rw[hk] at z;simp at z) λ_=>aE ((aO7 s g.ID (by omega)).both (aLU s g.ID (by omega))) λm ho=>aC (λB=>?_) λ_=>aA (by exact⟨d,.inl (show (7:Int)≠0 by decide)⟩))
 obtain⟨⟨o1,o2,o3⟩,ox⟩:=ho
 have c:=o3 B
 obtain⟨y,hy,hid⟩:=ox B
 obtain⟨q,x⟩:∃q:Nat,m.1=(q:Int):=⟨m.1.toNat,by omega⟩
 rw[x,YA] at c hy
 rw[x]
 refine aC (λ_=>aE (aTk g.Via (by have:=hg.1;omega)) λt F=>aI (x:=y) (by rw[Aa c];exact hy) (aI (x:=y) (by rw[bL];exact hy) (aA ?_))) λz=>by rw[hk] at z;simp at z
 subst F
 refine⟨⟨?_,λa i=>?_⟩,.inr ⟨rfl,q,y,hy,hid,?_⟩⟩
 .show (List.set _ _ _).length<=300;rw[Yr];exact d.1
 .rcases YL i with i | rfl
  .exact d.2 a i
  .have:=hg.1;show g.Via.length<=300;omega
 .show List.set _ (Int.toNat (q:Int)) _=_;rw[YA]
include d e a hg in
theorem aNm(hk:g.Kind=6): aB (λn _=>nB n s g) λr=>r.2=0->OK r.1/\FC r.1/\∃i y,s.Plan.Arcs[i]?=some y/\y.ID=g.ID/\r.1=⟨⟨s.Plan.Nodes,s.Plan.Arcs.set i ⟨y.ID,y.From,y.To,g.Via,y.Left,y.Right⟩,s.Plan.Faces⟩,s.Features⟩:=by
 have ok:=a.ok
 have h:s.Plan.Nodes.length<=300:=by have:=a.v.leN;omega
 have k:s.Plan.Faces.length<=300:=by have:=a.v.leF;omega
 refine aW (λ_=>rfl) (aE (aKm s ok) λc m=>?_)
 subst m
 refine aE (f:=λn _=>jN n g.Kind) (Q:=λr=>r=true↔(g.Kind=1\/g.Kind=2\/g.Kind=3)) kd3 λc4 h4=>aC (λz=>by have:=h4.1 z;omega) λ_=>aE (f:=λn _=>mZ n g.Kind) (Q:=λr=>r=true↔(g.Kind=4\/g.Kind=5\/g.Kind=6)) kd3 λc17 h17=>aC (λ_=>?_) λz=>by rw[h17.2 (.inr (.inr hk))] at z;cases z
 refine aR (aR9 s a g hg s.Plan.Faces hk) (λv b=>b.elim) λu b=>?_
 rcases u with v | u
 .exact b.elim
 rcases u with v | u
 .exact b.elim
 rcases u with v | u
 .exact b.elim
 rcases u with v | u
 .obtain⟨v1,v2⟩:=v
  obtain⟨xl,x⟩:=b
  have o:=aQ2 h xl k a.fs
  rcases x with x | ⟨x,i,y,h1,h2,h3⟩
  .exact (aLs v2 (aR4 d _ _ _ _ _ o) (λh=>cz h) λr=>aJc e s g _ _ _ _ r 0 ok.p o.p).imp λw q z=>absurd (q z).2.2 x
  .obtain rfl:v2=0:=x
   obtain⟨r,hr,hv⟩:=(K3 d _ o).val
   refine (aLr hv hr (P8v hv) λr=>aJc e s g _ _ _ _ r 0 ok.p o.p).imp λw q z=>?_
   obtain⟨q1,q2,q3⟩:=q z
   rw[q3]
   exact⟨q1,q2,i,y,h1,h2,by rw[show v1=_ from h3]⟩
 .exact b.elim
def Cg(g:aN)(y:aD): aD:=if g.Kind=9 then⟨y.ID,y.Kind,y.Class,g.Name,y.Parts⟩ else⟨y.ID,y.Kind,g.B,y.Name,y.Parts⟩
include a in
theorem aR8(b:List Int)(hk:g.Kind=9\/g.Kind=10): aB (λn _=>Iu n (s.Plan.Faces,b,s.Plan.Nodes,s.Plan.Arcs,s.Features,g)) (Su (λv=>aGl v.1/\(v.2≠0\/(v.2=0/\∃i y,s.Features[i]?=some y/\y.ID=g.ID/\v.1=s.Features.set i (Cg g y)))) (Su (λ_=>False) λ_=>False)):=by
 have x:=a.n
 have c:=a.fs
 have n7:g.Kind≠7:=by omega
 refine aT (aE ((aEm s g.ID (by omega)).both (aIG s g.ID (by omega))) λl ho=>aC (λB=>?_) λ_=>aC (λz=>absurd (by simpa using z) n7) λ_=>aA (by exact⟨c,.inl (show (7:Int)≠0 by decide)⟩))
 obtain⟨⟨o1,o2,o3⟩,ox⟩:=ho
 have h:=o3 B
 obtain⟨y,hy,hid⟩:=ox B
 obtain⟨q,j⟩:∃q:Nat,l.1=(q:Int):=⟨l.1.toNat,by omega⟩
 rw[j,YA] at h hy
 rw[j]
 have e1:iL s.Features s.Features.length (q:Int)=some y:=by rw[Aa h];exact hy
 have e2:idx s.Features (q:Int)=some y:=by rw[bL];exact hy
 have r:=c.2 _ (Zg hy)
 refine aC (λz=>absurd (by simpa using z) n7) λ_=>aC (λz=>by have:g.Kind=8:=(by simpa using z);omega) λ_=>aC (λz=>aI e1 (aI e2 (aA ?_))) λz=>aC (λ_=>aI e1 (aI e2 (aA ?_))) λz10=>?_
 .have z:g.Kind=9:=by simpa using z
  refine⟨c.set r,.inr ⟨rfl,q,y,hy,hid,?_⟩⟩
  show List.set _ (Int.toNat (q:Int)) _=_
  rw[YA,Cg,Zu z]
 .have z:¬g.Kind=9:=by simpa using z
  refine⟨c.set r,.inr ⟨rfl,q,y,hy,hid,?_⟩⟩
  show List.set _ (Int.toNat (q:Int)) _=_
  rw[YA,Cg,ZF z]
 .have z:¬g.Kind=9:=by simpa using z
  have z10:¬g.Kind=10:=by simpa using z10
  omega
include d e a in
theorem aNl(hk:g.Kind=9\/g.Kind=10): aB (λn _=>nB n s g) λr=>r.2=0->OK r.1/\FC r.1/\∃i y,s.Features[i]?=some y/\y.ID=g.ID/\r.1=⟨s.Plan,s.Features.set i (Cg g y)⟩:=by
 have ok:=a.ok
 have h:s.Plan.Nodes.length<=300:=by have:=a.v.leN;omega
 have i:=a.ar.le (by have:=a.v.leA;omega)
 have k:s.Plan.Faces.length<=300:=by have:=a.v.leF;omega
 refine aW (λ_=>rfl) (aE (aKm s ok) λc m=>?_)
 subst m
 refine aE (f:=λn _=>jN n g.Kind) (Q:=λr=>r=true↔(g.Kind=1\/g.Kind=2\/g.Kind=3)) kd3 λc4 h4=>aC (λz=>by have:=h4.1 z;omega) λ_=>aE (f:=λn _=>mZ n g.Kind) (Q:=λr=>r=true↔(g.Kind=4\/g.Kind=5\/g.Kind=6)) kd3 λc17 h17=>aC (λz=>by have:=h17.1 z;omega) λ_=>aC (λz=>by have:g.Kind=12:=(by simpa using z);omega) λ_=>?_
 refine aR (aR8 s a g s.Plan.Faces hk) (λv b=>?_) λu b=>by rcases u with u | u<;>exact b.elim
 obtain⟨v1,v2⟩:=v
 obtain⟨xl,x⟩:=b
 have o:=aQ2 h i k xl
 rcases x with x | ⟨x,i,y,h1,h2,h3⟩
 .exact (aLs v2 (aR4 d _ _ _ _ _ o) (λh=>cz h) λr=>aJc e s g _ _ _ _ r 0 ok.p o.p).imp λw q z=>absurd (q z).2.2 x
 .obtain rfl:v2=0:=x
  obtain⟨r,hr,hv⟩:=(K3 d _ o).val
  refine (aLr hv hr (P8v hv) λr=>aJc e s g _ _ _ _ r 0 ok.p o.p).imp λw q z=>?_
  obtain⟨q1,q2,q3⟩:=q z
  rw[q3]
  exact⟨q1,q2,i,y,h1,h2,by rw[show v1=_ from h3]⟩
end
theorem aLh{a b:Int}(h:0<=a)(k:0<=b): 0<=Gc a b/\Gc a b<=a/\Gc a b<=b/\(Gc a b=a\/Gc a b=b):=by
 unfold Gc
 split<;>omega
theorem aJu{x:Int}(h:-1000000<=x/\x<=1000000): wr x=x:=by rw[wr,i64_in _ (by omega)]
theorem aTB(p:aM)(c d:Int): aB (λn _=>P9 n (p,40,c,d)) λr=>r=true↔d<ln p.Arcs/\c<=40:=
 aC (λh=>aC (λk=>aA ⟨λ_=>⟨Zl h,Zl k⟩,λ_=>rfl⟩) λk=>aA ⟨by simp,λq=>absurd q.2 (Zp k)⟩) λh=>aA ⟨by simp,λq=>absurd q.1 (Zp h)⟩
theorem aPj(p:aM)(hl:p.Arcs.length<=40)(i:Nat)(c:Int)(h0:0<=c)(h1:c<=82)(hu:c<=40->wC p.Arcs i λa=>a.Via.length<=40): aB (λn m=>Ob Lx n m (p,40) (c,(i:Int))) λr=>r<=40->∀a∈p.Arcs,a.Via.length<=40:=
 eD (aE (aTB p c i) λr hr=>aC (λh=>by
  obtain⟨hi,hc⟩:=hr.1 h
  have hi:i<p.Arcs.length:=by unfold ln at hi;omega
  have em:=Zb hi
  refine aI (x:=p.Arcs[i]) (by rw[bL];exact em) ?_
  have b:=aLh (a:=ln p.Arcs[i].Via) (b:=41) (by unfold ln;omega) (by decide)
  rw[cD (i:=i) (by omega),show wr (40+1)=41 from aJu (by decide),aJu (x:=c+_) (by omega)]
  refine aPj p hl (i+1) _ (by omega) (by omega) λk=>(hu hc).step em ?_
  have:ln p.Arcs[i].Via<=40:=by omega
  unfold ln at this
  omega) λh=>aA λk=>(hu k).fin (by
   have:¬((i:Int)<ln p.Arcs/\c<=40):=λq=>by rw[hr.2 q] at h;cases h
   unfold ln at this
   omega))
termination_by p.Arcs.length-i
theorem aNY(p:aM): aB (λn _=>aCC n p 40) λr=>r=true->Sm p:=by
 refine aW (λ_=>rfl) (aE (f:=λn _=>Q0 n (p,40)) (Q:=λr=>r=false->p.Nodes.length<=40/\p.Arcs.length<=40/\p.Faces.length<=40) (aC (λ_=>aA (by simp)) λh=>aC (λ_=>aA (by simp)) λk=>aC (λ_=>aA (by simp)) λj=>aA λ_=>by
  have h:=Zp h
  have k:=Zp k
  have j:=Zp j
  unfold ln at h k j
  exact⟨by omega,by omega,by omega⟩) λr hr=>aC (λ_=>aA (by simp)) λh=>aE (bB (aPj p (hr h).2.1 0 0 (by omega) (by omega) λ_=>.nil)) λd hd=>aC (λk=>aA λ_=>?_) λ_=>aA (by simp))
 have q:=hr h
 exact⟨by omega,by omega,by omega,λa ha=>by have:=hd (Zl k) a ha;omega⟩
theorem aTA(s:aJ)(c d:Int): aB (λn _=>P6 n (s,40,c,d)) λr=>r=true↔d<ln s.Features/\c<=40:=
 aC (λh=>aC (λk=>aA ⟨λ_=>⟨Zl h,Zl k⟩,λ_=>rfl⟩) λk=>aA ⟨by simp,λq=>absurd q.2 (Zp k)⟩) λh=>aA ⟨by simp,λq=>absurd q.1 (Zp h)⟩
theorem aPi(s:aJ)(hl:s.Features.length<=40)(i:Nat)(c:Int)(h0:0<=c)(h1:c<=82)(hu:c<=40->wC s.Features i λa=>a.Parts.length<=40): aB (λn m=>Ob Lw n m (s,40) (c,(i:Int))) λr=>r<=40->∀a∈s.Features,a.Parts.length<=40:=
 eD (aE (aTA s c i) λr hr=>aC (λh=>by
  obtain⟨hi,hc⟩:=hr.1 h
  have hi:i<s.Features.length:=by unfold ln at hi;omega
  have em:=Zb hi
  refine aI (x:=s.Features[i]) (by rw[bL];exact em) ?_
  have b:=aLh (a:=ln s.Features[i].Parts) (b:=41) (by unfold ln;omega) (by decide)
  rw[cD (i:=i) (by omega),show wr (40+1)=41 from aJu (by decide),aJu (x:=c+_) (by omega)]
  refine aPi s hl (i+1) _ (by omega) (by omega) λk=>(hu hc).step em ?_
  have:ln s.Features[i].Parts<=40:=by omega
  unfold ln at this
  omega) λh=>aA λk=>(hu k).fin (by
   have:¬((i:Int)<ln s.Features/\c<=40):=λq=>by rw[hr.2 q] at h;cases h
   unfold ln at this
   omega))
termination_by s.Features.length-i
theorem aH2(s:aJ): aB (λn _=>A5 n s 40) λr=>r=true->pL s:=by
 refine aW (λ_=>rfl) (aE (f:=λn _=>P7 n (s,40)) (Q:=λr=>r=false->Sm s.Plan/\s.Features.length<=40) (aE (aNY s.Plan) λc hc=>aC (λz=>aC (λ_=>aA (by simp)) λj=>aA λ_=>⟨hc z,?_⟩) λ_=>aA (by simp)) λr hr=>aC (λ_=>aA (by simp)) λh=>aE (bB (aPi s (hr h).2 0 0 (by omega) (by omega) λ_=>.nil)) λd hd=>aC (λk=>aA λ_=>⟨(hr h).1,by have:=(hr h).2;omega,λf hf=>by have:=hd (Zl k) f hf;omega⟩) λ_=>aA (by simp))
 have j:=Zp j
 unfold ln at j
 omega
def NoF(x:aN): Prop:=x.A=0/\x.B=0/\x.C=0/\x.At=⟨0,0⟩/\x.Via=[]/\x.Name=⟨#[]⟩/\x.Parts=[]
theorem aT0(x:aN): aB (λn _=>wO n x) λr=>r=false->NoF x:=
 aC (λ_=>aA (by simp)) λa=>aC (λ_=>aA (by simp)) λb=>aC (λ_=>aA (by simp)) λc=>aC (λd=>aC (λ_=>aA (by simp)) λe=>aC (λf=>aC (λ_=>aA (by simp)) λg=>aA λ_=>by
  have e:=Zp e
  have g:=Zp g
  unfold ln at e g
  exact⟨by simpa using a,by simpa using b,by simpa using c,Zl d,ZK.1 (by omega),Zl f,ZK.1 (by omega)⟩) λ_=>aA (by simp)) λ_=>aA (by simp)
def aOG(g:aN): Prop:=(g.Kind=3->g=⟨3,g.ID,0,0,0,g.At,[],⟨#[]⟩,[]⟩)/\(g.Kind=6->g=⟨6,g.ID,0,0,0,⟨0,0⟩,g.Via,⟨#[]⟩,[]⟩)/\(g.Kind=9->g=⟨9,g.ID,0,0,0,⟨0,0⟩,[],g.Name,[]⟩)/\(g.Kind=10->g=⟨10,g.ID,0,g.B,0,⟨0,0⟩,[],⟨#[]⟩,[]⟩)
theorem aHx(k:Int)(h:k≠1): aB (λn _=>wP n k) λr=>r=true↔k=3:=
 aC (λz=>absurd (by simpa using z) h) λ_=>aC (λz=>aA (by simpa using z)) λz=>aA (by simpa using z)
theorem aHw(g x:aN)(h:aB (λn _=>wQ n g) λr=>r=x): aB (λn _=>nC n g) λr=>r=false->NoF x:=
 aW (λ_=>rfl) (aE h λr hr=>by
  subst hr
  exact aE (aT0 r) λc hc=>aC (λ_=>aA (by simp)) λz=>aA λ_=>hc z)
theorem aTz(g:aN): aB (λn _=>nC n g) λr=>r=false->aOG g:=by
 obtain⟨k,id,a,b,c,at_,via,nm,ps⟩:=g
 rcases Classical.em (k=3) with h | h3
 .subst h
  refine (aHw _ ⟨3,id,a,b,c,⟨0,0⟩,via,nm,ps⟩ (aE (aHx 3 (by decide)) λr hr=>aC (λ_=>aA rfl) λz=>by rw[hr.2 rfl] at z;cases z)).imp λr q z=>?_
  obtain⟨q1,q2,q3,q4,q5,q6,q7⟩:=q z
  simp only at q1 q2 q3 q5 q6 q7
  subst q1 q2 q3 q5 q6 q7
  exact⟨λ_=>rfl,λe=>absurd (show (3:Int)=6 from e) (by decide),λe=>absurd (show (3:Int)=9 from e) (by decide),λe=>absurd (show (3:Int)=10 from e) (by decide)⟩
 rcases Classical.em (k=6) with h | h6
 .subst h
  refine (aHw _ ⟨6,id,a,b,c,at_,[],nm,ps⟩ (aE (aHx 6 (by decide)) λr hr=>aC (λz=>absurd (hr.1 z) (by decide)) λ_=>aC (λz=>by simp at z) λ_=>aC (λ_=>aA rfl) λz=>by simp at z)).imp λr q z=>?_
  obtain⟨q1,q2,q3,q4,q5,q6,q7⟩:=q z
  simp only at q1 q2 q3 q4 q6 q7
  subst q1 q2 q3 q4 q6 q7
  exact⟨λe=>absurd (show (6:Int)=3 from e) (by decide),λ_=>rfl,λe=>absurd (show (6:Int)=9 from e) (by decide),λe=>absurd (show (6:Int)=10 from e) (by decide)⟩
 rcases Classical.em (k=9) with h | h9
 .subst h
  refine (aHw _ ⟨9,id,a,b,c,at_,via,⟨#[]⟩,ps⟩ (aE (aHx 9 (by decide)) λr hr=>aC (λz=>absurd (hr.1 z) (by decide)) λ_=>aC (λz=>by simp at z) λ_=>aC (λz=>by simp at z) λ_=>aC (λz=>by simp at z) λ_=>aC (λ_=>aA rfl) λz=>by simp at z)).imp λr q z=>?_
  obtain⟨q1,q2,q3,q4,q5,q6,q7⟩:=q z
  simp only at q1 q2 q3 q4 q5 q7
  subst q1 q2 q3 q4 q5 q7
  exact⟨λe=>absurd (show (9:Int)=3 from e) (by decide),λe=>absurd (show (9:Int)=6 from e) (by decide),λ_=>rfl,λe=>absurd (show (9:Int)=10 from e) (by decide)⟩
 rcases Classical.em (k=10) with h | h10
 .subst h
  refine (aHw _ ⟨10,id,a,0,c,at_,via,nm,ps⟩ (aE (aHx 10 (by decide)) λr hr=>aC (λz=>absurd (hr.1 z) (by decide)) λ_=>aC (λz=>by simp at z) λ_=>aC (λz=>by simp at z) λ_=>aC (λz=>by simp at z) λ_=>aC (λz=>by simp at z) λ_=>aC (λ_=>aA rfl) λz=>by simp at z)).imp λr q z=>?_
  obtain⟨q1,q2,q3,q4,q5,q6,q7⟩:=q z
  simp only at q1 q3 q4 q5 q6 q7
  subst q1 q3 q4 q5 q6 q7
  exact⟨λe=>absurd (show (10:Int)=3 from e) (by decide),λe=>absurd (show (10:Int)=6 from e) (by decide),λe=>absurd (show (10:Int)=9 from e) (by decide),λ_=>rfl⟩
 exact aB.imp (P:=λ_=>True) (TC.h (f:=λn=>nC n ⟨k,id,a,b,c,at_,via,nm,ps⟩)) λ_ _ _=>⟨λe=>absurd e h3,λe=>absurd e h6,λe=>absurd e h9,λe=>absurd e h10⟩
theorem aOh(e:aN): aB (λn _=>JA n e) λr=>r=0->aCH e/\aOG e:=by
 refine aW (λ_=>rfl) (bN λ_=>aC (λ_=>aA (by simp)) λ_=>bN λ_=>aC (λ_=>aA (by simp)) λ_=>aE (aTz e) λc hc=>aC (λ_=>aA (by simp)) λzc=>aE (f:=λn _=>EI n e) (Q:=λr=>r=false->aCH e) (aC (λ_=>aA (by simp)) λb=>aC (λ_=>aA (by simp)) λc=>aA λ_=>?_) λr d=>aC (λ_=>aA (by simp)) λh=>?_)
 .have b:=Zp b
  have c:=Zp c
  unfold ln at b c
  exact⟨by omega,by omega⟩
 .have a:=d h
  exact aE (aKc e (by have:=a.1;omega) (by have:=a.2;omega)) λr _=>aC (λz=>aE (aLj e.Parts (by have:=a.2;omega)) λ_ _=>aC (λ_=>bN λ_=>aC (λ_=>aA (by simp)) λ_=>aA λ_=>⟨a,hc zc⟩) λ_=>aA (by simp)) λ_=>aA (by simp)
def Frm(a:aJ)(g:aN)(b:aJ): Prop:=
 (g.Kind=3/\∃i y,a.Plan.Nodes[i]?=some y/\y.ID=g.ID/\b=⟨⟨a.Plan.Nodes.set i ⟨y.ID,g.At⟩,a.Plan.Arcs,a.Plan.Faces⟩,a.Features⟩) \/
 (g.Kind=6/\∃i y,a.Plan.Arcs[i]?=some y/\y.ID=g.ID/\b=⟨⟨a.Plan.Nodes,a.Plan.Arcs.set i ⟨y.ID,y.From,y.To,g.Via,y.Left,y.Right⟩,a.Plan.Faces⟩,a.Features⟩) \/
 ((g.Kind=9\/g.Kind=10)/\∃i y,a.Features[i]?=some y/\y.ID=g.ID/\b=⟨a.Plan,a.Features.set i (Cg g y)⟩)
theorem aLV(d:KG)(t:aMe)(s:aJ)(o:pL s)(g:aN)(hk:g.Kind=3\/g.Kind=6\/g.Kind=9\/g.Kind=10): aB (λn _=>dH n s g) λr=>r.2=0->aCH g/\aOG g/\OK s/\OK r.1/\Frm s g r.1:=
 aW (λ_=>rfl) (aE (aOh g) λc hc=>aC (λz=>aA λk=>absurd (show c=0 from k) (by simpa using z)) λz=>aE (K3 d s o) λe he=>aC (λy=>aA λk=>absurd (show e=0 from k) (by simpa using y)) λy=>by
  have hc:=hc (by simpa using z)
  have he:=he (by simpa using y)
  have P:aB (λn _=>nB n s g) λr=>r.2=0->OK r.1/\Frm s g r.1:=by
   rcases hk with k | k | k
   .exact (aNk d t s he g k).imp λr q z=>⟨(q z).1,.inl ⟨k,(q z).2.2⟩⟩
   .exact (aNm d t s he g hc.1 k).imp λr q z=>⟨(q z).1,.inr (.inl ⟨k,(q z).2.2⟩)⟩
   .exact (aNl d t s he g k).imp λr q z=>⟨(q z).1,.inr (.inr ⟨k,(q z).2.2⟩)⟩
  exact aE P λf hf=>aA λk=>⟨hc.1,hc.2,he,hf k⟩)
theorem shE(k:Int): ∃v:Int,aB (λn _=>cL n k) λr=>r=v:=by
 obtain⟨v,_,h⟩:=(TC.h (f:=λn=>cL n k)).val
 exact⟨v,h⟩
noncomputable def shV(k:Int): Int:=(shE k).choose
theorem aJH(k:Int): aB (λn _=>cL n k) λr=>r=shV k:=(shE k).choose_spec
def Lab(p:aM)(x:Int): Prop:=∃a,a∈p.Arcs/\(a.Left=x\/a.Right=x)
def wU(p:aM)(k x:Int): Prop:=(shV k=1/\(kB p x).2=true)\/(shV k=2/\(KB p x).2=true)\/(shV k=3/\x∈p.Faces)
structure SvX(s:aJ): Prop where
 ne:∀f∈s.Features,f.Parts≠[]
 sh:∀f∈s.Features,shV f.Kind≠0
 pt:∀f∈s.Features,∀x∈f.Parts,wU s.Plan f.Kind x
 asc:Asc (s.Features.map aD.ID)
 lb:∀x∈s.Plan.Faces,Lab s.Plan x
theorem c5x(x:aD): aB (λn _=>hJ n x) λr=>r=false->x.Parts≠[]:=by
 refine aC (λ_=>aA (by simp)) λh=>?_
 have ne:x.Parts≠[]:=λe=>by rw[e] at h;simp[ln] at h
 exact aE (aJH _) λc _=>aC (λ_=>aC (λ_=>aA λ_=>ne) λ_=>aA λ_=>ne) λ_=>aA λ_=>ne
theorem aWb(x:aD): aB (λn _=>rP n x) λr=>r=false->x.Parts≠[]:=
 aT (aE (c5x x) λc h=>aC (λ_=>aA (by simp)) λz=>aA λ_=>h z)
theorem aVZ(x:aD): aB (λn _=>rG n x) λr=>r=false->shV x.Kind≠0:=
 aT (aE (aJH _) λc h=>aC (λ_=>aA (by simp)) λz=>aA λ_=>by rw[<-show c=_ from h];simpa using z)
theorem aUn(l:List aD)(hl:l.length<=1000)(i:Nat)(hu:wC l i λf=>f.Parts≠[]): aB (λn m=>mV hP n m (l,ln l) (i:Int)) (Su (λv=>0<=v.2) λ_=>∀f∈l,f.Parts≠[]):=
 bF (aY (λx e c=>by
  rw[cD (i:=i) (by omega)]
  exact aE (aWb x) λr h=>aC (λ_=>aA (show (0:Int)<=i by omega)) λz=>aUn l hl (i+1) (hu.step e (h z))) λh=>aA (hu.fin h))
termination_by l.length-i
theorem aWc(l:List aD)(hl:l.length<=1000): aB (λn _=>rS n l) (Su (λv=>v.2=true) λ_=>∀f∈l,f.Parts≠[]):=
 aT (aR (f:=λn _=>rQ n l) (Q:=λv:aD×Int=>(0:Int)<=v.2) (R:=λ_=>∀f∈l,f.Parts≠[]) (aT (aR (bB (aUn l hl 0 .nil)) (λv h=>aA (show 0<=v.2 from h)) λ_ h=>aI rfl (aA (by exact h)))) (λv h=>aC (λ_=>aA rfl) λz=>absurd h (Zp z)) λ_ h=>aI rfl (aA (by exact h)))
theorem aUm(l:List aD)(hl:l.length<=1000)(i:Nat)(hu:wC l i λf=>shV f.Kind≠0): aB (λn m=>mV hM n m (l,ln l) (i:Int)) (Su (λv=>0<=v.2) λ_=>∀f∈l,shV f.Kind≠0):=
 bF (aY (λx e c=>by
  rw[cD (i:=i) (by omega)]
  exact aE (aVZ x) λr h=>aC (λ_=>aA (show (0:Int)<=i by omega)) λz=>aUm l hl (i+1) (hu.step e (h z))) λh=>aA (hu.fin h))
termination_by l.length-i
theorem aWa(l:List aD)(hl:l.length<=1000): aB (λn _=>rJ n l) (Su (λv=>v.2=true) λ_=>∀f∈l,shV f.Kind≠0):=
 aT (aR (f:=λn _=>rH n l) (Q:=λv:aD×Int=>(0:Int)<=v.2) (R:=λ_=>∀f∈l,shV f.Kind≠0) (aT (aR (bB (aUm l hl 0 .nil)) (λv h=>aA (show 0<=v.2 from h)) λ_ h=>aI rfl (aA (by exact h)))) (λv h=>aC (λ_=>aA rfl) λz=>absurd h (Zp z)) λ_ h=>aI rfl (aA (by exact h)))
theorem I4x(p:aM)(hp:Sm p)(f:aD)(x:Int): aB (λn _=>oW n (p,f,x)) λr=>r=false->wU p f.Kind x:=by
 refine aT (aE (aJH _) λc h=>?_)
 have h:c=shV f.Kind:=h
 subst h
 refine aC (λz=>aE (KF p hp x) λr hr=>aC (λy=>aA λ_=>.inl ⟨by simpa using z,by rw[<-show r=_ from hr];exact y⟩) λ_=>aA (by simp)) λ_=>aC (λz=>aE (aEO p hp x) λr hr=>aC (λy=>aA λ_=>.inr (.inl ⟨by simpa using z,by rw[<-show r=_ from hr];exact y⟩)) λ_=>aA (by simp)) λ_=>aC (λz=>aE (aP6 p.Faces x (by have:=hp.f;omega)) λr hr=>aC (λy=>aA λ_=>.inr (.inr ⟨by simpa using z,by rw[show r=_ from hr] at y;exact Zl y⟩)) λ_=>aA (by simp)) λ_=>aA (by simp)
theorem aTj(p:aM)(hp:Sm p)(f:aD)(l:List Int)(hl:l.length<=1000)(i:Nat)(hu:wC l i (wU p f.Kind)): aB (λn m=>mV eV n m (p,f,l,ln l) (i:Int)) (Su (λv=>0<=v) λ_=>∀x∈l,wU p f.Kind x):=
 bF (aY (λx e c=>by
  rw[cD (i:=i) (by omega)]
  exact aE (I4x p hp f x) λr h=>aC (λ_=>aA (show (0:Int)<=i by omega)) λz=>aTj p hp f l hl (i+1) (hu.step e (h z))) λh=>aA (hu.fin h))
termination_by l.length-i
theorem aQD(p:aM)(hp:Sm p)(f:aD)(l:List Int)(hl:l.length<=1000): aB (λn _=>jE n (p,f,l)) λr=>r=false->∀x∈l,wU p f.Kind x:=
 aT (aE (f:=λn _=>oX n (p,f,l)) (Q:=λr=>0<=r\/∀x∈l,wU p f.Kind x) (aT (aR (bB (aTj p hp f l hl 0 .nil)) (λv h=>aA (.inl h)) λ_ h=>aI rfl (aA (.inr h)))) λr h=>aC (λ_=>aA (by simp)) λz=>aA λ_=>h.elim (λq=>absurd q (Zp z)) id)
theorem aWd(s:aJ)(d:pL s)(f:aD)(hf:f∈s.Features): aB (λn _=>rV n (s,f)) λr=>r.2=false->∀x∈f.Parts,wU s.Plan f.Kind x:=
 aT (aE (f:=λn _=>rU n (s.Plan,f)) (Q:=λr=>r=false->∀x∈f.Parts,wU s.Plan f.Kind x) (aT (aE (aQD s.Plan d.p f f.Parts (d.f f hf)) λr h=>aC (λ_=>aA (by simp)) λz=>aA λ_=>h z)) λr h=>aC (λ_=>aA (by simp)) λz=>aA λ_=>h z)
theorem aUo(s:aJ)(d:pL s)(i:Nat)(hu:wC s.Features i λf=>∀x∈f.Parts,wU s.Plan f.Kind x): aB (λn m=>mV hU n m (s,s.Features,ln s.Features) (i:Int)) (Su (λv=>0<=v.2.2.2) λ_=>∀f∈s.Features,∀x∈f.Parts,wU s.Plan f.Kind x):=
 bF (aY (λx e c=>by
  rw[cD (i:=i) (by have:=d.n;omega)]
  exact aE (aWd s d x (Zg e)) λr h=>aC (λ_=>aA (show (0:Int)<=i by omega)) λz=>aUo s d (i+1) (hu.step e (h z))) λh=>aA (hu.fin h))
termination_by s.Features.length-i
theorem I9x(s:aJ)(d:pL s): aB (λn _=>uJ n (s,s.Features)) (Su (λv=>v.2.2.2=true) λ_=>∀f∈s.Features,∀x∈f.Parts,wU s.Plan f.Kind x):=
 aT (aR (f:=λn _=>rW n (s,s.Features)) (Q:=λv:aD×aM×aD×Int=>(0:Int)<=v.2.2.2) (R:=λ_=>∀f∈s.Features,∀x∈f.Parts,wU s.Plan f.Kind x) (aT (aR (bB (aUo s d 0 .nil)) (λv h=>aA (show 0<=v.2.2.2 from h)) λ_ h=>aI rfl (aA (by exact h)))) (λv h=>aC (λ_=>aA rfl) λz=>absurd h (Zp z)) λ_ h=>aI rfl (aA (by exact h)))
theorem aVV(s:aJ)(d:pL s)(i:Nat)(f:aD)(hf:f∈s.Features)(hi:i<s.Features.length): aB (λn _=>qX n (s,((i+1:Nat):Int),f)) λr=>r=false->∀x,0<i->s.Features[i-1]?=some x->x.ID<f.ID:=by
 have hn:=d.n
 have j:=aLj f.Parts (d.f f hf)
 refine aC (λh=>?_) λh=>aE j λ_ _=>aC (λ_=>aA λ_ x q=>by have:=Zp h;omega) λ_=>aA (by simp)
 have h:((i+1:Nat):Int) > 1:=Zl h
 have e:wr (((i+1:Nat):Int)-2)=((i-1:Nat):Int):=by rw[aJu (by omega)];omega
 have em:=Zb (l:=s.Features) (i:=i-1) (by omega)
 refine aI (x:=s.Features[i-1]) (by rw[e,bL];exact em) (aC (λ_=>aA (by simp)) λz=>aE j λ_ _=>aC (λ_=>aA λ_ x _ hx=>?_) λ_=>aA (by simp))
 rw[em] at hx
 cases hx
 have:=Zp z
 omega
theorem aUl(s:aJ)(d:pL s)(i:Nat)(hu:∀(j:Nat) (x y:aD),j+1<i->s.Features[j]?=some x->s.Features[j+1]?=some y->x.ID<y.ID): aB (λn m=>mV hK n m (s,s.Features,ln s.Features) ((i:Int),(i:Int))) (Su (λv=>0<=v.2.2) λ_=>Asc (s.Features.map aD.ID)):=
 bF (aY (λx e c=>by
  have hn:=d.n
  rw[cD (i:=i) (by omega)]
  have P:=aVV s d i x (Zg e) c
  have w:=cD (i:=i) (by omega)
  refine aE (f:=λn _=>qZ n (s,(i:Int),x)) (Q:=λr=>r.1=((i+1:Nat):Int)/\(r.2=false->∀y,0<i->s.Features[i-1]?=some y->y.ID<x.ID)) (aT (by
   rw[<-w] at P |-
   exact aE P λq hq=>aC (λ_=>aA ⟨rfl,by simp⟩) λz=>aA ⟨rfl,λ_=>hq z⟩)) λr hr=>aC (λ_=>aA (show (0:Int)<=i by omega)) λz=>?_
  rw[hr.1]
  refine aUl s d (i+1) λj u v hj hu1 hv=>?_
  rcases ZI (j+1) i with h | h
  .exact hu j u v h hu1 hv
  .have:j+1=i:=by omega
   subst this
   rw[e] at hv
   cases hv
   exact hr.2 z u (by omega) hu1) λh=>aA (by
  intro j x y hx hy
  rw[Zk,Zq] at hx hy
  obtain⟨a,ha,rfl⟩:=hx
  obtain⟨b,hb,rfl⟩:=hy
  exact hu j a b (by have:=(Ze.1 hb).1;omega) ha hb))
termination_by s.Features.length-i
theorem aVY(s:aJ)(d:pL s): aB (λn _=>rE n (s,0,s.Features)) (Su (λv=>v.2.2=true) λ_=>Asc (s.Features.map aD.ID)):=
 aT (aR (f:=λn _=>rA n (s,0,s.Features)) (Q:=λv:Int×aD×Int=>(0:Int)<=v.2.2) (R:=λ_=>Asc (s.Features.map aD.ID)) (aT (aR (bB (aUl s d 0 λj x y h=>by omega)) (λv h=>aA (show 0<=v.2.2 from h)) λ_ h=>aI rfl (aA (by exact h)))) (λv h=>aC (λ_=>aA rfl) λz=>absurd h (Zp z)) λ_ h=>aI rfl (aA (by exact h)))
theorem aR0(p:aM)(hp:Sm p)(d:Int): aB (λn _=>yX n p d) λr=>r.2=true->r.1∈p.Arcs:=
 aW (λ_=>rfl) (aC (λ_=>aA (by simp)) λ_=>aC (λ_=>aA (by simp)) λ_=>aE (aEO p hp _) λr hr=>by
  have m:r.2=true->r.1∈p.Arcs:=by
   rw[show r=_ from hr]
   unfold KB
   split
   .rename_i a h;exact λ_=>Xf h
   .exact λh=>by cases h
  exact aC (λz=>aA λ_=>m z) λ_=>aA (by simp))
theorem aR3(p:aM)(hp:Sm p)(d:Int): aB (λn _=>yQ n p d) λr=>r=0\/Lab p r:=
 aW (λ_=>rfl) (aE (aR0 p hp d) λc h=>aC (λz=>aC (λ_=>aA (.inr ⟨_,h z,.inl rfl⟩)) λ_=>aA (.inr ⟨_,h z,.inr rfl⟩)) λ_=>aA (.inl rfl))
section
theorem aTe{a b:List Int}(h:a.Nodup)(s:∀x∈a,x∈b): a.length<=b.length:=by
 induction a generalizing b with
 | nil=>simp
 | cons x r ih=>
  have⟨hx,hr⟩:=List.nodup_cons.1 h
  have i:=ih (b:=b.erase x) hr λy hy=>(List.mem_erase_of_ne (by rintro rfl;exact hx hy)).2 (s y (ZQ _ hy))
  have m:=s x ZM
  rw[List.length_erase_of_mem m] at i
  have:=List.length_pos_of_mem m
  simp
  omega
theorem aA7{V:Type}(k:Int)(v:V): ∀m:List (Int×V),bQ m k=none->(dX m k v).map Prod.fst=m.map Prod.fst++[k]/\k∉m.map Prod.fst
 | [],_=>⟨rfl,by simp⟩
 | a::r,h=>by
  simp only[bQ] at h
  split at h
  .cases h
  .rename_i b
   have i:=aA7 k v r h
   simp only[dX]
   rw[ZF b]
   exact⟨by simp[i.1],by simp only[ZE,ZN,not_or];exact⟨λe=>b e.symm,i.2⟩⟩
structure aR6(p:aM)(g:List (Int×Bool)): Prop where
 nd:(g.map Prod.fst).Nodup
 lb:∀k∈g.map Prod.fst,k≠0/\Lab p k
 tt:∀k v,bQ g k=some v->v=true
theorem aFJ(p:aM)(q:Sm p)(l:List dS)(o:aMu l 200000 300)(i:Nat)(R:i<=l.length)(lf:List Int)(g:List (Int×Bool))(K:lf.length=i)(j:aR6 p g): aB (λn m=>mV kK n m (p,l,ln l) (lf,g,(i:Int))) (Su (λ_=>True) λr=>aR6 p r.2):=by
 have O:=o.l2
 refine bF (aY (λa I N=>?_) λL=>aA j)
 have y:=Zg I
 have D:=o.inn a y
 have B:=o.ou a y
 have f:∀w,w=a.outer::a.inner->w.length<=800000/\∀c∈w,c.length<=800000:=by
  rintro w rfl
  refine⟨by simp;omega,λc H=>?_⟩
  rcases ZN.1 H with rfl | H
  .exact B
  .exact D.2 c H
 rw[cD (by omega)]
 refine aC (λb=>?_) λb=>?_
 .have F:1<=i:=by have:(i:Int) > 0:=Zl b;omega
  have G:=o.ne i a F I
  obtain⟨d,t,C⟩:∃d t,a.outer=d::t:=by
   cases h:a.outer with
   | nil=>exact absurd h G
   | cons d t=>exact⟨d,t,rfl⟩
  refine aI (x:=d) (by rw[C];rfl) (aE (aR3 p q d) λv hv=>aE (f:=λn _=>Mg n (g,v)) (Q:=λr=>r=false->v≠0/\(bQ g v).getD false=false) (aC (λ_=>aA (by simp)) λz=>aC (λ_=>aA (by simp)) λh=>aA λ_=>⟨by simpa using z,h⟩) λ_ M=>aC (λ_=>aA trivial) λJ=>aE (aHE a (by omega)) λw s=>aR (bB (MX p q lf v w (f w s).1 (f w s).2 0)) (λ_ _=>aA trivial) λ_ _=>aI rfl (aI (Lr (by omega)) (aFJ p q l o (i+1) (by omega) _ _ (by simp;omega) ?_)))
  have h:=M J
  have e:bQ g v=none:=by
   cases e:bQ g v with
   | none=>rfl
   | some w=>have:=h.2;rw[e,j.tt v w e] at this;cases this
  have mk:=aA7 v true g e
  refine⟨?_,?_,?_⟩
  .rw[mk.1,List.nodup_append]
   exact⟨j.nd,by simp,λa ha b hb=>by rw[ZJ.1 hb];rintro rfl;exact mk.2 ha⟩
  .intro k hk
   rw[mk.1] at hk
   rcases ZD.1 hk with hk | hk
   .exact j.lb k hk
   .rw[ZJ.1 hk];exact⟨h.1,hv.elim (λz=>absurd z h.1) id⟩
  .intro k u z
   rw[lG] at z
   split at z
   .cases z;rfl
   .exact j.tt k u z
 .exact aE (aHE a (by omega)) λw s=>aR (bB (MX p q lf 0 w (f w s).1 (f w s).2 0)) (λ_ _=>aA trivial) λ_ _=>aI rfl (aI (Lr (by omega)) (aFJ p q l o (i+1) (by omega) _ _ (by simp;omega) j))
termination_by l.length-i
theorem aLv(p:aM)(V:tH p)(l:List dS)(c:aMu l 200000 300): aB (λn _=>yG n p l) λr=>r.2=true->∀x∈p.Faces,Lab p x:=
 aW (λ_=>rfl) (aR (bB (aFJ p V.sm l c 0 (by omega) [] [] rfl ⟨by simp,by simp,λ_ _ h=>by cases h⟩)) (λ_ _=>aA (by simp)) λr d=>aI rfl (aC (λb=>aA λ_ x hx=>by
  have b:ln r.2=ln p.Faces:=Wi b
  have b:r.2.length=p.Faces.length:=by unfold ln at b;omega
  have d:aR6 p r.2:=d
  rcases Classical.em (x∈r.2.map Prod.fst) with h | h
  .exact (d.lb x h).2
  .have:=aTe (b:=p.Faces.erase x) d.nd λy hy=>(List.mem_erase_of_ne (by rintro rfl;exact h hy)).2 (by
    obtain⟨n0,a,ha,e⟩:=d.lb y hy
    have s:=V.sid a ha
    rcases e with e | e
    .rw[<-e] at n0 |-;exact s.1.elim (λz=>absurd z n0) id
    .rw[<-e] at n0 |-;exact s.2.elim (λz=>absurd z n0) id)
   rw[List.length_erase_of_mem hx,ZO] at this
   have:=List.length_pos_of_mem hx
   omega) λ_=>aA λh=>by cases h))
theorem aMZ(s:KG)(p:aM)(g:Sm p): aB (λn _=>vI n p) λr=>r.2.2.2=0->∀x∈p.Faces,Lab p x:=by
 refine aW (λ_=>rfl) (aE (aEM p g) λc o=>aC (λb=>aA λh=>?_) λb=>?_)
 .rw[show c.2=0 from h] at b;simp at b
 .obtain⟨j,i⟩:=o (by simpa using b)
  exact aE (aAx p g j) λm q=>aE (s p c.1 m g j i q) λl d=>aE (aLv p j l d) λf k=>aC (λb=>aA λ_=>k b) λ_=>aA λh=>by cases h
variable {N:Nat->Nat->Option Int}{P:Int->Prop}{c:Int}{β γ:Type}{f:Nat->Nat->Option (β⊕γ)}{q:β->Bool}
theorem aPQ(hc:P c)(h:Sx f)(k:aB N P): aB (λn m=>Av.bnd2 (f n m) (λv=>Av.cnd (q v) (some c) (N n m)) λw=>Av.bnd (some w) λ_=>N n m) P:=
 aR h (λ_ _=>aC (λ_=>aA hc) λ_=>k) λ_ _=>aI rfl k
theorem aJ4{Q:Prop}(hc:P c)(h:aB f (Su (λv=>q v=true) λ_=>Q))(k:Q->aB N P): aB (λn m=>Av.bnd2 (f n m) (λv=>Av.cnd (q v) (some c) (N n m)) λw=>Av.bnd (some w) λ_=>N n m) P:=
 aR h (λv e=>aC (λ_=>aA hc) λz=>by rw[show q v=true from e] at z;cases z) λ_ e=>aI rfl (k e)
theorem aOa(o:KG)(s:aJ)(a:pL s): aB (λn _=>cC n s) λr=>r=0->SvX s:=by
 refine aW (λ_=>rfl) (aE (f:=λn _=>yH n s.Plan) (Q:=λr=>r=0->∀x∈s.Plan.Faces,Lab s.Plan x) (aW (λ_=>rfl) (aE (aMZ o s.Plan a.p) λb h=>aA h)) λr hr=>aC (λb=>aA λh=>absurd (show r=0 from h) (by simpa using b)) λb=>aC (λ_=>aA (by simp)) λd=>aE (f:=λn _=>uL n s) (Q:=λ_=>True) (aT (aA trivial)) λ_ _=>aE (f:=λn _=>uK n ()) (Q:=λ_=>True) (aT (aA trivial)) λc _=>OJ ?_)
 have lb:=hr (by simpa using b)
 exact aJ4 (by simp) (aT3 _ a.n) λ_=>aJ4 (by simp) (aVY s a) λA=>aPQ (by simp) (aT8 _ a.n) <| aJ4 (by simp) (aWa _ a.n) λB=>aPQ (by simp) (aT9 _ a.n) <| aJ4 (by simp) (aWc _ a.n) λC=>aJ4 (by simp) (I9x s a) λD=>aPQ (by simp) (fI3 _ a.n a.f c) <| aA λ_=>⟨C,B,D,A,lb⟩
theorem OK.x(o:KG){s:aJ}(h:OK s): SvX s:=aB.uniq h.c (aOa o s h.ok) rfl
end
def aAI(s:aJ)(id:Int): aD×Bool:=match s.Features.find? λx=>x.ID==id with
 | some x=>(x,true)
 | none=>(⟨0,0,0,⟨#[]⟩,[]⟩,false)
theorem aT2(l:List aD)(hl:l.length<=1000)(hv:∀f∈l,f.Parts.length<=1000)(b:ByteArray)(id:Int)(i:Nat): aB (λn m=>mV qW n m (b,id,l,ln l) (i:Int)) (Su (λv=>∃x,(l.drop i).find? (λx=>x.ID==id)=some x/\(aD.mk v.1 v.2.1 v.2.2.1 v.2.2.2.1 v.2.2.2.2.1)=x) λ_=>(l.drop i).find? (λx=>x.ID==id)=none):=
 bF (aY (λx c e=>aC (λh=>aE (aLN x.Parts (by have:=hv x (Zg c);omega)) λr f=>aA ⟨x,aFD (q:=λx=>x.ID==id) c h,by rw[show r=_ from f]⟩) λh=>by
  rw[cD (i:=i) (by omega),aFE (q:=λx=>x.ID==id) c h];exact aT2 l hl hv b id (i+1)) λh=>aA (aFF h))
termination_by l.length-i
theorem aRA(s:aJ)(o:pL s)(id:Int): aB (λn _=>Kz n s id) λr=>r=aAI s id:=
 aW (λ_=>rfl) (aR (bB (aT2 s.Features o.n o.f _ id 0)) (λv h=>aA (by
  obtain⟨x,h,e⟩:=h
  rw[YD] at h
  unfold aAI
  rw[h,e])) λ_ h=>aI rfl (aA (by
  have h:(s.Features.drop 0).find? (λx=>x.ID==id)=none:=h
  rw[YD] at h
  unfold aAI
  rw[h])))
theorem aLu{s:aJ}(x:SvX s){f:aD}(hf:f∈s.Features): aAI s f.ID=(f,true):=by
 unfold aAI
 cases h:s.Features.find? λx=>x.ID==f.ID with
 | none=>have:=W4.1 h f hf;simp at this
 | some y=>
  have e:y.ID=f.ID:=by have:=List.find?_some h;simpa using this
  rw[x.asc.inj (Xf h) hf e]
section
variable {α:Type}{a b:List α}{i:Nat}
theorem aEn(hl:a.length=b.length)(h:∀(j:Nat) (x:α),a[j]?=some x->b[j]?=some x): a=b:=
 Ym λj=>by
  cases e:a[j]? with
  | some x=>exact (h j x e).symm
  | none=>rw[Zy];have:=XG.1 e;omega
theorem lnE(z:(ln a != ln b)=false): a.length=b.length:=by
 have z:ln a=ln b:=by simpa using z
 unfold ln at z
 omega
theorem neE{a b:Int}(z:(a != b)=false): b=a:=by
 have z:a=b:=by simpa using z
 exact z.symm
theorem aPm(a b:List Aaa)(hl:a.length=b.length)(ha:a.length<=100000)(i:Nat)(hu:∀(j:Nat) (x),j<i->a[j]?=some x->b[j]?=some x): aB (λn m=>mV fD n m (a,b,ln a) (i:Int)) (Su (λ_=>True) λ_=>a=b):=
 bF (aY (λx e c=>by
  have hb:b[i]?=some b[i]:=Zb (by omega)
  rw[cD (i:=i) (by omega)]
  refine aI (by rw[bL];exact hb) (aC (λz=>aPm a b hl ha (i+1) λj y hj hy=>?_) λ_=>aA trivial)
  rcases ZI j i with k | k
  .exact hu j y k hy
  .have:j=i:=by omega
   subst this
   rw[e] at hy
   cases hy
   rw[hb,<-Zl z]) λh=>aA (aEn hl λj x hx=>hu j x (by have:=(Ze.1 hx).1;omega) hx))
termination_by a.length-i
theorem aTC(a b:List Aaa)(ha:a.length<=100000): aB (λn _=>fU n a b) λr=>r=true->a=b:=
 aW (λ_=>rfl) (aC (λ_=>aA (by simp)) λz=>aR (bB (aPm a b (lnE z) ha 0 λj x h=>by omega)) (λ_ _=>aA (by simp)) λ_ h=>aI rfl (aA λ_=>h))
theorem aSy(a:List Int)(ha:a.length<=100000)(i:Nat): aB (λn m=>mV kS n m (a,a) (i:Int)) (Su (λ_=>False) λ_=>True):=
 bF (aY (λx e c=>by
  rw[cD (i:=i) (by omega)]
  exact aI (by rw[bL];exact e) (aC (λz=>by simp at z) λ_=>aSy a ha (i+1))) λh=>aA trivial)
termination_by a.length-i
theorem aSw(a:List Int)(ha:a.length<=100000): aB (λn _=>sZ n a a) λr=>r=true:=
 aW (λ_=>rfl) (aC (λz=>by simp at z) λ_=>aR (bB (aSy a ha 0)) (λ_ h=>h.elim) λ_ _=>aI rfl (aA rfl))
theorem aVl(f:aD)(hf:f.Parts.length<=1000): aB (λn _=>oQ n f f) λr=>r=true:=
 aW (λ_=>rfl) (aE (f:=λn _=>pN n (f,f)) (Q:=λr=>r=true) (aC (λ_=>aC (λ_=>aC (λ_=>aC (λ_=>aE (aSw f.Parts (by omega)) λd hd=>aC (λ_=>aA rfl) λz=>by rw[show d=true from hd] at z;cases z) λz=>by simp at z) λz=>by simp at z) λz=>by simp at z) λz=>by simp at z) λr hr=>aC (λ_=>aA rfl) λz=>by rw[show r=true from hr] at z;cases z)
theorem aPR(a:List Aaa)(ha:a.length<=100000)(i:Nat): aB (λn m=>mV kT n m (a,a) (i:Int)) (Su (λ_=>False) λ_=>True):=
 bF (aY (λx e c=>by
  rw[cD (i:=i) (by omega)]
  exact aI (by rw[bL];exact e) (aC (λz=>by first | exact aPR a ha (i+1) | (simp at z)) λz=>by first | exact aPR a ha (i+1) | (simp at z))) λh=>aA trivial)
termination_by a.length-i
theorem aSu(a:List Aaa)(ha:a.length<=100000): aB (λn _=>tA n a a) λr=>r=true:=
 aW (λ_=>rfl) (aC (λz=>by simp at z) λ_=>aR (bB (aPR a ha 0)) (λ_ h=>h.elim) λ_ _=>aI rfl (aA rfl))
theorem aVo(a:aP)(ha:a.Via.length<=1000): aB (λn _=>Fn n a a) λr=>r=true:=
 aW (λ_=>rfl) (aE (f:=λn _=>Cx n (a,a)) (Q:=λr=>r=true) (aC (λ_=>aC (λ_=>aC (λ_=>aC (λ_=>aC (λ_=>aE (aSu a.Via (by omega)) λd hd=>aC (λ_=>aA rfl) λz=>by rw[show d=true from hd] at z;cases z) λz=>by simp at z) λz=>by simp at z) λz=>by simp at z) λz=>by simp at z) λz=>by simp at z) λr hr=>aC (λ_=>aA rfl) λz=>by rw[show r=true from hr] at z;cases z)
theorem aSA(p:aM)(hp:Sm p)(i:Nat): aB (λn m=>mV vC n m (p,p) (i:Int)) (Su (λ_=>False) λ_=>True):=
 bF (aY (λx e c=>by
  rw[cD (i:=i) (by have:=hp.n;omega)]
  exact aI (by rw[bL];exact e) (aC (λ_=>aSA p hp (i+1)) λz=>by simp at z)) λh=>aA trivial)
termination_by p.Nodes.length-i
theorem aS9(p:aM)(hp:Sm p)(i:Nat): aB (λn m=>mV vB n m (p,p) (i:Int)) (Su (λ_=>False) λ_=>True):=
 bF (aY (λx e c=>by
  rw[cD (i:=i) (by have:=hp.a;omega)]
  exact aI (by rw[bL];exact e) (aE (aVo x (by have:=hp.v x (Zg e);omega)) λd hd=>aC (λ_=>aS9 p hp (i+1)) λz=>by rw[show d=true from hd] at z;cases z)) λh=>aA trivial)
termination_by p.Arcs.length-i
theorem aS8(p:aM)(hp:Sm p)(i:Nat): aB (λn m=>mV vA n m (p,p) (i:Int)) (Su (λ_=>False) λ_=>True):=
 bF (aY (λx e c=>by
  rw[cD (i:=i) (by have:=hp.f;omega)]
  exact aI (by rw[bL];exact e) (aC (λz=>by simp at z) λ_=>aS8 p hp (i+1))) λh=>aA trivial)
termination_by p.Faces.length-i
theorem aQc(p:aM)(hp:Sm p): aB (λn _=>OT n p p) λr=>r=true:=
 aW (λ_=>rfl) (aE (f:=λn _=>Vr n (p,p)) (Q:=λr=>r=false) (aC (λz=>by simp at z) λ_=>aC (λz=>by simp at z) λ_=>aC (λz=>by simp at z) λ_=>aA rfl) λr hr=>aC (λz=>by rw[show r=false from hr] at z;cases z) λ_=>aR (bB (aSA p hp 0)) (λ_ h=>h.elim) λ_ _=>aI rfl (aR (bB (aS9 p hp 0)) (λ_ h=>h.elim) λ_ _=>aI rfl (aR (bB (aS8 p hp 0)) (λ_ h=>h.elim) λ_ _=>aI rfl (aA rfl))))
theorem aJT(s:aJ)(o:pL s)(i:Nat): aB (λn m=>mV uZ n m (s,s) (i:Int)) (Su (λ_=>False) λ_=>True):=
 bF (aY (λx e c=>by
  rw[cD (i:=i) (by have:=o.n;omega)]
  exact aI (by rw[bL];exact e) (aE (aVl x (o.f x (Zg e))) λd hd=>aC (λ_=>aJT s o (i+1)) λz=>by rw[show d=true from hd] at z;cases z)) λh=>aA trivial)
termination_by s.Features.length-i
theorem aQa(s:aJ)(o:pL s): aB (λn _=>OP n s s) λr=>r=true:=
 aW (λ_=>rfl) (aE (f:=λn _=>Vp n (s,s)) (Q:=λr=>r=false) (aE (aQc s.Plan o.p) λd hd=>aC (λ_=>aC (λz=>by simp at z) λ_=>aA rfl) λz=>by rw[show d=true from hd] at z;cases z) λr hr=>aC (λz=>by rw[show r=false from hr] at z;cases z) λ_=>aR (bB (aJT s o 0)) (λ_ h=>h.elim) λ_ _=>aI rfl (aA rfl))
theorem aPo(a:List Int)(ha:a.length<=100000)(i:Nat): aB (λn m=>mV jX n m (a,a,ln a) (i:Int)) (Su (λ_=>False) λ_=>True):=
 bF (aY (λx e c=>by
  rw[cD (i:=i) (by omega)]
  exact aI (by rw[bL];exact e) (aC (λz=>by simp at z) λ_=>aPo a ha (i+1))) λh=>aA trivial)
termination_by a.length-i
theorem aPn(a:List Int)(ha:a.length<=100000): aB (λn _=>eN n a a) λr=>r=true:=
 aW (λ_=>rfl) (aC (λz=>by simp at z) λ_=>aR (bB (aPo a ha 0)) (λ_ h=>h.elim) λ_ _=>aI rfl (aA rfl))
theorem aPl(a:List Aaa)(ha:a.length<=100000)(i:Nat): aB (λn m=>mV fD n m (a,a,ln a) (i:Int)) (Su (λ_=>False) λ_=>True):=
 bF (aY (λx e c=>by
  rw[cD (i:=i) (by omega)]
  exact aI (by rw[bL];exact e) (aC (λ_=>aPl a ha (i+1)) λz=>by simp at z)) λh=>aA trivial)
termination_by a.length-i
theorem aPk(a b:List Aaa)(ha:a.length<=100000): aB (λn _=>fU n a b) λr=>r=true↔a=b:=by
 rcases Classical.em (a=b) with h | h
 .subst h
  exact aB.imp (P:=λr=>r=true) (aW (λ_=>rfl) (aC (λz=>by simp at z) λ_=>aR (bB (aPl a ha 0)) (λ_ h=>h.elim) λ_ _=>aI rfl (aA rfl))) λr e=>⟨λ_=>rfl,λ_=>e⟩
 .exact (aTC a b ha).imp λr e=>⟨e,λk=>absurd k h⟩
theorem LY{x:α}(hu:∀(j:Nat) (y:α),j<i->a[j]?=some y->b[j]?=some y)(e:a[i]?=some x)(hb:b[i]?=some x): ∀(j:Nat) (y:α),j<i+1->a[j]?=some y->b[j]?=some y:=λj y hj hy=>by
 rcases ZI j i with k | k
 .exact hu j y k hy
 .obtain rfl:j=i:=by omega
  rw[e] at hy
  cases hy
  exact hb
theorem I7(hl:a.length=b.length)(hu:∀(j:Nat) (y:α),j<i->a[j]?=some y->b[j]?=some y)(h:a.length<=i): a=b:=
 aEn hl λj x hx=>hu j x (by have:=(Ze.1 hx).1;omega) hx
theorem aSv(a b:List Aaa)(hl:a.length=b.length)(ha:a.length<=100000)(i:Nat)(hu:∀(j:Nat) (y),j<i->a[j]?=some y->b[j]?=some y): aB (λn m=>mV kT n m (a,b) (i:Int)) (Su (λ_=>True) λ_=>a=b):=
 bF (aY (λx e c=>by
  have hb:b[i]?=some b[i]:=Zb (by omega)
  rw[cD (i:=i) (by omega)]
  exact aI (by rw[bL];exact hb) (aC (λz=>aSv a b hl ha (i+1) (LY hu e (by rw[hb,<-Zl z]))) λ_=>aA trivial)) λh=>aA (I7 hl hu h))
termination_by a.length-i
theorem aVi(a b:List Aaa)(ha:a.length<=100000): aB (λn _=>tA n a b) λr=>r=true->a=b:=
 aW (λ_=>rfl) (aC (λ_=>aA (by simp)) λz=>aR (bB (aSv a b (lnE z) ha 0 λj x h=>by omega)) (λ_ _=>aA (by simp)) λ_ h=>aI rfl (aA λ_=>h))
theorem aSx(a b:List Int)(hl:a.length=b.length)(ha:a.length<=100000)(i:Nat)(hu:∀(j:Nat) (y),j<i->a[j]?=some y->b[j]?=some y): aB (λn m=>mV kS n m (a,b) (i:Int)) (Su (λ_=>True) λ_=>a=b):=
 bF (aY (λx e c=>by
  have hb:b[i]?=some b[i]:=Zb (by omega)
  rw[cD (i:=i) (by omega)]
  exact aI (by rw[bL];exact hb) (aC (λ_=>aA trivial) λz=>aSx a b hl ha (i+1) (LY hu e (by rw[hb,show b[i]=x from neE z])))) λh=>aA (I7 hl hu h))
termination_by a.length-i
theorem aVj(a b:List Int)(ha:a.length<=100000): aB (λn _=>sZ n a b) λr=>r=true->a=b:=
 aW (λ_=>rfl) (aC (λ_=>aA (by simp)) λz=>aR (bB (aSx a b (lnE z) ha 0 λj x h=>by omega)) (λ_ _=>aA (by simp)) λ_ h=>aI rfl (aA λ_=>h))
theorem aVn(a b:aP)(ha:a.Via.length<=1000): aB (λn _=>Fn n a b) λr=>r=true->a=b:=
 aW (λ_=>rfl) (aE (f:=λn _=>Cx n (a,b)) (Q:=λr=>r=true->a=b) (aC (λz1=>aC (λz2=>aC (λz3=>aC (λz4=>aC (λz5=>aE (aVi a.Via b.Via (by omega)) λd hd=>aC (λz=>aA λ_=>by
  have h:=hd z
  obtain⟨a1,a2,a3,a4,a5,a6⟩:=a
  obtain⟨b1,b2,b3,b4,b5,b6⟩:=b
  simp only[ZC] at z1 z2 z3 z4 z5 h
  subst z1 z2 z3 z4 z5 h
  rfl) λ_=>aA (by simp)) λ_=>aA (by simp)) λ_=>aA (by simp)) λ_=>aA (by simp)) λ_=>aA (by simp)) λ_=>aA (by simp)) λr hr=>aC (λz=>aA λ_=>hr z) λ_=>aA (by simp))
theorem aVk(a b:aD)(ha:a.Parts.length<=1000): aB (λn _=>oQ n a b) λr=>r=true->a=b:=
 aW (λ_=>rfl) (aE (f:=λn _=>pN n (a,b)) (Q:=λr=>r=true->a=b) (aC (λz1=>aC (λz2=>aC (λz3=>aC (λz4=>aE (aVj a.Parts b.Parts (by omega)) λd hd=>aC (λz=>aA λ_=>by
  have h:=hd z
  replace z4:=Zl z4
  obtain⟨a1,a2,a3,a4,a5⟩:=a
  obtain⟨b1,b2,b3,b4,b5⟩:=b
  simp only[ZC] at z1 z2 z3 z4 h
  subst z1 z2 z3 z4 h
  rfl) λ_=>aA (by simp)) λ_=>aA (by simp)) λ_=>aA (by simp)) λ_=>aA (by simp)) λ_=>aA (by simp)) λr hr=>aC (λz=>aA λ_=>hr z) λ_=>aA (by simp))
theorem aS7(p q:aM)(hp:Sm p)(hl:p.Nodes.length=q.Nodes.length)(i:Nat)(hu:∀(j:Nat) (y),j<i->p.Nodes[j]?=some y->q.Nodes[j]?=some y): aB (λn m=>mV vC n m (p,q) (i:Int)) (Su (λ_=>True) λ_=>p.Nodes=q.Nodes):=
 bF (aY (λx e c=>by
  have hb:q.Nodes[i]?=some q.Nodes[i]:=Zb (by omega)
  rw[cD (i:=i) (by have:=hp.n;omega)]
  exact aI (by rw[bL];exact hb) (aC (λz=>aS7 p q hp hl (i+1) (LY hu e (by rw[hb,<-Zl z]))) λ_=>aA trivial)) λh=>aA (I7 hl hu h))
termination_by p.Nodes.length-i
theorem aS6(p q:aM)(hp:Sm p)(hl:p.Arcs.length=q.Arcs.length)(i:Nat)(hu:∀(j:Nat) (y),j<i->p.Arcs[j]?=some y->q.Arcs[j]?=some y): aB (λn m=>mV vB n m (p,q) (i:Int)) (Su (λ_=>True) λ_=>p.Arcs=q.Arcs):=
 bF (aY (λx e c=>by
  have hb:q.Arcs[i]?=some q.Arcs[i]:=Zb (by omega)
  rw[cD (i:=i) (by have:=hp.a;omega)]
  exact aI (by rw[bL];exact hb) (aE (aVn x _ (by have:=hp.v x (Zg e);omega)) λd hd=>aC (λz=>aS6 p q hp hl (i+1) (LY hu e (by rw[hb,<-hd z]))) λ_=>aA trivial)) λh=>aA (I7 hl hu h))
termination_by p.Arcs.length-i
theorem aS5(p q:aM)(hp:Sm p)(hl:p.Faces.length=q.Faces.length)(i:Nat): aB (λn m=>mV vA n m (p,q) (i:Int)) (Su (λ_=>True) λ_=>True):=
 bF (aY (λx e c=>by
  have hb:q.Faces[i]?=some q.Faces[i]:=Zb (by omega)
  rw[cD (i:=i) (by have:=hp.f;omega)]
  exact aI (by rw[bL];exact hb) (aC (λ_=>aA trivial) λ_=>aS5 p q hp hl (i+1))) λh=>aA trivial)
termination_by p.Faces.length-i
theorem aQb(p q:aM)(hp:Sm p): aB (λn _=>OT n p q) λr=>r=true->p.Nodes=q.Nodes/\p.Arcs=q.Arcs:=
 aW (λ_=>rfl) (aE (f:=λn _=>Vr n (p,q)) (Q:=λr=>r=false->p.Nodes.length=q.Nodes.length/\p.Arcs.length=q.Arcs.length/\p.Faces.length=q.Faces.length) (aC (λ_=>aA (by simp)) λz1=>aC (λ_=>aA (by simp)) λz2=>aC (λ_=>aA (by simp)) λz3=>aA λ_=>⟨lnE z1,lnE z2,lnE z3⟩) λr hr=>aC (λ_=>aA (by simp)) λz=>aR (bB (aS7 p q hp (hr z).1 0 λj x h=>by omega)) (λ_ _=>aA (by simp)) λ_ h1=>aI rfl (aR (bB (aS6 p q hp (hr z).2.1 0 λj x h=>by omega)) (λ_ _=>aA (by simp)) λ_ h2=>aI rfl (aR (f:=λn _=>d7 n (p,q) 0) (Q:=λ_=>True) (R:=λ_=>True) (bB (aS5 p q hp (hr z).2.2 0)) (λ_ _=>aA (by simp)) λ_ h=>aI rfl (aA λ_=>⟨h1,h2⟩))))
theorem aJS(s t:aJ)(o:pL s)(hl:s.Features.length=t.Features.length)(i:Nat)(hu:∀(j:Nat) (y),j<i->s.Features[j]?=some y->t.Features[j]?=some y): aB (λn m=>mV uZ n m (s,t) (i:Int)) (Su (λ_=>True) λ_=>s.Features=t.Features):=
 bF (aY (λx e c=>by
  have hb:t.Features[i]?=some t.Features[i]:=Zb (by omega)
  rw[cD (i:=i) (by have:=o.n;omega)]
  exact aI (by rw[bL];exact hb) (aE (aVk x _ (o.f x (Zg e))) λd hd=>aC (λz=>aJS s t o hl (i+1) (LY hu e (by rw[hb,<-hd z]))) λ_=>aA trivial)) λh=>aA (I7 hl hu h))
termination_by s.Features.length-i
theorem aPZ(s t:aJ)(o:pL s): aB (λn _=>OP n s t) λr=>r=true->s.Plan.Nodes=t.Plan.Nodes/\s.Plan.Arcs=t.Plan.Arcs/\s.Features=t.Features:=
 aW (λ_=>rfl) (aE (f:=λn _=>Vp n (s,t)) (Q:=λr=>r=false->(s.Plan.Nodes=t.Plan.Nodes/\s.Plan.Arcs=t.Plan.Arcs)/\s.Features.length=t.Features.length) (aE (aQb s.Plan t.Plan o.p) λd hd=>aC (λz=>aC (λ_=>aA (by simp)) λz2=>aA λ_=>⟨hd z,lnE z2⟩) λ_=>aA (by simp)) λr hr=>aC (λ_=>aA (by simp)) λz=>aR (bB (aJS s t o (hr z).2 0 λj x h=>by omega)) (λ_ _=>aA (by simp)) λ_ h=>aI rfl (aA λ_=>⟨(hr z).1.1,(hr z).1.2,h⟩))
end
section
theorem aTY(p q:List Aab)(hl:p.length<=1000)(e:∀(i:Nat) (x:Aab),p[i]?=some x->∃y,q[i]?=some y/\x.ID=y.ID)(i:Nat): aB (λn m=>mV lP n m (q,p,ln p) (i:Int)) (Su (λ_=>False) λ_=>True):=
 bF (aY (λx ex k=>by
  obtain⟨y,hy,h⟩:=e i x ex
  rw[cD (i:=i) (by omega)]
  exact aI (by rw[bL];exact hy) (aE (f:=λn _=>Ck n (x,y)) (Q:=λr=>r=true) (aT (aC (λ_=>aA rfl) λz=>by rw[h] at z;simp at z)) λr hr=>aC (λ_=>aTY p q hl e (i+1)) λz=>by rw[show r=true from hr] at z;cases z)) λh=>aA trivial)
termination_by p.length-i
def aU5(x y:aP): Prop:=x.ID=y.ID/\x.From=y.From/\x.To=y.To/\x.Left=y.Left/\x.Right=y.Right
theorem aTX(p q:List aP)(hl:p.length<=1000)(e:∀(i:Nat) (x:aP),p[i]?=some x->∃y,q[i]?=some y/\aU5 x y)(i:Nat): aB (λn m=>mV lO n m (q,p,ln p) (i:Int)) (Su (λ_=>False) λ_=>True):=
 bF (aY (λx ex k=>by
  obtain⟨y,hy,h1,h2,h3,h4,h5⟩:=e i x ex
  rw[cD (i:=i) (by omega)]
  exact aI (by rw[bL];exact hy) (aE (f:=λn _=>Ci n (x,y)) (Q:=λr=>r=true) (aT (aE (f:=λn _=>kG n (x,y)) (Q:=λr=>r=true) (aC (λ_=>aC (λ_=>aC (λ_=>aC (λ_=>aC (λ_=>aA rfl) λz=>by rw[h5] at z;simp at z) λz=>by rw[h4] at z;simp at z) λz=>by rw[h3] at z;simp at z) λz=>by rw[h2] at z;simp at z) λz=>by rw[h1] at z;simp at z) λr hr=>aC (λ_=>aA rfl) λz=>by rw[show r=true from hr] at z;cases z)) λr hr=>aC (λ_=>aTX p q hl e (i+1)) λz=>by rw[show r=true from hr] at z;cases z)) λh=>aA trivial)
termination_by p.length-i
structure Alk(p q:aM): Prop where
 f:p.Faces=q.Faces
 nl:p.Nodes.length=q.Nodes.length
 n:∀(i:Nat) (x:Aab),p.Nodes[i]?=some x->∃y,q.Nodes[i]?=some y/\x.ID=y.ID
 al:p.Arcs.length=q.Arcs.length
 a:∀(i:Nat) (x:aP),p.Arcs[i]?=some x->∃y,q.Arcs[i]?=some y/\aU5 x y
theorem aOA(p q:aM)(hp:Sm p)(k:Alk p q): aB (λn _=>wT n p q) λr=>r=true:=by
 have nl:ln p.Nodes=ln q.Nodes:=by unfold ln;rw[k.nl]
 have al:ln p.Arcs=ln q.Arcs:=by unfold ln;rw[k.al]
 refine aW (λ_=>rfl) (aE (f:=λn _=>eN n p.Faces q.Faces) (Q:=λr=>r=true) (by rw[<-k.f];exact aPn p.Faces (by have:=hp.f;omega)) λc hc=>aC (λ_=>aR (f:=λn _=>Cl n (p.Nodes,q.Nodes)) (Q:=λv=>v=true) (R:=λ_=>False) (aT (aC (λz=>by rw[nl] at z;simp at z) λ_=>aR (bB (aTY p.Nodes q.Nodes (by have:=hp.n;omega) k.n 0)) (λ_ h=>h.elim) λ_ _=>aI rfl (aA rfl))) (λv hv=>aC (λ_=>aR (f:=λn _=>Cj n (p.Arcs,q.Arcs)) (Q:=λv=>v=true) (R:=λ_=>False) (aT (aC (λz=>by rw[al] at z;simp at z) λ_=>aR (bB (aTX p.Arcs q.Arcs (by have:=hp.a;omega) k.a 0)) (λ_ h=>h.elim) λ_ _=>aI rfl (aA rfl))) (λw hw=>aC (λ_=>aA rfl) λz=>by rw[show w=true from hw] at z;cases z) λ_ h=>h.elim) λz=>by rw[show v=true from hv] at z;cases z) λ_ h=>h.elim) λz=>by rw[show c=true from hc] at z;cases z)
variable {i:Nat}{id:Int}{s t:aJ}
theorem aPN{a b:aJ}{p:Aaa}(hA:aB (λn _=>dH n a ⟨3,id,0,0,0,p,[],⟨#[]⟩,[]⟩) λr=>r=(b,0))(g:List Aab)(h:List aP)(i:List Int)(j:List aD): aB (λn _=>Fd n ([],a.Plan.Nodes,a.Plan.Arcs,a.Plan.Faces,a.Features,g,h,i,j,id,p.X,p.Y,⟨#[]⟩)) λr=>r=([(⟨3,id,0,0,0,p,[],⟨#[]⟩,[]⟩:aN)],b.Plan.Nodes,b.Plan.Arcs,b.Plan.Faces,b.Features,b,true):=
 aT (aE hA λr hr=>by
  have hr:r=(b,0):=hr
  subst hr
  exact aC (λz=>by simp at z) λ_=>aI (c8 (by simp)) (aA rfl))
theorem aPM{a b:aJ}{v:List Aaa}(hA:aB (λn _=>dH n a ⟨6,id,0,0,0,⟨0,0⟩,v,⟨#[]⟩,[]⟩) λr=>r=(b,0))(g:List Aab)(h:List aP)(i:List Int)(j:List aD): aB (λn _=>Fc n ([],a.Plan.Nodes,a.Plan.Arcs,a.Plan.Faces,a.Features,g,h,i,j,id,v,⟨#[]⟩)) λr=>r=([(⟨6,id,0,0,0,⟨0,0⟩,v,⟨#[]⟩,[]⟩:aN)],b.Plan.Nodes,b.Plan.Arcs,b.Plan.Faces,b.Features,b,true):=
 aT (aE hA λr hr=>by
  have hr:r=(b,0):=hr
  subst hr
  exact aC (λz=>by simp at z) λ_=>aI (c8 (by simp)) (aA rfl))
section
variable (a:List Aab)(b:List aP)(c:List Int)(d:List aD)(F:List Aab)(g:List aP)(h:List Int)(G:List Aab)(hl:G.length<=1000)(fl:F.length=G.length)
include hl fl
theorem aN5(r:List aN)(s:List Aab)(t:List aP)(u:List Int)(v:List aD)(w:Nat)(e:∀(j:Nat) (x y:Aab),w<=j->G[j]?=some x->F[j]?=some y->x.At=y.At): aB (λn m=>mV fL n m (a,b,c,d,F,g,h,G,ln G) (r,s,t,u,v,(w:Int))) (Su (λ_=>False) λz=>z=(r,s,t,u,v)):=
 bF (aY (λx ex k=>by
  have ey:F[w]?=some F[w]:=Zb (by omega)
  rw[cD (i:=w) (by omega)]
  exact aI (by rw[bL];exact ey) (aC (λ_=>aN5 r s t u v (w+1) λj x y hj=>e j x y (by omega)) λz=>absurd (e w _ _ (Zf _) ex ey) (Zp z))) λ_=>aA rfl)
termination_by G.length-w
theorem aTg{x y:Aab}(hx:G[i]?=some x)(hy:F[i]?=some y)(ne:x.At≠y.At)(e:∀(j:Nat) (x y:Aab),j≠i->G[j]?=some x->F[j]?=some y->x.At=y.At)(hA:aB (λn _=>dH n s ⟨3,x.ID,0,0,0,x.At,[],⟨#[]⟩,[]⟩) λr=>r=(t,0))(w:Nat)(hw:w<=i): aB (λn m=>mV fL n m (a,b,c,d,F,g,h,G,ln G) ([],s.Plan.Nodes,s.Plan.Arcs,s.Plan.Faces,s.Features,(w:Int))) (Su (λ_=>False) λz=>z=([(⟨3,x.ID,0,0,0,x.At,[],⟨#[]⟩,[]⟩:aN)],t.Plan.Nodes,t.Plan.Arcs,t.Plan.Faces,t.Features)):=
 bF (aY (λx' ex k=>by
  have ey:F[w]?=some F[w]:=Zb (by omega)
  rw[cD (i:=w) (by omega)]
  refine aI (by rw[bL];exact ey) ?_
  rcases ZI w i with lt | ge
  .exact aC (λ_=>aTg hx hy ne e hA (w+1) (by omega)) λz=>absurd (e w _ _ (by omega) ex ey) (Zp z)
  .obtain rfl:w=i:=by omega
   rw[hx] at ex
   cases ex
   have ey2:F[w]=y:=by rw[hy] at ey;cases ey;rfl
   rw[ey2]
   refine aC (λz=>absurd (Zl z) ne) λ_=>aE (aPN hA a b c d) λz hz=>?_
   have hz:z=([(⟨3,x.ID,0,0,0,x.At,[],⟨#[]⟩,[]⟩:aN)],t.Plan.Nodes,t.Plan.Arcs,t.Plan.Faces,t.Features,t,true):=hz
   subst hz
   exact aC (λ_=>aN5 a b c d F g h G hl fl _ _ _ _ _ (w+1) λj x y hj=>e j x y (by omega)) λz=>by cases z) λk=>by
  have:=(Ze.1 hx).1
  omega)
termination_by G.length-w
end
section
variable (a:List Aab)(b:List aP)(c:List Int)(d:List aD)(f:List Aab)(F:List aP)(h:List Int)(G:List aP)(hl:G.length<=1000)(hv:∀x∈G,x.Via.length<=1000)(fl:F.length=G.length)
include hl hv fl
theorem aN4(r:List aN)(s:List Aab)(t:List aP)(u:List Int)(v:List aD)(w:Nat)(e:∀(j:Nat) (x y:aP),w<=j->G[j]?=some x->F[j]?=some y->x.Via=y.Via): aB (λn m=>mV fK n m (a,b,c,d,f,F,h,G,ln G) (r,s,t,u,v,(w:Int))) (Su (λ_=>False) λz=>z=(r,s,t,u,v)):=
 bF (aY (λx ex k=>by
  have ey:F[w]?=some F[w]:=Zb (by omega)
  rw[cD (i:=w) (by omega)]
  exact aI (by rw[bL];exact ey) (aE (aPk x.Via _ (by have:=hv x (Zg ex);omega)) λz hz=>aC (λ_=>aN4 r s t u v (w+1) λj x y hj=>e j x y (by omega)) λq=>by rw[hz.2 (e w _ _ (Zf _) ex ey)] at q;cases q)) λ_=>aA rfl)
termination_by G.length-w
theorem aTf{x y:aP}(hx:G[i]?=some x)(hy:F[i]?=some y)(ne:x.Via≠y.Via)(e:∀(j:Nat) (x y:aP),j≠i->G[j]?=some x->F[j]?=some y->x.Via=y.Via)(hA:aB (λn _=>dH n s ⟨6,x.ID,0,0,0,⟨0,0⟩,x.Via,⟨#[]⟩,[]⟩) λr=>r=(t,0))(w:Nat)(hw:w<=i): aB (λn m=>mV fK n m (a,b,c,d,f,F,h,G,ln G) ([],s.Plan.Nodes,s.Plan.Arcs,s.Plan.Faces,s.Features,(w:Int))) (Su (λ_=>False) λz=>z=([(⟨6,x.ID,0,0,0,⟨0,0⟩,x.Via,⟨#[]⟩,[]⟩:aN)],t.Plan.Nodes,t.Plan.Arcs,t.Plan.Faces,t.Features)):=
 bF (aY (λx' ex k=>by
  have ey:F[w]?=some F[w]:=Zb (by omega)
  have lx:=hv x' (Zg ex)
  rw[cD (i:=w) (by omega)]
  refine aI (by rw[bL];exact ey) (aE (aPk x'.Via _ (by omega)) λq hq=>?_)
  rcases ZI w i with lt | ge
  .exact aC (λ_=>aTf hx hy ne e hA (w+1) (by omega)) λz=>by rw[hq.2 (e w _ _ (by omega) ex ey)] at z;cases z
  .obtain rfl:w=i:=by omega
   rw[hx] at ex
   cases ex
   have ey2:F[w]=y:=by rw[hy] at ey;cases ey;rfl
   rw[ey2] at hq
   refine aC (λz=>absurd (hq.1 z) ne) λ_=>aE (aLN x.Via (by omega)) λl hc=>?_
   have hc:l=x.Via:=hc
   subst hc
   refine aE (aPM hA a b c d) λz hz=>?_
   have hz:z=([(⟨6,x.ID,0,0,0,⟨0,0⟩,x.Via,⟨#[]⟩,[]⟩:aN)],t.Plan.Nodes,t.Plan.Arcs,t.Plan.Faces,t.Features,t,true):=hz
   subst hz
   exact aC (λ_=>aN4 a b c d f F h G hl hv fl _ _ _ _ _ (w+1) λj x y hj=>e j x y (by omega)) λz=>by cases z) λk=>by
  have:=(Ze.1 hx).1
  omega)
termination_by G.length-w
end
end
structure Fk(s t:aJ): Prop where
 l:s.Features.length=t.Features.length
 f:∀(i:Nat) (x:aD),s.Features[i]?=some x->∃y,t.Features[i]?=some y/\x.ID=y.ID/\x.Kind=y.Kind/\x.Parts=y.Parts
def FM(l:List aD)(i:Nat)(h:List (Int×Bool))(o:List (Int×aD)): Prop:=wC l i λx=>bQ h x.ID=some true/\bQ o x.ID=some x
theorem aTy(s t:aJ)(os:pL s)(ot:pL t)(xs:SvX s)(xt:SvX t)(k:Fk s t)(i:Nat)(h:List (Int×Bool))(o:List (Int×aD))(m:FM s.Features i h o): aB (λn p=>Ob iV n p (t,s.Features,ln s.Features) ([],h,o,(i:Int))) λr=>r.1=[]/\FM s.Features s.Features.length r.2.1 r.2.2:=
 eD (aY (λx ex c=>by
  obtain⟨y,hy,h1,h2,h3⟩:=k.f i x ex
  rw[cD (i:=i) (by have:=os.n;omega)]
  refine aE (aRA t ot x.ID) λq hq=>?_
  have hq:q=(y,true):=by
   have hq:q=aAI t x.ID:=hq
   rw[hq,h1]
   exact aLu xt (Zg hy)
  subst hq
  refine aC (λ_=>aC (λ_=>aE (f:=λn _=>eN n x.Parts y.Parts) (Q:=λr=>r=true) (by rw[<-h3];exact aPn x.Parts (by have:=os.f x (Zg ex);omega)) λc hc=>aC (λ_=>?_) λz=>by rw[show c=true from hc] at z;cases z) λz=>by rw[show x.Kind=y.Kind from h2] at z;simp at z) λz=>by cases z
  refine aC (λ_=>aTy s t os ot xs xt k (i+1) _ _ λj u hj hu=>?_) λz=>by rw[lG,Zu rfl] at z;simp at z
  show bQ (dX h x.ID true) u.ID=some true/\bQ (dX o x.ID x) u.ID=some u
  rw[lG,lG]
  rcases Classical.em (x.ID=u.ID) with e | e
  .rw[Zu e,Zu e,xs.asc.inj (Zg ex) (Zg hu) e]
   exact⟨rfl,rfl⟩
  .rw[ZF e,ZF e]
   have:j≠i:=λe2=>by subst e2;rw[ex] at hu;cases hu;exact e rfl
   exact m j u (by omega) hu) λh=>aA ⟨rfl,λj u _ hu=>m j u (by have:=(Ze.1 hu).1;omega) hu⟩)
termination_by s.Features.length-i
section
variable (s t:aJ)(ot:pL t)(k:Fk s t)(h:List (Int×Bool))(o:List (Int×aD))(m:FM s.Features s.Features.length h o)
include k m in
theorem aLo{i:Nat}{y:aD}(hy:t.Features[i]?=some y): ∃x,s.Features[i]?=some x/\bQ h y.ID=some true/\bQ o y.ID=some x:=by
 have li:=(Ze.1 hy).1
 have ls:i<s.Features.length:=by have:=k.l;omega
 have hx:s.Features[i]?=some s.Features[i]:=Zb ls
 obtain⟨y',hy',h1,_⟩:=k.f i _ hx
 rw[hy] at hy'
 cases hy'
 have:bQ h (s.Features[i]).ID=some true/\bQ o (s.Features[i]).ID=some s.Features[i]:=m i _ ls hx
 rw[h1] at this
 exact⟨_,hx,this.1,this.2⟩
include ot k m
theorem ftE(r:List aN)(w:Nat)(e:∀(j:Nat) (x y:aD),w<=j->s.Features[j]?=some x->t.Features[j]?=some y->x.Name=y.Name/\x.Class=y.Class): aB (λn p=>Ob dL n p (h,o,t.Features,ln t.Features) (r,(w:Int))) λz=>z=r:=
 eD (aY (λy ey c=>by
  obtain⟨x,hx,h1,h2⟩:=aLo s t k h o m ey
  obtain⟨e1,e2⟩:=e w x y (Zf _) hx ey
  rw[cD (i:=w) (by have:=ot.n;omega),h1,h2]
  refine aC (λ_=>aC (λ_=>aC (λz=>?_) λ_=>ftE r (w+1) λj x y hj=>e j x y (by omega)) λz=>absurd (show x.Name=y.Name from e1) (Zp z)) λz=>by cases z
  rw[show (Option.getD (some x) _).Class=y.Class from e2] at z
  simp at z) λ_=>aA rfl)
termination_by t.Features.length-w
theorem ftO{i:Nat}{x y:aD}(hx:s.Features[i]?=some x)(hy:t.Features[i]?=some y)(X:aN)(ne:(x.Name≠y.Name/\x.Class=y.Class/\X=⟨9,y.ID,0,0,0,⟨0,0⟩,[],y.Name,[]⟩)\/(x.Name=y.Name/\x.Class≠y.Class/\X=⟨10,y.ID,0,y.Class,0,⟨0,0⟩,[],⟨#[]⟩,[]⟩))(e:∀(j:Nat) (x y:aD),j≠i->s.Features[j]?=some x->t.Features[j]?=some y->x.Name=y.Name/\x.Class=y.Class)(w:Nat)(hw:w<=i): aB (λn p=>Ob dL n p (h,o,t.Features,ln t.Features) ([],(w:Int))) λz=>z=[X]:=
 eD (aY (λy' ey c=>by
  obtain⟨x',hx',h1,h2⟩:=aLo s t k h o m ey
  rw[cD (i:=w) (by have:=ot.n;omega),h1,h2]
  rcases ZI w i with lt | ge
  .obtain⟨e1,e2⟩:=e w x' y' (by omega) hx' ey
   refine aC (λ_=>aC (λ_=>aC (λz=>?_) λ_=>ftO hx hy X ne e (w+1) (by omega)) λz=>absurd (show x'.Name=y'.Name from e1) (Zp z)) λz=>by cases z
   rw[show (Option.getD (some x') _).Class=y'.Class from e2] at z
   simp at z
  .obtain rfl:w=i:=by omega
   rw[hx] at hx'
   cases hx'
   rw[hy] at ey
   cases ey
   have fin:aB (λn p=>Ob dL n p (h,o,t.Features,ln t.Features) ([X],((w+1:Nat):Int))) λz=>z=[X]:=ftE s t ot k h o m [X] (w+1) λj x y hj=>e j x y (by omega)
   rcases ne with⟨n1,n2,n3⟩ | ⟨n1,n2,n3⟩
   .subst n3
    refine aC (λ_=>aC (λz=>absurd (Zl z) n1) λ_=>aI (c8 (by simp)) (aC (λz=>?_) λ_=>fin)) λz=>by cases z
    rw[show (Option.getD (some x) _).Class=y.Class from n2] at z
    simp at z
   .subst n3
    refine aC (λ_=>aC (λ_=>aC (λ_=>aI (c8 (by simp)) fin) λz=>absurd (show x.Class=y.Class by simpa using z) n2) λz=>absurd (show x.Name=y.Name from n1) (Zp z)) λz=>by cases z) λk=>by
  have:=(Ze.1 hy).1
  omega)
termination_by t.Features.length-w
theorem aTx(r:List aN)(w:Nat): aB (λn p=>Ob iU n p (h,t.Features,ln t.Features) (r,(w:Int))) λz=>z=r:=
 eD (aY (λy ey c=>by
  obtain⟨x,hx,h1,h2⟩:=aLo s t k h o m ey
  rw[cD (i:=w) (by have:=ot.n;omega),h1]
  exact aC (λ_=>aTx r (w+1)) λz=>by cases z) λ_=>aA rfl)
termination_by t.Features.length-w
end
theorem aLt(s t:aJ)(os:pL s)(ot:pL t)(xs:SvX s)(xt:SvX t)(k:Fk s t)(L:List aN)(hL:∀h o,FM s.Features s.Features.length h o->aB (λn p=>Ob dL n p (h,o,t.Features,ln t.Features) ([],(0:Int))) λz=>z=L): aB (λn _=>dC n s t) λr=>r=L:=
 aW (λ_=>rfl) (aE (bB (aTy s t os ot xs xt k 0 [] [] λj x h=>by omega)) λc hc=>by
  obtain⟨c1,c2,c3⟩:=c
  obtain⟨hc,hm⟩:=hc
  have hc:c1=[]:=hc
  subst hc
  refine aE (bB (hL c2 c3 hm)) λd hd=>?_
  have hd:d=L:=hd
  subst hd
  exact aE (bB (aTx s t ot k c2 c3 hm d 0)) λf hf=>aA hf)
theorem aFR(a b w:aJ)(ha:OK a)(hb:OK b)(L1 L2:List aN)(l1:L1.length<=1)(l2:L2.length<=1)(k:Alk a.Plan b.Plan)(h2:aB (λn m=>mV fL n m (b.Plan.Nodes,b.Plan.Arcs,b.Plan.Faces,b.Features,a.Plan.Nodes,a.Plan.Arcs,a.Plan.Faces,b.Plan.Nodes,ln b.Plan.Nodes) ([],a.Plan.Nodes,a.Plan.Arcs,a.Plan.Faces,a.Features,(0:Int))) (Su (λ_=>False) λz=>∃l v,z=(l,v) /\
  aB (λn m=>mV fK n m (b.Plan.Nodes,b.Plan.Arcs,b.Plan.Faces,b.Features,a.Plan.Nodes,a.Plan.Arcs,a.Plan.Faces,b.Plan.Arcs,ln b.Plan.Arcs) (l,v.1,v.2.1,v.2.2.1,v.2.2.2,(0:Int))) (Su (λ_=>False) λz=>z=(L1,w.Plan.Nodes,w.Plan.Arcs,w.Plan.Faces,w.Features))))(hf:aB (λn _=>dC n w b) λr=>r=L2): aB (λn _=>cY n a b) λr=>r=(L1++L2,0):=by
 refine aW (λ_=>rfl) (aE ha.c λc hc=>aC (λz=>by rw[show c=0 from hc] at z;simp at z) λ_=>aE hb.c λd hd=>aC (λz=>by rw[show d=0 from hd] at z;simp at z) λ_=>aR (f:=λn _=>Fe n ([],a.Plan.Nodes,a.Plan.Arcs,a.Plan.Faces,a.Features,b.Plan.Nodes,b.Plan.Arcs,b.Plan.Faces,b.Features)) (Q:=λ_=>False) (R:=Su (λ_=>False) λz=>z=(L1,w.Plan.Nodes,w.Plan.Arcs,w.Plan.Faces,w.Features,true)) ?_ (λ_ h=>h.elim) λm hm=>?_)
 .refine aT (aE (aOA a.Plan b.Plan ha.v.sm k) λr hr=>aC (λ_=>aR (bB h2) (λ_ h=>h.elim) λu hu=>aI rfl ?_) λz=>by rw[show r=true from hr] at z;cases z)
  obtain⟨l,v,rfl,h4⟩:=hu
  refine aR (bB h4) (λ_ h=>h.elim) λx hx=>aI rfl (aA ?_)
  have hx:x=(L1,w.Plan.Nodes,w.Plan.Arcs,w.Plan.Faces,w.Features):=hx
  subst hx
  exact rfl
 .refine aR (f:=λ_ _=>some m) (Q:=λ_=>False) (R:=λz=>z=(L1,w.Plan.Nodes,w.Plan.Arcs,w.Plan.Faces,w.Features,true)) (aA hm) (λ_ h=>h.elim) λm hm=>aI rfl ?_
  subst hm
  exact aC (λ_=>aE hf λy hy=>by
   have hy:y=L2:=hy
   subst hy
   exact aI (O7 (by simp;omega)) (aA rfl)) λz=>by cases z
end Go.Proofs.YtmlgedgcbfchjaaGreatDoor.Av
