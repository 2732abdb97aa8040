/- A part of the proof of a law. -/
import Derived.Test.YtmlgedgcbfchjaaGreatDoorP2
import Derived.Scope
import Derived.Control
import Derived.WalkKit
import Derived.ProofKit
import Derived.OpenShut
import Derived.SizedLaws
import Derived.Handed
set_option maxRecDepth 100000
set_option maxHeartbeats 4000000
set_option linter.all false
namespace Go.Proofs.YtmlgedgcbfchjaaGreatDoor.Av
open Go
section
variable {P:Program}{Q:Exit->Act->World->Prop}{T:List cQ}{a:Act}{c:dF}{cf:Nat->Nat->List AV->aU->Option (AV×aU)}{fl:Nat}{o:Oper}{ops:Array Oper}{tm:List AV}
section
theorem TR.put{FT:Nat->Option Nat}{d:Option Nat}{x:AV}{v:Value}(h:TR FT c tm a.tmps)(j:RV FT c x v): TR FT c (iY tm d x) (a.put d v).tmps:=by
 cases d with
 | none=>exact h
 | some d=>
  simp only[iY,Act.put];refine⟨by simpa using h.1,λt y e=>?_⟩;rw[Z5] at e;split at e
  .rename_i b;subst b;split at e
   .rename_i f;cases e;exact⟨v,by simp[<-h.1,f],j⟩
   .cases e
  .rename_i b;let⟨u,g,i⟩:=h.2 t y e;exact⟨u,by rw[YB b];exact g,i⟩
theorem jC(a:Act)(d:Option Nat)(v:Value): (a.put d v).defers=a.defers:=by cases d<;>rfl
theorem EQ[aF]{g:Option<|Nat×Bool}{b:Bool}(h:TR (aK T) c tm a.tmps)(e:Rk ops g o.guard=true)(d:fC tm g=some b):
 Region.wanted o (yielded ops a.tmps)=b:=by
 unfold Region.wanted;cases g with
 | none=>
  cases k:o.guard with
  | none=>
   simp only[fC,Za] at d;exact d
  | some q=>rw[k] at e;simp[Rk] at e
 | some q=>
  let⟨t,A⟩:=q;cases k:o.guard with
  | none=>rw[k] at e;simp[Rk] at e
  | some q=>
   let⟨j,C⟩:=q;rw[k] at e;simp only[Rk,Zd,ZC] at e;let⟨rfl,e⟩:=e;split at e
   .rename_i p s;have B:p.dst=some t:=by simpa using e
    simp only[fC] at d;have z:yielded ops a.tmps j=match a.tmps[t]? with | some (.bool b)=>some b | _=>none:=by
     unfold yielded;simp only[s,Z2,B];cases a.tmps[t]? with
     | none=>rfl
     | some v=>cases v<;>rfl
    simp only[z];simp only[aH] at d;cases i:tm[t]? with
    | none=>
     rw[i] at d;simp only[bM] at d;have y:a.tmps[t]?=none:=by
      rw[Array.getElem?_eq_none_iff,<-h.1];simpa using i
     rw[y];cases d;rfl
    | some x=>
     rw[i] at d;let⟨v,w,r⟩:=h.2 t x i;rw[w];simp only at d;split at d
     .rename_i n;rw[r.lit_inv];cases d;cases n<;>cases A<;>rfl
     .rename_i u l;rw[r.lit_inv];cases d;split
      .rename_i n m;cases m;exact (l n rfl).elim
      .rfl
     .cases d
   .cases e
theorem lF[aF](j:De P T cf)(k:pV P T){i:Nat}{ao:bS}{st':St}{K:Act->World->Prop}(n:bY (aK T) c)(d:TR (aK T) c tm a.tmps)(g:fl<=c.H.length)(u:ops[i]?=some o)(e:Ey P T ops ao o=true)(b:cS P cf fl ao ⟨tm,c.H⟩=some st')(l:∀a' c',c'.H=st'.heap->bW fl c c'->bY (aK T) c'->TR (aK T) c' st'.tmps a'.tmps->a'.defers=a.defers->(∃x v,st'.tmps=iY tm o.dst x/\a'=a.put o.dst v/\RV (aK T) c' x v)->K a' c'.w):
 wpOp P ops Q i K a c.w:=by
 simp only[Ey,Zd,ZC] at e;let⟨⟨r,q⟩,h⟩:=e;unfold wpOp;rw[u];simp only;unfold cS at b;rw[r] at b;split at b
 .rename_i f;rw[EQ d q f];simp only[Zz];split at b
  .rename_i v H he;cases b;left;refine aFK j k n d g h he K Q ?_;intro cv c' t m s p;exact l _ c' t m s ((d.step m).put p) (jC _ _ _) ⟨v,cv,rfl,rfl,p⟩
  .cases b
 .rename_i f;rw[EQ d q f];simp only[Zn,Z9];cases b;exact l _ c rfl (bW.refl _ _) n (d.put<|RV.lit _) (jC _ _ _) ⟨_,_,rfl,rfl,RV.lit _⟩
 .cases b
theorem Dt[aF](h:De P T cf)(l:pV P T): ∀(aops:List bS) (os:List Oper) (k:Nat) (c:dF) (a:Act) (tm:List AV) (st':St),
 Ch P T ops aops os=true->(∀j o,os[j]?=some o->ops[k+j]?=some o)->bY (aK T) c->TR (aK T) c tm a.tmps->fl<=c.H.length->jM P cf fl aops ⟨tm,c.H⟩=some st'->
 (∀a' c',c'.H=st'.heap->bW fl c c'->bY (aK T) c'->TR (aK T) c' st'.tmps a'.tmps->a'.defers=a.defers->Q .normal a' c'.w)->wpOps P ops Q (List.range' k aops.length) a c.w
 | [],[],k,c,a,tm,st',_,_,s,f,_,d,n=>by
  simp only[jM,Za] at d;subst d;exact n a c rfl (bW.refl _ _) s f rfl
 | ao::r,o::os,k,c,a,tm,st',b,e,s,f,i,d,n=>by
  simp only[Ch,Zd] at b;simp only[jM] at d;split at d
  .rename_i g x;simp only[Yc,List.range'_succ,Y3];refine lF h l s f i (e 0 o<|by simp) b.1 x ?_;intro a' c' t e2 y u z _;have:(⟨g.tmps,c'.H⟩:St)=g:=by rw[t]
   refine Dt h l r os (k+1) c' a' g.tmps st' b.2 (λj p B=>?_) y u (ZB i e2.len) (by rw[this];exact d) ?_
   .have:=e (j+1) p (by simpa using B);rwa [show k+(j+1)=k+1+j by omega] at this
   .intro q m f1 f2 A v C;exact n q m f1 (e2.trans f2) A v<|C.trans z
  .cases d
 | [],_::_,_,_,_,_,_,b,_,_,_,_,_,_=>by cases b
 | _::_,[],_,_,_,_,_,b,_,_,_,_,_,_=>by cases b
end
end
section
variable {P:Program}{T:List cQ}{cf:Nat->Nat->List AV->aU->Option (AV×aU)}{fl:Nat}
theorem G7[aF]{t:Nat}: ∀{a:List bA},bA.tmp t∈a->t∈Oh a
 | x::r,h=>by
  rcases ZN.1 h with e | b
  .subst e;simp[Oh]
  .have c:=G7 b;cases x<;>simp[Oh,c]
theorem aBY[aF]{tm a:List AV}{b:List bA}(h:∀t∈Oh b,tm[t]?=a[t]?): ∀x∈b,aH tm x=aH a x:=by
 intro x d;cases x with
 | tmp t=>simp only[aH,h t<|G7 d]
 | _=>rfl
theorem qO[aF]{tm a:List AV}{x:Option bA}(h:∀y∈aFs x,aH tm y=aH a y): eC tm x=eC a x:=by
 cases x with
 | none=>rfl
 | some y=>simp only[eC,h y<|by simp[aFs]]
theorem aFM[aF]{tm a:List AV}{H:aU}{k:Ju}(h:∀x∈wX k,aH tm x=aH a x): aO P cf fl k tm H=aO P cf fl k a H:=by
 cases k with
 | build z c=>
  have e:(c.map λ(p:Nat×Nat×bA)=>(p.1,p.2.1,aH tm p.2.2))=c.map λ(p:Nat×Nat×bA)=>(p.1,p.2.1,aH a p.2.2):=by
   apply ZS;intro p B;rw[h p.2.2<|by simp only[wX,Yh];exact⟨p,B,rfl⟩]
  simp only[aO];have w:(c.map λ(o,s,x)=>(o,s,aH tm x))=c.map λ(o,s,x)=>(o,s,aH a x):=e;rw[w]
 | buildSl pu s n z c=>
  have w:(c.map λ(i,x)=>(i,aH tm x))=c.map λ(i,x)=>(i,aH a x):=by
   apply ZS;intro p B;show (p.1,aH tm p.2)=(p.1,aH a p.2);rw[h p.2<|by simp only[wX,Yh];exact⟨p,B,rfl⟩]
  simp only[aO];rw[w]
 | slice s x F l mx=>
  simp only[wX] at h;simp only[aO];rw[h x<|by simp,qO λy b=>h y<|by simp[b],qO (x:=l) λy b=>h y<|by simp[b],qO (x:=mx) λy b=>h y<|by simp[b]]
 | strSlice t x F l=>
  simp only[wX] at h;simp only[aO];rw[h x<|by simp,qO λy b=>h y<|by simp[b],qO (x:=l) λy b=>h y<|by simp[b]]
 | minmax mx d=>
  simp only[wX] at h;simp only[aO];rw[ZS h]
 | mkFn vi d=>
  simp only[wX] at h;simp only[aO];rw[ZS h]
 | call pu vi d=>
  simp only[wX] at h;simp only[aO];rw[ZS h]
 | callF vi d=>
  simp only[wX] at h;simp only[aO];rw[ZS h]
 | callT s vi d=>
  simp only[wX] at h;simp only[aO];rw[ZS h]
 | callB vi d=>
  simp only[wX] at h;simp only[aO];rw[ZS h]
 | callS vi d=>
  simp only[wX] at h;simp only[aO];rw[ZS h]
 | callv pu x d=>
  simp only[wX] at h;simp only[aO];rw[h x<|by simp,ZS λy b=>h y<|by simp[b]]
 | _=>
  simp only[wX,ZN,List.not_mem_nil,or_false,forall_eq_or_imp,forall_eq,false_imp_iff,implies_true] at h;simp[aO,h]
theorem aCO[aF]{tm a:List AV}{g:Option<|Nat×Bool}(h:∀t b,g=some (t,b)->tm[t]?=a[t]?): fC tm g=fC a g:=by
 cases g with
 | none=>rfl
 | some q=>
  let⟨t,b⟩:=q;simp only[fC,aH,h t b rfl]
theorem MZ[aF]{tm c:List AV}{H:aU}{o:bS}{st':St}(h:∀t∈FO o,tm[t]?=c[t]?)(a:cS P cf fl o ⟨c,H⟩=some st'):
 ∃x,st'.tmps=iY c o.dst x/\cS P cf fl o ⟨tm,H⟩=some ⟨iY tm o.dst x,st'.heap⟩:=by
 have f:fC tm o.guard=fC c o.guard:=aCO λt b e=>h t (by simp[FO,e]);have g:aO P cf fl o.op tm H=aO P cf fl o.op c H:=aFM<|aBY λt d=>h t (by
  unfold FO;split
  .simp[d]
  .exact d)
 unfold cS at a |-;simp only[f,g] at a |-;split at a
 .split at a
  .rename_i v H1 he;cases a;exact⟨v,rfl,rfl⟩
  .cases a
 .cases a;exact⟨_,rfl,rfl⟩
 .cases a
theorem K7[aF]{tm:List AV}{H H':aU}{f:Ju}{v:AV}(b:kN f=true)(a:aO P cf fl f tm H=some (v,H')): H'=H:=by
 cases f with
 | call pu vi h=>
  simp only[kN] at b;subst b;simp only[aO,Ff] at a;split at a<;>split at a<;>cases a<;>rfl
 | callv pu x h=>
  simp only[kN] at b;subst b;simp only[aO,Ff] at a;split at a
  .split at a<;>split at a<;>cases a<;>rfl
  .cases a
 | buildSl pu s n z i=>
  simp only[kN] at b;subst b;simp only[aO,Zz] at a;split at a<;>cases a;rfl
 | lookup kt z m k ok=>
  simp only[aO] at a;split at a
  .split at a
   .split at a
    .split at a<;>cases a;rfl
    .cases a;rfl
    .cases a
   .split at a
    .split at a
     .split at a<;>cases a;rfl
     .cases a;rfl
     .cases a
    .cases a
   .split at a
    .split at a<;>cases a;rfl
    .cases a;rfl
    .cases a
   .cases a
  .cases a
 | _=>
  first
  | (simp[kN] at b;done)
  | (simp only[aO] at a;(repeat' split at a)<;>first | (cases a;rfl) | cases a)
theorem MY[aF]{st st':St}{o:bS}(b:kN o.op=true)(a:cS P cf fl o st=some st'): st'.heap=st.heap:=by
 unfold cS at a;split at a
 .split at a
  .rename_i v H he;cases a;exact K7 b he
  .cases a
 .cases a;rfl
 .cases a
theorem aCT[aF]: ∀(aops:List bS) (st st':St),jM P cf fl aops st=some st'->
 ∃S:Nat->St,S 0=st/\S aops.length=st'/\∀k ao,aops[k]?=some ao->cS P cf fl ao (S k)=some (S<|k+1)
 | [],st,st',h=>by
  simp only[jM,Za] at h;exact⟨λ_=>st,rfl,h,λk ao a=>by simp at a⟩
 | o::r,st,st',h=>by
  simp only[jM] at h;split at h
  .rename_i b e;let⟨S,c,e2,d⟩:=aCT r b st' h;refine⟨λk=>match k with | 0=>st | k+1=>S k,rfl,by simpa using e2,λk ao a=>?_⟩;cases k with
   | zero=>
    simp only[Zt,Za] at a;subst a;rw[e,<-c]
   | succ k=>
    simp only[ZL] at a;exact d k ao a
  .cases h
def NV(aops:List bS)(k:Nat): Option Nat:=match aops[k]? with | some o=>o.dst | none=>none
def kP(aops:List bS)(tm:List AV)(val:Nat->AV)(D:Nat->Bool): Nat->List AV
 | 0=>tm
 | n+1=>if D n then iY (kP aops tm val D n) (NV aops n) (val n) else kP aops tm val D n
theorem VI(tm:List AV)(d:Option Nat)(x:AV): (iY tm d x).length=tm.length:=by cases d<;>simp[iY]
theorem fO[aF]{aops:List bS}{tm:List AV}{val:Nat->AV}{D:Nat->Bool}: ∀n,(kP aops tm val D n).length=tm.length
 | 0=>rfl
 | n+1=>by
  simp only[kP];split
  .rw[VI,fO n]
  .exact fO n
theorem zL{tm:List AV}{d:Option Nat}{x:AV}{t:Nat}: (iY tm d x)[t]?=if d=some t then (if t<tm.length then some x else none) else tm[t]?:=by
 cases d with
 | none=>simp[iY]
 | some d=>
  simp only[iY,Z5,Za];by_cases e:d=t
  .subst e;rfl
  .simp[e]
theorem Qi[aF]{aops:List bS}{tm:List AV}{val:Nat->AV}{D D':Nat->Bool}{t:Nat}: ∀n,(∀j,j<n->NV aops j=some t->D j=D' j)->(kP aops tm val D n)[t]?=(kP aops tm val D' n)[t]?
 | 0,_=>rfl
 | n+1,h=>by
  have d:=Qi (val:=val) (tm:=tm) n λj e b=>h j (by omega) b;simp only[kP];by_cases b:NV aops n=some t
  .rw[h n (by omega) b];split
   .simp only[zL,b,Zz,fO]
   .exact d
  .have c:∀l:List AV,(iY l (NV aops n)<|val n)[t]?=l[t]?:=λl=>by rw[zL,ZF b]
   split<;>split<;>(try simp only[c])<;>exact d
theorem VU[aF]{aops:List bS}{tm:List AV}{val:Nat->AV}{D D':Nat->Bool}: ∀n,(∀j,j<n->D j=D' j)->kP aops tm val D n=kP aops tm val D' n
 | 0,_=>rfl
 | n+1,h=>by
  simp only[kP,h n<|by omega,VU n λj a=>h j<|by omega]
theorem K0[aF]{aops:List bS}{tm:List AV}{val:Nat->AV}{D:Nat->Bool}{t k:Nat}(f:D k=true)(d:NV aops k=some t): ∀n,k<n->(∀j,k<j->j<n->NV aops j=some t->D j=false)->
 (kP aops tm val D n)[t]?=if t<tm.length then some (val k) else none
 | 0,h,_=>by omega
 | n+1,l,h=>by
  simp only[kP];by_cases e:k=n
  .subst e;rw[Zu f,zL,Zu d,fO]
  .have c:=K0 (tm:=tm) (val:=val) f d n (by omega) λj g m i=>h j g (by omega) i;by_cases b:NV aops n=some t
   .rw[h n (by omega) (by omega) b];simpa using c
   .split
    .rw[zL,ZF b];exact c
    .exact c
theorem AD[aF]{aops:List bS}{tm:List AV}{val:Nat->AV}{S:Nat->St}(b:(S 0).tmps=tm)(a:∀k ao,aops[k]?=some ao->(S<|k+1).tmps=iY (S k).tmps ao.dst (val k)):
 ∀n,n<=aops.length->kP aops tm val (λ_=>true) n=(S n).tmps
 | 0,_=>b.symm
 | n+1,h=>by
  have c:n<aops.length:=by omega
  simp only[kP,Zz,AD b a n<|by omega];rw[a n aops[n]<|by simp];simp[NV,c]
theorem Qg[aF]{aops:List bS}{tm:List AV}{val:Nat->AV}{D:Nat->Bool}{k:Nat}: ∀n,k<=n->(∀j,k<=j->j<n->D j=false)->kP aops tm val D n=kP aops tm val D k
 | 0,h,_=>by have:k=0:=(by omega);rw[this]
 | n+1,h,b=>by
  by_cases e:k=n+1
  .rw[e]
  .simp only[kP,b n (by omega)<|by omega];simpa using Qg n (by omega) λj c d=>b j c<|by omega
theorem MN[aF]{aops:List bS}{tm:List AV}{val:Nat->AV}{S:Nat->St}{D:Nat->Bool}{k n:Nat}(c:(S 0).tmps=tm)(a:∀k ao,aops[k]?=some ao->(S<|k+1).tmps=iY (S k).tmps ao.dst (val k))(d:k<=n)(f:n<=aops.length)(e:∀j,j<k->D j=true)(b:∀j,k<=j->j<n->D j=false): kP aops tm val D n=(S k).tmps:=by
 rw[Qg n d b,VU (D':=λ_=>true) k e];exact AD c a k<|by omega
theorem aAy[aF]{a:List Nat}{i:Nat}: ∀{ds:List Nat},(LQ a ds).testBit i=true->∃d∈ds,i=d\/(a.getD d 0).testBit i=true
 | [],h=>by simp[LQ] at h
 | d::r,h=>by
  simp only[LQ,Nat.testBit_or,YU] at h;rcases h with (h | h) | h
  .have:d=i:=by simpa [Nat.testBit_two_pow] using h
   exact⟨d,by simp,.inl this.symm⟩
  .exact⟨d,by simp,.inr h⟩
  .let⟨e,c,b⟩:=aAy h;exact⟨e,by simp[c],b⟩
def aLB(ops:List Oper)(k:Nat): List Nat:=match ops[k]? with
 | some o=>(o.after.toList.filter λe=>Region.binds .any e&&decide (e.on<k)).map λ(e:Edge)=>e.on
 | none=>[]
theorem aBe[aF]{ops:List Oper}: ∀(n:Nat) (a:List Nat),(∃L,yO ops n a=a++L/\L.length=n) /\
 ∀k,a.length<=k->k<a.length+n->(yO ops n a).getD k 0=LQ ((yO ops n a).take k) (aLB ops k)
 | 0,a=>⟨⟨[],by simp[yO],rfl⟩,λk c d=>by omega⟩
 | n+1,a=>by
  let⟨⟨L,c,d⟩,h⟩:=aBe (ops:=ops) n<|a++[LQ a<|aLB ops a.length];have e:yO ops (n+1) a=yO ops n (a++[LQ a<|aLB ops a.length]):=rfl;rw[e];refine⟨⟨LQ a (aLB ops a.length)::L,by rw[c];simp,by simp[d]⟩,λk i f=>?_⟩;by_cases g:k=a.length
  .subst g;rw[c];simp[YS]
  .exact h k (by simp;omega)<|by simp;omega
theorem aEA[aF]{ops:List Oper}{k i:Nat}(g:k<ops.length)(h:((yO ops ops.length []).getD k 0).testBit i=true):
 ∃o,ops[k]?=some o/\∃e∈o.after,Region.binds .any e=true/\e.on<k/\(i=e.on\/((yO ops ops.length []).getD e.on 0).testBit i=true):=by
 let⟨_,j⟩:=aBe (ops:=ops) ops.length [];rw[j k (by simp)<|by simpa using g] at h;let⟨d,f,a⟩:=aAy h;unfold aLB at f;rw[Zb g] at f;simp only[Yh,List.mem_filter,Zd,Z4] at f;obtain⟨e,⟨he,l,b⟩,rfl⟩:=f;refine⟨ops[k],Zb g,e,by simpa using he,l,b,?_⟩;rcases a with a | a
 .exact .inl a
 .right;rw[<-a];congr 1;simp only[YS];rw[Zs,Zu b]
theorem gL[aF]{f:Nat}{aops:List bS}{an:List Nat}: ∀n,LP f aops an n=true->∀i j,i<j->j<n->(an.getD j 0).testBit i=true \/
 (((cA aops i=true\/cA aops j=true)\/(i=f/\j=f+1/\fQ aops i=true/\fQ aops j=true))/\∃x y,aops[i]?=some x/\aops[j]?=some y/\EL x y=false/\EL y x=false)
 | 0,_,i,j,_,h=>by omega
 | n+1,h,i,j,d,p=>by
  simp only[LP,Zd] at h;by_cases e:j=n
  .subst e;have:=Yl.1 h.2 i (by simpa using d);simp only[YU,Zd,ZC] at this;rcases this with a | ⟨a,c⟩
   .exact .inl a
   .right;refine⟨by rcases a with a | ⟨⟨⟨a,g⟩,k⟩,l⟩;exact .inl a;exact .inr ⟨a,g,k,l⟩,?_⟩;split at c
    .rename_i x y m o;simp only[Zd,YG] at c;exact⟨x,y,m,o,c.1,c.2⟩
    .cases c
  .exact gL n h.1 i j d<|by omega
theorem VC{aops:List bS}{e:List<|Nat×Nat}{an:List Nat}{n k m:Nat}(h:aFa aops e an n=true)(g:k<n)(f:m<n)(c:cA aops k=true)(d:cA aops m=false):
 jS aops k=true\/(an.getD k 0).testBit m=true\/(an.getD m 0).testBit k=true\/(k,m)∈e:=by
 have b:=Yl.1 h k (by simpa using g);simp only[YU,c,Xg,Zn,or_false] at b;rcases b with b | b
 .exact .inl b
 .have a:=Yl.1 b m (by simpa using f);simp only[YU,d,Zn,false_or] at a;rcases a with (a | a) | a
  .exact .inr<|.inl a
  .exact .inr<|.inr<|.inl a
  .exact .inr<|.inr<|.inr<|by simpa using a
theorem NA[aF]{tm:List AV}{H H':aU}{c:Ju}{v:AV}{H1:aU}(d:yT c=true)(a:aO P cf fl c tm H=some (v,H1)): aO P cf fl c tm H'=some (v,H'):=by
 cases c with
 | buildSl pu s n z e=>
  simp only[yT] at d;subst d;simp only[aO,Zz] at a |-;split at a<;>cases a;rfl
 | _=>
  first
  | (simp[yT] at d;done)
  | (simp only[aO] at a |-;(repeat' split at a)<;>first | (cases a;rfl) | (cases a;simp_all) | cases a)
theorem T6{H H':aU}{x:AV}{n:Nat}(h:∀id,VP x=some id->H'[id]?=H[id]?): eB H' x n=eB H x n:=by
 cases x<;>try rfl
 rename_i id tot a off;simp only[eB,h id rfl]
theorem aBs{H H':aU}{s:Nat}{x:AV}{a b mx:Option Nat}(h:∀id,VP x=some id->H'[id]?=H[id]?): gP H' s x a b mx=gP H s x a b mx:=by
 cases x with
 | ms id tot off len=>simp only[gP,h id rfl]
 | lit v=>unfold gP;split<;>rename_i d<;>first | rfl | cases d
 | _=>rfl
theorem VD{H H':aU}{x:AV}(h:Ks x=true): gH H 0 x=gH H' 0 x:=by
 cases x with
 | fn v caps=>cases caps<;>rfl
 | _=>first | rfl | (simp[Ks] at h)
theorem aDj[aF]{H H':aU}{x:AV}(h:uB x=true): dZ H 0 x=dZ H' 0 x:=by
 cases x with
 | agg cs=>
  simp only[uB] at h;simp only[dZ];congr 1;exact ZS λy a=>VD<|FJ h y a
 | _=>exact VD (H:=H) (H':=H')<|by simpa [uB] using h
theorem Ej[aF]{tm:List AV}{H H':aU}{l:Ju}{v:AV}{H1:aU}{r:Option Nat}(b:dN l tm=some r)(d:∀id,r=some id->H'[id]?=H[id]?)(a:aO P cf fl l tm H=some (v,H1)): aO P cf fl l tm H'=some (v,H'):=by
 cases l with
 | load agg n x=>
  simp only[dN,Za] at b;simp only[aO,T6 (H:=H) (H':=H') (x:=aH tm x) λid h=>d id<|by rw[<-b];exact h] at a |-;split at a
  .split at a
   .cases a;simp_all
   .split at a
    .cases a;simp_all
    .cases a
  .cases a
 | idxAddr s x i=>
  simp only[dN,Za] at b;simp only[aO] at a |-;split at a
  .split at a
   .split at a
    .split at a
     .cases a;simp_all
     .cases a
    .cases a
   .split at a
    .split at a
     .cases a;simp_all
     .cases a
    .cases a
   .rename_i id tot off len j;rw[d id<|by rw[<-b,j];rfl];split at a
    .split at a
     .cases a;simp_all
     .cases a
    .cases a
   .cases a
  .cases a
 | slice s x K G mx=>
  simp only[dN,Za] at b;simp only[aO,aBs (H:=H) (H':=H') (x:=aH tm x) λid h=>d id<|by rw[<-b];exact h] at a |-;split at a
  .split at a
   .cases a;simp_all
   .cases a
  .cases a
 | lookup kt z m k ok=>
  simp only[dN,Za] at b;simp only[aO] at a |-;split at a
  .rename_i J E;split at a
   .rename_i w;split at a
    .split at a<;>cases a;simp_all
    .cases a;simp_all
    .cases a
   .rename_i id w;rw[d id<|by rw[<-b,w];rfl];split at a
    .rename_i C D;split at a
     .split at a<;>cases a;simp_all
     .cases a;simp_all
     .cases a
    .cases a
   .rename_i w;split at a
    .split at a<;>cases a;simp_all
    .cases a;simp_all
    .cases a
   .cases a
  .cases a
 | lenM x=>
  simp only[dN,Za] at b;simp only[aO] at a |-;split at a
  .cases a;simp_all
  .rename_i id j;rw[d id<|by rw[<-b,j];rfl];split at a
   .cases a;simp_all
   .cases a
  .cases a;simp_all
  .cases a
 | call pu vi c=>
  cases pu with
  | false=>simp[dN] at b
  | true=>
   simp only[dN] at b;split at b
   .rename_i f;simp only[aO,Ff,f] at a |-;split at a<;>cases a;simp_all
   .cases b
 | callB vi c=>
  simp only[dN] at b;split at b
  .rename_i x;have e:cG H' (aH tm x)=cG H (aH tm x):=by
    split at b<;>first | (rename_i h;rw[h];rfl) | cases b
   simp only[aO,ZE,Yn,e] at a |-;split at a<;>cases a;simp_all
  .cases b
 | callS vi c=>
  simp only[dN] at b;split at b
  .rename_i f;have e:(c.map<|aH tm).map (dZ H' 0)=(c.map<|aH tm).map (dZ H 0):=ZS λy F=>aDj<|Kr f y F;simp only[aO,e] at a |-;split at a
   .rename_i r I he;split at a
    .rename_i d;cases a;simp[he,d]
    .cases a
   .cases a
  .cases b
 | callv pu x c=>
  cases pu with
  | false=>simp[dN] at b
  | true=>
   simp only[dN] at b;split at b
   .rename_i vi caps j;split at b
    .rename_i f;simp only[aO,j,Ff,f] at a |-;split at a<;>cases a;simp_all
    .cases b
   .cases b
 | _=>simp[dN] at b
theorem H9{s:Nat}{H H':aU}{r:AV}{q:Option<|AV×aU}(h:EC s H q=some (r,H')): ∃o,H'=H++[o]:=by
 unfold EC at h;repeat' split at h
 all_goals first
  | (cases h;done)
  | (cases h;exact⟨_,rfl⟩)
theorem aGb{a b:Nat}(h:Nat.blt a b=true): a<b:=Zj h
theorem uV[aF]{H:aU}{L:List dK}{id:Nat}(h:Nat.blt id H.length=true): (H++L)[id]?=H[id]?:=Zo<|aGb h
theorem MF{H:aU}{o:dK}{i id:Nat}(h:(!Nat.beq i id)=true): (H.set i o)[id]?=H[id]?:=by
 have:i≠id:=by
  intro e;subst e;simp at h
 rw[Zv this]
theorem V5[aF]{H H':aU}{s bytes id:Nat}{x r:AV}{ys:List<|List AV}(b:(match x with | .ms i _ _ _=>!Nat.beq i id | _=>Nat.blt id H.length)=true)(a:cP fl H s bytes x ys=some (r,H')): H'[id]?=H[id]?:=by
 unfold cP at a;split at a
 .split at a
  .split at a<;>cases a
   .rfl
   .exact uV b
  .split at a
   .cases a;rfl
   .split at a<;>cases a;exact uV b
  .split at a
   .split at a
    .split at a
     .cases a;rfl
     .split at a
      .split at a
       .cases a;exact MF b
       .split at a
        .cases a;exact MF b
        .cases a
      .cases a
    .cases a
   .cases a
  .cases a
 .cases a
def Cy(cf:Nat->Nat->List AV->aU->Option (AV×aU)): Prop:=∀fl n vi args H r H',(fl<=n/\n<=H.length)->cf fl vi args H=some (r,H')->H'.take fl=H.take fl/\n<=H'.length
theorem aFL[aF](B:Cy cf){tm:List AV}{H H':aU}{A:Ju}{v:AV}{id:Nat}(e:qQ A tm H.length id=true)(a:aO P cf fl A tm H=some (v,H')): H'[id]?=H[id]?:=by
 cases A with
 | alloc z=>simp only[aO] at a;cases a;exact uV e
 | claim s=>simp only[aO] at a;cases a;exact uV e
 | allocC z M=>simp only[aO] at a;cases a;rw[Ye];exact uV e
 | box x=>
  simp only[aO] at a;split at a<;>cases a;exact uV e
 | boxC x M=>
  simp only[aO] at a;split at a
  .split at a<;>cases a;rw[Ye];exact uV e
  .cases a
 | buildSl pu s n z L=>
  simp only[aO] at a;split at a
  .split at a<;>cases a
   .rfl
   .exact uV e
  .cases a
 | mkSlice s z b l c=>
  simp only[aO] at a;split at a
  .split at a<;>cases a;exact uV e
  .cases a
 | mkMap=>simp only[aO] at a;cases a;exact uV e
 | callT s vi f=>
  simp only[aO] at a;obtain⟨o,rfl⟩:=H9 a;exact Zo<|aGb e
 | callF vi f=>
  simp only[aO] at a;let⟨F,G⟩:=B _ _ _ _ _ _ _ ⟨Zf _,Zf _⟩ a;have j:=aGb e;have:(H'.take H.length)[id]?=(H.take H.length)[id]?:=by rw[F]
  rw[Zs,Zs,Zu j,Zu j] at this;exact this
 | store n x u=>
  simp only[qQ] at e;simp only[aO] at a;split at a
  .split at a
   .split at a
    .rename_i N d;cases a;unfold yE at d;split at d
     .rename_i i tot J off K;rw[K] at e;split at d
      .split at d
       .split at d
        .split at d
         .split at d<;>cases d;exact MF e
         .cases d
        .cases d
       .cases d
      .cases d
     .cases d
    .cases a
   .cases a
  .cases a
 | append s b x y=>
  simp only[qQ] at e;simp only[aO] at a;split at a
  .exact V5 e a
  .cases a
 | mapUpd kt m k x=>
  simp only[qQ] at e;simp only[aO] at a;split at a
  .rename_i O i F G;rw[G] at e;split at a
   .split at a
    .split at a
     .split at a
      .split at a<;>cases a;exact MF e
      .cases a
     .cases a;exact MF e
     .cases a
    .cases a
   .cases a
  .cases a
 | _=>simp[qQ] at e
theorem Rh{x y:bS}{d:Nat}(h:EL x y=false)(a:x.dst=some d): d∉FO y/\y.dst≠some d:=by
 unfold EL at h;rw[a] at h;simp only[WU,X5,Ww] at h;refine⟨λb=>?_,h.2⟩;have:(FO y).contains d=true:=by simpa using b
 rw[this] at h;cases h.1
def Fr(fl n:Nat)(H H':aU): Prop:=H'.take fl=H.take fl/\n<=H'.length
theorem Fr.refl{n:Nat}{H:aU}(h:fl<=n/\n<=H.length): Fr fl n H H:=⟨rfl,h.2⟩
theorem Fr.go{n m:Nat}{H H':aU}(h:fl<=n/\n<=m)(k:Fr fl n H H'): fl<=n/\n<=H'.length:=⟨h.1,k.2⟩
theorem Fr.trans{n:Nat}{a b c:aU}(h:Fr fl n a b)(k:Fr fl n b c): Fr fl n a c:=⟨k.1.trans h.1,k.2⟩
theorem Fr.app{n:Nat}{H L:aU}(h:fl<=n/\n<=H.length): Fr fl n H<|H++L:=⟨Yg<|ZB h.1 h.2,by simp;omega⟩
theorem Fr.set{n:Nat}{H:aU}{i:Nat}{o:dK}(h:fl<=n/\n<=H.length)(a:fl<=i): Fr fl n H<|H.set i o:=⟨X6 a,by simpa using h.2⟩
theorem O6[aF]{m:Nat}{H H':aU}{s bytes:Nat}{x r:AV}{ys:List<|List AV}(h:fl<=m/\m<=H.length)(a:cP fl H s bytes x ys=some (r,H')): Fr fl m H H':=by
 unfold cP at a;split at a
 .split at a
  .split at a<;>cases a
   .exact .refl h
   .exact .app h
  .split at a
   .cases a;exact .refl h
   .split at a<;>cases a;exact .app h
  .split at a
   .split at a
    .split at a
     .cases a;exact .refl h
     .split at a
      .rename_i b;split at a
       .cases a;exact .set h b
       .split at a
        .cases a;exact .set h b
        .cases a
      .cases a
    .cases a
   .cases a
  .cases a
 .cases a
theorem aCn[aF](g:Cy cf){m:Nat}{tm:List AV}{H H':aU}{J:Ju}{v:AV}(h:fl<=m/\m<=H.length)(a:aO P cf fl J tm H=some (v,H')): Fr fl m H H':=by
 by_cases w:kN J=true
 .rw[K7 w a];exact .refl h
 .cases J with
  | alloc z=>simp only[aO] at a;cases a;exact .app h
  | claim s=>simp only[aO] at a;cases a;exact .app h
  | allocC z T=>simp only[aO] at a;cases a;rw[Ye];exact .app h
  | box x=>simp only[aO] at a;split at a<;>cases a;exact .app h
  | boxC x M=>
   simp only[aO] at a;split at a
   .split at a<;>cases a;rw[Ye];exact .app h
   .cases a
  | buildSl pu s n z U=>
   simp only[aO] at a;split at a
   .split at a<;>cases a
    .exact .refl h
    .exact .app h
   .cases a
  | mkSlice s z b l c=>
   simp only[aO] at a;split at a
   .split at a<;>cases a;exact .app h
   .cases a
  | mkMap=>simp only[aO] at a;cases a;exact .app h
  | rangeStr x=>simp only[aO] at a;split at a<;>cases a;exact .app h
  | nextStr x=>
   simp only[aO] at a;split at a
   .split at a
    .rename_i e;split at a
     .split at a<;>cases a
      .exact .set h e
      .exact .refl h
     .cases a
    .cases a
   .cases a
  | store n x u=>
   simp only[aO] at a;split at a
   .split at a
    .split at a
     .rename_i V d;cases a;unfold yE at d;split at d
      .split at d
       .rename_i e;split at d
        .split at d
         .split at d
          .split at d<;>cases d;exact .set h e
          .cases d
         .cases d
        .cases d
       .cases d
      .cases d
     .cases a
    .cases a
   .cases a
  | append s b x y=>
   simp only[aO] at a;split at a
   .exact O6 h a
   .cases a
  | appendZ s b z x n=>
   simp only[aO] at a;split at a
   .split at a
    .exact O6 h a
    .cases a
   .cases a
  | mapUpd kt m k x=>
   simp only[aO] at a;split at a
   .split at a
    .rename_i e;split at a
     .split at a
      .split at a
       .split at a<;>cases a;exact .set h e
       .cases a
      .cases a;exact .set h e
      .cases a
     .cases a
    .cases a
   .cases a
  | delete kt m k=>
   simp only[aO] at a;split at a
   .split at a
    .rename_i e;split at a
     .split at a
      .cases a;exact .set h e
      .cases a;exact .refl h
      .cases a
     .cases a
    .cases a
   .cases a
  | copy s x y=>
   simp only[aO] at a;split at a
   .split at a
    .split at a
     .split at a
      .split at a
       .rename_i e;split at a<;>cases a
        .exact .refl h
        .exact .set h e.2.2.2
       .cases a
      .cases a
     .cases a
    .cases a
   .cases a
  | clear s z x=>
   simp only[aO] at a;split at a
   .cases a;exact .refl h
   .cases a;exact .refl h
   .split at a
    .split at a
     .rename_i e;split at a<;>cases a
      .exact .refl h
      .exact .set h e.2.2.2.1
     .cases a
    .cases a
   .cases a
  | loadF n k x=>
   simp only[aO] at a;split at a
   .split at a
    .split at a
     .rename_i e;split at a
      .split at a<;>cases a;exact .set h e
      .cases a
     .cases a
    .cases a;exact .refl h
    .cases a
   .cases a
  | freeze x=>
   simp only[aO] at a;split at a
   .split at a
    .rename_i e;split at a
     .split at a<;>cases a;exact .set h e
     .cases a
    .cases a
   .split at a
    .rename_i e;split at a
     .split at a
      .split at a<;>cases a;exact .set h e
      .cases a
     .cases a
    .cases a
   .cases a;exact .refl h
  | call pu vi f=>
   cases pu with
   | true=>simp[kN] at w
   | false=>exact g _ _ _ _ _ _ _ h a
  | callv pu x f=>
   cases pu with
   | true=>simp[kN] at w
   | false=>
    simp only[aO] at a;split at a
    .exact g _ _ _ _ _ _ _ h a
    .cases a
  | callT s vi f=>
   simp only[aO] at a;obtain⟨o,rfl⟩:=H9 a;exact .app h
  | callF vi f=>
   simp only[aO] at a;let⟨Q,R⟩:=g _ _ _ _ _ _ _ ⟨Zf _,Zf _⟩ a;refine⟨?_,ZB h.2 R⟩;have:(H'.take H.length).take fl=(H.take H.length).take fl:=by rw[Q]
   rwa [Y9,Y9,Yq<|ZB h.1 h.2] at this
  | _=>simp[kN] at w
theorem aAJ[aF](b:Cy cf){m:Nat}{o:bS}{st st':St}(h:fl<=m/\m<=st.heap.length)(a:cS P cf fl o st=some st'): Fr fl m st.heap st'.heap:=by
 unfold cS at a;split at a
 .split at a
  .rename_i v H he;cases a;exact aCn b h he
  .cases a
 .cases a;exact .refl h
 .cases a
end
section
variable {D:Nat->Bool}{N:Nat}{P:Program}{Q:Exit->Act->World->Prop}{T:List cQ}{a:Array Bool}{an:List Nat}{aops:List bS}{c:dF}{cf:Nat->Nat->List AV->aU->Option (AV×aU)}{ck:List<|Nat×Nat}{fl i id k n:Nat}{ops:Array Oper}{st st':St}{tm:List AV}
section
theorem Lg[aF]: ∀{aops:List bS} {os:List Oper},Ch P T ops aops os=true->aops.length=os.length/\∀(k:Nat) (o:Oper),os[k]?=some o->∃ao,aops[k]?=some ao/\Ey P T ops ao o=true
 | [],[],_=>⟨rfl,λk o h=>by simp at h⟩
 | a::r,o::s,h=>by
  simp only[Ch,Zd] at h;let⟨b,c⟩:=Lg h.2;grind
 | [],_::_,h=>by cases h
 | _::_,[],h=>by cases h
theorem O3[aF]{ops:List Oper}: ∀{n:Nat},O4 ops n=true->∀k o,k<n->ops[k]?=some o->∀e∈o.after,Region.binds .any e=true->e.on<k
 | 0,_,k,_,h,_,_,_,_=>by omega
 | n+1,h,k,o,c,d,e,he,f=>by
  simp only[O4,Zd] at h;by_cases g:k=n
  .grind
  .exact O3 h.1 k o (by omega) d e he f
def unl(N:Nat)(listed:Array Bool): Nat:=((List.range N).filter λi=>!listed.getD i true).length
theorem aPJ(f:k<N)(h:a.getD k true=false)(d:a.size=N): unl N (a.setIfInBounds k true)<unl N a:=by
 unfold unl;have e:((List.range N).filter λi=>!(a.setIfInBounds k true).getD i true)=(((List.range N).filter λi=>!a.getD i true).filter λi=>decide<|i≠k):=by
  rw[List.filter_filter];apply List.filter_congr;intro i g;by_cases c:i=k
  .simp_all
  .rw[getD_set_ne true λe=>c e.symm];simp[c]
 rw[e];refine List.length_filter_lt_length_iff_exists.2 ⟨k,?_,by simp⟩;grind
theorem yJ(b:k<a.size): a.getD k true=a.getD k false:=by grind
def iJ(aops:List bS)(D:Nat->Bool): Nat->Nat
 | 0=>0
 | n+1=>if D n&&!cA aops n then n+1 else iJ aops D n
theorem vL[aF]{D':Nat->Bool}: ∀n,(∀j,j<n->cA aops j=false->D j=D' j)->iJ aops D n=iJ aops D' n
 | 0,_=>rfl
 | n+1,h=>by
  have b:=vL n λj a=>h j (by omega);simp only[iJ];grind
theorem pP[aF]: ∀n,k<=n->(∀j,k<=j->j<n->cA aops j=false->D j=false)->iJ aops D n=iJ aops D k
 | 0,h,_=>by have:k=0:=(by omega);rw[this]
 | n+1,h,b=>by
  by_cases e:k=n+1
  .rw[e]
  .have f:=pP n (by omega) λj c d=>b j c (by omega);simp only[iJ];grind
theorem aDL[aF]: ∀n,iJ aops D n<=n
 | 0=>Zf _
 | n+1=>by
  simp only[iJ];split
  .grind
  .exact Xl<|aDL n
theorem aDM[aF]{p:Nat}: ∀n,iJ aops D n=p+1->p<n/\D p=true/\cA aops p=false
 | 0,h=>by cases h
 | n+1,h=>by
  simp only[iJ] at h;split at h
  .grind
  .let⟨b,a⟩:=aDM n h;exact⟨by omega,a⟩
theorem aDN[aF]{m:Nat}: ∀n,m<n->D m=true->cA aops m=false->m+1<=iJ aops D n
 | 0,h,_,_=>by omega
 | n+1,h,c,b=>by
  simp only[iJ];split
  .omega
  .rename_i d;by_cases e:m=n
   .grind
   .exact aDN n (by omega) c b
theorem Ls(h:fQ aops k=true): ∃d z,aops[k]?=some ⟨some d,.alloc z,none⟩:=by
 unfold fQ at h;split at h
 .rename_i o f;split at h
  .rename_i c;split at h
   .rename_i g;split at h
    .rename_i b;let⟨a,e,guard⟩:=o;grind
    .cases h
   .cases h
  .cases h
 .cases h
def zAt(aops:List bS)(k:Nat): List Value:=match aops[k]? with
 | some ⟨_,.alloc z,_⟩=>z
 | _=>[]
def aQ3(aops:List bS)(S:Nat->St)(sw:Nat): aU:=(S sw).heap++[.blk (zAt aops sw).length [],.blk (zAt aops<|sw+1).length [(zAt aops<|sw+1).map .lit]]
def Kv(D:Nat->Bool)(sw:Nat): Bool:=D (sw+1)&&!D sw
def hpH(aops:List bS)(S:Nat->St)(sw N:Nat)(D:Nat->Bool): aU:=if Kv D sw=true then aQ3 aops S sw else (S<|iJ aops D N).heap
theorem aC2[aF]{a:Act}{d:Nat}{z:List Value}{o:Oper}{K:Act->World->Prop}(y:bY (aK T) c)(h:TR (aK T) c tm a.tmps)(R:ops[i]?=some o)(b:Ey P T ops ⟨some d,.alloc z,none⟩ o=true)(f:c.H[id]?=some (.blk z.length []))(n:fl<=id)(I:∀a' c',c'.H=c.H.set id (.blk z.length [z.map .lit])->bW fl c c'->bY (aK T) c'->TR (aK T) c' (iY tm (some d)<|.ptr id 1 0 0) a'.tmps->a'.defers=a.defers->K a' c'.w):
 wpOp P ops Q i K a c.w:=by
 simp only[Ey,Zd,ZC] at b;let⟨⟨J,O⟩,g⟩:=b;unfold wpOp;rw[R];simp only;have C:=EQ h O rfl;rw[C];left;simp only[cR] at g;split at g
 .rename_i t G;let⟨S,v,m,M,L,q⟩:=jA g;have k:(execOp a.eval o).run P c.w=.ok (.value<|.pointer<|some ⟨c.w.heap.size,0,none⟩) (c.w.alloc<|.cells z.toArray t (0,0)):=by
   have e:=L.symm;rw[e];simp[execOp,G,Instr.alloc,zeroValue,typeInfo,m,M,newVar,newRow]
  have p:=Ha (es':=[z.map AV.lit]) (w':=c.w.alloc<|.cells z.toArray t (0,0)) y n f (by simp) rfl rfl rfl rfl;have l:bY (aK T) ⟨c.w.alloc<|.cells z.toArray t (0,0),c.X,upd c.β id c.w.heap.size,c.H.set id<|.blk z.length [z.map AV.lit]⟩:=by
   refine KO y f (by simp) rfl rfl rfl rfl (by intro e he;simp at he;subst he;simp) (by simp) ?_;intro i j x F;obtain⟨rfl,s⟩:=aBa F;simp only[Zk,Zq] at s;obtain⟨u,A,rfl⟩:=s;exact⟨u,by simpa using A,q u<|Zg A,RV.lit _⟩
  refine (eM (v:=.ptr id 1 0 0) k p l ?_) _ _ ?_
  .refine .ptr id 1 0 0 _ z.length 1 ?_ (Zf _) λ_=>⟨c.w.heap.size,eA _ _ _,by simp⟩;rw[uT f];simp
  .intro cv c' N B D E;rw[<-J];exact I _ c' N B D ((h.step B).put E)<|jC _ _ _
 .grind
structure aUf[aF](P:Program)(T:List cQ)(fl N sw:Nat)(aops:List bS)(an:List Nat)(tm:List AV)(val:Nat->AV)(S:Nat->St)(c0:dF)(ds:List Deferred)(listed:Array Bool)(a:Act)(c:dF): Prop where
 size:listed.size=N
 sim:bY (aK T) c
 step:bW fl c0 c
 defers:a.defers=ds
 closed:∀i j,j<N->listed.getD j false=true->(an.getD j 0).testBit i=true->listed.getD i false=true
 tr:TR (aK T) c (kP aops tm val (λj=>listed.getD j false) N) a.tmps
 heap:c.H=hpH aops S sw N (λj=>listed.getD j false)
theorem B7[aF]: ∀(n i:Nat),yZ aops an n i=aops.length\/(fQ aops (yZ aops an n i)=true/\fQ aops (yZ aops an n i+1)=true)
 | 0,_=>.inl rfl
 | n+1,i=>by
  simp only[yZ];split
  .grind
  .exact B7 n<|i+1
theorem aCV[aF](a:aops.length=N): yZ aops an n i+1<N->fQ aops (yZ aops an n i)=true/\fQ aops (yZ aops an n i+1)=true:=by
 intro h;rcases B7 (aops:=aops) (an:=an) n i with e | e
 .omega
 .exact e
theorem aFb{a:Nat}{b:List<|Nat×Nat}(h:aBp a aops b an n=true): a+1<n->∀k,k<n->cA aops k=true->jS aops k=true\/(an.getD k 0).testBit a=true\/(k,a)∈b:=by
 intro e k d c;simp only[aBp] at h;grind
theorem aIX[aF](hcf:De P T cf)(hfn:pV P T){sw:Nat}{c0:dF}{ds:List Deferred}{val:Nat->AV}{S:Nat->St}(hchk:Ch P T ops aops ops.toList=true)(hord:LP sw aops (yO ops.toList ops.size []) ops.size=true)(hstab:aFa aops ck (yO ops.toList ops.size []) ops.size=true)(hback:O4 ops.toList ops.size=true)(h0:S 0=⟨tm,c0.H⟩)(hS:∀k ao,aops[k]?=some ao->cS P cf fl ao (S k)=some (S<|k+1))(hval:∀k ao,aops[k]?=some ao->(S<|k+1).tmps=iY (S k).tmps ao.dst (val k))(hck:∀k m,(k,m)∈ck->∀ao,aops[k]?=some ao->fC (S k).tmps ao.guard=some false\/dN ao.op (S k).tmps=some none\/∃id,dN ao.op (S k).tmps=some (some id)/\(S<|m+1).heap[id]?=(S m).heap[id]?)(hsw:sw+1<ops.size->fQ aops sw=true/\fQ aops (sw+1)=true)(hstab2:sw+1<ops.size->∀k,k<ops.size->cA aops k=true->jS aops k=true\/((yO ops.toList ops.size []).getD k 0).testBit sw=true\/(k,sw)∈ck)(hfo:Cy cf)(hfl:fl<=c0.H.length)(hQ:∀a' c',c'.H=(S ops.size).heap->bW fl c0 c'->bY (aK T) c'->TR (aK T) c' (S ops.size).tmps a'.tmps->a'.defers=ds->Q .normal a' c'.w):
 ∀(fuel:Nat) (listed:Array Bool) (a:Act) (c:dF),unl ops.size listed<=fuel->aUf P T fl ops.size sw aops (yO ops.toList ops.size []) tm val S c0 ds listed a c->wpAny P .any ops Q fuel listed a c.w:=by
 let⟨hlen,hget⟩:=Lg hchk
 have hlen':aops.length=ops.size:=by simpa using hlen
 have hquiet:∀k,k<ops.size->cA aops k=true->(S<|k+1).heap=(S k).heap:=by
  intro k hk hq
  have hao:aops[k]?=some (aops[k]'(by omega)):=by simp
  simp only[cA,hao] at hq
  exact MY hq<|hS k _ hao
 have hheapA:∀k,k<=ops.size->(S<|iJ aops (λ_=>true) k).heap=(S k).heap:=by
  intro k
  induction k with
  | zero=>intro _;rfl
  | succ k ih=>
   intro hk
   simp only[iJ,Wv]
   cases hq:cA aops k with
   | false=>rfl
   | true=>grind
 have hkeep:∀(id a b:Nat),a<=b->b<=ops.size->(∀m,a<=m->m<b->cA aops m=false->(S<|m+1).heap[id]?=(S m).heap[id]?)->(S b).heap[id]?=(S a).heap[id]?:=by
  intro id a b
  induction b with
  | zero=>grind
  | succ b ih=>
   intro h1 h2 h3
   by_cases e:a=b+1
   .rw[e]
   .have h4:(S<|b+1).heap[id]?=(S b).heap[id]?:=by
     cases hq:cA aops b with
     | true=>grind
     | false=>grind
    rw[h4]
    exact ih (by omega) (by omega) λm g1 g2=>h3 m g1<|by omega
 have h0t:(S 0).tmps=tm:=by rw[h0]
 have hlenS:∀k,k<=ops.size->fl<=(S k).heap.length:=by
  intro k
  induction k with
  | zero=>grind
  | succ k ih=>
   intro hk
   exact (aAJ hfo ⟨Zf _,ih<|by omega⟩<|hS k (aops[k]'(by omega))<|by simp).2
 have done:∀(listed:Array Bool) (a:Act) (c:dF),(∀j,j<ops.size->listed.getD j false=true)->aUf P T fl ops.size sw aops (yO ops.toList ops.size []) tm val S c0 ds listed a c->Q .normal a c.w:=by
  intro listed a c hall hI
  have hfold:kP aops tm val (λj=>listed.getD j false) ops.size=(S ops.size).tmps:=
   MN h0t hval (Zf _) (by omega) hall λj h1 h2=>by omega
  have hH:c.H=(S ops.size).heap:=by
   have hodd:Kv (λj=>listed.getD j false) sw=false:=by
    unfold Kv
    by_cases h:sw<ops.size
    .simp[hall sw h]
    .have:listed.getD (sw+1) false=false:=by
      rw[Yf,Yb<|by rw[hI.size];omega];rfl
     simp only[this,Bool.false_and]
   rw[hI.heap,hpH,ZF<|by rw[hodd];exact XF,vL (D':=λ_=>true) ops.size λj hj _=>hall j hj,hheapA _<|Zf _]
  refine hQ a c hH hI.step hI.sim ?_ hI.defers
  rw[<-hfold]
  exact hI.tr
 have noready:∀(listed:Array Bool),listed.size=ops.size->Region.ready .any ops listed=[]->∀j,j<ops.size->listed.getD j false=true:=by
  intro listed hsz hr j
  induction j using Nat.strongRecOn with
  | _ j ih=>
   intro hj
   cases hd:listed.getD j false with
   | true=>rfl
   | false=>
    exfalso
    have hmem:j∈Region.ready .any ops listed:=by
     rw[Vb]
     refine⟨by rw[yJ<|by omega];exact hd,ops[j],by simp,λe he hb=>?_⟩
     have hlt:=O3 hback j ops[j] hj (by simp) e he hb
     exact ih e.on hlt<|by omega
    rw[hr] at hmem
    cases hmem
 intro fuel
 induction fuel with
 | zero=>
  intro listed a c hu hI
  have hall:∀j,j<ops.size->listed.getD j false=true:=by
   intro j hj
   cases hd:listed.getD j false with
   | true=>rfl
   | false=>
    exfalso
    have:j∈(List.range ops.size).filter λi=>!listed.getD i true:=by
     simp only[List.mem_filter,Ws,YG]
     exact⟨hj,by rw[yJ<|by rw[hI.size];exact hj];exact hd⟩
    unfold unl at hu
    have h2:=YO<|Nat.le_zero.1 hu
    rw[h2] at this
    cases this
  refine⟨?_,done listed a c hall hI⟩
  cases hr:Region.ready .any ops listed with
  | nil=>rfl
  | cons i r=>
   exfalso
   have:i∈Region.ready .any ops listed:=by rw[hr];simp
   rw[Vb] at this
   let⟨h1,o,ho,_⟩:=this
   have hi:i<ops.size:=(Xa.1 ho).1
   rw[yJ<|by rw[hI.size];exact hi,hall i hi] at h1
   cases h1
 | succ fuel ih=>
  intro listed a c hu hI
  refine⟨λhr=>done listed a c (noready listed hI.size hr) hI,λk hk=>?_⟩
  rw[Vb] at hk
  let⟨hk1,o,ho,hedges⟩:=hk
  have hkN:k<ops.size:=(Xa.1 ho).1
  have hkD:listed.getD k false=false:=by rw[<-yJ<|by rw[hI.size];exact hkN];exact hk1
  let⟨ao,hao,hok⟩:=hget k o<|by simpa using ho
  have hol:ops.toList[k]?=some o:=by simpa using ho
  have hanc:∀i,((yO ops.toList ops.size []).getD k 0).testBit i=true->listed.getD i false=true:=by
   intro i hi
   have hi':((yO ops.toList ops.toList.length []).getD k 0).testBit i=true:=by simpa using hi
   let⟨o',ho',e,he,hb,hlt,hh⟩:=aEA (by simpa using hkN) hi'
   rw[hol] at ho'
   cases ho'
   have hde:=hedges e he hb
   rcases hh with rfl | hh
   .exact hde
   .exact hI.closed i e.on (by omega) hde<|by simpa using hh
  have later:∀j,k<j->j<ops.size->listed.getD j false=true->((cA aops k=true\/cA aops j=true)\/(k=sw/\j=sw+1/\fQ aops k=true/\fQ aops j=true))/\∃x y,aops[k]?=some x/\aops[j]?=some y/\EL x y=false/\EL y x=false:=by
   intro j hkj hj hD
   rcases gL _ hord k j hkj hj with h | h
   .have:=hI.closed k j hj hD h
    rw[hkD] at this;cases this
   .exact h
  have earlier:∀j,j<k->listed.getD j false=true\/(((cA aops j=true\/cA aops k=true)\/(j=sw/\k=sw+1/\fQ aops j=true/\fQ aops k=true))/\∃x y,aops[j]?=some x/\aops[k]?=some y/\EL x y=false/\EL y x=false):=by
   intro j hj
   rcases gL _ hord j k hj hkN with h | h
   .exact .inl<|hanc j h
   .exact .inr h
  have hdst:NV aops k=ao.dst:=by simp[NV,hao]
  have hlook:∀t∈FO ao,(kP aops tm val (λj=>listed.getD j false) ops.size)[t]?=(S k).tmps[t]?:=by
   intro t ht
   rw[<-MN (D:=λj=>decide<|j<k) (n:=ops.size) h0t hval (Nat.le_of_lt hkN) (by omega) (λj hj=>by simpa using hj) λj h1 _=>by simp;omega]
   apply Qi
   intro j hj hd
   by_cases hjk:j<k
   .have:decide (j<k)=true:=by simpa using hjk
    rw[this]
    rcases earlier j hjk with h | ⟨_,x,y,hx,hy,hc1,hc2⟩
    .exact h
    .exfalso
     rw[hao] at hy
     cases hy
     have hdx:x.dst=some t:=by simpa [NV,hx] using hd
     exact (Rh hc1 hdx).1 ht
   .have:decide (j<k)=false:=by simpa using hjk
    rw[this]
    by_cases ej:j=k
    .subst ej;exact hkD
    .cases hDj:listed.getD j false with
     | false=>rfl
     | true=>
      exfalso
      let⟨_,x,y,hx,hy,hc1,hc2⟩:=later j (by omega) hj hDj
      rw[hao] at hx
      cases hx
      have hdy:y.dst=some t:=by simpa [NV,hy] using hd
      exact (Rh hc2 hdy).1 ht
  have hset:∀j,(listed.setIfInBounds k true).getD j false=if j=k then true else listed.getD j false:=by
   intro j
   by_cases ej:j=k
   .subst ej
    simp[hI.size,hkN]
   .rw[getD_set_ne false λe=>ej e.symm,ZF ej]
  have ancLt:∀q m,q<ops.size->((yO ops.toList ops.size []).getD q 0).testBit m=true->m<q:=by
   intro q m
   induction q using Nat.strongRecOn with
   | _ q ihq=>
    intro hqN hqb
    have hqb':((yO ops.toList ops.toList.length []).getD q 0).testBit m=true:=by simpa using hqb
    let⟨o',ho',e,he,hb',hlt',hh⟩:=aEA (by simpa using hqN) hqb'
    rcases hh with rfl | hh
    .exact hlt'
    .have:=ihq e.on hlt' (by omega)<|by simpa using hh
     omega
  have fin:∀(x:AV) a' c',(S<|k+1).tmps=iY (S k).tmps ao.dst x->c'.H=hpH aops S sw ops.size (λj=>(listed.setIfInBounds k true).getD j false)->bW fl c c'->bY (aK T) c'->TR (aK T) c' (iY (kP aops tm val (λj=>listed.getD j false) ops.size) ao.dst x) a'.tmps->a'.defers=a.defers->wpAny P .any ops Q fuel (listed.setIfInBounds k true) a' c'.w:=by
   intro x a' c' hx1 e1 e2 e3 e4 e5
   refine ih (listed.setIfInBounds k true) a' c' (by have:=aPJ hkN hk1 hI.size;omega) ?_
   refine⟨by simpa using hI.size,e3,hI.step.trans e2,e5.trans hI.defers,?_,?_,e1⟩
   .intro i j hj hD hb
    rw[hset] at hD |-
    split
    .rfl
    .by_cases ej:j=k
     .subst ej;exact hanc i hb
     .rw[ZF ej] at hD
      exact hI.closed i j hj hD hb
   .refine⟨by rw[fO,<-e4.1,VI,fO],λt y hy=>?_⟩
    refine e4.2 t y ?_
    rw[<-hy,zL]
    split
    .rename_i hd
     have hdk:NV aops k=some t:=by rw[hdst];exact hd
     rw[fO]
     rw[K0 (k:=k) (by simp[hset]) hdk ops.size hkN]
     .split
      .rename_i hlt
       congr 1
       have h1:(S<|k+1).tmps[t]?=some x:=by rw[hx1,zL,Zu hd,Zu<|by rw[<-AD h0t hval k<|by omega,fO];exact hlt]
       have h2:(S<|k+1).tmps[t]?=some (val k):=by rw[hval k ao hao,zL,Zu hd,Zu<|by rw[<-AD h0t hval k<|by omega,fO];exact hlt]
       rw[h1] at h2
       exact ZR h2
      .rfl
     .intro j h1 h2 h3
      rw[hset,ZF<|by omega]
      cases hDj:listed.getD j false with
      | false=>rfl
      | true=>
       exfalso
       let⟨_,x',y',hx',hy',hc1,hc2⟩:=later j h1 h2 hDj
       rw[hao] at hx'
       cases hx'
       have hdy:y'.dst=some t:=by simpa [NV,hy'] using h3
       exact (Rh hc1 hd).2 hdy
    .rename_i hd
     apply Qi
     intro j hj hdj
     rw[hset]
     by_cases ej:j=k
     .subst ej
      rw[hdst] at hdj
      exact (hd hdj).elim
     .rw[ZF ej]
  have byOp:∀c1:dF,c1.w=c.w->bW fl c c1->bY (aK T) c1->(∃st',cS P cf fl ao ⟨(S k).tmps,c1.H⟩=some st'/\st'.tmps=(S<|k+1).tmps/\st'.heap=hpH aops S sw ops.size (λj=>(listed.setIfInBounds k true).getD j false))->wpOp P ops Q k (λa' w'=>wpAny P .any ops Q fuel (listed.setIfInBounds k true) a' w') a c.w:=by
   intro c1 hw hst hs1 ⟨stk',hevk',hstt,hsth⟩
   let⟨x,hx1,hx2⟩:=MZ (tm:=kP aops tm val (λj=>listed.getD j false) ops.size) hlook hevk'
   rw[hstt] at hx1
   rw[<-hw]
   refine lF hcf hfn hs1 (hI.tr.step hst) (ZB hfl (hI.step.trans hst).len) ho hok hx2 ?_
   intro a' c' e1 e2 e3 e4 e5 _
   exact fin x a' c' hx1 (e1.trans hsth) (hst.trans e2) e3 e4 e5
  have hmutA:∀m,fQ aops m=true->cA aops m=false:=by
   intro m hm
   let⟨d,z,hz⟩:=Ls hm
   simp[cA,hz,kN]
  have pairF:sw+1<ops.size->∃d1 z1 d2 z2,aops[sw]?=some ⟨some d1,.alloc z1,none⟩/\aops[sw+1]?=some ⟨some d2,.alloc z2,none⟩/\zAt aops sw=z1/\zAt aops (sw+1)=z2 /\
   S (sw+1)=⟨(S sw).tmps.set d1<|.ptr (S sw).heap.length 1 0 0,(S sw).heap++[.blk z1.length [z1.map .lit]]⟩ /\
   S (sw+2)=⟨(S<|sw+1).tmps.set d2<|.ptr ((S sw).heap.length+1) 1 0 0,(S sw).heap++[.blk z1.length [z1.map .lit],.blk z2.length [z2.map .lit]]⟩:=by
   intro h
   let⟨h1,h2⟩:=hsw h
   let⟨d1,z1,e1⟩:=Ls h1
   let⟨d2,z2,e2⟩:=Ls h2
   have t1:=hS sw _ e1
   have t2:=hS (sw+1) _ e2
   simp only[cS,fC,aO,iY,Za] at t1 t2
   refine⟨d1,z1,d2,z2,e1,e2,by simp[zAt,e1],by simp[zAt,e2],t1.symm,?_⟩
   rw[<-t2,<-t1]
   simp
  by_cases hodd:Kv (λj=>listed.getD j false) sw=true
  .have ho2:listed.getD (sw+1) false=true/\listed.getD sw false=false:=by
    simp only[Kv,Zd,YG] at hodd;exact hodd
   have hswN:sw+1<ops.size:=by
    rcases ZI (sw+1) ops.size with h | h
    .exact h
    .have:=ho2.1
     rw[Yf,Yb<|by rw[hI.size];exact h] at this
     cases this
   let⟨hal1,hal2⟩:=hsw hswN
   let⟨d1,z1,d2,z2,p1,p2,p3,p4,p5,p6⟩:=pairF hswN
   have hcH:c.H=(S sw).heap++[.blk z1.length [],.blk z2.length [z2.map .lit]]:=by
    rw[hI.heap,hpH,Zu hodd,aQ3,p3,p4]
   have hbehind:∀j,sw+1<j->j<ops.size->cA aops j=false->listed.getD j false=false:=by
    intro j h1 h2 h3
    cases hd:listed.getD j false with
    | false=>rfl
    | true=>
     rcases gL _ hord sw j (by omega) h2 with h | ⟨(h | h) | h,_⟩
     .have:=hI.closed sw j h2 hd h
      rw[ho2.2] at this;cases this
     .rw[hmutA sw hal1] at h;cases h
     .rw[h3] at h;cases h
     .omega
   by_cases hksw:k=sw
   .subst hksw
    rw[hao] at p1
    cases p1
    have hid:c.H[(S k).heap.length]?=some (.blk z1.length []):=by rw[hcH];simp
    refine aC2 (id:=(S k).heap.length) hI.sim hI.tr ho hok hid (hlenS k<|by omega) ?_
    intro a' c' e1 e2 e3 e4 e5
    refine fin (.ptr (S k).heap.length 1 0 0) a' c' (by rw[p5];rfl) ?_ e2 e3 e4 e5
    have hnod:Kv (λj=>(listed.setIfInBounds k true).getD j false) k=false:=by simp[Kv,hset]
    rw[e1,hpH,ZF<|by rw[hnod];exact XF,pP (k:=k+2) ops.size (by omega) λj h1 h2 h3=>by
     rw[hset,ZF<|by omega];exact hbehind j (by omega) h2 h3]
    have hl2:iJ aops (λj=>(listed.setIfInBounds k true).getD j false) (k+2)=k+2:=by
     have e:(listed.setIfInBounds k true).getD (k+1) false=true:=by rw[hset,ZF<|by omega];exact ho2.1
     show (if ((listed.setIfInBounds k true).getD (k+1) false&&!cA aops (k+1))=true then k+1+1 else _)=_
     rw[e,hmutA _ hal2]
     rfl
    rw[hl2,p6,hcH]
    simp
   .have hq:cA aops k=true:=by
     cases hq:cA aops k with
     | true=>rfl
     | false=>
      exfalso
      rcases ZI k sw with h | h
      .rcases gL _ hord k (sw+1) (by omega) hswN with g | ⟨(g | g) | g,_⟩
       .have:=hI.closed k (sw+1) hswN ho2.1 g
        rw[hkD] at this;cases this
       .rw[hq] at g;cases g
       .rw[hmutA _ hal2] at g;cases g
       .omega
      .by_cases h':k=sw+1
       .subst h';rw[hkD] at ho2;cases ho2.1
       .rcases gL _ hord sw k (by omega) hkN with g | ⟨(g | g) | g,_⟩
        .have:=hanc sw g
         rw[ho2.2] at this;cases this
        .rw[hmutA _ hal1] at g;cases g
        .rw[hq] at g;cases g
        .omega
    have hD':Kv (λj=>(listed.setIfInBounds k true).getD j false) sw=true:=by
     have q1:(listed.setIfInBounds k true).getD sw false=false:=by rw[hset,ZF λe=>hksw e.symm];exact ho2.2
     have q2:(listed.setIfInBounds k true).getD (sw+1) false=true:=by
      rw[hset]
      split
      .rfl
      .exact ho2.1
     simp only[Kv,q1,q2]
     rfl
    refine byOp c rfl (bW.refl _ _) hI.sim ?_
    have hpe:hpH aops S sw ops.size (λj=>(listed.setIfInBounds k true).getD j false)=c.H:=by
     rw[hpH,Zu hD',hI.heap,hpH,Zu hodd]
    rw[hpe]
    have hev:=hS k ao hao
    have hqo:kN ao.op=true:=by simpa [cA,hao] using hq
    have hwant:∀(hop:∀v H1,aO P cf fl ao.op (S k).tmps (S k).heap=some (v,H1)->aO P cf fl ao.op (S k).tmps c.H=some (v,c.H)),∃st',cS P cf fl ao ⟨(S k).tmps,c.H⟩=some st'/\st'.tmps=(S<|k+1).tmps/\st'.heap=c.H:=by
     intro hop
     unfold cS at hev |-
     simp only at hev |-
     split at hev
     .rename_i hw
      split at hev
      .rename_i v H1 he
       simp only[Za] at hev
       rw[hop v H1 he]
       exact⟨_,rfl,by rw[<-hev],rfl⟩
      .cases hev
     .rename_i hw
      simp only[Za] at hev
      exact⟨_,rfl,by rw[<-hev],rfl⟩
     .cases hev
    by_cases hn:jS aops k=true
    .have hno:yT ao.op=true:=by simpa [jS,hao] using hn
     exact hwant λv H1 he=>NA hno he
    by_cases hg:fC (S k).tmps ao.guard=some false
    .unfold cS at hev |-
     simp only[hg] at hev |-
     simp only[Za] at hev
     exact⟨_,rfl,by rw[<-hev],rfl⟩
    have hks:(k,sw)∈ck:=by
     rcases hstab2 hswN k hkN hq with h | h | h
     .exact (hn h).elim
     .have:=hanc sw h
      rw[ho2.2] at this;cases this
     .exact h
    have hmid:∀m,m<ops.size->cA aops m=false->((sw+2<=m/\m<k)\/(k<=m/\m<sw+2))->(k,m)∈ck:=by
     intro m hm hmq hb
     by_cases em:m=sw
     .subst em;exact hks
     have hmD:m<=sw+1->listed.getD m false=true:=by
      intro hle
      by_cases e:m=sw+1
      .subst e;exact ho2.1
      .rcases gL _ hord m (sw+1) (by omega) hswN with g | ⟨(g | g) | g,_⟩
       .exact hI.closed m (sw+1) hswN ho2.1 g
       .rw[hmq] at g;cases g
       .rw[hmutA _ hal2] at g;cases g
       .omega
     rcases VC hstab hkN hm hq hmq with h | h | h | h
     .exact (hn h).elim
     .have hlt:=ancLt k m hkN h
      have hml:=hanc m h
      rcases hb with⟨b1,b2⟩ | ⟨b1,b2⟩
      .rw[hbehind m (by omega) hm hmq] at hml;cases hml
      .omega
     .have hlt:=ancLt m k hm h
      rcases hb with⟨b1,b2⟩ | ⟨b1,b2⟩
      .omega
      .have:=hI.closed k m hm (hmD<|by omega) h
       rw[hkD] at this;cases this
     .exact h
    rcases hck k sw hks ao hao with h | h | ⟨id,h,hkp⟩
    .exact (hg h).elim
    .exact hwant λv H1 he=>Ej h (λid hid=>by cases hid) he
    .refine hwant λv H1 he=>Ej h (λid' hid=>?_) he
     cases hid
     have hidn:id≠(S sw).heap.length:=by
      intro e
      rw[p5] at hkp
      simp only[e] at hkp
      rw[ZX<|Zf _,Zy<|Zf _] at hkp
      simp at hkp
     have hbase:c.H[id]?=(S<|sw+2).heap[id]?:=by
      rw[hcH,p6]
      simp only
      rcases ZI id (S sw).heap.length with hl | hl
      .rw[Zo hl,Zo hl]
      .rw[ZX hl,ZX hl]
       let⟨q,hq'⟩:∃q,id-(S sw).heap.length=q+1:=⟨id-(S sw).heap.length-1,by omega⟩
       rw[hq']
       rfl
     have hsts:∀m,m<ops.size->cA aops m=false->((sw+2<=m/\m<k)\/(k<=m/\m<sw+2))->(S<|m+1).heap[id]?=(S m).heap[id]?:=by
      intro m h1 h2 h3
      rcases hck k m (hmid m h1 h2 h3) ao hao with g | g | ⟨id2,g,g2⟩
      .exact (hg g).elim
      .rw[h] at g;cases g
      .rw[h] at g;cases g;exact g2
     rw[hbase]
     rcases WB (sw+2) k with hle | hle
     .exact (hkeep id (sw+2) k hle (by omega) λm g1 g2 g3=>hsts m (by omega) g3<|.inl ⟨g1,g2⟩).symm
     .exact hkeep id k (sw+2) hle (by omega) λm g1 g2 g3=>hsts m (by omega) g3<|.inr ⟨g1,g2⟩
  .have hcH:c.H=(S<|iJ aops (λj=>listed.getD j false) ops.size).heap:=by rw[hI.heap,hpH,ZF hodd]
   by_cases hI1:k=sw+1/\listed.getD sw false=false
   .let⟨hk',hD1⟩:=hI1
    subst hk'
    let⟨hal1,hal2⟩:=hsw hkN
    let⟨d1,z1,d2,z2,p1,p2,p3,p4,p5,p6⟩:=pairF hkN
    have hL:iJ aops (λj=>listed.getD j false) ops.size=iJ aops (λ_=>true) sw:=by
     rw[pP (k:=sw) ops.size (by omega) (λj h1 h2 h3=>by
      by_cases e:j=sw
      .subst e;exact hD1
      .by_cases e':j=sw+1
       .subst e';exact hkD
       .cases hd:listed.getD j false with
        | false=>rfl
        | true=>
         rcases (later j (by omega) h2 hd).1 with (h | h) | h
         .rw[hmutA _ hal2] at h;cases h
         .rw[h3] at h;cases h
         .omega)]
     refine vL sw λj hj hjq=>?_
     rcases earlier j (by omega) with h | ⟨(h | h) | h,_⟩
     .exact h
     .rw[hjq] at h;cases h
     .rw[hmutA _ hal2] at h;cases h
     .omega
    have hH:c.H=(S sw).heap:=by rw[hcH,hL,hheapA sw<|by omega]
    rw[hao] at p2
    cases p2
    refine byOp ⟨c.w,c.X,c.β,c.H++[.blk z1.length []]⟩ rfl (Jz<|ZB hfl hI.step.len) (PR hI.sim) ?_
    refine⟨⟨(S<|sw+1).tmps.set d2<|.ptr (c.H++[dK.blk z1.length []]).length 1 0 0,(c.H++[.blk z1.length []])++[.blk z2.length [z2.map .lit]]⟩,rfl,?_,?_⟩
    .rw[p6,hH];simp
    .have hD':Kv (λj=>(listed.setIfInBounds (sw+1) true).getD j false) sw=true:=by
      have q1:(listed.setIfInBounds (sw+1) true).getD sw false=false:=by rw[hset,ZF<|by omega];exact hD1
      have q2:(listed.setIfInBounds (sw+1) true).getD (sw+1) false=true:=by rw[hset,Zu rfl]
      simp only[Kv,q1,q2]
      rfl
     rw[hpH,Zu hD',aQ3,p3,p4,hH]
     simp
   .have hnodd':Kv (λj=>(listed.setIfInBounds k true).getD j false) sw=false:=by
     cases h:Kv (λj=>(listed.setIfInBounds k true).getD j false) sw with
     | false=>rfl
     | true=>
      exfalso
      simp only[Kv,hset,Zd,YG] at h
      let⟨h1,h2⟩:=h
      split at h2
      .cases h2
      .rename_i hks
       split at h1
       .rename_i e;exact hI1 ⟨e.symm,h2⟩
       .exact hodd<|by simp[Kv,h1,h2]
    refine byOp c rfl (bW.refl _ _) hI.sim ?_
    rw[hpH,ZF<|by rw[hnodd'];exact XF]
    cases hq:cA aops k with
    | false=>
     have hlat:∀j,k<j->j<ops.size->cA aops j=false->listed.getD j false=false:=by
      intro j h1 h2 h3
      cases hd:listed.getD j false with
      | false=>rfl
      | true=>
       rcases (later j h1 h2 hd).1 with (h | h) | ⟨e1,e2,_⟩
       .rw[hq] at h;cases h
       .rw[h3] at h;cases h
       .exfalso
        subst e1 e2
        exact hodd<|by simp[Kv,hd,hkD]
     have hL:iJ aops (λj=>listed.getD j false) ops.size=iJ aops (λ_=>true) k:=by
      rw[pP (k:=k) ops.size (by omega) (λj h1 h2 h3=>by
       by_cases e:j=k
       .subst e;exact hkD
       .exact hlat j (by omega) h2 h3)]
      refine vL k λj hj hjq=>?_
      rcases earlier j hj with h | ⟨(h | h) | ⟨e1,e2,_⟩,_⟩
      .exact h
      .rw[hjq] at h;cases h
      .rw[hq] at h;cases h
      .cases hd:listed.getD j false with
       | true=>rfl
       | false=>exact (hI1 ⟨e2,by rw[<-e1];exact hd⟩).elim
     have hH:c.H=(S k).heap:=by rw[hcH,hL,hheapA k<|by omega]
     refine⟨S<|k+1,by rw[hH];exact hS k ao hao,rfl,?_⟩
     rw[pP (k:=k+1) ops.size (by omega) λj h1 h2 h3=>by
      rw[hset,ZF<|by omega]
      exact hlat j (by omega) h2 h3]
     simp only[iJ,hset,Zz,hq]
     rfl
    | true=>
     have hL:iJ aops (λj=>(listed.setIfInBounds k true).getD j false) ops.size=iJ aops (λj=>listed.getD j false) ops.size:=by
      refine vL ops.size λj hj hjq=>?_
      rw[hset,ZF<|by intro e;subst e;rw[hq] at hjq;cases hjq]
     rw[hL,<-hcH]
     have hqo:kN ao.op=true:=by simpa [cA,hao] using hq
     have hev:=hS k ao hao
     have hpl:=aDL (aops:=aops) (D:=λj=>listed.getD j false) ops.size
     generalize hp:iJ aops (λj=>listed.getD j false) ops.size=p at *
     have hbetween:∀m,m<ops.size->cA aops m=false->((p<=m/\m<k)\/(k<=m/\m<p))->jS aops k=true\/(k,m)∈ck:=by
      intro m hm hmq hb
      rcases VC hstab hkN hm hq hmq with h | h | h | h
      .exact .inl h
      .exfalso
       have hml:=hanc m h
       have:=aDN (aops:=aops) (D:=λj=>listed.getD j false) ops.size hm hml hmq
       rw[hp] at this
       have hlt:=ancLt k m hkN h
       omega
      .exfalso
       have hlt:=ancLt m k hm h
       rcases hb with⟨h1,h2⟩ | ⟨h1,h2⟩
       .omega
       .obtain⟨p',rfl⟩:∃p',p=p'+1:=⟨p-1,by omega⟩
        let⟨g1,g2,g3⟩:=aDM ops.size hp
        have hmD:listed.getD m false=true:=by
         by_cases e:m=p'
         .subst e;exact g2
         .rcases gL _ hord m p' (by omega) g1 with h' | ⟨(h' | h') | ⟨e1,e2,_⟩,_⟩
          .exact hI.closed m p' g1 g2 h'
          .rw[hmq] at h';cases h'
          .rw[g3] at h';cases h'
          .cases hd:listed.getD m false with
           | true=>rfl
           | false=>
            exfalso
            subst e1 e2
            exact hodd<|by simp[Kv,g2,hd]
        have:=hI.closed k m hm hmD h
        rw[hkD] at this
        cases this
      .exact .inr h
     have hsame:c.H=(S k).heap->∃st',cS P cf fl ao ⟨(S k).tmps,c.H⟩=some st'/\st'.tmps=(S<|k+1).tmps/\st'.heap=c.H:=by
      intro e
      refine⟨S<|k+1,by rw[e];exact hev,rfl,?_⟩
      rw[e]
      exact MY hqo hev
     have hwant:∀(hop:∀v H1,aO P cf fl ao.op (S k).tmps (S k).heap=some (v,H1)->aO P cf fl ao.op (S k).tmps c.H=some (v,c.H)),∃st',cS P cf fl ao ⟨(S k).tmps,c.H⟩=some st'/\st'.tmps=(S<|k+1).tmps/\st'.heap=c.H:=by
      intro hop
      unfold cS at hev |-
      simp only at hev |-
      split at hev
      .rename_i hw
       split at hev
       .rename_i v H1 he
        simp only[Za] at hev
        rw[hop v H1 he]
        exact⟨_,rfl,by rw[<-hev],rfl⟩
       .cases hev
      .rename_i hw
       simp only[Za] at hev
       exact⟨_,rfl,by rw[<-hev],rfl⟩
      .cases hev
     by_cases hn:jS aops k=true
     .have hno:yT ao.op=true:=by simpa [jS,hao] using hn
      exact hwant λv H1 he=>NA hno he
     .have hmid:∀m,m<ops.size->cA aops m=false->((p<=m/\m<k)\/(k<=m/\m<p))->(k,m)∈ck:=by
       intro m h1 h2 h3
       rcases hbetween m h1 h2 h3 with h | h
       .exact (hn h).elim
       .exact h
      by_cases hg:fC (S k).tmps ao.guard=some false
      .unfold cS at hev |-
       simp only[hg] at hev |-
       simp only[Za] at hev
       exact⟨_,rfl,by rw[<-hev],rfl⟩
      by_cases hex:∃m,m<ops.size/\cA aops m=false/\((p<=m/\m<k)\/(k<=m/\m<p))
      .let⟨m0,q1,q2,q3⟩:=hex
       rcases hck k m0 (hmid m0 q1 q2 q3) ao hao with h | h | ⟨id,h,_⟩
       .exact (hg h).elim
       .exact hwant λv H1 he=>Ej h (λid hid=>by cases hid) he
       .refine hwant λv H1 he=>Ej h (λid' hid=>?_) he
        cases hid
        have hsts:∀m,m<ops.size->cA aops m=false->((p<=m/\m<k)\/(k<=m/\m<p))->(S<|m+1).heap[id]?=(S m).heap[id]?:=by
         intro m h1 h2 h3
         rcases hck k m (hmid m h1 h2 h3) ao hao with g | g | ⟨id2,g,g2⟩
         .exact (hg g).elim
         .rw[h] at g;cases g
         .rw[h] at g;cases g;exact g2
        rw[hcH]
        rcases WB p k with hle | hle
        .exact (hkeep id p k hle (by omega) λm g1 g2 g3=>hsts m (by omega) g3<|.inl ⟨g1,g2⟩).symm
        .exact hkeep id k p hle hpl λm g1 g2 g3=>hsts m (by omega) g3<|.inr ⟨g1,g2⟩
      .refine hsame ?_
       rw[hcH]
       apply Ym
       intro id
       rcases WB p k with hle | hle
       .exact (hkeep id p k hle (by omega) λm g1 g2 g3=>(hex ⟨m,by omega,g3,.inl ⟨g1,g2⟩⟩).elim).symm
       .exact hkeep id k p hle hpl λm g1 g2 g3=>(hex ⟨m,by omega,g3,.inr ⟨g1,g2⟩⟩).elim
theorem PK[aF]: ∀(aops:List bS) (st:St) (l:List St),Gf P cf fl aops st=some l->
 ∃S:Nat->St,S 0=st/\l.getLast?=some (S aops.length)/\(∀k,k<=aops.length->l[k]?=some (S k))/\∀k ao,aops[k]?=some ao->cS P cf fl ao (S k)=some (S<|k+1)
 | [],st,l,h=>by
  simp only[Gf,Za] at h;subst h;exact⟨λ_=>st,rfl,rfl,λk a=>by have:=(by simpa using a);subst this;rfl,λk ao a=>by simp at a⟩
 | o::r,st,l,h=>by
  simp only[Gf] at h;split at h
  .rename_i b i;split at h
   .rename_i c d;let⟨S,e,e2,g,f⟩:=PK r b c d;refine⟨λk=>match k with | 0=>st | k+1=>S k,rfl,?_,?_,λk ao a=>?_⟩
    .grind
    .grind
    .grind
   .cases h
  .cases h
theorem aAX[aF]{ops:List bS}{l:List St}: ∀{c:List<|Nat×Nat},aAY ops l c=true->∀k m,(k,m)∈c->aE4 ops l k m=true
 | [],_,k,m,h=>by cases h
 | (a,b)::r,h,k,m,d=>by
  simp only[aAY] at h;split at h
  .rename_i f;rcases ZN.1 d with e | e
   .grind
   .exact aAX h k m e
  .cases h
theorem aIk[aF](hfo:Cy cf)(h:Mo P cf fl ck aops st=some st'):
 ∃S:Nat->St,S 0=st/\S aops.length=st'/\(∀k ao,aops[k]?=some ao->cS P cf fl ao (S k)=some (S<|k+1)) /\
  ∀k m,(k,m)∈ck->∀ao,aops[k]?=some ao->fC (S k).tmps ao.guard=some false\/dN ao.op (S k).tmps=some none\/∃id,dN ao.op (S k).tmps=some (some id)/\(S<|m+1).heap[id]?=(S m).heap[id]?:=by
 unfold Mo at h;split at h
 .let⟨S,e1,e2,e3⟩:=aCT aops st st' h;exact⟨S,e1,e2,e3,λk m hm=>by cases hm⟩
 .rename_i r;split at h
  .rename_i l hl;split at h
   .rename_i hck;let⟨S,e1,e2,e3,e4⟩:=PK aops st l hl;rw[e2] at h;cases h;refine⟨S,e1,rfl,e4,λk m hm ao hao=>?_⟩;have:=aAX hck k m hm;unfold aE4 at this
    have hk:=(Ze.1 hao).1
    simp only[hao,e3 k<|by omega] at this
    split at this
    .grind
    .split at this
     .grind
     .rename_i id hs
      refine .inr<|.inr ⟨id,hs,?_⟩
      split at this
      .rename_i om hom
       have hm':=(Ze.1 hom).1
       simp only[e3 m<|by omega] at this
       have hev:=e4 m om hom
       unfold cS at hev
       split at this
       .grind
       .rename_i hw
        split at hev
        .split at hev
         .rename_i he
          simp at hev
          rw[<-hev]
          exact aFL hfo this he
         .grind
        .grind
        .grind
      .grind
     .grind
   .cases h
  .cases h
theorem K6[aF]: ∀(aops:List bS) (st:St) (l:List St),Gf P cf fl aops st=some l->jM P cf fl aops st=l.getLast?
 | [],st,l,h=>by
  simp only[Gf,Za] at h;subst h;rfl
 | o::r,st,l,h=>by
  simp only[Gf] at h;split at h
  .rename_i a f;split at h
   .rename_i c d;cases h;have i:=K6 r a c d;have b:c≠[]:=by
     intro e;subst e;let⟨S,_,g,_⟩:=PK r a [] d;simp at g
    simp only[jM,f,i];rw[List.getLast?_cons_of_ne_nil b]
   .cases h
  .cases h
theorem AF[aF]{a:List<|Nat×Nat}(h:Mo P cf fl a aops st=some st'): jM P cf fl aops st=some st':=by
 unfold Mo at h;split at h
 .exact h
 .split at h
  .rename_i l b;split at h
   .rw[K6 aops st l b];exact h
   .cases h
  .cases h
theorem aB0[aF](V:P.follows .mixedOrders=true)(q:Cy cf)(r:De P T cf)(u:pV P T){B:List<|Nat×Nat}{b:Bool}{a:Act}(m:gE P T (.region b B aops) (.region id ops b)=true)(K:bY (aK T) c)(s:TR (aK T) c tm a.tmps)(t:fl<=c.H.length)(g:Mo P cf fl B aops ⟨tm,c.H⟩=some st')(D:∀a' c',c'.H=st'.heap->bW fl c c'->bY (aK T) c'->TR (aK T) c' st'.tmps a'.tmps->a'.defers=a.defers->Q .normal a' c'.w): (Code.region id ops b).wp P Q a c.w:=by
 simp only[gE,Zd] at m;let⟨⟨_,z⟩,G⟩:=m;let⟨p,_⟩:=Lg z;cases b with
 | false=>
  refine Xc ?_;have g:=AF g;have:=Dt r u aops ops.toList 0 c a tm st' z (λj o O=>by simpa using O) K s t g D;rw[List.range_eq_range'];grind
 | true=>
  simp at G;let⟨⟨W,E⟩,R⟩:=G;let⟨S,I,e2,L,y⟩:=aIk q g;have e:∃val:Nat->AV,∀k ao,aops[k]?=some ao->(S<|k+1).tmps=iY (S k).tmps ao.dst (val k):=by
   have:∀k,∃x,∀ao,aops[k]?=some ao->(S<|k+1).tmps=iY (S k).tmps ao.dst x:=by
    intro k;cases U:aops[k]? with
    | none=>simp_all
    | some ao=>
     let⟨x,M,_⟩:=MZ (λ_ _=>rfl)<|L k ao U;exact⟨x,λN h=>by cases h;exact M⟩
   exact⟨λk=>Classical.choose<|this k,λk=>Classical.choose_spec<|this k⟩
  let⟨val,e⟩:=e;have d:=by simpa using p
  refine wp_region_any V ?_;have J:Jt c.w { c.w with drawn:=c.w.drawn+1 }:=⟨rfl,rfl,rfl,rfl,Ys _⟩;have l:=Jy (fl:=fl) J;refine aIX (c0:=⟨{ c.w with drawn:=c.w.drawn+1 },c.X,c.β,c.H⟩) (ds:=a.defers) r u z W E.1 R I L e y (aCV d) (aFb E.2) q t ?_ ops.size (Array.replicate ops.size false) a ⟨{ c.w with drawn:=c.w.drawn+1 },c.X,c.β,c.H⟩ ?_ ?_
  .intro a' c' f1 f2 Y F Z;rw[<-d,e2] at f1 F;exact D a' c' f1 (l.trans f2) Y F Z
  .unfold unl;exact ZB (List.length_filter_le _ _)<|by simp
  .have v:∀j,(Array.replicate ops.size false).getD j false=false:=by
    intro j;simp only[Yf,XN];split<;>rfl
   refine⟨by simp,K.drawn J,bW.refl _ _,rfl,(λi j _ C _=>by rw[v] at C;cases C),?_,?_⟩;have A:kP aops tm val (λj=>(Array.replicate ops.size false).getD j false) ops.size=tm:=
    Qg ops.size (ZG _) λj _ _=>v j
   .rw[A];exact s.step l
   .have n:Kv (λj=>(Array.replicate ops.size false).getD j false) (yZ aops (yO ops.toList ops.size []) ops.size 0)=false:=by simp only[Kv,v,Bool.false_and]
    rw[hpH,ZF<|by rw[n];exact XF,pP ops.size (ZG _) λj _ _ _=>v j];simp only[iJ,I]
end
end
section
variable {FT:Nat->Option Nat}
theorem Kw[aF]{c:dF}: ∀(l:List Bool) (tm:List AV) (tv:Array Value),TR FT c tm tv->TR FT c (cV l tm) tv:=by
 intro l tm tv h;have f:∀(l:List Bool) (tm:List AV),(cV l tm).length=tm.length/\∀(t:Nat) (x:AV),(cV l tm)[t]?=some x->x=.undef\/tm[t]?=some x:=by
  intro l;induction l with
  | nil=>
   intro tm;cases tm with
   | nil=>exact⟨rfl,λt x a=>by simp[cV] at a⟩
   | cons v vs=>
    refine⟨by simp[cV],λt x a=>?_⟩;simp only[cV] at a;grind
  | cons b k i=>
   intro tm;cases tm with
   | nil=>exact⟨rfl,λt x a=>by simp[cV] at a⟩
   | cons v vs=>
    let⟨d,e⟩:=i vs;refine⟨by simp[cV,d],λt x a=>?_⟩;cases t with
    | zero=>
     simp only[cV] at a |-;grind
    | succ t=>
     exact e t x a
 let⟨d,e⟩:=f l tm;refine⟨d.trans h.1,λt x a=>?_⟩;rcases e t x a with rfl | g
 .have j:t<tv.size:=by rw[<-h.1,<-d];exact (Ze.1 a).1
  exact⟨tv[t],by simp,RV.undef _⟩
 .exact h.2 t x g
structure Sub(n:Nat)(c c':dF): Prop where
 w:c'.w=c.w
 X:c'.X=c.X
 lo:∀id,id<n->c'.β id=c.β id
 img:∀id b,c'.β id=some b->∃i,c.β i=some b
 shp:∀id,id<n->shp c'.H id=shp c.H id
 mp:∀id,id<n->Dx c.H id->Dx c'.H id
theorem Sub.imm{n:Nat}{c c':dF}(h:Sub n c c'){b:Nat}(e:nE c b): nE c' b:=by
 refine⟨by rw[h.X];exact e.1,λid a=>?_⟩;let⟨i,d⟩:=h.img id b a;exact e.2 i d
theorem Sub.vis{n:Nat}{c c':dF}(h:Sub n c c'){b:Nat}(e:Vis c b): Vis c' b:=by
 intro id a;let⟨i,d⟩:=h.img id b a;exact e i d
theorem Sub.rp[aF]{n:Nat}{c c':dF}(h:Sub n c c'){x:AV}{v:Value}(a:RP c.w (nE c) x v): RP c'.w (nE c') x v:=
 a.mono λb o e d=>⟨h.imm e,by rw[h.w];exact d⟩
theorem aAW[aF]{n:Nat}{c c':dF}(h:Sub n c c'){x:AV}{v:Value}(S:RV FT c x v): RV FT c' (nY n x) v:=by
 cases S with
 | pure _ _ X=>
  have H:=h.rp X;cases H with
  | undef v=>exact .pure _ _<|.undef v
  | lit v=>exact .pure _ _<|.lit v
  | nil f a cap W=>exact .pure _ _<|.nil f a cap W
  | sl f es b off cap cc T u s d p o r q y B J Y=>exact .pure _ _<|.sl f es b off cap cc T u s d p o r q y B J Y
  | sptr cs b off cc T u d p o r q=>exact .pure _ _<|.sptr cs b off cc T u d p o r q
  | rmp A b es F d p o r q y B=>exact .pure _ _<|.rmp A b es F d p o r q y B
 | ms id tot off len a cap s m l k t C=>
  simp only[nY];split
  .rename_i g;refine .ms id tot off len a cap s m ((h.shp id g).trans l) k t λe=>?_;let⟨m1,V⟩:=C e;refine⟨m1,?_⟩;rcases V with⟨I,E,G,K⟩ | ⟨b,cs,T,a',I,E,G,K,U⟩
   .exact .inl ⟨(h.lo id g).trans I,E,G,K⟩
   .exact .inr ⟨b,cs,T,a',(h.lo id g).trans I,by rw[h.w];exact E,G,K,U⟩
  .exact RV.undef _
 | ptr id tot D off a s m l k t=>
  simp only[nY];split
  .rename_i g;refine .ptr id tot D off a s m ((h.shp id g).trans l) k λe=>?_;let⟨b,R,ha⟩:=t e;exact⟨b,(h.lo id g).trans R,ha⟩
  .exact RV.undef _
 | rptr cs b off cc T u d l k t C=>exact .rptr cs b off cc T u d (h.vis l) (by rw[h.w];exact k) t λj x z=>h.rp<|C j x z
 | vnil a cap=>exact .vnil a cap
 | vw es b off cap cc T u s d p o r q y B J=>exact .vw es b off cap cc T u s d p (h.vis o) (by rw[h.w];exact r) q y B λi j x z=>h.rp<|J i j x z
 | mp id b l k=>
  simp only[nY];split
  .rename_i g;exact .mp id b (h.mp id g l)<|(h.lo id g).trans k
  .exact RV.undef _
 | it id b l k=>
  simp only[nY];split
  .rename_i g;exact .it id b (h.mp id g l)<|(h.lo id g).trans k
  .exact RV.undef _
 | fn vi f caps cv d l k t C=>
  cases caps with
  | nil=>exact .fn vi f [] cv d l k t λi x z=>by simp at z
  | cons _ _=>exact RV.undef _
 | agg=>exact RV.undef _
 | tup=>exact RV.undef _
theorem Ja[aF]{n:Nat}{c c':dF}(h:Sub n c c'){x:AV}{v:Value}(e:RV FT c x v): RV FT c' (kF n x) v:=by
 unfold kF;split
 .rename_i vi caps;cases e with
  | pure _ _ g=>cases g
  | fn _ f _ cv a l k o j=>
   refine .fn vi f _ cv a l (by simpa using k) ?_ ?_
   .grind
   .intro i x b;simp at b;obtain⟨y,m,rfl⟩:=b;exact aAW h<|j i y m
 .exact aAW h e
theorem AG[aF]{n:Nat}{c c':dF}(h:Sub n c c'){x:AV}{v:Value}(b:RV FT c x v): RV FT c' (Rg n x) v:=by
 unfold Rg;split
 .rename_i cs;obtain⟨cv,a,rfl,e,j,g⟩:=b.agg_inv;refine .agg _ cv a (by simpa using e) ?_ ?_
  .grind
  .intro i x d;simp at d;obtain⟨y,f,rfl⟩:=d;exact Ja h<|g i y f
 .exact Ja h b
theorem aAV[aF]{n:Nat}{c c':dF}(h:Sub n c c'){x:AV}{v:Value}(b:RV FT c x v): RV FT c' (Rf n x) v:=by
 unfold Rf;split
 .rename_i cs;obtain⟨cv,a,rfl,e,j,g⟩:=b.tup_inv;refine .tup _ cv a (by simpa using e) ?_ ?_
  .grind
  .intro i x d;simp at d;obtain⟨y,f,rfl⟩:=d;exact AG h<|g i y f
 .exact AG h b
def kU(fl n:Nat)(c:dF): dF:=
 ⟨c.w,c.X,λid=>if id<n then c.β id else none,c.H.take fl++((c.H.take n).drop fl).map (bU n)⟩
theorem Gz{fl n:Nat}{c:dF}(a:fl<=n)(b:n<=c.H.length)(id:Nat):
 (kU fl n c).H[id]?=if id<fl then c.H[id]? else if id<n then (c.H[id]?).map (bU n) else none:=by
 simp only[kU];grind
theorem qA{fl n:Nat}{c:dF}(a:fl<=n)(b:n<=c.H.length): (kU fl n c).H.length=n:=by
 simp only[kU,Zh,ZH,ZO,ZV];omega
theorem Gy[aF]{fl n:Nat}{c:dF}(f:fl<=n)(i:n<=c.H.length): Sub n c (kU fl n c) where
 w:=rfl;X:=rfl;lo:=λid a=>by simp[kU,a]
 img:=λid b l=>by
  simp only[kU] at l;grind
 shp:=λid a=>by
  have r:=Gz f i id;unfold shp;rw[r];by_cases h:id<fl
  .grind
  .rw[ZF h,Zu a];cases c.H[id]? with
   | none=>rfl
   | some o=>cases o<;>simp[bU]
 mp:=λid a j=>by
  let⟨d,he,g⟩:=j;simp only[Dx,Gz f i,he];split
  .grind
  .refine⟨bU n d,by simp,?_⟩;cases d with
   | blk=>exact g
   | mp=>trivial
   | raw=>trivial
theorem ET[aF]{fl:Nat}{c0 c:dF}(v:bY FT c0)(h:bW fl c0 c)(f:fl<=c0.H.length): bW fl c0<|kU fl c0.H.length c:=by
 have d:=Gy f h.len;have i:=Gz f h.len;have l:∀id r,shp c0.H id=some r->id<c0.H.length:=λid r u=>by
  rcases ZI id c0.H.length with p | p
  .grind
  .simp[shp,Zy p] at u
 refine⟨h.X,h.os,h.tape,h.output,h.drawn,h.size,by rw[qA f h.len];exact Zf _,h.frame,?_,?_,?_,?_⟩
 .intro id b m;simp only[kU] at m;split at m
  .exact h.img id b m
  .grind
 .intro id s n o;let⟨w,g,j,k⟩:=h.blkS id s n o;have a:=l id _ o;exact⟨w,(d.shp id a).trans g,j,λe=>⟨(d.lo id a).trans (k e).1,(k e).2⟩⟩
 .intro id q;have a:id<c0.H.length:=by
   let⟨t,he,_⟩:=q;grind
  let⟨g,j⟩:=h.mpS id q;exact⟨d.mp id a g,(d.lo id a).trans j⟩
 .intro id a;let⟨g,j,k⟩:=h.floor id a;exact⟨by rw[i,Zu a];exact g,(d.lo id<|by omega).trans j,k⟩
theorem aAj[aF]{fl:Nat}{c0 c:dF}(hs0:bY FT c0)(hs:bY FT c)(h:bW fl c0 c)(hfl:fl<=c0.H.length): bY FT<|kU fl c0.H.length c:=by
 have hsub:=Gy hfl h.len
 have hget:=Gz hfl h.len
 have hst:=ET hs0 h hfl
 have hβ:∀id b,(kU fl c0.H.length c).β id=some b->id<c0.H.length/\c.β id=some b:=by
  intro id b hb
  simp only[kU] at hb
  split at hb
  .grind
  .grind
 refine⟨hs0.gl.step hst,?_,?_,?_,hs.fresh,?_,?_,?_,?_⟩
 .intro i j b hi hj
  exact hs.inj i j b (hβ i b hi).2 (hβ j b hj).2
 .intro id b hb
  rw[qA hfl h.len];exact (hβ id b hb).1
 .intro id b hb
  exact hs.nx id b (hβ id b hb).2
 .intro id s es ho
  rw[hget] at ho
  split at ho
  .exact hs.lens id s es ho
  .split at ho
   .simp only[Zq] at ho
    let⟨o,ho1,ho2⟩:=ho
    cases o with
    | blk s' es'=>
     simp only[bU,dK.blk.injEq] at ho2
     let⟨rfl,rfl⟩:=ho2
     intro e he
     simp only[Yh] at he
     obtain⟨e0,h0,rfl⟩:=he
     simpa using hs.lens id s' es' ho1 e0 h0
    | mp ents=>simp[bU] at ho2
    | raw q=>simp[bU] at ho2
   .grind
 .intro id s es b ho hb
  let⟨hid,hb'⟩:=hβ id b hb
  rw[hget] at ho
  split at ho
  .rename_i hlo
   let⟨f1,f2,f3⟩:=h.floor id hlo
   rw[f1] at ho
   rw[f2] at hb'
   let⟨cs,T,g1,g2,g3⟩:=hs0.blk id s es b ho hb'
   exact⟨cs,T,(f3 b hb').trans g1,g2,λi j x hx=>let ⟨v,k1,k2,k3⟩:=g3 i j x hx;⟨v,k1,k2,k3.step hst⟩⟩
  .simp only[Zq] at ho
   let⟨o,ho1,ho2⟩:=ho
   cases o with
   | blk s' es'=>
    simp only[bU,dK.blk.injEq] at ho2
    let⟨rfl,rfl⟩:=ho2
    let⟨cs,T,g1,g2,g3⟩:=hs.blk id s' es' b ho1 hb'
    refine⟨cs,T,g1,by simpa using g2,λi j x hx=>?_⟩
    obtain⟨y,hy,rfl⟩:=jU hx
    let⟨v,k1,k2,k3⟩:=g3 i j y hy
    exact⟨v,k1,k2,Ja hsub k3⟩
   | mp ents=>simp[bU] at ho2
   | raw q=>simp[bU] at ho2
 .intro id ents b ho hb
  let⟨hid,hb'⟩:=hβ id b hb
  rw[hget] at ho
  split at ho
  .rename_i hlo
   let⟨f1,f2,f3⟩:=h.floor id hlo
   rw[f1] at ho
   rw[f2] at hb'
   let⟨es,clk,g1,g2,g3⟩:=hs0.map id ents b ho hb'
   exact⟨es,clk,(f3 b hb').trans g1,g2,λi k x hx=>let ⟨e,k1,k2,k3⟩:=g3 i k x hx;⟨e,k1,k2,k3.step hst⟩⟩
  .simp only[Zq] at ho
   let⟨o,ho1,ho2⟩:=ho
   cases o with
   | blk s' es'=>simp[bU] at ho2
   | mp ents'=>
    simp only[bU,dK.mp.injEq] at ho2
    subst ho2
    let⟨es,clk,g1,g2,g3⟩:=hs.map id ents' b ho1 hb'
    refine⟨es,clk,g1,by simpa using g2,λi k x hx=>?_⟩
    simp only[Zk,Zq] at hx
    let⟨⟨k0,y⟩,hy,he⟩:=hx
    obtain⟨rfl,rfl⟩:=he
    let⟨e,k1,k2,k3⟩:=g3 i k0 y hy
    exact⟨e,k1,k2,AG hsub k3⟩
   | raw q=>simp[bU] at ho2
 .intro id q b ho hb
  let⟨hid,hb'⟩:=hβ id b hb
  rw[hget] at ho
  split at ho
  .rename_i hlo
   let⟨f1,f2,f3⟩:=h.floor id hlo
   rw[f1] at ho
   rw[f2] at hb'
   exact (f3 b hb').trans<|hs0.raw id q b ho hb'
  .simp only[Zq] at ho
   let⟨o,ho1,ho2⟩:=ho
   cases o with
   | blk s' es'=>simp[bU] at ho2
   | mp ents'=>simp[bU] at ho2
   | raw q'=>
    simp only[bU,dK.raw.injEq] at ho2
    subst ho2
    exact hs.raw id q' b ho1 hb'
theorem Af[aF]{fl:Nat}{live:Option<|List Bool}{tr:Bool}{c0 c:dF}{tm:List AV}{tv:Array Value}(d:bY FT c0)(f:bY FT c)(h:bW fl c0 c)(a:fl<=c0.H.length)(e:TR FT c tm tv):
 ∃c',c'.w=c.w/\c'.H=(dP live tr fl c0.H.length ⟨tm,c.H⟩).heap/\bW fl c0 c'/\bY FT c'/\TR FT c' (dP live tr fl c0.H.length ⟨tm,c.H⟩).tmps tv:=by
 have b:TR FT c (aA9 live tm) tv:=by
  cases live with
  | none=>exact e
  | some l=>exact Kw l tm tv e
 cases tr with
 | false=>exact⟨c,rfl,by simp[dP],h,f,by simpa [dP] using b⟩
 | true=>
  refine⟨kU fl c0.H.length c,rfl,by simp[dP,kU],ET d h a,aAj d f h a,?_⟩;simp only[dP,Zz];refine⟨by simpa using b.1,λt x g=>?_⟩;simp at g;obtain⟨y,k,rfl⟩:=g;let⟨v,i,j⟩:=b.2 t y k;exact⟨v,i,aAV (Gy a h.len) j⟩
def FK(c:dF)(id s:Nat)(es:List<|List AV): dF:=
 ⟨c.w,c.X,λi=>if i=c.H.length then c.β id else if i=id then none else c.β i,c.H.set id (.blk s<|es++[List.replicate s .undef])++[.blk s es]⟩
theorem aBA{c:dF}{id s:Nat}{es:List<|List AV}(a:c.H[id]?=some (.blk s es))(i:Nat):
 (FK c id s es).H[i]?=if i=c.H.length then some (.blk s es) else if i=id then some (.blk s<|es++[List.replicate s .undef]) else c.H[i]?:=by
 simp only[FK];grind
theorem aD2[aF]{fl:Nat}{c:dF}{id s:Nat}{es:List<|List AV}(hfl:fl<=id)(hob:c.H[id]?=some (.blk s es)): bW fl c<|FK c id s es:=by
 have hlt:=(Ze.1 hob).1;have hg:=aBA hob;have hlo:∀i o,c.H[i]?=some o->i<c.H.length:=λi o h=>(Ze.1 h).1;refine⟨rfl,rfl,rfl,rfl,Zf _,Zf _,by simp[FK],λ_ _ _=>rfl,?_,?_,?_,?_⟩
 .intro i b hb;simp only[FK] at hb;grind
 .intro i s' n hs;have hi:i<c.H.length:=by
   rcases ZI i c.H.length with h' | h'
   .grind
   .simp[shp,Zy h'] at hs
  by_cases h2:i=id
  .subst h2;have e:=by simp[shp,hob] at hs;omega
   let⟨rfl,rfl⟩:=e;unfold shp
   grind
  .refine⟨n,?_,Zf _,λ_=>⟨?_,λb cs T _ hb=>⟨cs,hb,rfl⟩⟩⟩
   .unfold shp
    rw[hg,ZF<|by omega,ZF h2]
    exact hs
   .simp only[FK]
    rw[ZF<|by omega,ZF h2]
 .intro i hm
  let⟨o,ho,hnb⟩:=hm
  have hi:=hlo i o ho
  have h2:i≠id:=by
   intro e
   subst e
   rw[hob] at ho
   cases ho
   exact hnb
  refine⟨⟨o,by rw[hg,ZF<|by omega,ZF h2];exact ho,hnb⟩,?_⟩
  simp only[FK]
  rw[ZF<|by omega,ZF h2]
 .intro i hi
  refine⟨by rw[hg,ZF<|by omega,ZF<|by omega],?_,λ_ _=>rfl⟩
  simp only[FK]
  rw[ZF<|by omega,ZF<|by omega]
theorem aNo[aF]{c:dF}{id s:Nat}{es:List<|List AV}(hs:bY FT c)(hob:c.H[id]?=some (.blk s es)): bY FT<|FK c id s es:=by
 have hg:=aBA hob
 have hst:=aD2 (fl:=0) (ZG _) hob
 have hβ:∀i b,(FK c id s es).β i=some b->(i=c.H.length/\c.β id=some b)\/(i≠c.H.length/\i≠id/\c.β i=some b):=by
  intro i b hb
  simp only[FK] at hb
  grind
 refine⟨hs.gl.step hst,?_,?_,?_,hs.fresh,?_,?_,?_,?_⟩
 .intro i j b hi hj
  rcases hβ i b hi with⟨h1,h2⟩ | ⟨h1,h2,h3⟩<;>rcases hβ j b hj with⟨k1,k2⟩ | ⟨k1,k2,k3⟩
  .omega
  .exact (k2<|hs.inj _ _ b k3 h2).elim
  .exact (h2<|hs.inj _ _ b h3 k2).elim
  .exact hs.inj _ _ b h3 k3
 .intro i b hb
  simp only[FK,Zh,Yr,Yd]
  rcases hβ i b hb with⟨h1,h2⟩ | ⟨h1,h2,h3⟩
  .omega
  .have:=hs.dom i b h3;omega
 .intro i b hb
  rcases hβ i b hb with⟨h1,h2⟩ | ⟨h1,h2,h3⟩
  .exact hs.nx _ b h2
  .exact hs.nx _ b h3
 .intro i s' es' ho
  rw[hg] at ho
  split at ho
  .cases ho;exact hs.lens id s es hob
  .split at ho
   .cases ho
    intro e he
    rcases ZD.1 he with h | h
    .exact hs.lens id s es hob e h
    .grind
   .exact hs.lens i s' es' ho
 .intro i s' es' b ho hb
  rcases hβ i b hb with⟨h1,h2⟩ | ⟨h1,h2,h3⟩
  .rw[hg,Zu h1] at ho
   cases ho
   let⟨cs,T,g1,g2,g3⟩:=hs.blk id s es b hob h2
   exact⟨cs,T,g1,g2,λi j x hx=>let ⟨v,k1,k2,k3⟩:=g3 i j x hx;⟨v,k1,k2,k3.step hst⟩⟩
  .rw[hg,ZF h1,ZF h2] at ho
   let⟨cs,T,g1,g2,g3⟩:=hs.blk i s' es' b ho h3
   exact⟨cs,T,g1,g2,λi j x hx=>let ⟨v,k1,k2,k3⟩:=g3 i j x hx;⟨v,k1,k2,k3.step hst⟩⟩
 .intro i ents b ho hb
  rcases hβ i b hb with⟨h1,h2⟩ | ⟨h1,h2,h3⟩
  .grind
  .rw[hg,ZF h1,ZF h2] at ho
   let⟨es,clk,g1,g2,g3⟩:=hs.map i ents b ho h3
   exact⟨es,clk,g1,g2,λi k x hx=>let ⟨e,k1,k2,k3⟩:=g3 i k x hx;⟨e,k1,k2,k3.step hst⟩⟩
 .intro i q b ho hb
  rcases hβ i b hb with⟨h1,h2⟩ | ⟨h1,h2,h3⟩
  .grind
  .rw[hg,ZF h1,ZF h2] at ho
   exact hs.raw i q b ho h3
theorem aHg{c c':dF}{id m s tot off len:Nat}{es es':List<|List AV}(d:c.H[id]?=some (.blk s es))(b:c'.H[m]?=some (.blk s es'))(r:es'.length=es.length)(o:c'.w=c.w)(q:c'.β m=c.β id){v:Value}(l:RV FT c (.ms id tot off len) v): RV FT c' (.ms m tot off len) v:=by
 cases l with
 | pure _ _ h=>cases h
 | ms _ _ _ _ a cap s' n g u k i=>
  have e:s'=s/\n=es.length:=by simp[shp,d] at g;omega
  let⟨rfl,rfl⟩:=e;refine .ms m tot off len a cap s' es'.length (by simp[shp,b]) (by omega) k λe=>?_;let⟨j,t⟩:=i (by omega);refine⟨j,?_⟩;grind
theorem aIn[aF]{fl t:Nat}{c:dF}{tm:List AV}{tv:Array Value}{d:St}(p:bY FT c)(b:TR FT c tm tv)(h:aGR fl t ⟨tm,c.H⟩=some d):
 ∃c',c'.w=c.w/\c'.H=d.heap/\bW fl c c'/\bY FT c'/\TR FT c' d.tmps tv:=by
 unfold aGR at h;split at h
 .rename_i id tot off len n;split at h
  .rename_i l;split at h
   .rename_i s es a;split at h
    .rename_i o;cases h;have i:=aD2 l a;refine⟨FK c id s es,rfl,rfl,i,aNo p a,?_⟩;refine⟨by simpa using b.1,λu y g=>?_⟩;rw[Z5] at g;split at g
     .rename_i m;subst m;split at g
      .rename_i f;cases g;let⟨cv,k,j⟩:=b.2 t tm[t]<|Zb f;have e:=by
        simp only[aH,Zb f] at n;exact n
       rw[e] at j;refine⟨cv,k,aHg (c':=FK c id s es) a (by rw[aBA a,Zu rfl]) rfl rfl (by simp[FK]) j⟩
      .grind
     .let⟨cv,k,j⟩:=b.2 u y g;exact⟨cv,k,j.step i⟩
    .cases h
   .cases h
  .cases h
 .cases h
def tD(fl n id s:Nat)(es:List<|List AV)(c:dF): dF:=
 ⟨c.w,c.X,λi=>if i<n then c.β i else if i=n then c.β id else none,(kU fl n c).H++[bU n<|.blk s es]⟩
theorem Pr[aF]{fl n id s:Nat}{es:List<|List AV}{c:dF}(a:fl<=n)(b:n<=c.H.length)(i:Nat):
 (tD fl n id s es c).H[i]?=if i<n then (kU fl n c).H[i]? else if i=n then some (bU n<|.blk s es) else none:=by
 simp only[tD];rw[Yk];rw[qA a b];grind
theorem G5[aF]{fl n id s:Nat}{es:List<|List AV}{c:dF}(a:fl<=n)(e:n<=c.H.length): Sub n c (tD fl n id s es c) where
 w:=rfl;X:=rfl;lo:=λi d=>by simp[tD,d]
 img:=λi b h=>by
  simp only[tD] at h;grind
 shp:=λi d=>by
  have:=(Gy a e).shp i d;unfold shp at this |-;rw[Pr a e,Zu d];exact this
 mp:=λi d f=>by
  have:=(Gy a e).mp i d f;unfold Dx at this |-;rw[Pr a e,Zu d];exact this
theorem aA8[aF]{fl id s:Nat}{es:List<|List AV}{c0 c:dF}(p:bY FT c0)(h:bW fl c0 c)(f:fl<=c0.H.length): bW fl c0<|tD fl c0.H.length id s es c:=by
 have a:=G5 (id:=id) (s:=s) (es:=es) f h.len;have w:=ET p h f;have g:=Pr (id:=id) (s:=s) (es:=es) f h.len;have k:(tD fl c0.H.length id s es c).H.length=c0.H.length+1:=by
  simp only[tD,Zh,qA f h.len,Yd]
 refine⟨h.X,h.os,h.tape,h.output,h.drawn,h.size,by rw[k];omega,h.frame,?_,?_,?_,?_⟩
 .intro i b j;simp only[tD] at j;split at j
  .exact h.img i b j
  .split at j
   .exact h.img id b j
   .grind
 .intro i s' n u;have d:i<c0.H.length:=by
   rcases ZI i c0.H.length with q | q
   .grind
   .simp[shp,Zy q] at u
  let⟨x,l,o,m⟩:=h.blkS i s' n u;exact⟨x,(a.shp i d).trans l,o,λe=>⟨(a.lo i d).trans (m e).1,(m e).2⟩⟩
 .intro i v;have d:i<c0.H.length:=by
   let⟨t,he,_⟩:=v;exact (Ze.1 he).1
  let⟨l,o⟩:=h.mpS i v;exact⟨a.mp i d l,(a.lo i d).trans o⟩
 .intro i r;let⟨l,o,m⟩:=w.floor i r;exact⟨by rw[g,Zu<|by omega];exact l,(a.lo i<|by omega).trans (h.floor i r).2.1,m⟩
theorem aKA[aF]{fl id s:Nat}{es:List<|List AV}{c0 c:dF}(hs0:bY FT c0)(hs:bY FT c)(h:bW fl c0 c)(hfl:fl<=c0.H.length)(hid:c0.H.length<=id)(hob:c.H[id]?=some (.blk s es)): bY FT<|tD fl c0.H.length id s es c:=by
 have hsub:=G5 (id:=id) (s:=s) (es:=es) hfl h.len
 have hst:=aA8 (id:=id) (s:=s) (es:=es) hs0 h hfl
 have ht:=aAj hs0 hs h hfl
 have hget:=Pr (id:=id) (s:=s) (es:=es) hfl h.len
 have htg:=Gz hfl h.len
 have hlen:(tD fl c0.H.length id s es c).H.length=c0.H.length+1:=by
  simp only[tD,Zh,qA hfl h.len,Yd]
 have hβ:∀i b,(tD fl c0.H.length id s es c).β i=some b->(i<c0.H.length/\c.β i=some b)\/(i=c0.H.length/\c.β id=some b):=by
  intro i b hb
  simp only[tD] at hb
  split at hb
  .grind
  .grind
 refine⟨hs0.gl.step hst,?_,?_,?_,hs.fresh,?_,?_,?_,?_⟩
 .intro i j b hi hj
  rcases hβ i b hi with⟨h1,h2⟩ | ⟨h1,h2⟩<;>rcases hβ j b hj with⟨k1,k2⟩ | ⟨k1,k2⟩
  .exact hs.inj _ _ b h2 k2
  .have:=hs.inj _ _ b h2 k2;omega
  .have:=hs.inj _ _ b h2 k2;omega
  .omega
 .grind
 .intro i b hb
  rcases hβ i b hb with⟨h1,h2⟩ | ⟨h1,h2⟩
  .exact hs.nx _ b h2
  .exact hs.nx _ b h2
 .intro i s' es' ho
  rw[hget] at ho
  split at ho
  .exact ht.lens i s' es' ho
  .split at ho
   .simp only[bU,Za,dK.blk.injEq] at ho
    let⟨rfl,rfl⟩:=ho
    intro e he
    simp only[Yh] at he
    obtain⟨e0,h0,rfl⟩:=he
    simpa using hs.lens id s es hob e0 h0
   .grind
 .intro i s' es' b ho hb
  rcases hβ i b hb with⟨hi,hb'⟩ | ⟨hi,hb'⟩
  .rw[hget,Zu hi,htg] at ho
   split at ho
   .rename_i hlo
    let⟨f1,f2,f3⟩:=h.floor i hlo
    rw[f1] at ho
    rw[f2] at hb'
    let⟨cs,T,g1,g2,g3⟩:=hs0.blk i s' es' b ho hb'
    exact⟨cs,T,(f3 b hb').trans g1,g2,λi j x hx=>let ⟨v,k1,k2,k3⟩:=g3 i j x hx;⟨v,k1,k2,k3.step hst⟩⟩
   .try rw[Zu hi] at ho
    simp only[Zq] at ho
    let⟨o,ho1,ho2⟩:=ho
    cases o with
    | blk s2 es2=>
     simp only[bU,dK.blk.injEq] at ho2
     let⟨rfl,rfl⟩:=ho2
     let⟨cs,T,g1,g2,g3⟩:=hs.blk i s2 es2 b ho1 hb'
     refine⟨cs,T,g1,by simpa using g2,λi j x hx=>?_⟩
     obtain⟨y,hy,rfl⟩:=jU hx
     let⟨v,k1,k2,k3⟩:=g3 i j y hy
     exact⟨v,k1,k2,Ja hsub k3⟩
    | mp ents=>simp[bU] at ho2
    | raw q=>simp[bU] at ho2
  .rw[hget,ZF<|by omega,Zu hi] at ho
   simp only[bU,Za,dK.blk.injEq] at ho
   let⟨rfl,rfl⟩:=ho
   let⟨cs,T,g1,g2,g3⟩:=hs.blk id s es b hob hb'
   refine⟨cs,T,g1,by simpa using g2,λi j x hx=>?_⟩
   obtain⟨y,hy,rfl⟩:=jU hx
   let⟨v,k1,k2,k3⟩:=g3 i j y hy
   exact⟨v,k1,k2,Ja hsub k3⟩
 .intro i ents b ho hb
  rcases hβ i b hb with⟨hi,hb'⟩ | ⟨hi,hb'⟩
  .rw[hget,Zu hi,htg] at ho
   split at ho
   .rename_i hlo
    let⟨f1,f2,f3⟩:=h.floor i hlo
    rw[f1] at ho
    rw[f2] at hb'
    let⟨es,clk,g1,g2,g3⟩:=hs0.map i ents b ho hb'
    exact⟨es,clk,(f3 b hb').trans g1,g2,λi k x hx=>let ⟨e,k1,k2,k3⟩:=g3 i k x hx;⟨e,k1,k2,k3.step hst⟩⟩
   .try rw[Zu hi] at ho
    simp only[Zq] at ho
    let⟨o,ho1,ho2⟩:=ho
    cases o with
    | blk s' es'=>simp[bU] at ho2
    | mp ents'=>
     simp only[bU,dK.mp.injEq] at ho2
     subst ho2
     let⟨es,clk,g1,g2,g3⟩:=hs.map i ents' b ho1 hb'
     refine⟨es,clk,g1,by simpa using g2,λi k x hx=>?_⟩
     simp only[Zk,Zq] at hx
     let⟨⟨k0,y⟩,hy,he⟩:=hx
     simp only[Zi] at he
     let⟨rfl,rfl⟩:=he
     let⟨e,k1,k2,k3⟩:=g3 i k0 y hy
     exact⟨e,k1,k2,AG hsub k3⟩
    | raw q=>simp[bU] at ho2
  .rw[hget,ZF<|by omega,Zu hi] at ho
   simp[bU] at ho
 .intro i q b ho hb
  rcases hβ i b hb with⟨hi,hb'⟩ | ⟨hi,hb'⟩
  .rw[hget,Zu hi,htg] at ho
   split at ho
   .rename_i hlo
    let⟨f1,f2,f3⟩:=h.floor i hlo
    rw[f1] at ho
    rw[f2] at hb'
    exact (f3 b hb').trans<|hs0.raw i q b ho hb'
   .try rw[Zu hi] at ho
    simp only[Zq] at ho
    let⟨o,ho1,ho2⟩:=ho
    cases o with
    | blk s' es'=>simp[bU] at ho2
    | mp ents'=>simp[bU] at ho2
    | raw q'=>
     simp only[bU,dK.raw.injEq] at ho2
     subst ho2
     exact hs.raw i q' b ho1 hb'
  .rw[hget,ZF<|by omega,Zu hi] at ho
   simp[bU] at ho
theorem Pv[aF]{fl t:Nat}{live:List Bool}{c0 c:dF}{tm:List AV}{tv:Array Value}(g:bY FT c0)(r:bY FT c)(h:bW fl c0 c)(a:fl<=c0.H.length)(b:TR FT c tm tv):
 ∃c',c'.w=c.w/\c'.H=(MA live t fl c0.H.length ⟨tm,c.H⟩).heap/\bW fl c0 c'/\bY FT c'/\TR FT c' (MA live t fl c0.H.length ⟨tm,c.H⟩).tmps tv:=by
 have p:=Af (live:=some live) (tr:=true) g r h a b;unfold MA;split
 .rename_i id tot off len q;split
  .rename_i n;split
   .rename_i s es j;have f:=Kw live tm tv b;have k:=G5 (id:=id) (s:=s) (es:=es) a h.len;refine⟨tD fl c0.H.length id s es c,rfl,by simp[tD,kU],aA8 g h a,aKA g r h a n j,?_⟩;refine⟨by simpa using f.1,λu y i=>?_⟩;rw[Z5] at i;split at i
    .rename_i m;subst m;split at i
     .rename_i A;cases i;have d:t<tm.length:=by
       have B:=f.1;have e2:=b.1;grind
      let⟨cv,o,l⟩:=b.2 t tm[t]<|Zb d;have e:=by
       simp only[aH,Zb d] at q;exact q
      rw[e] at l;refine⟨cv,o,aHg (c':=tD fl c0.H.length id s es c) (es':=es.map λe=>e.map<|kF c0.H.length) j ?_ (by simp) rfl (by simp[tD]) l⟩;rw[Pr a h.len,ZF<|by omega,Zu rfl];rfl
     .grind
    .simp at i;obtain⟨z,x,rfl⟩:=i;let⟨v,o,l⟩:=f.2 u z x;exact⟨v,o,aAV k l⟩
   .grind
  .grind
 .grind
end
section
variable {P:Program}{T:List cQ}{cf:Nat->Nat->List AV->aU->Option (AV×aU)}{fl lf:Nat}
def Ge: cU->Exit
 | .normal=>.normal
 | .exit id=>.exit id
 | .ret=>.ret
def aCK[aF](P:Program)(T:List cQ)(fl:Nat)(ev:St->Option (cU×St))(code:Code): Prop:=
 ∀(c:dF) (a:Act) (tm:List AV) (x:cU) (st':St) (Q:Exit->Act->World->Prop),bY (aK T) c->TR (aK T) c tm a.tmps->fl<=c.H.length->ev ⟨tm,c.H⟩=some (x,st')->
  (∀a' c',c'.H=st'.heap->bW fl c c'->bY (aK T) c'->TR (aK T) c' st'.tmps a'.tmps->a'.defers=a.defers->Q (Ge x) a' c'.w)->code.wp P Q a c.w
theorem G8[aF]{e:Code}{step:St->Option (cU×St)}{live:Option<|List Bool}{tr:Bool}(d:aCK P T fl step e){c0:dF}(i:bY (aK T) c0)(f:fl<=c0.H.length){ds:List Deferred}{x:cU}{st':St}{Q:Exit->Act->World->Prop}(v:∀a' c',c'.H=st'.heap->bW fl c0 c'->bY (aK T) c'->TR (aK T) c' st'.tmps a'.tmps->a'.defers=ds->Q (Ge x) a' c'.w):
 ∀(n:Nat) (c:dF) (a:Act) (tm:List AV),bY (aK T) c->bW fl c0 c->TR (aK T) c tm a.tmps->a.defers=ds->gA (dP live tr fl c0.H.length) step n ⟨tm,c.H⟩=some (x,st')->Code.rounds P e Q n a c.w
 | 0,c,a,tm,_,_,_,_,b=>by cases b
 | n+1,c,a,tm,G,r,s,A,b=>by
  simp only[gA] at b;obtain⟨m,F,D,k,z,C⟩:=Af i G r f s;rw[<-F];have j:(dP live tr fl c0.H.length ⟨tm,c.H⟩)=⟨(dP live tr fl c0.H.length ⟨tm,c.H⟩).tmps,m.H⟩:=by rw[D]
  rw[j] at b;split at b
  .rename_i h he;refine d m a _ .normal h _ z C (ZB f k.len) he ?_;intro a' c' o e2 q u p;refine G8 (live:=live) (tr:=tr) d i f v n c' a' h.tmps q (k.trans e2) u (p.trans A) ?_;rw[o];exact b
  .rename_i E;have g:∀y,Ge x=y->y≠.normal->e.wp P (Exit.then (Code.rounds P e Q n) Q) a m.w:=by
    intro y I t;refine d m a _ x st' _ z C (ZB f k.len) b ?_;intro a' c' o e2 q u p;have:=v a' c' o (k.trans e2) q u<|p.trans A;rw[I] at this |-;cases y<;>first | exact (t rfl).elim | exact this
   cases x with
   | normal=>grind
   | exit id=>exact g _ rfl<|by simp[Ge]
   | ret=>exact g _ rfl<|by simp[Ge]
theorem Ps[aF]{f:Code}{step:St->Option (cU×St)}{b:St->St}(e:aCK P T fl step f){c0:dF}(h:fl<=c0.H.length)(g:∀(c:dF) (tm:List AV) (tv:Array Value),bY (aK T) c->bW fl c0 c->TR (aK T) c tm tv->∃c',c'.w=c.w/\c'.H=(b ⟨tm,c.H⟩).heap/\bW fl c0 c'/\bY (aK T) c'/\TR (aK T) c' (b ⟨tm,c.H⟩).tmps tv){ds:List Deferred}{x:cU}{st':St}{Q:Exit->Act->World->Prop}(C:∀a' c',c'.H=st'.heap->bW fl c0 c'->bY (aK T) c'->TR (aK T) c' st'.tmps a'.tmps->a'.defers=ds->Q (Ge x) a' c'.w):
 ∀(n:Nat) (c:dF) (a:Act) (tm:List AV),bY (aK T) c->bW fl c0 c->TR (aK T) c tm a.tmps->a.defers=ds->gA b step n ⟨tm,c.H⟩=some (x,st')->Code.rounds P f Q n a c.w
 | 0,c,a,tm,_,_,_,_,d=>by cases d
 | n+1,c,a,tm,I,s,t,A,d=>by
  simp only[gA] at d;let⟨l,G,J,m,B,D⟩:=g c tm a.tmps I s t;rw[<-G];have j:(b ⟨tm,c.H⟩)=⟨(b ⟨tm,c.H⟩).tmps,l.H⟩:=by rw[J]
  rw[j] at d;split at d
  .rename_i k he;refine e l a _ .normal k _ B D (ZB h m.len) he ?_;intro a' c' p e2 r u q;refine Ps e h g C n c' a' k.tmps r (m.trans e2) u (q.trans A) ?_;rw[p];exact d
  .rename_i E;have i:∀y,Ge x=y->y≠.normal->f.wp P (Exit.then (Code.rounds P f Q n) Q) a l.w:=by
    intro y F v;refine e l a _ x st' _ B D (ZB h m.len) d ?_;intro a' c' p e2 r u q;have:=C a' c' p (m.trans e2) r u<|q.trans A;rw[F] at this |-;cases y<;>first | exact (v rfl).elim | exact this
   cases x with
   | normal=>grind
   | exit id=>exact i _ rfl<|by simp[Ge]
   | ret=>exact i _ rfl<|by simp[Ge]
theorem aIx[aF]{c:dF}{x:AV}{u:Value}(e:RV (aK T) c x u)(d:n4 c.H x≠3): ∃ad n cap,u=.slice ad n cap/\(n4 c.H x=0->ad=none)/\(n4 c.H x=1->ad.isNone=false):=by
 unfold n4 at d |-;split at d
 .rename_i v;have:=e.lit_inv;grind
 .rename_i es;have q:=e.sl_inv;cases q with
  | nil _ ad cap B=>grind
  | sl _ _ b off cap cc p o s a f l m k F z r w=>grind
 .rename_i es;obtain⟨ad,cap,rfl,_,i⟩:=e.vw_inv;rcases i with rfl | ⟨b,off,cc,p,o,s,a,rfl,_⟩
  .grind
  .grind
 .rename_i len;split at d
  .grind
  .rename_i j;split at d
   .rename_i g;split at d
    .rename_i h;let⟨ad,cap,D,E,A,f,l,m,k⟩:=e.ms_inv;rw[eT g] at f;cases f;let⟨y,C⟩:=k (Zc h).symm;grind
    .grind
   .grind
 .grind
theorem aIw[aF](hcf:De P T cf)(hfn:pV P T){c:dF}{a:Act}{tm:List AV}{ops:Array Oper}{o1 o2:Oper}{id t d0 d1:Nat}{Q:Exit->Act->World->Prop}(hops:ops.toList=[o1,o2])(hc1:Ey P T ops ⟨some d0,.mov<|.tmp t,none⟩ o1=true)(hc2:aBT P d0 d1 o2=true)(hs:bY (aK T) c)(htr:TR (aK T) c tm a.tmps)(hfl:fl<=c.H.length)(hd0:d0<tm.length)(h3:n4 c.H (aH tm<|.tmp t)≠3)(hQ:∀b a' c',(n4 c.H (aH tm<|.tmp t)=0->b=true)->(n4 c.H (aH tm<|.tmp t)=1->b=false)->c'.H=c.H->bW fl c c'->bY (aK T) c'->TR (aK T) c' (Pp tm t d0 d1 b) a'.tmps->a'.defers=a.defers->Q .normal a' c'.w):
 (Code.region id ops false).wp P Q a c.w:=by
 have e1:ops[0]?=some o1:=by rw[<-Z8,hops];rfl
 have e2:ops[1]?=some o2:=by rw[<-Z8,hops];rfl
 have hsz:ops.size=2:=by rw[<-Zx,hops];rfl
 refine Xc ?_;rw[hsz];have hev1:cS P cf fl ⟨some d0,.mov<|.tmp t,none⟩ ⟨tm,c.H⟩=some ⟨tm.set d0<|aH tm<|.tmp t,c.H⟩:=rfl;refine lF hcf hfn hs htr hfl e1 hc1 hev1 ?_;intro a1 c1 f1 f2 f3 f4 f5 _;rw[Y3];unfold aBT at hc2;simp at hc2;let⟨⟨h1,h2⟩,h4⟩:=hc2;have hdst:o2.dst=some d1:=by
  grind
 have hguard:=by simpa using h2
 split at h4
 .rename_i ty x' ty' hop;simp only[Zd,ZC] at h4;let⟨rfl,h4⟩:=h4;split at h4
  .rename_i hu;unfold wpOp;rw[e2];simp only;have hw:Region.wanted o2 (yielded ops a1.tmps)=true:=by simp[Region.wanted,hguard]
   rw[hw];left;let⟨u,k1,k2⟩:=f4.2 x' (aH tm<|.tmp t) (by simp[hd0]);let⟨ad,n,cap,hu',z0,z1⟩:=aIx k2 (by rw[f1];exact h3);rw[f1] at z0 z1;have hrun:(execOp a1.eval o2).run P c1.w=.ok (.value<|.bool ad.isNone) c1.w:=by
    have heq:∀w:World,(Op.equalIn Op.maxDepth ty (.slice ad n cap)<|.slice none 0 0).run P w=.ok ad.isNone w:=by
     have hm:Op.maxDepth=(Op.maxDepth-1)+1:=by decide
     rw[hm,Op.equalIn];cases ad<;>simp[Zm hu]
    simp[execOp,hop,Act.eval,k1,hu',eqGuard,binOp,Op.equal,heq]
   refine (bR (fl:=fl) f3 hrun<|RV.lit _) _ _ ?_;intro cv c2 q1 q2 q3 q4;rw[hdst]
   refine hQ ad.isNone _ c2 (λh=>by rw[z0 h];rfl) z1 (q1.trans f1) (f2.trans q2) q3 ?_<|(jC _ _ _).trans f5
   exact TR.put (d:=some d1) (f4.step q2) q4
  .grind
 .grind
theorem aH9[aF]{c c':dF}{x:AV}{v:Value}(h:aL1 x=true)(a:RV (aK T) c x v): RV (aK T) c' (.sl false []) v:=by
 unfold aL1 at h;split at h
 .rename_i u;have:=a.lit_inv;subst this;split at h
  .split at h
   .split at h
    .split at h
     .exact .pure _ _<|.nil false none 0<|by simp
     .cases h
    .cases h
   .cases h
  .cases h
 .split at h
  .have e:=a.sl_inv;cases e with
   | nil _ ad cap i=>exact .pure _ _<|.nil false ad cap<|by simp
   | sl _ _ b off cap cc l j s d r k p o f q g n=>grind
  .cases h
 .cases h
theorem aAC[aF]: ∀(a ys:List AV),a.length=ys.length->(ED a ys).length=a.length/\∀(t:Nat) (z:AV),(ED a ys)[t]?=some z->∃x y,a[t]?=some x/\ys[t]?=some y/\z=aHn x y
 | [],[],_=>⟨rfl,λt z h=>by simp[ED] at h⟩
 | x::r,y::s,h=>by
  let⟨d,c⟩:=aAC r s (by simpa using h);refine⟨by simp[ED,d],λt z b=>?_⟩;cases t with
  | zero=>
   simp only[ED,Zt,Za] at b;exact⟨x,y,rfl,rfl,b.symm⟩
  | succ t=>
   exact c t z b
 | [],_::_,h=>by simp at h
 | _::_,[],h=>by simp at h
theorem aNO[aF]{c c':dF}{d ys:List AV}{tv:Array Value}(f:d.length=ys.length)(h:TR (aK T) c d tv\/TR (aK T) c ys tv): TR (aK T) c' (ED d ys) tv:=by
 let⟨l,o⟩:=aAC d ys f;have e:d.length=tv.size:=by rcases h with h | h;exact h.1;rw[f];exact h.1
 refine⟨l.trans e,λt z j=>?_⟩;obtain⟨x,y,k,i,rfl⟩:=o t z j;have g:∃v,tv[t]?=some v/\(RV (aK T) c x v\/RV (aK T) c y v):=by
  rcases h with h | h
  .let⟨v,b,a⟩:=h.2 t x k;exact⟨v,b,.inl a⟩
  .let⟨v,b,a⟩:=h.2 t y i;exact⟨v,b,.inr a⟩
 let⟨v,b,a⟩:=g;refine⟨v,b,?_⟩;unfold aHn;split
 .rename_i m;split
  .rename_i n;rcases a with a | a
   .exact aH9 m a
   .exact aH9 n a
  .exact RV.undef _
 .exact RV.undef _
theorem aIF[aF]{FT:Nat->Option Nat}{c b:dF}(l:bY FT c)(d:bY FT b)(h:bW c.H.length c b): ∃a,a.w=b.w/\a.H=c.H/\bW c.H.length c a/\bY FT a:=by
 let⟨a,g,k,n,m,_⟩:=Af (live:=none) (tr:=true) (tm:=[]) (tv:=#[]) l d h (Zf _) ⟨rfl,λt x f=>by simp at f⟩;refine⟨a,g,?_,n,m⟩;rw[k];simp only[dP,Zz];apply Ym;intro i;have e:(b.H.take c.H.length).drop c.H.length=[]:=WD (by simp;omega);rw[e,Yn,Wo,Zs];split
 .rename_i j;exact (h.floor i j).1
 .grind
theorem eI[aF](hm:P.follows .mixedOrders=true)(hfo:Cy cf)(hcf:De P T cf)(hfn:pV P T): ∀(ac:bT) (code:Code),gE P T ac code=true->aCK P T fl (eS P cf lf fl ac) code
 | .skip,code,hchk=>by
  cases code<;>simp only[gE,Zn] at hchk
  .intro c a tm x st' Q hs htr hfl hev hQ
   simp only[eS,Za,Zi] at hev
   let⟨rfl,rfl⟩:=hev
   exact W5<|hQ a c rfl (bW.refl _ _) hs htr rfl
  .intro c a tm x st' Q hs htr hfl hev hQ
   simp only[eS,Za,Zi] at hev
   let⟨rfl,rfl⟩:=hev
   exact wp_label<|hQ a c rfl (bW.refl _ _) hs htr rfl
 | .scope p,code,hchk=>by
  cases code<;>try (simp only[gE,Zn] at hchk;done)
  rename_i p'
  simp only[gE] at hchk
  have hp:=eI hm hfo hcf hfn p p' hchk
  intro c a tm x st' Q hs htr hfl hev hQ
  simp only[eS] at hev
  refine wp_scope_straight<|hp c a tm x st' _ hs htr hfl hev ?_
  intro a' c' e1 e2 e3 e4 e5
  have:=hQ a' c' e1 e2 e3 e4 e5
  cases x<;>exact this
 | .nilIf t d0 d1 p q,code,hchk=>by
  cases code<;>try (simp only[gE,Zn] at hchk;done)
  rename_i l q'
  cases l<;>try (simp only[gE,Zn] at hchk;done)
  rename_i r cd
  cases r<;>try (simp only[gE,Zn] at hchk;done)
  rename_i id ops draw
  cases cd<;>try (simp only[gE,Zn] at hchk;done)
  rename_i k p' sk
  cases k<;>try (simp only[gE,Zn] at hchk;done)
  rename_i e
  cases sk<;>try (simp only[gE,Zn] at hchk;done)
  simp only[gE,Zd,YG,ZC] at hchk
  obtain⟨⟨⟨⟨rfl,rfl⟩,ho⟩,hcp⟩,hcq⟩:=hchk
  have hp:=eI hm hfo hcf hfn p p' hcp
  have hq:=eI hm hfo hcf hfn q q' hcq
  split at ho
  .rename_i o1 o2 hops
   simp only[Zd] at ho
   intro c a tm x st' Q hs htr hfl hev hQ
   simp only[eS] at hev
   split at hev
   .rename_i hd0
    simp only[Zd] at hd0
    have hd0':d0<tm.length:=Zj hd0.1
    have hd1':e<tm.length:=Zj hd0.2
    have h3:n4 c.H (aH tm<|.tmp t)≠3:=by
     intro h
     rw[h] at hev
     cases hev
    refine Xk<|Xk<|aIw hcf hfn hops ho.1 ho.2 hs htr hfl hd0' h3 ?_
    intro b a' c' hb0 hb1 e1 e2 e3 e4 e5
    have hval:a'.eval (.tmp e)=.bool b:=by
     let⟨v,k1,k2⟩:=e4.2 e (.lit<|.bool b)<|by simp[Pp,hd1']
     simp only[Act.eval,Yf,k1,Yp,k2.lit_inv]
    have e6:∀tm':List AV,(⟨tm',c'.H⟩:St)=⟨tm',c.H⟩:=λtm'=>by rw[e1]
    have joined:∀(pc:bT) (tm':List AV) (sa sb:St) (code:Code) (Q':Exit->Act->World->Prop),aCK P T fl (eS P cf lf fl pc) code->fl=c.H.length->sa.tmps.length=sb.tmps.length->
     (eS P cf lf fl pc ⟨tm',c.H⟩=some (.ret,sa)\/eS P cf lf fl pc ⟨tm',c.H⟩=some (.ret,sb))->TR (aK T) c' tm' a'.tmps->x=.ret->st'=⟨ED sa.tmps sb.tmps,c.H⟩->(∀a w,Q .ret a w->Q' .ret a w)->code.wp P Q' a' c'.w:=by
     intro pc tm' sa sb code Q' hok hflc hlen hor htr' hx hst hQ'
     subst hx hst
     have key:∀(s:St),eS P cf lf fl pc ⟨tm',c.H⟩=some (.ret,s)->(s=sa\/s=sb)->code.wp P Q' a' c'.w:=by
      intro s hes hss
      refine hok c' a' tm' .ret s Q' e3 htr' (ZB hfl e2.len) (by rw[e6];exact hes) ?_
      intro a'' c'' k1 k2 k3 k4 k5
      have hst2:=e2.trans k2
      rw[hflc] at hst2
      let⟨c2,m1,m2,m3,m4⟩:=aIF hs k3 hst2
      rw[<-hflc] at m3
      have:=hQ a'' c2 m2 m3 m4 (aNO hlen<|by rcases hss with rfl | rfl;exact .inl k4;exact .inr k4)<|k5.trans e5
      rw[m1] at this
      exact hQ' _ _ this
     rcases hor with h | h
     .grind
     .grind
    show (Code.cond (.tmp e) p' .skip).wp P _ a' c'.w
    cases b with
    | true=>
     refine Wd hval ?_
     split at hev
     .rename_i hk
      unfold Vz at hev
      split at hev
      .rename_i x1 s1 he
       split at hev
       .grind
       .rename_i hne
        cases hev
        refine hp c' a' _ x st' _ e3 e4 (ZB hfl e2.len) (by rw[e6];exact he) ?_
        intro a'' c'' k1 k2 k3 k4 k5
        have:=hQ a'' c'' k1 (e2.trans k2) k3 k4<|k5.trans e5
        cases x with
        | normal=>grind
        | exit i=>exact this
        | ret=>exact this
      .grind
     .grind
     .rename_i hk
      split at hev
      .rename_i hb
       unfold aDT at hev
       split at hev
       .rename_i sa sb h1 h2
        split at hev
        .rename_i hl
         cases hev
         exact joined p _ sa sb p' _ hp (Zc hb) (Zc hl) (.inl h1) e4 rfl rfl λa w h=>h
        .grind
       .grind
      .grind
     .grind
    | false=>
     refine XJ hval<|W5 ?_
     show q'.wp P Q a' c'.w
     split at hev
     .grind
     .rename_i hk
      refine hq c' a' _ x st' _ e3 e4 (ZB hfl e2.len) (by rw[e6];exact hev) ?_
      intro a'' c'' k1 k2 k3 k4 k5
      exact hQ a'' c'' k1 (e2.trans k2) k3 k4<|k5.trans e5
     .rename_i hk
      split at hev
      .rename_i hb
       unfold aDT at hev
       split at hev
       .rename_i sa sb h1 h2
        split at hev
        .rename_i hl
         cases hev
         exact joined q _ sa sb q' _ hq (Zc hb) (Zc hl) (.inr h2) e4 rfl rfl λa w h=>h
        .cases hev
       .cases hev
      .cases hev
     .cases hev
   .cases hev
  .cases ho
 | .frz t q,code,hchk=>by
  have hq:=eI hm hfo hcf hfn q code<|by cases code<;>(simp only[gE] at hchk;exact hchk)
  intro c a tm x st' Q hs htr hfl hev hQ
  simp only[eS] at hev
  split at hev
  .rename_i v H' he
   have key:∃c',c'.w=c.w/\c'.H=H'/\bW fl c c'/\bY (aK T) c'/\∀cv,RV (aK T) c (aH tm<|.tmp t) cv->RV (aK T) c' v cv:=by
    simp only[aO] at he
    split at he
    .rename_i id tot off len hx
     split at he
     .rename_i hle
      split at he
      .rename_i s es hob
       split at he
       .rename_i htot
        cases he
        exact⟨frz c id s es,rfl,rfl,vF hle hob,Vu hs hob,λcv hcv=>aBw hs hob htot<|by rw[hx] at hcv;exact hcv⟩
       .cases he
      .cases he
     .cases he
    .rename_i id tot idx off hx
     split at he
     .rename_i hle
      split at he
      .rename_i s es hob
       split at he
       .rename_i htot
        split at he
        .rename_i e hi
         cases he
         exact⟨frz c id s es,rfl,rfl,vF hle hob,Vu hs hob,λcv hcv=>aG8 hs hob htot hi<|by rw[hx] at hcv;exact hcv⟩
        .cases he
       .cases he
      .cases he
     .cases he
    .cases he
     exact⟨c,rfl,rfl,bW.refl _ _,hs,λ_ h=>h⟩
   let⟨c',k1,k2,k3,k4,k5⟩:=key
   have htr':TR (aK T) c' (tm.set t v) a.tmps:=by
    refine⟨by simpa using htr.1,λu y hy=>?_⟩
    rw[Z5] at hy
    split at hy
    .rename_i hut
     subst hut
     split at hy
     .rename_i hlt
      cases hy
      let⟨cv,g1,g2⟩:=htr.2 t tm[t]<|Zb hlt
      refine⟨cv,g1,k5 cv ?_⟩
      simp only[aH,Zb hlt]
      exact g2
     .cases hy
    .let⟨cv,g1,g2⟩:=htr.2 u y hy
     exact⟨cv,g1,g2.step k3⟩
   have:=hq c' a (tm.set t v) x st' Q k4 htr' (ZB hfl k3.len) (by rw[k2];exact hev) λa' c'' e1 e2 e3 e4 e5=>hQ a' c'' e1 (k3.trans e2) e3 e4 e5
   rwa [k1] at this
  .cases hev
 | .stop,code,hchk=>by
  intro c a tm x st' Q hs htr hfl hev hQ
  simp only[eS] at hev
  cases hev
 | .mask lx lr tr q,code,hchk=>by
  have hq:=eI hm hfo hcf hfn q code<|by cases code<;>(simp only[gE] at hchk;exact hchk)
  intro c a tm x st' Q hs htr hfl hev hQ
  simp only[eS,Hp] at hev
  split at hev
  .rename_i x1 st1 he
   have key:∀y,st'=dP (some lx) tr fl c.H.length st1->eS P cf lf fl q ⟨tm,c.H⟩=some (y,st1)->x=y->code.wp P Q a c.w:=by
    intro y e he e'
    subst e e'
    refine hq c a tm x st1 Q hs htr hfl he ?_
    intro a' c' e1 e2 e3 e4 e5
    let⟨c2,h1,h2,h3,h4,h5⟩:=Af (live:=some lx) (tr:=tr) hs e3 e2 hfl e4
    have e6:(⟨st1.tmps,c'.H⟩:St)=st1:=by rw[e1]
    rw[e6] at h2 h5
    have:=hQ a' c2 h2 h3 h4 h5 e5
    rwa [h1] at this
   split at hev
   .simp only[Za,Zi] at hev
    let⟨rfl,rfl⟩:=hev
    refine hq c a tm .ret st1 Q hs htr hfl he ?_
    intro a' c' e1 e2 e3 e4 e5
    exact hQ a' c' e1 e2 e3 (Kw lr _ _ e4) e5
   .simp only[Za,Zi] at hev
    let⟨rfl,rfl⟩:=hev
    exact key .normal rfl he rfl
   .rename_i i
    simp only[Za,Zi] at hev
    let⟨rfl,rfl⟩:=hev
    exact key (.exit i) rfl he rfl
  .cases hev
 | .told li lx lr q,code,hchk=>by
  have hq:=eI hm hfo hcf hfn q code<|by cases code<;>(simp only[gE] at hchk;exact hchk)
  intro c a tm x st' Q hs htr hfl hev hQ
  simp only[eS,Hp] at hev
  split at hev
  .rename_i x1 st1 he
   have key:∀y,st'=dP (some lx) false fl c.H.length st1->eS P cf lf fl q ⟨cV li tm,c.H⟩=some (y,st1)->x=y->code.wp P Q a c.w:=by
    intro y e he e'
    subst e e'
    refine hq c a (cV li tm) x st1 Q hs (Kw li tm _ htr) hfl he ?_
    intro a' c' e1 e2 e3 e4 e5
    let⟨c2,h1,h2,h3,h4,h5⟩:=Af (live:=some lx) (tr:=false) hs e3 e2 hfl e4
    have e6:(⟨st1.tmps,c'.H⟩:St)=st1:=by rw[e1]
    rw[e6] at h2 h5
    have:=hQ a' c2 h2 h3 h4 h5 e5
    rwa [h1] at this
   split at hev
   .simp only[Za,Zi] at hev
    let⟨rfl,rfl⟩:=hev
    refine hq c a (cV li tm) .ret st1 Q hs (Kw li tm _ htr) hfl he ?_
    intro a' c' e1 e2 e3 e4 e5
    exact hQ a' c' e1 e2 e3 (Kw lr _ _ e4) e5
   .simp only[Za,Zi] at hev
    let⟨rfl,rfl⟩:=hev
    exact key .normal rfl he rfl
   .rename_i i
    simp only[Za,Zi] at hev
    let⟨rfl,rfl⟩:=hev
    exact key (.exit i) rfl he rfl
  .cases hev
 | .region draw ck aops,code,hchk=>by
  cases code<;>try (simp only[gE,Zn] at hchk;done)
  rename_i id ops draw'
  have hd:draw=draw':=by simp only[gE,Zd,ZC] at hchk;exact hchk.1.1
  subst hd
  intro c a tm x st' Q hs htr hfl hev hQ
  simp only[eS] at hev
  split at hev
  .rename_i st1 he
   simp only[Za,Zi] at hev
   let⟨rfl,rfl⟩:=hev
   exact aB0 hm hfo hcf hfn hchk hs htr hfl he hQ
  .cases hev
 | .seq p q,code,hchk=>by
  cases code<;>try (simp only[gE,Zn] at hchk;done)
  rename_i p' q'
  simp only[gE,Zd] at hchk
  have hp:=eI hm hfo hcf hfn p p' hchk.1
  have hq:=eI hm hfo hcf hfn q q' hchk.2
  intro c a tm x st' Q hs htr hfl hev hQ
  simp only[eS] at hev
  refine Xk ?_
  split at hev
  .rename_i st1 he
   refine hp c a tm .normal st1 _ hs htr hfl he ?_
   intro a' c' e1 e2 e3 e4 e5
   show q'.wp P Q a' c'.w
   refine hq c' a' st1.tmps x st' Q e3 e4 (ZB hfl e2.len) (by rw[e1];exact hev) ?_
   intro a'' c'' f1 f2 f3 f4 f5
   exact hQ a'' c'' f1 (e2.trans f2) f3 f4<|f5.trans e5
  .rename_i r hne
   refine hp c a tm x st' _ hs htr hfl hev ?_
   intro a' c' e1 e2 e3 e4 e5
   have:=hQ a' c' e1 e2 e3 e4 e5
   cases x with
   | normal=>exact (hne st' hev).elim
   | exit id=>exact this
   | ret=>exact this
 | .cond k p q,code,hchk=>by
  cases code<;>try (simp only[gE,Zn] at hchk;done)
  rename_i k' p' q'
  simp only[gE,Zd] at hchk
  have hp:=eI hm hfo hcf hfn p p' hchk.1.2
  have hq:=eI hm hfo hcf hfn q q' hchk.2
  intro c a tm x st' Q hs htr hfl hev hQ
  have hk:=aX hs htr hchk.1.1
  simp only[eS] at hev
  split at hev
  .rename_i hb
   rw[hb] at hk
   exact Wd hk.lit_inv<|hp c a tm x st' Q hs htr hfl hev hQ
  .rename_i hb
   rw[hb] at hk
   exact XJ hk.lit_inv<|hq c a tm x st' Q hs htr hfl hev hQ
  .cases hev
 | .block i p,code,hchk=>by
  cases code<;>try (simp only[gE,Zn] at hchk;done)
  rename_i i' p'
  simp only[gE,Zd,ZC] at hchk
  let⟨rfl,hchk⟩:=hchk
  have hp:=eI hm hfo hcf hfn p p' hchk
  intro c a tm x st' Q hs htr hfl hev hQ
  simp only[eS] at hev
  refine WJ ?_
  split at hev
  .rename_i j st1 he
   refine hp c a tm (.exit j) st1 _ hs htr hfl he ?_
   intro a' c' e1 e2 e3 e4 e5
   simp only[Ge,Exit.inBlock]
   split at hev
   .rename_i hj
    simp only[Za,Zi] at hev
    let⟨rfl,rfl⟩:=hev
    rw[Zu hj]
    exact hQ a' c' e1 e2 e3 e4 e5
   .rename_i hj
    simp only[Za,Zi] at hev
    let⟨rfl,rfl⟩:=hev
    rw[ZF hj]
    exact hQ a' c' e1 e2 e3 e4 e5
  .rename_i r hne
   refine hp c a tm x st' _ hs htr hfl hev ?_
   intro a' c' e1 e2 e3 e4 e5
   have:=hQ a' c' e1 e2 e3 e4 e5
   cases x with
   | normal=>exact this
   | exit id=>exact (hne id st' hev).elim
   | ret=>exact this
 | .loop live tr p,code,hchk=>by
  cases code<;>try (simp only[gE,Zn] at hchk;done)
  rename_i p'
  simp only[gE] at hchk
  have hp:=eI hm hfo hcf hfn p p' hchk
  intro c a tm x st' Q hs htr hfl hev hQ
  simp only[eS] at hev
  exact XA lf<|G8 hp hs hfl hQ lf c a tm hs (bW.refl _ _) htr rfl hev
 | .loopV live lx lr t p,code,hchk=>by
  cases code<;>try (simp only[gE,Zn] at hchk;done)
  rename_i p'
  simp only[gE] at hchk
  have hp:=eI hm hfo hcf hfn p p' hchk
  intro c a tm x st' Q hs htr hfl hev hQ
  simp only[eS] at hev
  split at hev
  .rename_i st1 hown
   let⟨c1,h1,h2,h3,h4,h5⟩:=aIn hs htr hown
   unfold aKH at hev
   split at hev
   .rename_i x1 st2 he
    have e6:st1=⟨st1.tmps,c1.H⟩:=by rw[h2]
    rw[e6] at he
    have key:∀y,st'=MA lx t fl c.H.length st2->x1=y->x=y->(Code.loop p').wp P Q a c.w:=by
     intro y e e1 e'
     subst e e1 e'
     rw[<-h1]
     refine XA lf<|Ps hp (c0:=c) hfl (λd tm tv k1 k2 k3=>Pv hs k1 k2 hfl k3) ?_ lf c1 a _ h4 h3 h5 rfl he
     intro a' c' e1 e2 e3 e4 e5
     let⟨c2,g1,g2,g3,g4,g5⟩:=Pv (live:=lx) (t:=t) hs e3 e2 hfl e4
     have e7:(⟨st2.tmps,c'.H⟩:St)=st2:=by rw[e1]
     rw[e7] at g2 g5
     have:=hQ a' c2 g2 g3 g4 g5 e5
     rwa [g1] at this
    split at hev
    .simp only[Za,Zi] at hev
     let⟨rfl,rfl⟩:=hev
     rw[<-h1]
     refine XA lf<|Ps hp (c0:=c) hfl (λd tm tv k1 k2 k3=>Pv hs k1 k2 hfl k3) ?_ lf c1 a _ h4 h3 h5 rfl he
     intro a' c' e1 e2 e3 e4 e5
     exact hQ a' c' e1 e2 e3 (Kw lr _ _ e4) e5
    .simp only[Za,Zi] at hev
     let⟨rfl,rfl⟩:=hev
     exact key .normal rfl rfl rfl
    .rename_i i
     simp only[Za,Zi] at hev
     let⟨rfl,rfl⟩:=hev
     exact key (.exit i) rfl rfl rfl
   .cases hev
  .cases hev
 | .exit i,code,hchk=>by
  cases code<;>try (simp only[gE,Zn] at hchk;done)
  rename_i i'
  simp only[gE,ZC] at hchk
  subst hchk
  intro c a tm x st' Q hs htr hfl hev hQ
  simp only[eS,Za,Zi] at hev
  let⟨rfl,rfl⟩:=hev
  exact wp_exit<|hQ a c rfl (bW.refl _ _) hs htr rfl
 | .ret,code,hchk=>by
  cases code<;>try (simp only[gE,Zn] at hchk;done)
  intro c a tm x st' Q hs htr hfl hev hQ
  simp only[eS,Za,Zi] at hev
  let⟨rfl,rfl⟩:=hev
  exact wp_ret<|hQ a c rfl (bW.refl _ _) hs htr rfl
end
section
variable {P:Program}{T:List cQ}{cf:Nat->Nat->List AV->aU->Option (AV×aU)}{fl lf m n:Nat}{st:St}
section
theorem K5[aF](b:Cy cf): ∀(l:List bS) (st st':St),(fl<=m/\m<=st.heap.length)->jM P cf fl l st=some st'->Fr fl m st.heap st'.heap
 | [],st,st',h,a=>by simp only[jM] at a;cases a;exact .refl h
 | o::r,st,st',h,a=>by
  simp only[jM] at a;split at a
  .rename_i c d;have k:=aAJ b h d;exact k.trans<|K5 b r c st' (Fr.go h k) a
  .cases a
theorem uG[aF]{live:Option<|List Bool}{tr:Bool}(h:fl<=m/\m<=st.heap.length)(a:fl<=m/\m<=n): Fr fl m st.heap (dP live tr fl n st).heap:=by
 cases tr with
 | false=>exact .refl h
 | true=>
  simp only[dP,Zz];refine⟨?_,by simp;omega⟩;rw[Yg<|by simp;omega,Y9,Nat.min_self]
theorem I8[aF]{live:List Bool}{t:Nat}(h:fl<=m/\m<=st.heap.length)(b:fl<=m/\m<=n): Fr fl m st.heap (MA live t fl n st).heap:=by
 have a:=uG (live:=some live) (tr:=true) h b;unfold MA;split
 .split
  .split
   .refine⟨?_,by simp;omega⟩;simp only;rw[Ye,Yg<|by simp;omega,Y9,Nat.min_self]
   .exact a
  .exact a
 .exact a
theorem SL[aF]{b:St->St}{step:St->Option (cU×St)}(g:∀st,(fl<=m/\m<=st.heap.length)->Fr fl m st.heap (b st).heap)(d:∀st x st',(fl<=m/\m<=st.heap.length)->step st=some (x,st')->Fr fl m st.heap st'.heap):
 ∀(n:Nat) (st:St) (x:cU) (st':St),(fl<=m/\m<=st.heap.length)->gA b step n st=some (x,st')->Fr fl m st.heap st'.heap
 | 0,_,_,_,_,h=>by cases h
 | n+1,st,x,st',h,a=>by
  simp only[gA] at a;have c:=g st h;split at a
  .rename_i e he;have f:=d _ _ _ (Fr.go h c) he;exact (c.trans f).trans<|SL g d n e x st' (Fr.go h f) a
  .exact c.trans<|d _ _ _ (Fr.go h c) a
theorem lK[aF](e:Cy cf): ∀(c:bT) (st:St) (x:cU) (st':St),(fl<=m/\m<=st.heap.length)->eS P cf lf fl c st=some (x,st')->Fr fl m st.heap st'.heap
 | .skip,st,x,st',h,d=>by simp only[eS] at d;cases d;exact .refl h
 | .exit _,st,x,st',h,d=>by simp only[eS] at d;cases d;exact .refl h
 | .ret,st,x,st',h,d=>by simp only[eS] at d;cases d;exact .refl h
 | .stop,st,x,st',h,d=>by simp only[eS] at d;cases d
 | .region _ y ops,st,x,st',h,d=>by
  simp only[eS] at d;split at d
  .rename_i g he;cases d;exact K5 e ops st _ h<|AF he
  .cases d
 | .seq a b,st,x,st',h,d=>by
  simp only[eS] at d;split at d
  .rename_i g he;have k:=lK e a st _ g h he;exact k.trans<|lK e b g x st' (Fr.go h k) d
  .exact lK e a st x st' h d
 | .cond c a b,st,x,st',h,d=>by
  simp only[eS] at d;split at d
  .exact lK e a st x st' h d
  .exact lK e b st x st' h d
  .cases d
 | .block id c,st,x,st',h,d=>by
  simp only[eS] at d;split at d
  .rename_i i g he;have k:=lK e c st _ g h he;split at d<;>cases d<;>exact k
  .exact lK e c st x st' h d
 | .loop live tr c,st,x,st',h,d=>by
  simp only[eS] at d;exact SL (λst k=>uG k h) (λst x st' k he=>lK e c st x st' k he) lf st x st' h d
 | .frz t c,st,x,st',h,d=>by
  simp only[eS] at d;split at d
  .rename_i v H he;have k:=aCn e h he;exact k.trans<|lK e c _ x st' (Fr.go h k) d
  .cases d
 | .mask n s tr c,st,x,st',h,d=>by
  simp only[eS,Hp] at d;split at d
  .rename_i j g he;have k:=lK e c st _ g h he;split at d
   .cases d;exact k
   .cases d;exact k.trans<|uG (Fr.go h k) h
   .cases d;exact k.trans<|uG (Fr.go h k) h
  .cases d
 | .told w n s c,st,x,st',h,d=>by
  simp only[eS,Hp] at d;split at d
  .rename_i j g he;have k:=lK e c ⟨cV w st.tmps,st.heap⟩ _ g h he;split at d
   .cases d;exact k
   .cases d;exact k.trans<|uG (Fr.go h k) h
   .cases d;exact k.trans<|uG (Fr.go h k) h
  .cases d
 | .scope c,st,x,st',h,d=>by
  simp only[eS] at d;exact lK e c st x st' h d
 | .nilIf t r q a b,st,x,st',h,d=>by
  simp only[eS] at d;split at d
  .split at d
   .unfold Vz at d;split at d
    .rename_i j z he;split at d
     .cases d
     .cases d;exact lK e a ⟨Pp st.tmps t r q true,st.heap⟩ _ _ h he
    .cases d
   .exact lK e b ⟨Pp st.tmps t r q false,st.heap⟩ _ _ h d
   .split at d
    .unfold aDT at d;split at d
     .split at d
      .cases d;exact .refl h
      .cases d
     .cases d
    .cases d
   .cases d
  .cases d
 | .loopV live n s t c,st,x,st',h,d=>by
  simp only[eS] at d;split at d
  .rename_i g f;have o:Fr fl m st.heap g.heap:=by
    unfold aGR at f;split at f
    .split at f
     .rename_i p;split at f
      .split at f
       .cases f;exact (Fr.set h p).trans<|.app<|Fr.go h<|Fr.set h p
       .cases f
      .cases f
     .cases f
    .cases f
   unfold aKH at d;split at d
   .rename_i j l he;have u:=SL (λst k=>I8 k h) (λst x st' k he=>lK e c st x st' k he) lf g _ l (Fr.go h o) he;have k:=o.trans u;split at d
    .cases d;exact k
    .cases d;exact k.trans<|I8 (Fr.go h k) h
    .cases d;exact k.trans<|I8 (Fr.go h k) h
   .cases d
  .cases d
end
theorem SM[aF](P:Program)(T:List cQ)(c:∀cf,Cy cf->Cy (Mj cf)): ∀n,Cy<|fH P T n
 | 0=>λ_ _ _ _ _ _ _ _ h=>by cases h
 | n+1=>λfl m vi b H r H' h a=>by
  simp only[fH] at a;split at a
  .rename_i g d;exact c _ (SM P T c n) fl m vi b H r H' h<|by simp only[Mj,d];exact a
  .split at a
   .cases a
   split at a
   .rename_i st he;split at a
    .cases a;exact lK (SM P T c n) _ _ _ _ h he
    .cases a
   .rename_i st he;split at a
    .cases a;exact lK (SM P T c n) _ _ _ _ h he
    .cases a
   .cases a
end
section
variable {P:Program}{T:List cQ}{c:dF}{st:St}{tv:Array Value}
section
theorem PV[aF](A:bY (aK T) c)(I:c.H=st.heap)(g:TR (aK T) c st.tmps tv): ∀(rs:List aAh) (L:List ResultVar) (vs:List AV),Gh P rs L=true->nD st rs=some vs->
 ∃l:List Value,l.length=vs.length/\(∀(i:Nat) (x:AV),vs[i]?=some x->∃u,l[i]?=some u/\RV (aK T) c x u) /\
  (L.mapM (fun
   | .tmp t=>pure<|tv.getD t undef
   | .cell a t=>do loadVar t (<-asAddr<|tv.getD a undef):ResultVar->Sem Value)).run P c.w=.ok l c.w
 | [],[],vs,_,h=>by
  simp only[nD,Za] at h;subst h;exact⟨[],rfl,λi x d=>by simp at d,by simp⟩
 | .tmp t::r,q::s,vs,b,h=>by
  cases q with
  | cell a K=>simp[Gh] at b
  | tmp u=>
   simp only[Gh,Zd,ZC] at b;let⟨rfl,b⟩:=b;simp only[nD,Qy] at h;split at h
   .rename_i o k;cases h;let⟨l,E,D,C⟩:=PV A I g r s o b k;have G:=aX (a:=⟨tv,[]⟩) A g (x:=.tmp t) (y:=.tmp t) (by simp[aS]);refine⟨tv.getD t undef::l,by simp[E],λi x d=>?_,?_⟩
    .cases i with
     | zero=>
      simp only[Zt,Za] at d;subst d;exact⟨tv.getD t undef,by rw[Zt],G⟩
     | succ i=>
      simp only[ZL] at d |-;exact D i x d
    .rw[Wt];simp only[YW,Y4,YK,C]
   .cases h
 | .cell t n agg::r,q::s,vs,b,h=>by
  cases q with
  | tmp u=>simp[Gh] at b
  | cell u K=>
   simp only[Gh,Zd,ZC] at b;let⟨⟨⟨⟨rfl,U⟩,J⟩,X⟩,b⟩:=b;simp only[nD] at h;split at h
   .rename_i v j;split at h
    .rename_i o k;cases h;let⟨l,E,D,C⟩:=PV A I g r s o b k;have G:=aX (a:=⟨tv,[]⟩) A g (x:=.tmp t) (y:=.tmp t) (by simp[aS]);have m:∃u,(do loadVar K (<-asAddr<|tv.getD t undef):Sem Value).run P c.w=.ok u c.w/\RV (aK T) c v u:=by
      simp only[Qy] at j;split at j
      .rename_i cs B;rw[<-I] at B;let⟨ad,Z,V,O,f⟩:=FP A G B;have z:tv.getD t undef=.pointer (some ad):=V;cases agg with
       | true=>
        simp only[Zz,Za] at j;subst j;exact⟨_,by simp only[z,asAddr,YW,Y4,YK,zD f O J U rfl],Kk f⟩
       | false=>
        simp only[Zn,Z9] at j;split at j
        .cases j;let⟨u,S,Y,Q⟩:=f.2.2 0 v (by simp);have e:=f.2.1 0 u S;have R:ad.add 0=ad:=by simp[Addr.add]
         rw[R] at e;exact⟨u,by simp only[z,asAddr,YW,Y4,YK,Md e J],Q⟩
        .cases j
      .cases j
     let⟨u,M,W⟩:=m;refine⟨u::l,by simp[E],λi x d=>?_,?_⟩
     .cases i with
      | zero=>
       simp only[Zt,Za] at d;subst d;exact⟨u,by simp,W⟩
      | succ i=>
       simp only[ZL] at d |-;exact D i x d
     .rw[Wt];simp only[YW,Y4,YK,C] at M |-;rw[M];simp only[YK,C]
    .cases h
   .cases h
 | [],_::_,_,b,_=>by cases b
 | .tmp _::_,[],_,b,_=>by cases b
 | .cell _ _ _::_,[],_,b,_=>by cases b
theorem VG[aF]{fn:Func}{rs:List aAh}{vs:List AV}(q:bY (aK T) c)(o:c.H=st.heap)(l:TR (aK T) c st.tmps tv)(p:Gh P rs fn.results.toList=true)(h:nD st rs=some vs):
 ∃v,(results fn tv).run P c.w=.ok v c.w/\RV (aK T) c (kO vs) v:=by
 let⟨a,j,k,s⟩:=PV q o l rs fn.results.toList vs p h;refine⟨if t:a.toArray.size=1 then a.toArray[0] else .tuple a.toArray,?_,?_⟩
 .unfold results;rw[Array.mapM_eq_mapM_toList];simp only[YW,Sem.run_map,Y4];refine Eq.trans (congrArg (λr=>(Result.andThen (Result.andThen r _) _))<|Eq.trans ?_ s) rfl;congr 2
 .unfold kO;split
  .rename_i v;have g:a.length=1:=by simpa using j
   let⟨u,d,m⟩:=k 0 v (by simp);have b:a.toArray.size=1:=by simpa using g
   rw[Wz b];have:a.toArray[0]=u:=by
    have:a.toArray[0]?=some u:=by simpa using d
    rw[Z6<|by omega] at this;exact ZR this
   rw[this];exact m
  .rename_i f;have b:¬a.toArray.size=1:=by
    intro e;have g:vs.length=1:=by rw[<-j];simpa using e
    match vs,g with
    | [v],_=>exact f v rfl
   rw[dif_neg b];refine .tup vs a.toArray (λi=>(a[i]?).getD bM) (by simpa using j) ?_ ?_
   .intro i x n;let⟨u,d,_⟩:=k i x n;simp[d]
   .intro i x n;let⟨u,d,m⟩:=k i x n;simpa [d] using m
theorem b7{F:cQ}(h:Lh P T F=true): ∃fn a,P.funcs[F.fid]?=some fn/\fn.body=some a/\gE P T F.body a=true/\fn.ntmps=F.nt/\Gh P F.rets fn.results.toList=true/\(fn.name== "runtime.NumGoroutine")=false:=by
 unfold Lh at h;split at h
 .rename_i fn c;split at h
  .rename_i a b;simp only[Zd,ZC,YG] at h;exact⟨fn,a,c,b,h.1.1.1,h.1.1.2,h.1.2,h.2⟩
  .cases h
 .cases h
def Checked(P:Program)(T:List cQ): Prop:=∀F∈T,Lh P T F=true
theorem aEg[aF](h:Checked P T): pV P T:=by
 intro vi f a;unfold aK at a;split at a
 .rename_i F g;cases a;let⟨fn,b,e,d,_,_,_,c⟩:=b7<|h F<|Zg g;exact⟨fn,e,by simp[d],c⟩
 .cases a
structure aGj[aF](P:Program)(T:List cQ): Prop where
 fl:∀cf,Cy cf->Cy (Mj cf)
 ok:∀cf,De P T cf->De P T (Mj cf)
theorem aAK[aF](I:P.follows .mixedOrders=true)(y:Checked P T)(C:aGj P T): ∀n,De P T<|fH P T n
 | 0=>by
  intro fl vi f b r H' c vs a;cases a
 | n+1=>by
  have L:=aAK I y C n;intro fl vi f b r H' c vs a m O k d;simp only[fH] at a;split at a
  .rename_i g V;exact C.ok _ L fl vi f b r H' c vs (by simp only[Mj,V];exact a) m O k d
  split at a
  .cases a
  .rename_i F E;have B:f=F.fid:=by
    unfold aK at m;rw[E] at m;exact (ZR m).symm
   subst B;let⟨fn,i,W,Y,R,M,U,_⟩:=b7<|y F<|Zg E;refine calls_of_wp W Y ?_;have s:TR (aK T) c (b++List.replicate (F.nt-b.length) (.lit bM))<|vs++Array.replicate (fn.ntmps-vs.size) undef:=by
    refine⟨by simp[d.1,M],λt x h=>?_⟩;rw[Yk] at h;rw[XX,d.1];split at h
    .rename_i A;rw[Zu A];exact d.2 t x h
    .rename_i A;rw[ZF A];rw[XP] at h;split at h
     .rename_i q;cases h;refine⟨undef,?_,RV.lit _⟩;rw[XN,Zu<|by rw[M];exact q]
     .cases h
   have j:=eI (fl:=fl) (lf:=n) I (SM P T C.fl n) L (aEg y) F.body i R;have l:∀(x:cU) (st:St),(x=.normal\/x=.ret)->eS P (fH P T n) n fl F.body ⟨b++List.replicate (F.nt-b.length) (.lit bM),c.H⟩=some (x,st)->
    (match nD st F.rets with | some Q=>some (kO Q,st.heap) | none=>none)=some (r,H')->
    i.wp P (bodyPost P fn λe w'=>∃v c',e=.returned v/\c'.w=w'/\c'.H=H'/\c'.X=c.X/\bW fl c c'/\bY (aK T) c'/\RV (aK T) c' r v)
     { tmps:=vs++Array.replicate (fn.ntmps-vs.size) undef,defers:=[] } c.w:=by
    intro x st h he p;split at p
    .rename_i Q z;simp only[Za,Zi] at p;let⟨rfl,rfl⟩:=p;refine j c _ _ x st _ O s k he ?_;intro a' c' u e2 D S K;let⟨v,N,G⟩:=VG (fn:=fn) D u S U z;rcases h with rfl | rfl
     .exact⟨K,v,N,v,c',rfl,rfl,u,e2.X,e2,D,G⟩
     .exact⟨K,v,N,v,c',rfl,rfl,u,e2.X,e2,D,G⟩
    .cases p
   split at a
   .rename_i st he;exact l .normal st (.inl rfl) he a
   .rename_i st he;exact l .ret st (.inr rfl) he a
   .cases a
end
end
section
open Go.RowKit
def mxL: Nat:=140737488355328
def yB(P:Program): Nat->TypeId->List AV->Prop
 | 0,_,_=>False
 | n+1,t,xs=>
  match P.underlying t with
  | some .bool=>∃b,xs=[.lit<|.bool b]
  | some (.int k)=>∃z,(Lit.int k z).wf=true/\xs=[.lit<|.int k z]
  | some .string=>∃s:ByteArray,s.size<=maxLen/\xs=[.lit<|.string s]
  | some (.slice e)=>∃es:List<|List AV,xs=[.sl false es]/\es.length<=mxL/\∀x∈es,yB P n e x
  | some (.struct fs)=>∃ps:List<|List AV,xs=ps.flatten/\ps.length=fs.size/\∀(i:Nat) (f:Field) (p:List AV),fs[i]?=some f->ps[i]?=some p->yB P n f.type p
  | some (.array m e)=>∃ps:List<|List AV,xs=ps.flatten/\ps.length=m/\∀p∈ps,yB P n e p
  | _=>False
def N1(P:Program): Nat->List Field->Nat->Bool
 | o,[],tot=>o==tot
 | o,f::r,tot=>f.offset==o&&N1 P (o+P.cellsOf f.type) r tot
def okT(P:Program): Nat->TypeId->Bool
 | 0,_=>false
 | n+1,t=>
  match P.underlying t with
  | some .bool=>true
  | some (.int _)=>true
  | some .string=>true
  | some (.slice e)=>decide (0<P.cellsOf e)&&(decide (0<P.bytesOf e)&&okT P n e)
  | some (.struct fs)=>N1 P 0 fs.toList (P.cellsOf t)&&fs.toList.all λf=>okT P n f.type
  | some (.array m e)=>P.cellsOf t==m*P.cellsOf e&&okT P n e
  | _=>false
def CR(w:World)(xs:List AV)(cs:List Value): Prop:=
 xs.length=cs.length/\∀(j:Nat) (x:AV),xs[j]?=some x->∃v,cs[j]?=some v/\bC v=true/\RP w (λ_=>True) x v
variable {FT:Nat->Option Nat}{H:Type}{P:Program}{W:World}{a:Addr}{base:Nat}{enc:TypeId×Value->H}{held:Bool}{n:Nat}{spare:Nat->Bool}{v:Value}{w:World}{α:Type}
theorem CR.nil: CR w [] []:=⟨rfl,λj x h=>by simp at h⟩
theorem CR.one{x:AV}(b:bC v=true)(h:RP w (λ_=>True) x v): CR w [x] [v]:=
 ⟨rfl,λj y a=>by
  cases j with
  | zero=>simp only[Zt,Za] at a;subst a;exact⟨v,by simp,b,h⟩
  | succ j=>simp at a⟩
theorem CR.append{c ys:List AV}{cs ds:List Value}(h:CR w c cs)(k:CR w ys ds): CR w (c++ys)<|cs++ds:=
 ⟨by simp[h.1,k.1],λj x b=>by
  rw[Yk] at b |-;rw[h.1] at b;split at b
  .rename_i a;rw[Zu a];exact h.2 j x b
  .rename_i a;rw[ZF a];exact k.2 _ x b⟩
theorem CR.flatten[aF]: ∀{b:List<|List AV} {a:List<|List Value},b.length=a.length->(∀(i:Nat) p q,b[i]?=some p->a[i]?=some q->CR w p q)->CR w b.flatten a.flatten
 | [],[],_,_=>CR.nil
 | [],_::_,h,_=>by simp at h
 | _::_,[],h,_=>by simp at h
 | p::b,q::a,h,k=>by
  simp only[Yt];exact (k 0 p q rfl rfl).append<|CR.flatten (by simpa using h) λi p' q' d c=>k (i+1) p' q' (by simpa using d)<|by simpa using c
theorem Ei[aF]{Q:Nat->α->Prop}: ∀n,(∀i,i<n->∃x,Q i x)->∃l:List α,l.length=n/\∀i x,l[i]?=some x->Q i x
 | 0,_=>⟨[],rfl,λi x h=>by simp at h⟩
 | n+1,h=>by
  let⟨l,b,d⟩:=Ei n λi e=>h i (by omega);let⟨x,c⟩:=h n (by omega);refine⟨l++[x],by simp[b],λi y a=>?_⟩;rw[Yk] at a;split at a
  .exact d i y a
  .have:i=n:=by
    rcases ZI (i-l.length) 1 with h | h
    .omega
    .rw[Zy<|by simpa using h] at a;cases a
   subst this;rw[b] at a;simp at a;subst a;exact c
theorem a8[aF](cs:List α){tot:Nat}(c:cs.length=tot): ∀(a:List Field) (o:Nat),N1 P o a tot=true->
 cs.drop o=(a.map λf=>(cs.drop f.offset).take<|P.cellsOf f.type).flatten
 | [],o,h=>by
  simp only[N1,ZC] at h;simp only[Yn,Xd,WS];omega
 | f::r,o,h=>by
  simp only[N1,Zd,ZC] at h;let⟨d,b⟩:=h;have e:=a8 cs c r _ b;simp only[ZE,Yt,<-e,d];rw[<-XD,YT]
theorem KA[aF](s:Nat): ∀(m o:Nat) (cs:List α),cs.length=o+m*s->
 cs.drop o=((List.range m).map λi=>(cs.drop<|o+i*s).take s).flatten
 | 0,o,cs,h=>by simp[WS];omega
 | m+1,o,cs,h=>by
  have a:=KA s m (o+s) cs (by rw[h,Xx];omega);rw[List.range_succ_eq_map];simp only[ZE,Ya,Yt];have e:((List.range m).map<|(λi=>(cs.drop<|o+i*s).take s)∘Nat.succ)=(List.range m).map λi=>(cs.drop<|o+s+i*s).take s:=by
   refine ZS λi _=>?_;simp only[Function.comp,Xx];congr 2;omega
  rw[e,<-a,YQ,Xm,<-XD,YT]
section
theorem cells?_get{l:List Value}(h:w.cells? base a n=some l): l.length=n/\∀i,i<n->w.cell? (a.add i)=l[i]?:=by
 unfold World.cells? at h;split at h
 .exact⟨by simpa using mapM_some_length h,λi c=>mapM_some_get h i i<|by simp[c]⟩
 .cases h
theorem cell?_inv(h:w.cell? a=some v): ∃c T b,w.heap[a.block]?=some (.cells c T b)/\a.spot=none/\c[a.off]?=some v:=by
 unfold World.cell? at h;split at h
 .rename_i c T b d;split at h
  .cases h
  .rename_i e;exact⟨c,T,b,d,by simpa using e,h⟩
 .cases h
theorem aHN(a:Addr)(n:Nat): (a.add n).off=a.off+n:=by
 unfold Addr.add;split
 .rename_i h;simp[h]
 .rfl
theorem aJw{e:TypeId}: ∀{ds:List<|DataW H} {i:Nat} {d:DataW H},ds[i]?=some d->∀n∈d.weights P e,n∈DataW.weightsAll P e ds
 | [],_,_,h,_,_=>by simp at h
 | b::ds,0,d,h,n,a=>by
  simp only[Zt,Za] at h;subst h;simp only[DataW.weightsAll,ZD];exact .inl a
 | b::ds,i+1,d,h,n,a=>by
  simp only[DataW.weightsAll,ZD];exact .inr<|aJw (by simpa using h) n a
theorem Jx[aF]: ∀(n:Nat) (t:TypeId) (cs:List Value) (x:DataW H×List MemPlace) (F:Nat),okT P n t=true->DataW.trod enc P w base spare held F t cs=some x->(∀n∈x.1.weights P t,n<=reachBytes)->∃xs,yB P n t xs/\CR w xs cs
 | 0,t,cs,x,F,A,_,_=>by simp[okT] at A
 | n+1,t,cs,x,F,A,h,O=>by
  unfold okT at A;unfold yB;split at A
  .rename_i C;obtain⟨b,rfl,_⟩:=DataW.trod_bool C h;exact⟨_,⟨b,rfl⟩,CR.one rfl<|.lit _⟩
  .rename_i k C;obtain⟨z,rfl,_,hw⟩:=X2 C h;exact⟨_,⟨z,hw,rfl⟩,CR.one rfl<|.lit _⟩
  .rename_i C;obtain⟨z,rfl,_,hw⟩:=DataW.trod_string C h;exact⟨_,⟨z,hw,rfl⟩,CR.one rfl<|.lit _⟩
  .rename_i e C;simp only[Zd,Z4] at A;let⟨c3,a3,A⟩:=A;rcases DataW.trod_slice C h with⟨rfl,_⟩ | ⟨a,len,cap,g,rest,m,_,rfl,rfl,_,e3,d3,e1,G,_,_⟩
   .exact⟨_,⟨[],rfl,by simp,λx D=>by cases D⟩,CR.one rfl<|.nil _ _ _<|by simp⟩
   .have u:∀i,i<len->∃y:List AV,yB P n e y/\∃l,w.cells? base (a.add<|i*P.cellsOf e) (P.cellsOf e)=some l/\CR w y l:=by
     intro i s;have J:=G i s;have h2:g[i]?=some g[i]:=Zb (by omega);rw[h2] at J;cases hc:w.cells? base (a.add<|i*P.cellsOf e) (P.cellsOf e) with
     | none=>rw[hc] at J;simp at J
     | some l=>
      rw[hc] at J;let⟨y,E,R⟩:=Jx n e l _ m A (by simpa using J) λz hz=>O z<|by
       simp only[DataW.weights,C,ZN,ZD];exact .inr<|.inl<|aJw (ds:=g.map (·.1)) (i:=i) (by rw[Zk,h2];rfl) z hz
      exact⟨y,E,l,rfl,R⟩
    let⟨es,d,Z⟩:=Ei len u;have b1:es.length<=mxL:=by
     have:=O ((g.length+rest.length)*P.bytesOf e) (by simp only[DataW.weights,C,ZN,ZO];exact .inl trivial);have h3:=Nat.le_mul_of_pos_right (g.length+rest.length) a3;have h4:=reachBytes_lt;show _<=140737488355328;omega
    refine⟨[.sl false es],⟨es,rfl,b1,λy hy=>?_⟩,CR.one rfl ?_⟩
    .obtain⟨i,s,rfl⟩:=Xs.1 hy;exact (Z i _<|Zb s).1
    .by_cases h0:es=[]
     .subst h0;simp at d;subst d;exact .nil _ _ _<|by simp
     .have e2:0<len:=by
       rcases XB len with h | h
       .rw[h] at d;exact absurd (ZK.1 d) h0
       .exact h
      have L:∀i j x,bK es i j=some x->∃v,w.cell? ((a.add<|i*P.cellsOf e).add j)=some v/\bC v=true/\RP w (λ_=>True) x v/\j<P.cellsOf e:=by
       intro i j x D;unfold bK at D;cases s:es[i]? with
       | none=>rw[s] at D;cases D
       | some y=>
        rw[s] at D;let⟨_,l,E,R⟩:=Z i y s;let⟨v,B,W,N⟩:=R.2 j x D;let⟨c1,c2⟩:=cells?_get E;have hj:j<P.cellsOf e:=by
         rcases ZI j (P.cellsOf e) with h | h
         .exact h
         .rw[Zy<|by omega] at B;cases B
        exact⟨v,(c2 j hj).trans B,W,N,hj⟩
      have M:∀y∈es,y.length=P.cellsOf e:=by
       intro y hy;obtain⟨i,s,rfl⟩:=Xs.1 hy;let⟨_,l,E,R⟩:=Z i _<|Zb s;rw[R.1];exact (cells?_get E).1
      have a1:∃x,bK es 0 0=some x:=by
       cases es with
       | nil=>exact absurd rfl h0
       | cons y r=>
        have:=M y (by simp);exact⟨y[0],by simp[bK]⟩
      let⟨x0,a1⟩:=a1;let⟨v0,B,_,_,_⟩:=L 0 0 x0 a1;let⟨c,T,fz,hb,Y,_⟩:=cell?_inv B;simp only[YQ,Addr.add,Zz] at hb Y;let⟨ab,ao,d2⟩:=a;simp only at hb Y;subst Y;have X:∀i j x,bK es i j=some x->∃v,c[ao+(i*P.cellsOf e+j)]?=some v/\bC v=true/\RP w (λ_=>True) x v:=by
       intro i j x D;let⟨v,B,W,N,_⟩:=L i j x D;let⟨c',T',f1,E,_,k3⟩:=cell?_inv B;rw[ChangeShapes.block_add,ChangeShapes.block_add] at E;rw[hb] at E;cases E;rw[aHN,aHN,Yu] at k3;exact⟨v,k3,W,N⟩
      have hr:RP w (λ_=>True) (.sl false es)<|.slice (some ⟨ab,ao,none⟩) es.length cap:=by
       refine .sl false es ab ao cap c T fz (P.cellsOf e) (λi j=>(c[ao+(i*P.cellsOf e+j)]?).getD undef) h0 trivial hb M (by omega) (by simp) ?_ ?_
       .intro i j x D;let⟨v,B,W,N⟩:=X i j x D;exact⟨by rw[B];rfl,by rw[B];exact W⟩
       .intro i j x D;let⟨v,B,W,N⟩:=X i j x D;show RP w _ x<|(c[ao+(i*P.cellsOf e+j)]?).getD undef;rw[B];exact N
      rw[d] at hr;exact hr
  .rename_i U C;simp only[Zd,Yl] at A;let⟨K,A⟩:=A;obtain⟨ys,m,_,rfl,hl,b3,G⟩:=W8 C h;have u:∀i,i<U.size->∃y:List AV,∃f,U[i]?=some f/\yB P n f.type y/\CR w y ((cs.drop f.offset).take<|P.cellsOf f.type):=by
    intro i s;have hf:U[i]?=some U[i]:=by simp[s]
    have J:=G i _ hf;rw[Zb<|by omega] at J;let⟨y,E,R⟩:=Jx n _ _ _ m (A U[i]<|by simp) J λz hz=>O z<|by
     simp only[DataW.weights,C];exact DataW.weights_mem_each (j:=i) (by rw[Zk];simp[s]) (by rw[Zk,Zb<|by omega];rfl) z hz
    exact⟨y,_,hf,E,R⟩
   let⟨ps,d,I⟩:=Ei U.size u;refine⟨ps.flatten,⟨ps,rfl,d,λi f p hf S=>?_⟩,?_⟩
   .let⟨f',B,W,_⟩:=I i p S;rw[hf] at B;cases B;exact W
   .have e:=a8 (P:=P) cs hl U.toList 0 K;rw[YD] at e;rw[e];refine CR.flatten (by simp[d]) λi p q S Q=>?_;let⟨f,B,_,N⟩:=I i p S;rw[Zk] at Q;have:U.toList[i]?=some f:=by simpa using B
    rw[this] at Q;simp only[Yz,Za] at Q;subst Q;exact N
  .rename_i m e C;simp only[Zd,ZC] at A;let⟨K,A⟩:=A;obtain⟨ys,m',_,rfl,hl,b3,G⟩:=DataW.trod_array C h;have u:∀i,i<m->∃y:List AV,yB P n e y/\CR w y ((cs.drop<|i*P.cellsOf e).take<|P.cellsOf e):=by
    intro i s;have J:=G i s;rw[Zb<|by omega] at J;let⟨y,E,R⟩:=Jx n _ _ _ m' A J λz hz=>O z<|by
     simp only[DataW.weights,C];exact aJw (i:=i) (by rw[Zk,Zb<|by omega];rfl) z hz
    exact⟨y,E,R⟩
   let⟨ps,d,I⟩:=Ei m u;refine⟨ps.flatten,⟨ps,rfl,d,λp S=>?_⟩,?_⟩
   .obtain⟨i,s,rfl⟩:=Xs.1 S;exact (I i _<|Zb s).1
   .have e':=KA (P.cellsOf e) m 0 cs (by rw[hl,K];omega);rw[YD] at e';rw[e'];refine CR.flatten (by simp[d]) λi p q S Q=>?_;let⟨_,N⟩:=I i p S;rw[Zk] at Q;have s:i<m:=by
     rcases ZI i m with h | h
     .exact h
     .rw[Zy<|by omega] at S;cases S
    rw[YY s] at Q;simp only[Yz,Za,Z0] at Q;subst Q;exact N
  .cases A
def isAgg(P:Program)(t:TypeId): Bool:=
 match P.underlying t with
 | some (.struct _)=>true
 | some (.array _ _)=>true
 | _=>false
def c7(P:Program)(t:TypeId)(xs:List AV): AV:=
 match isAgg P t with
 | true=>.agg xs
 | false=>xs.headD .undef
def Vo(P:Program)(n:Nat): List TypeId->List AV->Prop
 | [],[]=>True
 | t::ts,x::xs=>(∃ys,yB P n t ys/\x=c7 P t ys)/\Vo P n ts xs
 | _,_=>False
def top(W:World): dF:=⟨W,λ_=>False,λ_=>none,[]⟩
theorem aBl(W:World)(b:Nat): nE (top W) b:=⟨λh=>h,λid h=>by cases h⟩
theorem aM6[aF](FT:Nat->Option Nat)(W:World)(g:vD<|top W): bY FT (top W) where
 gl:=g;inj:=λ_ _ _ h=>by cases h
 dom:=λ_ _ h=>by cases h
 nx:=λ_ _ h=>by cases h
 fresh:=λ_ _ h=>h;lens:=λid s es h=>by simp[top] at h
 blk:=λid s es b h=>by simp[top] at h
 map:=λid es b h=>by simp[top] at h
 raw:=λid q b h=>by simp[top] at h
theorem aPX[aF]{j:Nat}{t:TypeId}{d:DataW H}{N:List MemPlace}(a:Value.okWide P w .any j t v)(Q:okT P n t=true)(h:DataW.Trod enc P w base spare held t v d N)(E:∀n∈d.weights P t,n<=reachBytes): ∃ys,yB P n t ys/\RV FT (top w) (c7 P t ys) v:=by
 let⟨q,h⟩:=h;let⟨ys,M,p⟩:=Jx n t _ _ q Q h E;refine⟨ys,M,?_⟩;have z:∀{x:AV} {u:Value},RP w (λ_=>True) x u->RP (top w).w (nE<|top w) x u:=λR=>R.mono λb o _ O=>⟨aBl w b,O⟩;have f:∀cs:Array Value,v=.agg cs->RV FT (top w) (.agg ys) v:=by
  intro cs e;subst e;simp only[Value.cells] at p;refine .agg ys cs (λi=>(cs[i]?).getD undef) (by have:=p.1;simpa using this.symm) (λi x C=>?_) λi x C=>?_
  .let⟨u,l,L,A⟩:=p.2 i x C;have:cs[i]?=some u:=by simpa using l
   exact⟨by rw[this];rfl,by rw[this];exact L⟩
  .let⟨u,l,L,A⟩:=p.2 i x C;have:cs[i]?=some u:=by simpa using l
   show RV FT (top w) x<|(cs[i]?).getD undef;rw[this];exact .pure _ _<|z A
 unfold Value.okWide at a;unfold c7 isAgg;split at a
 .rename_i S k;obtain⟨cs,rfl,_⟩:=a;simp only[k];exact f cs rfl
 .rename_i m e k;obtain⟨cs,rfl,_⟩:=a;simp only[k];exact f cs rfl
 .rename_i I D;have G:∀cs,v≠.agg cs:=by
   intro cs e;subst e;unfold Cell.okWide Cell.ok at a;revert a;cases P.underlying t with
   | none=>simp
   | some u=>cases u<;>simp
  have c:v.cells=#[v]:=by
   cases v<;>first | rfl | exact absurd rfl (G _)
  rw[c] at p;have:(match P.underlying t with | some (.struct _)=>true | some (.array _ _)=>true | _=>false)=false:=by
   split
   .rename_i k;exact absurd k<|I _
   .rename_i k;exact absurd k<|D _ _
   .rfl
  rw[this];let⟨B,g⟩:=p;match ys,B,g with
  | [],B,_=>simp at B
  | y::r,_,g=>
   let⟨u,l,_,A⟩:=g 0 y rfl;simp at l;subst l;exact .pure _ _<|z A
theorem aG9[aF]{b:Nat}: ∀(ts:List TypeId) (vs:List Value) (ds:List<|DataW H) (m:List MemPlace),
 (∀(j:Nat) t v,ts[j]?=some t->vs[j]?=some v->Value.okWide P w .any b t v)->ts.all (okT P n)=true->DataW.TrodAll enc P w base spare held ts vs ds m->(∀n∈DataW.weightsEach P ts ds,n<=reachBytes)->
 ∃f,Vo P n ts f/\f.length=vs.length/\∀(i:Nat) x,f[i]?=some x->∃v,vs[i]?=some v/\RV FT (top w) x v
 | [],[],[],_,_,_,_,_=>⟨[],trivial,rfl,λi x c=>by simp at c⟩
 | t::ts,v::vs,d::ds,m,e,k,h,a=>by
  let⟨p,q,u,C,_⟩:=h;simp only[DataW.weightsEach,ZD] at a;simp only[XM,Zd] at k;let⟨ys,y,D⟩:=aPX (FT:=FT) (e 0 t v rfl rfl) k.1 u λn g=>a n<|.inl g;obtain⟨f,E,A,z⟩:=aG9 ts vs ds q (λj s B F e2=>e (j+1) s B (by simpa using F)<|by simpa using e2) k.2 C λn g=>a n<|.inr g;refine⟨c7 P t ys::f,⟨⟨ys,y,rfl⟩,E⟩,by simp[A],λi x c=>?_⟩;cases i with
  | zero=>
   simp only[Zt,Za] at c;subst c;exact⟨v,rfl,D⟩
  | succ i=>
   simp only[ZL] at c |-;exact z i x c
 | [],[],_::_,_,_,_,h,_=>h.elim
 | [],_::_,_,_,_,_,h,_=>h.elim
 | _::_,[],_,_,_,_,h,_=>h.elim
 | _::_,_::_,[],_,_,_,h,_=>h.elim
theorem DY[aF]{ts:List TypeId}(k:laidOutB P=true){i:World}(j:Below W.heap.size W i): ∀(ts:List TypeId) (vs:List Value) (ds:List<|DataW H) (c:List MemPlace),
 (∀t∈ts,P.readableRec t=true/\t<P.types.size)->(∀x∈c,x.block<W.heap.size)->DataW.TrodAll enc P W 0 (λ_=>true) true ts vs ds c->
 DataW.TrodAll enc P i 0 (λb=>decide<|b<W.heap.size) true ts vs ds c
 | [],[],[],_,_,_,h=>h
 | t::ts,v::vs,d::ds,c,e,a,h=>by
  obtain⟨p,q,m,n,rfl⟩:=h;exact⟨p,q,Below.trod k (e t<|by simp).1 (e t<|by simp).2 m j λx g=>a x<|by simp[g],
   DY (ts:=ts) k j ts vs ds q (λl f=>e l<|by simp[f]) (λx g=>a x<|by simp[g]) n,rfl⟩
 | [],[],_::_,_,_,_,h=>h.elim
 | [],_::_,_,_,_,_,h=>h.elim
 | _::_,[],_,_,_,_,h=>h.elim
 | _::_,_::_,[],_,_,_,h=>h.elim
theorem aBR[aF]{T:List cQ}(hm:P.follows .mixedOrders=true)(hT:Checked P T)(I:aGj P T){vi f:Nat}{fn:Func}(E:aK T vi=some f){s:ChangeSpec}(b:s.vars=[]){tb:TypeId}(Q:fn.resultTypes=#[tb])(B:P.underlying tb=some .bool)(Y:laidOutB P=true)(N:∀t∈fn.params.toList,P.readableRec t=true/\t<P.types.size)(R:fn.params.toList.all (okT P n)=true)(J:∀y,Vo P n fn.params.toList y->∃k H',fH P T k 0 vi y []=some (.lit<|.bool true,H')){o:Nat}{a:Array Value}{ds u:List<|DataW H}{g:List MemPlace}{l c:Bool}(M:vD<|top W)(r:(s.fn H<|ds++u).results=[.lit<|.bool true]/\(s.fn H<|ds++u).args=ds/\(s.fn H<|ds++u).vars=[])(A:∀(j:Nat) t v,fn.params[j]?=some t->a[j]?=some v->Value.okWide P W .any o t v)(V:DataW.Whole enc P fn.params.toList s.vars false W a.toList ds u g)(D:∀n∈DataW.weightsEach P fn.params.toList ds,n<=reachBytes):
 Calls P f a W λe X=>∃v,e=.returned v/\s.post enc P fn false l c false W a v X:=by
 have z:=V;obtain⟨p,q,U,O,rfl,a2,a1⟩:=V;let⟨y,g1,Z,g3⟩:=aG9 (FT:=aK T) (n:=n) fn.params.toList a.toList ds p (λj t v e1 e2=>A j t v (by simpa using e1)<|by simpa using e2) R U D;let⟨k,H',he⟩:=J y g1;have m:nF (aK T) (top W) y a:=⟨by simpa using Z.symm,λi x C=>by
  let⟨v,h1,h2⟩:=g3 i x C;exact⟨v,by simpa using h1,h2⟩⟩
 refine (aAK hm hT I k 0 vi f y _ H' (top W) a he E (aM6 _ W M) (ZG _) m).mono λe X hq=>?_;obtain⟨v,c',rfl,rfl,_,_,d,_,L⟩:=hq;have hv:v=.bool true:=L.lit_inv;subst hv;have S:Below W.heap.size W c'.w:=⟨d.os,d.tape,d.output,d.size,λi hi=>d.frame i hi λid h=>by cases h⟩;have K:u=[]/\q=[]:=by
  rw[b] at O;cases u with
  | nil=>exact⟨rfl,O⟩
  | cons _ _=>exact O.elim
 obtain⟨rfl,rfl⟩:=K;have F:∀x∈p,x.block<W.heap.size:=λx C=>z.lt x (by simpa using C);have G:=DY (ts:=[]) Y S fn.params.toList a.toList ds p N F U;refine⟨_,rfl,ds,[],p++[],[],p,[],z,?_,?_,?_,S.frame _,λh=>by cases h⟩
 .rw[r.1,Q];exact⟨[],[],shut_bool B _,rfl,rfl⟩
 .rw[r.2.1];exact G
 .rw[b,r.2.2];rfl
end
end
section
open Go.RowKit
theorem U0{H:Type}{enc:TypeId×Value->H}{a:Assume}{C:Go.Checked}{os:Os}{f:FuncId}{fn:Func}{s:ChangeSpec}{n:List PathCond}{c m h l:Bool}{X:World->Array Value->Prop}(M:∀(w w':World) (b:Array Value),w.heap=w'.heap->X w b->X w' b)(E:ownKnob C.prog.godebug=none)(p:os.Started)(q:C.prog.inits.idxOf? f=none)(D:C.prog.funcs[f]?=some fn)(o:∃(w:World) (d:Tape) (i:Input),w.os=os/\(w.forCall d i).Shaped C.prog/\i.vars=[]/\Input.okWide C.prog (w.forCall d i) .any w.heap.size f i /\
  ((s.pre enc C.prog fn n c (w.forCall d i).memory i.args/\X (w.forCall d i).memory i.args)/\sizedMet enc C.prog fn (OpenSpec.ofChange s) c (w.forCall d i).memory i.args)/\a.holds C.prog (lone (Frame.enter C.prog f i.args .normal) []<|w.forCall d i))(k:∀(W:World) (x:Nat) (b:Array Value) (ds z:List<|DataW H) (g:List MemPlace),
  (∀(j:Nat) t v,fn.params[j]?=some t->b[j]?=some v->Value.okWide C.prog W .any x t v)->
  DataW.Whole enc C.prog fn.params.toList s.vars c W b.toList ds z g->X W b->W.ShapedOpen C.prog->(DataW.weightsEach C.prog (fn.params.toList++s.plain.varTypes C.prog)<|ds++z).all (·<=reachBytes)=true->
  Calls C.prog f b W λe J=>∃v,e=.returned v/\s.post enc C.prog fn c m h l W b v J):
 ReturnsInHanded a C os f .any (λw b=>(s.pre enc C.prog fn n c w b/\X w b)/\sizedMet enc C.prog fn (OpenSpec.ofChange s) c w b)<|s.post enc C.prog fn c m h l:=by
 refine returnsInHanded_of_calls E p q o ?_;intro w d i _ G _ A y _;let⟨_,_,_,B,u,_,_,_,_,r⟩:=A;have e:B=fn:=ZR<|u.symm.trans D;subst e;let⟨⟨⟨ds,z,g,I,_⟩,N⟩,K⟩:=y;have F:=DataW.Whole.of_heap (w':=w.forCall d i) (by rfl) I;refine (k (w.forCall d i) w.heap.size i.args ds z g r F (M _ _ _ (by rfl) N) G<|K.weights I).mono λe J ⟨v,he,L⟩=>?_;subst he;exact ChangeSpec.post_blind L
def aV4: DataW Unit->List Value
 | .lit (.int k z)=>[.int k z]
 | _=>[]
def aHy: DataW Unit->List Value
 | .agg ps=>ps.flatMap aV4
 | _=>[]
def aPh: DataW Unit->List Value
 | .agg ps=>ps.flatMap aHy
 | _=>[]
variable {P:Program}{base:Nat}{cs:List Value}{enc:TypeId×Value->Unit}{f0 f1 f2:Field}{held:Bool}{ka kb kc:IntKind}{sp:Nat->Bool}{t ta tb tc:TypeId}{w:World}{x:DataW Unit×List MemPlace}
section
theorem aHY{e:Nat}(E:P.underlying t=some (.struct #[f0,f1,f2]))(G:P.cellsOf t=3)(B:f0.type=ta)(F:f1.type=tb)(A:f2.type=tc)(z:f0.offset=0)(u:f1.offset=1)(s:f2.offset=2)(K:P.underlying ta=some (.int ka))(Q:P.underlying tb=some (.int kb))(H:P.underlying tc=some (.int kc))(C:P.cellsOf ta=1)(O:P.cellsOf tb=1)(cc:P.cellsOf tc=1)(h:DataW.trod enc P w base sp held e t cs=some x): cs=aHy x.1:=by
 obtain⟨J,n,_,rfl,k,i,d⟩:=W8 E h;rw[G] at k;match cs,k with
 | [a,b,c],_=>
  match J,i with
  | [S,T,R],_=>
   have o:=d 0 f0 rfl;have l:=d 1 f1 rfl;have q:=d 2 f2 rfl;rw[B,z,C] at o;rw[F,u,O] at l;rw[A,s,cc] at q;let⟨r,M,I,_⟩:=X2 K o;let⟨y,N,L,_⟩:=X2 Q l;let⟨v,e2,D,_⟩:=X2 H q;have f:a=.int ka r:=by simpa using M
   have j:b=.int kb y:=by simpa using N
   have g:c=.int kc v:=by simpa using e2
   subst f j g I L D;rfl
theorem aEX[aF]{b m:Nat}{e:TypeId}(C:P.underlying t=some (.array m e))(g:P.cellsOf t=m*3)(r:P.underlying e=some (.struct #[f0,f1,f2]))(p:P.cellsOf e=3)(z:f0.type=ta)(B:f1.type=tb)(F:f2.type=tc)(v:f0.offset=0)(I:f1.offset=1)(s:f2.offset=2)(H:P.underlying ta=some (.int ka))(u:P.underlying tb=some (.int kb))(E:P.underlying tc=some (.int kc))(A:P.cellsOf ta=1)(J:P.cellsOf tb=1)(cc:P.cellsOf tc=1)(h:DataW.trod enc P w base sp held b t cs=some x): cs=aPh x.1:=by
 obtain⟨f,n,_,rfl,D,G,j⟩:=DataW.trod_array C h;have o:=KA 3 m 0 cs (by rw[D,g];omega);rw[YD] at o;have k:∀i,i<m->∃y,f[i]?=some y/\(cs.drop<|0+i*3).take 3=aHy y.1:=by
  intro i a;have c:=j i a;rw[p] at c;have d:f[i]?=some f[i]:=Zb (by omega);rw[d] at c;refine⟨_,d,?_⟩;rw[Z0];exact aHY r p z B F v I s H u E A J cc c
 rw[o];show _=(f.map (·.1)).flatMap aHy;rw[List.flatMap_def,Ya];congr 1;apply Ym;intro i;rw[Zk,Zk];rcases ZI i m with a | a
 .let⟨y,c,d⟩:=k i a;rw[YY a,c];simp only[Yz,Function.comp];rw[d]
 .rw[Zy<|by simpa using a,Zy<|by omega];rfl
end
end
section
def pv[aF](P:Program)(T:List cQ)(n vi:Nat)(args:List AV): Option AV:=
 match fH P T n 0 vi args [] with
 | some (r,H')=>some<|fF H' 0 r
 | none=>none
def aFI[aF](F:cQ): Option (cU×St)->Option (AV×aU)
 | some (.normal,st)=>match nD st F.rets with
  | some vs=>some (kO vs,st.heap)
  | none=>none
 | some (.ret,st)=>match nD st F.rets with
  | some vs=>some (kO vs,st.heap)
  | none=>none
 | _=>none
variable {H:aU}{P:Program}{cf:Nat->Nat->List AV->aU->Option (AV×aU)}{fl lf:Nat}{st:St}{t:TypeId}
theorem K8[aF]{T:List cQ}{n vi:Nat}{a:List AV}(F:cQ)(h:getF T vi=some F):
 fH P T (n+1) fl vi a H=aFI F (eS P (fH P T n) n fl F.body ⟨a++List.replicate (F.nt-a.length) (.lit bM),H⟩):=by
 have b:aF.prim vi=none:=by
  unfold getF at h;split at h
  .cases h
  .assumption
 have c:T[vi]?=some F:=by simpa only[getF,b] using h
 simp only[fH,b,c,aFI];split<;>split<;>simp_all
section
end
theorem aQt(a b:Int): aQ P (Builtin.max_ #[] 0 #[.int .i64 a,.int .i64 b])=some (.int .i64<|if a<b then b else a):=by
 by_cases h:a<b<;>simp[Builtin.max_,Builtin.max2,h]<;>rfl
theorem aQs(a b:ByteArray): aQ P (binOp .eql t (.string a)<|.string b)=some (.bool<|a.toList==b.toList):=rfl
theorem aQr(a b:ByteArray): aQ P (binOp .neq t (.string a)<|.string b)=some (.bool<|!(a.toList==b.toList)):=rfl
theorem aOX{c:BinOp}(x y:Operand)(a b:ByteArray): aQ P (eqGuard c t x y (.string a)<|.string b)=some ():=by cases c<;>rfl
theorem KC{id s bytes tot:Nat}{es ys:List<|List AV}(a:H[id]?=some (.blk s es))(c:es.length=tot)(f:fA s ys=true)(k:0<s)(l:mT ys.length bytes=true)(e:mT (tot+ys.length) bytes=true)(d:fl<=id):
 cP fl H s bytes (.ms id tot 0 tot) ys=some (.ms id (tot+ys.length) 0<|tot+ys.length,H.set id<|.blk s<|es++ys):=by
 have g:id<H.length:=by
  rcases ZI id H.length with h | h
  .exact h
  .rw[Zy h] at a;cases a
 unfold cP;simp only[f,k,l,a,c,e,d,Y7,Zz];by_cases j:ys.length=0
 .have:ys=[]:=ZK.1 j;subst this;simp only[Z1,Xm,Wo,Zz,Za,Zi,We];apply Ym;intro i;rw[Z5];split
  .rename_i m;subst m;first | exact a | (rw[Zu g];exact a)
  .rfl
 .simp only[j,Z9]
end
def aU6: List Prop->Prop
 | []=>True
 | p::r=>p/\aU6 r
structure Orc where
 O:List (Nat×AV×Option aU)
 B:List (Nat×Bool)
def dD{α:Type}(t:Nat): List (Nat×α)->Option α
 | []=>none
 | (u,a)::r=>match Nat.beq u t with | true=>some a | false=>dD t r
section
variable (P:Program)(cf:Nat->Nat->List AV->aU->Option (AV×aU))(fl:Nat)
variable (o:Orc)
end
section
abbrev iv(n:Int): AV:=.lit (.int .i64 n)
abbrev bv(b:Bool): AV:=.lit (.bool b)
abbrev sv(s:ByteArray): AV:=.lit (.string s)
def bnd{α β:Type}(x:Option α)(f:α->Option β): Option β:=match x with
 | some a=>f a
 | none=>none
variable {H:aU}{P:Program}{a b:ByteArray}{α:Type}{c:α->List AV}{cf:Nat->Nat->List AV->aU->Option (AV×aU)}{f:Bool}{fl:Nat}{hi i:Int}{id k:Nat}{l l':List α}{lo:Int}{m:List α}{n:Nat}{r:Bool}{s:Nat}{t:TypeId}{w:AV}{x:α}{y z:AV}{β:Type}
theorem bD{x:Option α}{f:α->Option β}{r:β}(h:bnd x f=some r): ∃a,x=some a/\f a=some r:=by
 cases x with
 | none=>cases h
 | some a=>exact⟨a,rfl,h⟩
def bnd2{α β γ:Type}(x:Option<|α⊕β)(f:α->Option γ)(g:β->Option γ): Option γ:=match x with
 | some (.inl a)=>f a
 | some (.inr b)=>g b
 | none=>none
theorem aIT{γ:Type}{x:Option<|α⊕β}{f:α->Option γ}{g:β->Option γ}{r:γ}(h:bnd2 x f g=some r): (∃a,x=some (.inl a)/\f a=some r)\/(∃a,x=some (.inr a)/\g a=some r):=by
 match x,h with
 | some (.inl a),h=>exact .inl ⟨a,rfl,h⟩
 | some (.inr a),h=>exact .inr ⟨a,rfl,h⟩
def cnd{α:Type}(b:Bool)(x y:α): α:=match b with
 | true=>x
 | false=>y
theorem aQo[aF]{T:List cQ}{vi:Nat}{a:List AV}{r b:AV}{H':aU}(h:fH P T n 0 vi a []=some (r,H'))(c:fF H' 0 r=b): pv P T n vi a=some b:=by
 unfold pv;rw[h,<-c]
def uF(a b:Int): Int:=if a<b then b else a
def Gc(a b:Int): Int:=if b<a then b else a
theorem aGx(a b:ByteArray): (a.toList==b.toList)=decide (a=b):=by
 by_cases h:a=b
 .subst h;simp
 .rw[YI h];simp only[X5,Ww];intro e;apply h;simp only[ByteArray.toList_eq] at e;exact ByteArray.ext<|Array.toList_inj.1 e
section
theorem aIR[aF](h:decide (a=b)=r): aO P cf fl (.bin .eql t (.tmp 0)<|.tmp 1) [sv a,sv b] H=some (bv r,H):=by
 simp only[aO,aH,Zt,ZL,lits,wJ,Zz,aOX,aQs,aGx,h]
theorem aIQ[aF](h:decide (a=b)=r): aO P cf fl (.bin .neq t (.tmp 0)<|.tmp 1) [sv a,sv b] H=some (bv<|!r,H):=by
 simp only[aO,aH,Zt,ZL,lits,wJ,Zz,aOX,aQr,aGx,h]
end
def idx{α:Type}(l:List α)(i:Int): Option α:=if 0<=i then l[i.toNat]? else none
theorem bL(l:List α)(i:Nat): idx l (i:Int)=l[i]?:=by simp[idx]
theorem qS(h:idx l i=some x): 0<=i/\l[i.toNat]?=some x/\i.toNat<l.length:=by
 unfold idx at h;split at h
 .rename_i b;refine⟨b,h,?_⟩;rcases ZI i.toNat l.length with a | a
  .exact a
  .rw[Zy a] at h;cases h
 .cases h
section
def iL{α:Type}(l:List α)(k:Nat)(i:Int): Option α:=if 0<=i/\i.toNat<k then l[i.toNat]? else none
theorem aI7(h:iL l k i=some x): 0<=i/\i.toNat<k/\l[i.toNat]?=some x/\i.toNat<l.length:=by
 unfold iL at h;split at h
 .rename_i b;refine⟨b.1,b.2,h,?_⟩;rcases ZI i.toNat l.length with a | a
  .exact a
  .rw[Zy a] at h;cases h
 .cases h
def app{α:Type}(l m:List α): Option<|List α:=if l.length+m.length<=1000000 then some (l++m) else none
theorem Vk(h:app l m=some l'): l'=l++m/\l.length+m.length<=1000000:=by
 unfold app at h;split at h
 .cases h;exact⟨rfl,by assumption⟩
 .cases h
theorem O7(h:l.length+m.length<=1000000): app l m=some (l++m):=by simp[app,h]
def Nq(b:Bool): Option Unit:=match b with
 | true=>some ()
 | false=>none
theorem Ag{b:Bool}{u:Unit}(h:Nq b=some u): b=true:=by cases b<;>first | rfl | cases h
def prd(n:Nat): Option Nat:=match n with
 | 0=>none
 | k+1=>some k
theorem aKe(h:prd n=some k): n=k+1:=by
 cases n with
 | zero=>cases h
 | succ n=>cases h;rfl
def cut{α:Type}(l:List α)(lo hi:Int): Option<|List α:=if 0<=lo/\lo<=hi/\hi<=l.length then some ((l.take hi.toNat).drop lo.toNat) else none
section
theorem aKs[aF]{a b:Int}: aO P cf fl (.minmax true [.tmp 0,.tmp 1]) [iv a,iv b] H=some (iv<|uF a b,H):=by
 simp[aO,aH,Hr,aQt,uF]
theorem aQy[aF]{a b:Int}: aO P cf fl (.minmax false [.tmp 0,.tmp 1]) [iv a,iv b] H=some (iv<|Gc a b,H):=by
 have:aQ P (Builtin.min_ #[] 0 #[.int .i64 a,.int .i64 b])=some (.int .i64<|if b<a then b else a):=by
  by_cases h:b<a<;>simp[Builtin.min_,Builtin.min2,h]<;>rfl
 simp[aO,aH,Hr,this,Gc]
end
end
end
section
variable {H:aU}{K:Type}{P:Program}{V:Type}{cf:Nat->Nat->List AV->aU->Option (AV×aU)}{fl id:Nat}{k:K}{kt:TypeId}{kv:K->Value}{m:List (K×V)}{va:V->AV}{x:AV}
section
variable [DecidableEq K]
def bQ(m:List<|K×V)(k:K): Option V:=match m with
 | []=>none
 | (k',v)::r=>if k'=k then some v else bQ r k
def dX(m:List<|K×V)(k:K)(v:V): List<|K×V:=match m with
 | []=>[(k,v)]
 | (k',v')::r=>if k'=k then (k,v)::r else (k',v')::dX r k v
theorem lG[aF](k k':K)(v:V): ∀m:List<|K×V,bQ (dX m k v) k'=if k=k' then some v else bQ m k'
 | []=>by simp[dX,bQ]
 | (a,b)::r=>by
  simp only[dX];split
  .rename_i h;subst h;simp only[bQ];split<;>rfl
  .rename_i h;simp only[bQ,lG k k' v r];split
   .rename_i c;subst c;rw[ZF λd=>h d.symm]
   .rfl
structure Q3(P:Program)(kt:TypeId)(kv:K->Value): Prop where
 find:∀(k:K) (ks:List K),kQ P kt (kv k) (ks.map λx=>(kv x,AV.undef))=some (ks.findIdx? λx=>decide (x=k))
 chk:∀(e:Bool) (k:K),aQ P (Instr.checkKey e 10000 kt (kv k))=some ()
 same:∀k:K,Instr.sameBits 10000 (kv k) (kv k)=true
theorem aFH{k:Value}{c e2:List<|Value×AV}(h:c.map (·.1)=e2.map (·.1)): kQ P kt k c=kQ P kt k e2:=by
 unfold kQ;have:(c.map λe=>({ key:=e.1,val:=.bool false,born:=0 }:MapEntry))=e2.map λe=>{ key:=e.1,val:=.bool false,born:=0 }:=by
  have e:∀l:List<|Value×AV,(l.map λe=>({ key:=e.1,val:=.bool false,born:=0 }:MapEntry))=(l.map (·.1)).map λk=>{ key:=k,val:=.bool false,born:=0 }:=λl=>by simp
  rw[e,e,h]
 rw[this]
theorem G6[aF](k:K): ∀m:List<|K×V,(bQ m k=none/\m.findIdx? (λp=>decide<|p.1=k)=none)\/∃i v,bQ m k=some v/\m.findIdx? (λp=>decide<|p.1=k)=some i/\m[i]?=some (k,v)
 | []=>.inl ⟨rfl,rfl⟩
 | (a,b)::r=>by
  simp only[bQ,XC];by_cases h:a=k
  .subst h;exact .inr ⟨0,b,by simp,by simp,rfl⟩
  .rw[ZF h,YI h];simp only[Zn,Z9];rcases G6 k r with⟨d,e⟩ | ⟨i,v,d,e,f⟩
   .exact .inl ⟨d,by simp[e]⟩
   .exact .inr ⟨i+1,v,d,by simp[e],by simpa using f⟩
theorem aDD[aF](k:K)(v:V): ∀m:List<|K×V,dX m k v=match m.findIdx? (λp=>decide<|p.1=k) with | some i=>m.set i (k,v) | none=>m++[(k,v)]
 | []=>rfl
 | (a,b)::r=>by
  simp only[dX,XC];by_cases h:a=k
  .subst h;simp
  .rw[ZF h,YI h,aDD k v r];simp only[Zn,Z9];cases r.findIdx? λp=>decide (p.1=k) with
   | none=>simp
   | some i=>simp
end
theorem VX[aF](k:Int): ∀(c:List Int) (i:Nat),Instr.findNow (.int .i64) (.int .i64 k) (c.map λx=>{ key:=.int .i64 x,val:=.bool false,born:=0 }) i=some ((c.findIdx? λx=>decide<|x=k).map λj=>(i+j,.bool false))
 | [],i=>rfl
 | x::r,i=>by
  simp only[ZE,Instr.findNow,Instr.sameNow,Zz,XC];by_cases h:x=k
  .subst h;simp
  .have g:(k==x)=false:=by simpa using λe=>h e.symm
   rw[YI h,g];simp only[Zn,Z9,VX k r<|i+1];cases r.findIdx? λx=>decide (x=k) with
   | none=>rfl
   | some j=>simp;omega
theorem aNM[aF](b:aQ P (underlying kt)=some (.int .i64)): Q3 P kt (λk:Int=>.int .i64 k) where
 find:=λk g=>by
  unfold kQ;simp only[Instr.findKey,bX,b,Z2,Ya,W7,VX,cJ];cases g.findIdx? λx=>decide (x=k) with
  | none=>rfl
  | some j=>simp
 chk:=λe k=>by
  rw[Instr.checkKey];simp only[bX,b,Z2];rfl
 same:=λk=>by simp[Instr.sameBits]
end
end Go.Proofs.YtmlgedgcbfchjaaGreatDoor.Av
