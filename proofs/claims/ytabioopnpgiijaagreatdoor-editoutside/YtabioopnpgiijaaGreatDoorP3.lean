/- A part of the proof of a law. -/
import Derived.Test.YtabioopnpgiijaaGreatDoorP2
import Derived.Scope
import Derived.Control
import Derived.WalkKit
import Derived.ProofKit
import Derived.OpenShut
import Derived.SizedLaws
import Derived.Handed
set_option maxRecDepth 100000
set_option maxHeartbeats 4000000
set_option linter.all false
namespace Go.Proofs.YtabioopnpgiijaaGreatDoor.Av
open Go
section
variable {P:Program}{Q:Exit->Act->World->Prop}{T:List cQ}{a:Act}{c:dH}{cf:Nat->Nat->List AV->aY->Option (AV×aY)}{fl:Nat}{o:Oper}{ops:Array Oper}{tm:List AV}
section
theorem TR.put{FT:Nat->Option Nat}{d:Option Nat}{x:AV}{v:Value}(h:TR FT c tm a.tmps)(j:RV FT c x v): TR FT c (iM tm d x) (a.put d v).tmps:=by
 cases d with
 | none=>exact h
 | some d=>
  simp only[iM,Act.put];refine⟨by simpa using h.1,λt y e=>?_⟩;rw[Z5] at e;split at e
  .rename_i b;subst b;split at e
   .rename_i f;cases e;exact⟨v,by simp[<-h.1,f],j⟩
   .cases e
  .rename_i b;let⟨u,g,i⟩:=h.2 t y e;exact⟨u,by rw[YB b];exact g,i⟩
theorem iW(a:Act)(d:Option Nat)(v:Value): (a.put d v).defers=a.defers:=by cases d<;>rfl
theorem Vo[aH]{g:Option<|Nat×Bool}{b:Bool}(h:TR (aL T) c tm a.tmps)(e:Pj ops g o.guard=true)(d:eY tm g=some b):
 Region.wanted o (yielded ops a.tmps)=b:=by
 unfold Region.wanted;cases g with
 | none=>
  cases k:o.guard with
  | none=>
   simp only[eY,Za] at d;exact d
  | some q=>rw[k] at e;simp[Pj] at e
 | some q=>
  let⟨t,A⟩:=q;cases k:o.guard with
  | none=>rw[k] at e;simp[Pj] at e
  | some q=>
   let⟨j,C⟩:=q;rw[k] at e;simp only[Pj,Zd,ZC] at e;let⟨rfl,e⟩:=e;split at e
   .rename_i p s;have B:p.dst=some t:=by simpa using e
    simp only[eY] at d;have z:yielded ops a.tmps j=match a.tmps[t]? with | some (.bool b)=>some b | _=>none:=by
     unfold yielded;simp only[s,Z2,B];cases a.tmps[t]? with
     | none=>rfl
     | some v=>cases v<;>rfl
    simp only[z];simp only[aI] at d;cases i:tm[t]? with
    | none=>
     rw[i] at d;simp only[bL] at d;have y:a.tmps[t]?=none:=by
      rw[Array.getElem?_eq_none_iff,<-h.1];simpa using i
     rw[y];cases d;rfl
    | some x=>
     rw[i] at d;let⟨v,w,r⟩:=h.2 t x i;rw[w];simp only at d;split at d
     .rename_i n;rw[r.lit_inv];cases d;cases n<;>cases A<;>rfl
     .rename_i u l;rw[r.lit_inv];cases d;split
      .rename_i n m;cases m;exact (l n rfl).elim
      .rfl
     .cases d
   .cases e
theorem kV[aH](j:Au P T cf)(k:oQ P T){i:Nat}{ao:bR}{st':St}{K:Act->World->Prop}(n:bY (aL T) c)(d:TR (aL T) c tm a.tmps)(g:fl<=c.H.length)(u:ops[i]?=some o)(e:Cr P T ops ao o=true)(b:cR P cf fl ao ⟨tm,c.H⟩=some st')(l:∀a' c',c'.H=st'.heap->bV fl c c'->bY (aL T) c'->TR (aL T) c' st'.tmps a'.tmps->a'.defers=a.defers->(∃x v,st'.tmps=iM tm o.dst x/\a'=a.put o.dst v/\RV (aL T) c' x v)->K a' c'.w):
 wpOp P ops Q i K a c.w:=by
 simp only[Cr,Zd,ZC] at e;let⟨⟨r,q⟩,h⟩:=e;unfold wpOp;rw[u];simp only;unfold cR at b;rw[r] at b;split at b
 .rename_i f;rw[Vo d q f];simp only[Zz];split at b
  .rename_i v H he;cases b;left;refine aEt j k n d g h he K Q ?_;intro cv c' t m s p;exact l _ c' t m s ((d.step m).put p) (iW _ _ _) ⟨v,cv,rfl,rfl,p⟩
  .cases b
 .rename_i f;rw[Vo d q f];simp only[Zn,Z9];cases b;exact l _ c rfl (bV.refl _ _) n (d.put<|RV.lit _) (iW _ _ _) ⟨_,_,rfl,rfl,RV.lit _⟩
 .cases b
theorem Be[aH](h:Au P T cf)(l:oQ P T): ∀(aops:List bR) (os:List Oper) (k:Nat) (c:dH) (a:Act) (tm:List AV) (st':St),
 Ae P T ops aops os=true->(∀j o,os[j]?=some o->ops[k+j]?=some o)->bY (aL T) c->TR (aL T) c tm a.tmps->fl<=c.H.length->jF P cf fl aops ⟨tm,c.H⟩=some st'->
 (∀a' c',c'.H=st'.heap->bV fl c c'->bY (aL T) c'->TR (aL T) c' st'.tmps a'.tmps->a'.defers=a.defers->Q .normal a' c'.w)->wpOps P ops Q (List.range' k aops.length) a c.w
 | [],[],k,c,a,tm,st',_,_,s,f,_,d,n=>by
  simp only[jF,Za] at d;subst d;exact n a c rfl (bV.refl _ _) s f rfl
 | ao::r,o::os,k,c,a,tm,st',b,e,s,f,i,d,n=>by
  simp only[Ae,Zd] at b;simp only[jF] at d;split at d
  .rename_i g x;simp only[Yc,List.range'_succ,Y3];refine kV h l s f i (e 0 o<|by simp) b.1 x ?_;intro a' c' t e2 y u z _;have:(⟨g.tmps,c'.H⟩:St)=g:=by rw[t]
   refine Be h l r os (k+1) c' a' g.tmps st' b.2 (λj p B=>?_) y u (ZB i e2.len) (by rw[this];exact d) ?_
   .have:=e (j+1) p (by simpa using B);rwa [show k+(j+1)=k+1+j by omega] at this
   .intro q m f1 f2 A v C;exact n q m f1 (e2.trans f2) A v<|C.trans z
  .cases d
 | [],_::_,_,_,_,_,_,b,_,_,_,_,_,_=>by cases b
 | _::_,[],_,_,_,_,_,b,_,_,_,_,_,_=>by cases b
end
end
section
variable {P:Program}{T:List cQ}{cf:Nat->Nat->List AV->aY->Option (AV×aY)}{fl:Nat}
theorem a7[aH]{t:Nat}: ∀{a:List bB},bB.tmp t∈a->t∈Mj a
 | x::r,h=>by
  rcases ZN.1 h with e | b
  .subst e;simp[Mj]
  .have c:=a7 b;cases x<;>simp[Mj,c]
theorem aAm[aH]{tm a:List AV}{b:List bB}(h:∀t∈Mj b,tm[t]?=a[t]?): ∀x∈b,aI tm x=aI a x:=by
 intro x d;cases x with
 | tmp t=>simp only[aI,h t<|a7 d]
 | _=>rfl
theorem pM[aH]{tm a:List AV}{x:Option bB}(h:∀y∈aDV x,aI tm y=aI a y): eE tm x=eE a x:=by
 cases x with
 | none=>rfl
 | some y=>simp only[eE,h y<|by simp[aDV]]
theorem aEv[aH]{tm a:List AV}{H:aY}{k:Hq}(h:∀x∈vH k,aI tm x=aI a x): aM P cf fl k tm H=aM P cf fl k a H:=by
 cases k with
 | build z c=>
  have e:(c.map λ(p:Nat×Nat×bB)=>(p.1,p.2.1,aI tm p.2.2))=c.map λ(p:Nat×Nat×bB)=>(p.1,p.2.1,aI a p.2.2):=by
   apply ZS;intro p B;rw[h p.2.2<|by simp only[vH,Yh];exact⟨p,B,rfl⟩]
  simp only[aM];have w:(c.map λ(o,s,x)=>(o,s,aI tm x))=c.map λ(o,s,x)=>(o,s,aI a x):=e;rw[w]
 | buildSl pu s n z c=>
  have w:(c.map λ(i,x)=>(i,aI tm x))=c.map λ(i,x)=>(i,aI a x):=by
   apply ZS;intro p B;show (p.1,aI tm p.2)=(p.1,aI a p.2);rw[h p.2<|by simp only[vH,Yh];exact⟨p,B,rfl⟩]
  simp only[aM];rw[w]
 | slice s x F l mx=>
  simp only[vH] at h;simp only[aM];rw[h x<|by simp,pM λy b=>h y<|by simp[b],pM (x:=l) λy b=>h y<|by simp[b],pM (x:=mx) λy b=>h y<|by simp[b]]
 | strSlice t x F l=>
  simp only[vH] at h;simp only[aM];rw[h x<|by simp,pM λy b=>h y<|by simp[b],pM (x:=l) λy b=>h y<|by simp[b]]
 | minmax mx d=>
  simp only[vH] at h;simp only[aM];rw[ZS h]
 | mkFn vi d=>
  simp only[vH] at h;simp only[aM];rw[ZS h]
 | call pu vi d=>
  simp only[vH] at h;simp only[aM];rw[ZS h]
 | callF vi d=>
  simp only[vH] at h;simp only[aM];rw[ZS h]
 | callT s vi d=>
  simp only[vH] at h;simp only[aM];rw[ZS h]
 | callB vi d=>
  simp only[vH] at h;simp only[aM];rw[ZS h]
 | callS vi d=>
  simp only[vH] at h;simp only[aM];rw[ZS h]
 | callv pu x d=>
  simp only[vH] at h;simp only[aM];rw[h x<|by simp,ZS λy b=>h y<|by simp[b]]
 | _=>
  simp only[vH,ZN,List.not_mem_nil,or_false,forall_eq_or_imp,forall_eq,false_imp_iff,implies_true] at h;simp[aM,h]
theorem aBh[aH]{tm a:List AV}{g:Option<|Nat×Bool}(h:∀t b,g=some (t,b)->tm[t]?=a[t]?): eY tm g=eY a g:=by
 cases g with
 | none=>rfl
 | some q=>
  let⟨t,b⟩:=q;simp only[eY,aI,h t b rfl]
theorem HC[aH]{tm c:List AV}{H:aY}{o:bR}{st':St}(h:∀t∈AG o,tm[t]?=c[t]?)(a:cR P cf fl o ⟨c,H⟩=some st'):
 ∃x,st'.tmps=iM c o.dst x/\cR P cf fl o ⟨tm,H⟩=some ⟨iM tm o.dst x,st'.heap⟩:=by
 have f:eY tm o.guard=eY c o.guard:=aBh λt b e=>h t (by simp[AG,e]);have g:aM P cf fl o.op tm H=aM P cf fl o.op c H:=aEv<|aAm λt d=>h t (by
  unfold AG;split
  .simp[d]
  .exact d)
 unfold cR at a |-;simp only[f,g] at a |-;split at a
 .split at a
  .rename_i v H1 he;cases a;exact⟨v,rfl,rfl⟩
  .cases a
 .cases a;exact⟨_,rfl,rfl⟩
 .cases a
theorem n9[aH]{tm:List AV}{H H':aY}{f:Hq}{v:AV}(b:kB f=true)(a:aM P cf fl f tm H=some (v,H')): H'=H:=by
 cases f with
 | call pu vi h=>
  simp only[kB] at b;subst b;simp only[aM,Ct] at a;split at a<;>split at a<;>cases a<;>rfl
 | callv pu x h=>
  simp only[kB] at b;subst b;simp only[aM,Ct] at a;split at a
  .split at a<;>split at a<;>cases a<;>rfl
  .cases a
 | buildSl pu s n z i=>
  simp only[kB] at b;subst b;simp only[aM,Zz] at a;split at a<;>cases a;rfl
 | lookup kt z m k ok=>
  simp only[aM] at a;split at a
  .split at a
   .split at a
    .split at a<;>cases a;rfl
    .cases a;rfl
    .cases a
   .split at a
    .split at a
     .split at a<;>cases a;rfl
     .cases a;rfl
     .cases a
    .cases a
   .split at a
    .split at a<;>cases a;rfl
    .cases a;rfl
    .cases a
   .cases a
  .cases a
 | _=>
  first
  | (simp[kB] at b;done)
  | (simp only[aM] at a;(repeat' split at a)<;>first | (cases a;rfl) | cases a)
theorem HB[aH]{st st':St}{o:bR}(b:kB o.op=true)(a:cR P cf fl o st=some st'): st'.heap=st.heap:=by
 unfold cR at a;split at a
 .split at a
  .rename_i v H he;cases a;exact n9 b he
  .cases a
 .cases a;rfl
 .cases a
theorem aBm[aH]: ∀(aops:List bR) (st st':St),jF P cf fl aops st=some st'->
 ∃S:Nat->St,S 0=st/\S aops.length=st'/\∀k ao,aops[k]?=some ao->cR P cf fl ao (S k)=some (S<|k+1)
 | [],st,st',h=>by
  simp only[jF,Za] at h;exact⟨λ_=>st,rfl,h,λk ao a=>by simp at a⟩
 | o::r,st,st',h=>by
  simp only[jF] at h;split at h
  .rename_i b e;let⟨S,c,e2,d⟩:=aBm r b st' h;refine⟨λk=>match k with | 0=>st | k+1=>S k,rfl,by simpa using e2,λk ao a=>?_⟩;cases k with
   | zero=>
    simp only[Zt,Za] at a;subst a;rw[e,<-c]
   | succ k=>
    simp only[ZL] at a;exact d k ao a
  .cases h
def IK(aops:List bR)(k:Nat): Option Nat:=match aops[k]? with | some o=>o.dst | none=>none
def kD(aops:List bR)(tm:List AV)(val:Nat->AV)(D:Nat->Bool): Nat->List AV
 | 0=>tm
 | n+1=>if D n then iM (kD aops tm val D n) (IK aops n) (val n) else kD aops tm val D n
theorem PD(tm:List AV)(d:Option Nat)(x:AV): (iM tm d x).length=tm.length:=by cases d<;>simp[iM]
theorem fG[aH]{aops:List bR}{tm:List AV}{val:Nat->AV}{D:Nat->Bool}: ∀n,(kD aops tm val D n).length=tm.length
 | 0=>rfl
 | n+1=>by
  simp only[kD];split
  .rw[PD,fG n]
  .exact fG n
theorem xY{tm:List AV}{d:Option Nat}{x:AV}{t:Nat}: (iM tm d x)[t]?=if d=some t then (if t<tm.length then some x else none) else tm[t]?:=by
 cases d with
 | none=>simp[iM]
 | some d=>
  simp only[iM,Z5,Za];by_cases e:d=t
  .subst e;rfl
  .simp[e]
theorem Ok[aH]{aops:List bR}{tm:List AV}{val:Nat->AV}{D D':Nat->Bool}{t:Nat}: ∀n,(∀j,j<n->IK aops j=some t->D j=D' j)->(kD aops tm val D n)[t]?=(kD aops tm val D' n)[t]?
 | 0,_=>rfl
 | n+1,h=>by
  have d:=Ok (val:=val) (tm:=tm) n λj e b=>h j (by omega) b;simp only[kD];by_cases b:IK aops n=some t
  .rw[h n (by omega) b];split
   .simp only[xY,b,Zz,fG]
   .exact d
  .have c:∀l:List AV,(iM l (IK aops n)<|val n)[t]?=l[t]?:=λl=>by rw[xY,ZF b]
   split<;>split<;>(try simp only[c])<;>exact d
theorem PO[aH]{aops:List bR}{tm:List AV}{val:Nat->AV}{D D':Nat->Bool}: ∀n,(∀j,j<n->D j=D' j)->kD aops tm val D n=kD aops tm val D' n
 | 0,_=>rfl
 | n+1,h=>by
  simp only[kD,h n<|by omega,PO n λj a=>h j<|by omega]
theorem m8[aH]{aops:List bR}{tm:List AV}{val:Nat->AV}{D:Nat->Bool}{t k:Nat}(f:D k=true)(d:IK aops k=some t): ∀n,k<n->(∀j,k<j->j<n->IK aops j=some t->D j=false)->
 (kD aops tm val D n)[t]?=if t<tm.length then some (val k) else none
 | 0,h,_=>by omega
 | n+1,l,h=>by
  simp only[kD];by_cases e:k=n
  .subst e;rw[Zu f,xY,Zu d,fG]
  .have c:=m8 (tm:=tm) (val:=val) f d n (by omega) λj g m i=>h j g (by omega) i;by_cases b:IK aops n=some t
   .rw[h n (by omega) (by omega) b];simpa using c
   .split
    .rw[xY,ZF b];exact c
    .exact c
theorem Qu[aH]{aops:List bR}{tm:List AV}{val:Nat->AV}{S:Nat->St}(b:(S 0).tmps=tm)(a:∀k ao,aops[k]?=some ao->(S<|k+1).tmps=iM (S k).tmps ao.dst (val k)):
 ∀n,n<=aops.length->kD aops tm val (λ_=>true) n=(S n).tmps
 | 0,_=>b.symm
 | n+1,h=>by
  have c:n<aops.length:=by omega
  simp only[kD,Zz,Qu b a n<|by omega];rw[a n aops[n]<|by simp];simp[IK,c]
theorem Oj[aH]{aops:List bR}{tm:List AV}{val:Nat->AV}{D:Nat->Bool}{k:Nat}: ∀n,k<=n->(∀j,k<=j->j<n->D j=false)->kD aops tm val D n=kD aops tm val D k
 | 0,h,_=>by have:k=0:=(by omega);rw[this]
 | n+1,h,b=>by
  by_cases e:k=n+1
  .rw[e]
  .simp only[kD,b n (by omega)<|by omega];simpa using Oj n (by omega) λj c d=>b j c<|by omega
theorem GN[aH]{aops:List bR}{tm:List AV}{val:Nat->AV}{S:Nat->St}{D:Nat->Bool}{k n:Nat}(c:(S 0).tmps=tm)(a:∀k ao,aops[k]?=some ao->(S<|k+1).tmps=iM (S k).tmps ao.dst (val k))(d:k<=n)(f:n<=aops.length)(e:∀j,j<k->D j=true)(b:∀j,k<=j->j<n->D j=false): kD aops tm val D n=(S k).tmps:=by
 rw[Oj n d b,PO (D':=λ_=>true) k e];exact Qu c a k<|by omega
theorem M7[aH]{a:List Nat}{i:Nat}: ∀{ds:List Nat},(FO a ds).testBit i=true->∃d∈ds,i=d\/(a.getD d 0).testBit i=true
 | [],h=>by simp[FO] at h
 | d::r,h=>by
  simp only[FO,Nat.testBit_or,YU] at h;rcases h with (h | h) | h
  .have:d=i:=by simpa [Nat.testBit_two_pow] using h
   exact⟨d,by simp,.inl this.symm⟩
  .exact⟨d,by simp,.inr h⟩
  .let⟨e,c,b⟩:=M7 h;exact⟨e,by simp[c],b⟩
def aKq(ops:List Oper)(k:Nat): List Nat:=match ops[k]? with
 | some o=>(o.after.toList.filter λe=>Region.binds .any e&&decide (e.on<k)).map λ(e:Edge)=>e.on
 | none=>[]
theorem Q8[aH]{ops:List Oper}: ∀(n:Nat) (a:List Nat),(∃L,xA ops n a=a++L/\L.length=n) /\
 ∀k,a.length<=k->k<a.length+n->(xA ops n a).getD k 0=FO ((xA ops n a).take k) (aKq ops k)
 | 0,a=>⟨⟨[],by simp[xA],rfl⟩,λk c d=>by omega⟩
 | n+1,a=>by
  let⟨⟨L,c,d⟩,h⟩:=Q8 (ops:=ops) n<|a++[FO a<|aKq ops a.length];have e:xA ops (n+1) a=xA ops n (a++[FO a<|aKq ops a.length]):=rfl;rw[e];refine⟨⟨FO a (aKq ops a.length)::L,by rw[c];simp,by simp[d]⟩,λk i f=>?_⟩;by_cases g:k=a.length
  .subst g;rw[c];simp[YS]
  .exact h k (by simp;omega)<|by simp;omega
theorem aDa[aH]{ops:List Oper}{k i:Nat}(g:k<ops.length)(h:((xA ops ops.length []).getD k 0).testBit i=true):
 ∃o,ops[k]?=some o/\∃e∈o.after,Region.binds .any e=true/\e.on<k/\(i=e.on\/((xA ops ops.length []).getD e.on 0).testBit i=true):=by
 let⟨_,j⟩:=Q8 (ops:=ops) ops.length [];rw[j k (by simp)<|by simpa using g] at h;let⟨d,f,a⟩:=M7 h;unfold aKq at f;rw[Zb g] at f;simp only[Yh,List.mem_filter,Zd,Z4] at f;obtain⟨e,⟨he,l,b⟩,rfl⟩:=f;refine⟨ops[k],Zb g,e,by simpa using he,l,b,?_⟩;rcases a with a | a
 .exact .inl a
 .right;rw[<-a];congr 1;simp only[YS];rw[Zs,Zu b]
theorem gK[aH]{f:Nat}{aops:List bR}{an:List Nat}: ∀n,FN f aops an n=true->∀i j,i<j->j<n->(an.getD j 0).testBit i=true \/
 (((cA aops i=true\/cA aops j=true)\/(i=f/\j=f+1/\fJ aops i=true/\fJ aops j=true))/\∃x y,aops[i]?=some x/\aops[j]?=some y/\Uy x y=false/\Uy y x=false)
 | 0,_,i,j,_,h=>by omega
 | n+1,h,i,j,d,p=>by
  simp only[FN,Zd] at h;by_cases e:j=n
  .subst e;have:=Yl.1 h.2 i (by simpa using d);simp only[YU,Zd,ZC] at this;rcases this with a | ⟨a,c⟩
   .exact .inl a
   .right;refine⟨by rcases a with a | ⟨⟨⟨a,g⟩,k⟩,l⟩;exact .inl a;exact .inr ⟨a,g,k,l⟩,?_⟩;split at c
    .rename_i x y m o;simp only[Zd,YG] at c;exact⟨x,y,m,o,c.1,c.2⟩
    .cases c
  .exact gK n h.1 i j d<|by omega
theorem OX{aops:List bR}{e:List<|Nat×Nat}{an:List Nat}{n k m:Nat}(h:aD7 aops e an n=true)(g:k<n)(f:m<n)(c:cA aops k=true)(d:cA aops m=false):
 jJ aops k=true\/(an.getD k 0).testBit m=true\/(an.getD m 0).testBit k=true\/(k,m)∈e:=by
 have b:=Yl.1 h k (by simpa using g);simp only[YU,c,Xg,Zn,or_false] at b;rcases b with b | b
 .exact .inl b
 .have a:=Yl.1 b m (by simpa using f);simp only[YU,d,Zn,false_or] at a;rcases a with (a | a) | a
  .exact .inr<|.inl a
  .exact .inr<|.inr<|.inl a
  .exact .inr<|.inr<|.inr<|by simpa using a
theorem HD[aH]{tm:List AV}{H H':aY}{c:Hq}{v:AV}{H1:aY}(d:xF c=true)(a:aM P cf fl c tm H=some (v,H1)): aM P cf fl c tm H'=some (v,H'):=by
 cases c with
 | buildSl pu s n z e=>
  simp only[xF] at d;subst d;simp only[aM,Zz] at a |-;split at a<;>cases a;rfl
 | _=>
  first
  | (simp[xF] at d;done)
  | (simp only[aM] at a |-;(repeat' split at a)<;>first | (cases a;rfl) | (cases a;simp_all) | cases a)
theorem G1{H H':aY}{x:AV}{n:Nat}(h:∀id,PL x=some id->H'[id]?=H[id]?): eD H' x n=eD H x n:=by
 cases x<;>try rfl
 rename_i id tot a off;simp only[eD,h id rfl]
theorem S7{H H':aY}{s:Nat}{x:AV}{a b mx:Option Nat}(h:∀id,PL x=some id->H'[id]?=H[id]?): gP H' s x a b mx=gP H s x a b mx:=by
 cases x with
 | ms id tot off len=>simp only[gP,h id rfl]
 | lit v=>unfold gP;split<;>rename_i d<;>first | rfl | cases d
 | _=>rfl
theorem OY{H H':aY}{x:AV}(h:Ir x=true): gF H 0 x=gF H' 0 x:=by
 cases x with
 | fn v caps=>cases caps<;>rfl
 | _=>first | rfl | (simp[Ir] at h)
theorem aB0[aH]{H H':aY}{x:AV}(h:sO x=true): eB H 0 x=eB H' 0 x:=by
 cases x with
 | agg cs=>
  simp only[sO] at h;simp only[eB];congr 1;exact ZS λy a=>OY<|AD h y a
 | _=>exact OY (H:=H) (H':=H')<|by simpa [sO] using h
theorem Bv[aH]{tm:List AV}{H H':aY}{l:Hq}{v:AV}{H1:aY}{r:Option Nat}(b:dM l tm=some r)(d:∀id,r=some id->H'[id]?=H[id]?)(a:aM P cf fl l tm H=some (v,H1)): aM P cf fl l tm H'=some (v,H'):=by
 cases l with
 | load agg n x=>
  simp only[dM,Za] at b;simp only[aM,G1 (H:=H) (H':=H') (x:=aI tm x) λid h=>d id<|by rw[<-b];exact h] at a |-;split at a
  .split at a
   .cases a;simp_all
   .split at a
    .cases a;simp_all
    .cases a
  .cases a
 | idxAddr s x i=>
  simp only[dM,Za] at b;simp only[aM] at a |-;split at a
  .split at a
   .split at a
    .split at a
     .cases a;simp_all
     .cases a
    .cases a
   .split at a
    .split at a
     .cases a;simp_all
     .cases a
    .cases a
   .rename_i id tot off len j;rw[d id<|by rw[<-b,j];rfl];split at a
    .split at a
     .cases a;simp_all
     .cases a
    .cases a
   .cases a
  .cases a
 | slice s x K G mx=>
  simp only[dM,Za] at b;simp only[aM,S7 (H:=H) (H':=H') (x:=aI tm x) λid h=>d id<|by rw[<-b];exact h] at a |-;split at a
  .split at a
   .cases a;simp_all
   .cases a
  .cases a
 | lookup kt z m k ok=>
  simp only[dM,Za] at b;simp only[aM] at a |-;split at a
  .rename_i J E;split at a
   .rename_i w;split at a
    .split at a<;>cases a;simp_all
    .cases a;simp_all
    .cases a
   .rename_i id w;rw[d id<|by rw[<-b,w];rfl];split at a
    .rename_i C D;split at a
     .split at a<;>cases a;simp_all
     .cases a;simp_all
     .cases a
    .cases a
   .rename_i w;split at a
    .split at a<;>cases a;simp_all
    .cases a;simp_all
    .cases a
   .cases a
  .cases a
 | lenM x=>
  simp only[dM,Za] at b;simp only[aM] at a |-;split at a
  .cases a;simp_all
  .rename_i id j;rw[d id<|by rw[<-b,j];rfl];split at a
   .cases a;simp_all
   .cases a
  .cases a;simp_all
  .cases a
 | call pu vi c=>
  cases pu with
  | false=>simp[dM] at b
  | true=>
   simp only[dM] at b;split at b
   .rename_i f;simp only[aM,Ct,f] at a |-;split at a<;>cases a;simp_all
   .cases b
 | callB vi c=>
  simp only[dM] at b;split at b
  .rename_i x;have e:cJ H' (aI tm x)=cJ H (aI tm x):=by
    split at b<;>first | (rename_i h;rw[h];rfl) | cases b
   simp only[aM,ZE,Yn,e] at a |-;split at a<;>cases a;simp_all
  .cases b
 | callS vi c=>
  simp only[dM] at b;split at b
  .rename_i f;have e:(c.map<|aI tm).map (eB H' 0)=(c.map<|aI tm).map (eB H 0):=ZS λy F=>aB0<|Iq f y F;simp only[aM,e] at a |-;split at a
   .rename_i r I he;split at a
    .rename_i d;cases a;simp[he,d]
    .cases a
   .cases a
  .cases b
 | callv pu x c=>
  cases pu with
  | false=>simp[dM] at b
  | true=>
   simp only[dM] at b;split at b
   .rename_i vi caps j;split at b
    .rename_i f;simp only[aM,j,Ct,f] at a |-;split at a<;>cases a;simp_all
    .cases b
   .cases b
 | _=>simp[dM] at b
theorem d9{s:Nat}{H H':aY}{r:AV}{q:Option<|AV×aY}(h:Ul s H q=some (r,H')): ∃o,H'=H++[o]:=by
 unfold Ul at h;repeat' split at h
 all_goals first
  | (cases h;done)
  | (cases h;exact⟨_,rfl⟩)
theorem aE9{a b:Nat}(h:Nat.blt a b=true): a<b:=Zj h
theorem wT[aH]{H:aY}{L:List dL}{id:Nat}(h:Nat.blt id H.length=true): (H++L)[id]?=H[id]?:=Zo<|aE9 h
theorem GF{H:aY}{o:dL}{i id:Nat}(h:(!Nat.beq i id)=true): (H.set i o)[id]?=H[id]?:=by
 have:i≠id:=by
  intro e;subst e;simp at h
 rw[Zv this]
theorem I8[aH]{H H':aY}{s bytes id:Nat}{x r:AV}{ys:List<|List AV}(b:(match x with | .ms i _ _ _=>!Nat.beq i id | _=>Nat.blt id H.length)=true)(a:cP fl H s bytes x ys=some (r,H')): H'[id]?=H[id]?:=by
 unfold cP at a;split at a
 .split at a
  .split at a<;>cases a
   .rfl
   .exact wT b
  .split at a
   .cases a;rfl
   .split at a<;>cases a;exact wT b
  .split at a
   .split at a
    .split at a
     .cases a;rfl
     .split at a
      .split at a
       .cases a;exact GF b
       .split at a
        .cases a;exact GF b
        .cases a
      .cases a
    .cases a
   .cases a
  .cases a
 .cases a
def An(cf:Nat->Nat->List AV->aY->Option (AV×aY)): Prop:=∀fl n vi args H r H',(fl<=n/\n<=H.length)->cf fl vi args H=some (r,H')->H'.take fl=H.take fl/\n<=H'.length
theorem aEu[aH](B:An cf){tm:List AV}{H H':aY}{A:Hq}{v:AV}{id:Nat}(e:pN A tm H.length id=true)(a:aM P cf fl A tm H=some (v,H')): H'[id]?=H[id]?:=by
 cases A with
 | alloc z=>simp only[aM] at a;cases a;exact wT e
 | claim s=>simp only[aM] at a;cases a;exact wT e
 | allocC z M=>simp only[aM] at a;cases a;rw[Ye];exact wT e
 | box x=>
  simp only[aM] at a;split at a<;>cases a;exact wT e
 | buildSl pu s n z L=>
  simp only[aM] at a;split at a
  .split at a<;>cases a
   .rfl
   .exact wT e
  .cases a
 | mkSlice s z b l c=>
  simp only[aM] at a;split at a
  .split at a<;>cases a;exact wT e
  .cases a
 | mkMap=>simp only[aM] at a;cases a;exact wT e
 | callT s vi f=>
  simp only[aM] at a;obtain⟨o,rfl⟩:=d9 a;exact Zo<|aE9 e
 | callF vi f=>
  simp only[aM] at a;let⟨F,G⟩:=B _ _ _ _ _ _ _ ⟨Zf _,Zf _⟩ a;have j:=aE9 e;have:(H'.take H.length)[id]?=(H.take H.length)[id]?:=by rw[F]
  rw[Zs,Zs,Zu j,Zu j] at this;exact this
 | store n x u=>
  simp only[pN] at e;simp only[aM] at a;split at a
  .split at a
   .split at a
    .rename_i N d;cases a;unfold wO at d;split at d
     .rename_i i tot J off K;rw[K] at e;split at d
      .split at d
       .split at d
        .split at d
         .split at d<;>cases d;exact GF e
         .cases d
        .cases d
       .cases d
      .cases d
     .cases d
    .cases a
   .cases a
  .cases a
 | append s b x y=>
  simp only[pN] at e;simp only[aM] at a;split at a
  .exact I8 e a
  .cases a
 | mapUpd kt m k x=>
  simp only[pN] at e;simp only[aM] at a;split at a
  .rename_i O i F G;rw[G] at e;split at a
   .split at a
    .split at a
     .split at a
      .split at a<;>cases a;exact GF e
      .cases a
     .cases a;exact GF e
     .cases a
    .cases a
   .cases a
  .cases a
 | _=>simp[pN] at e
theorem Ph{x y:bR}{d:Nat}(h:Uy x y=false)(a:x.dst=some d): d∉AG y/\y.dst≠some d:=by
 unfold Uy at h;rw[a] at h;simp only[WU,X5,Ww] at h;refine⟨λb=>?_,h.2⟩;have:(AG y).contains d=true:=by simpa using b
 rw[this] at h;cases h.1
def Fr(fl n:Nat)(H H':aY): Prop:=H'.take fl=H.take fl/\n<=H'.length
theorem Fr.refl{n:Nat}{H:aY}(h:fl<=n/\n<=H.length): Fr fl n H H:=⟨rfl,h.2⟩
theorem Fr.go{n m:Nat}{H H':aY}(h:fl<=n/\n<=m)(k:Fr fl n H H'): fl<=n/\n<=H'.length:=⟨h.1,k.2⟩
theorem Fr.trans{n:Nat}{a b c:aY}(h:Fr fl n a b)(k:Fr fl n b c): Fr fl n a c:=⟨k.1.trans h.1,k.2⟩
theorem Fr.app{n:Nat}{H L:aY}(h:fl<=n/\n<=H.length): Fr fl n H<|H++L:=⟨Yg<|ZB h.1 h.2,by simp;omega⟩
theorem Fr.set{n:Nat}{H:aY}{i:Nat}{o:dL}(h:fl<=n/\n<=H.length)(a:fl<=i): Fr fl n H<|H.set i o:=⟨X6 a,by simpa using h.2⟩
theorem y8[aH]{m:Nat}{H H':aY}{s bytes:Nat}{x r:AV}{ys:List<|List AV}(h:fl<=m/\m<=H.length)(a:cP fl H s bytes x ys=some (r,H')): Fr fl m H H':=by
 unfold cP at a;split at a
 .split at a
  .split at a<;>cases a
   .exact .refl h
   .exact .app h
  .split at a
   .cases a;exact .refl h
   .split at a<;>cases a;exact .app h
  .split at a
   .split at a
    .split at a
     .cases a;exact .refl h
     .split at a
      .rename_i b;split at a
       .cases a;exact .set h b
       .split at a
        .cases a;exact .set h b
        .cases a
      .cases a
    .cases a
   .cases a
  .cases a
 .cases a
theorem aA0[aH](g:An cf){m:Nat}{tm:List AV}{H H':aY}{J:Hq}{v:AV}(h:fl<=m/\m<=H.length)(a:aM P cf fl J tm H=some (v,H')): Fr fl m H H':=by
 by_cases w:kB J=true
 .rw[n9 w a];exact .refl h
 .cases J with
  | alloc z=>simp only[aM] at a;cases a;exact .app h
  | claim s=>simp only[aM] at a;cases a;exact .app h
  | allocC z T=>simp only[aM] at a;cases a;rw[Ye];exact .app h
  | box x=>simp only[aM] at a;split at a<;>cases a;exact .app h
  | buildSl pu s n z U=>
   simp only[aM] at a;split at a
   .split at a<;>cases a
    .exact .refl h
    .exact .app h
   .cases a
  | mkSlice s z b l c=>
   simp only[aM] at a;split at a
   .split at a<;>cases a;exact .app h
   .cases a
  | mkMap=>simp only[aM] at a;cases a;exact .app h
  | rangeStr x=>simp only[aM] at a;split at a<;>cases a;exact .app h
  | nextStr x=>
   simp only[aM] at a;split at a
   .split at a
    .rename_i e;split at a
     .split at a<;>cases a
      .exact .set h e
      .exact .refl h
     .cases a
    .cases a
   .cases a
  | store n x u=>
   simp only[aM] at a;split at a
   .split at a
    .split at a
     .rename_i V d;cases a;unfold wO at d;split at d
      .split at d
       .rename_i e;split at d
        .split at d
         .split at d
          .split at d<;>cases d;exact .set h e
          .cases d
         .cases d
        .cases d
       .cases d
      .cases d
     .cases a
    .cases a
   .cases a
  | append s b x y=>
   simp only[aM] at a;split at a
   .exact y8 h a
   .cases a
  | appendZ s b z x n=>
   simp only[aM] at a;split at a
   .split at a
    .exact y8 h a
    .cases a
   .cases a
  | mapUpd kt m k x=>
   simp only[aM] at a;split at a
   .split at a
    .rename_i e;split at a
     .split at a
      .split at a
       .split at a<;>cases a;exact .set h e
       .cases a
      .cases a;exact .set h e
      .cases a
     .cases a
    .cases a
   .cases a
  | delete kt m k=>
   simp only[aM] at a;split at a
   .split at a
    .rename_i e;split at a
     .split at a
      .cases a;exact .set h e
      .cases a;exact .refl h
      .cases a
     .cases a
    .cases a
   .cases a
  | copy s x y=>
   simp only[aM] at a;split at a
   .split at a
    .split at a
     .split at a
      .split at a
       .rename_i e;split at a<;>cases a
        .exact .refl h
        .exact .set h e.2.2.2
       .cases a
      .cases a
     .cases a
    .cases a
   .cases a
  | clear s z x=>
   simp only[aM] at a;split at a
   .cases a;exact .refl h
   .cases a;exact .refl h
   .split at a
    .split at a
     .rename_i e;split at a<;>cases a
      .exact .refl h
      .exact .set h e.2.2.2.1
     .cases a
    .cases a
   .cases a
  | loadF n k x=>
   simp only[aM] at a;split at a
   .split at a
    .split at a
     .rename_i e;split at a
      .split at a<;>cases a;exact .set h e
      .cases a
     .cases a
    .cases a;exact .refl h
    .cases a
   .cases a
  | freeze x=>
   simp only[aM] at a;split at a
   .split at a
    .rename_i e;split at a
     .split at a<;>cases a;exact .set h e
     .cases a
    .cases a
   .split at a
    .rename_i e;split at a
     .split at a
      .split at a<;>cases a;exact .set h e
      .cases a
     .cases a
    .cases a
   .cases a;exact .refl h
  | call pu vi f=>
   cases pu with
   | true=>simp[kB] at w
   | false=>exact g _ _ _ _ _ _ _ h a
  | callv pu x f=>
   cases pu with
   | true=>simp[kB] at w
   | false=>
    simp only[aM] at a;split at a
    .exact g _ _ _ _ _ _ _ h a
    .cases a
  | callT s vi f=>
   simp only[aM] at a;obtain⟨o,rfl⟩:=d9 a;exact .app h
  | callF vi f=>
   simp only[aM] at a;let⟨Q,R⟩:=g _ _ _ _ _ _ _ ⟨Zf _,Zf _⟩ a;refine⟨?_,ZB h.2 R⟩;have:(H'.take H.length).take fl=(H.take H.length).take fl:=by rw[Q]
   rwa [Y9,Y9,Yq<|ZB h.1 h.2] at this
  | _=>simp[kB] at w
theorem O9[aH](b:An cf){m:Nat}{o:bR}{st st':St}(h:fl<=m/\m<=st.heap.length)(a:cR P cf fl o st=some st'): Fr fl m st.heap st'.heap:=by
 unfold cR at a;split at a
 .split at a
  .rename_i v H he;cases a;exact aA0 b h he
  .cases a
 .cases a;exact .refl h
 .cases a
end
section
variable {D:Nat->Bool}{N:Nat}{P:Program}{Q:Exit->Act->World->Prop}{T:List cQ}{a:Array Bool}{an:List Nat}{aops:List bR}{c:dH}{cf:Nat->Nat->List AV->aY->Option (AV×aY)}{ck:List<|Nat×Nat}{fl i id k n:Nat}{ops:Array Oper}{st st':St}{tm:List AV}
section
theorem Je[aH]: ∀{aops:List bR} {os:List Oper},Ae P T ops aops os=true->aops.length=os.length/\∀(k:Nat) (o:Oper),os[k]?=some o->∃ao,aops[k]?=some ao/\Cr P T ops ao o=true
 | [],[],_=>⟨rfl,λk o h=>by simp at h⟩
 | a::r,o::s,h=>by
  simp only[Ae,Zd] at h;let⟨b,c⟩:=Je h.2;grind
 | [],_::_,h=>by cases h
 | _::_,[],h=>by cases h
theorem x8[aH]{ops:List Oper}: ∀{n:Nat},x9 ops n=true->∀k o,k<n->ops[k]?=some o->∀e∈o.after,Region.binds .any e=true->e.on<k
 | 0,_,k,_,h,_,_,_,_=>by omega
 | n+1,h,k,o,c,d,e,he,f=>by
  simp only[x9,Zd] at h;by_cases g:k=n
  .grind
  .exact x8 h.1 k o (by omega) d e he f
def unl(N:Nat)(listed:Array Bool): Nat:=((List.range N).filter λi=>!listed.getD i true).length
theorem aOu(f:k<N)(h:a.getD k true=false)(d:a.size=N): unl N (a.setIfInBounds k true)<unl N a:=by
 unfold unl;have e:((List.range N).filter λi=>!(a.setIfInBounds k true).getD i true)=(((List.range N).filter λi=>!a.getD i true).filter λi=>decide<|i≠k):=by
  rw[List.filter_filter];apply List.filter_congr;intro i g;by_cases c:i=k
  .simp_all
  .rw[getD_set_ne true λe=>c e.symm];simp[c]
 rw[e];refine List.length_filter_lt_length_iff_exists.2 ⟨k,?_,by simp⟩;grind
theorem wU(b:k<a.size): a.getD k true=a.getD k false:=by grind
def iH(aops:List bR)(D:Nat->Bool): Nat->Nat
 | 0=>0
 | n+1=>if D n&&!cA aops n then n+1 else iH aops D n
theorem uE[aH]{D':Nat->Bool}: ∀n,(∀j,j<n->cA aops j=false->D j=D' j)->iH aops D n=iH aops D' n
 | 0,_=>rfl
 | n+1,h=>by
  have b:=uE n λj a=>h j (by omega);simp only[iH];grind
theorem oK[aH]: ∀n,k<=n->(∀j,k<=j->j<n->cA aops j=false->D j=false)->iH aops D n=iH aops D k
 | 0,h,_=>by have:k=0:=(by omega);rw[this]
 | n+1,h,b=>by
  by_cases e:k=n+1
  .rw[e]
  .have f:=oK n (by omega) λj c d=>b j c (by omega);simp only[iH];grind
theorem aCd[aH]: ∀n,iH aops D n<=n
 | 0=>Zf _
 | n+1=>by
  simp only[iH];split
  .grind
  .exact Xl<|aCd n
theorem aCe[aH]{p:Nat}: ∀n,iH aops D n=p+1->p<n/\D p=true/\cA aops p=false
 | 0,h=>by cases h
 | n+1,h=>by
  simp only[iH] at h;split at h
  .grind
  .let⟨b,a⟩:=aCe n h;exact⟨by omega,a⟩
theorem aCf[aH]{m:Nat}: ∀n,m<n->D m=true->cA aops m=false->m+1<=iH aops D n
 | 0,h,_,_=>by omega
 | n+1,h,c,b=>by
  simp only[iH];split
  .omega
  .rename_i d;by_cases e:m=n
   .grind
   .exact aCf n (by omega) c b
theorem Ji(h:fJ aops k=true): ∃d z,aops[k]?=some ⟨some d,.alloc z,none⟩:=by
 unfold fJ at h;split at h
 .rename_i o f;split at h
  .rename_i c;split at h
   .rename_i g;split at h
    .rename_i b;let⟨a,e,guard⟩:=o;grind
    .cases h
   .cases h
  .cases h
 .cases h
def zAt(aops:List bR)(k:Nat): List Value:=match aops[k]? with
 | some ⟨_,.alloc z,_⟩=>z
 | _=>[]
def aPd(aops:List bR)(S:Nat->St)(sw:Nat): aY:=(S sw).heap++[.blk (zAt aops sw).length [],.blk (zAt aops<|sw+1).length [(zAt aops<|sw+1).map .lit]]
def It(D:Nat->Bool)(sw:Nat): Bool:=D (sw+1)&&!D sw
def hpH(aops:List bR)(S:Nat->St)(sw N:Nat)(D:Nat->Bool): aY:=if It D sw=true then aPd aops S sw else (S<|iH aops D N).heap
theorem aAK[aH]{a:Act}{d:Nat}{z:List Value}{o:Oper}{K:Act->World->Prop}(y:bY (aL T) c)(h:TR (aL T) c tm a.tmps)(R:ops[i]?=some o)(b:Cr P T ops ⟨some d,.alloc z,none⟩ o=true)(f:c.H[id]?=some (.blk z.length []))(n:fl<=id)(I:∀a' c',c'.H=c.H.set id (.blk z.length [z.map .lit])->bV fl c c'->bY (aL T) c'->TR (aL T) c' (iM tm (some d)<|.ptr id 1 0 0) a'.tmps->a'.defers=a.defers->K a' c'.w):
 wpOp P ops Q i K a c.w:=by
 simp only[Cr,Zd,ZC] at b;let⟨⟨J,O⟩,g⟩:=b;unfold wpOp;rw[R];simp only;have C:=Vo h O rfl;rw[C];left;simp only[cU] at g;split at g
 .rename_i t G;let⟨S,v,m,M,L,q⟩:=iP g;have k:(execOp a.eval o).run P c.w=.ok (.value<|.pointer<|some ⟨c.w.heap.size,0,none⟩) (c.w.alloc<|.cells z.toArray t (0,0)):=by
   have e:=L.symm;rw[e];simp[execOp,G,Instr.alloc,zeroValue,typeInfo,m,M,newVar,newRow]
  have p:=El (es':=[z.map AV.lit]) (w':=c.w.alloc<|.cells z.toArray t (0,0)) y n f (by simp) rfl rfl rfl rfl;have l:bY (aL T) ⟨c.w.alloc<|.cells z.toArray t (0,0),c.X,upd c.β id c.w.heap.size,c.H.set id<|.blk z.length [z.map AV.lit]⟩:=by
   refine EN y f (by simp) rfl rfl rfl rfl (by intro e he;simp at he;subst he;simp) (by simp) ?_;intro i j x F;obtain⟨rfl,s⟩:=Q6 F;simp only[Zk,Zq] at s;obtain⟨u,A,rfl⟩:=s;exact⟨u,by simpa using A,q u<|Zg A,RV.lit _⟩
  refine (eM (v:=.ptr id 1 0 0) k p l ?_) _ _ ?_
  .refine .ptr id 1 0 0 _ z.length 1 ?_ (Zf _) λ_=>⟨c.w.heap.size,eC _ _ _,by simp⟩;rw[tQ f];simp
  .intro cv c' N B D E;rw[<-J];exact I _ c' N B D ((h.step B).put E)<|iW _ _ _
 .grind
structure aSO[aH](P:Program)(T:List cQ)(fl N sw:Nat)(aops:List bR)(an:List Nat)(tm:List AV)(val:Nat->AV)(S:Nat->St)(c0:dH)(ds:List Deferred)(listed:Array Bool)(a:Act)(c:dH): Prop where
 size:listed.size=N
 sim:bY (aL T) c
 step:bV fl c0 c
 defers:a.defers=ds
 closed:∀i j,j<N->listed.getD j false=true->(an.getD j 0).testBit i=true->listed.getD i false=true
 tr:TR (aL T) c (kD aops tm val (λj=>listed.getD j false) N) a.tmps
 heap:c.H=hpH aops S sw N (λj=>listed.getD j false)
theorem UR[aH]: ∀(n i:Nat),xM aops an n i=aops.length\/(fJ aops (xM aops an n i)=true/\fJ aops (xM aops an n i+1)=true)
 | 0,_=>.inl rfl
 | n+1,i=>by
  simp only[xM];split
  .grind
  .exact UR n<|i+1
theorem aBo[aH](a:aops.length=N): xM aops an n i+1<N->fJ aops (xM aops an n i)=true/\fJ aops (xM aops an n i+1)=true:=by
 intro h;rcases UR (aops:=aops) (an:=an) n i with e | e
 .omega
 .exact e
theorem aD8{a:Nat}{b:List<|Nat×Nat}(h:S5 a aops b an n=true): a+1<n->∀k,k<n->cA aops k=true->jJ aops k=true\/(an.getD k 0).testBit a=true\/(k,a)∈b:=by
 intro e k d c;simp only[S5] at h;grind
theorem aHO[aH](hcf:Au P T cf)(hfn:oQ P T){sw:Nat}{c0:dH}{ds:List Deferred}{val:Nat->AV}{S:Nat->St}(hchk:Ae P T ops aops ops.toList=true)(hord:FN sw aops (xA ops.toList ops.size []) ops.size=true)(hstab:aD7 aops ck (xA ops.toList ops.size []) ops.size=true)(hback:x9 ops.toList ops.size=true)(h0:S 0=⟨tm,c0.H⟩)(hS:∀k ao,aops[k]?=some ao->cR P cf fl ao (S k)=some (S<|k+1))(hval:∀k ao,aops[k]?=some ao->(S<|k+1).tmps=iM (S k).tmps ao.dst (val k))(hck:∀k m,(k,m)∈ck->∀ao,aops[k]?=some ao->eY (S k).tmps ao.guard=some false\/dM ao.op (S k).tmps=some none\/∃id,dM ao.op (S k).tmps=some (some id)/\(S<|m+1).heap[id]?=(S m).heap[id]?)(hsw:sw+1<ops.size->fJ aops sw=true/\fJ aops (sw+1)=true)(hstab2:sw+1<ops.size->∀k,k<ops.size->cA aops k=true->jJ aops k=true\/((xA ops.toList ops.size []).getD k 0).testBit sw=true\/(k,sw)∈ck)(hfo:An cf)(hfl:fl<=c0.H.length)(hQ:∀a' c',c'.H=(S ops.size).heap->bV fl c0 c'->bY (aL T) c'->TR (aL T) c' (S ops.size).tmps a'.tmps->a'.defers=ds->Q .normal a' c'.w):
 ∀(fuel:Nat) (listed:Array Bool) (a:Act) (c:dH),unl ops.size listed<=fuel->aSO P T fl ops.size sw aops (xA ops.toList ops.size []) tm val S c0 ds listed a c->wpAny P .any ops Q fuel listed a c.w:=by
 let⟨hlen,hget⟩:=Je hchk
 have hlen':aops.length=ops.size:=by simpa using hlen
 have hquiet:∀k,k<ops.size->cA aops k=true->(S<|k+1).heap=(S k).heap:=by
  intro k hk hq
  have hao:aops[k]?=some (aops[k]'(by omega)):=by simp
  simp only[cA,hao] at hq
  exact HB hq<|hS k _ hao
 have hheapA:∀k,k<=ops.size->(S<|iH aops (λ_=>true) k).heap=(S k).heap:=by
  intro k
  induction k with
  | zero=>intro _;rfl
  | succ k ih=>
   intro hk
   simp only[iH,Wv]
   cases hq:cA aops k with
   | false=>rfl
   | true=>grind
 have hkeep:∀(id a b:Nat),a<=b->b<=ops.size->(∀m,a<=m->m<b->cA aops m=false->(S<|m+1).heap[id]?=(S m).heap[id]?)->(S b).heap[id]?=(S a).heap[id]?:=by
  intro id a b
  induction b with
  | zero=>grind
  | succ b ih=>
   intro h1 h2 h3
   by_cases e:a=b+1
   .rw[e]
   .have h4:(S<|b+1).heap[id]?=(S b).heap[id]?:=by
     cases hq:cA aops b with
     | true=>grind
     | false=>grind
    rw[h4]
    exact ih (by omega) (by omega) λm g1 g2=>h3 m g1<|by omega
 have h0t:(S 0).tmps=tm:=by rw[h0]
 have hlenS:∀k,k<=ops.size->fl<=(S k).heap.length:=by
  intro k
  induction k with
  | zero=>grind
  | succ k ih=>
   intro hk
   exact (O9 hfo ⟨Zf _,ih<|by omega⟩<|hS k (aops[k]'(by omega))<|by simp).2
 have done:∀(listed:Array Bool) (a:Act) (c:dH),(∀j,j<ops.size->listed.getD j false=true)->aSO P T fl ops.size sw aops (xA ops.toList ops.size []) tm val S c0 ds listed a c->Q .normal a c.w:=by
  intro listed a c hall hI
  have hfold:kD aops tm val (λj=>listed.getD j false) ops.size=(S ops.size).tmps:=
   GN h0t hval (Zf _) (by omega) hall λj h1 h2=>by omega
  have hH:c.H=(S ops.size).heap:=by
   have hodd:It (λj=>listed.getD j false) sw=false:=by
    unfold It
    by_cases h:sw<ops.size
    .simp[hall sw h]
    .have:listed.getD (sw+1) false=false:=by
      rw[Yf,Yb<|by rw[hI.size];omega];rfl
     simp only[this,Bool.false_and]
   rw[hI.heap,hpH,ZF<|by rw[hodd];exact XF,uE (D':=λ_=>true) ops.size λj hj _=>hall j hj,hheapA _<|Zf _]
  refine hQ a c hH hI.step hI.sim ?_ hI.defers
  rw[<-hfold]
  exact hI.tr
 have noready:∀(listed:Array Bool),listed.size=ops.size->Region.ready .any ops listed=[]->∀j,j<ops.size->listed.getD j false=true:=by
  intro listed hsz hr j
  induction j using Nat.strongRecOn with
  | _ j ih=>
   intro hj
   cases hd:listed.getD j false with
   | true=>rfl
   | false=>
    exfalso
    have hmem:j∈Region.ready .any ops listed:=by
     rw[Vb]
     refine⟨by rw[wU<|by omega];exact hd,ops[j],by simp,λe he hb=>?_⟩
     have hlt:=x8 hback j ops[j] hj (by simp) e he hb
     exact ih e.on hlt<|by omega
    rw[hr] at hmem
    cases hmem
 intro fuel
 induction fuel with
 | zero=>
  intro listed a c hu hI
  have hall:∀j,j<ops.size->listed.getD j false=true:=by
   intro j hj
   cases hd:listed.getD j false with
   | true=>rfl
   | false=>
    exfalso
    have:j∈(List.range ops.size).filter λi=>!listed.getD i true:=by
     simp only[List.mem_filter,Ws,YG]
     exact⟨hj,by rw[wU<|by rw[hI.size];exact hj];exact hd⟩
    unfold unl at hu
    have h2:=YO<|Nat.le_zero.1 hu
    rw[h2] at this
    cases this
  refine⟨?_,done listed a c hall hI⟩
  cases hr:Region.ready .any ops listed with
  | nil=>rfl
  | cons i r=>
   exfalso
   have:i∈Region.ready .any ops listed:=by rw[hr];simp
   rw[Vb] at this
   let⟨h1,o,ho,_⟩:=this
   have hi:i<ops.size:=(Xa.1 ho).1
   rw[wU<|by rw[hI.size];exact hi,hall i hi] at h1
   cases h1
 | succ fuel ih=>
  intro listed a c hu hI
  refine⟨λhr=>done listed a c (noready listed hI.size hr) hI,λk hk=>?_⟩
  rw[Vb] at hk
  let⟨hk1,o,ho,hedges⟩:=hk
  have hkN:k<ops.size:=(Xa.1 ho).1
  have hkD:listed.getD k false=false:=by rw[<-wU<|by rw[hI.size];exact hkN];exact hk1
  let⟨ao,hao,hok⟩:=hget k o<|by simpa using ho
  have hol:ops.toList[k]?=some o:=by simpa using ho
  have hanc:∀i,((xA ops.toList ops.size []).getD k 0).testBit i=true->listed.getD i false=true:=by
   intro i hi
   have hi':((xA ops.toList ops.toList.length []).getD k 0).testBit i=true:=by simpa using hi
   let⟨o',ho',e,he,hb,hlt,hh⟩:=aDa (by simpa using hkN) hi'
   rw[hol] at ho'
   cases ho'
   have hde:=hedges e he hb
   rcases hh with rfl | hh
   .exact hde
   .exact hI.closed i e.on (by omega) hde<|by simpa using hh
  have later:∀j,k<j->j<ops.size->listed.getD j false=true->((cA aops k=true\/cA aops j=true)\/(k=sw/\j=sw+1/\fJ aops k=true/\fJ aops j=true))/\∃x y,aops[k]?=some x/\aops[j]?=some y/\Uy x y=false/\Uy y x=false:=by
   intro j hkj hj hD
   rcases gK _ hord k j hkj hj with h | h
   .have:=hI.closed k j hj hD h
    rw[hkD] at this;cases this
   .exact h
  have earlier:∀j,j<k->listed.getD j false=true\/(((cA aops j=true\/cA aops k=true)\/(j=sw/\k=sw+1/\fJ aops j=true/\fJ aops k=true))/\∃x y,aops[j]?=some x/\aops[k]?=some y/\Uy x y=false/\Uy y x=false):=by
   intro j hj
   rcases gK _ hord j k hj hkN with h | h
   .exact .inl<|hanc j h
   .exact .inr h
  have hdst:IK aops k=ao.dst:=by simp[IK,hao]
  have hlook:∀t∈AG ao,(kD aops tm val (λj=>listed.getD j false) ops.size)[t]?=(S k).tmps[t]?:=by
   intro t ht
   rw[<-GN (D:=λj=>decide<|j<k) (n:=ops.size) h0t hval (Nat.le_of_lt hkN) (by omega) (λj hj=>by simpa using hj) λj h1 _=>by simp;omega]
   apply Ok
   intro j hj hd
   by_cases hjk:j<k
   .have:decide (j<k)=true:=by simpa using hjk
    rw[this]
    rcases earlier j hjk with h | ⟨_,x,y,hx,hy,hc1,hc2⟩
    .exact h
    .exfalso
     rw[hao] at hy
     cases hy
     have hdx:x.dst=some t:=by simpa [IK,hx] using hd
     exact (Ph hc1 hdx).1 ht
   .have:decide (j<k)=false:=by simpa using hjk
    rw[this]
    by_cases ej:j=k
    .subst ej;exact hkD
    .cases hDj:listed.getD j false with
     | false=>rfl
     | true=>
      exfalso
      let⟨_,x,y,hx,hy,hc1,hc2⟩:=later j (by omega) hj hDj
      rw[hao] at hx
      cases hx
      have hdy:y.dst=some t:=by simpa [IK,hy] using hd
      exact (Ph hc2 hdy).1 ht
  have hset:∀j,(listed.setIfInBounds k true).getD j false=if j=k then true else listed.getD j false:=by
   intro j
   by_cases ej:j=k
   .subst ej
    simp[hI.size,hkN]
   .rw[getD_set_ne false λe=>ej e.symm,ZF ej]
  have ancLt:∀q m,q<ops.size->((xA ops.toList ops.size []).getD q 0).testBit m=true->m<q:=by
   intro q m
   induction q using Nat.strongRecOn with
   | _ q ihq=>
    intro hqN hqb
    have hqb':((xA ops.toList ops.toList.length []).getD q 0).testBit m=true:=by simpa using hqb
    let⟨o',ho',e,he,hb',hlt',hh⟩:=aDa (by simpa using hqN) hqb'
    rcases hh with rfl | hh
    .exact hlt'
    .have:=ihq e.on hlt' (by omega)<|by simpa using hh
     omega
  have fin:∀(x:AV) a' c',(S<|k+1).tmps=iM (S k).tmps ao.dst x->c'.H=hpH aops S sw ops.size (λj=>(listed.setIfInBounds k true).getD j false)->bV fl c c'->bY (aL T) c'->TR (aL T) c' (iM (kD aops tm val (λj=>listed.getD j false) ops.size) ao.dst x) a'.tmps->a'.defers=a.defers->wpAny P .any ops Q fuel (listed.setIfInBounds k true) a' c'.w:=by
   intro x a' c' hx1 e1 e2 e3 e4 e5
   refine ih (listed.setIfInBounds k true) a' c' (by have:=aOu hkN hk1 hI.size;omega) ?_
   refine⟨by simpa using hI.size,e3,hI.step.trans e2,e5.trans hI.defers,?_,?_,e1⟩
   .intro i j hj hD hb
    rw[hset] at hD |-
    split
    .rfl
    .by_cases ej:j=k
     .subst ej;exact hanc i hb
     .rw[ZF ej] at hD
      exact hI.closed i j hj hD hb
   .refine⟨by rw[fG,<-e4.1,PD,fG],λt y hy=>?_⟩
    refine e4.2 t y ?_
    rw[<-hy,xY]
    split
    .rename_i hd
     have hdk:IK aops k=some t:=by rw[hdst];exact hd
     rw[fG]
     rw[m8 (k:=k) (by simp[hset]) hdk ops.size hkN]
     .split
      .rename_i hlt
       congr 1
       have h1:(S<|k+1).tmps[t]?=some x:=by rw[hx1,xY,Zu hd,Zu<|by rw[<-Qu h0t hval k<|by omega,fG];exact hlt]
       have h2:(S<|k+1).tmps[t]?=some (val k):=by rw[hval k ao hao,xY,Zu hd,Zu<|by rw[<-Qu h0t hval k<|by omega,fG];exact hlt]
       rw[h1] at h2
       exact ZR h2
      .rfl
     .intro j h1 h2 h3
      rw[hset,ZF<|by omega]
      cases hDj:listed.getD j false with
      | false=>rfl
      | true=>
       exfalso
       let⟨_,x',y',hx',hy',hc1,hc2⟩:=later j h1 h2 hDj
       rw[hao] at hx'
       cases hx'
       have hdy:y'.dst=some t:=by simpa [IK,hy'] using h3
       exact (Ph hc1 hd).2 hdy
    .rename_i hd
     apply Ok
     intro j hj hdj
     rw[hset]
     by_cases ej:j=k
     .subst ej
      rw[hdst] at hdj
      exact (hd hdj).elim
     .rw[ZF ej]
  have byOp:∀c1:dH,c1.w=c.w->bV fl c c1->bY (aL T) c1->(∃st',cR P cf fl ao ⟨(S k).tmps,c1.H⟩=some st'/\st'.tmps=(S<|k+1).tmps/\st'.heap=hpH aops S sw ops.size (λj=>(listed.setIfInBounds k true).getD j false))->wpOp P ops Q k (λa' w'=>wpAny P .any ops Q fuel (listed.setIfInBounds k true) a' w') a c.w:=by
   intro c1 hw hst hs1 ⟨stk',hevk',hstt,hsth⟩
   let⟨x,hx1,hx2⟩:=HC (tm:=kD aops tm val (λj=>listed.getD j false) ops.size) hlook hevk'
   rw[hstt] at hx1
   rw[<-hw]
   refine kV hcf hfn hs1 (hI.tr.step hst) (ZB hfl (hI.step.trans hst).len) ho hok hx2 ?_
   intro a' c' e1 e2 e3 e4 e5 _
   exact fin x a' c' hx1 (e1.trans hsth) (hst.trans e2) e3 e4 e5
  have hmutA:∀m,fJ aops m=true->cA aops m=false:=by
   intro m hm
   let⟨d,z,hz⟩:=Ji hm
   simp[cA,hz,kB]
  have pairF:sw+1<ops.size->∃d1 z1 d2 z2,aops[sw]?=some ⟨some d1,.alloc z1,none⟩/\aops[sw+1]?=some ⟨some d2,.alloc z2,none⟩/\zAt aops sw=z1/\zAt aops (sw+1)=z2 /\
   S (sw+1)=⟨(S sw).tmps.set d1<|.ptr (S sw).heap.length 1 0 0,(S sw).heap++[.blk z1.length [z1.map .lit]]⟩ /\
   S (sw+2)=⟨(S<|sw+1).tmps.set d2<|.ptr ((S sw).heap.length+1) 1 0 0,(S sw).heap++[.blk z1.length [z1.map .lit],.blk z2.length [z2.map .lit]]⟩:=by
   intro h
   let⟨h1,h2⟩:=hsw h
   let⟨d1,z1,e1⟩:=Ji h1
   let⟨d2,z2,e2⟩:=Ji h2
   have t1:=hS sw _ e1
   have t2:=hS (sw+1) _ e2
   simp only[cR,eY,aM,iM,Za] at t1 t2
   refine⟨d1,z1,d2,z2,e1,e2,by simp[zAt,e1],by simp[zAt,e2],t1.symm,?_⟩
   rw[<-t2,<-t1]
   simp
  by_cases hodd:It (λj=>listed.getD j false) sw=true
  .have ho2:listed.getD (sw+1) false=true/\listed.getD sw false=false:=by
    simp only[It,Zd,YG] at hodd;exact hodd
   have hswN:sw+1<ops.size:=by
    rcases ZI (sw+1) ops.size with h | h
    .exact h
    .have:=ho2.1
     rw[Yf,Yb<|by rw[hI.size];exact h] at this
     cases this
   let⟨hal1,hal2⟩:=hsw hswN
   let⟨d1,z1,d2,z2,p1,p2,p3,p4,p5,p6⟩:=pairF hswN
   have hcH:c.H=(S sw).heap++[.blk z1.length [],.blk z2.length [z2.map .lit]]:=by
    rw[hI.heap,hpH,Zu hodd,aPd,p3,p4]
   have hbehind:∀j,sw+1<j->j<ops.size->cA aops j=false->listed.getD j false=false:=by
    intro j h1 h2 h3
    cases hd:listed.getD j false with
    | false=>rfl
    | true=>
     rcases gK _ hord sw j (by omega) h2 with h | ⟨(h | h) | h,_⟩
     .have:=hI.closed sw j h2 hd h
      rw[ho2.2] at this;cases this
     .rw[hmutA sw hal1] at h;cases h
     .rw[h3] at h;cases h
     .omega
   by_cases hksw:k=sw
   .subst hksw
    rw[hao] at p1
    cases p1
    have hid:c.H[(S k).heap.length]?=some (.blk z1.length []):=by rw[hcH];simp
    refine aAK (id:=(S k).heap.length) hI.sim hI.tr ho hok hid (hlenS k<|by omega) ?_
    intro a' c' e1 e2 e3 e4 e5
    refine fin (.ptr (S k).heap.length 1 0 0) a' c' (by rw[p5];rfl) ?_ e2 e3 e4 e5
    have hnod:It (λj=>(listed.setIfInBounds k true).getD j false) k=false:=by simp[It,hset]
    rw[e1,hpH,ZF<|by rw[hnod];exact XF,oK (k:=k+2) ops.size (by omega) λj h1 h2 h3=>by
     rw[hset,ZF<|by omega];exact hbehind j (by omega) h2 h3]
    have hl2:iH aops (λj=>(listed.setIfInBounds k true).getD j false) (k+2)=k+2:=by
     have e:(listed.setIfInBounds k true).getD (k+1) false=true:=by rw[hset,ZF<|by omega];exact ho2.1
     show (if ((listed.setIfInBounds k true).getD (k+1) false&&!cA aops (k+1))=true then k+1+1 else _)=_
     rw[e,hmutA _ hal2]
     rfl
    rw[hl2,p6,hcH]
    simp
   .have hq:cA aops k=true:=by
     cases hq:cA aops k with
     | true=>rfl
     | false=>
      exfalso
      rcases ZI k sw with h | h
      .rcases gK _ hord k (sw+1) (by omega) hswN with g | ⟨(g | g) | g,_⟩
       .have:=hI.closed k (sw+1) hswN ho2.1 g
        rw[hkD] at this;cases this
       .rw[hq] at g;cases g
       .rw[hmutA _ hal2] at g;cases g
       .omega
      .by_cases h':k=sw+1
       .subst h';rw[hkD] at ho2;cases ho2.1
       .rcases gK _ hord sw k (by omega) hkN with g | ⟨(g | g) | g,_⟩
        .have:=hanc sw g
         rw[ho2.2] at this;cases this
        .rw[hmutA _ hal1] at g;cases g
        .rw[hq] at g;cases g
        .omega
    have hD':It (λj=>(listed.setIfInBounds k true).getD j false) sw=true:=by
     have q1:(listed.setIfInBounds k true).getD sw false=false:=by rw[hset,ZF λe=>hksw e.symm];exact ho2.2
     have q2:(listed.setIfInBounds k true).getD (sw+1) false=true:=by
      rw[hset]
      split
      .rfl
      .exact ho2.1
     simp only[It,q1,q2]
     rfl
    refine byOp c rfl (bV.refl _ _) hI.sim ?_
    have hpe:hpH aops S sw ops.size (λj=>(listed.setIfInBounds k true).getD j false)=c.H:=by
     rw[hpH,Zu hD',hI.heap,hpH,Zu hodd]
    rw[hpe]
    have hev:=hS k ao hao
    have hqo:kB ao.op=true:=by simpa [cA,hao] using hq
    have hwant:∀(hop:∀v H1,aM P cf fl ao.op (S k).tmps (S k).heap=some (v,H1)->aM P cf fl ao.op (S k).tmps c.H=some (v,c.H)),∃st',cR P cf fl ao ⟨(S k).tmps,c.H⟩=some st'/\st'.tmps=(S<|k+1).tmps/\st'.heap=c.H:=by
     intro hop
     unfold cR at hev |-
     simp only at hev |-
     split at hev
     .rename_i hw
      split at hev
      .rename_i v H1 he
       simp only[Za] at hev
       rw[hop v H1 he]
       exact⟨_,rfl,by rw[<-hev],rfl⟩
      .cases hev
     .rename_i hw
      simp only[Za] at hev
      exact⟨_,rfl,by rw[<-hev],rfl⟩
     .cases hev
    by_cases hn:jJ aops k=true
    .have hno:xF ao.op=true:=by simpa [jJ,hao] using hn
     exact hwant λv H1 he=>HD hno he
    by_cases hg:eY (S k).tmps ao.guard=some false
    .unfold cR at hev |-
     simp only[hg] at hev |-
     simp only[Za] at hev
     exact⟨_,rfl,by rw[<-hev],rfl⟩
    have hks:(k,sw)∈ck:=by
     rcases hstab2 hswN k hkN hq with h | h | h
     .exact (hn h).elim
     .have:=hanc sw h
      rw[ho2.2] at this;cases this
     .exact h
    have hmid:∀m,m<ops.size->cA aops m=false->((sw+2<=m/\m<k)\/(k<=m/\m<sw+2))->(k,m)∈ck:=by
     intro m hm hmq hb
     by_cases em:m=sw
     .subst em;exact hks
     have hmD:m<=sw+1->listed.getD m false=true:=by
      intro hle
      by_cases e:m=sw+1
      .subst e;exact ho2.1
      .rcases gK _ hord m (sw+1) (by omega) hswN with g | ⟨(g | g) | g,_⟩
       .exact hI.closed m (sw+1) hswN ho2.1 g
       .rw[hmq] at g;cases g
       .rw[hmutA _ hal2] at g;cases g
       .omega
     rcases OX hstab hkN hm hq hmq with h | h | h | h
     .exact (hn h).elim
     .have hlt:=ancLt k m hkN h
      have hml:=hanc m h
      rcases hb with⟨b1,b2⟩ | ⟨b1,b2⟩
      .rw[hbehind m (by omega) hm hmq] at hml;cases hml
      .omega
     .have hlt:=ancLt m k hm h
      rcases hb with⟨b1,b2⟩ | ⟨b1,b2⟩
      .omega
      .have:=hI.closed k m hm (hmD<|by omega) h
       rw[hkD] at this;cases this
     .exact h
    rcases hck k sw hks ao hao with h | h | ⟨id,h,hkp⟩
    .exact (hg h).elim
    .exact hwant λv H1 he=>Bv h (λid hid=>by cases hid) he
    .refine hwant λv H1 he=>Bv h (λid' hid=>?_) he
     cases hid
     have hidn:id≠(S sw).heap.length:=by
      intro e
      rw[p5] at hkp
      simp only[e] at hkp
      rw[ZX<|Zf _,Zy<|Zf _] at hkp
      simp at hkp
     have hbase:c.H[id]?=(S<|sw+2).heap[id]?:=by
      rw[hcH,p6]
      simp only
      rcases ZI id (S sw).heap.length with hl | hl
      .rw[Zo hl,Zo hl]
      .rw[ZX hl,ZX hl]
       let⟨q,hq'⟩:∃q,id-(S sw).heap.length=q+1:=⟨id-(S sw).heap.length-1,by omega⟩
       rw[hq']
       rfl
     have hsts:∀m,m<ops.size->cA aops m=false->((sw+2<=m/\m<k)\/(k<=m/\m<sw+2))->(S<|m+1).heap[id]?=(S m).heap[id]?:=by
      intro m h1 h2 h3
      rcases hck k m (hmid m h1 h2 h3) ao hao with g | g | ⟨id2,g,g2⟩
      .exact (hg g).elim
      .rw[h] at g;cases g
      .rw[h] at g;cases g;exact g2
     rw[hbase]
     rcases WB (sw+2) k with hle | hle
     .exact (hkeep id (sw+2) k hle (by omega) λm g1 g2 g3=>hsts m (by omega) g3<|.inl ⟨g1,g2⟩).symm
     .exact hkeep id k (sw+2) hle (by omega) λm g1 g2 g3=>hsts m (by omega) g3<|.inr ⟨g1,g2⟩
  .have hcH:c.H=(S<|iH aops (λj=>listed.getD j false) ops.size).heap:=by rw[hI.heap,hpH,ZF hodd]
   by_cases hI1:k=sw+1/\listed.getD sw false=false
   .let⟨hk',hD1⟩:=hI1
    subst hk'
    let⟨hal1,hal2⟩:=hsw hkN
    let⟨d1,z1,d2,z2,p1,p2,p3,p4,p5,p6⟩:=pairF hkN
    have hL:iH aops (λj=>listed.getD j false) ops.size=iH aops (λ_=>true) sw:=by
     rw[oK (k:=sw) ops.size (by omega) (λj h1 h2 h3=>by
      by_cases e:j=sw
      .subst e;exact hD1
      .by_cases e':j=sw+1
       .subst e';exact hkD
       .cases hd:listed.getD j false with
        | false=>rfl
        | true=>
         rcases (later j (by omega) h2 hd).1 with (h | h) | h
         .rw[hmutA _ hal2] at h;cases h
         .rw[h3] at h;cases h
         .omega)]
     refine uE sw λj hj hjq=>?_
     rcases earlier j (by omega) with h | ⟨(h | h) | h,_⟩
     .exact h
     .rw[hjq] at h;cases h
     .rw[hmutA _ hal2] at h;cases h
     .omega
    have hH:c.H=(S sw).heap:=by rw[hcH,hL,hheapA sw<|by omega]
    rw[hao] at p2
    cases p2
    refine byOp ⟨c.w,c.X,c.β,c.H++[.blk z1.length []]⟩ rfl (Hv<|ZB hfl hI.step.len) (KJ hI.sim) ?_
    refine⟨⟨(S<|sw+1).tmps.set d2<|.ptr (c.H++[dL.blk z1.length []]).length 1 0 0,(c.H++[.blk z1.length []])++[.blk z2.length [z2.map .lit]]⟩,rfl,?_,?_⟩
    .rw[p6,hH];simp
    .have hD':It (λj=>(listed.setIfInBounds (sw+1) true).getD j false) sw=true:=by
      have q1:(listed.setIfInBounds (sw+1) true).getD sw false=false:=by rw[hset,ZF<|by omega];exact hD1
      have q2:(listed.setIfInBounds (sw+1) true).getD (sw+1) false=true:=by rw[hset,Zu rfl]
      simp only[It,q1,q2]
      rfl
     rw[hpH,Zu hD',aPd,p3,p4,hH]
     simp
   .have hnodd':It (λj=>(listed.setIfInBounds k true).getD j false) sw=false:=by
     cases h:It (λj=>(listed.setIfInBounds k true).getD j false) sw with
     | false=>rfl
     | true=>
      exfalso
      simp only[It,hset,Zd,YG] at h
      let⟨h1,h2⟩:=h
      split at h2
      .cases h2
      .rename_i hks
       split at h1
       .rename_i e;exact hI1 ⟨e.symm,h2⟩
       .exact hodd<|by simp[It,h1,h2]
    refine byOp c rfl (bV.refl _ _) hI.sim ?_
    rw[hpH,ZF<|by rw[hnodd'];exact XF]
    cases hq:cA aops k with
    | false=>
     have hlat:∀j,k<j->j<ops.size->cA aops j=false->listed.getD j false=false:=by
      intro j h1 h2 h3
      cases hd:listed.getD j false with
      | false=>rfl
      | true=>
       rcases (later j h1 h2 hd).1 with (h | h) | ⟨e1,e2,_⟩
       .rw[hq] at h;cases h
       .rw[h3] at h;cases h
       .exfalso
        subst e1 e2
        exact hodd<|by simp[It,hd,hkD]
     have hL:iH aops (λj=>listed.getD j false) ops.size=iH aops (λ_=>true) k:=by
      rw[oK (k:=k) ops.size (by omega) (λj h1 h2 h3=>by
       by_cases e:j=k
       .subst e;exact hkD
       .exact hlat j (by omega) h2 h3)]
      refine uE k λj hj hjq=>?_
      rcases earlier j hj with h | ⟨(h | h) | ⟨e1,e2,_⟩,_⟩
      .exact h
      .rw[hjq] at h;cases h
      .rw[hq] at h;cases h
      .cases hd:listed.getD j false with
       | true=>rfl
       | false=>exact (hI1 ⟨e2,by rw[<-e1];exact hd⟩).elim
     have hH:c.H=(S k).heap:=by rw[hcH,hL,hheapA k<|by omega]
     refine⟨S<|k+1,by rw[hH];exact hS k ao hao,rfl,?_⟩
     rw[oK (k:=k+1) ops.size (by omega) λj h1 h2 h3=>by
      rw[hset,ZF<|by omega]
      exact hlat j (by omega) h2 h3]
     simp only[iH,hset,Zz,hq]
     rfl
    | true=>
     have hL:iH aops (λj=>(listed.setIfInBounds k true).getD j false) ops.size=iH aops (λj=>listed.getD j false) ops.size:=by
      refine uE ops.size λj hj hjq=>?_
      rw[hset,ZF<|by intro e;subst e;rw[hq] at hjq;cases hjq]
     rw[hL,<-hcH]
     have hqo:kB ao.op=true:=by simpa [cA,hao] using hq
     have hev:=hS k ao hao
     have hpl:=aCd (aops:=aops) (D:=λj=>listed.getD j false) ops.size
     generalize hp:iH aops (λj=>listed.getD j false) ops.size=p at *
     have hbetween:∀m,m<ops.size->cA aops m=false->((p<=m/\m<k)\/(k<=m/\m<p))->jJ aops k=true\/(k,m)∈ck:=by
      intro m hm hmq hb
      rcases OX hstab hkN hm hq hmq with h | h | h | h
      .exact .inl h
      .exfalso
       have hml:=hanc m h
       have:=aCf (aops:=aops) (D:=λj=>listed.getD j false) ops.size hm hml hmq
       rw[hp] at this
       have hlt:=ancLt k m hkN h
       omega
      .exfalso
       have hlt:=ancLt m k hm h
       rcases hb with⟨h1,h2⟩ | ⟨h1,h2⟩
       .omega
       .obtain⟨p',rfl⟩:∃p',p=p'+1:=⟨p-1,by omega⟩
        let⟨g1,g2,g3⟩:=aCe ops.size hp
        have hmD:listed.getD m false=true:=by
         by_cases e:m=p'
         .subst e;exact g2
         .rcases gK _ hord m p' (by omega) g1 with h' | ⟨(h' | h') | ⟨e1,e2,_⟩,_⟩
          .exact hI.closed m p' g1 g2 h'
          .rw[hmq] at h';cases h'
          .rw[g3] at h';cases h'
          .cases hd:listed.getD m false with
           | true=>rfl
           | false=>
            exfalso
            subst e1 e2
            exact hodd<|by simp[It,g2,hd]
        have:=hI.closed k m hm hmD h
        rw[hkD] at this
        cases this
      .exact .inr h
     have hsame:c.H=(S k).heap->∃st',cR P cf fl ao ⟨(S k).tmps,c.H⟩=some st'/\st'.tmps=(S<|k+1).tmps/\st'.heap=c.H:=by
      intro e
      refine⟨S<|k+1,by rw[e];exact hev,rfl,?_⟩
      rw[e]
      exact HB hqo hev
     have hwant:∀(hop:∀v H1,aM P cf fl ao.op (S k).tmps (S k).heap=some (v,H1)->aM P cf fl ao.op (S k).tmps c.H=some (v,c.H)),∃st',cR P cf fl ao ⟨(S k).tmps,c.H⟩=some st'/\st'.tmps=(S<|k+1).tmps/\st'.heap=c.H:=by
      intro hop
      unfold cR at hev |-
      simp only at hev |-
      split at hev
      .rename_i hw
       split at hev
       .rename_i v H1 he
        simp only[Za] at hev
        rw[hop v H1 he]
        exact⟨_,rfl,by rw[<-hev],rfl⟩
       .cases hev
      .rename_i hw
       simp only[Za] at hev
       exact⟨_,rfl,by rw[<-hev],rfl⟩
      .cases hev
     by_cases hn:jJ aops k=true
     .have hno:xF ao.op=true:=by simpa [jJ,hao] using hn
      exact hwant λv H1 he=>HD hno he
     .have hmid:∀m,m<ops.size->cA aops m=false->((p<=m/\m<k)\/(k<=m/\m<p))->(k,m)∈ck:=by
       intro m h1 h2 h3
       rcases hbetween m h1 h2 h3 with h | h
       .exact (hn h).elim
       .exact h
      by_cases hg:eY (S k).tmps ao.guard=some false
      .unfold cR at hev |-
       simp only[hg] at hev |-
       simp only[Za] at hev
       exact⟨_,rfl,by rw[<-hev],rfl⟩
      by_cases hex:∃m,m<ops.size/\cA aops m=false/\((p<=m/\m<k)\/(k<=m/\m<p))
      .let⟨m0,q1,q2,q3⟩:=hex
       rcases hck k m0 (hmid m0 q1 q2 q3) ao hao with h | h | ⟨id,h,_⟩
       .exact (hg h).elim
       .exact hwant λv H1 he=>Bv h (λid hid=>by cases hid) he
       .refine hwant λv H1 he=>Bv h (λid' hid=>?_) he
        cases hid
        have hsts:∀m,m<ops.size->cA aops m=false->((p<=m/\m<k)\/(k<=m/\m<p))->(S<|m+1).heap[id]?=(S m).heap[id]?:=by
         intro m h1 h2 h3
         rcases hck k m (hmid m h1 h2 h3) ao hao with g | g | ⟨id2,g,g2⟩
         .exact (hg g).elim
         .rw[h] at g;cases g
         .rw[h] at g;cases g;exact g2
        rw[hcH]
        rcases WB p k with hle | hle
        .exact (hkeep id p k hle (by omega) λm g1 g2 g3=>hsts m (by omega) g3<|.inl ⟨g1,g2⟩).symm
        .exact hkeep id k p hle hpl λm g1 g2 g3=>hsts m (by omega) g3<|.inr ⟨g1,g2⟩
      .refine hsame ?_
       rw[hcH]
       apply Ym
       intro id
       rcases WB p k with hle | hle
       .exact (hkeep id p k hle (by omega) λm g1 g2 g3=>(hex ⟨m,by omega,g3,.inl ⟨g1,g2⟩⟩).elim).symm
       .exact hkeep id k p hle hpl λm g1 g2 g3=>(hex ⟨m,by omega,g3,.inr ⟨g1,g2⟩⟩).elim
theorem KD[aH]: ∀(aops:List bR) (st:St) (l:List St),Dp P cf fl aops st=some l->
 ∃S:Nat->St,S 0=st/\l.getLast?=some (S aops.length)/\(∀k,k<=aops.length->l[k]?=some (S k))/\∀k ao,aops[k]?=some ao->cR P cf fl ao (S k)=some (S<|k+1)
 | [],st,l,h=>by
  simp only[Dp,Za] at h;subst h;exact⟨λ_=>st,rfl,rfl,λk a=>by have:=(by simpa using a);subst this;rfl,λk ao a=>by simp at a⟩
 | o::r,st,l,h=>by
  simp only[Dp] at h;split at h
  .rename_i b i;split at h
   .rename_i c d;let⟨S,e,e2,g,f⟩:=KD r b c d;refine⟨λk=>match k with | 0=>st | k+1=>S k,rfl,?_,?_,λk ao a=>?_⟩
    .grind
    .grind
    .grind
   .cases h
  .cases h
theorem Q2[aH]{ops:List bR}{l:List St}: ∀{c:List<|Nat×Nat},Q3 ops l c=true->∀k m,(k,m)∈c->aCU ops l k m=true
 | [],_,k,m,h=>by cases h
 | (a,b)::r,h,k,m,d=>by
  simp only[Q3] at h;split at h
  .rename_i f;rcases ZN.1 d with e | e
   .grind
   .exact Q2 h k m e
  .cases h
theorem aGY[aH](hfo:An cf)(h:Kg P cf fl ck aops st=some st'):
 ∃S:Nat->St,S 0=st/\S aops.length=st'/\(∀k ao,aops[k]?=some ao->cR P cf fl ao (S k)=some (S<|k+1)) /\
  ∀k m,(k,m)∈ck->∀ao,aops[k]?=some ao->eY (S k).tmps ao.guard=some false\/dM ao.op (S k).tmps=some none\/∃id,dM ao.op (S k).tmps=some (some id)/\(S<|m+1).heap[id]?=(S m).heap[id]?:=by
 unfold Kg at h;split at h
 .let⟨S,e1,e2,e3⟩:=aBm aops st st' h;exact⟨S,e1,e2,e3,λk m hm=>by cases hm⟩
 .rename_i r;split at h
  .rename_i l hl;split at h
   .rename_i hck;let⟨S,e1,e2,e3,e4⟩:=KD aops st l hl;rw[e2] at h;cases h;refine⟨S,e1,rfl,e4,λk m hm ao hao=>?_⟩;have:=Q2 hck k m hm;unfold aCU at this
    have hk:=(Ze.1 hao).1
    simp only[hao,e3 k<|by omega] at this
    split at this
    .grind
    .split at this
     .grind
     .rename_i id hs
      refine .inr<|.inr ⟨id,hs,?_⟩
      split at this
      .rename_i om hom
       have hm':=(Ze.1 hom).1
       simp only[e3 m<|by omega] at this
       have hev:=e4 m om hom
       unfold cR at hev
       split at this
       .grind
       .rename_i hw
        split at hev
        .split at hev
         .rename_i he
          simp at hev
          rw[<-hev]
          exact aEu hfo this he
         .grind
        .grind
        .grind
      .grind
     .grind
   .cases h
  .cases h
theorem n8[aH]: ∀(aops:List bR) (st:St) (l:List St),Dp P cf fl aops st=some l->jF P cf fl aops st=l.getLast?
 | [],st,l,h=>by
  simp only[Dp,Za] at h;subst h;rfl
 | o::r,st,l,h=>by
  simp only[Dp] at h;split at h
  .rename_i a f;split at h
   .rename_i c d;cases h;have i:=n8 r a c d;have b:c≠[]:=by
     intro e;subst e;let⟨S,_,g,_⟩:=KD r a [] d;simp at g
    simp only[jF,f,i];rw[List.getLast?_cons_of_ne_nil b]
   .cases h
  .cases h
theorem Qw[aH]{a:List<|Nat×Nat}(h:Kg P cf fl a aops st=some st'): jF P cf fl aops st=some st':=by
 unfold Kg at h;split at h
 .exact h
 .split at h
  .rename_i l b;split at h
   .rw[n8 aops st l b];exact h
   .cases h
  .cases h
theorem T6[aH](V:P.follows .mixedOrders=true)(q:An cf)(r:Au P T cf)(u:oQ P T){B:List<|Nat×Nat}{b:Bool}{a:Act}(m:gD P T (.region b B aops) (.region id ops b)=true)(K:bY (aL T) c)(s:TR (aL T) c tm a.tmps)(t:fl<=c.H.length)(g:Kg P cf fl B aops ⟨tm,c.H⟩=some st')(D:∀a' c',c'.H=st'.heap->bV fl c c'->bY (aL T) c'->TR (aL T) c' st'.tmps a'.tmps->a'.defers=a.defers->Q .normal a' c'.w): (Code.region id ops b).wp P Q a c.w:=by
 simp only[gD,Zd] at m;let⟨⟨_,z⟩,G⟩:=m;let⟨p,_⟩:=Je z;cases b with
 | false=>
  refine Xc ?_;have g:=Qw g;have:=Be r u aops ops.toList 0 c a tm st' z (λj o O=>by simpa using O) K s t g D;rw[List.range_eq_range'];grind
 | true=>
  simp at G;let⟨⟨W,E⟩,R⟩:=G;let⟨S,I,e2,L,y⟩:=aGY q g;have e:∃val:Nat->AV,∀k ao,aops[k]?=some ao->(S<|k+1).tmps=iM (S k).tmps ao.dst (val k):=by
   have:∀k,∃x,∀ao,aops[k]?=some ao->(S<|k+1).tmps=iM (S k).tmps ao.dst x:=by
    intro k;cases U:aops[k]? with
    | none=>simp_all
    | some ao=>
     let⟨x,M,_⟩:=HC (λ_ _=>rfl)<|L k ao U;exact⟨x,λN h=>by cases h;exact M⟩
   exact⟨λk=>Classical.choose<|this k,λk=>Classical.choose_spec<|this k⟩
  let⟨val,e⟩:=e;have d:=by simpa using p
  refine wp_region_any V ?_;have J:Hp c.w { c.w with drawn:=c.w.drawn+1 }:=⟨rfl,rfl,rfl,rfl,Ys _⟩;have l:=Hu (fl:=fl) J;refine aHO (c0:=⟨{ c.w with drawn:=c.w.drawn+1 },c.X,c.β,c.H⟩) (ds:=a.defers) r u z W E.1 R I L e y (aBo d) (aD8 E.2) q t ?_ ops.size (Array.replicate ops.size false) a ⟨{ c.w with drawn:=c.w.drawn+1 },c.X,c.β,c.H⟩ ?_ ?_
  .intro a' c' f1 f2 Y F Z;rw[<-d,e2] at f1 F;exact D a' c' f1 (l.trans f2) Y F Z
  .unfold unl;exact ZB (List.length_filter_le _ _)<|by simp
  .have v:∀j,(Array.replicate ops.size false).getD j false=false:=by
    intro j;simp only[Yf,XN];split<;>rfl
   refine⟨by simp,K.drawn J,bV.refl _ _,rfl,(λi j _ C _=>by rw[v] at C;cases C),?_,?_⟩;have A:kD aops tm val (λj=>(Array.replicate ops.size false).getD j false) ops.size=tm:=
    Oj ops.size (ZG _) λj _ _=>v j
   .rw[A];exact s.step l
   .have n:It (λj=>(Array.replicate ops.size false).getD j false) (xM aops (xA ops.toList ops.size []) ops.size 0)=false:=by simp only[It,v,Bool.false_and]
    rw[hpH,ZF<|by rw[n];exact XF,oK ops.size (ZG _) λj _ _ _=>v j];simp only[iH,I]
end
end
section
variable {FT:Nat->Option Nat}
theorem Iu[aH]{c:dH}: ∀(l:List Bool) (tm:List AV) (tv:Array Value),TR FT c tm tv->TR FT c (cX l tm) tv:=by
 intro l tm tv h;have f:∀(l:List Bool) (tm:List AV),(cX l tm).length=tm.length/\∀(t:Nat) (x:AV),(cX l tm)[t]?=some x->x=.undef\/tm[t]?=some x:=by
  intro l;induction l with
  | nil=>
   intro tm;cases tm with
   | nil=>exact⟨rfl,λt x a=>by simp[cX] at a⟩
   | cons v vs=>
    refine⟨by simp[cX],λt x a=>?_⟩;simp only[cX] at a;grind
  | cons b k i=>
   intro tm;cases tm with
   | nil=>exact⟨rfl,λt x a=>by simp[cX] at a⟩
   | cons v vs=>
    let⟨d,e⟩:=i vs;refine⟨by simp[cX,d],λt x a=>?_⟩;cases t with
    | zero=>
     simp only[cX] at a |-;grind
    | succ t=>
     exact e t x a
 let⟨d,e⟩:=f l tm;refine⟨d.trans h.1,λt x a=>?_⟩;rcases e t x a with rfl | g
 .have j:t<tv.size:=by rw[<-h.1,<-d];exact (Ze.1 a).1
  exact⟨tv[t],by simp,RV.undef _⟩
 .exact h.2 t x g
structure Sub(n:Nat)(c c':dH): Prop where
 w:c'.w=c.w
 X:c'.X=c.X
 lo:∀id,id<n->c'.β id=c.β id
 img:∀id b,c'.β id=some b->∃i,c.β i=some b
 shp:∀id,id<n->shp c'.H id=shp c.H id
 mp:∀id,id<n->Bi c.H id->Bi c'.H id
theorem Sub.imm{n:Nat}{c c':dH}(h:Sub n c c'){b:Nat}(e:lM c b): lM c' b:=by
 refine⟨by rw[h.X];exact e.1,λid a=>?_⟩;let⟨i,d⟩:=h.img id b a;exact e.2 i d
theorem Sub.vis{n:Nat}{c c':dH}(h:Sub n c c'){b:Nat}(e:Vis c b): Vis c' b:=by
 intro id a;let⟨i,d⟩:=h.img id b a;exact e i d
theorem Sub.rp[aH]{n:Nat}{c c':dH}(h:Sub n c c'){x:AV}{v:Value}(a:RP c.w (lM c) x v): RP c'.w (lM c') x v:=
 a.mono λb o e d=>⟨h.imm e,by rw[h.w];exact d⟩
theorem Q1[aH]{n:Nat}{c c':dH}(h:Sub n c c'){x:AV}{v:Value}(S:RV FT c x v): RV FT c' (mN n x) v:=by
 cases S with
 | pure _ _ X=>
  have H:=h.rp X;cases H with
  | undef v=>exact .pure _ _<|.undef v
  | lit v=>exact .pure _ _<|.lit v
  | nil f a cap W=>exact .pure _ _<|.nil f a cap W
  | sl f es b off cap cc T u s d p o r q y B J Y=>exact .pure _ _<|.sl f es b off cap cc T u s d p o r q y B J Y
  | sptr cs b off cc T u d p o r q=>exact .pure _ _<|.sptr cs b off cc T u d p o r q
  | rmp A b es F d p o r q y B=>exact .pure _ _<|.rmp A b es F d p o r q y B
 | ms id tot off len a cap s m l k t C=>
  simp only[mN];split
  .rename_i g;refine .ms id tot off len a cap s m ((h.shp id g).trans l) k t λe=>?_;let⟨m1,V⟩:=C e;refine⟨m1,?_⟩;rcases V with⟨I,E,G,K⟩ | ⟨b,cs,T,a',I,E,G,K,U⟩
   .exact .inl ⟨(h.lo id g).trans I,E,G,K⟩
   .exact .inr ⟨b,cs,T,a',(h.lo id g).trans I,by rw[h.w];exact E,G,K,U⟩
  .exact RV.undef _
 | ptr id tot D off a s m l k t=>
  simp only[mN];split
  .rename_i g;refine .ptr id tot D off a s m ((h.shp id g).trans l) k λe=>?_;let⟨b,R,ha⟩:=t e;exact⟨b,(h.lo id g).trans R,ha⟩
  .exact RV.undef _
 | rptr cs b off cc T u d l k t C=>exact .rptr cs b off cc T u d (h.vis l) (by rw[h.w];exact k) t λj x z=>h.rp<|C j x z
 | vnil a cap=>exact .vnil a cap
 | vw es b off cap cc T u s d p o r q y B J=>exact .vw es b off cap cc T u s d p (h.vis o) (by rw[h.w];exact r) q y B λi j x z=>h.rp<|J i j x z
 | mp id b l k=>
  simp only[mN];split
  .rename_i g;exact .mp id b (h.mp id g l)<|(h.lo id g).trans k
  .exact RV.undef _
 | it id b l k=>
  simp only[mN];split
  .rename_i g;exact .it id b (h.mp id g l)<|(h.lo id g).trans k
  .exact RV.undef _
 | fn vi f caps cv d l k t C=>
  cases caps with
  | nil=>exact .fn vi f [] cv d l k t λi x z=>by simp at z
  | cons _ _=>exact RV.undef _
 | agg=>exact RV.undef _
 | tup=>exact RV.undef _
theorem Hg[aH]{n:Nat}{c c':dH}(h:Sub n c c'){x:AV}{v:Value}(e:RV FT c x v): RV FT c' (jW n x) v:=by
 unfold jW;split
 .rename_i vi caps;cases e with
  | pure _ _ g=>cases g
  | fn _ f _ cv a l k o j=>
   refine .fn vi f _ cv a l (by simpa using k) ?_ ?_
   .grind
   .intro i x b;simp at b;obtain⟨y,m,rfl⟩:=b;exact Q1 h<|j i y m
 .exact Q1 h e
theorem Qx[aH]{n:Nat}{c c':dH}(h:Sub n c c'){x:AV}{v:Value}(b:RV FT c x v): RV FT c' (Pg n x) v:=by
 unfold Pg;split
 .rename_i cs;obtain⟨cv,a,rfl,e,j,g⟩:=b.agg_inv;refine .agg _ cv a (by simpa using e) ?_ ?_
  .grind
  .intro i x d;simp at d;obtain⟨y,f,rfl⟩:=d;exact Hg h<|g i y f
 .exact Hg h b
theorem Q0[aH]{n:Nat}{c c':dH}(h:Sub n c c'){x:AV}{v:Value}(b:RV FT c x v): RV FT c' (Pf n x) v:=by
 unfold Pf;split
 .rename_i cs;obtain⟨cv,a,rfl,e,j,g⟩:=b.tup_inv;refine .tup _ cv a (by simpa using e) ?_ ?_
  .grind
  .intro i x d;simp at d;obtain⟨y,f,rfl⟩:=d;exact Qx h<|g i y f
 .exact Qx h b
def kJ(fl n:Nat)(c:dH): dH:=
 ⟨c.w,c.X,λid=>if id<n then c.β id else none,c.H.take fl++((c.H.take n).drop fl).map (bT n)⟩
theorem Ek{fl n:Nat}{c:dH}(a:fl<=n)(b:n<=c.H.length)(id:Nat):
 (kJ fl n c).H[id]?=if id<fl then c.H[id]? else if id<n then (c.H[id]?).map (bT n) else none:=by
 simp only[kJ];grind
theorem oW{fl n:Nat}{c:dH}(a:fl<=n)(b:n<=c.H.length): (kJ fl n c).H.length=n:=by
 simp only[kJ,Zh,ZH,ZO,ZV];omega
theorem Ej[aH]{fl n:Nat}{c:dH}(f:fl<=n)(i:n<=c.H.length): Sub n c (kJ fl n c) where
 w:=rfl;X:=rfl;lo:=λid a=>by simp[kJ,a]
 img:=λid b l=>by
  simp only[kJ] at l;grind
 shp:=λid a=>by
  have r:=Ek f i id;unfold shp;rw[r];by_cases h:id<fl
  .grind
  .rw[ZF h,Zu a];cases c.H[id]? with
   | none=>rfl
   | some o=>cases o<;>simp[bT]
 mp:=λid a j=>by
  let⟨d,he,g⟩:=j;simp only[Bi,Ek f i,he];split
  .grind
  .refine⟨bT n d,by simp,?_⟩;cases d with
   | blk=>exact g
   | mp=>trivial
   | raw=>trivial
theorem Vq[aH]{fl:Nat}{c0 c:dH}(v:bY FT c0)(h:bV fl c0 c)(f:fl<=c0.H.length): bV fl c0<|kJ fl c0.H.length c:=by
 have d:=Ej f h.len;have i:=Ek f h.len;have l:∀id r,shp c0.H id=some r->id<c0.H.length:=λid r u=>by
  rcases ZI id c0.H.length with p | p
  .grind
  .simp[shp,Zy p] at u
 refine⟨h.X,h.os,h.tape,h.output,h.drawn,h.size,by rw[oW f h.len];exact Zf _,h.frame,?_,?_,?_,?_⟩
 .intro id b m;simp only[kJ] at m;split at m
  .exact h.img id b m
  .grind
 .intro id s n o;let⟨w,g,j,k⟩:=h.blkS id s n o;have a:=l id _ o;exact⟨w,(d.shp id a).trans g,j,λe=>⟨(d.lo id a).trans (k e).1,(k e).2⟩⟩
 .intro id q;have a:id<c0.H.length:=by
   let⟨t,he,_⟩:=q;grind
  let⟨g,j⟩:=h.mpS id q;exact⟨d.mp id a g,(d.lo id a).trans j⟩
 .intro id a;let⟨g,j,k⟩:=h.floor id a;exact⟨by rw[i,Zu a];exact g,(d.lo id<|by omega).trans j,k⟩
theorem L3[aH]{fl:Nat}{c0 c:dH}(hs0:bY FT c0)(hs:bY FT c)(h:bV fl c0 c)(hfl:fl<=c0.H.length): bY FT<|kJ fl c0.H.length c:=by
 have hsub:=Ej hfl h.len
 have hget:=Ek hfl h.len
 have hst:=Vq hs0 h hfl
 have hβ:∀id b,(kJ fl c0.H.length c).β id=some b->id<c0.H.length/\c.β id=some b:=by
  intro id b hb
  simp only[kJ] at hb
  split at hb
  .grind
  .grind
 refine⟨hs0.gl.step hst,?_,?_,?_,hs.fresh,?_,?_,?_,?_⟩
 .intro i j b hi hj
  exact hs.inj i j b (hβ i b hi).2 (hβ j b hj).2
 .intro id b hb
  rw[oW hfl h.len];exact (hβ id b hb).1
 .intro id b hb
  exact hs.nx id b (hβ id b hb).2
 .intro id s es ho
  rw[hget] at ho
  split at ho
  .exact hs.lens id s es ho
  .split at ho
   .simp only[Zq] at ho
    let⟨o,ho1,ho2⟩:=ho
    cases o with
    | blk s' es'=>
     simp only[bT,dL.blk.injEq] at ho2
     let⟨rfl,rfl⟩:=ho2
     intro e he
     simp only[Yh] at he
     obtain⟨e0,h0,rfl⟩:=he
     simpa using hs.lens id s' es' ho1 e0 h0
    | mp ents=>simp[bT] at ho2
    | raw q=>simp[bT] at ho2
   .grind
 .intro id s es b ho hb
  let⟨hid,hb'⟩:=hβ id b hb
  rw[hget] at ho
  split at ho
  .rename_i hlo
   let⟨f1,f2,f3⟩:=h.floor id hlo
   rw[f1] at ho
   rw[f2] at hb'
   let⟨cs,T,g1,g2,g3⟩:=hs0.blk id s es b ho hb'
   exact⟨cs,T,(f3 b hb').trans g1,g2,λi j x hx=>let ⟨v,k1,k2,k3⟩:=g3 i j x hx;⟨v,k1,k2,k3.step hst⟩⟩
  .simp only[Zq] at ho
   let⟨o,ho1,ho2⟩:=ho
   cases o with
   | blk s' es'=>
    simp only[bT,dL.blk.injEq] at ho2
    let⟨rfl,rfl⟩:=ho2
    let⟨cs,T,g1,g2,g3⟩:=hs.blk id s' es' b ho1 hb'
    refine⟨cs,T,g1,by simpa using g2,λi j x hx=>?_⟩
    obtain⟨y,hy,rfl⟩:=jM hx
    let⟨v,k1,k2,k3⟩:=g3 i j y hy
    exact⟨v,k1,k2,Hg hsub k3⟩
   | mp ents=>simp[bT] at ho2
   | raw q=>simp[bT] at ho2
 .intro id ents b ho hb
  let⟨hid,hb'⟩:=hβ id b hb
  rw[hget] at ho
  split at ho
  .rename_i hlo
   let⟨f1,f2,f3⟩:=h.floor id hlo
   rw[f1] at ho
   rw[f2] at hb'
   let⟨es,clk,g1,g2,g3⟩:=hs0.map id ents b ho hb'
   exact⟨es,clk,(f3 b hb').trans g1,g2,λi k x hx=>let ⟨e,k1,k2,k3⟩:=g3 i k x hx;⟨e,k1,k2,k3.step hst⟩⟩
  .simp only[Zq] at ho
   let⟨o,ho1,ho2⟩:=ho
   cases o with
   | blk s' es'=>simp[bT] at ho2
   | mp ents'=>
    simp only[bT,dL.mp.injEq] at ho2
    subst ho2
    let⟨es,clk,g1,g2,g3⟩:=hs.map id ents' b ho1 hb'
    refine⟨es,clk,g1,by simpa using g2,λi k x hx=>?_⟩
    simp only[Zk,Zq] at hx
    let⟨⟨k0,y⟩,hy,he⟩:=hx
    obtain⟨rfl,rfl⟩:=he
    let⟨e,k1,k2,k3⟩:=g3 i k0 y hy
    exact⟨e,k1,k2,Qx hsub k3⟩
   | raw q=>simp[bT] at ho2
 .intro id q b ho hb
  let⟨hid,hb'⟩:=hβ id b hb
  rw[hget] at ho
  split at ho
  .rename_i hlo
   let⟨f1,f2,f3⟩:=h.floor id hlo
   rw[f1] at ho
   rw[f2] at hb'
   exact (f3 b hb').trans<|hs0.raw id q b ho hb'
  .simp only[Zq] at ho
   let⟨o,ho1,ho2⟩:=ho
   cases o with
   | blk s' es'=>simp[bT] at ho2
   | mp ents'=>simp[bT] at ho2
   | raw q'=>
    simp only[bT,dL.raw.injEq] at ho2
    subst ho2
    exact hs.raw id q' b ho1 hb'
theorem yN[aH]{fl:Nat}{live:Option<|List Bool}{tr:Bool}{c0 c:dH}{tm:List AV}{tv:Array Value}(d:bY FT c0)(f:bY FT c)(h:bV fl c0 c)(a:fl<=c0.H.length)(e:TR FT c tm tv):
 ∃c',c'.w=c.w/\c'.H=(dO live tr fl c0.H.length ⟨tm,c.H⟩).heap/\bV fl c0 c'/\bY FT c'/\TR FT c' (dO live tr fl c0.H.length ⟨tm,c.H⟩).tmps tv:=by
 have b:TR FT c (N9 live tm) tv:=by
  cases live with
  | none=>exact e
  | some l=>exact Iu l tm tv e
 cases tr with
 | false=>exact⟨c,rfl,by simp[dO],h,f,by simpa [dO] using b⟩
 | true=>
  refine⟨kJ fl c0.H.length c,rfl,by simp[dO,kJ],Vq d h a,L3 d f h a,?_⟩;simp only[dO,Zz];refine⟨by simpa using b.1,λt x g=>?_⟩;simp at g;obtain⟨y,k,rfl⟩:=g;let⟨v,i,j⟩:=b.2 t y k;exact⟨v,i,Q0 (Ej a h.len) j⟩
def AE(c:dH)(id s:Nat)(es:List<|List AV): dH:=
 ⟨c.w,c.X,λi=>if i=c.H.length then c.β id else if i=id then none else c.β i,c.H.set id (.blk s<|es++[List.replicate s .undef])++[.blk s es]⟩
theorem U6{c:dH}{id s:Nat}{es:List<|List AV}(a:c.H[id]?=some (.blk s es))(i:Nat):
 (AE c id s es).H[i]?=if i=c.H.length then some (.blk s es) else if i=id then some (.blk s<|es++[List.replicate s .undef]) else c.H[i]?:=by
 simp only[AE];grind
theorem aBJ[aH]{fl:Nat}{c:dH}{id s:Nat}{es:List<|List AV}(hfl:fl<=id)(hob:c.H[id]?=some (.blk s es)): bV fl c<|AE c id s es:=by
 have hlt:=(Ze.1 hob).1;have hg:=U6 hob;have hlo:∀i o,c.H[i]?=some o->i<c.H.length:=λi o h=>(Ze.1 h).1;refine⟨rfl,rfl,rfl,rfl,Zf _,Zf _,by simp[AE],λ_ _ _=>rfl,?_,?_,?_,?_⟩
 .intro i b hb;simp only[AE] at hb;grind
 .intro i s' n hs;have hi:i<c.H.length:=by
   rcases ZI i c.H.length with h' | h'
   .grind
   .simp[shp,Zy h'] at hs
  by_cases h2:i=id
  .subst h2;have e:=by simp[shp,hob] at hs;omega
   let⟨rfl,rfl⟩:=e;unfold shp
   grind
  .refine⟨n,?_,Zf _,λ_=>⟨?_,λb cs T _ hb=>⟨cs,hb,rfl⟩⟩⟩
   .unfold shp
    rw[hg,ZF<|by omega,ZF h2]
    exact hs
   .simp only[AE]
    rw[ZF<|by omega,ZF h2]
 .intro i hm
  let⟨o,ho,hnb⟩:=hm
  have hi:=hlo i o ho
  have h2:i≠id:=by
   intro e
   subst e
   rw[hob] at ho
   cases ho
   exact hnb
  refine⟨⟨o,by rw[hg,ZF<|by omega,ZF h2];exact ho,hnb⟩,?_⟩
  simp only[AE]
  rw[ZF<|by omega,ZF h2]
 .intro i hi
  refine⟨by rw[hg,ZF<|by omega,ZF<|by omega],?_,λ_ _=>rfl⟩
  simp only[AE]
  rw[ZF<|by omega,ZF<|by omega]
theorem aLJ[aH]{c:dH}{id s:Nat}{es:List<|List AV}(hs:bY FT c)(hob:c.H[id]?=some (.blk s es)): bY FT<|AE c id s es:=by
 have hg:=U6 hob
 have hst:=aBJ (fl:=0) (ZG _) hob
 have hβ:∀i b,(AE c id s es).β i=some b->(i=c.H.length/\c.β id=some b)\/(i≠c.H.length/\i≠id/\c.β i=some b):=by
  intro i b hb
  simp only[AE] at hb
  grind
 refine⟨hs.gl.step hst,?_,?_,?_,hs.fresh,?_,?_,?_,?_⟩
 .intro i j b hi hj
  rcases hβ i b hi with⟨h1,h2⟩ | ⟨h1,h2,h3⟩<;>rcases hβ j b hj with⟨k1,k2⟩ | ⟨k1,k2,k3⟩
  .omega
  .exact (k2<|hs.inj _ _ b k3 h2).elim
  .exact (h2<|hs.inj _ _ b h3 k2).elim
  .exact hs.inj _ _ b h3 k3
 .intro i b hb
  simp only[AE,Zh,Yr,Yd]
  rcases hβ i b hb with⟨h1,h2⟩ | ⟨h1,h2,h3⟩
  .omega
  .have:=hs.dom i b h3;omega
 .intro i b hb
  rcases hβ i b hb with⟨h1,h2⟩ | ⟨h1,h2,h3⟩
  .exact hs.nx _ b h2
  .exact hs.nx _ b h3
 .intro i s' es' ho
  rw[hg] at ho
  split at ho
  .cases ho;exact hs.lens id s es hob
  .split at ho
   .cases ho
    intro e he
    rcases ZD.1 he with h | h
    .exact hs.lens id s es hob e h
    .grind
   .exact hs.lens i s' es' ho
 .intro i s' es' b ho hb
  rcases hβ i b hb with⟨h1,h2⟩ | ⟨h1,h2,h3⟩
  .rw[hg,Zu h1] at ho
   cases ho
   let⟨cs,T,g1,g2,g3⟩:=hs.blk id s es b hob h2
   exact⟨cs,T,g1,g2,λi j x hx=>let ⟨v,k1,k2,k3⟩:=g3 i j x hx;⟨v,k1,k2,k3.step hst⟩⟩
  .rw[hg,ZF h1,ZF h2] at ho
   let⟨cs,T,g1,g2,g3⟩:=hs.blk i s' es' b ho h3
   exact⟨cs,T,g1,g2,λi j x hx=>let ⟨v,k1,k2,k3⟩:=g3 i j x hx;⟨v,k1,k2,k3.step hst⟩⟩
 .intro i ents b ho hb
  rcases hβ i b hb with⟨h1,h2⟩ | ⟨h1,h2,h3⟩
  .grind
  .rw[hg,ZF h1,ZF h2] at ho
   let⟨es,clk,g1,g2,g3⟩:=hs.map i ents b ho h3
   exact⟨es,clk,g1,g2,λi k x hx=>let ⟨e,k1,k2,k3⟩:=g3 i k x hx;⟨e,k1,k2,k3.step hst⟩⟩
 .intro i q b ho hb
  rcases hβ i b hb with⟨h1,h2⟩ | ⟨h1,h2,h3⟩
  .grind
  .rw[hg,ZF h1,ZF h2] at ho
   exact hs.raw i q b ho h3
theorem aFO{c c':dH}{id m s tot off len:Nat}{es es':List<|List AV}(d:c.H[id]?=some (.blk s es))(b:c'.H[m]?=some (.blk s es'))(r:es'.length=es.length)(o:c'.w=c.w)(q:c'.β m=c.β id){v:Value}(l:RV FT c (.ms id tot off len) v): RV FT c' (.ms m tot off len) v:=by
 cases l with
 | pure _ _ h=>cases h
 | ms _ _ _ _ a cap s' n g u k i=>
  have e:s'=s/\n=es.length:=by simp[shp,d] at g;omega
  let⟨rfl,rfl⟩:=e;refine .ms m tot off len a cap s' es'.length (by simp[shp,b]) (by omega) k λe=>?_;let⟨j,t⟩:=i (by omega);refine⟨j,?_⟩;grind
theorem aHc[aH]{fl t:Nat}{c:dH}{tm:List AV}{tv:Array Value}{d:St}(p:bY FT c)(b:TR FT c tm tv)(h:aF8 fl t ⟨tm,c.H⟩=some d):
 ∃c',c'.w=c.w/\c'.H=d.heap/\bV fl c c'/\bY FT c'/\TR FT c' d.tmps tv:=by
 unfold aF8 at h;split at h
 .rename_i id tot off len n;split at h
  .rename_i l;split at h
   .rename_i s es a;split at h
    .rename_i o;cases h;have i:=aBJ l a;refine⟨AE c id s es,rfl,rfl,i,aLJ p a,?_⟩;refine⟨by simpa using b.1,λu y g=>?_⟩;rw[Z5] at g;split at g
     .rename_i m;subst m;split at g
      .rename_i f;cases g;let⟨cv,k,j⟩:=b.2 t tm[t]<|Zb f;have e:=by
        simp only[aI,Zb f] at n;exact n
       rw[e] at j;refine⟨cv,k,aFO (c':=AE c id s es) a (by rw[U6 a,Zu rfl]) rfl rfl (by simp[AE]) j⟩
      .grind
     .let⟨cv,k,j⟩:=b.2 u y g;exact⟨cv,k,j.step i⟩
    .cases h
   .cases h
  .cases h
 .cases h
def rE(fl n id s:Nat)(es:List<|List AV)(c:dH): dH:=
 ⟨c.w,c.X,λi=>if i<n then c.β i else if i=n then c.β id else none,(kJ fl n c).H++[bT n<|.blk s es]⟩
theorem Nq[aH]{fl n id s:Nat}{es:List<|List AV}{c:dH}(a:fl<=n)(b:n<=c.H.length)(i:Nat):
 (rE fl n id s es c).H[i]?=if i<n then (kJ fl n c).H[i]? else if i=n then some (bT n<|.blk s es) else none:=by
 simp only[rE];rw[Yk];rw[oW a b];grind
theorem WX[aH]{fl n id s:Nat}{es:List<|List AV}{c:dH}(a:fl<=n)(e:n<=c.H.length): Sub n c (rE fl n id s es c) where
 w:=rfl;X:=rfl;lo:=λi d=>by simp[rE,d]
 img:=λi b h=>by
  simp only[rE] at h;grind
 shp:=λi d=>by
  have:=(Ej a e).shp i d;unfold shp at this |-;rw[Nq a e,Zu d];exact this
 mp:=λi d f=>by
  have:=(Ej a e).mp i d f;unfold Bi at this |-;rw[Nq a e,Zu d];exact this
theorem N8[aH]{fl id s:Nat}{es:List<|List AV}{c0 c:dH}(p:bY FT c0)(h:bV fl c0 c)(f:fl<=c0.H.length): bV fl c0<|rE fl c0.H.length id s es c:=by
 have a:=WX (id:=id) (s:=s) (es:=es) f h.len;have w:=Vq p h f;have g:=Nq (id:=id) (s:=s) (es:=es) f h.len;have k:(rE fl c0.H.length id s es c).H.length=c0.H.length+1:=by
  simp only[rE,Zh,oW f h.len,Yd]
 refine⟨h.X,h.os,h.tape,h.output,h.drawn,h.size,by rw[k];omega,h.frame,?_,?_,?_,?_⟩
 .intro i b j;simp only[rE] at j;split at j
  .exact h.img i b j
  .split at j
   .exact h.img id b j
   .grind
 .intro i s' n u;have d:i<c0.H.length:=by
   rcases ZI i c0.H.length with q | q
   .grind
   .simp[shp,Zy q] at u
  let⟨x,l,o,m⟩:=h.blkS i s' n u;exact⟨x,(a.shp i d).trans l,o,λe=>⟨(a.lo i d).trans (m e).1,(m e).2⟩⟩
 .intro i v;have d:i<c0.H.length:=by
   let⟨t,he,_⟩:=v;exact (Ze.1 he).1
  let⟨l,o⟩:=h.mpS i v;exact⟨a.mp i d l,(a.lo i d).trans o⟩
 .intro i r;let⟨l,o,m⟩:=w.floor i r;exact⟨by rw[g,Zu<|by omega];exact l,(a.lo i<|by omega).trans (h.floor i r).2.1,m⟩
theorem aJx[aH]{fl id s:Nat}{es:List<|List AV}{c0 c:dH}(hs0:bY FT c0)(hs:bY FT c)(h:bV fl c0 c)(hfl:fl<=c0.H.length)(hid:c0.H.length<=id)(hob:c.H[id]?=some (.blk s es)): bY FT<|rE fl c0.H.length id s es c:=by
 have hsub:=WX (id:=id) (s:=s) (es:=es) hfl h.len
 have hst:=N8 (id:=id) (s:=s) (es:=es) hs0 h hfl
 have ht:=L3 hs0 hs h hfl
 have hget:=Nq (id:=id) (s:=s) (es:=es) hfl h.len
 have htg:=Ek hfl h.len
 have hlen:(rE fl c0.H.length id s es c).H.length=c0.H.length+1:=by
  simp only[rE,Zh,oW hfl h.len,Yd]
 have hβ:∀i b,(rE fl c0.H.length id s es c).β i=some b->(i<c0.H.length/\c.β i=some b)\/(i=c0.H.length/\c.β id=some b):=by
  intro i b hb
  simp only[rE] at hb
  split at hb
  .grind
  .grind
 refine⟨hs0.gl.step hst,?_,?_,?_,hs.fresh,?_,?_,?_,?_⟩
 .intro i j b hi hj
  rcases hβ i b hi with⟨h1,h2⟩ | ⟨h1,h2⟩<;>rcases hβ j b hj with⟨k1,k2⟩ | ⟨k1,k2⟩
  .exact hs.inj _ _ b h2 k2
  .have:=hs.inj _ _ b h2 k2;omega
  .have:=hs.inj _ _ b h2 k2;omega
  .omega
 .grind
 .intro i b hb
  rcases hβ i b hb with⟨h1,h2⟩ | ⟨h1,h2⟩
  .exact hs.nx _ b h2
  .exact hs.nx _ b h2
 .intro i s' es' ho
  rw[hget] at ho
  split at ho
  .exact ht.lens i s' es' ho
  .split at ho
   .simp only[bT,Za,dL.blk.injEq] at ho
    let⟨rfl,rfl⟩:=ho
    intro e he
    simp only[Yh] at he
    obtain⟨e0,h0,rfl⟩:=he
    simpa using hs.lens id s es hob e0 h0
   .grind
 .intro i s' es' b ho hb
  rcases hβ i b hb with⟨hi,hb'⟩ | ⟨hi,hb'⟩
  .rw[hget,Zu hi,htg] at ho
   split at ho
   .rename_i hlo
    let⟨f1,f2,f3⟩:=h.floor i hlo
    rw[f1] at ho
    rw[f2] at hb'
    let⟨cs,T,g1,g2,g3⟩:=hs0.blk i s' es' b ho hb'
    exact⟨cs,T,(f3 b hb').trans g1,g2,λi j x hx=>let ⟨v,k1,k2,k3⟩:=g3 i j x hx;⟨v,k1,k2,k3.step hst⟩⟩
   .try rw[Zu hi] at ho
    simp only[Zq] at ho
    let⟨o,ho1,ho2⟩:=ho
    cases o with
    | blk s2 es2=>
     simp only[bT,dL.blk.injEq] at ho2
     let⟨rfl,rfl⟩:=ho2
     let⟨cs,T,g1,g2,g3⟩:=hs.blk i s2 es2 b ho1 hb'
     refine⟨cs,T,g1,by simpa using g2,λi j x hx=>?_⟩
     obtain⟨y,hy,rfl⟩:=jM hx
     let⟨v,k1,k2,k3⟩:=g3 i j y hy
     exact⟨v,k1,k2,Hg hsub k3⟩
    | mp ents=>simp[bT] at ho2
    | raw q=>simp[bT] at ho2
  .rw[hget,ZF<|by omega,Zu hi] at ho
   simp only[bT,Za,dL.blk.injEq] at ho
   let⟨rfl,rfl⟩:=ho
   let⟨cs,T,g1,g2,g3⟩:=hs.blk id s es b hob hb'
   refine⟨cs,T,g1,by simpa using g2,λi j x hx=>?_⟩
   obtain⟨y,hy,rfl⟩:=jM hx
   let⟨v,k1,k2,k3⟩:=g3 i j y hy
   exact⟨v,k1,k2,Hg hsub k3⟩
 .intro i ents b ho hb
  rcases hβ i b hb with⟨hi,hb'⟩ | ⟨hi,hb'⟩
  .rw[hget,Zu hi,htg] at ho
   split at ho
   .rename_i hlo
    let⟨f1,f2,f3⟩:=h.floor i hlo
    rw[f1] at ho
    rw[f2] at hb'
    let⟨es,clk,g1,g2,g3⟩:=hs0.map i ents b ho hb'
    exact⟨es,clk,(f3 b hb').trans g1,g2,λi k x hx=>let ⟨e,k1,k2,k3⟩:=g3 i k x hx;⟨e,k1,k2,k3.step hst⟩⟩
   .try rw[Zu hi] at ho
    simp only[Zq] at ho
    let⟨o,ho1,ho2⟩:=ho
    cases o with
    | blk s' es'=>simp[bT] at ho2
    | mp ents'=>
     simp only[bT,dL.mp.injEq] at ho2
     subst ho2
     let⟨es,clk,g1,g2,g3⟩:=hs.map i ents' b ho1 hb'
     refine⟨es,clk,g1,by simpa using g2,λi k x hx=>?_⟩
     simp only[Zk,Zq] at hx
     let⟨⟨k0,y⟩,hy,he⟩:=hx
     simp only[Zi] at he
     let⟨rfl,rfl⟩:=he
     let⟨e,k1,k2,k3⟩:=g3 i k0 y hy
     exact⟨e,k1,k2,Qx hsub k3⟩
    | raw q=>simp[bT] at ho2
  .rw[hget,ZF<|by omega,Zu hi] at ho
   simp[bT] at ho
 .intro i q b ho hb
  rcases hβ i b hb with⟨hi,hb'⟩ | ⟨hi,hb'⟩
  .rw[hget,Zu hi,htg] at ho
   split at ho
   .rename_i hlo
    let⟨f1,f2,f3⟩:=h.floor i hlo
    rw[f1] at ho
    rw[f2] at hb'
    exact (f3 b hb').trans<|hs0.raw i q b ho hb'
   .try rw[Zu hi] at ho
    simp only[Zq] at ho
    let⟨o,ho1,ho2⟩:=ho
    cases o with
    | blk s' es'=>simp[bT] at ho2
    | mp ents'=>simp[bT] at ho2
    | raw q'=>
     simp only[bT,dL.raw.injEq] at ho2
     subst ho2
     exact hs.raw i q' b ho1 hb'
  .rw[hget,ZF<|by omega,Zu hi] at ho
   simp[bT] at ho
theorem Nz[aH]{fl t:Nat}{live:List Bool}{c0 c:dH}{tm:List AV}{tv:Array Value}(g:bY FT c0)(r:bY FT c)(h:bV fl c0 c)(a:fl<=c0.H.length)(b:TR FT c tm tv):
 ∃c',c'.w=c.w/\c'.H=(GA live t fl c0.H.length ⟨tm,c.H⟩).heap/\bV fl c0 c'/\bY FT c'/\TR FT c' (GA live t fl c0.H.length ⟨tm,c.H⟩).tmps tv:=by
 have p:=yN (live:=some live) (tr:=true) g r h a b;unfold GA;split
 .rename_i id tot off len q;split
  .rename_i n;split
   .rename_i s es j;have f:=Iu live tm tv b;have k:=WX (id:=id) (s:=s) (es:=es) a h.len;refine⟨rE fl c0.H.length id s es c,rfl,by simp[rE,kJ],N8 g h a,aJx g r h a n j,?_⟩;refine⟨by simpa using f.1,λu y i=>?_⟩;rw[Z5] at i;split at i
    .rename_i m;subst m;split at i
     .rename_i A;cases i;have d:t<tm.length:=by
       have B:=f.1;have e2:=b.1;grind
      let⟨cv,o,l⟩:=b.2 t tm[t]<|Zb d;have e:=by
       simp only[aI,Zb d] at q;exact q
      rw[e] at l;refine⟨cv,o,aFO (c':=rE fl c0.H.length id s es c) (es':=es.map λe=>e.map<|jW c0.H.length) j ?_ (by simp) rfl (by simp[rE]) l⟩;rw[Nq a h.len,ZF<|by omega,Zu rfl];rfl
     .grind
    .simp at i;obtain⟨z,x,rfl⟩:=i;let⟨v,o,l⟩:=f.2 u z x;exact⟨v,o,Q0 k l⟩
   .grind
  .grind
 .grind
end
section
variable {P:Program}{T:List cQ}{cf:Nat->Nat->List AV->aY->Option (AV×aY)}{fl lf:Nat}
def Do: cV->Exit
 | .normal=>.normal
 | .exit id=>.exit id
 | .ret=>.ret
def aBe[aH](P:Program)(T:List cQ)(fl:Nat)(ev:St->Option (cV×St))(code:Code): Prop:=
 ∀(c:dH) (a:Act) (tm:List AV) (x:cV) (st':St) (Q:Exit->Act->World->Prop),bY (aL T) c->TR (aL T) c tm a.tmps->fl<=c.H.length->ev ⟨tm,c.H⟩=some (x,st')->
  (∀a' c',c'.H=st'.heap->bV fl c c'->bY (aL T) c'->TR (aL T) c' st'.tmps a'.tmps->a'.defers=a.defers->Q (Do x) a' c'.w)->code.wp P Q a c.w
theorem b7[aH]{e:Code}{step:St->Option (cV×St)}{live:Option<|List Bool}{tr:Bool}(d:aBe P T fl step e){c0:dH}(i:bY (aL T) c0)(f:fl<=c0.H.length){ds:List Deferred}{x:cV}{st':St}{Q:Exit->Act->World->Prop}(v:∀a' c',c'.H=st'.heap->bV fl c0 c'->bY (aL T) c'->TR (aL T) c' st'.tmps a'.tmps->a'.defers=ds->Q (Do x) a' c'.w):
 ∀(n:Nat) (c:dH) (a:Act) (tm:List AV),bY (aL T) c->bV fl c0 c->TR (aL T) c tm a.tmps->a.defers=ds->fV (dO live tr fl c0.H.length) step n ⟨tm,c.H⟩=some (x,st')->Code.rounds P e Q n a c.w
 | 0,c,a,tm,_,_,_,_,b=>by cases b
 | n+1,c,a,tm,G,r,s,A,b=>by
  simp only[fV] at b;obtain⟨m,F,D,k,z,C⟩:=yN i G r f s;rw[<-F];have j:(dO live tr fl c0.H.length ⟨tm,c.H⟩)=⟨(dO live tr fl c0.H.length ⟨tm,c.H⟩).tmps,m.H⟩:=by rw[D]
  rw[j] at b;split at b
  .rename_i h he;refine d m a _ .normal h _ z C (ZB f k.len) he ?_;intro a' c' o e2 q u p;refine b7 (live:=live) (tr:=tr) d i f v n c' a' h.tmps q (k.trans e2) u (p.trans A) ?_;rw[o];exact b
  .rename_i E;have g:∀y,Do x=y->y≠.normal->e.wp P (Exit.then (Code.rounds P e Q n) Q) a m.w:=by
    intro y I t;refine d m a _ x st' _ z C (ZB f k.len) b ?_;intro a' c' o e2 q u p;have:=v a' c' o (k.trans e2) q u<|p.trans A;rw[I] at this |-;cases y<;>first | exact (t rfl).elim | exact this
   cases x with
   | normal=>grind
   | exit id=>exact g _ rfl<|by simp[Do]
   | ret=>exact g _ rfl<|by simp[Do]
theorem Nr[aH]{f:Code}{step:St->Option (cV×St)}{b:St->St}(e:aBe P T fl step f){c0:dH}(h:fl<=c0.H.length)(g:∀(c:dH) (tm:List AV) (tv:Array Value),bY (aL T) c->bV fl c0 c->TR (aL T) c tm tv->∃c',c'.w=c.w/\c'.H=(b ⟨tm,c.H⟩).heap/\bV fl c0 c'/\bY (aL T) c'/\TR (aL T) c' (b ⟨tm,c.H⟩).tmps tv){ds:List Deferred}{x:cV}{st':St}{Q:Exit->Act->World->Prop}(C:∀a' c',c'.H=st'.heap->bV fl c0 c'->bY (aL T) c'->TR (aL T) c' st'.tmps a'.tmps->a'.defers=ds->Q (Do x) a' c'.w):
 ∀(n:Nat) (c:dH) (a:Act) (tm:List AV),bY (aL T) c->bV fl c0 c->TR (aL T) c tm a.tmps->a.defers=ds->fV b step n ⟨tm,c.H⟩=some (x,st')->Code.rounds P f Q n a c.w
 | 0,c,a,tm,_,_,_,_,d=>by cases d
 | n+1,c,a,tm,I,s,t,A,d=>by
  simp only[fV] at d;let⟨l,G,J,m,B,D⟩:=g c tm a.tmps I s t;rw[<-G];have j:(b ⟨tm,c.H⟩)=⟨(b ⟨tm,c.H⟩).tmps,l.H⟩:=by rw[J]
  rw[j] at d;split at d
  .rename_i k he;refine e l a _ .normal k _ B D (ZB h m.len) he ?_;intro a' c' p e2 r u q;refine Nr e h g C n c' a' k.tmps r (m.trans e2) u (q.trans A) ?_;rw[p];exact d
  .rename_i E;have i:∀y,Do x=y->y≠.normal->f.wp P (Exit.then (Code.rounds P f Q n) Q) a l.w:=by
    intro y F v;refine e l a _ x st' _ B D (ZB h m.len) d ?_;intro a' c' p e2 r u q;have:=C a' c' p (m.trans e2) r u<|q.trans A;rw[F] at this |-;cases y<;>first | exact (v rfl).elim | exact this
   cases x with
   | normal=>grind
   | exit id=>exact i _ rfl<|by simp[Do]
   | ret=>exact i _ rfl<|by simp[Do]
theorem aHm[aH]{c:dH}{x:AV}{u:Value}(e:RV (aL T) c x u)(d:RL c.H x≠3): ∃ad n cap,u=.slice ad n cap/\(RL c.H x=0->ad=none)/\(RL c.H x=1->ad.isNone=false):=by
 unfold RL at d |-;split at d
 .rename_i v;have:=e.lit_inv;grind
 .rename_i es;have q:=e.sl_inv;cases q with
  | nil _ ad cap B=>grind
  | sl _ _ b off cap cc p o s a f l m k F z r w=>grind
 .rename_i es;obtain⟨ad,cap,rfl,_,i⟩:=e.vw_inv;rcases i with rfl | ⟨b,off,cc,p,o,s,a,rfl,_⟩
  .grind
  .grind
 .rename_i len;split at d
  .grind
  .rename_i j;split at d
   .rename_i g;split at d
    .rename_i h;let⟨ad,cap,D,E,A,f,l,m,k⟩:=e.ms_inv;rw[eT g] at f;cases f;let⟨y,C⟩:=k (Zc h).symm;grind
    .grind
   .grind
 .grind
theorem aHl[aH](hcf:Au P T cf)(hfn:oQ P T){c:dH}{a:Act}{tm:List AV}{ops:Array Oper}{o1 o2:Oper}{id t d0 d1:Nat}{Q:Exit->Act->World->Prop}(hops:ops.toList=[o1,o2])(hc1:Cr P T ops ⟨some d0,.mov<|.tmp t,none⟩ o1=true)(hc2:aAh P d0 d1 o2=true)(hs:bY (aL T) c)(htr:TR (aL T) c tm a.tmps)(hfl:fl<=c.H.length)(hd0:d0<tm.length)(h3:RL c.H (aI tm<|.tmp t)≠3)(hQ:∀b a' c',(RL c.H (aI tm<|.tmp t)=0->b=true)->(RL c.H (aI tm<|.tmp t)=1->b=false)->c'.H=c.H->bV fl c c'->bY (aL T) c'->TR (aL T) c' (Nn tm t d0 d1 b) a'.tmps->a'.defers=a.defers->Q .normal a' c'.w):
 (Code.region id ops false).wp P Q a c.w:=by
 have e1:ops[0]?=some o1:=by rw[<-Z8,hops];rfl
 have e2:ops[1]?=some o2:=by rw[<-Z8,hops];rfl
 have hsz:ops.size=2:=by rw[<-Zx,hops];rfl
 refine Xc ?_;rw[hsz];have hev1:cR P cf fl ⟨some d0,.mov<|.tmp t,none⟩ ⟨tm,c.H⟩=some ⟨tm.set d0<|aI tm<|.tmp t,c.H⟩:=rfl;refine kV hcf hfn hs htr hfl e1 hc1 hev1 ?_;intro a1 c1 f1 f2 f3 f4 f5 _;rw[Y3];unfold aAh at hc2;simp at hc2;let⟨⟨h1,h2⟩,h4⟩:=hc2;have hdst:o2.dst=some d1:=by
  grind
 have hguard:=by simpa using h2
 split at h4
 .rename_i ty x' ty' hop;simp only[Zd,ZC] at h4;let⟨rfl,h4⟩:=h4;split at h4
  .rename_i hu;unfold wpOp;rw[e2];simp only;have hw:Region.wanted o2 (yielded ops a1.tmps)=true:=by simp[Region.wanted,hguard]
   rw[hw];left;let⟨u,k1,k2⟩:=f4.2 x' (aI tm<|.tmp t) (by simp[hd0]);let⟨ad,n,cap,hu',z0,z1⟩:=aHm k2 (by rw[f1];exact h3);rw[f1] at z0 z1;have hrun:(execOp a1.eval o2).run P c1.w=.ok (.value<|.bool ad.isNone) c1.w:=by
    have heq:∀w:World,(Op.equalIn Op.maxDepth ty (.slice ad n cap)<|.slice none 0 0).run P w=.ok ad.isNone w:=by
     have hm:Op.maxDepth=(Op.maxDepth-1)+1:=by decide
     rw[hm,Op.equalIn];cases ad<;>simp[Zm hu]
    simp[execOp,hop,Act.eval,k1,hu',eqGuard,binOp,Op.equal,heq]
   refine (bN (fl:=fl) f3 hrun<|RV.lit _) _ _ ?_;intro cv c2 q1 q2 q3 q4;rw[hdst]
   refine hQ ad.isNone _ c2 (λh=>by rw[z0 h];rfl) z1 (q1.trans f1) (f2.trans q2) q3 ?_<|(iW _ _ _).trans f5
   exact TR.put (d:=some d1) (f4.step q2) q4
  .grind
 .grind
theorem aGp[aH]{c c':dH}{x:AV}{v:Value}(h:aKg x=true)(a:RV (aL T) c x v): RV (aL T) c' (.sl false []) v:=by
 unfold aKg at h;split at h
 .rename_i u;have:=a.lit_inv;subst this;split at h
  .split at h
   .split at h
    .split at h
     .exact .pure _ _<|.nil false none 0<|by simp
     .cases h
    .cases h
   .cases h
  .cases h
 .split at h
  .have e:=a.sl_inv;cases e with
   | nil _ ad cap i=>exact .pure _ _<|.nil false ad cap<|by simp
   | sl _ _ b off cap cc l j s d r k p o f q g n=>grind
  .cases h
 .cases h
theorem O2[aH]: ∀(a ys:List AV),a.length=ys.length->(Um a ys).length=a.length/\∀(t:Nat) (z:AV),(Um a ys)[t]?=some z->∃x y,a[t]?=some x/\ys[t]?=some y/\z=aFV x y
 | [],[],_=>⟨rfl,λt z h=>by simp[Um] at h⟩
 | x::r,y::s,h=>by
  let⟨d,c⟩:=O2 r s (by simpa using h);refine⟨by simp[Um,d],λt z b=>?_⟩;cases t with
  | zero=>
   simp only[Um,Zt,Za] at b;exact⟨x,y,rfl,rfl,b.symm⟩
  | succ t=>
   exact c t z b
 | [],_::_,h=>by simp at h
 | _::_,[],h=>by simp at h
theorem aMs[aH]{c c':dH}{d ys:List AV}{tv:Array Value}(f:d.length=ys.length)(h:TR (aL T) c d tv\/TR (aL T) c ys tv): TR (aL T) c' (Um d ys) tv:=by
 let⟨l,o⟩:=O2 d ys f;have e:d.length=tv.size:=by rcases h with h | h;exact h.1;rw[f];exact h.1
 refine⟨l.trans e,λt z j=>?_⟩;obtain⟨x,y,k,i,rfl⟩:=o t z j;have g:∃v,tv[t]?=some v/\(RV (aL T) c x v\/RV (aL T) c y v):=by
  rcases h with h | h
  .let⟨v,b,a⟩:=h.2 t x k;exact⟨v,b,.inl a⟩
  .let⟨v,b,a⟩:=h.2 t y i;exact⟨v,b,.inr a⟩
 let⟨v,b,a⟩:=g;refine⟨v,b,?_⟩;unfold aFV;split
 .rename_i m;split
  .rename_i n;rcases a with a | a
   .exact aGp m a
   .exact aGp n a
  .exact RV.undef _
 .exact RV.undef _
theorem aH5[aH]{FT:Nat->Option Nat}{c b:dH}(l:bY FT c)(d:bY FT b)(h:bV c.H.length c b): ∃a,a.w=b.w/\a.H=c.H/\bV c.H.length c a/\bY FT a:=by
 let⟨a,g,k,n,m,_⟩:=yN (live:=none) (tr:=true) (tm:=[]) (tv:=#[]) l d h (Zf _) ⟨rfl,λt x f=>by simp at f⟩;refine⟨a,g,?_,n,m⟩;rw[k];simp only[dO,Zz];apply Ym;intro i;have e:(b.H.take c.H.length).drop c.H.length=[]:=WD (by simp;omega);rw[e,Yn,Wo,Zs];split
 .rename_i j;exact (h.floor i j).1
 .grind
theorem eJ[aH](hm:P.follows .mixedOrders=true)(hfo:An cf)(hcf:Au P T cf)(hfn:oQ P T): ∀(ac:bS) (code:Code),gD P T ac code=true->aBe P T fl (eS P cf lf fl ac) code
 | .skip,code,hchk=>by
  cases code<;>simp only[gD,Zn] at hchk
  .intro c a tm x st' Q hs htr hfl hev hQ
   simp only[eS,Za,Zi] at hev
   let⟨rfl,rfl⟩:=hev
   exact W5<|hQ a c rfl (bV.refl _ _) hs htr rfl
  .intro c a tm x st' Q hs htr hfl hev hQ
   simp only[eS,Za,Zi] at hev
   let⟨rfl,rfl⟩:=hev
   exact wp_label<|hQ a c rfl (bV.refl _ _) hs htr rfl
 | .scope p,code,hchk=>by
  cases code<;>try (simp only[gD,Zn] at hchk;done)
  rename_i p'
  simp only[gD] at hchk
  have hp:=eJ hm hfo hcf hfn p p' hchk
  intro c a tm x st' Q hs htr hfl hev hQ
  simp only[eS] at hev
  refine wp_scope_straight<|hp c a tm x st' _ hs htr hfl hev ?_
  intro a' c' e1 e2 e3 e4 e5
  have:=hQ a' c' e1 e2 e3 e4 e5
  cases x<;>exact this
 | .nilIf t d0 d1 p q,code,hchk=>by
  cases code<;>try (simp only[gD,Zn] at hchk;done)
  rename_i l q'
  cases l<;>try (simp only[gD,Zn] at hchk;done)
  rename_i r cd
  cases r<;>try (simp only[gD,Zn] at hchk;done)
  rename_i id ops draw
  cases cd<;>try (simp only[gD,Zn] at hchk;done)
  rename_i k p' sk
  cases k<;>try (simp only[gD,Zn] at hchk;done)
  rename_i e
  cases sk<;>try (simp only[gD,Zn] at hchk;done)
  simp only[gD,Zd,YG,ZC] at hchk
  obtain⟨⟨⟨⟨rfl,rfl⟩,ho⟩,hcp⟩,hcq⟩:=hchk
  have hp:=eJ hm hfo hcf hfn p p' hcp
  have hq:=eJ hm hfo hcf hfn q q' hcq
  split at ho
  .rename_i o1 o2 hops
   simp only[Zd] at ho
   intro c a tm x st' Q hs htr hfl hev hQ
   simp only[eS] at hev
   split at hev
   .rename_i hd0
    simp only[Zd] at hd0
    have hd0':d0<tm.length:=Zj hd0.1
    have hd1':e<tm.length:=Zj hd0.2
    have h3:RL c.H (aI tm<|.tmp t)≠3:=by
     intro h
     rw[h] at hev
     cases hev
    refine Xk<|Xk<|aHl hcf hfn hops ho.1 ho.2 hs htr hfl hd0' h3 ?_
    intro b a' c' hb0 hb1 e1 e2 e3 e4 e5
    have hval:a'.eval (.tmp e)=.bool b:=by
     let⟨v,k1,k2⟩:=e4.2 e (.lit<|.bool b)<|by simp[Nn,hd1']
     simp only[Act.eval,Yf,k1,Yp,k2.lit_inv]
    have e6:∀tm':List AV,(⟨tm',c'.H⟩:St)=⟨tm',c.H⟩:=λtm'=>by rw[e1]
    have joined:∀(pc:bS) (tm':List AV) (sa sb:St) (code:Code) (Q':Exit->Act->World->Prop),aBe P T fl (eS P cf lf fl pc) code->fl=c.H.length->sa.tmps.length=sb.tmps.length->
     (eS P cf lf fl pc ⟨tm',c.H⟩=some (.ret,sa)\/eS P cf lf fl pc ⟨tm',c.H⟩=some (.ret,sb))->TR (aL T) c' tm' a'.tmps->x=.ret->st'=⟨Um sa.tmps sb.tmps,c.H⟩->(∀a w,Q .ret a w->Q' .ret a w)->code.wp P Q' a' c'.w:=by
     intro pc tm' sa sb code Q' hok hflc hlen hor htr' hx hst hQ'
     subst hx hst
     have key:∀(s:St),eS P cf lf fl pc ⟨tm',c.H⟩=some (.ret,s)->(s=sa\/s=sb)->code.wp P Q' a' c'.w:=by
      intro s hes hss
      refine hok c' a' tm' .ret s Q' e3 htr' (ZB hfl e2.len) (by rw[e6];exact hes) ?_
      intro a'' c'' k1 k2 k3 k4 k5
      have hst2:=e2.trans k2
      rw[hflc] at hst2
      let⟨c2,m1,m2,m3,m4⟩:=aH5 hs k3 hst2
      rw[<-hflc] at m3
      have:=hQ a'' c2 m2 m3 m4 (aMs hlen<|by rcases hss with rfl | rfl;exact .inl k4;exact .inr k4)<|k5.trans e5
      rw[m1] at this
      exact hQ' _ _ this
     rcases hor with h | h
     .grind
     .grind
    show (Code.cond (.tmp e) p' .skip).wp P _ a' c'.w
    cases b with
    | true=>
     refine Wd hval ?_
     split at hev
     .rename_i hk
      unfold Qi at hev
      split at hev
      .rename_i x1 s1 he
       split at hev
       .grind
       .rename_i hne
        cases hev
        refine hp c' a' _ x st' _ e3 e4 (ZB hfl e2.len) (by rw[e6];exact he) ?_
        intro a'' c'' k1 k2 k3 k4 k5
        have:=hQ a'' c'' k1 (e2.trans k2) k3 k4<|k5.trans e5
        cases x with
        | normal=>grind
        | exit i=>exact this
        | ret=>exact this
      .grind
     .grind
     .rename_i hk
      split at hev
      .rename_i hb
       unfold aCm at hev
       split at hev
       .rename_i sa sb h1 h2
        split at hev
        .rename_i hl
         cases hev
         exact joined p _ sa sb p' _ hp (Zc hb) (Zc hl) (.inl h1) e4 rfl rfl λa w h=>h
        .grind
       .grind
      .grind
     .grind
    | false=>
     refine XJ hval<|W5 ?_
     show q'.wp P Q a' c'.w
     split at hev
     .grind
     .rename_i hk
      refine hq c' a' _ x st' _ e3 e4 (ZB hfl e2.len) (by rw[e6];exact hev) ?_
      intro a'' c'' k1 k2 k3 k4 k5
      exact hQ a'' c'' k1 (e2.trans k2) k3 k4<|k5.trans e5
     .rename_i hk
      split at hev
      .rename_i hb
       unfold aCm at hev
       split at hev
       .rename_i sa sb h1 h2
        split at hev
        .rename_i hl
         cases hev
         exact joined q _ sa sb q' _ hq (Zc hb) (Zc hl) (.inr h2) e4 rfl rfl λa w h=>h
        .cases hev
       .cases hev
      .cases hev
     .cases hev
   .cases hev
  .cases ho
 | .frz t q,code,hchk=>by
  have hq:=eJ hm hfo hcf hfn q code<|by cases code<;>(simp only[gD] at hchk;exact hchk)
  intro c a tm x st' Q hs htr hfl hev hQ
  simp only[eS] at hev
  split at hev
  .rename_i v H' he
   have key:∃c',c'.w=c.w/\c'.H=H'/\bV fl c c'/\bY (aL T) c'/\∀cv,RV (aL T) c (aI tm<|.tmp t) cv->RV (aL T) c' v cv:=by
    simp only[aM] at he
    split at he
    .rename_i id tot off len hx
     split at he
     .rename_i hle
      split at he
      .rename_i s es hob
       split at he
       .rename_i htot
        cases he
        exact⟨frz c id s es,rfl,rfl,tZ hle hob,Qd hs hob,λcv hcv=>T2 hs hob htot<|by rw[hx] at hcv;exact hcv⟩
       .cases he
      .cases he
     .cases he
    .rename_i id tot idx off hx
     split at he
     .rename_i hle
      split at he
      .rename_i s es hob
       split at he
       .rename_i htot
        split at he
        .rename_i e hi
         cases he
         exact⟨frz c id s es,rfl,rfl,tZ hle hob,Qd hs hob,λcv hcv=>aFq hs hob htot hi<|by rw[hx] at hcv;exact hcv⟩
        .cases he
       .cases he
      .cases he
     .cases he
    .cases he
     exact⟨c,rfl,rfl,bV.refl _ _,hs,λ_ h=>h⟩
   let⟨c',k1,k2,k3,k4,k5⟩:=key
   have htr':TR (aL T) c' (tm.set t v) a.tmps:=by
    refine⟨by simpa using htr.1,λu y hy=>?_⟩
    rw[Z5] at hy
    split at hy
    .rename_i hut
     subst hut
     split at hy
     .rename_i hlt
      cases hy
      let⟨cv,g1,g2⟩:=htr.2 t tm[t]<|Zb hlt
      refine⟨cv,g1,k5 cv ?_⟩
      simp only[aI,Zb hlt]
      exact g2
     .cases hy
    .let⟨cv,g1,g2⟩:=htr.2 u y hy
     exact⟨cv,g1,g2.step k3⟩
   have:=hq c' a (tm.set t v) x st' Q k4 htr' (ZB hfl k3.len) (by rw[k2];exact hev) λa' c'' e1 e2 e3 e4 e5=>hQ a' c'' e1 (k3.trans e2) e3 e4 e5
   rwa [k1] at this
  .cases hev
 | .stop,code,hchk=>by
  intro c a tm x st' Q hs htr hfl hev hQ
  simp only[eS] at hev
  cases hev
 | .mask lx lr tr q,code,hchk=>by
  have hq:=eJ hm hfo hcf hfn q code<|by cases code<;>(simp only[gD] at hchk;exact hchk)
  intro c a tm x st' Q hs htr hfl hev hQ
  simp only[eS,Fa] at hev
  split at hev
  .rename_i x1 st1 he
   have key:∀y,st'=dO (some lx) tr fl c.H.length st1->eS P cf lf fl q ⟨tm,c.H⟩=some (y,st1)->x=y->code.wp P Q a c.w:=by
    intro y e he e'
    subst e e'
    refine hq c a tm x st1 Q hs htr hfl he ?_
    intro a' c' e1 e2 e3 e4 e5
    let⟨c2,h1,h2,h3,h4,h5⟩:=yN (live:=some lx) (tr:=tr) hs e3 e2 hfl e4
    have e6:(⟨st1.tmps,c'.H⟩:St)=st1:=by rw[e1]
    rw[e6] at h2 h5
    have:=hQ a' c2 h2 h3 h4 h5 e5
    rwa [h1] at this
   split at hev
   .simp only[Za,Zi] at hev
    let⟨rfl,rfl⟩:=hev
    refine hq c a tm .ret st1 Q hs htr hfl he ?_
    intro a' c' e1 e2 e3 e4 e5
    exact hQ a' c' e1 e2 e3 (Iu lr _ _ e4) e5
   .simp only[Za,Zi] at hev
    let⟨rfl,rfl⟩:=hev
    exact key .normal rfl he rfl
   .rename_i i
    simp only[Za,Zi] at hev
    let⟨rfl,rfl⟩:=hev
    exact key (.exit i) rfl he rfl
  .cases hev
 | .told li lx lr q,code,hchk=>by
  have hq:=eJ hm hfo hcf hfn q code<|by cases code<;>(simp only[gD] at hchk;exact hchk)
  intro c a tm x st' Q hs htr hfl hev hQ
  simp only[eS,Fa] at hev
  split at hev
  .rename_i x1 st1 he
   have key:∀y,st'=dO (some lx) false fl c.H.length st1->eS P cf lf fl q ⟨cX li tm,c.H⟩=some (y,st1)->x=y->code.wp P Q a c.w:=by
    intro y e he e'
    subst e e'
    refine hq c a (cX li tm) x st1 Q hs (Iu li tm _ htr) hfl he ?_
    intro a' c' e1 e2 e3 e4 e5
    let⟨c2,h1,h2,h3,h4,h5⟩:=yN (live:=some lx) (tr:=false) hs e3 e2 hfl e4
    have e6:(⟨st1.tmps,c'.H⟩:St)=st1:=by rw[e1]
    rw[e6] at h2 h5
    have:=hQ a' c2 h2 h3 h4 h5 e5
    rwa [h1] at this
   split at hev
   .simp only[Za,Zi] at hev
    let⟨rfl,rfl⟩:=hev
    refine hq c a (cX li tm) .ret st1 Q hs (Iu li tm _ htr) hfl he ?_
    intro a' c' e1 e2 e3 e4 e5
    exact hQ a' c' e1 e2 e3 (Iu lr _ _ e4) e5
   .simp only[Za,Zi] at hev
    let⟨rfl,rfl⟩:=hev
    exact key .normal rfl he rfl
   .rename_i i
    simp only[Za,Zi] at hev
    let⟨rfl,rfl⟩:=hev
    exact key (.exit i) rfl he rfl
  .cases hev
 | .region draw ck aops,code,hchk=>by
  cases code<;>try (simp only[gD,Zn] at hchk;done)
  rename_i id ops draw'
  have hd:draw=draw':=by simp only[gD,Zd,ZC] at hchk;exact hchk.1.1
  subst hd
  intro c a tm x st' Q hs htr hfl hev hQ
  simp only[eS] at hev
  split at hev
  .rename_i st1 he
   simp only[Za,Zi] at hev
   let⟨rfl,rfl⟩:=hev
   exact T6 hm hfo hcf hfn hchk hs htr hfl he hQ
  .cases hev
 | .seq p q,code,hchk=>by
  cases code<;>try (simp only[gD,Zn] at hchk;done)
  rename_i p' q'
  simp only[gD,Zd] at hchk
  have hp:=eJ hm hfo hcf hfn p p' hchk.1
  have hq:=eJ hm hfo hcf hfn q q' hchk.2
  intro c a tm x st' Q hs htr hfl hev hQ
  simp only[eS] at hev
  refine Xk ?_
  split at hev
  .rename_i st1 he
   refine hp c a tm .normal st1 _ hs htr hfl he ?_
   intro a' c' e1 e2 e3 e4 e5
   show q'.wp P Q a' c'.w
   refine hq c' a' st1.tmps x st' Q e3 e4 (ZB hfl e2.len) (by rw[e1];exact hev) ?_
   intro a'' c'' f1 f2 f3 f4 f5
   exact hQ a'' c'' f1 (e2.trans f2) f3 f4<|f5.trans e5
  .rename_i r hne
   refine hp c a tm x st' _ hs htr hfl hev ?_
   intro a' c' e1 e2 e3 e4 e5
   have:=hQ a' c' e1 e2 e3 e4 e5
   cases x with
   | normal=>exact (hne st' hev).elim
   | exit id=>exact this
   | ret=>exact this
 | .cond k p q,code,hchk=>by
  cases code<;>try (simp only[gD,Zn] at hchk;done)
  rename_i k' p' q'
  simp only[gD,Zd] at hchk
  have hp:=eJ hm hfo hcf hfn p p' hchk.1.2
  have hq:=eJ hm hfo hcf hfn q q' hchk.2
  intro c a tm x st' Q hs htr hfl hev hQ
  have hk:=aZ hs htr hchk.1.1
  simp only[eS] at hev
  split at hev
  .rename_i hb
   rw[hb] at hk
   exact Wd hk.lit_inv<|hp c a tm x st' Q hs htr hfl hev hQ
  .rename_i hb
   rw[hb] at hk
   exact XJ hk.lit_inv<|hq c a tm x st' Q hs htr hfl hev hQ
  .cases hev
 | .block i p,code,hchk=>by
  cases code<;>try (simp only[gD,Zn] at hchk;done)
  rename_i i' p'
  simp only[gD,Zd,ZC] at hchk
  let⟨rfl,hchk⟩:=hchk
  have hp:=eJ hm hfo hcf hfn p p' hchk
  intro c a tm x st' Q hs htr hfl hev hQ
  simp only[eS] at hev
  refine WJ ?_
  split at hev
  .rename_i j st1 he
   refine hp c a tm (.exit j) st1 _ hs htr hfl he ?_
   intro a' c' e1 e2 e3 e4 e5
   simp only[Do,Exit.inBlock]
   split at hev
   .rename_i hj
    simp only[Za,Zi] at hev
    let⟨rfl,rfl⟩:=hev
    rw[Zu hj]
    exact hQ a' c' e1 e2 e3 e4 e5
   .rename_i hj
    simp only[Za,Zi] at hev
    let⟨rfl,rfl⟩:=hev
    rw[ZF hj]
    exact hQ a' c' e1 e2 e3 e4 e5
  .rename_i r hne
   refine hp c a tm x st' _ hs htr hfl hev ?_
   intro a' c' e1 e2 e3 e4 e5
   have:=hQ a' c' e1 e2 e3 e4 e5
   cases x with
   | normal=>exact this
   | exit id=>exact (hne id st' hev).elim
   | ret=>exact this
 | .loop live tr p,code,hchk=>by
  cases code<;>try (simp only[gD,Zn] at hchk;done)
  rename_i p'
  simp only[gD] at hchk
  have hp:=eJ hm hfo hcf hfn p p' hchk
  intro c a tm x st' Q hs htr hfl hev hQ
  simp only[eS] at hev
  exact XA lf<|b7 hp hs hfl hQ lf c a tm hs (bV.refl _ _) htr rfl hev
 | .loopV live lx lr t p,code,hchk=>by
  cases code<;>try (simp only[gD,Zn] at hchk;done)
  rename_i p'
  simp only[gD] at hchk
  have hp:=eJ hm hfo hcf hfn p p' hchk
  intro c a tm x st' Q hs htr hfl hev hQ
  simp only[eS] at hev
  split at hev
  .rename_i st1 hown
   let⟨c1,h1,h2,h3,h4,h5⟩:=aHc hs htr hown
   unfold aJ3 at hev
   split at hev
   .rename_i x1 st2 he
    have e6:st1=⟨st1.tmps,c1.H⟩:=by rw[h2]
    rw[e6] at he
    have key:∀y,st'=GA lx t fl c.H.length st2->x1=y->x=y->(Code.loop p').wp P Q a c.w:=by
     intro y e e1 e'
     subst e e1 e'
     rw[<-h1]
     refine XA lf<|Nr hp (c0:=c) hfl (λd tm tv k1 k2 k3=>Nz hs k1 k2 hfl k3) ?_ lf c1 a _ h4 h3 h5 rfl he
     intro a' c' e1 e2 e3 e4 e5
     let⟨c2,g1,g2,g3,g4,g5⟩:=Nz (live:=lx) (t:=t) hs e3 e2 hfl e4
     have e7:(⟨st2.tmps,c'.H⟩:St)=st2:=by rw[e1]
     rw[e7] at g2 g5
     have:=hQ a' c2 g2 g3 g4 g5 e5
     rwa [g1] at this
    split at hev
    .simp only[Za,Zi] at hev
     let⟨rfl,rfl⟩:=hev
     rw[<-h1]
     refine XA lf<|Nr hp (c0:=c) hfl (λd tm tv k1 k2 k3=>Nz hs k1 k2 hfl k3) ?_ lf c1 a _ h4 h3 h5 rfl he
     intro a' c' e1 e2 e3 e4 e5
     exact hQ a' c' e1 e2 e3 (Iu lr _ _ e4) e5
    .simp only[Za,Zi] at hev
     let⟨rfl,rfl⟩:=hev
     exact key .normal rfl rfl rfl
    .rename_i i
     simp only[Za,Zi] at hev
     let⟨rfl,rfl⟩:=hev
     exact key (.exit i) rfl rfl rfl
   .cases hev
  .cases hev
 | .exit i,code,hchk=>by
  cases code<;>try (simp only[gD,Zn] at hchk;done)
  rename_i i'
  simp only[gD,ZC] at hchk
  subst hchk
  intro c a tm x st' Q hs htr hfl hev hQ
  simp only[eS,Za,Zi] at hev
  let⟨rfl,rfl⟩:=hev
  exact wp_exit<|hQ a c rfl (bV.refl _ _) hs htr rfl
 | .ret,code,hchk=>by
  cases code<;>try (simp only[gD,Zn] at hchk;done)
  intro c a tm x st' Q hs htr hfl hev hQ
  simp only[eS,Za,Zi] at hev
  let⟨rfl,rfl⟩:=hev
  exact wp_ret<|hQ a c rfl (bV.refl _ _) hs htr rfl
end
section
variable {P:Program}{T:List cQ}{cf:Nat->Nat->List AV->aY->Option (AV×aY)}{fl lf m n:Nat}{st:St}
section
theorem n7[aH](b:An cf): ∀(l:List bR) (st st':St),(fl<=m/\m<=st.heap.length)->jF P cf fl l st=some st'->Fr fl m st.heap st'.heap
 | [],st,st',h,a=>by simp only[jF] at a;cases a;exact .refl h
 | o::r,st,st',h,a=>by
  simp only[jF] at a;split at a
  .rename_i c d;have k:=O9 b h d;exact k.trans<|n7 b r c st' (Fr.go h k) a
  .cases a
theorem sV[aH]{live:Option<|List Bool}{tr:Bool}(h:fl<=m/\m<=st.heap.length)(a:fl<=m/\m<=n): Fr fl m st.heap (dO live tr fl n st).heap:=by
 cases tr with
 | false=>exact .refl h
 | true=>
  simp only[dO,Zz];refine⟨?_,by simp;omega⟩;rw[Yg<|by simp;omega,Y9,Nat.min_self]
theorem j6[aH]{live:List Bool}{t:Nat}(h:fl<=m/\m<=st.heap.length)(b:fl<=m/\m<=n): Fr fl m st.heap (GA live t fl n st).heap:=by
 have a:=sV (live:=some live) (tr:=true) h b;unfold GA;split
 .split
  .split
   .refine⟨?_,by simp;omega⟩;simp only;rw[Ye,Yg<|by simp;omega,Y9,Nat.min_self]
   .exact a
  .exact a
 .exact a
theorem NE[aH]{b:St->St}{step:St->Option (cV×St)}(g:∀st,(fl<=m/\m<=st.heap.length)->Fr fl m st.heap (b st).heap)(d:∀st x st',(fl<=m/\m<=st.heap.length)->step st=some (x,st')->Fr fl m st.heap st'.heap):
 ∀(n:Nat) (st:St) (x:cV) (st':St),(fl<=m/\m<=st.heap.length)->fV b step n st=some (x,st')->Fr fl m st.heap st'.heap
 | 0,_,_,_,_,h=>by cases h
 | n+1,st,x,st',h,a=>by
  simp only[fV] at a;have c:=g st h;split at a
  .rename_i e he;have f:=d _ _ _ (Fr.go h c) he;exact (c.trans f).trans<|NE g d n e x st' (Fr.go h f) a
  .exact c.trans<|d _ _ _ (Fr.go h c) a
theorem kZ[aH](e:An cf): ∀(c:bS) (st:St) (x:cV) (st':St),(fl<=m/\m<=st.heap.length)->eS P cf lf fl c st=some (x,st')->Fr fl m st.heap st'.heap
 | .skip,st,x,st',h,d=>by simp only[eS] at d;cases d;exact .refl h
 | .exit _,st,x,st',h,d=>by simp only[eS] at d;cases d;exact .refl h
 | .ret,st,x,st',h,d=>by simp only[eS] at d;cases d;exact .refl h
 | .stop,st,x,st',h,d=>by simp only[eS] at d;cases d
 | .region _ y ops,st,x,st',h,d=>by
  simp only[eS] at d;split at d
  .rename_i g he;cases d;exact n7 e ops st _ h<|Qw he
  .cases d
 | .seq a b,st,x,st',h,d=>by
  simp only[eS] at d;split at d
  .rename_i g he;have k:=kZ e a st _ g h he;exact k.trans<|kZ e b g x st' (Fr.go h k) d
  .exact kZ e a st x st' h d
 | .cond c a b,st,x,st',h,d=>by
  simp only[eS] at d;split at d
  .exact kZ e a st x st' h d
  .exact kZ e b st x st' h d
  .cases d
 | .block id c,st,x,st',h,d=>by
  simp only[eS] at d;split at d
  .rename_i i g he;have k:=kZ e c st _ g h he;split at d<;>cases d<;>exact k
  .exact kZ e c st x st' h d
 | .loop live tr c,st,x,st',h,d=>by
  simp only[eS] at d;exact NE (λst k=>sV k h) (λst x st' k he=>kZ e c st x st' k he) lf st x st' h d
 | .frz t c,st,x,st',h,d=>by
  simp only[eS] at d;split at d
  .rename_i v H he;have k:=aA0 e h he;exact k.trans<|kZ e c _ x st' (Fr.go h k) d
  .cases d
 | .mask n s tr c,st,x,st',h,d=>by
  simp only[eS,Fa] at d;split at d
  .rename_i j g he;have k:=kZ e c st _ g h he;split at d
   .cases d;exact k
   .cases d;exact k.trans<|sV (Fr.go h k) h
   .cases d;exact k.trans<|sV (Fr.go h k) h
  .cases d
 | .told w n s c,st,x,st',h,d=>by
  simp only[eS,Fa] at d;split at d
  .rename_i j g he;have k:=kZ e c ⟨cX w st.tmps,st.heap⟩ _ g h he;split at d
   .cases d;exact k
   .cases d;exact k.trans<|sV (Fr.go h k) h
   .cases d;exact k.trans<|sV (Fr.go h k) h
  .cases d
 | .scope c,st,x,st',h,d=>by
  simp only[eS] at d;exact kZ e c st x st' h d
 | .nilIf t r q a b,st,x,st',h,d=>by
  simp only[eS] at d;split at d
  .split at d
   .unfold Qi at d;split at d
    .rename_i j z he;split at d
     .cases d
     .cases d;exact kZ e a ⟨Nn st.tmps t r q true,st.heap⟩ _ _ h he
    .cases d
   .exact kZ e b ⟨Nn st.tmps t r q false,st.heap⟩ _ _ h d
   .split at d
    .unfold aCm at d;split at d
     .split at d
      .cases d;exact .refl h
      .cases d
     .cases d
    .cases d
   .cases d
  .cases d
 | .loopV live n s t c,st,x,st',h,d=>by
  simp only[eS] at d;split at d
  .rename_i g f;have o:Fr fl m st.heap g.heap:=by
    unfold aF8 at f;split at f
    .split at f
     .rename_i p;split at f
      .split at f
       .cases f;exact (Fr.set h p).trans<|.app<|Fr.go h<|Fr.set h p
       .cases f
      .cases f
     .cases f
    .cases f
   unfold aJ3 at d;split at d
   .rename_i j l he;have u:=NE (λst k=>j6 k h) (λst x st' k he=>kZ e c st x st' k he) lf g _ l (Fr.go h o) he;have k:=o.trans u;split at d
    .cases d;exact k
    .cases d;exact k.trans<|j6 (Fr.go h k) h
    .cases d;exact k.trans<|j6 (Fr.go h k) h
   .cases d
  .cases d
end
theorem NF[aH](P:Program)(T:List cQ)(c:∀cf,An cf->An (Kb cf)): ∀n,An<|fC P T n
 | 0=>λ_ _ _ _ _ _ _ _ h=>by cases h
 | n+1=>λfl m vi b H r H' h a=>by
  simp only[fC] at a;split at a
  .rename_i g d;exact c _ (NF P T c n) fl m vi b H r H' h<|by simp only[Kb,d];exact a
  .split at a
   .cases a
   split at a
   .rename_i st he;split at a
    .cases a;exact kZ (NF P T c n) _ _ _ _ h he
    .cases a
   .rename_i st he;split at a
    .cases a;exact kZ (NF P T c n) _ _ _ _ h he
    .cases a
   .cases a
end
section
variable {P:Program}{T:List cQ}{c:dH}{st:St}{tv:Array Value}
section
theorem KO[aH](A:bY (aL T) c)(I:c.H=st.heap)(g:TR (aL T) c st.tmps tv): ∀(rs:List L1) (L:List ResultVar) (vs:List AV),Dq P rs L=true->lL st rs=some vs->
 ∃l:List Value,l.length=vs.length/\(∀(i:Nat) (x:AV),vs[i]?=some x->∃u,l[i]?=some u/\RV (aL T) c x u) /\
  (L.mapM (fun
   | .tmp t=>pure<|tv.getD t undef
   | .cell a t=>do loadVar t (<-asAddr<|tv.getD a undef):ResultVar->Sem Value)).run P c.w=.ok l c.w
 | [],[],vs,_,h=>by
  simp only[lL,Za] at h;subst h;exact⟨[],rfl,λi x d=>by simp at d,by simp⟩
 | .tmp t::r,q::s,vs,b,h=>by
  cases q with
  | cell a K=>simp[Dq] at b
  | tmp u=>
   simp only[Dq,Zd,ZC] at b;let⟨rfl,b⟩:=b;simp only[lL,Ow] at h;split at h
   .rename_i o k;cases h;let⟨l,E,D,C⟩:=KO A I g r s o b k;have G:=aZ (a:=⟨tv,[]⟩) A g (x:=.tmp t) (y:=.tmp t) (by simp[aR]);refine⟨tv.getD t undef::l,by simp[E],λi x d=>?_,?_⟩
    .cases i with
     | zero=>
      simp only[Zt,Za] at d;subst d;exact⟨tv.getD t undef,by rw[Zt],G⟩
     | succ i=>
      simp only[ZL] at d |-;exact D i x d
    .rw[Wt];simp only[YW,Y4,YK,C]
   .cases h
 | .cell t n agg::r,q::s,vs,b,h=>by
  cases q with
  | tmp u=>simp[Dq] at b
  | cell u K=>
   simp only[Dq,Zd,ZC] at b;let⟨⟨⟨⟨rfl,U⟩,J⟩,X⟩,b⟩:=b;simp only[lL] at h;split at h
   .rename_i v j;split at h
    .rename_i o k;cases h;let⟨l,E,D,C⟩:=KO A I g r s o b k;have G:=aZ (a:=⟨tv,[]⟩) A g (x:=.tmp t) (y:=.tmp t) (by simp[aR]);have m:∃u,(do loadVar K (<-asAddr<|tv.getD t undef):Sem Value).run P c.w=.ok u c.w/\RV (aL T) c v u:=by
      simp only[Ow] at j;split at j
      .rename_i cs B;rw[<-I] at B;let⟨ad,Z,V,O,f⟩:=AH A G B;have z:tv.getD t undef=.pointer (some ad):=V;cases agg with
       | true=>
        simp only[Zz,Za] at j;subst j;exact⟨_,by simp only[z,asAddr,YW,Y4,YK,xR f O J U rfl],Ij f⟩
       | false=>
        simp only[Zn,Z9] at j;split at j
        .cases j;let⟨u,S,Y,Q⟩:=f.2.2 0 v (by simp);have e:=f.2.1 0 u S;have R:ad.add 0=ad:=by simp[Addr.add]
         rw[R] at e;exact⟨u,by simp only[z,asAddr,YW,Y4,YK,Ju e J],Q⟩
        .cases j
      .cases j
     let⟨u,M,W⟩:=m;refine⟨u::l,by simp[E],λi x d=>?_,?_⟩
     .cases i with
      | zero=>
       simp only[Zt,Za] at d;subst d;exact⟨u,by simp,W⟩
      | succ i=>
       simp only[ZL] at d |-;exact D i x d
     .rw[Wt];simp only[YW,Y4,YK,C] at M |-;rw[M];simp only[YK,C]
    .cases h
   .cases h
 | [],_::_,_,b,_=>by cases b
 | .tmp _::_,[],_,b,_=>by cases b
 | .cell _ _ _::_,[],_,b,_=>by cases b
theorem PB[aH]{fn:Func}{rs:List L1}{vs:List AV}(q:bY (aL T) c)(o:c.H=st.heap)(l:TR (aL T) c st.tmps tv)(p:Dq P rs fn.results.toList=true)(h:lL st rs=some vs):
 ∃v,(results fn tv).run P c.w=.ok v c.w/\RV (aL T) c (kC vs) v:=by
 let⟨a,j,k,s⟩:=KO q o l rs fn.results.toList vs p h;refine⟨if t:a.toArray.size=1 then a.toArray[0] else .tuple a.toArray,?_,?_⟩
 .unfold results;rw[Array.mapM_eq_mapM_toList];simp only[YW,Sem.run_map,Y4];refine Eq.trans (congrArg (λr=>(Result.andThen (Result.andThen r _) _))<|Eq.trans ?_ s) rfl;congr 2
 .unfold kC;split
  .rename_i v;have g:a.length=1:=by simpa using j
   let⟨u,d,m⟩:=k 0 v (by simp);have b:a.toArray.size=1:=by simpa using g
   rw[Wz b];have:a.toArray[0]=u:=by
    have:a.toArray[0]?=some u:=by simpa using d
    rw[Z6<|by omega] at this;exact ZR this
   rw[this];exact m
  .rename_i f;have b:¬a.toArray.size=1:=by
    intro e;have g:vs.length=1:=by rw[<-j];simpa using e
    match vs,g with
    | [v],_=>exact f v rfl
   rw[dif_neg b];refine .tup vs a.toArray (λi=>(a[i]?).getD bL) (by simpa using j) ?_ ?_
   .intro i x n;let⟨u,d,_⟩:=k i x n;simp[d]
   .intro i x n;let⟨u,d,m⟩:=k i x n;simpa [d] using m
theorem QD{F:cQ}(h:Jf P T F=true): ∃fn a,P.funcs[F.fid]?=some fn/\fn.body=some a/\gD P T F.body a=true/\fn.ntmps=F.nt/\Dq P F.rets fn.results.toList=true/\(fn.name== "runtime.NumGoroutine")=false:=by
 unfold Jf at h;split at h
 .rename_i fn c;split at h
  .rename_i a b;simp only[Zd,ZC,YG] at h;exact⟨fn,a,c,b,h.1.1.1,h.1.1.2,h.1.2,h.2⟩
  .cases h
 .cases h
def Checked(P:Program)(T:List cQ): Prop:=∀F∈T,Jf P T F=true
theorem aCz[aH](h:Checked P T): oQ P T:=by
 intro vi f a;unfold aL at a;split at a
 .rename_i F g;cases a;let⟨fn,b,e,d,_,_,_,c⟩:=QD<|h F<|Zg g;exact⟨fn,e,by simp[d],c⟩
 .cases a
structure aEN[aH](P:Program)(T:List cQ): Prop where
 fl:∀cf,An cf->An (Kb cf)
 ok:∀cf,Au P T cf->Au P T (Kb cf)
theorem P0[aH](I:P.follows .mixedOrders=true)(y:Checked P T)(C:aEN P T): ∀n,Au P T<|fC P T n
 | 0=>by
  intro fl vi f b r H' c vs a;cases a
 | n+1=>by
  have L:=P0 I y C n;intro fl vi f b r H' c vs a m O k d;simp only[fC] at a;split at a
  .rename_i g V;exact C.ok _ L fl vi f b r H' c vs (by simp only[Kb,V];exact a) m O k d
  split at a
  .cases a
  .rename_i F E;have B:f=F.fid:=by
    unfold aL at m;rw[E] at m;exact (ZR m).symm
   subst B;let⟨fn,i,W,Y,R,M,U,_⟩:=QD<|y F<|Zg E;refine calls_of_wp W Y ?_;have s:TR (aL T) c (b++List.replicate (F.nt-b.length) (.lit bL))<|vs++Array.replicate (fn.ntmps-vs.size) undef:=by
    refine⟨by simp[d.1,M],λt x h=>?_⟩;rw[Yk] at h;rw[XX,d.1];split at h
    .rename_i A;rw[Zu A];exact d.2 t x h
    .rename_i A;rw[ZF A];rw[XP] at h;split at h
     .rename_i q;cases h;refine⟨undef,?_,RV.lit _⟩;rw[XN,Zu<|by rw[M];exact q]
     .cases h
   have j:=eJ (fl:=fl) (lf:=n) I (NF P T C.fl n) L (aCz y) F.body i R;have l:∀(x:cV) (st:St),(x=.normal\/x=.ret)->eS P (fC P T n) n fl F.body ⟨b++List.replicate (F.nt-b.length) (.lit bL),c.H⟩=some (x,st)->
    (match lL st F.rets with | some Q=>some (kC Q,st.heap) | none=>none)=some (r,H')->
    i.wp P (bodyPost P fn λe w'=>∃v c',e=.returned v/\c'.w=w'/\c'.H=H'/\c'.X=c.X/\bV fl c c'/\bY (aL T) c'/\RV (aL T) c' r v)
     { tmps:=vs++Array.replicate (fn.ntmps-vs.size) undef,defers:=[] } c.w:=by
    intro x st h he p;split at p
    .rename_i Q z;simp only[Za,Zi] at p;let⟨rfl,rfl⟩:=p;refine j c _ _ x st _ O s k he ?_;intro a' c' u e2 D S K;let⟨v,N,G⟩:=PB (fn:=fn) D u S U z;rcases h with rfl | rfl
     .exact⟨K,v,N,v,c',rfl,rfl,u,e2.X,e2,D,G⟩
     .exact⟨K,v,N,v,c',rfl,rfl,u,e2.X,e2,D,G⟩
    .cases p
   split at a
   .rename_i st he;exact l .normal st (.inl rfl) he a
   .rename_i st he;exact l .ret st (.inr rfl) he a
   .cases a
end
end
section
open Go.RowKit
def mxL: Nat:=140737488355328
def wL(P:Program): Nat->TypeId->List AV->Prop
 | 0,_,_=>False
 | n+1,t,xs=>
  match P.underlying t with
  | some .bool=>∃b,xs=[.lit<|.bool b]
  | some (.int k)=>∃z,(Lit.int k z).wf=true/\xs=[.lit<|.int k z]
  | some .string=>∃s:ByteArray,s.size<=maxLen/\xs=[.lit<|.string s]
  | some (.slice e)=>∃es:List<|List AV,xs=[.sl false es]/\es.length<=mxL/\∀x∈es,wL P n e x
  | some (.struct fs)=>∃ps:List<|List AV,xs=ps.flatten/\ps.length=fs.size/\∀(i:Nat) (f:Field) (p:List AV),fs[i]?=some f->ps[i]?=some p->wL P n f.type p
  | some (.array m e)=>∃ps:List<|List AV,xs=ps.flatten/\ps.length=m/\∀p∈ps,wL P n e p
  | _=>False
def u9(P:Program): Nat->List Field->Nat->Bool
 | o,[],tot=>o==tot
 | o,f::r,tot=>f.offset==o&&u9 P (o+P.cellsOf f.type) r tot
def okT(P:Program): Nat->TypeId->Bool
 | 0,_=>false
 | n+1,t=>
  match P.underlying t with
  | some .bool=>true
  | some (.int _)=>true
  | some .string=>true
  | some (.slice e)=>decide (0<P.cellsOf e)&&(decide (0<P.bytesOf e)&&okT P n e)
  | some (.struct fs)=>u9 P 0 fs.toList (P.cellsOf t)&&fs.toList.all λf=>okT P n f.type
  | some (.array m e)=>P.cellsOf t==m*P.cellsOf e&&okT P n e
  | _=>false
def CR(w:World)(xs:List AV)(cs:List Value): Prop:=
 xs.length=cs.length/\∀(j:Nat) (x:AV),xs[j]?=some x->∃v,cs[j]?=some v/\bC v=true/\RP w (λ_=>True) x v
variable {FT:Nat->Option Nat}{H:Type}{P:Program}{W:World}{a:Addr}{base:Nat}{enc:TypeId×Value->H}{held:Bool}{n:Nat}{spare:Nat->Bool}{v:Value}{w:World}{α:Type}
theorem CR.nil: CR w [] []:=⟨rfl,λj x h=>by simp at h⟩
theorem CR.one{x:AV}(b:bC v=true)(h:RP w (λ_=>True) x v): CR w [x] [v]:=
 ⟨rfl,λj y a=>by
  cases j with
  | zero=>simp only[Zt,Za] at a;subst a;exact⟨v,by simp,b,h⟩
  | succ j=>simp at a⟩
theorem CR.append{c ys:List AV}{cs ds:List Value}(h:CR w c cs)(k:CR w ys ds): CR w (c++ys)<|cs++ds:=
 ⟨by simp[h.1,k.1],λj x b=>by
  rw[Yk] at b |-;rw[h.1] at b;split at b
  .rename_i a;rw[Zu a];exact h.2 j x b
  .rename_i a;rw[ZF a];exact k.2 _ x b⟩
theorem CR.flatten[aH]: ∀{b:List<|List AV} {a:List<|List Value},b.length=a.length->(∀(i:Nat) p q,b[i]?=some p->a[i]?=some q->CR w p q)->CR w b.flatten a.flatten
 | [],[],_,_=>CR.nil
 | [],_::_,h,_=>by simp at h
 | _::_,[],h,_=>by simp at h
 | p::b,q::a,h,k=>by
  simp only[Yt];exact (k 0 p q rfl rfl).append<|CR.flatten (by simpa using h) λi p' q' d c=>k (i+1) p' q' (by simpa using d)<|by simpa using c
theorem Bu[aH]{Q:Nat->α->Prop}: ∀n,(∀i,i<n->∃x,Q i x)->∃l:List α,l.length=n/\∀i x,l[i]?=some x->Q i x
 | 0,_=>⟨[],rfl,λi x h=>by simp at h⟩
 | n+1,h=>by
  let⟨l,b,d⟩:=Bu n λi e=>h i (by omega);let⟨x,c⟩:=h n (by omega);refine⟨l++[x],by simp[b],λi y a=>?_⟩;rw[Yk] at a;split at a
  .exact d i y a
  .have:i=n:=by
    rcases ZI (i-l.length) 1 with h | h
    .omega
    .rw[Zy<|by simpa using h] at a;cases a
   subst this;rw[b] at a;simp at a;subst a;exact c
theorem QB[aH](cs:List α){tot:Nat}(c:cs.length=tot): ∀(a:List Field) (o:Nat),u9 P o a tot=true->
 cs.drop o=(a.map λf=>(cs.drop f.offset).take<|P.cellsOf f.type).flatten
 | [],o,h=>by
  simp only[u9,ZC] at h;simp only[Yn,Xd,WS];omega
 | f::r,o,h=>by
  simp only[u9,Zd,ZC] at h;let⟨d,b⟩:=h;have e:=QB cs c r _ b;simp only[ZE,Yt,<-e,d];rw[<-XD,YT]
theorem EA[aH](s:Nat): ∀(m o:Nat) (cs:List α),cs.length=o+m*s->
 cs.drop o=((List.range m).map λi=>(cs.drop<|o+i*s).take s).flatten
 | 0,o,cs,h=>by simp[WS];omega
 | m+1,o,cs,h=>by
  have a:=EA s m (o+s) cs (by rw[h,Xx];omega);rw[List.range_succ_eq_map];simp only[ZE,Ya,Yt];have e:((List.range m).map<|(λi=>(cs.drop<|o+i*s).take s)∘Nat.succ)=(List.range m).map λi=>(cs.drop<|o+s+i*s).take s:=by
   refine ZS λi _=>?_;simp only[Function.comp,Xx];congr 2;omega
  rw[e,<-a,YQ,Xm,<-XD,YT]
section
theorem cells?_get{l:List Value}(h:w.cells? base a n=some l): l.length=n/\∀i,i<n->w.cell? (a.add i)=l[i]?:=by
 unfold World.cells? at h;split at h
 .exact⟨by simpa using mapM_some_length h,λi c=>mapM_some_get h i i<|by simp[c]⟩
 .cases h
theorem cell?_inv(h:w.cell? a=some v): ∃c T b,w.heap[a.block]?=some (.cells c T b)/\a.spot=none/\c[a.off]?=some v:=by
 unfold World.cell? at h;split at h
 .rename_i c T b d;split at h
  .cases h
  .rename_i e;exact⟨c,T,b,d,by simpa using e,h⟩
 .cases h
theorem aG9(a:Addr)(n:Nat): (a.add n).off=a.off+n:=by
 unfold Addr.add;split
 .rename_i h;simp[h]
 .rfl
theorem aIp{e:TypeId}: ∀{ds:List<|DataW H} {i:Nat} {d:DataW H},ds[i]?=some d->∀n∈d.weights P e,n∈DataW.weightsAll P e ds
 | [],_,_,h,_,_=>by simp at h
 | b::ds,0,d,h,n,a=>by
  simp only[Zt,Za] at h;subst h;simp only[DataW.weightsAll,ZD];exact .inl a
 | b::ds,i+1,d,h,n,a=>by
  simp only[DataW.weightsAll,ZD];exact .inr<|aIp (by simpa using h) n a
theorem Ht[aH]: ∀(n:Nat) (t:TypeId) (cs:List Value) (x:DataW H×List MemPlace) (F:Nat),okT P n t=true->DataW.trod enc P w base spare held F t cs=some x->(∀n∈x.1.weights P t,n<=reachBytes)->∃xs,wL P n t xs/\CR w xs cs
 | 0,t,cs,x,F,A,_,_=>by simp[okT] at A
 | n+1,t,cs,x,F,A,h,O=>by
  unfold okT at A;unfold wL;split at A
  .rename_i C;obtain⟨b,rfl,_⟩:=DataW.trod_bool C h;exact⟨_,⟨b,rfl⟩,CR.one rfl<|.lit _⟩
  .rename_i k C;obtain⟨z,rfl,_,hw⟩:=X2 C h;exact⟨_,⟨z,hw,rfl⟩,CR.one rfl<|.lit _⟩
  .rename_i C;obtain⟨z,rfl,_,hw⟩:=DataW.trod_string C h;exact⟨_,⟨z,hw,rfl⟩,CR.one rfl<|.lit _⟩
  .rename_i e C;simp only[Zd,Z4] at A;let⟨c3,a3,A⟩:=A;rcases DataW.trod_slice C h with⟨rfl,_⟩ | ⟨a,len,cap,g,rest,m,_,rfl,rfl,_,e3,d3,e1,G,_,_⟩
   .exact⟨_,⟨[],rfl,by simp,λx D=>by cases D⟩,CR.one rfl<|.nil _ _ _<|by simp⟩
   .have u:∀i,i<len->∃y:List AV,wL P n e y/\∃l,w.cells? base (a.add<|i*P.cellsOf e) (P.cellsOf e)=some l/\CR w y l:=by
     intro i s;have J:=G i s;have h2:g[i]?=some g[i]:=Zb (by omega);rw[h2] at J;cases hc:w.cells? base (a.add<|i*P.cellsOf e) (P.cellsOf e) with
     | none=>rw[hc] at J;simp at J
     | some l=>
      rw[hc] at J;let⟨y,E,R⟩:=Ht n e l _ m A (by simpa using J) λz hz=>O z<|by
       simp only[DataW.weights,C,ZN,ZD];exact .inr<|.inl<|aIp (ds:=g.map (·.1)) (i:=i) (by rw[Zk,h2];rfl) z hz
      exact⟨y,E,l,rfl,R⟩
    let⟨es,d,Z⟩:=Bu len u;have b1:es.length<=mxL:=by
     have:=O ((g.length+rest.length)*P.bytesOf e) (by simp only[DataW.weights,C,ZN,ZO];exact .inl trivial);have h3:=Nat.le_mul_of_pos_right (g.length+rest.length) a3;have h4:=reachBytes_lt;show _<=140737488355328;omega
    refine⟨[.sl false es],⟨es,rfl,b1,λy hy=>?_⟩,CR.one rfl ?_⟩
    .obtain⟨i,s,rfl⟩:=Xs.1 hy;exact (Z i _<|Zb s).1
    .by_cases h0:es=[]
     .subst h0;simp at d;subst d;exact .nil _ _ _<|by simp
     .have e2:0<len:=by
       rcases XB len with h | h
       .rw[h] at d;exact absurd (ZK.1 d) h0
       .exact h
      have L:∀i j x,bI es i j=some x->∃v,w.cell? ((a.add<|i*P.cellsOf e).add j)=some v/\bC v=true/\RP w (λ_=>True) x v/\j<P.cellsOf e:=by
       intro i j x D;unfold bI at D;cases s:es[i]? with
       | none=>rw[s] at D;cases D
       | some y=>
        rw[s] at D;let⟨_,l,E,R⟩:=Z i y s;let⟨v,B,W,N⟩:=R.2 j x D;let⟨c1,c2⟩:=cells?_get E;have hj:j<P.cellsOf e:=by
         rcases ZI j (P.cellsOf e) with h | h
         .exact h
         .rw[Zy<|by omega] at B;cases B
        exact⟨v,(c2 j hj).trans B,W,N,hj⟩
      have M:∀y∈es,y.length=P.cellsOf e:=by
       intro y hy;obtain⟨i,s,rfl⟩:=Xs.1 hy;let⟨_,l,E,R⟩:=Z i _<|Zb s;rw[R.1];exact (cells?_get E).1
      have a1:∃x,bI es 0 0=some x:=by
       cases es with
       | nil=>exact absurd rfl h0
       | cons y r=>
        have:=M y (by simp);exact⟨y[0],by simp[bI]⟩
      let⟨x0,a1⟩:=a1;let⟨v0,B,_,_,_⟩:=L 0 0 x0 a1;let⟨c,T,fz,hb,Y,_⟩:=cell?_inv B;simp only[YQ,Addr.add,Zz] at hb Y;let⟨ab,ao,d2⟩:=a;simp only at hb Y;subst Y;have X:∀i j x,bI es i j=some x->∃v,c[ao+(i*P.cellsOf e+j)]?=some v/\bC v=true/\RP w (λ_=>True) x v:=by
       intro i j x D;let⟨v,B,W,N,_⟩:=L i j x D;let⟨c',T',f1,E,_,k3⟩:=cell?_inv B;rw[ChangeShapes.block_add,ChangeShapes.block_add] at E;rw[hb] at E;cases E;rw[aG9,aG9,Yu] at k3;exact⟨v,k3,W,N⟩
      have hr:RP w (λ_=>True) (.sl false es)<|.slice (some ⟨ab,ao,none⟩) es.length cap:=by
       refine .sl false es ab ao cap c T fz (P.cellsOf e) (λi j=>(c[ao+(i*P.cellsOf e+j)]?).getD undef) h0 trivial hb M (by omega) (by simp) ?_ ?_
       .intro i j x D;let⟨v,B,W,N⟩:=X i j x D;exact⟨by rw[B];rfl,by rw[B];exact W⟩
       .intro i j x D;let⟨v,B,W,N⟩:=X i j x D;show RP w _ x<|(c[ao+(i*P.cellsOf e+j)]?).getD undef;rw[B];exact N
      rw[d] at hr;exact hr
  .rename_i U C;simp only[Zd,Yl] at A;let⟨K,A⟩:=A;obtain⟨ys,m,_,rfl,hl,b3,G⟩:=W8 C h;have u:∀i,i<U.size->∃y:List AV,∃f,U[i]?=some f/\wL P n f.type y/\CR w y ((cs.drop f.offset).take<|P.cellsOf f.type):=by
    intro i s;have hf:U[i]?=some U[i]:=by simp[s]
    have J:=G i _ hf;rw[Zb<|by omega] at J;let⟨y,E,R⟩:=Ht n _ _ _ m (A U[i]<|by simp) J λz hz=>O z<|by
     simp only[DataW.weights,C];exact DataW.weights_mem_each (j:=i) (by rw[Zk];simp[s]) (by rw[Zk,Zb<|by omega];rfl) z hz
    exact⟨y,_,hf,E,R⟩
   let⟨ps,d,I⟩:=Bu U.size u;refine⟨ps.flatten,⟨ps,rfl,d,λi f p hf S=>?_⟩,?_⟩
   .let⟨f',B,W,_⟩:=I i p S;rw[hf] at B;cases B;exact W
   .have e:=QB (P:=P) cs hl U.toList 0 K;rw[YD] at e;rw[e];refine CR.flatten (by simp[d]) λi p q S Q=>?_;let⟨f,B,_,N⟩:=I i p S;rw[Zk] at Q;have:U.toList[i]?=some f:=by simpa using B
    rw[this] at Q;simp only[Yz,Za] at Q;subst Q;exact N
  .rename_i m e C;simp only[Zd,ZC] at A;let⟨K,A⟩:=A;obtain⟨ys,m',_,rfl,hl,b3,G⟩:=DataW.trod_array C h;have u:∀i,i<m->∃y:List AV,wL P n e y/\CR w y ((cs.drop<|i*P.cellsOf e).take<|P.cellsOf e):=by
    intro i s;have J:=G i s;rw[Zb<|by omega] at J;let⟨y,E,R⟩:=Ht n _ _ _ m' A J λz hz=>O z<|by
     simp only[DataW.weights,C];exact aIp (i:=i) (by rw[Zk,Zb<|by omega];rfl) z hz
    exact⟨y,E,R⟩
   let⟨ps,d,I⟩:=Bu m u;refine⟨ps.flatten,⟨ps,rfl,d,λp S=>?_⟩,?_⟩
   .obtain⟨i,s,rfl⟩:=Xs.1 S;exact (I i _<|Zb s).1
   .have e':=EA (P.cellsOf e) m 0 cs (by rw[hl,K];omega);rw[YD] at e';rw[e'];refine CR.flatten (by simp[d]) λi p q S Q=>?_;let⟨_,N⟩:=I i p S;rw[Zk] at Q;have s:i<m:=by
     rcases ZI i m with h | h
     .exact h
     .rw[Zy<|by omega] at S;cases S
    rw[YY s] at Q;simp only[Yz,Za,Z0] at Q;subst Q;exact N
  .cases A
def isAgg(P:Program)(t:TypeId): Bool:=
 match P.underlying t with
 | some (.struct _)=>true
 | some (.array _ _)=>true
 | _=>false
def QG(P:Program)(t:TypeId)(xs:List AV): AV:=
 match isAgg P t with
 | true=>.agg xs
 | false=>xs.headD .undef
def Pw(P:Program)(n:Nat): List TypeId->List AV->Prop
 | [],[]=>True
 | t::ts,x::xs=>(∃ys,wL P n t ys/\x=QG P t ys)/\Pw P n ts xs
 | _,_=>False
def top(W:World): dH:=⟨W,λ_=>False,λ_=>none,[]⟩
theorem R8(W:World)(b:Nat): lM (top W) b:=⟨λh=>h,λid h=>by cases h⟩
theorem aLd[aH](FT:Nat->Option Nat)(W:World)(g:tX<|top W): bY FT (top W) where
 gl:=g;inj:=λ_ _ _ h=>by cases h
 dom:=λ_ _ h=>by cases h
 nx:=λ_ _ h=>by cases h
 fresh:=λ_ _ h=>h;lens:=λid s es h=>by simp[top] at h
 blk:=λid s es b h=>by simp[top] at h
 map:=λid es b h=>by simp[top] at h
 raw:=λid q b h=>by simp[top] at h
theorem aO7[aH]{j:Nat}{t:TypeId}{d:DataW H}{N:List MemPlace}(a:Value.okWide P w .any j t v)(Q:okT P n t=true)(h:DataW.Trod enc P w base spare held t v d N)(E:∀n∈d.weights P t,n<=reachBytes): ∃ys,wL P n t ys/\RV FT (top w) (QG P t ys) v:=by
 let⟨q,h⟩:=h;let⟨ys,M,p⟩:=Ht n t _ _ q Q h E;refine⟨ys,M,?_⟩;have z:∀{x:AV} {u:Value},RP w (λ_=>True) x u->RP (top w).w (lM<|top w) x u:=λR=>R.mono λb o _ O=>⟨R8 w b,O⟩;have f:∀cs:Array Value,v=.agg cs->RV FT (top w) (.agg ys) v:=by
  intro cs e;subst e;simp only[Value.cells] at p;refine .agg ys cs (λi=>(cs[i]?).getD undef) (by have:=p.1;simpa using this.symm) (λi x C=>?_) λi x C=>?_
  .let⟨u,l,L,A⟩:=p.2 i x C;have:cs[i]?=some u:=by simpa using l
   exact⟨by rw[this];rfl,by rw[this];exact L⟩
  .let⟨u,l,L,A⟩:=p.2 i x C;have:cs[i]?=some u:=by simpa using l
   show RV FT (top w) x<|(cs[i]?).getD undef;rw[this];exact .pure _ _<|z A
 unfold Value.okWide at a;unfold QG isAgg;split at a
 .rename_i S k;obtain⟨cs,rfl,_⟩:=a;simp only[k];exact f cs rfl
 .rename_i m e k;obtain⟨cs,rfl,_⟩:=a;simp only[k];exact f cs rfl
 .rename_i I D;have G:∀cs,v≠.agg cs:=by
   intro cs e;subst e;unfold Cell.okWide Cell.ok at a;revert a;cases P.underlying t with
   | none=>simp
   | some u=>cases u<;>simp
  have c:v.cells=#[v]:=by
   cases v<;>first | rfl | exact absurd rfl (G _)
  rw[c] at p;have:(match P.underlying t with | some (.struct _)=>true | some (.array _ _)=>true | _=>false)=false:=by
   split
   .rename_i k;exact absurd k<|I _
   .rename_i k;exact absurd k<|D _ _
   .rfl
  rw[this];let⟨B,g⟩:=p;match ys,B,g with
  | [],B,_=>simp at B
  | y::r,_,g=>
   let⟨u,l,_,A⟩:=g 0 y rfl;simp at l;subst l;exact .pure _ _<|z A
theorem aFr[aH]{b:Nat}: ∀(ts:List TypeId) (vs:List Value) (ds:List<|DataW H) (m:List MemPlace),
 (∀(j:Nat) t v,ts[j]?=some t->vs[j]?=some v->Value.okWide P w .any b t v)->ts.all (okT P n)=true->DataW.TrodAll enc P w base spare held ts vs ds m->(∀n∈DataW.weightsEach P ts ds,n<=reachBytes)->
 ∃f,Pw P n ts f/\f.length=vs.length/\∀(i:Nat) x,f[i]?=some x->∃v,vs[i]?=some v/\RV FT (top w) x v
 | [],[],[],_,_,_,_,_=>⟨[],trivial,rfl,λi x c=>by simp at c⟩
 | t::ts,v::vs,d::ds,m,e,k,h,a=>by
  let⟨p,q,u,C,_⟩:=h;simp only[DataW.weightsEach,ZD] at a;simp only[XM,Zd] at k;let⟨ys,y,D⟩:=aO7 (FT:=FT) (e 0 t v rfl rfl) k.1 u λn g=>a n<|.inl g;obtain⟨f,E,A,z⟩:=aFr ts vs ds q (λj s B F e2=>e (j+1) s B (by simpa using F)<|by simpa using e2) k.2 C λn g=>a n<|.inr g;refine⟨QG P t ys::f,⟨⟨ys,y,rfl⟩,E⟩,by simp[A],λi x c=>?_⟩;cases i with
  | zero=>
   simp only[Zt,Za] at c;subst c;exact⟨v,rfl,D⟩
  | succ i=>
   simp only[ZL] at c |-;exact z i x c
 | [],[],_::_,_,_,_,h,_=>h.elim
 | [],_::_,_,_,_,_,h,_=>h.elim
 | _::_,[],_,_,_,_,h,_=>h.elim
 | _::_,_::_,[],_,_,_,h,_=>h.elim
theorem Ug[aH]{ts:List TypeId}(k:laidOutB P=true){i:World}(j:Below W.heap.size W i): ∀(ts:List TypeId) (vs:List Value) (ds:List<|DataW H) (c:List MemPlace),
 (∀t∈ts,P.readableRec t=true/\t<P.types.size)->(∀x∈c,x.block<W.heap.size)->DataW.TrodAll enc P W 0 (λ_=>true) true ts vs ds c->
 DataW.TrodAll enc P i 0 (λb=>decide<|b<W.heap.size) true ts vs ds c
 | [],[],[],_,_,_,h=>h
 | t::ts,v::vs,d::ds,c,e,a,h=>by
  obtain⟨p,q,m,n,rfl⟩:=h;exact⟨p,q,Below.trod k (e t<|by simp).1 (e t<|by simp).2 m j λx g=>a x<|by simp[g],
   Ug (ts:=ts) k j ts vs ds q (λl f=>e l<|by simp[f]) (λx g=>a x<|by simp[g]) n,rfl⟩
 | [],[],_::_,_,_,_,h=>h.elim
 | [],_::_,_,_,_,_,h=>h.elim
 | _::_,[],_,_,_,_,h=>h.elim
 | _::_,_::_,[],_,_,_,h=>h.elim
theorem aAe[aH]{T:List cQ}(hm:P.follows .mixedOrders=true)(hT:Checked P T)(I:aEN P T){vi f:Nat}{fn:Func}(E:aL T vi=some f){s:ChangeSpec}(b:s.vars=[]){tb:TypeId}(Q:fn.resultTypes=#[tb])(B:P.underlying tb=some .bool)(Y:laidOutB P=true)(N:∀t∈fn.params.toList,P.readableRec t=true/\t<P.types.size)(R:fn.params.toList.all (okT P n)=true)(J:∀y,Pw P n fn.params.toList y->∃k H',fC P T k 0 vi y []=some (.lit<|.bool true,H')){o:Nat}{a:Array Value}{ds u:List<|DataW H}{g:List MemPlace}{l c:Bool}(M:tX<|top W)(r:(s.fn H<|ds++u).results=[.lit<|.bool true]/\(s.fn H<|ds++u).args=ds/\(s.fn H<|ds++u).vars=[])(A:∀(j:Nat) t v,fn.params[j]?=some t->a[j]?=some v->Value.okWide P W .any o t v)(V:DataW.Whole enc P fn.params.toList s.vars false W a.toList ds u g)(D:∀n∈DataW.weightsEach P fn.params.toList ds,n<=reachBytes):
 Calls P f a W λe X=>∃v,e=.returned v/\s.post enc P fn false l c false W a v X:=by
 have z:=V;obtain⟨p,q,U,O,rfl,a2,a1⟩:=V;let⟨y,g1,Z,g3⟩:=aFr (FT:=aL T) (n:=n) fn.params.toList a.toList ds p (λj t v e1 e2=>A j t v (by simpa using e1)<|by simpa using e2) R U D;let⟨k,H',he⟩:=J y g1;have m:lO (aL T) (top W) y a:=⟨by simpa using Z.symm,λi x C=>by
  let⟨v,h1,h2⟩:=g3 i x C;exact⟨v,by simpa using h1,h2⟩⟩
 refine (P0 hm hT I k 0 vi f y _ H' (top W) a he E (aLd _ W M) (ZG _) m).mono λe X hq=>?_;obtain⟨v,c',rfl,rfl,_,_,d,_,L⟩:=hq;have hv:v=.bool true:=L.lit_inv;subst hv;have S:Below W.heap.size W c'.w:=⟨d.os,d.tape,d.output,d.size,λi hi=>d.frame i hi λid h=>by cases h⟩;have K:u=[]/\q=[]:=by
  rw[b] at O;cases u with
  | nil=>exact⟨rfl,O⟩
  | cons _ _=>exact O.elim
 obtain⟨rfl,rfl⟩:=K;have F:∀x∈p,x.block<W.heap.size:=λx C=>z.lt x (by simpa using C);have G:=Ug (ts:=[]) Y S fn.params.toList a.toList ds p N F U;refine⟨_,rfl,ds,[],p++[],[],p,[],z,?_,?_,?_,S.frame _,λh=>by cases h⟩
 .rw[r.1,Q];exact⟨[],[],shut_bool B _,rfl,rfl⟩
 .rw[r.2.1];exact G
 .rw[b,r.2.2];rfl
end
end
section
open Go.RowKit
theorem G5{H:Type}{enc:TypeId×Value->H}{a:Assume}{C:Go.Checked}{os:Os}{f:FuncId}{fn:Func}{s:ChangeSpec}{n:List PathCond}{c m h l:Bool}{X:World->Array Value->Prop}(M:∀(w w':World) (b:Array Value),w.heap=w'.heap->X w b->X w' b)(E:ownKnob C.prog.godebug=none)(p:os.Started)(q:C.prog.inits.idxOf? f=none)(D:C.prog.funcs[f]?=some fn)(o:∃(w:World) (d:Tape) (i:Input),w.os=os/\(w.forCall d i).Shaped C.prog/\i.vars=[]/\Input.okWide C.prog (w.forCall d i) .any w.heap.size f i /\
  ((s.pre enc C.prog fn n c (w.forCall d i).memory i.args/\X (w.forCall d i).memory i.args)/\sizedMet enc C.prog fn (OpenSpec.ofChange s) c (w.forCall d i).memory i.args)/\a.holds C.prog (lone (Frame.enter C.prog f i.args .normal) []<|w.forCall d i))(k:∀(W:World) (x:Nat) (b:Array Value) (ds z:List<|DataW H) (g:List MemPlace),
  (∀(j:Nat) t v,fn.params[j]?=some t->b[j]?=some v->Value.okWide C.prog W .any x t v)->
  DataW.Whole enc C.prog fn.params.toList s.vars c W b.toList ds z g->X W b->W.ShapedOpen C.prog->(DataW.weightsEach C.prog (fn.params.toList++s.plain.varTypes C.prog)<|ds++z).all (·<=reachBytes)=true->
  Calls C.prog f b W λe J=>∃v,e=.returned v/\s.post enc C.prog fn c m h l W b v J):
 ReturnsInHanded a C os f .any (λw b=>(s.pre enc C.prog fn n c w b/\X w b)/\sizedMet enc C.prog fn (OpenSpec.ofChange s) c w b)<|s.post enc C.prog fn c m h l:=by
 refine returnsInHanded_of_calls E p q o ?_;intro w d i _ G _ A y _;let⟨_,_,_,B,u,_,_,_,_,r⟩:=A;have e:B=fn:=ZR<|u.symm.trans D;subst e;let⟨⟨⟨ds,z,g,I,_⟩,N⟩,K⟩:=y;have F:=DataW.Whole.of_heap (w':=w.forCall d i) (by rfl) I;refine (k (w.forCall d i) w.heap.size i.args ds z g r F (M _ _ _ (by rfl) N) G<|K.weights I).mono λe J ⟨v,he,L⟩=>?_;subst he;exact ChangeSpec.post_blind L
def aU3: DataW Unit->List Value
 | .lit (.int k z)=>[.int k z]
 | _=>[]
def aGf: DataW Unit->List Value
 | .agg ps=>ps.flatMap aU3
 | _=>[]
def aNJ: DataW Unit->List Value
 | .agg ps=>ps.flatMap aGf
 | _=>[]
variable {P:Program}{base:Nat}{cs:List Value}{enc:TypeId×Value->Unit}{f0 f1 f2:Field}{held:Bool}{ka kb kc:IntKind}{sp:Nat->Bool}{t ta tb tc:TypeId}{w:World}{x:DataW Unit×List MemPlace}
section
theorem aGN{e:Nat}(E:P.underlying t=some (.struct #[f0,f1,f2]))(G:P.cellsOf t=3)(B:f0.type=ta)(F:f1.type=tb)(A:f2.type=tc)(z:f0.offset=0)(u:f1.offset=1)(s:f2.offset=2)(K:P.underlying ta=some (.int ka))(Q:P.underlying tb=some (.int kb))(H:P.underlying tc=some (.int kc))(C:P.cellsOf ta=1)(O:P.cellsOf tb=1)(cc:P.cellsOf tc=1)(h:DataW.trod enc P w base sp held e t cs=some x): cs=aGf x.1:=by
 obtain⟨J,n,_,rfl,k,i,d⟩:=W8 E h;rw[G] at k;match cs,k with
 | [a,b,c],_=>
  match J,i with
  | [S,T,R],_=>
   have o:=d 0 f0 rfl;have l:=d 1 f1 rfl;have q:=d 2 f2 rfl;rw[B,z,C] at o;rw[F,u,O] at l;rw[A,s,cc] at q;let⟨r,M,I,_⟩:=X2 K o;let⟨y,N,L,_⟩:=X2 Q l;let⟨v,e2,D,_⟩:=X2 H q;have f:a=.int ka r:=by simpa using M
   have j:b=.int kb y:=by simpa using N
   have g:c=.int kc v:=by simpa using e2
   subst f j g I L D;rfl
theorem aD4[aH]{b m:Nat}{e:TypeId}(C:P.underlying t=some (.array m e))(g:P.cellsOf t=m*3)(r:P.underlying e=some (.struct #[f0,f1,f2]))(p:P.cellsOf e=3)(z:f0.type=ta)(B:f1.type=tb)(F:f2.type=tc)(v:f0.offset=0)(I:f1.offset=1)(s:f2.offset=2)(H:P.underlying ta=some (.int ka))(u:P.underlying tb=some (.int kb))(E:P.underlying tc=some (.int kc))(A:P.cellsOf ta=1)(J:P.cellsOf tb=1)(cc:P.cellsOf tc=1)(h:DataW.trod enc P w base sp held b t cs=some x): cs=aNJ x.1:=by
 obtain⟨f,n,_,rfl,D,G,j⟩:=DataW.trod_array C h;have o:=EA 3 m 0 cs (by rw[D,g];omega);rw[YD] at o;have k:∀i,i<m->∃y,f[i]?=some y/\(cs.drop<|0+i*3).take 3=aGf y.1:=by
  intro i a;have c:=j i a;rw[p] at c;have d:f[i]?=some f[i]:=Zb (by omega);rw[d] at c;refine⟨_,d,?_⟩;rw[Z0];exact aGN r p z B F v I s H u E A J cc c
 rw[o];show _=(f.map (·.1)).flatMap aGf;rw[List.flatMap_def,Ya];congr 1;apply Ym;intro i;rw[Zk,Zk];rcases ZI i m with a | a
 .let⟨y,c,d⟩:=k i a;rw[YY a,c];simp only[Yz,Function.comp];rw[d]
 .rw[Zy<|by simpa using a,Zy<|by omega];rfl
end
end
section
def pv[aH](P:Program)(T:List cQ)(n vi:Nat)(args:List AV): Option AV:=
 match fC P T n 0 vi args [] with
 | some (r,H')=>some<|fA H' 0 r
 | none=>none
def aEr[aH](F:cQ): Option (cV×St)->Option (AV×aY)
 | some (.normal,st)=>match lL st F.rets with
  | some vs=>some (kC vs,st.heap)
  | none=>none
 | some (.ret,st)=>match lL st F.rets with
  | some vs=>some (kC vs,st.heap)
  | none=>none
 | _=>none
variable {H:aY}{P:Program}{cf:Nat->Nat->List AV->aY->Option (AV×aY)}{fl lf:Nat}{st:St}{t:TypeId}
theorem o4[aH]{T:List cQ}{n vi:Nat}{a:List AV}(F:cQ)(h:getF T vi=some F):
 fC P T (n+1) fl vi a H=aEr F (eS P (fC P T n) n fl F.body ⟨a++List.replicate (F.nt-a.length) (.lit bL),H⟩):=by
 have b:aH.prim vi=none:=by
  unfold getF at h;split at h
  .cases h
  .assumption
 have c:T[vi]?=some F:=by simpa only[getF,b] using h
 simp only[fC,b,c,aEr];split<;>split<;>simp_all
section
end
theorem aOS(a b:Int): aN P (Builtin.max_ #[] 0 #[.int .i64 a,.int .i64 b])=some (.int .i64<|if a<b then b else a):=by
 by_cases h:a<b<;>simp[Builtin.max_,Builtin.max2,h]<;>rfl
theorem aOR(a b:ByteArray): aN P (binOp .eql t (.string a)<|.string b)=some (.bool<|a.toList==b.toList):=rfl
theorem aOQ(a b:ByteArray): aN P (binOp .neq t (.string a)<|.string b)=some (.bool<|!(a.toList==b.toList)):=rfl
theorem aN6{c:BinOp}(x y:Operand)(a b:ByteArray): aN P (eqGuard c t x y (.string a)<|.string b)=some ():=by cases c<;>rfl
theorem y7{id s bytes tot:Nat}{es ys:List<|List AV}(a:H[id]?=some (.blk s es))(c:es.length=tot)(f:eW s ys=true)(k:0<s)(l:lD ys.length bytes=true)(e:lD (tot+ys.length) bytes=true)(d:fl<=id):
 cP fl H s bytes (.ms id tot 0 tot) ys=some (.ms id (tot+ys.length) 0<|tot+ys.length,H.set id<|.blk s<|es++ys):=by
 have g:id<H.length:=by
  rcases ZI id H.length with h | h
  .exact h
  .rw[Zy h] at a;cases a
 unfold cP;simp only[f,k,l,a,c,e,d,Y7,Zz];by_cases j:ys.length=0
 .have:ys=[]:=ZK.1 j;subst this;simp only[Z1,Xm,Wo,Zz,Za,Zi,We];apply Ym;intro i;rw[Z5];split
  .rename_i m;subst m;first | exact a | (rw[Zu g];exact a)
  .rfl
 .simp only[j,Z9]
end
def aT9: List Prop->Prop
 | []=>True
 | p::r=>p/\aT9 r
structure Orc where
 O:List (Nat×AV×Option aY)
 B:List (Nat×Bool)
def dF{α:Type}(t:Nat): List (Nat×α)->Option α
 | []=>none
 | (u,a)::r=>match Nat.beq u t with | true=>some a | false=>dF t r
section
variable (P:Program)(cf:Nat->Nat->List AV->aY->Option (AV×aY))(fl:Nat)
variable (o:Orc)
end
section
abbrev iv(n:Int): AV:=.lit (.int .i64 n)
abbrev bv(b:Bool): AV:=.lit (.bool b)
abbrev sv(s:ByteArray): AV:=.lit (.string s)
def bnd{α β:Type}(x:Option α)(f:α->Option β): Option β:=match x with
 | some a=>f a
 | none=>none
variable {H:aY}{P:Program}{a b:ByteArray}{α:Type}{c:α->List AV}{cf:Nat->Nat->List AV->aY->Option (AV×aY)}{f:Bool}{fl:Nat}{hi i:Int}{id k:Nat}{l l':List α}{lo:Int}{m:List α}{n:Nat}{r:Bool}{s:Nat}{t:TypeId}{w:AV}{x:α}{y z:AV}{β:Type}
theorem bD{x:Option α}{f:α->Option β}{r:β}(h:bnd x f=some r): ∃a,x=some a/\f a=some r:=by
 cases x with
 | none=>cases h
 | some a=>exact⟨a,rfl,h⟩
def bnd2{α β γ:Type}(x:Option<|α⊕β)(f:α->Option γ)(g:β->Option γ): Option γ:=match x with
 | some (.inl a)=>f a
 | some (.inr b)=>g b
 | none=>none
theorem aHJ{γ:Type}{x:Option<|α⊕β}{f:α->Option γ}{g:β->Option γ}{r:γ}(h:bnd2 x f g=some r): (∃a,x=some (.inl a)/\f a=some r)\/(∃a,x=some (.inr a)/\g a=some r):=by
 match x,h with
 | some (.inl a),h=>exact .inl ⟨a,rfl,h⟩
 | some (.inr a),h=>exact .inr ⟨a,rfl,h⟩
def cnd{α:Type}(b:Bool)(x y:α): α:=match b with
 | true=>x
 | false=>y
theorem aON[aH]{T:List cQ}{vi:Nat}{a:List AV}{r b:AV}{H':aY}(h:fC P T n 0 vi a []=some (r,H'))(c:fA H' 0 r=b): pv P T n vi a=some b:=by
 unfold pv;rw[h,<-c]
def iY(a b:Int): Int:=if a<b then b else a
def pO(a b:Int): Int:=if b<a then b else a
theorem aFe(a b:ByteArray): (a.toList==b.toList)=decide (a=b):=by
 by_cases h:a=b
 .subst h;simp
 .rw[YI h];simp only[X5,Ww];intro e;apply h;simp only[ByteArray.toList_eq] at e;exact ByteArray.ext<|Array.toList_inj.1 e
section
theorem aHH[aH](h:decide (a=b)=r): aM P cf fl (.bin .eql t (.tmp 0)<|.tmp 1) [sv a,sv b] H=some (bv r,H):=by
 simp only[aM,aI,Zt,ZL,lits,uS,Zz,aN6,aOR,aFe,h]
theorem aHG[aH](h:decide (a=b)=r): aM P cf fl (.bin .neq t (.tmp 0)<|.tmp 1) [sv a,sv b] H=some (bv<|!r,H):=by
 simp only[aM,aI,Zt,ZL,lits,uS,Zz,aN6,aOQ,aFe,h]
end
def idx{α:Type}(l:List α)(i:Int): Option α:=if 0<=i then l[i.toNat]? else none
theorem bF(l:List α)(i:Nat): idx l (i:Int)=l[i]?:=by simp[idx]
theorem pP(h:idx l i=some x): 0<=i/\l[i.toNat]?=some x/\i.toNat<l.length:=by
 unfold idx at h;split at h
 .rename_i b;refine⟨b,h,?_⟩;rcases ZI i.toNat l.length with a | a
  .exact a
  .rw[Zy a] at h;cases h
 .cases h
section
def gR{α:Type}(l:List α)(k:Nat)(i:Int): Option α:=if 0<=i/\i.toNat<k then l[i.toNat]? else none
theorem aHx(h:gR l k i=some x): 0<=i/\i.toNat<k/\l[i.toNat]?=some x/\i.toNat<l.length:=by
 unfold gR at h;split at h
 .rename_i b;refine⟨b.1,b.2,h,?_⟩;rcases ZI i.toNat l.length with a | a
  .exact a
  .rw[Zy a] at h;cases h
 .cases h
def app{α:Type}(l m:List α): Option<|List α:=if l.length+m.length<=1000000 then some (l++m) else none
theorem Pq(h:app l m=some l'): l'=l++m/\l.length+m.length<=1000000:=by
 unfold app at h;split at h
 .cases h;exact⟨rfl,by assumption⟩
 .cases h
theorem tP(h:l.length+m.length<=1000000): app l m=some (l++m):=by simp[app,h]
def Ls(b:Bool): Option Unit:=match b with
 | true=>some ()
 | false=>none
theorem yO{b:Bool}{u:Unit}(h:Ls b=some u): b=true:=by cases b<;>first | rfl | cases h
def prd(n:Nat): Option Nat:=match n with
 | 0=>none
 | k+1=>some k
theorem aIU(h:prd n=some k): n=k+1:=by
 cases n with
 | zero=>cases h
 | succ n=>cases h;rfl
def cut{α:Type}(l:List α)(lo hi:Int): Option<|List α:=if 0<=lo/\lo<=hi/\hi<=l.length then some ((l.take hi.toNat).drop lo.toNat) else none
section
theorem aJh[aH]{a b:Int}: aM P cf fl (.minmax true [.tmp 0,.tmp 1]) [iv a,iv b] H=some (iv<|iY a b,H):=by
 simp[aM,aI,Fc,aOS,iY]
theorem aOZ[aH]{a b:Int}: aM P cf fl (.minmax false [.tmp 0,.tmp 1]) [iv a,iv b] H=some (iv<|pO a b,H):=by
 have:aN P (Builtin.min_ #[] 0 #[.int .i64 a,.int .i64 b])=some (.int .i64<|if b<a then b else a):=by
  by_cases h:b<a<;>simp[Builtin.min_,Builtin.min2,h]<;>rfl
 simp[aM,aI,Fc,this,pO]
end
end
end
section
variable {H:aY}{K:Type}{P:Program}{V:Type}{cf:Nat->Nat->List AV->aY->Option (AV×aY)}{fl id:Nat}{k:K}{kt:TypeId}{kv:K->Value}{m:List (K×V)}{va:V->AV}{x:AV}
section
variable [DecidableEq K]
def bX(m:List<|K×V)(k:K): Option V:=match m with
 | []=>none
 | (k',v)::r=>if k'=k then some v else bX r k
def jS(m:List<|K×V)(k:K)(v:V): List<|K×V:=match m with
 | []=>[(k,v)]
 | (k',v')::r=>if k'=k then (k,v)::r else (k',v')::jS r k v
theorem mW[aH](k k':K)(v:V): ∀m:List<|K×V,bX (jS m k v) k'=if k=k' then some v else bX m k'
 | []=>by simp[jS,bX]
 | (a,b)::r=>by
  simp only[jS];split
  .rename_i h;subst h;simp only[bX];split<;>rfl
  .rename_i h;simp only[bX,mW k k' v r];split
   .rename_i c;subst c;rw[ZF λd=>h d.symm]
   .rfl
structure D0(P:Program)(kt:TypeId)(kv:K->Value): Prop where
 find:∀(k:K) (ks:List K),kE P kt (kv k) (ks.map λx=>(kv x,AV.undef))=some (ks.findIdx? λx=>decide (x=k))
 chk:∀(e:Bool) (k:K),aN P (Instr.checkKey e 10000 kt (kv k))=some ()
 same:∀k:K,Instr.sameBits 10000 (kv k) (kv k)=true
theorem aEq{k:Value}{c e2:List<|Value×AV}(h:c.map (·.1)=e2.map (·.1)): kE P kt k c=kE P kt k e2:=by
 unfold kE;have:(c.map λe=>({ key:=e.1,val:=.bool false,born:=0 }:MapEntry))=e2.map λe=>{ key:=e.1,val:=.bool false,born:=0 }:=by
  have e:∀l:List<|Value×AV,(l.map λe=>({ key:=e.1,val:=.bool false,born:=0 }:MapEntry))=(l.map (·.1)).map λk=>{ key:=k,val:=.bool false,born:=0 }:=λl=>by simp
  rw[e,e,h]
 rw[this]
theorem XW[aH](k:K): ∀m:List<|K×V,(bX m k=none/\m.findIdx? (λp=>decide<|p.1=k)=none)\/∃i v,bX m k=some v/\m.findIdx? (λp=>decide<|p.1=k)=some i/\m[i]?=some (k,v)
 | []=>.inl ⟨rfl,rfl⟩
 | (a,b)::r=>by
  simp only[bX,XC];by_cases h:a=k
  .subst h;exact .inr ⟨0,b,by simp,by simp,rfl⟩
  .rw[ZF h,YI h];simp only[Zn,Z9];rcases XW k r with⟨d,e⟩ | ⟨i,v,d,e,f⟩
   .exact .inl ⟨d,by simp[e]⟩
   .exact .inr ⟨i+1,v,d,by simp[e],by simpa using f⟩
theorem aBV[aH](k:K)(v:V): ∀m:List<|K×V,jS m k v=match m.findIdx? (λp=>decide<|p.1=k) with | some i=>m.set i (k,v) | none=>m++[(k,v)]
 | []=>rfl
 | (a,b)::r=>by
  simp only[jS,XC];by_cases h:a=k
  .subst h;simp
  .rw[ZF h,YI h,aBV k v r];simp only[Zn,Z9];cases r.findIdx? λp=>decide (p.1=k) with
   | none=>simp
   | some i=>simp
end
theorem PS[aH](k:Int): ∀(c:List Int) (i:Nat),Instr.findNow (.int .i64) (.int .i64 k) (c.map λx=>{ key:=.int .i64 x,val:=.bool false,born:=0 }) i=some ((c.findIdx? λx=>decide<|x=k).map λj=>(i+j,.bool false))
 | [],i=>rfl
 | x::r,i=>by
  simp only[ZE,Instr.findNow,Instr.sameNow,Zz,XC];by_cases h:x=k
  .subst h;simp
  .have g:(k==x)=false:=by simpa using λe=>h e.symm
   rw[YI h,g];simp only[Zn,Z9,PS k r<|i+1];cases r.findIdx? λx=>decide (x=k) with
   | none=>rfl
   | some j=>simp;omega
theorem aMq[aH](b:aN P (underlying kt)=some (.int .i64)): D0 P kt (λk:Int=>.int .i64 k) where
 find:=λk g=>by
  unfold kE;simp only[Instr.findKey,bP,b,Z2,Ya,W7,PS,cC];cases g.findIdx? λx=>decide (x=k) with
  | none=>rfl
  | some j=>simp
 chk:=λe k=>by
  rw[Instr.checkKey];simp only[bP,b,Z2];rfl
 same:=λk=>by simp[Instr.sameBits]
end
end Go.Proofs.YtabioopnpgiijaaGreatDoor.Av
