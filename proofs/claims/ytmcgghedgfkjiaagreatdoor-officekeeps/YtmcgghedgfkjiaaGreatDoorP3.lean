/- A part of the proof of a law. -/
import Derived.Test.YtmcgghedgfkjiaaGreatDoorP2
import Derived.Scope
import Derived.Control
import Derived.WalkKit
import Derived.ProofKit
import Derived.OpenShut
import Derived.SizedLaws
import Derived.Handed
set_option maxRecDepth 100000
set_option maxHeartbeats 4000000
set_option linter.all false
namespace Go.Proofs.YtmcgghedgfkjiaaGreatDoor.Av
open Go
section
variable {P:Program}{Q:Exit->Act->World->Prop}{T:List cP}{a:Act}{c:dC}{cf:Nat->Nat->List AV->aT->Option (AV×aT)}{fl:Nat}{o:Oper}{ops:Array Oper}{tm:List AV}
section
theorem TR.put{FT:Nat->Option Nat}{d:Option Nat}{x:AV}{v:Value}(h:TR FT c tm a.tmps)(j:RV FT c x v): TR FT c (hZ tm d x) (a.put d v).tmps:=by
 cases d with
 | none=>exact h
 | some d=>
  simp only[hZ,Act.put];refine⟨by simpa using h.1,λt y e=>?_⟩;rw[Z7] at e;split at e
  .rename_i b;subst b;split at e
   .rename_i f;cases e;exact⟨v,by simp[<-h.1,f],j⟩
   .cases e
  .rename_i b;let⟨u,g,i⟩:=h.2 t y e;exact⟨u,by rw[YB b];exact g,i⟩
theorem iK(a:Act)(d:Option Nat)(v:Value): (a.put d v).defers=a.defers:=by cases d<;>rfl
theorem CG[aF]{g:Option<|Nat×Bool}{b:Bool}(h:TR (aK T) c tm a.tmps)(e:Rl ops g o.guard=true)(d:eW tm g=some b):
 Region.wanted o (yielded ops a.tmps)=b:=by
 unfold Region.wanted;cases g with
 | none=>
  cases k:o.guard with
  | none=>
   simp only[eW,Zb] at d;exact d
  | some q=>rw[k] at e;simp[Rl] at e
 | some q=>
  let⟨t,A⟩:=q;cases k:o.guard with
  | none=>rw[k] at e;simp[Rl] at e
  | some q=>
   let⟨j,C⟩:=q;rw[k] at e;simp only[Rl,Ze,ZD] at e;let⟨rfl,e⟩:=e;split at e
   .rename_i p s;have B:p.dst=some t:=by simpa using e
    simp only[eW] at d;have z:yielded ops a.tmps j=match a.tmps[t]? with | some (.bool b)=>some b | _=>none:=by
     unfold yielded;simp only[s,Z3,B];cases a.tmps[t]? with
     | none=>rfl
     | some v=>cases v<;>rfl
    simp only[z];simp only[aH] at d;cases i:tm[t]? with
    | none=>
     rw[i] at d;simp only[bM] at d;have y:a.tmps[t]?=none:=by
      rw[Array.getElem?_eq_none_iff,<-h.1];simpa using i
     rw[y];cases d;rfl
    | some x=>
     rw[i] at d;let⟨v,w,r⟩:=h.2 t x i;rw[w];simp only at d;split at d
     .rename_i n;rw[r.lit_inv];cases d;cases n<;>cases A<;>rfl
     .rename_i u l;rw[r.lit_inv];cases d;split
      .rename_i n m;cases m;exact (l n rfl).elim
      .rfl
     .cases d
   .cases e
theorem kJ[aF](j:Au P T cf)(k:oI P T){i:Nat}{ao:bQ}{st':St}{K:Act->World->Prop}(n:bX (aK T) c)(d:TR (aK T) c tm a.tmps)(g:fl<=c.H.length)(u:ops[i]?=some o)(e:Di P T ops ao o=true)(b:cQ P cf fl ao ⟨tm,c.H⟩=some st')(l:∀a' c',c'.H=st'.heap->bV fl c c'->bX (aK T) c'->TR (aK T) c' st'.tmps a'.tmps->a'.defers=a.defers->(∃x v,st'.tmps=hZ tm o.dst x/\a'=a.put o.dst v/\RV (aK T) c' x v)->K a' c'.w):
 wpOp P ops Q i K a c.w:=by
 simp only[Di,Ze,ZD] at e;let⟨⟨r,q⟩,h⟩:=e;unfold wpOp;rw[u];simp only;unfold cQ at b;rw[r] at b;split at b
 .rename_i f;rw[CG d q f];simp only[Zz];split at b
  .rename_i v H he;cases b;left;refine aGz j k n d g h he K Q ?_;intro cv c' t m s p;exact l _ c' t m s ((d.step m).put p) (iK _ _ _) ⟨v,cv,rfl,rfl,p⟩
  .cases b
 .rename_i f;rw[CG d q f];simp only[Zo,Ya];cases b;exact l _ c rfl (bV.refl _ _) n (d.put<|RV.lit _) (iK _ _ _) ⟨_,_,rfl,rfl,RV.lit _⟩
 .cases b
theorem Bj[aF](h:Au P T cf)(l:oI P T): ∀(aops:List bQ) (os:List Oper) (k:Nat) (c:dC) (a:Act) (tm:List AV) (st':St),
 Ae P T ops aops os=true->(∀j o,os[j]?=some o->ops[k+j]?=some o)->bX (aK T) c->TR (aK T) c tm a.tmps->fl<=c.H.length->iT P cf fl aops ⟨tm,c.H⟩=some st'->
 (∀a' c',c'.H=st'.heap->bV fl c c'->bX (aK T) c'->TR (aK T) c' st'.tmps a'.tmps->a'.defers=a.defers->Q .normal a' c'.w)->wpOps P ops Q (List.range' k aops.length) a c.w
 | [],[],k,c,a,tm,st',_,_,s,f,_,d,n=>by
  simp only[iT,Zb] at d;subst d;exact n a c rfl (bV.refl _ _) s f rfl
 | ao::r,o::os,k,c,a,tm,st',b,e,s,f,i,d,n=>by
  simp only[Ae,Ze] at b;simp only[iT] at d;split at d
  .rename_i g x;simp only[Z9,List.range'_succ,Y5];refine kJ h l s f i (e 0 o<|by simp) b.1 x ?_;intro a' c' t e2 y u z _;have:(⟨g.tmps,c'.H⟩:St)=g:=by rw[t]
   refine Bj h l r os (k+1) c' a' g.tmps st' b.2 (λj p B=>?_) y u (ZB i e2.len) (by rw[this];exact d) ?_
   .have:=e (j+1) p (by simpa using B);rwa [show k+(j+1)=k+1+j by omega] at this
   .intro q m f1 f2 A v C;exact n q m f1 (e2.trans f2) A v<|C.trans z
  .cases d
 | [],_::_,_,_,_,_,_,b,_,_,_,_,_,_=>by cases b
 | _::_,[],_,_,_,_,_,b,_,_,_,_,_,_=>by cases b
end
end
section
variable {P:Program}{T:List cP}{cf:Nat->Nat->List AV->aT->Option (AV×aT)}{fl:Nat}
theorem E6[aF]{t:Nat}: ∀{a:List bB},bB.tmp t∈a->t∈Nn a
 | x::r,h=>by
  rcases ZJ.1 h with e | b
  .subst e;simp[Nn]
  .have c:=E6 b;cases x<;>simp[Nn,c]
theorem aCp[aF]{tm a:List AV}{b:List bB}(h:∀t∈Nn b,tm[t]?=a[t]?): ∀x∈b,aH tm x=aH a x:=by
 intro x d;cases x with
 | tmp t=>simp only[aH,h t<|E6 d]
 | _=>rfl
theorem pJ[aF]{tm a:List AV}{x:Option bB}(h:∀y∈aFZ x,aH tm y=aH a y): eB tm x=eB a x:=by
 cases x with
 | none=>rfl
 | some y=>simp only[eB,h y<|by simp[aFZ]]
theorem aG1[aF]{tm a:List AV}{H:aT}{k:Io}(h:∀x∈uX k,aH tm x=aH a x): aL P cf fl k tm H=aL P cf fl k a H:=by
 cases k with
 | build z c=>
  have e:(c.map λ(p:Nat×Nat×bB)=>(p.1,p.2.1,aH tm p.2.2))=c.map λ(p:Nat×Nat×bB)=>(p.1,p.2.1,aH a p.2.2):=by
   apply ZV;intro p B;rw[h p.2.2<|by simp only[uX,Yj];exact⟨p,B,rfl⟩]
  simp only[aL];have w:(c.map λ(o,s,x)=>(o,s,aH tm x))=c.map λ(o,s,x)=>(o,s,aH a x):=e;rw[w]
 | buildSl pu s n z c=>
  have w:(c.map λ(i,x)=>(i,aH tm x))=c.map λ(i,x)=>(i,aH a x):=by
   apply ZV;intro p B;show (p.1,aH tm p.2)=(p.1,aH a p.2);rw[h p.2<|by simp only[uX,Yj];exact⟨p,B,rfl⟩]
  simp only[aL];rw[w]
 | slice s x F l mx=>
  simp only[uX] at h;simp only[aL];rw[h x<|by simp,pJ λy b=>h y<|by simp[b],pJ (x:=l) λy b=>h y<|by simp[b],pJ (x:=mx) λy b=>h y<|by simp[b]]
 | strSlice t x F l=>
  simp only[uX] at h;simp only[aL];rw[h x<|by simp,pJ λy b=>h y<|by simp[b],pJ (x:=l) λy b=>h y<|by simp[b]]
 | minmax mx d=>
  simp only[uX] at h;simp only[aL];rw[ZV h]
 | mkFn vi d=>
  simp only[uX] at h;simp only[aL];rw[ZV h]
 | call pu vi d=>
  simp only[uX] at h;simp only[aL];rw[ZV h]
 | callF vi d=>
  simp only[uX] at h;simp only[aL];rw[ZV h]
 | callT s vi d=>
  simp only[uX] at h;simp only[aL];rw[ZV h]
 | callB vi d=>
  simp only[uX] at h;simp only[aL];rw[ZV h]
 | callS vi d=>
  simp only[uX] at h;simp only[aL];rw[ZV h]
 | callv pu x d=>
  simp only[uX] at h;simp only[aL];rw[h x<|by simp,ZV λy b=>h y<|by simp[b]]
 | _=>
  simp only[uX,ZJ,List.not_mem_nil,or_false,forall_eq_or_imp,forall_eq,false_imp_iff,implies_true] at h;simp[aL,h]
theorem aDd[aF]{tm a:List AV}{g:Option<|Nat×Bool}(h:∀t b,g=some (t,b)->tm[t]?=a[t]?): eW tm g=eW a g:=by
 cases g with
 | none=>rfl
 | some q=>
  let⟨t,b⟩:=q;simp only[eW,aH,h t b rfl]
theorem LF[aF]{tm c:List AV}{H:aT}{o:bQ}{st':St}(h:∀t∈DL o,tm[t]?=c[t]?)(a:cQ P cf fl o ⟨c,H⟩=some st'):
 ∃x,st'.tmps=hZ c o.dst x/\cQ P cf fl o ⟨tm,H⟩=some ⟨hZ tm o.dst x,st'.heap⟩:=by
 have f:eW tm o.guard=eW c o.guard:=aDd λt b e=>h t (by simp[DL,e]);have g:aL P cf fl o.op tm H=aL P cf fl o.op c H:=aG1<|aCp λt d=>h t (by
  unfold DL;split
  .simp[d]
  .exact d)
 unfold cQ at a |-;simp only[f,g] at a |-;split at a
 .split at a
  .rename_i v H1 he;cases a;exact⟨v,rfl,rfl⟩
  .cases a
 .cases a;exact⟨_,rfl,rfl⟩
 .cases a
theorem I7[aF]{tm:List AV}{H H':aT}{f:Io}{v:AV}(b:jO f=true)(a:aL P cf fl f tm H=some (v,H')): H'=H:=by
 cases f with
 | call pu vi h=>
  simp only[jO] at b;subst b;simp only[aL,Dk] at a;split at a<;>split at a<;>cases a<;>rfl
 | callv pu x h=>
  simp only[jO] at b;subst b;simp only[aL,Dk] at a;split at a
  .split at a<;>split at a<;>cases a<;>rfl
  .cases a
 | buildSl pu s n z i=>
  simp only[jO] at b;subst b;simp only[aL,Zz] at a;split at a<;>cases a;rfl
 | lookup kt z m k ok=>
  simp only[aL] at a;split at a
  .split at a
   .split at a
    .split at a<;>cases a;rfl
    .cases a;rfl
    .cases a
   .split at a
    .split at a
     .split at a<;>cases a;rfl
     .cases a;rfl
     .cases a
    .cases a
   .split at a
    .split at a<;>cases a;rfl
    .cases a;rfl
    .cases a
   .cases a
  .cases a
 | _=>
  first
  | (simp[jO] at b;done)
  | (simp only[aL] at a;(repeat' split at a)<;>first | (cases a;rfl) | cases a)
theorem LE[aF]{st st':St}{o:bQ}(b:jO o.op=true)(a:cQ P cf fl o st=some st'): st'.heap=st.heap:=by
 unfold cQ at a;split at a
 .split at a
  .rename_i v H he;cases a;exact I7 b he
  .cases a
 .cases a;rfl
 .cases a
theorem aDm[aF]: ∀(aops:List bQ) (st st':St),iT P cf fl aops st=some st'->
 ∃S:Nat->St,S 0=st/\S aops.length=st'/\∀k ao,aops[k]?=some ao->cQ P cf fl ao (S k)=some (S<|k+1)
 | [],st,st',h=>by
  simp only[iT,Zb] at h;exact⟨λ_=>st,rfl,h,λk ao a=>by simp at a⟩
 | o::r,st,st',h=>by
  simp only[iT] at h;split at h
  .rename_i b e;let⟨S,c,e2,d⟩:=aDm r b st' h;refine⟨λk=>match k with | 0=>st | k+1=>S k,rfl,by simpa using e2,λk ao a=>?_⟩;cases k with
   | zero=>
    simp only[Zt,Zb] at a;subst a;rw[e,<-c]
   | succ k=>
    simp only[ZP] at a;exact d k ao a
  .cases h
def MB(aops:List bQ)(k:Nat): Option Nat:=match aops[k]? with | some o=>o.dst | none=>none
def jS(aops:List bQ)(tm:List AV)(val:Nat->AV)(D:Nat->Bool): Nat->List AV
 | 0=>tm
 | n+1=>if D n then hZ (jS aops tm val D n) (MB aops n) (val n) else jS aops tm val D n
theorem TA(tm:List AV)(d:Option Nat)(x:AV): (hZ tm d x).length=tm.length:=by cases d<;>simp[hZ]
theorem fF[aF]{aops:List bQ}{tm:List AV}{val:Nat->AV}{D:Nat->Bool}: ∀n,(jS aops tm val D n).length=tm.length
 | 0=>rfl
 | n+1=>by
  simp only[jS];split
  .rw[TA,fF n]
  .exact fF n
theorem xU{tm:List AV}{d:Option Nat}{x:AV}{t:Nat}: (hZ tm d x)[t]?=if d=some t then (if t<tm.length then some x else none) else tm[t]?:=by
 cases d with
 | none=>simp[hZ]
 | some d=>
  simp only[hZ,Z7,Zb];by_cases e:d=t
  .subst e;rfl
  .simp[e]
theorem Qd[aF]{aops:List bQ}{tm:List AV}{val:Nat->AV}{D D':Nat->Bool}{t:Nat}: ∀n,(∀j,j<n->MB aops j=some t->D j=D' j)->(jS aops tm val D n)[t]?=(jS aops tm val D' n)[t]?
 | 0,_=>rfl
 | n+1,h=>by
  have d:=Qd (val:=val) (tm:=tm) n λj e b=>h j (by omega) b;simp only[jS];by_cases b:MB aops n=some t
  .rw[h n (by omega) b];split
   .simp only[xU,b,Zz,fF]
   .exact d
  .have c:∀l:List AV,(hZ l (MB aops n)<|val n)[t]?=l[t]?:=λl=>by rw[xU,ZF b]
   split<;>split<;>(try simp only[c])<;>exact d
theorem TM[aF]{aops:List bQ}{tm:List AV}{val:Nat->AV}{D D':Nat->Bool}: ∀n,(∀j,j<n->D j=D' j)->jS aops tm val D n=jS aops tm val D' n
 | 0,_=>rfl
 | n+1,h=>by
  simp only[jS,h n<|by omega,TM n λj a=>h j<|by omega]
theorem I1[aF]{aops:List bQ}{tm:List AV}{val:Nat->AV}{D:Nat->Bool}{t k:Nat}(f:D k=true)(d:MB aops k=some t): ∀n,k<n->(∀j,k<j->j<n->MB aops j=some t->D j=false)->
 (jS aops tm val D n)[t]?=if t<tm.length then some (val k) else none
 | 0,h,_=>by omega
 | n+1,l,h=>by
  simp only[jS];by_cases e:k=n
  .subst e;rw[Zu f,xU,Zu d,fF]
  .have c:=I1 (tm:=tm) (val:=val) f d n (by omega) λj g m i=>h j g (by omega) i;by_cases b:MB aops n=some t
   .rw[h n (by omega) (by omega) b];simpa using c
   .split
    .rw[xU,ZF b];exact c
    .exact c
theorem Sy[aF]{aops:List bQ}{tm:List AV}{val:Nat->AV}{S:Nat->St}(b:(S 0).tmps=tm)(a:∀k ao,aops[k]?=some ao->(S<|k+1).tmps=hZ (S k).tmps ao.dst (val k)):
 ∀n,n<=aops.length->jS aops tm val (λ_=>true) n=(S n).tmps
 | 0,_=>b.symm
 | n+1,h=>by
  have c:n<aops.length:=by omega
  simp only[jS,Zz,Sy b a n<|by omega];rw[a n aops[n]<|by simp];simp[MB,c]
theorem Qb[aF]{aops:List bQ}{tm:List AV}{val:Nat->AV}{D:Nat->Bool}{k:Nat}: ∀n,k<=n->(∀j,k<=j->j<n->D j=false)->jS aops tm val D n=jS aops tm val D k
 | 0,h,_=>by have:k=0:=(by omega);rw[this]
 | n+1,h,b=>by
  by_cases e:k=n+1
  .rw[e]
  .simp only[jS,b n (by omega)<|by omega];simpa using Qb n (by omega) λj c d=>b j c<|by omega
theorem KP[aF]{aops:List bQ}{tm:List AV}{val:Nat->AV}{S:Nat->St}{D:Nat->Bool}{k n:Nat}(c:(S 0).tmps=tm)(a:∀k ao,aops[k]?=some ao->(S<|k+1).tmps=hZ (S k).tmps ao.dst (val k))(d:k<=n)(f:n<=aops.length)(e:∀j,j<k->D j=true)(b:∀j,k<=j->j<n->D j=false): jS aops tm val D n=(S k).tmps:=by
 rw[Qb n d b,TM (D':=λ_=>true) k e];exact Sy c a k<|by omega
theorem aA3[aF]{a:List Nat}{i:Nat}: ∀{ds:List Nat},(JA a ds).testBit i=true->∃d∈ds,i=d\/(a.getD d 0).testBit i=true
 | [],h=>by simp[JA] at h
 | d::r,h=>by
  simp only[JA,Nat.testBit_or,YW] at h;rcases h with (h | h) | h
  .have:d=i:=by simpa [Nat.testBit_two_pow] using h
   exact⟨d,by simp,.inl this.symm⟩
  .exact⟨d,by simp,.inr h⟩
  .let⟨e,c,b⟩:=aA3 h;exact⟨e,by simp[c],b⟩
def aM2(ops:List Oper)(k:Nat): List Nat:=match ops[k]? with
 | some o=>(o.after.toList.filter λe=>Region.binds .any e&&decide (e.on<k)).map λ(e:Edge)=>e.on
 | none=>[]
theorem aBg[aF]{ops:List Oper}: ∀(n:Nat) (a:List Nat),(∃L,wQ ops n a=a++L/\L.length=n) /\
 ∀k,a.length<=k->k<a.length+n->(wQ ops n a).getD k 0=JA ((wQ ops n a).take k) (aM2 ops k)
 | 0,a=>⟨⟨[],by simp[wQ],rfl⟩,λk c d=>by omega⟩
 | n+1,a=>by
  let⟨⟨L,c,d⟩,h⟩:=aBg (ops:=ops) n<|a++[JA a<|aM2 ops a.length];have e:wQ ops (n+1) a=wQ ops n (a++[JA a<|aM2 ops a.length]):=rfl;rw[e];refine⟨⟨JA a (aM2 ops a.length)::L,by rw[c];simp,by simp[d]⟩,λk i f=>?_⟩;by_cases g:k=a.length
  .subst g;rw[c];simp[YV]
  .exact h k (by simp;omega)<|by simp;omega
theorem aFc[aF]{ops:List Oper}{k i:Nat}(g:k<ops.length)(h:((wQ ops ops.length []).getD k 0).testBit i=true):
 ∃o,ops[k]?=some o/\∃e∈o.after,Region.binds .any e=true/\e.on<k/\(i=e.on\/((wQ ops ops.length []).getD e.on 0).testBit i=true):=by
 let⟨_,j⟩:=aBg (ops:=ops) ops.length [];rw[j k (by simp)<|by simpa using g] at h;let⟨d,f,a⟩:=aA3 h;unfold aM2 at f;rw[Za g] at f;simp only[Yj,List.mem_filter,Ze,Z6] at f;obtain⟨e,⟨he,l,b⟩,rfl⟩:=f;refine⟨ops[k],Za g,e,by simpa using he,l,b,?_⟩;rcases a with a | a
 .exact .inl a
 .right;rw[<-a];congr 1;simp only[YV];rw[Zs,Zu b]
theorem gF[aF]{f:Nat}{aops:List bQ}{an:List Nat}: ∀n,IZ f aops an n=true->∀i j,i<j->j<n->(an.getD j 0).testBit i=true \/
 (((cA aops i=true\/cA aops j=true)\/(i=f/\j=f+1/\fH aops i=true/\fH aops j=true))/\∃x y,aops[i]?=some x/\aops[j]?=some y/\BS x y=false/\BS y x=false)
 | 0,_,i,j,_,h=>by omega
 | n+1,h,i,j,d,p=>by
  simp only[IZ,Ze] at h;by_cases e:j=n
  .subst e;have:=Yh.1 h.2 i (by simpa using d);simp only[YW,Ze,ZD] at this;rcases this with a | ⟨a,c⟩
   .exact .inl a
   .right;refine⟨by rcases a with a | ⟨⟨⟨a,g⟩,k⟩,l⟩;exact .inl a;exact .inr ⟨a,g,k,l⟩,?_⟩;split at c
    .rename_i x y m o;simp only[Ze,YG] at c;exact⟨x,y,m,o,c.1,c.2⟩
    .cases c
  .exact gF n h.1 i j d<|by omega
theorem SU{aops:List bQ}{e:List<|Nat×Nat}{an:List Nat}{n k m:Nat}(h:aFD aops e an n=true)(g:k<n)(f:m<n)(c:cA aops k=true)(d:cA aops m=false):
 iZ aops k=true\/(an.getD k 0).testBit m=true\/(an.getD m 0).testBit k=true\/(k,m)∈e:=by
 have b:=Yh.1 h k (by simpa using g);simp only[YW,c,Xj,Zo,or_false] at b;rcases b with b | b
 .exact .inl b
 .have a:=Yh.1 b m (by simpa using f);simp only[YW,d,Zo,false_or] at a;rcases a with (a | a) | a
  .exact .inr<|.inl a
  .exact .inr<|.inr<|.inl a
  .exact .inr<|.inr<|.inr<|by simpa using a
theorem LG[aF]{tm:List AV}{H H':aT}{c:Io}{v:AV}{H1:aT}(d:wY c=true)(a:aL P cf fl c tm H=some (v,H1)): aL P cf fl c tm H'=some (v,H'):=by
 cases c with
 | buildSl pu s n z e=>
  simp only[wY] at d;subst d;simp only[aL,Zz] at a |-;split at a<;>cases a;rfl
 | _=>
  first
  | (simp[wY] at d;done)
  | (simp only[aL] at a |-;(repeat' split at a)<;>first | (cases a;rfl) | (cases a;simp_all) | cases a)
theorem T4{H H':aT}{x:AV}{n:Nat}(h:∀id,TJ x=some id->H'[id]?=H[id]?): eA H' x n=eA H x n:=by
 cases x<;>try rfl
 rename_i id tot a off;simp only[eA,h id rfl]
theorem aB2{H H':aT}{s:Nat}{x:AV}{a b mx:Option Nat}(h:∀id,TJ x=some id->H'[id]?=H[id]?): gK H' s x a b mx=gK H s x a b mx:=by
 cases x with
 | ms id tot off len=>simp only[gK,h id rfl]
 | lit v=>unfold gK;split<;>rename_i d<;>first | rfl | cases d
 | _=>rfl
theorem SV{H H':aT}{x:AV}(h:Js x=true): gA H 0 x=gA H' 0 x:=by
 cases x with
 | fn v caps=>cases caps<;>rfl
 | _=>first | rfl | (simp[Js] at h)
theorem aD3[aF]{H H':aT}{x:AV}(h:rG x=true): dY H 0 x=dY H' 0 x:=by
 cases x with
 | agg cs=>
  simp only[rG] at h;simp only[dY];congr 1;exact ZV λy a=>SV<|DB h y a
 | _=>exact SV (H:=H) (H':=H')<|by simpa [rG] using h
theorem Ct[aF]{tm:List AV}{H H':aT}{l:Io}{v:AV}{H1:aT}{r:Option Nat}(b:dI l tm=some r)(d:∀id,r=some id->H'[id]?=H[id]?)(a:aL P cf fl l tm H=some (v,H1)): aL P cf fl l tm H'=some (v,H'):=by
 cases l with
 | load agg n x=>
  simp only[dI,Zb] at b;simp only[aL,T4 (H:=H) (H':=H') (x:=aH tm x) λid h=>d id<|by rw[<-b];exact h] at a |-;split at a
  .split at a
   .cases a;simp_all
   .split at a
    .cases a;simp_all
    .cases a
  .cases a
 | idxAddr s x i=>
  simp only[dI,Zb] at b;simp only[aL] at a |-;split at a
  .split at a
   .split at a
    .split at a
     .cases a;simp_all
     .cases a
    .cases a
   .split at a
    .split at a
     .cases a;simp_all
     .cases a
    .cases a
   .rename_i id tot off len j;rw[d id<|by rw[<-b,j];rfl];split at a
    .split at a
     .cases a;simp_all
     .cases a
    .cases a
   .cases a
  .cases a
 | slice s x K G mx=>
  simp only[dI,Zb] at b;simp only[aL,aB2 (H:=H) (H':=H') (x:=aH tm x) λid h=>d id<|by rw[<-b];exact h] at a |-;split at a
  .split at a
   .cases a;simp_all
   .cases a
  .cases a
 | lookup kt z m k ok=>
  simp only[dI,Zb] at b;simp only[aL] at a |-;split at a
  .rename_i J E;split at a
   .rename_i w;split at a
    .split at a<;>cases a;simp_all
    .cases a;simp_all
    .cases a
   .rename_i id w;rw[d id<|by rw[<-b,w];rfl];split at a
    .rename_i C D;split at a
     .split at a<;>cases a;simp_all
     .cases a;simp_all
     .cases a
    .cases a
   .rename_i w;split at a
    .split at a<;>cases a;simp_all
    .cases a;simp_all
    .cases a
   .cases a
  .cases a
 | lenM x=>
  simp only[dI,Zb] at b;simp only[aL] at a |-;split at a
  .cases a;simp_all
  .rename_i id j;rw[d id<|by rw[<-b,j];rfl];split at a
   .cases a;simp_all
   .cases a
  .cases a;simp_all
  .cases a
 | call pu vi c=>
  cases pu with
  | false=>simp[dI] at b
  | true=>
   simp only[dI] at b;split at b
   .rename_i f;simp only[aL,Dk,f] at a |-;split at a<;>cases a;simp_all
   .cases b
 | callB vi c=>
  simp only[dI] at b;split at b
  .rename_i x;have e:cJ H' (aH tm x)=cJ H (aH tm x):=by
    split at b<;>first | (rename_i h;rw[h];rfl) | cases b
   simp only[aL,ZK,Yn,e] at a |-;split at a<;>cases a;simp_all
  .cases b
 | callS vi c=>
  simp only[dI] at b;split at b
  .rename_i f;have e:(c.map<|aH tm).map (dY H' 0)=(c.map<|aH tm).map (dY H 0):=ZV λy F=>aD3<|Jr f y F;simp only[aL,e] at a |-;split at a
   .rename_i r I he;split at a
    .rename_i d;cases a;simp[he,d]
    .cases a
   .cases a
  .cases b
 | callv pu x c=>
  cases pu with
  | false=>simp[dI] at b
  | true=>
   simp only[dI] at b;split at b
   .rename_i vi caps j;split at b
    .rename_i f;simp only[aL,j,Dk,f] at a |-;split at a<;>cases a;simp_all
    .cases b
   .cases b
 | _=>simp[dI] at b
theorem F7{s:Nat}{H H':aT}{r:AV}{q:Option<|AV×aT}(h:BF s H q=some (r,H')): ∃o,H'=H++[o]:=by
 unfold BF at h;repeat' split at h
 all_goals first
  | (cases h;done)
  | (cases h;exact⟨_,rfl⟩)
theorem aGG{a b:Nat}(h:Nat.blt a b=true): a<b:=Zl h
theorem wL[aF]{H:aT}{L:List dH}{id:Nat}(h:Nat.blt id H.length=true): (H++L)[id]?=H[id]?:=Zp<|aGG h
theorem KG{H:aT}{o:dH}{i id:Nat}(h:(!Nat.beq i id)=true): (H.set i o)[id]?=H[id]?:=by
 have:i≠id:=by
  intro e;subst e;simp at h
 rw[Zv this]
theorem V6[aF]{H H':aT}{s bytes id:Nat}{x r:AV}{ys:List<|List AV}(b:(match x with | .ms i _ _ _=>!Nat.beq i id | _=>Nat.blt id H.length)=true)(a:cO fl H s bytes x ys=some (r,H')): H'[id]?=H[id]?:=by
 unfold cO at a;split at a
 .split at a
  .split at a<;>cases a
   .rfl
   .exact wL b
  .split at a
   .cases a;rfl
   .split at a<;>cases a;exact wL b
  .split at a
   .split at a
    .split at a
     .cases a;rfl
     .split at a
      .split at a
       .cases a;exact KG b
       .split at a
        .cases a;exact KG b
        .cases a
      .cases a
    .cases a
   .cases a
  .cases a
 .cases a
def Ao(cf:Nat->Nat->List AV->aT->Option (AV×aT)): Prop:=∀fl n vi args H r H',(fl<=n/\n<=H.length)->cf fl vi args H=some (r,H')->H'.take fl=H.take fl/\n<=H'.length
theorem aG0[aF](B:Ao cf){tm:List AV}{H H':aT}{A:Io}{v:AV}{id:Nat}(e:pM A tm H.length id=true)(a:aL P cf fl A tm H=some (v,H')): H'[id]?=H[id]?:=by
 cases A with
 | alloc z=>simp only[aL] at a;cases a;exact wL e
 | claim s=>simp only[aL] at a;cases a;exact wL e
 | allocC z M=>simp only[aL] at a;cases a;rw[Yf];exact wL e
 | box x=>
  simp only[aL] at a;split at a<;>cases a;exact wL e
 | buildSl pu s n z L=>
  simp only[aL] at a;split at a
  .split at a<;>cases a
   .rfl
   .exact wL e
  .cases a
 | mkSlice s z b l c=>
  simp only[aL] at a;split at a
  .split at a<;>cases a;exact wL e
  .cases a
 | mkMap=>simp only[aL] at a;cases a;exact wL e
 | callT s vi f=>
  simp only[aL] at a;obtain⟨o,rfl⟩:=F7 a;exact Zp<|aGG e
 | callF vi f=>
  simp only[aL] at a;let⟨F,G⟩:=B _ _ _ _ _ _ _ ⟨Zf _,Zf _⟩ a;have j:=aGG e;have:(H'.take H.length)[id]?=(H.take H.length)[id]?:=by rw[F]
  rw[Zs,Zs,Zu j,Zu j] at this;exact this
 | store n x u=>
  simp only[pM] at e;simp only[aL] at a;split at a
  .split at a
   .split at a
    .rename_i N d;cases a;unfold wI at d;split at d
     .rename_i i tot J off K;rw[K] at e;split at d
      .split at d
       .split at d
        .split at d
         .split at d<;>cases d;exact KG e
         .cases d
        .cases d
       .cases d
      .cases d
     .cases d
    .cases a
   .cases a
  .cases a
 | append s b x y=>
  simp only[pM] at e;simp only[aL] at a;split at a
  .exact V6 e a
  .cases a
 | mapUpd kt m k x=>
  simp only[pM] at e;simp only[aL] at a;split at a
  .rename_i O i F G;rw[G] at e;split at a
   .split at a
    .split at a
     .split at a
      .split at a<;>cases a;exact KG e
      .cases a
     .cases a;exact KG e
     .cases a
    .cases a
   .cases a
  .cases a
 | _=>simp[pM] at e
theorem Ri{x y:bQ}{d:Nat}(h:BS x y=false)(a:x.dst=some d): d∉DL y/\y.dst≠some d:=by
 unfold BS at h;rw[a] at h;simp only[WU,X7,Wx] at h;refine⟨λb=>?_,h.2⟩;have:(DL y).contains d=true:=by simpa using b
 rw[this] at h;cases h.1
def Fr(fl n:Nat)(H H':aT): Prop:=H'.take fl=H.take fl/\n<=H'.length
theorem Fr.refl{n:Nat}{H:aT}(h:fl<=n/\n<=H.length): Fr fl n H H:=⟨rfl,h.2⟩
theorem Fr.go{n m:Nat}{H H':aT}(h:fl<=n/\n<=m)(k:Fr fl n H H'): fl<=n/\n<=H'.length:=⟨h.1,k.2⟩
theorem Fr.trans{n:Nat}{a b c:aT}(h:Fr fl n a b)(k:Fr fl n b c): Fr fl n a c:=⟨k.1.trans h.1,k.2⟩
theorem Fr.app{n:Nat}{H L:aT}(h:fl<=n/\n<=H.length): Fr fl n H<|H++L:=⟨Yi<|ZB h.1 h.2,by simp;omega⟩
theorem Fr.set{n:Nat}{H:aT}{i:Nat}{o:dH}(h:fl<=n/\n<=H.length)(a:fl<=i): Fr fl n H<|H.set i o:=⟨X8 a,by simpa using h.2⟩
theorem M9[aF]{m:Nat}{H H':aT}{s bytes:Nat}{x r:AV}{ys:List<|List AV}(h:fl<=m/\m<=H.length)(a:cO fl H s bytes x ys=some (r,H')): Fr fl m H H':=by
 unfold cO at a;split at a
 .split at a
  .split at a<;>cases a
   .exact .refl h
   .exact .app h
  .split at a
   .cases a;exact .refl h
   .split at a<;>cases a;exact .app h
  .split at a
   .split at a
    .split at a
     .cases a;exact .refl h
     .split at a
      .rename_i b;split at a
       .cases a;exact .set h b
       .split at a
        .cases a;exact .set h b
        .cases a
      .cases a
    .cases a
   .cases a
  .cases a
 .cases a
theorem aC5[aF](g:Ao cf){m:Nat}{tm:List AV}{H H':aT}{J:Io}{v:AV}(h:fl<=m/\m<=H.length)(a:aL P cf fl J tm H=some (v,H')): Fr fl m H H':=by
 by_cases w:jO J=true
 .rw[I7 w a];exact .refl h
 .cases J with
  | alloc z=>simp only[aL] at a;cases a;exact .app h
  | claim s=>simp only[aL] at a;cases a;exact .app h
  | allocC z T=>simp only[aL] at a;cases a;rw[Yf];exact .app h
  | box x=>simp only[aL] at a;split at a<;>cases a;exact .app h
  | buildSl pu s n z U=>
   simp only[aL] at a;split at a
   .split at a<;>cases a
    .exact .refl h
    .exact .app h
   .cases a
  | mkSlice s z b l c=>
   simp only[aL] at a;split at a
   .split at a<;>cases a;exact .app h
   .cases a
  | mkMap=>simp only[aL] at a;cases a;exact .app h
  | rangeStr x=>simp only[aL] at a;split at a<;>cases a;exact .app h
  | nextStr x=>
   simp only[aL] at a;split at a
   .split at a
    .rename_i e;split at a
     .split at a<;>cases a
      .exact .set h e
      .exact .refl h
     .cases a
    .cases a
   .cases a
  | store n x u=>
   simp only[aL] at a;split at a
   .split at a
    .split at a
     .rename_i V d;cases a;unfold wI at d;split at d
      .split at d
       .rename_i e;split at d
        .split at d
         .split at d
          .split at d<;>cases d;exact .set h e
          .cases d
         .cases d
        .cases d
       .cases d
      .cases d
     .cases a
    .cases a
   .cases a
  | append s b x y=>
   simp only[aL] at a;split at a
   .exact M9 h a
   .cases a
  | appendZ s b z x n=>
   simp only[aL] at a;split at a
   .split at a
    .exact M9 h a
    .cases a
   .cases a
  | mapUpd kt m k x=>
   simp only[aL] at a;split at a
   .split at a
    .rename_i e;split at a
     .split at a
      .split at a
       .split at a<;>cases a;exact .set h e
       .cases a
      .cases a;exact .set h e
      .cases a
     .cases a
    .cases a
   .cases a
  | delete kt m k=>
   simp only[aL] at a;split at a
   .split at a
    .rename_i e;split at a
     .split at a
      .cases a;exact .set h e
      .cases a;exact .refl h
      .cases a
     .cases a
    .cases a
   .cases a
  | copy s x y=>
   simp only[aL] at a;split at a
   .split at a
    .split at a
     .split at a
      .split at a
       .rename_i e;split at a<;>cases a
        .exact .refl h
        .exact .set h e.2.2.2
       .cases a
      .cases a
     .cases a
    .cases a
   .cases a
  | clear s z x=>
   simp only[aL] at a;split at a
   .cases a;exact .refl h
   .cases a;exact .refl h
   .split at a
    .split at a
     .rename_i e;split at a<;>cases a
      .exact .refl h
      .exact .set h e.2.2.2.1
     .cases a
    .cases a
   .cases a
  | loadF n k x=>
   simp only[aL] at a;split at a
   .split at a
    .split at a
     .rename_i e;split at a
      .split at a<;>cases a;exact .set h e
      .cases a
     .cases a
    .cases a;exact .refl h
    .cases a
   .cases a
  | freeze x=>
   simp only[aL] at a;split at a
   .split at a
    .rename_i e;split at a
     .split at a<;>cases a;exact .set h e
     .cases a
    .cases a
   .split at a
    .rename_i e;split at a
     .split at a
      .split at a<;>cases a;exact .set h e
      .cases a
     .cases a
    .cases a
   .cases a;exact .refl h
  | call pu vi f=>
   cases pu with
   | true=>simp[jO] at w
   | false=>exact g _ _ _ _ _ _ _ h a
  | callv pu x f=>
   cases pu with
   | true=>simp[jO] at w
   | false=>
    simp only[aL] at a;split at a
    .exact g _ _ _ _ _ _ _ h a
    .cases a
  | callT s vi f=>
   simp only[aL] at a;obtain⟨o,rfl⟩:=F7 a;exact .app h
  | callF vi f=>
   simp only[aL] at a;let⟨Q,R⟩:=g _ _ _ _ _ _ _ ⟨Zf _,Zf _⟩ a;refine⟨?_,ZB h.2 R⟩;have:(H'.take H.length).take fl=(H.take H.length).take fl:=by rw[Q]
   rwa [Xc,Xc,Yq<|ZB h.1 h.2] at this
  | _=>simp[jO] at w
theorem aAO[aF](b:Ao cf){m:Nat}{o:bQ}{st st':St}(h:fl<=m/\m<=st.heap.length)(a:cQ P cf fl o st=some st'): Fr fl m st.heap st'.heap:=by
 unfold cQ at a;split at a
 .split at a
  .rename_i v H he;cases a;exact aC5 b h he
  .cases a
 .cases a;exact .refl h
 .cases a
end
section
variable {D:Nat->Bool}{N:Nat}{P:Program}{Q:Exit->Act->World->Prop}{T:List cP}{a:Array Bool}{an:List Nat}{aops:List bQ}{c:dC}{cf:Nat->Nat->List AV->aT->Option (AV×aT)}{ck:List<|Nat×Nat}{fl i id k n:Nat}{ops:Array Oper}{st st':St}{tm:List AV}
section
theorem Kj[aF]: ∀{aops:List bQ} {os:List Oper},Ae P T ops aops os=true->aops.length=os.length/\∀(k:Nat) (o:Oper),os[k]?=some o->∃ao,aops[k]?=some ao/\Di P T ops ao o=true
 | [],[],_=>⟨rfl,λk o h=>by simp at h⟩
 | a::r,o::s,h=>by
  simp only[Ae,Ze] at h;let⟨b,c⟩:=Kj h.2;grind
 | [],_::_,h=>by cases h
 | _::_,[],h=>by cases h
theorem M3[aF]{ops:List Oper}: ∀{n:Nat},M4 ops n=true->∀k o,k<n->ops[k]?=some o->∀e∈o.after,Region.binds .any e=true->e.on<k
 | 0,_,k,_,h,_,_,_,_=>by omega
 | n+1,h,k,o,c,d,e,he,f=>by
  simp only[M4,Ze] at h;by_cases g:k=n
  .grind
  .exact M3 h.1 k o (by omega) d e he f
def unl(N:Nat)(listed:Array Bool): Nat:=((List.range N).filter λi=>!listed.getD i true).length
theorem aQI(f:k<N)(h:a.getD k true=false)(d:a.size=N): unl N (a.setIfInBounds k true)<unl N a:=by
 unfold unl;have e:((List.range N).filter λi=>!(a.setIfInBounds k true).getD i true)=(((List.range N).filter λi=>!a.getD i true).filter λi=>decide<|i≠k):=by
  rw[List.filter_filter];apply List.filter_congr;intro i g;by_cases c:i=k
  .simp_all
  .rw[getD_set_ne true λe=>c e.symm];simp[c]
 rw[e];refine List.length_filter_lt_length_iff_exists.2 ⟨k,?_,by simp⟩;grind
theorem wM(b:k<a.size): a.getD k true=a.getD k false:=by grind
def gY(aops:List bQ)(D:Nat->Bool): Nat->Nat
 | 0=>0
 | n+1=>if D n&&!cA aops n then n+1 else gY aops D n
theorem tM[aF]{D':Nat->Bool}: ∀n,(∀j,j<n->cA aops j=false->D j=D' j)->gY aops D n=gY aops D' n
 | 0,_=>rfl
 | n+1,h=>by
  have b:=tM n λj a=>h j (by omega);simp only[gY];grind
theorem oB[aF]: ∀n,k<=n->(∀j,k<=j->j<n->cA aops j=false->D j=false)->gY aops D n=gY aops D k
 | 0,h,_=>by have:k=0:=(by omega);rw[this]
 | n+1,h,b=>by
  by_cases e:k=n+1
  .rw[e]
  .have f:=oB n (by omega) λj c d=>b j c (by omega);simp only[gY];grind
theorem aEh[aF]: ∀n,gY aops D n<=n
 | 0=>Zf _
 | n+1=>by
  simp only[gY];split
  .grind
  .exact Xo<|aEh n
theorem aEi[aF]{p:Nat}: ∀n,gY aops D n=p+1->p<n/\D p=true/\cA aops p=false
 | 0,h=>by cases h
 | n+1,h=>by
  simp only[gY] at h;split at h
  .grind
  .let⟨b,a⟩:=aEi n h;exact⟨by omega,a⟩
theorem aEj[aF]{m:Nat}: ∀n,m<n->D m=true->cA aops m=false->m+1<=gY aops D n
 | 0,h,_,_=>by omega
 | n+1,h,c,b=>by
  simp only[gY];split
  .omega
  .rename_i d;by_cases e:m=n
   .grind
   .exact aEj n (by omega) c b
theorem Kq(h:fH aops k=true): ∃d z,aops[k]?=some ⟨some d,.alloc z,none⟩:=by
 unfold fH at h;split at h
 .rename_i o f;split at h
  .rename_i c;split at h
   .rename_i g;split at h
    .rename_i b;let⟨a,e,guard⟩:=o;grind
    .cases h
   .cases h
  .cases h
 .cases h
def zAt(aops:List bQ)(k:Nat): List Value:=match aops[k]? with
 | some ⟨_,.alloc z,_⟩=>z
 | _=>[]
def aRy(aops:List bQ)(S:Nat->St)(sw:Nat): aT:=(S sw).heap++[.blk (zAt aops sw).length [],.blk (zAt aops<|sw+1).length [(zAt aops<|sw+1).map .lit]]
def Jw(D:Nat->Bool)(sw:Nat): Bool:=D (sw+1)&&!D sw
def hpH(aops:List bQ)(S:Nat->St)(sw N:Nat)(D:Nat->Bool): aT:=if Jw D sw=true then aRy aops S sw else (S<|gY aops D N).heap
theorem aCM[aF]{a:Act}{d:Nat}{z:List Value}{o:Oper}{K:Act->World->Prop}(y:bX (aK T) c)(h:TR (aK T) c tm a.tmps)(R:ops[i]?=some o)(b:Di P T ops ⟨some d,.alloc z,none⟩ o=true)(f:c.H[id]?=some (.blk z.length []))(n:fl<=id)(I:∀a' c',c'.H=c.H.set id (.blk z.length [z.map .lit])->bV fl c c'->bX (aK T) c'->TR (aK T) c' (hZ tm (some d)<|.ptr id 1 0 0) a'.tmps->a'.defers=a.defers->K a' c'.w):
 wpOp P ops Q i K a c.w:=by
 simp only[Di,Ze,ZD] at b;let⟨⟨J,O⟩,g⟩:=b;unfold wpOp;rw[R];simp only;have C:=CG h O rfl;rw[C];left;simp only[cS] at g;split at g
 .rename_i t G;let⟨S,v,m,M,L,q⟩:=iB g;have k:(execOp a.eval o).run P c.w=.ok (.value<|.pointer<|some ⟨c.w.heap.size,0,none⟩) (c.w.alloc<|.cells z.toArray t (0,0)):=by
   have e:=L.symm;rw[e];simp[execOp,G,Instr.alloc,zeroValue,typeInfo,m,M,newVar,newRow]
  have p:=Ev (es':=[z.map AV.lit]) (w':=c.w.alloc<|.cells z.toArray t (0,0)) y n f (by simp) rfl rfl rfl rfl;have l:bX (aK T) ⟨c.w.alloc<|.cells z.toArray t (0,0),c.X,upd c.β id c.w.heap.size,c.H.set id<|.blk z.length [z.map AV.lit]⟩:=by
   refine HT y f (by simp) rfl rfl rfl rfl (by intro e he;simp at he;subst he;simp) (by simp) ?_;intro i j x F;obtain⟨rfl,s⟩:=aBe F;simp only[Zm,Zq] at s;obtain⟨u,A,rfl⟩:=s;exact⟨u,by simpa using A,q u<|Zg A,RV.lit _⟩
  refine (eJ (v:=.ptr id 1 0 0) k p l ?_) _ _ ?_
  .refine .ptr id 1 0 0 _ z.length 1 ?_ (Zf _) λ_=>⟨c.w.heap.size,dZ _ _ _,by simp⟩;rw[sQ f];simp
  .intro cv c' N B D E;rw[<-J];exact I _ c' N B D ((h.step B).put E)<|iK _ _ _
 .grind
structure aUW[aF](P:Program)(T:List cP)(fl N sw:Nat)(aops:List bQ)(an:List Nat)(tm:List AV)(val:Nat->AV)(S:Nat->St)(c0:dC)(ds:List Deferred)(listed:Array Bool)(a:Act)(c:dC): Prop where
 size:listed.size=N
 sim:bX (aK T) c
 step:bV fl c0 c
 defers:a.defers=ds
 closed:∀i j,j<N->listed.getD j false=true->(an.getD j 0).testBit i=true->listed.getD i false=true
 tr:TR (aK T) c (jS aops tm val (λj=>listed.getD j false) N) a.tmps
 heap:c.H=hpH aops S sw N (λj=>listed.getD j false)
theorem w4[aF]: ∀(n i:Nat),xI aops an n i=aops.length\/(fH aops (xI aops an n i)=true/\fH aops (xI aops an n i+1)=true)
 | 0,_=>.inl rfl
 | n+1,i=>by
  simp only[xI];split
  .grind
  .exact w4 n<|i+1
theorem aDr[aF](a:aops.length=N): xI aops an n i+1<N->fH aops (xI aops an n i)=true/\fH aops (xI aops an n i+1)=true:=by
 intro h;rcases w4 (aops:=aops) (an:=an) n i with e | e
 .omega
 .exact e
theorem aFE{a:Nat}{b:List<|Nat×Nat}(h:aB0 a aops b an n=true): a+1<n->∀k,k<n->cA aops k=true->iZ aops k=true\/(an.getD k 0).testBit a=true\/(k,a)∈b:=by
 intro e k d c;simp only[aB0] at h;grind
theorem aJR[aF](hcf:Au P T cf)(hfn:oI P T){sw:Nat}{c0:dC}{ds:List Deferred}{val:Nat->AV}{S:Nat->St}(hchk:Ae P T ops aops ops.toList=true)(hord:IZ sw aops (wQ ops.toList ops.size []) ops.size=true)(hstab:aFD aops ck (wQ ops.toList ops.size []) ops.size=true)(hback:M4 ops.toList ops.size=true)(h0:S 0=⟨tm,c0.H⟩)(hS:∀k ao,aops[k]?=some ao->cQ P cf fl ao (S k)=some (S<|k+1))(hval:∀k ao,aops[k]?=some ao->(S<|k+1).tmps=hZ (S k).tmps ao.dst (val k))(hck:∀k m,(k,m)∈ck->∀ao,aops[k]?=some ao->eW (S k).tmps ao.guard=some false\/dI ao.op (S k).tmps=some none\/∃id,dI ao.op (S k).tmps=some (some id)/\(S<|m+1).heap[id]?=(S m).heap[id]?)(hsw:sw+1<ops.size->fH aops sw=true/\fH aops (sw+1)=true)(hstab2:sw+1<ops.size->∀k,k<ops.size->cA aops k=true->iZ aops k=true\/((wQ ops.toList ops.size []).getD k 0).testBit sw=true\/(k,sw)∈ck)(hfo:Ao cf)(hfl:fl<=c0.H.length)(hQ:∀a' c',c'.H=(S ops.size).heap->bV fl c0 c'->bX (aK T) c'->TR (aK T) c' (S ops.size).tmps a'.tmps->a'.defers=ds->Q .normal a' c'.w):
 ∀(fuel:Nat) (listed:Array Bool) (a:Act) (c:dC),unl ops.size listed<=fuel->aUW P T fl ops.size sw aops (wQ ops.toList ops.size []) tm val S c0 ds listed a c->wpAny P .any ops Q fuel listed a c.w:=by
 let⟨hlen,hget⟩:=Kj hchk
 have hlen':aops.length=ops.size:=by simpa using hlen
 have hquiet:∀k,k<ops.size->cA aops k=true->(S<|k+1).heap=(S k).heap:=by
  intro k hk hq
  have hao:aops[k]?=some (aops[k]'(by omega)):=by simp
  simp only[cA,hao] at hq
  exact LE hq<|hS k _ hao
 have hheapA:∀k,k<=ops.size->(S<|gY aops (λ_=>true) k).heap=(S k).heap:=by
  intro k
  induction k with
  | zero=>intro _;rfl
  | succ k ih=>
   intro hk
   simp only[gY,Ww]
   cases hq:cA aops k with
   | false=>rfl
   | true=>grind
 have hkeep:∀(id a b:Nat),a<=b->b<=ops.size->(∀m,a<=m->m<b->cA aops m=false->(S<|m+1).heap[id]?=(S m).heap[id]?)->(S b).heap[id]?=(S a).heap[id]?:=by
  intro id a b
  induction b with
  | zero=>grind
  | succ b ih=>
   intro h1 h2 h3
   by_cases e:a=b+1
   .rw[e]
   .have h4:(S<|b+1).heap[id]?=(S b).heap[id]?:=by
     cases hq:cA aops b with
     | true=>grind
     | false=>grind
    rw[h4]
    exact ih (by omega) (by omega) λm g1 g2=>h3 m g1<|by omega
 have h0t:(S 0).tmps=tm:=by rw[h0]
 have hlenS:∀k,k<=ops.size->fl<=(S k).heap.length:=by
  intro k
  induction k with
  | zero=>grind
  | succ k ih=>
   intro hk
   exact (aAO hfo ⟨Zf _,ih<|by omega⟩<|hS k (aops[k]'(by omega))<|by simp).2
 have done:∀(listed:Array Bool) (a:Act) (c:dC),(∀j,j<ops.size->listed.getD j false=true)->aUW P T fl ops.size sw aops (wQ ops.toList ops.size []) tm val S c0 ds listed a c->Q .normal a c.w:=by
  intro listed a c hall hI
  have hfold:jS aops tm val (λj=>listed.getD j false) ops.size=(S ops.size).tmps:=
   KP h0t hval (Zf _) (by omega) hall λj h1 h2=>by omega
  have hH:c.H=(S ops.size).heap:=by
   have hodd:Jw (λj=>listed.getD j false) sw=false:=by
    unfold Jw
    by_cases h:sw<ops.size
    .simp[hall sw h]
    .have:listed.getD (sw+1) false=false:=by
      rw[Yg,Yc<|by rw[hI.size];omega];rfl
     simp only[this,Bool.false_and]
   rw[hI.heap,hpH,ZF<|by rw[hodd];exact XI,tM (D':=λ_=>true) ops.size λj hj _=>hall j hj,hheapA _<|Zf _]
  refine hQ a c hH hI.step hI.sim ?_ hI.defers
  rw[<-hfold]
  exact hI.tr
 have noready:∀(listed:Array Bool),listed.size=ops.size->Region.ready .any ops listed=[]->∀j,j<ops.size->listed.getD j false=true:=by
  intro listed hsz hr j
  induction j using Nat.strongRecOn with
  | _ j ih=>
   intro hj
   cases hd:listed.getD j false with
   | true=>rfl
   | false=>
    exfalso
    have hmem:j∈Region.ready .any ops listed:=by
     rw[Vb]
     refine⟨by rw[wM<|by omega];exact hd,ops[j],by simp,λe he hb=>?_⟩
     have hlt:=M3 hback j ops[j] hj (by simp) e he hb
     exact ih e.on hlt<|by omega
    rw[hr] at hmem
    cases hmem
 intro fuel
 induction fuel with
 | zero=>
  intro listed a c hu hI
  have hall:∀j,j<ops.size->listed.getD j false=true:=by
   intro j hj
   cases hd:listed.getD j false with
   | true=>rfl
   | false=>
    exfalso
    have:j∈(List.range ops.size).filter λi=>!listed.getD i true:=by
     simp only[List.mem_filter,Wt,YG]
     exact⟨hj,by rw[wM<|by rw[hI.size];exact hj];exact hd⟩
    unfold unl at hu
    have h2:=YQ<|Nat.le_zero.1 hu
    rw[h2] at this
    cases this
  refine⟨?_,done listed a c hall hI⟩
  cases hr:Region.ready .any ops listed with
  | nil=>rfl
  | cons i r=>
   exfalso
   have:i∈Region.ready .any ops listed:=by rw[hr];simp
   rw[Vb] at this
   let⟨h1,o,ho,_⟩:=this
   have hi:i<ops.size:=(Xd.1 ho).1
   rw[wM<|by rw[hI.size];exact hi,hall i hi] at h1
   cases h1
 | succ fuel ih=>
  intro listed a c hu hI
  refine⟨λhr=>done listed a c (noready listed hI.size hr) hI,λk hk=>?_⟩
  rw[Vb] at hk
  let⟨hk1,o,ho,hedges⟩:=hk
  have hkN:k<ops.size:=(Xd.1 ho).1
  have hkD:listed.getD k false=false:=by rw[<-wM<|by rw[hI.size];exact hkN];exact hk1
  let⟨ao,hao,hok⟩:=hget k o<|by simpa using ho
  have hol:ops.toList[k]?=some o:=by simpa using ho
  have hanc:∀i,((wQ ops.toList ops.size []).getD k 0).testBit i=true->listed.getD i false=true:=by
   intro i hi
   have hi':((wQ ops.toList ops.toList.length []).getD k 0).testBit i=true:=by simpa using hi
   let⟨o',ho',e,he,hb,hlt,hh⟩:=aFc (by simpa using hkN) hi'
   rw[hol] at ho'
   cases ho'
   have hde:=hedges e he hb
   rcases hh with rfl | hh
   .exact hde
   .exact hI.closed i e.on (by omega) hde<|by simpa using hh
  have later:∀j,k<j->j<ops.size->listed.getD j false=true->((cA aops k=true\/cA aops j=true)\/(k=sw/\j=sw+1/\fH aops k=true/\fH aops j=true))/\∃x y,aops[k]?=some x/\aops[j]?=some y/\BS x y=false/\BS y x=false:=by
   intro j hkj hj hD
   rcases gF _ hord k j hkj hj with h | h
   .have:=hI.closed k j hj hD h
    rw[hkD] at this;cases this
   .exact h
  have earlier:∀j,j<k->listed.getD j false=true\/(((cA aops j=true\/cA aops k=true)\/(j=sw/\k=sw+1/\fH aops j=true/\fH aops k=true))/\∃x y,aops[j]?=some x/\aops[k]?=some y/\BS x y=false/\BS y x=false):=by
   intro j hj
   rcases gF _ hord j k hj hkN with h | h
   .exact .inl<|hanc j h
   .exact .inr h
  have hdst:MB aops k=ao.dst:=by simp[MB,hao]
  have hlook:∀t∈DL ao,(jS aops tm val (λj=>listed.getD j false) ops.size)[t]?=(S k).tmps[t]?:=by
   intro t ht
   rw[<-KP (D:=λj=>decide<|j<k) (n:=ops.size) h0t hval (Nat.le_of_lt hkN) (by omega) (λj hj=>by simpa using hj) λj h1 _=>by simp;omega]
   apply Qd
   intro j hj hd
   by_cases hjk:j<k
   .have:decide (j<k)=true:=by simpa using hjk
    rw[this]
    rcases earlier j hjk with h | ⟨_,x,y,hx,hy,hc1,hc2⟩
    .exact h
    .exfalso
     rw[hao] at hy
     cases hy
     have hdx:x.dst=some t:=by simpa [MB,hx] using hd
     exact (Ri hc1 hdx).1 ht
   .have:decide (j<k)=false:=by simpa using hjk
    rw[this]
    by_cases ej:j=k
    .subst ej;exact hkD
    .cases hDj:listed.getD j false with
     | false=>rfl
     | true=>
      exfalso
      let⟨_,x,y,hx,hy,hc1,hc2⟩:=later j (by omega) hj hDj
      rw[hao] at hx
      cases hx
      have hdy:y.dst=some t:=by simpa [MB,hy] using hd
      exact (Ri hc2 hdy).1 ht
  have hset:∀j,(listed.setIfInBounds k true).getD j false=if j=k then true else listed.getD j false:=by
   intro j
   by_cases ej:j=k
   .subst ej
    simp[hI.size,hkN]
   .rw[getD_set_ne false λe=>ej e.symm,ZF ej]
  have ancLt:∀q m,q<ops.size->((wQ ops.toList ops.size []).getD q 0).testBit m=true->m<q:=by
   intro q m
   induction q using Nat.strongRecOn with
   | _ q ihq=>
    intro hqN hqb
    have hqb':((wQ ops.toList ops.toList.length []).getD q 0).testBit m=true:=by simpa using hqb
    let⟨o',ho',e,he,hb',hlt',hh⟩:=aFc (by simpa using hqN) hqb'
    rcases hh with rfl | hh
    .exact hlt'
    .have:=ihq e.on hlt' (by omega)<|by simpa using hh
     omega
  have fin:∀(x:AV) a' c',(S<|k+1).tmps=hZ (S k).tmps ao.dst x->c'.H=hpH aops S sw ops.size (λj=>(listed.setIfInBounds k true).getD j false)->bV fl c c'->bX (aK T) c'->TR (aK T) c' (hZ (jS aops tm val (λj=>listed.getD j false) ops.size) ao.dst x) a'.tmps->a'.defers=a.defers->wpAny P .any ops Q fuel (listed.setIfInBounds k true) a' c'.w:=by
   intro x a' c' hx1 e1 e2 e3 e4 e5
   refine ih (listed.setIfInBounds k true) a' c' (by have:=aQI hkN hk1 hI.size;omega) ?_
   refine⟨by simpa using hI.size,e3,hI.step.trans e2,e5.trans hI.defers,?_,?_,e1⟩
   .intro i j hj hD hb
    rw[hset] at hD |-
    split
    .rfl
    .by_cases ej:j=k
     .subst ej;exact hanc i hb
     .rw[ZF ej] at hD
      exact hI.closed i j hj hD hb
   .refine⟨by rw[fF,<-e4.1,TA,fF],λt y hy=>?_⟩
    refine e4.2 t y ?_
    rw[<-hy,xU]
    split
    .rename_i hd
     have hdk:MB aops k=some t:=by rw[hdst];exact hd
     rw[fF]
     rw[I1 (k:=k) (by simp[hset]) hdk ops.size hkN]
     .split
      .rename_i hlt
       congr 1
       have h1:(S<|k+1).tmps[t]?=some x:=by rw[hx1,xU,Zu hd,Zu<|by rw[<-Sy h0t hval k<|by omega,fF];exact hlt]
       have h2:(S<|k+1).tmps[t]?=some (val k):=by rw[hval k ao hao,xU,Zu hd,Zu<|by rw[<-Sy h0t hval k<|by omega,fF];exact hlt]
       rw[h1] at h2
       exact ZE h2
      .rfl
     .intro j h1 h2 h3
      rw[hset,ZF<|by omega]
      cases hDj:listed.getD j false with
      | false=>rfl
      | true=>
       exfalso
       let⟨_,x',y',hx',hy',hc1,hc2⟩:=later j h1 h2 hDj
       rw[hao] at hx'
       cases hx'
       have hdy:y'.dst=some t:=by simpa [MB,hy'] using h3
       exact (Ri hc1 hd).2 hdy
    .rename_i hd
     apply Qd
     intro j hj hdj
     rw[hset]
     by_cases ej:j=k
     .subst ej
      rw[hdst] at hdj
      exact (hd hdj).elim
     .rw[ZF ej]
  have byOp:∀c1:dC,c1.w=c.w->bV fl c c1->bX (aK T) c1->(∃st',cQ P cf fl ao ⟨(S k).tmps,c1.H⟩=some st'/\st'.tmps=(S<|k+1).tmps/\st'.heap=hpH aops S sw ops.size (λj=>(listed.setIfInBounds k true).getD j false))->wpOp P ops Q k (λa' w'=>wpAny P .any ops Q fuel (listed.setIfInBounds k true) a' w') a c.w:=by
   intro c1 hw hst hs1 ⟨stk',hevk',hstt,hsth⟩
   let⟨x,hx1,hx2⟩:=LF (tm:=jS aops tm val (λj=>listed.getD j false) ops.size) hlook hevk'
   rw[hstt] at hx1
   rw[<-hw]
   refine kJ hcf hfn hs1 (hI.tr.step hst) (ZB hfl (hI.step.trans hst).len) ho hok hx2 ?_
   intro a' c' e1 e2 e3 e4 e5 _
   exact fin x a' c' hx1 (e1.trans hsth) (hst.trans e2) e3 e4 e5
  have hmutA:∀m,fH aops m=true->cA aops m=false:=by
   intro m hm
   let⟨d,z,hz⟩:=Kq hm
   simp[cA,hz,jO]
  have pairF:sw+1<ops.size->∃d1 z1 d2 z2,aops[sw]?=some ⟨some d1,.alloc z1,none⟩/\aops[sw+1]?=some ⟨some d2,.alloc z2,none⟩/\zAt aops sw=z1/\zAt aops (sw+1)=z2 /\
   S (sw+1)=⟨(S sw).tmps.set d1<|.ptr (S sw).heap.length 1 0 0,(S sw).heap++[.blk z1.length [z1.map .lit]]⟩ /\
   S (sw+2)=⟨(S<|sw+1).tmps.set d2<|.ptr ((S sw).heap.length+1) 1 0 0,(S sw).heap++[.blk z1.length [z1.map .lit],.blk z2.length [z2.map .lit]]⟩:=by
   intro h
   let⟨h1,h2⟩:=hsw h
   let⟨d1,z1,e1⟩:=Kq h1
   let⟨d2,z2,e2⟩:=Kq h2
   have t1:=hS sw _ e1
   have t2:=hS (sw+1) _ e2
   simp only[cQ,eW,aL,hZ,Zb] at t1 t2
   refine⟨d1,z1,d2,z2,e1,e2,by simp[zAt,e1],by simp[zAt,e2],t1.symm,?_⟩
   rw[<-t2,<-t1]
   simp
  by_cases hodd:Jw (λj=>listed.getD j false) sw=true
  .have ho2:listed.getD (sw+1) false=true/\listed.getD sw false=false:=by
    simp only[Jw,Ze,YG] at hodd;exact hodd
   have hswN:sw+1<ops.size:=by
    rcases ZI (sw+1) ops.size with h | h
    .exact h
    .have:=ho2.1
     rw[Yg,Yc<|by rw[hI.size];exact h] at this
     cases this
   let⟨hal1,hal2⟩:=hsw hswN
   let⟨d1,z1,d2,z2,p1,p2,p3,p4,p5,p6⟩:=pairF hswN
   have hcH:c.H=(S sw).heap++[.blk z1.length [],.blk z2.length [z2.map .lit]]:=by
    rw[hI.heap,hpH,Zu hodd,aRy,p3,p4]
   have hbehind:∀j,sw+1<j->j<ops.size->cA aops j=false->listed.getD j false=false:=by
    intro j h1 h2 h3
    cases hd:listed.getD j false with
    | false=>rfl
    | true=>
     rcases gF _ hord sw j (by omega) h2 with h | ⟨(h | h) | h,_⟩
     .have:=hI.closed sw j h2 hd h
      rw[ho2.2] at this;cases this
     .rw[hmutA sw hal1] at h;cases h
     .rw[h3] at h;cases h
     .omega
   by_cases hksw:k=sw
   .subst hksw
    rw[hao] at p1
    cases p1
    have hid:c.H[(S k).heap.length]?=some (.blk z1.length []):=by rw[hcH];simp
    refine aCM (id:=(S k).heap.length) hI.sim hI.tr ho hok hid (hlenS k<|by omega) ?_
    intro a' c' e1 e2 e3 e4 e5
    refine fin (.ptr (S k).heap.length 1 0 0) a' c' (by rw[p5];rfl) ?_ e2 e3 e4 e5
    have hnod:Jw (λj=>(listed.setIfInBounds k true).getD j false) k=false:=by simp[Jw,hset]
    rw[e1,hpH,ZF<|by rw[hnod];exact XI,oB (k:=k+2) ops.size (by omega) λj h1 h2 h3=>by
     rw[hset,ZF<|by omega];exact hbehind j (by omega) h2 h3]
    have hl2:gY aops (λj=>(listed.setIfInBounds k true).getD j false) (k+2)=k+2:=by
     have e:(listed.setIfInBounds k true).getD (k+1) false=true:=by rw[hset,ZF<|by omega];exact ho2.1
     show (if ((listed.setIfInBounds k true).getD (k+1) false&&!cA aops (k+1))=true then k+1+1 else _)=_
     rw[e,hmutA _ hal2]
     rfl
    rw[hl2,p6,hcH]
    simp
   .have hq:cA aops k=true:=by
     cases hq:cA aops k with
     | true=>rfl
     | false=>
      exfalso
      rcases ZI k sw with h | h
      .rcases gF _ hord k (sw+1) (by omega) hswN with g | ⟨(g | g) | g,_⟩
       .have:=hI.closed k (sw+1) hswN ho2.1 g
        rw[hkD] at this;cases this
       .rw[hq] at g;cases g
       .rw[hmutA _ hal2] at g;cases g
       .omega
      .by_cases h':k=sw+1
       .subst h';rw[hkD] at ho2;cases ho2.1
       .rcases gF _ hord sw k (by omega) hkN with g | ⟨(g | g) | g,_⟩
        .have:=hanc sw g
         rw[ho2.2] at this;cases this
        .rw[hmutA _ hal1] at g;cases g
        .rw[hq] at g;cases g
        .omega
    have hD':Jw (λj=>(listed.setIfInBounds k true).getD j false) sw=true:=by
     have q1:(listed.setIfInBounds k true).getD sw false=false:=by rw[hset,ZF λe=>hksw e.symm];exact ho2.2
     have q2:(listed.setIfInBounds k true).getD (sw+1) false=true:=by
      rw[hset]
      split
      .rfl
      .exact ho2.1
     simp only[Jw,q1,q2]
     rfl
    refine byOp c rfl (bV.refl _ _) hI.sim ?_
    have hpe:hpH aops S sw ops.size (λj=>(listed.setIfInBounds k true).getD j false)=c.H:=by
     rw[hpH,Zu hD',hI.heap,hpH,Zu hodd]
    rw[hpe]
    have hev:=hS k ao hao
    have hqo:jO ao.op=true:=by simpa [cA,hao] using hq
    have hwant:∀(hop:∀v H1,aL P cf fl ao.op (S k).tmps (S k).heap=some (v,H1)->aL P cf fl ao.op (S k).tmps c.H=some (v,c.H)),∃st',cQ P cf fl ao ⟨(S k).tmps,c.H⟩=some st'/\st'.tmps=(S<|k+1).tmps/\st'.heap=c.H:=by
     intro hop
     unfold cQ at hev |-
     simp only at hev |-
     split at hev
     .rename_i hw
      split at hev
      .rename_i v H1 he
       simp only[Zb] at hev
       rw[hop v H1 he]
       exact⟨_,rfl,by rw[<-hev],rfl⟩
      .cases hev
     .rename_i hw
      simp only[Zb] at hev
      exact⟨_,rfl,by rw[<-hev],rfl⟩
     .cases hev
    by_cases hn:iZ aops k=true
    .have hno:wY ao.op=true:=by simpa [iZ,hao] using hn
     exact hwant λv H1 he=>LG hno he
    by_cases hg:eW (S k).tmps ao.guard=some false
    .unfold cQ at hev |-
     simp only[hg] at hev |-
     simp only[Zb] at hev
     exact⟨_,rfl,by rw[<-hev],rfl⟩
    have hks:(k,sw)∈ck:=by
     rcases hstab2 hswN k hkN hq with h | h | h
     .exact (hn h).elim
     .have:=hanc sw h
      rw[ho2.2] at this;cases this
     .exact h
    have hmid:∀m,m<ops.size->cA aops m=false->((sw+2<=m/\m<k)\/(k<=m/\m<sw+2))->(k,m)∈ck:=by
     intro m hm hmq hb
     by_cases em:m=sw
     .subst em;exact hks
     have hmD:m<=sw+1->listed.getD m false=true:=by
      intro hle
      by_cases e:m=sw+1
      .subst e;exact ho2.1
      .rcases gF _ hord m (sw+1) (by omega) hswN with g | ⟨(g | g) | g,_⟩
       .exact hI.closed m (sw+1) hswN ho2.1 g
       .rw[hmq] at g;cases g
       .rw[hmutA _ hal2] at g;cases g
       .omega
     rcases SU hstab hkN hm hq hmq with h | h | h | h
     .exact (hn h).elim
     .have hlt:=ancLt k m hkN h
      have hml:=hanc m h
      rcases hb with⟨b1,b2⟩ | ⟨b1,b2⟩
      .rw[hbehind m (by omega) hm hmq] at hml;cases hml
      .omega
     .have hlt:=ancLt m k hm h
      rcases hb with⟨b1,b2⟩ | ⟨b1,b2⟩
      .omega
      .have:=hI.closed k m hm (hmD<|by omega) h
       rw[hkD] at this;cases this
     .exact h
    rcases hck k sw hks ao hao with h | h | ⟨id,h,hkp⟩
    .exact (hg h).elim
    .exact hwant λv H1 he=>Ct h (λid hid=>by cases hid) he
    .refine hwant λv H1 he=>Ct h (λid' hid=>?_) he
     cases hid
     have hidn:id≠(S sw).heap.length:=by
      intro e
      rw[p5] at hkp
      simp only[e] at hkp
      rw[ZY<|Zf _,Zy<|Zf _] at hkp
      simp at hkp
     have hbase:c.H[id]?=(S<|sw+2).heap[id]?:=by
      rw[hcH,p6]
      simp only
      rcases ZI id (S sw).heap.length with hl | hl
      .rw[Zp hl,Zp hl]
      .rw[ZY hl,ZY hl]
       let⟨q,hq'⟩:∃q,id-(S sw).heap.length=q+1:=⟨id-(S sw).heap.length-1,by omega⟩
       rw[hq']
       rfl
     have hsts:∀m,m<ops.size->cA aops m=false->((sw+2<=m/\m<k)\/(k<=m/\m<sw+2))->(S<|m+1).heap[id]?=(S m).heap[id]?:=by
      intro m h1 h2 h3
      rcases hck k m (hmid m h1 h2 h3) ao hao with g | g | ⟨id2,g,g2⟩
      .exact (hg g).elim
      .rw[h] at g;cases g
      .rw[h] at g;cases g;exact g2
     rw[hbase]
     rcases WD (sw+2) k with hle | hle
     .exact (hkeep id (sw+2) k hle (by omega) λm g1 g2 g3=>hsts m (by omega) g3<|.inl ⟨g1,g2⟩).symm
     .exact hkeep id k (sw+2) hle (by omega) λm g1 g2 g3=>hsts m (by omega) g3<|.inr ⟨g1,g2⟩
  .have hcH:c.H=(S<|gY aops (λj=>listed.getD j false) ops.size).heap:=by rw[hI.heap,hpH,ZF hodd]
   by_cases hI1:k=sw+1/\listed.getD sw false=false
   .let⟨hk',hD1⟩:=hI1
    subst hk'
    let⟨hal1,hal2⟩:=hsw hkN
    let⟨d1,z1,d2,z2,p1,p2,p3,p4,p5,p6⟩:=pairF hkN
    have hL:gY aops (λj=>listed.getD j false) ops.size=gY aops (λ_=>true) sw:=by
     rw[oB (k:=sw) ops.size (by omega) (λj h1 h2 h3=>by
      by_cases e:j=sw
      .subst e;exact hD1
      .by_cases e':j=sw+1
       .subst e';exact hkD
       .cases hd:listed.getD j false with
        | false=>rfl
        | true=>
         rcases (later j (by omega) h2 hd).1 with (h | h) | h
         .rw[hmutA _ hal2] at h;cases h
         .rw[h3] at h;cases h
         .omega)]
     refine tM sw λj hj hjq=>?_
     rcases earlier j (by omega) with h | ⟨(h | h) | h,_⟩
     .exact h
     .rw[hjq] at h;cases h
     .rw[hmutA _ hal2] at h;cases h
     .omega
    have hH:c.H=(S sw).heap:=by rw[hcH,hL,hheapA sw<|by omega]
    rw[hao] at p2
    cases p2
    refine byOp ⟨c.w,c.X,c.β,c.H++[.blk z1.length []]⟩ rfl (Iw<|ZB hfl hI.step.len) (NQ hI.sim) ?_
    refine⟨⟨(S<|sw+1).tmps.set d2<|.ptr (c.H++[dH.blk z1.length []]).length 1 0 0,(c.H++[.blk z1.length []])++[.blk z2.length [z2.map .lit]]⟩,rfl,?_,?_⟩
    .rw[p6,hH];simp
    .have hD':Jw (λj=>(listed.setIfInBounds (sw+1) true).getD j false) sw=true:=by
      have q1:(listed.setIfInBounds (sw+1) true).getD sw false=false:=by rw[hset,ZF<|by omega];exact hD1
      have q2:(listed.setIfInBounds (sw+1) true).getD (sw+1) false=true:=by rw[hset,Zu rfl]
      simp only[Jw,q1,q2]
      rfl
     rw[hpH,Zu hD',aRy,p3,p4,hH]
     simp
   .have hnodd':Jw (λj=>(listed.setIfInBounds k true).getD j false) sw=false:=by
     cases h:Jw (λj=>(listed.setIfInBounds k true).getD j false) sw with
     | false=>rfl
     | true=>
      exfalso
      simp only[Jw,hset,Ze,YG] at h
      let⟨h1,h2⟩:=h
      split at h2
      .cases h2
      .rename_i hks
       split at h1
       .rename_i e;exact hI1 ⟨e.symm,h2⟩
       .exact hodd<|by simp[Jw,h1,h2]
    refine byOp c rfl (bV.refl _ _) hI.sim ?_
    rw[hpH,ZF<|by rw[hnodd'];exact XI]
    cases hq:cA aops k with
    | false=>
     have hlat:∀j,k<j->j<ops.size->cA aops j=false->listed.getD j false=false:=by
      intro j h1 h2 h3
      cases hd:listed.getD j false with
      | false=>rfl
      | true=>
       rcases (later j h1 h2 hd).1 with (h | h) | ⟨e1,e2,_⟩
       .rw[hq] at h;cases h
       .rw[h3] at h;cases h
       .exfalso
        subst e1 e2
        exact hodd<|by simp[Jw,hd,hkD]
     have hL:gY aops (λj=>listed.getD j false) ops.size=gY aops (λ_=>true) k:=by
      rw[oB (k:=k) ops.size (by omega) (λj h1 h2 h3=>by
       by_cases e:j=k
       .subst e;exact hkD
       .exact hlat j (by omega) h2 h3)]
      refine tM k λj hj hjq=>?_
      rcases earlier j hj with h | ⟨(h | h) | ⟨e1,e2,_⟩,_⟩
      .exact h
      .rw[hjq] at h;cases h
      .rw[hq] at h;cases h
      .cases hd:listed.getD j false with
       | true=>rfl
       | false=>exact (hI1 ⟨e2,by rw[<-e1];exact hd⟩).elim
     have hH:c.H=(S k).heap:=by rw[hcH,hL,hheapA k<|by omega]
     refine⟨S<|k+1,by rw[hH];exact hS k ao hao,rfl,?_⟩
     rw[oB (k:=k+1) ops.size (by omega) λj h1 h2 h3=>by
      rw[hset,ZF<|by omega]
      exact hlat j (by omega) h2 h3]
     simp only[gY,hset,Zz,hq]
     rfl
    | true=>
     have hL:gY aops (λj=>(listed.setIfInBounds k true).getD j false) ops.size=gY aops (λj=>listed.getD j false) ops.size:=by
      refine tM ops.size λj hj hjq=>?_
      rw[hset,ZF<|by intro e;subst e;rw[hq] at hjq;cases hjq]
     rw[hL,<-hcH]
     have hqo:jO ao.op=true:=by simpa [cA,hao] using hq
     have hev:=hS k ao hao
     have hpl:=aEh (aops:=aops) (D:=λj=>listed.getD j false) ops.size
     generalize hp:gY aops (λj=>listed.getD j false) ops.size=p at *
     have hbetween:∀m,m<ops.size->cA aops m=false->((p<=m/\m<k)\/(k<=m/\m<p))->iZ aops k=true\/(k,m)∈ck:=by
      intro m hm hmq hb
      rcases SU hstab hkN hm hq hmq with h | h | h | h
      .exact .inl h
      .exfalso
       have hml:=hanc m h
       have:=aEj (aops:=aops) (D:=λj=>listed.getD j false) ops.size hm hml hmq
       rw[hp] at this
       have hlt:=ancLt k m hkN h
       omega
      .exfalso
       have hlt:=ancLt m k hm h
       rcases hb with⟨h1,h2⟩ | ⟨h1,h2⟩
       .omega
       .obtain⟨p',rfl⟩:∃p',p=p'+1:=⟨p-1,by omega⟩
        let⟨g1,g2,g3⟩:=aEi ops.size hp
        have hmD:listed.getD m false=true:=by
         by_cases e:m=p'
         .subst e;exact g2
         .rcases gF _ hord m p' (by omega) g1 with h' | ⟨(h' | h') | ⟨e1,e2,_⟩,_⟩
          .exact hI.closed m p' g1 g2 h'
          .rw[hmq] at h';cases h'
          .rw[g3] at h';cases h'
          .cases hd:listed.getD m false with
           | true=>rfl
           | false=>
            exfalso
            subst e1 e2
            exact hodd<|by simp[Jw,g2,hd]
        have:=hI.closed k m hm hmD h
        rw[hkD] at this
        cases this
      .exact .inr h
     have hsame:c.H=(S k).heap->∃st',cQ P cf fl ao ⟨(S k).tmps,c.H⟩=some st'/\st'.tmps=(S<|k+1).tmps/\st'.heap=c.H:=by
      intro e
      refine⟨S<|k+1,by rw[e];exact hev,rfl,?_⟩
      rw[e]
      exact LE hqo hev
     have hwant:∀(hop:∀v H1,aL P cf fl ao.op (S k).tmps (S k).heap=some (v,H1)->aL P cf fl ao.op (S k).tmps c.H=some (v,c.H)),∃st',cQ P cf fl ao ⟨(S k).tmps,c.H⟩=some st'/\st'.tmps=(S<|k+1).tmps/\st'.heap=c.H:=by
      intro hop
      unfold cQ at hev |-
      simp only at hev |-
      split at hev
      .rename_i hw
       split at hev
       .rename_i v H1 he
        simp only[Zb] at hev
        rw[hop v H1 he]
        exact⟨_,rfl,by rw[<-hev],rfl⟩
       .cases hev
      .rename_i hw
       simp only[Zb] at hev
       exact⟨_,rfl,by rw[<-hev],rfl⟩
      .cases hev
     by_cases hn:iZ aops k=true
     .have hno:wY ao.op=true:=by simpa [iZ,hao] using hn
      exact hwant λv H1 he=>LG hno he
     .have hmid:∀m,m<ops.size->cA aops m=false->((p<=m/\m<k)\/(k<=m/\m<p))->(k,m)∈ck:=by
       intro m h1 h2 h3
       rcases hbetween m h1 h2 h3 with h | h
       .exact (hn h).elim
       .exact h
      by_cases hg:eW (S k).tmps ao.guard=some false
      .unfold cQ at hev |-
       simp only[hg] at hev |-
       simp only[Zb] at hev
       exact⟨_,rfl,by rw[<-hev],rfl⟩
      by_cases hex:∃m,m<ops.size/\cA aops m=false/\((p<=m/\m<k)\/(k<=m/\m<p))
      .let⟨m0,q1,q2,q3⟩:=hex
       rcases hck k m0 (hmid m0 q1 q2 q3) ao hao with h | h | ⟨id,h,_⟩
       .exact (hg h).elim
       .exact hwant λv H1 he=>Ct h (λid hid=>by cases hid) he
       .refine hwant λv H1 he=>Ct h (λid' hid=>?_) he
        cases hid
        have hsts:∀m,m<ops.size->cA aops m=false->((p<=m/\m<k)\/(k<=m/\m<p))->(S<|m+1).heap[id]?=(S m).heap[id]?:=by
         intro m h1 h2 h3
         rcases hck k m (hmid m h1 h2 h3) ao hao with g | g | ⟨id2,g,g2⟩
         .exact (hg g).elim
         .rw[h] at g;cases g
         .rw[h] at g;cases g;exact g2
        rw[hcH]
        rcases WD p k with hle | hle
        .exact (hkeep id p k hle (by omega) λm g1 g2 g3=>hsts m (by omega) g3<|.inl ⟨g1,g2⟩).symm
        .exact hkeep id k p hle hpl λm g1 g2 g3=>hsts m (by omega) g3<|.inr ⟨g1,g2⟩
      .refine hsame ?_
       rw[hcH]
       apply Ym
       intro id
       rcases WD p k with hle | hle
       .exact (hkeep id p k hle (by omega) λm g1 g2 g3=>(hex ⟨m,by omega,g3,.inl ⟨g1,g2⟩⟩).elim).symm
       .exact hkeep id k p hle hpl λm g1 g2 g3=>(hex ⟨m,by omega,g3,.inr ⟨g1,g2⟩⟩).elim
theorem NK[aF]: ∀(aops:List bQ) (st:St) (l:List St),Ee P cf fl aops st=some l->
 ∃S:Nat->St,S 0=st/\l.getLast?=some (S aops.length)/\(∀k,k<=aops.length->l[k]?=some (S k))/\∀k ao,aops[k]?=some ao->cQ P cf fl ao (S k)=some (S<|k+1)
 | [],st,l,h=>by
  simp only[Ee,Zb] at h;subst h;exact⟨λ_=>st,rfl,rfl,λk a=>by have:=(by simpa using a);subst this;rfl,λk ao a=>by simp at a⟩
 | o::r,st,l,h=>by
  simp only[Ee] at h;split at h
  .rename_i b i;split at h
   .rename_i c d;let⟨S,e,e2,g,f⟩:=NK r b c d;refine⟨λk=>match k with | 0=>st | k+1=>S k,rfl,?_,?_,λk ao a=>?_⟩
    .grind
    .grind
    .grind
   .cases h
  .cases h
theorem aBb[aF]{ops:List bQ}{l:List St}: ∀{c:List<|Nat×Nat},aBc ops l c=true->∀k m,(k,m)∈c->aEW ops l k m=true
 | [],_,k,m,h=>by cases h
 | (a,b)::r,h,k,m,d=>by
  simp only[aBc] at h;split at h
  .rename_i f;rcases ZJ.1 d with e | e
   .grind
   .exact aBb h k m e
  .cases h
theorem aJc[aF](hfo:Ao cf)(h:Lt P cf fl ck aops st=some st'):
 ∃S:Nat->St,S 0=st/\S aops.length=st'/\(∀k ao,aops[k]?=some ao->cQ P cf fl ao (S k)=some (S<|k+1)) /\
  ∀k m,(k,m)∈ck->∀ao,aops[k]?=some ao->eW (S k).tmps ao.guard=some false\/dI ao.op (S k).tmps=some none\/∃id,dI ao.op (S k).tmps=some (some id)/\(S<|m+1).heap[id]?=(S m).heap[id]?:=by
 unfold Lt at h;split at h
 .let⟨S,e1,e2,e3⟩:=aDm aops st st' h;exact⟨S,e1,e2,e3,λk m hm=>by cases hm⟩
 .rename_i r;split at h
  .rename_i l hl;split at h
   .rename_i hck;let⟨S,e1,e2,e3,e4⟩:=NK aops st l hl;rw[e2] at h;cases h;refine⟨S,e1,rfl,e4,λk m hm ao hao=>?_⟩;have:=aBb hck k m hm;unfold aEW at this
    have hk:=(Zd.1 hao).1
    simp only[hao,e3 k<|by omega] at this
    split at this
    .grind
    .split at this
     .grind
     .rename_i id hs
      refine .inr<|.inr ⟨id,hs,?_⟩
      split at this
      .rename_i om hom
       have hm':=(Zd.1 hom).1
       simp only[e3 m<|by omega] at this
       have hev:=e4 m om hom
       unfold cQ at hev
       split at this
       .grind
       .rename_i hw
        split at hev
        .split at hev
         .rename_i he
          simp at hev
          rw[<-hev]
          exact aG0 hfo this he
         .grind
        .grind
        .grind
      .grind
     .grind
   .cases h
  .cases h
theorem I6[aF]: ∀(aops:List bQ) (st:St) (l:List St),Ee P cf fl aops st=some l->iT P cf fl aops st=l.getLast?
 | [],st,l,h=>by
  simp only[Ee,Zb] at h;subst h;rfl
 | o::r,st,l,h=>by
  simp only[Ee] at h;split at h
  .rename_i a f;split at h
   .rename_i c d;cases h;have i:=I6 r a c d;have b:c≠[]:=by
     intro e;subst e;let⟨S,_,g,_⟩:=NK r a [] d;simp at g
    simp only[iT,f,i];rw[List.getLast?_cons_of_ne_nil b]
   .cases h
  .cases h
theorem Ta[aF]{a:List<|Nat×Nat}(h:Lt P cf fl a aops st=some st'): iT P cf fl aops st=some st':=by
 unfold Lt at h;split at h
 .exact h
 .split at h
  .rename_i l b;split at h
   .rw[I6 aops st l b];exact h
   .cases h
  .cases h
theorem aBA[aF](V:P.follows .mixedOrders=true)(q:Ao cf)(r:Au P T cf)(u:oI P T){B:List<|Nat×Nat}{b:Bool}{a:Act}(m:fY P T (.region b B aops) (.region id ops b)=true)(K:bX (aK T) c)(s:TR (aK T) c tm a.tmps)(t:fl<=c.H.length)(g:Lt P cf fl B aops ⟨tm,c.H⟩=some st')(D:∀a' c',c'.H=st'.heap->bV fl c c'->bX (aK T) c'->TR (aK T) c' st'.tmps a'.tmps->a'.defers=a.defers->Q .normal a' c'.w): (Code.region id ops b).wp P Q a c.w:=by
 simp only[fY,Ze] at m;let⟨⟨_,z⟩,G⟩:=m;let⟨p,_⟩:=Kj z;cases b with
 | false=>
  refine Xf ?_;have g:=Ta g;have:=Bj r u aops ops.toList 0 c a tm st' z (λj o O=>by simpa using O) K s t g D;rw[List.range_eq_range'];grind
 | true=>
  simp at G;let⟨⟨W,E⟩,R⟩:=G;let⟨S,I,e2,L,y⟩:=aJc q g;have e:∃val:Nat->AV,∀k ao,aops[k]?=some ao->(S<|k+1).tmps=hZ (S k).tmps ao.dst (val k):=by
   have:∀k,∃x,∀ao,aops[k]?=some ao->(S<|k+1).tmps=hZ (S k).tmps ao.dst x:=by
    intro k;cases U:aops[k]? with
    | none=>simp_all
    | some ao=>
     let⟨x,M,_⟩:=LF (λ_ _=>rfl)<|L k ao U;exact⟨x,λN h=>by cases h;exact M⟩
   exact⟨λk=>Classical.choose<|this k,λk=>Classical.choose_spec<|this k⟩
  let⟨val,e⟩:=e;have d:=by simpa using p
  refine wp_region_any V ?_;have J:Im c.w { c.w with drawn:=c.w.drawn+1 }:=⟨rfl,rfl,rfl,rfl,Ys _⟩;have l:=Iv (fl:=fl) J;refine aJR (c0:=⟨{ c.w with drawn:=c.w.drawn+1 },c.X,c.β,c.H⟩) (ds:=a.defers) r u z W E.1 R I L e y (aDr d) (aFE E.2) q t ?_ ops.size (Array.replicate ops.size false) a ⟨{ c.w with drawn:=c.w.drawn+1 },c.X,c.β,c.H⟩ ?_ ?_
  .intro a' c' f1 f2 Y F Z;rw[<-d,e2] at f1 F;exact D a' c' f1 (l.trans f2) Y F Z
  .unfold unl;exact ZB (List.length_filter_le _ _)<|by simp
  .have v:∀j,(Array.replicate ops.size false).getD j false=false:=by
    intro j;simp only[Yg,XP];split<;>rfl
   refine⟨by simp,K.drawn J,bV.refl _ _,rfl,(λi j _ C _=>by rw[v] at C;cases C),?_,?_⟩;have A:jS aops tm val (λj=>(Array.replicate ops.size false).getD j false) ops.size=tm:=
    Qb ops.size (ZL _) λj _ _=>v j
   .rw[A];exact s.step l
   .have n:Jw (λj=>(Array.replicate ops.size false).getD j false) (xI aops (wQ ops.toList ops.size []) ops.size 0)=false:=by simp only[Jw,v,Bool.false_and]
    rw[hpH,ZF<|by rw[n];exact XI,oB ops.size (ZL _) λj _ _ _=>v j];simp only[gY,I]
end
end
section
variable {FT:Nat->Option Nat}
theorem Jx[aF]{c:dC}: ∀(l:List Bool) (tm:List AV) (tv:Array Value),TR FT c tm tv->TR FT c (cU l tm) tv:=by
 intro l tm tv h;have f:∀(l:List Bool) (tm:List AV),(cU l tm).length=tm.length/\∀(t:Nat) (x:AV),(cU l tm)[t]?=some x->x=.undef\/tm[t]?=some x:=by
  intro l;induction l with
  | nil=>
   intro tm;cases tm with
   | nil=>exact⟨rfl,λt x a=>by simp[cU] at a⟩
   | cons v vs=>
    refine⟨by simp[cU],λt x a=>?_⟩;simp only[cU] at a;grind
  | cons b k i=>
   intro tm;cases tm with
   | nil=>exact⟨rfl,λt x a=>by simp[cU] at a⟩
   | cons v vs=>
    let⟨d,e⟩:=i vs;refine⟨by simp[cU,d],λt x a=>?_⟩;cases t with
    | zero=>
     simp only[cU] at a |-;grind
    | succ t=>
     exact e t x a
 let⟨d,e⟩:=f l tm;refine⟨d.trans h.1,λt x a=>?_⟩;rcases e t x a with rfl | g
 .have j:t<tv.size:=by rw[<-h.1,<-d];exact (Zd.1 a).1
  exact⟨tv[t],by simp,RV.undef _⟩
 .exact h.2 t x g
structure Sub(n:Nat)(c c':dC): Prop where
 w:c'.w=c.w
 X:c'.X=c.X
 lo:∀id,id<n->c'.β id=c.β id
 img:∀id b,c'.β id=some b->∃i,c.β i=some b
 shp:∀id,id<n->shp c'.H id=shp c.H id
 mp:∀id,id<n->Br c.H id->Br c'.H id
theorem Sub.imm{n:Nat}{c c':dC}(h:Sub n c c'){b:Nat}(e:lC c b): lC c' b:=by
 refine⟨by rw[h.X];exact e.1,λid a=>?_⟩;let⟨i,d⟩:=h.img id b a;exact e.2 i d
theorem Sub.vis{n:Nat}{c c':dC}(h:Sub n c c'){b:Nat}(e:Vis c b): Vis c' b:=by
 intro id a;let⟨i,d⟩:=h.img id b a;exact e i d
theorem Sub.rp[aF]{n:Nat}{c c':dC}(h:Sub n c c'){x:AV}{v:Value}(a:RP c.w (lC c) x v): RP c'.w (lC c') x v:=
 a.mono λb o e d=>⟨h.imm e,by rw[h.w];exact d⟩
theorem aBa[aF]{n:Nat}{c c':dC}(h:Sub n c c'){x:AV}{v:Value}(S:RV FT c x v): RV FT c' (mE n x) v:=by
 cases S with
 | pure _ _ X=>
  have H:=h.rp X;cases H with
  | undef v=>exact .pure _ _<|.undef v
  | lit v=>exact .pure _ _<|.lit v
  | nil f a cap W=>exact .pure _ _<|.nil f a cap W
  | sl f es b off cap cc T u s d p o r q y B J Y=>exact .pure _ _<|.sl f es b off cap cc T u s d p o r q y B J Y
  | sptr cs b off cc T u d p o r q=>exact .pure _ _<|.sptr cs b off cc T u d p o r q
  | rmp A b es F d p o r q y B=>exact .pure _ _<|.rmp A b es F d p o r q y B
 | ms id tot off len a cap s m l k t C=>
  simp only[mE];split
  .rename_i g;refine .ms id tot off len a cap s m ((h.shp id g).trans l) k t λe=>?_;let⟨m1,V⟩:=C e;refine⟨m1,?_⟩;rcases V with⟨I,E,G,K⟩ | ⟨b,cs,T,a',I,E,G,K,U⟩
   .exact .inl ⟨(h.lo id g).trans I,E,G,K⟩
   .exact .inr ⟨b,cs,T,a',(h.lo id g).trans I,by rw[h.w];exact E,G,K,U⟩
  .exact RV.undef _
 | ptr id tot D off a s m l k t=>
  simp only[mE];split
  .rename_i g;refine .ptr id tot D off a s m ((h.shp id g).trans l) k λe=>?_;let⟨b,R,ha⟩:=t e;exact⟨b,(h.lo id g).trans R,ha⟩
  .exact RV.undef _
 | rptr cs b off cc T u d l k t C=>exact .rptr cs b off cc T u d (h.vis l) (by rw[h.w];exact k) t λj x z=>h.rp<|C j x z
 | vnil a cap=>exact .vnil a cap
 | vw es b off cap cc T u s d p o r q y B J=>exact .vw es b off cap cc T u s d p (h.vis o) (by rw[h.w];exact r) q y B λi j x z=>h.rp<|J i j x z
 | mp id b l k=>
  simp only[mE];split
  .rename_i g;exact .mp id b (h.mp id g l)<|(h.lo id g).trans k
  .exact RV.undef _
 | it id b l k=>
  simp only[mE];split
  .rename_i g;exact .it id b (h.mp id g l)<|(h.lo id g).trans k
  .exact RV.undef _
 | fn vi f caps cv d l k t C=>
  cases caps with
  | nil=>exact .fn vi f [] cv d l k t λi x z=>by simp at z
  | cons _ _=>exact RV.undef _
 | agg=>exact RV.undef _
 | tup=>exact RV.undef _
theorem Ib[aF]{n:Nat}{c c':dC}(h:Sub n c c'){x:AV}{v:Value}(e:RV FT c x v): RV FT c' (jK n x) v:=by
 unfold jK;split
 .rename_i vi caps;cases e with
  | pure _ _ g=>cases g
  | fn _ f _ cv a l k o j=>
   refine .fn vi f _ cv a l (by simpa using k) ?_ ?_
   .grind
   .intro i x b;simp at b;obtain⟨y,m,rfl⟩:=b;exact aBa h<|j i y m
 .exact aBa h e
theorem Tb[aF]{n:Nat}{c c':dC}(h:Sub n c c'){x:AV}{v:Value}(b:RV FT c x v): RV FT c' (Rh n x) v:=by
 unfold Rh;split
 .rename_i cs;obtain⟨cv,a,rfl,e,j,g⟩:=b.agg_inv;refine .agg _ cv a (by simpa using e) ?_ ?_
  .grind
  .intro i x d;simp at d;obtain⟨y,f,rfl⟩:=d;exact Ib h<|g i y f
 .exact Ib h b
theorem aAZ[aF]{n:Nat}{c c':dC}(h:Sub n c c'){x:AV}{v:Value}(b:RV FT c x v): RV FT c' (Rg n x) v:=by
 unfold Rg;split
 .rename_i cs;obtain⟨cv,a,rfl,e,j,g⟩:=b.tup_inv;refine .tup _ cv a (by simpa using e) ?_ ?_
  .grind
  .intro i x d;simp at d;obtain⟨y,f,rfl⟩:=d;exact Tb h<|g i y f
 .exact Tb h b
def jX(fl n:Nat)(c:dC): dC:=
 ⟨c.w,c.X,λid=>if id<n then c.β id else none,c.H.take fl++((c.H.take n).drop fl).map (bU n)⟩
theorem Eu{fl n:Nat}{c:dC}(a:fl<=n)(b:n<=c.H.length)(id:Nat):
 (jX fl n c).H[id]?=if id<fl then c.H[id]? else if id<n then (c.H[id]?).map (bU n) else none:=by
 simp only[jX];grind
theorem oO{fl n:Nat}{c:dC}(a:fl<=n)(b:n<=c.H.length): (jX fl n c).H.length=n:=by
 simp only[jX,Zj,ZM,ZR,ZU];omega
theorem Et[aF]{fl n:Nat}{c:dC}(f:fl<=n)(i:n<=c.H.length): Sub n c (jX fl n c) where
 w:=rfl;X:=rfl;lo:=λid a=>by simp[jX,a]
 img:=λid b l=>by
  simp only[jX] at l;grind
 shp:=λid a=>by
  have r:=Eu f i id;unfold shp;rw[r];by_cases h:id<fl
  .grind
  .rw[ZF h,Zu a];cases c.H[id]? with
   | none=>rfl
   | some o=>cases o<;>simp[bU]
 mp:=λid a j=>by
  let⟨d,he,g⟩:=j;simp only[Br,Eu f i,he];split
  .grind
  .refine⟨bU n d,by simp,?_⟩;cases d with
   | blk=>exact g
   | mp=>trivial
   | raw=>trivial
theorem CK[aF]{fl:Nat}{c0 c:dC}(v:bX FT c0)(h:bV fl c0 c)(f:fl<=c0.H.length): bV fl c0<|jX fl c0.H.length c:=by
 have d:=Et f h.len;have i:=Eu f h.len;have l:∀id r,shp c0.H id=some r->id<c0.H.length:=λid r u=>by
  rcases ZI id c0.H.length with p | p
  .grind
  .simp[shp,Zy p] at u
 refine⟨h.X,h.os,h.tape,h.output,h.drawn,h.size,by rw[oO f h.len];exact Zf _,h.frame,?_,?_,?_,?_⟩
 .intro id b m;simp only[jX] at m;split at m
  .exact h.img id b m
  .grind
 .intro id s n o;let⟨w,g,j,k⟩:=h.blkS id s n o;have a:=l id _ o;exact⟨w,(d.shp id a).trans g,j,λe=>⟨(d.lo id a).trans (k e).1,(k e).2⟩⟩
 .intro id q;have a:id<c0.H.length:=by
   let⟨t,he,_⟩:=q;grind
  let⟨g,j⟩:=h.mpS id q;exact⟨d.mp id a g,(d.lo id a).trans j⟩
 .intro id a;let⟨g,j,k⟩:=h.floor id a;exact⟨by rw[i,Zu a];exact g,(d.lo id<|by omega).trans j,k⟩
theorem aAo[aF]{fl:Nat}{c0 c:dC}(hs0:bX FT c0)(hs:bX FT c)(h:bV fl c0 c)(hfl:fl<=c0.H.length): bX FT<|jX fl c0.H.length c:=by
 have hsub:=Et hfl h.len
 have hget:=Eu hfl h.len
 have hst:=CK hs0 h hfl
 have hβ:∀id b,(jX fl c0.H.length c).β id=some b->id<c0.H.length/\c.β id=some b:=by
  intro id b hb
  simp only[jX] at hb
  split at hb
  .grind
  .grind
 refine⟨hs0.gl.step hst,?_,?_,?_,hs.fresh,?_,?_,?_,?_⟩
 .intro i j b hi hj
  exact hs.inj i j b (hβ i b hi).2 (hβ j b hj).2
 .intro id b hb
  rw[oO hfl h.len];exact (hβ id b hb).1
 .intro id b hb
  exact hs.nx id b (hβ id b hb).2
 .intro id s es ho
  rw[hget] at ho
  split at ho
  .exact hs.lens id s es ho
  .split at ho
   .simp only[Zq] at ho
    let⟨o,ho1,ho2⟩:=ho
    cases o with
    | blk s' es'=>
     simp only[bU,dH.blk.injEq] at ho2
     let⟨rfl,rfl⟩:=ho2
     intro e he
     simp only[Yj] at he
     obtain⟨e0,h0,rfl⟩:=he
     simpa using hs.lens id s' es' ho1 e0 h0
    | mp ents=>simp[bU] at ho2
    | raw q=>simp[bU] at ho2
   .grind
 .intro id s es b ho hb
  let⟨hid,hb'⟩:=hβ id b hb
  rw[hget] at ho
  split at ho
  .rename_i hlo
   let⟨f1,f2,f3⟩:=h.floor id hlo
   rw[f1] at ho
   rw[f2] at hb'
   let⟨cs,T,g1,g2,g3⟩:=hs0.blk id s es b ho hb'
   exact⟨cs,T,(f3 b hb').trans g1,g2,λi j x hx=>let ⟨v,k1,k2,k3⟩:=g3 i j x hx;⟨v,k1,k2,k3.step hst⟩⟩
  .simp only[Zq] at ho
   let⟨o,ho1,ho2⟩:=ho
   cases o with
   | blk s' es'=>
    simp only[bU,dH.blk.injEq] at ho2
    let⟨rfl,rfl⟩:=ho2
    let⟨cs,T,g1,g2,g3⟩:=hs.blk id s' es' b ho1 hb'
    refine⟨cs,T,g1,by simpa using g2,λi j x hx=>?_⟩
    obtain⟨y,hy,rfl⟩:=jC hx
    let⟨v,k1,k2,k3⟩:=g3 i j y hy
    exact⟨v,k1,k2,Ib hsub k3⟩
   | mp ents=>simp[bU] at ho2
   | raw q=>simp[bU] at ho2
 .intro id ents b ho hb
  let⟨hid,hb'⟩:=hβ id b hb
  rw[hget] at ho
  split at ho
  .rename_i hlo
   let⟨f1,f2,f3⟩:=h.floor id hlo
   rw[f1] at ho
   rw[f2] at hb'
   let⟨es,clk,g1,g2,g3⟩:=hs0.map id ents b ho hb'
   exact⟨es,clk,(f3 b hb').trans g1,g2,λi k x hx=>let ⟨e,k1,k2,k3⟩:=g3 i k x hx;⟨e,k1,k2,k3.step hst⟩⟩
  .simp only[Zq] at ho
   let⟨o,ho1,ho2⟩:=ho
   cases o with
   | blk s' es'=>simp[bU] at ho2
   | mp ents'=>
    simp only[bU,dH.mp.injEq] at ho2
    subst ho2
    let⟨es,clk,g1,g2,g3⟩:=hs.map id ents' b ho1 hb'
    refine⟨es,clk,g1,by simpa using g2,λi k x hx=>?_⟩
    simp only[Zm,Zq] at hx
    let⟨⟨k0,y⟩,hy,he⟩:=hx
    obtain⟨rfl,rfl⟩:=he
    let⟨e,k1,k2,k3⟩:=g3 i k0 y hy
    exact⟨e,k1,k2,Tb hsub k3⟩
   | raw q=>simp[bU] at ho2
 .intro id q b ho hb
  let⟨hid,hb'⟩:=hβ id b hb
  rw[hget] at ho
  split at ho
  .rename_i hlo
   let⟨f1,f2,f3⟩:=h.floor id hlo
   rw[f1] at ho
   rw[f2] at hb'
   exact (f3 b hb').trans<|hs0.raw id q b ho hb'
  .simp only[Zq] at ho
   let⟨o,ho1,ho2⟩:=ho
   cases o with
   | blk s' es'=>simp[bU] at ho2
   | mp ents'=>simp[bU] at ho2
   | raw q'=>
    simp only[bU,dH.raw.injEq] at ho2
    subst ho2
    exact hs.raw id q' b ho1 hb'
theorem yK[aF]{fl:Nat}{live:Option<|List Bool}{tr:Bool}{c0 c:dC}{tm:List AV}{tv:Array Value}(d:bX FT c0)(f:bX FT c)(h:bV fl c0 c)(a:fl<=c0.H.length)(e:TR FT c tm tv):
 ∃c',c'.w=c.w/\c'.H=(dK live tr fl c0.H.length ⟨tm,c.H⟩).heap/\bV fl c0 c'/\bX FT c'/\TR FT c' (dK live tr fl c0.H.length ⟨tm,c.H⟩).tmps tv:=by
 have b:TR FT c (aAF live tm) tv:=by
  cases live with
  | none=>exact e
  | some l=>exact Jx l tm tv e
 cases tr with
 | false=>exact⟨c,rfl,by simp[dK],h,f,by simpa [dK] using b⟩
 | true=>
  refine⟨jX fl c0.H.length c,rfl,by simp[dK,jX],CK d h a,aAo d f h a,?_⟩;simp only[dK,Zz];refine⟨by simpa using b.1,λt x g=>?_⟩;simp at g;obtain⟨y,k,rfl⟩:=g;let⟨v,i,j⟩:=b.2 t y k;exact⟨v,i,aAZ (Et a h.len) j⟩
def DC(c:dC)(id s:Nat)(es:List<|List AV): dC:=
 ⟨c.w,c.X,λi=>if i=c.H.length then c.β id else if i=id then none else c.β i,c.H.set id (.blk s<|es++[List.replicate s .undef])++[.blk s es]⟩
theorem aBN{c:dC}{id s:Nat}{es:List<|List AV}(a:c.H[id]?=some (.blk s es))(i:Nat):
 (DC c id s es).H[i]?=if i=c.H.length then some (.blk s es) else if i=id then some (.blk s<|es++[List.replicate s .undef]) else c.H[i]?:=by
 simp only[DC];grind
theorem aDO[aF]{fl:Nat}{c:dC}{id s:Nat}{es:List<|List AV}(hfl:fl<=id)(hob:c.H[id]?=some (.blk s es)): bV fl c<|DC c id s es:=by
 have hlt:=(Zd.1 hob).1;have hg:=aBN hob;have hlo:∀i o,c.H[i]?=some o->i<c.H.length:=λi o h=>(Zd.1 h).1;refine⟨rfl,rfl,rfl,rfl,Zf _,Zf _,by simp[DC],λ_ _ _=>rfl,?_,?_,?_,?_⟩
 .intro i b hb;simp only[DC] at hb;grind
 .intro i s' n hs;have hi:i<c.H.length:=by
   rcases ZI i c.H.length with h' | h'
   .grind
   .simp[shp,Zy h'] at hs
  by_cases h2:i=id
  .subst h2;have e:=by simp[shp,hob] at hs;omega
   let⟨rfl,rfl⟩:=e;unfold shp
   grind
  .refine⟨n,?_,Zf _,λ_=>⟨?_,λb cs T _ hb=>⟨cs,hb,rfl⟩⟩⟩
   .unfold shp
    rw[hg,ZF<|by omega,ZF h2]
    exact hs
   .simp only[DC]
    rw[ZF<|by omega,ZF h2]
 .intro i hm
  let⟨o,ho,hnb⟩:=hm
  have hi:=hlo i o ho
  have h2:i≠id:=by
   intro e
   subst e
   rw[hob] at ho
   cases ho
   exact hnb
  refine⟨⟨o,by rw[hg,ZF<|by omega,ZF h2];exact ho,hnb⟩,?_⟩
  simp only[DC]
  rw[ZF<|by omega,ZF h2]
 .intro i hi
  refine⟨by rw[hg,ZF<|by omega,ZF<|by omega],?_,λ_ _=>rfl⟩
  simp only[DC]
  rw[ZF<|by omega,ZF<|by omega]
theorem aOd[aF]{c:dC}{id s:Nat}{es:List<|List AV}(hs:bX FT c)(hob:c.H[id]?=some (.blk s es)): bX FT<|DC c id s es:=by
 have hg:=aBN hob
 have hst:=aDO (fl:=0) (ZL _) hob
 have hβ:∀i b,(DC c id s es).β i=some b->(i=c.H.length/\c.β id=some b)\/(i≠c.H.length/\i≠id/\c.β i=some b):=by
  intro i b hb
  simp only[DC] at hb
  grind
 refine⟨hs.gl.step hst,?_,?_,?_,hs.fresh,?_,?_,?_,?_⟩
 .intro i j b hi hj
  rcases hβ i b hi with⟨h1,h2⟩ | ⟨h1,h2,h3⟩<;>rcases hβ j b hj with⟨k1,k2⟩ | ⟨k1,k2,k3⟩
  .omega
  .exact (k2<|hs.inj _ _ b k3 h2).elim
  .exact (h2<|hs.inj _ _ b h3 k2).elim
  .exact hs.inj _ _ b h3 k3
 .intro i b hb
  simp only[DC,Zj,Yr,Ye]
  rcases hβ i b hb with⟨h1,h2⟩ | ⟨h1,h2,h3⟩
  .omega
  .have:=hs.dom i b h3;omega
 .intro i b hb
  rcases hβ i b hb with⟨h1,h2⟩ | ⟨h1,h2,h3⟩
  .exact hs.nx _ b h2
  .exact hs.nx _ b h3
 .intro i s' es' ho
  rw[hg] at ho
  split at ho
  .cases ho;exact hs.lens id s es hob
  .split at ho
   .cases ho
    intro e he
    rcases ZC.1 he with h | h
    .exact hs.lens id s es hob e h
    .grind
   .exact hs.lens i s' es' ho
 .intro i s' es' b ho hb
  rcases hβ i b hb with⟨h1,h2⟩ | ⟨h1,h2,h3⟩
  .rw[hg,Zu h1] at ho
   cases ho
   let⟨cs,T,g1,g2,g3⟩:=hs.blk id s es b hob h2
   exact⟨cs,T,g1,g2,λi j x hx=>let ⟨v,k1,k2,k3⟩:=g3 i j x hx;⟨v,k1,k2,k3.step hst⟩⟩
  .rw[hg,ZF h1,ZF h2] at ho
   let⟨cs,T,g1,g2,g3⟩:=hs.blk i s' es' b ho h3
   exact⟨cs,T,g1,g2,λi j x hx=>let ⟨v,k1,k2,k3⟩:=g3 i j x hx;⟨v,k1,k2,k3.step hst⟩⟩
 .intro i ents b ho hb
  rcases hβ i b hb with⟨h1,h2⟩ | ⟨h1,h2,h3⟩
  .grind
  .rw[hg,ZF h1,ZF h2] at ho
   let⟨es,clk,g1,g2,g3⟩:=hs.map i ents b ho h3
   exact⟨es,clk,g1,g2,λi k x hx=>let ⟨e,k1,k2,k3⟩:=g3 i k x hx;⟨e,k1,k2,k3.step hst⟩⟩
 .intro i q b ho hb
  rcases hβ i b hb with⟨h1,h2⟩ | ⟨h1,h2,h3⟩
  .grind
  .rw[hg,ZF h1,ZF h2] at ho
   exact hs.raw i q b ho h3
theorem aHS{c c':dC}{id m s tot off len:Nat}{es es':List<|List AV}(d:c.H[id]?=some (.blk s es))(b:c'.H[m]?=some (.blk s es'))(r:es'.length=es.length)(o:c'.w=c.w)(q:c'.β m=c.β id){v:Value}(l:RV FT c (.ms id tot off len) v): RV FT c' (.ms m tot off len) v:=by
 cases l with
 | pure _ _ h=>cases h
 | ms _ _ _ _ a cap s' n g u k i=>
  have e:s'=s/\n=es.length:=by simp[shp,d] at g;omega
  let⟨rfl,rfl⟩:=e;refine .ms m tot off len a cap s' es'.length (by simp[shp,b]) (by omega) k λe=>?_;let⟨j,t⟩:=i (by omega);refine⟨j,?_⟩;grind
theorem aJf[aF]{fl t:Nat}{c:dC}{tm:List AV}{tv:Array Value}{d:St}(p:bX FT c)(b:TR FT c tm tv)(h:aHD fl t ⟨tm,c.H⟩=some d):
 ∃c',c'.w=c.w/\c'.H=d.heap/\bV fl c c'/\bX FT c'/\TR FT c' d.tmps tv:=by
 unfold aHD at h;split at h
 .rename_i id tot off len n;split at h
  .rename_i l;split at h
   .rename_i s es a;split at h
    .rename_i o;cases h;have i:=aDO l a;refine⟨DC c id s es,rfl,rfl,i,aOd p a,?_⟩;refine⟨by simpa using b.1,λu y g=>?_⟩;rw[Z7] at g;split at g
     .rename_i m;subst m;split at g
      .rename_i f;cases g;let⟨cv,k,j⟩:=b.2 t tm[t]<|Za f;have e:=by
        simp only[aH,Za f] at n;exact n
       rw[e] at j;refine⟨cv,k,aHS (c':=DC c id s es) a (by rw[aBN a,Zu rfl]) rfl rfl (by simp[DC]) j⟩
      .grind
     .let⟨cv,k,j⟩:=b.2 u y g;exact⟨cv,k,j.step i⟩
    .cases h
   .cases h
  .cases h
 .cases h
def qJ(fl n id s:Nat)(es:List<|List AV)(c:dC): dC:=
 ⟨c.w,c.X,λi=>if i<n then c.β i else if i=n then c.β id else none,(jX fl n c).H++[bU n<|.blk s es]⟩
theorem Pi[aF]{fl n id s:Nat}{es:List<|List AV}{c:dC}(a:fl<=n)(b:n<=c.H.length)(i:Nat):
 (qJ fl n id s es c).H[i]?=if i<n then (jX fl n c).H[i]? else if i=n then some (bU n<|.blk s es) else none:=by
 simp only[qJ];rw[Yl];rw[oO a b];grind
theorem E4[aF]{fl n id s:Nat}{es:List<|List AV}{c:dC}(a:fl<=n)(e:n<=c.H.length): Sub n c (qJ fl n id s es c) where
 w:=rfl;X:=rfl;lo:=λi d=>by simp[qJ,d]
 img:=λi b h=>by
  simp only[qJ] at h;grind
 shp:=λi d=>by
  have:=(Et a e).shp i d;unfold shp at this |-;rw[Pi a e,Zu d];exact this
 mp:=λi d f=>by
  have:=(Et a e).mp i d f;unfold Br at this |-;rw[Pi a e,Zu d];exact this
theorem aAE[aF]{fl id s:Nat}{es:List<|List AV}{c0 c:dC}(p:bX FT c0)(h:bV fl c0 c)(f:fl<=c0.H.length): bV fl c0<|qJ fl c0.H.length id s es c:=by
 have a:=E4 (id:=id) (s:=s) (es:=es) f h.len;have w:=CK p h f;have g:=Pi (id:=id) (s:=s) (es:=es) f h.len;have k:(qJ fl c0.H.length id s es c).H.length=c0.H.length+1:=by
  simp only[qJ,Zj,oO f h.len,Ye]
 refine⟨h.X,h.os,h.tape,h.output,h.drawn,h.size,by rw[k];omega,h.frame,?_,?_,?_,?_⟩
 .intro i b j;simp only[qJ] at j;split at j
  .exact h.img i b j
  .split at j
   .exact h.img id b j
   .grind
 .intro i s' n u;have d:i<c0.H.length:=by
   rcases ZI i c0.H.length with q | q
   .grind
   .simp[shp,Zy q] at u
  let⟨x,l,o,m⟩:=h.blkS i s' n u;exact⟨x,(a.shp i d).trans l,o,λe=>⟨(a.lo i d).trans (m e).1,(m e).2⟩⟩
 .intro i v;have d:i<c0.H.length:=by
   let⟨t,he,_⟩:=v;exact (Zd.1 he).1
  let⟨l,o⟩:=h.mpS i v;exact⟨a.mp i d l,(a.lo i d).trans o⟩
 .intro i r;let⟨l,o,m⟩:=w.floor i r;exact⟨by rw[g,Zu<|by omega];exact l,(a.lo i<|by omega).trans (h.floor i r).2.1,m⟩
theorem aL3[aF]{fl id s:Nat}{es:List<|List AV}{c0 c:dC}(hs0:bX FT c0)(hs:bX FT c)(h:bV fl c0 c)(hfl:fl<=c0.H.length)(hid:c0.H.length<=id)(hob:c.H[id]?=some (.blk s es)): bX FT<|qJ fl c0.H.length id s es c:=by
 have hsub:=E4 (id:=id) (s:=s) (es:=es) hfl h.len
 have hst:=aAE (id:=id) (s:=s) (es:=es) hs0 h hfl
 have ht:=aAo hs0 hs h hfl
 have hget:=Pi (id:=id) (s:=s) (es:=es) hfl h.len
 have htg:=Eu hfl h.len
 have hlen:(qJ fl c0.H.length id s es c).H.length=c0.H.length+1:=by
  simp only[qJ,Zj,oO hfl h.len,Ye]
 have hβ:∀i b,(qJ fl c0.H.length id s es c).β i=some b->(i<c0.H.length/\c.β i=some b)\/(i=c0.H.length/\c.β id=some b):=by
  intro i b hb
  simp only[qJ] at hb
  split at hb
  .grind
  .grind
 refine⟨hs0.gl.step hst,?_,?_,?_,hs.fresh,?_,?_,?_,?_⟩
 .intro i j b hi hj
  rcases hβ i b hi with⟨h1,h2⟩ | ⟨h1,h2⟩<;>rcases hβ j b hj with⟨k1,k2⟩ | ⟨k1,k2⟩
  .exact hs.inj _ _ b h2 k2
  .have:=hs.inj _ _ b h2 k2;omega
  .have:=hs.inj _ _ b h2 k2;omega
  .omega
 .grind
 .intro i b hb
  rcases hβ i b hb with⟨h1,h2⟩ | ⟨h1,h2⟩
  .exact hs.nx _ b h2
  .exact hs.nx _ b h2
 .intro i s' es' ho
  rw[hget] at ho
  split at ho
  .exact ht.lens i s' es' ho
  .split at ho
   .simp only[bU,Zb,dH.blk.injEq] at ho
    let⟨rfl,rfl⟩:=ho
    intro e he
    simp only[Yj] at he
    obtain⟨e0,h0,rfl⟩:=he
    simpa using hs.lens id s es hob e0 h0
   .grind
 .intro i s' es' b ho hb
  rcases hβ i b hb with⟨hi,hb'⟩ | ⟨hi,hb'⟩
  .rw[hget,Zu hi,htg] at ho
   split at ho
   .rename_i hlo
    let⟨f1,f2,f3⟩:=h.floor i hlo
    rw[f1] at ho
    rw[f2] at hb'
    let⟨cs,T,g1,g2,g3⟩:=hs0.blk i s' es' b ho hb'
    exact⟨cs,T,(f3 b hb').trans g1,g2,λi j x hx=>let ⟨v,k1,k2,k3⟩:=g3 i j x hx;⟨v,k1,k2,k3.step hst⟩⟩
   .try rw[Zu hi] at ho
    simp only[Zq] at ho
    let⟨o,ho1,ho2⟩:=ho
    cases o with
    | blk s2 es2=>
     simp only[bU,dH.blk.injEq] at ho2
     let⟨rfl,rfl⟩:=ho2
     let⟨cs,T,g1,g2,g3⟩:=hs.blk i s2 es2 b ho1 hb'
     refine⟨cs,T,g1,by simpa using g2,λi j x hx=>?_⟩
     obtain⟨y,hy,rfl⟩:=jC hx
     let⟨v,k1,k2,k3⟩:=g3 i j y hy
     exact⟨v,k1,k2,Ib hsub k3⟩
    | mp ents=>simp[bU] at ho2
    | raw q=>simp[bU] at ho2
  .rw[hget,ZF<|by omega,Zu hi] at ho
   simp only[bU,Zb,dH.blk.injEq] at ho
   let⟨rfl,rfl⟩:=ho
   let⟨cs,T,g1,g2,g3⟩:=hs.blk id s es b hob hb'
   refine⟨cs,T,g1,by simpa using g2,λi j x hx=>?_⟩
   obtain⟨y,hy,rfl⟩:=jC hx
   let⟨v,k1,k2,k3⟩:=g3 i j y hy
   exact⟨v,k1,k2,Ib hsub k3⟩
 .intro i ents b ho hb
  rcases hβ i b hb with⟨hi,hb'⟩ | ⟨hi,hb'⟩
  .rw[hget,Zu hi,htg] at ho
   split at ho
   .rename_i hlo
    let⟨f1,f2,f3⟩:=h.floor i hlo
    rw[f1] at ho
    rw[f2] at hb'
    let⟨es,clk,g1,g2,g3⟩:=hs0.map i ents b ho hb'
    exact⟨es,clk,(f3 b hb').trans g1,g2,λi k x hx=>let ⟨e,k1,k2,k3⟩:=g3 i k x hx;⟨e,k1,k2,k3.step hst⟩⟩
   .try rw[Zu hi] at ho
    simp only[Zq] at ho
    let⟨o,ho1,ho2⟩:=ho
    cases o with
    | blk s' es'=>simp[bU] at ho2
    | mp ents'=>
     simp only[bU,dH.mp.injEq] at ho2
     subst ho2
     let⟨es,clk,g1,g2,g3⟩:=hs.map i ents' b ho1 hb'
     refine⟨es,clk,g1,by simpa using g2,λi k x hx=>?_⟩
     simp only[Zm,Zq] at hx
     let⟨⟨k0,y⟩,hy,he⟩:=hx
     simp only[Zk] at he
     let⟨rfl,rfl⟩:=he
     let⟨e,k1,k2,k3⟩:=g3 i k0 y hy
     exact⟨e,k1,k2,Tb hsub k3⟩
    | raw q=>simp[bU] at ho2
  .rw[hget,ZF<|by omega,Zu hi] at ho
   simp[bU] at ho
 .intro i q b ho hb
  rcases hβ i b hb with⟨hi,hb'⟩ | ⟨hi,hb'⟩
  .rw[hget,Zu hi,htg] at ho
   split at ho
   .rename_i hlo
    let⟨f1,f2,f3⟩:=h.floor i hlo
    rw[f1] at ho
    rw[f2] at hb'
    exact (f3 b hb').trans<|hs0.raw i q b ho hb'
   .try rw[Zu hi] at ho
    simp only[Zq] at ho
    let⟨o,ho1,ho2⟩:=ho
    cases o with
    | blk s' es'=>simp[bU] at ho2
    | mp ents'=>simp[bU] at ho2
    | raw q'=>
     simp only[bU,dH.raw.injEq] at ho2
     subst ho2
     exact hs.raw i q' b ho1 hb'
  .rw[hget,ZF<|by omega,Zu hi] at ho
   simp[bU] at ho
theorem Pr[aF]{fl t:Nat}{live:List Bool}{c0 c:dC}{tm:List AV}{tv:Array Value}(g:bX FT c0)(r:bX FT c)(h:bV fl c0 c)(a:fl<=c0.H.length)(b:TR FT c tm tv):
 ∃c',c'.w=c.w/\c'.H=(KB live t fl c0.H.length ⟨tm,c.H⟩).heap/\bV fl c0 c'/\bX FT c'/\TR FT c' (KB live t fl c0.H.length ⟨tm,c.H⟩).tmps tv:=by
 have p:=yK (live:=some live) (tr:=true) g r h a b;unfold KB;split
 .rename_i id tot off len q;split
  .rename_i n;split
   .rename_i s es j;have f:=Jx live tm tv b;have k:=E4 (id:=id) (s:=s) (es:=es) a h.len;refine⟨qJ fl c0.H.length id s es c,rfl,by simp[qJ,jX],aAE g h a,aL3 g r h a n j,?_⟩;refine⟨by simpa using f.1,λu y i=>?_⟩;rw[Z7] at i;split at i
    .rename_i m;subst m;split at i
     .rename_i A;cases i;have d:t<tm.length:=by
       have B:=f.1;have e2:=b.1;grind
      let⟨cv,o,l⟩:=b.2 t tm[t]<|Za d;have e:=by
       simp only[aH,Za d] at q;exact q
      rw[e] at l;refine⟨cv,o,aHS (c':=qJ fl c0.H.length id s es c) (es':=es.map λe=>e.map<|jK c0.H.length) j ?_ (by simp) rfl (by simp[qJ]) l⟩;rw[Pi a h.len,ZF<|by omega,Zu rfl];rfl
     .grind
    .simp at i;obtain⟨z,x,rfl⟩:=i;let⟨v,o,l⟩:=f.2 u z x;exact⟨v,o,aAZ k l⟩
   .grind
  .grind
 .grind
end
section
variable {P:Program}{T:List cP}{cf:Nat->Nat->List AV->aT->Option (AV×aT)}{fl lf:Nat}
def Ed: cT->Exit
 | .normal=>.normal
 | .exit id=>.exit id
 | .ret=>.ret
def aDb[aF](P:Program)(T:List cP)(fl:Nat)(ev:St->Option (cT×St))(code:Code): Prop:=
 ∀(c:dC) (a:Act) (tm:List AV) (x:cT) (st':St) (Q:Exit->Act->World->Prop),bX (aK T) c->TR (aK T) c tm a.tmps->fl<=c.H.length->ev ⟨tm,c.H⟩=some (x,st')->
  (∀a' c',c'.H=st'.heap->bV fl c c'->bX (aK T) c'->TR (aK T) c' st'.tmps a'.tmps->a'.defers=a.defers->Q (Ed x) a' c'.w)->code.wp P Q a c.w
theorem E9[aF]{e:Code}{step:St->Option (cT×St)}{live:Option<|List Bool}{tr:Bool}(d:aDb P T fl step e){c0:dC}(i:bX (aK T) c0)(f:fl<=c0.H.length){ds:List Deferred}{x:cT}{st':St}{Q:Exit->Act->World->Prop}(v:∀a' c',c'.H=st'.heap->bV fl c0 c'->bX (aK T) c'->TR (aK T) c' st'.tmps a'.tmps->a'.defers=ds->Q (Ed x) a' c'.w):
 ∀(n:Nat) (c:dC) (a:Act) (tm:List AV),bX (aK T) c->bV fl c0 c->TR (aK T) c tm a.tmps->a.defers=ds->fS (dK live tr fl c0.H.length) step n ⟨tm,c.H⟩=some (x,st')->Code.rounds P e Q n a c.w
 | 0,c,a,tm,_,_,_,_,b=>by cases b
 | n+1,c,a,tm,G,r,s,A,b=>by
  simp only[fS] at b;obtain⟨m,F,D,k,z,C⟩:=yK i G r f s;rw[<-F];have j:(dK live tr fl c0.H.length ⟨tm,c.H⟩)=⟨(dK live tr fl c0.H.length ⟨tm,c.H⟩).tmps,m.H⟩:=by rw[D]
  rw[j] at b;split at b
  .rename_i h he;refine d m a _ .normal h _ z C (ZB f k.len) he ?_;intro a' c' o e2 q u p;refine E9 (live:=live) (tr:=tr) d i f v n c' a' h.tmps q (k.trans e2) u (p.trans A) ?_;rw[o];exact b
  .rename_i E;have g:∀y,Ed x=y->y≠.normal->e.wp P (Exit.then (Code.rounds P e Q n) Q) a m.w:=by
    intro y I t;refine d m a _ x st' _ z C (ZB f k.len) b ?_;intro a' c' o e2 q u p;have:=v a' c' o (k.trans e2) q u<|p.trans A;rw[I] at this |-;cases y<;>first | exact (t rfl).elim | exact this
   cases x with
   | normal=>grind
   | exit id=>exact g _ rfl<|by simp[Ed]
   | ret=>exact g _ rfl<|by simp[Ed]
theorem Pj[aF]{f:Code}{step:St->Option (cT×St)}{b:St->St}(e:aDb P T fl step f){c0:dC}(h:fl<=c0.H.length)(g:∀(c:dC) (tm:List AV) (tv:Array Value),bX (aK T) c->bV fl c0 c->TR (aK T) c tm tv->∃c',c'.w=c.w/\c'.H=(b ⟨tm,c.H⟩).heap/\bV fl c0 c'/\bX (aK T) c'/\TR (aK T) c' (b ⟨tm,c.H⟩).tmps tv){ds:List Deferred}{x:cT}{st':St}{Q:Exit->Act->World->Prop}(C:∀a' c',c'.H=st'.heap->bV fl c0 c'->bX (aK T) c'->TR (aK T) c' st'.tmps a'.tmps->a'.defers=ds->Q (Ed x) a' c'.w):
 ∀(n:Nat) (c:dC) (a:Act) (tm:List AV),bX (aK T) c->bV fl c0 c->TR (aK T) c tm a.tmps->a.defers=ds->fS b step n ⟨tm,c.H⟩=some (x,st')->Code.rounds P f Q n a c.w
 | 0,c,a,tm,_,_,_,_,d=>by cases d
 | n+1,c,a,tm,I,s,t,A,d=>by
  simp only[fS] at d;let⟨l,G,J,m,B,D⟩:=g c tm a.tmps I s t;rw[<-G];have j:(b ⟨tm,c.H⟩)=⟨(b ⟨tm,c.H⟩).tmps,l.H⟩:=by rw[J]
  rw[j] at d;split at d
  .rename_i k he;refine e l a _ .normal k _ B D (ZB h m.len) he ?_;intro a' c' p e2 r u q;refine Pj e h g C n c' a' k.tmps r (m.trans e2) u (q.trans A) ?_;rw[p];exact d
  .rename_i E;have i:∀y,Ed x=y->y≠.normal->f.wp P (Exit.then (Code.rounds P f Q n) Q) a l.w:=by
    intro y F v;refine e l a _ x st' _ B D (ZB h m.len) d ?_;intro a' c' p e2 r u q;have:=C a' c' p (m.trans e2) r u<|q.trans A;rw[F] at this |-;cases y<;>first | exact (v rfl).elim | exact this
   cases x with
   | normal=>grind
   | exit id=>exact i _ rfl<|by simp[Ed]
   | ret=>exact i _ rfl<|by simp[Ed]
theorem aJo[aF]{c:dC}{x:AV}{u:Value}(e:RV (aK T) c x u)(d:VN c.H x≠3): ∃ad n cap,u=.slice ad n cap/\(VN c.H x=0->ad=none)/\(VN c.H x=1->ad.isNone=false):=by
 unfold VN at d |-;split at d
 .rename_i v;have:=e.lit_inv;grind
 .rename_i es;have q:=e.sl_inv;cases q with
  | nil _ ad cap B=>grind
  | sl _ _ b off cap cc p o s a f l m k F z r w=>grind
 .rename_i es;obtain⟨ad,cap,rfl,_,i⟩:=e.vw_inv;rcases i with rfl | ⟨b,off,cc,p,o,s,a,rfl,_⟩
  .grind
  .grind
 .rename_i len;split at d
  .grind
  .rename_i j;split at d
   .rename_i g;split at d
    .rename_i h;let⟨ad,cap,D,E,A,f,l,m,k⟩:=e.ms_inv;rw[eQ g] at f;cases f;let⟨y,C⟩:=k (Zc h).symm;grind
    .grind
   .grind
 .grind
theorem aJn[aF](hcf:Au P T cf)(hfn:oI P T){c:dC}{a:Act}{tm:List AV}{ops:Array Oper}{o1 o2:Oper}{id t d0 d1:Nat}{Q:Exit->Act->World->Prop}(hops:ops.toList=[o1,o2])(hc1:Di P T ops ⟨some d0,.mov<|.tmp t,none⟩ o1=true)(hc2:aCm P d0 d1 o2=true)(hs:bX (aK T) c)(htr:TR (aK T) c tm a.tmps)(hfl:fl<=c.H.length)(hd0:d0<tm.length)(h3:VN c.H (aH tm<|.tmp t)≠3)(hQ:∀b a' c',(VN c.H (aH tm<|.tmp t)=0->b=true)->(VN c.H (aH tm<|.tmp t)=1->b=false)->c'.H=c.H->bV fl c c'->bX (aK T) c'->TR (aK T) c' (Pg tm t d0 d1 b) a'.tmps->a'.defers=a.defers->Q .normal a' c'.w):
 (Code.region id ops false).wp P Q a c.w:=by
 have e1:ops[0]?=some o1:=by rw[<-Z4,hops];rfl
 have e2:ops[1]?=some o2:=by rw[<-Z4,hops];rfl
 have hsz:ops.size=2:=by rw[<-Zx,hops];rfl
 refine Xf ?_;rw[hsz];have hev1:cQ P cf fl ⟨some d0,.mov<|.tmp t,none⟩ ⟨tm,c.H⟩=some ⟨tm.set d0<|aH tm<|.tmp t,c.H⟩:=rfl;refine kJ hcf hfn hs htr hfl e1 hc1 hev1 ?_;intro a1 c1 f1 f2 f3 f4 f5 _;rw[Y5];unfold aCm at hc2;simp at hc2;let⟨⟨h1,h2⟩,h4⟩:=hc2;have hdst:o2.dst=some d1:=by
  grind
 have hguard:=by simpa using h2
 split at h4
 .rename_i ty x' ty' hop;simp only[Ze,ZD] at h4;let⟨rfl,h4⟩:=h4;split at h4
  .rename_i hu;unfold wpOp;rw[e2];simp only;have hw:Region.wanted o2 (yielded ops a1.tmps)=true:=by simp[Region.wanted,hguard]
   rw[hw];left;let⟨u,k1,k2⟩:=f4.2 x' (aH tm<|.tmp t) (by simp[hd0]);let⟨ad,n,cap,hu',z0,z1⟩:=aJo k2 (by rw[f1];exact h3);rw[f1] at z0 z1;have hrun:(execOp a1.eval o2).run P c1.w=.ok (.value<|.bool ad.isNone) c1.w:=by
    have heq:∀w:World,(Op.equalIn Op.maxDepth ty (.slice ad n cap)<|.slice none 0 0).run P w=.ok ad.isNone w:=by
     have hm:Op.maxDepth=(Op.maxDepth-1)+1:=by decide
     rw[hm,Op.equalIn];cases ad<;>simp[Zn hu]
    simp[execOp,hop,Act.eval,k1,hu',eqGuard,binOp,Op.equal,heq]
   refine (bP (fl:=fl) f3 hrun<|RV.lit _) _ _ ?_;intro cv c2 q1 q2 q3 q4;rw[hdst]
   refine hQ ad.isNone _ c2 (λh=>by rw[z0 h];rfl) z1 (q1.trans f1) (f2.trans q2) q3 ?_<|(iK _ _ _).trans f5
   exact TR.put (d:=some d1) (f4.step q2) q4
  .grind
 .grind
theorem aIv[aF]{c c':dC}{x:AV}{v:Value}(h:aMq x=true)(a:RV (aK T) c x v): RV (aK T) c' (.sl false []) v:=by
 unfold aMq at h;split at h
 .rename_i u;have:=a.lit_inv;subst this;split at h
  .split at h
   .split at h
    .split at h
     .exact .pure _ _<|.nil false none 0<|by simp
     .cases h
    .cases h
   .cases h
  .cases h
 .split at h
  .have e:=a.sl_inv;cases e with
   | nil _ ad cap i=>exact .pure _ _<|.nil false ad cap<|by simp
   | sl _ _ b off cap cc l j s d r k p o f q g n=>grind
  .cases h
 .cases h
theorem aAI[aF]: ∀(a ys:List AV),a.length=ys.length->(BG a ys).length=a.length/\∀(t:Nat) (z:AV),(BG a ys)[t]?=some z->∃x y,a[t]?=some x/\ys[t]?=some y/\z=aHZ x y
 | [],[],_=>⟨rfl,λt z h=>by simp[BG] at h⟩
 | x::r,y::s,h=>by
  let⟨d,c⟩:=aAI r s (by simpa using h);refine⟨by simp[BG,d],λt z b=>?_⟩;cases t with
  | zero=>
   simp only[BG,Zt,Zb] at b;exact⟨x,y,rfl,rfl,b.symm⟩
  | succ t=>
   exact c t z b
 | [],_::_,h=>by simp at h
 | _::_,[],h=>by simp at h
theorem aOA[aF]{c c':dC}{d ys:List AV}{tv:Array Value}(f:d.length=ys.length)(h:TR (aK T) c d tv\/TR (aK T) c ys tv): TR (aK T) c' (BG d ys) tv:=by
 let⟨l,o⟩:=aAI d ys f;have e:d.length=tv.size:=by rcases h with h | h;exact h.1;rw[f];exact h.1
 refine⟨l.trans e,λt z j=>?_⟩;obtain⟨x,y,k,i,rfl⟩:=o t z j;have g:∃v,tv[t]?=some v/\(RV (aK T) c x v\/RV (aK T) c y v):=by
  rcases h with h | h
  .let⟨v,b,a⟩:=h.2 t x k;exact⟨v,b,.inl a⟩
  .let⟨v,b,a⟩:=h.2 t y i;exact⟨v,b,.inr a⟩
 let⟨v,b,a⟩:=g;refine⟨v,b,?_⟩;unfold aHZ;split
 .rename_i m;split
  .rename_i n;rcases a with a | a
   .exact aIv m a
   .exact aIv n a
  .exact RV.undef _
 .exact RV.undef _
theorem aJ7[aF]{FT:Nat->Option Nat}{c b:dC}(l:bX FT c)(d:bX FT b)(h:bV c.H.length c b): ∃a,a.w=b.w/\a.H=c.H/\bV c.H.length c a/\bX FT a:=by
 let⟨a,g,k,n,m,_⟩:=yK (live:=none) (tr:=true) (tm:=[]) (tv:=#[]) l d h (Zf _) ⟨rfl,λt x f=>by simp at f⟩;refine⟨a,g,?_,n,m⟩;rw[k];simp only[dK,Zz];apply Ym;intro i;have e:(b.H.take c.H.length).drop c.H.length=[]:=WE (by simp;omega);rw[e,Yn,Xw,Zs];split
 .rename_i j;exact (h.floor i j).1
 .grind
theorem eG[aF](hm:P.follows .mixedOrders=true)(hfo:Ao cf)(hcf:Au P T cf)(hfn:oI P T): ∀(ac:bR) (code:Code),fY P T ac code=true->aDb P T fl (eP P cf lf fl ac) code
 | .skip,code,hchk=>by
  cases code<;>simp only[fY,Zo] at hchk
  .intro c a tm x st' Q hs htr hfl hev hQ
   simp only[eP,Zb,Zk] at hev
   let⟨rfl,rfl⟩:=hev
   exact W5<|hQ a c rfl (bV.refl _ _) hs htr rfl
  .intro c a tm x st' Q hs htr hfl hev hQ
   simp only[eP,Zb,Zk] at hev
   let⟨rfl,rfl⟩:=hev
   exact wp_label<|hQ a c rfl (bV.refl _ _) hs htr rfl
 | .scope p,code,hchk=>by
  cases code<;>try (simp only[fY,Zo] at hchk;done)
  rename_i p'
  simp only[fY] at hchk
  have hp:=eG hm hfo hcf hfn p p' hchk
  intro c a tm x st' Q hs htr hfl hev hQ
  simp only[eP] at hev
  refine wp_scope_straight<|hp c a tm x st' _ hs htr hfl hev ?_
  intro a' c' e1 e2 e3 e4 e5
  have:=hQ a' c' e1 e2 e3 e4 e5
  cases x<;>exact this
 | .nilIf t d0 d1 p q,code,hchk=>by
  cases code<;>try (simp only[fY,Zo] at hchk;done)
  rename_i l q'
  cases l<;>try (simp only[fY,Zo] at hchk;done)
  rename_i r cd
  cases r<;>try (simp only[fY,Zo] at hchk;done)
  rename_i id ops draw
  cases cd<;>try (simp only[fY,Zo] at hchk;done)
  rename_i k p' sk
  cases k<;>try (simp only[fY,Zo] at hchk;done)
  rename_i e
  cases sk<;>try (simp only[fY,Zo] at hchk;done)
  simp only[fY,Ze,YG,ZD] at hchk
  obtain⟨⟨⟨⟨rfl,rfl⟩,ho⟩,hcp⟩,hcq⟩:=hchk
  have hp:=eG hm hfo hcf hfn p p' hcp
  have hq:=eG hm hfo hcf hfn q q' hcq
  split at ho
  .rename_i o1 o2 hops
   simp only[Ze] at ho
   intro c a tm x st' Q hs htr hfl hev hQ
   simp only[eP] at hev
   split at hev
   .rename_i hd0
    simp only[Ze] at hd0
    have hd0':d0<tm.length:=Zl hd0.1
    have hd1':e<tm.length:=Zl hd0.2
    have h3:VN c.H (aH tm<|.tmp t)≠3:=by
     intro h
     rw[h] at hev
     cases hev
    refine Xn<|Xn<|aJn hcf hfn hops ho.1 ho.2 hs htr hfl hd0' h3 ?_
    intro b a' c' hb0 hb1 e1 e2 e3 e4 e5
    have hval:a'.eval (.tmp e)=.bool b:=by
     let⟨v,k1,k2⟩:=e4.2 e (.lit<|.bool b)<|by simp[Pg,hd1']
     simp only[Act.eval,Yg,k1,Yp,k2.lit_inv]
    have e6:∀tm':List AV,(⟨tm',c'.H⟩:St)=⟨tm',c.H⟩:=λtm'=>by rw[e1]
    have joined:∀(pc:bR) (tm':List AV) (sa sb:St) (code:Code) (Q':Exit->Act->World->Prop),aDb P T fl (eP P cf lf fl pc) code->fl=c.H.length->sa.tmps.length=sb.tmps.length->
     (eP P cf lf fl pc ⟨tm',c.H⟩=some (.ret,sa)\/eP P cf lf fl pc ⟨tm',c.H⟩=some (.ret,sb))->TR (aK T) c' tm' a'.tmps->x=.ret->st'=⟨BG sa.tmps sb.tmps,c.H⟩->(∀a w,Q .ret a w->Q' .ret a w)->code.wp P Q' a' c'.w:=by
     intro pc tm' sa sb code Q' hok hflc hlen hor htr' hx hst hQ'
     subst hx hst
     have key:∀(s:St),eP P cf lf fl pc ⟨tm',c.H⟩=some (.ret,s)->(s=sa\/s=sb)->code.wp P Q' a' c'.w:=by
      intro s hes hss
      refine hok c' a' tm' .ret s Q' e3 htr' (ZB hfl e2.len) (by rw[e6];exact hes) ?_
      intro a'' c'' k1 k2 k3 k4 k5
      have hst2:=e2.trans k2
      rw[hflc] at hst2
      let⟨c2,m1,m2,m3,m4⟩:=aJ7 hs k3 hst2
      rw[<-hflc] at m3
      have:=hQ a'' c2 m2 m3 m4 (aOA hlen<|by rcases hss with rfl | rfl;exact .inl k4;exact .inr k4)<|k5.trans e5
      rw[m1] at this
      exact hQ' _ _ this
     rcases hor with h | h
     .grind
     .grind
    show (Code.cond (.tmp e) p' .skip).wp P _ a' c'.w
    cases b with
    | true=>
     refine Wf hval ?_
     split at hev
     .rename_i hk
      unfold Sq at hev
      split at hev
      .rename_i x1 s1 he
       split at hev
       .grind
       .rename_i hne
        cases hev
        refine hp c' a' _ x st' _ e3 e4 (ZB hfl e2.len) (by rw[e6];exact he) ?_
        intro a'' c'' k1 k2 k3 k4 k5
        have:=hQ a'' c'' k1 (e2.trans k2) k3 k4<|k5.trans e5
        cases x with
        | normal=>grind
        | exit i=>exact this
        | ret=>exact this
      .grind
     .grind
     .rename_i hk
      split at hev
      .rename_i hb
       unfold aEq at hev
       split at hev
       .rename_i sa sb h1 h2
        split at hev
        .rename_i hl
         cases hev
         exact joined p _ sa sb p' _ hp (Zc hb) (Zc hl) (.inl h1) e4 rfl rfl λa w h=>h
        .grind
       .grind
      .grind
     .grind
    | false=>
     refine XL hval<|W5 ?_
     show q'.wp P Q a' c'.w
     split at hev
     .grind
     .rename_i hk
      refine hq c' a' _ x st' _ e3 e4 (ZB hfl e2.len) (by rw[e6];exact hev) ?_
      intro a'' c'' k1 k2 k3 k4 k5
      exact hQ a'' c'' k1 (e2.trans k2) k3 k4<|k5.trans e5
     .rename_i hk
      split at hev
      .rename_i hb
       unfold aEq at hev
       split at hev
       .rename_i sa sb h1 h2
        split at hev
        .rename_i hl
         cases hev
         exact joined q _ sa sb q' _ hq (Zc hb) (Zc hl) (.inr h2) e4 rfl rfl λa w h=>h
        .cases hev
       .cases hev
      .cases hev
     .cases hev
   .cases hev
  .cases ho
 | .frz t q,code,hchk=>by
  have hq:=eG hm hfo hcf hfn q code<|by cases code<;>(simp only[fY] at hchk;exact hchk)
  intro c a tm x st' Q hs htr hfl hev hQ
  simp only[eP] at hev
  split at hev
  .rename_i v H' he
   have key:∃c',c'.w=c.w/\c'.H=H'/\bV fl c c'/\bX (aK T) c'/\∀cv,RV (aK T) c (aH tm<|.tmp t) cv->RV (aK T) c' v cv:=by
    simp only[aL] at he
    split at he
    .rename_i id tot off len hx
     split at he
     .rename_i hle
      split at he
      .rename_i s es hob
       split at he
       .rename_i htot
        cases he
        exact⟨frz c id s es,rfl,rfl,tC hle hob,Sl hs hob,λcv hcv=>aB6 hs hob htot<|by rw[hx] at hcv;exact hcv⟩
       .cases he
      .cases he
     .cases he
    .rename_i id tot idx off hx
     split at he
     .rename_i hle
      split at he
      .rename_i s es hob
       split at he
       .rename_i htot
        split at he
        .rename_i e hi
         cases he
         exact⟨frz c id s es,rfl,rfl,tC hle hob,Sl hs hob,λcv hcv=>aHv hs hob htot hi<|by rw[hx] at hcv;exact hcv⟩
        .cases he
       .cases he
      .cases he
     .cases he
    .cases he
     exact⟨c,rfl,rfl,bV.refl _ _,hs,λ_ h=>h⟩
   let⟨c',k1,k2,k3,k4,k5⟩:=key
   have htr':TR (aK T) c' (tm.set t v) a.tmps:=by
    refine⟨by simpa using htr.1,λu y hy=>?_⟩
    rw[Z7] at hy
    split at hy
    .rename_i hut
     subst hut
     split at hy
     .rename_i hlt
      cases hy
      let⟨cv,g1,g2⟩:=htr.2 t tm[t]<|Za hlt
      refine⟨cv,g1,k5 cv ?_⟩
      simp only[aH,Za hlt]
      exact g2
     .cases hy
    .let⟨cv,g1,g2⟩:=htr.2 u y hy
     exact⟨cv,g1,g2.step k3⟩
   have:=hq c' a (tm.set t v) x st' Q k4 htr' (ZB hfl k3.len) (by rw[k2];exact hev) λa' c'' e1 e2 e3 e4 e5=>hQ a' c'' e1 (k3.trans e2) e3 e4 e5
   rwa [k1] at this
  .cases hev
 | .stop,code,hchk=>by
  intro c a tm x st' Q hs htr hfl hev hQ
  simp only[eP] at hev
  cases hev
 | .mask lx lr tr q,code,hchk=>by
  have hq:=eG hm hfo hcf hfn q code<|by cases code<;>(simp only[fY] at hchk;exact hchk)
  intro c a tm x st' Q hs htr hfl hev hQ
  simp only[eP,Fs] at hev
  split at hev
  .rename_i x1 st1 he
   have key:∀y,st'=dK (some lx) tr fl c.H.length st1->eP P cf lf fl q ⟨tm,c.H⟩=some (y,st1)->x=y->code.wp P Q a c.w:=by
    intro y e he e'
    subst e e'
    refine hq c a tm x st1 Q hs htr hfl he ?_
    intro a' c' e1 e2 e3 e4 e5
    let⟨c2,h1,h2,h3,h4,h5⟩:=yK (live:=some lx) (tr:=tr) hs e3 e2 hfl e4
    have e6:(⟨st1.tmps,c'.H⟩:St)=st1:=by rw[e1]
    rw[e6] at h2 h5
    have:=hQ a' c2 h2 h3 h4 h5 e5
    rwa [h1] at this
   split at hev
   .simp only[Zb,Zk] at hev
    let⟨rfl,rfl⟩:=hev
    refine hq c a tm .ret st1 Q hs htr hfl he ?_
    intro a' c' e1 e2 e3 e4 e5
    exact hQ a' c' e1 e2 e3 (Jx lr _ _ e4) e5
   .simp only[Zb,Zk] at hev
    let⟨rfl,rfl⟩:=hev
    exact key .normal rfl he rfl
   .rename_i i
    simp only[Zb,Zk] at hev
    let⟨rfl,rfl⟩:=hev
    exact key (.exit i) rfl he rfl
  .cases hev
 | .told li lx lr q,code,hchk=>by
  have hq:=eG hm hfo hcf hfn q code<|by cases code<;>(simp only[fY] at hchk;exact hchk)
  intro c a tm x st' Q hs htr hfl hev hQ
  simp only[eP,Fs] at hev
  split at hev
  .rename_i x1 st1 he
   have key:∀y,st'=dK (some lx) false fl c.H.length st1->eP P cf lf fl q ⟨cU li tm,c.H⟩=some (y,st1)->x=y->code.wp P Q a c.w:=by
    intro y e he e'
    subst e e'
    refine hq c a (cU li tm) x st1 Q hs (Jx li tm _ htr) hfl he ?_
    intro a' c' e1 e2 e3 e4 e5
    let⟨c2,h1,h2,h3,h4,h5⟩:=yK (live:=some lx) (tr:=false) hs e3 e2 hfl e4
    have e6:(⟨st1.tmps,c'.H⟩:St)=st1:=by rw[e1]
    rw[e6] at h2 h5
    have:=hQ a' c2 h2 h3 h4 h5 e5
    rwa [h1] at this
   split at hev
   .simp only[Zb,Zk] at hev
    let⟨rfl,rfl⟩:=hev
    refine hq c a (cU li tm) .ret st1 Q hs (Jx li tm _ htr) hfl he ?_
    intro a' c' e1 e2 e3 e4 e5
    exact hQ a' c' e1 e2 e3 (Jx lr _ _ e4) e5
   .simp only[Zb,Zk] at hev
    let⟨rfl,rfl⟩:=hev
    exact key .normal rfl he rfl
   .rename_i i
    simp only[Zb,Zk] at hev
    let⟨rfl,rfl⟩:=hev
    exact key (.exit i) rfl he rfl
  .cases hev
 | .region draw ck aops,code,hchk=>by
  cases code<;>try (simp only[fY,Zo] at hchk;done)
  rename_i id ops draw'
  have hd:draw=draw':=by simp only[fY,Ze,ZD] at hchk;exact hchk.1.1
  subst hd
  intro c a tm x st' Q hs htr hfl hev hQ
  simp only[eP] at hev
  split at hev
  .rename_i st1 he
   simp only[Zb,Zk] at hev
   let⟨rfl,rfl⟩:=hev
   exact aBA hm hfo hcf hfn hchk hs htr hfl he hQ
  .cases hev
 | .seq p q,code,hchk=>by
  cases code<;>try (simp only[fY,Zo] at hchk;done)
  rename_i p' q'
  simp only[fY,Ze] at hchk
  have hp:=eG hm hfo hcf hfn p p' hchk.1
  have hq:=eG hm hfo hcf hfn q q' hchk.2
  intro c a tm x st' Q hs htr hfl hev hQ
  simp only[eP] at hev
  refine Xn ?_
  split at hev
  .rename_i st1 he
   refine hp c a tm .normal st1 _ hs htr hfl he ?_
   intro a' c' e1 e2 e3 e4 e5
   show q'.wp P Q a' c'.w
   refine hq c' a' st1.tmps x st' Q e3 e4 (ZB hfl e2.len) (by rw[e1];exact hev) ?_
   intro a'' c'' f1 f2 f3 f4 f5
   exact hQ a'' c'' f1 (e2.trans f2) f3 f4<|f5.trans e5
  .rename_i r hne
   refine hp c a tm x st' _ hs htr hfl hev ?_
   intro a' c' e1 e2 e3 e4 e5
   have:=hQ a' c' e1 e2 e3 e4 e5
   cases x with
   | normal=>exact (hne st' hev).elim
   | exit id=>exact this
   | ret=>exact this
 | .cond k p q,code,hchk=>by
  cases code<;>try (simp only[fY,Zo] at hchk;done)
  rename_i k' p' q'
  simp only[fY,Ze] at hchk
  have hp:=eG hm hfo hcf hfn p p' hchk.1.2
  have hq:=eG hm hfo hcf hfn q q' hchk.2
  intro c a tm x st' Q hs htr hfl hev hQ
  have hk:=aX hs htr hchk.1.1
  simp only[eP] at hev
  split at hev
  .rename_i hb
   rw[hb] at hk
   exact Wf hk.lit_inv<|hp c a tm x st' Q hs htr hfl hev hQ
  .rename_i hb
   rw[hb] at hk
   exact XL hk.lit_inv<|hq c a tm x st' Q hs htr hfl hev hQ
  .cases hev
 | .block i p,code,hchk=>by
  cases code<;>try (simp only[fY,Zo] at hchk;done)
  rename_i i' p'
  simp only[fY,Ze,ZD] at hchk
  let⟨rfl,hchk⟩:=hchk
  have hp:=eG hm hfo hcf hfn p p' hchk
  intro c a tm x st' Q hs htr hfl hev hQ
  simp only[eP] at hev
  refine WK ?_
  split at hev
  .rename_i j st1 he
   refine hp c a tm (.exit j) st1 _ hs htr hfl he ?_
   intro a' c' e1 e2 e3 e4 e5
   simp only[Ed,Exit.inBlock]
   split at hev
   .rename_i hj
    simp only[Zb,Zk] at hev
    let⟨rfl,rfl⟩:=hev
    rw[Zu hj]
    exact hQ a' c' e1 e2 e3 e4 e5
   .rename_i hj
    simp only[Zb,Zk] at hev
    let⟨rfl,rfl⟩:=hev
    rw[ZF hj]
    exact hQ a' c' e1 e2 e3 e4 e5
  .rename_i r hne
   refine hp c a tm x st' _ hs htr hfl hev ?_
   intro a' c' e1 e2 e3 e4 e5
   have:=hQ a' c' e1 e2 e3 e4 e5
   cases x with
   | normal=>exact this
   | exit id=>exact (hne id st' hev).elim
   | ret=>exact this
 | .loop live tr p,code,hchk=>by
  cases code<;>try (simp only[fY,Zo] at hchk;done)
  rename_i p'
  simp only[fY] at hchk
  have hp:=eG hm hfo hcf hfn p p' hchk
  intro c a tm x st' Q hs htr hfl hev hQ
  simp only[eP] at hev
  exact XD lf<|E9 hp hs hfl hQ lf c a tm hs (bV.refl _ _) htr rfl hev
 | .loopV live lx lr t p,code,hchk=>by
  cases code<;>try (simp only[fY,Zo] at hchk;done)
  rename_i p'
  simp only[fY] at hchk
  have hp:=eG hm hfo hcf hfn p p' hchk
  intro c a tm x st' Q hs htr hfl hev hQ
  simp only[eP] at hev
  split at hev
  .rename_i st1 hown
   let⟨c1,h1,h2,h3,h4,h5⟩:=aJf hs htr hown
   unfold aL9 at hev
   split at hev
   .rename_i x1 st2 he
    have e6:st1=⟨st1.tmps,c1.H⟩:=by rw[h2]
    rw[e6] at he
    have key:∀y,st'=KB lx t fl c.H.length st2->x1=y->x=y->(Code.loop p').wp P Q a c.w:=by
     intro y e e1 e'
     subst e e1 e'
     rw[<-h1]
     refine XD lf<|Pj hp (c0:=c) hfl (λd tm tv k1 k2 k3=>Pr hs k1 k2 hfl k3) ?_ lf c1 a _ h4 h3 h5 rfl he
     intro a' c' e1 e2 e3 e4 e5
     let⟨c2,g1,g2,g3,g4,g5⟩:=Pr (live:=lx) (t:=t) hs e3 e2 hfl e4
     have e7:(⟨st2.tmps,c'.H⟩:St)=st2:=by rw[e1]
     rw[e7] at g2 g5
     have:=hQ a' c2 g2 g3 g4 g5 e5
     rwa [g1] at this
    split at hev
    .simp only[Zb,Zk] at hev
     let⟨rfl,rfl⟩:=hev
     rw[<-h1]
     refine XD lf<|Pj hp (c0:=c) hfl (λd tm tv k1 k2 k3=>Pr hs k1 k2 hfl k3) ?_ lf c1 a _ h4 h3 h5 rfl he
     intro a' c' e1 e2 e3 e4 e5
     exact hQ a' c' e1 e2 e3 (Jx lr _ _ e4) e5
    .simp only[Zb,Zk] at hev
     let⟨rfl,rfl⟩:=hev
     exact key .normal rfl rfl rfl
    .rename_i i
     simp only[Zb,Zk] at hev
     let⟨rfl,rfl⟩:=hev
     exact key (.exit i) rfl rfl rfl
   .cases hev
  .cases hev
 | .exit i,code,hchk=>by
  cases code<;>try (simp only[fY,Zo] at hchk;done)
  rename_i i'
  simp only[fY,ZD] at hchk
  subst hchk
  intro c a tm x st' Q hs htr hfl hev hQ
  simp only[eP,Zb,Zk] at hev
  let⟨rfl,rfl⟩:=hev
  exact wp_exit<|hQ a c rfl (bV.refl _ _) hs htr rfl
 | .ret,code,hchk=>by
  cases code<;>try (simp only[fY,Zo] at hchk;done)
  intro c a tm x st' Q hs htr hfl hev hQ
  simp only[eP,Zb,Zk] at hev
  let⟨rfl,rfl⟩:=hev
  exact wp_ret<|hQ a c rfl (bV.refl _ _) hs htr rfl
end
section
variable {P:Program}{T:List cP}{cf:Nat->Nat->List AV->aT->Option (AV×aT)}{fl lf m n:Nat}{st:St}
section
theorem I5[aF](b:Ao cf): ∀(l:List bQ) (st st':St),(fl<=m/\m<=st.heap.length)->iT P cf fl l st=some st'->Fr fl m st.heap st'.heap
 | [],st,st',h,a=>by simp only[iT] at a;cases a;exact .refl h
 | o::r,st,st',h,a=>by
  simp only[iT] at a;split at a
  .rename_i c d;have k:=aAO b h d;exact k.trans<|I5 b r c st' (Fr.go h k) a
  .cases a
theorem rV[aF]{live:Option<|List Bool}{tr:Bool}(h:fl<=m/\m<=st.heap.length)(a:fl<=m/\m<=n): Fr fl m st.heap (dK live tr fl n st).heap:=by
 cases tr with
 | false=>exact .refl h
 | true=>
  simp only[dK,Zz];refine⟨?_,by simp;omega⟩;rw[Yi<|by simp;omega,Xc,Nat.min_self]
theorem G5[aF]{live:List Bool}{t:Nat}(h:fl<=m/\m<=st.heap.length)(b:fl<=m/\m<=n): Fr fl m st.heap (KB live t fl n st).heap:=by
 have a:=rV (live:=some live) (tr:=true) h b;unfold KB;split
 .split
  .split
   .refine⟨?_,by simp;omega⟩;simp only;rw[Yf,Yi<|by simp;omega,Xc,Nat.min_self]
   .exact a
  .exact a
 .exact a
theorem RC[aF]{b:St->St}{step:St->Option (cT×St)}(g:∀st,(fl<=m/\m<=st.heap.length)->Fr fl m st.heap (b st).heap)(d:∀st x st',(fl<=m/\m<=st.heap.length)->step st=some (x,st')->Fr fl m st.heap st'.heap):
 ∀(n:Nat) (st:St) (x:cT) (st':St),(fl<=m/\m<=st.heap.length)->fS b step n st=some (x,st')->Fr fl m st.heap st'.heap
 | 0,_,_,_,_,h=>by cases h
 | n+1,st,x,st',h,a=>by
  simp only[fS] at a;have c:=g st h;split at a
  .rename_i e he;have f:=d _ _ _ (Fr.go h c) he;exact (c.trans f).trans<|RC g d n e x st' (Fr.go h f) a
  .exact c.trans<|d _ _ _ (Fr.go h c) a
theorem kQ[aF](e:Ao cf): ∀(c:bR) (st:St) (x:cT) (st':St),(fl<=m/\m<=st.heap.length)->eP P cf lf fl c st=some (x,st')->Fr fl m st.heap st'.heap
 | .skip,st,x,st',h,d=>by simp only[eP] at d;cases d;exact .refl h
 | .exit _,st,x,st',h,d=>by simp only[eP] at d;cases d;exact .refl h
 | .ret,st,x,st',h,d=>by simp only[eP] at d;cases d;exact .refl h
 | .stop,st,x,st',h,d=>by simp only[eP] at d;cases d
 | .region _ y ops,st,x,st',h,d=>by
  simp only[eP] at d;split at d
  .rename_i g he;cases d;exact I5 e ops st _ h<|Ta he
  .cases d
 | .seq a b,st,x,st',h,d=>by
  simp only[eP] at d;split at d
  .rename_i g he;have k:=kQ e a st _ g h he;exact k.trans<|kQ e b g x st' (Fr.go h k) d
  .exact kQ e a st x st' h d
 | .cond c a b,st,x,st',h,d=>by
  simp only[eP] at d;split at d
  .exact kQ e a st x st' h d
  .exact kQ e b st x st' h d
  .cases d
 | .block id c,st,x,st',h,d=>by
  simp only[eP] at d;split at d
  .rename_i i g he;have k:=kQ e c st _ g h he;split at d<;>cases d<;>exact k
  .exact kQ e c st x st' h d
 | .loop live tr c,st,x,st',h,d=>by
  simp only[eP] at d;exact RC (λst k=>rV k h) (λst x st' k he=>kQ e c st x st' k he) lf st x st' h d
 | .frz t c,st,x,st',h,d=>by
  simp only[eP] at d;split at d
  .rename_i v H he;have k:=aC5 e h he;exact k.trans<|kQ e c _ x st' (Fr.go h k) d
  .cases d
 | .mask n s tr c,st,x,st',h,d=>by
  simp only[eP,Fs] at d;split at d
  .rename_i j g he;have k:=kQ e c st _ g h he;split at d
   .cases d;exact k
   .cases d;exact k.trans<|rV (Fr.go h k) h
   .cases d;exact k.trans<|rV (Fr.go h k) h
  .cases d
 | .told w n s c,st,x,st',h,d=>by
  simp only[eP,Fs] at d;split at d
  .rename_i j g he;have k:=kQ e c ⟨cU w st.tmps,st.heap⟩ _ g h he;split at d
   .cases d;exact k
   .cases d;exact k.trans<|rV (Fr.go h k) h
   .cases d;exact k.trans<|rV (Fr.go h k) h
  .cases d
 | .scope c,st,x,st',h,d=>by
  simp only[eP] at d;exact kQ e c st x st' h d
 | .nilIf t r q a b,st,x,st',h,d=>by
  simp only[eP] at d;split at d
  .split at d
   .unfold Sq at d;split at d
    .rename_i j z he;split at d
     .cases d
     .cases d;exact kQ e a ⟨Pg st.tmps t r q true,st.heap⟩ _ _ h he
    .cases d
   .exact kQ e b ⟨Pg st.tmps t r q false,st.heap⟩ _ _ h d
   .split at d
    .unfold aEq at d;split at d
     .split at d
      .cases d;exact .refl h
      .cases d
     .cases d
    .cases d
   .cases d
  .cases d
 | .loopV live n s t c,st,x,st',h,d=>by
  simp only[eP] at d;split at d
  .rename_i g f;have o:Fr fl m st.heap g.heap:=by
    unfold aHD at f;split at f
    .split at f
     .rename_i p;split at f
      .split at f
       .cases f;exact (Fr.set h p).trans<|.app<|Fr.go h<|Fr.set h p
       .cases f
      .cases f
     .cases f
    .cases f
   unfold aL9 at d;split at d
   .rename_i j l he;have u:=RC (λst k=>G5 k h) (λst x st' k he=>kQ e c st x st' k he) lf g _ l (Fr.go h o) he;have k:=o.trans u;split at d
    .cases d;exact k
    .cases d;exact k.trans<|G5 (Fr.go h k) h
    .cases d;exact k.trans<|G5 (Fr.go h k) h
   .cases d
  .cases d
end
theorem RD[aF](P:Program)(T:List cP)(c:∀cf,Ao cf->Ao (Lj cf)): ∀n,Ao<|fB P T n
 | 0=>λ_ _ _ _ _ _ _ _ h=>by cases h
 | n+1=>λfl m vi b H r H' h a=>by
  simp only[fB] at a;split at a
  .rename_i g d;exact c _ (RD P T c n) fl m vi b H r H' h<|by simp only[Lj,d];exact a
  .split at a
   .cases a
   split at a
   .rename_i st he;split at a
    .cases a;exact kQ (RD P T c n) _ _ _ _ h he
    .cases a
   .rename_i st he;split at a
    .cases a;exact kQ (RD P T c n) _ _ _ _ h he
    .cases a
   .cases a
end
section
variable {P:Program}{T:List cP}{c:dC}{st:St}{tv:Array Value}
section
theorem NU[aF](A:bX (aK T) c)(I:c.H=st.heap)(g:TR (aK T) c st.tmps tv): ∀(rs:List aAm) (L:List ResultVar) (vs:List AV),Eg P rs L=true->lB st rs=some vs->
 ∃l:List Value,l.length=vs.length/\(∀(i:Nat) (x:AV),vs[i]?=some x->∃u,l[i]?=some u/\RV (aK T) c x u) /\
  (L.mapM (fun
   | .tmp t=>pure<|tv.getD t undef
   | .cell a t=>do loadVar t (<-asAddr<|tv.getD a undef):ResultVar->Sem Value)).run P c.w=.ok l c.w
 | [],[],vs,_,h=>by
  simp only[lB,Zb] at h;subst h;exact⟨[],rfl,λi x d=>by simp at d,by simp⟩
 | .tmp t::r,q::s,vs,b,h=>by
  cases q with
  | cell a K=>simp[Eg] at b
  | tmp u=>
   simp only[Eg,Ze,ZD] at b;let⟨rfl,b⟩:=b;simp only[lB,Qv] at h;split at h
   .rename_i o k;cases h;let⟨l,E,D,C⟩:=NU A I g r s o b k;have G:=aX (a:=⟨tv,[]⟩) A g (x:=.tmp t) (y:=.tmp t) (by simp[aQ]);refine⟨tv.getD t undef::l,by simp[E],λi x d=>?_,?_⟩
    .cases i with
     | zero=>
      simp only[Zt,Zb] at d;subst d;exact⟨tv.getD t undef,by rw[Zt],G⟩
     | succ i=>
      simp only[ZP] at d |-;exact D i x d
    .rw[Wu];simp only[YY,Y6,YK,C]
   .cases h
 | .cell t n agg::r,q::s,vs,b,h=>by
  cases q with
  | tmp u=>simp[Eg] at b
  | cell u K=>
   simp only[Eg,Ze,ZD] at b;let⟨⟨⟨⟨rfl,U⟩,J⟩,X⟩,b⟩:=b;simp only[lB] at h;split at h
   .rename_i v j;split at h
    .rename_i o k;cases h;let⟨l,E,D,C⟩:=NU A I g r s o b k;have G:=aX (a:=⟨tv,[]⟩) A g (x:=.tmp t) (y:=.tmp t) (by simp[aQ]);have m:∃u,(do loadVar K (<-asAddr<|tv.getD t undef):Sem Value).run P c.w=.ok u c.w/\RV (aK T) c v u:=by
      simp only[Qv] at j;split at j
      .rename_i cs B;rw[<-I] at B;let⟨ad,Z,V,O,f⟩:=DM A G B;have z:tv.getD t undef=.pointer (some ad):=V;cases agg with
       | true=>
        simp only[Zz,Zb] at j;subst j;exact⟨_,by simp only[z,asAddr,YY,Y6,YK,xN f O J U rfl],Jj f⟩
       | false=>
        simp only[Zo,Ya] at j;split at j
        .cases j;let⟨u,S,Y,Q⟩:=f.2.2 0 v (by simp);have e:=f.2.1 0 u S;have R:ad.add 0=ad:=by simp[Addr.add]
         rw[R] at e;exact⟨u,by simp only[z,asAddr,YY,Y6,YK,Lb e J],Q⟩
        .cases j
      .cases j
     let⟨u,M,W⟩:=m;refine⟨u::l,by simp[E],λi x d=>?_,?_⟩
     .cases i with
      | zero=>
       simp only[Zt,Zb] at d;subst d;exact⟨u,by simp,W⟩
      | succ i=>
       simp only[ZP] at d |-;exact D i x d
     .rw[Wu];simp only[YY,Y6,YK,C] at M |-;rw[M];simp only[YK,C]
    .cases h
   .cases h
 | [],_::_,_,b,_=>by cases b
 | .tmp _::_,[],_,b,_=>by cases b
 | .cell _ _ _::_,[],_,b,_=>by cases b
theorem SY[aF]{fn:Func}{rs:List aAm}{vs:List AV}(q:bX (aK T) c)(o:c.H=st.heap)(l:TR (aK T) c st.tmps tv)(p:Eg P rs fn.results.toList=true)(h:lB st rs=some vs):
 ∃v,(results fn tv).run P c.w=.ok v c.w/\RV (aK T) c (jP vs) v:=by
 let⟨a,j,k,s⟩:=NU q o l rs fn.results.toList vs p h;refine⟨if t:a.toArray.size=1 then a.toArray[0] else .tuple a.toArray,?_,?_⟩
 .unfold results;rw[Array.mapM_eq_mapM_toList];simp only[YY,Sem.run_map,Y6];refine Eq.trans (congrArg (λr=>(Result.andThen (Result.andThen r _) _))<|Eq.trans ?_ s) rfl;congr 2
 .unfold jP;split
  .rename_i v;have g:a.length=1:=by simpa using j
   let⟨u,d,m⟩:=k 0 v (by simp);have b:a.toArray.size=1:=by simpa using g
   rw[WA b];have:a.toArray[0]=u:=by
    have:a.toArray[0]?=some u:=by simpa using d
    rw[Z8<|by omega] at this;exact ZE this
   rw[this];exact m
  .rename_i f;have b:¬a.toArray.size=1:=by
    intro e;have g:vs.length=1:=by rw[<-j];simpa using e
    match vs,g with
    | [v],_=>exact f v rfl
   rw[dif_neg b];refine .tup vs a.toArray (λi=>(a[i]?).getD bM) (by simpa using j) ?_ ?_
   .intro i x n;let⟨u,d,_⟩:=k i x n;simp[d]
   .intro i x n;let⟨u,d,m⟩:=k i x n;simpa [d] using m
theorem UE{F:cP}(h:Kk P T F=true): ∃fn a,P.funcs[F.fid]?=some fn/\fn.body=some a/\fY P T F.body a=true/\fn.ntmps=F.nt/\Eg P F.rets fn.results.toList=true/\(fn.name== "runtime.NumGoroutine")=false:=by
 unfold Kk at h;split at h
 .rename_i fn c;split at h
  .rename_i a b;simp only[Ze,ZD,YG] at h;exact⟨fn,a,c,b,h.1.1.1,h.1.1.2,h.1.2,h.2⟩
  .cases h
 .cases h
def Checked(P:Program)(T:List cP): Prop:=∀F∈T,Kk P T F=true
theorem aE3[aF](h:Checked P T): oI P T:=by
 intro vi f a;unfold aK at a;split at a
 .rename_i F g;cases a;let⟨fn,b,e,d,_,_,_,c⟩:=UE<|h F<|Zg g;exact⟨fn,e,by simp[d],c⟩
 .cases a
structure aGP[aF](P:Program)(T:List cP): Prop where
 fl:∀cf,Ao cf->Ao (Lj cf)
 ok:∀cf,Au P T cf->Au P T (Lj cf)
theorem aAP[aF](I:P.follows .mixedOrders=true)(y:Checked P T)(C:aGP P T): ∀n,Au P T<|fB P T n
 | 0=>by
  intro fl vi f b r H' c vs a;cases a
 | n+1=>by
  have L:=aAP I y C n;intro fl vi f b r H' c vs a m O k d;simp only[fB] at a;split at a
  .rename_i g V;exact C.ok _ L fl vi f b r H' c vs (by simp only[Lj,V];exact a) m O k d
  split at a
  .cases a
  .rename_i F E;have B:f=F.fid:=by
    unfold aK at m;rw[E] at m;exact (ZE m).symm
   subst B;let⟨fn,i,W,Y,R,M,U,_⟩:=UE<|y F<|Zg E;refine calls_of_wp W Y ?_;have s:TR (aK T) c (b++List.replicate (F.nt-b.length) (.lit bM))<|vs++Array.replicate (fn.ntmps-vs.size) undef:=by
    refine⟨by simp[d.1,M],λt x h=>?_⟩;rw[Yl] at h;rw[XZ,d.1];split at h
    .rename_i A;rw[Zu A];exact d.2 t x h
    .rename_i A;rw[ZF A];rw[XR] at h;split at h
     .rename_i q;cases h;refine⟨undef,?_,RV.lit _⟩;rw[XP,Zu<|by rw[M];exact q]
     .cases h
   have j:=eG (fl:=fl) (lf:=n) I (RD P T C.fl n) L (aE3 y) F.body i R;have l:∀(x:cT) (st:St),(x=.normal\/x=.ret)->eP P (fB P T n) n fl F.body ⟨b++List.replicate (F.nt-b.length) (.lit bM),c.H⟩=some (x,st)->
    (match lB st F.rets with | some Q=>some (jP Q,st.heap) | none=>none)=some (r,H')->
    i.wp P (bodyPost P fn λe w'=>∃v c',e=.returned v/\c'.w=w'/\c'.H=H'/\c'.X=c.X/\bV fl c c'/\bX (aK T) c'/\RV (aK T) c' r v)
     { tmps:=vs++Array.replicate (fn.ntmps-vs.size) undef,defers:=[] } c.w:=by
    intro x st h he p;split at p
    .rename_i Q z;simp only[Zb,Zk] at p;let⟨rfl,rfl⟩:=p;refine j c _ _ x st _ O s k he ?_;intro a' c' u e2 D S K;let⟨v,N,G⟩:=SY (fn:=fn) D u S U z;rcases h with rfl | rfl
     .exact⟨K,v,N,v,c',rfl,rfl,u,e2.X,e2,D,G⟩
     .exact⟨K,v,N,v,c',rfl,rfl,u,e2.X,e2,D,G⟩
    .cases p
   split at a
   .rename_i st he;exact l .normal st (.inl rfl) he a
   .rename_i st he;exact l .ret st (.inr rfl) he a
   .cases a
end
end
section
open Go.RowKit
def mxL: Nat:=140737488355328
def An(P:Program): Nat->TypeId->List AV->Prop
 | 0,_,_=>False
 | n+1,t,xs=>
  match P.underlying t with
  | some .bool=>∃b,xs=[.lit<|.bool b]
  | some (.int k)=>∃z,(Lit.int k z).wf=true/\xs=[.lit<|.int k z]
  | some .string=>∃s:ByteArray,s.size<=maxLen/\xs=[.lit<|.string s]
  | some (.slice e)=>∃es:List<|List AV,xs=[.sl false es]/\es.length<=mxL/\∀x∈es,An P n e x
  | some (.struct fs)=>∃ps:List<|List AV,xs=ps.flatten/\ps.length=fs.size/\∀(i:Nat) (f:Field) (p:List AV),fs[i]?=some f->ps[i]?=some p->An P n f.type p
  | some (.array m e)=>∃ps:List<|List AV,xs=ps.flatten/\ps.length=m/\∀p∈ps,An P n e p
  | _=>False
def K9(P:Program): Nat->List Field->Nat->Bool
 | o,[],tot=>o==tot
 | o,f::r,tot=>f.offset==o&&K9 P (o+P.cellsOf f.type) r tot
def okT(P:Program): Nat->TypeId->Bool
 | 0,_=>false
 | n+1,t=>
  match P.underlying t with
  | some .bool=>true
  | some (.int _)=>true
  | some .string=>true
  | some (.slice e)=>decide (0<P.cellsOf e)&&(decide (0<P.bytesOf e)&&okT P n e)
  | some (.struct fs)=>K9 P 0 fs.toList (P.cellsOf t)&&fs.toList.all λf=>okT P n f.type
  | some (.array m e)=>P.cellsOf t==m*P.cellsOf e&&okT P n e
  | _=>false
def CR(w:World)(xs:List AV)(cs:List Value): Prop:=
 xs.length=cs.length/\∀(j:Nat) (x:AV),xs[j]?=some x->∃v,cs[j]?=some v/\bE v=true/\RP w (λ_=>True) x v
variable {FT:Nat->Option Nat}{H:Type}{P:Program}{W:World}{a:Addr}{base:Nat}{enc:TypeId×Value->H}{held:Bool}{n:Nat}{spare:Nat->Bool}{v:Value}{w:World}{α:Type}
theorem CR.nil: CR w [] []:=⟨rfl,λj x h=>by simp at h⟩
theorem CR.one{x:AV}(b:bE v=true)(h:RP w (λ_=>True) x v): CR w [x] [v]:=
 ⟨rfl,λj y a=>by
  cases j with
  | zero=>simp only[Zt,Zb] at a;subst a;exact⟨v,by simp,b,h⟩
  | succ j=>simp at a⟩
theorem CR.append{c ys:List AV}{cs ds:List Value}(h:CR w c cs)(k:CR w ys ds): CR w (c++ys)<|cs++ds:=
 ⟨by simp[h.1,k.1],λj x b=>by
  rw[Yl] at b |-;rw[h.1] at b;split at b
  .rename_i a;rw[Zu a];exact h.2 j x b
  .rename_i a;rw[ZF a];exact k.2 _ x b⟩
theorem CR.flatten[aF]: ∀{b:List<|List AV} {a:List<|List Value},b.length=a.length->(∀(i:Nat) p q,b[i]?=some p->a[i]?=some q->CR w p q)->CR w b.flatten a.flatten
 | [],[],_,_=>CR.nil
 | [],_::_,h,_=>by simp at h
 | _::_,[],h,_=>by simp at h
 | p::b,q::a,h,k=>by
  simp only[Yt];exact (k 0 p q rfl rfl).append<|CR.flatten (by simpa using h) λi p' q' d c=>k (i+1) p' q' (by simpa using d)<|by simpa using c
theorem Cs[aF]{Q:Nat->α->Prop}: ∀n,(∀i,i<n->∃x,Q i x)->∃l:List α,l.length=n/\∀i x,l[i]?=some x->Q i x
 | 0,_=>⟨[],rfl,λi x h=>by simp at h⟩
 | n+1,h=>by
  let⟨l,b,d⟩:=Cs n λi e=>h i (by omega);let⟨x,c⟩:=h n (by omega);refine⟨l++[x],by simp[b],λi y a=>?_⟩;rw[Yl] at a;split at a
  .exact d i y a
  .have:i=n:=by
    rcases ZI (i-l.length) 1 with h | h
    .omega
    .rw[Zy<|by simpa using h] at a;cases a
   subst this;rw[b] at a;simp at a;subst a;exact c
theorem UC[aF](cs:List α){tot:Nat}(c:cs.length=tot): ∀(a:List Field) (o:Nat),K9 P o a tot=true->
 cs.drop o=(a.map λf=>(cs.drop f.offset).take<|P.cellsOf f.type).flatten
 | [],o,h=>by
  simp only[K9,ZD] at h;simp only[Yn,Xg,Xu];omega
 | f::r,o,h=>by
  simp only[K9,Ze,ZD] at h;let⟨d,b⟩:=h;have e:=UC cs c r _ b;simp only[ZK,Yt,<-e,d];rw[<-XH,YN]
theorem GT[aF](s:Nat): ∀(m o:Nat) (cs:List α),cs.length=o+m*s->
 cs.drop o=((List.range m).map λi=>(cs.drop<|o+i*s).take s).flatten
 | 0,o,cs,h=>by simp[Xu];omega
 | m+1,o,cs,h=>by
  have a:=GT s m (o+s) cs (by rw[h,XA];omega);rw[List.range_succ_eq_map];simp only[ZK,Yb,Yt];have e:((List.range m).map<|(λi=>(cs.drop<|o+i*s).take s)∘Nat.succ)=(List.range m).map λi=>(cs.drop<|o+s+i*s).take s:=by
   refine ZV λi _=>?_;simp only[Function.comp,XA];congr 2;omega
  rw[e,<-a,YT,Xp,<-XH,YN]
section
theorem cells?_get{l:List Value}(h:w.cells? base a n=some l): l.length=n/\∀i,i<n->w.cell? (a.add i)=l[i]?:=by
 unfold World.cells? at h;split at h
 .exact⟨by simpa using mapM_some_length h,λi c=>mapM_some_get h i i<|by simp[c]⟩
 .cases h
theorem cell?_inv(h:w.cell? a=some v): ∃c T b,w.heap[a.block]?=some (.cells c T b)/\a.spot=none/\c[a.off]?=some v:=by
 unfold World.cell? at h;split at h
 .rename_i c T b d;split at h
  .cases h
  .rename_i e;exact⟨c,T,b,d,by simpa using e,h⟩
 .cases h
theorem aIC(a:Addr)(n:Nat): (a.add n).off=a.off+n:=by
 unfold Addr.add;split
 .rename_i h;simp[h]
 .rfl
theorem aKo{e:TypeId}: ∀{ds:List<|DataW H} {i:Nat} {d:DataW H},ds[i]?=some d->∀n∈d.weights P e,n∈DataW.weightsAll P e ds
 | [],_,_,h,_,_=>by simp at h
 | b::ds,0,d,h,n,a=>by
  simp only[Zt,Zb] at h;subst h;simp only[DataW.weightsAll,ZC];exact .inl a
 | b::ds,i+1,d,h,n,a=>by
  simp only[DataW.weightsAll,ZC];exact .inr<|aKo (by simpa using h) n a
theorem Iu[aF]: ∀(n:Nat) (t:TypeId) (cs:List Value) (x:DataW H×List MemPlace) (F:Nat),okT P n t=true->DataW.trod enc P w base spare held F t cs=some x->(∀n∈x.1.weights P t,n<=reachBytes)->∃xs,An P n t xs/\CR w xs cs
 | 0,t,cs,x,F,A,_,_=>by simp[okT] at A
 | n+1,t,cs,x,F,A,h,O=>by
  unfold okT at A;unfold An;split at A
  .rename_i C;obtain⟨b,rfl,_⟩:=DataW.trod_bool C h;exact⟨_,⟨b,rfl⟩,CR.one rfl<|.lit _⟩
  .rename_i k C;obtain⟨z,rfl,_,hw⟩:=X4 C h;exact⟨_,⟨z,hw,rfl⟩,CR.one rfl<|.lit _⟩
  .rename_i C;obtain⟨z,rfl,_,hw⟩:=DataW.trod_string C h;exact⟨_,⟨z,hw,rfl⟩,CR.one rfl<|.lit _⟩
  .rename_i e C;simp only[Ze,Z6] at A;let⟨c3,a3,A⟩:=A;rcases DataW.trod_slice C h with⟨rfl,_⟩ | ⟨a,len,cap,g,rest,m,_,rfl,rfl,_,e3,d3,e1,G,_,_⟩
   .exact⟨_,⟨[],rfl,by simp,λx D=>by cases D⟩,CR.one rfl<|.nil _ _ _<|by simp⟩
   .have u:∀i,i<len->∃y:List AV,An P n e y/\∃l,w.cells? base (a.add<|i*P.cellsOf e) (P.cellsOf e)=some l/\CR w y l:=by
     intro i s;have J:=G i s;have h2:g[i]?=some g[i]:=Za (by omega);rw[h2] at J;cases hc:w.cells? base (a.add<|i*P.cellsOf e) (P.cellsOf e) with
     | none=>rw[hc] at J;simp at J
     | some l=>
      rw[hc] at J;let⟨y,E,R⟩:=Iu n e l _ m A (by simpa using J) λz hz=>O z<|by
       simp only[DataW.weights,C,ZJ,ZC];exact .inr<|.inl<|aKo (ds:=g.map (·.1)) (i:=i) (by rw[Zm,h2];rfl) z hz
      exact⟨y,E,l,rfl,R⟩
    let⟨es,d,Z⟩:=Cs len u;have b1:es.length<=mxL:=by
     have:=O ((g.length+rest.length)*P.bytesOf e) (by simp only[DataW.weights,C,ZJ,ZR];exact .inl trivial);have h3:=Nat.le_mul_of_pos_right (g.length+rest.length) a3;have h4:=reachBytes_lt;show _<=140737488355328;omega
    refine⟨[.sl false es],⟨es,rfl,b1,λy hy=>?_⟩,CR.one rfl ?_⟩
    .obtain⟨i,s,rfl⟩:=YZ.1 hy;exact (Z i _<|Za s).1
    .by_cases h0:es=[]
     .subst h0;simp at d;subst d;exact .nil _ _ _<|by simp
     .have e2:0<len:=by
       rcases XF len with h | h
       .rw[h] at d;exact absurd (ZO.1 d) h0
       .exact h
      have L:∀i j x,bK es i j=some x->∃v,w.cell? ((a.add<|i*P.cellsOf e).add j)=some v/\bE v=true/\RP w (λ_=>True) x v/\j<P.cellsOf e:=by
       intro i j x D;unfold bK at D;cases s:es[i]? with
       | none=>rw[s] at D;cases D
       | some y=>
        rw[s] at D;let⟨_,l,E,R⟩:=Z i y s;let⟨v,B,W,N⟩:=R.2 j x D;let⟨c1,c2⟩:=cells?_get E;have hj:j<P.cellsOf e:=by
         rcases ZI j (P.cellsOf e) with h | h
         .exact h
         .rw[Zy<|by omega] at B;cases B
        exact⟨v,(c2 j hj).trans B,W,N,hj⟩
      have M:∀y∈es,y.length=P.cellsOf e:=by
       intro y hy;obtain⟨i,s,rfl⟩:=YZ.1 hy;let⟨_,l,E,R⟩:=Z i _<|Za s;rw[R.1];exact (cells?_get E).1
      have a1:∃x,bK es 0 0=some x:=by
       cases es with
       | nil=>exact absurd rfl h0
       | cons y r=>
        have:=M y (by simp);exact⟨y[0],by simp[bK]⟩
      let⟨x0,a1⟩:=a1;let⟨v0,B,_,_,_⟩:=L 0 0 x0 a1;let⟨c,T,fz,hb,Y,_⟩:=cell?_inv B;simp only[YT,Addr.add,Zz] at hb Y;let⟨ab,ao,d2⟩:=a;simp only at hb Y;subst Y;have X:∀i j x,bK es i j=some x->∃v,c[ao+(i*P.cellsOf e+j)]?=some v/\bE v=true/\RP w (λ_=>True) x v:=by
       intro i j x D;let⟨v,B,W,N,_⟩:=L i j x D;let⟨c',T',f1,E,_,k3⟩:=cell?_inv B;rw[ChangeShapes.block_add,ChangeShapes.block_add] at E;rw[hb] at E;cases E;rw[aIC,aIC,Yu] at k3;exact⟨v,k3,W,N⟩
      have hr:RP w (λ_=>True) (.sl false es)<|.slice (some ⟨ab,ao,none⟩) es.length cap:=by
       refine .sl false es ab ao cap c T fz (P.cellsOf e) (λi j=>(c[ao+(i*P.cellsOf e+j)]?).getD undef) h0 trivial hb M (by omega) (by simp) ?_ ?_
       .intro i j x D;let⟨v,B,W,N⟩:=X i j x D;exact⟨by rw[B];rfl,by rw[B];exact W⟩
       .intro i j x D;let⟨v,B,W,N⟩:=X i j x D;show RP w _ x<|(c[ao+(i*P.cellsOf e+j)]?).getD undef;rw[B];exact N
      rw[d] at hr;exact hr
  .rename_i U C;simp only[Ze,Yh] at A;let⟨K,A⟩:=A;obtain⟨ys,m,_,rfl,hl,b3,G⟩:=W8 C h;have u:∀i,i<U.size->∃y:List AV,∃f,U[i]?=some f/\An P n f.type y/\CR w y ((cs.drop f.offset).take<|P.cellsOf f.type):=by
    intro i s;have hf:U[i]?=some U[i]:=by simp[s]
    have J:=G i _ hf;rw[Za<|by omega] at J;let⟨y,E,R⟩:=Iu n _ _ _ m (A U[i]<|by simp) J λz hz=>O z<|by
     simp only[DataW.weights,C];exact DataW.weights_mem_each (j:=i) (by rw[Zm];simp[s]) (by rw[Zm,Za<|by omega];rfl) z hz
    exact⟨y,_,hf,E,R⟩
   let⟨ps,d,I⟩:=Cs U.size u;refine⟨ps.flatten,⟨ps,rfl,d,λi f p hf S=>?_⟩,?_⟩
   .let⟨f',B,W,_⟩:=I i p S;rw[hf] at B;cases B;exact W
   .have e:=UC (P:=P) cs hl U.toList 0 K;rw[YD] at e;rw[e];refine CR.flatten (by simp[d]) λi p q S Q=>?_;let⟨f,B,_,N⟩:=I i p S;rw[Zm] at Q;have:U.toList[i]?=some f:=by simpa using B
    rw[this] at Q;simp only[Yz,Zb] at Q;subst Q;exact N
  .rename_i m e C;simp only[Ze,ZD] at A;let⟨K,A⟩:=A;obtain⟨ys,m',_,rfl,hl,b3,G⟩:=DataW.trod_array C h;have u:∀i,i<m->∃y:List AV,An P n e y/\CR w y ((cs.drop<|i*P.cellsOf e).take<|P.cellsOf e):=by
    intro i s;have J:=G i s;rw[Za<|by omega] at J;let⟨y,E,R⟩:=Iu n _ _ _ m' A J λz hz=>O z<|by
     simp only[DataW.weights,C];exact aKo (i:=i) (by rw[Zm,Za<|by omega];rfl) z hz
    exact⟨y,E,R⟩
   let⟨ps,d,I⟩:=Cs m u;refine⟨ps.flatten,⟨ps,rfl,d,λp S=>?_⟩,?_⟩
   .obtain⟨i,s,rfl⟩:=YZ.1 S;exact (I i _<|Za s).1
   .have e':=GT (P.cellsOf e) m 0 cs (by rw[hl,K];omega);rw[YD] at e';rw[e'];refine CR.flatten (by simp[d]) λi p q S Q=>?_;let⟨_,N⟩:=I i p S;rw[Zm] at Q;have s:i<m:=by
     rcases ZI i m with h | h
     .exact h
     .rw[Zy<|by omega] at S;cases S
    rw[Y2 s] at Q;simp only[Yz,Zb,Z0] at Q;subst Q;exact N
  .cases A
def isAgg(P:Program)(t:TypeId): Bool:=
 match P.underlying t with
 | some (.struct _)=>true
 | some (.array _ _)=>true
 | _=>false
def M6(P:Program)(t:TypeId)(xs:List AV): AV:=
 match isAgg P t with
 | true=>.agg xs
 | false=>xs.headD .undef
def Se(P:Program)(n:Nat): List TypeId->List AV->Prop
 | [],[]=>True
 | t::ts,x::xs=>(∃ys,An P n t ys/\x=M6 P t ys)/\Se P n ts xs
 | _,_=>False
def top(W:World): dC:=⟨W,λ_=>False,λ_=>none,[]⟩
theorem aBw(W:World)(b:Nat): lC (top W) b:=⟨λh=>h,λid h=>by cases h⟩
theorem aNy[aF](FT:Nat->Option Nat)(W:World)(g:tA<|top W): bX FT (top W) where
 gl:=g;inj:=λ_ _ _ h=>by cases h
 dom:=λ_ _ h=>by cases h
 nx:=λ_ _ h=>by cases h
 fresh:=λ_ _ h=>h;lens:=λid s es h=>by simp[top] at h
 blk:=λid s es b h=>by simp[top] at h
 map:=λid es b h=>by simp[top] at h
 raw:=λid q b h=>by simp[top] at h
theorem aQU[aF]{j:Nat}{t:TypeId}{d:DataW H}{N:List MemPlace}(a:Value.okWide P w .any j t v)(Q:okT P n t=true)(h:DataW.Trod enc P w base spare held t v d N)(E:∀n∈d.weights P t,n<=reachBytes): ∃ys,An P n t ys/\RV FT (top w) (M6 P t ys) v:=by
 let⟨q,h⟩:=h;let⟨ys,M,p⟩:=Iu n t _ _ q Q h E;refine⟨ys,M,?_⟩;have z:∀{x:AV} {u:Value},RP w (λ_=>True) x u->RP (top w).w (lC<|top w) x u:=λR=>R.mono λb o _ O=>⟨aBw w b,O⟩;have f:∀cs:Array Value,v=.agg cs->RV FT (top w) (.agg ys) v:=by
  intro cs e;subst e;simp only[Value.cells] at p;refine .agg ys cs (λi=>(cs[i]?).getD undef) (by have:=p.1;simpa using this.symm) (λi x C=>?_) λi x C=>?_
  .let⟨u,l,L,A⟩:=p.2 i x C;have:cs[i]?=some u:=by simpa using l
   exact⟨by rw[this];rfl,by rw[this];exact L⟩
  .let⟨u,l,L,A⟩:=p.2 i x C;have:cs[i]?=some u:=by simpa using l
   show RV FT (top w) x<|(cs[i]?).getD undef;rw[this];exact .pure _ _<|z A
 unfold Value.okWide at a;unfold M6 isAgg;split at a
 .rename_i S k;obtain⟨cs,rfl,_⟩:=a;simp only[k];exact f cs rfl
 .rename_i m e k;obtain⟨cs,rfl,_⟩:=a;simp only[k];exact f cs rfl
 .rename_i I D;have G:∀cs,v≠.agg cs:=by
   intro cs e;subst e;unfold Cell.okWide Cell.ok at a;revert a;cases P.underlying t with
   | none=>simp
   | some u=>cases u<;>simp
  have c:v.cells=#[v]:=by
   cases v<;>first | rfl | exact absurd rfl (G _)
  rw[c] at p;have:(match P.underlying t with | some (.struct _)=>true | some (.array _ _)=>true | _=>false)=false:=by
   split
   .rename_i k;exact absurd k<|I _
   .rename_i k;exact absurd k<|D _ _
   .rfl
  rw[this];let⟨B,g⟩:=p;match ys,B,g with
  | [],B,_=>simp at B
  | y::r,_,g=>
   let⟨u,l,_,A⟩:=g 0 y rfl;simp at l;subst l;exact .pure _ _<|z A
theorem aHw[aF]{b:Nat}: ∀(ts:List TypeId) (vs:List Value) (ds:List<|DataW H) (m:List MemPlace),
 (∀(j:Nat) t v,ts[j]?=some t->vs[j]?=some v->Value.okWide P w .any b t v)->ts.all (okT P n)=true->DataW.TrodAll enc P w base spare held ts vs ds m->(∀n∈DataW.weightsEach P ts ds,n<=reachBytes)->
 ∃f,Se P n ts f/\f.length=vs.length/\∀(i:Nat) x,f[i]?=some x->∃v,vs[i]?=some v/\RV FT (top w) x v
 | [],[],[],_,_,_,_,_=>⟨[],trivial,rfl,λi x c=>by simp at c⟩
 | t::ts,v::vs,d::ds,m,e,k,h,a=>by
  let⟨p,q,u,C,_⟩:=h;simp only[DataW.weightsEach,ZC] at a;simp only[XO,Ze] at k;let⟨ys,y,D⟩:=aQU (FT:=FT) (e 0 t v rfl rfl) k.1 u λn g=>a n<|.inl g;obtain⟨f,E,A,z⟩:=aHw ts vs ds q (λj s B F e2=>e (j+1) s B (by simpa using F)<|by simpa using e2) k.2 C λn g=>a n<|.inr g;refine⟨M6 P t ys::f,⟨⟨ys,y,rfl⟩,E⟩,by simp[A],λi x c=>?_⟩;cases i with
  | zero=>
   simp only[Zt,Zb] at c;subst c;exact⟨v,rfl,D⟩
  | succ i=>
   simp only[ZP] at c |-;exact z i x c
 | [],[],_::_,_,_,_,h,_=>h.elim
 | [],_::_,_,_,_,_,h,_=>h.elim
 | _::_,[],_,_,_,_,h,_=>h.elim
 | _::_,_::_,[],_,_,_,h,_=>h.elim
theorem AZ[aF]{ts:List TypeId}(k:laidOutB P=true){i:World}(j:Below W.heap.size W i): ∀(ts:List TypeId) (vs:List Value) (ds:List<|DataW H) (c:List MemPlace),
 (∀t∈ts,P.readableRec t=true/\t<P.types.size)->(∀x∈c,x.block<W.heap.size)->DataW.TrodAll enc P W 0 (λ_=>true) true ts vs ds c->
 DataW.TrodAll enc P i 0 (λb=>decide<|b<W.heap.size) true ts vs ds c
 | [],[],[],_,_,_,h=>h
 | t::ts,v::vs,d::ds,c,e,a,h=>by
  obtain⟨p,q,m,n,rfl⟩:=h;exact⟨p,q,Below.trod k (e t<|by simp).1 (e t<|by simp).2 m j λx g=>a x<|by simp[g],
   AZ (ts:=ts) k j ts vs ds q (λl f=>e l<|by simp[f]) (λx g=>a x<|by simp[g]) n,rfl⟩
 | [],[],_::_,_,_,_,h=>h.elim
 | [],_::_,_,_,_,_,h=>h.elim
 | _::_,[],_,_,_,_,h=>h.elim
 | _::_,_::_,[],_,_,_,h=>h.elim
theorem aCi[aF]{T:List cP}(hm:P.follows .mixedOrders=true)(hT:Checked P T)(I:aGP P T){vi f:Nat}{fn:Func}(E:aK T vi=some f){s:ChangeSpec}(b:s.vars=[]){tb:TypeId}(Q:fn.resultTypes=#[tb])(B:P.underlying tb=some .bool)(Y:laidOutB P=true)(N:∀t∈fn.params.toList,P.readableRec t=true/\t<P.types.size)(R:fn.params.toList.all (okT P n)=true)(J:∀y,Se P n fn.params.toList y->∃k H',fB P T k 0 vi y []=some (.lit<|.bool true,H')){o:Nat}{a:Array Value}{ds u:List<|DataW H}{g:List MemPlace}{l c:Bool}(M:tA<|top W)(r:(s.fn H<|ds++u).results=[.lit<|.bool true]/\(s.fn H<|ds++u).args=ds/\(s.fn H<|ds++u).vars=[])(A:∀(j:Nat) t v,fn.params[j]?=some t->a[j]?=some v->Value.okWide P W .any o t v)(V:DataW.Whole enc P fn.params.toList s.vars false W a.toList ds u g)(D:∀n∈DataW.weightsEach P fn.params.toList ds,n<=reachBytes):
 Calls P f a W λe X=>∃v,e=.returned v/\s.post enc P fn false l c false W a v X:=by
 have z:=V;obtain⟨p,q,U,O,rfl,a2,a1⟩:=V;let⟨y,g1,Z,g3⟩:=aHw (FT:=aK T) (n:=n) fn.params.toList a.toList ds p (λj t v e1 e2=>A j t v (by simpa using e1)<|by simpa using e2) R U D;let⟨k,H',he⟩:=J y g1;have m:lD (aK T) (top W) y a:=⟨by simpa using Z.symm,λi x C=>by
  let⟨v,h1,h2⟩:=g3 i x C;exact⟨v,by simpa using h1,h2⟩⟩
 refine (aAP hm hT I k 0 vi f y _ H' (top W) a he E (aNy _ W M) (ZL _) m).mono λe X hq=>?_;obtain⟨v,c',rfl,rfl,_,_,d,_,L⟩:=hq;have hv:v=.bool true:=L.lit_inv;subst hv;have S:Below W.heap.size W c'.w:=⟨d.os,d.tape,d.output,d.size,λi hi=>d.frame i hi λid h=>by cases h⟩;have K:u=[]/\q=[]:=by
  rw[b] at O;cases u with
  | nil=>exact⟨rfl,O⟩
  | cons _ _=>exact O.elim
 obtain⟨rfl,rfl⟩:=K;have F:∀x∈p,x.block<W.heap.size:=λx C=>z.lt x (by simpa using C);have G:=AZ (ts:=[]) Y S fn.params.toList a.toList ds p N F U;refine⟨_,rfl,ds,[],p++[],[],p,[],z,?_,?_,?_,S.frame _,λh=>by cases h⟩
 .rw[r.1,Q];exact⟨[],[],shut_bool B _,rfl,rfl⟩
 .rw[r.2.1];exact G
 .rw[b,r.2.2];rfl
end
end
section
open Go.RowKit
theorem T8{H:Type}{enc:TypeId×Value->H}{a:Assume}{C:Go.Checked}{os:Os}{f:FuncId}{fn:Func}{s:ChangeSpec}{n:List PathCond}{c m h l:Bool}{X:World->Array Value->Prop}(M:∀(w w':World) (b:Array Value),w.heap=w'.heap->X w b->X w' b)(E:ownKnob C.prog.godebug=none)(p:os.Started)(q:C.prog.inits.idxOf? f=none)(D:C.prog.funcs[f]?=some fn)(o:∃(w:World) (d:Tape) (i:Input),w.os=os/\(w.forCall d i).Shaped C.prog/\i.vars=[]/\Input.okWide C.prog (w.forCall d i) .any w.heap.size f i /\
  ((s.pre enc C.prog fn n c (w.forCall d i).memory i.args/\X (w.forCall d i).memory i.args)/\sizedMet enc C.prog fn (OpenSpec.ofChange s) c (w.forCall d i).memory i.args)/\a.holds C.prog (lone (Frame.enter C.prog f i.args .normal) []<|w.forCall d i))(k:∀(W:World) (x:Nat) (b:Array Value) (ds z:List<|DataW H) (g:List MemPlace),
  (∀(j:Nat) t v,fn.params[j]?=some t->b[j]?=some v->Value.okWide C.prog W .any x t v)->
  DataW.Whole enc C.prog fn.params.toList s.vars c W b.toList ds z g->X W b->W.ShapedOpen C.prog->(DataW.weightsEach C.prog (fn.params.toList++s.plain.varTypes C.prog)<|ds++z).all (·<=reachBytes)=true->
  Calls C.prog f b W λe J=>∃v,e=.returned v/\s.post enc C.prog fn c m h l W b v J):
 ReturnsInHanded a C os f .any (λw b=>(s.pre enc C.prog fn n c w b/\X w b)/\sizedMet enc C.prog fn (OpenSpec.ofChange s) c w b)<|s.post enc C.prog fn c m h l:=by
 refine returnsInHanded_of_calls E p q o ?_;intro w d i _ G _ A y _;let⟨_,_,_,B,u,_,_,_,_,r⟩:=A;have e:B=fn:=ZE<|u.symm.trans D;subst e;let⟨⟨⟨ds,z,g,I,_⟩,N⟩,K⟩:=y;have F:=DataW.Whole.of_heap (w':=w.forCall d i) (by rfl) I;refine (k (w.forCall d i) w.heap.size i.args ds z g r F (M _ _ _ (by rfl) N) G<|K.weights I).mono λe J ⟨v,he,L⟩=>?_;subst he;exact ChangeSpec.post_blind L
def aWB: DataW Unit->List Value
 | .lit (.int k z)=>[.int k z]
 | _=>[]
def aIk: DataW Unit->List Value
 | .agg ps=>ps.flatMap aWB
 | _=>[]
def aQk: DataW Unit->List Value
 | .agg ps=>ps.flatMap aIk
 | _=>[]
variable {P:Program}{base:Nat}{cs:List Value}{enc:TypeId×Value->Unit}{f0 f1 f2:Field}{held:Bool}{ka kb kc:IntKind}{sp:Nat->Bool}{t ta tb tc:TypeId}{w:World}{x:DataW Unit×List MemPlace}
section
theorem aIQ{e:Nat}(E:P.underlying t=some (.struct #[f0,f1,f2]))(G:P.cellsOf t=3)(B:f0.type=ta)(F:f1.type=tb)(A:f2.type=tc)(z:f0.offset=0)(u:f1.offset=1)(s:f2.offset=2)(K:P.underlying ta=some (.int ka))(Q:P.underlying tb=some (.int kb))(H:P.underlying tc=some (.int kc))(C:P.cellsOf ta=1)(O:P.cellsOf tb=1)(cc:P.cellsOf tc=1)(h:DataW.trod enc P w base sp held e t cs=some x): cs=aIk x.1:=by
 obtain⟨J,n,_,rfl,k,i,d⟩:=W8 E h;rw[G] at k;match cs,k with
 | [a,b,c],_=>
  match J,i with
  | [S,T,R],_=>
   have o:=d 0 f0 rfl;have l:=d 1 f1 rfl;have q:=d 2 f2 rfl;rw[B,z,C] at o;rw[F,u,O] at l;rw[A,s,cc] at q;let⟨r,M,I,_⟩:=X4 K o;let⟨y,N,L,_⟩:=X4 Q l;let⟨v,e2,D,_⟩:=X4 H q;have f:a=.int ka r:=by simpa using M
   have j:b=.int kb y:=by simpa using N
   have g:c=.int kc v:=by simpa using e2
   subst f j g I L D;rfl
theorem aFA[aF]{b m:Nat}{e:TypeId}(C:P.underlying t=some (.array m e))(g:P.cellsOf t=m*3)(r:P.underlying e=some (.struct #[f0,f1,f2]))(p:P.cellsOf e=3)(z:f0.type=ta)(B:f1.type=tb)(F:f2.type=tc)(v:f0.offset=0)(I:f1.offset=1)(s:f2.offset=2)(H:P.underlying ta=some (.int ka))(u:P.underlying tb=some (.int kb))(E:P.underlying tc=some (.int kc))(A:P.cellsOf ta=1)(J:P.cellsOf tb=1)(cc:P.cellsOf tc=1)(h:DataW.trod enc P w base sp held b t cs=some x): cs=aQk x.1:=by
 obtain⟨f,n,_,rfl,D,G,j⟩:=DataW.trod_array C h;have o:=GT 3 m 0 cs (by rw[D,g];omega);rw[YD] at o;have k:∀i,i<m->∃y,f[i]?=some y/\(cs.drop<|0+i*3).take 3=aIk y.1:=by
  intro i a;have c:=j i a;rw[p] at c;have d:f[i]?=some f[i]:=Za (by omega);rw[d] at c;refine⟨_,d,?_⟩;rw[Z0];exact aIQ r p z B F v I s H u E A J cc c
 rw[o];show _=(f.map (·.1)).flatMap aIk;rw[List.flatMap_def,Yb];congr 1;apply Ym;intro i;rw[Zm,Zm];rcases ZI i m with a | a
 .let⟨y,c,d⟩:=k i a;rw[Y2 a,c];simp only[Yz,Function.comp];rw[d]
 .rw[Zy<|by simpa using a,Zy<|by omega];rfl
end
end
section
def pv[aF](P:Program)(T:List cP)(n vi:Nat)(args:List AV): Option AV:=
 match fB P T n 0 vi args [] with
 | some (r,H')=>some<|eY H' 0 r
 | none=>none
def aGy[aF](F:cP): Option (cT×St)->Option (AV×aT)
 | some (.normal,st)=>match lB st F.rets with
  | some vs=>some (jP vs,st.heap)
  | none=>none
 | some (.ret,st)=>match lB st F.rets with
  | some vs=>some (jP vs,st.heap)
  | none=>none
 | _=>none
variable {H:aT}{P:Program}{cf:Nat->Nat->List AV->aT->Option (AV×aT)}{fl lf:Nat}{st:St}{t:TypeId}
theorem I8[aF]{T:List cP}{n vi:Nat}{a:List AV}(F:cP)(h:getF T vi=some F):
 fB P T (n+1) fl vi a H=aGy F (eP P (fB P T n) n fl F.body ⟨a++List.replicate (F.nt-a.length) (.lit bM),H⟩):=by
 have b:aF.prim vi=none:=by
  unfold getF at h;split at h
  .cases h
  .assumption
 have c:T[vi]?=some F:=by simpa only[getF,b] using h
 simp only[fB,b,c,aGy];split<;>split<;>simp_all
section
end
theorem aRn(a b:Int): aN P (Builtin.max_ #[] 0 #[.int .i64 a,.int .i64 b])=some (.int .i64<|if a<b then b else a):=by
 by_cases h:a<b<;>simp[Builtin.max_,Builtin.max2,h]<;>rfl
theorem aRm(a b:ByteArray): aN P (binOp .eql t (.string a)<|.string b)=some (.bool<|a.toList==b.toList):=rfl
theorem aRl(a b:ByteArray): aN P (binOp .neq t (.string a)<|.string b)=some (.bool<|!(a.toList==b.toList)):=rfl
theorem aPZ{c:BinOp}(x y:Operand)(a b:ByteArray): aN P (eqGuard c t x y (.string a)<|.string b)=some ():=by cases c<;>rfl
theorem M8{id s bytes tot:Nat}{es ys:List<|List AV}(a:H[id]?=some (.blk s es))(c:es.length=tot)(f:eU s ys=true)(k:0<s)(l:kV ys.length bytes=true)(e:kV (tot+ys.length) bytes=true)(d:fl<=id):
 cO fl H s bytes (.ms id tot 0 tot) ys=some (.ms id (tot+ys.length) 0<|tot+ys.length,H.set id<|.blk s<|es++ys):=by
 have g:id<H.length:=by
  rcases ZI id H.length with h | h
  .exact h
  .rw[Zy h] at a;cases a
 unfold cO;simp only[f,k,l,a,c,e,d,Xa,Zz];by_cases j:ys.length=0
 .have:ys=[]:=ZO.1 j;subst this;simp only[Z2,Xp,Xw,Zz,Zb,Zk,Wg];apply Ym;intro i;rw[Z7];split
  .rename_i m;subst m;first | exact a | (rw[Zu g];exact a)
  .rfl
 .simp only[j,Ya]
end
def aVE: List Prop->Prop
 | []=>True
 | p::r=>p/\aVE r
structure Orc where
 O:List (Nat×AV×Option aT)
 B:List (Nat×Bool)
def cZ{α:Type}(t:Nat): List (Nat×α)->Option α
 | []=>none
 | (u,a)::r=>match Nat.beq u t with | true=>some a | false=>cZ t r
section
variable (P:Program)(cf:Nat->Nat->List AV->aT->Option (AV×aT))(fl:Nat)
variable (o:Orc)
end
section
abbrev iv(n:Int): AV:=.lit (.int .i64 n)
abbrev bv(b:Bool): AV:=.lit (.bool b)
abbrev sv(s:ByteArray): AV:=.lit (.string s)
def bnd{α β:Type}(x:Option α)(f:α->Option β): Option β:=match x with
 | some a=>f a
 | none=>none
variable {H:aT}{P:Program}{a b:ByteArray}{α:Type}{c:α->List AV}{cf:Nat->Nat->List AV->aT->Option (AV×aT)}{f:Bool}{fl:Nat}{hi i:Int}{id k:Nat}{l l':List α}{lo:Int}{m:List α}{n:Nat}{r:Bool}{s:Nat}{t:TypeId}{w:AV}{x:α}{y z:AV}{β:Type}
theorem bF{x:Option α}{f:α->Option β}{r:β}(h:bnd x f=some r): ∃a,x=some a/\f a=some r:=by
 cases x with
 | none=>cases h
 | some a=>exact⟨a,rfl,h⟩
def bnd2{α β γ:Type}(x:Option<|α⊕β)(f:α->Option γ)(g:β->Option γ): Option γ:=match x with
 | some (.inl a)=>f a
 | some (.inr b)=>g b
 | none=>none
theorem aJM{γ:Type}{x:Option<|α⊕β}{f:α->Option γ}{g:β->Option γ}{r:γ}(h:bnd2 x f g=some r): (∃a,x=some (.inl a)/\f a=some r)\/(∃a,x=some (.inr a)/\g a=some r):=by
 match x,h with
 | some (.inl a),h=>exact .inl ⟨a,rfl,h⟩
 | some (.inr a),h=>exact .inr ⟨a,rfl,h⟩
def cnd{α:Type}(b:Bool)(x y:α): α:=match b with
 | true=>x
 | false=>y
theorem aRi[aF]{T:List cP}{vi:Nat}{a:List AV}{r b:AV}{H':aT}(h:fB P T n 0 vi a []=some (r,H'))(c:eY H' 0 r=b): pv P T n vi a=some b:=by
 unfold pv;rw[h,<-c]
def nE(a b:Int): Int:=if a<b then b else a
def QE(a b:Int): Int:=if b<a then b else a
theorem aHk(a b:ByteArray): (a.toList==b.toList)=decide (a=b):=by
 by_cases h:a=b
 .subst h;simp
 .rw[YI h];simp only[X7,Wx];intro e;apply h;simp only[ByteArray.toList_eq] at e;exact ByteArray.ext<|Array.toList_inj.1 e
section
theorem aJK[aF](h:decide (a=b)=r): aL P cf fl (.bin .eql t (.tmp 0)<|.tmp 1) [sv a,sv b] H=some (bv r,H):=by
 simp only[aL,aH,Zt,ZP,lits,uJ,Zz,aPZ,aRm,aHk,h]
theorem aJJ[aF](h:decide (a=b)=r): aL P cf fl (.bin .neq t (.tmp 0)<|.tmp 1) [sv a,sv b] H=some (bv<|!r,H):=by
 simp only[aL,aH,Zt,ZP,lits,uJ,Zz,aPZ,aRl,aHk,h]
end
def idx{α:Type}(l:List α)(i:Int): Option α:=if 0<=i then l[i.toNat]? else none
theorem bN(l:List α)(i:Nat): idx l (i:Int)=l[i]?:=by simp[idx]
theorem pN(h:idx l i=some x): 0<=i/\l[i.toNat]?=some x/\i.toNat<l.length:=by
 unfold idx at h;split at h
 .rename_i b;refine⟨b,h,?_⟩;rcases ZI i.toNat l.length with a | a
  .exact a
  .rw[Zy a] at h;cases h
 .cases h
section
def eK{α:Type}(l:List α)(k:Nat)(i:Int): Option α:=if 0<=i/\i.toNat<k then l[i.toNat]? else none
theorem aJz(h:eK l k i=some x): 0<=i/\i.toNat<k/\l[i.toNat]?=some x/\i.toNat<l.length:=by
 unfold eK at h;split at h
 .rename_i b;refine⟨b.1,b.2,h,?_⟩;rcases ZI i.toNat l.length with a | a
  .exact a
  .rw[Zy a] at h;cases h
 .cases h
def app{α:Type}(l m:List α): Option<|List α:=if l.length+m.length<=1000000 then some (l++m) else none
theorem Rs(h:app l m=some l'): l'=l++m/\l.length+m.length<=1000000:=by
 unfold app at h;split at h
 .cases h;exact⟨rfl,by assumption⟩
 .cases h
theorem Ko(h:l.length+m.length<=1000000): app l m=some (l++m):=by simp[app,h]
def Na(b:Bool): Option Unit:=match b with
 | true=>some ()
 | false=>none
theorem yL{b:Bool}{u:Unit}(h:Na b=some u): b=true:=by cases b<;>first | rfl | cases h
def prd(n:Nat): Option Nat:=match n with
 | 0=>none
 | k+1=>some k
theorem aKX(h:prd n=some k): n=k+1:=by
 cases n with
 | zero=>cases h
 | succ n=>cases h;rfl
def cut{α:Type}(l:List α)(lo hi:Int): Option<|List α:=if 0<=lo/\lo<=hi/\hi<=l.length then some ((l.take hi.toNat).drop lo.toNat) else none
section
theorem aLl[aF]{a b:Int}: aL P cf fl (.minmax true [.tmp 0,.tmp 1]) [iv a,iv b] H=some (iv<|nE a b,H):=by
 simp[aL,aH,Fv,aRn,nE]
theorem aRt[aF]{a b:Int}: aL P cf fl (.minmax false [.tmp 0,.tmp 1]) [iv a,iv b] H=some (iv<|QE a b,H):=by
 have:aN P (Builtin.min_ #[] 0 #[.int .i64 a,.int .i64 b])=some (.int .i64<|if b<a then b else a):=by
  by_cases h:b<a<;>simp[Builtin.min_,Builtin.min2,h]<;>rfl
 simp[aL,aH,Fv,this,QE]
end
end
end
section
variable {H:aT}{K:Type}{P:Program}{V:Type}{cf:Nat->Nat->List AV->aT->Option (AV×aT)}{fl id:Nat}{k:K}{kt:TypeId}{kv:K->Value}{m:List (K×V)}{va:V->AV}{x:AV}
section
variable [DecidableEq K]
def cE(m:List<|K×V)(k:K): Option V:=match m with
 | []=>none
 | (k',v)::r=>if k'=k then some v else cE r k
def kL(m:List<|K×V)(k:K)(v:V): List<|K×V:=match m with
 | []=>[(k,v)]
 | (k',v')::r=>if k'=k then (k,v)::r else (k',v')::kL r k v
theorem tL[aF](k k':K)(v:V): ∀m:List<|K×V,cE (kL m k v) k'=if k=k' then some v else cE m k'
 | []=>by simp[kL,cE]
 | (a,b)::r=>by
  simp only[kL];split
  .rename_i h;subst h;simp only[cE];split<;>rfl
  .rename_i h;simp only[cE,tL k k' v r];split
   .rename_i c;subst c;rw[ZF λd=>h d.symm]
   .rfl
structure P5(P:Program)(kt:TypeId)(kv:K->Value): Prop where
 find:∀(k:K) (ks:List K),jT P kt (kv k) (ks.map λx=>(kv x,AV.undef))=some (ks.findIdx? λx=>decide (x=k))
 chk:∀(e:Bool) (k:K),aN P (Instr.checkKey e 10000 kt (kv k))=some ()
 same:∀k:K,Instr.sameBits 10000 (kv k) (kv k)=true
theorem aGx{k:Value}{c e2:List<|Value×AV}(h:c.map (·.1)=e2.map (·.1)): jT P kt k c=jT P kt k e2:=by
 unfold jT;have:(c.map λe=>({ key:=e.1,val:=.bool false,born:=0 }:MapEntry))=e2.map λe=>{ key:=e.1,val:=.bool false,born:=0 }:=by
  have e:∀l:List<|Value×AV,(l.map λe=>({ key:=e.1,val:=.bool false,born:=0 }:MapEntry))=(l.map (·.1)).map λk=>{ key:=k,val:=.bool false,born:=0 }:=λl=>by simp
  rw[e,e,h]
 rw[this]
theorem E5[aF](k:K): ∀m:List<|K×V,(cE m k=none/\m.findIdx? (λp=>decide<|p.1=k)=none)\/∃i v,cE m k=some v/\m.findIdx? (λp=>decide<|p.1=k)=some i/\m[i]?=some (k,v)
 | []=>.inl ⟨rfl,rfl⟩
 | (a,b)::r=>by
  simp only[cE,XG];by_cases h:a=k
  .subst h;exact .inr ⟨0,b,by simp,by simp,rfl⟩
  .rw[ZF h,YI h];simp only[Zo,Ya];rcases E5 k r with⟨d,e⟩ | ⟨i,v,d,e,f⟩
   .exact .inl ⟨d,by simp[e]⟩
   .exact .inr ⟨i+1,v,d,by simp[e],by simpa using f⟩
theorem aDZ[aF](k:K)(v:V): ∀m:List<|K×V,kL m k v=match m.findIdx? (λp=>decide<|p.1=k) with | some i=>m.set i (k,v) | none=>m++[(k,v)]
 | []=>rfl
 | (a,b)::r=>by
  simp only[kL,XG];by_cases h:a=k
  .subst h;simp
  .rw[ZF h,YI h,aDZ k v r];simp only[Zo,Ya];cases r.findIdx? λp=>decide (p.1=k) with
   | none=>simp
   | some i=>simp
end
theorem TP[aF](k:Int): ∀(c:List Int) (i:Nat),Instr.findNow (.int .i64) (.int .i64 k) (c.map λx=>{ key:=.int .i64 x,val:=.bool false,born:=0 }) i=some ((c.findIdx? λx=>decide<|x=k).map λj=>(i+j,.bool false))
 | [],i=>rfl
 | x::r,i=>by
  simp only[ZK,Instr.findNow,Instr.sameNow,Zz,XG];by_cases h:x=k
  .subst h;simp
  .have g:(k==x)=false:=by simpa using λe=>h e.symm
   rw[YI h,g];simp only[Zo,Ya,TP k r<|i+1];cases r.findIdx? λx=>decide (x=k) with
   | none=>rfl
   | some j=>simp;omega
theorem aO7[aF](b:aN P (underlying kt)=some (.int .i64)): P5 P kt (λk:Int=>.int .i64 k) where
 find:=λk g=>by
  unfold jT;simp only[Instr.findKey,cG,b,Z3,Yb,W7,TP,cX];cases g.findIdx? λx=>decide (x=k) with
  | none=>rfl
  | some j=>simp
 chk:=λe k=>by
  rw[Instr.checkKey];simp only[cG,b,Z3];rfl
 same:=λk=>by simp[Instr.sameBits]
end
end Go.Proofs.YtmcgghedgfkjiaaGreatDoor.Av
