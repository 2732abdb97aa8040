/- A part of the proof of a law. -/
import Derived.Test.YtmcgghedgfkjiaaGreatDoorP2
import Derived.Scope
import Derived.Control
set_option maxRecDepth 100000
set_option maxHeartbeats 4000000
set_option linter.all false
namespace Go.Proofs.YtmcgghedgfkjiaaGreatDoor.Av
open Go
section
variable {P:Program}{Q:Exit->Act->World->Prop}{T:List cS}{a:Act}{c:dA}{cf:Nat->Nat->List AV->aW->Option (AV×aW)}{fl:Nat}{o:Oper}{ops:Array Oper}{tm:List AV}
section
theorem TR.put{FT:Nat->Option Nat}{d:Option Nat}{x:AV}{v:Value}(h:TR FT c tm a.tmps)(j:RV FT c x v): TR FT c (hM tm d x) (a.put d v).tmps:=by
 cases d with
 | none=>exact h
 | some d=>
  simp only[hM,Act.put];refine⟨by simpa using h.1,λt y e=>?_⟩;rw[Z5] at e;split at e
  .rename_i b;subst b;split at e
   .rename_i f;cases e;exact⟨v,by simp[<-h.1,f],j⟩
   .cases e
  .rename_i b;let⟨u,g,i⟩:=h.2 t y e;exact⟨u,by rw[YB b];exact g,i⟩
theorem hJ(a:Act)(d:Option Nat)(v:Value): (a.put d v).defers=a.defers:=by cases d<;>rfl
theorem Jp[aF]{g:Option<|Nat×Bool}{b:Bool}(h:TR (aJ T) c tm a.tmps)(e:Sg ops g o.guard=true)(d:eD tm g=some b):
 Region.wanted o (yielded ops a.tmps)=b:=by
 unfold Region.wanted;cases g with
 | none=>
  cases k:o.guard with
  | none=>
   simp only[eD,Za] at d;exact d
  | some q=>rw[k] at e;simp[Sg] at e
 | some q=>
  let⟨t,A⟩:=q;cases k:o.guard with
  | none=>rw[k] at e;simp[Sg] at e
  | some q=>
   let⟨j,C⟩:=q;rw[k] at e;simp only[Sg,Zd,ZC] at e;let⟨rfl,e⟩:=e;split at e
   .rename_i p s;have B:p.dst=some t:=by simpa using e
    simp only[eD] at d;have z:yielded ops a.tmps j=match a.tmps[t]? with | some (.bool b)=>some b | _=>none:=by
     unfold yielded;simp only[s,Z2,B];cases a.tmps[t]? with
     | none=>rfl
     | some v=>cases v<;>rfl
    simp only[z];simp only[aG] at d;cases i:tm[t]? with
    | none=>
     rw[i] at d;simp only[bQ] at d;have y:a.tmps[t]?=none:=by
      rw[Array.getElem?_eq_none_iff,<-h.1];simpa using i
     rw[y];cases d;rfl
    | some x=>
     rw[i] at d;let⟨v,w,r⟩:=h.2 t x i;rw[w];simp only at d;split at d
     .rename_i n;rw[r.lit_inv];cases d;cases n<;>cases A<;>rfl
     .rename_i u l;rw[r.lit_inv];cases d;split
      .rename_i n m;cases m;exact (l n rfl).elim
      .rfl
     .cases d
   .cases e
theorem kT[aF](j:Bh P T cf)(k:nH P T){i:Nat}{ao:bE}{st':St}{K:Act->World->Prop}(n:bX (aJ T) c)(d:TR (aJ T) c tm a.tmps)(g:fl<=c.H.length)(u:ops[i]?=some o)(e:nN P T ops ao o=true)(b:cH P cf fl ao ⟨tm,c.H⟩=some st')(l:∀a' c',c'.H=st'.heap->bW fl c c'->bX (aJ T) c'->TR (aJ T) c' st'.tmps a'.tmps->a'.defers=a.defers->(∃x v,st'.tmps=hM tm o.dst x/\a'=a.put o.dst v/\RV (aJ T) c' x v)->K a' c'.w):
 wpOp P ops Q i K a c.w:=by
 simp only[nN,Zd,ZC] at e;let⟨⟨r,q⟩,h⟩:=e;unfold wpOp;rw[u];simp only;unfold cH at b;rw[r] at b;split at b
 .rename_i f;rw[Jp d q f];simp only[Zz];split at b
  .rename_i v H he;cases b;left;refine aG7 j k n d g h he K Q ?_;intro cv c' t m s p;exact l _ c' t m s ((d.step m).put p) (hJ _ _ _) ⟨v,cv,rfl,rfl,p⟩
  .cases b
 .rename_i f;rw[Jp d q f];simp only[Zn,Z9];cases b;exact l _ c rfl (bW.refl _ _) n (d.put<|RV.lit _) (hJ _ _ _) ⟨_,_,rfl,rfl,RV.lit _⟩
 .cases b
theorem Ca[aF](h:Bh P T cf)(l:nH P T): ∀(aops:List bE) (os:List Oper) (k:Nat) (c:dA) (a:Act) (tm:List AV) (st':St),
 Ay P T ops aops os=true->(∀j o,os[j]?=some o->ops[k+j]?=some o)->bX (aJ T) c->TR (aJ T) c tm a.tmps->fl<=c.H.length->iN P cf fl aops ⟨tm,c.H⟩=some st'->
 (∀a' c',c'.H=st'.heap->bW fl c c'->bX (aJ T) c'->TR (aJ T) c' st'.tmps a'.tmps->a'.defers=a.defers->Q .normal a' c'.w)->wpOps P ops Q (List.range' k aops.length) a c.w
 | [],[],k,c,a,tm,st',_,_,s,f,_,d,n=>by
  simp only[iN,Za] at d;subst d;exact n a c rfl (bW.refl _ _) s f rfl
 | ao::r,o::os,k,c,a,tm,st',b,e,s,f,i,d,n=>by
  simp only[Ay,Zd] at b;simp only[iN] at d;split at d
  .rename_i g x;simp only[Yc,List.range'_succ,Y3];refine kT h l s f i (e 0 o<|by simp) b.1 x ?_;intro a' c' t e2 y u z _;have:(⟨g.tmps,c'.H⟩:St)=g:=by rw[t]
   refine Ca h l r os (k+1) c' a' g.tmps st' b.2 (λj p B=>?_) y u (ZB i e2.len) (by rw[this];exact d) ?_
   .have:=e (j+1) p (by simpa using B);rwa [show k+(j+1)=k+1+j by omega] at this
   .intro q m f1 f2 A v C;exact n q m f1 (e2.trans f2) A v<|C.trans z
  .cases d
 | [],_::_,_,_,_,_,_,b,_,_,_,_,_,_=>by cases b
 | _::_,[],_,_,_,_,_,b,_,_,_,_,_,_=>by cases b
end
end
section
variable {P:Program}{T:List cS}{cf:Nat->Nat->List AV->aW->Option (AV×aW)}{fl:Nat}
theorem E5[aF]{t:Nat}: ∀{a:List bB},bB.tmp t∈a->t∈Og a
 | x::r,h=>by
  rcases ZN.1 h with e | b
  .subst e;simp[Og]
  .have c:=E5 b;cases x<;>simp[Og,c]
theorem aCr[aF]{tm a:List AV}{b:List bB}(h:∀t∈Og b,tm[t]?=a[t]?): ∀x∈b,aG tm x=aG a x:=by
 intro x d;cases x with
 | tmp t=>simp only[aG,h t<|E5 d]
 | _=>rfl
theorem qA[aF]{tm a:List AV}{x:Option bB}(h:∀y∈aGf x,aG tm y=aG a y): eC tm x=eC a x:=by
 cases x with
 | none=>rfl
 | some y=>simp only[eC,h y<|by simp[aGf]]
theorem aG8[aF]{tm a:List AV}{H:aW}{k:Jn}(h:∀x∈vO k,aG tm x=aG a x): aL P cf fl k tm H=aL P cf fl k a H:=by
 cases k with
 | build z c=>
  have e:(c.map λ(p:Nat×Nat×bB)=>(p.1,p.2.1,aG tm p.2.2))=c.map λ(p:Nat×Nat×bB)=>(p.1,p.2.1,aG a p.2.2):=by
   apply ZS;intro p B;rw[h p.2.2<|by simp only[vO,Yh];exact⟨p,B,rfl⟩]
  simp only[aL];have w:(c.map λ(o,s,x)=>(o,s,aG tm x))=c.map λ(o,s,x)=>(o,s,aG a x):=e;rw[w]
 | buildSl pu s n z c=>
  have w:(c.map λ(i,x)=>(i,aG tm x))=c.map λ(i,x)=>(i,aG a x):=by
   apply ZS;intro p B;show (p.1,aG tm p.2)=(p.1,aG a p.2);rw[h p.2<|by simp only[vO,Yh];exact⟨p,B,rfl⟩]
  simp only[aL];rw[w]
 | slice s x F l mx=>
  simp only[vO] at h;simp only[aL];rw[h x<|by simp,qA λy b=>h y<|by simp[b],qA (x:=l) λy b=>h y<|by simp[b],qA (x:=mx) λy b=>h y<|by simp[b]]
 | strSlice t x F l=>
  simp only[vO] at h;simp only[aL];rw[h x<|by simp,qA λy b=>h y<|by simp[b],qA (x:=l) λy b=>h y<|by simp[b]]
 | minmax mx d=>
  simp only[vO] at h;simp only[aL];rw[ZS h]
 | mkFn vi d=>
  simp only[vO] at h;simp only[aL];rw[ZS h]
 | call pu vi d=>
  simp only[vO] at h;simp only[aL];rw[ZS h]
 | callF vi d=>
  simp only[vO] at h;simp only[aL];rw[ZS h]
 | callT s vi d=>
  simp only[vO] at h;simp only[aL];rw[ZS h]
 | callB vi d=>
  simp only[vO] at h;simp only[aL];rw[ZS h]
 | callS vi d=>
  simp only[vO] at h;simp only[aL];rw[ZS h]
 | callv pu x d=>
  simp only[vO] at h;simp only[aL];rw[h x<|by simp,ZS λy b=>h y<|by simp[b]]
 | _=>
  simp only[vO,ZN,List.not_mem_nil,or_false,forall_eq_or_imp,forall_eq,false_imp_iff,implies_true] at h;simp[aL,h]
theorem aDk[aF]{tm a:List AV}{g:Option<|Nat×Bool}(h:∀t b,g=some (t,b)->tm[t]?=a[t]?): eD tm g=eD a g:=by
 cases g with
 | none=>rfl
 | some q=>
  let⟨t,b⟩:=q;simp only[eD,aG,h t b rfl]
theorem KV[aF]{tm c:List AV}{H:aW}{o:bE}{st':St}(h:∀t∈DP o,tm[t]?=c[t]?)(a:cH P cf fl o ⟨c,H⟩=some st'):
 ∃x,st'.tmps=hM c o.dst x/\cH P cf fl o ⟨tm,H⟩=some ⟨hM tm o.dst x,st'.heap⟩:=by
 have f:eD tm o.guard=eD c o.guard:=aDk λt b e=>h t (by simp[DP,e]);have g:aL P cf fl o.op tm H=aL P cf fl o.op c H:=aG8<|aCr λt d=>h t (by
  unfold DP;split
  .simp[d]
  .exact d)
 unfold cH at a |-;simp only[f,g] at a |-;split at a
 .split at a
  .rename_i v H1 he;cases a;exact⟨v,rfl,rfl⟩
  .cases a
 .cases a;exact⟨_,rfl,rfl⟩
 .cases a
theorem I6[aF]{tm:List AV}{H H':aW}{f:Jn}{v:AV}(b:fE f=true)(a:aL P cf fl f tm H=some (v,H')): H'=H:=by
 cases f with
 | call pu vi h=>
  simp only[fE] at b;subst b;simp only[aL,Eb] at a;split at a<;>split at a<;>cases a<;>rfl
 | callv pu x h=>
  simp only[fE] at b;subst b;simp only[aL,Eb] at a;split at a
  .split at a<;>split at a<;>cases a<;>rfl
  .cases a
 | buildSl pu s n z i=>
  simp only[fE] at b;subst b;simp only[aL,Zz] at a;split at a<;>cases a;rfl
 | lookup kt z m k ok=>
  simp only[aL] at a;split at a
  .split at a
   .split at a
    .split at a<;>cases a;rfl
    .cases a;rfl
    .cases a
   .split at a
    .split at a
     .split at a<;>cases a;rfl
     .cases a;rfl
     .cases a
    .cases a
   .split at a
    .split at a<;>cases a;rfl
    .cases a;rfl
    .cases a
   .cases a
  .cases a
 | _=>
  first
  | (simp[fE] at b;done)
  | (simp only[aL] at a;(repeat' split at a)<;>first | (cases a;rfl) | cases a)
theorem KU[aF]{st st':St}{o:bE}(b:fE o.op=true)(a:cH P cf fl o st=some st'): st'.heap=st.heap:=by
 unfold cH at a;split at a
 .split at a
  .rename_i v H he;cases a;exact I6 b he
  .cases a
 .cases a;rfl
 .cases a
theorem aDs[aF]: ∀(aops:List bE) (st st':St),iN P cf fl aops st=some st'->
 ∃S:Nat->St,S 0=st/\S aops.length=st'/\∀k ao,aops[k]?=some ao->cH P cf fl ao (S k)=some (S<|k+1)
 | [],st,st',h=>by
  simp only[iN,Za] at h;exact⟨λ_=>st,rfl,h,λk ao a=>by simp at a⟩
 | o::r,st,st',h=>by
  simp only[iN] at h;split at h
  .rename_i b e;let⟨S,c,e2,d⟩:=aDs r b st' h;refine⟨λk=>match k with | 0=>st | k+1=>S k,rfl,by simpa using e2,λk ao a=>?_⟩;cases k with
   | zero=>
    simp only[Zt,Za] at a;subst a;rw[e,<-c]
   | succ k=>
    simp only[ZL] at a;exact d k ao a
  .cases h
def LS(aops:List bE)(k:Nat): Option Nat:=match aops[k]? with | some o=>o.dst | none=>none
def iW(aops:List bE)(tm:List AV)(val:Nat->AV)(D:Nat->Bool): Nat->List AV
 | 0=>tm
 | n+1=>if D n then hM (iW aops tm val D n) (LS aops n) (val n) else iW aops tm val D n
theorem SV(tm:List AV)(d:Option Nat)(x:AV): (hM tm d x).length=tm.length:=by cases d<;>simp[hM]
theorem fM[aF]{aops:List bE}{tm:List AV}{val:Nat->AV}{D:Nat->Bool}: ∀n,(iW aops tm val D n).length=tm.length
 | 0=>rfl
 | n+1=>by
  simp only[iW];split
  .rw[SV,fM n]
  .exact fM n
theorem yJ{tm:List AV}{d:Option Nat}{x:AV}{t:Nat}: (hM tm d x)[t]?=if d=some t then (if t<tm.length then some x else none) else tm[t]?:=by
 cases d with
 | none=>simp[hM]
 | some d=>
  simp only[hM,Z5,Za];by_cases e:d=t
  .subst e;rfl
  .simp[e]
theorem Re[aF]{aops:List bE}{tm:List AV}{val:Nat->AV}{D D':Nat->Bool}{t:Nat}: ∀n,(∀j,j<n->LS aops j=some t->D j=D' j)->(iW aops tm val D n)[t]?=(iW aops tm val D' n)[t]?
 | 0,_=>rfl
 | n+1,h=>by
  have d:=Re (val:=val) (tm:=tm) n λj e b=>h j (by omega) b;simp only[iW];by_cases b:LS aops n=some t
  .rw[h n (by omega) b];split
   .simp only[yJ,b,Zz,fM]
   .exact d
  .have c:∀l:List AV,(hM l (LS aops n)<|val n)[t]?=l[t]?:=λl=>by rw[yJ,ZF b]
   split<;>split<;>(try simp only[c])<;>exact d
theorem TI[aF]{aops:List bE}{tm:List AV}{val:Nat->AV}{D D':Nat->Bool}: ∀n,(∀j,j<n->D j=D' j)->iW aops tm val D n=iW aops tm val D' n
 | 0,_=>rfl
 | n+1,h=>by
  simp only[iW,h n<|by omega,TI n λj a=>h j<|by omega]
theorem I3[aF]{aops:List bE}{tm:List AV}{val:Nat->AV}{D:Nat->Bool}{t k:Nat}(f:D k=true)(d:LS aops k=some t): ∀n,k<n->(∀j,k<j->j<n->LS aops j=some t->D j=false)->
 (iW aops tm val D n)[t]?=if t<tm.length then some (val k) else none
 | 0,h,_=>by omega
 | n+1,l,h=>by
  simp only[iW];by_cases e:k=n
  .subst e;rw[Zu f,yJ,Zu d,fM]
  .have c:=I3 (tm:=tm) (val:=val) f d n (by omega) λj g m i=>h j g (by omega) i;by_cases b:LS aops n=some t
   .rw[h n (by omega) (by omega) b];simpa using c
   .split
    .rw[yJ,ZF b];exact c
    .exact c
theorem Tp[aF]{aops:List bE}{tm:List AV}{val:Nat->AV}{S:Nat->St}(b:(S 0).tmps=tm)(a:∀k ao,aops[k]?=some ao->(S<|k+1).tmps=hM (S k).tmps ao.dst (val k)):
 ∀n,n<=aops.length->iW aops tm val (λ_=>true) n=(S n).tmps
 | 0,_=>b.symm
 | n+1,h=>by
  have c:n<aops.length:=by omega
  simp only[iW,Zz,Tp b a n<|by omega];rw[a n aops[n]<|by simp];simp[LS,c]
theorem Cp[aF]{aops:List bE}{tm:List AV}{val:Nat->AV}{D:Nat->Bool}{k:Nat}: ∀n,k<=n->(∀j,k<=j->j<n->D j=false)->iW aops tm val D n=iW aops tm val D k
 | 0,h,_=>by have:k=0:=(by omega);rw[this]
 | n+1,h,b=>by
  by_cases e:k=n+1
  .rw[e]
  .simp only[iW,b n (by omega)<|by omega];simpa using Cp n (by omega) λj c d=>b j c<|by omega
theorem KK[aF]{aops:List bE}{tm:List AV}{val:Nat->AV}{S:Nat->St}{D:Nat->Bool}{k n:Nat}(c:(S 0).tmps=tm)(a:∀k ao,aops[k]?=some ao->(S<|k+1).tmps=hM (S k).tmps ao.dst (val k))(d:k<=n)(f:n<=aops.length)(e:∀j,j<k->D j=true)(b:∀j,k<=j->j<n->D j=false): iW aops tm val D n=(S k).tmps:=by
 rw[Cp n d b,TI (D':=λ_=>true) k e];exact Tp c a k<|by omega
theorem aA6[aF]{a:List Nat}{i:Nat}: ∀{ds:List Nat},(JC a ds).testBit i=true->∃d∈ds,i=d\/(a.getD d 0).testBit i=true
 | [],h=>by simp[JC] at h
 | d::r,h=>by
  simp only[JC,Nat.testBit_or,YU] at h;rcases h with (h | h) | h
  .have:d=i:=by simpa [Nat.testBit_two_pow] using h
   exact⟨d,by simp,.inl this.symm⟩
  .exact⟨d,by simp,.inr h⟩
  .let⟨e,c,b⟩:=aA6 h;exact⟨e,by simp[c],b⟩
def aMA(ops:List Oper)(k:Nat): List Nat:=match ops[k]? with
 | some o=>(o.after.toList.filter λe=>Region.binds .any e&&decide (e.on<k)).map λ(e:Edge)=>e.on
 | none=>[]
theorem aBm[aF]{ops:List Oper}: ∀(n:Nat) (a:List Nat),(∃L,tK ops n a=a++L/\L.length=n) /\
 ∀k,a.length<=k->k<a.length+n->(tK ops n a).getD k 0=JC ((tK ops n a).take k) (aMA ops k)
 | 0,a=>⟨⟨[],by simp[tK],rfl⟩,λk c d=>by omega⟩
 | n+1,a=>by
  let⟨⟨L,c,d⟩,h⟩:=aBm (ops:=ops) n<|a++[JC a<|aMA ops a.length];have e:tK ops (n+1) a=tK ops n (a++[JC a<|aMA ops a.length]):=rfl;rw[e];refine⟨⟨JC a (aMA ops a.length)::L,by rw[c];simp,by simp[d]⟩,λk i f=>?_⟩;by_cases g:k=a.length
  .subst g;rw[c];simp[YS]
  .exact h k (by simp;omega)<|by simp;omega
theorem aFk[aF]{ops:List Oper}{k i:Nat}(g:k<ops.length)(h:((tK ops ops.length []).getD k 0).testBit i=true):
 ∃o,ops[k]?=some o/\∃e∈o.after,Region.binds .any e=true/\e.on<k/\(i=e.on\/((tK ops ops.length []).getD e.on 0).testBit i=true):=by
 let⟨_,j⟩:=aBm (ops:=ops) ops.length [];rw[j k (by simp)<|by simpa using g] at h;let⟨d,f,a⟩:=aA6 h;unfold aMA at f;rw[Zb g] at f;simp only[Yh,List.mem_filter,Zd,Z4] at f;obtain⟨e,⟨he,l,b⟩,rfl⟩:=f;refine⟨ops[k],Zb g,e,by simpa using he,l,b,?_⟩;rcases a with a | a
 .exact .inl a
 .right;rw[<-a];congr 1;simp only[YS];rw[Zs,Zu b]
theorem gS[aF]{f:Nat}{aops:List bE}{an:List Nat}: ∀n,Bz f aops an n=true->∀i j,i<j->j<n->(an.getD j 0).testBit i=true \/
 (((bJ aops i=true\/bJ aops j=true)\/(i=f/\j=f+1/\eB aops i=true/\eB aops j=true))/\∃x y,aops[i]?=some x/\aops[j]?=some y/\CG x y=false/\CG y x=false)
 | 0,_,i,j,_,h=>by omega
 | n+1,h,i,j,d,p=>by
  simp only[Bz,Zd] at h;by_cases e:j=n
  .subst e;have:=Yl.1 h.2 i (by simpa using d);simp only[YU,Zd,ZC] at this;rcases this with a | ⟨a,c⟩
   .exact .inl a
   .right;refine⟨by rcases a with a | ⟨⟨⟨a,g⟩,k⟩,l⟩;exact .inl a;exact .inr ⟨a,g,k,l⟩,?_⟩;split at c
    .rename_i x y m o;simp only[Zd,YG] at c;exact⟨x,y,m,o,c.1,c.2⟩
    .cases c
  .exact gS n h.1 i j d<|by omega
theorem SP{aops:List bE}{e:List<|Nat×Nat}{an:List Nat}{n k m:Nat}(h:aB5 aops e an n=true)(g:k<n)(f:m<n)(c:bJ aops k=true)(d:bJ aops m=false):
 fR aops k=true\/(an.getD k 0).testBit m=true\/(an.getD m 0).testBit k=true\/(k,m)∈e:=by
 have b:=Yl.1 h k (by simpa using g);simp only[YU,c,Xg,Zn,or_false] at b;rcases b with b | b
 .exact .inl b
 .have a:=Yl.1 b m (by simpa using f);simp only[YU,d,Zn,false_or] at a;rcases a with (a | a) | a
  .exact .inr<|.inl a
  .exact .inr<|.inr<|.inl a
  .exact .inr<|.inr<|.inr<|by simpa using a
theorem KW[aF]{tm:List AV}{H H':aW}{c:Jn}{v:AV}{H1:aW}(d:xN c=true)(a:aL P cf fl c tm H=some (v,H1)): aL P cf fl c tm H'=some (v,H'):=by
 cases c with
 | buildSl pu s n z e=>
  simp only[xN] at d;subst d;simp only[aL,Zz] at a |-;split at a<;>cases a;rfl
 | _=>
  first
  | (simp[xN] at d;done)
  | (simp only[aL] at a |-;(repeat' split at a)<;>first | (cases a;rfl) | (cases a;simp_all) | cases a)
theorem T5{H H':aW}{x:AV}{n:Nat}(h:∀id,TD x=some id->H'[id]?=H[id]?): eA H' x n=eA H x n:=by
 cases x<;>try rfl
 rename_i id tot a off;simp only[eA,h id rfl]
theorem aB7{H H':aW}{s:Nat}{x:AV}{a b mx:Option Nat}(h:∀id,TD x=some id->H'[id]?=H[id]?): gY H' s x a b mx=gY H s x a b mx:=by
 cases x with
 | ms id tot off len=>simp only[gY,h id rfl]
 | lit v=>unfold gY;split<;>rename_i d<;>first | rfl | cases d
 | _=>rfl
theorem SQ{H H':aW}{x:AV}(h:Kr x=true): gN H 0 x=gN H' 0 x:=by
 cases x with
 | fn v caps=>cases caps<;>rfl
 | _=>first | rfl | (simp[Kr] at h)
theorem aD9[aF]{H H':aW}{x:AV}(h:sI x=true): dZ H 0 x=dZ H' 0 x:=by
 cases x with
 | agg cs=>
  simp only[sI] at h;simp only[dZ];congr 1;exact ZS λy a=>SQ<|DH h y a
 | _=>exact SQ (H:=H) (H':=H')<|by simpa [sI] using h
theorem Dm[aF]{tm:List AV}{H H':aW}{l:Jn}{v:AV}{H1:aW}{r:Option Nat}(b:cY l tm=some r)(d:∀id,r=some id->H'[id]?=H[id]?)(a:aL P cf fl l tm H=some (v,H1)): aL P cf fl l tm H'=some (v,H'):=by
 cases l with
 | load agg n x=>
  simp only[cY,Za] at b;simp only[aL,T5 (H:=H) (H':=H') (x:=aG tm x) λid h=>d id<|by rw[<-b];exact h] at a |-;split at a
  .split at a
   .cases a;simp_all
   .split at a
    .cases a;simp_all
    .cases a
  .cases a
 | idxAddr s x i=>
  simp only[cY,Za] at b;simp only[aL] at a |-;split at a
  .split at a
   .split at a
    .split at a
     .cases a;simp_all
     .cases a
    .cases a
   .split at a
    .split at a
     .cases a;simp_all
     .cases a
    .cases a
   .rename_i id tot off len j;rw[d id<|by rw[<-b,j];rfl];split at a
    .split at a
     .cases a;simp_all
     .cases a
    .cases a
   .cases a
  .cases a
 | slice s x K G mx=>
  simp only[cY,Za] at b;simp only[aL,aB7 (H:=H) (H':=H') (x:=aG tm x) λid h=>d id<|by rw[<-b];exact h] at a |-;split at a
  .split at a
   .cases a;simp_all
   .cases a
  .cases a
 | lookup kt z m k ok=>
  simp only[cY,Za] at b;simp only[aL] at a |-;split at a
  .rename_i J E;split at a
   .rename_i w;split at a
    .split at a<;>cases a;simp_all
    .cases a;simp_all
    .cases a
   .rename_i id w;rw[d id<|by rw[<-b,w];rfl];split at a
    .rename_i C D;split at a
     .split at a<;>cases a;simp_all
     .cases a;simp_all
     .cases a
    .cases a
   .rename_i w;split at a
    .split at a<;>cases a;simp_all
    .cases a;simp_all
    .cases a
   .cases a
  .cases a
 | lenM x=>
  simp only[cY,Za] at b;simp only[aL] at a |-;split at a
  .cases a;simp_all
  .rename_i id j;rw[d id<|by rw[<-b,j];rfl];split at a
   .cases a;simp_all
   .cases a
  .cases a;simp_all
  .cases a
 | call pu vi c=>
  cases pu with
  | false=>simp[cY] at b
  | true=>
   simp only[cY] at b;split at b
   .rename_i f;simp only[aL,Eb,f] at a |-;split at a<;>cases a;simp_all
   .cases b
 | callB vi c=>
  simp only[cY] at b;split at b
  .rename_i x;have e:cL H' (aG tm x)=cL H (aG tm x):=by
    split at b<;>first | (rename_i h;rw[h];rfl) | cases b
   simp only[aL,ZE,Yn,e] at a |-;split at a<;>cases a;simp_all
  .cases b
 | callS vi c=>
  simp only[cY] at b;split at b
  .rename_i f;have e:(c.map<|aG tm).map (dZ H' 0)=(c.map<|aG tm).map (dZ H 0):=ZS λy F=>aD9<|Kq f y F;simp only[aL,e] at a |-;split at a
   .rename_i r I he;split at a
    .rename_i d;cases a;simp[he,d]
    .cases a
   .cases a
  .cases b
 | callv pu x c=>
  cases pu with
  | false=>simp[cY] at b
  | true=>
   simp only[cY] at b;split at b
   .rename_i vi caps j;split at b
    .rename_i f;simp only[aL,j,Eb,f] at a |-;split at a<;>cases a;simp_all
    .cases b
   .cases b
 | _=>simp[cY] at b
theorem F8{s:Nat}{H H':aW}{r:AV}{q:Option<|AV×aW}(h:BT s H q=some (r,H')): ∃o,H'=H++[o]:=by
 unfold BT at h;repeat' split at h
 all_goals first
  | (cases h;done)
  | (cases h;exact⟨_,rfl⟩)
theorem aGP{a b:Nat}(h:Nat.blt a b=true): a<b:=Zj h
theorem tO[aF]{H:aW}{L:List dI}{id:Nat}(h:Nat.blt id H.length=true): (H++L)[id]?=H[id]?:=Zo<|aGP h
theorem KC{H:aW}{o:dI}{i id:Nat}(h:(!Nat.beq i id)=true): (H.set i o)[id]?=H[id]?:=by
 have:i≠id:=by
  intro e;subst e;simp at h
 rw[Zv this]
theorem V7[aF]{H H':aW}{s bytes id:Nat}{x r:AV}{ys:List<|List AV}(b:(match x with | .ms i _ _ _=>!Nat.beq i id | _=>Nat.blt id H.length)=true)(a:cR fl H s bytes x ys=some (r,H')): H'[id]?=H[id]?:=by
 unfold cR at a;split at a
 .split at a
  .split at a<;>cases a
   .rfl
   .exact tO b
  .split at a
   .cases a;rfl
   .split at a<;>cases a;exact tO b
  .split at a
   .split at a
    .split at a
     .cases a;rfl
     .split at a
      .split at a
       .cases a;exact KC b
       .split at a
        .cases a;exact KC b
        .cases a
      .cases a
    .cases a
   .cases a
  .cases a
 .cases a
def tM(cf:Nat->Nat->List AV->aW->Option (AV×aW)): Prop:=∀fl n vi args H r H',(fl<=n/\n<=H.length)->cf fl vi args H=some (r,H')->H'.take fl=H.take fl/\n<=H'.length
theorem I7[aF](B:tM cf){tm:List AV}{H H':aW}{A:Jn}{v:AV}{id:Nat}(e:kY A tm H.length id=true)(a:aL P cf fl A tm H=some (v,H')): H'[id]?=H[id]?:=by
 cases A with
 | alloc z=>simp only[aL] at a;cases a;exact tO e
 | claim s=>simp only[aL] at a;cases a;exact tO e
 | allocC z M=>simp only[aL] at a;cases a;rw[Ye];exact tO e
 | box x=>
  simp only[aL] at a;split at a<;>cases a;exact tO e
 | boxC x M=>
  simp only[aL] at a;split at a
  .split at a<;>cases a;rw[Ye];exact tO e
  .cases a
 | buildSl pu s n z L=>
  simp only[aL] at a;split at a
  .split at a<;>cases a
   .rfl
   .exact tO e
  .cases a
 | mkSlice s z b l c=>
  simp only[aL] at a;split at a
  .split at a<;>cases a;exact tO e
  .cases a
 | mkMap=>simp only[aL] at a;cases a;exact tO e
 | callT s vi f=>
  simp only[aL] at a;obtain⟨o,rfl⟩:=F8 a;exact Zo<|aGP e
 | callF vi f=>
  simp only[aL] at a;let⟨F,G⟩:=B _ _ _ _ _ _ _ ⟨Zf _,Zf _⟩ a;have j:=aGP e;have:(H'.take H.length)[id]?=(H.take H.length)[id]?:=by rw[F]
  rw[Zs,Zs,Zu j,Zu j] at this;exact this
 | store n x u=>
  simp only[kY] at e;simp only[aL] at a;split at a
  .split at a
   .split at a
    .rename_i N d;cases a;unfold wY at d;split at d
     .rename_i i tot J off K;rw[K] at e;split at d
      .split at d
       .split at d
        .split at d
         .split at d<;>cases d;exact KC e
         .cases d
        .cases d
       .cases d
      .cases d
     .cases d
    .cases a
   .cases a
  .cases a
 | append s b x y=>
  simp only[kY] at e;simp only[aL] at a;split at a
  .exact V7 e a
  .cases a
 | mapUpd kt m k x=>
  simp only[kY] at e;simp only[aL] at a;split at a
  .rename_i O i F G;rw[G] at e;split at a
   .split at a
    .split at a
     .split at a
      .split at a<;>cases a;exact KC e
      .cases a
     .cases a;exact KC e
     .cases a
    .cases a
   .cases a
  .cases a
 | _=>simp[kY] at e
theorem Se{x y:bE}{d:Nat}(h:CG x y=false)(a:x.dst=some d): d∉DP y/\y.dst≠some d:=by
 unfold CG at h;rw[a] at h;simp only[WU,X5,Ww] at h;refine⟨λb=>?_,h.2⟩;have:(DP y).contains d=true:=by simpa using b
 rw[this] at h;cases h.1
def Fr(fl n:Nat)(H H':aW): Prop:=H'.take fl=H.take fl/\n<=H'.length
theorem Fr.refl{n:Nat}{H:aW}(h:fl<=n/\n<=H.length): Fr fl n H H:=⟨rfl,h.2⟩
theorem Fr.go{n m:Nat}{H H':aW}(h:fl<=n/\n<=m)(k:Fr fl n H H'): fl<=n/\n<=H'.length:=⟨h.1,k.2⟩
theorem Fr.trans{n:Nat}{a b c:aW}(h:Fr fl n a b)(k:Fr fl n b c): Fr fl n a c:=⟨k.1.trans h.1,k.2⟩
theorem Fr.app{n:Nat}{H L:aW}(h:fl<=n/\n<=H.length): Fr fl n H<|H++L:=⟨Yg<|ZB h.1 h.2,by simp;omega⟩
theorem Fr.set{n:Nat}{H:aW}{i:Nat}{o:dI}(h:fl<=n/\n<=H.length)(a:fl<=i): Fr fl n H<|H.set i o:=⟨X6 a,by simpa using h.2⟩
theorem M7[aF]{m:Nat}{H H':aW}{s bytes:Nat}{x r:AV}{ys:List<|List AV}(h:fl<=m/\m<=H.length)(a:cR fl H s bytes x ys=some (r,H')): Fr fl m H H':=by
 unfold cR at a;split at a
 .split at a
  .split at a<;>cases a
   .exact .refl h
   .exact .app h
  .split at a
   .cases a;exact .refl h
   .split at a<;>cases a;exact .app h
  .split at a
   .split at a
    .split at a
     .cases a;exact .refl h
     .split at a
      .rename_i b;split at a
       .cases a;exact .set h b
       .split at a
        .cases a;exact .set h b
        .cases a
      .cases a
    .cases a
   .cases a
  .cases a
 .cases a
theorem aC6[aF](g:tM cf){m:Nat}{tm:List AV}{H H':aW}{J:Jn}{v:AV}(h:fl<=m/\m<=H.length)(a:aL P cf fl J tm H=some (v,H')): Fr fl m H H':=by
 by_cases w:fE J=true
 .rw[I6 w a];exact .refl h
 .cases J with
  | alloc z=>simp only[aL] at a;cases a;exact .app h
  | claim s=>simp only[aL] at a;cases a;exact .app h
  | allocC z T=>simp only[aL] at a;cases a;rw[Ye];exact .app h
  | box x=>simp only[aL] at a;split at a<;>cases a;exact .app h
  | boxC x M=>
   simp only[aL] at a;split at a
   .split at a<;>cases a;rw[Ye];exact .app h
   .cases a
  | buildSl pu s n z U=>
   simp only[aL] at a;split at a
   .split at a<;>cases a
    .exact .refl h
    .exact .app h
   .cases a
  | mkSlice s z b l c=>
   simp only[aL] at a;split at a
   .split at a<;>cases a;exact .app h
   .cases a
  | mkMap=>simp only[aL] at a;cases a;exact .app h
  | rangeStr x=>simp only[aL] at a;split at a<;>cases a;exact .app h
  | nextStr x=>
   simp only[aL] at a;split at a
   .split at a
    .rename_i e;split at a
     .split at a<;>cases a
      .exact .set h e
      .exact .refl h
     .cases a
    .cases a
   .cases a
  | store n x u=>
   simp only[aL] at a;split at a
   .split at a
    .split at a
     .rename_i V d;cases a;unfold wY at d;split at d
      .split at d
       .rename_i e;split at d
        .split at d
         .split at d
          .split at d<;>cases d;exact .set h e
          .cases d
         .cases d
        .cases d
       .cases d
      .cases d
     .cases a
    .cases a
   .cases a
  | append s b x y=>
   simp only[aL] at a;split at a
   .exact M7 h a
   .cases a
  | appendZ s b z x n=>
   simp only[aL] at a;split at a
   .split at a
    .exact M7 h a
    .cases a
   .cases a
  | mapUpd kt m k x=>
   simp only[aL] at a;split at a
   .split at a
    .rename_i e;split at a
     .split at a
      .split at a
       .split at a<;>cases a;exact .set h e
       .cases a
      .cases a;exact .set h e
      .cases a
     .cases a
    .cases a
   .cases a
  | delete kt m k=>
   simp only[aL] at a;split at a
   .split at a
    .rename_i e;split at a
     .split at a
      .cases a;exact .set h e
      .cases a;exact .refl h
      .cases a
     .cases a
    .cases a
   .cases a
  | copy s x y=>
   simp only[aL] at a;split at a
   .split at a
    .split at a
     .split at a
      .split at a
       .rename_i e;split at a<;>cases a
        .exact .refl h
        .exact .set h e.2.2.2
       .cases a
      .cases a
     .cases a
    .cases a
   .cases a
  | clear s z x=>
   simp only[aL] at a;split at a
   .cases a;exact .refl h
   .cases a;exact .refl h
   .split at a
    .split at a
     .rename_i e;split at a<;>cases a
      .exact .refl h
      .exact .set h e.2.2.2.1
     .cases a
    .cases a
   .cases a
  | loadF n k x=>
   simp only[aL] at a;split at a
   .split at a
    .split at a
     .rename_i e;split at a
      .split at a<;>cases a;exact .set h e
      .cases a
     .cases a
    .cases a;exact .refl h
    .cases a
   .cases a
  | freeze x=>
   simp only[aL] at a;split at a
   .split at a
    .rename_i e;split at a
     .split at a<;>cases a;exact .set h e
     .cases a
    .cases a
   .split at a
    .rename_i e;split at a
     .split at a
      .split at a<;>cases a;exact .set h e
      .cases a
     .cases a
    .cases a
   .cases a;exact .refl h
  | call pu vi f=>
   cases pu with
   | true=>simp[fE] at w
   | false=>exact g _ _ _ _ _ _ _ h a
  | callv pu x f=>
   cases pu with
   | true=>simp[fE] at w
   | false=>
    simp only[aL] at a;split at a
    .exact g _ _ _ _ _ _ _ h a
    .cases a
  | callT s vi f=>
   simp only[aL] at a;obtain⟨o,rfl⟩:=F8 a;exact .app h
  | callF vi f=>
   simp only[aL] at a;let⟨Q,R⟩:=g _ _ _ _ _ _ _ ⟨Zf _,Zf _⟩ a;refine⟨?_,ZB h.2 R⟩;have:(H'.take H.length).take fl=(H.take H.length).take fl:=by rw[Q]
   rwa [Y9,Y9,Yq<|ZB h.1 h.2] at this
  | _=>simp[fE] at w
theorem aAT[aF](b:tM cf){m:Nat}{o:bE}{st st':St}(h:fl<=m/\m<=st.heap.length)(a:cH P cf fl o st=some st'): Fr fl m st.heap st'.heap:=by
 unfold cH at a;split at a
 .split at a
  .rename_i v H he;cases a;exact aC6 b h he
  .cases a
 .cases a;exact .refl h
 .cases a
end
section
structure Ph(c:dA)(id s:Nat)(es:List (List AV)): Prop where
 h:c.H[id]?=some (.blk s es)
 b:c.β id=none
 n:0<es.length
def phC(c:dA)(w':World)(id:Nat): dA:=⟨w',c.X,upd c.β id c.w.heap.size,c.H⟩
variable {FT:Nat->Option Nat}{b:Nat}{c:dA}{es:List (List AV)}{fl i id:Nat}{o ob:Obj}{s:Nat}{tm:List AV}{w':World}
section
variable [aF]
theorem aHH(p:Ph c id s es)(h:c.β i=some b): i≠id:=λe=>by
 subst e
 rw[p.b] at h
 cases h
theorem Ps(hw:w'.heap=c.w.heap.push ob){k:Nat}(h:c.w.heap[k]?=some o): w'.heap[k]?=some o:=by
 have:k<c.w.heap.size:=by
  rcases ZI k c.w.heap.size with g | g
  .exact g
  .rw[Yb g] at h;cases h
 rw[hw,ZU,ZF (by omega)]
 exact h
theorem aFW(p:Ph c id s es)(hw:w'.heap=c.w.heap.push ob)(v:Vis c b)(h:c.w.heap[b]?=some o): Vis (phC c w' id) b:=λi e=>by
 by_cases q:i=id
 .subst q
  have e:upd c.β i c.w.heap.size i=some b:=e
  rw[dF] at e
  cases e
  rw[Yb (Zf _)] at h
  cases h
 .have e:upd c.β id c.w.heap.size i=some b:=e
  rw[bR q] at e
  exact v i e
theorem B3(p:Ph c id s es)(hw:w'.heap=c.w.heap.push ob)(v:lE c b)(h:c.w.heap[b]?=some o): lE (phC c w' id) b/\w'.heap[b]?=some o:=⟨⟨v.1,aFW p hw v.2 h⟩,Ps hw h⟩
theorem aHG(p:Ph c id s es)(hw:w'.heap=c.w.heap.push ob){x:AV}{v:Value}(N:RV FT c x v): RV FT (phC c w' id) x v:=by
 induction N with
 | pure x v z=>exact .pure x v (z.mono λb o m g=>B3 p hw m g)
 | ms i tot off len a cap s' n k G S q=>
  refine .ms i tot off len a cap s' n k G S λe=>?_
  obtain⟨u,f⟩:=q e
  refine⟨u,?_⟩
  rcases f with⟨d,k2,l,j⟩ | ⟨b,cs,T,a',d,k2,l,j,v⟩
  .by_cases g:i=id
   .subst g
    have:shp c.H i=some (s,es.length):=by simp[shp,p.h]
    rw[this] at k
    cases k
    have:=p.n
    omega
   .exact .inl ⟨(bR g).trans d,k2,l,j⟩
  .exact .inr ⟨b,cs,T,a',(bR (aHH p d)).trans d,Ps hw k2,l,j,v⟩
 | ptr i tot C off a s' n k G q=>
  refine .ptr i tot C off a s' n k G λe=>?_
  obtain⟨b,g,Q⟩:=q e
  exact⟨b,(bR (aHH p g)).trans g,Q⟩
 | rptr cs b off cc T B d m g l z=>exact .rptr cs b off cc T B d (aFW p hw m g) (Ps hw g) l λj x E=>(z j x E).mono λb o m g=>B3 p hw m g
 | vnil a cap=>exact .vnil a cap
 | vw es b off cap cc T B s d D m g y A l z=>exact .vw es b off cap cc T B s d D (aFW p hw m g) (Ps hw g) y A l λi j x E=>(z i j x E).mono λb o m g=>B3 p hw m g
 | mp i b q g=>exact .mp i b q ((bR (aHH p g)).trans g)
 | it i b q g=>exact .it i b q ((bR (aHH p g)).trans g)
 | fn vi f caps cv d R k l _ w=>exact .fn vi f caps cv d R k l w
 | agg cs cv d k l _ w=>exact .agg cs cv d k l w
 | tup cs cv d k l _ w=>exact .tup cs cv d k l w
theorem aUn(p:Ph c id s es)(hw:w'.heap=c.w.heap.push ob){tv:Array Value}(a:TR FT c tm tv): TR FT (phC c w' id) tm tv:=
 ⟨a.1,λt x e=>let ⟨v,b,d⟩:=a.2 t x e;⟨v,b,aHG p hw d⟩⟩
theorem aR6{cs':Array Value}{T:TypeId}(l:bX FT c)(p:Ph c id s es)(hw:w'.heap=c.w.heap.push (.cells cs' T (0,0)))(u:es.length*s<=cs'.size)(O:∀i j x,bM es i j=some x->∃v,cs'[i*s+j]?=some v/\bF v=true/\RV FT c x v): bX FT (phC c w' id):=by
 have one:∀{i b:Nat},(phC c w' id).β i=some b->(i=id/\b=c.w.heap.size)\/(i≠id/\c.β i=some b):=λ{i b} h=>by
  have h:upd c.β id c.w.heap.size i=some b:=h
  by_cases e:i=id
  .subst e
   rw[dF] at h
   cases h
   exact .inl ⟨rfl,rfl⟩
  .rw[bR e] at h
   exact .inr ⟨e,h⟩
 refine⟨?_,?_,?_,?_,?_,l.lens,?_,?_,?_⟩
 .intro g cs d
  obtain⟨cc,T,m,a,r,q,k,n,t⟩:=l.gl g cs d
  obtain⟨f,e⟩:=B3 p hw r q
  exact⟨cc,T,m,a,f,e,k,n,λj x z=>(t j x z).mono λb o s' l'=>B3 p hw s' l'⟩
 .intro i j b B o
  rcases one B with⟨e1,e2⟩ | ⟨e1,e2⟩<;>rcases one o with⟨f1,f2⟩ | ⟨f1,f2⟩
  .exact e1.trans f1.symm
  .have:=l.lt f2;omega
  .have:=l.lt e2;omega
  .exact l.inj i j b e2 f2
 .intro i b h
  rcases one h with⟨e1,_⟩ | ⟨_,e2⟩
  .subst e1
   exact (Ze.1 p.h).1
  .exact l.dom i b e2
 .intro i b h
  rcases one h with⟨_,e2⟩ | ⟨_,e2⟩
  .rw[e2];exact l.fresh _ (Zf _)
  .exact l.nx i b e2
 .intro k R
  have R:w'.heap.size<=k:=R
  exact l.fresh k (by rw[hw,Xu] at R;omega)
 .intro i s' m b' g h
  rcases one h with⟨e1,e2⟩ | ⟨e1,e2⟩
  .subst e1 e2
   have g:c.H[i]?=some (.blk s' m):=g
   rw[p.h] at g
   cases g
   exact⟨cs',T,by show w'.heap[c.w.heap.size]?=_;rw[hw];simp,u,λa d x A=>let ⟨v,z,t,r⟩:=O a d x A;⟨v,z,t,aHG p hw r⟩⟩
  .obtain⟨I,U,y,J,L⟩:=l.blk i s' m b' g e2
   exact⟨I,U,Ps hw y,J,λa d x A=>let ⟨v,z,t,r⟩:=L a d x A;⟨v,z,t,aHG p hw r⟩⟩
 .intro i D b' g h
  rcases one h with⟨e1,e2⟩ | ⟨e1,e2⟩
  .subst e1
   have g:c.H[i]?=some (.mp D):=g
   rw[p.h] at g
   cases g
  .obtain⟨m,K,y,J,L⟩:=l.map i D b' g e2
   exact⟨m,K,Ps hw y,J,λa k x A=>let ⟨N,z,t,r⟩:=L a k x A;⟨N,z,t,aHG p hw r⟩⟩
 .intro i q b' g h
  rcases one h with⟨e1,e2⟩ | ⟨e1,e2⟩
  .subst e1
   have g:c.H[i]?=some (.raw q):=g
   rw[p.h] at g
   cases g
  .exact Ps hw (l.raw i q b' g e2)
theorem aOm{c0:dA}(l:bX FT c)(h:bW fl c0 c)(hn:c0.H.length<=id)(hf:fl<=c0.H.length)(hw:w'.heap=c.w.heap.push ob)(w1:w'.os=c.w.os)(w2:w'.tape=c.w.tape)(w3:w'.output=c.w.output)(w4:c.w.drawn<=w'.drawn): bW fl c0 (phC c w' id) where
 X:=h.X
 os:=w1.trans h.os
 tape:=w2.trans h.tape
 output:=w3.trans h.output
 drawn:=ZB h.drawn w4
 size:=by show c0.w.heap.size<=w'.heap.size;rw[hw,Xu];have:=h.size;omega
 len:=h.len
 frame:=λk hk v=>by
  show w'.heap[k]?=_
  rw[hw,ZU,ZF (by have:=h.size;omega)]
  exact h.frame k hk v
 img:=λi b e=>by
  have e:upd c.β id c.w.heap.size i=some b:=e
  by_cases q:i=id
  .subst q
   rw[dF] at e
   cases e
   exact .inl h.size
  .rw[bR q] at e
   exact h.img i b e
 blkS:=λi s' n k=>by
  obtain⟨n',a1,a2,a3⟩:=h.blkS i s' n k
  have ne:i≠id:=λe=>by
   subst e
   unfold shp at k
   rw[Zy hn] at k
   cases k
  refine⟨n',a1,a2,λe=>?_⟩
  obtain⟨b1,b2⟩:=a3 e
  refine⟨(bR ne).trans b1,λb cs T f g=>?_⟩
  obtain⟨cs',d1,d2⟩:=b2 b cs T f g
  exact⟨cs',Ps hw d1,d2⟩
 mpS:=λi k=>by
  obtain⟨a1,a2⟩:=h.mpS i k
  have ne:i≠id:=λe=>by
   subst e
   obtain⟨f,he,j⟩:=k
   rw[Zy hn] at he
   cases he
  exact⟨a1,(bR ne).trans a2⟩
 floor:=λi k=>by
  obtain⟨a1,a2,a3⟩:=h.floor i k
  have ne:i≠id:=by omega
  refine⟨a1,(bR ne).trans a2,λb e=>?_⟩
  have g:=a3 b e
  show w'.heap[b]?=_
  rw[<-g]
  have:b<c.w.heap.size:=l.lt (a2.trans e)
  rw[hw,ZU,ZF (by omega)]
theorem aHp(m:fl<=c.H.length): bW fl c ⟨c.w,c.X,c.β,c.H++[.blk s es]⟩:={ X:=rfl,os:=rfl,tape:=rfl,output:=rfl,drawn:=Zf _,size:=Zf _,len:=by simp,frame:=λ_ _ _=>rfl,img:=λi _ l=>.inr ⟨i,l⟩,blkS:=λid s n r=>⟨n,CW r,Zf _,λ_=>⟨rfl,λb cs T _ e=>⟨cs,e,rfl⟩⟩⟩,mpS:=λid p=>⟨Ky p,rfl⟩,floor:=λid k=>⟨Zo (by omega),rfl,λ_ _=>rfl⟩ }
theorem aRb(d:bX FT c)(hl:∀e∈es,e.length=s): bX FT ⟨c.w,c.X,c.β,c.H++[.blk s es]⟩:=by
 have st:=aHp (c:=c) (s:=s) (es:=es) (ZG _)
 refine⟨d.gl.step st,d.inj,?_,d.nx,d.fresh,?_,?_,?_,λid q b a g=>by
  have f:=d.dom id b g
  rw[Zo f] at a
  exact d.raw id q b a g⟩
 .intro id b g
  have:=d.dom id b g
  simp
  omega
 .intro id s' es' a
  rw[Yk] at a
  split at a
  .exact d.lens id s' es' a
  .have:id-c.H.length=0:=by
    have:=(Ze.1 a).1
    simp at this
    omega
   rw[this] at a
   cases a
   exact hl
 .intro id s' es' b a g
  have f:=d.dom id b g
  rw[Zo f] at a
  obtain⟨cs,T,o,y,r⟩:=d.blk id s' es' b a g
  exact⟨cs,T,o,y,λi j x t=>let ⟨v,n,p,u⟩:=r i j x t;⟨v,n,p,u.step st⟩⟩
 .intro id l b a g
  have f:=d.dom id b g
  rw[Zo f] at a
  obtain⟨es',m,o,y,r⟩:=d.map id l b a g
  exact⟨es',m,o,y,λi k x t=>let ⟨e,n,p,u⟩:=r i k x t;⟨e,n,p,u.step st⟩⟩
end
theorem V8[aF]{P:Program}{T:List cS}{a:Act}{ops:Array Oper}{d:Nat}{z:List Value}{o:Oper}{K:Act->World->Prop}{Q:Exit->Act->World->Prop}(y:bX (aJ T) c)(h:TR (aJ T) c tm a.tmps)(R:ops[i]?=some o)(b:nN P T ops ⟨some d,.alloc z,none⟩ o=true)(p:Ph c id z.length [z.map .lit])(I:∀a' w' t,w'.heap=c.w.heap.push (.cells z.toArray t (0,0))->w'.os=c.w.os->w'.tape=c.w.tape->w'.output=c.w.output->c.w.drawn<=w'.drawn->bX (aJ T) (phC c w' id)->TR (aJ T) (phC c w' id) (hM tm (some d)<|.ptr id 1 0 0) a'.tmps->a'.defers=a.defers->K a' w'):
 wpOp P ops Q i K a c.w:=by
 simp only[nN,Zd,ZC] at b;let⟨⟨J,O⟩,g⟩:=b;unfold wpOp;rw[R];simp only;have C:=Jp h O rfl;rw[C];left;simp only[cP] at g;split at g
 .rename_i t G;let⟨S,v,m,M,L,q⟩:=gM g;have k:(execOp a.eval o).run P c.w=.ok (.value<|.pointer<|some ⟨c.w.heap.size,0,none⟩) (c.w.alloc<|.cells z.toArray t (0,0)):=by
   have e:=L.symm;rw[e];simp[execOp,G,Instr.alloc,zeroValue,typeInfo,m,M,newVar,newRow]
  have hw:(c.w.alloc<|.cells z.toArray t (0,0)).heap=c.w.heap.push (.cells z.toArray t (0,0)):=rfl
  have l:bX (aJ T) (phC c (c.w.alloc<|.cells z.toArray t (0,0)) id):=aR6 y p hw (by simp) (by
   intro i j x F;obtain⟨rfl,s⟩:=RZ F;simp only[Zk,Zq] at s;obtain⟨u,A,rfl⟩:=s;exact⟨u,by simpa using A,q u<|Zg A,RV.lit _⟩)
  have I2:=I (a.put (some d) (.pointer (some ⟨c.w.heap.size,0,none⟩))) _ t hw rfl rfl rfl (Zf _) l (TR.put (aUn p hw h) (by
   refine .ptr id 1 0 0 _ z.length 1 ?_ (Zf _) λ_=>⟨c.w.heap.size,dF _ _ _,by simp⟩;simp[phC,shp,p.h])) (hJ _ _ _)
  unfold Oper.wp;rw[k];rw[J] at I2;exact I2
 .grind
end
section
variable {P:Program}{T:List cS}{cf:Nat->Nat->List AV->aW->Option (AV×aW)}{fl:Nat}
theorem xF[aF]{ops:Array Oper}: ∀{aops:List bE} {os:List Oper},Ay P T ops aops os=true->aops.length=os.length/\∀(k:Nat) (o:Oper),os[k]?=some o->∃ao,aops[k]?=some ao/\nN P T ops ao o=true
 | [],[],_=>⟨rfl,λk o h=>by simp at h⟩
 | a::r,o::s,h=>by
  simp only[Ay,Zd] at h;let⟨b,c⟩:=xF h.2;grind
 | [],_::_,h=>by cases h
 | _::_,[],h=>by cases h
theorem M4[aF]{ops:List Oper}: ∀{n:Nat},SB ops n=true->∀k o,k<n->ops[k]?=some o->∀e∈o.after,Region.binds .any e=true->e.on<k
 | 0,_,k,_,h,_,_,_,_=>by omega
 | n+1,h,k,o,c,d,e,he,f=>by
  simp only[SB,Zd] at h;by_cases g:k=n
  .grind
  .exact M4 h.1 k o (by omega) d e he f
def unl(N:Nat)(listed:Array Bool): Nat:=((List.range N).filter λi=>!listed.getD i true).length
theorem aQT{N k:Nat}{a:Array Bool}(f:k<N)(h:a.getD k true=false)(d:a.size=N): unl N (a.setIfInBounds k true)<unl N a:=by
 unfold unl;have e:((List.range N).filter λi=>!(a.setIfInBounds k true).getD i true)=(((List.range N).filter λi=>!a.getD i true).filter λi=>decide<|i≠k):=by
  rw[List.filter_filter];apply List.filter_congr;intro i g;by_cases c:i=k
  .simp_all
  .rw[getD_set_ne true λe=>c e.symm];simp[c]
 rw[e];refine List.length_filter_lt_length_iff_exists.2 ⟨k,?_,by simp⟩;grind
theorem xC{a:Array Bool}{k:Nat}(b:k<a.size): a.getD k true=a.getD k false:=by grind
def gU(aops:List bE)(D:Nat->Bool): Nat->Nat
 | 0=>0
 | n+1=>if D n&&!bJ aops n then n+1 else gU aops D n
theorem oX[aF]{aops:List bE}{D D':Nat->Bool}: ∀n,(∀j,j<n->bJ aops j=false->D j=D' j)->gU aops D n=gU aops D' n
 | 0,_=>rfl
 | n+1,h=>by
  have b:=oX n λj a=>h j (by omega);simp only[gU];grind
theorem kX[aF]{aops:List bE}{D:Nat->Bool}{k:Nat}: ∀n,k<=n->(∀j,k<=j->j<n->bJ aops j=false->D j=false)->gU aops D n=gU aops D k
 | 0,h,_=>by have:k=0:=(by omega);rw[this]
 | n+1,h,b=>by
  by_cases e:k=n+1
  .rw[e]
  .have f:=kX n (by omega) λj c d=>b j c (by omega);simp only[gU];grind
theorem aEp[aF]{aops:List bE}{D:Nat->Bool}: ∀n,gU aops D n<=n
 | 0=>Zf _
 | n+1=>by
  simp only[gU];split
  .grind
  .exact Xl<|aEp n
theorem F2[aF]{aops:List bE}{D:Nat->Bool}{p:Nat}: ∀n,gU aops D n=p+1->p<n/\D p=true/\bJ aops p=false
 | 0,h=>by cases h
 | n+1,h=>by
  simp only[gU] at h;split at h
  .grind
  .let⟨b,a⟩:=F2 n h;exact⟨by omega,a⟩
theorem aEq[aF]{aops:List bE}{D:Nat->Bool}{m:Nat}: ∀n,m<n->D m=true->bJ aops m=false->m+1<=gU aops D n
 | 0,h,_,_=>by omega
 | n+1,h,c,b=>by
  simp only[gU];split
  .omega
  .rename_i d;by_cases e:m=n
   .grind
   .exact aEq n (by omega) c b
theorem jE{aops:List bE}{k:Nat}(h:eB aops k=true): ∃d z,aops[k]?=some ⟨some d,.alloc z,none⟩:=by
 unfold eB at h;split at h
 .rename_i o f;split at h
  .rename_i c;split at h
   .rename_i g;split at h
    .rename_i b;let⟨a,e,guard⟩:=o;grind
    .cases h
   .cases h
  .cases h
 .cases h
def zAt(aops:List bE)(k:Nat): List Value:=match aops[k]? with
 | some ⟨_,.alloc z,_⟩=>z
 | _=>[]
def aO4(aops:List bE)(S:Nat->St)(sw:Nat): aW:=(S sw).heap++[.blk (zAt aops sw).length [],.blk (zAt aops<|sw+1).length [(zAt aops<|sw+1).map .lit]]
def uX(D:Nat->Bool)(sw:Nat): Bool:=D (sw+1)&&!D sw
def hpH(aops:List bE)(S:Nat->St)(sw N:Nat)(D:Nat->Bool): aW:=if uX D sw=true then aO4 aops S sw else (S<|gU aops D N).heap
theorem aCP[aF]{c:dA}{a:Act}{tm:List AV}{ops:Array Oper}{i id d:Nat}{z:List Value}{o:Oper}{K:Act->World->Prop}{Q:Exit->Act->World->Prop}(y:bX (aJ T) c)(h:TR (aJ T) c tm a.tmps)(R:ops[i]?=some o)(b:nN P T ops ⟨some d,.alloc z,none⟩ o=true)(f:c.H[id]?=some (.blk z.length []))(n:fl<=id)(I:∀a' c',c'.H=c.H.set id (.blk z.length [z.map .lit])->bW fl c c'->bX (aJ T) c'->TR (aJ T) c' (hM tm (some d)<|.ptr id 1 0 0) a'.tmps->a'.defers=a.defers->K a' c'.w):
 wpOp P ops Q i K a c.w:=by
 simp only[nN,Zd,ZC] at b;let⟨⟨J,O⟩,g⟩:=b;unfold wpOp;rw[R];simp only;have C:=Jp h O rfl;rw[C];left;simp only[cP] at g;split at g
 .rename_i t G;let⟨S,v,m,M,L,q⟩:=gM g;have k:(execOp a.eval o).run P c.w=.ok (.value<|.pointer<|some ⟨c.w.heap.size,0,none⟩) (c.w.alloc<|.cells z.toArray t (0,0)):=by
   have e:=L.symm;rw[e];simp[execOp,G,Instr.alloc,zeroValue,typeInfo,m,M,newVar,newRow]
  have p:=Fw (es':=[z.map AV.lit]) (w':=c.w.alloc<|.cells z.toArray t (0,0)) y n f (by simp) rfl rfl rfl rfl;have l:bX (aJ T) ⟨c.w.alloc<|.cells z.toArray t (0,0),c.X,upd c.β id c.w.heap.size,c.H.set id<|.blk z.length [z.map AV.lit]⟩:=by
   refine HY y f (by simp) rfl rfl rfl rfl (by intro e he;simp at he;subst he;simp) (by simp) ?_;intro i j x F;obtain⟨rfl,s⟩:=RZ F;simp only[Zk,Zq] at s;obtain⟨u,A,rfl⟩:=s;exact⟨u,by simpa using A,q u<|Zg A,RV.lit _⟩
  refine (eO (v:=.ptr id 1 0 0) k p l ?_) _ _ ?_
  .refine .ptr id 1 0 0 _ z.length 1 ?_ (Zf _) λ_=>⟨c.w.heap.size,dF _ _ _,by simp⟩;rw[tN f];simp
  .intro cv c' N B D E;rw[<-J];exact I _ c' N B D ((h.step B).put E)<|hJ _ _ _
 .grind
structure aVo[aF](P:Program)(T:List cS)(fl N sw pm n0:Nat)(zp:List Value)(aops:List bE)(an:List Nat)(tm:List AV)(val:Nat->AV)(S:Nat->St)(c0:dA)(ds:List Deferred)(listed:Array Bool)(a:Act)(c:dA): Prop where
 size:listed.size=N
 sim:bX (aJ T) c
 step:bW fl c0 c
 defers:a.defers=ds
 closed:∀i j,j<N->listed.getD j false=true->(an.getD j 0).testBit i=true->listed.getD i false=true
 tr:TR (aJ T) c (iW aops tm val (λj=>listed.getD j false) N) a.tmps
 heap:c.H=hpH aops S sw N (λj=>listed.getD j false)
 ph:pm<N->listed.getD pm false=false->Ph c n0 zp.length [zp.map .lit]
theorem w6[aF]{aops:List bE}{an:List Nat}: ∀(n i:Nat),nS aops an n i=aops.length\/(eB aops (nS aops an n i)=true/\eB aops (nS aops an n i+1)=true)
 | 0,_=>.inl rfl
 | n+1,i=>by
  simp only[nS];split
  .grind
  .exact w6 n<|i+1
theorem SN[aF]{aops:List bE}{an:List Nat}{n i N:Nat}(a:aops.length=N): nS aops an n i+1<N->eB aops (nS aops an n i)=true/\eB aops (nS aops an n i+1)=true:=by
 intro h;rcases w6 (aops:=aops) (an:=an) n i with e | e
 .omega
 .exact e
theorem w7{a:Nat}{aops:List bE}{b:List<|Nat×Nat}{an:List Nat}{n:Nat}(h:i7 a aops b an n=true): a+1<n->∀k,k<n->bJ aops k=true->fR aops k=true\/(an.getD k 0).testBit a=true\/(k,a)∈b:=by
 intro e k d c;simp only[i7] at h;grind
theorem aBl[aF](hcf:Bh P T cf)(hfn:nH P T){ops:Array Oper}{aops:List bE}{sw:Nat}{ck:List<|Nat×Nat}{tm:List AV}{c0:dA}{ds:List Deferred}{val:Nat->AV}{S:Nat->St}{Q:Exit->Act->World->Prop}{H1:aW}{pm n0:Nat}{zp:List Value}(hlen':aops.length=ops.size)(hget:∀k o,ops[k]?=some o->∃ao,aops[k]?=some ao/\(k≠pm->nN P T ops ao o=true))(hpm:pm<ops.size->∃d,aops[pm]?=some ⟨some d,.ptrK n0,none⟩/\∀o,ops[pm]?=some o->nN P T ops ⟨some d,.alloc zp,none⟩ o=true)(hn0:pm<ops.size->c0.H.length<=n0)(hp0:pm<ops.size->(S 0).heap[n0]?=some (.blk zp.length [zp.map .lit]))(hpk:∀k,k<pm->pm<ops.size->bJ aops k=false->(S<|k+1).heap[n0]?=(S k).heap[n0]?)(hpl:pm<ops.size->∀k,pm<k->k<ops.size->bJ aops k=true\/((tK ops.toList ops.size []).getD k 0).testBit pm=true)(hord:Bz sw aops (tK ops.toList ops.size []) ops.size=true)(hstab:aB5 aops ck (tK ops.toList ops.size []) ops.size=true)(hback:SB ops.toList ops.size=true)(h0:S 0=⟨tm,H1⟩)(hc0:c0.H.length<=H1.length)(hS:∀k ao,aops[k]?=some ao->cH P cf fl ao (S k)=some (S<|k+1))(hval:∀k ao,aops[k]?=some ao->(S<|k+1).tmps=hM (S k).tmps ao.dst (val k))(hck:∀k m,(k,m)∈ck->∀ao,aops[k]?=some ao->eD (S k).tmps ao.guard=some false\/cY ao.op (S k).tmps=some none\/∃id,cY ao.op (S k).tmps=some (some id)/\(S<|m+1).heap[id]?=(S m).heap[id]?)(hsw:sw+1<ops.size->eB aops sw=true/\eB aops (sw+1)=true)(hstab2:sw+1<ops.size->∀k,k<ops.size->bJ aops k=true->fR aops k=true\/((tK ops.toList ops.size []).getD k 0).testBit sw=true\/(k,sw)∈ck)(hfo:tM cf)(hfl:fl<=c0.H.length)(hQ:∀a' c',c'.H=(S ops.size).heap->bW fl c0 c'->bX (aJ T) c'->TR (aJ T) c' (S ops.size).tmps a'.tmps->a'.defers=ds->Q .normal a' c'.w):
 ∀(fuel:Nat) (listed:Array Bool) (a:Act) (c:dA),unl ops.size listed<=fuel->aVo P T fl ops.size sw pm n0 zp aops (tK ops.toList ops.size []) tm val S c0 ds listed a c->wpAny P .any ops Q fuel listed a c.w:=by
 have hquiet:∀k,k<ops.size->bJ aops k=true->(S<|k+1).heap=(S k).heap:=by
  intro k hk hq
  have hao:aops[k]?=some (aops[k]'(by omega)):=by simp
  simp only[bJ,hao] at hq
  exact KU hq<|hS k _ hao
 have hheapA:∀k,k<=ops.size->(S<|gU aops (λ_=>true) k).heap=(S k).heap:=by
  intro k
  induction k with
  | zero=>intro _;rfl
  | succ k ih=>
   intro hk
   simp only[gU,Wv]
   cases hq:bJ aops k with
   | false=>rfl
   | true=>grind
 have hkeep:∀(id a b:Nat),a<=b->b<=ops.size->(∀m,a<=m->m<b->bJ aops m=false->(S<|m+1).heap[id]?=(S m).heap[id]?)->(S b).heap[id]?=(S a).heap[id]?:=by
  intro id a b
  induction b with
  | zero=>grind
  | succ b ih=>
   intro h1 h2 h3
   by_cases e:a=b+1
   .rw[e]
   .have h4:(S<|b+1).heap[id]?=(S b).heap[id]?:=by
     cases hq:bJ aops b with
     | true=>grind
     | false=>grind
    rw[h4]
    exact ih (by omega) (by omega) λm g1 g2=>h3 m g1<|by omega
 have h0t:(S 0).tmps=tm:=by rw[h0]
 have hlenS:∀k,k<=ops.size->fl<=(S k).heap.length:=by
  intro k
  induction k with
  | zero=>intro _;rw[h0];exact ZB hfl hc0
  | succ k ih=>
   intro hk
   exact (aAT hfo ⟨Zf _,ih<|by omega⟩<|hS k (aops[k]'(by omega))<|by simp).2
 have done:∀(listed:Array Bool) (a:Act) (c:dA),(∀j,j<ops.size->listed.getD j false=true)->aVo P T fl ops.size sw pm n0 zp aops (tK ops.toList ops.size []) tm val S c0 ds listed a c->Q .normal a c.w:=by
  intro listed a c hall hI
  have hfold:iW aops tm val (λj=>listed.getD j false) ops.size=(S ops.size).tmps:=
   KK h0t hval (Zf _) (by omega) hall λj h1 h2=>by omega
  have hH:c.H=(S ops.size).heap:=by
   have hodd:uX (λj=>listed.getD j false) sw=false:=by
    unfold uX
    by_cases h:sw<ops.size
    .simp[hall sw h]
    .have:listed.getD (sw+1) false=false:=by
      rw[Yf,Yb<|by rw[hI.size];omega];rfl
     simp only[this,Bool.false_and]
   rw[hI.heap,hpH,ZF<|by rw[hodd];exact XF,oX (D':=λ_=>true) ops.size λj hj _=>hall j hj,hheapA _<|Zf _]
  refine hQ a c hH hI.step hI.sim ?_ hI.defers
  rw[<-hfold]
  exact hI.tr
 have noready:∀(listed:Array Bool),listed.size=ops.size->Region.ready .any ops listed=[]->∀j,j<ops.size->listed.getD j false=true:=by
  intro listed hsz hr j
  induction j using Nat.strongRecOn with
  | _ j ih=>
   intro hj
   cases hd:listed.getD j false with
   | true=>rfl
   | false=>
    exfalso
    have hmem:j∈Region.ready .any ops listed:=by
     rw[Vb]
     refine⟨by rw[xC<|by omega];exact hd,ops[j],by simp,λe he hb=>?_⟩
     have hlt:=M4 hback j ops[j] hj (by simp) e he hb
     exact ih e.on hlt<|by omega
    rw[hr] at hmem
    cases hmem
 intro fuel
 induction fuel with
 | zero=>
  intro listed a c hu hI
  have hall:∀j,j<ops.size->listed.getD j false=true:=by
   intro j hj
   cases hd:listed.getD j false with
   | true=>rfl
   | false=>
    exfalso
    have:j∈(List.range ops.size).filter λi=>!listed.getD i true:=by
     simp only[List.mem_filter,Ws,YG]
     exact⟨hj,by rw[xC<|by rw[hI.size];exact hj];exact hd⟩
    unfold unl at hu
    have h2:=YO<|Nat.le_zero.1 hu
    rw[h2] at this
    cases this
  refine⟨?_,done listed a c hall hI⟩
  cases hr:Region.ready .any ops listed with
  | nil=>rfl
  | cons i r=>
   exfalso
   have:i∈Region.ready .any ops listed:=by rw[hr];simp
   rw[Vb] at this
   let⟨h1,o,ho,_⟩:=this
   have hi:i<ops.size:=(Xa.1 ho).1
   rw[xC<|by rw[hI.size];exact hi,hall i hi] at h1
   cases h1
 | succ fuel ih=>
  intro listed a c hu hI
  refine⟨λhr=>done listed a c (noready listed hI.size hr) hI,λk hk=>?_⟩
  rw[Vb] at hk
  let⟨hk1,o,ho,hedges⟩:=hk
  have hkN:k<ops.size:=(Xa.1 ho).1
  have hkD:listed.getD k false=false:=by rw[<-xC<|by rw[hI.size];exact hkN];exact hk1
  let⟨ao,hao,hok0⟩:=hget k o<|by simpa using ho
  have hol:ops.toList[k]?=some o:=by simpa using ho
  have hanc:∀i,((tK ops.toList ops.size []).getD k 0).testBit i=true->listed.getD i false=true:=by
   intro i hi
   have hi':((tK ops.toList ops.toList.length []).getD k 0).testBit i=true:=by simpa using hi
   let⟨o',ho',e,he,hb,hlt,hh⟩:=aFk (by simpa using hkN) hi'
   rw[hol] at ho'
   cases ho'
   have hde:=hedges e he hb
   rcases hh with rfl | hh
   .exact hde
   .exact hI.closed i e.on (by omega) hde<|by simpa using hh
  have later:∀j,k<j->j<ops.size->listed.getD j false=true->((bJ aops k=true\/bJ aops j=true)\/(k=sw/\j=sw+1/\eB aops k=true/\eB aops j=true))/\∃x y,aops[k]?=some x/\aops[j]?=some y/\CG x y=false/\CG y x=false:=by
   intro j hkj hj hD
   rcases gS _ hord k j hkj hj with h | h
   .have:=hI.closed k j hj hD h
    rw[hkD] at this;cases this
   .exact h
  have earlier:∀j,j<k->listed.getD j false=true\/(((bJ aops j=true\/bJ aops k=true)\/(j=sw/\k=sw+1/\eB aops j=true/\eB aops k=true))/\∃x y,aops[j]?=some x/\aops[k]?=some y/\CG x y=false/\CG y x=false):=by
   intro j hj
   rcases gS _ hord j k hj hkN with h | h
   .exact .inl<|hanc j h
   .exact .inr h
  have hdst:LS aops k=ao.dst:=by simp[LS,hao]
  have hlook:∀t∈DP ao,(iW aops tm val (λj=>listed.getD j false) ops.size)[t]?=(S k).tmps[t]?:=by
   intro t ht
   rw[<-KK (D:=λj=>decide<|j<k) (n:=ops.size) h0t hval (Nat.le_of_lt hkN) (by omega) (λj hj=>by simpa using hj) λj h1 _=>by simp;omega]
   apply Re
   intro j hj hd
   by_cases hjk:j<k
   .have:decide (j<k)=true:=by simpa using hjk
    rw[this]
    rcases earlier j hjk with h | ⟨_,x,y,hx,hy,hc1,hc2⟩
    .exact h
    .exfalso
     rw[hao] at hy
     cases hy
     have hdx:x.dst=some t:=by simpa [LS,hx] using hd
     exact (Se hc1 hdx).1 ht
   .have:decide (j<k)=false:=by simpa using hjk
    rw[this]
    by_cases ej:j=k
    .subst ej;exact hkD
    .cases hDj:listed.getD j false with
     | false=>rfl
     | true=>
      exfalso
      let⟨_,x,y,hx,hy,hc1,hc2⟩:=later j (by omega) hj hDj
      rw[hao] at hx
      cases hx
      have hdy:y.dst=some t:=by simpa [LS,hy] using hd
      exact (Se hc2 hdy).1 ht
  have hset:∀j,(listed.setIfInBounds k true).getD j false=if j=k then true else listed.getD j false:=by
   intro j
   by_cases ej:j=k
   .subst ej
    simp[hI.size,hkN]
   .rw[getD_set_ne false λe=>ej e.symm,ZF ej]
  have ancLt:∀q m,q<ops.size->((tK ops.toList ops.size []).getD q 0).testBit m=true->m<q:=by
   intro q m
   induction q using Nat.strongRecOn with
   | _ q ihq=>
    intro hqN hqb
    have hqb':((tK ops.toList ops.toList.length []).getD q 0).testBit m=true:=by simpa using hqb
    let⟨o',ho',e,he,hb',hlt',hh⟩:=aFk (by simpa using hqN) hqb'
    rcases hh with rfl | hh
    .exact hlt'
    .have:=ihq e.on hlt' (by omega)<|by simpa using hh
     omega
  have hcl:∀i j,j<ops.size->(listed.setIfInBounds k true).getD j false=true->((tK ops.toList ops.size []).getD j 0).testBit i=true->(listed.setIfInBounds k true).getD i false=true:=by
   intro i j hj hD hb
   rw[hset] at hD |-
   split
   .rfl
   .by_cases ej:j=k
    .subst ej;exact hanc i hb
    .rw[ZF ej] at hD
     exact hI.closed i j hj hD hb
  have fin0:∀(x:AV) a' c',(S<|k+1).tmps=hM (S k).tmps ao.dst x->c'.H=hpH aops S sw ops.size (λj=>(listed.setIfInBounds k true).getD j false)->bW fl c0 c'->(pm<ops.size->(listed.setIfInBounds k true).getD pm false=false->Ph c' n0 zp.length [zp.map .lit])->bX (aJ T) c'->TR (aJ T) c' (hM (iW aops tm val (λj=>listed.getD j false) ops.size) ao.dst x) a'.tmps->a'.defers=a.defers->wpAny P .any ops Q fuel (listed.setIfInBounds k true) a' c'.w:=by
   intro x a' c' hx1 e1 e2 eph e3 e4 e5
   refine ih (listed.setIfInBounds k true) a' c' (by have:=aQT hkN hk1 hI.size;omega) ?_
   refine⟨by simpa using hI.size,e3,e2,e5.trans hI.defers,hcl,?_,e1,eph⟩
   .refine⟨by rw[fM,<-e4.1,SV,fM],λt y hy=>?_⟩
    refine e4.2 t y ?_
    rw[<-hy,yJ]
    split
    .rename_i hd
     have hdk:LS aops k=some t:=by rw[hdst];exact hd
     rw[fM]
     rw[I3 (k:=k) (by simp[hset]) hdk ops.size hkN]
     .split
      .rename_i hlt
       congr 1
       have h1:(S<|k+1).tmps[t]?=some x:=by rw[hx1,yJ,Zu hd,Zu<|by rw[<-Tp h0t hval k<|by omega,fM];exact hlt]
       have h2:(S<|k+1).tmps[t]?=some (val k):=by rw[hval k ao hao,yJ,Zu hd,Zu<|by rw[<-Tp h0t hval k<|by omega,fM];exact hlt]
       rw[h1] at h2
       exact ZR h2
      .rfl
     .intro j h1 h2 h3
      rw[hset,ZF<|by omega]
      cases hDj:listed.getD j false with
      | false=>rfl
      | true=>
       exfalso
       let⟨_,x',y',hx',hy',hc1,hc2⟩:=later j h1 h2 hDj
       rw[hao] at hx'
       cases hx'
       have hdy:y'.dst=some t:=by simpa [LS,hy'] using h3
       exact (Se hc1 hd).2 hdy
    .rename_i hd
     apply Re
     intro j hj hdj
     rw[hset]
     by_cases ej:j=k
     .subst ej
      rw[hdst] at hdj
      exact (hd hdj).elim
     .rw[ZF ej]
  have hbox:∀D:Nat->Bool,pm<ops.size->D pm=false->(∀j,ops.size<=j->D j=false)->(∀i j,j<ops.size->D j=true->((tK ops.toList ops.size []).getD j 0).testBit i=true->D i=true)->(hpH aops S sw ops.size D)[n0]?=some (.blk zp.length [zp.map .lit]):=by
   intro D hp hDp hDN hDc
   have below:∀p,p<ops.size->D p=true->bJ aops p=false->p<pm:=by
    intro p h1 h2 h3
    rcases Nat.lt_trichotomy p pm with g | g | g
    .exact g
    .rw[g,hDp] at h2;cases h2
    .rcases hpl hp p g h1 with q | q
     .rw[h3] at q;cases q
     .rw[hDc pm p h1 h2 q] at hDp;cases hDp
   have at0:∀b,b<=pm->(S b).heap[n0]?=some (.blk zp.length [zp.map .lit]):=by
    intro b hb
    rw[hkeep n0 0 b (ZG _) (by omega) λm _ g2 g3=>hpk m (by omega) hp g3]
    exact hp0 hp
   unfold hpH
   split
   .rename_i hodd
    simp only[uX,Zd,YG] at hodd
    have hN:sw+1<ops.size:=by
     rcases ZI (sw+1) ops.size with g | g
     .exact g
     .exfalso;exact absurd hodd.1 (by rw[hDN _ g];simp)
    let⟨_,h2⟩:=hsw hN
    have:=below (sw+1) hN hodd.1 (by let⟨d,z,hz⟩:=jE h2;simp[bJ,hz,fE])
    have e:=at0 sw (by omega)
    rw[aO4,Zo (Ze.1 e).1]
    exact e
   .cases hl:gU aops D ops.size with
    | zero=>exact at0 0 (ZG _)
    | succ p=>
     let⟨q1,q2,q3⟩:=F2 ops.size hl
     exact at0 (p+1) (below p q1 q2 q3)
  by_cases hkp:k=pm
  .subst hkp
   let⟨d,p1,p2⟩:=hpm hkN
   rw[hao] at p1
   cases p1
   have P0:=hI.ph hkN hkD
   refine V8 hI.sim hI.tr ho (p2 o ho) P0 ?_
   intro a' w' t g1 g2 g3 g4 g5 g6 g7 g8
   refine fin0 (.ptr n0 1 0 0) a' (phC c w' n0) ?_ ?_ (aOm hI.sim hI.step (hn0 hkN) hfl g1 g2 g3 g4 g5) (λ_ g=>by rw[hset,Zu rfl] at g;cases g) g6 g7 g8
   .have:=hS k _ hao
    simp only[cH,eD,aL,Za] at this
    rw[<-this]
   .show c.H=_
    have hqk:bJ aops k=true:=by simp[bJ,hao,fE]
    have ne1:uX (λj=>(listed.setIfInBounds k true).getD j false) sw=uX (λj=>listed.getD j false) sw:=by
     unfold uX
     by_cases hN:sw+1<ops.size
     .let⟨h1,h2⟩:=hsw hN
      let⟨d1,z1,hz1⟩:=jE h1
      let⟨d2,z2,hz2⟩:=jE h2
      have a1:sw≠k:=λe=>by rw[e,hao] at hz1;cases hz1
      have a2:sw+1≠k:=λe=>by rw[e,hao] at hz2;cases hz2
      show ((listed.setIfInBounds k true).getD (sw+1) false&&!(listed.setIfInBounds k true).getD sw false)=(listed.getD (sw+1) false&&!listed.getD sw false)
      rw[hset,hset,ZF a1,ZF a2]
     .have z0:∀l:Array Bool,l.size=ops.size->l.getD (sw+1) false=false:=λl hl=>by
       rw[Yf,Yb<|by rw[hl];omega];rfl
      show ((listed.setIfInBounds k true).getD (sw+1) false&&!(listed.setIfInBounds k true).getD sw false)=(listed.getD (sw+1) false&&!listed.getD sw false)
      rw[z0 _ hI.size,z0 _ (by simpa using hI.size)];rfl
    rw[hI.heap]
    unfold hpH
    rw[ne1,oX (D':=λj=>(listed.setIfInBounds k true).getD j false) ops.size λj _ hq=>by
     rw[hset,ZF λe=>by rw[e,hqk] at hq;cases hq]]
  have hok:=hok0 hkp
  have fin:∀(x:AV) a' c',(S<|k+1).tmps=hM (S k).tmps ao.dst x->c'.H=hpH aops S sw ops.size (λj=>(listed.setIfInBounds k true).getD j false)->bW fl c c'->bX (aJ T) c'->TR (aJ T) c' (hM (iW aops tm val (λj=>listed.getD j false) ops.size) ao.dst x) a'.tmps->a'.defers=a.defers->wpAny P .any ops Q fuel (listed.setIfInBounds k true) a' c'.w:=by
   intro x a' c' hx1 e1 e2 e3 e4 e5
   refine fin0 x a' c' hx1 e1 (hI.step.trans e2) (λhp hD=>?_) e3 e4 e5
   have hD0:listed.getD pm false=false:=by rw[hset,ZF λe=>hkp e.symm] at hD;exact hD
   have P0:=hI.ph hp hD0
   have hH:c'.H[n0]?=some (.blk zp.length [zp.map .lit]):=by rw[e1];exact hbox _ hp hD (λj hj=>by rw[Yf,Yb<|by simpa [hI.size] using hj];rfl) hcl
   let⟨n',q1,_,q3⟩:=e2.blkS n0 zp.length 1 (by simp[shp,P0.h])
   have q4:n'=1:=by simp[shp,hH] at q1;exact q1.symm
   exact⟨hH,((q3 q4.symm).1).trans P0.b,Nat.zero_lt_one⟩
  have byOp:∀c1:dA,c1.w=c.w->bW fl c c1->bX (aJ T) c1->(∃st',cH P cf fl ao ⟨(S k).tmps,c1.H⟩=some st'/\st'.tmps=(S<|k+1).tmps/\st'.heap=hpH aops S sw ops.size (λj=>(listed.setIfInBounds k true).getD j false))->wpOp P ops Q k (λa' w'=>wpAny P .any ops Q fuel (listed.setIfInBounds k true) a' w') a c.w:=by
   intro c1 hw hst hs1 ⟨stk',hevk',hstt,hsth⟩
   let⟨x,hx1,hx2⟩:=KV (tm:=iW aops tm val (λj=>listed.getD j false) ops.size) hlook hevk'
   rw[hstt] at hx1
   rw[<-hw]
   refine kT hcf hfn hs1 (hI.tr.step hst) (ZB hfl (hI.step.trans hst).len) ho hok hx2 ?_
   intro a' c' e1 e2 e3 e4 e5 _
   exact fin x a' c' hx1 (e1.trans hsth) (hst.trans e2) e3 e4 e5
  have hmutA:∀m,eB aops m=true->bJ aops m=false:=by
   intro m hm
   let⟨d,z,hz⟩:=jE hm
   simp[bJ,hz,fE]
  have pairF:sw+1<ops.size->∃d1 z1 d2 z2,aops[sw]?=some ⟨some d1,.alloc z1,none⟩/\aops[sw+1]?=some ⟨some d2,.alloc z2,none⟩/\zAt aops sw=z1/\zAt aops (sw+1)=z2 /\
   S (sw+1)=⟨(S sw).tmps.set d1<|.ptr (S sw).heap.length 1 0 0,(S sw).heap++[.blk z1.length [z1.map .lit]]⟩ /\
   S (sw+2)=⟨(S<|sw+1).tmps.set d2<|.ptr ((S sw).heap.length+1) 1 0 0,(S sw).heap++[.blk z1.length [z1.map .lit],.blk z2.length [z2.map .lit]]⟩:=by
   intro h
   let⟨h1,h2⟩:=hsw h
   let⟨d1,z1,e1⟩:=jE h1
   let⟨d2,z2,e2⟩:=jE h2
   have t1:=hS sw _ e1
   have t2:=hS (sw+1) _ e2
   simp only[cH,eD,aL,hM,Za] at t1 t2
   refine⟨d1,z1,d2,z2,e1,e2,by simp[zAt,e1],by simp[zAt,e2],t1.symm,?_⟩
   rw[<-t2,<-t1]
   simp
  by_cases hodd:uX (λj=>listed.getD j false) sw=true
  .have ho2:listed.getD (sw+1) false=true/\listed.getD sw false=false:=by
    simp only[uX,Zd,YG] at hodd;exact hodd
   have hswN:sw+1<ops.size:=by
    rcases ZI (sw+1) ops.size with h | h
    .exact h
    .have:=ho2.1
     rw[Yf,Yb<|by rw[hI.size];exact h] at this
     cases this
   let⟨hal1,hal2⟩:=hsw hswN
   let⟨d1,z1,d2,z2,p1,p2,p3,p4,p5,p6⟩:=pairF hswN
   have hcH:c.H=(S sw).heap++[.blk z1.length [],.blk z2.length [z2.map .lit]]:=by
    rw[hI.heap,hpH,Zu hodd,aO4,p3,p4]
   have hbehind:∀j,sw+1<j->j<ops.size->bJ aops j=false->listed.getD j false=false:=by
    intro j h1 h2 h3
    cases hd:listed.getD j false with
    | false=>rfl
    | true=>
     rcases gS _ hord sw j (by omega) h2 with h | ⟨(h | h) | h,_⟩
     .have:=hI.closed sw j h2 hd h
      rw[ho2.2] at this;cases this
     .rw[hmutA sw hal1] at h;cases h
     .rw[h3] at h;cases h
     .omega
   by_cases hksw:k=sw
   .subst hksw
    rw[hao] at p1
    cases p1
    have hid:c.H[(S k).heap.length]?=some (.blk z1.length []):=by rw[hcH];simp
    refine aCP (id:=(S k).heap.length) hI.sim hI.tr ho hok hid (hlenS k<|by omega) ?_
    intro a' c' e1 e2 e3 e4 e5
    refine fin (.ptr (S k).heap.length 1 0 0) a' c' (by rw[p5];rfl) ?_ e2 e3 e4 e5
    have hnod:uX (λj=>(listed.setIfInBounds k true).getD j false) k=false:=by simp[uX,hset]
    rw[e1,hpH,ZF<|by rw[hnod];exact XF,kX (k:=k+2) ops.size (by omega) λj h1 h2 h3=>by
     rw[hset,ZF<|by omega];exact hbehind j (by omega) h2 h3]
    have hl2:gU aops (λj=>(listed.setIfInBounds k true).getD j false) (k+2)=k+2:=by
     have e:(listed.setIfInBounds k true).getD (k+1) false=true:=by rw[hset,ZF<|by omega];exact ho2.1
     show (if ((listed.setIfInBounds k true).getD (k+1) false&&!bJ aops (k+1))=true then k+1+1 else _)=_
     rw[e,hmutA _ hal2]
     rfl
    rw[hl2,p6,hcH]
    simp
   .have hq:bJ aops k=true:=by
     cases hq:bJ aops k with
     | true=>rfl
     | false=>
      exfalso
      rcases ZI k sw with h | h
      .rcases gS _ hord k (sw+1) (by omega) hswN with g | ⟨(g | g) | g,_⟩
       .have:=hI.closed k (sw+1) hswN ho2.1 g
        rw[hkD] at this;cases this
       .rw[hq] at g;cases g
       .rw[hmutA _ hal2] at g;cases g
       .omega
      .by_cases h':k=sw+1
       .subst h';rw[hkD] at ho2;cases ho2.1
       .rcases gS _ hord sw k (by omega) hkN with g | ⟨(g | g) | g,_⟩
        .have:=hanc sw g
         rw[ho2.2] at this;cases this
        .rw[hmutA _ hal1] at g;cases g
        .rw[hq] at g;cases g
        .omega
    have hD':uX (λj=>(listed.setIfInBounds k true).getD j false) sw=true:=by
     have q1:(listed.setIfInBounds k true).getD sw false=false:=by rw[hset,ZF λe=>hksw e.symm];exact ho2.2
     have q2:(listed.setIfInBounds k true).getD (sw+1) false=true:=by
      rw[hset]
      split
      .rfl
      .exact ho2.1
     simp only[uX,q1,q2]
     rfl
    refine byOp c rfl (bW.refl _ _) hI.sim ?_
    have hpe:hpH aops S sw ops.size (λj=>(listed.setIfInBounds k true).getD j false)=c.H:=by
     rw[hpH,Zu hD',hI.heap,hpH,Zu hodd]
    rw[hpe]
    have hev:=hS k ao hao
    have hqo:fE ao.op=true:=by simpa [bJ,hao] using hq
    have hwant:∀(hop:∀v H1,aL P cf fl ao.op (S k).tmps (S k).heap=some (v,H1)->aL P cf fl ao.op (S k).tmps c.H=some (v,c.H)),∃st',cH P cf fl ao ⟨(S k).tmps,c.H⟩=some st'/\st'.tmps=(S<|k+1).tmps/\st'.heap=c.H:=by
     intro hop
     unfold cH at hev |-
     simp only at hev |-
     split at hev
     .rename_i hw
      split at hev
      .rename_i v H1 he
       simp only[Za] at hev
       rw[hop v H1 he]
       exact⟨_,rfl,by rw[<-hev],rfl⟩
      .cases hev
     .rename_i hw
      simp only[Za] at hev
      exact⟨_,rfl,by rw[<-hev],rfl⟩
     .cases hev
    by_cases hn:fR aops k=true
    .have hno:xN ao.op=true:=by simpa [fR,hao] using hn
     exact hwant λv H1 he=>KW hno he
    by_cases hg:eD (S k).tmps ao.guard=some false
    .unfold cH at hev |-
     simp only[hg] at hev |-
     simp only[Za] at hev
     exact⟨_,rfl,by rw[<-hev],rfl⟩
    have hks:(k,sw)∈ck:=by
     rcases hstab2 hswN k hkN hq with h | h | h
     .exact (hn h).elim
     .have:=hanc sw h
      rw[ho2.2] at this;cases this
     .exact h
    have hmid:∀m,m<ops.size->bJ aops m=false->((sw+2<=m/\m<k)\/(k<=m/\m<sw+2))->(k,m)∈ck:=by
     intro m hm hmq hb
     by_cases em:m=sw
     .subst em;exact hks
     have hmD:m<=sw+1->listed.getD m false=true:=by
      intro hle
      by_cases e:m=sw+1
      .subst e;exact ho2.1
      .rcases gS _ hord m (sw+1) (by omega) hswN with g | ⟨(g | g) | g,_⟩
       .exact hI.closed m (sw+1) hswN ho2.1 g
       .rw[hmq] at g;cases g
       .rw[hmutA _ hal2] at g;cases g
       .omega
     rcases SP hstab hkN hm hq hmq with h | h | h | h
     .exact (hn h).elim
     .have hlt:=ancLt k m hkN h
      have hml:=hanc m h
      rcases hb with⟨b1,b2⟩ | ⟨b1,b2⟩
      .rw[hbehind m (by omega) hm hmq] at hml;cases hml
      .omega
     .have hlt:=ancLt m k hm h
      rcases hb with⟨b1,b2⟩ | ⟨b1,b2⟩
      .omega
      .have:=hI.closed k m hm (hmD<|by omega) h
       rw[hkD] at this;cases this
     .exact h
    rcases hck k sw hks ao hao with h | h | ⟨id,h,hkp⟩
    .exact (hg h).elim
    .exact hwant λv H1 he=>Dm h (λid hid=>by cases hid) he
    .refine hwant λv H1 he=>Dm h (λid' hid=>?_) he
     cases hid
     have hidn:id≠(S sw).heap.length:=by
      intro e
      rw[p5] at hkp
      simp only[e] at hkp
      rw[ZX<|Zf _,Zy<|Zf _] at hkp
      simp at hkp
     have hbase:c.H[id]?=(S<|sw+2).heap[id]?:=by
      rw[hcH,p6]
      simp only
      rcases ZI id (S sw).heap.length with hl | hl
      .rw[Zo hl,Zo hl]
      .rw[ZX hl,ZX hl]
       let⟨q,hq'⟩:∃q,id-(S sw).heap.length=q+1:=⟨id-(S sw).heap.length-1,by omega⟩
       rw[hq']
       rfl
     have hsts:∀m,m<ops.size->bJ aops m=false->((sw+2<=m/\m<k)\/(k<=m/\m<sw+2))->(S<|m+1).heap[id]?=(S m).heap[id]?:=by
      intro m h1 h2 h3
      rcases hck k m (hmid m h1 h2 h3) ao hao with g | g | ⟨id2,g,g2⟩
      .exact (hg g).elim
      .rw[h] at g;cases g
      .rw[h] at g;cases g;exact g2
     rw[hbase]
     rcases WB (sw+2) k with hle | hle
     .exact (hkeep id (sw+2) k hle (by omega) λm g1 g2 g3=>hsts m (by omega) g3<|.inl ⟨g1,g2⟩).symm
     .exact hkeep id k (sw+2) hle (by omega) λm g1 g2 g3=>hsts m (by omega) g3<|.inr ⟨g1,g2⟩
  .have hcH:c.H=(S<|gU aops (λj=>listed.getD j false) ops.size).heap:=by rw[hI.heap,hpH,ZF hodd]
   by_cases hI1:k=sw+1/\listed.getD sw false=false
   .let⟨hk',hD1⟩:=hI1
    subst hk'
    let⟨hal1,hal2⟩:=hsw hkN
    let⟨d1,z1,d2,z2,p1,p2,p3,p4,p5,p6⟩:=pairF hkN
    have hL:gU aops (λj=>listed.getD j false) ops.size=gU aops (λ_=>true) sw:=by
     rw[kX (k:=sw) ops.size (by omega) (λj h1 h2 h3=>by
      by_cases e:j=sw
      .subst e;exact hD1
      .by_cases e':j=sw+1
       .subst e';exact hkD
       .cases hd:listed.getD j false with
        | false=>rfl
        | true=>
         rcases (later j (by omega) h2 hd).1 with (h | h) | h
         .rw[hmutA _ hal2] at h;cases h
         .rw[h3] at h;cases h
         .omega)]
     refine oX sw λj hj hjq=>?_
     rcases earlier j (by omega) with h | ⟨(h | h) | h,_⟩
     .exact h
     .rw[hjq] at h;cases h
     .rw[hmutA _ hal2] at h;cases h
     .omega
    have hH:c.H=(S sw).heap:=by rw[hcH,hL,hheapA sw<|by omega]
    rw[hao] at p2
    cases p2
    refine byOp ⟨c.w,c.X,c.β,c.H++[.blk z1.length []]⟩ rfl (Jv<|ZB hfl hI.step.len) (NF hI.sim) ?_
    refine⟨⟨(S<|sw+1).tmps.set d2<|.ptr (c.H++[dI.blk z1.length []]).length 1 0 0,(c.H++[.blk z1.length []])++[.blk z2.length [z2.map .lit]]⟩,rfl,?_,?_⟩
    .rw[p6,hH];simp
    .have hD':uX (λj=>(listed.setIfInBounds (sw+1) true).getD j false) sw=true:=by
      have q1:(listed.setIfInBounds (sw+1) true).getD sw false=false:=by rw[hset,ZF<|by omega];exact hD1
      have q2:(listed.setIfInBounds (sw+1) true).getD (sw+1) false=true:=by rw[hset,Zu rfl]
      simp only[uX,q1,q2]
      rfl
     rw[hpH,Zu hD',aO4,p3,p4,hH]
     simp
   .have hnodd':uX (λj=>(listed.setIfInBounds k true).getD j false) sw=false:=by
     cases h:uX (λj=>(listed.setIfInBounds k true).getD j false) sw with
     | false=>rfl
     | true=>
      exfalso
      simp only[uX,hset,Zd,YG] at h
      let⟨h1,h2⟩:=h
      split at h2
      .cases h2
      .rename_i hks
       split at h1
       .rename_i e;exact hI1 ⟨e.symm,h2⟩
       .exact hodd<|by simp[uX,h1,h2]
    refine byOp c rfl (bW.refl _ _) hI.sim ?_
    rw[hpH,ZF<|by rw[hnodd'];exact XF]
    cases hq:bJ aops k with
    | false=>
     have hlat:∀j,k<j->j<ops.size->bJ aops j=false->listed.getD j false=false:=by
      intro j h1 h2 h3
      cases hd:listed.getD j false with
      | false=>rfl
      | true=>
       rcases (later j h1 h2 hd).1 with (h | h) | ⟨e1,e2,_⟩
       .rw[hq] at h;cases h
       .rw[h3] at h;cases h
       .exfalso
        subst e1 e2
        exact hodd<|by simp[uX,hd,hkD]
     have hL:gU aops (λj=>listed.getD j false) ops.size=gU aops (λ_=>true) k:=by
      rw[kX (k:=k) ops.size (by omega) (λj h1 h2 h3=>by
       by_cases e:j=k
       .subst e;exact hkD
       .exact hlat j (by omega) h2 h3)]
      refine oX k λj hj hjq=>?_
      rcases earlier j hj with h | ⟨(h | h) | ⟨e1,e2,_⟩,_⟩
      .exact h
      .rw[hjq] at h;cases h
      .rw[hq] at h;cases h
      .cases hd:listed.getD j false with
       | true=>rfl
       | false=>exact (hI1 ⟨e2,by rw[<-e1];exact hd⟩).elim
     have hH:c.H=(S k).heap:=by rw[hcH,hL,hheapA k<|by omega]
     refine⟨S<|k+1,by rw[hH];exact hS k ao hao,rfl,?_⟩
     rw[kX (k:=k+1) ops.size (by omega) λj h1 h2 h3=>by
      rw[hset,ZF<|by omega]
      exact hlat j (by omega) h2 h3]
     simp only[gU,hset,Zz,hq]
     rfl
    | true=>
     have hL:gU aops (λj=>(listed.setIfInBounds k true).getD j false) ops.size=gU aops (λj=>listed.getD j false) ops.size:=by
      refine oX ops.size λj hj hjq=>?_
      rw[hset,ZF<|by intro e;subst e;rw[hq] at hjq;cases hjq]
     rw[hL,<-hcH]
     have hqo:fE ao.op=true:=by simpa [bJ,hao] using hq
     have hev:=hS k ao hao
     have hpl:=aEp (aops:=aops) (D:=λj=>listed.getD j false) ops.size
     generalize hp:gU aops (λj=>listed.getD j false) ops.size=p at *
     have hbetween:∀m,m<ops.size->bJ aops m=false->((p<=m/\m<k)\/(k<=m/\m<p))->fR aops k=true\/(k,m)∈ck:=by
      intro m hm hmq hb
      rcases SP hstab hkN hm hq hmq with h | h | h | h
      .exact .inl h
      .exfalso
       have hml:=hanc m h
       have:=aEq (aops:=aops) (D:=λj=>listed.getD j false) ops.size hm hml hmq
       rw[hp] at this
       have hlt:=ancLt k m hkN h
       omega
      .exfalso
       have hlt:=ancLt m k hm h
       rcases hb with⟨h1,h2⟩ | ⟨h1,h2⟩
       .omega
       .obtain⟨p',rfl⟩:∃p',p=p'+1:=⟨p-1,by omega⟩
        let⟨g1,g2,g3⟩:=F2 ops.size hp
        have hmD:listed.getD m false=true:=by
         by_cases e:m=p'
         .subst e;exact g2
         .rcases gS _ hord m p' (by omega) g1 with h' | ⟨(h' | h') | ⟨e1,e2,_⟩,_⟩
          .exact hI.closed m p' g1 g2 h'
          .rw[hmq] at h';cases h'
          .rw[g3] at h';cases h'
          .cases hd:listed.getD m false with
           | true=>rfl
           | false=>
            exfalso
            subst e1 e2
            exact hodd<|by simp[uX,g2,hd]
        have:=hI.closed k m hm hmD h
        rw[hkD] at this
        cases this
      .exact .inr h
     have hsame:c.H=(S k).heap->∃st',cH P cf fl ao ⟨(S k).tmps,c.H⟩=some st'/\st'.tmps=(S<|k+1).tmps/\st'.heap=c.H:=by
      intro e
      refine⟨S<|k+1,by rw[e];exact hev,rfl,?_⟩
      rw[e]
      exact KU hqo hev
     have hwant:∀(hop:∀v H1,aL P cf fl ao.op (S k).tmps (S k).heap=some (v,H1)->aL P cf fl ao.op (S k).tmps c.H=some (v,c.H)),∃st',cH P cf fl ao ⟨(S k).tmps,c.H⟩=some st'/\st'.tmps=(S<|k+1).tmps/\st'.heap=c.H:=by
      intro hop
      unfold cH at hev |-
      simp only at hev |-
      split at hev
      .rename_i hw
       split at hev
       .rename_i v H1 he
        simp only[Za] at hev
        rw[hop v H1 he]
        exact⟨_,rfl,by rw[<-hev],rfl⟩
       .cases hev
      .rename_i hw
       simp only[Za] at hev
       exact⟨_,rfl,by rw[<-hev],rfl⟩
      .cases hev
     by_cases hn:fR aops k=true
     .have hno:xN ao.op=true:=by simpa [fR,hao] using hn
      exact hwant λv H1 he=>KW hno he
     .have hmid:∀m,m<ops.size->bJ aops m=false->((p<=m/\m<k)\/(k<=m/\m<p))->(k,m)∈ck:=by
       intro m h1 h2 h3
       rcases hbetween m h1 h2 h3 with h | h
       .exact (hn h).elim
       .exact h
      by_cases hg:eD (S k).tmps ao.guard=some false
      .unfold cH at hev |-
       simp only[hg] at hev |-
       simp only[Za] at hev
       exact⟨_,rfl,by rw[<-hev],rfl⟩
      by_cases hex:∃m,m<ops.size/\bJ aops m=false/\((p<=m/\m<k)\/(k<=m/\m<p))
      .let⟨m0,q1,q2,q3⟩:=hex
       rcases hck k m0 (hmid m0 q1 q2 q3) ao hao with h | h | ⟨id,h,_⟩
       .exact (hg h).elim
       .exact hwant λv H1 he=>Dm h (λid hid=>by cases hid) he
       .refine hwant λv H1 he=>Dm h (λid' hid=>?_) he
        cases hid
        have hsts:∀m,m<ops.size->bJ aops m=false->((p<=m/\m<k)\/(k<=m/\m<p))->(S<|m+1).heap[id]?=(S m).heap[id]?:=by
         intro m h1 h2 h3
         rcases hck k m (hmid m h1 h2 h3) ao hao with g | g | ⟨id2,g,g2⟩
         .exact (hg g).elim
         .rw[h] at g;cases g
         .rw[h] at g;cases g;exact g2
        rw[hcH]
        rcases WB p k with hle | hle
        .exact (hkeep id p k hle (by omega) λm g1 g2 g3=>hsts m (by omega) g3<|.inl ⟨g1,g2⟩).symm
        .exact hkeep id k p hle hpl λm g1 g2 g3=>hsts m (by omega) g3<|.inr ⟨g1,g2⟩
      .refine hsame ?_
       rw[hcH]
       apply Ym
       intro id
       rcases WB p k with hle | hle
       .exact (hkeep id p k hle (by omega) λm g1 g2 g3=>(hex ⟨m,by omega,g3,.inl ⟨g1,g2⟩⟩).elim).symm
       .exact hkeep id k p hle hpl λm g1 g2 g3=>(hex ⟨m,by omega,g3,.inr ⟨g1,g2⟩⟩).elim
theorem MZ[aF]: ∀(aops:List bE) (st:St) (l:List St),vB P cf fl aops st=some l->
 ∃S:Nat->St,S 0=st/\l.getLast?=some (S aops.length)/\(∀k,k<=aops.length->l[k]?=some (S k))/\∀k ao,aops[k]?=some ao->cH P cf fl ao (S k)=some (S<|k+1)
 | [],st,l,h=>by
  simp only[vB,Za] at h;subst h;exact⟨λ_=>st,rfl,rfl,λk a=>by have:=(by simpa using a);subst this;rfl,λk ao a=>by simp at a⟩
 | o::r,st,l,h=>by
  simp only[vB] at h;split at h
  .rename_i b i;split at h
   .rename_i c d;let⟨S,e,e2,g,f⟩:=MZ r b c d;refine⟨λk=>match k with | 0=>st | k+1=>S k,rfl,?_,?_,λk ao a=>?_⟩
    .grind
    .grind
    .grind
   .cases h
  .cases h
theorem aBg[aF]{ops:List bE}{l:List St}: ∀{c:List<|Nat×Nat},TZ ops l c=true->∀k m,(k,m)∈c->aFe ops l k m=true
 | [],_,k,m,h=>by cases h
 | (a,b)::r,h,k,m,d=>by
  simp only[TZ] at h;split at h
  .rename_i f;rcases ZN.1 d with e | e
   .grind
   .exact aBg h k m e
  .cases h
theorem ER[aF]: ∀(aops:List bE) (st:St) (l:List St),vB P cf fl aops st=some l->iN P cf fl aops st=l.getLast?
 | [],st,l,h=>by
  simp only[vB,Za] at h;subst h;rfl
 | o::r,st,l,h=>by
  simp only[vB] at h;split at h
  .rename_i a f;split at h
   .rename_i c d;cases h;have i:=ER r a c d;have b:c≠[]:=by
     intro e;subst e;let⟨S,_,g,_⟩:=MZ r a [] d;simp at g
    simp only[iN,f,i];rw[List.getLast?_cons_of_ne_nil b]
   .cases h
  .cases h
theorem aFd[aF](hfo:tM cf){ck:List<|Nat×Nat}{aops:List bE}{st st':St}{l:List St}(hl:vB P cf fl aops st=some l)(hck:TZ aops l ck=true)(h:l.getLast?=some st'):
 ∃S:Nat->St,S 0=st/\S aops.length=st'/\(∀k,k<=aops.length->l[k]?=some (S k))/\(∀k ao,aops[k]?=some ao->cH P cf fl ao (S k)=some (S<|k+1)) /\
  ∀k m,(k,m)∈ck->∀ao,aops[k]?=some ao->eD (S k).tmps ao.guard=some false\/cY ao.op (S k).tmps=some none\/∃id,cY ao.op (S k).tmps=some (some id)/\(S<|m+1).heap[id]?=(S m).heap[id]?:=by
 let⟨S,e1,e2,e3,e4⟩:=MZ aops st l hl;rw[e2] at h;cases h;refine⟨S,e1,rfl,e3,e4,λk m hm ao hao=>?_⟩;have:=aBg hck k m hm;unfold aFe at this
 have hk:=(Ze.1 hao).1
 simp only[hao,e3 k<|by omega] at this
 split at this
 .grind
 .split at this
  .grind
  .rename_i id hs
   refine .inr<|.inr ⟨id,hs,?_⟩
   split at this
   .rename_i om hom
    have hm':=(Ze.1 hom).1
    simp only[e3 m<|by omega] at this
    have hev:=e4 m om hom
    unfold cH at hev
    split at this
    .grind
    .rename_i hw
     split at hev
     .split at hev
      .rename_i he
       simp at hev
       rw[<-hev]
       exact I7 hfo this he
      .grind
     .grind
     .grind
   .grind
  .grind
theorem aJm[aF](hfo:tM cf){ck:List<|Nat×Nat}{aops:List bE}{st st':St}(hm:PK ck=none)(h:wR P cf fl ck aops st=some st'):
 ∃S:Nat->St,S 0=st/\S aops.length=st'/\(∀k ao,aops[k]?=some ao->cH P cf fl ao (S k)=some (S<|k+1)) /\
  ∀k m,(k,m)∈ck->∀ao,aops[k]?=some ao->eD (S k).tmps ao.guard=some false\/cY ao.op (S k).tmps=some none\/∃id,cY ao.op (S k).tmps=some (some id)/\(S<|m+1).heap[id]?=(S m).heap[id]?:=by
 cases ck with
 | nil=>let⟨S,e1,e2,e3⟩:=aDs aops st st' h;exact⟨S,e1,e2,e3,λk m hm=>by cases hm⟩
 | cons x r=>
  have hb:Nat.beq x.1 x.2=false:=by
   cases e:Nat.beq x.1 x.2 with
   | false=>rfl
   | true=>simp only[PK,e] at hm;cases hm
  simp only[wR,hb] at h;split at h
  .rename_i l hl;split at h
   .rename_i hck;let⟨S,a,b,_,d,e⟩:=aFd hfo hl hck h;exact⟨S,a,b,d,e⟩
   .cases h
  .cases h
theorem aAH{ck:List<|Nat×Nat}{m:Nat}(h:PK ck=some m): ∃r,ck=(m,m)::r:=by
 cases ck with
 | nil=>cases h
 | cons x r=>
  simp only[PK] at h;split at h
  .rename_i e;cases h;let⟨a,b⟩:=x;have:a=b:=Zc e;subst this;exact⟨r,rfl⟩
  .cases h
theorem aDJ[aF](hfo:tM cf){r:List<|Nat×Nat}{m:Nat}{aops:List bE}{st st':St}(h:wR P cf fl ((m,m)::r) aops st=some st'):
 ∃(S:Nat->St)(l:List St),S 0=⟨st.tmps,st.heap++[.blk (phZ aops m).length [(phZ aops m).map .lit]]⟩/\S (eW aops m st.heap.length).length=st'/\(∀k,k<=(eW aops m st.heap.length).length->l[k]?=some (S k))/\(∀k ao,(eW aops m st.heap.length)[k]?=some ao->cH P cf fl ao (S k)=some (S<|k+1)) /\
  (∀k m',(k,m')∈r->∀ao,(eW aops m st.heap.length)[k]?=some ao->eD (S k).tmps ao.guard=some false\/cY ao.op (S k).tmps=some none\/∃id,cY ao.op (S k).tmps=some (some id)/\(S<|m'+1).heap[id]?=(S m').heap[id]?) /\
  Qi st.heap.length m (eW aops m st.heap.length) l=true/\iN P cf fl (eW aops m st.heap.length) ⟨st.tmps,st.heap++[.blk (phZ aops m).length [(phZ aops m).map .lit]]⟩=some st':=by
 have hb:Nat.beq m m=true:=Y5 m
 simp only[wR,hb] at h;split at h
 .rename_i l hl;split at h
  .rename_i hck;split at h
   .rename_i hk;let⟨S,a,b,c,d,e⟩:=aFd hfo hl hck h;exact⟨S,l,a,b,c,d,e,hk,by rw[ER _ _ _ hl];exact h⟩
   .cases h
  .cases h
 .cases h
theorem xA{n:Nat}: ∀{l:List bE}{m:Nat},(eW l m n).length=l.length
 | [],_=>rfl
 | _::_,0=>rfl
 | _::r,m+1=>by simp only[eW,Yc,xA (l:=r)]
theorem Ov{n:Nat}: ∀{l:List bE}{m k:Nat},k≠m->(eW l m n)[k]?=l[k]?
 | [],_,_,_=>rfl
 | _::_,0,0,h=>absurd rfl h
 | _::_,0,_+1,_=>rfl
 | _::_,_+1,0,_=>rfl
 | _::r,m+1,k+1,h=>by simp only[eW,ZL];exact Ov (l:=r) λe=>h<|by rw[e]
theorem HZ{n:Nat}: ∀{l:List bE}{m:Nat},(eW l m n)[m]?=match l[m]? with
  | some o=>some ⟨o.dst,.ptrK n,none⟩
  | none=>none
 | [],_=>rfl
 | _::_,0=>rfl
 | _::r,m+1=>by simp only[eW,ZL];exact HZ (l:=r)
def Ox(a b:List bE): Prop:=∀k:Nat,a[k]?=b[k]?\/∃d n n',a[k]?=some ⟨d,.ptrK n,none⟩/\b[k]?=some ⟨d,.ptrK n',none⟩
theorem aFJ(l:List bE)(m n n':Nat): Ox (eW l m n) (eW l m n'):=λk=>by
 by_cases e:k=m
 .subst e;rw[HZ,HZ];cases l[k]? with
  | none=>exact .inl rfl
  | some o=>exact .inr ⟨_,_,_,rfl,rfl⟩
 .rw[Ov e,Ov e];exact .inl rfl
section
variable {a b:List bE}(h:Ox a b)
include h
theorem Ox.q(k:Nat): bJ a k=bJ b k:=by
 unfold bJ;rcases h k with e | ⟨_,_,_,e,f⟩
 .rw[e]
 .rw[e,f];rfl
theorem Ox.n(k:Nat): fR a k=fR b k:=by
 unfold fR;rcases h k with e | ⟨_,_,_,e,f⟩
 .rw[e]
 .rw[e,f];rfl
theorem Ox.al(k:Nat): eB a k=eB b k:=by
 unfold eB;rcases h k with e | ⟨d,_,_,e,f⟩
 .rw[e]
 .rw[e,f]
theorem Ox.sw(g:a.length=b.length)(an:List Nat): ∀n i,nS a an n i=nS b an n i
 | 0,_=>g
 | n+1,i=>by simp only[nS,h.al,Ox.sw g an n]
theorem Ox.ord(w:Nat)(an:List Nat): ∀n,Bz w a an n=Bz w b an n
 | 0=>rfl
 | n+1=>by
  simp only[Bz,Ox.ord w an n,h.q,h.al];congr 1;congr 1;funext i;congr 1;congr 1
  rcases h i with e | ⟨_,_,_,e,f⟩<;>rcases h n with e' | ⟨_,_,_,e',f'⟩
  .rw[e,e']
  .rw[e,e',f'];cases b[i]? <;> rfl
  .rw[e,f,e'];cases b[n]? <;> rfl
  .rw[e,f,e',f'];rfl
theorem Ox.any(g:a.length=b.length)(ck:List<|Nat×Nat)(an:List Nat)(n:Nat): M8 a ck an n=M8 b ck an n:=by
 unfold M8 aB5 i7;simp only[h.sw g,h.ord,h.q,h.n]
end
theorem aAM[aF]{n:Nat}: ∀{m:Nat}{l:List bE}{ss:List St},Qi n m l ss=true->∀k,k<m->∀o s,l[k]?=some o->ss[k]?=some s->fE o.op=true\/eD s.tmps o.guard=some false\/kY o.op s.tmps s.heap.length n=true
 | 0,_,_,_,k,h,_,_,_,_=>by omega
 | _+1,[],_,h,_,_,_,_,_,_=>by cases h
 | _+1,_::_,[],h,_,_,_,_,_,_=>by cases h
 | m+1,o::r,s::l,h,k,hk,o',s',ho,hs=>by
  simp only[Qi] at h;split at h
  .rename_i g;cases k with
   | zero=>
    cases ho;cases hs;split at g
    .rename_i q;exact .inl q
    .split at g
     .rename_i q;exact .inr<|.inl q
     .exact .inr<|.inr g
   | succ k=>exact aAM h k (by omega) o' s' ho hs
  .cases h
theorem QR[aF](hfo:tM cf){a:List<|Nat×Nat}{aops:List bE}{st st':St}(h:wR P cf fl a aops st=some st'): (PK a=none/\iN P cf fl aops st=some st')\/∃(m n:Nat)(z:List Value),PK a=some m/\iN P cf fl (eW aops m n) ⟨st.tmps,st.heap++[.blk z.length [z.map .lit]]⟩=some st':=by
 cases e:PK a with
 | none=>
  refine .inl ⟨rfl,?_⟩;cases a with
  | nil=>exact h
  | cons x r=>
   have hb:Nat.beq x.1 x.2=false:=by
    cases e':Nat.beq x.1 x.2 with
    | false=>rfl
    | true=>simp only[PK,e'] at e;cases e
   simp only[wR,hb] at h;split at h
   .rename_i l hl;split at h
    .rw[ER _ _ _ hl];exact h
    .cases h
   .cases h
 | some m=>obtain⟨r,rfl⟩:=aAH e;let⟨_,_,_,_,_,_,_,_,g⟩:=aDJ hfo h;exact .inr ⟨m,_,_,rfl,g⟩
theorem aKy[aF]{aops:List bE}{S:Nat->St}(L:∀k ao,aops[k]?=some ao->cH P cf fl ao (S k)=some (S<|k+1)): ∃val:Nat->AV,∀k ao,aops[k]?=some ao->(S<|k+1).tmps=hM (S k).tmps ao.dst (val k):=by
 have:∀k,∃x,∀ao,aops[k]?=some ao->(S<|k+1).tmps=hM (S k).tmps ao.dst x:=by
  intro k;cases U:aops[k]? with
  | none=>simp_all
  | some ao=>
   let⟨x,M,_⟩:=KV (λ_ _=>rfl)<|L k ao U;exact⟨x,λN h=>by cases h;exact M⟩
 exact⟨λk=>Classical.choose<|this k,λk=>Classical.choose_spec<|this k⟩
theorem aLd(n j:Nat): (Array.replicate n false).getD j false=false:=by
 simp only[Yf,XN];split<;>rfl
theorem aDH[aF](V:P.follows .mixedOrders=true)(q:tM cf)(r:Bh P T cf)(u:nH P T){id pm:Nat}{B:List<|Nat×Nat}{ops:Array Oper}{aops:List bE}{tm:List AV}{c:dA}{a:Act}{st':St}{Q:Exit->Act->World->Prop}(z:Ay P T ops aops ops.toList=true)(W:M8 (eW aops pm 0) B (tK ops.toList ops.size []) ops.size=true)(Y:eB aops pm=true)(X:∀k,k<ops.size->pm<k->bJ aops k=true\/((tK ops.toList ops.size []).getD k 0).testBit pm=true)(R:SB ops.toList ops.size=true)(K:bX (aJ T) c)(s:TR (aJ T) c tm a.tmps)(t:fl<=c.H.length)(g:wR P cf fl ((pm,pm)::B) aops ⟨tm,c.H⟩=some st')(D:∀a' c',c'.H=st'.heap->bW fl c c'->bX (aJ T) c'->TR (aJ T) c' st'.tmps a'.tmps->a'.defers=a.defers->Q .normal a' c'.w): (Code.region id ops true).wp P Q a c.w:=by
 let⟨p,hg⟩:=xF z
 have d:aops.length=ops.size:=by simpa using p
 let⟨S,l,I,e2,e3,L,y,kp,_⟩:=aDJ q g
 simp only at I e2 e3 L y kp
 have dl:(eW aops pm c.H.length).length=ops.size:=xA.trans d
 let⟨val,e⟩:=aKy L
 rw[Ox.any (aFJ aops pm 0 c.H.length) (by rw[xA,xA])] at W
 unfold M8 at W
 simp only[Zd] at W
 let⟨W,E⟩:=W
 let⟨d0,z0,hz⟩:=jE Y
 have hz0:phZ aops pm=z0:=by simp only[phZ,hz]
 rw[hz0] at I
 refine wp_region_any V ?_
 have J:Ei c.w { c.w with drawn:=c.w.drawn+1 }:=⟨rfl,rfl,rfl,rfl,Ys _⟩
 have l1:=xW (fl:=fl) J
 have K1:=K.drawn J
 have le:∀e∈[z0.map AV.lit],e.length=z0.length:=by intro e he;simp at he;subst he;simp
 have K2:=aRb (es:=[z0.map AV.lit]) (s:=z0.length) K1 le
 have l2:=aHp (c:=⟨{ c.w with drawn:=c.w.drawn+1 },c.X,c.β,c.H⟩) (s:=z0.length) (es:=[z0.map AV.lit]) (fl:=fl) t
 have hpmA:(eW aops pm c.H.length)[pm]?=some ⟨some d0,.ptrK c.H.length,none⟩:=by rw[HZ,hz]
 have keeps:∀k,k<pm->pm<ops.size->bJ (eW aops pm c.H.length) k=false->(S<|k+1).heap[c.H.length]?=(S k).heap[c.H.length]?:=by
  intro k hk hp hq
  have hlt:k<(eW aops pm c.H.length).length:=by omega
  have ho:(eW aops pm c.H.length)[k]?=some (eW aops pm c.H.length)[k]:=by simp [hlt]
  have hev:=L k _ ho
  rcases aAM kp k hk _ _ ho (e3 k (by omega)) with h | h | h
  .simp only[bJ,ho,h] at hq;cases hq
  .unfold cH at hev;rw[h] at hev;simp only[Za] at hev;rw[<-hev]
  .unfold cH at hev;split at hev
   .split at hev
    .rename_i he;simp only[Za] at hev;rw[<-hev];exact I7 q h he
    .cases hev
   .simp only[Za] at hev;rw[<-hev]
   .cases hev
 refine aBl (c0:=⟨{ c.w with drawn:=c.w.drawn+1 },c.X,c.β,c.H⟩) (ds:=a.defers) (pm:=pm) (n0:=c.H.length) (zp:=z0) r u dl (λk o h=>?_) (λh=>?_) (λ_=>Zf _) (λ_=>?_) keeps (λh k h1 h2=>?_) W E.1 R I (by simp) L e y (SN dl) (w7 E.2) q t ?_ ops.size (Array.replicate ops.size false) a ⟨{ c.w with drawn:=c.w.drawn+1 },c.X,c.β,c.H++[.blk z0.length [z0.map .lit]]⟩ ?_ ?_
 .let⟨ao,h1,h2⟩:=hg k o (by simpa using h)
  by_cases e:k=pm
  .subst e;exact⟨_,hpmA,λn=>absurd rfl n⟩
  .exact⟨ao,by rw[Ov e];exact h1,λ_=>h2⟩
 .refine⟨d0,hpmA,λo ho=>?_⟩
  let⟨ao,h1,h2⟩:=hg pm o (by simpa using ho)
  rw[hz] at h1;cases h1;exact h2
 .rw[I];simp
 .rcases X k h2 h1 with e | e
  .refine .inl ?_;unfold bJ at e |-;rw[Ov (by omega)];exact e
  .exact .inr e
 .intro a' c' f1 f2 Y F Z;rw[<-dl,e2] at f1 F;exact D a' c' f1 (l1.trans f2) Y F Z
 .unfold unl;exact ZB (List.length_filter_le _ _)<|by simp
 .have v:∀j,(Array.replicate ops.size false).getD j false=false:=aLd _
  refine⟨by simp,K2,l2,rfl,(λi j _ C _=>by rw[v] at C;cases C),?_,?_,λ_ _=>⟨by simp,?_,by simp⟩⟩
  .have A:iW (eW aops pm c.H.length) tm val (λj=>(Array.replicate ops.size false).getD j false) ops.size=tm:=
    Cp ops.size (ZG _) λj _ _=>v j
   rw[A];exact s.step (l1.trans l2)
  .have n:uX (λj=>(Array.replicate ops.size false).getD j false) (nS (eW aops pm c.H.length) (tK ops.toList ops.size []) ops.size 0)=false:=by simp only[uX,v,Bool.false_and]
   rw[hpH,ZF<|by rw[n];exact XF,kX ops.size (ZG _) λj _ _ _=>v j];simp only[gU,I]
  .show c.β c.H.length=none
   cases e:c.β c.H.length with
   | none=>rfl
   | some b=>have:=K.dom _ _ e;omega
theorem aBF[aF](V:P.follows .mixedOrders=true)(q:tM cf)(r:Bh P T cf)(u:nH P T){id:Nat}{B:List<|Nat×Nat}{b:Bool}{ops:Array Oper}{aops:List bE}{tm:List AV}{c:dA}{a:Act}{st':St}{Q:Exit->Act->World->Prop}(m:gJ P T (.region b B aops) (.region id ops b)=true)(K:bX (aJ T) c)(s:TR (aJ T) c tm a.tmps)(t:fl<=c.H.length)(g:wR P cf fl B aops ⟨tm,c.H⟩=some st')(D:∀a' c',c'.H=st'.heap->bW fl c c'->bX (aJ T) c'->TR (aJ T) c' st'.tmps a'.tmps->a'.defers=a.defers->Q .normal a' c'.w): (Code.region id ops b).wp P Q a c.w:=by
 simp only[gJ,Zd] at m;let⟨⟨_,z⟩,G⟩:=m;let⟨p,_⟩:=xF z;cases b with
 | false=>
  refine Xc ?_;rcases QR q g with ⟨_,g⟩ | ⟨_,_,_,k,_⟩
  .have:=Ca r u aops ops.toList 0 c a tm st' z (λj o O=>by simpa using O) K s t g D;rw[List.range_eq_range'];grind
  .simp only[k,Option.isNone] at G;cases G
 | true=>
  simp only[Zd] at G;let⟨⟨G1,G2⟩,R⟩:=G
  cases hm:PK B with
  | some pm=>
   obtain⟨r',rfl⟩:=aAH hm
   simp only[aRA,ckK,aU3,hm,List.tail] at G1 G2
   simp only[Zd,Yl,Ws,YU] at G2
   refine aDH V q r u z G1 G2.1 (λk h1 h2=>?_) R K s t g D
   rcases G2.2 k h1 with (e | e) | e
   .have:=Zj e;omega
   .exact .inl e
   .exact .inr e
  | none=>
   simp only[aRA,ckK,hm,M8,Zd] at G1;let⟨W,E⟩:=G1;let⟨S,I,e2,L,y⟩:=aJm q hm g;let⟨val,e⟩:=aKy L;have d:=by simpa using p
   refine wp_region_any V ?_;have J:Ei c.w { c.w with drawn:=c.w.drawn+1 }:=⟨rfl,rfl,rfl,rfl,Ys _⟩;have l:=xW (fl:=fl) J;refine aBl (c0:=⟨{ c.w with drawn:=c.w.drawn+1 },c.X,c.β,c.H⟩) (ds:=a.defers) (pm:=ops.size) (n0:=0) (zp:=[]) r u d (λk o h=>let ⟨ao,h1,h2⟩:=(xF z).2 k o (by simpa using h);⟨ao,h1,λ_=>h2⟩) (λh=>absurd h (Nat.lt_irrefl _)) (λh=>absurd h (Nat.lt_irrefl _)) (λh=>absurd h (Nat.lt_irrefl _)) (λ_ _ h=>absurd h (Nat.lt_irrefl _)) (λh=>absurd h (Nat.lt_irrefl _)) W E.1 R I (Zf _) L e y (SN d) (w7 E.2) q t ?_ ops.size (Array.replicate ops.size false) a ⟨{ c.w with drawn:=c.w.drawn+1 },c.X,c.β,c.H⟩ ?_ ?_
   .intro a' c' f1 f2 Y F Z;rw[<-d,e2] at f1 F;exact D a' c' f1 (l.trans f2) Y F Z
   .unfold unl;exact ZB (List.length_filter_le _ _)<|by simp
   .have v:=aLd ops.size
    refine⟨by simp,K.drawn J,bW.refl _ _,rfl,(λi j _ C _=>by rw[v] at C;cases C),?_,?_,λh=>absurd h (Nat.lt_irrefl _)⟩
    .have A:iW aops tm val (λj=>(Array.replicate ops.size false).getD j false) ops.size=tm:=
      Cp ops.size (ZG _) λj _ _=>v j
     rw[A];exact s.step l
    .have n:uX (λj=>(Array.replicate ops.size false).getD j false) (nS aops (tK ops.toList ops.size []) ops.size 0)=false:=by simp only[uX,v,Bool.false_and]
     rw[hpH,ZF<|by rw[n];exact XF,kX ops.size (ZG _) λj _ _ _=>v j];simp only[gU,I]
end
section
variable {FT:Nat->Option Nat}
theorem Kw[aF]{c:dA}: ∀(l:List Bool) (tm:List AV) (tv:Array Value),TR FT c tm tv->TR FT c (cU l tm) tv:=by
 intro l tm tv h;have f:∀(l:List Bool) (tm:List AV),(cU l tm).length=tm.length/\∀(t:Nat) (x:AV),(cU l tm)[t]?=some x->x=.undef\/tm[t]?=some x:=by
  intro l;induction l with
  | nil=>
   intro tm;cases tm with
   | nil=>exact⟨rfl,λt x a=>by simp[cU] at a⟩
   | cons v vs=>
    refine⟨by simp[cU],λt x a=>?_⟩;simp only[cU] at a;grind
  | cons b k i=>
   intro tm;cases tm with
   | nil=>exact⟨rfl,λt x a=>by simp[cU] at a⟩
   | cons v vs=>
    let⟨d,e⟩:=i vs;refine⟨by simp[cU,d],λt x a=>?_⟩;cases t with
    | zero=>
     simp only[cU] at a |-;grind
    | succ t=>
     exact e t x a
 let⟨d,e⟩:=f l tm;refine⟨d.trans h.1,λt x a=>?_⟩;rcases e t x a with rfl | g
 .have j:t<tv.size:=by rw[<-h.1,<-d];exact (Ze.1 a).1
  exact⟨tv[t],by simp,RV.undef _⟩
 .exact h.2 t x g
structure Sub(n:Nat)(c c':dA): Prop where
 w:c'.w=c.w
 X:c'.X=c.X
 lo:∀id,id<n->c'.β id=c.β id
 img:∀id b,c'.β id=some b->∃i,c.β i=some b
 shp:∀id,id<n->shp c'.H id=shp c.H id
 mp:∀id,id<n->Cn c.H id->Cn c'.H id
theorem Sub.imm{n:Nat}{c c':dA}(h:Sub n c c'){b:Nat}(e:lE c b): lE c' b:=by
 refine⟨by rw[h.X];exact e.1,λid a=>?_⟩;let⟨i,d⟩:=h.img id b a;exact e.2 i d
theorem Sub.vis{n:Nat}{c c':dA}(h:Sub n c c'){b:Nat}(e:Vis c b): Vis c' b:=by
 intro id a;let⟨i,d⟩:=h.img id b a;exact e i d
theorem Sub.rp[aF]{n:Nat}{c c':dA}(h:Sub n c c'){x:AV}{v:Value}(a:RP c.w (lE c) x v): RP c'.w (lE c') x v:=
 a.mono λb o e d=>⟨h.imm e,by rw[h.w];exact d⟩
theorem aBf[aF]{n:Nat}{c c':dA}(h:Sub n c c'){x:AV}{v:Value}(S:RV FT c x v): RV FT c' (mT n x) v:=by
 cases S with
 | pure _ _ X=>
  have H:=h.rp X;cases H with
  | undef v=>exact .pure _ _<|.undef v
  | lit v=>exact .pure _ _<|.lit v
  | nil f a cap W=>exact .pure _ _<|.nil f a cap W
  | sl f es b off cap cc T u s d p o r q y B J Y=>exact .pure _ _<|.sl f es b off cap cc T u s d p o r q y B J Y
  | sptr cs b off cc T u d p o r q=>exact .pure _ _<|.sptr cs b off cc T u d p o r q
  | rmp A b es F d p o r q y B=>exact .pure _ _<|.rmp A b es F d p o r q y B
 | ms id tot off len a cap s m l k t C=>
  simp only[mT];split
  .rename_i g;refine .ms id tot off len a cap s m ((h.shp id g).trans l) k t λe=>?_;let⟨m1,V⟩:=C e;refine⟨m1,?_⟩;rcases V with⟨I,E,G,K⟩ | ⟨b,cs,T,a',I,E,G,K,U⟩
   .exact .inl ⟨(h.lo id g).trans I,E,G,K⟩
   .exact .inr ⟨b,cs,T,a',(h.lo id g).trans I,by rw[h.w];exact E,G,K,U⟩
  .exact RV.undef _
 | ptr id tot D off a s m l k t=>
  simp only[mT];split
  .rename_i g;refine .ptr id tot D off a s m ((h.shp id g).trans l) k λe=>?_;let⟨b,R,ha⟩:=t e;exact⟨b,(h.lo id g).trans R,ha⟩
  .exact RV.undef _
 | rptr cs b off cc T u d l k t C=>exact .rptr cs b off cc T u d (h.vis l) (by rw[h.w];exact k) t λj x z=>h.rp<|C j x z
 | vnil a cap=>exact .vnil a cap
 | vw es b off cap cc T u s d p o r q y B J=>exact .vw es b off cap cc T u s d p (h.vis o) (by rw[h.w];exact r) q y B λi j x z=>h.rp<|J i j x z
 | mp id b l k=>
  simp only[mT];split
  .rename_i g;exact .mp id b (h.mp id g l)<|(h.lo id g).trans k
  .exact RV.undef _
 | it id b l k=>
  simp only[mT];split
  .rename_i g;exact .it id b (h.mp id g l)<|(h.lo id g).trans k
  .exact RV.undef _
 | fn vi f caps cv d l k t C=>
  cases caps with
  | nil=>exact .fn vi f [] cv d l k t λi x z=>by simp at z
  | cons _ _=>exact RV.undef _
 | agg=>exact RV.undef _
 | tup=>exact RV.undef _
theorem Jd[aF]{n:Nat}{c c':dA}(h:Sub n c c'){x:AV}{v:Value}(e:RV FT c x v): RV FT c' (jW n x) v:=by
 unfold jW;split
 .rename_i vi caps;cases e with
  | pure _ _ g=>cases g
  | fn _ f _ cv a l k o j=>
   refine .fn vi f _ cv a l (by simpa using k) ?_ ?_
   .grind
   .intro i x b;simp at b;obtain⟨y,m,rfl⟩:=b;exact aBf h<|j i y m
 .exact aBf h e
theorem Tw[aF]{n:Nat}{c c':dA}(h:Sub n c c'){x:AV}{v:Value}(b:RV FT c x v): RV FT c' (Sd n x) v:=by
 unfold Sd;split
 .rename_i cs;obtain⟨cv,a,rfl,e,j,g⟩:=b.agg_inv;refine .agg _ cv a (by simpa using e) ?_ ?_
  .grind
  .intro i x d;simp at d;obtain⟨y,f,rfl⟩:=d;exact Jd h<|g i y f
 .exact Jd h b
theorem aBe[aF]{n:Nat}{c c':dA}(h:Sub n c c'){x:AV}{v:Value}(b:RV FT c x v): RV FT c' (Sc n x) v:=by
 unfold Sc;split
 .rename_i cs;obtain⟨cv,a,rfl,e,j,g⟩:=b.tup_inv;refine .tup _ cv a (by simpa using e) ?_ ?_
  .grind
  .intro i x d;simp at d;obtain⟨y,f,rfl⟩:=d;exact Tw h<|g i y f
 .exact Tw h b
def kH(fl n:Nat)(c:dA): dA:=
 ⟨c.w,c.X,λid=>if id<n then c.β id else none,c.H.take fl++((c.H.take n).drop fl).map (bY n)⟩
theorem Fv{fl n:Nat}{c:dA}(a:fl<=n)(b:n<=c.H.length)(id:Nat):
 (kH fl n c).H[id]?=if id<fl then c.H[id]? else if id<n then (c.H[id]?).map (bY n) else none:=by
 simp only[kH];grind
theorem pI{fl n:Nat}{c:dA}(a:fl<=n)(b:n<=c.H.length): (kH fl n c).H.length=n:=by
 simp only[kH,Zh,ZH,ZO,ZV];omega
theorem Fu[aF]{fl n:Nat}{c:dA}(f:fl<=n)(i:n<=c.H.length): Sub n c (kH fl n c) where
 w:=rfl;X:=rfl;lo:=λid a=>by simp[kH,a]
 img:=λid b l=>by
  simp only[kH] at l;grind
 shp:=λid a=>by
  have r:=Fv f i id;unfold shp;rw[r];by_cases h:id<fl
  .grind
  .rw[ZF h,Zu a];cases c.H[id]? with
   | none=>rfl
   | some o=>cases o<;>simp[bY]
 mp:=λid a j=>by
  let⟨d,he,g⟩:=j;simp only[Cn,Fv f i,he];split
  .grind
  .refine⟨bY n d,by simp,?_⟩;cases d with
   | blk=>exact g
   | mp=>trivial
   | raw=>trivial
theorem CQ[aF]{fl:Nat}{c0 c:dA}(v:bX FT c0)(h:bW fl c0 c)(f:fl<=c0.H.length): bW fl c0<|kH fl c0.H.length c:=by
 have d:=Fu f h.len;have i:=Fv f h.len;have l:∀id r,shp c0.H id=some r->id<c0.H.length:=λid r u=>by
  rcases ZI id c0.H.length with p | p
  .grind
  .simp[shp,Zy p] at u
 refine⟨h.X,h.os,h.tape,h.output,h.drawn,h.size,by rw[pI f h.len];exact Zf _,h.frame,?_,?_,?_,?_⟩
 .intro id b m;simp only[kH] at m;split at m
  .exact h.img id b m
  .grind
 .intro id s n o;let⟨w,g,j,k⟩:=h.blkS id s n o;have a:=l id _ o;exact⟨w,(d.shp id a).trans g,j,λe=>⟨(d.lo id a).trans (k e).1,(k e).2⟩⟩
 .intro id q;have a:id<c0.H.length:=by
   let⟨t,he,_⟩:=q;grind
  let⟨g,j⟩:=h.mpS id q;exact⟨d.mp id a g,(d.lo id a).trans j⟩
 .intro id a;let⟨g,j,k⟩:=h.floor id a;exact⟨by rw[i,Zu a];exact g,(d.lo id<|by omega).trans j,k⟩
theorem aAq[aF]{fl:Nat}{c0 c:dA}(hs0:bX FT c0)(hs:bX FT c)(h:bW fl c0 c)(hfl:fl<=c0.H.length): bX FT<|kH fl c0.H.length c:=by
 have hsub:=Fu hfl h.len
 have hget:=Fv hfl h.len
 have hst:=CQ hs0 h hfl
 have hβ:∀id b,(kH fl c0.H.length c).β id=some b->id<c0.H.length/\c.β id=some b:=by
  intro id b hb
  simp only[kH] at hb
  split at hb
  .grind
  .grind
 refine⟨hs0.gl.step hst,?_,?_,?_,hs.fresh,?_,?_,?_,?_⟩
 .intro i j b hi hj
  exact hs.inj i j b (hβ i b hi).2 (hβ j b hj).2
 .intro id b hb
  rw[pI hfl h.len];exact (hβ id b hb).1
 .intro id b hb
  exact hs.nx id b (hβ id b hb).2
 .intro id s es ho
  rw[hget] at ho
  split at ho
  .exact hs.lens id s es ho
  .split at ho
   .simp only[Zq] at ho
    let⟨o,ho1,ho2⟩:=ho
    cases o with
    | blk s' es'=>
     simp only[bY,dI.blk.injEq] at ho2
     let⟨rfl,rfl⟩:=ho2
     intro e he
     simp only[Yh] at he
     obtain⟨e0,h0,rfl⟩:=he
     simpa using hs.lens id s' es' ho1 e0 h0
    | mp ents=>simp[bY] at ho2
    | raw q=>simp[bY] at ho2
   .grind
 .intro id s es b ho hb
  let⟨hid,hb'⟩:=hβ id b hb
  rw[hget] at ho
  split at ho
  .rename_i hlo
   let⟨f1,f2,f3⟩:=h.floor id hlo
   rw[f1] at ho
   rw[f2] at hb'
   let⟨cs,T,g1,g2,g3⟩:=hs0.blk id s es b ho hb'
   exact⟨cs,T,(f3 b hb').trans g1,g2,λi j x hx=>let ⟨v,k1,k2,k3⟩:=g3 i j x hx;⟨v,k1,k2,k3.step hst⟩⟩
  .simp only[Zq] at ho
   let⟨o,ho1,ho2⟩:=ho
   cases o with
   | blk s' es'=>
    simp only[bY,dI.blk.injEq] at ho2
    let⟨rfl,rfl⟩:=ho2
    let⟨cs,T,g1,g2,g3⟩:=hs.blk id s' es' b ho1 hb'
    refine⟨cs,T,g1,by simpa using g2,λi j x hx=>?_⟩
    obtain⟨y,hy,rfl⟩:=jO hx
    let⟨v,k1,k2,k3⟩:=g3 i j y hy
    exact⟨v,k1,k2,Jd hsub k3⟩
   | mp ents=>simp[bY] at ho2
   | raw q=>simp[bY] at ho2
 .intro id ents b ho hb
  let⟨hid,hb'⟩:=hβ id b hb
  rw[hget] at ho
  split at ho
  .rename_i hlo
   let⟨f1,f2,f3⟩:=h.floor id hlo
   rw[f1] at ho
   rw[f2] at hb'
   let⟨es,clk,g1,g2,g3⟩:=hs0.map id ents b ho hb'
   exact⟨es,clk,(f3 b hb').trans g1,g2,λi k x hx=>let ⟨e,k1,k2,k3⟩:=g3 i k x hx;⟨e,k1,k2,k3.step hst⟩⟩
  .simp only[Zq] at ho
   let⟨o,ho1,ho2⟩:=ho
   cases o with
   | blk s' es'=>simp[bY] at ho2
   | mp ents'=>
    simp only[bY,dI.mp.injEq] at ho2
    subst ho2
    let⟨es,clk,g1,g2,g3⟩:=hs.map id ents' b ho1 hb'
    refine⟨es,clk,g1,by simpa using g2,λi k x hx=>?_⟩
    simp only[Zk,Zq] at hx
    let⟨⟨k0,y⟩,hy,he⟩:=hx
    obtain⟨rfl,rfl⟩:=he
    let⟨e,k1,k2,k3⟩:=g3 i k0 y hy
    exact⟨e,k1,k2,Tw hsub k3⟩
   | raw q=>simp[bY] at ho2
 .intro id q b ho hb
  let⟨hid,hb'⟩:=hβ id b hb
  rw[hget] at ho
  split at ho
  .rename_i hlo
   let⟨f1,f2,f3⟩:=h.floor id hlo
   rw[f1] at ho
   rw[f2] at hb'
   exact (f3 b hb').trans<|hs0.raw id q b ho hb'
  .simp only[Zq] at ho
   let⟨o,ho1,ho2⟩:=ho
   cases o with
   | blk s' es'=>simp[bY] at ho2
   | mp ents'=>simp[bY] at ho2
   | raw q'=>
    simp only[bY,dI.raw.injEq] at ho2
    subst ho2
    exact hs.raw id q' b ho1 hb'
theorem zB[aF]{fl:Nat}{live:Option<|List Bool}{tr:Bool}{c0 c:dA}{tm:List AV}{tv:Array Value}(d:bX FT c0)(f:bX FT c)(h:bW fl c0 c)(a:fl<=c0.H.length)(e:TR FT c tm tv):
 ∃c',c'.w=c.w/\c'.H=(dL live tr fl c0.H.length ⟨tm,c.H⟩).heap/\bW fl c0 c'/\bX FT c'/\TR FT c' (dL live tr fl c0.H.length ⟨tm,c.H⟩).tmps tv:=by
 have b:TR FT c (aAI live tm) tv:=by
  cases live with
  | none=>exact e
  | some l=>exact Kw l tm tv e
 cases tr with
 | false=>exact⟨c,rfl,by simp[dL],h,f,by simpa [dL] using b⟩
 | true=>
  refine⟨kH fl c0.H.length c,rfl,by simp[dL,kH],CQ d h a,aAq d f h a,?_⟩;simp only[dL,Zz];refine⟨by simpa using b.1,λt x g=>?_⟩;simp at g;obtain⟨y,k,rfl⟩:=g;let⟨v,i,j⟩:=b.2 t y k;exact⟨v,i,aBe (Fu a h.len) j⟩
def DJ(c:dA)(id s:Nat)(es:List<|List AV): dA:=
 ⟨c.w,c.X,λi=>if i=c.H.length then c.β id else if i=id then none else c.β i,c.H.set id (.blk s<|es++[List.replicate s .undef])++[.blk s es]⟩
theorem aBR{c:dA}{id s:Nat}{es:List<|List AV}(a:c.H[id]?=some (.blk s es))(i:Nat):
 (DJ c id s es).H[i]?=if i=c.H.length then some (.blk s es) else if i=id then some (.blk s<|es++[List.replicate s .undef]) else c.H[i]?:=by
 simp only[DJ];grind
theorem aDV[aF]{fl:Nat}{c:dA}{id s:Nat}{es:List<|List AV}(hfl:fl<=id)(hob:c.H[id]?=some (.blk s es)): bW fl c<|DJ c id s es:=by
 have hlt:=(Ze.1 hob).1;have hg:=aBR hob;have hlo:∀i o,c.H[i]?=some o->i<c.H.length:=λi o h=>(Ze.1 h).1;refine⟨rfl,rfl,rfl,rfl,Zf _,Zf _,by simp[DJ],λ_ _ _=>rfl,?_,?_,?_,?_⟩
 .intro i b hb;simp only[DJ] at hb;grind
 .intro i s' n hs;have hi:i<c.H.length:=by
   rcases ZI i c.H.length with h' | h'
   .grind
   .simp[shp,Zy h'] at hs
  by_cases h2:i=id
  .subst h2;have e:=by simp[shp,hob] at hs;omega
   let⟨rfl,rfl⟩:=e;unfold shp
   grind
  .refine⟨n,?_,Zf _,λ_=>⟨?_,λb cs T _ hb=>⟨cs,hb,rfl⟩⟩⟩
   .unfold shp
    rw[hg,ZF<|by omega,ZF h2]
    exact hs
   .simp only[DJ]
    rw[ZF<|by omega,ZF h2]
 .intro i hm
  let⟨o,ho,hnb⟩:=hm
  have hi:=hlo i o ho
  have h2:i≠id:=by
   intro e
   subst e
   rw[hob] at ho
   cases ho
   exact hnb
  refine⟨⟨o,by rw[hg,ZF<|by omega,ZF h2];exact ho,hnb⟩,?_⟩
  simp only[DJ]
  rw[ZF<|by omega,ZF h2]
 .intro i hi
  refine⟨by rw[hg,ZF<|by omega,ZF<|by omega],?_,λ_ _=>rfl⟩
  simp only[DJ]
  rw[ZF<|by omega,ZF<|by omega]
theorem aOq[aF]{c:dA}{id s:Nat}{es:List<|List AV}(hs:bX FT c)(hob:c.H[id]?=some (.blk s es)): bX FT<|DJ c id s es:=by
 have hg:=aBR hob
 have hst:=aDV (fl:=0) (ZG _) hob
 have hβ:∀i b,(DJ c id s es).β i=some b->(i=c.H.length/\c.β id=some b)\/(i≠c.H.length/\i≠id/\c.β i=some b):=by
  intro i b hb
  simp only[DJ] at hb
  grind
 refine⟨hs.gl.step hst,?_,?_,?_,hs.fresh,?_,?_,?_,?_⟩
 .intro i j b hi hj
  rcases hβ i b hi with⟨h1,h2⟩ | ⟨h1,h2,h3⟩<;>rcases hβ j b hj with⟨k1,k2⟩ | ⟨k1,k2,k3⟩
  .omega
  .exact (k2<|hs.inj _ _ b k3 h2).elim
  .exact (h2<|hs.inj _ _ b h3 k2).elim
  .exact hs.inj _ _ b h3 k3
 .intro i b hb
  simp only[DJ,Zh,Yr,Yd]
  rcases hβ i b hb with⟨h1,h2⟩ | ⟨h1,h2,h3⟩
  .omega
  .have:=hs.dom i b h3;omega
 .intro i b hb
  rcases hβ i b hb with⟨h1,h2⟩ | ⟨h1,h2,h3⟩
  .exact hs.nx _ b h2
  .exact hs.nx _ b h3
 .intro i s' es' ho
  rw[hg] at ho
  split at ho
  .cases ho;exact hs.lens id s es hob
  .split at ho
   .cases ho
    intro e he
    rcases ZD.1 he with h | h
    .exact hs.lens id s es hob e h
    .grind
   .exact hs.lens i s' es' ho
 .intro i s' es' b ho hb
  rcases hβ i b hb with⟨h1,h2⟩ | ⟨h1,h2,h3⟩
  .rw[hg,Zu h1] at ho
   cases ho
   let⟨cs,T,g1,g2,g3⟩:=hs.blk id s es b hob h2
   exact⟨cs,T,g1,g2,λi j x hx=>let ⟨v,k1,k2,k3⟩:=g3 i j x hx;⟨v,k1,k2,k3.step hst⟩⟩
  .rw[hg,ZF h1,ZF h2] at ho
   let⟨cs,T,g1,g2,g3⟩:=hs.blk i s' es' b ho h3
   exact⟨cs,T,g1,g2,λi j x hx=>let ⟨v,k1,k2,k3⟩:=g3 i j x hx;⟨v,k1,k2,k3.step hst⟩⟩
 .intro i ents b ho hb
  rcases hβ i b hb with⟨h1,h2⟩ | ⟨h1,h2,h3⟩
  .grind
  .rw[hg,ZF h1,ZF h2] at ho
   let⟨es,clk,g1,g2,g3⟩:=hs.map i ents b ho h3
   exact⟨es,clk,g1,g2,λi k x hx=>let ⟨e,k1,k2,k3⟩:=g3 i k x hx;⟨e,k1,k2,k3.step hst⟩⟩
 .intro i q b ho hb
  rcases hβ i b hb with⟨h1,h2⟩ | ⟨h1,h2,h3⟩
  .grind
  .rw[hg,ZF h1,ZF h2] at ho
   exact hs.raw i q b ho h3
theorem aIa{c c':dA}{id m s tot off len:Nat}{es es':List<|List AV}(d:c.H[id]?=some (.blk s es))(b:c'.H[m]?=some (.blk s es'))(r:es'.length=es.length)(o:c'.w=c.w)(q:c'.β m=c.β id){v:Value}(l:RV FT c (.ms id tot off len) v): RV FT c' (.ms m tot off len) v:=by
 cases l with
 | pure _ _ h=>cases h
 | ms _ _ _ _ a cap s' n g u k i=>
  have e:s'=s/\n=es.length:=by simp[shp,d] at g;omega
  let⟨rfl,rfl⟩:=e;refine .ms m tot off len a cap s' es'.length (by simp[shp,b]) (by omega) k λe=>?_;let⟨j,t⟩:=i (by omega);refine⟨j,?_⟩;grind
theorem aJp[aF]{fl t:Nat}{c:dA}{tm:List AV}{tv:Array Value}{d:St}(p:bX FT c)(b:TR FT c tm tv)(h:aHL fl t ⟨tm,c.H⟩=some d):
 ∃c',c'.w=c.w/\c'.H=d.heap/\bW fl c c'/\bX FT c'/\TR FT c' d.tmps tv:=by
 unfold aHL at h;split at h
 .rename_i id tot off len n;split at h
  .rename_i l;split at h
   .rename_i s es a;split at h
    .rename_i o;cases h;have i:=aDV l a;refine⟨DJ c id s es,rfl,rfl,i,aOq p a,?_⟩;refine⟨by simpa using b.1,λu y g=>?_⟩;rw[Z5] at g;split at g
     .rename_i m;subst m;split at g
      .rename_i f;cases g;let⟨cv,k,j⟩:=b.2 t tm[t]<|Zb f;have e:=by
        simp only[aG,Zb f] at n;exact n
       rw[e] at j;refine⟨cv,k,aIa (c':=DJ c id s es) a (by rw[aBR a,Zu rfl]) rfl rfl (by simp[DJ]) j⟩
      .grind
     .let⟨cv,k,j⟩:=b.2 u y g;exact⟨cv,k,j.step i⟩
    .cases h
   .cases h
  .cases h
 .cases h
def qZ(fl n id s:Nat)(es:List<|List AV)(c:dA): dA:=
 ⟨c.w,c.X,λi=>if i<n then c.β i else if i=n then c.β id else none,(kH fl n c).H++[bY n<|.blk s es]⟩
theorem Qe[aF]{fl n id s:Nat}{es:List<|List AV}{c:dA}(a:fl<=n)(b:n<=c.H.length)(i:Nat):
 (qZ fl n id s es c).H[i]?=if i<n then (kH fl n c).H[i]? else if i=n then some (bY n<|.blk s es) else none:=by
 simp only[qZ];rw[Yk];rw[pI a b];grind
theorem E0[aF]{fl n id s:Nat}{es:List<|List AV}{c:dA}(a:fl<=n)(e:n<=c.H.length): Sub n c (qZ fl n id s es c) where
 w:=rfl;X:=rfl;lo:=λi d=>by simp[qZ,d]
 img:=λi b h=>by
  simp only[qZ] at h;grind
 shp:=λi d=>by
  have:=(Fu a e).shp i d;unfold shp at this |-;rw[Qe a e,Zu d];exact this
 mp:=λi d f=>by
  have:=(Fu a e).mp i d f;unfold Cn at this |-;rw[Qe a e,Zu d];exact this
theorem aAG[aF]{fl id s:Nat}{es:List<|List AV}{c0 c:dA}(p:bX FT c0)(h:bW fl c0 c)(f:fl<=c0.H.length): bW fl c0<|qZ fl c0.H.length id s es c:=by
 have a:=E0 (id:=id) (s:=s) (es:=es) f h.len;have w:=CQ p h f;have g:=Qe (id:=id) (s:=s) (es:=es) f h.len;have k:(qZ fl c0.H.length id s es c).H.length=c0.H.length+1:=by
  simp only[qZ,Zh,pI f h.len,Yd]
 refine⟨h.X,h.os,h.tape,h.output,h.drawn,h.size,by rw[k];omega,h.frame,?_,?_,?_,?_⟩
 .intro i b j;simp only[qZ] at j;split at j
  .exact h.img i b j
  .split at j
   .exact h.img id b j
   .grind
 .intro i s' n u;have d:i<c0.H.length:=by
   rcases ZI i c0.H.length with q | q
   .grind
   .simp[shp,Zy q] at u
  let⟨x,l,o,m⟩:=h.blkS i s' n u;exact⟨x,(a.shp i d).trans l,o,λe=>⟨(a.lo i d).trans (m e).1,(m e).2⟩⟩
 .intro i v;have d:i<c0.H.length:=by
   let⟨t,he,_⟩:=v;exact (Ze.1 he).1
  let⟨l,o⟩:=h.mpS i v;exact⟨a.mp i d l,(a.lo i d).trans o⟩
 .intro i r;let⟨l,o,m⟩:=w.floor i r;exact⟨by rw[g,Zu<|by omega];exact l,(a.lo i<|by omega).trans (h.floor i r).2.1,m⟩
theorem aLE[aF]{fl id s:Nat}{es:List<|List AV}{c0 c:dA}(hs0:bX FT c0)(hs:bX FT c)(h:bW fl c0 c)(hfl:fl<=c0.H.length)(hid:c0.H.length<=id)(hob:c.H[id]?=some (.blk s es)): bX FT<|qZ fl c0.H.length id s es c:=by
 have hsub:=E0 (id:=id) (s:=s) (es:=es) hfl h.len
 have hst:=aAG (id:=id) (s:=s) (es:=es) hs0 h hfl
 have ht:=aAq hs0 hs h hfl
 have hget:=Qe (id:=id) (s:=s) (es:=es) hfl h.len
 have htg:=Fv hfl h.len
 have hlen:(qZ fl c0.H.length id s es c).H.length=c0.H.length+1:=by
  simp only[qZ,Zh,pI hfl h.len,Yd]
 have hβ:∀i b,(qZ fl c0.H.length id s es c).β i=some b->(i<c0.H.length/\c.β i=some b)\/(i=c0.H.length/\c.β id=some b):=by
  intro i b hb
  simp only[qZ] at hb
  split at hb
  .grind
  .grind
 refine⟨hs0.gl.step hst,?_,?_,?_,hs.fresh,?_,?_,?_,?_⟩
 .intro i j b hi hj
  rcases hβ i b hi with⟨h1,h2⟩ | ⟨h1,h2⟩<;>rcases hβ j b hj with⟨k1,k2⟩ | ⟨k1,k2⟩
  .exact hs.inj _ _ b h2 k2
  .have:=hs.inj _ _ b h2 k2;omega
  .have:=hs.inj _ _ b h2 k2;omega
  .omega
 .grind
 .intro i b hb
  rcases hβ i b hb with⟨h1,h2⟩ | ⟨h1,h2⟩
  .exact hs.nx _ b h2
  .exact hs.nx _ b h2
 .intro i s' es' ho
  rw[hget] at ho
  split at ho
  .exact ht.lens i s' es' ho
  .split at ho
   .simp only[bY,Za,dI.blk.injEq] at ho
    let⟨rfl,rfl⟩:=ho
    intro e he
    simp only[Yh] at he
    obtain⟨e0,h0,rfl⟩:=he
    simpa using hs.lens id s es hob e0 h0
   .grind
 .intro i s' es' b ho hb
  rcases hβ i b hb with⟨hi,hb'⟩ | ⟨hi,hb'⟩
  .rw[hget,Zu hi,htg] at ho
   split at ho
   .rename_i hlo
    let⟨f1,f2,f3⟩:=h.floor i hlo
    rw[f1] at ho
    rw[f2] at hb'
    let⟨cs,T,g1,g2,g3⟩:=hs0.blk i s' es' b ho hb'
    exact⟨cs,T,(f3 b hb').trans g1,g2,λi j x hx=>let ⟨v,k1,k2,k3⟩:=g3 i j x hx;⟨v,k1,k2,k3.step hst⟩⟩
   .try rw[Zu hi] at ho
    simp only[Zq] at ho
    let⟨o,ho1,ho2⟩:=ho
    cases o with
    | blk s2 es2=>
     simp only[bY,dI.blk.injEq] at ho2
     let⟨rfl,rfl⟩:=ho2
     let⟨cs,T,g1,g2,g3⟩:=hs.blk i s2 es2 b ho1 hb'
     refine⟨cs,T,g1,by simpa using g2,λi j x hx=>?_⟩
     obtain⟨y,hy,rfl⟩:=jO hx
     let⟨v,k1,k2,k3⟩:=g3 i j y hy
     exact⟨v,k1,k2,Jd hsub k3⟩
    | mp ents=>simp[bY] at ho2
    | raw q=>simp[bY] at ho2
  .rw[hget,ZF<|by omega,Zu hi] at ho
   simp only[bY,Za,dI.blk.injEq] at ho
   let⟨rfl,rfl⟩:=ho
   let⟨cs,T,g1,g2,g3⟩:=hs.blk id s es b hob hb'
   refine⟨cs,T,g1,by simpa using g2,λi j x hx=>?_⟩
   obtain⟨y,hy,rfl⟩:=jO hx
   let⟨v,k1,k2,k3⟩:=g3 i j y hy
   exact⟨v,k1,k2,Jd hsub k3⟩
 .intro i ents b ho hb
  rcases hβ i b hb with⟨hi,hb'⟩ | ⟨hi,hb'⟩
  .rw[hget,Zu hi,htg] at ho
   split at ho
   .rename_i hlo
    let⟨f1,f2,f3⟩:=h.floor i hlo
    rw[f1] at ho
    rw[f2] at hb'
    let⟨es,clk,g1,g2,g3⟩:=hs0.map i ents b ho hb'
    exact⟨es,clk,(f3 b hb').trans g1,g2,λi k x hx=>let ⟨e,k1,k2,k3⟩:=g3 i k x hx;⟨e,k1,k2,k3.step hst⟩⟩
   .try rw[Zu hi] at ho
    simp only[Zq] at ho
    let⟨o,ho1,ho2⟩:=ho
    cases o with
    | blk s' es'=>simp[bY] at ho2
    | mp ents'=>
     simp only[bY,dI.mp.injEq] at ho2
     subst ho2
     let⟨es,clk,g1,g2,g3⟩:=hs.map i ents' b ho1 hb'
     refine⟨es,clk,g1,by simpa using g2,λi k x hx=>?_⟩
     simp only[Zk,Zq] at hx
     let⟨⟨k0,y⟩,hy,he⟩:=hx
     simp only[Zi] at he
     let⟨rfl,rfl⟩:=he
     let⟨e,k1,k2,k3⟩:=g3 i k0 y hy
     exact⟨e,k1,k2,Tw hsub k3⟩
    | raw q=>simp[bY] at ho2
  .rw[hget,ZF<|by omega,Zu hi] at ho
   simp[bY] at ho
 .intro i q b ho hb
  rcases hβ i b hb with⟨hi,hb'⟩ | ⟨hi,hb'⟩
  .rw[hget,Zu hi,htg] at ho
   split at ho
   .rename_i hlo
    let⟨f1,f2,f3⟩:=h.floor i hlo
    rw[f1] at ho
    rw[f2] at hb'
    exact (f3 b hb').trans<|hs0.raw i q b ho hb'
   .try rw[Zu hi] at ho
    simp only[Zq] at ho
    let⟨o,ho1,ho2⟩:=ho
    cases o with
    | blk s' es'=>simp[bY] at ho2
    | mp ents'=>simp[bY] at ho2
    | raw q'=>
     simp only[bY,dI.raw.injEq] at ho2
     subst ho2
     exact hs.raw i q' b ho1 hb'
  .rw[hget,ZF<|by omega,Zu hi] at ho
   simp[bY] at ho
theorem Qu[aF]{fl t:Nat}{live:List Bool}{c0 c:dA}{tm:List AV}{tv:Array Value}(g:bX FT c0)(r:bX FT c)(h:bW fl c0 c)(a:fl<=c0.H.length)(b:TR FT c tm tv):
 ∃c',c'.w=c.w/\c'.H=(JX live t fl c0.H.length ⟨tm,c.H⟩).heap/\bW fl c0 c'/\bX FT c'/\TR FT c' (JX live t fl c0.H.length ⟨tm,c.H⟩).tmps tv:=by
 have p:=zB (live:=some live) (tr:=true) g r h a b;unfold JX;split
 .rename_i id tot off len q;split
  .rename_i n;split
   .rename_i s es j;have f:=Kw live tm tv b;have k:=E0 (id:=id) (s:=s) (es:=es) a h.len;refine⟨qZ fl c0.H.length id s es c,rfl,by simp[qZ,kH],aAG g h a,aLE g r h a n j,?_⟩;refine⟨by simpa using f.1,λu y i=>?_⟩;rw[Z5] at i;split at i
    .rename_i m;subst m;split at i
     .rename_i A;cases i;have d:t<tm.length:=by
       have B:=f.1;have e2:=b.1;grind
      let⟨cv,o,l⟩:=b.2 t tm[t]<|Zb d;have e:=by
       simp only[aG,Zb d] at q;exact q
      rw[e] at l;refine⟨cv,o,aIa (c':=qZ fl c0.H.length id s es c) (es':=es.map λe=>e.map<|jW c0.H.length) j ?_ (by simp) rfl (by simp[qZ]) l⟩;rw[Qe a h.len,ZF<|by omega,Zu rfl];rfl
     .grind
    .simp at i;obtain⟨z,x,rfl⟩:=i;let⟨v,o,l⟩:=f.2 u z x;exact⟨v,o,aBe k l⟩
   .grind
  .grind
 .grind
end
section
variable {P:Program}{T:List cS}{cf:Nat->Nat->List AV->aW->Option (AV×aW)}{fl lf:Nat}
def Ey: cT->Exit
 | .normal=>.normal
 | .exit id=>.exit id
 | .ret=>.ret
def aDf[aF](P:Program)(T:List cS)(fl:Nat)(ev:St->Option (cT×St))(code:Code): Prop:=
 ∀(c:dA) (a:Act) (tm:List AV) (x:cT) (st':St) (Q:Exit->Act->World->Prop),bX (aJ T) c->TR (aJ T) c tm a.tmps->fl<=c.H.length->ev ⟨tm,c.H⟩=some (x,st')->
  (∀a' c',c'.H=st'.heap->bW fl c c'->bX (aJ T) c'->TR (aJ T) c' st'.tmps a'.tmps->a'.defers=a.defers->Q (Ey x) a' c'.w)->code.wp P Q a c.w
theorem E7[aF]{e:Code}{step:St->Option (cT×St)}{live:Option<|List Bool}{tr:Bool}(d:aDf P T fl step e){c0:dA}(i:bX (aJ T) c0)(f:fl<=c0.H.length){ds:List Deferred}{x:cT}{st':St}{Q:Exit->Act->World->Prop}(v:∀a' c',c'.H=st'.heap->bW fl c0 c'->bX (aJ T) c'->TR (aJ T) c' st'.tmps a'.tmps->a'.defers=ds->Q (Ey x) a' c'.w):
 ∀(n:Nat) (c:dA) (a:Act) (tm:List AV),bX (aJ T) c->bW fl c0 c->TR (aJ T) c tm a.tmps->a.defers=ds->gC (dL live tr fl c0.H.length) step n ⟨tm,c.H⟩=some (x,st')->Code.rounds P e Q n a c.w
 | 0,c,a,tm,_,_,_,_,b=>by cases b
 | n+1,c,a,tm,G,r,s,A,b=>by
  simp only[gC] at b;obtain⟨m,F,D,k,z,C⟩:=zB i G r f s;rw[<-F];have j:(dL live tr fl c0.H.length ⟨tm,c.H⟩)=⟨(dL live tr fl c0.H.length ⟨tm,c.H⟩).tmps,m.H⟩:=by rw[D]
  rw[j] at b;split at b
  .rename_i h he;refine d m a _ .normal h _ z C (ZB f k.len) he ?_;intro a' c' o e2 q u p;refine E7 (live:=live) (tr:=tr) d i f v n c' a' h.tmps q (k.trans e2) u (p.trans A) ?_;rw[o];exact b
  .rename_i E;have g:∀y,Ey x=y->y≠.normal->e.wp P (Exit.then (Code.rounds P e Q n) Q) a m.w:=by
    intro y I t;refine d m a _ x st' _ z C (ZB f k.len) b ?_;intro a' c' o e2 q u p;have:=v a' c' o (k.trans e2) q u<|p.trans A;rw[I] at this |-;cases y<;>first | exact (t rfl).elim | exact this
   cases x with
   | normal=>grind
   | exit id=>exact g _ rfl<|by simp[Ey]
   | ret=>exact g _ rfl<|by simp[Ey]
theorem Qf[aF]{f:Code}{step:St->Option (cT×St)}{b:St->St}(e:aDf P T fl step f){c0:dA}(h:fl<=c0.H.length)(g:∀(c:dA) (tm:List AV) (tv:Array Value),bX (aJ T) c->bW fl c0 c->TR (aJ T) c tm tv->∃c',c'.w=c.w/\c'.H=(b ⟨tm,c.H⟩).heap/\bW fl c0 c'/\bX (aJ T) c'/\TR (aJ T) c' (b ⟨tm,c.H⟩).tmps tv){ds:List Deferred}{x:cT}{st':St}{Q:Exit->Act->World->Prop}(C:∀a' c',c'.H=st'.heap->bW fl c0 c'->bX (aJ T) c'->TR (aJ T) c' st'.tmps a'.tmps->a'.defers=ds->Q (Ey x) a' c'.w):
 ∀(n:Nat) (c:dA) (a:Act) (tm:List AV),bX (aJ T) c->bW fl c0 c->TR (aJ T) c tm a.tmps->a.defers=ds->gC b step n ⟨tm,c.H⟩=some (x,st')->Code.rounds P f Q n a c.w
 | 0,c,a,tm,_,_,_,_,d=>by cases d
 | n+1,c,a,tm,I,s,t,A,d=>by
  simp only[gC] at d;let⟨l,G,J,m,B,D⟩:=g c tm a.tmps I s t;rw[<-G];have j:(b ⟨tm,c.H⟩)=⟨(b ⟨tm,c.H⟩).tmps,l.H⟩:=by rw[J]
  rw[j] at d;split at d
  .rename_i k he;refine e l a _ .normal k _ B D (ZB h m.len) he ?_;intro a' c' p e2 r u q;refine Qf e h g C n c' a' k.tmps r (m.trans e2) u (q.trans A) ?_;rw[p];exact d
  .rename_i E;have i:∀y,Ey x=y->y≠.normal->f.wp P (Exit.then (Code.rounds P f Q n) Q) a l.w:=by
    intro y F v;refine e l a _ x st' _ B D (ZB h m.len) d ?_;intro a' c' p e2 r u q;have:=C a' c' p (m.trans e2) r u<|q.trans A;rw[F] at this |-;cases y<;>first | exact (v rfl).elim | exact this
   cases x with
   | normal=>grind
   | exit id=>exact i _ rfl<|by simp[Ey]
   | ret=>exact i _ rfl<|by simp[Ey]
theorem aJz[aF]{c:dA}{x:AV}{u:Value}(e:RV (aJ T) c x u)(d:VL c.H x≠3): ∃ad n cap,u=.slice ad n cap/\(VL c.H x=0->ad=none)/\(VL c.H x=1->ad.isNone=false):=by
 unfold VL at d |-;split at d
 .rename_i v;have:=e.lit_inv;grind
 .rename_i es;have q:=e.sl_inv;cases q with
  | nil _ ad cap B=>grind
  | sl _ _ b off cap cc p o s a f l m k F z r w=>grind
 .rename_i es;obtain⟨ad,cap,rfl,_,i⟩:=e.vw_inv;rcases i with rfl | ⟨b,off,cc,p,o,s,a,rfl,_⟩
  .grind
  .grind
 .rename_i len;split at d
  .grind
  .rename_i j;split at d
   .rename_i g;split at d
    .rename_i h;let⟨ad,cap,D,E,A,f,l,m,k⟩:=e.ms_inv;rw[eV g] at f;cases f;let⟨y,C⟩:=k (Zc h).symm;grind
    .grind
   .grind
 .grind
theorem aJy[aF](hcf:Bh P T cf)(hfn:nH P T){c:dA}{a:Act}{tm:List AV}{ops:Array Oper}{o1 o2:Oper}{id t d0 d1:Nat}{Q:Exit->Act->World->Prop}(hops:ops.toList=[o1,o2])(hc1:nN P T ops ⟨some d0,.mov<|.tmp t,none⟩ o1=true)(hc2:aCp P d0 d1 o2=true)(hs:bX (aJ T) c)(htr:TR (aJ T) c tm a.tmps)(hfl:fl<=c.H.length)(hd0:d0<tm.length)(h3:VL c.H (aG tm<|.tmp t)≠3)(hQ:∀b a' c',(VL c.H (aG tm<|.tmp t)=0->b=true)->(VL c.H (aG tm<|.tmp t)=1->b=false)->c'.H=c.H->bW fl c c'->bX (aJ T) c'->TR (aJ T) c' (Qb tm t d0 d1 b) a'.tmps->a'.defers=a.defers->Q .normal a' c'.w):
 (Code.region id ops false).wp P Q a c.w:=by
 have e1:ops[0]?=some o1:=by rw[<-Z8,hops];rfl
 have e2:ops[1]?=some o2:=by rw[<-Z8,hops];rfl
 have hsz:ops.size=2:=by rw[<-Zx,hops];rfl
 refine Xc ?_;rw[hsz];have hev1:cH P cf fl ⟨some d0,.mov<|.tmp t,none⟩ ⟨tm,c.H⟩=some ⟨tm.set d0<|aG tm<|.tmp t,c.H⟩:=rfl;refine kT hcf hfn hs htr hfl e1 hc1 hev1 ?_;intro a1 c1 f1 f2 f3 f4 f5 _;rw[Y3];unfold aCp at hc2;simp at hc2;let⟨⟨h1,h2⟩,h4⟩:=hc2;have hdst:o2.dst=some d1:=by
  grind
 have hguard:=by simpa using h2
 split at h4
 .rename_i ty x' ty' hop;simp only[Zd,ZC] at h4;let⟨rfl,h4⟩:=h4;split at h4
  .rename_i hu;unfold wpOp;rw[e2];simp only;have hw:Region.wanted o2 (yielded ops a1.tmps)=true:=by simp[Region.wanted,hguard]
   rw[hw];left;let⟨u,k1,k2⟩:=f4.2 x' (aG tm<|.tmp t) (by simp[hd0]);let⟨ad,n,cap,hu',z0,z1⟩:=aJz k2 (by rw[f1];exact h3);rw[f1] at z0 z1;have hrun:(execOp a1.eval o2).run P c1.w=.ok (.value<|.bool ad.isNone) c1.w:=by
    have heq:∀w:World,(Op.equalIn Op.maxDepth ty (.slice ad n cap)<|.slice none 0 0).run P w=.ok ad.isNone w:=by
     have hm:Op.maxDepth=(Op.maxDepth-1)+1:=by decide
     rw[hm,Op.equalIn];cases ad<;>simp[Zm hu]
    simp[execOp,hop,Act.eval,k1,hu',eqGuard,binOp,Op.equal,heq]
   refine (bT (fl:=fl) f3 hrun<|RV.lit _) _ _ ?_;intro cv c2 q1 q2 q3 q4;rw[hdst]
   refine hQ ad.isNone _ c2 (λh=>by rw[z0 h];rfl) z1 (q1.trans f1) (f2.trans q2) q3 ?_<|(hJ _ _ _).trans f5
   exact TR.put (d:=some d1) (f4.step q2) q4
  .grind
 .grind
theorem aI5[aF]{c c':dA}{x:AV}{v:Value}(h:aMy x=true)(a:RV (aJ T) c x v): RV (aJ T) c' (.sl false []) v:=by
 unfold aMy at h;split at h
 .rename_i u;have:=a.lit_inv;subst this;split at h
  .split at h
   .split at h
    .split at h
     .exact .pure _ _<|.nil false none 0<|by simp
     .cases h
    .cases h
   .cases h
  .cases h
 .split at h
  .have e:=a.sl_inv;cases e with
   | nil _ ad cap i=>exact .pure _ _<|.nil false ad cap<|by simp
   | sl _ _ b off cap cc l j s d r k p o f q g n=>grind
  .cases h
 .cases h
theorem aAN[aF]: ∀(a ys:List AV),a.length=ys.length->(BU a ys).length=a.length/\∀(t:Nat) (z:AV),(BU a ys)[t]?=some z->∃x y,a[t]?=some x/\ys[t]?=some y/\z=aIj x y
 | [],[],_=>⟨rfl,λt z h=>by simp[BU] at h⟩
 | x::r,y::s,h=>by
  let⟨d,c⟩:=aAN r s (by simpa using h);refine⟨by simp[BU,d],λt z b=>?_⟩;cases t with
  | zero=>
   simp only[BU,Zt,Za] at b;exact⟨x,y,rfl,rfl,b.symm⟩
  | succ t=>
   exact c t z b
 | [],_::_,h=>by simp at h
 | _::_,[],h=>by simp at h
theorem aON[aF]{c c':dA}{d ys:List AV}{tv:Array Value}(f:d.length=ys.length)(h:TR (aJ T) c d tv\/TR (aJ T) c ys tv): TR (aJ T) c' (BU d ys) tv:=by
 let⟨l,o⟩:=aAN d ys f;have e:d.length=tv.size:=by rcases h with h | h;exact h.1;rw[f];exact h.1
 refine⟨l.trans e,λt z j=>?_⟩;obtain⟨x,y,k,i,rfl⟩:=o t z j;have g:∃v,tv[t]?=some v/\(RV (aJ T) c x v\/RV (aJ T) c y v):=by
  rcases h with h | h
  .let⟨v,b,a⟩:=h.2 t x k;exact⟨v,b,.inl a⟩
  .let⟨v,b,a⟩:=h.2 t y i;exact⟨v,b,.inr a⟩
 let⟨v,b,a⟩:=g;refine⟨v,b,?_⟩;unfold aIj;split
 .rename_i m;split
  .rename_i n;rcases a with a | a
   .exact aI5 m a
   .exact aI5 n a
  .exact RV.undef _
 .exact RV.undef _
theorem aJI[aF]{FT:Nat->Option Nat}{c b:dA}(l:bX FT c)(d:bX FT b)(h:bW c.H.length c b): ∃a,a.w=b.w/\a.H=c.H/\bW c.H.length c a/\bX FT a:=by
 let⟨a,g,k,n,m,_⟩:=zB (live:=none) (tr:=true) (tm:=[]) (tv:=#[]) l d h (Zf _) ⟨rfl,λt x f=>by simp at f⟩;refine⟨a,g,?_,n,m⟩;rw[k];simp only[dL,Zz];apply Ym;intro i;have e:(b.H.take c.H.length).drop c.H.length=[]:=WD (by simp;omega);rw[e,Yn,Wo,Zs];split
 .rename_i j;exact (h.floor i j).1
 .grind
theorem eI[aF](hm:P.follows .mixedOrders=true)(hfo:tM cf)(hcf:Bh P T cf)(hfn:nH P T): ∀(ac:bU) (code:Code),gJ P T ac code=true->aDf P T fl (eU P cf lf fl ac) code
 | .skip,code,hchk=>by
  cases code<;>simp only[gJ,Zn] at hchk
  .intro c a tm x st' Q hs htr hfl hev hQ
   simp only[eU,Za,Zi] at hev
   let⟨rfl,rfl⟩:=hev
   exact W5<|hQ a c rfl (bW.refl _ _) hs htr rfl
  .intro c a tm x st' Q hs htr hfl hev hQ
   simp only[eU,Za,Zi] at hev
   let⟨rfl,rfl⟩:=hev
   exact wp_label<|hQ a c rfl (bW.refl _ _) hs htr rfl
 | .scope p,code,hchk=>by
  cases code<;>try (simp only[gJ,Zn] at hchk;done)
  rename_i p'
  simp only[gJ] at hchk
  have hp:=eI hm hfo hcf hfn p p' hchk
  intro c a tm x st' Q hs htr hfl hev hQ
  simp only[eU] at hev
  refine wp_scope_straight<|hp c a tm x st' _ hs htr hfl hev ?_
  intro a' c' e1 e2 e3 e4 e5
  have:=hQ a' c' e1 e2 e3 e4 e5
  cases x<;>exact this
 | .nilIf t d0 d1 p q,code,hchk=>by
  cases code<;>try (simp only[gJ,Zn] at hchk;done)
  rename_i l q'
  cases l<;>try (simp only[gJ,Zn] at hchk;done)
  rename_i r cd
  cases r<;>try (simp only[gJ,Zn] at hchk;done)
  rename_i id ops draw
  cases cd<;>try (simp only[gJ,Zn] at hchk;done)
  rename_i k p' sk
  cases k<;>try (simp only[gJ,Zn] at hchk;done)
  rename_i e
  cases sk<;>try (simp only[gJ,Zn] at hchk;done)
  simp only[gJ,Zd,YG,ZC] at hchk
  obtain⟨⟨⟨⟨rfl,rfl⟩,ho⟩,hcp⟩,hcq⟩:=hchk
  have hp:=eI hm hfo hcf hfn p p' hcp
  have hq:=eI hm hfo hcf hfn q q' hcq
  split at ho
  .rename_i o1 o2 hops
   simp only[Zd] at ho
   intro c a tm x st' Q hs htr hfl hev hQ
   simp only[eU] at hev
   split at hev
   .rename_i hd0
    simp only[Zd] at hd0
    have hd0':d0<tm.length:=Zj hd0.1
    have hd1':e<tm.length:=Zj hd0.2
    have h3:VL c.H (aG tm<|.tmp t)≠3:=by
     intro h
     rw[h] at hev
     cases hev
    refine Xk<|Xk<|aJy hcf hfn hops ho.1 ho.2 hs htr hfl hd0' h3 ?_
    intro b a' c' hb0 hb1 e1 e2 e3 e4 e5
    have hval:a'.eval (.tmp e)=.bool b:=by
     let⟨v,k1,k2⟩:=e4.2 e (.lit<|.bool b)<|by simp[Qb,hd1']
     simp only[Act.eval,Yf,k1,Yp,k2.lit_inv]
    have e6:∀tm':List AV,(⟨tm',c'.H⟩:St)=⟨tm',c.H⟩:=λtm'=>by rw[e1]
    have joined:∀(pc:bU) (tm':List AV) (sa sb:St) (code:Code) (Q':Exit->Act->World->Prop),aDf P T fl (eU P cf lf fl pc) code->fl=c.H.length->sa.tmps.length=sb.tmps.length->
     (eU P cf lf fl pc ⟨tm',c.H⟩=some (.ret,sa)\/eU P cf lf fl pc ⟨tm',c.H⟩=some (.ret,sb))->TR (aJ T) c' tm' a'.tmps->x=.ret->st'=⟨BU sa.tmps sb.tmps,c.H⟩->(∀a w,Q .ret a w->Q' .ret a w)->code.wp P Q' a' c'.w:=by
     intro pc tm' sa sb code Q' hok hflc hlen hor htr' hx hst hQ'
     subst hx hst
     have key:∀(s:St),eU P cf lf fl pc ⟨tm',c.H⟩=some (.ret,s)->(s=sa\/s=sb)->code.wp P Q' a' c'.w:=by
      intro s hes hss
      refine hok c' a' tm' .ret s Q' e3 htr' (ZB hfl e2.len) (by rw[e6];exact hes) ?_
      intro a'' c'' k1 k2 k3 k4 k5
      have hst2:=e2.trans k2
      rw[hflc] at hst2
      let⟨c2,m1,m2,m3,m4⟩:=aJI hs k3 hst2
      rw[<-hflc] at m3
      have:=hQ a'' c2 m2 m3 m4 (aON hlen<|by rcases hss with rfl | rfl;exact .inl k4;exact .inr k4)<|k5.trans e5
      rw[m1] at this
      exact hQ' _ _ this
     rcases hor with h | h
     .grind
     .grind
    show (Code.cond (.tmp e) p' .skip).wp P _ a' c'.w
    cases b with
    | true=>
     refine Wd hval ?_
     split at hev
     .rename_i hk
      unfold Tj at hev
      split at hev
      .rename_i x1 s1 he
       split at hev
       .grind
       .rename_i hne
        cases hev
        refine hp c' a' _ x st' _ e3 e4 (ZB hfl e2.len) (by rw[e6];exact he) ?_
        intro a'' c'' k1 k2 k3 k4 k5
        have:=hQ a'' c'' k1 (e2.trans k2) k3 k4<|k5.trans e5
        cases x with
        | normal=>grind
        | exit i=>exact this
        | ret=>exact this
      .grind
     .grind
     .rename_i hk
      split at hev
      .rename_i hb
       unfold aEx at hev
       split at hev
       .rename_i sa sb h1 h2
        split at hev
        .rename_i hl
         cases hev
         exact joined p _ sa sb p' _ hp (Zc hb) (Zc hl) (.inl h1) e4 rfl rfl λa w h=>h
        .grind
       .grind
      .grind
     .grind
    | false=>
     refine XJ hval<|W5 ?_
     show q'.wp P Q a' c'.w
     split at hev
     .grind
     .rename_i hk
      refine hq c' a' _ x st' _ e3 e4 (ZB hfl e2.len) (by rw[e6];exact hev) ?_
      intro a'' c'' k1 k2 k3 k4 k5
      exact hQ a'' c'' k1 (e2.trans k2) k3 k4<|k5.trans e5
     .rename_i hk
      split at hev
      .rename_i hb
       unfold aEx at hev
       split at hev
       .rename_i sa sb h1 h2
        split at hev
        .rename_i hl
         cases hev
         exact joined q _ sa sb q' _ hq (Zc hb) (Zc hl) (.inr h2) e4 rfl rfl λa w h=>h
        .cases hev
       .cases hev
      .cases hev
     .cases hev
   .cases hev
  .cases ho
 | .frz t q,code,hchk=>by
  have hq:=eI hm hfo hcf hfn q code<|by cases code<;>(simp only[gJ] at hchk;exact hchk)
  intro c a tm x st' Q hs htr hfl hev hQ
  simp only[eU] at hev
  split at hev
  .rename_i v H' he
   have key:∃c',c'.w=c.w/\c'.H=H'/\bW fl c c'/\bX (aJ T) c'/\∀cv,RV (aJ T) c (aG tm<|.tmp t) cv->RV (aJ T) c' v cv:=by
    simp only[aL] at he
    split at he
    .rename_i id tot off len hx
     split at he
     .rename_i hle
      split at he
      .rename_i s es hob
       split at he
       .rename_i htot
        cases he
        exact⟨frz c id s es,rfl,rfl,tW hle hob,Te hs hob,λcv hcv=>aBB hs hob htot<|by rw[hx] at hcv;exact hcv⟩
       .cases he
      .cases he
     .cases he
    .rename_i id tot idx off hx
     split at he
     .rename_i hle
      split at he
      .rename_i s es hob
       split at he
       .rename_i htot
        split at he
        .rename_i e hi
         cases he
         exact⟨frz c id s es,rfl,rfl,tW hle hob,Te hs hob,λcv hcv=>aH0 hs hob htot hi<|by rw[hx] at hcv;exact hcv⟩
        .cases he
       .cases he
      .cases he
     .cases he
    .cases he
     exact⟨c,rfl,rfl,bW.refl _ _,hs,λ_ h=>h⟩
   let⟨c',k1,k2,k3,k4,k5⟩:=key
   have htr':TR (aJ T) c' (tm.set t v) a.tmps:=by
    refine⟨by simpa using htr.1,λu y hy=>?_⟩
    rw[Z5] at hy
    split at hy
    .rename_i hut
     subst hut
     split at hy
     .rename_i hlt
      cases hy
      let⟨cv,g1,g2⟩:=htr.2 t tm[t]<|Zb hlt
      refine⟨cv,g1,k5 cv ?_⟩
      simp only[aG,Zb hlt]
      exact g2
     .cases hy
    .let⟨cv,g1,g2⟩:=htr.2 u y hy
     exact⟨cv,g1,g2.step k3⟩
   have:=hq c' a (tm.set t v) x st' Q k4 htr' (ZB hfl k3.len) (by rw[k2];exact hev) λa' c'' e1 e2 e3 e4 e5=>hQ a' c'' e1 (k3.trans e2) e3 e4 e5
   rwa [k1] at this
  .cases hev
 | .stop,code,hchk=>by
  intro c a tm x st' Q hs htr hfl hev hQ
  simp only[eU] at hev
  cases hev
 | .mask lx lr tr q,code,hchk=>by
  have hq:=eI hm hfo hcf hfn q code<|by cases code<;>(simp only[gJ] at hchk;exact hchk)
  intro c a tm x st' Q hs htr hfl hev hQ
  simp only[eU,Gt] at hev
  split at hev
  .rename_i x1 st1 he
   have key:∀y,st'=dL (some lx) tr fl c.H.length st1->eU P cf lf fl q ⟨tm,c.H⟩=some (y,st1)->x=y->code.wp P Q a c.w:=by
    intro y e he e'
    subst e e'
    refine hq c a tm x st1 Q hs htr hfl he ?_
    intro a' c' e1 e2 e3 e4 e5
    let⟨c2,h1,h2,h3,h4,h5⟩:=zB (live:=some lx) (tr:=tr) hs e3 e2 hfl e4
    have e6:(⟨st1.tmps,c'.H⟩:St)=st1:=by rw[e1]
    rw[e6] at h2 h5
    have:=hQ a' c2 h2 h3 h4 h5 e5
    rwa [h1] at this
   split at hev
   .simp only[Za,Zi] at hev
    let⟨rfl,rfl⟩:=hev
    refine hq c a tm .ret st1 Q hs htr hfl he ?_
    intro a' c' e1 e2 e3 e4 e5
    exact hQ a' c' e1 e2 e3 (Kw lr _ _ e4) e5
   .simp only[Za,Zi] at hev
    let⟨rfl,rfl⟩:=hev
    exact key .normal rfl he rfl
   .rename_i i
    simp only[Za,Zi] at hev
    let⟨rfl,rfl⟩:=hev
    exact key (.exit i) rfl he rfl
  .cases hev
 | .told li lx lr q,code,hchk=>by
  have hq:=eI hm hfo hcf hfn q code<|by cases code<;>(simp only[gJ] at hchk;exact hchk)
  intro c a tm x st' Q hs htr hfl hev hQ
  simp only[eU,Gt] at hev
  split at hev
  .rename_i x1 st1 he
   have key:∀y,st'=dL (some lx) false fl c.H.length st1->eU P cf lf fl q ⟨cU li tm,c.H⟩=some (y,st1)->x=y->code.wp P Q a c.w:=by
    intro y e he e'
    subst e e'
    refine hq c a (cU li tm) x st1 Q hs (Kw li tm _ htr) hfl he ?_
    intro a' c' e1 e2 e3 e4 e5
    let⟨c2,h1,h2,h3,h4,h5⟩:=zB (live:=some lx) (tr:=false) hs e3 e2 hfl e4
    have e6:(⟨st1.tmps,c'.H⟩:St)=st1:=by rw[e1]
    rw[e6] at h2 h5
    have:=hQ a' c2 h2 h3 h4 h5 e5
    rwa [h1] at this
   split at hev
   .simp only[Za,Zi] at hev
    let⟨rfl,rfl⟩:=hev
    refine hq c a (cU li tm) .ret st1 Q hs (Kw li tm _ htr) hfl he ?_
    intro a' c' e1 e2 e3 e4 e5
    exact hQ a' c' e1 e2 e3 (Kw lr _ _ e4) e5
   .simp only[Za,Zi] at hev
    let⟨rfl,rfl⟩:=hev
    exact key .normal rfl he rfl
   .rename_i i
    simp only[Za,Zi] at hev
    let⟨rfl,rfl⟩:=hev
    exact key (.exit i) rfl he rfl
  .cases hev
 | .region draw ck aops,code,hchk=>by
  cases code<;>try (simp only[gJ,Zn] at hchk;done)
  rename_i id ops draw'
  have hd:draw=draw':=by simp only[gJ,Zd,ZC] at hchk;exact hchk.1.1
  subst hd
  intro c a tm x st' Q hs htr hfl hev hQ
  simp only[eU] at hev
  split at hev
  .rename_i st1 he
   simp only[Za,Zi] at hev
   let⟨rfl,rfl⟩:=hev
   exact aBF hm hfo hcf hfn hchk hs htr hfl he hQ
  .cases hev
 | .seq p q,code,hchk=>by
  cases code<;>try (simp only[gJ,Zn] at hchk;done)
  rename_i p' q'
  simp only[gJ,Zd] at hchk
  have hp:=eI hm hfo hcf hfn p p' hchk.1
  have hq:=eI hm hfo hcf hfn q q' hchk.2
  intro c a tm x st' Q hs htr hfl hev hQ
  simp only[eU] at hev
  refine Xk ?_
  split at hev
  .rename_i st1 he
   refine hp c a tm .normal st1 _ hs htr hfl he ?_
   intro a' c' e1 e2 e3 e4 e5
   show q'.wp P Q a' c'.w
   refine hq c' a' st1.tmps x st' Q e3 e4 (ZB hfl e2.len) (by rw[e1];exact hev) ?_
   intro a'' c'' f1 f2 f3 f4 f5
   exact hQ a'' c'' f1 (e2.trans f2) f3 f4<|f5.trans e5
  .rename_i r hne
   refine hp c a tm x st' _ hs htr hfl hev ?_
   intro a' c' e1 e2 e3 e4 e5
   have:=hQ a' c' e1 e2 e3 e4 e5
   cases x with
   | normal=>exact (hne st' hev).elim
   | exit id=>exact this
   | ret=>exact this
 | .cond k p q,code,hchk=>by
  cases code<;>try (simp only[gJ,Zn] at hchk;done)
  rename_i k' p' q'
  simp only[gJ,Zd] at hchk
  have hp:=eI hm hfo hcf hfn p p' hchk.1.2
  have hq:=eI hm hfo hcf hfn q q' hchk.2
  intro c a tm x st' Q hs htr hfl hev hQ
  have hk:=aX hs htr hchk.1.1
  simp only[eU] at hev
  split at hev
  .rename_i hb
   rw[hb] at hk
   exact Wd hk.lit_inv<|hp c a tm x st' Q hs htr hfl hev hQ
  .rename_i hb
   rw[hb] at hk
   exact XJ hk.lit_inv<|hq c a tm x st' Q hs htr hfl hev hQ
  .cases hev
 | .block i p,code,hchk=>by
  cases code<;>try (simp only[gJ,Zn] at hchk;done)
  rename_i i' p'
  simp only[gJ,Zd,ZC] at hchk
  let⟨rfl,hchk⟩:=hchk
  have hp:=eI hm hfo hcf hfn p p' hchk
  intro c a tm x st' Q hs htr hfl hev hQ
  simp only[eU] at hev
  refine WJ ?_
  split at hev
  .rename_i j st1 he
   refine hp c a tm (.exit j) st1 _ hs htr hfl he ?_
   intro a' c' e1 e2 e3 e4 e5
   simp only[Ey,Exit.inBlock]
   split at hev
   .rename_i hj
    simp only[Za,Zi] at hev
    let⟨rfl,rfl⟩:=hev
    rw[Zu hj]
    exact hQ a' c' e1 e2 e3 e4 e5
   .rename_i hj
    simp only[Za,Zi] at hev
    let⟨rfl,rfl⟩:=hev
    rw[ZF hj]
    exact hQ a' c' e1 e2 e3 e4 e5
  .rename_i r hne
   refine hp c a tm x st' _ hs htr hfl hev ?_
   intro a' c' e1 e2 e3 e4 e5
   have:=hQ a' c' e1 e2 e3 e4 e5
   cases x with
   | normal=>exact this
   | exit id=>exact (hne id st' hev).elim
   | ret=>exact this
 | .loop live tr p,code,hchk=>by
  cases code<;>try (simp only[gJ,Zn] at hchk;done)
  rename_i p'
  simp only[gJ] at hchk
  have hp:=eI hm hfo hcf hfn p p' hchk
  intro c a tm x st' Q hs htr hfl hev hQ
  simp only[eU] at hev
  exact XA lf<|E7 hp hs hfl hQ lf c a tm hs (bW.refl _ _) htr rfl hev
 | .loopV live lx lr t p,code,hchk=>by
  cases code<;>try (simp only[gJ,Zn] at hchk;done)
  rename_i p'
  simp only[gJ] at hchk
  have hp:=eI hm hfo hcf hfn p p' hchk
  intro c a tm x st' Q hs htr hfl hev hQ
  simp only[eU] at hev
  split at hev
  .rename_i st1 hown
   let⟨c1,h1,h2,h3,h4,h5⟩:=aJp hs htr hown
   unfold aLK at hev
   split at hev
   .rename_i x1 st2 he
    have e6:st1=⟨st1.tmps,c1.H⟩:=by rw[h2]
    rw[e6] at he
    have key:∀y,st'=JX lx t fl c.H.length st2->x1=y->x=y->(Code.loop p').wp P Q a c.w:=by
     intro y e e1 e'
     subst e e1 e'
     rw[<-h1]
     refine XA lf<|Qf hp (c0:=c) hfl (λd tm tv k1 k2 k3=>Qu hs k1 k2 hfl k3) ?_ lf c1 a _ h4 h3 h5 rfl he
     intro a' c' e1 e2 e3 e4 e5
     let⟨c2,g1,g2,g3,g4,g5⟩:=Qu (live:=lx) (t:=t) hs e3 e2 hfl e4
     have e7:(⟨st2.tmps,c'.H⟩:St)=st2:=by rw[e1]
     rw[e7] at g2 g5
     have:=hQ a' c2 g2 g3 g4 g5 e5
     rwa [g1] at this
    split at hev
    .simp only[Za,Zi] at hev
     let⟨rfl,rfl⟩:=hev
     rw[<-h1]
     refine XA lf<|Qf hp (c0:=c) hfl (λd tm tv k1 k2 k3=>Qu hs k1 k2 hfl k3) ?_ lf c1 a _ h4 h3 h5 rfl he
     intro a' c' e1 e2 e3 e4 e5
     exact hQ a' c' e1 e2 e3 (Kw lr _ _ e4) e5
    .simp only[Za,Zi] at hev
     let⟨rfl,rfl⟩:=hev
     exact key .normal rfl rfl rfl
    .rename_i i
     simp only[Za,Zi] at hev
     let⟨rfl,rfl⟩:=hev
     exact key (.exit i) rfl rfl rfl
   .cases hev
  .cases hev
 | .exit i,code,hchk=>by
  cases code<;>try (simp only[gJ,Zn] at hchk;done)
  rename_i i'
  simp only[gJ,ZC] at hchk
  subst hchk
  intro c a tm x st' Q hs htr hfl hev hQ
  simp only[eU,Za,Zi] at hev
  let⟨rfl,rfl⟩:=hev
  exact wp_exit<|hQ a c rfl (bW.refl _ _) hs htr rfl
 | .ret,code,hchk=>by
  cases code<;>try (simp only[gJ,Zn] at hchk;done)
  intro c a tm x st' Q hs htr hfl hev hQ
  simp only[eU,Za,Zi] at hev
  let⟨rfl,rfl⟩:=hev
  exact wp_ret<|hQ a c rfl (bW.refl _ _) hs htr rfl
end
section
variable {P:Program}{T:List cS}{cf:Nat->Nat->List AV->aW->Option (AV×aW)}{fl lf m n:Nat}{st:St}
section
theorem Rq[aF](b:tM cf): ∀(l:List bE) (st st':St),(fl<=m/\m<=st.heap.length)->iN P cf fl l st=some st'->Fr fl m st.heap st'.heap
 | [],st,st',h,a=>by simp only[iN] at a;cases a;exact .refl h
 | o::r,st,st',h,a=>by
  simp only[iN] at a;split at a
  .rename_i c d;have k:=aAT b h d;exact k.trans<|Rq b r c st' (Fr.go h k) a
  .cases a
theorem sQ[aF]{live:Option<|List Bool}{tr:Bool}(h:fl<=m/\m<=st.heap.length)(a:fl<=m/\m<=n): Fr fl m st.heap (dL live tr fl n st).heap:=by
 cases tr with
 | false=>exact .refl h
 | true=>
  simp only[dL,Zz];refine⟨?_,by simp;omega⟩;rw[Yg<|by simp;omega,Y9,Nat.min_self]
theorem G6[aF]{live:List Bool}{t:Nat}(h:fl<=m/\m<=st.heap.length)(b:fl<=m/\m<=n): Fr fl m st.heap (JX live t fl n st).heap:=by
 have a:=sQ (live:=some live) (tr:=true) h b;unfold JX;split
 .split
  .split
   .refine⟨?_,by simp;omega⟩;simp only;rw[Ye,Yg<|by simp;omega,Y9,Nat.min_self]
   .exact a
  .exact a
 .exact a
theorem QS[aF]{b:St->St}{step:St->Option (cT×St)}(g:∀st,(fl<=m/\m<=st.heap.length)->Fr fl m st.heap (b st).heap)(d:∀st x st',(fl<=m/\m<=st.heap.length)->step st=some (x,st')->Fr fl m st.heap st'.heap):
 ∀(n:Nat) (st:St) (x:cT) (st':St),(fl<=m/\m<=st.heap.length)->gC b step n st=some (x,st')->Fr fl m st.heap st'.heap
 | 0,_,_,_,_,h=>by cases h
 | n+1,st,x,st',h,a=>by
  simp only[gC] at a;have c:=g st h;split at a
  .rename_i e he;have f:=d _ _ _ (Fr.go h c) he;exact (c.trans f).trans<|QS g d n e x st' (Fr.go h f) a
  .exact c.trans<|d _ _ _ (Fr.go h c) a
theorem lC[aF](e:tM cf): ∀(c:bU) (st:St) (x:cT) (st':St),(fl<=m/\m<=st.heap.length)->eU P cf lf fl c st=some (x,st')->Fr fl m st.heap st'.heap
 | .skip,st,x,st',h,d=>by simp only[eU] at d;cases d;exact .refl h
 | .exit _,st,x,st',h,d=>by simp only[eU] at d;cases d;exact .refl h
 | .ret,st,x,st',h,d=>by simp only[eU] at d;cases d;exact .refl h
 | .stop,st,x,st',h,d=>by simp only[eU] at d;cases d
 | .region _ y ops,st,x,st',h,d=>by
  simp only[eU] at d;split at d
  .rename_i g he;cases d;rcases QR e he with ⟨_,k⟩ | ⟨_,_,z,_,k⟩
   .exact Rq e ops st _ h k
   .have a:=Fr.app (L:=[.blk z.length [z.map .lit]]) h;exact a.trans<|Rq e _ _ _ (Fr.go h a) k
  .cases d
 | .seq a b,st,x,st',h,d=>by
  simp only[eU] at d;split at d
  .rename_i g he;have k:=lC e a st _ g h he;exact k.trans<|lC e b g x st' (Fr.go h k) d
  .exact lC e a st x st' h d
 | .cond c a b,st,x,st',h,d=>by
  simp only[eU] at d;split at d
  .exact lC e a st x st' h d
  .exact lC e b st x st' h d
  .cases d
 | .block id c,st,x,st',h,d=>by
  simp only[eU] at d;split at d
  .rename_i i g he;have k:=lC e c st _ g h he;split at d<;>cases d<;>exact k
  .exact lC e c st x st' h d
 | .loop live tr c,st,x,st',h,d=>by
  simp only[eU] at d;exact QS (λst k=>sQ k h) (λst x st' k he=>lC e c st x st' k he) lf st x st' h d
 | .frz t c,st,x,st',h,d=>by
  simp only[eU] at d;split at d
  .rename_i v H he;have k:=aC6 e h he;exact k.trans<|lC e c _ x st' (Fr.go h k) d
  .cases d
 | .mask n s tr c,st,x,st',h,d=>by
  simp only[eU,Gt] at d;split at d
  .rename_i j g he;have k:=lC e c st _ g h he;split at d
   .cases d;exact k
   .cases d;exact k.trans<|sQ (Fr.go h k) h
   .cases d;exact k.trans<|sQ (Fr.go h k) h
  .cases d
 | .told w n s c,st,x,st',h,d=>by
  simp only[eU,Gt] at d;split at d
  .rename_i j g he;have k:=lC e c ⟨cU w st.tmps,st.heap⟩ _ g h he;split at d
   .cases d;exact k
   .cases d;exact k.trans<|sQ (Fr.go h k) h
   .cases d;exact k.trans<|sQ (Fr.go h k) h
  .cases d
 | .scope c,st,x,st',h,d=>by
  simp only[eU] at d;exact lC e c st x st' h d
 | .nilIf t r q a b,st,x,st',h,d=>by
  simp only[eU] at d;split at d
  .split at d
   .unfold Tj at d;split at d
    .rename_i j z he;split at d
     .cases d
     .cases d;exact lC e a ⟨Qb st.tmps t r q true,st.heap⟩ _ _ h he
    .cases d
   .exact lC e b ⟨Qb st.tmps t r q false,st.heap⟩ _ _ h d
   .split at d
    .unfold aEx at d;split at d
     .split at d
      .cases d;exact .refl h
      .cases d
     .cases d
    .cases d
   .cases d
  .cases d
 | .loopV live n s t c,st,x,st',h,d=>by
  simp only[eU] at d;split at d
  .rename_i g f;have o:Fr fl m st.heap g.heap:=by
    unfold aHL at f;split at f
    .split at f
     .rename_i p;split at f
      .split at f
       .cases f;exact (Fr.set h p).trans<|.app<|Fr.go h<|Fr.set h p
       .cases f
      .cases f
     .cases f
    .cases f
   unfold aLK at d;split at d
   .rename_i j l he;have u:=QS (λst k=>G6 k h) (λst x st' k he=>lC e c st x st' k he) lf g _ l (Fr.go h o) he;have k:=o.trans u;split at d
    .cases d;exact k
    .cases d;exact k.trans<|G6 (Fr.go h k) h
    .cases d;exact k.trans<|G6 (Fr.go h k) h
   .cases d
  .cases d
end
theorem QT[aF](P:Program)(T:List cS)(c:∀cf,tM cf->tM (Mg cf)): ∀n,tM<|fH P T n
 | 0=>λ_ _ _ _ _ _ _ _ h=>by cases h
 | n+1=>λfl m vi b H r H' h a=>by
  simp only[fH] at a;split at a
  .rename_i g d;exact c _ (QT P T c n) fl m vi b H r H' h<|by simp only[Mg,d];exact a
  .split at a
   .cases a
   split at a
   .rename_i st he;split at a
    .cases a;exact lC (QT P T c n) _ _ _ _ h he
    .cases a
   .rename_i st he;split at a
    .cases a;exact lC (QT P T c n) _ _ _ _ h he
    .cases a
   .cases a
end
section
variable {P:Program}{T:List cS}{c:dA}{st:St}{tv:Array Value}
section
theorem NJ[aF](A:bX (aJ T) c)(I:c.H=st.heap)(g:TR (aJ T) c st.tmps tv): ∀(rs:List aAo) (L:List ResultVar) (vs:List AV),Fa P rs L=true->lP st rs=some vs->
 ∃l:List Value,l.length=vs.length/\(∀(i:Nat) (x:AV),vs[i]?=some x->∃u,l[i]?=some u/\RV (aJ T) c x u) /\
  (L.mapM (fun
   | .tmp t=>pure<|tv.getD t undef
   | .cell a t=>do loadVar t (<-asAddr<|tv.getD a undef):ResultVar->Sem Value)).run P c.w=.ok l c.w
 | [],[],vs,_,h=>by
  simp only[lP,Za] at h;subst h;exact⟨[],rfl,λi x d=>by simp at d,by simp⟩
 | .tmp t::r,q::s,vs,b,h=>by
  cases q with
  | cell a K=>simp[Fa] at b
  | tmp u=>
   simp only[Fa,Zd,ZC] at b;let⟨rfl,b⟩:=b;simp only[lP,Ro] at h;split at h
   .rename_i o k;cases h;let⟨l,E,D,C⟩:=NJ A I g r s o b k;have G:=aX (a:=⟨tv,[]⟩) A g (x:=.tmp t) (y:=.tmp t) (by simp[aP]);refine⟨tv.getD t undef::l,by simp[E],λi x d=>?_,?_⟩
    .cases i with
     | zero=>
      simp only[Zt,Za] at d;subst d;exact⟨tv.getD t undef,by rw[Zt],G⟩
     | succ i=>
      simp only[ZL] at d |-;exact D i x d
    .rw[Wt];simp only[YW,Y4,YK,C]
   .cases h
 | .cell t n agg::r,q::s,vs,b,h=>by
  cases q with
  | tmp u=>simp[Fa] at b
  | cell u K=>
   simp only[Fa,Zd,ZC] at b;let⟨⟨⟨⟨rfl,U⟩,J⟩,X⟩,b⟩:=b;simp only[lP] at h;split at h
   .rename_i v j;split at h
    .rename_i o k;cases h;let⟨l,E,D,C⟩:=NJ A I g r s o b k;have G:=aX (a:=⟨tv,[]⟩) A g (x:=.tmp t) (y:=.tmp t) (by simp[aP]);have m:∃u,(do loadVar K (<-asAddr<|tv.getD t undef):Sem Value).run P c.w=.ok u c.w/\RV (aJ T) c v u:=by
      simp only[Ro] at j;split at j
      .rename_i cs B;rw[<-I] at B;let⟨ad,Z,V,O,f⟩:=DR A G B;have z:tv.getD t undef=.pointer (some ad):=V;cases agg with
       | true=>
        simp only[Zz,Za] at j;subst j;exact⟨_,by simp only[z,asAddr,YW,Y4,YK,yC f O J U rfl],Kg f⟩
       | false=>
        simp only[Zn,Z9] at j;split at j
        .cases j;let⟨u,S,Y,Q⟩:=f.2.2 0 v (by simp);have e:=f.2.1 0 u S;have R:ad.add 0=ad:=by simp[Addr.add]
         rw[R] at e;exact⟨u,by simp only[z,asAddr,YW,Y4,YK,Ma e J],Q⟩
        .cases j
      .cases j
     let⟨u,M,W⟩:=m;refine⟨u::l,by simp[E],λi x d=>?_,?_⟩
     .cases i with
      | zero=>
       simp only[Zt,Za] at d;subst d;exact⟨u,by simp,W⟩
      | succ i=>
       simp only[ZL] at d |-;exact D i x d
     .rw[Wt];simp only[YW,Y4,YK,C] at M |-;rw[M];simp only[YK,C]
    .cases h
   .cases h
 | [],_::_,_,b,_=>by cases b
 | .tmp _::_,[],_,b,_=>by cases b
 | .cell _ _ _::_,[],_,b,_=>by cases b
theorem ST[aF]{fn:Func}{rs:List aAo}{vs:List AV}(q:bX (aJ T) c)(o:c.H=st.heap)(l:TR (aJ T) c st.tmps tv)(p:Fa P rs fn.results.toList=true)(h:lP st rs=some vs):
 ∃v,(results fn tv).run P c.w=.ok v c.w/\RV (aJ T) c (kB vs) v:=by
 let⟨a,j,k,s⟩:=NJ q o l rs fn.results.toList vs p h;refine⟨if t:a.toArray.size=1 then a.toArray[0] else .tuple a.toArray,?_,?_⟩
 .unfold results;rw[Array.mapM_eq_mapM_toList];simp only[YW,Sem.run_map,Y4];refine Eq.trans (congrArg (λr=>(Result.andThen (Result.andThen r _) _))<|Eq.trans ?_ s) rfl;congr 2
 .unfold kB;split
  .rename_i v;have g:a.length=1:=by simpa using j
   let⟨u,d,m⟩:=k 0 v (by simp);have b:a.toArray.size=1:=by simpa using g
   rw[Wz b];have:a.toArray[0]=u:=by
    have:a.toArray[0]?=some u:=by simpa using d
    rw[Z6<|by omega] at this;exact ZR this
   rw[this];exact m
  .rename_i f;have b:¬a.toArray.size=1:=by
    intro e;have g:vs.length=1:=by rw[<-j];simpa using e
    match vs,g with
    | [v],_=>exact f v rfl
   rw[dif_neg b];refine .tup vs a.toArray (λi=>(a[i]?).getD bQ) (by simpa using j) ?_ ?_
   .intro i x n;let⟨u,d,_⟩:=k i x n;simp[d]
   .intro i x n;let⟨u,d,m⟩:=k i x n;simpa [d] using m
theorem UB{F:cS}(h:Ll P T F=true): ∃fn a,P.funcs[F.fid]?=some fn/\fn.body=some a/\gJ P T F.body a=true/\fn.ntmps=F.nt/\Fa P F.rets fn.results.toList=true/\(fn.name== "runtime.NumGoroutine")=false:=by
 unfold Ll at h;split at h
 .rename_i fn c;split at h
  .rename_i a b;simp only[Zd,ZC,YG] at h;exact⟨fn,a,c,b,h.1.1.1,h.1.1.2,h.1.2,h.2⟩
  .cases h
 .cases h
def Checked(P:Program)(T:List cS): Prop:=∀F∈T,Ll P T F=true
theorem aEA[aF](h:Checked P T): nH P T:=by
 intro vi f a;unfold aJ at a;split at a
 .rename_i F g;cases a;let⟨fn,b,e,d,_,_,_,c⟩:=UB<|h F<|Zg g;exact⟨fn,e,by simp[d],c⟩
 .cases a
structure aGY[aF](P:Program)(T:List cS): Prop where
 fl:∀cf,tM cf->tM (Mg cf)
 ok:∀cf,Bh P T cf->Bh P T (Mg cf)
theorem aAU[aF](I:P.follows .mixedOrders=true)(y:Checked P T)(C:aGY P T): ∀n,Bh P T<|fH P T n
 | 0=>by
  intro fl vi f b r H' c vs a;cases a
 | n+1=>by
  have L:=aAU I y C n;intro fl vi f b r H' c vs a m O k d;simp only[fH] at a;split at a
  .rename_i g V;exact C.ok _ L fl vi f b r H' c vs (by simp only[Mg,V];exact a) m O k d
  split at a
  .cases a
  .rename_i F E;have B:f=F.fid:=by
    unfold aJ at m;rw[E] at m;exact (ZR m).symm
   subst B;let⟨fn,i,W,Y,R,M,U,_⟩:=UB<|y F<|Zg E;refine calls_of_wp W Y ?_;have s:TR (aJ T) c (b++List.replicate (F.nt-b.length) (.lit bQ))<|vs++Array.replicate (fn.ntmps-vs.size) undef:=by
    refine⟨by simp[d.1,M],λt x h=>?_⟩;rw[Yk] at h;rw[XX,d.1];split at h
    .rename_i A;rw[Zu A];exact d.2 t x h
    .rename_i A;rw[ZF A];rw[XP] at h;split at h
     .rename_i q;cases h;refine⟨undef,?_,RV.lit _⟩;rw[XN,Zu<|by rw[M];exact q]
     .cases h
   have j:=eI (fl:=fl) (lf:=n) I (QT P T C.fl n) L (aEA y) F.body i R;have l:∀(x:cT) (st:St),(x=.normal\/x=.ret)->eU P (fH P T n) n fl F.body ⟨b++List.replicate (F.nt-b.length) (.lit bQ),c.H⟩=some (x,st)->
    (match lP st F.rets with | some Q=>some (kB Q,st.heap) | none=>none)=some (r,H')->
    i.wp P (bodyPost P fn λe w'=>∃v c',e=.returned v/\c'.w=w'/\c'.H=H'/\c'.X=c.X/\bW fl c c'/\bX (aJ T) c'/\RV (aJ T) c' r v)
     { tmps:=vs++Array.replicate (fn.ntmps-vs.size) undef,defers:=[] } c.w:=by
    intro x st h he p;split at p
    .rename_i Q z;simp only[Za,Zi] at p;let⟨rfl,rfl⟩:=p;refine j c _ _ x st _ O s k he ?_;intro a' c' u e2 D S K;let⟨v,N,G⟩:=ST (fn:=fn) D u S U z;rcases h with rfl | rfl
     .exact⟨K,v,N,v,c',rfl,rfl,u,e2.X,e2,D,G⟩
     .exact⟨K,v,N,v,c',rfl,rfl,u,e2.X,e2,D,G⟩
    .cases p
   split at a
   .rename_i st he;exact l .normal st (.inl rfl) he a
   .rename_i st he;exact l .ret st (.inr rfl) he a
   .cases a
end
end
end Go.Proofs.YtmcgghedgfkjiaaGreatDoor.Av
