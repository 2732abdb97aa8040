/- A part of the proof of a law. -/
import Derived.Test.YtmlgedgcbfchjaaGreatDoorP4
set_option maxRecDepth 100000
set_option maxHeartbeats 4000000
set_option linter.all false
namespace Go.Proofs.YtmlgedgcbfchjaaGreatDoor.Av
open Go
section
open jQ (den cds ag)
section
variable [dR]{R:Type}{H H1:TH}{A:aU}{N:Nat}{S:TS}{st:St}{P:Program}{T:List cQ}{cf:CF}{op:Ju}{K:TV->TS->Option R}{r:R}{E:XE}{n:Nat}{d:Option Nat}
theorem aBH{v:TV}{a:AV}(q:Qh H v a)(G:∀cs,v≠.agg cs): Qh H (aHb v)<|nrm a:=by
 cases v with
 | lit u=>
  have e:=q.inL;subst e;cases u with
  | slice o l c=>
   cases o with
   | some o=>exact Qh.u _
   | none=>
    cases l with
    | succ l=>exact Qh.u _
    | zero=>
     cases c with
     | succ c=>exact Qh.u _
     | zero=>exact .p _ _<|.emp _ _<|.inr<|.inr ⟨rfl,rfl⟩
  | _=>exact q
 | emp b=>
  cases (q.pu trivial) with
  | emp _ _ h=>rcases h with rfl | rfl | ⟨_,rfl⟩<;>exact .p _ _ (.emp _ _<|.inr<|.inr ⟨rfl,rfl⟩)
 | sl k l=>
  let⟨es,d,g⟩:=(q.pu trivial).inS;rcases d with⟨rfl,rfl⟩ | ⟨f,rfl⟩<;>exact .p _ _ (Qp.mkS (.inr ⟨_,rfl⟩) g)
 | vw k l=>
  let⟨es,d,g⟩:=(q.pu trivial).inV;rcases d with⟨rfl,rfl⟩ | ⟨f,rfl⟩ | rfl
  .exact .p _ _<|Qp.mkV (.inr<|.inl ⟨_,rfl⟩) g
  .exact .p _ _<|Qp.mkV (.inr<|.inl ⟨_,rfl⟩) g
  .exact q
 | undef=>exact Qh.u _
 | agg cs=>exact (G cs rfl).elim
 | rptr cs=>obtain⟨aw,rfl,_⟩:=(q.pu trivial).inR;exact q
 | sptr k x=>obtain⟨aw,rfl,_⟩:=(q.pu trivial).inP;exact q
 | ptr=>have e:=q.ptr1;subst e;exact q
 | pel=>let⟨_,_,_,_,_,e⟩:=q.pel1;subst e;exact q
 | fn vi cs=>obtain⟨aw,rfl,_⟩:=q.inF;exact q
 | tup cs=>obtain⟨aw,rfl,_⟩:=q.inT;exact q
 | rmp=>
  let⟨rows,d,_⟩:=(q.pu trivial).inM;rcases d with⟨rfl,_⟩ | rfl<;>exact q
 | rs=>have e:=q.rs1;subst e;exact q
 | rel=>have e:=q.rel1;subst e;exact q
 | ms id m=>
  cases q with
  | p _ _ q=>cases q
  | ms _ k l h=>exact .ms _ k l h
  | msn _ n k l h=>exact .msn _ n k l h
 | mp=>cases q with
  | p _ _ q=>cases q
  | mp=>exact .mp _
 | it=>cases q with
  | p _ _ q=>cases q
  | it=>exact .it _
theorem aTi[aF]{x:bA}(a:Qt N S st)(h:cM E n d (.mov x) S K=some r): dE P cf E.fl N (.mov x) st K r:=dE.same a rfl (a.get x) h
theorem aQv[aF]{c x y:bA}(a:Qt N S st)(h:cM E n d (.pick c x y) S K=some r): dE P cf E.fl N (.pick c x y) st K r:=by
 have q:=a.get c;simp only[cM] at h;split at h
 .rename_i u f;rw[f] at q;have e:=q.inL;split at h
  .rename_i b;cases b with
   | true=>exact dE.same a (by simp only[aO,e,Zz]) (a.get x) h
   | false=>exact dE.same a (by simp only[aO,e];rfl) (a.get y) h
  .cases h
 .cases h
theorem aO9[aF]{z:List Value}(a:Qt N S st)(h:cM E n d (.alloc z) S K=some r): dE P cf E.fl N (.alloc z) st K r:=by
 have c:=a.hp.ln;exact dE.add (v:=.ptr st.heap.length 1 0 0) (o:=.box<|z.map .lit) (b:=.blk z.length [z.map .lit]) a rfl ⟨z.map .lit,by simp,Qc.lits z⟩ (by rw[c];exact .ptr _ _) h
theorem aOw[aF]{s:Nat}(a:Qt N S st)(h:cM E n d (.claim s) S K=some r): dE P cf E.fl N (.claim s) st K r:=by
 have c:=a.hp.ln;simp only[cM] at h;split at h
 .rename_i e;have e:=Zc e;refine dE.add (v:=.ms st.heap.length 0 0 0) (o:=.lst (mW E d) []) (b:=.blk s []) a rfl ⟨[],by rw[e],trivial⟩ (by rw[c];have w:aJv E d=none\/aJv E d=some (0,0):=(by unfold aJv;split;split;exact .inr rfl;exact .inl rfl;exact .inl rfl);exact w.elim (λw=>by rw[w];exact .ms _ (mW E d) [] (by simp)) λw=>by rw[w];exact .msn _ (0,0) (mW E d) [] (by simp)) h
 .cases h
theorem aTT[aF]{x:bA}(c:Qt N S st)(h:cM E n d (.box x) S K=some r): dE P cf E.fl N (.box x) st K r:=by
 have g:=c.hp.ln;simp only[cM] at h;split at h
 .rename_i cs a;let⟨aw,f,e⟩:=Jl a<|c.get x;exact dE.add (v:=.ptr st.heap.length 1 0 0) (o:=.box cs) (b:=.blk aw.length [aw]) c (by simp only[aO,f]) ⟨aw,by rw[e.len],e.imp λ_ _ h=>h.mono HM.add⟩ (by rw[g];exact .ptr _ _) h
 .cases h
theorem aEi[aF](f:Qt N S st): ∀{b:List<|Nat×Nat×bA} {cs cs':List TV} {aw:List AV},aH0 cs (b.map λ(o,s,x)=>(o,s,bZ S.tm x))=some cs'->Qc S.hp cs aw->
 ∃a,VZ aw (b.map λ(o,s,x)=>(o,s,aH st.tmps x))=some a/\Qc S.hp cs' a
 | [],cs,cs',aw,h,q=>by cases h;exact⟨aw,rfl,q⟩
 | (o,s,x)::b,cs,cs',aw,h,q=>by
  simp only[ZE,aH0] at h;split at h
  .cases h
  .rename_i vs c;let⟨k,j,d⟩:=Jl c<|f.get x;split at h
   .rename_i e;have e:=Zc e;split at h
    .rename_i e2;have e2:=Zj e2;let⟨a,g,i⟩:=aEi f h<|q.spl d;refine⟨a,?_,i⟩;simp only[ZE,VZ,j];rw[Zu ⟨by rw[d.len,e],by rw[q.len];exact e2⟩];exact g
    .cases h
   .cases h
theorem aO1[aF]{z:List Value}{c:List<|Nat×Nat×bA}(b:Qt N S st)(h:cM E n d (.build z c) S K=some r): dE P cf E.fl N (.build z c) st K r:=by
 simp only[cM] at h;split at h
 .rename_i cs a;let⟨aw,e,f⟩:=aEi b a<|Qc.lits z;exact dE.same b (by simp only[aO,e]) (Qh.mkA f) h
 .cases h
theorem aEj[aF]{s:Nat}(f:Qt N S st): ∀{b:List<|Nat×bA} {cs cs':List<|List TV} {aw:List<|List AV},aH1 s cs (b.map λ(i,x)=>(i,bZ S.tm x))=some cs'->bV (Qc S.hp) cs aw->
 ∃a,Qq s aw (b.map λ(i,x)=>(i,aH st.tmps x))=some a/\bV (Qc S.hp) cs' a/\cs'.length=cs.length
 | [],cs,cs',aw,h,q=>by cases h;exact⟨aw,rfl,q,rfl⟩
 | (i,x)::b,cs,cs',aw,h,q=>by
  simp only[ZE,aH1] at h;split at h
  .cases h
  .rename_i vs c;let⟨m,l,d⟩:=Jl c<|f.get x;split at h
   .rename_i e;have e:=Zc e;split at h
    .rename_i e2;have e2:i<cs.length:=by simpa [YC] using e2
     let⟨a,g,j,k⟩:=aEj f h<|q.set i d;refine⟨a,?_,j,by rw[k];simp⟩;simp only[ZE,Qq,l];rw[Zu ⟨by rw[d.len,e],by rw[q.len];exact e2⟩];exact g
    .cases h
   .cases h
theorem aIS[aF]{pu:Bool}{s m:Nat}{z:List Value}{i:List<|Nat×bA}(a:Qt N S st)(h:cM E n d (.buildSl pu s m z i) S K=some r): dE P cf E.fl N (.buildSl pu s m z i) st K r:=by
 have q:=a.hp.ln;simp only[cM] at h;split at h
 .rename_i es j;let⟨aw,k,f,u⟩:=aEj a j<|bV.rep (Qc.lits z) m;split at h
  .split at h
   .cases h
   .exact dE.add (v:=.ms st.heap.length m 0 m) (o:=.rows s es) (b:=.blk s aw) a (by simp only[aO,k,Zn,Z9]) ⟨aw,rfl,f.imp λ_ _ h=>h.imp λ_ _ h=>h.mono HM.add⟩ (by rw[q];exact .rs _ _) h
  split at h
  .rename_i l c;have g:=aB4 c f;split at h
   .rename_i e;have e:=Zc e;have t:l.length=m:=by rw[<-g.len,f.len,u];simp
    cases pu with
    | true=>
     simp only at h;have he:aO P cf E.fl (.buildSl true s m z i) st.tmps st.heap=some (.sl true<|aw.map λe=>e.map Gt,st.heap):=by simp only[aO,k,Zz]
     split at h
     .cases aw with
      | nil=>exact dE.same a he (.p _ _<|.emp _ _<|.inr<|.inl rfl) h
      | cons=>exact f.elim
     .exact dE.same a he (.p _ _<|Qp.mkS (.inr ⟨_,rfl⟩)<|vK.ls g) h
    | false=>
     exact dE.add (v:=.ms st.heap.length m 0 m) (o:=.lst (mW E d) l) (b:=.blk s aw) a (by simp only[aO,k,Zn,Z9]) ⟨aw,by rw[e],g⟩ (by rw[q,<-t];exact .ms _ (mW E d) l<|by simp) h
   .cases h
  .cases h
 .cases h
theorem aF3[aF]{x:bA}(b:Qt N S st)(h:cM E n d (.nilCheck x) S K=some r): dE P cf E.fl N (.nilCheck x) st K r:=by
 have q:=b.get x;simp only[cM] at h;split at h
 .rename_i a;rw[a] at q;exact dE.same b (by simp only[aO,q.ptr1]) (q.ptr1▸q) h
 .rename_i a;rw[a] at q;let⟨_,_,_,_,_,e⟩:=q.pel1;exact dE.same b (by simp only[aO,e]) (e▸q) h
 .rename_i a;rw[a] at q;let⟨aw,e,_⟩:=(q.pu trivial).inR;exact dE.same b (by simp only[aO,e]) (e▸q) h
 .rename_i a;rw[a] at q;let⟨aw,e,_⟩:=(q.pu trivial).inP;exact dE.same b (by simp only[aO,e]) (e▸q) h
 .rename_i a;rw[a] at q;let⟨aw,e,_⟩:=q.inF;exact dE.same b (by simp only[aO,e]) (e▸q) h
 .cases h
theorem aQO{o:BinOp}{k:IntKind}{a b:Int}{K:TV->Option R}(h:aTt o k a b K=some r): ∃v tv,aAE o k a b=some v/\Qh H tv (.lit v)/\K tv=some r:=by
 have d:∀{c:Bool},Ol (.lit<|.bool c) K=some r->∃v tv,some (Value.bool c)=some v/\Qh H tv (.lit v)/\K tv=some r:=by
  intro c h;let⟨q,i,n⟩:=KL h<|Qh.l (H:=H)<|.bool c;exact⟨_,q,rfl,i,n⟩
 cases o with
 | add=>exact⟨_,_,rfl,Qh.l _,h⟩
 | sub=>exact⟨_,_,rfl,Qh.l _,h⟩
 | mul=>exact⟨_,_,rfl,Qh.l _,h⟩
 | eql=>exact d h
 | neq=>exact d h
 | lss=>exact d h
 | leq=>exact d h
 | gtr=>exact d h
 | geq=>exact d h
 | _=>cases h
theorem aQQ[aF]{o:BinOp}{x y:bA}(c:Qt N S st)(h:cM E n d (.ibin o x y) S K=some r): dE P cf E.fl N (.ibin o x y) st K r:=by
 have q:=c.get x;have f:=c.get y;simp only[cM] at h;split at h
 .rename_i u m;rw[m] at q;split at h
  .rename_i k a;split at h
   .rename_i w g;rw[g] at f;split at h
    .rename_i k' b;split at h
     .rename_i e _;subst e;obtain⟨v,tv,j,l,i⟩:=aQO h;exact dE.same c (by simp only[aO,q.inL,f.inL,Zz,j]) l i
     .cases h
    .cases h
   .cases h
  .cases h
 .cases h
theorem aVf[aF]{o:UnOp}{x:bA}(a:Qt N S st)(h:cM E n d (.un o x) S K=some r): dE P cf E.fl N (.un o x) st K r:=by
 have q:=a.get x;simp only[cM] at h;split at h;all_goals first | cases h | skip;all_goals
  split at h
  .rename_i u b;rw[b] at q;split at h
   .exact dE.same a (by simp only[aO,q.inL];rfl) (Qh.l _) h
   .cases h
  .cases h
theorem aEl[aF]{o:Nat}{x:bA}(b:Qt N S st)(h:cM E n d (.fieldAddr o x) S K=some r): dE P cf E.fl N (.fieldAddr o x) st K r:=by
 have q:=b.get x;simp only[cM] at h;split at h
 .rename_i a;rw[a] at q;exact dE.same b (by simp only[aO,q.ptr1]) (.ptr _ _) h
 .rename_i a;rw[a] at q;let⟨k,l,f,c,g,e⟩:=q.pel1;exact dE.same b (by simp only[aO,e]) (.pel _ _ _ k l f c g) h
 .rename_i a;rw[a] at q;let⟨aw,e,c⟩:=(q.pu trivial).inR;exact dE.same b (by simp only[aO,e]) (.p _ _<|Qp.mkR<|c.drop _) h
 .rename_i a;rw[a] at q;let⟨aw,e,c⟩:=(q.pu trivial).inP;exact dE.same b (by simp only[aO,e]) (.p _ _<|Qp.mkR<|c.drop _) h
 .rename_i a;rw[a] at q;exact dE.same b (by simp only[aO,q.rel1]) (.rel _ _ _ _) h
 .cases h
theorem aNW[aF]{agg:Bool}{m o:Nat}{x:bA}(b:Qt N S st)(h:cM E n d (.field agg m o x) S K=some r): dE P cf E.fl N (.field agg m o x) st K r:=by
 have q:=b.get x;simp only[cM] at h;split at h
 .rename_i cs k;rw[k] at q;let⟨aw,g,c⟩:=q.inA;let⟨e,tv,v,a,j,f⟩:=G1 h c;refine dE.same b ?_ j f;simp only[aO,g,e,Zz];cases agg with
  | true=>simp only[Zz,Za] at a |-;rw[a]
  | false=>
   simp only[Zn,Z9] at a |-;split at a
   .rename_i i;rw[i];cases a;rfl
   .cases a
 .cases h
theorem vN{v:TV}{a:AV}{i:Int}(h:aHq v=some i)(q:Qh H v a)(b:0<=i): gY a=some i.toNat:=by
 unfold aHq at h;split at h
 .cases h;rw[q.inL];simp[gY,b]
 .cases h
theorem aI8[aF]{s:Nat}{x i:bA}(a:Qt N S st)(h:cM E n d (.idxAddr s x i) S K=some r): dE P cf E.fl N (.idxAddr s x i) st K r:=by
 have q:=a.get x;have B:=a.get i;simp only[cM] at h;split at h
 .rename_i j A;split at h
  .rename_i k l g;rw[g] at q;split at h
   .rename_i e;have e:=Zc e;let⟨y,t,h⟩:=bD h;let⟨c,F,_⟩:=qS t;let⟨es,D,C⟩:=(q.pu trivial).inS;let⟨H,he,u⟩:=C.get F;rcases D with⟨_,rfl⟩ | ⟨f,G⟩
    .simp at he
    .refine dE.same a ?_ (.p _ _<|Qp.mkR u) h;simp only[aO,vN A B c,G,he];rw[Zu<|by rw[u.len,uX,e]]
   .cases h
  .rename_i k l g;rw[g] at q;split at h
   .rename_i e;have e:=Zc e;let⟨y,t,h⟩:=bD h;let⟨c,F,_⟩:=qS t;let⟨es,D,C⟩:=(q.pu trivial).inV;let⟨H,he,u⟩:=C.get F;rcases D with⟨_,rfl⟩ | ⟨f,G⟩ | G
    .simp at he
    .refine dE.same a ?_ (.p _ _<|Qp.mkR u) h;simp only[aO,vN A B c,G,he];rw[Zu<|by rw[u.len,uX,e]]
    .refine dE.same a ?_ (.p _ _<|Qp.mkR u) h;simp only[aO,vN A B c,G,he];rw[Zu<|by rw[u.len,uX,e]]
   .cases h
  .rename_i id m g;rw[g] at q;split at h
   .rename_i o z;split at h
    .rename_i k l;split at h
     .rename_i e;have e:=Zc e;let⟨es,D,C⟩:=a.hp.lst z;have L:=q.mw z;split at h
      .let⟨y,t,h⟩:=bD h;let⟨c,F,M,J⟩:=aI7 t;refine dE.same a ?_ (.pel id j 0 k l z c J) h;simp only[aO,vN A B c,L,D,Fo];rw[Zu ⟨e,C.len,F⟩,Z0]
      .rename_i w;let⟨y,t,h⟩:=bD h;let⟨c,F,M⟩:=qS t;simp only[win,ZH,ZV] at M;have J:(j+((w.1:Nat):Int)).toNat=w.1+j.toNat:=by omega
       refine dE.same (v:=.ptr id l.length (w.1+j.toNat) 0) a ?_ (by rw[<-J];exact .pel id _ 0 k l z (by omega)<|by omega) h;simp only[aO,vN A B c,L,D,Fo];rw[Zu ⟨e,C.len,by omega⟩]
     .cases h
    .cases h
   .cases h
  .rename_i id m g;rw[g] at q;split at h
   .rename_i I;split at h
    .rename_i o z;split at h
     .split at h
      .rename_i e;simp only[Zd] at e;have H:=Zc e.1;have e2:=Zc e.2.1;have R:I<m:=by simpa [YC] using e.2.2
       obtain⟨b,Q,aw,rfl,O⟩:=a.hp.get z;refine dE.same a ?_ (.rel id m I 0) h;have T:gY (aH st.tmps i)=some I:=vN A B<|Wc _;simp only[aO,T,q.rs1,Q];rw[Zu ⟨H,by rw[O.len,e2],R⟩,Z0]
      .cases h
     .cases h
    .cases h
   .cases h
  .cases h
 .cases h
theorem aQI[aF]{x:bA}(w:Qt N S st)(h:cM E n d (.lenS x) S K=some r): dE P cf E.fl N (.lenS x) st K r:=by
 have q:=w.get x;simp only[cM] at h;split at h
 .rename_i m g;refine dE.same w ?_ (Qh.l _) h;generalize bZ S.tm x=v at g q;generalize i:aH st.tmps x=a at q;cases v with
  | sl k l=>
   cases g;let⟨es,j,s⟩:=(q.pu trivial).inS;rw[<-s.len];rcases j with⟨rfl,rfl⟩ | ⟨f,rfl⟩<;>simp only[aO,i]<;>rfl
  | vw k l=>
   cases g;let⟨es,j,s⟩:=(q.pu trivial).inV;rw[<-s.len];rcases j with⟨rfl,rfl⟩ | ⟨f,rfl⟩ | rfl<;>simp only[aO,i]<;>rfl
  | emp b=>
   cases g;cases (q.pu trivial) with
   | emp _ _ h=>rcases h with rfl | rfl | ⟨_,rfl⟩<;>simp only[aO,i]<;>rfl
  | lit u=>
   have e:=q.inL;subst e;unfold aQH at g;split at g
   .rename_i e;cases e
   .rename_i e;cases e
   .rename_i e;cases e
   .rename_i e;cases e;cases g;simp only[aO,i];rfl
   .rename_i e;cases e
   .rename_i e;cases e
   .cases g
  | rs id c=>cases g;simp only[aO,i,q.rs1]
  | ms id c=>
   cases q with
   | p _ _ q=>cases q
   | ms _ k l t=>
    simp only[aQH,t] at g;cases g;simp only[aO,i]
   | msn _ c k l t=>
    cases g;simp only[aO,i]
  | _=>cases g
 .cases h
theorem aIH[aF]{i:Nat}{x:bA}(a:Qt N S st)(h:cM E n d (.extract x i) S K=some r): dE P cf E.fl N (.extract x i) st K r:=by
 have q:=a.get x;simp only[cM] at h;split at h
 .rename_i vs g;rw[g] at q;let⟨aw,e,j⟩:=q.inT;split at h
  .rename_i v k;let⟨b,f,c⟩:=j.get k;exact dE.same a (by simp only[aO,e,f]) c h
  .cases h
 .cases h
theorem Ae{v:TV}{a:AV}{i:Int}(h:i64? v=some i)(q:Qh H v a): a=iv i:=by
 unfold i64? at h;split at h
 .split at h
  .split at h
   .cases h;exact q.inL
   .cases h
  .cases h
 .cases h
theorem aKC[aF]{mx:Bool}{g:List bA}(f:Qt N S st)(h:cM E n d (.minmax mx g) S K=some r): dE P cf E.fl N (.minmax mx g) st K r:=by
 simp only[cM] at h;split at h
 .rename_i p c;match g,c with
  | [x,y],c=>
   simp only[ZE,Yn,aOV] at c;split at c
   .rename_i a k;split at c
    .rename_i b j;cases c;have i:=Ae k<|f.get x;have e2:=Ae j<|f.get y;cases mx with
     | true=>
      refine dE.same f ?_ (Qh.l _) h;have e:aO P cf E.fl (.minmax true [x,y]) st.tmps st.heap=aO P cf E.fl (.minmax true [.tmp 0,.tmp 1]) [aH st.tmps x,aH st.tmps y] st.heap:=rfl;rw[e,i,e2];exact aKs
     | false=>
      refine dE.same f ?_ (Qh.l _) h;have e:aO P cf E.fl (.minmax false [x,y]) st.tmps st.heap=aO P cf E.fl (.minmax false [.tmp 0,.tmp 1]) [aH st.tmps x,aH st.tmps y] st.heap:=rfl;rw[e,i,e2];exact aQy
    .cases c
   .cases c
  | [],c=>cases c
  | [_],c=>cases c
  | _::_::_::_,c=>cases c
 .cases h
end
section
variable [dR]{R:Type}{H H1:TH}{A:aU}{N:Nat}{S:TS}{st:St}{P:Program}{T:List cQ}{cf:CF}{op:Ju}{K:TV->TS->Option R}{r:R}{E:XE}{n:Nat}{d:Option Nat}
theorem y6{i:Nat}: ∀{a:List Nat},FN i a=false->i∉a
 | [],_=>by simp
 | j::r,h=>by
  simp only[FN] at h;split at h
  .cases h
  .rename_i e;simp only[ZN,not_or];exact⟨YF e,y6 h⟩
theorem aF7{i:Nat}: ∀{a:List Nat},i∉a->FN i a=false
 | [],_=>rfl
 | j::r,h=>by
  simp only[ZN,not_or] at h;simp only[FN];split
  .rename_i e;exact absurd (Zc e) h.1
  .exact aF7 h.2
def HMk(c:List Nat)(H H':TH): Prop:=∀(j k:Nat) (l:List<|den k),j∉c->H[j]?=some (.lst k l)->∃(k':Nat) (b:List<|den k'),H'[j]?=some (.lst k' b)/\b.length=l.length
theorem H6{f:List Nat}(m:HMk f H H1){v:TV}{a:AV}(q:Qh H v a): Qh H1 (H7 f v) a:=by
 cases q with
 | p _ _ q=>
  cases v with
  | ms=>cases q
  | pel=>cases q
  | agg=>cases q
  | tup=>cases q
  | fn=>cases q
  | _=>exact .p _ _ q
 | ms i k l h=>
  simp only[H7];cases e:FN i f with
  | true=>exact Qh.u _
  | false=>let⟨k',c,b,d⟩:=m i k l (y6 e) h;rw[<-d];exact .ms i k' c b
 | msn i n k l h=>
  simp only[H7];cases e:FN i f with
  | true=>exact Qh.u _
  | false=>let⟨k',c,b,d⟩:=m i k l (y6 e) h;rw[<-d];exact .msn i n k' c b
 | pel i j o k l h b d=>
  simp only[H7];cases e:FN i f with
  | true=>exact Qh.u _
  | false=>let⟨k',c,w,x⟩:=m i k l (y6 e) h;rw[<-x];exact .pel i j o k' c w b<|by omega
 | ptr=>exact .ptr _ _
 | mp=>exact .mp _
 | it=>exact .it _
 | rs=>exact .rs _ _
 | rel=>exact .rel _ _ _ _
 | fn vi cs aw b d=>
  cases cs with
  | nil=>
   cases aw with
   | nil=>exact Qh.mkF trivial
   | cons=>cases b
  | cons=>exact Qh.u _
 | agg=>exact Qh.u _
 | tup=>exact Qh.u _
theorem Ht{c:List Nat}(m:HMk c H H1){v:TV}{a:AV}(q:Qh H v a): Qh H1 (EB c v) a:=by
 cases v with
 | agg cs=>
  obtain⟨aw,rfl,b⟩:=q.inA;exact Qh.mkA<|b.mapL λ_ _ q=>H6 m q
 | fn vi cs=>
  obtain⟨aw,rfl,b⟩:=q.inF;exact Qh.mkF<|b.mapL λ_ _ q=>H6 m q
 | tup cs=>exact Qh.u _
 | _=>exact H6 m q
theorem H4{f:TV->TV}{t:Nat}{v:TV}: ∀{tm:TT},dD t (tm.map λp=>(p.1,f p.2))=some v->∃u,dD t tm=some u/\v=f u
 | [],h=>by cases h
 | (s,u)::tm,h=>by
  simp only[ZE,dD] at h |-;split at h
  .cases h;exact⟨u,rfl,rfl⟩
  .exact H4 h
theorem aF9{a:List Nat}{t:Nat}{v:TV}{tm:TT}(h:dD t (aDO a tm)=some v): ∃u,dD t tm=some u/\(v=EB a u\/(a=[]/\v=u)):=by
 cases a with
 | nil=>exact⟨v,h,.inr ⟨rfl,rfl⟩⟩
 | cons k r=>let⟨u,c,b⟩:=H4 h;exact⟨u,c,.inl b⟩
theorem H5{f:List Nat}{A:aU}(d:Qt N S st)(m:HMk f S.hp H1)(g:Qs H1 A): Qt N ⟨aDO f S.tm,H1⟩ ⟨st.tmps,A⟩:=by
 refine⟨d.ln,λt v n=>?_,g⟩;let⟨u,j,e⟩:=aF9 n;let⟨a,b,c⟩:=d.tm t u j;rcases e with rfl | ⟨rfl,rfl⟩
 .exact⟨a,b,Ht m c⟩
 .exact⟨a,b,c.mono λi k l h=>m i k l (by simp) h⟩
theorem aDQ{a:List Nat}{o:pK}{b:dK}(m:HMk a H H1)(h:Qo H o b): Qo H1 (Hs a o) b:=by
 cases o with
 | box cs=>let⟨aw,e,q⟩:=h;exact⟨aw,by simpa using e,q.mapL λ_ _ q=>Ht m q⟩
 | rows s es=>let⟨aw,e,q⟩:=h;exact⟨aw,e,q.mapL λ_ _ q=>q.mapL λ_ _ q=>Ht m q⟩
 | _=>exact h
theorem aDH{a:List Nat}{i k:Nat}{l:List<|den k}(h:H[i]?=some (.lst k l)): (H.map<|Hs a)[i]?=some (.lst k l):=by
 rw[Zk,h];rfl
theorem aDP{id:Nat}{o:pK}{b:dK}(d:Qt N S st)(n:Hs [id] o=o)(g:∀H,HMk [id] S.hp H->H[id]?=some o->Qo H o b)(a:id<S.hp.length): Qt N (iK id<|gR S id o) ⟨st.tmps,st.heap.set id b⟩:=by
 have e:(iK id<|gR S id o).hp=(S.hp.map<|Hs [id]).set id o:=by
  simp only[iK,gR,Xz,n]
 have m:HMk [id] S.hp (iK id<|gR S id o).hp:=by
  intro j k l i h;rw[e,Zv<|by simpa [Wy] using i];exact⟨k,l,aDH h,rfl⟩
 refine H5 (S:=S) d m ?_;have f:bV (Qo (iK id<|gR S id o).hp) (S.hp.map<|Hs [id]) st.heap:=d.hp.mapL λ_ _ h=>aDQ m h;have c:=f.set id<|g _ m<|by rw[e];simp[a]
 rw[<-e] at c;exact c
theorem LU{id k:Nat}{l a:List<|den k}{b:dK}(e:Qt N S st)(f:S.hp[id]?=some (.lst k l))(d:∀H,Qo H (.lst k a) b): Qt N (iK id<|gR S id<|.lst k a) ⟨st.tmps,st.heap.set id b⟩:=
 aDP e rfl (λH _ _=>d H) (Ze.1 f).1
theorem kJ{a bytes:Nat}(b:a<=1000000)(c:bytes<=100000): mT a bytes=true:=by
 have:=Y8 b c;simp[mT];exact⟨by omega,by omega⟩
theorem Ql.all{k s:Nat}{l:List<|den k}{es:List<|List AV}(h:Ql k l es)(e:(cds k).length=s): fA s es=true:=by
 unfold fA;rw[Yl];intro x c;let⟨i,b⟩:=WR c;have a:i<l.length:=by rw[<-h.len];exact (Ze.1 b).1
 have:=(h.at (Zb a) b).len;rw[this,uX,e];simp
theorem zA{α:Type}{l ys:List α}{a:Nat}(h:a+ys.length<=l.length): (aV l a ys).length=l.length:=by
 simp only[aV,Zh,ZH,ZV];omega
theorem EU{α:Type}(l:List α)(a:Nat): aV l a []=l:=by simp[aV]
theorem PS{α:Type}{l:List α}{i:Nat}{x:α}(h:l[i]?=some x): l.set i x=l:=by
 apply Ym;intro j;rw[Z5];split
 .rename_i e;subst e;rw[Zu (Ze.1 h).1,h]
 .rfl
theorem aBd{α:Type}{l ys a:List α}{w:Nat×Nat}(h:V6 l w ys=some a): a=aV l (w.1+w.2) ys/\w.1+w.2+ys.length<=l.length/\l.length+ys.length<=1000000:=by
 unfold V6 at h;split at h
 .rename_i b;cases h;exact⟨rfl,b⟩
 .cases h
theorem aIW{α:Type}{l ys a:List α}{w:Nat×Nat}(h:aLX l w ys=some a): (w.1=0/\w.2=l.length/\a=l++ys/\l.length+ys.length<=1000000)\/(a=aV l (w.1+w.2) ys/\w.1+w.2+ys.length<=l.length/\l.length+ys.length<=1000000):=by
 unfold aLX at h;split at h
 .rename_i b;cases h;exact .inl ⟨b.1,b.2.1,rfl,b.2.2⟩
 .exact .inr (aBd h)
theorem aBc{fl id s bytes tot off len:Nat}{H:aU}{es ys:List<|List AV}(b:H[id]?=some (.blk s es))(f:es.length=tot)(d:fA s ys=true)(j:0<s)(i:mT ys.length bytes=true)(c:mT (tot+ys.length) bytes=true)(e:fl<=id)(h:off+len+ys.length<=tot):
 cP fl H s bytes (.ms id tot off len) ys=some (.ms id tot off<|len+ys.length,H.set id<|.blk s<|aV es (off+len) ys):=by
 unfold cP;simp only[d,j,i,b,f,c,e,Y7,Zz];by_cases g:ys.length=0
 .have:ys=[]:=ZK.1 g;subst this;simp only[Z1,Xm,Zz,EU,PS b]
 .rw[ZF g,ZF<|by omega,Zu h]
theorem dE.put[aF]{fl:Nat}{v:AV}{tv:TV}{id k:Nat}{l:List<|den k}{a:List<|den k}{b:dK}(f:Qt N S st)(i:S.hp[id]?=some (.lst k l))(e:a.length=l.length)(he:aO P cf fl op st.tmps st.heap=some (v,st.heap.set id b))(q:Qo (S.hp.set id<|.lst k a) (.lst k a) b)(g:Qh (S.hp.set id<|.lst k a) tv v)(h:K tv (gR S id<|.lst k a)=some r): dE P cf fl N op st K r:=
 dE.set f he (HM.set λm n d=>by rw[i] at d;cases d;exact⟨k,a,rfl,e⟩) q g h
theorem aLW[aF]{s bytes:Nat}{x y:bA}(p:Qt N S st)(h:cM E n d (.append s bytes x y) S K=some r): dE P cf E.fl N (.append s bytes x y) st K r:=by
 have q:=p.get x;have V:=p.get y;have J:=p.hp.ln;have Q:∀v,bZ S.tm x=v->VS v=true->(match Nat.beq (cds<|mW E d).length s&&Nat.blt 0 s with
  | true=>match rdX S.hp (mW E d) (bZ S.tm y) with
   | some ys=>match Nat.ble bytes 100000 with
    | true=>cnd (List.isEmpty ys) (K v S)<|bnd (app [] ys) λu=>K (.ms S.hp.length none)<|Vl S<|.lst (mW E d) u
    | false=>none
   | none=>none
  | false=>none)=some r->dE P cf E.fl N (.append s bytes x y) st K r:=by
  intro v Z c h;rw[Z] at q;have j:aH st.tmps x=.lit bO\/aH st.tmps x=.sl true []:=by
   unfold VS at c;split at c
   .subst c;cases (q.pu trivial) with
    | emp _ _ h=>
     rcases h with h | h | ⟨h,_⟩
     .exact .inl h
     .exact .inr h
     .cases h
   .split at c
    .split at c
     .split at c
      .split at c
       .exact .inl q.inL
       .cases c
      .cases c
     .cases c
    .cases c
   .cases c
  split at h
  .rename_i A;simp only[Zd] at A;have t:=Zc A.1;have e2:0<s:=by simpa [YC] using A.2
   split at h
   .rename_i ys C;let⟨es,F,a⟩:=aFn C V p.hp;split at h
    .rename_i i;have i:=Zj i;have W:=a.all t;rcases N2 h with⟨R,h⟩ | ⟨R,h⟩
     .have B:ys=[]:=by simpa using R
      subst B;have e4:es=[]:=ZK.1 a.len;subst e4;refine dE.same p ?_ q h;simp only[aO,F];rcases j with j | j<;>rw[j]<;>simp[cP,fA,e2,mT,bO]
     .let⟨u,g,h5⟩:=bD h;clear h;let⟨B,f⟩:=Vk g;rw[Xt] at B;subst B;simp only[Z1,Z0] at f;have U:mT es.length bytes=true:=kJ (by rw[a.len];exact f) i;have X:es.length≠0:=by
       rw[a.len];intro e;have:=ZK.1 e;subst this;cases R
      refine dE.add (v:=.ms st.heap.length u.length 0 u.length) (o:=.lst (mW E d) u) (b:=.blk s es) p ?_ ⟨es,by rw[t],a⟩ (by rw[J];exact .ms _ (mW E d) u<|by simp) h5;simp only[aO,F,<-a.len];rcases j with j | j<;>rw[j]
      .simp[cP,bO,W,e2,U,X]
      .have M:fA s ([]:List<|List AV)=true:=rfl;unfold cP;simp only[W,e2,U,X,M,Y7,Zz,Z9,Z1,Z0,Xt]
    .cases h
   .cases h
  .cases h
 simp only[cM] at h;split at h
 .rename_i id m j;rw[j] at q;split at h
  .rename_i o D;split at h
   .rename_i k l;split at h
    .rename_i ys C;let⟨es,F,a⟩:=aFn C V p.hp;split at h
     .rename_i A;simp only[Zd] at A;have t:=Zc A.1;have e2:0<s:=by simpa [YC] using A.2.1
      have G:=Zj A.2.2;split at h
      .rename_i i;have i:=Zj i;let⟨L,O,I⟩:=p.hp.lst D;rw[t] at O;have T:=q.mw D;split at h
       .let⟨u,g,h⟩:=bD h;let⟨B,f⟩:=Vk g;subst B;have he:=KC (fl:=E.fl) (bytes:=bytes) (tot:=l.length) (ys:=es) O I.len (a.all t) e2 (kJ (by rw[a.len];omega) i) (kJ (by rw[a.len];omega) i) G;refine⟨.ms id (l.length+es.length) 0<|l.length+es.length,st.heap.set id<|.blk s<|L++es,.ms id none,iK id<|gR S id<|.lst k<|l++ys,?_,LU p D λH=>⟨L++es,by rw[t],I.app a⟩,?_,h⟩
        .simp only[aO,F,T];exact he
        .have:=Qh.ms (H:=(iK id<|gR S id<|.lst k<|l++ys).hp) id k (l++ys)<|by simp[iK,gR,Zk,(Ze.1 D).1,Hs]
         rw[Zh,<-a.len] at this;exact this
       .rename_i w;split at h
        rotate_left
        .let⟨u,g,h⟩:=bD h;rcases aIW g with⟨w1,w2,B,f⟩ | ⟨B,f,Y⟩
         .subst B;have he:=KC (fl:=E.fl) (bytes:=bytes) (tot:=l.length) (ys:=es) O I.len (a.all t) e2 (kJ (by rw[a.len];omega) i) (kJ (by rw[a.len];omega) i) G;refine⟨.ms id (l.length+es.length) 0<|l.length+es.length,st.heap.set id<|.blk s<|L++es,.ms id (some (w.1,w.2+ys.length)),iK id<|gR S id<|.lst k<|l++ys,?_,LU p D λH=>⟨L++es,by rw[t],I.app a⟩,?_,h⟩
          .simp only[aO,F,T,Fo,w1,w2];exact he
          .have:=Qh.msn (H:=(iK id<|gR S id<|.lst k<|l++ys).hp) id (w.1,w.2+ys.length) k (l++ys)<|by simp[iK,gR,Zk,(Ze.1 D).1,Hs]
           simp only[Zh,w1,w2,<-a.len] at this |-;exact this
         .subst B;have z:(aV l (w.1+w.2) ys).length=l.length:=zA<|by omega
          refine⟨.ms id l.length w.1<|w.2+es.length,st.heap.set id<|.blk s<|aV L (w.1+w.2) es,.ms id (some (w.1,w.2+ys.length)),iK id<|gR S id<|.lst k<|aV l (w.1+w.2) ys,?_,LU p D λH=>⟨_,by rw[t],I.spl a⟩,?_,h⟩
          .simp only[aO,F,T,Fo];exact aBc O I.len (a.all t) e2 (kJ (by rw[a.len];omega) i) (kJ (by rw[a.len];omega) i) G<|by rw[a.len];exact f
          .have:=Qh.msn (H:=(iK id<|gR S id<|.lst k<|aV l (w.1+w.2) ys).hp) id (w.1,w.2+ys.length) k (aV l (w.1+w.2) ys)<|by simp[iK,gR,Zk,(Ze.1 D).1,Hs]
           rw[z] at this;simp only[<-a.len] at this |-;exact this
        let⟨u,g,h⟩:=bD h;let⟨B,f,Y⟩:=aBd g;subst B;have z:(aV l (w.1+w.2) ys).length=l.length:=zA<|by omega
        refine dE.put (v:=.ms id l.length w.1<|w.2+es.length) (b:=.blk s<|aV L (w.1+w.2) es) p D z ?_ ⟨_,by rw[t],I.spl a⟩ (by have:=Qh.msn (H:=S.hp.set id<|.lst k<|aV l (w.1+w.2) ys) id (w.1,w.2+ys.length) k _<|Z3 (Ze.1 D).1;rw[z,<-a.len] at this;rw[<-a.len];exact this) h;simp only[aO,F,T,Fo];exact aBc O I.len (a.all t) e2 (kJ (by rw[a.len];omega) i) (kJ (by rw[a.len];omega) i) G<|by rw[a.len];exact f
      .cases h
     .cases h
    .cases h
   .cases h
  .cases h
 .split at h
  .rename_i c;exact Q _ rfl c h
  .cases h
theorem aBE{w:Nat}: ∀{b:List Sh},okA w b=true->∀s∈b,(∃k,s=.w k)\/(w=0/\∃k,s=.v k)
 | [],_,s,a=>by cases a
 | s'::r,h,s,a=>by
  have c:((∃k,s'=.w k)\/(w=0/\∃k,s'=.v k))/\okA w r=true:=by
   cases s' with
   | w k=>exact⟨.inl ⟨k,rfl⟩,h⟩
   | v k=>
    simp only[okA] at h;split at h
    .exact⟨.inr ⟨rfl,k,rfl⟩,h⟩
    .cases h
   | _=>cases h
  rcases ZN.1 a with rfl | a
  .exact c.1
  .exact aBE c.2 s a
theorem aP2{b:List Sh}{vs:List TV}{p:fT b}{aw:List AV}{c:TH}(d:okA 0 b=true)(h:Fy 0 c b vs=some p)(q:Qc H vs aw): Qc H1 (Og b p) (aw.map LR)/\∀a∈aw,uB a=true:=
 aB2 (λs e=>by
  rcases aBE d s e with⟨k,rfl⟩ | ⟨_,k,rfl⟩
  .exact λh q=>⟨aVe (aQk h q).1,(aQk (H1:=[]) h q).2⟩
  .exact λh q=>aQk h q) h q
theorem aLS{a:List Sh}{vs:List TV}{p:fT a}{aw:List AV}(d:okA 1 a=true)(h:Fy 1 H a vs=some p)(q:Qc H vs aw)(c:Qs H A): Qc H1 (Og a p)<|aw.map<|cG A:=
 (aB2 (G:=λ_=>True) (λs b=>by
  rcases aBE d s b with⟨k,rfl⟩ | ⟨e,_⟩
  .exact λh q=>⟨aVq h q c,trivial⟩
  .cases e) h q).1
theorem aSC{c:List Nat}{vs:List TV}{p:fT<|c.map .v}{aw:List AV}(h:Fy 2 H (c.map .v) vs=some p)(q:Qc H vs aw)(d:Qs H A): Qc H1 (Og (c.map .v) p) (aw.map<|dZ A 0)/\∀a∈aw,∀l,a≠.tup l:=
 aB2 (λs b=>by
  obtain⟨k,_,rfl⟩:=Yh.1 b;exact λh q=>aVp h q d) h q
theorem aD0{aw:List AV}(h:∀a∈aw,uB a=true): gK aw=true:=by
 induction aw with
 | nil=>rfl
 | cons a r c=>simp only[gK,h a ZM];exact c λb d=>h b<|ZQ _ d
theorem O1[aF]{vi w:Nat}{c:CSp}{vs:List TV}{aw:List AV}{K:TV->Option R}(t:FOK P T vi c)(h:Vg n w c vs H K=some r)(z:∀p,okA w c.ka=true->Fy w H c.ka vs=some p->Qc [] (Og c.ka p) aw):
 ∃g a tv,fH P T n 0 vi aw []=some (a,g)/\Qh H1 tv (fF g 0 a)/\K tv=some r:=by
 unfold Vg at h;split at h
 .rename_i p s;split at h
  .cases h
  .rename_i y;let⟨x,u,h⟩:=bD h;let⟨f,g,o,k,j,_⟩:=t n p x u aw<|z p y s;have k:=k H1;let⟨i,d,h⟩:=aGy h k;refine⟨g,kO f,?_⟩;split at h
   .rename_i v;match f,d,j with
    | [a],d,j=>
     refine⟨v,o,?_,h⟩;have e:fF g 0 a=dZ g 0 a:=by
      cases a with
      | tup l=>exact (j _ ZM l rfl).elim
      | _=>rfl
     show Qh H1 v<|fF g 0 a;rw[e];exact d.1
   .rename_i m;refine⟨.tup i,o,?_,h⟩;match f,d with
    | [],d=>exact Qh.mkT d
    | [a],d=>
     match i,d with
     | [v],_=>exact (m v rfl).elim
    | a::b::f,d=>exact Qh.mkT d
 .cases h
theorem J1[aF](a:Qt N S st): ∀(b:List bA),Qc S.hp (b.map<|bZ S.tm)<|b.map<|aH st.tmps
 | []=>trivial
 | x::r=>⟨a.get x,J1 a r⟩
theorem aP1[aF]{vi:Nat}{c:CSp}{d:List bA}(j:FOK P T vi c)(k:Qt N S st)(h:Vg n 0 c (d.map<|bZ S.tm) [] (λv=>K v S)=some r):
 ∃v tv,Ff (fH P T n) 0 true vi (d.map<|aH st.tmps) st.heap=some (v,st.heap)/\Qh S.hp tv v/\K tv S=some r:=by
 have q:=J1 k d;have b:Fy 0 [] c.ka (d.map<|bZ S.tm)≠none:=by
  intro e;simp only[Vg,e] at h;cases h
 let⟨p,b⟩:=Option.ne_none_iff_exists'.1 b;have g:okA 0 c.ka=true:=by
  cases e:okA 0 c.ka with
  | true=>rfl
  | false=>simp only[Vg,b,e] at h;cases h
 have f:=aD0 (aP2 (H1:=[]) g b q).2;let⟨o,a,tv,l,m,i⟩:=O1 (H1:=S.hp) (aw:=(d.map<|aH st.tmps).map LR) j h λp g b=>(aP2 g b q).1;exact⟨_,tv,by simp only[Ff,f,l],m,i⟩
theorem aQC[aF]{vi:Nat}{a:List bA}(b:Qt N S st)(h:cM E n d (.mkFn vi a) S K=some r): dE P cf E.fl N (.mkFn vi a) st K r:=
 dE.same b rfl (Qh.mkF<|J1 b a) h
theorem aO0[aF]{vi:Nat}{b:List bA}(m:∀vi c,E.cs vi=some c->FOK P T vi c)(e:Qt N S st)(h:cM E n d (.callB vi b) S K=some r): dE P (fH P T n) E.fl N (.callB vi b) st K r:=by
 simp only[cM] at h;split at h
 .rename_i c k;have q:=J1 e b;let⟨o,a,tv,f,g,i⟩:=O1 (H1:=S.hp) (aw:=(b.map<|aH st.tmps).map<|cG st.heap) (m vi c k) h λp l j=>aLS l j q e.hp;exact dE.same e (by simp only[aO,f]) g i
 .cases h
end
theorem aAA: ∀(c:List Bool) (tm:List AV),(cV c tm).length=tm.length
 | [],tm=>by simp[cV]
 | b::a,[]=>rfl
 | b::a,v::vs=>by simp[cV,aAA a vs]
theorem LS: ∀(c:List Bool) (tm:List AV) (t:Nat),c[t]?=some true->(cV c tm)[t]?=tm[t]?
 | [],tm,t,h=>by simp at h
 | b::a,[],t,h=>rfl
 | b::a,v::vs,0,h=>by
  simp only[Zt,Za] at h;subst h;simp[cV]
 | b::a,v::vs,t+1,h=>by
  simp only[cV,ZL];exact LS a vs t<|by simpa using h
section
variable [dR]{R:Type}{H H1:TH}{A:aU}{N:Nat}{S:TS}{st:St}
theorem RH{c:List Bool}{t:Nat}{v:TV}: ∀{tm:TT},dD t (Dw c tm)=some v->c[t]?=some true/\dD t tm=some v
 | [],h=>by cases h
 | (s,u)::tm,h=>by
  have a:c[s]?≠some true->dD t (Dw c tm)=some v->c[t]?=some true/\dD t ((s,u)::tm)=some v:=by
   intro f h;let⟨g,i⟩:=RH h;refine⟨g,?_⟩;simp only[dD];split
   .rename_i e;have e:=Zc e;subst e;exact (f g).elim
   .exact i
  simp only[Dw] at h;split at h
  .rename_i b d;split at h
   .simp only[dD] at h |-;split at h
    .rename_i e;have e:=Zc e;subst e;exact⟨d,h⟩
    .exact RH h
   .exact a (by rw[d];simp) h
  .rename_i d;exact a (by rw[d];simp) h
theorem Kx(a:Qt N S st)(b:List Bool): Qt N ⟨Dw b S.tm,S.hp⟩ ⟨cV b st.tmps,st.heap⟩:=by
 refine⟨by rw[aAA];exact a.ln,λt v h=>?_,a.hp⟩;let⟨c,d⟩:=RH h;rw[LS _ _ _ c];exact a.tm t v d
theorem y8{n i k:Nat}{l:List<|den k}(a:i<n)(h:H[i]?=some (.lst k l)): ((H.take n).map<|iT n)[i]?=some (.lst k l):=by
 rw[Zk,Zs,Zu a,h];rfl
structure Cln(n:Nat)(g:AV->AV): Prop where
 l:∀v,g (.lit v)=.lit v
 s:∀f es,g (.sl f es)=.sl f es
 w:∀es,g (.vw es)=.vw es
 r:∀es,g (.rptr es)=.rptr es
 p:∀es,g (.sptr es)=.sptr es
 m:∀es,g (.rmp es)=.rmp es
 ms:∀i a b c,i<n->g (.ms i a b c)=.ms i a b c
 pt:∀i a b c,i<n->g (.ptr i a b c)=.ptr i a b c
 mp:∀i,i<n->g (.mp i)=.mp i
 it:∀i,i<n->g (.it i)=.it i
 f:∀v,g (.fn v [])=.fn v []
theorem aTR(n:Nat): Cln n<|nY n:=⟨λ_=>rfl,λ_ _=>rfl,λ_=>rfl,λ_=>rfl,λ_=>rfl,λ_=>rfl,λ_ _ _ _ h=>by simp[nY,h],λ_ _ _ _ h=>by simp[nY,h],λ_ h=>by simp[nY,h],λ_ h=>by simp[nY,h],λ_=>rfl⟩
theorem aTQ(n:Nat): Cln n<|kF n:=⟨λ_=>rfl,λ_ _=>rfl,λ_=>rfl,λ_=>rfl,λ_=>rfl,λ_=>rfl,λ_ _ _ _ h=>by simp[kF,nY,h],λ_ _ _ _ h=>by simp[kF,nY,h],λ_ h=>by simp[kF,nY,h],λ_ h=>by simp[kF,nY,h],λ_=>rfl⟩
theorem aPz(n:Nat): Cln n id:=⟨λ_=>rfl,λ_ _=>rfl,λ_=>rfl,λ_=>rfl,λ_=>rfl,λ_=>rfl,λ_ _ _ _ _=>rfl,λ_ _ _ _ _=>rfl,λ_ _=>rfl,λ_ _=>rfl,λ_=>rfl⟩
theorem A2{n:Nat}{g:AV->AV}(c:Cln n g){v:TV}{a:AV}(q:Qh H v a): Qh ((H.take n).map<|iT n) (cX n v)<|g a:=by
 have d:∀{i:Nat},Nat.blt i n=true->i<n:=λe=>by simpa [YC] using e
 cases q with
 | p _ _ q=>
  cases v with
  | undef=>exact Qh.u _
  | lit u=>cases q;rw[c.l];exact Qh.l _
  | emp b=>cases q with
   | emp _ _ h=>rcases h with rfl | rfl | ⟨rfl,rfl⟩<;>first | (rw[c.l];exact .p _ _<|.emp _ _<|by simp) | (rw[c.s];exact .p _ _<|.emp _ _<|by simp)
  | sl k l=>
   let⟨es,t,y⟩:=q.inS;rcases t with⟨rfl,rfl⟩ | ⟨f,rfl⟩<;>first | (rw[c.l];exact .p _ _ q) | (rw[c.s];exact .p _ _ q)
  | vw k l=>
   let⟨es,t,y⟩:=q.inV;rcases t with⟨rfl,rfl⟩ | ⟨f,rfl⟩ | rfl<;>first | (rw[c.l];exact .p _ _ q) | (rw[c.s];exact .p _ _ q) | (rw[c.w];exact .p _ _ q)
  | rptr cs=>obtain⟨aw,rfl,_⟩:=q.inR;rw[c.r];exact .p _ _ q
  | sptr k x=>obtain⟨aw,rfl,_⟩:=q.inP;rw[c.p];exact .p _ _ q
  | rmp=>let⟨rows,t,_⟩:=q.inM;rcases t with⟨rfl,_⟩ | rfl<;>first | (rw[c.l];exact .p _ _ q) | (rw[c.m];exact .p _ _ q)
  | _=>cases q
 | ms i k l h=>
  simp only[cX];split
  .rename_i e;rw[c.ms _ _ _ _<|d e];exact Qh.ms i k l<|y8 (d e) h
  .exact Qh.u _
 | msn i m k l h=>
  simp only[cX];split
  .rename_i e;rw[c.ms _ _ _ _<|d e];exact Qh.msn i m k l<|y8 (d e) h
  .exact Qh.u _
 | ptr i o=>
  simp only[cX];split
  .rename_i e;rw[c.pt _ _ _ _<|d e];exact .ptr i o
  .exact Qh.u _
 | pel i j o k l h t y=>
  simp only[cX];split
  .rename_i e;rw[c.pt _ _ _ _<|d e];exact Qh.pel i j o k l (y8 (d e) h) t y
  .exact Qh.u _
 | mp i=>
  simp only[cX];split
  .rename_i e;rw[c.mp _<|d e];exact .mp i
  .exact Qh.u _
 | it i=>
  simp only[cX];split
  .rename_i e;rw[c.it _<|d e];exact .it i
  .exact Qh.u _
 | rs i m=>
  simp only[cX];split
  .rename_i e;rw[c.ms _ _ _ _<|d e];exact .rs i m
  .exact Qh.u _
 | rel i m j o=>
  simp only[cX];split
  .rename_i e;rw[c.pt _ _ _ _<|d e];exact .rel i m j o
  .exact Qh.u _
 | fn vi cs aw t y=>
  cases cs with
  | nil=>
   cases aw with
   | nil=>rw[c.f];exact Qh.mkF trivial
   | cons=>cases t
  | cons=>exact Qh.u _
 | agg=>exact Qh.u _
 | tup=>exact Qh.u _
theorem Ex{n:Nat}{v:TV}{a:AV}(q:Qh H v a): Qh ((H.take n).map<|iT n) (jP n v) (kF n a)/\Qh ((H.take n).map<|iT n) (jP n v) a:=by
 cases v with
 | fn vi cs=>
  obtain⟨aw,rfl,b⟩:=q.inF;exact⟨Qh.mkF<|b.map λ_ _ q=>A2 (aTR n) q,Qh.mkF<|b.mapL λ_ _ q=>A2 (aPz n) q⟩
 | _=>exact⟨A2 (aTQ n) q,A2 (aPz n) q⟩
theorem aHH{n:Nat}{v:TV}{a:AV}(q:Qh H v a): Qh ((H.take n).map<|iT n) (yM n v)<|Rf n a:=by
 cases v with
 | agg cs=>
  obtain⟨aw,rfl,c⟩:=q.inA;exact Qh.mkA<|c.map λ_ _ q=>(Ex q).1
 | undef=>exact Qh.u _
 | tup=>exact Qh.u _
 | _=>
  have h:=(Ex (n:=n) q).1;cases a with
  | agg=>
   cases q with
   | p _ _ q=>cases q<;>simp_all
  | tup=>
   cases q with
   | p _ _ q=>cases q<;>simp_all
  | _=>exact h
theorem aI1(n:Nat): Q1<|Rg n:=⟨λv=>.inl rfl,λf es=>⟨f,rfl⟩,λ_=>rfl,λ_=>rfl⟩
theorem A1{n:Nat}{o:pK}{b:dK}(h:Qo H o b): Qo ((H.take n).map<|iT n) (iT n o) (bU n b)/\Qo ((H.take n).map<|iT n) (iT n o) b:=by
 cases o with
 | box cs=>
  obtain⟨aw,rfl,q⟩:=h;exact⟨⟨aw.map<|kF n,by simp[bU],q.map λ_ _ q=>(Ex q).1⟩,⟨aw,by simp,q.mapL λ_ _ q=>(Ex q).2⟩⟩
 | rows s es=>
  obtain⟨aw,rfl,q⟩:=h;exact⟨⟨aw.map λe=>e.map<|kF n,rfl,q.map λ_ _ q=>q.map λ_ _ q=>(Ex q).1⟩,⟨aw,rfl,q.mapL λ_ _ q=>q.mapL λ_ _ q=>(Ex q).2⟩⟩
 | lst k l=>
  obtain⟨es,rfl,q⟩:=h;exact⟨⟨es.map λe=>e.map<|kF n,rfl,(aDE n).ls q⟩,⟨es,rfl,q⟩⟩
 | map kk c m=>
  obtain⟨rows,rfl,q⟩:=h;refine⟨?_,⟨rows,rfl,q⟩⟩;cases i:ag c with
  | true=>
   have d:Qm c m<|rows.map λr=>r.map<|kF n:=q.mapR λ_ _ h=>(aDE n).r h;exact⟨_,congrArg dK.mp<|L0 (g:=kF n) λr=>by rw[i];rfl,d⟩
  | false=>
   have d:Qm c m<|rows.map λr=>r.map<|Rg n:=q.mapR λ_ _ h=>(aI1 n).r h;exact⟨_,congrArg dK.mp<|L0 (g:=Rg n) λr=>by rw[i];cases r<;>rfl,d⟩
 | it=>subst h;exact⟨rfl,rfl⟩
 | gone=>exact⟨trivial,trivial⟩
 | fr k a=>
  simp only[iT];split
  .rename_i e;exact⟨.s _ _ n (Zj e) h,h⟩
  .exact⟨trivial,trivial⟩
theorem LZ{fl:Nat}(b:Qt N S st)(live:List Bool)(tr:Bool)(n:Nat)(g:fl<=n): Qt N (Pw live tr n S)<|dP (some live) tr fl n st:=by
 have h:=Kx b live;cases tr with
 | false=>exact h
 | true=>
  refine⟨by simp only[dP,Zz,aA9,ZO];exact h.ln,λt v c=>?_,?_⟩
  .simp only[Pw] at c;obtain⟨u,m,rfl⟩:=H4 c;let⟨a,i,d⟩:=h.tm t u m;refine⟨Rf n a,?_,aHH d⟩;simp only[dP,Zz,aA9,Zk];rw[i];rfl
  .simp only[dP,Zz,Pw];have e:∀{α β:Type} (f:α->β) (l:List α),(l.take n).map f=(l.take fl).map f++((l.take n).drop fl).map f:=by
    intro α β f l;rw[<-YJ];congr 1;conv=>lhs;rw[<-YT fl<|l.take n,Y9,Yq g]
   have q:=b.hp.take n;have o:bV (Qo S.hp) (S.hp.take fl)<|st.heap.take fl:=b.hp.take fl;have k:bV (Qo S.hp) ((S.hp.take n).drop fl)<|(st.heap.take n).drop fl:=q.drop fl;show Qs ((S.hp.take n).map<|iT n) _;rw[show Qs ((S.hp.take n).map<|iT n)=bV (Qo<|(S.hp.take n).map<|iT n) ((S.hp.take n).map<|iT n) from rfl];rw[show bV (Qo<|(S.hp.take n).map<|iT n) ((S.hp.take n).map<|iT n)=bV (Qo<|(S.hp.take n).map<|iT n) ((S.hp.take fl).map (iT n)++((S.hp.take n).drop fl).map (iT n)) from by rw[<-e]];exact (o.mapL λ_ _ q=>(A1 q).2).app<|k.map λ_ _ q=>(A1 q).1
def aLb: TV->Bool
 | .sl _ _=>true
 | .rmp _ _ _=>true
 | .tup _=>true
 | _=>false
def aUd(m:TV)(i:Nat): Prop:=(∃n,m=.ms i n)\/∃j o,m=.pel i j o
structure Rj(H:TH)(m v:TV): Prop where
 q:∀H',(∀i,aUd m i->∀(k:Nat) (l:List (den k)),H[i]?=some (.lst k l)->∃(k':Nat) (l':List (den k')),H'[i]?=some (.lst k' l')/\l'.length=l.length)->∀a,Qh H v a->Qh H' m a
 s:aLb v=true->aLb m=true->m=v
theorem aDn{c v:TV}(h:Ov c v=true): Rj H c v:=by
 cases c with
 | undef=>exact⟨λ_ _ a _=>Qh.u a,λ_ e=>by cases e⟩
 | ms i n=>
  cases n with
  | some n=>cases h
  | none=>
   cases v with
   | ms j m=>
    cases m with
    | some m=>cases h
    | none=>
     have e:=Zc h;subst e;refine⟨λH' m a q=>?_,λ_ e=>by cases e⟩;cases q with
     | p _ _ q=>cases q
     | ms _ k l h=>
      let⟨k',G,C,D⟩:=m i (.inl ⟨none,rfl⟩) k l h;rw[<-D];exact .ms _ k' G C
   | _=>cases h
 | ptr i o=>
  cases v with
  | ptr j u=>
   simp only[Ov] at h;split at h
   .rename_i e;have e:=Zc e;have e2:=Zc h;subst e;subst e2;exact⟨λH' _ a q=>q.ptr1▸.ptr _ _,λ_ e=>by cases e⟩
   .cases h
  | _=>cases h
 | mp i=>
  cases v with
  | mp j=>
   have e:=Zc h;subst e;refine⟨λH' _ a q=>?_,λ_ e=>by cases e⟩;cases q with
   | p _ _ q=>cases q
   | mp=>exact .mp _
  | _=>cases h
 | it i=>
  cases v with
  | it j=>
   have e:=Zc h;subst e;refine⟨λH' _ a q=>?_,λ_ e=>by cases e⟩;cases q with
   | p _ _ q=>cases q
   | it=>exact .it _
  | _=>cases h
 | rs i n=>
  cases v with
  | rs j m=>
   simp only[Ov] at h;split at h
   .rename_i e;have e:=Zc e;have e2:=Zc h;subst e;subst e2;exact⟨λH' _ a q=>q.rs1▸.rs _ _,λ_ e=>by cases e⟩
   .cases h
  | _=>cases h
 | fn i cs=>
  cases cs with
  | cons=>cases h
  | nil=>
   cases v with
   | fn j ds=>
    cases ds with
    | cons=>cases h
    | nil=>
     have e:=Zc h;subst e;refine⟨λH' _ a q=>?_,λ_ e=>by cases e⟩;obtain⟨aw,rfl,E⟩:=q.inF;cases aw with
     | nil=>exact Qh.mkF trivial
     | cons=>exact E.elim
   | _=>cases h
 | lit u=>
  have g:v=.lit u->Rj H (.lit u) v:=by
   rintro rfl;exact⟨λH' _ a q=>q.inL▸Qh.l _,λ_ e=>by cases e⟩
  cases u with
  | int k a=>
   cases v with
   | lit y=>
    cases y with
    | int k' b=>
     simp only[Ov] at h;split at h
     .rename_i e _;split at h
      .rename_i F _;subst e;subst F;exact g rfl
      .cases h
     .cases h
    | _=>cases h
   | _=>cases h
  | bool b=>
   cases v with
   | lit y=>
    cases y with
    | bool c=>
     apply g;cases b<;>cases c<;>first | rfl | cases h
    | _=>cases h
   | _=>cases h
  | slice a l c=>
   cases a with
   | some a=>cases h
   | none=>
    cases l with
    | succ l=>cases h
    | zero=>
     cases c with
     | succ c=>cases h
     | zero=>
      cases v with
      | lit y=>
       cases y with
       | slice a l c=>
        cases a with
        | some a=>cases h
        | none=>
         cases l with
         | succ l=>cases h
         | zero=>
          cases c with
          | succ c=>cases h
          | zero=>exact g rfl
       | _=>cases h
      | _=>cases h
  | _=>cases h
 | emp b=>
  cases v with
  | emp c=>
   refine⟨λH' _ a q=>?_,λ_ e=>by cases e⟩;cases (q.pu trivial) with
   | emp _ _ d=>
    refine .p _ _<|.emp _ _ ?_;cases b with
    | false=>
     rcases d with d | d | ⟨_,d⟩
     .exact .inl d
     .exact .inr<|.inl d
     .exact .inr<|.inr ⟨rfl,d⟩
    | true=>
     have h:c=true:=h;subst h;exact d
  | _=>cases h
 | _=>cases h
theorem aDm: ∀{cs vs:List TV},aG7 cs vs=true->bV (λc v=>Ov c v=true/\∀j n,c≠.ms j n) cs vs
 | [],[],_=>trivial
 | [],_::_,h=>by cases h
 | _::_,[],h=>by cases h
 | c::r,v::s,h=>by
  simp only[aG7] at h;split at h
  .cases h
  .rename_i a;split at h
   .rename_i e;exact⟨⟨e,a⟩,aDm h⟩
   .cases h
theorem aMU{c v:TV}(h:aJQ c v=true): Rj H c v:=by
 cases c with
 | fn i cs=>
  cases v with
  | fn j ds=>
   simp only[aJQ] at h;split at h
   .rename_i e;have e:=Zc e;subst e;refine⟨λH' _ a q=>?_,λ_ e=>by cases e⟩;obtain⟨aw,rfl,d⟩:=q.inF;have f:=aDm h;refine Qh.mkF<|bV.of (by rw[d.len,f.len]) λj c a k l=>?_;let⟨v,g,b,m⟩:=f.get k;exact (aDn b).q H' (λn e=>e.elim (λ⟨o,e⟩=>absurd e<|m n o) λ⟨j,o,e⟩=>by rw[e] at b;cases v<;>simp[Ov] at b) a<|d.at g l
   .cases h
  | _=>cases h
 | _=>exact aDn h
theorem aGa{a b a' b':Nat}{m:List<|den a×den b}{y:List<|den a'×den b'}(h:b8 m=some y): TV.rmp a b m=TV.rmp a' b' y:=by
 let⟨e,d,h⟩:=OD h;subst e;subst d;subst h;rfl
theorem aHo{v:TV}{x:ByteArray×Nat}(h:aKX v=some x): v=.tup [.lit<|.string x.1,.lit<|.int .i64<|.ofNat x.2]:=by
 unfold aKX at h;split at h
 .split at h
  .split at h
   .split at h
    .split at h
     .split at h
      .split at h
       .split at h
        .cases h;rfl
        .cases h
       .cases h
      .cases h
     .cases h
    .cases h
   .cases h
  .cases h
 .cases h
theorem rjN{id:Nat}{v:TV}{x:Nat×Nat}(h:rdN id v=some x): Rj H (.ms id<|some x) v:=by
 unfold rdN at h;split at h
 .split at h
  .rename_i e;have e:=Zc e;subst e;subst h;refine⟨λH' m a q=>?_,λ_ e=>by cases e⟩;cases q with
   | p _ _ q=>cases q
   | msn _ _ k l h=>
    let⟨k',b,f,c⟩:=m _ (.inl ⟨_,rfl⟩) k l h;rw[<-c];exact .msn _ _ k' b f
  .cases h
 .cases h
theorem rjI{v:TV}{x:ByteArray×Nat}(h:aKX v=some x): Rj H (.tup [.lit<|.string x.1,.lit<|.int .i64<|.ofNat x.2]) v:=by
 rw[aHo h];refine⟨λH' _ a q=>?_,λ_ _=>rfl⟩;obtain⟨aw,rfl,c⟩:=q.inT;match aw,c with
 | [a,b],c=>exact Qh.mkT ⟨by rw[c.1.inL];exact Qh.l _,by rw[c.2.1.inL];exact Qh.l _,trivial⟩
theorem rjQ{id off:Nat}{v:TV}{x:Int}(h:rdQ id off v=some x): Rj H (.pel id x off) v:=by
 unfold rdQ at h;split at h
 .split at h
  .rename_i e;have e:=Zc e;subst e;split at h
   .rename_i e;have e:=Zc e;subst e;cases h;refine⟨λH' m a q=>?_,λ_ _=>rfl⟩;cases q with
    | p _ _ q=>cases q
    | pel _ _ _ k l h b d=>let⟨k',f,g,c⟩:=m _ (.inr ⟨_,_,rfl⟩) k l h;rw[<-c];exact .pel _ _ _ k' f g b (by omega)
   .cases h
  .cases h
 .cases h
theorem aGE{s:Sh}{v:TV}{x:s.den}(h:s.rd 3 [] v=some x): Rj H (s.tv x) v:=by
 cases s with
 | v k=>
  have h:x8 0 [] k v=some x:=h;refine⟨λH' _ a q=>aSI h q,λd e2=>?_⟩;unfold x8 at h;split at h
  .split at h
   .cases d
   .cases h
  .rename_i z;unfold kM at h;split at h
   .rename_i p u;cases h;let⟨c,y,t,f⟩:=aB5 u;have j:val k (dR.pk k p)=hdT (tB (cds k) p):=by
     unfold val kI;rw[z,dR.un_pk]
    show val k (dR.pk k p)=_;rw[j,t];cases c with
    | sl Q=>
     cases v with
     | sl O l=>
      let⟨e,h⟩:=sQ (F:=λk=>List<|den k) (x:=l) (y:=y) f;subst e;subst h;rfl
     | rmp=>cases f
     | tup=>cases f
     | _=>cases d
    | int N=>rw[aDu f] at d;cases d
    | bool=>rw[E0 f] at d;cases d
    | str=>rw[aDs f] at d;cases d
    | sptr=>rw[aDt f] at d;cases d
    | mp=>rcases aNa (w:=0) (H:=[]) f with rfl | ⟨rfl,_⟩ | ⟨e,_⟩<;>first | rfl | cases d | cases e
    | any=>cases f
   .cases h
 | w k=>
  have h:x8 1 [] k v=some x:=h;refine⟨λH' _ a q=>aSH h q,λd e2=>?_⟩;unfold x8 at h;split at h
  .split at h
   .cases d
   .cases h
  .rename_i z;unfold kM at h;split at h
   .rename_i p u;cases h;let⟨c,y,t,f⟩:=aB5 u;have j:val k (dR.pk k p)=hdT (tB (cds k) p):=by
     unfold val kI;rw[z,dR.un_pk]
    have e2:aLb (toW<|val k<|dR.pk k p)=true:=e2;show toW (val k<|dR.pk k p)=_;rw[j,t,aBm] at e2 |-;cases c with
    | mp=>rcases aNa (w:=1) (H:=[]) f with rfl | ⟨rfl,_⟩ | ⟨e,_⟩<;>first | rfl | cases d | cases e
    | _=>cases e2
   .cases h
 | r k=>
  refine⟨λH' _ a q=>?_,λ_ e2=>by cases e2⟩;cases v with
  | rptr cs=>
   have h:kM 0 [] k cs=some x:=h;obtain⟨aw,rfl,M⟩:=(q.pu trivial).inR;exact .p _ _<|Qp.mkR<|jY h<|M.c (H:=[])
  | _=>cases h
 | l k=>
  cases v with
  | sl k' l=>
   let⟨e,h⟩:=sQ (F:=λk=>List<|den k) (x:=l) (y:=x) h;subst e;subst h;exact⟨λH' _ a q=>.p _ _<|q.pu trivial,λ_ _=>rfl⟩
  | _=>cases h
 | m kk J=>
  cases v with
  | rmp a b m=>
   have e:=aGa (m:=m) (y:=x) h;rw[<-show TV.rmp a b m=(Sh.m kk J).tv x from e];exact⟨λH' _ a q=>.p _ _<|q.pu trivial,λ_ _=>rfl⟩
  | _=>cases h
 | n id=>exact rjN h
 | i=>exact rjI h
 | q id off=>exact rjQ h
end
section
variable [dR]{R:Type}{H H1:TH}{A:aU}{N:Nat}{S:TS}{st:St}
theorem fT.hc{a:Sh}{r:List Sh}(x:a.den)(y:fT r): fT.hd (fT.cs x y)=x:=by cases r<;>rfl
theorem fT.tc{a:Sh}{r:List Sh}(x:a.den)(y:fT r): fT.tl (fT.cs x y)=y:=by cases r<;>rfl
theorem Pb: ∀{ss:List Pl} {W:List TV} {p:fT<|shs false ss} {q:fT<|shs true ss},VH ss W=some (p,q)->bV (Rj H) (mkV ss p q) W
 | [],W,p,q,h=>by
  cases W with
  | nil=>trivial
  | cons=>cases h
 | .con c::r,W,p,q,h=>by
  cases W with
  | nil=>cases h
  | cons v W=>
   simp only[VH] at h;split at h
   .rename_i e;exact⟨aMU e,Pb h⟩
   .cases h
 | .p s::r,W,p,q,h=>by
  cases W with
  | nil=>cases h
  | cons v W=>
   simp only[VH] at h;split at h
   .rename_i x a;split at h
    .rename_i d b;cases h;simp only[mkV,fT.hc,fT.tc];exact⟨aGE a,Pb b⟩
    .cases h
   .cases h
 | .v s::r,W,p,q,h=>by
  cases W with
  | nil=>cases h
  | cons v W=>
   simp only[VH] at h;split at h
   .rename_i x a;split at h
    .rename_i d b;cases h;simp only[mkV,fT.hc,fT.tc];exact⟨aGE a,Pb b⟩
    .cases h
   .cases h
theorem aEW{tm:TT}{H':TH}{t:Nat}{m:TV}: ∀{ts:List<|Nat×Option Nat} {vs M:List TV},upT tm ts=some vs->bV (λm v=>∀a,Qh H v a->Qh H' m a) M vs->dD t (plT ts M)=some m->∃v,dD t tm=some v/\∀a,Qh H v a->Qh H' m a
 | [],vs,M,h,q,b=>by cases b
 | s::ts,vs,M,h,q,b=>by
  simp only[upT] at h;split at h
  .rename_i v f;split at h
   .rename_i w k;split at h
    .rename_i g;cases h;cases M with
     | nil=>exact q.elim
     | cons u M=>
      simp only[plT,g,dD] at b;split at b
      .rename_i e;have e:=Zc e;subst e;cases b;exact⟨v,f,q.1⟩
      .exact aEW k q.2 b
    .rename_i n g;split at h
     .rename_i cs;split at h
      .rename_i e;have e:=Zc e;cases h;have d:=q.take n;have i:=q.drop n;rw[<-e,Y2] at i;rw[<-e,Xn] at d;rw[e] at d i;simp only[plT,g,dD] at b;split at b
       .rename_i e;have e:=Zc e;subst e;cases b;refine⟨_,f,λa r=>?_⟩;obtain⟨aw,rfl,l⟩:=r.inA;exact Qh.mkA (bV.of (by rw[l.len,d.len]) λj m c b p=>by
         let⟨v,f,o⟩:=d.get b;exact o c<|l.at f p)
       .exact aEW k i b
      .cases h
     .cases h
   .cases h
  .cases h
theorem Qj{α:Type}{s:Nat}: ∀{es:List<|List α},(es.all λe=>Nat.beq e.length s)=true->es.flatten.length=es.length*s
 | [],_=>by simp
 | e::es,h=>by
  simp only[XM,Zd] at h;have a:=Zc h.1;simp only[Yt,Zh,Qj h.2,a,Yc,Xx];omega
theorem N6{α β:Type}{R:α->β->Prop}{s:Nat}: ∀{es:List<|List β} {l:List α},(es.all λe=>Nat.beq e.length s)=true->bV R l es.flatten->bV (bV R) (sF s es.length l) es
 | [],_,_,_=>trivial
 | e::es,l,h,q=>by
  simp only[XM,Zd] at h;have c:=Zc h.1;subst c;have a:=q.take e.length;have b:=q.drop e.length;simp only[Yt,Xn,Y2] at a b;exact⟨a,N6 h.2 b⟩
theorem aJx: ∀{os:List OL} {c:TH} {f:List TV},upO os c=some f->f.length=nO os
 | [],c,f,h=>by
  cases c with
  | nil=>cases h;rfl
  | cons=>cases h
 | o::os,c,f,h=>by
  cases c with
  | nil=>cases h
  | cons b c=>
   simp only[upO] at h;split at h
   .cases h
   .rename_i vs g;have a:=aJx g;cases o with
    | gone=>cases h;exact a
    | box n=>
     cases b with
     | box cs=>
      simp only at h;split at h
      .rename_i e;have e:=Zc e;cases h;simp[nO,a,e]
      .cases h
     | _=>cases h
    | lst u=>
     cases b with
     | lst v x=>
      simp only at h;split at h
      .cases h;simp[nO,a]
      .cases h
     | _=>cases h
    | map kk t=>
     cases b with
     | map q y r=>
      simp only at h;split at h
      .split at h
       .cases h;simp[nO,a]
       .cases h
      .cases h
     | _=>cases h
    | bx=>
     cases b with
     | box=>cases h;simp[nO,a]
     | _=>cases h
    | it=>
     cases b with
     | it=>cases h;simp[nO,a]
     | _=>cases h
    | rows s m=>
     cases b with
     | rows s' es=>
      simp only at h;split at h
      .split at h
       .rename_i e;have e:=Zc e;split at h
        .rename_i p;cases h;rw[Zh,a,Qj p,e,YN];rfl
        .cases h
       .cases h
      .cases h
     | _=>cases h
theorem yD: ∀{os:List OL} {g:TH} {p M:List TV},upO os g=some p->bV (Rj H) M p->∀(i k k':Nat) (l:List<|den k) (f:List<|den k'),g[i]?=some (.lst k l)->(Q8 os M)[i]?=some (.lst k' f)->f.length=l.length
 | [],g,p,M,h,q,i,k,k',l,f,c,a=>by
  cases g with
  | nil=>simp at c
  | cons=>cases h
 | o::os,g,p,M,h,q,i,k,k',l,f,c,a=>by
  cases g with
  | nil=>cases h
  | cons b g=>
   simp only[upO] at h;split at h
   .cases h
   .rename_i vs d;cases o with
    | gone=>
     cases h;cases i with
     | zero=>simp[Q8] at a
     | succ i=>exact yD d q i k k' l f (by simpa using c)<|by simpa [Q8] using a
    | box n=>
     cases b with
     | box cs=>
      simp only at h;split at h
      .rename_i e;have e:=Zc e;cases h;cases i with
       | zero=>simp at c
       | succ i=>
        have:=q.drop n;rw[<-e,Y2] at this;rw[e] at this;exact yD d this i k k' l f (by simpa using c)<|by simpa [Q8] using a
      .cases h
     | _=>cases h
    | lst K=>
     cases b with
     | lst z E=>
      simp only at h;split at h
      .cases h;cases M with
       | nil=>exact q.elim
       | cons m M=>
        cases i with
        | succ i=>exact yD d q.2 i k k' l f (by simpa using c)<|by simpa [Q8] using a
        | zero=>
         simp only[Zt,Za] at c;cases c;simp only[Q8,Zt,Za] at a;unfold aGw at a;split at a
         .rename_i G A;split at a
          .cases a;have:=q.1.s rfl rfl;cases this;rfl
          .cases a
         .cases a
      .cases h
     | _=>cases h
    | map kk C=>
     cases b with
     | map D J B=>
      simp only at h;split at h
      .split at h
       .cases h;cases M with
        | nil=>exact q.elim
        | cons m M=>
         cases i with
         | succ i=>exact yD d q.2 i k k' l f (by simpa using c)<|by simpa [Q8] using a
         | zero=>simp at c
       .cases h
      .cases h
     | _=>cases h
    | bx=>
     cases b with
     | box cs=>
      cases h;cases M with
      | nil=>exact q.elim
      | cons m M=>
       cases i with
       | succ i=>exact yD d q.2 i k k' l f (by simpa using c)<|by simpa [Q8] using a
       | zero=>simp at c
     | _=>cases h
    | it=>
     cases b with
     | it y I=>
      cases h;cases M with
      | nil=>exact q.elim
      | cons m M=>
       cases i with
       | succ i=>exact yD d q.2 i k k' l f (by simpa using c)<|by simpa [Q8] using a
       | zero=>simp at c
     | _=>cases h
    | rows s m=>
     cases b with
     | rows s' es=>
      simp only at h;split at h
      .split at h
       .rename_i e;have e:=Zc e;split at h
        .rename_i v;cases h;cases i with
         | zero=>simp at c
         | succ i=>
          have:=q.drop<|s*m;rw[show s*m=es.flatten.length by rw[Qj v,e,YN],Y2] at this;rw[show es.flatten.length=s*m by rw[Qj v,e,YN]] at this;exact yD d this i k k' l f (by simpa using c)<|by simpa [Q8] using a
        .cases h
       .cases h
      .cases h
     | _=>cases h
theorem Of{H':TH}: ∀{os:List OL} {p:TH} {y M:List TV} {A:aU},upO os p=some y->bV (λm v=>Rj H m v/\∀a,Qh H v a->Qh H' m a) M y->bV (Qo H) p A->bV (Qo H') (Q8 os M) A
 | [],p,y,M,A,h,q,d=>by
  cases p with
  | nil=>cases A with
   | nil=>trivial
   | cons=>exact d.elim
  | cons=>cases h
 | o::os,p,y,M,A,h,q,d=>by
  cases p with
  | nil=>cases h
  | cons b p=>
   cases A with
   | nil=>exact d.elim
   | cons a A=>
    simp only[upO] at h;split at h
    .cases h
    .rename_i vs f;cases o with
     | gone=>cases h;exact⟨trivial,Of f q d.2⟩
     | box n=>
      cases b with
      | box cs=>
       simp only at h;split at h
       .rename_i e;have e:=Zc e;cases h;have k:=q.take n;have l:=q.drop n;rw[<-e,Y2] at l;rw[<-e,Xn] at k;rw[e] at k l;refine⟨?_,Of f l d.2⟩;let⟨aw,i,g⟩:=d.1;refine⟨aw,by rw[i,k.len],?_⟩;exact bV.of (by rw[g.len,k.len]) λj m c K F=>by
         let⟨v,D,z⟩:=k.get K;exact z.2 c<|g.at D F
       .cases h
      | _=>cases h
     | lst S=>
      cases b with
      | lst k1 Z=>
       simp only at h;split at h
       .rename_i e;have e:=Zc e;cases h;cases M with
        | nil=>exact q.elim
        | cons m M=>
         refine⟨?_,Of f q.2 d.2⟩;have i:=q.1.1.s;have g:=d.1;show Qo H' (aGw S m) a;clear q;unfold aGw;split
         .split
          .have:=i rfl rfl;cases this;exact g
          .trivial
         .trivial
       .cases h
      | _=>cases h
     | map kk U=>
      cases b with
      | map Y b1 m1=>
       simp only at h;split at h
       .rename_i t;split at h
        .rename_i e2;have t:=Zc t;have e2:=Zc e2;cases h;cases M with
         | nil=>exact q.elim
         | cons m M=>
          refine⟨?_,Of f q.2 d.2⟩;have i:=q.1.1.s;have g:=d.1;show Qo H' (aJz kk U m) a;clear q;unfold aJz;split
          .split
           .split
            .have:=i rfl rfl;cases this;exact g
            .trivial
           .trivial
          .trivial
        .cases h
       .cases h
      | _=>cases h
     | bx=>
      cases b with
      | box cs=>
       cases h;cases M with
       | nil=>exact q.elim
       | cons m M=>
        refine⟨?_,Of f q.2 d.2⟩;obtain⟨Q,rfl,g⟩:=d.1;have i:=q.1.2 _<|Qh.mkA g;show Qo H' (aPP m) _;clear q;unfold aPP;split
        .let⟨R,e,u⟩:=i.inA;cases e;exact⟨Q,by rw[<-g.len,u.len],u⟩
        .trivial
      | _=>cases h
     | it=>
      cases b with
      | it X p1=>
       cases h;cases M with
       | nil=>exact q.elim
       | cons m M=>
        refine⟨?_,Of f q.2 d.2⟩;have i:=q.1.1.s;have g:=d.1;show Qo H' (aPO m) a;clear q;unfold aPO;split
        .rename_i x W;have e:=aHo W;have:=i rfl<|by rw[e];rfl
         rw[e] at this;cases this;exact g
        .trivial
      | _=>cases h
     | rows s m=>
      cases b with
      | rows s' es=>
       simp only at h;split at h
       .rename_i t;have t:=Zc t;subst t;split at h
        .rename_i e;have e:=Zc e;split at h
         .rename_i O;cases h;have E:es.flatten.length=s'*m:=by rw[Qj O,e,YN]
          have k:=q.take<|s'*m;have l:=q.drop<|s'*m;rw[<-E,Xn] at k;rw[<-E,Y2] at l;rw[E] at k l;refine⟨?_,Of f l d.2⟩;let⟨aw,i,g⟩:=d.1;refine⟨aw,i,?_⟩;have B:=N6 O k;rw[e] at B;exact bV.of (by rw[g.len,B.len]) λj r a V G=>by
           let⟨e0,J,N⟩:=B.get V;have u:=g.at J G;exact bV.of (by rw[u.len,N.len]) λj m c K F=>by
            let⟨v,D,z⟩:=N.get K;exact z.2 c<|u.at D F
         .cases h
        .cases h
       .cases h
      | _=>cases h
theorem aDB: ∀{M:List TV},VQ H M=true->∀m∈M,∀i,aUd m i->∃(k:Nat) (l:List<|den k),H[i]?=some (.lst k l)
 | [],_,m,a=>by cases a
 | v::r,h,m,a=>by
  intro i e;rcases ZN.1 a with e2 | a
  .subst e2;rcases e with⟨n,rfl⟩ | ⟨j,o,rfl⟩
   all_goals
    simp only[VQ] at h;split at h
    .rename_i o b;split at h
     .exact⟨_,_,b⟩
     .cases h
    .cases h
  .refine aDB (M:=r) ?_ _ a i e;cases v with
   | ms g d=>
    simp only[VQ] at h;split at h
    .split at h
     .exact h
     .cases h
    .cases h
   | pel g d o=>
    simp only[VQ] at h;split at h
    .split at h
     .exact h
     .cases h
    .cases h
   | _=>exact h
theorem aLm{L:Gs}{p:L.P}{q:L.V}(h:L.get S=some (p,q))(x:Qt N S st): Qt N (L.mk' p q) st:=by
 unfold Gs.get at h;split at h
 .rename_i vs w;split at h
  .rename_i E c;split at h
   .rename_i O y;split at h
    .rename_i A;cases h;have C:=Pb (H:=S.hp) y;have o:=aJx c;have s:bV (Rj S.hp) ((mkV L.ss p q).take<|nO L.os) E:=by
      have:=C.take<|nO L.os;rw[<-o,Xn] at this;rw[o] at this;exact this
     have B:bV (Rj S.hp) ((mkV L.ss p q).drop<|nO L.os) vs:=by
      have:=C.drop<|nO L.os;rw[<-o,Y2] at this;rw[o] at this;exact this
     have f:=yD c s;have d:∀m v,m∈mkV L.ss p q->Rj S.hp m v->∀a,Qh S.hp v a->Qh (L.mk' p q).hp m a:=by
      intro m v b r a J;refine r.q _ (λi e k l K=>?_) a J;let⟨k',D,g⟩:=aDB A m b i e;exact⟨k',D,g,f i k k' l D K g⟩
     refine⟨x.ln,λt m b=>?_,?_⟩
     .have z:bV (λm v=>∀a,Qh S.hp v a->Qh (L.mk' p q).hp m a) ((mkV L.ss p q).drop<|nO L.os) vs:=
       bV.of B.len λj m v b u=>d m v (ZZ<|Zg b)<|B.at b u
      let⟨v,G,M⟩:=aEW w z b;let⟨a,F,I⟩:=x.tm t v G;exact⟨a,F,M a I⟩
     .refine Of c ?_ x.hp;refine bV.of s.len λj m v b u=>⟨s.at b u,d m v (Z7<|Zg b)<|s.at b u⟩
    .cases h
   .cases h
  .cases h
 .cases h
theorem aBM: ∀{ss:List Pl} {p:fT<|shs false ss} {q:fT<|shs true ss} {K:List TV->Option R} {r:R},mkK ss p q K=some r->
 ∃M,K M=some r/\bV (λm i=>m=i\/∃b,m=.lit (.bool b)/\i=.lit (.bool b)) M (mkV ss p q)
 | [],p,q,K,r,h=>⟨[],h,trivial⟩
 | .con c::ss,p,q,K,r,h=>by
  let⟨M,a,d⟩:=aBM (ss:=ss) h;exact⟨_,a,.inl rfl,d⟩
 | .p s::ss,p,q,K,r,h=>by
  let⟨M,a,d⟩:=aBM (ss:=ss) h;exact⟨_,a,.inl rfl,d⟩
 | .v s::ss,p,q,K,r,h=>by
  have g:∃v,v=s.tv (fT.hd q)/\mkK ss p (fT.tl q) (λvs=>K (v::vs))=some r:=by
   simp only[mkK,Ol] at h;split at h
   .rename_i u f;split at h
    .rename_i b;cases b with
     | true=>exact⟨_,f.symm,h⟩
     | false=>exact⟨_,f.symm,h⟩
    .exact⟨_,f.symm,h⟩
   .exact⟨_,rfl,h⟩
  let⟨v,e,h⟩:=g;let⟨M,a,d⟩:=aBM h;exact⟨_,a,.inl e,d⟩
theorem aKB{L:Gs}{p:L.P}{q:L.V}{K:TS->Option R}{r:R}(h:L.mkB p q K=some r): K (L.mk' p q)=some r:=by
 unfold Gs.mkB at h;let⟨M,g,c⟩:=aBM h;have e:M=mkV L.ss p q:=by
  apply Ym ;intro j;cases a:M[j]? with
  | none=>
   rw[XG] at a;rw[Wy,XG,c.len];exact a
  | some m=>
   let⟨i,d,f⟩:=c.get a;rw[d];rcases f with rfl | ⟨b,rfl,rfl⟩<;>rfl
 subst e;exact g
end
inductive ClA(n:Nat): AV->AV->Prop
 | r (a):ClA n a a
 | s (a b m):n<=m->ClA n a b->ClA n a (Rf m b)
theorem ClA.tr{n:Nat}{a b c:AV}(h:ClA n a b)(k:ClA n b c): ClA n a c:=by
 induction k with
 | r=>exact h
 | s b m e _ d=>exact .s _ _ m e d
def atB(l:List Bool)(t:Nat): Bool:=match l[t]? with
 | some b=>b
 | none=>false
def noD(t:Nat): List bS->Bool
 | []=>true
 | o::r=>match o.dst with
  | none=>noD t r
  | some d=>match Nat.beq d t with
   | true=>false
   | false=>noD t r
def kpt(t:Nat): bT->Bool
 | .skip=>true
 | .exit _=>true
 | .ret=>true
 | .stop=>true
 | .region _ _ ops=>noD t ops
 | .seq a b=>kpt t a&&kpt t b
 | .cond _ a b=>kpt t a&&kpt t b
 | .block _ c=>kpt t c
 | .scope c=>kpt t c
 | .loop live _ c=>(match live with
  | none=>true
  | some l=>atB l t)&&kpt t c
 | .mask lx _ _ c=>atB lx t&&kpt t c
 | .told li lx _ c=>(atB li t&&atB lx t)&&kpt t c
 | .frz u c=>!Nat.beq u t&&kpt t c
 | .nilIf ..=>false
 | .loopV ..=>false
def kpL(c:bT): List Nat->Bool
 | []=>true
 | t::r=>match kpt t c with
  | true=>kpL c r
  | false=>false
section
variable {P:Program}{cf:CF}{fl lf n t:Nat}
theorem aLQ{l:List Bool}(h:atB l t=true): l[t]?=some true:=by
 unfold atB at h;split at h
 .rename_i b a;rw[a,h]
 .cases h
theorem aHe{tm:List AV}{d:Option Nat}{v:AV}(h:∀e,d=some e->e≠t): (iY tm d v)[t]?=tm[t]?:=by
 cases d with
 | none=>rfl
 | some e=>exact Zv<|h e rfl
theorem aHf[aF]: ∀{l:List bS} {st st':St},noD t l=true->jM P cf fl l st=some st'->st'.tmps[t]?=st.tmps[t]?
 | [],st,st',_,h=>by cases h;rfl
 | o::r,st,st',c,h=>by
  have b:noD t r=true/\∀e,o.dst=some e->e≠t:=by
   simp only[noD] at c;split at c
   .rename_i e;exact⟨c,λg h=>by rw[e] at h;cases h⟩
   .rename_i d e;split at c
    .cases c
    .rename_i f;exact⟨c,λg h=>by rw[e] at h;cases h;exact YF f⟩
  simp only[jM] at h;split at h
  .rename_i i a;rw[aHf b.1 h];unfold cS at a;split at a
   .split at a
    .cases a;exact aHe b.2
    .cases a
   .cases a;exact aHe b.2
   .cases a
  .cases h
def Kp(n t:Nat)(st st':St): Prop:=n<=st'.heap.length/\∀a,st.tmps[t]?=some a->∃b,st'.tmps[t]?=some b/\ClA n a b
theorem Kp.tr{d f e:St}(h:Kp n t d f)(k:Kp n t f e): Kp n t d e:=⟨k.1,λa j=>by
 let⟨b,g,q⟩:=h.2 a j;let⟨c,l,i⟩:=k.2 b g;exact⟨c,l,q.tr i⟩⟩
theorem Kp.same{st st':St}(c:n<=st'.heap.length)(h:st'.tmps[t]?=st.tmps[t]?): Kp n t st st':=⟨c,λa b=>⟨a,by rw[h];exact b,.r a⟩⟩
theorem Kp.head[aF]{live:Option<|List Bool}{tr:Bool}{m:Nat}{st:St}(f:n<=st.heap.length)(c:n<=m)(b:fl<=n)(h:∀l,live=some l->atB l t=true): Kp n t st<|dP live tr fl m st:=by
 refine⟨(uG ⟨b,f⟩ ⟨b,c⟩).2,λa d=>?_⟩;have e:(aA9 live st.tmps)[t]?=some a:=by
  cases live with
  | none=>exact d
  | some l=>exact (LS _ _ _<|aLQ<|h l rfl).trans d
 cases tr with
 | false=>exact⟨a,e,.r a⟩
 | true=>exact⟨Rf m a,by simp only[dP,Zz,Zk,e];rfl,.s _ _ m c<|.r a⟩
theorem Kp.loop{b:St->St}{step:St->Option (cU×St)}(i:∀st,n<=st.heap.length->Kp n t st (b st))(d:∀st x st',n<=st.heap.length->step st=some (x,st')->x≠.ret->Kp n t st st'):
 ∀(m:Nat) (st:St) (x:cU) (st':St),n<=st.heap.length->gA b step m st=some (x,st')->x≠.ret->Kp n t st st'
 | 0,_,_,_,_,h,_=>by cases h
 | m+1,st,x,st',k,a,j=>by
  simp only[gA] at a;have c:=i st k;split at a
  .rename_i f he;have g:=d _ _ _ c.1 he (by intro e;cases e);exact (c.tr g).tr<|Kp.loop i d m f x st' g.1 a j
  .exact c.tr<|d _ _ _ c.1 a j
theorem O8{a b:Bool}(h:(a&&b)=true): a=true/\b=true:=by simpa using h
theorem nR[aF](g:Cy cf)(m:fl<=n): ∀(c:bT) (st:St) (x:cU) (st':St),kpt t c=true->n<=st.heap.length->eS P cf lf fl c st=some (x,st')->x≠.ret->Kp n t st st'
 | .skip,st,x,st',_,f,d,_=>by simp only[eS] at d;cases d;exact .same f rfl
 | .exit _,st,x,st',_,f,d,_=>by simp only[eS] at d;cases d;exact .same f rfl
 | .ret,st,x,st',_,f,d,o=>by simp only[eS] at d;cases d;exact (o rfl).elim
 | .stop,st,x,st',_,f,d,_=>by simp only[eS] at d;cases d
 | .region _ I ops,st,x,st',j,f,d,_=>by
  simp only[eS] at d;split at d
  .rename_i h he;cases d;exact .same (K5 g ops st _ ⟨m,f⟩<|AF he).2<|aHf j<|AF he
  .cases d
 | .seq a b,st,x,st',j,f,d,o=>by
  let⟨p,q⟩:=O8 j;simp only[eS] at d;split at d
  .rename_i h he;have k:=nR g m a st _ h p f he (by intro e;cases e);exact k.tr<|nR g m b h x st' q k.1 d o
  .exact nR g m a st x st' p f d o
 | .cond c a b,st,x,st',j,f,d,o=>by
  let⟨p,q⟩:=O8 j;simp only[eS] at d;split at d
  .exact nR g m a st x st' p f d o
  .exact nR g m b st x st' q f d o
  .cases d
 | .block id c,st,x,st',j,f,d,o=>by
  simp only[eS] at d;split at d
  .rename_i i h he;have k:=nR g m c st _ h j f he (by intro e;cases e);split at d<;>cases d<;>exact k
  .exact nR g m c st x st' j f d o
 | .scope c,st,x,st',j,f,d,o=>by
  simp only[eS] at d;exact nR g m c st x st' j f d o
 | .loop live tr c,st,x,st',j,f,d,o=>by
  let⟨p,q⟩:=O8 j;simp only[eS] at d;exact Kp.loop (λs z=>Kp.head z f m λl e=>by rw[e] at p;exact p) (λs y s' z he G=>nR g m c s y s' q z he G) lf st x st' f d o
 | .frz u c,st,x,st',j,f,d,o=>by
  let⟨p,q⟩:=O8 j;simp only[eS] at d;split at d
  .rename_i v H he;have r:n<=H.length:=(aCn g ⟨m,f⟩ he).2;have k:Kp n t st ⟨st.tmps.set u v,H⟩:=.same r<|Zv<|YF (by simpa using p);exact k.tr<|nR g m c _ x st' q r d o
  .cases d
 | .mask D C tr c,st,x,st',j,f,d,o=>by
  let⟨p,q⟩:=O8 j;simp only[eS,Hp] at d;split at d
  .rename_i F h he;split at d
   .cases d;exact (o rfl).elim
   .cases d;have k:=nR g m c st _ h q f he (by intro e;cases e);exact k.tr<|Kp.head k.1 f m λl e=>by cases e;exact p
   .cases d;have k:=nR g m c st _ h q f he (by intro e;cases e);exact k.tr<|Kp.head k.1 f m λl e=>by cases e;exact p
  .cases d
 | .told w D C c,st,x,st',j,f,d,o=>by
  let⟨p,q⟩:=O8 j;let⟨E,A⟩:=O8 p;have B:Kp n t st ⟨cV w st.tmps,st.heap⟩:=.same f<|LS _ _ _<|aLQ E;simp only[eS,Hp] at d;split at d
  .rename_i F h he;split at d
   .cases d;exact (o rfl).elim
   .cases d;have k:=nR g m c ⟨cV w st.tmps,st.heap⟩ _ h q f he (by intro e;cases e);exact (B.tr k).tr<|Kp.head k.1 f m λl e=>by cases e;exact A
   .cases d;have k:=nR g m c ⟨cV w st.tmps,st.heap⟩ _ h q f he (by intro e;cases e);exact (B.tr k).tr<|Kp.head k.1 f m λl e=>by cases e;exact A
  .cases d
 | .nilIf ..,st,x,st',j,f,d,o=>by cases j
 | .loopV ..,st,x,st',j,f,d,o=>by cases j
theorem aF8{c:bT}: ∀{l:List Nat},kpL c l=true->∀t∈l,kpt t c=true
 | [],_,t,a=>by cases a
 | u::l,h,t,a=>by
  simp only[kpL] at h;split at h
  .rename_i b;rcases ZN.1 a with rfl | a
   .exact b
   .exact aF8 h t a
  .cases h
end
section
variable [dR]{H H1:TH}{n:Nat}
theorem aRr{n m:Nat}(h:n<=m)(v:TV): cX m (cX n v)=cX n v:=by
 have k:∀i,Nat.blt i n=true->Nat.blt i m=true:=λi e=>by
  have:i<n:=by simpa [YC] using e
  simpa [YC] using YM this h
 cases v with
 | fn vi cs=>cases cs<;>rfl
 | ms i m=>simp only[cX];cases a:Nat.blt i n with | true=>simp only[cX,k _ a] | false=>rfl
 | ptr i o=>simp only[cX];cases a:Nat.blt i n with | true=>simp only[cX,k _ a] | false=>rfl
 | pel i j o=>simp only[cX];cases a:Nat.blt i n with | true=>simp only[cX,k _ a] | false=>rfl
 | mp i=>simp only[cX];cases a:Nat.blt i n with | true=>simp only[cX,k _ a] | false=>rfl
 | it i=>simp only[cX];cases a:Nat.blt i n with | true=>simp only[cX,k _ a] | false=>rfl
 | rs i m=>simp only[cX];cases a:Nat.blt i n with | true=>simp only[cX,k _ a] | false=>rfl
 | rel i m j o=>simp only[cX];cases a:Nat.blt i n with | true=>simp only[cX,k _ a] | false=>rfl
 | _=>rfl
theorem aCx{n m:Nat}(h:n<=m)(v:TV): jP m (jP n v)=jP n v:=by
 have k:∀i,Nat.blt i n=true->Nat.blt i m=true:=λi e=>by
  have:i<n:=by simpa [YC] using e
  simpa [YC] using YM this h
 cases v with
 | fn vi cs=>simp only[jP,Ya];congr 1;exact ZS λc _=>aRr h c
 | ms i x=>simp only[jP,cX];cases a:Nat.blt i n with | true=>simp only[jP,cX,k _ a] | false=>rfl
 | ptr i o=>simp only[jP,cX];cases a:Nat.blt i n with | true=>simp only[jP,cX,k _ a] | false=>rfl
 | pel i j o=>simp only[jP,cX];cases a:Nat.blt i n with | true=>simp only[jP,cX,k _ a] | false=>rfl
 | mp i=>simp only[jP,cX];cases a:Nat.blt i n with | true=>simp only[jP,cX,k _ a] | false=>rfl
 | it i=>simp only[jP,cX];cases a:Nat.blt i n with | true=>simp only[jP,cX,k _ a] | false=>rfl
 | rs i x=>simp only[jP,cX];cases a:Nat.blt i n with | true=>simp only[jP,cX,k _ a] | false=>rfl
 | rel i x j o=>simp only[jP,cX];cases a:Nat.blt i n with | true=>simp only[jP,cX,k _ a] | false=>rfl
 | _=>rfl
theorem aRp{n m:Nat}(h:n<=m)(v:TV): yM m (yM n v)=yM n v:=by
 have k:∀i,Nat.blt i n=true->Nat.blt i m=true:=λi e=>by
  have:i<n:=by simpa [YC] using e
  simpa [YC] using YM this h
 cases v with
 | agg cs=>simp only[yM,Ya];congr 1;exact ZS λc _=>aCx h c
 | fn vi cs=>exact aCx h<|.fn vi cs
 | ms i x=>simp only[yM,jP,cX];cases a:Nat.blt i n with | true=>simp only[yM,jP,cX,k _ a] | false=>rfl
 | ptr i o=>simp only[yM,jP,cX];cases a:Nat.blt i n with | true=>simp only[yM,jP,cX,k _ a] | false=>rfl
 | pel i j o=>simp only[yM,jP,cX];cases a:Nat.blt i n with | true=>simp only[yM,jP,cX,k _ a] | false=>rfl
 | mp i=>simp only[yM,jP,cX];cases a:Nat.blt i n with | true=>simp only[yM,jP,cX,k _ a] | false=>rfl
 | it i=>simp only[yM,jP,cX];cases a:Nat.blt i n with | true=>simp only[yM,jP,cX,k _ a] | false=>rfl
 | rs i x=>simp only[yM,jP,cX];cases a:Nat.blt i n with | true=>simp only[yM,jP,cX,k _ a] | false=>rfl
 | rel i x j o=>simp only[yM,jP,cX];cases a:Nat.blt i n with | true=>simp only[yM,jP,cX,k _ a] | false=>rfl
 | _=>rfl
theorem aFX{n m:Nat}(h:n<=m)(o:pK): iT m (iT n o)=iT n o:=by
 cases o with
 | box cs=>simp only[iT,Ya];congr 1;exact ZS λc _=>aCx h c
 | rows s es=>simp only[iT,Ya];congr 1;exact ZS λe _=>by simp only[Function.comp,Ya];exact ZS λc _=>aCx h c
 | fr k a=>
  simp only[iT];cases d:Nat.ble k n with
  | true=>simp only[iT,Yx<|ZB (Zj d) h]
  | false=>rfl
 | _=>rfl
theorem aOu{v:TV}{a:AV}(q:Qh H v a): Qh ((H.take n).map<|iT n) (yM n v) a:=by
 cases v with
 | agg cs=>
  obtain⟨aw,rfl,c⟩:=q.inA;exact Qh.mkA<|c.mapL λ_ _ q=>(Ex q).2
 | undef=>exact Qh.u _
 | tup=>exact Qh.u _
 | _=>exact (Ex (n:=n) q).2
theorem aVJ{v:TV}{a b:AV}(c:n=H.length)(q:Qh H v a)(h:ClA n a b): Qh (H.map<|iT n) (yM n v) b:=by
 induction h with
 | r=>
  have:=aOu (n:=n) q;rw[c,XO] at this;rw[c];exact this
 | s b m d _ f=>
  have:=aHH (n:=m) f;rw[aRp d,ZW<|by simp;omega,Ya] at this;have e:iT m∘iT n=iT n:=funext λo=>aFX d o;rw[e] at this;exact this
theorem aVK{o:pK}{a b:dK}(c:n=H.length)(q:Qo H o a)(h:ClO n a b): Qo (H.map<|iT n) (iT n o) b:=by
 induction h with
 | r=>
  have:=(A1 (n:=n) q).2;rw[c,XO] at this;rw[c];exact this
 | s b m d _ f=>
  have:=(A1 (n:=m) f).1;rw[aFX d,ZW<|by simp;omega,Ya] at this;have e:iT m∘iT n=iT n:=funext λo=>aFX d o;rw[e] at this;exact this
end
section
variable [dR]{R:Type}{H H1:TH}{A:aU}{N:Nat}{S:TS}{st:St}{P:Program}{T:List cQ}{cf:CF}{op:Ju}{K:TV->TS->Option R}{r:R}{E:XE}{n:Nat}{d:Option Nat}
def Mb{P:Type}(Q:(o:Oc P)->o.lay.V->Prop): (l:List<|Oc P)->sY l->Prop
 | [],t=>t.elim
 | [o],t=>Q o t
 | o::o'::r,t=>match t with
  | .inl t=>Q o t
  | .inr s=>Mb Q (o'::r) s
theorem Mb.two{P:Type}{Q b:(o:Oc P)->o.lay.V->Prop}: ∀{l:List<|Oc P} {t:sY l},Mb Q l t->Mb b l t->∃o∈l,∃t,Q o t/\b o t
 | [],t,_,_=>t.elim
 | [o],t,h,k=>⟨o,ZM,t,h,k⟩
 | o::a::r,.inl t,h,k=>⟨o,ZM,t,h,k⟩
 | o::a::r,.inr t,h,k=>let ⟨o,c,t,h⟩:=Mb.two (l:=a::r) h k;⟨o,ZQ _ c,t,h⟩
theorem aCW{P R:Type}{p:P}{b:Bool}{K:cU->TS->Option R}{r:R}: ∀{l:List<|Oc P} {x:Option<|sY l},swO p b l x K=some r->∃t,x=some t/\Mb (λo t=>K o.x (o.lay.mk' (o.pr p) t)=some r) l t
 | [],x,h=>by cases h
 | [o],x,h=>by
  simp only[swO] at h;obtain⟨t,rfl,h⟩:=bD h;refine⟨t,rfl,?_⟩;split at h
  .exact aKB h
  .exact h
 | o::a::l,x,h=>by
  simp only[swO] at h;rcases aIT h with⟨t,rfl,h⟩ | ⟨s,rfl,h⟩
  .refine⟨.inl t,rfl,?_⟩;split at h
   .exact aKB h
   .exact h
  .let⟨t,e,h⟩:=aCW (l:=a::l) h;cases e;exact⟨.inr _,rfl,h⟩
theorem aGt: ∀{os:List OL} {H:TH} {c:List TV},upO os H=some c->H.length=os.length
 | [],H,c,h=>by
  cases H with
  | nil=>rfl
  | cons=>cases h
 | o::os,H,c,h=>by
  cases H with
  | nil=>cases h
  | cons b H=>
   simp only[upO] at h;split at h
   .cases h
   .rename_i vs a;simp[aGt a]
theorem y9{L:Gs}{S:TS}{x:L.P×L.V}(h:L.get S=some x): S.hp.length=L.os.length:=by
 unfold Gs.get at h;split at h
 .split at h
  .rename_i a;exact aGt a
  .cases h
 .cases h
theorem aQU{L:Gs}{p:L.P}{q:L.V}(h:L.get S=some (p,q))(i k k':Nat)(l:List<|den k)(c:List<|den k')(f:S.hp[i]?=some (.lst k l))(n:(L.mk' p q).hp[i]?=some (.lst k' c)): c.length=l.length:=by
 unfold Gs.get at h;split at h
 .split at h
  .rename_i m a;split at h
   .rename_i o b;split at h
    .cases h;have g:=Pb (H:=S.hp) b;have e:=aJx a;have j:bV (Rj S.hp) ((mkV L.ss p q).take<|nO L.os) m:=by
      have:=g.take<|nO L.os;rw[<-e,Xn] at this;rw[e] at this;exact this
     exact yD a j i k k' l c f n
    .cases h
   .cases h
  .cases h
 .cases h
theorem aHi{kl:List Nat}: ∀{i:Nat} {H H':TH},n5 kl i H H'=true->∀(j k:Nat) (l:List<|den k),i+j∉kl->H[j]?=some (.lst k l)->∃(k':Nat) (f:List<|den k'),H'[j]?=some (.lst k' f)
 | i,[],H',h,j,k,l,_,c=>by simp at c
 | i,a::r,[],h,_,_,_,_,_=>by cases h
 | i,a::r,b::s,h,j,k,l,n,c=>by
  have o:n5 kl (i+1) r s=true->∀e,j=e+1->∃(k':Nat) (f:List<|den k'),(b::s)[j]?=some (.lst k' f):=by
   rintro q e rfl;let⟨k',f,g⟩:=aHi q e k l (by rw[Yu,Wg 1];exact n) (by simpa using c);exact⟨k',f,by simpa using g⟩
  simp only[n5] at h;cases j with
  | succ e=>
   refine o ?_ e rfl;split at h
   .split at h
    .exact h
    .split at h
     .exact h
     .cases h
   .exact h
  | zero=>
   simp only[Zt,Za] at c;subst c;simp only at h;split at h
   .exact⟨_,_,rfl⟩
   .split at h
    .rename_i p;exact absurd p<|by rw[aF7<|by simpa using n];simp
    .cases h
theorem aHa{os:List OL}: ∀{l:List Nat},aN0 os l=true->∀i∈l,os[i]?=some .gone
 | [],_,i,a=>by cases a
 | j::l,h,i,a=>by
  simp only[aN0] at h;split at h
  .rename_i o b;split at h
   .rcases ZN.1 a with rfl | a
    .exact b
    .exact aHa h i a
   .cases h
  .cases h
theorem G0: ∀{os:List OL} {vs:List TV} {i:Nat} {o:pK},os[i]?=some .gone->(Q8 os vs)[i]?=some o->o=.gone
 | [],vs,i,o,h,_=>by simp at h
 | c::os,vs,0,o,h,a=>by
  simp only[Zt,Za] at h;subst h;simp only[Q8,Zt,Za] at a;exact a.symm
 | c::os,vs,i+1,o,h,a=>by
  have b:os[i]?=some .gone:=by simpa using h
  clear h;cases c<;>simp only[Q8] at a<;>first
   | exact G0 b (by simpa using a)
   | (split at a<;>first | exact G0 b (by simpa using a) | (simp at a))
theorem yK{L:Gs}{S:TS}{x:L.P×L.V}(h:L.fit S=some x): L.get S=some x/\∀i∈L.fo,L.os[i]?=some .gone:=by
 unfold Gs.fit at h;split at h
 .rename_i e;exact⟨h,aHa e⟩
 .cases h
theorem x9{n:Nat}{φ:Nat->dK}: ∀{l:List Nat} {H:TH},(ovO n φ l H).length=H.length
 | [],_=>rfl
 | _::r,H=>by simp[ovO,x9 (l:=r)]
theorem aBB{n:Nat}{φ:Nat->dK}{i:Nat}: ∀{l:List Nat} {H:TH},i∉l->(ovO n φ l H)[i]?=H[i]?
 | [],_,_=>rfl
 | j::r,H,h=>by
  simp only[ZN,not_or] at h;rw[ovO,Zv λe=>h.1 e.symm];exact aBB h.2
theorem aFr{n:Nat}{φ:Nat->dK}{i:Nat}: ∀{l:List Nat} {H:TH},i∈l->i<H.length->(ovO n φ l H)[i]?=some (.fr n<|φ i)
 | j::r,H,h,a=>by
  rw[ovO,Z5];split
  .rename_i e;subst e;rw[Zu<|by rw[x9];exact a]
  .rename_i e;rcases ZN.1 h with rfl | h
   .exact (e rfl).elim
   .exact aFr h a
theorem w9{kl:List Nat}{n:Nat}{a:TH}: ∀{l:List Nat} {H:TH},(rsO kl n a l H).length=H.length
 | [],_=>rfl
 | _::r,H=>by
  simp only[rsO];split<;>simp[w9 (l:=r)]
theorem D4{kl:List Nat}{n i:Nat}{a:TH}: ∀{l:List Nat} {H:TH},i∉l->(rsO kl n a l H)[i]?=H[i]?
 | [],_,_=>rfl
 | j::r,H,h=>by
  simp only[ZN,not_or] at h;rw[rsO];split
  .rw[Zv λe=>h.1 e.symm];exact D4 h.2
  .exact D4 h.2
theorem aBx{kl:List Nat}{n i:Nat}{d:TH}{o:pK}(c:d[i]?=some o): ∀{l:List Nat} {H:TH},i∈l->i<H.length->(rsO kl n d l H)[i]?=some (Hs kl<|iT n o)
 | j::r,H,h,b=>by
  rw[rsO];rcases ZN.1 h with rfl | h
  .rw[c];exact Z3<|by rw[w9];exact b
  .split
   .rename_i f a;rw[Z5];split
    .rename_i e;subst e;rw[c] at a;cases a;rw[Zu<|by rw[w9];exact b]
    .exact aBx c h b
   .exact aBx c h b
theorem aPd{L:Gs}{n:Nat}{φ:Nat->dK}{p:L.P}{q:L.V}(h:∀i∈L.fo,L.os[i]?=some .gone): HM (L.mk' p q).hp (L.mkG n φ p q).hp:=by
 intro i k l a;have b:i∉L.fo:=λc=>by cases G0 (h i c) a
 exact⟨k,l,by rw[<-a];exact aBB b,rfl⟩
theorem aSY{L:Gs}{n:Nat}{φ:Nat->dK}{p:L.P}{q:L.V}(h:∀i∈L.fo,L.os[i]?=some .gone)(c:Qt N (L.mk' p q) st)(k:∀i∈L.fo,∀b,st.heap[i]?=some b->ClO n (φ i) b): Qt N (L.mkG n φ p q) st:=by
 refine Qt.hpM (S:=L.mk' p q) (st:=st) c (aPd h)<|bV.of (by rw[c.hp.len];exact x9.symm) λj o b d f=>?_;by_cases e:j∈L.fo
 .have g:j<(L.mk' p q).hp.length:=by rw[<-c.hp.len];exact (Ze.1 f).1
  rw[aFr e g] at d;cases d;exact k j e b f
 .rw[aBB e] at d;exact (c.hp.at d f).mono<|aPd h
theorem K1{L:Gs}{p:L.P}{q:L.V}{n:Nat}{φ:Nat->dK}(h:L.fit S=some (p,q))(a:Qt N S st)(c:∀i∈L.fo,∀b,st.heap[i]?=some b->ClO n (φ i) b): Qt N (L.mkG n φ p q) st:=
 aSY (yK h).2 (aLm (yK h).1 a) c
theorem aGF{n:Nat}{φ:Nat->dK}{H:TH}: ∀{l:List Nat},aNb n H l=some (l.map φ)->∀i∈l,H[i]?=some (.fr n<|φ i)
 | [],_,i,a=>by cases a
 | j::l,h,i,a=>by
  simp only[aNb] at h;split at h
  .rename_i o c;split at h
   .split at h
    .rename_i e;have e:=Zc e;subst e;split at h
     .rename_i f b;simp only[ZE,Za,XU] at h;obtain⟨rfl,rfl⟩:=h;rcases ZN.1 a with rfl | a
      .exact c
      .exact aGF b i a
     .cases h
    .cases h
   .cases h
  .cases h
theorem z6{L:Gs}{p:L.P}{q:L.V}{n:Nat}{φ:Nat->dK}(h:L.getF n S=some (L.fo.map φ,p,q))(a:Qt N S st): Qt N (L.mkG n φ p q) st:=by
 unfold Gs.getF at h;split at h
 .rename_i f e;split at h
  .rename_i x g;simp only[Za,Zi] at h;obtain⟨rfl,rfl⟩:=h;exact K1 g a λi c b d=>a.hp.at (aGF e i c) d
  .cases h
 .cases h
theorem aDI{t:Nat}{v:TV}{B:TT}: ∀{A:TT},dD t (A++B)=some v->dD t A=some v\/dD t B=some v
 | [],h=>.inr h
 | (s,u)::A,h=>by
  simp only[Vf,dD] at h |-;split at h
  .exact .inl h
  .exact aDI h
theorem H3{kl:List Nat}{n t:Nat}{c:TT}{v:TV}: ∀{l:List Nat},dD t (rsT kl n c l)=some v->t∈l/\∃u,dD t c=some u/\v=EB kl (yM n u)
 | [],h=>by cases h
 | s::l,h=>by
  simp only[rsT] at h;split at h
  .rename_i u d;simp only[dD] at h;split at h
   .rename_i e;have e:=Zc e;subst e;cases h;exact⟨ZM,u,d,rfl⟩
   .let⟨a,b⟩:=H3 h;exact⟨ZQ _ a,b⟩
  .let⟨a,b⟩:=H3 h;exact⟨ZQ _ a,b⟩
structure OKo(sp:v9)(p:sp.ins.P)(q:sp.ins.V)(o:Oc sp.ins.P): Prop where
 fo:o.lay.fo=sp.ins.fo
 hm:∀t,HMk sp.kl (sp.ins.mk' p q).hp (o.lay.mk' (o.pr p) t).hp
 ln:∀t,(sp.ins.mk' p q).hp.length<=(o.lay.mk' (o.pr p) t).hp.length
structure OKu(sp:v9)(p:sp.ins.P)(q:sp.ins.V)(o:Oc sp.ins.P)(u:o.lay.V): Prop where
 fo:o.lay.fo=sp.ins.fo
 hm:HMk sp.kl (sp.ins.mk' p q).hp (o.lay.mk' (o.pr p) u).hp
 ln:(sp.ins.mk' p q).hp.length<=(o.lay.mk' (o.pr p) u).hp.length
theorem OKo.at{sp:v9}{p:sp.ins.P}{q:sp.ins.V}{o:Oc sp.ins.P}(h:OKo sp p q o)(u:o.lay.V): OKu sp p q o u:=⟨h.fo,h.hm u,h.ln u⟩
theorem aHk: ∀{H H':TH},aI2 H H'=true->∀(j k:Nat) (l:List<|den k),H[j]?=some (.lst k l)->∃(k':Nat) (b:List<|den k'),H'[j]?=some (.lst k' b)/\b.length=l.length
 | [],_,_,j,k,l,c=>by simp at c
 | o::r,[],h,_,_,_,_=>by cases h
 | o::r,b::s,h,j,k,l,c=>by
  have w:(∀k (l:List<|den k),o=.lst k l->∃(k':Nat) (f:List<|den k'),b=.lst k' f/\f.length=l.length)/\aI2 r s=true:=by
   cases o with
   | lst k l=>
    cases b with
    | lst k' f=>
     have h:(Nat.beq f.length l.length&&aI2 r s)=true:=h
     have h:=(Zd _ _).mp h
     exact⟨λ_ _ e=>by cases e;exact⟨_,_,rfl,Zc h.1⟩,h.2⟩
    | _=>cases h
   | _=>exact⟨λ_ _ e=>(by cases e),h⟩
  cases j with
  | zero=>
   simp only[Zt,Za] at c
   let⟨k',f,e,n⟩:=w.1 k l c;exact⟨k',f,by rw[e];rfl,n⟩
  | succ j=>exact aHk w.2 j k l (by simpa using c)
theorem aLK{α:Type}{b:Bool}{x:Option α}{r:α}(h:cnd b x none=some r): b=true/\x=some r:=by
 cases b with
 | true=>exact⟨rfl,h⟩
 | false=>cases h
theorem aE3{n i k:Nat}{l:List<|den k}(h:(H.map<|iT n)[i]?=some (.lst k l)): H[i]?=some (.lst k l):=by
 rw[Zk,Zq] at h;let⟨o,b,a⟩:=h;cases o<;>simp only[iT] at a<;>first | (cases a;done) | (cases a;exact b) | (split at a<;>cases a)
section
variable {N':Nat}{S1:TS}{st1 st2:St}{sp:v9}{p:sp.ins.P}{q:sp.ins.V}{o:Oc sp.ins.P}{φ:Nat->dK}{u:o.lay.V}
theorem aFj(F:Qt N S1 st1)(E:sp.ins.fit S1=some (p,q))(U:n5 (sp.kl++sp.ins.fo) 0 S1.hp (sp.ins.mk' p q).hp=true)(Y:∀i∈sp.ins.fo,∀b,st1.heap[i]?=some b->b=φ i)(G:OKu sp p q o u)(s:Qt N' (o.lay.mkG sp.ins.os.length φ (o.pr p) u) st2): HMk sp.kl S1.hp (rsO sp.kl S1.hp.length S1.hp sp.ins.fo (o.lay.mk' (o.pr p) u).hp)/\Qt N' ⟨(o.lay.mk' (o.pr p) u).tm,rsO sp.kl S1.hp.length S1.hp sp.ins.fo (o.lay.mk' (o.pr p) u).hp⟩ st2:=by
 have m:S1.hp.length=sp.ins.os.length:=y9 (yK E).1;have I:S1.hp.length=(sp.ins.mk' p q).hp.length:=by
  rw[<-F.hp.len];exact (aLm (yK E).1 F).hp.len
 have e:st2.heap.length=(o.lay.mk' (o.pr p) u).hp.length:=by rw[s.hp.len];exact x9
 have L:∀i a,S1.hp[i]?=some a->i<(o.lay.mk' (o.pr p) u).hp.length:=λi a h=>by
  have h1:=(Ze.1 h).1;have h2:=G.ln;omega
 have O:HMk sp.kl S1.hp<|rsO sp.kl S1.hp.length S1.hp sp.ins.fo (o.lay.mk' (o.pr p) u).hp:=by
  intro i k l g n;by_cases f:i∈sp.ins.fo
  .exact⟨k,l,by rw[aBx n f<|L i _ n];rfl,rfl⟩
  .let⟨k',M,Q⟩:=aHi U i k l (by rw[Z0];simp[g,f]) n;let⟨Z,V,X,W⟩:=G.hm i k' M g Q;exact⟨Z,V,by rw[D4 f];exact X,by rw[W];exact aQU (yK E).1 i k k' l M n Q⟩
 have x:∀i,i∉sp.ins.fo->(o.lay.mkG sp.ins.os.length φ (o.pr p) u).hp[i]?=(o.lay.mk' (o.pr p) u).hp[i]?:=λi g=>aBB (by rw[G.fo];exact g);have v:∀i,i∈sp.ins.fo->i<(o.lay.mk' (o.pr p) u).hp.length->(o.lay.mkG sp.ins.os.length φ (o.pr p) u).hp[i]?=some (.fr sp.ins.os.length<|φ i):=λi g n=>aFr (by rw[G.fo];exact g) n;have D:HM (o.lay.mkG sp.ins.os.length φ (o.pr p) u).hp<|rsO sp.kl S1.hp.length S1.hp sp.ins.fo (o.lay.mk' (o.pr p) u).hp:=by
  intro i k l g;have K:i<(o.lay.mk' (o.pr p) u).hp.length:=by rw[<-e,s.hp.len];exact (Ze.1 g).1
  by_cases f:i∈sp.ins.fo
  .rw[v i f K] at g;cases g
  .exact⟨k,l,by rw[D4 f,<-x i f];exact g,rfl⟩
 refine⟨O,Qt.hpM (S:=o.lay.mkG sp.ins.os.length φ (o.pr p) u) s D<|bV.of (by rw[w9];exact e) λj a b H r=>?_⟩;have A:j<(o.lay.mk' (o.pr p) u).hp.length:=by rw[<-e];exact (Ze.1 r).1
 by_cases f:j∈sp.ins.fo
 .have y:ClO sp.ins.os.length (φ j) b:=s.hp.at (v j f A) r;have C:j<S1.hp.length:=by rw[m];exact (Ze.1<|(yK E).2 j f).1
  have J:j<st1.heap.length:=by rw[F.hp.len];exact C
  have z:=Zb C;have t:=Zb J;rw[aBx z f A] at H;cases H;have R:=F.hp.at z t;rw[Y j f _ t] at R;rw[<-m] at y;exact aDQ (λi k l g n=>O i k l g<|aE3 n)<|aVK rfl R y
 .rw[D4 f,<-x j f] at H;exact (s.hp.at H r).mono D
theorem aMa{S:TS}{x:cU}(s:Qt N S st)(I:Qt N S1 st1)(r:S1.hp.length=S.hp.length)(A:∀(i k:Nat) (l:List<|den k),S.hp[i]?=some (.lst k l)->S1.hp[i]?=some (.lst k l))(D:sp.ins.fit S1=some (p,q))(Q:n5 (sp.kl++sp.ins.fo) 0 S1.hp (sp.ins.mk' p q).hp=true)(O:∀i∈sp.ins.fo,∀b,st1.heap[i]?=some b->b=φ i)(L:OKo sp p q o)(V:Qt N (o.lay.mkG sp.ins.os.length φ (o.pr p) u) st2)(K:x≠.ret->∀t∈sp.kt,Kp sp.ins.os.length t st st2): Qt N (aft sp S.tm S1.hp x<|o.lay.mk' (o.pr p) u) st2:=by
 let⟨F,n⟩:=aFj I D Q O (L.at u) V;have h:S1.hp.length=sp.ins.os.length:=y9 (yK D).1;have f:x≠.ret->Qt N ⟨(o.lay.mk' (o.pr p) u).tm++rsT sp.kl S1.hp.length S.tm sp.kt,rsO sp.kl S1.hp.length S1.hp sp.ins.fo (o.lay.mk' (o.pr p) u).hp⟩ st2:=by
  intro J;refine⟨n.ln,λt v g=>?_,n.hp⟩;rcases aDI g with g | g
  .exact n.tm t v g
  .obtain⟨M,w,E,rfl⟩:=H3 g;let⟨a,G,R⟩:=s.tm t w E;let⟨b,y,C⟩:=(K J t M).2 a G;refine⟨b,y,?_⟩;rw[<-h] at C;exact Ht (λi k l H r=>F i k l H<|A i k l<|aE3 r)<|aVJ r R C
 cases x with
 | ret=>exact n
 | normal=>exact f<|by intro e;cases e
 | exit j=>exact f<|by intro e;cases e
end
def IOK[aF](P:Program)(T:List cQ)(sp:ISp): Prop:=∀n p q t,sp.s.F n p q=some t->∀φ aw H,aw.length=sp.na->sp.fl<=H.length->Qt aw.length (sp.s.ins.mkG sp.s.ins.os.length φ p q) ⟨aw,H⟩->
 ∃aw' H',fH P T n sp.fl sp.vi aw H=some (kO aw',H')/\aw'.length=sp.nr/\Mb (λo t=>Qt sp.nr (o.lay.mkG sp.s.ins.os.length φ (o.pr p) t) ⟨aw',H'⟩/\OKo sp.s p q o) sp.s.outs t
theorem aH5: ∀{vs:List TV} {aw:List AV} {i t:Nat} {v:TV},Qc H vs aw->dD t (XW i vs)=some v->∃j a,t=i+j/\aw[j]?=some a/\Qh H v a
 | [],_,i,t,v,_,h=>by cases h
 | u::vs,a::aw,i,t,v,q,h=>by
  simp only[XW,dD] at h;split at h
  .rename_i e;have e:=Zc e;cases h;exact⟨0,a,by omega,rfl,q.1⟩
  .let⟨j,b,f,d,c⟩:=aH5 q.2 h;exact⟨j+1,b,by omega,by simpa using d,c⟩
theorem aCq{vs:List TV}{aw:List AV}(b:Qs H A)(q:Qc H vs aw): Qt aw.length ⟨XW 0 vs,H⟩ ⟨aw,A⟩:=by
 refine⟨rfl,λt v f=>?_,b⟩;let⟨j,a,e,c,d⟩:=aH5 q f;exact⟨a,by rw[e,Z0];exact c,d⟩
theorem aPb{c t:Nat}{b:List AV}{e:aU}(h:Qt c S ⟨b,e⟩)(f:t<c): ∃a,b[t]?=some a/\Qh S.hp (match dD t S.tm with | some v=>v | none=>.undef) a:=by
 cases d:dD t S.tm with
 | some v=>exact h.tm t v d
 | none=>exact⟨b[t]'(by rw[h.ln];exact f),Zb _,Qh.u _⟩
theorem aGC{d:Nat}{c:List AV}{o:aU}(h:Qt d S ⟨c,o⟩): Qh S.hp (aJZ d S.tm)<|kO c:=by
 have q:c.length=d:=h.ln;have f:∀d,Qt d S ⟨c,o⟩->Qh S.hp (.tup<|(List.range d).map λj=>match dD j S.tm with | some v=>v | none=>.undef) (.tup c):=by
  intro d h;refine Qh.mkT<|bV.of (by simp[h.ln]) λj v a p k=>?_;rw[Zk,Zq] at p;obtain⟨n,l,rfl⟩:=p;have e:n=j:=by
   rw[YY<|by rw[<-h.ln];exact (Ze.1 k).1] at l;cases l;rfl
  subst e;let⟨b,g,i⟩:=aPb h (t:=n) (by rw[<-h.ln];exact (Ze.1 k).1);rw[k] at g;cases g;exact i
 match d,c,h,q with
 | 0,[],h,_=>exact f 0 h
 | 1,[a],h,_=>
  let⟨b,g,i⟩:=aPb h (t:=0) (by omega);cases g;exact i
 | m+2,a::b::r,h,_=>exact f _ h
theorem Vi[aF]{fl vi:Nat}{vs:List TV}{aw:List AV}(d:fl<=st.heap.length)(v:Qt N S st)(q:Qc S.hp vs aw): ∀{l:List ISp},(∀sp∈l,IOK P T sp)->Cu n fl vi vs S K l=some r->
 ∃a A tv m,fH P T n fl vi aw st.heap=some (a,A)/\Qt N m ⟨st.tmps,A⟩/\Qh m.hp tv a/\K tv m=some r
 | [],_,h=>by cases h
 | sp::l,y,h=>by
  have e:Cu n fl vi vs S K l=some r->_:=Vi d v q λsp h=>y sp<|ZQ _ h;simp only[Cu] at h;split at h
  .exact e h
  .rename_i w;have w:=Zc w;split at h
   .exact e h
   .rename_i e2;have e2:=Zc e2;split at h
    .exact e h
    rename_i k;have k:=Zc k;split at h
    .rename_i p q' x;split at h
     .rename_i j;have f:=aCq v.hp q;let φ:Nat->dK:=λi=>(st.heap[i]?).getD default;have z:∀i b,st.heap[i]?=some b->b=φ i:=λi b c=>by show b=(st.heap[i]?).getD default;rw[c];rfl
      split at h
      rotate_left
      .split at h
       .rename_i j2;let⟨t,G,g⟩:=aCW h
        let⟨H,H',C,L,F⟩:=y sp ZM n p q' t G φ aw st.heap (by rw[q.len];exact k) (by rw[e2];exact d) (K1 x f λi M b c=>by rw[z i b c];exact .r _);let⟨o,_,u,⟨J,E⟩,D⟩:=Mb.two F g
        obtain⟨D0,D⟩:=aLK D
        have E2:OKu {sp.s with kl:=[]} p q' o u:=⟨E.fo,λi k l _ h=>aHk D0 i k l h,E.ln u⟩
        let⟨I,B⟩:=aFj (sp:={sp.s with kl:=[]}) f x j2 (λi _ b c=>z i b c) E2 J;exact⟨_,H',aJZ sp.nr (o.lay.mk' (o.pr p) u).tm,⟨S.tm,rsO [] S.hp.length S.hp sp.s.ins.fo (o.lay.mk' (o.pr p) u).hp⟩,by rw[<-w,<-e2];exact C,H5 (f:=[]) v I B.hp,aGC B,D⟩
       .exact e h
      let⟨t,G,g⟩:=aCW h
      let⟨H,H',C,L,F⟩:=y sp ZM n p q' t G φ aw st.heap (by rw[q.len];exact k) (by rw[e2];exact d) (K1 x f λi M b c=>by rw[z i b c];exact .r _);let⟨o,_,u,⟨J,E⟩,D⟩:=Mb.two F g;let⟨I,B⟩:=aFj f x j (λi _ b c=>z i b c) (E.at u) J;exact⟨_,H',aJZ sp.nr (o.lay.mk' (o.pr p) u).tm,⟨aDO sp.kl S.tm,rsO sp.kl S.hp.length S.hp sp.s.ins.fo (o.lay.mk' (o.pr p) u).hp⟩,by rw[<-w,<-e2];exact C,H5 v I B.hp,aGC B,D⟩
     .exact e h
    .exact e h
end
section
variable [dR]{R:Type}{H H1:TH}{A:aU}{N:Nat}{S:TS}{st:St}{P:Program}{T:List cQ}{cf:CF}{op:Ju}{K:TV->TS->Option R}{r:R}{E:XE}{n:Nat}{d:Option Nat}
def aMk[aF](P:Program)(t:TypeId)(e:EqS): Prop:=∀(cf:CF) (fl:Nat) (H:aU) (x y:den e.k) (aw bs:List AV),Qr (kI e.k x) aw->Qr (kI e.k y) bs->
 aO P cf fl (.bin .eql t (.tmp 0)<|.tmp 1) [vE (ag e.k) aw,vE (ag e.k) bs] H=some (bv<|@decide (x=y)<|e.dec x y,H)/\aO P cf fl (.bin .neq t (.tmp 0)<|.tmp 1) [vE (ag e.k) aw,vE (ag e.k) bs] H=some (bv<|!@decide (x=y) (e.dec x y),H)
def KOK(P:Program)(t:TypeId)(e:aOE): Prop:=aDR (cds e.k)=true/\@Q3 (den e.k) e.dec P t (uE e.k)
def aMf(P:Program)(t:TypeId): Prop:=P.underlying t=some .string/\∀s,aQ P (Builtin.len_ #[t] 0 #[.string s])=some (.int .i64 ((s.size:Nat):Int))
def aJi(P:Program)(s d:TypeId)(k:IntKind): Prop:=∀j a,aQ P (convert s d<|.int j a)=some (.int k<|k.wrap a)
def aLM(s bytes:Nat)(z:List Value): bT:=(.seq (.region false [] [⟨(some 2),.mov<|.lit bO,none⟩])<|.nilIf 0 3 4 (.seq (.region false [] [⟨(some 2),.mov<|.lit bO,none⟩]) .ret)<|.seq (.region false [] [⟨(some 5),.buildSl true s 0 z [],none⟩,⟨(some 6),.mov<|.tmp 0,none⟩,⟨(some 7),.append s bytes (.tmp 5)<|.tmp 6,none⟩,⟨(some 2),.mov<|.tmp 7,none⟩]) .ret)
def aP9[aF](T:List cQ)(vi k:Nat): Prop:=∃fid bytes z,getF T vi=some ⟨fid,8,[.tmp 2],aLM (cds k).length bytes z⟩/\0<(cds k).length/\bytes<=100000
def POK[aF](T:List cQ)(vi:Nat): PSp->Prop
 | .srt k=>aF.prim vi=some (tP (ag k) (cds k).length)
 | .cln k=>aP9 T vi k
 | .ord k F=>∃g,aF.prim vi=some (tC g)/\∀fl H id (l:List<|den k) es,fl<=id->H[id]?=some (.blk (cds k).length es)->Ql k l es->l.length<=1000000->
  ∃es',g fl [.ms id l.length 0 l.length] H=some (.tup [],H.set id<|.blk (cds k).length es')/\Ql k (F l) es'/\(F l).length=l.length
 | .ins k=>∃g,aF.prim vi=some (tC g)/\∀fl H id y (i:Nat) es row,fl<=id->(∃id2,id≠id2/\y=.ms id2 1 0 1/\H[id2]?=some (.blk (cds k).length [row]))->H[id]?=some (.blk (cds k).length es)->row.length=(cds k).length->i<=es.length->es.length<=1000000->
  g fl [.ms id es.length 0 es.length,.lit<|.int .i64 (i:Nat),y] H=some (.ms id (es.length+1) 0<|es.length+1,H.set id<|.blk (cds k).length (es.take i++row::es.drop i))
structure Q6[aF](P:Program)(T:List cQ)(E:XE): Prop where
 cs:∀vi c,E.cs vi=some c->FOK P T vi c
 eq:∀t e,E.eq t=some e->aMk P t e
 km:∀t e,E.km t=some e->KOK P t e
 st:∀t,E.st t=true->aMf P t
 cv:∀s d k,E.cv s d=some k->aJi P s d k
 pr:∀vi p,E.pr vi=some p->POK T vi p
 il:∀sp∈E.il,IOK P T sp
 fo:∀cf,Cy cf->Cy (Mj cf)
theorem aG1{α β:Type}: ∀(l:List α) (m:List β) (i:Nat) (a:α) (b:β),(l.zip m).set i (a,b)=(l.set i a).zip (m.set i b)
 | [],_,_,_,_=>by simp
 | _::_,[],i,_,_=>by cases i<;>simp
 | x::l,y::m,0,a,b=>rfl
 | x::l,y::m,i+1,a,b=>by simp[aG1 l m i a b]
theorem aCS{k:Nat}{x:den k}{row:List AV}(h:Qr (kI k x) row): Qh H (val k x)<|vE (ag k) row:=by
 unfold val vE;cases ag k with
 | true=>exact Qh.mkA h.c
 | false=>
  cases b:kI k x with
  | nil=>exact Qh.u _
  | cons c r=>
   rw[b] at h;cases row with
   | nil=>exact h.elim
   | cons a r=>exact .p _ _ h.1
theorem aQd{k:Nat}{v:TV}{x:den k}{a:AV}{c:TH}(h:x8 0 c k v=some x)(q:Qh H v a): ∃row,a=vE (ag k) row/\Qr (kI k x) row:=by
 unfold x8 at h;split at h
 .rename_i b;split at h
  .obtain⟨aw,rfl,q'⟩:=q.inA;exact⟨aw,by rw[b];rfl,jY h q'⟩
  .cases h
 .rename_i b;exact⟨[a],by rw[b];rfl,jY h (aw:=[a]) ⟨q,trivial⟩⟩
theorem y7: ∀{cs:List Cd} {p:VA cs},aDR cs=true->tB cs p=(kvC cs p).map .lit
 | [],_,_=>rfl
 | c::r,p,h=>by
  cases c<;>first | (cases h;done) | (simp only[aDR] at h;simp only[tB,kvC,ZE,y7 h];rfl)
theorem aBP: ∀{vs:List Value} {aw:List AV},Qr (vs.map .lit) aw->Hr aw=some vs
 | [],[],_=>rfl
 | v::vs,a::aw,h=>by
  have e:a=.lit v:=by cases h.1;rfl
  subst e;simp only[Hr,aBP h.2]
theorem aKS{k:Nat}{v:TV}{x:den k}{a:AV}{g:TH}(d:aDR (cds k)=true)(h:x8 0 g k v=some x)(q:Qh H v a): lits a=some (uE k x):=by
 unfold x8 at h;unfold uE;split at h
 .rename_i f;split at h
  .obtain⟨aw,rfl,q'⟩:=q.inA;have b:=jY h q';unfold kI at b;rw[y7 d] at b;simp only[lits,aBP b,f]
  .cases h
 .rename_i f;have b:=jY h (aw:=[a]) ⟨q,trivial⟩;unfold kI at b;rw[y7 d] at b;generalize kvC (cds k) (dR.un k x)=vs at b;match vs,b with
  | [v],b=>
   have e:a=.lit v:=by cases b.1;rfl
   subst e;rfl
theorem aII{kk b:Nat}{m:List<|den kk×den b}{rows:List<|List AV}(h:rows.length=m.length): (gB b m rows).map (·.1)=(m.map (·.1)).map (uE kk):=by
 unfold gB;rw[List.map_fst_zip<|by simp[h],Ya];rfl
theorem aH6{kk b:Nat}{m:List<|den kk×den b}{rows:List<|List AV}{i:Nat}{p:den kk×den b}{row:List AV}(c:m[i]?=some p)(d:rows[i]?=some row): (gB b m rows)[i]?=some (uE kk p.1,vE (ag b) row):=by
 unfold gB;rw[List.getElem?_zip_eq_some];exact⟨by simp[c],by simp[d]⟩
theorem aAL{kt:TypeId}{a:aOE}{c:Nat}{m:List<|den a.k×den c}{rows:List<|List AV}(d:KOK P kt a)(h:rows.length=m.length)(x:den a.k): kQ P kt (uE a.k x) (gB c m rows)=some (m.findIdx? λp=>@decide (p.1=x)<|a.dec p.1 x):=by
 rw[aFH (e2:=(m.map (·.1)).map λx=>(uE a.k x,AV.undef))<|by rw[aII h,Ya,Ya,Ya];rfl,@Q3.find _ a.dec _ _ _ d.2];congr 1;rw[List.findIdx?_map];rfl
theorem aHh{kk c:Nat}{v:TV}{a:AV}{m:List<|den kk×den c}(n:Qs H A)(q:Qh H v a)(h:aKI H kk v=some ⟨c,m⟩):
 ∃rows,Qm c m rows/\((a=.lit (.map none)/\m=[])\/a=.rmp (gB c m rows)\/∃id,a=.mp id/\v=.mp id/\A[id]?=some (.mp<|gB c m rows)/\id<H.length):=by
 unfold aKI at h;split at h
 .split at h
  .rename_i g;cases h;let⟨e,i,h⟩:=OD g;subst e;cases i;subst h;let⟨rows,d,f⟩:=(q.pu trivial).inM;rcases d with d | d
   .exact⟨rows,f,.inl d⟩
   .exact⟨rows,f,.inr<|.inl d⟩
  .cases h
 .split at h
  .rename_i o k;split at h
   .split at h
    .rename_i g;cases h;let⟨e,i,h⟩:=OD g;subst e;cases i;subst h;obtain⟨b,l,rows,rfl,f⟩:=n.get k;exact⟨rows,f,.inr<|.inr ⟨_,q.mp1,rfl,l,(Ze.1 k).1⟩⟩
    .cases h
   .cases h
  .cases h
 .cases h
theorem G9[aF]{kt:TypeId}{z m k:bA}{ok:Bool}(U:Q6 P T E)(t:Qt N S st)(h:cM E n d (.lookup kt z m k ok) S K=some r): dE P cf E.fl N (.lookup kt z m k ok) st K r:=by
 simp only[cM] at h;split at h
 .rename_i o L;have A:=U.km kt o L;split at h
  .rename_i g y;have f:=aKS A.1 y<|t.get k;split at h
   .rename_i p W;let⟨w,x⟩:=p;let⟨rows,O,c⟩:=aHh t.hp (t.get m) W;split at h
    .rename_i M Y;have V:Qh S.hp (val w M)<|aH st.tmps z:=aSI Y<|t.get z;have G:∃a,Qh S.hp (val w<|(@bQ _ _ o.dec x g).getD M) a/\aO P cf E.fl (.lookup kt z m k ok) st.tmps st.heap=some (if ok then .tup [a,.lit<|.bool (@bQ _ _ o.dec x g).isSome] else a,st.heap):=by
      have q:kQ P kt (uE o.k g) (gB w x rows)=_:=aAL A O.len g;have u:∀e,aQ P (Instr.checkKey e 10000 kt<|uE o.k g)=some ():=λe=>@Q3.chk _ o.dec _ _ _ A.2 e g;rcases @G6 _ _ o.dec _ g x with⟨j,F⟩ | ⟨i,v,j,F,I⟩
      .refine⟨aH st.tmps z,by rw[j];exact V,?_⟩;rw[F] at q;rcases c with⟨c,B⟩ | c | ⟨id,c,_,s,_⟩
       .subst B;have J:kQ P kt (uE o.k g) []=some none:=q;simp only[aO,f,c,u,J,j];cases ok<;>rfl
       .simp only[aO,f,c,u,q,j];cases ok<;>rfl
       .simp only[aO,f,c,s,u,q,j];cases ok<;>rfl
      .let⟨row,Z,X⟩:=O.get I;refine⟨vE (ag w) row,by rw[j];exact aCS X,?_⟩;rw[F] at q;have he:=aH6 I Z;rcases c with⟨c,B⟩ | c | ⟨id,c,_,s,_⟩
       .subst B;simp at I
       .simp only[aO,f,c,u,q,he,j];cases ok<;>rfl
       .simp only[aO,f,c,s,u,q,he,j];cases ok<;>rfl
     let⟨a,R,he⟩:=G;split at h
     .let⟨b,qb,h⟩:=KL h<|Qh.l (H:=S.hp) _;let⟨Q,D,h⟩:=KL h R;exact dE.same t (by rw[he];rfl) (Qh.mkT (cs:=[Q,b]) (aw:=[a,_]) ⟨D,qb,trivial⟩) h
     .let⟨Q,D,h⟩:=KL h R;exact dE.same t (by rw[he];rfl) D h
    .cases h
   .cases h
  .cases h
 .cases h
theorem aKJ[aF]{kt:TypeId}{m k v:bA}(hE:Q6 P T E)(x:Qt N S st)(h:cM E n d (.mapUpd kt m k v) S K=some r): dE P cf E.fl N (.mapUpd kt m k v) st K r:=by
 simp only[cM] at h;split at h
 .rename_i b Q;have B:=hE.km kt b Q;split at h
  .rename_i c J;have y:=aKS B.1 J<|x.get k;split at h
   .rename_i id hm;have X:=x.get m;rw[hm] at X;have R:=X.mp1;split at h
    .cases h
    .rename_i j;have j:=Zj j;split at h
     .rename_i p F;let⟨C,q⟩:=p;let⟨rows,w,u⟩:=aHh x.hp (Qh.mp (H:=S.hp) id) F;split at h
      .rename_i D hv;let⟨row,U,e2⟩:=aQd hv<|x.get v;rcases u with⟨u,_⟩ | u | ⟨a2,u,_,z,a1⟩
       .cases u
       .cases u
       cases u;have A:kQ P kt (uE b.k c) (gB C q rows)=_:=aAL B w.len c;have W:aQ P (Instr.checkKey false 10000 kt<|uE b.k c)=some ():=@Q3.chk _ b.dec _ _ _ B.2 false c;have t:Instr.sameBits 10000 (uE b.k c) (uE b.k c)=true:=@Q3.same _ b.dec _ _ _ B.2 c;have G:∀o:pK,(∀(k:Nat) (l:List<|den k),S.hp[id]?≠some (.lst k l))->HM S.hp (S.hp.set id o):=λo hn=>HM.set λk l e=>absurd e<|hn k l;have L:∀(k:Nat) (l:List<|den k),S.hp[id]?≠some (.lst k l):=by
        intro k l e;simp only[aKI,e] at F;cases F
       have f:∀a,aO P cf E.fl (.mapUpd kt m k v) st.tmps st.heap=some (.lit bM,st.heap.set id<|.mp<|gB C (@dX _ _ b.dec q c D) a)->Qm C (@dX _ _ b.dec q c D) a->dE P cf E.fl N (.mapUpd kt m k v) st K r:=
        λa he M=>dE.set (o:=.map b.k C<|@dX _ _ b.dec q c D) x he (G _ L) ⟨a,rfl,M⟩ (Qh.l _) h
       have g:=@aDD _ _ b.dec _ c D q;rcases @G6 _ _ b.dec _ c q with⟨g1,O⟩ | ⟨i,v0,g1,O,Y⟩
       .rw[O] at A g;rw[g] at f;refine f (rows++[row]) ?_<|w.app ⟨e2,trivial⟩;simp only[aO,y,R,j,Zz,z,W,A,U];congr 4;unfold gB;rw[YJ,YJ,List.zip_append<|by simp[w.len]];rfl
       .rw[O] at A g;rw[g] at f;let⟨V,Z,h2⟩:=w.get Y;have he:=aH6 Y Z;refine f (rows.set i row) ?_<|bV.set (l:=q) (m:=rows) w i e2;simp only[aO,y,R,j,Zz,z,W,A,he,t,U];congr 4;unfold gB;rw[Xz,Xz];exact aG1 _ _ _ _ _
      .cases h
     .cases h
   .cases h
  .cases h
 .cases h
end
section
variable [dR]{R:Type}{H H1:TH}{A:aU}{N:Nat}{S:TS}{st:St}{P:Program}{T:List cQ}{cf:CF}{op:Ju}{K:TV->TS->Option R}{r:R}{E:XE}{n:Nat}{d:Option Nat}
theorem aBo{v:TV}{a:AV}{s:ByteArray}(h:aIb v=some s)(q:Qh H v a): a=sv s:=by
 unfold aIb at h;split at h
 .split at h
  .cases h;exact q.inL
  .cases h
 .cases h
theorem aO2[aF]{x:Option bA}{b a:Int}(d:Qt N S st)(h:OE S.tm x b=some a)(c:0<=a): (x=none/\a=b)\/(∃y,x=some y/\gY (aH st.tmps y)=some a.toNat):=by
 unfold OE at h;split at h
 .cases h;exact .inl ⟨rfl,rfl⟩
 .rename_i y;have:=Ae h<|d.get y;exact .inr ⟨y,rfl,by rw[this];simp[gY,c]⟩
theorem mU[aF]{x:Option bA}{b a:Int}(d:Qt N S st)(h:OE S.tm x b=some a)(f:0<=a): ∃o,eC st.tmps x=some o/\∀D:Nat,b=(D:Int)->o.getD D=a.toNat:=by
 rcases aO2 d h f with⟨rfl,rfl⟩ | ⟨y,rfl,e⟩
 .exact⟨none,rfl,λD c=>by simp[c]⟩
 .exact⟨some a.toNat,by simp only[eC,e],λD _=>rfl⟩
theorem aKL[aF]{t:TypeId}{x:bA}(c:Q6 P T E)(a:Qt N S st)(h:cM E n d (.lenStr t x) S K=some r): dE P cf E.fl N (.lenStr t x) st K r:=by
 simp only[cM] at h;split at h
 .rename_i b;split at h
  .rename_i s f;have e:=aBo f<|a.get x;refine dE.same a ?_ (Qh.l _) h;simp only[aO,e,(c.st t b).2 s]
  .cases h
 .cases h
theorem aJ3[aF]{t:TypeId}{x i:bA}(g:Q6 P T E)(a:Qt N S st)(h:cM E n d (.strIdx t x i) S K=some r): dE P cf E.fl N (.strIdx t x i) st K r:=by
 simp only[cM] at h;split at h
 .rename_i c;split at h
  .rename_i s k;have e:=aBo k<|a.get x;split at h
   .rename_i j f;have e2:=Ae f<|a.get i;let⟨v,b,h⟩:=bD h;have:=aIc (cf:=cf) (fl:=E.fl) (H:=st.heap) (g.st t c).1 b;refine dE.same a ?_ (Qh.l _) h;simp only[aO,e,e2];exact this
   .cases h
  .cases h
 .cases h
theorem aEZ[aF]{t:TypeId}{x:bA}{j i:Option bA}(f:Qt N S st)(h:cM E n d (.strSlice t x j i) S K=some r): dE P cf E.fl N (.strSlice t x j i) st K r:=by
 simp only[cM] at h;split at h
 .rename_i s w;have e:=aBo w<|f.get x;split at h
  .rename_i a k;split at h
   .rename_i b m;let⟨v,c,h⟩:=bD h;unfold aTO at c;split at c
    .rename_i g;cases c;let⟨z,q,u⟩:=mU f k g.1;let⟨y,p,o⟩:=mU f m<|by omega
     refine dE.same f ?_ (Qh.l _) h;simp only[aO,e,q,p];rw[u 0 rfl,o s.size rfl,Zu ⟨by omega,g.2.2⟩]
    .cases c
   .cases h
  .cases h
 .cases h
theorem aFo[aF]{x:bA}(a:Qt N S st)(h:cM E n d (.rangeStr x) S K=some r): dE P cf E.fl N (.rangeStr x) st K r:=by
 simp only[cM] at h;split at h
 .rename_i s c;have e:=aBo c<|a.get x;refine dE.add (v:=.it st.heap.length) (o:=.it s 0) (b:=.raw<|.stringIter s 0) a (by simp only[aO,e]) rfl (by rw[a.hp.ln];exact .it _) h
 .cases h
theorem aIy[aF]{x:bA}(i:Qt N S st)(h:cM E n d (.nextStr x) S K=some r): dE P cf E.fl N (.nextStr x) st K r:=by
 have q:=i.get x;simp only[cM] at h;split at h
 .rename_i id t;rw[t] at q;have e:aH st.tmps x=.it id:=by
   generalize aH st.tmps x=a at q;cases q with
   | p _ _ q=>cases q
   | it=>rfl
  split at h
  .cases h
  .rename_i c;have c:=Zj c;split at h
   .rename_i o j;split at h
    .rename_i s p;obtain⟨b,m,rfl⟩:=i.hp.get j;rcases N2 h with⟨f,h⟩ | ⟨f,h⟩
     .have f:=Zl f;refine dE.set (o:=.it s<|p+(Utf8.decode s p).2) (b:=.raw<|.stringIter s<|p+(Utf8.decode s p).2) i ?_ (HM.set λk l e=>by rw[j] at e;cases e) rfl (Qh.mkT (cs:=[_,_,_]) (aw:=[_,_,_]) ⟨Qh.l _,Qh.l _,Qh.l _,trivial⟩) h;simp only[aO,e,c,Zz,m,f]
     .have f:=Zp f;refine dE.same i ?_ (Qh.mkT (cs:=[_]) (aw:=[_]) ⟨Qh.l _,trivial⟩) h;simp only[aO,e,c,Zz,m,f,Z9]
    .cases h
   .cases h
 .cases h
theorem aRj[aF]{s t:TypeId}{x:bA}(e:Q6 P T E)(b:Qt N S st)(h:cM E n d (.conv s t x) S K=some r): dE P cf E.fl N (.conv s t x) st K r:=by
 have q:=b.get x;simp only[cM] at h;split at h
 .rename_i k' c;split at h
  .rename_i u f;rw[f] at q;split at h
   .have a:=e.cv s t k' c;unfold aJi at a;refine dE.same b ?_ (Qh.l _) h;simp only[aO,q.inL,a]
   .cases h
  .cases h
 .cases h
theorem aN6[aF](a:Qt N S st)(h:cM E n d .mkMap S K=some r): dE P cf E.fl N .mkMap st K r:=by
 simp only[cM] at h;split at h
 .split at h
  .rename_i kk c _;exact dE.add (v:=.mp st.heap.length) (o:=.map kk c []) (b:=.mp []) a rfl ⟨[],rfl,trivial⟩ (by rw[a.hp.ln];exact .mp _) h
  .cases h
 .cases h
theorem aQJ[aF]{x:bA}(k:Qt N S st)(h:cM E n d (.lenM x) S K=some r): dE P cf E.fl N (.lenM x) st K r:=by
 have q:=k.get x;simp only[cM] at h;split at h
 .rename_i m c;refine dE.same k ?_ (Qh.l _) h;generalize bZ S.tm x=v at c q;generalize j:aH st.tmps x=a at q;have s:∀{kk p:Nat} {m:List<|den kk×den p} {rows:List<|List AV},rows.length=m.length->(gB p m rows).length=m.length:=λh=>by simp[gB,h]
  unfold aPc at c;split at c
  .cases c;let⟨rows,t,g⟩:=(q.pu trivial).inM;rcases t with⟨rfl,rfl⟩ | rfl
   .simp only[aO,j];rfl
   .simp only[aO,j,s g.len]
  .split at c
   .rename_i o u;split at c
    .cases c;obtain⟨b,f,rows,rfl,g⟩:=k.hp.get u;have e:=q.mp1;subst e;simp only[aO,j,f,s g.len]
    .cases c
   .cases c
  .cases c
 .cases h
theorem Df[aF]{x:Option bA}(a:Qt N S st)(h:KH S.tm x=true): eC st.tmps x=some none\/eC st.tmps x=some (some 0):=by
 unfold KH at h;split at h
 .exact .inl rfl
 .rename_i y;split at h
  .rename_i m b;split at h
   .split at h
    .right;simp only[eC,Ae b<|a.get y];rfl
    .cases h
   .cases h
  .cases h
theorem aOn[aF]{s:Nat}{x:bA}{Z U:Option bA}(c:Qt N S st)(h:aRh s S.tm S.hp Z U (bZ S.tm x) (λv=>K v S)=some r): dE P cf E.fl N (.slice s x Z U none) st K r:=by
 have q:=c.get x;have u:eC st.tmps none=some none:=rfl;have hd:∀{k:Nat} {l:List<|den k} {es:List<|List AV},Ql k l es->(cds k).length=s->mY s es=true:=by
  intro k l es h e;cases es with
  | nil=>rfl
  | cons a es=>
   cases l with
   | nil=>exact h.elim
   | cons y l=>simp[mY,h.1.len,uX,e]
 have g:∀{k:Nat} {l I:List<|den k} {es:List<|List AV} {a b:Int},Ql k l es->cut l a b=some I->0<=a/\0<=b/\a.toNat<=b.toNat/\b.toNat<=es.length/\Ql k I ((es.take b.toNat).drop a.toNat):=by
  intro k l I es a b hq J;unfold cut at J;split at J
  .rename_i n;cases J;exact⟨n.1,by omega,by omega,by rw[hq.len];omega,(hq.take _).drop _⟩
  .cases J
 unfold aRh at h;split at h
 .rename_i k l H;rw[H] at q;split at h
  .rename_i e;have e:=Zc e;split at h
   .rename_i a Q;split at h
    .rename_i b n;let⟨I,L,h⟩:=bD h;let⟨es,Y,t⟩:=(q.pu trivial).inS;let⟨W,c2,V,M,F⟩:=g t L;let⟨o1,A,C⟩:=mU c Q W;let⟨o2,B,D⟩:=mU c n c2;rcases Y with⟨d,rfl⟩ | ⟨f,d⟩
     .have X:l=[]:=ZK.1 t.len.symm;subst X;have e3:=C 0 rfl;have e4:=D 0 rfl;have i:b.toNat=0:=by simpa using M
      have j:a.toNat=0:=by omega
      have e2:I=[]:=by
       rw[j,i] at F;exact ZK.1<|by have:=F.len;simpa using this.symm
      subst e2;refine dE.same c ?_ (.p _ _<|Qp.mkS (es:=[]) (.inl ⟨rfl,rfl⟩)<|show Ql k [] [] from trivial) h;simp only[aO,d,A,B];simp[bO,gP,u,e3,e4,j,i]
     .refine dE.same (v:=.sl (f&&b.toNat==es.length)<|(es.take b.toNat).drop a.toNat) c ?_ (.p _ _<|Qp.mkS (.inr ⟨_,rfl⟩) F) h;simp only[aO,d,A,B,u,gP];rw[D es.length<|by rw[t.len],C 0 rfl,Zu ⟨V,M,hd t e⟩]
    .cases h
   .cases h
  .cases h
 .rename_i k l H;rw[H] at q;split at h
  .rename_i e;have e:=Zc e;split at h
   .rename_i a Q;split at h
    .rename_i b n;let⟨I,L,h⟩:=bD h;let⟨es,Y,t⟩:=(q.pu trivial).inV;let⟨W,c2,V,M,F⟩:=g t L;let⟨o1,A,C⟩:=mU c Q W;let⟨o2,B,D⟩:=mU c n c2;rcases Y with⟨d,rfl⟩ | ⟨f,d⟩ | d
     .have X:l=[]:=ZK.1 t.len.symm;subst X;have e3:=C 0 rfl;have e4:=D 0 rfl;have i:b.toNat=0:=by simpa using M
      have j:a.toNat=0:=by omega
      have e2:I=[]:=by
       rw[j,i] at F;exact ZK.1<|by have:=F.len;simpa using this.symm
      subst e2;refine dE.same c ?_ (.p _ _<|Qp.mkV (es:=[]) (.inl ⟨rfl,rfl⟩)<|show Ql k [] [] from trivial) h;simp only[aO,d,A,B];simp[bO,gP,u,e3,e4,j,i]
     .refine dE.same (v:=.sl (f&&b.toNat==es.length)<|(es.take b.toNat).drop a.toNat) c ?_ (.p _ _<|Qp.mkV (.inr<|.inl ⟨_,rfl⟩) F) h;simp only[aO,d,A,B,u,gP];rw[D es.length<|by rw[t.len],C 0 rfl,Zu ⟨V,M,hd t e⟩]
     .refine dE.same (v:=.vw<|(es.take b.toNat).drop a.toNat) c ?_ (.p _ _<|Qp.mkV (.inr<|.inr rfl) F) h;simp only[aO,d,A,B,u,gP];rw[D es.length<|by rw[t.len],C 0 rfl,Zu ⟨V,M,hd t e⟩]
    .cases h
   .cases h
  .cases h
 .rename_i id m H;rw[H] at q;split at h
  .rename_i o ho;split at h
   .rename_i k l;split at h
    .rename_i hk;simp only[Zd] at hk;have e:=Zc hk.1;have e0:0<s:=by simpa [YC] using hk.2
     have d:=q.mw ho;let⟨es,k1,k2⟩:=c.hp.lst ho;rw[e] at k1;split at h
     .rename_i a Q;have go:∀{b:Int},OE S.tm U (((Fo l m).2:Nat):Int)=some b->bnd (sub l (Fo l m) a b) (λw=>K (.ms id<|some w) S)=some r->dE P cf E.fl N (.slice s x Z U none) st K r:=by
       intro b n h;let⟨w,T,h⟩:=bD h;unfold sub at T;split at T
       .rename_i J;cases T;let⟨o1,A,C⟩:=mU c Q J.1;let⟨o2,B,D⟩:=mU c n<|by omega
        refine dE.same c ?_ (.msn id _ k l ho) h;simp only[aO,d,A,B,u,gP,k1];rw[D _ rfl,C 0 rfl];by_cases R:b.toNat<=(Fo l m).2
        .rw[Zu ⟨by omega,R,trivial⟩]
        .rw[ZF λh=>R h.2.1,Zu ⟨by omega,J.2.2,k2.len,e0,trivial⟩]
       .cases T
      split at h
      .split at h
       .rename_i b n;exact go n h
       .cases h
      .split at h
       .rename_i b n;exact go n h
       .cases h
     .cases h
    .cases h
   .cases h
  .cases h
 .rename_i b H;rw[H] at q;split at h
  .rename_i G;simp only[Zd] at G;have q0:=q;cases (q.pu trivial) with
   | emp _ _ z=>
    rcases Df c G.1 with j | j<;>rcases Df c G.2 with i | i<;>rcases z with z | z | ⟨n,z⟩ <;>
     first
     | (refine dE.same (v:=.lit bO) c ?_ (by rw[<-z];exact q0) h;simp only[aO,z,j,i,u,bO,gP];simp;done)
     | (refine dE.same (v:=.sl true []) c ?_ (by rw[<-z];exact q0) h;simp only[aO,z,j,i,u,gP];simp[mY];done)
     | (refine dE.same (v:=.sl false []) c ?_ (by rw[<-z];exact q0) h;simp only[aO,z,j,i,u,gP];simp[mY];done)
  .cases h
 .split at h
  .split at h
   .split at h
    .split at h
     .split at h
      .rename_i G;have q:Qh S.hp (.lit<|.slice none 0 0)<|aH st.tmps x:=by rw[<-‹bZ S.tm x=TV.lit (Value.slice none 0 0)›];exact q
       simp only[Zd] at G;have d:aH st.tmps x=.lit bO:=q.inL;rcases Df c G.1 with j | j<;>rcases Df c G.2 with i | i <;>
        (refine dE.same (v:=.lit bO) c ?_ (by rw[<-d];exact q) h;simp only[aO,d,j,i,u,bO,gP];simp)
      .cases h
     .cases h
    .cases h
   .cases h
  .cases h
 .cases h
theorem aML[aF]{s:Nat}{x:bA}{G L mx:Option bA}(g:Qt N S st)(h:cM E n d (.slice s x G L mx) S K=some r): dE P cf E.fl N (.slice s x G L mx) st K r:=by
 simp only[cM] at h;split at h
 .exact aOn g h
 .rename_i m;split at h
  .cases h
  .rename_i y;have q:=g.get x;split at h
   .rename_i id w A;rw[A] at q;split at h
    .rename_i o T;split at h
     .rename_i k l;split at h
      .rename_i a U;split at h
       .rename_i b O;split at h
        .rename_i c V;let⟨_,R,h⟩:=bD h;have B:=Zl<|Ag R;let⟨W,H,I⟩:=mU g U B.1;have C:eC st.tmps (some y)=some (some b.toNat):=by simp only[eC,Ae O<|g.get y];simp[gY,show 0<=b by omega]
         have e2:eC st.tmps (some m)=some (some c.toNat):=by simp only[eC,Ae V<|g.get m];simp[gY,show 0<=c by omega]
         have t:=q.mw T;by_cases i:a.toNat=b.toNat/\b.toNat=c.toNat
         .refine dE.same (v:=.sl true []) g ?_ (.u _) h;simp only[aO,t,H,C,e2,gP];rw[I 0 rfl,Zu ⟨i.1,i.2,by omega⟩]
         .refine dE.same (v:=.undef) g ?_ (.u _) h;simp only[aO,t,H,C,e2,gP];rw[I 0 rfl,ZF<|by omega,Zu<|by omega]
        .cases h
       .cases h
      .cases h
     .cases h
    .cases h
   .rename_i k l A;rw[A] at q;split at h
    .rename_i i;simp only[Zd] at i;split at h
     .rename_i e;have e:=Zc e;let⟨es,Q,D⟩:=(q.pu trivial).inS;have M:mY s es=true:=by
       cases es with
       | nil=>rfl
       | cons a es=>
        cases l with
        | nil=>exact D.elim
        | cons y l=>simp[mY,D.1.len,uX,e]
      have F:eC st.tmps (some y)=some (some 0):=by
       rcases Df g i.2.1 with h | h
       .simp only[eC] at h;split at h<;>cases h
       .exact h
      have J:eC st.tmps (some m)=some (some 0):=by
       rcases Df g i.2.2 with h | h
       .simp only[eC] at h;split at h<;>cases h
       .exact h
      rcases Q with⟨t,_⟩ | ⟨f,t⟩
      .refine dE.same (v:=.lit bO) g ?_ (.p _ _<|.emp _ _<|.inl rfl) h;rcases Df g i.1 with z | z<;>simp[aO,t,z,F,J,bO,gP]
      .refine dE.same (v:=.sl true []) g ?_ (.p _ _<|.emp _ _<|.inr<|.inl rfl) h;rcases Df g i.1 with z | z<;>simp[aO,t,z,F,J,gP,M]
     .cases h
    .cases h
   .cases h
end
end
theorem aPS{α:Type}{c:α->List AV}{cf:CF}{agg:Bool}{s fl id vc off len:Nat}{caps:List AV}{F:α->α->Option Int}{l t:List α}{H:aU}(p:fl<=id)(b:H[id]?=some (.blk s<|l.map c))(g:l.length<=1000000)(B:off+len<=l.length)(A:∀x y z,F x y=some z->Re cf vc caps agg (Po H id) (UQ H id s<|l.map c) (c x) (c y)=some z)(h:qB F ((l.drop off).take len)=some t):
 vH cf agg s fl [.ms id l.length off len,.fn vc caps] H=some (.tup [],H.set id<|.blk s<|(aV l off t).map c):=by
 have a:((l.drop off).take len).length=len:=by rw[ZH,ZV];omega
 generalize u:(l.drop off).take len=W at h a;unfold qB at h;split at h
 .cases h;have C:len=0:=by simpa using a.symm
  subst C;have E:wL (.ms id l.length off 0)=true:=rfl;have D:aV l off []=l:=by simp[aV]
  rw[D];simp only[vH,E,Za,Zi,We];apply Ym;intro i;by_cases n:i=id
  .subst n;rw[b];rw[Z3 (by
    rcases ZI i H.length with h | h
    .exact h
    .rw[Zy h] at b;cases b)]
  .rw[Zv<|Ne.symm n]
 .rename_i x r;split at h
  .cases h
  rename_i tb o;split at h
  .cases h
  rename_i k;cases h;have v:=aJ0 (e:=c) (f:=Re cf vc caps agg (Po H id)<|UQ H id s<|l.map c) A o;have w:len=r.length+1:=by rw[<-a];rfl
  subst w;have j:((l.map c).drop off).take (r.length+1)=(x::r).map c:=by rw[<-X9,<-X8,u]
  have:=aDa (cf:=cf) (agg:=agg) (off:=off) (m:=r.length) (vc:=vc) (caps:=caps) (tb:=tb) (tot:=l.length) p b (by simp) (by simpa using B) (by simpa using g) (by rw[j];exact v) k;refine this.trans ?_;rw[j];have q:((ixG r.length tb).map<|Hf x (x::r)).length=r.length+1:=by rw[ZO,aBS k]
  congr 3;refine congrArg (dK.blk s) ?_;unfold aV;rw[q,YJ,YJ,X8,X9,Ya,Ye];congr 2;exact ZS λi n=>aAs<|by have:=aFA n;simpa using this
section
open jQ (den cds ag)
theorem aIf{α β:Type}{f:α->β}{F:β->β->Option Int}{z:List α}{e:List β}(h:qB F (z.map f)=some e): ∃g,qB (λa b=>F (f a)<|f b) z=some g/\g.map f=e:=by
 cases z with
 | nil=>cases h;exact⟨[],rfl,rfl⟩
 | cons x r=>
  have m:KJ F (f x::r.map f)=KJ (λa b=>F (f a)<|f b) (x::r):=by
   unfold KJ;rw[show f x::r.map f=(x::r).map f from rfl,Ya];congr 1;apply ZS;intro a _;show DV (((x::r).map f).map _)=_;rw[Ya];rfl
  simp only[ZE,qB,ZO,m] at h;simp only[qB];split at h
  .cases h
  .rename_i tb j;split at h
   .cases h
   .rename_i k;cases h;refine⟨_,rfl,?_⟩;rw[Ya];apply ZS;intro i c;have c:=aFA c;exact (aAs (d:=x) (d':=f x) (l:=x::r)<|by simpa using c).symm
section
variable [dR]{R:Type}{H H1:TH}{A:aU}{N:Nat}{S:TS}{st:St}{P:Program}{T:List cQ}{cf:CF}{op:Ju}{K:TV->TS->Option R}{r:R}{E:XE}{n:Nat}{d:Option Nat}
theorem aHv{id:Nat}: HMk [id] S.hp (Hy id S).hp:=by
 intro j k l a h;simp only[Hy,iK,gR];exact⟨k,l,aDH<|by rw[Zv<|by simpa [Wy] using a];exact h,rfl⟩
theorem MB{id:Nat}(c:Qt N S st)(a:id<S.hp.length)(b:dK): Qt N (Hy id S) ⟨st.tmps,st.heap.set id b⟩:=aDP c rfl (λ_ _ _=>trivial) a
abbrev RR(k:Nat):={p:den k×List AV // Qr (kI k p.1) p.2}
theorem aGA{k:Nat}: ∀{l:List<|den k} {es:List<|List AV},Ql k l es->∃z:List<|RR k,z.map (λp=>p.1.1)=l/\z.map (λp=>p.1.2)=es
 | [],[],_=>⟨[],rfl,rfl⟩
 | x::l,e::es,h=>by
  let⟨z,c,a⟩:=aGA h.2;exact⟨⟨(x,e),h.1⟩::z,by rw[ZE,c],by rw[ZE,a]⟩
theorem aOU{k:Nat}: ∀(z:List<|RR k),Ql k (z.map λp=>p.1.1)<|z.map λp=>p.1.2
 | []=>trivial
 | p::z=>⟨p.2,aOU z⟩
theorem aBt{k:Nat}{x:den k}{e:List AV}(h:Qr (kI k x) e): Qh H (val k x)<|Dd (ag k) e:=by
 have:=aCS (H:=H) h;unfold Dd;unfold vE at this;cases c:ag k with
 | true=>rw[c] at this;exact this
 | false=>
  rw[c] at this;match e,this with
  | [],this=>exact this
  | [a],this=>exact this
  | a::b::r,this=>exact this
theorem aMF{α:Type}{F:α->α->Option Int}{m:Option<|Nat×Nat}{l:List α}{K:List α->Option R}(h:aMG F m l K=some r):
 ∃a,qB F ((l.drop (Fo l m).1).take (Fo l m).2)=some a/\(Fo l m).1+(Fo l m).2<=l.length/\l.length<=1000000/\K (aV l (Fo l m).1 a)=some r/\(aV l (Fo l m).1 a).length=l.length:=by
 cases m with
 | none=>
  let⟨_,c,h⟩:=bD h;let⟨a,b,h⟩:=bD h;have e:a.length=l.length:=aAm b;have e2:aV l 0 a=a:=by simp[aV,e]
  refine⟨a,?_,by simp[Fo],Zl<|Ag c,?_,?_⟩
  .simpa [Fo] using b
  .simp only[Fo,e2];exact h
  .simp only[Fo,e2];exact e
 | some w=>
  let⟨_,c,h⟩:=bD h;let⟨a,b,h⟩:=bD h;have d:=Zl<|Ag c;refine⟨a,b,d.2,d.1,h,zA ?_⟩;have:=aAm b;simp only[win,ZH,ZV] at this;simp only[Fo];omega
theorem aMJ[aF]{vi k id vc off len:Nat}{caps:List AV}{F:den k->den k->Option Int}{l u:List<|den k}{r t:AV}(o:E.fl<=id)(v:aF.prim vi=some (tP (ag k) (cds k).length))(B:Qt N S st)(D:S.hp[id]?=some (.lst k l))(y:l.length<=1000000)(i:off+len<=l.length)(j:r=.ms id l.length off len)(m:t=.fn vc caps)(A:∀(p q:RR k) (es:List<|List AV) (z:Int),F p.1.1 q.1.1=some z->Re (fH P T n) vc caps (ag k) (Po st.heap id) (UQ st.heap id (cds k).length es) p.1.2 q.1.2=some z)(h:qB F ((l.drop off).take len)=some u):
 ∃es',fH P T (n+1) E.fl vi [r,t] st.heap=some (.tup [],st.heap.set id<|.blk (cds k).length es')/\Ql k (aV l off u) es':=by
 let⟨es,x,G⟩:=B.hp.lst D;obtain⟨z,rfl,rfl⟩:=aGA G;rw[<-X9,<-X8] at h;obtain⟨g,C,rfl⟩:=aIf h;subst j;subst m;refine⟨(aV z off g).map λp=>p.1.2,?_,?_⟩
 .rw[fH,v,ZO];exact aPS (agg:=ag k) (c:=λ(p:RR k)=>p.1.2) (F:=λ(a b:RR k)=>F a.1.1 b.1.1) o x (by simpa using y) (by simpa using i) (λp q w i=>A p q _ w i) C
 .have:=aOU<|aV z off g;have e:(aV z off g).map (λp=>p.1.1)=aV (z.map λp=>p.1.1) off (g.map λp=>p.1.1):=by
   unfold aV;rw[YJ,YJ,X8,X9,ZO]
  rw[e] at this;exact this
theorem aOs[aF]{k id vc:Nat}{c:CSp}{p q:RR k}{es:List<|List AV}{z:Int}(m:FOK P T vc c)(o:Qt N S st)(d:id<S.hp.length)(h:aRn n c k (Hy id S).hp p.1.1 q.1.1=some z):
 Re (fH P T n) vc [] (ag k) (Po st.heap id) (UQ st.heap id (cds k).length es) p.1.2 q.1.2=some z:=by
 unfold aRn at h;have l:=MB o d<|.mp [];let⟨s,a,tv,i,f,g⟩:=O1 (H1:=[]) (K:=i64?) (aw:=[Dd (ag k) p.1.2,Dd (ag k) q.1.2].map<|cG<|Po st.heap id) m h λp' r b=>aLS r b ⟨aBt p.2,aBt q.2,trivial⟩ l.hp;refine aRm rfl<|aQo i ?_;exact Ae g f
theorem aOt[aF]{k id vc:Nat}{caps:List TV}{c:List AV}{p q:RR k}{es:List<|List AV}{z:Int}(e:∀sp∈E.il,IOK P T sp)(g:Qt N S st)(f:id<S.hp.length)(l:Qc S.hp caps c)(d:c≠[])(h:aRo E n vc id k caps S p.1.1 q.1.1=some z):
 Re (fH P T n) vc c (ag k) (Po st.heap id) (UQ st.heap id (cds k).length es) p.1.2 q.1.2=some z:=by
 unfold aRo at h;have u:=MB g f<|.blk (cds k).length<|es++[List.replicate (cds k).length .undef];have j:(UQ st.heap id (cds k).length es).length=S.hp.length:=by simp[UQ,g.hp.ln]
 let⟨a,o,tv,w,r,x,m,s⟩:=Vi (N:=0) (S:=⟨[],(Hy id S).hp⟩) (st:=⟨[],UQ st.heap id (cds k).length es⟩) (aw:=Dd (ag k) p.1.2::Dd (ag k) q.1.2::c) (by rw[j];exact Zf _) ⟨rfl,λt v h=>(by cases h),u.hp⟩
  (show Qc (Hy id S).hp (val k p.1.1::val k q.1.1::caps.map (EB [id])) _ from⟨aBt p.2,aBt q.2,l.mapL λ_ _ q=>Ht aHv q⟩) e h
 refine aOr d ⟨o,?_⟩;rw[j,r,Ae s m]
theorem aBN{fl k:Nat}{v:TV}{p:Nat×List (den k)}(h:aKK fl H k v=some p): v=.ms p.1 none/\fl<=p.1/\H[p.1]?=some (.lst k p.2):=by
 unfold aKK at h;split at h
 .split at h
  .cases h
  .split at h
   .cases h
   .rename_i c;split at h
    .rename_i o d;split at h
     .split at h
      .rename_i f a;let⟨e,a⟩:=sQ (F:=λk=>List<|den k) a;subst e;subst a;cases h;exact⟨rfl,Zj c,d⟩
      .cases h
     .cases h
    .cases h
 .cases h
theorem aNy{k id:Nat}{v:TV}{z:den k}{a:AV}(m:Qs H A)(q:Qh H v a)(h:aQ1 H k id v=some z):
 ∃row,(∃id2,id≠id2/\a=.ms id2 1 0 1/\A[id2]?=some (.blk (cds k).length [row]))/\Qr (kI k z) row:=by
 unfold aQ1 at h;split at h
 .split at h
  .rename_i p l;split at h
   .cases h
   .rename_i c;let⟨id2,i⟩:=p;let⟨e,_,g⟩:=aBN l;rw[e] at q;split at h
    .rename_i r d;cases h;have d:i=[z]:=d;subst d;let⟨b,n,f⟩:=m.lst g;obtain⟨row,rfl⟩:∃row,b=[row]:=by
      match b,f with
      | [row],_=>exact⟨row,rfl⟩
     exact⟨row,⟨id2,YF c,q.mw g,n⟩,f.1⟩
    .cases h
  .cases h
 .cases h
theorem aQq[aF]{vi:Nat}{p:PSp}{vs:List TV}{aw:List AV}(G:POK T vi p)(hE:∀vi c,E.cs vi=some c->FOK P T vi c)(a3:∀sp∈E.il,IOK P T sp)(t:Qt N S st)(q:Qc S.hp vs aw)(h:aKd E n p vs S K=some r):
 ∃v L tv D,fH P T (n+1) E.fl vi aw st.heap=some (v,L)/\Qt N D ⟨st.tmps,L⟩/\Qh D.hp tv v/\K tv D=some r:=by
 unfold aKd at h;split at h
 .rename_i k;split at h
  .rename_i x f;obtain⟨b,J,rfl⟩:∃b J,aw=[b,J]:=by
    match aw,q with
    | [b,J],q=>exact⟨b,J,rfl⟩
   split at h
   .rename_i id m
    .split at h
     .cases h
     .rename_i a;have a:=Zj a;split at h
      .rename_i o d;split at h
       .rename_i k' l;split at h
        .rename_i O C;let⟨e,C⟩:=sQ (F:=λk=>List<|den k) C;subst e;subst C;have X:=(Ze.1 d).1;have a2:=q.1.mw d;have Q:∀{F:den k'->den k'->Option Int} {vc:Nat} {caps:List AV},J=.fn vc caps->(∀(p q:RR k') (es:List<|List AV) (z:Int),F p.1.1 q.1.1=some z->Re (fH P T n) vc caps (ag k') (Po st.heap id) (UQ st.heap id (cds k').length es) p.1.2 q.1.2=some z)->
          aMG F m O (λw=>K (.tup [])<|gR S id<|.lst k' w)=some r->
          ∃v L tv D,fH P T (n+1) E.fl vi [b,J] st.heap=some (v,L)/\Qt N D ⟨st.tmps,L⟩/\Qh D.hp tv v/\K tv D=some r:=by
          intro F vc caps u hF h;let⟨w,s,hw,M,h,b2⟩:=aMF h;let⟨es',e1,e2⟩:=aMJ a G t d M hw a2 u hF s;have V:HM S.hp<|S.hp.set id<|.lst k'<|aV O (Fo O m).1 w:=HM.set λk2 l2 e=>by
           rw[d] at e;cases e;exact⟨k',_,rfl,b2⟩
          exact⟨_,_,.tup [],gR S id<|.lst k'<|aV O (Fo O m).1 w,e1,t.hpM V<|t.hp.set V ⟨es',rfl,e2⟩,Qh.mkT (cs:=[]) (aw:=[]) trivial,h⟩
         split at h
         .rename_i vc caps;let⟨b1,u,hq⟩:=q.2.1.inF;split at h
          .split at h
           .rename_i c I;cases b1 with
            | cons=>exact hq.elim
            | nil=>exact Q u (λp q es z R=>aOs (hE _ _ I) t X R) h
           .cases h
          .rename_i c0 r0;refine Q u (λp q es z R=>aOt a3 t X hq (λe=>?_) R) h;subst e;exact hq.elim
         .cases h
        .cases h
       .cases h
      .cases h
   .cases h
  .cases h
 .rename_i k F;let⟨g,hg,G⟩:=G;split at h
  .rename_i x;obtain⟨b,rfl⟩:∃b,aw=[b]:=by
    match aw,q with
    | [b],q=>exact⟨b,rfl⟩
   split at h
   .rename_i p hx;let⟨id,l⟩:=p;obtain⟨rfl,a,d⟩:=aBN hx;let⟨_,M,h⟩:=bD h;let⟨es,g1,A⟩:=t.hp.lst d;let⟨es',Z,k2,k3⟩:=G E.fl st.heap id l es a g1 A<|Zl<|Ag M;have V:HM S.hp<|S.hp.set id<|.lst k<|F l:=HM.set λk2 l2 e=>by rw[d] at e;cases e;exact⟨k,_,rfl,k3⟩
    refine⟨_,_,.tup [],gR S id<|.lst k<|F l,?_,t.hpM V<|t.hp.set V ⟨es',rfl,k2⟩,Qh.mkT (cs:=[]) (aw:=[]) trivial,h⟩;rw[fH,hg,q.1.mw d];exact Z
   .cases h
  .cases h
 .rename_i k;let⟨g,hg,G⟩:=G;split at h
  .rename_i x i y;obtain⟨b,Y,U,rfl⟩:∃b Y U,aw=[b,Y,U]:=by
    match aw,q with
    | [b,Y,U],q=>exact⟨b,Y,U,rfl⟩
   split at h
   .rename_i p hx;let⟨id,l⟩:=p;obtain⟨rfl,a,d⟩:=aBN hx;split at h
    .rename_i j hj;split at h
     .rename_i z R;let⟨l',s,h⟩:=bD h;unfold aLg at s;split at s
      .rename_i I;cases s;let⟨es,g1,A⟩:=t.hp.lst d;let⟨row,hy,B⟩:=aNy t.hp q.2.2.1 R;have Z:=G E.fl st.heap id U j.toNat es row a hy g1 (by rw[B.len,uX]) (by rw[A.len];exact I.2.1) (by rw[A.len];exact I.2.2);refine⟨.ms id (es.length+1) 0<|es.length+1,st.heap.set id<|.blk (cds k).length (es.take j.toNat++row::es.drop j.toNat),.ms id none,iK id<|gR S id<|.lst k (l.take j.toNat++z::l.drop j.toNat),?_,LU t d λH=>⟨_,rfl,(A.take _).app ⟨B,A.drop _⟩⟩,?_,h⟩
       .rw[fH,hg,q.1.mw d,Ae hj q.2.1];have e:((j.toNat:Nat):Int)=j:=X7 I.1;rw[e] at Z;simp only[Fo];have g0:l.length=es.length:=A.len.symm;rw[g0];exact Z
       .have:=Qh.ms (H:=(iK id<|gR S id<|.lst k (l.take j.toNat++z::l.drop j.toNat)).hp) id k (l.take j.toNat++z::l.drop j.toNat) (by simp[iK,gR,Zk,(Ze.1 d).1,Hs]);have M:(l.take j.toNat++z::l.drop j.toNat).length=es.length+1:=by
         have g0:es.length=l.length:=A.len;have c2:j.toNat<=l.length:=I.2.1;simp only[Zh,ZH,Yc,ZV];omega
        rw[M] at this;exact this
      .cases s
     .cases h
    .cases h
   .cases h
  .cases h
 .cases h
end
section
variable [dR]{R:Type}{H H1:TH}{A:aU}{N:Nat}{S:TS}{st:St}{P:Program}{T:List cQ}{cf:CF}{op:Ju}{K:TV->TS->Option R}{r:R}{E:XE}{n:Nat}{d:Option Nat}
theorem aE5[aF]{vi:Nat}{vs:List TV}{aw:List AV}(d:Q6 P T E)(c:Qt N S st)(q:Qc S.hp vs aw)(h:(match Nat.ble E.fl S.hp.length with | true=>Cu n E.fl vi vs S K E.il | false=>none)=some r):
 ∃v b tv a,fH P T n E.fl vi aw st.heap=some (v,b)/\Qt N a ⟨st.tmps,b⟩/\Qh a.hp tv v/\K tv a=some r:=by
 split at h
 .rename_i e;exact Vi (by rw[c.hp.ln];exact Zj e) c q d.il h
 .cases h
theorem aRv[aF]{pu:Bool}{vi:Nat}{f:List bA}(b:Q6 P T E)(a:Qt N S st)(h:cM E n d (.call pu vi f) S K=some r): dE P (fH P T n) E.fl N (.call pu vi f) st K r:=by
 simp only[cM] at h;split at h
 .split at h
  .rename_i c l;let⟨v,tv,j,o,i⟩:=aP1 (b.cs vi c l) a h;exact dE.same a j o i
  .cases h
 .split at h
  .rename_i p g;let⟨m,k,h⟩:=bD h;have e:=aKe k;subst e;exact aQq (b.pr vi p g) b.cs b.il a (J1 a f) h
  .exact aE5 b a (J1 a f) h
theorem aN2{v:TV}{a:AV}(q:Qh H v a): Qh H (aQ5 v)<|LR a:=by
 cases v with
 | agg cs=>
  obtain⟨aw,rfl,d⟩:=q.inA;exact Qh.mkA (d.map λc b q=>by
   cases c with
   | agg cs=>obtain⟨aw,rfl,_⟩:=q.inA;exact q
   | _=>exact aBH q λcs e=>by cases e)
 | undef=>exact Qh.u _
 | _=>
  have:=aBH q (λcs e=>by cases e);cases a with
  | agg=>
   cases q with
   | p _ _ q=>cases q<;>simp_all
  | _=>exact this
theorem aQf{v:TV}{a:AV}(q:Qh H v a)(h:aKY v=true): uB a=false:=by
 cases v with
 | ptr=>rw[q.ptr1];rfl
 | pel=>let⟨_,_,_,_,_,e⟩:=q.pel1;rw[e];rfl
 | ms id m=>
  cases q with
  | p _ _ q=>cases q
  | ms=>rfl
  | msn=>rfl
 | mp=>rw[q.mp1];rfl
 | rs=>rw[q.rs1];rfl
 | rel=>rw[q.rel1];rfl
 | _=>cases h
theorem Pn: ∀{vs:List TV} {aw:List AV},Qc H vs aw->vs.any aKY=true->gK aw=false
 | [],_,_,h=>by cases h
 | v::vs,a::aw,q,h=>by
  simp only[List.any_cons,YU] at h;simp only[gK];rcases h with h | h
  .rw[aQf q.1 h]
  .cases uB a with
   | true=>exact Pn q.2 h
   | false=>rfl
theorem aOx[aF]{pu:Bool}{x:bA}{m:List bA}(z:Q6 P T E)(b:Qt N S st)(h:cM E n d (.callv pu x m) S K=some r): dE P (fH P T n) E.fl N (.callv pu x m) st K r:=by
 have q:=b.get x;simp only[cM] at h;split at h
 .rename_i vi caps G;rw[G] at q;let⟨j,o,y⟩:=q.inF;split at h
  .split at h
   .split at h
    .rename_i c D;cases j with
     | cons=>exact y.elim
     | nil=>
      let⟨v,tv,i,s,t⟩:=aP1 (z.cs vi c D) b h;refine dE.same b ?_ s t;simp only[aO,o,Wo];exact i
    .cases h
   .rename_i c0 I;unfold aP0 at h;split at h
    .rename_i A;have w:=(J1 b m).app y;let⟨a,C,tv,B,i,s,t,g⟩:=Vi (aw:=(m.map (aH st.tmps)++j).map LR) (by rw[b.hp.ln];exact Zf _) b (w.map λ_ _ q=>aN2 q) z.il h;split at g
     .rename_i u;split at g
      .cases g
      .rename_i F;have e:=t.inL;subst e;refine dE.same (v:=.lit u) b ?_ (Qh.l _) g;simp only[aO,o,Ff,Pn w A];rw[b.hp.ln,i];cases u<;>first | rfl | exact absurd rfl (F _ _ _)
     .rename_i k l;let⟨es,H,e2⟩:=(t.pu trivial).inS;refine dE.same (v:=.sl false es) b ?_ (.p _ _<|Qp.mkS (.inr ⟨_,rfl⟩) e2) g;simp only[aO,o,Ff,Pn w A];rw[b.hp.ln,i];rcases H with⟨rfl,rfl⟩ | ⟨f,rfl⟩<;>rfl
     .cases g
    .cases h
  .let⟨v,C,tv,B,i,s⟩:=aE5 z b ((J1 b m).app y) h;exact⟨v,C,tv,B,by simp only[aO,o];exact i,s⟩
 .cases h
theorem aKZ{v:TV}(h:aFB v=true): v=.lit bO:=by
 unfold aFB at h;repeat' split at h
 all_goals first | (cases h;done) | rfl
theorem aRw[aF]{x:bA}{a:List<|Nat×Nat}(s:Qt N S st)(h:cM E n d (.boxC x a) S K=some r): dE P cf E.fl N (.boxC x a) st K r:=by
 simp only[cM] at h;split at h
 .rename_i d';split at h
  .rename_i t;split at h
   rotate_left
   .cases h
   rename_i z Z;split at h
   rotate_left
   .cases h
   rename_i nz;let⟨zw,zf,ze⟩:=Jl Z<|s.get x;have nw:aK8 zw a=true:=by
    refine Yl.2 λc hc=>?_;have w:=Yl.1 nz c hc;split at w
    .rename_i v hv;let⟨y,hy,O⟩:=ze.get hv;rw[aKZ w] at O;rw[hy,O.inL];rfl
    .cases w
   have p:∀{a:List<|Nat×Nat},aF2 E d' a=true->∀c∈a,(cds<|kdL E d' c.1).length=c.2:=by
    intro a;induction a with
    | nil=>intro _ c x;cases x
    | cons c a j=>
     intro h c' m;simp only[aF2] at h;split at h
     .rename_i e;rcases ZN.1 m with rfl | m
      .exact Zc e
      .exact j h c' m
     .cases h
   let H1:TH:=S.hp++a.map λc=>pK.lst (kdL E d' c.1) [];let g:TH:=H1++[.box<|uS S.hp.length z a];have o:HM S.hp g:=λi k l u=>⟨k,l,by
    have:=(Ze.1 u).1;rw[Zo<|by simp[H1];omega,Zo this];exact u,rfl⟩
   have B:bV (Qo g) (a.map λc=>pK.lst (kdL E d' c.1) [])<|a.map λc=>dK.blk c.2 []:=by
    have:=p t;clear h t nz nw;generalize g=g at *;clear o;induction a with
    | nil=>trivial
    | cons c a j=>exact⟨⟨[],by rw[this c ZM],trivial⟩,j λc' h=>this c'<|ZQ _ h⟩
   have A:∀(b f:List<|Nat×Nat) (cs:List TV) (aw:List AV),a=b++f->Qc g cs aw->Qc g (uS (S.hp.length+b.length) cs f) (eO (S.hp.length+b.length) aw f):=by
    intro b f;induction f generalizing b with
    | nil=>intro cs aw _ q;exact q
    | cons c f j=>
     intro cs aw e q;have w:Qh g (.ms (S.hp.length+b.length) none)<|.ms (S.hp.length+b.length) 0 0 0:=by
      refine .ms _ (kdL E d' c.1) [] ?_;rw[Zo<|by simp[H1,e],ZX<|ZY _ _,YZ,e];simp
     have:=j (b++[c]) (cs.set c.1<|.ms (S.hp.length+b.length) none) (aw.set c.1<|.ms (S.hp.length+b.length) 0 0 0) (by rw[e];simp)<|q.set c.1 w;rw[Zh,Yd] at this;exact this
   have v:=A [] a z zw rfl<|ze.imp λ_ _ h=>h.mono o;have C:(uS S.hp.length z a).length=z.length:=by
    have:∀(a:List<|Nat×Nat) (n:Nat) (cs:List TV),(uS n cs a).length=cs.length:=by
     intro a;induction a with
     | nil=>intro n cs;rfl
     | cons c a j=>intro n cs;simp[uS,j]
    exact this _ _ _
   have e2:st.heap.length=S.hp.length:=s.hp.ln;refine⟨.ptr (st.heap.length+a.length) 1 0 0,_,.ptr (S.hp.length+a.length) 0,⟨S.tm,g⟩,by simp only[aO,zf,nw];rfl,s.hpM o ?_,by rw[e2];exact .ptr _ _,h⟩;refine bV.app (bV.app (s.hp.imp λ_ _ h=>h.mono o) B) ⟨⟨eO st.heap.length zw a,by rw[C,ze.len],by rw[e2];exact v⟩,trivial⟩
  .cases h
 .cases h
theorem aLZ[aF]{z:List Value}{a:List<|Nat×Nat}(s:Qt N S st)(h:cM E n d (.allocC z a) S K=some r): dE P cf E.fl N (.allocC z a) st K r:=by
 simp only[cM] at h;split at h
 .rename_i d';split at h
  .rename_i t;have p:∀{a:List<|Nat×Nat},aF2 E d' a=true->∀c∈a,(cds<|kdL E d' c.1).length=c.2:=by
    intro a;induction a with
    | nil=>intro _ c x;cases x
    | cons c a j=>
     intro h c' m;simp only[aF2] at h;split at h
     .rename_i e;rcases ZN.1 m with rfl | m
      .exact Zc e
      .exact j h c' m
     .cases h
   let H1:TH:=S.hp++a.map λc=>pK.lst (kdL E d' c.1) [];let g:TH:=H1++[.box<|uS S.hp.length (z.map .lit) a];have o:HM S.hp g:=λi k l u=>⟨k,l,by
    have:=(Ze.1 u).1;rw[Zo<|by simp[H1];omega,Zo this];exact u,rfl⟩
   have B:bV (Qo g) (a.map λc=>pK.lst (kdL E d' c.1) [])<|a.map λc=>dK.blk c.2 []:=by
    have:=p t;clear h t;generalize g=g at *;clear o;induction a with
    | nil=>trivial
    | cons c a j=>exact⟨⟨[],by rw[this c ZM],trivial⟩,j λc' h=>this c'<|ZQ _ h⟩
   have A:∀(b f:List<|Nat×Nat) (cs:List TV) (aw:List AV),a=b++f->Qc g cs aw->Qc g (uS (S.hp.length+b.length) cs f) (eO (S.hp.length+b.length) aw f):=by
    intro b f;induction f generalizing b with
    | nil=>intro cs aw _ q;exact q
    | cons c f j=>
     intro cs aw e q;have w:Qh g (.ms (S.hp.length+b.length) none)<|.ms (S.hp.length+b.length) 0 0 0:=by
      refine .ms _ (kdL E d' c.1) [] ?_;rw[Zo<|by simp[H1,e],ZX<|ZY _ _,YZ,e];simp
     have:=j (b++[c]) (cs.set c.1<|.ms (S.hp.length+b.length) none) (aw.set c.1<|.ms (S.hp.length+b.length) 0 0 0) (by rw[e];simp)<|q.set c.1 w;rw[Zh,Yd] at this;exact this
   have v:=A [] a (z.map .lit) (z.map .lit) rfl<|Qc.lits z;have C:(uS S.hp.length (z.map .lit) a).length=z.length:=by
    have:∀(a:List<|Nat×Nat) (n:Nat) (cs:List TV),(uS n cs a).length=cs.length:=by
     intro a;induction a with
     | nil=>intro n cs;rfl
     | cons c a j=>intro n cs;simp[uS,j]
    rw[this];simp
   have e2:st.heap.length=S.hp.length:=s.hp.ln;refine⟨.ptr (st.heap.length+a.length) 1 0 0,_,.ptr (S.hp.length+a.length) 0,⟨S.tm,g⟩,rfl,s.hpM o ?_,by rw[e2];exact .ptr _ _,h⟩;refine bV.app (bV.app (s.hp.imp λ_ _ h=>h.mono o) B) ⟨⟨eO st.heap.length (z.map .lit) a,by rw[C],by rw[e2];exact v⟩,trivial⟩
  .cases h
 .cases h
theorem a9{α:Type}{s:Nat}: ∀(n:Nat) {l:List α},l.length=n*s->(sF s n l).flatten=l/\(sF s n l).length=n/\∀e∈sF s n l,e.length=s
 | 0,l,h=>by
  rw[YQ] at h;have:=ZK.1 h;subst this;exact⟨rfl,rfl,λe h=>by cases h⟩
 | n+1,l,h=>by
  rw[Xx] at h;let⟨a,b,c⟩:=a9 (s:=s) n (l:=l.drop s) (by rw[ZV];omega);refine⟨by simp only[sF,Yt,a,YT],by simp[sF,b],λe he=>?_⟩;simp only[sF] at he;rcases ZN.1 he with rfl | he
  .rw[ZH];omega
  .exact c e he
theorem aIl{k:Nat}: ∀{cs:List<|List TV} {l:List<|den k} {es:List<|List AV},QA [] k cs=some l->bV (Qc H) cs es->Ql k l es:=aB4
theorem aNU[aF]{agg:Bool}{s m:Nat}{x i:bA}(g:Qt N S st)(h:cM E n d (.index agg s m x i) S K=some r): dE P cf E.fl N (.index agg s m x i) st K r:=by
 have q:=g.get x;simp only[cM] at h;split at h
 .rename_i cs I;rw[I] at q;let⟨aw,G,y⟩:=q.inA;split at h
  .cases h
  .rename_i f;have f:=Zc f;split at h
   .cases h
   .rename_i j D;split at h
    .cases h
    .split at h
     .split at h
      .rename_i H;split at h
       .rename_i a;have a:H<m:=by simpa [YC] using a
        let⟨U,tv,v,b,T,M⟩:=G1 h y;have z:gY (aH st.tmps i)=some H:=vN D (g.get i)<|Wc _;refine dE.same g ?_ T M;simp only[aO,z,a,Zz,G];rw[Zu U];cases agg with
        | true=>simp only[Zz,Za] at b |-;rw[b]
        | false=>
         simp only[Zn,Z9] at b |-;split at b
         .rename_i V;rw[V];cases b;rfl
         .cases b
       .cases h
      .cases h
     .rename_i k _;split at h
      .split at h
       .rename_i F;have F:=Zc F;split at h
        .rename_i l B;let⟨X,C,h⟩:=bD h;let⟨R,L,W⟩:=qS C;have o:aw.length=m*s:=by rw[y.len,f]
         let⟨Z,J,Y⟩:=a9 m o;have t:bV (Qc S.hp) (sF s m cs)<|sF s m aw:=by
          have:∀(m:Nat) (cs:List TV) (aw:List AV),Qc S.hp cs aw->bV (Qc S.hp) (sF s m cs) (sF s m aw):=by
           intro m;induction m with
           | zero=>intro _ _ _;trivial
           | succ m u=>intro cs aw q;exact⟨q.take s,u _ _<|q.drop s⟩
          exact this m cs aw y
         have e:Ql k l<|sF s m aw:=aIl B t;let⟨row,Q,O⟩:=e.get L;refine dE.same (v:=.agg row) g ?_ (Qh.mkA O.c) h;have z:gY (aH st.tmps i)=some j.toNat:=vN D (g.get i) R;have a:j.toNat<m:=by rw[<-J,e.len];exact W
         have A:∀(m:Nat) (aw:List AV) (j:Nat) (row:List AV),aw.length=m*s->(sF s m aw)[j]?=some row->(aw.drop<|j*s).take s=row/\j*s+s<=aw.length:=by
          intro m;induction m with
          | zero=>intro aw j row _ h;simp[sF] at h
          | succ m u=>
           intro aw j row f h;rw[Xx] at f;cases j with
           | zero=>simp only[sF,Zt,Za] at h;rw[YQ];exact⟨h,by omega⟩
           | succ j=>
            simp only[sF,ZL] at h;let⟨p,w⟩:=u (aw.drop s) j row (by rw[ZV];omega) h;rw[XD] at p;rw[ZV] at w;rw[Xx,Wg (j*s) s];exact⟨p,by omega⟩
         let⟨p,w⟩:=A m aw j.toNat row o Q;simp only[aO,z,a,Zz,G];rw[Zu w,p]
        .cases h
       .cases h
      .cases h
 .cases h
theorem aIi{A:aU}{a:AV}{w:Value}(h:dZ A 0 a=.lit w): a=.lit w:=by
 cases a with
 | lit v=>
  have h:uC v=.lit w:=h;unfold uC at h;split at h
  .split at h
   .split at h
    .split at h
     .cases h
     .exact h
    .exact h
   .exact h
  .exact h
 | ms id tot off len=>
  simp only[dZ,gH,YE,Z9,fE,eE,ZG,Zz] at h;split at h<;>cases h
 | mp id=>
  simp only[dZ,gH,YE,Z9,fE,eE,ZG,Zz] at h;split at h<;>cases h
 | ptr=>simp[dZ,gH] at h
 | fn vi caps=>cases caps<;>cases h
 | _=>cases h
theorem aQl{w k k':Nat}{u:TV}{x:den k}(b:cds k=[.sl k'])(d:ag k=false)(h:x8 w H k u=some x): ∃y,rdS w H k' u=some y/\val k x=.sl k' y:=by
 unfold x8 at h;rw[d] at h;have h:kM w H k [u]=some x:=h;unfold kM at h;split at h
 .rename_i p a;cases h;have c:∀(cs:List Cd) (p:VA cs),cs=[.sl k']->rdL w H cs [u]=some p->∃y,rdS w H k' u=some y/\hdT (tB cs p)=.sl k' y:=by
   intro cs p e a;subst e;simp only[rdL] at a;split at a
   .rename_i y f;cases a;exact⟨y,f,rfl⟩
   .cases a
  let⟨y,j,i⟩:=c _ p b a;refine⟨y,j,?_⟩;unfold val kI;rw[d,dR.un_pk];exact i
 .cases h
theorem aKT{s k':Nat}{u:TV}{y:List<|den k'}{p:AV}{x:List TV}{i:aU}{H':TH}(g:(cds k').length=s)(C:Qs H' i)(q:Qh H' u p)(a:VR H' (u::x)=true)(b:rdS 2 H' k' u=some y): ∃rows,VF s i p=some rows/\Ql k' y rows:=by
 cases u with
 | ms id m=>
  simp only[VR] at a;split at a
  .rename_i o h;split at a
   .rename_i G f;have j:Fo f m=(0,f.length):=by
     cases m with
     | none=>rfl
     | some w=>exact Zl a
    have d:win f m=f:=by rw[w4,j];simp
    have b:EM (λk=>List<|den k) (k':=k') f=some y:=by
     simp only[rdS,h,d] at b;exact b
    let⟨e,b⟩:=sQ (F:=λk=>List<|den k) b;subst e;subst b;let⟨es,A,l⟩:=C.lst h;have n:=q.mw h;rw[j] at n;subst n;refine⟨es.map λe=>e.map<|eE (i.set id<|.blk s<|es++[List.replicate s .undef]) 0 fE,?_,(Ho _ 0 _).ls l⟩;have r:Nat.beq y.length y.length=true:=Y5 _;have B:Nat.beq es.length y.length=true:=by rw[l.len];exact r
    have t:Nat.beq s s=true:=Y5 _;have z:Nat.beq 0 0=true:=rfl;simp only[VF,r,z,A,B,g,t,Xr]
   .cases a
  .cases a
 | lit v=>
  simp only[VR] at a;split at a
  .split at a
   .split at a
    .split at a
     .rw[q.inL];cases b;exact⟨[],rfl,trivial⟩
     .cases a
    .cases a
   .cases a
  .cases a
 | _=>cases a
theorem aDJ: ∀{vs:List TV} {aw:List AV} {b:aU},(vs.all λv=>match v with | .lit _=>true | _=>false)=true->Qc H vs (aw.map<|dZ b 0)->aw.all aLa=true/\Qc H vs aw
 | [],[],_,_,_=>⟨rfl,trivial⟩
 | v::vs,a::aw,b,h,q=>by
  simp only[XM,Zd] at h;let⟨d,e⟩:=aDJ h.2 q.2;cases v with
  | lit w=>
   have:=aIi q.1.inL;subst this;exact⟨by simp[aLa,d],Qh.l _,e⟩
  | _=>cases h.1
theorem aPH{k k':Nat}(a:cds k=[.sl k'])(b:ag k=false)(x:den k): ∃y,val k x=.sl k' y:=by
 unfold val;rw[b];unfold kI;generalize dR.un k x=p;revert p;rw[a];exact λp=>⟨p.1,rfl⟩
def kpB(kp:Bool)(kr:List Nat): Bool:=match kp with
 | false=>true
 | true=>match kr with
  | k::_=>match cds k with
   | [c]=>match c with
    | .sl _=>!(ag k)
    | _=>false
   | _=>false
  | []=>false
theorem FOK.of0[aF]{P:Program}{T:List cQ}{vi:Nat}{c:CSp}(h:aUs P T vi c)(b:kpB c.kp c.kr=true): FOK P T vi c:=by
 intro n p r i aw F;let⟨o,d,H,H',I,t,g,a,l⟩:=h n p r i aw F;refine⟨d,H,I,λH1=>(aSC a g t).1,(aSC (H1:=[]) a g t).2,λe=>?_⟩;have l:=l e;rw[e] at b;intro J y s f;clear h e i;revert r a f;generalize c.kr=A at b;intro r a f;cases A with
 | nil=>cases b
 | cons k j=>
  simp only[kpB] at b;split at b
  .rename_i c' q;split at b
   .rename_i k';have b:ag k=false:=by simpa using b
    cases o with
    | nil=>cases l
    | cons u o=>
    match d,g with
    | C::d,g=>
    replace a:Fy 2 H' (.v k::j.map .v) (u::o)=some r:=a;simp only[Fy] at a;split at a
    .rename_i w m;split at a
     .rename_i p' G;cases a;let⟨z,E,D⟩:=aQl q b m;let⟨rows,i,x⟩:=aKT rfl t g.1 l E;have B:Og (.v k::j.map .v) (fT.cs w p')=.sl k' z::Og (j.map .v) p':=by
       simp only[Og,fT.hc,fT.tc];congr 1
      have f:Og (.v k::j.map .v) (fT.cs w p')=.sl J y::s:=f;rw[B] at f;cases f;exact⟨C,d,rows,rfl,i,x⟩
     .cases a
    .cases a
   .cases b
  .cases b
theorem aNN[aF]{s vi k k':Nat}{j:List Nat}{M:List bA}{z:List Nat}{x:fT<|z.map .v}{c:List AV}{p:aU}(Q:Qt N S st)(C:z=k::j)(F:cds k=[.sl k'])(B:(cds k').length=s)(hg:ag k=false)(D:fH P T n 0 vi ((M.map<|aH st.tmps).map<|cG st.heap) []=some (kO c,p))(f:∀H1:TH,Qc H1 (Og (z.map .v) x)<|c.map<|dZ p 0)(O:∀a∈c,∀l,a≠.tup l)(U:aUp p (Og (z.map .v) x) c)(h:(match Og (z.map .v) x with | [v]=>H8 v S K | vs=>H8 (.tup vs) S K)=some r): dE P (fH P T n) E.fl N (.callT s vi M) st K r:=by
 subst C;have f:=f S.hp;have L:Og (.v k::j.map .v) x=val k (fT.hd x)::Og (j.map .v) (fT.tl x):=rfl;let⟨y,Z⟩:=aPH F hg<|fT.hd x;have H:Og (.v k::j.map .v) x=.sl k' y::Og (j.map .v) (fT.tl x):=by rw[L,Z]
 let⟨i,w,rows,e0,G,R⟩:=U k' y _ H;subst e0;rw[B] at G;generalize a2:fT.tl x=p' at H;have f:Qc S.hp (Og (.v k::j.map .v) x)<|(i::w).map<|dZ p 0:=f;have h:(match Og (.v k::j.map .v) x with | [v]=>H8 v S K | vs=>H8 (.tup vs) S K)=some r:=h;rw[H] at f h;revert f h O D;generalize w=c;intro D O f h;have A:∀{tv:TV} {rv:AV} (rest:AV->AV) ,EC s st.heap (some (kO (i::c),p))=some (rest<|.ms st.heap.length rows.length 0 rows.length,st.heap++[.blk s rows])->(∀H1:TH,HM S.hp H1->Qh H1 (.ms S.hp.length none) (.ms st.heap.length rows.length 0 rows.length)->Qh H1 tv (rest<|.ms st.heap.length rows.length 0 rows.length))->K tv (Vl S<|.lst k' y)=some r->dE P (fH P T n) E.fl N (.callT s vi M) st K r:=by
  intro tv rv rest V I h;refine dE.add (o:=.lst k' y) (b:=.blk s rows) Q ?_ ⟨rows,by rw[B],R⟩ (I _ HM.add ?_) h
  .simp only[aO,D];exact V
  .rw[Q.hp.ln,R.len];exact .ms _ k' y<|by simp
 cases g:Og (j.map .v) p' with
 | nil=>
  rw[g] at f h;have e:c=[]:=by
   cases c with
   | nil=>rfl
   | cons=>exact f.2.elim
  subst e;have ha:∀l,i≠.tup l:=O i ZM;refine A (rv:=i) (λa=>a) ?_ (λH1 _ q=>q) h;show EC s st.heap (some (i,p))=_;cases i with
  | tup l=>exact (ha l rfl).elim
  | _=>simp only[EC,G]
 | cons v vs=>
  rw[g] at f h;have h:H8 (.tup (.sl k' y::v::vs)) S K=some r:=h;unfold H8 at h;simp only at h;split at h
  .rename_i u;obtain⟨t,d,rfl⟩:∃t d,c=t::d:=by
    cases c with
    | nil=>exact f.2.elim
    | cons t d=>exact⟨t,d,rfl⟩
   let⟨Y,W⟩:=aDJ (vs:=v::vs) (aw:=t::d) u f.2;refine A (rv:=i) (λa=>.tup (a::t::d)) ?_ (λH1 m q=>Qh.mkT (cs:=.ms S.hp.length none::v::vs) ⟨q,W.imp λ_ _ h=>h.mono m⟩) h;show EC s st.heap (some (.tup (i::t::d),p))=_;simp only[EC,Y,G]
  .cases h
theorem aOy[aF]{s vi:Nat}{l:List bA}(t:Q6 P T E)(i:Qt N S st)(h:cM E n d (.callT s vi l) S K=some r): dE P (fH P T n) E.fl N (.callT s vi l) st K r:=by
 simp only[cM] at h;split at h
 .rename_i c w;have D:=t.cs vi c w;split at h
  .rename_i j;split at h
   .rename_i k F f;split at h
    .rename_i e g;split at h
     .rename_i k';split at h
      .rename_i a;simp only[Zd,YG] at a;have b:=Zc a.1;have y:=a.2;unfold Vg at h;split at h
       .rename_i p u;split at h
        .cases h
        .rename_i B;let⟨x,A,h⟩:=bD h;have C:=aLS (H1:=[]) B u (J1 i l) i.hp;let⟨z,G,o,q,v,m⟩:=D n p x A _ C;exact aNN i f g b y o q v (m j)<|by rw[aGz] at h;exact h
       .cases h
      .cases h
     .cases h
    .cases h
   .cases h
  .cases h
 .cases h
end
section
variable [dR]{R:Type}{H H1:TH}{A:aU}{N:Nat}{S:TS}{st:St}{P:Program}{T:List cQ}{cf:CF}{op:Ju}{K:TV->TS->Option R}{r:R}{E:XE}{n:Nat}{d:Option Nat}
theorem aLL[aF]{vi l s bytes:Nat}{z:List Value}{G:aU}(h:getF T vi=some ⟨l,8,[.tmp 2],aLM s bytes z⟩)(m:0<s):
 fH P T (n+1) G.length vi [.lit bO] G=some (.lit bO,G)/\(∀a,(∃f,a=.sl f [])\/a=.vw []->fH P T (n+1) G.length vi [a] G=some (.sl false [],G)) /\
 ∀a e es,((∃f,a=.sl f (e::es))\/a=.vw (e::es))->fA s (e::es)=true->mT (e::es).length bytes=true->
  fH P T (n+1) G.length vi [a] G=some (.ms G.length (e::es).length 0 (e::es).length,G++[.blk s (e::es)]):=by
 have d:Nat.blt 3 8=true:=rfl;have c:Nat.blt 4 8=true:=rfl;have i:Nat.beq G.length G.length=true:=Y5 _;refine⟨?_,?_,?_⟩
 .rw[K8 _ h];simp[d,c,aLM,eS,Mo,jM,cS,fC,aO,aH,n4,Pp,iY,Qq,aFI,nD,Qy,kO,Vz,bO,bM]
 .intro a j;rw[K8 _ h];have b:cP G.length G s bytes (.sl true []) []=some (.sl true [],G):=by simp[cP,fA,m,mT]
  rcases j with⟨f,rfl⟩ | rfl <;>
   simp[d,c,i,aLM,eS,Mo,jM,cS,fC,aO,aH,n4,Pp,iY,Qq,rd,b,aFI,nD,Qy,kO,aDT,ED,aHn,aL1,bO,bM]
 .intro a e es j p o;rw[K8 _ h];have b:cP G.length G s bytes (.sl true []) (e::es)=some (.ms G.length (e::es).length 0 (e::es).length,G++[.blk s (e::es)]):=by
   have k:fA s ([]:List<|List AV)=true:=rfl;unfold cP;have g:mT (([]:List<|List AV).length+(e::es).length) bytes=true:=by simpa using o
   rw[Zu ⟨p,m,o⟩];simp only[k,g,Y7,Zz];simp
  generalize q:(e::es).length=L at b;rcases j with⟨f,rfl⟩ | rfl <;>
   simp[d,c,aLM,eS,Mo,jM,cS,fC,aO,aH,n4,Pp,iY,Qq,rd,b,aFI,nD,Qy,kO,bO,bM]
end
end
end Go.Proofs.YtmlgedgcbfchjaaGreatDoor.Av
