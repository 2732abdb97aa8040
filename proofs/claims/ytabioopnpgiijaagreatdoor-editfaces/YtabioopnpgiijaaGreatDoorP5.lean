/- A part of the proof of a law. -/
import Derived.Test.YtabioopnpgiijaaGreatDoorP4
set_option maxRecDepth 100000
set_option maxHeartbeats 4000000
set_option linter.all false
namespace Go.Proofs.YtabioopnpgiijaaGreatDoor.Av
open Go
section
open iT (den cds ag)
section
variable [dO]{R:Type}{H H1:TH}{A:aT}{N:Nat}{S:TS}{st:St}{P:Program}{T:List cO}{cf:CF}{op:Gp}{K:TV->TS->Option R}{r:R}{E:XE}{n:Nat}{d:Option Nat}
theorem N1{v:TV}{a:AV}(q:Qh H v a)(G:∀cs,v≠.agg cs): Qh H (aE0 v)<|nrm a:=by
 cases v with
 | lit u=>
  have e:=q.inL;subst e;cases u with
  | slice o l c=>
   cases o with
   | some o=>exact Qh.u _
   | none=>
    cases l with
    | succ l=>exact Qh.u _
    | zero=>
     cases c with
     | succ c=>exact Qh.u _
     | zero=>exact .p _ _<|.emp _ _<|.inr<|.inr ⟨rfl,rfl⟩
  | _=>exact q
 | emp b=>
  cases (q.pu trivial) with
  | emp _ _ h=>rcases h with rfl | rfl | ⟨_,rfl⟩<;>exact .p _ _ (.emp _ _<|.inr<|.inr ⟨rfl,rfl⟩)
 | sl k l=>
  let⟨es,d,g⟩:=(q.pu trivial).inS;rcases d with⟨rfl,rfl⟩ | ⟨f,rfl⟩<;>exact .p _ _ (Qp.mkS (.inr ⟨_,rfl⟩) g)
 | vw k l=>
  let⟨es,d,g⟩:=(q.pu trivial).inV;rcases d with⟨rfl,rfl⟩ | ⟨f,rfl⟩ | rfl
  .exact .p _ _<|Qp.mkV (.inr<|.inl ⟨_,rfl⟩) g
  .exact .p _ _<|Qp.mkV (.inr<|.inl ⟨_,rfl⟩) g
  .exact q
 | undef=>exact Qh.u _
 | agg cs=>exact (G cs rfl).elim
 | rptr cs=>obtain⟨aw,rfl,_⟩:=(q.pu trivial).inR;exact q
 | sptr k x=>obtain⟨aw,rfl,_⟩:=(q.pu trivial).inP;exact q
 | ptr=>have e:=q.ptr1;subst e;exact q
 | pel=>let⟨_,_,_,_,_,e⟩:=q.pel1;subst e;exact q
 | fn vi cs=>obtain⟨aw,rfl,_⟩:=q.inF;exact q
 | tup cs=>obtain⟨aw,rfl,_⟩:=q.inT;exact q
 | rmp=>
  let⟨rows,d,_⟩:=(q.pu trivial).inM;rcases d with⟨rfl,_⟩ | rfl<;>exact q
 | rs=>have e:=q.rs1;subst e;exact q
 | rel=>have e:=q.rel1;subst e;exact q
 | ms id m=>
  cases q with
  | p _ _ q=>cases q
  | ms _ k l h=>exact .ms _ k l h
  | msn _ n k l h=>exact .msn _ n k l h
 | mp=>cases q with
  | p _ _ q=>cases q
  | mp=>exact .mp _
 | it=>cases q with
  | p _ _ q=>cases q
  | it=>exact .it _
theorem aPU[aG]{x:aZ}(a:Qt N S st)(h:cM E n d (.mov x) S K=some r): dC P cf E.fl N (.mov x) st K r:=dC.same a rfl (a.get x) h
theorem aNn[aG]{c x y:aZ}(a:Qt N S st)(h:cM E n d (.pick c x y) S K=some r): dC P cf E.fl N (.pick c x y) st K r:=by
 have q:=a.get c;simp only[cM] at h;split at h
 .rename_i u f;rw[f] at q;have e:=q.inL;split at h
  .rename_i b;cases b with
   | true=>exact dC.same a (by simp only[aL,e,Zz]) (a.get x) h
   | false=>exact dC.same a (by simp only[aL,e];rfl) (a.get y) h
  .cases h
 .cases h
theorem aL7[aG]{z:List Value}(a:Qt N S st)(h:cM E n d (.alloc z) S K=some r): dC P cf E.fl N (.alloc z) st K r:=by
 have c:=a.hp.ln;exact dC.add (v:=.ptr st.heap.length 1 0 0) (o:=.box<|z.map .lit) (b:=.blk z.length [z.map .lit]) a rfl ⟨z.map .lit,by simp,Qc.lits z⟩ (by rw[c];exact .ptr _ _) h
theorem aLt[aG]{s:Nat}(a:Qt N S st)(h:cM E n d (.claim s) S K=some r): dC P cf E.fl N (.claim s) st K r:=by
 have c:=a.hp.ln;simp only[cM] at h;split at h
 .rename_i e;have e:=Zc e;exact dC.add (v:=.ms st.heap.length 0 0 0) (o:=.lst (lO E d) []) (b:=.blk s []) a rfl ⟨[],by rw[e],trivial⟩ (by rw[c];exact .ms _ (lO E d) []<|by simp) h
 .cases h
theorem aQ6[aG]{x:aZ}(c:Qt N S st)(h:cM E n d (.box x) S K=some r): dC P cf E.fl N (.box x) st K r:=by
 have g:=c.hp.ln;simp only[cM] at h;split at h
 .rename_i cs a;let⟨aw,f,e⟩:=Pi a<|c.get x;exact dC.add (v:=.ptr st.heap.length 1 0 0) (o:=.box cs) (b:=.blk aw.length [aw]) c (by simp only[aL,f]) ⟨aw,by rw[e.len],e.imp λ_ _ h=>h.mono HM.add⟩ (by rw[g];exact .ptr _ _) h
 .cases h
theorem aBu[aG](f:Qt N S st): ∀{b:List<|Nat×Nat×aZ} {cs cs':List TV} {aw:List AV},aEN cs (b.map λ(o,s,x)=>(o,s,bV S.tm x))=some cs'->Qc S.hp cs aw->
 ∃a,OA aw (b.map λ(o,s,x)=>(o,s,aH st.tmps x))=some a/\Qc S.hp cs' a
 | [],cs,cs',aw,h,q=>by cases h;exact⟨aw,rfl,q⟩
 | (o,s,x)::b,cs,cs',aw,h,q=>by
  simp only[ZE,aEN] at h;split at h
  .cases h
  .rename_i vs c;let⟨k,j,d⟩:=Pi c<|f.get x;split at h
   .rename_i e;have e:=Zc e;split at h
    .rename_i e2;have e2:=Zj e2;let⟨a,g,i⟩:=aBu f h<|q.spl d;refine⟨a,?_,i⟩;simp only[ZE,OA,j];rw[Zu ⟨by rw[d.len,e],by rw[q.len];exact e2⟩];exact g
    .cases h
   .cases h
theorem aLz[aG]{z:List Value}{c:List<|Nat×Nat×aZ}(b:Qt N S st)(h:cM E n d (.build z c) S K=some r): dC P cf E.fl N (.build z c) st K r:=by
 simp only[cM] at h;split at h
 .rename_i cs a;let⟨aw,e,f⟩:=aBu b a<|Qc.lits z;exact dC.same b (by simp only[aL,e]) (Qh.mkA f) h
 .cases h
theorem aBv[aG]{s:Nat}(f:Qt N S st): ∀{b:List<|Nat×aZ} {cs cs':List<|List TV} {aw:List<|List AV},aEO s cs (b.map λ(i,x)=>(i,bV S.tm x))=some cs'->bT (Qc S.hp) cs aw->
 ∃a,Nm s aw (b.map λ(i,x)=>(i,aH st.tmps x))=some a/\bT (Qc S.hp) cs' a/\cs'.length=cs.length
 | [],cs,cs',aw,h,q=>by cases h;exact⟨aw,rfl,q,rfl⟩
 | (i,x)::b,cs,cs',aw,h,q=>by
  simp only[ZE,aEO] at h;split at h
  .cases h
  .rename_i vs c;let⟨m,l,d⟩:=Pi c<|f.get x;split at h
   .rename_i e;have e:=Zc e;split at h
    .rename_i e2;have e2:i<cs.length:=by simpa [YC] using e2
     let⟨a,g,j,k⟩:=aBv f h<|q.set i d;refine⟨a,?_,j,by rw[k];simp⟩;simp only[ZE,Nm,l];rw[Zu ⟨by rw[d.len,e],by rw[q.len];exact e2⟩];exact g
    .cases h
   .cases h
theorem aGu[aG]{pu:Bool}{s m:Nat}{z:List Value}{i:List<|Nat×aZ}(a:Qt N S st)(h:cM E n d (.buildSl pu s m z i) S K=some r): dC P cf E.fl N (.buildSl pu s m z i) st K r:=by
 have q:=a.hp.ln;simp only[cM] at h;split at h
 .rename_i es j;let⟨aw,k,f,u⟩:=aBv a j<|bT.rep (Qc.lits z) m;split at h
  .split at h
   .cases h
   .exact dC.add (v:=.ms st.heap.length m 0 m) (o:=.rows s es) (b:=.blk s aw) a (by simp only[aL,k,Zn,Z9]) ⟨aw,rfl,f.imp λ_ _ h=>h.imp λ_ _ h=>h.mono HM.add⟩ (by rw[q];exact .rs _ _) h
  split at h
  .rename_i l c;have g:=L8 c f;split at h
   .rename_i e;have e:=Zc e;have t:l.length=m:=by rw[<-g.len,f.len,u];simp
    cases pu with
    | true=>
     simp only at h;have he:aL P cf E.fl (.buildSl true s m z i) st.tmps st.heap=some (.sl true<|aw.map λe=>e.map Cx,st.heap):=by simp only[aL,k,Zz]
     split at h
     .cases aw with
      | nil=>exact dC.same a he (.p _ _<|.emp _ _<|.inr<|.inl rfl) h
      | cons=>exact f.elim
     .exact dC.same a he (.p _ _<|Qp.mkS (.inr ⟨_,rfl⟩)<|sI.ls g) h
    | false=>
     exact dC.add (v:=.ms st.heap.length m 0 m) (o:=.lst (lO E d) l) (b:=.blk s aw) a (by simp only[aL,k,Zn,Z9]) ⟨aw,by rw[e],g⟩ (by rw[q,<-t];exact .ms _ (lO E d) l<|by simp) h
   .cases h
  .cases h
 .cases h
theorem aCN[aG]{x:aZ}(b:Qt N S st)(h:cM E n d (.nilCheck x) S K=some r): dC P cf E.fl N (.nilCheck x) st K r:=by
 have q:=b.get x;simp only[cM] at h;split at h
 .rename_i a;rw[a] at q;exact dC.same b (by simp only[aL,q.ptr1]) (q.ptr1▸q) h
 .rename_i a;rw[a] at q;let⟨_,_,_,_,_,e⟩:=q.pel1;exact dC.same b (by simp only[aL,e]) (e▸q) h
 .rename_i a;rw[a] at q;let⟨aw,e,_⟩:=(q.pu trivial).inR;exact dC.same b (by simp only[aL,e]) (e▸q) h
 .rename_i a;rw[a] at q;let⟨aw,e,_⟩:=(q.pu trivial).inP;exact dC.same b (by simp only[aL,e]) (e▸q) h
 .rename_i a;rw[a] at q;let⟨aw,e,_⟩:=q.inF;exact dC.same b (by simp only[aL,e]) (e▸q) h
 .cases h
theorem aNG{o:BinOp}{k:IntKind}{a b:Int}{K:TV->Option R}(h:aQe o k a b K=some r): ∃v tv,G7 o k a b=some v/\Qh H tv (.lit v)/\K tv=some r:=by
 have d:∀{c:Bool},Lo (.lit<|.bool c) K=some r->∃v tv,some (Value.bool c)=some v/\Qh H tv (.lit v)/\K tv=some r:=by
  intro c h;let⟨q,i,n⟩:=DC h<|Qh.l (H:=H)<|.bool c;exact⟨_,q,rfl,i,n⟩
 cases o with
 | add=>exact⟨_,_,rfl,Qh.l _,h⟩
 | sub=>exact⟨_,_,rfl,Qh.l _,h⟩
 | mul=>exact⟨_,_,rfl,Qh.l _,h⟩
 | eql=>exact d h
 | neq=>exact d h
 | lss=>exact d h
 | leq=>exact d h
 | gtr=>exact d h
 | geq=>exact d h
 | _=>cases h
theorem aNI[aG]{o:BinOp}{x y:aZ}(c:Qt N S st)(h:cM E n d (.ibin o x y) S K=some r): dC P cf E.fl N (.ibin o x y) st K r:=by
 have q:=c.get x;have f:=c.get y;simp only[cM] at h;split at h
 .rename_i u m;rw[m] at q;split at h
  .rename_i k a;split at h
   .rename_i w g;rw[g] at f;split at h
    .rename_i k' b;split at h
     .rename_i e _;subst e;obtain⟨v,tv,j,l,i⟩:=aNG h;exact dC.same c (by simp only[aL,q.inL,f.inL,Zz,j]) l i
     .cases h
    .cases h
   .cases h
  .cases h
 .cases h
theorem aRN[aG]{o:UnOp}{x:aZ}(a:Qt N S st)(h:cM E n d (.un o x) S K=some r): dC P cf E.fl N (.un o x) st K r:=by
 have q:=a.get x;simp only[cM] at h;split at h;all_goals first | cases h | skip;all_goals
  split at h
  .rename_i u b;rw[b] at q;split at h
   .exact dC.same a (by simp only[aL,q.inL];rfl) (Qh.l _) h
   .cases h
  .cases h
theorem aBx[aG]{o:Nat}{x:aZ}(b:Qt N S st)(h:cM E n d (.fieldAddr o x) S K=some r): dC P cf E.fl N (.fieldAddr o x) st K r:=by
 have q:=b.get x;simp only[cM] at h;split at h
 .rename_i a;rw[a] at q;exact dC.same b (by simp only[aL,q.ptr1]) (.ptr _ _) h
 .rename_i a;rw[a] at q;let⟨k,l,f,c,g,e⟩:=q.pel1;exact dC.same b (by simp only[aL,e]) (.pel _ _ _ k l f c g) h
 .rename_i a;rw[a] at q;let⟨aw,e,c⟩:=(q.pu trivial).inR;exact dC.same b (by simp only[aL,e]) (.p _ _<|Qp.mkR<|c.drop _) h
 .rename_i a;rw[a] at q;let⟨aw,e,c⟩:=(q.pu trivial).inP;exact dC.same b (by simp only[aL,e]) (.p _ _<|Qp.mkR<|c.drop _) h
 .rename_i a;rw[a] at q;exact dC.same b (by simp only[aL,q.rel1]) (.rel _ _ _ _) h
 .cases h
theorem aKW[aG]{agg:Bool}{m o:Nat}{x:aZ}(b:Qt N S st)(h:cM E n d (.field agg m o x) S K=some r): dC P cf E.fl N (.field agg m o x) st K r:=by
 have q:=b.get x;simp only[cM] at h;split at h
 .rename_i cs k;rw[k] at q;let⟨aw,g,c⟩:=q.inA;let⟨e,tv,v,a,j,f⟩:=TQ h c;refine dC.same b ?_ j f;simp only[aL,g,e,Zz];cases agg with
  | true=>simp only[Zz,Za] at a |-;rw[a]
  | false=>
   simp only[Zn,Z9] at a |-;split at a
   .rename_i i;rw[i];cases a;rfl
   .cases a
 .cases h
theorem sM{v:TV}{a:AV}{i:Int}(h:aEE v=some i)(q:Qh H v a)(b:0<=i): gS a=some i.toNat:=by
 unfold aEE at h;split at h
 .cases h;rw[q.inL];simp[gS,b]
 .cases h
theorem aGa[aG]{s:Nat}{x i:aZ}(a:Qt N S st)(h:cM E n d (.idxAddr s x i) S K=some r): dC P cf E.fl N (.idxAddr s x i) st K r:=by
 have q:=a.get x;have B:=a.get i;simp only[cM] at h;split at h
 .rename_i j A;split at h
  .rename_i k l g;rw[g] at q;split at h
   .rename_i e;have e:=Zc e;let⟨y,t,h⟩:=bD h;let⟨c,F,_⟩:=oR t;let⟨es,D,C⟩:=(q.pu trivial).inS;let⟨H,he,u⟩:=C.get F;rcases D with⟨_,rfl⟩ | ⟨f,G⟩
    .simp at he
    .refine dC.same a ?_ (.p _ _<|Qp.mkR u) h;simp only[aL,sM A B c,G,he];rw[Zu<|by rw[u.len,rY,e]]
   .cases h
  .rename_i k l g;rw[g] at q;split at h
   .rename_i e;have e:=Zc e;let⟨y,t,h⟩:=bD h;let⟨c,F,_⟩:=oR t;let⟨es,D,C⟩:=(q.pu trivial).inV;let⟨H,he,u⟩:=C.get F;rcases D with⟨_,rfl⟩ | ⟨f,G⟩ | G
    .simp at he
    .refine dC.same a ?_ (.p _ _<|Qp.mkR u) h;simp only[aL,sM A B c,G,he];rw[Zu<|by rw[u.len,rY,e]]
    .refine dC.same a ?_ (.p _ _<|Qp.mkR u) h;simp only[aL,sM A B c,G,he];rw[Zu<|by rw[u.len,rY,e]]
   .cases h
  .rename_i id m g;rw[g] at q;split at h
   .rename_i o z;split at h
    .rename_i k l;split at h
     .rename_i e;have e:=Zc e;let⟨es,D,C⟩:=a.hp.lst z;have L:=q.mw z;split at h
      .let⟨y,t,h⟩:=bD h;let⟨c,F,M,J⟩:=aFZ t;refine dC.same a ?_ (.pel id j 0 k l z c J) h;simp only[aL,sM A B c,L,D,Dd];rw[Zu ⟨e,C.len,F⟩,Z0]
      .rename_i w;let⟨y,t,h⟩:=bD h;let⟨c,F,M⟩:=oR t;simp only[win,ZH,ZV] at M;have J:(j+((w.1:Nat):Int)).toNat=w.1+j.toNat:=by omega
       refine dC.same (v:=.ptr id l.length (w.1+j.toNat) 0) a ?_ (by rw[<-J];exact .pel id _ 0 k l z (by omega)<|by omega) h;simp only[aL,sM A B c,L,D,Dd];rw[Zu ⟨e,C.len,by omega⟩]
     .cases h
    .cases h
   .cases h
  .rename_i id m g;rw[g] at q;split at h
   .rename_i I;split at h
    .rename_i o z;split at h
     .split at h
      .rename_i e;simp only[Zd] at e;have H:=Zc e.1;have e2:=Zc e.2.1;have R:I<m:=by simpa [YC] using e.2.2
       obtain⟨b,Q,aw,rfl,O⟩:=a.hp.get z;refine dC.same a ?_ (.rel id m I 0) h;have T:gS (aH st.tmps i)=some I:=sM A B<|Wc _;simp only[aL,T,q.rs1,Q];rw[Zu ⟨H,by rw[O.len,e2],R⟩,Z0]
      .cases h
     .cases h
    .cases h
   .cases h
  .cases h
 .cases h
theorem aN8[aG]{x:aZ}(w:Qt N S st)(h:cM E n d (.lenS x) S K=some r): dC P cf E.fl N (.lenS x) st K r:=by
 have q:=w.get x;simp only[cM] at h;split at h
 .rename_i m g;refine dC.same w ?_ (Qh.l _) h;generalize bV S.tm x=v at g q;generalize i:aH st.tmps x=a at q;cases v with
  | sl k l=>
   cases g;let⟨es,j,s⟩:=(q.pu trivial).inS;rw[<-s.len];rcases j with⟨rfl,rfl⟩ | ⟨f,rfl⟩<;>simp only[aL,i]<;>rfl
  | vw k l=>
   cases g;let⟨es,j,s⟩:=(q.pu trivial).inV;rw[<-s.len];rcases j with⟨rfl,rfl⟩ | ⟨f,rfl⟩ | rfl<;>simp only[aL,i]<;>rfl
  | emp b=>
   cases g;cases (q.pu trivial) with
   | emp _ _ h=>rcases h with rfl | rfl | ⟨_,rfl⟩<;>simp only[aL,i]<;>rfl
  | lit u=>
   have e:=q.inL;subst e;unfold aN7 at g;split at g
   .rename_i e;cases e
   .rename_i e;cases e
   .rename_i e;cases e
   .rename_i e;cases e;cases g;simp only[aL,i];rfl
   .rename_i e;cases e
   .rename_i e;cases e
   .cases g
  | rs id c=>cases g;simp only[aL,i,q.rs1]
  | ms id c=>
   cases q with
   | p _ _ q=>cases q
   | ms _ k l t=>
    simp only[aN7,t] at g;cases g;simp only[aL,i]
   | msn _ c k l t=>
    cases g;simp only[aL,i]
  | _=>cases g
 .cases h
theorem aGi[aG]{i:Nat}{x:aZ}(a:Qt N S st)(h:cM E n d (.extract x i) S K=some r): dC P cf E.fl N (.extract x i) st K r:=by
 have q:=a.get x;simp only[cM] at h;split at h
 .rename_i vs g;rw[g] at q;let⟨aw,e,j⟩:=q.inT;split at h
  .rename_i v k;let⟨b,f,c⟩:=j.get k;exact dC.same a (by simp only[aL,e,f]) c h
  .cases h
 .cases h
theorem wS{v:TV}{a:AV}{i:Int}(h:i64? v=some i)(q:Qh H v a): a=iv i:=by
 unfold i64? at h;split at h
 .split at h
  .split at h
   .cases h;exact q.inL
   .cases h
  .cases h
 .cases h
theorem aHV[aG]{mx:Bool}{g:List aZ}(f:Qt N S st)(h:cM E n d (.minmax mx g) S K=some r): dC P cf E.fl N (.minmax mx g) st K r:=by
 simp only[cM] at h;split at h
 .rename_i p c;match g,c with
  | [x,y],c=>
   simp only[ZE,Yn,aLT] at c;split at c
   .rename_i a k;split at c
    .rename_i b j;cases c;have i:=wS k<|f.get x;have e2:=wS j<|f.get y;cases mx with
     | true=>
      refine dC.same f ?_ (Qh.l _) h;have e:aL P cf E.fl (.minmax true [x,y]) st.tmps st.heap=aL P cf E.fl (.minmax true [.tmp 0,.tmp 1]) [aH st.tmps x,aH st.tmps y] st.heap:=rfl;rw[e,i,e2];exact aHD
     | false=>
      refine dC.same f ?_ (Qh.l _) h;have e:aL P cf E.fl (.minmax false [x,y]) st.tmps st.heap=aL P cf E.fl (.minmax false [.tmp 0,.tmp 1]) [aH st.tmps x,aH st.tmps y] st.heap:=rfl;rw[e,i,e2];exact aNq
    .cases c
   .cases c
  | [],c=>cases c
  | [_],c=>cases c
  | _::_::_::_,c=>cases c
 .cases h
end
section
variable [dO]{R:Type}{H H1:TH}{A:aT}{N:Nat}{S:TS}{st:St}{P:Program}{T:List cO}{cf:CF}{op:Gp}{K:TV->TS->Option R}{r:R}{E:XE}{n:Nat}{d:Option Nat}
theorem RK{i:Nat}: ∀{a:List Nat},EI i a=false->i∉a
 | [],_=>by simp
 | j::r,h=>by
  simp only[EI] at h;split at h
  .cases h
  .rename_i e;simp only[ZN,not_or];exact⟨YF e,RK h⟩
theorem aCS{i:Nat}: ∀{a:List Nat},i∉a->EI i a=false
 | [],_=>rfl
 | j::r,h=>by
  simp only[ZN,not_or] at h;simp only[EI];split
  .rename_i e;exact absurd (Zc e) h.1
  .exact aCS h.2
def HMk(c:List Nat)(H H':TH): Prop:=∀(j k:Nat) (l:List<|den k),j∉c->H[j]?=some (.lst k l)->∃(k':Nat) (b:List<|den k'),H'[j]?=some (.lst k' b)/\b.length=l.length
theorem UI{f:List Nat}(m:HMk f H H1){v:TV}{a:AV}(q:Qh H v a): Qh H1 (UJ f v) a:=by
 cases q with
 | p _ _ q=>
  cases v with
  | ms=>cases q
  | pel=>cases q
  | agg=>cases q
  | tup=>cases q
  | fn=>cases q
  | _=>exact .p _ _ q
 | ms i k l h=>
  simp only[UJ];cases e:EI i f with
  | true=>exact Qh.u _
  | false=>let⟨k',c,b,d⟩:=m i k l (RK e) h;rw[<-d];exact .ms i k' c b
 | msn i n k l h=>
  simp only[UJ];cases e:EI i f with
  | true=>exact Qh.u _
  | false=>let⟨k',c,b,d⟩:=m i k l (RK e) h;rw[<-d];exact .msn i n k' c b
 | pel i j o k l h b d=>
  simp only[UJ];cases e:EI i f with
  | true=>exact Qh.u _
  | false=>let⟨k',c,w,x⟩:=m i k l (RK e) h;rw[<-x];exact .pel i j o k' c w b<|by omega
 | ptr=>exact .ptr _ _
 | mp=>exact .mp _
 | it=>exact .it _
 | rs=>exact .rs _ _
 | rel=>exact .rel _ _ _ _
 | fn vi cs aw b d=>
  cases cs with
  | nil=>
   cases aw with
   | nil=>exact Qh.mkF trivial
   | cons=>cases b
  | cons=>exact Qh.u _
 | agg=>exact Qh.u _
 | tup=>exact Qh.u _
theorem Dx{c:List Nat}(m:HMk c H H1){v:TV}{a:AV}(q:Qh H v a): Qh H1 (Td c v) a:=by
 cases v with
 | agg cs=>
  obtain⟨aw,rfl,b⟩:=q.inA;exact Qh.mkA<|b.mapL λ_ _ q=>UI m q
 | fn vi cs=>
  obtain⟨aw,rfl,b⟩:=q.inF;exact Qh.mkF<|b.mapL λ_ _ q=>UI m q
 | tup cs=>exact Qh.u _
 | _=>exact UI m q
theorem UH{f:TV->TV}{t:Nat}{v:TV}: ∀{tm:TT},dA t (tm.map λp=>(p.1,f p.2))=some v->∃u,dA t tm=some u/\v=f u
 | [],h=>by cases h
 | (s,u)::tm,h=>by
  simp only[ZE,dA] at h |-;split at h
  .cases h;exact⟨u,rfl,rfl⟩
  .exact UH h
theorem aCU{a:List Nat}{t:Nat}{v:TV}{tm:TT}(h:dA t (aBa a tm)=some v): ∃u,dA t tm=some u/\(v=Td a u\/(a=[]/\v=u)):=by
 cases a with
 | nil=>exact⟨v,h,.inr ⟨rfl,rfl⟩⟩
 | cons k r=>let⟨u,c,b⟩:=UH h;exact⟨u,c,.inl b⟩
theorem aAZ{f:List Nat}{A:aT}(d:Qt N S st)(m:HMk f S.hp H1)(g:Qs H1 A): Qt N ⟨aBa f S.tm,H1⟩ ⟨st.tmps,A⟩:=by
 refine⟨d.ln,λt v n=>?_,g⟩;let⟨u,j,e⟩:=aCU n;let⟨a,b,c⟩:=d.tm t u j;rcases e with rfl | ⟨rfl,rfl⟩
 .exact⟨a,b,Dx m c⟩
 .exact⟨a,b,c.mono λi k l h=>m i k l (by simp) h⟩
theorem aBc{a:List Nat}{o:pE}{b:dI}(m:HMk a H H1)(h:Qo H o b): Qo H1 (Mt a o) b:=by
 cases o with
 | box cs=>let⟨aw,e,q⟩:=h;exact⟨aw,by simpa using e,q.mapL λ_ _ q=>Dx m q⟩
 | rows s es=>let⟨aw,e,q⟩:=h;exact⟨aw,e,q.mapL λ_ _ q=>q.mapL λ_ _ q=>Dx m q⟩
 | _=>exact h
theorem aAS{a:List Nat}{i k:Nat}{l:List<|den k}(h:H[i]?=some (.lst k l)): (H.map<|Mt a)[i]?=some (.lst k l):=by
 rw[Zk,h];rfl
theorem aBb{id:Nat}{o:pE}{b:dI}(d:Qt N S st)(n:Mt [id] o=o)(g:∀H,HMk [id] S.hp H->H[id]?=some o->Qo H o b)(a:id<S.hp.length): Qt N (nP id<|jT S id o) ⟨st.tmps,st.heap.set id b⟩:=by
 have e:(nP id<|jT S id o).hp=(S.hp.map<|Mt [id]).set id o:=by
  simp only[nP,jT,Xz,n]
 have m:HMk [id] S.hp (nP id<|jT S id o).hp:=by
  intro j k l i h;rw[e,Zv<|by simpa [Wy] using i];exact⟨k,l,aAS h,rfl⟩
 refine aAZ (S:=S) d m ?_;have f:bT (Qo (nP id<|jT S id o).hp) (S.hp.map<|Mt [id]) st.heap:=d.hp.mapL λ_ _ h=>aBc m h;have c:=f.set id<|g _ m<|by rw[e];simp[a]
 rw[<-e] at c;exact c
theorem O3{id k:Nat}{l a:List<|den k}{b:dI}(e:Qt N S st)(f:S.hp[id]?=some (.lst k l))(d:∀H,Qo H (.lst k a) b): Qt N (nP id<|jT S id<|.lst k a) ⟨st.tmps,st.heap.set id b⟩:=
 aBb e rfl (λH _ _=>d H) (Ze.1 f).1
theorem rV{a bytes:Nat}(b:a<=1000000)(c:bytes<=100000): kP a bytes=true:=by
 have:=Y8 b c;simp[kP];exact⟨by omega,by omega⟩
theorem Ql.all{k s:Nat}{l:List<|den k}{es:List<|List AV}(h:Ql k l es)(e:(cds k).length=s): eT s es=true:=by
 unfold eT;rw[Yl];intro x c;let⟨i,b⟩:=WR c;have a:i<l.length:=by rw[<-h.len];exact (Ze.1 b).1
 have:=(h.at (Zb a) b).len;rw[this,rY,e];simp
theorem Gx{α:Type}{l ys:List α}{a:Nat}(h:a+ys.length<=l.length): (aP l a ys).length=l.length:=by
 simp only[aP,Zh,ZH,ZV];omega
theorem Ua{α:Type}(l:List α)(a:Nat): aP l a []=l:=by simp[aP]
theorem JA{α:Type}{l:List α}{i:Nat}{x:α}(h:l[i]?=some x): l.set i x=l:=by
 apply Ym;intro j;rw[Z5];split
 .rename_i e;subst e;rw[Zu (Ze.1 h).1,h]
 .rfl
theorem aG1{α:Type}{l ys a:List α}{w:Nat×Nat}(h:MW l w ys=some a): a=aP l (w.1+w.2) ys/\w.1+w.2+ys.length<=l.length/\l.length+ys.length<=1000000:=by
 unfold MW at h;split at h
 .rename_i b;cases h;exact⟨rfl,b⟩
 .cases h
theorem aG0{fl id s bytes tot off len:Nat}{H:aT}{es ys:List<|List AV}(b:H[id]?=some (.blk s es))(f:es.length=tot)(d:eT s ys=true)(j:0<s)(i:kP ys.length bytes=true)(c:kP (tot+ys.length) bytes=true)(e:fl<=id)(h:off+len+ys.length<=tot):
 cN fl H s bytes (.ms id tot off len) ys=some (.ms id tot off<|len+ys.length,H.set id<|.blk s<|aP es (off+len) ys):=by
 unfold cN;simp only[d,j,i,b,f,c,e,Y7,Zz];by_cases g:ys.length=0
 .have:ys=[]:=ZK.1 g;subst this;simp only[Z1,Xm,Zz,Ua,JA b]
 .rw[ZF g,ZF<|by omega,Zu h]
theorem dC.put[aG]{fl:Nat}{v:AV}{tv:TV}{id k:Nat}{l:List<|den k}{a:List<|den k}{b:dI}(f:Qt N S st)(i:S.hp[id]?=some (.lst k l))(e:a.length=l.length)(he:aL P cf fl op st.tmps st.heap=some (v,st.heap.set id b))(q:Qo (S.hp.set id<|.lst k a) (.lst k a) b)(g:Qh (S.hp.set id<|.lst k a) tv v)(h:K tv (jT S id<|.lst k a)=some r): dC P cf fl N op st K r:=
 dC.set f he (HM.set λm n d=>by rw[i] at d;cases d;exact⟨k,a,rfl,e⟩) q g h
theorem aJe[aG]{s bytes:Nat}{x y:aZ}(p:Qt N S st)(h:cM E n d (.append s bytes x y) S K=some r): dC P cf E.fl N (.append s bytes x y) st K r:=by
 have q:=p.get x;have V:=p.get y;have J:=p.hp.ln;have Q:∀v,bV S.tm x=v->NU v=true->(match Nat.beq (cds<|lO E d).length s&&Nat.blt 0 s with
  | true=>match rdX S.hp (lO E d) (bV S.tm y) with
   | some ys=>match Nat.ble bytes 100000 with
    | true=>cnd (List.isEmpty ys) (K v S)<|bnd (app [] ys) λu=>K (.ms S.hp.length none)<|Om S<|.lst (lO E d) u
    | false=>none
   | none=>none
  | false=>none)=some r->dC P cf E.fl N (.append s bytes x y) st K r:=by
  intro v Z c h;rw[Z] at q;have j:aH st.tmps x=.lit bL\/aH st.tmps x=.sl true []:=by
   unfold NU at c;split at c
   .subst c;cases (q.pu trivial) with
    | emp _ _ h=>
     rcases h with h | h | ⟨h,_⟩
     .exact .inl h
     .exact .inr h
     .cases h
   .split at c
    .split at c
     .split at c
      .split at c
       .exact .inl q.inL
       .cases c
      .cases c
     .cases c
    .cases c
   .cases c
  split at h
  .rename_i A;simp only[Zd] at A;have t:=Zc A.1;have e2:0<s:=by simpa [YC] using A.2
   split at h
   .rename_i ys C;let⟨es,F,a⟩:=aC2 C V p.hp;split at h
    .rename_i i;have i:=Zj i;have W:=a.all t;rcases d9 h with⟨R,h⟩ | ⟨R,h⟩
     .have B:ys=[]:=by simpa using R
      subst B;have e4:es=[]:=ZK.1 a.len;subst e4;refine dC.same p ?_ q h;simp only[aL,F];rcases j with j | j<;>rw[j]<;>simp[cN,eT,e2,kP,bL]
     .let⟨u,g,h5⟩:=bD h;clear h;let⟨B,f⟩:=Ol g;rw[Xt] at B;subst B;simp only[Z1,Z0] at f;have U:kP es.length bytes=true:=rV (by rw[a.len];exact f) i;have X:es.length≠0:=by
       rw[a.len];intro e;have:=ZK.1 e;subst this;cases R
      refine dC.add (v:=.ms st.heap.length u.length 0 u.length) (o:=.lst (lO E d) u) (b:=.blk s es) p ?_ ⟨es,by rw[t],a⟩ (by rw[J];exact .ms _ (lO E d) u<|by simp) h5;simp only[aL,F,<-a.len];rcases j with j | j<;>rw[j]
      .simp[cN,bL,W,e2,U,X]
      .have M:eT s ([]:List<|List AV)=true:=rfl;unfold cN;simp only[W,e2,U,X,M,Y7,Zz,Z9,Z1,Z0,Xt]
    .cases h
   .cases h
  .cases h
 simp only[cM] at h;split at h
 .rename_i id m j;rw[j] at q;split at h
  .rename_i o D;split at h
   .rename_i k l;split at h
    .rename_i ys C;let⟨es,F,a⟩:=aC2 C V p.hp;split at h
     .rename_i A;simp only[Zd] at A;have t:=Zc A.1;have e2:0<s:=by simpa [YC] using A.2.1
      have G:=Zj A.2.2;split at h
      .rename_i i;have i:=Zj i;let⟨L,O,I⟩:=p.hp.lst D;rw[t] at O;have T:=q.mw D;split at h
       .let⟨u,g,h⟩:=bD h;let⟨B,f⟩:=Ol g;subst B;have he:=k9 (fl:=E.fl) (bytes:=bytes) (tot:=l.length) (ys:=es) O I.len (a.all t) e2 (rV (by rw[a.len];omega) i) (rV (by rw[a.len];omega) i) G;refine⟨.ms id (l.length+es.length) 0<|l.length+es.length,st.heap.set id<|.blk s<|L++es,.ms id none,nP id<|jT S id<|.lst k<|l++ys,?_,O3 p D λH=>⟨L++es,by rw[t],I.app a⟩,?_,h⟩
        .simp only[aL,F,T];exact he
        .have:=Qh.ms (H:=(nP id<|jT S id<|.lst k<|l++ys).hp) id k (l++ys)<|by simp[nP,jT,Zk,(Ze.1 D).1,Mt]
         rw[Zh,<-a.len] at this;exact this
       .rename_i w;let⟨u,g,h⟩:=bD h;let⟨B,f,Y⟩:=aG1 g;subst B;have z:(aP l (w.1+w.2) ys).length=l.length:=Gx<|by omega
        refine dC.put (v:=.ms id l.length w.1<|w.2+es.length) (b:=.blk s<|aP L (w.1+w.2) es) p D z ?_ ⟨_,by rw[t],I.spl a⟩ (by have:=Qh.msn (H:=S.hp.set id<|.lst k<|aP l (w.1+w.2) ys) id (w.1,w.2+ys.length) k _<|Z3 (Ze.1 D).1;rw[z,<-a.len] at this;rw[<-a.len];exact this) h;simp only[aL,F,T,Dd];exact aG0 O I.len (a.all t) e2 (rV (by rw[a.len];omega) i) (rV (by rw[a.len];omega) i) G<|by rw[a.len];exact f
      .cases h
     .cases h
    .cases h
   .cases h
  .cases h
 .split at h
  .rename_i c;exact Q _ rfl c h
  .cases h
theorem M8{w:Nat}: ∀{b:List Sh},okA w b=true->∀s∈b,(∃k,s=.w k)\/(w=0/\∃k,s=.v k)
 | [],_,s,a=>by cases a
 | s'::r,h,s,a=>by
  have c:((∃k,s'=.w k)\/(w=0/\∃k,s'=.v k))/\okA w r=true:=by
   cases s' with
   | w k=>exact⟨.inl ⟨k,rfl⟩,h⟩
   | v k=>
    simp only[okA] at h;split at h
    .exact⟨.inr ⟨rfl,k,rfl⟩,h⟩
    .cases h
   | _=>cases h
  rcases ZN.1 a with rfl | a
  .exact c.1
  .exact M8 c.2 s a
theorem aMy{b:List Sh}{vs:List TV}{p:fN b}{aw:List AV}{c:TH}(d:okA 0 b=true)(h:Cm 0 c b vs=some p)(q:Qc H vs aw): Qc H1 (Lk b p) (aw.map EG)/\∀a∈aw,qK a=true:=
 L6 (λs e=>by
  rcases M8 d s e with⟨k,rfl⟩ | ⟨_,k,rfl⟩
  .exact λh q=>⟨aRM (aNc h q).1,(aNc (H1:=[]) h q).2⟩
  .exact λh q=>aNc h q) h q
theorem aJb{a:List Sh}{vs:List TV}{p:fN a}{aw:List AV}(d:okA 1 a=true)(h:Cm 1 H a vs=some p)(q:Qc H vs aw)(c:Qs H A): Qc H1 (Lk a p)<|aw.map<|cG A:=
 (L6 (G:=λ_=>True) (λs b=>by
  rcases M8 d s b with⟨k,rfl⟩ | ⟨e,_⟩
  .exact λh q=>⟨aRR h q c,trivial⟩
  .cases e) h q).1
theorem aPx{c:List Nat}{vs:List TV}{p:fN<|c.map .v}{aw:List AV}(h:Cm 2 H (c.map .v) vs=some p)(q:Qc H vs aw)(d:Qs H A): Qc H1 (Lk (c.map .v) p) (aw.map<|dY A 0)/\∀a∈aw,∀l,a≠.tup l:=
 L6 (λs b=>by
  obtain⟨k,_,rfl⟩:=Yh.1 b;exact λh q=>aRQ h q d) h q
theorem aAA{aw:List AV}(h:∀a∈aw,qK a=true): gE aw=true:=by
 induction aw with
 | nil=>rfl
 | cons a r c=>simp only[gE,h a ZM];exact c λb d=>h b<|ZQ _ d
theorem j7[aG]{vi w:Nat}{c:CSp}{vs:List TV}{aw:List AV}{K:TV->Option R}(t:V5 P T vi c)(h:Oi n w c vs H K=some r)(z:∀p,okA w c.ka=true->Cm w H c.ka vs=some p->Qc [] (Lk c.ka p) aw):
 ∃g a tv,fB P T n 0 vi aw []=some (a,g)/\Qh H1 tv (eY g 0 a)/\K tv=some r:=by
 unfold Oi at h;split at h
 .rename_i p s;split at h
  .cases h
  .rename_i y;let⟨x,u,h⟩:=bD h;let⟨f,g,o,k,j,_⟩:=t n p x u aw<|z p y s;have k:=k H1;let⟨i,d,h⟩:=aDN h k;refine⟨g,jO f,?_⟩;split at h
   .rename_i v;match f,d,j with
    | [a],d,j=>
     refine⟨v,o,?_,h⟩;have e:eY g 0 a=dY g 0 a:=by
      cases a with
      | tup l=>exact (j _ ZM l rfl).elim
      | _=>rfl
     show Qh H1 v<|eY g 0 a;rw[e];exact d.1
   .rename_i m;refine⟨.tup i,o,?_,h⟩;match f,d with
    | [],d=>exact Qh.mkT d
    | [a],d=>
     match i,d with
     | [v],_=>exact (m v rfl).elim
    | a::b::f,d=>exact Qh.mkT d
 .cases h
theorem UX[aG](a:Qt N S st): ∀(b:List aZ),Qc S.hp (b.map<|bV S.tm)<|b.map<|aH st.tmps
 | []=>trivial
 | x::r=>⟨a.get x,UX a r⟩
theorem aMx[aG]{vi:Nat}{c:CSp}{d:List aZ}(j:V5 P T vi c)(k:Qt N S st)(h:Oi n 0 c (d.map<|bV S.tm) [] (λv=>K v S)=some r):
 ∃v tv,Bu (fB P T n) 0 true vi (d.map<|aH st.tmps) st.heap=some (v,st.heap)/\Qh S.hp tv v/\K tv S=some r:=by
 have q:=UX k d;have b:Cm 0 [] c.ka (d.map<|bV S.tm)≠none:=by
  intro e;simp only[Oi,e] at h;cases h
 let⟨p,b⟩:=Option.ne_none_iff_exists'.1 b;have g:okA 0 c.ka=true:=by
  cases e:okA 0 c.ka with
  | true=>rfl
  | false=>simp only[Oi,b,e] at h;cases h
 have f:=aAA (aMy (H1:=[]) g b q).2;let⟨o,a,tv,l,m,i⟩:=j7 (H1:=S.hp) (aw:=(d.map<|aH st.tmps).map EG) j h λp g b=>(aMy g b q).1;exact⟨_,tv,by simp only[Bu,f,l],m,i⟩
theorem aN3[aG]{vi:Nat}{a:List aZ}(b:Qt N S st)(h:cM E n d (.mkFn vi a) S K=some r): dC P cf E.fl N (.mkFn vi a) st K r:=
 dC.same b rfl (Qh.mkF<|UX b a) h
theorem aLy[aG]{vi:Nat}{b:List aZ}(m:∀vi c,E.cs vi=some c->V5 P T vi c)(e:Qt N S st)(h:cM E n d (.callB vi b) S K=some r): dC P (fB P T n) E.fl N (.callB vi b) st K r:=by
 simp only[cM] at h;split at h
 .rename_i c k;have q:=UX e b;let⟨o,a,tv,f,g,i⟩:=j7 (H1:=S.hp) (aw:=(b.map<|aH st.tmps).map<|cG st.heap) (m vi c k) h λp l j=>aJb l j q e.hp;exact dC.same e (by simp only[aL,f]) g i
 .cases h
end
theorem G3: ∀(c:List Bool) (tm:List AV),(cU c tm).length=tm.length
 | [],tm=>by simp[cU]
 | b::a,[]=>rfl
 | b::a,v::vs=>by simp[cU,G3 a vs]
theorem EJ: ∀(c:List Bool) (tm:List AV) (t:Nat),c[t]?=some true->(cU c tm)[t]?=tm[t]?
 | [],tm,t,h=>by simp at h
 | b::a,[],t,h=>rfl
 | b::a,v::vs,0,h=>by
  simp only[Zt,Za] at h;subst h;simp[cU]
 | b::a,v::vs,t+1,h=>by
  simp only[cU,ZL];exact EJ a vs t<|by simpa using h
section
variable [dO]{R:Type}{H H1:TH}{A:aT}{N:Nat}{S:TS}{st:St}
theorem KP{c:List Bool}{t:Nat}{v:TV}: ∀{tm:TT},dA t (zM c tm)=some v->c[t]?=some true/\dA t tm=some v
 | [],h=>by cases h
 | (s,u)::tm,h=>by
  have a:c[s]?≠some true->dA t (zM c tm)=some v->c[t]?=some true/\dA t ((s,u)::tm)=some v:=by
   intro f h;let⟨g,i⟩:=KP h;refine⟨g,?_⟩;simp only[dA];split
   .rename_i e;have e:=Zc e;subst e;exact (f g).elim
   .exact i
  simp only[zM] at h;split at h
  .rename_i b d;split at h
   .simp only[dA] at h |-;split at h
    .rename_i e;have e:=Zc e;subst e;exact⟨d,h⟩
    .exact KP h
   .exact a (by rw[d];simp) h
  .rename_i d;exact a (by rw[d];simp) h
theorem Hx(a:Qt N S st)(b:List Bool): Qt N ⟨zM b S.tm,S.hp⟩ ⟨cU b st.tmps,st.heap⟩:=by
 refine⟨by rw[G3];exact a.ln,λt v h=>?_,a.hp⟩;let⟨c,d⟩:=KP h;rw[EJ _ _ _ c];exact a.tm t v d
theorem RM{n i k:Nat}{l:List<|den k}(a:i<n)(h:H[i]?=some (.lst k l)): ((H.take n).map<|gZ n)[i]?=some (.lst k l):=by
 rw[Zk,Zs,Zu a,h];rfl
structure Cln(n:Nat)(g:AV->AV): Prop where
 l:∀v,g (.lit v)=.lit v
 s:∀f es,g (.sl f es)=.sl f es
 w:∀es,g (.vw es)=.vw es
 r:∀es,g (.rptr es)=.rptr es
 p:∀es,g (.sptr es)=.sptr es
 m:∀es,g (.rmp es)=.rmp es
 ms:∀i a b c,i<n->g (.ms i a b c)=.ms i a b c
 pt:∀i a b c,i<n->g (.ptr i a b c)=.ptr i a b c
 mp:∀i,i<n->g (.mp i)=.mp i
 it:∀i,i<n->g (.it i)=.it i
 f:∀v,g (.fn v [])=.fn v []
theorem aQ3(n:Nat): Cln n<|mB n:=⟨λ_=>rfl,λ_ _=>rfl,λ_=>rfl,λ_=>rfl,λ_=>rfl,λ_=>rfl,λ_ _ _ _ h=>by simp[mB,h],λ_ _ _ _ h=>by simp[mB,h],λ_ h=>by simp[mB,h],λ_ h=>by simp[mB,h],λ_=>rfl⟩
theorem aQ2(n:Nat): Cln n<|jI n:=⟨λ_=>rfl,λ_ _=>rfl,λ_=>rfl,λ_=>rfl,λ_=>rfl,λ_=>rfl,λ_ _ _ _ h=>by simp[jI,mB,h],λ_ _ _ _ h=>by simp[jI,mB,h],λ_ h=>by simp[jI,mB,h],λ_ h=>by simp[jI,mB,h],λ_=>rfl⟩
theorem aMv(n:Nat): Cln n id:=⟨λ_=>rfl,λ_ _=>rfl,λ_=>rfl,λ_=>rfl,λ_=>rfl,λ_=>rfl,λ_ _ _ _ _=>rfl,λ_ _ _ _ _=>rfl,λ_ _=>rfl,λ_ _=>rfl,λ_=>rfl⟩
theorem RU{n:Nat}{g:AV->AV}(c:Cln n g){v:TV}{a:AV}(q:Qh H v a): Qh ((H.take n).map<|gZ n) (cV n v)<|g a:=by
 have d:∀{i:Nat},Nat.blt i n=true->i<n:=λe=>by simpa [YC] using e
 cases q with
 | p _ _ q=>
  cases v with
  | undef=>exact Qh.u _
  | lit u=>cases q;rw[c.l];exact Qh.l _
  | emp b=>cases q with
   | emp _ _ h=>rcases h with rfl | rfl | ⟨rfl,rfl⟩<;>first | (rw[c.l];exact .p _ _<|.emp _ _<|by simp) | (rw[c.s];exact .p _ _<|.emp _ _<|by simp)
  | sl k l=>
   let⟨es,t,y⟩:=q.inS;rcases t with⟨rfl,rfl⟩ | ⟨f,rfl⟩<;>first | (rw[c.l];exact .p _ _ q) | (rw[c.s];exact .p _ _ q)
  | vw k l=>
   let⟨es,t,y⟩:=q.inV;rcases t with⟨rfl,rfl⟩ | ⟨f,rfl⟩ | rfl<;>first | (rw[c.l];exact .p _ _ q) | (rw[c.s];exact .p _ _ q) | (rw[c.w];exact .p _ _ q)
  | rptr cs=>obtain⟨aw,rfl,_⟩:=q.inR;rw[c.r];exact .p _ _ q
  | sptr k x=>obtain⟨aw,rfl,_⟩:=q.inP;rw[c.p];exact .p _ _ q
  | rmp=>let⟨rows,t,_⟩:=q.inM;rcases t with⟨rfl,_⟩ | rfl<;>first | (rw[c.l];exact .p _ _ q) | (rw[c.m];exact .p _ _ q)
  | _=>cases q
 | ms i k l h=>
  simp only[cV];split
  .rename_i e;rw[c.ms _ _ _ _<|d e];exact Qh.ms i k l<|RM (d e) h
  .exact Qh.u _
 | msn i m k l h=>
  simp only[cV];split
  .rename_i e;rw[c.ms _ _ _ _<|d e];exact Qh.msn i m k l<|RM (d e) h
  .exact Qh.u _
 | ptr i o=>
  simp only[cV];split
  .rename_i e;rw[c.pt _ _ _ _<|d e];exact .ptr i o
  .exact Qh.u _
 | pel i j o k l h t y=>
  simp only[cV];split
  .rename_i e;rw[c.pt _ _ _ _<|d e];exact Qh.pel i j o k l (RM (d e) h) t y
  .exact Qh.u _
 | mp i=>
  simp only[cV];split
  .rename_i e;rw[c.mp _<|d e];exact .mp i
  .exact Qh.u _
 | it i=>
  simp only[cV];split
  .rename_i e;rw[c.it _<|d e];exact .it i
  .exact Qh.u _
 | rs i m=>
  simp only[cV];split
  .rename_i e;rw[c.ms _ _ _ _<|d e];exact .rs i m
  .exact Qh.u _
 | rel i m j o=>
  simp only[cV];split
  .rename_i e;rw[c.pt _ _ _ _<|d e];exact .rel i m j o
  .exact Qh.u _
 | fn vi cs aw t y=>
  cases cs with
  | nil=>
   cases aw with
   | nil=>rw[c.f];exact Qh.mkF trivial
   | cons=>cases t
  | cons=>exact Qh.u _
 | agg=>exact Qh.u _
 | tup=>exact Qh.u _
theorem Br{n:Nat}{v:TV}{a:AV}(q:Qh H v a): Qh ((H.take n).map<|gZ n) (iS n v) (jI n a)/\Qh ((H.take n).map<|gZ n) (iS n v) a:=by
 cases v with
 | fn vi cs=>
  obtain⟨aw,rfl,b⟩:=q.inF;exact⟨Qh.mkF<|b.map λ_ _ q=>RU (aQ3 n) q,Qh.mkF<|b.mapL λ_ _ q=>RU (aMv n) q⟩
 | _=>exact⟨RU (aQ2 n) q,RU (aMv n) q⟩
theorem aFe{n:Nat}{v:TV}{a:AV}(q:Qh H v a): Qh ((H.take n).map<|gZ n) (vF n v)<|Ob n a:=by
 cases v with
 | agg cs=>
  obtain⟨aw,rfl,c⟩:=q.inA;exact Qh.mkA<|c.map λ_ _ q=>(Br q).1
 | undef=>exact Qh.u _
 | tup=>exact Qh.u _
 | _=>
  have h:=(Br (n:=n) q).1;cases a with
  | agg=>
   cases q with
   | p _ _ q=>cases q<;>simp_all
  | tup=>
   cases q with
   | p _ _ q=>cases q<;>simp_all
  | _=>exact h
theorem aFS(n:Nat): r5<|Oc n:=⟨λv=>.inl rfl,λf es=>⟨f,rfl⟩,λ_=>rfl,λ_=>rfl⟩
theorem RT{n:Nat}{o:pE}{b:dI}(h:Qo H o b): Qo ((H.take n).map<|gZ n) (gZ n o) (bQ n b)/\Qo ((H.take n).map<|gZ n) (gZ n o) b:=by
 cases o with
 | box cs=>
  obtain⟨aw,rfl,q⟩:=h;exact⟨⟨aw.map<|jI n,by simp[bQ],q.map λ_ _ q=>(Br q).1⟩,⟨aw,by simp,q.mapL λ_ _ q=>(Br q).2⟩⟩
 | rows s es=>
  obtain⟨aw,rfl,q⟩:=h;exact⟨⟨aw.map λe=>e.map<|jI n,rfl,q.map λ_ _ q=>q.map λ_ _ q=>(Br q).1⟩,⟨aw,rfl,q.mapL λ_ _ q=>q.mapL λ_ _ q=>(Br q).2⟩⟩
 | lst k l=>
  obtain⟨es,rfl,q⟩:=h;exact⟨⟨es.map λe=>e.map<|jI n,rfl,(aAO n).ls q⟩,⟨es,rfl,q⟩⟩
 | map kk c m=>
  obtain⟨rows,rfl,q⟩:=h;refine⟨?_,⟨rows,rfl,q⟩⟩;cases i:ag c with
  | true=>
   have d:Qm c m<|rows.map λr=>r.map<|jI n:=q.mapR λ_ _ h=>(aAO n).r h;exact⟨_,congrArg dI.mp<|VP (g:=jI n) λr=>by rw[i];rfl,d⟩
  | false=>
   have d:Qm c m<|rows.map λr=>r.map<|Oc n:=q.mapR λ_ _ h=>(aFS n).r h;exact⟨_,congrArg dI.mp<|VP (g:=Oc n) λr=>by rw[i];cases r<;>rfl,d⟩
 | it=>subst h;exact⟨rfl,rfl⟩
 | gone=>exact⟨trivial,trivial⟩
 | fr k a=>
  simp only[gZ];split
  .rename_i e;exact⟨.s _ _ n (Zj e) h,h⟩
  .exact⟨trivial,trivial⟩
theorem EO{fl:Nat}(b:Qt N S st)(live:List Bool)(tr:Bool)(n:Nat)(g:fl<=n): Qt N (Mx live tr n S)<|dL (some live) tr fl n st:=by
 have h:=Hx b live;cases tr with
 | false=>exact h
 | true=>
  refine⟨by simp only[dL,Zz,G2,ZO];exact h.ln,λt v c=>?_,?_⟩
  .simp only[Mx] at c;obtain⟨u,m,rfl⟩:=UH c;let⟨a,i,d⟩:=h.tm t u m;refine⟨Ob n a,?_,aFe d⟩;simp only[dL,Zz,G2,Zk];rw[i];rfl
  .simp only[dL,Zz,Mx];have e:∀{α β:Type} (f:α->β) (l:List α),(l.take n).map f=(l.take fl).map f++((l.take n).drop fl).map f:=by
    intro α β f l;rw[<-YJ];congr 1;conv=>lhs;rw[<-YT fl<|l.take n,Y9,Yq g]
   have q:=b.hp.take n;have o:bT (Qo S.hp) (S.hp.take fl)<|st.heap.take fl:=b.hp.take fl;have k:bT (Qo S.hp) ((S.hp.take n).drop fl)<|(st.heap.take n).drop fl:=q.drop fl;show Qs ((S.hp.take n).map<|gZ n) _;rw[show Qs ((S.hp.take n).map<|gZ n)=bT (Qo<|(S.hp.take n).map<|gZ n) ((S.hp.take n).map<|gZ n) from rfl];rw[show bT (Qo<|(S.hp.take n).map<|gZ n) ((S.hp.take n).map<|gZ n)=bT (Qo<|(S.hp.take n).map<|gZ n) ((S.hp.take fl).map (gZ n)++((S.hp.take n).drop fl).map (gZ n)) from by rw[<-e]];exact (o.mapL λ_ _ q=>(RT q).2).app<|k.map λ_ _ q=>(RT q).1
def aIr: TV->Bool
 | .sl _ _=>true
 | .rmp _ _ _=>true
 | .tup _=>true
 | _=>false
structure Rj(H:TH)(m v:TV): Prop where
 q:∀H',(∀i n,m=.ms i n->∀(k:Nat) (l:List (den k)),H[i]?=some (.lst k l)->∃(k':Nat) (l':List (den k')),H'[i]?=some (.lst k' l')/\l'.length=l.length)->∀a,Qh H v a->Qh H' m a
 s:aIr v=true->aIr m=true->m=v
theorem aAx{c v:TV}(h:Uf c v=true): Rj H c v:=by
 cases c with
 | undef=>exact⟨λ_ _ a _=>Qh.u a,λ_ e=>by cases e⟩
 | ms i n=>
  cases n with
  | some n=>cases h
  | none=>
   cases v with
   | ms j m=>
    cases m with
    | some m=>cases h
    | none=>
     have e:=Zc h;subst e;refine⟨λH' m a q=>?_,λ_ e=>by cases e⟩;cases q with
     | p _ _ q=>cases q
     | ms _ k l h=>
      let⟨k',G,C,D⟩:=m i none rfl k l h;rw[<-D];exact .ms _ k' G C
   | _=>cases h
 | ptr i o=>
  cases v with
  | ptr j u=>
   simp only[Uf] at h;split at h
   .rename_i e;have e:=Zc e;have e2:=Zc h;subst e;subst e2;exact⟨λH' _ a q=>q.ptr1▸.ptr _ _,λ_ e=>by cases e⟩
   .cases h
  | _=>cases h
 | mp i=>
  cases v with
  | mp j=>
   have e:=Zc h;subst e;refine⟨λH' _ a q=>?_,λ_ e=>by cases e⟩;cases q with
   | p _ _ q=>cases q
   | mp=>exact .mp _
  | _=>cases h
 | it i=>
  cases v with
  | it j=>
   have e:=Zc h;subst e;refine⟨λH' _ a q=>?_,λ_ e=>by cases e⟩;cases q with
   | p _ _ q=>cases q
   | it=>exact .it _
  | _=>cases h
 | rs i n=>
  cases v with
  | rs j m=>
   simp only[Uf] at h;split at h
   .rename_i e;have e:=Zc e;have e2:=Zc h;subst e;subst e2;exact⟨λH' _ a q=>q.rs1▸.rs _ _,λ_ e=>by cases e⟩
   .cases h
  | _=>cases h
 | fn i cs=>
  cases cs with
  | cons=>cases h
  | nil=>
   cases v with
   | fn j ds=>
    cases ds with
    | cons=>cases h
    | nil=>
     have e:=Zc h;subst e;refine⟨λH' _ a q=>?_,λ_ e=>by cases e⟩;obtain⟨aw,rfl,E⟩:=q.inF;cases aw with
     | nil=>exact Qh.mkF trivial
     | cons=>exact E.elim
   | _=>cases h
 | lit u=>
  have g:v=.lit u->Rj H (.lit u) v:=by
   rintro rfl;exact⟨λH' _ a q=>q.inL▸Qh.l _,λ_ e=>by cases e⟩
  cases u with
  | int k a=>
   cases v with
   | lit y=>
    cases y with
    | int k' b=>
     simp only[Uf] at h;split at h
     .rename_i e _;split at h
      .rename_i F _;subst e;subst F;exact g rfl
      .cases h
     .cases h
    | _=>cases h
   | _=>cases h
  | bool b=>
   cases v with
   | lit y=>
    cases y with
    | bool c=>
     apply g;cases b<;>cases c<;>first | rfl | cases h
    | _=>cases h
   | _=>cases h
  | slice a l c=>
   cases a with
   | some a=>cases h
   | none=>
    cases l with
    | succ l=>cases h
    | zero=>
     cases c with
     | succ c=>cases h
     | zero=>
      cases v with
      | lit y=>
       cases y with
       | slice a l c=>
        cases a with
        | some a=>cases h
        | none=>
         cases l with
         | succ l=>cases h
         | zero=>
          cases c with
          | succ c=>cases h
          | zero=>exact g rfl
       | _=>cases h
      | _=>cases h
  | _=>cases h
 | emp b=>
  cases v with
  | emp c=>
   refine⟨λH' _ a q=>?_,λ_ e=>by cases e⟩;cases (q.pu trivial) with
   | emp _ _ d=>
    refine .p _ _<|.emp _ _ ?_;cases b with
    | false=>
     rcases d with d | d | ⟨_,d⟩
     .exact .inl d
     .exact .inr<|.inl d
     .exact .inr<|.inr ⟨rfl,d⟩
    | true=>
     have h:c=true:=h;subst h;exact d
  | _=>cases h
 | _=>cases h
theorem aAw: ∀{cs vs:List TV},aDW cs vs=true->bT (λc v=>Uf c v=true/\∀j n,c≠.ms j n) cs vs
 | [],[],_=>trivial
 | [],_::_,h=>by cases h
 | _::_,[],h=>by cases h
 | c::r,v::s,h=>by
  simp only[aDW] at h;split at h
  .cases h
  .rename_i a;split at h
   .rename_i e;exact⟨⟨e,a⟩,aAw h⟩
   .cases h
theorem aJZ{c v:TV}(h:aHn c v=true): Rj H c v:=by
 cases c with
 | fn i cs=>
  cases v with
  | fn j ds=>
   simp only[aHn] at h;split at h
   .rename_i e;have e:=Zc e;subst e;refine⟨λH' _ a q=>?_,λ_ e=>by cases e⟩;obtain⟨aw,rfl,d⟩:=q.inF;have f:=aAw h;refine Qh.mkF<|bT.of (by rw[d.len,f.len]) λj c a k l=>?_;let⟨v,g,b,m⟩:=f.get k;exact (aAx b).q H' (λn o e=>absurd e<|m n o) a<|d.at g l
   .cases h
  | _=>cases h
 | _=>exact aAx h
theorem aDu{a b a' b':Nat}{m:List<|den a×den b}{y:List<|den a'×den b'}(h:OK m=some y): TV.rmp a b m=TV.rmp a' b' y:=by
 let⟨e,d,h⟩:=HG h;subst e;subst d;subst h;rfl
theorem aEC{v:TV}{x:ByteArray×Nat}(h:aIo v=some x): v=.tup [.lit<|.string x.1,.lit<|.int .i64<|.ofNat x.2]:=by
 unfold aIo at h;split at h
 .split at h
  .split at h
   .split at h
    .split at h
     .split at h
      .split at h
       .split at h
        .cases h;rfl
        .cases h
       .cases h
      .cases h
     .cases h
    .cases h
   .cases h
  .cases h
 .cases h
theorem rjN{id:Nat}{v:TV}{x:Nat×Nat}(h:rdN id v=some x): Rj H (.ms id<|some x) v:=by
 unfold rdN at h;split at h
 .split at h
  .rename_i e;have e:=Zc e;subst e;subst h;refine⟨λH' m a q=>?_,λ_ e=>by cases e⟩;cases q with
   | p _ _ q=>cases q
   | msn _ _ k l h=>
    let⟨k',b,f,c⟩:=m _ _ rfl k l h;rw[<-c];exact .msn _ _ k' b f
  .cases h
 .cases h
theorem rjI{v:TV}{x:ByteArray×Nat}(h:aIo v=some x): Rj H (.tup [.lit<|.string x.1,.lit<|.int .i64<|.ofNat x.2]) v:=by
 rw[aEC h];refine⟨λH' _ a q=>?_,λ_ _=>rfl⟩;obtain⟨aw,rfl,c⟩:=q.inT;match aw,c with
 | [a,b],c=>exact Qh.mkT ⟨by rw[c.1.inL];exact Qh.l _,by rw[c.2.1.inL];exact Qh.l _,trivial⟩
theorem aEc{s:Sh}{v:TV}{x:s.den}(h:s.rd 3 [] v=some x): Rj H (s.tv x) v:=by
 cases s with
 | v k=>
  have h:RF 0 [] k v=some x:=h;refine⟨λH' _ a q=>aP3 h q,λd e2=>?_⟩;unfold RF at h;split at h
  .split at h
   .cases d
   .cases h
  .rename_i z;unfold jM at h;split at h
   .rename_i p u;cases h;let⟨c,y,t,f⟩:=L9 u;have j:val k (dO.pk k p)=hdT (pI (cds k) p):=by
     unfold val jJ;rw[z,dO.un_pk]
    show val k (dO.pk k p)=_;rw[j,t];cases c with
    | sl Q=>
     cases v with
     | sl O l=>
      let⟨e,h⟩:=pB (F:=λk=>List<|den k) (x:=l) (y:=y) f;subst e;subst h;rfl
     | rmp=>cases f
     | tup=>cases f
     | _=>cases d
    | int N=>rw[aA4 f] at d;cases d
    | bool=>rw[SW f] at d;cases d
    | str=>rw[aA2 f] at d;cases d
    | sptr=>rw[aA3 f] at d;cases d
    | mp=>rcases aKf (w:=0) (H:=[]) f with rfl | ⟨rfl,_⟩ | ⟨e,_⟩<;>first | rfl | cases d | cases e
    | any=>cases f
   .cases h
 | w k=>
  have h:RF 1 [] k v=some x:=h;refine⟨λH' _ a q=>aP2 h q,λd e2=>?_⟩;unfold RF at h;split at h
  .split at h
   .cases d
   .cases h
  .rename_i z;unfold jM at h;split at h
   .rename_i p u;cases h;let⟨c,y,t,f⟩:=L9 u;have j:val k (dO.pk k p)=hdT (pI (cds k) p):=by
     unfold val jJ;rw[z,dO.un_pk]
    have e2:aIr (toW<|val k<|dO.pk k p)=true:=e2;show toW (val k<|dO.pk k p)=_;rw[j,t,K1] at e2 |-;cases c with
    | mp=>rcases aKf (w:=1) (H:=[]) f with rfl | ⟨rfl,_⟩ | ⟨e,_⟩<;>first | rfl | cases d | cases e
    | _=>cases e2
   .cases h
 | r k=>
  refine⟨λH' _ a q=>?_,λ_ e2=>by cases e2⟩;cases v with
  | rptr cs=>
   have h:jM 0 [] k cs=some x:=h;obtain⟨aw,rfl,M⟩:=(q.pu trivial).inR;exact .p _ _<|Qp.mkR<|jC h<|M.c (H:=[])
  | _=>cases h
 | l k=>
  cases v with
  | sl k' l=>
   let⟨e,h⟩:=pB (F:=λk=>List<|den k) (x:=l) (y:=x) h;subst e;subst h;exact⟨λH' _ a q=>.p _ _<|q.pu trivial,λ_ _=>rfl⟩
  | _=>cases h
 | m kk J=>
  cases v with
  | rmp a b m=>
   have e:=aDu (m:=m) (y:=x) h;rw[<-show TV.rmp a b m=(Sh.m kk J).tv x from e];exact⟨λH' _ a q=>.p _ _<|q.pu trivial,λ_ _=>rfl⟩
  | _=>cases h
 | n id=>exact rjN h
 | i=>exact rjI h
end
section
variable [dO]{R:Type}{H H1:TH}{A:aT}{N:Nat}{S:TS}{st:St}
theorem fN.hc{a:Sh}{r:List Sh}(x:a.den)(y:fN r): fN.hd (fN.cs x y)=x:=by cases r<;>rfl
theorem fN.tc{a:Sh}{r:List Sh}(x:a.den)(y:fN r): fN.tl (fN.cs x y)=y:=by cases r<;>rfl
theorem Mb: ∀{ss:List Pl} {W:List TV} {p:fN<|K8 false ss} {q:fN<|K8 true ss},NK ss W=some (p,q)->bT (Rj H) (mkV ss p q) W
 | [],W,p,q,h=>by
  cases W with
  | nil=>trivial
  | cons=>cases h
 | .con c::r,W,p,q,h=>by
  cases W with
  | nil=>cases h
  | cons v W=>
   simp only[NK] at h;split at h
   .rename_i e;exact⟨aJZ e,Mb h⟩
   .cases h
 | .p s::r,W,p,q,h=>by
  cases W with
  | nil=>cases h
  | cons v W=>
   simp only[NK] at h;split at h
   .rename_i x a;split at h
    .rename_i d b;cases h;simp only[mkV,fN.hc,fN.tc];exact⟨aEc a,Mb b⟩
    .cases h
   .cases h
 | .v s::r,W,p,q,h=>by
  cases W with
  | nil=>cases h
  | cons v W=>
   simp only[NK] at h;split at h
   .rename_i x a;split at h
    .rename_i d b;cases h;simp only[mkV,fN.hc,fN.tc];exact⟨aEc a,Mb b⟩
    .cases h
   .cases h
theorem aCm{tm:TT}{H':TH}{t:Nat}{m:TV}: ∀{ts:List<|Nat×Option Nat} {vs M:List TV},upT tm ts=some vs->bT (λm v=>∀a,Qh H v a->Qh H' m a) M vs->dA t (plT ts M)=some m->∃v,dA t tm=some v/\∀a,Qh H v a->Qh H' m a
 | [],vs,M,h,q,b=>by cases b
 | s::ts,vs,M,h,q,b=>by
  simp only[upT] at h;split at h
  .rename_i v f;split at h
   .rename_i w k;split at h
    .rename_i g;cases h;cases M with
     | nil=>exact q.elim
     | cons u M=>
      simp only[plT,g,dA] at b;split at b
      .rename_i e;have e:=Zc e;subst e;cases b;exact⟨v,f,q.1⟩
      .exact aCm k q.2 b
    .rename_i n g;split at h
     .rename_i cs;split at h
      .rename_i e;have e:=Zc e;cases h;have d:=q.take n;have i:=q.drop n;rw[<-e,Y2] at i;rw[<-e,Xn] at d;rw[e] at d i;simp only[plT,g,dA] at b;split at b
       .rename_i e;have e:=Zc e;subst e;cases b;refine⟨_,f,λa r=>?_⟩;obtain⟨aw,rfl,l⟩:=r.inA;exact Qh.mkA (bT.of (by rw[l.len,d.len]) λj m c b p=>by
         let⟨v,f,o⟩:=d.get b;exact o c<|l.at f p)
       .exact aCm k i b
      .cases h
     .cases h
   .cases h
  .cases h
theorem Nj{α:Type}{s:Nat}: ∀{es:List<|List α},(es.all λe=>Nat.beq e.length s)=true->es.flatten.length=es.length*s
 | [],_=>by simp
 | e::es,h=>by
  simp only[XM,Zd] at h;have a:=Zc h.1;simp only[Yt,Zh,Nj h.2,a,Yc,Xx];omega
theorem i5{α β:Type}{R:α->β->Prop}{s:Nat}: ∀{es:List<|List β} {l:List α},(es.all λe=>Nat.beq e.length s)=true->bT R l es.flatten->bT (bT R) (pA s es.length l) es
 | [],_,_,_=>trivial
 | e::es,l,h,q=>by
  simp only[XM,Zd] at h;have c:=Zc h.1;subst c;have a:=q.take e.length;have b:=q.drop e.length;simp only[Yt,Xn,Y2] at a b;exact⟨a,i5 h.2 b⟩
theorem aGO: ∀{os:List OL} {c:TH} {f:List TV},upO os c=some f->f.length=nO os
 | [],c,f,h=>by
  cases c with
  | nil=>cases h;rfl
  | cons=>cases h
 | o::os,c,f,h=>by
  cases c with
  | nil=>cases h
  | cons b c=>
   simp only[upO] at h;split at h
   .cases h
   .rename_i vs g;have a:=aGO g;cases o with
    | gone=>cases h;exact a
    | box n=>
     cases b with
     | box cs=>
      simp only at h;split at h
      .rename_i e;have e:=Zc e;cases h;simp[nO,a,e]
      .cases h
     | _=>cases h
    | lst u=>
     cases b with
     | lst v x=>
      simp only at h;split at h
      .cases h;simp[nO,a]
      .cases h
     | _=>cases h
    | map kk t=>
     cases b with
     | map q y r=>
      simp only at h;split at h
      .split at h
       .cases h;simp[nO,a]
       .cases h
      .cases h
     | _=>cases h
    | bx=>
     cases b with
     | box=>cases h;simp[nO,a]
     | _=>cases h
    | it=>
     cases b with
     | it=>cases h;simp[nO,a]
     | _=>cases h
    | rows s m=>
     cases b with
     | rows s' es=>
      simp only at h;split at h
      .split at h
       .rename_i e;have e:=Zc e;split at h
        .rename_i p;cases h;rw[Zh,a,Nj p,e,YN];rfl
        .cases h
       .cases h
      .cases h
     | _=>cases h
theorem uW: ∀{os:List OL} {g:TH} {p M:List TV},upO os g=some p->bT (Rj H) M p->∀(i k k':Nat) (l:List<|den k) (f:List<|den k'),g[i]?=some (.lst k l)->(t5 os M)[i]?=some (.lst k' f)->f.length=l.length
 | [],g,p,M,h,q,i,k,k',l,f,c,a=>by
  cases g with
  | nil=>simp at c
  | cons=>cases h
 | o::os,g,p,M,h,q,i,k,k',l,f,c,a=>by
  cases g with
  | nil=>cases h
  | cons b g=>
   simp only[upO] at h;split at h
   .cases h
   .rename_i vs d;cases o with
    | gone=>
     cases h;cases i with
     | zero=>simp[t5] at a
     | succ i=>exact uW d q i k k' l f (by simpa using c)<|by simpa [t5] using a
    | box n=>
     cases b with
     | box cs=>
      simp only at h;split at h
      .rename_i e;have e:=Zc e;cases h;cases i with
       | zero=>simp at c
       | succ i=>
        have:=q.drop n;rw[<-e,Y2] at this;rw[e] at this;exact uW d this i k k' l f (by simpa using c)<|by simpa [t5] using a
      .cases h
     | _=>cases h
    | lst K=>
     cases b with
     | lst z E=>
      simp only at h;split at h
      .cases h;cases M with
       | nil=>exact q.elim
       | cons m M=>
        cases i with
        | succ i=>exact uW d q.2 i k k' l f (by simpa using c)<|by simpa [t5] using a
        | zero=>
         simp only[Zt,Za] at c;cases c;simp only[t5,Zt,Za] at a;unfold aDK at a;split at a
         .rename_i G A;split at a
          .cases a;have:=q.1.s rfl rfl;cases this;rfl
          .cases a
         .cases a
      .cases h
     | _=>cases h
    | map kk C=>
     cases b with
     | map D J B=>
      simp only at h;split at h
      .split at h
       .cases h;cases M with
        | nil=>exact q.elim
        | cons m M=>
         cases i with
         | succ i=>exact uW d q.2 i k k' l f (by simpa using c)<|by simpa [t5] using a
         | zero=>simp at c
       .cases h
      .cases h
     | _=>cases h
    | bx=>
     cases b with
     | box cs=>
      cases h;cases M with
      | nil=>exact q.elim
      | cons m M=>
       cases i with
       | succ i=>exact uW d q.2 i k k' l f (by simpa using c)<|by simpa [t5] using a
       | zero=>simp at c
     | _=>cases h
    | it=>
     cases b with
     | it y I=>
      cases h;cases M with
      | nil=>exact q.elim
      | cons m M=>
       cases i with
       | succ i=>exact uW d q.2 i k k' l f (by simpa using c)<|by simpa [t5] using a
       | zero=>simp at c
     | _=>cases h
    | rows s m=>
     cases b with
     | rows s' es=>
      simp only at h;split at h
      .split at h
       .rename_i e;have e:=Zc e;split at h
        .rename_i v;cases h;cases i with
         | zero=>simp at c
         | succ i=>
          have:=q.drop<|s*m;rw[show s*m=es.flatten.length by rw[Nj v,e,YN],Y2] at this;rw[show es.flatten.length=s*m by rw[Nj v,e,YN]] at this;exact uW d this i k k' l f (by simpa using c)<|by simpa [t5] using a
        .cases h
       .cases h
      .cases h
     | _=>cases h
theorem Lj{H':TH}: ∀{os:List OL} {p:TH} {y M:List TV} {A:aT},upO os p=some y->bT (λm v=>Rj H m v/\∀a,Qh H v a->Qh H' m a) M y->bT (Qo H) p A->bT (Qo H') (t5 os M) A
 | [],p,y,M,A,h,q,d=>by
  cases p with
  | nil=>cases A with
   | nil=>trivial
   | cons=>exact d.elim
  | cons=>cases h
 | o::os,p,y,M,A,h,q,d=>by
  cases p with
  | nil=>cases h
  | cons b p=>
   cases A with
   | nil=>exact d.elim
   | cons a A=>
    simp only[upO] at h;split at h
    .cases h
    .rename_i vs f;cases o with
     | gone=>cases h;exact⟨trivial,Lj f q d.2⟩
     | box n=>
      cases b with
      | box cs=>
       simp only at h;split at h
       .rename_i e;have e:=Zc e;cases h;have k:=q.take n;have l:=q.drop n;rw[<-e,Y2] at l;rw[<-e,Xn] at k;rw[e] at k l;refine⟨?_,Lj f l d.2⟩;let⟨aw,i,g⟩:=d.1;refine⟨aw,by rw[i,k.len],?_⟩;exact bT.of (by rw[g.len,k.len]) λj m c K F=>by
         let⟨v,D,z⟩:=k.get K;exact z.2 c<|g.at D F
       .cases h
      | _=>cases h
     | lst S=>
      cases b with
      | lst k1 Z=>
       simp only at h;split at h
       .rename_i e;have e:=Zc e;cases h;cases M with
        | nil=>exact q.elim
        | cons m M=>
         refine⟨?_,Lj f q.2 d.2⟩;have i:=q.1.1.s;have g:=d.1;show Qo H' (aDK S m) a;clear q;unfold aDK;split
         .split
          .have:=i rfl rfl;cases this;exact g
          .trivial
         .trivial
       .cases h
      | _=>cases h
     | map kk U=>
      cases b with
      | map Y b1 m1=>
       simp only at h;split at h
       .rename_i t;split at h
        .rename_i e2;have t:=Zc t;have e2:=Zc e2;cases h;cases M with
         | nil=>exact q.elim
         | cons m M=>
          refine⟨?_,Lj f q.2 d.2⟩;have i:=q.1.1.s;have g:=d.1;show Qo H' (aGQ kk U m) a;clear q;unfold aGQ;split
          .split
           .split
            .have:=i rfl rfl;cases this;exact g
            .trivial
           .trivial
          .trivial
        .cases h
       .cases h
      | _=>cases h
     | bx=>
      cases b with
      | box cs=>
       cases h;cases M with
       | nil=>exact q.elim
       | cons m M=>
        refine⟨?_,Lj f q.2 d.2⟩;obtain⟨Q,rfl,g⟩:=d.1;have i:=q.1.2 _<|Qh.mkA g;show Qo H' (aMK m) _;clear q;unfold aMK;split
        .let⟨R,e,u⟩:=i.inA;cases e;exact⟨Q,by rw[<-g.len,u.len],u⟩
        .trivial
      | _=>cases h
     | it=>
      cases b with
      | it X p1=>
       cases h;cases M with
       | nil=>exact q.elim
       | cons m M=>
        refine⟨?_,Lj f q.2 d.2⟩;have i:=q.1.1.s;have g:=d.1;show Qo H' (aMJ m) a;clear q;unfold aMJ;split
        .rename_i x W;have e:=aEC W;have:=i rfl<|by rw[e];rfl
         rw[e] at this;cases this;exact g
        .trivial
      | _=>cases h
     | rows s m=>
      cases b with
      | rows s' es=>
       simp only at h;split at h
       .rename_i t;have t:=Zc t;subst t;split at h
        .rename_i e;have e:=Zc e;split at h
         .rename_i O;cases h;have E:es.flatten.length=s'*m:=by rw[Nj O,e,YN]
          have k:=q.take<|s'*m;have l:=q.drop<|s'*m;rw[<-E,Xn] at k;rw[<-E,Y2] at l;rw[E] at k l;refine⟨?_,Lj f l d.2⟩;let⟨aw,i,g⟩:=d.1;refine⟨aw,i,?_⟩;have B:=i5 O k;rw[e] at B;exact bT.of (by rw[g.len,B.len]) λj r a V G=>by
           let⟨e0,J,N⟩:=B.get V;have u:=g.at J G;exact bT.of (by rw[u.len,N.len]) λj m c K F=>by
            let⟨v,D,z⟩:=N.get K;exact z.2 c<|u.at D F
         .cases h
        .cases h
       .cases h
      | _=>cases h
theorem aAL: ∀{M:List TV},G0 H M=true->∀m∈M,∀i n,m=.ms i n->∃(k:Nat) (l:List<|den k),H[i]?=some (.lst k l)
 | [],_,m,a=>by cases a
 | v::r,h,m,a=>by
  intro i n e;subst e;rcases ZN.1 a with e | a
  .subst e;simp only[G0] at h;split at h
   .rename_i o b;split at h
    .exact⟨_,_,b⟩
    .cases h
   .cases h
  .refine aAL (M:=r) ?_ _ a i n rfl;cases v with
   | ms g d=>
    simp only[G0] at h;split at h
    .split at h
     .exact h
     .cases h
    .cases h
   | _=>exact h
theorem aI0{L:Cv}{p:L.P}{q:L.V}(h:L.get S=some (p,q))(x:Qt N S st): Qt N (L.mk' p q) st:=by
 unfold Cv.get at h;split at h
 .rename_i vs w;split at h
  .rename_i E c;split at h
   .rename_i O y;split at h
    .rename_i A;cases h;have C:=Mb (H:=S.hp) y;have o:=aGO c;have s:bT (Rj S.hp) ((mkV L.ss p q).take<|nO L.os) E:=by
      have:=C.take<|nO L.os;rw[<-o,Xn] at this;rw[o] at this;exact this
     have B:bT (Rj S.hp) ((mkV L.ss p q).drop<|nO L.os) vs:=by
      have:=C.drop<|nO L.os;rw[<-o,Y2] at this;rw[o] at this;exact this
     have f:=uW c s;have d:∀m v,m∈mkV L.ss p q->Rj S.hp m v->∀a,Qh S.hp v a->Qh (L.mk' p q).hp m a:=by
      intro m v b r a J;refine r.q _ (λi n e k l K=>?_) a J;let⟨k',D,g⟩:=aAL A m b i n e;exact⟨k',D,g,f i k k' l D K g⟩
     refine⟨x.ln,λt m b=>?_,?_⟩
     .have z:bT (λm v=>∀a,Qh S.hp v a->Qh (L.mk' p q).hp m a) ((mkV L.ss p q).drop<|nO L.os) vs:=
       bT.of B.len λj m v b u=>d m v (ZZ<|Zg b)<|B.at b u
      let⟨v,G,M⟩:=aCm w z b;let⟨a,F,I⟩:=x.tm t v G;exact⟨a,F,M a I⟩
     .refine Lj c ?_ x.hp;refine bT.of s.len λj m v b u=>⟨s.at b u,d m v (Z7<|Zg b)<|s.at b u⟩
    .cases h
   .cases h
  .cases h
 .cases h
theorem N6: ∀{ss:List Pl} {p:fN<|K8 false ss} {q:fN<|K8 true ss} {K:List TV->Option R} {r:R},mkK ss p q K=some r->
 ∃M,K M=some r/\bT (λm i=>m=i\/∃b,m=.lit (.bool b)/\i=.lit (.bool b)) M (mkV ss p q)
 | [],p,q,K,r,h=>⟨[],h,trivial⟩
 | .con c::ss,p,q,K,r,h=>by
  let⟨M,a,d⟩:=N6 (ss:=ss) h;exact⟨_,a,.inl rfl,d⟩
 | .p s::ss,p,q,K,r,h=>by
  let⟨M,a,d⟩:=N6 (ss:=ss) h;exact⟨_,a,.inl rfl,d⟩
 | .v s::ss,p,q,K,r,h=>by
  have g:∃v,v=s.tv (fN.hd q)/\mkK ss p (fN.tl q) (λvs=>K (v::vs))=some r:=by
   simp only[mkK,Lo] at h;split at h
   .rename_i u f;split at h
    .rename_i b;cases b with
     | true=>exact⟨_,f.symm,h⟩
     | false=>exact⟨_,f.symm,h⟩
    .exact⟨_,f.symm,h⟩
   .exact⟨_,rfl,h⟩
  let⟨v,e,h⟩:=g;let⟨M,a,d⟩:=N6 h;exact⟨_,a,.inl e,d⟩
theorem aHU{L:Cv}{p:L.P}{q:L.V}{K:TS->Option R}{r:R}(h:L.mkB p q K=some r): K (L.mk' p q)=some r:=by
 unfold Cv.mkB at h;let⟨M,g,c⟩:=N6 h;have e:M=mkV L.ss p q:=by
  apply Ym ;intro j;cases a:M[j]? with
  | none=>
   rw[XG] at a;rw[Wy,XG,c.len];exact a
  | some m=>
   let⟨i,d,f⟩:=c.get a;rw[d];rcases f with rfl | ⟨b,rfl,rfl⟩<;>rfl
 subst e;exact g
end
inductive ClA(n:Nat): AV->AV->Prop
 | r (a):ClA n a a
 | s (a b m):n<=m->ClA n a b->ClA n a (Ob m b)
theorem ClA.tr{n:Nat}{a b c:AV}(h:ClA n a b)(k:ClA n b c): ClA n a c:=by
 induction k with
 | r=>exact h
 | s b m e _ d=>exact .s _ _ m e d
def atB(l:List Bool)(t:Nat): Bool:=match l[t]? with
 | some b=>b
 | none=>false
def noD(t:Nat): List bO->Bool
 | []=>true
 | o::r=>match o.dst with
  | none=>noD t r
  | some d=>match Nat.beq d t with
   | true=>false
   | false=>noD t r
def kpt(t:Nat): bP->Bool
 | .skip=>true
 | .exit _=>true
 | .ret=>true
 | .stop=>true
 | .region _ _ ops=>noD t ops
 | .seq a b=>kpt t a&&kpt t b
 | .cond _ a b=>kpt t a&&kpt t b
 | .block _ c=>kpt t c
 | .scope c=>kpt t c
 | .loop live _ c=>(match live with
  | none=>true
  | some l=>atB l t)&&kpt t c
 | .mask lx _ _ c=>atB lx t&&kpt t c
 | .told li lx _ c=>(atB li t&&atB lx t)&&kpt t c
 | .frz u c=>!Nat.beq u t&&kpt t c
 | .nilIf ..=>false
 | .loopV ..=>false
def kpL(c:bP): List Nat->Bool
 | []=>true
 | t::r=>match kpt t c with
  | true=>kpL c r
  | false=>false
section
variable {P:Program}{cf:CF}{fl lf n t:Nat}
theorem aIZ{l:List Bool}(h:atB l t=true): l[t]?=some true:=by
 unfold atB at h;split at h
 .rename_i b a;rw[a,h]
 .cases h
theorem aE3{tm:List AV}{d:Option Nat}{v:AV}(h:∀e,d=some e->e≠t): (hK tm d v)[t]?=tm[t]?:=by
 cases d with
 | none=>rfl
 | some e=>exact Zv<|h e rfl
theorem aE4[aG]: ∀{l:List bO} {st st':St},noD t l=true->iQ P cf fl l st=some st'->st'.tmps[t]?=st.tmps[t]?
 | [],st,st',_,h=>by cases h;rfl
 | o::r,st,st',c,h=>by
  have b:noD t r=true/\∀e,o.dst=some e->e≠t:=by
   simp only[noD] at c;split at c
   .rename_i e;exact⟨c,λg h=>by rw[e] at h;cases h⟩
   .rename_i d e;split at c
    .cases c
    .rename_i f;exact⟨c,λg h=>by rw[e] at h;cases h;exact YF f⟩
  simp only[iQ] at h;split at h
  .rename_i i a;rw[aE4 b.1 h];unfold cP at a;split at a
   .split at a
    .cases a;exact aE3 b.2
    .cases a
   .cases a;exact aE3 b.2
   .cases a
  .cases h
def Kp(n t:Nat)(st st':St): Prop:=n<=st'.heap.length/\∀a,st.tmps[t]?=some a->∃b,st'.tmps[t]?=some b/\ClA n a b
theorem Kp.tr{d f e:St}(h:Kp n t d f)(k:Kp n t f e): Kp n t d e:=⟨k.1,λa j=>by
 let⟨b,g,q⟩:=h.2 a j;let⟨c,l,i⟩:=k.2 b g;exact⟨c,l,q.tr i⟩⟩
theorem Kp.same{st st':St}(c:n<=st'.heap.length)(h:st'.tmps[t]?=st.tmps[t]?): Kp n t st st':=⟨c,λa b=>⟨a,by rw[h];exact b,.r a⟩⟩
theorem Kp.head[aG]{live:Option<|List Bool}{tr:Bool}{m:Nat}{st:St}(f:n<=st.heap.length)(c:n<=m)(b:fl<=n)(h:∀l,live=some l->atB l t=true): Kp n t st<|dL live tr fl m st:=by
 refine⟨(qQ ⟨b,f⟩ ⟨b,c⟩).2,λa d=>?_⟩;have e:(G2 live st.tmps)[t]?=some a:=by
  cases live with
  | none=>exact d
  | some l=>exact (EJ _ _ _<|aIZ<|h l rfl).trans d
 cases tr with
 | false=>exact⟨a,e,.r a⟩
 | true=>exact⟨Ob m a,by simp only[dL,Zz,Zk,e];rfl,.s _ _ m c<|.r a⟩
theorem Kp.loop{b:St->St}{step:St->Option (cT×St)}(i:∀st,n<=st.heap.length->Kp n t st (b st))(d:∀st x st',n<=st.heap.length->step st=some (x,st')->x≠.ret->Kp n t st st'):
 ∀(m:Nat) (st:St) (x:cT) (st':St),n<=st.heap.length->fT b step m st=some (x,st')->x≠.ret->Kp n t st st'
 | 0,_,_,_,_,h,_=>by cases h
 | m+1,st,x,st',k,a,j=>by
  simp only[fT] at a;have c:=i st k;split at a
  .rename_i f he;have g:=d _ _ _ c.1 he (by intro e;cases e);exact (c.tr g).tr<|Kp.loop i d m f x st' g.1 a j
  .exact c.tr<|d _ _ _ c.1 a j
theorem l8{a b:Bool}(h:(a&&b)=true): a=true/\b=true:=by simpa using h
theorem lN[aG](g:yT cf)(m:fl<=n): ∀(c:bP) (st:St) (x:cT) (st':St),kpt t c=true->n<=st.heap.length->eR P cf lf fl c st=some (x,st')->x≠.ret->Kp n t st st'
 | .skip,st,x,st',_,f,d,_=>by simp only[eR] at d;cases d;exact .same f rfl
 | .exit _,st,x,st',_,f,d,_=>by simp only[eR] at d;cases d;exact .same f rfl
 | .ret,st,x,st',_,f,d,o=>by simp only[eR] at d;cases d;exact (o rfl).elim
 | .stop,st,x,st',_,f,d,_=>by simp only[eR] at d;cases d
 | .region _ I ops,st,x,st',j,f,d,_=>by
  simp only[eR] at d;split at d
  .rename_i h he;cases d;exact .same (VK g ops st _ ⟨m,f⟩<|Pg he).2<|aE4 j<|Pg he
  .cases d
 | .seq a b,st,x,st',j,f,d,o=>by
  let⟨p,q⟩:=l8 j;simp only[eR] at d;split at d
  .rename_i h he;have k:=lN g m a st _ h p f he (by intro e;cases e);exact k.tr<|lN g m b h x st' q k.1 d o
  .exact lN g m a st x st' p f d o
 | .cond c a b,st,x,st',j,f,d,o=>by
  let⟨p,q⟩:=l8 j;simp only[eR] at d;split at d
  .exact lN g m a st x st' p f d o
  .exact lN g m b st x st' q f d o
  .cases d
 | .block id c,st,x,st',j,f,d,o=>by
  simp only[eR] at d;split at d
  .rename_i i h he;have k:=lN g m c st _ h j f he (by intro e;cases e);split at d<;>cases d<;>exact k
  .exact lN g m c st x st' j f d o
 | .scope c,st,x,st',j,f,d,o=>by
  simp only[eR] at d;exact lN g m c st x st' j f d o
 | .loop live tr c,st,x,st',j,f,d,o=>by
  let⟨p,q⟩:=l8 j;simp only[eR] at d;exact Kp.loop (λs z=>Kp.head z f m λl e=>by rw[e] at p;exact p) (λs y s' z he G=>lN g m c s y s' q z he G) lf st x st' f d o
 | .frz u c,st,x,st',j,f,d,o=>by
  let⟨p,q⟩:=l8 j;simp only[eR] at d;split at d
  .rename_i v H he;have r:n<=H.length:=(Q7 g ⟨m,f⟩ he).2;have k:Kp n t st ⟨st.tmps.set u v,H⟩:=.same r<|Zv<|YF (by simpa using p);exact k.tr<|lN g m c _ x st' q r d o
  .cases d
 | .mask D C tr c,st,x,st',j,f,d,o=>by
  let⟨p,q⟩:=l8 j;simp only[eR,Du] at d;split at d
  .rename_i F h he;split at d
   .cases d;exact (o rfl).elim
   .cases d;have k:=lN g m c st _ h q f he (by intro e;cases e);exact k.tr<|Kp.head k.1 f m λl e=>by cases e;exact p
   .cases d;have k:=lN g m c st _ h q f he (by intro e;cases e);exact k.tr<|Kp.head k.1 f m λl e=>by cases e;exact p
  .cases d
 | .told w D C c,st,x,st',j,f,d,o=>by
  let⟨p,q⟩:=l8 j;let⟨E,A⟩:=l8 p;have B:Kp n t st ⟨cU w st.tmps,st.heap⟩:=.same f<|EJ _ _ _<|aIZ E;simp only[eR,Du] at d;split at d
  .rename_i F h he;split at d
   .cases d;exact (o rfl).elim
   .cases d;have k:=lN g m c ⟨cU w st.tmps,st.heap⟩ _ h q f he (by intro e;cases e);exact (B.tr k).tr<|Kp.head k.1 f m λl e=>by cases e;exact A
   .cases d;have k:=lN g m c ⟨cU w st.tmps,st.heap⟩ _ h q f he (by intro e;cases e);exact (B.tr k).tr<|Kp.head k.1 f m λl e=>by cases e;exact A
  .cases d
 | .nilIf ..,st,x,st',j,f,d,o=>by cases j
 | .loopV ..,st,x,st',j,f,d,o=>by cases j
theorem aCT{c:bP}: ∀{l:List Nat},kpL c l=true->∀t∈l,kpt t c=true
 | [],_,t,a=>by cases a
 | u::l,h,t,a=>by
  simp only[kpL] at h;split at h
  .rename_i b;rcases ZN.1 a with rfl | a
   .exact b
   .exact aCT h t a
  .cases h
end
section
variable [dO]{H H1:TH}{n:Nat}
theorem aOq{n m:Nat}(h:n<=m)(v:TV): cV m (cV n v)=cV n v:=by
 have k:∀i,Nat.blt i n=true->Nat.blt i m=true:=λi e=>by
  have:i<n:=by simpa [YC] using e
  simpa [YC] using YM this h
 cases v with
 | fn vi cs=>cases cs<;>rfl
 | ms i m=>simp only[cV];cases a:Nat.blt i n with | true=>simp only[cV,k _ a] | false=>rfl
 | ptr i o=>simp only[cV];cases a:Nat.blt i n with | true=>simp only[cV,k _ a] | false=>rfl
 | pel i j o=>simp only[cV];cases a:Nat.blt i n with | true=>simp only[cV,k _ a] | false=>rfl
 | mp i=>simp only[cV];cases a:Nat.blt i n with | true=>simp only[cV,k _ a] | false=>rfl
 | it i=>simp only[cV];cases a:Nat.blt i n with | true=>simp only[cV,k _ a] | false=>rfl
 | rs i m=>simp only[cV];cases a:Nat.blt i n with | true=>simp only[cV,k _ a] | false=>rfl
 | rel i m j o=>simp only[cV];cases a:Nat.blt i n with | true=>simp only[cV,k _ a] | false=>rfl
 | _=>rfl
theorem S4{n m:Nat}(h:n<=m)(v:TV): iS m (iS n v)=iS n v:=by
 have k:∀i,Nat.blt i n=true->Nat.blt i m=true:=λi e=>by
  have:i<n:=by simpa [YC] using e
  simpa [YC] using YM this h
 cases v with
 | fn vi cs=>simp only[iS,Ya];congr 1;exact ZS λc _=>aOq h c
 | ms i x=>simp only[iS,cV];cases a:Nat.blt i n with | true=>simp only[iS,cV,k _ a] | false=>rfl
 | ptr i o=>simp only[iS,cV];cases a:Nat.blt i n with | true=>simp only[iS,cV,k _ a] | false=>rfl
 | pel i j o=>simp only[iS,cV];cases a:Nat.blt i n with | true=>simp only[iS,cV,k _ a] | false=>rfl
 | mp i=>simp only[iS,cV];cases a:Nat.blt i n with | true=>simp only[iS,cV,k _ a] | false=>rfl
 | it i=>simp only[iS,cV];cases a:Nat.blt i n with | true=>simp only[iS,cV,k _ a] | false=>rfl
 | rs i x=>simp only[iS,cV];cases a:Nat.blt i n with | true=>simp only[iS,cV,k _ a] | false=>rfl
 | rel i x j o=>simp only[iS,cV];cases a:Nat.blt i n with | true=>simp only[iS,cV,k _ a] | false=>rfl
 | _=>rfl
theorem aOo{n m:Nat}(h:n<=m)(v:TV): vF m (vF n v)=vF n v:=by
 have k:∀i,Nat.blt i n=true->Nat.blt i m=true:=λi e=>by
  have:i<n:=by simpa [YC] using e
  simpa [YC] using YM this h
 cases v with
 | agg cs=>simp only[vF,Ya];congr 1;exact ZS λc _=>S4 h c
 | fn vi cs=>exact S4 h<|.fn vi cs
 | ms i x=>simp only[vF,iS,cV];cases a:Nat.blt i n with | true=>simp only[vF,iS,cV,k _ a] | false=>rfl
 | ptr i o=>simp only[vF,iS,cV];cases a:Nat.blt i n with | true=>simp only[vF,iS,cV,k _ a] | false=>rfl
 | pel i j o=>simp only[vF,iS,cV];cases a:Nat.blt i n with | true=>simp only[vF,iS,cV,k _ a] | false=>rfl
 | mp i=>simp only[vF,iS,cV];cases a:Nat.blt i n with | true=>simp only[vF,iS,cV,k _ a] | false=>rfl
 | it i=>simp only[vF,iS,cV];cases a:Nat.blt i n with | true=>simp only[vF,iS,cV,k _ a] | false=>rfl
 | rs i x=>simp only[vF,iS,cV];cases a:Nat.blt i n with | true=>simp only[vF,iS,cV,k _ a] | false=>rfl
 | rel i x j o=>simp only[vF,iS,cV];cases a:Nat.blt i n with | true=>simp only[vF,iS,cV,k _ a] | false=>rfl
 | _=>rfl
theorem aDs{n m:Nat}(h:n<=m)(o:pE): gZ m (gZ n o)=gZ n o:=by
 cases o with
 | box cs=>simp only[gZ,Ya];congr 1;exact ZS λc _=>S4 h c
 | rows s es=>simp only[gZ,Ya];congr 1;exact ZS λe _=>by simp only[Function.comp,Ya];exact ZS λc _=>S4 h c
 | fr k a=>
  simp only[gZ];cases d:Nat.ble k n with
  | true=>simp only[gZ,Yx<|ZB (Zj d) h]
  | false=>rfl
 | _=>rfl
theorem aLr{v:TV}{a:AV}(q:Qh H v a): Qh ((H.take n).map<|gZ n) (vF n v) a:=by
 cases v with
 | agg cs=>
  obtain⟨aw,rfl,c⟩:=q.inA;exact Qh.mkA<|c.mapL λ_ _ q=>(Br q).2
 | undef=>exact Qh.u _
 | tup=>exact Qh.u _
 | _=>exact (Br (n:=n) q).2
theorem aSv{v:TV}{a b:AV}(c:n=H.length)(q:Qh H v a)(h:ClA n a b): Qh (H.map<|gZ n) (vF n v) b:=by
 induction h with
 | r=>
  have:=aLr (n:=n) q;rw[c,XO] at this;rw[c];exact this
 | s b m d _ f=>
  have:=aFe (n:=m) f;rw[aOo d,ZW<|by simp;omega,Ya] at this;have e:gZ m∘gZ n=gZ n:=funext λo=>aDs d o;rw[e] at this;exact this
theorem aSw{o:pE}{a b:dI}(c:n=H.length)(q:Qo H o a)(h:ClO n a b): Qo (H.map<|gZ n) (gZ n o) b:=by
 induction h with
 | r=>
  have:=(RT (n:=n) q).2;rw[c,XO] at this;rw[c];exact this
 | s b m d _ f=>
  have:=(RT (n:=m) f).1;rw[aDs d,ZW<|by simp;omega,Ya] at this;have e:gZ m∘gZ n=gZ n:=funext λo=>aDs d o;rw[e] at this;exact this
end
section
variable [dO]{R:Type}{H H1:TH}{A:aT}{N:Nat}{S:TS}{st:St}{P:Program}{T:List cO}{cf:CF}{op:Gp}{K:TV->TS->Option R}{r:R}{E:XE}{n:Nat}{d:Option Nat}
def Lg{P:Type}(Q:(o:Pk P)->o.lay.V->Prop): (l:List<|Pk P)->pF l->Prop
 | [],t=>t.elim
 | [o],t=>Q o t
 | o::o'::r,t=>match t with
  | .inl t=>Q o t
  | .inr s=>Lg Q (o'::r) s
theorem Lg.two{P:Type}{Q b:(o:Pk P)->o.lay.V->Prop}: ∀{l:List<|Pk P} {t:pF l},Lg Q l t->Lg b l t->∃o∈l,∃t,Q o t/\b o t
 | [],t,_,_=>t.elim
 | [o],t,h,k=>⟨o,ZM,t,h,k⟩
 | o::a::r,.inl t,h,k=>⟨o,ZM,t,h,k⟩
 | o::a::r,.inr t,h,k=>let ⟨o,c,t,h⟩:=Lg.two (l:=a::r) h k;⟨o,ZQ _ c,t,h⟩
theorem aDL{P R:Type}{p:P}{b:Bool}{K:cT->TS->Option R}{r:R}: ∀{l:List<|Pk P} {x:Option<|pF l},swO p b l x K=some r->∃t,x=some t/\Lg (λo t=>K o.x (o.lay.mk' (o.pr p) t)=some r) l t
 | [],x,h=>by cases h
 | [o],x,h=>by
  simp only[swO] at h;obtain⟨t,rfl,h⟩:=bD h;refine⟨t,rfl,?_⟩;split at h
  .exact aHU h
  .exact h
 | o::a::l,x,h=>by
  simp only[swO] at h;rcases aGv h with⟨t,rfl,h⟩ | ⟨s,rfl,h⟩
  .refine⟨.inl t,rfl,?_⟩;split at h
   .exact aHU h
   .exact h
  .let⟨t,e,h⟩:=aDL (l:=a::l) h;cases e;exact⟨.inr _,rfl,h⟩
theorem aDH: ∀{os:List OL} {H:TH} {c:List TV},upO os H=some c->H.length=os.length
 | [],H,c,h=>by
  cases H with
  | nil=>rfl
  | cons=>cases h
 | o::os,H,c,h=>by
  cases H with
  | nil=>cases h
  | cons b H=>
   simp only[upO] at h;split at h
   .cases h
   .rename_i vs a;simp[aDH a]
theorem RN{L:Cv}{S:TS}{x:L.P×L.V}(h:L.get S=some x): S.hp.length=L.os.length:=by
 unfold Cv.get at h;split at h
 .split at h
  .rename_i a;exact aDH a
  .cases h
 .cases h
theorem aNM{L:Cv}{p:L.P}{q:L.V}(h:L.get S=some (p,q))(i k k':Nat)(l:List<|den k)(c:List<|den k')(f:S.hp[i]?=some (.lst k l))(n:(L.mk' p q).hp[i]?=some (.lst k' c)): c.length=l.length:=by
 unfold Cv.get at h;split at h
 .split at h
  .rename_i m a;split at h
   .rename_i o b;split at h
    .cases h;have g:=Mb (H:=S.hp) b;have e:=aGO a;have j:bT (Rj S.hp) ((mkV L.ss p q).take<|nO L.os) m:=by
      have:=g.take<|nO L.os;rw[<-e,Xn] at this;rw[e] at this;exact this
     exact uW a j i k k' l c f n
    .cases h
   .cases h
  .cases h
 .cases h
theorem aE7{kl:List Nat}: ∀{i:Nat} {H H':TH},UD kl i H H'=true->∀(j k:Nat) (l:List<|den k),i+j∉kl->H[j]?=some (.lst k l)->∃(k':Nat) (f:List<|den k'),H'[j]?=some (.lst k' f)
 | i,[],H',h,j,k,l,_,c=>by simp at c
 | i,a::r,[],h,_,_,_,_,_=>by cases h
 | i,a::r,b::s,h,j,k,l,n,c=>by
  have o:UD kl (i+1) r s=true->∀e,j=e+1->∃(k':Nat) (f:List<|den k'),(b::s)[j]?=some (.lst k' f):=by
   rintro q e rfl;let⟨k',f,g⟩:=aE7 q e k l (by rw[Yu,Wg 1];exact n) (by simpa using c);exact⟨k',f,by simpa using g⟩
  simp only[UD] at h;cases j with
  | succ e=>
   refine o ?_ e rfl;split at h
   .split at h
    .exact h
    .split at h
     .exact h
     .cases h
   .exact h
  | zero=>
   simp only[Zt,Za] at c;subst c;simp only at h;split at h
   .exact⟨_,_,rfl⟩
   .split at h
    .rename_i p;exact absurd p<|by rw[aCS<|by simpa using n];simp
    .cases h
theorem aEz{os:List OL}: ∀{l:List Nat},aK1 os l=true->∀i∈l,os[i]?=some .gone
 | [],_,i,a=>by cases a
 | j::l,h,i,a=>by
  simp only[aK1] at h;split at h
  .rename_i o b;split at h
   .rcases ZN.1 a with rfl | a
    .exact b
    .exact aEz h i a
   .cases h
  .cases h
theorem TP: ∀{os:List OL} {vs:List TV} {i:Nat} {o:pE},os[i]?=some .gone->(t5 os vs)[i]?=some o->o=.gone
 | [],vs,i,o,h,_=>by simp at h
 | c::os,vs,0,o,h,a=>by
  simp only[Zt,Za] at h;subst h;simp only[t5,Zt,Za] at a;exact a.symm
 | c::os,vs,i+1,o,h,a=>by
  have b:os[i]?=some .gone:=by simpa using h
  clear h;cases c<;>simp only[t5] at a<;>first
   | exact TP b (by simpa using a)
   | (split at a<;>first | exact TP b (by simpa using a) | (simp at a))
theorem vC{L:Cv}{S:TS}{x:L.P×L.V}(h:L.fit S=some x): L.get S=some x/\∀i∈L.fo,L.os[i]?=some .gone:=by
 unfold Cv.fit at h;split at h
 .rename_i e;exact⟨h,aEz e⟩
 .cases h
theorem RH{n:Nat}{φ:Nat->dI}: ∀{l:List Nat} {H:TH},(ovO n φ l H).length=H.length
 | [],_=>rfl
 | _::r,H=>by simp[ovO,RH (l:=r)]
theorem M5{n:Nat}{φ:Nat->dI}{i:Nat}: ∀{l:List Nat} {H:TH},i∉l->(ovO n φ l H)[i]?=H[i]?
 | [],_,_=>rfl
 | j::r,H,h=>by
  simp only[ZN,not_or] at h;rw[ovO,Zv λe=>h.1 e.symm];exact M5 h.2
theorem aCC{n:Nat}{φ:Nat->dI}{i:Nat}: ∀{l:List Nat} {H:TH},i∈l->i<H.length->(ovO n φ l H)[i]?=some (.fr n<|φ i)
 | j::r,H,h,a=>by
  rw[ovO,Z5];split
  .rename_i e;subst e;rw[Zu<|by rw[RH];exact a]
  .rename_i e;rcases ZN.1 h with rfl | h
   .exact (e rfl).elim
   .exact aCC h a
theorem RD{kl:List Nat}{n:Nat}{a:TH}: ∀{l:List Nat} {H:TH},(rsO kl n a l H).length=H.length
 | [],_=>rfl
 | _::r,H=>by
  simp only[rsO];split<;>simp[RD (l:=r)]
theorem SP{kl:List Nat}{n i:Nat}{a:TH}: ∀{l:List Nat} {H:TH},i∉l->(rsO kl n a l H)[i]?=H[i]?
 | [],_,_=>rfl
 | j::r,H,h=>by
  simp only[ZN,not_or] at h;rw[rsO];split
  .rw[Zv λe=>h.1 e.symm];exact SP h.2
  .exact SP h.2
theorem L1{kl:List Nat}{n i:Nat}{d:TH}{o:pE}(c:d[i]?=some o): ∀{l:List Nat} {H:TH},i∈l->i<H.length->(rsO kl n d l H)[i]?=some (Mt kl<|gZ n o)
 | j::r,H,h,b=>by
  rw[rsO];rcases ZN.1 h with rfl | h
  .rw[c];exact Z3<|by rw[RD];exact b
  .split
   .rename_i f a;rw[Z5];split
    .rename_i e;subst e;rw[c] at a;cases a;rw[Zu<|by rw[RD];exact b]
    .exact L1 c h b
   .exact L1 c h b
theorem aMd{L:Cv}{n:Nat}{φ:Nat->dI}{p:L.P}{q:L.V}(h:∀i∈L.fo,L.os[i]?=some .gone): HM (L.mk' p q).hp (L.mkG n φ p q).hp:=by
 intro i k l a;have b:i∉L.fo:=λc=>by cases TP (h i c) a
 exact⟨k,l,by rw[<-a];exact M5 b,rfl⟩
theorem aPM{L:Cv}{n:Nat}{φ:Nat->dI}{p:L.P}{q:L.V}(h:∀i∈L.fo,L.os[i]?=some .gone)(c:Qt N (L.mk' p q) st)(k:∀i∈L.fo,∀b,st.heap[i]?=some b->ClO n (φ i) b): Qt N (L.mkG n φ p q) st:=by
 refine Qt.hpM (S:=L.mk' p q) (st:=st) c (aMd h)<|bT.of (by rw[c.hp.len];exact RH.symm) λj o b d f=>?_;by_cases e:j∈L.fo
 .have g:j<(L.mk' p q).hp.length:=by rw[<-c.hp.len];exact (Ze.1 f).1
  rw[aCC e g] at d;cases d;exact k j e b f
 .rw[M5 e] at d;exact (c.hp.at d f).mono<|aMd h
theorem Q0{L:Cv}{p:L.P}{q:L.V}{n:Nat}{φ:Nat->dI}(h:L.fit S=some (p,q))(a:Qt N S st)(c:∀i∈L.fo,∀b,st.heap[i]?=some b->ClO n (φ i) b): Qt N (L.mkG n φ p q) st:=
 aPM (vC h).2 (aI0 (vC h).1 a) c
theorem aEd{n:Nat}{φ:Nat->dI}{H:TH}: ∀{l:List Nat},aKg n H l=some (l.map φ)->∀i∈l,H[i]?=some (.fr n<|φ i)
 | [],_,i,a=>by cases a
 | j::l,h,i,a=>by
  simp only[aKg] at h;split at h
  .rename_i o c;split at h
   .split at h
    .rename_i e;have e:=Zc e;subst e;split at h
     .rename_i f b;simp only[ZE,Za,XU] at h;obtain⟨rfl,rfl⟩:=h;rcases ZN.1 a with rfl | a
      .exact c
      .exact aEd b i a
     .cases h
    .cases h
   .cases h
  .cases h
theorem RO{L:Cv}{p:L.P}{q:L.V}{n:Nat}{φ:Nat->dI}(h:L.getF n S=some (L.fo.map φ,p,q))(a:Qt N S st): Qt N (L.mkG n φ p q) st:=by
 unfold Cv.getF at h;split at h
 .rename_i f e;split at h
  .rename_i x g;simp only[Za,Zi] at h;obtain⟨rfl,rfl⟩:=h;exact Q0 g a λi c b d=>a.hp.at (aEd e i c) d
  .cases h
 .cases h
theorem aAT{t:Nat}{v:TV}{B:TT}: ∀{A:TT},dA t (A++B)=some v->dA t A=some v\/dA t B=some v
 | [],h=>.inr h
 | (s,u)::A,h=>by
  simp only[Vf,dA] at h |-;split at h
  .exact .inl h
  .exact aAT h
theorem UG{kl:List Nat}{n t:Nat}{c:TT}{v:TV}: ∀{l:List Nat},dA t (rsT kl n c l)=some v->t∈l/\∃u,dA t c=some u/\v=Td kl (vF n u)
 | [],h=>by cases h
 | s::l,h=>by
  simp only[rsT] at h;split at h
  .rename_i u d;simp only[dA] at h;split at h
   .rename_i e;have e:=Zc e;subst e;cases h;exact⟨ZM,u,d,rfl⟩
   .let⟨a,b⟩:=UG h;exact⟨ZQ _ a,b⟩
  .let⟨a,b⟩:=UG h;exact⟨ZQ _ a,b⟩
structure OKo(sp:r7)(p:sp.ins.P)(q:sp.ins.V)(o:Pk sp.ins.P): Prop where
 fo:o.lay.fo=sp.ins.fo
 hm:∀t,HMk sp.kl (sp.ins.mk' p q).hp (o.lay.mk' (o.pr p) t).hp
 ln:∀t,(sp.ins.mk' p q).hp.length<=(o.lay.mk' (o.pr p) t).hp.length
theorem aBJ{n i k:Nat}{l:List<|den k}(h:(H.map<|gZ n)[i]?=some (.lst k l)): H[i]?=some (.lst k l):=by
 rw[Zk,Zq] at h;let⟨o,b,a⟩:=h;cases o<;>simp only[gZ] at a<;>first | (cases a;done) | (cases a;exact b) | (split at a<;>cases a)
section
variable {N':Nat}{S1:TS}{st1 st2:St}{sp:r7}{p:sp.ins.P}{q:sp.ins.V}{o:Pk sp.ins.P}{φ:Nat->dI}{u:o.lay.V}
theorem aHp(F:Qt N S1 st1)(E:sp.ins.fit S1=some (p,q))(U:UD (sp.kl++sp.ins.fo) 0 S1.hp (sp.ins.mk' p q).hp=true)(Y:∀i∈sp.ins.fo,∀b,st1.heap[i]?=some b->b=φ i)(G:OKo sp p q o)(s:Qt N' (o.lay.mkG sp.ins.os.length φ (o.pr p) u) st2): HMk sp.kl S1.hp (rsO sp.kl S1.hp.length S1.hp sp.ins.fo (o.lay.mk' (o.pr p) u).hp)/\Qt N' ⟨(o.lay.mk' (o.pr p) u).tm,rsO sp.kl S1.hp.length S1.hp sp.ins.fo (o.lay.mk' (o.pr p) u).hp⟩ st2:=by
 have m:S1.hp.length=sp.ins.os.length:=RN (vC E).1;have I:S1.hp.length=(sp.ins.mk' p q).hp.length:=by
  rw[<-F.hp.len];exact (aI0 (vC E).1 F).hp.len
 have e:st2.heap.length=(o.lay.mk' (o.pr p) u).hp.length:=by rw[s.hp.len];exact RH
 have L:∀i a,S1.hp[i]?=some a->i<(o.lay.mk' (o.pr p) u).hp.length:=λi a h=>by
  have h1:=(Ze.1 h).1;have h2:=G.ln u;omega
 have O:HMk sp.kl S1.hp<|rsO sp.kl S1.hp.length S1.hp sp.ins.fo (o.lay.mk' (o.pr p) u).hp:=by
  intro i k l g n;by_cases f:i∈sp.ins.fo
  .exact⟨k,l,by rw[L1 n f<|L i _ n];rfl,rfl⟩
  .let⟨k',M,Q⟩:=aE7 U i k l (by rw[Z0];simp[g,f]) n;let⟨Z,V,X,W⟩:=G.hm u i k' M g Q;exact⟨Z,V,by rw[SP f];exact X,by rw[W];exact aNM (vC E).1 i k k' l M n Q⟩
 have x:∀i,i∉sp.ins.fo->(o.lay.mkG sp.ins.os.length φ (o.pr p) u).hp[i]?=(o.lay.mk' (o.pr p) u).hp[i]?:=λi g=>M5 (by rw[G.fo];exact g);have v:∀i,i∈sp.ins.fo->i<(o.lay.mk' (o.pr p) u).hp.length->(o.lay.mkG sp.ins.os.length φ (o.pr p) u).hp[i]?=some (.fr sp.ins.os.length<|φ i):=λi g n=>aCC (by rw[G.fo];exact g) n;have D:HM (o.lay.mkG sp.ins.os.length φ (o.pr p) u).hp<|rsO sp.kl S1.hp.length S1.hp sp.ins.fo (o.lay.mk' (o.pr p) u).hp:=by
  intro i k l g;have K:i<(o.lay.mk' (o.pr p) u).hp.length:=by rw[<-e,s.hp.len];exact (Ze.1 g).1
  by_cases f:i∈sp.ins.fo
  .rw[v i f K] at g;cases g
  .exact⟨k,l,by rw[SP f,<-x i f];exact g,rfl⟩
 refine⟨O,Qt.hpM (S:=o.lay.mkG sp.ins.os.length φ (o.pr p) u) s D<|bT.of (by rw[RD];exact e) λj a b H r=>?_⟩;have A:j<(o.lay.mk' (o.pr p) u).hp.length:=by rw[<-e];exact (Ze.1 r).1
 by_cases f:j∈sp.ins.fo
 .have y:ClO sp.ins.os.length (φ j) b:=s.hp.at (v j f A) r;have C:j<S1.hp.length:=by rw[m];exact (Ze.1<|(vC E).2 j f).1
  have J:j<st1.heap.length:=by rw[F.hp.len];exact C
  have z:=Zb C;have t:=Zb J;rw[L1 z f A] at H;cases H;have R:=F.hp.at z t;rw[Y j f _ t] at R;rw[<-m] at y;exact aBc (λi k l g n=>O i k l g<|aBJ n)<|aSw rfl R y
 .rw[SP f,<-x j f] at H;exact (s.hp.at H r).mono D
theorem aJh{S:TS}{x:cT}(s:Qt N S st)(I:Qt N S1 st1)(r:S1.hp.length=S.hp.length)(A:∀(i k:Nat) (l:List<|den k),S.hp[i]?=some (.lst k l)->S1.hp[i]?=some (.lst k l))(D:sp.ins.fit S1=some (p,q))(Q:UD (sp.kl++sp.ins.fo) 0 S1.hp (sp.ins.mk' p q).hp=true)(O:∀i∈sp.ins.fo,∀b,st1.heap[i]?=some b->b=φ i)(L:OKo sp p q o)(V:Qt N (o.lay.mkG sp.ins.os.length φ (o.pr p) u) st2)(K:x≠.ret->∀t∈sp.kt,Kp sp.ins.os.length t st st2): Qt N (aft sp S.tm S1.hp x<|o.lay.mk' (o.pr p) u) st2:=by
 let⟨F,n⟩:=aHp I D Q O L V;have h:S1.hp.length=sp.ins.os.length:=RN (vC D).1;have f:x≠.ret->Qt N ⟨(o.lay.mk' (o.pr p) u).tm++rsT sp.kl S1.hp.length S.tm sp.kt,rsO sp.kl S1.hp.length S1.hp sp.ins.fo (o.lay.mk' (o.pr p) u).hp⟩ st2:=by
  intro J;refine⟨n.ln,λt v g=>?_,n.hp⟩;rcases aAT g with g | g
  .exact n.tm t v g
  .obtain⟨M,w,E,rfl⟩:=UG g;let⟨a,G,R⟩:=s.tm t w E;let⟨b,y,C⟩:=(K J t M).2 a G;refine⟨b,y,?_⟩;rw[<-h] at C;exact Dx (λi k l H r=>F i k l H<|A i k l<|aBJ r)<|aSv r R C
 cases x with
 | ret=>exact n
 | normal=>exact f<|by intro e;cases e
 | exit j=>exact f<|by intro e;cases e
end
def IOK[aG](P:Program)(T:List cO)(sp:ISp): Prop:=∀n p q t,sp.s.F n p q=some t->∀φ aw H,aw.length=sp.na->sp.fl<=H.length->Qt aw.length (sp.s.ins.mkG sp.s.ins.os.length φ p q) ⟨aw,H⟩->
 ∃aw' H',fB P T n sp.fl sp.vi aw H=some (jO aw',H')/\aw'.length=sp.nr/\Lg (λo t=>Qt sp.nr (o.lay.mkG sp.s.ins.os.length φ (o.pr p) t) ⟨aw',H'⟩/\OKo sp.s p q o) sp.s.outs t
theorem aER: ∀{vs:List TV} {aw:List AV} {i t:Nat} {v:TV},Qc H vs aw->dA t (OE i vs)=some v->∃j a,t=i+j/\aw[j]?=some a/\Qh H v a
 | [],_,i,t,v,_,h=>by cases h
 | u::vs,a::aw,i,t,v,q,h=>by
  simp only[OE,dA] at h;split at h
  .rename_i e;have e:=Zc e;cases h;exact⟨0,a,by omega,rfl,q.1⟩
  .let⟨j,b,f,d,c⟩:=aER q.2 h;exact⟨j+1,b,by omega,by simpa using d,c⟩
theorem R2{vs:List TV}{aw:List AV}(b:Qs H A)(q:Qc H vs aw): Qt aw.length ⟨OE 0 vs,H⟩ ⟨aw,A⟩:=by
 refine⟨rfl,λt v f=>?_,b⟩;let⟨j,a,e,c,d⟩:=aER q f;exact⟨a,by rw[e,Z0];exact c,d⟩
theorem aMa{c t:Nat}{b:List AV}{e:aT}(h:Qt c S ⟨b,e⟩)(f:t<c): ∃a,b[t]?=some a/\Qh S.hp (match dA t S.tm with | some v=>v | none=>.undef) a:=by
 cases d:dA t S.tm with
 | some v=>exact h.tm t v d
 | none=>exact⟨b[t]'(by rw[h.ln];exact f),Zb _,Qh.u _⟩
theorem aKc{d:Nat}{c:List AV}{o:aT}(h:Qt d S ⟨c,o⟩): Qh S.hp (aMV d S.tm)<|jO c:=by
 have q:c.length=d:=h.ln;have f:∀d,Qt d S ⟨c,o⟩->Qh S.hp (.tup<|(List.range d).map λj=>match dA j S.tm with | some v=>v | none=>.undef) (.tup c):=by
  intro d h;refine Qh.mkT<|bT.of (by simp[h.ln]) λj v a p k=>?_;rw[Zk,Zq] at p;obtain⟨n,l,rfl⟩:=p;have e:n=j:=by
   rw[YY<|by rw[<-h.ln];exact (Ze.1 k).1] at l;cases l;rfl
  subst e;let⟨b,g,i⟩:=aMa h (t:=n) (by rw[<-h.ln];exact (Ze.1 k).1);rw[k] at g;cases g;exact i
 match d,c,h,q with
 | 0,[],h,_=>exact f 0 h
 | 1,[a],h,_=>
  let⟨b,g,i⟩:=aMa h (t:=0) (by omega);cases g;exact i
 | m+2,a::b::r,h,_=>exact f _ h
theorem Oj[aG]{fl vi:Nat}{vs:List TV}{aw:List AV}(d:fl<=st.heap.length)(v:Qt N S st)(q:Qc S.hp vs aw): ∀{l:List ISp},(∀sp∈l,IOK P T sp)->Bt n fl vi vs S K l=some r->
 ∃a A tv m,fB P T n fl vi aw st.heap=some (a,A)/\Qt N m ⟨st.tmps,A⟩/\Qh m.hp tv a/\K tv m=some r
 | [],_,h=>by cases h
 | sp::l,y,h=>by
  have e:Bt n fl vi vs S K l=some r->_:=Oj d v q λsp h=>y sp<|ZQ _ h;simp only[Bt] at h;split at h
  .exact e h
  .rename_i w;have w:=Zc w;split at h
   .exact e h
   .rename_i e2;have e2:=Zc e2;split at h
    .exact e h
    rename_i k;have k:=Zc k;split at h
    .rename_i p q' x;split at h
     .rename_i j;let⟨t,G,g⟩:=aDL h;have f:=R2 v.hp q;let φ:Nat->dI:=λi=>(st.heap[i]?).getD default;have z:∀i b,st.heap[i]?=some b->b=φ i:=λi b c=>by show b=(st.heap[i]?).getD default;rw[c];rfl
      let⟨H,H',C,L,F⟩:=y sp ZM n p q' t G φ aw st.heap (by rw[q.len];exact k) (by rw[e2];exact d) (Q0 x f λi M b c=>by rw[z i b c];exact .r _);let⟨o,_,u,⟨J,E⟩,D⟩:=Lg.two F g;let⟨I,B⟩:=aHp f x j (λi _ b c=>z i b c) E J;exact⟨_,H',aMV sp.nr (o.lay.mk' (o.pr p) u).tm,⟨aBa sp.kl S.tm,rsO sp.kl S.hp.length S.hp sp.s.ins.fo (o.lay.mk' (o.pr p) u).hp⟩,by rw[<-w,<-e2];exact C,aAZ v I B.hp,aKc B,D⟩
     .exact e h
    .exact e h
end
section
variable [dO]{R:Type}{H H1:TH}{A:aT}{N:Nat}{S:TS}{st:St}{P:Program}{T:List cO}{cf:CF}{op:Gp}{K:TV->TS->Option R}{r:R}{E:XE}{n:Nat}{d:Option Nat}
def aJo[aG](P:Program)(t:TypeId)(e:EqS): Prop:=∀(cf:CF) (fl:Nat) (H:aT) (x y:den e.k) (aw bs:List AV),Qr (jJ e.k x) aw->Qr (jJ e.k y) bs->
 aL P cf fl (.bin .eql t (.tmp 0)<|.tmp 1) [sD (ag e.k) aw,sD (ag e.k) bs] H=some (bv<|@decide (x=y)<|e.dec x y,H)/\aL P cf fl (.bin .neq t (.tmp 0)<|.tmp 1) [sD (ag e.k) aw,sD (ag e.k) bs] H=some (bv<|!@decide (x=y) (e.dec x y),H)
def KOK(P:Program)(t:TypeId)(e:aLD): Prop:=aBd (cds e.k)=true/\@r8 (den e.k) e.dec P t (qO e.k)
def aJk(P:Program)(t:TypeId): Prop:=P.underlying t=some .string/\∀s,aO P (Builtin.len_ #[t] 0 #[.string s])=some (.int .i64 ((s.size:Nat):Int))
def aGD(P:Program)(s d:TypeId)(k:IntKind): Prop:=∀j a,aO P (convert s d<|.int j a)=some (.int k<|k.wrap a)
def aIV(s bytes:Nat)(z:List Value): bP:=(.seq (.region false [] [⟨(some 2),.mov<|.lit bL,none⟩])<|.nilIf 0 3 4 (.seq (.region false [] [⟨(some 2),.mov<|.lit bL,none⟩]) .ret)<|.seq (.region false [] [⟨(some 5),.buildSl true s 0 z [],none⟩,⟨(some 6),.mov<|.tmp 0,none⟩,⟨(some 7),.append s bytes (.tmp 5)<|.tmp 6,none⟩,⟨(some 2),.mov<|.tmp 7,none⟩]) .ret)
def aM6[aG](T:List cO)(vi k:Nat): Prop:=∃fid bytes z,getF T vi=some ⟨fid,8,[.tmp 2],aIV (cds k).length bytes z⟩/\0<(cds k).length/\bytes<=100000
def POK[aG](T:List cO)(vi:Nat): PSp->Prop
 | .srt k=>aG.prim vi=some (vQ (ag k) (cds k).length)
 | .cln k=>aM6 T vi k
 | .ord k F=>∃g,aG.prim vi=some (pK g)/\∀fl H id (l:List<|den k) es,fl<=id->H[id]?=some (.blk (cds k).length es)->Ql k l es->l.length<=1000000->
  ∃es',g fl [.ms id l.length 0 l.length] H=some (.tup [],H.set id<|.blk (cds k).length es')/\Ql k (F l) es'/\(F l).length=l.length
 | .ins k=>∃g,aG.prim vi=some (pK g)/\∀fl H id y (i:Nat) es row,fl<=id->(∃id2,id≠id2/\y=.ms id2 1 0 1/\H[id2]?=some (.blk (cds k).length [row]))->H[id]?=some (.blk (cds k).length es)->row.length=(cds k).length->i<=es.length->es.length<=1000000->
  g fl [.ms id es.length 0 es.length,.lit<|.int .i64 (i:Nat),y] H=some (.ms id (es.length+1) 0<|es.length+1,H.set id<|.blk (cds k).length (es.take i++row::es.drop i))
structure s8[aG](P:Program)(T:List cO)(E:XE): Prop where
 cs:∀vi c,E.cs vi=some c->V5 P T vi c
 eq:∀t e,E.eq t=some e->aJo P t e
 km:∀t e,E.km t=some e->KOK P t e
 st:∀t,E.st t=true->aJk P t
 cv:∀s d k,E.cv s d=some k->aGD P s d k
 pr:∀vi p,E.pr vi=some p->POK T vi p
 il:∀sp∈E.il,IOK P T sp
 fo:∀cf,yT cf->yT (Jg cf)
theorem aDQ{α β:Type}: ∀(l:List α) (m:List β) (i:Nat) (a:α) (b:β),(l.zip m).set i (a,b)=(l.set i a).zip (m.set i b)
 | [],_,_,_,_=>by simp
 | _::_,[],i,_,_=>by cases i<;>simp
 | x::l,y::m,0,a,b=>rfl
 | x::l,y::m,i+1,a,b=>by simp[aDQ l m i a b]
theorem aAe{k:Nat}{x:den k}{row:List AV}(h:Qr (jJ k x) row): Qh H (val k x)<|sD (ag k) row:=by
 unfold val sD;cases ag k with
 | true=>exact Qh.mkA h.c
 | false=>
  cases b:jJ k x with
  | nil=>exact Qh.u _
  | cons c r=>
   rw[b] at h;cases row with
   | nil=>exact h.elim
   | cons a r=>exact .p _ _ h.1
theorem aMU{k:Nat}{v:TV}{x:den k}{a:AV}{c:TH}(h:RF 0 c k v=some x)(q:Qh H v a): ∃row,a=sD (ag k) row/\Qr (jJ k x) row:=by
 unfold RF at h;split at h
 .rename_i b;split at h
  .obtain⟨aw,rfl,q'⟩:=q.inA;exact⟨aw,by rw[b];rfl,jC h q'⟩
  .cases h
 .rename_i b;exact⟨[a],by rw[b];rfl,jC h (aw:=[a]) ⟨q,trivial⟩⟩
theorem RL: ∀{cs:List Cd} {p:NB cs},aBd cs=true->pI cs p=(kvC cs p).map .lit
 | [],_,_=>rfl
 | c::r,p,h=>by
  cases c<;>first | (cases h;done) | (simp only[aBd] at h;simp only[pI,kvC,ZE,RL h];rfl)
theorem O0: ∀{vs:List Value} {aw:List AV},Qr (vs.map .lit) aw->Dw aw=some vs
 | [],[],_=>rfl
 | v::vs,a::aw,h=>by
  have e:a=.lit v:=by cases h.1;rfl
  subst e;simp only[Dw,O0 h.2]
theorem aIj{k:Nat}{v:TV}{x:den k}{a:AV}{g:TH}(d:aBd (cds k)=true)(h:RF 0 g k v=some x)(q:Qh H v a): lits a=some (qO k x):=by
 unfold RF at h;unfold qO;split at h
 .rename_i f;split at h
  .obtain⟨aw,rfl,q'⟩:=q.inA;have b:=jC h q';unfold jJ at b;rw[RL d] at b;simp only[lits,O0 b,f]
  .cases h
 .rename_i f;have b:=jC h (aw:=[a]) ⟨q,trivial⟩;unfold jJ at b;rw[RL d] at b;generalize kvC (cds k) (dO.un k x)=vs at b;match vs,b with
  | [v],b=>
   have e:a=.lit v:=by cases b.1;rfl
   subst e;rfl
theorem aGj{kk b:Nat}{m:List<|den kk×den b}{rows:List<|List AV}(h:rows.length=m.length): (fU b m rows).map (·.1)=(m.map (·.1)).map (qO kk):=by
 unfold fU;rw[List.map_fst_zip<|by simp[h],Ya];rfl
theorem aES{kk b:Nat}{m:List<|den kk×den b}{rows:List<|List AV}{i:Nat}{p:den kk×den b}{row:List AV}(c:m[i]?=some p)(d:rows[i]?=some row): (fU b m rows)[i]?=some (qO kk p.1,sD (ag b) row):=by
 unfold fU;rw[List.getElem?_zip_eq_some];exact⟨by simp[c],by simp[d]⟩
theorem H6{kt:TypeId}{a:aLD}{c:Nat}{m:List<|den a.k×den c}{rows:List<|List AV}(d:KOK P kt a)(h:rows.length=m.length)(x:den a.k): jQ P kt (qO a.k x) (fU c m rows)=some (m.findIdx? λp=>@decide (p.1=x)<|a.dec p.1 x):=by
 rw[aDc (e2:=(m.map (·.1)).map λx=>(qO a.k x,AV.undef))<|by rw[aGj h,Ya,Ya,Ya];rfl,@r8.find _ a.dec _ _ _ d.2];congr 1;rw[List.findIdx?_map];rfl
theorem aE6{kk c:Nat}{v:TV}{a:AV}{m:List<|den kk×den c}(n:Qs H A)(q:Qh H v a)(h:aIa H kk v=some ⟨c,m⟩):
 ∃rows,Qm c m rows/\((a=.lit (.map none)/\m=[])\/a=.rmp (fU c m rows)\/∃id,a=.mp id/\v=.mp id/\A[id]?=some (.mp<|fU c m rows)/\id<H.length):=by
 unfold aIa at h;split at h
 .split at h
  .rename_i g;cases h;let⟨e,i,h⟩:=HG g;subst e;cases i;subst h;let⟨rows,d,f⟩:=(q.pu trivial).inM;rcases d with d | d
   .exact⟨rows,f,.inl d⟩
   .exact⟨rows,f,.inr<|.inl d⟩
  .cases h
 .split at h
  .rename_i o k;split at h
   .split at h
    .rename_i g;cases h;let⟨e,i,h⟩:=HG g;subst e;cases i;subst h;obtain⟨b,l,rows,rfl,f⟩:=n.get k;exact⟨rows,f,.inr<|.inr ⟨_,q.mp1,rfl,l,(Ze.1 k).1⟩⟩
    .cases h
   .cases h
  .cases h
 .cases h
theorem UF[aG]{kt:TypeId}{z m k:aZ}{ok:Bool}(U:s8 P T E)(t:Qt N S st)(h:cM E n d (.lookup kt z m k ok) S K=some r): dC P cf E.fl N (.lookup kt z m k ok) st K r:=by
 simp only[cM] at h;split at h
 .rename_i o L;have A:=U.km kt o L;split at h
  .rename_i g y;have f:=aIj A.1 y<|t.get k;split at h
   .rename_i p W;let⟨w,x⟩:=p;let⟨rows,O,c⟩:=aE6 t.hp (t.get m) W;split at h
    .rename_i M Y;have V:Qh S.hp (val w M)<|aH st.tmps z:=aP3 Y<|t.get z;have G:∃a,Qh S.hp (val w<|(@cK _ _ o.dec x g).getD M) a/\aL P cf E.fl (.lookup kt z m k ok) st.tmps st.heap=some (if ok then .tup [a,.lit<|.bool (@cK _ _ o.dec x g).isSome] else a,st.heap):=by
      have q:jQ P kt (qO o.k g) (fU w x rows)=_:=H6 A O.len g;have u:∀e,aO P (Instr.checkKey e 10000 kt<|qO o.k g)=some ():=λe=>@r8.chk _ o.dec _ _ _ A.2 e g;rcases @UA _ _ o.dec _ g x with⟨j,F⟩ | ⟨i,v,j,F,I⟩
      .refine⟨aH st.tmps z,by rw[j];exact V,?_⟩;rw[F] at q;rcases c with⟨c,B⟩ | c | ⟨id,c,_,s,_⟩
       .subst B;have J:jQ P kt (qO o.k g) []=some none:=q;simp only[aL,f,c,u,J,j];cases ok<;>rfl
       .simp only[aL,f,c,u,q,j];cases ok<;>rfl
       .simp only[aL,f,c,s,u,q,j];cases ok<;>rfl
      .let⟨row,Z,X⟩:=O.get I;refine⟨sD (ag w) row,by rw[j];exact aAe X,?_⟩;rw[F] at q;have he:=aES I Z;rcases c with⟨c,B⟩ | c | ⟨id,c,_,s,_⟩
       .subst B;simp at I
       .simp only[aL,f,c,u,q,he,j];cases ok<;>rfl
       .simp only[aL,f,c,s,u,q,he,j];cases ok<;>rfl
     let⟨a,R,he⟩:=G;split at h
     .let⟨b,qb,h⟩:=DC h<|Qh.l (H:=S.hp) _;let⟨Q,D,h⟩:=DC h R;exact dC.same t (by rw[he];rfl) (Qh.mkT (cs:=[Q,b]) (aw:=[a,_]) ⟨D,qb,trivial⟩) h
     .let⟨Q,D,h⟩:=DC h R;exact dC.same t (by rw[he];rfl) D h
    .cases h
   .cases h
  .cases h
 .cases h
theorem aIb[aG]{kt:TypeId}{m k v:aZ}(hE:s8 P T E)(x:Qt N S st)(h:cM E n d (.mapUpd kt m k v) S K=some r): dC P cf E.fl N (.mapUpd kt m k v) st K r:=by
 simp only[cM] at h;split at h
 .rename_i b Q;have B:=hE.km kt b Q;split at h
  .rename_i c J;have y:=aIj B.1 J<|x.get k;split at h
   .rename_i id hm;have X:=x.get m;rw[hm] at X;have R:=X.mp1;split at h
    .cases h
    .rename_i j;have j:=Zj j;split at h
     .rename_i p F;let⟨C,q⟩:=p;let⟨rows,w,u⟩:=aE6 x.hp (Qh.mp (H:=S.hp) id) F;split at h
      .rename_i D hv;let⟨row,U,e2⟩:=aMU hv<|x.get v;rcases u with⟨u,_⟩ | u | ⟨a2,u,_,z,a1⟩
       .cases u
       .cases u
       cases u;have A:jQ P kt (qO b.k c) (fU C q rows)=_:=H6 B w.len c;have W:aO P (Instr.checkKey false 10000 kt<|qO b.k c)=some ():=@r8.chk _ b.dec _ _ _ B.2 false c;have t:Instr.sameBits 10000 (qO b.k c) (qO b.k c)=true:=@r8.same _ b.dec _ _ _ B.2 c;have G:∀o:pE,(∀(k:Nat) (l:List<|den k),S.hp[id]?≠some (.lst k l))->HM S.hp (S.hp.set id o):=λo hn=>HM.set λk l e=>absurd e<|hn k l;have L:∀(k:Nat) (l:List<|den k),S.hp[id]?≠some (.lst k l):=by
        intro k l e;simp only[aIa,e] at F;cases F
       have f:∀a,aL P cf E.fl (.mapUpd kt m k v) st.tmps st.heap=some (.lit bI,st.heap.set id<|.mp<|fU C (@kS _ _ b.dec q c D) a)->Qm C (@kS _ _ b.dec q c D) a->dC P cf E.fl N (.mapUpd kt m k v) st K r:=
        λa he M=>dC.set (o:=.map b.k C<|@kS _ _ b.dec q c D) x he (G _ L) ⟨a,rfl,M⟩ (Qh.l _) h
       have g:=@aAN _ _ b.dec _ c D q;rcases @UA _ _ b.dec _ c q with⟨g1,O⟩ | ⟨i,v0,g1,O,Y⟩
       .rw[O] at A g;rw[g] at f;refine f (rows++[row]) ?_<|w.app ⟨e2,trivial⟩;simp only[aL,y,R,j,Zz,z,W,A,U];congr 4;unfold fU;rw[YJ,YJ,List.zip_append<|by simp[w.len]];rfl
       .rw[O] at A g;rw[g] at f;let⟨V,Z,h2⟩:=w.get Y;have he:=aES Y Z;refine f (rows.set i row) ?_<|bT.set (l:=q) (m:=rows) w i e2;simp only[aL,y,R,j,Zz,z,W,A,he,t,U];congr 4;unfold fU;rw[Xz,Xz];exact aDQ _ _ _ _ _
      .cases h
     .cases h
   .cases h
  .cases h
 .cases h
end
section
variable [dO]{R:Type}{H H1:TH}{A:aT}{N:Nat}{S:TS}{st:St}{P:Program}{T:List cO}{cf:CF}{op:Gp}{K:TV->TS->Option R}{r:R}{E:XE}{n:Nat}{d:Option Nat}
theorem K3{v:TV}{a:AV}{s:ByteArray}(h:aF4 v=some s)(q:Qh H v a): a=sv s:=by
 unfold aF4 at h;split at h
 .split at h
  .cases h;exact q.inL
  .cases h
 .cases h
theorem aL0[aG]{x:Option aZ}{b a:Int}(d:Qt N S st)(h:HH S.tm x b=some a)(c:0<=a): (x=none/\a=b)\/(∃y,x=some y/\gS (aH st.tmps y)=some a.toNat):=by
 unfold HH at h;split at h
 .cases h;exact .inl ⟨rfl,rfl⟩
 .rename_i y;have:=wS h<|d.get y;exact .inr ⟨y,rfl,by rw[this];simp[gS,c]⟩
theorem kR[aG]{x:Option aZ}{b a:Int}(d:Qt N S st)(h:HH S.tm x b=some a)(f:0<=a): ∃o,eC st.tmps x=some o/\∀D:Nat,b=(D:Int)->o.getD D=a.toNat:=by
 rcases aL0 d h f with⟨rfl,rfl⟩ | ⟨y,rfl,e⟩
 .exact⟨none,rfl,λD c=>by simp[c]⟩
 .exact⟨some a.toNat,by simp only[eC,e],λD _=>rfl⟩
theorem aId[aG]{t:TypeId}{x:aZ}(c:s8 P T E)(a:Qt N S st)(h:cM E n d (.lenStr t x) S K=some r): dC P cf E.fl N (.lenStr t x) st K r:=by
 simp only[cM] at h;split at h
 .rename_i b;split at h
  .rename_i s f;have e:=K3 f<|a.get x;refine dC.same a ?_ (Qh.l _) h;simp only[aL,e,(c.st t b).2 s]
  .cases h
 .cases h
theorem aGU[aG]{t:TypeId}{x i:aZ}(g:s8 P T E)(a:Qt N S st)(h:cM E n d (.strIdx t x i) S K=some r): dC P cf E.fl N (.strIdx t x i) st K r:=by
 simp only[cM] at h;split at h
 .rename_i c;split at h
  .rename_i s k;have e:=K3 k<|a.get x;split at h
   .rename_i j f;have e2:=wS f<|a.get i;let⟨v,b,h⟩:=bD h;have:=aF5 (cf:=cf) (fl:=E.fl) (H:=st.heap) (g.st t c).1 b;refine dC.same a ?_ (Qh.l _) h;simp only[aL,e,e2];exact this
   .cases h
  .cases h
 .cases h
theorem aCp[aG]{t:TypeId}{x:aZ}{j i:Option aZ}(f:Qt N S st)(h:cM E n d (.strSlice t x j i) S K=some r): dC P cf E.fl N (.strSlice t x j i) st K r:=by
 simp only[cM] at h;split at h
 .rename_i s w;have e:=K3 w<|f.get x;split at h
  .rename_i a k;split at h
   .rename_i b m;let⟨v,c,h⟩:=bD h;unfold aQ0 at c;split at c
    .rename_i g;cases c;let⟨z,q,u⟩:=kR f k g.1;let⟨y,p,o⟩:=kR f m<|by omega
     refine dC.same f ?_ (Qh.l _) h;simp only[aL,e,q,p];rw[u 0 rfl,o s.size rfl,Zu ⟨by omega,g.2.2⟩]
    .cases c
   .cases h
  .cases h
 .cases h
theorem aC3[aG]{x:aZ}(a:Qt N S st)(h:cM E n d (.rangeStr x) S K=some r): dC P cf E.fl N (.rangeStr x) st K r:=by
 simp only[cM] at h;split at h
 .rename_i s c;have e:=K3 c<|a.get x;refine dC.add (v:=.it st.heap.length) (o:=.it s 0) (b:=.raw<|.stringIter s 0) a (by simp only[aL,e]) rfl (by rw[a.hp.ln];exact .it _) h
 .cases h
theorem aFP[aG]{x:aZ}(i:Qt N S st)(h:cM E n d (.nextStr x) S K=some r): dC P cf E.fl N (.nextStr x) st K r:=by
 have q:=i.get x;simp only[cM] at h;split at h
 .rename_i id t;rw[t] at q;have e:aH st.tmps x=.it id:=by
   generalize aH st.tmps x=a at q;cases q with
   | p _ _ q=>cases q
   | it=>rfl
  split at h
  .cases h
  .rename_i c;have c:=Zj c;split at h
   .rename_i o j;split at h
    .rename_i s p;obtain⟨b,m,rfl⟩:=i.hp.get j;rcases d9 h with⟨f,h⟩ | ⟨f,h⟩
     .have f:=Zl f;refine dC.set (o:=.it s<|p+(Utf8.decode s p).2) (b:=.raw<|.stringIter s<|p+(Utf8.decode s p).2) i ?_ (HM.set λk l e=>by rw[j] at e;cases e) rfl (Qh.mkT (cs:=[_,_,_]) (aw:=[_,_,_]) ⟨Qh.l _,Qh.l _,Qh.l _,trivial⟩) h;simp only[aL,e,c,Zz,m,f]
     .have f:=Zp f;refine dC.same i ?_ (Qh.mkT (cs:=[_]) (aw:=[_]) ⟨Qh.l _,trivial⟩) h;simp only[aL,e,c,Zz,m,f,Z9]
    .cases h
   .cases h
 .cases h
theorem aOh[aG]{s t:TypeId}{x:aZ}(e:s8 P T E)(b:Qt N S st)(h:cM E n d (.conv s t x) S K=some r): dC P cf E.fl N (.conv s t x) st K r:=by
 have q:=b.get x;simp only[cM] at h;split at h
 .rename_i k' c;split at h
  .rename_i u f;rw[f] at q;split at h
   .have a:=e.cv s t k' c;unfold aGD at a;refine dC.same b ?_ (Qh.l _) h;simp only[aL,q.inL,a]
   .cases h
  .cases h
 .cases h
theorem aK6[aG](a:Qt N S st)(h:cM E n d .mkMap S K=some r): dC P cf E.fl N .mkMap st K r:=by
 simp only[cM] at h;split at h
 .split at h
  .rename_i kk c _;exact dC.add (v:=.mp st.heap.length) (o:=.map kk c []) (b:=.mp []) a rfl ⟨[],rfl,trivial⟩ (by rw[a.hp.ln];exact .mp _) h
  .cases h
 .cases h
theorem aN9[aG]{x:aZ}(k:Qt N S st)(h:cM E n d (.lenM x) S K=some r): dC P cf E.fl N (.lenM x) st K r:=by
 have q:=k.get x;simp only[cM] at h;split at h
 .rename_i m c;refine dC.same k ?_ (Qh.l _) h;generalize bV S.tm x=v at c q;generalize j:aH st.tmps x=a at q;have s:∀{kk p:Nat} {m:List<|den kk×den p} {rows:List<|List AV},rows.length=m.length->(fU p m rows).length=m.length:=λh=>by simp[fU,h]
  unfold aMb at c;split at c
  .cases c;let⟨rows,t,g⟩:=(q.pu trivial).inM;rcases t with⟨rfl,rfl⟩ | rfl
   .simp only[aL,j];rfl
   .simp only[aL,j,s g.len]
  .split at c
   .rename_i o u;split at c
    .cases c;obtain⟨b,f,rows,rfl,g⟩:=k.hp.get u;have e:=q.mp1;subst e;simp only[aL,j,f,s g.len]
    .cases c
   .cases c
  .cases c
 .cases h
theorem zA[aG]{x:Option aZ}(a:Qt N S st)(h:CX S.tm x=true): eC st.tmps x=some none\/eC st.tmps x=some (some 0):=by
 unfold CX at h;split at h
 .exact .inl rfl
 .rename_i y;split at h
  .rename_i m b;split at h
   .split at h
    .right;simp only[eC,wS b<|a.get y];rfl
    .cases h
   .cases h
  .cases h
theorem aLl[aG]{s:Nat}{x:aZ}{Z U:Option aZ}(c:Qt N S st)(h:aOf s S.tm S.hp Z U (bV S.tm x) (λv=>K v S)=some r): dC P cf E.fl N (.slice s x Z U none) st K r:=by
 have q:=c.get x;have u:eC st.tmps none=some none:=rfl;have hd:∀{k:Nat} {l:List<|den k} {es:List<|List AV},Ql k l es->(cds k).length=s->kX s es=true:=by
  intro k l es h e;cases es with
  | nil=>rfl
  | cons a es=>
   cases l with
   | nil=>exact h.elim
   | cons y l=>simp[kX,h.1.len,rY,e]
 have g:∀{k:Nat} {l I:List<|den k} {es:List<|List AV} {a b:Int},Ql k l es->cut l a b=some I->0<=a/\0<=b/\a.toNat<=b.toNat/\b.toNat<=es.length/\Ql k I ((es.take b.toNat).drop a.toNat):=by
  intro k l I es a b hq J;unfold cut at J;split at J
  .rename_i n;cases J;exact⟨n.1,by omega,by omega,by rw[hq.len];omega,(hq.take _).drop _⟩
  .cases J
 unfold aOf at h;split at h
 .rename_i k l H;rw[H] at q;split at h
  .rename_i e;have e:=Zc e;split at h
   .rename_i a Q;split at h
    .rename_i b n;let⟨I,L,h⟩:=bD h;let⟨es,Y,t⟩:=(q.pu trivial).inS;let⟨W,c2,V,M,F⟩:=g t L;let⟨o1,A,C⟩:=kR c Q W;let⟨o2,B,D⟩:=kR c n c2;rcases Y with⟨d,rfl⟩ | ⟨f,d⟩
     .have X:l=[]:=ZK.1 t.len.symm;subst X;have e3:=C 0 rfl;have e4:=D 0 rfl;have i:b.toNat=0:=by simpa using M
      have j:a.toNat=0:=by omega
      have e2:I=[]:=by
       rw[j,i] at F;exact ZK.1<|by have:=F.len;simpa using this.symm
      subst e2;refine dC.same c ?_ (.p _ _<|Qp.mkS (es:=[]) (.inl ⟨rfl,rfl⟩)<|show Ql k [] [] from trivial) h;simp only[aL,d,A,B];simp[bL,gK,u,e3,e4,j,i]
     .refine dC.same (v:=.sl (f&&b.toNat==es.length)<|(es.take b.toNat).drop a.toNat) c ?_ (.p _ _<|Qp.mkS (.inr ⟨_,rfl⟩) F) h;simp only[aL,d,A,B,u,gK];rw[D es.length<|by rw[t.len],C 0 rfl,Zu ⟨V,M,hd t e⟩]
    .cases h
   .cases h
  .cases h
 .rename_i k l H;rw[H] at q;split at h
  .rename_i e;have e:=Zc e;split at h
   .rename_i a Q;split at h
    .rename_i b n;let⟨I,L,h⟩:=bD h;let⟨es,Y,t⟩:=(q.pu trivial).inV;let⟨W,c2,V,M,F⟩:=g t L;let⟨o1,A,C⟩:=kR c Q W;let⟨o2,B,D⟩:=kR c n c2;rcases Y with⟨d,rfl⟩ | ⟨f,d⟩ | d
     .have X:l=[]:=ZK.1 t.len.symm;subst X;have e3:=C 0 rfl;have e4:=D 0 rfl;have i:b.toNat=0:=by simpa using M
      have j:a.toNat=0:=by omega
      have e2:I=[]:=by
       rw[j,i] at F;exact ZK.1<|by have:=F.len;simpa using this.symm
      subst e2;refine dC.same c ?_ (.p _ _<|Qp.mkV (es:=[]) (.inl ⟨rfl,rfl⟩)<|show Ql k [] [] from trivial) h;simp only[aL,d,A,B];simp[bL,gK,u,e3,e4,j,i]
     .refine dC.same (v:=.sl (f&&b.toNat==es.length)<|(es.take b.toNat).drop a.toNat) c ?_ (.p _ _<|Qp.mkV (.inr<|.inl ⟨_,rfl⟩) F) h;simp only[aL,d,A,B,u,gK];rw[D es.length<|by rw[t.len],C 0 rfl,Zu ⟨V,M,hd t e⟩]
     .refine dC.same (v:=.vw<|(es.take b.toNat).drop a.toNat) c ?_ (.p _ _<|Qp.mkV (.inr<|.inr rfl) F) h;simp only[aL,d,A,B,u,gK];rw[D es.length<|by rw[t.len],C 0 rfl,Zu ⟨V,M,hd t e⟩]
    .cases h
   .cases h
  .cases h
 .rename_i id m H;rw[H] at q;split at h
  .rename_i o ho;split at h
   .rename_i k l;split at h
    .rename_i hk;simp only[Zd] at hk;have e:=Zc hk.1;have e0:0<s:=by simpa [YC] using hk.2
     have d:=q.mw ho;let⟨es,k1,k2⟩:=c.hp.lst ho;rw[e] at k1;split at h
     .rename_i a Q;have go:∀{b:Int},HH S.tm U (((Dd l m).2:Nat):Int)=some b->bnd (sub l (Dd l m) a b) (λw=>K (.ms id<|some w) S)=some r->dC P cf E.fl N (.slice s x Z U none) st K r:=by
       intro b n h;let⟨w,T,h⟩:=bD h;unfold sub at T;split at T
       .rename_i J;cases T;let⟨o1,A,C⟩:=kR c Q J.1;let⟨o2,B,D⟩:=kR c n<|by omega
        refine dC.same c ?_ (.msn id _ k l ho) h;simp only[aL,d,A,B,u,gK,k1];rw[D _ rfl,C 0 rfl];by_cases R:b.toNat<=(Dd l m).2
        .rw[Zu ⟨by omega,R,trivial⟩]
        .rw[ZF λh=>R h.2.1,Zu ⟨by omega,J.2.2,k2.len,e0,trivial⟩]
       .cases T
      split at h
      .split at h
       .rename_i b n;exact go n h
       .cases h
      .split at h
       .rename_i b n;exact go n h
       .cases h
     .cases h
    .cases h
   .cases h
  .cases h
 .rename_i b H;rw[H] at q;split at h
  .rename_i G;simp only[Zd] at G;have q0:=q;cases (q.pu trivial) with
   | emp _ _ z=>
    rcases zA c G.1 with j | j<;>rcases zA c G.2 with i | i<;>rcases z with z | z | ⟨n,z⟩ <;>
     first
     | (refine dC.same (v:=.lit bL) c ?_ (by rw[<-z];exact q0) h;simp only[aL,z,j,i,u,bL,gK];simp;done)
     | (refine dC.same (v:=.sl true []) c ?_ (by rw[<-z];exact q0) h;simp only[aL,z,j,i,u,gK];simp[kX];done)
     | (refine dC.same (v:=.sl false []) c ?_ (by rw[<-z];exact q0) h;simp only[aL,z,j,i,u,gK];simp[kX];done)
  .cases h
 .split at h
  .split at h
   .split at h
    .split at h
     .split at h
      .rename_i G;have q:Qh S.hp (.lit<|.slice none 0 0)<|aH st.tmps x:=by rw[<-‹bV S.tm x=TV.lit (Value.slice none 0 0)›];exact q
       simp only[Zd] at G;have d:aH st.tmps x=.lit bL:=q.inL;rcases zA c G.1 with j | j<;>rcases zA c G.2 with i | i <;>
        (refine dC.same (v:=.lit bL) c ?_ (by rw[<-d];exact q) h;simp only[aL,d,j,i,u,bL,gK];simp)
      .cases h
     .cases h
    .cases h
   .cases h
  .cases h
 .cases h
theorem aJQ[aG]{s:Nat}{x:aZ}{G L mx:Option aZ}(g:Qt N S st)(h:cM E n d (.slice s x G L mx) S K=some r): dC P cf E.fl N (.slice s x G L mx) st K r:=by
 simp only[cM] at h;split at h
 .exact aLl g h
 .rename_i m;split at h
  .cases h
  .rename_i y;have q:=g.get x;split at h
   .rename_i id w A;rw[A] at q;split at h
    .rename_i o T;split at h
     .rename_i k l;split at h
      .rename_i a U;split at h
       .rename_i b O;split at h
        .rename_i c V;let⟨_,R,h⟩:=bD h;have B:=Zl<|wU R;let⟨W,H,I⟩:=kR g U B.1;have C:eC st.tmps (some y)=some (some b.toNat):=by simp only[eC,wS O<|g.get y];simp[gS,show 0<=b by omega]
         have e2:eC st.tmps (some m)=some (some c.toNat):=by simp only[eC,wS V<|g.get m];simp[gS,show 0<=c by omega]
         have t:=q.mw T;by_cases i:a.toNat=b.toNat/\b.toNat=c.toNat
         .refine dC.same (v:=.sl true []) g ?_ (.u _) h;simp only[aL,t,H,C,e2,gK];rw[I 0 rfl,Zu ⟨i.1,i.2,by omega⟩]
         .refine dC.same (v:=.undef) g ?_ (.u _) h;simp only[aL,t,H,C,e2,gK];rw[I 0 rfl,ZF<|by omega,Zu<|by omega]
        .cases h
       .cases h
      .cases h
     .cases h
    .cases h
   .rename_i k l A;rw[A] at q;split at h
    .rename_i i;simp only[Zd] at i;split at h
     .rename_i e;have e:=Zc e;let⟨es,Q,D⟩:=(q.pu trivial).inS;have M:kX s es=true:=by
       cases es with
       | nil=>rfl
       | cons a es=>
        cases l with
        | nil=>exact D.elim
        | cons y l=>simp[kX,D.1.len,rY,e]
      have F:eC st.tmps (some y)=some (some 0):=by
       rcases zA g i.2.1 with h | h
       .simp only[eC] at h;split at h<;>cases h
       .exact h
      have J:eC st.tmps (some m)=some (some 0):=by
       rcases zA g i.2.2 with h | h
       .simp only[eC] at h;split at h<;>cases h
       .exact h
      rcases Q with⟨t,_⟩ | ⟨f,t⟩
      .refine dC.same (v:=.lit bL) g ?_ (.p _ _<|.emp _ _<|.inl rfl) h;rcases zA g i.1 with z | z<;>simp[aL,t,z,F,J,bL,gK]
      .refine dC.same (v:=.sl true []) g ?_ (.p _ _<|.emp _ _<|.inr<|.inl rfl) h;rcases zA g i.1 with z | z<;>simp[aL,t,z,F,J,gK,M]
     .cases h
    .cases h
   .cases h
end
end
theorem aMN{α:Type}{c:α->List AV}{cf:CF}{agg:Bool}{s fl id vc off len:Nat}{caps:List AV}{F:α->α->Option Int}{l t:List α}{H:aT}(p:fl<=id)(b:H[id]?=some (.blk s<|l.map c))(g:l.length<=1000000)(B:off+len<=l.length)(A:∀x y z,F x y=some z->Oa cf vc caps agg (Mn H id) (MS H id s<|l.map c) (c x) (c y)=some z)(h:pJ F ((l.drop off).take len)=some t):
 tL cf agg s fl [.ms id l.length off len,.fn vc caps] H=some (.tup [],H.set id<|.blk s<|(aP l off t).map c):=by
 have a:((l.drop off).take len).length=len:=by rw[ZH,ZV];omega
 generalize u:(l.drop off).take len=W at h a;unfold pJ at h;split at h
 .cases h;have C:len=0:=by simpa using a.symm
  subst C;have E:tC (.ms id l.length off 0)=true:=rfl;have D:aP l off []=l:=by simp[aP]
  rw[D];simp only[tL,E,Za,Zi,We];apply Ym;intro i;by_cases n:i=id
  .subst n;rw[b];rw[Z3 (by
    rcases ZI i H.length with h | h
    .exact h
    .rw[Zy h] at b;cases b)]
  .rw[Zv<|Ne.symm n]
 .rename_i x r;split at h
  .cases h
  rename_i tb o;split at h
  .cases h
  rename_i k;cases h;have v:=aGR (e:=c) (f:=Oa cf vc caps agg (Mn H id)<|MS H id s<|l.map c) A o;have w:len=r.length+1:=by rw[<-a];rfl
  subst w;have j:((l.map c).drop off).take (r.length+1)=(x::r).map c:=by rw[<-X9,<-X8,u]
  have:=aAl (cf:=cf) (agg:=agg) (off:=off) (m:=r.length) (vc:=vc) (caps:=caps) (tb:=tb) (tot:=l.length) p b (by simp) (by simpa using B) (by simpa using g) (by rw[j];exact v) k;refine this.trans ?_;rw[j];have q:((ixG r.length tb).map<|Dj x (x::r)).length=r.length+1:=by rw[ZO,O4 k]
  congr 3;refine congrArg (dI.blk s) ?_;unfold aP;rw[q,YJ,YJ,X8,X9,Ya,Ye];congr 2;exact ZS λi n=>E5<|by have:=aCV n;simpa using this
section
open iT (den cds ag)
theorem aF7{α β:Type}{f:α->β}{F:β->β->Option Int}{z:List α}{e:List β}(h:pJ F (z.map f)=some e): ∃g,pJ (λa b=>F (f a)<|f b) z=some g/\g.map f=e:=by
 cases z with
 | nil=>cases h;exact⟨[],rfl,rfl⟩
 | cons x r=>
  have m:CZ F (f x::r.map f)=CZ (λa b=>F (f a)<|f b) (x::r):=by
   unfold CZ;rw[show f x::r.map f=(x::r).map f from rfl,Ya];congr 1;apply ZS;intro a _;show Ss (((x::r).map f).map _)=_;rw[Ya];rfl
  simp only[ZE,pJ,ZO,m] at h;simp only[pJ];split at h
  .cases h
  .rename_i tb j;split at h
   .cases h
   .rename_i k;cases h;refine⟨_,rfl,?_⟩;rw[Ya];apply ZS;intro i c;have c:=aCV c;exact (E5 (d:=x) (d':=f x) (l:=x::r)<|by simpa using c).symm
section
variable [dO]{R:Type}{H H1:TH}{A:aT}{N:Nat}{S:TS}{st:St}{P:Program}{T:List cO}{cf:CF}{op:Gp}{K:TV->TS->Option R}{r:R}{E:XE}{n:Nat}{d:Option Nat}
theorem aEK{id:Nat}: HMk [id] S.hp (Eb id S).hp:=by
 intro j k l a h;simp only[Eb,nP,jT];exact⟨k,l,aAS<|by rw[Zv<|by simpa [Wy] using a];exact h,rfl⟩
theorem ER{id:Nat}(c:Qt N S st)(a:id<S.hp.length)(b:dI): Qt N (Eb id S) ⟨st.tmps,st.heap.set id b⟩:=aBb c rfl (λ_ _ _=>trivial) a
abbrev RR(k:Nat):={p:den k×List AV // Qr (jJ k p.1) p.2}
theorem aDZ{k:Nat}: ∀{l:List<|den k} {es:List<|List AV},Ql k l es->∃z:List<|RR k,z.map (λp=>p.1.1)=l/\z.map (λp=>p.1.2)=es
 | [],[],_=>⟨[],rfl,rfl⟩
 | x::l,e::es,h=>by
  let⟨z,c,a⟩:=aDZ h.2;exact⟨⟨(x,e),h.1⟩::z,by rw[ZE,c],by rw[ZE,a]⟩
theorem aLS{k:Nat}: ∀(z:List<|RR k),Ql k (z.map λp=>p.1.1)<|z.map λp=>p.1.2
 | []=>trivial
 | p::z=>⟨p.2,aLS z⟩
theorem K7{k:Nat}{x:den k}{e:List AV}(h:Qr (jJ k x) e): Qh H (val k x)<|yX (ag k) e:=by
 have:=aAe (H:=H) h;unfold yX;unfold sD at this;cases c:ag k with
 | true=>rw[c] at this;exact this
 | false=>
  rw[c] at this;match e,this with
  | [],this=>exact this
  | [a],this=>exact this
  | a::b::r,this=>exact this
theorem aJK{α:Type}{F:α->α->Option Int}{m:Option<|Nat×Nat}{l:List α}{K:List α->Option R}(h:aJL F m l K=some r):
 ∃a,pJ F ((l.drop (Dd l m).1).take (Dd l m).2)=some a/\(Dd l m).1+(Dd l m).2<=l.length/\l.length<=1000000/\K (aP l (Dd l m).1 a)=some r/\(aP l (Dd l m).1 a).length=l.length:=by
 cases m with
 | none=>
  let⟨_,c,h⟩:=bD h;let⟨a,b,h⟩:=bD h;have e:a.length=l.length:=D6 b;have e2:aP l 0 a=a:=by simp[aP,e]
  refine⟨a,?_,by simp[Dd],Zl<|wU c,?_,?_⟩
  .simpa [Dd] using b
  .simp only[Dd,e2];exact h
  .simp only[Dd,e2];exact e
 | some w=>
  let⟨_,c,h⟩:=bD h;let⟨a,b,h⟩:=bD h;have d:=Zl<|wU c;refine⟨a,b,d.2,d.1,h,Gx ?_⟩;have:=D6 b;simp only[win,ZH,ZV] at this;simp only[Dd];omega
theorem aJO[aG]{vi k id vc off len:Nat}{caps:List AV}{F:den k->den k->Option Int}{l u:List<|den k}{r t:AV}(o:E.fl<=id)(v:aG.prim vi=some (vQ (ag k) (cds k).length))(B:Qt N S st)(D:S.hp[id]?=some (.lst k l))(y:l.length<=1000000)(i:off+len<=l.length)(j:r=.ms id l.length off len)(m:t=.fn vc caps)(A:∀(p q:RR k) (es:List<|List AV) (z:Int),F p.1.1 q.1.1=some z->Oa (fB P T n) vc caps (ag k) (Mn st.heap id) (MS st.heap id (cds k).length es) p.1.2 q.1.2=some z)(h:pJ F ((l.drop off).take len)=some u):
 ∃es',fB P T (n+1) E.fl vi [r,t] st.heap=some (.tup [],st.heap.set id<|.blk (cds k).length es')/\Ql k (aP l off u) es':=by
 let⟨es,x,G⟩:=B.hp.lst D;obtain⟨z,rfl,rfl⟩:=aDZ G;rw[<-X9,<-X8] at h;obtain⟨g,C,rfl⟩:=aF7 h;subst j;subst m;refine⟨(aP z off g).map λp=>p.1.2,?_,?_⟩
 .rw[fB,v,ZO];exact aMN (agg:=ag k) (c:=λ(p:RR k)=>p.1.2) (F:=λ(a b:RR k)=>F a.1.1 b.1.1) o x (by simpa using y) (by simpa using i) (λp q w i=>A p q _ w i) C
 .have:=aLS<|aP z off g;have e:(aP z off g).map (λp=>p.1.1)=aP (z.map λp=>p.1.1) off (g.map λp=>p.1.1):=by
   unfold aP;rw[YJ,YJ,X8,X9,ZO]
  rw[e] at this;exact this
theorem aLp[aG]{k id vc:Nat}{c:CSp}{p q:RR k}{es:List<|List AV}{z:Int}(m:V5 P T vc c)(o:Qt N S st)(d:id<S.hp.length)(h:aOl n c k (Eb id S).hp p.1.1 q.1.1=some z):
 Oa (fB P T n) vc [] (ag k) (Mn st.heap id) (MS st.heap id (cds k).length es) p.1.2 q.1.2=some z:=by
 unfold aOl at h;have l:=ER o d<|.mp [];let⟨s,a,tv,i,f,g⟩:=j7 (H1:=[]) (K:=i64?) (aw:=[yX (ag k) p.1.2,yX (ag k) q.1.2].map<|cG<|Mn st.heap id) m h λp' r b=>aJb r b ⟨K7 p.2,K7 q.2,trivial⟩ l.hp;refine aOk rfl<|aNg i ?_;exact wS g f
theorem aLq[aG]{k id vc:Nat}{caps:List TV}{c:List AV}{p q:RR k}{es:List<|List AV}{z:Int}(e:∀sp∈E.il,IOK P T sp)(g:Qt N S st)(f:id<S.hp.length)(l:Qc S.hp caps c)(d:c≠[])(h:aOn E n vc id k caps S p.1.1 q.1.1=some z):
 Oa (fB P T n) vc c (ag k) (Mn st.heap id) (MS st.heap id (cds k).length es) p.1.2 q.1.2=some z:=by
 unfold aOn at h;have u:=ER g f<|.blk (cds k).length<|es++[List.replicate (cds k).length .undef];have j:(MS st.heap id (cds k).length es).length=S.hp.length:=by simp[MS,g.hp.ln]
 let⟨a,o,tv,w,r,x,m,s⟩:=Oj (N:=0) (S:=⟨[],(Eb id S).hp⟩) (st:=⟨[],MS st.heap id (cds k).length es⟩) (aw:=yX (ag k) p.1.2::yX (ag k) q.1.2::c) (by rw[j];exact Zf _) ⟨rfl,λt v h=>(by cases h),u.hp⟩
  (show Qc (Eb id S).hp (val k p.1.1::val k q.1.1::caps.map (Td [id])) _ from⟨K7 p.2,K7 q.2,l.mapL λ_ _ q=>Dx aEK q⟩) e h
 refine aLo d ⟨o,?_⟩;rw[j,r,wS s m]
theorem N8{fl k:Nat}{v:TV}{p:Nat×List (den k)}(h:aIc fl H k v=some p): v=.ms p.1 none/\fl<=p.1/\H[p.1]?=some (.lst k p.2):=by
 unfold aIc at h;split at h
 .split at h
  .cases h
  .split at h
   .cases h
   .rename_i c;split at h
    .rename_i o d;split at h
     .split at h
      .rename_i f a;let⟨e,a⟩:=pB (F:=λk=>List<|den k) a;subst e;subst a;cases h;exact⟨rfl,Zj c,d⟩
      .cases h
     .cases h
    .cases h
 .cases h
theorem aKz{k id:Nat}{v:TV}{z:den k}{a:AV}(m:Qs H A)(q:Qh H v a)(h:aNt H k id v=some z):
 ∃row,(∃id2,id≠id2/\a=.ms id2 1 0 1/\A[id2]?=some (.blk (cds k).length [row]))/\Qr (jJ k z) row:=by
 unfold aNt at h;split at h
 .split at h
  .rename_i p l;split at h
   .cases h
   .rename_i c;let⟨id2,i⟩:=p;let⟨e,_,g⟩:=N8 l;rw[e] at q;split at h
    .rename_i r d;cases h;have d:i=[z]:=d;subst d;let⟨b,n,f⟩:=m.lst g;obtain⟨row,rfl⟩:∃row,b=[row]:=by
      match b,f with
      | [row],_=>exact⟨row,rfl⟩
     exact⟨row,⟨id2,YF c,q.mw g,n⟩,f.1⟩
    .cases h
  .cases h
 .cases h
theorem aNi[aG]{vi:Nat}{p:PSp}{vs:List TV}{aw:List AV}(G:POK T vi p)(hE:∀vi c,E.cs vi=some c->V5 P T vi c)(a3:∀sp∈E.il,IOK P T sp)(t:Qt N S st)(q:Qc S.hp vs aw)(h:aHy E n p vs S K=some r):
 ∃v L tv D,fB P T (n+1) E.fl vi aw st.heap=some (v,L)/\Qt N D ⟨st.tmps,L⟩/\Qh D.hp tv v/\K tv D=some r:=by
 unfold aHy at h;split at h
 .rename_i k;split at h
  .rename_i x f;obtain⟨b,J,rfl⟩:∃b J,aw=[b,J]:=by
    match aw,q with
    | [b,J],q=>exact⟨b,J,rfl⟩
   split at h
   .rename_i id m
    .split at h
     .cases h
     .rename_i a;have a:=Zj a;split at h
      .rename_i o d;split at h
       .rename_i k' l;split at h
        .rename_i O C;let⟨e,C⟩:=pB (F:=λk=>List<|den k) C;subst e;subst C;have X:=(Ze.1 d).1;have a2:=q.1.mw d;have Q:∀{F:den k'->den k'->Option Int} {vc:Nat} {caps:List AV},J=.fn vc caps->(∀(p q:RR k') (es:List<|List AV) (z:Int),F p.1.1 q.1.1=some z->Oa (fB P T n) vc caps (ag k') (Mn st.heap id) (MS st.heap id (cds k').length es) p.1.2 q.1.2=some z)->
          aJL F m O (λw=>K (.tup [])<|jT S id<|.lst k' w)=some r->
          ∃v L tv D,fB P T (n+1) E.fl vi [b,J] st.heap=some (v,L)/\Qt N D ⟨st.tmps,L⟩/\Qh D.hp tv v/\K tv D=some r:=by
          intro F vc caps u hF h;let⟨w,s,hw,M,h,b2⟩:=aJK h;let⟨es',e1,e2⟩:=aJO a G t d M hw a2 u hF s;have V:HM S.hp<|S.hp.set id<|.lst k'<|aP O (Dd O m).1 w:=HM.set λk2 l2 e=>by
           rw[d] at e;cases e;exact⟨k',_,rfl,b2⟩
          exact⟨_,_,.tup [],jT S id<|.lst k'<|aP O (Dd O m).1 w,e1,t.hpM V<|t.hp.set V ⟨es',rfl,e2⟩,Qh.mkT (cs:=[]) (aw:=[]) trivial,h⟩
         split at h
         .rename_i vc caps;let⟨b1,u,hq⟩:=q.2.1.inF;split at h
          .split at h
           .rename_i c I;cases b1 with
            | cons=>exact hq.elim
            | nil=>exact Q u (λp q es z R=>aLp (hE _ _ I) t X R) h
           .cases h
          .rename_i c0 r0;refine Q u (λp q es z R=>aLq a3 t X hq (λe=>?_) R) h;subst e;exact hq.elim
         .cases h
        .cases h
       .cases h
      .cases h
   .cases h
  .cases h
 .rename_i k F;let⟨g,hg,G⟩:=G;split at h
  .rename_i x;obtain⟨b,rfl⟩:∃b,aw=[b]:=by
    match aw,q with
    | [b],q=>exact⟨b,rfl⟩
   split at h
   .rename_i p hx;let⟨id,l⟩:=p;obtain⟨rfl,a,d⟩:=N8 hx;let⟨_,M,h⟩:=bD h;let⟨es,g1,A⟩:=t.hp.lst d;let⟨es',Z,k2,k3⟩:=G E.fl st.heap id l es a g1 A<|Zl<|wU M;have V:HM S.hp<|S.hp.set id<|.lst k<|F l:=HM.set λk2 l2 e=>by rw[d] at e;cases e;exact⟨k,_,rfl,k3⟩
    refine⟨_,_,.tup [],jT S id<|.lst k<|F l,?_,t.hpM V<|t.hp.set V ⟨es',rfl,k2⟩,Qh.mkT (cs:=[]) (aw:=[]) trivial,h⟩;rw[fB,hg,q.1.mw d];exact Z
   .cases h
  .cases h
 .rename_i k;let⟨g,hg,G⟩:=G;split at h
  .rename_i x i y;obtain⟨b,Y,U,rfl⟩:∃b Y U,aw=[b,Y,U]:=by
    match aw,q with
    | [b,Y,U],q=>exact⟨b,Y,U,rfl⟩
   split at h
   .rename_i p hx;let⟨id,l⟩:=p;obtain⟨rfl,a,d⟩:=N8 hx;split at h
    .rename_i j hj;split at h
     .rename_i z R;let⟨l',s,h⟩:=bD h;unfold aCW at s;split at s
      .rename_i I;cases s;let⟨es,g1,A⟩:=t.hp.lst d;let⟨row,hy,B⟩:=aKz t.hp q.2.2.1 R;have Z:=G E.fl st.heap id U j.toNat es row a hy g1 (by rw[B.len,rY]) (by rw[A.len];exact I.2.1) (by rw[A.len];exact I.2.2);refine⟨.ms id (es.length+1) 0<|es.length+1,st.heap.set id<|.blk (cds k).length (es.take j.toNat++row::es.drop j.toNat),.ms id none,nP id<|jT S id<|.lst k (l.take j.toNat++z::l.drop j.toNat),?_,O3 t d λH=>⟨_,rfl,(A.take _).app ⟨B,A.drop _⟩⟩,?_,h⟩
       .rw[fB,hg,q.1.mw d,wS hj q.2.1];have e:((j.toNat:Nat):Int)=j:=X7 I.1;rw[e] at Z;simp only[Dd];have g0:l.length=es.length:=A.len.symm;rw[g0];exact Z
       .have:=Qh.ms (H:=(nP id<|jT S id<|.lst k (l.take j.toNat++z::l.drop j.toNat)).hp) id k (l.take j.toNat++z::l.drop j.toNat) (by simp[nP,jT,Zk,(Ze.1 d).1,Mt]);have M:(l.take j.toNat++z::l.drop j.toNat).length=es.length+1:=by
         have g0:es.length=l.length:=A.len;have c2:j.toNat<=l.length:=I.2.1;simp only[Zh,ZH,Yc,ZV];omega
        rw[M] at this;exact this
      .cases s
     .cases h
    .cases h
   .cases h
  .cases h
 .cases h
end
section
variable [dO]{R:Type}{H H1:TH}{A:aT}{N:Nat}{S:TS}{st:St}{P:Program}{T:List cO}{cf:CF}{op:Gp}{K:TV->TS->Option R}{r:R}{E:XE}{n:Nat}{d:Option Nat}
theorem aBL[aG]{vi:Nat}{vs:List TV}{aw:List AV}(d:s8 P T E)(c:Qt N S st)(q:Qc S.hp vs aw)(h:(match Nat.ble E.fl S.hp.length with | true=>Bt n E.fl vi vs S K E.il | false=>none)=some r):
 ∃v b tv a,fB P T n E.fl vi aw st.heap=some (v,b)/\Qt N a ⟨st.tmps,b⟩/\Qh a.hp tv v/\K tv a=some r:=by
 split at h
 .rename_i e;exact Oj (by rw[c.hp.ln];exact Zj e) c q d.il h
 .cases h
theorem aOw[aG]{pu:Bool}{vi:Nat}{f:List aZ}(b:s8 P T E)(a:Qt N S st)(h:cM E n d (.call pu vi f) S K=some r): dC P (fB P T n) E.fl N (.call pu vi f) st K r:=by
 simp only[cM] at h;split at h
 .split at h
  .rename_i c l;let⟨v,tv,j,o,i⟩:=aMx (b.cs vi c l) a h;exact dC.same a j o i
  .cases h
 .split at h
  .rename_i p g;let⟨m,k,h⟩:=bD h;have e:=aHz k;subst e;exact aNi (b.pr vi p g) b.cs b.il a (UX a f) h
  .exact aBL b a (UX a f) h
theorem aK4{v:TV}{a:AV}(q:Qh H v a): Qh H (aNw v)<|EG a:=by
 cases v with
 | agg cs=>
  obtain⟨aw,rfl,d⟩:=q.inA;exact Qh.mkA (d.map λc b q=>by
   cases c with
   | agg cs=>obtain⟨aw,rfl,_⟩:=q.inA;exact q
   | _=>exact N1 q λcs e=>by cases e)
 | undef=>exact Qh.u _
 | _=>
  have:=N1 q (λcs e=>by cases e);cases a with
  | agg=>
   cases q with
   | p _ _ q=>cases q<;>simp_all
  | _=>exact this
theorem aMX{v:TV}{a:AV}(q:Qh H v a)(h:aIp v=true): qK a=false:=by
 cases v with
 | ptr=>rw[q.ptr1];rfl
 | pel=>let⟨_,_,_,_,_,e⟩:=q.pel1;rw[e];rfl
 | ms id m=>
  cases q with
  | p _ _ q=>cases q
  | ms=>rfl
  | msn=>rfl
 | mp=>rw[q.mp1];rfl
 | rs=>rw[q.rs1];rfl
 | rel=>rw[q.rel1];rfl
 | _=>cases h
theorem Mm: ∀{vs:List TV} {aw:List AV},Qc H vs aw->vs.any aIp=true->gE aw=false
 | [],_,_,h=>by cases h
 | v::vs,a::aw,q,h=>by
  simp only[List.any_cons,YU] at h;simp only[gE];rcases h with h | h
  .rw[aMX q.1 h]
  .cases qK a with
   | true=>exact Mm q.2 h
   | false=>rfl
theorem aLv[aG]{pu:Bool}{x:aZ}{m:List aZ}(z:s8 P T E)(b:Qt N S st)(h:cM E n d (.callv pu x m) S K=some r): dC P (fB P T n) E.fl N (.callv pu x m) st K r:=by
 have q:=b.get x;simp only[cM] at h;split at h
 .rename_i vi caps G;rw[G] at q;let⟨j,o,y⟩:=q.inF;split at h
  .split at h
   .split at h
    .rename_i c D;cases j with
     | cons=>exact y.elim
     | nil=>
      let⟨v,tv,i,s,t⟩:=aMx (z.cs vi c D) b h;refine dC.same b ?_ s t;simp only[aL,o,Wo];exact i
    .cases h
   .rename_i c0 I;unfold aMw at h;split at h
    .rename_i A;have w:=(UX b m).app y;let⟨a,C,tv,B,i,s,t,g⟩:=Oj (aw:=(m.map (aH st.tmps)++j).map EG) (by rw[b.hp.ln];exact Zf _) b (w.map λ_ _ q=>aK4 q) z.il h;split at g
     .rename_i u;split at g
      .cases g
      .rename_i F;have e:=t.inL;subst e;refine dC.same (v:=.lit u) b ?_ (Qh.l _) g;simp only[aL,o,Bu,Mm w A];rw[b.hp.ln,i];cases u<;>first | rfl | exact absurd rfl (F _ _ _)
     .rename_i k l;let⟨es,H,e2⟩:=(t.pu trivial).inS;refine dC.same (v:=.sl false es) b ?_ (.p _ _<|Qp.mkS (.inr ⟨_,rfl⟩) e2) g;simp only[aL,o,Bu,Mm w A];rw[b.hp.ln,i];rcases H with⟨rfl,rfl⟩ | ⟨f,rfl⟩<;>rfl
     .cases g
    .cases h
  .let⟨v,C,tv,B,i,s⟩:=aBL z b ((UX b m).app y) h;exact⟨v,C,tv,B,by simp only[aL,o];exact i,s⟩
 .cases h
theorem aJg[aG]{z:List Value}{a:List<|Nat×Nat}(s:Qt N S st)(h:cM E n d (.allocC z a) S K=some r): dC P cf E.fl N (.allocC z a) st K r:=by
 simp only[cM] at h;split at h
 .rename_i d';split at h
  .rename_i t;have p:∀{a:List<|Nat×Nat},aK2 E d' a=true->∀c∈a,(cds<|kdL E d' c.1).length=c.2:=by
    intro a;induction a with
    | nil=>intro _ c x;cases x
    | cons c a j=>
     intro h c' m;simp only[aK2] at h;split at h
     .rename_i e;rcases ZN.1 m with rfl | m
      .exact Zc e
      .exact j h c' m
     .cases h
   let H1:TH:=S.hp++a.map λc=>pE.lst (kdL E d' c.1) [];let g:TH:=H1++[.box<|CM S.hp.length (z.map .lit) a];have o:HM S.hp g:=λi k l u=>⟨k,l,by
    have:=(Ze.1 u).1;rw[Zo<|by simp[H1];omega,Zo this];exact u,rfl⟩
   have B:bT (Qo g) (a.map λc=>pE.lst (kdL E d' c.1) [])<|a.map λc=>dI.blk c.2 []:=by
    have:=p t;clear h t;generalize g=g at *;clear o;induction a with
    | nil=>trivial
    | cons c a j=>exact⟨⟨[],by rw[this c ZM],trivial⟩,j λc' h=>this c'<|ZQ _ h⟩
   have A:∀(b f:List<|Nat×Nat) (cs:List TV) (aw:List AV),a=b++f->Qc g cs aw->Qc g (CM (S.hp.length+b.length) cs f) (nL (S.hp.length+b.length) aw f):=by
    intro b f;induction f generalizing b with
    | nil=>intro cs aw _ q;exact q
    | cons c f j=>
     intro cs aw e q;have w:Qh g (.ms (S.hp.length+b.length) none)<|.ms (S.hp.length+b.length) 0 0 0:=by
      refine .ms _ (kdL E d' c.1) [] ?_;rw[Zo<|by simp[H1,e],ZX<|ZY _ _,YZ,e];simp
     have:=j (b++[c]) (cs.set c.1<|.ms (S.hp.length+b.length) none) (aw.set c.1<|.ms (S.hp.length+b.length) 0 0 0) (by rw[e];simp)<|q.set c.1 w;rw[Zh,Yd] at this;exact this
   have v:=A [] a (z.map .lit) (z.map .lit) rfl<|Qc.lits z;have C:(CM S.hp.length (z.map .lit) a).length=z.length:=by
    have:∀(a:List<|Nat×Nat) (n:Nat) (cs:List TV),(CM n cs a).length=cs.length:=by
     intro a;induction a with
     | nil=>intro n cs;rfl
     | cons c a j=>intro n cs;simp[CM,j]
    rw[this];simp
   have e2:st.heap.length=S.hp.length:=s.hp.ln;refine⟨.ptr (st.heap.length+a.length) 1 0 0,_,.ptr (S.hp.length+a.length) 0,⟨S.tm,g⟩,rfl,s.hpM o ?_,by rw[e2];exact .ptr _ _,h⟩;refine bT.app (bT.app (s.hp.imp λ_ _ h=>h.mono o) B) ⟨⟨nL st.heap.length (z.map .lit) a,by rw[C],by rw[e2];exact v⟩,trivial⟩
  .cases h
 .cases h
theorem OI{α:Type}{s:Nat}: ∀(n:Nat) {l:List α},l.length=n*s->(pA s n l).flatten=l/\(pA s n l).length=n/\∀e∈pA s n l,e.length=s
 | 0,l,h=>by
  rw[YQ] at h;have:=ZK.1 h;subst this;exact⟨rfl,rfl,λe h=>by cases h⟩
 | n+1,l,h=>by
  rw[Xx] at h;let⟨a,b,c⟩:=OI (s:=s) n (l:=l.drop s) (by rw[ZV];omega);refine⟨by simp only[pA,Yt,a,YT],by simp[pA,b],λe he=>?_⟩;simp only[pA] at he;rcases ZN.1 he with rfl | he
  .rw[ZH];omega
  .exact c e he
theorem aFC{k:Nat}: ∀{cs:List<|List TV} {l:List<|den k} {es:List<|List AV},JI [] k cs=some l->bT (Qc H) cs es->Ql k l es:=L8
theorem aKU[aG]{agg:Bool}{s m:Nat}{x i:aZ}(g:Qt N S st)(h:cM E n d (.index agg s m x i) S K=some r): dC P cf E.fl N (.index agg s m x i) st K r:=by
 have q:=g.get x;simp only[cM] at h;split at h
 .rename_i cs I;rw[I] at q;let⟨aw,G,y⟩:=q.inA;split at h
  .cases h
  .rename_i f;have f:=Zc f;split at h
   .cases h
   .rename_i j D;split at h
    .cases h
    .split at h
     .split at h
      .rename_i H;split at h
       .rename_i a;have a:H<m:=by simpa [YC] using a
        let⟨U,tv,v,b,T,M⟩:=TQ h y;have z:gS (aH st.tmps i)=some H:=sM D (g.get i)<|Wc _;refine dC.same g ?_ T M;simp only[aL,z,a,Zz,G];rw[Zu U];cases agg with
        | true=>simp only[Zz,Za] at b |-;rw[b]
        | false=>
         simp only[Zn,Z9] at b |-;split at b
         .rename_i V;rw[V];cases b;rfl
         .cases b
       .cases h
      .cases h
     .rename_i k _;split at h
      .split at h
       .rename_i F;have F:=Zc F;split at h
        .rename_i l B;let⟨X,C,h⟩:=bD h;let⟨R,L,W⟩:=oR C;have o:aw.length=m*s:=by rw[y.len,f]
         let⟨Z,J,Y⟩:=OI m o;have t:bT (Qc S.hp) (pA s m cs)<|pA s m aw:=by
          have:∀(m:Nat) (cs:List TV) (aw:List AV),Qc S.hp cs aw->bT (Qc S.hp) (pA s m cs) (pA s m aw):=by
           intro m;induction m with
           | zero=>intro _ _ _;trivial
           | succ m u=>intro cs aw q;exact⟨q.take s,u _ _<|q.drop s⟩
          exact this m cs aw y
         have e:Ql k l<|pA s m aw:=aFC B t;let⟨row,Q,O⟩:=e.get L;refine dC.same (v:=.agg row) g ?_ (Qh.mkA O.c) h;have z:gS (aH st.tmps i)=some j.toNat:=sM D (g.get i) R;have a:j.toNat<m:=by rw[<-J,e.len];exact W
         have A:∀(m:Nat) (aw:List AV) (j:Nat) (row:List AV),aw.length=m*s->(pA s m aw)[j]?=some row->(aw.drop<|j*s).take s=row/\j*s+s<=aw.length:=by
          intro m;induction m with
          | zero=>intro aw j row _ h;simp[pA] at h
          | succ m u=>
           intro aw j row f h;rw[Xx] at f;cases j with
           | zero=>simp only[pA,Zt,Za] at h;rw[YQ];exact⟨h,by omega⟩
           | succ j=>
            simp only[pA,ZL] at h;let⟨p,w⟩:=u (aw.drop s) j row (by rw[ZV];omega) h;rw[XD] at p;rw[ZV] at w;rw[Xx,Wg (j*s) s];exact⟨p,by omega⟩
         let⟨p,w⟩:=A m aw j.toNat row o Q;simp only[aL,z,a,Zz,G];rw[Zu w,p]
        .cases h
       .cases h
      .cases h
 .cases h
theorem aF9{A:aT}{a:AV}{w:Value}(h:dY A 0 a=.lit w): a=.lit w:=by
 cases a with
 | lit v=>
  have h:qL v=.lit w:=h;unfold qL at h;split at h
  .split at h
   .split at h
    .split at h
     .cases h
     .exact h
    .exact h
   .exact h
  .exact h
 | ms id tot off len=>
  simp only[dY,gB,YE,Z9,eX,eE,ZG,Zz] at h;split at h<;>cases h
 | mp id=>
  simp only[dY,gB,YE,Z9,eX,eE,ZG,Zz] at h;split at h<;>cases h
 | ptr=>simp[dY,gB] at h
 | fn vi caps=>cases caps<;>cases h
 | _=>cases h
theorem aNd{w k k':Nat}{u:TV}{x:den k}(b:cds k=[.sl k'])(d:ag k=false)(h:RF w H k u=some x): ∃y,L7 w H k' u=some y/\val k x=.sl k' y:=by
 unfold RF at h;rw[d] at h;have h:jM w H k [u]=some x:=h;unfold jM at h;split at h
 .rename_i p a;cases h;have c:∀(cs:List Cd) (p:NB cs),cs=[.sl k']->rdL w H cs [u]=some p->∃y,L7 w H k' u=some y/\hdT (pI cs p)=.sl k' y:=by
   intro cs p e a;subst e;simp only[rdL] at a;split at a
   .rename_i y f;cases a;exact⟨y,f,rfl⟩
   .cases a
  let⟨y,j,i⟩:=c _ p b a;refine⟨y,j,?_⟩;unfold val jJ;rw[d,dO.un_pk];exact i
 .cases h
theorem aIl{s k':Nat}{u:TV}{y:List<|den k'}{p:AV}{x:List TV}{i:aT}{H':TH}(g:(cds k').length=s)(C:Qs H' i)(q:Qh H' u p)(a:NT H' (u::x)=true)(b:L7 2 H' k' u=some y): ∃rows,NI s i p=some rows/\Ql k' y rows:=by
 cases u with
 | ms id m=>
  simp only[NT] at a;split at a
  .rename_i o h;split at a
   .rename_i G f;have j:Dd f m=(0,f.length):=by
     cases m with
     | none=>rfl
     | some w=>exact Zl a
    have d:win f m=f:=by rw[QX,j];simp
    have b:Ts (λk=>List<|den k) (k':=k') f=some y:=by
     simp only[L7,h,d] at b;exact b
    let⟨e,b⟩:=pB (F:=λk=>List<|den k) b;subst e;subst b;let⟨es,A,l⟩:=C.lst h;have n:=q.mw h;rw[j] at n;subst n;refine⟨es.map λe=>e.map<|eE (i.set id<|.blk s<|es++[List.replicate s .undef]) 0 eX,?_,(Dt _ 0 _).ls l⟩;have r:Nat.beq y.length y.length=true:=Y5 _;have B:Nat.beq es.length y.length=true:=by rw[l.len];exact r
    have t:Nat.beq s s=true:=Y5 _;have z:Nat.beq 0 0=true:=rfl;simp only[NI,r,z,A,B,g,t,Xr]
   .cases a
  .cases a
 | lit v=>
  simp only[NT] at a;split at a
  .split at a
   .split at a
    .split at a
     .rw[q.inL];cases b;exact⟨[],rfl,trivial⟩
     .cases a
    .cases a
   .cases a
  .cases a
 | _=>cases a
theorem aAU: ∀{vs:List TV} {aw:List AV} {b:aT},(vs.all λv=>match v with | .lit _=>true | _=>false)=true->Qc H vs (aw.map<|dY b 0)->aw.all aIq=true/\Qc H vs aw
 | [],[],_,_,_=>⟨rfl,trivial⟩
 | v::vs,a::aw,b,h,q=>by
  simp only[XM,Zd] at h;let⟨d,e⟩:=aAU h.2 q.2;cases v with
  | lit w=>
   have:=aF9 q.1.inL;subst this;exact⟨by simp[aIq,d],Qh.l _,e⟩
  | _=>cases h.1
theorem aME{k k':Nat}(a:cds k=[.sl k'])(b:ag k=false)(x:den k): ∃y,val k x=.sl k' y:=by
 unfold val;rw[b];unfold jJ;generalize dO.un k x=p;revert p;rw[a];exact λp=>⟨p.1,rfl⟩
def kpB(kp:Bool)(kr:List Nat): Bool:=match kp with
 | false=>true
 | true=>match kr with
  | k::_=>match cds k with
   | [c]=>match c with
    | .sl _=>!(ag k)
    | _=>false
   | _=>false
  | []=>false
theorem V5.of0[aG]{P:Program}{T:List cO}{vi:Nat}{c:CSp}(h:aQW P T vi c)(b:kpB c.kp c.kr=true): V5 P T vi c:=by
 intro n p r i aw F;let⟨o,d,H,H',I,t,g,a,l⟩:=h n p r i aw F;refine⟨d,H,I,λH1=>(aPx a g t).1,(aPx (H1:=[]) a g t).2,λe=>?_⟩;have l:=l e;rw[e] at b;intro J y s f;clear h e i;revert r a f;generalize c.kr=A at b;intro r a f;cases A with
 | nil=>cases b
 | cons k j=>
  simp only[kpB] at b;split at b
  .rename_i c' q;split at b
   .rename_i k';have b:ag k=false:=by simpa using b
    cases o with
    | nil=>cases l
    | cons u o=>
    match d,g with
    | C::d,g=>
    replace a:Cm 2 H' (.v k::j.map .v) (u::o)=some r:=a;simp only[Cm] at a;split at a
    .rename_i w m;split at a
     .rename_i p' G;cases a;let⟨z,E,D⟩:=aNd q b m;let⟨rows,i,x⟩:=aIl rfl t g.1 l E;have B:Lk (.v k::j.map .v) (fN.cs w p')=.sl k' z::Lk (j.map .v) p':=by
       simp only[Lk,fN.hc,fN.tc];congr 1
      have f:Lk (.v k::j.map .v) (fN.cs w p')=.sl J y::s:=f;rw[B] at f;cases f;exact⟨C,d,rows,rfl,i,x⟩
     .cases a
    .cases a
   .cases b
  .cases b
theorem aKN[aG]{s vi k k':Nat}{j:List Nat}{M:List aZ}{z:List Nat}{x:fN<|z.map .v}{c:List AV}{p:aT}(Q:Qt N S st)(C:z=k::j)(F:cds k=[.sl k'])(B:(cds k').length=s)(hg:ag k=false)(D:fB P T n 0 vi ((M.map<|aH st.tmps).map<|cG st.heap) []=some (jO c,p))(f:∀H1:TH,Qc H1 (Lk (z.map .v) x)<|c.map<|dY p 0)(O:∀a∈c,∀l,a≠.tup l)(U:aQT p (Lk (z.map .v) x) c)(h:(match Lk (z.map .v) x with | [v]=>UL v S K | vs=>UL (.tup vs) S K)=some r): dC P (fB P T n) E.fl N (.callT s vi M) st K r:=by
 subst C;have f:=f S.hp;have L:Lk (.v k::j.map .v) x=val k (fN.hd x)::Lk (j.map .v) (fN.tl x):=rfl;let⟨y,Z⟩:=aME F hg<|fN.hd x;have H:Lk (.v k::j.map .v) x=.sl k' y::Lk (j.map .v) (fN.tl x):=by rw[L,Z]
 let⟨i,w,rows,e0,G,R⟩:=U k' y _ H;subst e0;rw[B] at G;generalize a2:fN.tl x=p' at H;have f:Qc S.hp (Lk (.v k::j.map .v) x)<|(i::w).map<|dY p 0:=f;have h:(match Lk (.v k::j.map .v) x with | [v]=>UL v S K | vs=>UL (.tup vs) S K)=some r:=h;rw[H] at f h;revert f h O D;generalize w=c;intro D O f h;have A:∀{tv:TV} {rv:AV} (rest:AV->AV) ,Te s st.heap (some (jO (i::c),p))=some (rest<|.ms st.heap.length rows.length 0 rows.length,st.heap++[.blk s rows])->(∀H1:TH,HM S.hp H1->Qh H1 (.ms S.hp.length none) (.ms st.heap.length rows.length 0 rows.length)->Qh H1 tv (rest<|.ms st.heap.length rows.length 0 rows.length))->K tv (Om S<|.lst k' y)=some r->dC P (fB P T n) E.fl N (.callT s vi M) st K r:=by
  intro tv rv rest V I h;refine dC.add (o:=.lst k' y) (b:=.blk s rows) Q ?_ ⟨rows,by rw[B],R⟩ (I _ HM.add ?_) h
  .simp only[aL,D];exact V
  .rw[Q.hp.ln,R.len];exact .ms _ k' y<|by simp
 cases g:Lk (j.map .v) p' with
 | nil=>
  rw[g] at f h;have e:c=[]:=by
   cases c with
   | nil=>rfl
   | cons=>exact f.2.elim
  subst e;have ha:∀l,i≠.tup l:=O i ZM;refine A (rv:=i) (λa=>a) ?_ (λH1 _ q=>q) h;show Te s st.heap (some (i,p))=_;cases i with
  | tup l=>exact (ha l rfl).elim
  | _=>simp only[Te,G]
 | cons v vs=>
  rw[g] at f h;have h:UL (.tup (.sl k' y::v::vs)) S K=some r:=h;unfold UL at h;simp only at h;split at h
  .rename_i u;obtain⟨t,d,rfl⟩:∃t d,c=t::d:=by
    cases c with
    | nil=>exact f.2.elim
    | cons t d=>exact⟨t,d,rfl⟩
   let⟨Y,W⟩:=aAU (vs:=v::vs) (aw:=t::d) u f.2;refine A (rv:=i) (λa=>.tup (a::t::d)) ?_ (λH1 m q=>Qh.mkT (cs:=.ms S.hp.length none::v::vs) ⟨q,W.imp λ_ _ h=>h.mono m⟩) h;show Te s st.heap (some (.tup (i::t::d),p))=_;simp only[Te,Y,G]
  .cases h
theorem aLw[aG]{s vi:Nat}{l:List aZ}(t:s8 P T E)(i:Qt N S st)(h:cM E n d (.callT s vi l) S K=some r): dC P (fB P T n) E.fl N (.callT s vi l) st K r:=by
 simp only[cM] at h;split at h
 .rename_i c w;have D:=t.cs vi c w;split at h
  .rename_i j;split at h
   .rename_i k F f;split at h
    .rename_i e g;split at h
     .rename_i k';split at h
      .rename_i a;simp only[Zd,YG] at a;have b:=Zc a.1;have y:=a.2;unfold Oi at h;split at h
       .rename_i p u;split at h
        .cases h
        .rename_i B;let⟨x,A,h⟩:=bD h;have C:=aJb (H1:=[]) B u (UX i l) i.hp;let⟨z,G,o,q,v,m⟩:=D n p x A _ C;exact aKN i f g b y o q v (m j)<|by rw[aDO] at h;exact h
       .cases h
      .cases h
     .cases h
    .cases h
   .cases h
  .cases h
 .cases h
end
section
variable [dO]{R:Type}{H H1:TH}{A:aT}{N:Nat}{S:TS}{st:St}{P:Program}{T:List cO}{cf:CF}{op:Gp}{K:TV->TS->Option R}{r:R}{E:XE}{n:Nat}{d:Option Nat}
theorem aIU[aG]{vi l s bytes:Nat}{z:List Value}{G:aT}(h:getF T vi=some ⟨l,8,[.tmp 2],aIV s bytes z⟩)(m:0<s):
 fB P T (n+1) G.length vi [.lit bL] G=some (.lit bL,G)/\(∀a,(∃f,a=.sl f [])\/a=.vw []->fB P T (n+1) G.length vi [a] G=some (.sl false [],G)) /\
 ∀a e es,((∃f,a=.sl f (e::es))\/a=.vw (e::es))->eT s (e::es)=true->kP (e::es).length bytes=true->
  fB P T (n+1) G.length vi [a] G=some (.ms G.length (e::es).length 0 (e::es).length,G++[.blk s (e::es)]):=by
 have d:Nat.blt 3 8=true:=rfl;have c:Nat.blt 4 8=true:=rfl;have i:Nat.beq G.length G.length=true:=Y5 _;refine⟨?_,?_,?_⟩
 .rw[VN _ h];simp[d,c,aIV,eR,Jl,iQ,cP,eV,aL,aH,PJ,Mo,hK,Nm,aDd,kZ,Ns,jO,Oz,bL,bI]
 .intro a j;rw[VN _ h];have b:cN G.length G s bytes (.sl true []) []=some (.sl true [],G):=by simp[cN,eT,m,kP]
  rcases j with⟨f,rfl⟩ | rfl <;>
   simp[d,c,i,aIV,eR,Jl,iQ,cP,eV,aL,aH,PJ,Mo,hK,Nm,rd,b,aDd,kZ,Ns,jO,aBf,Tf,aEB,aI9,bL,bI]
 .intro a e es j p o;rw[VN _ h];have b:cN G.length G s bytes (.sl true []) (e::es)=some (.ms G.length (e::es).length 0 (e::es).length,G++[.blk s (e::es)]):=by
   have k:eT s ([]:List<|List AV)=true:=rfl;unfold cN;have g:kP (([]:List<|List AV).length+(e::es).length) bytes=true:=by simpa using o
   rw[Zu ⟨p,m,o⟩];simp only[k,g,Y7,Zz];simp
  generalize q:(e::es).length=L at b;rcases j with⟨f,rfl⟩ | rfl <;>
   simp[d,c,aIV,eR,Jl,iQ,cP,eV,aL,aH,PJ,Mo,hK,Nm,rd,b,aDd,kZ,Ns,jO,bL,bI]
end
section
variable [dO]{R:Type}{H H1:TH}{A:aT}{N:Nat}{S:TS}{st:St}{P:Program}{T:List cO}{cf:CF}{op:Gp}{K:TV->TS->Option R}{r:R}{E:XE}{n:Nat}{d:Option Nat}
theorem Ql.rep{k:Nat}{x:den k}{row:List AV}(h:Qr (jJ k x) row): ∀n,Ql k (List.replicate n x) (List.replicate n row)
 | 0=>trivial
 | n+1=>⟨h,Ql.rep h n⟩
theorem SR{α:Type}{x:α}{a b:Int}{l:List α}(h:rep x a b=some l): 0<=a/\a<=b/\b<=1000000/\l=List.replicate a.toNat x:=by
 unfold rep at h;split at h
 .rename_i c;cases h;exact⟨c.1,c.2.1,c.2.2,rfl⟩
 .cases h
theorem Pb[aG]{x:aZ}{a:Int}(b:Qt N S st)(h:i64? (bV S.tm x)=some a)(c:0<=a): gS (aH st.tmps x)=some a.toNat:=by
 rw[wS h (b.get x)];simp[gS,c]
theorem aFR[aG]{s bytes:Nat}{z:List Value}{x y:aZ}(f:Qt N S st)(h:cM E n d (.mkSlice s z bytes x y) S K=some r): dC P cf E.fl N (.mkSlice s z bytes x y) st K r:=by
 have j:=f.hp.ln;simp only[cM] at h;split at h
 .rename_i c;simp only[Zd] at c;have A:=Zc c.1;have e2:=Zc c.2.1;have k:=Zj c.2.2;split at h
  .rename_i e u;have i:Qr (jJ _ e) (z.map .lit):=jC (H':=S.hp) u (Qc.lits z);split at h
   .rename_i a m;split at h
    .rename_i b g;obtain⟨l,w,h⟩:=bD h;obtain⟨t,B,C,rfl⟩:=SR w;have q:=Pb f m t;have p:=Pb f g (by omega);have:=Y8 (show b.toNat<=1000000 by omega) k;refine dC.add (v:=.ms st.heap.length a.toNat 0 a.toNat) (o:=.lst (lO E d) (List.replicate a.toNat e)) (b:=.blk s (List.replicate a.toNat (z.map .lit))) f ?_ ⟨_,by rw[A],Ql.rep i _⟩ ?_ h
     .simp only[aL,q,p];rw[Zu ⟨by omega,by omega,by omega,e2⟩]
     .have:=Qh.ms (H:=S.hp++[.lst (lO E d) (List.replicate a.toNat e)]) S.hp.length (lO E d) (List.replicate a.toNat e) (by simp);rw[Yo] at this;rw[j];exact this
    .cases h
   .cases h
  .cases h
 .cases h
theorem aCO{v:TV}{a:AV}(h:NU v=true)(q:Qh H v a): a=.lit bL\/a=.sl true []:=by
 unfold NU at h;split at h
 .subst h;cases (q.pu trivial) with
  | emp _ _ h=>
   rcases h with h | h | ⟨h,_⟩
   .exact .inl h
   .exact .inr h
   .cases h
 .split at h
  .split at h
   .split at h
    .split at h
     .exact .inl q.inL
     .cases h
    .cases h
   .cases h
  .cases h
 .cases h
theorem aOv[aG]{x:aZ}(a:Qt N S st)(h:cM E n d (.capS x) S K=some r): dC P cf E.fl N (.capS x) st K r:=by
 simp only[cM] at h;split at h
 .rename_i b;refine dC.same (v:=.lit (.int .i64 0)) a ?_ (Qh.l _) h;rcases aCO b (a.get x) with e | e<;>simp only[aL,e,bL]<;>rfl
 .cases h
theorem aOg[aG]{s:Nat}{x y:aZ}(c:Qt N S st)(h:cM E n d (.copy s x y) S K=some r): dC P cf E.fl N (.copy s x y) st K r:=by
 have q:=c.get x;simp only[cM] at h;split at h
 .rename_i id m B;rw[B] at q;split at h
  .rename_i o i;split at h
   .rename_i k l;split at h
    .rename_i ys A;obtain⟨es,D,f⟩:=aC2 A (c.get y) c.hp;split at h
     .rename_i e;simp only[Zd] at e;have p:=Zc e.1;have e2:0<s:=by simpa [YC] using e.2.1
      have j:=Zj e.2.2;obtain⟨F,a,h⟩:=bD h;unfold cpy at a;split at a
      .rename_i u;cases a;obtain⟨w,g,t⟩:=c.hp.lst i;rw[p] at g;have C:=q.mw i;refine dC.put (v:=.lit (.int .i64 ((es.length:Nat):Int))) (b:=.blk s (aP w (Dd l m).1 es)) c i (Gx u.2) ?_ ⟨_,by rw[p],t.spl f⟩ (by rw[f.len];exact Qh.l _) h;simp only[aL,D,C,g,f.all p,e2,Y7,Zz];rw[Zu ⟨trivial,t.len,by rw[f.len];exact u.1,j⟩];split
       .rename_i z;have:es=[]:=ZK.1 z;subst this;simp only[Ua,JA g];rfl
       .rfl
      .cases a
     .cases h
    .cases h
   .cases h
  .cases h
 .cases h
theorem aLs[aG]{s:Nat}{z:List Value}{x:aZ}(f:Qt N S st)(h:cM E n d (.clear s z x) S K=some r): dC P cf E.fl N (.clear s z x) st K r:=by
 have q:=f.get x;have y:Qh S.hp (.tup []) (.tup []):=Qh.mkT (cs:=[]) trivial;simp only[cM] at h;split at h
 .rename_i id m G;rw[G] at q;split at h
  .rename_i o j;split at h
   .rename_i k l;split at h
    .rename_i A H;have g:Qr (jJ _ A) (z.map .lit):=jC (H':=S.hp) H (Qc.lits z);split at h
     .rename_i c;simp only[Zd] at c;have u:=Zc c.1;have e2:0<s:=by simpa [YC] using c.2.1
      have i:=Zj c.2.2.1;have F:=Zc c.2.2.2;obtain⟨J,a,h⟩:=bD h;unfold clr at a;split at a
      .rename_i w;cases a;obtain⟨B,p,t⟩:=f.hp.lst j;rw[u] at p;have I:=q.mw j;refine dC.put (v:=.tup []) (b:=.blk s (aP B (Dd l m).1 (List.replicate (Dd l m).2 (z.map .lit)))) f j (Gx (by rw[Yo];exact w)) ?_ ⟨_,by rw[u],t.spl (Ql.rep g _)⟩ (Qh.mkT (cs:=[]) trivial) h;simp only[aL,I,p];rw[Zu ⟨trivial,t.len,w,i,e2,F⟩];split
       .rename_i D;simp only[D,List.replicate_zero,Ua,JA p]
       .rfl
      .cases a
     .cases h
    .cases h
   .cases h
  .cases h
 .split at h
  .rename_i C;refine dC.same (v:=.tup []) f ?_ y h;rcases aCO C q with e | e<;>simp only[aL,e,bL]
  .cases h
theorem aGz[aG]{s bytes:Nat}{z:List Value}{x m:aZ}(f:Qt N S st)(h:cM E n d (.appendZ s bytes z x m) S K=some r): dC P cf E.fl N (.appendZ s bytes z x m) st K r:=by
 have q:=f.get x;have G:=f.hp.ln;simp only[cM] at h;split at h
 .rename_i B;have c:=aCO B q;split at h
  .rename_i e;simp only[Zd] at e;have w:=Zc e.1;have e2:0<s:=by simpa [YC] using e.2.1
   have A:=Zc e.2.2.1;have t:=Zj e.2.2.2;split at h
   .rename_i g C;have k:Qr (jJ _ g) (z.map .lit):=jC (H':=S.hp) C (Qc.lits z);split at h
    .rename_i a J;obtain⟨l,L,h⟩:=bD h;obtain⟨I,M,Q,rfl⟩:=SR L;have F:=Pb f J I;have O:=Y8 (show a.toNat<=1000000 by omega) t;have p:kP a.toNat bytes=true:=rV (by omega) t;have u:eT s (List.replicate a.toNat (z.map AV.lit))=true:=(Ql.rep k a.toNat).all w;have ev:aL P cf E.fl (.appendZ s bytes z x m) st.tmps st.heap=cN E.fl st.heap s bytes (aH st.tmps x) (List.replicate a.toNat (z.map .lit)):=by
      simp only[aL,F];rw[Zu ⟨A,by omega,by omega⟩]
     rcases d9 h with⟨i,h⟩ | ⟨i,h⟩
     .have D:a.toNat=0:=by simpa using i
      refine dC.same f ?_ q h;rw[ev,D];rcases c with c | c<;>rw[c]<;>simp[cN,eT,e2,kP,bL]
     .have y:a.toNat≠0:=by simpa using i
      refine dC.add (v:=.ms st.heap.length a.toNat 0 a.toNat) (o:=.lst (lO E d) (List.replicate a.toNat g)) (b:=.blk s (List.replicate a.toNat (z.map .lit))) f ?_ ⟨_,by rw[w],Ql.rep k _⟩ ?_ h
      .rw[ev];rcases c with c | c<;>rw[c]
       .simp[cN,bL,u,e2,p,y]
       .have j:eT s ([]:List (List AV))=true:=rfl;unfold cN;simp only[u,e2,p,y,j,Y7,Zz,Z9,Z1,Z0,Xt,Yo]
      .have:=Qh.ms (H:=S.hp++[.lst (lO E d) (List.replicate a.toNat g)]) S.hp.length (lO E d) (List.replicate a.toNat g) (by simp);rw[Yo] at this;rw[G];exact this
    .cases h
   .cases h
  .cases h
 .split at h
  .rename_i id w hx;rw[hx] at q;split at h
   .split at h
    .rename_i o ho;split at h
     .rename_i k l;split at h
      .rename_i hk;simp only[Zd] at hk
       have e1:=Zc hk.1
       have e2:0<s:=by simpa [YC] using hk.2.1
       have hfl:=Zj hk.2.2.1
       have e3:=Zc hk.2.2.2.1
       have hb:=Zj hk.2.2.2.2
       split at h
       .rename_i z' hz
        have hq':Qr (jJ _ z') (z.map .lit):=jC (H':=S.hp) hz (Qc.lits z)
        split at h
        .rename_i a ha
         obtain⟨y,hr,h⟩:=bD h
         obtain⟨c1,c2,c3,rfl⟩:=SR hr
         obtain⟨l',hl',h⟩:=bD h
         obtain⟨e4,hle⟩:=Ol hl'
         subst e4
         have k1:=Pb f ha c1
         have O:=Y8 (show a.toNat<=1000000 by omega) hb
         obtain⟨bs,g1,g2⟩:=f.hp.lst ho
         rw[e1] at g1
         have hq:=q.mw ho
         have hA:eT s (List.replicate a.toNat (z.map AV.lit))=true:=(Ql.rep hq' a.toNat).all e1
         rw[Yo] at hle
         have he:=k9 (fl:=E.fl) (bytes:=bytes) (tot:=l.length) (ys:=List.replicate a.toNat (z.map AV.lit)) g1 g2.len hA e2 (rV (by rw[Yo];omega) hb) (rV (by rw[Yo];omega) hb) hfl
         refine⟨.ms id (l.length+a.toNat) 0 (l.length+a.toNat),st.heap.set id (.blk s (bs++List.replicate a.toNat (z.map .lit))),.ms id none,nP id (jT S id (.lst k (l++List.replicate a.toNat z'))),?_,O3 f ho λH=>⟨_,by rw[e1],g2.app (Ql.rep hq' a.toNat)⟩,?_,h⟩
         .simp only[aL,k1,hq];rw[Zu ⟨e3,by omega,by omega⟩];simpa[Dd] using he
         .have:=Qh.ms (H:=(nP id (jT S id (.lst k (l++List.replicate a.toNat z')))).hp) id k (l++List.replicate a.toNat z') (by simp[nP,jT,Zk,(Ze.1 ho).1,Mt]);rw[Zh,Yo] at this;exact this
        .cases h
       .cases h
      .cases h
     .cases h
    .cases h
   .cases h
  .cases h
theorem aMZ{k:Nat}{v:TV}{l:List (den k)}{a:AV}(h:rdX [] k v=some l)(q:Qh H v a): Qh ([]:TH) v a:=by
 cases v with
 | sl k l=>exact .p _ _ (q.pu trivial)
 | emp b=>exact .p _ _ (q.pu trivial)
 | vw k l=>exact .p _ _ (q.pu trivial)
 | lit v=>rw[q.inL];exact Qh.l _
 | ms id m=>simp[rdX,L7] at h
 | _=>cases h
theorem aLx[aG]{vi:Nat}{s:List aZ}(H:s8 P T E)(g:Qt N S st)(h:cM E n d (.callF vi s) S K=some r): dC P (fB P T n) E.fl N (.callF vi s) st K r:=by
 have q:=UX g s;simp only[cM] at h;split at h
 .rename_i p M;split at h
  .rename_i k;obtain⟨a1,bytes,z,V,h0,R⟩:=H.pr vi _ M;unfold aQ4 at h;split at h
   .rename_i x O;rw[O] at q;split at h
    .rename_i l I;obtain⟨a,y⟩:∃a,s.map (aH st.tmps)=[a]:=by
      cases u:s.map (aH st.tmps) with
      | nil=>rw[u] at q;exact q.elim
      | cons a t=>rw[u] at q;cases t with
       | nil=>exact⟨a,rfl⟩
       | cons _ _=>exact q.2.elim
     rw[y] at q;obtain⟨m,hm,h⟩:=bD h;have e:=aHz hm;subst e;obtain⟨W,e2,e3⟩:=aIU (P:=P) (n:=m) (G:=st.heap) V h0;have ev:aL P (fB P T (m+1)) E.fl (.callF vi s) st.tmps st.heap=fB P T (m+1) st.heap.length vi [a] st.heap:=by simp only[aL,y]
     have D:∃es,(a=.lit bL/\es=[]\/(∃f,a=.sl f es)\/a=.vw es)/\Ql k l es:=by
      rcases DY (A:=[]) I (aMZ I q.1) (λ_=>trivial) with⟨es,i,w⟩ | ⟨_,es,i,w⟩ | ⟨_,id,tot,o,n,es,e,i,_⟩
      .exact⟨es,i.imp (λh=>h) .inl,w⟩
      .exact⟨es,i,w⟩
      .subst e;simp[rd] at i
     obtain⟨es,c,j⟩:=D;rcases d9 h with⟨F,h⟩ | ⟨F,h⟩
     .have:l=[]:=by simpa using F
      subst this;have:es=[]:=ZK.1 j.len;subst this;rcases c with⟨c,_⟩ | c
      .refine dC.same (v:=.lit bL) g ?_ (.p _ _ (.emp _ _ (.inl rfl))) h;rw[ev,c];exact W
      .refine dC.same (v:=.sl false []) g ?_ (.p _ _ (.emp _ _ (.inr (.inr ⟨rfl,rfl⟩)))) h;rw[ev];exact e2 a c
     .obtain⟨C,B,L⟩:=bD h;clear h;obtain⟨J,X⟩:=Ol B;rw[Xt] at J;subst J;cases es with
      | nil=>
       have:C=[]:=ZK.1 j.len.symm;subst this;cases F
      | cons e es=>
       have y:(∃f,a=.sl f (e::es))\/a=.vw (e::es):=by
        rcases c with⟨_,c⟩ | c
        .cases c
        .exact c
       have g3:=e3 a e es y (j.all rfl) (rV (by rw[j.len];simpa using X) R);refine dC.add (v:=.ms st.heap.length (e::es).length 0 (e::es).length) (o:=.lst k C) (b:=.blk (cds k).length (e::es)) g (by rw[ev];exact g3) ⟨_,rfl,j⟩ ?_ L;rw[g.hp.ln,j.len];exact .ms _ k C (by simp)
    .cases h
   .cases h
  .cases h
 .obtain⟨v,Q,tv,S',i,w,U,Y⟩:=Oj (by rw[g.hp.ln];exact Zf _) g q H.il h;exact⟨v,Q,tv,S',by simp only[aL];rw[g.hp.ln];exact i,w,U,Y⟩
theorem aKA[aG]{m k:Nat}{x:aZ}(u:Qt N S st)(h:cM E n d (.loadF m k x) S K=some r): dC P cf E.fl N (.loadF m k x) st K r:=by
 have q:=u.get x;simp only[cM] at h;split at h
 .rename_i id off j;rw[j] at q;split at h
  .split at h
   .rename_i o z;split at h
    .rename_i cs;split at h
     .rename_i e
      have e:=Zc e
      obtain⟨aw,p,b⟩:=u.hp.box z
      have w:eB st.heap (aH st.tmps x) m=some aw:=by
       have B:=b.len
       rw[q.ptr1];simp[eB,p,e,B];exact ZW (Nat.le_of_eq (B.trans e))
      split at h
      .rename_i v y
       obtain⟨a,i,g⟩:=b.get y
       split at h
       .rename_i f c
        split at h
        .rename_i C
         have C:=Zj C
         split at h
         .rename_i D
          split at h
          .rename_i kk l
           obtain⟨es,F,G⟩:=u.hp.lst D
           have s:=ER u (Ze.1 D).1 (.blk (cds kk).length (es++[List.replicate (cds kk).length .undef]))
           have T:=g.mw D
           refine⟨.agg (aw.set k (.sl false (((es.drop (Dd l c).1).take (Dd l c).2).map λe=>e.map Cx))),_,_,_,?_,s,Qh.mkA (bT.set (b.mapL λ_ _ q=>Dx aEK q) k (.p _ _ (Qp.mkS (.inr ⟨_,rfl⟩) (sI.ls (by rw[QX];exact (G.drop _).take _))))),h⟩
           simp only[aL,w,i,T,C,Zz,F,G.len]
          .cases h
         .cases h
        .cases h
       .refine dC.same u ?_ (Qh.mkA b) h
        cases g.pu trivial with
        | emp b a c=>rcases c with rfl | rfl | ⟨_,rfl⟩<;>simp only[aL,w,i]
       .have e:=g.inL;subst e;refine dC.same u ?_ (Qh.mkA b) h;simp only[aL,w,i]
       .cases h
      .cases h
     .cases h
    .cases h
   .cases h
  .cases h
 .cases h
end
end
end Go.Proofs.YtabioopnpgiijaaGreatDoor.Av
