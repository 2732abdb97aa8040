/- A part of the proof of a law. -/
import Derived.Test.YtabioopnpgiijaaGreatDoorP4
set_option maxRecDepth 100000
set_option maxHeartbeats 4000000
set_option linter.all false
namespace Go.Proofs.YtabioopnpgiijaaGreatDoor.Av
open Go
section
open jH (den cds ag)
section
variable [dS]{R:Type}{H H1:TH}{A:aY}{N:Nat}{S:TS}{st:St}{P:Program}{T:List cQ}{cf:CF}{op:Hq}{K:TV->TS->Option R}{r:R}{E:XE}{n:Nat}{d:Option Nat}
theorem V3{v:TV}{a:AV}(q:Qh H v a)(G:∀cs,v≠.agg cs): Qh H (aFJ v)<|nrm a:=by
 cases v with
 | lit u=>
  have e:=q.inL;subst e;cases u with
  | slice o l c=>
   cases o with
   | some o=>exact Qh.u _
   | none=>
    cases l with
    | succ l=>exact Qh.u _
    | zero=>
     cases c with
     | succ c=>exact Qh.u _
     | zero=>exact .p _ _<|.emp _ _<|.inr<|.inr ⟨rfl,rfl⟩
  | _=>exact q
 | emp b=>
  cases (q.pu trivial) with
  | emp _ _ h=>rcases h with rfl | rfl | ⟨_,rfl⟩<;>exact .p _ _ (.emp _ _<|.inr<|.inr ⟨rfl,rfl⟩)
 | sl k l=>
  let⟨es,d,g⟩:=(q.pu trivial).inS;rcases d with⟨rfl,rfl⟩ | ⟨f,rfl⟩<;>exact .p _ _ (Qp.mkS (.inr ⟨_,rfl⟩) g)
 | vw k l=>
  let⟨es,d,g⟩:=(q.pu trivial).inV;rcases d with⟨rfl,rfl⟩ | ⟨f,rfl⟩ | rfl
  .exact .p _ _<|Qp.mkV (.inr<|.inl ⟨_,rfl⟩) g
  .exact .p _ _<|Qp.mkV (.inr<|.inl ⟨_,rfl⟩) g
  .exact q
 | undef=>exact Qh.u _
 | agg cs=>exact (G cs rfl).elim
 | rptr cs=>obtain⟨aw,rfl,_⟩:=(q.pu trivial).inR;exact q
 | sptr k x=>obtain⟨aw,rfl,_⟩:=(q.pu trivial).inP;exact q
 | ptr=>have e:=q.ptr1;subst e;exact q
 | pel=>let⟨_,_,_,_,_,e⟩:=q.pel1;subst e;exact q
 | fn vi cs=>obtain⟨aw,rfl,_⟩:=q.inF;exact q
 | tup cs=>obtain⟨aw,rfl,_⟩:=q.inT;exact q
 | rmp=>
  let⟨rows,d,_⟩:=(q.pu trivial).inM;rcases d with⟨rfl,_⟩ | rfl<;>exact q
 | rs=>have e:=q.rs1;subst e;exact q
 | rel=>have e:=q.rel1;subst e;exact q
 | ms id m=>
  cases q with
  | p _ _ q=>cases q
  | ms _ k l h=>exact .ms _ k l h
  | msn _ n k l h=>exact .msn _ n k l h
 | mp=>cases q with
  | p _ _ q=>cases q
  | mp=>exact .mp _
 | it=>cases q with
  | p _ _ q=>cases q
  | it=>exact .it _
theorem aRT[aH]{x:bB}(a:Qt N S st)(h:cO E n d (.mov x) S K=some r): dG P cf E.fl N (.mov x) st K r:=dG.same a rfl (a.get x) h
theorem aOU[aH]{c x y:bB}(a:Qt N S st)(h:cO E n d (.pick c x y) S K=some r): dG P cf E.fl N (.pick c x y) st K r:=by
 have q:=a.get c;simp only[cO] at h;split at h
 .rename_i u f;rw[f] at q;have e:=q.inL;split at h
  .rename_i b;cases b with
   | true=>exact dG.same a (by simp only[aM,e,Zz]) (a.get x) h
   | false=>exact dG.same a (by simp only[aM,e];rfl) (a.get y) h
  .cases h
 .cases h
theorem aNc[aH]{z:List Value}(a:Qt N S st)(h:cO E n d (.alloc z) S K=some r): dG P cf E.fl N (.alloc z) st K r:=by
 have c:=a.hp.ln;exact dG.add (v:=.ptr st.heap.length 1 0 0) (o:=.box<|z.map .lit) (b:=.blk z.length [z.map .lit]) a rfl ⟨z.map .lit,by simp,Qc.lits z⟩ (by rw[c];exact .ptr _ _) h
theorem aMP[aH]{s:Nat}(a:Qt N S st)(h:cO E n d (.claim s) S K=some r): dG P cf E.fl N (.claim s) st K r:=by
 have c:=a.hp.ln;simp only[cO] at h;split at h
 .rename_i e;have e:=Zc e;exact dG.add (v:=.ms st.heap.length 0 0 0) (o:=.lst (mA E d) []) (b:=.blk s []) a rfl ⟨[],by rw[e],trivial⟩ (by rw[c];exact .ms _ (mA E d) []<|by simp) h
 .cases h
theorem aSE[aH]{x:bB}(c:Qt N S st)(h:cO E n d (.box x) S K=some r): dG P cf E.fl N (.box x) st K r:=by
 have g:=c.hp.ln;simp only[cO] at h;split at h
 .rename_i cs a;let⟨aw,f,e⟩:=Qy a<|c.get x;exact dG.add (v:=.ptr st.heap.length 1 0 0) (o:=.box cs) (b:=.blk aw.length [aw]) c (by simp only[aM,f]) ⟨aw,by rw[e.len],e.imp λ_ _ h=>h.mono HM.add⟩ (by rw[g];exact .ptr _ _) h
 .cases h
theorem aC1[aH](f:Qt N S st): ∀{b:List<|Nat×Nat×bB} {cs cs':List TV} {aw:List AV},aGh cs (b.map λ(o,s,x)=>(o,s,bZ S.tm x))=some cs'->Qc S.hp cs aw->
 ∃a,PU aw (b.map λ(o,s,x)=>(o,s,aI st.tmps x))=some a/\Qc S.hp cs' a
 | [],cs,cs',aw,h,q=>by cases h;exact⟨aw,rfl,q⟩
 | (o,s,x)::b,cs,cs',aw,h,q=>by
  simp only[ZE,aGh] at h;split at h
  .cases h
  .rename_i vs c;let⟨k,j,d⟩:=Qy c<|f.get x;split at h
   .rename_i e;have e:=Zc e;split at h
    .rename_i e2;have e2:=Zj e2;let⟨a,g,i⟩:=aC1 f h<|q.spl d;refine⟨a,?_,i⟩;simp only[ZE,PU,j];rw[Zu ⟨by rw[d.len,e],by rw[q.len];exact e2⟩];exact g
    .cases h
   .cases h
theorem aMW[aH]{z:List Value}{c:List<|Nat×Nat×bB}(b:Qt N S st)(h:cO E n d (.build z c) S K=some r): dG P cf E.fl N (.build z c) st K r:=by
 simp only[cO] at h;split at h
 .rename_i cs a;let⟨aw,e,f⟩:=aC1 b a<|Qc.lits z;exact dG.same b (by simp only[aM,e]) (Qh.mkA f) h
 .cases h
theorem aC2[aH]{s:Nat}(f:Qt N S st): ∀{b:List<|Nat×bB} {cs cs':List<|List TV} {aw:List<|List AV},aGi s cs (b.map λ(i,x)=>(i,bZ S.tm x))=some cs'->bW (Qc S.hp) cs aw->
 ∃a,Oo s aw (b.map λ(i,x)=>(i,aI st.tmps x))=some a/\bW (Qc S.hp) cs' a/\cs'.length=cs.length
 | [],cs,cs',aw,h,q=>by cases h;exact⟨aw,rfl,q,rfl⟩
 | (i,x)::b,cs,cs',aw,h,q=>by
  simp only[ZE,aGi] at h;split at h
  .cases h
  .rename_i vs c;let⟨m,l,d⟩:=Qy c<|f.get x;split at h
   .rename_i e;have e:=Zc e;split at h
    .rename_i e2;have e2:i<cs.length:=by simpa [YC] using e2
     let⟨a,g,j,k⟩:=aC2 f h<|q.set i d;refine⟨a,?_,j,by rw[k];simp⟩;simp only[ZE,Oo,l];rw[Zu ⟨by rw[d.len,e],by rw[q.len];exact e2⟩];exact g
    .cases h
   .cases h
theorem aHI[aH]{pu:Bool}{s m:Nat}{z:List Value}{i:List<|Nat×bB}(a:Qt N S st)(h:cO E n d (.buildSl pu s m z i) S K=some r): dG P cf E.fl N (.buildSl pu s m z i) st K r:=by
 have q:=a.hp.ln;simp only[cO] at h;split at h
 .rename_i es j;let⟨aw,k,f,u⟩:=aC2 a j<|bW.rep (Qc.lits z) m;split at h
  .split at h
   .cases h
   .exact dG.add (v:=.ms st.heap.length m 0 m) (o:=.rows s es) (b:=.blk s aw) a (by simp only[aM,k,Zn,Z9]) ⟨aw,rfl,f.imp λ_ _ h=>h.imp λ_ _ h=>h.mono HM.add⟩ (by rw[q];exact .rs _ _) h
  split at h
  .rename_i l c;have g:=U0 c f;split at h
   .rename_i e;have e:=Zc e;have t:l.length=m:=by rw[<-g.len,f.len,u];simp
    cases pu with
    | true=>
     simp only at h;have he:aM P cf E.fl (.buildSl true s m z i) st.tmps st.heap=some (.sl true<|aw.map λe=>e.map Ed,st.heap):=by simp only[aM,k,Zz]
     split at h
     .cases aw with
      | nil=>exact dG.same a he (.p _ _<|.emp _ _<|.inr<|.inl rfl) h
      | cons=>exact f.elim
     .exact dG.same a he (.p _ _<|Qp.mkS (.inr ⟨_,rfl⟩)<|uD.ls g) h
    | false=>
     exact dG.add (v:=.ms st.heap.length m 0 m) (o:=.lst (mA E d) l) (b:=.blk s aw) a (by simp only[aM,k,Zn,Z9]) ⟨aw,by rw[e],g⟩ (by rw[q,<-t];exact .ms _ (mA E d) l<|by simp) h
   .cases h
  .cases h
 .cases h
theorem aEf[aH]{x:bB}(b:Qt N S st)(h:cO E n d (.nilCheck x) S K=some r): dG P cf E.fl N (.nilCheck x) st K r:=by
 have q:=b.get x;simp only[cO] at h;split at h
 .rename_i a;rw[a] at q;exact dG.same b (by simp only[aM,q.ptr1]) (q.ptr1▸q) h
 .rename_i a;rw[a] at q;let⟨_,_,_,_,_,e⟩:=q.pel1;exact dG.same b (by simp only[aM,e]) (e▸q) h
 .rename_i a;rw[a] at q;let⟨aw,e,_⟩:=(q.pu trivial).inR;exact dG.same b (by simp only[aM,e]) (e▸q) h
 .rename_i a;rw[a] at q;let⟨aw,e,_⟩:=(q.pu trivial).inP;exact dG.same b (by simp only[aM,e]) (e▸q) h
 .rename_i a;rw[a] at q;let⟨aw,e,_⟩:=q.inF;exact dG.same b (by simp only[aM,e]) (e▸q) h
 .cases h
theorem aP3{o:BinOp}{k:IntKind}{a b:Int}{K:TV->Option R}(h:aSd o k a b K=some r): ∃v tv,O4 o k a b=some v/\Qh H tv (.lit v)/\K tv=some r:=by
 have d:∀{c:Bool},Mm (.lit<|.bool c) K=some r->∃v tv,some (Value.bool c)=some v/\Qh H tv (.lit v)/\K tv=some r:=by
  intro c h;let⟨q,i,n⟩:=EJ h<|Qh.l (H:=H)<|.bool c;exact⟨_,q,rfl,i,n⟩
 cases o with
 | add=>exact⟨_,_,rfl,Qh.l _,h⟩
 | sub=>exact⟨_,_,rfl,Qh.l _,h⟩
 | mul=>exact⟨_,_,rfl,Qh.l _,h⟩
 | eql=>exact d h
 | neq=>exact d h
 | lss=>exact d h
 | leq=>exact d h
 | gtr=>exact d h
 | geq=>exact d h
 | _=>cases h
theorem aP5[aH]{o:BinOp}{x y:bB}(c:Qt N S st)(h:cO E n d (.ibin o x y) S K=some r): dG P cf E.fl N (.ibin o x y) st K r:=by
 have q:=c.get x;have f:=c.get y;simp only[cO] at h;split at h
 .rename_i u m;rw[m] at q;split at h
  .rename_i k a;split at h
   .rename_i w g;rw[g] at f;split at h
    .rename_i k' b;split at h
     .rename_i e _;subst e;obtain⟨v,tv,j,l,i⟩:=aP3 h;exact dG.same c (by simp only[aM,q.inL,f.inL,Zz,j]) l i
     .cases h
    .cases h
   .cases h
  .cases h
 .cases h
theorem aUk[aH]{o:UnOp}{x:bB}(a:Qt N S st)(h:cO E n d (.un o x) S K=some r): dG P cf E.fl N (.un o x) st K r:=by
 have q:=a.get x;simp only[cO] at h;split at h;all_goals first | cases h | skip;all_goals
  split at h
  .rename_i u b;rw[b] at q;split at h
   .exact dG.same a (by simp only[aM,q.inL];rfl) (Qh.l _) h
   .cases h
  .cases h
theorem aC4[aH]{o:Nat}{x:bB}(b:Qt N S st)(h:cO E n d (.fieldAddr o x) S K=some r): dG P cf E.fl N (.fieldAddr o x) st K r:=by
 have q:=b.get x;simp only[cO] at h;split at h
 .rename_i a;rw[a] at q;exact dG.same b (by simp only[aM,q.ptr1]) (.ptr _ _) h
 .rename_i a;rw[a] at q;let⟨k,l,f,c,g,e⟩:=q.pel1;exact dG.same b (by simp only[aM,e]) (.pel _ _ _ k l f c g) h
 .rename_i a;rw[a] at q;let⟨aw,e,c⟩:=(q.pu trivial).inR;exact dG.same b (by simp only[aM,e]) (.p _ _<|Qp.mkR<|c.drop _) h
 .rename_i a;rw[a] at q;let⟨aw,e,c⟩:=(q.pu trivial).inP;exact dG.same b (by simp only[aM,e]) (.p _ _<|Qp.mkR<|c.drop _) h
 .rename_i a;rw[a] at q;exact dG.same b (by simp only[aM,q.rel1]) (.rel _ _ _ _) h
 .cases h
theorem aM0[aH]{agg:Bool}{m o:Nat}{x:bB}(b:Qt N S st)(h:cO E n d (.field agg m o x) S K=some r): dG P cf E.fl N (.field agg m o x) st K r:=by
 have q:=b.get x;simp only[cO] at h;split at h
 .rename_i cs k;rw[k] at q;let⟨aw,g,c⟩:=q.inA;let⟨e,tv,v,a,j,f⟩:=VX h c;refine dG.same b ?_ j f;simp only[aM,g,e,Zz];cases agg with
  | true=>simp only[Zz,Za] at a |-;rw[a]
  | false=>
   simp only[Zn,Z9] at a |-;split at a
   .rename_i i;rw[i];cases a;rfl
   .cases a
 .cases h
theorem uG{v:TV}{a:AV}{i:Int}(h:aFY v=some i)(q:Qh H v a)(b:0<=i): gZ a=some i.toNat:=by
 unfold aFY at h;split at h
 .cases h;rw[q.inL];simp[gZ,b]
 .cases h
theorem aHy[aH]{s:Nat}{x i:bB}(a:Qt N S st)(h:cO E n d (.idxAddr s x i) S K=some r): dG P cf E.fl N (.idxAddr s x i) st K r:=by
 have q:=a.get x;have B:=a.get i;simp only[cO] at h;split at h
 .rename_i j A;split at h
  .rename_i k l g;rw[g] at q;split at h
   .rename_i e;have e:=Zc e;let⟨y,t,h⟩:=bD h;let⟨c,F,_⟩:=pP t;let⟨es,D,C⟩:=(q.pu trivial).inS;let⟨H,he,u⟩:=C.get F;rcases D with⟨_,rfl⟩ | ⟨f,G⟩
    .simp at he
    .refine dG.same a ?_ (.p _ _<|Qp.mkR u) h;simp only[aM,uG A B c,G,he];rw[Zu<|by rw[u.len,tV,e]]
   .cases h
  .rename_i k l g;rw[g] at q;split at h
   .rename_i e;have e:=Zc e;let⟨y,t,h⟩:=bD h;let⟨c,F,_⟩:=pP t;let⟨es,D,C⟩:=(q.pu trivial).inV;let⟨H,he,u⟩:=C.get F;rcases D with⟨_,rfl⟩ | ⟨f,G⟩ | G
    .simp at he
    .refine dG.same a ?_ (.p _ _<|Qp.mkR u) h;simp only[aM,uG A B c,G,he];rw[Zu<|by rw[u.len,tV,e]]
    .refine dG.same a ?_ (.p _ _<|Qp.mkR u) h;simp only[aM,uG A B c,G,he];rw[Zu<|by rw[u.len,tV,e]]
   .cases h
  .rename_i id m g;rw[g] at q;split at h
   .rename_i o z;split at h
    .rename_i k l;split at h
     .rename_i e;have e:=Zc e;let⟨es,D,C⟩:=a.hp.lst z;have L:=q.mw z;split at h
      .let⟨y,t,h⟩:=bD h;let⟨c,F,M,J⟩:=aHx t;refine dG.same a ?_ (.pel id j 0 k l z c J) h;simp only[aM,uG A B c,L,D,Ei];rw[Zu ⟨e,C.len,F⟩,Z0]
      .rename_i w;let⟨y,t,h⟩:=bD h;let⟨c,F,M⟩:=pP t;simp only[win,ZH,ZV] at M;have J:(j+((w.1:Nat):Int)).toNat=w.1+j.toNat:=by omega
       refine dG.same (v:=.ptr id l.length (w.1+j.toNat) 0) a ?_ (by rw[<-J];exact .pel id _ 0 k l z (by omega)<|by omega) h;simp only[aM,uG A B c,L,D,Ei];rw[Zu ⟨e,C.len,by omega⟩]
     .cases h
    .cases h
   .cases h
  .rename_i id m g;rw[g] at q;split at h
   .rename_i I;split at h
    .rename_i o z;split at h
     .split at h
      .rename_i e;simp only[Zd] at e;have H:=Zc e.1;have e2:=Zc e.2.1;have R:I<m:=by simpa [YC] using e.2.2
       obtain⟨b,Q,aw,rfl,O⟩:=a.hp.get z;refine dG.same a ?_ (.rel id m I 0) h;have T:gZ (aI st.tmps i)=some I:=uG A B<|Wc _;simp only[aM,T,q.rs1,Q];rw[Zu ⟨H,by rw[O.len,e2],R⟩,Z0]
      .cases h
     .cases h
    .cases h
   .cases h
  .cases h
 .cases h
theorem aPt[aH]{x:bB}(w:Qt N S st)(h:cO E n d (.lenS x) S K=some r): dG P cf E.fl N (.lenS x) st K r:=by
 have q:=w.get x;simp only[cO] at h;split at h
 .rename_i m g;refine dG.same w ?_ (Qh.l _) h;generalize bZ S.tm x=v at g q;generalize i:aI st.tmps x=a at q;cases v with
  | sl k l=>
   cases g;let⟨es,j,s⟩:=(q.pu trivial).inS;rw[<-s.len];rcases j with⟨rfl,rfl⟩ | ⟨f,rfl⟩<;>simp only[aM,i]<;>rfl
  | vw k l=>
   cases g;let⟨es,j,s⟩:=(q.pu trivial).inV;rw[<-s.len];rcases j with⟨rfl,rfl⟩ | ⟨f,rfl⟩ | rfl<;>simp only[aM,i]<;>rfl
  | emp b=>
   cases g;cases (q.pu trivial) with
   | emp _ _ h=>rcases h with rfl | rfl | ⟨_,rfl⟩<;>simp only[aM,i]<;>rfl
  | lit u=>
   have e:=q.inL;subst e;unfold aPs at g;split at g
   .rename_i e;cases e
   .rename_i e;cases e
   .rename_i e;cases e
   .rename_i e;cases e;cases g;simp only[aM,i];rfl
   .rename_i e;cases e
   .rename_i e;cases e
   .cases g
  | rs id c=>cases g;simp only[aM,i,q.rs1]
  | ms id c=>
   cases q with
   | p _ _ q=>cases q
   | ms _ k l t=>
    simp only[aPs,t] at g;cases g;simp only[aM,i]
   | msn _ c k l t=>
    cases g;simp only[aM,i]
  | _=>cases g
 .cases h
theorem aH6[aH]{i:Nat}{x:bB}(a:Qt N S st)(h:cO E n d (.extract x i) S K=some r): dG P cf E.fl N (.extract x i) st K r:=by
 have q:=a.get x;simp only[cO] at h;split at h
 .rename_i vs g;rw[g] at q;let⟨aw,e,j⟩:=q.inT;split at h
  .rename_i v k;let⟨b,f,c⟩:=j.get k;exact dG.same a (by simp only[aM,e,f]) c h
  .cases h
 .cases h
theorem yM{v:TV}{a:AV}{i:Int}(h:i64? v=some i)(q:Qh H v a): a=iv i:=by
 unfold i64? at h;split at h
 .split at h
  .split at h
   .cases h;exact q.inL
   .cases h
  .cases h
 .cases h
theorem aJz[aH]{mx:Bool}{g:List bB}(f:Qt N S st)(h:cO E n d (.minmax mx g) S K=some r): dG P cf E.fl N (.minmax mx g) st K r:=by
 simp only[cO] at h;split at h
 .rename_i p c;match g,c with
  | [x,y],c=>
   simp only[ZE,Yn,aN2] at c;split at c
   .rename_i a k;split at c
    .rename_i b j;cases c;have i:=yM k<|f.get x;have e2:=yM j<|f.get y;cases mx with
     | true=>
      refine dG.same f ?_ (Qh.l _) h;have e:aM P cf E.fl (.minmax true [x,y]) st.tmps st.heap=aM P cf E.fl (.minmax true [.tmp 0,.tmp 1]) [aI st.tmps x,aI st.tmps y] st.heap:=rfl;rw[e,i,e2];exact aJh
     | false=>
      refine dG.same f ?_ (Qh.l _) h;have e:aM P cf E.fl (.minmax false [x,y]) st.tmps st.heap=aM P cf E.fl (.minmax false [.tmp 0,.tmp 1]) [aI st.tmps x,aI st.tmps y] st.heap:=rfl;rw[e,i,e2];exact aOZ
    .cases c
   .cases c
  | [],c=>cases c
  | [_],c=>cases c
  | _::_::_::_,c=>cases c
 .cases h
end
section
variable [dS]{R:Type}{H H1:TH}{A:aY}{N:Nat}{S:TS}{st:St}{P:Program}{T:List cQ}{cf:CF}{op:Hq}{K:TV->TS->Option R}{r:R}{E:XE}{n:Nat}{d:Option Nat}
theorem TQ{i:Nat}: ∀{a:List Nat},FR i a=false->i∉a
 | [],_=>by simp
 | j::r,h=>by
  simp only[FR] at h;split at h
  .cases h
  .rename_i e;simp only[ZN,not_or];exact⟨YF e,TQ h⟩
theorem aEj{i:Nat}: ∀{a:List Nat},i∉a->FR i a=false
 | [],_=>rfl
 | j::r,h=>by
  simp only[ZN,not_or] at h;simp only[FR];split
  .rename_i e;exact absurd (Zc e) h.1
  .exact aEj h.2
def HMk(c:List Nat)(H H':TH): Prop:=∀(j k:Nat) (l:List<|den k),j∉c->H[j]?=some (.lst k l)->∃(k':Nat) (b:List<|den k'),H'[j]?=some (.lst k' b)/\b.length=l.length
theorem c8{f:List Nat}(m:HMk f H H1){v:TV}{a:AV}(q:Qh H v a): Qh H1 (c9 f v) a:=by
 cases q with
 | p _ _ q=>
  cases v with
  | ms=>cases q
  | pel=>cases q
  | agg=>cases q
  | tup=>cases q
  | fn=>cases q
  | _=>exact .p _ _ q
 | ms i k l h=>
  simp only[c9];cases e:FR i f with
  | true=>exact Qh.u _
  | false=>let⟨k',c,b,d⟩:=m i k l (TQ e) h;rw[<-d];exact .ms i k' c b
 | msn i n k l h=>
  simp only[c9];cases e:FR i f with
  | true=>exact Qh.u _
  | false=>let⟨k',c,b,d⟩:=m i k l (TQ e) h;rw[<-d];exact .msn i n k' c b
 | pel i j o k l h b d=>
  simp only[c9];cases e:FR i f with
  | true=>exact Qh.u _
  | false=>let⟨k',c,w,x⟩:=m i k l (TQ e) h;rw[<-x];exact .pel i j o k' c w b<|by omega
 | ptr=>exact .ptr _ _
 | mp=>exact .mp _
 | it=>exact .it _
 | rs=>exact .rs _ _
 | rel=>exact .rel _ _ _ _
 | fn vi cs aw b d=>
  cases cs with
  | nil=>
   cases aw with
   | nil=>exact Qh.mkF trivial
   | cons=>cases b
  | cons=>exact Qh.u _
 | agg=>exact Qh.u _
 | tup=>exact Qh.u _
theorem Fd{c:List Nat}(m:HMk c H H1){v:TV}{a:AV}(q:Qh H v a): Qh H1 (Uk c v) a:=by
 cases v with
 | agg cs=>
  obtain⟨aw,rfl,b⟩:=q.inA;exact Qh.mkA<|b.mapL λ_ _ q=>c8 m q
 | fn vi cs=>
  obtain⟨aw,rfl,b⟩:=q.inF;exact Qh.mkF<|b.mapL λ_ _ q=>c8 m q
 | tup cs=>exact Qh.u _
 | _=>exact c8 m q
theorem c7{f:TV->TV}{t:Nat}{v:TV}: ∀{tm:TT},dF t (tm.map λp=>(p.1,f p.2))=some v->∃u,dF t tm=some u/\v=f u
 | [],h=>by cases h
 | (s,u)::tm,h=>by
  simp only[ZE,dF] at h |-;split at h
  .cases h;exact⟨u,rfl,rfl⟩
  .exact c7 h
theorem aEl{a:List Nat}{t:Nat}{v:TV}{tm:TT}(h:dF t (aCh a tm)=some v): ∃u,dF t tm=some u/\(v=Uk a u\/(a=[]/\v=u)):=by
 cases a with
 | nil=>exact⟨v,h,.inr ⟨rfl,rfl⟩⟩
 | cons k r=>let⟨u,c,b⟩:=c7 h;exact⟨u,c,.inl b⟩
theorem aCg{f:List Nat}{A:aY}(d:Qt N S st)(m:HMk f S.hp H1)(g:Qs H1 A): Qt N ⟨aCh f S.tm,H1⟩ ⟨st.tmps,A⟩:=by
 refine⟨d.ln,λt v n=>?_,g⟩;let⟨u,j,e⟩:=aEl n;let⟨a,b,c⟩:=d.tm t u j;rcases e with rfl | ⟨rfl,rfl⟩
 .exact⟨a,b,Fd m c⟩
 .exact⟨a,b,c.mono λi k l h=>m i k l (by simp) h⟩
theorem aCj{a:List Nat}{o:qS}{b:dL}(m:HMk a H H1)(h:Qo H o b): Qo H1 (Nt a o) b:=by
 cases o with
 | box cs=>let⟨aw,e,q⟩:=h;exact⟨aw,by simpa using e,q.mapL λ_ _ q=>Fd m q⟩
 | rows s es=>let⟨aw,e,q⟩:=h;exact⟨aw,e,q.mapL λ_ _ q=>q.mapL λ_ _ q=>Fd m q⟩
 | _=>exact h
theorem aBZ{a:List Nat}{i k:Nat}{l:List<|den k}(h:H[i]?=some (.lst k l)): (H.map<|Nt a)[i]?=some (.lst k l):=by
 rw[Zk,h];rfl
theorem aCi{id:Nat}{o:qS}{b:dL}(d:Qt N S st)(n:Nt [id] o=o)(g:∀H,HMk [id] S.hp H->H[id]?=some o->Qo H o b)(a:id<S.hp.length): Qt N (oL id<|kI S id o) ⟨st.tmps,st.heap.set id b⟩:=by
 have e:(oL id<|kI S id o).hp=(S.hp.map<|Nt [id]).set id o:=by
  simp only[oL,kI,Xz,n]
 have m:HMk [id] S.hp (oL id<|kI S id o).hp:=by
  intro j k l i h;rw[e,Zv<|by simpa [Wy] using i];exact⟨k,l,aBZ h,rfl⟩
 refine aCg (S:=S) d m ?_;have f:bW (Qo (oL id<|kI S id o).hp) (S.hp.map<|Nt [id]) st.heap:=d.hp.mapL λ_ _ h=>aCj m h;have c:=f.set id<|g _ m<|by rw[e];simp[a]
 rw[<-e] at c;exact c
theorem aAf{id k:Nat}{l a:List<|den k}{b:dL}(e:Qt N S st)(f:S.hp[id]?=some (.lst k l))(d:∀H,Qo H (.lst k a) b): Qt N (oL id<|kI S id<|.lst k a) ⟨st.tmps,st.heap.set id b⟩:=
 aCi e rfl (λH _ _=>d H) (Ze.1 f).1
theorem tR{a bytes:Nat}(b:a<=1000000)(c:bytes<=100000): lD a bytes=true:=by
 have:=Y8 b c;simp[lD];exact⟨by omega,by omega⟩
theorem Ql.all{k s:Nat}{l:List<|den k}{es:List<|List AV}(h:Ql k l es)(e:(cds k).length=s): eW s es=true:=by
 unfold eW;rw[Yl];intro x c;let⟨i,b⟩:=WR c;have a:i<l.length:=by rw[<-h.len];exact (Ze.1 b).1
 have:=(h.at (Zb a) b).len;rw[this,tV,e];simp
theorem Hw{α:Type}{l ys:List α}{a:Nat}(h:a+ys.length<=l.length): (aT l a ys).length=l.length:=by
 simp only[aT,Zh,ZH,ZV];omega
theorem Vr{α:Type}(l:List α)(a:Nat): aT l a []=l:=by simp[aT]
theorem KK{α:Type}{l:List α}{i:Nat}{x:α}(h:l[i]?=some x): l.set i x=l:=by
 apply Ym;intro j;rw[Z5];split
 .rename_i e;subst e;rw[Zu (Ze.1 h).1,h]
 .rfl
theorem aHN{α:Type}{l ys a:List α}{w:Nat×Nat}(h:SU l w ys=some a): a=aT l (w.1+w.2) ys/\w.1+w.2+ys.length<=l.length/\l.length+ys.length<=1000000:=by
 unfold SU at h;split at h
 .rename_i b;cases h;exact⟨rfl,b⟩
 .cases h
theorem aHM{fl id s bytes tot off len:Nat}{H:aY}{es ys:List<|List AV}(b:H[id]?=some (.blk s es))(f:es.length=tot)(d:eW s ys=true)(j:0<s)(i:lD ys.length bytes=true)(c:lD (tot+ys.length) bytes=true)(e:fl<=id)(h:off+len+ys.length<=tot):
 cP fl H s bytes (.ms id tot off len) ys=some (.ms id tot off<|len+ys.length,H.set id<|.blk s<|aT es (off+len) ys):=by
 unfold cP;simp only[d,j,i,b,f,c,e,Y7,Zz];by_cases g:ys.length=0
 .have:ys=[]:=ZK.1 g;subst this;simp only[Z1,Xm,Zz,Vr,KK b]
 .rw[ZF g,ZF<|by omega,Zu h]
theorem dG.put[aH]{fl:Nat}{v:AV}{tv:TV}{id k:Nat}{l:List<|den k}{a:List<|den k}{b:dL}(f:Qt N S st)(i:S.hp[id]?=some (.lst k l))(e:a.length=l.length)(he:aM P cf fl op st.tmps st.heap=some (v,st.heap.set id b))(q:Qo (S.hp.set id<|.lst k a) (.lst k a) b)(g:Qh (S.hp.set id<|.lst k a) tv v)(h:K tv (kI S id<|.lst k a)=some r): dG P cf fl N op st K r:=
 dG.set f he (HM.set λm n d=>by rw[i] at d;cases d;exact⟨k,a,rfl,e⟩) q g h
theorem aK9[aH]{s bytes:Nat}{x y:bB}(p:Qt N S st)(h:cO E n d (.append s bytes x y) S K=some r): dG P cf E.fl N (.append s bytes x y) st K r:=by
 have q:=p.get x;have V:=p.get y;have J:=p.hp.ln;have Q:∀v,bZ S.tm x=v->PN v=true->(match Nat.beq (cds<|mA E d).length s&&Nat.blt 0 s with
  | true=>match rdX S.hp (mA E d) (bZ S.tm y) with
   | some ys=>match Nat.ble bytes 100000 with
    | true=>cnd (List.isEmpty ys) (K v S)<|bnd (app [] ys) λu=>K (.ms S.hp.length none)<|Pr S<|.lst (mA E d) u
    | false=>none
   | none=>none
  | false=>none)=some r->dG P cf E.fl N (.append s bytes x y) st K r:=by
  intro v Z c h;rw[Z] at q;have j:aI st.tmps x=.lit bM\/aI st.tmps x=.sl true []:=by
   unfold PN at c;split at c
   .subst c;cases (q.pu trivial) with
    | emp _ _ h=>
     rcases h with h | h | ⟨h,_⟩
     .exact .inl h
     .exact .inr h
     .cases h
   .split at c
    .split at c
     .split at c
      .split at c
       .exact .inl q.inL
       .cases c
      .cases c
     .cases c
    .cases c
   .cases c
  split at h
  .rename_i A;simp only[Zd] at A;have t:=Zc A.1;have e2:0<s:=by simpa [YC] using A.2
   split at h
   .rename_i ys C;let⟨es,F,a⟩:=aDK C V p.hp;split at h
    .rename_i i;have i:=Zj i;have W:=a.all t;rcases v6 h with⟨R,h⟩ | ⟨R,h⟩
     .have B:ys=[]:=by simpa using R
      subst B;have e4:es=[]:=ZK.1 a.len;subst e4;refine dG.same p ?_ q h;simp only[aM,F];rcases j with j | j<;>rw[j]<;>simp[cP,eW,e2,lD,bM]
     .let⟨u,g,h5⟩:=bD h;clear h;let⟨B,f⟩:=Pq g;rw[Xt] at B;subst B;simp only[Z1,Z0] at f;have U:lD es.length bytes=true:=tR (by rw[a.len];exact f) i;have X:es.length≠0:=by
       rw[a.len];intro e;have:=ZK.1 e;subst this;cases R
      refine dG.add (v:=.ms st.heap.length u.length 0 u.length) (o:=.lst (mA E d) u) (b:=.blk s es) p ?_ ⟨es,by rw[t],a⟩ (by rw[J];exact .ms _ (mA E d) u<|by simp) h5;simp only[aM,F,<-a.len];rcases j with j | j<;>rw[j]
      .simp[cP,bM,W,e2,U,X]
      .have M:eW s ([]:List<|List AV)=true:=rfl;unfold cP;simp only[W,e2,U,X,M,Y7,Zz,Z9,Z1,Z0,Xt]
    .cases h
   .cases h
  .cases h
 simp only[cO] at h;split at h
 .rename_i id m j;rw[j] at q;split at h
  .rename_i o D;split at h
   .rename_i k l;split at h
    .rename_i ys C;let⟨es,F,a⟩:=aDK C V p.hp;split at h
     .rename_i A;simp only[Zd] at A;have t:=Zc A.1;have e2:0<s:=by simpa [YC] using A.2.1
      have G:=Zj A.2.2;split at h
      .rename_i i;have i:=Zj i;let⟨L,O,I⟩:=p.hp.lst D;rw[t] at O;have T:=q.mw D;split at h
       .let⟨u,g,h⟩:=bD h;let⟨B,f⟩:=Pq g;subst B;have he:=y7 (fl:=E.fl) (bytes:=bytes) (tot:=l.length) (ys:=es) O I.len (a.all t) e2 (tR (by rw[a.len];omega) i) (tR (by rw[a.len];omega) i) G;refine⟨.ms id (l.length+es.length) 0<|l.length+es.length,st.heap.set id<|.blk s<|L++es,.ms id none,oL id<|kI S id<|.lst k<|l++ys,?_,aAf p D λH=>⟨L++es,by rw[t],I.app a⟩,?_,h⟩
        .simp only[aM,F,T];exact he
        .have:=Qh.ms (H:=(oL id<|kI S id<|.lst k<|l++ys).hp) id k (l++ys)<|by simp[oL,kI,Zk,(Ze.1 D).1,Nt]
         rw[Zh,<-a.len] at this;exact this
       .rename_i w;let⟨u,g,h⟩:=bD h;let⟨B,f,Y⟩:=aHN g;subst B;have z:(aT l (w.1+w.2) ys).length=l.length:=Hw<|by omega
        refine dG.put (v:=.ms id l.length w.1<|w.2+es.length) (b:=.blk s<|aT L (w.1+w.2) es) p D z ?_ ⟨_,by rw[t],I.spl a⟩ (by have:=Qh.msn (H:=S.hp.set id<|.lst k<|aT l (w.1+w.2) ys) id (w.1,w.2+ys.length) k _<|Z3 (Ze.1 D).1;rw[z,<-a.len] at this;rw[<-a.len];exact this) h;simp only[aM,F,T,Ei];exact aHM O I.len (a.all t) e2 (tR (by rw[a.len];omega) i) (tR (by rw[a.len];omega) i) G<|by rw[a.len];exact f
      .cases h
     .cases h
    .cases h
   .cases h
  .cases h
 .split at h
  .rename_i c;exact Q _ rfl c h
  .cases h
theorem V0{w:Nat}: ∀{b:List Sh},okA w b=true->∀s∈b,(∃k,s=.w k)\/(w=0/\∃k,s=.v k)
 | [],_,s,a=>by cases a
 | s'::r,h,s,a=>by
  have c:((∃k,s'=.w k)\/(w=0/\∃k,s'=.v k))/\okA w r=true:=by
   cases s' with
   | w k=>exact⟨.inl ⟨k,rfl⟩,h⟩
   | v k=>
    simp only[okA] at h;split at h
    .exact⟨.inr ⟨rfl,k,rfl⟩,h⟩
    .cases h
   | _=>cases h
  rcases ZN.1 a with rfl | a
  .exact c.1
  .exact V0 c.2 s a
theorem aOc{b:List Sh}{vs:List TV}{p:fP b}{aw:List AV}{c:TH}(d:okA 0 b=true)(h:Di 0 c b vs=some p)(q:Qc H vs aw): Qc H1 (Mi b p) (aw.map FP)/\∀a∈aw,sO a=true:=
 T8 (λs e=>by
  rcases V0 d s e with⟨k,rfl⟩ | ⟨_,k,rfl⟩
  .exact λh q=>⟨aUj (aOJ h q).1,(aOJ (H1:=[]) h q).2⟩
  .exact λh q=>aOJ h q) h q
theorem aK7{a:List Sh}{vs:List TV}{p:fP a}{aw:List AV}(d:okA 1 a=true)(h:Di 1 H a vs=some p)(q:Qc H vs aw)(c:Qs H A): Qc H1 (Mi a p)<|aw.map<|cJ A:=
 (T8 (G:=λ_=>True) (λs b=>by
  rcases V0 d s b with⟨k,rfl⟩ | ⟨e,_⟩
  .exact λh q=>⟨aUr h q c,trivial⟩
  .cases e) h q).1
theorem aRu{c:List Nat}{vs:List TV}{p:fP<|c.map .v}{aw:List AV}(h:Di 2 H (c.map .v) vs=some p)(q:Qc H vs aw)(d:Qs H A): Qc H1 (Mi (c.map .v) p) (aw.map<|eB A 0)/\∀a∈aw,∀l,a≠.tup l:=
 T8 (λs b=>by
  obtain⟨k,_,rfl⟩:=Yh.1 b;exact λh q=>aUq h q d) h q
theorem aBH{aw:List AV}(h:∀a∈aw,sO a=true): gJ aw=true:=by
 induction aw with
 | nil=>rfl
 | cons a r c=>simp only[gJ,h a ZM];exact c λb d=>h b<|ZQ _ d
theorem w9[aH]{vi w:Nat}{c:CSp}{vs:List TV}{aw:List AV}{K:TV->Option R}(t:FOK P T vi c)(h:Pn n w c vs H K=some r)(z:∀p,okA w c.ka=true->Di w H c.ka vs=some p->Qc [] (Mi c.ka p) aw):
 ∃g a tv,fC P T n 0 vi aw []=some (a,g)/\Qh H1 tv (fA g 0 a)/\K tv=some r:=by
 unfold Pn at h;split at h
 .rename_i p s;split at h
  .cases h
  .rename_i y;let⟨x,u,h⟩:=bD h;let⟨f,g,o,k,j,_⟩:=t n p x u aw<|z p y s;have k:=k H1;let⟨i,d,h⟩:=aFf h k;refine⟨g,kC f,?_⟩;split at h
   .rename_i v;match f,d,j with
    | [a],d,j=>
     refine⟨v,o,?_,h⟩;have e:fA g 0 a=eB g 0 a:=by
      cases a with
      | tup l=>exact (j _ ZM l rfl).elim
      | _=>rfl
     show Qh H1 v<|fA g 0 a;rw[e];exact d.1
   .rename_i m;refine⟨.tup i,o,?_,h⟩;match f,d with
    | [],d=>exact Qh.mkT d
    | [a],d=>
     match i,d with
     | [v],_=>exact (m v rfl).elim
    | a::b::f,d=>exact Qh.mkT d
 .cases h
theorem j9[aH](a:Qt N S st): ∀(b:List bB),Qc S.hp (b.map<|bZ S.tm)<|b.map<|aI st.tmps
 | []=>trivial
 | x::r=>⟨a.get x,j9 a r⟩
theorem aOb[aH]{vi:Nat}{c:CSp}{d:List bB}(j:FOK P T vi c)(k:Qt N S st)(h:Pn n 0 c (d.map<|bZ S.tm) [] (λv=>K v S)=some r):
 ∃v tv,Ct (fC P T n) 0 true vi (d.map<|aI st.tmps) st.heap=some (v,st.heap)/\Qh S.hp tv v/\K tv S=some r:=by
 have q:=j9 k d;have b:Di 0 [] c.ka (d.map<|bZ S.tm)≠none:=by
  intro e;simp only[Pn,e] at h;cases h
 let⟨p,b⟩:=Option.ne_none_iff_exists'.1 b;have g:okA 0 c.ka=true:=by
  cases e:okA 0 c.ka with
  | true=>rfl
  | false=>simp only[Pn,b,e] at h;cases h
 have f:=aBH (aOc (H1:=[]) g b q).2;let⟨o,a,tv,l,m,i⟩:=w9 (H1:=S.hp) (aw:=(d.map<|aI st.tmps).map FP) j h λp g b=>(aOc g b q).1;exact⟨_,tv,by simp only[Ct,f,l],m,i⟩
theorem aPn[aH]{vi:Nat}{a:List bB}(b:Qt N S st)(h:cO E n d (.mkFn vi a) S K=some r): dG P cf E.fl N (.mkFn vi a) st K r:=
 dG.same b rfl (Qh.mkF<|j9 b a) h
theorem aMU[aH]{vi:Nat}{b:List bB}(m:∀vi c,E.cs vi=some c->FOK P T vi c)(e:Qt N S st)(h:cO E n d (.callB vi b) S K=some r): dG P (fC P T n) E.fl N (.callB vi b) st K r:=by
 simp only[cO] at h;split at h
 .rename_i c k;have q:=j9 e b;let⟨o,a,tv,f,g,i⟩:=w9 (H1:=S.hp) (aw:=(b.map<|aI st.tmps).map<|cJ st.heap) (m vi c k) h λp l j=>aK7 l j q e.hp;exact dG.same e (by simp only[aM,f]) g i
 .cases h
end
theorem O0: ∀(c:List Bool) (tm:List AV),(cX c tm).length=tm.length
 | [],tm=>by simp[cX]
 | b::a,[]=>rfl
 | b::a,v::vs=>by simp[cX,O0 a vs]
theorem FU: ∀(c:List Bool) (tm:List AV) (t:Nat),c[t]?=some true->(cX c tm)[t]?=tm[t]?
 | [],tm,t,h=>by simp at h
 | b::a,[],t,h=>rfl
 | b::a,v::vs,0,h=>by
  simp only[Zt,Za] at h;subst h;simp[cX]
 | b::a,v::vs,t+1,h=>by
  simp only[cX,ZL];exact FU a vs t<|by simpa using h
section
variable [dS]{R:Type}{H H1:TH}{A:aY}{N:Nat}{S:TS}{st:St}
theorem MC{c:List Bool}{t:Nat}{v:TV}: ∀{tm:TT},dF t (Bh c tm)=some v->c[t]?=some true/\dF t tm=some v
 | [],h=>by cases h
 | (s,u)::tm,h=>by
  have a:c[s]?≠some true->dF t (Bh c tm)=some v->c[t]?=some true/\dF t ((s,u)::tm)=some v:=by
   intro f h;let⟨g,i⟩:=MC h;refine⟨g,?_⟩;simp only[dF];split
   .rename_i e;have e:=Zc e;subst e;exact (f g).elim
   .exact i
  simp only[Bh] at h;split at h
  .rename_i b d;split at h
   .simp only[dF] at h |-;split at h
    .rename_i e;have e:=Zc e;subst e;exact⟨d,h⟩
    .exact MC h
   .exact a (by rw[d];simp) h
  .rename_i d;exact a (by rw[d];simp) h
theorem Iv(a:Qt N S st)(b:List Bool): Qt N ⟨Bh b S.tm,S.hp⟩ ⟨cX b st.tmps,st.heap⟩:=by
 refine⟨by rw[O0];exact a.ln,λt v h=>?_,a.hp⟩;let⟨c,d⟩:=MC h;rw[FU _ _ _ c];exact a.tm t v d
theorem TW{n i k:Nat}{l:List<|den k}(a:i<n)(h:H[i]?=some (.lst k l)): ((H.take n).map<|iL n)[i]?=some (.lst k l):=by
 rw[Zk,Zs,Zu a,h];rfl
structure Cln(n:Nat)(g:AV->AV): Prop where
 l:∀v,g (.lit v)=.lit v
 s:∀f es,g (.sl f es)=.sl f es
 w:∀es,g (.vw es)=.vw es
 r:∀es,g (.rptr es)=.rptr es
 p:∀es,g (.sptr es)=.sptr es
 m:∀es,g (.rmp es)=.rmp es
 ms:∀i a b c,i<n->g (.ms i a b c)=.ms i a b c
 pt:∀i a b c,i<n->g (.ptr i a b c)=.ptr i a b c
 mp:∀i,i<n->g (.mp i)=.mp i
 it:∀i,i<n->g (.it i)=.it i
 f:∀v,g (.fn v [])=.fn v []
theorem aS9(n:Nat): Cln n<|mN n:=⟨λ_=>rfl,λ_ _=>rfl,λ_=>rfl,λ_=>rfl,λ_=>rfl,λ_=>rfl,λ_ _ _ _ h=>by simp[mN,h],λ_ _ _ _ h=>by simp[mN,h],λ_ h=>by simp[mN,h],λ_ h=>by simp[mN,h],λ_=>rfl⟩
theorem aS8(n:Nat): Cln n<|jW n:=⟨λ_=>rfl,λ_ _=>rfl,λ_=>rfl,λ_=>rfl,λ_=>rfl,λ_=>rfl,λ_ _ _ _ h=>by simp[jW,mN,h],λ_ _ _ _ h=>by simp[jW,mN,h],λ_ h=>by simp[jW,mN,h],λ_ h=>by simp[jW,mN,h],λ_=>rfl⟩
theorem aNZ(n:Nat): Cln n id:=⟨λ_=>rfl,λ_ _=>rfl,λ_=>rfl,λ_=>rfl,λ_=>rfl,λ_=>rfl,λ_ _ _ _ _=>rfl,λ_ _ _ _ _=>rfl,λ_ _=>rfl,λ_ _=>rfl,λ_=>rfl⟩
theorem UC{n:Nat}{g:AV->AV}(c:Cln n g){v:TV}{a:AV}(q:Qh H v a): Qh ((H.take n).map<|iL n) (cY n v)<|g a:=by
 have d:∀{i:Nat},Nat.blt i n=true->i<n:=λe=>by simpa [YC] using e
 cases q with
 | p _ _ q=>
  cases v with
  | undef=>exact Qh.u _
  | lit u=>cases q;rw[c.l];exact Qh.l _
  | emp b=>cases q with
   | emp _ _ h=>rcases h with rfl | rfl | ⟨rfl,rfl⟩<;>first | (rw[c.l];exact .p _ _<|.emp _ _<|by simp) | (rw[c.s];exact .p _ _<|.emp _ _<|by simp)
  | sl k l=>
   let⟨es,t,y⟩:=q.inS;rcases t with⟨rfl,rfl⟩ | ⟨f,rfl⟩<;>first | (rw[c.l];exact .p _ _ q) | (rw[c.s];exact .p _ _ q)
  | vw k l=>
   let⟨es,t,y⟩:=q.inV;rcases t with⟨rfl,rfl⟩ | ⟨f,rfl⟩ | rfl<;>first | (rw[c.l];exact .p _ _ q) | (rw[c.s];exact .p _ _ q) | (rw[c.w];exact .p _ _ q)
  | rptr cs=>obtain⟨aw,rfl,_⟩:=q.inR;rw[c.r];exact .p _ _ q
  | sptr k x=>obtain⟨aw,rfl,_⟩:=q.inP;rw[c.p];exact .p _ _ q
  | rmp=>let⟨rows,t,_⟩:=q.inM;rcases t with⟨rfl,_⟩ | rfl<;>first | (rw[c.l];exact .p _ _ q) | (rw[c.m];exact .p _ _ q)
  | _=>cases q
 | ms i k l h=>
  simp only[cY];split
  .rename_i e;rw[c.ms _ _ _ _<|d e];exact Qh.ms i k l<|TW (d e) h
  .exact Qh.u _
 | msn i m k l h=>
  simp only[cY];split
  .rename_i e;rw[c.ms _ _ _ _<|d e];exact Qh.msn i m k l<|TW (d e) h
  .exact Qh.u _
 | ptr i o=>
  simp only[cY];split
  .rename_i e;rw[c.pt _ _ _ _<|d e];exact .ptr i o
  .exact Qh.u _
 | pel i j o k l h t y=>
  simp only[cY];split
  .rename_i e;rw[c.pt _ _ _ _<|d e];exact Qh.pel i j o k l (TW (d e) h) t y
  .exact Qh.u _
 | mp i=>
  simp only[cY];split
  .rename_i e;rw[c.mp _<|d e];exact .mp i
  .exact Qh.u _
 | it i=>
  simp only[cY];split
  .rename_i e;rw[c.it _<|d e];exact .it i
  .exact Qh.u _
 | rs i m=>
  simp only[cY];split
  .rename_i e;rw[c.ms _ _ _ _<|d e];exact .rs i m
  .exact Qh.u _
 | rel i m j o=>
  simp only[cY];split
  .rename_i e;rw[c.pt _ _ _ _<|d e];exact .rel i m j o
  .exact Qh.u _
 | fn vi cs aw t y=>
  cases cs with
  | nil=>
   cases aw with
   | nil=>rw[c.f];exact Qh.mkF trivial
   | cons=>cases t
  | cons=>exact Qh.u _
 | agg=>exact Qh.u _
 | tup=>exact Qh.u _
theorem Cq{n:Nat}{v:TV}{a:AV}(q:Qh H v a): Qh ((H.take n).map<|iL n) (jG n v) (jW n a)/\Qh ((H.take n).map<|iL n) (jG n v) a:=by
 cases v with
 | fn vi cs=>
  obtain⟨aw,rfl,b⟩:=q.inF;exact⟨Qh.mkF<|b.map λ_ _ q=>UC (aS9 n) q,Qh.mkF<|b.mapL λ_ _ q=>UC (aNZ n) q⟩
 | _=>exact⟨UC (aS8 n) q,UC (aNZ n) q⟩
theorem aGw{n:Nat}{v:TV}{a:AV}(q:Qh H v a): Qh ((H.take n).map<|iL n) (wY n v)<|Pf n a:=by
 cases v with
 | agg cs=>
  obtain⟨aw,rfl,c⟩:=q.inA;exact Qh.mkA<|c.map λ_ _ q=>(Cq q).1
 | undef=>exact Qh.u _
 | tup=>exact Qh.u _
 | _=>
  have h:=(Cq (n:=n) q).1;cases a with
  | agg=>
   cases q with
   | p _ _ q=>cases q<;>simp_all
  | tup=>
   cases q with
   | p _ _ q=>cases q<;>simp_all
  | _=>exact h
theorem aHq(n:Nat): B7<|Pg n:=⟨λv=>.inl rfl,λf es=>⟨f,rfl⟩,λ_=>rfl,λ_=>rfl⟩
theorem UB{n:Nat}{o:qS}{b:dL}(h:Qo H o b): Qo ((H.take n).map<|iL n) (iL n o) (bT n b)/\Qo ((H.take n).map<|iL n) (iL n o) b:=by
 cases o with
 | box cs=>
  obtain⟨aw,rfl,q⟩:=h;exact⟨⟨aw.map<|jW n,by simp[bT],q.map λ_ _ q=>(Cq q).1⟩,⟨aw,by simp,q.mapL λ_ _ q=>(Cq q).2⟩⟩
 | rows s es=>
  obtain⟨aw,rfl,q⟩:=h;exact⟨⟨aw.map λe=>e.map<|jW n,rfl,q.map λ_ _ q=>q.map λ_ _ q=>(Cq q).1⟩,⟨aw,rfl,q.mapL λ_ _ q=>q.mapL λ_ _ q=>(Cq q).2⟩⟩
 | lst k l=>
  obtain⟨es,rfl,q⟩:=h;exact⟨⟨es.map λe=>e.map<|jW n,rfl,(aBW n).ls q⟩,⟨es,rfl,q⟩⟩
 | map kk c m=>
  obtain⟨rows,rfl,q⟩:=h;refine⟨?_,⟨rows,rfl,q⟩⟩;cases i:ag c with
  | true=>
   have d:Qm c m<|rows.map λr=>r.map<|jW n:=q.mapR λ_ _ h=>(aBW n).r h;exact⟨_,congrArg dL.mp<|o6 (g:=jW n) λr=>by rw[i];rfl,d⟩
  | false=>
   have d:Qm c m<|rows.map λr=>r.map<|Pg n:=q.mapR λ_ _ h=>(aHq n).r h;exact⟨_,congrArg dL.mp<|o6 (g:=Pg n) λr=>by rw[i];cases r<;>rfl,d⟩
 | it=>subst h;exact⟨rfl,rfl⟩
 | gone=>exact⟨trivial,trivial⟩
 | fr k a=>
  simp only[iL];split
  .rename_i e;exact⟨.s _ _ n (Zj e) h,h⟩
  .exact⟨trivial,trivial⟩
theorem FZ{fl:Nat}(b:Qt N S st)(live:List Bool)(tr:Bool)(n:Nat)(g:fl<=n): Qt N (Oa live tr n S)<|dO (some live) tr fl n st:=by
 have h:=Iv b live;cases tr with
 | false=>exact h
 | true=>
  refine⟨by simp only[dO,Zz,N9,ZO];exact h.ln,λt v c=>?_,?_⟩
  .simp only[Oa] at c;obtain⟨u,m,rfl⟩:=c7 c;let⟨a,i,d⟩:=h.tm t u m;refine⟨Pf n a,?_,aGw d⟩;simp only[dO,Zz,N9,Zk];rw[i];rfl
  .simp only[dO,Zz,Oa];have e:∀{α β:Type} (f:α->β) (l:List α),(l.take n).map f=(l.take fl).map f++((l.take n).drop fl).map f:=by
    intro α β f l;rw[<-YJ];congr 1;conv=>lhs;rw[<-YT fl<|l.take n,Y9,Yq g]
   have q:=b.hp.take n;have o:bW (Qo S.hp) (S.hp.take fl)<|st.heap.take fl:=b.hp.take fl;have k:bW (Qo S.hp) ((S.hp.take n).drop fl)<|(st.heap.take n).drop fl:=q.drop fl;show Qs ((S.hp.take n).map<|iL n) _;rw[show Qs ((S.hp.take n).map<|iL n)=bW (Qo<|(S.hp.take n).map<|iL n) ((S.hp.take n).map<|iL n) from rfl];rw[show bW (Qo<|(S.hp.take n).map<|iL n) ((S.hp.take n).map<|iL n)=bW (Qo<|(S.hp.take n).map<|iL n) ((S.hp.take fl).map (iL n)++((S.hp.take n).drop fl).map (iL n)) from by rw[<-e]];exact (o.mapL λ_ _ q=>(UB q).2).app<|k.map λ_ _ q=>(UB q).1
def aJM: TV->Bool
 | .sl _ _=>true
 | .rmp _ _ _=>true
 | .tup _=>true
 | _=>false
structure Rj(H:TH)(m v:TV): Prop where
 q:∀H',(∀i n,m=.ms i n->∀(k:Nat) (l:List (den k)),H[i]?=some (.lst k l)->∃(k':Nat) (l':List (den k')),H'[i]?=some (.lst k' l')/\l'.length=l.length)->∀a,Qh H v a->Qh H' m a
 s:aJM v=true->aJM m=true->m=v
theorem aB4{c v:TV}(h:Vw c v=true): Rj H c v:=by
 cases c with
 | undef=>exact⟨λ_ _ a _=>Qh.u a,λ_ e=>by cases e⟩
 | ms i n=>
  cases n with
  | some n=>cases h
  | none=>
   cases v with
   | ms j m=>
    cases m with
    | some m=>cases h
    | none=>
     have e:=Zc h;subst e;refine⟨λH' m a q=>?_,λ_ e=>by cases e⟩;cases q with
     | p _ _ q=>cases q
     | ms _ k l h=>
      let⟨k',G,C,D⟩:=m i none rfl k l h;rw[<-D];exact .ms _ k' G C
   | _=>cases h
 | ptr i o=>
  cases v with
  | ptr j u=>
   simp only[Vw] at h;split at h
   .rename_i e;have e:=Zc e;have e2:=Zc h;subst e;subst e2;exact⟨λH' _ a q=>q.ptr1▸.ptr _ _,λ_ e=>by cases e⟩
   .cases h
  | _=>cases h
 | mp i=>
  cases v with
  | mp j=>
   have e:=Zc h;subst e;refine⟨λH' _ a q=>?_,λ_ e=>by cases e⟩;cases q with
   | p _ _ q=>cases q
   | mp=>exact .mp _
  | _=>cases h
 | it i=>
  cases v with
  | it j=>
   have e:=Zc h;subst e;refine⟨λH' _ a q=>?_,λ_ e=>by cases e⟩;cases q with
   | p _ _ q=>cases q
   | it=>exact .it _
  | _=>cases h
 | rs i n=>
  cases v with
  | rs j m=>
   simp only[Vw] at h;split at h
   .rename_i e;have e:=Zc e;have e2:=Zc h;subst e;subst e2;exact⟨λH' _ a q=>q.rs1▸.rs _ _,λ_ e=>by cases e⟩
   .cases h
  | _=>cases h
 | fn i cs=>
  cases cs with
  | cons=>cases h
  | nil=>
   cases v with
   | fn j ds=>
    cases ds with
    | cons=>cases h
    | nil=>
     have e:=Zc h;subst e;refine⟨λH' _ a q=>?_,λ_ e=>by cases e⟩;obtain⟨aw,rfl,E⟩:=q.inF;cases aw with
     | nil=>exact Qh.mkF trivial
     | cons=>exact E.elim
   | _=>cases h
 | lit u=>
  have g:v=.lit u->Rj H (.lit u) v:=by
   rintro rfl;exact⟨λH' _ a q=>q.inL▸Qh.l _,λ_ e=>by cases e⟩
  cases u with
  | int k a=>
   cases v with
   | lit y=>
    cases y with
    | int k' b=>
     simp only[Vw] at h;split at h
     .rename_i e _;split at h
      .rename_i F _;subst e;subst F;exact g rfl
      .cases h
     .cases h
    | _=>cases h
   | _=>cases h
  | bool b=>
   cases v with
   | lit y=>
    cases y with
    | bool c=>
     apply g;cases b<;>cases c<;>first | rfl | cases h
    | _=>cases h
   | _=>cases h
  | slice a l c=>
   cases a with
   | some a=>cases h
   | none=>
    cases l with
    | succ l=>cases h
    | zero=>
     cases c with
     | succ c=>cases h
     | zero=>
      cases v with
      | lit y=>
       cases y with
       | slice a l c=>
        cases a with
        | some a=>cases h
        | none=>
         cases l with
         | succ l=>cases h
         | zero=>
          cases c with
          | succ c=>cases h
          | zero=>exact g rfl
       | _=>cases h
      | _=>cases h
  | _=>cases h
 | emp b=>
  cases v with
  | emp c=>
   refine⟨λH' _ a q=>?_,λ_ e=>by cases e⟩;cases (q.pu trivial) with
   | emp _ _ d=>
    refine .p _ _<|.emp _ _ ?_;cases b with
    | false=>
     rcases d with d | d | ⟨_,d⟩
     .exact .inl d
     .exact .inr<|.inl d
     .exact .inr<|.inr ⟨rfl,d⟩
    | true=>
     have h:c=true:=h;subst h;exact d
  | _=>cases h
 | _=>cases h
theorem aB3: ∀{cs vs:List TV},aFp cs vs=true->bW (λc v=>Vw c v=true/\∀j n,c≠.ms j n) cs vs
 | [],[],_=>trivial
 | [],_::_,h=>by cases h
 | _::_,[],h=>by cases h
 | c::r,v::s,h=>by
  simp only[aFp] at h;split at h
  .cases h
  .rename_i a;split at h
   .rename_i e;exact⟨⟨e,a⟩,aB3 h⟩
   .cases h
theorem aL1{c v:TV}(h:aIG c v=true): Rj H c v:=by
 cases c with
 | fn i cs=>
  cases v with
  | fn j ds=>
   simp only[aIG] at h;split at h
   .rename_i e;have e:=Zc e;subst e;refine⟨λH' _ a q=>?_,λ_ e=>by cases e⟩;obtain⟨aw,rfl,d⟩:=q.inF;have f:=aB3 h;refine Qh.mkF<|bW.of (by rw[d.len,f.len]) λj c a k l=>?_;let⟨v,g,b,m⟩:=f.get k;exact (aB4 b).q H' (λn o e=>absurd e<|m n o) a<|d.at g l
   .cases h
  | _=>cases h
 | _=>exact aB4 h
theorem aE8{a b a' b':Nat}{m:List<|den a×den b}{y:List<|den a'×den b'}(h:QE m=some y): TV.rmp a b m=TV.rmp a' b' y:=by
 let⟨e,d,h⟩:=IR h;subst e;subst d;subst h;rfl
theorem aFW{v:TV}{x:ByteArray×Nat}(h:aJJ v=some x): v=.tup [.lit<|.string x.1,.lit<|.int .i64<|.ofNat x.2]:=by
 unfold aJJ at h;split at h
 .split at h
  .split at h
   .split at h
    .split at h
     .split at h
      .split at h
       .split at h
        .cases h;rfl
        .cases h
       .cases h
      .cases h
     .cases h
    .cases h
   .cases h
  .cases h
 .cases h
theorem rjN{id:Nat}{v:TV}{x:Nat×Nat}(h:rdN id v=some x): Rj H (.ms id<|some x) v:=by
 unfold rdN at h;split at h
 .split at h
  .rename_i e;have e:=Zc e;subst e;subst h;refine⟨λH' m a q=>?_,λ_ e=>by cases e⟩;cases q with
   | p _ _ q=>cases q
   | msn _ _ k l h=>
    let⟨k',b,f,c⟩:=m _ _ rfl k l h;rw[<-c];exact .msn _ _ k' b f
  .cases h
 .cases h
theorem rjI{v:TV}{x:ByteArray×Nat}(h:aJJ v=some x): Rj H (.tup [.lit<|.string x.1,.lit<|.int .i64<|.ofNat x.2]) v:=by
 rw[aFW h];refine⟨λH' _ a q=>?_,λ_ _=>rfl⟩;obtain⟨aw,rfl,c⟩:=q.inT;match aw,c with
 | [a,b],c=>exact Qh.mkT ⟨by rw[c.1.inL];exact Qh.l _,by rw[c.2.1.inL];exact Qh.l _,trivial⟩
theorem aFv{s:Sh}{v:TV}{x:s.den}(h:s.rd 3 [] v=some x): Rj H (s.tv x) v:=by
 cases s with
 | v k=>
  have h:TL 0 [] k v=some x:=h;refine⟨λH' _ a q=>aR0 h q,λd e2=>?_⟩;unfold TL at h;split at h
  .split at h
   .cases d
   .cases h
  .rename_i z;unfold kA at h;split at h
   .rename_i p u;cases h;let⟨c,y,t,f⟩:=U1 u;have j:val k (dS.pk k p)=hdT (qY (cds k) p):=by
     unfold val jX;rw[z,dS.un_pk]
    show val k (dS.pk k p)=_;rw[j,t];cases c with
    | sl Q=>
     cases v with
     | sl O l=>
      let⟨e,h⟩:=qP (F:=λk=>List<|den k) (x:=l) (y:=y) f;subst e;subst h;rfl
     | rmp=>cases f
     | tup=>cases f
     | _=>cases d
    | int N=>rw[aBB f] at d;cases d
    | bool=>rw[VF f] at d;cases d
    | str=>rw[aB9 f] at d;cases d
    | sptr=>rw[aBA f] at d;cases d
    | mp=>rcases aL8 (w:=0) (H:=[]) f with rfl | ⟨rfl,_⟩ | ⟨e,_⟩<;>first | rfl | cases d | cases e
    | any=>cases f
   .cases h
 | w k=>
  have h:TL 1 [] k v=some x:=h;refine⟨λH' _ a q=>aRz h q,λd e2=>?_⟩;unfold TL at h;split at h
  .split at h
   .cases d
   .cases h
  .rename_i z;unfold kA at h;split at h
   .rename_i p u;cases h;let⟨c,y,t,f⟩:=U1 u;have j:val k (dS.pk k p)=hdT (qY (cds k) p):=by
     unfold val jX;rw[z,dS.un_pk]
    have e2:aJM (toW<|val k<|dS.pk k p)=true:=e2;show toW (val k<|dS.pk k p)=_;rw[j,t,R9] at e2 |-;cases c with
    | mp=>rcases aL8 (w:=1) (H:=[]) f with rfl | ⟨rfl,_⟩ | ⟨e,_⟩<;>first | rfl | cases d | cases e
    | _=>cases e2
   .cases h
 | r k=>
  refine⟨λH' _ a q=>?_,λ_ e2=>by cases e2⟩;cases v with
  | rptr cs=>
   have h:kA 0 [] k cs=some x:=h;obtain⟨aw,rfl,M⟩:=(q.pu trivial).inR;exact .p _ _<|Qp.mkR<|jP h<|M.c (H:=[])
  | _=>cases h
 | l k=>
  cases v with
  | sl k' l=>
   let⟨e,h⟩:=qP (F:=λk=>List<|den k) (x:=l) (y:=x) h;subst e;subst h;exact⟨λH' _ a q=>.p _ _<|q.pu trivial,λ_ _=>rfl⟩
  | _=>cases h
 | m kk J=>
  cases v with
  | rmp a b m=>
   have e:=aE8 (m:=m) (y:=x) h;rw[<-show TV.rmp a b m=(Sh.m kk J).tv x from e];exact⟨λH' _ a q=>.p _ _<|q.pu trivial,λ_ _=>rfl⟩
  | _=>cases h
 | n id=>exact rjN h
 | i=>exact rjI h
end
section
variable [dS]{R:Type}{H H1:TH}{A:aY}{N:Nat}{S:TS}{st:St}
theorem fP.hc{a:Sh}{r:List Sh}(x:a.den)(y:fP r): fP.hd (fP.cs x y)=x:=by cases r<;>rfl
theorem fP.tc{a:Sh}{r:List Sh}(x:a.den)(y:fP r): fP.tl (fP.cs x y)=y:=by cases r<;>rfl
theorem Mz: ∀{ss:List Pl} {W:List TV} {p:fP<|S9 false ss} {q:fP<|S9 true ss},PC ss W=some (p,q)->bW (Rj H) (mkV ss p q) W
 | [],W,p,q,h=>by
  cases W with
  | nil=>trivial
  | cons=>cases h
 | .con c::r,W,p,q,h=>by
  cases W with
  | nil=>cases h
  | cons v W=>
   simp only[PC] at h;split at h
   .rename_i e;exact⟨aL1 e,Mz h⟩
   .cases h
 | .p s::r,W,p,q,h=>by
  cases W with
  | nil=>cases h
  | cons v W=>
   simp only[PC] at h;split at h
   .rename_i x a;split at h
    .rename_i d b;cases h;simp only[mkV,fP.hc,fP.tc];exact⟨aFv a,Mz b⟩
    .cases h
   .cases h
 | .v s::r,W,p,q,h=>by
  cases W with
  | nil=>cases h
  | cons v W=>
   simp only[PC] at h;split at h
   .rename_i x a;split at h
    .rename_i d b;cases h;simp only[mkV,fP.hc,fP.tc];exact⟨aFv a,Mz b⟩
    .cases h
   .cases h
theorem aD3{tm:TT}{H':TH}{t:Nat}{m:TV}: ∀{ts:List<|Nat×Option Nat} {vs M:List TV},upT tm ts=some vs->bW (λm v=>∀a,Qh H v a->Qh H' m a) M vs->dF t (plT ts M)=some m->∃v,dF t tm=some v/\∀a,Qh H v a->Qh H' m a
 | [],vs,M,h,q,b=>by cases b
 | s::ts,vs,M,h,q,b=>by
  simp only[upT] at h;split at h
  .rename_i v f;split at h
   .rename_i w k;split at h
    .rename_i g;cases h;cases M with
     | nil=>exact q.elim
     | cons u M=>
      simp only[plT,g,dF] at b;split at b
      .rename_i e;have e:=Zc e;subst e;cases b;exact⟨v,f,q.1⟩
      .exact aD3 k q.2 b
    .rename_i n g;split at h
     .rename_i cs;split at h
      .rename_i e;have e:=Zc e;cases h;have d:=q.take n;have i:=q.drop n;rw[<-e,Y2] at i;rw[<-e,Xn] at d;rw[e] at d i;simp only[plT,g,dF] at b;split at b
       .rename_i e;have e:=Zc e;subst e;cases b;refine⟨_,f,λa r=>?_⟩;obtain⟨aw,rfl,l⟩:=r.inA;exact Qh.mkA (bW.of (by rw[l.len,d.len]) λj m c b p=>by
         let⟨v,f,o⟩:=d.get b;exact o c<|l.at f p)
       .exact aD3 k i b
      .cases h
     .cases h
   .cases h
  .cases h
theorem Ol{α:Type}{s:Nat}: ∀{es:List<|List α},(es.all λe=>Nat.beq e.length s)=true->es.flatten.length=es.length*s
 | [],_=>by simp
 | e::es,h=>by
  simp only[XM,Zd] at h;have a:=Zc h.1;simp only[Yt,Zh,Ol h.2,a,Yc,Xx];omega
theorem w4{α β:Type}{R:α->β->Prop}{s:Nat}: ∀{es:List<|List β} {l:List α},(es.all λe=>Nat.beq e.length s)=true->bW R l es.flatten->bW (bW R) (qO s es.length l) es
 | [],_,_,_=>trivial
 | e::es,l,h,q=>by
  simp only[XM,Zd] at h;have c:=Zc h.1;subst c;have a:=q.take e.length;have b:=q.drop e.length;simp only[Yt,Xn,Y2] at a b;exact⟨a,w4 h.2 b⟩
theorem aIq: ∀{os:List OL} {c:TH} {f:List TV},upO os c=some f->f.length=nO os
 | [],c,f,h=>by
  cases c with
  | nil=>cases h;rfl
  | cons=>cases h
 | o::os,c,f,h=>by
  cases c with
  | nil=>cases h
  | cons b c=>
   simp only[upO] at h;split at h
   .cases h
   .rename_i vs g;have a:=aIq g;cases o with
    | gone=>cases h;exact a
    | box n=>
     cases b with
     | box cs=>
      simp only at h;split at h
      .rename_i e;have e:=Zc e;cases h;simp[nO,a,e]
      .cases h
     | _=>cases h
    | lst u=>
     cases b with
     | lst v x=>
      simp only at h;split at h
      .cases h;simp[nO,a]
      .cases h
     | _=>cases h
    | map kk t=>
     cases b with
     | map q y r=>
      simp only at h;split at h
      .split at h
       .cases h;simp[nO,a]
       .cases h
      .cases h
     | _=>cases h
    | bx=>
     cases b with
     | box=>cases h;simp[nO,a]
     | _=>cases h
    | it=>
     cases b with
     | it=>cases h;simp[nO,a]
     | _=>cases h
    | rows s m=>
     cases b with
     | rows s' es=>
      simp only at h;split at h
      .split at h
       .rename_i e;have e:=Zc e;split at h
        .rename_i p;cases h;rw[Zh,a,Ol p,e,YN];rfl
        .cases h
       .cases h
      .cases h
     | _=>cases h
theorem wN: ∀{os:List OL} {g:TH} {p M:List TV},upO os g=some p->bW (Rj H) M p->∀(i k k':Nat) (l:List<|den k) (f:List<|den k'),g[i]?=some (.lst k l)->(D6 os M)[i]?=some (.lst k' f)->f.length=l.length
 | [],g,p,M,h,q,i,k,k',l,f,c,a=>by
  cases g with
  | nil=>simp at c
  | cons=>cases h
 | o::os,g,p,M,h,q,i,k,k',l,f,c,a=>by
  cases g with
  | nil=>cases h
  | cons b g=>
   simp only[upO] at h;split at h
   .cases h
   .rename_i vs d;cases o with
    | gone=>
     cases h;cases i with
     | zero=>simp[D6] at a
     | succ i=>exact wN d q i k k' l f (by simpa using c)<|by simpa [D6] using a
    | box n=>
     cases b with
     | box cs=>
      simp only at h;split at h
      .rename_i e;have e:=Zc e;cases h;cases i with
       | zero=>simp at c
       | succ i=>
        have:=q.drop n;rw[<-e,Y2] at this;rw[e] at this;exact wN d this i k k' l f (by simpa using c)<|by simpa [D6] using a
      .cases h
     | _=>cases h
    | lst K=>
     cases b with
     | lst z E=>
      simp only at h;split at h
      .cases h;cases M with
       | nil=>exact q.elim
       | cons m M=>
        cases i with
        | succ i=>exact wN d q.2 i k k' l f (by simpa using c)<|by simpa [D6] using a
        | zero=>
         simp only[Zt,Za] at c;cases c;simp only[D6,Zt,Za] at a;unfold aFc at a;split at a
         .rename_i G A;split at a
          .cases a;have:=q.1.s rfl rfl;cases this;rfl
          .cases a
         .cases a
      .cases h
     | _=>cases h
    | map kk C=>
     cases b with
     | map D J B=>
      simp only at h;split at h
      .split at h
       .cases h;cases M with
        | nil=>exact q.elim
        | cons m M=>
         cases i with
         | succ i=>exact wN d q.2 i k k' l f (by simpa using c)<|by simpa [D6] using a
         | zero=>simp at c
       .cases h
      .cases h
     | _=>cases h
    | bx=>
     cases b with
     | box cs=>
      cases h;cases M with
      | nil=>exact q.elim
      | cons m M=>
       cases i with
       | succ i=>exact wN d q.2 i k k' l f (by simpa using c)<|by simpa [D6] using a
       | zero=>simp at c
     | _=>cases h
    | it=>
     cases b with
     | it y I=>
      cases h;cases M with
      | nil=>exact q.elim
      | cons m M=>
       cases i with
       | succ i=>exact wN d q.2 i k k' l f (by simpa using c)<|by simpa [D6] using a
       | zero=>simp at c
     | _=>cases h
    | rows s m=>
     cases b with
     | rows s' es=>
      simp only at h;split at h
      .split at h
       .rename_i e;have e:=Zc e;split at h
        .rename_i v;cases h;cases i with
         | zero=>simp at c
         | succ i=>
          have:=q.drop<|s*m;rw[show s*m=es.flatten.length by rw[Ol v,e,YN],Y2] at this;rw[show es.flatten.length=s*m by rw[Ol v,e,YN]] at this;exact wN d this i k k' l f (by simpa using c)<|by simpa [D6] using a
        .cases h
       .cases h
      .cases h
     | _=>cases h
theorem Mh{H':TH}: ∀{os:List OL} {p:TH} {y M:List TV} {A:aY},upO os p=some y->bW (λm v=>Rj H m v/\∀a,Qh H v a->Qh H' m a) M y->bW (Qo H) p A->bW (Qo H') (D6 os M) A
 | [],p,y,M,A,h,q,d=>by
  cases p with
  | nil=>cases A with
   | nil=>trivial
   | cons=>exact d.elim
  | cons=>cases h
 | o::os,p,y,M,A,h,q,d=>by
  cases p with
  | nil=>cases h
  | cons b p=>
   cases A with
   | nil=>exact d.elim
   | cons a A=>
    simp only[upO] at h;split at h
    .cases h
    .rename_i vs f;cases o with
     | gone=>cases h;exact⟨trivial,Mh f q d.2⟩
     | box n=>
      cases b with
      | box cs=>
       simp only at h;split at h
       .rename_i e;have e:=Zc e;cases h;have k:=q.take n;have l:=q.drop n;rw[<-e,Y2] at l;rw[<-e,Xn] at k;rw[e] at k l;refine⟨?_,Mh f l d.2⟩;let⟨aw,i,g⟩:=d.1;refine⟨aw,by rw[i,k.len],?_⟩;exact bW.of (by rw[g.len,k.len]) λj m c K F=>by
         let⟨v,D,z⟩:=k.get K;exact z.2 c<|g.at D F
       .cases h
      | _=>cases h
     | lst S=>
      cases b with
      | lst k1 Z=>
       simp only at h;split at h
       .rename_i e;have e:=Zc e;cases h;cases M with
        | nil=>exact q.elim
        | cons m M=>
         refine⟨?_,Mh f q.2 d.2⟩;have i:=q.1.1.s;have g:=d.1;show Qo H' (aFc S m) a;clear q;unfold aFc;split
         .split
          .have:=i rfl rfl;cases this;exact g
          .trivial
         .trivial
       .cases h
      | _=>cases h
     | map kk U=>
      cases b with
      | map Y b1 m1=>
       simp only at h;split at h
       .rename_i t;split at h
        .rename_i e2;have t:=Zc t;have e2:=Zc e2;cases h;cases M with
         | nil=>exact q.elim
         | cons m M=>
          refine⟨?_,Mh f q.2 d.2⟩;have i:=q.1.1.s;have g:=d.1;show Qo H' (aIs kk U m) a;clear q;unfold aIs;split
          .split
           .split
            .have:=i rfl rfl;cases this;exact g
            .trivial
           .trivial
          .trivial
        .cases h
       .cases h
      | _=>cases h
     | bx=>
      cases b with
      | box cs=>
       cases h;cases M with
       | nil=>exact q.elim
       | cons m M=>
        refine⟨?_,Mh f q.2 d.2⟩;obtain⟨Q,rfl,g⟩:=d.1;have i:=q.1.2 _<|Qh.mkA g;show Qo H' (aOy m) _;clear q;unfold aOy;split
        .let⟨R,e,u⟩:=i.inA;cases e;exact⟨Q,by rw[<-g.len,u.len],u⟩
        .trivial
      | _=>cases h
     | it=>
      cases b with
      | it X p1=>
       cases h;cases M with
       | nil=>exact q.elim
       | cons m M=>
        refine⟨?_,Mh f q.2 d.2⟩;have i:=q.1.1.s;have g:=d.1;show Qo H' (aOx m) a;clear q;unfold aOx;split
        .rename_i x W;have e:=aFW W;have:=i rfl<|by rw[e];rfl
         rw[e] at this;cases this;exact g
        .trivial
      | _=>cases h
     | rows s m=>
      cases b with
      | rows s' es=>
       simp only at h;split at h
       .rename_i t;have t:=Zc t;subst t;split at h
        .rename_i e;have e:=Zc e;split at h
         .rename_i O;cases h;have E:es.flatten.length=s'*m:=by rw[Ol O,e,YN]
          have k:=q.take<|s'*m;have l:=q.drop<|s'*m;rw[<-E,Xn] at k;rw[<-E,Y2] at l;rw[E] at k l;refine⟨?_,Mh f l d.2⟩;let⟨aw,i,g⟩:=d.1;refine⟨aw,i,?_⟩;have B:=w4 O k;rw[e] at B;exact bW.of (by rw[g.len,B.len]) λj r a V G=>by
           let⟨e0,J,N⟩:=B.get V;have u:=g.at J G;exact bW.of (by rw[u.len,N.len]) λj m c K F=>by
            let⟨v,D,z⟩:=N.get K;exact z.2 c<|u.at D F
         .cases h
        .cases h
       .cases h
      | _=>cases h
theorem aBT: ∀{M:List TV},N6 H M=true->∀m∈M,∀i n,m=.ms i n->∃(k:Nat) (l:List<|den k),H[i]?=some (.lst k l)
 | [],_,m,a=>by cases a
 | v::r,h,m,a=>by
  intro i n e;subst e;rcases ZN.1 a with e | a
  .subst e;simp only[N6] at h;split at h
   .rename_i o b;split at h
    .exact⟨_,_,b⟩
    .cases h
   .cases h
  .refine aBT (M:=r) ?_ _ a i n rfl;cases v with
   | ms g d=>
    simp only[N6] at h;split at h
    .split at h
     .exact h
     .cases h
    .cases h
   | _=>exact h
theorem aJW{L:Eb}{p:L.P}{q:L.V}(h:L.get S=some (p,q))(x:Qt N S st): Qt N (L.mk' p q) st:=by
 unfold Eb.get at h;split at h
 .rename_i vs w;split at h
  .rename_i E c;split at h
   .rename_i O y;split at h
    .rename_i A;cases h;have C:=Mz (H:=S.hp) y;have o:=aIq c;have s:bW (Rj S.hp) ((mkV L.ss p q).take<|nO L.os) E:=by
      have:=C.take<|nO L.os;rw[<-o,Xn] at this;rw[o] at this;exact this
     have B:bW (Rj S.hp) ((mkV L.ss p q).drop<|nO L.os) vs:=by
      have:=C.drop<|nO L.os;rw[<-o,Y2] at this;rw[o] at this;exact this
     have f:=wN c s;have d:∀m v,m∈mkV L.ss p q->Rj S.hp m v->∀a,Qh S.hp v a->Qh (L.mk' p q).hp m a:=by
      intro m v b r a J;refine r.q _ (λi n e k l K=>?_) a J;let⟨k',D,g⟩:=aBT A m b i n e;exact⟨k',D,g,f i k k' l D K g⟩
     refine⟨x.ln,λt m b=>?_,?_⟩
     .have z:bW (λm v=>∀a,Qh S.hp v a->Qh (L.mk' p q).hp m a) ((mkV L.ss p q).drop<|nO L.os) vs:=
       bW.of B.len λj m v b u=>d m v (ZZ<|Zg b)<|B.at b u
      let⟨v,G,M⟩:=aD3 w z b;let⟨a,F,I⟩:=x.tm t v G;exact⟨a,F,M a I⟩
     .refine Mh c ?_ x.hp;refine bW.of s.len λj m v b u=>⟨s.at b u,d m v (Z7<|Zg b)<|s.at b u⟩
    .cases h
   .cases h
  .cases h
 .cases h
theorem V8: ∀{ss:List Pl} {p:fP<|S9 false ss} {q:fP<|S9 true ss} {K:List TV->Option R} {r:R},mkK ss p q K=some r->
 ∃M,K M=some r/\bW (λm i=>m=i\/∃b,m=.lit (.bool b)/\i=.lit (.bool b)) M (mkV ss p q)
 | [],p,q,K,r,h=>⟨[],h,trivial⟩
 | .con c::ss,p,q,K,r,h=>by
  let⟨M,a,d⟩:=V8 (ss:=ss) h;exact⟨_,a,.inl rfl,d⟩
 | .p s::ss,p,q,K,r,h=>by
  let⟨M,a,d⟩:=V8 (ss:=ss) h;exact⟨_,a,.inl rfl,d⟩
 | .v s::ss,p,q,K,r,h=>by
  have g:∃v,v=s.tv (fP.hd q)/\mkK ss p (fP.tl q) (λvs=>K (v::vs))=some r:=by
   simp only[mkK,Mm] at h;split at h
   .rename_i u f;split at h
    .rename_i b;cases b with
     | true=>exact⟨_,f.symm,h⟩
     | false=>exact⟨_,f.symm,h⟩
    .exact⟨_,f.symm,h⟩
   .exact⟨_,rfl,h⟩
  let⟨v,e,h⟩:=g;let⟨M,a,d⟩:=V8 h;exact⟨_,a,.inl e,d⟩
theorem aJy{L:Eb}{p:L.P}{q:L.V}{K:TS->Option R}{r:R}(h:L.mkB p q K=some r): K (L.mk' p q)=some r:=by
 unfold Eb.mkB at h;let⟨M,g,c⟩:=V8 h;have e:M=mkV L.ss p q:=by
  apply Ym ;intro j;cases a:M[j]? with
  | none=>
   rw[XG] at a;rw[Wy,XG,c.len];exact a
  | some m=>
   let⟨i,d,f⟩:=c.get a;rw[d];rcases f with rfl | ⟨b,rfl,rfl⟩<;>rfl
 subst e;exact g
end
inductive ClA(n:Nat): AV->AV->Prop
 | r (a):ClA n a a
 | s (a b m):n<=m->ClA n a b->ClA n a (Pf m b)
theorem ClA.tr{n:Nat}{a b c:AV}(h:ClA n a b)(k:ClA n b c): ClA n a c:=by
 induction k with
 | r=>exact h
 | s b m e _ d=>exact .s _ _ m e d
def atB(l:List Bool)(t:Nat): Bool:=match l[t]? with
 | some b=>b
 | none=>false
def noD(t:Nat): List bR->Bool
 | []=>true
 | o::r=>match o.dst with
  | none=>noD t r
  | some d=>match Nat.beq d t with
   | true=>false
   | false=>noD t r
def kpt(t:Nat): bS->Bool
 | .skip=>true
 | .exit _=>true
 | .ret=>true
 | .stop=>true
 | .region _ _ ops=>noD t ops
 | .seq a b=>kpt t a&&kpt t b
 | .cond _ a b=>kpt t a&&kpt t b
 | .block _ c=>kpt t c
 | .scope c=>kpt t c
 | .loop live _ c=>(match live with
  | none=>true
  | some l=>atB l t)&&kpt t c
 | .mask lx _ _ c=>atB lx t&&kpt t c
 | .told li lx _ c=>(atB li t&&atB lx t)&&kpt t c
 | .frz u c=>!Nat.beq u t&&kpt t c
 | .nilIf ..=>false
 | .loopV ..=>false
def kpL(c:bS): List Nat->Bool
 | []=>true
 | t::r=>match kpt t c with
  | true=>kpL c r
  | false=>false
section
variable {P:Program}{cf:CF}{fl lf n t:Nat}
theorem aK4{l:List Bool}(h:atB l t=true): l[t]?=some true:=by
 unfold atB at h;split at h
 .rename_i b a;rw[a,h]
 .cases h
theorem aFM{tm:List AV}{d:Option Nat}{v:AV}(h:∀e,d=some e->e≠t): (iM tm d v)[t]?=tm[t]?:=by
 cases d with
 | none=>rfl
 | some e=>exact Zv<|h e rfl
theorem aFN[aH]: ∀{l:List bR} {st st':St},noD t l=true->jF P cf fl l st=some st'->st'.tmps[t]?=st.tmps[t]?
 | [],st,st',_,h=>by cases h;rfl
 | o::r,st,st',c,h=>by
  have b:noD t r=true/\∀e,o.dst=some e->e≠t:=by
   simp only[noD] at c;split at c
   .rename_i e;exact⟨c,λg h=>by rw[e] at h;cases h⟩
   .rename_i d e;split at c
    .cases c
    .rename_i f;exact⟨c,λg h=>by rw[e] at h;cases h;exact YF f⟩
  simp only[jF] at h;split at h
  .rename_i i a;rw[aFN b.1 h];unfold cR at a;split at a
   .split at a
    .cases a;exact aFM b.2
    .cases a
   .cases a;exact aFM b.2
   .cases a
  .cases h
def Kp(n t:Nat)(st st':St): Prop:=n<=st'.heap.length/\∀a,st.tmps[t]?=some a->∃b,st'.tmps[t]?=some b/\ClA n a b
theorem Kp.tr{d f e:St}(h:Kp n t d f)(k:Kp n t f e): Kp n t d e:=⟨k.1,λa j=>by
 let⟨b,g,q⟩:=h.2 a j;let⟨c,l,i⟩:=k.2 b g;exact⟨c,l,q.tr i⟩⟩
theorem Kp.same{st st':St}(c:n<=st'.heap.length)(h:st'.tmps[t]?=st.tmps[t]?): Kp n t st st':=⟨c,λa b=>⟨a,by rw[h];exact b,.r a⟩⟩
theorem Kp.head[aH]{live:Option<|List Bool}{tr:Bool}{m:Nat}{st:St}(f:n<=st.heap.length)(c:n<=m)(b:fl<=n)(h:∀l,live=some l->atB l t=true): Kp n t st<|dO live tr fl m st:=by
 refine⟨(sV ⟨b,f⟩ ⟨b,c⟩).2,λa d=>?_⟩;have e:(N9 live st.tmps)[t]?=some a:=by
  cases live with
  | none=>exact d
  | some l=>exact (FU _ _ _<|aK4<|h l rfl).trans d
 cases tr with
 | false=>exact⟨a,e,.r a⟩
 | true=>exact⟨Pf m a,by simp only[dO,Zz,Zk,e];rfl,.s _ _ m c<|.r a⟩
theorem Kp.loop{b:St->St}{step:St->Option (cV×St)}(i:∀st,n<=st.heap.length->Kp n t st (b st))(d:∀st x st',n<=st.heap.length->step st=some (x,st')->x≠.ret->Kp n t st st'):
 ∀(m:Nat) (st:St) (x:cV) (st':St),n<=st.heap.length->fV b step m st=some (x,st')->x≠.ret->Kp n t st st'
 | 0,_,_,_,_,h,_=>by cases h
 | m+1,st,x,st',k,a,j=>by
  simp only[fV] at a;have c:=i st k;split at a
  .rename_i f he;have g:=d _ _ _ c.1 he (by intro e;cases e);exact (c.tr g).tr<|Kp.loop i d m f x st' g.1 a j
  .exact c.tr<|d _ _ _ c.1 a j
theorem y9{a b:Bool}(h:(a&&b)=true): a=true/\b=true:=by simpa using h
theorem lZ[aH](g:An cf)(m:fl<=n): ∀(c:bS) (st:St) (x:cV) (st':St),kpt t c=true->n<=st.heap.length->eS P cf lf fl c st=some (x,st')->x≠.ret->Kp n t st st'
 | .skip,st,x,st',_,f,d,_=>by simp only[eS] at d;cases d;exact .same f rfl
 | .exit _,st,x,st',_,f,d,_=>by simp only[eS] at d;cases d;exact .same f rfl
 | .ret,st,x,st',_,f,d,o=>by simp only[eS] at d;cases d;exact (o rfl).elim
 | .stop,st,x,st',_,f,d,_=>by simp only[eS] at d;cases d
 | .region _ I ops,st,x,st',j,f,d,_=>by
  simp only[eS] at d;split at d
  .rename_i h he;cases d;exact .same (n7 g ops st _ ⟨m,f⟩<|Qw he).2<|aFN j<|Qw he
  .cases d
 | .seq a b,st,x,st',j,f,d,o=>by
  let⟨p,q⟩:=y9 j;simp only[eS] at d;split at d
  .rename_i h he;have k:=lZ g m a st _ h p f he (by intro e;cases e);exact k.tr<|lZ g m b h x st' q k.1 d o
  .exact lZ g m a st x st' p f d o
 | .cond c a b,st,x,st',j,f,d,o=>by
  let⟨p,q⟩:=y9 j;simp only[eS] at d;split at d
  .exact lZ g m a st x st' p f d o
  .exact lZ g m b st x st' q f d o
  .cases d
 | .block id c,st,x,st',j,f,d,o=>by
  simp only[eS] at d;split at d
  .rename_i i h he;have k:=lZ g m c st _ h j f he (by intro e;cases e);split at d<;>cases d<;>exact k
  .exact lZ g m c st x st' j f d o
 | .scope c,st,x,st',j,f,d,o=>by
  simp only[eS] at d;exact lZ g m c st x st' j f d o
 | .loop live tr c,st,x,st',j,f,d,o=>by
  let⟨p,q⟩:=y9 j;simp only[eS] at d;exact Kp.loop (λs z=>Kp.head z f m λl e=>by rw[e] at p;exact p) (λs y s' z he G=>lZ g m c s y s' q z he G) lf st x st' f d o
 | .frz u c,st,x,st',j,f,d,o=>by
  let⟨p,q⟩:=y9 j;simp only[eS] at d;split at d
  .rename_i v H he;have r:n<=H.length:=(aA0 g ⟨m,f⟩ he).2;have k:Kp n t st ⟨st.tmps.set u v,H⟩:=.same r<|Zv<|YF (by simpa using p);exact k.tr<|lZ g m c _ x st' q r d o
  .cases d
 | .mask D C tr c,st,x,st',j,f,d,o=>by
  let⟨p,q⟩:=y9 j;simp only[eS,Fa] at d;split at d
  .rename_i F h he;split at d
   .cases d;exact (o rfl).elim
   .cases d;have k:=lZ g m c st _ h q f he (by intro e;cases e);exact k.tr<|Kp.head k.1 f m λl e=>by cases e;exact p
   .cases d;have k:=lZ g m c st _ h q f he (by intro e;cases e);exact k.tr<|Kp.head k.1 f m λl e=>by cases e;exact p
  .cases d
 | .told w D C c,st,x,st',j,f,d,o=>by
  let⟨p,q⟩:=y9 j;let⟨E,A⟩:=y9 p;have B:Kp n t st ⟨cX w st.tmps,st.heap⟩:=.same f<|FU _ _ _<|aK4 E;simp only[eS,Fa] at d;split at d
  .rename_i F h he;split at d
   .cases d;exact (o rfl).elim
   .cases d;have k:=lZ g m c ⟨cX w st.tmps,st.heap⟩ _ h q f he (by intro e;cases e);exact (B.tr k).tr<|Kp.head k.1 f m λl e=>by cases e;exact A
   .cases d;have k:=lZ g m c ⟨cX w st.tmps,st.heap⟩ _ h q f he (by intro e;cases e);exact (B.tr k).tr<|Kp.head k.1 f m λl e=>by cases e;exact A
  .cases d
 | .nilIf ..,st,x,st',j,f,d,o=>by cases j
 | .loopV ..,st,x,st',j,f,d,o=>by cases j
theorem aEk{c:bS}: ∀{l:List Nat},kpL c l=true->∀t∈l,kpt t c=true
 | [],_,t,a=>by cases a
 | u::l,h,t,a=>by
  simp only[kpL] at h;split at h
  .rename_i b;rcases ZN.1 a with rfl | a
   .exact b
   .exact aEk h t a
  .cases h
end
section
variable [dS]{H H1:TH}{n:Nat}
theorem aQc{n m:Nat}(h:n<=m)(v:TV): cY m (cY n v)=cY n v:=by
 have k:∀i,Nat.blt i n=true->Nat.blt i m=true:=λi e=>by
  have:i<n:=by simpa [YC] using e
  simpa [YC] using YM this h
 cases v with
 | fn vi cs=>cases cs<;>rfl
 | ms i m=>simp only[cY];cases a:Nat.blt i n with | true=>simp only[cY,k _ a] | false=>rfl
 | ptr i o=>simp only[cY];cases a:Nat.blt i n with | true=>simp only[cY,k _ a] | false=>rfl
 | pel i j o=>simp only[cY];cases a:Nat.blt i n with | true=>simp only[cY,k _ a] | false=>rfl
 | mp i=>simp only[cY];cases a:Nat.blt i n with | true=>simp only[cY,k _ a] | false=>rfl
 | it i=>simp only[cY];cases a:Nat.blt i n with | true=>simp only[cY,k _ a] | false=>rfl
 | rs i m=>simp only[cY];cases a:Nat.blt i n with | true=>simp only[cY,k _ a] | false=>rfl
 | rel i m j o=>simp only[cY];cases a:Nat.blt i n with | true=>simp only[cY,k _ a] | false=>rfl
 | _=>rfl
theorem aAC{n m:Nat}(h:n<=m)(v:TV): jG m (jG n v)=jG n v:=by
 have k:∀i,Nat.blt i n=true->Nat.blt i m=true:=λi e=>by
  have:i<n:=by simpa [YC] using e
  simpa [YC] using YM this h
 cases v with
 | fn vi cs=>simp only[jG,Ya];congr 1;exact ZS λc _=>aQc h c
 | ms i x=>simp only[jG,cY];cases a:Nat.blt i n with | true=>simp only[jG,cY,k _ a] | false=>rfl
 | ptr i o=>simp only[jG,cY];cases a:Nat.blt i n with | true=>simp only[jG,cY,k _ a] | false=>rfl
 | pel i j o=>simp only[jG,cY];cases a:Nat.blt i n with | true=>simp only[jG,cY,k _ a] | false=>rfl
 | mp i=>simp only[jG,cY];cases a:Nat.blt i n with | true=>simp only[jG,cY,k _ a] | false=>rfl
 | it i=>simp only[jG,cY];cases a:Nat.blt i n with | true=>simp only[jG,cY,k _ a] | false=>rfl
 | rs i x=>simp only[jG,cY];cases a:Nat.blt i n with | true=>simp only[jG,cY,k _ a] | false=>rfl
 | rel i x j o=>simp only[jG,cY];cases a:Nat.blt i n with | true=>simp only[jG,cY,k _ a] | false=>rfl
 | _=>rfl
theorem aQa{n m:Nat}(h:n<=m)(v:TV): wY m (wY n v)=wY n v:=by
 have k:∀i,Nat.blt i n=true->Nat.blt i m=true:=λi e=>by
  have:i<n:=by simpa [YC] using e
  simpa [YC] using YM this h
 cases v with
 | agg cs=>simp only[wY,Ya];congr 1;exact ZS λc _=>aAC h c
 | fn vi cs=>exact aAC h<|.fn vi cs
 | ms i x=>simp only[wY,jG,cY];cases a:Nat.blt i n with | true=>simp only[wY,jG,cY,k _ a] | false=>rfl
 | ptr i o=>simp only[wY,jG,cY];cases a:Nat.blt i n with | true=>simp only[wY,jG,cY,k _ a] | false=>rfl
 | pel i j o=>simp only[wY,jG,cY];cases a:Nat.blt i n with | true=>simp only[wY,jG,cY,k _ a] | false=>rfl
 | mp i=>simp only[wY,jG,cY];cases a:Nat.blt i n with | true=>simp only[wY,jG,cY,k _ a] | false=>rfl
 | it i=>simp only[wY,jG,cY];cases a:Nat.blt i n with | true=>simp only[wY,jG,cY,k _ a] | false=>rfl
 | rs i x=>simp only[wY,jG,cY];cases a:Nat.blt i n with | true=>simp only[wY,jG,cY,k _ a] | false=>rfl
 | rel i x j o=>simp only[wY,jG,cY];cases a:Nat.blt i n with | true=>simp only[wY,jG,cY,k _ a] | false=>rfl
 | _=>rfl
theorem aE6{n m:Nat}(h:n<=m)(o:qS): iL m (iL n o)=iL n o:=by
 cases o with
 | box cs=>simp only[iL,Ya];congr 1;exact ZS λc _=>aAC h c
 | rows s es=>simp only[iL,Ya];congr 1;exact ZS λe _=>by simp only[Function.comp,Ya];exact ZS λc _=>aAC h c
 | fr k a=>
  simp only[iL];cases d:Nat.ble k n with
  | true=>simp only[iL,Yx<|ZB (Zj d) h]
  | false=>rfl
 | _=>rfl
theorem aMN{v:TV}{a:AV}(q:Qh H v a): Qh ((H.take n).map<|iL n) (wY n v) a:=by
 cases v with
 | agg cs=>
  obtain⟨aw,rfl,c⟩:=q.inA;exact Qh.mkA<|c.mapL λ_ _ q=>(Cq q).2
 | undef=>exact Qh.u _
 | tup=>exact Qh.u _
 | _=>exact (Cq (n:=n) q).2
theorem aUH{v:TV}{a b:AV}(c:n=H.length)(q:Qh H v a)(h:ClA n a b): Qh (H.map<|iL n) (wY n v) b:=by
 induction h with
 | r=>
  have:=aMN (n:=n) q;rw[c,XO] at this;rw[c];exact this
 | s b m d _ f=>
  have:=aGw (n:=m) f;rw[aQa d,ZW<|by simp;omega,Ya] at this;have e:iL m∘iL n=iL n:=funext λo=>aE6 d o;rw[e] at this;exact this
theorem aUI{o:qS}{a b:dL}(c:n=H.length)(q:Qo H o a)(h:ClO n a b): Qo (H.map<|iL n) (iL n o) b:=by
 induction h with
 | r=>
  have:=(UB (n:=n) q).2;rw[c,XO] at this;rw[c];exact this
 | s b m d _ f=>
  have:=(UB (n:=m) f).1;rw[aE6 d,ZW<|by simp;omega,Ya] at this;have e:iL m∘iL n=iL n:=funext λo=>aE6 d o;rw[e] at this;exact this
end
section
variable [dS]{R:Type}{H H1:TH}{A:aY}{N:Nat}{S:TS}{st:St}{P:Program}{T:List cQ}{cf:CF}{op:Hq}{K:TV->TS->Option R}{r:R}{E:XE}{n:Nat}{d:Option Nat}
def Me{P:Type}(Q:(o:Ra P)->o.lay.V->Prop): (l:List<|Ra P)->qT l->Prop
 | [],t=>t.elim
 | [o],t=>Q o t
 | o::o'::r,t=>match t with
  | .inl t=>Q o t
  | .inr s=>Me Q (o'::r) s
theorem Me.two{P:Type}{Q b:(o:Ra P)->o.lay.V->Prop}: ∀{l:List<|Ra P} {t:qT l},Me Q l t->Me b l t->∃o∈l,∃t,Q o t/\b o t
 | [],t,_,_=>t.elim
 | [o],t,h,k=>⟨o,ZM,t,h,k⟩
 | o::a::r,.inl t,h,k=>⟨o,ZM,t,h,k⟩
 | o::a::r,.inr t,h,k=>let ⟨o,c,t,h⟩:=Me.two (l:=a::r) h k;⟨o,ZQ _ c,t,h⟩
theorem aFd{P R:Type}{p:P}{b:Bool}{K:cV->TS->Option R}{r:R}: ∀{l:List<|Ra P} {x:Option<|qT l},swO p b l x K=some r->∃t,x=some t/\Me (λo t=>K o.x (o.lay.mk' (o.pr p) t)=some r) l t
 | [],x,h=>by cases h
 | [o],x,h=>by
  simp only[swO] at h;obtain⟨t,rfl,h⟩:=bD h;refine⟨t,rfl,?_⟩;split at h
  .exact aJy h
  .exact h
 | o::a::l,x,h=>by
  simp only[swO] at h;rcases aHJ h with⟨t,rfl,h⟩ | ⟨s,rfl,h⟩
  .refine⟨.inl t,rfl,?_⟩;split at h
   .exact aJy h
   .exact h
  .let⟨t,e,h⟩:=aFd (l:=a::l) h;cases e;exact⟨.inr _,rfl,h⟩
theorem aEZ: ∀{os:List OL} {H:TH} {c:List TV},upO os H=some c->H.length=os.length
 | [],H,c,h=>by
  cases H with
  | nil=>rfl
  | cons=>cases h
 | o::os,H,c,h=>by
  cases H with
  | nil=>cases h
  | cons b H=>
   simp only[upO] at h;split at h
   .cases h
   .rename_i vs a;simp[aEZ a]
theorem TX{L:Eb}{S:TS}{x:L.P×L.V}(h:L.get S=some x): S.hp.length=L.os.length:=by
 unfold Eb.get at h;split at h
 .split at h
  .rename_i a;exact aEZ a
  .cases h
 .cases h
theorem aP9{L:Eb}{p:L.P}{q:L.V}(h:L.get S=some (p,q))(i k k':Nat)(l:List<|den k)(c:List<|den k')(f:S.hp[i]?=some (.lst k l))(n:(L.mk' p q).hp[i]?=some (.lst k' c)): c.length=l.length:=by
 unfold Eb.get at h;split at h
 .split at h
  .rename_i m a;split at h
   .rename_i o b;split at h
    .cases h;have g:=Mz (H:=S.hp) b;have e:=aIq a;have j:bW (Rj S.hp) ((mkV L.ss p q).take<|nO L.os) m:=by
      have:=g.take<|nO L.os;rw[<-e,Xn] at this;rw[e] at this;exact this
     exact wN a j i k k' l c f n
    .cases h
   .cases h
  .cases h
 .cases h
theorem aFR{kl:List Nat}: ∀{i:Nat} {H H':TH},a9 kl i H H'=true->∀(j k:Nat) (l:List<|den k),i+j∉kl->H[j]?=some (.lst k l)->∃(k':Nat) (f:List<|den k'),H'[j]?=some (.lst k' f)
 | i,[],H',h,j,k,l,_,c=>by simp at c
 | i,a::r,[],h,_,_,_,_,_=>by cases h
 | i,a::r,b::s,h,j,k,l,n,c=>by
  have o:a9 kl (i+1) r s=true->∀e,j=e+1->∃(k':Nat) (f:List<|den k'),(b::s)[j]?=some (.lst k' f):=by
   rintro q e rfl;let⟨k',f,g⟩:=aFR q e k l (by rw[Yu,Wg 1];exact n) (by simpa using c);exact⟨k',f,by simpa using g⟩
  simp only[a9] at h;cases j with
  | succ e=>
   refine o ?_ e rfl;split at h
   .split at h
    .exact h
    .split at h
     .exact h
     .cases h
   .exact h
  | zero=>
   simp only[Zt,Za] at c;subst c;simp only at h;split at h
   .exact⟨_,_,rfl⟩
   .split at h
    .rename_i p;exact absurd p<|by rw[aEj<|by simpa using n];simp
    .cases h
theorem aFI{os:List OL}: ∀{l:List Nat},aLV os l=true->∀i∈l,os[i]?=some .gone
 | [],_,i,a=>by cases a
 | j::l,h,i,a=>by
  simp only[aLV] at h;split at h
  .rename_i o b;split at h
   .rcases ZN.1 a with rfl | a
    .exact b
    .exact aFI h i a
   .cases h
  .cases h
theorem VW: ∀{os:List OL} {vs:List TV} {i:Nat} {o:qS},os[i]?=some .gone->(D6 os vs)[i]?=some o->o=.gone
 | [],vs,i,o,h,_=>by simp at h
 | c::os,vs,0,o,h,a=>by
  simp only[Zt,Za] at h;subst h;simp only[D6,Zt,Za] at a;exact a.symm
 | c::os,vs,i+1,o,h,a=>by
  have b:os[i]?=some .gone:=by simpa using h
  clear h;cases c<;>simp only[D6] at a<;>first
   | exact VW b (by simpa using a)
   | (split at a<;>first | exact VW b (by simpa using a) | (simp at a))
theorem wV{L:Eb}{S:TS}{x:L.P×L.V}(h:L.fit S=some x): L.get S=some x/\∀i∈L.fo,L.os[i]?=some .gone:=by
 unfold Eb.fit at h;split at h
 .rename_i e;exact⟨h,aFI e⟩
 .cases h
theorem TN{n:Nat}{φ:Nat->dL}: ∀{l:List Nat} {H:TH},(ovO n φ l H).length=H.length
 | [],_=>rfl
 | _::r,H=>by simp[ovO,TN (l:=r)]
theorem U7{n:Nat}{φ:Nat->dL}{i:Nat}: ∀{l:List Nat} {H:TH},i∉l->(ovO n φ l H)[i]?=H[i]?
 | [],_,_=>rfl
 | j::r,H,h=>by
  simp only[ZN,not_or] at h;rw[ovO,Zv λe=>h.1 e.symm];exact U7 h.2
theorem aDU{n:Nat}{φ:Nat->dL}{i:Nat}: ∀{l:List Nat} {H:TH},i∈l->i<H.length->(ovO n φ l H)[i]?=some (.fr n<|φ i)
 | j::r,H,h,a=>by
  rw[ovO,Z5];split
  .rename_i e;subst e;rw[Zu<|by rw[TN];exact a]
  .rename_i e;rcases ZN.1 h with rfl | h
   .exact (e rfl).elim
   .exact aDU h a
theorem TJ{kl:List Nat}{n:Nat}{a:TH}: ∀{l:List Nat} {H:TH},(rsO kl n a l H).length=H.length
 | [],_=>rfl
 | _::r,H=>by
  simp only[rsO];split<;>simp[TJ (l:=r)]
theorem UY{kl:List Nat}{n i:Nat}{a:TH}: ∀{l:List Nat} {H:TH},i∉l->(rsO kl n a l H)[i]?=H[i]?
 | [],_,_=>rfl
 | j::r,H,h=>by
  simp only[ZN,not_or] at h;rw[rsO];split
  .rw[Zv λe=>h.1 e.symm];exact UY h.2
  .exact UY h.2
theorem T3{kl:List Nat}{n i:Nat}{d:TH}{o:qS}(c:d[i]?=some o): ∀{l:List Nat} {H:TH},i∈l->i<H.length->(rsO kl n d l H)[i]?=some (Nt kl<|iL n o)
 | j::r,H,h,b=>by
  rw[rsO];rcases ZN.1 h with rfl | h
  .rw[c];exact Z3<|by rw[TJ];exact b
  .split
   .rename_i f a;rw[Z5];split
    .rename_i e;subst e;rw[c] at a;cases a;rw[Zu<|by rw[TJ];exact b]
    .exact T3 c h b
   .exact T3 c h b
theorem aNF{L:Eb}{n:Nat}{φ:Nat->dL}{p:L.P}{q:L.V}(h:∀i∈L.fo,L.os[i]?=some .gone): HM (L.mk' p q).hp (L.mkG n φ p q).hp:=by
 intro i k l a;have b:i∉L.fo:=λc=>by cases VW (h i c) a
 exact⟨k,l,by rw[<-a];exact U7 b,rfl⟩
theorem aRK{L:Eb}{n:Nat}{φ:Nat->dL}{p:L.P}{q:L.V}(h:∀i∈L.fo,L.os[i]?=some .gone)(c:Qt N (L.mk' p q) st)(k:∀i∈L.fo,∀b,st.heap[i]?=some b->ClO n (φ i) b): Qt N (L.mkG n φ p q) st:=by
 refine Qt.hpM (S:=L.mk' p q) (st:=st) c (aNF h)<|bW.of (by rw[c.hp.len];exact TN.symm) λj o b d f=>?_;by_cases e:j∈L.fo
 .have g:j<(L.mk' p q).hp.length:=by rw[<-c.hp.len];exact (Ze.1 f).1
  rw[aDU e g] at d;cases d;exact k j e b f
 .rw[U7 e] at d;exact (c.hp.at d f).mono<|aNF h
theorem aAv{L:Eb}{p:L.P}{q:L.V}{n:Nat}{φ:Nat->dL}(h:L.fit S=some (p,q))(a:Qt N S st)(c:∀i∈L.fo,∀b,st.heap[i]?=some b->ClO n (φ i) b): Qt N (L.mkG n φ p q) st:=
 aRK (wV h).2 (aJW (wV h).1 a) c
theorem aFw{n:Nat}{φ:Nat->dL}{H:TH}: ∀{l:List Nat},aL9 n H l=some (l.map φ)->∀i∈l,H[i]?=some (.fr n<|φ i)
 | [],_,i,a=>by cases a
 | j::l,h,i,a=>by
  simp only[aL9] at h;split at h
  .rename_i o c;split at h
   .split at h
    .rename_i e;have e:=Zc e;subst e;split at h
     .rename_i f b;simp only[ZE,Za,XU] at h;obtain⟨rfl,rfl⟩:=h;rcases ZN.1 a with rfl | a
      .exact c
      .exact aFw b i a
     .cases h
    .cases h
   .cases h
  .cases h
theorem TY{L:Eb}{p:L.P}{q:L.V}{n:Nat}{φ:Nat->dL}(h:L.getF n S=some (L.fo.map φ,p,q))(a:Qt N S st): Qt N (L.mkG n φ p q) st:=by
 unfold Eb.getF at h;split at h
 .rename_i f e;split at h
  .rename_i x g;simp only[Za,Zi] at h;obtain⟨rfl,rfl⟩:=h;exact aAv g a λi c b d=>a.hp.at (aFw e i c) d
  .cases h
 .cases h
theorem aCa{t:Nat}{v:TV}{B:TT}: ∀{A:TT},dF t (A++B)=some v->dF t A=some v\/dF t B=some v
 | [],h=>.inr h
 | (s,u)::A,h=>by
  simp only[Vf,dF] at h |-;split at h
  .exact .inl h
  .exact aCa h
theorem b9{kl:List Nat}{n t:Nat}{c:TT}{v:TV}: ∀{l:List Nat},dF t (rsT kl n c l)=some v->t∈l/\∃u,dF t c=some u/\v=Uk kl (wY n u)
 | [],h=>by cases h
 | s::l,h=>by
  simp only[rsT] at h;split at h
  .rename_i u d;simp only[dF] at h;split at h
   .rename_i e;have e:=Zc e;subst e;cases h;exact⟨ZM,u,d,rfl⟩
   .let⟨a,b⟩:=b9 h;exact⟨ZQ _ a,b⟩
  .let⟨a,b⟩:=b9 h;exact⟨ZQ _ a,b⟩
structure OKo(sp:B9)(p:sp.ins.P)(q:sp.ins.V)(o:Ra sp.ins.P): Prop where
 fo:o.lay.fo=sp.ins.fo
 hm:∀t,HMk sp.kl (sp.ins.mk' p q).hp (o.lay.mk' (o.pr p) t).hp
 ln:∀t,(sp.ins.mk' p q).hp.length<=(o.lay.mk' (o.pr p) t).hp.length
theorem aCT{n i k:Nat}{l:List<|den k}(h:(H.map<|iL n)[i]?=some (.lst k l)): H[i]?=some (.lst k l):=by
 rw[Zk,Zq] at h;let⟨o,b,a⟩:=h;cases o<;>simp only[iL] at a<;>first | (cases a;done) | (cases a;exact b) | (split at a<;>cases a)
section
variable {N':Nat}{S1:TS}{st1 st2:St}{sp:B9}{p:sp.ins.P}{q:sp.ins.V}{o:Ra sp.ins.P}{φ:Nat->dL}{u:o.lay.V}
theorem aII(F:Qt N S1 st1)(E:sp.ins.fit S1=some (p,q))(U:a9 (sp.kl++sp.ins.fo) 0 S1.hp (sp.ins.mk' p q).hp=true)(Y:∀i∈sp.ins.fo,∀b,st1.heap[i]?=some b->b=φ i)(G:OKo sp p q o)(s:Qt N' (o.lay.mkG sp.ins.os.length φ (o.pr p) u) st2): HMk sp.kl S1.hp (rsO sp.kl S1.hp.length S1.hp sp.ins.fo (o.lay.mk' (o.pr p) u).hp)/\Qt N' ⟨(o.lay.mk' (o.pr p) u).tm,rsO sp.kl S1.hp.length S1.hp sp.ins.fo (o.lay.mk' (o.pr p) u).hp⟩ st2:=by
 have m:S1.hp.length=sp.ins.os.length:=TX (wV E).1;have I:S1.hp.length=(sp.ins.mk' p q).hp.length:=by
  rw[<-F.hp.len];exact (aJW (wV E).1 F).hp.len
 have e:st2.heap.length=(o.lay.mk' (o.pr p) u).hp.length:=by rw[s.hp.len];exact TN
 have L:∀i a,S1.hp[i]?=some a->i<(o.lay.mk' (o.pr p) u).hp.length:=λi a h=>by
  have h1:=(Ze.1 h).1;have h2:=G.ln u;omega
 have O:HMk sp.kl S1.hp<|rsO sp.kl S1.hp.length S1.hp sp.ins.fo (o.lay.mk' (o.pr p) u).hp:=by
  intro i k l g n;by_cases f:i∈sp.ins.fo
  .exact⟨k,l,by rw[T3 n f<|L i _ n];rfl,rfl⟩
  .let⟨k',M,Q⟩:=aFR U i k l (by rw[Z0];simp[g,f]) n;let⟨Z,V,X,W⟩:=G.hm u i k' M g Q;exact⟨Z,V,by rw[UY f];exact X,by rw[W];exact aP9 (wV E).1 i k k' l M n Q⟩
 have x:∀i,i∉sp.ins.fo->(o.lay.mkG sp.ins.os.length φ (o.pr p) u).hp[i]?=(o.lay.mk' (o.pr p) u).hp[i]?:=λi g=>U7 (by rw[G.fo];exact g);have v:∀i,i∈sp.ins.fo->i<(o.lay.mk' (o.pr p) u).hp.length->(o.lay.mkG sp.ins.os.length φ (o.pr p) u).hp[i]?=some (.fr sp.ins.os.length<|φ i):=λi g n=>aDU (by rw[G.fo];exact g) n;have D:HM (o.lay.mkG sp.ins.os.length φ (o.pr p) u).hp<|rsO sp.kl S1.hp.length S1.hp sp.ins.fo (o.lay.mk' (o.pr p) u).hp:=by
  intro i k l g;have K:i<(o.lay.mk' (o.pr p) u).hp.length:=by rw[<-e,s.hp.len];exact (Ze.1 g).1
  by_cases f:i∈sp.ins.fo
  .rw[v i f K] at g;cases g
  .exact⟨k,l,by rw[UY f,<-x i f];exact g,rfl⟩
 refine⟨O,Qt.hpM (S:=o.lay.mkG sp.ins.os.length φ (o.pr p) u) s D<|bW.of (by rw[TJ];exact e) λj a b H r=>?_⟩;have A:j<(o.lay.mk' (o.pr p) u).hp.length:=by rw[<-e];exact (Ze.1 r).1
 by_cases f:j∈sp.ins.fo
 .have y:ClO sp.ins.os.length (φ j) b:=s.hp.at (v j f A) r;have C:j<S1.hp.length:=by rw[m];exact (Ze.1<|(wV E).2 j f).1
  have J:j<st1.heap.length:=by rw[F.hp.len];exact C
  have z:=Zb C;have t:=Zb J;rw[T3 z f A] at H;cases H;have R:=F.hp.at z t;rw[Y j f _ t] at R;rw[<-m] at y;exact aCj (λi k l g n=>O i k l g<|aCT n)<|aUI rfl R y
 .rw[UY f,<-x j f] at H;exact (s.hp.at H r).mono D
theorem aKC{S:TS}{x:cV}(s:Qt N S st)(I:Qt N S1 st1)(r:S1.hp.length=S.hp.length)(A:∀(i k:Nat) (l:List<|den k),S.hp[i]?=some (.lst k l)->S1.hp[i]?=some (.lst k l))(D:sp.ins.fit S1=some (p,q))(Q:a9 (sp.kl++sp.ins.fo) 0 S1.hp (sp.ins.mk' p q).hp=true)(O:∀i∈sp.ins.fo,∀b,st1.heap[i]?=some b->b=φ i)(L:OKo sp p q o)(V:Qt N (o.lay.mkG sp.ins.os.length φ (o.pr p) u) st2)(K:x≠.ret->∀t∈sp.kt,Kp sp.ins.os.length t st st2): Qt N (aft sp S.tm S1.hp x<|o.lay.mk' (o.pr p) u) st2:=by
 let⟨F,n⟩:=aII I D Q O L V;have h:S1.hp.length=sp.ins.os.length:=TX (wV D).1;have f:x≠.ret->Qt N ⟨(o.lay.mk' (o.pr p) u).tm++rsT sp.kl S1.hp.length S.tm sp.kt,rsO sp.kl S1.hp.length S1.hp sp.ins.fo (o.lay.mk' (o.pr p) u).hp⟩ st2:=by
  intro J;refine⟨n.ln,λt v g=>?_,n.hp⟩;rcases aCa g with g | g
  .exact n.tm t v g
  .obtain⟨M,w,E,rfl⟩:=b9 g;let⟨a,G,R⟩:=s.tm t w E;let⟨b,y,C⟩:=(K J t M).2 a G;refine⟨b,y,?_⟩;rw[<-h] at C;exact Fd (λi k l H r=>F i k l H<|A i k l<|aCT r)<|aUH r R C
 cases x with
 | ret=>exact n
 | normal=>exact f<|by intro e;cases e
 | exit j=>exact f<|by intro e;cases e
end
def IOK[aH](P:Program)(T:List cQ)(sp:ISp): Prop:=∀n p q t,sp.s.F n p q=some t->∀φ aw H,aw.length=sp.na->sp.fl<=H.length->Qt aw.length (sp.s.ins.mkG sp.s.ins.os.length φ p q) ⟨aw,H⟩->
 ∃aw' H',fC P T n sp.fl sp.vi aw H=some (kC aw',H')/\aw'.length=sp.nr/\Me (λo t=>Qt sp.nr (o.lay.mkG sp.s.ins.os.length φ (o.pr p) t) ⟨aw',H'⟩/\OKo sp.s p q o) sp.s.outs t
theorem aGl: ∀{vs:List TV} {aw:List AV} {i t:Nat} {v:TV},Qc H vs aw->dF t (PY i vs)=some v->∃j a,t=i+j/\aw[j]?=some a/\Qh H v a
 | [],_,i,t,v,_,h=>by cases h
 | u::vs,a::aw,i,t,v,q,h=>by
  simp only[PY,dF] at h;split at h
  .rename_i e;have e:=Zc e;cases h;exact⟨0,a,by omega,rfl,q.1⟩
  .let⟨j,b,f,d,c⟩:=aGl q.2 h;exact⟨j+1,b,by omega,by simpa using d,c⟩
theorem aA5{vs:List TV}{aw:List AV}(b:Qs H A)(q:Qc H vs aw): Qt aw.length ⟨PY 0 vs,H⟩ ⟨aw,A⟩:=by
 refine⟨rfl,λt v f=>?_,b⟩;let⟨j,a,e,c,d⟩:=aGl q f;exact⟨a,by rw[e,Z0];exact c,d⟩
theorem aNB{c t:Nat}{b:List AV}{e:aY}(h:Qt c S ⟨b,e⟩)(f:t<c): ∃a,b[t]?=some a/\Qh S.hp (match dF t S.tm with | some v=>v | none=>.undef) a:=by
 cases d:dF t S.tm with
 | some v=>exact h.tm t v d
 | none=>exact⟨b[t]'(by rw[h.ln];exact f),Zb _,Qh.u _⟩
theorem aL4{d:Nat}{c:List AV}{o:aY}(h:Qt d S ⟨c,o⟩): Qh S.hp (aOC d S.tm)<|kC c:=by
 have q:c.length=d:=h.ln;have f:∀d,Qt d S ⟨c,o⟩->Qh S.hp (.tup<|(List.range d).map λj=>match dF j S.tm with | some v=>v | none=>.undef) (.tup c):=by
  intro d h;refine Qh.mkT<|bW.of (by simp[h.ln]) λj v a p k=>?_;rw[Zk,Zq] at p;obtain⟨n,l,rfl⟩:=p;have e:n=j:=by
   rw[YY<|by rw[<-h.ln];exact (Ze.1 k).1] at l;cases l;rfl
  subst e;let⟨b,g,i⟩:=aNB h (t:=n) (by rw[<-h.ln];exact (Ze.1 k).1);rw[k] at g;cases g;exact i
 match d,c,h,q with
 | 0,[],h,_=>exact f 0 h
 | 1,[a],h,_=>
  let⟨b,g,i⟩:=aNB h (t:=0) (by omega);cases g;exact i
 | m+2,a::b::r,h,_=>exact f _ h
theorem Po[aH]{fl vi:Nat}{vs:List TV}{aw:List AV}(d:fl<=st.heap.length)(v:Qt N S st)(q:Qc S.hp vs aw): ∀{l:List ISp},(∀sp∈l,IOK P T sp)->Cs n fl vi vs S K l=some r->
 ∃a A tv m,fC P T n fl vi aw st.heap=some (a,A)/\Qt N m ⟨st.tmps,A⟩/\Qh m.hp tv a/\K tv m=some r
 | [],_,h=>by cases h
 | sp::l,y,h=>by
  have e:Cs n fl vi vs S K l=some r->_:=Po d v q λsp h=>y sp<|ZQ _ h;simp only[Cs] at h;split at h
  .exact e h
  .rename_i w;have w:=Zc w;split at h
   .exact e h
   .rename_i e2;have e2:=Zc e2;split at h
    .exact e h
    rename_i k;have k:=Zc k;split at h
    .rename_i p q' x;split at h
     .rename_i j;let⟨t,G,g⟩:=aFd h;have f:=aA5 v.hp q;let φ:Nat->dL:=λi=>(st.heap[i]?).getD default;have z:∀i b,st.heap[i]?=some b->b=φ i:=λi b c=>by show b=(st.heap[i]?).getD default;rw[c];rfl
      let⟨H,H',C,L,F⟩:=y sp ZM n p q' t G φ aw st.heap (by rw[q.len];exact k) (by rw[e2];exact d) (aAv x f λi M b c=>by rw[z i b c];exact .r _);let⟨o,_,u,⟨J,E⟩,D⟩:=Me.two F g;let⟨I,B⟩:=aII f x j (λi _ b c=>z i b c) E J;exact⟨_,H',aOC sp.nr (o.lay.mk' (o.pr p) u).tm,⟨aCh sp.kl S.tm,rsO sp.kl S.hp.length S.hp sp.s.ins.fo (o.lay.mk' (o.pr p) u).hp⟩,by rw[<-w,<-e2];exact C,aCg v I B.hp,aL4 B,D⟩
     .exact e h
    .exact e h
end
section
variable [dS]{R:Type}{H H1:TH}{A:aY}{N:Nat}{S:TS}{st:St}{P:Program}{T:List cQ}{cf:CF}{op:Hq}{K:TV->TS->Option R}{r:R}{E:XE}{n:Nat}{d:Option Nat}
def aKI[aH](P:Program)(t:TypeId)(e:EqS): Prop:=∀(cf:CF) (fl:Nat) (H:aY) (x y:den e.k) (aw bs:List AV),Qr (jX e.k x) aw->Qr (jX e.k y) bs->
 aM P cf fl (.bin .eql t (.tmp 0)<|.tmp 1) [tY (ag e.k) aw,tY (ag e.k) bs] H=some (bv<|@decide (x=y)<|e.dec x y,H)/\aM P cf fl (.bin .neq t (.tmp 0)<|.tmp 1) [tY (ag e.k) aw,tY (ag e.k) bs] H=some (bv<|!@decide (x=y) (e.dec x y),H)
def KOK(P:Program)(t:TypeId)(e:aNm): Prop:=aCk (cds e.k)=true/\@D0 (den e.k) e.dec P t (sS e.k)
def aKE(P:Program)(t:TypeId): Prop:=P.underlying t=some .string/\∀s,aN P (Builtin.len_ #[t] 0 #[.string s])=some (.int .i64 ((s.size:Nat):Int))
def aIc(P:Program)(s d:TypeId)(k:IntKind): Prop:=∀j a,aN P (convert s d<|.int j a)=some (.int k<|k.wrap a)
def aK1(s bytes:Nat)(z:List Value): bS:=(.seq (.region false [] [⟨(some 2),.mov<|.lit bM,none⟩])<|.nilIf 0 3 4 (.seq (.region false [] [⟨(some 2),.mov<|.lit bM,none⟩]) .ret)<|.seq (.region false [] [⟨(some 5),.buildSl true s 0 z [],none⟩,⟨(some 6),.mov<|.tmp 0,none⟩,⟨(some 7),.append s bytes (.tmp 5)<|.tmp 6,none⟩,⟨(some 2),.mov<|.tmp 7,none⟩]) .ret)
def aOk[aH](T:List cQ)(vi k:Nat): Prop:=∃fid bytes z,getF T vi=some ⟨fid,8,[.tmp 2],aK1 (cds k).length bytes z⟩/\0<(cds k).length/\bytes<=100000
def POK[aH](T:List cQ)(vi:Nat): PSp->Prop
 | .srt k=>aH.prim vi=some (xO (ag k) (cds k).length)
 | .cln k=>aOk T vi k
 | .ord k F=>∃g,aH.prim vi=some (rA g)/\∀fl H id (l:List<|den k) es,fl<=id->H[id]?=some (.blk (cds k).length es)->Ql k l es->l.length<=1000000->
  ∃es',g fl [.ms id l.length 0 l.length] H=some (.tup [],H.set id<|.blk (cds k).length es')/\Ql k (F l) es'/\(F l).length=l.length
 | .ins k=>∃g,aH.prim vi=some (rA g)/\∀fl H id y (i:Nat) es row,fl<=id->(∃id2,id≠id2/\y=.ms id2 1 0 1/\H[id2]?=some (.blk (cds k).length [row]))->H[id]?=some (.blk (cds k).length es)->row.length=(cds k).length->i<=es.length->es.length<=1000000->
  g fl [.ms id es.length 0 es.length,.lit<|.int .i64 (i:Nat),y] H=some (.ms id (es.length+1) 0<|es.length+1,H.set id<|.blk (cds k).length (es.take i++row::es.drop i))
structure D3[aH](P:Program)(T:List cQ)(E:XE): Prop where
 cs:∀vi c,E.cs vi=some c->FOK P T vi c
 eq:∀t e,E.eq t=some e->aKI P t e
 km:∀t e,E.km t=some e->KOK P t e
 st:∀t,E.st t=true->aKE P t
 cv:∀s d k,E.cv s d=some k->aIc P s d k
 pr:∀vi p,E.pr vi=some p->POK T vi p
 il:∀sp∈E.il,IOK P T sp
 fo:∀cf,An cf->An (Kb cf)
theorem aFj{α β:Type}: ∀(l:List α) (m:List β) (i:Nat) (a:α) (b:β),(l.zip m).set i (a,b)=(l.set i a).zip (m.set i b)
 | [],_,_,_,_=>by simp
 | _::_,[],i,_,_=>by cases i<;>simp
 | x::l,y::m,0,a,b=>rfl
 | x::l,y::m,i+1,a,b=>by simp[aFj l m i a b]
theorem aBl{k:Nat}{x:den k}{row:List AV}(h:Qr (jX k x) row): Qh H (val k x)<|tY (ag k) row:=by
 unfold val tY;cases ag k with
 | true=>exact Qh.mkA h.c
 | false=>
  cases b:jX k x with
  | nil=>exact Qh.u _
  | cons c r=>
   rw[b] at h;cases row with
   | nil=>exact h.elim
   | cons a r=>exact .p _ _ h.1
theorem aOB{k:Nat}{v:TV}{x:den k}{a:AV}{c:TH}(h:TL 0 c k v=some x)(q:Qh H v a): ∃row,a=tY (ag k) row/\Qr (jX k x) row:=by
 unfold TL at h;split at h
 .rename_i b;split at h
  .obtain⟨aw,rfl,q'⟩:=q.inA;exact⟨aw,by rw[b];rfl,jP h q'⟩
  .cases h
 .rename_i b;exact⟨[a],by rw[b];rfl,jP h (aw:=[a]) ⟨q,trivial⟩⟩
theorem TU: ∀{cs:List Cd} {p:OU cs},aCk cs=true->qY cs p=(kvC cs p).map .lit
 | [],_,_=>rfl
 | c::r,p,h=>by
  cases c<;>first | (cases h;done) | (simp only[aCk] at h;simp only[qY,kvC,ZE,TU h];rfl)
theorem aAc: ∀{vs:List Value} {aw:List AV},Qr (vs.map .lit) aw->Fc aw=some vs
 | [],[],_=>rfl
 | v::vs,a::aw,h=>by
  have e:a=.lit v:=by cases h.1;rfl
  subst e;simp only[Fc,aAc h.2]
theorem aJD{k:Nat}{v:TV}{x:den k}{a:AV}{g:TH}(d:aCk (cds k)=true)(h:TL 0 g k v=some x)(q:Qh H v a): lits a=some (sS k x):=by
 unfold TL at h;unfold sS;split at h
 .rename_i f;split at h
  .obtain⟨aw,rfl,q'⟩:=q.inA;have b:=jP h q';unfold jX at b;rw[TU d] at b;simp only[lits,aAc b,f]
  .cases h
 .rename_i f;have b:=jP h (aw:=[a]) ⟨q,trivial⟩;unfold jX at b;rw[TU d] at b;generalize kvC (cds k) (dS.un k x)=vs at b;match vs,b with
  | [v],b=>
   have e:a=.lit v:=by cases b.1;rfl
   subst e;rfl
theorem aH7{kk b:Nat}{m:List<|den kk×den b}{rows:List<|List AV}(h:rows.length=m.length): (fW b m rows).map (·.1)=(m.map (·.1)).map (sS kk):=by
 unfold fW;rw[List.map_fst_zip<|by simp[h],Ya];rfl
theorem aGm{kk b:Nat}{m:List<|den kk×den b}{rows:List<|List AV}{i:Nat}{p:den kk×den b}{row:List AV}(c:m[i]?=some p)(d:rows[i]?=some row): (fW b m rows)[i]?=some (sS kk p.1,tY (ag b) row):=by
 unfold fW;rw[List.getElem?_zip_eq_some];exact⟨by simp[c],by simp[d]⟩
theorem P1{kt:TypeId}{a:aNm}{c:Nat}{m:List<|den a.k×den c}{rows:List<|List AV}(d:KOK P kt a)(h:rows.length=m.length)(x:den a.k): kE P kt (sS a.k x) (fW c m rows)=some (m.findIdx? λp=>@decide (p.1=x)<|a.dec p.1 x):=by
 rw[aEq (e2:=(m.map (·.1)).map λx=>(sS a.k x,AV.undef))<|by rw[aH7 h,Ya,Ya,Ya];rfl,@D0.find _ a.dec _ _ _ d.2];congr 1;rw[List.findIdx?_map];rfl
theorem aFQ{kk c:Nat}{v:TV}{a:AV}{m:List<|den kk×den c}(n:Qs H A)(q:Qh H v a)(h:aJ4 H kk v=some ⟨c,m⟩):
 ∃rows,Qm c m rows/\((a=.lit (.map none)/\m=[])\/a=.rmp (fW c m rows)\/∃id,a=.mp id/\v=.mp id/\A[id]?=some (.mp<|fW c m rows)/\id<H.length):=by
 unfold aJ4 at h;split at h
 .split at h
  .rename_i g;cases h;let⟨e,i,h⟩:=IR g;subst e;cases i;subst h;let⟨rows,d,f⟩:=(q.pu trivial).inM;rcases d with d | d
   .exact⟨rows,f,.inl d⟩
   .exact⟨rows,f,.inr<|.inl d⟩
  .cases h
 .split at h
  .rename_i o k;split at h
   .split at h
    .rename_i g;cases h;let⟨e,i,h⟩:=IR g;subst e;cases i;subst h;obtain⟨b,l,rows,rfl,f⟩:=n.get k;exact⟨rows,f,.inr<|.inr ⟨_,q.mp1,rfl,l,(Ze.1 k).1⟩⟩
    .cases h
   .cases h
  .cases h
 .cases h
theorem b8[aH]{kt:TypeId}{z m k:bB}{ok:Bool}(U:D3 P T E)(t:Qt N S st)(h:cO E n d (.lookup kt z m k ok) S K=some r): dG P cf E.fl N (.lookup kt z m k ok) st K r:=by
 simp only[cO] at h;split at h
 .rename_i o L;have A:=U.km kt o L;split at h
  .rename_i g y;have f:=aJD A.1 y<|t.get k;split at h
   .rename_i p W;let⟨w,x⟩:=p;let⟨rows,O,c⟩:=aFQ t.hp (t.get m) W;split at h
    .rename_i M Y;have V:Qh S.hp (val w M)<|aI st.tmps z:=aR0 Y<|t.get z;have G:∃a,Qh S.hp (val w<|(@bX _ _ o.dec x g).getD M) a/\aM P cf E.fl (.lookup kt z m k ok) st.tmps st.heap=some (if ok then .tup [a,.lit<|.bool (@bX _ _ o.dec x g).isSome] else a,st.heap):=by
      have q:kE P kt (sS o.k g) (fW w x rows)=_:=P1 A O.len g;have u:∀e,aN P (Instr.checkKey e 10000 kt<|sS o.k g)=some ():=λe=>@D0.chk _ o.dec _ _ _ A.2 e g;rcases @XW _ _ o.dec _ g x with⟨j,F⟩ | ⟨i,v,j,F,I⟩
      .refine⟨aI st.tmps z,by rw[j];exact V,?_⟩;rw[F] at q;rcases c with⟨c,B⟩ | c | ⟨id,c,_,s,_⟩
       .subst B;have J:kE P kt (sS o.k g) []=some none:=q;simp only[aM,f,c,u,J,j];cases ok<;>rfl
       .simp only[aM,f,c,u,q,j];cases ok<;>rfl
       .simp only[aM,f,c,s,u,q,j];cases ok<;>rfl
      .let⟨row,Z,X⟩:=O.get I;refine⟨tY (ag w) row,by rw[j];exact aBl X,?_⟩;rw[F] at q;have he:=aGm I Z;rcases c with⟨c,B⟩ | c | ⟨id,c,_,s,_⟩
       .subst B;simp at I
       .simp only[aM,f,c,u,q,he,j];cases ok<;>rfl
       .simp only[aM,f,c,s,u,q,he,j];cases ok<;>rfl
     let⟨a,R,he⟩:=G;split at h
     .let⟨b,qb,h⟩:=EJ h<|Qh.l (H:=S.hp) _;let⟨Q,D,h⟩:=EJ h R;exact dG.same t (by rw[he];rfl) (Qh.mkT (cs:=[Q,b]) (aw:=[a,_]) ⟨D,qb,trivial⟩) h
     .let⟨Q,D,h⟩:=EJ h R;exact dG.same t (by rw[he];rfl) D h
    .cases h
   .cases h
  .cases h
 .cases h
theorem aJ5[aH]{kt:TypeId}{m k v:bB}(hE:D3 P T E)(x:Qt N S st)(h:cO E n d (.mapUpd kt m k v) S K=some r): dG P cf E.fl N (.mapUpd kt m k v) st K r:=by
 simp only[cO] at h;split at h
 .rename_i b Q;have B:=hE.km kt b Q;split at h
  .rename_i c J;have y:=aJD B.1 J<|x.get k;split at h
   .rename_i id hm;have X:=x.get m;rw[hm] at X;have R:=X.mp1;split at h
    .cases h
    .rename_i j;have j:=Zj j;split at h
     .rename_i p F;let⟨C,q⟩:=p;let⟨rows,w,u⟩:=aFQ x.hp (Qh.mp (H:=S.hp) id) F;split at h
      .rename_i D hv;let⟨row,U,e2⟩:=aOB hv<|x.get v;rcases u with⟨u,_⟩ | u | ⟨a2,u,_,z,a1⟩
       .cases u
       .cases u
       cases u;have A:kE P kt (sS b.k c) (fW C q rows)=_:=P1 B w.len c;have W:aN P (Instr.checkKey false 10000 kt<|sS b.k c)=some ():=@D0.chk _ b.dec _ _ _ B.2 false c;have t:Instr.sameBits 10000 (sS b.k c) (sS b.k c)=true:=@D0.same _ b.dec _ _ _ B.2 c;have G:∀o:qS,(∀(k:Nat) (l:List<|den k),S.hp[id]?≠some (.lst k l))->HM S.hp (S.hp.set id o):=λo hn=>HM.set λk l e=>absurd e<|hn k l;have L:∀(k:Nat) (l:List<|den k),S.hp[id]?≠some (.lst k l):=by
        intro k l e;simp only[aJ4,e] at F;cases F
       have f:∀a,aM P cf E.fl (.mapUpd kt m k v) st.tmps st.heap=some (.lit bL,st.heap.set id<|.mp<|fW C (@jS _ _ b.dec q c D) a)->Qm C (@jS _ _ b.dec q c D) a->dG P cf E.fl N (.mapUpd kt m k v) st K r:=
        λa he M=>dG.set (o:=.map b.k C<|@jS _ _ b.dec q c D) x he (G _ L) ⟨a,rfl,M⟩ (Qh.l _) h
       have g:=@aBV _ _ b.dec _ c D q;rcases @XW _ _ b.dec _ c q with⟨g1,O⟩ | ⟨i,v0,g1,O,Y⟩
       .rw[O] at A g;rw[g] at f;refine f (rows++[row]) ?_<|w.app ⟨e2,trivial⟩;simp only[aM,y,R,j,Zz,z,W,A,U];congr 4;unfold fW;rw[YJ,YJ,List.zip_append<|by simp[w.len]];rfl
       .rw[O] at A g;rw[g] at f;let⟨V,Z,h2⟩:=w.get Y;have he:=aGm Y Z;refine f (rows.set i row) ?_<|bW.set (l:=q) (m:=rows) w i e2;simp only[aM,y,R,j,Zz,z,W,A,he,t,U];congr 4;unfold fW;rw[Xz,Xz];exact aFj _ _ _ _ _
      .cases h
     .cases h
   .cases h
  .cases h
 .cases h
end
section
variable [dS]{R:Type}{H H1:TH}{A:aY}{N:Nat}{S:TS}{st:St}{P:Program}{T:List cQ}{cf:CF}{op:Hq}{K:TV->TS->Option R}{r:R}{E:XE}{n:Nat}{d:Option Nat}
theorem S4{v:TV}{a:AV}{s:ByteArray}(h:aGQ v=some s)(q:Qh H v a): a=sv s:=by
 unfold aGQ at h;split at h
 .split at h
  .cases h;exact q.inL
  .cases h
 .cases h
theorem aMX[aH]{x:Option bB}{b a:Int}(d:Qt N S st)(h:IU S.tm x b=some a)(c:0<=a): (x=none/\a=b)\/(∃y,x=some y/\gZ (aI st.tmps y)=some a.toNat):=by
 unfold IU at h;split at h
 .cases h;exact .inl ⟨rfl,rfl⟩
 .rename_i y;have:=yM h<|d.get y;exact .inr ⟨y,rfl,by rw[this];simp[gZ,c]⟩
theorem lF[aH]{x:Option bB}{b a:Int}(d:Qt N S st)(h:IU S.tm x b=some a)(f:0<=a): ∃o,eE st.tmps x=some o/\∀D:Nat,b=(D:Int)->o.getD D=a.toNat:=by
 rcases aMX d h f with⟨rfl,rfl⟩ | ⟨y,rfl,e⟩
 .exact⟨none,rfl,λD c=>by simp[c]⟩
 .exact⟨some a.toNat,by simp only[eE,e],λD _=>rfl⟩
theorem aJ7[aH]{t:TypeId}{x:bB}(c:D3 P T E)(a:Qt N S st)(h:cO E n d (.lenStr t x) S K=some r): dG P cf E.fl N (.lenStr t x) st K r:=by
 simp only[cO] at h;split at h
 .rename_i b;split at h
  .rename_i s f;have e:=S4 f<|a.get x;refine dG.same a ?_ (Qh.l _) h;simp only[aM,e,(c.st t b).2 s]
  .cases h
 .cases h
theorem aIw[aH]{t:TypeId}{x i:bB}(g:D3 P T E)(a:Qt N S st)(h:cO E n d (.strIdx t x i) S K=some r): dG P cf E.fl N (.strIdx t x i) st K r:=by
 simp only[cO] at h;split at h
 .rename_i c;split at h
  .rename_i s k;have e:=S4 k<|a.get x;split at h
   .rename_i j f;have e2:=yM f<|a.get i;let⟨v,b,h⟩:=bD h;have:=aGR (cf:=cf) (fl:=E.fl) (H:=st.heap) (g.st t c).1 b;refine dG.same a ?_ (Qh.l _) h;simp only[aM,e,e2];exact this
   .cases h
  .cases h
 .cases h
theorem aD6[aH]{t:TypeId}{x:bB}{j i:Option bB}(f:Qt N S st)(h:cO E n d (.strSlice t x j i) S K=some r): dG P cf E.fl N (.strSlice t x j i) st K r:=by
 simp only[cO] at h;split at h
 .rename_i s w;have e:=S4 w<|f.get x;split at h
  .rename_i a k;split at h
   .rename_i b m;let⟨v,c,h⟩:=bD h;unfold aS6 at c;split at c
    .rename_i g;cases c;let⟨z,q,u⟩:=lF f k g.1;let⟨y,p,o⟩:=lF f m<|by omega
     refine dG.same f ?_ (Qh.l _) h;simp only[aM,e,q,p];rw[u 0 rfl,o s.size rfl,Zu ⟨by omega,g.2.2⟩]
    .cases c
   .cases h
  .cases h
 .cases h
theorem aDL[aH]{x:bB}(a:Qt N S st)(h:cO E n d (.rangeStr x) S K=some r): dG P cf E.fl N (.rangeStr x) st K r:=by
 simp only[cO] at h;split at h
 .rename_i s c;have e:=S4 c<|a.get x;refine dG.add (v:=.it st.heap.length) (o:=.it s 0) (b:=.raw<|.stringIter s 0) a (by simp only[aM,e]) rfl (by rw[a.hp.ln];exact .it _) h
 .cases h
theorem aHn[aH]{x:bB}(i:Qt N S st)(h:cO E n d (.nextStr x) S K=some r): dG P cf E.fl N (.nextStr x) st K r:=by
 have q:=i.get x;simp only[cO] at h;split at h
 .rename_i id t;rw[t] at q;have e:aI st.tmps x=.it id:=by
   generalize aI st.tmps x=a at q;cases q with
   | p _ _ q=>cases q
   | it=>rfl
  split at h
  .cases h
  .rename_i c;have c:=Zj c;split at h
   .rename_i o j;split at h
    .rename_i s p;obtain⟨b,m,rfl⟩:=i.hp.get j;rcases v6 h with⟨f,h⟩ | ⟨f,h⟩
     .have f:=Zl f;refine dG.set (o:=.it s<|p+(Utf8.decode s p).2) (b:=.raw<|.stringIter s<|p+(Utf8.decode s p).2) i ?_ (HM.set λk l e=>by rw[j] at e;cases e) rfl (Qh.mkT (cs:=[_,_,_]) (aw:=[_,_,_]) ⟨Qh.l _,Qh.l _,Qh.l _,trivial⟩) h;simp only[aM,e,c,Zz,m,f]
     .have f:=Zp f;refine dG.same i ?_ (Qh.mkT (cs:=[_]) (aw:=[_]) ⟨Qh.l _,trivial⟩) h;simp only[aM,e,c,Zz,m,f,Z9]
    .cases h
   .cases h
 .cases h
theorem aPU[aH]{s t:TypeId}{x:bB}(e:D3 P T E)(b:Qt N S st)(h:cO E n d (.conv s t x) S K=some r): dG P cf E.fl N (.conv s t x) st K r:=by
 have q:=b.get x;simp only[cO] at h;split at h
 .rename_i k' c;split at h
  .rename_i u f;rw[f] at q;split at h
   .have a:=e.cv s t k' c;unfold aIc at a;refine dG.same b ?_ (Qh.l _) h;simp only[aM,q.inL,a]
   .cases h
  .cases h
 .cases h
theorem aMa[aH](a:Qt N S st)(h:cO E n d .mkMap S K=some r): dG P cf E.fl N .mkMap st K r:=by
 simp only[cO] at h;split at h
 .split at h
  .rename_i kk c _;exact dG.add (v:=.mp st.heap.length) (o:=.map kk c []) (b:=.mp []) a rfl ⟨[],rfl,trivial⟩ (by rw[a.hp.ln];exact .mp _) h
  .cases h
 .cases h
theorem aPu[aH]{x:bB}(k:Qt N S st)(h:cO E n d (.lenM x) S K=some r): dG P cf E.fl N (.lenM x) st K r:=by
 have q:=k.get x;simp only[cO] at h;split at h
 .rename_i m c;refine dG.same k ?_ (Qh.l _) h;generalize bZ S.tm x=v at c q;generalize j:aI st.tmps x=a at q;have s:∀{kk p:Nat} {m:List<|den kk×den p} {rows:List<|List AV},rows.length=m.length->(fW p m rows).length=m.length:=λh=>by simp[fW,h]
  unfold aNC at c;split at c
  .cases c;let⟨rows,t,g⟩:=(q.pu trivial).inM;rcases t with⟨rfl,rfl⟩ | rfl
   .simp only[aM,j];rfl
   .simp only[aM,j,s g.len]
  .split at c
   .rename_i o u;split at c
    .cases c;obtain⟨b,f,rows,rfl,g⟩:=k.hp.get u;have e:=q.mp1;subst e;simp only[aM,j,f,s g.len]
    .cases c
   .cases c
  .cases c
 .cases h
theorem Aw[aH]{x:Option bB}(a:Qt N S st)(h:EG S.tm x=true): eE st.tmps x=some none\/eE st.tmps x=some (some 0):=by
 unfold EG at h;split at h
 .exact .inl rfl
 .rename_i y;split at h
  .rename_i m b;split at h
   .split at h
    .right;simp only[eE,yM b<|a.get y];rfl
    .cases h
   .cases h
  .cases h
theorem aMG[aH]{s:Nat}{x:bB}{Z U:Option bB}(c:Qt N S st)(h:aPS s S.tm S.hp Z U (bZ S.tm x) (λv=>K v S)=some r): dG P cf E.fl N (.slice s x Z U none) st K r:=by
 have q:=c.get x;have u:eE st.tmps none=some none:=rfl;have hd:∀{k:Nat} {l:List<|den k} {es:List<|List AV},Ql k l es->(cds k).length=s->lJ s es=true:=by
  intro k l es h e;cases es with
  | nil=>rfl
  | cons a es=>
   cases l with
   | nil=>exact h.elim
   | cons y l=>simp[lJ,h.1.len,tV,e]
 have g:∀{k:Nat} {l I:List<|den k} {es:List<|List AV} {a b:Int},Ql k l es->cut l a b=some I->0<=a/\0<=b/\a.toNat<=b.toNat/\b.toNat<=es.length/\Ql k I ((es.take b.toNat).drop a.toNat):=by
  intro k l I es a b hq J;unfold cut at J;split at J
  .rename_i n;cases J;exact⟨n.1,by omega,by omega,by rw[hq.len];omega,(hq.take _).drop _⟩
  .cases J
 unfold aPS at h;split at h
 .rename_i k l H;rw[H] at q;split at h
  .rename_i e;have e:=Zc e;split at h
   .rename_i a Q;split at h
    .rename_i b n;let⟨I,L,h⟩:=bD h;let⟨es,Y,t⟩:=(q.pu trivial).inS;let⟨W,c2,V,M,F⟩:=g t L;let⟨o1,A,C⟩:=lF c Q W;let⟨o2,B,D⟩:=lF c n c2;rcases Y with⟨d,rfl⟩ | ⟨f,d⟩
     .have X:l=[]:=ZK.1 t.len.symm;subst X;have e3:=C 0 rfl;have e4:=D 0 rfl;have i:b.toNat=0:=by simpa using M
      have j:a.toNat=0:=by omega
      have e2:I=[]:=by
       rw[j,i] at F;exact ZK.1<|by have:=F.len;simpa using this.symm
      subst e2;refine dG.same c ?_ (.p _ _<|Qp.mkS (es:=[]) (.inl ⟨rfl,rfl⟩)<|show Ql k [] [] from trivial) h;simp only[aM,d,A,B];simp[bM,gP,u,e3,e4,j,i]
     .refine dG.same (v:=.sl (f&&b.toNat==es.length)<|(es.take b.toNat).drop a.toNat) c ?_ (.p _ _<|Qp.mkS (.inr ⟨_,rfl⟩) F) h;simp only[aM,d,A,B,u,gP];rw[D es.length<|by rw[t.len],C 0 rfl,Zu ⟨V,M,hd t e⟩]
    .cases h
   .cases h
  .cases h
 .rename_i k l H;rw[H] at q;split at h
  .rename_i e;have e:=Zc e;split at h
   .rename_i a Q;split at h
    .rename_i b n;let⟨I,L,h⟩:=bD h;let⟨es,Y,t⟩:=(q.pu trivial).inV;let⟨W,c2,V,M,F⟩:=g t L;let⟨o1,A,C⟩:=lF c Q W;let⟨o2,B,D⟩:=lF c n c2;rcases Y with⟨d,rfl⟩ | ⟨f,d⟩ | d
     .have X:l=[]:=ZK.1 t.len.symm;subst X;have e3:=C 0 rfl;have e4:=D 0 rfl;have i:b.toNat=0:=by simpa using M
      have j:a.toNat=0:=by omega
      have e2:I=[]:=by
       rw[j,i] at F;exact ZK.1<|by have:=F.len;simpa using this.symm
      subst e2;refine dG.same c ?_ (.p _ _<|Qp.mkV (es:=[]) (.inl ⟨rfl,rfl⟩)<|show Ql k [] [] from trivial) h;simp only[aM,d,A,B];simp[bM,gP,u,e3,e4,j,i]
     .refine dG.same (v:=.sl (f&&b.toNat==es.length)<|(es.take b.toNat).drop a.toNat) c ?_ (.p _ _<|Qp.mkV (.inr<|.inl ⟨_,rfl⟩) F) h;simp only[aM,d,A,B,u,gP];rw[D es.length<|by rw[t.len],C 0 rfl,Zu ⟨V,M,hd t e⟩]
     .refine dG.same (v:=.vw<|(es.take b.toNat).drop a.toNat) c ?_ (.p _ _<|Qp.mkV (.inr<|.inr rfl) F) h;simp only[aM,d,A,B,u,gP];rw[D es.length<|by rw[t.len],C 0 rfl,Zu ⟨V,M,hd t e⟩]
    .cases h
   .cases h
  .cases h
 .rename_i id m H;rw[H] at q;split at h
  .rename_i o ho;split at h
   .rename_i k l;split at h
    .rename_i hk;simp only[Zd] at hk;have e:=Zc hk.1;have e0:0<s:=by simpa [YC] using hk.2
     have d:=q.mw ho;let⟨es,k1,k2⟩:=c.hp.lst ho;rw[e] at k1;split at h
     .rename_i a Q;have go:∀{b:Int},IU S.tm U (((Ei l m).2:Nat):Int)=some b->bnd (sub l (Ei l m) a b) (λw=>K (.ms id<|some w) S)=some r->dG P cf E.fl N (.slice s x Z U none) st K r:=by
       intro b n h;let⟨w,T,h⟩:=bD h;unfold sub at T;split at T
       .rename_i J;cases T;let⟨o1,A,C⟩:=lF c Q J.1;let⟨o2,B,D⟩:=lF c n<|by omega
        refine dG.same c ?_ (.msn id _ k l ho) h;simp only[aM,d,A,B,u,gP,k1];rw[D _ rfl,C 0 rfl];by_cases R:b.toNat<=(Ei l m).2
        .rw[Zu ⟨by omega,R,trivial⟩]
        .rw[ZF λh=>R h.2.1,Zu ⟨by omega,J.2.2,k2.len,e0,trivial⟩]
       .cases T
      split at h
      .split at h
       .rename_i b n;exact go n h
       .cases h
      .split at h
       .rename_i b n;exact go n h
       .cases h
     .cases h
    .cases h
   .cases h
  .cases h
 .rename_i b H;rw[H] at q;split at h
  .rename_i G;simp only[Zd] at G;have q0:=q;cases (q.pu trivial) with
   | emp _ _ z=>
    rcases Aw c G.1 with j | j<;>rcases Aw c G.2 with i | i<;>rcases z with z | z | ⟨n,z⟩ <;>
     first
     | (refine dG.same (v:=.lit bM) c ?_ (by rw[<-z];exact q0) h;simp only[aM,z,j,i,u,bM,gP];simp;done)
     | (refine dG.same (v:=.sl true []) c ?_ (by rw[<-z];exact q0) h;simp only[aM,z,j,i,u,gP];simp[lJ];done)
     | (refine dG.same (v:=.sl false []) c ?_ (by rw[<-z];exact q0) h;simp only[aM,z,j,i,u,gP];simp[lJ];done)
  .cases h
 .split at h
  .split at h
   .split at h
    .split at h
     .split at h
      .rename_i G;have q:Qh S.hp (.lit<|.slice none 0 0)<|aI st.tmps x:=by rw[<-‹bZ S.tm x=TV.lit (Value.slice none 0 0)›];exact q
       simp only[Zd] at G;have d:aI st.tmps x=.lit bM:=q.inL;rcases Aw c G.1 with j | j<;>rcases Aw c G.2 with i | i <;>
        (refine dG.same (v:=.lit bM) c ?_ (by rw[<-d];exact q) h;simp only[aM,d,j,i,u,bM,gP];simp)
      .cases h
     .cases h
    .cases h
   .cases h
  .cases h
 .cases h
theorem aLs[aH]{s:Nat}{x:bB}{G L mx:Option bB}(g:Qt N S st)(h:cO E n d (.slice s x G L mx) S K=some r): dG P cf E.fl N (.slice s x G L mx) st K r:=by
 simp only[cO] at h;split at h
 .exact aMG g h
 .rename_i m;split at h
  .cases h
  .rename_i y;have q:=g.get x;split at h
   .rename_i id w A;rw[A] at q;split at h
    .rename_i o T;split at h
     .rename_i k l;split at h
      .rename_i a U;split at h
       .rename_i b O;split at h
        .rename_i c V;let⟨_,R,h⟩:=bD h;have B:=Zl<|yO R;let⟨W,H,I⟩:=lF g U B.1;have C:eE st.tmps (some y)=some (some b.toNat):=by simp only[eE,yM O<|g.get y];simp[gZ,show 0<=b by omega]
         have e2:eE st.tmps (some m)=some (some c.toNat):=by simp only[eE,yM V<|g.get m];simp[gZ,show 0<=c by omega]
         have t:=q.mw T;by_cases i:a.toNat=b.toNat/\b.toNat=c.toNat
         .refine dG.same (v:=.sl true []) g ?_ (.u _) h;simp only[aM,t,H,C,e2,gP];rw[I 0 rfl,Zu ⟨i.1,i.2,by omega⟩]
         .refine dG.same (v:=.undef) g ?_ (.u _) h;simp only[aM,t,H,C,e2,gP];rw[I 0 rfl,ZF<|by omega,Zu<|by omega]
        .cases h
       .cases h
      .cases h
     .cases h
    .cases h
   .rename_i k l A;rw[A] at q;split at h
    .rename_i i;simp only[Zd] at i;split at h
     .rename_i e;have e:=Zc e;let⟨es,Q,D⟩:=(q.pu trivial).inS;have M:lJ s es=true:=by
       cases es with
       | nil=>rfl
       | cons a es=>
        cases l with
        | nil=>exact D.elim
        | cons y l=>simp[lJ,D.1.len,tV,e]
      have F:eE st.tmps (some y)=some (some 0):=by
       rcases Aw g i.2.1 with h | h
       .simp only[eE] at h;split at h<;>cases h
       .exact h
      have J:eE st.tmps (some m)=some (some 0):=by
       rcases Aw g i.2.2 with h | h
       .simp only[eE] at h;split at h<;>cases h
       .exact h
      rcases Q with⟨t,_⟩ | ⟨f,t⟩
      .refine dG.same (v:=.lit bM) g ?_ (.p _ _<|.emp _ _<|.inl rfl) h;rcases Aw g i.1 with z | z<;>simp[aM,t,z,F,J,bM,gP]
      .refine dG.same (v:=.sl true []) g ?_ (.p _ _<|.emp _ _<|.inr<|.inl rfl) h;rcases Aw g i.1 with z | z<;>simp[aM,t,z,F,J,gP,M]
     .cases h
    .cases h
   .cases h
end
end
theorem aO2{α:Type}{c:α->List AV}{cf:CF}{agg:Bool}{s fl id vc off len:Nat}{caps:List AV}{F:α->α->Option Int}{l t:List α}{H:aY}(p:fl<=id)(b:H[id]?=some (.blk s<|l.map c))(g:l.length<=1000000)(B:off+len<=l.length)(A:∀x y z,F x y=some z->Pe cf vc caps agg (Nm H id) (OG H id s<|l.map c) (c x) (c y)=some z)(h:qZ F ((l.drop off).take len)=some t):
 vE cf agg s fl [.ms id l.length off len,.fn vc caps] H=some (.tup [],H.set id<|.blk s<|(aT l off t).map c):=by
 have a:((l.drop off).take len).length=len:=by rw[ZH,ZV];omega
 generalize u:(l.drop off).take len=W at h a;unfold qZ at h;split at h
 .cases h;have C:len=0:=by simpa using a.symm
  subst C;have E:uU (.ms id l.length off 0)=true:=rfl;have D:aT l off []=l:=by simp[aT]
  rw[D];simp only[vE,E,Za,Zi,We];apply Ym;intro i;by_cases n:i=id
  .subst n;rw[b];rw[Z3 (by
    rcases ZI i H.length with h | h
    .exact h
    .rw[Zy h] at b;cases b)]
  .rw[Zv<|Ne.symm n]
 .rename_i x r;split at h
  .cases h
  rename_i tb o;split at h
  .cases h
  rename_i k;cases h;have v:=aIt (e:=c) (f:=Pe cf vc caps agg (Nm H id)<|OG H id s<|l.map c) A o;have w:len=r.length+1:=by rw[<-a];rfl
  subst w;have j:((l.map c).drop off).take (r.length+1)=(x::r).map c:=by rw[<-X9,<-X8,u]
  have:=aBs (cf:=cf) (agg:=agg) (off:=off) (m:=r.length) (vc:=vc) (caps:=caps) (tb:=tb) (tot:=l.length) p b (by simp) (by simpa using B) (by simpa using g) (by rw[j];exact v) k;refine this.trans ?_;rw[j];have q:((ixG r.length tb).map<|Ep x (x::r)).length=r.length+1:=by rw[ZO,aAg k]
  congr 3;refine congrArg (dL.blk s) ?_;unfold aT;rw[q,YJ,YJ,X8,X9,Ya,Ye];congr 2;exact ZS λi n=>M2<|by have:=aEm n;simpa using this
section
open jH (den cds ag)
theorem aGU{α β:Type}{f:α->β}{F:β->β->Option Int}{z:List α}{e:List β}(h:qZ F (z.map f)=some e): ∃g,qZ (λa b=>F (f a)<|f b) z=some g/\g.map f=e:=by
 cases z with
 | nil=>cases h;exact⟨[],rfl,rfl⟩
 | cons x r=>
  have m:EI F (f x::r.map f)=EI (λa b=>F (f a)<|f b) (x::r):=by
   unfold EI;rw[show f x::r.map f=(x::r).map f from rfl,Ya];congr 1;apply ZS;intro a _;show Ue (((x::r).map f).map _)=_;rw[Ya];rfl
  simp only[ZE,qZ,ZO,m] at h;simp only[qZ];split at h
  .cases h
  .rename_i tb j;split at h
   .cases h
   .rename_i k;cases h;refine⟨_,rfl,?_⟩;rw[Ya];apply ZS;intro i c;have c:=aEm c;exact (M2 (d:=x) (d':=f x) (l:=x::r)<|by simpa using c).symm
section
variable [dS]{R:Type}{H H1:TH}{A:aY}{N:Nat}{S:TS}{st:St}{P:Program}{T:List cQ}{cf:CF}{op:Hq}{K:TV->TS->Option R}{r:R}{E:XE}{n:Nat}{d:Option Nat}
theorem aGe{id:Nat}: HMk [id] S.hp (Fi id S).hp:=by
 intro j k l a h;simp only[Fi,oL,kI];exact⟨k,l,aBZ<|by rw[Zv<|by simpa [Wy] using a];exact h,rfl⟩
theorem GB{id:Nat}(c:Qt N S st)(a:id<S.hp.length)(b:dL): Qt N (Fi id S) ⟨st.tmps,st.heap.set id b⟩:=aCi c rfl (λ_ _ _=>trivial) a
abbrev RR(k:Nat):={p:den k×List AV // Qr (jX k p.1) p.2}
theorem aFs{k:Nat}: ∀{l:List<|den k} {es:List<|List AV},Ql k l es->∃z:List<|RR k,z.map (λp=>p.1.1)=l/\z.map (λp=>p.1.2)=es
 | [],[],_=>⟨[],rfl,rfl⟩
 | x::l,e::es,h=>by
  let⟨z,c,a⟩:=aFs h.2;exact⟨⟨(x,e),h.1⟩::z,by rw[ZE,c],by rw[ZE,a]⟩
theorem aN1{k:Nat}: ∀(z:List<|RR k),Ql k (z.map λp=>p.1.1)<|z.map λp=>p.1.2
 | []=>trivial
 | p::z=>⟨p.2,aN1 z⟩
theorem S8{k:Nat}{x:den k}{e:List AV}(h:Qr (jX k x) e): Qh H (val k x)<|Aq (ag k) e:=by
 have:=aBl (H:=H) h;unfold Aq;unfold tY at this;cases c:ag k with
 | true=>rw[c] at this;exact this
 | false=>
  rw[c] at this;match e,this with
  | [],this=>exact this
  | [a],this=>exact this
  | a::b::r,this=>exact this
theorem aLm{α:Type}{F:α->α->Option Int}{m:Option<|Nat×Nat}{l:List α}{K:List α->Option R}(h:aLn F m l K=some r):
 ∃a,qZ F ((l.drop (Ei l m).1).take (Ei l m).2)=some a/\(Ei l m).1+(Ei l m).2<=l.length/\l.length<=1000000/\K (aT l (Ei l m).1 a)=some r/\(aT l (Ei l m).1 a).length=l.length:=by
 cases m with
 | none=>
  let⟨_,c,h⟩:=bD h;let⟨a,b,h⟩:=bD h;have e:a.length=l.length:=L6 b;have e2:aT l 0 a=a:=by simp[aT,e]
  refine⟨a,?_,by simp[Ei],Zl<|yO c,?_,?_⟩
  .simpa [Ei] using b
  .simp only[Ei,e2];exact h
  .simp only[Ei,e2];exact e
 | some w=>
  let⟨_,c,h⟩:=bD h;let⟨a,b,h⟩:=bD h;have d:=Zl<|yO c;refine⟨a,b,d.2,d.1,h,Hw ?_⟩;have:=L6 b;simp only[win,ZH,ZV] at this;simp only[Ei];omega
theorem aLq[aH]{vi k id vc off len:Nat}{caps:List AV}{F:den k->den k->Option Int}{l u:List<|den k}{r t:AV}(o:E.fl<=id)(v:aH.prim vi=some (xO (ag k) (cds k).length))(B:Qt N S st)(D:S.hp[id]?=some (.lst k l))(y:l.length<=1000000)(i:off+len<=l.length)(j:r=.ms id l.length off len)(m:t=.fn vc caps)(A:∀(p q:RR k) (es:List<|List AV) (z:Int),F p.1.1 q.1.1=some z->Pe (fC P T n) vc caps (ag k) (Nm st.heap id) (OG st.heap id (cds k).length es) p.1.2 q.1.2=some z)(h:qZ F ((l.drop off).take len)=some u):
 ∃es',fC P T (n+1) E.fl vi [r,t] st.heap=some (.tup [],st.heap.set id<|.blk (cds k).length es')/\Ql k (aT l off u) es':=by
 let⟨es,x,G⟩:=B.hp.lst D;obtain⟨z,rfl,rfl⟩:=aFs G;rw[<-X9,<-X8] at h;obtain⟨g,C,rfl⟩:=aGU h;subst j;subst m;refine⟨(aT z off g).map λp=>p.1.2,?_,?_⟩
 .rw[fC,v,ZO];exact aO2 (agg:=ag k) (c:=λ(p:RR k)=>p.1.2) (F:=λ(a b:RR k)=>F a.1.1 b.1.1) o x (by simpa using y) (by simpa using i) (λp q w i=>A p q _ w i) C
 .have:=aN1<|aT z off g;have e:(aT z off g).map (λp=>p.1.1)=aT (z.map λp=>p.1.1) off (g.map λp=>p.1.1):=by
   unfold aT;rw[YJ,YJ,X8,X9,ZO]
  rw[e] at this;exact this
theorem aMK[aH]{k id vc:Nat}{c:CSp}{p q:RR k}{es:List<|List AV}{z:Int}(m:FOK P T vc c)(o:Qt N S st)(d:id<S.hp.length)(h:aPY n c k (Fi id S).hp p.1.1 q.1.1=some z):
 Pe (fC P T n) vc [] (ag k) (Nm st.heap id) (OG st.heap id (cds k).length es) p.1.2 q.1.2=some z:=by
 unfold aPY at h;have l:=GB o d<|.mp [];let⟨s,a,tv,i,f,g⟩:=w9 (H1:=[]) (K:=i64?) (aw:=[Aq (ag k) p.1.2,Aq (ag k) q.1.2].map<|cJ<|Nm st.heap id) m h λp' r b=>aK7 r b ⟨S8 p.2,S8 q.2,trivial⟩ l.hp;refine aPX rfl<|aON i ?_;exact yM g f
theorem aML[aH]{k id vc:Nat}{caps:List TV}{c:List AV}{p q:RR k}{es:List<|List AV}{z:Int}(e:∀sp∈E.il,IOK P T sp)(g:Qt N S st)(f:id<S.hp.length)(l:Qc S.hp caps c)(d:c≠[])(h:aPZ E n vc id k caps S p.1.1 q.1.1=some z):
 Pe (fC P T n) vc c (ag k) (Nm st.heap id) (OG st.heap id (cds k).length es) p.1.2 q.1.2=some z:=by
 unfold aPZ at h;have u:=GB g f<|.blk (cds k).length<|es++[List.replicate (cds k).length .undef];have j:(OG st.heap id (cds k).length es).length=S.hp.length:=by simp[OG,g.hp.ln]
 let⟨a,o,tv,w,r,x,m,s⟩:=Po (N:=0) (S:=⟨[],(Fi id S).hp⟩) (st:=⟨[],OG st.heap id (cds k).length es⟩) (aw:=Aq (ag k) p.1.2::Aq (ag k) q.1.2::c) (by rw[j];exact Zf _) ⟨rfl,λt v h=>(by cases h),u.hp⟩
  (show Qc (Fi id S).hp (val k p.1.1::val k q.1.1::caps.map (Uk [id])) _ from⟨S8 p.2,S8 q.2,l.mapL λ_ _ q=>Fd aGe q⟩) e h
 refine aMJ d ⟨o,?_⟩;rw[j,r,yM s m]
theorem aAa{fl k:Nat}{v:TV}{p:Nat×List (den k)}(h:aJ6 fl H k v=some p): v=.ms p.1 none/\fl<=p.1/\H[p.1]?=some (.lst k p.2):=by
 unfold aJ6 at h;split at h
 .split at h
  .cases h
  .split at h
   .cases h
   .rename_i c;split at h
    .rename_i o d;split at h
     .split at h
      .rename_i f a;let⟨e,a⟩:=qP (F:=λk=>List<|den k) a;subst e;subst a;cases h;exact⟨rfl,Zj c,d⟩
      .cases h
     .cases h
    .cases h
 .cases h
theorem aLT{k id:Nat}{v:TV}{z:den k}{a:AV}(m:Qs H A)(q:Qh H v a)(h:aPc H k id v=some z):
 ∃row,(∃id2,id≠id2/\a=.ms id2 1 0 1/\A[id2]?=some (.blk (cds k).length [row]))/\Qr (jX k z) row:=by
 unfold aPc at h;split at h
 .split at h
  .rename_i p l;split at h
   .cases h
   .rename_i c;let⟨id2,i⟩:=p;let⟨e,_,g⟩:=aAa l;rw[e] at q;split at h
    .rename_i r d;cases h;have d:i=[z]:=d;subst d;let⟨b,n,f⟩:=m.lst g;obtain⟨row,rfl⟩:∃row,b=[row]:=by
      match b,f with
      | [row],_=>exact⟨row,rfl⟩
     exact⟨row,⟨id2,YF c,q.mw g,n⟩,f.1⟩
    .cases h
  .cases h
 .cases h
theorem aOP[aH]{vi:Nat}{p:PSp}{vs:List TV}{aw:List AV}(G:POK T vi p)(hE:∀vi c,E.cs vi=some c->FOK P T vi c)(a3:∀sp∈E.il,IOK P T sp)(t:Qt N S st)(q:Qc S.hp vs aw)(h:aIT E n p vs S K=some r):
 ∃v L tv D,fC P T (n+1) E.fl vi aw st.heap=some (v,L)/\Qt N D ⟨st.tmps,L⟩/\Qh D.hp tv v/\K tv D=some r:=by
 unfold aIT at h;split at h
 .rename_i k;split at h
  .rename_i x f;obtain⟨b,J,rfl⟩:∃b J,aw=[b,J]:=by
    match aw,q with
    | [b,J],q=>exact⟨b,J,rfl⟩
   split at h
   .rename_i id m
    .split at h
     .cases h
     .rename_i a;have a:=Zj a;split at h
      .rename_i o d;split at h
       .rename_i k' l;split at h
        .rename_i O C;let⟨e,C⟩:=qP (F:=λk=>List<|den k) C;subst e;subst C;have X:=(Ze.1 d).1;have a2:=q.1.mw d;have Q:∀{F:den k'->den k'->Option Int} {vc:Nat} {caps:List AV},J=.fn vc caps->(∀(p q:RR k') (es:List<|List AV) (z:Int),F p.1.1 q.1.1=some z->Pe (fC P T n) vc caps (ag k') (Nm st.heap id) (OG st.heap id (cds k').length es) p.1.2 q.1.2=some z)->
          aLn F m O (λw=>K (.tup [])<|kI S id<|.lst k' w)=some r->
          ∃v L tv D,fC P T (n+1) E.fl vi [b,J] st.heap=some (v,L)/\Qt N D ⟨st.tmps,L⟩/\Qh D.hp tv v/\K tv D=some r:=by
          intro F vc caps u hF h;let⟨w,s,hw,M,h,b2⟩:=aLm h;let⟨es',e1,e2⟩:=aLq a G t d M hw a2 u hF s;have V:HM S.hp<|S.hp.set id<|.lst k'<|aT O (Ei O m).1 w:=HM.set λk2 l2 e=>by
           rw[d] at e;cases e;exact⟨k',_,rfl,b2⟩
          exact⟨_,_,.tup [],kI S id<|.lst k'<|aT O (Ei O m).1 w,e1,t.hpM V<|t.hp.set V ⟨es',rfl,e2⟩,Qh.mkT (cs:=[]) (aw:=[]) trivial,h⟩
         split at h
         .rename_i vc caps;let⟨b1,u,hq⟩:=q.2.1.inF;split at h
          .split at h
           .rename_i c I;cases b1 with
            | cons=>exact hq.elim
            | nil=>exact Q u (λp q es z R=>aMK (hE _ _ I) t X R) h
           .cases h
          .rename_i c0 r0;refine Q u (λp q es z R=>aML a3 t X hq (λe=>?_) R) h;subst e;exact hq.elim
         .cases h
        .cases h
       .cases h
      .cases h
   .cases h
  .cases h
 .rename_i k F;let⟨g,hg,G⟩:=G;split at h
  .rename_i x;obtain⟨b,rfl⟩:∃b,aw=[b]:=by
    match aw,q with
    | [b],q=>exact⟨b,rfl⟩
   split at h
   .rename_i p hx;let⟨id,l⟩:=p;obtain⟨rfl,a,d⟩:=aAa hx;let⟨_,M,h⟩:=bD h;let⟨es,g1,A⟩:=t.hp.lst d;let⟨es',Z,k2,k3⟩:=G E.fl st.heap id l es a g1 A<|Zl<|yO M;have V:HM S.hp<|S.hp.set id<|.lst k<|F l:=HM.set λk2 l2 e=>by rw[d] at e;cases e;exact⟨k,_,rfl,k3⟩
    refine⟨_,_,.tup [],kI S id<|.lst k<|F l,?_,t.hpM V<|t.hp.set V ⟨es',rfl,k2⟩,Qh.mkT (cs:=[]) (aw:=[]) trivial,h⟩;rw[fC,hg,q.1.mw d];exact Z
   .cases h
  .cases h
 .rename_i k;let⟨g,hg,G⟩:=G;split at h
  .rename_i x i y;obtain⟨b,Y,U,rfl⟩:∃b Y U,aw=[b,Y,U]:=by
    match aw,q with
    | [b,Y,U],q=>exact⟨b,Y,U,rfl⟩
   split at h
   .rename_i p hx;let⟨id,l⟩:=p;obtain⟨rfl,a,d⟩:=aAa hx;split at h
    .rename_i j hj;split at h
     .rename_i z R;let⟨l',s,h⟩:=bD h;unfold aEn at s;split at s
      .rename_i I;cases s;let⟨es,g1,A⟩:=t.hp.lst d;let⟨row,hy,B⟩:=aLT t.hp q.2.2.1 R;have Z:=G E.fl st.heap id U j.toNat es row a hy g1 (by rw[B.len,tV]) (by rw[A.len];exact I.2.1) (by rw[A.len];exact I.2.2);refine⟨.ms id (es.length+1) 0<|es.length+1,st.heap.set id<|.blk (cds k).length (es.take j.toNat++row::es.drop j.toNat),.ms id none,oL id<|kI S id<|.lst k (l.take j.toNat++z::l.drop j.toNat),?_,aAf t d λH=>⟨_,rfl,(A.take _).app ⟨B,A.drop _⟩⟩,?_,h⟩
       .rw[fC,hg,q.1.mw d,yM hj q.2.1];have e:((j.toNat:Nat):Int)=j:=X7 I.1;rw[e] at Z;simp only[Ei];have g0:l.length=es.length:=A.len.symm;rw[g0];exact Z
       .have:=Qh.ms (H:=(oL id<|kI S id<|.lst k (l.take j.toNat++z::l.drop j.toNat)).hp) id k (l.take j.toNat++z::l.drop j.toNat) (by simp[oL,kI,Zk,(Ze.1 d).1,Nt]);have M:(l.take j.toNat++z::l.drop j.toNat).length=es.length+1:=by
         have g0:es.length=l.length:=A.len;have c2:j.toNat<=l.length:=I.2.1;simp only[Zh,ZH,Yc,ZV];omega
        rw[M] at this;exact this
      .cases s
     .cases h
    .cases h
   .cases h
  .cases h
 .cases h
end
section
variable [dS]{R:Type}{H H1:TH}{A:aY}{N:Nat}{S:TS}{st:St}{P:Program}{T:List cQ}{cf:CF}{op:Hq}{K:TV->TS->Option R}{r:R}{E:XE}{n:Nat}{d:Option Nat}
theorem aCV[aH]{vi:Nat}{vs:List TV}{aw:List AV}(d:D3 P T E)(c:Qt N S st)(q:Qc S.hp vs aw)(h:(match Nat.ble E.fl S.hp.length with | true=>Cs n E.fl vi vs S K E.il | false=>none)=some r):
 ∃v b tv a,fC P T n E.fl vi aw st.heap=some (v,b)/\Qt N a ⟨st.tmps,b⟩/\Qh a.hp tv v/\K tv a=some r:=by
 split at h
 .rename_i e;exact Po (by rw[c.hp.ln];exact Zj e) c q d.il h
 .cases h
theorem aQj[aH]{pu:Bool}{vi:Nat}{f:List bB}(b:D3 P T E)(a:Qt N S st)(h:cO E n d (.call pu vi f) S K=some r): dG P (fC P T n) E.fl N (.call pu vi f) st K r:=by
 simp only[cO] at h;split at h
 .split at h
  .rename_i c l;let⟨v,tv,j,o,i⟩:=aOb (b.cs vi c l) a h;exact dG.same a j o i
  .cases h
 .split at h
  .rename_i p g;let⟨m,k,h⟩:=bD h;have e:=aIU k;subst e;exact aOP (b.pr vi p g) b.cs b.il a (j9 a f) h
  .exact aCV b a (j9 a f) h
theorem aLY{v:TV}{a:AV}(q:Qh H v a): Qh H (aPf v)<|FP a:=by
 cases v with
 | agg cs=>
  obtain⟨aw,rfl,d⟩:=q.inA;exact Qh.mkA (d.map λc b q=>by
   cases c with
   | agg cs=>obtain⟨aw,rfl,_⟩:=q.inA;exact q
   | _=>exact V3 q λcs e=>by cases e)
 | undef=>exact Qh.u _
 | _=>
  have:=V3 q (λcs e=>by cases e);cases a with
  | agg=>
   cases q with
   | p _ _ q=>cases q<;>simp_all
  | _=>exact this
theorem aOE{v:TV}{a:AV}(q:Qh H v a)(h:aJK v=true): sO a=false:=by
 cases v with
 | ptr=>rw[q.ptr1];rfl
 | pel=>let⟨_,_,_,_,_,e⟩:=q.pel1;rw[e];rfl
 | ms id m=>
  cases q with
  | p _ _ q=>cases q
  | ms=>rfl
  | msn=>rfl
 | mp=>rw[q.mp1];rfl
 | rs=>rw[q.rs1];rfl
 | rel=>rw[q.rel1];rfl
 | _=>cases h
theorem Nl: ∀{vs:List TV} {aw:List AV},Qc H vs aw->vs.any aJK=true->gJ aw=false
 | [],_,_,h=>by cases h
 | v::vs,a::aw,q,h=>by
  simp only[List.any_cons,YU] at h;simp only[gJ];rcases h with h | h
  .rw[aOE q.1 h]
  .cases sO a with
   | true=>exact Nl q.2 h
   | false=>rfl
theorem aMR[aH]{pu:Bool}{x:bB}{m:List bB}(z:D3 P T E)(b:Qt N S st)(h:cO E n d (.callv pu x m) S K=some r): dG P (fC P T n) E.fl N (.callv pu x m) st K r:=by
 have q:=b.get x;simp only[cO] at h;split at h
 .rename_i vi caps G;rw[G] at q;let⟨j,o,y⟩:=q.inF;split at h
  .split at h
   .split at h
    .rename_i c D;cases j with
     | cons=>exact y.elim
     | nil=>
      let⟨v,tv,i,s,t⟩:=aOb (z.cs vi c D) b h;refine dG.same b ?_ s t;simp only[aM,o,Wo];exact i
    .cases h
   .rename_i c0 I;unfold aOa at h;split at h
    .rename_i A;have w:=(j9 b m).app y;let⟨a,C,tv,B,i,s,t,g⟩:=Po (aw:=(m.map (aI st.tmps)++j).map FP) (by rw[b.hp.ln];exact Zf _) b (w.map λ_ _ q=>aLY q) z.il h;split at g
     .rename_i u;split at g
      .cases g
      .rename_i F;have e:=t.inL;subst e;refine dG.same (v:=.lit u) b ?_ (Qh.l _) g;simp only[aM,o,Ct,Nl w A];rw[b.hp.ln,i];cases u<;>first | rfl | exact absurd rfl (F _ _ _)
     .rename_i k l;let⟨es,H,e2⟩:=(t.pu trivial).inS;refine dG.same (v:=.sl false es) b ?_ (.p _ _<|Qp.mkS (.inr ⟨_,rfl⟩) e2) g;simp only[aM,o,Ct,Nl w A];rw[b.hp.ln,i];rcases H with⟨rfl,rfl⟩ | ⟨f,rfl⟩<;>rfl
     .cases g
    .cases h
  .let⟨v,C,tv,B,i,s⟩:=aCV z b ((j9 b m).app y) h;exact⟨v,C,tv,B,by simp only[aM,o];exact i,s⟩
 .cases h
theorem aKB[aH]{z:List Value}{a:List<|Nat×Nat}(s:Qt N S st)(h:cO E n d (.allocC z a) S K=some r): dG P cf E.fl N (.allocC z a) st K r:=by
 simp only[cO] at h;split at h
 .rename_i d';split at h
  .rename_i t;have p:∀{a:List<|Nat×Nat},aLW E d' a=true->∀c∈a,(cds<|kdL E d' c.1).length=c.2:=by
    intro a;induction a with
    | nil=>intro _ c x;cases x
    | cons c a j=>
     intro h c' m;simp only[aLW] at h;split at h
     .rename_i e;rcases ZN.1 m with rfl | m
      .exact Zc e
      .exact j h c' m
     .cases h
   let H1:TH:=S.hp++a.map λc=>qS.lst (kdL E d' c.1) [];let g:TH:=H1++[.box<|DZ S.hp.length (z.map .lit) a];have o:HM S.hp g:=λi k l u=>⟨k,l,by
    have:=(Ze.1 u).1;rw[Zo<|by simp[H1];omega,Zo this];exact u,rfl⟩
   have B:bW (Qo g) (a.map λc=>qS.lst (kdL E d' c.1) [])<|a.map λc=>dL.blk c.2 []:=by
    have:=p t;clear h t;generalize g=g at *;clear o;induction a with
    | nil=>trivial
    | cons c a j=>exact⟨⟨[],by rw[this c ZM],trivial⟩,j λc' h=>this c'<|ZQ _ h⟩
   have A:∀(b f:List<|Nat×Nat) (cs:List TV) (aw:List AV),a=b++f->Qc g cs aw->Qc g (DZ (S.hp.length+b.length) cs f) (oI (S.hp.length+b.length) aw f):=by
    intro b f;induction f generalizing b with
    | nil=>intro cs aw _ q;exact q
    | cons c f j=>
     intro cs aw e q;have w:Qh g (.ms (S.hp.length+b.length) none)<|.ms (S.hp.length+b.length) 0 0 0:=by
      refine .ms _ (kdL E d' c.1) [] ?_;rw[Zo<|by simp[H1,e],ZX<|ZY _ _,YZ,e];simp
     have:=j (b++[c]) (cs.set c.1<|.ms (S.hp.length+b.length) none) (aw.set c.1<|.ms (S.hp.length+b.length) 0 0 0) (by rw[e];simp)<|q.set c.1 w;rw[Zh,Yd] at this;exact this
   have v:=A [] a (z.map .lit) (z.map .lit) rfl<|Qc.lits z;have C:(DZ S.hp.length (z.map .lit) a).length=z.length:=by
    have:∀(a:List<|Nat×Nat) (n:Nat) (cs:List TV),(DZ n cs a).length=cs.length:=by
     intro a;induction a with
     | nil=>intro n cs;rfl
     | cons c a j=>intro n cs;simp[DZ,j]
    rw[this];simp
   have e2:st.heap.length=S.hp.length:=s.hp.ln;refine⟨.ptr (st.heap.length+a.length) 1 0 0,_,.ptr (S.hp.length+a.length) 0,⟨S.tm,g⟩,rfl,s.hpM o ?_,by rw[e2];exact .ptr _ _,h⟩;refine bW.app (bW.app (s.hp.imp λ_ _ h=>h.mono o) B) ⟨⟨oI st.heap.length (z.map .lit) a,by rw[C],by rw[e2];exact v⟩,trivial⟩
  .cases h
 .cases h
theorem QC{α:Type}{s:Nat}: ∀(n:Nat) {l:List α},l.length=n*s->(qO s n l).flatten=l/\(qO s n l).length=n/\∀e∈qO s n l,e.length=s
 | 0,l,h=>by
  rw[YQ] at h;have:=ZK.1 h;subst this;exact⟨rfl,rfl,λe h=>by cases h⟩
 | n+1,l,h=>by
  rw[Xx] at h;let⟨a,b,c⟩:=QC (s:=s) n (l:=l.drop s) (by rw[ZV];omega);refine⟨by simp only[qO,Yt,a,YT],by simp[qO,b],λe he=>?_⟩;simp only[qO] at he;rcases ZN.1 he with rfl | he
  .rw[ZH];omega
  .exact c e he
theorem aGZ{k:Nat}: ∀{cs:List<|List TV} {l:List<|den k} {es:List<|List AV},KS [] k cs=some l->bW (Qc H) cs es->Ql k l es:=U0
theorem aMy[aH]{agg:Bool}{s m:Nat}{x i:bB}(g:Qt N S st)(h:cO E n d (.index agg s m x i) S K=some r): dG P cf E.fl N (.index agg s m x i) st K r:=by
 have q:=g.get x;simp only[cO] at h;split at h
 .rename_i cs I;rw[I] at q;let⟨aw,G,y⟩:=q.inA;split at h
  .cases h
  .rename_i f;have f:=Zc f;split at h
   .cases h
   .rename_i j D;split at h
    .cases h
    .split at h
     .split at h
      .rename_i H;split at h
       .rename_i a;have a:H<m:=by simpa [YC] using a
        let⟨U,tv,v,b,T,M⟩:=VX h y;have z:gZ (aI st.tmps i)=some H:=uG D (g.get i)<|Wc _;refine dG.same g ?_ T M;simp only[aM,z,a,Zz,G];rw[Zu U];cases agg with
        | true=>simp only[Zz,Za] at b |-;rw[b]
        | false=>
         simp only[Zn,Z9] at b |-;split at b
         .rename_i V;rw[V];cases b;rfl
         .cases b
       .cases h
      .cases h
     .rename_i k _;split at h
      .split at h
       .rename_i F;have F:=Zc F;split at h
        .rename_i l B;let⟨X,C,h⟩:=bD h;let⟨R,L,W⟩:=pP C;have o:aw.length=m*s:=by rw[y.len,f]
         let⟨Z,J,Y⟩:=QC m o;have t:bW (Qc S.hp) (qO s m cs)<|qO s m aw:=by
          have:∀(m:Nat) (cs:List TV) (aw:List AV),Qc S.hp cs aw->bW (Qc S.hp) (qO s m cs) (qO s m aw):=by
           intro m;induction m with
           | zero=>intro _ _ _;trivial
           | succ m u=>intro cs aw q;exact⟨q.take s,u _ _<|q.drop s⟩
          exact this m cs aw y
         have e:Ql k l<|qO s m aw:=aGZ B t;let⟨row,Q,O⟩:=e.get L;refine dG.same (v:=.agg row) g ?_ (Qh.mkA O.c) h;have z:gZ (aI st.tmps i)=some j.toNat:=uG D (g.get i) R;have a:j.toNat<m:=by rw[<-J,e.len];exact W
         have A:∀(m:Nat) (aw:List AV) (j:Nat) (row:List AV),aw.length=m*s->(qO s m aw)[j]?=some row->(aw.drop<|j*s).take s=row/\j*s+s<=aw.length:=by
          intro m;induction m with
          | zero=>intro aw j row _ h;simp[qO] at h
          | succ m u=>
           intro aw j row f h;rw[Xx] at f;cases j with
           | zero=>simp only[qO,Zt,Za] at h;rw[YQ];exact⟨h,by omega⟩
           | succ j=>
            simp only[qO,ZL] at h;let⟨p,w⟩:=u (aw.drop s) j row (by rw[ZV];omega) h;rw[XD] at p;rw[ZV] at w;rw[Xx,Wg (j*s) s];exact⟨p,by omega⟩
         let⟨p,w⟩:=A m aw j.toNat row o Q;simp only[aM,z,a,Zz,G];rw[Zu w,p]
        .cases h
       .cases h
      .cases h
 .cases h
theorem aGW{A:aY}{a:AV}{w:Value}(h:eB A 0 a=.lit w): a=.lit w:=by
 cases a with
 | lit v=>
  have h:sP v=.lit w:=h;unfold sP at h;split at h
  .split at h
   .split at h
    .split at h
     .cases h
     .exact h
    .exact h
   .exact h
  .exact h
 | ms id tot off len=>
  simp only[eB,gF,YE,Z9,eZ,eF,ZG,Zz] at h;split at h<;>cases h
 | mp id=>
  simp only[eB,gF,YE,Z9,eZ,eF,ZG,Zz] at h;split at h<;>cases h
 | ptr=>simp[eB,gF] at h
 | fn vi caps=>cases caps<;>cases h
 | _=>cases h
theorem aOK{w k k':Nat}{u:TV}{x:den k}(b:cds k=[.sl k'])(d:ag k=false)(h:TL w H k u=some x): ∃y,T9 w H k' u=some y/\val k x=.sl k' y:=by
 unfold TL at h;rw[d] at h;have h:kA w H k [u]=some x:=h;unfold kA at h;split at h
 .rename_i p a;cases h;have c:∀(cs:List Cd) (p:OU cs),cs=[.sl k']->rdL w H cs [u]=some p->∃y,T9 w H k' u=some y/\hdT (qY cs p)=.sl k' y:=by
   intro cs p e a;subst e;simp only[rdL] at a;split at a
   .rename_i y f;cases a;exact⟨y,f,rfl⟩
   .cases a
  let⟨y,j,i⟩:=c _ p b a;refine⟨y,j,?_⟩;unfold val jX;rw[d,dS.un_pk];exact i
 .cases h
theorem aJG{s k':Nat}{u:TV}{y:List<|den k'}{p:AV}{x:List TV}{i:aY}{H':TH}(g:(cds k').length=s)(C:Qs H' i)(q:Qh H' u p)(a:PM H' (u::x)=true)(b:T9 2 H' k' u=some y): ∃rows,PA s i p=some rows/\Ql k' y rows:=by
 cases u with
 | ms id m=>
  simp only[PM] at a;split at a
  .rename_i o h;split at a
   .rename_i G f;have j:Ei f m=(0,f.length):=by
     cases m with
     | none=>rfl
     | some w=>exact Zl a
    have d:win f m=f:=by rw[TB,j];simp
    have b:Uz (λk=>List<|den k) (k':=k') f=some y:=by
     simp only[T9,h,d] at b;exact b
    let⟨e,b⟩:=qP (F:=λk=>List<|den k) b;subst e;subst b;let⟨es,A,l⟩:=C.lst h;have n:=q.mw h;rw[j] at n;subst n;refine⟨es.map λe=>e.map<|eF (i.set id<|.blk s<|es++[List.replicate s .undef]) 0 eZ,?_,(Ez _ 0 _).ls l⟩;have r:Nat.beq y.length y.length=true:=Y5 _;have B:Nat.beq es.length y.length=true:=by rw[l.len];exact r
    have t:Nat.beq s s=true:=Y5 _;have z:Nat.beq 0 0=true:=rfl;simp only[PA,r,z,A,B,g,t,Xr]
   .cases a
  .cases a
 | lit v=>
  simp only[PM] at a;split at a
  .split at a
   .split at a
    .split at a
     .rw[q.inL];cases b;exact⟨[],rfl,trivial⟩
     .cases a
    .cases a
   .cases a
  .cases a
 | _=>cases a
theorem aCb: ∀{vs:List TV} {aw:List AV} {b:aY},(vs.all λv=>match v with | .lit _=>true | _=>false)=true->Qc H vs (aw.map<|eB b 0)->aw.all aJL=true/\Qc H vs aw
 | [],[],_,_,_=>⟨rfl,trivial⟩
 | v::vs,a::aw,b,h,q=>by
  simp only[XM,Zd] at h;let⟨d,e⟩:=aCb h.2 q.2;cases v with
  | lit w=>
   have:=aGW q.1.inL;subst this;exact⟨by simp[aJL,d],Qh.l _,e⟩
  | _=>cases h.1
theorem aOs{k k':Nat}(a:cds k=[.sl k'])(b:ag k=false)(x:den k): ∃y,val k x=.sl k' y:=by
 unfold val;rw[b];unfold jX;generalize dS.un k x=p;revert p;rw[a];exact λp=>⟨p.1,rfl⟩
def kpB(kp:Bool)(kr:List Nat): Bool:=match kp with
 | false=>true
 | true=>match kr with
  | k::_=>match cds k with
   | [c]=>match c with
    | .sl _=>!(ag k)
    | _=>false
   | _=>false
  | []=>false
theorem FOK.of0[aH]{P:Program}{T:List cQ}{vi:Nat}{c:CSp}(h:aTs P T vi c)(b:kpB c.kp c.kr=true): FOK P T vi c:=by
 intro n p r i aw F;let⟨o,d,H,H',I,t,g,a,l⟩:=h n p r i aw F;refine⟨d,H,I,λH1=>(aRu a g t).1,(aRu (H1:=[]) a g t).2,λe=>?_⟩;have l:=l e;rw[e] at b;intro J y s f;clear h e i;revert r a f;generalize c.kr=A at b;intro r a f;cases A with
 | nil=>cases b
 | cons k j=>
  simp only[kpB] at b;split at b
  .rename_i c' q;split at b
   .rename_i k';have b:ag k=false:=by simpa using b
    cases o with
    | nil=>cases l
    | cons u o=>
    match d,g with
    | C::d,g=>
    replace a:Di 2 H' (.v k::j.map .v) (u::o)=some r:=a;simp only[Di] at a;split at a
    .rename_i w m;split at a
     .rename_i p' G;cases a;let⟨z,E,D⟩:=aOK q b m;let⟨rows,i,x⟩:=aJG rfl t g.1 l E;have B:Mi (.v k::j.map .v) (fP.cs w p')=.sl k' z::Mi (j.map .v) p':=by
       simp only[Mi,fP.hc,fP.tc];congr 1
      have f:Mi (.v k::j.map .v) (fP.cs w p')=.sl J y::s:=f;rw[B] at f;cases f;exact⟨C,d,rows,rfl,i,x⟩
     .cases a
    .cases a
   .cases b
  .cases b
theorem aMr[aH]{s vi k k':Nat}{j:List Nat}{M:List bB}{z:List Nat}{x:fP<|z.map .v}{c:List AV}{p:aY}(Q:Qt N S st)(C:z=k::j)(F:cds k=[.sl k'])(B:(cds k').length=s)(hg:ag k=false)(D:fC P T n 0 vi ((M.map<|aI st.tmps).map<|cJ st.heap) []=some (kC c,p))(f:∀H1:TH,Qc H1 (Mi (z.map .v) x)<|c.map<|eB p 0)(O:∀a∈c,∀l,a≠.tup l)(U:aTj p (Mi (z.map .v) x) c)(h:(match Mi (z.map .v) x with | [v]=>d8 v S K | vs=>d8 (.tup vs) S K)=some r): dG P (fC P T n) E.fl N (.callT s vi M) st K r:=by
 subst C;have f:=f S.hp;have L:Mi (.v k::j.map .v) x=val k (fP.hd x)::Mi (j.map .v) (fP.tl x):=rfl;let⟨y,Z⟩:=aOs F hg<|fP.hd x;have H:Mi (.v k::j.map .v) x=.sl k' y::Mi (j.map .v) (fP.tl x):=by rw[L,Z]
 let⟨i,w,rows,e0,G,R⟩:=U k' y _ H;subst e0;rw[B] at G;generalize a2:fP.tl x=p' at H;have f:Qc S.hp (Mi (.v k::j.map .v) x)<|(i::w).map<|eB p 0:=f;have h:(match Mi (.v k::j.map .v) x with | [v]=>d8 v S K | vs=>d8 (.tup vs) S K)=some r:=h;rw[H] at f h;revert f h O D;generalize w=c;intro D O f h;have A:∀{tv:TV} {rv:AV} (rest:AV->AV) ,Ul s st.heap (some (kC (i::c),p))=some (rest<|.ms st.heap.length rows.length 0 rows.length,st.heap++[.blk s rows])->(∀H1:TH,HM S.hp H1->Qh H1 (.ms S.hp.length none) (.ms st.heap.length rows.length 0 rows.length)->Qh H1 tv (rest<|.ms st.heap.length rows.length 0 rows.length))->K tv (Pr S<|.lst k' y)=some r->dG P (fC P T n) E.fl N (.callT s vi M) st K r:=by
  intro tv rv rest V I h;refine dG.add (o:=.lst k' y) (b:=.blk s rows) Q ?_ ⟨rows,by rw[B],R⟩ (I _ HM.add ?_) h
  .simp only[aM,D];exact V
  .rw[Q.hp.ln,R.len];exact .ms _ k' y<|by simp
 cases g:Mi (j.map .v) p' with
 | nil=>
  rw[g] at f h;have e:c=[]:=by
   cases c with
   | nil=>rfl
   | cons=>exact f.2.elim
  subst e;have ha:∀l,i≠.tup l:=O i ZM;refine A (rv:=i) (λa=>a) ?_ (λH1 _ q=>q) h;show Ul s st.heap (some (i,p))=_;cases i with
  | tup l=>exact (ha l rfl).elim
  | _=>simp only[Ul,G]
 | cons v vs=>
  rw[g] at f h;have h:d8 (.tup (.sl k' y::v::vs)) S K=some r:=h;unfold d8 at h;simp only at h;split at h
  .rename_i u;obtain⟨t,d,rfl⟩:∃t d,c=t::d:=by
    cases c with
    | nil=>exact f.2.elim
    | cons t d=>exact⟨t,d,rfl⟩
   let⟨Y,W⟩:=aCb (vs:=v::vs) (aw:=t::d) u f.2;refine A (rv:=i) (λa=>.tup (a::t::d)) ?_ (λH1 m q=>Qh.mkT (cs:=.ms S.hp.length none::v::vs) ⟨q,W.imp λ_ _ h=>h.mono m⟩) h;show Ul s st.heap (some (.tup (i::t::d),p))=_;simp only[Ul,Y,G]
  .cases h
theorem aMS[aH]{s vi:Nat}{l:List bB}(t:D3 P T E)(i:Qt N S st)(h:cO E n d (.callT s vi l) S K=some r): dG P (fC P T n) E.fl N (.callT s vi l) st K r:=by
 simp only[cO] at h;split at h
 .rename_i c w;have D:=t.cs vi c w;split at h
  .rename_i j;split at h
   .rename_i k F f;split at h
    .rename_i e g;split at h
     .rename_i k';split at h
      .rename_i a;simp only[Zd,YG] at a;have b:=Zc a.1;have y:=a.2;unfold Pn at h;split at h
       .rename_i p u;split at h
        .cases h
        .rename_i B;let⟨x,A,h⟩:=bD h;have C:=aK7 (H1:=[]) B u (j9 i l) i.hp;let⟨z,G,o,q,v,m⟩:=D n p x A _ C;exact aMr i f g b y o q v (m j)<|by rw[aFg] at h;exact h
       .cases h
      .cases h
     .cases h
    .cases h
   .cases h
  .cases h
 .cases h
end
section
variable [dS]{R:Type}{H H1:TH}{A:aY}{N:Nat}{S:TS}{st:St}{P:Program}{T:List cQ}{cf:CF}{op:Hq}{K:TV->TS->Option R}{r:R}{E:XE}{n:Nat}{d:Option Nat}
theorem aK0[aH]{vi l s bytes:Nat}{z:List Value}{G:aY}(h:getF T vi=some ⟨l,8,[.tmp 2],aK1 s bytes z⟩)(m:0<s):
 fC P T (n+1) G.length vi [.lit bM] G=some (.lit bM,G)/\(∀a,(∃f,a=.sl f [])\/a=.vw []->fC P T (n+1) G.length vi [a] G=some (.sl false [],G)) /\
 ∀a e es,((∃f,a=.sl f (e::es))\/a=.vw (e::es))->eW s (e::es)=true->lD (e::es).length bytes=true->
  fC P T (n+1) G.length vi [a] G=some (.ms G.length (e::es).length 0 (e::es).length,G++[.blk s (e::es)]):=by
 have d:Nat.blt 3 8=true:=rfl;have c:Nat.blt 4 8=true:=rfl;have i:Nat.beq G.length G.length=true:=Y5 _;refine⟨?_,?_,?_⟩
 .rw[o4 _ h];simp[d,c,aK1,eS,Kg,jF,cR,eY,aM,aI,RL,Nn,iM,Oo,aEr,lL,Ow,kC,Qi,bM,bL]
 .intro a j;rw[o4 _ h];have b:cP G.length G s bytes (.sl true []) []=some (.sl true [],G):=by simp[cP,eW,m,lD]
  rcases j with⟨f,rfl⟩ | rfl <;>
   simp[d,c,i,aK1,eS,Kg,jF,cR,eY,aM,aI,RL,Nn,iM,Oo,rd,b,aEr,lL,Ow,kC,aCm,Um,aFV,aKg,bM,bL]
 .intro a e es j p o;rw[o4 _ h];have b:cP G.length G s bytes (.sl true []) (e::es)=some (.ms G.length (e::es).length 0 (e::es).length,G++[.blk s (e::es)]):=by
   have k:eW s ([]:List<|List AV)=true:=rfl;unfold cP;have g:lD (([]:List<|List AV).length+(e::es).length) bytes=true:=by simpa using o
   rw[Zu ⟨p,m,o⟩];simp only[k,g,Y7,Zz];simp
  generalize q:(e::es).length=L at b;rcases j with⟨f,rfl⟩ | rfl <;>
   simp[d,c,aK1,eS,Kg,jF,cR,eY,aM,aI,RL,Nn,iM,Oo,rd,b,aEr,lL,Ow,kC,bM,bL]
end
section
variable [dS]{R:Type}{H H1:TH}{A:aY}{N:Nat}{S:TS}{st:St}{P:Program}{T:List cQ}{cf:CF}{op:Hq}{K:TV->TS->Option R}{r:R}{E:XE}{n:Nat}{d:Option Nat}
theorem Ql.rep{k:Nat}{x:den k}{row:List AV}(h:Qr (jX k x) row): ∀n,Ql k (List.replicate n x) (List.replicate n row)
 | 0=>trivial
 | n+1=>⟨h,Ql.rep h n⟩
theorem VA{α:Type}{x:α}{a b:Int}{l:List α}(h:rep x a b=some l): 0<=a/\a<=b/\b<=1000000/\l=List.replicate a.toNat x:=by
 unfold rep at h;split at h
 .rename_i c;cases h;exact⟨c.1,c.2.1,c.2.2,rfl⟩
 .cases h
theorem Qk[aH]{x:bB}{a:Int}(b:Qt N S st)(h:i64? (bZ S.tm x)=some a)(c:0<=a): gZ (aI st.tmps x)=some a.toNat:=by
 rw[yM h (b.get x)];simp[gZ,c]
theorem aHp[aH]{s bytes:Nat}{z:List Value}{x y:bB}(f:Qt N S st)(h:cO E n d (.mkSlice s z bytes x y) S K=some r): dG P cf E.fl N (.mkSlice s z bytes x y) st K r:=by
 have j:=f.hp.ln;simp only[cO] at h;split at h
 .rename_i c;simp only[Zd] at c;have A:=Zc c.1;have e2:=Zc c.2.1;have k:=Zj c.2.2;split at h
  .rename_i e u;have i:Qr (jX _ e) (z.map .lit):=jP (H':=S.hp) u (Qc.lits z);split at h
   .rename_i a m;split at h
    .rename_i b g;obtain⟨l,w,h⟩:=bD h;obtain⟨t,B,C,rfl⟩:=VA w;have q:=Qk f m t;have p:=Qk f g (by omega);have:=Y8 (show b.toNat<=1000000 by omega) k;refine dG.add (v:=.ms st.heap.length a.toNat 0 a.toNat) (o:=.lst (mA E d) (List.replicate a.toNat e)) (b:=.blk s (List.replicate a.toNat (z.map .lit))) f ?_ ⟨_,by rw[A],Ql.rep i _⟩ ?_ h
     .simp only[aM,q,p];rw[Zu ⟨by omega,by omega,by omega,e2⟩]
     .have:=Qh.ms (H:=S.hp++[.lst (mA E d) (List.replicate a.toNat e)]) S.hp.length (mA E d) (List.replicate a.toNat e) (by simp);rw[Yo] at this;rw[j];exact this
    .cases h
   .cases h
  .cases h
 .cases h
theorem aEg{v:TV}{a:AV}(h:PN v=true)(q:Qh H v a): a=.lit bM\/a=.sl true []:=by
 unfold PN at h;split at h
 .subst h;cases (q.pu trivial) with
  | emp _ _ h=>
   rcases h with h | h | ⟨h,_⟩
   .exact .inl h
   .exact .inr h
   .cases h
 .split at h
  .split at h
   .split at h
    .split at h
     .exact .inl q.inL
     .cases h
    .cases h
   .cases h
  .cases h
 .cases h
theorem aQi[aH]{x:bB}(a:Qt N S st)(h:cO E n d (.capS x) S K=some r): dG P cf E.fl N (.capS x) st K r:=by
 simp only[cO] at h;split at h
 .rename_i b;refine dG.same (v:=.lit (.int .i64 0)) a ?_ (Qh.l _) h;rcases aEg b (a.get x) with e | e<;>simp only[aM,e,bM]<;>rfl
 .cases h
theorem aPT[aH]{s:Nat}{x y:bB}(c:Qt N S st)(h:cO E n d (.copy s x y) S K=some r): dG P cf E.fl N (.copy s x y) st K r:=by
 have q:=c.get x;simp only[cO] at h;split at h
 .rename_i id m B;rw[B] at q;split at h
  .rename_i o i;split at h
   .rename_i k l;split at h
    .rename_i ys A;obtain⟨es,D,f⟩:=aDK A (c.get y) c.hp;split at h
     .rename_i e;simp only[Zd] at e;have p:=Zc e.1;have e2:0<s:=by simpa [YC] using e.2.1
      have j:=Zj e.2.2;obtain⟨F,a,h⟩:=bD h;unfold cpy at a;split at a
      .rename_i u;cases a;obtain⟨w,g,t⟩:=c.hp.lst i;rw[p] at g;have C:=q.mw i;refine dG.put (v:=.lit (.int .i64 ((es.length:Nat):Int))) (b:=.blk s (aT w (Ei l m).1 es)) c i (Hw u.2) ?_ ⟨_,by rw[p],t.spl f⟩ (by rw[f.len];exact Qh.l _) h;simp only[aM,D,C,g,f.all p,e2,Y7,Zz];rw[Zu ⟨trivial,t.len,by rw[f.len];exact u.1,j⟩];split
       .rename_i z;have:es=[]:=ZK.1 z;subst this;simp only[Vr,KK g];rfl
       .rfl
      .cases a
     .cases h
    .cases h
   .cases h
  .cases h
 .cases h
theorem aMO[aH]{s:Nat}{z:List Value}{x:bB}(f:Qt N S st)(h:cO E n d (.clear s z x) S K=some r): dG P cf E.fl N (.clear s z x) st K r:=by
 have q:=f.get x;have y:Qh S.hp (.tup []) (.tup []):=Qh.mkT (cs:=[]) trivial;simp only[cO] at h;split at h
 .rename_i id m G;rw[G] at q;split at h
  .rename_i o j;split at h
   .rename_i k l;split at h
    .rename_i A H;have g:Qr (jX _ A) (z.map .lit):=jP (H':=S.hp) H (Qc.lits z);split at h
     .rename_i c;simp only[Zd] at c;have u:=Zc c.1;have e2:0<s:=by simpa [YC] using c.2.1
      have i:=Zj c.2.2.1;have F:=Zc c.2.2.2;obtain⟨J,a,h⟩:=bD h;unfold clr at a;split at a
      .rename_i w;cases a;obtain⟨B,p,t⟩:=f.hp.lst j;rw[u] at p;have I:=q.mw j;refine dG.put (v:=.tup []) (b:=.blk s (aT B (Ei l m).1 (List.replicate (Ei l m).2 (z.map .lit)))) f j (Hw (by rw[Yo];exact w)) ?_ ⟨_,by rw[u],t.spl (Ql.rep g _)⟩ (Qh.mkT (cs:=[]) trivial) h;simp only[aM,I,p];rw[Zu ⟨trivial,t.len,w,i,e2,F⟩];split
       .rename_i D;simp only[D,List.replicate_zero,Vr,KK p]
       .rfl
      .cases a
     .cases h
    .cases h
   .cases h
  .cases h
 .split at h
  .rename_i C;refine dG.same (v:=.tup []) f ?_ y h;rcases aEg C q with e | e<;>simp only[aM,e,bM]
  .cases h
theorem aHL[aH]{s bytes:Nat}{z:List Value}{x m:bB}(f:Qt N S st)(h:cO E n d (.appendZ s bytes z x m) S K=some r): dG P cf E.fl N (.appendZ s bytes z x m) st K r:=by
 have q:=f.get x;have G:=f.hp.ln;simp only[cO] at h;split at h
 .rename_i B;have c:=aEg B q;split at h
  .rename_i e;simp only[Zd] at e;have w:=Zc e.1;have e2:0<s:=by simpa [YC] using e.2.1
   have A:=Zc e.2.2.1;have t:=Zj e.2.2.2;split at h
   .rename_i g C;have k:Qr (jX _ g) (z.map .lit):=jP (H':=S.hp) C (Qc.lits z);split at h
    .rename_i a J;obtain⟨l,L,h⟩:=bD h;obtain⟨I,M,Q,rfl⟩:=VA L;have F:=Qk f J I;have O:=Y8 (show a.toNat<=1000000 by omega) t;have p:lD a.toNat bytes=true:=tR (by omega) t;have u:eW s (List.replicate a.toNat (z.map AV.lit))=true:=(Ql.rep k a.toNat).all w;have ev:aM P cf E.fl (.appendZ s bytes z x m) st.tmps st.heap=cP E.fl st.heap s bytes (aI st.tmps x) (List.replicate a.toNat (z.map .lit)):=by
      simp only[aM,F];rw[Zu ⟨A,by omega,by omega⟩]
     rcases v6 h with⟨i,h⟩ | ⟨i,h⟩
     .have D:a.toNat=0:=by simpa using i
      refine dG.same f ?_ q h;rw[ev,D];rcases c with c | c<;>rw[c]<;>simp[cP,eW,e2,lD,bM]
     .have y:a.toNat≠0:=by simpa using i
      refine dG.add (v:=.ms st.heap.length a.toNat 0 a.toNat) (o:=.lst (mA E d) (List.replicate a.toNat g)) (b:=.blk s (List.replicate a.toNat (z.map .lit))) f ?_ ⟨_,by rw[w],Ql.rep k _⟩ ?_ h
      .rw[ev];rcases c with c | c<;>rw[c]
       .simp[cP,bM,u,e2,p,y]
       .have j:eW s ([]:List (List AV))=true:=rfl;unfold cP;simp only[u,e2,p,y,j,Y7,Zz,Z9,Z1,Z0,Xt,Yo]
      .have:=Qh.ms (H:=S.hp++[.lst (mA E d) (List.replicate a.toNat g)]) S.hp.length (mA E d) (List.replicate a.toNat g) (by simp);rw[Yo] at this;rw[G];exact this
    .cases h
   .cases h
  .cases h
 .split at h
  .rename_i id w hx;rw[hx] at q;split at h
   .split at h
    .rename_i o ho;split at h
     .rename_i k l;split at h
      .rename_i hk;simp only[Zd] at hk
       have e1:=Zc hk.1
       have e2:0<s:=by simpa [YC] using hk.2.1
       have hfl:=Zj hk.2.2.1
       have e3:=Zc hk.2.2.2.1
       have hb:=Zj hk.2.2.2.2
       split at h
       .rename_i z' hz
        have hq':Qr (jX _ z') (z.map .lit):=jP (H':=S.hp) hz (Qc.lits z)
        split at h
        .rename_i a ha
         obtain⟨y,hr,h⟩:=bD h
         obtain⟨c1,c2,c3,rfl⟩:=VA hr
         obtain⟨l',hl',h⟩:=bD h
         obtain⟨e4,hle⟩:=Pq hl'
         subst e4
         have k1:=Qk f ha c1
         have O:=Y8 (show a.toNat<=1000000 by omega) hb
         obtain⟨bs,g1,g2⟩:=f.hp.lst ho
         rw[e1] at g1
         have hq:=q.mw ho
         have hA:eW s (List.replicate a.toNat (z.map AV.lit))=true:=(Ql.rep hq' a.toNat).all e1
         rw[Yo] at hle
         have he:=y7 (fl:=E.fl) (bytes:=bytes) (tot:=l.length) (ys:=List.replicate a.toNat (z.map AV.lit)) g1 g2.len hA e2 (tR (by rw[Yo];omega) hb) (tR (by rw[Yo];omega) hb) hfl
         refine⟨.ms id (l.length+a.toNat) 0 (l.length+a.toNat),st.heap.set id (.blk s (bs++List.replicate a.toNat (z.map .lit))),.ms id none,oL id (kI S id (.lst k (l++List.replicate a.toNat z'))),?_,aAf f ho λH=>⟨_,by rw[e1],g2.app (Ql.rep hq' a.toNat)⟩,?_,h⟩
         .simp only[aM,k1,hq];rw[Zu ⟨e3,by omega,by omega⟩];simpa[Ei] using he
         .have:=Qh.ms (H:=(oL id (kI S id (.lst k (l++List.replicate a.toNat z')))).hp) id k (l++List.replicate a.toNat z') (by simp[oL,kI,Zk,(Ze.1 ho).1,Nt]);rw[Zh,Yo] at this;exact this
        .cases h
       .cases h
      .cases h
     .cases h
    .cases h
   .cases h
  .cases h
theorem aOG{k:Nat}{v:TV}{l:List (den k)}{a:AV}(h:rdX [] k v=some l)(q:Qh H v a): Qh ([]:TH) v a:=by
 cases v with
 | sl k l=>exact .p _ _ (q.pu trivial)
 | emp b=>exact .p _ _ (q.pu trivial)
 | vw k l=>exact .p _ _ (q.pu trivial)
 | lit v=>rw[q.inL];exact Qh.l _
 | ms id m=>simp[rdX,T9] at h
 | _=>cases h
theorem aMT[aH]{vi:Nat}{s:List bB}(H:D3 P T E)(g:Qt N S st)(h:cO E n d (.callF vi s) S K=some r): dG P (fC P T n) E.fl N (.callF vi s) st K r:=by
 have q:=j9 g s;simp only[cO] at h;split at h
 .rename_i p M;split at h
  .rename_i k;obtain⟨a1,bytes,z,V,h0,R⟩:=H.pr vi _ M;unfold aSA at h;split at h
   .rename_i x O;rw[O] at q;split at h
    .rename_i l I;obtain⟨a,y⟩:∃a,s.map (aI st.tmps)=[a]:=by
      cases u:s.map (aI st.tmps) with
      | nil=>rw[u] at q;exact q.elim
      | cons a t=>rw[u] at q;cases t with
       | nil=>exact⟨a,rfl⟩
       | cons _ _=>exact q.2.elim
     rw[y] at q;obtain⟨m,hm,h⟩:=bD h;have e:=aIU hm;subst e;obtain⟨W,e2,e3⟩:=aK0 (P:=P) (n:=m) (G:=st.heap) V h0;have ev:aM P (fC P T (m+1)) E.fl (.callF vi s) st.tmps st.heap=fC P T (m+1) st.heap.length vi [a] st.heap:=by simp only[aM,y]
     have D:∃es,(a=.lit bM/\es=[]\/(∃f,a=.sl f es)\/a=.vw es)/\Ql k l es:=by
      rcases FG (A:=[]) I (aOG I q.1) (λ_=>trivial) with⟨es,i,w⟩ | ⟨_,es,i,w⟩ | ⟨_,id,tot,o,n,es,e,i,_⟩
      .exact⟨es,i.imp (λh=>h) .inl,w⟩
      .exact⟨es,i,w⟩
      .subst e;simp[rd] at i
     obtain⟨es,c,j⟩:=D;rcases v6 h with⟨F,h⟩ | ⟨F,h⟩
     .have:l=[]:=by simpa using F
      subst this;have:es=[]:=ZK.1 j.len;subst this;rcases c with⟨c,_⟩ | c
      .refine dG.same (v:=.lit bM) g ?_ (.p _ _ (.emp _ _ (.inl rfl))) h;rw[ev,c];exact W
      .refine dG.same (v:=.sl false []) g ?_ (.p _ _ (.emp _ _ (.inr (.inr ⟨rfl,rfl⟩)))) h;rw[ev];exact e2 a c
     .obtain⟨C,B,L⟩:=bD h;clear h;obtain⟨J,X⟩:=Pq B;rw[Xt] at J;subst J;cases es with
      | nil=>
       have:C=[]:=ZK.1 j.len.symm;subst this;cases F
      | cons e es=>
       have y:(∃f,a=.sl f (e::es))\/a=.vw (e::es):=by
        rcases c with⟨_,c⟩ | c
        .cases c
        .exact c
       have g3:=e3 a e es y (j.all rfl) (tR (by rw[j.len];simpa using X) R);refine dG.add (v:=.ms st.heap.length (e::es).length 0 (e::es).length) (o:=.lst k C) (b:=.blk (cds k).length (e::es)) g (by rw[ev];exact g3) ⟨_,rfl,j⟩ ?_ L;rw[g.hp.ln,j.len];exact .ms _ k C (by simp)
    .cases h
   .cases h
  .cases h
 .obtain⟨v,Q,tv,S',i,w,U,Y⟩:=Po (by rw[g.hp.ln];exact Zf _) g q H.il h;exact⟨v,Q,tv,S',by simp only[aM];rw[g.hp.ln];exact i,w,U,Y⟩
theorem aMe[aH]{m k:Nat}{x:bB}(u:Qt N S st)(h:cO E n d (.loadF m k x) S K=some r): dG P cf E.fl N (.loadF m k x) st K r:=by
 have q:=u.get x;simp only[cO] at h;split at h
 .rename_i id off j;rw[j] at q;split at h
  .split at h
   .rename_i o z;split at h
    .rename_i cs;split at h
     .rename_i e
      have e:=Zc e
      obtain⟨aw,p,b⟩:=u.hp.box z
      have w:eD st.heap (aI st.tmps x) m=some aw:=by
       have B:=b.len
       rw[q.ptr1];simp[eD,p,e,B];exact ZW (Nat.le_of_eq (B.trans e))
      split at h
      .rename_i v y
       obtain⟨a,i,g⟩:=b.get y
       split at h
       .rename_i f c
        split at h
        .rename_i C
         have C:=Zj C
         split at h
         .rename_i D
          split at h
          .rename_i kk l
           obtain⟨es,F,G⟩:=u.hp.lst D
           have s:=GB u (Ze.1 D).1 (.blk (cds kk).length (es++[List.replicate (cds kk).length .undef]))
           have T:=g.mw D
           refine⟨.agg (aw.set k (.sl false (((es.drop (Ei l c).1).take (Ei l c).2).map λe=>e.map Ed))),_,_,_,?_,s,Qh.mkA (bW.set (b.mapL λ_ _ q=>Fd aGe q) k (.p _ _ (Qp.mkS (.inr ⟨_,rfl⟩) (uD.ls (by rw[TB];exact (G.drop _).take _))))),h⟩
           simp only[aM,w,i,T,C,Zz,F,G.len]
          .cases h
         .cases h
        .cases h
       .refine dG.same u ?_ (Qh.mkA b) h
        cases g.pu trivial with
        | emp b a c=>rcases c with rfl | rfl | ⟨_,rfl⟩<;>simp only[aM,w,i]
       .have e:=g.inL;subst e;refine dG.same u ?_ (Qh.mkA b) h;simp only[aM,w,i]
       .cases h
      .cases h
     .cases h
    .cases h
   .cases h
  .cases h
 .cases h
end
end
end Go.Proofs.YtabioopnpgiijaaGreatDoor.Av
