/- A part of the proof of a law on transactions. -/
import Derived.Test.YtglfoebmkbglgaaGreatDoorP4
set_option maxRecDepth 100000
set_option maxHeartbeats 4000000
set_option linter.all false
namespace Go.Proofs.YtglfoebmkbglgaaGreatDoor.Av
open Go
section
open iW (den cds ag)
section
variable [dQ]{R:Type}{H H1:TH}{A:aY}{N:Nat}{S:TS}{st:St}{P:Program}{T:List cS}{cf:CF}{op:Ia}{K:TV->TS->Option R}{r:R}{E:XE}{n:Nat}{d:Option Nat}
theorem aB0{v:TV}{a:AV}(q:Qh H v a)(hv:∀cs,v≠.agg cs): Qh H (aHy v) (nrm a):=by
 cases v with
 | lit u=>
  have e:=q.inL
  subst e
  cases u with
  | slice o l c=>
   cases o with
   | some o=>exact Qh.u _
   | none=>
    cases l with
    | succ l=>exact Qh.u _
    | zero=>
     cases c with
     | succ c=>exact Qh.u _
     | zero=>exact .p _ _ (.emp _ _ (.inr (.inr ⟨rfl,rfl⟩)))
  | _=>exact q
 | emp b=>
  cases (q.pu trivial) with
  | emp _ _ h=>rcases h with rfl | rfl | ⟨_,rfl⟩<;>exact .p _ _ (.emp _ _ (.inr (.inr ⟨rfl,rfl⟩)))
 | sl k l=>
  obtain⟨es,h1,h2⟩:=(q.pu trivial).inS
  rcases h1 with⟨rfl,rfl⟩ | ⟨f,rfl⟩<;>exact .p _ _ (Qp.mkS (.inr ⟨_,rfl⟩) h2)
 | vw k l=>
  obtain⟨es,h1,h2⟩:=(q.pu trivial).inV
  rcases h1 with⟨rfl,rfl⟩ | ⟨f,rfl⟩ | rfl
  .exact .p _ _ (Qp.mkV (.inr (.inl ⟨_,rfl⟩)) h2)
  .exact .p _ _ (Qp.mkV (.inr (.inl ⟨_,rfl⟩)) h2)
  .exact q
 | undef=>exact Qh.u _
 | agg cs=>exact (hv cs rfl).elim
 | rptr cs=>obtain⟨aw,rfl,_⟩:=(q.pu trivial).inR;exact q
 | sptr k x=>obtain⟨aw,rfl,_⟩:=(q.pu trivial).inP;exact q
 | ptr=>have e:=q.ptr1;subst e;exact q
 | pel=>obtain⟨_,_,_,_,_,e⟩:=q.pel1;subst e;exact q
 | fn vi cs=>obtain⟨aw,rfl,_⟩:=q.inF;exact q
 | tup cs=>obtain⟨aw,rfl,_⟩:=q.inT;exact q
 | rmp=>
  obtain⟨rows,h1,_⟩:=(q.pu trivial).inM
  rcases h1 with⟨rfl,_⟩ | rfl<;>exact q
 | rs=>have e:=q.rs1;subst e;exact q
 | rel=>have e:=q.rel1;subst e;exact q
 | ms id m=>
  cases q with
  | p _ _ q=>cases q
  | ms _ k l h=>exact .ms _ k l h
  | msn _ n k l h=>exact .msn _ n k l h
 | mp=>cases q with
  | p _ _ q=>cases q
  | mp=>exact .mp _
 | it=>cases q with
  | p _ _ q=>cases q
  | it=>exact .it _
theorem aTJ[aG]{x:bC}(hs:Qt N S st)(h:cT E n d (.mov x) S K=some r): dG P cf E.fl N (.mov x) st K r:=dG.same hs rfl (hs.get x) h
theorem aQS[aG]{c x y:bC}(hs:Qt N S st)(h:cT E n d (.pick c x y) S K=some r): dG P cf E.fl N (.pick c x y) st K r:=by
 have q:=hs.get c
 simp only[cT] at h
 split at h
 .rename_i u hu
  rw[hu] at q
  have e:=q.inL
  split at h
  .rename_i b
   cases b with
   | true=>exact dG.same hs (by simp only[aQ,e,Zy]) (hs.get x) h
   | false=>exact dG.same hs (by simp only[aQ,e];rfl) (hs.get y) h
  .cases h
 .cases h
theorem aPd[aG]{z:List Value}(hs:Qt N S st)(h:cT E n d (.alloc z) S K=some r): dG P cf E.fl N (.alloc z) st K r:=by
 have hl:=hs.hp.ln
 exact dG.add (v:=.ptr st.heap.length 1 0 0) (o:=.box (z.map .lit)) (b:=.blk z.length [z.map .lit]) hs rfl ⟨z.map .lit,by simp,Qc.lits z⟩ (by rw[hl];exact .ptr _ _) h
theorem aOM[aG]{s:Nat}(hs:Qt N S st)(h:cT E n d (.claim s) S K=some r): dG P cf E.fl N (.claim s) st K r:=by
 have hl:=hs.hp.ln
 simp only[cT] at h
 split at h
 .rename_i e
  have e:=Zc e
  exact dG.add (v:=.ms st.heap.length 0 0 0) (o:=.lst (lV E d) []) (b:=.blk s []) hs rfl ⟨[],by rw[e],trivial⟩ (by rw[hl];exact .ms _ (lV E d) [] (by simp)) h
 .cases h
theorem aU4[aG]{x:bC}(hs:Qt N S st)(h:cT E n d (.box x) S K=some r): dG P cf E.fl N (.box x) st K r:=by
 have hl:=hs.hp.ln
 simp only[cT] at h
 split at h
 .rename_i cs hcs
  obtain⟨aw,h1,h2⟩:=Sl hcs (hs.get x)
  exact dG.add (v:=.ptr st.heap.length 1 0 0) (o:=.box cs) (b:=.blk aw.length [aw]) hs (by simp only[aQ,h1]) ⟨aw,by rw[h2.len],h2.imp λ_ _ h=>h.mono HM.add⟩ (by rw[hl];exact .ptr _ _) h
 .cases h
theorem aEd[aG](hs:Qt N S st): ∀{ps:List (Nat×Nat×bC)} {cs cs':List TV} {aw:List AV},aHN cs (ps.map λ(o,s,x)=>(o,s,cE S.tm x))=some cs'->Qc S.hp cs aw->
 ∃aw',TG aw (ps.map λ(o,s,x)=>(o,s,aH st.tmps x))=some aw'/\Qc S.hp cs' aw'
 | [],cs,cs',aw,h,q=>by cases h;exact⟨aw,rfl,q⟩
 | (o,s,x)::ps,cs,cs',aw,h,q=>by
  simp only[ZH,aHN] at h
  split at h
  .cases h
  .rename_i vs hvs
   obtain⟨bs,h1,h2⟩:=Sl hvs (hs.get x)
   split at h
   .rename_i e
    have e:=Zc e
    split at h
    .rename_i e2
     have e2:=Zn e2
     obtain⟨aw',g1,g2⟩:=aEd hs h (q.spl h2)
     refine⟨aw',?_,g2⟩
     simp only[ZH,TG,h1]
     rw[Zu ⟨by rw[h2.len,e],by rw[q.len];exact e2⟩]
     exact g1
    .cases h
   .cases h
theorem aOT[aG]{z:List Value}{ps:List (Nat×Nat×bC)}(hs:Qt N S st)(h:cT E n d (.build z ps) S K=some r): dG P cf E.fl N (.build z ps) st K r:=by
 simp only[cT] at h
 split at h
 .rename_i cs hcs
  obtain⟨aw,h1,h2⟩:=aEd hs hcs (Qc.lits z)
  exact dG.same hs (by simp only[aQ,h1]) (Qh.mkA h2) h
 .cases h
theorem aEe[aG]{s:Nat}(hs:Qt N S st): ∀{ps:List (Nat×bC)} {cs cs':List (List TV)} {aw:List (List AV)},aHO s cs (ps.map λ(i,x)=>(i,cE S.tm x))=some cs'->cA (Qc S.hp) cs aw->
 ∃aw',Pp s aw (ps.map λ(i,x)=>(i,aH st.tmps x))=some aw'/\cA (Qc S.hp) cs' aw'/\cs'.length=cs.length
 | [],cs,cs',aw,h,q=>by cases h;exact⟨aw,rfl,q,rfl⟩
 | (i,x)::ps,cs,cs',aw,h,q=>by
  simp only[ZH,aHO] at h
  split at h
  .cases h
  .rename_i vs hvs
   obtain⟨bs,h1,h2⟩:=Sl hvs (hs.get x)
   split at h
   .rename_i e
    have e:=Zc e
    split at h
    .rename_i e2
     have e2:i<cs.length:=by simpa [YF] using e2
     obtain⟨aw',g1,g2,g3⟩:=aEe hs h (q.set i h2)
     refine⟨aw',?_,g2,by rw[g3];simp⟩
     simp only[ZH,Pp,h1]
     rw[Zu ⟨by rw[h2.len,e],by rw[q.len];exact e2⟩]
     exact g1
    .cases h
   .cases h
theorem aJy[aG]{pu:Bool}{s m:Nat}{z:List Value}{ps:List (Nat×bC)}(hs:Qt N S st)(h:cT E n d (.buildSl pu s m z ps) S K=some r): dG P cf E.fl N (.buildSl pu s m z ps) st K r:=by
 have hl:=hs.hp.ln
 simp only[cT] at h
 split at h
 .rename_i es hes
  obtain⟨aw,h1,h2,h3⟩:=aEe hs hes (cA.rep (Qc.lits z) m)
  split at h
  .split at h
   .cases h
   .exact dG.add (v:=.ms st.heap.length m 0 m) (o:=.rows s es) (b:=.blk s aw) hs (by simp only[aQ,h1,Zm,Z4]) ⟨aw,rfl,h2.imp λ_ _ h=>h.imp λ_ _ h=>h.mono HM.add⟩ (by rw[hl];exact .rs _ _) h
  split at h
  .rename_i l hrow
   have hq:=aBk hrow h2
   split at h
   .rename_i e
    have e:=Zc e
    have hm:l.length=m:=by rw[<-hq.len,h2.len,h3];simp
    cases pu with
    | true=>
     simp only at h
     have he:aQ P cf E.fl (.buildSl true s m z ps) st.tmps st.heap=some (.sl true (aw.map λe=>e.map Ek),st.heap):=by simp only[aQ,h1,Zy]
     split at h
     .cases aw with
      | nil=>exact dG.same hs he (.p _ _ (.emp _ _ (.inr (.inl rfl)))) h
      | cons=>exact h2.elim
     .exact dG.same hs he (.p _ _ (Qp.mkS (.inr ⟨_,rfl⟩) (xT.ls hq))) h
    | false=>
     exact dG.add (v:=.ms st.heap.length m 0 m) (o:=.lst (lV E d) l) (b:=.blk s aw) hs (by simp only[aQ,h1,Zm,Z4]) ⟨aw,by rw[e],hq⟩ (by rw[hl,<-hm];exact .ms _ (lV E d) l (by simp)) h
   .cases h
  .cases h
 .cases h
theorem aFJ[aG]{x:bC}(hs:Qt N S st)(h:cT E n d (.nilCheck x) S K=some r): dG P cf E.fl N (.nilCheck x) st K r:=by
 have q:=hs.get x
 simp only[cT] at h
 split at h
 .rename_i hx;rw[hx] at q;exact dG.same hs (by simp only[aQ,q.ptr1]) (q.ptr1▸q) h
 .rename_i hx;rw[hx] at q;obtain⟨_,_,_,_,_,e⟩:=q.pel1;exact dG.same hs (by simp only[aQ,e]) (e▸q) h
 .rename_i hx;rw[hx] at q;obtain⟨aw,e,_⟩:=(q.pu trivial).inR;exact dG.same hs (by simp only[aQ,e]) (e▸q) h
 .rename_i hx;rw[hx] at q;obtain⟨aw,e,_⟩:=(q.pu trivial).inP;exact dG.same hs (by simp only[aQ,e]) (e▸q) h
 .rename_i hx;rw[hx] at q;obtain⟨aw,e,_⟩:=q.inF;exact dG.same hs (by simp only[aQ,e]) (e▸q) h
 .cases h
theorem aRw{o:BinOp}{k:IntKind}{a b:Int}{K:TV->Option R}(h:aTU o k a b K=some r): ∃v tv,aAs o k a b=some v/\Qh H tv (.lit v)/\K tv=some r:=by
 have key:∀{c:Bool},Nh (.lit (.bool c)) K=some r->∃v tv,some (Value.bool c)=some v/\Qh H tv (.lit v)/\K tv=some r:=by
  intro c h
  obtain⟨v',h1,h2⟩:=HH h (Qh.l (H:=H) (.bool c))
  exact⟨_,v',rfl,h1,h2⟩
 cases o with
 | add=>exact⟨_,_,rfl,Qh.l _,h⟩
 | sub=>exact⟨_,_,rfl,Qh.l _,h⟩
 | mul=>exact⟨_,_,rfl,Qh.l _,h⟩
 | eql=>exact key h
 | neq=>exact key h
 | lss=>exact key h
 | leq=>exact key h
 | gtr=>exact key h
 | geq=>exact key h
 | _=>cases h
theorem aRy[aG]{o:BinOp}{x y:bC}(hs:Qt N S st)(h:cT E n d (.ibin o x y) S K=some r): dG P cf E.fl N (.ibin o x y) st K r:=by
 have q:=hs.get x
 have q2:=hs.get y
 simp only[cT] at h
 split at h
 .rename_i u hu
  rw[hu] at q
  split at h
  .rename_i k a
   split at h
   .rename_i w hw
    rw[hw] at q2
    split at h
    .rename_i k' b
     split at h
     .rename_i e _
      subst e
      obtain⟨v,tv,h1,h2,h3⟩:=aRw h
      exact dG.same hs (by simp only[aQ,q.inL,q2.inL,Zy,h1]) h2 h3
     .cases h
    .cases h
   .cases h
  .cases h
 .cases h
theorem aVN[aG]{o:UnOp}{x:bC}(hs:Qt N S st)(h:cT E n d (.un o x) S K=some r): dG P cf E.fl N (.un o x) st K r:=by
 have q:=hs.get x
 simp only[cT] at h
 split at h
 all_goals first | cases h | skip
 all_goals
  split at h
  .rename_i u hu
   rw[hu] at q
   split at h
   .exact dG.same hs (by simp only[aQ,q.inL];rfl) (Qh.l _) h
   .cases h
  .cases h
theorem aEg[aG]{o:Nat}{x:bC}(hs:Qt N S st)(h:cT E n d (.fieldAddr o x) S K=some r): dG P cf E.fl N (.fieldAddr o x) st K r:=by
 have q:=hs.get x
 simp only[cT] at h
 split at h
 .rename_i hx;rw[hx] at q;exact dG.same hs (by simp only[aQ,q.ptr1]) (.ptr _ _) h
 .rename_i hx;rw[hx] at q;obtain⟨k,l,h1,h2,h3,e⟩:=q.pel1;exact dG.same hs (by simp only[aQ,e]) (.pel _ _ _ k l h1 h2 h3) h
 .rename_i hx;rw[hx] at q;obtain⟨aw,e,h2⟩:=(q.pu trivial).inR;exact dG.same hs (by simp only[aQ,e]) (.p _ _ (Qp.mkR (h2.drop _))) h
 .rename_i hx;rw[hx] at q;obtain⟨aw,e,h2⟩:=(q.pu trivial).inP;exact dG.same hs (by simp only[aQ,e]) (.p _ _ (Qp.mkR (h2.drop _))) h
 .rename_i hx;rw[hx] at q;exact dG.same hs (by simp only[aQ,q.rel1]) (.rel _ _ _ _) h
 .cases h
theorem aO1[aG]{agg:Bool}{m o:Nat}{x:bC}(hs:Qt N S st)(h:cT E n d (.field agg m o x) S K=some r): dG P cf E.fl N (.field agg m o x) st K r:=by
 have q:=hs.get x
 simp only[cT] at h
 split at h
 .rename_i cs hx
  rw[hx] at q
  obtain⟨aw,ha,qc⟩:=q.inA
  obtain⟨h1,tv,v,h2,h3,h4⟩:=A4 h qc
  refine dG.same hs ?_ h3 h4
  simp only[aQ,ha,h1,Zy]
  cases agg with
  | true=>simp only[Zy,Zb] at h2 |-;rw[h2]
  | false=>
   simp only[Zm,Z4] at h2 |-
   split at h2
   .rename_i hc;rw[hc];cases h2;rfl
   .cases h2
 .cases h
theorem tK{v:TV}{a:AV}{i:Int}(h:aHF v=some i)(q:Qh H v a)(hi:0<=i): gV a=some i.toNat:=by
 unfold aHF at h
 split at h
 .cases h
  rw[q.inL]
  simp[gV,hi]
 .cases h
theorem aJd[aG]{s:Nat}{x i:bC}(hs:Qt N S st)(h:cT E n d (.idxAddr s x i) S K=some r): dG P cf E.fl N (.idxAddr s x i) st K r:=by
 have q:=hs.get x
 have q2:=hs.get i
 simp only[cT] at h
 split at h
 .rename_i j hj
  split at h
  .rename_i k l hx
   rw[hx] at q
   split at h
   .rename_i e
    have e:=Zc e
    obtain⟨y,hy,h⟩:=bF h
    obtain⟨g1,g2,_⟩:=pO hy
    obtain⟨es,h1,h2⟩:=(q.pu trivial).inS
    obtain⟨e1,he,hr⟩:=h2.get g2
    rcases h1 with⟨_,rfl⟩ | ⟨f,ha⟩
    .simp at he
    .refine dG.same hs ?_ (.p _ _ (Qp.mkR hr)) h
     simp only[aQ,tK hj q2 g1,ha,he]
     rw[Zu (by rw[hr.len,sY,e])]
   .cases h
  .rename_i k l hx
   rw[hx] at q
   split at h
   .rename_i e
    have e:=Zc e
    obtain⟨y,hy,h⟩:=bF h
    obtain⟨g1,g2,_⟩:=pO hy
    obtain⟨es,h1,h2⟩:=(q.pu trivial).inV
    obtain⟨e1,he,hr⟩:=h2.get g2
    rcases h1 with⟨_,rfl⟩ | ⟨f,ha⟩ | ha
    .simp at he
    .refine dG.same hs ?_ (.p _ _ (Qp.mkR hr)) h
     simp only[aQ,tK hj q2 g1,ha,he]
     rw[Zu (by rw[hr.len,sY,e])]
    .refine dG.same hs ?_ (.p _ _ (Qp.mkR hr)) h
     simp only[aQ,tK hj q2 g1,ha,he]
     rw[Zu (by rw[hr.len,sY,e])]
   .cases h
  .rename_i id m hx
   rw[hx] at q
   split at h
   .rename_i o ho
    split at h
    .rename_i k l
     split at h
     .rename_i e
      have e:=Zc e
      obtain⟨es,h1,h2⟩:=hs.hp.lst ho
      have hq:=q.mw ho
      split at h
      .obtain⟨y,hy,h⟩:=bF h
       obtain⟨g1,g2,g3,g4⟩:=aJc hy
       refine dG.same hs ?_ (.pel id j 0 k l ho g1 g4) h
       simp only[aQ,tK hj q2 g1,hq,h1,Kj]
       rw[Zu ⟨e,h2.len,g2⟩,ZZ]
      .rename_i w
       obtain⟨y,hy,h⟩:=bF h
       obtain⟨g1,g2,g3⟩:=pO hy
       simp only[win,ZK,ZX] at g3
       have g4:(j+((w.1:Nat):Int)).toNat=w.1+j.toNat:=by omega
       refine dG.same (v:=.ptr id l.length (w.1+j.toNat) 0) hs ?_ (by rw[<-g4];exact .pel id _ 0 k l ho (by omega) (by omega)) h
       simp only[aQ,tK hj q2 g1,hq,h1,Kj]
       rw[Zu ⟨e,h2.len,by omega⟩]
     .cases h
    .cases h
   .cases h
  .rename_i id m hx
   rw[hx] at q
   split at h
   .rename_i i0
    split at h
    .rename_i o ho
     split at h
     .split at h
      .rename_i e
       simp only[Zd] at e
       have e1:=Zc e.1
       have e2:=Zc e.2.1
       have e3:i0<m:=by simpa [YF] using e.2.2
       obtain⟨b,hb,aw,rfl,qa⟩:=hs.hp.get ho
       refine dG.same hs ?_ (.rel id m i0 0) h
       have hi:gV (aH st.tmps i)=some i0:=tK hj q2 (Wf _)
       simp only[aQ,hi,q.rs1,hb]
       rw[Zu ⟨e1,by rw[qa.len,e2],e3⟩,ZZ]
      .cases h
     .cases h
    .cases h
   .cases h
  .cases h
 .cases h
theorem aRn[aG]{x:bC}(hs:Qt N S st)(h:cT E n d (.lenS x) S K=some r): dG P cf E.fl N (.lenS x) st K r:=by
 have q:=hs.get x
 simp only[cT] at h
 split at h
 .rename_i m hm
  refine dG.same hs ?_ (Qh.l _) h
  generalize cE S.tm x=v at hm q
  generalize hb:aH st.tmps x=a at q
  cases v with
  | sl k l=>
   cases hm
   obtain⟨es,h1,h2⟩:=(q.pu trivial).inS
   rw[<-h2.len]
   rcases h1 with⟨rfl,rfl⟩ | ⟨f,rfl⟩<;>simp only[aQ,hb]<;>rfl
  | vw k l=>
   cases hm
   obtain⟨es,h1,h2⟩:=(q.pu trivial).inV
   rw[<-h2.len]
   rcases h1 with⟨rfl,rfl⟩ | ⟨f,rfl⟩ | rfl<;>simp only[aQ,hb]<;>rfl
  | emp b=>
   cases hm
   cases (q.pu trivial) with
   | emp _ _ h=>rcases h with rfl | rfl | ⟨_,rfl⟩<;>simp only[aQ,hb]<;>rfl
  | lit u=>
   have e:=q.inL
   subst e
   unfold aRm at hm
   split at hm
   .rename_i e;cases e
   .rename_i e;cases e
   .rename_i e;cases e
   .rename_i e;cases e;cases hm;simp only[aQ,hb];rfl
   .rename_i e;cases e
   .rename_i e;cases e
   .cases hm
  | rs id c=>cases hm;simp only[aQ,hb,q.rs1]
  | ms id c=>
   cases q with
   | p _ _ q=>cases q
   | ms _ k l h'=>
    simp only[aRm,h'] at hm
    cases hm
    simp only[aQ,hb]
   | msn _ c k l h'=>
    cases hm
    simp only[aQ,hb]
  | _=>cases hm
 .cases h
theorem aJl[aG]{i:Nat}{x:bC}(hs:Qt N S st)(h:cT E n d (.extract x i) S K=some r): dG P cf E.fl N (.extract x i) st K r:=by
 have q:=hs.get x
 simp only[cT] at h
 split at h
 .rename_i vs hx
  rw[hx] at q
  obtain⟨aw,ha,qc⟩:=q.inT
  split at h
  .rename_i v hv
   obtain⟨b,hb,qb⟩:=qc.get hv
   exact dG.same hs (by simp only[aQ,ha,hb]) qb h
  .cases h
 .cases h
theorem xW{v:TV}{a:AV}{i:Int}(h:i64? v=some i)(q:Qh H v a): a=iv i:=by
 unfold i64? at h
 split at h
 .split at h
  .split at h
   .cases h;exact q.inL
   .cases h
  .cases h
 .cases h
theorem aLl[aG]{mx:Bool}{xs:List bC}(hs:Qt N S st)(h:cT E n d (.minmax mx xs) S K=some r): dG P cf E.fl N (.minmax mx xs) st K r:=by
 simp only[cT] at h
 split at h
 .rename_i p hp
  match xs,hp with
  | [x,y],hp=>
   simp only[ZH,Yn,aP3] at hp
   split at hp
   .rename_i a ha
    split at hp
    .rename_i b hb
     cases hp
     have e1:=xW ha (hs.get x)
     have e2:=xW hb (hs.get y)
     cases mx with
     | true=>
      refine dG.same hs ?_ (Qh.l _) h
      have e:aQ P cf E.fl (.minmax true [x,y]) st.tmps st.heap=aQ P cf E.fl (.minmax true [.tmp 0,.tmp 1]) [aH st.tmps x,aH st.tmps y] st.heap:=rfl
      rw[e,e1,e2];exact aKS
     | false=>
      refine dG.same hs ?_ (Qh.l _) h
      have e:aQ P cf E.fl (.minmax false [x,y]) st.tmps st.heap=aQ P cf E.fl (.minmax false [.tmp 0,.tmp 1]) [aH st.tmps x,aH st.tmps y] st.heap:=rfl
      rw[e,e1,e2];exact aQW
    .cases hp
   .cases hp
  | [],hp=>cases hp
  | [_],hp=>cases hp
  | _::_::_::_,hp=>cases hp
 .cases h
end
section
variable [dQ]{R:Type}{H H1:TH}{A:aY}{N:Nat}{S:TS}{st:St}{P:Program}{T:List cS}{cf:CF}{op:Ia}{K:TV->TS->Option R}{r:R}{E:XE}{n:Nat}{d:Option Nat}
theorem j7{i:Nat}: ∀{ks:List Nat},IX i ks=false->i∉ks
 | [],_=>by simp
 | j::r,h=>by
  simp only[IX] at h
  split at h
  .cases h
  .rename_i e
   simp only[ZO,not_or]
   exact⟨YE e,j7 h⟩
theorem aFN{i:Nat}: ∀{ks:List Nat},i∉ks->IX i ks=false
 | [],_=>rfl
 | j::r,h=>by
  simp only[ZO,not_or] at h
  simp only[IX]
  split
  .rename_i e;exact absurd (Zc e) h.1
  .exact aFN h.2
def HMk(ks:List Nat)(H H':TH): Prop:=∀(j k:Nat) (l:List (den k)),j∉ks->H[j]?=some (.lst k l)->∃(k':Nat) (l':List (den k')),H'[j]?=some (.lst k' l')/\l'.length=l.length
theorem B8{ks:List Nat}(m:HMk ks H H1){v:TV}{a:AV}(q:Qh H v a): Qh H1 (B9 ks v) a:=by
 cases q with
 | p _ _ q=>
  cases v with
  | ms=>cases q
  | pel=>cases q
  | agg=>cases q
  | tup=>cases q
  | fn=>cases q
  | _=>exact .p _ _ q
 | ms i k l h=>
  simp only[B9]
  cases e:IX i ks with
  | true=>exact Qh.u _
  | false=>obtain⟨k',l',h1,h2⟩:=m i k l (j7 e) h;rw[<-h2];exact .ms i k' l' h1
 | msn i n k l h=>
  simp only[B9]
  cases e:IX i ks with
  | true=>exact Qh.u _
  | false=>obtain⟨k',l',h1,h2⟩:=m i k l (j7 e) h;rw[<-h2];exact .msn i n k' l' h1
 | pel i j o k l h h1 h2=>
  simp only[B9]
  cases e:IX i ks with
  | true=>exact Qh.u _
  | false=>obtain⟨k',l',h3,h4⟩:=m i k l (j7 e) h;rw[<-h4];exact .pel i j o k' l' h3 h1 (by omega)
 | ptr=>exact .ptr _ _
 | mp=>exact .mp _
 | it=>exact .it _
 | rs=>exact .rs _ _
 | rel=>exact .rel _ _ _ _
 | fn vi cs aw h1 h2=>
  cases cs with
  | nil=>
   cases aw with
   | nil=>exact Qh.mkF trivial
   | cons=>cases h1
  | cons=>exact Qh.u _
 | agg=>exact Qh.u _
 | tup=>exact Qh.u _
theorem Ot{ks:List Nat}(m:HMk ks H H1){v:TV}{a:AV}(q:Qh H v a): Qh H1 (JA ks v) a:=by
 cases v with
 | agg cs=>
  obtain⟨aw,rfl,q2⟩:=q.inA
  exact Qh.mkA (q2.mapL λ_ _ q=>B8 m q)
 | fn vi cs=>
  obtain⟨aw,rfl,q2⟩:=q.inF
  exact Qh.mkF (q2.mapL λ_ _ q=>B8 m q)
 | tup cs=>exact Qh.u _
 | _=>exact B8 m q
theorem B7{f:TV->TV}{t:Nat}{v:TV}: ∀{tm:TT},dD t (tm.map λp=>(p.1,f p.2))=some v->∃u,dD t tm=some u/\v=f u
 | [],h=>by cases h
 | (s,u)::tm,h=>by
  simp only[ZH,dD] at h |-
  split at h
  .cases h;exact⟨u,rfl,rfl⟩
  .exact B7 h
theorem aFP{ks:List Nat}{t:Nat}{v:TV}{tm:TT}(h:dD t (aDI ks tm)=some v): ∃u,dD t tm=some u/\(v=JA ks u\/(ks=[]/\v=u)):=by
 cases ks with
 | nil=>exact⟨v,h,.inr ⟨rfl,rfl⟩⟩
 | cons k r=>obtain⟨u,h1,h2⟩:=B7 h;exact⟨u,h1,.inl h2⟩
theorem aDH{ks:List Nat}{A:aY}(hs:Qt N S st)(m:HMk ks S.hp H1)(hq:Qs H1 A): Qt N ⟨aDI ks S.tm,H1⟩ ⟨st.tmps,A⟩:=by
 refine⟨hs.ln,λt v hv=>?_,hq⟩
 obtain⟨u,hu,e⟩:=aFP hv
 obtain⟨a,h1,h2⟩:=hs.tm t u hu
 rcases e with rfl | ⟨rfl,rfl⟩
 .exact⟨a,h1,Ot m h2⟩
 .exact⟨a,h1,h2.mono λi k l h=>m i k l (by simp) h⟩
theorem aDK{ks:List Nat}{o:qD}{b:dK}(m:HMk ks H H1)(h:Qo H o b): Qo H1 (Vx ks o) b:=by
 cases o with
 | box cs=>obtain⟨aw,e,q⟩:=h;exact⟨aw,by simpa using e,q.mapL λ_ _ q=>Ot m q⟩
 | rows s es=>obtain⟨aw,e,q⟩:=h;exact⟨aw,e,q.mapL λ_ _ q=>q.mapL λ_ _ q=>Ot m q⟩
 | _=>exact h
theorem aDA{ks:List Nat}{i k:Nat}{l:List (den k)}(h:H[i]?=some (.lst k l)): (H.map (Vx ks))[i]?=some (.lst k l):=by
 rw[Zl,h];rfl
theorem aDJ{id:Nat}{o:qD}{b:dK}(hs:Qt N S st)(ho:Vx [id] o=o)(hb:∀H,HMk [id] S.hp H->H[id]?=some o->Qo H o b)(hlt:id<S.hp.length): Qt N (uV id (mP S id o)) ⟨st.tmps,st.heap.set id b⟩:=by
 have e:(uV id (mP S id o)).hp=(S.hp.map (Vx [id])).set id o:=by
  simp only[uV,mP,XH,ho]
 have m:HMk [id] S.hp (uV id (mP S id o)).hp:=by
  intro j k l hj h
  rw[e,Zv (by simpa [Wy] using hj)]
  exact⟨k,l,aDA h,rfl⟩
 refine aDH (S:=S) hs m ?_
 have h1:cA (Qo (uV id (mP S id o)).hp) (S.hp.map (Vx [id])) st.heap:=hs.hp.mapL λ_ _ h=>aDK m h
 have h2:=h1.set id (hb _ m (by rw[e];simp[hlt]))
 rw[<-e] at h2
 exact h2
theorem aHB{id k:Nat}{l l':List (den k)}{b:dK}(hs:Qt N S st)(ho:S.hp[id]?=some (.lst k l))(hb:∀H,Qo H (.lst k l') b): Qt N (uV id (mP S id (.lst k l'))) ⟨st.tmps,st.heap.set id b⟩:=
 aDJ hs rfl (λH _ _=>hb H) (Ze.1 ho).1
theorem Az{a bytes:Nat}(ha:a<=1000000)(hb:bytes<=100000): lA a bytes=true:=by
 have:=Xt ha hb
 simp[lA]
 exact⟨by omega,by omega⟩
theorem Ql.all{k s:Nat}{l:List (den k)}{es:List (List AV)}(h:Ql k l es)(e:(cds k).length=s): fG s es=true:=by
 unfold fG
 rw[Yh]
 intro x hx
 obtain⟨i,hi⟩:=WR hx
 have hlt:i<l.length:=by rw[<-h.len];exact (Ze.1 hi).1
 have:=(h.at (Za hlt) hi).len
 rw[this,sY,e]
 simp
theorem Il{α:Type}{l ys:List α}{a:Nat}(h:a+ys.length<=l.length): (aU l a ys).length=l.length:=by
 simp only[aU,Zi,ZK,ZX];omega
theorem AZ{α:Type}(l:List α)(a:Nat): aU l a []=l:=by simp[aU]
theorem NL{α:Type}{l:List α}{i:Nat}{x:α}(h:l[i]?=some x): l.set i x=l:=by
 apply Ym
 intro j
 rw[Z8]
 split
 .rename_i e;subst e;rw[Zu (Ze.1 h).1,h]
 .rfl
theorem aJ4{α:Type}{l ys l':List α}{w:Nat×Nat}(h:b9 l w ys=some l'): l'=aU l (w.1+w.2) ys/\w.1+w.2+ys.length<=l.length/\l.length+ys.length<=1000000:=by
 unfold b9 at h
 split at h
 .rename_i hc;cases h;exact⟨rfl,hc⟩
 .cases h
theorem aJ3{fl id s bytes tot off len:Nat}{H:aY}{es ys:List (List AV)}(hid:H[id]?=some (.blk s es))(hes:es.length=tot)(hys:fG s ys=true)(hs:0<s)(hr:lA ys.length bytes=true)(hr2:lA (tot+ys.length) bytes=true)(hfl:fl<=id)(hl:off+len+ys.length<=tot):
 cR fl H s bytes (.ms id tot off len) ys=some (.ms id tot off (len+ys.length),H.set id (.blk s (aU es (off+len) ys))):=by
 unfold cR
 simp only[hys,hs,hr,hid,hes,hr2,hfl,Y3,Zy]
 by_cases h0:ys.length=0
 .have:ys=[]:=ZM.1 h0
  subst this
  simp only[Z2,Xf,Zy,AZ,NL hid]
 .rw[ZG h0,ZG (by omega),Zu hl]
theorem dG.put[aG]{fl:Nat}{v:AV}{tv:TV}{id k:Nat}{l:List (den k)}{l':List (den k)}{b:dK}(hs:Qt N S st)(ho:S.hp[id]?=some (.lst k l))(e:l'.length=l.length)(he:aQ P cf fl op st.tmps st.heap=some (v,st.heap.set id b))(q:Qo (S.hp.set id (.lst k l')) (.lst k l') b)(qv:Qh (S.hp.set id (.lst k l')) tv v)(h:K tv (mP S id (.lst k l'))=some r): dG P cf fl N op st K r:=
 dG.set hs he (HM.set λk2 l2 h2=>by rw[ho] at h2;cases h2;exact⟨k,l',rfl,e⟩) q qv h
theorem aM1[aG]{s bytes:Nat}{x y:bC}(hs:Qt N S st)(h:cT E n d (.append s bytes x y) S K=some r): dG P cf E.fl N (.append s bytes x y) st K r:=by
 have q:=hs.get x
 have q2:=hs.get y
 have hln:=hs.hp.ln
 have new:∀v,cE S.tm x=v->SZ v=true->(match Nat.beq (cds (lV E d)).length s&&Nat.blt 0 s with
  | true=>match rdX S.hp (lV E d) (cE S.tm y) with
   | some ys=>match Nat.ble bytes 100000 with
    | true=>cnd (List.isEmpty ys) (K v S) (bnd (app [] ys) λl'=>K (.ms S.hp.length none) (Rb S (.lst (lV E d) l')))
    | false=>none
   | none=>none
  | false=>none)=some r->dG P cf E.fl N (.append s bytes x y) st K r:=by
  intro v hv hn h
  rw[hv] at q
  have hx:aH st.tmps x=.lit bQ\/aH st.tmps x=.sl true []:=by
   unfold SZ at hn
   split at hn
   .subst hn
    cases (q.pu trivial) with
    | emp _ _ h=>
     rcases h with h | h | ⟨h,_⟩
     .exact .inl h
     .exact .inr h
     .cases h
   .split at hn
    .split at hn
     .split at hn
      .split at hn
       .exact .inl q.inL
       .cases hn
      .cases hn
     .cases hn
    .cases hn
   .cases hn
  split at h
  .rename_i hk
   simp only[Zd] at hk
   have e1:=Zc hk.1
   have e2:0<s:=by simpa [YF] using hk.2
   split at h
   .rename_i ys hys
    obtain⟨es,h1,h2⟩:=aFy hys q2 hs.hp
    split at h
    .rename_i hb
     have hb:=Zn hb
     have ha:=h2.all e1
     rcases I6 h with⟨hi,h⟩ | ⟨hi,h⟩
     .have e3:ys=[]:=by simpa using hi
      subst e3
      have e4:es=[]:=ZM.1 h2.len
      subst e4
      refine dG.same hs ?_ q h
      simp only[aQ,h1]
      rcases hx with hx | hx<;>rw[hx]<;>simp[cR,fG,e2,lA,bQ]
     .obtain⟨l',hl',h5⟩:=bF h
      clear h
      obtain⟨e3,hle⟩:=LN hl'
      rw[Xl] at e3
      subst e3
      simp only[Z2,ZZ] at hle
      have r1:lA es.length bytes=true:=Az (by rw[h2.len];exact hle) hb
      have h0:es.length≠0:=by
       rw[h2.len]
       intro e
       have:=ZM.1 e
       subst this
       cases hi
      refine dG.add (v:=.ms st.heap.length l'.length 0 l'.length) (o:=.lst (lV E d) l') (b:=.blk s es) hs ?_ ⟨es,by rw[e1],h2⟩ (by rw[hln];exact .ms _ (lV E d) l' (by simp)) h5
      simp only[aQ,h1,<-h2.len]
      rcases hx with hx | hx<;>rw[hx]
      .simp[cR,bQ,ha,e2,r1,h0]
      .have ha0:fG s ([]:List (List AV))=true:=rfl
       unfold cR
       simp only[ha,e2,r1,h0,ha0,Y3,Zy,Z4,Z2,ZZ,Xl]
    .cases h
   .cases h
  .cases h
 simp only[cT] at h
 split at h
 .rename_i id m hx
  rw[hx] at q
  split at h
  .rename_i o ho
   split at h
   .rename_i k l
    split at h
    .rename_i ys hys
     obtain⟨es,h1,h2⟩:=aFy hys q2 hs.hp
     split at h
     .rename_i hk
      simp only[Zd] at hk
      have e1:=Zc hk.1
      have e2:0<s:=by simpa [YF] using hk.2.1
      have hfl:=Zn hk.2.2
      split at h
      .rename_i hb
       have hb:=Zn hb
       obtain⟨bs,g1,g2⟩:=hs.hp.lst ho
       rw[e1] at g1
       have hq:=q.mw ho
       split at h
       .obtain⟨l',hl',h⟩:=bF h
        obtain⟨e3,hle⟩:=LN hl'
        subst e3
        have he:=aGx (fl:=E.fl) (bytes:=bytes) (tot:=l.length) (ys:=es) g1 g2.len (h2.all e1) e2 (Az (by rw[h2.len];omega) hb) (Az (by rw[h2.len];omega) hb) hfl
        refine⟨.ms id (l.length+es.length) 0 (l.length+es.length),st.heap.set id (.blk s (bs++es)),.ms id none,uV id (mP S id (.lst k (l++ys))),?_,aHB hs ho λH=>⟨bs++es,by rw[e1],g2.app h2⟩,?_,h⟩
        .simp only[aQ,h1,hq];exact he
        .have:=Qh.ms (H:=(uV id (mP S id (.lst k (l++ys)))).hp) id k (l++ys) (by simp[uV,mP,Zl,(Ze.1 ho).1,Vx])
         rw[Zi,<-h2.len] at this
         exact this
       .rename_i w
        obtain⟨l',hl',h⟩:=bF h
        obtain⟨e3,hle,hle2⟩:=aJ4 hl'
        subst e3
        have hlen:(aU l (w.1+w.2) ys).length=l.length:=Il (by omega)
        refine dG.put (v:=.ms id l.length w.1 (w.2+es.length)) (b:=.blk s (aU bs (w.1+w.2) es)) hs ho hlen ?_ ⟨_,by rw[e1],g2.spl h2⟩ (by have:=Qh.msn (H:=S.hp.set id (.lst k (aU l (w.1+w.2) ys))) id (w.1,w.2+ys.length) k _ (Z7 (Ze.1 ho).1);rw[hlen,<-h2.len] at this;rw[<-h2.len];exact this) h
        simp only[aQ,h1,hq,Kj]
        exact aJ3 g1 g2.len (h2.all e1) e2 (Az (by rw[h2.len];omega) hb) (Az (by rw[h2.len];omega) hb) hfl (by rw[h2.len];exact hle)
      .cases h
     .cases h
    .cases h
   .cases h
  .cases h
 .split at h
  .rename_i hn
   exact new _ rfl hn h
  .cases h
theorem aBx{w:Nat}: ∀{ks:List Sh},okA w ks=true->∀s∈ks,(∃k,s=.w k)\/(w=0/\∃k,s=.v k)
 | [],_,s,hs=>by cases hs
 | s'::r,h,s,hs=>by
  have h2:((∃k,s'=.w k)\/(w=0/\∃k,s'=.v k))/\okA w r=true:=by
   cases s' with
   | w k=>exact⟨.inl ⟨k,rfl⟩,h⟩
   | v k=>
    simp only[okA] at h
    split at h
    .exact⟨.inr ⟨rfl,k,rfl⟩,h⟩
    .cases h
   | _=>cases h
  rcases ZO.1 hs with rfl | hs
  .exact h2.1
  .exact aBx h2.2 s hs
theorem aQa{ks:List Sh}{vs:List TV}{p:fO ks}{aw:List AV}{Hr:TH}(ho:okA 0 ks=true)(h:Dq 0 Hr ks vs=some p)(q:Qc H vs aw): Qc H1 (Nc ks p) (aw.map IV)/\∀a∈aw,rQ a=true:=
 aBi (λs hs=>by
  rcases aBx ho s hs with⟨k,rfl⟩ | ⟨_,k,rfl⟩
  .exact λh q=>⟨aVM (aQH h q).1,(aQH (H1:=[]) h q).2⟩
  .exact λh q=>aQH h q) h q
theorem aMz{ks:List Sh}{vs:List TV}{p:fO ks}{aw:List AV}(ho:okA 1 ks=true)(h:Dq 1 H ks vs=some p)(q:Qc H vs aw)(hs:Qs H A): Qc H1 (Nc ks p) (aw.map (cK A)):=
 (aBi (G:=λ_=>True) (λs hs'=>by
  rcases aBx ho s hs' with⟨k,rfl⟩ | ⟨e,_⟩
  .exact λh q=>⟨aVR h q hs,trivial⟩
  .cases e) h q).1
theorem aTj{ks:List Nat}{vs:List TV}{p:fO (ks.map .v)}{aw:List AV}(h:Dq 2 H (ks.map .v) vs=some p)(q:Qc H vs aw)(hs:Qs H A): Qc H1 (Nc (ks.map .v) p) (aw.map (eA A 0))/\∀a∈aw,∀l,a≠.tup l:=
 aBi (λs hs'=>by
  obtain⟨k,_,rfl⟩:=Yb.1 hs'
  exact λh q=>aVQ h q hs) h q
theorem aDt{aw:List AV}(h:∀a∈aw,rQ a=true): gI aw=true:=by
 induction aw with
 | nil=>rfl
 | cons a r ih=>simp only[gI,h a ZP];exact ih λb hb=>h b (ZU _ hb)
theorem J4[aG]{vi w:Nat}{c:CSp}{vs:List TV}{aw:List AV}{K:TV->Option R}(hf:FOK P T vi c)(h:Qw n w c vs H K=some r)(ha:∀p,okA w c.ka=true->Dq w H c.ka vs=some p->Qc [] (Nc c.ka p) aw):
 ∃A' a tv,fC P T n 0 vi aw []=some (a,A')/\Qh H1 tv (fA A' 0 a)/\K tv=some r:=by
 unfold Qw at h
 split at h
 .rename_i p hp
  split at h
  .cases h
  .rename_i ho
   obtain⟨x,hx,h⟩:=bF h
   obtain⟨aw',A',g1,q1,q2,_⟩:=hf n p x hx aw (ha p ho hp)
   have q1:=q1 H1
   obtain⟨vs',q3,h⟩:=aGL h q1
   refine⟨A',jV aw',?_⟩
   split at h
   .rename_i v
    match aw',q3,q2 with
    | [a],q3,q2=>
     refine⟨v,g1,?_,h⟩
     have e:fA A' 0 a=eA A' 0 a:=by
      cases a with
      | tup l=>exact (q2 _ ZP l rfl).elim
      | _=>rfl
     show Qh H1 v (fA A' 0 a)
     rw[e]
     exact q3.1
   .rename_i hne
    refine⟨.tup vs',g1,?_,h⟩
    match aw',q3 with
    | [],q3=>exact Qh.mkT q3
    | [a],q3=>
     match vs',q3 with
     | [v],_=>exact (hne v rfl).elim
    | a::b::aw',q3=>exact Qh.mkT q3
 .cases h
theorem E5[aG](hs:Qt N S st): ∀(xs:List bC),Qc S.hp (xs.map (cE S.tm)) (xs.map (aH st.tmps))
 | []=>trivial
 | x::r=>⟨hs.get x,E5 hs r⟩
theorem aPZ[aG]{vi:Nat}{c:CSp}{xs:List bC}(hc:FOK P T vi c)(hs:Qt N S st)(h:Qw n 0 c (xs.map (cE S.tm)) [] (λv=>K v S)=some r):
 ∃v tv,Db (fC P T n) 0 true vi (xs.map (aH st.tmps)) st.heap=some (v,st.heap)/\Qh S.hp tv v/\K tv S=some r:=by
 have q:=E5 hs xs
 have hp:Dq 0 [] c.ka (xs.map (cE S.tm))≠none:=by
  intro e
  simp only[Qw,e] at h
  cases h
 obtain⟨p,hp⟩:=Option.ne_none_iff_exists'.1 hp
 have ho:okA 0 c.ka=true:=by
  cases e:okA 0 c.ka with
  | true=>rfl
  | false=>simp only[Qw,hp,e] at h;cases h
 have hpl:=aDt (aQa (H1:=[]) ho hp q).2
 obtain⟨A',a,tv,h1,h2,h3⟩:=J4 (H1:=S.hp) (aw:=(xs.map (aH st.tmps)).map IV) hc h λp ho hp=>(aQa ho hp q).1
 exact⟨_,tv,by simp only[Db,hpl,h1],h2,h3⟩
theorem aRj[aG]{vi:Nat}{xs:List bC}(hs:Qt N S st)(h:cT E n d (.mkFn vi xs) S K=some r): dG P cf E.fl N (.mkFn vi xs) st K r:=
 dG.same hs rfl (Qh.mkF (E5 hs xs)) h
theorem aOS[aG]{vi:Nat}{xs:List bC}(hE:∀vi c,E.cs vi=some c->FOK P T vi c)(hs:Qt N S st)(h:cT E n d (.callB vi xs) S K=some r): dG P (fC P T n) E.fl N (.callB vi xs) st K r:=by
 simp only[cT] at h
 split at h
 .rename_i c hc
  have q:=E5 hs xs
  obtain⟨A',a,tv,h1,h2,h3⟩:=J4 (H1:=S.hp) (aw:=(xs.map (aH st.tmps)).map (cK st.heap)) (hE vi c hc) h λp ho hp=>aMz ho hp q hs.hp
  exact dG.same hs (by simp only[aQ,h1]) h2 h3
 .cases h
end
theorem aAo: ∀(lx:List Bool) (tm:List AV),(cZ lx tm).length=tm.length
 | [],tm=>by simp[cZ]
 | b::bs,[]=>rfl
 | b::bs,v::vs=>by simp[cZ,aAo bs vs]
theorem IY: ∀(lx:List Bool) (tm:List AV) (t:Nat),lx[t]?=some true->(cZ lx tm)[t]?=tm[t]?
 | [],tm,t,h=>by simp at h
 | b::bs,[],t,h=>rfl
 | b::bs,v::vs,0,h=>by
  simp only[Zt,Zb] at h
  subst h;simp[cZ]
 | b::bs,v::vs,t+1,h=>by
  simp only[cZ,ZN]
  exact IY bs vs t (by simpa using h)
section
variable [dQ]{R:Type}{H H1:TH}{A:aY}{N:Nat}{S:TS}{st:St}
theorem PE{lx:List Bool}{t:Nat}{v:TV}: ∀{tm:TT},dD t (Bh lx tm)=some v->lx[t]?=some true/\dD t tm=some v
 | [],h=>by cases h
 | (s,u)::tm,h=>by
  have fin:lx[s]?≠some true->dD t (Bh lx tm)=some v->lx[t]?=some true/\dD t ((s,u)::tm)=some v:=by
   intro hne h
   obtain⟨h1,h2⟩:=PE h
   refine⟨h1,?_⟩
   simp only[dD]
   split
   .rename_i e
    have e:=Zc e
    subst e
    exact (hne h1).elim
   .exact h2
  simp only[Bh] at h
  split at h
  .rename_i b hb
   split at h
   .simp only[dD] at h |-
    split at h
    .rename_i e
     have e:=Zc e
     subst e
     exact⟨hb,h⟩
    .exact PE h
   .exact fin (by rw[hb];simp) h
  .rename_i hb
   exact fin (by rw[hb];simp) h
theorem Jn(hs:Qt N S st)(lx:List Bool): Qt N ⟨Bh lx S.tm,S.hp⟩ ⟨cZ lx st.tmps,st.heap⟩:=by
 refine⟨by rw[aAo];exact hs.ln,λt v h=>?_,hs.hp⟩
 obtain⟨h1,h2⟩:=PE h
 rw[IY _ _ _ h1]
 exact hs.tm t v h2
theorem j9{n i k:Nat}{l:List (den k)}(hi:i<n)(h:H[i]?=some (.lst k l)): ((H.take n).map (iE n))[i]?=some (.lst k l):=by
 rw[Zl,Zs,Zu hi,h];rfl
structure Cln(n:Nat)(g:AV->AV): Prop where
 l:∀v,g (.lit v)=.lit v
 s:∀f es,g (.sl f es)=.sl f es
 w:∀es,g (.vw es)=.vw es
 r:∀es,g (.rptr es)=.rptr es
 p:∀es,g (.sptr es)=.sptr es
 m:∀es,g (.rmp es)=.rmp es
 ms:∀i a b c,i<n->g (.ms i a b c)=.ms i a b c
 pt:∀i a b c,i<n->g (.ptr i a b c)=.ptr i a b c
 mp:∀i,i<n->g (.mp i)=.mp i
 it:∀i,i<n->g (.it i)=.it i
 f:∀v,g (.fn v [])=.fn v []
theorem aU2(n:Nat): Cln n (mH n):=⟨λ_=>rfl,λ_ _=>rfl,λ_=>rfl,λ_=>rfl,λ_=>rfl,λ_=>rfl,λ_ _ _ _ h=>by simp[mH,h],λ_ _ _ _ h=>by simp[mH,h],λ_ h=>by simp[mH,h],λ_ h=>by simp[mH,h],λ_=>rfl⟩
theorem aU1(n:Nat): Cln n (jP n):=⟨λ_=>rfl,λ_ _=>rfl,λ_=>rfl,λ_=>rfl,λ_=>rfl,λ_=>rfl,λ_ _ _ _ h=>by simp[jP,mH,h],λ_ _ _ _ h=>by simp[jP,mH,h],λ_ h=>by simp[jP,mH,h],λ_ h=>by simp[jP,mH,h],λ_=>rfl⟩
theorem aPX(n:Nat): Cln n id:=⟨λ_=>rfl,λ_ _=>rfl,λ_=>rfl,λ_=>rfl,λ_=>rfl,λ_=>rfl,λ_ _ _ _ _=>rfl,λ_ _ _ _ _=>rfl,λ_ _=>rfl,λ_ _=>rfl,λ_=>rfl⟩
theorem l9{n:Nat}{g:AV->AV}(hg:Cln n g){v:TV}{a:AV}(q:Qh H v a): Qh ((H.take n).map (iE n)) (dA n v) (g a):=by
 have lt:∀{i:Nat},Nat.blt i n=true->i<n:=λe=>by simpa [YF] using e
 cases q with
 | p _ _ q=>
  cases v with
  | undef=>exact Qh.u _
  | lit u=>cases q;rw[hg.l];exact Qh.l _
  | emp b=>cases q with
   | emp _ _ h=>rcases h with rfl | rfl | ⟨rfl,rfl⟩<;>first | (rw[hg.l];exact .p _ _ (.emp _ _ (by simp))) | (rw[hg.s];exact .p _ _ (.emp _ _ (by simp)))
  | sl k l=>
   obtain⟨es,h1,h2⟩:=q.inS
   rcases h1 with⟨rfl,rfl⟩ | ⟨f,rfl⟩<;>first | (rw[hg.l];exact .p _ _ q) | (rw[hg.s];exact .p _ _ q)
  | vw k l=>
   obtain⟨es,h1,h2⟩:=q.inV
   rcases h1 with⟨rfl,rfl⟩ | ⟨f,rfl⟩ | rfl<;>first | (rw[hg.l];exact .p _ _ q) | (rw[hg.s];exact .p _ _ q) | (rw[hg.w];exact .p _ _ q)
  | rptr cs=>obtain⟨aw,rfl,_⟩:=q.inR;rw[hg.r];exact .p _ _ q
  | sptr k x=>obtain⟨aw,rfl,_⟩:=q.inP;rw[hg.p];exact .p _ _ q
  | rmp=>obtain⟨rows,h1,_⟩:=q.inM;rcases h1 with⟨rfl,_⟩ | rfl<;>first | (rw[hg.l];exact .p _ _ q) | (rw[hg.m];exact .p _ _ q)
  | _=>cases q
 | ms i k l h=>
  simp only[dA]
  split
  .rename_i e
   rw[hg.ms _ _ _ _ (lt e)];exact Qh.ms i k l (j9 (lt e) h)
  .exact Qh.u _
 | msn i m k l h=>
  simp only[dA]
  split
  .rename_i e
   rw[hg.ms _ _ _ _ (lt e)];exact Qh.msn i m k l (j9 (lt e) h)
  .exact Qh.u _
 | ptr i o=>
  simp only[dA]
  split
  .rename_i e
   rw[hg.pt _ _ _ _ (lt e)];exact .ptr i o
  .exact Qh.u _
 | pel i j o k l h h1 h2=>
  simp only[dA]
  split
  .rename_i e
   rw[hg.pt _ _ _ _ (lt e)];exact Qh.pel i j o k l (j9 (lt e) h) h1 h2
  .exact Qh.u _
 | mp i=>
  simp only[dA]
  split
  .rename_i e
   rw[hg.mp _ (lt e)];exact .mp i
  .exact Qh.u _
 | it i=>
  simp only[dA]
  split
  .rename_i e
   rw[hg.it _ (lt e)];exact .it i
  .exact Qh.u _
 | rs i m=>
  simp only[dA]
  split
  .rename_i e
   rw[hg.ms _ _ _ _ (lt e)];exact .rs i m
  .exact Qh.u _
 | rel i m j o=>
  simp only[dA]
  split
  .rename_i e
   rw[hg.pt _ _ _ _ (lt e)];exact .rel i m j o
  .exact Qh.u _
 | fn vi cs aw h1 h2=>
  cases cs with
  | nil=>
   cases aw with
   | nil=>rw[hg.f];exact Qh.mkF trivial
   | cons=>cases h1
  | cons=>exact Qh.u _
 | agg=>exact Qh.u _
 | tup=>exact Qh.u _
theorem Cy{n:Nat}{v:TV}{a:AV}(q:Qh H v a): Qh ((H.take n).map (iE n)) (jC n v) (jP n a)/\Qh ((H.take n).map (iE n)) (jC n v) a:=by
 cases v with
 | fn vi cs=>
  obtain⟨aw,rfl,q2⟩:=q.inF
  exact⟨Qh.mkF (q2.map λ_ _ q=>l9 (aU2 n) q),Qh.mkF (q2.mapL λ_ _ q=>l9 (aPX n) q)⟩
 | _=>exact⟨l9 (aU1 n) q,l9 (aPX n) q⟩
theorem aIc{n:Nat}{v:TV}{a:AV}(q:Qh H v a): Qh ((H.take n).map (iE n)) (wE n v) (Qi n a):=by
 cases v with
 | agg cs=>
  obtain⟨aw,rfl,q2⟩:=q.inA
  exact Qh.mkA (q2.map λ_ _ q=>(Cy q).1)
 | undef=>exact Qh.u _
 | tup=>exact Qh.u _
 | _=>
  have h:=(Cy (n:=n) q).1
  cases a with
  | agg=>
   cases q with
   | p _ _ q=>cases q<;>simp_all
  | tup=>
   cases q with
   | p _ _ q=>cases q<;>simp_all
  | _=>exact h
theorem aIS(n:Nat): N1 (Qj n):=⟨λv=>.inl rfl,λf es=>⟨f,rfl⟩,λ_=>rfl,λ_=>rfl⟩
theorem l8{n:Nat}{o:qD}{b:dK}(h:Qo H o b): Qo ((H.take n).map (iE n)) (iE n o) (bX n b)/\Qo ((H.take n).map (iE n)) (iE n o) b:=by
 cases o with
 | box cs=>
  obtain⟨aw,rfl,q⟩:=h
  exact⟨⟨aw.map (jP n),by simp[bX],q.map λ_ _ q=>(Cy q).1⟩,⟨aw,by simp,q.mapL λ_ _ q=>(Cy q).2⟩⟩
 | rows s es=>
  obtain⟨aw,rfl,q⟩:=h
  exact⟨⟨aw.map λe=>e.map (jP n),rfl,q.map λ_ _ q=>q.map λ_ _ q=>(Cy q).1⟩,⟨aw,rfl,q.mapL λ_ _ q=>q.mapL λ_ _ q=>(Cy q).2⟩⟩
 | lst k l=>
  obtain⟨es,rfl,q⟩:=h
  exact⟨⟨es.map λe=>e.map (jP n),rfl,(aD7 n).ls q⟩,⟨es,rfl,q⟩⟩
 | map kk vk m=>
  obtain⟨rows,rfl,q⟩:=h
  refine⟨?_,⟨rows,rfl,q⟩⟩
  cases hg:ag vk with
  | true=>
   have h3:Qm vk m (rows.map λr=>r.map (jP n)):=q.mapR λ_ _ h=>(aD7 n).r h
   exact⟨_,congrArg dK.mp (G2 (g:=jP n) λr=>by rw[hg];rfl),h3⟩
  | false=>
   have h3:Qm vk m (rows.map λr=>r.map (Qj n)):=q.mapR λ_ _ h=>(aIS n).r h
   exact⟨_,congrArg dK.mp (G2 (g:=Qj n) λr=>by rw[hg];cases r<;>rfl),h3⟩
 | it=>subst h;exact⟨rfl,rfl⟩
 | gone=>exact⟨trivial,trivial⟩
 | fr k a=>
  simp only[iE]
  split
  .rename_i e;exact⟨.s _ _ n (Zn e) h,h⟩
  .exact⟨trivial,trivial⟩
theorem JE{fl:Nat}(hs:Qt N S st)(live:List Bool)(tr:Bool)(n:Nat)(hf:fl<=n): Qt N (Pa live tr n S) (dN (some live) tr fl n st):=by
 have h:=Jn hs live
 cases tr with
 | false=>exact h
 | true=>
  refine⟨by simp only[dN,Zy,aAn,ZR];exact h.ln,λt v hv=>?_,?_⟩
  .simp only[Pa] at hv
   obtain⟨u,hu,rfl⟩:=B7 hv
   obtain⟨a,h1,h2⟩:=h.tm t u hu
   refine⟨Qi n a,?_,aIc h2⟩
   simp only[dN,Zy,aAn,Zl]
   rw[h1];rfl
  .simp only[dN,Zy,Pa]
   have e:∀{α β:Type} (f:α->β) (l:List α),(l.take n).map f=(l.take fl).map f++((l.take n).drop fl).map f:=by
    intro α β f l
    rw[<-YJ]
    congr 1
    conv=>lhs;rw[<-YW fl (l.take n),Xa,Yp hf]
   have q:=hs.hp.take n
   have q1:cA (Qo S.hp) (S.hp.take fl) (st.heap.take fl):=hs.hp.take fl
   have q2:cA (Qo S.hp) ((S.hp.take n).drop fl) ((st.heap.take n).drop fl):=q.drop fl
   show Qs ((S.hp.take n).map (iE n)) _
   rw[show Qs ((S.hp.take n).map (iE n))=cA (Qo ((S.hp.take n).map (iE n))) ((S.hp.take n).map (iE n)) from rfl]
   rw[show cA (Qo ((S.hp.take n).map (iE n))) ((S.hp.take n).map (iE n))=cA (Qo ((S.hp.take n).map (iE n))) ((S.hp.take fl).map (iE n)++((S.hp.take n).drop fl).map (iE n)) from by rw[<-e]]
   exact (q1.mapL λ_ _ q=>(l8 q).2).app (q2.map λ_ _ q=>(l8 q).1)
def aLA: TV->Bool
 | .sl _ _=>true
 | .rmp _ _ _=>true
 | .tup _=>true
 | _=>false
structure Rj(H:TH)(m v:TV): Prop where
 q:∀H',(∀i n,m=.ms i n->∀(k:Nat) (l:List (den k)),H[i]?=some (.lst k l)->∃(k':Nat) (l':List (den k')),H'[i]?=some (.lst k' l')/\l'.length=l.length)->∀a,Qh H v a->Qh H' m a
 s:aLA v=true->aLA m=true->m=v
theorem aDd{c v:TV}(h:BF c v=true): Rj H c v:=by
 cases c with
 | undef=>exact⟨λ_ _ a _=>Qh.u a,λ_ e=>by cases e⟩
 | ms i n=>
  cases n with
  | some n=>cases h
  | none=>
   cases v with
   | ms j m=>
    cases m with
    | some m=>cases h
    | none=>
     have e:=Zc h
     subst e
     refine⟨λH' m a q=>?_,λ_ e=>by cases e⟩
     cases q with
     | p _ _ q=>cases q
     | ms _ k l h=>
      obtain⟨k',l',h1,h2⟩:=m i none rfl k l h
      rw[<-h2];exact .ms _ k' l' h1
   | _=>cases h
 | ptr i o=>
  cases v with
  | ptr j u=>
   simp only[BF] at h
   split at h
   .rename_i e
    have e:=Zc e
    have e2:=Zc h
    subst e;subst e2
    exact⟨λH' _ a q=>q.ptr1▸.ptr _ _,λ_ e=>by cases e⟩
   .cases h
  | _=>cases h
 | mp i=>
  cases v with
  | mp j=>
   have e:=Zc h
   subst e
   refine⟨λH' _ a q=>?_,λ_ e=>by cases e⟩
   cases q with
   | p _ _ q=>cases q
   | mp=>exact .mp _
  | _=>cases h
 | it i=>
  cases v with
  | it j=>
   have e:=Zc h
   subst e
   refine⟨λH' _ a q=>?_,λ_ e=>by cases e⟩
   cases q with
   | p _ _ q=>cases q
   | it=>exact .it _
  | _=>cases h
 | rs i n=>
  cases v with
  | rs j m=>
   simp only[BF] at h
   split at h
   .rename_i e
    have e:=Zc e
    have e2:=Zc h
    subst e;subst e2
    exact⟨λH' _ a q=>q.rs1▸.rs _ _,λ_ e=>by cases e⟩
   .cases h
  | _=>cases h
 | fn i cs=>
  cases cs with
  | cons=>cases h
  | nil=>
   cases v with
   | fn j ds=>
    cases ds with
    | cons=>cases h
    | nil=>
     have e:=Zc h
     subst e
     refine⟨λH' _ a q=>?_,λ_ e=>by cases e⟩
     obtain⟨aw,rfl,q2⟩:=q.inF
     cases aw with
     | nil=>exact Qh.mkF trivial
     | cons=>exact q2.elim
   | _=>cases h
 | lit u=>
  have key:v=.lit u->Rj H (.lit u) v:=by
   rintro rfl
   exact⟨λH' _ a q=>q.inL▸Qh.l _,λ_ e=>by cases e⟩
  cases u with
  | int k a=>
   cases v with
   | lit y=>
    cases y with
    | int k' b=>
     simp only[BF] at h
     split at h
     .rename_i e _
      split at h
      .rename_i e' _
       subst e;subst e'
       exact key rfl
      .cases h
     .cases h
    | _=>cases h
   | _=>cases h
  | bool b=>
   cases v with
   | lit y=>
    cases y with
    | bool c=>
     apply key
     cases b<;>cases c<;>first | rfl | cases h
    | _=>cases h
   | _=>cases h
  | slice a l c=>
   cases a with
   | some a=>cases h
   | none=>
    cases l with
    | succ l=>cases h
    | zero=>
     cases c with
     | succ c=>cases h
     | zero=>
      cases v with
      | lit y=>
       cases y with
       | slice a l c=>
        cases a with
        | some a=>cases h
        | none=>
         cases l with
         | succ l=>cases h
         | zero=>
          cases c with
          | succ c=>cases h
          | zero=>exact key rfl
       | _=>cases h
      | _=>cases h
  | _=>cases h
 | emp b=>
  cases v with
  | emp c=>
   refine⟨λH' _ a q=>?_,λ_ e=>by cases e⟩
   cases (q.pu trivial) with
   | emp _ _ h'=>
    refine .p _ _ (.emp _ _ ?_)
    cases b with
    | false=>
     rcases h' with h' | h' | ⟨_,h'⟩
     .exact .inl h'
     .exact .inr (.inl h')
     .exact .inr (.inr ⟨rfl,h'⟩)
    | true=>
     have h:c=true:=h
     subst h
     exact h'
  | _=>cases h
 | _=>cases h
theorem aDc: ∀{cs vs:List TV},aGU cs vs=true->cA (λc v=>BF c v=true/\∀j n,c≠.ms j n) cs vs
 | [],[],_=>trivial
 | [],_::_,h=>by cases h
 | _::_,[],h=>by cases h
 | c::r,v::s,h=>by
  simp only[aGU] at h
  split at h
  .cases h
  .rename_i hc
   split at h
   .rename_i e;exact⟨⟨e,hc⟩,aDc h⟩
   .cases h
theorem aNy{c v:TV}(h:aK0 c v=true): Rj H c v:=by
 cases c with
 | fn i cs=>
  cases v with
  | fn j ds=>
   simp only[aK0] at h
   split at h
   .rename_i e
    have e:=Zc e
    subst e
    refine⟨λH' _ a q=>?_,λ_ e=>by cases e⟩
    obtain⟨aw,rfl,q2⟩:=q.inF
    have h2:=aDc h
    refine Qh.mkF (cA.of (by rw[q2.len,h2.len]) λj c a hj ha=>?_)
    obtain⟨v,hv,hcv,hm⟩:=h2.get hj
    exact (aDd hcv).q H' (λi' n' e=>absurd e (hm i' n')) a (q2.at hv ha)
   .cases h
  | _=>cases h
 | _=>exact aDd h
theorem aGt{a b a' b':Nat}{m:List (den a×den b)}{y:List (den a'×den b')}(h:TU m=some y): TV.rmp a b m=TV.rmp a' b' y:=by
 obtain⟨e,e',h⟩:=LJ h
 subst e;subst e';subst h;rfl
theorem aHD{v:TV}{x:ByteArray×Nat}(h:aL7 v=some x): v=.tup [.lit (.string x.1),.lit (.int .i64 (.ofNat x.2))]:=by
 unfold aL7 at h
 split at h
 .split at h
  .split at h
   .split at h
    .split at h
     .split at h
      .split at h
       .split at h
        .cases h;rfl
        .cases h
       .cases h
      .cases h
     .cases h
    .cases h
   .cases h
  .cases h
 .cases h
theorem rjN{id:Nat}{v:TV}{x:Nat×Nat}(h:rdN id v=some x): Rj H (.ms id (some x)) v:=by
 unfold rdN at h
 split at h
 .split at h
  .rename_i e
   have e:=Zc e
   subst e;subst h
   refine⟨λH' m a q=>?_,λ_ e=>by cases e⟩
   cases q with
   | p _ _ q=>cases q
   | msn _ _ k l h=>
    obtain⟨k',l',h1,h2⟩:=m _ _ rfl k l h
    rw[<-h2];exact .msn _ _ k' l' h1
  .cases h
 .cases h
theorem rjI{v:TV}{x:ByteArray×Nat}(h:aL7 v=some x): Rj H (.tup [.lit (.string x.1),.lit (.int .i64 (.ofNat x.2))]) v:=by
 rw[aHD h]
 refine⟨λH' _ a q=>?_,λ_ _=>rfl⟩
 obtain⟨aw,rfl,q2⟩:=q.inT
 match aw,q2 with
 | [a,b],q2=>exact Qh.mkT ⟨by rw[q2.1.inL];exact Qh.l _,by rw[q2.2.1.inL];exact Qh.l _,trivial⟩
theorem aHa{s:Sh}{v:TV}{x:s.den}(h:s.rd 3 [] v=some x): Rj H (s.tv x) v:=by
 cases s with
 | v k=>
  have h:i6 0 [] k v=some x:=h
  refine⟨λH' _ a q=>aTp h q,λe1 e2=>?_⟩
  unfold i6 at h
  split at h
  .split at h
   .cases e1
   .cases h
  .rename_i hg
   unfold kI at h
   split at h
   .rename_i p hp
    cases h
    obtain⟨c,y,h1,h2⟩:=aBl hp
    have hv:val k (dQ.pk k p)=hdT (qI (cds k) p):=by
     unfold val kA;rw[hg,dQ.un_pk]
    show val k (dQ.pk k p)=_
    rw[hv,h1]
    cases c with
    | sl k3=>
     cases v with
     | sl k1 l=>
      obtain⟨e,h⟩:=pZ (F:=λk=>List (den k)) (x:=l) (y:=y) h2
      subst e;subst h;rfl
     | rmp=>cases h2
     | tup=>cases h2
     | _=>cases e1
    | int ik=>rw[aDm h2] at e1;cases e1
    | bool=>rw[v9 h2] at e1;cases e1
    | str=>rw[aDk h2] at e1;cases e1
    | sptr=>rw[aDl h2] at e1;cases e1
    | mp=>rcases aN4 (w:=0) (H:=[]) h2 with rfl | ⟨rfl,_⟩ | ⟨e,_⟩<;>first | rfl | cases e1 | cases e
    | any=>cases h2
   .cases h
 | w k=>
  have h:i6 1 [] k v=some x:=h
  refine⟨λH' _ a q=>aTo h q,λe1 e2=>?_⟩
  unfold i6 at h
  split at h
  .split at h
   .cases e1
   .cases h
  .rename_i hg
   unfold kI at h
   split at h
   .rename_i p hp
    cases h
    obtain⟨c,y,h1,h2⟩:=aBl hp
    have hv:val k (dQ.pk k p)=hdT (qI (cds k) p):=by
     unfold val kA;rw[hg,dQ.un_pk]
    have e2:aLA (toW (val k (dQ.pk k p)))=true:=e2
    show toW (val k (dQ.pk k p))=_
    rw[hv,h1,aAT] at e2 |-
    cases c with
    | mp=>rcases aN4 (w:=1) (H:=[]) h2 with rfl | ⟨rfl,_⟩ | ⟨e,_⟩<;>first | rfl | cases e1 | cases e
    | _=>cases e2
   .cases h
 | r k=>
  refine⟨λH' _ a q=>?_,λ_ e2=>by cases e2⟩
  cases v with
  | rptr cs=>
   have h:kI 0 [] k cs=some x:=h
   obtain⟨aw,rfl,q2⟩:=(q.pu trivial).inR
   exact .p _ _ (Qp.mkR (kH h (q2.c (H:=[]))))
  | _=>cases h
 | l k=>
  cases v with
  | sl k' l=>
   obtain⟨e,h⟩:=pZ (F:=λk=>List (den k)) (x:=l) (y:=x) h
   subst e;subst h
   exact⟨λH' _ a q=>.p _ _ (q.pu trivial),λ_ _=>rfl⟩
  | _=>cases h
 | m kk vk=>
  cases v with
  | rmp a b m=>
   have e:=aGt (m:=m) (y:=x) h
   rw[<-show TV.rmp a b m=(Sh.m kk vk).tv x from e]
   exact⟨λH' _ a q=>.p _ _ (q.pu trivial),λ_ _=>rfl⟩
  | _=>cases h
 | n id=>exact rjN h
 | i=>exact rjI h
end
section
variable [dQ]{R:Type}{H H1:TH}{A:aY}{N:Nat}{S:TS}{st:St}
theorem fO.hc{a:Sh}{r:List Sh}(x:a.den)(y:fO r): fO.hd (fO.cs x y)=x:=by cases r<;>rfl
theorem fO.tc{a:Sh}{r:List Sh}(x:a.den)(y:fO r): fO.tl (fO.cs x y)=y:=by cases r<;>rfl
theorem Nv: ∀{ss:List Pl} {W:List TV} {p:fO (shs false ss)} {q:fO (shs true ss)},SP ss W=some (p,q)->cA (Rj H) (mkV ss p q) W
 | [],W,p,q,h=>by
  cases W with
  | nil=>trivial
  | cons=>cases h
 | .con c::r,W,p,q,h=>by
  cases W with
  | nil=>cases h
  | cons v W=>
   simp only[SP] at h
   split at h
   .rename_i hc
    exact⟨aNy hc,Nv h⟩
   .cases h
 | .p s::r,W,p,q,h=>by
  cases W with
  | nil=>cases h
  | cons v W=>
   simp only[SP] at h
   split at h
   .rename_i x hx
    split at h
    .rename_i pq hp
     cases h
     simp only[mkV,fO.hc,fO.tc]
     exact⟨aHa hx,Nv hp⟩
    .cases h
   .cases h
 | .v s::r,W,p,q,h=>by
  cases W with
  | nil=>cases h
  | cons v W=>
   simp only[SP] at h
   split at h
   .rename_i x hx
    split at h
    .rename_i pq hp
     cases h
     simp only[mkV,fO.hc,fO.tc]
     exact⟨aHa hx,Nv hp⟩
    .cases h
   .cases h
theorem aFi{tm:TT}{H':TH}{t:Nat}{m:TV}: ∀{ts:List (Nat×Option Nat)} {vs M:List TV},upT tm ts=some vs->cA (λm v=>∀a,Qh H v a->Qh H' m a) M vs->dD t (plT ts M)=some m->∃v,dD t tm=some v/\∀a,Qh H v a->Qh H' m a
 | [],vs,M,h,q,hm=>by cases hm
 | s::ts,vs,M,h,q,hm=>by
  simp only[upT] at h
  split at h
  .rename_i v hv
   split at h
   .rename_i us hu
    split at h
    .rename_i hs
     cases h
     cases M with
     | nil=>exact q.elim
     | cons m' M=>
      simp only[plT,hs,dD] at hm
      split at hm
      .rename_i e
       have e:=Zc e
       subst e
       cases hm
       exact⟨v,hv,q.1⟩
      .exact aFi hu q.2 hm
    .rename_i n hs
     split at h
     .rename_i cs
      split at h
      .rename_i e
       have e:=Zc e
       cases h
       have q1:=q.take n
       have q2:=q.drop n
       rw[<-e,Y5] at q2
       rw[<-e,Xv] at q1
       rw[e] at q1 q2
       simp only[plT,hs,dD] at hm
       split at hm
       .rename_i e
        have e:=Zc e
        subst e
        cases hm
        refine⟨_,hv,λa qa=>?_⟩
        obtain⟨aw,rfl,q3⟩:=qa.inA
        exact Qh.mkA (cA.of (by rw[q3.len,q1.len]) λj m c hm hc=>by
         obtain⟨v,hv,hq⟩:=q1.get hm
         exact hq c (q3.at hv hc))
       .exact aFi hu q2 hm
      .cases h
     .cases h
   .cases h
  .cases h
theorem Pm{α:Type}{s:Nat}: ∀{es:List (List α)},(es.all λe=>Nat.beq e.length s)=true->es.flatten.length=es.length*s
 | [],_=>by simp
 | e::es,h=>by
  simp only[XR,Zd] at h
  have e1:=Zc h.1
  simp only[Ys,Zi,Pm h.2,e1,Z5,XF]
  omega
theorem I9{α β:Type}{R:α->β->Prop}{s:Nat}: ∀{es:List (List β)} {l:List α},(es.all λe=>Nat.beq e.length s)=true->cA R l es.flatten->cA (cA R) (pY s es.length l) es
 | [],_,_,_=>trivial
 | e::es,l,h,q=>by
  simp only[XR,Zd] at h
  have e1:=Zc h.1
  subst e1
  have q1:=q.take e.length
  have q2:=q.drop e.length
  simp only[Ys,Xv,Y5] at q1 q2
  exact⟨q1,I9 h.2 q2⟩
theorem aJQ: ∀{os:List OL} {Hx:TH} {ws:List TV},upO os Hx=some ws->ws.length=nO os
 | [],Hx,ws,h=>by
  cases Hx with
  | nil=>cases h;rfl
  | cons=>cases h
 | o::os,Hx,ws,h=>by
  cases Hx with
  | nil=>cases h
  | cons b Hx=>
   simp only[upO] at h
   split at h
   .cases h
   .rename_i vs hvs
    have ih:=aJQ hvs
    cases o with
    | gone=>cases h;exact ih
    | box n=>
     cases b with
     | box cs=>
      simp only at h
      split at h
      .rename_i e
       have e:=Zc e
       cases h
       simp[nO,ih,e]
      .cases h
     | _=>cases h
    | lst k0=>
     cases b with
     | lst k1 l1=>
      simp only at h
      split at h
      .cases h;simp[nO,ih]
      .cases h
     | _=>cases h
    | map kk vk=>
     cases b with
     | map a1 b1 m1=>
      simp only at h
      split at h
      .split at h
       .cases h;simp[nO,ih]
       .cases h
      .cases h
     | _=>cases h
    | bx=>
     cases b with
     | box=>cases h;simp[nO,ih]
     | _=>cases h
    | it=>
     cases b with
     | it=>cases h;simp[nO,ih]
     | _=>cases h
    | rows s m=>
     cases b with
     | rows s' es=>
      simp only at h
      split at h
      .split at h
       .rename_i e
        have e:=Zc e
        split at h
        .rename_i ha
         cases h
         rw[Zi,ih,Pm ha,e,YO]
         rfl
        .cases h
       .cases h
      .cases h
     | _=>cases h
theorem vX: ∀{os:List OL} {Hx:TH} {ws M:List TV},upO os Hx=some ws->cA (Rj H) M ws->∀(i k k':Nat) (l:List (den k)) (l':List (den k')),Hx[i]?=some (.lst k l)->(N9 os M)[i]?=some (.lst k' l')->l'.length=l.length
 | [],Hx,ws,M,h,q,i,k,k',l,l',h1,h2=>by
  cases Hx with
  | nil=>simp at h1
  | cons=>cases h
 | o::os,Hx,ws,M,h,q,i,k,k',l,l',h1,h2=>by
  cases Hx with
  | nil=>cases h
  | cons b Hx=>
   simp only[upO] at h
   split at h
   .cases h
   .rename_i vs hvs
    cases o with
    | gone=>
     cases h
     cases i with
     | zero=>simp[N9] at h2
     | succ i=>exact vX hvs q i k k' l l' (by simpa using h1) (by simpa [N9] using h2)
    | box n=>
     cases b with
     | box cs=>
      simp only at h
      split at h
      .rename_i e
       have e:=Zc e
       cases h
       cases i with
       | zero=>simp at h1
       | succ i=>
        have:=q.drop n
        rw[<-e,Y5] at this
        rw[e] at this
        exact vX hvs this i k k' l l' (by simpa using h1) (by simpa [N9] using h2)
      .cases h
     | _=>cases h
    | lst k0=>
     cases b with
     | lst k1 l1=>
      simp only at h
      split at h
      .cases h
       cases M with
       | nil=>exact q.elim
       | cons m M=>
        cases i with
        | succ i=>exact vX hvs q.2 i k k' l l' (by simpa using h1) (by simpa [N9] using h2)
        | zero=>
         simp only[Zt,Zb] at h1
         cases h1
         simp only[N9,Zt,Zb] at h2
         unfold aGI at h2
         split at h2
         .rename_i k2 l2
          split at h2
          .cases h2
           have:=q.1.s rfl rfl
           cases this
           rfl
          .cases h2
         .cases h2
      .cases h
     | _=>cases h
    | map kk vk=>
     cases b with
     | map a1 b1 m1=>
      simp only at h
      split at h
      .split at h
       .cases h
        cases M with
        | nil=>exact q.elim
        | cons m M=>
         cases i with
         | succ i=>exact vX hvs q.2 i k k' l l' (by simpa using h1) (by simpa [N9] using h2)
         | zero=>simp at h1
       .cases h
      .cases h
     | _=>cases h
    | bx=>
     cases b with
     | box cs=>
      cases h
      cases M with
      | nil=>exact q.elim
      | cons m M=>
       cases i with
       | succ i=>exact vX hvs q.2 i k k' l l' (by simpa using h1) (by simpa [N9] using h2)
       | zero=>simp at h1
     | _=>cases h
    | it=>
     cases b with
     | it s1 p1=>
      cases h
      cases M with
      | nil=>exact q.elim
      | cons m M=>
       cases i with
       | succ i=>exact vX hvs q.2 i k k' l l' (by simpa using h1) (by simpa [N9] using h2)
       | zero=>simp at h1
     | _=>cases h
    | rows s m=>
     cases b with
     | rows s' es=>
      simp only at h
      split at h
      .split at h
       .rename_i e
        have e:=Zc e
        split at h
        .rename_i ha
         cases h
         cases i with
         | zero=>simp at h1
         | succ i=>
          have:=q.drop (s*m)
          rw[show s*m=es.flatten.length by rw[Pm ha,e,YO],Y5] at this
          rw[show es.flatten.length=s*m by rw[Pm ha,e,YO]] at this
          exact vX hvs this i k k' l l' (by simpa using h1) (by simpa [N9] using h2)
        .cases h
       .cases h
      .cases h
     | _=>cases h
theorem Mx{H':TH}: ∀{os:List OL} {Hx:TH} {ws M:List TV} {A:aY},upO os Hx=some ws->cA (λm v=>Rj H m v/\∀a,Qh H v a->Qh H' m a) M ws->cA (Qo H) Hx A->cA (Qo H') (N9 os M) A
 | [],Hx,ws,M,A,h,q,hs=>by
  cases Hx with
  | nil=>cases A with
   | nil=>trivial
   | cons=>exact hs.elim
  | cons=>cases h
 | o::os,Hx,ws,M,A,h,q,hs=>by
  cases Hx with
  | nil=>cases h
  | cons b Hx=>
   cases A with
   | nil=>exact hs.elim
   | cons a A=>
    simp only[upO] at h
    split at h
    .cases h
    .rename_i vs hvs
     cases o with
     | gone=>cases h;exact⟨trivial,Mx hvs q hs.2⟩
     | box n=>
      cases b with
      | box cs=>
       simp only at h
       split at h
       .rename_i e
        have e:=Zc e
        cases h
        have q1:=q.take n
        have q2:=q.drop n
        rw[<-e,Y5] at q2
        rw[<-e,Xv] at q1
        rw[e] at q1 q2
        refine⟨?_,Mx hvs q2 hs.2⟩
        obtain⟨aw,h1,h2⟩:=hs.1
        refine⟨aw,by rw[h1,q1.len],?_⟩
        exact cA.of (by rw[h2.len,q1.len]) λj m c hm hc=>by
         obtain⟨v,hv,hq⟩:=q1.get hm
         exact hq.2 c (h2.at hv hc)
       .cases h
      | _=>cases h
     | lst k0=>
      cases b with
      | lst k1 l1=>
       simp only at h
       split at h
       .rename_i e
        have e:=Zc e
        cases h
        cases M with
        | nil=>exact q.elim
        | cons m M=>
         refine⟨?_,Mx hvs q.2 hs.2⟩
         have h1:=q.1.1.s
         have h2:=hs.1
         show Qo H' (aGI k0 m) a
         clear q
         unfold aGI
         split
         .split
          .have:=h1 rfl rfl
           cases this
           exact h2
          .trivial
         .trivial
       .cases h
      | _=>cases h
     | map kk vk=>
      cases b with
      | map a1 b1 m1=>
       simp only at h
       split at h
       .rename_i e1
        split at h
        .rename_i e2
         have e1:=Zc e1
         have e2:=Zc e2
         cases h
         cases M with
         | nil=>exact q.elim
         | cons m M=>
          refine⟨?_,Mx hvs q.2 hs.2⟩
          have h1:=q.1.1.s
          have h2:=hs.1
          show Qo H' (aJU kk vk m) a
          clear q
          unfold aJU
          split
          .split
           .split
            .have:=h1 rfl rfl
             cases this
             exact h2
            .trivial
           .trivial
          .trivial
        .cases h
       .cases h
      | _=>cases h
     | bx=>
      cases b with
      | box cs=>
       cases h
       cases M with
       | nil=>exact q.elim
       | cons m M=>
        refine⟨?_,Mx hvs q.2 hs.2⟩
        obtain⟨bs,rfl,h2⟩:=hs.1
        have h1:=q.1.2 _ (Qh.mkA h2)
        show Qo H' (aQx m) _
        clear q
        unfold aQx
        split
        .obtain⟨aw',e,h3⟩:=h1.inA
         cases e
         exact⟨bs,by rw[<-h2.len,h3.len],h3⟩
        .trivial
      | _=>cases h
     | it=>
      cases b with
      | it s1 p1=>
       cases h
       cases M with
       | nil=>exact q.elim
       | cons m M=>
        refine⟨?_,Mx hvs q.2 hs.2⟩
        have h1:=q.1.1.s
        have h2:=hs.1
        show Qo H' (aQw m) a
        clear q
        unfold aQw
        split
        .rename_i x hx
         have e:=aHD hx
         have:=h1 rfl (by rw[e];rfl)
         rw[e] at this
         cases this
         exact h2
        .trivial
      | _=>cases h
     | rows s m=>
      cases b with
      | rows s' es=>
       simp only at h
       split at h
       .rename_i e1
        have e1:=Zc e1
        subst e1
        split at h
        .rename_i e
         have e:=Zc e
         split at h
         .rename_i ha
          cases h
          have ef:es.flatten.length=s'*m:=by rw[Pm ha,e,YO]
          have q1:=q.take (s'*m)
          have q2:=q.drop (s'*m)
          rw[<-ef,Xv] at q1
          rw[<-ef,Y5] at q2
          rw[ef] at q1 q2
          refine⟨?_,Mx hvs q2 hs.2⟩
          obtain⟨aw,h1,h2⟩:=hs.1
          refine⟨aw,h1,?_⟩
          have q3:=I9 ha q1
          rw[e] at q3
          exact cA.of (by rw[h2.len,q3.len]) λj r a hr ha'=>by
           obtain⟨e0,he0,q4⟩:=q3.get hr
           have h3:=h2.at he0 ha'
           exact cA.of (by rw[h3.len,q4.len]) λj m c hm hc=>by
            obtain⟨v,hv,hq⟩:=q4.get hm
            exact hq.2 c (h3.at hv hc)
         .cases h
        .cases h
       .cases h
      | _=>cases h
theorem aD4: ∀{M:List TV},aAl H M=true->∀m∈M,∀i n,m=.ms i n->∃(k:Nat) (l:List (den k)),H[i]?=some (.lst k l)
 | [],_,m,hm=>by cases hm
 | v::r,h,m,hm=>by
  intro i n e
  subst e
  rcases ZO.1 hm with e | hm
  .subst e
   simp only[aAl] at h
   split at h
   .rename_i o ho
    split at h
    .exact⟨_,_,ho⟩
    .cases h
   .cases h
  .refine aD4 (M:=r) ?_ _ hm i n rfl
   cases v with
   | ms i2 n2=>
    simp only[aAl] at h
    split at h
    .split at h
     .exact h
     .cases h
    .cases h
   | _=>exact h
theorem aLI{L:Dy}{p:L.P}{q:L.V}(h:L.get S=some (p,q))(hs:Qt N S st): Qt N (L.mk' p q) st:=by
 unfold Dy.get at h
 split at h
 .rename_i vs hvs
  split at h
  .rename_i ws hws
   split at h
   .rename_i pq hpq
    split at h
    .rename_i hck
     cases h
     have hr:=Nv (H:=S.hp) hpq
     have hn:=aJQ hws
     have hd:cA (Rj S.hp) ((mkV L.ss p q).take (nO L.os)) ws:=by
      have:=hr.take (nO L.os)
      rw[<-hn,Xv] at this
      rw[hn] at this
      exact this
     have ht:cA (Rj S.hp) ((mkV L.ss p q).drop (nO L.os)) vs:=by
      have:=hr.drop (nO L.os)
      rw[<-hn,Y5] at this
      rw[hn] at this
      exact this
     have hlst:=vX hws hd
     have key:∀m v,m∈mkV L.ss p q->Rj S.hp m v->∀a,Qh S.hp v a->Qh (L.mk' p q).hp m a:=by
      intro m v hm r a qa
      refine r.q _ (λi n e k l hi=>?_) a qa
      obtain⟨k',l',g⟩:=aD4 hck m hm i n e
      exact⟨k',l',g,hlst i k k' l l' hi g⟩
     refine⟨hs.ln,λt m hm=>?_,?_⟩
     .have ht':cA (λm v=>∀a,Qh S.hp v a->Qh (L.mk' p q).hp m a) ((mkV L.ss p q).drop (nO L.os)) vs:=
       cA.of ht.len λj m v hm hv=>key m v (Z1 (Zf hm)) (ht.at hm hv)
      obtain⟨v,g3,g6⟩:=aFi hvs ht' hm
      obtain⟨a,g4,g5⟩:=hs.tm t v g3
      exact⟨a,g4,g6 a g5⟩
     .refine Mx hws ?_ hs.hp
      refine cA.of hd.len λj m v hm hv=>⟨hd.at hm hv,key m v (Ya (Zf hm)) (hd.at hm hv)⟩
    .cases h
   .cases h
  .cases h
 .cases h
theorem aB5: ∀{ss:List Pl} {p:fO (shs false ss)} {q:fO (shs true ss)} {K:List TV->Option R} {r:R},mkK ss p q K=some r->
 ∃M,K M=some r/\cA (λm m'=>m=m'\/∃b,m=.lit (.bool b)/\m'=.lit (.bool b)) M (mkV ss p q)
 | [],p,q,K,r,h=>⟨[],h,trivial⟩
 | .con c::ss,p,q,K,r,h=>by
  obtain⟨M,h1,h2⟩:=aB5 (ss:=ss) h
  exact⟨_,h1,.inl rfl,h2⟩
 | .p s::ss,p,q,K,r,h=>by
  obtain⟨M,h1,h2⟩:=aB5 (ss:=ss) h
  exact⟨_,h1,.inl rfl,h2⟩
 | .v s::ss,p,q,K,r,h=>by
  have key:∃v,v=s.tv (fO.hd q)/\mkK ss p (fO.tl q) (λvs=>K (v::vs))=some r:=by
   simp only[mkK,Nh] at h
   split at h
   .rename_i u hu
    split at h
    .rename_i b
     cases b with
     | true=>exact⟨_,hu.symm,h⟩
     | false=>exact⟨_,hu.symm,h⟩
    .exact⟨_,hu.symm,h⟩
   .exact⟨_,rfl,h⟩
  obtain⟨v,e,h⟩:=key
  obtain⟨M,h1,h2⟩:=aB5 h
  exact⟨_,h1,.inl e,h2⟩
theorem aLk{L:Dy}{p:L.P}{q:L.V}{K:TS->Option R}{r:R}(h:L.mkB p q K=some r): K (L.mk' p q)=some r:=by
 unfold Dy.mkB at h
 obtain⟨M,h1,h2⟩:=aB5 h
 have e:M=mkV L.ss p q:=by
  apply Ym 
  intro j
  cases hj:M[j]? with
  | none=>
   rw[XM] at hj
   rw[Wy,XM,h2.len];exact hj
  | some m=>
   obtain⟨m',g1,g2⟩:=h2.get hj
   rw[g1]
   rcases g2 with rfl | ⟨b,rfl,rfl⟩<;>rfl
 subst e
 exact h1
end
inductive ClA(n:Nat): AV->AV->Prop
 | r (a):ClA n a a
 | s (a b m):n<=m->ClA n a b->ClA n a (Qi m b)
theorem ClA.tr{n:Nat}{a b c:AV}(h:ClA n a b)(k:ClA n b c): ClA n a c:=by
 induction k with
 | r=>exact h
 | s b m e _ d=>exact .s _ _ m e d
def atB(l:List Bool)(t:Nat): Bool:=match l[t]? with
 | some b=>b
 | none=>false
def noD(t:Nat): List bU->Bool
 | []=>true
 | o::r=>match o.dst with
  | none=>noD t r
  | some d=>match Nat.beq d t with
   | true=>false
   | false=>noD t r
def kpt(t:Nat): bV->Bool
 | .skip=>true
 | .exit _=>true
 | .ret=>true
 | .stop=>true
 | .region _ _ ops=>noD t ops
 | .seq a b=>kpt t a&&kpt t b
 | .cond _ a b=>kpt t a&&kpt t b
 | .block _ c=>kpt t c
 | .scope c=>kpt t c
 | .loop live _ c=>(match live with
  | none=>true
  | some l=>atB l t)&&kpt t c
 | .mask lx _ _ c=>atB lx t&&kpt t c
 | .told li lx _ c=>(atB li t&&atB lx t)&&kpt t c
 | .frz u c=>!Nat.beq u t&&kpt t c
 | .nilIf ..=>false
 | .loopV ..=>false
def kpL(c:bV): List Nat->Bool
 | []=>true
 | t::r=>match kpt t c with
  | true=>kpL c r
  | false=>false
section
variable {P:Program}{cf:CF}{fl lf n t:Nat}
theorem aMx{l:List Bool}(h:atB l t=true): l[t]?=some true:=by
 unfold atB at h;split at h
 .rename_i b a;rw[a,h]
 .cases h
theorem aH1{tm:List AV}{d:Option Nat}{v:AV}(h:∀e,d=some e->e≠t): (iG tm d v)[t]?=tm[t]?:=by
 cases d with
 | none=>rfl
 | some e=>exact Zv (h e rfl)
theorem aH2[aG]: ∀{l:List bU} {st st':St},noD t l=true->jA P cf fl l st=some st'->st'.tmps[t]?=st.tmps[t]?
 | [],st,st',_,h=>by cases h;rfl
 | o::r,st,st',c,h=>by
  have b:noD t r=true/\∀e,o.dst=some e->e≠t:=by
   simp only[noD] at c;split at c
   .rename_i e;exact⟨c,λg h=>by rw[e] at h;cases h⟩
   .rename_i d e;split at c
    .cases c
    .rename_i f;exact⟨c,λg h=>by rw[e] at h;cases h;exact YE f⟩
  simp only[jA] at h;split at h
  .rename_i i a;rw[aH2 b.1 h];unfold cU at a;split at a
   .split at a
    .cases a;exact aH1 b.2
    .cases a
   .cases a;exact aH1 b.2
   .cases a
  .cases h
def Kp(n t:Nat)(st st':St): Prop:=n<=st'.heap.length/\∀a,st.tmps[t]?=some a->∃b,st'.tmps[t]?=some b/\ClA n a b
theorem Kp.tr{d f e:St}(h:Kp n t d f)(k:Kp n t f e): Kp n t d e:=⟨k.1,λa j=>by
 obtain⟨b,g,q⟩:=h.2 a j;obtain⟨c,l,i⟩:=k.2 b g;exact⟨c,l,q.tr i⟩⟩
theorem Kp.same{st st':St}(c:n<=st'.heap.length)(h:st'.tmps[t]?=st.tmps[t]?): Kp n t st st':=⟨c,λa b=>⟨a,by rw[h];exact b,.r a⟩⟩
theorem Kp.head[aG]{live:Option (List Bool)}{tr:Bool}{m:Nat}{st:St}(f:n<=st.heap.length)(c:n<=m)(b:fl<=n)(h:∀l,live=some l->atB l t=true): Kp n t st (dN live tr fl m st):=by
 refine⟨(rZ ⟨b,f⟩ ⟨b,c⟩).2,λa d=>?_⟩;have e:(aAn live st.tmps)[t]?=some a:=by
  cases live with
  | none=>exact d
  | some l=>exact (IY _ _ _ (aMx (h l rfl))).trans d
 cases tr with
 | false=>exact⟨a,e,.r a⟩
 | true=>exact⟨Qi m a,by simp only[dN,Zy,Zl,e];rfl,.s _ _ m c (.r a)⟩
theorem Kp.loop{b:St->St}{step:St->Option (cY×St)}(i:∀st,n<=st.heap.length->Kp n t st (b st))(d:∀st x st',n<=st.heap.length->step st=some (x,st')->x≠.ret->Kp n t st st'):
 ∀(m:Nat) (st:St) (x:cY) (st':St),n<=st.heap.length->fW b step m st=some (x,st')->x≠.ret->Kp n t st st'
 | 0,_,_,_,_,h,_=>by cases h
 | m+1,st,x,st',k,a,j=>by
  simp only[fW] at a;have c:=i st k;split at a
  .rename_i f he;have g:=d _ _ _ c.1 he (by intro e;cases e);exact (c.tr g).tr (Kp.loop i d m f x st' g.1 a j)
  .exact c.tr (d _ _ _ c.1 a j)
theorem K2{a b:Bool}(h:(a&&b)=true): a=true/\b=true:=by simpa using h
theorem lU[aG](g:Aa cf)(m:fl<=n): ∀(c:bV) (st:St) (x:cY) (st':St),kpt t c=true->n<=st.heap.length->eQ P cf lf fl c st=some (x,st')->x≠.ret->Kp n t st st'
 | .skip,st,x,st',_,f,d,_=>by simp only[eQ] at d;cases d;exact .same f rfl
 | .exit _,st,x,st',_,f,d,_=>by simp only[eQ] at d;cases d;exact .same f rfl
 | .ret,st,x,st',_,f,d,o=>by simp only[eQ] at d;cases d;exact (o rfl).elim
 | .stop,st,x,st',_,f,d,_=>by simp only[eQ] at d;cases d
 | .region _ I ops,st,x,st',j,f,d,_=>by
  simp only[eQ] at d;split at d
  .rename_i h he;cases d;exact .same (F7 g ops st _ ⟨m,f⟩ (Sj he)).2 (aH2 j (Sj he))
  .cases d
 | .seq a b,st,x,st',j,f,d,o=>by
  obtain⟨p,q⟩:=K2 j;simp only[eQ] at d;split at d
  .rename_i h he;have k:=lU g m a st _ h p f he (by intro e;cases e);exact k.tr (lU g m b h x st' q k.1 d o)
  .exact lU g m a st x st' p f d o
 | .cond c a b,st,x,st',j,f,d,o=>by
  obtain⟨p,q⟩:=K2 j;simp only[eQ] at d;split at d
  .exact lU g m a st x st' p f d o
  .exact lU g m b st x st' q f d o
  .cases d
 | .block id c,st,x,st',j,f,d,o=>by
  simp only[eQ] at d;split at d
  .rename_i i h he;have k:=lU g m c st _ h j f he (by intro e;cases e);split at d<;>cases d<;>exact k
  .exact lU g m c st x st' j f d o
 | .scope c,st,x,st',j,f,d,o=>by
  simp only[eQ] at d;exact lU g m c st x st' j f d o
 | .loop live tr c,st,x,st',j,f,d,o=>by
  obtain⟨p,q⟩:=K2 j;simp only[eQ] at d;exact Kp.loop (λs z=>Kp.head z f m (λl e=>by rw[e] at p;exact p)) (λs y s' z he G=>lU g m c s y s' q z he G) lf st x st' f d o
 | .frz u c,st,x,st',j,f,d,o=>by
  obtain⟨p,q⟩:=K2 j;simp only[eQ] at d;split at d
  .rename_i v H he;have r:n<=H.length:=(aBZ g ⟨m,f⟩ he).2;have k:Kp n t st ⟨st.tmps.set u v,H⟩:=.same r (Zv (YE (by simpa using p)));exact k.tr (lU g m c _ x st' q r d o)
  .cases d
 | .mask D C tr c,st,x,st',j,f,d,o=>by
  obtain⟨p,q⟩:=K2 j;simp only[eQ,Fa] at d;split at d
  .rename_i F h he;split at d
   .cases d;exact (o rfl).elim
   .cases d;have k:=lU g m c st _ h q f he (by intro e;cases e);exact k.tr (Kp.head k.1 f m (λl e=>by cases e;exact p))
   .cases d;have k:=lU g m c st _ h q f he (by intro e;cases e);exact k.tr (Kp.head k.1 f m (λl e=>by cases e;exact p))
  .cases d
 | .told w D C c,st,x,st',j,f,d,o=>by
  obtain⟨p,q⟩:=K2 j;obtain⟨E,A⟩:=K2 p;have B:Kp n t st ⟨cZ w st.tmps,st.heap⟩:=.same f (IY _ _ _ (aMx E));simp only[eQ,Fa] at d;split at d
  .rename_i F h he;split at d
   .cases d;exact (o rfl).elim
   .cases d;have k:=lU g m c ⟨cZ w st.tmps,st.heap⟩ _ h q f he (by intro e;cases e);exact (B.tr k).tr (Kp.head k.1 f m (λl e=>by cases e;exact A))
   .cases d;have k:=lU g m c ⟨cZ w st.tmps,st.heap⟩ _ h q f he (by intro e;cases e);exact (B.tr k).tr (Kp.head k.1 f m (λl e=>by cases e;exact A))
  .cases d
 | .nilIf ..,st,x,st',j,f,d,o=>by cases j
 | .loopV ..,st,x,st',j,f,d,o=>by cases j
theorem aFO{c:bV}: ∀{l:List Nat},kpL c l=true->∀t∈l,kpt t c=true
 | [],_,t,a=>by cases a
 | u::l,h,t,a=>by
  simp only[kpL] at h;split at h
  .rename_i b;rcases ZO.1 a with rfl | a
   .exact b
   .exact aFO h t a
  .cases h
end
section
variable [dQ]{H H1:TH}{n:Nat}
theorem aRX{n m:Nat}(h:n<=m)(v:TV): dA m (dA n v)=dA n v:=by
 have k:∀i,Nat.blt i n=true->Nat.blt i m=true:=λi e=>by
  have:i<n:=by simpa [YF] using e
  simpa [YF] using YN this h
 cases v with
 | fn vi cs=>cases cs<;>rfl
 | ms i m=>simp only[dA];cases a:Nat.blt i n with | true=>simp only[dA,k _ a] | false=>rfl
 | ptr i o=>simp only[dA];cases a:Nat.blt i n with | true=>simp only[dA,k _ a] | false=>rfl
 | pel i j o=>simp only[dA];cases a:Nat.blt i n with | true=>simp only[dA,k _ a] | false=>rfl
 | mp i=>simp only[dA];cases a:Nat.blt i n with | true=>simp only[dA,k _ a] | false=>rfl
 | it i=>simp only[dA];cases a:Nat.blt i n with | true=>simp only[dA,k _ a] | false=>rfl
 | rs i m=>simp only[dA];cases a:Nat.blt i n with | true=>simp only[dA,k _ a] | false=>rfl
 | rel i m j o=>simp only[dA];cases a:Nat.blt i n with | true=>simp only[dA,k _ a] | false=>rfl
 | _=>rfl
theorem aCm{n m:Nat}(h:n<=m)(v:TV): jC m (jC n v)=jC n v:=by
 have k:∀i,Nat.blt i n=true->Nat.blt i m=true:=λi e=>by
  have:i<n:=by simpa [YF] using e
  simpa [YF] using YN this h
 cases v with
 | fn vi cs=>simp only[jC,Yc];congr 1;exact ZV λc _=>aRX h c
 | ms i x=>simp only[jC,dA];cases a:Nat.blt i n with | true=>simp only[jC,dA,k _ a] | false=>rfl
 | ptr i o=>simp only[jC,dA];cases a:Nat.blt i n with | true=>simp only[jC,dA,k _ a] | false=>rfl
 | pel i j o=>simp only[jC,dA];cases a:Nat.blt i n with | true=>simp only[jC,dA,k _ a] | false=>rfl
 | mp i=>simp only[jC,dA];cases a:Nat.blt i n with | true=>simp only[jC,dA,k _ a] | false=>rfl
 | it i=>simp only[jC,dA];cases a:Nat.blt i n with | true=>simp only[jC,dA,k _ a] | false=>rfl
 | rs i x=>simp only[jC,dA];cases a:Nat.blt i n with | true=>simp only[jC,dA,k _ a] | false=>rfl
 | rel i x j o=>simp only[jC,dA];cases a:Nat.blt i n with | true=>simp only[jC,dA,k _ a] | false=>rfl
 | _=>rfl
theorem aRW{n m:Nat}(h:n<=m)(v:TV): wE m (wE n v)=wE n v:=by
 have k:∀i,Nat.blt i n=true->Nat.blt i m=true:=λi e=>by
  have:i<n:=by simpa [YF] using e
  simpa [YF] using YN this h
 cases v with
 | agg cs=>simp only[wE,Yc];congr 1;exact ZV λc _=>aCm h c
 | fn vi cs=>exact aCm h (.fn vi cs)
 | ms i x=>simp only[wE,jC,dA];cases a:Nat.blt i n with | true=>simp only[wE,jC,dA,k _ a] | false=>rfl
 | ptr i o=>simp only[wE,jC,dA];cases a:Nat.blt i n with | true=>simp only[wE,jC,dA,k _ a] | false=>rfl
 | pel i j o=>simp only[wE,jC,dA];cases a:Nat.blt i n with | true=>simp only[wE,jC,dA,k _ a] | false=>rfl
 | mp i=>simp only[wE,jC,dA];cases a:Nat.blt i n with | true=>simp only[wE,jC,dA,k _ a] | false=>rfl
 | it i=>simp only[wE,jC,dA];cases a:Nat.blt i n with | true=>simp only[wE,jC,dA,k _ a] | false=>rfl
 | rs i x=>simp only[wE,jC,dA];cases a:Nat.blt i n with | true=>simp only[wE,jC,dA,k _ a] | false=>rfl
 | rel i x j o=>simp only[wE,jC,dA];cases a:Nat.blt i n with | true=>simp only[wE,jC,dA,k _ a] | false=>rfl
 | _=>rfl
theorem aGr{n m:Nat}(h:n<=m)(o:qD): iE m (iE n o)=iE n o:=by
 cases o with
 | box cs=>simp only[iE,Yc];congr 1;exact ZV λc _=>aCm h c
 | rows s es=>simp only[iE,Yc];congr 1;exact ZV λe _=>by simp only[Function.comp,Yc];exact ZV λc _=>aCm h c
 | fr k a=>
  simp only[iE];cases d:Nat.ble k n with
  | true=>simp only[iE,Yw (ZB (Zn d) h)]
  | false=>rfl
 | _=>rfl
theorem aOJ{v:TV}{a:AV}(q:Qh H v a): Qh ((H.take n).map (iE n)) (wE n v) a:=by
 cases v with
 | agg cs=>
  obtain⟨aw,rfl,c⟩:=q.inA;exact Qh.mkA (c.mapL λ_ _ q=>(Cy q).2)
 | undef=>exact Qh.u _
 | tup=>exact Qh.u _
 | _=>exact (Cy (n:=n) q).2
theorem aWx{v:TV}{a b:AV}(c:n=H.length)(q:Qh H v a)(h:ClA n a b): Qh (H.map (iE n)) (wE n v) b:=by
 induction h with
 | r=>
  have:=aOJ (n:=n) q;rw[c,XU] at this;rw[c];exact this
 | s b m d _ f=>
  have:=aIc (n:=m) f;rw[aRW d,ZC (by simp;omega),Yc] at this;have e:iE m∘iE n=iE n:=funext λo=>aGr d o;rw[e] at this;exact this
theorem aWy{o:qD}{a b:dK}(c:n=H.length)(q:Qo H o a)(h:ClO n a b): Qo (H.map (iE n)) (iE n o) b:=by
 induction h with
 | r=>
  have:=(l8 (n:=n) q).2;rw[c,XU] at this;rw[c];exact this
 | s b m d _ f=>
  have:=(l8 (n:=m) f).1;rw[aGr d,ZC (by simp;omega),Yc] at this;have e:iE m∘iE n=iE n:=funext λo=>aGr d o;rw[e] at this;exact this
end
section
variable [dQ]{R:Type}{H H1:TH}{A:aY}{N:Nat}{S:TS}{st:St}{P:Program}{T:List cS}{cf:CF}{op:Ia}{K:TV->TS->Option R}{r:R}{E:XE}{n:Nat}{d:Option Nat}
def Mu{P:Type}(Q:(o:Sp P)->o.lay.V->Prop): (l:List (Sp P))->qE l->Prop
 | [],t=>t.elim
 | [o],t=>Q o t
 | o::o'::r,t=>match t with
  | .inl t=>Q o t
  | .inr s=>Mu Q (o'::r) s
theorem Mu.two{P:Type}{Q b:(o:Sp P)->o.lay.V->Prop}: ∀{l:List (Sp P)} {t:qE l},Mu Q l t->Mu b l t->∃o∈l,∃t,Q o t/\b o t
 | [],t,_,_=>t.elim
 | [o],t,h,k=>⟨o,ZP,t,h,k⟩
 | o::a::r,.inl t,h,k=>⟨o,ZP,t,h,k⟩
 | o::a::r,.inr t,h,k=>let ⟨o,c,t,h⟩:=Mu.two (l:=a::r) h k;⟨o,ZU _ c,t,h⟩
theorem aGJ{P R:Type}{p:P}{b:Bool}{K:cY->TS->Option R}{r:R}: ∀{l:List (Sp P)} {x:Option (qE l)},swO p b l x K=some r->∃t,x=some t/\Mu (λo t=>K o.x (o.lay.mk' (o.pr p) t)=some r) l t
 | [],x,h=>by cases h
 | [o],x,h=>by
  simp only[swO] at h;obtain⟨t,rfl,h⟩:=bF h;refine⟨t,rfl,?_⟩;split at h
  .exact aLk h
  .exact h
 | o::a::l,x,h=>by
  simp only[swO] at h;rcases aJz h with⟨t,rfl,h⟩ | ⟨s,rfl,h⟩
  .refine⟨.inl t,rfl,?_⟩;split at h
   .exact aLk h
   .exact h
  .obtain⟨t,e,h⟩:=aGJ (l:=a::l) h;cases e;exact⟨.inr _,rfl,h⟩
theorem aGF: ∀{os:List OL} {H:TH} {c:List TV},upO os H=some c->H.length=os.length
 | [],H,c,h=>by
  cases H with
  | nil=>rfl
  | cons=>cases h
 | o::os,H,c,h=>by
  cases H with
  | nil=>cases h
  | cons b H=>
   simp only[upO] at h;split at h
   .cases h
   .rename_i vs a;simp[aGF a]
theorem k8{L:Dy}{S:TS}{x:L.P×L.V}(h:L.get S=some x): S.hp.length=L.os.length:=by
 unfold Dy.get at h;split at h
 .split at h
  .rename_i a;exact aGF a
  .cases h
 .cases h
theorem aR2{L:Dy}{p:L.P}{q:L.V}(h:L.get S=some (p,q))(i k k':Nat)(l:List (den k))(c:List (den k'))(f:S.hp[i]?=some (.lst k l))(n:(L.mk' p q).hp[i]?=some (.lst k' c)): c.length=l.length:=by
 unfold Dy.get at h;split at h
 .split at h
  .rename_i m a;split at h
   .rename_i o b;split at h
    .cases h;have g:=Nv (H:=S.hp) b;have e:=aJQ a;have j:cA (Rj S.hp) ((mkV L.ss p q).take (nO L.os)) m:=by
      have:=g.take (nO L.os);rw[<-e,Xv] at this;rw[e] at this;exact this
     exact vX a j i k k' l c f n
    .cases h
   .cases h
  .cases h
 .cases h
theorem aH6{kl:List Nat}: ∀{i:Nat} {H H':TH},B2 kl i H H'=true->∀(j k:Nat) (l:List (den k)),i+j∉kl->H[j]?=some (.lst k l)->∃(k':Nat) (f:List (den k')),H'[j]?=some (.lst k' f)
 | i,[],H',h,j,k,l,_,c=>by simp at c
 | i,a::r,[],h,_,_,_,_,_=>by cases h
 | i,a::r,b::s,h,j,k,l,n,c=>by
  have o:B2 kl (i+1) r s=true->∀e,j=e+1->∃(k':Nat) (f:List (den k')),(b::s)[j]?=some (.lst k' f):=by
   rintro q e rfl;obtain⟨k',f,g⟩:=aH6 q e k l (by rw[Yt,Wj 1];exact n) (by simpa using c);exact⟨k',f,by simpa using g⟩
  simp only[B2] at h;cases j with
  | succ e=>
   refine o ?_ e rfl;split at h
   .split at h
    .exact h
    .split at h
     .exact h
     .cases h
   .exact h
  | zero=>
   simp only[Zt,Zb] at c;subst c;simp only at h;split at h
   .exact⟨_,_,rfl⟩
   .split at h
    .rename_i p;exact absurd p (by rw[aFN (by simpa using n)];simp)
    .cases h
theorem aHx{os:List OL}: ∀{l:List Nat},aNT os l=true->∀i∈l,os[i]?=some .gone
 | [],_,i,a=>by cases a
 | j::l,h,i,a=>by
  simp only[aNT] at h;split at h
  .rename_i o b;split at h
   .rcases ZO.1 a with rfl | a
    .exact b
    .exact aHx h i a
   .cases h
  .cases h
theorem A3: ∀{os:List OL} {vs:List TV} {i:Nat} {o:qD},os[i]?=some .gone->(N9 os vs)[i]?=some o->o=.gone
 | [],vs,i,o,h,_=>by simp at h
 | c::os,vs,0,o,h,a=>by
  simp only[Zt,Zb] at h;subst h;simp only[N9,Zt,Zb] at a;exact a.symm
 | c::os,vs,i+1,o,h,a=>by
  have b:os[i]?=some .gone:=by simpa using h
  clear h;cases c<;>simp only[N9] at a<;>first
   | exact A3 b (by simpa using a)
   | (split at a<;>first | exact A3 b (by simpa using a) | (simp at a))
theorem wD{L:Dy}{S:TS}{x:L.P×L.V}(h:L.fit S=some x): L.get S=some x/\∀i∈L.fo,L.os[i]?=some .gone:=by
 unfold Dy.fit at h;split at h
 .rename_i e;exact⟨h,aHx e⟩
 .cases h
theorem i7{n:Nat}{φ:Nat->dK}: ∀{l:List Nat} {H:TH},(ovO n φ l H).length=H.length
 | [],_=>rfl
 | _::r,H=>by simp[ovO,i7 (l:=r)]
theorem aBt{n:Nat}{φ:Nat->dK}{i:Nat}: ∀{l:List Nat} {H:TH},i∉l->(ovO n φ l H)[i]?=H[i]?
 | [],_,_=>rfl
 | j::r,H,h=>by
  simp only[ZO,not_or] at h;rw[ovO,Zv (λe=>h.1 e.symm)];exact aBt h.2
theorem aF8{n:Nat}{φ:Nat->dK}{i:Nat}: ∀{l:List Nat} {H:TH},i∈l->i<H.length->(ovO n φ l H)[i]?=some (.fr n (φ i))
 | j::r,H,h,a=>by
  rw[ovO,Z8];split
  .rename_i e;subst e;rw[Zu (by rw[i7];exact a)]
  .rename_i e;rcases ZO.1 h with rfl | h
   .exact (e rfl).elim
   .exact aF8 h a
theorem i4{kl:List Nat}{n:Nat}{a:TH}: ∀{l:List Nat} {H:TH},(rsO kl n a l H).length=H.length
 | [],_=>rfl
 | _::r,H=>by
  simp only[rsO];split<;>simp[i4 (l:=r)]
theorem u7{kl:List Nat}{n i:Nat}{a:TH}: ∀{l:List Nat} {H:TH},i∉l->(rsO kl n a l H)[i]?=H[i]?
 | [],_,_=>rfl
 | j::r,H,h=>by
  simp only[ZO,not_or] at h;rw[rsO];split
  .rw[Zv (λe=>h.1 e.symm)];exact u7 h.2
  .exact u7 h.2
theorem aBd{kl:List Nat}{n i:Nat}{d:TH}{o:qD}(c:d[i]?=some o): ∀{l:List Nat} {H:TH},i∈l->i<H.length->(rsO kl n d l H)[i]?=some (Vx kl (iE n o))
 | j::r,H,h,b=>by
  rw[rsO];rcases ZO.1 h with rfl | h
  .rw[c];exact Z7 (by rw[i4];exact b)
  .split
   .rename_i f a;rw[Z8];split
    .rename_i e;subst e;rw[c] at a;cases a;rw[Zu (by rw[i4];exact b)]
    .exact aBd c h b
   .exact aBd c h b
theorem aPJ{L:Dy}{n:Nat}{φ:Nat->dK}{p:L.P}{q:L.V}(h:∀i∈L.fo,L.os[i]?=some .gone): HM (L.mk' p q).hp (L.mkG n φ p q).hp:=by
 intro i k l a;have b:i∉L.fo:=λc=>by cases A3 (h i c) a
 exact⟨k,l,by rw[<-a];exact aBt b,rfl⟩
theorem aT9{L:Dy}{n:Nat}{φ:Nat->dK}{p:L.P}{q:L.V}(h:∀i∈L.fo,L.os[i]?=some .gone)(c:Qt N (L.mk' p q) st)(k:∀i∈L.fo,∀b,st.heap[i]?=some b->ClO n (φ i) b): Qt N (L.mkG n φ p q) st:=by
 refine Qt.hpM (S:=L.mk' p q) (st:=st) c (aPJ h) (cA.of (by rw[c.hp.len];exact i7.symm) λj o b d f=>?_);by_cases e:j∈L.fo
 .have g:j<(L.mk' p q).hp.length:=by rw[<-c.hp.len];exact (Ze.1 f).1
  rw[aF8 e g] at d;cases d;exact k j e b f
 .rw[aBt e] at d;exact (c.hp.at d f).mono (aPJ h)
theorem aBT{L:Dy}{p:L.P}{q:L.V}{n:Nat}{φ:Nat->dK}(h:L.fit S=some (p,q))(a:Qt N S st)(c:∀i∈L.fo,∀b,st.heap[i]?=some b->ClO n (φ i) b): Qt N (L.mkG n φ p q) st:=
 aT9 (wD h).2 (aLI (wD h).1 a) c
theorem aHb{n:Nat}{φ:Nat->dK}{H:TH}: ∀{l:List Nat},aN5 n H l=some (l.map φ)->∀i∈l,H[i]?=some (.fr n (φ i))
 | [],_,i,a=>by cases a
 | j::l,h,i,a=>by
  simp only[aN5] at h;split at h
  .rename_i o c;split at h
   .split at h
    .rename_i e;have e:=Zc e;subst e;split at h
     .rename_i f b;simp only[ZH,Zb,XZ] at h;obtain⟨rfl,rfl⟩:=h;rcases ZO.1 a with rfl | a
      .exact c
      .exact aHb b i a
     .cases h
    .cases h
   .cases h
  .cases h
theorem k9{L:Dy}{p:L.P}{q:L.V}{n:Nat}{φ:Nat->dK}(h:L.getF n S=some (L.fo.map φ,p,q))(a:Qt N S st): Qt N (L.mkG n φ p q) st:=by
 unfold Dy.getF at h;split at h
 .rename_i f e;split at h
  .rename_i x g;simp only[Zb,Zj] at h;obtain⟨rfl,rfl⟩:=h;exact aBT g a λi c b d=>a.hp.at (aHb e i c) d
  .cases h
 .cases h
theorem aDB{t:Nat}{v:TV}{B:TT}: ∀{A:TT},dD t (A++B)=some v->dD t A=some v\/dD t B=some v
 | [],h=>.inr h
 | (s,u)::A,h=>by
  simp only[Vf,dD] at h |-;split at h
  .exact .inl h
  .exact aDB h
theorem B6{kl:List Nat}{n t:Nat}{c:TT}{v:TV}: ∀{l:List Nat},dD t (rsT kl n c l)=some v->t∈l/\∃u,dD t c=some u/\v=JA kl (wE n u)
 | [],h=>by cases h
 | s::l,h=>by
  simp only[rsT] at h;split at h
  .rename_i u d;simp only[dD] at h;split at h
   .rename_i e;have e:=Zc e;subst e;cases h;exact⟨ZP,u,d,rfl⟩
   .obtain⟨a,b⟩:=B6 h;exact⟨ZU _ a,b⟩
  .obtain⟨a,b⟩:=B6 h;exact⟨ZU _ a,b⟩
structure OKo(sp:N3)(p:sp.ins.P)(q:sp.ins.V)(o:Sp sp.ins.P): Prop where
 fo:o.lay.fo=sp.ins.fo
 hm:∀t,HMk sp.kl (sp.ins.mk' p q).hp (o.lay.mk' (o.pr p) t).hp
 ln:∀t,(sp.ins.mk' p q).hp.length<=(o.lay.mk' (o.pr p) t).hp.length
theorem aE1{n i k:Nat}{l:List (den k)}(h:(H.map (iE n))[i]?=some (.lst k l)): H[i]?=some (.lst k l):=by
 rw[Zl,Zq] at h;obtain⟨o,b,a⟩:=h;cases o<;>simp only[iE] at a<;>first | (cases a;done) | (cases a;exact b) | (split at a<;>cases a)
section
variable {N':Nat}{S1:TS}{st1 st2:St}{sp:N3}{p:sp.ins.P}{q:sp.ins.V}{o:Sp sp.ins.P}{φ:Nat->dK}{u:o.lay.V}
theorem aK2(F:Qt N S1 st1)(E:sp.ins.fit S1=some (p,q))(U:B2 (sp.kl++sp.ins.fo) 0 S1.hp (sp.ins.mk' p q).hp=true)(Y:∀i∈sp.ins.fo,∀b,st1.heap[i]?=some b->b=φ i)(G:OKo sp p q o)(s:Qt N' (o.lay.mkG sp.ins.os.length φ (o.pr p) u) st2): HMk sp.kl S1.hp (rsO sp.kl S1.hp.length S1.hp sp.ins.fo (o.lay.mk' (o.pr p) u).hp)/\Qt N' ⟨(o.lay.mk' (o.pr p) u).tm,rsO sp.kl S1.hp.length S1.hp sp.ins.fo (o.lay.mk' (o.pr p) u).hp⟩ st2:=by
 have m:S1.hp.length=sp.ins.os.length:=k8 (wD E).1;have I:S1.hp.length=(sp.ins.mk' p q).hp.length:=by
  rw[<-F.hp.len];exact (aLI (wD E).1 F).hp.len
 have e:st2.heap.length=(o.lay.mk' (o.pr p) u).hp.length:=by rw[s.hp.len];exact i7
 have L:∀i a,S1.hp[i]?=some a->i<(o.lay.mk' (o.pr p) u).hp.length:=λi a h=>by
  have h1:=(Ze.1 h).1;have h2:=G.ln u;omega
 have O:HMk sp.kl S1.hp (rsO sp.kl S1.hp.length S1.hp sp.ins.fo (o.lay.mk' (o.pr p) u).hp):=by
  intro i k l g n;by_cases f:i∈sp.ins.fo
  .exact⟨k,l,by rw[aBd n f (L i _ n)];rfl,rfl⟩
  .obtain⟨k',M,Q⟩:=aH6 U i k l (by rw[ZZ];simp[g,f]) n;obtain⟨Z,V,X,W⟩:=G.hm u i k' M g Q;exact⟨Z,V,by rw[u7 f];exact X,by rw[W];exact aR2 (wD E).1 i k k' l M n Q⟩
 have x:∀i,i∉sp.ins.fo->(o.lay.mkG sp.ins.os.length φ (o.pr p) u).hp[i]?=(o.lay.mk' (o.pr p) u).hp[i]?:=λi g=>aBt (by rw[G.fo];exact g);have v:∀i,i∈sp.ins.fo->i<(o.lay.mk' (o.pr p) u).hp.length->(o.lay.mkG sp.ins.os.length φ (o.pr p) u).hp[i]?=some (.fr sp.ins.os.length (φ i)):=λi g n=>aF8 (by rw[G.fo];exact g) n;have D:HM (o.lay.mkG sp.ins.os.length φ (o.pr p) u).hp (rsO sp.kl S1.hp.length S1.hp sp.ins.fo (o.lay.mk' (o.pr p) u).hp):=by
  intro i k l g;have K:i<(o.lay.mk' (o.pr p) u).hp.length:=by rw[<-e,s.hp.len];exact (Ze.1 g).1
  by_cases f:i∈sp.ins.fo
  .rw[v i f K] at g;cases g
  .exact⟨k,l,by rw[u7 f,<-x i f];exact g,rfl⟩
 refine⟨O,Qt.hpM (S:=o.lay.mkG sp.ins.os.length φ (o.pr p) u) s D (cA.of (by rw[i4];exact e) λj a b H r=>?_)⟩;have A:j<(o.lay.mk' (o.pr p) u).hp.length:=by rw[<-e];exact (Ze.1 r).1
 by_cases f:j∈sp.ins.fo
 .have y:ClO sp.ins.os.length (φ j) b:=s.hp.at (v j f A) r;have C:j<S1.hp.length:=by rw[m];exact (Ze.1 ((wD E).2 j f)).1
  have J:j<st1.heap.length:=by rw[F.hp.len];exact C
  have z:=Za C;have t:=Za J;rw[aBd z f A] at H;cases H;have R:=F.hp.at z t;rw[Y j f _ t] at R;rw[<-m] at y;exact aDK (λi k l g n=>O i k l g (aE1 n)) (aWy rfl R y)
 .rw[u7 f,<-x j f] at H;exact (s.hp.at H r).mono D
theorem aM4{S:TS}{x:cY}(s:Qt N S st)(I:Qt N S1 st1)(r:S1.hp.length=S.hp.length)(A:∀(i k:Nat) (l:List (den k)),S.hp[i]?=some (.lst k l)->S1.hp[i]?=some (.lst k l))(D:sp.ins.fit S1=some (p,q))(Q:B2 (sp.kl++sp.ins.fo) 0 S1.hp (sp.ins.mk' p q).hp=true)(O:∀i∈sp.ins.fo,∀b,st1.heap[i]?=some b->b=φ i)(L:OKo sp p q o)(V:Qt N (o.lay.mkG sp.ins.os.length φ (o.pr p) u) st2)(K:x≠.ret->∀t∈sp.kt,Kp sp.ins.os.length t st st2): Qt N (aft sp S.tm S1.hp x (o.lay.mk' (o.pr p) u)) st2:=by
 obtain⟨F,n⟩:=aK2 I D Q O L V;have h:S1.hp.length=sp.ins.os.length:=k8 (wD D).1;have f:x≠.ret->Qt N ⟨(o.lay.mk' (o.pr p) u).tm++rsT sp.kl S1.hp.length S.tm sp.kt,rsO sp.kl S1.hp.length S1.hp sp.ins.fo (o.lay.mk' (o.pr p) u).hp⟩ st2:=by
  intro J;refine⟨n.ln,λt v g=>?_,n.hp⟩;rcases aDB g with g | g
  .exact n.tm t v g
  .obtain⟨M,w,E,rfl⟩:=B6 g;obtain⟨a,G,R⟩:=s.tm t w E;obtain⟨b,y,C⟩:=(K J t M).2 a G;refine⟨b,y,?_⟩;rw[<-h] at C;exact Ot (λi k l H r=>F i k l H (A i k l (aE1 r))) (aWx r R C)
 cases x with
 | ret=>exact n
 | normal=>exact f (by intro e;cases e)
 | exit j=>exact f (by intro e;cases e)
end
def IOK[aG](P:Program)(T:List cS)(sp:ISp): Prop:=∀n p q t,sp.s.F n p q=some t->∀φ aw H,aw.length=sp.na->sp.fl<=H.length->Qt aw.length (sp.s.ins.mkG sp.s.ins.os.length φ p q) ⟨aw,H⟩->
 ∃aw' H',fC P T n sp.fl sp.vi aw H=some (jV aw',H')/\aw'.length=sp.nr/\Mu (λo t=>Qt sp.nr (o.lay.mkG sp.s.ins.os.length φ (o.pr p) t) ⟨aw',H'⟩/\OKo sp.s p q o) sp.s.outs t
theorem aHR: ∀{vs:List TV} {aw:List AV} {i t:Nat} {v:TV},Qc H vs aw->dD t (TL i vs)=some v->∃j a,t=i+j/\aw[j]?=some a/\Qh H v a
 | [],_,i,t,v,_,h=>by cases h
 | u::vs,a::aw,i,t,v,q,h=>by
  simp only[TL,dD] at h;split at h
  .rename_i e;have e:=Zc e;cases h;exact⟨0,a,by omega,rfl,q.1⟩
  .obtain⟨j,b,f,d,c⟩:=aHR q.2 h;exact⟨j+1,b,by omega,by simpa using d,c⟩
theorem aCf{vs:List TV}{aw:List AV}(b:Qs H A)(q:Qc H vs aw): Qt aw.length ⟨TL 0 vs,H⟩ ⟨aw,A⟩:=by
 refine⟨rfl,λt v f=>?_,b⟩;obtain⟨j,a,e,c,d⟩:=aHR q f;exact⟨a,by rw[e,ZZ];exact c,d⟩
theorem aPF{c t:Nat}{b:List AV}{e:aY}(h:Qt c S ⟨b,e⟩)(f:t<c): ∃a,b[t]?=some a/\Qh S.hp (match dD t S.tm with | some v=>v | none=>.undef) a:=by
 cases d:dD t S.tm with
 | some v=>exact h.tm t v d
 | none=>exact⟨b[t]'(by rw[h.ln];exact f),Za _,Qh.u _⟩
theorem aN1{d:Nat}{c:List AV}{o:aY}(h:Qt d S ⟨c,o⟩): Qh S.hp (aQA d S.tm) (jV c):=by
 have q:c.length=d:=h.ln;have f:∀d,Qt d S ⟨c,o⟩->Qh S.hp (.tup ((List.range d).map λj=>match dD j S.tm with | some v=>v | none=>.undef)) (.tup c):=by
  intro d h;refine Qh.mkT (cA.of (by simp[h.ln]) λj v a p k=>?_);rw[Zl,Zq] at p;obtain⟨n,l,rfl⟩:=p;have e:n=j:=by
   rw[Y2 (by rw[<-h.ln];exact (Ze.1 k).1)] at l;cases l;rfl
  subst e;obtain⟨b,g,i⟩:=aPF h (t:=n) (by rw[<-h.ln];exact (Ze.1 k).1);rw[k] at g;cases g;exact i
 match d,c,h,q with
 | 0,[],h,_=>exact f 0 h
 | 1,[a],h,_=>
  obtain⟨b,g,i⟩:=aPF h (t:=0) (by omega);cases g;exact i
 | m+2,a::b::r,h,_=>exact f _ h
theorem Qx[aG]{fl vi:Nat}{vs:List TV}{aw:List AV}(d:fl<=st.heap.length)(v:Qt N S st)(q:Qc S.hp vs aw): ∀{l:List ISp},(∀sp∈l,IOK P T sp)->Da n fl vi vs S K l=some r->
 ∃a A tv m,fC P T n fl vi aw st.heap=some (a,A)/\Qt N m ⟨st.tmps,A⟩/\Qh m.hp tv a/\K tv m=some r
 | [],_,h=>by cases h
 | sp::l,y,h=>by
  have e:Da n fl vi vs S K l=some r->_:=Qx d v q λsp h=>y sp (ZU _ h);simp only[Da] at h;split at h
  .exact e h
  .rename_i w;have w:=Zc w;split at h
   .exact e h
   .rename_i e2;have e2:=Zc e2;split at h
    .exact e h
    rename_i k;have k:=Zc k;split at h
    .rename_i p q' x;split at h
     .rename_i j;obtain⟨t,G,g⟩:=aGJ h;have f:=aCf v.hp q;let φ:Nat->dK:=λi=>(st.heap[i]?).getD default;have z:∀i b,st.heap[i]?=some b->b=φ i:=λi b c=>by show b=(st.heap[i]?).getD default;rw[c];rfl
      obtain⟨H,H',C,L,F⟩:=y sp ZP n p q' t G φ aw st.heap (by rw[q.len];exact k) (by rw[e2];exact d) (aBT x f λi M b c=>by rw[z i b c];exact .r _);obtain⟨o,_,u,⟨J,E⟩,D⟩:=Mu.two F g;obtain⟨I,B⟩:=aK2 f x j (λi _ b c=>z i b c) E J;exact⟨_,H',aQA sp.nr (o.lay.mk' (o.pr p) u).tm,⟨aDI sp.kl S.tm,rsO sp.kl S.hp.length S.hp sp.s.ins.fo (o.lay.mk' (o.pr p) u).hp⟩,by rw[<-w,<-e2];exact C,aDH v I B.hp,aN1 B,D⟩
     .exact e h
    .exact e h
end
section
variable [dQ]{R:Type}{H H1:TH}{A:aY}{N:Nat}{S:TS}{st:St}{P:Program}{T:List cS}{cf:CF}{op:Ia}{K:TV->TS->Option R}{r:R}{E:XE}{n:Nat}{d:Option Nat}
def aMA[aG](P:Program)(t:TypeId)(e:EqS): Prop:=∀(cf:CF) (fl:Nat) (H:aY) (x y:den e.k) (aw bs:List AV),Qr (kA e.k x) aw->Qr (kA e.k y) bs->
 aQ P cf fl (.bin .eql t (.tmp 0) (.tmp 1)) [tB (ag e.k) aw,tB (ag e.k) bs] H=some (bv (@decide (x=y) (e.dec x y)),H)/\aQ P cf fl (.bin .neq t (.tmp 0) (.tmp 1)) [tB (ag e.k) aw,tB (ag e.k) bs] H=some (bv (!@decide (x=y) (e.dec x y)),H)
def KOK(P:Program)(t:TypeId)(e:aPk): Prop:=aDL (cds e.k)=true/\@N4 (den e.k) e.dec P t (rW e.k)
def aM6(P:Program)(t:TypeId): Prop:=P.underlying t=some .string/\∀s,aR P (Builtin.len_ #[t] 0 #[.string s])=some (.int .i64 ((s.size:Nat):Int))
def aJB(P:Program)(s d:TypeId)(k:IntKind): Prop:=∀j a,aR P (convert s d (.int j a))=some (.int k (k.wrap a))
def aMs(s bytes:Nat)(z:List Value): bV:=(.seq (.region false [] [⟨(some 2),.mov (.lit bQ),none⟩]) (.nilIf 0 3 4 (.seq (.region false [] [⟨(some 2),.mov (.lit bQ),none⟩]) .ret) (.seq (.region false [] [⟨(some 5),.buildSl true s 0 z [],none⟩,⟨(some 6),.mov (.tmp 0),none⟩,⟨(some 7),.append s bytes (.tmp 5) (.tmp 6),none⟩,⟨(some 2),.mov (.tmp 7),none⟩]) .ret)))
def aQj[aG](T:List cS)(vi k:Nat): Prop:=∃fid bytes z,getF T vi=some ⟨fid,8,[.tmp 2],aMs (cds k).length bytes z⟩/\0<(cds k).length/\bytes<=100000
def POK[aG](T:List cS)(vi:Nat): PSp->Prop
 | .srt k=>aG.prim vi=some (qV (ag k) (cds k).length)
 | .cln k=>aQj T vi k
 | .ord k F=>∃g,aG.prim vi=some (qJ g)/\∀fl H id (l:List (den k)) es,fl<=id->H[id]?=some (.blk (cds k).length es)->Ql k l es->l.length<=1000000->
  ∃es',g fl [.ms id l.length 0 l.length] H=some (.tup [],H.set id (.blk (cds k).length es'))/\Ql k (F l) es'/\(F l).length=l.length
 | .ins k=>∃g,aG.prim vi=some (qJ g)/\∀fl H id y (i:Nat) es row,fl<=id->(∃id2,id≠id2/\y=.ms id2 1 0 1/\H[id2]?=some (.blk (cds k).length [row]))->H[id]?=some (.blk (cds k).length es)->row.length=(cds k).length->i<=es.length->es.length<=1000000->
  g fl [.ms id es.length 0 es.length,.lit (.int .i64 (i:Nat)),y] H=some (.ms id (es.length+1) 0 (es.length+1),H.set id (.blk (cds k).length (es.take i++row::es.drop i)))
structure N7[aG](P:Program)(T:List cS)(E:XE): Prop where
 cs:∀vi c,E.cs vi=some c->FOK P T vi c
 eq:∀t e,E.eq t=some e->aMA P t e
 km:∀t e,E.km t=some e->KOK P t e
 st:∀t,E.st t=true->aM6 P t
 cv:∀s d k,E.cv s d=some k->aJB P s d k
 pr:∀vi p,E.pr vi=some p->POK T vi p
 il:∀sp∈E.il,IOK P T sp
 fo:∀cf,Aa cf->Aa (Kx cf)
theorem aGO{α β:Type}: ∀(l:List α) (m:List β) (i:Nat) (a:α) (b:β),(l.zip m).set i (a,b)=(l.set i a).zip (m.set i b)
 | [],_,_,_,_=>by simp
 | _::_,[],i,_,_=>by cases i<;>simp
 | x::l,y::m,0,a,b=>rfl
 | x::l,y::m,i+1,a,b=>by simp[aGO l m i a b]
theorem aCG{k:Nat}{x:den k}{row:List AV}(h:Qr (kA k x) row): Qh H (val k x) (tB (ag k) row):=by
 unfold val tB;cases ag k with
 | true=>exact Qh.mkA h.c
 | false=>
  cases b:kA k x with
  | nil=>exact Qh.u _
  | cons c r=>
   rw[b] at h;cases row with
   | nil=>exact h.elim
   | cons a r=>exact .p _ _ h.1
theorem aQ9{k:Nat}{v:TV}{x:den k}{a:AV}{c:TH}(h:i6 0 c k v=some x)(q:Qh H v a): ∃row,a=tB (ag k) row/\Qr (kA k x) row:=by
 unfold i6 at h;split at h
 .rename_i b;split at h
  .obtain⟨aw,rfl,q'⟩:=q.inA;exact⟨aw,by rw[b];rfl,kH h q'⟩
  .cases h
 .rename_i b;exact⟨[a],by rw[b];rfl,kH h (aw:=[a]) ⟨q,trivial⟩⟩
theorem j8: ∀{cs:List Cd} {p:SF cs},aDL cs=true->qI cs p=(kvC cs p).map .lit
 | [],_,_=>rfl
 | c::r,p,h=>by
  cases c<;>first | (cases h;done) | (simp only[aDL] at h;simp only[qI,kvC,ZH,j8 h];rfl)
theorem aB9: ∀{vs:List Value} {aw:List AV},Qr (vs.map .lit) aw->Fc aw=some vs
 | [],[],_=>rfl
 | v::vs,a::aw,h=>by
  have e:a=.lit v:=by cases h.1;rfl
  subst e;simp only[Fc,aB9 h.2]
theorem aL3{k:Nat}{v:TV}{x:den k}{a:AV}{g:TH}(d:aDL (cds k)=true)(h:i6 0 g k v=some x)(q:Qh H v a): lits a=some (rW k x):=by
 unfold i6 at h;unfold rW;split at h
 .rename_i f;split at h
  .obtain⟨aw,rfl,q'⟩:=q.inA;have b:=kH h q';unfold kA at b;rw[j8 d] at b;simp only[lits,aB9 b,f]
  .cases h
 .rename_i f;have b:=kH h (aw:=[a]) ⟨q,trivial⟩;unfold kA at b;rw[j8 d] at b;generalize kvC (cds k) (dQ.un k x)=vs at b;match vs,b with
  | [v],b=>
   have e:a=.lit v:=by cases b.1;rfl
   subst e;rfl
theorem aJm{kk b:Nat}{m:List (den kk×den b)}{rows:List (List AV)}(h:rows.length=m.length): (fX b m rows).map (·.1)=(m.map (·.1)).map (rW kk):=by
 unfold fX;rw[List.map_fst_zip (by simp[h]),Yc];rfl
theorem aHS{kk b:Nat}{m:List (den kk×den b)}{rows:List (List AV)}{i:Nat}{p:den kk×den b}{row:List AV}(c:m[i]?=some p)(d:rows[i]?=some row): (fX b m rows)[i]?=some (rW kk p.1,tB (ag b) row):=by
 unfold fX;rw[List.getElem?_zip_eq_some];exact⟨by simp[c],by simp[d]⟩
theorem aAy{kt:TypeId}{a:aPk}{c:Nat}{m:List (den a.k×den c)}{rows:List (List AV)}(d:KOK P kt a)(h:rows.length=m.length)(x:den a.k): jX P kt (rW a.k x) (fX c m rows)=some (m.findIdx? λp=>@decide (p.1=x) (a.dec p.1 x)):=by
 rw[aFX (e2:=(m.map (·.1)).map λx=>(rW a.k x,AV.undef)) (by rw[aJm h,Yc,Yc,Yc];rfl),@N4.find _ a.dec _ _ _ d.2];congr 1;rw[List.findIdx?_map];rfl
theorem aH5{kk c:Nat}{v:TV}{a:AV}{m:List (den kk×den c)}(n:Qs H A)(q:Qh H v a)(h:aLq H kk v=some ⟨c,m⟩):
 ∃rows,Qm c m rows/\((a=.lit (.map none)/\m=[])\/a=.rmp (fX c m rows)\/∃id,a=.mp id/\v=.mp id/\A[id]?=some (.mp (fX c m rows))/\id<H.length):=by
 unfold aLq at h;split at h
 .split at h
  .rename_i g;cases h;obtain⟨e,i,h⟩:=LJ g;subst e;cases i;subst h;obtain⟨rows,d,f⟩:=(q.pu trivial).inM;rcases d with d | d
   .exact⟨rows,f,.inl d⟩
   .exact⟨rows,f,.inr (.inl d)⟩
  .cases h
 .split at h
  .rename_i o k;split at h
   .split at h
    .rename_i g;cases h;obtain⟨e,i,h⟩:=LJ g;subst e;cases i;subst h;obtain⟨b,l,rows,rfl,f⟩:=n.get k;exact⟨rows,f,.inr (.inr ⟨_,q.mp1,rfl,l,(Ze.1 k).1⟩)⟩
    .cases h
   .cases h
  .cases h
 .cases h
theorem B5[aG]{kt:TypeId}{z m k:bC}{ok:Bool}(U:N7 P T E)(t:Qt N S st)(h:cT E n d (.lookup kt z m k ok) S K=some r): dG P cf E.fl N (.lookup kt z m k ok) st K r:=by
 simp only[cT] at h;split at h
 .rename_i o L;have A:=U.km kt o L;split at h
  .rename_i g y;have f:=aL3 A.1 y (t.get k);split at h
   .rename_i p W;obtain⟨w,x⟩:=p;obtain⟨rows,O,c⟩:=aH5 t.hp (t.get m) W;split at h
    .rename_i M Y;have V:Qh S.hp (val w M) (aH st.tmps z):=aTp Y (t.get z);have G:∃a,Qh S.hp (val w ((@bD _ _ o.dec x g).getD M)) a/\aQ P cf E.fl (.lookup kt z m k ok) st.tmps st.heap=some (if ok then .tup [a,.lit (.bool (@bD _ _ o.dec x g).isSome)] else a,st.heap):=by
      have q:jX P kt (rW o.k g) (fX w x rows)=_:=aAy A O.len g;have u:∀e,aR P (Instr.checkKey e 10000 kt (rW o.k g))=some ():=λe=>@N4.chk _ o.dec _ _ _ A.2 e g;rcases @A9 _ _ o.dec _ g x with⟨j,F⟩ | ⟨i,v,j,F,I⟩
      .refine⟨aH st.tmps z,by rw[j];exact V,?_⟩;rw[F] at q;rcases c with⟨c,B⟩ | c | ⟨id,c,_,s,_⟩
       .subst B;have J:jX P kt (rW o.k g) []=some none:=q;simp only[aQ,f,c,u,J,j];cases ok<;>rfl
       .simp only[aQ,f,c,u,q,j];cases ok<;>rfl
       .simp only[aQ,f,c,s,u,q,j];cases ok<;>rfl
      .obtain⟨row,Z,X⟩:=O.get I;refine⟨tB (ag w) row,by rw[j];exact aCG X,?_⟩;rw[F] at q;have he:=aHS I Z;rcases c with⟨c,B⟩ | c | ⟨id,c,_,s,_⟩
       .subst B;simp at I
       .simp only[aQ,f,c,u,q,he,j];cases ok<;>rfl
       .simp only[aQ,f,c,s,u,q,he,j];cases ok<;>rfl
     obtain⟨a,R,he⟩:=G;split at h
     .obtain⟨b,qb,h⟩:=HH h (Qh.l (H:=S.hp) _);obtain⟨Q,D,h⟩:=HH h R;exact dG.same t (by rw[he];rfl) (Qh.mkT (cs:=[Q,b]) (aw:=[a,_]) ⟨D,qb,trivial⟩) h
     .obtain⟨Q,D,h⟩:=HH h R;exact dG.same t (by rw[he];rfl) D h
    .cases h
   .cases h
  .cases h
 .cases h
theorem aLr[aG]{kt:TypeId}{m k v:bC}(hE:N7 P T E)(x:Qt N S st)(h:cT E n d (.mapUpd kt m k v) S K=some r): dG P cf E.fl N (.mapUpd kt m k v) st K r:=by
 simp only[cT] at h;split at h
 .rename_i b Q;have B:=hE.km kt b Q;split at h
  .rename_i c J;have y:=aL3 B.1 J (x.get k);split at h
   .rename_i id hm;have X:=x.get m;rw[hm] at X;have R:=X.mp1;split at h
    .cases h
    .rename_i j;have j:=Zn j;split at h
     .rename_i p F;obtain⟨C,q⟩:=p;obtain⟨rows,w,u⟩:=aH5 x.hp (Qh.mp (H:=S.hp) id) F;split at h
      .rename_i D hv;obtain⟨row,U,e2⟩:=aQ9 hv (x.get v);rcases u with⟨u,_⟩ | u | ⟨a2,u,_,z,a1⟩
       .cases u
       .cases u
       cases u;have A:jX P kt (rW b.k c) (fX C q rows)=_:=aAy B w.len c;have W:aR P (Instr.checkKey false 10000 kt (rW b.k c))=some ():=@N4.chk _ b.dec _ _ _ B.2 false c;have t:Instr.sameBits 10000 (rW b.k c) (rW b.k c)=true:=@N4.same _ b.dec _ _ _ B.2 c;have G:∀o:qD,(∀(k:Nat) (l:List (den k)),S.hp[id]?≠some (.lst k l))->HM S.hp (S.hp.set id o):=λo hn=>HM.set λk l e=>absurd e (hn k l);have L:∀(k:Nat) (l:List (den k)),S.hp[id]?≠some (.lst k l):=by
        intro k l e;simp only[aLq,e] at F;cases F
       have f:∀a,aQ P cf E.fl (.mapUpd kt m k v) st.tmps st.heap=some (.lit bP,st.heap.set id (.mp (fX C (@eI _ _ b.dec q c D) a)))->Qm C (@eI _ _ b.dec q c D) a->dG P cf E.fl N (.mapUpd kt m k v) st K r:=
        λa he M=>dG.set (o:=.map b.k C (@eI _ _ b.dec q c D)) x he (G _ L) ⟨a,rfl,M⟩ (Qh.l _) h
       have g:=@aD6 _ _ b.dec _ c D q;rcases @A9 _ _ b.dec _ c q with⟨g1,O⟩ | ⟨i,v0,g1,O,Y⟩
       .rw[O] at A g;rw[g] at f;refine f (rows++[row]) ?_ (w.app ⟨e2,trivial⟩);simp only[aQ,y,R,j,Zy,z,W,A,U];congr 4;unfold fX;rw[YJ,YJ,List.zip_append (by simp[w.len])];rfl
       .rw[O] at A g;rw[g] at f;obtain⟨V,Z,h2⟩:=w.get Y;have he:=aHS Y Z;refine f (rows.set i row) ?_ (cA.set (l:=q) (m:=rows) w i e2);simp only[aQ,y,R,j,Zy,z,W,A,he,t,U];congr 4;unfold fX;rw[XH,XH];exact aGO _ _ _ _ _
      .cases h
     .cases h
   .cases h
  .cases h
 .cases h
end
section
variable [dQ]{R:Type}{H H1:TH}{A:aY}{N:Nat}{S:TS}{st:St}{P:Program}{T:List cS}{cf:CF}{op:Ia}{K:TV->TS->Option R}{r:R}{E:XE}{n:Nat}{d:Option Nat}
theorem aAV{v:TV}{a:AV}{s:ByteArray}(h:aI2 v=some s)(q:Qh H v a): a=sv s:=by
 unfold aI2 at h
 split at h
 .split at h
  .cases h;exact q.inL
  .cases h
 .cases h
theorem aOU[aG]{x:Option bC}{dv a:Int}(hs:Qt N S st)(h:LK S.tm x dv=some a)(ha:0<=a): (x=none/\a=dv)\/(∃y,x=some y/\gV (aH st.tmps y)=some a.toNat):=by
 unfold LK at h
 split at h
 .cases h;exact .inl ⟨rfl,rfl⟩
 .rename_i y
  have:=xW h (hs.get y)
  exact .inr ⟨y,rfl,by rw[this];simp[gV,ha]⟩
theorem lC[aG]{x:Option bC}{dv a:Int}(hs:Qt N S st)(h:LK S.tm x dv=some a)(ha:0<=a): ∃o,eC st.tmps x=some o/\∀D:Nat,dv=(D:Int)->o.getD D=a.toNat:=by
 rcases aOU hs h ha with⟨rfl,rfl⟩ | ⟨y,rfl,e⟩
 .exact⟨none,rfl,λD hD=>by simp[hD]⟩
 .exact⟨some a.toNat,by simp only[eC,e],λD _=>rfl⟩
theorem aLv[aG]{t:TypeId}{x:bC}(hE:N7 P T E)(hs:Qt N S st)(h:cT E n d (.lenStr t x) S K=some r): dG P cf E.fl N (.lenStr t x) st K r:=by
 simp only[cT] at h
 split at h
 .rename_i ht
  split at h
  .rename_i s hx
   have e:=aAV hx (hs.get x)
   refine dG.same hs ?_ (Qh.l _) h
   simp only[aQ,e,(hE.st t ht).2 s]
  .cases h
 .cases h
theorem aKb[aG]{t:TypeId}{x i:bC}(hE:N7 P T E)(hs:Qt N S st)(h:cT E n d (.strIdx t x i) S K=some r): dG P cf E.fl N (.strIdx t x i) st K r:=by
 simp only[cT] at h
 split at h
 .rename_i ht
  split at h
  .rename_i s hx
   have e:=aAV hx (hs.get x)
   split at h
   .rename_i j hj
    have e2:=xW hj (hs.get i)
    obtain⟨v,hv,h⟩:=bF h
    have:=aI3 (cf:=cf) (fl:=E.fl) (H:=st.heap) (hE.st t ht).1 hv
    refine dG.same hs ?_ (Qh.l _) h
    simp only[aQ,e,e2]
    exact this
   .cases h
  .cases h
 .cases h
theorem aFl[aG]{t:TypeId}{x:bC}{lo hi:Option bC}(hs:Qt N S st)(h:cT E n d (.strSlice t x lo hi) S K=some r): dG P cf E.fl N (.strSlice t x lo hi) st K r:=by
 simp only[cT] at h
 split at h
 .rename_i s hx
  have e:=aAV hx (hs.get x)
  split at h
  .rename_i a ha
   split at h
   .rename_i b hb
    obtain⟨v,hv,h⟩:=bF h
    unfold aUz at hv
    split at hv
    .rename_i hc
     cases hv
     obtain⟨o1,g1,g2⟩:=lC hs ha hc.1
     obtain⟨o2,g3,g4⟩:=lC hs hb (by omega)
     refine dG.same hs ?_ (Qh.l _) h
     simp only[aQ,e,g1,g3]
     rw[g2 0 rfl,g4 s.size rfl,Zu ⟨by omega,hc.2.2⟩]
    .cases hv
   .cases h
  .cases h
 .cases h
theorem aFz[aG]{x:bC}(hs:Qt N S st)(h:cT E n d (.rangeStr x) S K=some r): dG P cf E.fl N (.rangeStr x) st K r:=by
 simp only[cT] at h
 split at h
 .rename_i s hx
  have e:=aAV hx (hs.get x)
  refine dG.add (v:=.it st.heap.length) (o:=.it s 0) (b:=.raw (.stringIter s 0)) hs (by simp only[aQ,e]) rfl (by rw[hs.hp.ln];exact .it _) h
 .cases h
theorem aIP[aG]{x:bC}(hs:Qt N S st)(h:cT E n d (.nextStr x) S K=some r): dG P cf E.fl N (.nextStr x) st K r:=by
 have q:=hs.get x
 simp only[cT] at h
 split at h
 .rename_i id hx
  rw[hx] at q
  have e:aH st.tmps x=.it id:=by
   generalize aH st.tmps x=a at q
   cases q with
   | p _ _ q=>cases q
   | it=>rfl
  split at h
  .cases h
  .rename_i hfl
   have hfl:=Zn hfl
   split at h
   .rename_i o ho
    split at h
    .rename_i s p
     obtain⟨b,hb,rfl⟩:=hs.hp.get ho
     rcases I6 h with⟨hc,h⟩ | ⟨hc,h⟩
     .have hc:=Zh hc
      refine dG.set (o:=.it s (p+(Utf8.decode s p).2)) (b:=.raw (.stringIter s (p+(Utf8.decode s p).2))) hs ?_ (HM.set λk l e=>by rw[ho] at e;cases e) rfl (Qh.mkT (cs:=[_,_,_]) (aw:=[_,_,_]) ⟨Qh.l _,Qh.l _,Qh.l _,trivial⟩) h
      simp only[aQ,e,hfl,Zy,hb,hc]
     .have hc:=Zk hc
      refine dG.same hs ?_ (Qh.mkT (cs:=[_]) (aw:=[_]) ⟨Qh.l _,trivial⟩) h
      simp only[aQ,e,hfl,Zy,hb,hc,Z4]
    .cases h
   .cases h
 .cases h
theorem aRQ[aG]{s t:TypeId}{x:bC}(hE:N7 P T E)(hs:Qt N S st)(h:cT E n d (.conv s t x) S K=some r): dG P cf E.fl N (.conv s t x) st K r:=by
 have q:=hs.get x
 simp only[cT] at h
 split at h
 .rename_i k' hk
  split at h
  .rename_i u hx
   rw[hx] at q
   split at h
   .have hc:=hE.cv s t k' hk
    unfold aJB at hc
    refine dG.same hs ?_ (Qh.l _) h
    simp only[aQ,q.inL,hc]
   .cases h
  .cases h
 .cases h
theorem aNY[aG](hs:Qt N S st)(h:cT E n d .mkMap S K=some r): dG P cf E.fl N .mkMap st K r:=by
 simp only[cT] at h
 split at h
 .split at h
  .rename_i kk vk _
   exact dG.add (v:=.mp st.heap.length) (o:=.map kk vk []) (b:=.mp []) hs rfl ⟨[],rfl,trivial⟩ (by rw[hs.hp.ln];exact .mp _) h
  .cases h
 .cases h
theorem aRo[aG]{x:bC}(hs:Qt N S st)(h:cT E n d (.lenM x) S K=some r): dG P cf E.fl N (.lenM x) st K r:=by
 have q:=hs.get x
 simp only[cT] at h
 split at h
 .rename_i m hm
  refine dG.same hs ?_ (Qh.l _) h
  generalize cE S.tm x=v at hm q
  generalize hb:aH st.tmps x=a at q
  have hl:∀{kk vk:Nat} {m:List (den kk×den vk)} {rows:List (List AV)},rows.length=m.length->(fX vk m rows).length=m.length:=λh=>by simp[fX,h]
  unfold aPG at hm
  split at hm
  .cases hm
   obtain⟨rows,h1,h2⟩:=(q.pu trivial).inM
   rcases h1 with⟨rfl,rfl⟩ | rfl
   .simp only[aQ,hb];rfl
   .simp only[aQ,hb,hl h2.len]
  .split at hm
   .rename_i o ho
    split at hm
    .cases hm
     obtain⟨b,hb2,rows,rfl,h2⟩:=hs.hp.get ho
     have e:=q.mp1
     subst e
     simp only[aQ,hb,hb2,hl h2.len]
    .cases hm
   .cases hm
  .cases hm
 .cases h
theorem Ag[aG]{x:Option bC}(hs:Qt N S st)(h:FN S.tm x=true): eC st.tmps x=some none\/eC st.tmps x=some (some 0):=by
 unfold FN at h
 split at h
 .exact .inl rfl
 .rename_i y
  split at h
  .rename_i m hm
   split at h
   .split at h
    .right
     simp only[eC,xW hm (hs.get y)];rfl
    .cases h
   .cases h
  .cases h
theorem aOC[aG]{s:Nat}{x:bC}{lo hi:Option bC}(hs:Qt N S st)(h:aRO s S.tm S.hp lo hi (cE S.tm x) (λv=>K v S)=some r): dG P cf E.fl N (.slice s x lo hi none) st K r:=by
 have q:=hs.get x
 have g0:eC st.tmps none=some none:=rfl
 have hd:∀{k:Nat} {l:List (den k)} {es:List (List AV)},Ql k l es->(cds k).length=s->lF s es=true:=by
  intro k l es h e
  cases es with
  | nil=>rfl
  | cons a es=>
   cases l with
   | nil=>exact h.elim
   | cons y l=>simp[lF,h.1.len,sY,e]
 have cut_ok:∀{k:Nat} {l l':List (den k)} {es:List (List AV)} {a b:Int},Ql k l es->cut l a b=some l'->0<=a/\0<=b/\a.toNat<=b.toNat/\b.toNat<=es.length/\Ql k l' ((es.take b.toNat).drop a.toNat):=by
  intro k l l' es a b hq hc
  unfold cut at hc
  split at hc
  .rename_i hb
   cases hc
   exact⟨hb.1,by omega,by omega,by rw[hq.len];omega,(hq.take _).drop _⟩
  .cases hc
 unfold aRO at h
 split at h
 .rename_i k l hx
  rw[hx] at q
  split at h
  .rename_i e
   have e:=Zc e
   split at h
   .rename_i a ha
    split at h
    .rename_i b hb
     obtain⟨l',hl',h⟩:=bF h
     obtain⟨es,h1,h2⟩:=(q.pu trivial).inS
     obtain⟨c1,c2,c3,c4,c5⟩:=cut_ok h2 hl'
     obtain⟨o1,g1,g2⟩:=lC hs ha c1
     obtain⟨o2,g3,g4⟩:=lC hs hb c2
     rcases h1 with⟨hv,rfl⟩ | ⟨f,hv⟩
     .have e1:l=[]:=ZM.1 h2.len.symm
      subst e1
      have e3:=g2 0 rfl
      have e4:=g4 0 rfl
      have z2:b.toNat=0:=by simpa using c4
      have z1:a.toNat=0:=by omega
      have e2:l'=[]:=by
       rw[z1,z2] at c5
       exact ZM.1 (by have:=c5.len;simpa using this.symm)
      subst e2
      refine dG.same hs ?_ (.p _ _ (Qp.mkS (es:=[]) (.inl ⟨rfl,rfl⟩) (show Ql k [] [] from trivial))) h
      simp only[aQ,hv,g1,g3]
      simp[bQ,gN,g0,e3,e4,z1,z2]
     .refine dG.same (v:=.sl (f&&b.toNat==es.length) ((es.take b.toNat).drop a.toNat)) hs ?_ (.p _ _ (Qp.mkS (.inr ⟨_,rfl⟩) c5)) h
      simp only[aQ,hv,g1,g3,g0,gN]
      rw[g4 es.length (by rw[h2.len]),g2 0 rfl,Zu ⟨c3,c4,hd h2 e⟩]
    .cases h
   .cases h
  .cases h
 .rename_i k l hx
  rw[hx] at q
  split at h
  .rename_i e
   have e:=Zc e
   split at h
   .rename_i a ha
    split at h
    .rename_i b hb
     obtain⟨l',hl',h⟩:=bF h
     obtain⟨es,h1,h2⟩:=(q.pu trivial).inV
     obtain⟨c1,c2,c3,c4,c5⟩:=cut_ok h2 hl'
     obtain⟨o1,g1,g2⟩:=lC hs ha c1
     obtain⟨o2,g3,g4⟩:=lC hs hb c2
     rcases h1 with⟨hv,rfl⟩ | ⟨f,hv⟩ | hv
     .have e1:l=[]:=ZM.1 h2.len.symm
      subst e1
      have e3:=g2 0 rfl
      have e4:=g4 0 rfl
      have z2:b.toNat=0:=by simpa using c4
      have z1:a.toNat=0:=by omega
      have e2:l'=[]:=by
       rw[z1,z2] at c5
       exact ZM.1 (by have:=c5.len;simpa using this.symm)
      subst e2
      refine dG.same hs ?_ (.p _ _ (Qp.mkV (es:=[]) (.inl ⟨rfl,rfl⟩) (show Ql k [] [] from trivial))) h
      simp only[aQ,hv,g1,g3]
      simp[bQ,gN,g0,e3,e4,z1,z2]
     .refine dG.same (v:=.sl (f&&b.toNat==es.length) ((es.take b.toNat).drop a.toNat)) hs ?_ (.p _ _ (Qp.mkV (.inr (.inl ⟨_,rfl⟩)) c5)) h
      simp only[aQ,hv,g1,g3,g0,gN]
      rw[g4 es.length (by rw[h2.len]),g2 0 rfl,Zu ⟨c3,c4,hd h2 e⟩]
     .refine dG.same (v:=.vw ((es.take b.toNat).drop a.toNat)) hs ?_ (.p _ _ (Qp.mkV (.inr (.inr rfl)) c5)) h
      simp only[aQ,hv,g1,g3,g0,gN]
      rw[g4 es.length (by rw[h2.len]),g2 0 rfl,Zu ⟨c3,c4,hd h2 e⟩]
    .cases h
   .cases h
  .cases h
 .rename_i id m hx
  rw[hx] at q
  split at h
  .rename_i o ho
   split at h
   .rename_i k l
    split at h
    .rename_i hk
     simp only[Zd] at hk
     have e:=Zc hk.1
     have e0:0<s:=by simpa [YF] using hk.2
     have hv:=q.mw ho
     obtain⟨es,k1,k2⟩:=hs.hp.lst ho
     rw[e] at k1
     split at h
     .rename_i a ha
      have go:∀{b:Int},LK S.tm hi (((Kj l m).2:Nat):Int)=some b->bnd (sub l (Kj l m) a b) (λw=>K (.ms id (some w)) S)=some r->dG P cf E.fl N (.slice s x lo hi none) st K r:=by
       intro b hb h
       obtain⟨w,hw,h⟩:=bF h
       unfold sub at hw
       split at hw
       .rename_i hc
        cases hw
        obtain⟨o1,g1,g2⟩:=lC hs ha hc.1
        obtain⟨o2,g3,g4⟩:=lC hs hb (by omega)
        refine dG.same hs ?_ (.msn id _ k l ho) h
        simp only[aQ,hv,g1,g3,g0,gN,k1]
        rw[g4 _ rfl,g2 0 rfl]
        by_cases hb2:b.toNat<=(Kj l m).2
        .rw[Zu ⟨by omega,hb2,trivial⟩]
        .rw[ZG (λh=>hb2 h.2.1),Zu ⟨by omega,hc.2.2,k2.len,e0,trivial⟩]
       .cases hw
      split at h
      .split at h
       .rename_i b hb;exact go hb h
       .cases h
      .split at h
       .rename_i b hb;exact go hb h
       .cases h
     .cases h
    .cases h
   .cases h
  .cases h
 .rename_i b hx
  rw[hx] at q
  split at h
  .rename_i hz
   simp only[Zd] at hz
   have q0:=q
   cases (q.pu trivial) with
   | emp _ _ h'=>
    rcases Ag hs hz.1 with z1 | z1<;>rcases Ag hs hz.2 with z2 | z2<;>rcases h' with h' | h' | ⟨hb,h'⟩ <;>
     first
     | (refine dG.same (v:=.lit bQ) hs ?_ (by rw[<-h'];exact q0) h;simp only[aQ,h',z1,z2,g0,bQ,gN];simp;done)
     | (refine dG.same (v:=.sl true []) hs ?_ (by rw[<-h'];exact q0) h;simp only[aQ,h',z1,z2,g0,gN];simp[lF];done)
     | (refine dG.same (v:=.sl false []) hs ?_ (by rw[<-h'];exact q0) h;simp only[aQ,h',z1,z2,g0,gN];simp[lF];done)
  .cases h
 .split at h
  .split at h
   .split at h
    .split at h
     .split at h
      .rename_i hz
       have q:Qh S.hp (.lit (.slice none 0 0)) (aH st.tmps x):=by rw[<-‹cE S.tm x=TV.lit (Value.slice none 0 0)›];exact q
       simp only[Zd] at hz
       have hv:aH st.tmps x=.lit bQ:=q.inL
       rcases Ag hs hz.1 with z1 | z1<;>rcases Ag hs hz.2 with z2 | z2 <;>
        (refine dG.same (v:=.lit bQ) hs ?_ (by rw[<-hv];exact q) h;simp only[aQ,hv,z1,z2,g0,bQ,gN];simp)
      .cases h
     .cases h
    .cases h
   .cases h
  .cases h
 .cases h
theorem aNp[aG]{s:Nat}{x:bC}{lo hi mx:Option bC}(hs:Qt N S st)(h:cT E n d (.slice s x lo hi mx) S K=some r): dG P cf E.fl N (.slice s x lo hi mx) st K r:=by
 simp only[cT] at h
 split at h
 .exact aOC hs h
 .rename_i m
  split at h
  .cases h
  .rename_i y
   have q:=hs.get x
   split at h
   .rename_i id w hx
    rw[hx] at q
    split at h
    .rename_i o ho
     split at h
     .rename_i k l
      split at h
      .rename_i a ha
       split at h
       .rename_i b hb
        split at h
        .rename_i c hc
         obtain⟨_,hg,h⟩:=bF h
         have hcc:=Zh (xY hg)
         obtain⟨o1,g1,g2⟩:=lC hs ha hcc.1
         have e1:eC st.tmps (some y)=some (some b.toNat):=by simp only[eC,xW hb (hs.get y)];simp[gV,show 0<=b by omega]
         have e2:eC st.tmps (some m)=some (some c.toNat):=by simp only[eC,xW hc (hs.get m)];simp[gV,show 0<=c by omega]
         have hv:=q.mw ho
         by_cases hz:a.toNat=b.toNat/\b.toNat=c.toNat
         .refine dG.same (v:=.sl true []) hs ?_ (.u _) h
          simp only[aQ,hv,g1,e1,e2,gN]
          rw[g2 0 rfl,Zu ⟨hz.1,hz.2,by omega⟩]
         .refine dG.same (v:=.undef) hs ?_ (.u _) h
          simp only[aQ,hv,g1,e1,e2,gN]
          rw[g2 0 rfl,ZG (by omega),Zu (by omega)]
        .cases h
       .cases h
      .cases h
     .cases h
    .cases h
   .rename_i k l hx
    rw[hx] at q
    split at h
    .rename_i hz
     simp only[Zd] at hz
     split at h
     .rename_i e
      have e:=Zc e
      obtain⟨es,h1,h2⟩:=(q.pu trivial).inS
      have hh:lF s es=true:=by
       cases es with
       | nil=>rfl
       | cons a es=>
        cases l with
        | nil=>exact h2.elim
        | cons y l=>simp[lF,h2.1.len,sY,e]
      have z2:eC st.tmps (some y)=some (some 0):=by
       rcases Ag hs hz.2.1 with h | h
       .simp only[eC] at h;split at h<;>cases h
       .exact h
      have z3:eC st.tmps (some m)=some (some 0):=by
       rcases Ag hs hz.2.2 with h | h
       .simp only[eC] at h;split at h<;>cases h
       .exact h
      rcases h1 with⟨hv,_⟩ | ⟨f,hv⟩
      .refine dG.same (v:=.lit bQ) hs ?_ (.p _ _ (.emp _ _ (.inl rfl))) h
       rcases Ag hs hz.1 with z1 | z1<;>simp[aQ,hv,z1,z2,z3,bQ,gN]
      .refine dG.same (v:=.sl true []) hs ?_ (.p _ _ (.emp _ _ (.inr (.inl rfl)))) h
       rcases Ag hs hz.1 with z1 | z1<;>simp[aQ,hv,z1,z2,z3,gN,hh]
     .cases h
    .cases h
   .cases h
end
end
theorem aQ1{α:Type}{c:α->List AV}{cf:CF}{agg:Bool}{s fl id vc off len:Nat}{caps:List AV}{F:α->α->Option Int}{l t:List α}{H:aY}(p:fl<=id)(b:H[id]?=some (.blk s (l.map c)))(g:l.length<=1000000)(B:off+len<=l.length)(A:∀x y z,F x y=some z->Qg cf vc caps agg (Ok H id) (RI H id s (l.map c)) (c x) (c y)=some z)(h:mJ F ((l.drop off).take len)=some t):
 tG cf agg s fl [.ms id l.length off len,.fn vc caps] H=some (.tup [],H.set id (.blk s ((aU l off t).map c))):=by
 have a:((l.drop off).take len).length=len:=by rw[ZK,ZX];omega
 generalize u:(l.drop off).take len=W at h a;unfold mJ at h;split at h
 .cases h;have C:len=0:=by simpa using a.symm
  subst C;have E:uJ (.ms id l.length off 0)=true:=rfl;have D:aU l off []=l:=by simp[aU]
  rw[D];simp only[tG,E,Zb,Zj,Wh];apply Ym;intro i;by_cases n:i=id
  .subst n;rw[b];rw[Z7 (by
    rcases ZL i H.length with h | h
    .exact h
    .rw[Zz h] at b;cases b)]
  .rw[Zv (Ne.symm n)]
 .rename_i x r;split at h
  .cases h
  rename_i tb o;split at h
  .cases h
  rename_i k;cases h;have v:=aJY (e:=c) (f:=Qg cf vc caps agg (Ok H id) (RI H id s (l.map c))) A o;have w:len=r.length+1:=by rw[<-a];rfl
  subst w;have j:((l.map c).drop off).take (r.length+1)=(x::r).map c:=by rw[<-We,<-Wc,u]
  have:=aCR (cf:=cf) (agg:=agg) (off:=off) (m:=r.length) (vc:=vc) (caps:=caps) (tb:=tb) (tot:=l.length) p b (by simp) (by simpa using B) (by simpa using g) (by rw[j];exact v) k;refine this.trans ?_;rw[j];have q:((ixG r.length tb).map (Ay x (x::r))).length=r.length+1:=by rw[ZR,aBD k]
  congr 3;refine congrArg (dK.blk s) ?_;unfold aU;rw[q,YJ,YJ,Wc,We,Yc,Yf];congr 2;exact ZV λi n=>V8 (by have:=aFQ n;simpa using this)
section
open iW (den cds ag)
theorem aI7{α β:Type}{f:α->β}{F:β->β->Option Int}{z:List α}{e:List β}(h:mJ F (z.map f)=some e): ∃g,mJ (λa b=>F (f a) (f b)) z=some g/\g.map f=e:=by
 cases z with
 | nil=>cases h;exact⟨[],rfl,rfl⟩
 | cons x r=>
  have m:HE F (f x::r.map f)=HE (λa b=>F (f a) (f b)) (x::r):=by
   unfold HE;rw[show f x::r.map f=(x::r).map f from rfl,Yc];congr 1;apply ZV;intro a _;show Vr (((x::r).map f).map _)=_;rw[Yc];rfl
  simp only[ZH,mJ,ZR,m] at h;simp only[mJ];split at h
  .cases h
  .rename_i tb j;split at h
   .cases h
   .rename_i k;cases h;refine⟨_,rfl,?_⟩;rw[Yc];apply ZV;intro i c;have c:=aFQ c;exact (V8 (d:=x) (d':=f x) (l:=x::r) (by simpa using c)).symm
section
variable [dQ]{R:Type}{H H1:TH}{A:aY}{N:Nat}{S:TS}{st:St}{P:Program}{T:List cS}{cf:CF}{op:Ia}{K:TV->TS->Option R}{r:R}{E:XE}{n:Nat}{d:Option Nat}
theorem aOy{id:Nat}: HMk [id] S.hp (Ld id S).hp:=by
 intro j k l a h;simp only[Ld,uV,mP];exact⟨k,l,aDA (by rw[Zv (by simpa [Wy] using a)];exact h),rfl⟩
theorem k7{id:Nat}(c:Qt N S st)(a:id<S.hp.length)(b:dK): Qt N (Ld id S) ⟨st.tmps,st.heap.set id b⟩:=aDJ c rfl (λ_ _ _=>trivial) a
abbrev RR(k:Nat):={p:den k×List AV // Qr (kA k p.1) p.2}
theorem aGX{k:Nat}: ∀{l:List (den k)} {es:List (List AV)},Ql k l es->∃z:List (RR k),z.map (λp=>p.1.1)=l/\z.map (λp=>p.1.2)=es
 | [],[],_=>⟨[],rfl,rfl⟩
 | x::l,e::es,h=>by
  obtain⟨z,c,a⟩:=aGX h.2;exact⟨⟨(x,e),h.1⟩::z,by rw[ZH,c],by rw[ZH,a]⟩
theorem aP2{k:Nat}: ∀(z:List (RR k)),Ql k (z.map λp=>p.1.1) (z.map λp=>p.1.2)
 | []=>trivial
 | p::z=>⟨p.2,aP2 z⟩
theorem aAZ{k:Nat}{x:den k}{e:List AV}(h:Qr (kA k x) e): Qh H (val k x) (Ae (ag k) e):=by
 have:=aCG (H:=H) h;unfold Ae;unfold tB at this;cases c:ag k with
 | true=>rw[c] at this;exact this
 | false=>
  rw[c] at this;match e,this with
  | [],this=>exact this
  | [a],this=>exact this
  | a::b::r,this=>exact this
theorem aNi{α:Type}{F:α->α->Option Int}{m:Option (Nat×Nat)}{l:List α}{K:List α->Option R}(h:aNj F m l K=some r):
 ∃a,mJ F ((l.drop (Kj l m).1).take (Kj l m).2)=some a/\(Kj l m).1+(Kj l m).2<=l.length/\l.length<=1000000/\K (aU l (Kj l m).1 a)=some r/\(aU l (Kj l m).1 a).length=l.length:=by
 cases m with
 | none=>
  obtain⟨_,c,h⟩:=bF h;obtain⟨a,b,h⟩:=bF h;have e:a.length=l.length:=V2 b;have e2:aU l 0 a=a:=by simp[aU,e]
  refine⟨a,?_,by simp[Kj],Zh (xY c),?_,?_⟩
  .simpa [Kj] using b
  .simp only[Kj,e2];exact h
  .simp only[Kj,e2];exact e
 | some w=>
  obtain⟨_,c,h⟩:=bF h;obtain⟨a,b,h⟩:=bF h;have d:=Zh (xY c);refine⟨a,b,d.2,d.1,h,Il ?_⟩;have:=V2 b;simp only[win,ZK,ZX] at this;simp only[Kj];omega
theorem aNm[aG]{vi k id vc off len:Nat}{caps:List AV}{F:den k->den k->Option Int}{l u:List (den k)}{r t:AV}(o:E.fl<=id)(v:aG.prim vi=some (qV (ag k) (cds k).length))(B:Qt N S st)(D:S.hp[id]?=some (.lst k l))(y:l.length<=1000000)(i:off+len<=l.length)(j:r=.ms id l.length off len)(m:t=.fn vc caps)(A:∀(p q:RR k) (es:List (List AV)) (z:Int),F p.1.1 q.1.1=some z->Qg (fC P T n) vc caps (ag k) (Ok st.heap id) (RI st.heap id (cds k).length es) p.1.2 q.1.2=some z)(h:mJ F ((l.drop off).take len)=some u):
 ∃es',fC P T (n+1) E.fl vi [r,t] st.heap=some (.tup [],st.heap.set id (.blk (cds k).length es'))/\Ql k (aU l off u) es':=by
 obtain⟨es,x,G⟩:=B.hp.lst D;obtain⟨z,rfl,rfl⟩:=aGX G;rw[<-We,<-Wc] at h;obtain⟨g,C,rfl⟩:=aI7 h;subst j;subst m;refine⟨(aU z off g).map λp=>p.1.2,?_,?_⟩
 .rw[fC,v,ZR];exact aQ1 (agg:=ag k) (c:=λ(p:RR k)=>p.1.2) (F:=λ(a b:RR k)=>F a.1.1 b.1.1) o x (by simpa using y) (by simpa using i) (λp q w i=>A p q _ w i) C
 .have:=aP2 (aU z off g);have e:(aU z off g).map (λp=>p.1.1)=aU (z.map λp=>p.1.1) off (g.map λp=>p.1.1):=by
   unfold aU;rw[YJ,YJ,Wc,We,ZR]
  rw[e] at this;exact this
theorem aOG[aG]{k id vc:Nat}{c:CSp}{p q:RR k}{es:List (List AV)}{z:Int}(m:FOK P T vc c)(o:Qt N S st)(d:id<S.hp.length)(h:aRU n c k (Ld id S).hp p.1.1 q.1.1=some z):
 Qg (fC P T n) vc [] (ag k) (Ok st.heap id) (RI st.heap id (cds k).length es) p.1.2 q.1.2=some z:=by
 unfold aRU at h;have l:=k7 o d (.mp []);obtain⟨s,a,tv,i,f,g⟩:=J4 (H1:=[]) (K:=i64?) (aw:=[Ae (ag k) p.1.2,Ae (ag k) q.1.2].map (cK (Ok st.heap id))) m h λp' r b=>aMz r b ⟨aAZ p.2,aAZ q.2,trivial⟩ l.hp;refine aRT rfl (aQL i ?_);exact xW g f
theorem aOH[aG]{k id vc:Nat}{caps:List TV}{c:List AV}{p q:RR k}{es:List (List AV)}{z:Int}(e:∀sp∈E.il,IOK P T sp)(g:Qt N S st)(f:id<S.hp.length)(l:Qc S.hp caps c)(d:c≠[])(h:aRV E n vc id k caps S p.1.1 q.1.1=some z):
 Qg (fC P T n) vc c (ag k) (Ok st.heap id) (RI st.heap id (cds k).length es) p.1.2 q.1.2=some z:=by
 unfold aRV at h;have u:=k7 g f (.blk (cds k).length (es++[List.replicate (cds k).length .undef]));have j:(RI st.heap id (cds k).length es).length=S.hp.length:=by simp[RI,g.hp.ln]
 obtain⟨a,o,tv,w,r,x,m,s⟩:=Qx (N:=0) (S:=⟨[],(Ld id S).hp⟩) (st:=⟨[],RI st.heap id (cds k).length es⟩) (aw:=Ae (ag k) p.1.2::Ae (ag k) q.1.2::c) (by rw[j];exact Zg _) ⟨rfl,λt v h=>(by cases h),u.hp⟩
  (show Qc (Ld id S).hp (val k p.1.1::val k q.1.1::caps.map (JA [id])) _ from⟨aAZ p.2,aAZ q.2,l.mapL λ_ _ q=>Ot aOy q⟩) e h
 refine aOF d ⟨o,?_⟩;rw[j,r,xW s m]
theorem aB7{fl k:Nat}{v:TV}{p:Nat×List (den k)}(h:aLu fl H k v=some p): v=.ms p.1 none/\fl<=p.1/\H[p.1]?=some (.lst k p.2):=by
 unfold aLu at h;split at h
 .split at h
  .cases h
  .split at h
   .cases h
   .rename_i c;split at h
    .rename_i o d;split at h
     .split at h
      .rename_i f a;obtain⟨e,a⟩:=pZ (F:=λk=>List (den k)) a;subst e;subst a;cases h;exact⟨rfl,Zn c,d⟩
      .cases h
     .cases h
    .cases h
 .cases h
theorem aNR{k id:Nat}{v:TV}{z:den k}{a:AV}(m:Qs H A)(q:Qh H v a)(h:aQZ H k id v=some z):
 ∃row,(∃id2,id≠id2/\a=.ms id2 1 0 1/\A[id2]?=some (.blk (cds k).length [row]))/\Qr (kA k z) row:=by
 unfold aQZ at h;split at h
 .split at h
  .rename_i p l;split at h
   .cases h
   .rename_i c;obtain⟨id2,i⟩:=p;obtain⟨e,_,g⟩:=aB7 l;rw[e] at q;split at h
    .rename_i r d;cases h;have d:i=[z]:=d;subst d;obtain⟨b,n,f⟩:=m.lst g;obtain⟨row,rfl⟩:∃row,b=[row]:=by
      match b,f with
      | [row],_=>exact⟨row,rfl⟩
     exact⟨row,⟨id2,YE c,q.mw g,n⟩,f.1⟩
    .cases h
  .cases h
 .cases h
theorem aQN[aG]{vi:Nat}{p:PSp}{vs:List TV}{aw:List AV}(G:POK T vi p)(hE:∀vi c,E.cs vi=some c->FOK P T vi c)(a3:∀sp∈E.il,IOK P T sp)(t:Qt N S st)(q:Qc S.hp vs aw)(h:aKC E n p vs S K=some r):
 ∃v L tv D,fC P T (n+1) E.fl vi aw st.heap=some (v,L)/\Qt N D ⟨st.tmps,L⟩/\Qh D.hp tv v/\K tv D=some r:=by
 unfold aKC at h;split at h
 .rename_i k;split at h
  .rename_i x f;obtain⟨b,J,rfl⟩:∃b J,aw=[b,J]:=by
    match aw,q with
    | [b,J],q=>exact⟨b,J,rfl⟩
   split at h
   .rename_i id m
    .split at h
     .cases h
     .rename_i a;have a:=Zn a;split at h
      .rename_i o d;split at h
       .rename_i k' l;split at h
        .rename_i O C;obtain⟨e,C⟩:=pZ (F:=λk=>List (den k)) C;subst e;subst C;have X:=(Ze.1 d).1;have a2:=q.1.mw d;have Q:∀{F:den k'->den k'->Option Int} {vc:Nat} {caps:List AV},J=.fn vc caps->(∀(p q:RR k') (es:List (List AV)) (z:Int),F p.1.1 q.1.1=some z->Qg (fC P T n) vc caps (ag k') (Ok st.heap id) (RI st.heap id (cds k').length es) p.1.2 q.1.2=some z)->
          aNj F m O (λw=>K (.tup []) (mP S id (.lst k' w)))=some r->
          ∃v L tv D,fC P T (n+1) E.fl vi [b,J] st.heap=some (v,L)/\Qt N D ⟨st.tmps,L⟩/\Qh D.hp tv v/\K tv D=some r:=by
          intro F vc caps u hF h;obtain⟨w,s,hw,M,h,b2⟩:=aNi h;obtain⟨es',e1,e2⟩:=aNm a G t d M hw a2 u hF s;have V:HM S.hp (S.hp.set id (.lst k' (aU O (Kj O m).1 w))):=HM.set λk2 l2 e=>by
           rw[d] at e;cases e;exact⟨k',_,rfl,b2⟩
          exact⟨_,_,.tup [],mP S id (.lst k' (aU O (Kj O m).1 w)),e1,t.hpM V (t.hp.set V ⟨es',rfl,e2⟩),Qh.mkT (cs:=[]) (aw:=[]) trivial,h⟩
         split at h
         .rename_i vc caps;obtain⟨b1,u,hq⟩:=q.2.1.inF;split at h
          .split at h
           .rename_i c I;cases b1 with
            | cons=>exact hq.elim
            | nil=>exact Q u (λp q es z R=>aOG (hE _ _ I) t X R) h
           .cases h
          .rename_i c0 r0;refine Q u (λp q es z R=>aOH a3 t X hq (λe=>?_) R) h;subst e;exact hq.elim
         .cases h
        .cases h
       .cases h
      .cases h
   .cases h
  .cases h
 .rename_i k F;obtain⟨g,hg,G⟩:=G;split at h
  .rename_i x;obtain⟨b,rfl⟩:∃b,aw=[b]:=by
    match aw,q with
    | [b],q=>exact⟨b,rfl⟩
   split at h
   .rename_i p hx;obtain⟨id,l⟩:=p;obtain⟨rfl,a,d⟩:=aB7 hx;obtain⟨_,M,h⟩:=bF h;obtain⟨es,g1,A⟩:=t.hp.lst d;obtain⟨es',Z,k2,k3⟩:=G E.fl st.heap id l es a g1 A (Zh (xY M));have V:HM S.hp (S.hp.set id (.lst k (F l))):=HM.set λk2 l2 e=>by rw[d] at e;cases e;exact⟨k,_,rfl,k3⟩
    refine⟨_,_,.tup [],mP S id (.lst k (F l)),?_,t.hpM V (t.hp.set V ⟨es',rfl,k2⟩),Qh.mkT (cs:=[]) (aw:=[]) trivial,h⟩;rw[fC,hg,q.1.mw d];exact Z
   .cases h
  .cases h
 .rename_i k;obtain⟨g,hg,G⟩:=G;split at h
  .rename_i x i y;obtain⟨b,Y,U,rfl⟩:∃b Y U,aw=[b,Y,U]:=by
    match aw,q with
    | [b,Y,U],q=>exact⟨b,Y,U,rfl⟩
   split at h
   .rename_i p hx;obtain⟨id,l⟩:=p;obtain⟨rfl,a,d⟩:=aB7 hx;split at h
    .rename_i j hj;split at h
     .rename_i z R;obtain⟨l',s,h⟩:=bF h;unfold aFR at s;split at s
      .rename_i I;cases s;obtain⟨es,g1,A⟩:=t.hp.lst d;obtain⟨row,hy,B⟩:=aNR t.hp q.2.2.1 R;have Z:=G E.fl st.heap id U j.toNat es row a hy g1 (by rw[B.len,sY]) (by rw[A.len];exact I.2.1) (by rw[A.len];exact I.2.2);refine⟨.ms id (es.length+1) 0 (es.length+1),st.heap.set id (.blk (cds k).length (es.take j.toNat++row::es.drop j.toNat)),.ms id none,uV id (mP S id (.lst k (l.take j.toNat++z::l.drop j.toNat))),?_,aHB t d λH=>⟨_,rfl,(A.take _).app ⟨B,A.drop _⟩⟩,?_,h⟩
       .rw[fC,hg,q.1.mw d,xW hj q.2.1];have e:((j.toNat:Nat):Int)=j:=Wb I.1;rw[e] at Z;simp only[Kj];have g0:l.length=es.length:=A.len.symm;rw[g0];exact Z
       .have:=Qh.ms (H:=(uV id (mP S id (.lst k (l.take j.toNat++z::l.drop j.toNat)))).hp) id k (l.take j.toNat++z::l.drop j.toNat) (by simp[uV,mP,Zl,(Ze.1 d).1,Vx]);have M:(l.take j.toNat++z::l.drop j.toNat).length=es.length+1:=by
         have g0:es.length=l.length:=A.len;have c2:j.toNat<=l.length:=I.2.1;simp only[Zi,ZK,Z5,ZX];omega
        rw[M] at this;exact this
      .cases s
     .cases h
    .cases h
   .cases h
  .cases h
 .cases h
end
section
variable [dQ]{R:Type}{H H1:TH}{A:aY}{N:Nat}{S:TS}{st:St}{P:Program}{T:List cS}{cf:CF}{op:Ia}{K:TV->TS->Option R}{r:R}{E:XE}{n:Nat}{d:Option Nat}
theorem aE4[aG]{vi:Nat}{vs:List TV}{aw:List AV}(d:N7 P T E)(c:Qt N S st)(q:Qc S.hp vs aw)(h:(match Nat.ble E.fl S.hp.length with | true=>Da n E.fl vi vs S K E.il | false=>none)=some r):
 ∃v b tv a,fC P T n E.fl vi aw st.heap=some (v,b)/\Qt N a ⟨st.tmps,b⟩/\Qh a.hp tv v/\K tv a=some r:=by
 split at h
 .rename_i e;exact Qx (by rw[c.hp.ln];exact Zn e) c q d.il h
 .cases h
theorem aSb[aG]{pu:Bool}{vi:Nat}{f:List bC}(b:N7 P T E)(a:Qt N S st)(h:cT E n d (.call pu vi f) S K=some r): dG P (fC P T n) E.fl N (.call pu vi f) st K r:=by
 simp only[cT] at h;split at h
 .split at h
  .rename_i c l;obtain⟨v,tv,j,o,i⟩:=aPZ (b.cs vi c l) a h;exact dG.same a j o i
  .cases h
 .split at h
  .rename_i p g;obtain⟨m,k,h⟩:=bF h;have e:=aKD k;subst e;exact aQN (b.pr vi p g) b.cs b.il a (E5 a f) h
  .exact aE4 b a (E5 a f) h
theorem aNW{v:TV}{a:AV}(q:Qh H v a): Qh H (aRd v) (IV a):=by
 cases v with
 | agg cs=>
  obtain⟨aw,rfl,d⟩:=q.inA;exact Qh.mkA (d.map λc b q=>by
   cases c with
   | agg cs=>obtain⟨aw,rfl,_⟩:=q.inA;exact q
   | _=>exact aB0 q (λcs e=>by cases e))
 | undef=>exact Qh.u _
 | _=>
  have:=aB0 q (λcs e=>by cases e);cases a with
  | agg=>
   cases q with
   | p _ _ q=>cases q<;>simp_all
  | _=>exact this
theorem aQC{v:TV}{a:AV}(q:Qh H v a)(h:aL8 v=true): rQ a=false:=by
 cases v with
 | ptr=>rw[q.ptr1];rfl
 | pel=>obtain⟨_,_,_,_,_,e⟩:=q.pel1;rw[e];rfl
 | ms id m=>
  cases q with
  | p _ _ q=>cases q
  | ms=>rfl
  | msn=>rfl
 | mp=>rw[q.mp1];rfl
 | rs=>rw[q.rs1];rfl
 | rel=>rw[q.rel1];rfl
 | _=>cases h
theorem Oj: ∀{vs:List TV} {aw:List AV},Qc H vs aw->vs.any aL8=true->gI aw=false
 | [],_,_,h=>by cases h
 | v::vs,a::aw,q,h=>by
  simp only[List.any_cons,YX] at h;simp only[gI];rcases h with h | h
  .rw[aQC q.1 h]
  .cases rQ a with
   | true=>exact Oj q.2 h
   | false=>rfl
theorem aOP[aG]{pu:Bool}{x:bC}{m:List bC}(z:N7 P T E)(b:Qt N S st)(h:cT E n d (.callv pu x m) S K=some r): dG P (fC P T n) E.fl N (.callv pu x m) st K r:=by
 have q:=b.get x;simp only[cT] at h;split at h
 .rename_i vi caps G;rw[G] at q;obtain⟨j,o,y⟩:=q.inF;split at h
  .split at h
   .split at h
    .rename_i c D;cases j with
     | cons=>exact y.elim
     | nil=>
      obtain⟨v,tv,i,s,t⟩:=aPZ (z.cs vi c D) b h;refine dG.same b ?_ s t;simp only[aQ,o,XB];exact i
    .cases h
   .rename_i c0 I;unfold aPY at h;split at h
    .rename_i A;have w:=(E5 b m).app y;obtain⟨a,C,tv,B,i,s,t,g⟩:=Qx (aw:=(m.map (aH st.tmps)++j).map IV) (by rw[b.hp.ln];exact Zg _) b (w.map λ_ _ q=>aNW q) z.il h;split at g
     .rename_i u;split at g
      .cases g
      .rename_i F;have e:=t.inL;subst e;refine dG.same (v:=.lit u) b ?_ (Qh.l _) g;simp only[aQ,o,Db,Oj w A];rw[b.hp.ln,i];cases u<;>first | rfl | exact absurd rfl (F _ _ _)
     .rename_i k l;obtain⟨es,H,e2⟩:=(t.pu trivial).inS;refine dG.same (v:=.sl false es) b ?_ (.p _ _ (Qp.mkS (.inr ⟨_,rfl⟩) e2)) g;simp only[aQ,o,Db,Oj w A];rw[b.hp.ln,i];rcases H with⟨rfl,rfl⟩ | ⟨f,rfl⟩<;>rfl
     .cases g
    .cases h
  .obtain⟨v,C,tv,B,i,s⟩:=aE4 z b ((E5 b m).app y) h;exact⟨v,C,tv,B,by simp only[aQ,o];exact i,s⟩
 .cases h
theorem aM3[aG]{z:List Value}{a:List (Nat×Nat)}(s:Qt N S st)(h:cT E n d (.allocC z a) S K=some r): dG P cf E.fl N (.allocC z a) st K r:=by
 simp only[cT] at h;split at h
 .rename_i d';split at h
  .rename_i t;have p:∀{a:List (Nat×Nat)},aNU E d' a=true->∀c∈a,(cds (kdL E d' c.1)).length=c.2:=by
    intro a;induction a with
    | nil=>intro _ c x;cases x
    | cons c a j=>
     intro h c' m;simp only[aNU] at h;split at h
     .rename_i e;rcases ZO.1 m with rfl | m
      .exact Zc e
      .exact j h c' m
     .cases h
   let H1:TH:=S.hp++a.map λc=>qD.lst (kdL E d' c.1) [];let g:TH:=H1++[.box (FE S.hp.length (z.map .lit) a)];have o:HM S.hp g:=λi k l u=>⟨k,l,by
    have:=(Ze.1 u).1;rw[Zp (by simp[H1];omega),Zp this];exact u,rfl⟩
   have B:cA (Qo g) (a.map λc=>qD.lst (kdL E d' c.1) []) (a.map λc=>dK.blk c.2 []):=by
    have:=p t;clear h t;generalize g=g at *;clear o;induction a with
    | nil=>trivial
    | cons c a j=>exact⟨⟨[],by rw[this c ZP],trivial⟩,j λc' h=>this c' (ZU _ h)⟩
   have A:∀(b f:List (Nat×Nat)) (cs:List TV) (aw:List AV),a=b++f->Qc g cs aw->Qc g (FE (S.hp.length+b.length) cs f) (nZ (S.hp.length+b.length) aw f):=by
    intro b f;induction f generalizing b with
    | nil=>intro cs aw _ q;exact q
    | cons c f j=>
     intro cs aw e q;have w:Qh g (.ms (S.hp.length+b.length) none) (.ms (S.hp.length+b.length) 0 0 0):=by
      refine .ms _ (kdL E d' c.1) [] ?_;rw[Zp (by simp[H1,e]),ZY (Z0 _ _),Y4,e];simp
     have:=j (b++[c]) (cs.set c.1 (.ms (S.hp.length+b.length) none)) (aw.set c.1 (.ms (S.hp.length+b.length) 0 0 0)) (by rw[e];simp) (q.set c.1 w);rw[Zi,Ye] at this;exact this
   have v:=A [] a (z.map .lit) (z.map .lit) rfl (Qc.lits z);have C:(FE S.hp.length (z.map .lit) a).length=z.length:=by
    have:∀(a:List (Nat×Nat)) (n:Nat) (cs:List TV),(FE n cs a).length=cs.length:=by
     intro a;induction a with
     | nil=>intro n cs;rfl
     | cons c a j=>intro n cs;simp[FE,j]
    rw[this];simp
   have e2:st.heap.length=S.hp.length:=s.hp.ln;refine⟨.ptr (st.heap.length+a.length) 1 0 0,_,.ptr (S.hp.length+a.length) 0,⟨S.tm,g⟩,rfl,s.hpM o ?_,by rw[e2];exact .ptr _ _,h⟩;refine cA.app (cA.app (s.hp.imp λ_ _ h=>h.mono o) B) ⟨⟨nZ st.heap.length (z.map .lit) a,by rw[C],by rw[e2];exact v⟩,trivial⟩
  .cases h
 .cases h
theorem TP{α:Type}{s:Nat}: ∀(n:Nat) {l:List α},l.length=n*s->(pY s n l).flatten=l/\(pY s n l).length=n/\∀e∈pY s n l,e.length=s
 | 0,l,h=>by
  rw[YT] at h;have:=ZM.1 h;subst this;exact⟨rfl,rfl,λe h=>by cases h⟩
 | n+1,l,h=>by
  rw[XF] at h;obtain⟨a,b,c⟩:=TP (s:=s) n (l:=l.drop s) (by rw[ZX];omega);refine⟨by simp only[pY,Ys,a,YW],by simp[pY,b],λe he=>?_⟩;simp only[pY] at he;rcases ZO.1 he with rfl | he
  .rw[ZK];omega
  .exact c e he
theorem aID{k:Nat}: ∀{cs:List (List TV)} {l:List (den k)} {es:List (List AV)},NS [] k cs=some l->cA (Qc H) cs es->Ql k l es:=aBk
theorem aOw[aG]{agg:Bool}{s m:Nat}{x i:bC}(g:Qt N S st)(h:cT E n d (.index agg s m x i) S K=some r): dG P cf E.fl N (.index agg s m x i) st K r:=by
 have q:=g.get x;simp only[cT] at h;split at h
 .rename_i cs I;rw[I] at q;obtain⟨aw,G,y⟩:=q.inA;split at h
  .cases h
  .rename_i f;have f:=Zc f;split at h
   .cases h
   .rename_i j D;split at h
    .cases h
    .split at h
     .split at h
      .rename_i H;split at h
       .rename_i a;have a:H<m:=by simpa [YF] using a
        obtain⟨U,tv,v,b,T,M⟩:=A4 h y;have z:gV (aH st.tmps i)=some H:=tK D (g.get i) (Wf _);refine dG.same g ?_ T M;simp only[aQ,z,a,Zy,G];rw[Zu U];cases agg with
        | true=>simp only[Zy,Zb] at b |-;rw[b]
        | false=>
         simp only[Zm,Z4] at b |-;split at b
         .rename_i V;rw[V];cases b;rfl
         .cases b
       .cases h
      .cases h
     .rename_i k _;split at h
      .split at h
       .rename_i F;have F:=Zc F;split at h
        .rename_i l B;obtain⟨X,C,h⟩:=bF h;obtain⟨R,L,W⟩:=pO C;have o:aw.length=m*s:=by rw[y.len,f]
         obtain⟨Z,J,Y⟩:=TP m o;have t:cA (Qc S.hp) (pY s m cs) (pY s m aw):=by
          have:∀(m:Nat) (cs:List TV) (aw:List AV),Qc S.hp cs aw->cA (Qc S.hp) (pY s m cs) (pY s m aw):=by
           intro m;induction m with
           | zero=>intro _ _ _;trivial
           | succ m u=>intro cs aw q;exact⟨q.take s,u _ _ (q.drop s)⟩
          exact this m cs aw y
         have e:Ql k l (pY s m aw):=aID B t;obtain⟨row,Q,O⟩:=e.get L;refine dG.same (v:=.agg row) g ?_ (Qh.mkA O.c) h;have z:gV (aH st.tmps i)=some j.toNat:=tK D (g.get i) R;have a:j.toNat<m:=by rw[<-J,e.len];exact W
         have A:∀(m:Nat) (aw:List AV) (j:Nat) (row:List AV),aw.length=m*s->(pY s m aw)[j]?=some row->(aw.drop (j*s)).take s=row/\j*s+s<=aw.length:=by
          intro m;induction m with
          | zero=>intro aw j row _ h;simp[pY] at h
          | succ m u=>
           intro aw j row f h;rw[XF] at f;cases j with
           | zero=>simp only[pY,Zt,Zb] at h;rw[YT];exact⟨h,by omega⟩
           | succ j=>
            simp only[pY,ZN] at h;obtain⟨p,w⟩:=u (aw.drop s) j row (by rw[ZX];omega) h;rw[XK] at p;rw[ZX] at w;rw[XF,Wj (j*s) s];exact⟨p,by omega⟩
         obtain⟨p,w⟩:=A m aw j.toNat row o Q;simp only[aQ,z,a,Zy,G];rw[Zu w,p]
        .cases h
       .cases h
      .cases h
 .cases h
theorem aIA{A:aY}{a:AV}{w:Value}(h:eA A 0 a=.lit w): a=.lit w:=by
 cases a with
 | lit v=>
  have h:rS v=.lit w:=h;unfold rS at h;split at h
  .split at h
   .split at h
    .split at h
     .cases h
     .exact h
    .exact h
   .exact h
  .exact h
 | ms id tot off len=>
  simp only[eA,gE,YD,Z4,eZ,eD,ZF,Zy] at h;split at h<;>cases h
 | mp id=>
  simp only[eA,gE,YD,Z4,eZ,eD,ZF,Zy] at h;split at h<;>cases h
 | ptr=>simp[eA,gE] at h
 | fn vi caps=>cases caps<;>cases h
 | _=>cases h
theorem aQI{w k k':Nat}{u:TV}{x:den k}(b:cds k=[.sl k'])(d:ag k=false)(h:i6 w H k u=some x): ∃y,rdS w H k' u=some y/\val k x=.sl k' y:=by
 unfold i6 at h;rw[d] at h;have h:kI w H k [u]=some x:=h;unfold kI at h;split at h
 .rename_i p a;cases h;have c:∀(cs:List Cd) (p:SF cs),cs=[.sl k']->rdL w H cs [u]=some p->∃y,rdS w H k' u=some y/\hdT (qI cs p)=.sl k' y:=by
   intro cs p e a;subst e;simp only[rdL] at a;split at a
   .rename_i y f;cases a;exact⟨y,f,rfl⟩
   .cases a
  obtain⟨y,j,i⟩:=c _ p b a;refine⟨y,j,?_⟩;unfold val kA;rw[d,dQ.un_pk];exact i
 .cases h
theorem aL5{s k':Nat}{u:TV}{y:List (den k')}{p:AV}{x:List TV}{i:aY}{H':TH}(g:(cds k').length=s)(C:Qs H' i)(q:Qh H' u p)(a:SY H' (u::x)=true)(b:rdS 2 H' k' u=some y): ∃rows,SN s i p=some rows/\Ql k' y rows:=by
 cases u with
 | ms id m=>
  simp only[SY] at a;split at a
  .rename_i o h;split at a
   .rename_i G f;have j:Kj f m=(0,f.length):=by
     cases m with
     | none=>rfl
     | some w=>exact Zh a
    have d:win f m=f:=by rw[aAL,j];simp
    have b:AK (λk=>List (den k)) (k':=k') f=some y:=by
     simp only[rdS,h,d] at b;exact b
    obtain⟨e,b⟩:=pZ (F:=λk=>List (den k)) b;subst e;subst b;obtain⟨es,A,l⟩:=C.lst h;have n:=q.mw h;rw[j] at n;subst n;refine⟨es.map λe=>e.map (eD (i.set id (.blk s (es++[List.replicate s .undef]))) 0 eZ),?_,(Ez _ 0 _).ls l⟩;have r:Nat.beq y.length y.length=true:=Y8 _;have B:Nat.beq es.length y.length=true:=by rw[l.len];exact r
    have t:Nat.beq s s=true:=Y8 _;have z:Nat.beq 0 0=true:=rfl;simp only[SN,r,z,A,B,g,t,Xz]
   .cases a
  .cases a
 | lit v=>
  simp only[SY] at a;split at a
  .split at a
   .split at a
    .split at a
     .rw[q.inL];cases b;exact⟨[],rfl,trivial⟩
     .cases a
    .cases a
   .cases a
  .cases a
 | _=>cases a
theorem aDC: ∀{vs:List TV} {aw:List AV} {b:aY},(vs.all λv=>match v with | .lit _=>true | _=>false)=true->Qc H vs (aw.map (eA b 0))->aw.all aL9=true/\Qc H vs aw
 | [],[],_,_,_=>⟨rfl,trivial⟩
 | v::vs,a::aw,b,h,q=>by
  simp only[XR,Zd] at h;obtain⟨d,e⟩:=aDC h.2 q.2;cases v with
  | lit w=>
   have:=aIA q.1.inL;subst this;exact⟨by simp[aL9,d],Qh.l _,e⟩
  | _=>cases h.1
theorem aQr{k k':Nat}(a:cds k=[.sl k'])(b:ag k=false)(x:den k): ∃y,val k x=.sl k' y:=by
 unfold val;rw[b];unfold kA;generalize dQ.un k x=p;revert p;rw[a];exact λp=>⟨p.1,rfl⟩
def kpB(kp:Bool)(kr:List Nat): Bool:=match kp with
 | false=>true
 | true=>match kr with
  | k::_=>match cds k with
   | [c]=>match c with
    | .sl _=>!(ag k)
    | _=>false
   | _=>false
  | []=>false
theorem FOK.of0[aG]{P:Program}{T:List cS}{vi:Nat}{c:CSp}(h:aVd P T vi c)(b:kpB c.kp c.kr=true): FOK P T vi c:=by
 intro n p r i aw F;obtain⟨o,d,H,H',I,t,g,a,l⟩:=h n p r i aw F;refine⟨d,H,I,λH1=>(aTj a g t).1,(aTj (H1:=[]) a g t).2,λe=>?_⟩;have l:=l e;rw[e] at b;intro J y s f;clear h e i;revert r a f;generalize c.kr=A at b;intro r a f;cases A with
 | nil=>cases b
 | cons k j=>
  simp only[kpB] at b;split at b
  .rename_i c' q;split at b
   .rename_i k';have b:ag k=false:=by simpa using b
    cases o with
    | nil=>cases l
    | cons u o=>
    match d,g with
    | C::d,g=>
    replace a:Dq 2 H' (.v k::j.map .v) (u::o)=some r:=a;simp only[Dq] at a;split at a
    .rename_i w m;split at a
     .rename_i p' G;cases a;obtain⟨z,E,D⟩:=aQI q b m;obtain⟨rows,i,x⟩:=aL5 rfl t g.1 l E;have B:Nc (.v k::j.map .v) (fO.cs w p')=.sl k' z::Nc (j.map .v) p':=by
       simp only[Nc,fO.hc,fO.tc];congr 1
      have f:Nc (.v k::j.map .v) (fO.cs w p')=.sl J y::s:=f;rw[B] at f;cases f;exact⟨C,d,rows,rfl,i,x⟩
     .cases a
    .cases a
   .cases b
  .cases b
theorem aOo[aG]{s vi k k':Nat}{j:List Nat}{M:List bC}{z:List Nat}{x:fO (z.map .v)}{c:List AV}{p:aY}(Q:Qt N S st)(C:z=k::j)(F:cds k=[.sl k'])(B:(cds k').length=s)(hg:ag k=false)(D:fC P T n 0 vi ((M.map (aH st.tmps)).map (cK st.heap)) []=some (jV c,p))(f:∀H1:TH,Qc H1 (Nc (z.map .v) x) (c.map (eA p 0)))(O:∀a∈c,∀l,a≠.tup l)(U:aUU p (Nc (z.map .v) x) c)(h:(match Nc (z.map .v) x with | [v]=>D1 v S K | vs=>D1 (.tup vs) S K)=some r): dG P (fC P T n) E.fl N (.callT s vi M) st K r:=by
 subst C;have f:=f S.hp;have L:Nc (.v k::j.map .v) x=val k (fO.hd x)::Nc (j.map .v) (fO.tl x):=rfl;obtain⟨y,Z⟩:=aQr F hg (fO.hd x);have H:Nc (.v k::j.map .v) x=.sl k' y::Nc (j.map .v) (fO.tl x):=by rw[L,Z]
 obtain⟨i,w,rows,e0,G,R⟩:=U k' y _ H;subst e0;rw[B] at G;generalize a2:fO.tl x=p' at H;have f:Qc S.hp (Nc (.v k::j.map .v) x) ((i::w).map (eA p 0)):=f;have h:(match Nc (.v k::j.map .v) x with | [v]=>D1 v S K | vs=>D1 (.tup vs) S K)=some r:=h;rw[H] at f h;revert f h O D;generalize w=c;intro D O f h;have A:∀{tv:TV} {rv:AV} (rest:AV->AV) ,Vy s st.heap (some (jV (i::c),p))=some (rest (.ms st.heap.length rows.length 0 rows.length),st.heap++[.blk s rows])->(∀H1:TH,HM S.hp H1->Qh H1 (.ms S.hp.length none) (.ms st.heap.length rows.length 0 rows.length)->Qh H1 tv (rest (.ms st.heap.length rows.length 0 rows.length)))->K tv (Rb S (.lst k' y))=some r->dG P (fC P T n) E.fl N (.callT s vi M) st K r:=by
  intro tv rv rest V I h;refine dG.add (o:=.lst k' y) (b:=.blk s rows) Q ?_ ⟨rows,by rw[B],R⟩ (I _ HM.add ?_) h
  .simp only[aQ,D];exact V
  .rw[Q.hp.ln,R.len];exact .ms _ k' y (by simp)
 cases g:Nc (j.map .v) p' with
 | nil=>
  rw[g] at f h;have e:c=[]:=by
   cases c with
   | nil=>rfl
   | cons=>exact f.2.elim
  subst e;have ha:∀l,i≠.tup l:=O i ZP;refine A (rv:=i) (λa=>a) ?_ (λH1 _ q=>q) h;show Vy s st.heap (some (i,p))=_;cases i with
  | tup l=>exact (ha l rfl).elim
  | _=>simp only[Vy,G]
 | cons v vs=>
  rw[g] at f h;have h:D1 (.tup (.sl k' y::v::vs)) S K=some r:=h;unfold D1 at h;simp only at h;split at h
  .rename_i u;obtain⟨t,d,rfl⟩:∃t d,c=t::d:=by
    cases c with
    | nil=>exact f.2.elim
    | cons t d=>exact⟨t,d,rfl⟩
   obtain⟨Y,W⟩:=aDC (vs:=v::vs) (aw:=t::d) u f.2;refine A (rv:=i) (λa=>.tup (a::t::d)) ?_ (λH1 m q=>Qh.mkT (cs:=.ms S.hp.length none::v::vs) ⟨q,W.imp λ_ _ h=>h.mono m⟩) h;show Vy s st.heap (some (.tup (i::t::d),p))=_;simp only[Vy,Y,G]
  .cases h
theorem aOQ[aG]{s vi:Nat}{l:List bC}(t:N7 P T E)(i:Qt N S st)(h:cT E n d (.callT s vi l) S K=some r): dG P (fC P T n) E.fl N (.callT s vi l) st K r:=by
 simp only[cT] at h;split at h
 .rename_i c w;have D:=t.cs vi c w;split at h
  .rename_i j;split at h
   .rename_i k F f;split at h
    .rename_i e g;split at h
     .rename_i k';split at h
      .rename_i a;simp only[Zd,YG] at a;have b:=Zc a.1;have y:=a.2;unfold Qw at h;split at h
       .rename_i p u;split at h
        .cases h
        .rename_i B;obtain⟨x,A,h⟩:=bF h;have C:=aMz (H1:=[]) B u (E5 i l) i.hp;obtain⟨z,G,o,q,v,m⟩:=D n p x A _ C;exact aOo i f g b y o q v (m j) (by rw[aGM] at h;exact h)
       .cases h
      .cases h
     .cases h
    .cases h
   .cases h
  .cases h
 .cases h
end
section
variable [dQ]{R:Type}{H H1:TH}{A:aY}{N:Nat}{S:TS}{st:St}{P:Program}{T:List cS}{cf:CF}{op:Ia}{K:TV->TS->Option R}{r:R}{E:XE}{n:Nat}{d:Option Nat}
theorem aMr[aG]{vi l s bytes:Nat}{z:List Value}{G:aY}(h:getF T vi=some ⟨l,8,[.tmp 2],aMs s bytes z⟩)(m:0<s):
 fC P T (n+1) G.length vi [.lit bQ] G=some (.lit bQ,G)/\(∀a,(∃f,a=.sl f [])\/a=.vw []->fC P T (n+1) G.length vi [a] G=some (.sl false [],G)) /\
 ∀a e es,((∃f,a=.sl f (e::es))\/a=.vw (e::es))->fG s (e::es)=true->lA (e::es).length bytes=true->
  fC P T (n+1) G.length vi [a] G=some (.ms G.length (e::es).length 0 (e::es).length,G++[.blk s (e::es)]):=by
 have d:Nat.blt 3 8=true:=rfl;have c:Nat.blt 4 8=true:=rfl;have i:Nat.beq G.length G.length=true:=Y8 _;refine⟨?_,?_,?_⟩
 .rw[G0 _ h];simp[d,c,aMs,eQ,Li,jA,cU,eW,aQ,aH,VF,Ol,iG,Pp,aFY,lH,Pv,jV,Sc,bQ,bP]
 .intro a j;rw[G0 _ h];have b:cR G.length G s bytes (.sl true []) []=some (.sl true [],G):=by simp[cR,fG,m,lA]
  rcases j with⟨f,rfl⟩ | rfl <;>
   simp[d,c,i,aMs,eQ,Li,jA,cU,eW,aQ,aH,VF,Ol,iG,Pp,rd,b,aFY,lH,Pv,jV,aDN,Vz,aHC,aLU,bQ,bP]
 .intro a e es j p o;rw[G0 _ h];have b:cR G.length G s bytes (.sl true []) (e::es)=some (.ms G.length (e::es).length 0 (e::es).length,G++[.blk s (e::es)]):=by
   have k:fG s ([]:List (List AV))=true:=rfl;unfold cR;have g:lA (([]:List (List AV)).length+(e::es).length) bytes=true:=by simpa using o
   rw[Zu ⟨p,m,o⟩];simp only[k,g,Y3,Zy];simp
  generalize q:(e::es).length=L at b;rcases j with⟨f,rfl⟩ | rfl <;>
   simp[d,c,aMs,eQ,Li,jA,cU,eW,aQ,aH,VF,Ol,iG,Pp,rd,b,aFY,lH,Pv,jV,bQ,bP]
end
section
variable [dQ]{R:Type}{H H1:TH}{A:aY}{N:Nat}{S:TS}{st:St}{P:Program}{T:List cS}{cf:CF}{op:Ia}{K:TV->TS->Option R}{r:R}{E:XE}{n:Nat}{d:Option Nat}
theorem Ql.rep{k:Nat}{x:den k}{row:List AV}(h:Qr (kA k x) row): ∀n,Ql k (List.replicate n x) (List.replicate n row)
 | 0=>trivial
 | n+1=>⟨h,Ql.rep h n⟩
theorem aDh{α:Type}{x:α}{a b:Int}{l:List α}(h:rep x a b=some l): 0<=a/\a<=b/\b<=1000000/\l=List.replicate a.toNat x:=by
 unfold rep at h;split at h
 .rename_i c;cases h;exact⟨c.1,c.2.1,c.2.2,rfl⟩
 .cases h
theorem PB[aG]{x:bC}{a:Int}(b:Qt N S st)(h:i64? (cE S.tm x)=some a)(c:0<=a): gV (aH st.tmps x)=some a.toNat:=by
 rw[xW h (b.get x)];simp[gV,c]
theorem aIR[aG]{s bytes:Nat}{z:List Value}{x y:bC}(f:Qt N S st)(h:cT E n d (.mkSlice s z bytes x y) S K=some r): dG P cf E.fl N (.mkSlice s z bytes x y) st K r:=by
 have j:=f.hp.ln;simp only[cT] at h;split at h
 .rename_i c;simp only[Zd] at c;have A:=Zc c.1;have e2:=Zc c.2.1;have k:=Zn c.2.2;split at h
  .rename_i e u;have i:Qr (kA _ e) (z.map .lit):=kH (H':=S.hp) u (Qc.lits z);split at h
   .rename_i a m;split at h
    .rename_i b g;obtain⟨l,w,h⟩:=bF h;obtain⟨t,B,C,rfl⟩:=aDh w;have q:=PB f m t;have p:=PB f g (by omega);have:=Xt (show b.toNat<=1000000 by omega) k;refine dG.add (v:=.ms st.heap.length a.toNat 0 a.toNat) (o:=.lst (lV E d) (List.replicate a.toNat e)) (b:=.blk s (List.replicate a.toNat (z.map .lit))) f ?_ ⟨_,by rw[A],Ql.rep i _⟩ ?_ h
     .simp only[aQ,q,p];rw[Zu ⟨by omega,by omega,by omega,e2⟩]
     .have:=Qh.ms (H:=S.hp++[.lst (lV E d) (List.replicate a.toNat e)]) S.hp.length (lV E d) (List.replicate a.toNat e) (by simp);rw[YM] at this;rw[j];exact this
    .cases h
   .cases h
  .cases h
 .cases h
theorem aFK{v:TV}{a:AV}(h:SZ v=true)(q:Qh H v a): a=.lit bQ\/a=.sl true []:=by
 unfold SZ at h;split at h
 .subst h;cases (q.pu trivial) with
  | emp _ _ h=>
   rcases h with h | h | ⟨h,_⟩
   .exact .inl h
   .exact .inr h
   .cases h
 .split at h
  .split at h
   .split at h
    .split at h
     .exact .inl q.inL
     .cases h
    .cases h
   .cases h
  .cases h
 .cases h
theorem aSa[aG]{x:bC}(a:Qt N S st)(h:cT E n d (.capS x) S K=some r): dG P cf E.fl N (.capS x) st K r:=by
 simp only[cT] at h;split at h
 .rename_i b;refine dG.same (v:=.lit (.int .i64 0)) a ?_ (Qh.l _) h;rcases aFK b (a.get x) with e | e<;>simp only[aQ,e,bQ]<;>rfl
 .cases h
theorem aRP[aG]{s:Nat}{x y:bC}(c:Qt N S st)(h:cT E n d (.copy s x y) S K=some r): dG P cf E.fl N (.copy s x y) st K r:=by
 have q:=c.get x;simp only[cT] at h;split at h
 .rename_i id m B;rw[B] at q;split at h
  .rename_i o i;split at h
   .rename_i k l;split at h
    .rename_i ys A;obtain⟨es,D,f⟩:=aFy A (c.get y) c.hp;split at h
     .rename_i e;simp only[Zd] at e;have p:=Zc e.1;have e2:0<s:=by simpa [YF] using e.2.1
      have j:=Zn e.2.2;obtain⟨F,a,h⟩:=bF h;unfold cpy at a;split at a
      .rename_i u;cases a;obtain⟨w,g,t⟩:=c.hp.lst i;rw[p] at g;have C:=q.mw i;refine dG.put (v:=.lit (.int .i64 ((es.length:Nat):Int))) (b:=.blk s (aU w (Kj l m).1 es)) c i (Il u.2) ?_ ⟨_,by rw[p],t.spl f⟩ (by rw[f.len];exact Qh.l _) h;simp only[aQ,D,C,g,f.all p,e2,Y3,Zy];rw[Zu ⟨trivial,t.len,by rw[f.len];exact u.1,j⟩];split
       .rename_i z;have:es=[]:=ZM.1 z;subst this;simp only[AZ,NL g];rfl
       .rfl
      .cases a
     .cases h
    .cases h
   .cases h
  .cases h
 .cases h
theorem aOL[aG]{s:Nat}{z:List Value}{x:bC}(f:Qt N S st)(h:cT E n d (.clear s z x) S K=some r): dG P cf E.fl N (.clear s z x) st K r:=by
 have q:=f.get x;have y:Qh S.hp (.tup []) (.tup []):=Qh.mkT (cs:=[]) trivial;simp only[cT] at h;split at h
 .rename_i id m G;rw[G] at q;split at h
  .rename_i o j;split at h
   .rename_i k l;split at h
    .rename_i A H;have g:Qr (kA _ A) (z.map .lit):=kH (H':=S.hp) H (Qc.lits z);split at h
     .rename_i c;simp only[Zd] at c;have u:=Zc c.1;have e2:0<s:=by simpa [YF] using c.2.1
      have i:=Zn c.2.2.1;have F:=Zc c.2.2.2;obtain⟨J,a,h⟩:=bF h;unfold clr at a;split at a
      .rename_i w;cases a;obtain⟨B,p,t⟩:=f.hp.lst j;rw[u] at p;have I:=q.mw j;refine dG.put (v:=.tup []) (b:=.blk s (aU B (Kj l m).1 (List.replicate (Kj l m).2 (z.map .lit)))) f j (Il (by rw[YM];exact w)) ?_ ⟨_,by rw[u],t.spl (Ql.rep g _)⟩ (Qh.mkT (cs:=[]) trivial) h;simp only[aQ,I,p];rw[Zu ⟨trivial,t.len,w,i,e2,F⟩];split
       .rename_i D;simp only[D,List.replicate_zero,AZ,NL p]
       .rfl
      .cases a
     .cases h
    .cases h
   .cases h
  .cases h
 .split at h
  .rename_i C;refine dG.same (v:=.tup []) f ?_ y h;rcases aFK C q with e | e<;>simp only[aQ,e,bQ]
  .cases h
theorem aJ2[aG]{s bytes:Nat}{z:List Value}{x m:bC}(f:Qt N S st)(h:cT E n d (.appendZ s bytes z x m) S K=some r): dG P cf E.fl N (.appendZ s bytes z x m) st K r:=by
 have q:=f.get x;have G:=f.hp.ln;simp only[cT] at h;split at h
 .rename_i B;have c:=aFK B q;split at h
  .rename_i e;simp only[Zd] at e;have w:=Zc e.1;have e2:0<s:=by simpa [YF] using e.2.1
   have A:=Zc e.2.2.1;have t:=Zn e.2.2.2;split at h
   .rename_i g C;have k:Qr (kA _ g) (z.map .lit):=kH (H':=S.hp) C (Qc.lits z);split at h
    .rename_i a J;obtain⟨l,L,h⟩:=bF h;obtain⟨I,M,Q,rfl⟩:=aDh L;have F:=PB f J I;have O:=Xt (show a.toNat<=1000000 by omega) t;have p:lA a.toNat bytes=true:=Az (by omega) t;have u:fG s (List.replicate a.toNat (z.map AV.lit))=true:=(Ql.rep k a.toNat).all w;have ev:aQ P cf E.fl (.appendZ s bytes z x m) st.tmps st.heap=cR E.fl st.heap s bytes (aH st.tmps x) (List.replicate a.toNat (z.map .lit)):=by
      simp only[aQ,F];rw[Zu ⟨A,by omega,by omega⟩]
     rcases I6 h with⟨i,h⟩ | ⟨i,h⟩
     .have D:a.toNat=0:=by simpa using i
      refine dG.same f ?_ q h;rw[ev,D];rcases c with c | c<;>rw[c]<;>simp[cR,fG,e2,lA,bQ]
     .have y:a.toNat≠0:=by simpa using i
      refine dG.add (v:=.ms st.heap.length a.toNat 0 a.toNat) (o:=.lst (lV E d) (List.replicate a.toNat g)) (b:=.blk s (List.replicate a.toNat (z.map .lit))) f ?_ ⟨_,by rw[w],Ql.rep k _⟩ ?_ h
      .rw[ev];rcases c with c | c<;>rw[c]
       .simp[cR,bQ,u,e2,p,y]
       .have j:fG s ([]:List (List AV))=true:=rfl;unfold cR;simp only[u,e2,p,y,j,Y3,Zy,Z4,Z2,ZZ,Xl,YM]
      .have:=Qh.ms (H:=S.hp++[.lst (lV E d) (List.replicate a.toNat g)]) S.hp.length (lV E d) (List.replicate a.toNat g) (by simp);rw[YM] at this;rw[G];exact this
    .cases h
   .cases h
  .cases h
 .cases h
theorem aQE{k:Nat}{v:TV}{l:List (den k)}{a:AV}(h:rdX [] k v=some l)(q:Qh H v a): Qh ([]:TH) v a:=by
 cases v with
 | sl k l=>exact .p _ _ (q.pu trivial)
 | emp b=>exact .p _ _ (q.pu trivial)
 | vw k l=>exact .p _ _ (q.pu trivial)
 | lit v=>rw[q.inL];exact Qh.l _
 | ms id m=>simp[rdX,rdS] at h
 | _=>cases h
theorem aOR[aG]{vi:Nat}{s:List bC}(H:N7 P T E)(g:Qt N S st)(h:cT E n d (.callF vi s) S K=some r): dG P (fC P T n) E.fl N (.callF vi s) st K r:=by
 have q:=E5 g s;simp only[cT] at h;split at h
 .rename_i p M;split at h
  .rename_i k;obtain⟨a1,bytes,z,V,h0,R⟩:=H.pr vi _ M;unfold aU3 at h;split at h
   .rename_i x O;rw[O] at q;split at h
    .rename_i l I;obtain⟨a,y⟩:∃a,s.map (aH st.tmps)=[a]:=by
      cases u:s.map (aH st.tmps) with
      | nil=>rw[u] at q;exact q.elim
      | cons a t=>rw[u] at q;cases t with
       | nil=>exact⟨a,rfl⟩
       | cons _ _=>exact q.2.elim
     rw[y] at q;obtain⟨m,hm,h⟩:=bF h;have e:=aKD hm;subst e;obtain⟨W,e2,e3⟩:=aMr (P:=P) (n:=m) (G:=st.heap) V h0;have ev:aQ P (fC P T (m+1)) E.fl (.callF vi s) st.tmps st.heap=fC P T (m+1) st.heap.length vi [a] st.heap:=by simp only[aQ,y]
     have D:∃es,(a=.lit bQ/\es=[]\/(∃f,a=.sl f es)\/a=.vw es)/\Ql k l es:=by
      rcases IF (A:=[]) I (aQE I q.1) (λ_=>trivial) with⟨es,i,w⟩ | ⟨_,es,i,w⟩ | ⟨_,id,tot,o,n,es,e,i,_⟩
      .exact⟨es,i.imp (λh=>h) .inl,w⟩
      .exact⟨es,i,w⟩
      .subst e;simp[rd] at i
     obtain⟨es,c,j⟩:=D;rcases I6 h with⟨F,h⟩ | ⟨F,h⟩
     .have:l=[]:=by simpa using F
      subst this;have:es=[]:=ZM.1 j.len;subst this;rcases c with⟨c,_⟩ | c
      .refine dG.same (v:=.lit bQ) g ?_ (.p _ _ (.emp _ _ (.inl rfl))) h;rw[ev,c];exact W
      .refine dG.same (v:=.sl false []) g ?_ (.p _ _ (.emp _ _ (.inr (.inr ⟨rfl,rfl⟩)))) h;rw[ev];exact e2 a c
     .obtain⟨C,B,L⟩:=bF h;clear h;obtain⟨J,X⟩:=LN B;rw[Xl] at J;subst J;cases es with
      | nil=>
       have:C=[]:=ZM.1 j.len.symm;subst this;cases F
      | cons e es=>
       have y:(∃f,a=.sl f (e::es))\/a=.vw (e::es):=by
        rcases c with⟨_,c⟩ | c
        .cases c
        .exact c
       have g3:=e3 a e es y (j.all rfl) (Az (by rw[j.len];simpa using X) R);refine dG.add (v:=.ms st.heap.length (e::es).length 0 (e::es).length) (o:=.lst k C) (b:=.blk (cds k).length (e::es)) g (by rw[ev];exact g3) ⟨_,rfl,j⟩ ?_ L;rw[g.hp.ln,j.len];exact .ms _ k C (by simp)
    .cases h
   .cases h
  .cases h
 .obtain⟨v,Q,tv,S',i,w,U,Y⟩:=Qx (by rw[g.hp.ln];exact Zg _) g q H.il h;exact⟨v,Q,tv,S',by simp only[aQ];rw[g.hp.ln];exact i,w,U,Y⟩
end
end
end Go.Proofs.YtglfoebmkbglgaaGreatDoor.Av
