/- A part of the proof of a law on transactions. -/
import Derived.Test.YtglfoebmkbglgaaGreatDoorP4
set_option maxRecDepth 100000
set_option maxHeartbeats 4000000
set_option linter.all false
namespace Go.Proofs.YtglfoebmkbglgaaGreatDoor.Av
open Go
section
open iU (den cds ag)
section
variable [dQ]{R:Type}{H H1:TH}{A:aW}{N:Nat}{S:TS}{st:St}{P:Program}{T:List cR}{cf:CF}{op:Hy}{K:TV->TS->Option R}{r:R}{E:XE}{n:Nat}{d:Option Nat}
theorem aBv{v:TV}{a:AV}(q:Qh H v a)(hv:∀cs,v≠.agg cs): Qh H (aHk v) (nrm a):=by
 cases v with
 | lit u=>
  have e:=q.inL
  subst e
  cases u with
  | slice o l c=>
   cases o with
   | some o=>exact Qh.u _
   | none=>
    cases l with
    | succ l=>exact Qh.u _
    | zero=>
     cases c with
     | succ c=>exact Qh.u _
     | zero=>exact .p _ _ (.emp _ _ (.inr (.inr ⟨rfl,rfl⟩)))
  | _=>exact q
 | emp b=>
  cases (q.pu trivial) with
  | emp _ _ h=>rcases h with rfl | rfl | ⟨_,rfl⟩<;>exact .p _ _ (.emp _ _ (.inr (.inr ⟨rfl,rfl⟩)))
 | sl k l=>
  obtain⟨es,h1,h2⟩:=(q.pu trivial).inS
  rcases h1 with⟨rfl,rfl⟩ | ⟨f,rfl⟩<;>exact .p _ _ (Qp.mkS (.inr ⟨_,rfl⟩) h2)
 | vw k l=>
  obtain⟨es,h1,h2⟩:=(q.pu trivial).inV
  rcases h1 with⟨rfl,rfl⟩ | ⟨f,rfl⟩ | rfl
  .exact .p _ _ (Qp.mkV (.inr (.inl ⟨_,rfl⟩)) h2)
  .exact .p _ _ (Qp.mkV (.inr (.inl ⟨_,rfl⟩)) h2)
  .exact q
 | undef=>exact Qh.u _
 | agg cs=>exact (hv cs rfl).elim
 | rptr cs=>obtain⟨aw,rfl,_⟩:=(q.pu trivial).inR;exact q
 | sptr k x=>obtain⟨aw,rfl,_⟩:=(q.pu trivial).inP;exact q
 | ptr=>have e:=q.ptr1;subst e;exact q
 | pel=>obtain⟨_,_,_,_,_,e⟩:=q.pel1;subst e;exact q
 | fn vi cs=>obtain⟨aw,rfl,_⟩:=q.inF;exact q
 | tup cs=>obtain⟨aw,rfl,_⟩:=q.inT;exact q
 | rmp=>
  obtain⟨rows,h1,_⟩:=(q.pu trivial).inM
  rcases h1 with⟨rfl,_⟩ | rfl<;>exact q
 | rs=>have e:=q.rs1;subst e;exact q
 | rel=>have e:=q.rel1;subst e;exact q
 | ms id m=>
  cases q with
  | p _ _ q=>cases q
  | ms _ k l h=>exact .ms _ k l h
  | msn _ n k l h=>exact .msn _ n k l h
 | mp=>cases q with
  | p _ _ q=>cases q
  | mp=>exact .mp _
 | it=>cases q with
  | p _ _ q=>cases q
  | it=>exact .it _
theorem aTs[aG]{x:bB}(hs:Qt N S st)(h:cS E n d (.mov x) S K=some r): dG P cf E.fl N (.mov x) st K r:=dG.same hs rfl (hs.get x) h
theorem aQ4[aG]{c x y:bB}(hs:Qt N S st)(h:cS E n d (.pick c x y) S K=some r): dG P cf E.fl N (.pick c x y) st K r:=by
 have q:=hs.get c
 simp only[cS] at h
 split at h
 .rename_i u hu
  rw[hu] at q
  have e:=q.inL
  split at h
  .rename_i b
   cases b with
   | true=>exact dG.same hs (by simp only[aN,e,Zy]) (hs.get x) h
   | false=>exact dG.same hs (by simp only[aN,e];rfl) (hs.get y) h
  .cases h
 .cases h
theorem aOI[aG]{z:List Value}(hs:Qt N S st)(h:cS E n d (.alloc z) S K=some r): dG P cf E.fl N (.alloc z) st K r:=by
 have hl:=hs.hp.ln
 exact dG.add (v:=.ptr st.heap.length 1 0 0) (o:=.box (z.map .lit)) (b:=.blk z.length [z.map .lit]) hs rfl ⟨z.map .lit,by simp,Qc.lits z⟩ (by rw[hl];exact .ptr _ _) h
theorem aO2[aG]{s:Nat}(hs:Qt N S st)(h:cS E n d (.claim s) S K=some r): dG P cf E.fl N (.claim s) st K r:=by
 have hl:=hs.hp.ln
 simp only[cS] at h
 split at h
 .rename_i e
  have e:=Zc e
  exact dG.add (v:=.ms st.heap.length 0 0 0) (o:=.lst (lT E d) []) (b:=.blk s []) hs rfl ⟨[],by rw[e],trivial⟩ (by rw[hl];exact .ms _ (lT E d) [] (by simp)) h
 .cases h
theorem aTV[aG]{x:bB}(hs:Qt N S st)(h:cS E n d (.box x) S K=some r): dG P cf E.fl N (.box x) st K r:=by
 have hl:=hs.hp.ln
 simp only[cS] at h
 split at h
 .rename_i cs hcs
  obtain⟨aw,h1,h2⟩:=Si hcs (hs.get x)
  exact dG.add (v:=.ptr st.heap.length 1 0 0) (o:=.box cs) (b:=.blk aw.length [aw]) hs (by simp only[aN,h1]) ⟨aw,by rw[h2.len],h2.imp λ_ _ h=>h.mono HM.add⟩ (by rw[hl];exact .ptr _ _) h
 .cases h
theorem aDW[aG](hs:Qt N S st): ∀{ps:List (Nat×Nat×bB)} {cs cs':List TV} {aw:List AV},aH9 cs (ps.map λ(o,s,x)=>(o,s,cD S.tm x))=some cs'->Qc S.hp cs aw->
 ∃aw',SS aw (ps.map λ(o,s,x)=>(o,s,aH st.tmps x))=some aw'/\Qc S.hp cs' aw'
 | [],cs,cs',aw,h,q=>by cases h;exact⟨aw,rfl,q⟩
 | (o,s,x)::ps,cs,cs',aw,h,q=>by
  simp only[ZG,aH9] at h
  split at h
  .cases h
  .rename_i vs hvs
   obtain⟨bs,h1,h2⟩:=Si hvs (hs.get x)
   split at h
   .rename_i e
    have e:=Zc e
    split at h
    .rename_i e2
     have e2:=Zn e2
     obtain⟨aw',g1,g2⟩:=aDW hs h (q.spl h2)
     refine⟨aw',?_,g2⟩
     simp only[ZG,SS,h1]
     rw[Zu ⟨by rw[h2.len,e],by rw[q.len];exact e2⟩]
     exact g1
    .cases h
   .cases h
theorem aO9[aG]{z:List Value}{ps:List (Nat×Nat×bB)}(hs:Qt N S st)(h:cS E n d (.build z ps) S K=some r): dG P cf E.fl N (.build z ps) st K r:=by
 simp only[cS] at h
 split at h
 .rename_i cs hcs
  obtain⟨aw,h1,h2⟩:=aDW hs hcs (Qc.lits z)
  exact dG.same hs (by simp only[aN,h1]) (Qh.mkA h2) h
 .cases h
theorem aDX[aG]{s:Nat}(hs:Qt N S st): ∀{ps:List (Nat×bB)} {cs cs':List (List TV)} {aw:List (List AV)},aHA s cs (ps.map λ(i,x)=>(i,cD S.tm x))=some cs'->bZ (Qc S.hp) cs aw->
 ∃aw',Pp s aw (ps.map λ(i,x)=>(i,aH st.tmps x))=some aw'/\bZ (Qc S.hp) cs' aw'/\cs'.length=cs.length
 | [],cs,cs',aw,h,q=>by cases h;exact⟨aw,rfl,q,rfl⟩
 | (i,x)::ps,cs,cs',aw,h,q=>by
  simp only[ZG,aHA] at h
  split at h
  .cases h
  .rename_i vs hvs
   obtain⟨bs,h1,h2⟩:=Si hvs (hs.get x)
   split at h
   .rename_i e
    have e:=Zc e
    split at h
    .rename_i e2
     have e2:i<cs.length:=by simpa [YF] using e2
     obtain⟨aw',g1,g2,g3⟩:=aDX hs h (q.set i h2)
     refine⟨aw',?_,g2,by rw[g3];simp⟩
     simp only[ZG,Pp,h1]
     rw[Zu ⟨by rw[h2.len,e],by rw[q.len];exact e2⟩]
     exact g1
    .cases h
   .cases h
theorem aJj[aG]{pu:Bool}{s m:Nat}{z:List Value}{ps:List (Nat×bB)}(hs:Qt N S st)(h:cS E n d (.buildSl pu s m z ps) S K=some r): dG P cf E.fl N (.buildSl pu s m z ps) st K r:=by
 have hl:=hs.hp.ln
 simp only[cS] at h
 split at h
 .rename_i es hes
  obtain⟨aw,h1,h2,h3⟩:=aDX hs hes (bZ.rep (Qc.lits z) m)
  split at h
  .split at h
   .cases h
   .exact dG.add (v:=.ms st.heap.length m 0 m) (o:=.rows s es) (b:=.blk s aw) hs (by simp only[aN,h1,Zm,Z3]) ⟨aw,rfl,h2.imp λ_ _ h=>h.imp λ_ _ h=>h.mono HM.add⟩ (by rw[hl];exact .rs _ _) h
  split at h
  .rename_i l hrow
   have hq:=aBg hrow h2
   split at h
   .rename_i e
    have e:=Zc e
    have hm:l.length=m:=by rw[<-hq.len,h2.len,h3];simp
    cases pu with
    | true=>
     simp only at h
     have he:aN P cf E.fl (.buildSl true s m z ps) st.tmps st.heap=some (.sl true (aw.map λe=>e.map Er),st.heap):=by simp only[aN,h1,Zy]
     split at h
     .cases aw with
      | nil=>exact dG.same hs he (.p _ _ (.emp _ _ (.inr (.inl rfl)))) h
      | cons=>exact h2.elim
     .exact dG.same hs he (.p _ _ (Qp.mkS (.inr ⟨_,rfl⟩) (xH.ls hq))) h
    | false=>
     exact dG.add (v:=.ms st.heap.length m 0 m) (o:=.lst (lT E d) l) (b:=.blk s aw) hs (by simp only[aN,h1,Zm,Z3]) ⟨aw,by rw[e],hq⟩ (by rw[hl,<-hm];exact .ms _ (lT E d) l (by simp)) h
   .cases h
  .cases h
 .cases h
theorem aF8[aG]{x:bB}(hs:Qt N S st)(h:cS E n d (.nilCheck x) S K=some r): dG P cf E.fl N (.nilCheck x) st K r:=by
 have q:=hs.get x
 simp only[cS] at h
 split at h
 .rename_i hx;rw[hx] at q;exact dG.same hs (by simp only[aN,q.ptr1]) (q.ptr1▸q) h
 .rename_i hx;rw[hx] at q;obtain⟨_,_,_,_,_,e⟩:=q.pel1;exact dG.same hs (by simp only[aN,e]) (e▸q) h
 .rename_i hx;rw[hx] at q;obtain⟨aw,e,_⟩:=(q.pu trivial).inR;exact dG.same hs (by simp only[aN,e]) (e▸q) h
 .rename_i hx;rw[hx] at q;obtain⟨aw,e,_⟩:=(q.pu trivial).inP;exact dG.same hs (by simp only[aN,e]) (e▸q) h
 .rename_i hx;rw[hx] at q;obtain⟨aw,e,_⟩:=q.inF;exact dG.same hs (by simp only[aN,e]) (e▸q) h
 .cases h
theorem aQX{o:BinOp}{k:IntKind}{a b:Int}{K:TV->Option R}(h:aT3 o k a b K=some r): ∃v tv,aAo o k a b=some v/\Qh H tv (.lit v)/\K tv=some r:=by
 have key:∀{c:Bool},Ng (.lit (.bool c)) K=some r->∃v tv,some (Value.bool c)=some v/\Qh H tv (.lit v)/\K tv=some r:=by
  intro c h
  obtain⟨v',h1,h2⟩:=HD h (Qh.l (H:=H) (.bool c))
  exact⟨_,v',rfl,h1,h2⟩
 cases o with
 | add=>exact⟨_,_,rfl,Qh.l _,h⟩
 | sub=>exact⟨_,_,rfl,Qh.l _,h⟩
 | mul=>exact⟨_,_,rfl,Qh.l _,h⟩
 | eql=>exact key h
 | neq=>exact key h
 | lss=>exact key h
 | leq=>exact key h
 | gtr=>exact key h
 | geq=>exact key h
 | _=>cases h
theorem aQZ[aG]{o:BinOp}{x y:bB}(hs:Qt N S st)(h:cS E n d (.ibin o x y) S K=some r): dG P cf E.fl N (.ibin o x y) st K r:=by
 have q:=hs.get x
 have q2:=hs.get y
 simp only[cS] at h
 split at h
 .rename_i u hu
  rw[hu] at q
  split at h
  .rename_i k a
   split at h
   .rename_i w hw
    rw[hw] at q2
    split at h
    .rename_i k' b
     split at h
     .rename_i e _
      subst e
      obtain⟨v,tv,h1,h2,h3⟩:=aQX h
      exact dG.same hs (by simp only[aN,q.inL,q2.inL,Zy,h1]) h2 h3
     .cases h
    .cases h
   .cases h
  .cases h
 .cases h
theorem aVp[aG]{o:UnOp}{x:bB}(hs:Qt N S st)(h:cS E n d (.un o x) S K=some r): dG P cf E.fl N (.un o x) st K r:=by
 have q:=hs.get x
 simp only[cS] at h
 split at h
 all_goals first | cases h | skip
 all_goals
  split at h
  .rename_i u hu
   rw[hu] at q
   split at h
   .exact dG.same hs (by simp only[aN,q.inL];rfl) (Qh.l _) h
   .cases h
  .cases h
theorem aDZ[aG]{o:Nat}{x:bB}(hs:Qt N S st)(h:cS E n d (.fieldAddr o x) S K=some r): dG P cf E.fl N (.fieldAddr o x) st K r:=by
 have q:=hs.get x
 simp only[cS] at h
 split at h
 .rename_i hx;rw[hx] at q;exact dG.same hs (by simp only[aN,q.ptr1]) (.ptr _ _) h
 .rename_i hx;rw[hx] at q;obtain⟨k,l,h1,h2,h3,e⟩:=q.pel1;exact dG.same hs (by simp only[aN,e]) (.pel _ _ _ k l h1 h2 h3) h
 .rename_i hx;rw[hx] at q;obtain⟨aw,e,h2⟩:=(q.pu trivial).inR;exact dG.same hs (by simp only[aN,e]) (.p _ _ (Qp.mkR (h2.drop _))) h
 .rename_i hx;rw[hx] at q;obtain⟨aw,e,h2⟩:=(q.pu trivial).inP;exact dG.same hs (by simp only[aN,e]) (.p _ _ (Qp.mkR (h2.drop _))) h
 .rename_i hx;rw[hx] at q;exact dG.same hs (by simp only[aN,q.rel1]) (.rel _ _ _ _) h
 .cases h
theorem aOh[aG]{agg:Bool}{m o:Nat}{x:bB}(hs:Qt N S st)(h:cS E n d (.field agg m o x) S K=some r): dG P cf E.fl N (.field agg m o x) st K r:=by
 have q:=hs.get x
 simp only[cS] at h
 split at h
 .rename_i cs hx
  rw[hx] at q
  obtain⟨aw,ha,qc⟩:=q.inA
  obtain⟨h1,tv,v,h2,h3,h4⟩:=z5 h qc
  refine dG.same hs ?_ h3 h4
  simp only[aN,ha,h1,Zy]
  cases agg with
  | true=>simp only[Zy,Zb] at h2 |-;rw[h2]
  | false=>
   simp only[Zm,Z3] at h2 |-
   split at h2
   .rename_i hc;rw[hc];cases h2;rfl
   .cases h2
 .cases h
theorem sY{v:TV}{a:AV}{i:Int}(h:aH1 v=some i)(q:Qh H v a)(hi:0<=i): gS a=some i.toNat:=by
 unfold aH1 at h
 split at h
 .cases h
  rw[q.inL]
  simp[gS,hi]
 .cases h
theorem aIP[aG]{s:Nat}{x i:bB}(hs:Qt N S st)(h:cS E n d (.idxAddr s x i) S K=some r): dG P cf E.fl N (.idxAddr s x i) st K r:=by
 have q:=hs.get x
 have q2:=hs.get i
 simp only[cS] at h
 split at h
 .rename_i j hj
  split at h
  .rename_i k l hx
   rw[hx] at q
   split at h
   .rename_i e
    have e:=Zc e
    obtain⟨y,hy,h⟩:=bG h
    obtain⟨g1,g2,_⟩:=pH hy
    obtain⟨es,h1,h2⟩:=(q.pu trivial).inS
    obtain⟨e1,he,hr⟩:=h2.get g2
    rcases h1 with⟨_,rfl⟩ | ⟨f,ha⟩
    .simp at he
    .refine dG.same hs ?_ (.p _ _ (Qp.mkR hr)) h
     simp only[aN,sY hj q2 g1,ha,he]
     rw[Zu (by rw[hr.len,sJ,e])]
   .cases h
  .rename_i k l hx
   rw[hx] at q
   split at h
   .rename_i e
    have e:=Zc e
    obtain⟨y,hy,h⟩:=bG h
    obtain⟨g1,g2,_⟩:=pH hy
    obtain⟨es,h1,h2⟩:=(q.pu trivial).inV
    obtain⟨e1,he,hr⟩:=h2.get g2
    rcases h1 with⟨_,rfl⟩ | ⟨f,ha⟩ | ha
    .simp at he
    .refine dG.same hs ?_ (.p _ _ (Qp.mkR hr)) h
     simp only[aN,sY hj q2 g1,ha,he]
     rw[Zu (by rw[hr.len,sJ,e])]
    .refine dG.same hs ?_ (.p _ _ (Qp.mkR hr)) h
     simp only[aN,sY hj q2 g1,ha,he]
     rw[Zu (by rw[hr.len,sJ,e])]
   .cases h
  .rename_i id m hx
   rw[hx] at q
   split at h
   .rename_i o ho
    split at h
    .rename_i k l
     split at h
     .rename_i e
      have e:=Zc e
      obtain⟨es,h1,h2⟩:=hs.hp.lst ho
      have hq:=q.mw ho
      split at h
      .obtain⟨y,hy,h⟩:=bG h
       obtain⟨g1,g2,g3,g4⟩:=aIO hy
       refine dG.same hs ?_ (.pel id j 0 k l ho g1 g4) h
       simp only[aN,sY hj q2 g1,hq,h1,Kh]
       rw[Zu ⟨e,h2.len,g2⟩,Z0]
      .rename_i w
       obtain⟨y,hy,h⟩:=bG h
       obtain⟨g1,g2,g3⟩:=pH hy
       simp only[win,ZI,ZW] at g3
       have g4:(j+((w.1:Nat):Int)).toNat=w.1+j.toNat:=by omega
       refine dG.same (v:=.ptr id l.length (w.1+j.toNat) 0) hs ?_ (by rw[<-g4];exact .pel id _ 0 k l ho (by omega) (by omega)) h
       simp only[aN,sY hj q2 g1,hq,h1,Kh]
       rw[Zu ⟨e,h2.len,by omega⟩]
     .cases h
    .cases h
   .cases h
  .rename_i id m hx
   rw[hx] at q
   split at h
   .rename_i i0
    split at h
    .rename_i o ho
     split at h
     .split at h
      .rename_i e
       simp only[Zd] at e
       have e1:=Zc e.1
       have e2:=Zc e.2.1
       have e3:i0<m:=by simpa [YF] using e.2.2
       obtain⟨b,hb,aw,rfl,qa⟩:=hs.hp.get ho
       refine dG.same hs ?_ (.rel id m i0 0) h
       have hi:gS (aH st.tmps i)=some i0:=sY hj q2 (Wf _)
       simp only[aN,hi,q.rs1,hb]
       rw[Zu ⟨e1,by rw[qa.len,e2],e3⟩,Z0]
      .cases h
     .cases h
    .cases h
   .cases h
  .cases h
 .cases h
theorem aQO[aG]{x:bB}(hs:Qt N S st)(h:cS E n d (.lenS x) S K=some r): dG P cf E.fl N (.lenS x) st K r:=by
 have q:=hs.get x
 simp only[cS] at h
 split at h
 .rename_i m hm
  refine dG.same hs ?_ (Qh.l _) h
  generalize cD S.tm x=v at hm q
  generalize hb:aH st.tmps x=a at q
  cases v with
  | sl k l=>
   cases hm
   obtain⟨es,h1,h2⟩:=(q.pu trivial).inS
   rw[<-h2.len]
   rcases h1 with⟨rfl,rfl⟩ | ⟨f,rfl⟩<;>simp only[aN,hb]<;>rfl
  | vw k l=>
   cases hm
   obtain⟨es,h1,h2⟩:=(q.pu trivial).inV
   rw[<-h2.len]
   rcases h1 with⟨rfl,rfl⟩ | ⟨f,rfl⟩ | rfl<;>simp only[aN,hb]<;>rfl
  | emp b=>
   cases hm
   cases (q.pu trivial) with
   | emp _ _ h=>rcases h with rfl | rfl | ⟨_,rfl⟩<;>simp only[aN,hb]<;>rfl
  | lit u=>
   have e:=q.inL
   subst e
   unfold aQN at hm
   split at hm
   .rename_i e;cases e
   .rename_i e;cases e
   .rename_i e;cases e
   .rename_i e;cases e;cases hm;simp only[aN,hb];rfl
   .rename_i e;cases e
   .rename_i e;cases e
   .cases hm
  | rs id c=>cases hm;simp only[aN,hb,q.rs1]
  | ms id c=>
   cases q with
   | p _ _ q=>cases q
   | ms _ k l h'=>
    simp only[aQN,h'] at hm
    cases hm
    simp only[aN,hb]
   | msn _ c k l h'=>
    cases hm
    simp only[aN,hb]
  | _=>cases hm
 .cases h
theorem aIX[aG]{i:Nat}{x:bB}(hs:Qt N S st)(h:cS E n d (.extract x i) S K=some r): dG P cf E.fl N (.extract x i) st K r:=by
 have q:=hs.get x
 simp only[cS] at h
 split at h
 .rename_i vs hx
  rw[hx] at q
  obtain⟨aw,ha,qc⟩:=q.inT
  split at h
  .rename_i v hv
   obtain⟨b,hb,qb⟩:=qc.get hv
   exact dG.same hs (by simp only[aN,ha,hb]) qb h
  .cases h
 .cases h
theorem xL{v:TV}{a:AV}{i:Int}(h:i64? v=some i)(q:Qh H v a): a=iv i:=by
 unfold i64? at h
 split at h
 .split at h
  .split at h
   .cases h;exact q.inL
   .cases h
  .cases h
 .cases h
theorem aKT[aG]{mx:Bool}{xs:List bB}(hs:Qt N S st)(h:cS E n d (.minmax mx xs) S K=some r): dG P cf E.fl N (.minmax mx xs) st K r:=by
 simp only[cS] at h
 split at h
 .rename_i p hp
  match xs,hp with
  | [x,y],hp=>
   simp only[ZG,Yn,aPl] at hp
   split at hp
   .rename_i a ha
    split at hp
    .rename_i b hb
     cases hp
     have e1:=xL ha (hs.get x)
     have e2:=xL hb (hs.get y)
     cases mx with
     | true=>
      refine dG.same hs ?_ (Qh.l _) h
      have e:aN P cf E.fl (.minmax true [x,y]) st.tmps st.heap=aN P cf E.fl (.minmax true [.tmp 0,.tmp 1]) [aH st.tmps x,aH st.tmps y] st.heap:=rfl
      rw[e,e1,e2];exact aKA
     | false=>
      refine dG.same hs ?_ (Qh.l _) h
      have e:aN P cf E.fl (.minmax false [x,y]) st.tmps st.heap=aN P cf E.fl (.minmax false [.tmp 0,.tmp 1]) [aH st.tmps x,aH st.tmps y] st.heap:=rfl
      rw[e,e1,e2];exact aQ8
    .cases hp
   .cases hp
  | [],hp=>cases hp
  | [_],hp=>cases hp
  | _::_::_::_,hp=>cases hp
 .cases h
end
section
variable [dQ]{R:Type}{H H1:TH}{A:aW}{N:Nat}{S:TS}{st:St}{P:Program}{T:List cR}{cf:CF}{op:Hy}{K:TV->TS->Option R}{r:R}{E:XE}{n:Nat}{d:Option Nat}
theorem i5{i:Nat}: ∀{ks:List Nat},IR i ks=false->i∉ks
 | [],_=>by simp
 | j::r,h=>by
  simp only[IR] at h
  split at h
  .cases h
  .rename_i e
   simp only[ZO,not_or]
   exact⟨YE e,i5 h⟩
theorem aFC{i:Nat}: ∀{ks:List Nat},i∉ks->IR i ks=false
 | [],_=>rfl
 | j::r,h=>by
  simp only[ZO,not_or] at h
  simp only[IR]
  split
  .rename_i e;exact absurd (Zc e) h.1
  .exact aFC h.2
def HMk(ks:List Nat)(H H':TH): Prop:=∀(j k:Nat) (l:List (den k)),j∉ks->H[j]?=some (.lst k l)->∃(k':Nat) (l':List (den k')),H'[j]?=some (.lst k' l')/\l'.length=l.length
theorem A9{ks:List Nat}(m:HMk ks H H1){v:TV}{a:AV}(q:Qh H v a): Qh H1 (B0 ks v) a:=by
 cases q with
 | p _ _ q=>
  cases v with
  | ms=>cases q
  | pel=>cases q
  | agg=>cases q
  | tup=>cases q
  | fn=>cases q
  | _=>exact .p _ _ q
 | ms i k l h=>
  simp only[B0]
  cases e:IR i ks with
  | true=>exact Qh.u _
  | false=>obtain⟨k',l',h1,h2⟩:=m i k l (i5 e) h;rw[<-h2];exact .ms i k' l' h1
 | msn i n k l h=>
  simp only[B0]
  cases e:IR i ks with
  | true=>exact Qh.u _
  | false=>obtain⟨k',l',h1,h2⟩:=m i k l (i5 e) h;rw[<-h2];exact .msn i n k' l' h1
 | pel i j o k l h h1 h2=>
  simp only[B0]
  cases e:IR i ks with
  | true=>exact Qh.u _
  | false=>obtain⟨k',l',h3,h4⟩:=m i k l (i5 e) h;rw[<-h4];exact .pel i j o k' l' h3 h1 (by omega)
 | ptr=>exact .ptr _ _
 | mp=>exact .mp _
 | it=>exact .it _
 | rs=>exact .rs _ _
 | rel=>exact .rel _ _ _ _
 | fn vi cs aw h1 h2=>
  cases cs with
  | nil=>
   cases aw with
   | nil=>exact Qh.mkF trivial
   | cons=>cases h1
  | cons=>exact Qh.u _
 | agg=>exact Qh.u _
 | tup=>exact Qh.u _
theorem Ot{ks:List Nat}(m:HMk ks H H1){v:TV}{a:AV}(q:Qh H v a): Qh H1 (IW ks v) a:=by
 cases v with
 | agg cs=>
  obtain⟨aw,rfl,q2⟩:=q.inA
  exact Qh.mkA (q2.mapL λ_ _ q=>A9 m q)
 | fn vi cs=>
  obtain⟨aw,rfl,q2⟩:=q.inF
  exact Qh.mkF (q2.mapL λ_ _ q=>A9 m q)
 | tup cs=>exact Qh.u _
 | _=>exact A9 m q
theorem A8{f:TV->TV}{t:Nat}{v:TV}: ∀{tm:TT},dD t (tm.map λp=>(p.1,f p.2))=some v->∃u,dD t tm=some u/\v=f u
 | [],h=>by cases h
 | (s,u)::tm,h=>by
  simp only[ZG,dD] at h |-
  split at h
  .cases h;exact⟨u,rfl,rfl⟩
  .exact A8 h
theorem aFE{ks:List Nat}{t:Nat}{v:TV}{tm:TT}(h:dD t (aDB ks tm)=some v): ∃u,dD t tm=some u/\(v=IW ks u\/(ks=[]/\v=u)):=by
 cases ks with
 | nil=>exact⟨v,h,.inr ⟨rfl,rfl⟩⟩
 | cons k r=>obtain⟨u,h1,h2⟩:=A8 h;exact⟨u,h1,.inl h2⟩
theorem aDA{ks:List Nat}{A:aW}(hs:Qt N S st)(m:HMk ks S.hp H1)(hq:Qs H1 A): Qt N ⟨aDB ks S.tm,H1⟩ ⟨st.tmps,A⟩:=by
 refine⟨hs.ln,λt v hv=>?_,hq⟩
 obtain⟨u,hu,e⟩:=aFE hv
 obtain⟨a,h1,h2⟩:=hs.tm t u hu
 rcases e with rfl | ⟨rfl,rfl⟩
 .exact⟨a,h1,Ot m h2⟩
 .exact⟨a,h1,h2.mono λi k l h=>m i k l (by simp) h⟩
theorem aDD{ks:List Nat}{o:pW}{b:dK}(m:HMk ks H H1)(h:Qo H o b): Qo H1 (Vx ks o) b:=by
 cases o with
 | box cs=>obtain⟨aw,e,q⟩:=h;exact⟨aw,by simpa using e,q.mapL λ_ _ q=>Ot m q⟩
 | rows s es=>obtain⟨aw,e,q⟩:=h;exact⟨aw,e,q.mapL λ_ _ q=>q.mapL λ_ _ q=>Ot m q⟩
 | _=>exact h
theorem aD3{ks:List Nat}{i k:Nat}{l:List (den k)}(h:H[i]?=some (.lst k l)): (H.map (Vx ks))[i]?=some (.lst k l):=by
 rw[Zl,h];rfl
theorem aDC{id:Nat}{o:pW}{b:dK}(hs:Qt N S st)(ho:Vx [id] o=o)(hb:∀H,HMk [id] S.hp H->H[id]?=some o->Qo H o b)(hlt:id<S.hp.length): Qt N (uH id (mM S id o)) ⟨st.tmps,st.heap.set id b⟩:=by
 have e:(uH id (mM S id o)).hp=(S.hp.map (Vx [id])).set id o:=by
  simp only[uH,mM,XG,ho]
 have m:HMk [id] S.hp (uH id (mM S id o)).hp:=by
  intro j k l hj h
  rw[e,Zv (by simpa [WA] using hj)]
  exact⟨k,l,aD3 h,rfl⟩
 refine aDA (S:=S) hs m ?_
 have h1:bZ (Qo (uH id (mM S id o)).hp) (S.hp.map (Vx [id])) st.heap:=hs.hp.mapL λ_ _ h=>aDD m h
 have h2:=h1.set id (hb _ m (by rw[e];simp[hlt]))
 rw[<-e] at h2
 exact h2
theorem aHx{id k:Nat}{l l':List (den k)}{b:dK}(hs:Qt N S st)(ho:S.hp[id]?=some (.lst k l))(hb:∀H,Qo H (.lst k l') b): Qt N (uH id (mM S id (.lst k l'))) ⟨st.tmps,st.heap.set id b⟩:=
 aDC hs rfl (λH _ _=>hb H) (Ze.1 ho).1
theorem As{a bytes:Nat}(ha:a<=1000000)(hb:bytes<=100000): kZ a bytes=true:=by
 have:=Xo ha hb
 simp[kZ]
 exact⟨by omega,by omega⟩
theorem Ql.all{k s:Nat}{l:List (den k)}{es:List (List AV)}(h:Ql k l es)(e:(cds k).length=s): fD s es=true:=by
 unfold fD
 rw[Yg]
 intro x hx
 obtain⟨i,hi⟩:=WT hx
 have hlt:i<l.length:=by rw[<-h.len];exact (Ze.1 hi).1
 have:=(h.at (Za hlt) hi).len
 rw[this,sJ,e]
 simp
theorem Ii{α:Type}{l ys:List α}{a:Nat}(h:a+ys.length<=l.length): (aU l a ys).length=l.length:=by
 simp only[aU,Zi,ZI,ZW];omega
theorem AU{α:Type}(l:List α)(a:Nat): aU l a []=l:=by simp[aU]
theorem NG{α:Type}{l:List α}{i:Nat}{x:α}(h:l[i]?=some x): l.set i x=l:=by
 apply Ym
 intro j
 rw[Z7]
 split
 .rename_i e;subst e;rw[Zu (Ze.1 h).1,h]
 .rfl
theorem aJo{α:Type}{l ys l':List α}{w:Nat×Nat}(h:XZ l w ys=some l'): l'=aU l (w.1+w.2) ys/\w.1+w.2+ys.length<=l.length/\l.length+ys.length<=1000000:=by
 unfold XZ at h
 split at h
 .rename_i hc;cases h;exact⟨rfl,hc⟩
 .cases h
theorem aJn{fl id s bytes tot off len:Nat}{H:aW}{es ys:List (List AV)}(hid:H[id]?=some (.blk s es))(hes:es.length=tot)(hys:fD s ys=true)(hs:0<s)(hr:kZ ys.length bytes=true)(hr2:kZ (tot+ys.length) bytes=true)(hfl:fl<=id)(hl:off+len+ys.length<=tot):
 cQ fl H s bytes (.ms id tot off len) ys=some (.ms id tot off (len+ys.length),H.set id (.blk s (aU es (off+len) ys))):=by
 unfold cQ
 simp only[hys,hs,hr,hid,hes,hr2,hfl,Y3,Zy]
 by_cases h0:ys.length=0
 .have:ys=[]:=ZL.1 h0
  subst this
  simp only[Z4,Xq,Zy,AU,NG hid]
 .rw[ZH h0,ZH (by omega),Zu hl]
theorem dG.put[aG]{fl:Nat}{v:AV}{tv:TV}{id k:Nat}{l:List (den k)}{l':List (den k)}{b:dK}(hs:Qt N S st)(ho:S.hp[id]?=some (.lst k l))(e:l'.length=l.length)(he:aN P cf fl op st.tmps st.heap=some (v,st.heap.set id b))(q:Qo (S.hp.set id (.lst k l')) (.lst k l') b)(qv:Qh (S.hp.set id (.lst k l')) tv v)(h:K tv (mM S id (.lst k l'))=some r): dG P cf fl N op st K r:=
 dG.set hs he (HM.set λk2 l2 h2=>by rw[ho] at h2;cases h2;exact⟨k,l',rfl,e⟩) q qv h
theorem aMk[aG]{s bytes:Nat}{x y:bB}(hs:Qt N S st)(h:cS E n d (.append s bytes x y) S K=some r): dG P cf E.fl N (.append s bytes x y) st K r:=by
 have q:=hs.get x
 have q2:=hs.get y
 have hln:=hs.hp.ln
 have new:∀v,cD S.tm x=v->SM v=true->(match Nat.beq (cds (lT E d)).length s&&Nat.blt 0 s with
  | true=>match rdX S.hp (lT E d) (cD S.tm y) with
   | some ys=>match Nat.ble bytes 100000 with
    | true=>cnd (List.isEmpty ys) (K v S) (bnd (app [] ys) λl'=>K (.ms S.hp.length none) (Ra S (.lst (lT E d) l')))
    | false=>none
   | none=>none
  | false=>none)=some r->dG P cf E.fl N (.append s bytes x y) st K r:=by
  intro v hv hn h
  rw[hv] at q
  have hx:aH st.tmps x=.lit bQ\/aH st.tmps x=.sl true []:=by
   unfold SM at hn
   split at hn
   .subst hn
    cases (q.pu trivial) with
    | emp _ _ h=>
     rcases h with h | h | ⟨h,_⟩
     .exact .inl h
     .exact .inr h
     .cases h
   .split at hn
    .split at hn
     .split at hn
      .split at hn
       .exact .inl q.inL
       .cases hn
      .cases hn
     .cases hn
    .cases hn
   .cases hn
  split at h
  .rename_i hk
   simp only[Zd] at hk
   have e1:=Zc hk.1
   have e2:0<s:=by simpa [YF] using hk.2
   split at h
   .rename_i ys hys
    obtain⟨es,h1,h2⟩:=aFn hys q2 hs.hp
    split at h
    .rename_i hb
     have hb:=Zn hb
     have ha:=h2.all e1
     rcases H8 h with⟨hi,h⟩ | ⟨hi,h⟩
     .have e3:ys=[]:=by simpa using hi
      subst e3
      have e4:es=[]:=ZL.1 h2.len
      subst e4
      refine dG.same hs ?_ q h
      simp only[aN,h1]
      rcases hx with hx | hx<;>rw[hx]<;>simp[cQ,fD,e2,kZ,bQ]
     .obtain⟨l',hl',h5⟩:=bG h
      clear h
      obtain⟨e3,hle⟩:=LH hl'
      rw[Xy] at e3
      subst e3
      simp only[Z4,Z0] at hle
      have r1:kZ es.length bytes=true:=As (by rw[h2.len];exact hle) hb
      have h0:es.length≠0:=by
       rw[h2.len]
       intro e
       have:=ZL.1 e
       subst this
       cases hi
      refine dG.add (v:=.ms st.heap.length l'.length 0 l'.length) (o:=.lst (lT E d) l') (b:=.blk s es) hs ?_ ⟨es,by rw[e1],h2⟩ (by rw[hln];exact .ms _ (lT E d) l' (by simp)) h5
      simp only[aN,h1,<-h2.len]
      rcases hx with hx | hx<;>rw[hx]
      .simp[cQ,bQ,ha,e2,r1,h0]
      .have ha0:fD s ([]:List (List AV))=true:=rfl
       unfold cQ
       simp only[ha,e2,r1,h0,ha0,Y3,Zy,Z3,Z4,Z0,Xy]
    .cases h
   .cases h
  .cases h
 simp only[cS] at h
 split at h
 .rename_i id m hx
  rw[hx] at q
  split at h
  .rename_i o ho
   split at h
   .rename_i k l
    split at h
    .rename_i ys hys
     obtain⟨es,h1,h2⟩:=aFn hys q2 hs.hp
     split at h
     .rename_i hk
      simp only[Zd] at hk
      have e1:=Zc hk.1
      have e2:0<s:=by simpa [YF] using hk.2.1
      have hfl:=Zn hk.2.2
      split at h
      .rename_i hb
       have hb:=Zn hb
       obtain⟨bs,g1,g2⟩:=hs.hp.lst ho
       rw[e1] at g1
       have hq:=q.mw ho
       split at h
       .obtain⟨l',hl',h⟩:=bG h
        obtain⟨e3,hle⟩:=LH hl'
        subst e3
        have he:=aGj (fl:=E.fl) (bytes:=bytes) (tot:=l.length) (ys:=es) g1 g2.len (h2.all e1) e2 (As (by rw[h2.len];omega) hb) (As (by rw[h2.len];omega) hb) hfl
        refine⟨.ms id (l.length+es.length) 0 (l.length+es.length),st.heap.set id (.blk s (bs++es)),.ms id none,uH id (mM S id (.lst k (l++ys))),?_,aHx hs ho λH=>⟨bs++es,by rw[e1],g2.app h2⟩,?_,h⟩
        .simp only[aN,h1,hq];exact he
        .have:=Qh.ms (H:=(uH id (mM S id (.lst k (l++ys)))).hp) id k (l++ys) (by simp[uH,mM,Zl,(Ze.1 ho).1,Vx])
         rw[Zi,<-h2.len] at this
         exact this
       .rename_i w
        obtain⟨l',hl',h⟩:=bG h
        obtain⟨e3,hle,hle2⟩:=aJo hl'
        subst e3
        have hlen:(aU l (w.1+w.2) ys).length=l.length:=Ii (by omega)
        refine dG.put (v:=.ms id l.length w.1 (w.2+es.length)) (b:=.blk s (aU bs (w.1+w.2) es)) hs ho hlen ?_ ⟨_,by rw[e1],g2.spl h2⟩ (by have:=Qh.msn (H:=S.hp.set id (.lst k (aU l (w.1+w.2) ys))) id (w.1,w.2+ys.length) k _ (Z6 (Ze.1 ho).1);rw[hlen,<-h2.len] at this;rw[<-h2.len];exact this) h
        simp only[aN,h1,hq,Kh]
        exact aJn g1 g2.len (h2.all e1) e2 (As (by rw[h2.len];omega) hb) (As (by rw[h2.len];omega) hb) hfl (by rw[h2.len];exact hle)
      .cases h
     .cases h
    .cases h
   .cases h
  .cases h
 .split at h
  .rename_i hn
   exact new _ rfl hn h
  .cases h
theorem aBs{w:Nat}: ∀{ks:List Sh},okA w ks=true->∀s∈ks,(∃k,s=.w k)\/(w=0/\∃k,s=.v k)
 | [],_,s,hs=>by cases hs
 | s'::r,h,s,hs=>by
  have h2:((∃k,s'=.w k)\/(w=0/\∃k,s'=.v k))/\okA w r=true:=by
   cases s' with
   | w k=>exact⟨.inl ⟨k,rfl⟩,h⟩
   | v k=>
    simp only[okA] at h
    split at h
    .exact⟨.inr ⟨rfl,k,rfl⟩,h⟩
    .cases h
   | _=>cases h
  rcases ZO.1 hs with rfl | hs
  .exact h2.1
  .exact aBs h2.2 s hs
theorem aPE{ks:List Sh}{vs:List TV}{p:fM ks}{aw:List AV}{Hr:TH}(ho:okA 0 ks=true)(h:Do 0 Hr ks vs=some p)(q:Qc H vs aw): Qc H1 (Nb ks p) (aw.map IP)/\∀a∈aw,qV a=true:=
 aBe (λs hs=>by
  rcases aBs ho s hs with⟨k,rfl⟩ | ⟨_,k,rfl⟩
  .exact λh q=>⟨aVo (aQt h q).1,(aQt (H1:=[]) h q).2⟩
  .exact λh q=>aQt h q) h q
theorem aMi{ks:List Sh}{vs:List TV}{p:fM ks}{aw:List AV}(ho:okA 1 ks=true)(h:Do 1 H ks vs=some p)(q:Qc H vs aw)(hs:Qs H A): Qc H1 (Nb ks p) (aw.map (cK A)):=
 (aBe (G:=λ_=>True) (λs hs'=>by
  rcases aBs ho s hs' with⟨k,rfl⟩ | ⟨e,_⟩
  .exact λh q=>⟨aV0 h q hs,trivial⟩
  .cases e) h q).1
theorem aSJ{ks:List Nat}{vs:List TV}{p:fM (ks.map .v)}{aw:List AV}(h:Do 2 H (ks.map .v) vs=some p)(q:Qc H vs aw)(hs:Qs H A): Qc H1 (Nb (ks.map .v) p) (aw.map (eA A 0))/\∀a∈aw,∀l,a≠.tup l:=
 aBe (λs hs'=>by
  obtain⟨k,_,rfl⟩:=Yi.1 hs'
  exact λh q=>aVz h q hs) h q
theorem aDm{aw:List AV}(h:∀a∈aw,qV a=true): gF aw=true:=by
 induction aw with
 | nil=>rfl
 | cons a r ih=>simp only[gF,h a ZN];exact ih λb hb=>h b (ZS _ hb)
theorem I7[aG]{vi w:Nat}{c:CSp}{vs:List TV}{aw:List AV}{K:TV->Option R}(hf:FOK P T vi c)(h:Qv n w c vs H K=some r)(ha:∀p,okA w c.ka=true->Do w H c.ka vs=some p->Qc [] (Nb c.ka p) aw):
 ∃A' a tv,eZ P T n 0 vi aw []=some (a,A')/\Qh H1 tv (eX A' 0 a)/\K tv=some r:=by
 unfold Qv at h
 split at h
 .rename_i p hp
  split at h
  .cases h
  .rename_i ho
   obtain⟨x,hx,h⟩:=bG h
   obtain⟨aw',A',g1,q1,q2,_⟩:=hf n p x hx aw (ha p ho hp)
   have q1:=q1 H1
   obtain⟨vs',q3,h⟩:=aG6 h q1
   refine⟨A',jU aw',?_⟩
   split at h
   .rename_i v
    match aw',q3,q2 with
    | [a],q3,q2=>
     refine⟨v,g1,?_,h⟩
     have e:eX A' 0 a=eA A' 0 a:=by
      cases a with
      | tup l=>exact (q2 _ ZN l rfl).elim
      | _=>rfl
     show Qh H1 v (eX A' 0 a)
     rw[e]
     exact q3.1
   .rename_i hne
    refine⟨.tup vs',g1,?_,h⟩
    match aw',q3 with
    | [],q3=>exact Qh.mkT q3
    | [a],q3=>
     match vs',q3 with
     | [v],_=>exact (hne v rfl).elim
    | a::b::aw',q3=>exact Qh.mkT q3
 .cases h
theorem D4[aG](hs:Qt N S st): ∀(xs:List bB),Qc S.hp (xs.map (cD S.tm)) (xs.map (aH st.tmps))
 | []=>trivial
 | x::r=>⟨hs.get x,D4 hs r⟩
theorem aPD[aG]{vi:Nat}{c:CSp}{xs:List bB}(hc:FOK P T vi c)(hs:Qt N S st)(h:Qv n 0 c (xs.map (cD S.tm)) [] (λv=>K v S)=some r):
 ∃v tv,Cw (eZ P T n) 0 true vi (xs.map (aH st.tmps)) st.heap=some (v,st.heap)/\Qh S.hp tv v/\K tv S=some r:=by
 have q:=D4 hs xs
 have hp:Do 0 [] c.ka (xs.map (cD S.tm))≠none:=by
  intro e
  simp only[Qv,e] at h
  cases h
 obtain⟨p,hp⟩:=Option.ne_none_iff_exists'.1 hp
 have ho:okA 0 c.ka=true:=by
  cases e:okA 0 c.ka with
  | true=>rfl
  | false=>simp only[Qv,hp,e] at h;cases h
 have hpl:=aDm (aPE (H1:=[]) ho hp q).2
 obtain⟨A',a,tv,h1,h2,h3⟩:=I7 (H1:=S.hp) (aw:=(xs.map (aH st.tmps)).map IP) hc h λp ho hp=>(aPE ho hp q).1
 exact⟨_,tv,by simp only[Cw,hpl,h1],h2,h3⟩
theorem aQK[aG]{vi:Nat}{xs:List bB}(hs:Qt N S st)(h:cS E n d (.mkFn vi xs) S K=some r): dG P cf E.fl N (.mkFn vi xs) st K r:=
 dG.same hs rfl (Qh.mkF (D4 hs xs)) h
theorem aO8[aG]{vi:Nat}{xs:List bB}(hE:∀vi c,E.cs vi=some c->FOK P T vi c)(hs:Qt N S st)(h:cS E n d (.callB vi xs) S K=some r): dG P (eZ P T n) E.fl N (.callB vi xs) st K r:=by
 simp only[cS] at h
 split at h
 .rename_i c hc
  have q:=D4 hs xs
  obtain⟨A',a,tv,h1,h2,h3⟩:=I7 (H1:=S.hp) (aw:=(xs.map (aH st.tmps)).map (cK st.heap)) (hE vi c hc) h λp ho hp=>aMi ho hp q hs.hp
  exact dG.same hs (by simp only[aN,h1]) h2 h3
 .cases h
end
theorem aAk: ∀(lx:List Bool) (tm:List AV),(cY lx tm).length=tm.length
 | [],tm=>by simp[cY]
 | b::bs,[]=>rfl
 | b::bs,v::vs=>by simp[cY,aAk bs vs]
theorem IU: ∀(lx:List Bool) (tm:List AV) (t:Nat),lx[t]?=some true->(cY lx tm)[t]?=tm[t]?
 | [],tm,t,h=>by simp at h
 | b::bs,[],t,h=>rfl
 | b::bs,v::vs,0,h=>by
  simp only[Zt,Zb] at h
  subst h;simp[cY]
 | b::bs,v::vs,t+1,h=>by
  simp only[cY,ZM]
  exact IU bs vs t (by simpa using h)
section
variable [dQ]{R:Type}{H H1:TH}{A:aW}{N:Nat}{S:TS}{st:St}
theorem OY{lx:List Bool}{t:Nat}{v:TV}: ∀{tm:TT},dD t (Bc lx tm)=some v->lx[t]?=some true/\dD t tm=some v
 | [],h=>by cases h
 | (s,u)::tm,h=>by
  have fin:lx[s]?≠some true->dD t (Bc lx tm)=some v->lx[t]?=some true/\dD t ((s,u)::tm)=some v:=by
   intro hne h
   obtain⟨h1,h2⟩:=OY h
   refine⟨h1,?_⟩
   simp only[dD]
   split
   .rename_i e
    have e:=Zc e
    subst e
    exact (hne h1).elim
   .exact h2
  simp only[Bc] at h
  split at h
  .rename_i b hb
   split at h
   .simp only[dD] at h |-
    split at h
    .rename_i e
     have e:=Zc e
     subst e
     exact⟨hb,h⟩
    .exact OY h
   .exact fin (by rw[hb];simp) h
  .rename_i hb
   exact fin (by rw[hb];simp) h
theorem Jk(hs:Qt N S st)(lx:List Bool): Qt N ⟨Bc lx S.tm,S.hp⟩ ⟨cY lx st.tmps,st.heap⟩:=by
 refine⟨by rw[aAk];exact hs.ln,λt v h=>?_,hs.hp⟩
 obtain⟨h1,h2⟩:=OY h
 rw[IU _ _ _ h1]
 exact hs.tm t v h2
theorem i7{n i k:Nat}{l:List (den k)}(hi:i<n)(h:H[i]?=some (.lst k l)): ((H.take n).map (iC n))[i]?=some (.lst k l):=by
 rw[Zl,Zs,Zu hi,h];rfl
structure Cln(n:Nat)(g:AV->AV): Prop where
 l:∀v,g (.lit v)=.lit v
 s:∀f es,g (.sl f es)=.sl f es
 w:∀es,g (.vw es)=.vw es
 r:∀es,g (.rptr es)=.rptr es
 p:∀es,g (.sptr es)=.sptr es
 m:∀es,g (.rmp es)=.rmp es
 ms:∀i a b c,i<n->g (.ms i a b c)=.ms i a b c
 pt:∀i a b c,i<n->g (.ptr i a b c)=.ptr i a b c
 mp:∀i,i<n->g (.mp i)=.mp i
 it:∀i,i<n->g (.it i)=.it i
 f:∀v,g (.fn v [])=.fn v []
theorem aTT(n:Nat): Cln n (mF n):=⟨λ_=>rfl,λ_ _=>rfl,λ_=>rfl,λ_=>rfl,λ_=>rfl,λ_=>rfl,λ_ _ _ _ h=>by simp[mF,h],λ_ _ _ _ h=>by simp[mF,h],λ_ h=>by simp[mF,h],λ_ h=>by simp[mF,h],λ_=>rfl⟩
theorem aTS(n:Nat): Cln n (jO n):=⟨λ_=>rfl,λ_ _=>rfl,λ_=>rfl,λ_=>rfl,λ_=>rfl,λ_=>rfl,λ_ _ _ _ h=>by simp[jO,mF,h],λ_ _ _ _ h=>by simp[jO,mF,h],λ_ h=>by simp[jO,mF,h],λ_ h=>by simp[jO,mF,h],λ_=>rfl⟩
theorem aPB(n:Nat): Cln n id:=⟨λ_=>rfl,λ_ _=>rfl,λ_=>rfl,λ_=>rfl,λ_=>rfl,λ_=>rfl,λ_ _ _ _ _=>rfl,λ_ _ _ _ _=>rfl,λ_ _=>rfl,λ_ _=>rfl,λ_=>rfl⟩
theorem k8{n:Nat}{g:AV->AV}(hg:Cln n g){v:TV}{a:AV}(q:Qh H v a): Qh ((H.take n).map (iC n)) (cZ n v) (g a):=by
 have lt:∀{i:Nat},Nat.blt i n=true->i<n:=λe=>by simpa [YF] using e
 cases q with
 | p _ _ q=>
  cases v with
  | undef=>exact Qh.u _
  | lit u=>cases q;rw[hg.l];exact Qh.l _
  | emp b=>cases q with
   | emp _ _ h=>rcases h with rfl | rfl | ⟨rfl,rfl⟩<;>first | (rw[hg.l];exact .p _ _ (.emp _ _ (by simp))) | (rw[hg.s];exact .p _ _ (.emp _ _ (by simp)))
  | sl k l=>
   obtain⟨es,h1,h2⟩:=q.inS
   rcases h1 with⟨rfl,rfl⟩ | ⟨f,rfl⟩<;>first | (rw[hg.l];exact .p _ _ q) | (rw[hg.s];exact .p _ _ q)
  | vw k l=>
   obtain⟨es,h1,h2⟩:=q.inV
   rcases h1 with⟨rfl,rfl⟩ | ⟨f,rfl⟩ | rfl<;>first | (rw[hg.l];exact .p _ _ q) | (rw[hg.s];exact .p _ _ q) | (rw[hg.w];exact .p _ _ q)
  | rptr cs=>obtain⟨aw,rfl,_⟩:=q.inR;rw[hg.r];exact .p _ _ q
  | sptr k x=>obtain⟨aw,rfl,_⟩:=q.inP;rw[hg.p];exact .p _ _ q
  | rmp=>obtain⟨rows,h1,_⟩:=q.inM;rcases h1 with⟨rfl,_⟩ | rfl<;>first | (rw[hg.l];exact .p _ _ q) | (rw[hg.m];exact .p _ _ q)
  | _=>cases q
 | ms i k l h=>
  simp only[cZ]
  split
  .rename_i e
   rw[hg.ms _ _ _ _ (lt e)];exact Qh.ms i k l (i7 (lt e) h)
  .exact Qh.u _
 | msn i m k l h=>
  simp only[cZ]
  split
  .rename_i e
   rw[hg.ms _ _ _ _ (lt e)];exact Qh.msn i m k l (i7 (lt e) h)
  .exact Qh.u _
 | ptr i o=>
  simp only[cZ]
  split
  .rename_i e
   rw[hg.pt _ _ _ _ (lt e)];exact .ptr i o
  .exact Qh.u _
 | pel i j o k l h h1 h2=>
  simp only[cZ]
  split
  .rename_i e
   rw[hg.pt _ _ _ _ (lt e)];exact Qh.pel i j o k l (i7 (lt e) h) h1 h2
  .exact Qh.u _
 | mp i=>
  simp only[cZ]
  split
  .rename_i e
   rw[hg.mp _ (lt e)];exact .mp i
  .exact Qh.u _
 | it i=>
  simp only[cZ]
  split
  .rename_i e
   rw[hg.it _ (lt e)];exact .it i
  .exact Qh.u _
 | rs i m=>
  simp only[cZ]
  split
  .rename_i e
   rw[hg.ms _ _ _ _ (lt e)];exact .rs i m
  .exact Qh.u _
 | rel i m j o=>
  simp only[cZ]
  split
  .rename_i e
   rw[hg.pt _ _ _ _ (lt e)];exact .rel i m j o
  .exact Qh.u _
 | fn vi cs aw h1 h2=>
  cases cs with
  | nil=>
   cases aw with
   | nil=>rw[hg.f];exact Qh.mkF trivial
   | cons=>cases h1
  | cons=>exact Qh.u _
 | agg=>exact Qh.u _
 | tup=>exact Qh.u _
theorem Ct{n:Nat}{v:TV}{a:AV}(q:Qh H v a): Qh ((H.take n).map (iC n)) (iZ n v) (jO n a)/\Qh ((H.take n).map (iC n)) (iZ n v) a:=by
 cases v with
 | fn vi cs=>
  obtain⟨aw,rfl,q2⟩:=q.inF
  exact⟨Qh.mkF (q2.map λ_ _ q=>k8 (aTT n) q),Qh.mkF (q2.mapL λ_ _ q=>k8 (aPB n) q)⟩
 | _=>exact⟨k8 (aTS n) q,k8 (aPB n) q⟩
theorem aHO{n:Nat}{v:TV}{a:AV}(q:Qh H v a): Qh ((H.take n).map (iC n)) (vR n v) (Qg n a):=by
 cases v with
 | agg cs=>
  obtain⟨aw,rfl,q2⟩:=q.inA
  exact Qh.mkA (q2.map λ_ _ q=>(Ct q).1)
 | undef=>exact Qh.u _
 | tup=>exact Qh.u _
 | _=>
  have h:=(Ct (n:=n) q).1
  cases a with
  | agg=>
   cases q with
   | p _ _ q=>cases q<;>simp_all
  | tup=>
   cases q with
   | p _ _ q=>cases q<;>simp_all
  | _=>exact h
theorem aIF(n:Nat): M2 (Qi n):=⟨λv=>.inl rfl,λf es=>⟨f,rfl⟩,λ_=>rfl,λ_=>rfl⟩
theorem k7{n:Nat}{o:pW}{b:dK}(h:Qo H o b): Qo ((H.take n).map (iC n)) (iC n o) (bW n b)/\Qo ((H.take n).map (iC n)) (iC n o) b:=by
 cases o with
 | box cs=>
  obtain⟨aw,rfl,q⟩:=h
  exact⟨⟨aw.map (jO n),by simp[bW],q.map λ_ _ q=>(Ct q).1⟩,⟨aw,by simp,q.mapL λ_ _ q=>(Ct q).2⟩⟩
 | rows s es=>
  obtain⟨aw,rfl,q⟩:=h
  exact⟨⟨aw.map λe=>e.map (jO n),rfl,q.map λ_ _ q=>q.map λ_ _ q=>(Ct q).1⟩,⟨aw,rfl,q.mapL λ_ _ q=>q.mapL λ_ _ q=>(Ct q).2⟩⟩
 | lst k l=>
  obtain⟨es,rfl,q⟩:=h
  exact⟨⟨es.map λe=>e.map (jO n),rfl,(aD0 n).ls q⟩,⟨es,rfl,q⟩⟩
 | map kk vk m=>
  obtain⟨rows,rfl,q⟩:=h
  refine⟨?_,⟨rows,rfl,q⟩⟩
  cases hg:ag vk with
  | true=>
   have h3:Qm vk m (rows.map λr=>r.map (jO n)):=q.mapR λ_ _ h=>(aD0 n).r h
   exact⟨_,congrArg dK.mp (F4 (g:=jO n) λr=>by rw[hg];rfl),h3⟩
  | false=>
   have h3:Qm vk m (rows.map λr=>r.map (Qi n)):=q.mapR λ_ _ h=>(aIF n).r h
   exact⟨_,congrArg dK.mp (F4 (g:=Qi n) λr=>by rw[hg];cases r<;>rfl),h3⟩
 | it=>subst h;exact⟨rfl,rfl⟩
 | gone=>exact⟨trivial,trivial⟩
 | fr k a=>
  simp only[iC]
  split
  .rename_i e;exact⟨.s _ _ n (Zn e) h,h⟩
  .exact⟨trivial,trivial⟩
theorem JA{fl:Nat}(hs:Qt N S st)(live:List Bool)(tr:Bool)(n:Nat)(hf:fl<=n): Qt N (Pa live tr n S) (dN (some live) tr fl n st):=by
 have h:=Jk hs live
 cases tr with
 | false=>exact h
 | true=>
  refine⟨by simp only[dN,Zy,aAj,ZQ];exact h.ln,λt v hv=>?_,?_⟩
  .simp only[Pa] at hv
   obtain⟨u,hu,rfl⟩:=A8 hv
   obtain⟨a,h1,h2⟩:=h.tm t u hu
   refine⟨Qg n a,?_,aHO h2⟩
   simp only[dN,Zy,aAj,Zl]
   rw[h1];rfl
  .simp only[dN,Zy,Pa]
   have e:∀{α β:Type} (f:α->β) (l:List α),(l.take n).map f=(l.take fl).map f++((l.take n).drop fl).map f:=by
    intro α β f l
    rw[<-YJ]
    congr 1
    conv=>lhs;rw[<-YV fl (l.take n),Y9,Yp hf]
   have q:=hs.hp.take n
   have q1:bZ (Qo S.hp) (S.hp.take fl) (st.heap.take fl):=hs.hp.take fl
   have q2:bZ (Qo S.hp) ((S.hp.take n).drop fl) ((st.heap.take n).drop fl):=q.drop fl
   show Qs ((S.hp.take n).map (iC n)) _
   rw[show Qs ((S.hp.take n).map (iC n))=bZ (Qo ((S.hp.take n).map (iC n))) ((S.hp.take n).map (iC n)) from rfl]
   rw[show bZ (Qo ((S.hp.take n).map (iC n))) ((S.hp.take n).map (iC n))=bZ (Qo ((S.hp.take n).map (iC n))) ((S.hp.take fl).map (iC n)++((S.hp.take n).drop fl).map (iC n)) from by rw[<-e]]
   exact (q1.mapL λ_ _ q=>(k7 q).2).app (q2.map λ_ _ q=>(k7 q).1)
def aLt: TV->Bool
 | .sl _ _=>true
 | .rmp _ _ _=>true
 | .tup _=>true
 | _=>false
structure Rj(H:TH)(m v:TV): Prop where
 q:∀H',(∀i n,m=.ms i n->∀(k:Nat) (l:List (den k)),H[i]?=some (.lst k l)->∃(k':Nat) (l':List (den k')),H'[i]?=some (.lst k' l')/\l'.length=l.length)->∀a,Qh H v a->Qh H' m a
 s:aLt v=true->aLt m=true->m=v
theorem aCW{c v:TV}(h:BA c v=true): Rj H c v:=by
 cases c with
 | undef=>exact⟨λ_ _ a _=>Qh.u a,λ_ e=>by cases e⟩
 | ms i n=>
  cases n with
  | some n=>cases h
  | none=>
   cases v with
   | ms j m=>
    cases m with
    | some m=>cases h
    | none=>
     have e:=Zc h
     subst e
     refine⟨λH' m a q=>?_,λ_ e=>by cases e⟩
     cases q with
     | p _ _ q=>cases q
     | ms _ k l h=>
      obtain⟨k',l',h1,h2⟩:=m i none rfl k l h
      rw[<-h2];exact .ms _ k' l' h1
   | _=>cases h
 | ptr i o=>
  cases v with
  | ptr j u=>
   simp only[BA] at h
   split at h
   .rename_i e
    have e:=Zc e
    have e2:=Zc h
    subst e;subst e2
    exact⟨λH' _ a q=>q.ptr1▸.ptr _ _,λ_ e=>by cases e⟩
   .cases h
  | _=>cases h
 | mp i=>
  cases v with
  | mp j=>
   have e:=Zc h
   subst e
   refine⟨λH' _ a q=>?_,λ_ e=>by cases e⟩
   cases q with
   | p _ _ q=>cases q
   | mp=>exact .mp _
  | _=>cases h
 | it i=>
  cases v with
  | it j=>
   have e:=Zc h
   subst e
   refine⟨λH' _ a q=>?_,λ_ e=>by cases e⟩
   cases q with
   | p _ _ q=>cases q
   | it=>exact .it _
  | _=>cases h
 | rs i n=>
  cases v with
  | rs j m=>
   simp only[BA] at h
   split at h
   .rename_i e
    have e:=Zc e
    have e2:=Zc h
    subst e;subst e2
    exact⟨λH' _ a q=>q.rs1▸.rs _ _,λ_ e=>by cases e⟩
   .cases h
  | _=>cases h
 | fn i cs=>
  cases cs with
  | cons=>cases h
  | nil=>
   cases v with
   | fn j ds=>
    cases ds with
    | cons=>cases h
    | nil=>
     have e:=Zc h
     subst e
     refine⟨λH' _ a q=>?_,λ_ e=>by cases e⟩
     obtain⟨aw,rfl,q2⟩:=q.inF
     cases aw with
     | nil=>exact Qh.mkF trivial
     | cons=>exact q2.elim
   | _=>cases h
 | lit u=>
  have key:v=.lit u->Rj H (.lit u) v:=by
   rintro rfl
   exact⟨λH' _ a q=>q.inL▸Qh.l _,λ_ e=>by cases e⟩
  cases u with
  | int k a=>
   cases v with
   | lit y=>
    cases y with
    | int k' b=>
     simp only[BA] at h
     split at h
     .rename_i e _
      split at h
      .rename_i e' _
       subst e;subst e'
       exact key rfl
      .cases h
     .cases h
    | _=>cases h
   | _=>cases h
  | bool b=>
   cases v with
   | lit y=>
    cases y with
    | bool c=>
     apply key
     cases b<;>cases c<;>first | rfl | cases h
    | _=>cases h
   | _=>cases h
  | slice a l c=>
   cases a with
   | some a=>cases h
   | none=>
    cases l with
    | succ l=>cases h
    | zero=>
     cases c with
     | succ c=>cases h
     | zero=>
      cases v with
      | lit y=>
       cases y with
       | slice a l c=>
        cases a with
        | some a=>cases h
        | none=>
         cases l with
         | succ l=>cases h
         | zero=>
          cases c with
          | succ c=>cases h
          | zero=>exact key rfl
       | _=>cases h
      | _=>cases h
  | _=>cases h
 | emp b=>
  cases v with
  | emp c=>
   refine⟨λH' _ a q=>?_,λ_ e=>by cases e⟩
   cases (q.pu trivial) with
   | emp _ _ h'=>
    refine .p _ _ (.emp _ _ ?_)
    cases b with
    | false=>
     rcases h' with h' | h' | ⟨_,h'⟩
     .exact .inl h'
     .exact .inr (.inl h')
     .exact .inr (.inr ⟨rfl,h'⟩)
    | true=>
     have h:c=true:=h
     subst h
     exact h'
  | _=>cases h
 | _=>cases h
theorem aCV: ∀{cs vs:List TV},aGG cs vs=true->bZ (λc v=>BA c v=true/\∀j n,c≠.ms j n) cs vs
 | [],[],_=>trivial
 | [],_::_,h=>by cases h
 | _::_,[],h=>by cases h
 | c::r,v::s,h=>by
  simp only[aGG] at h
  split at h
  .cases h
  .rename_i hc
   split at h
   .rename_i e;exact⟨⟨e,hc⟩,aCV h⟩
   .cases h
theorem aNg{c v:TV}(h:aKj c v=true): Rj H c v:=by
 cases c with
 | fn i cs=>
  cases v with
  | fn j ds=>
   simp only[aKj] at h
   split at h
   .rename_i e
    have e:=Zc e
    subst e
    refine⟨λH' _ a q=>?_,λ_ e=>by cases e⟩
    obtain⟨aw,rfl,q2⟩:=q.inF
    have h2:=aCV h
    refine Qh.mkF (bZ.of (by rw[q2.len,h2.len]) λj c a hj ha=>?_)
    obtain⟨v,hv,hcv,hm⟩:=h2.get hj
    exact (aCW hcv).q H' (λi' n' e=>absurd e (hm i' n')) a (q2.at hv ha)
   .cases h
  | _=>cases h
 | _=>exact aCW h
theorem aGe{a b a' b':Nat}{m:List (den a×den b)}{y:List (den a'×den b')}(h:TD m=some y): TV.rmp a b m=TV.rmp a' b' y:=by
 obtain⟨e,e',h⟩:=LD h
 subst e;subst e';subst h;rfl
theorem aHz{v:TV}{x:ByteArray×Nat}(h:aLq v=some x): v=.tup [.lit (.string x.1),.lit (.int .i64 (.ofNat x.2))]:=by
 unfold aLq at h
 split at h
 .split at h
  .split at h
   .split at h
    .split at h
     .split at h
      .split at h
       .split at h
        .cases h;rfl
        .cases h
       .cases h
      .cases h
     .cases h
    .cases h
   .cases h
  .cases h
 .cases h
theorem rjN{id:Nat}{v:TV}{x:Nat×Nat}(h:rdN id v=some x): Rj H (.ms id (some x)) v:=by
 unfold rdN at h
 split at h
 .split at h
  .rename_i e
   have e:=Zc e
   subst e;subst h
   refine⟨λH' m a q=>?_,λ_ e=>by cases e⟩
   cases q with
   | p _ _ q=>cases q
   | msn _ _ k l h=>
    obtain⟨k',l',h1,h2⟩:=m _ _ rfl k l h
    rw[<-h2];exact .msn _ _ k' l' h1
  .cases h
 .cases h
theorem rjI{v:TV}{x:ByteArray×Nat}(h:aLq v=some x): Rj H (.tup [.lit (.string x.1),.lit (.int .i64 (.ofNat x.2))]) v:=by
 rw[aHz h]
 refine⟨λH' _ a q=>?_,λ_ _=>rfl⟩
 obtain⟨aw,rfl,q2⟩:=q.inT
 match aw,q2 with
 | [a,b],q2=>exact Qh.mkT ⟨by rw[q2.1.inL];exact Qh.l _,by rw[q2.2.1.inL];exact Qh.l _,trivial⟩
theorem aGM{s:Sh}{v:TV}{x:s.den}(h:s.rd 3 [] v=some x): Rj H (s.tv x) v:=by
 cases s with
 | v k=>
  have h:d8 0 [] k v=some x:=h
  refine⟨λH' _ a q=>aSP h q,λe1 e2=>?_⟩
  unfold d8 at h
  split at h
  .split at h
   .cases e1
   .cases h
  .rename_i hg
   unfold kJ at h
   split at h
   .rename_i p hp
    cases h
    obtain⟨c,y,h1,h2⟩:=aBh hp
    have hv:val k (dQ.pk k p)=hdT (pZ (cds k) p):=by
     unfold val jZ;rw[hg,dQ.un_pk]
    show val k (dQ.pk k p)=_
    rw[hv,h1]
    cases c with
    | sl k3=>
     cases v with
     | sl k1 l=>
      obtain⟨e,h⟩:=pS (F:=λk=>List (den k)) (x:=l) (y:=y) h2
      subst e;subst h;rfl
     | rmp=>cases h2
     | tup=>cases h2
     | _=>cases e1
    | int ik=>rw[aDf h2] at e1;cases e1
    | bool=>rw[u6 h2] at e1;cases e1
    | str=>rw[aDd h2] at e1;cases e1
    | sptr=>rw[aDe h2] at e1;cases e1
    | mp=>rcases aNm (w:=0) (H:=[]) h2 with rfl | ⟨rfl,_⟩ | ⟨e,_⟩<;>first | rfl | cases e1 | cases e
    | any=>cases h2
   .cases h
 | w k=>
  have h:d8 1 [] k v=some x:=h
  refine⟨λH' _ a q=>aSO h q,λe1 e2=>?_⟩
  unfold d8 at h
  split at h
  .split at h
   .cases e1
   .cases h
  .rename_i hg
   unfold kJ at h
   split at h
   .rename_i p hp
    cases h
    obtain⟨c,y,h1,h2⟩:=aBh hp
    have hv:val k (dQ.pk k p)=hdT (pZ (cds k) p):=by
     unfold val jZ;rw[hg,dQ.un_pk]
    have e2:aLt (toW (val k (dQ.pk k p)))=true:=e2
    show toW (val k (dQ.pk k p))=_
    rw[hv,h1,aAP] at e2 |-
    cases c with
    | mp=>rcases aNm (w:=1) (H:=[]) h2 with rfl | ⟨rfl,_⟩ | ⟨e,_⟩<;>first | rfl | cases e1 | cases e
    | _=>cases e2
   .cases h
 | r k=>
  refine⟨λH' _ a q=>?_,λ_ e2=>by cases e2⟩
  cases v with
  | rptr cs=>
   have h:kJ 0 [] k cs=some x:=h
   obtain⟨aw,rfl,q2⟩:=(q.pu trivial).inR
   exact .p _ _ (Qp.mkR (kI h (q2.c (H:=[]))))
  | _=>cases h
 | l k=>
  cases v with
  | sl k' l=>
   obtain⟨e,h⟩:=pS (F:=λk=>List (den k)) (x:=l) (y:=x) h
   subst e;subst h
   exact⟨λH' _ a q=>.p _ _ (q.pu trivial),λ_ _=>rfl⟩
  | _=>cases h
 | m kk vk=>
  cases v with
  | rmp a b m=>
   have e:=aGe (m:=m) (y:=x) h
   rw[<-show TV.rmp a b m=(Sh.m kk vk).tv x from e]
   exact⟨λH' _ a q=>.p _ _ (q.pu trivial),λ_ _=>rfl⟩
  | _=>cases h
 | n id=>exact rjN h
 | i=>exact rjI h
end
section
variable [dQ]{R:Type}{H H1:TH}{A:aW}{N:Nat}{S:TS}{st:St}
theorem fM.hc{a:Sh}{r:List Sh}(x:a.den)(y:fM r): fM.hd (fM.cs x y)=x:=by cases r<;>rfl
theorem fM.tc{a:Sh}{r:List Sh}(x:a.den)(y:fM r): fM.tl (fM.cs x y)=y:=by cases r<;>rfl
theorem Nu: ∀{ss:List Pl} {W:List TV} {p:fM (shs false ss)} {q:fM (shs true ss)},SC ss W=some (p,q)->bZ (Rj H) (mkV ss p q) W
 | [],W,p,q,h=>by
  cases W with
  | nil=>trivial
  | cons=>cases h
 | .con c::r,W,p,q,h=>by
  cases W with
  | nil=>cases h
  | cons v W=>
   simp only[SC] at h
   split at h
   .rename_i hc
    exact⟨aNg hc,Nu h⟩
   .cases h
 | .p s::r,W,p,q,h=>by
  cases W with
  | nil=>cases h
  | cons v W=>
   simp only[SC] at h
   split at h
   .rename_i x hx
    split at h
    .rename_i pq hp
     cases h
     simp only[mkV,fM.hc,fM.tc]
     exact⟨aGM hx,Nu hp⟩
    .cases h
   .cases h
 | .v s::r,W,p,q,h=>by
  cases W with
  | nil=>cases h
  | cons v W=>
   simp only[SC] at h
   split at h
   .rename_i x hx
    split at h
    .rename_i pq hp
     cases h
     simp only[mkV,fM.hc,fM.tc]
     exact⟨aGM hx,Nu hp⟩
    .cases h
   .cases h
theorem aEX{tm:TT}{H':TH}{t:Nat}{m:TV}: ∀{ts:List (Nat×Option Nat)} {vs M:List TV},upT tm ts=some vs->bZ (λm v=>∀a,Qh H v a->Qh H' m a) M vs->dD t (plT ts M)=some m->∃v,dD t tm=some v/\∀a,Qh H v a->Qh H' m a
 | [],vs,M,h,q,hm=>by cases hm
 | s::ts,vs,M,h,q,hm=>by
  simp only[upT] at h
  split at h
  .rename_i v hv
   split at h
   .rename_i us hu
    split at h
    .rename_i hs
     cases h
     cases M with
     | nil=>exact q.elim
     | cons m' M=>
      simp only[plT,hs,dD] at hm
      split at hm
      .rename_i e
       have e:=Zc e
       subst e
       cases hm
       exact⟨v,hv,q.1⟩
      .exact aEX hu q.2 hm
    .rename_i n hs
     split at h
     .rename_i cs
      split at h
      .rename_i e
       have e:=Zc e
       cases h
       have q1:=q.take n
       have q2:=q.drop n
       rw[<-e,Y5] at q2
       rw[<-e,Xr] at q1
       rw[e] at q1 q2
       simp only[plT,hs,dD] at hm
       split at hm
       .rename_i e
        have e:=Zc e
        subst e
        cases hm
        refine⟨_,hv,λa qa=>?_⟩
        obtain⟨aw,rfl,q3⟩:=qa.inA
        exact Qh.mkA (bZ.of (by rw[q3.len,q1.len]) λj m c hm hc=>by
         obtain⟨v,hv,hq⟩:=q1.get hm
         exact hq c (q3.at hv hc))
       .exact aEX hu q2 hm
      .cases h
     .cases h
   .cases h
  .cases h
theorem Pm{α:Type}{s:Nat}: ∀{es:List (List α)},(es.all λe=>Nat.beq e.length s)=true->es.flatten.length=es.length*s
 | [],_=>by simp
 | e::es,h=>by
  simp only[XR,Zd] at h
  have e1:=Zc h.1
  simp only[Ys,Zi,Pm h.2,e1,Yc,XC]
  omega
theorem I2{α β:Type}{R:α->β->Prop}{s:Nat}: ∀{es:List (List β)} {l:List α},(es.all λe=>Nat.beq e.length s)=true->bZ R l es.flatten->bZ (bZ R) (pR s es.length l) es
 | [],_,_,_=>trivial
 | e::es,l,h,q=>by
  simp only[XR,Zd] at h
  have e1:=Zc h.1
  subst e1
  have q1:=q.take e.length
  have q2:=q.drop e.length
  simp only[Ys,Xr,Y5] at q1 q2
  exact⟨q1,I2 h.2 q2⟩
theorem aJC: ∀{os:List OL} {Hx:TH} {ws:List TV},upO os Hx=some ws->ws.length=nO os
 | [],Hx,ws,h=>by
  cases Hx with
  | nil=>cases h;rfl
  | cons=>cases h
 | o::os,Hx,ws,h=>by
  cases Hx with
  | nil=>cases h
  | cons b Hx=>
   simp only[upO] at h
   split at h
   .cases h
   .rename_i vs hvs
    have ih:=aJC hvs
    cases o with
    | gone=>cases h;exact ih
    | box n=>
     cases b with
     | box cs=>
      simp only at h
      split at h
      .rename_i e
       have e:=Zc e
       cases h
       simp[nO,ih,e]
      .cases h
     | _=>cases h
    | lst k0=>
     cases b with
     | lst k1 l1=>
      simp only at h
      split at h
      .cases h;simp[nO,ih]
      .cases h
     | _=>cases h
    | map kk vk=>
     cases b with
     | map a1 b1 m1=>
      simp only at h
      split at h
      .split at h
       .cases h;simp[nO,ih]
       .cases h
      .cases h
     | _=>cases h
    | bx=>
     cases b with
     | box=>cases h;simp[nO,ih]
     | _=>cases h
    | it=>
     cases b with
     | it=>cases h;simp[nO,ih]
     | _=>cases h
    | rows s m=>
     cases b with
     | rows s' es=>
      simp only at h
      split at h
      .split at h
       .rename_i e
        have e:=Zc e
        split at h
        .rename_i ha
         cases h
         rw[Zi,ih,Pm ha,e,YO]
         rfl
        .cases h
       .cases h
      .cases h
     | _=>cases h
theorem vK: ∀{os:List OL} {Hx:TH} {ws M:List TV},upO os Hx=some ws->bZ (Rj H) M ws->∀(i k k':Nat) (l:List (den k)) (l':List (den k')),Hx[i]?=some (.lst k l)->(N0 os M)[i]?=some (.lst k' l')->l'.length=l.length
 | [],Hx,ws,M,h,q,i,k,k',l,l',h1,h2=>by
  cases Hx with
  | nil=>simp at h1
  | cons=>cases h
 | o::os,Hx,ws,M,h,q,i,k,k',l,l',h1,h2=>by
  cases Hx with
  | nil=>cases h
  | cons b Hx=>
   simp only[upO] at h
   split at h
   .cases h
   .rename_i vs hvs
    cases o with
    | gone=>
     cases h
     cases i with
     | zero=>simp[N0] at h2
     | succ i=>exact vK hvs q i k k' l l' (by simpa using h1) (by simpa [N0] using h2)
    | box n=>
     cases b with
     | box cs=>
      simp only at h
      split at h
      .rename_i e
       have e:=Zc e
       cases h
       cases i with
       | zero=>simp at h1
       | succ i=>
        have:=q.drop n
        rw[<-e,Y5] at this
        rw[e] at this
        exact vK hvs this i k k' l l' (by simpa using h1) (by simpa [N0] using h2)
      .cases h
     | _=>cases h
    | lst k0=>
     cases b with
     | lst k1 l1=>
      simp only at h
      split at h
      .cases h
       cases M with
       | nil=>exact q.elim
       | cons m M=>
        cases i with
        | succ i=>exact vK hvs q.2 i k k' l l' (by simpa using h1) (by simpa [N0] using h2)
        | zero=>
         simp only[Zt,Zb] at h1
         cases h1
         simp only[N0,Zt,Zb] at h2
         unfold aG3 at h2
         split at h2
         .rename_i k2 l2
          split at h2
          .cases h2
           have:=q.1.s rfl rfl
           cases this
           rfl
          .cases h2
         .cases h2
      .cases h
     | _=>cases h
    | map kk vk=>
     cases b with
     | map a1 b1 m1=>
      simp only at h
      split at h
      .split at h
       .cases h
        cases M with
        | nil=>exact q.elim
        | cons m M=>
         cases i with
         | succ i=>exact vK hvs q.2 i k k' l l' (by simpa using h1) (by simpa [N0] using h2)
         | zero=>simp at h1
       .cases h
      .cases h
     | _=>cases h
    | bx=>
     cases b with
     | box cs=>
      cases h
      cases M with
      | nil=>exact q.elim
      | cons m M=>
       cases i with
       | succ i=>exact vK hvs q.2 i k k' l l' (by simpa using h1) (by simpa [N0] using h2)
       | zero=>simp at h1
     | _=>cases h
    | it=>
     cases b with
     | it s1 p1=>
      cases h
      cases M with
      | nil=>exact q.elim
      | cons m M=>
       cases i with
       | succ i=>exact vK hvs q.2 i k k' l l' (by simpa using h1) (by simpa [N0] using h2)
       | zero=>simp at h1
     | _=>cases h
    | rows s m=>
     cases b with
     | rows s' es=>
      simp only at h
      split at h
      .split at h
       .rename_i e
        have e:=Zc e
        split at h
        .rename_i ha
         cases h
         cases i with
         | zero=>simp at h1
         | succ i=>
          have:=q.drop (s*m)
          rw[show s*m=es.flatten.length by rw[Pm ha,e,YO],Y5] at this
          rw[show es.flatten.length=s*m by rw[Pm ha,e,YO]] at this
          exact vK hvs this i k k' l l' (by simpa using h1) (by simpa [N0] using h2)
        .cases h
       .cases h
      .cases h
     | _=>cases h
theorem Mv{H':TH}: ∀{os:List OL} {Hx:TH} {ws M:List TV} {A:aW},upO os Hx=some ws->bZ (λm v=>Rj H m v/\∀a,Qh H v a->Qh H' m a) M ws->bZ (Qo H) Hx A->bZ (Qo H') (N0 os M) A
 | [],Hx,ws,M,A,h,q,hs=>by
  cases Hx with
  | nil=>cases A with
   | nil=>trivial
   | cons=>exact hs.elim
  | cons=>cases h
 | o::os,Hx,ws,M,A,h,q,hs=>by
  cases Hx with
  | nil=>cases h
  | cons b Hx=>
   cases A with
   | nil=>exact hs.elim
   | cons a A=>
    simp only[upO] at h
    split at h
    .cases h
    .rename_i vs hvs
     cases o with
     | gone=>cases h;exact⟨trivial,Mv hvs q hs.2⟩
     | box n=>
      cases b with
      | box cs=>
       simp only at h
       split at h
       .rename_i e
        have e:=Zc e
        cases h
        have q1:=q.take n
        have q2:=q.drop n
        rw[<-e,Y5] at q2
        rw[<-e,Xr] at q1
        rw[e] at q1 q2
        refine⟨?_,Mv hvs q2 hs.2⟩
        obtain⟨aw,h1,h2⟩:=hs.1
        refine⟨aw,by rw[h1,q1.len],?_⟩
        exact bZ.of (by rw[h2.len,q1.len]) λj m c hm hc=>by
         obtain⟨v,hv,hq⟩:=q1.get hm
         exact hq.2 c (h2.at hv hc)
       .cases h
      | _=>cases h
     | lst k0=>
      cases b with
      | lst k1 l1=>
       simp only at h
       split at h
       .rename_i e
        have e:=Zc e
        cases h
        cases M with
        | nil=>exact q.elim
        | cons m M=>
         refine⟨?_,Mv hvs q.2 hs.2⟩
         have h1:=q.1.1.s
         have h2:=hs.1
         show Qo H' (aG3 k0 m) a
         clear q
         unfold aG3
         split
         .split
          .have:=h1 rfl rfl
           cases this
           exact h2
          .trivial
         .trivial
       .cases h
      | _=>cases h
     | map kk vk=>
      cases b with
      | map a1 b1 m1=>
       simp only at h
       split at h
       .rename_i e1
        split at h
        .rename_i e2
         have e1:=Zc e1
         have e2:=Zc e2
         cases h
         cases M with
         | nil=>exact q.elim
         | cons m M=>
          refine⟨?_,Mv hvs q.2 hs.2⟩
          have h1:=q.1.1.s
          have h2:=hs.1
          show Qo H' (aJG kk vk m) a
          clear q
          unfold aJG
          split
          .split
           .split
            .have:=h1 rfl rfl
             cases this
             exact h2
            .trivial
           .trivial
          .trivial
        .cases h
       .cases h
      | _=>cases h
     | bx=>
      cases b with
      | box cs=>
       cases h
       cases M with
       | nil=>exact q.elim
       | cons m M=>
        refine⟨?_,Mv hvs q.2 hs.2⟩
        obtain⟨bs,rfl,h2⟩:=hs.1
        have h1:=q.1.2 _ (Qh.mkA h2)
        show Qo H' (aQa m) _
        clear q
        unfold aQa
        split
        .obtain⟨aw',e,h3⟩:=h1.inA
         cases e
         exact⟨bs,by rw[<-h2.len,h3.len],h3⟩
        .trivial
      | _=>cases h
     | it=>
      cases b with
      | it s1 p1=>
       cases h
       cases M with
       | nil=>exact q.elim
       | cons m M=>
        refine⟨?_,Mv hvs q.2 hs.2⟩
        have h1:=q.1.1.s
        have h2:=hs.1
        show Qo H' (aPZ m) a
        clear q
        unfold aPZ
        split
        .rename_i x hx
         have e:=aHz hx
         have:=h1 rfl (by rw[e];rfl)
         rw[e] at this
         cases this
         exact h2
        .trivial
      | _=>cases h
     | rows s m=>
      cases b with
      | rows s' es=>
       simp only at h
       split at h
       .rename_i e1
        have e1:=Zc e1
        subst e1
        split at h
        .rename_i e
         have e:=Zc e
         split at h
         .rename_i ha
          cases h
          have ef:es.flatten.length=s'*m:=by rw[Pm ha,e,YO]
          have q1:=q.take (s'*m)
          have q2:=q.drop (s'*m)
          rw[<-ef,Xr] at q1
          rw[<-ef,Y5] at q2
          rw[ef] at q1 q2
          refine⟨?_,Mv hvs q2 hs.2⟩
          obtain⟨aw,h1,h2⟩:=hs.1
          refine⟨aw,h1,?_⟩
          have q3:=I2 ha q1
          rw[e] at q3
          exact bZ.of (by rw[h2.len,q3.len]) λj r a hr ha'=>by
           obtain⟨e0,he0,q4⟩:=q3.get hr
           have h3:=h2.at he0 ha'
           exact bZ.of (by rw[h3.len,q4.len]) λj m c hm hc=>by
            obtain⟨v,hv,hq⟩:=q4.get hm
            exact hq.2 c (h3.at hv hc)
         .cases h
        .cases h
       .cases h
      | _=>cases h
theorem aDx: ∀{M:List TV},aAh H M=true->∀m∈M,∀i n,m=.ms i n->∃(k:Nat) (l:List (den k)),H[i]?=some (.lst k l)
 | [],_,m,hm=>by cases hm
 | v::r,h,m,hm=>by
  intro i n e
  subst e
  rcases ZO.1 hm with e | hm
  .subst e
   simp only[aAh] at h
   split at h
   .rename_i o ho
    split at h
    .exact⟨_,_,ho⟩
    .cases h
   .cases h
  .refine aDx (M:=r) ?_ _ hm i n rfl
   cases v with
   | ms i2 n2=>
    simp only[aAh] at h
    split at h
    .split at h
     .exact h
     .cases h
    .cases h
   | _=>exact h
theorem aL1{L:Eb}{p:L.P}{q:L.V}(h:L.get S=some (p,q))(hs:Qt N S st): Qt N (L.mk' p q) st:=by
 unfold Eb.get at h
 split at h
 .rename_i vs hvs
  split at h
  .rename_i ws hws
   split at h
   .rename_i pq hpq
    split at h
    .rename_i hck
     cases h
     have hr:=Nu (H:=S.hp) hpq
     have hn:=aJC hws
     have hd:bZ (Rj S.hp) ((mkV L.ss p q).take (nO L.os)) ws:=by
      have:=hr.take (nO L.os)
      rw[<-hn,Xr] at this
      rw[hn] at this
      exact this
     have ht:bZ (Rj S.hp) ((mkV L.ss p q).drop (nO L.os)) vs:=by
      have:=hr.drop (nO L.os)
      rw[<-hn,Y5] at this
      rw[hn] at this
      exact this
     have hlst:=vK hws hd
     have key:∀m v,m∈mkV L.ss p q->Rj S.hp m v->∀a,Qh S.hp v a->Qh (L.mk' p q).hp m a:=by
      intro m v hm r a qa
      refine r.q _ (λi n e k l hi=>?_) a qa
      obtain⟨k',l',g⟩:=aDx hck m hm i n e
      exact⟨k',l',g,hlst i k k' l l' hi g⟩
     refine⟨hs.ln,λt m hm=>?_,?_⟩
     .have ht':bZ (λm v=>∀a,Qh S.hp v a->Qh (L.mk' p q).hp m a) ((mkV L.ss p q).drop (nO L.os)) vs:=
       bZ.of ht.len λj m v hm hv=>key m v (Z1 (Zf hm)) (ht.at hm hv)
      obtain⟨v,g3,g6⟩:=aEX hvs ht' hm
      obtain⟨a,g4,g5⟩:=hs.tm t v g3
      exact⟨a,g4,g6 a g5⟩
     .refine Mv hws ?_ hs.hp
      refine bZ.of hd.len λj m v hm hv=>⟨hd.at hm hv,key m v (Z9 (Zf hm)) (hd.at hm hv)⟩
    .cases h
   .cases h
  .cases h
 .cases h
theorem aB0: ∀{ss:List Pl} {p:fM (shs false ss)} {q:fM (shs true ss)} {K:List TV->Option R} {r:R},mkK ss p q K=some r->
 ∃M,K M=some r/\bZ (λm m'=>m=m'\/∃b,m=.lit (.bool b)/\m'=.lit (.bool b)) M (mkV ss p q)
 | [],p,q,K,r,h=>⟨[],h,trivial⟩
 | .con c::ss,p,q,K,r,h=>by
  obtain⟨M,h1,h2⟩:=aB0 (ss:=ss) h
  exact⟨_,h1,.inl rfl,h2⟩
 | .p s::ss,p,q,K,r,h=>by
  obtain⟨M,h1,h2⟩:=aB0 (ss:=ss) h
  exact⟨_,h1,.inl rfl,h2⟩
 | .v s::ss,p,q,K,r,h=>by
  have key:∃v,v=s.tv (fM.hd q)/\mkK ss p (fM.tl q) (λvs=>K (v::vs))=some r:=by
   simp only[mkK,Ng] at h
   split at h
   .rename_i u hu
    split at h
    .rename_i b
     cases b with
     | true=>exact⟨_,hu.symm,h⟩
     | false=>exact⟨_,hu.symm,h⟩
    .exact⟨_,hu.symm,h⟩
   .exact⟨_,rfl,h⟩
  obtain⟨v,e,h⟩:=key
  obtain⟨M,h1,h2⟩:=aB0 h
  exact⟨_,h1,.inl e,h2⟩
theorem aKS{L:Eb}{p:L.P}{q:L.V}{K:TS->Option R}{r:R}(h:L.mkB p q K=some r): K (L.mk' p q)=some r:=by
 unfold Eb.mkB at h
 obtain⟨M,h1,h2⟩:=aB0 h
 have e:M=mkV L.ss p q:=by
  apply Ym 
  intro j
  cases hj:M[j]? with
  | none=>
   rw[XL] at hj
   rw[WA,XL,h2.len];exact hj
  | some m=>
   obtain⟨m',g1,g2⟩:=h2.get hj
   rw[g1]
   rcases g2 with rfl | ⟨b,rfl,rfl⟩<;>rfl
 subst e
 exact h1
end
inductive ClA(n:Nat): AV->AV->Prop
 | r (a):ClA n a a
 | s (a b m):n<=m->ClA n a b->ClA n a (Qg m b)
theorem ClA.tr{n:Nat}{a b c:AV}(h:ClA n a b)(k:ClA n b c): ClA n a c:=by
 induction k with
 | r=>exact h
 | s b m e _ d=>exact .s _ _ m e d
def atB(l:List Bool)(t:Nat): Bool:=match l[t]? with
 | some b=>b
 | none=>false
def noD(t:Nat): List bS->Bool
 | []=>true
 | o::r=>match o.dst with
  | none=>noD t r
  | some d=>match Nat.beq d t with
   | true=>false
   | false=>noD t r
def kpt(t:Nat): bT->Bool
 | .skip=>true
 | .exit _=>true
 | .ret=>true
 | .stop=>true
 | .region _ _ ops=>noD t ops
 | .seq a b=>kpt t a&&kpt t b
 | .cond _ a b=>kpt t a&&kpt t b
 | .block _ c=>kpt t c
 | .scope c=>kpt t c
 | .loop live _ c=>(match live with
  | none=>true
  | some l=>atB l t)&&kpt t c
 | .mask lx _ _ c=>atB lx t&&kpt t c
 | .told li lx _ c=>(atB li t&&atB lx t)&&kpt t c
 | .frz u c=>!Nat.beq u t&&kpt t c
 | .nilIf ..=>false
 | .loopV ..=>false
def kpL(c:bT): List Nat->Bool
 | []=>true
 | t::r=>match kpt t c with
  | true=>kpL c r
  | false=>false
section
variable {P:Program}{cf:CF}{fl lf n t:Nat}
theorem aMg{l:List Bool}(h:atB l t=true): l[t]?=some true:=by
 unfold atB at h;split at h
 .rename_i b a;rw[a,h]
 .cases h
theorem aHn{tm:List AV}{d:Option Nat}{v:AV}(h:∀e,d=some e->e≠t): (iF tm d v)[t]?=tm[t]?:=by
 cases d with
 | none=>rfl
 | some e=>exact Zv (h e rfl)
theorem aHo[aG]: ∀{l:List bS} {st st':St},noD t l=true->iX P cf fl l st=some st'->st'.tmps[t]?=st.tmps[t]?
 | [],st,st',_,h=>by cases h;rfl
 | o::r,st,st',c,h=>by
  have b:noD t r=true/\∀e,o.dst=some e->e≠t:=by
   simp only[noD] at c;split at c
   .rename_i e;exact⟨c,λg h=>by rw[e] at h;cases h⟩
   .rename_i d e;split at c
    .cases c
    .rename_i f;exact⟨c,λg h=>by rw[e] at h;cases h;exact YE f⟩
  simp only[iX] at h;split at h
  .rename_i i a;rw[aHo b.1 h];unfold cT at a;split at a
   .split at a
    .cases a;exact aHn b.2
    .cases a
   .cases a;exact aHn b.2
   .cases a
  .cases h
def Kp(n t:Nat)(st st':St): Prop:=n<=st'.heap.length/\∀a,st.tmps[t]?=some a->∃b,st'.tmps[t]?=some b/\ClA n a b
theorem Kp.tr{d f e:St}(h:Kp n t d f)(k:Kp n t f e): Kp n t d e:=⟨k.1,λa j=>by
 obtain⟨b,g,q⟩:=h.2 a j;obtain⟨c,l,i⟩:=k.2 b g;exact⟨c,l,q.tr i⟩⟩
theorem Kp.same{st st':St}(c:n<=st'.heap.length)(h:st'.tmps[t]?=st.tmps[t]?): Kp n t st st':=⟨c,λa b=>⟨a,by rw[h];exact b,.r a⟩⟩
theorem Kp.head[aG]{live:Option (List Bool)}{tr:Bool}{m:Nat}{st:St}(f:n<=st.heap.length)(c:n<=m)(b:fl<=n)(h:∀l,live=some l->atB l t=true): Kp n t st (dN live tr fl m st):=by
 refine⟨(rE ⟨b,f⟩ ⟨b,c⟩).2,λa d=>?_⟩;have e:(aAj live st.tmps)[t]?=some a:=by
  cases live with
  | none=>exact d
  | some l=>exact (IU _ _ _ (aMg (h l rfl))).trans d
 cases tr with
 | false=>exact⟨a,e,.r a⟩
 | true=>exact⟨Qg m a,by simp only[dN,Zy,Zl,e];rfl,.s _ _ m c (.r a)⟩
theorem Kp.loop{b:St->St}{step:St->Option (cX×St)}(i:∀st,n<=st.heap.length->Kp n t st (b st))(d:∀st x st',n<=st.heap.length->step st=some (x,st')->x≠.ret->Kp n t st st'):
 ∀(m:Nat) (st:St) (x:cX) (st':St),n<=st.heap.length->fV b step m st=some (x,st')->x≠.ret->Kp n t st st'
 | 0,_,_,_,_,h,_=>by cases h
 | m+1,st,x,st',k,a,j=>by
  simp only[fV] at a;have c:=i st k;split at a
  .rename_i f he;have g:=d _ _ _ c.1 he (by intro e;cases e);exact (c.tr g).tr (Kp.loop i d m f x st' g.1 a j)
  .exact c.tr (d _ _ _ c.1 a j)
theorem J4{a b:Bool}(h:(a&&b)=true): a=true/\b=true:=by simpa using h
theorem lS[aG](g:zN cf)(m:fl<=n): ∀(c:bT) (st:St) (x:cX) (st':St),kpt t c=true->n<=st.heap.length->eP P cf lf fl c st=some (x,st')->x≠.ret->Kp n t st st'
 | .skip,st,x,st',_,f,d,_=>by simp only[eP] at d;cases d;exact .same f rfl
 | .exit _,st,x,st',_,f,d,_=>by simp only[eP] at d;cases d;exact .same f rfl
 | .ret,st,x,st',_,f,d,o=>by simp only[eP] at d;cases d;exact (o rfl).elim
 | .stop,st,x,st',_,f,d,_=>by simp only[eP] at d;cases d
 | .region _ I ops,st,x,st',j,f,d,_=>by
  simp only[eP] at d;split at d
  .rename_i h he;cases d;exact .same (E9 g ops st _ ⟨m,f⟩ (Se he)).2 (aHo j (Se he))
  .cases d
 | .seq a b,st,x,st',j,f,d,o=>by
  obtain⟨p,q⟩:=J4 j;simp only[eP] at d;split at d
  .rename_i h he;have k:=lS g m a st _ h p f he (by intro e;cases e);exact k.tr (lS g m b h x st' q k.1 d o)
  .exact lS g m a st x st' p f d o
 | .cond c a b,st,x,st',j,f,d,o=>by
  obtain⟨p,q⟩:=J4 j;simp only[eP] at d;split at d
  .exact lS g m a st x st' p f d o
  .exact lS g m b st x st' q f d o
  .cases d
 | .block id c,st,x,st',j,f,d,o=>by
  simp only[eP] at d;split at d
  .rename_i i h he;have k:=lS g m c st _ h j f he (by intro e;cases e);split at d<;>cases d<;>exact k
  .exact lS g m c st x st' j f d o
 | .scope c,st,x,st',j,f,d,o=>by
  simp only[eP] at d;exact lS g m c st x st' j f d o
 | .loop live tr c,st,x,st',j,f,d,o=>by
  obtain⟨p,q⟩:=J4 j;simp only[eP] at d;exact Kp.loop (λs z=>Kp.head z f m (λl e=>by rw[e] at p;exact p)) (λs y s' z he G=>lS g m c s y s' q z he G) lf st x st' f d o
 | .frz u c,st,x,st',j,f,d,o=>by
  obtain⟨p,q⟩:=J4 j;simp only[eP] at d;split at d
  .rename_i v H he;have r:n<=H.length:=(aBT g ⟨m,f⟩ he).2;have k:Kp n t st ⟨st.tmps.set u v,H⟩:=.same r (Zv (YE (by simpa using p)));exact k.tr (lS g m c _ x st' q r d o)
  .cases d
 | .mask D C tr c,st,x,st',j,f,d,o=>by
  obtain⟨p,q⟩:=J4 j;simp only[eP,Fg] at d;split at d
  .rename_i F h he;split at d
   .cases d;exact (o rfl).elim
   .cases d;have k:=lS g m c st _ h q f he (by intro e;cases e);exact k.tr (Kp.head k.1 f m (λl e=>by cases e;exact p))
   .cases d;have k:=lS g m c st _ h q f he (by intro e;cases e);exact k.tr (Kp.head k.1 f m (λl e=>by cases e;exact p))
  .cases d
 | .told w D C c,st,x,st',j,f,d,o=>by
  obtain⟨p,q⟩:=J4 j;obtain⟨E,A⟩:=J4 p;have B:Kp n t st ⟨cY w st.tmps,st.heap⟩:=.same f (IU _ _ _ (aMg E));simp only[eP,Fg] at d;split at d
  .rename_i F h he;split at d
   .cases d;exact (o rfl).elim
   .cases d;have k:=lS g m c ⟨cY w st.tmps,st.heap⟩ _ h q f he (by intro e;cases e);exact (B.tr k).tr (Kp.head k.1 f m (λl e=>by cases e;exact A))
   .cases d;have k:=lS g m c ⟨cY w st.tmps,st.heap⟩ _ h q f he (by intro e;cases e);exact (B.tr k).tr (Kp.head k.1 f m (λl e=>by cases e;exact A))
  .cases d
 | .nilIf ..,st,x,st',j,f,d,o=>by cases j
 | .loopV ..,st,x,st',j,f,d,o=>by cases j
theorem aFD{c:bT}: ∀{l:List Nat},kpL c l=true->∀t∈l,kpt t c=true
 | [],_,t,a=>by cases a
 | u::l,h,t,a=>by
  simp only[kpL] at h;split at h
  .rename_i b;rcases ZO.1 a with rfl | a
   .exact b
   .exact aFD h t a
  .cases h
end
section
variable [dQ]{H H1:TH}{n:Nat}
theorem aR8{n m:Nat}(h:n<=m)(v:TV): cZ m (cZ n v)=cZ n v:=by
 have k:∀i,Nat.blt i n=true->Nat.blt i m=true:=λi e=>by
  have:i<n:=by simpa [YF] using e
  simpa [YF] using YN this h
 cases v with
 | fn vi cs=>cases cs<;>rfl
 | ms i m=>simp only[cZ];cases a:Nat.blt i n with | true=>simp only[cZ,k _ a] | false=>rfl
 | ptr i o=>simp only[cZ];cases a:Nat.blt i n with | true=>simp only[cZ,k _ a] | false=>rfl
 | pel i j o=>simp only[cZ];cases a:Nat.blt i n with | true=>simp only[cZ,k _ a] | false=>rfl
 | mp i=>simp only[cZ];cases a:Nat.blt i n with | true=>simp only[cZ,k _ a] | false=>rfl
 | it i=>simp only[cZ];cases a:Nat.blt i n with | true=>simp only[cZ,k _ a] | false=>rfl
 | rs i m=>simp only[cZ];cases a:Nat.blt i n with | true=>simp only[cZ,k _ a] | false=>rfl
 | rel i m j o=>simp only[cZ];cases a:Nat.blt i n with | true=>simp only[cZ,k _ a] | false=>rfl
 | _=>rfl
theorem aCf{n m:Nat}(h:n<=m)(v:TV): iZ m (iZ n v)=iZ n v:=by
 have k:∀i,Nat.blt i n=true->Nat.blt i m=true:=λi e=>by
  have:i<n:=by simpa [YF] using e
  simpa [YF] using YN this h
 cases v with
 | fn vi cs=>simp only[iZ,Ya];congr 1;exact ZU λc _=>aR8 h c
 | ms i x=>simp only[iZ,cZ];cases a:Nat.blt i n with | true=>simp only[iZ,cZ,k _ a] | false=>rfl
 | ptr i o=>simp only[iZ,cZ];cases a:Nat.blt i n with | true=>simp only[iZ,cZ,k _ a] | false=>rfl
 | pel i j o=>simp only[iZ,cZ];cases a:Nat.blt i n with | true=>simp only[iZ,cZ,k _ a] | false=>rfl
 | mp i=>simp only[iZ,cZ];cases a:Nat.blt i n with | true=>simp only[iZ,cZ,k _ a] | false=>rfl
 | it i=>simp only[iZ,cZ];cases a:Nat.blt i n with | true=>simp only[iZ,cZ,k _ a] | false=>rfl
 | rs i x=>simp only[iZ,cZ];cases a:Nat.blt i n with | true=>simp only[iZ,cZ,k _ a] | false=>rfl
 | rel i x j o=>simp only[iZ,cZ];cases a:Nat.blt i n with | true=>simp only[iZ,cZ,k _ a] | false=>rfl
 | _=>rfl
theorem aR7{n m:Nat}(h:n<=m)(v:TV): vR m (vR n v)=vR n v:=by
 have k:∀i,Nat.blt i n=true->Nat.blt i m=true:=λi e=>by
  have:i<n:=by simpa [YF] using e
  simpa [YF] using YN this h
 cases v with
 | agg cs=>simp only[vR,Ya];congr 1;exact ZU λc _=>aCf h c
 | fn vi cs=>exact aCf h (.fn vi cs)
 | ms i x=>simp only[vR,iZ,cZ];cases a:Nat.blt i n with | true=>simp only[vR,iZ,cZ,k _ a] | false=>rfl
 | ptr i o=>simp only[vR,iZ,cZ];cases a:Nat.blt i n with | true=>simp only[vR,iZ,cZ,k _ a] | false=>rfl
 | pel i j o=>simp only[vR,iZ,cZ];cases a:Nat.blt i n with | true=>simp only[vR,iZ,cZ,k _ a] | false=>rfl
 | mp i=>simp only[vR,iZ,cZ];cases a:Nat.blt i n with | true=>simp only[vR,iZ,cZ,k _ a] | false=>rfl
 | it i=>simp only[vR,iZ,cZ];cases a:Nat.blt i n with | true=>simp only[vR,iZ,cZ,k _ a] | false=>rfl
 | rs i x=>simp only[vR,iZ,cZ];cases a:Nat.blt i n with | true=>simp only[vR,iZ,cZ,k _ a] | false=>rfl
 | rel i x j o=>simp only[vR,iZ,cZ];cases a:Nat.blt i n with | true=>simp only[vR,iZ,cZ,k _ a] | false=>rfl
 | _=>rfl
theorem aGc{n m:Nat}(h:n<=m)(o:pW): iC m (iC n o)=iC n o:=by
 cases o with
 | box cs=>simp only[iC,Ya];congr 1;exact ZU λc _=>aCf h c
 | rows s es=>simp only[iC,Ya];congr 1;exact ZU λe _=>by simp only[Function.comp,Ya];exact ZU λc _=>aCf h c
 | fr k a=>
  simp only[iC];cases d:Nat.ble k n with
  | true=>simp only[iC,Yw (ZC (Zn d) h)]
  | false=>rfl
 | _=>rfl
theorem aOz{v:TV}{a:AV}(q:Qh H v a): Qh ((H.take n).map (iC n)) (vR n v) a:=by
 cases v with
 | agg cs=>
  obtain⟨aw,rfl,c⟩:=q.inA;exact Qh.mkA (c.mapL λ_ _ q=>(Ct q).2)
 | undef=>exact Qh.u _
 | tup=>exact Qh.u _
 | _=>exact (Ct (n:=n) q).2
theorem aVW{v:TV}{a b:AV}(c:n=H.length)(q:Qh H v a)(h:ClA n a b): Qh (H.map (iC n)) (vR n v) b:=by
 induction h with
 | r=>
  have:=aOz (n:=n) q;rw[c,XT] at this;rw[c];exact this
 | s b m d _ f=>
  have:=aHO (n:=m) f;rw[aR7 d,ZY (by simp;omega),Ya] at this;have e:iC m∘iC n=iC n:=funext λo=>aGc d o;rw[e] at this;exact this
theorem aVX{o:pW}{a b:dK}(c:n=H.length)(q:Qo H o a)(h:ClO n a b): Qo (H.map (iC n)) (iC n o) b:=by
 induction h with
 | r=>
  have:=(k7 (n:=n) q).2;rw[c,XT] at this;rw[c];exact this
 | s b m d _ f=>
  have:=(k7 (n:=m) f).1;rw[aGc d,ZY (by simp;omega),Ya] at this;have e:iC m∘iC n=iC n:=funext λo=>aGc d o;rw[e] at this;exact this
end
section
variable [dQ]{R:Type}{H H1:TH}{A:aW}{N:Nat}{S:TS}{st:St}{P:Program}{T:List cR}{cf:CF}{op:Hy}{K:TV->TS->Option R}{r:R}{E:XE}{n:Nat}{d:Option Nat}
def Ms{P:Type}(Q:(o:Sn P)->o.lay.V->Prop): (l:List (Sn P))->pX l->Prop
 | [],t=>t.elim
 | [o],t=>Q o t
 | o::o'::r,t=>match t with
  | .inl t=>Q o t
  | .inr s=>Ms Q (o'::r) s
theorem Ms.two{P:Type}{Q b:(o:Sn P)->o.lay.V->Prop}: ∀{l:List (Sn P)} {t:pX l},Ms Q l t->Ms b l t->∃o∈l,∃t,Q o t/\b o t
 | [],t,_,_=>t.elim
 | [o],t,h,k=>⟨o,ZN,t,h,k⟩
 | o::a::r,.inl t,h,k=>⟨o,ZN,t,h,k⟩
 | o::a::r,.inr t,h,k=>let ⟨o,c,t,h⟩:=Ms.two (l:=a::r) h k;⟨o,ZS _ c,t,h⟩
theorem aG4{P R:Type}{p:P}{b:Bool}{K:cX->TS->Option R}{r:R}: ∀{l:List (Sn P)} {x:Option (pX l)},swO p b l x K=some r->∃t,x=some t/\Ms (λo t=>K o.x (o.lay.mk' (o.pr p) t)=some r) l t
 | [],x,h=>by cases h
 | [o],x,h=>by
  simp only[swO] at h;obtain⟨t,rfl,h⟩:=bG h;refine⟨t,rfl,?_⟩;split at h
  .exact aKS h
  .exact h
 | o::a::l,x,h=>by
  simp only[swO] at h;rcases aJk h with⟨t,rfl,h⟩ | ⟨s,rfl,h⟩
  .refine⟨.inl t,rfl,?_⟩;split at h
   .exact aKS h
   .exact h
  .obtain⟨t,e,h⟩:=aG4 (l:=a::l) h;cases e;exact⟨.inr _,rfl,h⟩
theorem aG0: ∀{os:List OL} {H:TH} {c:List TV},upO os H=some c->H.length=os.length
 | [],H,c,h=>by
  cases H with
  | nil=>rfl
  | cons=>cases h
 | o::os,H,c,h=>by
  cases H with
  | nil=>cases h
  | cons b H=>
   simp only[upO] at h;split at h
   .cases h
   .rename_i vs a;simp[aG0 a]
theorem j6{L:Eb}{S:TS}{x:L.P×L.V}(h:L.get S=some x): S.hp.length=L.os.length:=by
 unfold Eb.get at h;split at h
 .split at h
  .rename_i a;exact aG0 a
  .cases h
 .cases h
theorem aRd{L:Eb}{p:L.P}{q:L.V}(h:L.get S=some (p,q))(i k k':Nat)(l:List (den k))(c:List (den k'))(f:S.hp[i]?=some (.lst k l))(n:(L.mk' p q).hp[i]?=some (.lst k' c)): c.length=l.length:=by
 unfold Eb.get at h;split at h
 .split at h
  .rename_i m a;split at h
   .rename_i o b;split at h
    .cases h;have g:=Nu (H:=S.hp) b;have e:=aJC a;have j:bZ (Rj S.hp) ((mkV L.ss p q).take (nO L.os)) m:=by
      have:=g.take (nO L.os);rw[<-e,Xr] at this;rw[e] at this;exact this
     exact vK a j i k k' l c f n
    .cases h
   .cases h
  .cases h
 .cases h
theorem aHs{kl:List Nat}: ∀{i:Nat} {H H':TH},A4 kl i H H'=true->∀(j k:Nat) (l:List (den k)),i+j∉kl->H[j]?=some (.lst k l)->∃(k':Nat) (f:List (den k')),H'[j]?=some (.lst k' f)
 | i,[],H',h,j,k,l,_,c=>by simp at c
 | i,a::r,[],h,_,_,_,_,_=>by cases h
 | i,a::r,b::s,h,j,k,l,n,c=>by
  have o:A4 kl (i+1) r s=true->∀e,j=e+1->∃(k':Nat) (f:List (den k')),(b::s)[j]?=some (.lst k' f):=by
   rintro q e rfl;obtain⟨k',f,g⟩:=aHs q e k l (by rw[Yt,Wj 1];exact n) (by simpa using c);exact⟨k',f,by simpa using g⟩
  simp only[A4] at h;cases j with
  | succ e=>
   refine o ?_ e rfl;split at h
   .split at h
    .exact h
    .split at h
     .exact h
     .cases h
   .exact h
  | zero=>
   simp only[Zt,Zb] at c;subst c;simp only at h;split at h
   .exact⟨_,_,rfl⟩
   .split at h
    .rename_i p;exact absurd p (by rw[aFC (by simpa using n)];simp)
    .cases h
theorem aHj{os:List OL}: ∀{l:List Nat},aN9 os l=true->∀i∈l,os[i]?=some .gone
 | [],_,i,a=>by cases a
 | j::l,h,i,a=>by
  simp only[aN9] at h;split at h
  .rename_i o b;split at h
   .rcases ZO.1 a with rfl | a
    .exact b
    .exact aHj h i a
   .cases h
  .cases h
theorem y9: ∀{os:List OL} {vs:List TV} {i:Nat} {o:pW},os[i]?=some .gone->(N0 os vs)[i]?=some o->o=.gone
 | [],vs,i,o,h,_=>by simp at h
 | c::os,vs,0,o,h,a=>by
  simp only[Zt,Zb] at h;subst h;simp only[N0,Zt,Zb] at a;exact a.symm
 | c::os,vs,i+1,o,h,a=>by
  have b:os[i]?=some .gone:=by simpa using h
  clear h;cases c<;>simp only[N0] at a<;>first
   | exact y9 b (by simpa using a)
   | (split at a<;>first | exact y9 b (by simpa using a) | (simp at a))
theorem vQ{L:Eb}{S:TS}{x:L.P×L.V}(h:L.fit S=some x): L.get S=some x/\∀i∈L.fo,L.os[i]?=some .gone:=by
 unfold Eb.fit at h;split at h
 .rename_i e;exact⟨h,aHj e⟩
 .cases h
theorem d9{n:Nat}{φ:Nat->dK}: ∀{l:List Nat} {H:TH},(ovO n φ l H).length=H.length
 | [],_=>rfl
 | _::r,H=>by simp[ovO,d9 (l:=r)]
theorem aBp{n:Nat}{φ:Nat->dK}{i:Nat}: ∀{l:List Nat} {H:TH},i∉l->(ovO n φ l H)[i]?=H[i]?
 | [],_,_=>rfl
 | j::r,H,h=>by
  simp only[ZO,not_or] at h;rw[ovO,Zv (λe=>h.1 e.symm)];exact aBp h.2
theorem aFx{n:Nat}{φ:Nat->dK}{i:Nat}: ∀{l:List Nat} {H:TH},i∈l->i<H.length->(ovO n φ l H)[i]?=some (.fr n (φ i))
 | j::r,H,h,a=>by
  rw[ovO,Z7];split
  .rename_i e;subst e;rw[Zu (by rw[d9];exact a)]
  .rename_i e;rcases ZO.1 h with rfl | h
   .exact (e rfl).elim
   .exact aFx h a
theorem c9{kl:List Nat}{n:Nat}{a:TH}: ∀{l:List Nat} {H:TH},(rsO kl n a l H).length=H.length
 | [],_=>rfl
 | _::r,H=>by
  simp only[rsO];split<;>simp[c9 (l:=r)]
theorem t5{kl:List Nat}{n i:Nat}{a:TH}: ∀{l:List Nat} {H:TH},i∉l->(rsO kl n a l H)[i]?=H[i]?
 | [],_,_=>rfl
 | j::r,H,h=>by
  simp only[ZO,not_or] at h;rw[rsO];split
  .rw[Zv (λe=>h.1 e.symm)];exact t5 h.2
  .exact t5 h.2
theorem aAZ{kl:List Nat}{n i:Nat}{d:TH}{o:pW}(c:d[i]?=some o): ∀{l:List Nat} {H:TH},i∈l->i<H.length->(rsO kl n d l H)[i]?=some (Vx kl (iC n o))
 | j::r,H,h,b=>by
  rw[rsO];rcases ZO.1 h with rfl | h
  .rw[c];exact Z6 (by rw[c9];exact b)
  .split
   .rename_i f a;rw[Z7];split
    .rename_i e;subst e;rw[c] at a;cases a;rw[Zu (by rw[c9];exact b)]
    .exact aAZ c h b
   .exact aAZ c h b
theorem aPv{L:Eb}{n:Nat}{φ:Nat->dK}{p:L.P}{q:L.V}(h:∀i∈L.fo,L.os[i]?=some .gone): HM (L.mk' p q).hp (L.mkG n φ p q).hp:=by
 intro i k l a;have b:i∉L.fo:=λc=>by cases y9 (h i c) a
 exact⟨k,l,by rw[<-a];exact aBp b,rfl⟩
theorem aTk{L:Eb}{n:Nat}{φ:Nat->dK}{p:L.P}{q:L.V}(h:∀i∈L.fo,L.os[i]?=some .gone)(c:Qt N (L.mk' p q) st)(k:∀i∈L.fo,∀b,st.heap[i]?=some b->ClO n (φ i) b): Qt N (L.mkG n φ p q) st:=by
 refine Qt.hpM (S:=L.mk' p q) (st:=st) c (aPv h) (bZ.of (by rw[c.hp.len];exact d9.symm) λj o b d f=>?_);by_cases e:j∈L.fo
 .have g:j<(L.mk' p q).hp.length:=by rw[<-c.hp.len];exact (Ze.1 f).1
  rw[aFx e g] at d;cases d;exact k j e b f
 .rw[aBp e] at d;exact (c.hp.at d f).mono (aPv h)
theorem aBN{L:Eb}{p:L.P}{q:L.V}{n:Nat}{φ:Nat->dK}(h:L.fit S=some (p,q))(a:Qt N S st)(c:∀i∈L.fo,∀b,st.heap[i]?=some b->ClO n (φ i) b): Qt N (L.mkG n φ p q) st:=
 aTk (vQ h).2 (aL1 (vQ h).1 a) c
theorem aGN{n:Nat}{φ:Nat->dK}{H:TH}: ∀{l:List Nat},aNn n H l=some (l.map φ)->∀i∈l,H[i]?=some (.fr n (φ i))
 | [],_,i,a=>by cases a
 | j::l,h,i,a=>by
  simp only[aNn] at h;split at h
  .rename_i o c;split at h
   .split at h
    .rename_i e;have e:=Zc e;subst e;split at h
     .rename_i f b;simp only[ZG,Zb,XY] at h;obtain⟨rfl,rfl⟩:=h;rcases ZO.1 a with rfl | a
      .exact c
      .exact aGN b i a
     .cases h
    .cases h
   .cases h
  .cases h
theorem j7{L:Eb}{p:L.P}{q:L.V}{n:Nat}{φ:Nat->dK}(h:L.getF n S=some (L.fo.map φ,p,q))(a:Qt N S st): Qt N (L.mkG n φ p q) st:=by
 unfold Eb.getF at h;split at h
 .rename_i f e;split at h
  .rename_i x g;simp only[Zb,Zj] at h;obtain⟨rfl,rfl⟩:=h;exact aBN g a λi c b d=>a.hp.at (aGN e i c) d
  .cases h
 .cases h
theorem aD4{t:Nat}{v:TV}{B:TT}: ∀{A:TT},dD t (A++B)=some v->dD t A=some v\/dD t B=some v
 | [],h=>.inr h
 | (s,u)::A,h=>by
  simp only[Vh,dD] at h |-;split at h
  .exact .inl h
  .exact aD4 h
theorem A7{kl:List Nat}{n t:Nat}{c:TT}{v:TV}: ∀{l:List Nat},dD t (rsT kl n c l)=some v->t∈l/\∃u,dD t c=some u/\v=IW kl (vR n u)
 | [],h=>by cases h
 | s::l,h=>by
  simp only[rsT] at h;split at h
  .rename_i u d;simp only[dD] at h;split at h
   .rename_i e;have e:=Zc e;subst e;cases h;exact⟨ZN,u,d,rfl⟩
   .obtain⟨a,b⟩:=A7 h;exact⟨ZS _ a,b⟩
  .obtain⟨a,b⟩:=A7 h;exact⟨ZS _ a,b⟩
structure OKo(sp:M4)(p:sp.ins.P)(q:sp.ins.V)(o:Sn sp.ins.P): Prop where
 fo:o.lay.fo=sp.ins.fo
 hm:∀t,HMk sp.kl (sp.ins.mk' p q).hp (o.lay.mk' (o.pr p) t).hp
 ln:∀t,(sp.ins.mk' p q).hp.length<=(o.lay.mk' (o.pr p) t).hp.length
theorem aEt{n i k:Nat}{l:List (den k)}(h:(H.map (iC n))[i]?=some (.lst k l)): H[i]?=some (.lst k l):=by
 rw[Zl,Zq] at h;obtain⟨o,b,a⟩:=h;cases o<;>simp only[iC] at a<;>first | (cases a;done) | (cases a;exact b) | (split at a<;>cases a)
section
variable {N':Nat}{S1:TS}{st1 st2:St}{sp:M4}{p:sp.ins.P}{q:sp.ins.V}{o:Sn sp.ins.P}{φ:Nat->dK}{u:o.lay.V}
theorem aKl(F:Qt N S1 st1)(E:sp.ins.fit S1=some (p,q))(U:A4 (sp.kl++sp.ins.fo) 0 S1.hp (sp.ins.mk' p q).hp=true)(Y:∀i∈sp.ins.fo,∀b,st1.heap[i]?=some b->b=φ i)(G:OKo sp p q o)(s:Qt N' (o.lay.mkG sp.ins.os.length φ (o.pr p) u) st2): HMk sp.kl S1.hp (rsO sp.kl S1.hp.length S1.hp sp.ins.fo (o.lay.mk' (o.pr p) u).hp)/\Qt N' ⟨(o.lay.mk' (o.pr p) u).tm,rsO sp.kl S1.hp.length S1.hp sp.ins.fo (o.lay.mk' (o.pr p) u).hp⟩ st2:=by
 have m:S1.hp.length=sp.ins.os.length:=j6 (vQ E).1;have I:S1.hp.length=(sp.ins.mk' p q).hp.length:=by
  rw[<-F.hp.len];exact (aL1 (vQ E).1 F).hp.len
 have e:st2.heap.length=(o.lay.mk' (o.pr p) u).hp.length:=by rw[s.hp.len];exact d9
 have L:∀i a,S1.hp[i]?=some a->i<(o.lay.mk' (o.pr p) u).hp.length:=λi a h=>by
  have h1:=(Ze.1 h).1;have h2:=G.ln u;omega
 have O:HMk sp.kl S1.hp (rsO sp.kl S1.hp.length S1.hp sp.ins.fo (o.lay.mk' (o.pr p) u).hp):=by
  intro i k l g n;by_cases f:i∈sp.ins.fo
  .exact⟨k,l,by rw[aAZ n f (L i _ n)];rfl,rfl⟩
  .obtain⟨k',M,Q⟩:=aHs U i k l (by rw[Z0];simp[g,f]) n;obtain⟨Z,V,X,W⟩:=G.hm u i k' M g Q;exact⟨Z,V,by rw[t5 f];exact X,by rw[W];exact aRd (vQ E).1 i k k' l M n Q⟩
 have x:∀i,i∉sp.ins.fo->(o.lay.mkG sp.ins.os.length φ (o.pr p) u).hp[i]?=(o.lay.mk' (o.pr p) u).hp[i]?:=λi g=>aBp (by rw[G.fo];exact g);have v:∀i,i∈sp.ins.fo->i<(o.lay.mk' (o.pr p) u).hp.length->(o.lay.mkG sp.ins.os.length φ (o.pr p) u).hp[i]?=some (.fr sp.ins.os.length (φ i)):=λi g n=>aFx (by rw[G.fo];exact g) n;have D:HM (o.lay.mkG sp.ins.os.length φ (o.pr p) u).hp (rsO sp.kl S1.hp.length S1.hp sp.ins.fo (o.lay.mk' (o.pr p) u).hp):=by
  intro i k l g;have K:i<(o.lay.mk' (o.pr p) u).hp.length:=by rw[<-e,s.hp.len];exact (Ze.1 g).1
  by_cases f:i∈sp.ins.fo
  .rw[v i f K] at g;cases g
  .exact⟨k,l,by rw[t5 f,<-x i f];exact g,rfl⟩
 refine⟨O,Qt.hpM (S:=o.lay.mkG sp.ins.os.length φ (o.pr p) u) s D (bZ.of (by rw[c9];exact e) λj a b H r=>?_)⟩;have A:j<(o.lay.mk' (o.pr p) u).hp.length:=by rw[<-e];exact (Ze.1 r).1
 by_cases f:j∈sp.ins.fo
 .have y:ClO sp.ins.os.length (φ j) b:=s.hp.at (v j f A) r;have C:j<S1.hp.length:=by rw[m];exact (Ze.1 ((vQ E).2 j f)).1
  have J:j<st1.heap.length:=by rw[F.hp.len];exact C
  have z:=Za C;have t:=Za J;rw[aAZ z f A] at H;cases H;have R:=F.hp.at z t;rw[Y j f _ t] at R;rw[<-m] at y;exact aDD (λi k l g n=>O i k l g (aEt n)) (aVX rfl R y)
 .rw[t5 f,<-x j f] at H;exact (s.hp.at H r).mono D
theorem aMn{S:TS}{x:cX}(s:Qt N S st)(I:Qt N S1 st1)(r:S1.hp.length=S.hp.length)(A:∀(i k:Nat) (l:List (den k)),S.hp[i]?=some (.lst k l)->S1.hp[i]?=some (.lst k l))(D:sp.ins.fit S1=some (p,q))(Q:A4 (sp.kl++sp.ins.fo) 0 S1.hp (sp.ins.mk' p q).hp=true)(O:∀i∈sp.ins.fo,∀b,st1.heap[i]?=some b->b=φ i)(L:OKo sp p q o)(V:Qt N (o.lay.mkG sp.ins.os.length φ (o.pr p) u) st2)(K:x≠.ret->∀t∈sp.kt,Kp sp.ins.os.length t st st2): Qt N (aft sp S.tm S1.hp x (o.lay.mk' (o.pr p) u)) st2:=by
 obtain⟨F,n⟩:=aKl I D Q O L V;have h:S1.hp.length=sp.ins.os.length:=j6 (vQ D).1;have f:x≠.ret->Qt N ⟨(o.lay.mk' (o.pr p) u).tm++rsT sp.kl S1.hp.length S.tm sp.kt,rsO sp.kl S1.hp.length S1.hp sp.ins.fo (o.lay.mk' (o.pr p) u).hp⟩ st2:=by
  intro J;refine⟨n.ln,λt v g=>?_,n.hp⟩;rcases aD4 g with g | g
  .exact n.tm t v g
  .obtain⟨M,w,E,rfl⟩:=A7 g;obtain⟨a,G,R⟩:=s.tm t w E;obtain⟨b,y,C⟩:=(K J t M).2 a G;refine⟨b,y,?_⟩;rw[<-h] at C;exact Ot (λi k l H r=>F i k l H (A i k l (aEt r))) (aVW r R C)
 cases x with
 | ret=>exact n
 | normal=>exact f (by intro e;cases e)
 | exit j=>exact f (by intro e;cases e)
end
def IOK[aG](P:Program)(T:List cR)(sp:ISp): Prop:=∀n p q t,sp.s.F n p q=some t->∀φ aw H,aw.length=sp.na->sp.fl<=H.length->Qt aw.length (sp.s.ins.mkG sp.s.ins.os.length φ p q) ⟨aw,H⟩->
 ∃aw' H',eZ P T n sp.fl sp.vi aw H=some (jU aw',H')/\aw'.length=sp.nr/\Ms (λo t=>Qt sp.nr (o.lay.mkG sp.s.ins.os.length φ (o.pr p) t) ⟨aw',H'⟩/\OKo sp.s p q o) sp.s.outs t
theorem aHD: ∀{vs:List TV} {aw:List AV} {i t:Nat} {v:TV},Qc H vs aw->dD t (SW i vs)=some v->∃j a,t=i+j/\aw[j]?=some a/\Qh H v a
 | [],_,i,t,v,_,h=>by cases h
 | u::vs,a::aw,i,t,v,q,h=>by
  simp only[SW,dD] at h;split at h
  .rename_i e;have e:=Zc e;cases h;exact⟨0,a,by omega,rfl,q.1⟩
  .obtain⟨j,b,f,d,c⟩:=aHD q.2 h;exact⟨j+1,b,by omega,by simpa using d,c⟩
theorem aBZ{vs:List TV}{aw:List AV}(b:Qs H A)(q:Qc H vs aw): Qt aw.length ⟨SW 0 vs,H⟩ ⟨aw,A⟩:=by
 refine⟨rfl,λt v f=>?_,b⟩;obtain⟨j,a,e,c,d⟩:=aHD q f;exact⟨a,by rw[e,Z0];exact c,d⟩
theorem aPs{c t:Nat}{b:List AV}{e:aW}(h:Qt c S ⟨b,e⟩)(f:t<c): ∃a,b[t]?=some a/\Qh S.hp (match dD t S.tm with | some v=>v | none=>.undef) a:=by
 cases d:dD t S.tm with
 | some v=>exact h.tm t v d
 | none=>exact⟨b[t]'(by rw[h.ln];exact f),Za _,Qh.u _⟩
theorem aNj{d:Nat}{c:List AV}{o:aW}(h:Qt d S ⟨c,o⟩): Qh S.hp (aQm d S.tm) (jU c):=by
 have q:c.length=d:=h.ln;have f:∀d,Qt d S ⟨c,o⟩->Qh S.hp (.tup ((List.range d).map λj=>match dD j S.tm with | some v=>v | none=>.undef)) (.tup c):=by
  intro d h;refine Qh.mkT (bZ.of (by simp[h.ln]) λj v a p k=>?_);rw[Zl,Zq] at p;obtain⟨n,l,rfl⟩:=p;have e:n=j:=by
   rw[Y2 (by rw[<-h.ln];exact (Ze.1 k).1)] at l;cases l;rfl
  subst e;obtain⟨b,g,i⟩:=aPs h (t:=n) (by rw[<-h.ln];exact (Ze.1 k).1);rw[k] at g;cases g;exact i
 match d,c,h,q with
 | 0,[],h,_=>exact f 0 h
 | 1,[a],h,_=>
  obtain⟨b,g,i⟩:=aPs h (t:=0) (by omega);cases g;exact i
 | m+2,a::b::r,h,_=>exact f _ h
theorem Qw[aG]{fl vi:Nat}{vs:List TV}{aw:List AV}(d:fl<=st.heap.length)(v:Qt N S st)(q:Qc S.hp vs aw): ∀{l:List ISp},(∀sp∈l,IOK P T sp)->Cv n fl vi vs S K l=some r->
 ∃a A tv m,eZ P T n fl vi aw st.heap=some (a,A)/\Qt N m ⟨st.tmps,A⟩/\Qh m.hp tv a/\K tv m=some r
 | [],_,h=>by cases h
 | sp::l,y,h=>by
  have e:Cv n fl vi vs S K l=some r->_:=Qw d v q λsp h=>y sp (ZS _ h);simp only[Cv] at h;split at h
  .exact e h
  .rename_i w;have w:=Zc w;split at h
   .exact e h
   .rename_i e2;have e2:=Zc e2;split at h
    .exact e h
    rename_i k;have k:=Zc k;split at h
    .rename_i p q' x;split at h
     .rename_i j;obtain⟨t,G,g⟩:=aG4 h;have f:=aBZ v.hp q;let φ:Nat->dK:=λi=>(st.heap[i]?).getD default;have z:∀i b,st.heap[i]?=some b->b=φ i:=λi b c=>by show b=(st.heap[i]?).getD default;rw[c];rfl
      obtain⟨H,H',C,L,F⟩:=y sp ZN n p q' t G φ aw st.heap (by rw[q.len];exact k) (by rw[e2];exact d) (aBN x f λi M b c=>by rw[z i b c];exact .r _);obtain⟨o,_,u,⟨J,E⟩,D⟩:=Ms.two F g;obtain⟨I,B⟩:=aKl f x j (λi _ b c=>z i b c) E J;exact⟨_,H',aQm sp.nr (o.lay.mk' (o.pr p) u).tm,⟨aDB sp.kl S.tm,rsO sp.kl S.hp.length S.hp sp.s.ins.fo (o.lay.mk' (o.pr p) u).hp⟩,by rw[<-w,<-e2];exact C,aDA v I B.hp,aNj B,D⟩
     .exact e h
    .exact e h
end
section
variable [dQ]{R:Type}{H H1:TH}{A:aW}{N:Nat}{S:TS}{st:St}{P:Program}{T:List cR}{cf:CF}{op:Hy}{K:TV->TS->Option R}{r:R}{E:XE}{n:Nat}{d:Option Nat}
def aMs[aG](P:Program)(t:TypeId)(e:EqS): Prop:=∀(cf:CF) (fl:Nat) (H:aW) (x y:den e.k) (aw bs:List AV),Qr (jZ e.k x) aw->Qr (jZ e.k y) bs->
 aN P cf fl (.bin .eql t (.tmp 0) (.tmp 1)) [sN (ag e.k) aw,sN (ag e.k) bs] H=some (bv (@decide (x=y) (e.dec x y)),H)/\aN P cf fl (.bin .neq t (.tmp 0) (.tmp 1)) [sN (ag e.k) aw,sN (ag e.k) bs] H=some (bv (!@decide (x=y) (e.dec x y)),H)
def KOK(P:Program)(t:TypeId)(e:aOP): Prop:=aDE (cds e.k)=true/\@M5 (den e.k) e.dec P t (qZ e.k)
def aMp(P:Program)(t:TypeId): Prop:=P.underlying t=some .string/\∀s,aR P (Builtin.len_ #[t] 0 #[.string s])=some (.int .i64 ((s.size:Nat):Int))
def aJw(P:Program)(s d:TypeId)(k:IntKind): Prop:=∀j a,aR P (convert s d (.int j a))=some (.int k (k.wrap a))
def aMb(s bytes:Nat)(z:List Value): bT:=(.seq (.region false [] [⟨(some 2),.mov (.lit bQ),none⟩]) (.nilIf 0 3 4 (.seq (.region false [] [⟨(some 2),.mov (.lit bQ),none⟩]) .ret) (.seq (.region false [] [⟨(some 5),.buildSl true s 0 z [],none⟩,⟨(some 6),.mov (.tmp 0),none⟩,⟨(some 7),.append s bytes (.tmp 5) (.tmp 6),none⟩,⟨(some 2),.mov (.tmp 7),none⟩]) .ret)))
def aPM[aG](T:List cR)(vi k:Nat): Prop:=∃fid bytes z,getF T vi=some ⟨fid,8,[.tmp 2],aMb (cds k).length bytes z⟩/\0<(cds k).length/\bytes<=100000
def POK[aG](T:List cR)(vi:Nat): PSp->Prop
 | .srt k=>aG.prim vi=some (qK (ag k) (cds k).length)
 | .cln k=>aPM T vi k
 | .ord k F=>∃g,aG.prim vi=some (qA g)/\∀fl H id (l:List (den k)) es,fl<=id->H[id]?=some (.blk (cds k).length es)->Ql k l es->l.length<=1000000->
  ∃es',g fl [.ms id l.length 0 l.length] H=some (.tup [],H.set id (.blk (cds k).length es'))/\Ql k (F l) es'/\(F l).length=l.length
 | .ins k=>∃g,aG.prim vi=some (qA g)/\∀fl H id y (i:Nat) es row,fl<=id->(∃id2,id≠id2/\y=.ms id2 1 0 1/\H[id2]?=some (.blk (cds k).length [row]))->H[id]?=some (.blk (cds k).length es)->row.length=(cds k).length->i<=es.length->es.length<=1000000->
  g fl [.ms id es.length 0 es.length,.lit (.int .i64 (i:Nat)),y] H=some (.ms id (es.length+1) 0 (es.length+1),H.set id (.blk (cds k).length (es.take i++row::es.drop i)))
structure M8[aG](P:Program)(T:List cR)(E:XE): Prop where
 cs:∀vi c,E.cs vi=some c->FOK P T vi c
 eq:∀t e,E.eq t=some e->aMs P t e
 km:∀t e,E.km t=some e->KOK P t e
 st:∀t,E.st t=true->aMp P t
 cv:∀s d k,E.cv s d=some k->aJw P s d k
 pr:∀vi p,E.pr vi=some p->POK T vi p
 il:∀sp∈E.il,IOK P T sp
 fo:∀cf,zN cf->zN (Ku cf)
theorem aGA{α β:Type}: ∀(l:List α) (m:List β) (i:Nat) (a:α) (b:β),(l.zip m).set i (a,b)=(l.set i a).zip (m.set i b)
 | [],_,_,_,_=>by simp
 | _::_,[],i,_,_=>by cases i<;>simp
 | x::l,y::m,0,a,b=>rfl
 | x::l,y::m,i+1,a,b=>by simp[aGA l m i a b]
theorem aC9{k:Nat}{x:den k}{row:List AV}(h:Qr (jZ k x) row): Qh H (val k x) (sN (ag k) row):=by
 unfold val sN;cases ag k with
 | true=>exact Qh.mkA h.c
 | false=>
  cases b:jZ k x with
  | nil=>exact Qh.u _
  | cons c r=>
   rw[b] at h;cases row with
   | nil=>exact h.elim
   | cons a r=>exact .p _ _ h.1
theorem aQl{k:Nat}{v:TV}{x:den k}{a:AV}{c:TH}(h:d8 0 c k v=some x)(q:Qh H v a): ∃row,a=sN (ag k) row/\Qr (jZ k x) row:=by
 unfold d8 at h;split at h
 .rename_i b;split at h
  .obtain⟨aw,rfl,q'⟩:=q.inA;exact⟨aw,by rw[b];rfl,kI h q'⟩
  .cases h
 .rename_i b;exact⟨[a],by rw[b];rfl,kI h (aw:=[a]) ⟨q,trivial⟩⟩
theorem i6: ∀{cs:List Cd} {p:RO cs},aDE cs=true->pZ cs p=(kvC cs p).map .lit
 | [],_,_=>rfl
 | c::r,p,h=>by
  cases c<;>first | (cases h;done) | (simp only[aDE] at h;simp only[pZ,kvC,ZG,i6 h];rfl)
theorem aB4: ∀{vs:List Value} {aw:List AV},Qr (vs.map .lit) aw->Fi aw=some vs
 | [],[],_=>rfl
 | v::vs,a::aw,h=>by
  have e:a=.lit v:=by cases h.1;rfl
  subst e;simp only[Fi,aB4 h.2]
theorem aLl{k:Nat}{v:TV}{x:den k}{a:AV}{g:TH}(d:aDE (cds k)=true)(h:d8 0 g k v=some x)(q:Qh H v a): lits a=some (qZ k x):=by
 unfold d8 at h;unfold qZ;split at h
 .rename_i f;split at h
  .obtain⟨aw,rfl,q'⟩:=q.inA;have b:=kI h q';unfold jZ at b;rw[i6 d] at b;simp only[lits,aB4 b,f]
  .cases h
 .rename_i f;have b:=kI h (aw:=[a]) ⟨q,trivial⟩;unfold jZ at b;rw[i6 d] at b;generalize kvC (cds k) (dQ.un k x)=vs at b;match vs,b with
  | [v],b=>
   have e:a=.lit v:=by cases b.1;rfl
   subst e;rfl
theorem aIY{kk b:Nat}{m:List (den kk×den b)}{rows:List (List AV)}(h:rows.length=m.length): (fW b m rows).map (·.1)=(m.map (·.1)).map (qZ kk):=by
 unfold fW;rw[List.map_fst_zip (by simp[h]),Ya];rfl
theorem aHE{kk b:Nat}{m:List (den kk×den b)}{rows:List (List AV)}{i:Nat}{p:den kk×den b}{row:List AV}(c:m[i]?=some p)(d:rows[i]?=some row): (fW b m rows)[i]?=some (qZ kk p.1,sN (ag b) row):=by
 unfold fW;rw[List.getElem?_zip_eq_some];exact⟨by simp[c],by simp[d]⟩
theorem aAu{kt:TypeId}{a:aOP}{c:Nat}{m:List (den a.k×den c)}{rows:List (List AV)}(d:KOK P kt a)(h:rows.length=m.length)(x:den a.k): jW P kt (qZ a.k x) (fW c m rows)=some (m.findIdx? λp=>@decide (p.1=x) (a.dec p.1 x)):=by
 rw[aFM (e2:=(m.map (·.1)).map λx=>(qZ a.k x,AV.undef)) (by rw[aIY h,Ya,Ya,Ya];rfl),@M5.find _ a.dec _ _ _ d.2];congr 1;rw[List.findIdx?_map];rfl
theorem aHr{kk c:Nat}{v:TV}{a:AV}{m:List (den kk×den c)}(n:Qs H A)(q:Qh H v a)(h:aKY H kk v=some ⟨c,m⟩):
 ∃rows,Qm c m rows/\((a=.lit (.map none)/\m=[])\/a=.rmp (fW c m rows)\/∃id,a=.mp id/\v=.mp id/\A[id]?=some (.mp (fW c m rows))/\id<H.length):=by
 unfold aKY at h;split at h
 .split at h
  .rename_i g;cases h;obtain⟨e,i,h⟩:=LD g;subst e;cases i;subst h;obtain⟨rows,d,f⟩:=(q.pu trivial).inM;rcases d with d | d
   .exact⟨rows,f,.inl d⟩
   .exact⟨rows,f,.inr (.inl d)⟩
  .cases h
 .split at h
  .rename_i o k;split at h
   .split at h
    .rename_i g;cases h;obtain⟨e,i,h⟩:=LD g;subst e;cases i;subst h;obtain⟨b,l,rows,rfl,f⟩:=n.get k;exact⟨rows,f,.inr (.inr ⟨_,q.mp1,rfl,l,(Ze.1 k).1⟩)⟩
    .cases h
   .cases h
  .cases h
 .cases h
theorem A6[aG]{kt:TypeId}{z m k:bB}{ok:Bool}(U:M8 P T E)(t:Qt N S st)(h:cS E n d (.lookup kt z m k ok) S K=some r): dG P cf E.fl N (.lookup kt z m k ok) st K r:=by
 simp only[cS] at h;split at h
 .rename_i o L;have A:=U.km kt o L;split at h
  .rename_i g y;have f:=aLl A.1 y (t.get k);split at h
   .rename_i p W;obtain⟨w,x⟩:=p;obtain⟨rows,O,c⟩:=aHr t.hp (t.get m) W;split at h
    .rename_i M Y;have V:Qh S.hp (val w M) (aH st.tmps z):=aSP Y (t.get z);have G:∃a,Qh S.hp (val w ((@bD _ _ o.dec x g).getD M)) a/\aN P cf E.fl (.lookup kt z m k ok) st.tmps st.heap=some (if ok then .tup [a,.lit (.bool (@bD _ _ o.dec x g).isSome)] else a,st.heap):=by
      have q:jW P kt (qZ o.k g) (fW w x rows)=_:=aAu A O.len g;have u:∀e,aR P (Instr.checkKey e 10000 kt (qZ o.k g))=some ():=λe=>@M5.chk _ o.dec _ _ _ A.2 e g;rcases @A1 _ _ o.dec _ g x with⟨j,F⟩ | ⟨i,v,j,F,I⟩
      .refine⟨aH st.tmps z,by rw[j];exact V,?_⟩;rw[F] at q;rcases c with⟨c,B⟩ | c | ⟨id,c,_,s,_⟩
       .subst B;have J:jW P kt (qZ o.k g) []=some none:=q;simp only[aN,f,c,u,J,j];cases ok<;>rfl
       .simp only[aN,f,c,u,q,j];cases ok<;>rfl
       .simp only[aN,f,c,s,u,q,j];cases ok<;>rfl
      .obtain⟨row,Z,X⟩:=O.get I;refine⟨sN (ag w) row,by rw[j];exact aC9 X,?_⟩;rw[F] at q;have he:=aHE I Z;rcases c with⟨c,B⟩ | c | ⟨id,c,_,s,_⟩
       .subst B;simp at I
       .simp only[aN,f,c,u,q,he,j];cases ok<;>rfl
       .simp only[aN,f,c,s,u,q,he,j];cases ok<;>rfl
     obtain⟨a,R,he⟩:=G;split at h
     .obtain⟨b,qb,h⟩:=HD h (Qh.l (H:=S.hp) _);obtain⟨Q,D,h⟩:=HD h R;exact dG.same t (by rw[he];rfl) (Qh.mkT (cs:=[Q,b]) (aw:=[a,_]) ⟨D,qb,trivial⟩) h
     .obtain⟨Q,D,h⟩:=HD h R;exact dG.same t (by rw[he];rfl) D h
    .cases h
   .cases h
  .cases h
 .cases h
theorem aKZ[aG]{kt:TypeId}{m k v:bB}(hE:M8 P T E)(x:Qt N S st)(h:cS E n d (.mapUpd kt m k v) S K=some r): dG P cf E.fl N (.mapUpd kt m k v) st K r:=by
 simp only[cS] at h;split at h
 .rename_i b Q;have B:=hE.km kt b Q;split at h
  .rename_i c J;have y:=aLl B.1 J (x.get k);split at h
   .rename_i id hm;have X:=x.get m;rw[hm] at X;have R:=X.mp1;split at h
    .cases h
    .rename_i j;have j:=Zn j;split at h
     .rename_i p F;obtain⟨C,q⟩:=p;obtain⟨rows,w,u⟩:=aHr x.hp (Qh.mp (H:=S.hp) id) F;split at h
      .rename_i D hv;obtain⟨row,U,e2⟩:=aQl hv (x.get v);rcases u with⟨u,_⟩ | u | ⟨a2,u,_,z,a1⟩
       .cases u
       .cases u
       cases u;have A:jW P kt (qZ b.k c) (fW C q rows)=_:=aAu B w.len c;have W:aR P (Instr.checkKey false 10000 kt (qZ b.k c))=some ():=@M5.chk _ b.dec _ _ _ B.2 false c;have t:Instr.sameBits 10000 (qZ b.k c) (qZ b.k c)=true:=@M5.same _ b.dec _ _ _ B.2 c;have G:∀o:pW,(∀(k:Nat) (l:List (den k)),S.hp[id]?≠some (.lst k l))->HM S.hp (S.hp.set id o):=λo hn=>HM.set λk l e=>absurd e (hn k l);have L:∀(k:Nat) (l:List (den k)),S.hp[id]?≠some (.lst k l):=by
        intro k l e;simp only[aKY,e] at F;cases F
       have f:∀a,aN P cf E.fl (.mapUpd kt m k v) st.tmps st.heap=some (.lit bP,st.heap.set id (.mp (fW C (@gU _ _ b.dec q c D) a)))->Qm C (@gU _ _ b.dec q c D) a->dG P cf E.fl N (.mapUpd kt m k v) st K r:=
        λa he M=>dG.set (o:=.map b.k C (@gU _ _ b.dec q c D)) x he (G _ L) ⟨a,rfl,M⟩ (Qh.l _) h
       have g:=@aDz _ _ b.dec _ c D q;rcases @A1 _ _ b.dec _ c q with⟨g1,O⟩ | ⟨i,v0,g1,O,Y⟩
       .rw[O] at A g;rw[g] at f;refine f (rows++[row]) ?_ (w.app ⟨e2,trivial⟩);simp only[aN,y,R,j,Zy,z,W,A,U];congr 4;unfold fW;rw[YJ,YJ,List.zip_append (by simp[w.len])];rfl
       .rw[O] at A g;rw[g] at f;obtain⟨V,Z,h2⟩:=w.get Y;have he:=aHE Y Z;refine f (rows.set i row) ?_ (bZ.set (l:=q) (m:=rows) w i e2);simp only[aN,y,R,j,Zy,z,W,A,he,t,U];congr 4;unfold fW;rw[XG,XG];exact aGA _ _ _ _ _
      .cases h
     .cases h
   .cases h
  .cases h
 .cases h
end
section
variable [dQ]{R:Type}{H H1:TH}{A:aW}{N:Nat}{S:TS}{st:St}{P:Program}{T:List cR}{cf:CF}{op:Hy}{K:TV->TS->Option R}{r:R}{E:XE}{n:Nat}{d:Option Nat}
theorem aAR{v:TV}{a:AV}{s:ByteArray}(h:aIq v=some s)(q:Qh H v a): a=sv s:=by
 unfold aIq at h
 split at h
 .split at h
  .cases h;exact q.inL
  .cases h
 .cases h
theorem aOA[aG]{x:Option bB}{dv a:Int}(hs:Qt N S st)(h:LE S.tm x dv=some a)(ha:0<=a): (x=none/\a=dv)\/(∃y,x=some y/\gS (aH st.tmps y)=some a.toNat):=by
 unfold LE at h
 split at h
 .cases h;exact .inl ⟨rfl,rfl⟩
 .rename_i y
  have:=xL h (hs.get y)
  exact .inr ⟨y,rfl,by rw[this];simp[gS,ha]⟩
theorem lB[aG]{x:Option bB}{dv a:Int}(hs:Qt N S st)(h:LE S.tm x dv=some a)(ha:0<=a): ∃o,eC st.tmps x=some o/\∀D:Nat,dv=(D:Int)->o.getD D=a.toNat:=by
 rcases aOA hs h ha with⟨rfl,rfl⟩ | ⟨y,rfl,e⟩
 .exact⟨none,rfl,λD hD=>by simp[hD]⟩
 .exact⟨some a.toNat,by simp only[eC,e],λD _=>rfl⟩
theorem aLd[aG]{t:TypeId}{x:bB}(hE:M8 P T E)(hs:Qt N S st)(h:cS E n d (.lenStr t x) S K=some r): dG P cf E.fl N (.lenStr t x) st K r:=by
 simp only[cS] at h
 split at h
 .rename_i ht
  split at h
  .rename_i s hx
   have e:=aAR hx (hs.get x)
   refine dG.same hs ?_ (Qh.l _) h
   simp only[aN,e,(hE.st t ht).2 s]
  .cases h
 .cases h
theorem aJK[aG]{t:TypeId}{x i:bB}(hE:M8 P T E)(hs:Qt N S st)(h:cS E n d (.strIdx t x i) S K=some r): dG P cf E.fl N (.strIdx t x i) st K r:=by
 simp only[cS] at h
 split at h
 .rename_i ht
  split at h
  .rename_i s hx
   have e:=aAR hx (hs.get x)
   split at h
   .rename_i j hj
    have e2:=xL hj (hs.get i)
    obtain⟨v,hv,h⟩:=bG h
    have:=aIr (cf:=cf) (fl:=E.fl) (H:=st.heap) (hE.st t ht).1 hv
    refine dG.same hs ?_ (Qh.l _) h
    simp only[aN,e,e2]
    exact this
   .cases h
  .cases h
 .cases h
theorem aFa[aG]{t:TypeId}{x:bB}{lo hi:Option bB}(hs:Qt N S st)(h:cS E n d (.strSlice t x lo hi) S K=some r): dG P cf E.fl N (.strSlice t x lo hi) st K r:=by
 simp only[cS] at h
 split at h
 .rename_i s hx
  have e:=aAR hx (hs.get x)
  split at h
  .rename_i a ha
   split at h
   .rename_i b hb
    obtain⟨v,hv,h⟩:=bG h
    unfold aTQ at hv
    split at hv
    .rename_i hc
     cases hv
     obtain⟨o1,g1,g2⟩:=lB hs ha hc.1
     obtain⟨o2,g3,g4⟩:=lB hs hb (by omega)
     refine dG.same hs ?_ (Qh.l _) h
     simp only[aN,e,g1,g3]
     rw[g2 0 rfl,g4 s.size rfl,Zu ⟨by omega,hc.2.2⟩]
    .cases hv
   .cases h
  .cases h
 .cases h
theorem aFo[aG]{x:bB}(hs:Qt N S st)(h:cS E n d (.rangeStr x) S K=some r): dG P cf E.fl N (.rangeStr x) st K r:=by
 simp only[cS] at h
 split at h
 .rename_i s hx
  have e:=aAR hx (hs.get x)
  refine dG.add (v:=.it st.heap.length) (o:=.it s 0) (b:=.raw (.stringIter s 0)) hs (by simp only[aN,e]) rfl (by rw[hs.hp.ln];exact .it _) h
 .cases h
theorem aIC[aG]{x:bB}(hs:Qt N S st)(h:cS E n d (.nextStr x) S K=some r): dG P cf E.fl N (.nextStr x) st K r:=by
 have q:=hs.get x
 simp only[cS] at h
 split at h
 .rename_i id hx
  rw[hx] at q
  have e:aH st.tmps x=.it id:=by
   generalize aH st.tmps x=a at q
   cases q with
   | p _ _ q=>cases q
   | it=>rfl
  split at h
  .cases h
  .rename_i hfl
   have hfl:=Zn hfl
   split at h
   .rename_i o ho
    split at h
    .rename_i s p
     obtain⟨b,hb,rfl⟩:=hs.hp.get ho
     rcases H8 h with⟨hc,h⟩ | ⟨hc,h⟩
     .have hc:=Zh hc
      refine dG.set (o:=.it s (p+(Utf8.decode s p).2)) (b:=.raw (.stringIter s (p+(Utf8.decode s p).2))) hs ?_ (HM.set λk l e=>by rw[ho] at e;cases e) rfl (Qh.mkT (cs:=[_,_,_]) (aw:=[_,_,_]) ⟨Qh.l _,Qh.l _,Qh.l _,trivial⟩) h
      simp only[aN,e,hfl,Zy,hb,hc]
     .have hc:=Zk hc
      refine dG.same hs ?_ (Qh.mkT (cs:=[_]) (aw:=[_]) ⟨Qh.l _,trivial⟩) h
      simp only[aN,e,hfl,Zy,hb,hc,Z3]
    .cases h
   .cases h
 .cases h
theorem aR1[aG]{s t:TypeId}{x:bB}(hE:M8 P T E)(hs:Qt N S st)(h:cS E n d (.conv s t x) S K=some r): dG P cf E.fl N (.conv s t x) st K r:=by
 have q:=hs.get x
 simp only[cS] at h
 split at h
 .rename_i k' hk
  split at h
  .rename_i u hx
   rw[hx] at q
   split at h
   .have hc:=hE.cv s t k' hk
    unfold aJw at hc
    refine dG.same hs ?_ (Qh.l _) h
    simp only[aN,q.inL,hc]
   .cases h
  .cases h
 .cases h
theorem aNE[aG](hs:Qt N S st)(h:cS E n d .mkMap S K=some r): dG P cf E.fl N .mkMap st K r:=by
 simp only[cS] at h
 split at h
 .split at h
  .rename_i kk vk _
   exact dG.add (v:=.mp st.heap.length) (o:=.map kk vk []) (b:=.mp []) hs rfl ⟨[],rfl,trivial⟩ (by rw[hs.hp.ln];exact .mp _) h
  .cases h
 .cases h
theorem aQP[aG]{x:bB}(hs:Qt N S st)(h:cS E n d (.lenM x) S K=some r): dG P cf E.fl N (.lenM x) st K r:=by
 have q:=hs.get x
 simp only[cS] at h
 split at h
 .rename_i m hm
  refine dG.same hs ?_ (Qh.l _) h
  generalize cD S.tm x=v at hm q
  generalize hb:aH st.tmps x=a at q
  have hl:∀{kk vk:Nat} {m:List (den kk×den vk)} {rows:List (List AV)},rows.length=m.length->(fW vk m rows).length=m.length:=λh=>by simp[fW,h]
  unfold aPt at hm
  split at hm
  .cases hm
   obtain⟨rows,h1,h2⟩:=(q.pu trivial).inM
   rcases h1 with⟨rfl,rfl⟩ | rfl
   .simp only[aN,hb];rfl
   .simp only[aN,hb,hl h2.len]
  .split at hm
   .rename_i o ho
    split at hm
    .cases hm
     obtain⟨b,hb2,rows,rfl,h2⟩:=hs.hp.get ho
     have e:=q.mp1
     subst e
     simp only[aN,hb,hb2,hl h2.len]
    .cases hm
   .cases hm
  .cases hm
 .cases h
theorem zU[aG]{x:Option bB}(hs:Qt N S st)(h:FK S.tm x=true): eC st.tmps x=some none\/eC st.tmps x=some (some 0):=by
 unfold FK at h
 split at h
 .exact .inl rfl
 .rename_i y
  split at h
  .rename_i m hm
   split at h
   .split at h
    .right
     simp only[eC,xL hm (hs.get y)];rfl
    .cases h
   .cases h
  .cases h
theorem aOr[aG]{s:Nat}{x:bB}{lo hi:Option bB}(hs:Qt N S st)(h:aRz s S.tm S.hp lo hi (cD S.tm x) (λv=>K v S)=some r): dG P cf E.fl N (.slice s x lo hi none) st K r:=by
 have q:=hs.get x
 have g0:eC st.tmps none=some none:=rfl
 have hd:∀{k:Nat} {l:List (den k)} {es:List (List AV)},Ql k l es->(cds k).length=s->lE s es=true:=by
  intro k l es h e
  cases es with
  | nil=>rfl
  | cons a es=>
   cases l with
   | nil=>exact h.elim
   | cons y l=>simp[lE,h.1.len,sJ,e]
 have cut_ok:∀{k:Nat} {l l':List (den k)} {es:List (List AV)} {a b:Int},Ql k l es->cut l a b=some l'->0<=a/\0<=b/\a.toNat<=b.toNat/\b.toNat<=es.length/\Ql k l' ((es.take b.toNat).drop a.toNat):=by
  intro k l l' es a b hq hc
  unfold cut at hc
  split at hc
  .rename_i hb
   cases hc
   exact⟨hb.1,by omega,by omega,by rw[hq.len];omega,(hq.take _).drop _⟩
  .cases hc
 unfold aRz at h
 split at h
 .rename_i k l hx
  rw[hx] at q
  split at h
  .rename_i e
   have e:=Zc e
   split at h
   .rename_i a ha
    split at h
    .rename_i b hb
     obtain⟨l',hl',h⟩:=bG h
     obtain⟨es,h1,h2⟩:=(q.pu trivial).inS
     obtain⟨c1,c2,c3,c4,c5⟩:=cut_ok h2 hl'
     obtain⟨o1,g1,g2⟩:=lB hs ha c1
     obtain⟨o2,g3,g4⟩:=lB hs hb c2
     rcases h1 with⟨hv,rfl⟩ | ⟨f,hv⟩
     .have e1:l=[]:=ZL.1 h2.len.symm
      subst e1
      have e3:=g2 0 rfl
      have e4:=g4 0 rfl
      have z2:b.toNat=0:=by simpa using c4
      have z1:a.toNat=0:=by omega
      have e2:l'=[]:=by
       rw[z1,z2] at c5
       exact ZL.1 (by have:=c5.len;simpa using this.symm)
      subst e2
      refine dG.same hs ?_ (.p _ _ (Qp.mkS (es:=[]) (.inl ⟨rfl,rfl⟩) (show Ql k [] [] from trivial))) h
      simp only[aN,hv,g1,g3]
      simp[bQ,gL,g0,e3,e4,z1,z2]
     .refine dG.same (v:=.sl (f&&b.toNat==es.length) ((es.take b.toNat).drop a.toNat)) hs ?_ (.p _ _ (Qp.mkS (.inr ⟨_,rfl⟩) c5)) h
      simp only[aN,hv,g1,g3,g0,gL]
      rw[g4 es.length (by rw[h2.len]),g2 0 rfl,Zu ⟨c3,c4,hd h2 e⟩]
    .cases h
   .cases h
  .cases h
 .rename_i k l hx
  rw[hx] at q
  split at h
  .rename_i e
   have e:=Zc e
   split at h
   .rename_i a ha
    split at h
    .rename_i b hb
     obtain⟨l',hl',h⟩:=bG h
     obtain⟨es,h1,h2⟩:=(q.pu trivial).inV
     obtain⟨c1,c2,c3,c4,c5⟩:=cut_ok h2 hl'
     obtain⟨o1,g1,g2⟩:=lB hs ha c1
     obtain⟨o2,g3,g4⟩:=lB hs hb c2
     rcases h1 with⟨hv,rfl⟩ | ⟨f,hv⟩ | hv
     .have e1:l=[]:=ZL.1 h2.len.symm
      subst e1
      have e3:=g2 0 rfl
      have e4:=g4 0 rfl
      have z2:b.toNat=0:=by simpa using c4
      have z1:a.toNat=0:=by omega
      have e2:l'=[]:=by
       rw[z1,z2] at c5
       exact ZL.1 (by have:=c5.len;simpa using this.symm)
      subst e2
      refine dG.same hs ?_ (.p _ _ (Qp.mkV (es:=[]) (.inl ⟨rfl,rfl⟩) (show Ql k [] [] from trivial))) h
      simp only[aN,hv,g1,g3]
      simp[bQ,gL,g0,e3,e4,z1,z2]
     .refine dG.same (v:=.sl (f&&b.toNat==es.length) ((es.take b.toNat).drop a.toNat)) hs ?_ (.p _ _ (Qp.mkV (.inr (.inl ⟨_,rfl⟩)) c5)) h
      simp only[aN,hv,g1,g3,g0,gL]
      rw[g4 es.length (by rw[h2.len]),g2 0 rfl,Zu ⟨c3,c4,hd h2 e⟩]
     .refine dG.same (v:=.vw ((es.take b.toNat).drop a.toNat)) hs ?_ (.p _ _ (Qp.mkV (.inr (.inr rfl)) c5)) h
      simp only[aN,hv,g1,g3,g0,gL]
      rw[g4 es.length (by rw[h2.len]),g2 0 rfl,Zu ⟨c3,c4,hd h2 e⟩]
    .cases h
   .cases h
  .cases h
 .rename_i id m hx
  rw[hx] at q
  split at h
  .rename_i o ho
   split at h
   .rename_i k l
    split at h
    .rename_i hk
     simp only[Zd] at hk
     have e:=Zc hk.1
     have e0:0<s:=by simpa [YF] using hk.2
     have hv:=q.mw ho
     obtain⟨es,k1,k2⟩:=hs.hp.lst ho
     rw[e] at k1
     split at h
     .rename_i a ha
      have go:∀{b:Int},LE S.tm hi (((Kh l m).2:Nat):Int)=some b->bnd (sub l (Kh l m) a b) (λw=>K (.ms id (some w)) S)=some r->dG P cf E.fl N (.slice s x lo hi none) st K r:=by
       intro b hb h
       obtain⟨w,hw,h⟩:=bG h
       unfold sub at hw
       split at hw
       .rename_i hc
        cases hw
        obtain⟨o1,g1,g2⟩:=lB hs ha hc.1
        obtain⟨o2,g3,g4⟩:=lB hs hb (by omega)
        refine dG.same hs ?_ (.msn id _ k l ho) h
        simp only[aN,hv,g1,g3,g0,gL,k1]
        rw[g4 _ rfl,g2 0 rfl]
        by_cases hb2:b.toNat<=(Kh l m).2
        .rw[Zu ⟨by omega,hb2,trivial⟩]
        .rw[ZH (λh=>hb2 h.2.1),Zu ⟨by omega,hc.2.2,k2.len,e0,trivial⟩]
       .cases hw
      split at h
      .split at h
       .rename_i b hb;exact go hb h
       .cases h
      .split at h
       .rename_i b hb;exact go hb h
       .cases h
     .cases h
    .cases h
   .cases h
  .cases h
 .rename_i b hx
  rw[hx] at q
  split at h
  .rename_i hz
   simp only[Zd] at hz
   have q0:=q
   cases (q.pu trivial) with
   | emp _ _ h'=>
    rcases zU hs hz.1 with z1 | z1<;>rcases zU hs hz.2 with z2 | z2<;>rcases h' with h' | h' | ⟨hb,h'⟩ <;>
     first
     | (refine dG.same (v:=.lit bQ) hs ?_ (by rw[<-h'];exact q0) h;simp only[aN,h',z1,z2,g0,bQ,gL];simp;done)
     | (refine dG.same (v:=.sl true []) hs ?_ (by rw[<-h'];exact q0) h;simp only[aN,h',z1,z2,g0,gL];simp[lE];done)
     | (refine dG.same (v:=.sl false []) hs ?_ (by rw[<-h'];exact q0) h;simp only[aN,h',z1,z2,g0,gL];simp[lE];done)
  .cases h
 .split at h
  .split at h
   .split at h
    .split at h
     .split at h
      .rename_i hz
       have q:Qh S.hp (.lit (.slice none 0 0)) (aH st.tmps x):=by rw[<-‹cD S.tm x=TV.lit (Value.slice none 0 0)›];exact q
       simp only[Zd] at hz
       have hv:aH st.tmps x=.lit bQ:=q.inL
       rcases zU hs hz.1 with z1 | z1<;>rcases zU hs hz.2 with z2 | z2 <;>
        (refine dG.same (v:=.lit bQ) hs ?_ (by rw[<-hv];exact q) h;simp only[aN,hv,z1,z2,g0,bQ,gL];simp)
      .cases h
     .cases h
    .cases h
   .cases h
  .cases h
 .cases h
theorem aMX[aG]{s:Nat}{x:bB}{lo hi mx:Option bB}(hs:Qt N S st)(h:cS E n d (.slice s x lo hi mx) S K=some r): dG P cf E.fl N (.slice s x lo hi mx) st K r:=by
 simp only[cS] at h
 split at h
 .exact aOr hs h
 .rename_i m
  split at h
  .cases h
  .rename_i y
   have q:=hs.get x
   split at h
   .rename_i id w hx
    rw[hx] at q
    split at h
    .rename_i o ho
     split at h
     .rename_i k l
      split at h
      .rename_i a ha
       split at h
       .rename_i b hb
        split at h
        .rename_i c hc
         obtain⟨_,hg,h⟩:=bG h
         have hcc:=Zh (xN hg)
         obtain⟨o1,g1,g2⟩:=lB hs ha hcc.1
         have e1:eC st.tmps (some y)=some (some b.toNat):=by simp only[eC,xL hb (hs.get y)];simp[gS,show 0<=b by omega]
         have e2:eC st.tmps (some m)=some (some c.toNat):=by simp only[eC,xL hc (hs.get m)];simp[gS,show 0<=c by omega]
         have hv:=q.mw ho
         by_cases hz:a.toNat=b.toNat/\b.toNat=c.toNat
         .refine dG.same (v:=.sl true []) hs ?_ (.u _) h
          simp only[aN,hv,g1,e1,e2,gL]
          rw[g2 0 rfl,Zu ⟨hz.1,hz.2,by omega⟩]
         .refine dG.same (v:=.undef) hs ?_ (.u _) h
          simp only[aN,hv,g1,e1,e2,gL]
          rw[g2 0 rfl,ZH (by omega),Zu (by omega)]
        .cases h
       .cases h
      .cases h
     .cases h
    .cases h
   .rename_i k l hx
    rw[hx] at q
    split at h
    .rename_i hz
     simp only[Zd] at hz
     split at h
     .rename_i e
      have e:=Zc e
      obtain⟨es,h1,h2⟩:=(q.pu trivial).inS
      have hh:lE s es=true:=by
       cases es with
       | nil=>rfl
       | cons a es=>
        cases l with
        | nil=>exact h2.elim
        | cons y l=>simp[lE,h2.1.len,sJ,e]
      have z2:eC st.tmps (some y)=some (some 0):=by
       rcases zU hs hz.2.1 with h | h
       .simp only[eC] at h;split at h<;>cases h
       .exact h
      have z3:eC st.tmps (some m)=some (some 0):=by
       rcases zU hs hz.2.2 with h | h
       .simp only[eC] at h;split at h<;>cases h
       .exact h
      rcases h1 with⟨hv,_⟩ | ⟨f,hv⟩
      .refine dG.same (v:=.lit bQ) hs ?_ (.p _ _ (.emp _ _ (.inl rfl))) h
       rcases zU hs hz.1 with z1 | z1<;>simp[aN,hv,z1,z2,z3,bQ,gL]
      .refine dG.same (v:=.sl true []) hs ?_ (.p _ _ (.emp _ _ (.inr (.inl rfl)))) h
       rcases zU hs hz.1 with z1 | z1<;>simp[aN,hv,z1,z2,z3,gL,hh]
     .cases h
    .cases h
   .cases h
end
end
theorem aQd{α:Type}{c:α->List AV}{cf:CF}{agg:Bool}{s fl id vc off len:Nat}{caps:List AV}{F:α->α->Option Int}{l t:List α}{H:aW}(p:fl<=id)(b:H[id]?=some (.blk s (l.map c)))(g:l.length<=1000000)(B:off+len<=l.length)(A:∀x y z,F x y=some z->Qf cf vc caps agg (Oj H id) (RC H id s (l.map c)) (c x) (c y)=some z)(h:oN F ((l.drop off).take len)=some t):
 sS cf agg s fl [.ms id l.length off len,.fn vc caps] H=some (.tup [],H.set id (.blk s ((aU l off t).map c))):=by
 have a:((l.drop off).take len).length=len:=by rw[ZI,ZW];omega
 generalize u:(l.drop off).take len=W at h a;unfold oN at h;split at h
 .cases h;have C:len=0:=by simpa using a.symm
  subst C;have E:tV (.ms id l.length off 0)=true:=rfl;have D:aU l off []=l:=by simp[aU]
  rw[D];simp only[sS,E,Zb,Zj,Wh];apply Ym;intro i;by_cases n:i=id
  .subst n;rw[b];rw[Z6 (by
    rcases ZJ i H.length with h | h
    .exact h
    .rw[Zz h] at b;cases b)]
  .rw[Zv (Ne.symm n)]
 .rename_i x r;split at h
  .cases h
  rename_i tb o;split at h
  .cases h
  rename_i k;cases h;have v:=aJH (e:=c) (f:=Qf cf vc caps agg (Oj H id) (RC H id s (l.map c))) A o;have w:len=r.length+1:=by rw[<-a];rfl
  subst w;have j:((l.map c).drop off).take (r.length+1)=(x::r).map c:=by rw[<-Wc,<-Wb,u]
  have:=aCK (cf:=cf) (agg:=agg) (off:=off) (m:=r.length) (vc:=vc) (caps:=caps) (tb:=tb) (tot:=l.length) p b (by simp) (by simpa using B) (by simpa using g) (by rw[j];exact v) k;refine this.trans ?_;rw[j];have q:((ixG r.length tb).map (Ew x (x::r))).length=r.length+1:=by rw[ZQ,aB7 k]
  congr 3;refine congrArg (dK.blk s) ?_;unfold aU;rw[q,YJ,YJ,Wb,Wc,Ya,Ye];congr 2;exact ZU λi n=>V3 (by have:=aFF n;simpa using this)
section
open iU (den cds ag)
theorem aIu{α β:Type}{f:α->β}{F:β->β->Option Int}{z:List α}{e:List β}(h:oN F (z.map f)=some e): ∃g,oN (λa b=>F (f a) (f b)) z=some g/\g.map f=e:=by
 cases z with
 | nil=>cases h;exact⟨[],rfl,rfl⟩
 | cons x r=>
  have m:HC F (f x::r.map f)=HC (λa b=>F (f a) (f b)) (x::r):=by
   unfold HC;rw[show f x::r.map f=(x::r).map f from rfl,Ya];congr 1;apply ZU;intro a _;show Vr (((x::r).map f).map _)=_;rw[Ya];rfl
  simp only[ZG,oN,ZQ,m] at h;simp only[oN];split at h
  .cases h
  .rename_i tb j;split at h
   .cases h
   .rename_i k;cases h;refine⟨_,rfl,?_⟩;rw[Ya];apply ZU;intro i c;have c:=aFF c;exact (V3 (d:=x) (d':=f x) (l:=x::r) (by simpa using c)).symm
section
variable [dQ]{R:Type}{H H1:TH}{A:aW}{N:Nat}{S:TS}{st:St}{P:Program}{T:List cR}{cf:CF}{op:Hy}{K:TV->TS->Option R}{r:R}{E:XE}{n:Nat}{d:Option Nat}
theorem aOe{id:Nat}: HMk [id] S.hp (Kz id S).hp:=by
 intro j k l a h;simp only[Kz,uH,mM];exact⟨k,l,aD3 (by rw[Zv (by simpa [WA] using a)];exact h),rfl⟩
theorem j5{id:Nat}(c:Qt N S st)(a:id<S.hp.length)(b:dK): Qt N (Kz id S) ⟨st.tmps,st.heap.set id b⟩:=aDC c rfl (λ_ _ _=>trivial) a
abbrev RR(k:Nat):={p:den k×List AV // Qr (jZ k p.1) p.2}
theorem aGJ{k:Nat}: ∀{l:List (den k)} {es:List (List AV)},Ql k l es->∃z:List (RR k),z.map (λp=>p.1.1)=l/\z.map (λp=>p.1.2)=es
 | [],[],_=>⟨[],rfl,rfl⟩
 | x::l,e::es,h=>by
  obtain⟨z,c,a⟩:=aGJ h.2;exact⟨⟨(x,e),h.1⟩::z,by rw[ZG,c],by rw[ZG,a]⟩
theorem aPk{k:Nat}: ∀(z:List (RR k)),Ql k (z.map λp=>p.1.1) (z.map λp=>p.1.2)
 | []=>trivial
 | p::z=>⟨p.2,aPk z⟩
theorem aAV{k:Nat}{x:den k}{e:List AV}(h:Qr (jZ k x) e): Qh H (val k x) (zR (ag k) e):=by
 have:=aC9 (H:=H) h;unfold zR;unfold sN at this;cases c:ag k with
 | true=>rw[c] at this;exact this
 | false=>
  rw[c] at this;match e,this with
  | [],this=>exact this
  | [a],this=>exact this
  | a::b::r,this=>exact this
theorem aMR{α:Type}{F:α->α->Option Int}{m:Option (Nat×Nat)}{l:List α}{K:List α->Option R}(h:aMS F m l K=some r):
 ∃a,oN F ((l.drop (Kh l m).1).take (Kh l m).2)=some a/\(Kh l m).1+(Kh l m).2<=l.length/\l.length<=1000000/\K (aU l (Kh l m).1 a)=some r/\(aU l (Kh l m).1 a).length=l.length:=by
 cases m with
 | none=>
  obtain⟨_,c,h⟩:=bG h;obtain⟨a,b,h⟩:=bG h;have e:a.length=l.length:=U7 b;have e2:aU l 0 a=a:=by simp[aU,e]
  refine⟨a,?_,by simp[Kh],Zh (xN c),?_,?_⟩
  .simpa [Kh] using b
  .simp only[Kh,e2];exact h
  .simp only[Kh,e2];exact e
 | some w=>
  obtain⟨_,c,h⟩:=bG h;obtain⟨a,b,h⟩:=bG h;have d:=Zh (xN c);refine⟨a,b,d.2,d.1,h,Ii ?_⟩;have:=U7 b;simp only[win,ZI,ZW] at this;simp only[Kh];omega
theorem aMV[aG]{vi k id vc off len:Nat}{caps:List AV}{F:den k->den k->Option Int}{l u:List (den k)}{r t:AV}(o:E.fl<=id)(v:aG.prim vi=some (qK (ag k) (cds k).length))(B:Qt N S st)(D:S.hp[id]?=some (.lst k l))(y:l.length<=1000000)(i:off+len<=l.length)(j:r=.ms id l.length off len)(m:t=.fn vc caps)(A:∀(p q:RR k) (es:List (List AV)) (z:Int),F p.1.1 q.1.1=some z->Qf (eZ P T n) vc caps (ag k) (Oj st.heap id) (RC st.heap id (cds k).length es) p.1.2 q.1.2=some z)(h:oN F ((l.drop off).take len)=some u):
 ∃es',eZ P T (n+1) E.fl vi [r,t] st.heap=some (.tup [],st.heap.set id (.blk (cds k).length es'))/\Ql k (aU l off u) es':=by
 obtain⟨es,x,G⟩:=B.hp.lst D;obtain⟨z,rfl,rfl⟩:=aGJ G;rw[<-Wc,<-Wb] at h;obtain⟨g,C,rfl⟩:=aIu h;subst j;subst m;refine⟨(aU z off g).map λp=>p.1.2,?_,?_⟩
 .rw[eZ,v,ZQ];exact aQd (agg:=ag k) (c:=λ(p:RR k)=>p.1.2) (F:=λ(a b:RR k)=>F a.1.1 b.1.1) o x (by simpa using y) (by simpa using i) (λp q w i=>A p q _ w i) C
 .have:=aPk (aU z off g);have e:(aU z off g).map (λp=>p.1.1)=aU (z.map λp=>p.1.1) off (g.map λp=>p.1.1):=by
   unfold aU;rw[YJ,YJ,Wb,Wc,ZQ]
  rw[e] at this;exact this
theorem aOw[aG]{k id vc:Nat}{c:CSp}{p q:RR k}{es:List (List AV)}{z:Int}(m:FOK P T vc c)(o:Qt N S st)(d:id<S.hp.length)(h:aR5 n c k (Kz id S).hp p.1.1 q.1.1=some z):
 Qf (eZ P T n) vc [] (ag k) (Oj st.heap id) (RC st.heap id (cds k).length es) p.1.2 q.1.2=some z:=by
 unfold aR5 at h;have l:=j5 o d (.mp []);obtain⟨s,a,tv,i,f,g⟩:=I7 (H1:=[]) (K:=i64?) (aw:=[zR (ag k) p.1.2,zR (ag k) q.1.2].map (cK (Oj st.heap id))) m h λp' r b=>aMi r b ⟨aAV p.2,aAV q.2,trivial⟩ l.hp;refine aR4 rfl (aQx i ?_);exact xL g f
theorem aOx[aG]{k id vc:Nat}{caps:List TV}{c:List AV}{p q:RR k}{es:List (List AV)}{z:Int}(e:∀sp∈E.il,IOK P T sp)(g:Qt N S st)(f:id<S.hp.length)(l:Qc S.hp caps c)(d:c≠[])(h:aR6 E n vc id k caps S p.1.1 q.1.1=some z):
 Qf (eZ P T n) vc c (ag k) (Oj st.heap id) (RC st.heap id (cds k).length es) p.1.2 q.1.2=some z:=by
 unfold aR6 at h;have u:=j5 g f (.blk (cds k).length (es++[List.replicate (cds k).length .undef]));have j:(RC st.heap id (cds k).length es).length=S.hp.length:=by simp[RC,g.hp.ln]
 obtain⟨a,o,tv,w,r,x,m,s⟩:=Qw (N:=0) (S:=⟨[],(Kz id S).hp⟩) (st:=⟨[],RC st.heap id (cds k).length es⟩) (aw:=zR (ag k) p.1.2::zR (ag k) q.1.2::c) (by rw[j];exact Zg _) ⟨rfl,λt v h=>(by cases h),u.hp⟩
  (show Qc (Kz id S).hp (val k p.1.1::val k q.1.1::caps.map (IW [id])) _ from⟨aAV p.2,aAV q.2,l.mapL λ_ _ q=>Ot aOe q⟩) e h
 refine aOv d ⟨o,?_⟩;rw[j,r,xL s m]
theorem aB2{fl k:Nat}{v:TV}{p:Nat×List (den k)}(h:aLc fl H k v=some p): v=.ms p.1 none/\fl<=p.1/\H[p.1]?=some (.lst k p.2):=by
 unfold aLc at h;split at h
 .split at h
  .cases h
  .split at h
   .cases h
   .rename_i c;split at h
    .rename_i o d;split at h
     .split at h
      .rename_i f a;obtain⟨e,a⟩:=pS (F:=λk=>List (den k)) a;subst e;subst a;cases h;exact⟨rfl,Zn c,d⟩
      .cases h
     .cases h
    .cases h
 .cases h
theorem aN7{k id:Nat}{v:TV}{z:den k}{a:AV}(m:Qs H A)(q:Qh H v a)(h:aQB H k id v=some z):
 ∃row,(∃id2,id≠id2/\a=.ms id2 1 0 1/\A[id2]?=some (.blk (cds k).length [row]))/\Qr (jZ k z) row:=by
 unfold aQB at h;split at h
 .split at h
  .rename_i p l;split at h
   .cases h
   .rename_i c;obtain⟨id2,i⟩:=p;obtain⟨e,_,g⟩:=aB2 l;rw[e] at q;split at h
    .rename_i r d;cases h;have d:i=[z]:=d;subst d;obtain⟨b,n,f⟩:=m.lst g;obtain⟨row,rfl⟩:∃row,b=[row]:=by
      match b,f with
      | [row],_=>exact⟨row,rfl⟩
     exact⟨row,⟨id2,YE c,q.mw g,n⟩,f.1⟩
    .cases h
  .cases h
 .cases h
theorem aQz[aG]{vi:Nat}{p:PSp}{vs:List TV}{aw:List AV}(G:POK T vi p)(hE:∀vi c,E.cs vi=some c->FOK P T vi c)(a3:∀sp∈E.il,IOK P T sp)(t:Qt N S st)(q:Qc S.hp vs aw)(h:aKv E n p vs S K=some r):
 ∃v L tv D,eZ P T (n+1) E.fl vi aw st.heap=some (v,L)/\Qt N D ⟨st.tmps,L⟩/\Qh D.hp tv v/\K tv D=some r:=by
 unfold aKv at h;split at h
 .rename_i k;split at h
  .rename_i x f;obtain⟨b,J,rfl⟩:∃b J,aw=[b,J]:=by
    match aw,q with
    | [b,J],q=>exact⟨b,J,rfl⟩
   split at h
   .rename_i id m
    .split at h
     .cases h
     .rename_i a;have a:=Zn a;split at h
      .rename_i o d;split at h
       .rename_i k' l;split at h
        .rename_i O C;obtain⟨e,C⟩:=pS (F:=λk=>List (den k)) C;subst e;subst C;have X:=(Ze.1 d).1;have a2:=q.1.mw d;have Q:∀{F:den k'->den k'->Option Int} {vc:Nat} {caps:List AV},J=.fn vc caps->(∀(p q:RR k') (es:List (List AV)) (z:Int),F p.1.1 q.1.1=some z->Qf (eZ P T n) vc caps (ag k') (Oj st.heap id) (RC st.heap id (cds k').length es) p.1.2 q.1.2=some z)->
          aMS F m O (λw=>K (.tup []) (mM S id (.lst k' w)))=some r->
          ∃v L tv D,eZ P T (n+1) E.fl vi [b,J] st.heap=some (v,L)/\Qt N D ⟨st.tmps,L⟩/\Qh D.hp tv v/\K tv D=some r:=by
          intro F vc caps u hF h;obtain⟨w,s,hw,M,h,b2⟩:=aMR h;obtain⟨es',e1,e2⟩:=aMV a G t d M hw a2 u hF s;have V:HM S.hp (S.hp.set id (.lst k' (aU O (Kh O m).1 w))):=HM.set λk2 l2 e=>by
           rw[d] at e;cases e;exact⟨k',_,rfl,b2⟩
          exact⟨_,_,.tup [],mM S id (.lst k' (aU O (Kh O m).1 w)),e1,t.hpM V (t.hp.set V ⟨es',rfl,e2⟩),Qh.mkT (cs:=[]) (aw:=[]) trivial,h⟩
         split at h
         .rename_i vc caps;obtain⟨b1,u,hq⟩:=q.2.1.inF;split at h
          .split at h
           .rename_i c I;cases b1 with
            | cons=>exact hq.elim
            | nil=>exact Q u (λp q es z R=>aOw (hE _ _ I) t X R) h
           .cases h
          .rename_i c0 r0;refine Q u (λp q es z R=>aOx a3 t X hq (λe=>?_) R) h;subst e;exact hq.elim
         .cases h
        .cases h
       .cases h
      .cases h
   .cases h
  .cases h
 .rename_i k F;obtain⟨g,hg,G⟩:=G;split at h
  .rename_i x;obtain⟨b,rfl⟩:∃b,aw=[b]:=by
    match aw,q with
    | [b],q=>exact⟨b,rfl⟩
   split at h
   .rename_i p hx;obtain⟨id,l⟩:=p;obtain⟨rfl,a,d⟩:=aB2 hx;obtain⟨_,M,h⟩:=bG h;obtain⟨es,g1,A⟩:=t.hp.lst d;obtain⟨es',Z,k2,k3⟩:=G E.fl st.heap id l es a g1 A (Zh (xN M));have V:HM S.hp (S.hp.set id (.lst k (F l))):=HM.set λk2 l2 e=>by rw[d] at e;cases e;exact⟨k,_,rfl,k3⟩
    refine⟨_,_,.tup [],mM S id (.lst k (F l)),?_,t.hpM V (t.hp.set V ⟨es',rfl,k2⟩),Qh.mkT (cs:=[]) (aw:=[]) trivial,h⟩;rw[eZ,hg,q.1.mw d];exact Z
   .cases h
  .cases h
 .rename_i k;obtain⟨g,hg,G⟩:=G;split at h
  .rename_i x i y;obtain⟨b,Y,U,rfl⟩:∃b Y U,aw=[b,Y,U]:=by
    match aw,q with
    | [b,Y,U],q=>exact⟨b,Y,U,rfl⟩
   split at h
   .rename_i p hx;obtain⟨id,l⟩:=p;obtain⟨rfl,a,d⟩:=aB2 hx;split at h
    .rename_i j hj;split at h
     .rename_i z R;obtain⟨l',s,h⟩:=bG h;unfold aFG at s;split at s
      .rename_i I;cases s;obtain⟨es,g1,A⟩:=t.hp.lst d;obtain⟨row,hy,B⟩:=aN7 t.hp q.2.2.1 R;have Z:=G E.fl st.heap id U j.toNat es row a hy g1 (by rw[B.len,sJ]) (by rw[A.len];exact I.2.1) (by rw[A.len];exact I.2.2);refine⟨.ms id (es.length+1) 0 (es.length+1),st.heap.set id (.blk (cds k).length (es.take j.toNat++row::es.drop j.toNat)),.ms id none,uH id (mM S id (.lst k (l.take j.toNat++z::l.drop j.toNat))),?_,aHx t d λH=>⟨_,rfl,(A.take _).app ⟨B,A.drop _⟩⟩,?_,h⟩
       .rw[eZ,hg,q.1.mw d,xL hj q.2.1];have e:((j.toNat:Nat):Int)=j:=Wa I.1;rw[e] at Z;simp only[Kh];have g0:l.length=es.length:=A.len.symm;rw[g0];exact Z
       .have:=Qh.ms (H:=(uH id (mM S id (.lst k (l.take j.toNat++z::l.drop j.toNat)))).hp) id k (l.take j.toNat++z::l.drop j.toNat) (by simp[uH,mM,Zl,(Ze.1 d).1,Vx]);have M:(l.take j.toNat++z::l.drop j.toNat).length=es.length+1:=by
         have g0:es.length=l.length:=A.len;have c2:j.toNat<=l.length:=I.2.1;simp only[Zi,ZI,Yc,ZW];omega
        rw[M] at this;exact this
      .cases s
     .cases h
    .cases h
   .cases h
  .cases h
 .cases h
end
section
variable [dQ]{R:Type}{H H1:TH}{A:aW}{N:Nat}{S:TS}{st:St}{P:Program}{T:List cR}{cf:CF}{op:Hy}{K:TV->TS->Option R}{r:R}{E:XE}{n:Nat}{d:Option Nat}
theorem aEw[aG]{vi:Nat}{vs:List TV}{aw:List AV}(d:M8 P T E)(c:Qt N S st)(q:Qc S.hp vs aw)(h:(match Nat.ble E.fl S.hp.length with | true=>Cv n E.fl vi vs S K E.il | false=>none)=some r):
 ∃v b tv a,eZ P T n E.fl vi aw st.heap=some (v,b)/\Qt N a ⟨st.tmps,b⟩/\Qh a.hp tv v/\K tv a=some r:=by
 split at h
 .rename_i e;exact Qw (by rw[c.hp.ln];exact Zn e) c q d.il h
 .cases h
theorem aRC[aG]{pu:Bool}{vi:Nat}{f:List bB}(b:M8 P T E)(a:Qt N S st)(h:cS E n d (.call pu vi f) S K=some r): dG P (eZ P T n) E.fl N (.call pu vi f) st K r:=by
 simp only[cS] at h;split at h
 .split at h
  .rename_i c l;obtain⟨v,tv,j,o,i⟩:=aPD (b.cs vi c l) a h;exact dG.same a j o i
  .cases h
 .split at h
  .rename_i p g;obtain⟨m,k,h⟩:=bG h;have e:=aKw k;subst e;exact aQz (b.pr vi p g) b.cs b.il a (D4 a f) h
  .exact aEw b a (D4 a f) h
theorem aNC{v:TV}{a:AV}(q:Qh H v a): Qh H (aQE v) (IP a):=by
 cases v with
 | agg cs=>
  obtain⟨aw,rfl,d⟩:=q.inA;exact Qh.mkA (d.map λc b q=>by
   cases c with
   | agg cs=>obtain⟨aw,rfl,_⟩:=q.inA;exact q
   | _=>exact aBv q (λcs e=>by cases e))
 | undef=>exact Qh.u _
 | _=>
  have:=aBv q (λcs e=>by cases e);cases a with
  | agg=>
   cases q with
   | p _ _ q=>cases q<;>simp_all
  | _=>exact this
theorem aQo{v:TV}{a:AV}(q:Qh H v a)(h:aLr v=true): qV a=false:=by
 cases v with
 | ptr=>rw[q.ptr1];rfl
 | pel=>obtain⟨_,_,_,_,_,e⟩:=q.pel1;rw[e];rfl
 | ms id m=>
  cases q with
  | p _ _ q=>cases q
  | ms=>rfl
  | msn=>rfl
 | mp=>rw[q.mp1];rfl
 | rs=>rw[q.rs1];rfl
 | rel=>rw[q.rel1];rfl
 | _=>cases h
theorem Oi: ∀{vs:List TV} {aw:List AV},Qc H vs aw->vs.any aLr=true->gF aw=false
 | [],_,_,h=>by cases h
 | v::vs,a::aw,q,h=>by
  simp only[List.any_cons,YW] at h;simp only[gF];rcases h with h | h
  .rw[aQo q.1 h]
  .cases qV a with
   | true=>exact Oi q.2 h
   | false=>rfl
theorem aO5[aG]{pu:Bool}{x:bB}{m:List bB}(z:M8 P T E)(b:Qt N S st)(h:cS E n d (.callv pu x m) S K=some r): dG P (eZ P T n) E.fl N (.callv pu x m) st K r:=by
 have q:=b.get x;simp only[cS] at h;split at h
 .rename_i vi caps G;rw[G] at q;obtain⟨j,o,y⟩:=q.inF;split at h
  .split at h
   .split at h
    .rename_i c D;cases j with
     | cons=>exact y.elim
     | nil=>
      obtain⟨v,tv,i,s,t⟩:=aPD (z.cs vi c D) b h;refine dG.same b ?_ s t;simp only[aN,o,Xz];exact i
    .cases h
   .rename_i c0 I;unfold aPC at h;split at h
    .rename_i A;have w:=(D4 b m).app y;obtain⟨a,C,tv,B,i,s,t,g⟩:=Qw (aw:=(m.map (aH st.tmps)++j).map IP) (by rw[b.hp.ln];exact Zg _) b (w.map λ_ _ q=>aNC q) z.il h;split at g
     .rename_i u;split at g
      .cases g
      .rename_i F;have e:=t.inL;subst e;refine dG.same (v:=.lit u) b ?_ (Qh.l _) g;simp only[aN,o,Cw,Oi w A];rw[b.hp.ln,i];cases u<;>first | rfl | exact absurd rfl (F _ _ _)
     .rename_i k l;obtain⟨es,H,e2⟩:=(t.pu trivial).inS;refine dG.same (v:=.sl false es) b ?_ (.p _ _ (Qp.mkS (.inr ⟨_,rfl⟩) e2)) g;simp only[aN,o,Cw,Oi w A];rw[b.hp.ln,i];rcases H with⟨rfl,rfl⟩ | ⟨f,rfl⟩<;>rfl
     .cases g
    .cases h
  .obtain⟨v,C,tv,B,i,s⟩:=aEw z b ((D4 b m).app y) h;exact⟨v,C,tv,B,by simp only[aN,o];exact i,s⟩
 .cases h
theorem aMm[aG]{z:List Value}{a:List (Nat×Nat)}(s:Qt N S st)(h:cS E n d (.allocC z a) S K=some r): dG P cf E.fl N (.allocC z a) st K r:=by
 simp only[cS] at h;split at h
 .rename_i d';split at h
  .rename_i t;have p:∀{a:List (Nat×Nat)},aNA E d' a=true->∀c∈a,(cds (kdL E d' c.1)).length=c.2:=by
    intro a;induction a with
    | nil=>intro _ c x;cases x
    | cons c a j=>
     intro h c' m;simp only[aNA] at h;split at h
     .rename_i e;rcases ZO.1 m with rfl | m
      .exact Zc e
      .exact j h c' m
     .cases h
   let H1:TH:=S.hp++a.map λc=>pW.lst (kdL E d' c.1) [];let g:TH:=H1++[.box (FA S.hp.length (z.map .lit) a)];have o:HM S.hp g:=λi k l u=>⟨k,l,by
    have:=(Ze.1 u).1;rw[Zp (by simp[H1];omega),Zp this];exact u,rfl⟩
   have B:bZ (Qo g) (a.map λc=>pW.lst (kdL E d' c.1) []) (a.map λc=>dK.blk c.2 []):=by
    have:=p t;clear h t;generalize g=g at *;clear o;induction a with
    | nil=>trivial
    | cons c a j=>exact⟨⟨[],by rw[this c ZN],trivial⟩,j λc' h=>this c' (ZS _ h)⟩
   have A:∀(b f:List (Nat×Nat)) (cs:List TV) (aw:List AV),a=b++f->Qc g cs aw->Qc g (FA (S.hp.length+b.length) cs f) (nY (S.hp.length+b.length) aw f):=by
    intro b f;induction f generalizing b with
    | nil=>intro cs aw _ q;exact q
    | cons c f j=>
     intro cs aw e q;have w:Qh g (.ms (S.hp.length+b.length) none) (.ms (S.hp.length+b.length) 0 0 0):=by
      refine .ms _ (kdL E d' c.1) [] ?_;rw[Zp (by simp[H1,e]),ZX (ZZ _ _),Y4,e];simp
     have:=j (b++[c]) (cs.set c.1 (.ms (S.hp.length+b.length) none)) (aw.set c.1 (.ms (S.hp.length+b.length) 0 0 0)) (by rw[e];simp) (q.set c.1 w);rw[Zi,Yd] at this;exact this
   have v:=A [] a (z.map .lit) (z.map .lit) rfl (Qc.lits z);have C:(FA S.hp.length (z.map .lit) a).length=z.length:=by
    have:∀(a:List (Nat×Nat)) (n:Nat) (cs:List TV),(FA n cs a).length=cs.length:=by
     intro a;induction a with
     | nil=>intro n cs;rfl
     | cons c a j=>intro n cs;simp[FA,j]
    rw[this];simp
   have e2:st.heap.length=S.hp.length:=s.hp.ln;refine⟨.ptr (st.heap.length+a.length) 1 0 0,_,.ptr (S.hp.length+a.length) 0,⟨S.tm,g⟩,rfl,s.hpM o ?_,by rw[e2];exact .ptr _ _,h⟩;refine bZ.app (bZ.app (s.hp.imp λ_ _ h=>h.mono o) B) ⟨⟨nY st.heap.length (z.map .lit) a,by rw[C],by rw[e2];exact v⟩,trivial⟩
  .cases h
 .cases h
theorem TA{α:Type}{s:Nat}: ∀(n:Nat) {l:List α},l.length=n*s->(pR s n l).flatten=l/\(pR s n l).length=n/\∀e∈pR s n l,e.length=s
 | 0,l,h=>by
  rw[YS] at h;have:=ZL.1 h;subst this;exact⟨rfl,rfl,λe h=>by cases h⟩
 | n+1,l,h=>by
  rw[XC] at h;obtain⟨a,b,c⟩:=TA (s:=s) n (l:=l.drop s) (by rw[ZW];omega);refine⟨by simp only[pR,Ys,a,YV],by simp[pR,b],λe he=>?_⟩;simp only[pR] at he;rcases ZO.1 he with rfl | he
  .rw[ZI];omega
  .exact c e he
theorem aI0{k:Nat}: ∀{cs:List (List TV)} {l:List (den k)} {es:List (List AV)},NN [] k cs=some l->bZ (Qc H) cs es->Ql k l es:=aBg
theorem aOc[aG]{agg:Bool}{s m:Nat}{x i:bB}(g:Qt N S st)(h:cS E n d (.index agg s m x i) S K=some r): dG P cf E.fl N (.index agg s m x i) st K r:=by
 have q:=g.get x;simp only[cS] at h;split at h
 .rename_i cs I;rw[I] at q;obtain⟨aw,G,y⟩:=q.inA;split at h
  .cases h
  .rename_i f;have f:=Zc f;split at h
   .cases h
   .rename_i j D;split at h
    .cases h
    .split at h
     .split at h
      .rename_i H;split at h
       .rename_i a;have a:H<m:=by simpa [YF] using a
        obtain⟨U,tv,v,b,T,M⟩:=z5 h y;have z:gS (aH st.tmps i)=some H:=sY D (g.get i) (Wf _);refine dG.same g ?_ T M;simp only[aN,z,a,Zy,G];rw[Zu U];cases agg with
        | true=>simp only[Zy,Zb] at b |-;rw[b]
        | false=>
         simp only[Zm,Z3] at b |-;split at b
         .rename_i V;rw[V];cases b;rfl
         .cases b
       .cases h
      .cases h
     .rename_i k _;split at h
      .split at h
       .rename_i F;have F:=Zc F;split at h
        .rename_i l B;obtain⟨X,C,h⟩:=bG h;obtain⟨R,L,W⟩:=pH C;have o:aw.length=m*s:=by rw[y.len,f]
         obtain⟨Z,J,Y⟩:=TA m o;have t:bZ (Qc S.hp) (pR s m cs) (pR s m aw):=by
          have:∀(m:Nat) (cs:List TV) (aw:List AV),Qc S.hp cs aw->bZ (Qc S.hp) (pR s m cs) (pR s m aw):=by
           intro m;induction m with
           | zero=>intro _ _ _;trivial
           | succ m u=>intro cs aw q;exact⟨q.take s,u _ _ (q.drop s)⟩
          exact this m cs aw y
         have e:Ql k l (pR s m aw):=aI0 B t;obtain⟨row,Q,O⟩:=e.get L;refine dG.same (v:=.agg row) g ?_ (Qh.mkA O.c) h;have z:gS (aH st.tmps i)=some j.toNat:=sY D (g.get i) R;have a:j.toNat<m:=by rw[<-J,e.len];exact W
         have A:∀(m:Nat) (aw:List AV) (j:Nat) (row:List AV),aw.length=m*s->(pR s m aw)[j]?=some row->(aw.drop (j*s)).take s=row/\j*s+s<=aw.length:=by
          intro m;induction m with
          | zero=>intro aw j row _ h;simp[pR] at h
          | succ m u=>
           intro aw j row f h;rw[XC] at f;cases j with
           | zero=>simp only[pR,Zt,Zb] at h;rw[YS];exact⟨h,by omega⟩
           | succ j=>
            simp only[pR,ZM] at h;obtain⟨p,w⟩:=u (aw.drop s) j row (by rw[ZW];omega) h;rw[XJ] at p;rw[ZW] at w;rw[XC,Wj (j*s) s];exact⟨p,by omega⟩
         obtain⟨p,w⟩:=A m aw j.toNat row o Q;simp only[aN,z,a,Zy,G];rw[Zu w,p]
        .cases h
       .cases h
      .cases h
 .cases h
theorem aIx{A:aW}{a:AV}{w:Value}(h:eA A 0 a=.lit w): a=.lit w:=by
 cases a with
 | lit v=>
  have h:qW v=.lit w:=h;unfold qW at h;split at h
  .split at h
   .split at h
    .split at h
     .cases h
     .exact h
    .exact h
   .exact h
  .exact h
 | ms id tot off len=>
  simp only[eA,gC,YD,Z3,eW,eD,ZE,Zy] at h;split at h<;>cases h
 | mp id=>
  simp only[eA,gC,YD,Z3,eW,eD,ZE,Zy] at h;split at h<;>cases h
 | ptr=>simp[eA,gC] at h
 | fn vi caps=>cases caps<;>cases h
 | _=>cases h
theorem aQu{w k k':Nat}{u:TV}{x:den k}(b:cds k=[.sl k'])(d:ag k=false)(h:d8 w H k u=some x): ∃y,rdS w H k' u=some y/\val k x=.sl k' y:=by
 unfold d8 at h;rw[d] at h;have h:kJ w H k [u]=some x:=h;unfold kJ at h;split at h
 .rename_i p a;cases h;have c:∀(cs:List Cd) (p:RO cs),cs=[.sl k']->rdL w H cs [u]=some p->∃y,rdS w H k' u=some y/\hdT (pZ cs p)=.sl k' y:=by
   intro cs p e a;subst e;simp only[rdL] at a;split at a
   .rename_i y f;cases a;exact⟨y,f,rfl⟩
   .cases a
  obtain⟨y,j,i⟩:=c _ p b a;refine⟨y,j,?_⟩;unfold val jZ;rw[d,dQ.un_pk];exact i
 .cases h
theorem aLn{s k':Nat}{u:TV}{y:List (den k')}{p:AV}{x:List TV}{i:aW}{H':TH}(g:(cds k').length=s)(C:Qs H' i)(q:Qh H' u p)(a:SL H' (u::x)=true)(b:rdS 2 H' k' u=some y): ∃rows,SA s i p=some rows/\Ql k' y rows:=by
 cases u with
 | ms id m=>
  simp only[SL] at a;split at a
  .rename_i o h;split at a
   .rename_i G f;have j:Kh f m=(0,f.length):=by
     cases m with
     | none=>rfl
     | some w=>exact Zh a
    have d:win f m=f:=by rw[aAG,j];simp
    have b:AK (λk=>List (den k)) (k':=k') f=some y:=by
     simp only[rdS,h,d] at b;exact b
    obtain⟨e,b⟩:=pS (F:=λk=>List (den k)) b;subst e;subst b;obtain⟨es,A,l⟩:=C.lst h;have n:=q.mw h;rw[j] at n;subst n;refine⟨es.map λe=>e.map (eD (i.set id (.blk s (es++[List.replicate s .undef]))) 0 eW),?_,(Ff _ 0 _).ls l⟩;have r:Nat.beq y.length y.length=true:=Y8 _;have B:Nat.beq es.length y.length=true:=by rw[l.len];exact r
    have t:Nat.beq s s=true:=Y8 _;have z:Nat.beq 0 0=true:=rfl;simp only[SA,r,z,A,B,g,t,Xw]
   .cases a
  .cases a
 | lit v=>
  simp only[SL] at a;split at a
  .split at a
   .split at a
    .split at a
     .rw[q.inL];cases b;exact⟨[],rfl,trivial⟩
     .cases a
    .cases a
   .cases a
  .cases a
 | _=>cases a
theorem aD5: ∀{vs:List TV} {aw:List AV} {b:aW},(vs.all λv=>match v with | .lit _=>true | _=>false)=true->Qc H vs (aw.map (eA b 0))->aw.all aLs=true/\Qc H vs aw
 | [],[],_,_,_=>⟨rfl,trivial⟩
 | v::vs,a::aw,b,h,q=>by
  simp only[XR,Zd] at h;obtain⟨d,e⟩:=aD5 h.2 q.2;cases v with
  | lit w=>
   have:=aIx q.1.inL;subst this;exact⟨by simp[aLs,d],Qh.l _,e⟩
  | _=>cases h.1
theorem aPU{k k':Nat}(a:cds k=[.sl k'])(b:ag k=false)(x:den k): ∃y,val k x=.sl k' y:=by
 unfold val;rw[b];unfold jZ;generalize dQ.un k x=p;revert p;rw[a];exact λp=>⟨p.1,rfl⟩
def kpB(kp:Bool)(kr:List Nat): Bool:=match kp with
 | false=>true
 | true=>match kr with
  | k::_=>match cds k with
   | [c]=>match c with
    | .sl _=>!(ag k)
    | _=>false
   | _=>false
  | []=>false
theorem FOK.of0[aG]{P:Program}{T:List cR}{vi:Nat}{c:CSp}(h:aU5 P T vi c)(b:kpB c.kp c.kr=true): FOK P T vi c:=by
 intro n p r i aw F;obtain⟨o,d,H,H',I,t,g,a,l⟩:=h n p r i aw F;refine⟨d,H,I,λH1=>(aSJ a g t).1,(aSJ (H1:=[]) a g t).2,λe=>?_⟩;have l:=l e;rw[e] at b;intro J y s f;clear h e i;revert r a f;generalize c.kr=A at b;intro r a f;cases A with
 | nil=>cases b
 | cons k j=>
  simp only[kpB] at b;split at b
  .rename_i c' q;split at b
   .rename_i k';have b:ag k=false:=by simpa using b
    cases o with
    | nil=>cases l
    | cons u o=>
    match d,g with
    | C::d,g=>
    replace a:Do 2 H' (.v k::j.map .v) (u::o)=some r:=a;simp only[Do] at a;split at a
    .rename_i w m;split at a
     .rename_i p' G;cases a;obtain⟨z,E,D⟩:=aQu q b m;obtain⟨rows,i,x⟩:=aLn rfl t g.1 l E;have B:Nb (.v k::j.map .v) (fM.cs w p')=.sl k' z::Nb (j.map .v) p':=by
       simp only[Nb,fM.hc,fM.tc];congr 1
      have f:Nb (.v k::j.map .v) (fM.cs w p')=.sl J y::s:=f;rw[B] at f;cases f;exact⟨C,d,rows,rfl,i,x⟩
     .cases a
    .cases a
   .cases b
  .cases b
theorem aNV[aG]{s vi k k':Nat}{j:List Nat}{M:List bB}{z:List Nat}{x:fM (z.map .v)}{c:List AV}{p:aW}(Q:Qt N S st)(C:z=k::j)(F:cds k=[.sl k'])(B:(cds k').length=s)(hg:ag k=false)(D:eZ P T n 0 vi ((M.map (aH st.tmps)).map (cK st.heap)) []=some (jU c,p))(f:∀H1:TH,Qc H1 (Nb (z.map .v) x) (c.map (eA p 0)))(O:∀a∈c,∀l,a≠.tup l)(U:aUw p (Nb (z.map .v) x) c)(h:(match Nb (z.map .v) x with | [v]=>B2 v S K | vs=>B2 (.tup vs) S K)=some r): dG P (eZ P T n) E.fl N (.callT s vi M) st K r:=by
 subst C;have f:=f S.hp;have L:Nb (.v k::j.map .v) x=val k (fM.hd x)::Nb (j.map .v) (fM.tl x):=rfl;obtain⟨y,Z⟩:=aPU F hg (fM.hd x);have H:Nb (.v k::j.map .v) x=.sl k' y::Nb (j.map .v) (fM.tl x):=by rw[L,Z]
 obtain⟨i,w,rows,e0,G,R⟩:=U k' y _ H;subst e0;rw[B] at G;generalize a2:fM.tl x=p' at H;have f:Qc S.hp (Nb (.v k::j.map .v) x) ((i::w).map (eA p 0)):=f;have h:(match Nb (.v k::j.map .v) x with | [v]=>B2 v S K | vs=>B2 (.tup vs) S K)=some r:=h;rw[H] at f h;revert f h O D;generalize w=c;intro D O f h;have A:∀{tv:TV} {rv:AV} (rest:AV->AV) ,Vy s st.heap (some (jU (i::c),p))=some (rest (.ms st.heap.length rows.length 0 rows.length),st.heap++[.blk s rows])->(∀H1:TH,HM S.hp H1->Qh H1 (.ms S.hp.length none) (.ms st.heap.length rows.length 0 rows.length)->Qh H1 tv (rest (.ms st.heap.length rows.length 0 rows.length)))->K tv (Ra S (.lst k' y))=some r->dG P (eZ P T n) E.fl N (.callT s vi M) st K r:=by
  intro tv rv rest V I h;refine dG.add (o:=.lst k' y) (b:=.blk s rows) Q ?_ ⟨rows,by rw[B],R⟩ (I _ HM.add ?_) h
  .simp only[aN,D];exact V
  .rw[Q.hp.ln,R.len];exact .ms _ k' y (by simp)
 cases g:Nb (j.map .v) p' with
 | nil=>
  rw[g] at f h;have e:c=[]:=by
   cases c with
   | nil=>rfl
   | cons=>exact f.2.elim
  subst e;have ha:∀l,i≠.tup l:=O i ZN;refine A (rv:=i) (λa=>a) ?_ (λH1 _ q=>q) h;show Vy s st.heap (some (i,p))=_;cases i with
  | tup l=>exact (ha l rfl).elim
  | _=>simp only[Vy,G]
 | cons v vs=>
  rw[g] at f h;have h:B2 (.tup (.sl k' y::v::vs)) S K=some r:=h;unfold B2 at h;simp only at h;split at h
  .rename_i u;obtain⟨t,d,rfl⟩:∃t d,c=t::d:=by
    cases c with
    | nil=>exact f.2.elim
    | cons t d=>exact⟨t,d,rfl⟩
   obtain⟨Y,W⟩:=aD5 (vs:=v::vs) (aw:=t::d) u f.2;refine A (rv:=i) (λa=>.tup (a::t::d)) ?_ (λH1 m q=>Qh.mkT (cs:=.ms S.hp.length none::v::vs) ⟨q,W.imp λ_ _ h=>h.mono m⟩) h;show Vy s st.heap (some (.tup (i::t::d),p))=_;simp only[Vy,Y,G]
  .cases h
theorem aO6[aG]{s vi:Nat}{l:List bB}(t:M8 P T E)(i:Qt N S st)(h:cS E n d (.callT s vi l) S K=some r): dG P (eZ P T n) E.fl N (.callT s vi l) st K r:=by
 simp only[cS] at h;split at h
 .rename_i c w;have D:=t.cs vi c w;split at h
  .rename_i j;split at h
   .rename_i k F f;split at h
    .rename_i e g;split at h
     .rename_i k';split at h
      .rename_i a;simp only[Zd,YG] at a;have b:=Zc a.1;have y:=a.2;unfold Qv at h;split at h
       .rename_i p u;split at h
        .cases h
        .rename_i B;obtain⟨x,A,h⟩:=bG h;have C:=aMi (H1:=[]) B u (D4 i l) i.hp;obtain⟨z,G,o,q,v,m⟩:=D n p x A _ C;exact aNV i f g b y o q v (m j) (by rw[aG7] at h;exact h)
       .cases h
      .cases h
     .cases h
    .cases h
   .cases h
  .cases h
 .cases h
end
section
variable [dQ]{R:Type}{H H1:TH}{A:aW}{N:Nat}{S:TS}{st:St}{P:Program}{T:List cR}{cf:CF}{op:Hy}{K:TV->TS->Option R}{r:R}{E:XE}{n:Nat}{d:Option Nat}
theorem aMa[aG]{vi l s bytes:Nat}{z:List Value}{G:aW}(h:getF T vi=some ⟨l,8,[.tmp 2],aMb s bytes z⟩)(m:0<s):
 eZ P T (n+1) G.length vi [.lit bQ] G=some (.lit bQ,G)/\(∀a,(∃f,a=.sl f [])\/a=.vw []->eZ P T (n+1) G.length vi [a] G=some (.sl false [],G)) /\
 ∀a e es,((∃f,a=.sl f (e::es))\/a=.vw (e::es))->fD s (e::es)=true->kZ (e::es).length bytes=true->
  eZ P T (n+1) G.length vi [a] G=some (.ms G.length (e::es).length 0 (e::es).length,G++[.blk s (e::es)]):=by
 have d:Nat.blt 3 8=true:=rfl;have c:Nat.blt 4 8=true:=rfl;have i:Nat.beq G.length G.length=true:=Y8 _;refine⟨?_,?_,?_⟩
 .rw[F2 _ h];simp[d,c,aMb,eP,Lf,iX,cT,eV,aN,aH,UZ,Ok,iF,Pp,aFN,lF,Pv,jU,Ry,bQ,bP]
 .intro a j;rw[F2 _ h];have b:cQ G.length G s bytes (.sl true []) []=some (.sl true [],G):=by simp[cQ,fD,m,kZ]
  rcases j with⟨f,rfl⟩ | rfl <;>
   simp[d,c,i,aMb,eP,Lf,iX,cT,eV,aN,aH,UZ,Ok,iF,Pp,rd,b,aFN,lF,Pv,jU,aDG,Vz,aHy,aLD,bQ,bP]
 .intro a e es j p o;rw[F2 _ h];have b:cQ G.length G s bytes (.sl true []) (e::es)=some (.ms G.length (e::es).length 0 (e::es).length,G++[.blk s (e::es)]):=by
   have k:fD s ([]:List (List AV))=true:=rfl;unfold cQ;have g:kZ (([]:List (List AV)).length+(e::es).length) bytes=true:=by simpa using o
   rw[Zu ⟨p,m,o⟩];simp only[k,g,Y3,Zy];simp
  generalize q:(e::es).length=L at b;rcases j with⟨f,rfl⟩ | rfl <;>
   simp[d,c,aMb,eP,Lf,iX,cT,eV,aN,aH,UZ,Ok,iF,Pp,rd,b,aFN,lF,Pv,jU,bQ,bP]
end
section
variable [dQ]{R:Type}{H H1:TH}{A:aW}{N:Nat}{S:TS}{st:St}{P:Program}{T:List cR}{cf:CF}{op:Hy}{K:TV->TS->Option R}{r:R}{E:XE}{n:Nat}{d:Option Nat}
theorem Ql.rep{k:Nat}{x:den k}{row:List AV}(h:Qr (jZ k x) row): ∀n,Ql k (List.replicate n x) (List.replicate n row)
 | 0=>trivial
 | n+1=>⟨h,Ql.rep h n⟩
theorem aDa{α:Type}{x:α}{a b:Int}{l:List α}(h:rep x a b=some l): 0<=a/\a<=b/\b<=1000000/\l=List.replicate a.toNat x:=by
 unfold rep at h;split at h
 .rename_i c;cases h;exact⟨c.1,c.2.1,c.2.2,rfl⟩
 .cases h
theorem OV[aG]{x:bB}{a:Int}(b:Qt N S st)(h:i64? (cD S.tm x)=some a)(c:0<=a): gS (aH st.tmps x)=some a.toNat:=by
 rw[xL h (b.get x)];simp[gS,c]
theorem aIE[aG]{s bytes:Nat}{z:List Value}{x y:bB}(f:Qt N S st)(h:cS E n d (.mkSlice s z bytes x y) S K=some r): dG P cf E.fl N (.mkSlice s z bytes x y) st K r:=by
 have j:=f.hp.ln;simp only[cS] at h;split at h
 .rename_i c;simp only[Zd] at c;have A:=Zc c.1;have e2:=Zc c.2.1;have k:=Zn c.2.2;split at h
  .rename_i e u;have i:Qr (jZ _ e) (z.map .lit):=kI (H':=S.hp) u (Qc.lits z);split at h
   .rename_i a m;split at h
    .rename_i b g;obtain⟨l,w,h⟩:=bG h;obtain⟨t,B,C,rfl⟩:=aDa w;have q:=OV f m t;have p:=OV f g (by omega);have:=Xo (show b.toNat<=1000000 by omega) k;refine dG.add (v:=.ms st.heap.length a.toNat 0 a.toNat) (o:=.lst (lT E d) (List.replicate a.toNat e)) (b:=.blk s (List.replicate a.toNat (z.map .lit))) f ?_ ⟨_,by rw[A],Ql.rep i _⟩ ?_ h
     .simp only[aN,q,p];rw[Zu ⟨by omega,by omega,by omega,e2⟩]
     .have:=Qh.ms (H:=S.hp++[.lst (lT E d) (List.replicate a.toNat e)]) S.hp.length (lT E d) (List.replicate a.toNat e) (by simp);rw[YM] at this;rw[j];exact this
    .cases h
   .cases h
  .cases h
 .cases h
theorem aF9{v:TV}{a:AV}(h:SM v=true)(q:Qh H v a): a=.lit bQ\/a=.sl true []:=by
 unfold SM at h;split at h
 .subst h;cases (q.pu trivial) with
  | emp _ _ h=>
   rcases h with h | h | ⟨h,_⟩
   .exact .inl h
   .exact .inr h
   .cases h
 .split at h
  .split at h
   .split at h
    .split at h
     .exact .inl q.inL
     .cases h
    .cases h
   .cases h
  .cases h
 .cases h
theorem aRB[aG]{x:bB}(a:Qt N S st)(h:cS E n d (.capS x) S K=some r): dG P cf E.fl N (.capS x) st K r:=by
 simp only[cS] at h;split at h
 .rename_i b;refine dG.same (v:=.lit (.int .i64 0)) a ?_ (Qh.l _) h;rcases aF9 b (a.get x) with e | e<;>simp only[aN,e,bQ]<;>rfl
 .cases h
theorem aR0[aG]{s:Nat}{x y:bB}(c:Qt N S st)(h:cS E n d (.copy s x y) S K=some r): dG P cf E.fl N (.copy s x y) st K r:=by
 have q:=c.get x;simp only[cS] at h;split at h
 .rename_i id m B;rw[B] at q;split at h
  .rename_i o i;split at h
   .rename_i k l;split at h
    .rename_i ys A;obtain⟨es,D,f⟩:=aFn A (c.get y) c.hp;split at h
     .rename_i e;simp only[Zd] at e;have p:=Zc e.1;have e2:0<s:=by simpa [YF] using e.2.1
      have j:=Zn e.2.2;obtain⟨F,a,h⟩:=bG h;unfold cpy at a;split at a
      .rename_i u;cases a;obtain⟨w,g,t⟩:=c.hp.lst i;rw[p] at g;have C:=q.mw i;refine dG.put (v:=.lit (.int .i64 ((es.length:Nat):Int))) (b:=.blk s (aU w (Kh l m).1 es)) c i (Ii u.2) ?_ ⟨_,by rw[p],t.spl f⟩ (by rw[f.len];exact Qh.l _) h;simp only[aN,D,C,g,f.all p,e2,Y3,Zy];rw[Zu ⟨trivial,t.len,by rw[f.len];exact u.1,j⟩];split
       .rename_i z;have:es=[]:=ZL.1 z;subst this;simp only[AU,NG g];rfl
       .rfl
      .cases a
     .cases h
    .cases h
   .cases h
  .cases h
 .cases h
theorem aO1[aG]{s:Nat}{z:List Value}{x:bB}(f:Qt N S st)(h:cS E n d (.clear s z x) S K=some r): dG P cf E.fl N (.clear s z x) st K r:=by
 have q:=f.get x;have y:Qh S.hp (.tup []) (.tup []):=Qh.mkT (cs:=[]) trivial;simp only[cS] at h;split at h
 .rename_i id m G;rw[G] at q;split at h
  .rename_i o j;split at h
   .rename_i k l;split at h
    .rename_i A H;have g:Qr (jZ _ A) (z.map .lit):=kI (H':=S.hp) H (Qc.lits z);split at h
     .rename_i c;simp only[Zd] at c;have u:=Zc c.1;have e2:0<s:=by simpa [YF] using c.2.1
      have i:=Zn c.2.2.1;have F:=Zc c.2.2.2;obtain⟨J,a,h⟩:=bG h;unfold clr at a;split at a
      .rename_i w;cases a;obtain⟨B,p,t⟩:=f.hp.lst j;rw[u] at p;have I:=q.mw j;refine dG.put (v:=.tup []) (b:=.blk s (aU B (Kh l m).1 (List.replicate (Kh l m).2 (z.map .lit)))) f j (Ii (by rw[YM];exact w)) ?_ ⟨_,by rw[u],t.spl (Ql.rep g _)⟩ (Qh.mkT (cs:=[]) trivial) h;simp only[aN,I,p];rw[Zu ⟨trivial,t.len,w,i,e2,F⟩];split
       .rename_i D;simp only[D,List.replicate_zero,AU,NG p]
       .rfl
      .cases a
     .cases h
    .cases h
   .cases h
  .cases h
 .split at h
  .rename_i C;refine dG.same (v:=.tup []) f ?_ y h;rcases aF9 C q with e | e<;>simp only[aN,e,bQ]
  .cases h
theorem aJm[aG]{s bytes:Nat}{z:List Value}{x m:bB}(f:Qt N S st)(h:cS E n d (.appendZ s bytes z x m) S K=some r): dG P cf E.fl N (.appendZ s bytes z x m) st K r:=by
 have q:=f.get x;have G:=f.hp.ln;simp only[cS] at h;split at h
 .rename_i B;have c:=aF9 B q;split at h
  .rename_i e;simp only[Zd] at e;have w:=Zc e.1;have e2:0<s:=by simpa [YF] using e.2.1
   have A:=Zc e.2.2.1;have t:=Zn e.2.2.2;split at h
   .rename_i g C;have k:Qr (jZ _ g) (z.map .lit):=kI (H':=S.hp) C (Qc.lits z);split at h
    .rename_i a J;obtain⟨l,L,h⟩:=bG h;obtain⟨I,M,Q,rfl⟩:=aDa L;have F:=OV f J I;have O:=Xo (show a.toNat<=1000000 by omega) t;have p:kZ a.toNat bytes=true:=As (by omega) t;have u:fD s (List.replicate a.toNat (z.map AV.lit))=true:=(Ql.rep k a.toNat).all w;have ev:aN P cf E.fl (.appendZ s bytes z x m) st.tmps st.heap=cQ E.fl st.heap s bytes (aH st.tmps x) (List.replicate a.toNat (z.map .lit)):=by
      simp only[aN,F];rw[Zu ⟨A,by omega,by omega⟩]
     rcases H8 h with⟨i,h⟩ | ⟨i,h⟩
     .have D:a.toNat=0:=by simpa using i
      refine dG.same f ?_ q h;rw[ev,D];rcases c with c | c<;>rw[c]<;>simp[cQ,fD,e2,kZ,bQ]
     .have y:a.toNat≠0:=by simpa using i
      refine dG.add (v:=.ms st.heap.length a.toNat 0 a.toNat) (o:=.lst (lT E d) (List.replicate a.toNat g)) (b:=.blk s (List.replicate a.toNat (z.map .lit))) f ?_ ⟨_,by rw[w],Ql.rep k _⟩ ?_ h
      .rw[ev];rcases c with c | c<;>rw[c]
       .simp[cQ,bQ,u,e2,p,y]
       .have j:fD s ([]:List (List AV))=true:=rfl;unfold cQ;simp only[u,e2,p,y,j,Y3,Zy,Z3,Z4,Z0,Xy,YM]
      .have:=Qh.ms (H:=S.hp++[.lst (lT E d) (List.replicate a.toNat g)]) S.hp.length (lT E d) (List.replicate a.toNat g) (by simp);rw[YM] at this;rw[G];exact this
    .cases h
   .cases h
  .cases h
 .cases h
theorem aQq{k:Nat}{v:TV}{l:List (den k)}{a:AV}(h:rdX [] k v=some l)(q:Qh H v a): Qh ([]:TH) v a:=by
 cases v with
 | sl k l=>exact .p _ _ (q.pu trivial)
 | emp b=>exact .p _ _ (q.pu trivial)
 | vw k l=>exact .p _ _ (q.pu trivial)
 | lit v=>rw[q.inL];exact Qh.l _
 | ms id m=>simp[rdX,rdS] at h
 | _=>cases h
theorem aO7[aG]{vi:Nat}{s:List bB}(H:M8 P T E)(g:Qt N S st)(h:cS E n d (.callF vi s) S K=some r): dG P (eZ P T n) E.fl N (.callF vi s) st K r:=by
 have q:=D4 g s;simp only[cS] at h;split at h
 .rename_i p M;split at h
  .rename_i k;obtain⟨a1,bytes,z,V,h0,R⟩:=H.pr vi _ M;unfold aTU at h;split at h
   .rename_i x O;rw[O] at q;split at h
    .rename_i l I;obtain⟨a,y⟩:∃a,s.map (aH st.tmps)=[a]:=by
      cases u:s.map (aH st.tmps) with
      | nil=>rw[u] at q;exact q.elim
      | cons a t=>rw[u] at q;cases t with
       | nil=>exact⟨a,rfl⟩
       | cons _ _=>exact q.2.elim
     rw[y] at q;obtain⟨m,hm,h⟩:=bG h;have e:=aKw hm;subst e;obtain⟨W,e2,e3⟩:=aMa (P:=P) (n:=m) (G:=st.heap) V h0;have ev:aN P (eZ P T (m+1)) E.fl (.callF vi s) st.tmps st.heap=eZ P T (m+1) st.heap.length vi [a] st.heap:=by simp only[aN,y]
     have D:∃es,(a=.lit bQ/\es=[]\/(∃f,a=.sl f es)\/a=.vw es)/\Ql k l es:=by
      rcases HZ (A:=[]) I (aQq I q.1) (λ_=>trivial) with⟨es,i,w⟩ | ⟨_,es,i,w⟩ | ⟨_,id,tot,o,n,es,e,i,_⟩
      .exact⟨es,i.imp (λh=>h) .inl,w⟩
      .exact⟨es,i,w⟩
      .subst e;simp[rd] at i
     obtain⟨es,c,j⟩:=D;rcases H8 h with⟨F,h⟩ | ⟨F,h⟩
     .have:l=[]:=by simpa using F
      subst this;have:es=[]:=ZL.1 j.len;subst this;rcases c with⟨c,_⟩ | c
      .refine dG.same (v:=.lit bQ) g ?_ (.p _ _ (.emp _ _ (.inl rfl))) h;rw[ev,c];exact W
      .refine dG.same (v:=.sl false []) g ?_ (.p _ _ (.emp _ _ (.inr (.inr ⟨rfl,rfl⟩)))) h;rw[ev];exact e2 a c
     .obtain⟨C,B,L⟩:=bG h;clear h;obtain⟨J,X⟩:=LH B;rw[Xy] at J;subst J;cases es with
      | nil=>
       have:C=[]:=ZL.1 j.len.symm;subst this;cases F
      | cons e es=>
       have y:(∃f,a=.sl f (e::es))\/a=.vw (e::es):=by
        rcases c with⟨_,c⟩ | c
        .cases c
        .exact c
       have g3:=e3 a e es y (j.all rfl) (As (by rw[j.len];simpa using X) R);refine dG.add (v:=.ms st.heap.length (e::es).length 0 (e::es).length) (o:=.lst k C) (b:=.blk (cds k).length (e::es)) g (by rw[ev];exact g3) ⟨_,rfl,j⟩ ?_ L;rw[g.hp.ln,j.len];exact .ms _ k C (by simp)
    .cases h
   .cases h
  .cases h
 .obtain⟨v,Q,tv,S',i,w,U,Y⟩:=Qw (by rw[g.hp.ln];exact Zg _) g q H.il h;exact⟨v,Q,tv,S',by simp only[aN];rw[g.hp.ln];exact i,w,U,Y⟩
end
end
end Go.Proofs.YtglfoebmkbglgaaGreatDoor.Av
