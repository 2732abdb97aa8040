/- A part of the proof of a law. -/
import Derived.Test.YtmcgghedgfkjiaaGreatDoorP4
set_option maxRecDepth 100000
set_option maxHeartbeats 4000000
set_option linter.all false
namespace Go.Proofs.YtmcgghedgfkjiaaGreatDoor.Av
open Go
section
open jJ (den cds ag)
section
variable [dN]{R:Type}{H:TH}{A:aW}{N:Nat}{S:TS}{st:St}{P:Program}{cf:CF}{op:Jn}{K:TV->TS->Option R}{r:R}
theorem HU{v:TV}{a:AV}{K:TV->Option R}(h:Ok v K=some r)(q:Qh H v a): ∃c,Qh H c a/\K c=some r:=by
 unfold Ok at h;split at h
 .split at h
  .rename_i b;have e:=q.inL;subst e;cases b with
   | true=>exact⟨_,q,h⟩
   | false=>exact⟨_,q,h⟩
  .exact⟨_,q,h⟩
 .exact⟨_,q,h⟩
theorem aHq: ∀{vs:List TV} {aw:List AV} {K:List TV->Option R},aKD vs K=some r->Qc H vs aw->∃b,Qc H b aw/\K b=some r
 | [],[],K,h,q=>⟨[],trivial,h⟩
 | v::vs,a::aw,K,h,q=>by
  let⟨c,d,h⟩:=HU h q.1;let⟨b,e,h⟩:=aHq h q.2;exact⟨c::b,⟨d,e⟩,h⟩
theorem aNJ{v:TV}{K:TV->Option R}: Ok v K=K v:=by
 unfold Ok;split
 .split
  .rename_i b;cases b<;>rfl
  .rfl
 .rfl
theorem aHr: ∀{vs:List TV} {K:List TV->Option R},aKD vs K=K vs
 | [],K=>rfl
 | v::vs,K=>by simp only[aKD,aNJ];exact aHr
theorem B2{cs:List TV}{aw:List AV}{agg:Bool}{off n:Nat}{K:TV->Option R}(h:BR cs agg off n K=some r)(q:Qc H cs aw):
 off+n<=aw.length/\∃tv v,(if agg then some (AV.agg<|(aw.drop off).take n) else match (aw.drop off).take n with | [c]=>some c | _=>none)=some v/\Qh H tv v/\K tv=some r:=by
 unfold BR at h;split at h
 .rename_i d;refine⟨by rw[q.len];exact Zj d,?_⟩;have q':=(q.drop off).take n;split at h
  .exact⟨_,_,rfl,Qh.mkA q',h⟩
  .split at h
   .rename_i c a;rw[a] at q';generalize (aw.drop off).take n=e at q' |-;match e,q' with
    | [b],q'=>exact⟨_,b,rfl,q'.1,h⟩
   .cases h
 .cases h
def dD[aF](P:Program)(cf:CF)(fl N:Nat)(op:Jn)(st:St)(K:TV->TS->Option R)(r:R): Prop:=
 ∃v A' tv S',aL P cf fl op st.tmps st.heap=some (v,A')/\Qt N S' ⟨st.tmps,A'⟩/\Qh S'.hp tv v/\K tv S'=some r
theorem dD.same[aF]{fl:Nat}{v:AV}{tv:TV}(b:Qt N S st)(he:aL P cf fl op st.tmps st.heap=some (v,st.heap))(q:Qh S.hp tv v)(h:K tv S=some r): dD P cf fl N op st K r:=
 ⟨v,st.heap,tv,S,he,b,q,h⟩
theorem dD.add[aF]{fl:Nat}{v:AV}{tv:TV}{o:oT}{b:dI}(a:Qt N S st)(he:aL P cf fl op st.tmps st.heap=some (v,st.heap++[b]))(k:Qo (S.hp++[o]) o b)(q:Qh (S.hp++[o]) tv v)(h:K tv (Ln S o)=some r): dD P cf fl N op st K r:=
 ⟨v,_,tv,Ln S o,he,a.hpM HM.add<|a.hp.add k,q,h⟩
theorem dD.set[aF]{fl:Nat}{v:AV}{tv:TV}{id:Nat}{o:oT}{b:dI}(a:Qt N S st)(he:aL P cf fl op st.tmps st.heap=some (v,st.heap.set id b))(m:HM S.hp<|S.hp.set id o)(k:Qo (S.hp.set id o) o b)(q:Qh (S.hp.set id o) tv v)(h:K tv (hK S id o)=some r): dD P cf fl N op st K r:=
 ⟨v,_,tv,hK S id o,he,a.hpM m<|a.hp.set m k,q,h⟩
theorem Qs.ln(h:Qs H A): A.length=H.length:=bZ.len h
theorem Qh.ptr1{id off:Nat}{a:AV}(h:Qh H (.ptr id off) a): a=.ptr id 1 0 off:=by
 cases h with
 | p _ _ h=>cases h
 | ptr=>rfl
theorem Qh.pel1{id off:Nat}{i:Int}{a:AV}(h:Qh H (.pel id i off) a): ∃k l,H[id]?=some (.lst k l)/\0<=i/\i.toNat<l.length/\a=.ptr id l.length i.toNat off:=by
 cases h with
 | p _ _ h=>cases h
 | pel _ _ _ k l e c d=>exact⟨k,l,e,c,d,rfl⟩
theorem Qh.rs1{id n:Nat}{a:AV}(h:Qh H (.rs id n) a): a=.ms id n 0 n:=by
 cases h with
 | p _ _ h=>cases h
 | rs=>rfl
theorem Qh.rel1{id n i off:Nat}{a:AV}(h:Qh H (.rel id n i off) a): a=.ptr id n i off:=by
 cases h with
 | p _ _ h=>cases h
 | rel=>rfl
theorem Qh.mp1{id:Nat}{a:AV}(h:Qh H (.mp id) a): a=.mp id:=by
 cases h with
 | p _ _ h=>cases h
 | mp=>rfl
theorem Qs.box(a:Qs H A){id:Nat}{cs:List TV}(h:H[id]?=some (.box cs)): ∃aw,A[id]?=some (.blk cs.length [aw])/\Qc H cs aw:=by
 obtain⟨b,c,aw,rfl,d⟩:=a.get h;exact⟨aw,c,d⟩
theorem Qs.lst(a:Qs H A){id k:Nat}{l:List<|den k}(h:H[id]?=some (.lst k l)): ∃es,A[id]?=some (.blk (cds k).length es)/\Ql k l es:=by
 obtain⟨b,d,es,rfl,e⟩:=a.get h;exact⟨es,d,e⟩
theorem aLb{id n i:Nat}{cs:List TV}(f:Qs H A)(h:aFQ H id n i=some cs): ∃s es aw,A[id]?=some (.blk s es)/\es.length=n/\es[i]?=some aw/\Qc H cs aw:=by
 unfold aFQ at h;split at h
 .rename_i o a;split at h
  .split at h
   .rename_i e;have e:=Zc e;obtain⟨b,c,aw,rfl,q⟩:=f.get a;let⟨r,g,d⟩:=q.get h;exact⟨_,aw,r,c,by rw[q.len];exact e,g,d⟩
   .cases h
  .cases h
 .cases h
theorem tR{k:Nat}(x:den k): (jX k x).length=(cds k).length:=by
 have:∀(cs:List Cd) (p:SL cs),(qX cs p).length=cs.length:=by
  intro cs;induction cs with
  | nil=>intro p;rfl
  | cons c r d=>intro p;simp[qX,d]
 exact this _ _
theorem aRR[aF]{E:XE}{n m:Nat}{d:Option Nat}{agg:Bool}{x:bB}(u:Qt N S st)(h:cO E n d (.load agg m x) S K=some r): dD P cf E.fl N (.load agg m x) st K r:=by
 have q:=u.get x;have g:∀{cs:List TV} {aw:List AV} {off:Nat} {a:AV},aG st.tmps x=a->(off+m<=aw.length->eA st.heap a m=some ((aw.drop off).take m))->Qc S.hp cs aw->BR cs agg off m (λv=>K v S)=some r->dD P cf E.fl N (.load agg m x) st K r:=by
  intro cs aw off a t f H G;let⟨p,tv,v,b,J,I⟩:=B2 G H;refine dD.same u ?_ J I;simp only[aL,t,f p];cases agg with
  | true=>simp only[Zz,Za] at b |-;rw[b]
  | false=>
   simp only[Zn,Z9] at b |-;split at b
   .rename_i L;rw[L];cases b;rfl
   .cases b
 simp only[cO] at h;split at h
 .rename_i id Q i off j;rw[j] at q;split at h
  .rename_i cs C;let⟨s,es,aw,w,D,F,B⟩:=aLb u.hp C;refine g q.rel1 (λf=>?_) B h;simp[eA,w,D,F,f]
  .cases h
 .rename_i id off j;rw[j] at q;split at h
  .rename_i o z;split at h
   .let⟨aw,p,b⟩:=u.hp.box z;exact g q.ptr1 (λf=>by simp[eA,p,f]) b h
   .cases h
  .cases h
 .rename_i cs j;rw[j] at q;let⟨aw,t,b⟩:=(q.pu trivial).inR;exact g (off:=0) t (λf=>by simp[eA] at f |-;exact f) b.c h
 .rename_i k y j;rw[j] at q;let⟨aw,t,b⟩:=(q.pu trivial).inP;exact g (off:=0) t (λf=>by simp[eA] at f |-;exact f) b.c h
 .rename_i id i off j;rw[j] at q;split at h
  .rename_i o z;split at h
   .rename_i k l;let⟨y,M,h⟩:=bG h;let⟨k',R,w,D,F,B⟩:=q.pel1;rw[z] at w;cases w;let⟨es,p,b⟩:=u.hp.lst z;let⟨_,A,_⟩:=qD M;let⟨e,he,O⟩:=b.get A;exact g B (λf=>by simp[eA,p,b.len,he,f]) O.c h
   .cases h
  .cases h
 .cases h
theorem Je{v:TV}{a:AV}{cs:List TV}(h:RY v=some cs)(q:Qh H v a): ∃aw,cellsOf a=some aw/\Qc H cs aw:=by
 cases v with
 | agg vs=>
  cases h;obtain⟨aw,rfl,B⟩:=q.inA;exact⟨aw,rfl,B⟩
 | undef=>cases h
 | tup=>cases h
 | rptr=>cases h
 | lit u=>
  have h:(match bF u with | true=>some [TV.lit u] | false=>none)=some cs:=h;split at h
  .rename_i y;cases h;have e:=q.inL;subst e;exact⟨[.lit u],by simp[cellsOf,y],q,trivial⟩
  .cases h
 | emp b=>
  cases h;have q':=q.pu trivial;cases q' with
  | emp b a h=>rcases h with rfl | rfl | ⟨_,rfl⟩<;>exact⟨[_],rfl,q,trivial⟩
 | sl k l=>
  cases h;let⟨es,c,_⟩:=(q.pu trivial).inS;rcases c with⟨rfl,_⟩ | ⟨f,rfl⟩<;>exact⟨[_],rfl,q,trivial⟩
 | vw k l=>
  cases h;let⟨es,c,_⟩:=(q.pu trivial).inV;rcases c with⟨rfl,_⟩ | ⟨f,rfl⟩ | rfl<;>exact⟨[_],rfl,q,trivial⟩
 | ms id n=>
  cases h;cases q with
  | p _ _ q=>cases q
  | ms _ k l h=>exact⟨[_],rfl,.ms _ k l h,trivial⟩
  | msn _ n k l h=>exact⟨[_],rfl,.msn _ n k l h,trivial⟩
 | ptr id off=>cases h;have e:=q.ptr1;subst e;exact⟨[_],rfl,q,trivial⟩
 | pel id i off=>cases h;let⟨k,l,_,_,_,e⟩:=q.pel1;subst e;exact⟨[_],rfl,q,trivial⟩
 | sptr k x=>cases h;let⟨aw,e,_⟩:=(q.pu trivial).inP;subst e;exact⟨[_],rfl,q,trivial⟩
 | rmp kk G m=>
  cases h;let⟨rows,c,_⟩:=(q.pu trivial).inM;rcases c with⟨rfl,_⟩ | rfl<;>exact⟨[_],rfl,q,trivial⟩
 | rs id n=>cases h;have e:=q.rs1;subst e;exact⟨[_],rfl,q,trivial⟩
 | rel id n i off=>cases h;have e:=q.rel1;subst e;exact⟨[_],rfl,q,trivial⟩
 | mp id=>
  cases h;cases q with
  | p _ _ q=>cases q
  | mp=>exact⟨[_],rfl,.mp _,trivial⟩
 | it id=>
  cases h;cases q with
  | p _ _ q=>cases q
  | it=>exact⟨[_],rfl,.it _,trivial⟩
 | fn vi cs=>
  cases h;obtain⟨aw,rfl,_⟩:=q.inF;exact⟨[_],rfl,q,trivial⟩
theorem aND[aF]{E:XE}{n m:Nat}{d:Option Nat}{x v:bB}(t:Qt N S st)(h:cO E n d (.store m x v) S K=some r): dD P cf E.fl N (.store m x v) st K r:=by
 have q:=t.get x;simp only[cO] at h;split at h
 .rename_i cs D;let⟨aw,J,w⟩:=Je D<|t.get v;split at h
  .rename_i A;have A:=Zc A;have f:aw.length=m:=by rw[w.len,A]
   split at h
   .rename_i id off B;rw[B] at q;have q:=q.ptr1;split at h
    .cases h
    rename_i a;have a:=Zj a;split at h
    .rename_i o j;split at h
     .rename_i z;split at h
      .rename_i p;have p:=Zj p;let⟨es,F,s⟩:=t.hp.box j;have g:off+aw.length<=es.length:=by rw[w.len,s.len];exact p
       have u:(aQ z off cs).length=z.length:=by simp[aQ];omega
       refine dD.set (o:=.box<|aQ z off cs) (b:=.blk z.length [aQ es off aw]) t ?_ (HM.set λk l e=>by rw[j] at e;cases e) ⟨aQ es off aw,by rw[u],?_⟩ (Qh.l _) h
       .simp only[aL,J,f,Zz,q,wY,a,F,Yd,Zt];rw[Zu<|by rw[<-f];exact g];rfl
       .exact (s.spl w).imp λ_ _ h=>h.mono<|HM.set λk l e=>by rw[j] at e;cases e
      .cases h
     .cases h
    .cases h
   .rename_i id i off B;rw[B] at q;split at h
    .cases h
    rename_i a;have a:=Zj a;split at h
    .rename_i o j;split at h
     .rename_i k l;let⟨y,T,h⟩:=bG h;let⟨_,C,R⟩:=qD T;let⟨k',O,I,V,U,M⟩:=q.pel1;rw[j] at I;cases I;split at h
      .rename_i p;have p:=Zj p;split at h
       .rename_i Q G;let⟨es,F,s⟩:=t.hp.lst j;let⟨e,he,H⟩:=s.get C;have g:off+aw.length<=e.length:=by rw[w.len,H.len,tR];exact p
        refine dD.set (o:=.lst k<|l.set i.toNat Q) (b:=.blk (cds k).length<|es.set i.toNat<|aQ e off aw) t ?_ (HM.set λk O e=>by rw[j] at e;cases e;exact⟨_,_,rfl,by simp⟩) ⟨es.set i.toNat<|aQ e off aw,rfl,?_⟩ (Qh.l _) h
        .simp only[aL,J,f,Zz,M,wY,a,F,s.len,he];rw[Zu<|by rw[<-f];exact g]
        .exact s.set _<|jQ G<|H.c.spl w
       .cases h
      .cases h
     .cases h
    .cases h
   .cases h
  .cases h
 .cases h
end
section
variable [dN]{H H1:TH}{A:aW}
theorem Qp.w{k:Nat}{l:List<|den k}{a:AV}(h:Qp (.sl k l) a): Qp (.vw k l) a:=by
 let⟨es,b,c⟩:=h.inS;exact Qp.mkV (by rcases b with b | b;exact .inl b;exact .inr<|.inl b) c
theorem Qp.w1{c:Cd}{x:c.den}{a:AV}(h:Qp (c.tv x) a): Qp (NA<|c.tv x) a:=by
 cases c with
 | sl k=>exact Qp.w h
 | _=>exact h
theorem aB2(c:Cd)(x:c.den): toW (c.tv x)=NA (c.tv x):=by cases c<;>rfl
theorem J0{kk a:Nat}{m:List<|den kk×den a}{g d:AV->AV}(h:∀r,d (tV (ag a) r)=tV (ag a) (r.map g)){rows:List<|List AV}: ((gD a m rows).map λe=>(e.1,d e.2))=gD a m (rows.map λr=>r.map g):=by
 unfold gD;generalize m.map (λp=>sO kk p.1)=c;induction c generalizing rows with
 | nil=>rfl
 | cons v c i=>cases rows with
  | nil=>rfl
  | cons r rows=>simp only[ZE,List.zip_cons_cons,h,i]
theorem rd1{c:Cd}{v:TV}{x:c.den}{a:AV}(h:rdC 1 H c v=some x)(q:Qh H v a)(l:Qs H A): Qp (NA<|c.tv x)<|dE A a:=by
 cases c with
 | int p=>have e:=aDN h;subst e;rw[q.inL];exact .lit _
 | bool=>have e:=y8 h;subst e;rw[q.inL];exact .lit _
 | str=>have e:=aDL h;subst e;rw[q.inL];exact .lit _
 | sl k=>
  have h:rdS 1 H k v=some x:=h;rcases IW h q (λ_=>l) with⟨es,d,b⟩ | ⟨_,es,d,b⟩ | ⟨_,id,tot,o,n,es,rfl,d,b⟩
  .rcases d with⟨rfl,rfl⟩ | ⟨f,rfl⟩
   .exact Qp.mkV (es:=[]) (.inr<|.inr rfl) b
   .exact Qp.mkV (.inr<|.inr rfl) b
  .rcases d with⟨rfl,rfl⟩ | ⟨f,rfl⟩ | rfl
   .exact Qp.mkV (es:=[]) (.inr<|.inr rfl) b
   .exact Qp.mkV (.inr<|.inr rfl) b
   .exact Qp.mkV (.inr<|.inr rfl) b
  .simp only[dE,d];exact Qp.mkV (.inr<|.inr rfl)<|uD.ls b
 | sptr k=>
  have e:=aDM h;subst e;obtain⟨aw,rfl,b⟩:=(q.pu trivial).inP;exact Qp.mkP b
 | mp kk t=>
  let⟨rows,d,b⟩:=(aLg (w:=1) (H:=H) (by decide) h q).inM;rcases d with⟨rfl,d⟩ | rfl
  .exact Qp.mkM (.inl ⟨rfl,d⟩) b
  .exact Qp.mkM (.inr rfl) b
 | any=>exact .undef _
theorem aWJ{c:Cd}{v:TV}{x:c.den}{a:AV}(h:rdC 1 [] c v=some x)(q:Qh H v a): Qp (NA<|c.tv x) a:=by
 cases c with
 | int B=>have e:=aDN h;subst e;rw[q.inL];exact .lit _
 | bool=>have e:=y8 h;subst e;rw[q.inL];exact .lit _
 | str=>have e:=aDL h;subst e;rw[q.inL];exact .lit _
 | sl k=>
  have h:rdS 1 [] k v=some x:=h;have p:rdS 1 H k v=some x/\∀id n,v≠.ms id n:=by
   cases v with
   | ms id n=>cases h
   | _=>exact⟨h,λ_ _ e=>by cases e⟩
  cases v with
  | ms id n=>exact (p.2 _ _ rfl).elim
  | vw k' l=>
   let⟨e,h⟩:=qN (F:=λk=>List<|den k) (x:=l) (y:=x) h;subst e;subst h;exact q.pu trivial
  | sl k' l=>
   let⟨e,h⟩:=qN (F:=λk=>List<|den k) (x:=l) (y:=x) h;subst e;subst h;exact (q.pu trivial).w
  | emp b=>exact (rd0 (c:=.sl k) (H:=[]) (v:=.emp b) (x:=x) (show rdS 0 [] k (.emp b)=some x from h) q).w
  | lit u=>exact (rd0 (c:=.sl k) (H:=[]) (v:=.lit u) (x:=x) (show rdS 0 [] k (.lit u)=some x from h) q).w
  | _=>cases h
 | sptr k=>have e:=aDM h;subst e;exact q.pu trivial
 | mp kk A=>
  exact aLg (w:=1) (H:=[]) (by decide) h q
 | any=>exact .undef _
theorem rd2{c:Cd}{v:TV}{x:c.den}{a:AV}(h:rdC 2 H c v=some x)(q:Qh H v a)(m:Qs H A): Qp (c.tv x)<|gN A 0 a:=by
 cases c with
 | int D=>have e:=aDN h;subst e;rw[q.inL];exact .lit _
 | bool=>have e:=y8 h;subst e;rw[q.inL];exact .lit _
 | str=>have e:=aDL h;subst e;rw[q.inL];exact .lit _
 | sl k=>
  have h:rdS 2 H k v=some x:=h;rcases IW h q (λ_=>m) with⟨es,i,d⟩ | ⟨e,_⟩ | ⟨_,id,tot,o,n,es,rfl,i,d⟩
  .rcases i with⟨rfl,rfl⟩ | ⟨f,rfl⟩
   .exact Qp.mkS (es:=[]) (.inr ⟨_,rfl⟩) d
   .exact Qp.mkS (.inr ⟨_,rfl⟩) d
  .cases e
  .simp only[gN,YE,Z9,fC,eE,ZG,Zz,i];exact Qp.mkS (.inr ⟨_,rfl⟩)<|(Gs A 0 5).ls d
 | sptr k=>
  have e:=aDM h;subst e;obtain⟨aw,rfl,d⟩:=(q.pu trivial).inP;exact Qp.mkP d
 | mp kk j=>
  have h:rdM 2 H kk j v=some x:=h;rcases aOd h with rfl | ⟨rfl,rfl⟩ | ⟨_,t,id,rfl,i⟩
  .let⟨rows,i,d⟩:=(q.pu trivial).inM;rcases i with⟨rfl,i⟩ | rfl
   .exact Qp.mkM (.inl ⟨rfl,i⟩) d
   .exact Qp.mkM (.inr rfl) d
  .rw[q.inL];exact Qp.mkM (rows:=[]) (.inl ⟨rfl,rfl⟩) trivial
  .obtain⟨b,y,rows,rfl,d⟩:=m.get i;have e:a=.mp id:=by
    cases q with
    | p _ _ q=>cases q
    | mp=>rfl
   subst e;simp only[gN,YE,Z9,fC,eE,ZG,Zz,y];have u:Qm j x<|rows.map λr=>r.map<|eE A 0 5:=d.mapR λ_ _ h=>(Gs A 0 5).r h;refine Qp.mkM (.inr<|congrArg _<|J0 (g:=eE A 0 5) λr=>?_) u;rw[t];cases r<;>rfl
 | any=>cases h
theorem rdn{c:Cd}{v:TV}{x:c.den}{a:AV}(h:rdC 0 H c v=some x)(q:Qh H1 v a): Qp (c.tv x) (nrm a)/\Kr a=true:=by
 have b:=rd0 h q;refine⟨aLH.c b,?_⟩;cases c with
 | int=>cases b;rfl
 | bool=>cases b;rfl
 | str=>cases b;rfl
 | sl k=>
  let⟨es,d,_⟩:=Qp.inS b;rcases d with⟨rfl,_⟩ | ⟨f,rfl⟩<;>rfl
 | sptr k=>obtain⟨aw,rfl,_⟩:=Qp.inP b;rfl
 | mp kk n=>let⟨rows,d,_⟩:=Qp.inM b;rcases d with⟨rfl,_⟩ | rfl<;>rfl
 | any=>cases h
theorem aQh{w:Nat}{e:TH}{f:TV->TV}{g:AV->AV}{G:AV->Prop}(k:∀{c:Cd} {v:TV} {x:c.den} {a:AV},rdC w e c v=some x->Qh H v a->Qp (f<|c.tv x) (g a)/\G a):
 ∀{cs:List Cd} {vs:List TV} {p:SL cs} {aw:List AV},rdL w e cs vs=some p->Qc H vs aw->Qr ((qX cs p).map f) (aw.map g)/\∀a∈aw,G a
 | [],[],_,[],_,_=>⟨trivial,λ_ h=>by cases h⟩
 | c::r,v::vs,p,a::aw,h,q=>by
  simp only[rdL] at h;split at h
  .rename_i x i;split at h
   .rename_i p' n;cases h;let⟨l,o⟩:=k i q.1;let⟨j,m⟩:=aQh k n q.2;exact⟨⟨l,j⟩,λb d=>by
     rcases ZN.1 d with rfl | d
     .exact o
     .exact m b d⟩
   .cases h
  .cases h
theorem aBL{w:Nat}{a:TH}{v:TV}: ∀{cs:List Cd} {p:SL cs},rdL w a cs [v]=some p->∃(c:Cd) (y:c.den),hdT (qX cs p)=c.tv y/\rdC w a c v=some y
 | [],p,h=>by cases h
 | c::r,p,h=>by
  simp only[rdL] at h;split at h
  .rename_i y b;split at h
   .cases h;exact⟨c,y,rfl,b⟩
   .cases h
  .cases h
theorem aH5{w:Nat}{d:TH}{f:TV->TV}{g:AV->AV}{G:AV->Prop}(k:∀{c:Cd} {v:TV} {x:c.den} {a:AV},rdC w d c v=some x->Qh H v a->Qp (f<|c.tv x) (g a)/\G a){kd:Nat}{v:TV}{x:den kd}{a:AV}(h:k8 w d kd v=some x)(q:Qh H v a):
 (∃aw,a=.agg aw/\val kd x=.agg (jX kd x)/\Qr ((jX kd x).map f) (aw.map g)/\∀b∈aw,G b)\/(∃(c:Cd) (y:c.den),val kd x=c.tv y/\Qp (f<|c.tv y) (g a)/\G a/\rdC w d c v=some y):=by
 have s:∀{vs:List TV} {aw:List AV} {x:den kd},kA w d kd vs=some x->Qc H vs aw->Qr ((jX kd x).map f) (aw.map g)/\∀b∈aw,G b:=by
  intro vs aw x h q;unfold kA at h;split at h
  .rename_i p j;cases h;unfold jX;rw[dN.un_pk];exact aQh k j q
  .cases h
 unfold k8 at h;split at h
 .rename_i m;split at h
  .obtain⟨aw,rfl,q'⟩:=q.inA;let⟨i,l⟩:=s h q';exact .inl ⟨aw,rfl,by unfold val;rw[m],i,l⟩
  .cases h
 .rename_i m;right;unfold kA at h;split at h
  .rename_i p j;cases h;have t:val kd (dN.pk kd p)=hdT (qX (cds kd) p):=by
    unfold val jX;rw[m,dN.un_pk]
   rw[t];let⟨c,y,e,o⟩:=aBL j;let⟨i,l⟩:=k o q;exact⟨c,y,e,i,l,o⟩
  .cases h
theorem aN9(c:Cd)(x:c.den): NA (c.tv x)=.undef\/(∀a,Qp (NA<|c.tv x) a->a≠.undef/\∀l,a≠.agg l):=by
 cases c with
 | int=>right;intro a h;cases h;exact⟨(by intro e;cases e),(by intro l e;cases e)⟩
 | bool=>right;intro a h;cases h;exact⟨(by intro e;cases e),(by intro l e;cases e)⟩
 | str=>right;intro a h;cases h;exact⟨(by intro e;cases e),(by intro l e;cases e)⟩
 | sl k=>
  right;intro a h;let⟨es,b,_⟩:=Qp.inV h;rcases b with⟨rfl,_⟩ | ⟨f,rfl⟩ | rfl<;>exact⟨(by intro e;cases e),(by intro l e;cases e)⟩
 | sptr k=>right;intro a h;obtain⟨aw,rfl,_⟩:=Qp.inP h;exact⟨(by intro e;cases e),(by intro l e;cases e)⟩
 | mp=>right;intro a h;let⟨rows,b,_⟩:=Qp.inM h;rcases b with⟨rfl,_⟩ | rfl<;>exact⟨(by intro e;cases e),(by intro l e;cases e)⟩
 | any=>left;rfl
theorem aWG{k:Nat}{v:TV}{x:den k}{a:AV}(h:k8 1 H k v=some x)(q:Qh H v a)(i:Qs H A): Qh H1 (toW<|val k x)<|cL A a:=by
 rcases aH5 (G:=λ_=>True) (f:=NA) (g:=dE A) (λh q=>⟨rd1 h q i,trivial⟩) h q with⟨aw,rfl,d,b,_⟩ | ⟨c,y,d,b,_,_⟩
 .rw[d];exact Qh.mkA b.c
 .rw[d,aB2];rcases aN9 c y with e | e
  .rw[e];exact Qh.u _
  .cases a with
   | agg cs=>exact ((e _ b).1 rfl).elim
   | _=>exact .p _ _ b
theorem aTW{k:Nat}{v:TV}{x:den k}{a:AV}(h:k8 1 [] k v=some x)(q:Qh H v a): Qh H1 (toW<|val k x) a:=by
 rcases aH5 (G:=λ_=>True) (f:=NA) (g:=id) (λh q=>⟨aWJ h q,trivial⟩) h q with⟨aw,rfl,d,b,_⟩ | ⟨c,y,d,b,_,_⟩
 .rw[d];rw[WQ] at b;exact Qh.mkA b.c
 .rw[d,aB2];exact .p _ _ b
theorem aW3{k:Nat}{x:den k}{a:AV}(q:Qh H (val k x) a): Qh H (toW<|val k x) a:=by
 have f:∀(c:Cd) (y:c.den) {b:AV},Qh H (c.tv y) b->Qh H (NA<|c.tv y) b:=by
  intro c y b q;cases c with
  | sl k=>exact .p _ _ (q.pu trivial).w
  | _=>exact q
 have cs:∀(cs:List Cd) (p:SL cs) {aw:List AV},Qc H (qX cs p) aw->Qc H ((qX cs p).map NA) aw:=by
  intro cs;induction cs with
  | nil=>intro p aw q;exact q
  | cons c r i=>
   intro p aw q;cases aw with
   | nil=>exact q.elim
   | cons b aw=>exact⟨f c p.1 q.1,i p.2 q.2⟩
 unfold val at q |-;split
 .rename_i d;simp only[d] at q;obtain⟨aw,rfl,g⟩:=q.inA;exact Qh.mkA<|cs _ _ g
 .rename_i d;simp only[d] at q;unfold jX at q |-;generalize dN.un k x=p at q |-;generalize cds k=l at p q |-;cases l with
  | nil=>exact Qh.u _
  | cons c r=>
   have e:toW (hdT<|qX (c::r) p)=NA (c.tv p.1):=aB2 c p.1;rw[e];exact f c p.1 q
theorem aRu{n:TH}{k:Nat}{v:TV}{x:den k}{a:AV}(h:k8 0 n k v=some x)(q:Qh H v a): Qh H1 (val k x) (JO a)/\sI a=true:=by
 rcases aH5 (G:=λa=>Kr a=true) (f:=λv=>v) (g:=nrm) (λh q=>rdn h q) h q with⟨aw,rfl,i,e,d⟩ | ⟨c,y,i,e,d,_⟩
 .rw[i];rw[show (jX k x).map (λv=>v)=jX k x from WQ _] at e;refine⟨Qh.mkA e.c,?_⟩;show Pq aw=true;clear e q h;induction aw with
  | nil=>rfl
  | cons b r m=>simp only[Pq,d b ZM];exact m λb j=>d b<|ZQ _ j
 .rw[i];cases a with
  | agg cs=>cases d
  | _=>exact⟨.p _ _ e,d⟩
theorem aWF{k:Nat}{v:TV}{x:den k}{a:AV}(h:k8 2 H k v=some x)(q:Qh H v a)(w:Qs H A): Qh H1 (val k x) (dZ A 0 a)/\∀l,a≠.tup l:=by
 rcases aH5 (G:=λ_=>True) (f:=λv=>v) (g:=gN A 0) (λh q=>⟨rd2 h q w,trivial⟩) h q with⟨aw,rfl,d,i,_⟩ | ⟨c,y,d,i,_,r⟩
 .rw[d];rw[show (jX k x).map (λv=>v)=jX k x from WQ _] at i;exact⟨Qh.mkA i.c,λl e=>by cases e⟩
 .rw[d];have s:c≠.any:=by rintro rfl;cases r
  have n:∀b,Qp (c.tv y) b->b≠.undef:=by
   intro b m e;subst e;cases c with
   | any=>exact s rfl
   | sl k=>let⟨es,d,_⟩:=Qp.inS m;rcases d with⟨h,_⟩ | ⟨f,h⟩<;>cases h
   | mp=>let⟨rows,d,_⟩:=Qp.inM m;rcases d with⟨h,_⟩ | h<;>cases h
   | _=>cases m
  cases a with
  | agg cs=>exact (n _ i rfl).elim
  | tup cs=>exact (n _ i rfl).elim
  | _=>exact⟨.p _ _ i,λl e=>by cases e⟩
def aVF[aF](P:Program)(T:List cS)(vi:Nat)(c:CSp): Prop:=∀n p r,c.F n p=some r->∀aw,Qc [] (Of c.ka p) aw->
 ∃vs a A H,fH P T n 0 vi aw []=some (kB a,A)/\Qs H A/\Qc H vs a/\Et 2 H (c.kr.map .v) vs=some r/\(c.kp=true->TF H vs=true)
def aV5(A:aW)(vs:List TV)(aw:List AV): Prop:=∀k y b,vs=.sl k y::b->∃a d rows,aw=a::d/\SS (cds k).length A a=some rows/\Ql k y rows
def FOK[aF](P:Program)(T:List cS)(vi:Nat)(c:CSp): Prop:=∀n p r,c.F n p=some r->∀aw,Qc [] (Of c.ka p) aw->
 ∃b A,fH P T n 0 vi aw []=some (kB b,A)/\(∀H1:TH,Qc H1 (Of (c.kr.map .v) r)<|b.map<|dZ A 0)/\(∀a∈b,∀l,a≠.tup l)/\(c.kp=true->aV5 A (Of (c.kr.map .v) r) b)
theorem aBI{w:Nat}{e:TH}{g:AV->AV}{G:AV->Prop}: ∀{c:List Sh} (k:∀s∈c,∀{v:TV} {x:s.den} {a:AV},s.rd w e v=some x->Qh H v a->Qh H1 (s.tv x) (g a)/\G a)
 {vs:List TV} {p:fU c} {aw:List AV},Et w e c vs=some p->Qc H vs aw->Qc H1 (Of c p) (aw.map g)/\∀a∈aw,G a
 | [],_,[],_,[],_,_=>⟨trivial,λ_ h=>by cases h⟩
 | kd::c,_,[],p,aw,h,_=>by cases h
 | [],_,v::vs,p,aw,h,_=>by cases h
 | kd::c,k,v::vs,p,a::aw,h,q=>by
  simp only[Et] at h;split at h
  .rename_i x r;split at h
   .rename_i p' j;cases h;let⟨i,m⟩:=k kd ZM r q.1;let⟨n,l⟩:=aBI (λs o=>k s<|ZQ _ o) j q.2;have f:fU.hd (fU.cs x p')=x:=by cases c<;>rfl
    have e2:fU.tl (fU.cs x p')=p':=by cases c<;>rfl
    refine⟨?_,λb d=>by
     rcases ZN.1 d with rfl | d
     .exact m
     .exact l b d⟩
    simp only[Of,f,e2];exact⟨i,n⟩
   .cases h
  .cases h
end
section
variable [dN]{R:Type}{H H1:TH}{A:aW}{N:Nat}{S:TS}{st:St}{P:Program}{T:List cS}{cf:CF}{op:Jn}{K:TV->TS->Option R}{r:R}{E:XE}{n:Nat}{d:Option Nat}
theorem aCa{v:TV}{a:AV}(q:Qh H v a)(G:∀cs,v≠.agg cs): Qh H (aHW v)<|nrm a:=by
 cases v with
 | lit u=>
  have e:=q.inL;subst e;cases u with
  | slice o l c=>
   cases o with
   | some o=>exact Qh.u _
   | none=>
    cases l with
    | succ l=>exact Qh.u _
    | zero=>
     cases c with
     | succ c=>exact Qh.u _
     | zero=>exact .p _ _<|.emp _ _<|.inr<|.inr ⟨rfl,rfl⟩
  | _=>exact q
 | emp b=>
  cases (q.pu trivial) with
  | emp _ _ h=>rcases h with rfl | rfl | ⟨_,rfl⟩<;>exact .p _ _ (.emp _ _<|.inr<|.inr ⟨rfl,rfl⟩)
 | sl k l=>
  let⟨es,d,g⟩:=(q.pu trivial).inS;rcases d with⟨rfl,rfl⟩ | ⟨f,rfl⟩<;>exact .p _ _ (Qp.mkS (.inr ⟨_,rfl⟩) g)
 | vw k l=>
  let⟨es,d,g⟩:=(q.pu trivial).inV;rcases d with⟨rfl,rfl⟩ | ⟨f,rfl⟩ | rfl
  .exact .p _ _<|Qp.mkV (.inr<|.inl ⟨_,rfl⟩) g
  .exact .p _ _<|Qp.mkV (.inr<|.inl ⟨_,rfl⟩) g
  .exact q
 | undef=>exact Qh.u _
 | agg cs=>exact (G cs rfl).elim
 | rptr cs=>obtain⟨aw,rfl,_⟩:=(q.pu trivial).inR;exact q
 | sptr k x=>obtain⟨aw,rfl,_⟩:=(q.pu trivial).inP;exact q
 | ptr=>have e:=q.ptr1;subst e;exact q
 | pel=>let⟨_,_,_,_,_,e⟩:=q.pel1;subst e;exact q
 | fn vi cs=>obtain⟨aw,rfl,_⟩:=q.inF;exact q
 | tup cs=>obtain⟨aw,rfl,_⟩:=q.inT;exact q
 | rmp=>
  let⟨rows,d,_⟩:=(q.pu trivial).inM;rcases d with⟨rfl,_⟩ | rfl<;>exact q
 | rs=>have e:=q.rs1;subst e;exact q
 | rel=>have e:=q.rel1;subst e;exact q
 | ms id m=>
  cases q with
  | p _ _ q=>cases q
  | ms _ k l h=>exact .ms _ k l h
  | msn _ n k l h=>exact .msn _ n k l h
 | mp=>cases q with
  | p _ _ q=>cases q
  | mp=>exact .mp _
 | it=>cases q with
  | p _ _ q=>cases q
  | it=>exact .it _
theorem aU2[aF]{x:bB}(a:Qt N S st)(h:cO E n d (.mov x) S K=some r): dD P cf E.fl N (.mov x) st K r:=dD.same a rfl (a.get x) h
theorem aR5[aF]{c x y:bB}(a:Qt N S st)(h:cO E n d (.pick c x y) S K=some r): dD P cf E.fl N (.pick c x y) st K r:=by
 have q:=a.get c;simp only[cO] at h;split at h
 .rename_i u f;rw[f] at q;have e:=q.inL;split at h
  .rename_i b;cases b with
   | true=>exact dD.same a (by simp only[aL,e,Zz]) (a.get x) h
   | false=>exact dD.same a (by simp only[aL,e];rfl) (a.get y) h
  .cases h
 .cases h
theorem aP8[aF]{z:List Value}(a:Qt N S st)(h:cO E n d (.alloc z) S K=some r): dD P cf E.fl N (.alloc z) st K r:=by
 have c:=a.hp.ln;exact dD.add (v:=.ptr st.heap.length 1 0 0) (o:=.box<|z.map .lit) (b:=.blk z.length [z.map .lit]) a rfl ⟨z.map .lit,by simp,Qc.lits z⟩ (by rw[c];exact .ptr _ _) h
theorem aPs[aF]{s:Nat}(a:Qt N S st)(h:cO E n d (.claim s) S K=some r): dD P cf E.fl N (.claim s) st K r:=by
 have c:=a.hp.ln;simp only[cO] at h;split at h
 .rename_i e;have e:=Zc e;refine dD.add (v:=.ms st.heap.length 0 0 0) (o:=.lst (lL E d) []) (b:=.blk s []) a rfl ⟨[],by rw[e],trivial⟩ (by rw[c];have w:aKw E d=none\/aKw E d=some (0,0):=(by unfold aKw;split;split;exact .inr rfl;exact .inl rfl;exact .inl rfl);exact w.elim (λw=>by rw[w];exact .ms _ (lL E d) [] (by simp)) λw=>by rw[w];exact .msn _ (0,0) (lL E d) [] (by simp)) h
 .cases h
theorem aVe[aF]{x:bB}(c:Qt N S st)(h:cO E n d (.box x) S K=some r): dD P cf E.fl N (.box x) st K r:=by
 have g:=c.hp.ln;simp only[cO] at h;split at h
 .rename_i cs a;let⟨aw,f,e⟩:=Je a<|c.get x;exact dD.add (v:=.ptr st.heap.length 1 0 0) (o:=.box cs) (b:=.blk aw.length [aw]) c (by simp only[aL,f]) ⟨aw,by rw[e.len],e.imp λ_ _ h=>h.mono HM.add⟩ (by rw[g];exact .ptr _ _) h
 .cases h
theorem aEC[aF](f:Qt N S st): ∀{b:List<|Nat×Nat×bB} {cs cs':List TV} {aw:List AV},aIw cs (b.map λ(o,s,x)=>(o,s,cC S.tm x))=some cs'->Qc S.hp cs aw->
 ∃a,TN aw (b.map λ(o,s,x)=>(o,s,aG st.tmps x))=some a/\Qc S.hp cs' a
 | [],cs,cs',aw,h,q=>by cases h;exact⟨aw,rfl,q⟩
 | (o,s,x)::b,cs,cs',aw,h,q=>by
  simp only[ZE,aIw] at h;split at h
  .cases h
  .rename_i vs c;let⟨k,j,d⟩:=Je c<|f.get x;split at h
   .rename_i e;have e:=Zc e;split at h
    .rename_i e2;have e2:=Zj e2;let⟨a,g,i⟩:=aEC f h<|q.spl d;refine⟨a,?_,i⟩;simp only[ZE,TN,j];rw[Zu ⟨by rw[d.len,e],by rw[q.len];exact e2⟩];exact g
    .cases h
   .cases h
theorem aPz[aF]{z:List Value}{c:List<|Nat×Nat×bB}(b:Qt N S st)(h:cO E n d (.build z c) S K=some r): dD P cf E.fl N (.build z c) st K r:=by
 simp only[cO] at h;split at h
 .rename_i cs a;let⟨aw,e,f⟩:=aEC b a<|Qc.lits z;exact dD.same b (by simp only[aL,e]) (Qh.mkA f) h
 .cases h
theorem aED[aF]{s:Nat}(f:Qt N S st): ∀{b:List<|Nat×bB} {cs cs':List<|List TV} {aw:List<|List AV},aIx s cs (b.map λ(i,x)=>(i,cC S.tm x))=some cs'->bZ (Qc S.hp) cs aw->
 ∃a,Ri s aw (b.map λ(i,x)=>(i,aG st.tmps x))=some a/\bZ (Qc S.hp) cs' a/\cs'.length=cs.length
 | [],cs,cs',aw,h,q=>by cases h;exact⟨aw,rfl,q,rfl⟩
 | (i,x)::b,cs,cs',aw,h,q=>by
  simp only[ZE,aIx] at h;split at h
  .cases h
  .rename_i vs c;let⟨m,l,d⟩:=Je c<|f.get x;split at h
   .rename_i e;have e:=Zc e;split at h
    .rename_i e2;have e2:i<cs.length:=by simpa [YC] using e2
     let⟨a,g,j,k⟩:=aED f h<|q.set i d;refine⟨a,?_,j,by rw[k];simp⟩;simp only[ZE,Ri,l];rw[Zu ⟨by rw[d.len,e],by rw[q.len];exact e2⟩];exact g
    .cases h
   .cases h
theorem aJX[aF]{pu:Bool}{s m:Nat}{z:List Value}{i:List<|Nat×bB}(a:Qt N S st)(h:cO E n d (.buildSl pu s m z i) S K=some r): dD P cf E.fl N (.buildSl pu s m z i) st K r:=by
 have q:=a.hp.ln;simp only[cO] at h;split at h
 .rename_i es j;let⟨aw,k,f,u⟩:=aED a j<|bZ.rep (Qc.lits z) m;split at h
  .split at h
   .cases h
   .exact dD.add (v:=.ms st.heap.length m 0 m) (o:=.rows s es) (b:=.blk s aw) a (by simp only[aL,k,Zn,Z9]) ⟨aw,rfl,f.imp λ_ _ h=>h.imp λ_ _ h=>h.mono HM.add⟩ (by rw[q];exact .rs _ _) h
  split at h
  .rename_i l c;have g:=aBK c f;split at h
   .rename_i e;have e:=Zc e;have t:l.length=m:=by rw[<-g.len,f.len,u];simp
    cases pu with
    | true=>
     simp only at h;have he:aL P cf E.fl (.buildSl true s m z i) st.tmps st.heap=some (.sl true<|aw.map λe=>e.map Fk,st.heap):=by simp only[aL,k,Zz]
     split at h
     .cases aw with
      | nil=>exact dD.same a he (.p _ _<|.emp _ _<|.inr<|.inl rfl) h
      | cons=>exact f.elim
     .exact dD.same a he (.p _ _<|Qp.mkS (.inr ⟨_,rfl⟩)<|uD.ls g) h
    | false=>
     exact dD.add (v:=.ms st.heap.length m 0 m) (o:=.lst (lL E d) l) (b:=.blk s aw) a (by simp only[aL,k,Zn,Z9]) ⟨aw,by rw[e],g⟩ (by rw[q,<-t];exact .ms _ (lL E d) l<|by simp) h
   .cases h
  .cases h
 .cases h
theorem aGr[aF]{x:bB}(b:Qt N S st)(h:cO E n d (.nilCheck x) S K=some r): dD P cf E.fl N (.nilCheck x) st K r:=by
 have q:=b.get x;simp only[cO] at h;split at h
 .rename_i a;rw[a] at q;exact dD.same b (by simp only[aL,q.ptr1]) (q.ptr1▸q) h
 .rename_i a;rw[a] at q;let⟨_,_,_,_,_,e⟩:=q.pel1;exact dD.same b (by simp only[aL,e]) (e▸q) h
 .rename_i a;rw[a] at q;let⟨aw,e,_⟩:=(q.pu trivial).inR;exact dD.same b (by simp only[aL,e]) (e▸q) h
 .rename_i a;rw[a] at q;let⟨aw,e,_⟩:=(q.pu trivial).inP;exact dD.same b (by simp only[aL,e]) (e▸q) h
 .rename_i a;rw[a] at q;let⟨aw,e,_⟩:=q.inF;exact dD.same b (by simp only[aL,e]) (e▸q) h
 .cases h
theorem aSc{o:BinOp}{k:IntKind}{a b:Int}{K:TV->Option R}(h:aUC o k a b K=some r): ∃v tv,aAP o k a b=some v/\Qh H tv (.lit v)/\K tv=some r:=by
 have d:∀{c:Bool},Ok (.lit<|.bool c) K=some r->∃v tv,some (Value.bool c)=some v/\Qh H tv (.lit v)/\K tv=some r:=by
  intro c h;let⟨q,i,n⟩:=HU h<|Qh.l (H:=H)<|.bool c;exact⟨_,q,rfl,i,n⟩
 cases o with
 | add=>exact⟨_,_,rfl,Qh.l _,h⟩
 | sub=>exact⟨_,_,rfl,Qh.l _,h⟩
 | mul=>exact⟨_,_,rfl,Qh.l _,h⟩
 | eql=>exact d h
 | neq=>exact d h
 | lss=>exact d h
 | leq=>exact d h
 | gtr=>exact d h
 | geq=>exact d h
 | _=>cases h
theorem aSe[aF]{o:BinOp}{x y:bB}(c:Qt N S st)(h:cO E n d (.ibin o x y) S K=some r): dD P cf E.fl N (.ibin o x y) st K r:=by
 have q:=c.get x;have f:=c.get y;simp only[cO] at h;split at h
 .rename_i u m;rw[m] at q;split at h
  .rename_i k a;split at h
   .rename_i w g;rw[g] at f;split at h
    .rename_i k' b;split at h
     .rename_i e _;subst e;obtain⟨v,tv,j,l,i⟩:=aSc h;exact dD.same c (by simp only[aL,q.inL,f.inL,Zz,j]) l i
     .cases h
    .cases h
   .cases h
  .cases h
 .cases h
theorem aW4[aF]{o:UnOp}{x:bB}(a:Qt N S st)(h:cO E n d (.un o x) S K=some r): dD P cf E.fl N (.un o x) st K r:=by
 have q:=a.get x;simp only[cO] at h;split at h;all_goals first | cases h | skip;all_goals
  split at h
  .rename_i u b;rw[b] at q;split at h
   .exact dD.same a (by simp only[aL,q.inL];rfl) (Qh.l _) h
   .cases h
  .cases h
theorem aEF[aF]{o:Nat}{x:bB}(b:Qt N S st)(h:cO E n d (.fieldAddr o x) S K=some r): dD P cf E.fl N (.fieldAddr o x) st K r:=by
 have q:=b.get x;simp only[cO] at h;split at h
 .rename_i a;rw[a] at q;exact dD.same b (by simp only[aL,q.ptr1]) (.ptr _ _) h
 .rename_i a;rw[a] at q;let⟨k,l,f,c,g,e⟩:=q.pel1;exact dD.same b (by simp only[aL,e]) (.pel _ _ _ k l f c g) h
 .rename_i a;rw[a] at q;let⟨aw,e,c⟩:=(q.pu trivial).inR;exact dD.same b (by simp only[aL,e]) (.p _ _<|Qp.mkR<|c.drop _) h
 .rename_i a;rw[a] at q;let⟨aw,e,c⟩:=(q.pu trivial).inP;exact dD.same b (by simp only[aL,e]) (.p _ _<|Qp.mkR<|c.drop _) h
 .rename_i a;rw[a] at q;exact dD.same b (by simp only[aL,q.rel1]) (.rel _ _ _ _) h
 .cases h
theorem aOW[aF]{agg:Bool}{m o:Nat}{x:bB}(b:Qt N S st)(h:cO E n d (.field agg m o x) S K=some r): dD P cf E.fl N (.field agg m o x) st K r:=by
 have q:=b.get x;simp only[cO] at h;split at h
 .rename_i cs k;rw[k] at q;let⟨aw,g,c⟩:=q.inA;let⟨e,tv,v,a,j,f⟩:=B2 h c;refine dD.same b ?_ j f;simp only[aL,g,e,Zz];cases agg with
  | true=>simp only[Zz,Za] at a |-;rw[a]
  | false=>
   simp only[Zn,Z9] at a |-;split at a
   .rename_i i;rw[i];cases a;rfl
   .cases a
 .cases h
theorem uG{v:TV}{a:AV}{i:Int}(h:aIm v=some i)(q:Qh H v a)(b:0<=i): iC a=some i.toNat:=by
 unfold aIm at h;split at h
 .cases h;rw[q.inL];simp[iC,b]
 .cases h
theorem aJC[aF]{s:Nat}{x i:bB}(a:Qt N S st)(h:cO E n d (.idxAddr s x i) S K=some r): dD P cf E.fl N (.idxAddr s x i) st K r:=by
 have q:=a.get x;have B:=a.get i;simp only[cO] at h;split at h
 .rename_i j A;split at h
  .rename_i k l g;rw[g] at q;split at h
   .rename_i e;have e:=Zc e;let⟨y,t,h⟩:=bG h;let⟨c,F,_⟩:=qD t;let⟨es,D,C⟩:=(q.pu trivial).inS;let⟨H,he,u⟩:=C.get F;rcases D with⟨_,rfl⟩ | ⟨f,G⟩
    .simp at he
    .refine dD.same a ?_ (.p _ _<|Qp.mkR u) h;simp only[aL,uG A B c,G,he];rw[Zu<|by rw[u.len,tR,e]]
   .cases h
  .rename_i k l g;rw[g] at q;split at h
   .rename_i e;have e:=Zc e;let⟨y,t,h⟩:=bG h;let⟨c,F,_⟩:=qD t;let⟨es,D,C⟩:=(q.pu trivial).inV;let⟨H,he,u⟩:=C.get F;rcases D with⟨_,rfl⟩ | ⟨f,G⟩ | G
    .simp at he
    .refine dD.same a ?_ (.p _ _<|Qp.mkR u) h;simp only[aL,uG A B c,G,he];rw[Zu<|by rw[u.len,tR,e]]
    .refine dD.same a ?_ (.p _ _<|Qp.mkR u) h;simp only[aL,uG A B c,G,he];rw[Zu<|by rw[u.len,tR,e]]
   .cases h
  .rename_i id m g;rw[g] at q;split at h
   .rename_i o z;split at h
    .rename_i k l;split at h
     .rename_i e;have e:=Zc e;let⟨es,D,C⟩:=a.hp.lst z;have L:=q.mw z;split at h
      .let⟨y,t,h⟩:=bG h;let⟨c,F,M,J⟩:=aJB t;refine dD.same a ?_ (.pel id j 0 k l z c J) h;simp only[aL,uG A B c,L,D,Ej];rw[Zu ⟨e,C.len,F⟩,Z0]
      .rename_i w;let⟨y,t,h⟩:=bG h;let⟨c,F,M⟩:=qD t;simp only[win,ZH,ZV] at M;have J:(j+((w.1:Nat):Int)).toNat=w.1+j.toNat:=by omega
       refine dD.same (v:=.ptr id l.length (w.1+j.toNat) 0) a ?_ (by rw[<-J];exact .pel id _ 0 k l z (by omega)<|by omega) h;simp only[aL,uG A B c,L,D,Ej];rw[Zu ⟨e,C.len,by omega⟩]
     .cases h
    .cases h
   .cases h
  .rename_i id m g;rw[g] at q;split at h
   .rename_i I;split at h
    .rename_i o z;split at h
     .split at h
      .rename_i e;simp only[Zd] at e;have H:=Zc e.1;have e2:=Zc e.2.1;have R:I<m:=by simpa [YC] using e.2.2
       obtain⟨b,Q,aw,rfl,O⟩:=a.hp.get z;refine dD.same a ?_ (.rel id m I 0) h;have T:iC (aG st.tmps i)=some I:=uG A B<|Wc _;simp only[aL,T,q.rs1,Q];rw[Zu ⟨H,by rw[O.len,e2],R⟩,Z0]
      .cases h
     .cases h
    .cases h
   .cases h
  .cases h
 .cases h
theorem aRT[aF]{x:bB}(w:Qt N S st)(h:cO E n d (.lenS x) S K=some r): dD P cf E.fl N (.lenS x) st K r:=by
 have q:=w.get x;simp only[cO] at h;split at h
 .rename_i m g;refine dD.same w ?_ (Qh.l _) h;generalize cC S.tm x=v at g q;generalize i:aG st.tmps x=a at q;cases v with
  | sl k l=>
   cases g;let⟨es,j,s⟩:=(q.pu trivial).inS;rw[<-s.len];rcases j with⟨rfl,rfl⟩ | ⟨f,rfl⟩<;>simp only[aL,i]<;>rfl
  | vw k l=>
   cases g;let⟨es,j,s⟩:=(q.pu trivial).inV;rw[<-s.len];rcases j with⟨rfl,rfl⟩ | ⟨f,rfl⟩ | rfl<;>simp only[aL,i]<;>rfl
  | emp b=>
   cases g;cases (q.pu trivial) with
   | emp _ _ h=>rcases h with rfl | rfl | ⟨_,rfl⟩<;>simp only[aL,i]<;>rfl
  | lit u=>
   have e:=q.inL;subst e;unfold aRS at g;split at g
   .rename_i e;cases e
   .rename_i e;cases e
   .rename_i e;cases e
   .rename_i e;cases e;cases g;simp only[aL,i];rfl
   .rename_i e;cases e
   .rename_i e;cases e
   .cases g
  | rs id c=>cases g;simp only[aL,i,q.rs1]
  | ms id c=>
   cases q with
   | p _ _ q=>cases q
   | ms _ k l t=>
    simp only[aRS,t] at g;cases g;simp only[aL,i]
   | msn _ c k l t=>
    cases g;simp only[aL,i]
  | _=>cases g
 .cases h
theorem aJJ[aF]{i:Nat}{x:bB}(a:Qt N S st)(h:cO E n d (.extract x i) S K=some r): dD P cf E.fl N (.extract x i) st K r:=by
 have q:=a.get x;simp only[cO] at h;split at h
 .rename_i vs g;rw[g] at q;let⟨aw,e,j⟩:=q.inT;split at h
  .rename_i v k;let⟨b,f,c⟩:=j.get k;exact dD.same a (by simp only[aL,e,f]) c h
  .cases h
 .cases h
theorem zA{v:TV}{a:AV}{i:Int}(h:i64? v=some i)(q:Qh H v a): a=iv i:=by
 unfold i64? at h;split at h
 .split at h
  .split at h
   .cases h;exact q.inL
   .cases h
  .cases h
 .cases h
theorem aLG[aF]{mx:Bool}{g:List bB}(f:Qt N S st)(h:cO E n d (.minmax mx g) S K=some r): dD P cf E.fl N (.minmax mx g) st K r:=by
 simp only[cO] at h;split at h
 .rename_i p c;match g,c with
  | [x,y],c=>
   simp only[ZE,Yn,aQg] at c;split at c
   .rename_i a k;split at c
    .rename_i b j;cases c;have i:=zA k<|f.get x;have e2:=zA j<|f.get y;cases mx with
     | true=>
      refine dD.same f ?_ (Qh.l _) h;have e:aL P cf E.fl (.minmax true [x,y]) st.tmps st.heap=aL P cf E.fl (.minmax true [.tmp 0,.tmp 1]) [aG st.tmps x,aG st.tmps y] st.heap:=rfl;rw[e,i,e2];exact aLv
     | false=>
      refine dD.same f ?_ (Qh.l _) h;have e:aL P cf E.fl (.minmax false [x,y]) st.tmps st.heap=aL P cf E.fl (.minmax false [.tmp 0,.tmp 1]) [aG st.tmps x,aG st.tmps y] st.heap:=rfl;rw[e,i,e2];exact aRB
    .cases c
   .cases c
  | [],c=>cases c
  | [_],c=>cases c
  | _::_::_::_,c=>cases c
 .cases h
end
section
variable [dN]{R:Type}{H H1:TH}{A:aW}{N:Nat}{S:TS}{st:St}{P:Program}{T:List cS}{cf:CF}{op:Jn}{K:TV->TS->Option R}{r:R}{E:XE}{n:Nat}{d:Option Nat}
theorem l9{i:Nat}: ∀{a:List Nat},DO i a=false->i∉a
 | [],_=>by simp
 | j::r,h=>by
  simp only[DO] at h;split at h
  .cases h
  .rename_i e;simp only[ZN,not_or];exact⟨YF e,l9 h⟩
theorem aGv{i:Nat}: ∀{a:List Nat},i∉a->DO i a=false
 | [],_=>rfl
 | j::r,h=>by
  simp only[ZN,not_or] at h;simp only[DO];split
  .rename_i e;exact absurd (Zc e) h.1
  .exact aGv h.2
def HMk(c:List Nat)(H H':TH): Prop:=∀(j k:Nat) (l:List<|den k),j∉c->H[j]?=some (.lst k l)->∃(k':Nat) (b:List<|den k'),H'[j]?=some (.lst k' b)/\b.length=l.length
theorem F4{f:List Nat}(m:HMk f H H1){v:TV}{a:AV}(q:Qh H v a): Qh H1 (F5 f v) a:=by
 cases q with
 | p _ _ q=>
  cases v with
  | ms=>cases q
  | pel=>cases q
  | agg=>cases q
  | tup=>cases q
  | fn=>cases q
  | _=>exact .p _ _ q
 | ms i k l h=>
  simp only[F5];cases e:DO i f with
  | true=>exact Qh.u _
  | false=>let⟨k',c,b,d⟩:=m i k l (l9 e) h;rw[<-d];exact .ms i k' c b
 | msn i n k l h=>
  simp only[F5];cases e:DO i f with
  | true=>exact Qh.u _
  | false=>let⟨k',c,b,d⟩:=m i k l (l9 e) h;rw[<-d];exact .msn i n k' c b
 | pel i j o k l h b d=>
  simp only[F5];cases e:DO i f with
  | true=>exact Qh.u _
  | false=>let⟨k',c,w,x⟩:=m i k l (l9 e) h;rw[<-x];exact .pel i j o k' c w b<|by omega
 | ptr=>exact .ptr _ _
 | mp=>exact .mp _
 | it=>exact .it _
 | rs=>exact .rs _ _
 | rel=>exact .rel _ _ _ _
 | fn vi cs aw b d=>
  cases cs with
  | nil=>
   cases aw with
   | nil=>exact Qh.mkF trivial
   | cons=>cases b
  | cons=>exact Qh.u _
 | agg=>exact Qh.u _
 | tup=>exact Qh.u _
theorem Gx{c:List Nat}(m:HMk c H H1){v:TV}{a:AV}(q:Qh H v a): Qh H1 (BS c v) a:=by
 cases v with
 | agg cs=>
  obtain⟨aw,rfl,b⟩:=q.inA;exact Qh.mkA<|b.mapL λ_ _ q=>F4 m q
 | fn vi cs=>
  obtain⟨aw,rfl,b⟩:=q.inF;exact Qh.mkF<|b.mapL λ_ _ q=>F4 m q
 | tup cs=>exact Qh.u _
 | _=>exact F4 m q
theorem F0{f:TV->TV}{t:Nat}{v:TV}: ∀{tm:TT},dC t (tm.map λp=>(p.1,f p.2))=some v->∃u,dC t tm=some u/\v=f u
 | [],h=>by cases h
 | (s,u)::tm,h=>by
  simp only[ZE,dC] at h |-;split at h
  .cases h;exact⟨u,rfl,rfl⟩
  .exact F0 h
theorem aGx{a:List Nat}{t:Nat}{v:TV}{tm:TT}(h:dC t (aEr a tm)=some v): ∃u,dC t tm=some u/\(v=BS a u\/(a=[]/\v=u)):=by
 cases a with
 | nil=>exact⟨v,h,.inr ⟨rfl,rfl⟩⟩
 | cons k r=>let⟨u,c,b⟩:=F0 h;exact⟨u,c,.inl b⟩
theorem F3{f:List Nat}{A:aW}(d:Qt N S st)(m:HMk f S.hp H1)(g:Qs H1 A): Qt N ⟨aEr f S.tm,H1⟩ ⟨st.tmps,A⟩:=by
 refine⟨d.ln,λt v n=>?_,g⟩;let⟨u,j,e⟩:=aGx n;let⟨a,b,c⟩:=d.tm t u j;rcases e with rfl | ⟨rfl,rfl⟩
 .exact⟨a,b,Gx m c⟩
 .exact⟨a,b,c.mono λi k l h=>m i k l (by simp) h⟩
theorem aEt{a:List Nat}{o:oT}{b:dI}(m:HMk a H H1)(h:Qo H o b): Qo H1 (Gw a o) b:=by
 cases o with
 | box cs=>let⟨aw,e,q⟩:=h;exact⟨aw,by simpa using e,q.mapL λ_ _ q=>Gx m q⟩
 | rows s es=>let⟨aw,e,q⟩:=h;exact⟨aw,e,q.mapL λ_ _ q=>q.mapL λ_ _ q=>Gx m q⟩
 | _=>exact h
theorem aEl{a:List Nat}{i k:Nat}{l:List<|den k}(h:H[i]?=some (.lst k l)): (H.map<|Gw a)[i]?=some (.lst k l):=by
 rw[Zk,h];rfl
theorem aEs{id:Nat}{o:oT}{b:dI}(d:Qt N S st)(n:Gw [id] o=o)(g:∀H,HMk [id] S.hp H->H[id]?=some o->Qo H o b)(a:id<S.hp.length): Qt N (iM id<|hK S id o) ⟨st.tmps,st.heap.set id b⟩:=by
 have e:(iM id<|hK S id o).hp=(S.hp.map<|Gw [id]).set id o:=by
  simp only[iM,hK,Xz,n]
 have m:HMk [id] S.hp (iM id<|hK S id o).hp:=by
  intro j k l i h;rw[e,Zv<|by simpa [Wy] using i];exact⟨k,l,aEl h,rfl⟩
 refine F3 (S:=S) d m ?_;have f:bZ (Qo (iM id<|hK S id o).hp) (S.hp.map<|Gw [id]) st.heap:=d.hp.mapL λ_ _ h=>aEt m h;have c:=f.set id<|g _ m<|by rw[e];simp[a]
 rw[<-e] at c;exact c
theorem JT{id k:Nat}{l a:List<|den k}{b:dI}(e:Qt N S st)(f:S.hp[id]?=some (.lst k l))(d:∀H,Qo H (.lst k a) b): Qt N (iM id<|hK S id<|.lst k a) ⟨st.tmps,st.heap.set id b⟩:=
 aEs e rfl (λH _ _=>d H) (Ze.1 f).1
theorem jY{a bytes:Nat}(b:a<=1000000)(c:bytes<=100000): lI a bytes=true:=by
 have:=Y8 b c;simp[lI];exact⟨by omega,by omega⟩
theorem Ql.all{k s:Nat}{l:List<|den k}{es:List<|List AV}(h:Ql k l es)(e:(cds k).length=s): eZ s es=true:=by
 unfold eZ;rw[Yl];intro x c;let⟨i,b⟩:=WR c;have a:i<l.length:=by rw[<-h.len];exact (Ze.1 b).1
 have:=(h.at (Zb a) b).len;rw[this,tR,e];simp
theorem xY{α:Type}{l ys:List α}{a:Nat}(h:a+ys.length<=l.length): (aQ l a ys).length=l.length:=by
 simp only[aQ,Zh,ZH,ZV];omega
theorem CS{α:Type}(l:List α)(a:Nat): aQ l a []=l:=by simp[aQ]
theorem NG{α:Type}{l:List α}{i:Nat}{x:α}(h:l[i]?=some x): l.set i x=l:=by
 apply Ym;intro j;rw[Z5];split
 .rename_i e;subst e;rw[Zu (Ze.1 h).1,h]
 .rfl
theorem aBk{α:Type}{l ys a:List α}{w:Nat×Nat}(h:SD l w ys=some a): a=aQ l (w.1+w.2) ys/\w.1+w.2+ys.length<=l.length/\l.length+ys.length<=1000000:=by
 unfold SD at h;split at h
 .rename_i b;cases h;exact⟨rfl,b⟩
 .cases h
theorem aKb{α:Type}{l ys a:List α}{w:Nat×Nat}(h:aSM l w ys=some a): (w.1=0/\w.2=l.length/\a=l++ys/\l.length+ys.length<=1000000)\/(a=aQ l (w.1+w.2) ys/\w.1+w.2+ys.length<=l.length/\l.length+ys.length<=1000000):=by
 unfold aSM at h;split at h
 .rename_i b;cases h;exact .inl ⟨b.1,b.2.1,rfl,b.2.2⟩
 .exact .inr (aBk h)
theorem aBj{fl id s bytes tot off len:Nat}{H:aW}{es ys:List<|List AV}(b:H[id]?=some (.blk s es))(f:es.length=tot)(d:eZ s ys=true)(j:0<s)(i:lI ys.length bytes=true)(c:lI (tot+ys.length) bytes=true)(e:fl<=id)(h:off+len+ys.length<=tot):
 cR fl H s bytes (.ms id tot off len) ys=some (.ms id tot off<|len+ys.length,H.set id<|.blk s<|aQ es (off+len) ys):=by
 unfold cR;simp only[d,j,i,b,f,c,e,Y7,Zz];by_cases g:ys.length=0
 .have:ys=[]:=ZK.1 g;subst this;simp only[Z1,Xm,Zz,CS,NG b]
 .rw[ZF g,ZF<|by omega,Zu h]
theorem dD.put[aF]{fl:Nat}{v:AV}{tv:TV}{id k:Nat}{l:List<|den k}{a:List<|den k}{b:dI}(f:Qt N S st)(i:S.hp[id]?=some (.lst k l))(e:a.length=l.length)(he:aL P cf fl op st.tmps st.heap=some (v,st.heap.set id b))(q:Qo (S.hp.set id<|.lst k a) (.lst k a) b)(g:Qh (S.hp.set id<|.lst k a) tv v)(h:K tv (hK S id<|.lst k a)=some r): dD P cf fl N op st K r:=
 dD.set f he (HM.set λm n d=>by rw[i] at d;cases d;exact⟨k,a,rfl,e⟩) q g h
theorem aMW[aF]{s bytes:Nat}{x y:bB}(p:Qt N S st)(h:cO E n d (.append s bytes x y) S K=some r): dD P cf E.fl N (.append s bytes x y) st K r:=by
 have q:=p.get x;have V:=p.get y;have J:=p.hp.ln;have Q:∀v,cC S.tm x=v->TG v=true->(match Nat.beq (cds<|lL E d).length s&&Nat.blt 0 s with
  | true=>match rdX S.hp (lL E d) (cC S.tm y) with
   | some ys=>match Nat.ble bytes 100000 with
    | true=>cnd (List.isEmpty ys) (K v S)<|bnd (app [] ys) λu=>K (.ms S.hp.length none)<|Ln S<|.lst (lL E d) u
    | false=>none
   | none=>none
  | false=>none)=some r->dD P cf E.fl N (.append s bytes x y) st K r:=by
  intro v Z c h;rw[Z] at q;have j:aG st.tmps x=.lit bS\/aG st.tmps x=.sl true []:=by
   unfold TG at c;split at c
   .subst c;cases (q.pu trivial) with
    | emp _ _ h=>
     rcases h with h | h | ⟨h,_⟩
     .exact .inl h
     .exact .inr h
     .cases h
   .split at c
    .split at c
     .split at c
      .split at c
       .exact .inl q.inL
       .cases c
      .cases c
     .cases c
    .cases c
   .cases c
  split at h
  .rename_i A;simp only[Zd] at A;have t:=Zc A.1;have e2:0<s:=by simpa [YC] using A.2
   split at h
   .rename_i ys C;let⟨es,F,a⟩:=aFT C V p.hp;split at h
    .rename_i i;have i:=Zj i;have W:=a.all t;rcases L4 h with⟨R,h⟩ | ⟨R,h⟩
     .have B:ys=[]:=by simpa using R
      subst B;have e4:es=[]:=ZK.1 a.len;subst e4;refine dD.same p ?_ q h;simp only[aL,F];rcases j with j | j<;>rw[j]<;>simp[cR,eZ,e2,lI,bS]
     .let⟨u,g,h5⟩:=bG h;clear h;let⟨B,f⟩:=So g;rw[Xt] at B;subst B;simp only[Z1,Z0] at f;have U:lI es.length bytes=true:=jY (by rw[a.len];exact f) i;have X:es.length≠0:=by
       rw[a.len];intro e;have:=ZK.1 e;subst this;cases R
      refine dD.add (v:=.ms st.heap.length u.length 0 u.length) (o:=.lst (lL E d) u) (b:=.blk s es) p ?_ ⟨es,by rw[t],a⟩ (by rw[J];exact .ms _ (lL E d) u<|by simp) h5;simp only[aL,F,<-a.len];rcases j with j | j<;>rw[j]
      .simp[cR,bS,W,e2,U,X]
      .have M:eZ s ([]:List<|List AV)=true:=rfl;unfold cR;simp only[W,e2,U,X,M,Y7,Zz,Z9,Z1,Z0,Xt]
    .cases h
   .cases h
  .cases h
 simp only[cO] at h;split at h
 .rename_i id m j;rw[j] at q;split at h
  .rename_i o D;split at h
   .rename_i k l;split at h
    .rename_i ys C;let⟨es,F,a⟩:=aFT C V p.hp;split at h
     .rename_i A;simp only[Zd] at A;have t:=Zc A.1;have e2:0<s:=by simpa [YC] using A.2.1
      have G:=Zj A.2.2;split at h
      .rename_i i;have i:=Zj i;let⟨L,O,I⟩:=p.hp.lst D;rw[t] at O;have T:=q.mw D;split at h
       .let⟨u,g,h⟩:=bG h;let⟨B,f⟩:=So g;subst B;have he:=HA (fl:=E.fl) (bytes:=bytes) (tot:=l.length) (ys:=es) O I.len (a.all t) e2 (jY (by rw[a.len];omega) i) (jY (by rw[a.len];omega) i) G;refine⟨.ms id (l.length+es.length) 0<|l.length+es.length,st.heap.set id<|.blk s<|L++es,.ms id none,iM id<|hK S id<|.lst k<|l++ys,?_,JT p D λH=>⟨L++es,by rw[t],I.app a⟩,?_,h⟩
        .simp only[aL,F,T];exact he
        .have:=Qh.ms (H:=(iM id<|hK S id<|.lst k<|l++ys).hp) id k (l++ys)<|by simp[iM,hK,Zk,(Ze.1 D).1,Gw]
         rw[Zh,<-a.len] at this;exact this
       .rename_i w;split at h
        rotate_left
        .let⟨u,g,h⟩:=bG h;rcases aKb g with⟨w1,w2,B,f⟩ | ⟨B,f,Y⟩
         .subst B;have he:=HA (fl:=E.fl) (bytes:=bytes) (tot:=l.length) (ys:=es) O I.len (a.all t) e2 (jY (by rw[a.len];omega) i) (jY (by rw[a.len];omega) i) G;refine⟨.ms id (l.length+es.length) 0<|l.length+es.length,st.heap.set id<|.blk s<|L++es,.ms id (some (w.1,w.2+ys.length)),iM id<|hK S id<|.lst k<|l++ys,?_,JT p D λH=>⟨L++es,by rw[t],I.app a⟩,?_,h⟩
          .simp only[aL,F,T,Ej,w1,w2];exact he
          .have:=Qh.msn (H:=(iM id<|hK S id<|.lst k<|l++ys).hp) id (w.1,w.2+ys.length) k (l++ys)<|by simp[iM,hK,Zk,(Ze.1 D).1,Gw]
           simp only[Zh,w1,w2,<-a.len] at this |-;exact this
         .subst B;have z:(aQ l (w.1+w.2) ys).length=l.length:=xY<|by omega
          refine⟨.ms id l.length w.1<|w.2+es.length,st.heap.set id<|.blk s<|aQ L (w.1+w.2) es,.ms id (some (w.1,w.2+ys.length)),iM id<|hK S id<|.lst k<|aQ l (w.1+w.2) ys,?_,JT p D λH=>⟨_,by rw[t],I.spl a⟩,?_,h⟩
          .simp only[aL,F,T,Ej];exact aBj O I.len (a.all t) e2 (jY (by rw[a.len];omega) i) (jY (by rw[a.len];omega) i) G<|by rw[a.len];exact f
          .have:=Qh.msn (H:=(iM id<|hK S id<|.lst k<|aQ l (w.1+w.2) ys).hp) id (w.1,w.2+ys.length) k (aQ l (w.1+w.2) ys)<|by simp[iM,hK,Zk,(Ze.1 D).1,Gw]
           rw[z] at this;simp only[<-a.len] at this |-;exact this
        let⟨u,g,h⟩:=bG h;let⟨B,f,Y⟩:=aBk g;subst B;have z:(aQ l (w.1+w.2) ys).length=l.length:=xY<|by omega
        refine dD.put (v:=.ms id l.length w.1<|w.2+es.length) (b:=.blk s<|aQ L (w.1+w.2) es) p D z ?_ ⟨_,by rw[t],I.spl a⟩ (by have:=Qh.msn (H:=S.hp.set id<|.lst k<|aQ l (w.1+w.2) ys) id (w.1,w.2+ys.length) k _<|Z3 (Ze.1 D).1;rw[z,<-a.len] at this;rw[<-a.len];exact this) h;simp only[aL,F,T,Ej];exact aBj O I.len (a.all t) e2 (jY (by rw[a.len];omega) i) (jY (by rw[a.len];omega) i) G<|by rw[a.len];exact f
      .cases h
     .cases h
    .cases h
   .cases h
  .cases h
 .split at h
  .rename_i c;exact Q _ rfl c h
  .cases h
theorem aBW{w:Nat}: ∀{b:List Sh},okA w b=true->∀s∈b,(∃k,s=.w k)\/(w=0/\∃k,s=.v k)
 | [],_,s,a=>by cases a
 | s'::r,h,s,a=>by
  have c:((∃k,s'=.w k)\/(w=0/\∃k,s'=.v k))/\okA w r=true:=by
   cases s' with
   | w k=>exact⟨.inl ⟨k,rfl⟩,h⟩
   | v k=>
    simp only[okA] at h;split at h
    .exact⟨.inr ⟨rfl,k,rfl⟩,h⟩
    .cases h
   | _=>cases h
  rcases ZN.1 a with rfl | a
  .exact c.1
  .exact aBW c.2 s a
theorem aQB{b:List Sh}{vs:List TV}{p:fU b}{aw:List AV}{c:TH}(d:okA 0 b=true)(h:Et 0 c b vs=some p)(q:Qc H vs aw): Qc H1 (Of b p) (aw.map JO)/\∀a∈aw,sI a=true:=
 aBI (λs e=>by
  rcases aBW d s e with⟨k,rfl⟩ | ⟨_,k,rfl⟩
  .exact λh q=>⟨aW3 (aRu h q).1,(aRu (H1:=[]) h q).2⟩
  .exact λh q=>aRu h q) h q
theorem aMU{a:List Sh}{vs:List TV}{p:fU a}{aw:List AV}(d:okA 1 a=true)(h:Et 1 H a vs=some p)(q:Qc H vs aw)(c:Qs H A): Qc H1 (Of a p)<|aw.map<|cL A:=
 (aBI (G:=λ_=>True) (λs b=>by
  rcases aBW d s b with⟨k,rfl⟩ | ⟨e,_⟩
  .exact λh q=>⟨aWG h q c,trivial⟩
  .cases e) h q).1
theorem aTQ{c:List Nat}{vs:List TV}{p:fU<|c.map .v}{aw:List AV}(h:Et 2 H (c.map .v) vs=some p)(q:Qc H vs aw)(d:Qs H A): Qc H1 (Of (c.map .v) p) (aw.map<|dZ A 0)/\∀a∈aw,∀l,a≠.tup l:=
 aBI (λs b=>by
  obtain⟨k,_,rfl⟩:=Yh.1 b;exact λh q=>aWF h q d) h q
theorem aDT{aw:List AV}(h:∀a∈aw,sI a=true): gR aw=true:=by
 induction aw with
 | nil=>rfl
 | cons a r c=>simp only[gR,h a ZM];exact c λb d=>h b<|ZQ _ d
theorem M2[aF]{vi w:Nat}{c:CSp}{vs:List TV}{aw:List AV}{K:TV->Option R}(t:FOK P T vi c)(h:Sk n w c vs H K=some r)(z:∀p,okA w c.ka=true->Et w H c.ka vs=some p->Qc [] (Of c.ka p) aw):
 ∃g a tv,fH P T n 0 vi aw []=some (a,g)/\Qh H1 tv (fD g 0 a)/\K tv=some r:=by
 unfold Sk at h;split at h
 .rename_i p s;split at h
  .cases h
  .rename_i y;let⟨x,u,h⟩:=bG h;let⟨f,g,o,k,j,_⟩:=t n p x u aw<|z p y s;have k:=k H1;let⟨i,d,h⟩:=aHq h k;refine⟨g,kB f,?_⟩;split at h
   .rename_i v;match f,d,j with
    | [a],d,j=>
     refine⟨v,o,?_,h⟩;have e:fD g 0 a=dZ g 0 a:=by
      cases a with
      | tup l=>exact (j _ ZM l rfl).elim
      | _=>rfl
     show Qh H1 v<|fD g 0 a;rw[e];exact d.1
   .rename_i m;refine⟨.tup i,o,?_,h⟩;match f,d with
    | [],d=>exact Qh.mkT d
    | [a],d=>
     match i,d with
     | [v],_=>exact (m v rfl).elim
    | a::b::f,d=>exact Qh.mkT d
 .cases h
theorem G9[aF](a:Qt N S st): ∀(b:List bB),Qc S.hp (b.map<|cC S.tm)<|b.map<|aG st.tmps
 | []=>trivial
 | x::r=>⟨a.get x,G9 a r⟩
theorem aQA[aF]{vi:Nat}{c:CSp}{d:List bB}(j:FOK P T vi c)(k:Qt N S st)(h:Sk n 0 c (d.map<|cC S.tm) [] (λv=>K v S)=some r):
 ∃v tv,Eb (fH P T n) 0 true vi (d.map<|aG st.tmps) st.heap=some (v,st.heap)/\Qh S.hp tv v/\K tv S=some r:=by
 have q:=G9 k d;have b:Et 0 [] c.ka (d.map<|cC S.tm)≠none:=by
  intro e;simp only[Sk,e] at h;cases h
 let⟨p,b⟩:=Option.ne_none_iff_exists'.1 b;have g:okA 0 c.ka=true:=by
  cases e:okA 0 c.ka with
  | true=>rfl
  | false=>simp only[Sk,b,e] at h;cases h
 have f:=aDT (aQB (H1:=[]) g b q).2;let⟨o,a,tv,l,m,i⟩:=M2 (H1:=S.hp) (aw:=(d.map<|aG st.tmps).map JO) j h λp g b=>(aQB g b q).1;exact⟨_,tv,by simp only[Eb,f,l],m,i⟩
theorem aRP[aF]{vi:Nat}{a:List bB}(b:Qt N S st)(h:cO E n d (.mkFn vi a) S K=some r): dD P cf E.fl N (.mkFn vi a) st K r:=
 dD.same b rfl (Qh.mkF<|G9 b a) h
theorem aPy[aF]{vi:Nat}{b:List bB}(m:∀vi c,E.cs vi=some c->FOK P T vi c)(e:Qt N S st)(h:cO E n d (.callB vi b) S K=some r): dD P (fH P T n) E.fl N (.callB vi b) st K r:=by
 simp only[cO] at h;split at h
 .rename_i c k;have q:=G9 e b;let⟨o,a,tv,f,g,i⟩:=M2 (H1:=S.hp) (aw:=(b.map<|aG st.tmps).map<|cL st.heap) (m vi c k) h λp l j=>aMU l j q e.hp;exact dD.same e (by simp only[aL,f]) g i
 .cases h
end
theorem aAJ: ∀(c:List Bool) (tm:List AV),(cU c tm).length=tm.length
 | [],tm=>by simp[cU]
 | b::a,[]=>rfl
 | b::a,v::vs=>by simp[cU,aAJ a vs]
theorem JQ: ∀(c:List Bool) (tm:List AV) (t:Nat),c[t]?=some true->(cU c tm)[t]?=tm[t]?
 | [],tm,t,h=>by simp at h
 | b::a,[],t,h=>rfl
 | b::a,v::vs,0,h=>by
  simp only[Zt,Za] at h;subst h;simp[cU]
 | b::a,v::vs,t+1,h=>by
  simp only[cU,ZL];exact JQ a vs t<|by simpa using h
section
variable [dN]{R:Type}{H H1:TH}{A:aW}{N:Nat}{S:TS}{st:St}
theorem PN{c:List Bool}{t:Nat}{v:TV}: ∀{tm:TT},dC t (Cm c tm)=some v->c[t]?=some true/\dC t tm=some v
 | [],h=>by cases h
 | (s,u)::tm,h=>by
  have a:c[s]?≠some true->dC t (Cm c tm)=some v->c[t]?=some true/\dC t ((s,u)::tm)=some v:=by
   intro f h;let⟨g,i⟩:=PN h;refine⟨g,?_⟩;simp only[dC];split
   .rename_i e;have e:=Zc e;subst e;exact (f g).elim
   .exact i
  simp only[Cm] at h;split at h
  .rename_i b d;split at h
   .simp only[dC] at h |-;split at h
    .rename_i e;have e:=Zc e;subst e;exact⟨d,h⟩
    .exact PN h
   .exact a (by rw[d];simp) h
  .rename_i d;exact a (by rw[d];simp) h
theorem Kx(a:Qt N S st)(b:List Bool): Qt N ⟨Cm b S.tm,S.hp⟩ ⟨cU b st.tmps,st.heap⟩:=by
 refine⟨by rw[aAJ];exact a.ln,λt v h=>?_,a.hp⟩;let⟨c,d⟩:=PN h;rw[JQ _ _ _ c];exact a.tm t v d
theorem n7{n i k:Nat}{l:List<|den k}(a:i<n)(h:H[i]?=some (.lst k l)): ((H.take n).map<|iU n)[i]?=some (.lst k l):=by
 rw[Zk,Zs,Zu a,h];rfl
structure Cln(n:Nat)(g:AV->AV): Prop where
 l:∀v,g (.lit v)=.lit v
 s:∀f es,g (.sl f es)=.sl f es
 w:∀es,g (.vw es)=.vw es
 r:∀es,g (.rptr es)=.rptr es
 p:∀es,g (.sptr es)=.sptr es
 m:∀es,g (.rmp es)=.rmp es
 ms:∀i a b c,i<n->g (.ms i a b c)=.ms i a b c
 pt:∀i a b c,i<n->g (.ptr i a b c)=.ptr i a b c
 mp:∀i,i<n->g (.mp i)=.mp i
 it:∀i,i<n->g (.it i)=.it i
 f:∀v,g (.fn v [])=.fn v []
theorem aVb(n:Nat): Cln n<|mT n:=⟨λ_=>rfl,λ_ _=>rfl,λ_=>rfl,λ_=>rfl,λ_=>rfl,λ_=>rfl,λ_ _ _ _ h=>by simp[mT,h],λ_ _ _ _ h=>by simp[mT,h],λ_ h=>by simp[mT,h],λ_ h=>by simp[mT,h],λ_=>rfl⟩
theorem aVa(n:Nat): Cln n<|jW n:=⟨λ_=>rfl,λ_ _=>rfl,λ_=>rfl,λ_=>rfl,λ_=>rfl,λ_=>rfl,λ_ _ _ _ h=>by simp[jW,mT,h],λ_ _ _ _ h=>by simp[jW,mT,h],λ_ h=>by simp[jW,mT,h],λ_ h=>by simp[jW,mT,h],λ_=>rfl⟩
theorem aQ8(n:Nat): Cln n id:=⟨λ_=>rfl,λ_ _=>rfl,λ_=>rfl,λ_=>rfl,λ_=>rfl,λ_=>rfl,λ_ _ _ _ _=>rfl,λ_ _ _ _ _=>rfl,λ_ _=>rfl,λ_ _=>rfl,λ_=>rfl⟩
theorem o7{n:Nat}{g:AV->AV}(c:Cln n g){v:TV}{a:AV}(q:Qh H v a): Qh ((H.take n).map<|iU n) (cV n v)<|g a:=by
 have d:∀{i:Nat},Nat.blt i n=true->i<n:=λe=>by simpa [YC] using e
 cases q with
 | p _ _ q=>
  cases v with
  | undef=>exact Qh.u _
  | lit u=>cases q;rw[c.l];exact Qh.l _
  | emp b=>cases q with
   | emp _ _ h=>rcases h with rfl | rfl | ⟨rfl,rfl⟩<;>first | (rw[c.l];exact .p _ _<|.emp _ _<|by simp) | (rw[c.s];exact .p _ _<|.emp _ _<|by simp)
  | sl k l=>
   let⟨es,t,y⟩:=q.inS;rcases t with⟨rfl,rfl⟩ | ⟨f,rfl⟩<;>first | (rw[c.l];exact .p _ _ q) | (rw[c.s];exact .p _ _ q)
  | vw k l=>
   let⟨es,t,y⟩:=q.inV;rcases t with⟨rfl,rfl⟩ | ⟨f,rfl⟩ | rfl<;>first | (rw[c.l];exact .p _ _ q) | (rw[c.s];exact .p _ _ q) | (rw[c.w];exact .p _ _ q)
  | rptr cs=>obtain⟨aw,rfl,_⟩:=q.inR;rw[c.r];exact .p _ _ q
  | sptr k x=>obtain⟨aw,rfl,_⟩:=q.inP;rw[c.p];exact .p _ _ q
  | rmp=>let⟨rows,t,_⟩:=q.inM;rcases t with⟨rfl,_⟩ | rfl<;>first | (rw[c.l];exact .p _ _ q) | (rw[c.m];exact .p _ _ q)
  | _=>cases q
 | ms i k l h=>
  simp only[cV];split
  .rename_i e;rw[c.ms _ _ _ _<|d e];exact Qh.ms i k l<|n7 (d e) h
  .exact Qh.u _
 | msn i m k l h=>
  simp only[cV];split
  .rename_i e;rw[c.ms _ _ _ _<|d e];exact Qh.msn i m k l<|n7 (d e) h
  .exact Qh.u _
 | ptr i o=>
  simp only[cV];split
  .rename_i e;rw[c.pt _ _ _ _<|d e];exact .ptr i o
  .exact Qh.u _
 | pel i j o k l h t y=>
  simp only[cV];split
  .rename_i e;rw[c.pt _ _ _ _<|d e];exact Qh.pel i j o k l (n7 (d e) h) t y
  .exact Qh.u _
 | mp i=>
  simp only[cV];split
  .rename_i e;rw[c.mp _<|d e];exact .mp i
  .exact Qh.u _
 | it i=>
  simp only[cV];split
  .rename_i e;rw[c.it _<|d e];exact .it i
  .exact Qh.u _
 | rs i m=>
  simp only[cV];split
  .rename_i e;rw[c.ms _ _ _ _<|d e];exact .rs i m
  .exact Qh.u _
 | rel i m j o=>
  simp only[cV];split
  .rename_i e;rw[c.pt _ _ _ _<|d e];exact .rel i m j o
  .exact Qh.u _
 | fn vi cs aw t y=>
  cases cs with
  | nil=>
   cases aw with
   | nil=>rw[c.f];exact Qh.mkF trivial
   | cons=>cases t
  | cons=>exact Qh.u _
 | agg=>exact Qh.u _
 | tup=>exact Qh.u _
theorem Ea{n:Nat}{v:TV}{a:AV}(q:Qh H v a): Qh ((H.take n).map<|iU n) (jI n v) (jW n a)/\Qh ((H.take n).map<|iU n) (jI n v) a:=by
 cases v with
 | fn vi cs=>
  obtain⟨aw,rfl,b⟩:=q.inF;exact⟨Qh.mkF<|b.map λ_ _ q=>o7 (aVb n) q,Qh.mkF<|b.mapL λ_ _ q=>o7 (aQ8 n) q⟩
 | _=>exact⟨o7 (aVa n) q,o7 (aQ8 n) q⟩
theorem aIE{n:Nat}{v:TV}{a:AV}(q:Qh H v a): Qh ((H.take n).map<|iU n) (xE n v)<|Sc n a:=by
 cases v with
 | agg cs=>
  obtain⟨aw,rfl,c⟩:=q.inA;exact Qh.mkA<|c.map λ_ _ q=>(Ea q).1
 | undef=>exact Qh.u _
 | tup=>exact Qh.u _
 | _=>
  have h:=(Ea (n:=n) q).1;cases a with
  | agg=>
   cases q with
   | p _ _ q=>cases q<;>simp_all
  | tup=>
   cases q with
   | p _ _ q=>cases q<;>simp_all
  | _=>exact h
theorem aJ3(n:Nat): P5<|Sd n:=⟨λv=>.inl rfl,λf es=>⟨f,rfl⟩,λ_=>rfl,λ_=>rfl⟩
theorem o6{n:Nat}{o:oT}{b:dI}(h:Qo H o b): Qo ((H.take n).map<|iU n) (iU n o) (bY n b)/\Qo ((H.take n).map<|iU n) (iU n o) b:=by
 cases o with
 | box cs=>
  obtain⟨aw,rfl,q⟩:=h;exact⟨⟨aw.map<|jW n,by simp[bY],q.map λ_ _ q=>(Ea q).1⟩,⟨aw,by simp,q.mapL λ_ _ q=>(Ea q).2⟩⟩
 | rows s es=>
  obtain⟨aw,rfl,q⟩:=h;exact⟨⟨aw.map λe=>e.map<|jW n,rfl,q.map λ_ _ q=>q.map λ_ _ q=>(Ea q).1⟩,⟨aw,rfl,q.mapL λ_ _ q=>q.mapL λ_ _ q=>(Ea q).2⟩⟩
 | lst k l=>
  obtain⟨es,rfl,q⟩:=h;exact⟨⟨es.map λe=>e.map<|jW n,rfl,(aEh n).ls q⟩,⟨es,rfl,q⟩⟩
 | map kk c m=>
  obtain⟨rows,rfl,q⟩:=h;refine⟨?_,⟨rows,rfl,q⟩⟩;cases i:ag c with
  | true=>
   have d:Qm c m<|rows.map λr=>r.map<|jW n:=q.mapR λ_ _ h=>(aEh n).r h;exact⟨_,congrArg dI.mp<|J0 (g:=jW n) λr=>by rw[i];rfl,d⟩
  | false=>
   have d:Qm c m<|rows.map λr=>r.map<|Sd n:=q.mapR λ_ _ h=>(aJ3 n).r h;exact⟨_,congrArg dI.mp<|J0 (g:=Sd n) λr=>by rw[i];cases r<;>rfl,d⟩
 | it=>subst h;exact⟨rfl,rfl⟩
 | gone=>exact⟨trivial,trivial⟩
 | fr k a=>
  simp only[iU];split
  .rename_i e;exact⟨.s _ _ n (Zj e) h,h⟩
  .exact⟨trivial,trivial⟩
theorem JW{fl:Nat}(b:Qt N S st)(live:List Bool)(tr:Bool)(n:Nat)(g:fl<=n): Qt N (Qv live tr n S)<|dL (some live) tr fl n st:=by
 have h:=Kx b live;cases tr with
 | false=>exact h
 | true=>
  refine⟨by simp only[dL,Zz,aAI,ZO];exact h.ln,λt v c=>?_,?_⟩
  .simp only[Qv] at c;obtain⟨u,m,rfl⟩:=F0 c;let⟨a,i,d⟩:=h.tm t u m;refine⟨Sc n a,?_,aIE d⟩;simp only[dL,Zz,aAI,Zk];rw[i];rfl
  .simp only[dL,Zz,Qv];have e:∀{α β:Type} (f:α->β) (l:List α),(l.take n).map f=(l.take fl).map f++((l.take n).drop fl).map f:=by
    intro α β f l;rw[<-YJ];congr 1;conv=>lhs;rw[<-YT fl<|l.take n,Y9,Yq g]
   have q:=b.hp.take n;have o:bZ (Qo S.hp) (S.hp.take fl)<|st.heap.take fl:=b.hp.take fl;have k:bZ (Qo S.hp) ((S.hp.take n).drop fl)<|(st.heap.take n).drop fl:=q.drop fl;show Qs ((S.hp.take n).map<|iU n) _;rw[show Qs ((S.hp.take n).map<|iU n)=bZ (Qo<|(S.hp.take n).map<|iU n) ((S.hp.take n).map<|iU n) from rfl];rw[show bZ (Qo<|(S.hp.take n).map<|iU n) ((S.hp.take n).map<|iU n)=bZ (Qo<|(S.hp.take n).map<|iU n) ((S.hp.take fl).map (iU n)++((S.hp.take n).drop fl).map (iU n)) from by rw[<-e]];exact (o.mapL λ_ _ q=>(o6 q).2).app<|k.map λ_ _ q=>(o6 q).1
def aMf: TV->Bool
 | .sl _ _=>true
 | .rmp _ _ _=>true
 | .tup _=>true
 | _=>false
def aVm(m:TV)(i:Nat): Prop:=(∃n,m=.ms i n)\/∃j o,m=.pel i j o
structure Rj(H:TH)(m v:TV): Prop where
 q:∀H',(∀i,aVm m i->∀(k:Nat) (l:List (den k)),H[i]?=some (.lst k l)->∃(k':Nat) (l':List (den k')),H'[i]?=some (.lst k' l')/\l'.length=l.length)->∀a,Qh H v a->Qh H' m a
 s:aMf v=true->aMf m=true->m=v
theorem aDD{c v:TV}(h:Ow c v=true): Rj H c v:=by
 cases c with
 | undef=>exact⟨λ_ _ a _=>Qh.u a,λ_ e=>by cases e⟩
 | ms i n=>
  cases n with
  | some n=>cases h
  | none=>
   cases v with
   | ms j m=>
    cases m with
    | some m=>cases h
    | none=>
     have e:=Zc h;subst e;refine⟨λH' m a q=>?_,λ_ e=>by cases e⟩;cases q with
     | p _ _ q=>cases q
     | ms _ k l h=>
      let⟨k',G,C,D⟩:=m i (.inl ⟨none,rfl⟩) k l h;rw[<-D];exact .ms _ k' G C
   | _=>cases h
 | ptr i o=>
  cases v with
  | ptr j u=>
   simp only[Ow] at h;split at h
   .rename_i e;have e:=Zc e;have e2:=Zc h;subst e;subst e2;exact⟨λH' _ a q=>q.ptr1▸.ptr _ _,λ_ e=>by cases e⟩
   .cases h
  | _=>cases h
 | mp i=>
  cases v with
  | mp j=>
   have e:=Zc h;subst e;refine⟨λH' _ a q=>?_,λ_ e=>by cases e⟩;cases q with
   | p _ _ q=>cases q
   | mp=>exact .mp _
  | _=>cases h
 | it i=>
  cases v with
  | it j=>
   have e:=Zc h;subst e;refine⟨λH' _ a q=>?_,λ_ e=>by cases e⟩;cases q with
   | p _ _ q=>cases q
   | it=>exact .it _
  | _=>cases h
 | rs i n=>
  cases v with
  | rs j m=>
   simp only[Ow] at h;split at h
   .rename_i e;have e:=Zc e;have e2:=Zc h;subst e;subst e2;exact⟨λH' _ a q=>q.rs1▸.rs _ _,λ_ e=>by cases e⟩
   .cases h
  | _=>cases h
 | fn i cs=>
  cases cs with
  | cons=>cases h
  | nil=>
   cases v with
   | fn j ds=>
    cases ds with
    | cons=>cases h
    | nil=>
     have e:=Zc h;subst e;refine⟨λH' _ a q=>?_,λ_ e=>by cases e⟩;obtain⟨aw,rfl,E⟩:=q.inF;cases aw with
     | nil=>exact Qh.mkF trivial
     | cons=>exact E.elim
   | _=>cases h
 | lit u=>
  have g:v=.lit u->Rj H (.lit u) v:=by
   rintro rfl;exact⟨λH' _ a q=>q.inL▸Qh.l _,λ_ e=>by cases e⟩
  cases u with
  | int k a=>
   cases v with
   | lit y=>
    cases y with
    | int k' b=>
     simp only[Ow] at h;split at h
     .rename_i e _;split at h
      .rename_i F _;subst e;subst F;exact g rfl
      .cases h
     .cases h
    | _=>cases h
   | _=>cases h
  | bool b=>
   cases v with
   | lit y=>
    cases y with
    | bool c=>
     apply g;cases b<;>cases c<;>first | rfl | cases h
    | _=>cases h
   | _=>cases h
  | slice a l c=>
   cases a with
   | some a=>cases h
   | none=>
    cases l with
    | succ l=>cases h
    | zero=>
     cases c with
     | succ c=>cases h
     | zero=>
      cases v with
      | lit y=>
       cases y with
       | slice a l c=>
        cases a with
        | some a=>cases h
        | none=>
         cases l with
         | succ l=>cases h
         | zero=>
          cases c with
          | succ c=>cases h
          | zero=>exact g rfl
       | _=>cases h
      | _=>cases h
  | _=>cases h
 | emp b=>
  cases v with
  | emp c=>
   refine⟨λH' _ a q=>?_,λ_ e=>by cases e⟩;cases (q.pu trivial) with
   | emp _ _ d=>
    refine .p _ _<|.emp _ _ ?_;cases b with
    | false=>
     rcases d with d | d | ⟨_,d⟩
     .exact .inl d
     .exact .inr<|.inl d
     .exact .inr<|.inr ⟨rfl,d⟩
    | true=>
     have h:c=true:=h;subst h;exact d
  | _=>cases h
 | _=>cases h
theorem aDC: ∀{cs vs:List TV},aHz cs vs=true->bZ (λc v=>Ow c v=true/\∀j n,c≠.ms j n) cs vs
 | [],[],_=>trivial
 | [],_::_,h=>by cases h
 | _::_,[],h=>by cases h
 | c::r,v::s,h=>by
  simp only[aHz] at h;split at h
  .cases h
  .rename_i a;split at h
   .rename_i e;exact⟨⟨e,a⟩,aDC h⟩
   .cases h
theorem aNV{c v:TV}(h:aKV c v=true): Rj H c v:=by
 cases c with
 | fn i cs=>
  cases v with
  | fn j ds=>
   simp only[aKV] at h;split at h
   .rename_i e;have e:=Zc e;subst e;refine⟨λH' _ a q=>?_,λ_ e=>by cases e⟩;obtain⟨aw,rfl,d⟩:=q.inF;have f:=aDC h;refine Qh.mkF<|bZ.of (by rw[d.len,f.len]) λj c a k l=>?_;let⟨v,g,b,m⟩:=f.get k;exact (aDD b).q H' (λn e=>e.elim (λ⟨o,e⟩=>absurd e<|m n o) λ⟨j,o,e⟩=>by rw[e] at b;cases v<;>simp[Ow] at b) a<|d.at g l
   .cases h
  | _=>cases h
 | _=>exact aDD h
theorem aGO{a b a' b':Nat}{m:List<|den a×den b}{y:List<|den a'×den b'}(h:UC m=some y): TV.rmp a b m=TV.rmp a' b' y:=by
 let⟨e,d,h⟩:=LX h;subst e;subst d;subst h;rfl
theorem aIk{v:TV}{x:ByteArray×Nat}(h:aMb v=some x): v=.tup [.lit<|.string x.1,.lit<|.int .i64<|.ofNat x.2]:=by
 unfold aMb at h;split at h
 .split at h
  .split at h
   .split at h
    .split at h
     .split at h
      .split at h
       .split at h
        .cases h;rfl
        .cases h
       .cases h
      .cases h
     .cases h
    .cases h
   .cases h
  .cases h
 .cases h
theorem rjN{id:Nat}{v:TV}{x:Nat×Nat}(h:rdN id v=some x): Rj H (.ms id<|some x) v:=by
 unfold rdN at h;split at h
 .split at h
  .rename_i e;have e:=Zc e;subst e;subst h;refine⟨λH' m a q=>?_,λ_ e=>by cases e⟩;cases q with
   | p _ _ q=>cases q
   | msn _ _ k l h=>
    let⟨k',b,f,c⟩:=m _ (.inl ⟨_,rfl⟩) k l h;rw[<-c];exact .msn _ _ k' b f
  .cases h
 .cases h
theorem rjI{v:TV}{x:ByteArray×Nat}(h:aMb v=some x): Rj H (.tup [.lit<|.string x.1,.lit<|.int .i64<|.ofNat x.2]) v:=by
 rw[aIk h];refine⟨λH' _ a q=>?_,λ_ _=>rfl⟩;obtain⟨aw,rfl,c⟩:=q.inT;match aw,c with
 | [a,b],c=>exact Qh.mkT ⟨by rw[c.1.inL];exact Qh.l _,by rw[c.2.1.inL];exact Qh.l _,trivial⟩
theorem rjQ{id off:Nat}{v:TV}{x:Int}(h:rdQ id off v=some x): Rj H (.pel id x off) v:=by
 unfold rdQ at h;split at h
 .split at h
  .rename_i e;have e:=Zc e;subst e;split at h
   .rename_i e;have e:=Zc e;subst e;cases h;refine⟨λH' m a q=>?_,λ_ _=>rfl⟩;cases q with
    | p _ _ q=>cases q
    | pel _ _ _ k l h b d=>let⟨k',f,g,c⟩:=m _ (.inr ⟨_,_,rfl⟩) k l h;rw[<-c];exact .pel _ _ _ k' f g b (by omega)
   .cases h
  .cases h
 .cases h
theorem aH6{s:Sh}{v:TV}{x:s.den}(h:s.rd 3 [] v=some x): Rj H (s.tv x) v:=by
 cases s with
 | v k=>
  have h:k8 0 [] k v=some x:=h;refine⟨λH' _ a q=>aTX h q,λd e2=>?_⟩;unfold k8 at h;split at h
  .split at h
   .cases d
   .cases h
  .rename_i z;unfold kA at h;split at h
   .rename_i p u;cases h;let⟨c,y,t,f⟩:=aBL u;have j:val k (dN.pk k p)=hdT (qX (cds k) p):=by
     unfold val jX;rw[z,dN.un_pk]
    show val k (dN.pk k p)=_;rw[j,t];cases c with
    | sl Q=>
     cases v with
     | sl O l=>
      let⟨e,h⟩:=qN (F:=λk=>List<|den k) (x:=l) (y:=y) f;subst e;subst h;rfl
     | rmp=>cases f
     | tup=>cases f
     | _=>cases d
    | int N=>rw[aDN f] at d;cases d
    | bool=>rw[y8 f] at d;cases d
    | str=>rw[aDL f] at d;cases d
    | sptr=>rw[aDM f] at d;cases d
    | mp=>rcases aOd (w:=0) (H:=[]) f with rfl | ⟨rfl,_⟩ | ⟨e,_⟩<;>first | rfl | cases d | cases e
    | any=>cases f
   .cases h
 | w k=>
  have h:k8 1 [] k v=some x:=h;refine⟨λH' _ a q=>aTW h q,λd e2=>?_⟩;unfold k8 at h;split at h
  .split at h
   .cases d
   .cases h
  .rename_i z;unfold kA at h;split at h
   .rename_i p u;cases h;let⟨c,y,t,f⟩:=aBL u;have j:val k (dN.pk k p)=hdT (qX (cds k) p):=by
     unfold val jX;rw[z,dN.un_pk]
    have e2:aMf (toW<|val k<|dN.pk k p)=true:=e2;show toW (val k<|dN.pk k p)=_;rw[j,t,aB2] at e2 |-;cases c with
    | mp=>rcases aOd (w:=1) (H:=[]) f with rfl | ⟨rfl,_⟩ | ⟨e,_⟩<;>first | rfl | cases d | cases e
    | _=>cases e2
   .cases h
 | r k=>
  refine⟨λH' _ a q=>?_,λ_ e2=>by cases e2⟩;cases v with
  | rptr cs=>
   have h:kA 0 [] k cs=some x:=h;obtain⟨aw,rfl,M⟩:=(q.pu trivial).inR;exact .p _ _<|Qp.mkR<|jQ h<|M.c (H:=[])
  | _=>cases h
 | l k=>
  cases v with
  | sl k' l=>
   let⟨e,h⟩:=qN (F:=λk=>List<|den k) (x:=l) (y:=x) h;subst e;subst h;exact⟨λH' _ a q=>.p _ _<|q.pu trivial,λ_ _=>rfl⟩
  | _=>cases h
 | m kk J=>
  cases v with
  | rmp a b m=>
   have e:=aGO (m:=m) (y:=x) h;rw[<-show TV.rmp a b m=(Sh.m kk J).tv x from e];exact⟨λH' _ a q=>.p _ _<|q.pu trivial,λ_ _=>rfl⟩
  | _=>cases h
 | n id=>exact rjN h
 | i=>exact rjI h
 | q id off=>exact rjQ h
end
section
variable [dN]{R:Type}{H H1:TH}{A:aW}{N:Nat}{S:TS}{st:St}
theorem fU.hc{a:Sh}{r:List Sh}(x:a.den)(y:fU r): fU.hd (fU.cs x y)=x:=by cases r<;>rfl
theorem fU.tc{a:Sh}{r:List Sh}(x:a.den)(y:fU r): fU.tl (fU.cs x y)=y:=by cases r<;>rfl
theorem Pd: ∀{ss:List Pl} {W:List TV} {p:fU<|shs false ss} {q:fU<|shs true ss},SU ss W=some (p,q)->bZ (Rj H) (mkV ss p q) W
 | [],W,p,q,h=>by
  cases W with
  | nil=>trivial
  | cons=>cases h
 | .con c::r,W,p,q,h=>by
  cases W with
  | nil=>cases h
  | cons v W=>
   simp only[SU] at h;split at h
   .rename_i e;exact⟨aNV e,Pd h⟩
   .cases h
 | .p s::r,W,p,q,h=>by
  cases W with
  | nil=>cases h
  | cons v W=>
   simp only[SU] at h;split at h
   .rename_i x a;split at h
    .rename_i d b;cases h;simp only[mkV,fU.hc,fU.tc];exact⟨aH6 a,Pd b⟩
    .cases h
   .cases h
 | .v s::r,W,p,q,h=>by
  cases W with
  | nil=>cases h
  | cons v W=>
   simp only[SU] at h;split at h
   .rename_i x a;split at h
    .rename_i d b;cases h;simp only[mkV,fU.hc,fU.tc];exact⟨aH6 a,Pd b⟩
    .cases h
   .cases h
theorem aFB{tm:TT}{H':TH}{t:Nat}{m:TV}: ∀{ts:List<|Nat×Option Nat} {vs M:List TV},upT tm ts=some vs->bZ (λm v=>∀a,Qh H v a->Qh H' m a) M vs->dC t (plT ts M)=some m->∃v,dC t tm=some v/\∀a,Qh H v a->Qh H' m a
 | [],vs,M,h,q,b=>by cases b
 | s::ts,vs,M,h,q,b=>by
  simp only[upT] at h;split at h
  .rename_i v f;split at h
   .rename_i w k;split at h
    .rename_i g;cases h;cases M with
     | nil=>exact q.elim
     | cons u M=>
      simp only[plT,g,dC] at b;split at b
      .rename_i e;have e:=Zc e;subst e;cases b;exact⟨v,f,q.1⟩
      .exact aFB k q.2 b
    .rename_i n g;split at h
     .rename_i cs;split at h
      .rename_i e;have e:=Zc e;cases h;have d:=q.take n;have i:=q.drop n;rw[<-e,Y2] at i;rw[<-e,Xn] at d;rw[e] at d i;simp only[plT,g,dC] at b;split at b
       .rename_i e;have e:=Zc e;subst e;cases b;refine⟨_,f,λa r=>?_⟩;obtain⟨aw,rfl,l⟩:=r.inA;exact Qh.mkA (bZ.of (by rw[l.len,d.len]) λj m c b p=>by
         let⟨v,f,o⟩:=d.get b;exact o c<|l.at f p)
       .exact aFB k i b
      .cases h
     .cases h
   .cases h
  .cases h
theorem Rf{α:Type}{s:Nat}: ∀{es:List<|List α},(es.all λe=>Nat.beq e.length s)=true->es.flatten.length=es.length*s
 | [],_=>by simp
 | e::es,h=>by
  simp only[XM,Zd] at h;have a:=Zc h.1;simp only[Yt,Zh,Rf h.2,a,Yc,Xx];omega
theorem L8{α β:Type}{R:α->β->Prop}{s:Nat}: ∀{es:List<|List β} {l:List α},(es.all λe=>Nat.beq e.length s)=true->bZ R l es.flatten->bZ (bZ R) (qM s es.length l) es
 | [],_,_,_=>trivial
 | e::es,l,h,q=>by
  simp only[XM,Zd] at h;have c:=Zc h.1;subst c;have a:=q.take e.length;have b:=q.drop e.length;simp only[Yt,Xn,Y2] at a b;exact⟨a,L8 h.2 b⟩
theorem aK0: ∀{os:List OL} {c:TH} {f:List TV},upO os c=some f->f.length=nO os
 | [],c,f,h=>by
  cases c with
  | nil=>cases h;rfl
  | cons=>cases h
 | o::os,c,f,h=>by
  cases c with
  | nil=>cases h
  | cons b c=>
   simp only[upO] at h;split at h
   .cases h
   .rename_i vs g;have a:=aK0 g;cases o with
    | gone=>cases h;exact a
    | box n=>
     cases b with
     | box cs=>
      simp only at h;split at h
      .rename_i e;have e:=Zc e;cases h;simp[nO,a,e]
      .cases h
     | _=>cases h
    | lst u=>
     cases b with
     | lst v x=>
      simp only at h;split at h
      .cases h;simp[nO,a]
      .cases h
     | _=>cases h
    | map kk t=>
     cases b with
     | map q y r=>
      simp only at h;split at h
      .split at h
       .cases h;simp[nO,a]
       .cases h
      .cases h
     | _=>cases h
    | bx=>
     cases b with
     | box=>cases h;simp[nO,a]
     | _=>cases h
    | it=>
     cases b with
     | it=>cases h;simp[nO,a]
     | _=>cases h
    | rows s m=>
     cases b with
     | rows s' es=>
      simp only at h;split at h
      .split at h
       .rename_i e;have e:=Zc e;split at h
        .rename_i p;cases h;rw[Zh,a,Rf p,e,YN];rfl
        .cases h
       .cases h
      .cases h
     | _=>cases h
theorem wX: ∀{os:List OL} {g:TH} {p M:List TV},upO os g=some p->bZ (Rj H) M p->∀(i k k':Nat) (l:List<|den k) (f:List<|den k'),g[i]?=some (.lst k l)->(Q4 os M)[i]?=some (.lst k' f)->f.length=l.length
 | [],g,p,M,h,q,i,k,k',l,f,c,a=>by
  cases g with
  | nil=>simp at c
  | cons=>cases h
 | o::os,g,p,M,h,q,i,k,k',l,f,c,a=>by
  cases g with
  | nil=>cases h
  | cons b g=>
   simp only[upO] at h;split at h
   .cases h
   .rename_i vs d;cases o with
    | gone=>
     cases h;cases i with
     | zero=>simp[Q4] at a
     | succ i=>exact wX d q i k k' l f (by simpa using c)<|by simpa [Q4] using a
    | box n=>
     cases b with
     | box cs=>
      simp only at h;split at h
      .rename_i e;have e:=Zc e;cases h;cases i with
       | zero=>simp at c
       | succ i=>
        have:=q.drop n;rw[<-e,Y2] at this;rw[e] at this;exact wX d this i k k' l f (by simpa using c)<|by simpa [Q4] using a
      .cases h
     | _=>cases h
    | lst K=>
     cases b with
     | lst z E=>
      simp only at h;split at h
      .cases h;cases M with
       | nil=>exact q.elim
       | cons m M=>
        cases i with
        | succ i=>exact wX d q.2 i k k' l f (by simpa using c)<|by simpa [Q4] using a
        | zero=>
         simp only[Zt,Za] at c;cases c;simp only[Q4,Zt,Za] at a;unfold aHm at a;split at a
         .rename_i G A;split at a
          .cases a;have:=q.1.s rfl rfl;cases this;rfl
          .cases a
         .cases a
      .cases h
     | _=>cases h
    | map kk C=>
     cases b with
     | map D J B=>
      simp only at h;split at h
      .split at h
       .cases h;cases M with
        | nil=>exact q.elim
        | cons m M=>
         cases i with
         | succ i=>exact wX d q.2 i k k' l f (by simpa using c)<|by simpa [Q4] using a
         | zero=>simp at c
       .cases h
      .cases h
     | _=>cases h
    | bx=>
     cases b with
     | box cs=>
      cases h;cases M with
      | nil=>exact q.elim
      | cons m M=>
       cases i with
       | succ i=>exact wX d q.2 i k k' l f (by simpa using c)<|by simpa [Q4] using a
       | zero=>simp at c
     | _=>cases h
    | it=>
     cases b with
     | it y I=>
      cases h;cases M with
      | nil=>exact q.elim
      | cons m M=>
       cases i with
       | succ i=>exact wX d q.2 i k k' l f (by simpa using c)<|by simpa [Q4] using a
       | zero=>simp at c
     | _=>cases h
    | rows s m=>
     cases b with
     | rows s' es=>
      simp only at h;split at h
      .split at h
       .rename_i e;have e:=Zc e;split at h
        .rename_i v;cases h;cases i with
         | zero=>simp at c
         | succ i=>
          have:=q.drop<|s*m;rw[show s*m=es.flatten.length by rw[Rf v,e,YN],Y2] at this;rw[show es.flatten.length=s*m by rw[Rf v,e,YN]] at this;exact wX d this i k k' l f (by simpa using c)<|by simpa [Q4] using a
        .cases h
       .cases h
      .cases h
     | _=>cases h
theorem Ob{H':TH}: ∀{os:List OL} {p:TH} {y M:List TV} {A:aW},upO os p=some y->bZ (λm v=>Rj H m v/\∀a,Qh H v a->Qh H' m a) M y->bZ (Qo H) p A->bZ (Qo H') (Q4 os M) A
 | [],p,y,M,A,h,q,d=>by
  cases p with
  | nil=>cases A with
   | nil=>trivial
   | cons=>exact d.elim
  | cons=>cases h
 | o::os,p,y,M,A,h,q,d=>by
  cases p with
  | nil=>cases h
  | cons b p=>
   cases A with
   | nil=>exact d.elim
   | cons a A=>
    simp only[upO] at h;split at h
    .cases h
    .rename_i vs f;cases o with
     | gone=>cases h;exact⟨trivial,Ob f q d.2⟩
     | box n=>
      cases b with
      | box cs=>
       simp only at h;split at h
       .rename_i e;have e:=Zc e;cases h;have k:=q.take n;have l:=q.drop n;rw[<-e,Y2] at l;rw[<-e,Xn] at k;rw[e] at k l;refine⟨?_,Ob f l d.2⟩;let⟨aw,i,g⟩:=d.1;refine⟨aw,by rw[i,k.len],?_⟩;exact bZ.of (by rw[g.len,k.len]) λj m c K F=>by
         let⟨v,D,z⟩:=k.get K;exact z.2 c<|g.at D F
       .cases h
      | _=>cases h
     | lst S=>
      cases b with
      | lst k1 Z=>
       simp only at h;split at h
       .rename_i e;have e:=Zc e;cases h;cases M with
        | nil=>exact q.elim
        | cons m M=>
         refine⟨?_,Ob f q.2 d.2⟩;have i:=q.1.1.s;have g:=d.1;show Qo H' (aHm S m) a;clear q;unfold aHm;split
         .split
          .have:=i rfl rfl;cases this;exact g
          .trivial
         .trivial
       .cases h
      | _=>cases h
     | map kk U=>
      cases b with
      | map Y b1 m1=>
       simp only at h;split at h
       .rename_i t;split at h
        .rename_i e2;have t:=Zc t;have e2:=Zc e2;cases h;cases M with
         | nil=>exact q.elim
         | cons m M=>
          refine⟨?_,Ob f q.2 d.2⟩;have i:=q.1.1.s;have g:=d.1;show Qo H' (aK2 kk U m) a;clear q;unfold aK2;split
          .split
           .split
            .have:=i rfl rfl;cases this;exact g
            .trivial
           .trivial
          .trivial
        .cases h
       .cases h
      | _=>cases h
     | bx=>
      cases b with
      | box cs=>
       cases h;cases M with
       | nil=>exact q.elim
       | cons m M=>
        refine⟨?_,Ob f q.2 d.2⟩;obtain⟨Q,rfl,g⟩:=d.1;have i:=q.1.2 _<|Qh.mkA g;show Qo H' (aQZ m) _;clear q;unfold aQZ;split
        .let⟨R,e,u⟩:=i.inA;cases e;exact⟨Q,by rw[<-g.len,u.len],u⟩
        .trivial
      | _=>cases h
     | it=>
      cases b with
      | it X p1=>
       cases h;cases M with
       | nil=>exact q.elim
       | cons m M=>
        refine⟨?_,Ob f q.2 d.2⟩;have i:=q.1.1.s;have g:=d.1;show Qo H' (aQY m) a;clear q;unfold aQY;split
        .rename_i x W;have e:=aIk W;have:=i rfl<|by rw[e];rfl
         rw[e] at this;cases this;exact g
        .trivial
      | _=>cases h
     | rows s m=>
      cases b with
      | rows s' es=>
       simp only at h;split at h
       .rename_i t;have t:=Zc t;subst t;split at h
        .rename_i e;have e:=Zc e;split at h
         .rename_i O;cases h;have E:es.flatten.length=s'*m:=by rw[Rf O,e,YN]
          have k:=q.take<|s'*m;have l:=q.drop<|s'*m;rw[<-E,Xn] at k;rw[<-E,Y2] at l;rw[E] at k l;refine⟨?_,Ob f l d.2⟩;let⟨aw,i,g⟩:=d.1;refine⟨aw,i,?_⟩;have B:=L8 O k;rw[e] at B;exact bZ.of (by rw[g.len,B.len]) λj r a V G=>by
           let⟨e0,J,N⟩:=B.get V;have u:=g.at J G;exact bZ.of (by rw[u.len,N.len]) λj m c K F=>by
            let⟨v,D,z⟩:=N.get K;exact z.2 c<|u.at D F
         .cases h
        .cases h
       .cases h
      | _=>cases h
theorem aEe: ∀{M:List TV},TE H M=true->∀m∈M,∀i,aVm m i->∃(k:Nat) (l:List<|den k),H[i]?=some (.lst k l)
 | [],_,m,a=>by cases a
 | v::r,h,m,a=>by
  intro i e;rcases ZN.1 a with e2 | a
  .subst e2;rcases e with⟨n,rfl⟩ | ⟨j,o,rfl⟩
   all_goals
    simp only[TE] at h;split at h
    .rename_i o b;split at h
     .exact⟨_,_,b⟩
     .cases h
    .cases h
  .refine aEe (M:=r) ?_ _ a i e;cases v with
   | ms g d=>
    simp only[TE] at h;split at h
    .split at h
     .exact h
     .cases h
    .cases h
   | pel g d o=>
    simp only[TE] at h;split at h
    .split at h
     .exact h
     .cases h
    .cases h
   | _=>exact h
theorem aMm{L:Fj}{p:L.P}{q:L.V}(h:L.get S=some (p,q))(x:Qt N S st): Qt N (L.mk' p q) st:=by
 unfold Fj.get at h;split at h
 .rename_i vs w;split at h
  .rename_i E c;split at h
   .rename_i O y;split at h
    .rename_i A;cases h;have C:=Pd (H:=S.hp) y;have o:=aK0 c;have s:bZ (Rj S.hp) ((mkV L.ss p q).take<|nO L.os) E:=by
      have:=C.take<|nO L.os;rw[<-o,Xn] at this;rw[o] at this;exact this
     have B:bZ (Rj S.hp) ((mkV L.ss p q).drop<|nO L.os) vs:=by
      have:=C.drop<|nO L.os;rw[<-o,Y2] at this;rw[o] at this;exact this
     have f:=wX c s;have d:∀m v,m∈mkV L.ss p q->Rj S.hp m v->∀a,Qh S.hp v a->Qh (L.mk' p q).hp m a:=by
      intro m v b r a J;refine r.q _ (λi e k l K=>?_) a J;let⟨k',D,g⟩:=aEe A m b i e;exact⟨k',D,g,f i k k' l D K g⟩
     refine⟨x.ln,λt m b=>?_,?_⟩
     .have z:bZ (λm v=>∀a,Qh S.hp v a->Qh (L.mk' p q).hp m a) ((mkV L.ss p q).drop<|nO L.os) vs:=
       bZ.of B.len λj m v b u=>d m v (ZZ<|Zg b)<|B.at b u
      let⟨v,G,M⟩:=aFB w z b;let⟨a,F,I⟩:=x.tm t v G;exact⟨a,F,M a I⟩
     .refine Ob c ?_ x.hp;refine bZ.of s.len λj m v b u=>⟨s.at b u,d m v (Z7<|Zg b)<|s.at b u⟩
    .cases h
   .cases h
  .cases h
 .cases h
theorem aCg: ∀{ss:List Pl} {p:fU<|shs false ss} {q:fU<|shs true ss} {K:List TV->Option R} {r:R},mkK ss p q K=some r->
 ∃M,K M=some r/\bZ (λm i=>m=i\/∃b,m=.lit (.bool b)/\i=.lit (.bool b)) M (mkV ss p q)
 | [],p,q,K,r,h=>⟨[],h,trivial⟩
 | .con c::ss,p,q,K,r,h=>by
  let⟨M,a,d⟩:=aCg (ss:=ss) h;exact⟨_,a,.inl rfl,d⟩
 | .p s::ss,p,q,K,r,h=>by
  let⟨M,a,d⟩:=aCg (ss:=ss) h;exact⟨_,a,.inl rfl,d⟩
 | .v s::ss,p,q,K,r,h=>by
  have g:∃v,v=s.tv (fU.hd q)/\mkK ss p (fU.tl q) (λvs=>K (v::vs))=some r:=by
   simp only[mkK,Ok] at h;split at h
   .rename_i u f;split at h
    .rename_i b;cases b with
     | true=>exact⟨_,f.symm,h⟩
     | false=>exact⟨_,f.symm,h⟩
    .exact⟨_,f.symm,h⟩
   .exact⟨_,rfl,h⟩
  let⟨v,e,h⟩:=g;let⟨M,a,d⟩:=aCg h;exact⟨_,a,.inl e,d⟩
theorem aLF{L:Fj}{p:L.P}{q:L.V}{K:TS->Option R}{r:R}(h:L.mkB p q K=some r): K (L.mk' p q)=some r:=by
 unfold Fj.mkB at h;let⟨M,g,c⟩:=aCg h;have e:M=mkV L.ss p q:=by
  apply Ym ;intro j;cases a:M[j]? with
  | none=>
   rw[XG] at a;rw[Wy,XG,c.len];exact a
  | some m=>
   let⟨i,d,f⟩:=c.get a;rw[d];rcases f with rfl | ⟨b,rfl,rfl⟩<;>rfl
 subst e;exact g
end
inductive ClA(n:Nat): AV->AV->Prop
 | r (a):ClA n a a
 | s (a b m):n<=m->ClA n a b->ClA n a (Sc m b)
theorem ClA.tr{n:Nat}{a b c:AV}(h:ClA n a b)(k:ClA n b c): ClA n a c:=by
 induction k with
 | r=>exact h
 | s b m e _ d=>exact .s _ _ m e d
def atB(l:List Bool)(t:Nat): Bool:=match l[t]? with
 | some b=>b
 | none=>false
def noD(t:Nat): List bE->Bool
 | []=>true
 | o::r=>match o.dst with
  | none=>noD t r
  | some d=>match Nat.beq d t with
   | true=>false
   | false=>noD t r
def kpt(t:Nat): bU->Bool
 | .skip=>true
 | .exit _=>true
 | .ret=>true
 | .stop=>true
 | .region _ _ ops=>noD t ops
 | .seq a b=>kpt t a&&kpt t b
 | .cond _ a b=>kpt t a&&kpt t b
 | .block _ c=>kpt t c
 | .scope c=>kpt t c
 | .loop live _ c=>(match live with
  | none=>true
  | some l=>atB l t)&&kpt t c
 | .mask lx _ _ c=>atB lx t&&kpt t c
 | .told li lx _ c=>(atB li t&&atB lx t)&&kpt t c
 | .frz u c=>!Nat.beq u t&&kpt t c
 | .nilIf ..=>false
 | .loopV ..=>false
def kpL(c:bU): List Nat->Bool
 | []=>true
 | t::r=>match kpt t c with
  | true=>kpL c r
  | false=>false
section
variable {P:Program}{cf:CF}{fl lf n t:Nat}
theorem aMS{l:List Bool}(h:atB l t=true): l[t]?=some true:=by
 unfold atB at h;split at h
 .rename_i b a;rw[a,h]
 .cases h
theorem aHZ{tm:List AV}{d:Option Nat}{v:AV}(h:∀e,d=some e->e≠t): (hM tm d v)[t]?=tm[t]?:=by
 cases d with
 | none=>rfl
 | some e=>exact Zv<|h e rfl
theorem aCb[aF]: ∀{l:List bE} {st st':St},noD t l=true->iN P cf fl l st=some st'->st'.tmps[t]?=st.tmps[t]?
 | [],st,st',_,h=>by cases h;rfl
 | o::r,st,st',c,h=>by
  have b:noD t r=true/\∀e,o.dst=some e->e≠t:=by
   simp only[noD] at c;split at c
   .rename_i e;exact⟨c,λg h=>by rw[e] at h;cases h⟩
   .rename_i d e;split at c
    .cases c
    .rename_i f;exact⟨c,λg h=>by rw[e] at h;cases h;exact YF f⟩
  simp only[iN] at h;split at h
  .rename_i i a;rw[aCb b.1 h];unfold cH at a;split at a
   .split at a
    .cases a;exact aHZ b.2
    .cases a
   .cases a;exact aHZ b.2
   .cases a
  .cases h
theorem aRK{k n:Nat}: ∀{l:List bE},noD t l=true->noD t (eW l k n)=true:=by
 induction k with
 | zero=>intro l h;cases l with
  | nil=>exact h
  | cons o r=>simp only[eW,noD] at h |-;exact h
 | succ k ih=>intro l h;cases l with
  | nil=>exact h
  | cons o r=>
   simp only[eW,noD] at h |-;split
   .rename_i e;simp only[e] at h;exact ih h
   .rename_i d e;simp only[e] at h;split
    .rename_i g;rw[g] at h;cases h
    .rename_i g;rw[g] at h;exact ih h
def Kp(n t:Nat)(st st':St): Prop:=n<=st'.heap.length/\∀a,st.tmps[t]?=some a->∃b,st'.tmps[t]?=some b/\ClA n a b
theorem Kp.tr{d f e:St}(h:Kp n t d f)(k:Kp n t f e): Kp n t d e:=⟨k.1,λa j=>by
 let⟨b,g,q⟩:=h.2 a j;let⟨c,l,i⟩:=k.2 b g;exact⟨c,l,q.tr i⟩⟩
theorem Kp.same{st st':St}(c:n<=st'.heap.length)(h:st'.tmps[t]?=st.tmps[t]?): Kp n t st st':=⟨c,λa b=>⟨a,by rw[h];exact b,.r a⟩⟩
theorem Kp.head[aF]{live:Option<|List Bool}{tr:Bool}{m:Nat}{st:St}(f:n<=st.heap.length)(c:n<=m)(b:fl<=n)(h:∀l,live=some l->atB l t=true): Kp n t st<|dL live tr fl m st:=by
 refine⟨(sQ ⟨b,f⟩ ⟨b,c⟩).2,λa d=>?_⟩;have e:(aAI live st.tmps)[t]?=some a:=by
  cases live with
  | none=>exact d
  | some l=>exact (JQ _ _ _<|aMS<|h l rfl).trans d
 cases tr with
 | false=>exact⟨a,e,.r a⟩
 | true=>exact⟨Sc m a,by simp only[dL,Zz,Zk,e];rfl,.s _ _ m c<|.r a⟩
theorem Kp.loop{b:St->St}{step:St->Option (cT×St)}(i:∀st,n<=st.heap.length->Kp n t st (b st))(d:∀st x st',n<=st.heap.length->step st=some (x,st')->x≠.ret->Kp n t st st'):
 ∀(m:Nat) (st:St) (x:cT) (st':St),n<=st.heap.length->gC b step m st=some (x,st')->x≠.ret->Kp n t st st'
 | 0,_,_,_,_,h,_=>by cases h
 | m+1,st,x,st',k,a,j=>by
  simp only[gC] at a;have c:=i st k;split at a
  .rename_i f he;have g:=d _ _ _ c.1 he (by intro e;cases e);exact (c.tr g).tr<|Kp.loop i d m f x st' g.1 a j
  .exact c.tr<|d _ _ _ c.1 a j
theorem M9{a b:Bool}(h:(a&&b)=true): a=true/\b=true:=by simpa using h
theorem mG[aF](g:tM cf)(m:fl<=n): ∀(c:bU) (st:St) (x:cT) (st':St),kpt t c=true->n<=st.heap.length->eU P cf lf fl c st=some (x,st')->x≠.ret->Kp n t st st'
 | .skip,st,x,st',_,f,d,_=>by simp only[eU] at d;cases d;exact .same f rfl
 | .exit _,st,x,st',_,f,d,_=>by simp only[eU] at d;cases d;exact .same f rfl
 | .ret,st,x,st',_,f,d,o=>by simp only[eU] at d;cases d;exact (o rfl).elim
 | .stop,st,x,st',_,f,d,_=>by simp only[eU] at d;cases d
 | .region _ I ops,st,x,st',j,f,d,_=>by
  simp only[eU] at d;split at d
  .rename_i h he;cases d;rcases QR g he with ⟨_,k⟩ | ⟨_,_,z,_,k⟩
   .exact .same (Rq g ops st _ ⟨m,f⟩ k).2<|aCb j k
   .have a:=Fr.app (L:=[.blk z.length [z.map .lit]]) ⟨m,f⟩;have y:=aCb (aRK j) k;have w:=(Rq g _ _ _ (Fr.go ⟨m,f⟩ a) k).2;exact .same w y
  .cases d
 | .seq a b,st,x,st',j,f,d,o=>by
  let⟨p,q⟩:=M9 j;simp only[eU] at d;split at d
  .rename_i h he;have k:=mG g m a st _ h p f he (by intro e;cases e);exact k.tr<|mG g m b h x st' q k.1 d o
  .exact mG g m a st x st' p f d o
 | .cond c a b,st,x,st',j,f,d,o=>by
  let⟨p,q⟩:=M9 j;simp only[eU] at d;split at d
  .exact mG g m a st x st' p f d o
  .exact mG g m b st x st' q f d o
  .cases d
 | .block id c,st,x,st',j,f,d,o=>by
  simp only[eU] at d;split at d
  .rename_i i h he;have k:=mG g m c st _ h j f he (by intro e;cases e);split at d<;>cases d<;>exact k
  .exact mG g m c st x st' j f d o
 | .scope c,st,x,st',j,f,d,o=>by
  simp only[eU] at d;exact mG g m c st x st' j f d o
 | .loop live tr c,st,x,st',j,f,d,o=>by
  let⟨p,q⟩:=M9 j;simp only[eU] at d;exact Kp.loop (λs z=>Kp.head z f m λl e=>by rw[e] at p;exact p) (λs y s' z he G=>mG g m c s y s' q z he G) lf st x st' f d o
 | .frz u c,st,x,st',j,f,d,o=>by
  let⟨p,q⟩:=M9 j;simp only[eU] at d;split at d
  .rename_i v H he;have r:n<=H.length:=(aC6 g ⟨m,f⟩ he).2;have k:Kp n t st ⟨st.tmps.set u v,H⟩:=.same r<|Zv<|YF (by simpa using p);exact k.tr<|mG g m c _ x st' q r d o
  .cases d
 | .mask D C tr c,st,x,st',j,f,d,o=>by
  let⟨p,q⟩:=M9 j;simp only[eU,Gt] at d;split at d
  .rename_i F h he;split at d
   .cases d;exact (o rfl).elim
   .cases d;have k:=mG g m c st _ h q f he (by intro e;cases e);exact k.tr<|Kp.head k.1 f m λl e=>by cases e;exact p
   .cases d;have k:=mG g m c st _ h q f he (by intro e;cases e);exact k.tr<|Kp.head k.1 f m λl e=>by cases e;exact p
  .cases d
 | .told w D C c,st,x,st',j,f,d,o=>by
  let⟨p,q⟩:=M9 j;let⟨E,A⟩:=M9 p;have B:Kp n t st ⟨cU w st.tmps,st.heap⟩:=.same f<|JQ _ _ _<|aMS E;simp only[eU,Gt] at d;split at d
  .rename_i F h he;split at d
   .cases d;exact (o rfl).elim
   .cases d;have k:=mG g m c ⟨cU w st.tmps,st.heap⟩ _ h q f he (by intro e;cases e);exact (B.tr k).tr<|Kp.head k.1 f m λl e=>by cases e;exact A
   .cases d;have k:=mG g m c ⟨cU w st.tmps,st.heap⟩ _ h q f he (by intro e;cases e);exact (B.tr k).tr<|Kp.head k.1 f m λl e=>by cases e;exact A
  .cases d
 | .nilIf ..,st,x,st',j,f,d,o=>by cases j
 | .loopV ..,st,x,st',j,f,d,o=>by cases j
theorem aGw{c:bU}: ∀{l:List Nat},kpL c l=true->∀t∈l,kpt t c=true
 | [],_,t,a=>by cases a
 | u::l,h,t,a=>by
  simp only[kpL] at h;split at h
  .rename_i b;rcases ZN.1 a with rfl | a
   .exact b
   .exact aGw h t a
  .cases h
end
section
variable [dN]{H H1:TH}{n:Nat}
theorem aSD{n m:Nat}(h:n<=m)(v:TV): cV m (cV n v)=cV n v:=by
 have k:∀i,Nat.blt i n=true->Nat.blt i m=true:=λi e=>by
  have:i<n:=by simpa [YC] using e
  simpa [YC] using YM this h
 cases v with
 | fn vi cs=>cases cs<;>rfl
 | ms i m=>simp only[cV];cases a:Nat.blt i n with | true=>simp only[cV,k _ a] | false=>rfl
 | ptr i o=>simp only[cV];cases a:Nat.blt i n with | true=>simp only[cV,k _ a] | false=>rfl
 | pel i j o=>simp only[cV];cases a:Nat.blt i n with | true=>simp only[cV,k _ a] | false=>rfl
 | mp i=>simp only[cV];cases a:Nat.blt i n with | true=>simp only[cV,k _ a] | false=>rfl
 | it i=>simp only[cV];cases a:Nat.blt i n with | true=>simp only[cV,k _ a] | false=>rfl
 | rs i m=>simp only[cV];cases a:Nat.blt i n with | true=>simp only[cV,k _ a] | false=>rfl
 | rel i m j o=>simp only[cV];cases a:Nat.blt i n with | true=>simp only[cV,k _ a] | false=>rfl
 | _=>rfl
theorem aCG{n m:Nat}(h:n<=m)(v:TV): jI m (jI n v)=jI n v:=by
 have k:∀i,Nat.blt i n=true->Nat.blt i m=true:=λi e=>by
  have:i<n:=by simpa [YC] using e
  simpa [YC] using YM this h
 cases v with
 | fn vi cs=>simp only[jI,Ya];congr 1;exact ZS λc _=>aSD h c
 | ms i x=>simp only[jI,cV];cases a:Nat.blt i n with | true=>simp only[jI,cV,k _ a] | false=>rfl
 | ptr i o=>simp only[jI,cV];cases a:Nat.blt i n with | true=>simp only[jI,cV,k _ a] | false=>rfl
 | pel i j o=>simp only[jI,cV];cases a:Nat.blt i n with | true=>simp only[jI,cV,k _ a] | false=>rfl
 | mp i=>simp only[jI,cV];cases a:Nat.blt i n with | true=>simp only[jI,cV,k _ a] | false=>rfl
 | it i=>simp only[jI,cV];cases a:Nat.blt i n with | true=>simp only[jI,cV,k _ a] | false=>rfl
 | rs i x=>simp only[jI,cV];cases a:Nat.blt i n with | true=>simp only[jI,cV,k _ a] | false=>rfl
 | rel i x j o=>simp only[jI,cV];cases a:Nat.blt i n with | true=>simp only[jI,cV,k _ a] | false=>rfl
 | _=>rfl
theorem aSC{n m:Nat}(h:n<=m)(v:TV): xE m (xE n v)=xE n v:=by
 have k:∀i,Nat.blt i n=true->Nat.blt i m=true:=λi e=>by
  have:i<n:=by simpa [YC] using e
  simpa [YC] using YM this h
 cases v with
 | agg cs=>simp only[xE,Ya];congr 1;exact ZS λc _=>aCG h c
 | fn vi cs=>exact aCG h<|.fn vi cs
 | ms i x=>simp only[xE,jI,cV];cases a:Nat.blt i n with | true=>simp only[xE,jI,cV,k _ a] | false=>rfl
 | ptr i o=>simp only[xE,jI,cV];cases a:Nat.blt i n with | true=>simp only[xE,jI,cV,k _ a] | false=>rfl
 | pel i j o=>simp only[xE,jI,cV];cases a:Nat.blt i n with | true=>simp only[xE,jI,cV,k _ a] | false=>rfl
 | mp i=>simp only[xE,jI,cV];cases a:Nat.blt i n with | true=>simp only[xE,jI,cV,k _ a] | false=>rfl
 | it i=>simp only[xE,jI,cV];cases a:Nat.blt i n with | true=>simp only[xE,jI,cV,k _ a] | false=>rfl
 | rs i x=>simp only[xE,jI,cV];cases a:Nat.blt i n with | true=>simp only[xE,jI,cV,k _ a] | false=>rfl
 | rel i x j o=>simp only[xE,jI,cV];cases a:Nat.blt i n with | true=>simp only[xE,jI,cV,k _ a] | false=>rfl
 | _=>rfl
theorem aGL{n m:Nat}(h:n<=m)(o:oT): iU m (iU n o)=iU n o:=by
 cases o with
 | box cs=>simp only[iU,Ya];congr 1;exact ZS λc _=>aCG h c
 | rows s es=>simp only[iU,Ya];congr 1;exact ZS λe _=>by simp only[Function.comp,Ya];exact ZS λc _=>aCG h c
 | fr k a=>
  simp only[iU];cases d:Nat.ble k n with
  | true=>simp only[iU,Yx<|ZB (Zj d) h]
  | false=>rfl
 | _=>rfl
theorem aPp{v:TV}{a:AV}(q:Qh H v a): Qh ((H.take n).map<|iU n) (xE n v) a:=by
 cases v with
 | agg cs=>
  obtain⟨aw,rfl,c⟩:=q.inA;exact Qh.mkA<|c.mapL λ_ _ q=>(Ea q).2
 | undef=>exact Qh.u _
 | tup=>exact Qh.u _
 | _=>exact (Ea (n:=n) q).2
theorem aXl{v:TV}{a b:AV}(c:n=H.length)(q:Qh H v a)(h:ClA n a b): Qh (H.map<|iU n) (xE n v) b:=by
 induction h with
 | r=>
  have:=aPp (n:=n) q;rw[c,XO] at this;rw[c];exact this
 | s b m d _ f=>
  have:=aIE (n:=m) f;rw[aSC d,ZW<|by simp;omega,Ya] at this;have e:iU m∘iU n=iU n:=funext λo=>aGL d o;rw[e] at this;exact this
theorem aXm{o:oT}{a b:dI}(c:n=H.length)(q:Qo H o a)(h:ClO n a b): Qo (H.map<|iU n) (iU n o) b:=by
 induction h with
 | r=>
  have:=(o6 (n:=n) q).2;rw[c,XO] at this;rw[c];exact this
 | s b m d _ f=>
  have:=(o6 (n:=m) f).1;rw[aGL d,ZW<|by simp;omega,Ya] at this;have e:iU m∘iU n=iU n:=funext λo=>aGL d o;rw[e] at this;exact this
end
section
variable [dN]{R:Type}{H H1:TH}{A:aW}{N:Nat}{S:TS}{st:St}{P:Program}{T:List cS}{cf:CF}{op:Jn}{K:TV->TS->Option R}{r:R}{E:XE}{n:Nat}{d:Option Nat}
def Lv{P:Type}(Q:(o:Nv P)->o.lay.V->Prop): (l:List<|Nv P)->qU l->Prop
 | [],t=>t.elim
 | [o],t=>Q o t
 | o::o'::r,t=>match t with
  | .inl t=>Q o t
  | .inr s=>Lv Q (o'::r) s
theorem Lv.two{P:Type}{Q b:(o:Nv P)->o.lay.V->Prop}: ∀{l:List<|Nv P} {t:qU l},Lv Q l t->Lv b l t->∃o∈l,∃t,Q o t/\b o t
 | [],t,_,_=>t.elim
 | [o],t,h,k=>⟨o,ZM,t,h,k⟩
 | o::a::r,.inl t,h,k=>⟨o,ZM,t,h,k⟩
 | o::a::r,.inr t,h,k=>let ⟨o,c,t,h⟩:=Lv.two (l:=a::r) h k;⟨o,ZQ _ c,t,h⟩
theorem aDx{P R:Type}{p:P}{b:Bool}{K:cT->TS->Option R}{r:R}: ∀{l:List<|Nv P} {x:Option<|qU l},swO p b l x K=some r->∃t,x=some t/\Lv (λo t=>K o.x (o.lay.mk' (o.pr p) t)=some r) l t
 | [],x,h=>by cases h
 | [o],x,h=>by
  simp only[swO] at h;obtain⟨t,rfl,h⟩:=bG h;refine⟨t,rfl,?_⟩;split at h
  .exact aLF h
  .exact h
 | o::a::l,x,h=>by
  simp only[swO] at h;rcases aJY h with⟨t,rfl,h⟩ | ⟨s,rfl,h⟩
  .refine⟨.inl t,rfl,?_⟩;split at h
   .exact aLF h
   .exact h
  .let⟨t,e,h⟩:=aDx (l:=a::l) h;cases e;exact⟨.inr _,rfl,h⟩
theorem aHj: ∀{os:List OL} {H:TH} {c:List TV},upO os H=some c->H.length=os.length
 | [],H,c,h=>by
  cases H with
  | nil=>rfl
  | cons=>cases h
 | o::os,H,c,h=>by
  cases H with
  | nil=>cases h
  | cons b H=>
   simp only[upO] at h;split at h
   .cases h
   .rename_i vs a;simp[aHj a]
theorem n8{L:Fj}{S:TS}{x:L.P×L.V}(h:L.get S=some x): S.hp.length=L.os.length:=by
 unfold Fj.get at h;split at h
 .split at h
  .rename_i a;exact aHj a
  .cases h
 .cases h
theorem aSi{L:Fj}{p:L.P}{q:L.V}(h:L.get S=some (p,q))(i k k':Nat)(l:List<|den k)(c:List<|den k')(f:S.hp[i]?=some (.lst k l))(n:(L.mk' p q).hp[i]?=some (.lst k' c)): c.length=l.length:=by
 unfold Fj.get at h;split at h
 .split at h
  .rename_i m a;split at h
   .rename_i o b;split at h
    .cases h;have g:=Pd (H:=S.hp) b;have e:=aK0 a;have j:bZ (Rj S.hp) ((mkV L.ss p q).take<|nO L.os) m:=by
      have:=g.take<|nO L.os;rw[<-e,Xn] at this;rw[e] at this;exact this
     exact wX a j i k k' l c f n
    .cases h
   .cases h
  .cases h
 .cases h
theorem aIc{kl:List Nat}: ∀{i:Nat} {H H':TH},VM kl i H H'=true->∀(j k:Nat) (l:List<|den k),i+j∉kl->H[j]?=some (.lst k l)->∃(k':Nat) (f:List<|den k'),H'[j]?=some (.lst k' f)
 | i,[],H',h,j,k,l,_,c=>by simp at c
 | i,a::r,[],h,_,_,_,_,_=>by cases h
 | i,a::r,b::s,h,j,k,l,n,c=>by
  have o:VM kl (i+1) r s=true->∀e,j=e+1->∃(k':Nat) (f:List<|den k'),(b::s)[j]?=some (.lst k' f):=by
   rintro q e rfl;let⟨k',f,g⟩:=aIc q e k l (by rw[Yu,Wg 1];exact n) (by simpa using c);exact⟨k',f,by simpa using g⟩
  simp only[VM] at h;cases j with
  | succ e=>
   refine o ?_ e rfl;split at h
   .split at h
    .exact h
    .split at h
     .exact h
     .cases h
   .exact h
  | zero=>
   simp only[Zt,Za] at c;subst c;simp only at h;split at h
   .exact⟨_,_,rfl⟩
   .split at h
    .rename_i p;exact absurd p<|by rw[aGv<|by simpa using n];simp
    .cases h
theorem aHU{os:List OL}: ∀{l:List Nat},aO3 os l=true->∀i∈l,os[i]?=some .gone
 | [],_,i,a=>by cases a
 | j::l,h,i,a=>by
  simp only[aO3] at h;split at h
  .rename_i o b;split at h
   .rcases ZN.1 a with rfl | a
    .exact b
    .exact aHU h i a
   .cases h
  .cases h
theorem B1: ∀{os:List OL} {vs:List TV} {i:Nat} {o:oT},os[i]?=some .gone->(Q4 os vs)[i]?=some o->o=.gone
 | [],vs,i,o,h,_=>by simp at h
 | c::os,vs,0,o,h,a=>by
  simp only[Zt,Za] at h;subst h;simp only[Q4,Zt,Za] at a;exact a.symm
 | c::os,vs,i+1,o,h,a=>by
  have b:os[i]?=some .gone:=by simpa using h
  clear h;cases c<;>simp only[Q4] at a<;>first
   | exact B1 b (by simpa using a)
   | (split at a<;>first | exact B1 b (by simpa using a) | (simp at a))
theorem xD{L:Fj}{S:TS}{x:L.P×L.V}(h:L.fit S=some x): L.get S=some x/\∀i∈L.fo,L.os[i]?=some .gone:=by
 unfold Fj.fit at h;split at h
 .rename_i e;exact⟨h,aHU e⟩
 .cases h
theorem l6{n:Nat}{φ:Nat->dI}: ∀{l:List Nat} {H:TH},(ovO n φ l H).length=H.length
 | [],_=>rfl
 | _::r,H=>by simp[ovO,l6 (l:=r)]
theorem aBS{n:Nat}{φ:Nat->dI}{i:Nat}: ∀{l:List Nat} {H:TH},i∉l->(ovO n φ l H)[i]?=H[i]?
 | [],_,_=>rfl
 | j::r,H,h=>by
  simp only[ZN,not_or] at h;rw[ovO,Zv λe=>h.1 e.symm];exact aBS h.2
theorem aGe{n:Nat}{φ:Nat->dI}{i:Nat}: ∀{l:List Nat} {H:TH},i∈l->i<H.length->(ovO n φ l H)[i]?=some (.fr n<|φ i)
 | j::r,H,h,a=>by
  rw[ovO,Z5];split
  .rename_i e;subst e;rw[Zu<|by rw[l6];exact a]
  .rename_i e;rcases ZN.1 h with rfl | h
   .exact (e rfl).elim
   .exact aGe h a
theorem j9{kl:List Nat}{n:Nat}{a:TH}: ∀{l:List Nat} {H:TH},(rsO kl n a l H).length=H.length
 | [],_=>rfl
 | _::r,H=>by
  simp only[rsO];split<;>simp[j9 (l:=r)]
theorem x9{kl:List Nat}{n i:Nat}{a:TH}: ∀{l:List Nat} {H:TH},i∉l->(rsO kl n a l H)[i]?=H[i]?
 | [],_,_=>rfl
 | j::r,H,h=>by
  simp only[ZN,not_or] at h;rw[rsO];split
  .rw[Zv λe=>h.1 e.symm];exact x9 h.2
  .exact x9 h.2
theorem aBC{kl:List Nat}{n i:Nat}{d:TH}{o:oT}(c:d[i]?=some o): ∀{l:List Nat} {H:TH},i∈l->i<H.length->(rsO kl n d l H)[i]?=some (Gw kl<|iU n o)
 | j::r,H,h,b=>by
  rw[rsO];rcases ZN.1 h with rfl | h
  .rw[c];exact Z3<|by rw[j9];exact b
  .split
   .rename_i f a;rw[Z5];split
    .rename_i e;subst e;rw[c] at a;cases a;rw[Zu<|by rw[j9];exact b]
    .exact aBC c h b
   .exact aBC c h b
theorem aQs{L:Fj}{n:Nat}{φ:Nat->dI}{p:L.P}{q:L.V}(h:∀i∈L.fo,L.os[i]?=some .gone): HM (L.mk' p q).hp (L.mkG n φ p q).hp:=by
 intro i k l a;have b:i∉L.fo:=λc=>by cases B1 (h i c) a
 exact⟨k,l,by rw[<-a];exact aBS b,rfl⟩
theorem aUr{L:Fj}{n:Nat}{φ:Nat->dI}{p:L.P}{q:L.V}(h:∀i∈L.fo,L.os[i]?=some .gone)(c:Qt N (L.mk' p q) st)(k:∀i∈L.fo,∀b,st.heap[i]?=some b->ClO n (φ i) b): Qt N (L.mkG n φ p q) st:=by
 refine Qt.hpM (S:=L.mk' p q) (st:=st) c (aQs h)<|bZ.of (by rw[c.hp.len];exact l6.symm) λj o b d f=>?_;by_cases e:j∈L.fo
 .have g:j<(L.mk' p q).hp.length:=by rw[<-c.hp.len];exact (Ze.1 f).1
  rw[aGe e g] at d;cases d;exact k j e b f
 .rw[aBS e] at d;exact (c.hp.at d f).mono<|aQs h
theorem I5{L:Fj}{p:L.P}{q:L.V}{n:Nat}{φ:Nat->dI}(h:L.fit S=some (p,q))(a:Qt N S st)(c:∀i∈L.fo,∀b,st.heap[i]?=some b->ClO n (φ i) b): Qt N (L.mkG n φ p q) st:=
 aUr (xD h).2 (aMm (xD h).1 a) c
theorem aH7{n:Nat}{φ:Nat->dI}{H:TH}: ∀{l:List Nat},aOe n H l=some (l.map φ)->∀i∈l,H[i]?=some (.fr n<|φ i)
 | [],_,i,a=>by cases a
 | j::l,h,i,a=>by
  simp only[aOe] at h;split at h
  .rename_i o c;split at h
   .split at h
    .rename_i e;have e:=Zc e;subst e;split at h
     .rename_i f b;simp only[ZE,Za,XU] at h;obtain⟨rfl,rfl⟩:=h;rcases ZN.1 a with rfl | a
      .exact c
      .exact aH7 b i a
     .cases h
    .cases h
   .cases h
  .cases h
theorem n9{L:Fj}{p:L.P}{q:L.V}{n:Nat}{φ:Nat->dI}(h:L.getF n S=some (L.fo.map φ,p,q))(a:Qt N S st): Qt N (L.mkG n φ p q) st:=by
 unfold Fj.getF at h;split at h
 .rename_i f e;split at h
  .rename_i x g;simp only[Za,Zi] at h;obtain⟨rfl,rfl⟩:=h;exact I5 g a λi c b d=>a.hp.at (aH7 e i c) d
  .cases h
 .cases h
theorem aEm{t:Nat}{v:TV}{B:TT}: ∀{A:TT},dC t (A++B)=some v->dC t A=some v\/dC t B=some v
 | [],h=>.inr h
 | (s,u)::A,h=>by
  simp only[Vf,dC] at h |-;split at h
  .exact .inl h
  .exact aEm h
theorem E9{kl:List Nat}{n t:Nat}{c:TT}{v:TV}: ∀{l:List Nat},dC t (rsT kl n c l)=some v->t∈l/\∃u,dC t c=some u/\v=BS kl (xE n u)
 | [],h=>by cases h
 | s::l,h=>by
  simp only[rsT] at h;split at h
  .rename_i u d;simp only[dC] at h;split at h
   .rename_i e;have e:=Zc e;subst e;cases h;exact⟨ZM,u,d,rfl⟩
   .let⟨a,b⟩:=E9 h;exact⟨ZQ _ a,b⟩
  .let⟨a,b⟩:=E9 h;exact⟨ZQ _ a,b⟩
structure OKo(sp:h9)(p:sp.ins.P)(q:sp.ins.V)(o:Nv sp.ins.P): Prop where
 fo:o.lay.fo=sp.ins.fo
 hm:∀t,HMk sp.kl (sp.ins.mk' p q).hp (o.lay.mk' (o.pr p) t).hp
 ln:∀t,(sp.ins.mk' p q).hp.length<=(o.lay.mk' (o.pr p) t).hp.length
structure OKu(sp:h9)(p:sp.ins.P)(q:sp.ins.V)(o:Nv sp.ins.P)(u:o.lay.V): Prop where
 fo:o.lay.fo=sp.ins.fo
 hm:HMk sp.kl (sp.ins.mk' p q).hp (o.lay.mk' (o.pr p) u).hp
 ln:(sp.ins.mk' p q).hp.length<=(o.lay.mk' (o.pr p) u).hp.length
theorem OKo.at{sp:h9}{p:sp.ins.P}{q:sp.ins.V}{o:Nv sp.ins.P}(h:OKo sp p q o)(u:o.lay.V): OKu sp p q o u:=⟨h.fo,h.hm u,h.ln u⟩
theorem aIe: ∀{H H':TH},aJ4 H H'=true->∀(j k:Nat) (l:List<|den k),H[j]?=some (.lst k l)->∃(k':Nat) (b:List<|den k'),H'[j]?=some (.lst k' b)/\b.length=l.length
 | [],_,_,j,k,l,c=>by simp at c
 | o::r,[],h,_,_,_,_=>by cases h
 | o::r,b::s,h,j,k,l,c=>by
  have w:(∀k (l:List<|den k),o=.lst k l->∃(k':Nat) (f:List<|den k'),b=.lst k' f/\f.length=l.length)/\aJ4 r s=true:=by
   cases o with
   | lst k l=>
    cases b with
    | lst k' f=>
     have h:(Nat.beq f.length l.length&&aJ4 r s)=true:=h
     have h:=(Zd _ _).mp h
     exact⟨λ_ _ e=>by cases e;exact⟨_,_,rfl,Zc h.1⟩,h.2⟩
    | _=>cases h
   | _=>exact⟨λ_ _ e=>(by cases e),h⟩
  cases j with
  | zero=>
   simp only[Zt,Za] at c
   let⟨k',f,e,n⟩:=w.1 k l c;exact⟨k',f,by rw[e];rfl,n⟩
  | succ j=>exact aIe w.2 j k l (by simpa using c)
theorem aML{α:Type}{b:Bool}{x:Option α}{r:α}(h:cnd b x none=some r): b=true/\x=some r:=by
 cases b with
 | true=>exact⟨rfl,h⟩
 | false=>cases h
theorem aFb{n i k:Nat}{l:List<|den k}(h:(H.map<|iU n)[i]?=some (.lst k l)): H[i]?=some (.lst k l):=by
 rw[Zk,Zq] at h;let⟨o,b,a⟩:=h;cases o<;>simp only[iU] at a<;>first | (cases a;done) | (cases a;exact b) | (split at a<;>cases a)
section
variable {N':Nat}{S1:TS}{st1 st2:St}{sp:h9}{p:sp.ins.P}{q:sp.ins.V}{o:Nv sp.ins.P}{φ:Nat->dI}{u:o.lay.V}
theorem aFO(F:Qt N S1 st1)(E:sp.ins.fit S1=some (p,q))(U:VM (sp.kl++sp.ins.fo) 0 S1.hp (sp.ins.mk' p q).hp=true)(Y:∀i∈sp.ins.fo,∀b,st1.heap[i]?=some b->b=φ i)(G:OKu sp p q o u)(s:Qt N' (o.lay.mkG sp.ins.os.length φ (o.pr p) u) st2): HMk sp.kl S1.hp (rsO sp.kl S1.hp.length S1.hp sp.ins.fo (o.lay.mk' (o.pr p) u).hp)/\Qt N' ⟨(o.lay.mk' (o.pr p) u).tm,rsO sp.kl S1.hp.length S1.hp sp.ins.fo (o.lay.mk' (o.pr p) u).hp⟩ st2:=by
 have m:S1.hp.length=sp.ins.os.length:=n8 (xD E).1;have I:S1.hp.length=(sp.ins.mk' p q).hp.length:=by
  rw[<-F.hp.len];exact (aMm (xD E).1 F).hp.len
 have e:st2.heap.length=(o.lay.mk' (o.pr p) u).hp.length:=by rw[s.hp.len];exact l6
 have L:∀i a,S1.hp[i]?=some a->i<(o.lay.mk' (o.pr p) u).hp.length:=λi a h=>by
  have h1:=(Ze.1 h).1;have h2:=G.ln;omega
 have O:HMk sp.kl S1.hp<|rsO sp.kl S1.hp.length S1.hp sp.ins.fo (o.lay.mk' (o.pr p) u).hp:=by
  intro i k l g n;by_cases f:i∈sp.ins.fo
  .exact⟨k,l,by rw[aBC n f<|L i _ n];rfl,rfl⟩
  .let⟨k',M,Q⟩:=aIc U i k l (by rw[Z0];simp[g,f]) n;let⟨Z,V,X,W⟩:=G.hm i k' M g Q;exact⟨Z,V,by rw[x9 f];exact X,by rw[W];exact aSi (xD E).1 i k k' l M n Q⟩
 have x:∀i,i∉sp.ins.fo->(o.lay.mkG sp.ins.os.length φ (o.pr p) u).hp[i]?=(o.lay.mk' (o.pr p) u).hp[i]?:=λi g=>aBS (by rw[G.fo];exact g);have v:∀i,i∈sp.ins.fo->i<(o.lay.mk' (o.pr p) u).hp.length->(o.lay.mkG sp.ins.os.length φ (o.pr p) u).hp[i]?=some (.fr sp.ins.os.length<|φ i):=λi g n=>aGe (by rw[G.fo];exact g) n;have D:HM (o.lay.mkG sp.ins.os.length φ (o.pr p) u).hp<|rsO sp.kl S1.hp.length S1.hp sp.ins.fo (o.lay.mk' (o.pr p) u).hp:=by
  intro i k l g;have K:i<(o.lay.mk' (o.pr p) u).hp.length:=by rw[<-e,s.hp.len];exact (Ze.1 g).1
  by_cases f:i∈sp.ins.fo
  .rw[v i f K] at g;cases g
  .exact⟨k,l,by rw[x9 f,<-x i f];exact g,rfl⟩
 refine⟨O,Qt.hpM (S:=o.lay.mkG sp.ins.os.length φ (o.pr p) u) s D<|bZ.of (by rw[j9];exact e) λj a b H r=>?_⟩;have A:j<(o.lay.mk' (o.pr p) u).hp.length:=by rw[<-e];exact (Ze.1 r).1
 by_cases f:j∈sp.ins.fo
 .have y:ClO sp.ins.os.length (φ j) b:=s.hp.at (v j f A) r;have C:j<S1.hp.length:=by rw[m];exact (Ze.1<|(xD E).2 j f).1
  have J:j<st1.heap.length:=by rw[F.hp.len];exact C
  have z:=Zb C;have t:=Zb J;rw[aBC z f A] at H;cases H;have R:=F.hp.at z t;rw[Y j f _ t] at R;rw[<-m] at y;exact aEt (λi k l g n=>O i k l g<|aFb n)<|aXm rfl R y
 .rw[x9 f,<-x j f] at H;exact (s.hp.at H r).mono D
theorem aMZ{S:TS}{x:cT}(s:Qt N S st)(I:Qt N S1 st1)(r:S1.hp.length=S.hp.length)(A:∀(i k:Nat) (l:List<|den k),S.hp[i]?=some (.lst k l)->S1.hp[i]?=some (.lst k l))(D:sp.ins.fit S1=some (p,q))(Q:VM (sp.kl++sp.ins.fo) 0 S1.hp (sp.ins.mk' p q).hp=true)(O:∀i∈sp.ins.fo,∀b,st1.heap[i]?=some b->b=φ i)(L:OKo sp p q o)(V:Qt N (o.lay.mkG sp.ins.os.length φ (o.pr p) u) st2)(K:x≠.ret->∀t∈sp.kt,Kp sp.ins.os.length t st st2): Qt N (aft sp S.tm S1.hp x<|o.lay.mk' (o.pr p) u) st2:=by
 let⟨F,n⟩:=aFO I D Q O (L.at u) V;have h:S1.hp.length=sp.ins.os.length:=n8 (xD D).1;have f:x≠.ret->Qt N ⟨(o.lay.mk' (o.pr p) u).tm++rsT sp.kl S1.hp.length S.tm sp.kt,rsO sp.kl S1.hp.length S1.hp sp.ins.fo (o.lay.mk' (o.pr p) u).hp⟩ st2:=by
  intro J;refine⟨n.ln,λt v g=>?_,n.hp⟩;rcases aEm g with g | g
  .exact n.tm t v g
  .obtain⟨M,w,E,rfl⟩:=E9 g;let⟨a,G,R⟩:=s.tm t w E;let⟨b,y,C⟩:=(K J t M).2 a G;refine⟨b,y,?_⟩;rw[<-h] at C;exact Gx (λi k l H r=>F i k l H<|A i k l<|aFb r)<|aXl r R C
 cases x with
 | ret=>exact n
 | normal=>exact f<|by intro e;cases e
 | exit j=>exact f<|by intro e;cases e
end
def IOK[aF](P:Program)(T:List cS)(sp:ISp): Prop:=∀n p q t,sp.s.F n p q=some t->∀φ aw H,aw.length=sp.na->sp.fl<=H.length->Qt aw.length (sp.s.ins.mkG sp.s.ins.os.length φ p q) ⟨aw,H⟩->
 ∃aw' H',fH P T n sp.fl sp.vi aw H=some (kB aw',H')/\aw'.length=sp.nr/\Lv (λo t=>Qt sp.nr (o.lay.mkG sp.s.ins.os.length φ (o.pr p) t) ⟨aw',H'⟩/\OKo sp.s p q o) sp.s.outs t
theorem aI1: ∀{vs:List TV} {aw:List AV} {i t:Nat} {v:TV},Qc H vs aw->dC t (TU i vs)=some v->∃j a,t=i+j/\aw[j]?=some a/\Qh H v a
 | [],_,i,t,v,_,h=>by cases h
 | u::vs,a::aw,i,t,v,q,h=>by
  simp only[TU,dC] at h;split at h
  .rename_i e;have e:=Zc e;cases h;exact⟨0,a,by omega,rfl,q.1⟩
  .let⟨j,b,f,d,c⟩:=aI1 q.2 h;exact⟨j+1,b,by omega,by simpa using d,c⟩
theorem aCA{vs:List TV}{aw:List AV}(b:Qs H A)(q:Qc H vs aw): Qt aw.length ⟨TU 0 vs,H⟩ ⟨aw,A⟩:=by
 refine⟨rfl,λt v f=>?_,b⟩;let⟨j,a,e,c,d⟩:=aI1 q f;exact⟨a,by rw[e,Z0];exact c,d⟩
theorem aQp{c t:Nat}{b:List AV}{e:aW}(h:Qt c S ⟨b,e⟩)(f:t<c): ∃a,b[t]?=some a/\Qh S.hp (match dC t S.tm with | some v=>v | none=>.undef) a:=by
 cases d:dC t S.tm with
 | some v=>exact h.tm t v d
 | none=>exact⟨b[t]'(by rw[h.ln];exact f),Zb _,Qh.u _⟩
theorem aH4{d:Nat}{c:List AV}{o:aW}(h:Qt d S ⟨c,o⟩): Qh S.hp (aLc d S.tm)<|kB c:=by
 have q:c.length=d:=h.ln;have f:∀d,Qt d S ⟨c,o⟩->Qh S.hp (.tup<|(List.range d).map λj=>match dC j S.tm with | some v=>v | none=>.undef) (.tup c):=by
  intro d h;refine Qh.mkT<|bZ.of (by simp[h.ln]) λj v a p k=>?_;rw[Zk,Zq] at p;obtain⟨n,l,rfl⟩:=p;have e:n=j:=by
   rw[YY<|by rw[<-h.ln];exact (Ze.1 k).1] at l;cases l;rfl
  subst e;let⟨b,g,i⟩:=aQp h (t:=n) (by rw[<-h.ln];exact (Ze.1 k).1);rw[k] at g;cases g;exact i
 match d,c,h,q with
 | 0,[],h,_=>exact f 0 h
 | 1,[a],h,_=>
  let⟨b,g,i⟩:=aQp h (t:=0) (by omega);cases g;exact i
 | m+2,a::b::r,h,_=>exact f _ h
theorem Sl[aF]{fl vi:Nat}{vs:List TV}{aw:List AV}(d:fl<=st.heap.length)(v:Qt N S st)(q:Qc S.hp vs aw): ∀{l:List ISp},(∀sp∈l,IOK P T sp)->Ba n fl vi vs S K l=some r->
 ∃a A tv m,fH P T n fl vi aw st.heap=some (a,A)/\Qt N m ⟨st.tmps,A⟩/\Qh m.hp tv a/\K tv m=some r
 | [],_,h=>by cases h
 | sp::l,y,h=>by
  have e:Ba n fl vi vs S K l=some r->_:=Sl d v q λsp h=>y sp<|ZQ _ h;simp only[Ba] at h;split at h
  .exact e h
  .rename_i w;have w:=Zc w;split at h
   .exact e h
   .rename_i e2;have e2:=Zc e2;split at h
    .exact e h
    rename_i k;have k:=Zc k;split at h
    .rename_i p q' x;split at h
     .rename_i j;have f:=aCA v.hp q;let φ:Nat->dI:=λi=>(st.heap[i]?).getD default;have z:∀i b,st.heap[i]?=some b->b=φ i:=λi b c=>by show b=(st.heap[i]?).getD default;rw[c];rfl
      split at h
      rotate_left
      .split at h
       .rename_i j2;let⟨t,G,g⟩:=aDx h
        let⟨H,H',C,L,F⟩:=y sp ZM n p q' t G φ aw st.heap (by rw[q.len];exact k) (by rw[e2];exact d) (I5 x f λi M b c=>by rw[z i b c];exact .r _);let⟨o,_,u,⟨J,E⟩,D⟩:=Lv.two F g
        obtain⟨D0,D⟩:=aML D
        have E2:OKu {sp.s with kl:=[]} p q' o u:=⟨E.fo,λi k l _ h=>aIe D0 i k l h,E.ln u⟩
        let⟨I,B⟩:=aFO (sp:={sp.s with kl:=[]}) f x j2 (λi _ b c=>z i b c) E2 J;exact⟨_,H',aLc sp.nr (o.lay.mk' (o.pr p) u).tm,⟨S.tm,rsO [] S.hp.length S.hp sp.s.ins.fo (o.lay.mk' (o.pr p) u).hp⟩,by rw[<-w,<-e2];exact C,F3 (f:=[]) v I B.hp,aH4 B,D⟩
       .exact e h
      let⟨t,G,g⟩:=aDx h
      let⟨H,H',C,L,F⟩:=y sp ZM n p q' t G φ aw st.heap (by rw[q.len];exact k) (by rw[e2];exact d) (I5 x f λi M b c=>by rw[z i b c];exact .r _);let⟨o,_,u,⟨J,E⟩,D⟩:=Lv.two F g;let⟨I,B⟩:=aFO f x j (λi _ b c=>z i b c) (E.at u) J;exact⟨_,H',aLc sp.nr (o.lay.mk' (o.pr p) u).tm,⟨aEr sp.kl S.tm,rsO sp.kl S.hp.length S.hp sp.s.ins.fo (o.lay.mk' (o.pr p) u).hp⟩,by rw[<-w,<-e2];exact C,F3 v I B.hp,aH4 B,D⟩
     .exact e h
    .exact e h
end
section
variable [dN]{R:Type}{H H1:TH}{A:aW}{N:Nat}{S:TS}{st:St}{P:Program}{T:List cS}{cf:CF}{op:Jn}{K:TV->TS->Option R}{r:R}{E:XE}{n:Nat}{d:Option Nat}
def aNg[aF](P:Program)(t:TypeId)(e:EqS): Prop:=∀(cf:CF) (fl:Nat) (H:aW) (x y:den e.k) (aw bs:List AV),Qr (jX e.k x) aw->Qr (jX e.k y) bs->
 aL P cf fl (.bin .eql t (.tmp 0)<|.tmp 1) [tV (ag e.k) aw,tV (ag e.k) bs] H=some (bv<|@decide (x=y)<|e.dec x y,H)/\aL P cf fl (.bin .neq t (.tmp 0)<|.tmp 1) [tV (ag e.k) aw,tV (ag e.k) bs] H=some (bv<|!@decide (x=y) (e.dec x y),H)
def KOK(P:Program)(t:TypeId)(e:aPG): Prop:=aEu (cds e.k)=true/\@P7 (den e.k) e.dec P t (sO e.k)
def aNc(P:Program)(t:TypeId): Prop:=P.underlying t=some .string/\∀s,aN P (Builtin.len_ #[t] 0 #[.string s])=some (.int .i64 ((s.size:Nat):Int))
def aKi(P:Program)(s d:TypeId)(k:IntKind): Prop:=∀j a,aN P (convert s d<|.int j a)=some (.int k<|k.wrap a)
def aMP(s bytes:Nat)(z:List Value): bU:=(.seq (.region false [] [⟨(some 2),.mov<|.lit bS,none⟩])<|.nilIf 0 3 4 (.seq (.region false [] [⟨(some 2),.mov<|.lit bS,none⟩]) .ret)<|.seq (.region false [] [⟨(some 5),.buildSl true s 0 z [],none⟩,⟨(some 6),.mov<|.tmp 0,none⟩,⟨(some 7),.append s bytes (.tmp 5)<|.tmp 6,none⟩,⟨(some 2),.mov<|.tmp 7,none⟩]) .ret)
def aQJ[aF](T:List cS)(vi k:Nat): Prop:=∃fid bytes z,getF T vi=some ⟨fid,8,[.tmp 2],aMP (cds k).length bytes z⟩/\0<(cds k).length/\bytes<=100000
def POK[aF](T:List cS)(vi:Nat): PSp->Prop
 | .srt k=>aF.prim vi=some (xZ (ag k) (cds k).length)
 | .cln k=>aQJ T vi k
 | .ord k F=>∃g,aF.prim vi=some (oV g)/\∀fl H id (l:List<|den k) es,fl<=id->H[id]?=some (.blk (cds k).length es)->Ql k l es->l.length<=1000000->
  ∃es',g fl [.ms id l.length 0 l.length] H=some (.tup [],H.set id<|.blk (cds k).length es')/\Ql k (F l) es'/\(F l).length=l.length
 | .ins k=>∃g,aF.prim vi=some (oV g)/\∀fl H id y (i:Nat) es row,fl<=id->(∃id2,id≠id2/\y=.ms id2 1 0 1/\H[id2]?=some (.blk (cds k).length [row]))->H[id]?=some (.blk (cds k).length es)->row.length=(cds k).length->i<=es.length->es.length<=1000000->
  g fl [.ms id es.length 0 es.length,.lit<|.int .i64 (i:Nat),y] H=some (.ms id (es.length+1) 0<|es.length+1,H.set id<|.blk (cds k).length (es.take i++row::es.drop i))
structure Q1[aF](P:Program)(T:List cS)(E:XE): Prop where
 cs:∀vi c,E.cs vi=some c->FOK P T vi c
 eq:∀t e,E.eq t=some e->aNg P t e
 km:∀t e,E.km t=some e->KOK P t e
 st:∀t,E.st t=true->aNc P t
 cv:∀s d k,E.cv s d=some k->aKi P s d k
 pr:∀vi p,E.pr vi=some p->POK T vi p
 il:∀sp∈E.il,IOK P T sp
 fo:∀cf,tM cf->tM (Mg cf)
theorem aHt{α β:Type}: ∀(l:List α) (m:List β) (i:Nat) (a:α) (b:β),(l.zip m).set i (a,b)=(l.set i a).zip (m.set i b)
 | [],_,_,_,_=>by simp
 | _::_,[],i,_,_=>by cases i<;>simp
 | x::l,y::m,0,a,b=>rfl
 | x::l,y::m,i+1,a,b=>by simp[aHt l m i a b]
theorem aDp{k:Nat}{x:den k}{row:List AV}(h:Qr (jX k x) row): Qh H (val k x)<|tV (ag k) row:=by
 unfold val tV;cases ag k with
 | true=>exact Qh.mkA h.c
 | false=>
  cases b:jX k x with
  | nil=>exact Qh.u _
  | cons c r=>
   rw[b] at h;cases row with
   | nil=>exact h.elim
   | cons a r=>exact .p _ _ h.1
theorem aRi{k:Nat}{v:TV}{x:den k}{a:AV}{c:TH}(h:k8 0 c k v=some x)(q:Qh H v a): ∃row,a=tV (ag k) row/\Qr (jX k x) row:=by
 unfold k8 at h;split at h
 .rename_i b;split at h
  .obtain⟨aw,rfl,q'⟩:=q.inA;exact⟨aw,by rw[b];rfl,jQ h q'⟩
  .cases h
 .rename_i b;exact⟨[a],by rw[b];rfl,jQ h (aw:=[a]) ⟨q,trivial⟩⟩
theorem m8: ∀{cs:List Cd} {p:SL cs},aEu cs=true->qX cs p=(kvC cs p).map .lit
 | [],_,_=>rfl
 | c::r,p,h=>by
  cases c<;>first | (cases h;done) | (simp only[aEu] at h;simp only[qX,kvC,ZE,m8 h];rfl)
theorem aCk: ∀{vs:List Value} {aw:List AV},Qr (vs.map .lit) aw->Gv aw=some vs
 | [],[],_=>rfl
 | v::vs,a::aw,h=>by
  have e:a=.lit v:=by cases h.1;rfl
  subst e;simp only[Gv,aCk h.2]
theorem aLW{k:Nat}{v:TV}{x:den k}{a:AV}{g:TH}(d:aEu (cds k)=true)(h:k8 0 g k v=some x)(q:Qh H v a): lits a=some (sO k x):=by
 unfold k8 at h;unfold sO;split at h
 .rename_i f;split at h
  .obtain⟨aw,rfl,q'⟩:=q.inA;have b:=jQ h q';unfold jX at b;rw[m8 d] at b;simp only[lits,aCk b,f]
  .cases h
 .rename_i f;have b:=jQ h (aw:=[a]) ⟨q,trivial⟩;unfold jX at b;rw[m8 d] at b;generalize kvC (cds k) (dN.un k x)=vs at b;match vs,b with
  | [v],b=>
   have e:a=.lit v:=by cases b.1;rfl
   subst e;rfl
theorem aJK{kk b:Nat}{m:List<|den kk×den b}{rows:List<|List AV}(h:rows.length=m.length): (gD b m rows).map (·.1)=(m.map (·.1)).map (sO kk):=by
 unfold gD;rw[List.map_fst_zip<|by simp[h],Ya];rfl
theorem aI2{kk b:Nat}{m:List<|den kk×den b}{rows:List<|List AV}{i:Nat}{p:den kk×den b}{row:List AV}(c:m[i]?=some p)(d:rows[i]?=some row): (gD b m rows)[i]?=some (sO kk p.1,tV (ag b) row):=by
 unfold gD;rw[List.getElem?_zip_eq_some];exact⟨by simp[c],by simp[d]⟩
theorem aAV{kt:TypeId}{a:aPG}{c:Nat}{m:List<|den a.k×den c}{rows:List<|List AV}(d:KOK P kt a)(h:rows.length=m.length)(x:den a.k): kE P kt (sO a.k x) (gD c m rows)=some (m.findIdx? λp=>@decide (p.1=x)<|a.dec p.1 x):=by
 rw[aG5 (e2:=(m.map (·.1)).map λx=>(sO a.k x,AV.undef))<|by rw[aJK h,Ya,Ya,Ya];rfl,@P7.find _ a.dec _ _ _ d.2];congr 1;rw[List.findIdx?_map];rfl
theorem aIb{kk c:Nat}{v:TV}{a:AV}{m:List<|den kk×den c}(n:Qs H A)(q:Qh H v a)(h:aLL H kk v=some ⟨c,m⟩):
 ∃rows,Qm c m rows/\((a=.lit (.map none)/\m=[])\/a=.rmp (gD c m rows)\/∃id,a=.mp id/\v=.mp id/\A[id]?=some (.mp<|gD c m rows)/\id<H.length):=by
 unfold aLL at h;split at h
 .split at h
  .rename_i g;cases h;let⟨e,i,h⟩:=LX g;subst e;cases i;subst h;let⟨rows,d,f⟩:=(q.pu trivial).inM;rcases d with d | d
   .exact⟨rows,f,.inl d⟩
   .exact⟨rows,f,.inr<|.inl d⟩
  .cases h
 .split at h
  .rename_i o k;split at h
   .split at h
    .rename_i g;cases h;let⟨e,i,h⟩:=LX g;subst e;cases i;subst h;obtain⟨b,l,rows,rfl,f⟩:=n.get k;exact⟨rows,f,.inr<|.inr ⟨_,q.mp1,rfl,l,(Ze.1 k).1⟩⟩
    .cases h
   .cases h
  .cases h
 .cases h
theorem E8[aF]{kt:TypeId}{z m k:bB}{ok:Bool}(U:Q1 P T E)(t:Qt N S st)(h:cO E n d (.lookup kt z m k ok) S K=some r): dD P cf E.fl N (.lookup kt z m k ok) st K r:=by
 simp only[cO] at h;split at h
 .rename_i o L;have A:=U.km kt o L;split at h
  .rename_i g y;have f:=aLW A.1 y<|t.get k;split at h
   .rename_i p W;let⟨w,x⟩:=p;let⟨rows,O,c⟩:=aIb t.hp (t.get m) W;split at h
    .rename_i M Y;have V:Qh S.hp (val w M)<|aG st.tmps z:=aTX Y<|t.get z;have G:∃a,Qh S.hp (val w<|(@cE _ _ o.dec x g).getD M) a/\aL P cf E.fl (.lookup kt z m k ok) st.tmps st.heap=some (if ok then .tup [a,.lit<|.bool (@cE _ _ o.dec x g).isSome] else a,st.heap):=by
      have q:kE P kt (sO o.k g) (gD w x rows)=_:=aAV A O.len g;have u:∀e,aN P (Instr.checkKey e 10000 kt<|sO o.k g)=some ():=λe=>@P7.chk _ o.dec _ _ _ A.2 e g;rcases @E4 _ _ o.dec _ g x with⟨j,F⟩ | ⟨i,v,j,F,I⟩
      .refine⟨aG st.tmps z,by rw[j];exact V,?_⟩;rw[F] at q;rcases c with⟨c,B⟩ | c | ⟨id,c,_,s,_⟩
       .subst B;have J:kE P kt (sO o.k g) []=some none:=q;simp only[aL,f,c,u,J,j];cases ok<;>rfl
       .simp only[aL,f,c,u,q,j];cases ok<;>rfl
       .simp only[aL,f,c,s,u,q,j];cases ok<;>rfl
      .let⟨row,Z,X⟩:=O.get I;refine⟨tV (ag w) row,by rw[j];exact aDp X,?_⟩;rw[F] at q;have he:=aI2 I Z;rcases c with⟨c,B⟩ | c | ⟨id,c,_,s,_⟩
       .subst B;simp at I
       .simp only[aL,f,c,u,q,he,j];cases ok<;>rfl
       .simp only[aL,f,c,s,u,q,he,j];cases ok<;>rfl
     let⟨a,R,he⟩:=G;split at h
     .let⟨b,qb,h⟩:=HU h<|Qh.l (H:=S.hp) _;let⟨Q,D,h⟩:=HU h R;exact dD.same t (by rw[he];rfl) (Qh.mkT (cs:=[Q,b]) (aw:=[a,_]) ⟨D,qb,trivial⟩) h
     .let⟨Q,D,h⟩:=HU h R;exact dD.same t (by rw[he];rfl) D h
    .cases h
   .cases h
  .cases h
 .cases h
theorem aLM[aF]{kt:TypeId}{m k v:bB}(hE:Q1 P T E)(x:Qt N S st)(h:cO E n d (.mapUpd kt m k v) S K=some r): dD P cf E.fl N (.mapUpd kt m k v) st K r:=by
 simp only[cO] at h;split at h
 .rename_i b Q;have B:=hE.km kt b Q;split at h
  .rename_i c J;have y:=aLW B.1 J<|x.get k;split at h
   .rename_i id hm;have X:=x.get m;rw[hm] at X;have R:=X.mp1;split at h
    .cases h
    .rename_i j;have j:=Zj j;split at h
     .rename_i p F;let⟨C,q⟩:=p;let⟨rows,w,u⟩:=aIb x.hp (Qh.mp (H:=S.hp) id) F;split at h
      .rename_i D hv;let⟨row,U,e2⟩:=aRi hv<|x.get v;rcases u with⟨u,_⟩ | u | ⟨a2,u,_,z,a1⟩
       .cases u
       .cases u
       cases u;have A:kE P kt (sO b.k c) (gD C q rows)=_:=aAV B w.len c;have W:aN P (Instr.checkKey false 10000 kt<|sO b.k c)=some ():=@P7.chk _ b.dec _ _ _ B.2 false c;have t:Instr.sameBits 10000 (sO b.k c) (sO b.k c)=true:=@P7.same _ b.dec _ _ _ B.2 c;have G:∀o:oT,(∀(k:Nat) (l:List<|den k),S.hp[id]?≠some (.lst k l))->HM S.hp (S.hp.set id o):=λo hn=>HM.set λk l e=>absurd e<|hn k l;have L:∀(k:Nat) (l:List<|den k),S.hp[id]?≠some (.lst k l):=by
        intro k l e;simp only[aLL,e] at F;cases F
       have f:∀a,aL P cf E.fl (.mapUpd kt m k v) st.tmps st.heap=some (.lit bQ,st.heap.set id<|.mp<|gD C (@kW _ _ b.dec q c D) a)->Qm C (@kW _ _ b.dec q c D) a->dD P cf E.fl N (.mapUpd kt m k v) st K r:=
        λa he M=>dD.set (o:=.map b.k C<|@kW _ _ b.dec q c D) x he (G _ L) ⟨a,rfl,M⟩ (Qh.l _) h
       have g:=@aEg _ _ b.dec _ c D q;rcases @E4 _ _ b.dec _ c q with⟨g1,O⟩ | ⟨i,v0,g1,O,Y⟩
       .rw[O] at A g;rw[g] at f;refine f (rows++[row]) ?_<|w.app ⟨e2,trivial⟩;simp only[aL,y,R,j,Zz,z,W,A,U];congr 4;unfold gD;rw[YJ,YJ,List.zip_append<|by simp[w.len]];rfl
       .rw[O] at A g;rw[g] at f;let⟨V,Z,h2⟩:=w.get Y;have he:=aI2 Y Z;refine f (rows.set i row) ?_<|bZ.set (l:=q) (m:=rows) w i e2;simp only[aL,y,R,j,Zz,z,W,A,he,t,U];congr 4;unfold gD;rw[Xz,Xz];exact aHt _ _ _ _ _
      .cases h
     .cases h
   .cases h
  .cases h
 .cases h
end
section
variable [dN]{R:Type}{H H1:TH}{A:aW}{N:Nat}{S:TS}{st:St}{P:Program}{T:List cS}{cf:CF}{op:Jn}{K:TV->TS->Option R}{r:R}{E:XE}{n:Nat}{d:Option Nat}
theorem aB4{v:TV}{a:AV}{s:ByteArray}(h:aJe v=some s)(q:Qh H v a): a=sv s:=by
 unfold aJe at h;split at h
 .split at h
  .cases h;exact q.inL
  .cases h
 .cases h
theorem aP0[aF]{x:Option bB}{b a:Int}(d:Qt N S st)(h:LY S.tm x b=some a)(c:0<=a): (x=none/\a=b)\/(∃y,x=some y/\iC (aG st.tmps y)=some a.toNat):=by
 unfold LY at h;split at h
 .cases h;exact .inl ⟨rfl,rfl⟩
 .rename_i y;have:=zA h<|d.get y;exact .inr ⟨y,rfl,by rw[this];simp[iC,c]⟩
theorem lK[aF]{x:Option bB}{b a:Int}(d:Qt N S st)(h:LY S.tm x b=some a)(f:0<=a): ∃o,eC st.tmps x=some o/\∀D:Nat,b=(D:Int)->o.getD D=a.toNat:=by
 rcases aP0 d h f with⟨rfl,rfl⟩ | ⟨y,rfl,e⟩
 .exact⟨none,rfl,λD c=>by simp[c]⟩
 .exact⟨some a.toNat,by simp only[eC,e],λD _=>rfl⟩
theorem aLP[aF]{t:TypeId}{x:bB}(c:Q1 P T E)(a:Qt N S st)(h:cO E n d (.lenStr t x) S K=some r): dD P cf E.fl N (.lenStr t x) st K r:=by
 simp only[cO] at h;split at h
 .rename_i b;split at h
  .rename_i s f;have e:=aB4 f<|a.get x;refine dD.same a ?_ (Qh.l _) h;simp only[aL,e,(c.st t b).2 s]
  .cases h
 .cases h
theorem aK7[aF]{t:TypeId}{x i:bB}(g:Q1 P T E)(a:Qt N S st)(h:cO E n d (.strIdx t x i) S K=some r): dD P cf E.fl N (.strIdx t x i) st K r:=by
 simp only[cO] at h;split at h
 .rename_i c;split at h
  .rename_i s k;have e:=aB4 k<|a.get x;split at h
   .rename_i j f;have e2:=zA f<|a.get i;let⟨v,b,h⟩:=bG h;have:=aJf (cf:=cf) (fl:=E.fl) (H:=st.heap) (g.st t c).1 b;refine dD.same a ?_ (Qh.l _) h;simp only[aL,e,e2];exact this
   .cases h
  .cases h
 .cases h
theorem aFF[aF]{t:TypeId}{x:bB}{j i:Option bB}(f:Qt N S st)(h:cO E n d (.strSlice t x j i) S K=some r): dD P cf E.fl N (.strSlice t x j i) st K r:=by
 simp only[cO] at h;split at h
 .rename_i s w;have e:=aB4 w<|f.get x;split at h
  .rename_i a k;split at h
   .rename_i b m;let⟨v,c,h⟩:=bG h;unfold aUY at c;split at c
    .rename_i g;cases c;let⟨z,q,u⟩:=lK f k g.1;let⟨y,p,o⟩:=lK f m<|by omega
     refine dD.same f ?_ (Qh.l _) h;simp only[aL,e,q,p];rw[u 0 rfl,o s.size rfl,Zu ⟨by omega,g.2.2⟩]
    .cases c
   .cases h
  .cases h
 .cases h
theorem aFU[aF]{x:bB}(a:Qt N S st)(h:cO E n d (.rangeStr x) S K=some r): dD P cf E.fl N (.rangeStr x) st K r:=by
 simp only[cO] at h;split at h
 .rename_i s c;have e:=aB4 c<|a.get x;refine dD.add (v:=.it st.heap.length) (o:=.it s 0) (b:=.raw<|.stringIter s 0) a (by simp only[aL,e]) rfl (by rw[a.hp.ln];exact .it _) h
 .cases h
theorem aJ0[aF]{x:bB}(i:Qt N S st)(h:cO E n d (.nextStr x) S K=some r): dD P cf E.fl N (.nextStr x) st K r:=by
 have q:=i.get x;simp only[cO] at h;split at h
 .rename_i id t;rw[t] at q;have e:aG st.tmps x=.it id:=by
   generalize aG st.tmps x=a at q;cases q with
   | p _ _ q=>cases q
   | it=>rfl
  split at h
  .cases h
  .rename_i c;have c:=Zj c;split at h
   .rename_i o j;split at h
    .rename_i s p;obtain⟨b,m,rfl⟩:=i.hp.get j;rcases L4 h with⟨f,h⟩ | ⟨f,h⟩
     .have f:=Zl f;refine dD.set (o:=.it s<|p+(Utf8.decode s p).2) (b:=.raw<|.stringIter s<|p+(Utf8.decode s p).2) i ?_ (HM.set λk l e=>by rw[j] at e;cases e) rfl (Qh.mkT (cs:=[_,_,_]) (aw:=[_,_,_]) ⟨Qh.l _,Qh.l _,Qh.l _,trivial⟩) h;simp only[aL,e,c,Zz,m,f]
     .have f:=Zp f;refine dD.same i ?_ (Qh.mkT (cs:=[_]) (aw:=[_]) ⟨Qh.l _,trivial⟩) h;simp only[aL,e,c,Zz,m,f,Z9]
    .cases h
   .cases h
 .cases h
theorem aS5[aF]{s t:TypeId}{x:bB}(e:Q1 P T E)(b:Qt N S st)(h:cO E n d (.conv s t x) S K=some r): dD P cf E.fl N (.conv s t x) st K r:=by
 have q:=b.get x;simp only[cO] at h;split at h
 .rename_i k' c;split at h
  .rename_i u f;rw[f] at q;split at h
   .have a:=e.cv s t k' c;unfold aKi at a;refine dD.same b ?_ (Qh.l _) h;simp only[aL,q.inL,a]
   .cases h
  .cases h
 .cases h
theorem aO8[aF](a:Qt N S st)(h:cO E n d .mkMap S K=some r): dD P cf E.fl N .mkMap st K r:=by
 simp only[cO] at h;split at h
 .split at h
  .rename_i kk c _;exact dD.add (v:=.mp st.heap.length) (o:=.map kk c []) (b:=.mp []) a rfl ⟨[],rfl,trivial⟩ (by rw[a.hp.ln];exact .mp _) h
  .cases h
 .cases h
theorem aRU[aF]{x:bB}(k:Qt N S st)(h:cO E n d (.lenM x) S K=some r): dD P cf E.fl N (.lenM x) st K r:=by
 have q:=k.get x;simp only[cO] at h;split at h
 .rename_i m c;refine dD.same k ?_ (Qh.l _) h;generalize cC S.tm x=v at c q;generalize j:aG st.tmps x=a at q;have s:∀{kk p:Nat} {m:List<|den kk×den p} {rows:List<|List AV},rows.length=m.length->(gD p m rows).length=m.length:=λh=>by simp[gD,h]
  unfold aQq at c;split at c
  .cases c;let⟨rows,t,g⟩:=(q.pu trivial).inM;rcases t with⟨rfl,rfl⟩ | rfl
   .simp only[aL,j];rfl
   .simp only[aL,j,s g.len]
  .split at c
   .rename_i o u;split at c
    .cases c;obtain⟨b,f,rows,rfl,g⟩:=k.hp.get u;have e:=q.mp1;subst e;simp only[aL,j,f,s g.len]
    .cases c
   .cases c
  .cases c
 .cases h
theorem Bl[aF]{x:Option bB}(a:Qt N S st)(h:HG S.tm x=true): eC st.tmps x=some none\/eC st.tmps x=some (some 0):=by
 unfold HG at h;split at h
 .exact .inl rfl
 .rename_i y;split at h
  .rename_i m b;split at h
   .split at h
    .right;simp only[eC,zA b<|a.get y];rfl
    .cases h
   .cases h
  .cases h
theorem aPg[aF]{s:Nat}{x:bB}{Z U:Option bB}(c:Qt N S st)(h:aS3 s S.tm S.hp Z U (cC S.tm x) (λv=>K v S)=some r): dD P cf E.fl N (.slice s x Z U none) st K r:=by
 have q:=c.get x;have u:eC st.tmps none=some none:=rfl;have hd:∀{k:Nat} {l:List<|den k} {es:List<|List AV},Ql k l es->(cds k).length=s->lO s es=true:=by
  intro k l es h e;cases es with
  | nil=>rfl
  | cons a es=>
   cases l with
   | nil=>exact h.elim
   | cons y l=>simp[lO,h.1.len,tR,e]
 have g:∀{k:Nat} {l I:List<|den k} {es:List<|List AV} {a b:Int},Ql k l es->cut l a b=some I->0<=a/\0<=b/\a.toNat<=b.toNat/\b.toNat<=es.length/\Ql k I ((es.take b.toNat).drop a.toNat):=by
  intro k l I es a b hq J;unfold cut at J;split at J
  .rename_i n;cases J;exact⟨n.1,by omega,by omega,by rw[hq.len];omega,(hq.take _).drop _⟩
  .cases J
 unfold aS3 at h;split at h
 .rename_i k l H;rw[H] at q;split at h
  .rename_i e;have e:=Zc e;split at h
   .rename_i a Q;split at h
    .rename_i b n;let⟨I,L,h⟩:=bG h;let⟨es,Y,t⟩:=(q.pu trivial).inS;let⟨W,c2,V,M,F⟩:=g t L;let⟨o1,A,C⟩:=lK c Q W;let⟨o2,B,D⟩:=lK c n c2;rcases Y with⟨d,rfl⟩ | ⟨f,d⟩
     .have X:l=[]:=ZK.1 t.len.symm;subst X;have e3:=C 0 rfl;have e4:=D 0 rfl;have i:b.toNat=0:=by simpa using M
      have j:a.toNat=0:=by omega
      have e2:I=[]:=by
       rw[j,i] at F;exact ZK.1<|by have:=F.len;simpa using this.symm
      subst e2;refine dD.same c ?_ (.p _ _<|Qp.mkS (es:=[]) (.inl ⟨rfl,rfl⟩)<|show Ql k [] [] from trivial) h;simp only[aL,d,A,B];simp[bS,gY,u,e3,e4,j,i]
     .refine dD.same (v:=.sl (f&&b.toNat==es.length)<|(es.take b.toNat).drop a.toNat) c ?_ (.p _ _<|Qp.mkS (.inr ⟨_,rfl⟩) F) h;simp only[aL,d,A,B,u,gY];rw[D es.length<|by rw[t.len],C 0 rfl,Zu ⟨V,M,hd t e⟩]
    .cases h
   .cases h
  .cases h
 .rename_i k l H;rw[H] at q;split at h
  .rename_i e;have e:=Zc e;split at h
   .rename_i a Q;split at h
    .rename_i b n;let⟨I,L,h⟩:=bG h;let⟨es,Y,t⟩:=(q.pu trivial).inV;let⟨W,c2,V,M,F⟩:=g t L;let⟨o1,A,C⟩:=lK c Q W;let⟨o2,B,D⟩:=lK c n c2;rcases Y with⟨d,rfl⟩ | ⟨f,d⟩ | d
     .have X:l=[]:=ZK.1 t.len.symm;subst X;have e3:=C 0 rfl;have e4:=D 0 rfl;have i:b.toNat=0:=by simpa using M
      have j:a.toNat=0:=by omega
      have e2:I=[]:=by
       rw[j,i] at F;exact ZK.1<|by have:=F.len;simpa using this.symm
      subst e2;refine dD.same c ?_ (.p _ _<|Qp.mkV (es:=[]) (.inl ⟨rfl,rfl⟩)<|show Ql k [] [] from trivial) h;simp only[aL,d,A,B];simp[bS,gY,u,e3,e4,j,i]
     .refine dD.same (v:=.sl (f&&b.toNat==es.length)<|(es.take b.toNat).drop a.toNat) c ?_ (.p _ _<|Qp.mkV (.inr<|.inl ⟨_,rfl⟩) F) h;simp only[aL,d,A,B,u,gY];rw[D es.length<|by rw[t.len],C 0 rfl,Zu ⟨V,M,hd t e⟩]
     .refine dD.same (v:=.vw<|(es.take b.toNat).drop a.toNat) c ?_ (.p _ _<|Qp.mkV (.inr<|.inr rfl) F) h;simp only[aL,d,A,B,u,gY];rw[D es.length<|by rw[t.len],C 0 rfl,Zu ⟨V,M,hd t e⟩]
    .cases h
   .cases h
  .cases h
 .rename_i id m H;rw[H] at q;split at h
  .rename_i o ho;split at h
   .rename_i k l;split at h
    .rename_i hk;simp only[Zd] at hk;have e:=Zc hk.1;have e0:0<s:=by simpa [YC] using hk.2
     have d:=q.mw ho;let⟨es,k1,k2⟩:=c.hp.lst ho;rw[e] at k1;split at h
     .rename_i a Q;have go:∀{b:Int},LY S.tm U (((Ej l m).2:Nat):Int)=some b->bnd (sub l (Ej l m) a b) (λw=>K (.ms id<|some w) S)=some r->dD P cf E.fl N (.slice s x Z U none) st K r:=by
       intro b n h;let⟨w,T,h⟩:=bG h;unfold sub at T;split at T
       .rename_i J;cases T;let⟨o1,A,C⟩:=lK c Q J.1;let⟨o2,B,D⟩:=lK c n<|by omega
        refine dD.same c ?_ (.msn id _ k l ho) h;simp only[aL,d,A,B,u,gY,k1];rw[D _ rfl,C 0 rfl];by_cases R:b.toNat<=(Ej l m).2
        .rw[Zu ⟨by omega,R,trivial⟩]
        .rw[ZF λh=>R h.2.1,Zu ⟨by omega,J.2.2,k2.len,e0,trivial⟩]
       .cases T
      split at h
      .split at h
       .rename_i b n;exact go n h
       .cases h
      .split at h
       .rename_i b n;exact go n h
       .cases h
     .cases h
    .cases h
   .cases h
  .cases h
 .rename_i b H;rw[H] at q;split at h
  .rename_i G;simp only[Zd] at G;have q0:=q;cases (q.pu trivial) with
   | emp _ _ z=>
    rcases Bl c G.1 with j | j<;>rcases Bl c G.2 with i | i<;>rcases z with z | z | ⟨n,z⟩ <;>
     first
     | (refine dD.same (v:=.lit bS) c ?_ (by rw[<-z];exact q0) h;simp only[aL,z,j,i,u,bS,gY];simp;done)
     | (refine dD.same (v:=.sl true []) c ?_ (by rw[<-z];exact q0) h;simp only[aL,z,j,i,u,gY];simp[lO];done)
     | (refine dD.same (v:=.sl false []) c ?_ (by rw[<-z];exact q0) h;simp only[aL,z,j,i,u,gY];simp[lO];done)
  .cases h
 .split at h
  .split at h
   .split at h
    .split at h
     .split at h
      .rename_i G;have q:Qh S.hp (.lit<|.slice none 0 0)<|aG st.tmps x:=by rw[<-‹cC S.tm x=TV.lit (Value.slice none 0 0)›];exact q
       simp only[Zd] at G;have d:aG st.tmps x=.lit bS:=q.inL;rcases Bl c G.1 with j | j<;>rcases Bl c G.2 with i | i <;>
        (refine dD.same (v:=.lit bS) c ?_ (by rw[<-d];exact q) h;simp only[aL,d,j,i,u,bS,gY];simp)
      .cases h
     .cases h
    .cases h
   .cases h
  .cases h
 .cases h
theorem aNM[aF]{s:Nat}{x:bB}{G L mx:Option bB}(g:Qt N S st)(h:cO E n d (.slice s x G L mx) S K=some r): dD P cf E.fl N (.slice s x G L mx) st K r:=by
 simp only[cO] at h;split at h
 .exact aPg g h
 .rename_i m;split at h
  .cases h
  .rename_i y;have q:=g.get x;split at h
   .rename_i id w A;rw[A] at q;split at h
    .rename_i o T;split at h
     .rename_i k l;split at h
      .rename_i a U;split at h
       .rename_i b O;split at h
        .rename_i c V;let⟨_,R,h⟩:=bG h;have B:=Zl<|zC R;let⟨W,H,I⟩:=lK g U B.1;have C:eC st.tmps (some y)=some (some b.toNat):=by simp only[eC,zA O<|g.get y];simp[iC,show 0<=b by omega]
         have e2:eC st.tmps (some m)=some (some c.toNat):=by simp only[eC,zA V<|g.get m];simp[iC,show 0<=c by omega]
         have t:=q.mw T;by_cases i:a.toNat=b.toNat/\b.toNat=c.toNat
         .refine dD.same (v:=.sl true []) g ?_ (.u _) h;simp only[aL,t,H,C,e2,gY];rw[I 0 rfl,Zu ⟨i.1,i.2,by omega⟩]
         .refine dD.same (v:=.undef) g ?_ (.u _) h;simp only[aL,t,H,C,e2,gY];rw[I 0 rfl,ZF<|by omega,Zu<|by omega]
        .cases h
       .cases h
      .cases h
     .cases h
    .cases h
   .rename_i k l A;rw[A] at q;split at h
    .rename_i i;simp only[Zd] at i;split at h
     .rename_i e;have e:=Zc e;let⟨es,Q,D⟩:=(q.pu trivial).inS;have M:lO s es=true:=by
       cases es with
       | nil=>rfl
       | cons a es=>
        cases l with
        | nil=>exact D.elim
        | cons y l=>simp[lO,D.1.len,tR,e]
      have F:eC st.tmps (some y)=some (some 0):=by
       rcases Bl g i.2.1 with h | h
       .simp only[eC] at h;split at h<;>cases h
       .exact h
      have J:eC st.tmps (some m)=some (some 0):=by
       rcases Bl g i.2.2 with h | h
       .simp only[eC] at h;split at h<;>cases h
       .exact h
      rcases Q with⟨t,_⟩ | ⟨f,t⟩
      .refine dD.same (v:=.lit bS) g ?_ (.p _ _<|.emp _ _<|.inl rfl) h;rcases Bl g i.1 with z | z<;>simp[aL,t,z,F,J,bS,gY]
      .refine dD.same (v:=.sl true []) g ?_ (.p _ _<|.emp _ _<|.inr<|.inl rfl) h;rcases Bl g i.1 with z | z<;>simp[aL,t,z,F,J,gY,M]
     .cases h
    .cases h
   .cases h
end
end
theorem aRa{α:Type}{c:α->List AV}{cf:CF}{agg:Bool}{s fl id vc off len:Nat}{caps:List AV}{F:α->α->Option Int}{l t:List α}{H:aW}(p:fl<=id)(b:H[id]?=some (.blk s<|l.map c))(g:l.length<=1000000)(B:off+len<=l.length)(A:∀x y z,F x y=some z->Sb cf vc caps agg (Pt H id) (RW H id s<|l.map c) (c x) (c y)=some z)(h:qY F ((l.drop off).take len)=some t):
 vL cf agg s fl [.ms id l.length off len,.fn vc caps] H=some (.tup [],H.set id<|.blk s<|(aQ l off t).map c):=by
 have a:((l.drop off).take len).length=len:=by rw[ZH,ZV];omega
 generalize u:(l.drop off).take len=W at h a;unfold qY at h;split at h
 .cases h;have C:len=0:=by simpa using a.symm
  subst C;have E:vC (.ms id l.length off 0)=true:=rfl;have D:aQ l off []=l:=by simp[aQ]
  rw[D];simp only[vL,E,Za,Zi,We];apply Ym;intro i;by_cases n:i=id
  .subst n;rw[b];rw[Z3 (by
    rcases ZI i H.length with h | h
    .exact h
    .rw[Zy h] at b;cases b)]
  .rw[Zv<|Ne.symm n]
 .rename_i x r;split at h
  .cases h
  rename_i tb o;split at h
  .cases h
  rename_i k;cases h;have v:=aK3 (e:=c) (f:=Sb cf vc caps agg (Pt H id)<|RW H id s<|l.map c) A o;have w:len=r.length+1:=by rw[<-a];rfl
  subst w;have j:((l.map c).drop off).take (r.length+1)=(x::r).map c:=by rw[<-X9,<-X8,u]
  have:=aD1 (cf:=cf) (agg:=agg) (off:=off) (m:=r.length) (vc:=vc) (caps:=caps) (tb:=tb) (tot:=l.length) p b (by simp) (by simpa using B) (by simpa using g) (by rw[j];exact v) k;refine this.trans ?_;rw[j];have q:((ixG r.length tb).map<|Fz x (x::r)).length=r.length+1:=by rw[ZO,aCo k]
  congr 3;refine congrArg (dI.blk s) ?_;unfold aQ;rw[q,YJ,YJ,X8,X9,Ya,Ye];congr 2;exact ZS λi n=>aA0<|by have:=aGy n;simpa using this
section
open jJ (den cds ag)
theorem aJi{α β:Type}{f:α->β}{F:β->β->Option Int}{z:List α}{e:List β}(h:qY F (z.map f)=some e): ∃g,qY (λa b=>F (f a)<|f b) z=some g/\g.map f=e:=by
 cases z with
 | nil=>cases h;exact⟨[],rfl,rfl⟩
 | cons x r=>
  have m:HT F (f x::r.map f)=HT (λa b=>F (f a)<|f b) (x::r):=by
   unfold HT;rw[show f x::r.map f=(x::r).map f from rfl,Ya];congr 1;apply ZS;intro a _;show BK (((x::r).map f).map _)=_;rw[Ya];rfl
  simp only[ZE,qY,ZO,m] at h;simp only[qY];split at h
  .cases h
  .rename_i tb j;split at h
   .cases h
   .rename_i k;cases h;refine⟨_,rfl,?_⟩;rw[Ya];apply ZS;intro i c;have c:=aGy c;exact (aA0 (d:=x) (d':=f x) (l:=x::r)<|by simpa using c).symm
section
variable [dN]{R:Type}{H H1:TH}{A:aW}{N:Nat}{S:TS}{st:St}{P:Program}{T:List cS}{cf:CF}{op:Jn}{K:TV->TS->Option R}{r:R}{E:XE}{n:Nat}{d:Option Nat}
theorem aIt{id:Nat}: HMk [id] S.hp (He id S).hp:=by
 intro j k l a h;simp only[He,iM,hK];exact⟨k,l,aEl<|by rw[Zv<|by simpa [Wy] using a];exact h,rfl⟩
theorem JY{id:Nat}(c:Qt N S st)(a:id<S.hp.length)(b:dI): Qt N (He id S) ⟨st.tmps,st.heap.set id b⟩:=aEs c rfl (λ_ _ _=>trivial) a
abbrev RR(k:Nat):={p:den k×List AV // Qr (jX k p.1) p.2}
theorem aH2{k:Nat}: ∀{l:List<|den k} {es:List<|List AV},Ql k l es->∃z:List<|RR k,z.map (λp=>p.1.1)=l/\z.map (λp=>p.1.2)=es
 | [],[],_=>⟨[],rfl,rfl⟩
 | x::l,e::es,h=>by
  let⟨z,c,a⟩:=aH2 h.2;exact⟨⟨(x,e),h.1⟩::z,by rw[ZE,c],by rw[ZE,a]⟩
theorem aQf{k:Nat}: ∀(z:List<|RR k),Ql k (z.map λp=>p.1.1)<|z.map λp=>p.1.2
 | []=>trivial
 | p::z=>⟨p.2,aQf z⟩
theorem aB8{k:Nat}{x:den k}{e:List AV}(h:Qr (jX k x) e): Qh H (val k x)<|Bk (ag k) e:=by
 have:=aDp (H:=H) h;unfold Bk;unfold tV at this;cases c:ag k with
 | true=>rw[c] at this;exact this
 | false=>
  rw[c] at this;match e,this with
  | [],this=>exact this
  | [a],this=>exact this
  | a::b::r,this=>exact this
theorem aNG{α:Type}{F:α->α->Option Int}{m:Option<|Nat×Nat}{l:List α}{K:List α->Option R}(h:aNH F m l K=some r):
 ∃a,qY F ((l.drop (Ej l m).1).take (Ej l m).2)=some a/\(Ej l m).1+(Ej l m).2<=l.length/\l.length<=1000000/\K (aQ l (Ej l m).1 a)=some r/\(aQ l (Ej l m).1 a).length=l.length:=by
 cases m with
 | none=>
  let⟨_,c,h⟩:=bG h;let⟨a,b,h⟩:=bG h;have e:a.length=l.length:=aAt b;have e2:aQ l 0 a=a:=by simp[aQ,e]
  refine⟨a,?_,by simp[Ej],Zl<|zC c,?_,?_⟩
  .simpa [Ej] using b
  .simp only[Ej,e2];exact h
  .simp only[Ej,e2];exact e
 | some w=>
  let⟨_,c,h⟩:=bG h;let⟨a,b,h⟩:=bG h;have d:=Zl<|zC c;refine⟨a,b,d.2,d.1,h,xY ?_⟩;have:=aAt b;simp only[win,ZH,ZV] at this;simp only[Ej];omega
theorem aNK[aF]{vi k id vc off len:Nat}{caps:List AV}{F:den k->den k->Option Int}{l u:List<|den k}{r t:AV}(o:E.fl<=id)(v:aF.prim vi=some (xZ (ag k) (cds k).length))(B:Qt N S st)(D:S.hp[id]?=some (.lst k l))(y:l.length<=1000000)(i:off+len<=l.length)(j:r=.ms id l.length off len)(m:t=.fn vc caps)(A:∀(p q:RR k) (es:List<|List AV) (z:Int),F p.1.1 q.1.1=some z->Sb (fH P T n) vc caps (ag k) (Pt st.heap id) (RW st.heap id (cds k).length es) p.1.2 q.1.2=some z)(h:qY F ((l.drop off).take len)=some u):
 ∃es',fH P T (n+1) E.fl vi [r,t] st.heap=some (.tup [],st.heap.set id<|.blk (cds k).length es')/\Ql k (aQ l off u) es':=by
 let⟨es,x,G⟩:=B.hp.lst D;obtain⟨z,rfl,rfl⟩:=aH2 G;rw[<-X9,<-X8] at h;obtain⟨g,C,rfl⟩:=aJi h;subst j;subst m;refine⟨(aQ z off g).map λp=>p.1.2,?_,?_⟩
 .rw[fH,v,ZO];exact aRa (agg:=ag k) (c:=λ(p:RR k)=>p.1.2) (F:=λ(a b:RR k)=>F a.1.1 b.1.1) o x (by simpa using y) (by simpa using i) (λp q w i=>A p q _ w i) C
 .have:=aQf<|aQ z off g;have e:(aQ z off g).map (λp=>p.1.1)=aQ (z.map λp=>p.1.1) off (g.map λp=>p.1.1):=by
   unfold aQ;rw[YJ,YJ,X8,X9,ZO]
  rw[e] at this;exact this
theorem aPm[aF]{k id vc:Nat}{c:CSp}{p q:RR k}{es:List<|List AV}{z:Int}(m:FOK P T vc c)(o:Qt N S st)(d:id<S.hp.length)(h:aSA n c k (He id S).hp p.1.1 q.1.1=some z):
 Sb (fH P T n) vc [] (ag k) (Pt st.heap id) (RW st.heap id (cds k).length es) p.1.2 q.1.2=some z:=by
 unfold aSA at h;have l:=JY o d<|.mp [];let⟨s,a,tv,i,f,g⟩:=M2 (H1:=[]) (K:=i64?) (aw:=[Bk (ag k) p.1.2,Bk (ag k) q.1.2].map<|cL<|Pt st.heap id) m h λp' r b=>aMU r b ⟨aB8 p.2,aB8 q.2,trivial⟩ l.hp;refine aS9 rfl<|aRy i ?_;exact zA g f
theorem aPn[aF]{k id vc:Nat}{caps:List TV}{c:List AV}{p q:RR k}{es:List<|List AV}{z:Int}(e:∀sp∈E.il,IOK P T sp)(g:Qt N S st)(f:id<S.hp.length)(l:Qc S.hp caps c)(d:c≠[])(h:aSB E n vc id k caps S p.1.1 q.1.1=some z):
 Sb (fH P T n) vc c (ag k) (Pt st.heap id) (RW st.heap id (cds k).length es) p.1.2 q.1.2=some z:=by
 unfold aSB at h;have u:=JY g f<|.blk (cds k).length<|es++[List.replicate (cds k).length .undef];have j:(RW st.heap id (cds k).length es).length=S.hp.length:=by simp[RW,g.hp.ln]
 let⟨a,o,tv,w,r,x,m,s⟩:=Sl (N:=0) (S:=⟨[],(He id S).hp⟩) (st:=⟨[],RW st.heap id (cds k).length es⟩) (aw:=Bk (ag k) p.1.2::Bk (ag k) q.1.2::c) (by rw[j];exact Zf _) ⟨rfl,λt v h=>(by cases h),u.hp⟩
  (show Qc (He id S).hp (val k p.1.1::val k q.1.1::caps.map (BS [id])) _ from⟨aB8 p.2,aB8 q.2,l.mapL λ_ _ q=>Gx aIt q⟩) e h
 refine aPl d ⟨o,?_⟩;rw[j,r,zA s m]
theorem aCi{fl k:Nat}{v:TV}{p:Nat×List (den k)}(h:aLN fl H k v=some p): v=.ms p.1 none/\fl<=p.1/\H[p.1]?=some (.lst k p.2):=by
 unfold aLN at h;split at h
 .split at h
  .cases h
  .split at h
   .cases h
   .rename_i c;split at h
    .rename_i o d;split at h
     .split at h
      .rename_i f a;let⟨e,a⟩:=qN (F:=λk=>List<|den k) a;subst e;subst a;cases h;exact⟨rfl,Zj c,d⟩
      .cases h
     .cases h
    .cases h
 .cases h
theorem aO1{k id:Nat}{v:TV}{z:den k}{a:AV}(m:Qs H A)(q:Qh H v a)(h:aRE H k id v=some z):
 ∃row,(∃id2,id≠id2/\a=.ms id2 1 0 1/\A[id2]?=some (.blk (cds k).length [row]))/\Qr (jX k z) row:=by
 unfold aRE at h;split at h
 .split at h
  .rename_i p l;split at h
   .cases h
   .rename_i c;let⟨id2,i⟩:=p;let⟨e,_,g⟩:=aCi l;rw[e] at q;split at h
    .rename_i r d;cases h;have d:i=[z]:=d;subst d;let⟨b,n,f⟩:=m.lst g;obtain⟨row,rfl⟩:∃row,b=[row]:=by
      match b,f with
      | [row],_=>exact⟨row,rfl⟩
     exact⟨row,⟨id2,YF c,q.mw g,n⟩,f.1⟩
    .cases h
  .cases h
 .cases h
theorem aR0[aF]{vi:Nat}{p:PSp}{vs:List TV}{aw:List AV}(G:POK T vi p)(hE:∀vi c,E.cs vi=some c->FOK P T vi c)(a3:∀sp∈E.il,IOK P T sp)(t:Qt N S st)(q:Qc S.hp vs aw)(h:aLi E n p vs S K=some r):
 ∃v L tv D,fH P T (n+1) E.fl vi aw st.heap=some (v,L)/\Qt N D ⟨st.tmps,L⟩/\Qh D.hp tv v/\K tv D=some r:=by
 unfold aLi at h;split at h
 .rename_i k;split at h
  .rename_i x f;obtain⟨b,J,rfl⟩:∃b J,aw=[b,J]:=by
    match aw,q with
    | [b,J],q=>exact⟨b,J,rfl⟩
   split at h
   .rename_i id m
    .split at h
     .cases h
     .rename_i a;have a:=Zj a;split at h
      .rename_i o d;split at h
       .rename_i k' l;split at h
        .rename_i O C;let⟨e,C⟩:=qN (F:=λk=>List<|den k) C;subst e;subst C;have X:=(Ze.1 d).1;have a2:=q.1.mw d;have Q:∀{F:den k'->den k'->Option Int} {vc:Nat} {caps:List AV},J=.fn vc caps->(∀(p q:RR k') (es:List<|List AV) (z:Int),F p.1.1 q.1.1=some z->Sb (fH P T n) vc caps (ag k') (Pt st.heap id) (RW st.heap id (cds k').length es) p.1.2 q.1.2=some z)->
          aNH F m O (λw=>K (.tup [])<|hK S id<|.lst k' w)=some r->
          ∃v L tv D,fH P T (n+1) E.fl vi [b,J] st.heap=some (v,L)/\Qt N D ⟨st.tmps,L⟩/\Qh D.hp tv v/\K tv D=some r:=by
          intro F vc caps u hF h;let⟨w,s,hw,M,h,b2⟩:=aNG h;let⟨es',e1,e2⟩:=aNK a G t d M hw a2 u hF s;have V:HM S.hp<|S.hp.set id<|.lst k'<|aQ O (Ej O m).1 w:=HM.set λk2 l2 e=>by
           rw[d] at e;cases e;exact⟨k',_,rfl,b2⟩
          exact⟨_,_,.tup [],hK S id<|.lst k'<|aQ O (Ej O m).1 w,e1,t.hpM V<|t.hp.set V ⟨es',rfl,e2⟩,Qh.mkT (cs:=[]) (aw:=[]) trivial,h⟩
         split at h
         .rename_i vc caps;let⟨b1,u,hq⟩:=q.2.1.inF;split at h
          .split at h
           .rename_i c I;cases b1 with
            | cons=>exact hq.elim
            | nil=>exact Q u (λp q es z R=>aPm (hE _ _ I) t X R) h
           .cases h
          .rename_i c0 r0;refine Q u (λp q es z R=>aPn a3 t X hq (λe=>?_) R) h;subst e;exact hq.elim
         .cases h
        .cases h
       .cases h
      .cases h
   .cases h
  .cases h
 .rename_i k F;let⟨g,hg,G⟩:=G;split at h
  .rename_i x;obtain⟨b,rfl⟩:∃b,aw=[b]:=by
    match aw,q with
    | [b],q=>exact⟨b,rfl⟩
   split at h
   .rename_i p hx;let⟨id,l⟩:=p;obtain⟨rfl,a,d⟩:=aCi hx;let⟨_,M,h⟩:=bG h;let⟨es,g1,A⟩:=t.hp.lst d;let⟨es',Z,k2,k3⟩:=G E.fl st.heap id l es a g1 A<|Zl<|zC M;have V:HM S.hp<|S.hp.set id<|.lst k<|F l:=HM.set λk2 l2 e=>by rw[d] at e;cases e;exact⟨k,_,rfl,k3⟩
    refine⟨_,_,.tup [],hK S id<|.lst k<|F l,?_,t.hpM V<|t.hp.set V ⟨es',rfl,k2⟩,Qh.mkT (cs:=[]) (aw:=[]) trivial,h⟩;rw[fH,hg,q.1.mw d];exact Z
   .cases h
  .cases h
 .rename_i k;let⟨g,hg,G⟩:=G;split at h
  .rename_i x i y;obtain⟨b,Y,U,rfl⟩:∃b Y U,aw=[b,Y,U]:=by
    match aw,q with
    | [b,Y,U],q=>exact⟨b,Y,U,rfl⟩
   split at h
   .rename_i p hx;let⟨id,l⟩:=p;obtain⟨rfl,a,d⟩:=aCi hx;split at h
    .rename_i j hj;split at h
     .rename_i z R;let⟨l',s,h⟩:=bG h;unfold VN at s;split at s
      .rename_i I;cases s;let⟨es,g1,A⟩:=t.hp.lst d;let⟨row,hy,B⟩:=aO1 t.hp q.2.2.1 R;have Z:=G E.fl st.heap id U j.toNat es row a hy g1 (by rw[B.len,tR]) (by rw[A.len];exact I.2.1) (by rw[A.len];exact I.2.2);refine⟨.ms id (es.length+1) 0<|es.length+1,st.heap.set id<|.blk (cds k).length (es.take j.toNat++row::es.drop j.toNat),.ms id none,iM id<|hK S id<|.lst k (l.take j.toNat++z::l.drop j.toNat),?_,JT t d λH=>⟨_,rfl,(A.take _).app ⟨B,A.drop _⟩⟩,?_,h⟩
       .rw[fH,hg,q.1.mw d,zA hj q.2.1];have e:((j.toNat:Nat):Int)=j:=X7 I.1;rw[e] at Z;simp only[Ej];have g0:l.length=es.length:=A.len.symm;rw[g0];exact Z
       .have:=Qh.ms (H:=(iM id<|hK S id<|.lst k (l.take j.toNat++z::l.drop j.toNat)).hp) id k (l.take j.toNat++z::l.drop j.toNat) (by simp[iM,hK,Zk,(Ze.1 d).1,Gw]);have M:(l.take j.toNat++z::l.drop j.toNat).length=es.length+1:=by
         have g0:es.length=l.length:=A.len;have c2:j.toNat<=l.length:=I.2.1;simp only[Zh,ZH,Yc,ZV];omega
        rw[M] at this;exact this
      .cases s
     .cases h
    .cases h
   .cases h
  .cases h
 .cases h
end
end
end Go.Proofs.YtmcgghedgfkjiaaGreatDoor.Av
