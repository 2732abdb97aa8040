/- A part of the proof of a law. -/
import Derived.Test.YtideamafblopcaaGreatDoorP6
import Derived.Test.YtideamafblopcaaGreatDoorP5
set_option maxRecDepth 100000
set_option maxHeartbeats 4000000
set_option linter.all false
namespace Go.Proofs.YtideamafblopcaaGreatDoor.Av
open Go
section
open iG (den cds ag)
theorem JT: ∀(c:List Bool) (tm:List AV),(bS c tm).length=tm.length
 | [],tm=>by simp[bS]
 | b::a,[]=>rfl
 | b::a,v::vs=>by simp[bS,JT a vs]
theorem On: ∀(c:List Bool) (tm:List AV) (t:Nat),c[t]?=some true->(bS c tm)[t]?=tm[t]?
 | [],tm,t,h=>by simp at h
 | b::a,[],t,h=>rfl
 | b::a,v::vs,0,h=>by
  simp only[List.getElem?_cons_zero,Option.some.injEq] at h;subst h;simp[bS]
 | b::a,v::vs,t+1,h=>by
  simp only[bS,List.getElem?_cons_succ];exact On a vs t<|by simpa using h
section
variable [cX]{R:Type}{H H1:TH}{A:aM}{N:Nat}{S:TS}{st:St}
theorem Ua{c:List Bool}{t:Nat}{v:TV}: ∀{tm:TT},eD t (vY c tm)=some v->c[t]?=some true/\eD t tm=some v
 | [],h=>by cases h
 | (s,u)::tm,h=>by
  have a:c[s]?≠some true->eD t (vY c tm)=some v->c[t]?=some true/\eD t ((s,u)::tm)=some v:=by
   intro f h;let⟨g,i⟩:=Ua h;refine⟨g,?_⟩;simp only[eD];split
   .rename_i e;have e:=Nat.eq_of_beq_eq_true e;subst e;exact (f g).elim
   .exact i
  simp only[vY] at h;split at h
  .rename_i b d;split at h
   .simp only[eD] at h |-;split at h
    .rename_i e;have e:=Nat.eq_of_beq_eq_true e;subst e;exact⟨d,h⟩
    .exact Ua h
   .exact a (by rw[d];simp) h
  .rename_i d;exact a (by rw[d];simp) h
theorem Bn(a:Qt N S st)(b:List Bool): Qt N ⟨vY b S.tm,S.hp⟩ ⟨bS b st.tmps,st.heap⟩:=by
 refine⟨by rw[JT];exact a.ln,λt v h=>?_,a.hp⟩;let⟨c,d⟩:=Ua h;rw[On _ _ _ c];exact a.tm t v d
theorem Zx{n i k:Nat}{l:List<|den k}(a:i<n)(h:H[i]?=some (.lst k l)): ((H.take n).map<|iC n)[i]?=some (.lst k l):=by
 rw[List.getElem?_map,List.getElem?_take,if_pos a,h];rfl
structure Cln(n:Nat)(g:AV->AV): Prop where
 l:∀v,g (.lit v)=.lit v
 s:∀f es,g (.sl f es)=.sl f es
 w:∀es,g (.vw es)=.vw es
 r:∀es,g (.rptr es)=.rptr es
 p:∀es,g (.sptr es)=.sptr es
 m:∀es,g (.rmp es)=.rmp es
 ms:∀i a b c,i<n->g (.ms i a b c)=.ms i a b c
 pt:∀i a b c,i<n->g (.ptr i a b c)=.ptr i a b c
 mp:∀i,i<n->g (.mp i)=.mp i
 it:∀i,i<n->g (.it i)=.it i
 f:∀v,g (.fn v [])=.fn v []
theorem aIl(n:Nat): Cln n<|jI n:=⟨λ_=>rfl,λ_ _=>rfl,λ_=>rfl,λ_=>rfl,λ_=>rfl,λ_=>rfl,λ_ _ _ _ h=>by simp[jI,h],λ_ _ _ _ h=>by simp[jI,h],λ_ h=>by simp[jI,h],λ_ h=>by simp[jI,h],λ_=>rfl⟩
theorem aIk(n:Nat): Cln n<|iE n:=⟨λ_=>rfl,λ_ _=>rfl,λ_=>rfl,λ_=>rfl,λ_=>rfl,λ_=>rfl,λ_ _ _ _ h=>by simp[iE,jI,h],λ_ _ _ _ h=>by simp[iE,jI,h],λ_ h=>by simp[iE,jI,h],λ_ h=>by simp[iE,jI,h],λ_=>rfl⟩
theorem aEw(n:Nat): Cln n id:=⟨λ_=>rfl,λ_ _=>rfl,λ_=>rfl,λ_=>rfl,λ_=>rfl,λ_=>rfl,λ_ _ _ _ _=>rfl,λ_ _ _ _ _=>rfl,λ_ _=>rfl,λ_ _=>rfl,λ_=>rfl⟩
theorem AD{n:Nat}{g:AV->AV}(c:Cln n g){v:TV}{a:AV}(q:Qh H v a): Qh ((H.take n).map<|iC n) (cP n v)<|g a:=by
 have d:∀{i:Nat},Nat.blt i n=true->i<n:=λe=>by simpa [Nat.blt_eq] using e
 cases q with
 | p _ _ q=>
  cases v with
  | undef=>exact Qh.u _
  | lit u=>cases q;rw[c.l];exact Qh.l _
  | emp b=>cases q with
   | emp _ _ h=>rcases h with rfl | rfl | ⟨rfl,rfl⟩<;>first | (rw[c.l];exact .p _ _<|.emp _ _<|by simp) | (rw[c.s];exact .p _ _<|.emp _ _<|by simp)
  | sl k l=>
   let⟨es,t,y⟩:=q.inS;rcases t with⟨rfl,rfl⟩ | ⟨f,rfl⟩<;>first | (rw[c.l];exact .p _ _ q) | (rw[c.s];exact .p _ _ q)
  | vw k l=>
   let⟨es,t,y⟩:=q.inV;rcases t with⟨rfl,rfl⟩ | ⟨f,rfl⟩ | rfl<;>first | (rw[c.l];exact .p _ _ q) | (rw[c.s];exact .p _ _ q) | (rw[c.w];exact .p _ _ q)
  | slF k l=>
   let⟨es,t,y⟩:=q.inE;rcases t with⟨rfl,rfl⟩ | rfl<;>first | (rw[c.l];exact .p _ _ q) | (rw[c.s];exact .p _ _ q)
  | rptr cs=>obtain⟨aw,rfl,_⟩:=q.inR;rw[c.r];exact .p _ _ q
  | sptr k x=>obtain⟨aw,rfl,_⟩:=q.inP;rw[c.p];exact .p _ _ q
  | rmp=>let⟨rows,t,_⟩:=q.inM;rcases t with⟨rfl,_⟩ | rfl<;>first | (rw[c.l];exact .p _ _ q) | (rw[c.m];exact .p _ _ q)
  | _=>cases q
 | ms i k l h=>
  simp only[cP];split
  .rename_i e;rw[c.ms _ _ _ _<|d e];exact Qh.ms i k l<|Zx (d e) h
  .exact Qh.u _
 | msn i m k l h=>
  simp only[cP];split
  .rename_i e;rw[c.ms _ _ _ _<|d e];exact Qh.msn i m k l<|Zx (d e) h
  .exact Qh.u _
 | ptr i o=>
  simp only[cP];split
  .rename_i e;rw[c.pt _ _ _ _<|d e];exact .ptr i o
  .exact Qh.u _
 | pel i j o k l h t y=>
  simp only[cP];split
  .rename_i e;rw[c.pt _ _ _ _<|d e];exact Qh.pel i j o k l (Zx (d e) h) t y
  .exact Qh.u _
 | mp i=>
  simp only[cP];split
  .rename_i e;rw[c.mp _<|d e];exact .mp i
  .exact Qh.u _
 | it i=>
  simp only[cP];split
  .rename_i e;rw[c.it _<|d e];exact .it i
  .exact Qh.u _
 | rs i m=>
  simp only[cP];split
  .rename_i e;rw[c.ms _ _ _ _<|d e];exact .rs i m
  .exact Qh.u _
 | rel i m j o=>
  simp only[cP];split
  .rename_i e;rw[c.pt _ _ _ _<|d e];exact .rel i m j o
  .exact Qh.u _
 | fn vi cs aw t y=>
  cases cs with
  | nil=>
   cases aw with
   | nil=>rw[c.f];exact Qh.mkF trivial
   | cons=>cases t
  | cons=>exact Qh.u _
 | agg=>exact Qh.u _
 | tup=>exact Qh.u _
theorem xH{n:Nat}{v:TV}{a:AV}(q:Qh H v a): Qh ((H.take n).map<|iC n) (iW n v) (iE n a)/\Qh ((H.take n).map<|iC n) (iW n v) a:=by
 cases v with
 | fn vi cs=>
  obtain⟨aw,rfl,b⟩:=q.inF;exact⟨Qh.mkF<|b.map λ_ _ q=>AD (aIl n) q,Qh.mkF<|b.mapL λ_ _ q=>AD (aEw n) q⟩
 | _=>exact⟨AD (aIk n) q,AD (aEw n) q⟩
theorem y6{n:Nat}{v:TV}{a:AV}(q:Qh H v a): Qh ((H.take n).map<|iC n) (sZ n v)<|yF n a:=by
 cases v with
 | agg cs=>
  obtain⟨aw,rfl,c⟩:=q.inA;exact Qh.mkA<|c.map λ_ _ q=>(xH q).1
 | undef=>exact Qh.u _
 | tup=>exact Qh.u _
 | _=>
  have h:=(xH (n:=n) q).1;cases a with
  | agg=>
   cases q with
   | p _ _ q=>cases q<;>simp_all
  | tup=>
   cases q with
   | p _ _ q=>cases q<;>simp_all
  | _=>exact h
theorem H7(n:Nat): GH<|yG n:=⟨λv=>.inl rfl,λf es=>⟨f,rfl⟩,λ_=>rfl,λ_=>rfl⟩
theorem AC{n:Nat}{o:lO}{b:cN}(h:Qo H o b): Qo ((H.take n).map<|iC n) (iC n o) (bT n b)/\Qo ((H.take n).map<|iC n) (iC n o) b:=by
 cases o with
 | box cs=>
  obtain⟨aw,rfl,q⟩:=h;exact⟨⟨aw.map<|iE n,by simp[bT],q.map λ_ _ q=>(xH q).1⟩,⟨aw,by simp,q.mapL λ_ _ q=>(xH q).2⟩⟩
 | rows s es=>
  obtain⟨aw,rfl,q⟩:=h;exact⟨⟨aw.map λe=>e.map<|iE n,rfl,q.map λ_ _ q=>q.map λ_ _ q=>(xH q).1⟩,⟨aw,rfl,q.mapL λ_ _ q=>q.mapL λ_ _ q=>(xH q).2⟩⟩
 | lst k l=>
  obtain⟨es,rfl,q⟩:=h;exact⟨⟨es.map λe=>e.map<|iE n,rfl,(SK n).ls q⟩,⟨es,rfl,q⟩⟩
 | map kk c m=>
  obtain⟨rows,rfl,q⟩:=h;refine⟨?_,⟨rows,rfl,q⟩⟩;cases i:ag c with
  | true=>
   have d:Qm c m<|rows.map λr=>r.map<|iE n:=q.mapR λ_ _ h=>(SK n).r h;exact⟨_,congrArg cN.mp<|EO (g:=iE n) λr=>by rw[i];rfl,d⟩
  | false=>
   have d:Qm c m<|rows.map λr=>r.map<|yG n:=q.mapR λ_ _ h=>(H7 n).r h;exact⟨_,congrArg cN.mp<|EO (g:=yG n) λr=>by rw[i];cases r<;>rfl,d⟩
 | it=>subst h;exact⟨rfl,rfl⟩
 | gone=>exact⟨trivial,trivial⟩
 | fr k a=>
  simp only[iC];split
  .rename_i e;exact⟨.s _ _ n (Nat.le_of_ble_eq_true e) h,h⟩
  .exact⟨trivial,trivial⟩
theorem Ow{fl:Nat}(b:Qt N S st)(live:List Bool)(tr:Bool)(n:Nat)(g:fl<=n): Qt N (Fn live tr n S)<|bX (some live) tr fl n st:=by
 have h:=Bn b live;cases tr with
 | false=>exact h
 | true=>
  refine⟨by simp only[bX,if_true,Ff,List.length_map];exact h.ln,λt v c=>?_,?_⟩
  .simp only[Fn] at c;obtain⟨u,m,rfl⟩:=DJ c;let⟨a,i,d⟩:=h.tm t u m;refine⟨yF n a,?_,y6 d⟩;simp only[bX,if_true,Ff,List.getElem?_map];rw[i];rfl
  .simp only[bX,if_true,Fn];have e:∀{α β:Type} (f:α->β) (l:List α),(l.take n).map f=(l.take fl).map f++((l.take n).drop fl).map f:=by
    intro α β f l;rw[<-List.map_append];congr 1;conv=>lhs;rw[<-List.take_append_drop fl<|l.take n,List.take_take,Nat.min_eq_left g]
   have q:=b.hp.take n;have o:bO (Qo S.hp) (S.hp.take fl)<|st.heap.take fl:=b.hp.take fl;have k:bO (Qo S.hp) ((S.hp.take n).drop fl)<|(st.heap.take n).drop fl:=q.drop fl;show Qs ((S.hp.take n).map<|iC n) _;rw[show Qs ((S.hp.take n).map<|iC n)=bO (Qo<|(S.hp.take n).map<|iC n) ((S.hp.take n).map<|iC n) from rfl];rw[show bO (Qo<|(S.hp.take n).map<|iC n) ((S.hp.take n).map<|iC n)=bO (Qo<|(S.hp.take n).map<|iC n) ((S.hp.take fl).map (iC n)++((S.hp.take n).drop fl).map (iC n)) from by rw[<-e]];exact (o.mapL λ_ _ q=>(AC q).2).app<|k.map λ_ _ q=>(AC q).1
def aAe: TV->Bool
 | .sl _ _=>true
 | .rmp _ _ _=>true
 | .tup _=>true
 | _=>false
def aI0(m:TV)(i:Nat): Prop:=(∃n,m=.ms i n)\/∃j o,m=.pel i j o
structure Rj(H:TH)(m v:TV): Prop where
 q:∀H',(∀i,aI0 m i->∀(k:Nat) (l:List (den k)),H[i]?=some (.lst k l)->∃(k':Nat) (l':List (den k')),H'[i]?=some (.lst k' l')/\l'.length=l.length)->∀a,Qh H v a->Qh H' m a
 s:aAe v=true->aAe m=true->m=v
theorem QX{c v:TV}(h:Ef c v=true): Rj H c v:=by
 cases c with
 | undef=>exact⟨λ_ _ a _=>Qh.u a,λ_ e=>by cases e⟩
 | ms i n=>
  cases n with
  | some n=>cases h
  | none=>
   cases v with
   | ms j m=>
    cases m with
    | some m=>cases h
    | none=>
     have e:=Nat.eq_of_beq_eq_true h;subst e;refine⟨λH' m a q=>?_,λ_ e=>by cases e⟩;cases q with
     | p _ _ q=>cases q
     | ms _ k l h=>
      let⟨k',G,C,D⟩:=m i (.inl ⟨none,rfl⟩) k l h;rw[<-D];exact .ms _ k' G C
   | _=>cases h
 | ptr i o=>
  cases v with
  | ptr j u=>
   simp only[Ef] at h;split at h
   .rename_i e;have e:=Nat.eq_of_beq_eq_true e;have e2:=Nat.eq_of_beq_eq_true h;subst e;subst e2;exact⟨λH' _ a q=>q.ptr1▸.ptr _ _,λ_ e=>by cases e⟩
   .cases h
  | _=>cases h
 | mp i=>
  cases v with
  | mp j=>
   have e:=Nat.eq_of_beq_eq_true h;subst e;refine⟨λH' _ a q=>?_,λ_ e=>by cases e⟩;cases q with
   | p _ _ q=>cases q
   | mp=>exact .mp _
  | _=>cases h
 | it i=>
  cases v with
  | it j=>
   have e:=Nat.eq_of_beq_eq_true h;subst e;refine⟨λH' _ a q=>?_,λ_ e=>by cases e⟩;cases q with
   | p _ _ q=>cases q
   | it=>exact .it _
  | _=>cases h
 | rs i n=>
  cases v with
  | rs j m=>
   simp only[Ef] at h;split at h
   .rename_i e;have e:=Nat.eq_of_beq_eq_true e;have e2:=Nat.eq_of_beq_eq_true h;subst e;subst e2;exact⟨λH' _ a q=>q.rs1▸.rs _ _,λ_ e=>by cases e⟩
   .cases h
  | _=>cases h
 | fn i cs=>
  cases cs with
  | cons=>cases h
  | nil=>
   cases v with
   | fn j ds=>
    cases ds with
    | cons=>cases h
    | nil=>
     have e:=Nat.eq_of_beq_eq_true h;subst e;refine⟨λH' _ a q=>?_,λ_ e=>by cases e⟩;obtain⟨aw,rfl,E⟩:=q.inF;cases aw with
     | nil=>exact Qh.mkF trivial
     | cons=>exact E.elim
   | _=>cases h
 | lit u=>
  have g:v=.lit u->Rj H (.lit u) v:=by
   rintro rfl;exact⟨λH' _ a q=>q.inL▸Qh.l _,λ_ e=>by cases e⟩
  cases u with
  | int k a=>
   cases v with
   | lit y=>
    cases y with
    | int k' b=>
     simp only[Ef] at h;split at h
     .rename_i e _;split at h
      .rename_i F _;subst e;subst F;exact g rfl
      .cases h
     .cases h
    | _=>cases h
   | _=>cases h
  | bool b=>
   cases v with
   | lit y=>
    cases y with
    | bool c=>
     apply g;cases b<;>cases c<;>first | rfl | cases h
    | _=>cases h
   | _=>cases h
  | slice a l c=>
   cases a with
   | some a=>cases h
   | none=>
    cases l with
    | succ l=>cases h
    | zero=>
     cases c with
     | succ c=>cases h
     | zero=>
      cases v with
      | lit y=>
       cases y with
       | slice a l c=>
        cases a with
        | some a=>cases h
        | none=>
         cases l with
         | succ l=>cases h
         | zero=>
          cases c with
          | succ c=>cases h
          | zero=>exact g rfl
       | _=>cases h
      | _=>cases h
  | _=>cases h
 | emp b=>
  cases v with
  | emp c=>
   refine⟨λH' _ a q=>?_,λ_ e=>by cases e⟩;cases (q.pu trivial) with
   | emp _ _ d=>
    refine .p _ _<|.emp _ _ ?_;cases b with
    | false=>
     rcases d with d | d | ⟨_,d⟩
     .exact .inl d
     .exact .inr<|.inl d
     .exact .inr<|.inr ⟨rfl,d⟩
    | true=>
     have h:c=true:=h;subst h;exact d
  | _=>cases h
 | _=>cases h
theorem QW: ∀{cs vs:List TV},c8 cs vs=true->bO (λc v=>Ef c v=true/\∀j n,c≠.ms j n) cs vs
 | [],[],_=>trivial
 | [],_::_,h=>by cases h
 | _::_,[],h=>by cases h
 | c::r,v::s,h=>by
  simp only[c8] at h;split at h
  .cases h
  .rename_i a;split at h
   .rename_i e;exact⟨⟨e,a⟩,QW h⟩
   .cases h
theorem aBT{c v:TV}(h:S7 c v=true): Rj H c v:=by
 cases c with
 | fn i cs=>
  cases v with
  | fn j ds=>
   simp only[S7] at h;split at h
   .rename_i e;have e:=Nat.eq_of_beq_eq_true e;subst e;refine⟨λH' _ a q=>?_,λ_ e=>by cases e⟩;obtain⟨aw,rfl,d⟩:=q.inF;have f:=QW h;refine Qh.mkF<|bO.of (by rw[d.len,f.len]) λj c a k l=>?_;let⟨v,g,b,m⟩:=f.get k;exact (QX b).q H' (λn e=>e.elim (λ⟨o,e⟩=>absurd e<|m n o) λ⟨j,o,e⟩=>by rw[e] at b;cases v<;>simp[Ef] at b) a<|d.at g l
   .cases h
  | _=>cases h
 | _=>exact QX h
theorem ZG{a b a' b':Nat}{m:List<|den a×den b}{y:List<|den a'×den b'}(h:Xq m=some y): TV.rmp a b m=TV.rmp a' b' y:=by
 let⟨e,d,h⟩:=Qx h;subst e;subst d;subst h;rfl
theorem u4{v:TV}{x:ByteArray×Nat}(h:Z9 v=some x): v=.tup [.lit<|.string x.1,.lit<|.int .i64<|.ofNat x.2]:=by
 unfold Z9 at h;split at h
 .split at h
  .split at h
   .split at h
    .split at h
     .split at h
      .split at h
       .split at h
        .cases h;rfl
        .cases h
       .cases h
      .cases h
     .cases h
    .cases h
   .cases h
  .cases h
 .cases h
theorem rjN{id:Nat}{v:TV}{x:Nat×Nat}(h:rdN id v=some x): Rj H (.ms id<|some x) v:=by
 unfold rdN at h;split at h
 .split at h
  .rename_i e;have e:=Nat.eq_of_beq_eq_true e;subst e;subst h;refine⟨λH' m a q=>?_,λ_ e=>by cases e⟩;cases q with
   | p _ _ q=>cases q
   | msn _ _ k l h=>
    let⟨k',b,f,c⟩:=m _ (.inl ⟨_,rfl⟩) k l h;rw[<-c];exact .msn _ _ k' b f
  .cases h
 .cases h
theorem rjI{v:TV}{x:ByteArray×Nat}(h:Z9 v=some x): Rj H (.tup [.lit<|.string x.1,.lit<|.int .i64<|.ofNat x.2]) v:=by
 rw[u4 h];refine⟨λH' _ a q=>?_,λ_ _=>rfl⟩;obtain⟨aw,rfl,c⟩:=q.inT;match aw,c with
 | [a,b],c=>exact Qh.mkT ⟨by rw[c.1.inL];exact Qh.l _,by rw[c.2.1.inL];exact Qh.l _,trivial⟩
theorem rjQ{id off:Nat}{v:TV}{x:Int}(h:rdQ id off v=some x): Rj H (.pel id x off) v:=by
 unfold rdQ at h;split at h
 .split at h
  .rename_i e;have e:=Nat.eq_of_beq_eq_true e;subst e;split at h
   .rename_i e;have e:=Nat.eq_of_beq_eq_true e;subst e;cases h;refine⟨λH' m a q=>?_,λ_ _=>rfl⟩;cases q with
    | p _ _ q=>cases q
    | pel _ _ _ k l h b d=>let⟨k',f,g,c⟩:=m _ (.inr ⟨_,_,rfl⟩) k l h;rw[<-c];exact .pel _ _ _ k' f g b (by omega)
   .cases h
  .cases h
 .cases h
theorem f7{s:Sh}{v:TV}{x:s.den}(h:s.rd 3 [] v=some x): Rj H (s.tv x) v:=by
 cases s with
 | v k=>
  have h:Zq 0 [] k v=some x:=h;refine⟨λH' _ a q=>aHp h q,λd e2=>?_⟩;unfold Zq at h;split at h
  .split at h
   .cases d
   .cases h
  .rename_i z;unfold jJ at h;split at h
   .rename_i p u;cases h;let⟨c,y,t,f⟩:=MH u;have j:val k (cX.pk k p)=hdT (lN (cds k) p):=by
     unfold val iH;rw[z,cX.un_pk]
    show val k (cX.pk k p)=_;rw[j,t];cases c with
    | sl Q=>
     cases v with
     | sl O l=>
      let⟨e,h⟩:=mD (F:=λk=>List<|den k) (x:=l) (y:=y) f;subst e;subst h;rfl
     | rmp=>cases f
     | tup=>cases f
     | _=>cases d
    | int N=>rw[RH f] at d;cases d
    | bool=>rw[BV f] at d;cases d
    | str=>rw[RF f] at d;cases d
    | sptr=>rw[RG f] at d;cases d
    | mp=>rcases aBY (w:=0) (H:=[]) f with rfl | ⟨rfl,_⟩ | ⟨e,_⟩<;>first | rfl | cases d | cases e
    | any=>cases f
   .cases h
 | w k=>
  have h:Zq 1 [] k v=some x:=h;refine⟨λH' _ a q=>aHo h q,λd e2=>?_⟩;unfold Zq at h;split at h
  .split at h
   .cases d
   .cases h
  .rename_i z;unfold jJ at h;split at h
   .rename_i p u;cases h;let⟨c,y,t,f⟩:=MH u;have j:val k (cX.pk k p)=hdT (lN (cds k) p):=by
     unfold val iH;rw[z,cX.un_pk]
    have e2:aAe (toW<|val k<|cX.pk k p)=true:=e2;show toW (val k<|cX.pk k p)=_;rw[j,t,LQ] at e2 |-;cases c with
    | mp=>rcases aBY (w:=1) (H:=[]) f with rfl | ⟨rfl,_⟩ | ⟨e,_⟩<;>first | rfl | cases d | cases e
    | _=>cases e2
   .cases h
 | r k=>
  refine⟨λH' _ a q=>?_,λ_ e2=>by cases e2⟩;cases v with
  | rptr cs=>
   have h:jJ 0 [] k cs=some x:=h;obtain⟨aw,rfl,M⟩:=(q.pu trivial).inR;exact .p _ _<|Qp.mkR<|iL h<|M.c (H:=[])
  | _=>cases h
 | l k=>
  cases v with
  | sl k' l=>
   let⟨e,h⟩:=mD (F:=λk=>List<|den k) (x:=l) (y:=x) h;subst e;subst h;exact⟨λH' _ a q=>.p _ _<|q.pu trivial,λ_ _=>rfl⟩
  | _=>cases h
 | f k=>
  cases v with
  | slF k' l=>
   let⟨e,h⟩:=mD (F:=λk=>List<|den k) (x:=l) (y:=x) h;subst e;subst h;exact⟨λH' _ a q=>.p _ _<|q.pu trivial,λ_ _=>rfl⟩
  | _=>cases h
 | m kk J=>
  cases v with
  | rmp a b m=>
   have e:=ZG (m:=m) (y:=x) h;rw[<-show TV.rmp a b m=(Sh.m kk J).tv x from e];exact⟨λH' _ a q=>.p _ _<|q.pu trivial,λ_ _=>rfl⟩
  | _=>cases h
 | n id=>exact rjN h
 | i=>exact rjI h
 | q id off=>exact rjQ h
end
section
variable [cX]{R:Type}{H H1:TH}{A:aM}{N:Nat}{S:TS}{st:St}
theorem fJ.hc{a:Sh}{r:List Sh}(x:a.den)(y:fJ r): fJ.hd (fJ.cs x y)=x:=by cases r<;>rfl
theorem fJ.tc{a:Sh}{r:List Sh}(x:a.den)(y:fJ r): fJ.tl (fJ.cs x y)=y:=by cases r<;>rfl
theorem Ek: ∀{ss:List Pl} {W:List TV} {p:fJ<|LW false ss} {q:fJ<|LW true ss},Wj ss W=some (p,q)->bO (Rj H) (mkV ss p q) W
 | [],W,p,q,h=>by
  cases W with
  | nil=>trivial
  | cons=>cases h
 | .con c::r,W,p,q,h=>by
  cases W with
  | nil=>cases h
  | cons v W=>
   simp only[Wj] at h;split at h
   .rename_i e;exact⟨aBT e,Ek h⟩
   .cases h
 | .p s::r,W,p,q,h=>by
  cases W with
  | nil=>cases h
  | cons v W=>
   simp only[Wj] at h;split at h
   .rename_i x a;split at h
    .rename_i d b;cases h;simp only[mkV,fJ.hc,fJ.tc];exact⟨f7 a,Ek b⟩
    .cases h
   .cases h
 | .v s::r,W,p,q,h=>by
  cases W with
  | nil=>cases h
  | cons v W=>
   simp only[Wj] at h;split at h
   .rename_i x a;split at h
    .rename_i d b;cases h;simp only[mkV,fJ.hc,fJ.tc];exact⟨f7 a,Ek b⟩
    .cases h
   .cases h
theorem VX{tm:TT}{H':TH}{t:Nat}{m:TV}: ∀{ts:List<|Nat×Option Nat} {vs M:List TV},upT tm ts=some vs->bO (λm v=>∀a,Qh H v a->Qh H' m a) M vs->eD t (plT ts M)=some m->∃v,eD t tm=some v/\∀a,Qh H v a->Qh H' m a
 | [],vs,M,h,q,b=>by cases b
 | s::ts,vs,M,h,q,b=>by
  simp only[upT] at h;split at h
  .rename_i v f;split at h
   .rename_i w k;split at h
    .rename_i g;cases h;cases M with
     | nil=>exact q.elim
     | cons u M=>
      simp only[plT,g,eD] at b;split at b
      .rename_i e;have e:=Nat.eq_of_beq_eq_true e;subst e;cases b;exact⟨v,f,q.1⟩
      .exact VX k q.2 b
    .rename_i n g;split at h
     .rename_i cs;split at h
      .rename_i e;have e:=Nat.eq_of_beq_eq_true e;cases h;have d:=q.take n;have i:=q.drop n;rw[<-e,List.drop_left] at i;rw[<-e,List.take_left] at d;rw[e] at d i;simp only[plT,g,eD] at b;split at b
       .rename_i e;have e:=Nat.eq_of_beq_eq_true e;subst e;cases b;refine⟨_,f,λa r=>?_⟩;obtain⟨aw,rfl,l⟩:=r.inA;exact Qh.mkA (bO.of (by rw[l.len,d.len]) λj m c b p=>by
         let⟨v,f,o⟩:=d.get b;exact o c<|l.at f p)
       .exact VX k i b
      .cases h
     .cases h
   .cases h
  .cases h
theorem Fx{α:Type}{s:Nat}: ∀{es:List<|List α},(es.all λe=>Nat.beq e.length s)=true->es.flatten.length=es.length*s
 | [],_=>by simp
 | e::es,h=>by
  simp only[List.all_cons,Bool.and_eq_true] at h;have a:=Nat.eq_of_beq_eq_true h.1;simp only[List.flatten_cons,List.length_append,Fx h.2,a,List.length_cons,Nat.succ_mul];omega
theorem FI{α β:Type}{R:α->β->Prop}{s:Nat}: ∀{es:List<|List β} {l:List α},(es.all λe=>Nat.beq e.length s)=true->bO R l es.flatten->bO (bO R) (oL s es.length l) es
 | [],_,_,_=>trivial
 | e::es,l,h,q=>by
  simp only[List.all_cons,Bool.and_eq_true] at h;have c:=Nat.eq_of_beq_eq_true h.1;subst c;have a:=q.take e.length;have b:=q.drop e.length;simp only[List.flatten_cons,List.take_left,List.drop_left] at a b;exact⟨a,FI h.2 b⟩
theorem O7: ∀{os:List OL} {c:TH} {f:List TV},upO os c=some f->f.length=nO os
 | [],c,f,h=>by
  cases c with
  | nil=>cases h;rfl
  | cons=>cases h
 | o::os,c,f,h=>by
  cases c with
  | nil=>cases h
  | cons b c=>
   simp only[upO] at h;split at h
   .cases h
   .rename_i vs g;have a:=O7 g;cases o with
    | gone=>cases h;exact a
    | box n=>
     cases b with
     | box cs=>
      simp only at h;split at h
      .rename_i e;have e:=Nat.eq_of_beq_eq_true e;cases h;simp[nO,a,e]
      .cases h
     | _=>cases h
    | lst u=>
     cases b with
     | lst v x=>
      simp only at h;split at h
      .cases h;simp[nO,a]
      .cases h
     | _=>cases h
    | map kk t=>
     cases b with
     | map q y r=>
      simp only at h;split at h
      .split at h
       .cases h;simp[nO,a]
       .cases h
      .cases h
     | _=>cases h
    | bx=>
     cases b with
     | box=>cases h;simp[nO,a]
     | _=>cases h
    | it=>
     cases b with
     | it=>cases h;simp[nO,a]
     | _=>cases h
    | rows s m=>
     cases b with
     | rows s' es=>
      simp only at h;split at h
      .split at h
       .rename_i e;have e:=Nat.eq_of_beq_eq_true e;split at h
        .rename_i p;cases h;rw[List.length_append,a,Fx p,e,Nat.mul_comm];rfl
        .cases h
       .cases h
      .cases h
     | _=>cases h
theorem sO: ∀{os:List OL} {g:TH} {p M:List TV},upO os g=some p->bO (Rj H) M p->∀(i k k':Nat) (l:List<|den k) (f:List<|den k'),g[i]?=some (.lst k l)->(GN os M)[i]?=some (.lst k' f)->f.length=l.length
 | [],g,p,M,h,q,i,k,k',l,f,c,a=>by
  cases g with
  | nil=>simp at c
  | cons=>cases h
 | o::os,g,p,M,h,q,i,k,k',l,f,c,a=>by
  cases g with
  | nil=>cases h
  | cons b g=>
   simp only[upO] at h;split at h
   .cases h
   .rename_i vs d;cases o with
    | gone=>
     cases h;cases i with
     | zero=>simp[GN] at a
     | succ i=>exact sO d q i k k' l f (by simpa using c)<|by simpa [GN] using a
    | box n=>
     cases b with
     | box cs=>
      simp only at h;split at h
      .rename_i e;have e:=Nat.eq_of_beq_eq_true e;cases h;cases i with
       | zero=>simp at c
       | succ i=>
        have:=q.drop n;rw[<-e,List.drop_left] at this;rw[e] at this;exact sO d this i k k' l f (by simpa using c)<|by simpa [GN] using a
      .cases h
     | _=>cases h
    | lst K=>
     cases b with
     | lst z E=>
      simp only at h;split at h
      .cases h;cases M with
       | nil=>exact q.elim
       | cons m M=>
        cases i with
        | succ i=>exact sO d q.2 i k k' l f (by simpa using c)<|by simpa [GN] using a
        | zero=>
         simp only[List.getElem?_cons_zero,Option.some.injEq] at c;cases c;simp only[GN,List.getElem?_cons_zero,Option.some.injEq] at a;unfold ZV at a;split at a
         .rename_i G A;split at a
          .cases a;have:=q.1.s rfl rfl;cases this;rfl
          .cases a
         .cases a
      .cases h
     | _=>cases h
    | map kk C=>
     cases b with
     | map D J B=>
      simp only at h;split at h
      .split at h
       .cases h;cases M with
        | nil=>exact q.elim
        | cons m M=>
         cases i with
         | succ i=>exact sO d q.2 i k k' l f (by simpa using c)<|by simpa [GN] using a
         | zero=>simp at c
       .cases h
      .cases h
     | _=>cases h
    | bx=>
     cases b with
     | box cs=>
      cases h;cases M with
      | nil=>exact q.elim
      | cons m M=>
       cases i with
       | succ i=>exact sO d q.2 i k k' l f (by simpa using c)<|by simpa [GN] using a
       | zero=>simp at c
     | _=>cases h
    | it=>
     cases b with
     | it y I=>
      cases h;cases M with
      | nil=>exact q.elim
      | cons m M=>
       cases i with
       | succ i=>exact sO d q.2 i k k' l f (by simpa using c)<|by simpa [GN] using a
       | zero=>simp at c
     | _=>cases h
    | rows s m=>
     cases b with
     | rows s' es=>
      simp only at h;split at h
      .split at h
       .rename_i e;have e:=Nat.eq_of_beq_eq_true e;split at h
        .rename_i v;cases h;cases i with
         | zero=>simp at c
         | succ i=>
          have:=q.drop<|s*m;rw[show s*m=es.flatten.length by rw[Fx v,e,Nat.mul_comm],List.drop_left] at this;rw[show es.flatten.length=s*m by rw[Fx v,e,Nat.mul_comm]] at this;exact sO d this i k k' l f (by simpa using c)<|by simpa [GN] using a
        .cases h
       .cases h
      .cases h
     | _=>cases h
theorem Dy{H':TH}: ∀{os:List OL} {p:TH} {y M:List TV} {A:aM},upO os p=some y->bO (λm v=>Rj H m v/\∀a,Qh H v a->Qh H' m a) M y->bO (Qo H) p A->bO (Qo H') (GN os M) A
 | [],p,y,M,A,h,q,d=>by
  cases p with
  | nil=>cases A with
   | nil=>trivial
   | cons=>exact d.elim
  | cons=>cases h
 | o::os,p,y,M,A,h,q,d=>by
  cases p with
  | nil=>cases h
  | cons b p=>
   cases A with
   | nil=>exact d.elim
   | cons a A=>
    simp only[upO] at h;split at h
    .cases h
    .rename_i vs f;cases o with
     | gone=>cases h;exact⟨trivial,Dy f q d.2⟩
     | box n=>
      cases b with
      | box cs=>
       simp only at h;split at h
       .rename_i e;have e:=Nat.eq_of_beq_eq_true e;cases h;have k:=q.take n;have l:=q.drop n;rw[<-e,List.drop_left] at l;rw[<-e,List.take_left] at k;rw[e] at k l;refine⟨?_,Dy f l d.2⟩;let⟨aw,i,g⟩:=d.1;refine⟨aw,by rw[i,k.len],?_⟩;exact bO.of (by rw[g.len,k.len]) λj m c K F=>by
         let⟨v,D,z⟩:=k.get K;exact z.2 c<|g.at D F
       .cases h
      | _=>cases h
     | lst S=>
      cases b with
      | lst k1 Z=>
       simp only at h;split at h
       .rename_i e;have e:=Nat.eq_of_beq_eq_true e;cases h;cases M with
        | nil=>exact q.elim
        | cons m M=>
         refine⟨?_,Dy f q.2 d.2⟩;have i:=q.1.1.s;have g:=d.1;show Qo H' (ZV S m) a;clear q;unfold ZV;split
         .split
          .have:=i rfl rfl;cases this;exact g
          .trivial
         .trivial
       .cases h
      | _=>cases h
     | map kk U=>
      cases b with
      | map Y b1 m1=>
       simp only at h;split at h
       .rename_i t;split at h
        .rename_i e2;have t:=Nat.eq_of_beq_eq_true t;have e2:=Nat.eq_of_beq_eq_true e2;cases h;cases M with
         | nil=>exact q.elim
         | cons m M=>
          refine⟨?_,Dy f q.2 d.2⟩;have i:=q.1.1.s;have g:=d.1;show Qo H' (P3 kk U m) a;clear q;unfold P3;split
          .split
           .split
            .have:=i rfl rfl;cases this;exact g
            .trivial
           .trivial
          .trivial
        .cases h
       .cases h
      | _=>cases h
     | bx=>
      cases b with
      | box cs=>
       cases h;cases M with
       | nil=>exact q.elim
       | cons m M=>
        refine⟨?_,Dy f q.2 d.2⟩;obtain⟨Q,rfl,g⟩:=d.1;have i:=q.1.2 _<|Qh.mkA g;show Qo H' (aEL m) _;clear q;unfold aEL;split
        .let⟨R,e,u⟩:=i.inA;cases e;exact⟨Q,by rw[<-g.len,u.len],u⟩
        .trivial
      | _=>cases h
     | it=>
      cases b with
      | it X p1=>
       cases h;cases M with
       | nil=>exact q.elim
       | cons m M=>
        refine⟨?_,Dy f q.2 d.2⟩;have i:=q.1.1.s;have g:=d.1;show Qo H' (aEK m) a;clear q;unfold aEK;split
        .rename_i x W;have e:=u4 W;have:=i rfl<|by rw[e];rfl
         rw[e] at this;cases this;exact g
        .trivial
      | _=>cases h
     | rows s m=>
      cases b with
      | rows s' es=>
       simp only at h;split at h
       .rename_i t;have t:=Nat.eq_of_beq_eq_true t;subst t;split at h
        .rename_i e;have e:=Nat.eq_of_beq_eq_true e;split at h
         .rename_i O;cases h;have E:es.flatten.length=s'*m:=by rw[Fx O,e,Nat.mul_comm]
          have k:=q.take<|s'*m;have l:=q.drop<|s'*m;rw[<-E,List.take_left] at k;rw[<-E,List.drop_left] at l;rw[E] at k l;refine⟨?_,Dy f l d.2⟩;let⟨aw,i,g⟩:=d.1;refine⟨aw,i,?_⟩;have B:=FI O k;rw[e] at B;exact bO.of (by rw[g.len,B.len]) λj r a V G=>by
           let⟨e0,J,N⟩:=B.get V;have u:=g.at J G;exact bO.of (by rw[u.len,N.len]) λj m c K F=>by
            let⟨v,D,z⟩:=N.get K;exact z.2 c<|u.at D F
         .cases h
        .cases h
       .cases h
      | _=>cases h
theorem SF: ∀{M:List TV},Wt H M=true->∀m∈M,∀i,aI0 m i->∃(k:Nat) (l:List<|den k),H[i]?=some (.lst k l)
 | [],_,m,a=>by cases a
 | v::r,h,m,a=>by
  intro i e;rcases List.mem_cons.1 a with e2 | a
  .subst e2;rcases e with⟨n,rfl⟩ | ⟨j,o,rfl⟩
   all_goals
    simp only[Wt] at h;split at h
    .rename_i o b;split at h
     .exact⟨_,_,b⟩
     .cases h
    .cases h
  .refine SF (M:=r) ?_ _ a i e;cases v with
   | ms g d=>
    simp only[Wt] at h;split at h
    .split at h
     .exact h
     .cases h
    .cases h
   | pel g d o=>
    simp only[Wt] at h;split at h
    .split at h
     .exact h
     .cases h
    .cases h
   | _=>exact h
theorem aAm{L:yI}{p:L.P}{q:L.V}(h:L.get S=some (p,q))(x:Qt N S st): Qt N (L.mk' p q) st:=by
 unfold yI.get at h;split at h
 .rename_i vs w;split at h
  .rename_i E c;split at h
   .rename_i O y;split at h
    .rename_i A;cases h;have C:=Ek (H:=S.hp) y;have o:=O7 c;have s:bO (Rj S.hp) ((mkV L.ss p q).take<|nO L.os) E:=by
      have:=C.take<|nO L.os;rw[<-o,List.take_left] at this;rw[o] at this;exact this
     have B:bO (Rj S.hp) ((mkV L.ss p q).drop<|nO L.os) vs:=by
      have:=C.drop<|nO L.os;rw[<-o,List.drop_left] at this;rw[o] at this;exact this
     have f:=sO c s;have d:∀m v,m∈mkV L.ss p q->Rj S.hp m v->∀a,Qh S.hp v a->Qh (L.mk' p q).hp m a:=by
      intro m v b r a J;refine r.q _ (λi e k l K=>?_) a J;let⟨k',D,g⟩:=SF A m b i e;exact⟨k',D,g,f i k k' l D K g⟩
     refine⟨x.ln,λt m b=>?_,?_⟩
     .have z:bO (λm v=>∀a,Qh S.hp v a->Qh (L.mk' p q).hp m a) ((mkV L.ss p q).drop<|nO L.os) vs:=
       bO.of B.len λj m v b u=>d m v (List.mem_of_mem_drop<|List.mem_of_getElem? b)<|B.at b u
      let⟨v,G,M⟩:=VX w z b;let⟨a,F,I⟩:=x.tm t v G;exact⟨a,F,M a I⟩
     .refine Dy c ?_ x.hp;refine bO.of s.len λj m v b u=>⟨s.at b u,d m v (List.mem_of_mem_take<|List.mem_of_getElem? b)<|s.at b u⟩
    .cases h
   .cases h
  .cases h
 .cases h
theorem MZ: ∀{ss:List Pl} {p:fJ<|LW false ss} {q:fJ<|LW true ss} {K:List TV->Option R} {r:R},mkK ss p q K=some r->
 ∃M,K M=some r/\bO (λm i=>m=i\/∃b,m=.lit (.bool b)/\i=.lit (.bool b)) M (mkV ss p q)
 | [],p,q,K,r,h=>⟨[],h,trivial⟩
 | .con c::ss,p,q,K,r,h=>by
  let⟨M,a,d⟩:=MZ (ss:=ss) h;exact⟨_,a,.inl rfl,d⟩
 | .p s::ss,p,q,K,r,h=>by
  let⟨M,a,d⟩:=MZ (ss:=ss) h;exact⟨_,a,.inl rfl,d⟩
 | .v s::ss,p,q,K,r,h=>by
  have g:∃v,v=s.tv (fJ.hd q)/\mkK ss p (fJ.tl q) (λvs=>K (v::vs))=some r:=by
   simp only[mkK,Ed] at h;split at h
   .rename_i u f;split at h
    .rename_i b;cases b with
     | true=>exact⟨_,f.symm,h⟩
     | false=>exact⟨_,f.symm,h⟩
    .exact⟨_,f.symm,h⟩
   .exact⟨_,rfl,h⟩
  let⟨v,e,h⟩:=g;let⟨M,a,d⟩:=MZ h;exact⟨_,a,.inl e,d⟩
theorem Y2{L:yI}{p:L.P}{q:L.V}{K:TS->Option R}{r:R}(h:L.mkB p q K=some r): K (L.mk' p q)=some r:=by
 unfold yI.mkB at h;let⟨M,g,c⟩:=MZ h;have e:M=mkV L.ss p q:=by
  apply List.ext_getElem? ;intro j;cases a:M[j]? with
  | none=>
   rw[List.getElem?_eq_none_iff] at a;rw[eq_comm,List.getElem?_eq_none_iff,c.len];exact a
  | some m=>
   let⟨i,d,f⟩:=c.get a;rw[d];rcases f with rfl | ⟨b,rfl,rfl⟩<;>rfl
 subst e;exact g
end
inductive ClA(n:Nat): AV->AV->Prop
 | r (a):ClA n a a
 | s (a b m):n<=m->ClA n a b->ClA n a (yF m b)
theorem ClA.tr{n:Nat}{a b c:AV}(h:ClA n a b)(k:ClA n b c): ClA n a c:=by
 induction k with
 | r=>exact h
 | s b m e _ d=>exact .s _ _ m e d
def atB(l:List Bool)(t:Nat): Bool:=match l[t]? with
 | some b=>b
 | none=>false
def noD(t:Nat): List aL->Bool
 | []=>true
 | o::r=>match o.dst with
  | none=>noD t r
  | some d=>match Nat.beq d t with
   | true=>false
   | false=>noD t r
def I0(t:Nat): bI->Bool
 | .skip=>true
 | .exit _=>true
 | .ret=>true
 | .stop=>true
 | .region _ _ ops=>noD t ops
 | .seq a b=>I0 t a&&I0 t b
 | .cond _ a b=>I0 t a&&I0 t b
 | .block _ c=>I0 t c
 | .scope c=>I0 t c
 | .loop live _ c=>(match live with
  | none=>true
  | some l=>atB l t)&&I0 t c
 | .mask lx _ _ c=>atB lx t&&I0 t c
 | .told li lx _ c=>(atB li t&&atB lx t)&&I0 t c
 | .frz u c=>!Nat.beq u t&&I0 t c
 | .nilIf ..=>false
 | .loopV ..=>false
def kpL(c:bI): List Nat->Bool
 | []=>true
 | t::r=>match I0 t c with
  | true=>kpL c r
  | false=>false
section
variable {P:Program}{cf:CF}{fl lf n t:Nat}
theorem aAQ{l:List Bool}(h:atB l t=true): l[t]?=some true:=by
 unfold atB at h;split at h
 .rename_i b a;rw[a,h]
 .cases h
theorem r5{tm:List AV}{d:Option Nat}{v:AV}(h:∀e,d=some e->e≠t): (eL tm d v)[t]?=tm[t]?:=by
 cases d with
 | none=>rfl
 | some e=>exact List.getElem?_set_ne<|h e rfl
theorem MU[aB]: ∀{l:List aL} {st st':St},noD t l=true->bE P cf fl l st=some st'->st'.tmps[t]?=st.tmps[t]?
 | [],st,st',_,h=>by cases h;rfl
 | o::r,st,st',c,h=>by
  have b:noD t r=true/\∀e,o.dst=some e->e≠t:=by
   simp only[noD] at c;split at c
   .rename_i e;exact⟨c,λg h=>by rw[e] at h;cases h⟩
   .rename_i d e;split at c
    .cases c
    .rename_i f;exact⟨c,λg h=>by rw[e] at h;cases h;exact Nat.ne_of_beq_eq_false f⟩
  simp only[bE] at h;split at h
  .rename_i i a;rw[MU b.1 h];unfold bD at a;split at a
   .split at a
    .cases a;exact r5 b.2
    .cases a
   .cases a;exact r5 b.2
   .cases a
  .cases h
theorem aF0{k n:Nat}: ∀{l:List aL},noD t l=true->noD t (eX l k n)=true:=by
 induction k with
 | zero=>intro l h;cases l with
  | nil=>exact h
  | cons o r=>simp only[eX,noD] at h |-;exact h
 | succ k ih=>intro l h;cases l with
  | nil=>exact h
  | cons o r=>
   simp only[eX,noD] at h |-;split
   .rename_i e;simp only[e] at h;exact ih h
   .rename_i d e;simp only[e] at h;split
    .rename_i g;rw[g] at h;cases h
    .rename_i g;rw[g] at h;exact ih h
def Kp(n t:Nat)(st st':St): Prop:=n<=st'.heap.length/\∀a,st.tmps[t]?=some a->∃b,st'.tmps[t]?=some b/\ClA n a b
theorem Kp.tr{d f e:St}(h:Kp n t d f)(k:Kp n t f e): Kp n t d e:=⟨k.1,λa j=>by
 let⟨b,g,q⟩:=h.2 a j;let⟨c,l,i⟩:=k.2 b g;exact⟨c,l,q.tr i⟩⟩
theorem Kp.same{st st':St}(c:n<=st'.heap.length)(h:st'.tmps[t]?=st.tmps[t]?): Kp n t st st':=⟨c,λa b=>⟨a,by rw[h];exact b,.r a⟩⟩
theorem Kp.head[aB]{live:Option<|List Bool}{tr:Bool}{m:Nat}{st:St}(f:n<=st.heap.length)(c:n<=m)(b:fl<=n)(h:∀l,live=some l->atB l t=true): Kp n t st<|bX live tr fl m st:=by
 refine⟨(pU ⟨b,f⟩ ⟨b,c⟩).2,λa d=>?_⟩;have e:(Ff live st.tmps)[t]?=some a:=by
  cases live with
  | none=>exact d
  | some l=>exact (On _ _ _<|aAQ<|h l rfl).trans d
 cases tr with
 | false=>exact⟨a,e,.r a⟩
 | true=>exact⟨yF m a,by simp only[bX,if_true,List.getElem?_map,e];rfl,.s _ _ m c<|.r a⟩
theorem Kp.loop{b:St->St}{step:St->Option (bP×St)}(i:∀st,n<=st.heap.length->Kp n t st (b st))(d:∀st x st',n<=st.heap.length->step st=some (x,st')->x≠.ret->Kp n t st st'):
 ∀(m:Nat) (st:St) (x:bP) (st':St),n<=st.heap.length->dN b step m st=some (x,st')->x≠.ret->Kp n t st st'
 | 0,_,_,_,_,h,_=>by cases h
 | m+1,st,x,st',k,a,j=>by
  simp only[dN] at a;have c:=i st k;split at a
  .rename_i f he;have g:=d _ _ _ c.1 he (by intro e;cases e);exact (c.tr g).tr<|Kp.loop i d m f x st' g.1 a j
  .exact c.tr<|d _ _ _ c.1 a j
theorem FW{a b:Bool}(h:(a&&b)=true): a=true/\b=true:=by simpa using h
theorem lB[aB](g:gW cf)(m:fl<=n): ∀(c:bI) (st:St) (x:bP) (st':St),I0 t c=true->n<=st.heap.length->cH P cf lf fl c st=some (x,st')->x≠.ret->Kp n t st st'
 | .skip,st,x,st',_,f,d,_=>by simp only[cH] at d;cases d;exact .same f rfl
 | .exit _,st,x,st',_,f,d,_=>by simp only[cH] at d;cases d;exact .same f rfl
 | .ret,st,x,st',_,f,d,o=>by simp only[cH] at d;cases d;exact (o rfl).elim
 | .stop,st,x,st',_,f,d,_=>by simp only[cH] at d;cases d
 | .region _ I ops,st,x,st',j,f,d,_=>by
  simp only[cH] at d;split at d
  .rename_i h he;cases d;rcases zW g he with ⟨_,k⟩ | ⟨_,_,z,_,k⟩
   .exact .same (Gf g ops st _ ⟨m,f⟩ k).2<|MU j k
   .have a:=Fr.app (L:=[.blk z.length [z.map .lit]]) ⟨m,f⟩;have y:=MU (aF0 j) k;have w:=(Gf g _ _ _ (Fr.go ⟨m,f⟩ a) k).2;exact .same w y
  .cases d
 | .seq a b,st,x,st',j,f,d,o=>by
  let⟨p,q⟩:=FW j;simp only[cH] at d;split at d
  .rename_i h he;have k:=lB g m a st _ h p f he (by intro e;cases e);exact k.tr<|lB g m b h x st' q k.1 d o
  .exact lB g m a st x st' p f d o
 | .cond c a b,st,x,st',j,f,d,o=>by
  let⟨p,q⟩:=FW j;simp only[cH] at d;split at d
  .exact lB g m a st x st' p f d o
  .exact lB g m b st x st' q f d o
  .cases d
 | .block id c,st,x,st',j,f,d,o=>by
  simp only[cH] at d;split at d
  .rename_i i h he;have k:=lB g m c st _ h j f he (by intro e;cases e);split at d<;>cases d<;>exact k
  .exact lB g m c st x st' j f d o
 | .scope c,st,x,st',j,f,d,o=>by
  simp only[cH] at d;exact lB g m c st x st' j f d o
 | .loop live tr c,st,x,st',j,f,d,o=>by
  let⟨p,q⟩:=FW j;simp only[cH] at d;exact Kp.loop (λs z=>Kp.head z f m λl e=>by rw[e] at p;exact p) (λs y s' z he G=>lB g m c s y s' q z he G) lf st x st' f d o
 | .frz u c,st,x,st',j,f,d,o=>by
  let⟨p,q⟩:=FW j;simp only[cH] at d;split at d
  .rename_i v H he;have r:n<=H.length:=(OB g ⟨m,f⟩ he).2;have k:Kp n t st ⟨st.tmps.set u v,H⟩:=.same r<|List.getElem?_set_ne<|Nat.ne_of_beq_eq_false (by simpa using p);exact k.tr<|lB g m c _ x st' q r d o
  .cases d
 | .mask D C tr c,st,x,st',j,f,d,o=>by
  let⟨p,q⟩:=FW j;simp only[cH,qJ] at d;split at d
  .rename_i F h he;split at d
   .cases d;exact (o rfl).elim
   .cases d;have k:=lB g m c st _ h q f he (by intro e;cases e);exact k.tr<|Kp.head k.1 f m λl e=>by cases e;exact p
   .cases d;have k:=lB g m c st _ h q f he (by intro e;cases e);exact k.tr<|Kp.head k.1 f m λl e=>by cases e;exact p
  .cases d
 | .told w D C c,st,x,st',j,f,d,o=>by
  let⟨p,q⟩:=FW j;let⟨E,A⟩:=FW p;have B:Kp n t st ⟨bS w st.tmps,st.heap⟩:=.same f<|On _ _ _<|aAQ E;simp only[cH,qJ] at d;split at d
  .rename_i F h he;split at d
   .cases d;exact (o rfl).elim
   .cases d;have k:=lB g m c ⟨bS w st.tmps,st.heap⟩ _ h q f he (by intro e;cases e);exact (B.tr k).tr<|Kp.head k.1 f m λl e=>by cases e;exact A
   .cases d;have k:=lB g m c ⟨bS w st.tmps,st.heap⟩ _ h q f he (by intro e;cases e);exact (B.tr k).tr<|Kp.head k.1 f m λl e=>by cases e;exact A
  .cases d
 | .nilIf ..,st,x,st',j,f,d,o=>by cases j
 | .loopV ..,st,x,st',j,f,d,o=>by cases j
theorem XZ{c:bI}: ∀{l:List Nat},kpL c l=true->∀t∈l,I0 t c=true
 | [],_,t,a=>by cases a
 | u::l,h,t,a=>by
  simp only[kpL] at h;split at h
  .rename_i b;rcases List.mem_cons.1 a with rfl | a
   .exact b
   .exact XZ h t a
  .cases h
end
section
variable [cX]{H H1:TH}{n:Nat}
theorem aGr{n m:Nat}(h:n<=m)(v:TV): cP m (cP n v)=cP n v:=by
 have k:∀i,Nat.blt i n=true->Nat.blt i m=true:=λi e=>by
  have:i<n:=by simpa [Nat.blt_eq] using e
  simpa [Nat.blt_eq] using Nat.lt_of_lt_of_le this h
 cases v with
 | fn vi cs=>cases cs<;>rfl
 | ms i m=>simp only[cP];cases a:Nat.blt i n with | true=>simp only[cP,k _ a] | false=>rfl
 | ptr i o=>simp only[cP];cases a:Nat.blt i n with | true=>simp only[cP,k _ a] | false=>rfl
 | pel i j o=>simp only[cP];cases a:Nat.blt i n with | true=>simp only[cP,k _ a] | false=>rfl
 | mp i=>simp only[cP];cases a:Nat.blt i n with | true=>simp only[cP,k _ a] | false=>rfl
 | it i=>simp only[cP];cases a:Nat.blt i n with | true=>simp only[cP,k _ a] | false=>rfl
 | rs i m=>simp only[cP];cases a:Nat.blt i n with | true=>simp only[cP,k _ a] | false=>rfl
 | rel i m j o=>simp only[cP];cases a:Nat.blt i n with | true=>simp only[cP,k _ a] | false=>rfl
 | _=>rfl
theorem OM{n m:Nat}(h:n<=m)(v:TV): iW m (iW n v)=iW n v:=by
 have k:∀i,Nat.blt i n=true->Nat.blt i m=true:=λi e=>by
  have:i<n:=by simpa [Nat.blt_eq] using e
  simpa [Nat.blt_eq] using Nat.lt_of_lt_of_le this h
 cases v with
 | fn vi cs=>simp only[iW,List.map_map];congr 1;exact List.map_congr_left λc _=>aGr h c
 | ms i x=>simp only[iW,cP];cases a:Nat.blt i n with | true=>simp only[iW,cP,k _ a] | false=>rfl
 | ptr i o=>simp only[iW,cP];cases a:Nat.blt i n with | true=>simp only[iW,cP,k _ a] | false=>rfl
 | pel i j o=>simp only[iW,cP];cases a:Nat.blt i n with | true=>simp only[iW,cP,k _ a] | false=>rfl
 | mp i=>simp only[iW,cP];cases a:Nat.blt i n with | true=>simp only[iW,cP,k _ a] | false=>rfl
 | it i=>simp only[iW,cP];cases a:Nat.blt i n with | true=>simp only[iW,cP,k _ a] | false=>rfl
 | rs i x=>simp only[iW,cP];cases a:Nat.blt i n with | true=>simp only[iW,cP,k _ a] | false=>rfl
 | rel i x j o=>simp only[iW,cP];cases a:Nat.blt i n with | true=>simp only[iW,cP,k _ a] | false=>rfl
 | _=>rfl
theorem aGq{n m:Nat}(h:n<=m)(v:TV): sZ m (sZ n v)=sZ n v:=by
 have k:∀i,Nat.blt i n=true->Nat.blt i m=true:=λi e=>by
  have:i<n:=by simpa [Nat.blt_eq] using e
  simpa [Nat.blt_eq] using Nat.lt_of_lt_of_le this h
 cases v with
 | agg cs=>simp only[sZ,List.map_map];congr 1;exact List.map_congr_left λc _=>OM h c
 | fn vi cs=>exact OM h<|.fn vi cs
 | ms i x=>simp only[sZ,iW,cP];cases a:Nat.blt i n with | true=>simp only[sZ,iW,cP,k _ a] | false=>rfl
 | ptr i o=>simp only[sZ,iW,cP];cases a:Nat.blt i n with | true=>simp only[sZ,iW,cP,k _ a] | false=>rfl
 | pel i j o=>simp only[sZ,iW,cP];cases a:Nat.blt i n with | true=>simp only[sZ,iW,cP,k _ a] | false=>rfl
 | mp i=>simp only[sZ,iW,cP];cases a:Nat.blt i n with | true=>simp only[sZ,iW,cP,k _ a] | false=>rfl
 | it i=>simp only[sZ,iW,cP];cases a:Nat.blt i n with | true=>simp only[sZ,iW,cP,k _ a] | false=>rfl
 | rs i x=>simp only[sZ,iW,cP];cases a:Nat.blt i n with | true=>simp only[sZ,iW,cP,k _ a] | false=>rfl
 | rel i x j o=>simp only[sZ,iW,cP];cases a:Nat.blt i n with | true=>simp only[sZ,iW,cP,k _ a] | false=>rfl
 | _=>rfl
theorem ZA{n m:Nat}(h:n<=m)(o:lO): iC m (iC n o)=iC n o:=by
 cases o with
 | box cs=>simp only[iC,List.map_map];congr 1;exact List.map_congr_left λc _=>OM h c
 | rows s es=>simp only[iC,List.map_map];congr 1;exact List.map_congr_left λe _=>by simp only[Function.comp,List.map_map];exact List.map_congr_left λc _=>OM h c
 | fr k a=>
  simp only[iC];cases d:Nat.ble k n with
  | true=>simp only[iC,Nat.ble_eq_true_of_le<|Nat.le_trans (Nat.le_of_ble_eq_true d) h]
  | false=>rfl
 | _=>rfl
theorem aDt{v:TV}{a:AV}(q:Qh H v a): Qh ((H.take n).map<|iC n) (sZ n v) a:=by
 cases v with
 | agg cs=>
  obtain⟨aw,rfl,c⟩:=q.inA;exact Qh.mkA<|c.mapL λ_ _ q=>(xH q).2
 | undef=>exact Qh.u _
 | tup=>exact Qh.u _
 | _=>exact (xH (n:=n) q).2
theorem aKf{v:TV}{a b:AV}(c:n=H.length)(q:Qh H v a)(h:ClA n a b): Qh (H.map<|iC n) (sZ n v) b:=by
 induction h with
 | r=>
  have:=aDt (n:=n) q;rw[c,List.take_length] at this;rw[c];exact this
 | s b m d _ f=>
  have:=y6 (n:=m) f;rw[aGq d,List.take_of_length_le<|by simp;omega,List.map_map] at this;have e:iC m∘iC n=iC n:=funext λo=>ZA d o;rw[e] at this;exact this
theorem aKg{o:lO}{a b:cN}(c:n=H.length)(q:Qo H o a)(h:ClO n a b): Qo (H.map<|iC n) (iC n o) b:=by
 induction h with
 | r=>
  have:=(AC (n:=n) q).2;rw[c,List.take_length] at this;rw[c];exact this
 | s b m d _ f=>
  have:=(AC (n:=m) f).1;rw[ZA d,List.take_of_length_le<|by simp;omega,List.map_map] at this;have e:iC m∘iC n=iC n:=funext λo=>ZA d o;rw[e] at this;exact this
end
section
variable [cX]{R:Type}{H H1:TH}{A:aM}{N:Nat}{S:TS}{st:St}{P:Program}{T:List bK}{cf:CF}{op:xP}{K:TV->TS->Option R}{r:R}{E:XE}{n:Nat}{d:Option Nat}
def Cj{P:Type}(Q:(o:Dr P)->o.lay.V->Prop): (l:List<|Dr P)->oM l->Prop
 | [],t=>t.elim
 | [o],t=>Q o t
 | o::o'::r,t=>match t with
  | .inl t=>Q o t
  | .inr s=>Cj Q (o'::r) s
theorem Cj.two{P:Type}{Q b:(o:Dr P)->o.lay.V->Prop}: ∀{l:List<|Dr P} {t:oM l},Cj Q l t->Cj b l t->∃o∈l,∃t,Q o t/\b o t
 | [],t,_,_=>t.elim
 | [o],t,h,k=>⟨o,List.mem_cons_self,t,h,k⟩
 | o::a::r,.inl t,h,k=>⟨o,List.mem_cons_self,t,h,k⟩
 | o::a::r,.inr t,h,k=>let ⟨o,c,t,h⟩:=Cj.two (l:=a::r) h k;⟨o,List.mem_cons_of_mem _ c,t,h⟩
theorem QE{P R:Type}{p:P}{b:Bool}{K:bP->TS->Option R}{r:R}: ∀{l:List<|Dr P} {x:Option<|oM l},swO p b l x K=some r->∃t,x=some t/\Cj (λo t=>K o.x (o.lay.mk' (o.pr p) t)=some r) l t
 | [],x,h=>by cases h
 | [o],x,h=>by
  simp only[swO] at h;obtain⟨t,rfl,h⟩:=aV h;refine⟨t,rfl,?_⟩;split at h
  .exact Y2 h
  .exact h
 | o::a::l,x,h=>by
  simp only[swO] at h;rcases L4 h with⟨t,rfl,h⟩ | ⟨s,rfl,h⟩
  .refine⟨.inl t,rfl,?_⟩;split at h
   .exact Y2 h
   .exact h
  .let⟨t,e,h⟩:=QE (l:=a::l) h;cases e;exact⟨.inr _,rfl,h⟩
theorem ZR: ∀{os:List OL} {H:TH} {c:List TV},upO os H=some c->H.length=os.length
 | [],H,c,h=>by
  cases H with
  | nil=>rfl
  | cons=>cases h
 | o::os,H,c,h=>by
  cases H with
  | nil=>cases h
  | cons b H=>
   simp only[upO] at h;split at h
   .cases h
   .rename_i vs a;simp[ZR a]
theorem Zy{L:yI}{S:TS}{x:L.P×L.V}(h:L.get S=some x): S.hp.length=L.os.length:=by
 unfold yI.get at h;split at h
 .split at h
  .rename_i a;exact ZR a
  .cases h
 .cases h
theorem aFQ{L:yI}{p:L.P}{q:L.V}(h:L.get S=some (p,q))(i k k':Nat)(l:List<|den k)(c:List<|den k')(f:S.hp[i]?=some (.lst k l))(n:(L.mk' p q).hp[i]?=some (.lst k' c)): c.length=l.length:=by
 unfold yI.get at h;split at h
 .split at h
  .rename_i m a;split at h
   .rename_i o b;split at h
    .cases h;have g:=Ek (H:=S.hp) b;have e:=O7 a;have j:bO (Rj S.hp) ((mkV L.ss p q).take<|nO L.os) m:=by
      have:=g.take<|nO L.os;rw[<-e,List.take_left] at this;rw[e] at this;exact this
     exact sO a j i k k' l c f n
    .cases h
   .cases h
  .cases h
 .cases h
theorem r9{kl:List Nat}: ∀{i:Nat} {H H':TH},Yl kl i H H'=true->∀(j k:Nat) (l:List<|den k),i+j∉kl->H[j]?=some (.lst k l)->∃(k':Nat) (f:List<|den k'),H'[j]?=some (.lst k' f)
 | i,[],H',h,j,k,l,_,c=>by simp at c
 | i,a::r,[],h,_,_,_,_,_=>by cases h
 | i,a::r,b::s,h,j,k,l,n,c=>by
  have o:Yl kl (i+1) r s=true->∀e,j=e+1->∃(k':Nat) (f:List<|den k'),(b::s)[j]?=some (.lst k' f):=by
   rintro q e rfl;let⟨k',f,g⟩:=r9 q e k l (by rw[Nat.add_assoc,Nat.add_comm 1];exact n) (by simpa using c);exact⟨k',f,by simpa using g⟩
  simp only[Yl] at h;cases j with
  | succ e=>
   refine o ?_ e rfl;split at h
   .split at h
    .exact h
    .split at h
     .exact h
     .cases h
   .exact h
  | zero=>
   simp only[List.getElem?_cons_zero,Option.some.injEq] at c;subst c;simp only at h;split at h
   .exact⟨_,_,rfl⟩
   .split at h
    .rename_i p;exact absurd p<|by rw[XW<|by simpa using n];simp
    .cases h
theorem o4{os:List OL}: ∀{l:List Nat},aC2 os l=true->∀i∈l,os[i]?=some .gone
 | [],_,i,a=>by cases a
 | j::l,h,i,a=>by
  simp only[aC2] at h;split at h
  .rename_i o b;split at h
   .rcases List.mem_cons.1 a with rfl | a
    .exact b
    .exact o4 h i a
   .cases h
  .cases h
theorem CQ: ∀{os:List OL} {vs:List TV} {i:Nat} {o:lO},os[i]?=some .gone->(GN os vs)[i]?=some o->o=.gone
 | [],vs,i,o,h,_=>by simp at h
 | c::os,vs,0,o,h,a=>by
  simp only[List.getElem?_cons_zero,Option.some.injEq] at h;subst h;simp only[GN,List.getElem?_cons_zero,Option.some.injEq] at a;exact a.symm
 | c::os,vs,i+1,o,h,a=>by
  have b:os[i]?=some .gone:=by simpa using h
  clear h;cases c<;>simp only[GN] at a<;>first
   | exact CQ b (by simpa using a)
   | (split at a<;>first | exact CQ b (by simpa using a) | (simp at a))
theorem sV{L:yI}{S:TS}{x:L.P×L.V}(h:L.fit S=some x): L.get S=some x/\∀i∈L.fo,L.os[i]?=some .gone:=by
 unfold yI.fit at h;split at h
 .rename_i e;exact⟨h,o4 e⟩
 .cases h
theorem Zs{n:Nat}{φ:Nat->cN}: ∀{l:List Nat} {H:TH},(ovO n φ l H).length=H.length
 | [],_=>rfl
 | _::r,H=>by simp[ovO,Zs (l:=r)]
theorem MN{n:Nat}{φ:Nat->cN}{i:Nat}: ∀{l:List Nat} {H:TH},i∉l->(ovO n φ l H)[i]?=H[i]?
 | [],_,_=>rfl
 | j::r,H,h=>by
  simp only[List.mem_cons,not_or] at h;rw[ovO,List.getElem?_set_ne λe=>h.1 e.symm];exact MN h.2
theorem XC{n:Nat}{φ:Nat->cN}{i:Nat}: ∀{l:List Nat} {H:TH},i∈l->i<H.length->(ovO n φ l H)[i]?=some (.fr n<|φ i)
 | j::r,H,h,a=>by
  rw[ovO,List.getElem?_set];split
  .rename_i e;subst e;rw[if_pos<|by rw[Zs];exact a]
  .rename_i e;rcases List.mem_cons.1 h with rfl | h
   .exact (e rfl).elim
   .exact XC h a
theorem Zn{kl:List Nat}{n:Nat}{a:TH}: ∀{l:List Nat} {H:TH},(PK kl n a l H).length=H.length
 | [],_=>rfl
 | _::r,H=>by
  simp only[PK];split<;>simp[Zn (l:=r)]
theorem BN{kl:List Nat}{n i:Nat}{a:TH}: ∀{l:List Nat} {H:TH},i∉l->(PK kl n a l H)[i]?=H[i]?
 | [],_,_=>rfl
 | j::r,H,h=>by
  simp only[List.mem_cons,not_or] at h;rw[PK];split
  .rw[List.getElem?_set_ne λe=>h.1 e.symm];exact BN h.2
  .exact BN h.2
theorem MA{kl:List Nat}{n i:Nat}{d:TH}{o:lO}(c:d[i]?=some o): ∀{l:List Nat} {H:TH},i∈l->i<H.length->(PK kl n d l H)[i]?=some (zH kl<|iC n o)
 | j::r,H,h,b=>by
  rw[PK];rcases List.mem_cons.1 h with rfl | h
  .rw[c];exact List.getElem?_set_self<|by rw[Zn];exact b
  .split
   .rename_i f a;rw[List.getElem?_set];split
    .rename_i e;subst e;rw[c] at a;cases a;rw[if_pos<|by rw[Zn];exact b]
    .exact MA c h b
   .exact MA c h b
theorem aEj{L:yI}{n:Nat}{φ:Nat->cN}{p:L.P}{q:L.V}(h:∀i∈L.fo,L.os[i]?=some .gone): HM (L.mk' p q).hp (L.mkG n φ p q).hp:=by
 intro i k l a;have b:i∉L.fo:=λc=>by cases CQ (h i c) a
 exact⟨k,l,by rw[<-a];exact MN b,rfl⟩
theorem aH4{L:yI}{n:Nat}{φ:Nat->cN}{p:L.P}{q:L.V}(h:∀i∈L.fo,L.os[i]?=some .gone)(c:Qt N (L.mk' p q) st)(k:∀i∈L.fo,∀b,st.heap[i]?=some b->ClO n (φ i) b): Qt N (L.mkG n φ p q) st:=by
 refine Qt.hpM (S:=L.mk' p q) (st:=st) c (aEj h)<|bO.of (by rw[c.hp.len];exact Zs.symm) λj o b d f=>?_;by_cases e:j∈L.fo
 .have g:j<(L.mk' p q).hp.length:=by rw[<-c.hp.len];exact (List.getElem?_eq_some_iff.1 f).1
  rw[XC e g] at d;cases d;exact k j e b f
 .rw[MN e] at d;exact (c.hp.at d f).mono<|aEj h
theorem EG{L:yI}{p:L.P}{q:L.V}{n:Nat}{φ:Nat->cN}(h:L.fit S=some (p,q))(a:Qt N S st)(c:∀i∈L.fo,∀b,st.heap[i]?=some b->ClO n (φ i) b): Qt N (L.mkG n φ p q) st:=
 aH4 (sV h).2 (aAm (sV h).1 a) c
theorem f8{n:Nat}{φ:Nat->cN}{H:TH}: ∀{l:List Nat},aBZ n H l=some (l.map φ)->∀i∈l,H[i]?=some (.fr n<|φ i)
 | [],_,i,a=>by cases a
 | j::l,h,i,a=>by
  simp only[aBZ] at h;split at h
  .rename_i o c;split at h
   .split at h
    .rename_i e;have e:=Nat.eq_of_beq_eq_true e;subst e;split at h
     .rename_i f b;simp only[List.map_cons,Option.some.injEq,List.cons.injEq] at h;obtain⟨rfl,rfl⟩:=h;rcases List.mem_cons.1 a with rfl | a
      .exact c
      .exact f8 b i a
     .cases h
    .cases h
   .cases h
  .cases h
theorem Zz{L:yI}{p:L.P}{q:L.V}{n:Nat}{φ:Nat->cN}(h:L.getF n S=some (L.fo.map φ,p,q))(a:Qt N S st): Qt N (L.mkG n φ p q) st:=by
 unfold yI.getF at h;split at h
 .rename_i f e;split at h
  .rename_i x g;simp only[Option.some.injEq,Prod.mk.injEq] at h;obtain⟨rfl,rfl⟩:=h;exact EG g a λi c b d=>a.hp.at (f8 e i c) d
  .cases h
 .cases h
theorem SQ{t:Nat}{v:TV}{B:TT}: ∀{A:TT},eD t (A++B)=some v->eD t A=some v\/eD t B=some v
 | [],h=>.inr h
 | (s,u)::A,h=>by
  simp only[List.cons_append,eD] at h |-;split at h
  .exact .inl h
  .exact SQ h
theorem DH{kl:List Nat}{n t:Nat}{c:TT}{v:TV}: ∀{l:List Nat},eD t (rsT kl n c l)=some v->t∈l/\∃u,eD t c=some u/\v=Ky kl (sZ n u)
 | [],h=>by cases h
 | s::l,h=>by
  simp only[rsT] at h;split at h
  .rename_i u d;simp only[eD] at h;split at h
   .rename_i e;have e:=Nat.eq_of_beq_eq_true e;subst e;cases h;exact⟨List.mem_cons_self,u,d,rfl⟩
   .let⟨a,b⟩:=DH h;exact⟨List.mem_cons_of_mem _ a,b⟩
  .let⟨a,b⟩:=DH h;exact⟨List.mem_cons_of_mem _ a,b⟩
structure OKo(sp:Zh)(p:sp.ins.P)(q:sp.ins.V)(o:Dr sp.ins.P): Prop where
 fo:o.lay.fo=sp.ins.fo
 hm:∀t,HMk sp.kl (sp.ins.mk' p q).hp (o.lay.mk' (o.pr p) t).hp
 ln:∀t,(sp.ins.mk' p q).hp.length<=(o.lay.mk' (o.pr p) t).hp.length
structure OKu(sp:Zh)(p:sp.ins.P)(q:sp.ins.V)(o:Dr sp.ins.P)(u:o.lay.V): Prop where
 fo:o.lay.fo=sp.ins.fo
 hm:HMk sp.kl (sp.ins.mk' p q).hp (o.lay.mk' (o.pr p) u).hp
 ln:(sp.ins.mk' p q).hp.length<=(o.lay.mk' (o.pr p) u).hp.length
theorem OKo.at{sp:Zh}{p:sp.ins.P}{q:sp.ins.V}{o:Dr sp.ins.P}(h:OKo sp p q o)(u:o.lay.V): OKu sp p q o u:=⟨h.fo,h.hm u,h.ln u⟩
theorem s8: ∀{H H':TH},H9 H H'=true->∀(j k:Nat) (l:List<|den k),H[j]?=some (.lst k l)->∃(k':Nat) (b:List<|den k'),H'[j]?=some (.lst k' b)/\b.length=l.length
 | [],_,_,j,k,l,c=>by simp at c
 | o::r,[],h,_,_,_,_=>by cases h
 | o::r,b::s,h,j,k,l,c=>by
  have w:(∀k (l:List<|den k),o=.lst k l->∃(k':Nat) (f:List<|den k'),b=.lst k' f/\f.length=l.length)/\H9 r s=true:=by
   cases o with
   | lst k l=>
    cases b with
    | lst k' f=>
     have h:(Nat.beq f.length l.length&&H9 r s)=true:=h
     have h:=(Bool.and_eq_true _ _).mp h
     exact⟨λ_ _ e=>by cases e;exact⟨_,_,rfl,Nat.eq_of_beq_eq_true h.1⟩,h.2⟩
    | _=>cases h
   | _=>exact⟨λ_ _ e=>(by cases e),h⟩
  cases j with
  | zero=>
   simp only[List.getElem?_cons_zero,Option.some.injEq] at c
   let⟨k',f,e,n⟩:=w.1 k l c;exact⟨k',f,by rw[e];rfl,n⟩
  | succ j=>exact s8 w.2 j k l (by simpa using c)
theorem aAI{α:Type}{b:Bool}{x:Option α}{r:α}(h:cnd b x none=some r): b=true/\x=some r:=by
 cases b with
 | true=>exact⟨rfl,h⟩
 | false=>cases h
theorem UT{n i k:Nat}{l:List<|den k}(h:(H.map<|iC n)[i]?=some (.lst k l)): H[i]?=some (.lst k l):=by
 rw[List.getElem?_map,Option.map_eq_some_iff] at h;let⟨o,b,a⟩:=h;cases o<;>simp only[iC] at a<;>first | (cases a;done) | (cases a;exact b) | (split at a<;>cases a)
section
variable {N':Nat}{S1:TS}{st1 st2:St}{sp:Zh}{p:sp.ins.P}{q:sp.ins.V}{o:Dr sp.ins.P}{φ:Nat->cN}{u:o.lay.V}
theorem WR(F:Qt N S1 st1)(E:sp.ins.fit S1=some (p,q))(U:Yl (sp.kl++sp.ins.fo) 0 S1.hp (sp.ins.mk' p q).hp=true)(Y:∀i∈sp.ins.fo,∀b,st1.heap[i]?=some b->b=φ i)(G:OKu sp p q o u)(s:Qt N' (o.lay.mkG sp.ins.os.length φ (o.pr p) u) st2): HMk sp.kl S1.hp (PK sp.kl S1.hp.length S1.hp sp.ins.fo (o.lay.mk' (o.pr p) u).hp)/\Qt N' ⟨(o.lay.mk' (o.pr p) u).tm,PK sp.kl S1.hp.length S1.hp sp.ins.fo (o.lay.mk' (o.pr p) u).hp⟩ st2:=by
 have m:S1.hp.length=sp.ins.os.length:=Zy (sV E).1;have I:S1.hp.length=(sp.ins.mk' p q).hp.length:=by
  rw[<-F.hp.len];exact (aAm (sV E).1 F).hp.len
 have e:st2.heap.length=(o.lay.mk' (o.pr p) u).hp.length:=by rw[s.hp.len];exact Zs
 have L:∀i a,S1.hp[i]?=some a->i<(o.lay.mk' (o.pr p) u).hp.length:=λi a h=>by
  have h1:=(List.getElem?_eq_some_iff.1 h).1;have h2:=G.ln;omega
 have O:HMk sp.kl S1.hp<|PK sp.kl S1.hp.length S1.hp sp.ins.fo (o.lay.mk' (o.pr p) u).hp:=by
  intro i k l g n;by_cases f:i∈sp.ins.fo
  .exact⟨k,l,by rw[MA n f<|L i _ n];rfl,rfl⟩
  .let⟨k',M,Q⟩:=r9 U i k l (by rw[Nat.zero_add];simp[g,f]) n;let⟨Z,V,X,W⟩:=G.hm i k' M g Q;exact⟨Z,V,by rw[BN f];exact X,by rw[W];exact aFQ (sV E).1 i k k' l M n Q⟩
 have x:∀i,i∉sp.ins.fo->(o.lay.mkG sp.ins.os.length φ (o.pr p) u).hp[i]?=(o.lay.mk' (o.pr p) u).hp[i]?:=λi g=>MN (by rw[G.fo];exact g);have v:∀i,i∈sp.ins.fo->i<(o.lay.mk' (o.pr p) u).hp.length->(o.lay.mkG sp.ins.os.length φ (o.pr p) u).hp[i]?=some (.fr sp.ins.os.length<|φ i):=λi g n=>XC (by rw[G.fo];exact g) n;have D:HM (o.lay.mkG sp.ins.os.length φ (o.pr p) u).hp<|PK sp.kl S1.hp.length S1.hp sp.ins.fo (o.lay.mk' (o.pr p) u).hp:=by
  intro i k l g;have K:i<(o.lay.mk' (o.pr p) u).hp.length:=by rw[<-e,s.hp.len];exact (List.getElem?_eq_some_iff.1 g).1
  by_cases f:i∈sp.ins.fo
  .rw[v i f K] at g;cases g
  .exact⟨k,l,by rw[BN f,<-x i f];exact g,rfl⟩
 refine⟨O,Qt.hpM (S:=o.lay.mkG sp.ins.os.length φ (o.pr p) u) s D<|bO.of (by rw[Zn];exact e) λj a b H r=>?_⟩;have A:j<(o.lay.mk' (o.pr p) u).hp.length:=by rw[<-e];exact (List.getElem?_eq_some_iff.1 r).1
 by_cases f:j∈sp.ins.fo
 .have y:ClO sp.ins.os.length (φ j) b:=s.hp.at (v j f A) r;have C:j<S1.hp.length:=by rw[m];exact (List.getElem?_eq_some_iff.1<|(sV E).2 j f).1
  have J:j<st1.heap.length:=by rw[F.hp.len];exact C
  have z:=List.getElem?_eq_getElem C;have t:=List.getElem?_eq_getElem J;rw[MA z f A] at H;cases H;have R:=F.hp.at z t;rw[Y j f _ t] at R;rw[<-m] at y;exact SX (λi k l g n=>O i k l g<|UT n)<|aKg rfl R y
 .rw[BN f,<-x j f] at H;exact (s.hp.at H r).mono D
theorem aAX{S:TS}{x:bP}(s:Qt N S st)(I:Qt N S1 st1)(r:S1.hp.length=S.hp.length)(A:∀(i k:Nat) (l:List<|den k),S.hp[i]?=some (.lst k l)->S1.hp[i]?=some (.lst k l))(D:sp.ins.fit S1=some (p,q))(Q:Yl (sp.kl++sp.ins.fo) 0 S1.hp (sp.ins.mk' p q).hp=true)(O:∀i∈sp.ins.fo,∀b,st1.heap[i]?=some b->b=φ i)(L:OKo sp p q o)(V:Qt N (o.lay.mkG sp.ins.os.length φ (o.pr p) u) st2)(K:x≠.ret->∀t∈sp.kt,Kp sp.ins.os.length t st st2): Qt N (aft sp S.tm S1.hp x<|o.lay.mk' (o.pr p) u) st2:=by
 let⟨F,n⟩:=WR I D Q O (L.at u) V;have h:S1.hp.length=sp.ins.os.length:=Zy (sV D).1;have f:x≠.ret->Qt N ⟨(o.lay.mk' (o.pr p) u).tm++rsT sp.kl S1.hp.length S.tm sp.kt,PK sp.kl S1.hp.length S1.hp sp.ins.fo (o.lay.mk' (o.pr p) u).hp⟩ st2:=by
  intro J;refine⟨n.ln,λt v g=>?_,n.hp⟩;rcases SQ g with g | g
  .exact n.tm t v g
  .obtain⟨M,w,E,rfl⟩:=DH g;let⟨a,G,R⟩:=s.tm t w E;let⟨b,y,C⟩:=(K J t M).2 a G;refine⟨b,y,?_⟩;rw[<-h] at C;exact zI (λi k l H r=>F i k l H<|A i k l<|UT r)<|aKf r R C
 cases x with
 | ret=>exact n
 | normal=>exact f<|by intro e;cases e
 | exit j=>exact f<|by intro e;cases e
end
def IOK[aB](P:Program)(T:List bK)(sp:ISp): Prop:=∀n p q t,sp.s.F n p q=some t->∀φ aw H,aw.length=sp.na->sp.fl<=H.length->Qt aw.length (sp.s.ins.mkG sp.s.ins.os.length φ p q) ⟨aw,H⟩->
 ∃aw' H',dK P T n sp.fl sp.vi aw H=some (eH aw',H')/\aw'.length=sp.nr/\Cj (λo t=>Qt sp.nr (o.lay.mkG sp.s.ins.os.length φ (o.pr p) t) ⟨aw',H'⟩/\OKo sp.s p q o) sp.s.outs t
theorem w9: ∀{vs:List TV} {aw:List AV} {i t:Nat} {v:TV},Qc H vs aw->eD t (Xk i vs)=some v->∃j a,t=i+j/\aw[j]?=some a/\Qh H v a
 | [],_,i,t,v,_,h=>by cases h
 | u::vs,a::aw,i,t,v,q,h=>by
  simp only[Xk,eD] at h;split at h
  .rename_i e;have e:=Nat.eq_of_beq_eq_true e;cases h;exact⟨0,a,by omega,rfl,q.1⟩
  .let⟨j,b,f,d,c⟩:=w9 q.2 h;exact⟨j+1,b,by omega,by simpa using d,c⟩
theorem OE{vs:List TV}{aw:List AV}(b:Qs H A)(q:Qc H vs aw): Qt aw.length ⟨Xk 0 vs,H⟩ ⟨aw,A⟩:=by
 refine⟨rfl,λt v f=>?_,b⟩;let⟨j,a,e,c,d⟩:=w9 q f;exact⟨a,by rw[e,Nat.zero_add];exact c,d⟩
theorem aEg{c t:Nat}{b:List AV}{e:aM}(h:Qt c S ⟨b,e⟩)(f:t<c): ∃a,b[t]?=some a/\Qh S.hp (match eD t S.tm with | some v=>v | none=>.undef) a:=by
 cases d:eD t S.tm with
 | some v=>exact h.tm t v d
 | none=>exact⟨b[t]'(by rw[h.ln];exact f),List.getElem?_eq_getElem _,Qh.u _⟩
theorem d7{d:Nat}{c:List AV}{o:aM}(h:Qt d S ⟨c,o⟩): Qh S.hp (T8 d S.tm)<|eH c:=by
 have q:c.length=d:=h.ln;have f:∀d,Qt d S ⟨c,o⟩->Qh S.hp (.tup<|(List.range d).map λj=>match eD j S.tm with | some v=>v | none=>.undef) (.tup c):=by
  intro d h;refine Qh.mkT<|bO.of (by simp[h.ln]) λj v a p k=>?_;rw[List.getElem?_map,Option.map_eq_some_iff] at p;obtain⟨n,l,rfl⟩:=p;have e:n=j:=by
   rw[List.getElem?_range<|by rw[<-h.ln];exact (List.getElem?_eq_some_iff.1 k).1] at l;cases l;rfl
  subst e;let⟨b,g,i⟩:=aEg h (t:=n) (by rw[<-h.ln];exact (List.getElem?_eq_some_iff.1 k).1);rw[k] at g;cases g;exact i
 match d,c,h,q with
 | 0,[],h,_=>exact f 0 h
 | 1,[a],h,_=>
  let⟨b,g,i⟩:=aEg h (t:=0) (by omega);cases g;exact i
 | m+2,a::b::r,h,_=>exact f _ h
theorem Gz[aB]{fl vi:Nat}{vs:List TV}{aw:List AV}(d:fl<=st.heap.length)(v:Qt N S st)(q:Qc S.hp vs aw): ∀{l:List ISp},(∀sp∈l,IOK P T sp)->vG n fl vi vs S K l=some r->
 ∃a A tv m,dK P T n fl vi aw st.heap=some (a,A)/\Qt N m ⟨st.tmps,A⟩/\Qh m.hp tv a/\K tv m=some r
 | [],_,h=>by cases h
 | sp::l,y,h=>by
  have e:vG n fl vi vs S K l=some r->_:=Gz d v q λsp h=>y sp<|List.mem_cons_of_mem _ h;simp only[vG] at h;split at h
  .exact e h
  .rename_i w;have w:=Nat.eq_of_beq_eq_true w;split at h
   .exact e h
   .rename_i e2;have e2:=Nat.eq_of_beq_eq_true e2;split at h
    .exact e h
    rename_i k;have k:=Nat.eq_of_beq_eq_true k;split at h
    .rename_i p q' x;split at h
     .rename_i j;have f:=OE v.hp q;let φ:Nat->cN:=λi=>(st.heap[i]?).getD default;have z:∀i b,st.heap[i]?=some b->b=φ i:=λi b c=>by show b=(st.heap[i]?).getD default;rw[c];rfl
      split at h
      rotate_left
      .split at h
       .rename_i j2;let⟨t,G,g⟩:=QE h
        let⟨H,H',C,L,F⟩:=y sp List.mem_cons_self n p q' t G φ aw st.heap (by rw[q.len];exact k) (by rw[e2];exact d) (EG x f λi M b c=>by rw[z i b c];exact .r _);let⟨o,_,u,⟨J,E⟩,D⟩:=Cj.two F g
        obtain⟨D0,D⟩:=aAI D
        have E2:OKu {sp.s with kl:=[]} p q' o u:=⟨E.fo,λi k l _ h=>s8 D0 i k l h,E.ln u⟩
        let⟨I,B⟩:=WR (sp:={sp.s with kl:=[]}) f x j2 (λi _ b c=>z i b c) E2 J;exact⟨_,H',T8 sp.nr (o.lay.mk' (o.pr p) u).tm,⟨S.tm,PK [] S.hp.length S.hp sp.s.ins.fo (o.lay.mk' (o.pr p) u).hp⟩,by rw[<-w,<-e2];exact C,DM (f:=[]) v I B.hp,d7 B,D⟩
       .exact e h
      let⟨t,G,g⟩:=QE h
      let⟨H,H',C,L,F⟩:=y sp List.mem_cons_self n p q' t G φ aw st.heap (by rw[q.len];exact k) (by rw[e2];exact d) (EG x f λi M b c=>by rw[z i b c];exact .r _);let⟨o,_,u,⟨J,E⟩,D⟩:=Cj.two F g;let⟨I,B⟩:=WR f x j (λi _ b c=>z i b c) (E.at u) J;exact⟨_,H',T8 sp.nr (o.lay.mk' (o.pr p) u).tm,⟨SV sp.kl S.tm,PK sp.kl S.hp.length S.hp sp.s.ins.fo (o.lay.mk' (o.pr p) u).hp⟩,by rw[<-w,<-e2];exact C,DM v I B.hp,d7 B,D⟩
     .exact e h
    .exact e h
end
section
variable [cX]{R:Type}{H H1:TH}{A:aM}{N:Nat}{S:TS}{st:St}{P:Program}{T:List bK}{cf:CF}{op:xP}{K:TV->TS->Option R}{r:R}{E:XE}{n:Nat}{d:Option Nat}
def aBh[aB](P:Program)(t:TypeId)(e:EqS): Prop:=∀(cf:CF) (fl:Nat) (H:aM) (x y:den e.k) (aw bs:List AV),Qr (iH e.k x) aw->Qr (iH e.k y) bs->
 aI P cf fl (.bin .eql t (.tmp 0)<|.tmp 1) [qF (ag e.k) aw,qF (ag e.k) bs] H=some (bv<|@decide (x=y)<|e.dec x y,H)/\aI P cf fl (.bin .neq t (.tmp 0)<|.tmp 1) [qF (ag e.k) aw,qF (ag e.k) bs] H=some (bv<|!@decide (x=y) (e.dec x y),H)
def KOK(P:Program)(t:TypeId)(e:aDI): Prop:=SY (cds e.k)=true/\@GJ (den e.k) e.dec P t (pR e.k)
def aBb(P:Program)(t:TypeId): Prop:=P.underlying t=some .string/\∀s,aK P (Builtin.len_ #[t] 0 #[.string s])=some (.int .i64 ((s.size:Nat):Int))
def VM(P:Program)(s d:TypeId)(k:IntKind): Prop:=match u5 k with
 | true=>Bp P s d=true
 | false=>∀j a,aK P (convert s d<|.int j a)=some (.int k<|k.wrap a)
def aAK(s bytes:Nat)(z:List Value): bI:=(.seq (.region false [] [⟨(some 2),.mov<|.lit aZ,none⟩])<|.nilIf 0 3 4 (.seq (.region false [] [⟨(some 2),.mov<|.lit aZ,none⟩]) .ret)<|.seq (.region false [] [⟨(some 5),.buildSl true s 0 z [],none⟩,⟨(some 6),.mov<|.tmp 0,none⟩,⟨(some 7),.append s bytes (.tmp 5)<|.tmp 6,none⟩,⟨(some 2),.mov<|.tmp 7,none⟩]) .ret)
def aEA[aB](T:List bK)(vi k:Nat): Prop:=∃fid bytes z,getF T vi=some ⟨fid,8,[.tmp 2],aAK (cds k).length bytes z⟩/\0<(cds k).length/\bytes<=100000
def POK[aB](T:List bK)(vi:Nat): PSp->Prop
 | .srt k=>aB.prim vi=some (Ln (ag k) (cds k).length)
 | .cln k=>aEA T vi k
 | .ord k F=>∃g,aB.prim vi=some (Kw g)/\∀fl H id (l:List<|den k) es,fl<=id->H[id]?=some (.blk (cds k).length es)->Ql k l es->l.length<=1000000->
  ∃es',g fl [.ms id l.length 0 l.length] H=some (.tup [],H.set id<|.blk (cds k).length es')/\Ql k (F l) es'/\(F l).length=l.length
 | .ins k=>∃g,aB.prim vi=some (Kw g)/\∀fl H id y (i:Nat) es row,fl<=id->(∃id2,id≠id2/\y=.ms id2 1 0 1/\H[id2]?=some (.blk (cds k).length [row]))->H[id]?=some (.blk (cds k).length es)->row.length=(cds k).length->i<=es.length->es.length<=1000000->
  g fl [.ms id es.length 0 es.length,.lit<|.int .i64 (i:Nat),y] H=some (.ms id (es.length+1) 0<|es.length+1,H.set id<|.blk (cds k).length (es.take i++row::es.drop i))
structure GL[aB](P:Program)(T:List bK)(E:XE): Prop where
 cs:∀vi c,E.cs vi=some c->PG P T vi c
 eq:∀t e,E.eq t=some e->aBh P t e
 km:∀t e,E.km t=some e->KOK P t e
 st:∀t,E.st t=true->aBb P t
 cv:∀s d k,E.cv s d=some k->VM P s d k
 pr:∀vi p,E.pr vi=some p->POK T vi p
 il:∀sp∈E.il,IOK P T sp
 fo:∀cf,gW cf->gW (Co cf)
theorem b8{α β:Type}: ∀(l:List α) (m:List β) (i:Nat) (a:α) (b:β),(l.zip m).set i (a,b)=(l.set i a).zip (m.set i b)
 | [],_,_,_,_=>by simp
 | _::_,[],i,_,_=>by cases i<;>simp
 | x::l,y::m,0,a,b=>rfl
 | x::l,y::m,i+1,a,b=>by simp[b8 l m i a b]
theorem QB{k:Nat}{x:den k}{row:List AV}(h:Qr (iH k x) row): Qh H (val k x)<|qF (ag k) row:=by
 unfold val qF;cases ag k with
 | true=>exact Qh.mkA h.c
 | false=>
  cases b:iH k x with
  | nil=>exact Qh.u _
  | cons c r=>
   rw[b] at h;cases row with
   | nil=>exact h.elim
   | cons a r=>exact .p _ _ h.1
theorem aEU{k:Nat}{v:TV}{x:den k}{a:AV}{c:TH}(h:Zq 0 c k v=some x)(q:Qh H v a): ∃row,a=qF (ag k) row/\Qr (iH k x) row:=by
 unfold Zq at h;split at h
 .rename_i b;split at h
  .obtain⟨aw,rfl,q'⟩:=q.inA;exact⟨aw,by rw[b];rfl,iL h q'⟩
  .cases h
 .rename_i b;exact⟨[a],by rw[b];rfl,iL h (aw:=[a]) ⟨q,trivial⟩⟩
theorem Zw: ∀{cs:List Cd} {p:Ik cs},SY cs=true->lN cs p=(kvC cs p).map .lit
 | [],_,_=>rfl
 | c::r,p,h=>by
  cases c<;>first | (cases h;done) | (simp only[SY] at h;simp only[lN,kvC,List.map_cons,Zw h];rfl)
theorem NC: ∀{vs:List Value} {aw:List AV},Qr (vs.map .lit) aw->zG aw=some vs
 | [],[],_=>rfl
 | v::vs,a::aw,h=>by
  have e:a=.lit v:=by cases h.1;rfl
  subst e;simp only[zG,NC h.2]
theorem Z6{k:Nat}{v:TV}{x:den k}{a:AV}{g:TH}(d:SY (cds k)=true)(h:Zq 0 g k v=some x)(q:Qh H v a): lits a=some (pR k x):=by
 unfold Zq at h;unfold pR;split at h
 .rename_i f;split at h
  .obtain⟨aw,rfl,q'⟩:=q.inA;have b:=iL h q';unfold iH at b;rw[Zw d] at b;simp only[lits,NC b,f]
  .cases h
 .rename_i f;have b:=iL h (aw:=[a]) ⟨q,trivial⟩;unfold iH at b;rw[Zw d] at b;generalize kvC (cds k) (cX.un k x)=vs at b;match vs,b with
  | [v],b=>
   have e:a=.lit v:=by cases b.1;rfl
   subst e;rfl
theorem J7{kk b:Nat}{m:List<|den kk×den b}{rows:List<|List AV}(h:rows.length=m.length): (hY b m rows).map (·.1)=(m.map (·.1)).map (pR kk):=by
 unfold hY;rw[List.map_fst_zip<|by simp[h],List.map_map];rfl
theorem x5{kk b:Nat}{m:List<|den kk×den b}{rows:List<|List AV}{i:Nat}{p:den kk×den b}{row:List AV}(c:m[i]?=some p)(d:rows[i]?=some row): (hY b m rows)[i]?=some (pR kk p.1,qF (ag b) row):=by
 unfold hY;rw[List.getElem?_zip_eq_some];exact⟨by simp[c],by simp[d]⟩
theorem KK{kt:TypeId}{a:aDI}{c:Nat}{m:List<|den a.k×den c}{rows:List<|List AV}(d:KOK P kt a)(h:rows.length=m.length)(x:den a.k): jL P kt (pR a.k x) (hY c m rows)=some (m.findIdx? λp=>@decide (p.1=x)<|a.dec p.1 x):=by
 rw[YK (e2:=(m.map (·.1)).map λx=>(pR a.k x,AV.undef))<|by rw[J7 h,List.map_map,List.map_map,List.map_map];rfl,@GJ.find _ a.dec _ _ _ d.2];congr 1;rw[List.findIdx?_map];rfl
theorem r8{kk c:Nat}{v:TV}{a:AV}{m:List<|den kk×den c}(n:Qs H A)(q:Qh H v a)(h:Y9 H kk v=some ⟨c,m⟩):
 ∃rows,Qm c m rows/\((a=.lit (.map none)/\m=[])\/a=.rmp (hY c m rows)\/∃id,a=.mp id/\v=.mp id/\A[id]?=some (.mp<|hY c m rows)/\id<H.length):=by
 unfold Y9 at h;split at h
 .split at h
  .rename_i g;cases h;let⟨e,i,h⟩:=Qx g;subst e;cases i;subst h;let⟨rows,d,f⟩:=(q.pu trivial).inM;rcases d with d | d
   .exact⟨rows,f,.inl d⟩
   .exact⟨rows,f,.inr<|.inl d⟩
  .cases h
 .split at h
  .rename_i o k;split at h
   .split at h
    .rename_i g;cases h;let⟨e,i,h⟩:=Qx g;subst e;cases i;subst h;obtain⟨b,l,rows,rfl,f⟩:=n.get k;exact⟨rows,f,.inr<|.inr ⟨_,q.mp1,rfl,l,(List.getElem?_eq_some_iff.1 k).1⟩⟩
    .cases h
   .cases h
  .cases h
 .cases h
theorem SP[aB]{kt:TypeId}{z m k:aQ}{ok:Bool}(U:GL P T E)(t:Qt N S st)(h:bY E n d (.lookup kt z m k ok) S K=some r): cL P cf E.fl N (.lookup kt z m k ok) st K r:=by
 simp only[bY] at h;split at h
 .rename_i o L;have A:=U.km kt o L;split at h
  .rename_i g y;have f:=Z6 A.1 y<|t.get k;split at h
   .rename_i p W;let⟨w,x⟩:=p;let⟨rows,O,c⟩:=r8 t.hp (t.get m) W;split at h
    .rename_i M Y;have V:Qh S.hp (val w M)<|aC st.tmps z:=aHp Y<|t.get z;have G:∃a,Qh S.hp (val w<|(@cR _ _ o.dec x g).getD M) a/\aI P cf E.fl (.lookup kt z m k ok) st.tmps st.heap=some (if ok then .tup [a,.lit<|.bool (@cR _ _ o.dec x g).isSome] else a,st.heap):=by
      have q:jL P kt (pR o.k g) (hY w x rows)=_:=KK A O.len g;have u:∀e,aK P (Instr.checkKey e 10000 kt<|pR o.k g)=some ():=λe=>@GJ.chk _ o.dec _ _ _ A.2 e g;rcases @DB _ _ o.dec _ g x with⟨j,F⟩ | ⟨i,v,j,F,I⟩
      .refine⟨aC st.tmps z,by rw[j];exact V,?_⟩;rw[F] at q;rcases c with⟨c,B⟩ | c | ⟨id,c,_,s,_⟩
       .subst B;have J:jL P kt (pR o.k g) []=some none:=q;simp only[aI,f,c,u,J,j];cases ok<;>rfl
       .simp only[aI,f,c,u,q,j];cases ok<;>rfl
       .simp only[aI,f,c,s,u,q,j];cases ok<;>rfl
      .let⟨row,Z,X⟩:=O.get I;refine⟨qF (ag w) row,by rw[j];exact QB X,?_⟩;rw[F] at q;have he:=x5 I Z;rcases c with⟨c,B⟩ | c | ⟨id,c,_,s,_⟩
       .subst B;simp at I
       .simp only[aI,f,c,u,q,he,j];cases ok<;>rfl
       .simp only[aI,f,c,s,u,q,he,j];cases ok<;>rfl
     let⟨a,R,he⟩:=G;split at h
     .let⟨b,qb,h⟩:=Nt h<|Qh.l (H:=S.hp) _;let⟨Q,D,h⟩:=Nt h R;exact cL.same t (by rw[he];rfl) (Qh.mkT (cs:=[Q,b]) (aw:=[a,_]) ⟨D,qb,trivial⟩) h
     .let⟨Q,D,h⟩:=Nt h R;exact cL.same t (by rw[he];rfl) D h
    .cases h
   .cases h
  .cases h
 .cases h
theorem Z0[aB]{kt:TypeId}{m k v:aQ}(hE:GL P T E)(x:Qt N S st)(h:bY E n d (.mapUpd kt m k v) S K=some r): cL P cf E.fl N (.mapUpd kt m k v) st K r:=by
 simp only[bY] at h;split at h
 .rename_i b Q;have B:=hE.km kt b Q;split at h
  .rename_i c J;have y:=Z6 B.1 J<|x.get k;split at h
   .rename_i id hm;have X:=x.get m;rw[hm] at X;have R:=X.mp1;split at h
    .cases h
    .rename_i j;have j:=Nat.le_of_ble_eq_true j;split at h
     .rename_i p F;let⟨C,q⟩:=p;let⟨rows,w,u⟩:=r8 x.hp (Qh.mp (H:=S.hp) id) F;split at h
      .rename_i D hv;let⟨row,U,e2⟩:=aEU hv<|x.get v;rcases u with⟨u,_⟩ | u | ⟨a2,u,_,z,a1⟩
       .cases u
       .cases u
       cases u;have A:jL P kt (pR b.k c) (hY C q rows)=_:=KK B w.len c;have W:aK P (Instr.checkKey false 10000 kt<|pR b.k c)=some ():=@GJ.chk _ b.dec _ _ _ B.2 false c;have t:Instr.sameBits 10000 (pR b.k c) (pR b.k c)=true:=@GJ.same _ b.dec _ _ _ B.2 c;have G:∀o:lO,(∀(k:Nat) (l:List<|den k),S.hp[id]?≠some (.lst k l))->HM S.hp (S.hp.set id o):=λo hn=>HM.set λk l e=>absurd e<|hn k l;have L:∀(k:Nat) (l:List<|den k),S.hp[id]?≠some (.lst k l):=by
        intro k l e;simp only[Y9,e] at F;cases F
       have f:∀a,aI P cf E.fl (.mapUpd kt m k v) st.tmps st.heap=some (.lit aW,st.heap.set id<|.mp<|hY C (@oQ _ _ b.dec q c D) a)->Qm C (@oQ _ _ b.dec q c D) a->cL P cf E.fl N (.mapUpd kt m k v) st K r:=
        λa he M=>cL.set (o:=.map b.k C<|@oQ _ _ b.dec q c D) x he (G _ L) ⟨a,rfl,M⟩ (Qh.l _) h
       have g:=@SH _ _ b.dec _ c D q;rcases @DB _ _ b.dec _ c q with⟨g1,O⟩ | ⟨i,v0,g1,O,Y⟩
       .rw[O] at A g;rw[g] at f;refine f (rows++[row]) ?_<|w.app ⟨e2,trivial⟩;simp only[aI,y,R,j,if_true,z,W,A,U];congr 4;unfold hY;rw[List.map_append,List.map_append,List.zip_append<|by simp[w.len]];rfl
       .rw[O] at A g;rw[g] at f;let⟨V,Z,h2⟩:=w.get Y;have he:=x5 Y Z;refine f (rows.set i row) ?_<|bO.set (l:=q) (m:=rows) w i e2;simp only[aI,y,R,j,if_true,z,W,A,he,t,U];congr 4;unfold hY;rw[List.map_set,List.map_set];exact b8 _ _ _ _ _
      .cases h
     .cases h
   .cases h
  .cases h
 .cases h
end
section
variable [cX]{R:Type}{H H1:TH}{A:aM}{N:Nat}{S:TS}{st:St}{P:Program}{T:List bK}{cf:CF}{op:xP}{K:TV->TS->Option R}{r:R}{E:XE}{n:Nat}{d:Option Nat}
theorem LR{v:TV}{a:AV}{s:ByteArray}(h:D7 v=some s)(q:Qh H v a): a=sv s:=by
 unfold D7 at h;split at h
 .split at h
  .cases h;exact q.inL
  .cases h
 .cases h
theorem aD8[aB]{x:Option aQ}{b a:Int}(d:Qt N S st)(h:Nd S.tm x b=some a)(c:0<=a): (x=none/\a=b)\/(∃y,x=some y/\fA (aC st.tmps y)=some a.toNat):=by
 unfold Nd at h;split at h
 .cases h;exact .inl ⟨rfl,rfl⟩
 .rename_i y;have:=mN h<|d.get y;exact .inr ⟨y,rfl,by rw[this];simp[fA,c]⟩
theorem iZ[aB]{x:Option aQ}{b a:Int}(d:Qt N S st)(h:Nd S.tm x b=some a)(f:0<=a): ∃o,cU st.tmps x=some o/\∀D:Nat,b=(D:Int)->o.getD D=a.toNat:=by
 rcases aD8 d h f with⟨rfl,rfl⟩ | ⟨y,rfl,e⟩
 .exact⟨none,rfl,λD c=>by simp[c]⟩
 .exact⟨some a.toNat,by simp only[cU,e],λD _=>rfl⟩
theorem Z2[aB]{t:TypeId}{x:aQ}(c:GL P T E)(a:Qt N S st)(h:bY E n d (.lenStr t x) S K=some r): cL P cf E.fl N (.lenStr t x) st K r:=by
 simp only[bY] at h;split at h
 .rename_i b;split at h
  .rename_i s f;have e:=LR f<|a.get x;refine cL.same a ?_ (Qh.l _) h;simp only[aI,e,(c.st t b).2 s]
  .cases h
 .cases h
theorem P9[aB]{t:TypeId}{x i:aQ}(g:GL P T E)(a:Qt N S st)(h:bY E n d (.strIdx t x i) S K=some r): cL P cf E.fl N (.strIdx t x i) st K r:=by
 simp only[bY] at h;split at h
 .rename_i c;split at h
  .rename_i s k;have e:=LR k<|a.get x;split at h
   .rename_i j f;have e2:=mN f<|a.get i;let⟨v,b,h⟩:=aV h;have:=D8 (cf:=cf) (fl:=E.fl) (H:=st.heap) (g.st t c).1 b;refine cL.same a ?_ (Qh.l _) h;simp only[aI,e,e2];exact this
   .cases h
  .cases h
 .cases h
theorem WA[aB]{t:TypeId}{x:aQ}{j i:Option aQ}(f:Qt N S st)(h:bY E n d (.strSlice t x j i) S K=some r): cL P cf E.fl N (.strSlice t x j i) st K r:=by
 simp only[bY] at h;split at h
 .rename_i s w;have e:=LR w<|f.get x;split at h
  .rename_i a k;split at h
   .rename_i b m;let⟨v,c,h⟩:=aV h;unfold aIi at c;split at c
    .rename_i g;cases c;let⟨z,q,u⟩:=iZ f k g.1;let⟨y,p,o⟩:=iZ f m<|by omega
     refine cL.same f ?_ (Qh.l _) h;simp only[aI,e,q,p];rw[u 0 rfl,o s.size rfl,if_pos ⟨by omega,g.2.2⟩]
    .cases c
   .cases h
  .cases h
 .cases h
theorem WY[aB]{x:aQ}(a:Qt N S st)(h:bY E n d (.rangeStr x) S K=some r): cL P cf E.fl N (.rangeStr x) st K r:=by
 simp only[bY] at h;split at h
 .rename_i s c;have e:=LR c<|a.get x;refine cL.add (v:=.it st.heap.length) (o:=.it s 0) (b:=.raw<|.stringIter s 0) a (by simp only[aI,e]) rfl (by rw[a.hp.ln];exact .it _) h
 .cases h
theorem H4[aB]{x:aQ}(i:Qt N S st)(h:bY E n d (.nextStr x) S K=some r): cL P cf E.fl N (.nextStr x) st K r:=by
 have q:=i.get x;simp only[bY] at h;split at h
 .rename_i id t;rw[t] at q;have e:aC st.tmps x=.it id:=by
   generalize aC st.tmps x=a at q;cases q with
   | p _ _ q=>cases q
   | it=>rfl
  split at h
  .cases h
  .rename_i c;have c:=Nat.le_of_ble_eq_true c;split at h
   .rename_i o j;split at h
    .rename_i s p;obtain⟨b,m,rfl⟩:=i.hp.get j;rcases Vn h with⟨f,h⟩ | ⟨f,h⟩
     .have f:=of_decide_eq_true f;refine cL.set (o:=.it s<|p+(Utf8.decode s p).2) (b:=.raw<|.stringIter s<|p+(Utf8.decode s p).2) i ?_ (HM.set λk l e=>by rw[j] at e;cases e) rfl (Qh.mkT (cs:=[_,_,_]) (aw:=[_,_,_]) ⟨Qh.l _,Qh.l _,Qh.l _,trivial⟩) h;simp only[aI,e,c,if_true,m,f]
     .have f:=of_decide_eq_false f;refine cL.same i ?_ (Qh.mkT (cs:=[_]) (aw:=[_]) ⟨Qh.l _,trivial⟩) h;simp only[aI,e,c,if_true,m,f,if_false]
    .cases h
   .cases h
 .cases h
theorem aD6: ∀{k:Nat}{cs:List Cd}{g:den k->Ik cs}{l:List (den k)}{es:List (List AV)}{b:ByteArray},aGw cs g l=some b->bO (λx e=>Qr (lN cs (g x)) e) l es->∃ns,qB es=some ns/\xR ns=b:=by
 intro k cs g0 l es b h q;unfold aGw at h;split at h
 .cases h;rename_i g;refine⟨l.map λx=>(g x).1,?_,rfl⟩
  have:∀(l:List (den k)) (es:List (List AV)),bO (λx e=>Qr (lN [Cd.int .u8] (g x)) e) l es->qB es=some (l.map λx=>(g x).1):=by
   intro l;induction l with
   | nil=>
    intro es q;cases es with
    | nil=>rfl
    | cons e es=>exact q.elim
   | cons x l ih=>
    intro es q;cases es with
    | nil=>exact q.elim
    | cons e es=>
     have u:=ih es q.2;have v:=q.1
     cases e with
     | nil=>exact v.elim
     | cons a e=>
      cases e with
      | cons _ _=>exact v.2.elim
      | nil=>
       have w:Qp (.lit (.int .u8 (g x).1)) a:=v.1
       cases w;simp only[qB,u,List.map_cons];rfl
  exact this l es q
 .cases h
theorem A0{k:Nat}{l:List (den k)}{es:List (List AV)}{b:ByteArray}(h:aGv k l=some b)(q:Ql k l es): ∃ns,qB es=some ns/\xR ns=b:=aD6 (g:=cX.un k) h q
theorem aGk[aB]{s t:TypeId}{x:aQ}(e:GL P T E)(b:Qt N S st)(h:bY E n d (.conv s t x) S K=some r): cL P cf E.fl N (.conv s t x) st K r:=by
 have q:=b.get x;simp only[bY] at h;split at h
 .rename_i k' c;split at h
  .rename_i u f;rw[f] at q;split at h
   .split at h
    .cases h
    .rename_i z;have a:=e.cv s t k' c;unfold VM at a;rw[z] at a;refine cL.same b ?_ (Qh.l _) h;simp only[aI,q.inL,YD];have a:=a ‹_› ‹_›;simp only[a]
   .cases h
  .rename_i k l f;rw[f] at q;split at h
   .rename_i z;have a:=e.cv s t k' c;unfold VM at a;rw[z] at a;split at h
    .rename_i bb g;let⟨es,w,y⟩:=(q.pu trivial).inS;let⟨ns,u,v⟩:=A0 g y;subst v
     refine cL.same b ?_ (Qh.l _) h;have a:Bp P s t=true:=a
     rcases w with⟨w,z⟩ | ⟨f,w⟩
     .subst z;simp only[aI,w,YD,aZ,a,rd,u]
     .simp only[aI,w,YD,a,rd,u]
    .cases h
   .cases h
  .rename_i k l f;rw[f] at q;split at h
   .rename_i z;have a:=e.cv s t k' c;unfold VM at a;rw[z] at a;split at h
    .rename_i bb g;let⟨es,w,y⟩:=(q.pu trivial).inV;let⟨ns,u,v⟩:=A0 g y;subst v
     refine cL.same b ?_ (Qh.l _) h;have a:Bp P s t=true:=a
     rcases w with⟨w,z⟩ | ⟨f,w⟩ | w
     .subst z;simp only[aI,w,YD,aZ,a,rd,u]
     .simp only[aI,w,YD,a,rd,u]
     .simp only[aI,w,YD,a,rd,u]
    .cases h
   .cases h
  .cases h
 .cases h
theorem aC9[aB](a:Qt N S st)(h:bY E n d .mkMap S K=some r): cL P cf E.fl N .mkMap st K r:=by
 simp only[bY] at h;split at h
 .split at h
  .rename_i kk c _;exact cL.add (v:=.mp st.heap.length) (o:=.map kk c []) (b:=.mp []) a rfl ⟨[],rfl,trivial⟩ (by rw[a.hp.ln];exact .mp _) h
  .cases h
 .cases h
theorem aFC[aB]{x:aQ}(k:Qt N S st)(h:bY E n d (.lenM x) S K=some r): cL P cf E.fl N (.lenM x) st K r:=by
 have q:=k.get x;simp only[bY] at h;split at h
 .rename_i m c;refine cL.same k ?_ (Qh.l _) h;generalize bR S.tm x=v at c q;generalize j:aC st.tmps x=a at q;have s:∀{kk p:Nat} {m:List<|den kk×den p} {rows:List<|List AV},rows.length=m.length->(hY p m rows).length=m.length:=λh=>by simp[hY,h]
  unfold aEh at c;split at c
  .cases c;let⟨rows,t,g⟩:=(q.pu trivial).inM;rcases t with⟨rfl,rfl⟩ | rfl
   .simp only[aI,j];rfl
   .simp only[aI,j,s g.len]
  .split at c
   .rename_i o u;split at c
    .cases c;obtain⟨b,f,rows,rfl,g⟩:=k.hp.get u;have e:=q.mp1;subst e;simp only[aI,j,f,s g.len]
    .cases c
   .cases c
  .cases c
 .cases h
theorem vN[aB]{x:Option aQ}(a:Qt N S st)(h:tM S.tm x=true): cU st.tmps x=some none\/cU st.tmps x=some (some 0):=by
 unfold tM at h;split at h
 .exact .inl rfl
 .rename_i y;split at h
  .rename_i m b;split at h
   .split at h
    .right;simp only[cU,mN b<|a.get y];rfl
    .cases h
   .cases h
  .cases h
theorem aDl[aB]{s:Nat}{x:aQ}{Z U:Option aQ}(c:Qt N S st)(h:aGh s S.tm S.hp Z U (bR S.tm x) (λv=>K v S)=some r): cL P cf E.fl N (.slice s x Z U none) st K r:=by
 have q:=c.get x;have u:cU st.tmps none=some none:=rfl;have hd:∀{k:Nat} {l:List<|den k} {es:List<|List AV},Ql k l es->(cds k).length=s->fV s es=true:=by
  intro k l es h e;cases es with
  | nil=>rfl
  | cons a es=>
   cases l with
   | nil=>exact h.elim
   | cons y l=>simp[fV,h.1.len,mC,e]
 have g:∀{k:Nat} {l I:List<|den k} {es:List<|List AV} {a b:Int},Ql k l es->PM l a b=some I->0<=a/\0<=b/\a.toNat<=b.toNat/\b.toNat<=es.length/\Ql k I ((es.take b.toNat).drop a.toNat):=by
  intro k l I es a b hq J;unfold PM at J;split at J
  .rename_i n;cases J;exact⟨n.1,by omega,by omega,by rw[hq.len];omega,(hq.take _).drop _⟩
  .cases J
 unfold aGh at h;split at h
 .rename_i k l H;rw[H] at q;split at h
  .rename_i e;have e:=Nat.eq_of_beq_eq_true e;split at h
   .rename_i a Q;split at h
    .rename_i b n;let⟨I,L,h⟩:=aV h;let⟨es,Y,t⟩:=(q.pu trivial).inS;let⟨W,c2,V,M,F⟩:=g t L;let⟨o1,A,C⟩:=iZ c Q W;let⟨o2,B,D⟩:=iZ c n c2;rcases Y with⟨d,rfl⟩ | ⟨f,d⟩
     .have X:l=[]:=List.length_eq_zero_iff.1 t.len.symm;subst X;have e3:=C 0 rfl;have e4:=D 0 rfl;have i:b.toNat=0:=by simpa using M
      have j:a.toNat=0:=by omega
      have e2:I=[]:=by
       rw[j,i] at F;exact List.length_eq_zero_iff.1<|by have:=F.len;simpa using this.symm
      subst e2;refine cL.same c ?_ (.p _ _<|Qp.mkS (es:=[]) (.inl ⟨rfl,rfl⟩)<|show Ql k [] [] from trivial) h;simp only[aI,d,A,B];simp[aZ,eQ,u,e3,e4,j,i]
     .refine cL.same (v:=.sl (f&&b.toNat==es.length)<|(es.take b.toNat).drop a.toNat) c ?_ (.p _ _<|Qp.mkS (.inr ⟨_,rfl⟩) F) h;simp only[aI,d,A,B,u,eQ];rw[D es.length<|by rw[t.len],C 0 rfl,if_pos ⟨V,M,hd t e⟩]
    .cases h
   .cases h
  .cases h
 .rename_i k l H;rw[H] at q;split at h
  .rename_i e;have e:=Nat.eq_of_beq_eq_true e;split at h
   .rename_i a Q;split at h
    .rename_i b n;let⟨I,L,h⟩:=aV h;let⟨es,Y,t⟩:=(q.pu trivial).inV;let⟨W,c2,V,M,F⟩:=g t L;let⟨o1,A,C⟩:=iZ c Q W;let⟨o2,B,D⟩:=iZ c n c2;rcases Y with⟨d,rfl⟩ | ⟨f,d⟩ | d
     .have X:l=[]:=List.length_eq_zero_iff.1 t.len.symm;subst X;have e3:=C 0 rfl;have e4:=D 0 rfl;have i:b.toNat=0:=by simpa using M
      have j:a.toNat=0:=by omega
      have e2:I=[]:=by
       rw[j,i] at F;exact List.length_eq_zero_iff.1<|by have:=F.len;simpa using this.symm
      subst e2;refine cL.same c ?_ (.p _ _<|Qp.mkV (es:=[]) (.inl ⟨rfl,rfl⟩)<|show Ql k [] [] from trivial) h;simp only[aI,d,A,B];simp[aZ,eQ,u,e3,e4,j,i]
     .refine cL.same (v:=.sl (f&&b.toNat==es.length)<|(es.take b.toNat).drop a.toNat) c ?_ (.p _ _<|Qp.mkV (.inr<|.inl ⟨_,rfl⟩) F) h;simp only[aI,d,A,B,u,eQ];rw[D es.length<|by rw[t.len],C 0 rfl,if_pos ⟨V,M,hd t e⟩]
     .refine cL.same (v:=.vw<|(es.take b.toNat).drop a.toNat) c ?_ (.p _ _<|Qp.mkV (.inr<|.inr rfl) F) h;simp only[aI,d,A,B,u,eQ];rw[D es.length<|by rw[t.len],C 0 rfl,if_pos ⟨V,M,hd t e⟩]
    .cases h
   .cases h
  .cases h
 .rename_i id m H;rw[H] at q;split at h
  .rename_i o ho;split at h
   .rename_i k l;split at h
    .rename_i hk;simp only[Bool.and_eq_true] at hk;have e:=Nat.eq_of_beq_eq_true hk.1;have e0:0<s:=by simpa [Nat.blt_eq] using hk.2
     have d:=q.mw ho;let⟨es,k1,k2⟩:=c.hp.lst ho;rw[e] at k1;split at h
     .rename_i a Q;have go:∀{b:Int},Nd S.tm U (((xQ l m).2:Nat):Int)=some b->bnd (sub l (xQ l m) a b) (λw=>K (.ms id<|some w) S)=some r->cL P cf E.fl N (.slice s x Z U none) st K r:=by
       intro b n h;let⟨w,T,h⟩:=aV h;unfold sub at T;split at T
       .rename_i J;cases T;let⟨o1,A,C⟩:=iZ c Q J.1;let⟨o2,B,D⟩:=iZ c n<|by omega
        refine cL.same c ?_ (.msn id _ k l ho) h;simp only[aI,d,A,B,u,eQ,k1];rw[D _ rfl,C 0 rfl];by_cases R:b.toNat<=(xQ l m).2
        .rw[if_pos ⟨by omega,R,trivial⟩]
        .rw[if_neg λh=>R h.2.1,if_pos ⟨by omega,J.2.2,k2.len,e0,trivial⟩]
       .cases T
      split at h
      .split at h
       .rename_i b n;exact go n h
       .cases h
      .split at h
       .rename_i b n;exact go n h
       .cases h
     .cases h
    .cases h
   .cases h
  .cases h
 .rename_i b H;rw[H] at q;split at h
  .rename_i G;simp only[Bool.and_eq_true] at G;have q0:=q;cases (q.pu trivial) with
   | emp _ _ z=>
    rcases vN c G.1 with j | j<;>rcases vN c G.2 with i | i<;>rcases z with z | z | ⟨n,z⟩ <;>
     first
     | (refine cL.same (v:=.lit aZ) c ?_ (by rw[<-z];exact q0) h;simp only[aI,z,j,i,u,aZ,eQ];simp;done)
     | (refine cL.same (v:=.sl true []) c ?_ (by rw[<-z];exact q0) h;simp only[aI,z,j,i,u,eQ];simp[fV];done)
     | (refine cL.same (v:=.sl false []) c ?_ (by rw[<-z];exact q0) h;simp only[aI,z,j,i,u,eQ];simp[fV];done)
  .cases h
 .split at h
  .split at h
   .split at h
    .split at h
     .split at h
      .rename_i G;have q:Qh S.hp (.lit<|.slice none 0 0)<|aC st.tmps x:=by rw[<-‹bR S.tm x=TV.lit (Value.slice none 0 0)›];exact q
       simp only[Bool.and_eq_true] at G;have d:aC st.tmps x=.lit aZ:=q.inL;rcases vN c G.1 with j | j<;>rcases vN c G.2 with i | i <;>
        (refine cL.same (v:=.lit aZ) c ?_ (by rw[<-d];exact q) h;simp only[aI,d,j,i,u,aZ,eQ];simp)
      .cases h
     .cases h
    .cases h
   .cases h
  .cases h
 .cases h
theorem aBM[aB]{s:Nat}{x:aQ}{G L mx:Option aQ}(g:Qt N S st)(h:bY E n d (.slice s x G L mx) S K=some r): cL P cf E.fl N (.slice s x G L mx) st K r:=by
 simp only[bY] at h;split at h
 .exact aDl g h
 .rename_i m;split at h
  .cases h
  .rename_i y;have q:=g.get x;split at h
   .rename_i id w A;rw[A] at q;split at h
    .rename_i o T;split at h
     .rename_i k l;split at h
      .rename_i a U;split at h
       .rename_i b O;split at h
        .rename_i c V;let⟨_,R,h⟩:=aV h;have B:=of_decide_eq_true<|iU R;let⟨W,H,I⟩:=iZ g U B.1;have C:cU st.tmps (some y)=some (some b.toNat):=by simp only[cU,mN O<|g.get y];simp[fA,show 0<=b by omega]
         have e2:cU st.tmps (some m)=some (some c.toNat):=by simp only[cU,mN V<|g.get m];simp[fA,show 0<=c by omega]
         have t:=q.mw T;by_cases i:a.toNat=b.toNat/\b.toNat=c.toNat
         .refine cL.same (v:=.sl true []) g ?_ (.u _) h;simp only[aI,t,H,C,e2,eQ];rw[I 0 rfl,if_pos ⟨i.1,i.2,by omega⟩]
         .refine cL.same (v:=.undef) g ?_ (.u _) h;simp only[aI,t,H,C,e2,eQ];rw[I 0 rfl,if_neg<|by omega,if_pos<|by omega]
        .cases h
       .cases h
      .cases h
     .cases h
    .cases h
   .rename_i k l A;rw[A] at q;split at h
    .rename_i i;have i:=N7 i;simp only[Bool.and_eq_true] at i;split at h
     .rename_i e;have e:=Nat.eq_of_beq_eq_true e;let⟨es,Q,D⟩:=(q.pu trivial).inS;have M:fV s es=true:=by
       cases es with
       | nil=>rfl
       | cons a es=>
        cases l with
        | nil=>exact D.elim
        | cons y l=>simp[fV,D.1.len,mC,e]
      have F:cU st.tmps (some y)=some (some 0):=by
       rcases vN g i.2.1 with h | h
       .simp only[cU] at h;split at h<;>cases h
       .exact h
      have J:cU st.tmps (some m)=some (some 0):=by
       rcases vN g i.2.2 with h | h
       .simp only[cU] at h;split at h<;>cases h
       .exact h
      rcases Q with⟨t,_⟩ | ⟨f,t⟩
      .refine cL.same (v:=.lit aZ) g ?_ (.p _ _<|.emp _ _<|.inl rfl) h;rcases vN g i.1 with z | z<;>simp[aI,t,z,F,J,aZ,eQ]
      .refine cL.same (v:=.sl true []) g ?_ (.p _ _<|.emp _ _<|.inr<|.inl rfl) h;rcases vN g i.1 with z | z<;>simp[aI,t,z,F,J,eQ,M]
     .cases h
    .split at h
     .cases h
     .split at h
      .rename_i b O;split at h
       .rename_i c V;split at h
        .rename_i e;have e:=Nat.eq_of_beq_eq_true e;obtain⟨_,R,h1⟩:=aV h;clear h;have B:=of_decide_eq_true<|iU R;let⟨es,Q,D⟩:=(q.pu trivial).inS
         obtain⟨B0,B1,B2⟩:=B;subst B1
         have C:cU st.tmps (some y)=some (some b.toNat):=by simp only[cU,mN O<|g.get y];simp[fA,B0]
         have e2:cU st.tmps (some m)=some (some b.toNat):=by simp only[cU,mN V<|g.get m];simp[fA,B0]
         have M:fV s es=true:=by
          cases es with
          | nil=>rfl
          | cons a es=>
           cases l with
           | nil=>exact D.elim
           | cons y l=>simp[fV,D.1.len,mC,e]
         have W:Ql k (l.take b.toNat) (es.take b.toNat):=D.take _
         have L:=D.len
         have z0:cU st.tmps none=some none:=rfl
         rcases Q with⟨t,z⟩ | ⟨f,t⟩
         .subst z;have u:b.toNat=0:=by simp at L;omega
          refine cL.same (v:=.lit aZ) g ?_ (.p _ _<|Qp.mkF (.inl ⟨rfl,by simp⟩) W) h1;simp only[aI,t,C,e2,u,z0,aZ,eQ];simp
         .refine cL.same (v:=.sl true (es.take b.toNat)) g ?_ (.p _ _<|Qp.mkF (.inr rfl) W) h1;simp only[aI,t,C,e2,z0,eQ];rw[if_pos ⟨by simp,by omega,by omega,M⟩];simp
        .cases h
       .cases h
      .cases h
   .rename_i k l A;rw[A] at q;split at h
    .rename_i e;have e:=Nat.eq_of_beq_eq_true e;split at h
     .rename_i a U;split at h
      .rename_i b O;split at h
       .rename_i c V;obtain⟨_,R,h1⟩:=aV h;clear h;have B:=of_decide_eq_true<|iU R;obtain⟨l',L,h⟩:=aV h1;clear h1
        unfold PM at L;split at L
        .rename_i L0;cases L;obtain⟨B1,B2⟩:=B;obtain⟨L0,L1,L2⟩:=L0
         let⟨es,Q,D⟩:=(q.pu trivial).inV
         let⟨o1,H,I⟩:=iZ g U L0
         have C:cU st.tmps (some y)=some (some b.toNat):=by simp only[cU,mN O<|g.get y];simp[fA,show 0<=b by omega]
         have e2:cU st.tmps (some m)=some (some c.toNat):=by simp only[cU,mN V<|g.get m];simp[fA,show 0<=c by omega]
         have M:fV s es=true:=by
          cases es with
          | nil=>rfl
          | cons a es=>
           cases l with
           | nil=>exact D.elim
           | cons y l=>simp[fV,D.1.len,mC,e]
         have W:Ql k ((l.take b.toNat).drop a.toNat) ((es.take b.toNat).drop a.toNat):=(D.take _).drop _
         have L:=D.len
         have i0:=I 0 rfl
         rcases Q with⟨t,z⟩ | ⟨f,t⟩ | t
         .subst z;have u:b.toNat=0:=by simp at L;omega
          have u2:c.toNat=0:=by simp at L;omega
          have u3:a.toNat=0:=by omega
          refine cL.same (v:=.lit aZ) g ?_ (.p _ _<|Qp.mkV (.inl ⟨rfl,by simp⟩) W) h;simp only[aI,t,C,e2,H,u,u2,aZ,eQ];rw[i0,u3];simp
         .refine cL.same (v:=.sl (b.toNat==c.toNat) ((es.take b.toNat).drop a.toNat)) g ?_ (.p _ _<|Qp.mkV (.inr<|.inl ⟨_,rfl⟩) W) h;simp only[aI,t,C,e2,H,eQ];rw[i0,if_pos ⟨by omega,by omega,by omega,M⟩]
         .by_cases u:a.toNat=0/\b.toNat=0/\c.toNat=0
          .obtain⟨u1,u2,u3⟩:=u;refine cL.same (v:=.sl true []) g ?_ (.p _ _<|Qp.mkV (.inr<|.inl ⟨true,rfl⟩) (by rw[u1,u2];trivial)) h;simp only[aI,t,C,e2,H,eQ];rw[i0,if_pos ⟨u1,u2,u3⟩]
          .refine cL.same (v:=.vw ((es.take b.toNat).drop a.toNat)) g ?_ (.p _ _<|Qp.mkV (.inr<|.inr rfl) W) h;simp only[aI,t,C,e2,H,eQ];rw[i0,if_neg u,if_pos ⟨by omega,by omega,by omega,M⟩]
        .cases L
       .cases h
      .cases h
     .cases h
    .cases h
   .cases h
end
end
theorem aEO{α:Type}{c:α->List AV}{cf:CF}{agg:Bool}{s fl id vc off len:Nat}{caps:List AV}{F:α->α->Option Int}{l t:List α}{H:aM}(p:fl<=id)(b:H[id]?=some (.blk s<|l.map c))(g:l.length<=1000000)(B:off+len<=l.length)(A:∀x y z,F x y=some z->Gs cf vc caps agg (Fb H id) (Vl H id s<|l.map c) (c x) (c y)=some z)(h:qX F ((l.drop off).take len)=some t):
 vQ cf agg s fl [.ms id l.length off len,.fn vc caps] H=some (.tup [],H.set id<|.blk s<|(aU l off t).map c):=by
 have a:((l.drop off).take len).length=len:=by rw[List.length_take,List.length_drop];omega
 generalize u:(l.drop off).take len=W at h a;unfold qX at h;split at h
 .cases h;have C:len=0:=by simpa using a.symm
  subst C;have E:qU (.ms id l.length off 0)=true:=rfl;have D:aU l off []=l:=by simp[aU]
  rw[D];simp only[vQ,E,Option.some.injEq,Prod.mk.injEq,true_and];apply List.ext_getElem?;intro i;by_cases n:i=id
  .subst n;rw[b];rw[List.getElem?_set_self (by
    rcases Nat.lt_or_ge i H.length with h | h
    .exact h
    .rw[List.getElem?_eq_none h] at b;cases b)]
  .rw[List.getElem?_set_ne<|Ne.symm n]
 .rename_i x r;split at h
  .cases h
  rename_i tb o;split at h
  .cases h
  rename_i k;cases h;have v:=P6 (e:=c) (f:=Gs cf vc caps agg (Fb H id)<|Vl H id s<|l.map c) A o;have w:len=r.length+1:=by rw[<-a];rfl
  subst w;have j:((l.map c).drop off).take (r.length+1)=(x::r).map c:=by rw[<-List.map_drop,<-List.map_take,u]
  have:=QJ (cf:=cf) (agg:=agg) (off:=off) (m:=r.length) (vc:=vc) (caps:=caps) (tb:=tb) (tot:=l.length) p b (by simp) (by simpa using B) (by simpa using g) (by rw[j];exact v) k;refine this.trans ?_;rw[j];have q:((Z8 r.length tb).map<|yU x (x::r)).length=r.length+1:=by rw[List.length_map,NG k]
  congr 3;refine congrArg (cN.blk s) ?_;unfold aU;rw[q,List.map_append,List.map_append,List.map_take,List.map_drop,List.map_map,List.append_assoc];congr 2;exact List.map_congr_left λi n=>IZ<|by have:=YC n;simpa using this
section
open iG (den cds ag)
theorem E3{α β:Type}{f:α->β}{F:β->β->Option Int}{z:List α}{e:List β}(h:qX F (z.map f)=some e): ∃g,qX (λa b=>F (f a)<|f b) z=some g/\g.map f=e:=by
 cases z with
 | nil=>cases h;exact⟨[],rfl,rfl⟩
 | cons x r=>
  have m:Nr F (f x::r.map f)=Nr (λa b=>F (f a)<|f b) (x::r):=by
   unfold Nr;rw[show f x::r.map f=(x::r).map f from rfl,List.map_map];congr 1;apply List.map_congr_left;intro a _;show Kq (((x::r).map f).map _)=_;rw[List.map_map];rfl
  simp only[List.map_cons,qX,List.length_map,m] at h;simp only[qX];split at h
  .cases h
  .rename_i tb j;split at h
   .cases h
   .rename_i k;cases h;refine⟨_,rfl,?_⟩;rw[List.map_map];apply List.map_congr_left;intro i c;have c:=YC c;exact (IZ (d:=x) (d':=f x) (l:=x::r)<|by simpa using c).symm
section
variable [cX]{R:Type}{H H1:TH}{A:aM}{N:Nat}{S:TS}{st:St}{P:Program}{T:List bK}{cf:CF}{op:xP}{K:TV->TS->Option R}{r:R}{E:XE}{n:Nat}{d:Option Nat}
theorem u7{id:Nat}: HMk [id] S.hp (wA id S).hp:=by
 intro j k l a h;simp only[wA,hP,gO];exact⟨k,l,SO<|by rw[List.getElem?_set_ne<|by simpa [eq_comm] using a];exact h,rfl⟩
theorem Hw{id:Nat}(c:Qt N S st)(a:id<S.hp.length)(b:cN): Qt N (wA id S) ⟨st.tmps,st.heap.set id b⟩:=SW c rfl (λ_ _ _=>trivial) a
abbrev RR(k:Nat):={p:den k×List AV // Qr (iH k p.1) p.2}
theorem d5{k:Nat}: ∀{l:List<|den k} {es:List<|List AV},Ql k l es->∃z:List<|RR k,z.map (λp=>p.1.1)=l/\z.map (λp=>p.1.2)=es
 | [],[],_=>⟨[],rfl,rfl⟩
 | x::l,e::es,h=>by
  let⟨z,c,a⟩:=d5 h.2;exact⟨⟨(x,e),h.1⟩::z,by rw[List.map_cons,c],by rw[List.map_cons,a]⟩
theorem aDV{k:Nat}: ∀(z:List<|RR k),Ql k (z.map λp=>p.1.1)<|z.map λp=>p.1.2
 | []=>trivial
 | p::z=>⟨p.2,aDV z⟩
theorem LV{k:Nat}{x:den k}{e:List AV}(h:Qr (iH k x) e): Qh H (val k x)<|vL (ag k) e:=by
 have:=QB (H:=H) h;unfold vL;unfold qF at this;cases c:ag k with
 | true=>rw[c] at this;exact this
 | false=>
  rw[c] at this;match e,this with
  | [],this=>exact this
  | [a],this=>exact this
  | a::b::r,this=>exact this
theorem aBE{α:Type}{F:α->α->Option Int}{m:Option<|Nat×Nat}{l:List α}{K:List α->Option R}(h:aBF F m l K=some r):
 ∃a,qX F ((l.drop (xQ l m).1).take (xQ l m).2)=some a/\(xQ l m).1+(xQ l m).2<=l.length/\l.length<=1000000/\K (aU l (xQ l m).1 a)=some r/\(aU l (xQ l m).1 a).length=l.length:=by
 cases m with
 | none=>
  let⟨_,c,h⟩:=aV h;let⟨a,b,h⟩:=aV h;have e:a.length=l.length:=IQ b;have e2:aU l 0 a=a:=by simp[aU,e]
  refine⟨a,?_,by simp[xQ],of_decide_eq_true<|iU c,?_,?_⟩
  .simpa [xQ] using b
  .simp only[xQ,e2];exact h
  .simp only[xQ,e2];exact e
 | some w=>
  let⟨_,c,h⟩:=aV h;let⟨a,b,h⟩:=aV h;have d:=of_decide_eq_true<|iU c;refine⟨a,b,d.2,d.1,h,tP ?_⟩;have:=IQ b;simp only[B7,List.length_take,List.length_drop] at this;simp only[xQ];omega
theorem aBK[aB]{vi k id vc off len:Nat}{caps:List AV}{F:den k->den k->Option Int}{l u:List<|den k}{r t:AV}(o:E.fl<=id)(v:aB.prim vi=some (Ln (ag k) (cds k).length))(B:Qt N S st)(D:S.hp[id]?=some (.lst k l))(y:l.length<=1000000)(i:off+len<=l.length)(j:r=.ms id l.length off len)(m:t=.fn vc caps)(A:∀(p q:RR k) (es:List<|List AV) (z:Int),F p.1.1 q.1.1=some z->Gs (dK P T n) vc caps (ag k) (Fb st.heap id) (Vl st.heap id (cds k).length es) p.1.2 q.1.2=some z)(h:qX F ((l.drop off).take len)=some u):
 ∃es',dK P T (n+1) E.fl vi [r,t] st.heap=some (.tup [],st.heap.set id<|.blk (cds k).length es')/\Ql k (aU l off u) es':=by
 let⟨es,x,G⟩:=B.hp.lst D;obtain⟨z,rfl,rfl⟩:=d5 G;rw[<-List.map_drop,<-List.map_take] at h;obtain⟨g,C,rfl⟩:=E3 h;subst j;subst m;refine⟨(aU z off g).map λp=>p.1.2,?_,?_⟩
 .rw[dK,v,List.length_map];exact aEO (agg:=ag k) (c:=λ(p:RR k)=>p.1.2) (F:=λ(a b:RR k)=>F a.1.1 b.1.1) o x (by simpa using y) (by simpa using i) (λp q w i=>A p q _ w i) C
 .have:=aDV<|aU z off g;have e:(aU z off g).map (λp=>p.1.1)=aU (z.map λp=>p.1.1) off (g.map λp=>p.1.1):=by
   unfold aU;rw[List.map_append,List.map_append,List.map_take,List.map_drop,List.length_map]
  rw[e] at this;exact this
theorem aDo[aB]{k id vc:Nat}{c:ZN}{p q:RR k}{es:List<|List AV}{z:Int}(m:PG P T vc c)(o:Qt N S st)(d:id<S.hp.length)(h:aGo n c k (wA id S).hp p.1.1 q.1.1=some z):
 Gs (dK P T n) vc [] (ag k) (Fb st.heap id) (Vl st.heap id (cds k).length es) p.1.2 q.1.2=some z:=by
 unfold aGo at h;have l:=Hw o d<|.mp [];let⟨s,a,tv,i,f,g⟩:=FO (H1:=[]) (K:=i64?) (aw:=[vL (ag k) p.1.2,vL (ag k) q.1.2].map<|eK<|Fb st.heap id) m h λp' r b=>aAT r b ⟨LV p.2,LV q.2,trivial⟩ l.hp;refine aGn rfl<|aFg i ?_;exact mN g f
theorem aDp[aB]{k id vc:Nat}{caps:List TV}{c:List AV}{p q:RR k}{es:List<|List AV}{z:Int}(e:∀sp∈E.il,IOK P T sp)(g:Qt N S st)(f:id<S.hp.length)(l:Qc S.hp caps c)(d:c≠[])(h:aGp E n vc id k caps S p.1.1 q.1.1=some z):
 Gs (dK P T n) vc c (ag k) (Fb st.heap id) (Vl st.heap id (cds k).length es) p.1.2 q.1.2=some z:=by
 unfold aGp at h;have u:=Hw g f<|.blk (cds k).length<|es++[List.replicate (cds k).length .undef];have j:(Vl st.heap id (cds k).length es).length=S.hp.length:=by simp[Vl,g.hp.ln]
 let⟨a,o,tv,w,r,x,m,s⟩:=Gz (N:=0) (S:=⟨[],(wA id S).hp⟩) (st:=⟨[],Vl st.heap id (cds k).length es⟩) (aw:=vL (ag k) p.1.2::vL (ag k) q.1.2::c) (by rw[j];exact Nat.le_refl _) ⟨rfl,λt v h=>(by cases h),u.hp⟩
  (show Qc (wA id S).hp (val k p.1.1::val k q.1.1::caps.map (Ky [id])) _ from⟨LV p.2,LV q.2,l.mapL λ_ _ q=>zI u7 q⟩) e h
 refine aDn d ⟨o,?_⟩;rw[j,r,mN s m]
theorem NA{fl k:Nat}{v:TV}{p:Nat×List (den k)}(h:Z1 fl H k v=some p): v=.ms p.1 none/\fl<=p.1/\H[p.1]?=some (.lst k p.2):=by
 unfold Z1 at h;split at h
 .split at h
  .cases h
  .split at h
   .cases h
   .rename_i c;split at h
    .rename_i o d;split at h
     .split at h
      .rename_i f a;let⟨e,a⟩:=mD (F:=λk=>List<|den k) a;subst e;subst a;cases h;exact⟨rfl,Nat.le_of_ble_eq_true c,d⟩
      .cases h
     .cases h
    .cases h
 .cases h
theorem aC0{k id:Nat}{v:TV}{z:den k}{a:AV}(m:Qs H A)(q:Qh H v a)(h:aFu H k id v=some z):
 ∃row,(∃id2,id≠id2/\a=.ms id2 1 0 1/\A[id2]?=some (.blk (cds k).length [row]))/\Qr (iH k z) row:=by
 unfold aFu at h;split at h
 .split at h
  .rename_i p l;split at h
   .cases h
   .rename_i c;let⟨id2,i⟩:=p;let⟨e,_,g⟩:=NA l;rw[e] at q;split at h
    .rename_i r d;cases h;have d:i=[z]:=d;subst d;let⟨b,n,f⟩:=m.lst g;obtain⟨row,rfl⟩:∃row,b=[row]:=by
      match b,f with
      | [row],_=>exact⟨row,rfl⟩
     exact⟨row,⟨id2,Nat.ne_of_beq_eq_false c,q.mw g,n⟩,f.1⟩
    .cases h
  .cases h
 .cases h
theorem aFi[aB]{vi:Nat}{p:PSp}{vs:List TV}{aw:List AV}(G:POK T vi p)(hE:∀vi c,E.cs vi=some c->PG P T vi c)(a3:∀sp∈E.il,IOK P T sp)(t:Qt N S st)(q:Qc S.hp vs aw)(h:U4 E n p vs S K=some r):
 ∃v L tv D,dK P T (n+1) E.fl vi aw st.heap=some (v,L)/\Qt N D ⟨st.tmps,L⟩/\Qh D.hp tv v/\K tv D=some r:=by
 unfold U4 at h;split at h
 .rename_i k;split at h
  .rename_i x f;obtain⟨b,J,rfl⟩:∃b J,aw=[b,J]:=by
    match aw,q with
    | [b,J],q=>exact⟨b,J,rfl⟩
   split at h
   .rename_i id m
    .split at h
     .cases h
     .rename_i a;have a:=Nat.le_of_ble_eq_true a;split at h
      .rename_i o d;split at h
       .rename_i k' l;split at h
        .rename_i O C;let⟨e,C⟩:=mD (F:=λk=>List<|den k) C;subst e;subst C;have X:=(List.getElem?_eq_some_iff.1 d).1;have a2:=q.1.mw d;have Q:∀{F:den k'->den k'->Option Int} {vc:Nat} {caps:List AV},J=.fn vc caps->(∀(p q:RR k') (es:List<|List AV) (z:Int),F p.1.1 q.1.1=some z->Gs (dK P T n) vc caps (ag k') (Fb st.heap id) (Vl st.heap id (cds k').length es) p.1.2 q.1.2=some z)->
          aBF F m O (λw=>K (.tup [])<|gO S id<|.lst k' w)=some r->
          ∃v L tv D,dK P T (n+1) E.fl vi [b,J] st.heap=some (v,L)/\Qt N D ⟨st.tmps,L⟩/\Qh D.hp tv v/\K tv D=some r:=by
          intro F vc caps u hF h;let⟨w,s,hw,M,h,b2⟩:=aBE h;let⟨es',e1,e2⟩:=aBK a G t d M hw a2 u hF s;have V:HM S.hp<|S.hp.set id<|.lst k'<|aU O (xQ O m).1 w:=HM.set λk2 l2 e=>by
           rw[d] at e;cases e;exact⟨k',_,rfl,b2⟩
          exact⟨_,_,.tup [],gO S id<|.lst k'<|aU O (xQ O m).1 w,e1,t.hpM V<|t.hp.set V ⟨es',rfl,e2⟩,Qh.mkT (cs:=[]) (aw:=[]) trivial,h⟩
         split at h
         .rename_i vc caps;let⟨b1,u,hq⟩:=q.2.1.inF;split at h
          .split at h
           .rename_i c I;cases b1 with
            | cons=>exact hq.elim
            | nil=>exact Q u (λp q es z R=>aDo (hE _ _ I) t X R) h
           .cases h
          .rename_i c0 r0;refine Q u (λp q es z R=>aDp a3 t X hq (λe=>?_) R) h;subst e;exact hq.elim
         .cases h
        .cases h
       .cases h
      .cases h
   .cases h
  .cases h
 .rename_i k F;let⟨g,hg,G⟩:=G;split at h
  .rename_i x;obtain⟨b,rfl⟩:∃b,aw=[b]:=by
    match aw,q with
    | [b],q=>exact⟨b,rfl⟩
   split at h
   .rename_i p hx;let⟨id,l⟩:=p;obtain⟨rfl,a,d⟩:=NA hx;let⟨_,M,h⟩:=aV h;let⟨es,g1,A⟩:=t.hp.lst d;let⟨es',Z,k2,k3⟩:=G E.fl st.heap id l es a g1 A<|of_decide_eq_true<|iU M;have V:HM S.hp<|S.hp.set id<|.lst k<|F l:=HM.set λk2 l2 e=>by rw[d] at e;cases e;exact⟨k,_,rfl,k3⟩
    refine⟨_,_,.tup [],gO S id<|.lst k<|F l,?_,t.hpM V<|t.hp.set V ⟨es',rfl,k2⟩,Qh.mkT (cs:=[]) (aw:=[]) trivial,h⟩;rw[dK,hg,q.1.mw d];exact Z
   .cases h
  .cases h
 .rename_i k;let⟨g,hg,G⟩:=G;split at h
  .rename_i x i y;obtain⟨b,Y,U,rfl⟩:∃b Y U,aw=[b,Y,U]:=by
    match aw,q with
    | [b,Y,U],q=>exact⟨b,Y,U,rfl⟩
   split at h
   .rename_i p hx;let⟨id,l⟩:=p;obtain⟨rfl,a,d⟩:=NA hx;split at h
    .rename_i j hj;split at h
     .rename_i z R;let⟨l',s,h⟩:=aV h;unfold aHL at s;split at s
      .rename_i I;cases s;let⟨es,g1,A⟩:=t.hp.lst d;let⟨row,hy,B⟩:=aC0 t.hp q.2.2.1 R;have Z:=G E.fl st.heap id U j.toNat es row a hy g1 (by rw[B.len,mC]) (by rw[A.len];exact I.2.1) (by rw[A.len];exact I.2.2);refine⟨.ms id (es.length+1) 0<|es.length+1,st.heap.set id<|.blk (cds k).length (es.take j.toNat++row::es.drop j.toNat),.ms id none,hP id<|gO S id<|.lst k (l.take j.toNat++z::l.drop j.toNat),?_,Oq t d λH=>⟨_,rfl,(A.take _).app ⟨B,A.drop _⟩⟩,?_,h⟩
       .rw[dK,hg,q.1.mw d,mN hj q.2.1];have e:((j.toNat:Nat):Int)=j:=Int.toNat_of_nonneg I.1;rw[e] at Z;simp only[xQ];have g0:l.length=es.length:=A.len.symm;rw[g0];exact Z
       .have:=Qh.ms (H:=(hP id<|gO S id<|.lst k (l.take j.toNat++z::l.drop j.toNat)).hp) id k (l.take j.toNat++z::l.drop j.toNat) (by simp[hP,gO,List.getElem?_map,(List.getElem?_eq_some_iff.1 d).1,zH]);have M:(l.take j.toNat++z::l.drop j.toNat).length=es.length+1:=by
         have g0:es.length=l.length:=A.len;have c2:j.toNat<=l.length:=I.2.1;simp only[List.length_append,List.length_take,List.length_cons,List.length_drop];omega
        rw[M] at this;exact this
      .cases s
     .cases h
    .cases h
   .cases h
  .cases h
 .cases h
end
section
variable [cX]{R:Type}{H H1:TH}{A:aM}{N:Nat}{S:TS}{st:St}{P:Program}{T:List bK}{cf:CF}{op:xP}{K:TV->TS->Option R}{r:R}{E:XE}{n:Nat}{d:Option Nat}
theorem UX[aB]{vi:Nat}{vs:List TV}{aw:List AV}(d:GL P T E)(c:Qt N S st)(q:Qc S.hp vs aw)(h:(match Nat.ble E.fl S.hp.length with | true=>vG n E.fl vi vs S K E.il | false=>none)=some r):
 ∃v b tv a,dK P T n E.fl vi aw st.heap=some (v,b)/\Qt N a ⟨st.tmps,b⟩/\Qh a.hp tv v/\K tv a=some r:=by
 split at h
 .rename_i e;exact Gz (by rw[c.hp.ln];exact Nat.le_of_ble_eq_true e) c q d.il h
 .cases h
theorem aGu[aB]{pu:Bool}{vi:Nat}{f:List aQ}(b:GL P T E)(a:Qt N S st)(h:bY E n d (.call pu vi f) S K=some r): cL P (dK P T n) E.fl N (.call pu vi f) st K r:=by
 simp only[bY] at h;split at h
 .split at h
  .rename_i c l;let⟨v,tv,j,o,i⟩:=aEy (b.cs vi c l) a h;exact cL.same a j o i
  .cases h
 .split at h
  .rename_i p g;let⟨m,k,h⟩:=aV h;have e:=U5 k;subst e;exact aFi (b.pr vi p g) b.cs b.il a (DX a f) h
  .exact UX b a (DX a f) h
theorem aC5{v:TV}{a:AV}(q:Qh H v a): Qh H (aFw v)<|Om a:=by
 cases v with
 | agg cs=>
  obtain⟨aw,rfl,d⟩:=q.inA;exact Qh.mkA (d.map λc b q=>by
   cases c with
   | agg cs=>obtain⟨aw,rfl,_⟩:=q.inA;exact q
   | _=>exact MT q λcs e=>by cases e)
 | undef=>exact Qh.u _
 | _=>
  have:=MT q (λcs e=>by cases e);cases a with
  | agg=>
   cases q with
   | p _ _ q=>cases q<;>simp_all
  | _=>exact this
theorem aEW{v:TV}{a:AV}(q:Qh H v a)(h:aAa v=true): pO a=false:=by
 cases v with
 | ptr=>rw[q.ptr1];rfl
 | pel=>let⟨_,_,_,_,_,e⟩:=q.pel1;rw[e];rfl
 | ms id m=>
  cases q with
  | p _ _ q=>cases q
  | ms=>rfl
  | msn=>rfl
 | mp=>rw[q.mp1];rfl
 | rs=>rw[q.rs1];rfl
 | rel=>rw[q.rel1];rfl
 | _=>cases h
theorem Ez: ∀{vs:List TV} {aw:List AV},Qc H vs aw->vs.any aAa=true->fO aw=false
 | [],_,_,h=>by cases h
 | v::vs,a::aw,q,h=>by
  simp only[List.any_cons,Bool.or_eq_true] at h;simp only[fO];rcases h with h | h
  .rw[aEW q.1 h]
  .cases pO a with
   | true=>exact Ez q.2 h
   | false=>rfl
theorem aD1[aB]{pu:Bool}{x:aQ}{m:List aQ}(z:GL P T E)(b:Qt N S st)(h:bY E n d (.callv pu x m) S K=some r): cL P (dK P T n) E.fl N (.callv pu x m) st K r:=by
 have q:=b.get x;simp only[bY] at h;split at h
 .rename_i vi caps G;rw[G] at q;let⟨j,o,y⟩:=q.inF;split at h
  .split at h
   .split at h
    .rename_i c D;cases j with
     | cons=>exact y.elim
     | nil=>
      let⟨v,tv,i,s,t⟩:=aEy (z.cs vi c D) b h;refine cL.same b ?_ s t;simp only[aI,o,List.append_nil];exact i
    .cases h
   .rename_i c0 I;unfold aEx at h;split at h
    .rename_i A;have w:=(DX b m).app y;let⟨a,C,tv,B,i,s,t,g⟩:=Gz (aw:=(m.map (aC st.tmps)++j).map Om) (by rw[b.hp.ln];exact Nat.le_refl _) b (w.map λ_ _ q=>aC5 q) z.il h;split at g
     .rename_i u;split at g
      .cases g
      .rename_i F;have e:=t.inL;subst e;refine cL.same (v:=.lit u) b ?_ (Qh.l _) g;simp only[aI,o,kR,Ez w A];rw[b.hp.ln,i];cases u<;>first | rfl | exact absurd rfl (F _ _ _)
     .rename_i k l;let⟨es,H,e2⟩:=(t.pu trivial).inS;refine cL.same (v:=.sl false es) b ?_ (.p _ _<|Qp.mkS (.inr ⟨_,rfl⟩) e2) g;simp only[aI,o,kR,Ez w A];rw[b.hp.ln,i];rcases H with⟨rfl,rfl⟩ | ⟨f,rfl⟩<;>rfl
     .cases g
    .cases h
  .let⟨v,C,tv,B,i,s⟩:=UX z b ((DX b m).app y) h;exact⟨v,C,tv,B,by simp only[aI,o];exact i,s⟩
 .cases h
theorem TD{v:TV}(h:NH v=true): v=.lit aZ:=by
 unfold NH at h;repeat' split at h
 all_goals first | (cases h;done) | rfl
theorem aGx[aB]{x:aQ}{a:List<|Nat×Nat}(s:Qt N S st)(h:bY E n d (.boxC x a) S K=some r): cL P cf E.fl N (.boxC x a) st K r:=by
 simp only[bY] at h;split at h
 .rename_i d';split at h
  .rename_i t;split at h
   rotate_left
   .cases h
   rename_i z Z;split at h
   rotate_left
   .cases h
   rename_i nz;let⟨zw,zf,ze⟩:=Ac Z<|s.get x;have nw:JN zw a=true:=by
    refine List.all_eq_true.2 λc hc=>?_;have w:=List.all_eq_true.1 nz c hc;split at w
    .rename_i v hv;let⟨y,hy,O⟩:=ze.get hv;rw[TD w] at O;rw[hy,O.inL];rfl
    .cases w
   have p:∀{a:List<|Nat×Nat},HN E d' a=true->∀c∈a,(cds<|VQ E d' c.1).length=c.2:=by
    intro a;induction a with
    | nil=>intro _ c x;cases x
    | cons c a j=>
     intro h c' m;simp only[HN] at h;split at h
     .rename_i e;rcases List.mem_cons.1 m with rfl | m
      .exact Nat.eq_of_beq_eq_true e
      .exact j h c' m
     .cases h
   let H1:TH:=S.hp++a.map λc=>lO.lst (VQ E d' c.1) [];let g:TH:=H1++[.box<|lM S.hp.length z a];have o:HM S.hp g:=λi k l u=>⟨k,l,by
    have:=(List.getElem?_eq_some_iff.1 u).1;rw[List.getElem?_append_left<|by simp[H1];omega,List.getElem?_append_left this];exact u,rfl⟩
   have B:bO (Qo g) (a.map λc=>lO.lst (VQ E d' c.1) [])<|a.map λc=>cN.blk c.2 []:=by
    have:=p t;clear h t nz nw;generalize g=g at *;clear o;induction a with
    | nil=>trivial
    | cons c a j=>exact⟨⟨[],by rw[this c List.mem_cons_self],trivial⟩,j λc' h=>this c'<|List.mem_cons_of_mem _ h⟩
   have A:∀(b f:List<|Nat×Nat) (cs:List TV) (aw:List AV),a=b++f->Qc g cs aw->Qc g (lM (S.hp.length+b.length) cs f) (cV (S.hp.length+b.length) aw f):=by
    intro b f;induction f generalizing b with
    | nil=>intro cs aw _ q;exact q
    | cons c f j=>
     intro cs aw e q;have w:Qh g (.ms (S.hp.length+b.length) none)<|.ms (S.hp.length+b.length) 0 0 0:=by
      refine .ms _ (VQ E d' c.1) [] ?_;rw[List.getElem?_append_left<|by simp[H1,e],List.getElem?_append_right<|Nat.le_add_right _ _,Nat.add_sub_cancel_left,e];simp
     have:=j (b++[c]) (cs.set c.1<|.ms (S.hp.length+b.length) none) (aw.set c.1<|.ms (S.hp.length+b.length) 0 0 0) (by rw[e];simp)<|q.set c.1 w;rw[List.length_append,List.length_singleton] at this;exact this
   have v:=A [] a z zw rfl<|ze.imp λ_ _ h=>h.mono o;have C:(lM S.hp.length z a).length=z.length:=by
    have:∀(a:List<|Nat×Nat) (n:Nat) (cs:List TV),(lM n cs a).length=cs.length:=by
     intro a;induction a with
     | nil=>intro n cs;rfl
     | cons c a j=>intro n cs;simp[lM,j]
    exact this _ _ _
   have e2:st.heap.length=S.hp.length:=s.hp.ln;refine⟨.ptr (st.heap.length+a.length) 1 0 0,_,.ptr (S.hp.length+a.length) 0,⟨S.tm,g⟩,by simp only[aI,zf,nw];rfl,s.hpM o ?_,by rw[e2];exact .ptr _ _,h⟩;refine bO.app (bO.app (s.hp.imp λ_ _ h=>h.mono o) B) ⟨⟨cV st.heap.length zw a,by rw[C,ze.len],by rw[e2];exact v⟩,trivial⟩
  .cases h
 .cases h
theorem aAN[aB]{z0:List Value}{ps:List<|Nat×Nat×aQ}{a:List<|Nat×Nat}(s:Qt N S st)(h:bY E n d (.buildC z0 ps a) S K=some r): cL P cf E.fl N (.buildC z0 ps a) st K r:=by
 simp only[bY] at h;split at h
 .rename_i d';split at h
  .rename_i t;split at h
   rotate_left
   .cases h
   rename_i z Z;split at h
   rotate_left
   .cases h
   rename_i nz;let⟨zw,zf,ze⟩:=EI s Z<|Qc.lits z0;have nw:JN zw a=true:=by
    refine List.all_eq_true.2 λc hc=>?_;have w:=List.all_eq_true.1 nz c hc;split at w
    .rename_i v hv;let⟨y,hy,O⟩:=ze.get hv;rw[TD w] at O;rw[hy,O.inL];rfl
    .cases w
   have p:∀{a:List<|Nat×Nat},HN E d' a=true->∀c∈a,(cds<|VQ E d' c.1).length=c.2:=by
    intro a;induction a with
    | nil=>intro _ c x;cases x
    | cons c a j=>
     intro h c' m;simp only[HN] at h;split at h
     .rename_i e;rcases List.mem_cons.1 m with rfl | m
      .exact Nat.eq_of_beq_eq_true e
      .exact j h c' m
     .cases h
   let H1:TH:=S.hp++a.map λc=>lO.lst (VQ E d' c.1) [];let g:TH:=H1;have o:HM S.hp g:=λi k l u=>⟨k,l,by
    have:=(List.getElem?_eq_some_iff.1 u).1;rw[List.getElem?_append_left this];exact u,rfl⟩
   have B:bO (Qo g) (a.map λc=>lO.lst (VQ E d' c.1) [])<|a.map λc=>cN.blk c.2 []:=by
    have:=p t;clear h t nz nw;generalize g=g at *;clear o;induction a with
    | nil=>trivial
    | cons c a j=>exact⟨⟨[],by rw[this c List.mem_cons_self],trivial⟩,j λc' h=>this c'<|List.mem_cons_of_mem _ h⟩
   have A:∀(b f:List<|Nat×Nat) (cs:List TV) (aw:List AV),a=b++f->Qc g cs aw->Qc g (lM (S.hp.length+b.length) cs f) (cV (S.hp.length+b.length) aw f):=by
    intro b f;induction f generalizing b with
    | nil=>intro cs aw _ q;exact q
    | cons c f j=>
     intro cs aw e q;have w:Qh g (.ms (S.hp.length+b.length) none)<|.ms (S.hp.length+b.length) 0 0 0:=by
      refine .ms _ (VQ E d' c.1) [] ?_;rw[List.getElem?_append_right<|Nat.le_add_right _ _,Nat.add_sub_cancel_left,e];simp
     have:=j (b++[c]) (cs.set c.1<|.ms (S.hp.length+b.length) none) (aw.set c.1<|.ms (S.hp.length+b.length) 0 0 0) (by rw[e];simp)<|q.set c.1 w;rw[List.length_append,List.length_singleton] at this;exact this
   have v:=A [] a z zw rfl<|ze.imp λ_ _ h=>h.mono o
   have e2:st.heap.length=S.hp.length:=s.hp.ln;refine⟨.agg (cV st.heap.length zw a),_,.agg (lM S.hp.length z a),⟨S.tm,g⟩,by simp only[aI,zf,nw];rfl,s.hpM o ?_,by rw[e2];exact Qh.mkA v,h⟩;exact bO.app (s.hp.imp λ_ _ h=>h.mono o) B
  .cases h
 .cases h
theorem aAW[aB]{z:List Value}{a:List<|Nat×Nat}(s:Qt N S st)(h:bY E n d (.allocC z a) S K=some r): cL P cf E.fl N (.allocC z a) st K r:=by
 simp only[bY] at h;split at h
 .rename_i d';split at h
  .rename_i t;have p:∀{a:List<|Nat×Nat},HN E d' a=true->∀c∈a,(cds<|VQ E d' c.1).length=c.2:=by
    intro a;induction a with
    | nil=>intro _ c x;cases x
    | cons c a j=>
     intro h c' m;simp only[HN] at h;split at h
     .rename_i e;rcases List.mem_cons.1 m with rfl | m
      .exact Nat.eq_of_beq_eq_true e
      .exact j h c' m
     .cases h
   let H1:TH:=S.hp++a.map λc=>lO.lst (VQ E d' c.1) [];let g:TH:=H1++[.box<|lM S.hp.length (z.map .lit) a];have o:HM S.hp g:=λi k l u=>⟨k,l,by
    have:=(List.getElem?_eq_some_iff.1 u).1;rw[List.getElem?_append_left<|by simp[H1];omega,List.getElem?_append_left this];exact u,rfl⟩
   have B:bO (Qo g) (a.map λc=>lO.lst (VQ E d' c.1) [])<|a.map λc=>cN.blk c.2 []:=by
    have:=p t;clear h t;generalize g=g at *;clear o;induction a with
    | nil=>trivial
    | cons c a j=>exact⟨⟨[],by rw[this c List.mem_cons_self],trivial⟩,j λc' h=>this c'<|List.mem_cons_of_mem _ h⟩
   have A:∀(b f:List<|Nat×Nat) (cs:List TV) (aw:List AV),a=b++f->Qc g cs aw->Qc g (lM (S.hp.length+b.length) cs f) (cV (S.hp.length+b.length) aw f):=by
    intro b f;induction f generalizing b with
    | nil=>intro cs aw _ q;exact q
    | cons c f j=>
     intro cs aw e q;have w:Qh g (.ms (S.hp.length+b.length) none)<|.ms (S.hp.length+b.length) 0 0 0:=by
      refine .ms _ (VQ E d' c.1) [] ?_;rw[List.getElem?_append_left<|by simp[H1,e],List.getElem?_append_right<|Nat.le_add_right _ _,Nat.add_sub_cancel_left,e];simp
     have:=j (b++[c]) (cs.set c.1<|.ms (S.hp.length+b.length) none) (aw.set c.1<|.ms (S.hp.length+b.length) 0 0 0) (by rw[e];simp)<|q.set c.1 w;rw[List.length_append,List.length_singleton] at this;exact this
   have v:=A [] a (z.map .lit) (z.map .lit) rfl<|Qc.lits z;have C:(lM S.hp.length (z.map .lit) a).length=z.length:=by
    have:∀(a:List<|Nat×Nat) (n:Nat) (cs:List TV),(lM n cs a).length=cs.length:=by
     intro a;induction a with
     | nil=>intro n cs;rfl
     | cons c a j=>intro n cs;simp[lM,j]
    rw[this];simp
   have e2:st.heap.length=S.hp.length:=s.hp.ln;refine⟨.ptr (st.heap.length+a.length) 1 0 0,_,.ptr (S.hp.length+a.length) 0,⟨S.tm,g⟩,rfl,s.hpM o ?_,by rw[e2];exact .ptr _ _,h⟩;refine bO.app (bO.app (s.hp.imp λ_ _ h=>h.mono o) B) ⟨⟨cV st.heap.length (z.map .lit) a,by rw[C],by rw[e2];exact v⟩,trivial⟩
  .cases h
 .cases h
theorem Xm{α:Type}{s:Nat}: ∀(n:Nat) {l:List α},l.length=n*s->(oL s n l).flatten=l/\(oL s n l).length=n/\∀e∈oL s n l,e.length=s
 | 0,l,h=>by
  rw[Nat.zero_mul] at h;have:=List.length_eq_zero_iff.1 h;subst this;exact⟨rfl,rfl,λe h=>by cases h⟩
 | n+1,l,h=>by
  rw[Nat.succ_mul] at h;let⟨a,b,c⟩:=Xm (s:=s) n (l:=l.drop s) (by rw[List.length_drop];omega);refine⟨by simp only[oL,List.flatten_cons,a,List.take_append_drop],by simp[oL,b],λe he=>?_⟩;simp only[oL] at he;rcases List.mem_cons.1 he with rfl | he
  .rw[List.length_take];omega
  .exact c e he
theorem F2{k:Nat}: ∀{cs:List<|List TV} {l:List<|den k} {es:List<|List AV},uB [] k cs=some l->bO (Qc H) cs es->Ql k l es:=Zr
theorem aCW[aB]{agg:Bool}{s m:Nat}{x i:aQ}(g:Qt N S st)(h:bY E n d (.index agg s m x i) S K=some r): cL P cf E.fl N (.index agg s m x i) st K r:=by
 have q:=g.get x;simp only[bY] at h;split at h
 .rename_i cs I;rw[I] at q;let⟨aw,G,y⟩:=q.inA;split at h
  .cases h
  .rename_i f;have f:=Nat.eq_of_beq_eq_true f;split at h
   .cases h
   .rename_i j D;split at h
    .cases h
    .split at h
     .split at h
      .rename_i H;split at h
       .rename_i a;have a:H<m:=by simpa [Nat.blt_eq] using a
        let⟨U,tv,v,b,T,M⟩:=CS h y;have z:fA (aC st.tmps i)=some H:=oB D (g.get i)<|Int.natCast_nonneg _;refine cL.same g ?_ T M;simp only[aI,z,a,if_true,G];rw[if_pos U];cases agg with
        | true=>simp only[if_true,Option.some.injEq] at b |-;rw[b]
        | false=>
         simp only[Bool.false_eq_true,if_false] at b |-;split at b
         .rename_i V;rw[V];cases b;rfl
         .cases b
       .cases h
      .cases h
     .rename_i k _;split at h
      .split at h
       .rename_i F;have F:=Nat.eq_of_beq_eq_true F;split at h
        .rename_i l B;let⟨X,C,h⟩:=aV h;let⟨R,L,W⟩:=kE C;have o:aw.length=m*s:=by rw[y.len,f]
         let⟨Z,J,Y⟩:=Xm m o;have t:bO (Qc S.hp) (oL s m cs)<|oL s m aw:=by
          have:∀(m:Nat) (cs:List TV) (aw:List AV),Qc S.hp cs aw->bO (Qc S.hp) (oL s m cs) (oL s m aw):=by
           intro m;induction m with
           | zero=>intro _ _ _;trivial
           | succ m u=>intro cs aw q;exact⟨q.take s,u _ _<|q.drop s⟩
          exact this m cs aw y
         have e:Ql k l<|oL s m aw:=F2 B t;let⟨row,Q,O⟩:=e.get L;refine cL.same (v:=.agg row) g ?_ (Qh.mkA O.c) h;have z:fA (aC st.tmps i)=some j.toNat:=oB D (g.get i) R;have a:j.toNat<m:=by rw[<-J,e.len];exact W
         have A:∀(m:Nat) (aw:List AV) (j:Nat) (row:List AV),aw.length=m*s->(oL s m aw)[j]?=some row->(aw.drop<|j*s).take s=row/\j*s+s<=aw.length:=by
          intro m;induction m with
          | zero=>intro aw j row _ h;simp[oL] at h
          | succ m u=>
           intro aw j row f h;rw[Nat.succ_mul] at f;cases j with
           | zero=>simp only[oL,List.getElem?_cons_zero,Option.some.injEq] at h;rw[Nat.zero_mul];exact⟨h,by omega⟩
           | succ j=>
            simp only[oL,List.getElem?_cons_succ] at h;let⟨p,w⟩:=u (aw.drop s) j row (by rw[List.length_drop];omega) h;rw[List.drop_drop] at p;rw[List.length_drop] at w;rw[Nat.succ_mul,Nat.add_comm (j*s) s];exact⟨p,by omega⟩
         let⟨p,w⟩:=A m aw j.toNat row o Q;simp only[aI,z,a,if_true,G];rw[if_pos w,p]
        .cases h
       .cases h
      .cases h
 .cases h
theorem E6{A:aM}{a:AV}{w:Value}(h:dS A 0 a=.lit w): a=.lit w:=by
 cases a with
 | lit v=>
  have h:sS v=.lit w:=h;unfold sS at h;split at h
  .split at h
   .split at h
    .split at h
     .cases h
     .exact h
    .exact h
   .exact h
  .exact h
 | ms id tot off len=>
  simp only[dS,gC,Nat.not_lt_zero,if_false,eZ,dZ,Nat.zero_le,if_true] at h;split at h<;>cases h
 | mp id=>
  simp only[dS,gC,Nat.not_lt_zero,if_false,eZ,dZ,Nat.zero_le,if_true] at h;split at h<;>cases h
 | ptr=>simp[dS,gC] at h
 | fn vi caps=>cases caps<;>cases h
 | _=>cases h
theorem aFe{w k k':Nat}{u:TV}{x:den k}(b:cds k=[.sl k'])(d:ag k=false)(h:Zq w H k u=some x): ∃y,MG w H k' u=some y/\val k x=.sl k' y:=by
 unfold Zq at h;rw[d] at h;have h:jJ w H k [u]=some x:=h;unfold jJ at h;split at h
 .rename_i p a;cases h;have c:∀(cs:List Cd) (p:Ik cs),cs=[.sl k']->rdL w H cs [u]=some p->∃y,MG w H k' u=some y/\hdT (lN cs p)=.sl k' y:=by
   intro cs p e a;subst e;simp only[rdL] at a;split at a
   .rename_i y f;cases a;exact⟨y,f,rfl⟩
   .cases a
  let⟨y,j,i⟩:=c _ p b a;refine⟨y,j,?_⟩;unfold val iH;rw[d,cX.un_pk];exact i
 .cases h
theorem Z7{s k':Nat}{u:TV}{y:List<|den k'}{p:AV}{x:List TV}{i:aM}{H':TH}(g:(cds k').length=s)(C:Qs H' i)(q:Qh H' u p)(a:Ww H' (u::x)=true)(b:MG 2 H' k' u=some y): ∃rows,Wi s i p=some rows/\Ql k' y rows:=by
 cases u with
 | ms id m=>
  simp only[Ww] at a;split at a
  .rename_i o h;split at a
   .rename_i G f;have j:xQ f m=(0,f.length):=by
     cases m with
     | none=>rfl
     | some w=>exact of_decide_eq_true a
    have d:B7 f m=f:=by rw[Zi,j];simp
    have b:Gx (λk=>List<|den k) (k':=k') f=some y:=by
     simp only[MG,h,d] at b;exact b
    let⟨e,b⟩:=mD (F:=λk=>List<|den k) b;subst e;subst b;let⟨es,A,l⟩:=C.lst h;have n:=q.mw h;rw[j] at n;subst n;refine⟨es.map λe=>e.map<|dZ (i.set id<|.blk s<|es++[List.replicate s .undef]) 0 eZ,?_,(zE _ 0 _).ls l⟩;have r:Nat.beq y.length y.length=true:=Nat.beq_refl _;have B:Nat.beq es.length y.length=true:=by rw[l.len];exact r
    have t:Nat.beq s s=true:=Nat.beq_refl _;have z:Nat.beq 0 0=true:=rfl;simp only[Wi,r,z,A,B,g,t,Bool.and_self]
   .cases a
  .cases a
 | lit v=>
  simp only[Ww] at a;split at a
  .split at a
   .split at a
    .split at a
     .rw[q.inL];cases b;exact⟨[],rfl,trivial⟩
     .cases a
    .cases a
   .cases a
  .cases a
 | _=>cases a
theorem SR: ∀{vs:List TV} {aw:List AV} {b:aM},(vs.all λv=>match v with | .lit _=>true | _=>false)=true->Qc H vs (aw.map<|dS b 0)->aw.all aAd=true/\Qc H vs aw
 | [],[],_,_,_=>⟨rfl,trivial⟩
 | v::vs,a::aw,b,h,q=>by
  simp only[List.all_cons,Bool.and_eq_true] at h;let⟨d,e⟩:=SR h.2 q.2;cases v with
  | lit w=>
   have:=E6 q.1.inL;subst this;exact⟨by simp[aAd,d],Qh.l _,e⟩
  | _=>cases h.1
theorem aEH{k k':Nat}(a:cds k=[.sl k'])(b:ag k=false)(x:den k): ∃y,val k x=.sl k' y:=by
 unfold val;rw[b];unfold iH;generalize cX.un k x=p;revert p;rw[a];exact λp=>⟨p.1,rfl⟩
def kpB(kp:Bool)(kr:List Nat): Bool:=match kp with
 | false=>true
 | true=>match kr with
  | k::_=>match cds k with
   | [c]=>match c with
    | .sl _=>!(ag k)
    | _=>false
   | _=>false
  | []=>false
theorem PG.of0[aB]{P:Program}{T:List bK}{vi:Nat}{c:ZN}(h:aIC P T vi c)(b:kpB c.kp c.kr=true): PG P T vi c:=by
 intro n p r i aw F;let⟨o,d,H,H',I,t,g,a,l⟩:=h n p r i aw F;refine⟨d,H,I,λH1=>(aHm a g t).1,(aHm (H1:=[]) a g t).2,λe=>?_⟩;have l:=l e;rw[e] at b;intro J y s f;clear h e i;revert r a f;generalize c.kr=A at b;intro r a f;cases A with
 | nil=>cases b
 | cons k j=>
  simp only[kpB] at b;split at b
  .rename_i c' q;split at b
   .rename_i k';have b:ag k=false:=by simpa using b
    cases o with
    | nil=>cases l
    | cons u o=>
    match d,g with
    | C::d,g=>
    replace a:yA 2 H' (.v k::j.map .v) (u::o)=some r:=a;simp only[yA] at a;split at a
    .rename_i w m;split at a
     .rename_i p' G;cases a;let⟨z,E,D⟩:=aFe q b m;let⟨rows,i,x⟩:=Z7 rfl t g.1 l E;have B:Dh (.v k::j.map .v) (fJ.cs w p')=.sl k' z::Dh (j.map .v) p':=by
       simp only[Dh,fJ.hc,fJ.tc];congr 1
      have f:Dh (.v k::j.map .v) (fJ.cs w p')=.sl J y::s:=f;rw[B] at f;cases f;exact⟨C,d,rows,rfl,i,x⟩
     .cases a
    .cases a
   .cases b
  .cases b
theorem aCP[aB]{s vi k k':Nat}{j:List Nat}{M:List aQ}{z:List Nat}{x:fJ<|z.map .v}{c:List AV}{p:aM}(Q:Qt N S st)(C:z=k::j)(F:cds k=[.sl k'])(B:(cds k').length=s)(hg:ag k=false)(D:dK P T n 0 vi ((M.map<|aC st.tmps).map<|eK st.heap) []=some (eH c,p))(f:∀H1:TH,Qc H1 (Dh (z.map .v) x)<|c.map<|dS p 0)(O:∀a∈c,∀l,a≠.tup l)(U:aI8 p (Dh (z.map .v) x) c)(h:(match Dh (z.map .v) x with | [v]=>DP v S K | vs=>DP (.tup vs) S K)=some r): cL P (dK P T n) E.fl N (.callT s vi M) st K r:=by
 subst C;have f:=f S.hp;have L:Dh (.v k::j.map .v) x=val k (fJ.hd x)::Dh (j.map .v) (fJ.tl x):=rfl;let⟨y,Z⟩:=aEH F hg<|fJ.hd x;have H:Dh (.v k::j.map .v) x=.sl k' y::Dh (j.map .v) (fJ.tl x):=by rw[L,Z]
 let⟨i,w,rows,e0,G,R⟩:=U k' y _ H;subst e0;rw[B] at G;generalize a2:fJ.tl x=p' at H;have f:Qc S.hp (Dh (.v k::j.map .v) x)<|(i::w).map<|dS p 0:=f;have h:(match Dh (.v k::j.map .v) x with | [v]=>DP v S K | vs=>DP (.tup vs) S K)=some r:=h;rw[H] at f h;revert f h O D;generalize w=c;intro D O f h;have A:∀{tv:TV} {rv:AV} (rest:AV->AV) ,Kz s st.heap (some (eH (i::c),p))=some (rest<|.ms st.heap.length rows.length 0 rows.length,st.heap++[.blk s rows])->(∀H1:TH,HM S.hp H1->Qh H1 (.ms S.hp.length none) (.ms st.heap.length rows.length 0 rows.length)->Qh H1 tv (rest<|.ms st.heap.length rows.length 0 rows.length))->K tv (Ai S<|.lst k' y)=some r->cL P (dK P T n) E.fl N (.callT s vi M) st K r:=by
  intro tv rv rest V I h;refine cL.add (o:=.lst k' y) (b:=.blk s rows) Q ?_ ⟨rows,by rw[B],R⟩ (I _ HM.add ?_) h
  .simp only[aI,D];exact V
  .rw[Q.hp.ln,R.len];exact .ms _ k' y<|by simp
 cases g:Dh (j.map .v) p' with
 | nil=>
  rw[g] at f h;have e:c=[]:=by
   cases c with
   | nil=>rfl
   | cons=>exact f.2.elim
  subst e;have ha:∀l,i≠.tup l:=O i List.mem_cons_self;refine A (rv:=i) (λa=>a) ?_ (λH1 _ q=>q) h;show Kz s st.heap (some (i,p))=_;cases i with
  | tup l=>exact (ha l rfl).elim
  | _=>simp only[Kz,G]
 | cons v vs=>
  rw[g] at f h;have h:DP (.tup (.sl k' y::v::vs)) S K=some r:=h;unfold DP at h;simp only at h;split at h
  .rename_i u;obtain⟨t,d,rfl⟩:∃t d,c=t::d:=by
    cases c with
    | nil=>exact f.2.elim
    | cons t d=>exact⟨t,d,rfl⟩
   let⟨Y,W⟩:=SR (vs:=v::vs) (aw:=t::d) u f.2;refine A (rv:=i) (λa=>.tup (a::t::d)) ?_ (λH1 m q=>Qh.mkT (cs:=.ms S.hp.length none::v::vs) ⟨q,W.imp λ_ _ h=>h.mono m⟩) h;show Kz s st.heap (some (.tup (i::t::d),p))=_;simp only[Kz,Y,G]
  .cases h
theorem aD2[aB]{s vi:Nat}{l:List aQ}(t:GL P T E)(i:Qt N S st)(h:bY E n d (.callT s vi l) S K=some r): cL P (dK P T n) E.fl N (.callT s vi l) st K r:=by
 simp only[bY] at h;split at h
 .rename_i c w;have D:=t.cs vi c w;split at h
  .rename_i j;split at h
   .rename_i k F f;split at h
    .rename_i e g;split at h
     .rename_i k';split at h
      .rename_i a;simp only[Bool.and_eq_true,Bool.not_eq_true'] at a;have b:=Nat.eq_of_beq_eq_true a.1;have y:=a.2;unfold Gy at h;split at h
       .rename_i p u;split at h
        .cases h
        .rename_i B;let⟨x,A,h⟩:=aV h;have C:=aAT (H1:=[]) B u (DX i l) i.hp;let⟨z,G,o,q,v,m⟩:=D n p x A _ C;exact aCP i f g b y o q v (m j)<|by rw[a8] at h;exact h
       .cases h
      .cases h
     .cases h
    .cases h
   .cases h
  .cases h
 .cases h
end
section
variable [cX]{R:Type}{H H1:TH}{A:aM}{N:Nat}{S:TS}{st:St}{P:Program}{T:List bK}{cf:CF}{op:xP}{K:TV->TS->Option R}{r:R}{E:XE}{n:Nat}{d:Option Nat}
theorem aAJ[aB]{vi l s bytes:Nat}{z:List Value}{G:aM}(h:getF T vi=some ⟨l,8,[.tmp 2],aAK s bytes z⟩)(m:0<s):
 dK P T (n+1) G.length vi [.lit aZ] G=some (.lit aZ,G)/\(∀a,(∃f,a=.sl f [])\/a=.vw []->dK P T (n+1) G.length vi [a] G=some (.sl false [],G)) /\
 ∀a e es,((∃f,a=.sl f (e::es))\/a=.vw (e::es))->cY s (e::es)=true->kO (e::es).length bytes=true->
  dK P T (n+1) G.length vi [a] G=some (.ms G.length (e::es).length 0 (e::es).length,G++[.blk s (e::es)]):=by
 have d:Nat.blt 3 8=true:=rfl;have c:Nat.blt 4 8=true:=rfl;have i:Nat.beq G.length G.length=true:=Nat.beq_refl _;refine⟨?_,?_,?_⟩
 .rw[EM _ h];simp[d,c,aAK,cH,eI,bE,bD,cO,aI,aC,Yk,vX,eL,Ga,YL,dM,sK,eH,Ht,aZ,aW]
 .intro a j;rw[EM _ h];have b:cC G.length G s bytes (.sl true []) []=some (.sl true [],G):=by simp[cC,cY,m,kO]
  rcases j with⟨f,rfl⟩ | rfl <;>
   simp[d,c,i,aAK,cH,eI,bE,bD,cO,aI,aC,Yk,vX,eL,Ga,rd,rdY,b,YL,dM,sK,eH,TB,La,t9,aA0,aZ,aW]
 .intro a e es j p o;rw[EM _ h];have b:cC G.length G s bytes (.sl true []) (e::es)=some (.ms G.length (e::es).length 0 (e::es).length,G++[.blk s (e::es)]):=by
   have k:cY s ([]:List<|List AV)=true:=rfl;unfold cC;have g:kO (([]:List<|List AV).length+(e::es).length) bytes=true:=by simpa using o
   rw[if_pos ⟨p,m,o⟩];simp only[k,g,and_self,if_true];simp
  generalize q:(e::es).length=L at b;rcases j with⟨f,rfl⟩ | rfl <;>
   simp[d,c,aAK,cH,eI,bE,bD,cO,aI,aC,Yk,vX,eL,Ga,rd,rdY,b,YL,dM,sK,eH,aZ,aW]
end
section
variable [cX]{R:Type}{H H1:TH}{A:aM}{N:Nat}{S:TS}{st:St}{P:Program}{T:List bK}{cf:CF}{op:xP}{K:TV->TS->Option R}{r:R}{E:XE}{n:Nat}{d:Option Nat}
theorem Ql.rep{k:Nat}{x:den k}{row:List AV}(h:Qr (iH k x) row): ∀n,Ql k (List.replicate n x) (List.replicate n row)
 | 0=>trivial
 | n+1=>⟨h,Ql.rep h n⟩
theorem BO{α:Type}{x:α}{a b:Int}{l:List α}(h:rep x a b=some l): 0<=a/\a<=b/\b<=1000000/\l=List.replicate a.toNat x:=by
 unfold rep at h;split at h
 .rename_i c;cases h;exact⟨c.1,c.2.1,c.2.2,rfl⟩
 .cases h
theorem Hv[aB]{x:aQ}{a:Int}(b:Qt N S st)(h:i64? (bR S.tm x)=some a)(c:0<=a): fA (aC st.tmps x)=some a.toNat:=by
 rw[mN h (b.get x)];simp[fA,c]
theorem H6[aB]{s bytes:Nat}{z:List Value}{x y:aQ}(f:Qt N S st)(h:bY E n d (.mkSlice s z bytes x y) S K=some r): cL P cf E.fl N (.mkSlice s z bytes x y) st K r:=by
 have j:=f.hp.ln;simp only[bY] at h;split at h
 .rename_i c;simp only[Bool.and_eq_true] at c;have A:=Nat.eq_of_beq_eq_true c.1;have e2:=Nat.eq_of_beq_eq_true c.2.1;have k:=Nat.le_of_ble_eq_true c.2.2;split at h
  .rename_i e u;have i:Qr (iH _ e) (z.map .lit):=iL (H':=S.hp) u (Qc.lits z);split at h
   .rename_i a m;split at h
    .rename_i b g;obtain⟨l,w,h⟩:=aV h;obtain⟨t,B,C,rfl⟩:=BO w;have q:=Hv f m t;have p:=Hv f g (by omega);have:=Nat.mul_le_mul (show b.toNat<=1000000 by omega) k;refine cL.add (v:=.ms st.heap.length a.toNat 0 a.toNat) (o:=.lst (gU E d) (List.replicate a.toNat e)) (b:=.blk s (List.replicate a.toNat (z.map .lit))) f ?_ ⟨_,by rw[A],Ql.rep i _⟩ ?_ h
     .simp only[aI,q,p];rw[if_pos ⟨by omega,by omega,by omega,e2⟩]
     .have:=Qh.ms (H:=S.hp++[.lst (gU E d) (List.replicate a.toNat e)]) S.hp.length (gU E d) (List.replicate a.toNat e) (by simp);rw[List.length_replicate] at this;rw[j];exact this
    .cases h
   .cases h
  .cases h
 .cases h
theorem XQ{v:TV}{a:AV}(h:Wx v=true)(q:Qh H v a): a=.lit aZ\/a=.sl true []:=by
 unfold Wx at h;split at h
 .subst h;cases (q.pu trivial) with
  | emp _ _ h=>
   rcases h with h | h | ⟨h,_⟩
   .exact .inl h
   .exact .inr h
   .cases h
 .split at h
  .split at h
   .split at h
    .split at h
     .exact .inl q.inL
     .cases h
    .cases h
   .cases h
  .cases h
 .cases h
theorem aGt[aB]{x:aQ}(a:Qt N S st)(h:bY E n d (.capS x) S K=some r): cL P cf E.fl N (.capS x) st K r:=by
 simp only[bY] at h;split at h
 .rename_i b;refine cL.same (v:=.lit (.int .i64 0)) a ?_ (Qh.l _) h;rcases XQ b (a.get x) with e | e<;>simp only[aI,e,aZ]<;>rfl
 .cases h
theorem aGj[aB]{s:Nat}{x y:aQ}(c:Qt N S st)(h:bY E n d (.copy s x y) S K=some r): cL P cf E.fl N (.copy s x y) st K r:=by
 have q:=c.get x;simp only[bY] at h;split at h
 .rename_i id m B;rw[B] at q;split at h
  .rename_i o i;split at h
   .rename_i k l;split at h
    .rename_i ys A;obtain⟨es,D,f⟩:=WX A (c.get y) c.hp;split at h
     .rename_i e;simp only[Bool.and_eq_true] at e;have p:=Nat.eq_of_beq_eq_true e.1;have e2:0<s:=by simpa [Nat.blt_eq] using e.2.1
      have j:=Nat.le_of_ble_eq_true e.2.2;obtain⟨F,a,h⟩:=aV h;unfold cpy at a;split at a
      .rename_i u;cases a;obtain⟨w,g,t⟩:=c.hp.lst i;rw[p] at g;have C:=q.mw i;refine cL.put (v:=.lit (.int .i64 ((es.length:Nat):Int))) (b:=.blk s (aU w (xQ l m).1 es)) c i (tP u.2) ?_ ⟨_,by rw[p],t.spl f⟩ (by rw[f.len];exact Qh.l _) h;simp only[aI,D,C,g,f.all p,e2,and_self,if_true];rw[if_pos ⟨trivial,t.len,by rw[f.len];exact u.1,j⟩];split
       .rename_i z;have:es=[]:=List.length_eq_zero_iff.1 z;subst this;simp only[Lm,Sc g];rfl
       .rfl
      .cases a
     .cases h
    .cases h
   .cases h
  .cases h
 .cases h
theorem aDu[aB]{s:Nat}{z:List Value}{x:aQ}(f:Qt N S st)(h:bY E n d (.clear s z x) S K=some r): cL P cf E.fl N (.clear s z x) st K r:=by
 have q:=f.get x;have y:Qh S.hp (.tup []) (.tup []):=Qh.mkT (cs:=[]) trivial;simp only[bY] at h;split at h
 .rename_i id m G;rw[G] at q;split at h
  .rename_i o j;split at h
   .rename_i k l;split at h
    .rename_i A H;have g:Qr (iH _ A) (z.map .lit):=iL (H':=S.hp) H (Qc.lits z);split at h
     .rename_i c;simp only[Bool.and_eq_true] at c;have u:=Nat.eq_of_beq_eq_true c.1;have e2:0<s:=by simpa [Nat.blt_eq] using c.2.1
      have i:=Nat.le_of_ble_eq_true c.2.2.1;have F:=Nat.eq_of_beq_eq_true c.2.2.2;obtain⟨J,a,h⟩:=aV h;unfold clr at a;split at a
      .rename_i w;cases a;obtain⟨B,p,t⟩:=f.hp.lst j;rw[u] at p;have I:=q.mw j;refine cL.put (v:=.tup []) (b:=.blk s (aU B (xQ l m).1 (List.replicate (xQ l m).2 (z.map .lit)))) f j (tP (by rw[List.length_replicate];exact w)) ?_ ⟨_,by rw[u],t.spl (Ql.rep g _)⟩ (Qh.mkT (cs:=[]) trivial) h;simp only[aI,I,p];rw[if_pos ⟨trivial,t.len,w,i,e2,F⟩];split
       .rename_i D;simp only[D,List.replicate_zero,Lm,Sc p]
       .rfl
      .cases a
     .cases h
    .cases h
   .cases h
  .cases h
 .split at h
  .rename_i C;refine cL.same (v:=.tup []) f ?_ y h;rcases XQ C q with e | e<;>simp only[aI,e,aZ]
  .cases h
theorem L7[aB]{s bytes:Nat}{z:List Value}{x m:aQ}(f:Qt N S st)(h:bY E n d (.appendZ s bytes z x m) S K=some r): cL P cf E.fl N (.appendZ s bytes z x m) st K r:=by
 have q:=f.get x;have G:=f.hp.ln;simp only[bY] at h;split at h
 .rename_i B;have c:=XQ B q;split at h
  .rename_i e;simp only[Bool.and_eq_true] at e;have w:=Nat.eq_of_beq_eq_true e.1;have e2:0<s:=by simpa [Nat.blt_eq] using e.2.1
   have A:=Nat.eq_of_beq_eq_true e.2.2.1;have t:=Nat.le_of_ble_eq_true e.2.2.2;split at h
   .rename_i g C;have k:Qr (iH _ g) (z.map .lit):=iL (H':=S.hp) C (Qc.lits z);split at h
    .rename_i a J;obtain⟨l,L,h⟩:=aV h;obtain⟨I,M,Q,rfl⟩:=BO L;have F:=Hv f J I;have O:=Nat.mul_le_mul (show a.toNat<=1000000 by omega) t;have p:kO a.toNat bytes=true:=gX (by omega) t;have u:cY s (List.replicate a.toNat (z.map AV.lit))=true:=(Ql.rep k a.toNat).all w;have ev:aI P cf E.fl (.appendZ s bytes z x m) st.tmps st.heap=cC E.fl st.heap s bytes (aC st.tmps x) (List.replicate a.toNat (z.map .lit)):=by
      simp only[aI,F];rw[if_pos ⟨A,by omega,by omega⟩]
     rcases Vn h with⟨i,h⟩ | ⟨i,h⟩
     .have D:a.toNat=0:=by simpa using i
      refine cL.same f ?_ q h;rw[ev,D];rcases c with c | c<;>rw[c]<;>simp[cC,cY,e2,kO,aZ]
     .have y:a.toNat≠0:=by simpa using i
      refine cL.add (v:=.ms st.heap.length a.toNat 0 a.toNat) (o:=.lst (gU E d) (List.replicate a.toNat g)) (b:=.blk s (List.replicate a.toNat (z.map .lit))) f ?_ ⟨_,by rw[w],Ql.rep k _⟩ ?_ h
      .rw[ev];rcases c with c | c<;>rw[c]
       .simp[cC,aZ,u,e2,p,y]
       .have j:cY s ([]:List (List AV))=true:=rfl;unfold cC;simp only[u,e2,p,y,j,and_self,if_true,if_false,List.length_nil,Nat.zero_add,List.nil_append,List.length_replicate]
      .have:=Qh.ms (H:=S.hp++[.lst (gU E d) (List.replicate a.toNat g)]) S.hp.length (gU E d) (List.replicate a.toNat g) (by simp);rw[List.length_replicate] at this;rw[G];exact this
    .cases h
   .cases h
  .cases h
 .split at h
  .rename_i id w hx;rw[hx] at q;split at h
   .split at h
    .rename_i o ho;split at h
     .rename_i k l;split at h
      .rename_i hk;simp only[Bool.and_eq_true] at hk
       have e1:=Nat.eq_of_beq_eq_true hk.1
       have e2:0<s:=by simpa [Nat.blt_eq] using hk.2.1
       have hfl:=Nat.le_of_ble_eq_true hk.2.2.1
       have e3:=Nat.eq_of_beq_eq_true hk.2.2.2.1
       have hb:=Nat.le_of_ble_eq_true hk.2.2.2.2
       split at h
       .rename_i z' hz
        have hq':Qr (iH _ z') (z.map .lit):=iL (H':=S.hp) hz (Qc.lits z)
        split at h
        .rename_i a ha
         obtain⟨y,hr,h⟩:=aV h
         obtain⟨c1,c2,c3,rfl⟩:=BO hr
         obtain⟨l',hl',h⟩:=aV h
         obtain⟨e4,hle⟩:=Ag hl'
         subst e4
         have k1:=Hv f ha c1
         have O:=Nat.mul_le_mul (show a.toNat<=1000000 by omega) hb
         obtain⟨bs,g1,g2⟩:=f.hp.lst ho
         rw[e1] at g1
         have hq:=q.mw ho
         have hA:cY s (List.replicate a.toNat (z.map AV.lit))=true:=(Ql.rep hq' a.toNat).all e1
         rw[List.length_replicate] at hle
         have he:=Nh (fl:=E.fl) (bytes:=bytes) (tot:=l.length) (ys:=List.replicate a.toNat (z.map AV.lit)) g1 g2.len hA e2 (gX (by rw[List.length_replicate];omega) hb) (gX (by rw[List.length_replicate];omega) hb) hfl
         refine⟨.ms id (l.length+a.toNat) 0 (l.length+a.toNat),st.heap.set id (.blk s (bs++List.replicate a.toNat (z.map .lit))),.ms id none,hP id (gO S id (.lst k (l++List.replicate a.toNat z'))),?_,Oq f ho λH=>⟨_,by rw[e1],g2.app (Ql.rep hq' a.toNat)⟩,?_,h⟩
         .simp only[aI,k1,hq];rw[if_pos ⟨e3,by omega,by omega⟩];simpa[xQ] using he
         .have:=Qh.ms (H:=(hP id (gO S id (.lst k (l++List.replicate a.toNat z')))).hp) id k (l++List.replicate a.toNat z') (by simp[hP,gO,List.getElem?_map,(List.getElem?_eq_some_iff.1 ho).1,zH]);rw[List.length_append,List.length_replicate] at this;exact this
        .cases h
       .cases h
      .cases h
     .cases h
    .cases h
   .cases h
  .cases h
theorem aFa{k:Nat}{v:TV}{l:List (den k)}{a:AV}(h:rdX [] k v=some l)(q:Qh H v a): Qh ([]:TH) v a:=by
 cases v with
 | sl k l=>exact .p _ _ (q.pu trivial)
 | emp b=>exact .p _ _ (q.pu trivial)
 | vw k l=>exact .p _ _ (q.pu trivial)
 | lit v=>rw[q.inL];exact Qh.l _
 | ms id m=>simp[rdX,MG] at h
 | _=>cases h
theorem aD3[aB]{vi:Nat}{s:List aQ}(H:GL P T E)(g:Qt N S st)(h:bY E n d (.callF vi s) S K=some r): cL P (dK P T n) E.fl N (.callF vi s) st K r:=by
 have q:=DX g s;simp only[bY] at h;split at h
 .rename_i p M;split at h
  .rename_i k;obtain⟨a1,bytes,z,V,h0,R⟩:=H.pr vi _ M;unfold aIm at h;split at h
   .rename_i x O;rw[O] at q;split at h
    .rename_i l I;obtain⟨a,y⟩:∃a,s.map (aC st.tmps)=[a]:=by
      cases u:s.map (aC st.tmps) with
      | nil=>rw[u] at q;exact q.elim
      | cons a t=>rw[u] at q;cases t with
       | nil=>exact⟨a,rfl⟩
       | cons _ _=>exact q.2.elim
     rw[y] at q;obtain⟨m,hm,h⟩:=aV h;have e:=U5 hm;subst e;obtain⟨W,e2,e3⟩:=aAJ (P:=P) (n:=m) (G:=st.heap) V h0;have ev:aI P (dK P T (m+1)) E.fl (.callF vi s) st.tmps st.heap=dK P T (m+1) st.heap.length vi [a] st.heap:=by simp only[aI,y]
     have D:∃es,(a=.lit aZ/\es=[]\/(∃f,a=.sl f es)\/a=.vw es)/\Ql k l es:=by
      rcases Oe (A:=[]) I (aFa I q.1) (λ_=>trivial) with⟨es,i,w⟩ | ⟨_,es,i,w⟩ | ⟨_,id,tot,o,n,es,e,i,_⟩
      .exact⟨es,i.imp (λh=>h) .inl,w⟩
      .exact⟨es,i,w⟩
      .subst e;simp[rd] at i
     obtain⟨es,c,j⟩:=D;rcases Vn h with⟨F,h⟩ | ⟨F,h⟩
     .have:l=[]:=by simpa using F
      subst this;have:es=[]:=List.length_eq_zero_iff.1 j.len;subst this;rcases c with⟨c,_⟩ | c
      .refine cL.same (v:=.lit aZ) g ?_ (.p _ _ (.emp _ _ (.inl rfl))) h;rw[ev,c];exact W
      .refine cL.same (v:=.sl false []) g ?_ (.p _ _ (.emp _ _ (.inr (.inr ⟨rfl,rfl⟩)))) h;rw[ev];exact e2 a c
     .obtain⟨C,B,L⟩:=aV h;clear h;obtain⟨J,X⟩:=Ag B;rw[List.nil_append] at J;subst J;cases es with
      | nil=>
       have:C=[]:=List.length_eq_zero_iff.1 j.len.symm;subst this;cases F
      | cons e es=>
       have y:(∃f,a=.sl f (e::es))\/a=.vw (e::es):=by
        rcases c with⟨_,c⟩ | c
        .cases c
        .exact c
       have g3:=e3 a e es y (j.all rfl) (gX (by rw[j.len];simpa using X) R);refine cL.add (v:=.ms st.heap.length (e::es).length 0 (e::es).length) (o:=.lst k C) (b:=.blk (cds k).length (e::es)) g (by rw[ev];exact g3) ⟨_,rfl,j⟩ ?_ L;rw[g.hp.ln,j.len];exact .ms _ k C (by simp)
    .cases h
   .cases h
  .cases h
 .obtain⟨v,Q,tv,S',i,w,U,Y⟩:=Gz (by rw[g.hp.ln];exact Nat.le_refl _) g q H.il h;exact⟨v,Q,tv,S',by simp only[aI];rw[g.hp.ln];exact i,w,U,Y⟩
theorem aCF[aB]{m k:Nat}{x:aQ}(u:Qt N S st)(h:bY E n d (.loadF m k x) S K=some r): cL P cf E.fl N (.loadF m k x) st K r:=by
 have q:=u.get x;simp only[bY] at h;split at h
 .rename_i id off j;rw[j] at q;split at h
  .split at h
   .rename_i o z;split at h
    .rename_i cs;split at h
     .rename_i e
      have e:=Nat.eq_of_beq_eq_true e
      obtain⟨aw,p,b⟩:=u.hp.box z
      have w:cJ st.heap (aC st.tmps x) m=some aw:=by
       have B:=b.len
       rw[q.ptr1];simp[cJ,p,e,B];exact List.take_of_length_le (Nat.le_of_eq (B.trans e))
      split at h
      .rename_i v y
       obtain⟨a,i,g⟩:=b.get y
       split at h
       .rename_i f c
        split at h
        .rename_i C
         have C:=Nat.le_of_ble_eq_true C
         split at h
         .rename_i D
          split at h
          .rename_i kk l
           obtain⟨es,F,G⟩:=u.hp.lst D
           have s:=Hw u (List.getElem?_eq_some_iff.1 D).1 (.blk (cds kk).length (es++[List.replicate (cds kk).length .undef]))
           have T:=g.mw D
           refine⟨.agg (aw.set k (.sl false (((es.drop (xQ l c).1).take (xQ l c).2).map λe=>e.map vJ))),_,_,_,?_,s,Qh.mkA (bO.set (b.mapL λ_ _ q=>zI u7 q) k (.p _ _ (Qp.mkS (.inr ⟨_,rfl⟩) (nZ.ls (by rw[Zi];exact (G.drop _).take _))))),h⟩
           simp only[aI,w,i,T,C,if_true,F,G.len]
          .cases h
         .cases h
        .cases h
       .refine cL.same u ?_ (Qh.mkA b) h
        cases g.pu trivial with
        | emp b a c=>rcases c with rfl | rfl | ⟨_,rfl⟩<;>simp only[aI,w,i]
       .have e:=g.inL;subst e;refine cL.same u ?_ (Qh.mkA b) h;simp only[aI,w,i]
       .cases h
      .cases h
     .cases h
    .cases h
   .cases h
  .cases h
 .cases h
end
end
end Go.Proofs.YtideamafblopcaaGreatDoor.Av
