/- A part of the proof of a law. -/
import Derived.Test.YthadajkojciapaaGreatDoorP6
import Derived.Test.YthadajkojciapaaGreatDoorP5
set_option maxRecDepth 100000
set_option maxHeartbeats 4000000
set_option linter.all false
namespace Go.Proofs.YthadajkojciapaaGreatDoor.Av
open Go
section
open DenT (den cds ag)
theorem maskL_len: ∀(c:List Bool) (tm:List AV),(maskL c tm).length=tm.length
 | [],tm=>by simp[maskL]
 | b::a,[]=>rfl
 | b::a,v::vs=>by simp[maskL,maskL_len a vs]
theorem maskL_at: ∀(c:List Bool) (tm:List AV) (t:Nat),c[t]?=some true->(maskL c tm)[t]?=tm[t]?
 | [],tm,t,h=>by simp at h
 | b::a,[],t,h=>rfl
 | b::a,v::vs,0,h=>by
  simp only[List.getElem?_cons_zero,Option.some.injEq] at h;subst h;simp[maskL]
 | b::a,v::vs,t+1,h=>by
  simp only[maskL,List.getElem?_cons_succ];exact maskL_at a vs t<|by simpa using h
section
variable [RowT]{R:Type}{H H1:TH}{A:Heap}{N:Nat}{S:TS}{st:St}
theorem look_mask{c:List Bool}{t:Nat}{v:TV}: ∀{tm:TT},look t (maskT c tm)=some v->c[t]?=some true∧look t tm=some v
 | [],h=>by cases h
 | (s,u)::tm,h=>by
  have a:c[s]?≠some true->look t (maskT c tm)=some v->c[t]?=some true∧look t ((s,u)::tm)=some v:=by
   intro f h;let⟨g,i⟩:=look_mask h;refine⟨g,?_⟩;simp only[look];split
   ·rename_i e;have e:=Nat.eq_of_beq_eq_true e;subst e;exact (f g).elim
   ·exact i
  simp only[maskT] at h;split at h
  ·rename_i b d;split at h
   ·simp only[look] at h ⊢;split at h
    ·rename_i e;have e:=Nat.eq_of_beq_eq_true e;subst e;exact⟨d,h⟩
    ·exact look_mask h
   ·exact a (by rw[d];simp) h
  ·rename_i d;exact a (by rw[d];simp) h
theorem mask_ok(a:Qt N S st)(b:List Bool): Qt N ⟨maskT b S.tm,S.hp⟩ ⟨maskL b st.tmps,st.heap⟩:=by
 refine⟨by rw[maskL_len];exact a.ln,λt v h=>?_,a.hp⟩;let⟨c,d⟩:=look_mask h;rw[maskL_at _ _ _ c];exact a.tm t v d
theorem hp_take{n i k:Nat}{l:List<|den k}(a:i<n)(h:H[i]?=some (.lst k l)): ((H.take n).map<|clnO n)[i]?=some (.lst k l):=by
 rw[List.getElem?_map,List.getElem?_take,if_pos a,h];rfl
structure Cln(n:Nat)(g:AV->AV): Prop where
 l:∀v,g (.lit v)=.lit v
 s:∀f es,g (.sl f es)=.sl f es
 w:∀es,g (.vw es)=.vw es
 r:∀es,g (.rptr es)=.rptr es
 p:∀es,g (.sptr es)=.sptr es
 m:∀es,g (.rmp es)=.rmp es
 ms:∀i a b c,i<n->g (.ms i a b c)=.ms i a b c
 pt:∀i a b c,i<n->g (.ptr i a b c)=.ptr i a b c
 mp:∀i,i<n->g (.mp i)=.mp i
 it:∀i,i<n->g (.it i)=.it i
 f:∀v,g (.fn v [])=.fn v []
theorem cln_0(n:Nat): Cln n<|clean0 n:=⟨λ_=>rfl,λ_ _=>rfl,λ_=>rfl,λ_=>rfl,λ_=>rfl,λ_=>rfl,λ_ _ _ _ h=>by simp[clean0,h],λ_ _ _ _ h=>by simp[clean0,h],λ_ h=>by simp[clean0,h],λ_ h=>by simp[clean0,h],λ_=>rfl⟩
theorem cln_1(n:Nat): Cln n<|clean1 n:=⟨λ_=>rfl,λ_ _=>rfl,λ_=>rfl,λ_=>rfl,λ_=>rfl,λ_=>rfl,λ_ _ _ _ h=>by simp[clean1,clean0,h],λ_ _ _ _ h=>by simp[clean1,clean0,h],λ_ h=>by simp[clean1,clean0,h],λ_ h=>by simp[clean1,clean0,h],λ_=>rfl⟩
theorem cln_i(n:Nat): Cln n id:=⟨λ_=>rfl,λ_ _=>rfl,λ_=>rfl,λ_=>rfl,λ_=>rfl,λ_=>rfl,λ_ _ _ _ _=>rfl,λ_ _ _ _ _=>rfl,λ_ _=>rfl,λ_ _=>rfl,λ_=>rfl⟩
theorem cln1_ok{n:Nat}{g:AV->AV}(c:Cln n g){v:TV}{a:AV}(q:Qh H v a): Qh ((H.take n).map<|clnO n) (clnT1 n v)<|g a:=by
 have d:∀{i:Nat},Nat.blt i n=true->i<n:=λe=>by simpa [Nat.blt_eq] using e
 cases q with
 | p _ _ q=>
  cases v with
  | undef=>exact Qh.u _
  | lit u=>cases q;rw[c.l];exact Qh.l _
  | emp b=>cases q with
   | emp _ _ h=>rcases h with rfl | rfl | ⟨rfl,rfl⟩<;>first | (rw[c.l];exact .p _ _<|.emp _ _<|by simp) | (rw[c.s];exact .p _ _<|.emp _ _<|by simp)
  | sl k l=>
   let⟨es,t,y⟩:=q.inS;rcases t with⟨rfl,rfl⟩ | ⟨f,rfl⟩<;>first | (rw[c.l];exact .p _ _ q) | (rw[c.s];exact .p _ _ q)
  | vw k l=>
   let⟨es,t,y⟩:=q.inV;rcases t with⟨rfl,rfl⟩ | ⟨f,rfl⟩ | rfl<;>first | (rw[c.l];exact .p _ _ q) | (rw[c.s];exact .p _ _ q) | (rw[c.w];exact .p _ _ q)
  | slF k l=>
   let⟨es,t,y⟩:=q.inE;rcases t with⟨rfl,rfl⟩ | rfl<;>first | (rw[c.l];exact .p _ _ q) | (rw[c.s];exact .p _ _ q)
  | rptr cs=>obtain⟨aw,rfl,_⟩:=q.inR;rw[c.r];exact .p _ _ q
  | sptr k x=>obtain⟨aw,rfl,_⟩:=q.inP;rw[c.p];exact .p _ _ q
  | rmp=>let⟨rows,t,_⟩:=q.inM;rcases t with⟨rfl,_⟩ | rfl<;>first | (rw[c.l];exact .p _ _ q) | (rw[c.m];exact .p _ _ q)
  | _=>cases q
 | ms i k l h=>
  simp only[clnT1];split
  ·rename_i e;rw[c.ms _ _ _ _<|d e];exact Qh.ms i k l<|hp_take (d e) h
  ·exact Qh.u _
 | msn i m k l h=>
  simp only[clnT1];split
  ·rename_i e;rw[c.ms _ _ _ _<|d e];exact Qh.msn i m k l<|hp_take (d e) h
  ·exact Qh.u _
 | ptr i o=>
  simp only[clnT1];split
  ·rename_i e;rw[c.pt _ _ _ _<|d e];exact .ptr i o
  ·exact Qh.u _
 | pel i j o k l h t y=>
  simp only[clnT1];split
  ·rename_i e;rw[c.pt _ _ _ _<|d e];exact Qh.pel i j o k l (hp_take (d e) h) t y
  ·exact Qh.u _
 | mp i=>
  simp only[clnT1];split
  ·rename_i e;rw[c.mp _<|d e];exact .mp i
  ·exact Qh.u _
 | it i=>
  simp only[clnT1];split
  ·rename_i e;rw[c.it _<|d e];exact .it i
  ·exact Qh.u _
 | rs i m=>
  simp only[clnT1];split
  ·rename_i e;rw[c.ms _ _ _ _<|d e];exact .rs i m
  ·exact Qh.u _
 | rel i m j o=>
  simp only[clnT1];split
  ·rename_i e;rw[c.pt _ _ _ _<|d e];exact .rel i m j o
  ·exact Qh.u _
 | fn vi cs aw t y=>
  cases cs with
  | nil=>
   cases aw with
   | nil=>rw[c.f];exact Qh.mkF trivial
   | cons=>cases t
  | cons=>exact Qh.u _
 | agg=>exact Qh.u _
 | tup=>exact Qh.u _
theorem clnC_ok{n:Nat}{v:TV}{a:AV}(q:Qh H v a): Qh ((H.take n).map<|clnO n) (clnC n v) (clean1 n a)∧Qh ((H.take n).map<|clnO n) (clnC n v) a:=by
 cases v with
 | fn vi cs=>
  obtain⟨aw,rfl,b⟩:=q.inF;exact⟨Qh.mkF<|b.map λ_ _ q=>cln1_ok (cln_0 n) q,Qh.mkF<|b.mapL λ_ _ q=>cln1_ok (cln_i n) q⟩
 | _=>exact⟨cln1_ok (cln_1 n) q,cln1_ok (cln_i n) q⟩
theorem clnT_ok{n:Nat}{v:TV}{a:AV}(q:Qh H v a): Qh ((H.take n).map<|clnO n) (clnT n v)<|clean3 n a:=by
 cases v with
 | agg cs=>
  obtain⟨aw,rfl,c⟩:=q.inA;exact Qh.mkA<|c.map λ_ _ q=>(clnC_ok q).1
 | undef=>exact Qh.u _
 | tup=>exact Qh.u _
 | _=>
  have h:=(clnC_ok (n:=n) q).1;cases a with
  | agg=>
   cases q with
   | p _ _ q=>cases q<;>simp_all
  | tup=>
   cases q with
   | p _ _ q=>cases q<;>simp_all
  | _=>exact h
theorem mild_cln2(n:Nat): Mild<|clean2 n:=⟨λv=>.inl rfl,λf es=>⟨f,rfl⟩,λ_=>rfl,λ_=>rfl⟩
theorem clnO_ok{n:Nat}{o:TObj}{b:AObj}(h:Qo H o b): Qo ((H.take n).map<|clnO n) (clnO n o) (cleanObj n b)∧Qo ((H.take n).map<|clnO n) (clnO n o) b:=by
 cases o with
 | box cs=>
  obtain⟨aw,rfl,q⟩:=h;exact⟨⟨aw.map<|clean1 n,by simp[cleanObj],q.map λ_ _ q=>(clnC_ok q).1⟩,⟨aw,by simp,q.mapL λ_ _ q=>(clnC_ok q).2⟩⟩
 | rows s es=>
  obtain⟨aw,rfl,q⟩:=h;exact⟨⟨aw.map λe=>e.map<|clean1 n,rfl,q.map λ_ _ q=>q.map λ_ _ q=>(clnC_ok q).1⟩,⟨aw,rfl,q.mapL λ_ _ q=>q.mapL λ_ _ q=>(clnC_ok q).2⟩⟩
 | lst k l=>
  obtain⟨es,rfl,q⟩:=h;exact⟨⟨es.map λe=>e.map<|clean1 n,rfl,(mild_cln n).ls q⟩,⟨es,rfl,q⟩⟩
 | map kk c m=>
  obtain⟨rows,rfl,q⟩:=h;refine⟨?_,⟨rows,rfl,q⟩⟩;cases i:ag c with
  | true=>
   have d:Qm c m<|rows.map λr=>r.map<|clean1 n:=q.mapR λ_ _ h=>(mild_cln n).r h;exact⟨_,congrArg AObj.mp<|ents_map (g:=clean1 n) λr=>by rw[i];rfl,d⟩
  | false=>
   have d:Qm c m<|rows.map λr=>r.map<|clean2 n:=q.mapR λ_ _ h=>(mild_cln2 n).r h;exact⟨_,congrArg AObj.mp<|ents_map (g:=clean2 n) λr=>by rw[i];cases r<;>rfl,d⟩
 | it=>subst h;exact⟨rfl,rfl⟩
 | gone=>exact⟨trivial,trivial⟩
 | fr k a=>
  simp only[clnO];split
  ·rename_i e;exact⟨.s _ _ n (Nat.le_of_ble_eq_true e) h,h⟩
  ·exact⟨trivial,trivial⟩
theorem head_ok{fl:Nat}(b:Qt N S st)(live:List Bool)(tr:Bool)(n:Nat)(g:fl≤n): Qt N (headT live tr n S)<|headSt (some live) tr fl n st:=by
 have h:=mask_ok b live;cases tr with
 | false=>exact h
 | true=>
  refine⟨by simp only[headSt,if_true,maskO,List.length_map];exact h.ln,λt v c=>?_,?_⟩
  ·simp only[headT] at c;obtain⟨u,m,rfl⟩:=look_map c;let⟨a,i,d⟩:=h.tm t u m;refine⟨clean3 n a,?_,clnT_ok d⟩;simp only[headSt,if_true,maskO,List.getElem?_map];rw[i];rfl
  ·simp only[headSt,if_true,headT];have e:∀{α β:Type} (f:α->β) (l:List α),(l.take n).map f=(l.take fl).map f++((l.take n).drop fl).map f:=by
    intro α β f l;rw[←List.map_append];congr 1;conv=>lhs;rw[←List.take_append_drop fl<|l.take n,List.take_take,Nat.min_eq_left g]
   have q:=b.hp.take n;have o:All2 (Qo S.hp) (S.hp.take fl)<|st.heap.take fl:=b.hp.take fl;have k:All2 (Qo S.hp) ((S.hp.take n).drop fl)<|(st.heap.take n).drop fl:=q.drop fl;show Qs ((S.hp.take n).map<|clnO n) _;rw[show Qs ((S.hp.take n).map<|clnO n)=All2 (Qo<|(S.hp.take n).map<|clnO n) ((S.hp.take n).map<|clnO n) from rfl];rw[show All2 (Qo<|(S.hp.take n).map<|clnO n) ((S.hp.take n).map<|clnO n)=All2 (Qo<|(S.hp.take n).map<|clnO n) ((S.hp.take fl).map (clnO n)++((S.hp.take n).drop fl).map (clnO n)) from by rw[←e]];exact (o.mapL λ_ _ q=>(clnO_ok q).2).app<|k.map λ_ _ q=>(clnO_ok q).1
def isCon: TV->Bool
 | .sl _ _=>true
 | .rmp _ _ _=>true
 | .tup _=>true
 | _=>false
def RefL(m:TV)(i:Nat): Prop:=(∃n,m=.ms i n)∨∃j o,m=.pel i j o
structure Rj(H:TH)(m v:TV): Prop where
 q:∀H',(∀i,RefL m i->∀(k:Nat) (l:List (den k)),H[i]?=some (.lst k l)->∃(k':Nat) (l':List (den k')),H'[i]?=some (.lst k' l')∧l'.length=l.length)->∀a,Qh H v a->Qh H' m a
 s:isCon v=true->isCon m=true->m=v
theorem same1_ok{c v:TV}(h:sameT1 c v=true): Rj H c v:=by
 cases c with
 | undef=>exact⟨λ_ _ a _=>Qh.u a,λ_ e=>by cases e⟩
 | ms i n=>
  cases n with
  | some n=>cases h
  | none=>
   cases v with
   | ms j m=>
    cases m with
    | some m=>cases h
    | none=>
     have e:=Nat.eq_of_beq_eq_true h;subst e;refine⟨λH' m a q=>?_,λ_ e=>by cases e⟩;cases q with
     | p _ _ q=>cases q
     | ms _ k l h=>
      let⟨k',G,C,D⟩:=m i (.inl ⟨none,rfl⟩) k l h;rw[←D];exact .ms _ k' G C
   | _=>cases h
 | ptr i o=>
  cases v with
  | ptr j u=>
   simp only[sameT1] at h;split at h
   ·rename_i e;have e:=Nat.eq_of_beq_eq_true e;have e2:=Nat.eq_of_beq_eq_true h;subst e;subst e2;exact⟨λH' _ a q=>q.ptr1▸.ptr _ _,λ_ e=>by cases e⟩
   ·cases h
  | _=>cases h
 | mp i=>
  cases v with
  | mp j=>
   have e:=Nat.eq_of_beq_eq_true h;subst e;refine⟨λH' _ a q=>?_,λ_ e=>by cases e⟩;cases q with
   | p _ _ q=>cases q
   | mp=>exact .mp _
  | _=>cases h
 | it i=>
  cases v with
  | it j=>
   have e:=Nat.eq_of_beq_eq_true h;subst e;refine⟨λH' _ a q=>?_,λ_ e=>by cases e⟩;cases q with
   | p _ _ q=>cases q
   | it=>exact .it _
  | _=>cases h
 | rs i n=>
  cases v with
  | rs j m=>
   simp only[sameT1] at h;split at h
   ·rename_i e;have e:=Nat.eq_of_beq_eq_true e;have e2:=Nat.eq_of_beq_eq_true h;subst e;subst e2;exact⟨λH' _ a q=>q.rs1▸.rs _ _,λ_ e=>by cases e⟩
   ·cases h
  | _=>cases h
 | fn i cs=>
  cases cs with
  | cons=>cases h
  | nil=>
   cases v with
   | fn j ds=>
    cases ds with
    | cons=>cases h
    | nil=>
     have e:=Nat.eq_of_beq_eq_true h;subst e;refine⟨λH' _ a q=>?_,λ_ e=>by cases e⟩;obtain⟨aw,rfl,E⟩:=q.inF;cases aw with
     | nil=>exact Qh.mkF trivial
     | cons=>exact E.elim
   | _=>cases h
 | lit u=>
  have g:v=.lit u->Rj H (.lit u) v:=by
   rintro rfl;exact⟨λH' _ a q=>q.inL▸Qh.l _,λ_ e=>by cases e⟩
  cases u with
  | int k a=>
   cases v with
   | lit y=>
    cases y with
    | int k' b=>
     simp only[sameT1] at h;split at h
     ·rename_i e _;split at h
      ·rename_i F _;subst e;subst F;exact g rfl
      ·cases h
     ·cases h
    | _=>cases h
   | _=>cases h
  | bool b=>
   cases v with
   | lit y=>
    cases y with
    | bool c=>
     apply g;cases b<;>cases c<;>first | rfl | cases h
    | _=>cases h
   | _=>cases h
  | slice a l c=>
   cases a with
   | some a=>cases h
   | none=>
    cases l with
    | succ l=>cases h
    | zero=>
     cases c with
     | succ c=>cases h
     | zero=>
      cases v with
      | lit y=>
       cases y with
       | slice a l c=>
        cases a with
        | some a=>cases h
        | none=>
         cases l with
         | succ l=>cases h
         | zero=>
          cases c with
          | succ c=>cases h
          | zero=>exact g rfl
       | _=>cases h
      | _=>cases h
  | _=>cases h
 | emp b=>
  cases v with
  | emp c=>
   refine⟨λH' _ a q=>?_,λ_ e=>by cases e⟩;cases (q.pu trivial) with
   | emp _ _ d=>
    refine .p _ _<|.emp _ _ ?_;cases b with
    | false=>
     rcases d with d | d | ⟨_,d⟩
     ·exact .inl d
     ·exact .inr<|.inl d
     ·exact .inr<|.inr ⟨rfl,d⟩
    | true=>
     have h:c=true:=h;subst h;exact d
  | _=>cases h
 | _=>cases h
theorem sameL_ok: ∀{cs vs:List TV},sameL cs vs=true->All2 (λc v=>sameT1 c v=true∧∀j n,c≠.ms j n) cs vs
 | [],[],_=>trivial
 | [],_::_,h=>by cases h
 | _::_,[],h=>by cases h
 | c::r,v::s,h=>by
  simp only[sameL] at h;split at h
  ·cases h
  ·rename_i a;split at h
   ·rename_i e;exact⟨⟨e,a⟩,sameL_ok h⟩
   ·cases h
theorem same_ok{c v:TV}(h:sameT c v=true): Rj H c v:=by
 cases c with
 | fn i cs=>
  cases v with
  | fn j ds=>
   simp only[sameT] at h;split at h
   ·rename_i e;have e:=Nat.eq_of_beq_eq_true e;subst e;refine⟨λH' _ a q=>?_,λ_ e=>by cases e⟩;obtain⟨aw,rfl,d⟩:=q.inF;have f:=sameL_ok h;refine Qh.mkF<|All2.of (by rw[d.len,f.len]) λj c a k l=>?_;let⟨v,g,b,m⟩:=f.get k;exact (same1_ok b).q H' (λn e=>e.elim (λ⟨o,e⟩=>absurd e<|m n o) λ⟨j,o,e⟩=>by rw[e] at b;cases v<;>simp[sameT1] at b) a<|d.at g l
   ·cases h
  | _=>cases h
 | _=>exact same1_ok h
theorem castM_same{a b a' b':Nat}{m:List<|den a×den b}{y:List<|den a'×den b'}(h:castM m=some y): TV.rmp a b m=TV.rmp a' b' y:=by
 let⟨e,d,h⟩:=castM_e h;subst e;subst d;subst h;rfl
theorem itOf_eq{v:TV}{x:ByteArray×Nat}(h:itOf v=some x): v=.tup [.lit<|.string x.1,.lit<|.int .i64<|.ofNat x.2]:=by
 unfold itOf at h;split at h
 ·split at h
  ·split at h
   ·split at h
    ·split at h
     ·split at h
      ·split at h
       ·split at h
        ·cases h;rfl
        ·cases h
       ·cases h
      ·cases h
     ·cases h
    ·cases h
   ·cases h
  ·cases h
 ·cases h
theorem rjN{id:Nat}{v:TV}{x:Nat×Nat}(h:rdN id v=some x): Rj H (.ms id<|some x) v:=by
 unfold rdN at h;split at h
 ·split at h
  ·rename_i e;have e:=Nat.eq_of_beq_eq_true e;subst e;subst h;refine⟨λH' m a q=>?_,λ_ e=>by cases e⟩;cases q with
   | p _ _ q=>cases q
   | msn _ _ k l h=>
    let⟨k',b,f,c⟩:=m _ (.inl ⟨_,rfl⟩) k l h;rw[←c];exact .msn _ _ k' b f
  ·cases h
 ·cases h
theorem rjI{v:TV}{x:ByteArray×Nat}(h:itOf v=some x): Rj H (.tup [.lit<|.string x.1,.lit<|.int .i64<|.ofNat x.2]) v:=by
 rw[itOf_eq h];refine⟨λH' _ a q=>?_,λ_ _=>rfl⟩;obtain⟨aw,rfl,c⟩:=q.inT;match aw,c with
 | [a,b],c=>exact Qh.mkT ⟨by rw[c.1.inL];exact Qh.l _,by rw[c.2.1.inL];exact Qh.l _,trivial⟩
theorem rjQ{id off:Nat}{v:TV}{x:Int}(h:rdQ id off v=some x): Rj H (.pel id x off) v:=by
 unfold rdQ at h;split at h
 ·split at h
  ·rename_i e;have e:=Nat.eq_of_beq_eq_true e;subst e;split at h
   ·rename_i e;have e:=Nat.eq_of_beq_eq_true e;subst e;cases h;refine⟨λH' m a q=>?_,λ_ _=>rfl⟩;cases q with
    | p _ _ q=>cases q
    | pel _ _ _ k l h b d=>let⟨k',f,g,c⟩:=m _ (.inr ⟨_,_,rfl⟩) k l h;rw[←c];exact .pel _ _ _ k' f g b (by omega)
   ·cases h
  ·cases h
 ·cases h
theorem rdSh_ok{s:Sh}{v:TV}{x:s.den}(h:s.rd 3 [] v=some x): Rj H (s.tv x) v:=by
 cases s with
 | v k=>
  have h:rdV 0 [] k v=some x:=h;refine⟨λH' _ a q=>rdV0 h q,λd e2=>?_⟩;unfold rdV at h;split at h
  ·split at h
   ·cases d
   ·cases h
  ·rename_i z;unfold rdRow at h;split at h
   ·rename_i p u;cases h;let⟨c,y,t,f⟩:=rdL_one u;have j:val k (RowT.pk k p)=hdT (celC (cds k) p):=by
     unfold val cel;rw[z,RowT.un_pk]
    show val k (RowT.pk k p)=_;rw[j,t];cases c with
    | sl Q=>
     cases v with
     | sl O l=>
      let⟨e,h⟩:=castK_e (F:=λk=>List<|den k) (x:=l) (y:=y) f;subst e;subst h;rfl
     | rmp=>cases f
     | tup=>cases f
     | _=>cases d
    | int N=>rw[rdInt f] at d;cases d
    | bool=>rw[rdBool f] at d;cases d
    | str=>rw[rdStr f] at d;cases d
    | sptr=>rw[rdPtr f] at d;cases d
    | mp=>rcases rdMp (w:=0) (H:=[]) f with rfl | ⟨rfl,_⟩ | ⟨e,_⟩<;>first | rfl | cases d | cases e
    | any=>cases f
   ·cases h
 | w k=>
  have h:rdV 1 [] k v=some x:=h;refine⟨λH' _ a q=>rdV1s h q,λd e2=>?_⟩;unfold rdV at h;split at h
  ·split at h
   ·cases d
   ·cases h
  ·rename_i z;unfold rdRow at h;split at h
   ·rename_i p u;cases h;let⟨c,y,t,f⟩:=rdL_one u;have j:val k (RowT.pk k p)=hdT (celC (cds k) p):=by
     unfold val cel;rw[z,RowT.un_pk]
    have e2:isCon (toW<|val k<|RowT.pk k p)=true:=e2;show toW (val k<|RowT.pk k p)=_;rw[j,t,toW_tv] at e2 ⊢;cases c with
    | mp=>rcases rdMp (w:=1) (H:=[]) f with rfl | ⟨rfl,_⟩ | ⟨e,_⟩<;>first | rfl | cases d | cases e
    | _=>cases e2
   ·cases h
 | r k=>
  refine⟨λH' _ a q=>?_,λ_ e2=>by cases e2⟩;cases v with
  | rptr cs=>
   have h:rdRow 0 [] k cs=some x:=h;obtain⟨aw,rfl,M⟩:=(q.pu trivial).inR;exact .p _ _<|Qp.mkR<|rdRow0 h<|M.c (H:=[])
  | _=>cases h
 | l k=>
  cases v with
  | sl k' l=>
   let⟨e,h⟩:=castK_e (F:=λk=>List<|den k) (x:=l) (y:=x) h;subst e;subst h;exact⟨λH' _ a q=>.p _ _<|q.pu trivial,λ_ _=>rfl⟩
  | _=>cases h
 | f k=>
  cases v with
  | slF k' l=>
   let⟨e,h⟩:=castK_e (F:=λk=>List<|den k) (x:=l) (y:=x) h;subst e;subst h;exact⟨λH' _ a q=>.p _ _<|q.pu trivial,λ_ _=>rfl⟩
  | _=>cases h
 | m kk J=>
  cases v with
  | rmp a b m=>
   have e:=castM_same (m:=m) (y:=x) h;rw[←show TV.rmp a b m=(Sh.m kk J).tv x from e];exact⟨λH' _ a q=>.p _ _<|q.pu trivial,λ_ _=>rfl⟩
  | _=>cases h
 | n id=>exact rjN h
 | i=>exact rjI h
 | q id off=>exact rjQ h
end
section
variable [RowT]{R:Type}{H H1:TH}{A:Heap}{N:Nat}{S:TS}{st:St}
theorem PrT.hc{a:Sh}{r:List Sh}(x:a.den)(y:PrT r): PrT.hd (PrT.cs x y)=x:=by cases r<;>rfl
theorem PrT.tc{a:Sh}{r:List Sh}(x:a.den)(y:PrT r): PrT.tl (PrT.cs x y)=y:=by cases r<;>rfl
theorem rdSrc_ok: ∀{ss:List Pl} {W:List TV} {p:PrT<|shs false ss} {q:PrT<|shs true ss},rdSrc ss W=some (p,q)->All2 (Rj H) (mkV ss p q) W
 | [],W,p,q,h=>by
  cases W with
  | nil=>trivial
  | cons=>cases h
 | .con c::r,W,p,q,h=>by
  cases W with
  | nil=>cases h
  | cons v W=>
   simp only[rdSrc] at h;split at h
   ·rename_i e;exact⟨same_ok e,rdSrc_ok h⟩
   ·cases h
 | .p s::r,W,p,q,h=>by
  cases W with
  | nil=>cases h
  | cons v W=>
   simp only[rdSrc] at h;split at h
   ·rename_i x a;split at h
    ·rename_i d b;cases h;simp only[mkV,PrT.hc,PrT.tc];exact⟨rdSh_ok a,rdSrc_ok b⟩
    ·cases h
   ·cases h
 | .v s::r,W,p,q,h=>by
  cases W with
  | nil=>cases h
  | cons v W=>
   simp only[rdSrc] at h;split at h
   ·rename_i x a;split at h
    ·rename_i d b;cases h;simp only[mkV,PrT.hc,PrT.tc];exact⟨rdSh_ok a,rdSrc_ok b⟩
    ·cases h
   ·cases h
theorem upT_ok{tm:TT}{H':TH}{t:Nat}{m:TV}: ∀{ts:List<|Nat×Option Nat} {vs M:List TV},upT tm ts=some vs->All2 (λm v=>∀a,Qh H v a->Qh H' m a) M vs->look t (plT ts M)=some m->∃v,look t tm=some v∧∀a,Qh H v a->Qh H' m a
 | [],vs,M,h,q,b=>by cases b
 | s::ts,vs,M,h,q,b=>by
  simp only[upT] at h;split at h
  ·rename_i v f;split at h
   ·rename_i w k;split at h
    ·rename_i g;cases h;cases M with
     | nil=>exact q.elim
     | cons u M=>
      simp only[plT,g,look] at b;split at b
      ·rename_i e;have e:=Nat.eq_of_beq_eq_true e;subst e;cases b;exact⟨v,f,q.1⟩
      ·exact upT_ok k q.2 b
    ·rename_i n g;split at h
     ·rename_i cs;split at h
      ·rename_i e;have e:=Nat.eq_of_beq_eq_true e;cases h;have d:=q.take n;have i:=q.drop n;rw[←e,List.drop_left] at i;rw[←e,List.take_left] at d;rw[e] at d i;simp only[plT,g,look] at b;split at b
       ·rename_i e;have e:=Nat.eq_of_beq_eq_true e;subst e;cases b;refine⟨_,f,λa r=>?_⟩;obtain⟨aw,rfl,l⟩:=r.inA;exact Qh.mkA (All2.of (by rw[l.len,d.len]) λj m c b p=>by
         let⟨v,f,o⟩:=d.get b;exact o c<|l.at f p)
       ·exact upT_ok k i b
      ·cases h
     ·cases h
   ·cases h
  ·cases h
theorem flat_len{α:Type}{s:Nat}: ∀{es:List<|List α},(es.all λe=>Nat.beq e.length s)=true->es.flatten.length=es.length*s
 | [],_=>by simp
 | e::es,h=>by
  simp only[List.all_cons,Bool.and_eq_true] at h;have a:=Nat.eq_of_beq_eq_true h.1;simp only[List.flatten_cons,List.length_append,flat_len h.2,a,List.length_cons,Nat.succ_mul];omega
theorem chunk_flat{α β:Type}{R:α->β->Prop}{s:Nat}: ∀{es:List<|List β} {l:List α},(es.all λe=>Nat.beq e.length s)=true->All2 R l es.flatten->All2 (All2 R) (chunk s es.length l) es
 | [],_,_,_=>trivial
 | e::es,l,h,q=>by
  simp only[List.all_cons,Bool.and_eq_true] at h;have c:=Nat.eq_of_beq_eq_true h.1;subst c;have a:=q.take e.length;have b:=q.drop e.length;simp only[List.flatten_cons,List.take_left,List.drop_left] at a b;exact⟨a,chunk_flat h.2 b⟩
theorem upO_n: ∀{os:List OL} {c:TH} {f:List TV},upO os c=some f->f.length=nO os
 | [],c,f,h=>by
  cases c with
  | nil=>cases h;rfl
  | cons=>cases h
 | o::os,c,f,h=>by
  cases c with
  | nil=>cases h
  | cons b c=>
   simp only[upO] at h;split at h
   ·cases h
   ·rename_i vs g;have a:=upO_n g;cases o with
    | gone=>cases h;exact a
    | box n=>
     cases b with
     | box cs=>
      simp only at h;split at h
      ·rename_i e;have e:=Nat.eq_of_beq_eq_true e;cases h;simp[nO,a,e]
      ·cases h
     | _=>cases h
    | lst u=>
     cases b with
     | lst v x=>
      simp only at h;split at h
      ·cases h;simp[nO,a]
      ·cases h
     | _=>cases h
    | map kk t=>
     cases b with
     | map q y r=>
      simp only at h;split at h
      ·split at h
       ·cases h;simp[nO,a]
       ·cases h
      ·cases h
     | _=>cases h
    | bx=>
     cases b with
     | box=>cases h;simp[nO,a]
     | _=>cases h
    | it=>
     cases b with
     | it=>cases h;simp[nO,a]
     | _=>cases h
    | rows s m=>
     cases b with
     | rows s' es=>
      simp only at h;split at h
      ·split at h
       ·rename_i e;have e:=Nat.eq_of_beq_eq_true e;split at h
        ·rename_i p;cases h;rw[List.length_append,a,flat_len p,e,Nat.mul_comm];rfl
        ·cases h
       ·cases h
      ·cases h
     | _=>cases h
theorem upO_lst: ∀{os:List OL} {g:TH} {p M:List TV},upO os g=some p->All2 (Rj H) M p->∀(i k k':Nat) (l:List<|den k) (f:List<|den k'),g[i]?=some (.lst k l)->(plO os M)[i]?=some (.lst k' f)->f.length=l.length
 | [],g,p,M,h,q,i,k,k',l,f,c,a=>by
  cases g with
  | nil=>simp at c
  | cons=>cases h
 | o::os,g,p,M,h,q,i,k,k',l,f,c,a=>by
  cases g with
  | nil=>cases h
  | cons b g=>
   simp only[upO] at h;split at h
   ·cases h
   ·rename_i vs d;cases o with
    | gone=>
     cases h;cases i with
     | zero=>simp[plO] at a
     | succ i=>exact upO_lst d q i k k' l f (by simpa using c)<|by simpa [plO] using a
    | box n=>
     cases b with
     | box cs=>
      simp only at h;split at h
      ·rename_i e;have e:=Nat.eq_of_beq_eq_true e;cases h;cases i with
       | zero=>simp at c
       | succ i=>
        have:=q.drop n;rw[←e,List.drop_left] at this;rw[e] at this;exact upO_lst d this i k k' l f (by simpa using c)<|by simpa [plO] using a
      ·cases h
     | _=>cases h
    | lst K=>
     cases b with
     | lst z E=>
      simp only at h;split at h
      ·cases h;cases M with
       | nil=>exact q.elim
       | cons m M=>
        cases i with
        | succ i=>exact upO_lst d q.2 i k k' l f (by simpa using c)<|by simpa [plO] using a
        | zero=>
         simp only[List.getElem?_cons_zero,Option.some.injEq] at c;cases c;simp only[plO,List.getElem?_cons_zero,Option.some.injEq] at a;unfold toLst at a;split at a
         ·rename_i G A;split at a
          ·cases a;have:=q.1.s rfl rfl;cases this;rfl
          ·cases a
         ·cases a
      ·cases h
     | _=>cases h
    | map kk C=>
     cases b with
     | map D J B=>
      simp only at h;split at h
      ·split at h
       ·cases h;cases M with
        | nil=>exact q.elim
        | cons m M=>
         cases i with
         | succ i=>exact upO_lst d q.2 i k k' l f (by simpa using c)<|by simpa [plO] using a
         | zero=>simp at c
       ·cases h
      ·cases h
     | _=>cases h
    | bx=>
     cases b with
     | box cs=>
      cases h;cases M with
      | nil=>exact q.elim
      | cons m M=>
       cases i with
       | succ i=>exact upO_lst d q.2 i k k' l f (by simpa using c)<|by simpa [plO] using a
       | zero=>simp at c
     | _=>cases h
    | it=>
     cases b with
     | it y I=>
      cases h;cases M with
      | nil=>exact q.elim
      | cons m M=>
       cases i with
       | succ i=>exact upO_lst d q.2 i k k' l f (by simpa using c)<|by simpa [plO] using a
       | zero=>simp at c
     | _=>cases h
    | rows s m=>
     cases b with
     | rows s' es=>
      simp only at h;split at h
      ·split at h
       ·rename_i e;have e:=Nat.eq_of_beq_eq_true e;split at h
        ·rename_i v;cases h;cases i with
         | zero=>simp at c
         | succ i=>
          have:=q.drop<|s*m;rw[show s*m=es.flatten.length by rw[flat_len v,e,Nat.mul_comm],List.drop_left] at this;rw[show es.flatten.length=s*m by rw[flat_len v,e,Nat.mul_comm]] at this;exact upO_lst d this i k k' l f (by simpa using c)<|by simpa [plO] using a
        ·cases h
       ·cases h
      ·cases h
     | _=>cases h
theorem upO_ok{H':TH}: ∀{os:List OL} {p:TH} {y M:List TV} {A:Heap},upO os p=some y->All2 (λm v=>Rj H m v∧∀a,Qh H v a->Qh H' m a) M y->All2 (Qo H) p A->All2 (Qo H') (plO os M) A
 | [],p,y,M,A,h,q,d=>by
  cases p with
  | nil=>cases A with
   | nil=>trivial
   | cons=>exact d.elim
  | cons=>cases h
 | o::os,p,y,M,A,h,q,d=>by
  cases p with
  | nil=>cases h
  | cons b p=>
   cases A with
   | nil=>exact d.elim
   | cons a A=>
    simp only[upO] at h;split at h
    ·cases h
    ·rename_i vs f;cases o with
     | gone=>cases h;exact⟨trivial,upO_ok f q d.2⟩
     | box n=>
      cases b with
      | box cs=>
       simp only at h;split at h
       ·rename_i e;have e:=Nat.eq_of_beq_eq_true e;cases h;have k:=q.take n;have l:=q.drop n;rw[←e,List.drop_left] at l;rw[←e,List.take_left] at k;rw[e] at k l;refine⟨?_,upO_ok f l d.2⟩;let⟨aw,i,g⟩:=d.1;refine⟨aw,by rw[i,k.len],?_⟩;exact All2.of (by rw[g.len,k.len]) λj m c K F=>by
         let⟨v,D,z⟩:=k.get K;exact z.2 c<|g.at D F
       ·cases h
      | _=>cases h
     | lst S=>
      cases b with
      | lst k1 Z=>
       simp only at h;split at h
       ·rename_i e;have e:=Nat.eq_of_beq_eq_true e;cases h;cases M with
        | nil=>exact q.elim
        | cons m M=>
         refine⟨?_,upO_ok f q.2 d.2⟩;have i:=q.1.1.s;have g:=d.1;show Qo H' (toLst S m) a;clear q;unfold toLst;split
         ·split
          ·have:=i rfl rfl;cases this;exact g
          ·trivial
         ·trivial
       ·cases h
      | _=>cases h
     | map kk U=>
      cases b with
      | map Y b1 m1=>
       simp only at h;split at h
       ·rename_i t;split at h
        ·rename_i e2;have t:=Nat.eq_of_beq_eq_true t;have e2:=Nat.eq_of_beq_eq_true e2;cases h;cases M with
         | nil=>exact q.elim
         | cons m M=>
          refine⟨?_,upO_ok f q.2 d.2⟩;have i:=q.1.1.s;have g:=d.1;show Qo H' (toMap kk U m) a;clear q;unfold toMap;split
          ·split
           ·split
            ·have:=i rfl rfl;cases this;exact g
            ·trivial
           ·trivial
          ·trivial
        ·cases h
       ·cases h
      | _=>cases h
     | bx=>
      cases b with
      | box cs=>
       cases h;cases M with
       | nil=>exact q.elim
       | cons m M=>
        refine⟨?_,upO_ok f q.2 d.2⟩;obtain⟨Q,rfl,g⟩:=d.1;have i:=q.1.2 _<|Qh.mkA g;show Qo H' (toBx m) _;clear q;unfold toBx;split
        ·let⟨R,e,u⟩:=i.inA;cases e;exact⟨Q,by rw[←g.len,u.len],u⟩
        ·trivial
      | _=>cases h
     | it=>
      cases b with
      | it X p1=>
       cases h;cases M with
       | nil=>exact q.elim
       | cons m M=>
        refine⟨?_,upO_ok f q.2 d.2⟩;have i:=q.1.1.s;have g:=d.1;show Qo H' (toIt m) a;clear q;unfold toIt;split
        ·rename_i x W;have e:=itOf_eq W;have:=i rfl<|by rw[e];rfl
         rw[e] at this;cases this;exact g
        ·trivial
      | _=>cases h
     | rows s m=>
      cases b with
      | rows s' es=>
       simp only at h;split at h
       ·rename_i t;have t:=Nat.eq_of_beq_eq_true t;subst t;split at h
        ·rename_i e;have e:=Nat.eq_of_beq_eq_true e;split at h
         ·rename_i O;cases h;have E:es.flatten.length=s'*m:=by rw[flat_len O,e,Nat.mul_comm]
          have k:=q.take<|s'*m;have l:=q.drop<|s'*m;rw[←E,List.take_left] at k;rw[←E,List.drop_left] at l;rw[E] at k l;refine⟨?_,upO_ok f l d.2⟩;let⟨aw,i,g⟩:=d.1;refine⟨aw,i,?_⟩;have B:=chunk_flat O k;rw[e] at B;exact All2.of (by rw[g.len,B.len]) λj r a V G=>by
           let⟨e0,J,N⟩:=B.get V;have u:=g.at J G;exact All2.of (by rw[u.len,N.len]) λj m c K F=>by
            let⟨v,D,z⟩:=N.get K;exact z.2 c<|u.at D F
         ·cases h
        ·cases h
       ·cases h
      | _=>cases h
theorem msChk_ok: ∀{M:List TV},msChk H M=true->∀m∈M,∀i,RefL m i->∃(k:Nat) (l:List<|den k),H[i]?=some (.lst k l)
 | [],_,m,a=>by cases a
 | v::r,h,m,a=>by
  intro i e;rcases List.mem_cons.1 a with e2 | a
  ·subst e2;rcases e with⟨n,rfl⟩ | ⟨j,o,rfl⟩
   all_goals
    simp only[msChk] at h;split at h
    ·rename_i o b;split at h
     ·exact⟨_,_,b⟩
     ·cases h
    ·cases h
  ·refine msChk_ok (M:=r) ?_ _ a i e;cases v with
   | ms g d=>
    simp only[msChk] at h;split at h
    ·split at h
     ·exact h
     ·cases h
    ·cases h
   | pel g d o=>
    simp only[msChk] at h;split at h
    ·split at h
     ·exact h
     ·cases h
    ·cases h
   | _=>exact h
theorem get_ok{L:Lay}{p:L.P}{q:L.V}(h:L.get S=some (p,q))(x:Qt N S st): Qt N (L.mk' p q) st:=by
 unfold Lay.get at h;split at h
 ·rename_i vs w;split at h
  ·rename_i E c;split at h
   ·rename_i O y;split at h
    ·rename_i A;cases h;have C:=rdSrc_ok (H:=S.hp) y;have o:=upO_n c;have s:All2 (Rj S.hp) ((mkV L.ss p q).take<|nO L.os) E:=by
      have:=C.take<|nO L.os;rw[←o,List.take_left] at this;rw[o] at this;exact this
     have B:All2 (Rj S.hp) ((mkV L.ss p q).drop<|nO L.os) vs:=by
      have:=C.drop<|nO L.os;rw[←o,List.drop_left] at this;rw[o] at this;exact this
     have f:=upO_lst c s;have d:∀m v,m∈mkV L.ss p q->Rj S.hp m v->∀a,Qh S.hp v a->Qh (L.mk' p q).hp m a:=by
      intro m v b r a J;refine r.q _ (λi e k l K=>?_) a J;let⟨k',D,g⟩:=msChk_ok A m b i e;exact⟨k',D,g,f i k k' l D K g⟩
     refine⟨x.ln,λt m b=>?_,?_⟩
     ·have z:All2 (λm v=>∀a,Qh S.hp v a->Qh (L.mk' p q).hp m a) ((mkV L.ss p q).drop<|nO L.os) vs:=
       All2.of B.len λj m v b u=>d m v (List.mem_of_mem_drop<|List.mem_of_getElem? b)<|B.at b u
      let⟨v,G,M⟩:=upT_ok w z b;let⟨a,F,I⟩:=x.tm t v G;exact⟨a,F,M a I⟩
     ·refine upO_ok c ?_ x.hp;refine All2.of s.len λj m v b u=>⟨s.at b u,d m v (List.mem_of_mem_take<|List.mem_of_getElem? b)<|s.at b u⟩
    ·cases h
   ·cases h
  ·cases h
 ·cases h
theorem mkK_ok: ∀{ss:List Pl} {p:PrT<|shs false ss} {q:PrT<|shs true ss} {K:List TV->Option R} {r:R},mkK ss p q K=some r->
 ∃M,K M=some r∧All2 (λm i=>m=i∨∃b,m=.lit (.bool b)∧i=.lit (.bool b)) M (mkV ss p q)
 | [],p,q,K,r,h=>⟨[],h,trivial⟩
 | .con c::ss,p,q,K,r,h=>by
  let⟨M,a,d⟩:=mkK_ok (ss:=ss) h;exact⟨_,a,.inl rfl,d⟩
 | .p s::ss,p,q,K,r,h=>by
  let⟨M,a,d⟩:=mkK_ok (ss:=ss) h;exact⟨_,a,.inl rfl,d⟩
 | .v s::ss,p,q,K,r,h=>by
  have g:∃v,v=s.tv (PrT.hd q)∧mkK ss p (PrT.tl q) (λvs=>K (v::vs))=some r:=by
   simp only[mkK,splB] at h;split at h
   ·rename_i u f;split at h
    ·rename_i b;cases b with
     | true=>exact⟨_,f.symm,h⟩
     | false=>exact⟨_,f.symm,h⟩
    ·exact⟨_,f.symm,h⟩
   ·exact⟨_,rfl,h⟩
  let⟨v,e,h⟩:=g;let⟨M,a,d⟩:=mkK_ok h;exact⟨_,a,.inl e,d⟩
theorem mkB_ok{L:Lay}{p:L.P}{q:L.V}{K:TS->Option R}{r:R}(h:L.mkB p q K=some r): K (L.mk' p q)=some r:=by
 unfold Lay.mkB at h;let⟨M,g,c⟩:=mkK_ok h;have e:M=mkV L.ss p q:=by
  apply List.ext_getElem? ;intro j;cases a:M[j]? with
  | none=>
   rw[List.getElem?_eq_none_iff] at a;rw[eq_comm,List.getElem?_eq_none_iff,c.len];exact a
  | some m=>
   let⟨i,d,f⟩:=c.get a;rw[d];rcases f with rfl | ⟨b,rfl,rfl⟩<;>rfl
 subst e;exact g
end
inductive ClA(n:Nat): AV->AV->Prop
 | r (a):ClA n a a
 | s (a b m):n≤m->ClA n a b->ClA n a (clean3 m b)
theorem ClA.tr{n:Nat}{a b c:AV}(h:ClA n a b)(k:ClA n b c): ClA n a c:=by
 induction k with
 | r=>exact h
 | s b m e _ d=>exact .s _ _ m e d
def atB(l:List Bool)(t:Nat): Bool:=match l[t]? with
 | some b=>b
 | none=>false
def noD(t:Nat): List AOper->Bool
 | []=>true
 | o::r=>match o.dst with
  | none=>noD t r
  | some d=>match Nat.beq d t with
   | true=>false
   | false=>noD t r
def kpt(t:Nat): ACode->Bool
 | .skip=>true
 | .exit _=>true
 | .ret=>true
 | .stop=>true
 | .region _ _ ops=>noD t ops
 | .seq a b=>kpt t a&&kpt t b
 | .cond _ a b=>kpt t a&&kpt t b
 | .block _ c=>kpt t c
 | .scope c=>kpt t c
 | .loop live _ c=>(match live with
  | none=>true
  | some l=>atB l t)&&kpt t c
 | .mask lx _ _ c=>atB lx t&&kpt t c
 | .told li lx _ c=>(atB li t&&atB lx t)&&kpt t c
 | .frz u c=>!Nat.beq u t&&kpt t c
 | .nilIf ..=>false
 | .loopV ..=>false
def kpL(c:ACode): List Nat->Bool
 | []=>true
 | t::r=>match kpt t c with
  | true=>kpL c r
  | false=>false
section
variable {P:Program}{cf:CF}{fl lf n t:Nat}
theorem atB_ok{l:List Bool}(h:atB l t=true): l[t]?=some true:=by
 unfold atB at h;split at h
 ·rename_i b a;rw[a,h]
 ·cases h
theorem noD_put{tm:List AV}{d:Option Nat}{v:AV}(h:∀e,d=some e->e≠t): (putA tm d v)[t]?=tm[t]?:=by
 cases d with
 | none=>rfl
 | some e=>exact List.getElem?_set_ne<|h e rfl
theorem noD_ops[GlobT]: ∀{l:List AOper} {st st':St},noD t l=true->evOps P cf fl l st=some st'->st'.tmps[t]?=st.tmps[t]?
 | [],st,st',_,h=>by cases h;rfl
 | o::r,st,st',c,h=>by
  have b:noD t r=true∧∀e,o.dst=some e->e≠t:=by
   simp only[noD] at c;split at c
   ·rename_i e;exact⟨c,λg h=>by rw[e] at h;cases h⟩
   ·rename_i d e;split at c
    ·cases c
    ·rename_i f;exact⟨c,λg h=>by rw[e] at h;cases h;exact Nat.ne_of_beq_eq_false f⟩
  simp only[evOps] at h;split at h
  ·rename_i i a;rw[noD_ops b.1 h];unfold evOper at a;split at a
   ·split at a
    ·cases a;exact noD_put b.2
    ·cases a
   ·cases a;exact noD_put b.2
   ·cases a
  ·cases h
theorem noD_ph{k n:Nat}: ∀{l:List AOper},noD t l=true->noD t (setPh l k n)=true:=by
 induction k with
 | zero=>intro l h;cases l with
  | nil=>exact h
  | cons o r=>simp only[setPh,noD] at h ⊢;exact h
 | succ k ih=>intro l h;cases l with
  | nil=>exact h
  | cons o r=>
   simp only[setPh,noD] at h ⊢;split
   ·rename_i e;simp only[e] at h;exact ih h
   ·rename_i d e;simp only[e] at h;split
    ·rename_i g;rw[g] at h;cases h
    ·rename_i g;rw[g] at h;exact ih h
def Kp(n t:Nat)(st st':St): Prop:=n≤st'.heap.length∧∀a,st.tmps[t]?=some a->∃b,st'.tmps[t]?=some b∧ClA n a b
theorem Kp.tr{d f e:St}(h:Kp n t d f)(k:Kp n t f e): Kp n t d e:=⟨k.1,λa j=>by
 let⟨b,g,q⟩:=h.2 a j;let⟨c,l,i⟩:=k.2 b g;exact⟨c,l,q.tr i⟩⟩
theorem Kp.same{st st':St}(c:n≤st'.heap.length)(h:st'.tmps[t]?=st.tmps[t]?): Kp n t st st':=⟨c,λa b=>⟨a,by rw[h];exact b,.r a⟩⟩
theorem Kp.head[GlobT]{live:Option<|List Bool}{tr:Bool}{m:Nat}{st:St}(f:n≤st.heap.length)(c:n≤m)(b:fl≤n)(h:∀l,live=some l->atB l t=true): Kp n t st<|headSt live tr fl m st:=by
 refine⟨(headSt_fr ⟨b,f⟩ ⟨b,c⟩).2,λa d=>?_⟩;have e:(maskO live st.tmps)[t]?=some a:=by
  cases live with
  | none=>exact d
  | some l=>exact (maskL_at _ _ _<|atB_ok<|h l rfl).trans d
 cases tr with
 | false=>exact⟨a,e,.r a⟩
 | true=>exact⟨clean3 m a,by simp only[headSt,if_true,List.getElem?_map,e];rfl,.s _ _ m c<|.r a⟩
theorem Kp.loop{b:St->St}{step:St->Option (AExit×St)}(i:∀st,n≤st.heap.length->Kp n t st (b st))(d:∀st x st',n≤st.heap.length->step st=some (x,st')->x≠.ret->Kp n t st st'):
 ∀(m:Nat) (st:St) (x:AExit) (st':St),n≤st.heap.length->evLoop b step m st=some (x,st')->x≠.ret->Kp n t st st'
 | 0,_,_,_,_,h,_=>by cases h
 | m+1,st,x,st',k,a,j=>by
  simp only[evLoop] at a;have c:=i st k;split at a
  ·rename_i f he;have g:=d _ _ _ c.1 he (by intro e;cases e);exact (c.tr g).tr<|Kp.loop i d m f x st' g.1 a j
  ·exact c.tr<|d _ _ _ c.1 a j
theorem and_t{a b:Bool}(h:(a&&b)=true): a=true∧b=true:=by simpa using h
theorem kpt_ok[GlobT](g:FlOK cf)(m:fl≤n): ∀(c:ACode) (st:St) (x:AExit) (st':St),kpt t c=true->n≤st.heap.length->evC P cf lf fl c st=some (x,st')->x≠.ret->Kp n t st st'
 | .skip,st,x,st',_,f,d,_=>by simp only[evC] at d;cases d;exact .same f rfl
 | .exit _,st,x,st',_,f,d,_=>by simp only[evC] at d;cases d;exact .same f rfl
 | .ret,st,x,st',_,f,d,o=>by simp only[evC] at d;cases d;exact (o rfl).elim
 | .stop,st,x,st',_,f,d,_=>by simp only[evC] at d;cases d
 | .region _ I ops,st,x,st',j,f,d,_=>by
  simp only[evC] at d;split at d
  ·rename_i h he;cases d;rcases evReg_ops g he with ⟨_,k⟩ | ⟨_,_,z,_,k⟩
   ·exact .same (evOps_fr g ops st _ ⟨m,f⟩ k).2<|noD_ops j k
   ·have a:=Fr.app (L:=[.blk z.length [z.map .lit]]) ⟨m,f⟩;have y:=noD_ops (noD_ph j) k;have w:=(evOps_fr g _ _ _ (Fr.go ⟨m,f⟩ a) k).2;exact .same w y
  ·cases d
 | .seq a b,st,x,st',j,f,d,o=>by
  let⟨p,q⟩:=and_t j;simp only[evC] at d;split at d
  ·rename_i h he;have k:=kpt_ok g m a st _ h p f he (by intro e;cases e);exact k.tr<|kpt_ok g m b h x st' q k.1 d o
  ·exact kpt_ok g m a st x st' p f d o
 | .cond c a b,st,x,st',j,f,d,o=>by
  let⟨p,q⟩:=and_t j;simp only[evC] at d;split at d
  ·exact kpt_ok g m a st x st' p f d o
  ·exact kpt_ok g m b st x st' q f d o
  ·cases d
 | .block id c,st,x,st',j,f,d,o=>by
  simp only[evC] at d;split at d
  ·rename_i i h he;have k:=kpt_ok g m c st _ h j f he (by intro e;cases e);split at d<;>cases d<;>exact k
  ·exact kpt_ok g m c st x st' j f d o
 | .scope c,st,x,st',j,f,d,o=>by
  simp only[evC] at d;exact kpt_ok g m c st x st' j f d o
 | .loop live tr c,st,x,st',j,f,d,o=>by
  let⟨p,q⟩:=and_t j;simp only[evC] at d;exact Kp.loop (λs z=>Kp.head z f m λl e=>by rw[e] at p;exact p) (λs y s' z he G=>kpt_ok g m c s y s' q z he G) lf st x st' f d o
 | .frz u c,st,x,st',j,f,d,o=>by
  let⟨p,q⟩:=and_t j;simp only[evC] at d;split at d
  ·rename_i v H he;have r:n≤H.length:=(evOp_fr g ⟨m,f⟩ he).2;have k:Kp n t st ⟨st.tmps.set u v,H⟩:=.same r<|List.getElem?_set_ne<|Nat.ne_of_beq_eq_false (by simpa using p);exact k.tr<|kpt_ok g m c _ x st' q r d o
  ·cases d
 | .mask D C tr c,st,x,st',j,f,d,o=>by
  let⟨p,q⟩:=and_t j;simp only[evC,maskR] at d;split at d
  ·rename_i F h he;split at d
   ·cases d;exact (o rfl).elim
   ·cases d;have k:=kpt_ok g m c st _ h q f he (by intro e;cases e);exact k.tr<|Kp.head k.1 f m λl e=>by cases e;exact p
   ·cases d;have k:=kpt_ok g m c st _ h q f he (by intro e;cases e);exact k.tr<|Kp.head k.1 f m λl e=>by cases e;exact p
  ·cases d
 | .told w D C c,st,x,st',j,f,d,o=>by
  let⟨p,q⟩:=and_t j;let⟨E,A⟩:=and_t p;have B:Kp n t st ⟨maskL w st.tmps,st.heap⟩:=.same f<|maskL_at _ _ _<|atB_ok E;simp only[evC,maskR] at d;split at d
  ·rename_i F h he;split at d
   ·cases d;exact (o rfl).elim
   ·cases d;have k:=kpt_ok g m c ⟨maskL w st.tmps,st.heap⟩ _ h q f he (by intro e;cases e);exact (B.tr k).tr<|Kp.head k.1 f m λl e=>by cases e;exact A
   ·cases d;have k:=kpt_ok g m c ⟨maskL w st.tmps,st.heap⟩ _ h q f he (by intro e;cases e);exact (B.tr k).tr<|Kp.head k.1 f m λl e=>by cases e;exact A
  ·cases d
 | .nilIf ..,st,x,st',j,f,d,o=>by cases j
 | .loopV ..,st,x,st',j,f,d,o=>by cases j
theorem kpL_ok{c:ACode}: ∀{l:List Nat},kpL c l=true->∀t∈l,kpt t c=true
 | [],_,t,a=>by cases a
 | u::l,h,t,a=>by
  simp only[kpL] at h;split at h
  ·rename_i b;rcases List.mem_cons.1 a with rfl | a
   ·exact b
   ·exact kpL_ok h t a
  ·cases h
end
section
variable [RowT]{H H1:TH}{n:Nat}
theorem cln1_2{n m:Nat}(h:n≤m)(v:TV): clnT1 m (clnT1 n v)=clnT1 n v:=by
 have k:∀i,Nat.blt i n=true->Nat.blt i m=true:=λi e=>by
  have:i<n:=by simpa [Nat.blt_eq] using e
  simpa [Nat.blt_eq] using Nat.lt_of_lt_of_le this h
 cases v with
 | fn vi cs=>cases cs<;>rfl
 | ms i m=>simp only[clnT1];cases a:Nat.blt i n with | true=>simp only[clnT1,k _ a] | false=>rfl
 | ptr i o=>simp only[clnT1];cases a:Nat.blt i n with | true=>simp only[clnT1,k _ a] | false=>rfl
 | pel i j o=>simp only[clnT1];cases a:Nat.blt i n with | true=>simp only[clnT1,k _ a] | false=>rfl
 | mp i=>simp only[clnT1];cases a:Nat.blt i n with | true=>simp only[clnT1,k _ a] | false=>rfl
 | it i=>simp only[clnT1];cases a:Nat.blt i n with | true=>simp only[clnT1,k _ a] | false=>rfl
 | rs i m=>simp only[clnT1];cases a:Nat.blt i n with | true=>simp only[clnT1,k _ a] | false=>rfl
 | rel i m j o=>simp only[clnT1];cases a:Nat.blt i n with | true=>simp only[clnT1,k _ a] | false=>rfl
 | _=>rfl
theorem clnC_2{n m:Nat}(h:n≤m)(v:TV): clnC m (clnC n v)=clnC n v:=by
 have k:∀i,Nat.blt i n=true->Nat.blt i m=true:=λi e=>by
  have:i<n:=by simpa [Nat.blt_eq] using e
  simpa [Nat.blt_eq] using Nat.lt_of_lt_of_le this h
 cases v with
 | fn vi cs=>simp only[clnC,List.map_map];congr 1;exact List.map_congr_left λc _=>cln1_2 h c
 | ms i x=>simp only[clnC,clnT1];cases a:Nat.blt i n with | true=>simp only[clnC,clnT1,k _ a] | false=>rfl
 | ptr i o=>simp only[clnC,clnT1];cases a:Nat.blt i n with | true=>simp only[clnC,clnT1,k _ a] | false=>rfl
 | pel i j o=>simp only[clnC,clnT1];cases a:Nat.blt i n with | true=>simp only[clnC,clnT1,k _ a] | false=>rfl
 | mp i=>simp only[clnC,clnT1];cases a:Nat.blt i n with | true=>simp only[clnC,clnT1,k _ a] | false=>rfl
 | it i=>simp only[clnC,clnT1];cases a:Nat.blt i n with | true=>simp only[clnC,clnT1,k _ a] | false=>rfl
 | rs i x=>simp only[clnC,clnT1];cases a:Nat.blt i n with | true=>simp only[clnC,clnT1,k _ a] | false=>rfl
 | rel i x j o=>simp only[clnC,clnT1];cases a:Nat.blt i n with | true=>simp only[clnC,clnT1,k _ a] | false=>rfl
 | _=>rfl
theorem clnT_2{n m:Nat}(h:n≤m)(v:TV): clnT m (clnT n v)=clnT n v:=by
 have k:∀i,Nat.blt i n=true->Nat.blt i m=true:=λi e=>by
  have:i<n:=by simpa [Nat.blt_eq] using e
  simpa [Nat.blt_eq] using Nat.lt_of_lt_of_le this h
 cases v with
 | agg cs=>simp only[clnT,List.map_map];congr 1;exact List.map_congr_left λc _=>clnC_2 h c
 | fn vi cs=>exact clnC_2 h<|.fn vi cs
 | ms i x=>simp only[clnT,clnC,clnT1];cases a:Nat.blt i n with | true=>simp only[clnT,clnC,clnT1,k _ a] | false=>rfl
 | ptr i o=>simp only[clnT,clnC,clnT1];cases a:Nat.blt i n with | true=>simp only[clnT,clnC,clnT1,k _ a] | false=>rfl
 | pel i j o=>simp only[clnT,clnC,clnT1];cases a:Nat.blt i n with | true=>simp only[clnT,clnC,clnT1,k _ a] | false=>rfl
 | mp i=>simp only[clnT,clnC,clnT1];cases a:Nat.blt i n with | true=>simp only[clnT,clnC,clnT1,k _ a] | false=>rfl
 | it i=>simp only[clnT,clnC,clnT1];cases a:Nat.blt i n with | true=>simp only[clnT,clnC,clnT1,k _ a] | false=>rfl
 | rs i x=>simp only[clnT,clnC,clnT1];cases a:Nat.blt i n with | true=>simp only[clnT,clnC,clnT1,k _ a] | false=>rfl
 | rel i x j o=>simp only[clnT,clnC,clnT1];cases a:Nat.blt i n with | true=>simp only[clnT,clnC,clnT1,k _ a] | false=>rfl
 | _=>rfl
theorem clnO_2{n m:Nat}(h:n≤m)(o:TObj): clnO m (clnO n o)=clnO n o:=by
 cases o with
 | box cs=>simp only[clnO,List.map_map];congr 1;exact List.map_congr_left λc _=>clnC_2 h c
 | rows s es=>simp only[clnO,List.map_map];congr 1;exact List.map_congr_left λe _=>by simp only[Function.comp,List.map_map];exact List.map_congr_left λc _=>clnC_2 h c
 | fr k a=>
  simp only[clnO];cases d:Nat.ble k n with
  | true=>simp only[clnO,Nat.ble_eq_true_of_le<|Nat.le_trans (Nat.le_of_ble_eq_true d) h]
  | false=>rfl
 | _=>rfl
theorem clnT_id{v:TV}{a:AV}(q:Qh H v a): Qh ((H.take n).map<|clnO n) (clnT n v) a:=by
 cases v with
 | agg cs=>
  obtain⟨aw,rfl,c⟩:=q.inA;exact Qh.mkA<|c.mapL λ_ _ q=>(clnC_ok q).2
 | undef=>exact Qh.u _
 | tup=>exact Qh.u _
 | _=>exact (clnC_ok (n:=n) q).2
theorem cl_t{v:TV}{a b:AV}(c:n=H.length)(q:Qh H v a)(h:ClA n a b): Qh (H.map<|clnO n) (clnT n v) b:=by
 induction h with
 | r=>
  have:=clnT_id (n:=n) q;rw[c,List.take_length] at this;rw[c];exact this
 | s b m d _ f=>
  have:=clnT_ok (n:=m) f;rw[clnT_2 d,List.take_of_length_le<|by simp;omega,List.map_map] at this;have e:clnO m∘clnO n=clnO n:=funext λo=>clnO_2 d o;rw[e] at this;exact this
theorem cl_o{o:TObj}{a b:AObj}(c:n=H.length)(q:Qo H o a)(h:ClO n a b): Qo (H.map<|clnO n) (clnO n o) b:=by
 induction h with
 | r=>
  have:=(clnO_ok (n:=n) q).2;rw[c,List.take_length] at this;rw[c];exact this
 | s b m d _ f=>
  have:=(clnO_ok (n:=m) f).1;rw[clnO_2 d,List.take_of_length_le<|by simp;omega,List.map_map] at this;have e:clnO m∘clnO n=clnO n:=funext λo=>clnO_2 d o;rw[e] at this;exact this
end
section
variable [RowT]{R:Type}{H H1:TH}{A:Heap}{N:Nat}{S:TS}{st:St}{P:Program}{T:List AFun}{cf:CF}{op:AOp}{K:TV->TS->Option R}{r:R}{E:XE}{n:Nat}{d:Option Nat}
def AllO{P:Type}(Q:(o:Out P)->o.lay.V->Prop): (l:List<|Out P)->SumO l->Prop
 | [],t=>t.elim
 | [o],t=>Q o t
 | o::o'::r,t=>match t with
  | .inl t=>Q o t
  | .inr s=>AllO Q (o'::r) s
theorem AllO.two{P:Type}{Q b:(o:Out P)->o.lay.V->Prop}: ∀{l:List<|Out P} {t:SumO l},AllO Q l t->AllO b l t->∃o∈l,∃t,Q o t∧b o t
 | [],t,_,_=>t.elim
 | [o],t,h,k=>⟨o,List.mem_cons_self,t,h,k⟩
 | o::a::r,.inl t,h,k=>⟨o,List.mem_cons_self,t,h,k⟩
 | o::a::r,.inr t,h,k=>let ⟨o,c,t,h⟩:=AllO.two (l:=a::r) h k;⟨o,List.mem_cons_of_mem _ c,t,h⟩
theorem sw_ok{P R:Type}{p:P}{b:Bool}{K:AExit->TS->Option R}{r:R}: ∀{l:List<|Out P} {x:Option<|SumO l},swO p b l x K=some r->∃t,x=some t∧AllO (λo t=>K o.x (o.lay.mk' (o.pr p) t)=some r) l t
 | [],x,h=>by cases h
 | [o],x,h=>by
  simp only[swO] at h;obtain⟨t,rfl,h⟩:=bnd_some h;refine⟨t,rfl,?_⟩;split at h
  ·exact mkB_ok h
  ·exact h
 | o::a::l,x,h=>by
  simp only[swO] at h;rcases bnd2_some h with⟨t,rfl,h⟩ | ⟨s,rfl,h⟩
  ·refine⟨.inl t,rfl,?_⟩;split at h
   ·exact mkB_ok h
   ·exact h
  ·let⟨t,e,h⟩:=sw_ok (l:=a::l) h;cases e;exact⟨.inr _,rfl,h⟩
theorem upO_len: ∀{os:List OL} {H:TH} {c:List TV},upO os H=some c->H.length=os.length
 | [],H,c,h=>by
  cases H with
  | nil=>rfl
  | cons=>cases h
 | o::os,H,c,h=>by
  cases H with
  | nil=>cases h
  | cons b H=>
   simp only[upO] at h;split at h
   ·cases h
   ·rename_i vs a;simp[upO_len a]
theorem get_len{L:Lay}{S:TS}{x:L.P×L.V}(h:L.get S=some x): S.hp.length=L.os.length:=by
 unfold Lay.get at h;split at h
 ·split at h
  ·rename_i a;exact upO_len a
  ·cases h
 ·cases h
theorem get_hm{L:Lay}{p:L.P}{q:L.V}(h:L.get S=some (p,q))(i k k':Nat)(l:List<|den k)(c:List<|den k')(f:S.hp[i]?=some (.lst k l))(n:(L.mk' p q).hp[i]?=some (.lst k' c)): c.length=l.length:=by
 unfold Lay.get at h;split at h
 ·split at h
  ·rename_i m a;split at h
   ·rename_i o b;split at h
    ·cases h;have g:=rdSrc_ok (H:=S.hp) b;have e:=upO_n a;have j:All2 (Rj S.hp) ((mkV L.ss p q).take<|nO L.os) m:=by
      have:=g.take<|nO L.os;rw[←e,List.take_left] at this;rw[e] at this;exact this
     exact upO_lst a j i k k' l c f n
    ·cases h
   ·cases h
  ·cases h
 ·cases h
theorem lstB_ok{kl:List Nat}: ∀{i:Nat} {H H':TH},lstB kl i H H'=true->∀(j k:Nat) (l:List<|den k),i+j∉kl->H[j]?=some (.lst k l)->∃(k':Nat) (f:List<|den k'),H'[j]?=some (.lst k' f)
 | i,[],H',h,j,k,l,_,c=>by simp at c
 | i,a::r,[],h,_,_,_,_,_=>by cases h
 | i,a::r,b::s,h,j,k,l,n,c=>by
  have o:lstB kl (i+1) r s=true->∀e,j=e+1->∃(k':Nat) (f:List<|den k'),(b::s)[j]?=some (.lst k' f):=by
   rintro q e rfl;let⟨k',f,g⟩:=lstB_ok q e k l (by rw[Nat.add_assoc,Nat.add_comm 1];exact n) (by simpa using c);exact⟨k',f,by simpa using g⟩
  simp only[lstB] at h;cases j with
  | succ e=>
   refine o ?_ e rfl;split at h
   ·split at h
    ·exact h
    ·split at h
     ·exact h
     ·cases h
   ·exact h
  | zero=>
   simp only[List.getElem?_cons_zero,Option.some.injEq] at c;subst c;simp only at h;split at h
   ·exact⟨_,_,rfl⟩
   ·split at h
    ·rename_i p;exact absurd p<|by rw[memN_f<|by simpa using n];simp
    ·cases h
theorem okFo_ok{os:List OL}: ∀{l:List Nat},okFo os l=true->∀i∈l,os[i]?=some .gone
 | [],_,i,a=>by cases a
 | j::l,h,i,a=>by
  simp only[okFo] at h;split at h
  ·rename_i o b;split at h
   ·rcases List.mem_cons.1 a with rfl | a
    ·exact b
    ·exact okFo_ok h i a
   ·cases h
  ·cases h
theorem plO_gone: ∀{os:List OL} {vs:List TV} {i:Nat} {o:TObj},os[i]?=some .gone->(plO os vs)[i]?=some o->o=.gone
 | [],vs,i,o,h,_=>by simp at h
 | c::os,vs,0,o,h,a=>by
  simp only[List.getElem?_cons_zero,Option.some.injEq] at h;subst h;simp only[plO,List.getElem?_cons_zero,Option.some.injEq] at a;exact a.symm
 | c::os,vs,i+1,o,h,a=>by
  have b:os[i]?=some .gone:=by simpa using h
  clear h;cases c<;>simp only[plO] at a<;>first
   | exact plO_gone b (by simpa using a)
   | (split at a<;>first | exact plO_gone b (by simpa using a) | (simp at a))
theorem fit_get{L:Lay}{S:TS}{x:L.P×L.V}(h:L.fit S=some x): L.get S=some x∧∀i∈L.fo,L.os[i]?=some .gone:=by
 unfold Lay.fit at h;split at h
 ·rename_i e;exact⟨h,okFo_ok e⟩
 ·cases h
theorem ovO_len{n:Nat}{φ:Nat->AObj}: ∀{l:List Nat} {H:TH},(ovO n φ l H).length=H.length
 | [],_=>rfl
 | _::r,H=>by simp[ovO,ovO_len (l:=r)]
theorem ovO_ni{n:Nat}{φ:Nat->AObj}{i:Nat}: ∀{l:List Nat} {H:TH},i∉l->(ovO n φ l H)[i]?=H[i]?
 | [],_,_=>rfl
 | j::r,H,h=>by
  simp only[List.mem_cons,not_or] at h;rw[ovO,List.getElem?_set_ne λe=>h.1 e.symm];exact ovO_ni h.2
theorem ovO_in{n:Nat}{φ:Nat->AObj}{i:Nat}: ∀{l:List Nat} {H:TH},i∈l->i<H.length->(ovO n φ l H)[i]?=some (.fr n<|φ i)
 | j::r,H,h,a=>by
  rw[ovO,List.getElem?_set];split
  ·rename_i e;subst e;rw[if_pos<|by rw[ovO_len];exact a]
  ·rename_i e;rcases List.mem_cons.1 h with rfl | h
   ·exact (e rfl).elim
   ·exact ovO_in h a
theorem rsO_len{kl:List Nat}{n:Nat}{a:TH}: ∀{l:List Nat} {H:TH},(rsO kl n a l H).length=H.length
 | [],_=>rfl
 | _::r,H=>by
  simp only[rsO];split<;>simp[rsO_len (l:=r)]
theorem rsO_ni{kl:List Nat}{n i:Nat}{a:TH}: ∀{l:List Nat} {H:TH},i∉l->(rsO kl n a l H)[i]?=H[i]?
 | [],_,_=>rfl
 | j::r,H,h=>by
  simp only[List.mem_cons,not_or] at h;rw[rsO];split
  ·rw[List.getElem?_set_ne λe=>h.1 e.symm];exact rsO_ni h.2
  ·exact rsO_ni h.2
theorem rsO_in{kl:List Nat}{n i:Nat}{d:TH}{o:TObj}(c:d[i]?=some o): ∀{l:List Nat} {H:TH},i∈l->i<H.length->(rsO kl n d l H)[i]?=some (killO kl<|clnO n o)
 | j::r,H,h,b=>by
  rw[rsO];rcases List.mem_cons.1 h with rfl | h
  ·rw[c];exact List.getElem?_set_self<|by rw[rsO_len];exact b
  ·split
   ·rename_i f a;rw[List.getElem?_set];split
    ·rename_i e;subst e;rw[c] at a;cases a;rw[if_pos<|by rw[rsO_len];exact b]
    ·exact rsO_in c h b
   ·exact rsO_in c h b
theorem hm_ov{L:Lay}{n:Nat}{φ:Nat->AObj}{p:L.P}{q:L.V}(h:∀i∈L.fo,L.os[i]?=some .gone): HM (L.mk' p q).hp (L.mkG n φ p q).hp:=by
 intro i k l a;have b:i∉L.fo:=λc=>by cases plO_gone (h i c) a
 exact⟨k,l,by rw[←a];exact ovO_ni b,rfl⟩
theorem ov_ok{L:Lay}{n:Nat}{φ:Nat->AObj}{p:L.P}{q:L.V}(h:∀i∈L.fo,L.os[i]?=some .gone)(c:Qt N (L.mk' p q) st)(k:∀i∈L.fo,∀b,st.heap[i]?=some b->ClO n (φ i) b): Qt N (L.mkG n φ p q) st:=by
 refine Qt.hpM (S:=L.mk' p q) (st:=st) c (hm_ov h)<|All2.of (by rw[c.hp.len];exact ovO_len.symm) λj o b d f=>?_;by_cases e:j∈L.fo
 ·have g:j<(L.mk' p q).hp.length:=by rw[←c.hp.len];exact (List.getElem?_eq_some_iff.1 f).1
  rw[ovO_in e g] at d;cases d;exact k j e b f
 ·rw[ovO_ni e] at d;exact (c.hp.at d f).mono<|hm_ov h
theorem fit_ok{L:Lay}{p:L.P}{q:L.V}{n:Nat}{φ:Nat->AObj}(h:L.fit S=some (p,q))(a:Qt N S st)(c:∀i∈L.fo,∀b,st.heap[i]?=some b->ClO n (φ i) b): Qt N (L.mkG n φ p q) st:=
 ov_ok (fit_get h).2 (get_ok (fit_get h).1 a) c
theorem rdFo_ok{n:Nat}{φ:Nat->AObj}{H:TH}: ∀{l:List Nat},rdFo n H l=some (l.map φ)->∀i∈l,H[i]?=some (.fr n<|φ i)
 | [],_,i,a=>by cases a
 | j::l,h,i,a=>by
  simp only[rdFo] at h;split at h
  ·rename_i o c;split at h
   ·split at h
    ·rename_i e;have e:=Nat.eq_of_beq_eq_true e;subst e;split at h
     ·rename_i f b;simp only[List.map_cons,Option.some.injEq,List.cons.injEq] at h;obtain⟨rfl,rfl⟩:=h;rcases List.mem_cons.1 a with rfl | a
      ·exact c
      ·exact rdFo_ok b i a
     ·cases h
    ·cases h
   ·cases h
  ·cases h
theorem getF_ok{L:Lay}{p:L.P}{q:L.V}{n:Nat}{φ:Nat->AObj}(h:L.getF n S=some (L.fo.map φ,p,q))(a:Qt N S st): Qt N (L.mkG n φ p q) st:=by
 unfold Lay.getF at h;split at h
 ·rename_i f e;split at h
  ·rename_i x g;simp only[Option.some.injEq,Prod.mk.injEq] at h;obtain⟨rfl,rfl⟩:=h;exact fit_ok g a λi c b d=>a.hp.at (rdFo_ok e i c) d
  ·cases h
 ·cases h
theorem look_app{t:Nat}{v:TV}{B:TT}: ∀{A:TT},look t (A++B)=some v->look t A=some v∨look t B=some v
 | [],h=>.inr h
 | (s,u)::A,h=>by
  simp only[List.cons_append,look] at h ⊢;split at h
  ·exact .inl h
  ·exact look_app h
theorem look_rsT{kl:List Nat}{n t:Nat}{c:TT}{v:TV}: ∀{l:List Nat},look t (rsT kl n c l)=some v->t∈l∧∃u,look t c=some u∧v=kill2 kl (clnT n u)
 | [],h=>by cases h
 | s::l,h=>by
  simp only[rsT] at h;split at h
  ·rename_i u d;simp only[look] at h;split at h
   ·rename_i e;have e:=Nat.eq_of_beq_eq_true e;subst e;cases h;exact⟨List.mem_cons_self,u,d,rfl⟩
   ·let⟨a,b⟩:=look_rsT h;exact⟨List.mem_cons_of_mem _ a,b⟩
  ·let⟨a,b⟩:=look_rsT h;exact⟨List.mem_cons_of_mem _ a,b⟩
structure OKo(sp:LSp)(p:sp.ins.P)(q:sp.ins.V)(o:Out sp.ins.P): Prop where
 fo:o.lay.fo=sp.ins.fo
 hm:∀t,HMk sp.kl (sp.ins.mk' p q).hp (o.lay.mk' (o.pr p) t).hp
 ln:∀t,(sp.ins.mk' p q).hp.length≤(o.lay.mk' (o.pr p) t).hp.length
structure OKu(sp:LSp)(p:sp.ins.P)(q:sp.ins.V)(o:Out sp.ins.P)(u:o.lay.V): Prop where
 fo:o.lay.fo=sp.ins.fo
 hm:HMk sp.kl (sp.ins.mk' p q).hp (o.lay.mk' (o.pr p) u).hp
 ln:(sp.ins.mk' p q).hp.length≤(o.lay.mk' (o.pr p) u).hp.length
theorem OKo.at{sp:LSp}{p:sp.ins.P}{q:sp.ins.V}{o:Out sp.ins.P}(h:OKo sp p q o)(u:o.lay.V): OKu sp p q o u:=⟨h.fo,h.hm u,h.ln u⟩
theorem lenD_ok: ∀{H H':TH},lenD H H'=true->∀(j k:Nat) (l:List<|den k),H[j]?=some (.lst k l)->∃(k':Nat) (b:List<|den k'),H'[j]?=some (.lst k' b)∧b.length=l.length
 | [],_,_,j,k,l,c=>by simp at c
 | o::r,[],h,_,_,_,_=>by cases h
 | o::r,b::s,h,j,k,l,c=>by
  have w:(∀k (l:List<|den k),o=.lst k l->∃(k':Nat) (f:List<|den k'),b=.lst k' f∧f.length=l.length)∧lenD r s=true:=by
   cases o with
   | lst k l=>
    cases b with
    | lst k' f=>
     have h:(Nat.beq f.length l.length&&lenD r s)=true:=h
     have h:=(Bool.and_eq_true _ _).mp h
     exact⟨λ_ _ e=>by cases e;exact⟨_,_,rfl,Nat.eq_of_beq_eq_true h.1⟩,h.2⟩
    | _=>cases h
   | _=>exact⟨λ_ _ e=>(by cases e),h⟩
  cases j with
  | zero=>
   simp only[List.getElem?_cons_zero,Option.some.injEq] at c
   let⟨k',f,e,n⟩:=w.1 k l c;exact⟨k',f,by rw[e];rfl,n⟩
  | succ j=>exact lenD_ok w.2 j k l (by simpa using c)
theorem cnd_some{α:Type}{b:Bool}{x:Option α}{r:α}(h:cnd b x none=some r): b=true∧x=some r:=by
 cases b with
 | true=>exact⟨rfl,h⟩
 | false=>cases h
theorem clnO_lst{n i k:Nat}{l:List<|den k}(h:(H.map<|clnO n)[i]?=some (.lst k l)): H[i]?=some (.lst k l):=by
 rw[List.getElem?_map,Option.map_eq_some_iff] at h;let⟨o,b,a⟩:=h;cases o<;>simp only[clnO] at a<;>first | (cases a;done) | (cases a;exact b) | (split at a<;>cases a)
section
variable {N':Nat}{S1:TS}{st1 st2:St}{sp:LSp}{p:sp.ins.P}{q:sp.ins.V}{o:Out sp.ins.P}{φ:Nat->AObj}{u:o.lay.V}
theorem rsO_ok(F:Qt N S1 st1)(E:sp.ins.fit S1=some (p,q))(U:lstB (sp.kl++sp.ins.fo) 0 S1.hp (sp.ins.mk' p q).hp=true)(Y:∀i∈sp.ins.fo,∀b,st1.heap[i]?=some b->b=φ i)(G:OKu sp p q o u)(s:Qt N' (o.lay.mkG sp.ins.os.length φ (o.pr p) u) st2): HMk sp.kl S1.hp (rsO sp.kl S1.hp.length S1.hp sp.ins.fo (o.lay.mk' (o.pr p) u).hp)∧Qt N' ⟨(o.lay.mk' (o.pr p) u).tm,rsO sp.kl S1.hp.length S1.hp sp.ins.fo (o.lay.mk' (o.pr p) u).hp⟩ st2:=by
 have m:S1.hp.length=sp.ins.os.length:=get_len (fit_get E).1;have I:S1.hp.length=(sp.ins.mk' p q).hp.length:=by
  rw[←F.hp.len];exact (get_ok (fit_get E).1 F).hp.len
 have e:st2.heap.length=(o.lay.mk' (o.pr p) u).hp.length:=by rw[s.hp.len];exact ovO_len
 have L:∀i a,S1.hp[i]?=some a->i<(o.lay.mk' (o.pr p) u).hp.length:=λi a h=>by
  have h1:=(List.getElem?_eq_some_iff.1 h).1;have h2:=G.ln;omega
 have O:HMk sp.kl S1.hp<|rsO sp.kl S1.hp.length S1.hp sp.ins.fo (o.lay.mk' (o.pr p) u).hp:=by
  intro i k l g n;by_cases f:i∈sp.ins.fo
  ·exact⟨k,l,by rw[rsO_in n f<|L i _ n];rfl,rfl⟩
  ·let⟨k',M,Q⟩:=lstB_ok U i k l (by rw[Nat.zero_add];simp[g,f]) n;let⟨Z,V,X,W⟩:=G.hm i k' M g Q;exact⟨Z,V,by rw[rsO_ni f];exact X,by rw[W];exact get_hm (fit_get E).1 i k k' l M n Q⟩
 have x:∀i,i∉sp.ins.fo->(o.lay.mkG sp.ins.os.length φ (o.pr p) u).hp[i]?=(o.lay.mk' (o.pr p) u).hp[i]?:=λi g=>ovO_ni (by rw[G.fo];exact g);have v:∀i,i∈sp.ins.fo->i<(o.lay.mk' (o.pr p) u).hp.length->(o.lay.mkG sp.ins.os.length φ (o.pr p) u).hp[i]?=some (.fr sp.ins.os.length<|φ i):=λi g n=>ovO_in (by rw[G.fo];exact g) n;have D:HM (o.lay.mkG sp.ins.os.length φ (o.pr p) u).hp<|rsO sp.kl S1.hp.length S1.hp sp.ins.fo (o.lay.mk' (o.pr p) u).hp:=by
  intro i k l g;have K:i<(o.lay.mk' (o.pr p) u).hp.length:=by rw[←e,s.hp.len];exact (List.getElem?_eq_some_iff.1 g).1
  by_cases f:i∈sp.ins.fo
  ·rw[v i f K] at g;cases g
  ·exact⟨k,l,by rw[rsO_ni f,←x i f];exact g,rfl⟩
 refine⟨O,Qt.hpM (S:=o.lay.mkG sp.ins.os.length φ (o.pr p) u) s D<|All2.of (by rw[rsO_len];exact e) λj a b H r=>?_⟩;have A:j<(o.lay.mk' (o.pr p) u).hp.length:=by rw[←e];exact (List.getElem?_eq_some_iff.1 r).1
 by_cases f:j∈sp.ins.fo
 ·have y:ClO sp.ins.os.length (φ j) b:=s.hp.at (v j f A) r;have C:j<S1.hp.length:=by rw[m];exact (List.getElem?_eq_some_iff.1<|(fit_get E).2 j f).1
  have J:j<st1.heap.length:=by rw[F.hp.len];exact C
  have z:=List.getElem?_eq_getElem C;have t:=List.getElem?_eq_getElem J;rw[rsO_in z f A] at H;cases H;have R:=F.hp.at z t;rw[Y j f _ t] at R;rw[←m] at y;exact killO_ok (λi k l g n=>O i k l g<|clnO_lst n)<|cl_o rfl R y
 ·rw[rsO_ni f,←x j f] at H;exact (s.hp.at H r).mono D
theorem aft_ok{S:TS}{x:AExit}(s:Qt N S st)(I:Qt N S1 st1)(r:S1.hp.length=S.hp.length)(A:∀(i k:Nat) (l:List<|den k),S.hp[i]?=some (.lst k l)->S1.hp[i]?=some (.lst k l))(D:sp.ins.fit S1=some (p,q))(Q:lstB (sp.kl++sp.ins.fo) 0 S1.hp (sp.ins.mk' p q).hp=true)(O:∀i∈sp.ins.fo,∀b,st1.heap[i]?=some b->b=φ i)(L:OKo sp p q o)(V:Qt N (o.lay.mkG sp.ins.os.length φ (o.pr p) u) st2)(K:x≠.ret->∀t∈sp.kt,Kp sp.ins.os.length t st st2): Qt N (aft sp S.tm S1.hp x<|o.lay.mk' (o.pr p) u) st2:=by
 let⟨F,n⟩:=rsO_ok I D Q O (L.at u) V;have h:S1.hp.length=sp.ins.os.length:=get_len (fit_get D).1;have f:x≠.ret->Qt N ⟨(o.lay.mk' (o.pr p) u).tm++rsT sp.kl S1.hp.length S.tm sp.kt,rsO sp.kl S1.hp.length S1.hp sp.ins.fo (o.lay.mk' (o.pr p) u).hp⟩ st2:=by
  intro J;refine⟨n.ln,λt v g=>?_,n.hp⟩;rcases look_app g with g | g
  ·exact n.tm t v g
  ·obtain⟨M,w,E,rfl⟩:=look_rsT g;let⟨a,G,R⟩:=s.tm t w E;let⟨b,y,C⟩:=(K J t M).2 a G;refine⟨b,y,?_⟩;rw[←h] at C;exact kill2_ok (λi k l H r=>F i k l H<|A i k l<|clnO_lst r)<|cl_t r R C
 cases x with
 | ret=>exact n
 | normal=>exact f<|by intro e;cases e
 | exit j=>exact f<|by intro e;cases e
end
def IOK[GlobT](P:Program)(T:List AFun)(sp:ISp): Prop:=∀n p q t,sp.s.F n p q=some t->∀φ aw H,aw.length=sp.na->sp.fl≤H.length->Qt aw.length (sp.s.ins.mkG sp.s.ins.os.length φ p q) ⟨aw,H⟩->
 ∃aw' H',evF P T n sp.fl sp.vi aw H=some (packA aw',H')∧aw'.length=sp.nr∧AllO (λo t=>Qt sp.nr (o.lay.mkG sp.s.ins.os.length φ (o.pr p) t) ⟨aw',H'⟩∧OKo sp.s p q o) sp.s.outs t
theorem enum_ok: ∀{vs:List TV} {aw:List AV} {i t:Nat} {v:TV},Qc H vs aw->look t (enumT i vs)=some v->∃j a,t=i+j∧aw[j]?=some a∧Qh H v a
 | [],_,i,t,v,_,h=>by cases h
 | u::vs,a::aw,i,t,v,q,h=>by
  simp only[enumT,look] at h;split at h
  ·rename_i e;have e:=Nat.eq_of_beq_eq_true e;cases h;exact⟨0,a,by omega,rfl,q.1⟩
  ·let⟨j,b,f,d,c⟩:=enum_ok q.2 h;exact⟨j+1,b,by omega,by simpa using d,c⟩
theorem enum_qt{vs:List TV}{aw:List AV}(b:Qs H A)(q:Qc H vs aw): Qt aw.length ⟨enumT 0 vs,H⟩ ⟨aw,A⟩:=by
 refine⟨rfl,λt v f=>?_,b⟩;let⟨j,a,e,c,d⟩:=enum_ok q f;exact⟨a,by rw[e,Nat.zero_add];exact c,d⟩
theorem look0{c t:Nat}{b:List AV}{e:Heap}(h:Qt c S ⟨b,e⟩)(f:t<c): ∃a,b[t]?=some a∧Qh S.hp (match look t S.tm with | some v=>v | none=>.undef) a:=by
 cases d:look t S.tm with
 | some v=>exact h.tm t v d
 | none=>exact⟨b[t]'(by rw[h.ln];exact f),List.getElem?_eq_getElem _,Qh.u _⟩
theorem resT_ok{d:Nat}{c:List AV}{o:Heap}(h:Qt d S ⟨c,o⟩): Qh S.hp (resT d S.tm)<|packA c:=by
 have q:c.length=d:=h.ln;have f:∀d,Qt d S ⟨c,o⟩->Qh S.hp (.tup<|(List.range d).map λj=>match look j S.tm with | some v=>v | none=>.undef) (.tup c):=by
  intro d h;refine Qh.mkT<|All2.of (by simp[h.ln]) λj v a p k=>?_;rw[List.getElem?_map,Option.map_eq_some_iff] at p;obtain⟨n,l,rfl⟩:=p;have e:n=j:=by
   rw[List.getElem?_range<|by rw[←h.ln];exact (List.getElem?_eq_some_iff.1 k).1] at l;cases l;rfl
  subst e;let⟨b,g,i⟩:=look0 h (t:=n) (by rw[←h.ln];exact (List.getElem?_eq_some_iff.1 k).1);rw[k] at g;cases g;exact i
 match d,c,h,q with
 | 0,[],h,_=>exact f 0 h
 | 1,[a],h,_=>
  let⟨b,g,i⟩:=look0 h (t:=0) (by omega);cases g;exact i
 | m+2,a::b::r,h,_=>exact f _ h
theorem callI_ok[GlobT]{fl vi:Nat}{vs:List TV}{aw:List AV}(d:fl≤st.heap.length)(v:Qt N S st)(q:Qc S.hp vs aw): ∀{l:List ISp},(∀sp∈l,IOK P T sp)->callI n fl vi vs S K l=some r->
 ∃a A tv m,evF P T n fl vi aw st.heap=some (a,A)∧Qt N m ⟨st.tmps,A⟩∧Qh m.hp tv a∧K tv m=some r
 | [],_,h=>by cases h
 | sp::l,y,h=>by
  have e:callI n fl vi vs S K l=some r->_:=callI_ok d v q λsp h=>y sp<|List.mem_cons_of_mem _ h;simp only[callI] at h;split at h
  ·exact e h
  ·rename_i w;have w:=Nat.eq_of_beq_eq_true w;split at h
   ·exact e h
   ·rename_i e2;have e2:=Nat.eq_of_beq_eq_true e2;split at h
    ·exact e h
    rename_i k;have k:=Nat.eq_of_beq_eq_true k;split at h
    ·rename_i p q' x;split at h
     ·rename_i j;have f:=enum_qt v.hp q;let φ:Nat->AObj:=λi=>(st.heap[i]?).getD default;have z:∀i b,st.heap[i]?=some b->b=φ i:=λi b c=>by show b=(st.heap[i]?).getD default;rw[c];rfl
      split at h
      rotate_left
      ·split at h
       ·rename_i j2;let⟨t,G,g⟩:=sw_ok h
        let⟨H,H',C,L,F⟩:=y sp List.mem_cons_self n p q' t G φ aw st.heap (by rw[q.len];exact k) (by rw[e2];exact d) (fit_ok x f λi M b c=>by rw[z i b c];exact .r _);let⟨o,_,u,⟨J,E⟩,D⟩:=AllO.two F g
        obtain⟨D0,D⟩:=cnd_some D
        have E2:OKu {sp.s with kl:=[]} p q' o u:=⟨E.fo,λi k l _ h=>lenD_ok D0 i k l h,E.ln u⟩
        let⟨I,B⟩:=rsO_ok (sp:={sp.s with kl:=[]}) f x j2 (λi _ b c=>z i b c) E2 J;exact⟨_,H',resT sp.nr (o.lay.mk' (o.pr p) u).tm,⟨S.tm,rsO [] S.hp.length S.hp sp.s.ins.fo (o.lay.mk' (o.pr p) u).hp⟩,by rw[←w,←e2];exact C,kills_ok (f:=[]) v I B.hp,resT_ok B,D⟩
       ·exact e h
      let⟨t,G,g⟩:=sw_ok h
      let⟨H,H',C,L,F⟩:=y sp List.mem_cons_self n p q' t G φ aw st.heap (by rw[q.len];exact k) (by rw[e2];exact d) (fit_ok x f λi M b c=>by rw[z i b c];exact .r _);let⟨o,_,u,⟨J,E⟩,D⟩:=AllO.two F g;let⟨I,B⟩:=rsO_ok f x j (λi _ b c=>z i b c) (E.at u) J;exact⟨_,H',resT sp.nr (o.lay.mk' (o.pr p) u).tm,⟨killT sp.kl S.tm,rsO sp.kl S.hp.length S.hp sp.s.ins.fo (o.lay.mk' (o.pr p) u).hp⟩,by rw[←w,←e2];exact C,kills_ok v I B.hp,resT_ok B,D⟩
     ·exact e h
    ·exact e h
end
section
variable [RowT]{R:Type}{H H1:TH}{A:Heap}{N:Nat}{S:TS}{st:St}{P:Program}{T:List AFun}{cf:CF}{op:AOp}{K:TV->TS->Option R}{r:R}{E:XE}{n:Nat}{d:Option Nat}
def EqOK[GlobT](P:Program)(t:TypeId)(e:EqS): Prop:=∀(cf:CF) (fl:Nat) (H:Heap) (x y:den e.k) (aw bs:List AV),Qr (cel e.k x) aw->Qr (cel e.k y) bs->
 evOp P cf fl (.bin .eql t (.tmp 0)<|.tmp 1) [unrow (ag e.k) aw,unrow (ag e.k) bs] H=some (bv<|@decide (x=y)<|e.dec x y,H)∧evOp P cf fl (.bin .neq t (.tmp 0)<|.tmp 1) [unrow (ag e.k) aw,unrow (ag e.k) bs] H=some (bv<|!@decide (x=y) (e.dec x y),H)
def KOK(P:Program)(t:TypeId)(e:KeyS): Prop:=keyC (cds e.k)=true∧@KeyOK (den e.k) e.dec P t (kval e.k)
def StOK(P:Program)(t:TypeId): Prop:=P.underlying t=some .string∧∀s,pureRun P (Builtin.len_ #[t] 0 #[.string s])=some (.int .i64 ((s.size:Nat):Int))
def CvOK(P:Program)(s d:TypeId)(k:IntKind): Prop:=match isU16 k with
 | true=>isBytes P s d=true
 | false=>∀j a,pureRun P (convert s d<|.int j a)=some (.int k<|k.wrap a)
def clnB(s bytes:Nat)(z:List Value): ACode:=(.seq (.region false [] [⟨(some 2),.mov<|.lit nilS,none⟩])<|.nilIf 0 3 4 (.seq (.region false [] [⟨(some 2),.mov<|.lit nilS,none⟩]) .ret)<|.seq (.region false [] [⟨(some 5),.buildSl true s 0 z [],none⟩,⟨(some 6),.mov<|.tmp 0,none⟩,⟨(some 7),.append s bytes (.tmp 5)<|.tmp 6,none⟩,⟨(some 2),.mov<|.tmp 7,none⟩]) .ret)
def ClnOK[GlobT](T:List AFun)(vi k:Nat): Prop:=∃fid bytes z,getF T vi=some ⟨fid,8,[.tmp 2],clnB (cds k).length bytes z⟩∧0<(cds k).length∧bytes≤100000
def POK[GlobT](T:List AFun)(vi:Nat): PSp->Prop
 | .srt k=>GlobT.prim vi=some (sortPr (ag k) (cds k).length)
 | .cln k=>ClnOK T vi k
 | .ord k F=>∃g,GlobT.prim vi=some (prim0 g)∧∀fl H id (l:List<|den k) es,fl≤id->H[id]?=some (.blk (cds k).length es)->Ql k l es->l.length≤1000000->
  ∃es',g fl [.ms id l.length 0 l.length] H=some (.tup [],H.set id<|.blk (cds k).length es')∧Ql k (F l) es'∧(F l).length=l.length
 | .ins k=>∃g,GlobT.prim vi=some (prim0 g)∧∀fl H id y (i:Nat) es row,fl≤id->(∃id2,id≠id2∧y=.ms id2 1 0 1∧H[id2]?=some (.blk (cds k).length [row]))->H[id]?=some (.blk (cds k).length es)->row.length=(cds k).length->i≤es.length->es.length≤1000000->
  g fl [.ms id es.length 0 es.length,.lit<|.int .i64 (i:Nat),y] H=some (.ms id (es.length+1) 0<|es.length+1,H.set id<|.blk (cds k).length (es.take i++row::es.drop i))
structure EOK[GlobT](P:Program)(T:List AFun)(E:XE): Prop where
 cs:∀vi c,E.cs vi=some c->FOK P T vi c
 eq:∀t e,E.eq t=some e->EqOK P t e
 km:∀t e,E.km t=some e->KOK P t e
 st:∀t,E.st t=true->StOK P t
 cv:∀s d k,E.cv s d=some k->CvOK P s d k
 pr:∀vi p,E.pr vi=some p->POK T vi p
 il:∀sp∈E.il,IOK P T sp
 fo:∀cf,FlOK cf->FlOK (primF cf)
theorem set_zip{α β:Type}: ∀(l:List α) (m:List β) (i:Nat) (a:α) (b:β),(l.zip m).set i (a,b)=(l.set i a).zip (m.set i b)
 | [],_,_,_,_=>by simp
 | _::_,[],i,_,_=>by cases i<;>simp
 | x::l,y::m,0,a,b=>rfl
 | x::l,y::m,i+1,a,b=>by simp[set_zip l m i a b]
theorem unrow_ok{k:Nat}{x:den k}{row:List AV}(h:Qr (cel k x) row): Qh H (val k x)<|unrow (ag k) row:=by
 unfold val unrow;cases ag k with
 | true=>exact Qh.mkA h.c
 | false=>
  cases b:cel k x with
  | nil=>exact Qh.u _
  | cons c r=>
   rw[b] at h;cases row with
   | nil=>exact h.elim
   | cons a r=>exact .p _ _ h.1
theorem row_of{k:Nat}{v:TV}{x:den k}{a:AV}{c:TH}(h:rdV 0 c k v=some x)(q:Qh H v a): ∃row,a=unrow (ag k) row∧Qr (cel k x) row:=by
 unfold rdV at h;split at h
 ·rename_i b;split at h
  ·obtain⟨aw,rfl,q'⟩:=q.inA;exact⟨aw,by rw[b];rfl,rdRow0 h q'⟩
  ·cases h
 ·rename_i b;exact⟨[a],by rw[b];rfl,rdRow0 h (aw:=[a]) ⟨q,trivial⟩⟩
theorem key_lit: ∀{cs:List Cd} {p:PrC cs},keyC cs=true->celC cs p=(kvC cs p).map .lit
 | [],_,_=>rfl
 | c::r,p,h=>by
  cases c<;>first | (cases h;done) | (simp only[keyC] at h;simp only[celC,kvC,List.map_cons,key_lit h];rfl)
theorem lits_Qr: ∀{vs:List Value} {aw:List AV},Qr (vs.map .lit) aw->litL aw=some vs
 | [],[],_=>rfl
 | v::vs,a::aw,h=>by
  have e:a=.lit v:=by cases h.1;rfl
  subst e;simp only[litL,lits_Qr h.2]
theorem key_ok{k:Nat}{v:TV}{x:den k}{a:AV}{g:TH}(d:keyC (cds k)=true)(h:rdV 0 g k v=some x)(q:Qh H v a): lits a=some (kval k x):=by
 unfold rdV at h;unfold kval;split at h
 ·rename_i f;split at h
  ·obtain⟨aw,rfl,q'⟩:=q.inA;have b:=rdRow0 h q';unfold cel at b;rw[key_lit d] at b;simp only[lits,lits_Qr b,f]
  ·cases h
 ·rename_i f;have b:=rdRow0 h (aw:=[a]) ⟨q,trivial⟩;unfold cel at b;rw[key_lit d] at b;generalize kvC (cds k) (RowT.un k x)=vs at b;match vs,b with
  | [v],b=>
   have e:a=.lit v:=by cases b.1;rfl
   subst e;rfl
theorem ents_keys{kk b:Nat}{m:List<|den kk×den b}{rows:List<|List AV}(h:rows.length=m.length): (entsOf b m rows).map (·.1)=(m.map (·.1)).map (kval kk):=by
 unfold entsOf;rw[List.map_fst_zip<|by simp[h],List.map_map];rfl
theorem ents_at{kk b:Nat}{m:List<|den kk×den b}{rows:List<|List AV}{i:Nat}{p:den kk×den b}{row:List AV}(c:m[i]?=some p)(d:rows[i]?=some row): (entsOf b m rows)[i]?=some (kval kk p.1,unrow (ag b) row):=by
 unfold entsOf;rw[List.getElem?_zip_eq_some];exact⟨by simp[c],by simp[d]⟩
theorem ents_find{kt:TypeId}{a:KeyS}{c:Nat}{m:List<|den a.k×den c}{rows:List<|List AV}(d:KOK P kt a)(h:rows.length=m.length)(x:den a.k): findA P kt (kval a.k x) (entsOf c m rows)=some (m.findIdx? λp=>@decide (p.1=x)<|a.dec p.1 x):=by
 rw[findA_vals (e2:=(m.map (·.1)).map λx=>(kval a.k x,AV.undef))<|by rw[ents_keys h,List.map_map,List.map_map,List.map_map];rfl,@KeyOK.find _ a.dec _ _ _ d.2];congr 1;rw[List.findIdx?_map];rfl
theorem mapX_ok{kk c:Nat}{v:TV}{a:AV}{m:List<|den kk×den c}(n:Qs H A)(q:Qh H v a)(h:mapX H kk v=some ⟨c,m⟩):
 ∃rows,Qm c m rows∧((a=.lit (.map none)∧m=[])∨a=.rmp (entsOf c m rows)∨∃id,a=.mp id∧v=.mp id∧A[id]?=some (.mp<|entsOf c m rows)∧id<H.length):=by
 unfold mapX at h;split at h
 ·split at h
  ·rename_i g;cases h;let⟨e,i,h⟩:=castM_e g;subst e;cases i;subst h;let⟨rows,d,f⟩:=(q.pu trivial).inM;rcases d with d | d
   ·exact⟨rows,f,.inl d⟩
   ·exact⟨rows,f,.inr<|.inl d⟩
  ·cases h
 ·split at h
  ·rename_i o k;split at h
   ·split at h
    ·rename_i g;cases h;let⟨e,i,h⟩:=castM_e g;subst e;cases i;subst h;obtain⟨b,l,rows,rfl,f⟩:=n.get k;exact⟨rows,f,.inr<|.inr ⟨_,q.mp1,rfl,l,(List.getElem?_eq_some_iff.1 k).1⟩⟩
    ·cases h
   ·cases h
  ·cases h
 ·cases h
theorem lookup_t[GlobT]{kt:TypeId}{z m k:AOpd}{ok:Bool}(U:EOK P T E)(t:Qt N S st)(h:exOp E n d (.lookup kt z m k ok) S K=some r): Ok1 P cf E.fl N (.lookup kt z m k ok) st K r:=by
 simp only[exOp] at h;split at h
 ·rename_i o L;have A:=U.km kt o L;split at h
  ·rename_i g y;have f:=key_ok A.1 y<|t.get k;split at h
   ·rename_i p W;let⟨w,x⟩:=p;let⟨rows,O,c⟩:=mapX_ok t.hp (t.get m) W;split at h
    ·rename_i M Y;have V:Qh S.hp (val w M)<|getOpd st.tmps z:=rdV0 Y<|t.get z;have G:∃a,Qh S.hp (val w<|(@mget _ _ o.dec x g).getD M) a∧evOp P cf E.fl (.lookup kt z m k ok) st.tmps st.heap=some (if ok then .tup [a,.lit<|.bool (@mget _ _ o.dec x g).isSome] else a,st.heap):=by
      have q:findA P kt (kval o.k g) (entsOf w x rows)=_:=ents_find A O.len g;have u:∀e,pureRun P (Instr.checkKey e 10000 kt<|kval o.k g)=some ():=λe=>@KeyOK.chk _ o.dec _ _ _ A.2 e g;rcases @mget_idx _ _ o.dec _ g x with⟨j,F⟩ | ⟨i,v,j,F,I⟩
      ·refine⟨getOpd st.tmps z,by rw[j];exact V,?_⟩;rw[F] at q;rcases c with⟨c,B⟩ | c | ⟨id,c,_,s,_⟩
       ·subst B;have J:findA P kt (kval o.k g) []=some none:=q;simp only[evOp,f,c,u,J,j];cases ok<;>rfl
       ·simp only[evOp,f,c,u,q,j];cases ok<;>rfl
       ·simp only[evOp,f,c,s,u,q,j];cases ok<;>rfl
      ·let⟨row,Z,X⟩:=O.get I;refine⟨unrow (ag w) row,by rw[j];exact unrow_ok X,?_⟩;rw[F] at q;have he:=ents_at I Z;rcases c with⟨c,B⟩ | c | ⟨id,c,_,s,_⟩
       ·subst B;simp at I
       ·simp only[evOp,f,c,u,q,he,j];cases ok<;>rfl
       ·simp only[evOp,f,c,s,u,q,he,j];cases ok<;>rfl
     let⟨a,R,he⟩:=G;split at h
     ·let⟨b,qb,h⟩:=splB_ok h<|Qh.l (H:=S.hp) _;let⟨Q,D,h⟩:=splB_ok h R;exact Ok1.same t (by rw[he];rfl) (Qh.mkT (cs:=[Q,b]) (aw:=[a,_]) ⟨D,qb,trivial⟩) h
     ·let⟨Q,D,h⟩:=splB_ok h R;exact Ok1.same t (by rw[he];rfl) D h
    ·cases h
   ·cases h
  ·cases h
 ·cases h
theorem mapUpd_t[GlobT]{kt:TypeId}{m k v:AOpd}(hE:EOK P T E)(x:Qt N S st)(h:exOp E n d (.mapUpd kt m k v) S K=some r): Ok1 P cf E.fl N (.mapUpd kt m k v) st K r:=by
 simp only[exOp] at h;split at h
 ·rename_i b Q;have B:=hE.km kt b Q;split at h
  ·rename_i c J;have y:=key_ok B.1 J<|x.get k;split at h
   ·rename_i id hm;have X:=x.get m;rw[hm] at X;have R:=X.mp1;split at h
    ·cases h
    ·rename_i j;have j:=Nat.le_of_ble_eq_true j;split at h
     ·rename_i p F;let⟨C,q⟩:=p;let⟨rows,w,u⟩:=mapX_ok x.hp (Qh.mp (H:=S.hp) id) F;split at h
      ·rename_i D hv;let⟨row,U,e2⟩:=row_of hv<|x.get v;rcases u with⟨u,_⟩ | u | ⟨a2,u,_,z,a1⟩
       ·cases u
       ·cases u
       cases u;have A:findA P kt (kval b.k c) (entsOf C q rows)=_:=ents_find B w.len c;have W:pureRun P (Instr.checkKey false 10000 kt<|kval b.k c)=some ():=@KeyOK.chk _ b.dec _ _ _ B.2 false c;have t:Instr.sameBits 10000 (kval b.k c) (kval b.k c)=true:=@KeyOK.same _ b.dec _ _ _ B.2 c;have G:∀o:TObj,(∀(k:Nat) (l:List<|den k),S.hp[id]?≠some (.lst k l))->HM S.hp (S.hp.set id o):=λo hn=>HM.set λk l e=>absurd e<|hn k l;have L:∀(k:Nat) (l:List<|den k),S.hp[id]?≠some (.lst k l):=by
        intro k l e;simp only[mapX,e] at F;cases F
       have f:∀a,evOp P cf E.fl (.mapUpd kt m k v) st.tmps st.heap=some (.lit undefV,st.heap.set id<|.mp<|entsOf C (@mput _ _ b.dec q c D) a)->Qm C (@mput _ _ b.dec q c D) a->Ok1 P cf E.fl N (.mapUpd kt m k v) st K r:=
        λa he M=>Ok1.set (o:=.map b.k C<|@mput _ _ b.dec q c D) x he (G _ L) ⟨a,rfl,M⟩ (Qh.l _) h
       have g:=@mput_idx _ _ b.dec _ c D q;rcases @mget_idx _ _ b.dec _ c q with⟨g1,O⟩ | ⟨i,v0,g1,O,Y⟩
       ·rw[O] at A g;rw[g] at f;refine f (rows++[row]) ?_<|w.app ⟨e2,trivial⟩;simp only[evOp,y,R,j,if_true,z,W,A,U];congr 4;unfold entsOf;rw[List.map_append,List.map_append,List.zip_append<|by simp[w.len]];rfl
       ·rw[O] at A g;rw[g] at f;let⟨V,Z,h2⟩:=w.get Y;have he:=ents_at Y Z;refine f (rows.set i row) ?_<|All2.set (l:=q) (m:=rows) w i e2;simp only[evOp,y,R,j,if_true,z,W,A,he,t,U];congr 4;unfold entsOf;rw[List.map_set,List.map_set];exact set_zip _ _ _ _ _
      ·cases h
     ·cases h
   ·cases h
  ·cases h
 ·cases h
end
section
variable [RowT]{R:Type}{H H1:TH}{A:Heap}{N:Nat}{S:TS}{st:St}{P:Program}{T:List AFun}{cf:CF}{op:AOp}{K:TV->TS->Option R}{r:R}{E:XE}{n:Nat}{d:Option Nat}
theorem str_ok{v:TV}{a:AV}{s:ByteArray}(h:strX v=some s)(q:Qh H v a): a=sv s:=by
 unfold strX at h;split at h
 ·split at h
  ·cases h;exact q.inL
  ·cases h
 ·cases h
theorem bndX_ok[GlobT]{x:Option AOpd}{b a:Int}(d:Qt N S st)(h:bndX S.tm x b=some a)(c:0≤a): (x=none∧a=b)∨(∃y,x=some y∧natOf (getOpd st.tmps y)=some a.toNat):=by
 unfold bndX at h;split at h
 ·cases h;exact .inl ⟨rfl,rfl⟩
 ·rename_i y;have:=i64_ok h<|d.get y;exact .inr ⟨y,rfl,by rw[this];simp[natOf,c]⟩
theorem natOpt_ok[GlobT]{x:Option AOpd}{b a:Int}(d:Qt N S st)(h:bndX S.tm x b=some a)(f:0≤a): ∃o,natOpt st.tmps x=some o∧∀D:Nat,b=(D:Int)->o.getD D=a.toNat:=by
 rcases bndX_ok d h f with⟨rfl,rfl⟩ | ⟨y,rfl,e⟩
 ·exact⟨none,rfl,λD c=>by simp[c]⟩
 ·exact⟨some a.toNat,by simp only[natOpt,e],λD _=>rfl⟩
theorem lenStr_t[GlobT]{t:TypeId}{x:AOpd}(c:EOK P T E)(a:Qt N S st)(h:exOp E n d (.lenStr t x) S K=some r): Ok1 P cf E.fl N (.lenStr t x) st K r:=by
 simp only[exOp] at h;split at h
 ·rename_i b;split at h
  ·rename_i s f;have e:=str_ok f<|a.get x;refine Ok1.same a ?_ (Qh.l _) h;simp only[evOp,e,(c.st t b).2 s]
  ·cases h
 ·cases h
theorem strIdx_t[GlobT]{t:TypeId}{x i:AOpd}(g:EOK P T E)(a:Qt N S st)(h:exOp E n d (.strIdx t x i) S K=some r): Ok1 P cf E.fl N (.strIdx t x i) st K r:=by
 simp only[exOp] at h;split at h
 ·rename_i c;split at h
  ·rename_i s k;have e:=str_ok k<|a.get x;split at h
   ·rename_i j f;have e2:=i64_ok f<|a.get i;let⟨v,b,h⟩:=bnd_some h;have:=strIdx_ok (cf:=cf) (fl:=E.fl) (H:=st.heap) (g.st t c).1 b;refine Ok1.same a ?_ (Qh.l _) h;simp only[evOp,e,e2];exact this
   ·cases h
  ·cases h
 ·cases h
theorem strSlice_t[GlobT]{t:TypeId}{x:AOpd}{j i:Option AOpd}(f:Qt N S st)(h:exOp E n d (.strSlice t x j i) S K=some r): Ok1 P cf E.fl N (.strSlice t x j i) st K r:=by
 simp only[exOp] at h;split at h
 ·rename_i s w;have e:=str_ok w<|f.get x;split at h
  ·rename_i a k;split at h
   ·rename_i b m;let⟨v,c,h⟩:=bnd_some h;unfold cutS at c;split at c
    ·rename_i g;cases c;let⟨z,q,u⟩:=natOpt_ok f k g.1;let⟨y,p,o⟩:=natOpt_ok f m<|by omega
     refine Ok1.same f ?_ (Qh.l _) h;simp only[evOp,e,q,p];rw[u 0 rfl,o s.size rfl,if_pos ⟨by omega,g.2.2⟩]
    ·cases c
   ·cases h
  ·cases h
 ·cases h
theorem rangeStr_t[GlobT]{x:AOpd}(a:Qt N S st)(h:exOp E n d (.rangeStr x) S K=some r): Ok1 P cf E.fl N (.rangeStr x) st K r:=by
 simp only[exOp] at h;split at h
 ·rename_i s c;have e:=str_ok c<|a.get x;refine Ok1.add (v:=.it st.heap.length) (o:=.it s 0) (b:=.raw<|.stringIter s 0) a (by simp only[evOp,e]) rfl (by rw[a.hp.ln];exact .it _) h
 ·cases h
theorem nextStr_t[GlobT]{x:AOpd}(i:Qt N S st)(h:exOp E n d (.nextStr x) S K=some r): Ok1 P cf E.fl N (.nextStr x) st K r:=by
 have q:=i.get x;simp only[exOp] at h;split at h
 ·rename_i id t;rw[t] at q;have e:getOpd st.tmps x=.it id:=by
   generalize getOpd st.tmps x=a at q;cases q with
   | p _ _ q=>cases q
   | it=>rfl
  split at h
  ·cases h
  ·rename_i c;have c:=Nat.le_of_ble_eq_true c;split at h
   ·rename_i o j;split at h
    ·rename_i s p;obtain⟨b,m,rfl⟩:=i.hp.get j;rcases cnd_or h with⟨f,h⟩ | ⟨f,h⟩
     ·have f:=of_decide_eq_true f;refine Ok1.set (o:=.it s<|p+(Utf8.decode s p).2) (b:=.raw<|.stringIter s<|p+(Utf8.decode s p).2) i ?_ (HM.set λk l e=>by rw[j] at e;cases e) rfl (Qh.mkT (cs:=[_,_,_]) (aw:=[_,_,_]) ⟨Qh.l _,Qh.l _,Qh.l _,trivial⟩) h;simp only[evOp,e,c,if_true,m,f]
     ·have f:=of_decide_eq_false f;refine Ok1.same i ?_ (Qh.mkT (cs:=[_]) (aw:=[_]) ⟨Qh.l _,trivial⟩) h;simp only[evOp,e,c,if_true,m,f,if_false]
    ·cases h
   ·cases h
 ·cases h
theorem bytC_ok: ∀{k:Nat}{cs:List Cd}{g:den k->PrC cs}{l:List (den k)}{es:List (List AV)}{b:ByteArray},bytC cs g l=some b->All2 (λx e=>Qr (celC cs (g x)) e) l es->∃ns,bytesE es=some ns∧strOfB ns=b:=by
 intro k cs g0 l es b h q;unfold bytC at h;split at h
 ·cases h;rename_i g;refine⟨l.map λx=>(g x).1,?_,rfl⟩
  have:∀(l:List (den k)) (es:List (List AV)),All2 (λx e=>Qr (celC [Cd.int .u8] (g x)) e) l es->bytesE es=some (l.map λx=>(g x).1):=by
   intro l;induction l with
   | nil=>
    intro es q;cases es with
    | nil=>rfl
    | cons e es=>exact q.elim
   | cons x l ih=>
    intro es q;cases es with
    | nil=>exact q.elim
    | cons e es=>
     have u:=ih es q.2;have v:=q.1
     cases e with
     | nil=>exact v.elim
     | cons a e=>
      cases e with
      | cons _ _=>exact v.2.elim
      | nil=>
       have w:Qp (.lit (.int .u8 (g x).1)) a:=v.1
       cases w;simp only[bytesE,u,List.map_cons];rfl
  exact this l es q
 ·cases h
theorem bytK_ok{k:Nat}{l:List (den k)}{es:List (List AV)}{b:ByteArray}(h:bytK k l=some b)(q:Ql k l es): ∃ns,bytesE es=some ns∧strOfB ns=b:=bytC_ok (g:=RowT.un k) h q
theorem conv_t[GlobT]{s t:TypeId}{x:AOpd}(e:EOK P T E)(b:Qt N S st)(h:exOp E n d (.conv s t x) S K=some r): Ok1 P cf E.fl N (.conv s t x) st K r:=by
 have q:=b.get x;simp only[exOp] at h;split at h
 ·rename_i k' c;split at h
  ·rename_i u f;rw[f] at q;split at h
   ·split at h
    ·cases h
    ·rename_i z;have a:=e.cv s t k' c;unfold CvOK at a;rw[z] at a;refine Ok1.same b ?_ (Qh.l _) h;simp only[evOp,q.inL,isSl];have a:=a ‹_› ‹_›;simp only[a]
   ·cases h
  ·rename_i k l f;rw[f] at q;split at h
   ·rename_i z;have a:=e.cv s t k' c;unfold CvOK at a;rw[z] at a;split at h
    ·rename_i bb g;let⟨es,w,y⟩:=(q.pu trivial).inS;let⟨ns,u,v⟩:=bytK_ok g y;subst v
     refine Ok1.same b ?_ (Qh.l _) h;have a:isBytes P s t=true:=a
     rcases w with⟨w,z⟩ | ⟨f,w⟩
     ·subst z;simp only[evOp,w,isSl,nilS,a,rd,u]
     ·simp only[evOp,w,isSl,a,rd,u]
    ·cases h
   ·cases h
  ·rename_i k l f;rw[f] at q;split at h
   ·rename_i z;have a:=e.cv s t k' c;unfold CvOK at a;rw[z] at a;split at h
    ·rename_i bb g;let⟨es,w,y⟩:=(q.pu trivial).inV;let⟨ns,u,v⟩:=bytK_ok g y;subst v
     refine Ok1.same b ?_ (Qh.l _) h;have a:isBytes P s t=true:=a
     rcases w with⟨w,z⟩ | ⟨f,w⟩ | w
     ·subst z;simp only[evOp,w,isSl,nilS,a,rd,u]
     ·simp only[evOp,w,isSl,a,rd,u]
     ·simp only[evOp,w,isSl,a,rd,u]
    ·cases h
   ·cases h
  ·cases h
 ·cases h
theorem mkMap_t[GlobT](a:Qt N S st)(h:exOp E n d .mkMap S K=some r): Ok1 P cf E.fl N .mkMap st K r:=by
 simp only[exOp] at h;split at h
 ·split at h
  ·rename_i kk c _;exact Ok1.add (v:=.mp st.heap.length) (o:=.map kk c []) (b:=.mp []) a rfl ⟨[],rfl,trivial⟩ (by rw[a.hp.ln];exact .mp _) h
  ·cases h
 ·cases h
theorem lenM_t[GlobT]{x:AOpd}(k:Qt N S st)(h:exOp E n d (.lenM x) S K=some r): Ok1 P cf E.fl N (.lenM x) st K r:=by
 have q:=k.get x;simp only[exOp] at h;split at h
 ·rename_i m c;refine Ok1.same k ?_ (Qh.l _) h;generalize getT S.tm x=v at c q;generalize j:getOpd st.tmps x=a at q;have s:∀{kk p:Nat} {m:List<|den kk×den p} {rows:List<|List AV},rows.length=m.length->(entsOf p m rows).length=m.length:=λh=>by simp[entsOf,h]
  unfold lenMX at c;split at c
  ·cases c;let⟨rows,t,g⟩:=(q.pu trivial).inM;rcases t with⟨rfl,rfl⟩ | rfl
   ·simp only[evOp,j];rfl
   ·simp only[evOp,j,s g.len]
  ·split at c
   ·rename_i o u;split at c
    ·cases c;obtain⟨b,f,rows,rfl,g⟩:=k.hp.get u;have e:=q.mp1;subst e;simp only[evOp,j,f,s g.len]
    ·cases c
   ·cases c
  ·cases c
 ·cases h
theorem zero_ok[GlobT]{x:Option AOpd}(a:Qt N S st)(h:zeroX S.tm x=true): natOpt st.tmps x=some none∨natOpt st.tmps x=some (some 0):=by
 unfold zeroX at h;split at h
 ·exact .inl rfl
 ·rename_i y;split at h
  ·rename_i m b;split at h
   ·split at h
    ·right;simp only[natOpt,i64_ok b<|a.get y];rfl
    ·cases h
   ·cases h
  ·cases h
theorem cutX_ok[GlobT]{s:Nat}{x:AOpd}{Z U:Option AOpd}(c:Qt N S st)(h:cutX s S.tm S.hp Z U (getT S.tm x) (λv=>K v S)=some r): Ok1 P cf E.fl N (.slice s x Z U none) st K r:=by
 have q:=c.get x;have u:natOpt st.tmps none=some none:=rfl;have hd:∀{k:Nat} {l:List<|den k} {es:List<|List AV},Ql k l es->(cds k).length=s->headLen s es=true:=by
  intro k l es h e;cases es with
  | nil=>rfl
  | cons a es=>
   cases l with
   | nil=>exact h.elim
   | cons y l=>simp[headLen,h.1.len,cel_len,e]
 have g:∀{k:Nat} {l I:List<|den k} {es:List<|List AV} {a b:Int},Ql k l es->cut l a b=some I->0≤a∧0≤b∧a.toNat≤b.toNat∧b.toNat≤es.length∧Ql k I ((es.take b.toNat).drop a.toNat):=by
  intro k l I es a b hq J;unfold cut at J;split at J
  ·rename_i n;cases J;exact⟨n.1,by omega,by omega,by rw[hq.len];omega,(hq.take _).drop _⟩
  ·cases J
 unfold cutX at h;split at h
 ·rename_i k l H;rw[H] at q;split at h
  ·rename_i e;have e:=Nat.eq_of_beq_eq_true e;split at h
   ·rename_i a Q;split at h
    ·rename_i b n;let⟨I,L,h⟩:=bnd_some h;let⟨es,Y,t⟩:=(q.pu trivial).inS;let⟨W,c2,V,M,F⟩:=g t L;let⟨o1,A,C⟩:=natOpt_ok c Q W;let⟨o2,B,D⟩:=natOpt_ok c n c2;rcases Y with⟨d,rfl⟩ | ⟨f,d⟩
     ·have X:l=[]:=List.length_eq_zero_iff.1 t.len.symm;subst X;have e3:=C 0 rfl;have e4:=D 0 rfl;have i:b.toNat=0:=by simpa using M
      have j:a.toNat=0:=by omega
      have e2:I=[]:=by
       rw[j,i] at F;exact List.length_eq_zero_iff.1<|by have:=F.len;simpa using this.symm
      subst e2;refine Ok1.same c ?_ (.p _ _<|Qp.mkS (es:=[]) (.inl ⟨rfl,rfl⟩)<|show Ql k [] [] from trivial) h;simp only[evOp,d,A,B];simp[nilS,sliceA,u,e3,e4,j,i]
     ·refine Ok1.same (v:=.sl (f&&b.toNat==es.length)<|(es.take b.toNat).drop a.toNat) c ?_ (.p _ _<|Qp.mkS (.inr ⟨_,rfl⟩) F) h;simp only[evOp,d,A,B,u,sliceA];rw[D es.length<|by rw[t.len],C 0 rfl,if_pos ⟨V,M,hd t e⟩]
    ·cases h
   ·cases h
  ·cases h
 ·rename_i k l H;rw[H] at q;split at h
  ·rename_i e;have e:=Nat.eq_of_beq_eq_true e;split at h
   ·rename_i a Q;split at h
    ·rename_i b n;let⟨I,L,h⟩:=bnd_some h;let⟨es,Y,t⟩:=(q.pu trivial).inV;let⟨W,c2,V,M,F⟩:=g t L;let⟨o1,A,C⟩:=natOpt_ok c Q W;let⟨o2,B,D⟩:=natOpt_ok c n c2;rcases Y with⟨d,rfl⟩ | ⟨f,d⟩ | d
     ·have X:l=[]:=List.length_eq_zero_iff.1 t.len.symm;subst X;have e3:=C 0 rfl;have e4:=D 0 rfl;have i:b.toNat=0:=by simpa using M
      have j:a.toNat=0:=by omega
      have e2:I=[]:=by
       rw[j,i] at F;exact List.length_eq_zero_iff.1<|by have:=F.len;simpa using this.symm
      subst e2;refine Ok1.same c ?_ (.p _ _<|Qp.mkV (es:=[]) (.inl ⟨rfl,rfl⟩)<|show Ql k [] [] from trivial) h;simp only[evOp,d,A,B];simp[nilS,sliceA,u,e3,e4,j,i]
     ·refine Ok1.same (v:=.sl (f&&b.toNat==es.length)<|(es.take b.toNat).drop a.toNat) c ?_ (.p _ _<|Qp.mkV (.inr<|.inl ⟨_,rfl⟩) F) h;simp only[evOp,d,A,B,u,sliceA];rw[D es.length<|by rw[t.len],C 0 rfl,if_pos ⟨V,M,hd t e⟩]
     ·refine Ok1.same (v:=.vw<|(es.take b.toNat).drop a.toNat) c ?_ (.p _ _<|Qp.mkV (.inr<|.inr rfl) F) h;simp only[evOp,d,A,B,u,sliceA];rw[D es.length<|by rw[t.len],C 0 rfl,if_pos ⟨V,M,hd t e⟩]
    ·cases h
   ·cases h
  ·cases h
 ·rename_i id m H;rw[H] at q;split at h
  ·rename_i o ho;split at h
   ·rename_i k l;split at h
    ·rename_i hk;simp only[Bool.and_eq_true] at hk;have e:=Nat.eq_of_beq_eq_true hk.1;have e0:0<s:=by simpa [Nat.blt_eq] using hk.2
     have d:=q.mw ho;let⟨es,k1,k2⟩:=c.hp.lst ho;rw[e] at k1;split at h
     ·rename_i a Q;have go:∀{b:Int},bndX S.tm U (((wOf l m).2:Nat):Int)=some b->bnd (sub l (wOf l m) a b) (λw=>K (.ms id<|some w) S)=some r->Ok1 P cf E.fl N (.slice s x Z U none) st K r:=by
       intro b n h;let⟨w,T,h⟩:=bnd_some h;unfold sub at T;split at T
       ·rename_i J;cases T;let⟨o1,A,C⟩:=natOpt_ok c Q J.1;let⟨o2,B,D⟩:=natOpt_ok c n<|by omega
        refine Ok1.same c ?_ (.msn id _ k l ho) h;simp only[evOp,d,A,B,u,sliceA,k1];rw[D _ rfl,C 0 rfl];by_cases R:b.toNat≤(wOf l m).2
        ·rw[if_pos ⟨by omega,R,trivial⟩]
        ·rw[if_neg λh=>R h.2.1,if_pos ⟨by omega,J.2.2,k2.len,e0,trivial⟩]
       ·cases T
      split at h
      ·split at h
       ·rename_i b n;exact go n h
       ·cases h
      ·split at h
       ·rename_i b n;exact go n h
       ·cases h
     ·cases h
    ·cases h
   ·cases h
  ·cases h
 ·rename_i b H;rw[H] at q;split at h
  ·rename_i G;simp only[Bool.and_eq_true] at G;have q0:=q;cases (q.pu trivial) with
   | emp _ _ z=>
    rcases zero_ok c G.1 with j | j<;>rcases zero_ok c G.2 with i | i<;>rcases z with z | z | ⟨n,z⟩ <;>
     first
     | (refine Ok1.same (v:=.lit nilS) c ?_ (by rw[←z];exact q0) h;simp only[evOp,z,j,i,u,nilS,sliceA];simp;done)
     | (refine Ok1.same (v:=.sl true []) c ?_ (by rw[←z];exact q0) h;simp only[evOp,z,j,i,u,sliceA];simp[headLen];done)
     | (refine Ok1.same (v:=.sl false []) c ?_ (by rw[←z];exact q0) h;simp only[evOp,z,j,i,u,sliceA];simp[headLen];done)
  ·cases h
 ·split at h
  ·split at h
   ·split at h
    ·split at h
     ·split at h
      ·rename_i G;have q:Qh S.hp (.lit<|.slice none 0 0)<|getOpd st.tmps x:=by rw[←‹getT S.tm x=TV.lit (Value.slice none 0 0)›];exact q
       simp only[Bool.and_eq_true] at G;have d:getOpd st.tmps x=.lit nilS:=q.inL;rcases zero_ok c G.1 with j | j<;>rcases zero_ok c G.2 with i | i <;>
        (refine Ok1.same (v:=.lit nilS) c ?_ (by rw[←d];exact q) h;simp only[evOp,d,j,i,u,nilS,sliceA];simp)
      ·cases h
     ·cases h
    ·cases h
   ·cases h
  ·cases h
 ·cases h
theorem slice_t[GlobT]{s:Nat}{x:AOpd}{G L mx:Option AOpd}(g:Qt N S st)(h:exOp E n d (.slice s x G L mx) S K=some r): Ok1 P cf E.fl N (.slice s x G L mx) st K r:=by
 simp only[exOp] at h;split at h
 ·exact cutX_ok g h
 ·rename_i m;split at h
  ·cases h
  ·rename_i y;have q:=g.get x;split at h
   ·rename_i id w A;rw[A] at q;split at h
    ·rename_i o T;split at h
     ·rename_i k l;split at h
      ·rename_i a U;split at h
       ·rename_i b O;split at h
        ·rename_i c V;let⟨_,R,h⟩:=bnd_some h;have B:=of_decide_eq_true<|grd_some R;let⟨W,H,I⟩:=natOpt_ok g U B.1;have C:natOpt st.tmps (some y)=some (some b.toNat):=by simp only[natOpt,i64_ok O<|g.get y];simp[natOf,show 0≤b by omega]
         have e2:natOpt st.tmps (some m)=some (some c.toNat):=by simp only[natOpt,i64_ok V<|g.get m];simp[natOf,show 0≤c by omega]
         have t:=q.mw T;by_cases i:a.toNat=b.toNat∧b.toNat=c.toNat
         ·refine Ok1.same (v:=.sl true []) g ?_ (.u _) h;simp only[evOp,t,H,C,e2,sliceA];rw[I 0 rfl,if_pos ⟨i.1,i.2,by omega⟩]
         ·refine Ok1.same (v:=.undef) g ?_ (.u _) h;simp only[evOp,t,H,C,e2,sliceA];rw[I 0 rfl,if_neg<|by omega,if_pos<|by omega]
        ·cases h
       ·cases h
      ·cases h
     ·cases h
    ·cases h
   ·rename_i k l A;rw[A] at q;split at h
    ·rename_i i;have i:=zero3_ok i;simp only[Bool.and_eq_true] at i;split at h
     ·rename_i e;have e:=Nat.eq_of_beq_eq_true e;let⟨es,Q,D⟩:=(q.pu trivial).inS;have M:headLen s es=true:=by
       cases es with
       | nil=>rfl
       | cons a es=>
        cases l with
        | nil=>exact D.elim
        | cons y l=>simp[headLen,D.1.len,cel_len,e]
      have F:natOpt st.tmps (some y)=some (some 0):=by
       rcases zero_ok g i.2.1 with h | h
       ·simp only[natOpt] at h;split at h<;>cases h
       ·exact h
      have J:natOpt st.tmps (some m)=some (some 0):=by
       rcases zero_ok g i.2.2 with h | h
       ·simp only[natOpt] at h;split at h<;>cases h
       ·exact h
      rcases Q with⟨t,_⟩ | ⟨f,t⟩
      ·refine Ok1.same (v:=.lit nilS) g ?_ (.p _ _<|.emp _ _<|.inl rfl) h;rcases zero_ok g i.1 with z | z<;>simp[evOp,t,z,F,J,nilS,sliceA]
      ·refine Ok1.same (v:=.sl true []) g ?_ (.p _ _<|.emp _ _<|.inr<|.inl rfl) h;rcases zero_ok g i.1 with z | z<;>simp[evOp,t,z,F,J,sliceA,M]
     ·cases h
    ·split at h
     ·cases h
     ·split at h
      ·rename_i b O;split at h
       ·rename_i c V;split at h
        ·rename_i e;have e:=Nat.eq_of_beq_eq_true e;obtain⟨_,R,h1⟩:=bnd_some h;clear h;have B:=of_decide_eq_true<|grd_some R;let⟨es,Q,D⟩:=(q.pu trivial).inS
         obtain⟨B0,B1,B2⟩:=B;subst B1
         have C:natOpt st.tmps (some y)=some (some b.toNat):=by simp only[natOpt,i64_ok O<|g.get y];simp[natOf,B0]
         have e2:natOpt st.tmps (some m)=some (some b.toNat):=by simp only[natOpt,i64_ok V<|g.get m];simp[natOf,B0]
         have M:headLen s es=true:=by
          cases es with
          | nil=>rfl
          | cons a es=>
           cases l with
           | nil=>exact D.elim
           | cons y l=>simp[headLen,D.1.len,cel_len,e]
         have W:Ql k (l.take b.toNat) (es.take b.toNat):=D.take _
         have L:=D.len
         have z0:natOpt st.tmps none=some none:=rfl
         rcases Q with⟨t,z⟩ | ⟨f,t⟩
         ·subst z;have u:b.toNat=0:=by simp at L;omega
          refine Ok1.same (v:=.lit nilS) g ?_ (.p _ _<|Qp.mkF (.inl ⟨rfl,by simp⟩) W) h1;simp only[evOp,t,C,e2,u,z0,nilS,sliceA];simp
         ·refine Ok1.same (v:=.sl true (es.take b.toNat)) g ?_ (.p _ _<|Qp.mkF (.inr rfl) W) h1;simp only[evOp,t,C,e2,z0,sliceA];rw[if_pos ⟨by simp,by omega,by omega,M⟩];simp
        ·cases h
       ·cases h
      ·cases h
   ·rename_i k l A;rw[A] at q;split at h
    ·rename_i e;have e:=Nat.eq_of_beq_eq_true e;split at h
     ·rename_i a U;split at h
      ·rename_i b O;split at h
       ·rename_i c V;obtain⟨_,R,h1⟩:=bnd_some h;clear h;have B:=of_decide_eq_true<|grd_some R;obtain⟨l',L,h⟩:=bnd_some h1;clear h1
        unfold cut at L;split at L
        ·rename_i L0;cases L;obtain⟨B1,B2⟩:=B;obtain⟨L0,L1,L2⟩:=L0
         let⟨es,Q,D⟩:=(q.pu trivial).inV
         let⟨o1,H,I⟩:=natOpt_ok g U L0
         have C:natOpt st.tmps (some y)=some (some b.toNat):=by simp only[natOpt,i64_ok O<|g.get y];simp[natOf,show 0≤b by omega]
         have e2:natOpt st.tmps (some m)=some (some c.toNat):=by simp only[natOpt,i64_ok V<|g.get m];simp[natOf,show 0≤c by omega]
         have M:headLen s es=true:=by
          cases es with
          | nil=>rfl
          | cons a es=>
           cases l with
           | nil=>exact D.elim
           | cons y l=>simp[headLen,D.1.len,cel_len,e]
         have W:Ql k ((l.take b.toNat).drop a.toNat) ((es.take b.toNat).drop a.toNat):=(D.take _).drop _
         have L:=D.len
         have i0:=I 0 rfl
         rcases Q with⟨t,z⟩ | ⟨f,t⟩ | t
         ·subst z;have u:b.toNat=0:=by simp at L;omega
          have u2:c.toNat=0:=by simp at L;omega
          have u3:a.toNat=0:=by omega
          refine Ok1.same (v:=.lit nilS) g ?_ (.p _ _<|Qp.mkV (.inl ⟨rfl,by simp⟩) W) h;simp only[evOp,t,C,e2,H,u,u2,nilS,sliceA];rw[i0,u3];simp
         ·refine Ok1.same (v:=.sl (b.toNat==c.toNat) ((es.take b.toNat).drop a.toNat)) g ?_ (.p _ _<|Qp.mkV (.inr<|.inl ⟨_,rfl⟩) W) h;simp only[evOp,t,C,e2,H,sliceA];rw[i0,if_pos ⟨by omega,by omega,by omega,M⟩]
         ·by_cases u:a.toNat=0∧b.toNat=0∧c.toNat=0
          ·obtain⟨u1,u2,u3⟩:=u;refine Ok1.same (v:=.sl true []) g ?_ (.p _ _<|Qp.mkV (.inr<|.inl ⟨true,rfl⟩) (by rw[u1,u2];trivial)) h;simp only[evOp,t,C,e2,H,sliceA];rw[i0,if_pos ⟨u1,u2,u3⟩]
          ·refine Ok1.same (v:=.vw ((es.take b.toNat).drop a.toNat)) g ?_ (.p _ _<|Qp.mkV (.inr<|.inr rfl) W) h;simp only[evOp,t,C,e2,H,sliceA];rw[i0,if_neg u,if_pos ⟨by omega,by omega,by omega,M⟩]
        ·cases L
       ·cases h
      ·cases h
     ·cases h
    ·cases h
   ·cases h
end
end
theorem sort_w{α:Type}{c:α->List AV}{cf:CF}{agg:Bool}{s fl id vc off len:Nat}{caps:List AV}{F:α->α->Option Int}{l t:List α}{H:Heap}(p:fl≤id)(b:H[id]?=some (.blk s<|l.map c))(g:l.length≤1000000)(B:off+len≤l.length)(A:∀x y z,F x y=some z->cmpG cf vc caps agg (outO H id) (detO H id s<|l.map c) (c x) (c y)=some z)(h:sortL F ((l.drop off).take len)=some t):
 sortG cf agg s fl [.ms id l.length off len,.fn vc caps] H=some (.tup [],H.set id<|.blk s<|(splice l off t).map c):=by
 have a:((l.drop off).take len).length=len:=by rw[List.length_take,List.length_drop];omega
 generalize u:(l.drop off).take len=W at h a;unfold sortL at h;split at h
 ·cases h;have C:len=0:=by simpa using a.symm
  subst C;have E:emptyS (.ms id l.length off 0)=true:=rfl;have D:splice l off []=l:=by simp[splice]
  rw[D];simp only[sortG,E,Option.some.injEq,Prod.mk.injEq,true_and];apply List.ext_getElem?;intro i;by_cases n:i=id
  ·subst n;rw[b];rw[List.getElem?_set_self (by
    rcases Nat.lt_or_ge i H.length with h | h
    ·exact h
    ·rw[List.getElem?_eq_none h] at b;cases b)]
  ·rw[List.getElem?_set_ne<|Ne.symm n]
 ·rename_i x r;split at h
  ·cases h
  rename_i tb o;split at h
  ·cases h
  rename_i k;cases h;have v:=tabG_map (e:=c) (f:=cmpG cf vc caps agg (outO H id)<|detO H id s<|l.map c) A o;have w:len=r.length+1:=by rw[←a];rfl
  subst w;have j:((l.map c).drop off).take (r.length+1)=(x::r).map c:=by rw[←List.map_drop,←List.map_take,u]
  have:=sortG_of (cf:=cf) (agg:=agg) (off:=off) (m:=r.length) (vc:=vc) (caps:=caps) (tb:=tb) (tot:=l.length) p b (by simp) (by simpa using B) (by simpa using g) (by rw[j];exact v) k;refine this.trans ?_;rw[j];have q:((ixG r.length tb).map<|rowAt x (x::r)).length=r.length+1:=by rw[List.length_map,ixG_len k]
  congr 3;refine congrArg (AObj.blk s) ?_;unfold splice;rw[q,List.map_append,List.map_append,List.map_take,List.map_drop,List.map_map,List.append_assoc];congr 2;exact List.map_congr_left λi n=>rowAt_map<|by have:=ixG_lt n;simpa using this
section
open DenT (den cds ag)
theorem sortL_map{α β:Type}{f:α->β}{F:β->β->Option Int}{z:List α}{e:List β}(h:sortL F (z.map f)=some e): ∃g,sortL (λa b=>F (f a)<|f b) z=some g∧g.map f=e:=by
 cases z with
 | nil=>cases h;exact⟨[],rfl,rfl⟩
 | cons x r=>
  have m:tabG F (f x::r.map f)=tabG (λa b=>F (f a)<|f b) (x::r):=by
   unfold tabG;rw[show f x::r.map f=(x::r).map f from rfl,List.map_map];congr 1;apply List.map_congr_left;intro a _;show allO (((x::r).map f).map _)=_;rw[List.map_map];rfl
  simp only[List.map_cons,sortL,List.length_map,m] at h;simp only[sortL];split at h
  ·cases h
  ·rename_i tb j;split at h
   ·cases h
   ·rename_i k;cases h;refine⟨_,rfl,?_⟩;rw[List.map_map];apply List.map_congr_left;intro i c;have c:=ixG_lt c;exact (rowAt_map (d:=x) (d':=f x) (l:=x::r)<|by simpa using c).symm
section
variable [RowT]{R:Type}{H H1:TH}{A:Heap}{N:Nat}{S:TS}{st:St}{P:Program}{T:List AFun}{cf:CF}{op:AOp}{K:TV->TS->Option R}{r:R}{E:XE}{n:Nat}{d:Option Nat}
theorem gone_hm{id:Nat}: HMk [id] S.hp (goneS id S).hp:=by
 intro j k l a h;simp only[goneS,killS,putH];exact⟨k,l,lst_kill<|by rw[List.getElem?_set_ne<|by simpa [eq_comm] using a];exact h,rfl⟩
theorem gone_ok{id:Nat}(c:Qt N S st)(a:id<S.hp.length)(b:AObj): Qt N (goneS id S) ⟨st.tmps,st.heap.set id b⟩:=killP_ok c rfl (λ_ _ _=>trivial) a
abbrev RR(k:Nat):={p:den k×List AV // Qr (cel k p.1) p.2}
theorem rr_list{k:Nat}: ∀{l:List<|den k} {es:List<|List AV},Ql k l es->∃z:List<|RR k,z.map (λp=>p.1.1)=l∧z.map (λp=>p.1.2)=es
 | [],[],_=>⟨[],rfl,rfl⟩
 | x::l,e::es,h=>by
  let⟨z,c,a⟩:=rr_list h.2;exact⟨⟨(x,e),h.1⟩::z,by rw[List.map_cons,c],by rw[List.map_cons,a]⟩
theorem rr_ql{k:Nat}: ∀(z:List<|RR k),Ql k (z.map λp=>p.1.1)<|z.map λp=>p.1.2
 | []=>trivial
 | p::z=>⟨p.2,rr_ql z⟩
theorem shw_ok{k:Nat}{x:den k}{e:List AV}(h:Qr (cel k x) e): Qh H (val k x)<|shwR (ag k) e:=by
 have:=unrow_ok (H:=H) h;unfold shwR;unfold unrow at this;cases c:ag k with
 | true=>rw[c] at this;exact this
 | false=>
  rw[c] at this;match e,this with
  | [],this=>exact this
  | [a],this=>exact this
  | a::b::r,this=>exact this
theorem srtX_ok{α:Type}{F:α->α->Option Int}{m:Option<|Nat×Nat}{l:List α}{K:List α->Option R}(h:srtX F m l K=some r):
 ∃a,sortL F ((l.drop (wOf l m).1).take (wOf l m).2)=some a∧(wOf l m).1+(wOf l m).2≤l.length∧l.length≤1000000∧K (splice l (wOf l m).1 a)=some r∧(splice l (wOf l m).1 a).length=l.length:=by
 cases m with
 | none=>
  let⟨_,c,h⟩:=bnd_some h;let⟨a,b,h⟩:=bnd_some h;have e:a.length=l.length:=sortL_len b;have e2:splice l 0 a=a:=by simp[splice,e]
  refine⟨a,?_,by simp[wOf],of_decide_eq_true<|grd_some c,?_,?_⟩
  ·simpa [wOf] using b
  ·simp only[wOf,e2];exact h
  ·simp only[wOf,e2];exact e
 | some w=>
  let⟨_,c,h⟩:=bnd_some h;let⟨a,b,h⟩:=bnd_some h;have d:=of_decide_eq_true<|grd_some c;refine⟨a,b,d.2,d.1,h,splice_len ?_⟩;have:=sortL_len b;simp only[win,List.length_take,List.length_drop] at this;simp only[wOf];omega
theorem sort_t1[GlobT]{vi k id vc off len:Nat}{caps:List AV}{F:den k->den k->Option Int}{l u:List<|den k}{r t:AV}(o:E.fl≤id)(v:GlobT.prim vi=some (sortPr (ag k) (cds k).length))(B:Qt N S st)(D:S.hp[id]?=some (.lst k l))(y:l.length≤1000000)(i:off+len≤l.length)(j:r=.ms id l.length off len)(m:t=.fn vc caps)(A:∀(p q:RR k) (es:List<|List AV) (z:Int),F p.1.1 q.1.1=some z->cmpG (evF P T n) vc caps (ag k) (outO st.heap id) (detO st.heap id (cds k).length es) p.1.2 q.1.2=some z)(h:sortL F ((l.drop off).take len)=some u):
 ∃es',evF P T (n+1) E.fl vi [r,t] st.heap=some (.tup [],st.heap.set id<|.blk (cds k).length es')∧Ql k (splice l off u) es':=by
 let⟨es,x,G⟩:=B.hp.lst D;obtain⟨z,rfl,rfl⟩:=rr_list G;rw[←List.map_drop,←List.map_take] at h;obtain⟨g,C,rfl⟩:=sortL_map h;subst j;subst m;refine⟨(splice z off g).map λp=>p.1.2,?_,?_⟩
 ·rw[evF,v,List.length_map];exact sort_w (agg:=ag k) (c:=λ(p:RR k)=>p.1.2) (F:=λ(a b:RR k)=>F a.1.1 b.1.1) o x (by simpa using y) (by simpa using i) (λp q w i=>A p q _ w i) C
 ·have:=rr_ql<|splice z off g;have e:(splice z off g).map (λp=>p.1.1)=splice (z.map λp=>p.1.1) off (g.map λp=>p.1.1):=by
   unfold splice;rw[List.map_append,List.map_append,List.map_take,List.map_drop,List.length_map]
  rw[e] at this;exact this
theorem cmpX_ok[GlobT]{k id vc:Nat}{c:CSp}{p q:RR k}{es:List<|List AV}{z:Int}(m:FOK P T vc c)(o:Qt N S st)(d:id<S.hp.length)(h:cmpX n c k (goneS id S).hp p.1.1 q.1.1=some z):
 cmpG (evF P T n) vc [] (ag k) (outO st.heap id) (detO st.heap id (cds k).length es) p.1.2 q.1.2=some z:=by
 unfold cmpX at h;have l:=gone_ok o d<|.mp [];let⟨s,a,tv,i,f,g⟩:=callX_ok (H1:=[]) (K:=i64?) (aw:=[shwR (ag k) p.1.2,shwR (ag k) q.1.2].map<|viewA2<|outO st.heap id) m h λp' r b=>argsV r b ⟨shw_ok p.2,shw_ok q.2,trivial⟩ l.hp;refine cmp_pv rfl<|pv_evF i ?_;exact i64_ok g f
theorem cmpI_ok[GlobT]{k id vc:Nat}{caps:List TV}{c:List AV}{p q:RR k}{es:List<|List AV}{z:Int}(e:∀sp∈E.il,IOK P T sp)(g:Qt N S st)(f:id<S.hp.length)(l:Qc S.hp caps c)(d:c≠[])(h:cmpI E n vc id k caps S p.1.1 q.1.1=some z):
 cmpG (evF P T n) vc c (ag k) (outO st.heap id) (detO st.heap id (cds k).length es) p.1.2 q.1.2=some z:=by
 unfold cmpI at h;have u:=gone_ok g f<|.blk (cds k).length<|es++[List.replicate (cds k).length .undef];have j:(detO st.heap id (cds k).length es).length=S.hp.length:=by simp[detO,g.hp.ln]
 let⟨a,o,tv,w,r,x,m,s⟩:=callI_ok (N:=0) (S:=⟨[],(goneS id S).hp⟩) (st:=⟨[],detO st.heap id (cds k).length es⟩) (aw:=shwR (ag k) p.1.2::shwR (ag k) q.1.2::c) (by rw[j];exact Nat.le_refl _) ⟨rfl,λt v h=>(by cases h),u.hp⟩
  (show Qc (goneS id S).hp (val k p.1.1::val k q.1.1::caps.map (kill2 [id])) _ from⟨shw_ok p.2,shw_ok q.2,l.mapL λ_ _ q=>kill2_ok gone_hm q⟩) e h
 refine cmp_cap d ⟨o,?_⟩;rw[j,r,i64_ok s m]
theorem lstX_ok{fl k:Nat}{v:TV}{p:Nat×List (den k)}(h:lstX fl H k v=some p): v=.ms p.1 none∧fl≤p.1∧H[p.1]?=some (.lst k p.2):=by
 unfold lstX at h;split at h
 ·split at h
  ·cases h
  ·split at h
   ·cases h
   ·rename_i c;split at h
    ·rename_i o d;split at h
     ·split at h
      ·rename_i f a;let⟨e,a⟩:=castK_e (F:=λk=>List<|den k) a;subst e;subst a;cases h;exact⟨rfl,Nat.le_of_ble_eq_true c,d⟩
      ·cases h
     ·cases h
    ·cases h
 ·cases h
theorem oneX_ok{k id:Nat}{v:TV}{z:den k}{a:AV}(m:Qs H A)(q:Qh H v a)(h:oneX H k id v=some z):
 ∃row,(∃id2,id≠id2∧a=.ms id2 1 0 1∧A[id2]?=some (.blk (cds k).length [row]))∧Qr (cel k z) row:=by
 unfold oneX at h;split at h
 ·split at h
  ·rename_i p l;split at h
   ·cases h
   ·rename_i c;let⟨id2,i⟩:=p;let⟨e,_,g⟩:=lstX_ok l;rw[e] at q;split at h
    ·rename_i r d;cases h;have d:i=[z]:=d;subst d;let⟨b,n,f⟩:=m.lst g;obtain⟨row,rfl⟩:∃row,b=[row]:=by
      match b,f with
      | [row],_=>exact⟨row,rfl⟩
     exact⟨row,⟨id2,Nat.ne_of_beq_eq_false c,q.mw g,n⟩,f.1⟩
    ·cases h
  ·cases h
 ·cases h
theorem prim_t[GlobT]{vi:Nat}{p:PSp}{vs:List TV}{aw:List AV}(G:POK T vi p)(hE:∀vi c,E.cs vi=some c->FOK P T vi c)(a3:∀sp∈E.il,IOK P T sp)(t:Qt N S st)(q:Qc S.hp vs aw)(h:primX E n p vs S K=some r):
 ∃v L tv D,evF P T (n+1) E.fl vi aw st.heap=some (v,L)∧Qt N D ⟨st.tmps,L⟩∧Qh D.hp tv v∧K tv D=some r:=by
 unfold primX at h;split at h
 ·rename_i k;split at h
  ·rename_i x f;obtain⟨b,J,rfl⟩:∃b J,aw=[b,J]:=by
    match aw,q with
    | [b,J],q=>exact⟨b,J,rfl⟩
   split at h
   ·rename_i id m
    ·split at h
     ·cases h
     ·rename_i a;have a:=Nat.le_of_ble_eq_true a;split at h
      ·rename_i o d;split at h
       ·rename_i k' l;split at h
        ·rename_i O C;let⟨e,C⟩:=castK_e (F:=λk=>List<|den k) C;subst e;subst C;have X:=(List.getElem?_eq_some_iff.1 d).1;have a2:=q.1.mw d;have Q:∀{F:den k'->den k'->Option Int} {vc:Nat} {caps:List AV},J=.fn vc caps->(∀(p q:RR k') (es:List<|List AV) (z:Int),F p.1.1 q.1.1=some z->cmpG (evF P T n) vc caps (ag k') (outO st.heap id) (detO st.heap id (cds k').length es) p.1.2 q.1.2=some z)->
          srtX F m O (λw=>K (.tup [])<|putH S id<|.lst k' w)=some r->
          ∃v L tv D,evF P T (n+1) E.fl vi [b,J] st.heap=some (v,L)∧Qt N D ⟨st.tmps,L⟩∧Qh D.hp tv v∧K tv D=some r:=by
          intro F vc caps u hF h;let⟨w,s,hw,M,h,b2⟩:=srtX_ok h;let⟨es',e1,e2⟩:=sort_t1 a G t d M hw a2 u hF s;have V:HM S.hp<|S.hp.set id<|.lst k'<|splice O (wOf O m).1 w:=HM.set λk2 l2 e=>by
           rw[d] at e;cases e;exact⟨k',_,rfl,b2⟩
          exact⟨_,_,.tup [],putH S id<|.lst k'<|splice O (wOf O m).1 w,e1,t.hpM V<|t.hp.set V ⟨es',rfl,e2⟩,Qh.mkT (cs:=[]) (aw:=[]) trivial,h⟩
         split at h
         ·rename_i vc caps;let⟨b1,u,hq⟩:=q.2.1.inF;split at h
          ·split at h
           ·rename_i c I;cases b1 with
            | cons=>exact hq.elim
            | nil=>exact Q u (λp q es z R=>cmpX_ok (hE _ _ I) t X R) h
           ·cases h
          ·rename_i c0 r0;refine Q u (λp q es z R=>cmpI_ok a3 t X hq (λe=>?_) R) h;subst e;exact hq.elim
         ·cases h
        ·cases h
       ·cases h
      ·cases h
   ·cases h
  ·cases h
 ·rename_i k F;let⟨g,hg,G⟩:=G;split at h
  ·rename_i x;obtain⟨b,rfl⟩:∃b,aw=[b]:=by
    match aw,q with
    | [b],q=>exact⟨b,rfl⟩
   split at h
   ·rename_i p hx;let⟨id,l⟩:=p;obtain⟨rfl,a,d⟩:=lstX_ok hx;let⟨_,M,h⟩:=bnd_some h;let⟨es,g1,A⟩:=t.hp.lst d;let⟨es',Z,k2,k3⟩:=G E.fl st.heap id l es a g1 A<|of_decide_eq_true<|grd_some M;have V:HM S.hp<|S.hp.set id<|.lst k<|F l:=HM.set λk2 l2 e=>by rw[d] at e;cases e;exact⟨k,_,rfl,k3⟩
    refine⟨_,_,.tup [],putH S id<|.lst k<|F l,?_,t.hpM V<|t.hp.set V ⟨es',rfl,k2⟩,Qh.mkT (cs:=[]) (aw:=[]) trivial,h⟩;rw[evF,hg,q.1.mw d];exact Z
   ·cases h
  ·cases h
 ·rename_i k;let⟨g,hg,G⟩:=G;split at h
  ·rename_i x i y;obtain⟨b,Y,U,rfl⟩:∃b Y U,aw=[b,Y,U]:=by
    match aw,q with
    | [b,Y,U],q=>exact⟨b,Y,U,rfl⟩
   split at h
   ·rename_i p hx;let⟨id,l⟩:=p;obtain⟨rfl,a,d⟩:=lstX_ok hx;split at h
    ·rename_i j hj;split at h
     ·rename_i z R;let⟨l',s,h⟩:=bnd_some h;unfold insO at s;split at s
      ·rename_i I;cases s;let⟨es,g1,A⟩:=t.hp.lst d;let⟨row,hy,B⟩:=oneX_ok t.hp q.2.2.1 R;have Z:=G E.fl st.heap id U j.toNat es row a hy g1 (by rw[B.len,cel_len]) (by rw[A.len];exact I.2.1) (by rw[A.len];exact I.2.2);refine⟨.ms id (es.length+1) 0<|es.length+1,st.heap.set id<|.blk (cds k).length (es.take j.toNat++row::es.drop j.toNat),.ms id none,killS id<|putH S id<|.lst k (l.take j.toNat++z::l.drop j.toNat),?_,kill_ok t d λH=>⟨_,rfl,(A.take _).app ⟨B,A.drop _⟩⟩,?_,h⟩
       ·rw[evF,hg,q.1.mw d,i64_ok hj q.2.1];have e:((j.toNat:Nat):Int)=j:=Int.toNat_of_nonneg I.1;rw[e] at Z;simp only[wOf];have g0:l.length=es.length:=A.len.symm;rw[g0];exact Z
       ·have:=Qh.ms (H:=(killS id<|putH S id<|.lst k (l.take j.toNat++z::l.drop j.toNat)).hp) id k (l.take j.toNat++z::l.drop j.toNat) (by simp[killS,putH,List.getElem?_map,(List.getElem?_eq_some_iff.1 d).1,killO]);have M:(l.take j.toNat++z::l.drop j.toNat).length=es.length+1:=by
         have g0:es.length=l.length:=A.len;have c2:j.toNat≤l.length:=I.2.1;simp only[List.length_append,List.length_take,List.length_cons,List.length_drop];omega
        rw[M] at this;exact this
      ·cases s
     ·cases h
    ·cases h
   ·cases h
  ·cases h
 ·cases h
end
section
variable [RowT]{R:Type}{H H1:TH}{A:Heap}{N:Nat}{S:TS}{st:St}{P:Program}{T:List AFun}{cf:CF}{op:AOp}{K:TV->TS->Option R}{r:R}{E:XE}{n:Nat}{d:Option Nat}
theorem callF_ok[GlobT]{vi:Nat}{vs:List TV}{aw:List AV}(d:EOK P T E)(c:Qt N S st)(q:Qc S.hp vs aw)(h:(match Nat.ble E.fl S.hp.length with | true=>callI n E.fl vi vs S K E.il | false=>none)=some r):
 ∃v b tv a,evF P T n E.fl vi aw st.heap=some (v,b)∧Qt N a ⟨st.tmps,b⟩∧Qh a.hp tv v∧K tv a=some r:=by
 split at h
 ·rename_i e;exact callI_ok (by rw[c.hp.ln];exact Nat.le_of_ble_eq_true e) c q d.il h
 ·cases h
theorem call_t[GlobT]{pu:Bool}{vi:Nat}{f:List AOpd}(b:EOK P T E)(a:Qt N S st)(h:exOp E n d (.call pu vi f) S K=some r): Ok1 P (evF P T n) E.fl N (.call pu vi f) st K r:=by
 simp only[exOp] at h;split at h
 ·split at h
  ·rename_i c l;let⟨v,tv,j,o,i⟩:=call0 (b.cs vi c l) a h;exact Ok1.same a j o i
  ·cases h
 ·split at h
  ·rename_i p g;let⟨m,k,h⟩:=bnd_some h;have e:=prd_eq k;subst e;exact prim_t (b.pr vi p g) b.cs b.il a (getL a f) h
  ·exact callF_ok b a (getL a f) h
theorem nrmT_ok{v:TV}{a:AV}(q:Qh H v a): Qh H (nrmT v)<|nrm2 a:=by
 cases v with
 | agg cs=>
  obtain⟨aw,rfl,d⟩:=q.inA;exact Qh.mkA (d.map λc b q=>by
   cases c with
   | agg cs=>obtain⟨aw,rfl,_⟩:=q.inA;exact q
   | _=>exact nrm1_ok q λcs e=>by cases e)
 | undef=>exact Qh.u _
 | _=>
  have:=nrm1_ok q (λcs e=>by cases e);cases a with
  | agg=>
   cases q with
   | p _ _ q=>cases q<;>simp_all
  | _=>exact this
theorem ref_np{v:TV}{a:AV}(q:Qh H v a)(h:isRef v=true): plain2 a=false:=by
 cases v with
 | ptr=>rw[q.ptr1];rfl
 | pel=>let⟨_,_,_,_,_,e⟩:=q.pel1;rw[e];rfl
 | ms id m=>
  cases q with
  | p _ _ q=>cases q
  | ms=>rfl
  | msn=>rfl
 | mp=>rw[q.mp1];rfl
 | rs=>rw[q.rs1];rfl
 | rel=>rw[q.rel1];rfl
 | _=>cases h
theorem plainAll_np: ∀{vs:List TV} {aw:List AV},Qc H vs aw->vs.any isRef=true->plainAll aw=false
 | [],_,_,h=>by cases h
 | v::vs,a::aw,q,h=>by
  simp only[List.any_cons,Bool.or_eq_true] at h;simp only[plainAll];rcases h with h | h
  ·rw[ref_np q.1 h]
  ·cases plain2 a with
   | true=>exact plainAll_np q.2 h
   | false=>rfl
theorem callv_t[GlobT]{pu:Bool}{x:AOpd}{m:List AOpd}(z:EOK P T E)(b:Qt N S st)(h:exOp E n d (.callv pu x m) S K=some r): Ok1 P (evF P T n) E.fl N (.callv pu x m) st K r:=by
 have q:=b.get x;simp only[exOp] at h;split at h
 ·rename_i vi caps G;rw[G] at q;let⟨j,o,y⟩:=q.inF;split at h
  ·split at h
   ·split at h
    ·rename_i c D;cases j with
     | cons=>exact y.elim
     | nil=>
      let⟨v,tv,i,s,t⟩:=call0 (z.cs vi c D) b h;refine Ok1.same b ?_ s t;simp only[evOp,o,List.append_nil];exact i
    ·cases h
   ·rename_i c0 I;unfold callP at h;split at h
    ·rename_i A;have w:=(getL b m).app y;let⟨a,C,tv,B,i,s,t,g⟩:=callI_ok (aw:=(m.map (getOpd st.tmps)++j).map nrm2) (by rw[b.hp.ln];exact Nat.le_refl _) b (w.map λ_ _ q=>nrmT_ok q) z.il h;split at g
     ·rename_i u;split at g
      ·cases g
      ·rename_i F;have e:=t.inL;subst e;refine Ok1.same (v:=.lit u) b ?_ (Qh.l _) g;simp only[evOp,o,callA,plainAll_np w A];rw[b.hp.ln,i];cases u<;>first | rfl | exact absurd rfl (F _ _ _)
     ·rename_i k l;let⟨es,H,e2⟩:=(t.pu trivial).inS;refine Ok1.same (v:=.sl false es) b ?_ (.p _ _<|Qp.mkS (.inr ⟨_,rfl⟩) e2) g;simp only[evOp,o,callA,plainAll_np w A];rw[b.hp.ln,i];rcases H with⟨rfl,rfl⟩ | ⟨f,rfl⟩<;>rfl
     ·cases g
    ·cases h
  ·let⟨v,C,tv,B,i,s⟩:=callF_ok z b ((getL b m).app y) h;exact⟨v,C,tv,B,by simp only[evOp,o];exact i,s⟩
 ·cases h
theorem isNilT_e{v:TV}(h:isNilT v=true): v=.lit nilS:=by
 unfold isNilT at h;repeat' split at h
 all_goals first | (cases h;done) | rfl
theorem boxC_t[GlobT]{x:AOpd}{a:List<|Nat×Nat}(s:Qt N S st)(h:exOp E n d (.boxC x a) S K=some r): Ok1 P cf E.fl N (.boxC x a) st K r:=by
 simp only[exOp] at h;split at h
 ·rename_i d';split at h
  ·rename_i t;split at h
   rotate_left
   ·cases h
   rename_i z Z;split at h
   rotate_left
   ·cases h
   rename_i nz;let⟨zw,zf,ze⟩:=cellsT_ok Z<|s.get x;have nw:nilAt zw a=true:=by
    refine List.all_eq_true.2 λc hc=>?_;have w:=List.all_eq_true.1 nz c hc;split at w
    ·rename_i v hv;let⟨y,hy,O⟩:=ze.get hv;rw[isNilT_e w] at O;rw[hy,O.inL];rfl
    ·cases w
   have p:∀{a:List<|Nat×Nat},okCl E d' a=true->∀c∈a,(cds<|kdL E d' c.1).length=c.2:=by
    intro a;induction a with
    | nil=>intro _ c x;cases x
    | cons c a j=>
     intro h c' m;simp only[okCl] at h;split at h
     ·rename_i e;rcases List.mem_cons.1 m with rfl | m
      ·exact Nat.eq_of_beq_eq_true e
      ·exact j h c' m
     ·cases h
   let H1:TH:=S.hp++a.map λc=>TObj.lst (kdL E d' c.1) [];let g:TH:=H1++[.box<|claimT S.hp.length z a];have o:HM S.hp g:=λi k l u=>⟨k,l,by
    have:=(List.getElem?_eq_some_iff.1 u).1;rw[List.getElem?_append_left<|by simp[H1];omega,List.getElem?_append_left this];exact u,rfl⟩
   have B:All2 (Qo g) (a.map λc=>TObj.lst (kdL E d' c.1) [])<|a.map λc=>AObj.blk c.2 []:=by
    have:=p t;clear h t nz nw;generalize g=g at *;clear o;induction a with
    | nil=>trivial
    | cons c a j=>exact⟨⟨[],by rw[this c List.mem_cons_self],trivial⟩,j λc' h=>this c'<|List.mem_cons_of_mem _ h⟩
   have A:∀(b f:List<|Nat×Nat) (cs:List TV) (aw:List AV),a=b++f->Qc g cs aw->Qc g (claimT (S.hp.length+b.length) cs f) (claimCells (S.hp.length+b.length) aw f):=by
    intro b f;induction f generalizing b with
    | nil=>intro cs aw _ q;exact q
    | cons c f j=>
     intro cs aw e q;have w:Qh g (.ms (S.hp.length+b.length) none)<|.ms (S.hp.length+b.length) 0 0 0:=by
      refine .ms _ (kdL E d' c.1) [] ?_;rw[List.getElem?_append_left<|by simp[H1,e],List.getElem?_append_right<|Nat.le_add_right _ _,Nat.add_sub_cancel_left,e];simp
     have:=j (b++[c]) (cs.set c.1<|.ms (S.hp.length+b.length) none) (aw.set c.1<|.ms (S.hp.length+b.length) 0 0 0) (by rw[e];simp)<|q.set c.1 w;rw[List.length_append,List.length_singleton] at this;exact this
   have v:=A [] a z zw rfl<|ze.imp λ_ _ h=>h.mono o;have C:(claimT S.hp.length z a).length=z.length:=by
    have:∀(a:List<|Nat×Nat) (n:Nat) (cs:List TV),(claimT n cs a).length=cs.length:=by
     intro a;induction a with
     | nil=>intro n cs;rfl
     | cons c a j=>intro n cs;simp[claimT,j]
    exact this _ _ _
   have e2:st.heap.length=S.hp.length:=s.hp.ln;refine⟨.ptr (st.heap.length+a.length) 1 0 0,_,.ptr (S.hp.length+a.length) 0,⟨S.tm,g⟩,by simp only[evOp,zf,nw];rfl,s.hpM o ?_,by rw[e2];exact .ptr _ _,h⟩;refine All2.app (All2.app (s.hp.imp λ_ _ h=>h.mono o) B) ⟨⟨claimCells st.heap.length zw a,by rw[C,ze.len],by rw[e2];exact v⟩,trivial⟩
  ·cases h
 ·cases h
theorem buildC_t[GlobT]{z0:List Value}{ps:List<|Nat×Nat×AOpd}{a:List<|Nat×Nat}(s:Qt N S st)(h:exOp E n d (.buildC z0 ps a) S K=some r): Ok1 P cf E.fl N (.buildC z0 ps a) st K r:=by
 simp only[exOp] at h;split at h
 ·rename_i d';split at h
  ·rename_i t;split at h
   rotate_left
   ·cases h
   rename_i z Z;split at h
   rotate_left
   ·cases h
   rename_i nz;let⟨zw,zf,ze⟩:=fillT_ok s Z<|Qc.lits z0;have nw:nilAt zw a=true:=by
    refine List.all_eq_true.2 λc hc=>?_;have w:=List.all_eq_true.1 nz c hc;split at w
    ·rename_i v hv;let⟨y,hy,O⟩:=ze.get hv;rw[isNilT_e w] at O;rw[hy,O.inL];rfl
    ·cases w
   have p:∀{a:List<|Nat×Nat},okCl E d' a=true->∀c∈a,(cds<|kdL E d' c.1).length=c.2:=by
    intro a;induction a with
    | nil=>intro _ c x;cases x
    | cons c a j=>
     intro h c' m;simp only[okCl] at h;split at h
     ·rename_i e;rcases List.mem_cons.1 m with rfl | m
      ·exact Nat.eq_of_beq_eq_true e
      ·exact j h c' m
     ·cases h
   let H1:TH:=S.hp++a.map λc=>TObj.lst (kdL E d' c.1) [];let g:TH:=H1;have o:HM S.hp g:=λi k l u=>⟨k,l,by
    have:=(List.getElem?_eq_some_iff.1 u).1;rw[List.getElem?_append_left this];exact u,rfl⟩
   have B:All2 (Qo g) (a.map λc=>TObj.lst (kdL E d' c.1) [])<|a.map λc=>AObj.blk c.2 []:=by
    have:=p t;clear h t nz nw;generalize g=g at *;clear o;induction a with
    | nil=>trivial
    | cons c a j=>exact⟨⟨[],by rw[this c List.mem_cons_self],trivial⟩,j λc' h=>this c'<|List.mem_cons_of_mem _ h⟩
   have A:∀(b f:List<|Nat×Nat) (cs:List TV) (aw:List AV),a=b++f->Qc g cs aw->Qc g (claimT (S.hp.length+b.length) cs f) (claimCells (S.hp.length+b.length) aw f):=by
    intro b f;induction f generalizing b with
    | nil=>intro cs aw _ q;exact q
    | cons c f j=>
     intro cs aw e q;have w:Qh g (.ms (S.hp.length+b.length) none)<|.ms (S.hp.length+b.length) 0 0 0:=by
      refine .ms _ (kdL E d' c.1) [] ?_;rw[List.getElem?_append_right<|Nat.le_add_right _ _,Nat.add_sub_cancel_left,e];simp
     have:=j (b++[c]) (cs.set c.1<|.ms (S.hp.length+b.length) none) (aw.set c.1<|.ms (S.hp.length+b.length) 0 0 0) (by rw[e];simp)<|q.set c.1 w;rw[List.length_append,List.length_singleton] at this;exact this
   have v:=A [] a z zw rfl<|ze.imp λ_ _ h=>h.mono o
   have e2:st.heap.length=S.hp.length:=s.hp.ln;refine⟨.agg (claimCells st.heap.length zw a),_,.agg (claimT S.hp.length z a),⟨S.tm,g⟩,by simp only[evOp,zf,nw];rfl,s.hpM o ?_,by rw[e2];exact Qh.mkA v,h⟩;exact All2.app (s.hp.imp λ_ _ h=>h.mono o) B
  ·cases h
 ·cases h
theorem allocC_t[GlobT]{z:List Value}{a:List<|Nat×Nat}(s:Qt N S st)(h:exOp E n d (.allocC z a) S K=some r): Ok1 P cf E.fl N (.allocC z a) st K r:=by
 simp only[exOp] at h;split at h
 ·rename_i d';split at h
  ·rename_i t;have p:∀{a:List<|Nat×Nat},okCl E d' a=true->∀c∈a,(cds<|kdL E d' c.1).length=c.2:=by
    intro a;induction a with
    | nil=>intro _ c x;cases x
    | cons c a j=>
     intro h c' m;simp only[okCl] at h;split at h
     ·rename_i e;rcases List.mem_cons.1 m with rfl | m
      ·exact Nat.eq_of_beq_eq_true e
      ·exact j h c' m
     ·cases h
   let H1:TH:=S.hp++a.map λc=>TObj.lst (kdL E d' c.1) [];let g:TH:=H1++[.box<|claimT S.hp.length (z.map .lit) a];have o:HM S.hp g:=λi k l u=>⟨k,l,by
    have:=(List.getElem?_eq_some_iff.1 u).1;rw[List.getElem?_append_left<|by simp[H1];omega,List.getElem?_append_left this];exact u,rfl⟩
   have B:All2 (Qo g) (a.map λc=>TObj.lst (kdL E d' c.1) [])<|a.map λc=>AObj.blk c.2 []:=by
    have:=p t;clear h t;generalize g=g at *;clear o;induction a with
    | nil=>trivial
    | cons c a j=>exact⟨⟨[],by rw[this c List.mem_cons_self],trivial⟩,j λc' h=>this c'<|List.mem_cons_of_mem _ h⟩
   have A:∀(b f:List<|Nat×Nat) (cs:List TV) (aw:List AV),a=b++f->Qc g cs aw->Qc g (claimT (S.hp.length+b.length) cs f) (claimCells (S.hp.length+b.length) aw f):=by
    intro b f;induction f generalizing b with
    | nil=>intro cs aw _ q;exact q
    | cons c f j=>
     intro cs aw e q;have w:Qh g (.ms (S.hp.length+b.length) none)<|.ms (S.hp.length+b.length) 0 0 0:=by
      refine .ms _ (kdL E d' c.1) [] ?_;rw[List.getElem?_append_left<|by simp[H1,e],List.getElem?_append_right<|Nat.le_add_right _ _,Nat.add_sub_cancel_left,e];simp
     have:=j (b++[c]) (cs.set c.1<|.ms (S.hp.length+b.length) none) (aw.set c.1<|.ms (S.hp.length+b.length) 0 0 0) (by rw[e];simp)<|q.set c.1 w;rw[List.length_append,List.length_singleton] at this;exact this
   have v:=A [] a (z.map .lit) (z.map .lit) rfl<|Qc.lits z;have C:(claimT S.hp.length (z.map .lit) a).length=z.length:=by
    have:∀(a:List<|Nat×Nat) (n:Nat) (cs:List TV),(claimT n cs a).length=cs.length:=by
     intro a;induction a with
     | nil=>intro n cs;rfl
     | cons c a j=>intro n cs;simp[claimT,j]
    rw[this];simp
   have e2:st.heap.length=S.hp.length:=s.hp.ln;refine⟨.ptr (st.heap.length+a.length) 1 0 0,_,.ptr (S.hp.length+a.length) 0,⟨S.tm,g⟩,rfl,s.hpM o ?_,by rw[e2];exact .ptr _ _,h⟩;refine All2.app (All2.app (s.hp.imp λ_ _ h=>h.mono o) B) ⟨⟨claimCells st.heap.length (z.map .lit) a,by rw[C],by rw[e2];exact v⟩,trivial⟩
  ·cases h
 ·cases h
theorem chunk_flat2{α:Type}{s:Nat}: ∀(n:Nat) {l:List α},l.length=n*s->(chunk s n l).flatten=l∧(chunk s n l).length=n∧∀e∈chunk s n l,e.length=s
 | 0,l,h=>by
  rw[Nat.zero_mul] at h;have:=List.length_eq_zero_iff.1 h;subst this;exact⟨rfl,rfl,λe h=>by cases h⟩
 | n+1,l,h=>by
  rw[Nat.succ_mul] at h;let⟨a,b,c⟩:=chunk_flat2 (s:=s) n (l:=l.drop s) (by rw[List.length_drop];omega);refine⟨by simp only[chunk,List.flatten_cons,a,List.take_append_drop],by simp[chunk,b],λe he=>?_⟩;simp only[chunk] at he;rcases List.mem_cons.1 he with rfl | he
  ·rw[List.length_take];omega
  ·exact c e he
theorem rdRows_at{k:Nat}: ∀{cs:List<|List TV} {l:List<|den k} {es:List<|List AV},rdRows [] k cs=some l->All2 (Qc H) cs es->Ql k l es:=rdRows0
theorem index_t[GlobT]{agg:Bool}{s m:Nat}{x i:AOpd}(g:Qt N S st)(h:exOp E n d (.index agg s m x i) S K=some r): Ok1 P cf E.fl N (.index agg s m x i) st K r:=by
 have q:=g.get x;simp only[exOp] at h;split at h
 ·rename_i cs I;rw[I] at q;let⟨aw,G,y⟩:=q.inA;split at h
  ·cases h
  ·rename_i f;have f:=Nat.eq_of_beq_eq_true f;split at h
   ·cases h
   ·rename_i j D;split at h
    ·cases h
    ·split at h
     ·split at h
      ·rename_i H;split at h
       ·rename_i a;have a:H<m:=by simpa [Nat.blt_eq] using a
        let⟨U,tv,v,b,T,M⟩:=pickC_ok h y;have z:natOf (getOpd st.tmps i)=some H:=intOf_ok D (g.get i)<|Int.natCast_nonneg _;refine Ok1.same g ?_ T M;simp only[evOp,z,a,if_true,G];rw[if_pos U];cases agg with
        | true=>simp only[if_true,Option.some.injEq] at b ⊢;rw[b]
        | false=>
         simp only[Bool.false_eq_true,if_false] at b ⊢;split at b
         ·rename_i V;rw[V];cases b;rfl
         ·cases b
       ·cases h
      ·cases h
     ·rename_i k _;split at h
      ·split at h
       ·rename_i F;have F:=Nat.eq_of_beq_eq_true F;split at h
        ·rename_i l B;let⟨X,C,h⟩:=bnd_some h;let⟨R,L,W⟩:=idx_some C;have o:aw.length=m*s:=by rw[y.len,f]
         let⟨Z,J,Y⟩:=chunk_flat2 m o;have t:All2 (Qc S.hp) (chunk s m cs)<|chunk s m aw:=by
          have:∀(m:Nat) (cs:List TV) (aw:List AV),Qc S.hp cs aw->All2 (Qc S.hp) (chunk s m cs) (chunk s m aw):=by
           intro m;induction m with
           | zero=>intro _ _ _;trivial
           | succ m u=>intro cs aw q;exact⟨q.take s,u _ _<|q.drop s⟩
          exact this m cs aw y
         have e:Ql k l<|chunk s m aw:=rdRows_at B t;let⟨row,Q,O⟩:=e.get L;refine Ok1.same (v:=.agg row) g ?_ (Qh.mkA O.c) h;have z:natOf (getOpd st.tmps i)=some j.toNat:=intOf_ok D (g.get i) R;have a:j.toNat<m:=by rw[←J,e.len];exact W
         have A:∀(m:Nat) (aw:List AV) (j:Nat) (row:List AV),aw.length=m*s->(chunk s m aw)[j]?=some row->(aw.drop<|j*s).take s=row∧j*s+s≤aw.length:=by
          intro m;induction m with
          | zero=>intro aw j row _ h;simp[chunk] at h
          | succ m u=>
           intro aw j row f h;rw[Nat.succ_mul] at f;cases j with
           | zero=>simp only[chunk,List.getElem?_cons_zero,Option.some.injEq] at h;rw[Nat.zero_mul];exact⟨h,by omega⟩
           | succ j=>
            simp only[chunk,List.getElem?_cons_succ] at h;let⟨p,w⟩:=u (aw.drop s) j row (by rw[List.length_drop];omega) h;rw[List.drop_drop] at p;rw[List.length_drop] at w;rw[Nat.succ_mul,Nat.add_comm (j*s) s];exact⟨p,by omega⟩
         let⟨p,w⟩:=A m aw j.toNat row o Q;simp only[evOp,z,a,if_true,G];rw[if_pos w,p]
        ·cases h
       ·cases h
      ·cases h
 ·cases h
theorem seal2_lit{A:Heap}{a:AV}{w:Value}(h:seal2 A 0 a=.lit w): a=.lit w:=by
 cases a with
 | lit v=>
  have h:nrmV v=.lit w:=h;unfold nrmV at h;split at h
  ·split at h
   ·split at h
    ·split at h
     ·cases h
     ·exact h
    ·exact h
   ·exact h
  ·exact h
 | ms id tot off len=>
  simp only[seal2,seal1,Nat.not_lt_zero,if_false,sealDepth,sealC,Nat.zero_le,if_true] at h;split at h<;>cases h
 | mp id=>
  simp only[seal2,seal1,Nat.not_lt_zero,if_false,sealDepth,sealC,Nat.zero_le,if_true] at h;split at h<;>cases h
 | ptr=>simp[seal2,seal1] at h
 | fn vi caps=>cases caps<;>cases h
 | _=>cases h
theorem rdV_sl{w k k':Nat}{u:TV}{x:den k}(b:cds k=[.sl k'])(d:ag k=false)(h:rdV w H k u=some x): ∃y,rdS w H k' u=some y∧val k x=.sl k' y:=by
 unfold rdV at h;rw[d] at h;have h:rdRow w H k [u]=some x:=h;unfold rdRow at h;split at h
 ·rename_i p a;cases h;have c:∀(cs:List Cd) (p:PrC cs),cs=[.sl k']->rdL w H cs [u]=some p->∃y,rdS w H k' u=some y∧hdT (celC cs p)=.sl k' y:=by
   intro cs p e a;subst e;simp only[rdL] at a;split at a
   ·rename_i y f;cases a;exact⟨y,f,rfl⟩
   ·cases a
  let⟨y,j,i⟩:=c _ p b a;refine⟨y,j,?_⟩;unfold val cel;rw[d,RowT.un_pk];exact i
 ·cases h
theorem keep_row{s k':Nat}{u:TV}{y:List<|den k'}{p:AV}{x:List TV}{i:Heap}{H':TH}(g:(cds k').length=s)(C:Qs H' i)(q:Qh H' u p)(a:keepB H' (u::x)=true)(b:rdS 2 H' k' u=some y): ∃rows,rowsK s i p=some rows∧Ql k' y rows:=by
 cases u with
 | ms id m=>
  simp only[keepB] at a;split at a
  ·rename_i o h;split at a
   ·rename_i G f;have j:wOf f m=(0,f.length):=by
     cases m with
     | none=>rfl
     | some w=>exact of_decide_eq_true a
    have d:win f m=f:=by rw[win_all,j];simp
    have b:castK (λk=>List<|den k) (k':=k') f=some y:=by
     simp only[rdS,h,d] at b;exact b
    let⟨e,b⟩:=castK_e (F:=λk=>List<|den k) b;subst e;subst b;let⟨es,A,l⟩:=C.lst h;have n:=q.mw h;rw[j] at n;subst n;refine⟨es.map λe=>e.map<|sealC (i.set id<|.blk s<|es++[List.replicate s .undef]) 0 sealDepth,?_,(mild_seal _ 0 _).ls l⟩;have r:Nat.beq y.length y.length=true:=Nat.beq_refl _;have B:Nat.beq es.length y.length=true:=by rw[l.len];exact r
    have t:Nat.beq s s=true:=Nat.beq_refl _;have z:Nat.beq 0 0=true:=rfl;simp only[rowsK,r,z,A,B,g,t,Bool.and_self]
   ·cases a
  ·cases a
 | lit v=>
  simp only[keepB] at a;split at a
  ·split at a
   ·split at a
    ·split at a
     ·rw[q.inL];cases b;exact⟨[],rfl,trivial⟩
     ·cases a
    ·cases a
   ·cases a
  ·cases a
 | _=>cases a
theorem lits_all: ∀{vs:List TV} {aw:List AV} {b:Heap},(vs.all λv=>match v with | .lit _=>true | _=>false)=true->Qc H vs (aw.map<|seal2 b 0)->aw.all isLit=true∧Qc H vs aw
 | [],[],_,_,_=>⟨rfl,trivial⟩
 | v::vs,a::aw,b,h,q=>by
  simp only[List.all_cons,Bool.and_eq_true] at h;let⟨d,e⟩:=lits_all h.2 q.2;cases v with
  | lit w=>
   have:=seal2_lit q.1.inL;subst this;exact⟨by simp[isLit,d],Qh.l _,e⟩
  | _=>cases h.1
theorem val_sl{k k':Nat}(a:cds k=[.sl k'])(b:ag k=false)(x:den k): ∃y,val k x=.sl k' y:=by
 unfold val;rw[b];unfold cel;generalize RowT.un k x=p;revert p;rw[a];exact λp=>⟨p.1,rfl⟩
def kpB(kp:Bool)(kr:List Nat): Bool:=match kp with
 | false=>true
 | true=>match kr with
  | k::_=>match cds k with
   | [c]=>match c with
    | .sl _=>!(ag k)
    | _=>false
   | _=>false
  | []=>false
theorem FOK.of0[GlobT]{P:Program}{T:List AFun}{vi:Nat}{c:CSp}(h:FOK0 P T vi c)(b:kpB c.kp c.kr=true): FOK P T vi c:=by
 intro n p r i aw F;let⟨o,d,H,H',I,t,g,a,l⟩:=h n p r i aw F;refine⟨d,H,I,λH1=>(resP a g t).1,(resP (H1:=[]) a g t).2,λe=>?_⟩;have l:=l e;rw[e] at b;intro J y s f;clear h e i;revert r a f;generalize c.kr=A at b;intro r a f;cases A with
 | nil=>cases b
 | cons k j=>
  simp only[kpB] at b;split at b
  ·rename_i c' q;split at b
   ·rename_i k';have b:ag k=false:=by simpa using b
    cases o with
    | nil=>cases l
    | cons u o=>
    match d,g with
    | C::d,g=>
    replace a:rdTs 2 H' (.v k::j.map .v) (u::o)=some r:=a;simp only[rdTs] at a;split at a
    ·rename_i w m;split at a
     ·rename_i p' G;cases a;let⟨z,E,D⟩:=rdV_sl q b m;let⟨rows,i,x⟩:=keep_row rfl t g.1 l E;have B:tvs (.v k::j.map .v) (PrT.cs w p')=.sl k' z::tvs (j.map .v) p':=by
       simp only[tvs,PrT.hc,PrT.tc];congr 1
      have f:tvs (.v k::j.map .v) (PrT.cs w p')=.sl J y::s:=f;rw[B] at f;cases f;exact⟨C,d,rows,rfl,i,x⟩
     ·cases a
    ·cases a
   ·cases b
  ·cases b
theorem keep_ok[GlobT]{s vi k k':Nat}{j:List Nat}{M:List AOpd}{z:List Nat}{x:PrT<|z.map .v}{c:List AV}{p:Heap}(Q:Qt N S st)(C:z=k::j)(F:cds k=[.sl k'])(B:(cds k').length=s)(hg:ag k=false)(D:evF P T n 0 vi ((M.map<|getOpd st.tmps).map<|viewA2 st.heap) []=some (packA c,p))(f:∀H1:TH,Qc H1 (tvs (z.map .v) x)<|c.map<|seal2 p 0)(O:∀a∈c,∀l,a≠.tup l)(U:KpOK p (tvs (z.map .v) x) c)(h:(match tvs (z.map .v) x with | [v]=>keepX v S K | vs=>keepX (.tup vs) S K)=some r): Ok1 P (evF P T n) E.fl N (.callT s vi M) st K r:=by
 subst C;have f:=f S.hp;have L:tvs (.v k::j.map .v) x=val k (PrT.hd x)::tvs (j.map .v) (PrT.tl x):=rfl;let⟨y,Z⟩:=val_sl F hg<|PrT.hd x;have H:tvs (.v k::j.map .v) x=.sl k' y::tvs (j.map .v) (PrT.tl x):=by rw[L,Z]
 let⟨i,w,rows,e0,G,R⟩:=U k' y _ H;subst e0;rw[B] at G;generalize a2:PrT.tl x=p' at H;have f:Qc S.hp (tvs (.v k::j.map .v) x)<|(i::w).map<|seal2 p 0:=f;have h:(match tvs (.v k::j.map .v) x with | [v]=>keepX v S K | vs=>keepX (.tup vs) S K)=some r:=h;rw[H] at f h;revert f h O D;generalize w=c;intro D O f h;have A:∀{tv:TV} {rv:AV} (rest:AV->AV) ,keepT s st.heap (some (packA (i::c),p))=some (rest<|.ms st.heap.length rows.length 0 rows.length,st.heap++[.blk s rows])->(∀H1:TH,HM S.hp H1->Qh H1 (.ms S.hp.length none) (.ms st.heap.length rows.length 0 rows.length)->Qh H1 tv (rest<|.ms st.heap.length rows.length 0 rows.length))->K tv (addH S<|.lst k' y)=some r->Ok1 P (evF P T n) E.fl N (.callT s vi M) st K r:=by
  intro tv rv rest V I h;refine Ok1.add (o:=.lst k' y) (b:=.blk s rows) Q ?_ ⟨rows,by rw[B],R⟩ (I _ HM.add ?_) h
  ·simp only[evOp,D];exact V
  ·rw[Q.hp.ln,R.len];exact .ms _ k' y<|by simp
 cases g:tvs (j.map .v) p' with
 | nil=>
  rw[g] at f h;have e:c=[]:=by
   cases c with
   | nil=>rfl
   | cons=>exact f.2.elim
  subst e;have ha:∀l,i≠.tup l:=O i List.mem_cons_self;refine A (rv:=i) (λa=>a) ?_ (λH1 _ q=>q) h;show keepT s st.heap (some (i,p))=_;cases i with
  | tup l=>exact (ha l rfl).elim
  | _=>simp only[keepT,G]
 | cons v vs=>
  rw[g] at f h;have h:keepX (.tup (.sl k' y::v::vs)) S K=some r:=h;unfold keepX at h;simp only at h;split at h
  ·rename_i u;obtain⟨t,d,rfl⟩:∃t d,c=t::d:=by
    cases c with
    | nil=>exact f.2.elim
    | cons t d=>exact⟨t,d,rfl⟩
   let⟨Y,W⟩:=lits_all (vs:=v::vs) (aw:=t::d) u f.2;refine A (rv:=i) (λa=>.tup (a::t::d)) ?_ (λH1 m q=>Qh.mkT (cs:=.ms S.hp.length none::v::vs) ⟨q,W.imp λ_ _ h=>h.mono m⟩) h;show keepT s st.heap (some (.tup (i::t::d),p))=_;simp only[keepT,Y,G]
  ·cases h
theorem callT_t[GlobT]{s vi:Nat}{l:List AOpd}(t:EOK P T E)(i:Qt N S st)(h:exOp E n d (.callT s vi l) S K=some r): Ok1 P (evF P T n) E.fl N (.callT s vi l) st K r:=by
 simp only[exOp] at h;split at h
 ·rename_i c w;have D:=t.cs vi c w;split at h
  ·rename_i j;split at h
   ·rename_i k F f;split at h
    ·rename_i e g;split at h
     ·rename_i k';split at h
      ·rename_i a;simp only[Bool.and_eq_true,Bool.not_eq_true'] at a;have b:=Nat.eq_of_beq_eq_true a.1;have y:=a.2;unfold callX at h;split at h
       ·rename_i p u;split at h
        ·cases h
        ·rename_i B;let⟨x,A,h⟩:=bnd_some h;have C:=argsV (H1:=[]) B u (getL i l) i.hp;let⟨z,G,o,q,v,m⟩:=D n p x A _ C;exact keep_ok i f g b y o q v (m j)<|by rw[splL_eq] at h;exact h
       ·cases h
      ·cases h
     ·cases h
    ·cases h
   ·cases h
  ·cases h
 ·cases h
end
section
variable [RowT]{R:Type}{H H1:TH}{A:Heap}{N:Nat}{S:TS}{st:St}{P:Program}{T:List AFun}{cf:CF}{op:AOp}{K:TV->TS->Option R}{r:R}{E:XE}{n:Nat}{d:Option Nat}
theorem cln_ev[GlobT]{vi l s bytes:Nat}{z:List Value}{G:Heap}(h:getF T vi=some ⟨l,8,[.tmp 2],clnB s bytes z⟩)(m:0<s):
 evF P T (n+1) G.length vi [.lit nilS] G=some (.lit nilS,G)∧(∀a,(∃f,a=.sl f [])∨a=.vw []->evF P T (n+1) G.length vi [a] G=some (.sl false [],G)) ∧
 ∀a e es,((∃f,a=.sl f (e::es))∨a=.vw (e::es))->allLen s (e::es)=true->room (e::es).length bytes=true->
  evF P T (n+1) G.length vi [a] G=some (.ms G.length (e::es).length 0 (e::es).length,G++[.blk s (e::es)]):=by
 have d:Nat.blt 3 8=true:=rfl;have c:Nat.blt 4 8=true:=rfl;have i:Nat.beq G.length G.length=true:=Nat.beq_refl _;refine⟨?_,?_,?_⟩
 ·rw[evF_at _ h];simp[d,c,clnB,evC,evReg,evOps,evOper,wantA,evOp,getOpd,nilK,nilTm,putA,fillE,finA,retsA,evRet,packA,notNormal,nilS,undefV]
 ·intro a j;rw[evF_at _ h];have b:appendA G.length G s bytes (.sl true []) []=some (.sl true [],G):=by simp[appendA,allLen,m,room]
  rcases j with⟨f,rfl⟩ | rfl <;>
   simp[d,c,i,clnB,evC,evReg,evOps,evOper,wantA,evOp,getOpd,nilK,nilTm,putA,fillE,rd,rdY,b,finA,retsA,evRet,packA,joinR,joinL,join1,empA,nilS,undefV]
 ·intro a e es j p o;rw[evF_at _ h];have b:appendA G.length G s bytes (.sl true []) (e::es)=some (.ms G.length (e::es).length 0 (e::es).length,G++[.blk s (e::es)]):=by
   have k:allLen s ([]:List<|List AV)=true:=rfl;unfold appendA;have g:room (([]:List<|List AV).length+(e::es).length) bytes=true:=by simpa using o
   rw[if_pos ⟨p,m,o⟩];simp only[k,g,and_self,if_true];simp
  generalize q:(e::es).length=L at b;rcases j with⟨f,rfl⟩ | rfl <;>
   simp[d,c,clnB,evC,evReg,evOps,evOper,wantA,evOp,getOpd,nilK,nilTm,putA,fillE,rd,rdY,b,finA,retsA,evRet,packA,nilS,undefV]
end
section
variable [RowT]{R:Type}{H H1:TH}{A:Heap}{N:Nat}{S:TS}{st:St}{P:Program}{T:List AFun}{cf:CF}{op:AOp}{K:TV->TS->Option R}{r:R}{E:XE}{n:Nat}{d:Option Nat}
theorem Ql.rep{k:Nat}{x:den k}{row:List AV}(h:Qr (cel k x) row): ∀n,Ql k (List.replicate n x) (List.replicate n row)
 | 0=>trivial
 | n+1=>⟨h,Ql.rep h n⟩
theorem rep_some{α:Type}{x:α}{a b:Int}{l:List α}(h:rep x a b=some l): 0≤a∧a≤b∧b≤1000000∧l=List.replicate a.toNat x:=by
 unfold rep at h;split at h
 ·rename_i c;cases h;exact⟨c.1,c.2.1,c.2.2,rfl⟩
 ·cases h
theorem natOf_i64[GlobT]{x:AOpd}{a:Int}(b:Qt N S st)(h:i64? (getT S.tm x)=some a)(c:0≤a): natOf (getOpd st.tmps x)=some a.toNat:=by
 rw[i64_ok h (b.get x)];simp[natOf,c]
theorem mkSlice_t[GlobT]{s bytes:Nat}{z:List Value}{x y:AOpd}(f:Qt N S st)(h:exOp E n d (.mkSlice s z bytes x y) S K=some r): Ok1 P cf E.fl N (.mkSlice s z bytes x y) st K r:=by
 have j:=f.hp.ln;simp only[exOp] at h;split at h
 ·rename_i c;simp only[Bool.and_eq_true] at c;have A:=Nat.eq_of_beq_eq_true c.1;have e2:=Nat.eq_of_beq_eq_true c.2.1;have k:=Nat.le_of_ble_eq_true c.2.2;split at h
  ·rename_i e u;have i:Qr (cel _ e) (z.map .lit):=rdRow0 (H':=S.hp) u (Qc.lits z);split at h
   ·rename_i a m;split at h
    ·rename_i b g;obtain⟨l,w,h⟩:=bnd_some h;obtain⟨t,B,C,rfl⟩:=rep_some w;have q:=natOf_i64 f m t;have p:=natOf_i64 f g (by omega);have:=Nat.mul_le_mul (show b.toNat≤1000000 by omega) k;refine Ok1.add (v:=.ms st.heap.length a.toNat 0 a.toNat) (o:=.lst (kdOf E d) (List.replicate a.toNat e)) (b:=.blk s (List.replicate a.toNat (z.map .lit))) f ?_ ⟨_,by rw[A],Ql.rep i _⟩ ?_ h
     ·simp only[evOp,q,p];rw[if_pos ⟨by omega,by omega,by omega,e2⟩]
     ·have:=Qh.ms (H:=S.hp++[.lst (kdOf E d) (List.replicate a.toNat e)]) S.hp.length (kdOf E d) (List.replicate a.toNat e) (by simp);rw[List.length_replicate] at this;rw[j];exact this
    ·cases h
   ·cases h
  ·cases h
 ·cases h
theorem new_ok{v:TV}{a:AV}(h:isNew v=true)(q:Qh H v a): a=.lit nilS∨a=.sl true []:=by
 unfold isNew at h;split at h
 ·subst h;cases (q.pu trivial) with
  | emp _ _ h=>
   rcases h with h | h | ⟨h,_⟩
   ·exact .inl h
   ·exact .inr h
   ·cases h
 ·split at h
  ·split at h
   ·split at h
    ·split at h
     ·exact .inl q.inL
     ·cases h
    ·cases h
   ·cases h
  ·cases h
 ·cases h
theorem capS_t[GlobT]{x:AOpd}(a:Qt N S st)(h:exOp E n d (.capS x) S K=some r): Ok1 P cf E.fl N (.capS x) st K r:=by
 simp only[exOp] at h;split at h
 ·rename_i b;refine Ok1.same (v:=.lit (.int .i64 0)) a ?_ (Qh.l _) h;rcases new_ok b (a.get x) with e | e<;>simp only[evOp,e,nilS]<;>rfl
 ·cases h
theorem copy_t[GlobT]{s:Nat}{x y:AOpd}(c:Qt N S st)(h:exOp E n d (.copy s x y) S K=some r): Ok1 P cf E.fl N (.copy s x y) st K r:=by
 have q:=c.get x;simp only[exOp] at h;split at h
 ·rename_i id m B;rw[B] at q;split at h
  ·rename_i o i;split at h
   ·rename_i k l;split at h
    ·rename_i ys A;obtain⟨es,D,f⟩:=rdS_rd A (c.get y) c.hp;split at h
     ·rename_i e;simp only[Bool.and_eq_true] at e;have p:=Nat.eq_of_beq_eq_true e.1;have e2:0<s:=by simpa [Nat.blt_eq] using e.2.1
      have j:=Nat.le_of_ble_eq_true e.2.2;obtain⟨F,a,h⟩:=bnd_some h;unfold cpy at a;split at a
      ·rename_i u;cases a;obtain⟨w,g,t⟩:=c.hp.lst i;rw[p] at g;have C:=q.mw i;refine Ok1.put (v:=.lit (.int .i64 ((es.length:Nat):Int))) (b:=.blk s (splice w (wOf l m).1 es)) c i (splice_len u.2) ?_ ⟨_,by rw[p],t.spl f⟩ (by rw[f.len];exact Qh.l _) h;simp only[evOp,D,C,g,f.all p,e2,and_self,if_true];rw[if_pos ⟨trivial,t.len,by rw[f.len];exact u.1,j⟩];split
       ·rename_i z;have:es=[]:=List.length_eq_zero_iff.1 z;subst this;simp only[splice_nil,setH_self g];rfl
       ·rfl
      ·cases a
     ·cases h
    ·cases h
   ·cases h
  ·cases h
 ·cases h
theorem clear_t[GlobT]{s:Nat}{z:List Value}{x:AOpd}(f:Qt N S st)(h:exOp E n d (.clear s z x) S K=some r): Ok1 P cf E.fl N (.clear s z x) st K r:=by
 have q:=f.get x;have y:Qh S.hp (.tup []) (.tup []):=Qh.mkT (cs:=[]) trivial;simp only[exOp] at h;split at h
 ·rename_i id m G;rw[G] at q;split at h
  ·rename_i o j;split at h
   ·rename_i k l;split at h
    ·rename_i A H;have g:Qr (cel _ A) (z.map .lit):=rdRow0 (H':=S.hp) H (Qc.lits z);split at h
     ·rename_i c;simp only[Bool.and_eq_true] at c;have u:=Nat.eq_of_beq_eq_true c.1;have e2:0<s:=by simpa [Nat.blt_eq] using c.2.1
      have i:=Nat.le_of_ble_eq_true c.2.2.1;have F:=Nat.eq_of_beq_eq_true c.2.2.2;obtain⟨J,a,h⟩:=bnd_some h;unfold clr at a;split at a
      ·rename_i w;cases a;obtain⟨B,p,t⟩:=f.hp.lst j;rw[u] at p;have I:=q.mw j;refine Ok1.put (v:=.tup []) (b:=.blk s (splice B (wOf l m).1 (List.replicate (wOf l m).2 (z.map .lit)))) f j (splice_len (by rw[List.length_replicate];exact w)) ?_ ⟨_,by rw[u],t.spl (Ql.rep g _)⟩ (Qh.mkT (cs:=[]) trivial) h;simp only[evOp,I,p];rw[if_pos ⟨trivial,t.len,w,i,e2,F⟩];split
       ·rename_i D;simp only[D,List.replicate_zero,splice_nil,setH_self p]
       ·rfl
      ·cases a
     ·cases h
    ·cases h
   ·cases h
  ·cases h
 ·split at h
  ·rename_i C;refine Ok1.same (v:=.tup []) f ?_ y h;rcases new_ok C q with e | e<;>simp only[evOp,e,nilS]
  ·cases h
theorem appendZ_t[GlobT]{s bytes:Nat}{z:List Value}{x m:AOpd}(f:Qt N S st)(h:exOp E n d (.appendZ s bytes z x m) S K=some r): Ok1 P cf E.fl N (.appendZ s bytes z x m) st K r:=by
 have q:=f.get x;have G:=f.hp.ln;simp only[exOp] at h;split at h
 ·rename_i B;have c:=new_ok B q;split at h
  ·rename_i e;simp only[Bool.and_eq_true] at e;have w:=Nat.eq_of_beq_eq_true e.1;have e2:0<s:=by simpa [Nat.blt_eq] using e.2.1
   have A:=Nat.eq_of_beq_eq_true e.2.2.1;have t:=Nat.le_of_ble_eq_true e.2.2.2;split at h
   ·rename_i g C;have k:Qr (cel _ g) (z.map .lit):=rdRow0 (H':=S.hp) C (Qc.lits z);split at h
    ·rename_i a J;obtain⟨l,L,h⟩:=bnd_some h;obtain⟨I,M,Q,rfl⟩:=rep_some L;have F:=natOf_i64 f J I;have O:=Nat.mul_le_mul (show a.toNat≤1000000 by omega) t;have p:room a.toNat bytes=true:=room_le (by omega) t;have u:allLen s (List.replicate a.toNat (z.map AV.lit))=true:=(Ql.rep k a.toNat).all w;have ev:evOp P cf E.fl (.appendZ s bytes z x m) st.tmps st.heap=appendA E.fl st.heap s bytes (getOpd st.tmps x) (List.replicate a.toNat (z.map .lit)):=by
      simp only[evOp,F];rw[if_pos ⟨A,by omega,by omega⟩]
     rcases cnd_or h with⟨i,h⟩ | ⟨i,h⟩
     ·have D:a.toNat=0:=by simpa using i
      refine Ok1.same f ?_ q h;rw[ev,D];rcases c with c | c<;>rw[c]<;>simp[appendA,allLen,e2,room,nilS]
     ·have y:a.toNat≠0:=by simpa using i
      refine Ok1.add (v:=.ms st.heap.length a.toNat 0 a.toNat) (o:=.lst (kdOf E d) (List.replicate a.toNat g)) (b:=.blk s (List.replicate a.toNat (z.map .lit))) f ?_ ⟨_,by rw[w],Ql.rep k _⟩ ?_ h
      ·rw[ev];rcases c with c | c<;>rw[c]
       ·simp[appendA,nilS,u,e2,p,y]
       ·have j:allLen s ([]:List (List AV))=true:=rfl;unfold appendA;simp only[u,e2,p,y,j,and_self,if_true,if_false,List.length_nil,Nat.zero_add,List.nil_append,List.length_replicate]
      ·have:=Qh.ms (H:=S.hp++[.lst (kdOf E d) (List.replicate a.toNat g)]) S.hp.length (kdOf E d) (List.replicate a.toNat g) (by simp);rw[List.length_replicate] at this;rw[G];exact this
    ·cases h
   ·cases h
  ·cases h
 ·split at h
  ·rename_i id w hx;rw[hx] at q;split at h
   ·split at h
    ·rename_i o ho;split at h
     ·rename_i k l;split at h
      ·rename_i hk;simp only[Bool.and_eq_true] at hk
       have e1:=Nat.eq_of_beq_eq_true hk.1
       have e2:0<s:=by simpa [Nat.blt_eq] using hk.2.1
       have hfl:=Nat.le_of_ble_eq_true hk.2.2.1
       have e3:=Nat.eq_of_beq_eq_true hk.2.2.2.1
       have hb:=Nat.le_of_ble_eq_true hk.2.2.2.2
       split at h
       ·rename_i z' hz
        have hq':Qr (cel _ z') (z.map .lit):=rdRow0 (H':=S.hp) hz (Qc.lits z)
        split at h
        ·rename_i a ha
         obtain⟨y,hr,h⟩:=bnd_some h
         obtain⟨c1,c2,c3,rfl⟩:=rep_some hr
         obtain⟨l',hl',h⟩:=bnd_some h
         obtain⟨e4,hle⟩:=app_some hl'
         subst e4
         have k1:=natOf_i64 f ha c1
         have O:=Nat.mul_le_mul (show a.toNat≤1000000 by omega) hb
         obtain⟨bs,g1,g2⟩:=f.hp.lst ho
         rw[e1] at g1
         have hq:=q.mw ho
         have hA:allLen s (List.replicate a.toNat (z.map AV.lit))=true:=(Ql.rep hq' a.toNat).all e1
         rw[List.length_replicate] at hle
         have he:=appendA_ms (fl:=E.fl) (bytes:=bytes) (tot:=l.length) (ys:=List.replicate a.toNat (z.map AV.lit)) g1 g2.len hA e2 (room_le (by rw[List.length_replicate];omega) hb) (room_le (by rw[List.length_replicate];omega) hb) hfl
         refine⟨.ms id (l.length+a.toNat) 0 (l.length+a.toNat),st.heap.set id (.blk s (bs++List.replicate a.toNat (z.map .lit))),.ms id none,killS id (putH S id (.lst k (l++List.replicate a.toNat z'))),?_,kill_ok f ho λH=>⟨_,by rw[e1],g2.app (Ql.rep hq' a.toNat)⟩,?_,h⟩
         ·simp only[evOp,k1,hq];rw[if_pos ⟨e3,by omega,by omega⟩];simpa[wOf] using he
         ·have:=Qh.ms (H:=(killS id (putH S id (.lst k (l++List.replicate a.toNat z')))).hp) id k (l++List.replicate a.toNat z') (by simp[killS,putH,List.getElem?_map,(List.getElem?_eq_some_iff.1 ho).1,killO]);rw[List.length_append,List.length_replicate] at this;exact this
        ·cases h
       ·cases h
      ·cases h
     ·cases h
    ·cases h
   ·cases h
  ·cases h
theorem rd_nil{k:Nat}{v:TV}{l:List (den k)}{a:AV}(h:rdX [] k v=some l)(q:Qh H v a): Qh ([]:TH) v a:=by
 cases v with
 | sl k l=>exact .p _ _ (q.pu trivial)
 | emp b=>exact .p _ _ (q.pu trivial)
 | vw k l=>exact .p _ _ (q.pu trivial)
 | lit v=>rw[q.inL];exact Qh.l _
 | ms id m=>simp[rdX,rdS] at h
 | _=>cases h
theorem callF_t[GlobT]{vi:Nat}{s:List AOpd}(H:EOK P T E)(g:Qt N S st)(h:exOp E n d (.callF vi s) S K=some r): Ok1 P (evF P T n) E.fl N (.callF vi s) st K r:=by
 have q:=getL g s;simp only[exOp] at h;split at h
 ·rename_i p M;split at h
  ·rename_i k;obtain⟨a1,bytes,z,V,h0,R⟩:=H.pr vi _ M;unfold clnX at h;split at h
   ·rename_i x O;rw[O] at q;split at h
    ·rename_i l I;obtain⟨a,y⟩:∃a,s.map (getOpd st.tmps)=[a]:=by
      cases u:s.map (getOpd st.tmps) with
      | nil=>rw[u] at q;exact q.elim
      | cons a t=>rw[u] at q;cases t with
       | nil=>exact⟨a,rfl⟩
       | cons _ _=>exact q.2.elim
     rw[y] at q;obtain⟨m,hm,h⟩:=bnd_some h;have e:=prd_eq hm;subst e;obtain⟨W,e2,e3⟩:=cln_ev (P:=P) (n:=m) (G:=st.heap) V h0;have ev:evOp P (evF P T (m+1)) E.fl (.callF vi s) st.tmps st.heap=evF P T (m+1) st.heap.length vi [a] st.heap:=by simp only[evOp,y]
     have D:∃es,(a=.lit nilS∧es=[]∨(∃f,a=.sl f es)∨a=.vw es)∧Ql k l es:=by
      rcases rdS_any (A:=[]) I (rd_nil I q.1) (λ_=>trivial) with⟨es,i,w⟩ | ⟨_,es,i,w⟩ | ⟨_,id,tot,o,n,es,e,i,_⟩
      ·exact⟨es,i.imp (λh=>h) .inl,w⟩
      ·exact⟨es,i,w⟩
      ·subst e;simp[rd] at i
     obtain⟨es,c,j⟩:=D;rcases cnd_or h with⟨F,h⟩ | ⟨F,h⟩
     ·have:l=[]:=by simpa using F
      subst this;have:es=[]:=List.length_eq_zero_iff.1 j.len;subst this;rcases c with⟨c,_⟩ | c
      ·refine Ok1.same (v:=.lit nilS) g ?_ (.p _ _ (.emp _ _ (.inl rfl))) h;rw[ev,c];exact W
      ·refine Ok1.same (v:=.sl false []) g ?_ (.p _ _ (.emp _ _ (.inr (.inr ⟨rfl,rfl⟩)))) h;rw[ev];exact e2 a c
     ·obtain⟨C,B,L⟩:=bnd_some h;clear h;obtain⟨J,X⟩:=app_some B;rw[List.nil_append] at J;subst J;cases es with
      | nil=>
       have:C=[]:=List.length_eq_zero_iff.1 j.len.symm;subst this;cases F
      | cons e es=>
       have y:(∃f,a=.sl f (e::es))∨a=.vw (e::es):=by
        rcases c with⟨_,c⟩ | c
        ·cases c
        ·exact c
       have g3:=e3 a e es y (j.all rfl) (room_le (by rw[j.len];simpa using X) R);refine Ok1.add (v:=.ms st.heap.length (e::es).length 0 (e::es).length) (o:=.lst k C) (b:=.blk (cds k).length (e::es)) g (by rw[ev];exact g3) ⟨_,rfl,j⟩ ?_ L;rw[g.hp.ln,j.len];exact .ms _ k C (by simp)
    ·cases h
   ·cases h
  ·cases h
 ·obtain⟨v,Q,tv,S',i,w,U,Y⟩:=callI_ok (by rw[g.hp.ln];exact Nat.le_refl _) g q H.il h;exact⟨v,Q,tv,S',by simp only[evOp];rw[g.hp.ln];exact i,w,U,Y⟩
theorem loadF_t[GlobT]{m k:Nat}{x:AOpd}(u:Qt N S st)(h:exOp E n d (.loadF m k x) S K=some r): Ok1 P cf E.fl N (.loadF m k x) st K r:=by
 have q:=u.get x;simp only[exOp] at h;split at h
 ·rename_i id off j;rw[j] at q;split at h
  ·split at h
   ·rename_i o z;split at h
    ·rename_i cs;split at h
     ·rename_i e
      have e:=Nat.eq_of_beq_eq_true e
      obtain⟨aw,p,b⟩:=u.hp.box z
      have w:ldCells st.heap (getOpd st.tmps x) m=some aw:=by
       have B:=b.len
       rw[q.ptr1];simp[ldCells,p,e,B];exact List.take_of_length_le (Nat.le_of_eq (B.trans e))
      split at h
      ·rename_i v y
       obtain⟨a,i,g⟩:=b.get y
       split at h
       ·rename_i f c
        split at h
        ·rename_i C
         have C:=Nat.le_of_ble_eq_true C
         split at h
         ·rename_i D
          split at h
          ·rename_i kk l
           obtain⟨es,F,G⟩:=u.hp.lst D
           have s:=gone_ok u (List.getElem?_eq_some_iff.1 D).1 (.blk (cds kk).length (es++[List.replicate (cds kk).length .undef]))
           have T:=g.mw D
           refine⟨.agg (aw.set k (.sl false (((es.drop (wOf l c).1).take (wOf l c).2).map λe=>e.map toP))),_,_,_,?_,s,Qh.mkA (All2.set (b.mapL λ_ _ q=>kill2_ok gone_hm q) k (.p _ _ (Qp.mkS (.inr ⟨_,rfl⟩) (mild_toP.ls (by rw[win_all];exact (G.drop _).take _))))),h⟩
           simp only[evOp,w,i,T,C,if_true,F,G.len]
          ·cases h
         ·cases h
        ·cases h
       ·refine Ok1.same u ?_ (Qh.mkA b) h
        cases g.pu trivial with
        | emp b a c=>rcases c with rfl | rfl | ⟨_,rfl⟩<;>simp only[evOp,w,i]
       ·have e:=g.inL;subst e;refine Ok1.same u ?_ (Qh.mkA b) h;simp only[evOp,w,i]
       ·cases h
      ·cases h
     ·cases h
    ·cases h
   ·cases h
  ·cases h
 ·cases h
end
end
end Go.Proofs.YthadajkojciapaaGreatDoor.Av
