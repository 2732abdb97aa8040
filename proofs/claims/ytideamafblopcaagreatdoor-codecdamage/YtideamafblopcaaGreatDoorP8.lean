/- A part of the proof of a law. -/
import Derived.Test.YtideamafblopcaaGreatDoorP7
import Derived.Test.YtideamafblopcaaGreatDoorP1
import Derived.Lib.IndexMore
import Derived.Test.YtideamafblopcaaGreatDoorP5
import Derived.Recover
import Derived.Shelf.SlSortCmp.NoneTotal
import Derived.Test.YtideamafblopcaaGreatDoorRows
import Derived.Test.YtideamafblopcaaGreatDoorTie
import Derived.Test.YtideamafblopcaaGreatDoorCards
import Derived.ChangeSame
import Derived.ChangeVars
import Derived.JoinedOf
import Derived.LaidLaws
import Derived.Lay
import Derived.MakeChecks
import Derived.Stop.Joined
import Derived.SevenTiedAt
set_option maxRecDepth 100000
set_option maxHeartbeats 4000000
set_option linter.all false
namespace Go.Proofs.YtideamafblopcaaGreatDoor.Av
open Go
section
open iG (den cds ag)
section
variable [cX]{R:Type}{H H1:TH}{A:aM}{N:Nat}{S:TS}{st:St}{P:Program}{T:List bK}{cf:CF}{op:xP}{K:TV->TS->Option R}{r:R}{E:XE}{n:Nat}{d:Option Nat}
theorem LT{o:BinOp}{b:Bool}{K:TV->Option R}(h:Q7 o b K=some r): (o=.eql/\K (.lit<|.bool b)=some r)\/(o=.neq/\K (.lit<|.bool<|!b)=some r):=by
 unfold Q7 at h;split at h
 .cases b<;>exact .inl ⟨rfl,h⟩
 .cases b<;>exact .inr ⟨rfl,h⟩
 .cases h
theorem aBR[aB]{fl:Nat}{H:aM}{t:TypeId}{a:Int}: aI P cf fl (.bin .shr t (.tmp 0)<|.tmp 1) [.lit<|.int .u64 a,.lit<|.int .u64 1] H=some (.lit<|.int .u64<|a.fdiv 2,H):=by
 have b:aK P (eqGuard .shr t (.tmp 0) (.tmp 0) (.int .u64 a)<|.int .u64 1)=some ():=rfl;have c:aK P (binOp .shr t (.int .u64 a)<|.int .u64 1)=some (.int .u64<|a.fdiv 2):=by
  simp[binOp,Op.shift];rfl
 simp only[aI,aC,List.getElem?_cons_zero,List.getElem?_cons_succ,lits,pP,if_true,b,c]
theorem BU{k:Nat}: ∀{cs:List TV}{es:List AV}{l:List (den k)},Qc S.hp cs es->uB [] k (cs.map λc=>[c])=some l->Ql k l (es.map λc=>[vJ c])
 | [],[],l,_,h=>by simp only[List.map_nil,uB,Option.some.injEq] at h;subst h;trivial
 | c::cs,a::es,l,q,h=>by
  simp only[List.map_cons,uB] at h;split at h
  .rename_i x e;split at h
   .rename_i y g;cases h;exact⟨nZ.r (iL e (aw:=[a]) ⟨q.1,trivial⟩),BU q.2 g⟩
   .cases h
  .cases h
 | [],_::_,_,q,_=>by cases q
 | _::_,[],_,q,_=>by cases q
theorem aAi[aB]{s m:Nat}{x i:aQ}(u:Qt N S st)(h:bY E n d (.idxArr s m x i) S K=some r): cL P cf E.fl N (.idxArr s m x i) st K r:=by
 have q:=u.get x;simp only[bY] at h;split at h
 .rename_i cs j;rw[j] at q;split at h
  .rename_i e;simp only[Bool.and_eq_true] at e;let⟨e1,e2,e3⟩:=e
   have e1:=Nat.eq_of_beq_eq_true e1;have e2:=Nat.eq_of_beq_eq_true e2;subst e1;split at h
   .rename_i b I;split at h
    .rename_i l G;let⟨y,C,h⟩:=aV h;let⟨R,L,W⟩:=kE C;let⟨aw,w,p⟩:=(q.pu trivial).inR
     have o:aw.length=m:=by rw[p.len,e2]
     have z:fA (aC st.tmps i)=some b.toNat:=oB I (u.get i) R
     have gq:Ql (gU E d) l (aw.map λc=>[c]):=Zr G (H':=S.hp) (bO.map (R:=Qh S.hp) (λa b t=>⟨t,trivial⟩) p.c)
     let⟨row,Q,O⟩:=gq.get L
     simp only[List.getElem?_map,Option.map_eq_some_iff] at Q;obtain⟨v,Q,rfl⟩:=Q
     have a:b.toNat<m:=by rw[<-o];exact (List.getElem?_eq_some_iff.1 Q).1
     have hd:(aw.drop (b.toNat*1)).take 1=[v]:=by
      rw[Nat.mul_one,List.drop_eq_getElem_cons (by rw[o];exact a)];simp only[List.take_succ_cons,List.take_zero];rw[(List.getElem?_eq_some_iff.1 Q).2]
     refine cL.same (v:=.rptr [v]) u ?_ (.p _ _<|Qp.mkR O) h;simp only[aI,z,a,if_true,w,hd]
    .cases h
   .cases h
  .cases h
 .cases h
theorem QC{k:Nat}{l:List (den k)}{es:List (List AV)}(q:Ql k l es)(e:(cds k).length=1): ∀{m i:Nat}{K:List TV->Option R}{r:R},P4 k l m i K=some r->∃cs,K cs=some r/\(0<m->i+m<=l.length)/\Qr cs ((es.drop i).take m).flatten
 | 0,i,K,r,h=>⟨[],h,λh=>absurd h (Nat.lt_irrefl 0),by simp only[List.take_zero,List.flatten_nil];trivial⟩
 | m+1,i,K,r,h=>by
  let⟨x,C,h⟩:=aV (show bnd (idx l ((i:Nat):Int)) _=some r from h);let⟨R,L,W⟩:=kE C;let⟨cs,g,a,b⟩:=QC q e h
  have L:l[i]?=some x:=by simpa using L
  let⟨row,Q,O⟩:=q.get L;have z:=(List.getElem?_eq_some_iff.1 L).1;have y:=(List.getElem?_eq_some_iff.1 Q).1
  refine⟨_,g,λ_=>?_,?_⟩
  .cases m with
   | zero=>omega
   | succ m=>have:=a (by omega);omega
  .rw[List.drop_eq_getElem_cons y,List.take_succ_cons,List.flatten_cons,(List.getElem?_eq_some_iff.1 Q).2];exact O.app b
theorem M0{k:Nat}{l:List (den k)}{es:List (List AV)}(q:Ql k l es)(e:(cds k).length=1): cY 1 es=true:=q.all e
theorem aB6[aB]{x:aQ}(a:Qt N S st)(h:bY E n d (.tail2 x) S K=some r): cL P cf E.fl N (.tail2 x) st K r:=by
 have q:=a.get x;simp only[bY] at h;split at h
 case h_2=>cases h
 rename_i vs g;rw[g] at q;let⟨aw,e,j⟩:=q.inT
 split at h
 case h_2=>cases h
 split at h
 case h_2=>cases h
 rename_i v0 v1 rr
 match aw,j with
 | _::_::aw,⟨_,_,j⟩=>
 match rr,aw,j,h with
 | [],[],_,h=>exact cL.same (v:=.tup []) a (by simp only[aI,e];rfl) (Qh.mkT (cs:=[]) trivial) h
 | y::rr,b::aw,⟨j,_⟩,h=>exact cL.same a (by simp only[aI,e];rfl) j h
theorem aAS[aB]{s m:Nat}{x:aQ}(u:Qt N S st)(h:bY E n d (.arrPtr s m x) S K=some r): cL P cf E.fl N (.arrPtr s m x) st K r:=by
 have q:=u.get x;simp only[bY] at h;split at h
 .rename_i k l j;rw[j] at q;split at h
  .rename_i e;simp only[Bool.and_eq_true] at e;have e1:=Nat.eq_of_beq_eq_true e.1;have e2:0<m:=by simpa [Nat.blt_eq] using e.2
   let⟨es,Q,D⟩:=(q.pu trivial).inV;let⟨cs,h,a,b⟩:=QC D e1 h;have a:=a e2;rw[List.drop_zero] at b
   have al:=M0 D e1;have L:=D.len
   rcases Q with⟨t,z⟩ | ⟨f,t⟩ | t
   .subst z;simp at L;omega
   .refine cL.same (v:=.rptr (es.take m).flatten) u ?_ (.p _ _<|Qp.mkR b) h;simp only[aI,t];rw[if_pos ⟨by omega,e2,al⟩]
   .refine cL.same (v:=.rptr (es.take m).flatten) u ?_ (.p _ _<|Qp.mkR b) h;simp only[aI,t];rw[if_pos ⟨by omega,e2,al⟩]
  .cases h
 .cases h
theorem aBO[aB]{s m:Nat}{x:aQ}(u:Qt N S st)(h:bY E n d (.slArr s m x) S K=some r): cL P cf E.fl N (.slArr s m x) st K r:=by
 have q:=u.get x;simp only[bY] at h;split at h
 case h_2=>cases h
 rename_i id off j;rw[j] at q;split at h
 case h_2=>cases h
 split at h
 .cases h
 rename_i b;have b:=Nat.le_of_ble_eq_true b;split at h
 case h_2=>cases h
 rename_i o z;split at h
 case h_2=>cases h
 rename_i cs;split at h
 case h_2=>cases h
 rename_i e;simp only[Bool.and_eq_true] at e;let⟨e1,e2,_⟩:=e
 have e1:=Nat.eq_of_beq_eq_true e1
 have e2:0<m:=by simpa [Nat.blt_eq] using e2
 split at h
 case h_2=>cases h
 rename_i l G
 let⟨aw,w,p⟩:=u.hp.box z
 have hl:aw.length=m:=p.len.trans e1
 have sg:=Hw u (List.getElem?_eq_some_iff.1 z).1<|.blk cs.length<|[aw]++[List.replicate cs.length .undef]
 refine⟨.sl true (aw.map λc=>[vJ c]),_,.sl (gU E d) l,_,?_,sg,.p _ _<|Qp.mkS (.inr ⟨_,rfl⟩)<|BU p G,h⟩
 simp only[aI,q.ptr1,b,if_true,w,List.length_singleton,List.getElem?_cons_zero,hl,e2,and_self]
theorem aAM[aB]{fl:Nat}{H:aM}{t:TypeId}{o:BinOp}{v u w:Value}(b:aK P (eqGuard o t (.tmp 0) (.tmp 0) v u)=some ())(c:aK P (binOp o t v u)=some w)(a:pP v=true): aI P cf fl (.bin o t (.tmp 0)<|.tmp 1) [.lit v,.lit u] H=some (.lit w,H):=by
 simp only[aI,aC,List.getElem?_cons_zero,List.getElem?_cons_succ,lits,a,if_true,b,c]
theorem LX[aB](P:Program)(cf:CF)(fl:Nat)(H:aM)(t:TypeId){o:BinOp}{k:IntKind}{a b:Int}{K:TV->Option R}(h:shT o k a b K=some r): ∃z,(∀k':IntKind,aI P cf fl (.bin o t (.tmp 0)<|.tmp 1) [.lit<|.int k a,.lit<|.int k' b] H=some (.lit<|.int k z,H))/\K (.lit<|.int k z)=some r:=by
 unfold shT at h;split at h
 .let⟨z,i,h⟩:=aV h;have hb:0<=b:=of_decide_eq_true (iU i)
  refine⟨_,λk'=>aAM rfl ?_ rfl,h⟩;simp[binOp,Op.shift,Int.not_lt.2 hb];rfl
 .let⟨z,i,h⟩:=aV h;have hb:0<=b:=of_decide_eq_true (iU i)
  refine⟨_,λk'=>aAM rfl ?_ rfl,h⟩;simp[binOp,Op.shift,Int.not_lt.2 hb];rfl
 .cases h
theorem ZJ[aB]{fl:Nat}{H:aM}{t:TypeId}{o:BinOp}{k:IntKind}{a b:Int}(h:o=.and\/o=.or\/o=.xor): aI P cf fl (.bin o t (.tmp 0)<|.tmp 1) [.lit<|.int k a,.lit<|.int k b] H=some (.lit<|.int k (eG o k a b),H):=by
 rcases h with rfl | rfl | rfl<;>exact aAM rfl (by simp[binOp,Op.intBits];rfl) rfl
theorem aIv[aB]{o:BinOp}{t:TypeId}{x y:aQ}(D:GL P T E)(p:Qt N S st)(h:bY E n d (.bin o t x y) S K=some r): cL P cf E.fl N (.bin o t x y) st K r:=by
 have q:=p.get x;have j:=p.get y;have L:aI P cf E.fl (.bin o t x y) st.tmps st.heap=aI P cf E.fl (.bin o t (.tmp 0)<|.tmp 1) [aC st.tmps x,aC st.tmps y] st.heap:=rfl;have c:∀{v:Value},aI P cf E.fl (.bin o t (.tmp 0)<|.tmp 1) [aC st.tmps x,aC st.tmps y] st.heap=some (.lit v,st.heap)->K (.lit v) S=some r->cL P cf E.fl N (.bin o t x y) st K r:=
  λhe G=>cL.same p (L.trans he) (Qh.l _) G
 have h:aGy E o t (bR S.tm x) (bR S.tm y) (λv=>K v S)=some r:=h;unfold aGy at h;split at h
 .rename_i u F;rw[F] at q;have g:=q.inL;split at h
  .rename_i w Q;rw[Q] at j;have e2:=j.inL;split at h
   .rename_i a;split at h
    .rename_i b;rcases LT h with⟨rfl,f⟩ | ⟨rfl,f⟩
     .exact c (by rw[g,e2];exact K9 rfl) f
     .exact c (by rw[g,e2];exact K8 rfl) f
    .cases h
   .split at h
    .rename_i e he;split at h
     .cases h
     .rename_i C;split at h
      .rename_i a B;split at h
       .rename_i b m;let⟨s,A⟩:=D.eq t e he cf E.fl st.heap a b [_] [_] (iL (H':=S.hp) B ⟨p.get x,trivial⟩)<|iL (H':=S.hp) m ⟨p.get y,trivial⟩;rw[C] at s A;rcases LT h with⟨rfl,f⟩ | ⟨rfl,f⟩
        .exact c s f
        .exact c A f
       .cases h
      .cases h
    .cases h
   .rename_i k a;split at h
    .rename_i k' b;split at h
     .rename_i I _;subst I;split at h
      .let⟨z,i,h⟩:=aV h;unfold aCb at i;split at i
       .cases i
       .rename_i m;cases i;exact c (by rw[g,e2];exact aFf m) h
      .let⟨z,i,h⟩:=aV h;exact c (by rw[g,e2];exact aBW i) h
      .split at h
       .split at h
        .rename_i J _;subst J;exact c (by rw[g,e2];exact aBR) h
        .let⟨z,i,h⟩:=LX P cf E.fl st.heap t h;exact c (by rw[g,e2];exact i _) h
       .let⟨z,i,h⟩:=LX P cf E.fl st.heap t h;exact c (by rw[g,e2];exact i _) h
      .let⟨z,i,h⟩:=LX P cf E.fl st.heap t h;exact c (by rw[g,e2];exact i _) h
      .exact c (by rw[g,e2];exact ZJ (.inl rfl)) h
      .exact c (by rw[g,e2];exact ZJ (.inr (.inl rfl))) h
      .exact c (by rw[g,e2];exact ZJ (.inr (.inr rfl))) h
      .cases h
     .let⟨z,i,h⟩:=LX P cf E.fl st.heap t h;exact c (by rw[g,e2];exact i _) h
    .cases h
   .cases h
  .cases h
 .rename_i cs M;rw[M] at q;let⟨aw,g,q⟩:=q.inA;split at h
  .rename_i e he;split at h
   .rename_i C;split at h
    .rename_i a B;split at h
     .rename_i ds O;rw[O] at j;let⟨H,e2,j⟩:=j.inA;split at h
      .rename_i b m;let⟨s,A⟩:=D.eq t e he cf E.fl st.heap a b aw H (iL B q)<|iL m j;rw[C] at s A;rcases LT h with⟨rfl,f⟩ | ⟨rfl,f⟩
       .exact c (by rw[g,e2];exact s) f
       .exact c (by rw[g,e2];exact A) f
      .cases h
     .cases h
    .cases h
   .cases h
  .cases h
 .cases h
theorem aF3[aB]{x:aQ}(b:Qt N S st)(h:bY E n d (.movN x) S K=some r): cL P cf E.fl N (.movN x) st K r:=by
 have q:=b.get x;refine cL.same b rfl ?_ h;generalize bR S.tm x=v at q;generalize aC st.tmps x=a at q;have c:∀{v:TV} {a:AV},Qh S.hp v a->Qh S.hp (o6 v) (nrm a):=by
  intro v a q;cases v with
  | agg cs=>obtain⟨aw,rfl,_⟩:=q.inA;exact q
  | _=>exact MT q λcs e=>by cases e
 cases v with
 | agg cs=>
  obtain⟨aw,rfl,f⟩:=q.inA;exact Qh.mkA<|f.map λ_ _ q=>c q
 | undef=>exact Qh.u _
 | _=>
  have:=c q;cases a with
  | agg=>
   cases q with
   | p _ _ q=>cases q<;>simp_all
  | _=>exact this
theorem aJN[aB](f:GL P T E)(e:Qt N S st)(h:bY E n d op S K=some r): cL P (dK P T n) E.fl N op st K r:=by
 cases op with
 | mov x=>exact aHC e h
 | movN x=>exact aF3 e h
 | pick c a b=>exact aFn e h
 | alloc z=>exact aDF e h
 | ptrK n=>exact cL.same e rfl (Qh.ptr _ _) h
 | claim s=>exact aDv e h
 | box x=>exact aIu e h
 | build z ps=>exact aD7 e h
 | buildSl pu s m z ps=>exact L3 e h
 | load agg m x=>exact aF8 e h
 | store m x v=>exact aBC e h
 | nilCheck x=>exact XP e h
 | ibin o x y=>exact aFM e h
 | bin o t x y=>exact aIv f e h
 | un o x=>exact aJ6 e h
 | slArr s m x=>exact aBO e h
 | fieldAddr o x=>exact UA e h
 | field a m o x=>exact aCX e h
 | idxAddr s x i=>exact I7 e h
 | idxArr s m x i=>exact aAi e h
 | arrPtr s m x=>exact aAS e h
 | tail2 x=>exact aB6 e h
 | lenS x=>exact aFB e h
 | append s b x y=>exact aAU e h
 | extract x i=>exact J4 e h
 | call pu vi u=>exact aGu f e h
 | callB vi u=>exact aD4 f.cs e h
 | minmax mx u=>exact Y4 e h
 | callv pu x u=>exact aD1 f e h
 | callT s vi u=>exact aD2 f e h
 | mkFn vi u=>exact aF5 e h
 | lenC n=>exact cL.same e rfl (Qh.l _) h
 | allocC z cl=>exact aAW e h
 | boxC x cl=>exact aGx e h
 | buildC z ps cl=>exact aAN e h
 | index a s m x i=>exact aCW e h
 | mkMap=>exact aC9 e h
 | lookup kt z m k ok=>exact SP f e h
 | mapUpd kt m k v=>exact Z0 f e h
 | lenM x=>exact aFC e h
 | lenStr t x=>exact Z2 f e h
 | strIdx t x i=>exact P9 f e h
 | strSlice t x lo hi=>exact WA e h
 | rangeStr x=>exact WY e h
 | nextStr x=>exact H4 e h
 | conv a b x=>exact aGk f e h
 | slice s x lo hi mx=>exact aBM e h
 | mkSlice s z b x y=>exact H6 e h
 | callF vi u=>exact aD3 f e h
 | copy s x y=>exact aGj e h
 | clear s z x=>exact aDu e h
 | capS x=>exact aGt e h
 | appendZ s b z x m=>exact L7 e h
 | loadF m k x=>exact aCF e h
 | _=>cases h
theorem i4{v:TV}{a:AV}{K:TS->Option R}(h:aCc N d v S K=some r)(b:Qt N S st)(q:Qh S.hp v a): ∃c,Qt N c ⟨eL st.tmps d a,st.heap⟩/\K c=some r:=by
 unfold aCc at h;split at h
 .split at h
  .rename_i e;exact⟨_,b.put (by simpa [Nat.blt_eq] using e) q,h⟩
  .cases h
 .exact⟨S,b,h⟩
theorem Hp{t:Nat}{b:Bool}(c:Qt N S st)(h:eD t S.tm=some (.lit<|.bool b)): Qt N (QQ t b S) st:=by
 refine⟨c.ln,λu w a=>?_,c.hp⟩;simp only[QQ,eD] at a;split at a
 .rename_i e;have e:=Nat.eq_of_beq_eq_true e;subst e;cases a;exact c.tm _ _ h
 .exact c.tm u w a
theorem aCZ[aB]{o:aL}{K:TS->Option R}(f:E.nt=N)(l:GL P T E)(g:Qt N S st)(h:aAv E n o S K=some r):
 ∃v a b,aI P (dK P T n) E.fl o.op st.tmps st.heap=some (v,a)/\Qt N b ⟨eL st.tmps o.dst v,a⟩/\K b=some r:=by
 let⟨v,a,tv,b,k,e,i,c⟩:=aJN l g h;rw[f] at c;let⟨j,m,d⟩:=i4 c e i;exact⟨v,a,j,k,m,d⟩
theorem V3[aB]{o:aL}{K:TS->Option R}(t:E.nt=N)(y:GL P T E)(f:Qt N S st)(h:NZ E n o S K=some r): ∃st' c,bD P (dK P T n) E.fl o st=some st'/\Qt N c st'/\K c=some r:=by
 have s:∀{j:TS},cO st.tmps o.guard=some true->Qt N j st->aAv E n o j K=some r->∃st' c,bD P (dK P T n) E.fl o st=some st'/\Qt N c st'/\K c=some r:=by
  intro j i f h;let⟨v,C,c,m,q,B⟩:=aCZ t y f h;exact⟨_,c,by simp only[bD,i,m],q,B⟩
 have off:∀{j:TS},cO st.tmps o.guard=some false->Qt N j st->UB E o j K=some r->∃st' c,bD P (dK P T n) E.fl o st=some st'/\Qt N c st'/\K c=some r:=by
  intro j i f h;unfold UB at h;rw[t] at h;let⟨c,m,q⟩:=i4 h f<|Qh.l _;exact⟨_,c,by simp only[bD,i],m,q⟩
 unfold NZ at h;split at h
 .rename_i p;exact s (by rw[p];rfl) f h
 .rename_i g p;split at h
  .rename_i v k;split at h
   .rename_i u;let⟨a,x,A⟩:=f.tm _ _ k;have z:=A.inL;subst z;have i:∀w,(match (AV.lit u:AV) with | .lit (.bool b)=>some (b==g.2) | .lit _=>some false | _=>none)=w->cO st.tmps o.guard=w:=by
     intro w e;rw[p];simp only[cO,aC,x];exact e
    split at h
    .rename_i b;split at h
     .rename_i d;cases b with
      | true=>exact s (i _<|by simp[d]) (Hp f k) h
      | false=>exact off (i _<|by simp[d]) (Hp f k) h
     .rename_i d;cases b with
      | true=>exact off (i _<|by simp[d]) (Hp f k) h
      | false=>exact s (i _<|by simp[d]) (Hp f k) h
    .exact off (i _ rfl) f h
    .cases h
   .cases h
  .cases h
theorem aEc[aB](e:E.nt=N)(d:GL P T E): ∀{l:List aL} {S:TS} {st:St} {K:TS->Option R},Qt N S st->aAu E n l S K=some r->∃st' c,bE P (dK P T n) E.fl l st=some st'/\Qt N c st'/\K c=some r
 | [],S,st,K,b,h=>⟨st,S,rfl,b,h⟩
 | o::l,S,st,K,b,h=>by
  let⟨q,s,i,m,p⟩:=V3 e d b h;let⟨a,g,j,k,f⟩:=aEc e d m p;exact⟨a,g,by simp only[bE,i,j],k,f⟩
theorem aFv{H:TH}{v:TV}{a:AV}{o:Option Nat}(q:Qh H v a)(h:G7 v=some o): Ws a=o:=by
 cases v with
 | undef=>cases h
 | tup=>cases h
 | agg=>cases h
 | fn=>cases h
 | ptr=>cases h;rw[q.ptr1];rfl
 | pel=>cases h;let⟨_,_,_,_,_,e⟩:=q.pel1;rw[e];rfl
 | ms id m=>
  cases h;cases q with
  | p _ _ q=>cases q
  | ms=>rfl
  | msn=>rfl
 | mp=>cases h;rw[q.mp1];rfl
 | rs=>cases h;rw[q.rs1];rfl
 | rel=>cases h;rw[q.rel1];rfl
 | lit=>cases h;rw[q.inL];rfl
 | emp=>cases h;cases (q.pu trivial) with
  | emp _ _ h=>rcases h with rfl | rfl | ⟨_,rfl⟩<;>rfl
 | sl=>cases h;let⟨es,b,_⟩:=(q.pu trivial).inS;rcases b with⟨rfl,_⟩ | ⟨f,rfl⟩<;>rfl
 | vw=>cases h;let⟨es,b,_⟩:=(q.pu trivial).inV;rcases b with⟨rfl,_⟩ | ⟨f,rfl⟩ | rfl<;>rfl
 | slF=>cases h;let⟨es,b,_⟩:=(q.pu trivial).inE;rcases b with⟨rfl,_⟩ | rfl<;>rfl
 | rptr=>cases h;obtain⟨_,rfl,_⟩:=(q.pu trivial).inR;rfl
 | sptr=>cases h;obtain⟨_,rfl,_⟩:=(q.pu trivial).inP;rfl
 | rmp=>cases h;let⟨_,b,_⟩:=(q.pu trivial).inM;rcases b with⟨rfl,_⟩ | rfl<;>rfl
 | it=>cases h;cases q with
  | p _ _ q=>cases q
  | it=>rfl
theorem j9{H:TH}{v:TV}{a:AV}(q:Qh H v a)(h:aFm v=true): Bj a=true:=by
 cases v with
 | lit=>rw[q.inL];rfl
 | emp=>cases (q.pu trivial) with
  | emp _ _ h=>rcases h with rfl | rfl | ⟨_,rfl⟩<;>rfl
 | sl=>let⟨es,c,_⟩:=(q.pu trivial).inS;rcases c with⟨rfl,_⟩ | ⟨f,rfl⟩<;>rfl
 | rptr=>obtain⟨_,rfl,_⟩:=(q.pu trivial).inR;rfl
 | sptr=>obtain⟨_,rfl,_⟩:=(q.pu trivial).inP;rfl
 | rmp=>let⟨_,c,_⟩:=(q.pu trivial).inM;rcases c with⟨rfl,_⟩ | rfl<;>rfl
 | _=>cases h
theorem j7{H:TH}: ∀{vs:List TV} {aw:List AV},Qc H vs aw->aCh vs=true->Ey aw=true
 | [],[],_,_=>rfl
 | v::vs,a::aw,q,h=>by
  simp only[aCh] at h;split at h
  .rename_i e;simp only[Ey,j9 q.1 e,j7 q.2 h]
  .cases h
 | [],_::_,q,_=>q.elim
 | _::_,[],q,_=>q.elim
theorem aCj{H:TH}{v:TV}{a:AV}(q:Qh H v a)(h:aH1 v=true): pO a=true:=by
 cases v with
 | agg cs=>obtain⟨aw,rfl,q'⟩:=q.inA;exact j7 q' h
 | _=>
  have b:=j9 q h;cases a<;>first | exact b | cases b
theorem j8{H:TH}: ∀{vs:List TV} {aw:List AV},Qc H vs aw->aCi vs=true->fO aw=true
 | [],[],_,_=>rfl
 | v::vs,a::aw,q,h=>by
  simp only[aCi] at h;split at h
  .rename_i e;simp only[fO,aCj q.1 e,j8 q.2 h]
  .cases h
 | [],_::_,q,_=>q.elim
 | _::_,[],q,_=>q.elim
theorem ZZ[aB]{g:xP}{o:Option Nat}(d:Qt N S st)(h:IP g S.tm=some o): bU g st.tmps=some o:=by
 cases g with
 | call pu vi a=>
  cases pu with
  | false=>cases h
  | true=>
   simp only[IP] at h;split at h
   .rename_i e;cases h;simp only[bU,j8 (DX d a) e]
   .cases h
 | callB vi a=>
  simp only[IP] at h;split at h
  .rename_i x;have q:=d.get x;split at h
   .rename_i c;cases h;rw[c] at q;let⟨_,i,_⟩:=(q.pu trivial).inS;simp only[bU];rcases i with⟨e,_⟩ | ⟨f,e⟩<;>rw[e]
   .rename_i c;cases h;rw[c] at q;let⟨_,i,_⟩:=(q.pu trivial).inV;simp only[bU];rcases i with⟨e,_⟩ | ⟨f,e⟩ | e<;>rw[e]
   .cases h
  .cases h
 | _=>first | cases h | (simp only[IP] at h;simp only[bU,aFv (d.get _) h])
theorem SZ[aB]{i:xP}{n id:Nat}(j:Qt N S st)(h:Uc i S.tm n id=true): fQ i st.tmps n id=true:=by
 cases i with
 | store m x v=>
  have q:=j.get x;simp only[Uc] at h;split at h
  .rename_i c;rw[c] at q;simp only[fQ,q.ptr1];exact h
  .rename_i c;rw[c] at q;let⟨_,_,_,_,_,e⟩:=q.pel1;simp only[fQ,e];exact h
  .cases h
 | append s b x y=>
  have q:=j.get x;simp only[Uc] at h;generalize bR S.tm x=v at q h;generalize d:aC st.tmps x=a at q;split at h
  .cases q with
   | p _ _ q=>cases q
   | ms=>simp only[fQ,d];exact h
   | msn=>simp only[fQ,d];exact h
  .cases (q.pu trivial) with
   | emp _ _ r=>rcases r with rfl | rfl | ⟨_,rfl⟩<;>(simp only[fQ,d];exact h)
  .rw[q.inL] at d;simp only[fQ,d];exact h
  .cases h
 | mapUpd kt m k v=>
  have q:=j.get m;simp only[Uc] at h;split at h
  .rename_i c;rw[c] at q;simp only[fQ,q.mp1];exact h
  .cases h
 | _=>first | cases h | exact h
theorem LL[aB]{g:Option<|Nat×Bool}{b:Bool}(f:Qt N S st)(h:PV S.tm g=some b): cO st.tmps g=some b:=by
 unfold PV at h;split at h
 .cases h;rfl
 .rename_i g;split at h
  .rename_i v d;let⟨a,c,q⟩:=f.tm _ _ d;split at h
   .have e:=q.inL;subst e;split at h
    .cases h;simp only[cO,aC,c]
    .cases h;simp only[cO,aC,c]
    .cases h
   .cases h
  .cases h
theorem aAL[aB]{ops:List aL}{l:List TS}{m:List St}{k j:Nat}(p:bO (Qt N) l m)(h:ck1 ops l k j=true): De ops m k j=true:=by
 unfold ck1 at h;split at h
 .rename_i ok g;split at h
  .rename_i u b;let⟨s,c,n⟩:=p.get b;simp only[De,g,c];split at h
   .rename_i i;rw[LL n i]
   .split
    .rfl
    .split at h
     .cases h
     .rename_i o q;rw[ZZ n q];split at h
      .rfl
      .rename_i id;split at h
       .rename_i t e;split at h
        .rename_i v d;let⟨r,a,f⟩:=p.get d;simp only[e,a];split at h
         .rename_i i;rw[LL f i]
         .split
          .rfl
          .rw[<-f.hp.ln] at h;rw[SZ f h]
        .cases h
       .cases h
  .cases h
 .cases h
theorem ZC[aB]{ops:List aL}{l:List TS}{m:List St}(a:bO (Qt N) l m): ∀{b:List<|Nat×Nat},ckL ops l b=true->oV ops m b=true
 | [],_=>rfl
 | p::r,h=>by
  simp only[ckL] at h;split at h
  .rename_i e;simp only[oV,aAL a e];exact ZC a h
  .cases h
theorem aDd{H H':TH}{u v:TV}{a b:AV}(x:Qh H u a)(y:Qh H' v b)(h:aFY H H' u v=some true): HX 6 a b=true:=by
 unfold aFY at h;split at h
 .split at h
  case h_2=>cases h
  rw[x.inL,y.inL];split at h
  .split at h
   case h_2=>cases h
   split at h
   case h_2=>cases h
   rename_i e _;subst e;simp only[Option.some.injEq] at h
   simp only[HX,B8,decide_true,h]
  .split at h
   case h_2=>cases h
   simp only[Option.some.injEq,decide_eq_true_eq] at h;subst h
   simp only[HX,B8,decide_true]
  .split at h
   case h_2=>cases h
   simp only[Option.some.injEq,decide_eq_true_eq] at h;subst h
   simp only[HX,B8,beq_self_eq_true]
  .cases h
 .split at h
  case h_2=>cases h
  split at h
  case h_2=>cases h
  split at h
  case h_2=>cases h
  split at h
  case h_2=>cases h
  rename_i e;have e:=Nat.eq_of_beq_eq_true e;subst e;split at h
  case h_2=>cases h
  rename_i o g;split at h
  case h_2=>cases h
  split at h
  case h_2=>cases h
  rename_i p f;split at h
  case h_2=>cases h
  simp only[Option.some.injEq,decide_eq_true_eq] at h
  cases x with
  | p _ _ q=>cases q
  | ms _ k l g2=>
   cases y with
   | p _ _ q=>cases q
   | ms _ k' t f2=>
    rw[g] at g2;cases g2;rw[f] at f2;cases f2;simp only[HX,h,Nat.beq_refl,Bool.and_self]
 .cases h
theorem w6{H H':TH}: ∀{cs ds:List TV}{aw bw:List AV},Qc H cs aw->Qc H' ds bw->aAy H H' cs ds=some true->cs.length=ds.length/\eqL (HX 6) aw bw=true
 | [],ds,aw,bw,x,y,h=>by
  simp only[aAy] at h;split at h
  .cases aw with
   | nil=>cases bw with
    | nil=>exact⟨rfl,rfl⟩
    | cons=>exact y.elim
   | cons=>exact x.elim
  .cases h
 | a::r,ds,aw,bw,x,y,h=>by
  simp only[aAy] at h;split at h
  .cases h
  rename_i b s;split at h
  .cases h
  rename_i z e;split at h
  .cases h
  rename_i w f;simp only[Option.some.injEq,Bool.and_eq_true] at h;let⟨h1,h2⟩:=h;subst h1;subst h2
  cases aw with
  | nil=>exact x.elim
  | cons a' aw=>cases bw with
   | nil=>exact y.elim
   | cons b' bw=>
    let⟨i,j⟩:=w6 x.2 y.2 f
    exact⟨by simp only[List.length_cons,i],by simp only[eqL,aDd x.1 y.1 e,j]⟩
theorem Q3[aB]{ops:List aL}{l:List TS}{m:List St}{k j:Nat}(p:bO (Qt N) l m)(h:WE ops l k j=some true): De ops m k j=true:=by
 unfold WE at h;split at h
 case h_2=>cases h
 rename_i ok g;split at h
 case h_2=>cases h
 rename_i u b;let⟨s,c,n⟩:=p.get b;simp only[De,g,c];split
 .rfl
 split at h
 case h_2=>cases h
 rename_i id q;rw[ZZ n q];split at h
 case h_2=>cases h
 rename_i om e;split at h
 case h_2=>cases h
 rename_i cl;split at h
 case h_2=>cases h
 rename_i v d;split at h
 case h_2=>cases h
 rename_i w d2;let⟨r,a,f⟩:=p.get d;let⟨r2,a2,f2⟩:=p.get d2;simp only[e,a];split
 .rfl
 split
 .rfl
 split at h
 case h_2=>cases h
 rename_i o z;split at h
 case h_2=>cases h
 split at h
 case h_2=>cases h
 rename_i o2 z2;split at h
 case h_2=>cases h
 let⟨aw,i,t⟩:=f.hp.box z;let⟨bw,i2,t2⟩:=f2.hp.box z2;let⟨L,M⟩:=w6 t t2 h
 simp only[Ea,cl,a,a2,i,i2,o5,eqL,L,M,Nat.beq_refl,Bool.and_self]
theorem ZD[aB]{ops:List aL}{l:List TS}{m:List St}(a:bO (Qt N) l m): ∀{b:List<|Nat×Nat},ckG ops l b=some true->oV ops m b=true
 | [],_=>rfl
 | p::r,h=>by
  simp only[ckG] at h;split at h
  .rename_i e;simp only[oV,aAL a e];exact ZD a h
  .split at h
   .cases h
   rename_i x e;split at h
   .cases h
   rename_i y f;simp only[Option.some.injEq,Bool.and_eq_true] at h;let⟨h1,h2⟩:=h;subst h1;subst h2
   simp only[oV,Q3 a e];exact ZD a f
theorem XF[aB](k:E.nt=N)(j:GL P T E): ∀{l:List aL} {S:TS} {st:St} {b:List TS} {K:List TS->TS->Option R},Qt N S st->Uw E n l S b K=some r->
 ∃e c st' i,cM P (dK P T n) E.fl l st=some c/\bO (Qt N) e c/\c.getLast?=some st'/\Qt N i st'/\K (b.reverse++e) i=some r
 | [],S,st,b,K,d,h=>⟨[S],[st],st,S,rfl,⟨d,trivial⟩,rfl,d,by simp only[Uw,List.reverse_cons] at h;exact h⟩
 | o::l,S,st,b,K,d,h=>by
  simp only[Uw] at h;let⟨w,y,u,v,t⟩:=V3 k j d h;let⟨e,c,f,q,x,s,g,p,m⟩:=XF k j v t;refine⟨S::e,st::c,f,q,by simp only[cM,u,x],⟨d,s⟩,?_,p,by simp only[List.reverse_cons,List.append_assoc,List.singleton_append] at m;exact m⟩;cases c with
  | nil=>cases g
  | cons a r=>rw[List.getLast?_cons_cons];exact g
theorem JV[aB]{n:Nat}: ∀{m:Nat}{ops:List aL}{l:List TS}{w:List St},bO (Qt N) l w->NF n m ops l=true->Fj n m ops w=true
 | 0,_,_,_,_,_=>rfl
 | _+1,[],_,_,_,h=>by cases h
 | _+1,_::_,[],_,_,h=>by cases h
 | _+1,_::_,_::_,[],a,_=>a.elim
 | m+1,o::r,s::l,t::w,a,h=>by
  simp only[NF] at h;split at h
  .rename_i g;have k:=JV a.2 h;simp only[Fj]
   have y:(match eR o.op with | true=>true | false=>match cO t.tmps o.guard with | some false=>true | _=>fQ o.op t.tmps t.heap.length n)=true:=by
    split at g
    .rename_i q;rw[q]
    .rename_i q;rw[q];split at g
     .rename_i i;simp only[LL a.1 i]
     .rw[a.1.hp.ln.symm] at g;have g:=SZ a.1 g
      simp only;split<;>first | rfl | exact g
   exact (congrArg (λb=>match b with | true=>Fj n m r w | false=>false) y).trans k
  .cases h
theorem aHn[aB](e:E.nt=N)(g:GL P T E){f:List<|Nat×Nat}{l:List aL}{K:TS->Option R}(d:Qt N S st)(h:aAt E n f l S K=some r): ∃st' a,eI P (dK P T n) E.fl f l st=some st'/\Qt N a st'/\K a=some r:=by
 unfold aAt at h;split at h
 .exact aEc e g d h
 .rename_i c cs;split at h
  .rename_i w;let⟨p,q,st',a,j,o,k,i,b⟩:=XF e g d h;simp only[List.reverse_nil,List.nil_append] at b;split at b
   .rename_i m;exact⟨st',a,by simp only[eI,w,j,ZC o m,k],i,b⟩
   .split at b
    .rename_i x m;let⟨y,z,b⟩:=aV b;have z:=iU z;subst z;exact⟨st',a,by simp only[eI,w,j,ZD o m,k],i,b⟩
    .cases b
  .rename_i w
   have lz:∀vs:List Value,Qc (S.hp++[.box (vs.map .lit)]) (vs.map .lit)<|vs.map .lit:=λvs=>Qc.lits vs
   have d2:Qt N (Ai S (.box ((XB l c.1).map .lit))) ⟨st.tmps,st.heap++[.blk (XB l c.1).length [(XB l c.1).map .lit]]⟩:=d.hpM HM.add<|d.hp.add (b:=.blk (XB l c.1).length [(XB l c.1).map .lit]) ⟨(XB l c.1).map .lit,by simp,Qc.lits _⟩
   rw[<-d.hp.ln] at h
   let⟨p,q,st',a,j,o,k,i,b⟩:=XF e g d2 h;simp only[List.reverse_nil,List.nil_append] at b;split at b
   .rename_i m;split at b
    .rename_i y;exact⟨st',a,by simp only[eI,w,j,ZC o m,JV o y,k],i,b⟩
    .cases b
   .cases b
end
def hM: bI->List bI
 | .seq a b=>hM a++hM b
 | .cond _ a b=>hM a++hM b
 | .block _ c=>hM c
 | .loop _ _ c=>hM c
 | .mask lx lr tr c=>.mask lx lr tr c::hM c
 | .told li lx lr c=>.told li lx lr c::hM c
 | .scope c=>hM c
 | .frz _ c=>hM c
 | _=>[]
theorem qT: ∀c,MY c=(hM c).length
 | .seq a b=>by simp[MY,hM,qT a,qT b]
 | .cond _ a b=>by simp[MY,hM,qT a,qT b]
 | .block _ c=>qT c
 | .scope c=>qT c
 | .frz _ c=>qT c
 | .mask _ _ _ c=>by simp only[MY,hM,List.length_cons,qT c];omega
 | .told _ _ _ c=>by simp only[MY,hM,List.length_cons,qT c];omega
 | .skip=>rfl
 | .region ..=>rfl
 | .loop _ _ c=>qT c
 | .exit _=>rfl
 | .ret=>rfl
 | .nilIf ..=>rfl
 | .loopV ..=>rfl
 | .stop=>rfl
section
variable [cX]
def EP{P:Type}(R:Type): List (Dr P)->Type
 | []=>Unit
 | o::r=>(o.lay.V->Option R)×EP R r
def Um{P R:Type}(f:List cN)(p:P): {l:List<|Dr P}->ES R l->EP R l
 | [],_=>()
 | o::_,e=>(λt=>e.1 f (o.pr p) t,Um f p e.2)
def Ov{P R:Type}: (l:List<|Dr P)->(oM l->R)->EP R l
 | [],_=>()
 | [_],f=>(λt=>some<|f t,())
 | _::o'::r,f=>(λt=>some<|f<|.inl t,Ov (o'::r) λs=>f<|.inr s)
def N1{V X:Type}(B:(V->Option X)->V->Option X): Nat->V->Option X
 | 0,_=>none
 | m+1,q=>B (N1 B m) q
def aFq{P R:Type}(n:Nat)(outs:List<|Dr P)(lx lr:List Bool)(e:ES R outs)(x:bP)(S:TS): Option R:=match x with
 | .ret=>uT n .ret ⟨vY lr S.tm,S.hp⟩ outs e
 | x=>uT n x ⟨vY lx S.tm,S.hp⟩ outs e
def OKs(sp:Zh): Prop:=∀p q,∀o∈sp.outs,OKo sp p q o
def VD(E:XE)(i:Nat): List Zh:=match eD i E.ls with
 | some l=>l
 | none=>[]
variable [aB](P:Program)(T:List bK)(N fl:Nat)
inductive LOK: bI->Zh->Prop
 | loop (lx lr live:List Bool) (tr tr':Bool) (b:bI) (sp:Zh) (E:XE) (B:Nat->sp.ins.P->(sp.ins.V->Option (oM sp.outs))->EP (oM sp.outs) sp.outs->sp.ins.V->Option (oM sp.outs)) :
  GL P T E->E.nt=N->E.fl=fl->(∀(j:Nat) (c:bI) (s:Zh),(hM b)[j]?=some c->s∈VD E j->LOK c s)->
  OKs sp->kpL (.mask lx lr tr (.loop (some live) tr' b)) sp.kt=true->
  (∀n p q,sp.F n p q=N1 (λk q=>B n p k (Ov sp.outs id) q) n q)->
  (∀n φ p q k e,Xi E n b 0 (sp.ins.mkG sp.ins.os.length φ p q) (aBV sp.ins sp.outs live tr' lx lr tr sp.ins.os.length k e)=B n p (k (sp.ins.fo.map φ) p) (Um (sp.ins.fo.map φ) p e) q)->
  LOK (.mask lx lr tr (.loop (some live) tr' b)) sp
 | told (li lx lr:List Bool) (b:bI) (sp:Zh) (E:XE) (B:Nat->sp.ins.P->EP (oM sp.outs) sp.outs->sp.ins.V->Option (oM sp.outs)) :
  GL P T E->E.nt=N->E.fl=fl->(∀(j:Nat) (c:bI) (s:Zh),(hM b)[j]?=some c->s∈VD E j->LOK c s)->
  OKs sp->kpL (.told li lx lr b) sp.kt=true->
  (∀n p q,sp.F n p q=B n p (Ov sp.outs id) q)->
  (∀n φ p q e,Xi E n b 0 (sp.ins.mkG sp.ins.os.length φ p q) (aFq sp.ins.os.length sp.outs lx lr e)=B n p (Um (sp.ins.fo.map φ) p e) q)->
  LOK (.told li lx lr b) sp
open Classical in
noncomputable def N0{P R:Type}(f:List cN)(p:P): (l:List (Dr P))->(oM l->R)->ES R l
 | [],_=>()
 | [o],g=>(λf' p' t=>if f'=f/\p'=o.pr p then some (g t) else none,())
 | o::o'::r,g=>(λf' p' t=>if f'=f/\p'=o.pr p then some (g (.inl t)) else none,N0 f p (o'::r) λs=>g (.inr s))
theorem NV{P R:Type}(f:List cN)(p:P): ∀(l:List<|Dr P) (g:oM l->R),Um f p (N0 f p l g)=Ov l g
 | [],_=>rfl
 | [o],g=>by simp only[N0,Um,Ov,and_self,if_pos];rfl
 | o::c::r,g=>by
  have d:=NV f p (c::r) λs=>g<|.inr s;have e:∀(a:List cN->o.lay.P->o.lay.V->Option R) (b:ES R (c::r)),Um f p (l:=o::c::r) (a,b)=(λt=>a f (o.pr p) t,Um f p (l:=c::r) b):=λ_ _=>rfl;rw[N0,e,d];simp only[and_self,if_pos,Ov];rfl
theorem AA{P R:Type}{n:Nat}{f:List cN}{p:P}{x:bP}{S:TS}{y:R}: ∀{l:List<|Dr P} {g:oM l->R},uT n x S l (N0 f p l g)=some y->∃t,y=g t/\Cj (λo t=>c7 o.x x=true/\o.lay.getF n S=some (f,o.pr p,t)) l t
 | [],g,h=>by cases h
 | [o],g,h=>by
  simp only[uT,N0] at h;split at h
  .rename_i c;split at h
   .rename_i i p' t a;split at h
    .rename_i e;cases h;exact⟨t,rfl,c,by rw[a,e.1,e.2]⟩
    .cases h
   .cases h
  .cases h
 | o::b::r,g,h=>by
  have d:uT n x S (b::r) (N0 f p (b::r) λs=>g<|.inr s)=some y->∃t,y=g t/\Cj (λo t=>c7 o.x x=true/\o.lay.getF n S=some (f,o.pr p,t)) (o::b::r) t:=by
   intro h;let⟨t,k,j⟩:=AA h;exact⟨.inr t,k,j⟩
  rw[uT] at h;split at h
  .rename_i c;split at h
   .rename_i i p' t a;simp only[N0] at h;split at h
    .rename_i e;cases h;exact⟨.inl t,rfl,c,by rw[a,e.1,e.2]⟩
    .cases h
   .exact d h
  .exact d h
theorem QV{x y:bP}(h:c7 x y=true): x=y:=by
 cases x<;>cases y<;>first | rfl | cases h | exact congrArg _ (Nat.eq_of_beq_eq_true h)
variable {P T N fl}{R:Type}
theorem LO{n:Nat}{b:Bool}{e:TT}{S:TS}{K:bP->TS->Option R}{r:R}: ∀{l:List Zh},D2 n b e S K l=some r->∃sp∈l,∃p q,sp.ins.fit S=some (p,q)/\Yl (sp.kl++sp.ins.fo) 0 S.hp (sp.ins.mk' p q).hp=true/\swO p b sp.outs (sp.F n p q) (λx g=>K x<|aft sp e S.hp x g)=some r
 | [],h=>by cases h
 | sp::l,h=>by
  simp only[D2] at h;split at h
  .rename_i p q i;split at h
   .rename_i f;exact⟨sp,List.mem_cons_self,p,q,i,f,h⟩
   .let⟨a,d,c⟩:=LO h;exact⟨a,List.mem_cons_of_mem _ d,c⟩
  .let⟨a,d,c⟩:=LO h;exact⟨a,List.mem_cons_of_mem _ d,c⟩
theorem aAV{E:XE}{i:Nat}{l:List Zh}{sp:Zh}(h:eD i E.ls=some l)(a:sp∈l): sp∈VD E i:=by
 unfold VD;rw[h];exact a
theorem R6{α:Type}{l:List α}{t:Nat}{a:α}(h:l[t]?=some a): l.set t a=l:=by
 apply List.ext_getElem?;intro i;by_cases c:t=i
 .subst c;rw[List.getElem?_set_self (List.getElem?_eq_some_iff.1 h).1,h]
 .rw[List.getElem?_set_ne c]
theorem aFS{E:XE}{t k:Nat}{S:TS}{st:St}{K:TS->Option R}{r:R}{cf:CF}(c:Qt N S st)(h:aFT E t k S K=some r):
 ∃v g j,aI P cf E.fl (.freeze<|.tmp t) st.tmps st.heap=some (v,g)/\Qt N j ⟨st.tmps.set t v,g⟩/\K j=some r:=by
 unfold aFT at h;split at h
 .rename_i v F;let⟨a,i,q⟩:=c.tm _ _ F;have B:t<N:=by rw[<-c.ln];exact (List.getElem?_eq_some_iff.1 i).1
  have f:(∀id x y z,a≠.ms id x y z)->(∀id x y z,a≠.ptr id x y z)->K S=some r->∃v g j,aI P cf E.fl (.freeze<|.tmp t) st.tmps st.heap=some (v,g)/\Qt N j ⟨st.tmps.set t v,g⟩/\K j=some r:=by
   intro H I M;refine⟨a,st.heap,S,?_,by rw[R6 i];exact c,M⟩;simp only[aI,aC,i];try (split<;>first | (rename_i e;exact absurd rfl<|H _ _ _ _) | (rename_i e;exact absurd rfl<|I _ _ _ _) | rfl)
  split at h
  .rename_i id m;split at h
   .cases h
   .rename_i b;have b:=Nat.le_of_ble_eq_true b;split at h
    .rename_i o d;split at h
     .rename_i k l;let⟨es,w,n⟩:=c.hp.lst d;have s:=Hw c (List.getElem?_eq_some_iff.1 d).1<|.blk (cds k).length<|es++[List.replicate (cds k).length .undef];have T:=q.mw d;refine⟨.sl false<|((es.drop (xQ l m).1).take (xQ l m).2).map λe=>e.map vJ,_,_,?_,s.put B<|.p _ _<|Qp.mkS (.inr ⟨_,rfl⟩)<|nZ.ls<|by rw[Zi];exact (n.drop _).take _,h⟩;simp only[aI,aC,i,T,b,if_true,w,n.len]
     .cases h
    .cases h
  .rename_i id off;split at h
   .split at h
    .cases h
    .rename_i b;have b:=Nat.le_of_ble_eq_true b;split at h
     .rename_i o d;split at h
      .rename_i cs;split at h
       .rename_i x G;let⟨e,w,n⟩:=c.hp.box d;have s:=Hw c (List.getElem?_eq_some_iff.1 d).1<|.blk cs.length<|[e]++[List.replicate cs.length .undef];refine⟨.sptr<|e.map vJ,_,_,?_,s.put B<|.p _ _<|Qp.mkP<|nZ.r<|iL G n,h⟩;simp only[aI,aC,i,q.ptr1,b,if_true,w,List.length_singleton,List.getElem?_cons_zero,List.drop_zero]
       .cases h
      .cases h
     .cases h
   .cases h
  .cases h
  .cases h
  .cases h
  .cases h
  .rename_i A O X D C J;refine f (λid x y z e=>?_) (λid x y z e=>?_) h
   .subst e;cases q with
    | p _ _ q=>cases q<;>simp_all
    | ms=>exact A _ _ rfl
    | msn=>exact A _ _ rfl
    | rs=>exact J _ _ rfl
   .subst e;cases q with
    | p _ _ q=>cases q<;>simp_all
    | ptr=>exact O _ _ rfl
    | pel=>exact D _ _ _ rfl
    | rel=>exact C _ _ _ _ rfl
 .cases h
theorem O8{a:TS->(bP->TS->Option R)->Option R}{ev:St->Option (bP×St)}{o:TS->TS}{he:St->St}{K:bP->TS->Option R}{r:R}(p:∀S st (K:bP->TS->Option R) r,Qt N S st->a S K=some r->∃x st' c,ev st=some (x,st')/\Qt N c st'/\K x c=some r)(n:∀S st,Qt N S st->Qt N (o S) (he st)):
 ∀(m lf:Nat) (S:TS) (st:St),m<=lf->Qt N S st->aB2 a o m S K=some r->∃x st' c,dN he ev lf st=some (x,st')/\x≠.normal/\Qt N c st'/\K x c=some r
 | 0,_,_,_,_,_,h=>by cases h
 | m+1,0,_,_,y,_,_=>by omega
 | m+1,lf+1,S,st,y,v,h=>by
  simp only[aB2] at h;let⟨x,b,k,f,l,i⟩:=p _ _ _ _ (n S st v) h;cases x with
  | normal=>
   let⟨x,g,w,u,t⟩:=O8 p n m lf k b (by omega) l i;exact⟨x,g,w,by simp only[dN,f];exact u,t⟩
  | exit j=>exact⟨_,b,k,by simp only[dN,f],(by intro e;cases e),l,i⟩
  | ret=>exact⟨_,b,k,by simp only[dN,f],(by intro e;cases e),l,i⟩
def M6(P:Program)(T:List bK)(N fl:Nat)(c:bI): Prop:=∀{R:Type} {E:XE} {n i:Nat} {S:TS} {st:St} {K:bP->TS->Option R} {r:R},GL P T E->E.nt=N->E.fl=fl->
 (∀(j:Nat) (c':bI) (s:Zh),(hM c)[j]?=some c'->s∈VD E (i+j)->LOK P T N fl c' s)->Qt N S st->Xi E n c i S K=some r->
 ∃x st' S',cH P (dK P T n) n fl c st=some (x,st')/\Qt N S' st'/\K x S'=some r
def aI7(P:Program)(T:List bK)(N fl:Nat)(c:bI): Prop:=match c with
 | .loop _ _ b=>M6 P T N fl b
 | _=>True
open Classical in
theorem aB4{li lx lr:List Bool}{b:bI}(ihb:M6 P T N fl b): M6 P T N fl (.told li lx lr b):=by
 intro _ E n i S st K r hE hN hFl hL hs h
 simp only[Xi] at h
 split at h
 .cases h
 rename_i hfn
 have hfn:fl<=st.heap.length:=by rw[hs.hp.ln,<-hFl];exact Nat.le_of_ble_eq_true hfn
 split at h
 .rename_i l hl
  obtain⟨sp,hsp,p,q,hg,hlb,h⟩:=LO h
  .have hl:=hL 0 _ sp rfl (aAV hl hsp)
   cases hl with
   | told _ _ _ _ _ E' B hE' hN' hFl' hL' hok hkt hF hB=>
    obtain⟨t,ht,hall⟩:=QE h
    obtain⟨φ,hφ⟩:∃φ:Nat->cN,∀i b,st.heap[i]?=some b->b=φ i:=⟨λi=>(st.heap[i]?).getD default,λi b hb=>by show b=(st.heap[i]?).getD default;rw[hb];rfl⟩
    rw[hF,<-NV (sp.ins.fo.map φ) p,<-hB _ φ] at ht
    have hs1:=Bn hs li
    have h0:=EG (n:=sp.ins.os.length) (φ:=φ) hg hs1 λi hi b hb=>by rw[hφ i b hb];exact .r _
    obtain⟨x,st1,S1,h1,h2,h3⟩:=ihb hE' hN' hFl' (λj c' s hj hs=>hL' j c' s hj (by simpa using hs)) h0 ht
    have hlen:sp.ins.os.length=st.heap.length:=(Zy (sV hg).1).symm.trans hs1.hp.len.symm
    have fin:∀S2 st2,Qt N S2 st2->qJ lx lr false fl st.heap.length (some (x,st1))=some (x,st2)->uT sp.ins.os.length x S2 sp.outs (N0 (sp.ins.fo.map φ) p sp.outs id)=some t->∃x st' S',cH P (dK P T n) n fl (.told li lx lr b) st=some (x,st')/\Qt N S' st'/\K x S'=some r:=by
     intro S2 st2 hq hm hf
     obtain⟨t',e,hall'⟩:=AA hf
     cases e
     obtain⟨o,ho,u,⟨g1,g2⟩,g3⟩:=Cj.two hall' hall
     have ex:=QV g1
     have he:cH P (dK P T n) n fl (.told li lx lr b) st=some (o.x,st2):=by
      simp only[cH,h1,ex]
      exact hm
     have hoo:=hok p q o ho
     rw[<-hoo.fo] at g2
     refine⟨o.x,st2,_,he,aAX hs hs1 rfl (λ_ _ _ h=>h) hg hlb (λi _ b hb=>hφ i b hb) hoo (Zz g2 hq) λhx u hu=>?_,g3⟩
     exact lB (Bv P T hE.fo n) (by rw[hlen];exact hfn) _ _ _ _ (XZ hkt u hu) (by rw[hlen];exact Nat.le_refl _) he hx
    cases x with
    | ret=>exact fin _ _ (Bn h2 lr) rfl h3
    | normal=>exact fin _ _ (Bn h2 lx) rfl h3
    | exit j=>exact fin _ _ (Bn h2 lx) rfl h3
 .cases h
open Classical in
theorem Y7{lx lr:List Bool}{tr:Bool}{c:bI}(ihb:aI7 P T N fl c): M6 P T N fl (.mask lx lr tr c):=by
 intro _ E n i S st K r hE hN hFl hL hs h
 unfold Xi at h
 split at h
 .cases h
 rename_i hfn
 have hfn:fl<=st.heap.length:=by rw[hs.hp.ln,<-hFl];exact Nat.le_of_ble_eq_true hfn
 split at h
 .rename_i live tr' b
  split at h
  .cases h
  rename_i live
  split at h
  .rename_i m hm
   obtain⟨_,hg,h⟩:=aV h
   have hmn:=Nat.le_of_ble_eq_true (iU hg)
   obtain⟨x,st',S',h1,h2,h3,h4⟩:=O8 (ev:=λst=>cH P (dK P T n) n fl b st) (he:=bX (some live) tr' fl st.heap.length) (λS st K r hs h=>ihb hE hN hFl (λj c' s hj hs=>hL (1+j) c' s (by
    simp only[hM,List.getElem?_cons_succ,Nat.add_comm 1 j];exact hj) (by rw[<-Nat.add_assoc];exact hs)) hs h) (λS' st' hs'=>by rw[hs.hp.ln];exact Ow hs' live tr' _ (by rw[<-hs.hp.ln];exact hfn)) m n S st hmn hs h
   cases x with
   | normal=>exact (h2 rfl).elim
   | ret=>exact⟨.ret,_,_,by simp only[cH,h1,qJ],Bn h3 lr,h4⟩
   | exit j=>exact⟨.exit j,bX (some lx) tr fl st.heap.length st',Fn lx tr S.hp.length S',by simp only[cH,h1,qJ],by rw[hs.hp.ln];exact Ow h3 lx tr _ (by rw[<-hs.hp.ln];exact hfn),h4⟩
  .split at h
   .rename_i l hl
    obtain⟨sp,hsp,p,q,hg,hlb,h⟩:=LO h
    have hl:=hL 0 _ sp rfl (aAV hl hsp)
    cases hl with
    | loop _ _ _ _ _ _ _ E' B hE' hN' hFl' hL' hok hkt hF hB=>
     have hs1:=Ow hs live tr' S.hp.length (by rw[<-hs.hp.ln];exact hfn)
     have hle:(Fn live tr' S.hp.length S).hp.length=S.hp.length:=by
      cases tr' with
      | true=>simp[Fn]
      | false=>rfl
     have hlen:sp.ins.os.length=st.heap.length:=by
      rw[<-Zy (sV hg).1,hle,hs.hp.ln]
     obtain⟨t,ht,hall⟩:=QE h
     rw[hF] at ht
     generalize hst1:bX (some live) tr' fl S.hp.length st=st0 at hs1
     obtain⟨φ,hφ⟩:∃φ:Nat->cN,∀i b,st0.heap[i]?=some b->b=φ i:=⟨λi=>(st0.heap[i]?).getD default,λi b hb=>by show b=(st0.heap[i]?).getD default;rw[hb];rfl⟩
     have h0:=EG (n:=sp.ins.os.length) (φ:=φ) hg hs1 λi hi b hb=>by rw[hφ i b hb];exact .r _
     have run:∀m q st1,Qt N (sp.ins.mkG sp.ins.os.length φ p q) (bX (some live) tr' fl st.heap.length st1)->N1 (λk q=>B n p k (Ov sp.outs id) q) m q=some t->
      ∃x st2,dN (bX (some live) tr' fl st.heap.length) (λst=>cH P (dK P T n) n fl b st) m st1=some (x,st2) /\
       ∃S3 st3,Qt N S3 st3/\qJ lx lr tr fl st.heap.length (some (x,st2))=some (x,st3)/\uT sp.ins.os.length x S3 sp.outs (N0 (sp.ins.fo.map φ) p sp.outs id)=some t:=by
      intro m
      induction m with
      | zero=>intro q st1 _ h;cases h
      | succ m ih=>
       intro q st1 hq hr
       simp only[N1] at hr
       have e:=hB n φ p q (λf' p' q'=>if f'=sp.ins.fo.map φ/\p'=p then N1 (λk q=>B n p k (Ov sp.outs id) q) m q' else none) (N0 (sp.ins.fo.map φ) p sp.outs id)
       simp only[and_self,if_pos,NV] at e
       rw[<-e] at hr
       obtain⟨x,st2,S2,g1,g2,g3⟩:=ihb hE' hN' hFl' (λj c' s hj hs=>hL' j c' s hj (by simpa using hs)) hq hr
       cases x with
       | normal=>
        simp only[aBV] at g3
        split at g3
        .rename_i f' p' q' hg'
         split at g3
         .rename_i ep
          obtain⟨rfl,rfl⟩:=ep
          have g4:=Zz hg' (Ow g2 live tr' sp.ins.os.length (by rw[hlen];exact hfn))
          rw[hlen] at g4
          obtain⟨x,st3,k1,k2⟩:=ih q' st2 (by rw[hlen];exact g4) g3
          exact⟨x,st3,by simp only[dN,g1];exact k1,k2⟩
         .cases g3
        .cases g3
       | ret=>
        refine⟨.ret,st2,by simp only[dN,g1],_,_,Bn g2 lr,rfl,g3⟩
       | exit j=>
        refine⟨.exit j,st2,by simp only[dN,g1],_,_,?_,rfl,g3⟩
        have:=Ow g2 lx tr sp.ins.os.length (by rw[hlen];exact hfn)
        rw[hlen] at this |-
        exact this
     obtain⟨x,st2,g1,S3,st3,g2,g3,g4⟩:=run n q st (by rw[show bX (some live) tr' fl st.heap.length st=st0 from by rw[hs.hp.ln];exact hst1];exact h0) ht
     obtain⟨t',e,hall'⟩:=AA g4
     cases e
     obtain⟨o,ho,u,⟨k1,k2⟩,k3⟩:=Cj.two hall' hall
     have ex:=QV k1
     have he:cH P (dK P T n) n fl (.mask lx lr tr (.loop (some live) tr' b)) st=some (o.x,st3):=by
      simp only[cH,g1,ex]
      exact g3
     have hoo:=hok p q o ho
     rw[<-hoo.fo] at k2
     refine⟨o.x,st3,_,he,aAX hs hs1 hle (λi k l hi=>?_) hg hlb (λi _ b hb=>hφ i b hb) hoo (Zz k2 g2) λhx u hu=>?_,k3⟩
     .cases tr' with
      | true=>exact Zx (List.getElem?_eq_some_iff.1 hi).1 hi
      | false=>exact hi
     .exact lB (Bv P T hE.fo n) (by rw[hlen];exact hfn) _ _ _ _ (XZ hkt u hu) (by rw[hlen];exact Nat.le_refl _) he hx
   .cases h
 .cases h
theorem oH: ∀(c:bI),M6 P T N fl c/\aI7 P T N fl c
 | .skip=>⟨(by
  intro _ E n i S st K r k m d q f h;exact⟨_,st,S,rfl,f,h⟩),trivial⟩
 | .exit id=>⟨(by
  intro _ E n i S st K r k m d q f h;exact⟨_,st,S,rfl,f,h⟩),trivial⟩
 | .ret=>⟨(by
  intro _ E n i S st K r k m d q f h;exact⟨_,st,S,rfl,f,h⟩),trivial⟩
 | .region _ ck ops=>⟨(by
  intro _ E n i S st K r k m d q f h;simp only[Xi] at h;let⟨st',H,o,u,p⟩:=aHn m k f h;rw[d] at o;exact⟨_,st',H,by simp only[cH,o],u,p⟩),trivial⟩
 | .seq a b=>⟨(by
  intro _ E n i S st K r k m d q f h;simp only[Xi] at h;let⟨x,g,y,o,u,p⟩:=(oH a).1 k m d (λj c' s z f=>q j c' s (by
   simp only[hM];rw[List.getElem?_append_left (List.getElem?_eq_some_iff.1 z).1];exact z) f) f h
  split at p
  .let⟨x,D,W,Q,M,U⟩:=(oH b).1 k m d (λj c' s z f=>q (MY a+j) c' s (by
    simp only[hM,qT];rw[List.getElem?_append_right<|Nat.le_add_right _ _,Nat.add_sub_cancel_left];exact z)<|by rw[<-Nat.add_assoc];exact f) u p
   exact⟨x,D,W,by simp only[cH,o,Q],M,U⟩
  .rename_i F;refine⟨x,g,y,?_,u,p⟩;cases x with
   | normal=>exact (F rfl).elim
   | exit=>simp only[cH,o]
   | ret=>simp only[cH,o]),trivial⟩
 | .cond c a b=>⟨(by
  intro _ E n i S st K r k m d q f h;simp only[Xi] at h;split at h
  .rename_i t;split at h
   .rename_i v G;split at h
    .split at h
     .rename_i w;let⟨Z,I,Y⟩:=f.tm _ _ G;have R:=Y.inL;subst R;rcases Vn h with⟨rfl,h⟩ | ⟨rfl,h⟩
      .let⟨x,g,y,o,u,p⟩:=(oH a).1 k m d (λj c' s z f=>q j c' s (by
        simp only[hM];rw[List.getElem?_append_left (List.getElem?_eq_some_iff.1 z).1];exact z) f) (Hp f G) h
       exact⟨x,g,y,by simp only[cH,aC,I,o],u,p⟩
      .let⟨x,g,y,o,u,p⟩:=(oH b).1 k m d (λj c' s z f=>q (MY a+j) c' s (by
        simp only[hM,qT];rw[List.getElem?_append_right<|Nat.le_add_right _ _,Nat.add_sub_cancel_left];exact z)<|by rw[<-Nat.add_assoc];exact f) (Hp f G) h
       exact⟨x,g,y,by simp only[cH,aC,I,o],u,p⟩
     .cases h
    .cases h
   .cases h
  .cases h),trivial⟩
 | .block id c=>⟨(by
  intro _ E n i S st K r k m d q f h;simp only[Xi] at h;let⟨x,g,y,o,u,p⟩:=(oH c).1 k m d q f h;split at p
  .rename_i j;split at p
   .rename_i e;have e:=Nat.eq_of_beq_eq_true e;exact⟨.normal,g,y,by simp only[cH,o,e,if_true],u,p⟩
   .rename_i e;have e:=Nat.ne_of_beq_eq_false e;exact⟨.exit j,g,y,by simp only[cH,o];rw[if_neg e],u,p⟩
  .rename_i F;refine⟨x,g,y,?_,u,p⟩;cases x with
   | normal=>simp only[cH,o]
   | exit j=>exact (F _ rfl).elim
   | ret=>simp only[cH,o]),trivial⟩
 | .scope c=>⟨(by
  intro _ E n i S st K r k m d q f h;simp only[Xi] at h;let⟨x,g,y,o,u,p⟩:=(oH c).1 k m d q f h;exact⟨x,g,y,by simp only[cH,o],u,p⟩),trivial⟩
 | .told li L J b=>⟨aB4 (oH b).1,trivial⟩
 | .mask L J tr c=>⟨Y7 (oH c).2,trivial⟩
 | .frz t c=>⟨(by
  intro _ E n i S st K r k m d q f h;simp only[Xi] at h;let⟨v,A',H,o,u,p⟩:=aFS (P:=P) (cf:=dK P T n) f h;let⟨x,g,y,V,O,X⟩:=(oH c).1 k m d q u p;rw[d] at o;exact⟨x,g,y,by simp only[cH,o,V],O,X⟩),trivial⟩
 | .loop l t b=>⟨(by
  intro _ E n i S st K r k m d q f h;cases h),(oH b).1⟩
 | .nilIf _ _ _ _ _=>⟨(by
  intro _ E n i S st K r k m d q f h;cases h),trivial⟩
 | .loopV _ _ _ _ _=>⟨(by
  intro _ E n i S st K r k m d q f h;cases h),trivial⟩
 | .stop=>⟨(by
  intro _ E n i S st K r k m d q f h;cases h),trivial⟩
theorem aFV(c:bI): M6 P T N fl c:=(oH c).1
theorem Cj.imp{P:Type}{Q b:(o:Dr P)->o.lay.V->Prop}: ∀{l:List<|Dr P} {t:oM l},(∀o∈l,∀t,Q o t->b o t)->Cj Q l t->Cj b l t
 | [],t,_,_=>t.elim
 | [o],t,h,k=>h o List.mem_cons_self t k
 | o::a::r,.inl t,h,k=>h o List.mem_cons_self t k
 | o::a::r,.inr t,h,k=>Cj.imp (l:=a::r) (λo c=>h o<|List.mem_cons_of_mem _ c) k
end
section
variable [cX][aB]{P:Program}{T:List bK}{N fl:Nat}{S:TS}{st:St}{H:TH}
theorem WU(f:Qt N S st): ∀{rs:List Rg} {vs:List TV},MD S rs=some vs->∃aw,dM st rs=some aw/\Qc S.hp vs aw
 | [],vs,h=>by cases h;exact⟨[],rfl,trivial⟩
 | r::rs,vs,h=>by
  simp only[MD] at h;split at h
  .cases h
  .rename_i v g;let⟨aw,i,k⟩:=WU f g;split at h
   .rename_i t;cases h;exact⟨aC st.tmps (.tmp t)::aw,by simp only[dM,sK,i],f.get<|.tmp t,k⟩
   .rename_i t n agg;have q:=f.get<|.tmp t;split at h
    .rename_i id off u;rw[u] at q;have q:=q.ptr1;split at h
     .rename_i o m;split at h
      .rename_i cs;let⟨es,p,l⟩:=f.hp.box m;split at h
       .rename_i j;have j:=Nat.le_of_ble_eq_true j;have d:=(l.drop off).take n;have a:cJ st.heap (aC st.tmps<|.tmp t) n=some ((es.drop off).take n):=by
         rw[q];have:off+n<=es.length:=by rw[l.len];exact j
         simp[cJ,p,this]
        split at h
        .cases h;exact⟨.agg ((es.drop off).take n)::aw,by simp only[dM,sK,a,if_true,i],Qh.mkA d,k⟩
        .split at h
         .rename_i c s;cases h;rw[s] at d;generalize he:(es.drop off).take n=e at d a;match e,d with
          | [b],d=>exact⟨b::aw,by simp only[dM,sK,a,Bool.false_eq_true,if_false,i],d.1,k⟩
         .cases h
       .cases h
      .cases h
     .cases h
    .cases h
theorem LN: ∀{l:List Sh} {p:fJ l},(Dh l p).length=l.length
 | [],_=>rfl
 | _::r,p=>by simp[Dh,LN]
structure ZM(P:Program)(T:List bK) where
 vi:Nat
 c:ZN
 ok:PG P T vi c
def y4: List (ZM P T)->Nat->Option ZN
 | [],_=>none
 | x::r,v=>match Nat.beq x.vi v with
  | true=>some x.c
  | false=>y4 r v
theorem UO: ∀{l:List<|ZM P T} {vi:Nat} {c:ZN},y4 l vi=some c->PG P T vi c
 | x::r,vi,c,h=>by
  simp only[y4] at h;split at h
  .rename_i e;have e:=Nat.eq_of_beq_eq_true e;cases h;rw[<-e];exact x.ok
  .exact UO h
theorem w7{k:Nat}{t:TypeId}(r:SY (cds k)=true)(d:ag k=true)(c:∀a b:den k,Decidable<|a=b)(g:∀x y,aK P (eqGuard .eql t (.tmp 0) (.tmp 0) (pR k x)<|pR k y)=some ()/\aK P (eqGuard .neq t (.tmp 0) (.tmp 0) (pR k x)<|pR k y)=some ())(e:∀x y,aK P (Op.equal t (pR k x)<|pR k y)=some (@decide (x=y)<|c x y)): aBh P t ⟨k,c⟩:=by
 intro cf fl H x y aw u s q;have m:∀{x:den k} {aw:List AV},Qr (iH k x) aw->lits (.agg aw)=some (pR k x):=by
  intro x aw h;unfold iH at h;rw[Zw r] at h;simp only[lits,NC h,pR,d]
 have e:=e x y;have g:=g x y;have i:=m s;have l:=m q;have p:∀x,∃a,pR k x=.agg a:=λx=>⟨(kvC (cds k)<|cX.un k x).toArray,by simp only[pR,d]⟩;let⟨a,o⟩:=p x;let⟨b,n⟩:=p y;rw[o,n] at e g;rw[o] at i;rw[n] at l;constructor
 .have:aK P (binOp .eql t (.agg a)<|.agg b)=some (.bool<|@decide (x=y)<|c x y):=by
   simp only[binOp,cA,e,Option.bind_some,cQ]
  simp only[d,qF,aI,aC,List.getElem?_cons_zero,List.getElem?_cons_succ,i,l,pP,if_true,g.1,this]
 .have:aK P (binOp .neq t (.agg a)<|.agg b)=some (.bool<|!@decide (x=y) (c x y)):=by
   simp only[binOp,cA,e,Option.bind_some,cQ]
  simp only[d,qF,aI,aC,List.getElem?_cons_zero,List.getElem?_cons_succ,i,l,pP,if_true,g.2,this]
theorem aFZ{k:Nat}{t:TypeId}{c:∀a b:den k,Decidable<|a=b}(l:ag k=false)(f:den k->Bool)(j:∀x,iH k x=[.lit<|.bool<|f x])(h:∀(cf:CF) (fl:Nat) (H:aM) (x y:den k),
 aI P cf fl (.bin .eql t (.tmp 0)<|.tmp 1) [.lit<|.bool<|f x,.lit<|.bool<|f y] H=some (bv<|@decide (x=y)<|c x y,H)/\aI P cf fl (.bin .neq t (.tmp 0)<|.tmp 1) [.lit<|.bool<|f x,.lit<|.bool<|f y] H=some (bv<|!@decide (x=y) (c x y),H)): aBh P t ⟨k,c⟩:=by
 intro cf fl H x y aw m i g;have e:∀{x:den k} {aw:List AV},Qr (iH k x) aw->aw=[.lit<|.bool<|f x]:=by
  intro x aw h;rw[j] at h;match aw,h with
  | [a],h=>rw[(Qh.p (H:=[]) _ _ h.1).inL]
 rw[e i,e g];simp only[l,qF];exact h cf fl H x y
structure Glb(P:Program)(T:List bK) where
 eq:List ((t:TypeId)×{e:EqS // aBh P t e})
 km:List ((t:TypeId)×{e:aDI // KOK P t e})
 st:List {t:TypeId // aBb P t}
 cv:List ((s:TypeId×TypeId)×{k:IntKind // VM P s.1 s.2 k})
 pr:List ((vi:Nat)×{p:PSp // POK T vi p})
 fo:∀cf,gW cf->gW (Co cf)
def asg{α:Nat->Type}{β:Type}(f:∀i,α i->β): List ((i:Nat)×α i)->Nat->Option β
 | [],_=>none
 | x::r,v=>match Nat.beq x.1 v with
  | true=>some<|f x.1 x.2
  | false=>asg f r v
theorem OR{α:Nat->Type}{β:Type}{f:∀i,α i->β}{Q:Nat->β->Prop}(h:∀i x,Q i<|f i x): ∀{l:List<|(i:Nat)×α i} {v:Nat} {b:β},asg f l v=some b->Q v b
 | x::r,v,b,e=>by
  simp only[asg] at e;split at e
  .rename_i a;have a:=Nat.eq_of_beq_eq_true a;cases e;rw[<-a];exact h _ _
  .exact OR h e
def stB: List {t:TypeId // aBb P t}->TypeId->Bool
 | [],_=>false
 | x::r,t=>match Nat.beq x.1 t with
  | true=>true
  | false=>stB r t
theorem Q5: ∀{l:List {t:TypeId // aBb P t}} {t:TypeId},stB l t=true->aBb P t
 | x::r,t,h=>by
  simp only[stB] at h;split at h
  .rename_i e;have e:=Nat.eq_of_beq_eq_true e;rw[<-e];exact x.2
  .exact Q5 h
def cvB: List ((s:TypeId×TypeId)×{k:IntKind // VM P s.1 s.2 k})->TypeId->TypeId->Option IntKind
 | [],_,_=>none
 | x::r,s,t=>match Nat.beq x.1.1 s with
  | true=>match Nat.beq x.1.2 t with
   | true=>some x.2.1
   | false=>cvB r s t
  | false=>cvB r s t
theorem YX: ∀{l:List<|(s:TypeId×TypeId)×{k:IntKind // VM P s.1 s.2 k}} {s t:TypeId} {k:IntKind},cvB l s t=some k->VM P s t k
 | x::r,s,t,k,h=>by
  simp only[cvB] at h;split at h
  .rename_i e;have e:=Nat.eq_of_beq_eq_true e;split at h
   .rename_i a;have a:=Nat.eq_of_beq_eq_true a;cases h;rw[<-e,<-a];exact x.2.2
   .exact YX h
  .exact YX h
structure LC(P:Program)(T:List bK)(N fl:Nat)(c:bI) where
 s:Zh
 ok:LOK P T N fl c s
structure IC(P:Program)(T:List bK) where
 s:ISp
 ok:IOK P T s
def lpA(b:bI)(j:Nat): bI:=match (hM b)[j]? with
 | some c=>c
 | none=>.skip
structure En(P:Program)(T:List bK)(N fl:Nat)(b:bI) where
 C:List (ZM P T)
 kd:List (Nat×Nat)
 ls:List ((j:Nat)×List (LC P T N fl (lpA b j)))
 un:List (Nat×Nat)
 il:List (IC P T)
def aCC{b:bI}: List ((j:Nat)×List (LC P T N fl<|lpA b j))->List (Nat×List Zh)
 | []=>[]
 | x::r=>(x.1,x.2.map (·.s))::aCC r
def En.xe{b:bI}(G:Glb P T)(e:En P T N fl b): XE:=⟨y4 e.C,asg (λ_ x=>x.1) G.eq,asg (λ_ x=>x.1) G.km,stB G.st,cvB G.cv,asg (λ_ x=>x.1) G.pr,e.kd,aCC e.ls,e.un,e.il.map (·.s),N,fl⟩
theorem En.ok{b:bI}(G:Glb P T)(e:En P T N fl b): GL P T (e.xe G) where
 cs:=λ_ _ h=>UO h;eq:=λ_ _ h=>OR (Q:=aBh P) (λ_ x=>x.2) h;km:=λ_ _ h=>OR (Q:=KOK P) (λ_ x=>x.2) h;st:=λ_ h=>Q5 h;cv:=λ_ _ _ h=>YX h;pr:=λ_ _ h=>OR (Q:=POK T) (λ_ x=>x.2) h;il:=λsp h=>by
  obtain⟨x,_,rfl⟩:=List.mem_map.1 h;exact x.ok
 fo:=G.fo
theorem En.lp{b:bI}(G:Glb P T)(e:En P T N fl b)(j:Nat)(c:bI)(s:Zh)(i:(hM b)[j]?=some c)(m:s∈VD (e.xe G) j): LOK P T N fl c s:=by
 have g:∀(l:List<|(j:Nat)×List (LC P T N fl<|lpA b j)),s∈(match eD j (aCC l) with | some l=>l | none=>[])->LOK P T N fl c s:=by
  intro l;induction l with
  | nil=>intro h;cases h
  | cons x r k=>
   intro h;simp only[aCC,eD] at h;split at h
   .rename_i l f;split at f
    .rename_i e;have e:=Nat.eq_of_beq_eq_true e;cases f;obtain⟨y,_,rfl⟩:=List.mem_map.1 h;have d:∀(c':bI) (y:LC P T N fl c'),c'=c->LOK P T N fl c y.s:=by rintro _ y rfl;exact y.ok
     exact d _ y<|by rw[e];simp[lpA,i]
    .exact k<|by rw[f];exact h
   .cases h
 exact g e.ls m
def aAG(n:Nat): Option (List Nat)->Option (List Nat)
 | some l=>some (n::l)
 | none=>none
def FK(kl:List Nat): Nat->TH->Option (List Nat)
 | _,[]=>some []
 | i,a::r=>match Me i kl with
  | true=>FK kl (i+1) r
  | false=>match a with
   | .lst _ l=>aAG l.length<|FK kl (i+1) r
   | _=>FK kl (i+1) r
def IF(kl:List Nat): Nat->TH->TH->Option (List Nat)
 | _,[],_=>some []
 | i,a::r,s=>match s with
  | []=>none
  | b::s=>match Me i kl with
   | true=>IF kl (i+1) r s
   | false=>match a with
    | .lst _ _=>match b with
     | .lst _ l=>aAG l.length<|IF kl (i+1) r s
     | _=>none
    | _=>IF kl (i+1) r s
theorem Vo{kl:List Nat}: ∀{i:Nat} {H:TH},∃l,FK kl i H=some l
 | i,[]=>⟨_,rfl⟩
 | i,a::r=>by
  let⟨l,h⟩:=Vo (kl:=kl) (i:=i+1) (H:=r);simp only[FK,h];split
  .exact⟨_,rfl⟩
  .split<;>exact⟨_,rfl⟩
theorem ON{kl:List Nat}: ∀{i:Nat} {H H':TH},IF kl i H H'=FK kl i H->H.length<=H'.length/\∀(j k:Nat) (l:List<|den k),i+j∉kl->H[j]?=some (.lst k l)->∃(k':Nat) (c:List<|den k'),H'[j]?=some (.lst k' c)/\c.length=l.length
 | i,[],H',h=>⟨Nat.zero_le _,λj k l _ f=>by simp at f⟩
 | i,a::r,[],h=>by
  let⟨l,e⟩:=Vo (kl:=kl) (i:=i) (H:=a::r);rw[e] at h;cases h
 | i,a::r,b::s,h=>by
  have o:IF kl (i+1) r s=FK kl (i+1) r->(i∉kl->∀(k:Nat) (l:List<|den k),a=.lst k l->∃(k':Nat) (c:List<|den k'),b=.lst k' c/\c.length=l.length)->(a::r).length<=(b::s).length/\∀(j k:Nat) (l:List<|den k),i+j∉kl->(a::r)[j]?=some (.lst k l)->∃(k':Nat) (c:List<|den k'),(b::s)[j]?=some (.lst k' c)/\c.length=l.length:=by
   intro w u;let⟨t,y⟩:=ON w;refine⟨by simpa using t,λj k l f p=>?_⟩;cases j with
   | zero=>
    simp only[List.getElem?_cons_zero,Option.some.injEq] at p;let⟨k',c,e,g⟩:=u f k l p;exact⟨k',c,by rw[e];rfl,g⟩
   | succ j=>
    let⟨k',c,e,g⟩:=y j k l (by rw[Nat.add_assoc,Nat.add_comm 1];exact f) (by simpa using p);exact⟨k',c,by simpa using e,g⟩
  simp only[IF,FK] at h;cases n:Me i kl with
  | true=>
   rw[n] at h;exact o h λx=>by rw[XW x] at n;cases n
  | false=>
   rw[n] at h;simp only at h;cases a with
   | lst k l=>
    simp only at h;let⟨B,m⟩:=Vo (kl:=kl) (i:=i+1) (H:=r);split at h
    .rename_i k' c;cases q:IF kl (i+1) r s with
     | none=>rw[q,m] at h;cases h
     | some C=>
      rw[q,m] at h;simp only[aAG,Option.some.injEq,List.cons.injEq] at h;exact o (by rw[q,m,h.2]) λ_ v z e=>by cases e;exact⟨_,_,rfl,h.1⟩
    .rw[m] at h;cases h
   | _=>exact o h λ_ v z e=>by cases e
def HMa(ins:yI)(kl:List Nat)(p:ins.P)(q:ins.V): List (Dr ins.P)->Prop
 | []=>True
 | o::r=>o.lay.fo=ins.fo/\(∀t,IF kl 0 (ins.mk' p q).hp (o.lay.mk' (o.pr p) t).hp=FK kl 0 (ins.mk' p q).hp)/\HMa ins kl p q r
theorem PE{sp:Zh}{p:sp.ins.P}{q:sp.ins.V}: ∀{l:List<|Dr sp.ins.P},HMa sp.ins sp.kl p q l->∀o∈l,OKo sp p q o
 | [],_,o,a=>by cases a
 | d::r,h,o,a=>by
  rcases List.mem_cons.1 a with rfl | a
  .exact⟨h.1,λt j k l b c=>(ON<|h.2.1 t).2 j k l (by rw[Nat.zero_add];exact b) c,λt=>(ON<|h.2.1 t).1⟩
  .exact PE h.2.2 o a
def mkL(G:Glb P T){c b:bI}{lx lr live:List Bool}{tr tr':Bool}(hc:c=.mask lx lr tr (.loop (some live) tr' b))(e:En P T N fl b)(ins:yI)(kl kt:List Nat)(outs:List<|Dr ins.P)(B:Nat->ins.P->(ins.V->Option (oM outs))->EP (oM outs) outs->ins.V->Option (oM outs))(h:∀n φ p q k e',Xi (e.xe G) n b 0 (ins.mkG ins.os.length φ p q) (aBV ins outs live tr' lx lr tr ins.os.length k e')=B n p (k (ins.fo.map φ) p) (Um (ins.fo.map φ) p e') q:=by intros;kernel_rfl)(hm:∀p q,HMa ins kl p q outs:=by intro _ _;repeat' first | exact trivial | refine And.intro ?_ ?_ | (intro _;kernel_rfl) | rfl)(hk:kpL c kt=true:=by kernel_rfl): LC P T N fl c:=
 ⟨⟨ins,kl,kt,outs,λn p q=>N1 (λk q=>B n p k (Ov outs id) q) n q⟩,by subst hc;exact .loop _ _ _ _ _ _ _ (e.xe G) B (e.ok G) rfl rfl (e.lp G) (λp q=>PE<|hm p q) hk (λ_ _ _=>rfl) h⟩
def mkP(G:Glb P T){c b:bI}{li lx lr:List Bool}(hc:c=.told li lx lr b)(e:En P T N fl b)(ins:yI)(kl kt:List Nat)(outs:List<|Dr ins.P)(B:Nat->ins.P->EP (oM outs) outs->ins.V->Option (oM outs))(h:∀n φ p q e',Xi (e.xe G) n b 0 (ins.mkG ins.os.length φ p q) (aFq ins.os.length outs lx lr e')=B n p (Um (ins.fo.map φ) p e') q:=by intros;kernel_rfl)(hm:∀p q,HMa ins kl p q outs:=by intro _ _;repeat' first | exact trivial | refine And.intro ?_ ?_ | (intro _;kernel_rfl) | rfl)(hk:kpL c kt=true:=by kernel_rfl): LC P T N fl c:=
 ⟨⟨ins,kl,kt,outs,λn p q=>B n p (Ov outs id) q⟩,by subst hc;exact .told _ _ _ _ _ (e.xe G) B (e.ok G) rfl rfl (e.lp G) (λp q=>PE<|hm p q) hk (λ_ _ _=>rfl) h⟩
abbrev LC.f{c:bI}(x:LC P T N fl c):=x.s.F
theorem aAs{F:bK}{E:XE}{n:Nat}{R:Type}{K:bP->TS->Option R}{r:R}{aw:List AV}{A:aM}{vi:Nat}(z:getF T vi=some F)(y:GL P T E)(p:E.nt=F.nt)(l:E.fl=fl)(u:∀(j:Nat) (c:bI) (s:Zh),(hM F.body)[j]?=some c->s∈VD E j->LOK P T F.nt fl c s)(g:Qt aw.length S ⟨aw,A⟩)(B:aw.length<=F.nt)(h:Xi E n F.body 0 S K=some r)(w:∀x d,K x d=some r->x=.normal\/x=.ret):
 ∃x st' d,Qt F.nt d st'/\K x d=some r/\dK P T (n+1) fl vi aw A=(match dM st' F.rets with | some vs=>some (eH vs,st'.heap) | none=>none):=by
 have k:Qt F.nt S ⟨aw++List.replicate (F.nt-aw.length) (.lit aW),A⟩:=by
  refine⟨by simp;omega,λt v m=>?_,g.hp⟩;let⟨a,f,e⟩:=g.tm t v m;refine⟨a,?_,e⟩;show (aw++_)[t]?=_;rw[List.getElem?_append_left (List.getElem?_eq_some_iff.1 f).1];exact f
 let⟨x,st',d,o,f,e⟩:=aFV (i:=0) F.body y p l (λj b s q g=>u j b s q<|by simpa using g) k h;refine⟨x,st',d,f,e,?_⟩;rw[EM F z,o];rcases w x d e with rfl | rfl<;>rfl
theorem fok{vi:Nat}{c:ZN}{F:bK}(C:getF T vi=some F)(E:XE)(D:GL P T E)(M:E.nt=F.nt)(u:E.fl=0)(w:Nat.ble c.ka.length F.nt=true)(J:∀(j:Nat) (b:bI) (s:Zh),(hM F.body)[j]?=some b->s∈VD E j->LOK P T F.nt 0 b s)(L:∀p,c.F 0 p=none)(h:∀n p,c.F (n+1) p=exF E n F c p): aIC P T vi c:=by
 intro n p r i aw z;cases n with
 | zero=>rw[L] at i;cases i
 | succ n=>
  rw[h] at i;unfold exF at i;have B:aw.length=c.ka.length:=by rw[z.len,LN]
  have w:=Nat.le_of_ble_eq_true w;let⟨x,st',f,q,m,G⟩:=aAs C D M u J (OE (show Qs [] [] from trivial) z) (by omega) i λx f h=>by
   cases x with
   | normal=>exact .inl rfl
   | ret=>exact .inr rfl
   | exit=>cases h
  have g:(match MD f F.rets with | some vs=>(match c.kp with | false=>yA 2 f.hp (c.kr.map .v) vs | true=>bnd (jK<|Ww f.hp vs) λ_=>yA 2 f.hp (c.kr.map .v) vs) | none=>none)=some r->∃vs a A H,dK P T (n+1) 0 vi aw []=some (eH a,A)/\Qs H A/\Qc H vs a/\yA 2 H (c.kr.map .v) vs=some r/\(c.kp=true->Ww H vs=true):=by
   intro h;split at h
   .rename_i vs l;let⟨a,I,y⟩:=WU q l;have he:dK P T (n+1) 0 vi aw []=some (eH a,st'.heap):=by rw[G,I]
    split at h
    .rename_i t;exact⟨vs,a,st'.heap,f.hp,he,q.hp,y,h,λe=>by rw[t] at e;cases e⟩
    .let⟨_,K,h⟩:=aV h;exact⟨vs,a,st'.heap,f.hp,he,q.hp,y,h,λ_=>iU K⟩
   .cases h
  cases x with
  | normal=>exact g m
  | exit=>cases m
  | ret=>exact g m
def mkC(G:Glb P T)(vi:Nat){F:bK}(hF:getF T vi=some F)(ka:List Sh)(kr:List Nat)(kp:Bool)(e:En P T F.nt 0 F.body)(f:Nat->fJ ka->Option (fJ<|kr.map .v))(hk:Nat.ble ka.length F.nt=true)(h0:∀p,f 0 p=none)(h:∀n p,f (n+1) p=exF (e.xe G) n F ⟨ka,kr,kp,f⟩ p)(hkp:kpB kp kr=true:=by kernel_rfl): ZM P T:=⟨vi,⟨ka,kr,kp,f⟩,.of0 (fok hF (e.xe G) (e.ok G) rfl rfl hk (e.lp G) h0 h) hkp⟩
theorem RB: ∀{rs:List Rg} {vs:List TV},MD S rs=some vs->vs.length=rs.length
 | [],vs,h=>by cases h;rfl
 | r::rs,vs,h=>by
  simp only[MD] at h;split at h
  .cases h
  .rename_i c b;have a:=RB b;split at h
   .cases h;simp[a]
   .split at h
    .split at h
     .split at h
      .split at h
       .split at h
        .cases h;simp[a]
        .split at h
         .cases h;simp[a]
         .cases h
       .cases h
      .cases h
     .cases h
    .cases h
def mkI(G:Glb P T)(vi fl:Nat){F:bK}(hF:getF T vi=some F)(e:En P T F.nt fl F.body)(ins:yI)(kl:List Nat)(outs:List<|Dr ins.P)(B:Nat->ins.P->EP (oM outs) outs->ins.V->Option (oM outs))(na:Nat)(hk:Nat.ble na F.nt=true:=by kernel_rfl)(h:∀n φ p q e',exI (e.xe G) n F (ins.mkG ins.os.length φ p q) (λS=>uT ins.os.length .ret S outs e')=B n p (Um (ins.fo.map φ) p e') q:=by intros;kernel_rfl)(hm:∀p q,HMa ins kl p q outs:=by intro _ _;repeat' first | exact trivial | refine And.intro ?_ ?_ | (intro _;kernel_rfl) | rfl): IC P T:=
 ⟨⟨⟨ins,kl,[],outs,λn p q=>bnd (prd n) λn=>B n p (Ov outs id) q⟩,vi,fl,na,F.rets.length⟩,by
  intro n p q t ht φ aw A hna hle hs
  cases n with
  | zero=>cases ht
  | succ n=>
   have ht:B n p (Ov outs id) q=some t:=ht
   rw[<-NV (ins.fo.map φ) p,<-h] at ht
   unfold exI at ht
   have hk:=Nat.le_of_ble_eq_true hk
   have hna:aw.length=na:=hna
   obtain⟨x,st',S',h2,h3,h4⟩:=aAs (fl:=fl) hF (e.ok G) rfl rfl (e.lp G) hs (by omega) ht λx S' h=>by
    cases x with
    | normal=>exact .inl rfl
    | ret=>exact .inr rfl
    | exit=>cases h
   have fin:(match MD S' F.rets with | some vs=>uT ins.os.length .ret ⟨Xk 0 vs,S'.hp⟩ outs (N0 (ins.fo.map φ) p outs id) | none=>none)=some t->
    ∃aw' H',dK P T (n+1) fl vi aw A=some (eH aw',H')/\aw'.length=F.rets.length/\Cj (λo t=>Qt F.rets.length (o.lay.mkG ins.os.length φ (o.pr p) t) ⟨aw',H'⟩/\OKo ⟨ins,kl,[],outs,λn p q=>bnd (prd n) λn=>B n p (Ov outs id) q⟩ p q o) outs t:=by
    intro h
    split at h
    .rename_i vs hvs
     obtain⟨aw',g1,g2⟩:=WU h2 hvs
     obtain⟨t',e',hall⟩:=AA h
     cases e'
     have hl:aw'.length=F.rets.length:=by rw[g2.len,RB hvs]
     refine⟨aw',st'.heap,by rw[h4,g1],hl,Cj.imp (λo ho t hg=>?_) hall⟩
     have hoo:=PE (sp:=⟨ins,kl,[],outs,λn p q=>bnd (prd n) λn=>B n p (Ov outs id) q⟩) (hm p q) o ho
     have hg2:=hg.2
     have hf:o.lay.fo=ins.fo:=hoo.fo
     rw[<-hf] at hg2
     have:=Zz hg2<|OE h2.hp g2
     rw[hl] at this
     exact⟨this,hoo⟩
    .cases h
   cases x with
   | normal=>exact fin h3
   | exit=>cases h3
   | ret=>exact fin h3⟩
end
end
inductive Tr where
 | n (k:Nat) (l:List Tr)
structure Gr where
 nl:Nat
 al:List (Nat×Nat)
 na:Nat
 bs:Nat
 ru:List Nat
def aH0: Nat->List Tr->List Tr->List Tr×List Tr
 | 0,acc,st=>(acc,st)
 | k+1,acc,st=>match st with
  | t::r=>aH0 k (t::acc) r
  | []=>(acc,[])
def aC4{α:Type}(d:α): Nat->List α->α
 | _,[]=>d
 | 0,x::_=>x
 | n+1,_::r=>aC4 d n r
def aIc(b:Nat): Nat->Nat->List Nat
 | 0,_=>[]
 | f+1,n=>match Nat.beq n 0 with
  | true=>[]
  | false=>Nat.mod n b::aIc b f (Nat.div n b)
section
variable (G:Gr)
def aET(s:Nat): Nat:=Nat.mod (Nat.div (aC4 0 (Nat.div s 64) G.ru)<|Nat.pow (Nat.mul G.bs G.bs)<|Nat.mod s 64)<|Nat.mul G.bs G.bs
def aBU: Nat->List Nat->List Tr->List Tr
 | 0,_,st=>st
 | f+1,w,st=>match w with
  | []=>st
  | s::w=>match Nat.blt s G.nl with
   | true=>aBU f w (.n s []::st)
   | false=>match Nat.blt s G.na with
    | true=>match aC4 (0,0) (Nat.sub s G.nl) G.al with
     | (k,a)=>match aH0 a [] st with
      | (l,st)=>aBU f w (.n k l::st)
    | false=>match aET G (Nat.sub s G.na) with
     | r=>aBU f (Nat.mod r G.bs::Nat.div r G.bs::w) st
def aIe(n:Nat): Tr:=match aBU G 1000000 (aIc G.bs 1000000 n) [] with
 | t::_=>t
 | []=>.n 0 []
end
def rB: Tr->Bool
 | .n k _=>match k with
  | 0=>false
  | _=>true
def rN: Tr->Nat
 | .n k _=>k
def rI: Tr->Int
 | .n k l=>match l with
  | []=>Int.ofNat k
  | _=>Int.negOfNat k
def rL{α:Type}(r:Tr->α): Tr->List α
 | .n _ l=>l.map r
def rO{α:Type}(r:Tr->α): Tr->Option α
 | .n _ l=>match l with
  | []=>none
  | t::_=>some<|r t
def aDU: Bool->List Tr->List Bool
 | _,[]=>[]
 | b,t::r=>List.replicate (rN t) b++aDU (!b) r
def rM: Tr->List Bool
 | .n _ l=>aDU false l
def rK: Nat->IntKind
 | 0=>.i64
 | 1=>.i32
 | 2=>.u8
 | 3=>.u64
 | 4=>.u32
 | 5=>.i8
 | 6=>.i16
 | _=>.u16
def BW: Tr->Value
 | .n k l=>match l with
  | []=>match k with
   | 0=>.bool false
   | 1=>.bool true
   | 2=>aZ
   | 3=>.pointer none
   | 4=>.map none
   | 5=>.nilFunc
   | 6=>.nilIface
   | 7=>.string ⟨#[]⟩
   | _=>aW
  | t::r=>match k with
   | 15=>.string ⟨((t::r).map λt=>UInt8.ofNat<|rN t).toArray⟩
   | _=>.int (rK k)<|rI t
def rT(c k:Nat): Nat:=match Nat.blt k 320 with
 | true=>k
 | false=>Nat.sub (Nat.add c 320) k
def rX(c:Nat): Tr->aQ
 | .n k l=>match l with
  | []=>.tmp<|rT c k
  | t::r=>match k with
   | 0=>.lit<|BW t
   | 1=>.agg<|r.map BW
   | 2=>.fn<|rN t
   | _=>.glob<|rN t
def aHz: Nat->BinOp
 | 0=>.add
 | 1=>.sub
 | 2=>.mul
 | 3=>.quo
 | 4=>.rem
 | 5=>.and
 | 6=>.or
 | 7=>.xor
 | 8=>.shl
 | 9=>.shr
 | 10=>.andNot
 | 11=>.eql
 | 12=>.neq
 | 13=>.lss
 | 14=>.leq
 | 15=>.gtr
 | _=>.geq
def rUn: Nat->UnOp
 | 0=>.neg
 | 1=>.xor
 | 2=>.not
 | _=>.plus
def aHv(c:Nat): Tr->Nat×Nat×aQ
 | .n a l=>match l with
  | [b,x]=>(a,rN b,rX c x)
  | _=>(a,0,.tmp 0)
def aHw(c:Nat): Tr->Nat×aQ
 | .n a l=>match l with
  | [x]=>(a,rX c x)
  | _=>(a,.tmp 0)
def U3: Tr->Nat×Nat
 | .n a l=>match l with
  | [b]=>(a,rN b)
  | _=>(a,0)
def rOp(w:Nat): Tr->xP
 | .n k l=>match l with
  | []=>.mkMap
  | [a]=>match k with
   | 0=>.mov<|rX w a
   | 1=>.movN<|rX w a
   | 2=>.nilCheck<|rX w a
   | 3=>.lenS<|rX w a
   | 4=>.capS<|rX w a
   | 5=>.lenM<|rX w a
   | 6=>.rangeStr<|rX w a
   | 7=>.nextStr<|rX w a
   | 8=>.claim<|rN a
   | 9=>.alloc<|rL BW a
   | 10=>.box<|rX w a
   | 11=>.lenC<|rN a
   | 12=>.mov<|rX w a
   | 13=>.tail2<|rX w a
   | _=>.mov<|rX w a
  | [a,b]=>match k with
   | 0=>.allocC (rL BW a)<|rL U3 b
   | 1=>.build (rL BW a)<|rL (aHv w) b
   | 2=>.un (rUn<|rN a)<|rX w b
   | 3=>.fieldAddr (rN a)<|rX w b
   | 4=>.lenStr (rN a)<|rX w b
   | 5=>.minmax (rB a)<|rL (rX w) b
   | 6=>.mkFn (rN a)<|rL (rX w) b
   | 7=>.callB (rN a)<|rL (rX w) b
   | 8=>.callS (rN a)<|rL (rX w) b
   | 9=>.callF (rN a)<|rL (rX w) b
   | 17=>.boxC (rX w a)<|rL U3 b
   | 10=>.extract (rX w a)<|rN b
   | 11=>.load false (rN a)<|rX w b
   | 12=>.load true (rN a)<|rX w b
   | 13=>.call false (rN a)<|rL (rX w) b
   | 14=>.call true (rN a)<|rL (rX w) b
   | 15=>.callv false (rX w a)<|rL (rX w) b
   | _=>.callv true (rX w a)<|rL (rX w) b
  | [a,b,c]=>match k with
   | 0=>.pick (rX w a) (rX w b)<|rX w c
   | 1=>.store (rN a) (rX w b)<|rX w c
   | 2=>.ibin (aHz<|rN a) (rX w b)<|rX w c
   | 3=>.conv (rN a) (rN b)<|rX w c
   | 4=>.idxAddr (rN a) (rX w b)<|rX w c
   | 5=>.strIdx (rN a) (rX w b)<|rX w c
   | 6=>.copy (rN a) (rX w b)<|rX w c
   | 7=>.delete (rN a) (rX w b)<|rX w c
   | 8=>.callT (rN a) (rN b)<|rL (rX w) c
   | 9=>.clear (rN a) (rL BW b)<|rX w c
   | 10=>.loadF (rN a) (rN b)<|rX w c
   | 13=>.slArr (rN a) (rN b)<|rX w c
   | 14=>.arrPtr (rN a) (rN b)<|rX w c
   | 15=>.buildC (rL BW a) (rL (aHv w) b)<|rL U3 c
   | 11=>.field false (rN a) (rN b)<|rX w c
   | _=>.field true (rN a) (rN b)<|rX w c
  | [a,b,c,d]=>match k with
   | 0=>.bin (aHz<|rN a) (rN b) (rX w c)<|rX w d
   | 1=>.idxArr (rN a) (rN b) (rX w c)<|rX w d
   | 2=>.index false (rN a) (rN b) (rX w c)<|rX w d
   | 3=>.index true (rN a) (rN b) (rX w c)<|rX w d
   | 4=>.strSlice (rN a) (rX w b) (rO (rX w) c)<|rO (rX w) d
   | 5=>.mapUpd (rN a) (rX w b) (rX w c)<|rX w d
   | 6=>.append (rN a) (rN b) (rX w c)<|rX w d
   | 7=>.appendP (rN a) (rN b) (rX w c)<|rX w d
   | 8=>.buildSl false (rN a) (rN b) (rL BW c)<|rL (aHw w) d
   | _=>.buildSl true (rN a) (rN b) (rL BW c)<|rL (aHw w) d
  | [a,b,c,d,e]=>match k with
   | 0=>.slice (rN a) (rX w b) (rO (rX w) c) (rO (rX w) d)<|rO (rX w) e
   | 1=>.mkSlice (rN a) (rL BW b) (rN c) (rX w d)<|rX w e
   | 2=>.lookup (rN a) (rX w b) (rX w c) (rX w d)<|rB e
   | _=>.appendZ (rN a) (rN b) (rL BW c) (rX w d)<|rX w e
  | _=>.mkMap
def aHx(c:Nat): Tr->aL
 | .n _ l=>match l with
  | [a]=>⟨some c,rOp c a,none⟩
  | [a,g]=>⟨some c,rOp c a,some (rT c<|rN g,true)⟩
  | [a,g,_]=>⟨some c,rOp c a,some (rT c<|rN g,false)⟩
  | [a,g,_,b]=>match b with
   | .n k _=>match k with
    | 0=>⟨none,rOp c a,none⟩
    | 1=>⟨none,rOp c a,some (rT c<|rN g,true)⟩
    | _=>⟨none,rOp c a,some (rT c<|rN g,false)⟩
  | _=>⟨none,.mkMap,none⟩
def rD(c d:Nat): Nat:=match Nat.blt d 320 with
 | true=>match Nat.beq d 0 with
  | true=>c
  | false=>d
 | false=>match Nat.beq d 337 with
  | true=>0
  | false=>Nat.sub (Nat.add c d) 320
def aCa: Nat->List Tr->List aL
 | _,[]=>[]
 | c,t::r=>aHx (rD c<|rN t) t::aCa (rD c<|rN t) r
def rC: Nat->Tr->bI
 | 0,_=>.stop
 | f+1,.n k l=>match k with
  | 0=>.region false []<|aCa 0 l
  | 1=>match l with
   | c::r=>.region true (rL U3 c)<|aCa 0 r
   | []=>.region true [] []
  | 2=>match l with
   | [a,b]=>.seq (rC f a)<|rC f b
   | _=>.stop
  | 3=>match l with
   | [c,a,b]=>.cond (.tmp<|rN c) (rC f a)<|rC f b
   | _=>.stop
  | 4=>match l with
   | [i,c]=>.block (rN i)<|rC f c
   | _=>.stop
  | 5=>match l with
   | [i]=>.exit<|rN i
   | _=>.stop
  | 6=>.skip
  | 7=>.ret
  | 8=>match l with
   | [lx,lr,t,li,u,c]=>.mask (rM lx) (rM lr) (rB t)<|.loop (some<|rM li) (rB u)<|rC f c
   | _=>.stop
  | 9=>match l with
   | [li,lx,lr,c]=>.told (rM li) (rM lx) (rM lr)<|rC f c
   | _=>.stop
  | 10=>match l with
   | [c]=>.scope<|rC f c
   | _=>.stop
  | 11=>match l with
   | [t,c]=>.frz (rN t)<|rC f c
   | _=>.stop
  | 12=>match l with
   | [t,d,e,a,b]=>.nilIf (rN t) (rN d) (rN e) (rC f a)<|rC f b
   | _=>.stop
  | 13=>match l with
   | [lx,lr,t,c]=>.mask (rM lx) (rM lr) (rB t)<|rC f c
   | _=>.stop
  | 14=>.stop
  | 15=>match l with
   | c::r=>.region false (rL U3 c)<|aCa 0 r
   | []=>.stop
  | _=>.stop
def rR: Tr->Rg
 | .n k l=>match l with
  | []=>.tmp k
  | [n]=>.cell k (rN n) false
  | n::_=>.cell k (rN n) true
def rF: Tr->bK
 | .n i l=>match l with
  | [t,r,c]=>⟨i,rN t,rL rR r,rC 1000 c⟩
  | _=>⟨i,0,[],.stop⟩
section
open iG (den cds ag)
def rSh: Tr->Sh
 | .n k l=>match l with
  | []=>.i
  | [a]=>match k with
   | 0=>.v<|rN a
   | 1=>.w<|rN a
   | 2=>.r<|rN a
   | 3=>.l<|rN a
   | 4=>.n<|rN a
   | _=>.f<|rN a
  | a::b::_=>match k with
   | 0=>.m (rN a)<|rN b
   | _=>.q (rN a)<|rN b
section
variable [cX]
def rTV: Nat->Tr->TV
 | 0,_=>.undef
 | f+1,.n k l=>match l with
  | []=>match k with
   | 0=>.undef
   | 1=>.lit aZ
   | 2=>.emp false
   | 3=>.emp true
   | 4=>.lit<|.bool false
   | _=>.lit<|.bool true
  | a::r=>match k with
   | 0=>.ms (rN a) none
   | 1=>.mp<|rN a
   | 2=>.it<|rN a
   | 3=>match r with
    | b::_=>.ptr (rN a)<|rN b
    | []=>.ptr (rN a) 0
   | 4=>match r with
    | b::_=>.rs (rN a)<|rN b
    | []=>.undef
   | 5=>.fn (rN a)<|r.map<|rTV f
   | 6=>match r with
    | b::_=>.lit<|.int (rK<|rN a)<|rI b
    | []=>.lit<|.int .i64<|rI a
   | _=>.undef
inductive PlD where
 | con (v:TV)
 | p (s:Sh)
 | v (s:Sh)
 | q (j:Nat)
def rPl: Tr->PlD
 | .n k l=>match l with
  | []=>.q k
  | a::_=>match k with
   | 0=>.p<|rSh a
   | 1=>.v<|rSh a
   | _=>.con<|rTV 4 a
def inS: List PlD->List Pl
 | []=>[]
 | d::r=>match d with
  | .con v=>.con v::inS r
  | .p s=>.p s::inS r
  | .v s=>.v s::inS r
  | .q _=>.con .undef::inS r
def aHA: (l:List Sh)->Nat->Option ((s:Sh)×(fJ l->s.den))
 | [],_=>none
 | a::r,j=>match j with
  | 0=>some ⟨a,λp=>fJ.hd p⟩
  | j+1=>match aHA r j with
   | none=>none
   | some x=>some ⟨x.1,λp=>x.2<|fJ.tl p⟩
def aH5(I:List Sh): List PlD->(ss:List Pl)×(fJ I->fJ (LW false ss))
 | []=>⟨[],λ_=>()⟩
 | d::r=>match aH5 I r with
  | ⟨ss,g⟩=>match d with
   | .con v=>⟨.con v::ss,g⟩
   | .v s=>⟨.v s::ss,g⟩
   | .p _=>⟨.con .undef::ss,g⟩
   | .q j=>match aHA I j with
    | none=>⟨.con .undef::ss,g⟩
    | some x=>⟨.p x.1::ss,λp=>fJ.cs (x.2 p)<|g p⟩
def rOL: Tr->OL
 | .n k l=>match l with
  | []=>match k with
   | 0=>.bx
   | 1=>.it
   | _=>.gone
  | [a]=>match k with
   | 0=>.box<|rN a
   | _=>.lst<|rN a
  | a::b::_=>match k with
   | 0=>.map (rN a)<|rN b
   | _=>.rows (rN a)<|rN b
def rTs: Tr->Nat×Option Nat
 | .n t l=>match l with
  | []=>(t,none)
  | a::_=>(t,some<|rN a)
def yK(i:Nat): Tr->Tr
 | .n _ l=>aC4 (.n 0 []) i l
def aHy(fo:List Nat)(ss:List Pl)(z:Tr): yI:=⟨fo,rL rTs<|yK 0 z,rL rOL<|yK 1 z,ss⟩
def zfo(z:Tr): List Nat:=rL rN<|yK 0 z
def Hl(z:Tr): yI:=aHy (zfo z) (inS<|rL rPl<|yK 2<|yK 1 z)<|yK 1 z
def rEx: Tr->bP
 | .n k l=>match l with
  | []=>match k with
   | 0=>.normal
   | _=>.ret
  | _=>.exit k
def aHb(z:Tr): Tr->Dr (Hl z).P
 | .n k l=>match aH5 (LW false (Hl z).ss) (rL rPl<|yK 2<|.n k l) with
  | ⟨ss,g⟩=>⟨rEx<|yK 3<|.n k l,aHy (zfo z) ss<|.n k l,g⟩
def tL(z:Tr): List<|Dr (Hl z).P:=rL (aHb z)<|yK 2 z
def zkd(z:Tr): List<|Nat×Nat:=rL U3<|yK 3 z
def zun(z:Tr): List<|Nat×Nat:=rL U3<|yK 4 z
def zkl(z:Tr): List Nat:=rL rN<|yK 5 z
def zkt(z:Tr): List Nat:=rL rN<|yK 6 z
def BL(z:Tr)(R:Type): Type:=Nat->(Hl z).P->((Hl z).V->Option R)->EP R (tL z)->(Hl z).V->Option R
def BP(z:Tr)(R:Type): Type:=Nat->(Hl z).P->EP R (tL z)->(Hl z).V->Option R
end
section
variable [cX][aB]{P:Program}{T:List bK}{N fl:Nat}
def HF{Q:Type}: List (Dr Q)->Type
 | []=>Unit
 | o::r=>(o.lay.V->Option (List Nat))×HF r
def hmA(H:TH)(kl:List Nat){Q:Type}(p:Q): (l:List<|Dr Q)->HF l
 | []=>()
 | o::r=>(λt=>IF kl 0 H (o.lay.mk' (o.pr p) t).hp,hmA H kl p r)
def hmB(H:TH)(kl:List Nat){Q:Type}(p:Q): (l:List<|Dr Q)->HF l
 | []=>()
 | _::r=>(λ_=>FK kl 0 H,hmB H kl p r)
def J2{Q:Type}(fo:List Nat): List (Dr Q)->Bool
 | []=>true
 | o::r=>match decEq o.lay.fo fo with
  | isTrue _=>J2 fo r
  | isFalse _=>false
theorem HMz{a:yI}{kl:List Nat}{p:a.P}{q:a.V}: ∀{l:List<|Dr a.P},J2 a.fo l=true->hmA (a.mk' p q).hp kl p l=hmB (a.mk' p q).hp kl p l->HMa a kl p q l
 | [],_,_=>trivial
 | o::r,h,g=>by
  simp only[J2] at h;split at h
  .rename_i e _;have b:(λt=>IF kl 0 (a.mk' p q).hp (o.lay.mk' (o.pr p) t).hp)=λ_=>FK kl 0 (a.mk' p q).hp:=congrArg Prod.fst g;exact⟨e,λt=>congrFun b t,HMz h<|congrArg Prod.snd g⟩
  .cases h
def lpx: bI->List Bool
 | .mask lx _ _ _=>lx
 | .told _ lx _ _=>lx
 | _=>[]
def lpr: bI->List Bool
 | .mask _ lr _ _=>lr
 | .told _ _ lr _=>lr
 | _=>[]
def lpt: bI->Bool
 | .mask _ _ t _=>t
 | _=>false
def lpl: bI->List Bool
 | .mask _ _ _ c=>match c with
  | .loop l _ _=>match l with
   | some l=>l
   | none=>[]
  | _=>[]
 | .told li _ _ _=>li
 | _=>[]
def lpu: bI->Bool
 | .mask _ _ _ c=>match c with
  | .loop _ u _=>u
  | _=>false
 | _=>false
def lpb: bI->bI
 | .mask _ _ _ c=>match c with
  | .loop _ _ b=>b
  | _=>.skip
 | .told _ _ _ b=>b
 | _=>.skip
def cs{c c':bI}(x:LC P T N fl c)(h:c=c':=by kernel_rfl): LC P T N fl c':=⟨x.s,h▸x.ok⟩
noncomputable def cB{γ δ:Type->Type}(h:γ=δ)(B:∀R,γ R)(R:Type): δ R:=h▸B R
class ZT where
 gr:Gr
def dz[ZT](n:Nat): Tr:=aIe ZT.gr n
class GlC(P:Program)(T:List bK) where
 g:Glb P T
def GO(T:List bK)(vi:Nat): bK:=match getF T vi with
 | some F=>F
 | none=>⟨0,0,[],.stop⟩
def Ym{Q V X:Type}(B:Nat->Q->(V->Option X)->((X->Option X)×Unit)->V->Option X)(n:Nat)(p:Q)(q:V): Option X:=N1 (λk q=>B n p k (λt=>some t,()) q) n q
def yJ{Q V X Y:Type}(B:Nat->Q->(V->Option (X⊕Y))->((X->Option (X⊕Y))×(Y->Option (X⊕Y))×Unit)->V->Option (X⊕Y))(n:Nat)(p:Q)(q:V): Option<|X⊕Y:=N1 (λk q=>B n p k (λt=>some<|.inl t,λt=>some<|.inr t,()) q) n q
def lp3{Q V X Y Z:Type}(B:Nat->Q->(V->Option (X⊕Y⊕Z))->((X->Option (X⊕Y⊕Z))×(Y->Option (X⊕Y⊕Z))×(Z->Option (X⊕Y⊕Z))×Unit)->V->Option (X⊕Y⊕Z))(n:Nat)(p:Q)(q:V): Option<|X⊕Y⊕Z:=N1 (λk q=>B n p k (λt=>some<|.inl t,λt=>some<|.inr<|.inl t,λt=>some<|.inr<|.inr t,()) q) n q
def nE{Q X:Type}(B:Nat->Q->((X->Option X)×Unit)->Unit->Option X)(n:Nat)(p:Q): Option X:=B n p (λt=>some t,()) ()
def pc2{Q X Y:Type}(B:Nat->Q->((X->Option (X⊕Y))×(Y->Option (X⊕Y))×Unit)->Unit->Option (X⊕Y))(n:Nat)(p:Q): Option<|X⊕Y:=B n p (λt=>some<|.inl t,λt=>some<|.inr t,()) ()
def Dq{Q X:Type}(B:Nat->Q->((X->Option X)×Unit)->Unit->Option X)(n:Nat)(p:Q): Option X:=bnd (prd n) λn=>nE B n p
def KA{Q X Y:Type}(B:Nat->Q->((X->Option (X⊕Y))×(Y->Option (X⊕Y))×Unit)->Unit->Option (X⊕Y))(n:Nat)(p:Q): Option<|X⊕Y:=bnd (prd n) λn=>pc2 B n p
abbrev ln{α:Type}(l:List α): Int:=((l.length:Nat):Int)
abbrev wr(x:Int): Int:=IntKind.i64.wrap x
abbrev cd{α:Type}(p:Prop)[Decidable p](x y:Option α): Option α:=cnd (decide p) x y
def Cur: List Sh->Type->Type
 | [],R=>R
 | a::r,R=>a.den->Cur r R
def unc{R:Type}: (l:List Sh)->Cur l R->fJ l->R
 | [],f,_=>f
 | _::r,f,p=>unc r (f<|fJ.hd p)<|fJ.tl p
noncomputable section
variable [ZT][GlC P T]
def dE{c:bI}(z:Nat)(C:List<|ZM P T)(ls:List<|(j:Nat)×List (LC P T N fl<|lpA (lpb c) j))(il:List<|IC P T){γ:Type->Type}(B:∀R,γ R)(hc:c=.mask (lpx c) (lpr c) (lpt c) (.loop (some<|lpl c) (lpu c)<|lpb c):=by kernel_rfl)(hB:γ=BL (dz z):=by kernel_rfl)(h:∀n φ p q k e',Xi ((⟨C,zkd<|dz z,ls,zun<|dz z,il⟩:En P T N fl<|lpb c).xe GlC.g) n (lpb c) 0 ((Hl<|dz z).mkG (Hl<|dz z).os.length φ p q) (aBV (Hl<|dz z) (tL<|dz z) (lpl c) (lpu c) (lpx c) (lpr c) (lpt c) (Hl<|dz z).os.length k e')=cB hB B (oM<|tL<|dz z) n p (k ((Hl<|dz z).fo.map φ) p) (Um ((Hl<|dz z).fo.map φ) p e') q:=by intros;kernel_rfl)(hf:J2 (Hl<|dz z).fo (tL<|dz z)=true:=by kernel_rfl)(hm:∀p q,hmA ((Hl<|dz z).mk' p q).hp (zkl<|dz z) p (tL<|dz z)=hmB ((Hl<|dz z).mk' p q).hp (zkl<|dz z) p (tL<|dz z):=by intros;kernel_rfl)(hk:kpL c (zkt<|dz z)=true:=by kernel_rfl): LC P T N fl c:=
 mkL GlC.g hc ⟨C,zkd<|dz z,ls,zun<|dz z,il⟩ (Hl<|dz z) (zkl<|dz z) (zkt<|dz z) (tL<|dz z) (cB hB B<|oM<|tL<|dz z) h (λp q=>HMz hf<|hm p q) hk
def dD{c:bI}(z:Nat)(C:List<|ZM P T)(ls:List<|(j:Nat)×List (LC P T N fl<|lpA (lpb c) j))(il:List<|IC P T){γ:Type->Type}(B:∀R,γ R)(hc:c=.told (lpl c) (lpx c) (lpr c) (lpb c):=by kernel_rfl)(hB:γ=BP (dz z):=by kernel_rfl)(h:∀n φ p q e',Xi ((⟨C,zkd<|dz z,ls,zun<|dz z,il⟩:En P T N fl<|lpb c).xe GlC.g) n (lpb c) 0 ((Hl<|dz z).mkG (Hl<|dz z).os.length φ p q) (aFq (Hl<|dz z).os.length (tL<|dz z) (lpx c) (lpr c) e')=cB hB B (oM<|tL<|dz z) n p (Um ((Hl<|dz z).fo.map φ) p e') q:=by intros;kernel_rfl)(hf:J2 (Hl<|dz z).fo (tL<|dz z)=true:=by kernel_rfl)(hm:∀p q,hmA ((Hl<|dz z).mk' p q).hp (zkl<|dz z) p (tL<|dz z)=hmB ((Hl<|dz z).mk' p q).hp (zkl<|dz z) p (tL<|dz z):=by intros;kernel_rfl)(hk:kpL c (zkt<|dz z)=true:=by kernel_rfl): LC P T N fl c:=
 mkP GlC.g hc ⟨C,zkd<|dz z,ls,zun<|dz z,il⟩ (Hl<|dz z) (zkl<|dz z) (zkt<|dz z) (tL<|dz z) (cB hB B<|oM<|tL<|dz z) h (λp q=>HMz hf<|hm p q) hk
def dU(vi fl na z:Nat)(C:List<|ZM P T)(ls:List<|(j:Nat)×List (LC P T (GO T vi).nt fl<|lpA (GO T vi).body j))(il:List<|IC P T){γ:Type->Type}(B:∀R,γ R)(hF:getF T vi=some (GO T vi):=by kernel_rfl)(hk:Nat.ble na (GO T vi).nt=true:=by kernel_rfl)(hB:γ=BP (dz z):=by kernel_rfl)(h:∀n φ p q e',exI ((⟨C,zkd<|dz z,ls,zun<|dz z,il⟩:En P T (GO T vi).nt fl (GO T vi).body).xe GlC.g) n (GO T vi) ((Hl<|dz z).mkG (Hl<|dz z).os.length φ p q) (λS=>uT (Hl<|dz z).os.length .ret S (tL<|dz z) e')=cB hB B (oM<|tL<|dz z) n p (Um ((Hl<|dz z).fo.map φ) p e') q:=by intros;kernel_rfl)(hf:J2 (Hl<|dz z).fo (tL<|dz z)=true:=by kernel_rfl)(hm:∀p q,hmA ((Hl<|dz z).mk' p q).hp (zkl<|dz z) p (tL<|dz z)=hmB ((Hl<|dz z).mk' p q).hp (zkl<|dz z) p (tL<|dz z):=by intros;kernel_rfl): IC P T:=
 mkI GlC.g vi fl hF ⟨C,zkd<|dz z,ls,zun<|dz z,il⟩ (Hl<|dz z) (zkl<|dz z) (tL<|dz z) (cB hB B<|oM<|tL<|dz z) na hk h λp q=>HMz hf<|hm p q
def zka(z:Tr): List Sh:=rL rSh<|yK 2 z
def zkr(z:Tr): List Nat:=rL rN<|yK 3 z
def zkp(z:Tr): Bool:=rB<|yK 4 z
def zCF(z:Tr): Type:=Nat->Cur (zka z) (Option<|fJ<|(zkr z).map .v)
def cF{γ δ:Type}(h:γ=δ)(f:γ): δ:=h▸f
def cK(vi z:Nat)(C:List<|ZM P T)(ls:List<|(j:Nat)×List (LC P T (GO T vi).nt 0<|lpA (GO T vi).body j))(il:List<|IC P T){γ:Type}(f:γ)(hF:getF T vi=some (GO T vi):=by kernel_rfl)(hB:γ=zCF (dz z):=by kernel_rfl)(hk:Nat.ble (zka<|dz z).length (GO T vi).nt=true:=by kernel_rfl)(h0:∀p,unc (zka<|dz z) (cF hB f 0) p=none:=by intros;kernel_rfl)(h:∀n p,unc (zka<|dz z) (cF hB f<|n+1) p=exF ((⟨C,rL U3<|yK 0<|dz z,ls,rL U3<|yK 1<|dz z,il⟩:En P T (GO T vi).nt 0 (GO T vi).body).xe GlC.g) n (GO T vi) ⟨zka<|dz z,zkr<|dz z,zkp<|dz z,λn p=>unc (zka<|dz z) (cF hB f n) p⟩ p:=by intros;kernel_rfl)(hkp:kpB (zkp<|dz z) (zkr<|dz z)=true:=by kernel_rfl): ZM P T:=
 mkC GlC.g vi hF (zka<|dz z) (zkr<|dz z) (zkp<|dz z) ⟨C,rL U3<|yK 0<|dz z,ls,rL U3<|yK 1<|dz z,il⟩ (λn p=>unc (zka<|dz z) (cF hB f n) p) hk h0 h hkp
end
end
end
def Gn(_:Nat)(args:List AV)(H:aM): Option (AV×aM):=match args with
 | []=>none
 | x::r=>match x with
  | .lit v=>match v with
   | .string s=>match r with
    | []=>none
    | y::q=>match y with
     | .lit u=>match u with
      | .string t=>match q with
       | []=>match Nat.blt s.size 4294967281 with
        | true=>some (.lit (.bool (Lib.contains s.data.toList t.data.toList)),H)
        | false=>none
       | _::_=>none
      | _=>none
     | _=>none
   | _=>none
  | _=>none
def KP(n:Nat)(s t:ByteArray): Option Bool:=match n with
 | 0=>none
 | _+1=>match Nat.blt s.size 4294967281 with
  | true=>some (Lib.contains s.data.toList t.data.toList)
  | false=>none
def clF{α:Type}(n:Nat)(l:List α): Option (List α):=match n with
 | 0=>none
 | _+1=>app [] l
section
open Go.Proofs Go.RowKit Go.Shelf Go.Sort
def cI(z:Int): List AV:=[.lit<|.int .i64 z]
def YW: List (List AV)->Option (List Int)
 | []=>some []
 | e::r=>match e with
  | [.lit<|.int .i64 a]=>match YW r with
   | some l=>some (a::l)
   | none=>none
  | _=>none
theorem UL: ∀(es:List<|List AV) (l:List Int),YW es=some l->es=l.map cI
 | [],l,h=>by simp only[YW,Option.some.injEq] at h;subst h;rfl
 | e::r,l,h=>by
  unfold YW at h;split at h
  .split at h
   .rename_i a b;cases h;rw[UL r a b];rfl
   .cases h
  .cases h
theorem UM: ∀l:List Int,YW (l.map cI)=some l
 | []=>rfl
 | x::r=>by simp only[List.map_cons,cI,YW];rw[UM r]
def I5(x:Int): List Int->List Int
 | []=>[x]
 | y::r=>match decide (x<=y) with
  | true=>x::y::r
  | false=>y::I5 x r
def yT: List Int->List Int
 | []=>[]
 | x::r=>I5 x<|yT r
theorem TF(a:Int)(e:List Int): ∀d:List Int,(∀b∈d,decide (a<=b)=false)->I5 a (d++e)=d++I5 a e
 | [],_=>rfl
 | b::r,h=>by
  simp only[List.cons_append,I5,h b<|List.mem_cons_self ..];rw[TF a e r λc f=>h c<|List.mem_cons_of_mem _ f]
theorem Zl: ∀l:List Int,(l.mergeSort λx y=>decide<|x<=y)=yT l
 | []=>List.mergeSort_nil
 | a::l=>by
  have d:∀a b c:Int,decide (a<=b)=true->decide (b<=c)=true->decide (a<=c)=true:=by intro a b c i h;simp only[decide_eq_true_eq] at *;omega
  have f:∀a b:Int,(decide (a<=b)||decide (b<=a))=true:=by intro a b;simp only[Bool.or_eq_true,decide_eq_true_eq];omega
  let⟨j,e,i,h,k⟩:=List.mergeSort_cons (le:=λx y:Int=>decide<|x<=y) d f a l;have g:=List.pairwise_mergeSort (le:=λx y:Int=>decide<|x<=y) d f (a::l);rw[i] at g |-;have n:=Zl l;simp only[yT];rw[<-n,h,TF a e j λb m=>by simpa using k b m];cases e with
  | nil=>rfl
  | cons b r=>
   have:decide (a<=b)=true:=(List.pairwise_cons.1 (List.pairwise_append.1 g).2.1).1 b<|List.mem_cons_self ..;simp only[I5,this]
theorem Ns(l:List Int): (yT l).length=l.length:=by rw[<-Zl];exact List.length_mergeSort l
theorem D9(l:List Int): (yT l).Perm l:=by rw[<-Zl];exact List.mergeSort_perm l _
def Ck(fl:Nat)(args:List AV)(H:aM): Option<|AV×aM:=match args with
 | []=>none
 | x::r=>match r with
  | _::_=>none
  | []=>match qU x with
   | true=>some (.tup [],H)
   | false=>match x with
    | .ms id tot off len=>match Nat.ble fl id with
     | false=>none
     | true=>match H[id]? with
      | none=>none
      | some o=>match o with
       | .blk s es=>match (Nat.beq s 1&&Nat.beq off 0&&Nat.beq len tot&&Nat.beq es.length tot&&Nat.ble tot 1000000) with
        | false=>none
        | true=>match YW es with
         | none=>none
         | some l=>some (.tup [],H.set id<|.blk 1<|(yT l).map cI)
       | _=>none
    | _=>none
theorem IR{fl:Nat}{a:List AV}{H H':aM}{r:AV}(h:Ck fl a H=some (r,H')):
 (∃x,a=[x]/\qU x=true/\r=.tup []/\H'=H) \/
 ∃id l,a=[.ms id l.length 0 l.length]/\l≠[]/\fl<=id/\H[id]?=some (.blk 1<|l.map cI)/\l.length<=1000000/\r=.tup []/\H'=H.set id (.blk 1<|(yT l).map cI):=by
 unfold Ck at h;repeat' split at h;all_goals first
  | (cases h;done)
  | skip
 .rename_i he;cases h;exact .inl ⟨_,rfl,he,rfl,rfl⟩
 .rename_i e _ id tot off len _ c _ _ s es b _ f _ l o;cases h;simp only[Bool.and_eq_true] at f;let⟨⟨⟨⟨i,k⟩,p⟩,j⟩,n⟩:=f;have g:=Nat.eq_of_beq_eq_true i;have e2:=Nat.eq_of_beq_eq_true k;have t:=Nat.eq_of_beq_eq_true p;have d:=Nat.eq_of_beq_eq_true j;have u:=Nat.le_of_ble_eq_true n;have m:=UL _ _ o;subst g e2 t m;rw[List.length_map] at d;subst d;refine .inr ⟨_,_,rfl,?_,Nat.le_of_ble_eq_true c,b,u,rfl,rfl⟩;intro q;subst q;exact absurd ‹qU _=false› (by simp[qU])
def GA(P:Program)(f:Nat): Prop:=∀(blk off cap:Nat) (zs:List Int) (w:World),Holds (Value.int .i64) w blk off zs.toArray->blk<w.heap.size->zs.length<4611686018427387904->
 Calls P f #[.slice (some ⟨blk,off,none⟩) zs.length cap] w λe w'=>
  e=.returned (.tuple #[])/\∃n os,w'=grow (putRow (Value.int .i64) (Sort.ahead w n) blk off (zs.mergeSort λx y=>decide<|x<=y).toArray) os
def Xt(P:Program)(f:Nat): Prop:=∀(p:Option Addr) (cap:Nat) (w:World),Calls P f #[.slice p 0 cap] w λe w'=>e=.returned (.tuple #[])/\w'=w
section
variable {P:Program}{T:List bK}
theorem Q9[aB]{f:Nat}(hL:GA P f)(hN:Xt P f){fl:Nat}{G:List AV}{r:AV}{H':aM}{c:bV}{vs:Array Value}(c2:Ck fl G c.H=some (r,H'))(W:bJ (aG T) c)(g:jQ (aG T) c G vs):
 Calls P f vs c.w λe w'=>∃v c',e=.returned v/\c'.w=w'/\c'.H=H'/\c'.X=c.X/\bG fl c c'/\bJ (aG T) c'/\RV (aG T) c' r v:=by
 rcases IR c2 with⟨x,rfl,he,rfl,rfl⟩ | ⟨id,l,rfl,d1,d3,B,e1,rfl,rfl⟩
 .let⟨u0,k0,r0⟩:=g.2 0 _ rfl;obtain⟨p,cap,rfl⟩:=UH he r0;have R:vs=#[.slice p 0 cap]:=by
   apply Array.ext
   .exact g.1
   .intro i L N;have J:i<1:=by simpa using N
    match i,J with
    | 0,_=>exact Option.some.inj<|(Array.getElem?_eq_getElem L).symm.trans<|by simpa using k0
  subst R;refine (hN p cap c.w).mono λe w' ⟨he,U⟩=>?_;subst U;exact⟨_,c,he,rfl,rfl,rfl,bG.refl fl c,W,.tup [] #[] (λ_=>aW) rfl (λi x E=>by simp at E) λi x E=>by simp at E⟩
 let⟨u0,k0,r0⟩:=g.2 0 _ rfl;obtain⟨a,cap,s',n,rfl,g1,g2,g3,g4⟩:=r0.ms_inv;have c3:s'=1/\n=l.length:=by
  simp only[shp,B] at g1;simpa [eq_comm] using g1
 obtain⟨rfl,rfl⟩:=c3;have e2:0<l.length:=List.length_pos_iff.2 d1;let⟨f2,d2⟩:=g4 rfl;rcases d2 with⟨_,h0,_⟩ | ⟨b,cs,ty,a',hb,s,e3,rfl,b2⟩
 .omega
 have b1:cap≠0:=by omega
 obtain rfl:=b2 b1;have R:vs=#[.slice (some ⟨b,0,none⟩) l.length cap]:=by
  apply Array.ext
  .exact g.1
  .intro i L N;have J:i<1:=by simpa using N
   match i,J with
   | 0,_=>exact Option.some.inj<|(Array.getElem?_eq_getElem L).symm.trans<|by simpa using k0
 subst R;let⟨f3,f1,a2,Z,M⟩:=W.blk id 1 _ b B hb;rw[s] at a2;cases a2;have Y:b<c.w.heap.size:=W.lt hb;have O:l.length<=cs.size:=by simpa using Z
 have a3:∀(i:Nat) (z:Int),l[i]?=some z->cs[i]?=some (Value.int .i64 z):=by
  intro i z S;let⟨v,h1,_,h3⟩:=M i 0 (AV.lit<|Value.int .i64 z) (by simp[bL,S,cI]);rw[h3.lit_inv] at h1;simpa using h1
 have hH:Holds (Value.int .i64) c.w b 0 l.toArray:=by
  intro t ht;have b3:t<l.length:=by simpa using ht
  refine⟨?_,by simp[World.frozen?,s]⟩;have:=a3 t l[t]<|List.getElem?_eq_getElem b3;simp only[World.cell?,s,Nat.zero_add];simpa [b3] using this
 refine (hL b 0 cap l c.w hH Y<|by omega).mono λe w' ⟨he,q,os,U⟩=>?_;rw[Zl l] at U;generalize hd:yT l=d at U;have K:d.length=l.length:=by rw[<-hd];exact Ns l
 have a1:(putRow (Value.int .i64) (Sort.ahead c.w q) b 0 d.toArray).heap[b]?=some (.cells (putCells (Value.int .i64) 0 d.toArray cs) ty (0,0)):=by
  unfold putRow mapBlock;simp[Array.getElem?_modify,Sort.ahead,s,onCells]
 have o:∀k,k≠b->(putRow (Value.int .i64) (Sort.ahead c.w q) b 0 d.toArray).heap[k]?=c.w.heap[k]?:=by
  intro k hk;unfold putRow mapBlock;rw[Array.getElem?_modify,if_neg<|Ne.symm hk];rfl
 have A:(putRow (Value.int .i64) (Sort.ahead c.w q) b 0 d.toArray).heap.size=c.w.heap.size:=by
  unfold putRow mapBlock;simp[Sort.ahead]
 have u:(putCells (Value.int .i64) 0 d.toArray cs).size=cs.size:=by simp[putCells]
 have C:∀i j x,bL (d.map cI) i j=some x->∃v,(putCells (Value.int .i64) 0 d.toArray cs)[i*1+j]?=some v/\aY v=true/\RV (aG T) c x v:=by
  intro i j x E;let⟨e,V,y⟩:=dI E;rw[List.getElem?_map,Option.map_eq_some_iff] at V;obtain⟨z,S,rfl⟩:=V;have hi:i<d.length:=by
   rcases Nat.lt_or_ge i d.length with h | h
   .exact h
   .rw[List.getElem?_eq_none h] at S;cases S
  match j,y with
  | 0,y=>
   cases y;refine⟨Value.int .i64 z,?_,rfl,RV.lit _⟩;unfold putCells;rw[Array.getElem?_mapIdx,Nat.mul_one,Nat.add_zero,Array.getElem?_eq_getElem<|by omega];simp only[Option.map_some,Nat.zero_le,true_and,Nat.zero_add,Nat.sub_zero];rw[if_pos<|by simpa using hi];have:d.toArray[i]! =z:=by
    rw[List.getElem?_eq_getElem hi] at S;simp[hi];exact Option.some.inj S
   rw[this]
  | j+1,y=>simp[cI] at y
 have D:∀e∈d.map cI,e.length=1:=by
  intro e he;obtain⟨z,_,rfl⟩:=List.mem_map.1 he;rfl
 have I:=qG (w':=putRow (Value.int .i64) (Sort.ahead c.w q) b 0 d.toArray) (es':=d.map cI) W d3 B hb s (by simp[K]) u a1 o A rfl rfl rfl<|Nat.le_add_right _ _;have m:=Az (w':=putRow (Value.int .i64) (Sort.ahead c.w q) b 0 d.toArray) (es':=d.map cI) W B hb s (by simp[K]) u a1 o A rfl rfl rfl D (by rw[u];simp[K];exact O) C<|Nat.le_add_right _ _;generalize Q:(⟨putRow (Value.int .i64) (Sort.ahead c.w q) b 0 d.toArray,c.X,c.β,c.H.set id<|.blk 1<|d.map cI⟩:bV)=c1 at I m;have F:=Q4 (c:=c1) (q:=0) (os:=os);refine⟨.tuple #[],nD c1 ⟨grow (Sort.ahead c1.w 0) os,(gV c1).X,λ_=>none,[]⟩,he,?_,?_,?_,I.trans<|tJ m F,Af m F,?_⟩
 .rw[U,<-Q];rfl
 .rw[<-Q];rfl
 .rw[<-Q];rfl
 .exact .tup [] #[] (λ_=>aW) rfl (λi x E=>by simp at E) λi x E=>by simp at E
end
theorem aBL{fl id:Nat}{l:List Int}{H:aM}(d:fl<=id)(a:H[id]?=some (.blk 1<|l.map cI))(b:l.length<=1000000):
 Ck fl [.ms id l.length 0 l.length] H=some (.tup [],H.set id<|.blk 1<|(yT l).map cI):=by
 cases f:l with
 | nil=>
  subst f;have e:qU (.ms id (List.length ([]:List Int)) 0<|List.length ([]:List Int))=true:=rfl;simp only[Ck,e,Option.some.injEq,Prod.mk.injEq,true_and];apply List.ext_getElem?;intro i;by_cases g:i=id
  .subst g;rw[a,List.getElem?_set_self (by
    rcases Nat.lt_or_ge i H.length with h | h
    .exact h
    .rw[List.getElem?_eq_none h] at a;cases a)]
   rw[show yT []=[] from rfl]
  .rw[List.getElem?_set_ne<|Ne.symm g]
 | cons x r=>
  rw[f] at a b;have j:Nat.ble fl id=true:=Nat.ble_eq_true_of_le d;have e2:Nat.beq (x::r).length (x::r).length=true:=Nat.beq_refl _;have k:Nat.beq ((x::r).map cI).length (x::r).length=true:=by rw[List.length_map];exact Nat.beq_refl _
  have n:Nat.ble (x::r).length 1000000=true:=Nat.ble_eq_true_of_le b;have e:qU (.ms id (x::r).length 0 (x::r).length)=false:=rfl;have o:Nat.beq 1 1=true:=rfl;have m:Nat.beq 0 0=true:=rfl;simp only[Ck,j,e2,k,n,e,o,m,a,UM,Bool.and_self]
end
section
open iG (den cds ag)
theorem ZK[aB]{K:Type}[DecidableEq K]{P:Program}{kt:TypeId}{b:K->Value}(he:∀k x,aK P (Op.equal kt (b k)<|b x)=some (decide<|k=x))(k:K):
 ∀(d:List K) (i:Nat),aK P (Instr.findAsking kt (b k) (d.map λx=>{ key:=b x,val:=.bool false,born:=0 }) i)=some ((d.findIdx? λx=>decide<|x=k).map λj=>(i+j,.bool false))
 | [],i=>rfl
 | x::r,i=>by
  have he:aK P (Op.equal kt (b k)<|b x)=some (decide<|x=k):=(he k x).trans<|congrArg some<|decide_eq_decide.2 ⟨λh=>h.symm,λh=>h.symm⟩;simp only[List.map_cons,Instr.findAsking,cA,he,Option.bind_some,List.findIdx?_cons];cases decide (x=k) with
  | true=>simp[cQ]
  | false=>
   simp only[Bool.false_eq_true,if_false,ZK ‹∀k x,_› k r<|i+1];cases r.findIdx? λx=>decide (x=k) with
   | none=>rfl
   | some j=>simp;omega
theorem aJU[aB]{K:Type}(g:DecidableEq K){P:Program}{kt:TypeId}{b:K->Value}{u:TypeDesc}(l:aK P (underlying kt)=some u)(i:∀k x r,Instr.findNow u (b k) ({ key:=b x,val:=.bool false,born:=0 }::r) 0=none)(he:∀k x,aK P (Op.equal kt (b k)<|b x)=some (decide<|k=x))(p:∀e k,aK P (Instr.checkKey e 10000 kt<|b k)=some ())(q:∀k,Instr.sameBits 10000 (b k) (b k)=true): GJ P kt b where
 find:=λk m=>by
  unfold jL;simp only[Instr.findKey,cA,l,Option.bind_some,List.map_map,Function.comp_def];cases m with
  | nil=>
   have:=ZK he k [] 0;simp only[List.map_nil] at this |-;cases h:Instr.findNow u (b k) [] 0 with
   | none=>simp only[this];rfl
   | some j=>cases u<;>first | (cases h;rfl) | (cases h)
  | cons x r=>
   simp only[List.map_cons,i];have:=ZK he k (x::r) 0;simp only[List.map_cons] at this;simp only[this];cases (x::r).findIdx? λx=>decide (x=k) with
   | none=>rfl
   | some j=>simp
 chk:=p;same:=q
section
variable [cX][aB]{P:Program}{T:List bK}
theorem aH6{vi k:Nat}{F:List (den k)->List (den k)}(u:aB.prim vi=some (Kw Ck))(f:den k->Int)(n:∀x,iH k x=[.lit<|.int .i64<|f x])(t:(cds k).length=1)(o:∀l,(F l).map f=yT (l.map f)): POK T vi<|.ord k F:=by
 refine⟨_,u,λfl H id l es j q s r=>?_⟩;have m:∀{l:List<|den k} {es:List<|List AV},Ql k l es->es=(l.map f).map cI:=by
  intro l;induction l with
  | nil=>intro es h;cases es with
   | nil=>rfl
   | cons=>exact h.elim
  | cons x l i=>
   intro es h;cases es with
   | nil=>exact h.elim
   | cons e es=>
    rw[i h.2];have g:Qr (iH k x) e:=h.1;rw[n] at g;match e,g with
    | [a],g=>rw[(Qh.p (H:=[]) _ _ g.1).inL];rfl
 have d:∀l:List<|den k,Ql k l<|(l.map f).map cI:=by
  intro l;induction l with
  | nil=>trivial
  | cons x l i=>exact⟨by show Qr (iH k x)<|cI<|f x;rw[n];exact⟨.lit _,trivial⟩,i⟩
 have c:(F l).length=l.length:=by
  have:=congrArg List.length<|o l;rw[List.length_map,Ns,List.length_map] at this;exact this
 have e:=m s;subst e;refine⟨((F l).map f).map cI,?_,d _,c⟩;rw[t] at q |-;have:=aBL (fl:=fl) (id:=id) (l:=l.map f) (H:=H) j q (by simpa using r);rw[List.length_map] at this;rw[this,o]
theorem aBG(l:List Int): (yT l).map (λx=>x)=yT (l.map λx=>x):=by simp
def aIj(vi ks kb:Nat)(hp:aB.prim vi=some (Kw Gn))(F:Nat->fJ [.v ks,.v ks]->Option (fJ<|[kb].map .v))(h:∀n p r,F n p=some r->∃m s t b,n=m+1/\Dh [.v ks,.v ks] p=[.lit<|.string s,.lit<|.string t]/\KP n s t=some b/\yA 2 [] ([kb].map .v) [.lit<|.bool b]=some r): ZM P T:=
 ⟨vi,⟨[.v ks,.v ks],[kb],false,F⟩,.of0 (by
  intro n p r hr aw q
  obtain⟨m,s,t,b,rfl,h1,h2,h3⟩:=h n p r hr
  have q:Qc [] (Dh [.v ks,.v ks] p) aw:=q
  rw[h1] at q
  obtain⟨a,a',rfl⟩:∃a a',aw=[a,a']:=by
   match aw,q with
   | [a,a'],_=>exact⟨a,a',rfl⟩
  have e1:=q.1.inL
  have e2:=q.2.1.inL
  subst e1;subst e2
  have e:dK P T (m+1) 0 vi [.lit<|.string s,.lit<|.string t] []=some (.lit<|.bool b,[]):=by
   simp only[dK,hp,Gn]
   simp only[KP] at h2
   split at h2
   .rename_i hb;cases h2;simp only[hb]
   .cases h2
  exact⟨[.lit<|.bool b],[.lit<|.bool b],[],[],e,trivial,⟨Qh.l _,trivial⟩,h3,λh=>by cases h⟩) rfl⟩
def aIn(vi k ks:Nat)(hc:aEA T vi k)(F:Nat->fJ [.w ks]->Option (fJ<|[ks].map .v))(L:fJ [.w ks]->List (den k))(h:∀n p r,F n p=some r->∃m,n=m+1/\Dh [.w ks] p=[.vw k<|L p]/\(L p).length<=1000000/\yA 2 [.lst k<|L p] ([ks].map .v) [.ms 0 none]=some r/\(L p=[]->yA 2 [] ([ks].map .v) [.emp false]=some r)): ZM P T:=
 ⟨vi,⟨[.w ks],[ks],false,F⟩,.of0 (by
  intro n p r hr aw q
  obtain⟨m,rfl,h1,h2,h3,h4⟩:=h n p r hr
  have q:Qc [] (Dh [.w ks] p) aw:=q
  rw[h1] at q
  obtain⟨a,rfl⟩:∃a,aw=[a]:=by
   match aw,q with
   | [a],_=>exact⟨a,rfl⟩
  obtain⟨fid,bytes,z,hT,h0,hb⟩:=hc
  obtain⟨e1,e2,e3⟩:=aAJ (P:=P) (n:=m) (G:=[]) hT h0
  obtain⟨es,hk,hq⟩:=(q.1.pu trivial).inV
  have em:L p=[]->es=[]:=λe=>List.length_eq_zero_iff.1<|by have:=hq.len;rw[e] at this;exact this
  cases es with
  | nil=>
   have e:L p=[]:=List.length_eq_zero_iff.1 hq.len.symm
   have fin:∀v,dK P T (m+1) 0 vi [a] []=some (v,[])->(v=.lit aZ\/v=.sl false [])->∃vs aw' A H,dK P T (m+1) 0 vi [a] []=some (eH aw',A)/\Qs H A/\Qc H vs aw'/\yA 2 H ([ks].map .v) vs=some r/\(false=true->Ww H vs=true):=by
    intro v hv hd
    refine⟨[.emp false],[v],[],[],hv,trivial,⟨.p _ _<|.emp _ _ ?_,trivial⟩,h4 e,λh=>by cases h⟩
    rcases hd with h | h
    .exact .inl h
    .exact .inr<|.inr ⟨rfl,h⟩
   rcases hk with⟨rfl,_⟩ | hk | hk
   .exact fin _ e1<|.inl rfl
   .exact fin _ (e2 a<|.inl hk)<|.inr rfl
   .exact fin _ (e2 a<|.inr hk)<|.inr rfl
  | cons e es=>
   have hk:(∃f,a=.sl f (e::es))\/a=.vw (e::es):=by
    rcases hk with⟨_,hk⟩ | hk
    .cases hk
    .exact hk
   have g:=e3 a e es hk (hq.all rfl)<|gX (by rw[hq.len];exact h2) hb
   refine⟨[.ms 0 none],[.ms 0 (e::es).length 0 (e::es).length],_,[.lst k<|L p],g,⟨⟨_,rfl,hq⟩,trivial⟩,⟨?_,trivial⟩,h3,λh=>by cases h⟩
   rw[hq.len]
   exact .ms 0 k (L p) rfl) rfl⟩
theorem aIo{α:Type}{n:Nat}{l a:List α}(h:clF n l=some a): ∃m,n=m+1/\a=l/\l.length<=1000000:=by
 cases n with
 | zero=>cases h
 | succ m=>
  let⟨c,b⟩:=Ag h;exact⟨m,rfl,by simpa using c,by simpa using b⟩
theorem aGl{n:Nat}{s t:ByteArray}{b:Bool}(h:KP n s t=some b): ∃m,n=m+1:=by
 cases n with
 | zero=>cases h
 | succ m=>exact⟨m,rfl⟩
end
end
section
variable {P:Program}{T:List bK}{cf:CF}{fl lf:Nat}
def Zp: List aL:=[⟨some 5,.mov (.tmp 7),none⟩,⟨some 8,.extract (.tmp 5) 0,none⟩,⟨some 9,.extract (.tmp 5) 1,none⟩,⟨some 3,.alloc [.int .i64 0],none⟩,⟨none,.store 1 (.tmp 3) (.tmp 8),none⟩,⟨some 4,.mov (.tmp 9),none⟩]
def aEZ: bI:=.seq (.region false [] [⟨some 10,.mov (.tmp 4),none⟩]) (.cond (.tmp 10) (.seq (.region false [] [⟨some 11,.fieldAddr 0 (.tmp 3),none⟩,⟨some 12,.load false 1 (.tmp 11),none⟩,⟨some 2,.mov (.tmp 12),none⟩]) .ret) .skip)
def FJ[aB](P:Program)(T:List bK)(f:Nat): Bool:=match P.funcs[f]? with
 | some fn=>match fn.body with
  | some (.seq (.region _ a0 false) (.seq (.seq (.region _ a1 false) W) _))=>match a1.toList with
   | m1::ta::rest=>dF P T a0 [⟨some 2,.mov (.lit (.int .i64 0)),none⟩] a0.toList&&(dF P T a1 [⟨some 6,.mov (.tmp 0),none⟩] [m1]&&(dF P T a1 Zp rest&&(eW P T aEZ W&&(Nat.beq fn.ntmps 13&&(qA P [.tmp 2] fn.results.toList&&(Ou P aB.ft&&(ta.guard.isNone&&(ta.dst==some 7&&match ta.op with
    | .typeAssert (.tmp 6) _ t true=>Nat.beq t aB.ft
    | _=>false))))))))
   | _=>false
  | _=>false
 | none=>false
theorem aEY[aB](hm:P.follows .mixedOrders=true)(hfo:gW cf)(hcf:lP P T cf)(hfn:fW P T){f:Nat}(h:FJ P T f=true){c:bV}(hs:bJ (aG T) c)(n:Int): Calls P f #[iV n] c.w λe w'=>e=.returned (.int .i64 n)/\∃c',c'.w=w'/\c'.H=c.H/\c'.X=c.X/\bG fl c c'/\bJ (aG T) c':=by
 unfold FJ at h
 split at h
 case h_2=>cases h
 rename_i fn hf
 split at h
 case h_2=>cases h
 rename_i i0 a0 i1 a1 W Z hbody
 split at h
 case h_2=>cases h
 rename_i m1 ta rest ha1
 simp only[Bool.and_eq_true,Option.isNone_iff_eq_none,beq_iff_eq] at h
 let⟨h1,h2,h3,h4,h5,h6,h7,h8,h9,h10⟩:=h
 have h5:=Nat.eq_of_beq_eq_true h5
 split at h10
 case h_2=>cases h10
 rename_i xT at_ hop
 have h10:=Nat.eq_of_beq_eq_true h10
 subst h10
 have hb:=Ad hs
 refine calls_of_wp hf hbody ?_
 rw[h5]
 have hargs:jQ (aG T) (gV c) [.lit (iV n)] #[iV n]:=⟨rfl,λi x e=>by
  cases i with
  | zero=>simp at e;subst e;exact⟨_,rfl,RV.lit _⟩
  | succ i=>simp at e⟩
 have htr:TR (aG T) (gV c) ([.lit (iV n)]++List.replicate 12 (.lit aW)) (#[iV n]++Array.replicate (13-1) undef):=Gi (n:=13) hargs
 show Code.wp P _ _ _ (gV c).w
 refine wp_seq (wp_region ?_)
 have hs0:a0.size=1:=by have:=(eV h1).1;simpa using this.symm
 rw[List.range_eq_range',hs0,<-List.append_nil (List.range' 0 _)]
 refine Bl (fl:=0) hcf hfn _ a0.toList 0 (gV c) _ _ _ h1 (λj o e=>by simpa using e) hb htr (Nat.zero_le _) (show bE P cf 0 _ ⟨_,[]⟩=some ⟨_,[]⟩ from rfl) ?_
 intro a2 c2 e1 e2 e3 e4 e5
 refine wp_seq (wp_seq (wp_region ?_))
 have hsz:a1.size=rest.length+2:=by rw[<-Array.length_toList,ha1];rfl
 have hgo:∀j,a1[j]?=(m1::ta::rest)[j]?:=λj=>by rw[<-ha1,Array.getElem?_toList]
 have er:List.range a1.size=List.range' 0 1++(1::List.range' 2 rest.length):=by rw[List.range_eq_range',hsz];rfl
 rw[er]
 refine Bl (fl:=0) hcf hfn [⟨some 6,.mov (.tmp 0),none⟩] [m1] 0 c2 a2 _ _ h2 (λj o e=>?_) e3 e4 (Nat.zero_le _) (show bE P cf 0 _ ⟨_,c2.H⟩=some ⟨_,[]⟩ by rw[e1];rfl) ?_
 .cases j with
  | zero=>rw[hgo];simpa using e
  | succ j=>simp at e
 intro a3 c3 f1 f2 f3 f4 f5
 rw[wpOps_cons]
 unfold wpOp
 rw[hgo]
 simp only[List.getElem?_cons_succ,List.getElem?_cons_zero]
 rw[if_pos (by simp[Region.wanted,h8])];left
 have hev:a3.eval (.tmp 6)=iV n:=by
  let⟨v,y1,y2⟩:=f4.2 6 (.lit (iV n)) rfl
  rw[y2.lit_inv] at y1
  simp[Act.eval,y1]
 have hstr:∃fs,P.underlying aB.ft=some (.struct fs):=by
  unfold Ou at h7;split at h7
  .rename_i fs q;exact⟨fs,q⟩
  .cases h7
 let⟨fs,hfs⟩:=hstr
 have r1:(execOp a3.eval ta).run P c3.w=.ok (.value (.tuple #[.agg #[.int .i64 n],.bool true])) c3.w:=by
  simp[execOp,hop,Instr.typeAssert,hev,iV,run_underlying hfs]
 unfold Oper.wp;rw[r1,Oper.upon_value,h9,<-List.append_nil (List.range' 2 rest.length),show rest.length=Zp.length from ((eV h3).1).symm]
 have htr3:=TR.put (d:=some 7) f4 (show RV (aG T) c3 (.tup [.agg [.lit (.int .i64 n)],.lit (.bool true)]) (.tuple #[.agg #[.int .i64 n],.bool true]) from by
  refine .tup _ _ (λi=>if i=0 then .agg #[.int .i64 n] else .bool true) rfl ?_ ?_
  .intro i y h
   match i with
   | 0=>rfl
   | 1=>rfl
   | i+2=>simp at h
  .intro i y h
   match i with
   | 0=>
    simp at h;subst h
    refine .agg _ _ (λ_=>.int .i64 n) rfl ?_ ?_
    .intro i y h
     match i with
     | 0=>exact⟨rfl,rfl⟩
     | i+1=>simp at h
    .intro i y h
     match i with
     | 0=>simp at h;subst h;exact RV.lit _
     | i+1=>simp at h
   | 1=>simp at h;subst h;simpa using RV.lit _
   | i+2=>simp at h)
 refine Bl (fl:=0) hcf hfn Zp rest 2 c3 _ _ _ h3 (λj o e=>?_) f3 htr3 (Nat.zero_le _) (show bE P cf 0 Zp ⟨_,c3.H⟩=some ⟨_,[.blk 1 [[.lit (.int .i64 n)]]]⟩ by rw[f1];rfl) ?_
 .rw[hgo,show 2+j=j+1+1 by omega,List.getElem?_cons_succ,List.getElem?_cons_succ];exact e
 intro a4 c4 g1 g2 g3 g4 g5
 show W.wp P _ a4 c4.w
 refine dQ (lf:=0) (fl:=0) hm hfo hcf hfn aEZ W h4 c4 a4 _ .ret _ _ g3 g4 (Nat.zero_le _) (show cH P cf 0 0 aEZ ⟨_,c4.H⟩=some (.ret,⟨_,[.blk 1 [[.lit (.int .i64 n)]]]⟩) by rw[g1];rfl) ?_
 intro a5 c5 k1 k2 k3 k4 k5
 simp only[vD,Exit.then,bodyPost]
 let⟨v,N,G⟩:=vR (fn:=fn) (rs:=[.tmp 2]) (vs:=[.lit (.int .i64 n)]) k3 k1 k4 h6 rfl
 have hv:v=.int .i64 n:=G.lit_inv
 subst hv
 have hst:bG 0 (gV c) c5:=e2.trans (f2.trans (g2.trans k2))
 exact⟨by rw[k5,g5];simp[gN,f5,e5],_,N,rfl,nD c c5,rfl,rfl,rfl,tJ hs hst,Af hs hst⟩
end
section
variable {P:Program}{T:List bK}{cf:CF}{fl lf:Nat}
theorem evl[aB]{FT:Nat->Option Nat}{c:bV}{tm:List AV}{a:Act}{t:Nat}{v:Value}(h:TR FT c tm a.tmps)(e:tm[t]?=some (.lit v)): a.eval (.tmp t)=v:=by
 let⟨u,y1,y2⟩:=h.2 t _ e
 rw[y2.lit_inv] at y1
 simp[Act.eval,y1]
theorem r7[aB]{ops:Array Oper}{d s:Nat}{o:Oper}(h:dO P T ops ⟨some d,.mov (.tmp s),none⟩ o=true): o.dst=some d/\o.guard=none/\∀(ρ:Operand->Value) (w:World),(execOp ρ o).run P w=.ok (.value (ρ (.tmp s))) w:=by
 simp only[dO,Bool.and_eq_true,beq_iff_eq] at h;let⟨⟨a,b⟩,e⟩:=h
 refine⟨a.symm,?_,?_⟩
 .cases g:o.guard with
  | none=>rfl
  | some q=>rw[g] at b;cases b
 intro ρ w
 simp only[bZ] at e;split at e
 .rename_i y q;cases y<;>simp only[aN,Bool.false_eq_true,beq_iff_eq] at e;subst e;simp[execOp,q]
 .rename_i y q;cases y<;>simp only[aN,Bool.false_eq_true,beq_iff_eq] at e;subst e;simp[execOp,q]
 .cases e
def aAb(o:Op): Bool:=match o with
 | .call ⟨.builtin .recover,_,_⟩=>true
 | _=>false
def aAc(t:TypeId)(o:Op): Bool:=match o with
 | .binOp .neq t' (.tmp 4) (.const .nilIface) _=>Nat.beq t' t
 | _=>false
def FL[aB](P:Program)(T:List bK)(g vr fr n1:Nat)(z:List Value)(t:TypeId): Bool:=match P.funcs[g]? with
 | some fn=>match fn.body with
  | some (.seq (.region _ a0 false) (.seq (.region _ a1 false) (.cond (.tmp k) (.region _ a2 false) .skip)))=>match a0.toList,a1.toList,a2.toList with
   | [x1,x2],[y1,y2],[w1,w2,w3,w4,w5]=>Nat.beq k 5&&(dO P T a0 ⟨some 2,.mov (.tmp 3),none⟩ x2&&(dO P T a1 ⟨some 4,.mov (.tmp 2),none⟩ y1&&(dF P T a2 [⟨some 6,.build z [],none⟩,⟨some 7,.mov (.tmp 2),none⟩] [w1,w2]&&(dO P T a2 ⟨some 8,.call false vr [.tmp 7],none⟩ w3&&(dF P T a2 [⟨none,.store n1 (.tmp 0) (.tmp 6),none⟩,⟨none,.store 1 (.tmp 1) (.tmp 8),none⟩] [w4,w5]&&(aG T vr==some fr&&(Nat.beq fn.ntmps 9&&(fn.results.isEmpty&&(z.length==n1&&(x1.guard.isNone&&(x1.dst==some 3&&(y2.guard.isNone&&(y2.dst==some 5&&aAb x1.op&&aAc t y2.op)))))))))))))
   | _,_,_=>false
  | _=>false
 | none=>false
structure aGB[aB](P:Program)(T:List bK)(g vr fr n1:Nat)(z:List Value)(t:TypeId)(fn:Func)(i0 i1 i2:Nat)(x1 x2 y1 y2 w1 w2 w3 w4 w5:Oper): Prop where
 hf:P.funcs[g]?=some fn
 hb:fn.body=some (.seq (.region i0 #[x1,x2] false) (.seq (.region i1 #[y1,y2] false) (.cond (.tmp 5) (.region i2 #[w1,w2,w3,w4,w5] false) .skip)))
 kx2:dO P T #[x1,x2] ⟨some 2,.mov (.tmp 3),none⟩ x2=true
 ky1:dO P T #[y1,y2] ⟨some 4,.mov (.tmp 2),none⟩ y1=true
 kw12:dF P T #[w1,w2,w3,w4,w5] [⟨some 6,.build z [],none⟩,⟨some 7,.mov (.tmp 2),none⟩] [w1,w2]=true
 kw3:dO P T #[w1,w2,w3,w4,w5] ⟨some 8,.call false vr [.tmp 7],none⟩ w3=true
 kw45:dF P T #[w1,w2,w3,w4,w5] [⟨none,.store n1 (.tmp 0) (.tmp 6),none⟩,⟨none,.store 1 (.tmp 1) (.tmp 8),none⟩] [w4,w5]=true
 ft:aG T vr=some fr
 nt:fn.ntmps=9
 rs:fn.results=#[]
 zl:z.length=n1
 xg:x1.guard=none
 xd:x1.dst=some 3
 yg:y2.guard=none
 yd:y2.dst=some 5
 xo:∃as1 ts,x1.op=.call ⟨.builtin .recover,as1,ts⟩
 yo:∃u,y2.op=.binOp .neq t (.tmp 4) (.const .nilIface) u
theorem Xp[aB]{g vr fr n1:Nat}{z:List Value}{t:TypeId}(h:FL P T g vr fr n1 z t=true): ∃fn i0 i1 i2 x1 x2 y1 y2 w1 w2 w3 w4 w5,aGB P T g vr fr n1 z t fn i0 i1 i2 x1 x2 y1 y2 w1 w2 w3 w4 w5:=by
 unfold FL at h
 split at h
 case h_2=>cases h
 rename_i fn hf
 split at h
 case h_2=>cases h
 rename_i i0 a0 i1 a1 k i2 a2 hb
 split at h
 case h_2=>cases h
 rename_i x1 x2 y1 y2 w1 w2 w3 w4 w5 e0 e1 e2
 have e0:a0=#[x1,x2]:=by apply Array.ext';simpa using e0
 have e1:a1=#[y1,y2]:=by apply Array.ext';simpa using e1
 have e2:a2=#[w1,w2,w3,w4,w5]:=by apply Array.ext';simpa using e2
 subst e0 e1 e2
 simp only[Bool.and_eq_true,Option.isNone_iff_eq_none,beq_iff_eq] at h
 let⟨h1,h2,h3,h4,h5,h6,h7,h8,h9,h10,h11,h12,h13,⟨h14,h15⟩,h16⟩:=h
 have h1:=Nat.eq_of_beq_eq_true h1
 subst h1
 have xo:∃as1 ts,x1.op=.call ⟨.builtin .recover,as1,ts⟩:=by
  revert h15;generalize x1.op=o;intro h15;unfold aAb at h15;split at h15
  .exact⟨_,_,rfl⟩
  .cases h15
 have yo:∃u,y2.op=.binOp .neq t (.tmp 4) (.const .nilIface) u:=by
  revert h16;generalize y2.op=o;intro h16;unfold aAc at h16;split at h16
  .rename_i t' u
   have:=Nat.eq_of_beq_eq_true h16
   subst this
   exact⟨u,rfl⟩
  .cases h16
 exact⟨fn,i0,i1,i2,x1,x2,y1,y2,w1,w2,w3,w4,w5,{ hf:=hf,hb:=hb,kx2:=h2,ky1:=h3,kw12:=h4,kw3:=h5,kw45:=h6,ft:=h7,nt:=Nat.eq_of_beq_eq_true h8,rs:=by simpa using h9,zl:=h10,xg:=h11,xd:=h12,yg:=h13,yd:=h14,xo:=xo,yo:=yo }⟩
section
variable {g vr fr n1:Nat}{z:List Value}{t:TypeId}{fn:Func}{i0 i1 i2:Nat}{x1 x2 y1 y2 w1 w2 w3 w4 w5:Oper}
theorem US[aB](h:aGB P T g vr fr n1 z t fn i0 i1 i2 x1 x2 y1 y2 w1 w2 w3 w4 w5){c:bV}{p1 p2:AV}{u1 u2 v:Value}{b:Bool}(hp1:RV (aG T) c p1 u1)(hp2:RV (aG T) c p2 u2)(hN:aK P (binOp .neq t v .nilIface)=some (.bool b))(hv:v=.nilIface\/∃n,v=iV n){c₀:Frame}{cs cs':List Frame}{Q:Exit->Act->List Frame->World->Prop}
 (hrec:match recoverD (c₀::cs) with | some (u,k)=>u=v/\k=cs' | none=>v=.nilIface/\cs'=c₀::cs)
 (hQ:∀a:Act,a.defers=[]->TR (aG T) c ([p1,p2,.lit v,.lit v,.lit v,.lit (.bool b)]++List.replicate 3 (.lit aW)) a.tmps->(Code.cond (.tmp 5) (.region i2 #[w1,w2,w3,w4,w5] false) .skip).wp P (λe a' w'=>Q e a' cs' w') a c.w):
 (Code.seq (.region i0 #[x1,x2] false) (.seq (.region i1 #[y1,y2] false) (.cond (.tmp 5) (.region i2 #[w1,w2,w3,w4,w5] false) .skip))).wpS P Q { tmps:=#[u1,u2]++Array.replicate (fn.ntmps-2) undef,defers:=[] } (c₀::cs) c.w:=by
 rw[h.nt]
 have hargs:jQ (aG T) c [p1,p2] #[u1,u2]:=⟨rfl,λi x e=>by
  match i with
  | 0=>simp at e;subst e;exact⟨_,rfl,hp1⟩
  | 1=>simp at e;subst e;exact⟨_,rfl,hp2⟩
  | i+2=>simp at e⟩
 have T0:TR (aG T) c ([p1,p2]++List.replicate 7 (.lit aW)) (#[u1,u2]++Array.replicate (9-2) undef):=Gi (n:=9) hargs
 generalize ha0:({ tmps:=#[u1,u2]++Array.replicate (9-2) undef,defers:=[] }:Act)=a0
 have T0':TR (aG T) c ([p1,p2]++List.replicate 7 (.lit aW)) a0.tmps:=by rw[<-ha0];exact T0
 have d0:a0.defers=[]:=by rw[<-ha0]
 let⟨as1,ts,xo⟩:=h.xo
 let⟨u,yo⟩:=h.yo
 have T1:=TR.put (d:=some 3) T0' (RV.lit (c:=c) (FT:=aG T) v)
 let⟨xd2,xg2,xr2⟩:=r7 h.kx2
 let⟨yd1,yg1,yr1⟩:=r7 h.ky1
 refine wpS_seq (wpS_region ?_)
 show wpOpsS P #[x1,x2] _ [0,1] a0 (c₀::cs) c.w
 generalize hQ0:Exit.thenS (fun a cs w=>(Code.seq (.region i1 #[y1,y2] false) (.cond (.tmp 5) (.region i2 #[w1,w2,w3,w4,w5] false) .skip)).wpS P Q a cs w) Q=Q0
 rw[wpOpsS]
 simp only[show (#[x1,x2]:Array Oper)[0]?=some x1 from rfl]
 rw[if_pos (by simp[Region.wanted,h.xg])]
 have r0:(execOp a0.eval x1).run P c.w=.ok .recover c.w:=by simp[execOp,xo,resolve,invoke,builtin]
 rw[r0]
 simp only
 have key:∀k,k=cs'->wpOpsS P #[x1,x2] Q0 [1] (a0.put x1.dst v) k c.w:=by
  intro k hk
  subst hk
  rw[wpOpsS]
  simp only[show (#[x1,x2]:Array Oper)[1]?=some x2 from rfl]
  rw[if_pos (by simp[Region.wanted,xg2]),xr2,h.xd,xd2]
  simp only[Oper.upon,wpOpsS]
  subst hQ0
  have e3:(a0.put (some 3) v).eval (.tmp 3)=v:=evl T1 rfl
  simp only[xd2,e3]
  have T2:=TR.put (d:=some 2) T1 (RV.lit (c:=c) (FT:=aG T) v)
  show Code.wpS P _ Q _ k c.w
  refine wpS_of_wp (wp_seq (wp_region ?_))
  show wpOps P #[y1,y2] _ [0,1] _ c.w
  rw[wpOps_cons]
  unfold wpOp
  simp only[show (#[y1,y2]:Array Oper)[0]?=some y1 from rfl]
  rw[if_pos (by simp[Region.wanted,yg1])];left
  unfold Oper.wp;rw[yr1,Oper.upon_value,yd1,wpOps_cons]
  have e2:((a0.put (some 3) v).put (some 2) v).eval (.tmp 2)=v:=evl T2 rfl
  rw[e2]
  have T3:=TR.put (d:=some 4) T2 (RV.lit (c:=c) (FT:=aG T) v)
  unfold wpOp
  simp only[show (#[y1,y2]:Array Oper)[1]?=some y2 from rfl]
  rw[if_pos (by simp[Region.wanted,h.yg])];left
  have e4:(((a0.put (some 3) v).put (some 2) v).put (some 4) v).eval (.tmp 4)=v:=evl T3 rfl
  have ry:(execOp (((a0.put (some 3) v).put (some 2) v).put (some 4) v).eval y2).run P c.w=.ok (.value (.bool b)) c.w:=by
   have g1:(eqGuard .neq t (.tmp 4) (.const .nilIface) v .nilIface).run P c.w=.ok () c.w:=by
    rcases hv with rfl | ⟨n,rfl⟩
    .simp[eqGuard]
    .simp[eqGuard,iV]
   have e5:(((a0.put (some 3) v).put (some 2) v).put (some 4) v).eval (.const .nilIface)=.nilIface:=rfl
   simp[execOp,yo,e4,e5,g1,cD hN]
  unfold Oper.wp;rw[ry,Oper.upon_value,h.yd]
  have T4:=TR.put (d:=some 5) T3 (RV.lit (c:=c) (FT:=aG T) (.bool b))
  exact hQ _ (by simp only[gN];exact d0) T4
 split at hrec
 .rename_i q k hq
  let⟨hq1,hq2⟩:=hrec
  subst hq1 hq2
  rw[hq]
  exact key _ rfl
 .rename_i hq
  let⟨hq1,hq2⟩:=hrec
  subst hq1 hq2
  rw[hq]
  exact key _ rfl
theorem aDq[aB](hm:P.follows .mixedOrders=true)(hfo:gW cf)(hcf:lP P T cf)(hfn:fW P T)(h:aGB P T g vr fr n1 z t fn i0 i1 i2 x1 x2 y1 y2 w1 w2 w3 w4 w5)(hr:FJ P T fr=true){c:bV}(hs:bJ (aG T) c)(hfl:fl<=c.H.length){p1 p2:AV}{H1 H2:aM}{n:Int}{x y v6:AV}(hs1:eM fl c.H p1 (z.map .lit)=some H1)(hs2:eM fl H1 p2 [.lit (.int .i64 n)]=some H2){a:Act}{Q:Exit->Act->World->Prop}(htr:TR (aG T) c ([p1,p2,.lit (iV n),.lit (iV n),.lit (iV n),.lit (.bool true)]++List.replicate 3 (.lit aW)) a.tmps)(hd:a.defers=[])
 (hQ:∀a' c',c'.H=H2->c'.X=c.X->bG fl c c'->bJ (aG T) c'->a'.defers=[]->Q .normal a' c'.w): (Code.region i2 #[w1,w2,w3,w4,w5] false).wp P Q a c.w:=by
 refine wp_region ?_
 show wpOps P #[w1,w2,w3,w4,w5] Q (List.range' 0 2++[2,3,4]) a c.w
 refine Bl (fl:=fl) hcf hfn _ [w1,w2] 0 c a _ _ h.kw12 (λj o e=>?_) hs htr hfl (show bE P cf fl _ ⟨_,c.H⟩=some ⟨[p1,p2,.lit (iV n),.lit (iV n),.lit (iV n),.lit (.bool true),.agg (z.map .lit),.lit (iV n),.lit aW],c.H⟩ by simp[bE,bD,cO,aI,Ct,eL,aC]) ?_
 .match j with
  | 0=>simpa using e
  | 1=>simpa using e
  | j+2=>simp at e
 intro a1 c1 e1 e2 e3 e4 e5
 rw[wpOps_cons]
 let⟨kd,kg,f,as1,ts,ko,kf,ka⟩:=KY h.kw3
 rw[h.ft] at kf;cases kf
 unfold wpOp
 simp only[show (#[w1,w2,w3,w4,w5]:Array Oper)[2]?=some w3 from rfl]
 rw[if_pos (by simp[Region.wanted,kg])];left
 have hargs:=vH e3 e4 ka
 have hl:as1.toList.length=1:=by
  have:∀(l:List aQ) (m:List Operand),dP T l m=true->l.length=m.length:=by
   intro l;induction l with
   | nil=>intro m q;cases m with
    | nil=>rfl
    | cons _ _=>cases q
   | cons b l i=>intro m q;cases m with
    | nil=>cases q
    | cons _ m=>simp only[dP,Bool.and_eq_true] at q;simp[i m q.2]
  exact (this _ _ ka).symm
 have hval:as1.map a1.eval=#[iV n]:=by
  apply Array.ext'
  match hm:as1.toList,hl with
  | [o],_=>
   rw[hm] at hargs
   let⟨v,q1,q2⟩:=hargs.2 0 (.lit (iV n)) rfl
   have:=q2.lit_inv
   subst this
   simp at q1
   simp[hm,q1]
 let⟨fn',B,D,C⟩:=hfn vr fr h.ft
 have er:(execOp a1.eval w3).run P c1.w=.ok (.enter fr #[iV n]) c1.w:=by
  rw[<-iP B D C c1.w,<-hval];simp[execOp,ko,resolve,Act.eval,Deferred.ofValue,invoke]
 unfold Oper.wp;rw[er,Oper.upon_enter]
 refine (aEY (fl:=fl) hm hfo hcf hfn hr e3 n).mono ?_
 rintro e w' ⟨rfl,c2,rfl,q2,q3,q4,q5⟩
 simp only
 rw[<-kd]
 have T2:=TR.put (d:=some 8) (e4.step q4) (RV.lit (c:=c2) (FT:=aG T) (.int .i64 n))
 show wpOps P #[w1,w2,w3,w4,w5] Q (List.range' 3 2++[]) _ c2.w
 refine Bl (fl:=fl) hcf hfn _ [w4,w5] 3 c2 _ _ ⟨[p1,p2,.lit (iV n),.lit (iV n),.lit (iV n),.lit (.bool true),.agg (z.map .lit),.lit (iV n),.lit (.int .i64 n)],H2⟩ h.kw45 (λj o e=>?_) q5 T2 (Nat.le_trans hfl (e2.trans q4).len) ?_ ?_
 .match j with
  | 0=>simpa using e
  | 1=>simpa using e
  | j+2=>simp at e
 .have hH:c2.H=c.H:=q2.trans e1
  have hz:(z.map AV.lit).length=n1:=by rw[List.length_map,h.zl]
  simp only[bE,bD,cO,aI,aC,eL,hH]
  simp[cellsOf,hz,hs1,aY,hs2]
 intro a3 c3 f1 f2 f3 f4 f5
 refine hQ a3 c3 f1 (f2.X.trans (q4.X.trans e2.X)) (e2.trans (q4.trans f2)) f3 ?_
 rw[f5,gN,e5];exact hd
end
end
section
variable {P:Program}{T:List bK}{cf:CF}{fl lf:Nat}
variable {g vr fr n1:Nat}{z:List Value}{t:TypeId}
theorem d6{fn:Func}(h:fn.results=#[])(tv:Array Value)(w:World): ∃v,(results fn tv).run P w=.ok v w:=by
 refine⟨.tuple #[],?_⟩
 unfold results;rw[h]
 simp
theorem aDr[aB](h:FL P T g vr fr n1 z t=true){c:bV}{p1 p2:AV}{u1 u2:Value}(hp1:RV (aG T) c p1 u1)(hp2:RV (aG T) c p2 u2)(hN:aK P (binOp .neq t .nilIface .nilIface)=some (.bool false)): CallsD P g #[u1,u2] .returning c.w λe u' w'=>(∃v,e=.returned v)/\u'=.returning/\w'=c.w:=by
 let⟨fn,i0,i1,i2,x1,x2,y1,y2,w1,w2,w3,w4,w5,h⟩:=Xp h
 refine callsD_of_wpS h.hf h.hb λc₀ cs hc=>?_
 refine US (v:=.nilIface) (b:=false) (cs':=c₀::cs) h hp1 hp2 hN (.inl rfl) ?_ ?_
 .simp[recoverD,hc]
 intro a hd htr
 refine wp_cond_false (evl htr rfl) (wp_skip ?_)
 let⟨v,hv⟩:=d6 (P:=P) h.rs a.tmps c.w
 exact⟨hd,.returning,by rw[<-hc],v,hv,⟨v,rfl⟩,rfl,rfl⟩
theorem aDs[aB](hm:P.follows .mixedOrders=true)(hfo:gW cf)(hcf:lP P T cf)(hfn:fW P T)(h:FL P T g vr fr n1 z t=true)(hr:FJ P T fr=true){c:bV}(hs:bJ (aG T) c)(hfl:fl<=c.H.length){p1 p2:AV}{u1 u2:Value}{H1 H2:aM}{n:Int}(hp1:RV (aG T) c p1 u1)(hp2:RV (aG T) c p2 u2)(hN:aK P (binOp .neq t (iV n) .nilIface)=some (.bool true))(hs1:eM fl c.H p1 (z.map .lit)=some H1)(hs2:eM fl H1 p2 [.lit (.int .i64 n)]=some H2):
 CallsD P g #[u1,u2] (.panicking (Gv n)) c.w λe u' w'=>(∃v,e=.returned v)/\u'=.panicking [{ v:=iV n,recovered:=true }]/\∃c',c'.w=w'/\c'.H=H2/\c'.X=c.X/\bG fl c c'/\bJ (aG T) c':=by
 let⟨fn,i0,i1,i2,x1,x2,y1,y2,w1,w2,w3,w4,w5,h⟩:=Xp h
 refine callsD_of_wpS h.hf h.hb λc₀ cs hc=>?_
 refine US (v:=iV n) (b:=true) (cs':={ c₀ with mode:=.panicking [{ v:=iV n,recovered:=true }] }::cs) h hp1 hp2 hN (.inr ⟨n,rfl⟩) ?_ ?_
 .simp[recoverD,hc,Gv]
 intro a hd htr
 refine wp_cond_true (evl htr rfl) ?_
 refine aDq (x:=.undef) (y:=.undef) (v6:=.undef) hm hfo hcf hfn h hr hs hfl hs1 hs2 htr hd ?_
 intro a' c' e1 e2 e3 e4 e5
 let⟨v,hv⟩:=d6 (P:=P) h.rs a'.tmps c'.w
 exact⟨e5,.panicking [{ v:=iV n,recovered:=true }],rfl,v,hv,⟨v,rfl⟩,rfl,c',rfl,e1,e2,e3,e4⟩
def J6(fl:Nat)(H:aM)(p err:AV): Option aM:=match cellsOf err with
 | some cs=>match cs with
  | [c]=>eM fl H p [c]
  | _=>none
 | none=>none
def BS(fl:Nat)(z:List Value)(n1:Nat)(q:Option (AV×aM)): Option (AV×aM):=match q with
 | none=>none
 | some (r,H)=>match r with
  | .tup vs=>match vs with
   | [v,err,p1,p2]=>match v with
    | .lit u=>match u with
     | .bool b=>match (match b with
       | false=>some H
       | true=>match eM fl H p1 (z.map .lit) with
        | some H1=>J6 fl H1 p2 err
        | none=>none) with
      | some H2=>match cJ H2 p1 n1 with
       | some cs=>match cJ H2 p2 1 with
        | some ds=>match ds with
         | [d]=>some (.tup [.agg cs,d],H2)
         | _=>none
        | none=>none
       | none=>none
      | none=>none
     | _=>none
    | _=>none
   | _=>none
  | _=>none
def yW(vs:Nat)(z:List Value)(n1:Nat): PC:=⟨λcf fl args H=>match Nat.ble args.length 4 with
 | true=>BS fl z n1 (cf fl vs args H)
 | false=>none,λcf cf' h fl args H x e=>by
 split at e
 .rename_i b;cases q:cf fl vs args H with
  | none=>rw[q] at e;cases e
  | some y=>rw[h fl vs args H y q];rw[q] at e;exact e
 .cases e⟩
theorem aG1[aB]{FT:Nat->Option Nat}{c:bV}{tv:Array Value}{t1 t2:Nat}{p1 p2:AV}(h1:∃v,tv[t1]?=some v/\RV FT c p1 v)(h2:∃v,tv[t2]?=some v/\RV FT c p2 v): TR FT c (((List.replicate tv.size AV.undef).set t1 p1).set t2 p2) tv:=by
 refine⟨by simp,λt x e=>?_⟩
 rw[List.getElem?_set] at e
 split at e
 .rename_i q;subst q;split at e
  .cases e;exact h2
  .cases e
 .rw[List.getElem?_set] at e;split at e
  .rename_i q;subst q;split at e
   .cases e;exact h1
   .cases e
  .rw[List.getElem?_replicate] at e;split at e
   .rename_i q;cases e;exact⟨tv[t],by simp,RV.undef _⟩
   .cases e
theorem d8[aB](hm:P.follows .mixedOrders=true)(hfo:gW cf)(hcf:lP P T cf)(hfn:fW P T)(hdef:aBo P T cf){vi vs t1 t2 f:Nat}{T1 T2:TypeId}(hd:(vi,vs,t1,t2,g)∈aB.df)(hf:aG T vi=some f)(hclo:FL P T g vr fr n1 z t=true)(hrea:FJ P T fr=true)(hN0:aK P (binOp .neq t .nilIface .nilIface)=some (.bool false))(hN1:∀n,aK P (binOp .neq t (iV n) .nilIface)=some (.bool true))(hg:∃fn,P.funcs[g]?=some fn/\fn.body.isSome=true/\(fn.name== "runtime.NumGoroutine")=false)(hres:∀fn,P.funcs[f]?=some fn->fn.results=#[.cell t1 T1,.cell t2 T2])(hz1:cT P T1 n1=true)(ha1:sL P T1 true=true)(hz2:cT P T2 1=true)(ha2:sL P T2 false=true)(h12:t1≠t2)
 {args:List AV}{r:AV}{H':aM}{c:bV}{us:Array Value}(he:(yW vs z n1).run cf fl args c.H=some (r,H'))(hs:bJ (aG T) c)(hfl:fl<=c.H.length)(ha:jQ (aG T) c args us): Calls P f us c.w λe w'=>∃v c',e=.returned v/\c'.w=w'/\c'.H=H'/\c'.X=c.X/\bG fl c c'/\bJ (aG T) c'/\RV (aG T) c' r v:=by
 simp only[yW] at he
 split at he
 case h_2=>cases he
 rename_i hle
 have hle:=Nat.le_of_ble_eq_true hle
 cases hq:cf fl vs args c.H with
 | none=>rw[hq] at he;cases he
 | some q=>
 rw[hq] at he
 let⟨r0,H0⟩:=q
 let⟨fn,code,hfn1,hb,hwp⟩:=hdef fl vi vs t1 t2 g f args r0 H0 c us hd hf hle hq hs hfl ha
 let⟨gf,hg1,hg2,hg3⟩:=hg
 have hinv:∀u1 u2 w,(invoke (.fn (.func g) #[u1,u2]) #[]).run P w=.ok (.enter g #[u1,u2]) w:=λu1 u2 w=>by
  simp only[invoke];rw[show (#[]:Array Value)++#[u1,u2]=#[u1,u2] by simp];exact iP hg1 hg2 hg3 w
 have hres2:∀(c':bV) (tv:Array Value) (cs:List AV) (d p1 p2:AV),bJ (aG T) c'->(∃v,tv[t1]?=some v/\RV (aG T) c' p1 v)->(∃v,tv[t2]?=some v/\RV (aG T) c' p2 v)->cJ c'.H p1 n1=some cs->cJ c'.H p2 1=some [d]->∃v,(results fn tv).run P c'.w=.ok v c'.w/\RV (aG T) c' (.tup [.agg cs,d]) v:=by
  intro c' tv cs d p1 p2 k1 k2 k3 k4 k5
  have l1:t1<tv.size:=by let⟨v,y,_⟩:=k2;exact (Array.getElem?_eq_some_iff.1 y).1
  have l2:t2<tv.size:=by let⟨v,y,_⟩:=k3;exact (Array.getElem?_eq_some_iff.1 y).1
  have o1:aC (((List.replicate tv.size AV.undef).set t1 p1).set t2 p2) (.tmp t1)=p1:=by
   simp only[aC];rw[List.getElem?_set_ne (Ne.symm h12),List.getElem?_set_self (by simpa using l1)]
  have o2:aC (((List.replicate tv.size AV.undef).set t1 p1).set t2 p2) (.tmp t2)=p2:=by
   simp only[aC];rw[List.getElem?_set_self (by simpa using l2)]
  exact vR (fn:=fn) (st:=⟨((List.replicate tv.size AV.undef).set t1 p1).set t2 p2,c'.H⟩) (rs:=[.cell t1 n1 true,.cell t2 1 false]) (vs:=[.agg cs,d]) k1 rfl (aG1 k2 k3) (by rw[hres fn hfn1];simp[qA,hz1,ha1,hz2,ha2]) (by simp only[dM,sK,o1,o2,k4,k5,if_true,Bool.false_eq_true,if_false])
 refine calls_of_wp_defers hfn1 hb (hwp _ ?_)
 intro a' c' e e1 e2 e3 e4 e5
 let⟨b,err,p1,p2,u1,u2,hr,q1,q2,q3,q4,q5,q6⟩:=e5
 subst hr
 simp only[BS] at he
 rcases q6 with⟨rfl,hx⟩ | ⟨n,rfl,rfl,rfl⟩
 ·
  simp only at he
  split at he
  case h_2=>cases he
  rename_i cs hcs
  split at he
  case h_2=>cases he
  rename_i ds hds
  split at he
  case h_2=>cases he
  rename_i d
  cases he
  have key:Leaves P fn a'.tmps (λe w'=>∃v c',e=.returned v/\c'.w=w'/\c'.H=H'/\c'.X=c.X/\bG fl c c'/\bJ (aG T) c'/\RV (aG T) c' (.tup [.agg cs,d]) v) a'.defers .returning c'.w:=by
   rw[q5]
   refine leaves_cons (by simp) (hinv u1 u2 _) ((aDr hclo q1 q2 hN0).mono ?_)
   rintro e u' w' ⟨⟨v,rfl⟩,rfl,rfl⟩
   simp only[settle]
   let⟨v,y1,y2⟩:=hres2 c' a'.tmps cs d p1 p2 e4 q3 q4 (by rw[e1];exact hcs) (by rw[e1];exact hds)
   exact⟨v,y1,v,c',rfl,rfl,e1,e2,e3,e4,y2⟩
  rcases hx with rfl | rfl
  .exact key
  .exact key
 .simp only at he
  split at he
  case h_2=>cases he
  rename_i H2 hH2
  split at hH2
  case h_2=>cases hH2
  rename_i H1 hH1
  split at he
  case h_2=>cases he
  rename_i cs hcs
  split at he
  case h_2=>cases he
  rename_i ds hds
  split at he
  case h_2=>cases he
  rename_i d
  cases he
  show Leaves P fn a'.tmps _ a'.defers (.panicking (Gv n)) c'.w
  rw[q5]
  refine leaves_cons (by simp) (hinv u1 u2 _) ((aDs (fl:=fl) hm hfo hcf hfn hclo hrea e4 (Nat.le_trans hfl e3.len) q1 q2 (hN1 n) (by rw[e1];exact hH1) hH2).mono ?_)
  rintro e u' w' ⟨⟨v,rfl⟩,rfl,c2,rfl,k1,k2,k3,k4⟩
  simp only[settle]
  let⟨v,y1,y2⟩:=hres2 c2 a'.tmps cs d p1 p2 k4 (let⟨v,y,z⟩:=q3;⟨v,y,z.step k3⟩) (let⟨v,y,z⟩:=q4;⟨v,y,z.step k3⟩) (by rw[k1];exact hcs) (by rw[k1];exact hds)
  exact⟨v,y1,v,c2,rfl,rfl,k1,k2.trans e2,e3.trans k3,k4,y2⟩
end
def PF(g:PC): Prop:=∀cf,gW cf->∀fl m args H r H',(fl<=m/\m<=H.length)->g.run cf fl args H=some (r,H')->H'.take fl=H.take fl/\m<=H'.length
theorem aCl{H H':aM}{fl m:Nat}(h:fl<=m/\m<=H.length)(e:H'=H): H'.take fl=H.take fl/\m<=H'.length:=by subst e;exact⟨rfl,h.2⟩
theorem V1{H:aM}{fl m i:Nat}{o:cN}(h:fl<=m/\m<=H.length)(a:fl<=i): (H.set i o).take fl=H.take fl/\m<=(H.set i o).length:=⟨List.take_set_of_le a,by simpa using h.2⟩
theorem aCm: PF<|Kw Gn:=λ_ _ fl m a H r H' h e=>by
 have e:Gn fl a H=some (r,H'):=e;refine aCl h ?_;unfold Gn at e;repeat' (first | (cases e;done) | (cases e;rfl) | split at e)
theorem V0: PF<|Kw Ck:=λ_ _ fl m a H r H' h e=>by
 rcases IR (show Ck fl a H=some (r,H') from e) with⟨x,_,_,_,rfl⟩ | ⟨id,l,_,_,b,_,_,_,rfl⟩
 .exact⟨rfl,h.2⟩
 .exact V1 h b
theorem k9{b:Bool}{s:Nat}: PF<|Ln b s:=λ_ _ _ _ _ _ _ _ h e=>R0 h e
theorem aEa{H H':aM}{fl m:Nat}{x:AV}{cs:List AV}(h:fl<=m/\m<=H.length)(e:eM fl H x cs=some H'): H'.take fl=H.take fl/\m<=H'.length:=by
 unfold eM at e;split at e
 .split at e
  .rename_i a;split at e
   .split at e
    .split at e
     .split at e
      .cases e;exact V1 h a
      .cases e
     .cases e
    .cases e
   .cases e
  .cases e
 .cases e
theorem aAx{fl:Nat}{H H':aM}{p err:AV}(h:J6 fl H p err=some H'): ∃c,eM fl H p [c]=some H':=by
 unfold J6 at h;split at h
 .split at h
  .exact⟨_,h⟩
  .cases h
 .cases h
theorem F0{fl n1:Nat}{z:List Value}{q:Option (AV×aM)}{r:AV}{H':aM}(h:BS fl z n1 q=some (r,H')): ∃b err p1 p2 H0 cs d,q=some (.tup [.lit (.bool b),err,p1,p2],H0)/\(match b with
 | false=>some H0
 | true=>match eM fl H0 p1 (z.map .lit) with
  | some H1=>J6 fl H1 p2 err
  | none=>none)=some H'/\cJ H' p1 n1=some cs/\cJ H' p2 1=some [d]/\r=.tup [.agg cs,d]:=by
 unfold BS at h;cases q with
 | none=>cases h
 | some y=>
  let⟨r0,H0⟩:=y
  dsimp only at h
  split at h
  case h_2=>cases h
  split at h
  case h_2=>cases h
  split at h
  case h_2=>cases h
  split at h
  case h_2=>cases h
  split at h
  case h_2=>cases h
  rename_i H2 e
  split at h
  case h_2=>cases h
  rename_i cs e1
  split at h
  case h_2=>cases h
  rename_i ds e2
  split at h
  case h_2=>cases h
  rename_i d
  cases h
  exact⟨_,_,_,_,_,cs,d,rfl,e,e1,e2,rfl⟩
theorem l4{vs n1:Nat}{z:List Value}: PF (yW vs z n1):=λcf hfo fl m a H r H' h e=>by
 simp only[yW] at e;split at e
 .let⟨b,err,p1,p2,H0,cs,d,hq,he,_⟩:=F0 e
  let⟨k1,k2⟩:=hfo fl m vs a H _ H0 h hq
  cases b with
  | false=>cases he;exact⟨k1,k2⟩
  | true=>
   simp only at he;split at he
   .rename_i H1 e1;let⟨l1,l2⟩:=aEa ⟨h.1,k2⟩ e1;let⟨c,he⟩:=aAx he;let⟨j1,j2⟩:=aEa ⟨h.1,l2⟩ he;exact⟨j1.trans (l1.trans k1),j2⟩
   .cases he
 .cases e
theorem Tm{vi k:Nat}{g:PC}{o:Option PC}(a:PF g)(b:∀q,o=some q->PF q): ∀q,(match Nat.beq vi k with | true=>some g | false=>o)=some q->PF q:=by
 intro q h;split at h
 .cases h;exact a
 .exact b q h
theorem aFp: ∀q,(none:Option PC)=some q->PF q:=λ_ h=>by cases h
theorem aFP[aB](h:∀vi q,aB.prim vi=some q->PF q): ∀cf,gW cf->gW (Co cf):=by
 intro cf hfo fl m vi b H r H' d a;unfold Co at a;split at a
 .rename_i g c;exact h vi g c cf hfo fl m b H r H' d a
 .cases a
section
variable {P:Program}{T:List bK}
def O0(vs n1:Nat)(z:List Value): bI:=.seq (.region false [] [⟨some 1,.call false vs [.tmp 0],none⟩,⟨some 2,.extract (.tmp 1) 0,none⟩,⟨some 3,.extract (.tmp 1) 1,none⟩,⟨some 4,.extract (.tmp 1) 2,none⟩,⟨some 5,.extract (.tmp 1) 3,none⟩]) (.seq (.cond (.tmp 2) (.region false [] [⟨some 6,.build z [],none⟩,⟨none,.store n1 (.tmp 4) (.tmp 6),none⟩,⟨none,.store 1 (.tmp 5) (.tmp 3),none⟩]) (.region false [] [])) (.region false [] [⟨some 6,.load true n1 (.tmp 4),none⟩,⟨some 7,.load false 1 (.tmp 5),none⟩]))
theorem aDW[aB]{st:St}: ∀{rs:List Rg} {vs:List AV},dM st rs=some vs->vs.length=rs.length
 | [],vs,h=>by cases h;rfl
 | r::rs,vs,h=>by
  simp only[dM] at h;split at h
  .split at h
   .rename_i k;cases h;simp[aDW k]
   .cases h
  .cases h
theorem aDb[aB]{vs n fl:Nat}{b:List AV}{H H':aM}{r:AV}{F:bK}(hp:aB.prim vs=none)(hT:T[vs]?=some F)(hl:F.rets.length=4)(h:dK P T n fl vs b H=some (r,H')): ∃v1 v2 v3 v4,r=.tup [v1,v2,v3,v4]:=by
 cases n with
 | zero=>cases h
 | succ n=>
 simp only[dK,hp,hT] at h
 have key:∀{st:St} {vs:List AV},dM st F.rets=some vs->∃v1 v2 v3 v4,eH vs=.tup [v1,v2,v3,v4]:=λ{st vs} k=>by
  have k:=aDW k;rw[hl] at k
  match vs,k with
  | [v1,v2,v3,v4],_=>exact⟨v1,v2,v3,v4,rfl⟩
 split at h
 .split at h
  .rename_i k;cases h;exact key k
  .cases h
 .split at h
  .rename_i k;cases h;exact key k
  .cases h
 .cases h
theorem R7[aB]{cf:CF}{lf fl:Nat}{a b:bI}{st st1:St}(h:cH P cf lf fl a st=some (.normal,st1)): cH P cf lf fl (.seq a b) st=cH P cf lf fl b st1:=by simp only[cH,h]
theorem aJ1[aB]{cf:CF}{lf fl n1:Nat}{t0 t1 t2 t3 t4 t5 t6 t7:AV}{H1:aM}{y:bP×St}(h:cH P cf lf fl (.region false [] [⟨some 6,.load true n1 (.tmp 4),none⟩,⟨some 7,.load false 1 (.tmp 5),none⟩]) ⟨[t0,t1,t2,t3,t4,t5,t6,t7],H1⟩=some y): ∃cs d,cJ H1 t4 n1=some cs/\cJ H1 t5 1=some [d]/\y=(.normal,⟨[t0,t1,t2,t3,t4,t5,.agg cs,d],H1⟩):=by
 simp only[cH,eI,bE,bD,cO,aI,aC,eL,List.getElem?_cons_zero,List.getElem?_cons_succ] at h
 cases hc:cJ H1 t4 n1 with
 | none=>simp[hc] at h
 | some cs=>
 cases hd:cJ H1 t5 1 with
 | none=>simp[hc,hd] at h
 | some ds=>
 match ds with
 | []=>simp[hc,hd] at h
 | _::_::_=>simp[hc,hd] at h
 | [d]=>
 simp[hc,hd] at h
 exact⟨cs,d,rfl,rfl,h.symm⟩
theorem aJ3[aB]{cf:CF}{lf fl vs:Nat}{x v1 v2 v3 v4 u:AV}{H H0:aM}(hq:cf fl vs [x] H=some (.tup [v1,v2,v3,v4],H0)): cH P cf lf fl (.region false [] [⟨some 1,.call false vs [.tmp 0],none⟩,⟨some 2,.extract (.tmp 1) 0,none⟩,⟨some 3,.extract (.tmp 1) 1,none⟩,⟨some 4,.extract (.tmp 1) 2,none⟩,⟨some 5,.extract (.tmp 1) 3,none⟩]) ⟨[x,u,u,u,u,u,u,u],H⟩=some (.normal,⟨[x,.tup [v1,v2,v3,v4],v1,v2,v3,v4,u,u],H0⟩):=by
 simp[cH,eI,bE,bD,cO,aI,aC,kR,hq,eL]
theorem aJ4[aB]{cf:CF}{lf fl vs:Nat}{x u:AV}{H:aM}{b:bI}(hq:cf fl vs [x] H=none): cH P cf lf fl (.seq (.region false [] [⟨some 1,.call false vs [.tmp 0],none⟩,⟨some 2,.extract (.tmp 1) 0,none⟩,⟨some 3,.extract (.tmp 1) 1,none⟩,⟨some 4,.extract (.tmp 1) 2,none⟩,⟨some 5,.extract (.tmp 1) 3,none⟩]) b) ⟨[x,u,u,u,u,u,u,u],H⟩=none:=by
 simp[cH,eI,bE,bD,cO,aI,aC,kR,hq]
theorem aJ2[aB]{cf:CF}{lf fl n1:Nat}{z:List Value}{t0 t1 t2 t3 t4 t5 t6 t7:AV}{H0:aM}{y:bP×St}(hz:z.length=n1)(h:cH P cf lf fl (.region false [] [⟨some 6,.build z [],none⟩,⟨none,.store n1 (.tmp 4) (.tmp 6),none⟩,⟨none,.store 1 (.tmp 5) (.tmp 3),none⟩]) ⟨[t0,t1,t2,t3,t4,t5,t6,t7],H0⟩=some y): ∃H1 H2,eM fl H0 t4 (z.map .lit)=some H1/\J6 fl H1 t5 t3=some H2/\y=(.normal,⟨[t0,t1,t2,t3,t4,t5,.agg (z.map .lit),t7],H2⟩):=by
 have hz:(z.map AV.lit).length=n1:=by simpa using hz
 simp only[cH,eI,bE,bD,cO,aI,aC,eL,Ct,List.map_nil,List.getElem?_cons_zero,List.getElem?_cons_succ,List.set_cons_succ,List.set_cons_zero] at h
 rw[show cellsOf (.agg (z.map .lit))=some (z.map .lit) from rfl] at h
 dsimp only at h
 rw[if_pos hz] at h
 cases h1:eM fl H0 t4 (z.map .lit) with
 | none=>simp[h1] at h
 | some H1=>
 cases hv:cellsOf t3 with
 | none=>simp[h1,hv] at h
 | some cs=>
 match cs with
 | []=>simp[h1,hv] at h
 | _::_::_=>simp[h1,hv] at h
 | [c]=>
 cases h2:eM fl H1 t5 [c] with
 | none=>simp[h1,hv,h2] at h
 | some H2=>
 simp[h1,hv,h2] at h
 exact⟨H1,H2,rfl,by simp only[J6,hv,h2],h.symm⟩
theorem aEG[aB]{vi vs vw fid n1 m fl:Nat}{z:List Value}{F:bK}(hp:aB.prim vi=some (yW vs z n1))(hw:aB.prim vw=none)(hW:T[vw]?=some ⟨fid,8,[.tmp 6,.tmp 7],O0 vs n1 z⟩)(hs:aB.prim vs=none)(hS:T[vs]?=some F)(hl:F.rets.length=4)(hz:z.length=n1){x r:AV}{H H':aM}(h:dK P T (m+1) fl vw [x] H=some (r,H')): dK P T (m+1) fl vi [x] H=some (r,H'):=by
 simp only[dK,hw,hW] at h
 show (match aB.prim vi with
  | some g=>g.run (dK P T m) fl [x] H
  | none=>_)=_
 rw[hp]
 show BS fl z n1 (dK P T m fl vs [x] H)=_
 rw[show ([x]:List AV)++List.replicate (8-[x].length) (.lit aW)=[x,.lit aW,.lit aW,.lit aW,.lit aW,.lit aW,.lit aW,.lit aW] from rfl] at h
 cases hq:dK P T m fl vs [x] H with
 | none=>rw[O0,aJ4 hq] at h;cases h
 | some q=>
 let⟨r0,H0⟩:=q
 let⟨v1,v2,v3,v4,e⟩:=aDb hs hS hl hq
 subst e
 rw[O0,R7 (aJ3 hq)] at h
 have fin:∀{t0 t1 t2 t3 t6 t7:AV}{H1:aM},(match cH P (dK P T m) m fl (.region false [] [⟨some 6,.load true n1 (.tmp 4),none⟩,⟨some 7,.load false 1 (.tmp 5),none⟩]) ⟨[t0,t1,t2,t3,v3,v4,t6,t7],H1⟩ with
  | some (.normal,st)=>match dM st [.tmp 6,.tmp 7] with
   | some vs=>some (eH vs,st.heap)
   | none=>none
  | some (.ret,st)=>match dM st [.tmp 6,.tmp 7] with
   | some vs=>some (eH vs,st.heap)
   | none=>none
  | _=>none)=some (r,H')->∃cs d,cJ H1 v3 n1=some cs/\cJ H1 v4 1=some [d]/\r=.tup [.agg cs,d]/\H'=H1:=by
  intro t0 t1 t2 t3 t6 t7 H1 h
  cases h3:cH P (dK P T m) m fl (.region false [] [⟨some 6,.load true n1 (.tmp 4),none⟩,⟨some 7,.load false 1 (.tmp 5),none⟩]) ⟨[t0,t1,t2,t3,v3,v4,t6,t7],H1⟩ with
  | none=>rw[h3] at h;cases h
  | some y=>
  rw[h3] at h
  let⟨cs,d,k1,k2,k3⟩:=aJ1 h3
  subst k3
  refine⟨cs,d,k1,k2,?_⟩
  simp[dM,sK,aC,eH] at h
  exact⟨h.1.symm,h.2.symm⟩
 have e1:∃b,v1=.lit (.bool b):=by
  cases v1 with
  | lit v=>cases v with
   | bool b=>exact⟨b,rfl⟩
   | _=>simp[cH,aC] at h
  | _=>simp[cH,aC] at h
 let⟨b,e1⟩:=e1;subst e1
 cases b with
 | false=>
  rw[R7 (st1:=⟨[x,.tup [.lit (.bool false),v2,v3,v4],.lit (.bool false),v2,v3,v4,.lit aW,.lit aW],H0⟩) (by simp[cH,aC,eI,bE])] at h
  let⟨cs,d,k1,k2,k3,k4⟩:=fin h
  subst k3 k4
  simp only[BS,k1,k2]
 | true=>
  cases h2:cH P (dK P T m) m fl (.cond (.tmp 2) (.region false [] [⟨some 6,.build z [],none⟩,⟨none,.store n1 (.tmp 4) (.tmp 6),none⟩,⟨none,.store 1 (.tmp 5) (.tmp 3),none⟩]) (.region false [] [])) ⟨[x,.tup [.lit (.bool true),v2,v3,v4],.lit (.bool true),v2,v3,v4,.lit aW,.lit aW],H0⟩ with
  | none=>rw[show ∀(b:bI),cH P (dK P T m) m fl (.seq (.cond (.tmp 2) (.region false [] [⟨some 6,.build z [],none⟩,⟨none,.store n1 (.tmp 4) (.tmp 6),none⟩,⟨none,.store 1 (.tmp 5) (.tmp 3),none⟩]) (.region false [] [])) b) ⟨[x,.tup [.lit (.bool true),v2,v3,v4],.lit (.bool true),v2,v3,v4,.lit aW,.lit aW],H0⟩=none from λb=>by rw[cH,h2]] at h;cases h
  | some y=>
  have h2':=h2
  rw[cH] at h2'
  let⟨H1,H2,k1,k2,k3⟩:=aJ2 hz (show cH P (dK P T m) m fl (.region false [] [⟨some 6,.build z [],none⟩,⟨none,.store n1 (.tmp 4) (.tmp 6),none⟩,⟨none,.store 1 (.tmp 5) (.tmp 3),none⟩]) _=some y from h2')
  subst k3
  rw[R7 h2] at h
  let⟨cs,d,j1,j2,j3,j4⟩:=fin h
  subst j3 j4
  simp only[BS,k1,k2,j1,j2]
theorem aHd[cX][aB]{vi vs vw fid n1:Nat}{z:List Value}{F:bK}(hp:aB.prim vi=some (yW vs z n1))(hw:aB.prim vw=none)(hW:T[vw]?=some ⟨fid,8,[.tmp 6,.tmp 7],O0 vs n1 z⟩)(hs:aB.prim vs=none)(hS:T[vs]?=some F)(hl:F.rets.length=4)(hz:z.length=n1){c:ZN}(h1:c.ka.length=1)(h:PG P T vw c): PG P T vi c:=by
 intro n p r hF aw q
 let⟨b,A,e,k⟩:=h n p r hF aw q
 have l:=q.len
 rw[LN,h1] at l
 match aw,l with
 | [x],_=>
 cases n with
 | zero=>cases e
 | succ n=>exact⟨b,A,aEG hp hw hW hs hS hl hz e,k⟩
def aFR(T:List bK)(v:Nat): bK:=match T[v]? with
 | some F=>F
 | none=>⟨0,0,[],.skip⟩
def aHe[cX][aB](vi vw vs n1:Nat)(z:List Value)(X:ZM P T)(hv:X.vi=vw:=by rfl)(hp:aB.prim vi=some (yW vs z n1):=by kernel_rfl)(hw:aB.prim vw=none:=by kernel_rfl)(hW:T[vw]?=some ⟨(aFR T vw).fid,8,[.tmp 6,.tmp 7],O0 vs n1 z⟩:=by kernel_rfl)(hs:aB.prim vs=none:=by kernel_rfl)(hS:T[vs]?=some (aFR T vs):=by kernel_rfl)(hl:(aFR T vs).rets.length=4:=by kernel_rfl)(hz:z.length=n1:=by kernel_rfl)(h1:X.c.ka.length=1:=by kernel_rfl): ZM P T:=⟨vi,X.c,aHd hp hw hW hs hS hl hz h1 (hv ▸ X.ok)⟩
def Xo[aB](P:Program)(T:List bK)(F:bK): Bool:=match Nat.blt F.fid 1000000 with
 | true=>OO P T F
 | false=>true
theorem ZE[aB](h:T.all (Xo P T)=true): Checked P T:=λF hF hb=>by
 have h:=List.all_eq_true.1 h F hF;unfold Xo at h;rw[hb] at h;exact h
def y8[aB](P:Program)(T:List bK): List (Nat×Nat)->Bool
 | []=>true
 | p::r=>(match aG T p.1 with
  | some f=>(match aB.prim p.2 with
   | some _=>false
   | none=>match T[p.2]? with
    | some F=>Qv P T f F
    | none=>false)
  | none=>true)&&y8 P T r
theorem UV[aB]{vi vs f:Nat}: ∀{l:List (Nat×Nat)},y8 P T l=true->Wu vi l=some vs->aG T vi=some f->aB.prim vs=none/\∃F,T[vs]?=some F/\Qv P T f F=true
 | p::r,h,hl,hf=>by
  simp only[y8,Bool.and_eq_true] at h
  simp only[Wu] at hl
  split at hl
  .rename_i e;cases hl;have e:=Nat.eq_of_beq_eq_true e;have h:=h.1;rw[e,hf] at h
   dsimp only at h
   split at h
   .cases h
   .rename_i k;split at h
    .rename_i F g;exact⟨k,F,g,h⟩
    .cases h
  .exact UV h.2 hl hf
theorem aDw[aB](h:y8 P T aB.sh=true): aBm P T:=λ_ _ _ a b=>UV h a b
def y9[aB](P:Program)(T:List bK): List (Nat×Nat×Nat×Nat×Nat)->Bool
 | []=>true
 | p::r=>(match aG T p.1 with
  | some f=>(match aB.prim p.2.1 with
   | some _=>false
   | none=>match T[p.2.1]? with
    | some F=>Qw P T f p.2.2.1 p.2.2.2.1 p.2.2.2.2 F
    | none=>false)
  | none=>true)&&y9 P T r
theorem UW[aB]{vi vs t1 t2 g f:Nat}: ∀{l:List (Nat×Nat×Nat×Nat×Nat)},y9 P T l=true->(vi,vs,t1,t2,g)∈l->aG T vi=some f->aB.prim vs=none/\∃F,T[vs]?=some F/\Qw P T f t1 t2 g F=true
 | p::r,h,hl,hf=>by
  simp only[y9,Bool.and_eq_true] at h
  rcases List.mem_cons.1 hl with e | e
  .subst e;have h:=h.1;rw[hf] at h
   dsimp only at h
   split at h
   .cases h
   .rename_i k;split at h
    .rename_i F g;exact⟨k,F,g,h⟩
    .cases h
  .exact UW h.2 e hf
theorem aDx[aB](h:y9 P T aB.df=true): aBn P T:=λ_ _ _ _ _ _ a b=>UW h a b
end
section
open Go.Proofs Go.RowKit Go.Shelf Go.Sort
theorem QH{P:Program}{ρ:Ren}{k:Nat}(L:SlLaysF0.n6 P ρ)(l:∀w,(Go.isAgg<|ρ.t 24).run P w=.ok true w)(j:∀w,(Go.sizeOf<|ρ.t 24).run P w=.ok k w): Rb P true (ρ.f 6) k:=
 λ_ enc p n cf r g o e off cap d w m c q b h=>AnyQ.slices_SortFunc_eq L k l j enc p n cf r g o e off cap d w m c q b h
theorem We{P:Program}{ρ:Ren}(L:SlLaysF0.n6 P ρ): Ra P<|ρ.f 6:=λp cap c w=>AnyF.slices_SortFunc_none L p cap c w
theorem aAn{α:Type}[Inhabited α](enc:α->List Value)(e:∀x,(enc x).length=1)(d:Array α): flatK enc 1 d=d.map λx=>(enc x)[0]!:=by
 apply Array.ext
 .simp
 .intro i a b;have c:i<d.size:=by simpa using b
  have:=get_flatK enc 1 d i (by omega);rw[getElem!_pos _ i a] at this;rw[this,Array.getElem_map,Nat.div_one,Nat.mod_one,getElem!_pos d i c]
theorem MI{α:Type}[Inhabited α](enc:α->Value)(off:Nat)(d:Array α)(c:Array Value): putCells _root_.id off (d.map enc) c=putCells enc off d c:=by
 unfold putCells;congr 1;funext k x;rw[Array.size_map];split
 .rename_i h;have b:k-off<d.size:=by omega
  show (d.map enc)[k-off]! =enc d[k-off]!;rw[getElem!_pos _ _ (by simpa using b),getElem!_pos d _ b,Array.getElem_map]
 .rfl
theorem Kv{α:Type}[Inhabited α](enc:α->List Value)(d:∀x,(enc x).length=1)(w:World)(a off m:Nat)(b:Array α)(os:Array Obj):
 sortWorldK enc 1 w a off m b os=sortWorld (λx=>(enc x)[0]!) w a off m b os:=by
 unfold sortWorldK sortWorld putRowK putRow;rw[aAn enc d];congr 2;funext c;exact MI _ _ _ _
theorem QG{P:Program}{ρ:Ren}(L:SlLaysF.n6 P ρ): Rb P false (ρ.f 6) 1:=by
 intro m enc q D cf t g r a off cap d w z c B b l;have h:OneCell λx=>(enc x)[0]!:=by
  intro x;refine D x _ ?_;show (enc x)[0]!∈enc x;rw[getElem!_pos (enc x) 0 (by rw[q];omega)];exact List.getElem_mem _
 have p:CmpLays1 P g r (λx=>(enc x)[0]!) cf a off d.size w:=by
  intro A os v o x y;have:=c A os v o x y;rw[Kv enc q] at this;exact this
 have k:Holds (λx=>(enc x)[0]!) w a off d:=by
  intro j u;have:=B j (by simpa using u);rw[get_flatK _ _ _ _<|by omega,Nat.div_one,Nat.mod_one] at this;exact this
 refine (Any.slices_SortFunc_eq L (λx=>(enc x)[0]!) h cf t g r a off cap d w z p k b l).mono λe w' ⟨he,n,os,s⟩=>⟨he,n,os,?_⟩;rw[Kv enc q];exact s
end
section
open iG (den cds ag)
section
variable {P:Program}{cf cf':Nat->Nat->List AV->aM->Option (AV×aM)}
theorem FP(h:Le cf cf'){fl vi:Nat}{pu:Bool}{args:List AV}{H:aM}{x:AV×aM}(hx:kR cf fl pu vi args H=some x): kR cf' fl pu vi args H=some x:=by
 unfold kR at hx |-
 cases pu with
 | true=>
  simp only at hx |-
  cases hp:fO args with
  | true=>
   rw[hp] at hx
   simp only at hx |-
   split at hx
   .rename_i r H' he;rw[h _ _ _ _ _ he];exact hx
   .cases hx
  | false=>
   rw[hp] at hx
   simp only at hx |-
   split at hx
   .rename_i r H' he;rw[h _ _ _ _ _ he];exact hx
   .cases hx
 | false=>exact h _ _ _ _ _ hx
theorem KJ[aB](h:Le cf cf'){fl:Nat}{op:xP}{tm:List AV}{H:aM}{x:AV×aM}(hx:aI P cf fl op tm H=some x): aI P cf' fl op tm H=some x:=by
 cases op with
 | call pu vi args=>exact FP h hx
 | callv pu y args=>
  simp only[aI] at hx |-
  split at hx
  .rename_i vi caps he
   exact FP h hx
  .cases hx
 | callF vi args=>exact h _ _ _ _ _ hx
 | callS vi args=>
  simp only[aI] at hx |-
  split at hx
  .rename_i r H1 he
   rw[h _ _ _ _ _ he];exact hx
  .cases hx
 | callB vi args=>
  simp only[aI] at hx |-
  split at hx
  .rename_i r H1 he
   rw[h _ _ _ _ _ he];exact hx
  .cases hx
 | callT s vi args=>
  simp only[aI] at hx |-
  cases he:cf 0 vi ((args.map (aC tm)).map (eK H)) [] with
  | none=>rw[he] at hx;cases hx
  | some y=>rw[h _ _ _ _ _ he];rw[he] at hx;exact hx
 | _=>exact hx
theorem Xj[aB](h:Le cf cf'){fl:Nat}{o:aL}{st st':St}(hx:bD P cf fl o st=some st'): bD P cf' fl o st=some st':=by
 unfold bD at hx |-
 split at hx
 .split at hx
  .rename_i v H he
   rw[KJ h he];exact hx
  .cases hx
 .exact hx
 .cases hx
theorem EJ[aB](h:Le cf cf'){fl:Nat}: ∀(l:List aL) {st st':St},bE P cf fl l st=some st'->bE P cf' fl l st=some st'
 | [],_,_,hx=>hx
 | o::r,st,st',hx=>by
  simp only[bE] at hx |-
  split at hx
  .rename_i s1 he
   rw[Xj h he];exact EJ h r hx
  .cases hx
theorem Gg[aB](h:Le cf cf'){fl:Nat}: ∀(l:List aL) {st:St} {q:List St},cM P cf fl l st=some q->cM P cf' fl l st=some q
 | [],_,_,hx=>hx
 | o::r,st,q,hx=>by
  simp only[cM] at hx |-
  split at hx
  .rename_i s1 he
   rw[Xj h he]
   simp only
   split at hx
   .rename_i l1 h1
    rw[Gg h r h1];exact hx
   .cases hx
  .cases hx
theorem YN[aB](h:Le cf cf'){fl:Nat}{ck:List (Nat×Nat)}{ops:List aL}{st st':St}(hx:eI P cf fl ck ops st=some st'): eI P cf' fl ck ops st=some st':=by
 cases ck with
 | nil=>exact EJ h ops hx
 | cons c r=>
  unfold eI at hx |-
  cases hb:Nat.beq c.1 c.2 with
  | false=>
   simp only[hb] at hx |-
   split at hx
   .rename_i l he
    rw[Gg h ops he];exact hx
   .cases hx
  | true=>
   simp only[hb] at hx |-
   split at hx
   .rename_i l he
    rw[Gg h _ he];exact hx
   .cases hx
theorem Gh[aB]{head:St->St}{step step':St->Option (bP×St)}(hs:∀st x,step st=some x->step' st=some x): ∀(n m:Nat) (st:St) (x:bP×St),n<=m->dN head step n st=some x->dN head step' m st=some x
 | 0,_,_,_,_,hx=>by cases hx
 | n+1,m,st,x,hnm,hx=>by
  obtain⟨m,rfl⟩:∃q,m=q+1:=⟨m-1,by omega⟩
  simp only[dN] at hx |-
  cases he:step (head st) with
  | none=>rw[he] at hx;cases hx
  | some r=>
   rw[he] at hx
   rw[hs _ _ he]
   obtain⟨y,s⟩:=r
   cases y with
   | normal=>exact Gh hs n m s x (by omega) hx
   | exit i=>exact hx
   | ret=>exact hx
theorem DD{lx lr:List Bool}{tr:Bool}{fl n:Nat}{r r':Option (bP×St)}{x:bP×St}(h:∀y,r=some y->r'=some y)(hx:qJ lx lr tr fl n r=some x): qJ lx lr tr fl n r'=some x:=by
 cases r with
 | none=>cases hx
 | some y=>rw[h y rfl];exact hx
theorem XX[aB]{lx lr:List Bool}{t fl n:Nat}{r r':Option (bP×St)}{x:bP×St}(h:∀y,r=some y->r'=some y)(hx:SM lx lr t fl n r=some x): SM lx lr t fl n r'=some x:=by
 cases r with
 | none=>cases hx
 | some y=>rw[h y rfl];exact hx
theorem fB[aB](h:Le cf cf'){lf lf' fl:Nat}(hl:lf<=lf'): ∀(c:bI) (st:St) (x:bP×St),cH P cf lf fl c st=some x->cH P cf' lf' fl c st=some x
 | .skip,_,_,hx=>hx
 | .exit _,_,_,hx=>hx
 | .ret,_,_,hx=>hx
 | .stop,_,_,hx=>hx
 | .region _ ck ops,st,x,hx=>by
  simp only[cH] at hx |-
  split at hx
  .rename_i s1 he
   rw[YN h he];exact hx
  .cases hx
 | .seq a b,st,x,hx=>by
  simp only[cH] at hx |-
  cases he:cH P cf lf fl a st with
  | none=>rw[he] at hx;cases hx
  | some r=>
   rw[he] at hx
   rw[fB h hl a st r he]
   obtain⟨y,s⟩:=r
   cases y with
   | normal=>exact fB h hl b s x hx
   | exit i=>exact hx
   | ret=>exact hx
 | .cond c a b,st,x,hx=>by
  simp only[cH] at hx |-
  split at hx
  .exact fB h hl a st x hx
  .exact fB h hl b st x hx
  .cases hx
 | .block id c,st,x,hx=>by
  simp only[cH] at hx |-
  cases he:cH P cf lf fl c st with
  | none=>rw[he] at hx;cases hx
  | some r=>
   rw[he] at hx
   rw[fB h hl c st r he]
   exact hx
 | .loop live tr c,st,x,hx=>by
  simp only[cH] at hx |-
  exact Gh (λst x hs=>fB h hl c st x hs) lf lf' st x hl hx
 | .frz t c,st,x,hx=>by
  simp only[cH] at hx |-
  split at hx
  .rename_i v H he
   rw[KJ h he]
   exact fB h hl c _ x hx
  .cases hx
 | .told li lx lr c,st,x,hx=>by
  simp only[cH] at hx |-
  exact DD (λy hy=>fB h hl c _ y hy) hx
 | .mask lx lr tr c,st,x,hx=>by
  simp only[cH] at hx |-
  exact DD (λy hy=>fB h hl c st y hy) hx
 | .scope c,st,x,hx=>by
  simp only[cH] at hx |-
  exact fB h hl c st x hx
 | .nilIf t d0 d1 a b,st,x,hx=>by
  simp only[cH] at hx |-
  split at hx
  .split at hx
   .cases he:cH P cf lf fl a ⟨vX st.tmps t d0 d1 true,st.heap⟩ with
    | none=>rw[he] at hx;cases hx
    | some r=>rw[he] at hx;rw[fB h hl a _ r he];exact hx
   .exact fB h hl b _ x hx
   .split at hx
    .cases he:cH P cf lf fl a ⟨vX st.tmps t d0 d1 true,st.heap⟩ with
     | none=>rw[he] at hx;cases hx
     | some r=>
      cases he2:cH P cf lf fl b ⟨vX st.tmps t d0 d1 false,st.heap⟩ with
      | none=>rw[he,he2] at hx;obtain⟨y,s⟩:=r;cases y<;>cases hx
      | some r2=>rw[he,he2] at hx;rw[fB h hl a _ r he,fB h hl b _ r2 he2];exact hx
    .cases hx
   .cases hx
  .cases hx
 | .loopV live lx lr t c,st,x,hx=>by
  simp only[cH] at hx |-
  split at hx
  .rename_i s1 he
   exact XX (λy hy=>Gh (λst x hs=>fB h hl c st x hs) lf lf' s1 y hl hy) hx
  .cases hx
end
theorem YR[aB](P:Program)(T:List bK): ∀n,Le (dK P T n) (dK P T (n+1))
 | 0=>λ_ _ _ _ _ h=>by cases h
 | n+1=>λfl vi args H x hx=>by
  rw[dK] at hx |-
  split at hx
  .rename_i g _;exact g.mono _ _ (YR P T n) _ _ _ _ hx
  split at hx
  .cases hx
  .rename_i F hF
   cases he:cH P (dK P T n) n fl F.body ⟨args++List.replicate (F.nt-args.length) (.lit aW),H⟩ with
   | none=>rw[he] at hx;cases hx
   | some r=>
    rw[he] at hx
    rw[fB (YR P T n) (Nat.le_succ n) F.body _ r he]
    exact hx
theorem aAw[aB]{P:Program}{T:List bK}{n m fl vi:Nat}{args:List AV}{H:aM}{x:AV×aM}(hnm:n<=m)(hx:dK P T n fl vi args H=some x): dK P T m fl vi args H=some x:=by
 induction hnm with
 | refl=>exact hx
 | step _ ih=>exact YR P T _ _ _ _ _ _ ih
def awB(r:Option (AV×aM)): Bool:=match r with
 | some (a,_)=>match a with
  | .lit v=>match v with
   | .bool b=>b
   | _=>false
  | _=>false
 | none=>false
theorem aAP{r:Option (AV×aM)}(h:awB r=true): ∃H,r=some (.lit (.bool true),H):=by
 unfold awB at h
 split at h
 .split at h
  .split at h
   .subst h;exact⟨_,rfl⟩
   .cases h
  .cases h
 .cases h
theorem aIx{N n:Nat}{r:Bool}(h:cnd (Nat.ble N n) (some true) none=some r): N<=n/\r=true:=by
 cases hb:Nat.ble N n with
 | true=>rw[hb] at h;cases h;exact⟨Nat.le_of_ble_eq_true hb,rfl⟩
 | false=>rw[hb] at h;cases h
def aKp[cX][aB]{P:Program}{T:List bK}(vi kb N:Nat)(aw:awB (dK P T N 0 vi [] [])=true)(F:Nat->fJ []->Option (fJ ([kb].map .v)))(h:∀n p r,F n p=some r->N<=n/\Dh ([kb].map .v) r=[.lit (.bool true)]): ZM P T:=
 ⟨vi,⟨[],[kb],false,F⟩,by
  intro n p r hr bs q
  obtain⟨h1,h2⟩:=h n p r hr
  obtain⟨H,hH⟩:=aAP aw
  cases bs with
  | nil=>
   refine⟨[.lit (.bool true)],H,aAw h1 hH,λH1=>?_,λa ha l e=>?_,λe=>by cases e⟩
   .show Qc H1 (Dh ([kb].map .v) r) _
    rw[h2];exact⟨.l _,trivial⟩
   .cases List.mem_singleton.1 ha;cases e
  | cons x bs=>exact q.elim⟩
end
section
open Go.Proofs
theorem cE{a b:Bool}(h:a=true)(k:b=true): (a&&b)=true:=by rw[h,k];rfl
set_option maxHeartbeats 0 in
theorem K6: joinedFacts Tryz.prog 3 Tryz.f3 Rows.codecDamageSpec Rows.codecDamageRow=true:=by
 unfold joinedFacts
 exact cE (cE (cE (cE (cE (cE (cE (cE (cE (cE (cE (cE (cE (cE (cE (cE (cE (cE (cE (cE (cE (cE (cE (cE (cE (cE (cE (cE (cE (cE (cE (by kernel_rfl) (by kernel_rfl)) (by kernel_rfl)) (by kernel_rfl)) (by kernel_rfl)) (by kernel_rfl)) (by kernel_rfl)) (by kernel_rfl)) (by kernel_rfl)) (by kernel_rfl)) (by kernel_rfl)) (by kernel_rfl)) (by kernel_rfl)) (by kernel_rfl)) (by kernel_rfl)) (by kernel_rfl)) (by kernel_rfl)) (by kernel_rfl)) (by kernel_rfl)) (by kernel_rfl)) (by kernel_rfl)) (by kernel_rfl)) (by kernel_rfl)) (by kernel_rfl)) (by kernel_rfl)) (by kernel_rfl)) (by kernel_rfl)) (by kernel_rfl)) (by kernel_rfl)) (by kernel_rfl)) (by kernel_rfl)) (by kernel_rfl)
theorem aHF: Rows.codecDamageRow.wfByText (OpenSpec.ofChange Rows.codecDamageSpec)=true:=by kernel_rfl
theorem aHG: Tryz.prog.mainIs=some (true,"03310e52eccc3a88c76eb8eaa765e82b8359edf8aa07e6ea191ff507add9f51f".toList):=by kernel_rfl
theorem aHJ: Tryz.prog.funcNamed "mapsheets/mapsheetslaw22.CodecDamage"=some 3:=by kernel_rfl
theorem aHH: true=Tryz.prog.looks []:=by kernel_rfl
theorem aFG: Tryz.prog.wantsStandIn 3=false:=by kernel_rfl
theorem aFF: Tryz.prog.wantsStandIn 5=false:=by kernel_rfl
theorem aCM: Tryz.prog.wantsStandIn 29=false:=by kernel_rfl
theorem aCL: Tryz.prog.wantsStandIn 32=false:=by kernel_rfl
theorem aHI: false=Rows.codecDamageRow.goesBy Tryz.prog:=by kernel_rfl
end
end Go.Proofs.YtideamafblopcaaGreatDoor.Av
