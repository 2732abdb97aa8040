/- A part of the proof of a law. -/
import Derived.Test.YthadajkojciapaaGreatDoorP7
import Derived.Test.YthadajkojciapaaGreatDoorP1
import Derived.Lib.IndexMore
import Derived.Test.YthadajkojciapaaGreatDoorP5
import Derived.Recover
import Derived.Shelf.SlSortCmp.NoneTotal
set_option maxRecDepth 100000
set_option maxHeartbeats 4000000
set_option linter.all false
namespace Go.Proofs.YthadajkojciapaaGreatDoor.Av
open Go
section
open gO (den cds ag)
section
variable [cN]{R:Type}{H H1:TH}{A:aK}{N:Nat}{S:TS}{st:St}{P:Program}{T:List bC}{cf:CF}{op:tK}{K:TV->TS->Option R}{r:R}{E:XE}{n:Nat}{d:Option Nat}
theorem Vg{o:BinOp}{b:Bool}{K:TV->Option R}(h:RZ o b K=some r): (o=.eql/\K (.lit<|.bool b)=some r)\/(o=.neq/\K (.lit<|.bool<|!b)=some r):=by
 unfold RZ at h;split at h
 .cases b<;>exact .inl ⟨rfl,h⟩
 .cases b<;>exact .inr ⟨rfl,h⟩
 .cases h
theorem ZJ[aA]{fl:Nat}{H:aK}{t:TypeId}{a:Int}: aG P cf fl (.bin .shr t (.tmp 0)<|.tmp 1) [.lit<|.int .u64 a,.lit<|.int .u64 1] H=some (.lit<|.int .u64<|a.fdiv 2,H):=by
 have b:aJ P (eqGuard .shr t (.tmp 0) (.tmp 0) (.int .u64 a)<|.int .u64 1)=some ():=rfl;have c:aJ P (binOp .shr t (.int .u64 a)<|.int .u64 1)=some (.int .u64<|a.fdiv 2):=by
  simp[binOp,Op.shift];rfl
 simp only[aG,aB,List.getElem?_cons_zero,List.getElem?_cons_succ,lits,lD,if_true,b,c]
theorem Lx{k:Nat}: ∀{cs:List TV}{es:List AV}{l:List (den k)},Qc S.hp cs es->oR [] k (cs.map λc=>[c])=some l->Ql k l (es.map λc=>[tJ c])
 | [],[],l,_,h=>by simp only[List.map_nil,oR,Option.some.injEq] at h;subst h;trivial
 | c::cs,a::es,l,q,h=>by
  simp only[List.map_cons,oR] at h;split at h
  .rename_i x e;split at h
   .rename_i y g;cases h;exact⟨sI.r (gC e (aw:=[a]) ⟨q.1,trivial⟩),Lx q.2 g⟩
   .cases h
  .cases h
 | [],_::_,_,q,_=>by cases q
 | _::_,[],_,q,_=>by cases q
theorem VJ[aA]{s m:Nat}{x i:aN}(u:Qt N S st)(h:bO E n d (.idxArr s m x i) S K=some r): bT P cf E.fl N (.idxArr s m x i) st K r:=by
 have q:=u.get x;simp only[bO] at h;split at h
 .rename_i cs j;rw[j] at q;split at h
  .rename_i e;simp only[Bool.and_eq_true] at e;let⟨e1,e2,e3⟩:=e
   have e1:=Nat.eq_of_beq_eq_true e1;have e2:=Nat.eq_of_beq_eq_true e2;subst e1;split at h
   .rename_i b I;split at h
    .rename_i l G;let⟨y,C,h⟩:=aX h;let⟨R,L,W⟩:=mF C;let⟨aw,w,p⟩:=(q.pu trivial).inR
     have o:aw.length=m:=by rw[p.len,e2]
     have z:eO (aB st.tmps i)=some b.toNat:=kF I (u.get i) R
     have gq:Ql (fN E d) l (aw.map λc=>[c]):=Kh G (H':=S.hp) (bG.map (R:=Qh S.hp) (λa b t=>⟨t,trivial⟩) p.c)
     let⟨row,Q,O⟩:=gq.get L
     simp only[List.getElem?_map,Option.map_eq_some_iff] at Q;obtain⟨v,Q,rfl⟩:=Q
     have a:b.toNat<m:=by rw[<-o];exact (List.getElem?_eq_some_iff.1 Q).1
     have hd:(aw.drop (b.toNat*1)).take 1=[v]:=by
      rw[Nat.mul_one,List.drop_eq_getElem_cons (by rw[o];exact a)];simp only[List.take_succ_cons,List.take_zero];rw[(List.getElem?_eq_some_iff.1 Q).2]
     refine bT.same (v:=.rptr [v]) u ?_ (.p _ _<|Qp.mkR O) h;simp only[aG,z,a,if_true,w,hd]
    .cases h
   .cases h
  .cases h
 .cases h
theorem Zm{k:Nat}{l:List (den k)}{es:List (List AV)}(q:Ql k l es)(e:(cds k).length=1): ∀{m i:Nat}{K:List TV->Option R}{r:R},RJ k l m i K=some r->∃cs,K cs=some r/\(0<m->i+m<=l.length)/\Qr cs ((es.drop i).take m).flatten
 | 0,i,K,r,h=>⟨[],h,λh=>absurd h (Nat.lt_irrefl 0),by simp only[List.take_zero,List.flatten_nil];trivial⟩
 | m+1,i,K,r,h=>by
  let⟨x,C,h⟩:=aX (show bnd (idx l ((i:Nat):Int)) _=some r from h);let⟨R,L,W⟩:=mF C;let⟨cs,g,a,b⟩:=Zm q e h
  have L:l[i]?=some x:=by simpa using L
  let⟨row,Q,O⟩:=q.get L;have z:=(List.getElem?_eq_some_iff.1 L).1;have y:=(List.getElem?_eq_some_iff.1 Q).1
  refine⟨_,g,λ_=>?_,?_⟩
  .cases m with
   | zero=>omega
   | succ m=>have:=a (by omega);omega
  .rw[List.drop_eq_getElem_cons y,List.take_succ_cons,List.flatten_cons,(List.getElem?_eq_some_iff.1 Q).2];exact O.app b
theorem QE{k:Nat}{l:List (den k)}{es:List (List AV)}(q:Ql k l es)(e:(cds k).length=1): cT 1 es=true:=q.all e
theorem YS[aA]{x:aN}(a:Qt N S st)(h:bO E n d (.tail2 x) S K=some r): bT P cf E.fl N (.tail2 x) st K r:=by
 have q:=a.get x;simp only[bO] at h;split at h
 case h_2=>cases h
 rename_i vs g;rw[g] at q;let⟨aw,e,j⟩:=q.inT
 split at h
 case h_2=>cases h
 split at h
 case h_2=>cases h
 rename_i v0 v1 rr
 match aw,j with
 | _::_::aw,⟨_,_,j⟩=>
 match rr,aw,j,h with
 | [],[],_,h=>exact bT.same (v:=.tup []) a (by simp only[aG,e];rfl) (Qh.mkT (cs:=[]) trivial) h
 | y::rr,b::aw,⟨j,_⟩,h=>exact bT.same a (by simp only[aG,e];rfl) j h
theorem WU[aA]{s m:Nat}{x:aN}(u:Qt N S st)(h:bO E n d (.arrPtr s m x) S K=some r): bT P cf E.fl N (.arrPtr s m x) st K r:=by
 have q:=u.get x;simp only[bO] at h;split at h
 .rename_i k l j;rw[j] at q;split at h
  .rename_i e;simp only[Bool.and_eq_true] at e;have e1:=Nat.eq_of_beq_eq_true e.1;have e2:0<m:=by simpa [Nat.blt_eq] using e.2
   let⟨es,Q,D⟩:=(q.pu trivial).inV;let⟨cs,h,a,b⟩:=Zm D e1 h;have a:=a e2;rw[List.drop_zero] at b
   have al:=QE D e1;have L:=D.len
   rcases Q with⟨t,z⟩ | ⟨f,t⟩ | t
   .subst z;simp at L;omega
   .refine bT.same (v:=.rptr (es.take m).flatten) u ?_ (.p _ _<|Qp.mkR b) h;simp only[aG,t];rw[if_pos ⟨by omega,e2,al⟩]
   .refine bT.same (v:=.rptr (es.take m).flatten) u ?_ (.p _ _<|Qp.mkR b) h;simp only[aG,t];rw[if_pos ⟨by omega,e2,al⟩]
  .cases h
 .cases h
theorem ZG[aA]{s m:Nat}{x:aN}(u:Qt N S st)(h:bO E n d (.slArr s m x) S K=some r): bT P cf E.fl N (.slArr s m x) st K r:=by
 have q:=u.get x;simp only[bO] at h;split at h
 case h_2=>cases h
 rename_i id off j;rw[j] at q;split at h
 case h_2=>cases h
 split at h
 .cases h
 rename_i b;have b:=Nat.le_of_ble_eq_true b;split at h
 case h_2=>cases h
 rename_i o z;split at h
 case h_2=>cases h
 rename_i cs;split at h
 case h_2=>cases h
 rename_i e;simp only[Bool.and_eq_true] at e;let⟨e1,e2,_⟩:=e
 have e1:=Nat.eq_of_beq_eq_true e1
 have e2:0<m:=by simpa [Nat.blt_eq] using e2
 split at h
 case h_2=>cases h
 rename_i l G
 let⟨aw,w,p⟩:=u.hp.box z
 have hl:aw.length=m:=p.len.trans e1
 have sg:=yW u (List.getElem?_eq_some_iff.1 z).1<|.blk cs.length<|[aw]++[List.replicate cs.length .undef]
 refine⟨.sl true (aw.map λc=>[tJ c]),_,.sl (fN E d) l,_,?_,sg,.p _ _<|Qp.mkS (.inr ⟨_,rfl⟩)<|Lx p G,h⟩
 simp only[aG,q.ptr1,b,if_true,w,List.length_singleton,List.getElem?_cons_zero,hl,e2,and_self]
theorem WP[aA]{fl:Nat}{H:aK}{t:TypeId}{o:BinOp}{v u w:Value}(b:aJ P (eqGuard o t (.tmp 0) (.tmp 0) v u)=some ())(c:aJ P (binOp o t v u)=some w)(a:lD v=true): aG P cf fl (.bin o t (.tmp 0)<|.tmp 1) [.lit v,.lit u] H=some (.lit w,H):=by
 simp only[aG,aB,List.getElem?_cons_zero,List.getElem?_cons_succ,lits,a,if_true,b,c]
theorem Vl[aA](P:Program)(cf:CF)(fl:Nat)(H:aK)(t:TypeId){o:BinOp}{k:IntKind}{a b:Int}{K:TV->Option R}(h:shT o k a b K=some r): ∃z,(∀k':IntKind,aG P cf fl (.bin o t (.tmp 0)<|.tmp 1) [.lit<|.int k a,.lit<|.int k' b] H=some (.lit<|.int k z,H))/\K (.lit<|.int k z)=some r:=by
 unfold shT at h;split at h
 .let⟨z,i,h⟩:=aX h;have hb:0<=b:=of_decide_eq_true (iA i)
  refine⟨_,λk'=>WP rfl ?_ rfl,h⟩;simp[binOp,Op.shift,Int.not_lt.2 hb];rfl
 .let⟨z,i,h⟩:=aX h;have hb:0<=b:=of_decide_eq_true (iA i)
  refine⟨_,λk'=>WP rfl ?_ rfl,h⟩;simp[binOp,Op.shift,Int.not_lt.2 hb];rfl
 .cases h
theorem HV[aA]{fl:Nat}{H:aK}{t:TypeId}{o:BinOp}{k:IntKind}{a b:Int}(h:o=.and\/o=.or\/o=.xor): aG P cf fl (.bin o t (.tmp 0)<|.tmp 1) [.lit<|.int k a,.lit<|.int k b] H=some (.lit<|.int k (dX o k a b),H):=by
 rcases h with rfl | rfl | rfl<;>exact WP rfl (by simp[binOp,Op.intBits];rfl) rfl
theorem aBy[aA]{o:BinOp}{t:TypeId}{x y:aN}(D:Qg P T E)(p:Qt N S st)(h:bO E n d (.bin o t x y) S K=some r): bT P cf E.fl N (.bin o t x y) st K r:=by
 have q:=p.get x;have j:=p.get y;have L:aG P cf E.fl (.bin o t x y) st.tmps st.heap=aG P cf E.fl (.bin o t (.tmp 0)<|.tmp 1) [aB st.tmps x,aB st.tmps y] st.heap:=rfl;have c:∀{v:Value},aG P cf E.fl (.bin o t (.tmp 0)<|.tmp 1) [aB st.tmps x,aB st.tmps y] st.heap=some (.lit v,st.heap)->K (.lit v) S=some r->bT P cf E.fl N (.bin o t x y) st K r:=
  λhe G=>bT.same p (L.trans he) (Qh.l _) G
 have h:X3 E o t (bH S.tm x) (bH S.tm y) (λv=>K v S)=some r:=h;unfold X3 at h;split at h
 .rename_i u F;rw[F] at q;have g:=q.inL;split at h
  .rename_i w Q;rw[Q] at j;have e2:=j.inL;split at h
   .rename_i a;split at h
    .rename_i b;rcases Vg h with⟨rfl,f⟩ | ⟨rfl,f⟩
     .exact c (by rw[g,e2];exact PW rfl) f
     .exact c (by rw[g,e2];exact PV rfl) f
    .cases h
   .split at h
    .rename_i e he;split at h
     .cases h
     .rename_i C;split at h
      .rename_i a B;split at h
       .rename_i b m;let⟨s,A⟩:=D.eq t e he cf E.fl st.heap a b [_] [_] (gC (H':=S.hp) B ⟨p.get x,trivial⟩)<|gC (H':=S.hp) m ⟨p.get y,trivial⟩;rw[C] at s A;rcases Vg h with⟨rfl,f⟩ | ⟨rfl,f⟩
        .exact c s f
        .exact c A f
       .cases h
      .cases h
    .cases h
   .rename_i k a;split at h
    .rename_i k' b;split at h
     .rename_i I _;subst I;split at h
      .let⟨z,i,h⟩:=aX h;unfold hM at i;split at i
       .cases i
       .rename_i m;cases i;exact c (by rw[g,e2];exact O4 m) h
      .let⟨z,i,h⟩:=aX h;exact c (by rw[g,e2];exact ZR i) h
      .split at h
       .split at h
        .rename_i J _;subst J;exact c (by rw[g,e2];exact ZJ) h
        .let⟨z,i,h⟩:=Vl P cf E.fl st.heap t h;exact c (by rw[g,e2];exact i _) h
       .let⟨z,i,h⟩:=Vl P cf E.fl st.heap t h;exact c (by rw[g,e2];exact i _) h
      .let⟨z,i,h⟩:=Vl P cf E.fl st.heap t h;exact c (by rw[g,e2];exact i _) h
      .exact c (by rw[g,e2];exact HV (.inl rfl)) h
      .exact c (by rw[g,e2];exact HV (.inr (.inl rfl))) h
      .exact c (by rw[g,e2];exact HV (.inr (.inr rfl))) h
      .cases h
     .let⟨z,i,h⟩:=Vl P cf E.fl st.heap t h;exact c (by rw[g,e2];exact i _) h
    .cases h
   .cases h
  .cases h
 .rename_i cs M;rw[M] at q;let⟨aw,g,q⟩:=q.inA;split at h
  .rename_i e he;split at h
   .rename_i C;split at h
    .rename_i a B;split at h
     .rename_i ds O;rw[O] at j;let⟨H,e2,j⟩:=j.inA;split at h
      .rename_i b m;let⟨s,A⟩:=D.eq t e he cf E.fl st.heap a b aw H (gC B q)<|gC m j;rw[C] at s A;rcases Vg h with⟨rfl,f⟩ | ⟨rfl,f⟩
       .exact c (by rw[g,e2];exact s) f
       .exact c (by rw[g,e2];exact A) f
      .cases h
     .cases h
    .cases h
   .cases h
  .cases h
 .cases h
theorem Q9[aA]{x:aN}(b:Qt N S st)(h:bO E n d (.movN x) S K=some r): bT P cf E.fl N (.movN x) st K r:=by
 have q:=b.get x;refine bT.same b rfl ?_ h;generalize bH S.tm x=v at q;generalize aB st.tmps x=a at q;have c:∀{v:TV} {a:AV},Qh S.hp v a->Qh S.hp (KY v) (k6 a):=by
  intro v a q;cases v with
  | agg cs=>obtain⟨aw,rfl,_⟩:=q.inA;exact q
  | _=>exact Wh q λcs e=>by cases e
 cases v with
 | agg cs=>
  obtain⟨aw,rfl,f⟩:=q.inA;exact Qh.mkA<|f.map λ_ _ q=>c q
 | undef=>exact Qh.u _
 | _=>
  have:=c q;cases a with
  | agg=>
   cases q with
   | p _ _ q=>cases q<;>simp_all
  | _=>exact this
theorem aCR[aA](f:Qg P T E)(e:Qt N S st)(h:bO E n d op S K=some r): bT P (eB P T n) E.fl N op st K r:=by
 cases op with
 | mov x=>exact aAX e h
 | movN x=>exact Q9 e h
 | pick c a b=>exact P2 e h
 | alloc z=>exact D7 e h
 | ptrK n=>exact bT.same e rfl (Qh.ptr _ _) h
 | claim s=>exact y8 e h
 | box x=>exact aBw e h
 | build z ps=>exact B6 e h
 | buildSl pu s m z ps=>exact PX e h
 | load agg m x=>exact R8 e h
 | store m x v=>exact YX e h
 | nilCheck x=>exact GF e h
 | ibin o x y=>exact U0 e h
 | bin o t x y=>exact aBy f e h
 | un o x=>exact aCE e h
 | slArr s m x=>exact ZG e h
 | fieldAddr o x=>exact CP e h
 | field a m o x=>exact u5 e h
 | idxAddr s x i=>exact PA e h
 | idxArr s m x i=>exact VJ e h
 | arrPtr s m x=>exact WU e h
 | tail2 x=>exact YS e h
 | lenS x=>exact S6 e h
 | append s b x y=>exact WW e h
 | extract x i=>exact PI e h
 | call pu vi u=>exact W6 f e h
 | callB vi u=>exact A8 f.cs e h
 | minmax mx u=>exact UL e h
 | callv pu x u=>exact A5 f e h
 | callT s vi u=>exact A6 f e h
 | mkFn vi u=>exact R1 e h
 | lenC n=>exact bT.same e rfl (Qh.l _) h
 | allocC z cl=>exact WY e h
 | boxC x cl=>exact W9 e h
 | buildC z ps cl=>exact WQ e h
 | index a s m x i=>exact u4 e h
 | mkMap=>exact k9 e h
 | lookup kt z m k ok=>exact US f e h
 | mapUpd kt m k v=>exact UP f e h
 | lenM x=>exact S7 e h
 | lenStr t x=>exact UU f e h
 | strIdx t x i=>exact RQ f e h
 | strSlice t x lo hi=>exact EM e h
 | rangeStr x=>exact FM e h
 | nextStr x=>exact ON e h
 | conv a b x=>exact V6 f e h
 | slice s x lo hi mx=>exact ZF e h
 | mkSlice s z b x y=>exact OO e h
 | callF vi u=>exact A7 f e h
 | copy s x y=>exact V5 e h
 | clear s z x=>exact y7 e h
 | capS x=>exact W5 e h
 | appendZ s b z x m=>exact QB e h
 | loadF m k x=>exact n5 e h
 | _=>cases h
theorem KC{v:TV}{a:AV}{K:TS->Option R}(h:ZY N d v S K=some r)(b:Qt N S st)(q:Qh S.hp v a): ∃c,Qt N c ⟨dL st.tmps d a,st.heap⟩/\K c=some r:=by
 unfold ZY at h;split at h
 .split at h
  .rename_i e;exact⟨_,b.put (by simpa [Nat.blt_eq] using e) q,h⟩
  .cases h
 .exact⟨S,b,h⟩
theorem yO{t:Nat}{b:Bool}(c:Qt N S st)(h:dV t S.tm=some (.lit<|.bool b)): Qt N (Zx t b S) st:=by
 refine⟨c.ln,λu w a=>?_,c.hp⟩;simp only[Zx,dV] at a;split at a
 .rename_i e;have e:=Nat.eq_of_beq_eq_true e;subst e;cases a;exact c.tm _ _ h
 .exact c.tm u w a
theorem u6[aA]{o:aH}{K:TS->Option R}(f:E.nt=N)(l:Qg P T E)(g:Qt N S st)(h:VV E n o S K=some r):
 ∃v a b,aG P (eB P T n) E.fl o.op st.tmps st.heap=some (v,a)/\Qt N b ⟨dL st.tmps o.dst v,a⟩/\K b=some r:=by
 let⟨v,a,tv,b,k,e,i,c⟩:=aCR l g h;rw[f] at c;let⟨j,m,d⟩:=KC c e i;exact⟨v,a,j,k,m,d⟩
theorem TK[aA]{o:aH}{K:TS->Option R}(t:E.nt=N)(y:Qg P T E)(f:Qt N S st)(h:Xg E n o S K=some r): ∃st' c,aV P (eB P T n) E.fl o st=some st'/\Qt N c st'/\K c=some r:=by
 have s:∀{j:TS},bY st.tmps o.guard=some true->Qt N j st->VV E n o j K=some r->∃st' c,aV P (eB P T n) E.fl o st=some st'/\Qt N c st'/\K c=some r:=by
  intro j i f h;let⟨v,C,c,m,q,B⟩:=u6 t y f h;exact⟨_,c,by simp only[aV,i,m],q,B⟩
 have off:∀{j:TS},bY st.tmps o.guard=some false->Qt N j st->CQ E o j K=some r->∃st' c,aV P (eB P T n) E.fl o st=some st'/\Qt N c st'/\K c=some r:=by
  intro j i f h;unfold CQ at h;rw[t] at h;let⟨c,m,q⟩:=KC h f<|Qh.l _;exact⟨_,c,by simp only[aV,i],m,q⟩
 unfold Xg at h;split at h
 .rename_i p;exact s (by rw[p];rfl) f h
 .rename_i g p;split at h
  .rename_i v k;split at h
   .rename_i u;let⟨a,x,A⟩:=f.tm _ _ k;have z:=A.inL;subst z;have i:∀w,(match (AV.lit u:AV) with | .lit (.bool b)=>some (b==g.2) | .lit _=>some false | _=>none)=w->bY st.tmps o.guard=w:=by
     intro w e;rw[p];simp only[bY,aB,x];exact e
    split at h
    .rename_i b;split at h
     .rename_i d;cases b with
      | true=>exact s (i _<|by simp[d]) (yO f k) h
      | false=>exact off (i _<|by simp[d]) (yO f k) h
     .rename_i d;cases b with
      | true=>exact off (i _<|by simp[d]) (yO f k) h
      | false=>exact s (i _<|by simp[d]) (yO f k) h
    .exact off (i _ rfl) f h
    .cases h
   .cases h
  .cases h
theorem H7[aA](e:E.nt=N)(d:Qg P T E): ∀{l:List aH} {S:TS} {st:St} {K:TS->Option R},Qt N S st->VU E n l S K=some r->∃st' c,aW P (eB P T n) E.fl l st=some st'/\Qt N c st'/\K c=some r
 | [],S,st,K,b,h=>⟨st,S,rfl,b,h⟩
 | o::l,S,st,K,b,h=>by
  let⟨q,s,i,m,p⟩:=TK e d b h;let⟨a,g,j,k,f⟩:=H7 e d m p;exact⟨a,g,by simp only[aW,i,j],k,f⟩
theorem Q5{H:TH}{v:TV}{a:AV}{o:Option Nat}(q:Qh H v a)(h:OI v=some o): Hb a=o:=by
 cases v with
 | undef=>cases h
 | tup=>cases h
 | agg=>cases h
 | fn=>cases h
 | ptr=>cases h;rw[q.ptr1];rfl
 | pel=>cases h;let⟨_,_,_,_,_,e⟩:=q.pel1;rw[e];rfl
 | ms id m=>
  cases h;cases q with
  | p _ _ q=>cases q
  | ms=>rfl
  | msn=>rfl
 | mp=>cases h;rw[q.mp1];rfl
 | rs=>cases h;rw[q.rs1];rfl
 | rel=>cases h;rw[q.rel1];rfl
 | lit=>cases h;rw[q.inL];rfl
 | emp=>cases h;cases (q.pu trivial) with
  | emp _ _ h=>rcases h with rfl | rfl | ⟨_,rfl⟩<;>rfl
 | sl=>cases h;let⟨es,b,_⟩:=(q.pu trivial).inS;rcases b with⟨rfl,_⟩ | ⟨f,rfl⟩<;>rfl
 | vw=>cases h;let⟨es,b,_⟩:=(q.pu trivial).inV;rcases b with⟨rfl,_⟩ | ⟨f,rfl⟩ | rfl<;>rfl
 | slF=>cases h;let⟨es,b,_⟩:=(q.pu trivial).inE;rcases b with⟨rfl,_⟩ | rfl<;>rfl
 | rptr=>cases h;obtain⟨_,rfl,_⟩:=(q.pu trivial).inR;rfl
 | sptr=>cases h;obtain⟨_,rfl,_⟩:=(q.pu trivial).inP;rfl
 | rmp=>cases h;let⟨_,b,_⟩:=(q.pu trivial).inM;rcases b with⟨rfl,_⟩ | rfl<;>rfl
 | it=>cases h;cases q with
  | p _ _ q=>cases q
  | it=>rfl
theorem KG{H:TH}{v:TV}{a:AV}(q:Qh H v a)(h:P1 v=true): tX a=true:=by
 cases v with
 | lit=>rw[q.inL];rfl
 | emp=>cases (q.pu trivial) with
  | emp _ _ h=>rcases h with rfl | rfl | ⟨_,rfl⟩<;>rfl
 | sl=>let⟨es,c,_⟩:=(q.pu trivial).inS;rcases c with⟨rfl,_⟩ | ⟨f,rfl⟩<;>rfl
 | rptr=>obtain⟨_,rfl,_⟩:=(q.pu trivial).inR;rfl
 | sptr=>obtain⟨_,rfl,_⟩:=(q.pu trivial).inP;rfl
 | rmp=>let⟨_,c,_⟩:=(q.pu trivial).inM;rcases c with⟨rfl,_⟩ | rfl<;>rfl
 | _=>cases h
theorem KE{H:TH}: ∀{vs:List TV} {aw:List AV},Qc H vs aw->a8 vs=true->wH aw=true
 | [],[],_,_=>rfl
 | v::vs,a::aw,q,h=>by
  simp only[a8] at h;split at h
  .rename_i e;simp only[wH,KG q.1 e,KE q.2 h]
  .cases h
 | [],_::_,q,_=>q.elim
 | _::_,[],q,_=>q.elim
theorem b7{H:TH}{v:TV}{a:AV}(q:Qh H v a)(h:aAP v=true): lB a=true:=by
 cases v with
 | agg cs=>obtain⟨aw,rfl,q'⟩:=q.inA;exact KE q' h
 | _=>
  have b:=KG q h;cases a<;>first | exact b | cases b
theorem KF{H:TH}: ∀{vs:List TV} {aw:List AV},Qc H vs aw->a9 vs=true->eM aw=true
 | [],[],_,_=>rfl
 | v::vs,a::aw,q,h=>by
  simp only[a9] at h;split at h
  .rename_i e;simp only[eM,b7 q.1 e,KF q.2 h]
  .cases h
 | [],_::_,q,_=>q.elim
 | _::_,[],q,_=>q.elim
theorem JH[aA]{g:tK}{o:Option Nat}(d:Qt N S st)(h:Sp g S.tm=some o): bL g st.tmps=some o:=by
 cases g with
 | call pu vi a=>
  cases pu with
  | false=>cases h
  | true=>
   simp only[Sp] at h;split at h
   .rename_i e;cases h;simp only[bL,KF (Nm d a) e]
   .cases h
 | callB vi a=>
  simp only[Sp] at h;split at h
  .rename_i x;have q:=d.get x;split at h
   .rename_i c;cases h;rw[c] at q;let⟨_,i,_⟩:=(q.pu trivial).inS;simp only[bL];rcases i with⟨e,_⟩ | ⟨f,e⟩<;>rw[e]
   .rename_i c;cases h;rw[c] at q;let⟨_,i,_⟩:=(q.pu trivial).inV;simp only[bL];rcases i with⟨e,_⟩ | ⟨f,e⟩ | e<;>rw[e]
   .cases h
  .cases h
 | _=>first | cases h | (simp only[Sp] at h;simp only[bL,Q5 (d.get _) h])
theorem CA[aA]{i:tK}{n id:Nat}(j:Qt N S st)(h:Ey i S.tm n id=true): eP i st.tmps n id=true:=by
 cases i with
 | store m x v=>
  have q:=j.get x;simp only[Ey] at h;split at h
  .rename_i c;rw[c] at q;simp only[eP,q.ptr1];exact h
  .rename_i c;rw[c] at q;let⟨_,_,_,_,_,e⟩:=q.pel1;simp only[eP,e];exact h
  .cases h
 | append s b x y=>
  have q:=j.get x;simp only[Ey] at h;generalize bH S.tm x=v at q h;generalize d:aB st.tmps x=a at q;split at h
  .cases q with
   | p _ _ q=>cases q
   | ms=>simp only[eP,d];exact h
   | msn=>simp only[eP,d];exact h
  .cases (q.pu trivial) with
   | emp _ _ r=>rcases r with rfl | rfl | ⟨_,rfl⟩<;>(simp only[eP,d];exact h)
  .rw[q.inL] at d;simp only[eP,d];exact h
  .cases h
 | mapUpd kt m k v=>
  have q:=j.get m;simp only[Ey] at h;split at h
  .rename_i c;rw[c] at q;simp only[eP,q.mp1];exact h
  .cases h
 | _=>first | cases h | exact h
theorem Ux[aA]{g:Option<|Nat×Bool}{b:Bool}(f:Qt N S st)(h:Zf S.tm g=some b): bY st.tmps g=some b:=by
 unfold Zf at h;split at h
 .cases h;rfl
 .rename_i g;split at h
  .rename_i v d;let⟨a,c,q⟩:=f.tm _ _ d;split at h
   .have e:=q.inL;subst e;split at h
    .cases h;simp only[bY,aB,c]
    .cases h;simp only[bY,aB,c]
    .cases h
   .cases h
  .cases h
theorem WO[aA]{ops:List aH}{l:List TS}{m:List St}{k j:Nat}(p:bG (Qt N) l m)(h:ck1 ops l k j=true): vM ops m k j=true:=by
 unfold ck1 at h;split at h
 .rename_i ok g;split at h
  .rename_i u b;let⟨s,c,n⟩:=p.get b;simp only[vM,g,c];split at h
   .rename_i i;rw[Ux n i]
   .split
    .rfl
    .split at h
     .cases h
     .rename_i o q;rw[JH n q];split at h
      .rfl
      .rename_i id;split at h
       .rename_i t e;split at h
        .rename_i v d;let⟨r,a,f⟩:=p.get d;simp only[e,a];split at h
         .rename_i i;rw[Ux f i]
         .split
          .rfl
          .rw[<-f.hp.ln] at h;rw[CA f h]
        .cases h
       .cases h
  .cases h
 .cases h
theorem HN[aA]{ops:List aH}{l:List TS}{m:List St}(a:bG (Qt N) l m): ∀{b:List<|Nat×Nat},ckL ops l b=true->kX ops m b=true
 | [],_=>rfl
 | p::r,h=>by
  simp only[ckL] at h;split at h
  .rename_i e;simp only[kX,WO a e];exact HN a h
  .cases h
theorem v5{H H':TH}{u v:TV}{a b:AV}(x:Qh H u a)(y:Qh H' v b)(h:V1 H H' u v=some true): Rg 6 a b=true:=by
 unfold V1 at h;split at h
 .split at h
  case h_2=>cases h
  rw[x.inL,y.inL];split at h
  .split at h
   case h_2=>cases h
   split at h
   case h_2=>cases h
   rename_i e _;subst e;simp only[Option.some.injEq] at h
   simp only[Rg,MZ,decide_true,h]
  .split at h
   case h_2=>cases h
   simp only[Option.some.injEq,decide_eq_true_eq] at h;subst h
   simp only[Rg,MZ,decide_true]
  .split at h
   case h_2=>cases h
   simp only[Option.some.injEq,decide_eq_true_eq] at h;subst h
   simp only[Rg,MZ,beq_self_eq_true]
  .cases h
 .split at h
  case h_2=>cases h
  split at h
  case h_2=>cases h
  split at h
  case h_2=>cases h
  split at h
  case h_2=>cases h
  rename_i e;have e:=Nat.eq_of_beq_eq_true e;subst e;split at h
  case h_2=>cases h
  rename_i o g;split at h
  case h_2=>cases h
  split at h
  case h_2=>cases h
  rename_i p f;split at h
  case h_2=>cases h
  simp only[Option.some.injEq,decide_eq_true_eq] at h
  cases x with
  | p _ _ q=>cases q
  | ms _ k l g2=>
   cases y with
   | p _ _ q=>cases q
   | ms _ k' t f2=>
    rw[g] at g2;cases g2;rw[f] at f2;cases f2;simp only[Rg,h,Nat.beq_refl,Bool.and_self]
 .cases h
theorem MB{H H':TH}: ∀{cs ds:List TV}{aw bw:List AV},Qc H cs aw->Qc H' ds bw->VY H H' cs ds=some true->cs.length=ds.length/\YE (Rg 6) aw bw=true
 | [],ds,aw,bw,x,y,h=>by
  simp only[VY] at h;split at h
  .cases aw with
   | nil=>cases bw with
    | nil=>exact⟨rfl,rfl⟩
    | cons=>exact y.elim
   | cons=>exact x.elim
  .cases h
 | a::r,ds,aw,bw,x,y,h=>by
  simp only[VY] at h;split at h
  .cases h
  rename_i b s;split at h
  .cases h
  rename_i z e;split at h
  .cases h
  rename_i w f;simp only[Option.some.injEq,Bool.and_eq_true] at h;let⟨h1,h2⟩:=h;subst h1;subst h2
  cases aw with
  | nil=>exact x.elim
  | cons a' aw=>cases bw with
   | nil=>exact y.elim
   | cons b' bw=>
    let⟨i,j⟩:=MB x.2 y.2 f
    exact⟨by simp only[List.length_cons,i],by simp only[YE,v5 x.1 y.1 e,j]⟩
theorem RT[aA]{ops:List aH}{l:List TS}{m:List St}{k j:Nat}(p:bG (Qt N) l m)(h:EQ ops l k j=some true): vM ops m k j=true:=by
 unfold EQ at h;split at h
 case h_2=>cases h
 rename_i ok g;split at h
 case h_2=>cases h
 rename_i u b;let⟨s,c,n⟩:=p.get b;simp only[vM,g,c];split
 .rfl
 split at h
 case h_2=>cases h
 rename_i id q;rw[JH n q];split at h
 case h_2=>cases h
 rename_i om e;split at h
 case h_2=>cases h
 rename_i cl;split at h
 case h_2=>cases h
 rename_i v d;split at h
 case h_2=>cases h
 rename_i w d2;let⟨r,a,f⟩:=p.get d;let⟨r2,a2,f2⟩:=p.get d2;simp only[e,a];split
 .rfl
 split
 .rfl
 split at h
 case h_2=>cases h
 rename_i o z;split at h
 case h_2=>cases h
 split at h
 case h_2=>cases h
 rename_i o2 z2;split at h
 case h_2=>cases h
 let⟨aw,i,t⟩:=f.hp.box z;let⟨bw,i2,t2⟩:=f2.hp.box z2;let⟨L,M⟩:=MB t t2 h
 simp only[vY,cl,a,a2,i,i2,KX,YE,L,M,Nat.beq_refl,Bool.and_self]
theorem HO[aA]{ops:List aH}{l:List TS}{m:List St}(a:bG (Qt N) l m): ∀{b:List<|Nat×Nat},ckG ops l b=some true->kX ops m b=true
 | [],_=>rfl
 | p::r,h=>by
  simp only[ckG] at h;split at h
  .rename_i e;simp only[kX,WO a e];exact HO a h
  .split at h
   .cases h
   rename_i x e;split at h
   .cases h
   rename_i y f;simp only[Option.some.injEq,Bool.and_eq_true] at h;let⟨h1,h2⟩:=h;subst h1;subst h2
   simp only[kX,RT a e];exact HO a f
theorem FV[aA](k:E.nt=N)(j:Qg P T E): ∀{l:List aH} {S:TS} {st:St} {b:List TS} {K:List TS->TS->Option R},Qt N S st->Fe E n l S b K=some r->
 ∃e c st' i,bU P (eB P T n) E.fl l st=some c/\bG (Qt N) e c/\c.getLast?=some st'/\Qt N i st'/\K (b.reverse++e) i=some r
 | [],S,st,b,K,d,h=>⟨[S],[st],st,S,rfl,⟨d,trivial⟩,rfl,d,by simp only[Fe,List.reverse_cons] at h;exact h⟩
 | o::l,S,st,b,K,d,h=>by
  simp only[Fe] at h;let⟨w,y,u,v,t⟩:=TK k j d h;let⟨e,c,f,q,x,s,g,p,m⟩:=FV k j v t;refine⟨S::e,st::c,f,q,by simp only[bU,u,x],⟨d,s⟩,?_,p,by simp only[List.reverse_cons,List.append_assoc,List.singleton_append] at m;exact m⟩;cases c with
  | nil=>cases g
  | cons a r=>rw[List.getLast?_cons_cons];exact g
theorem Tw[aA]{n:Nat}: ∀{m:Nat}{ops:List aH}{l:List TS}{w:List St},bG (Qt N) l w->Wt n m ops l=true->wS n m ops w=true
 | 0,_,_,_,_,_=>rfl
 | _+1,[],_,_,_,h=>by cases h
 | _+1,_::_,[],_,_,h=>by cases h
 | _+1,_::_,_::_,[],a,_=>a.elim
 | m+1,o::r,s::l,t::w,a,h=>by
  simp only[Wt] at h;split at h
  .rename_i g;have k:=Tw a.2 h;simp only[wS]
   have y:(match dQ o.op with | true=>true | false=>match bY t.tmps o.guard with | some false=>true | _=>eP o.op t.tmps t.heap.length n)=true:=by
    split at g
    .rename_i q;rw[q]
    .rename_i q;rw[q];split at g
     .rename_i i;simp only[Ux a.1 i]
     .rw[a.1.hp.ln.symm] at g;have g:=CA a.1 g
      simp only;split<;>first | rfl | exact g
   exact (congrArg (λb=>match b with | true=>wS n m r w | false=>false) y).trans k
  .cases h
theorem aAD[aA](e:E.nt=N)(g:Qg P T E){f:List<|Nat×Nat}{l:List aH}{K:TS->Option R}(d:Qt N S st)(h:VT E n f l S K=some r): ∃st' a,dN P (eB P T n) E.fl f l st=some st'/\Qt N a st'/\K a=some r:=by
 unfold VT at h;split at h
 .exact H7 e g d h
 .rename_i c cs;split at h
  .rename_i w;let⟨p,q,st',a,j,o,k,i,b⟩:=FV e g d h;simp only[List.reverse_nil,List.nil_append] at b;split at b
   .rename_i m;exact⟨st',a,by simp only[dN,w,j,HN o m,k],i,b⟩
   .split at b
    .rename_i x m;let⟨y,z,b⟩:=aX b;have z:=iA z;subst z;exact⟨st',a,by simp only[dN,w,j,HO o m,k],i,b⟩
    .cases b
  .rename_i w
   have lz:∀vs:List Value,Qc (S.hp++[.box (vs.map .lit)]) (vs.map .lit)<|vs.map .lit:=λvs=>Qc.lits vs
   have d2:Qt N (tB S (.box ((FO l c.1).map .lit))) ⟨st.tmps,st.heap++[.blk (FO l c.1).length [(FO l c.1).map .lit]]⟩:=d.hpM HM.add<|d.hp.add (b:=.blk (FO l c.1).length [(FO l c.1).map .lit]) ⟨(FO l c.1).map .lit,by simp,Qc.lits _⟩
   rw[<-d.hp.ln] at h
   let⟨p,q,st',a,j,o,k,i,b⟩:=FV e g d2 h;simp only[List.reverse_nil,List.nil_append] at b;split at b
   .rename_i m;split at b
    .rename_i y;exact⟨st',a,by simp only[dN,w,j,HN o m,Tw o y,k],i,b⟩
    .cases b
   .cases b
end
def fT: bK->List bK
 | .seq a b=>fT a++fT b
 | .cond _ a b=>fT a++fT b
 | .block _ c=>fT c
 | .loop _ _ c=>fT c
 | .mask lx lr tr c=>.mask lx lr tr c::fT c
 | .told li lx lr c=>.told li lx lr c::fT c
 | .scope c=>fT c
 | .frz _ c=>fT c
 | _=>[]
theorem mL: ∀c,Wl c=(fT c).length
 | .seq a b=>by simp[Wl,fT,mL a,mL b]
 | .cond _ a b=>by simp[Wl,fT,mL a,mL b]
 | .block _ c=>mL c
 | .scope c=>mL c
 | .frz _ c=>mL c
 | .mask _ _ _ c=>by simp only[Wl,fT,List.length_cons,mL c];omega
 | .told _ _ _ c=>by simp only[Wl,fT,List.length_cons,mL c];omega
 | .skip=>rfl
 | .region ..=>rfl
 | .loop _ _ c=>mL c
 | .exit _=>rfl
 | .ret=>rfl
 | .nilIf ..=>rfl
 | .loopV ..=>rfl
 | .stop=>rfl
section
variable [cN]
def EP{P:Type}(R:Type): List (vR P)->Type
 | []=>Unit
 | o::r=>(o.lay.V->Option R)×EP R r
def Fd{P R:Type}(f:List cG)(p:P): {l:List<|vR P}->ES R l->EP R l
 | [],_=>()
 | o::_,e=>(λt=>e.1 f (o.pr p) t,Fd f p e.2)
def Ck{P R:Type}: (l:List<|vR P)->(kR l->R)->EP R l
 | [],_=>()
 | [_],f=>(λt=>some<|f t,())
 | _::o'::r,f=>(λt=>some<|f<|.inl t,Ck (o'::r) λs=>f<|.inr s)
def OR{V X:Type}(B:(V->Option X)->V->Option X): Nat->V->Option X
 | 0,_=>none
 | m+1,q=>B (OR B m) q
def P6{P R:Type}(n:Nat)(outs:List<|vR P)(lx lr:List Bool)(e:ES R outs)(x:bJ)(S:TS): Option R:=match x with
 | .ret=>pA n .ret ⟨qG lr S.tm,S.hp⟩ outs e
 | x=>pA n x ⟨qG lx S.tm,S.hp⟩ outs e
def OKs(sp:Jx): Prop:=∀p q,∀o∈sp.outs,Z0 sp p q o
def DJ(E:XE)(i:Nat): List Jx:=match dV i E.ls with
 | some l=>l
 | none=>[]
variable [aA](P:Program)(T:List bC)(N fl:Nat)
inductive LOK: bK->Jx->Prop
 | loop (lx lr live:List Bool) (tr tr':Bool) (b:bK) (sp:Jx) (E:XE) (B:Nat->sp.ins.P->(sp.ins.V->Option (kR sp.outs))->EP (kR sp.outs) sp.outs->sp.ins.V->Option (kR sp.outs)) :
  Qg P T E->E.nt=N->E.fl=fl->(∀(j:Nat) (c:bK) (s:Jx),(fT b)[j]?=some c->s∈DJ E j->LOK c s)->
  OKs sp->s5 (.mask lx lr tr (.loop (some live) tr' b)) sp.kt=true->
  (∀n p q,sp.F n p q=OR (λk q=>B n p k (Ck sp.outs id) q) n q)->
  (∀n φ p q k e,Hq E n b 0 (sp.ins.mkG sp.ins.os.length φ p q) (ZP sp.ins sp.outs live tr' lx lr tr sp.ins.os.length k e)=B n p (k (sp.ins.fo.map φ) p) (Fd (sp.ins.fo.map φ) p e) q)->
  LOK (.mask lx lr tr (.loop (some live) tr' b)) sp
 | told (li lx lr:List Bool) (b:bK) (sp:Jx) (E:XE) (B:Nat->sp.ins.P->EP (kR sp.outs) sp.outs->sp.ins.V->Option (kR sp.outs)) :
  Qg P T E->E.nt=N->E.fl=fl->(∀(j:Nat) (c:bK) (s:Jx),(fT b)[j]?=some c->s∈DJ E j->LOK c s)->
  OKs sp->s5 (.told li lx lr b) sp.kt=true->
  (∀n p q,sp.F n p q=B n p (Ck sp.outs id) q)->
  (∀n φ p q e,Hq E n b 0 (sp.ins.mkG sp.ins.os.length φ p q) (P6 sp.ins.os.length sp.outs lx lr e)=B n p (Fd (sp.ins.fo.map φ) p e) q)->
  LOK (.told li lx lr b) sp
open Classical in
noncomputable def QS{P R:Type}(f:List cG)(p:P): (l:List (vR P))->(kR l->R)->ES R l
 | [],_=>()
 | [o],g=>(λf' p' t=>if f'=f/\p'=o.pr p then some (g t) else none,())
 | o::o'::r,g=>(λf' p' t=>if f'=f/\p'=o.pr p then some (g (.inl t)) else none,QS f p (o'::r) λs=>g (.inr s))
theorem Xe{P R:Type}(f:List cG)(p:P): ∀(l:List<|vR P) (g:kR l->R),Fd f p (QS f p l g)=Ck l g
 | [],_=>rfl
 | [o],g=>by simp only[QS,Fd,Ck,and_self,if_pos];rfl
 | o::c::r,g=>by
  have d:=Xe f p (c::r) λs=>g<|.inr s;have e:∀(a:List cG->o.lay.P->o.lay.V->Option R) (b:ES R (c::r)),Fd f p (l:=o::c::r) (a,b)=(λt=>a f (o.pr p) t,Fd f p (l:=c::r) b):=λ_ _=>rfl;rw[QS,e,d];simp only[and_self,if_pos,Ck];rfl
theorem Ks{P R:Type}{n:Nat}{f:List cG}{p:P}{x:bJ}{S:TS}{y:R}: ∀{l:List<|vR P} {g:kR l->R},pA n x S l (QS f p l g)=some y->∃t,y=g t/\uZ (λo t=>JP o.x x=true/\o.lay.getF n S=some (f,o.pr p,t)) l t
 | [],g,h=>by cases h
 | [o],g,h=>by
  simp only[pA,QS] at h;split at h
  .rename_i c;split at h
   .rename_i i p' t a;split at h
    .rename_i e;cases h;exact⟨t,rfl,c,by rw[a,e.1,e.2]⟩
    .cases h
   .cases h
  .cases h
 | o::b::r,g,h=>by
  have d:pA n x S (b::r) (QS f p (b::r) λs=>g<|.inr s)=some y->∃t,y=g t/\uZ (λo t=>JP o.x x=true/\o.lay.getF n S=some (f,o.pr p,t)) (o::b::r) t:=by
   intro h;let⟨t,k,j⟩:=Ks h;exact⟨.inr t,k,j⟩
  rw[pA] at h;split at h
  .rename_i c;split at h
   .rename_i i p' t a;simp only[QS] at h;split at h
    .rename_i e;cases h;exact⟨.inl t,rfl,c,by rw[a,e.1,e.2]⟩
    .cases h
   .exact d h
  .exact d h
theorem AA{x y:bJ}(h:JP x y=true): x=y:=by
 cases x<;>cases y<;>first | rfl | cases h | exact congrArg _ (Nat.eq_of_beq_eq_true h)
variable {P T N fl}{R:Type}
theorem Uz{n:Nat}{b:Bool}{e:TT}{S:TS}{K:bJ->TS->Option R}{r:R}: ∀{l:List Jx},NA n b e S K l=some r->∃sp∈l,∃p q,sp.ins.fit S=some (p,q)/\Ip (sp.kl++sp.ins.fo) 0 S.hp (sp.ins.mk' p q).hp=true/\G0 p b sp.outs (sp.F n p q) (λx g=>K x<|aft sp e S.hp x g)=some r
 | [],h=>by cases h
 | sp::l,h=>by
  simp only[NA] at h;split at h
  .rename_i p q i;split at h
   .rename_i f;exact⟨sp,List.mem_cons_self,p,q,i,f,h⟩
   .let⟨a,d,c⟩:=Uz h;exact⟨a,List.mem_cons_of_mem _ d,c⟩
  .let⟨a,d,c⟩:=Uz h;exact⟨a,List.mem_cons_of_mem _ d,c⟩
theorem WX{E:XE}{i:Nat}{l:List Jx}{sp:Jx}(h:dV i E.ls=some l)(a:sp∈l): sp∈DJ E i:=by
 unfold DJ;rw[h];exact a
theorem SI{α:Type}{l:List α}{t:Nat}{a:α}(h:l[t]?=some a): l.set t a=l:=by
 apply List.ext_getElem?;intro i;by_cases c:t=i
 .subst c;rw[List.getElem?_set_self (List.getElem?_eq_some_iff.1 h).1,h]
 .rw[List.getElem?_set_ne c]
theorem U6{E:XE}{t k:Nat}{S:TS}{st:St}{K:TS->Option R}{r:R}{cf:CF}(c:Qt N S st)(h:U7 E t k S K=some r):
 ∃v g j,aG P cf E.fl (.freeze<|.tmp t) st.tmps st.heap=some (v,g)/\Qt N j ⟨st.tmps.set t v,g⟩/\K j=some r:=by
 unfold U7 at h;split at h
 .rename_i v F;let⟨a,i,q⟩:=c.tm _ _ F;have B:t<N:=by rw[<-c.ln];exact (List.getElem?_eq_some_iff.1 i).1
  have f:(∀id x y z,a≠.ms id x y z)->(∀id x y z,a≠.ptr id x y z)->K S=some r->∃v g j,aG P cf E.fl (.freeze<|.tmp t) st.tmps st.heap=some (v,g)/\Qt N j ⟨st.tmps.set t v,g⟩/\K j=some r:=by
   intro H I M;refine⟨a,st.heap,S,?_,by rw[SI i];exact c,M⟩;simp only[aG,aB,i];try (split<;>first | (rename_i e;exact absurd rfl<|H _ _ _ _) | (rename_i e;exact absurd rfl<|I _ _ _ _) | rfl)
  split at h
  .rename_i id m;split at h
   .cases h
   .rename_i b;have b:=Nat.le_of_ble_eq_true b;split at h
    .rename_i o d;split at h
     .rename_i k l;let⟨es,w,n⟩:=c.hp.lst d;have s:=yW c (List.getElem?_eq_some_iff.1 d).1<|.blk (cds k).length<|es++[List.replicate (cds k).length .undef];have T:=q.mw d;refine⟨.sl false<|((es.drop (qY l m).1).take (qY l m).2).map λe=>e.map tJ,_,_,?_,s.put B<|.p _ _<|Qp.mkS (.inr ⟨_,rfl⟩)<|sI.ls<|by rw[Jy];exact (n.drop _).take _,h⟩;simp only[aG,aB,i,T,b,if_true,w,n.len]
     .cases h
    .cases h
  .rename_i id off;split at h
   .split at h
    .cases h
    .rename_i b;have b:=Nat.le_of_ble_eq_true b;split at h
     .rename_i o d;split at h
      .rename_i cs;split at h
       .rename_i x G;let⟨e,w,n⟩:=c.hp.box d;have s:=yW c (List.getElem?_eq_some_iff.1 d).1<|.blk cs.length<|[e]++[List.replicate cs.length .undef];refine⟨.sptr<|e.map tJ,_,_,?_,s.put B<|.p _ _<|Qp.mkP<|sI.r<|gC G n,h⟩;simp only[aG,aB,i,q.ptr1,b,if_true,w,List.length_singleton,List.getElem?_cons_zero,List.drop_zero]
       .cases h
      .cases h
     .cases h
   .cases h
  .cases h
  .cases h
  .cases h
  .cases h
  .rename_i A O X D C J;refine f (λid x y z e=>?_) (λid x y z e=>?_) h
   .subst e;cases q with
    | p _ _ q=>cases q<;>simp_all
    | ms=>exact A _ _ rfl
    | msn=>exact A _ _ rfl
    | rs=>exact J _ _ rfl
   .subst e;cases q with
    | p _ _ q=>cases q<;>simp_all
    | ptr=>exact O _ _ rfl
    | pel=>exact D _ _ _ rfl
    | rel=>exact C _ _ _ _ rfl
 .cases h
theorem RE{a:TS->(bJ->TS->Option R)->Option R}{ev:St->Option (bJ×St)}{o:TS->TS}{he:St->St}{K:bJ->TS->Option R}{r:R}(p:∀S st (K:bJ->TS->Option R) r,Qt N S st->a S K=some r->∃x st' c,ev st=some (x,st')/\Qt N c st'/\K x c=some r)(n:∀S st,Qt N S st->Qt N (o S) (he st)):
 ∀(m lf:Nat) (S:TS) (st:St),m<=lf->Qt N S st->YN a o m S K=some r->∃x st' c,dK he ev lf st=some (x,st')/\x≠.normal/\Qt N c st'/\K x c=some r
 | 0,_,_,_,_,_,h=>by cases h
 | m+1,0,_,_,y,_,_=>by omega
 | m+1,lf+1,S,st,y,v,h=>by
  simp only[YN] at h;let⟨x,b,k,f,l,i⟩:=p _ _ _ _ (n S st v) h;cases x with
  | normal=>
   let⟨x,g,w,u,t⟩:=RE p n m lf k b (by omega) l i;exact⟨x,g,w,by simp only[dK,f];exact u,t⟩
  | exit j=>exact⟨_,b,k,by simp only[dK,f],(by intro e;cases e),l,i⟩
  | ret=>exact⟨_,b,k,by simp only[dK,f],(by intro e;cases e),l,i⟩
def QP(P:Program)(T:List bC)(N fl:Nat)(c:bK): Prop:=∀{R:Type} {E:XE} {n i:Nat} {S:TS} {st:St} {K:bJ->TS->Option R} {r:R},Qg P T E->E.nt=N->E.fl=fl->
 (∀(j:Nat) (c':bK) (s:Jx),(fT c)[j]?=some c'->s∈DJ E (i+j)->LOK P T N fl c' s)->Qt N S st->Hq E n c i S K=some r->
 ∃x st' S',bW P (eB P T n) n fl c st=some (x,st')/\Qt N S' st'/\K x S'=some r
def aBJ(P:Program)(T:List bC)(N fl:Nat)(c:bK): Prop:=match c with
 | .loop _ _ b=>QP P T N fl b
 | _=>True
open Classical in
theorem YQ{li lx lr:List Bool}{b:bK}(ihb:QP P T N fl b): QP P T N fl (.told li lx lr b):=by
 intro _ E n i S st K r hE hN hFl hL hs h
 simp only[Hq] at h
 split at h
 .cases h
 rename_i hfn
 have hfn:fl<=st.heap.length:=by rw[hs.hp.ln,<-hFl];exact Nat.le_of_ble_eq_true hfn
 split at h
 .rename_i l hl
  obtain⟨sp,hsp,p,q,hg,hlb,h⟩:=Uz h
  .have hl:=hL 0 _ sp rfl (WX hl hsp)
   cases hl with
   | told _ _ _ _ _ E' B hE' hN' hFl' hL' hok hkt hF hB=>
    obtain⟨t,ht,hall⟩:=Zo h
    obtain⟨φ,hφ⟩:∃φ:Nat->cG,∀i b,st.heap[i]?=some b->b=φ i:=⟨λi=>(st.heap[i]?).getD default,λi b hb=>by show b=(st.heap[i]?).getD default;rw[hb];rfl⟩
    rw[hF,<-Xe (sp.ins.fo.map φ) p,<-hB _ φ] at ht
    have hs1:=uB hs li
    have h0:=Nn (n:=sp.ins.os.length) (φ:=φ) hg hs1 λi hi b hb=>by rw[hφ i b hb];exact .r _
    obtain⟨x,st1,S1,h1,h2,h3⟩:=ihb hE' hN' hFl' (λj c' s hj hs=>hL' j c' s hj (by simpa using hs)) h0 ht
    have hlen:sp.ins.os.length=st.heap.length:=(Kq (nU hg).1).symm.trans hs1.hp.len.symm
    have fin:∀S2 st2,Qt N S2 st2->nH lx lr false fl st.heap.length (some (x,st1))=some (x,st2)->pA sp.ins.os.length x S2 sp.outs (QS (sp.ins.fo.map φ) p sp.outs id)=some t->∃x st' S',bW P (eB P T n) n fl (.told li lx lr b) st=some (x,st')/\Qt N S' st'/\K x S'=some r:=by
     intro S2 st2 hq hm hf
     obtain⟨t',e,hall'⟩:=Ks hf
     cases e
     obtain⟨o,ho,u,⟨g1,g2⟩,g3⟩:=uZ.two hall' hall
     have ex:=AA g1
     have he:bW P (eB P T n) n fl (.told li lx lr b) st=some (o.x,st2):=by
      simp only[bW,h1,ex]
      exact hm
     have hoo:=hok p q o ho
     rw[<-hoo.fo] at g2
     refine⟨o.x,st2,_,he,WZ hs hs1 rfl (λ_ _ _ h=>h) hg hlb (λi _ b hb=>hφ i b hb) hoo (Kr g2 hq) λhx u hu=>?_,g3⟩
     exact iZ (uK P T hE.fo n) (by rw[hlen];exact hfn) _ _ _ _ (GN hkt u hu) (by rw[hlen];exact Nat.le_refl _) he hx
    cases x with
    | ret=>exact fin _ _ (uB h2 lr) rfl h3
    | normal=>exact fin _ _ (uB h2 lx) rfl h3
    | exit j=>exact fin _ _ (uB h2 lx) rfl h3
 .cases h
open Classical in
theorem UN{lx lr:List Bool}{tr:Bool}{c:bK}(ihb:aBJ P T N fl c): QP P T N fl (.mask lx lr tr c):=by
 intro _ E n i S st K r hE hN hFl hL hs h
 unfold Hq at h
 split at h
 .cases h
 rename_i hfn
 have hfn:fl<=st.heap.length:=by rw[hs.hp.ln,<-hFl];exact Nat.le_of_ble_eq_true hfn
 split at h
 .rename_i live tr' b
  split at h
  .cases h
  rename_i live
  split at h
  .rename_i m hm
   obtain⟨_,hg,h⟩:=aX h
   have hmn:=Nat.le_of_ble_eq_true (iA hg)
   obtain⟨x,st',S',h1,h2,h3,h4⟩:=RE (ev:=λst=>bW P (eB P T n) n fl b st) (he:=bR (some live) tr' fl st.heap.length) (λS st K r hs h=>ihb hE hN hFl (λj c' s hj hs=>hL (1+j) c' s (by
    simp only[fT,List.getElem?_cons_succ,Nat.add_comm 1 j];exact hj) (by rw[<-Nat.add_assoc];exact hs)) hs h) (λS' st' hs'=>by rw[hs.hp.ln];exact Cl hs' live tr' _ (by rw[<-hs.hp.ln];exact hfn)) m n S st hmn hs h
   cases x with
   | normal=>exact (h2 rfl).elim
   | ret=>exact⟨.ret,_,_,by simp only[bW,h1,nH],uB h3 lr,h4⟩
   | exit j=>exact⟨.exit j,bR (some lx) tr fl st.heap.length st',wW lx tr S.hp.length S',by simp only[bW,h1,nH],by rw[hs.hp.ln];exact Cl h3 lx tr _ (by rw[<-hs.hp.ln];exact hfn),h4⟩
  .split at h
   .rename_i l hl
    obtain⟨sp,hsp,p,q,hg,hlb,h⟩:=Uz h
    have hl:=hL 0 _ sp rfl (WX hl hsp)
    cases hl with
    | loop _ _ _ _ _ _ _ E' B hE' hN' hFl' hL' hok hkt hF hB=>
     have hs1:=Cl hs live tr' S.hp.length (by rw[<-hs.hp.ln];exact hfn)
     have hle:(wW live tr' S.hp.length S).hp.length=S.hp.length:=by
      cases tr' with
      | true=>simp[wW]
      | false=>rfl
     have hlen:sp.ins.os.length=st.heap.length:=by
      rw[<-Kq (nU hg).1,hle,hs.hp.ln]
     obtain⟨t,ht,hall⟩:=Zo h
     rw[hF] at ht
     generalize hst1:bR (some live) tr' fl S.hp.length st=st0 at hs1
     obtain⟨φ,hφ⟩:∃φ:Nat->cG,∀i b,st0.heap[i]?=some b->b=φ i:=⟨λi=>(st0.heap[i]?).getD default,λi b hb=>by show b=(st0.heap[i]?).getD default;rw[hb];rfl⟩
     have h0:=Nn (n:=sp.ins.os.length) (φ:=φ) hg hs1 λi hi b hb=>by rw[hφ i b hb];exact .r _
     have run:∀m q st1,Qt N (sp.ins.mkG sp.ins.os.length φ p q) (bR (some live) tr' fl st.heap.length st1)->OR (λk q=>B n p k (Ck sp.outs id) q) m q=some t->
      ∃x st2,dK (bR (some live) tr' fl st.heap.length) (λst=>bW P (eB P T n) n fl b st) m st1=some (x,st2) /\
       ∃S3 st3,Qt N S3 st3/\nH lx lr tr fl st.heap.length (some (x,st2))=some (x,st3)/\pA sp.ins.os.length x S3 sp.outs (QS (sp.ins.fo.map φ) p sp.outs id)=some t:=by
      intro m
      induction m with
      | zero=>intro q st1 _ h;cases h
      | succ m ih=>
       intro q st1 hq hr
       simp only[OR] at hr
       have e:=hB n φ p q (λf' p' q'=>if f'=sp.ins.fo.map φ/\p'=p then OR (λk q=>B n p k (Ck sp.outs id) q) m q' else none) (QS (sp.ins.fo.map φ) p sp.outs id)
       simp only[and_self,if_pos,Xe] at e
       rw[<-e] at hr
       obtain⟨x,st2,S2,g1,g2,g3⟩:=ihb hE' hN' hFl' (λj c' s hj hs=>hL' j c' s hj (by simpa using hs)) hq hr
       cases x with
       | normal=>
        simp only[ZP] at g3
        split at g3
        .rename_i f' p' q' hg'
         split at g3
         .rename_i ep
          obtain⟨rfl,rfl⟩:=ep
          have g4:=Kr hg' (Cl g2 live tr' sp.ins.os.length (by rw[hlen];exact hfn))
          rw[hlen] at g4
          obtain⟨x,st3,k1,k2⟩:=ih q' st2 (by rw[hlen];exact g4) g3
          exact⟨x,st3,by simp only[dK,g1];exact k1,k2⟩
         .cases g3
        .cases g3
       | ret=>
        refine⟨.ret,st2,by simp only[dK,g1],_,_,uB g2 lr,rfl,g3⟩
       | exit j=>
        refine⟨.exit j,st2,by simp only[dK,g1],_,_,?_,rfl,g3⟩
        have:=Cl g2 lx tr sp.ins.os.length (by rw[hlen];exact hfn)
        rw[hlen] at this |-
        exact this
     obtain⟨x,st2,g1,S3,st3,g2,g3,g4⟩:=run n q st (by rw[show bR (some live) tr' fl st.heap.length st=st0 from by rw[hs.hp.ln];exact hst1];exact h0) ht
     obtain⟨t',e,hall'⟩:=Ks g4
     cases e
     obtain⟨o,ho,u,⟨k1,k2⟩,k3⟩:=uZ.two hall' hall
     have ex:=AA k1
     have he:bW P (eB P T n) n fl (.mask lx lr tr (.loop (some live) tr' b)) st=some (o.x,st3):=by
      simp only[bW,g1,ex]
      exact g3
     have hoo:=hok p q o ho
     rw[<-hoo.fo] at k2
     refine⟨o.x,st3,_,he,WZ hs hs1 hle (λi k l hi=>?_) hg hlb (λi _ b hb=>hφ i b hb) hoo (Kr k2 g2) λhx u hu=>?_,k3⟩
     .cases tr' with
      | true=>exact Ko (List.getElem?_eq_some_iff.1 hi).1 hi
      | false=>exact hi
     .exact iZ (uK P T hE.fo n) (by rw[hlen];exact hfn) _ _ _ _ (GN hkt u hu) (by rw[hlen];exact Nat.le_refl _) he hx
   .cases h
 .cases h
theorem kK: ∀(c:bK),QP P T N fl c/\aBJ P T N fl c
 | .skip=>⟨(by
  intro _ E n i S st K r k m d q f h;exact⟨_,st,S,rfl,f,h⟩),trivial⟩
 | .exit id=>⟨(by
  intro _ E n i S st K r k m d q f h;exact⟨_,st,S,rfl,f,h⟩),trivial⟩
 | .ret=>⟨(by
  intro _ E n i S st K r k m d q f h;exact⟨_,st,S,rfl,f,h⟩),trivial⟩
 | .region _ ck ops=>⟨(by
  intro _ E n i S st K r k m d q f h;simp only[Hq] at h;let⟨st',H,o,u,p⟩:=aAD m k f h;rw[d] at o;exact⟨_,st',H,by simp only[bW,o],u,p⟩),trivial⟩
 | .seq a b=>⟨(by
  intro _ E n i S st K r k m d q f h;simp only[Hq] at h;let⟨x,g,y,o,u,p⟩:=(kK a).1 k m d (λj c' s z f=>q j c' s (by
   simp only[fT];rw[List.getElem?_append_left (List.getElem?_eq_some_iff.1 z).1];exact z) f) f h
  split at p
  .let⟨x,D,W,Q,M,U⟩:=(kK b).1 k m d (λj c' s z f=>q (Wl a+j) c' s (by
    simp only[fT,mL];rw[List.getElem?_append_right<|Nat.le_add_right _ _,Nat.add_sub_cancel_left];exact z)<|by rw[<-Nat.add_assoc];exact f) u p
   exact⟨x,D,W,by simp only[bW,o,Q],M,U⟩
  .rename_i F;refine⟨x,g,y,?_,u,p⟩;cases x with
   | normal=>exact (F rfl).elim
   | exit=>simp only[bW,o]
   | ret=>simp only[bW,o]),trivial⟩
 | .cond c a b=>⟨(by
  intro _ E n i S st K r k m d q f h;simp only[Hq] at h;split at h
  .rename_i t;split at h
   .rename_i v G;split at h
    .split at h
     .rename_i w;let⟨Z,I,Y⟩:=f.tm _ _ G;have R:=Y.inL;subst R;rcases Fv h with⟨rfl,h⟩ | ⟨rfl,h⟩
      .let⟨x,g,y,o,u,p⟩:=(kK a).1 k m d (λj c' s z f=>q j c' s (by
        simp only[fT];rw[List.getElem?_append_left (List.getElem?_eq_some_iff.1 z).1];exact z) f) (yO f G) h
       exact⟨x,g,y,by simp only[bW,aB,I,o],u,p⟩
      .let⟨x,g,y,o,u,p⟩:=(kK b).1 k m d (λj c' s z f=>q (Wl a+j) c' s (by
        simp only[fT,mL];rw[List.getElem?_append_right<|Nat.le_add_right _ _,Nat.add_sub_cancel_left];exact z)<|by rw[<-Nat.add_assoc];exact f) (yO f G) h
       exact⟨x,g,y,by simp only[bW,aB,I,o],u,p⟩
     .cases h
    .cases h
   .cases h
  .cases h),trivial⟩
 | .block id c=>⟨(by
  intro _ E n i S st K r k m d q f h;simp only[Hq] at h;let⟨x,g,y,o,u,p⟩:=(kK c).1 k m d q f h;split at p
  .rename_i j;split at p
   .rename_i e;have e:=Nat.eq_of_beq_eq_true e;exact⟨.normal,g,y,by simp only[bW,o,e,if_true],u,p⟩
   .rename_i e;have e:=Nat.ne_of_beq_eq_false e;exact⟨.exit j,g,y,by simp only[bW,o];rw[if_neg e],u,p⟩
  .rename_i F;refine⟨x,g,y,?_,u,p⟩;cases x with
   | normal=>simp only[bW,o]
   | exit j=>exact (F _ rfl).elim
   | ret=>simp only[bW,o]),trivial⟩
 | .scope c=>⟨(by
  intro _ E n i S st K r k m d q f h;simp only[Hq] at h;let⟨x,g,y,o,u,p⟩:=(kK c).1 k m d q f h;exact⟨x,g,y,by simp only[bW,o],u,p⟩),trivial⟩
 | .told li L J b=>⟨YQ (kK b).1,trivial⟩
 | .mask L J tr c=>⟨UN (kK c).2,trivial⟩
 | .frz t c=>⟨(by
  intro _ E n i S st K r k m d q f h;simp only[Hq] at h;let⟨v,A',H,o,u,p⟩:=U6 (P:=P) (cf:=eB P T n) f h;let⟨x,g,y,V,O,X⟩:=(kK c).1 k m d q u p;rw[d] at o;exact⟨x,g,y,by simp only[bW,o,V],O,X⟩),trivial⟩
 | .loop l t b=>⟨(by
  intro _ E n i S st K r k m d q f h;cases h),(kK b).1⟩
 | .nilIf _ _ _ _ _=>⟨(by
  intro _ E n i S st K r k m d q f h;cases h),trivial⟩
 | .loopV _ _ _ _ _=>⟨(by
  intro _ E n i S st K r k m d q f h;cases h),trivial⟩
 | .stop=>⟨(by
  intro _ E n i S st K r k m d q f h;cases h),trivial⟩
theorem U8(c:bK): QP P T N fl c:=(kK c).1
theorem uZ.imp{P:Type}{Q b:(o:vR P)->o.lay.V->Prop}: ∀{l:List<|vR P} {t:kR l},(∀o∈l,∀t,Q o t->b o t)->uZ Q l t->uZ b l t
 | [],t,_,_=>t.elim
 | [o],t,h,k=>h o List.mem_cons_self t k
 | o::a::r,.inl t,h,k=>h o List.mem_cons_self t k
 | o::a::r,.inr t,h,k=>uZ.imp (l:=a::r) (λo c=>h o<|List.mem_cons_of_mem _ c) k
end
section
variable [cN][aA]{P:Program}{T:List bC}{N fl:Nat}{S:TS}{st:St}{H:TH}
theorem FG(f:Qt N S st): ∀{rs:List Dv} {vs:List TV},Vt S rs=some vs->∃aw,cY st rs=some aw/\Qc S.hp vs aw
 | [],vs,h=>by cases h;exact⟨[],rfl,trivial⟩
 | r::rs,vs,h=>by
  simp only[Vt] at h;split at h
  .cases h
  .rename_i v g;let⟨aw,i,k⟩:=FG f g;split at h
   .rename_i t;cases h;exact⟨aB st.tmps (.tmp t)::aw,by simp only[cY,pD,i],f.get<|.tmp t,k⟩
   .rename_i t n agg;have q:=f.get<|.tmp t;split at h
    .rename_i id off u;rw[u] at q;have q:=q.ptr1;split at h
     .rename_i o m;split at h
      .rename_i cs;let⟨es,p,l⟩:=f.hp.box m;split at h
       .rename_i j;have j:=Nat.le_of_ble_eq_true j;have d:=(l.drop off).take n;have a:cA st.heap (aB st.tmps<|.tmp t) n=some ((es.drop off).take n):=by
         rw[q];have:off+n<=es.length:=by rw[l.len];exact j
         simp[cA,p,this]
        split at h
        .cases h;exact⟨.agg ((es.drop off).take n)::aw,by simp only[cY,pD,a,if_true,i],Qh.mkA d,k⟩
        .split at h
         .rename_i c s;cases h;rw[s] at d;generalize he:(es.drop off).take n=e at d a;match e,d with
          | [b],d=>exact⟨b::aw,by simp only[cY,pD,a,Bool.false_eq_true,if_false,i],d.1,k⟩
         .cases h
       .cases h
      .cases h
     .cases h
    .cases h
theorem Uy: ∀{l:List Sh} {p:eW l},(vQ l p).length=l.length
 | [],_=>rfl
 | _::r,p=>by simp[vQ,Uy]
structure IU(P:Program)(T:List bC) where
 vi:Nat
 c:IV
 ok:MX P T vi c
def MI: List (IU P T)->Nat->Option IV
 | [],_=>none
 | x::r,v=>match Nat.beq x.vi v with
  | true=>some x.c
  | false=>MI r v
theorem DA: ∀{l:List<|IU P T} {vi:Nat} {c:IV},MI l vi=some c->MX P T vi c
 | x::r,vi,c,h=>by
  simp only[MI] at h;split at h
  .rename_i e;have e:=Nat.eq_of_beq_eq_true e;cases h;rw[<-e];exact x.ok
  .exact DA h
theorem MC{k:Nat}{t:TypeId}(r:BZ (cds k)=true)(d:ag k=true)(c:∀a b:den k,Decidable<|a=b)(g:∀x y,aJ P (eqGuard .eql t (.tmp 0) (.tmp 0) (lF k x)<|lF k y)=some ()/\aJ P (eqGuard .neq t (.tmp 0) (.tmp 0) (lF k x)<|lF k y)=some ())(e:∀x y,aJ P (Op.equal t (lF k x)<|lF k y)=some (@decide (x=y)<|c x y)): E9 P t ⟨k,c⟩:=by
 intro cf fl H x y aw u s q;have m:∀{x:den k} {aw:List AV},Qr (iN k x) aw->lits (.agg aw)=some (lF k x):=by
  intro x aw h;unfold iN at h;rw[Km r] at h;simp only[lits,Wp h,lF,d]
 have e:=e x y;have g:=g x y;have i:=m s;have l:=m q;have p:∀x,∃a,lF k x=.agg a:=λx=>⟨(S9 (cds k)<|cN.un k x).toArray,by simp only[lF,d]⟩;let⟨a,o⟩:=p x;let⟨b,n⟩:=p y;rw[o,n] at e g;rw[o] at i;rw[n] at l;constructor
 .have:aJ P (binOp .eql t (.agg a)<|.agg b)=some (.bool<|@decide (x=y)<|c x y):=by
   simp only[binOp,cQ,e,Option.bind_some,cV]
  simp only[d,nD,aG,aB,List.getElem?_cons_zero,List.getElem?_cons_succ,i,l,lD,if_true,g.1,this]
 .have:aJ P (binOp .neq t (.agg a)<|.agg b)=some (.bool<|!@decide (x=y) (c x y)):=by
   simp only[binOp,cQ,e,Option.bind_some,cV]
  simp only[d,nD,aG,aB,List.getElem?_cons_zero,List.getElem?_cons_succ,i,l,lD,if_true,g.2,this]
structure K9(P:Program)(T:List bC) where
 eq:List ((t:TypeId)×{e:EqS // E9 P t e})
 km:List ((t:TypeId)×{e:E8 // KOK P t e})
 st:List {t:TypeId // XF P t}
 cv:List ((s:TypeId×TypeId)×{k:IntKind // EA P s.1 s.2 k})
 pr:List ((vi:Nat)×{p:PSp // POK T vi p})
 fo:∀cf,fP cf->fP (vE cf)
def asg{α:Nat->Type}{β:Type}(f:∀i,α i->β): List ((i:Nat)×α i)->Nat->Option β
 | [],_=>none
 | x::r,v=>match Nat.beq x.1 v with
  | true=>some<|f x.1 x.2
  | false=>asg f r v
theorem Xw{α:Nat->Type}{β:Type}{f:∀i,α i->β}{Q:Nat->β->Prop}(h:∀i x,Q i<|f i x): ∀{l:List<|(i:Nat)×α i} {v:Nat} {b:β},asg f l v=some b->Q v b
 | x::r,v,b,e=>by
  simp only[asg] at e;split at e
  .rename_i a;have a:=Nat.eq_of_beq_eq_true a;cases e;rw[<-a];exact h _ _
  .exact Xw h e
def stB: List {t:TypeId // XF P t}->TypeId->Bool
 | [],_=>false
 | x::r,t=>match Nat.beq x.1 t with
  | true=>true
  | false=>stB r t
theorem RW: ∀{l:List {t:TypeId // XF P t}} {t:TypeId},stB l t=true->XF P t
 | x::r,t,h=>by
  simp only[stB] at h;split at h
  .rename_i e;have e:=Nat.eq_of_beq_eq_true e;rw[<-e];exact x.2
  .exact RW h
def cvB: List ((s:TypeId×TypeId)×{k:IntKind // EA P s.1 s.2 k})->TypeId->TypeId->Option IntKind
 | [],_,_=>none
 | x::r,s,t=>match Nat.beq x.1.1 s with
  | true=>match Nat.beq x.1.2 t with
   | true=>some x.2.1
   | false=>cvB r s t
  | false=>cvB r s t
theorem HI: ∀{l:List<|(s:TypeId×TypeId)×{k:IntKind // EA P s.1 s.2 k}} {s t:TypeId} {k:IntKind},cvB l s t=some k->EA P s t k
 | x::r,s,t,k,h=>by
  simp only[cvB] at h;split at h
  .rename_i e;have e:=Nat.eq_of_beq_eq_true e;split at h
   .rename_i a;have a:=Nat.eq_of_beq_eq_true a;cases h;rw[<-e,<-a];exact x.2.2
   .exact HI h
  .exact HI h
structure LC(P:Program)(T:List bC)(N fl:Nat)(c:bK) where
 s:Jx
 ok:LOK P T N fl c s
structure IC(P:Program)(T:List bC) where
 s:Z5
 ok:IOK P T s
def n4(b:bK)(j:Nat): bK:=match (fT b)[j]? with
 | some c=>c
 | none=>.skip
structure En(P:Program)(T:List bC)(N fl:Nat)(b:bK) where
 C:List (IU P T)
 kd:List (Nat×Nat)
 ls:List ((j:Nat)×List (LC P T N fl (n4 b j)))
 un:List (Nat×Nat)
 il:List (IC P T)
def l8{b:bK}: List ((j:Nat)×List (LC P T N fl<|n4 b j))->List (Nat×List Jx)
 | []=>[]
 | x::r=>(x.1,x.2.map (·.s))::l8 r
def En.xe{b:bK}(G:K9 P T)(e:En P T N fl b): XE:=⟨MI e.C,asg (λ_ x=>x.1) G.eq,asg (λ_ x=>x.1) G.km,stB G.st,cvB G.cv,asg (λ_ x=>x.1) G.pr,e.kd,l8 e.ls,e.un,e.il.map (·.s),N,fl⟩
theorem En.ok{b:bK}(G:K9 P T)(e:En P T N fl b): Qg P T (e.xe G) where
 cs:=λ_ _ h=>DA h;eq:=λ_ _ h=>Xw (Q:=E9 P) (λ_ x=>x.2) h;km:=λ_ _ h=>Xw (Q:=KOK P) (λ_ x=>x.2) h;st:=λ_ h=>RW h;cv:=λ_ _ _ h=>HI h;pr:=λ_ _ h=>Xw (Q:=POK T) (λ_ x=>x.2) h;il:=λsp h=>by
  obtain⟨x,_,rfl⟩:=List.mem_map.1 h;exact x.ok
 fo:=G.fo
theorem En.lp{b:bK}(G:K9 P T)(e:En P T N fl b)(j:Nat)(c:bK)(s:Jx)(i:(fT b)[j]?=some c)(m:s∈DJ (e.xe G) j): LOK P T N fl c s:=by
 have g:∀(l:List<|(j:Nat)×List (LC P T N fl<|n4 b j)),s∈(match dV j (l8 l) with | some l=>l | none=>[])->LOK P T N fl c s:=by
  intro l;induction l with
  | nil=>intro h;cases h
  | cons x r k=>
   intro h;simp only[l8,dV] at h;split at h
   .rename_i l f;split at f
    .rename_i e;have e:=Nat.eq_of_beq_eq_true e;cases f;obtain⟨y,_,rfl⟩:=List.mem_map.1 h;have d:∀(c':bK) (y:LC P T N fl c'),c'=c->LOK P T N fl c y.s:=by rintro _ y rfl;exact y.ok
     exact d _ y<|by rw[e];simp[n4,i]
    .exact k<|by rw[f];exact h
   .cases h
 exact g e.ls m
def WI(n:Nat): Option (List Nat)->Option (List Nat)
 | some l=>some (n::l)
 | none=>none
def On(kl:List Nat): Nat->TH->Option (List Nat)
 | _,[]=>some []
 | i,a::r=>match Au i kl with
  | true=>On kl (i+1) r
  | false=>match a with
   | .lst _ l=>WI l.length<|On kl (i+1) r
   | _=>On kl (i+1) r
def Ro(kl:List Nat): Nat->TH->TH->Option (List Nat)
 | _,[],_=>some []
 | i,a::r,s=>match s with
  | []=>none
  | b::s=>match Au i kl with
   | true=>Ro kl (i+1) r s
   | false=>match a with
    | .lst _ _=>match b with
     | .lst _ l=>WI l.length<|Ro kl (i+1) r s
     | _=>none
    | _=>Ro kl (i+1) r s
theorem Fw{kl:List Nat}: ∀{i:Nat} {H:TH},∃l,On kl i H=some l
 | i,[]=>⟨_,rfl⟩
 | i,a::r=>by
  let⟨l,h⟩:=Fw (kl:=kl) (i:=i+1) (H:=r);simp only[On,h];split
  .exact⟨_,rfl⟩
  .split<;>exact⟨_,rfl⟩
theorem Xs{kl:List Nat}: ∀{i:Nat} {H H':TH},Ro kl i H H'=On kl i H->H.length<=H'.length/\∀(j k:Nat) (l:List<|den k),i+j∉kl->H[j]?=some (.lst k l)->∃(k':Nat) (c:List<|den k'),H'[j]?=some (.lst k' c)/\c.length=l.length
 | i,[],H',h=>⟨Nat.zero_le _,λj k l _ f=>by simp at f⟩
 | i,a::r,[],h=>by
  let⟨l,e⟩:=Fw (kl:=kl) (i:=i) (H:=a::r);rw[e] at h;cases h
 | i,a::r,b::s,h=>by
  have o:Ro kl (i+1) r s=On kl (i+1) r->(i∉kl->∀(k:Nat) (l:List<|den k),a=.lst k l->∃(k':Nat) (c:List<|den k'),b=.lst k' c/\c.length=l.length)->(a::r).length<=(b::s).length/\∀(j k:Nat) (l:List<|den k),i+j∉kl->(a::r)[j]?=some (.lst k l)->∃(k':Nat) (c:List<|den k'),(b::s)[j]?=some (.lst k' c)/\c.length=l.length:=by
   intro w u;let⟨t,y⟩:=Xs w;refine⟨by simpa using t,λj k l f p=>?_⟩;cases j with
   | zero=>
    simp only[List.getElem?_cons_zero,Option.some.injEq] at p;let⟨k',c,e,g⟩:=u f k l p;exact⟨k',c,by rw[e];rfl,g⟩
   | succ j=>
    let⟨k',c,e,g⟩:=y j k l (by rw[Nat.add_assoc,Nat.add_comm 1];exact f) (by simpa using p);exact⟨k',c,by simpa using e,g⟩
  simp only[Ro,On] at h;cases n:Au i kl with
  | true=>
   rw[n] at h;exact o h λx=>by rw[GK x] at n;cases n
  | false=>
   rw[n] at h;simp only at h;cases a with
   | lst k l=>
    simp only at h;let⟨B,m⟩:=Fw (kl:=kl) (i:=i+1) (H:=r);split at h
    .rename_i k' c;cases q:Ro kl (i+1) r s with
     | none=>rw[q,m] at h;cases h
     | some C=>
      rw[q,m] at h;simp only[WI,Option.some.injEq,List.cons.injEq] at h;exact o (by rw[q,m,h.2]) λ_ v z e=>by cases e;exact⟨_,_,rfl,h.1⟩
    .rw[m] at h;cases h
   | _=>exact o h λ_ v z e=>by cases e
def HMa(ins:rZ)(kl:List Nat)(p:ins.P)(q:ins.V): List (vR ins.P)->Prop
 | []=>True
 | o::r=>o.lay.fo=ins.fo/\(∀t,Ro kl 0 (ins.mk' p q).hp (o.lay.mk' (o.pr p) t).hp=On kl 0 (ins.mk' p q).hp)/\HMa ins kl p q r
theorem Yv{sp:Jx}{p:sp.ins.P}{q:sp.ins.V}: ∀{l:List<|vR sp.ins.P},HMa sp.ins sp.kl p q l->∀o∈l,Z0 sp p q o
 | [],_,o,a=>by cases a
 | d::r,h,o,a=>by
  rcases List.mem_cons.1 a with rfl | a
  .exact⟨h.1,λt j k l b c=>(Xs<|h.2.1 t).2 j k l (by rw[Nat.zero_add];exact b) c,λt=>(Xs<|h.2.1 t).1⟩
  .exact Yv h.2.2 o a
def mkL(G:K9 P T){c b:bK}{lx lr live:List Bool}{tr tr':Bool}(hc:c=.mask lx lr tr (.loop (some live) tr' b))(e:En P T N fl b)(ins:rZ)(kl kt:List Nat)(outs:List<|vR ins.P)(B:Nat->ins.P->(ins.V->Option (kR outs))->EP (kR outs) outs->ins.V->Option (kR outs))(h:∀n φ p q k e',Hq (e.xe G) n b 0 (ins.mkG ins.os.length φ p q) (ZP ins outs live tr' lx lr tr ins.os.length k e')=B n p (k (ins.fo.map φ) p) (Fd (ins.fo.map φ) p e') q:=by intros;kernel_rfl)(hm:∀p q,HMa ins kl p q outs:=by intro _ _;repeat' first | exact trivial | refine And.intro ?_ ?_ | (intro _;kernel_rfl) | rfl)(hk:s5 c kt=true:=by kernel_rfl): LC P T N fl c:=
 ⟨⟨ins,kl,kt,outs,λn p q=>OR (λk q=>B n p k (Ck outs id) q) n q⟩,by subst hc;exact .loop _ _ _ _ _ _ _ (e.xe G) B (e.ok G) rfl rfl (e.lp G) (λp q=>Yv<|hm p q) hk (λ_ _ _=>rfl) h⟩
def mkP(G:K9 P T){c b:bK}{li lx lr:List Bool}(hc:c=.told li lx lr b)(e:En P T N fl b)(ins:rZ)(kl kt:List Nat)(outs:List<|vR ins.P)(B:Nat->ins.P->EP (kR outs) outs->ins.V->Option (kR outs))(h:∀n φ p q e',Hq (e.xe G) n b 0 (ins.mkG ins.os.length φ p q) (P6 ins.os.length outs lx lr e')=B n p (Fd (ins.fo.map φ) p e') q:=by intros;kernel_rfl)(hm:∀p q,HMa ins kl p q outs:=by intro _ _;repeat' first | exact trivial | refine And.intro ?_ ?_ | (intro _;kernel_rfl) | rfl)(hk:s5 c kt=true:=by kernel_rfl): LC P T N fl c:=
 ⟨⟨ins,kl,kt,outs,λn p q=>B n p (Ck outs id) q⟩,by subst hc;exact .told _ _ _ _ _ (e.xe G) B (e.ok G) rfl rfl (e.lp G) (λp q=>Yv<|hm p q) hk (λ_ _ _=>rfl) h⟩
abbrev LC.f{c:bK}(x:LC P T N fl c):=x.s.F
theorem VQ{F:bC}{E:XE}{n:Nat}{R:Type}{K:bJ->TS->Option R}{r:R}{aw:List AV}{A:aK}{vi:Nat}(z:getF T vi=some F)(y:Qg P T E)(p:E.nt=F.nt)(l:E.fl=fl)(u:∀(j:Nat) (c:bK) (s:Jx),(fT F.body)[j]?=some c->s∈DJ E j->LOK P T F.nt fl c s)(g:Qt aw.length S ⟨aw,A⟩)(B:aw.length<=F.nt)(h:Hq E n F.body 0 S K=some r)(w:∀x d,K x d=some r->x=.normal\/x=.ret):
 ∃x st' d,Qt F.nt d st'/\K x d=some r/\eB P T (n+1) fl vi aw A=(match cY st' F.rets with | some vs=>some (dM vs,st'.heap) | none=>none):=by
 have k:Qt F.nt S ⟨aw++List.replicate (F.nt-aw.length) (.lit aT),A⟩:=by
  refine⟨by simp;omega,λt v m=>?_,g.hp⟩;let⟨a,f,e⟩:=g.tm t v m;refine⟨a,?_,e⟩;show (aw++_)[t]?=_;rw[List.getElem?_append_left (List.getElem?_eq_some_iff.1 f).1];exact f
 let⟨x,st',d,o,f,e⟩:=U8 (i:=0) F.body y p l (λj b s q g=>u j b s q<|by simpa using g) k h;refine⟨x,st',d,f,e,?_⟩;rw[Xi F z,o];rcases w x d e with rfl | rfl<;>rfl
theorem fok{vi:Nat}{c:IV}{F:bC}(C:getF T vi=some F)(E:XE)(D:Qg P T E)(M:E.nt=F.nt)(u:E.fl=0)(w:Nat.ble c.ka.length F.nt=true)(J:∀(j:Nat) (b:bK) (s:Jx),(fT F.body)[j]?=some b->s∈DJ E j->LOK P T F.nt 0 b s)(L:∀p,c.F 0 p=none)(h:∀n p,c.F (n+1) p=exF E n F c p): aBY P T vi c:=by
 intro n p r i aw z;cases n with
 | zero=>rw[L] at i;cases i
 | succ n=>
  rw[h] at i;unfold exF at i;have B:aw.length=c.ka.length:=by rw[z.len,Uy]
  have w:=Nat.le_of_ble_eq_true w;let⟨x,st',f,q,m,G⟩:=VQ C D M u J (Xl (show Qs [] [] from trivial) z) (by omega) i λx f h=>by
   cases x with
   | normal=>exact .inl rfl
   | ret=>exact .inr rfl
   | exit=>cases h
  have g:(match Vt f F.rets with | some vs=>(match c.kp with | false=>rA 2 f.hp (c.kr.map .v) vs | true=>bnd (vF<|Hf f.hp vs) λ_=>rA 2 f.hp (c.kr.map .v) vs) | none=>none)=some r->∃vs a A H,eB P T (n+1) 0 vi aw []=some (dM a,A)/\Qs H A/\Qc H vs a/\rA 2 H (c.kr.map .v) vs=some r/\(c.kp=true->Hf H vs=true):=by
   intro h;split at h
   .rename_i vs l;let⟨a,I,y⟩:=FG q l;have he:eB P T (n+1) 0 vi aw []=some (dM a,st'.heap):=by rw[G,I]
    split at h
    .rename_i t;exact⟨vs,a,st'.heap,f.hp,he,q.hp,y,h,λe=>by rw[t] at e;cases e⟩
    .let⟨_,K,h⟩:=aX h;exact⟨vs,a,st'.heap,f.hp,he,q.hp,y,h,λ_=>iA K⟩
   .cases h
  cases x with
  | normal=>exact g m
  | exit=>cases m
  | ret=>exact g m
def mkC(G:K9 P T)(vi:Nat){F:bC}(hF:getF T vi=some F)(ka:List Sh)(kr:List Nat)(kp:Bool)(e:En P T F.nt 0 F.body)(f:Nat->eW ka->Option (eW<|kr.map .v))(hk:Nat.ble ka.length F.nt=true)(h0:∀p,f 0 p=none)(h:∀n p,f (n+1) p=exF (e.xe G) n F ⟨ka,kr,kp,f⟩ p)(hkp:kpB kp kr=true:=by kernel_rfl): IU P T:=⟨vi,⟨ka,kr,kp,f⟩,.of0 (fok hF (e.xe G) (e.ok G) rfl rfl hk (e.lp G) h0 h) hkp⟩
theorem AF: ∀{rs:List Dv} {vs:List TV},Vt S rs=some vs->vs.length=rs.length
 | [],vs,h=>by cases h;rfl
 | r::rs,vs,h=>by
  simp only[Vt] at h;split at h
  .cases h
  .rename_i c b;have a:=AF b;split at h
   .cases h;simp[a]
   .split at h
    .split at h
     .split at h
      .split at h
       .split at h
        .cases h;simp[a]
        .split at h
         .cases h;simp[a]
         .cases h
       .cases h
      .cases h
     .cases h
    .cases h
def mkI(G:K9 P T)(vi fl:Nat){F:bC}(hF:getF T vi=some F)(e:En P T F.nt fl F.body)(ins:rZ)(kl:List Nat)(outs:List<|vR ins.P)(B:Nat->ins.P->EP (kR outs) outs->ins.V->Option (kR outs))(na:Nat)(hk:Nat.ble na F.nt=true:=by kernel_rfl)(h:∀n φ p q e',exI (e.xe G) n F (ins.mkG ins.os.length φ p q) (λS=>pA ins.os.length .ret S outs e')=B n p (Fd (ins.fo.map φ) p e') q:=by intros;kernel_rfl)(hm:∀p q,HMa ins kl p q outs:=by intro _ _;repeat' first | exact trivial | refine And.intro ?_ ?_ | (intro _;kernel_rfl) | rfl): IC P T:=
 ⟨⟨⟨ins,kl,[],outs,λn p q=>bnd (prd n) λn=>B n p (Ck outs id) q⟩,vi,fl,na,F.rets.length⟩,by
  intro n p q t ht φ aw A hna hle hs
  cases n with
  | zero=>cases ht
  | succ n=>
   have ht:B n p (Ck outs id) q=some t:=ht
   rw[<-Xe (ins.fo.map φ) p,<-h] at ht
   unfold exI at ht
   have hk:=Nat.le_of_ble_eq_true hk
   have hna:aw.length=na:=hna
   obtain⟨x,st',S',h2,h3,h4⟩:=VQ (fl:=fl) hF (e.ok G) rfl rfl (e.lp G) hs (by omega) ht λx S' h=>by
    cases x with
    | normal=>exact .inl rfl
    | ret=>exact .inr rfl
    | exit=>cases h
   have fin:(match Vt S' F.rets with | some vs=>pA ins.os.length .ret ⟨Hs 0 vs,S'.hp⟩ outs (QS (ins.fo.map φ) p outs id) | none=>none)=some t->
    ∃aw' H',eB P T (n+1) fl vi aw A=some (dM aw',H')/\aw'.length=F.rets.length/\uZ (λo t=>Qt F.rets.length (o.lay.mkG ins.os.length φ (o.pr p) t) ⟨aw',H'⟩/\Z0 ⟨ins,kl,[],outs,λn p q=>bnd (prd n) λn=>B n p (Ck outs id) q⟩ p q o) outs t:=by
    intro h
    split at h
    .rename_i vs hvs
     obtain⟨aw',g1,g2⟩:=FG h2 hvs
     obtain⟨t',e',hall⟩:=Ks h
     cases e'
     have hl:aw'.length=F.rets.length:=by rw[g2.len,AF hvs]
     refine⟨aw',st'.heap,by rw[h4,g1],hl,uZ.imp (λo ho t hg=>?_) hall⟩
     have hoo:=Yv (sp:=⟨ins,kl,[],outs,λn p q=>bnd (prd n) λn=>B n p (Ck outs id) q⟩) (hm p q) o ho
     have hg2:=hg.2
     have hf:o.lay.fo=ins.fo:=hoo.fo
     rw[<-hf] at hg2
     have:=Kr hg2<|Xl h2.hp g2
     rw[hl] at this
     exact⟨this,hoo⟩
    .cases h
   cases x with
   | normal=>exact fin h3
   | exit=>cases h3
   | ret=>exact fin h3⟩
end
end
inductive Tr where
 | n (k:Nat) (l:List Tr)
structure Gr where
 nl:Nat
 al:List (Nat×Nat)
 na:Nat
 bs:Nat
 ru:List Nat
def aAO: Nat->List Tr->List Tr->List Tr×List Tr
 | 0,acc,st=>(acc,st)
 | k+1,acc,st=>match st with
  | t::r=>aAO k (t::acc) r
  | []=>(acc,[])
def j8{α:Type}(d:α): Nat->List α->α
 | _,[]=>d
 | 0,x::_=>x
 | n+1,_::r=>j8 d n r
def aBl(b:Nat): Nat->Nat->List Nat
 | 0,_=>[]
 | f+1,n=>match Nat.beq n 0 with
  | true=>[]
  | false=>Nat.mod n b::aBl b f (Nat.div n b)
section
variable (G:Gr)
def M9(s:Nat): Nat:=Nat.mod (Nat.div (j8 0 (Nat.div s 64) G.ru)<|Nat.pow (Nat.mul G.bs G.bs)<|Nat.mod s 64)<|Nat.mul G.bs G.bs
def ZM: Nat->List Nat->List Tr->List Tr
 | 0,_,st=>st
 | f+1,w,st=>match w with
  | []=>st
  | s::w=>match Nat.blt s G.nl with
   | true=>ZM f w (.n s []::st)
   | false=>match Nat.blt s G.na with
    | true=>match j8 (0,0) (Nat.sub s G.nl) G.al with
     | (k,a)=>match aAO a [] st with
      | (l,st)=>ZM f w (.n k l::st)
    | false=>match M9 G (Nat.sub s G.na) with
     | r=>ZM f (Nat.mod r G.bs::Nat.div r G.bs::w) st
def aBm(n:Nat): Tr:=match ZM G 1000000 (aBl G.bs 1000000 n) [] with
 | t::_=>t
 | []=>.n 0 []
end
def rB: Tr->Bool
 | .n k _=>match k with
  | 0=>false
  | _=>true
def rN: Tr->Nat
 | .n k _=>k
def rI: Tr->Int
 | .n k l=>match l with
  | []=>Int.ofNat k
  | _=>Int.negOfNat k
def rL{α:Type}(r:Tr->α): Tr->List α
 | .n _ l=>l.map r
def rO{α:Type}(r:Tr->α): Tr->Option α
 | .n _ l=>match l with
  | []=>none
  | t::_=>some<|r t
def G4: Bool->List Tr->List Bool
 | _,[]=>[]
 | b,t::r=>List.replicate (rN t) b++G4 (!b) r
def rM: Tr->List Bool
 | .n _ l=>G4 false l
def rK: Nat->IntKind
 | 0=>.i64
 | 1=>.i32
 | 2=>.u8
 | 3=>.u64
 | 4=>.u32
 | 5=>.i8
 | 6=>.i16
 | _=>.u16
def Lz: Tr->Value
 | .n k l=>match l with
  | []=>match k with
   | 0=>.bool false
   | 1=>.bool true
   | 2=>bZ
   | 3=>.pointer none
   | 4=>.map none
   | 5=>.nilFunc
   | 6=>.nilIface
   | 7=>.string ⟨#[]⟩
   | _=>aT
  | t::r=>match k with
   | 15=>.string ⟨((t::r).map λt=>UInt8.ofNat<|rN t).toArray⟩
   | _=>.int (rK k)<|rI t
def rT(c k:Nat): Nat:=match Nat.blt k 320 with
 | true=>k
 | false=>Nat.sub (Nat.add c 320) k
def rX(c:Nat): Tr->aN
 | .n k l=>match l with
  | []=>.tmp<|rT c k
  | t::r=>match k with
   | 0=>.lit<|Lz t
   | 1=>.agg<|r.map Lz
   | 2=>.fn<|rN t
   | _=>.glob<|rN t
def aAN: Nat->BinOp
 | 0=>.add
 | 1=>.sub
 | 2=>.mul
 | 3=>.quo
 | 4=>.rem
 | 5=>.and
 | 6=>.or
 | 7=>.xor
 | 8=>.shl
 | 9=>.shr
 | 10=>.andNot
 | 11=>.eql
 | 12=>.neq
 | 13=>.lss
 | 14=>.leq
 | 15=>.gtr
 | _=>.geq
def rUn: Nat->UnOp
 | 0=>.neg
 | 1=>.xor
 | 2=>.not
 | _=>.plus
def aAJ(c:Nat): Tr->Nat×Nat×aN
 | .n a l=>match l with
  | [b,x]=>(a,rN b,rX c x)
  | _=>(a,0,.tmp 0)
def aAK(c:Nat): Tr->Nat×aN
 | .n a l=>match l with
  | [x]=>(a,rX c x)
  | _=>(a,.tmp 0)
def SZ: Tr->Nat×Nat
 | .n a l=>match l with
  | [b]=>(a,rN b)
  | _=>(a,0)
def rOp(w:Nat): Tr->tK
 | .n k l=>match l with
  | []=>.mkMap
  | [a]=>match k with
   | 0=>.mov<|rX w a
   | 1=>.movN<|rX w a
   | 2=>.nilCheck<|rX w a
   | 3=>.lenS<|rX w a
   | 4=>.capS<|rX w a
   | 5=>.lenM<|rX w a
   | 6=>.rangeStr<|rX w a
   | 7=>.nextStr<|rX w a
   | 8=>.claim<|rN a
   | 9=>.alloc<|rL Lz a
   | 10=>.box<|rX w a
   | 11=>.lenC<|rN a
   | 12=>.mov<|rX w a
   | 13=>.tail2<|rX w a
   | _=>.mov<|rX w a
  | [a,b]=>match k with
   | 0=>.allocC (rL Lz a)<|rL SZ b
   | 1=>.build (rL Lz a)<|rL (aAJ w) b
   | 2=>.un (rUn<|rN a)<|rX w b
   | 3=>.fieldAddr (rN a)<|rX w b
   | 4=>.lenStr (rN a)<|rX w b
   | 5=>.minmax (rB a)<|rL (rX w) b
   | 6=>.mkFn (rN a)<|rL (rX w) b
   | 7=>.callB (rN a)<|rL (rX w) b
   | 8=>.callS (rN a)<|rL (rX w) b
   | 9=>.callF (rN a)<|rL (rX w) b
   | 17=>.boxC (rX w a)<|rL SZ b
   | 10=>.extract (rX w a)<|rN b
   | 11=>.load false (rN a)<|rX w b
   | 12=>.load true (rN a)<|rX w b
   | 13=>.call false (rN a)<|rL (rX w) b
   | 14=>.call true (rN a)<|rL (rX w) b
   | 15=>.callv false (rX w a)<|rL (rX w) b
   | _=>.callv true (rX w a)<|rL (rX w) b
  | [a,b,c]=>match k with
   | 0=>.pick (rX w a) (rX w b)<|rX w c
   | 1=>.store (rN a) (rX w b)<|rX w c
   | 2=>.ibin (aAN<|rN a) (rX w b)<|rX w c
   | 3=>.conv (rN a) (rN b)<|rX w c
   | 4=>.idxAddr (rN a) (rX w b)<|rX w c
   | 5=>.strIdx (rN a) (rX w b)<|rX w c
   | 6=>.copy (rN a) (rX w b)<|rX w c
   | 7=>.delete (rN a) (rX w b)<|rX w c
   | 8=>.callT (rN a) (rN b)<|rL (rX w) c
   | 9=>.clear (rN a) (rL Lz b)<|rX w c
   | 10=>.loadF (rN a) (rN b)<|rX w c
   | 13=>.slArr (rN a) (rN b)<|rX w c
   | 14=>.arrPtr (rN a) (rN b)<|rX w c
   | 15=>.buildC (rL Lz a) (rL (aAJ w) b)<|rL SZ c
   | 11=>.field false (rN a) (rN b)<|rX w c
   | _=>.field true (rN a) (rN b)<|rX w c
  | [a,b,c,d]=>match k with
   | 0=>.bin (aAN<|rN a) (rN b) (rX w c)<|rX w d
   | 1=>.idxArr (rN a) (rN b) (rX w c)<|rX w d
   | 2=>.index false (rN a) (rN b) (rX w c)<|rX w d
   | 3=>.index true (rN a) (rN b) (rX w c)<|rX w d
   | 4=>.strSlice (rN a) (rX w b) (rO (rX w) c)<|rO (rX w) d
   | 5=>.mapUpd (rN a) (rX w b) (rX w c)<|rX w d
   | 6=>.append (rN a) (rN b) (rX w c)<|rX w d
   | 7=>.appendP (rN a) (rN b) (rX w c)<|rX w d
   | 8=>.buildSl false (rN a) (rN b) (rL Lz c)<|rL (aAK w) d
   | _=>.buildSl true (rN a) (rN b) (rL Lz c)<|rL (aAK w) d
  | [a,b,c,d,e]=>match k with
   | 0=>.slice (rN a) (rX w b) (rO (rX w) c) (rO (rX w) d)<|rO (rX w) e
   | 1=>.mkSlice (rN a) (rL Lz b) (rN c) (rX w d)<|rX w e
   | 2=>.lookup (rN a) (rX w b) (rX w c) (rX w d)<|rB e
   | _=>.appendZ (rN a) (rN b) (rL Lz c) (rX w d)<|rX w e
  | _=>.mkMap
def aAL(c:Nat): Tr->aH
 | .n _ l=>match l with
  | [a]=>⟨some c,rOp c a,none⟩
  | [a,g]=>⟨some c,rOp c a,some (rT c<|rN g,true)⟩
  | [a,g,_]=>⟨some c,rOp c a,some (rT c<|rN g,false)⟩
  | [a,g,_,b]=>match b with
   | .n k _=>match k with
    | 0=>⟨none,rOp c a,none⟩
    | 1=>⟨none,rOp c a,some (rT c<|rN g,true)⟩
    | _=>⟨none,rOp c a,some (rT c<|rN g,false)⟩
  | _=>⟨none,.mkMap,none⟩
def rD(c d:Nat): Nat:=match Nat.blt d 320 with
 | true=>match Nat.beq d 0 with
  | true=>c
  | false=>d
 | false=>match Nat.beq d 337 with
  | true=>0
  | false=>Nat.sub (Nat.add c d) 320
def ZX: Nat->List Tr->List aH
 | _,[]=>[]
 | c,t::r=>aAL (rD c<|rN t) t::ZX (rD c<|rN t) r
def rC: Nat->Tr->bK
 | 0,_=>.stop
 | f+1,.n k l=>match k with
  | 0=>.region false []<|ZX 0 l
  | 1=>match l with
   | c::r=>.region true (rL SZ c)<|ZX 0 r
   | []=>.region true [] []
  | 2=>match l with
   | [a,b]=>.seq (rC f a)<|rC f b
   | _=>.stop
  | 3=>match l with
   | [c,a,b]=>.cond (.tmp<|rN c) (rC f a)<|rC f b
   | _=>.stop
  | 4=>match l with
   | [i,c]=>.block (rN i)<|rC f c
   | _=>.stop
  | 5=>match l with
   | [i]=>.exit<|rN i
   | _=>.stop
  | 6=>.skip
  | 7=>.ret
  | 8=>match l with
   | [lx,lr,t,li,u,c]=>.mask (rM lx) (rM lr) (rB t)<|.loop (some<|rM li) (rB u)<|rC f c
   | _=>.stop
  | 9=>match l with
   | [li,lx,lr,c]=>.told (rM li) (rM lx) (rM lr)<|rC f c
   | _=>.stop
  | 10=>match l with
   | [c]=>.scope<|rC f c
   | _=>.stop
  | 11=>match l with
   | [t,c]=>.frz (rN t)<|rC f c
   | _=>.stop
  | 12=>match l with
   | [t,d,e,a,b]=>.nilIf (rN t) (rN d) (rN e) (rC f a)<|rC f b
   | _=>.stop
  | 13=>match l with
   | [lx,lr,t,c]=>.mask (rM lx) (rM lr) (rB t)<|rC f c
   | _=>.stop
  | 14=>.stop
  | 15=>match l with
   | c::r=>.region false (rL SZ c)<|ZX 0 r
   | []=>.stop
  | _=>.stop
def rR: Tr->Dv
 | .n k l=>match l with
  | []=>.tmp k
  | [n]=>.cell k (rN n) false
  | n::_=>.cell k (rN n) true
def rF: Tr->bC
 | .n i l=>match l with
  | [t,r,c]=>⟨i,rN t,rL rR r,rC 1000 c⟩
  | _=>⟨i,0,[],.stop⟩
section
open gO (den cds ag)
def rSh: Tr->Sh
 | .n k l=>match l with
  | []=>.i
  | [a]=>match k with
   | 0=>.v<|rN a
   | 1=>.w<|rN a
   | 2=>.r<|rN a
   | 3=>.l<|rN a
   | 4=>.n<|rN a
   | _=>.f<|rN a
  | a::b::_=>match k with
   | 0=>.m (rN a)<|rN b
   | _=>.q (rN a)<|rN b
section
variable [cN]
def rTV: Nat->Tr->TV
 | 0,_=>.undef
 | f+1,.n k l=>match l with
  | []=>match k with
   | 0=>.undef
   | 1=>.lit bZ
   | 2=>.emp false
   | 3=>.emp true
   | 4=>.lit<|.bool false
   | _=>.lit<|.bool true
  | a::r=>match k with
   | 0=>.ms (rN a) none
   | 1=>.mp<|rN a
   | 2=>.it<|rN a
   | 3=>match r with
    | b::_=>.ptr (rN a)<|rN b
    | []=>.ptr (rN a) 0
   | 4=>match r with
    | b::_=>.rs (rN a)<|rN b
    | []=>.undef
   | 5=>.fn (rN a)<|r.map<|rTV f
   | 6=>match r with
    | b::_=>.lit<|.int (rK<|rN a)<|rI b
    | []=>.lit<|.int .i64<|rI a
   | _=>.undef
inductive PlD where
 | con (v:TV)
 | p (s:Sh)
 | v (s:Sh)
 | q (j:Nat)
def rPl: Tr->PlD
 | .n k l=>match l with
  | []=>.q k
  | a::_=>match k with
   | 0=>.p<|rSh a
   | 1=>.v<|rSh a
   | _=>.con<|rTV 4 a
def inS: List PlD->List Pl
 | []=>[]
 | d::r=>match d with
  | .con v=>.con v::inS r
  | .p s=>.p s::inS r
  | .v s=>.v s::inS r
  | .q _=>.con .undef::inS r
def aAW: (l:List Sh)->Nat->Option ((s:Sh)×(eW l->s.den))
 | [],_=>none
 | a::r,j=>match j with
  | 0=>some ⟨a,λp=>eW.hd p⟩
  | j+1=>match aAW r j with
   | none=>none
   | some x=>some ⟨x.1,λp=>x.2<|eW.tl p⟩
def aAT(I:List Sh): List PlD->(ss:List Pl)×(eW I->eW (Vj false ss))
 | []=>⟨[],λ_=>()⟩
 | d::r=>match aAT I r with
  | ⟨ss,g⟩=>match d with
   | .con v=>⟨.con v::ss,g⟩
   | .v s=>⟨.v s::ss,g⟩
   | .p _=>⟨.con .undef::ss,g⟩
   | .q j=>match aAW I j with
    | none=>⟨.con .undef::ss,g⟩
    | some x=>⟨.p x.1::ss,λp=>eW.cs (x.2 p)<|g p⟩
def rOL: Tr->OL
 | .n k l=>match l with
  | []=>match k with
   | 0=>.bx
   | 1=>.it
   | _=>.gone
  | [a]=>match k with
   | 0=>.box<|rN a
   | _=>.lst<|rN a
  | a::b::_=>match k with
   | 0=>.map (rN a)<|rN b
   | _=>.rows (rN a)<|rN b
def rTs: Tr->Nat×Option Nat
 | .n t l=>match l with
  | []=>(t,none)
  | a::_=>(t,some<|rN a)
def sC(i:Nat): Tr->Tr
 | .n _ l=>j8 (.n 0 []) i l
def aAM(fo:List Nat)(ss:List Pl)(z:Tr): rZ:=⟨fo,rL rTs<|sC 0 z,rL rOL<|sC 1 z,ss⟩
def zfo(z:Tr): List Nat:=rL rN<|sC 0 z
def yL(z:Tr): rZ:=aAM (zfo z) (inS<|rL rPl<|sC 2<|sC 1 z)<|sC 1 z
def rEx: Tr->bJ
 | .n k l=>match l with
  | []=>match k with
   | 0=>.normal
   | _=>.ret
  | _=>.exit k
def aAx(z:Tr): Tr->vR (yL z).P
 | .n k l=>match aAT (Vj false (yL z).ss) (rL rPl<|sC 2<|.n k l) with
  | ⟨ss,g⟩=>⟨rEx<|sC 3<|.n k l,aAM (zfo z) ss<|.n k l,g⟩
def oK(z:Tr): List<|vR (yL z).P:=rL (aAx z)<|sC 2 z
def zkd(z:Tr): List<|Nat×Nat:=rL SZ<|sC 3 z
def zun(z:Tr): List<|Nat×Nat:=rL SZ<|sC 4 z
def YH(z:Tr): List Nat:=rL rN<|sC 5 z
def zkt(z:Tr): List Nat:=rL rN<|sC 6 z
def BL(z:Tr)(R:Type): Type:=Nat->(yL z).P->((yL z).V->Option R)->EP R (oK z)->(yL z).V->Option R
def BP(z:Tr)(R:Type): Type:=Nat->(yL z).P->EP R (oK z)->(yL z).V->Option R
end
section
variable [cN][aA]{P:Program}{T:List bC}{N fl:Nat}
def HF{Q:Type}: List (vR Q)->Type
 | []=>Unit
 | o::r=>(o.lay.V->Option (List Nat))×HF r
def hmA(H:TH)(kl:List Nat){Q:Type}(p:Q): (l:List<|vR Q)->HF l
 | []=>()
 | o::r=>(λt=>Ro kl 0 H (o.lay.mk' (o.pr p) t).hp,hmA H kl p r)
def hmB(H:TH)(kl:List Nat){Q:Type}(p:Q): (l:List<|vR Q)->HF l
 | []=>()
 | _::r=>(λ_=>On kl 0 H,hmB H kl p r)
def PE{Q:Type}(fo:List Nat): List (vR Q)->Bool
 | []=>true
 | o::r=>match decEq o.lay.fo fo with
  | isTrue _=>PE fo r
  | isFalse _=>false
theorem HMz{a:rZ}{kl:List Nat}{p:a.P}{q:a.V}: ∀{l:List<|vR a.P},PE a.fo l=true->hmA (a.mk' p q).hp kl p l=hmB (a.mk' p q).hp kl p l->HMa a kl p q l
 | [],_,_=>trivial
 | o::r,h,g=>by
  simp only[PE] at h;split at h
  .rename_i e _;have b:(λt=>Ro kl 0 (a.mk' p q).hp (o.lay.mk' (o.pr p) t).hp)=λ_=>On kl 0 (a.mk' p q).hp:=congrArg Prod.fst g;exact⟨e,λt=>congrFun b t,HMz h<|congrArg Prod.snd g⟩
  .cases h
def lpx: bK->List Bool
 | .mask lx _ _ _=>lx
 | .told _ lx _ _=>lx
 | _=>[]
def lpr: bK->List Bool
 | .mask _ lr _ _=>lr
 | .told _ _ lr _=>lr
 | _=>[]
def lpt: bK->Bool
 | .mask _ _ t _=>t
 | _=>false
def lpl: bK->List Bool
 | .mask _ _ _ c=>match c with
  | .loop l _ _=>match l with
   | some l=>l
   | none=>[]
  | _=>[]
 | .told li _ _ _=>li
 | _=>[]
def lpu: bK->Bool
 | .mask _ _ _ c=>match c with
  | .loop _ u _=>u
  | _=>false
 | _=>false
def H9: bK->bK
 | .mask _ _ _ c=>match c with
  | .loop _ _ b=>b
  | _=>.skip
 | .told _ _ _ b=>b
 | _=>.skip
def cs{c c':bK}(x:LC P T N fl c)(h:c=c':=by kernel_rfl): LC P T N fl c':=⟨x.s,h▸x.ok⟩
noncomputable def cB{γ δ:Type->Type}(h:γ=δ)(B:∀R,γ R)(R:Type): δ R:=h▸B R
class ZT where
 gr:Gr
def dz[ZT](n:Nat): Tr:=aBm ZT.gr n
class YG(P:Program)(T:List bC) where
 g:K9 P T
def EC(T:List bC)(vi:Nat): bC:=match getF T vi with
 | some F=>F
 | none=>⟨0,0,[],.stop⟩
def UR{Q V X:Type}(B:Nat->Q->(V->Option X)->((X->Option X)×Unit)->V->Option X)(n:Nat)(p:Q)(q:V): Option X:=OR (λk q=>B n p k (λt=>some t,()) q) n q
def Tt{Q V X Y:Type}(B:Nat->Q->(V->Option (X⊕Y))->((X->Option (X⊕Y))×(Y->Option (X⊕Y))×Unit)->V->Option (X⊕Y))(n:Nat)(p:Q)(q:V): Option<|X⊕Y:=OR (λk q=>B n p k (λt=>some<|.inl t,λt=>some<|.inr t,()) q) n q
def lC{Q X:Type}(B:Nat->Q->((X->Option X)×Unit)->Unit->Option X)(n:Nat)(p:Q): Option X:=B n p (λt=>some t,()) ()
def H5{Q X Y:Type}(B:Nat->Q->((X->Option (X⊕Y))×(Y->Option (X⊕Y))×Unit)->Unit->Option (X⊕Y))(n:Nat)(p:Q): Option<|X⊕Y:=B n p (λt=>some<|.inl t,λt=>some<|.inr t,()) ()
def pc3{Q X Y Z:Type}(B:Nat->Q->((X->Option (X⊕Y⊕Z))×(Y->Option (X⊕Y⊕Z))×(Z->Option (X⊕Y⊕Z))×Unit)->Unit->Option (X⊕Y⊕Z))(n:Nat)(p:Q): Option<|X⊕Y⊕Z:=B n p (λt=>some<|.inl t,λt=>some<|.inr<|.inl t,λt=>some<|.inr<|.inr t,()) ()
def LV{Q X:Type}(B:Nat->Q->((X->Option X)×Unit)->Unit->Option X)(n:Nat)(p:Q): Option X:=bnd (prd n) λn=>lC B n p
def in2{Q X Y:Type}(B:Nat->Q->((X->Option (X⊕Y))×(Y->Option (X⊕Y))×Unit)->Unit->Option (X⊕Y))(n:Nat)(p:Q): Option<|X⊕Y:=bnd (prd n) λn=>H5 B n p
def in3{Q X Y Z:Type}(B:Nat->Q->((X->Option (X⊕Y⊕Z))×(Y->Option (X⊕Y⊕Z))×(Z->Option (X⊕Y⊕Z))×Unit)->Unit->Option (X⊕Y⊕Z))(n:Nat)(p:Q): Option<|X⊕Y⊕Z:=bnd (prd n) λn=>pc3 B n p
abbrev ln{α:Type}(l:List α): Int:=((l.length:Nat):Int)
abbrev wr(x:Int): Int:=IntKind.i64.wrap x
abbrev cd{α:Type}(p:Prop)[Decidable p](x y:Option α): Option α:=cnd (decide p) x y
def Cur: List Sh->Type->Type
 | [],R=>R
 | a::r,R=>a.den->Cur r R
def unc{R:Type}: (l:List Sh)->Cur l R->eW l->R
 | [],f,_=>f
 | _::r,f,p=>unc r (f<|eW.hd p)<|eW.tl p
noncomputable section
variable [ZT][YG P T]
def iX{c:bK}(z:Nat)(C:List<|IU P T)(ls:List<|(j:Nat)×List (LC P T N fl<|n4 (H9 c) j))(il:List<|IC P T){γ:Type->Type}(B:∀R,γ R)(hc:c=.mask (lpx c) (lpr c) (lpt c) (.loop (some<|lpl c) (lpu c)<|H9 c):=by kernel_rfl)(hB:γ=BL (dz z):=by kernel_rfl)(h:∀n φ p q k e',Hq ((⟨C,zkd<|dz z,ls,zun<|dz z,il⟩:En P T N fl<|H9 c).xe YG.g) n (H9 c) 0 ((yL<|dz z).mkG (yL<|dz z).os.length φ p q) (ZP (yL<|dz z) (oK<|dz z) (lpl c) (lpu c) (lpx c) (lpr c) (lpt c) (yL<|dz z).os.length k e')=cB hB B (kR<|oK<|dz z) n p (k ((yL<|dz z).fo.map φ) p) (Fd ((yL<|dz z).fo.map φ) p e') q:=by intros;kernel_rfl)(hf:PE (yL<|dz z).fo (oK<|dz z)=true:=by kernel_rfl)(hm:∀p q,hmA ((yL<|dz z).mk' p q).hp (YH<|dz z) p (oK<|dz z)=hmB ((yL<|dz z).mk' p q).hp (YH<|dz z) p (oK<|dz z):=by intros;kernel_rfl)(hk:s5 c (zkt<|dz z)=true:=by kernel_rfl): LC P T N fl c:=
 mkL YG.g hc ⟨C,zkd<|dz z,ls,zun<|dz z,il⟩ (yL<|dz z) (YH<|dz z) (zkt<|dz z) (oK<|dz z) (cB hB B<|kR<|oK<|dz z) h (λp q=>HMz hf<|hm p q) hk
def eZ{c:bK}(z:Nat)(C:List<|IU P T)(ls:List<|(j:Nat)×List (LC P T N fl<|n4 (H9 c) j))(il:List<|IC P T){γ:Type->Type}(B:∀R,γ R)(hc:c=.told (lpl c) (lpx c) (lpr c) (H9 c):=by kernel_rfl)(hB:γ=BP (dz z):=by kernel_rfl)(h:∀n φ p q e',Hq ((⟨C,zkd<|dz z,ls,zun<|dz z,il⟩:En P T N fl<|H9 c).xe YG.g) n (H9 c) 0 ((yL<|dz z).mkG (yL<|dz z).os.length φ p q) (P6 (yL<|dz z).os.length (oK<|dz z) (lpx c) (lpr c) e')=cB hB B (kR<|oK<|dz z) n p (Fd ((yL<|dz z).fo.map φ) p e') q:=by intros;kernel_rfl)(hf:PE (yL<|dz z).fo (oK<|dz z)=true:=by kernel_rfl)(hm:∀p q,hmA ((yL<|dz z).mk' p q).hp (YH<|dz z) p (oK<|dz z)=hmB ((yL<|dz z).mk' p q).hp (YH<|dz z) p (oK<|dz z):=by intros;kernel_rfl)(hk:s5 c (zkt<|dz z)=true:=by kernel_rfl): LC P T N fl c:=
 mkP YG.g hc ⟨C,zkd<|dz z,ls,zun<|dz z,il⟩ (yL<|dz z) (YH<|dz z) (zkt<|dz z) (oK<|dz z) (cB hB B<|kR<|oK<|dz z) h (λp q=>HMz hf<|hm p q) hk
def iY(vi fl na z:Nat)(C:List<|IU P T)(ls:List<|(j:Nat)×List (LC P T (EC T vi).nt fl<|n4 (EC T vi).body j))(il:List<|IC P T){γ:Type->Type}(B:∀R,γ R)(hF:getF T vi=some (EC T vi):=by kernel_rfl)(hk:Nat.ble na (EC T vi).nt=true:=by kernel_rfl)(hB:γ=BP (dz z):=by kernel_rfl)(h:∀n φ p q e',exI ((⟨C,zkd<|dz z,ls,zun<|dz z,il⟩:En P T (EC T vi).nt fl (EC T vi).body).xe YG.g) n (EC T vi) ((yL<|dz z).mkG (yL<|dz z).os.length φ p q) (λS=>pA (yL<|dz z).os.length .ret S (oK<|dz z) e')=cB hB B (kR<|oK<|dz z) n p (Fd ((yL<|dz z).fo.map φ) p e') q:=by intros;kernel_rfl)(hf:PE (yL<|dz z).fo (oK<|dz z)=true:=by kernel_rfl)(hm:∀p q,hmA ((yL<|dz z).mk' p q).hp (YH<|dz z) p (oK<|dz z)=hmB ((yL<|dz z).mk' p q).hp (YH<|dz z) p (oK<|dz z):=by intros;kernel_rfl): IC P T:=
 mkI YG.g vi fl hF ⟨C,zkd<|dz z,ls,zun<|dz z,il⟩ (yL<|dz z) (YH<|dz z) (oK<|dz z) (cB hB B<|kR<|oK<|dz z) na hk h λp q=>HMz hf<|hm p q
def F4(z:Tr): List Sh:=rL rSh<|sC 2 z
def zkr(z:Tr): List Nat:=rL rN<|sC 3 z
def zkp(z:Tr): Bool:=rB<|sC 4 z
def zCF(z:Tr): Type:=Nat->Cur (F4 z) (Option<|eW<|(zkr z).map .v)
def cF{γ δ:Type}(h:γ=δ)(f:γ): δ:=h▸f
def dP(vi z:Nat)(C:List<|IU P T)(ls:List<|(j:Nat)×List (LC P T (EC T vi).nt 0<|n4 (EC T vi).body j))(il:List<|IC P T){γ:Type}(f:γ)(hF:getF T vi=some (EC T vi):=by kernel_rfl)(hB:γ=zCF (dz z):=by kernel_rfl)(hk:Nat.ble (F4<|dz z).length (EC T vi).nt=true:=by kernel_rfl)(h0:∀p,unc (F4<|dz z) (cF hB f 0) p=none:=by intros;kernel_rfl)(h:∀n p,unc (F4<|dz z) (cF hB f<|n+1) p=exF ((⟨C,rL SZ<|sC 0<|dz z,ls,rL SZ<|sC 1<|dz z,il⟩:En P T (EC T vi).nt 0 (EC T vi).body).xe YG.g) n (EC T vi) ⟨F4<|dz z,zkr<|dz z,zkp<|dz z,λn p=>unc (F4<|dz z) (cF hB f n) p⟩ p:=by intros;kernel_rfl)(hkp:kpB (zkp<|dz z) (zkr<|dz z)=true:=by kernel_rfl): IU P T:=
 mkC YG.g vi hF (F4<|dz z) (zkr<|dz z) (zkp<|dz z) ⟨C,rL SZ<|sC 0<|dz z,ls,rL SZ<|sC 1<|dz z,il⟩ (λn p=>unc (F4<|dz z) (cF hB f n) p) hk h0 h hkp
end
end
end
def xJ(_:Nat)(args:List AV)(H:aK): Option (AV×aK):=match args with
 | []=>none
 | x::r=>match x with
  | .lit v=>match v with
   | .string s=>match r with
    | []=>none
    | y::q=>match y with
     | .lit u=>match u with
      | .string t=>match q with
       | []=>match Nat.blt s.size 4294967281 with
        | true=>some (.lit (.bool (Lib.contains s.data.toList t.data.toList)),H)
        | false=>none
       | _::_=>none
      | _=>none
     | _=>none
   | _=>none
  | _=>none
def Oj(n:Nat)(s t:ByteArray): Option Bool:=match n with
 | 0=>none
 | _+1=>match Nat.blt s.size 4294967281 with
  | true=>some (Lib.contains s.data.toList t.data.toList)
  | false=>none
def clF{α:Type}(n:Nat)(l:List α): Option (List α):=match n with
 | 0=>none
 | _+1=>app [] l
section
open Go.Proofs Go.RowKit Go.Shelf Go.Sort
def cI(z:Int): List AV:=[.lit<|.int .i64 z]
def WD: List (List AV)->Option (List Int)
 | []=>some []
 | e::r=>match e with
  | [.lit<|.int .i64 a]=>match WD r with
   | some l=>some (a::l)
   | none=>none
  | _=>none
theorem CZ: ∀(es:List<|List AV) (l:List Int),WD es=some l->es=l.map cI
 | [],l,h=>by simp only[WD,Option.some.injEq] at h;subst h;rfl
 | e::r,l,h=>by
  unfold WD at h;split at h
  .split at h
   .rename_i a b;cases h;rw[CZ r a b];rfl
   .cases h
  .cases h
def OY(x:Int): List Int->List Int
 | []=>[x]
 | y::r=>match decide (x<=y) with
  | true=>x::y::r
  | false=>y::OY x r
def ER: List Int->List Int
 | []=>[]
 | x::r=>OY x<|ER r
theorem CG(a:Int)(e:List Int): ∀d:List Int,(∀b∈d,decide (a<=b)=false)->OY a (d++e)=d++OY a e
 | [],_=>rfl
 | b::r,h=>by
  simp only[List.cons_append,OY,h b<|List.mem_cons_self ..];rw[CG a e r λc f=>h c<|List.mem_cons_of_mem _ f]
theorem Vf: ∀l:List Int,(l.mergeSort λx y=>decide<|x<=y)=ER l
 | []=>List.mergeSort_nil
 | a::l=>by
  have d:∀a b c:Int,decide (a<=b)=true->decide (b<=c)=true->decide (a<=c)=true:=by intro a b c i h;simp only[decide_eq_true_eq] at *;omega
  have f:∀a b:Int,(decide (a<=b)||decide (b<=a))=true:=by intro a b;simp only[Bool.or_eq_true,decide_eq_true_eq];omega
  let⟨j,e,i,h,k⟩:=List.mergeSort_cons (le:=λx y:Int=>decide<|x<=y) d f a l;have g:=List.pairwise_mergeSort (le:=λx y:Int=>decide<|x<=y) d f (a::l);rw[i] at g |-;have n:=Vf l;simp only[ER];rw[<-n,h,CG a e j λb m=>by simpa using k b m];cases e with
  | nil=>rfl
  | cons b r=>
   have:decide (a<=b)=true:=(List.pairwise_cons.1 (List.pairwise_append.1 g).2.1).1 b<|List.mem_cons_self ..;simp only[OY,this]
theorem RY(l:List Int): (ER l).length=l.length:=by rw[<-Vf];exact List.length_mergeSort l
def Gv(fl:Nat)(args:List AV)(H:aK): Option<|AV×aK:=match args with
 | []=>none
 | x::r=>match r with
  | _::_=>none
  | []=>match rE x with
   | true=>some (.tup [],H)
   | false=>match x with
    | .ms id tot off len=>match Nat.ble fl id with
     | false=>none
     | true=>match H[id]? with
      | none=>none
      | some o=>match o with
       | .blk s es=>match (Nat.beq s 1&&Nat.beq off 0&&Nat.beq len tot&&Nat.beq es.length tot&&Nat.ble tot 1000000) with
        | false=>none
        | true=>match WD es with
         | none=>none
         | some l=>some (.tup [],H.set id<|.blk 1<|(ER l).map cI)
       | _=>none
    | _=>none
theorem Sr{fl:Nat}{a:List AV}{H H':aK}{r:AV}(h:Gv fl a H=some (r,H')):
 (∃x,a=[x]/\rE x=true/\r=.tup []/\H'=H) \/
 ∃id l,a=[.ms id l.length 0 l.length]/\l≠[]/\fl<=id/\H[id]?=some (.blk 1<|l.map cI)/\l.length<=1000000/\r=.tup []/\H'=H.set id (.blk 1<|(ER l).map cI):=by
 unfold Gv at h;repeat' split at h;all_goals first
  | (cases h;done)
  | skip
 .rename_i he;cases h;exact .inl ⟨_,rfl,he,rfl,rfl⟩
 .rename_i e _ id tot off len _ c _ _ s es b _ f _ l o;cases h;simp only[Bool.and_eq_true] at f;let⟨⟨⟨⟨i,k⟩,p⟩,j⟩,n⟩:=f;have g:=Nat.eq_of_beq_eq_true i;have e2:=Nat.eq_of_beq_eq_true k;have t:=Nat.eq_of_beq_eq_true p;have d:=Nat.eq_of_beq_eq_true j;have u:=Nat.le_of_ble_eq_true n;have m:=CZ _ _ o;subst g e2 t m;rw[List.length_map] at d;subst d;refine .inr ⟨_,_,rfl,?_,Nat.le_of_ble_eq_true c,b,u,rfl,rfl⟩;intro q;subst q;exact absurd ‹rE _=false› (by simp[rE])
def Pb(P:Program)(f:Nat): Prop:=∀(blk off cap:Nat) (zs:List Int) (w:World),Holds (Value.int .i64) w blk off zs.toArray->blk<w.heap.size->zs.length<4611686018427387904->
 Calls P f #[.slice (some ⟨blk,off,none⟩) zs.length cap] w λe w'=>
  e=.returned (.tuple #[])/\∃n os,w'=grow (putRow (Value.int .i64) (Sort.ahead w n) blk off (zs.mergeSort λx y=>decide<|x<=y).toArray) os
def Ih(P:Program)(f:Nat): Prop:=∀(p:Option Addr) (cap:Nat) (w:World),Calls P f #[.slice p 0 cap] w λe w'=>e=.returned (.tuple #[])/\w'=w
section
variable {P:Program}{T:List bC}
theorem SB[aA]{f:Nat}(hL:Pb P f)(hN:Ih P f){fl:Nat}{G:List AV}{r:AV}{H':aK}{c:bM}{vs:Array Value}(c2:Gv fl G c.H=some (r,H'))(W:aZ (aF T) c)(g:gY (aF T) c G vs):
 Calls P f vs c.w λe w'=>∃v c',e=.returned v/\c'.w=w'/\c'.H=H'/\c'.X=c.X/\aY fl c c'/\aZ (aF T) c'/\RV (aF T) c' r v:=by
 rcases Sr c2 with⟨x,rfl,he,rfl,rfl⟩ | ⟨id,l,rfl,d1,d3,B,e1,rfl,rfl⟩
 .let⟨u0,k0,r0⟩:=g.2 0 _ rfl;obtain⟨p,cap,rfl⟩:=CX he r0;have R:vs=#[.slice p 0 cap]:=by
   apply Array.ext
   .exact g.1
   .intro i L N;have J:i<1:=by simpa using N
    match i,J with
    | 0,_=>exact Option.some.inj<|(Array.getElem?_eq_getElem L).symm.trans<|by simpa using k0
  subst R;refine (hN p cap c.w).mono λe w' ⟨he,U⟩=>?_;subst U;exact⟨_,c,he,rfl,rfl,rfl,aY.refl fl c,W,.tup [] #[] (λ_=>aT) rfl (λi x E=>by simp at E) λi x E=>by simp at E⟩
 let⟨u0,k0,r0⟩:=g.2 0 _ rfl;obtain⟨a,cap,s',n,rfl,g1,g2,g3,g4⟩:=r0.ms_inv;have c3:s'=1/\n=l.length:=by
  simp only[shp,B] at g1;simpa [eq_comm] using g1
 obtain⟨rfl,rfl⟩:=c3;have e2:0<l.length:=List.length_pos_iff.2 d1;let⟨f2,d2⟩:=g4 rfl;rcases d2 with⟨_,h0,_⟩ | ⟨b,cs,ty,a',hb,s,e3,rfl,b2⟩
 .omega
 have b1:cap≠0:=by omega
 obtain rfl:=b2 b1;have R:vs=#[.slice (some ⟨b,0,none⟩) l.length cap]:=by
  apply Array.ext
  .exact g.1
  .intro i L N;have J:i<1:=by simpa using N
   match i,J with
   | 0,_=>exact Option.some.inj<|(Array.getElem?_eq_getElem L).symm.trans<|by simpa using k0
 subst R;let⟨f3,f1,a2,Z,M⟩:=W.blk id 1 _ b B hb;rw[s] at a2;cases a2;have Y:b<c.w.heap.size:=W.lt hb;have O:l.length<=cs.size:=by simpa using Z
 have a3:∀(i:Nat) (z:Int),l[i]?=some z->cs[i]?=some (Value.int .i64 z):=by
  intro i z S;let⟨v,h1,_,h3⟩:=M i 0 (AV.lit<|Value.int .i64 z) (by simp[bA,S,cI]);rw[h3.lit_inv] at h1;simpa using h1
 have hH:Holds (Value.int .i64) c.w b 0 l.toArray:=by
  intro t ht;have b3:t<l.length:=by simpa using ht
  refine⟨?_,by simp[World.frozen?,s]⟩;have:=a3 t l[t]<|List.getElem?_eq_getElem b3;simp only[World.cell?,s,Nat.zero_add];simpa [b3] using this
 refine (hL b 0 cap l c.w hH Y<|by omega).mono λe w' ⟨he,q,os,U⟩=>?_;rw[Vf l] at U;generalize hd:ER l=d at U;have K:d.length=l.length:=by rw[<-hd];exact RY l
 have a1:(putRow (Value.int .i64) (Sort.ahead c.w q) b 0 d.toArray).heap[b]?=some (.cells (putCells (Value.int .i64) 0 d.toArray cs) ty (0,0)):=by
  unfold putRow mapBlock;simp[Array.getElem?_modify,Sort.ahead,s,onCells]
 have o:∀k,k≠b->(putRow (Value.int .i64) (Sort.ahead c.w q) b 0 d.toArray).heap[k]?=c.w.heap[k]?:=by
  intro k hk;unfold putRow mapBlock;rw[Array.getElem?_modify,if_neg<|Ne.symm hk];rfl
 have A:(putRow (Value.int .i64) (Sort.ahead c.w q) b 0 d.toArray).heap.size=c.w.heap.size:=by
  unfold putRow mapBlock;simp[Sort.ahead]
 have u:(putCells (Value.int .i64) 0 d.toArray cs).size=cs.size:=by simp[putCells]
 have C:∀i j x,bA (d.map cI) i j=some x->∃v,(putCells (Value.int .i64) 0 d.toArray cs)[i*1+j]?=some v/\aS v=true/\RV (aF T) c x v:=by
  intro i j x E;let⟨e,V,y⟩:=cS E;rw[List.getElem?_map,Option.map_eq_some_iff] at V;obtain⟨z,S,rfl⟩:=V;have hi:i<d.length:=by
   rcases Nat.lt_or_ge i d.length with h | h
   .exact h
   .rw[List.getElem?_eq_none h] at S;cases S
  match j,y with
  | 0,y=>
   cases y;refine⟨Value.int .i64 z,?_,rfl,RV.lit _⟩;unfold putCells;rw[Array.getElem?_mapIdx,Nat.mul_one,Nat.add_zero,Array.getElem?_eq_getElem<|by omega];simp only[Option.map_some,Nat.zero_le,true_and,Nat.zero_add,Nat.sub_zero];rw[if_pos<|by simpa using hi];have:d.toArray[i]! =z:=by
    rw[List.getElem?_eq_getElem hi] at S;simp[hi];exact Option.some.inj S
   rw[this]
  | j+1,y=>simp[cI] at y
 have D:∀e∈d.map cI,e.length=1:=by
  intro e he;obtain⟨z,_,rfl⟩:=List.mem_map.1 he;rfl
 have I:=mA (w':=putRow (Value.int .i64) (Sort.ahead c.w q) b 0 d.toArray) (es':=d.map cI) W d3 B hb s (by simp[K]) u a1 o A rfl rfl rfl<|Nat.le_add_right _ _;have m:=tQ (w':=putRow (Value.int .i64) (Sort.ahead c.w q) b 0 d.toArray) (es':=d.map cI) W B hb s (by simp[K]) u a1 o A rfl rfl rfl D (by rw[u];simp[K];exact O) C<|Nat.le_add_right _ _;generalize Q:(⟨putRow (Value.int .i64) (Sort.ahead c.w q) b 0 d.toArray,c.X,c.β,c.H.set id<|.blk 1<|d.map cI⟩:bM)=c1 at I m;have F:=RU (c:=c1) (q:=0) (os:=os);refine⟨.tuple #[],jY c1 ⟨grow (Sort.ahead c1.w 0) os,(fO c1).X,λ_=>none,[]⟩,he,?_,?_,?_,I.trans<|oI m F,sY m F,?_⟩
 .rw[U,<-Q];rfl
 .rw[<-Q];rfl
 .rw[<-Q];rfl
 .exact .tup [] #[] (λ_=>aT) rfl (λi x E=>by simp at E) λi x E=>by simp at E
end
end
section
open gO (den cds ag)
section
variable [cN][aA]{P:Program}{T:List bC}
def aBp(vi ks kb:Nat)(hp:aA.prim vi=some (Bv xJ))(F:Nat->eW [.v ks,.v ks]->Option (eW<|[kb].map .v))(h:∀n p r,F n p=some r->∃m s t b,n=m+1/\vQ [.v ks,.v ks] p=[.lit<|.string s,.lit<|.string t]/\Oj n s t=some b/\rA 2 [] ([kb].map .v) [.lit<|.bool b]=some r): IU P T:=
 ⟨vi,⟨[.v ks,.v ks],[kb],false,F⟩,.of0 (by
  intro n p r hr aw q
  obtain⟨m,s,t,b,rfl,h1,h2,h3⟩:=h n p r hr
  have q:Qc [] (vQ [.v ks,.v ks] p) aw:=q
  rw[h1] at q
  obtain⟨a,a',rfl⟩:∃a a',aw=[a,a']:=by
   match aw,q with
   | [a,a'],_=>exact⟨a,a',rfl⟩
  have e1:=q.1.inL
  have e2:=q.2.1.inL
  subst e1;subst e2
  have e:eB P T (m+1) 0 vi [.lit<|.string s,.lit<|.string t] []=some (.lit<|.bool b,[]):=by
   simp only[eB,hp,xJ]
   simp only[Oj] at h2
   split at h2
   .rename_i hb;cases h2;simp only[hb]
   .cases h2
  exact⟨[.lit<|.bool b],[.lit<|.bool b],[],[],e,trivial,⟨Qh.l _,trivial⟩,h3,λh=>by cases h⟩) rfl⟩
def aCZ(vi k ks:Nat)(hc:L4 T vi k)(F:Nat->eW [.w ks]->Option (eW<|[ks].map .v))(L:eW [.w ks]->List (den k))(h:∀n p r,F n p=some r->∃m,n=m+1/\vQ [.w ks] p=[.vw k<|L p]/\(L p).length<=1000000/\rA 2 [.lst k<|L p] ([ks].map .v) [.ms 0 none]=some r/\(L p=[]->rA 2 [] ([ks].map .v) [.emp false]=some r)): IU P T:=
 ⟨vi,⟨[.w ks],[ks],false,F⟩,.of0 (by
  intro n p r hr aw q
  obtain⟨m,rfl,h1,h2,h3,h4⟩:=h n p r hr
  have q:Qc [] (vQ [.w ks] p) aw:=q
  rw[h1] at q
  obtain⟨a,rfl⟩:∃a,aw=[a]:=by
   match aw,q with
   | [a],_=>exact⟨a,rfl⟩
  obtain⟨fid,bytes,z,hT,h0,hb⟩:=hc
  obtain⟨e1,e2,e3⟩:=WM (P:=P) (n:=m) (G:=[]) hT h0
  obtain⟨es,hk,hq⟩:=(q.1.pu trivial).inV
  have em:L p=[]->es=[]:=λe=>List.length_eq_zero_iff.1<|by have:=hq.len;rw[e] at this;exact this
  cases es with
  | nil=>
   have e:L p=[]:=List.length_eq_zero_iff.1 hq.len.symm
   have fin:∀v,eB P T (m+1) 0 vi [a] []=some (v,[])->(v=.lit bZ\/v=.sl false [])->∃vs aw' A H,eB P T (m+1) 0 vi [a] []=some (dM aw',A)/\Qs H A/\Qc H vs aw'/\rA 2 H ([ks].map .v) vs=some r/\(false=true->Hf H vs=true):=by
    intro v hv hd
    refine⟨[.emp false],[v],[],[],hv,trivial,⟨.p _ _<|.emp _ _ ?_,trivial⟩,h4 e,λh=>by cases h⟩
    rcases hd with h | h
    .exact .inl h
    .exact .inr<|.inr ⟨rfl,h⟩
   rcases hk with⟨rfl,_⟩ | hk | hk
   .exact fin _ e1<|.inl rfl
   .exact fin _ (e2 a<|.inl hk)<|.inr rfl
   .exact fin _ (e2 a<|.inr hk)<|.inr rfl
  | cons e es=>
   have hk:(∃f,a=.sl f (e::es))\/a=.vw (e::es):=by
    rcases hk with⟨_,hk⟩ | hk
    .cases hk
    .exact hk
   have g:=e3 a e es hk (hq.all rfl)<|fQ (by rw[hq.len];exact h2) hb
   refine⟨[.ms 0 none],[.ms 0 (e::es).length 0 (e::es).length],_,[.lst k<|L p],g,⟨⟨_,rfl,hq⟩,trivial⟩,⟨?_,trivial⟩,h3,λh=>by cases h⟩
   rw[hq.len]
   exact .ms 0 k (L p) rfl) rfl⟩
theorem aDc{α:Type}{n:Nat}{l a:List α}(h:clF n l=some a): ∃m,n=m+1/\a=l/\l.length<=1000000:=by
 cases n with
 | zero=>cases h
 | succ m=>
  let⟨c,b⟩:=sZ h;exact⟨m,rfl,by simpa using c,by simpa using b⟩
theorem V7{n:Nat}{s t:ByteArray}{b:Bool}(h:Oj n s t=some b): ∃m,n=m+1:=by
 cases n with
 | zero=>cases h
 | succ m=>exact⟨m,rfl⟩
end
end
section
variable {P:Program}{T:List bC}{cf:CF}{fl lf:Nat}
def Kf: List aH:=[⟨some 5,.mov (.tmp 7),none⟩,⟨some 8,.extract (.tmp 5) 0,none⟩,⟨some 9,.extract (.tmp 5) 1,none⟩,⟨some 3,.alloc [.int .i64 0],none⟩,⟨none,.store 1 (.tmp 3) (.tmp 8),none⟩,⟨some 4,.mov (.tmp 9),none⟩]
def N8: bK:=.seq (.region false [] [⟨some 10,.mov (.tmp 4),none⟩]) (.cond (.tmp 10) (.seq (.region false [] [⟨some 11,.fieldAddr 0 (.tmp 3),none⟩,⟨some 12,.load false 1 (.tmp 11),none⟩,⟨some 2,.mov (.tmp 12),none⟩]) .ret) .skip)
def Om[aA](P:Program)(T:List bC)(f:Nat): Bool:=match P.funcs[f]? with
 | some fn=>match fn.body with
  | some (.seq (.region _ a0 false) (.seq (.seq (.region _ a1 false) W) _))=>match a1.toList with
   | m1::ta::rest=>cP P T a0 [⟨some 2,.mov (.lit (.int .i64 0)),none⟩] a0.toList&&(cP P T a1 [⟨some 6,.mov (.tmp 0),none⟩] [m1]&&(cP P T a1 Kf rest&&(dT P T N8 W&&(Nat.beq fn.ntmps 13&&(lM P [.tmp 2] fn.results.toList&&(Cj P aA.ft&&(ta.guard.isNone&&(ta.dst==some 7&&match ta.op with
    | .typeAssert (.tmp 6) _ t true=>Nat.beq t aA.ft
    | _=>false))))))))
   | _=>false
  | _=>false
 | none=>false
theorem N7[aA](hm:P.follows .mixedOrders=true)(hfo:fP cf)(hcf:jD P T cf)(hfn:fA P T){f:Nat}(h:Om P T f=true){c:bM}(hs:aZ (aF T) c)(n:Int): Calls P f #[gK n] c.w λe w'=>e=.returned (.int .i64 n)/\∃c',c'.w=w'/\c'.H=c.H/\c'.X=c.X/\aY fl c c'/\aZ (aF T) c':=by
 unfold Om at h
 split at h
 case h_2=>cases h
 rename_i fn hf
 split at h
 case h_2=>cases h
 rename_i i0 a0 i1 a1 W Z hbody
 split at h
 case h_2=>cases h
 rename_i m1 ta rest ha1
 simp only[Bool.and_eq_true,Option.isNone_iff_eq_none,beq_iff_eq] at h
 let⟨h1,h2,h3,h4,h5,h6,h7,h8,h9,h10⟩:=h
 have h5:=Nat.eq_of_beq_eq_true h5
 split at h10
 case h_2=>cases h10
 rename_i xT at_ hop
 have h10:=Nat.eq_of_beq_eq_true h10
 subst h10
 have hb:=sW hs
 refine calls_of_wp hf hbody ?_
 rw[h5]
 have hargs:gY (aF T) (fO c) [.lit (gK n)] #[gK n]:=⟨rfl,λi x e=>by
  cases i with
  | zero=>simp at e;subst e;exact⟨_,rfl,RV.lit _⟩
  | succ i=>simp at e⟩
 have htr:TR (aF T) (fO c) ([.lit (gK n)]++List.replicate 12 (.lit aT)) (#[gK n]++Array.replicate (13-1) undef):=xE (n:=13) hargs
 show Code.wp P _ _ _ (fO c).w
 refine wp_seq (wp_region ?_)
 have hs0:a0.size=1:=by have:=(dS h1).1;simpa using this.symm
 rw[List.range_eq_range',hs0,<-List.append_nil (List.range' 0 _)]
 refine tZ (fl:=0) hcf hfn _ a0.toList 0 (fO c) _ _ _ h1 (λj o e=>by simpa using e) hb htr (Nat.zero_le _) (show aW P cf 0 _ ⟨_,[]⟩=some ⟨_,[]⟩ from rfl) ?_
 intro a2 c2 e1 e2 e3 e4 e5
 refine wp_seq (wp_seq (wp_region ?_))
 have hsz:a1.size=rest.length+2:=by rw[<-Array.length_toList,ha1];rfl
 have hgo:∀j,a1[j]?=(m1::ta::rest)[j]?:=λj=>by rw[<-ha1,Array.getElem?_toList]
 have er:List.range a1.size=List.range' 0 1++(1::List.range' 2 rest.length):=by rw[List.range_eq_range',hsz];rfl
 rw[er]
 refine tZ (fl:=0) hcf hfn [⟨some 6,.mov (.tmp 0),none⟩] [m1] 0 c2 a2 _ _ h2 (λj o e=>?_) e3 e4 (Nat.zero_le _) (show aW P cf 0 _ ⟨_,c2.H⟩=some ⟨_,[]⟩ by rw[e1];rfl) ?_
 .cases j with
  | zero=>rw[hgo];simpa using e
  | succ j=>simp at e
 intro a3 c3 f1 f2 f3 f4 f5
 rw[wpOps_cons]
 unfold wpOp
 rw[hgo]
 simp only[List.getElem?_cons_succ,List.getElem?_cons_zero]
 rw[if_pos (by simp[Region.wanted,h8])];left
 have hev:a3.eval (.tmp 6)=gK n:=by
  let⟨v,y1,y2⟩:=f4.2 6 (.lit (gK n)) rfl
  rw[y2.lit_inv] at y1
  simp[Act.eval,y1]
 have hstr:∃fs,P.underlying aA.ft=some (.struct fs):=by
  unfold Cj at h7;split at h7
  .rename_i fs q;exact⟨fs,q⟩
  .cases h7
 let⟨fs,hfs⟩:=hstr
 have r1:(execOp a3.eval ta).run P c3.w=.ok (.value (.tuple #[.agg #[.int .i64 n],.bool true])) c3.w:=by
  simp[execOp,hop,Instr.typeAssert,hev,gK,run_underlying hfs]
 unfold Oper.wp;rw[r1,Oper.upon_value,h9,<-List.append_nil (List.range' 2 rest.length),show rest.length=Kf.length from ((dS h3).1).symm]
 have htr3:=TR.put (d:=some 7) f4 (show RV (aF T) c3 (.tup [.agg [.lit (.int .i64 n)],.lit (.bool true)]) (.tuple #[.agg #[.int .i64 n],.bool true]) from by
  refine .tup _ _ (λi=>if i=0 then .agg #[.int .i64 n] else .bool true) rfl ?_ ?_
  .intro i y h
   match i with
   | 0=>rfl
   | 1=>rfl
   | i+2=>simp at h
  .intro i y h
   match i with
   | 0=>
    simp at h;subst h
    refine .agg _ _ (λ_=>.int .i64 n) rfl ?_ ?_
    .intro i y h
     match i with
     | 0=>exact⟨rfl,rfl⟩
     | i+1=>simp at h
    .intro i y h
     match i with
     | 0=>simp at h;subst h;exact RV.lit _
     | i+1=>simp at h
   | 1=>simp at h;subst h;simpa using RV.lit _
   | i+2=>simp at h)
 refine tZ (fl:=0) hcf hfn Kf rest 2 c3 _ _ _ h3 (λj o e=>?_) f3 htr3 (Nat.zero_le _) (show aW P cf 0 Kf ⟨_,c3.H⟩=some ⟨_,[.blk 1 [[.lit (.int .i64 n)]]]⟩ by rw[f1];rfl) ?_
 .rw[hgo,show 2+j=j+1+1 by omega,List.getElem?_cons_succ,List.getElem?_cons_succ];exact e
 intro a4 c4 g1 g2 g3 g4 g5
 show W.wp P _ a4 c4.w
 refine cZ (lf:=0) (fl:=0) hm hfo hcf hfn N8 W h4 c4 a4 _ .ret _ _ g3 g4 (Nat.zero_le _) (show bW P cf 0 0 N8 ⟨_,c4.H⟩=some (.ret,⟨_,[.blk 1 [[.lit (.int .i64 n)]]]⟩) by rw[g1];rfl) ?_
 intro a5 c5 k1 k2 k3 k4 k5
 simp only[pC,Exit.then,bodyPost]
 let⟨v,N,G⟩:=qA (fn:=fn) (rs:=[.tmp 2]) (vs:=[.lit (.int .i64 n)]) k3 k1 k4 h6 rfl
 have hv:v=.int .i64 n:=G.lit_inv
 subst hv
 have hst:aY 0 (fO c) c5:=e2.trans (f2.trans (g2.trans k2))
 exact⟨by rw[k5,g5];simp[fJ,f5,e5],_,N,rfl,jY c c5,rfl,rfl,rfl,oI hs hst,sY hs hst⟩
end
section
variable {P:Program}{T:List bC}{cf:CF}{fl lf:Nat}
theorem evl[aA]{FT:Nat->Option Nat}{c:bM}{tm:List AV}{a:Act}{t:Nat}{v:Value}(h:TR FT c tm a.tmps)(e:tm[t]?=some (.lit v)): a.eval (.tmp t)=v:=by
 let⟨u,y1,y2⟩:=h.2 t _ e
 rw[y2.lit_inv] at y1
 simp[Act.eval,y1]
theorem LG[aA]{ops:Array Oper}{d s:Nat}{o:Oper}(h:cW P T ops ⟨some d,.mov (.tmp s),none⟩ o=true): o.dst=some d/\o.guard=none/\∀(ρ:Operand->Value) (w:World),(execOp ρ o).run P w=.ok (.value (ρ (.tmp s))) w:=by
 simp only[cW,Bool.and_eq_true,beq_iff_eq] at h;let⟨⟨a,b⟩,e⟩:=h
 refine⟨a.symm,?_,?_⟩
 .cases g:o.guard with
  | none=>rfl
  | some q=>rw[g] at b;cases b
 intro ρ w
 simp only[bP] at e;split at e
 .rename_i y q;cases y<;>simp only[aI,Bool.false_eq_true,beq_iff_eq] at e;subst e;simp[execOp,q]
 .rename_i y q;cases y<;>simp only[aI,Bool.false_eq_true,beq_iff_eq] at e;subst e;simp[execOp,q]
 .cases e
def VD(o:Op): Bool:=match o with
 | .call ⟨.builtin .recover,_,_⟩=>true
 | _=>false
def VE(t:TypeId)(o:Op): Bool:=match o with
 | .binOp .neq t' (.tmp 4) (.const .nilIface) _=>Nat.beq t' t
 | _=>false
def Oo[aA](P:Program)(T:List bC)(g vr fr n1:Nat)(z:List Value)(t:TypeId): Bool:=match P.funcs[g]? with
 | some fn=>match fn.body with
  | some (.seq (.region _ a0 false) (.seq (.region _ a1 false) (.cond (.tmp k) (.region _ a2 false) .skip)))=>match a0.toList,a1.toList,a2.toList with
   | [x1,x2],[y1,y2],[w1,w2,w3,w4,w5]=>Nat.beq k 5&&(cW P T a0 ⟨some 2,.mov (.tmp 3),none⟩ x2&&(cW P T a1 ⟨some 4,.mov (.tmp 2),none⟩ y1&&(cP P T a2 [⟨some 6,.build z [],none⟩,⟨some 7,.mov (.tmp 2),none⟩] [w1,w2]&&(cW P T a2 ⟨some 8,.call false vr [.tmp 7],none⟩ w3&&(cP P T a2 [⟨none,.store n1 (.tmp 0) (.tmp 6),none⟩,⟨none,.store 1 (.tmp 1) (.tmp 8),none⟩] [w4,w5]&&(aF T vr==some fr&&(Nat.beq fn.ntmps 9&&(fn.results.isEmpty&&(z.length==n1&&(x1.guard.isNone&&(x1.dst==some 3&&(y2.guard.isNone&&(y2.dst==some 5&&VD x1.op&&VE t y2.op)))))))))))))
   | _,_,_=>false
  | _=>false
 | none=>false
structure aAb[aA](P:Program)(T:List bC)(g vr fr n1:Nat)(z:List Value)(t:TypeId)(fn:Func)(i0 i1 i2:Nat)(x1 x2 y1 y2 w1 w2 w3 w4 w5:Oper): Prop where
 hf:P.funcs[g]?=some fn
 hb:fn.body=some (.seq (.region i0 #[x1,x2] false) (.seq (.region i1 #[y1,y2] false) (.cond (.tmp 5) (.region i2 #[w1,w2,w3,w4,w5] false) .skip)))
 kx2:cW P T #[x1,x2] ⟨some 2,.mov (.tmp 3),none⟩ x2=true
 ky1:cW P T #[y1,y2] ⟨some 4,.mov (.tmp 2),none⟩ y1=true
 kw12:cP P T #[w1,w2,w3,w4,w5] [⟨some 6,.build z [],none⟩,⟨some 7,.mov (.tmp 2),none⟩] [w1,w2]=true
 kw3:cW P T #[w1,w2,w3,w4,w5] ⟨some 8,.call false vr [.tmp 7],none⟩ w3=true
 kw45:cP P T #[w1,w2,w3,w4,w5] [⟨none,.store n1 (.tmp 0) (.tmp 6),none⟩,⟨none,.store 1 (.tmp 1) (.tmp 8),none⟩] [w4,w5]=true
 ft:aF T vr=some fr
 nt:fn.ntmps=9
 rs:fn.results=#[]
 zl:z.length=n1
 xg:x1.guard=none
 xd:x1.dst=some 3
 yg:y2.guard=none
 yd:y2.dst=some 5
 xo:∃as1 ts,x1.op=.call ⟨.builtin .recover,as1,ts⟩
 yo:∃u,y2.op=.binOp .neq t (.tmp 4) (.const .nilIface) u
theorem Hy[aA]{g vr fr n1:Nat}{z:List Value}{t:TypeId}(h:Oo P T g vr fr n1 z t=true): ∃fn i0 i1 i2 x1 x2 y1 y2 w1 w2 w3 w4 w5,aAb P T g vr fr n1 z t fn i0 i1 i2 x1 x2 y1 y2 w1 w2 w3 w4 w5:=by
 unfold Oo at h
 split at h
 case h_2=>cases h
 rename_i fn hf
 split at h
 case h_2=>cases h
 rename_i i0 a0 i1 a1 k i2 a2 hb
 split at h
 case h_2=>cases h
 rename_i x1 x2 y1 y2 w1 w2 w3 w4 w5 e0 e1 e2
 have e0:a0=#[x1,x2]:=by apply Array.ext';simpa using e0
 have e1:a1=#[y1,y2]:=by apply Array.ext';simpa using e1
 have e2:a2=#[w1,w2,w3,w4,w5]:=by apply Array.ext';simpa using e2
 subst e0 e1 e2
 simp only[Bool.and_eq_true,Option.isNone_iff_eq_none,beq_iff_eq] at h
 let⟨h1,h2,h3,h4,h5,h6,h7,h8,h9,h10,h11,h12,h13,⟨h14,h15⟩,h16⟩:=h
 have h1:=Nat.eq_of_beq_eq_true h1
 subst h1
 have xo:∃as1 ts,x1.op=.call ⟨.builtin .recover,as1,ts⟩:=by
  revert h15;generalize x1.op=o;intro h15;unfold VD at h15;split at h15
  .exact⟨_,_,rfl⟩
  .cases h15
 have yo:∃u,y2.op=.binOp .neq t (.tmp 4) (.const .nilIface) u:=by
  revert h16;generalize y2.op=o;intro h16;unfold VE at h16;split at h16
  .rename_i t' u
   have:=Nat.eq_of_beq_eq_true h16
   subst this
   exact⟨u,rfl⟩
  .cases h16
 exact⟨fn,i0,i1,i2,x1,x2,y1,y2,w1,w2,w3,w4,w5,{ hf:=hf,hb:=hb,kx2:=h2,ky1:=h3,kw12:=h4,kw3:=h5,kw45:=h6,ft:=h7,nt:=Nat.eq_of_beq_eq_true h8,rs:=by simpa using h9,zl:=h10,xg:=h11,xd:=h12,yg:=h13,yd:=h14,xo:=xo,yo:=yo }⟩
section
variable {g vr fr n1:Nat}{z:List Value}{t:TypeId}{fn:Func}{i0 i1 i2:Nat}{x1 x2 y1 y2 w1 w2 w3 w4 w5:Oper}
theorem DB[aA](h:aAb P T g vr fr n1 z t fn i0 i1 i2 x1 x2 y1 y2 w1 w2 w3 w4 w5){c:bM}{p1 p2:AV}{u1 u2 v:Value}{b:Bool}(hp1:RV (aF T) c p1 u1)(hp2:RV (aF T) c p2 u2)(hN:aJ P (binOp .neq t v .nilIface)=some (.bool b))(hv:v=.nilIface\/∃n,v=gK n){c₀:Frame}{cs cs':List Frame}{Q:Exit->Act->List Frame->World->Prop}
 (hrec:match recoverD (c₀::cs) with | some (u,k)=>u=v/\k=cs' | none=>v=.nilIface/\cs'=c₀::cs)
 (hQ:∀a:Act,a.defers=[]->TR (aF T) c ([p1,p2,.lit v,.lit v,.lit v,.lit (.bool b)]++List.replicate 3 (.lit aT)) a.tmps->(Code.cond (.tmp 5) (.region i2 #[w1,w2,w3,w4,w5] false) .skip).wp P (λe a' w'=>Q e a' cs' w') a c.w):
 (Code.seq (.region i0 #[x1,x2] false) (.seq (.region i1 #[y1,y2] false) (.cond (.tmp 5) (.region i2 #[w1,w2,w3,w4,w5] false) .skip))).wpS P Q { tmps:=#[u1,u2]++Array.replicate (fn.ntmps-2) undef,defers:=[] } (c₀::cs) c.w:=by
 rw[h.nt]
 have hargs:gY (aF T) c [p1,p2] #[u1,u2]:=⟨rfl,λi x e=>by
  match i with
  | 0=>simp at e;subst e;exact⟨_,rfl,hp1⟩
  | 1=>simp at e;subst e;exact⟨_,rfl,hp2⟩
  | i+2=>simp at e⟩
 have T0:TR (aF T) c ([p1,p2]++List.replicate 7 (.lit aT)) (#[u1,u2]++Array.replicate (9-2) undef):=xE (n:=9) hargs
 generalize ha0:({ tmps:=#[u1,u2]++Array.replicate (9-2) undef,defers:=[] }:Act)=a0
 have T0':TR (aF T) c ([p1,p2]++List.replicate 7 (.lit aT)) a0.tmps:=by rw[<-ha0];exact T0
 have d0:a0.defers=[]:=by rw[<-ha0]
 let⟨as1,ts,xo⟩:=h.xo
 let⟨u,yo⟩:=h.yo
 have T1:=TR.put (d:=some 3) T0' (RV.lit (c:=c) (FT:=aF T) v)
 let⟨xd2,xg2,xr2⟩:=LG h.kx2
 let⟨yd1,yg1,yr1⟩:=LG h.ky1
 refine wpS_seq (wpS_region ?_)
 show wpOpsS P #[x1,x2] _ [0,1] a0 (c₀::cs) c.w
 generalize hQ0:Exit.thenS (fun a cs w=>(Code.seq (.region i1 #[y1,y2] false) (.cond (.tmp 5) (.region i2 #[w1,w2,w3,w4,w5] false) .skip)).wpS P Q a cs w) Q=Q0
 rw[wpOpsS]
 simp only[show (#[x1,x2]:Array Oper)[0]?=some x1 from rfl]
 rw[if_pos (by simp[Region.wanted,h.xg])]
 have r0:(execOp a0.eval x1).run P c.w=.ok .recover c.w:=by simp[execOp,xo,resolve,invoke,builtin]
 rw[r0]
 simp only
 have key:∀k,k=cs'->wpOpsS P #[x1,x2] Q0 [1] (a0.put x1.dst v) k c.w:=by
  intro k hk
  subst hk
  rw[wpOpsS]
  simp only[show (#[x1,x2]:Array Oper)[1]?=some x2 from rfl]
  rw[if_pos (by simp[Region.wanted,xg2]),xr2,h.xd,xd2]
  simp only[Oper.upon,wpOpsS]
  subst hQ0
  have e3:(a0.put (some 3) v).eval (.tmp 3)=v:=evl T1 rfl
  simp only[xd2,e3]
  have T2:=TR.put (d:=some 2) T1 (RV.lit (c:=c) (FT:=aF T) v)
  show Code.wpS P _ Q _ k c.w
  refine wpS_of_wp (wp_seq (wp_region ?_))
  show wpOps P #[y1,y2] _ [0,1] _ c.w
  rw[wpOps_cons]
  unfold wpOp
  simp only[show (#[y1,y2]:Array Oper)[0]?=some y1 from rfl]
  rw[if_pos (by simp[Region.wanted,yg1])];left
  unfold Oper.wp;rw[yr1,Oper.upon_value,yd1,wpOps_cons]
  have e2:((a0.put (some 3) v).put (some 2) v).eval (.tmp 2)=v:=evl T2 rfl
  rw[e2]
  have T3:=TR.put (d:=some 4) T2 (RV.lit (c:=c) (FT:=aF T) v)
  unfold wpOp
  simp only[show (#[y1,y2]:Array Oper)[1]?=some y2 from rfl]
  rw[if_pos (by simp[Region.wanted,h.yg])];left
  have e4:(((a0.put (some 3) v).put (some 2) v).put (some 4) v).eval (.tmp 4)=v:=evl T3 rfl
  have ry:(execOp (((a0.put (some 3) v).put (some 2) v).put (some 4) v).eval y2).run P c.w=.ok (.value (.bool b)) c.w:=by
   have g1:(eqGuard .neq t (.tmp 4) (.const .nilIface) v .nilIface).run P c.w=.ok () c.w:=by
    rcases hv with rfl | ⟨n,rfl⟩
    .simp[eqGuard]
    .simp[eqGuard,gK]
   have e5:(((a0.put (some 3) v).put (some 2) v).put (some 4) v).eval (.const .nilIface)=.nilIface:=rfl
   simp[execOp,yo,e4,e5,g1,bQ hN]
  unfold Oper.wp;rw[ry,Oper.upon_value,h.yd]
  have T4:=TR.put (d:=some 5) T3 (RV.lit (c:=c) (FT:=aF T) (.bool b))
  exact hQ _ (by simp only[fJ];exact d0) T4
 split at hrec
 .rename_i q k hq
  let⟨hq1,hq2⟩:=hrec
  subst hq1 hq2
  rw[hq]
  exact key _ rfl
 .rename_i hq
  let⟨hq1,hq2⟩:=hrec
  subst hq1 hq2
  rw[hq]
  exact key _ rfl
theorem x6[aA](hm:P.follows .mixedOrders=true)(hfo:fP cf)(hcf:jD P T cf)(hfn:fA P T)(h:aAb P T g vr fr n1 z t fn i0 i1 i2 x1 x2 y1 y2 w1 w2 w3 w4 w5)(hr:Om P T fr=true){c:bM}(hs:aZ (aF T) c)(hfl:fl<=c.H.length){p1 p2:AV}{H1 H2:aK}{n:Int}{x y v6:AV}(hs1:dY fl c.H p1 (z.map .lit)=some H1)(hs2:dY fl H1 p2 [.lit (.int .i64 n)]=some H2){a:Act}{Q:Exit->Act->World->Prop}(htr:TR (aF T) c ([p1,p2,.lit (gK n),.lit (gK n),.lit (gK n),.lit (.bool true)]++List.replicate 3 (.lit aT)) a.tmps)(hd:a.defers=[])
 (hQ:∀a' c',c'.H=H2->c'.X=c.X->aY fl c c'->aZ (aF T) c'->a'.defers=[]->Q .normal a' c'.w): (Code.region i2 #[w1,w2,w3,w4,w5] false).wp P Q a c.w:=by
 refine wp_region ?_
 show wpOps P #[w1,w2,w3,w4,w5] Q (List.range' 0 2++[2,3,4]) a c.w
 refine tZ (fl:=fl) hcf hfn _ [w1,w2] 0 c a _ _ h.kw12 (λj o e=>?_) hs htr hfl (show aW P cf fl _ ⟨_,c.H⟩=some ⟨[p1,p2,.lit (gK n),.lit (gK n),.lit (gK n),.lit (.bool true),.agg (z.map .lit),.lit (gK n),.lit aT],c.H⟩ by simp[aW,aV,bY,aG,vG,dL,aB]) ?_
 .match j with
  | 0=>simpa using e
  | 1=>simpa using e
  | j+2=>simp at e
 intro a1 c1 e1 e2 e3 e4 e5
 rw[wpOps_cons]
 let⟨kd,kg,f,as1,ts,ko,kf,ka⟩:=Up h.kw3
 rw[h.ft] at kf;cases kf
 unfold wpOp
 simp only[show (#[w1,w2,w3,w4,w5]:Array Oper)[2]?=some w3 from rfl]
 rw[if_pos (by simp[Region.wanted,kg])];left
 have hargs:=pJ e3 e4 ka
 have hl:as1.toList.length=1:=by
  have:∀(l:List aN) (m:List Operand),cX T l m=true->l.length=m.length:=by
   intro l;induction l with
   | nil=>intro m q;cases m with
    | nil=>rfl
    | cons _ _=>cases q
   | cons b l i=>intro m q;cases m with
    | nil=>cases q
    | cons _ m=>simp only[cX,Bool.and_eq_true] at q;simp[i m q.2]
  exact (this _ _ ka).symm
 have hval:as1.map a1.eval=#[gK n]:=by
  apply Array.ext'
  match hm:as1.toList,hl with
  | [o],_=>
   rw[hm] at hargs
   let⟨v,q1,q2⟩:=hargs.2 0 (.lit (gK n)) rfl
   have:=q2.lit_inv
   subst this
   simp at q1
   simp[hm,q1]
 let⟨fn',B,D,C⟩:=hfn vr fr h.ft
 have er:(execOp a1.eval w3).run P c1.w=.ok (.enter fr #[gK n]) c1.w:=by
  rw[<-gF B D C c1.w,<-hval];simp[execOp,ko,resolve,Act.eval,Deferred.ofValue,invoke]
 unfold Oper.wp;rw[er,Oper.upon_enter]
 refine (N7 (fl:=fl) hm hfo hcf hfn hr e3 n).mono ?_
 rintro e w' ⟨rfl,c2,rfl,q2,q3,q4,q5⟩
 simp only
 rw[<-kd]
 have T2:=TR.put (d:=some 8) (e4.step q4) (RV.lit (c:=c2) (FT:=aF T) (.int .i64 n))
 show wpOps P #[w1,w2,w3,w4,w5] Q (List.range' 3 2++[]) _ c2.w
 refine tZ (fl:=fl) hcf hfn _ [w4,w5] 3 c2 _ _ ⟨[p1,p2,.lit (gK n),.lit (gK n),.lit (gK n),.lit (.bool true),.agg (z.map .lit),.lit (gK n),.lit (.int .i64 n)],H2⟩ h.kw45 (λj o e=>?_) q5 T2 (Nat.le_trans hfl (e2.trans q4).len) ?_ ?_
 .match j with
  | 0=>simpa using e
  | 1=>simpa using e
  | j+2=>simp at e
 .have hH:c2.H=c.H:=q2.trans e1
  have hz:(z.map AV.lit).length=n1:=by rw[List.length_map,h.zl]
  simp only[aW,aV,bY,aG,aB,dL,hH]
  simp[cellsOf,hz,hs1,aS,hs2]
 intro a3 c3 f1 f2 f3 f4 f5
 refine hQ a3 c3 f1 (f2.X.trans (q4.X.trans e2.X)) (e2.trans (q4.trans f2)) f3 ?_
 rw[f5,fJ,e5];exact hd
end
end
section
variable {P:Program}{T:List bC}{cf:CF}{fl lf:Nat}
variable {g vr fr n1:Nat}{z:List Value}{t:TypeId}
theorem JT{fn:Func}(h:fn.results=#[])(tv:Array Value)(w:World): ∃v,(results fn tv).run P w=.ok v w:=by
 refine⟨.tuple #[],?_⟩
 unfold results;rw[h]
 simp
theorem x7[aA](h:Oo P T g vr fr n1 z t=true){c:bM}{p1 p2:AV}{u1 u2:Value}(hp1:RV (aF T) c p1 u1)(hp2:RV (aF T) c p2 u2)(hN:aJ P (binOp .neq t .nilIface .nilIface)=some (.bool false)): CallsD P g #[u1,u2] .returning c.w λe u' w'=>(∃v,e=.returned v)/\u'=.returning/\w'=c.w:=by
 let⟨fn,i0,i1,i2,x1,x2,y1,y2,w1,w2,w3,w4,w5,h⟩:=Hy h
 refine callsD_of_wpS h.hf h.hb λc₀ cs hc=>?_
 refine DB (v:=.nilIface) (b:=false) (cs':=c₀::cs) h hp1 hp2 hN (.inl rfl) ?_ ?_
 .simp[recoverD,hc]
 intro a hd htr
 refine wp_cond_false (evl htr rfl) (wp_skip ?_)
 let⟨v,hv⟩:=JT (P:=P) h.rs a.tmps c.w
 exact⟨hd,.returning,by rw[<-hc],v,hv,⟨v,rfl⟩,rfl,rfl⟩
theorem x8[aA](hm:P.follows .mixedOrders=true)(hfo:fP cf)(hcf:jD P T cf)(hfn:fA P T)(h:Oo P T g vr fr n1 z t=true)(hr:Om P T fr=true){c:bM}(hs:aZ (aF T) c)(hfl:fl<=c.H.length){p1 p2:AV}{u1 u2:Value}{H1 H2:aK}{n:Int}(hp1:RV (aF T) c p1 u1)(hp2:RV (aF T) c p2 u2)(hN:aJ P (binOp .neq t (gK n) .nilIface)=some (.bool true))(hs1:dY fl c.H p1 (z.map .lit)=some H1)(hs2:dY fl H1 p2 [.lit (.int .i64 n)]=some H2):
 CallsD P g #[u1,u2] (.panicking (xN n)) c.w λe u' w'=>(∃v,e=.returned v)/\u'=.panicking [{ v:=gK n,recovered:=true }]/\∃c',c'.w=w'/\c'.H=H2/\c'.X=c.X/\aY fl c c'/\aZ (aF T) c':=by
 let⟨fn,i0,i1,i2,x1,x2,y1,y2,w1,w2,w3,w4,w5,h⟩:=Hy h
 refine callsD_of_wpS h.hf h.hb λc₀ cs hc=>?_
 refine DB (v:=gK n) (b:=true) (cs':={ c₀ with mode:=.panicking [{ v:=gK n,recovered:=true }] }::cs) h hp1 hp2 hN (.inr ⟨n,rfl⟩) ?_ ?_
 .simp[recoverD,hc,xN]
 intro a hd htr
 refine wp_cond_true (evl htr rfl) ?_
 refine x6 (x:=.undef) (y:=.undef) (v6:=.undef) hm hfo hcf hfn h hr hs hfl hs1 hs2 htr hd ?_
 intro a' c' e1 e2 e3 e4 e5
 let⟨v,hv⟩:=JT (P:=P) h.rs a'.tmps c'.w
 exact⟨e5,.panicking [{ v:=gK n,recovered:=true }],rfl,v,hv,⟨v,rfl⟩,rfl,c',rfl,e1,e2,e3,e4⟩
def PK(fl:Nat)(H:aK)(p err:AV): Option aK:=match cellsOf err with
 | some cs=>match cs with
  | [c]=>dY fl H p [c]
  | _=>none
 | none=>none
def Lw(fl:Nat)(z:List Value)(n1:Nat)(q:Option (AV×aK)): Option (AV×aK):=match q with
 | none=>none
 | some (r,H)=>match r with
  | .tup vs=>match vs with
   | [v,err,p1,p2]=>match v with
    | .lit u=>match u with
     | .bool b=>match (match b with
       | false=>some H
       | true=>match dY fl H p1 (z.map .lit) with
        | some H1=>PK fl H1 p2 err
        | none=>none) with
      | some H2=>match cA H2 p1 n1 with
       | some cs=>match cA H2 p2 1 with
        | some ds=>match ds with
         | [d]=>some (.tup [.agg cs,d],H2)
         | _=>none
        | none=>none
       | none=>none
      | none=>none
     | _=>none
    | _=>none
   | _=>none
  | _=>none
def sG(vs:Nat)(z:List Value)(n1:Nat): Yt:=⟨λcf fl args H=>match Nat.ble args.length 4 with
 | true=>Lw fl z n1 (cf fl vs args H)
 | false=>none,λcf cf' h fl args H x e=>by
 split at e
 .rename_i b;cases q:cf fl vs args H with
  | none=>rw[q] at e;cases e
  | some y=>rw[h fl vs args H y q];rw[q] at e;exact e
 .cases e⟩
theorem X6[aA]{FT:Nat->Option Nat}{c:bM}{tv:Array Value}{t1 t2:Nat}{p1 p2:AV}(h1:∃v,tv[t1]?=some v/\RV FT c p1 v)(h2:∃v,tv[t2]?=some v/\RV FT c p2 v): TR FT c (((List.replicate tv.size AV.undef).set t1 p1).set t2 p2) tv:=by
 refine⟨by simp,λt x e=>?_⟩
 rw[List.getElem?_set] at e
 split at e
 .rename_i q;subst q;split at e
  .cases e;exact h2
  .cases e
 .rw[List.getElem?_set] at e;split at e
  .rename_i q;subst q;split at e
   .cases e;exact h1
   .cases e
  .rw[List.getElem?_replicate] at e;split at e
   .rename_i q;cases e;exact⟨tv[t],by simp,RV.undef _⟩
   .cases e
theorem JV[aA](hm:P.follows .mixedOrders=true)(hfo:fP cf)(hcf:jD P T cf)(hfn:fA P T)(hdef:XW P T cf){vi vs t1 t2 f:Nat}{T1 T2:TypeId}(hd:(vi,vs,t1,t2,g)∈aA.df)(hf:aF T vi=some f)(hclo:Oo P T g vr fr n1 z t=true)(hrea:Om P T fr=true)(hN0:aJ P (binOp .neq t .nilIface .nilIface)=some (.bool false))(hN1:∀n,aJ P (binOp .neq t (gK n) .nilIface)=some (.bool true))(hg:∃fn,P.funcs[g]?=some fn/\fn.body.isSome=true/\(fn.name== "runtime.NumGoroutine")=false)(hres:∀fn,P.funcs[f]?=some fn->fn.results=#[.cell t1 T1,.cell t2 T2])(hz1:cC P T1 n1=true)(ha1:nI P T1 true=true)(hz2:cC P T2 1=true)(ha2:nI P T2 false=true)(h12:t1≠t2)
 {args:List AV}{r:AV}{H':aK}{c:bM}{us:Array Value}(he:(sG vs z n1).run cf fl args c.H=some (r,H'))(hs:aZ (aF T) c)(hfl:fl<=c.H.length)(ha:gY (aF T) c args us): Calls P f us c.w λe w'=>∃v c',e=.returned v/\c'.w=w'/\c'.H=H'/\c'.X=c.X/\aY fl c c'/\aZ (aF T) c'/\RV (aF T) c' r v:=by
 simp only[sG] at he
 split at he
 case h_2=>cases he
 rename_i hle
 have hle:=Nat.le_of_ble_eq_true hle
 cases hq:cf fl vs args c.H with
 | none=>rw[hq] at he;cases he
 | some q=>
 rw[hq] at he
 let⟨r0,H0⟩:=q
 let⟨fn,code,hfn1,hb,hwp⟩:=hdef fl vi vs t1 t2 g f args r0 H0 c us hd hf hle hq hs hfl ha
 let⟨gf,hg1,hg2,hg3⟩:=hg
 have hinv:∀u1 u2 w,(invoke (.fn (.func g) #[u1,u2]) #[]).run P w=.ok (.enter g #[u1,u2]) w:=λu1 u2 w=>by
  simp only[invoke];rw[show (#[]:Array Value)++#[u1,u2]=#[u1,u2] by simp];exact gF hg1 hg2 hg3 w
 have hres2:∀(c':bM) (tv:Array Value) (cs:List AV) (d p1 p2:AV),aZ (aF T) c'->(∃v,tv[t1]?=some v/\RV (aF T) c' p1 v)->(∃v,tv[t2]?=some v/\RV (aF T) c' p2 v)->cA c'.H p1 n1=some cs->cA c'.H p2 1=some [d]->∃v,(results fn tv).run P c'.w=.ok v c'.w/\RV (aF T) c' (.tup [.agg cs,d]) v:=by
  intro c' tv cs d p1 p2 k1 k2 k3 k4 k5
  have l1:t1<tv.size:=by let⟨v,y,_⟩:=k2;exact (Array.getElem?_eq_some_iff.1 y).1
  have l2:t2<tv.size:=by let⟨v,y,_⟩:=k3;exact (Array.getElem?_eq_some_iff.1 y).1
  have o1:aB (((List.replicate tv.size AV.undef).set t1 p1).set t2 p2) (.tmp t1)=p1:=by
   simp only[aB];rw[List.getElem?_set_ne (Ne.symm h12),List.getElem?_set_self (by simpa using l1)]
  have o2:aB (((List.replicate tv.size AV.undef).set t1 p1).set t2 p2) (.tmp t2)=p2:=by
   simp only[aB];rw[List.getElem?_set_self (by simpa using l2)]
  exact qA (fn:=fn) (st:=⟨((List.replicate tv.size AV.undef).set t1 p1).set t2 p2,c'.H⟩) (rs:=[.cell t1 n1 true,.cell t2 1 false]) (vs:=[.agg cs,d]) k1 rfl (X6 k2 k3) (by rw[hres fn hfn1];simp[lM,hz1,ha1,hz2,ha2]) (by simp only[cY,pD,o1,o2,k4,k5,if_true,Bool.false_eq_true,if_false])
 refine calls_of_wp_defers hfn1 hb (hwp _ ?_)
 intro a' c' e e1 e2 e3 e4 e5
 let⟨b,err,p1,p2,u1,u2,hr,q1,q2,q3,q4,q5,q6⟩:=e5
 subst hr
 simp only[Lw] at he
 rcases q6 with⟨rfl,hx⟩ | ⟨n,rfl,rfl,rfl⟩
 ·
  simp only at he
  split at he
  case h_2=>cases he
  rename_i cs hcs
  split at he
  case h_2=>cases he
  rename_i ds hds
  split at he
  case h_2=>cases he
  rename_i d
  cases he
  have key:Leaves P fn a'.tmps (λe w'=>∃v c',e=.returned v/\c'.w=w'/\c'.H=H'/\c'.X=c.X/\aY fl c c'/\aZ (aF T) c'/\RV (aF T) c' (.tup [.agg cs,d]) v) a'.defers .returning c'.w:=by
   rw[q5]
   refine leaves_cons (by simp) (hinv u1 u2 _) ((x7 hclo q1 q2 hN0).mono ?_)
   rintro e u' w' ⟨⟨v,rfl⟩,rfl,rfl⟩
   simp only[settle]
   let⟨v,y1,y2⟩:=hres2 c' a'.tmps cs d p1 p2 e4 q3 q4 (by rw[e1];exact hcs) (by rw[e1];exact hds)
   exact⟨v,y1,v,c',rfl,rfl,e1,e2,e3,e4,y2⟩
  rcases hx with rfl | rfl
  .exact key
  .exact key
 .simp only at he
  split at he
  case h_2=>cases he
  rename_i H2 hH2
  split at hH2
  case h_2=>cases hH2
  rename_i H1 hH1
  split at he
  case h_2=>cases he
  rename_i cs hcs
  split at he
  case h_2=>cases he
  rename_i ds hds
  split at he
  case h_2=>cases he
  rename_i d
  cases he
  show Leaves P fn a'.tmps _ a'.defers (.panicking (xN n)) c'.w
  rw[q5]
  refine leaves_cons (by simp) (hinv u1 u2 _) ((x8 (fl:=fl) hm hfo hcf hfn hclo hrea e4 (Nat.le_trans hfl e3.len) q1 q2 (hN1 n) (by rw[e1];exact hH1) hH2).mono ?_)
  rintro e u' w' ⟨⟨v,rfl⟩,rfl,c2,rfl,k1,k2,k3,k4⟩
  simp only[settle]
  let⟨v,y1,y2⟩:=hres2 c2 a'.tmps cs d p1 p2 k4 (let⟨v,y,z⟩:=q3;⟨v,y,z.step k3⟩) (let⟨v,y,z⟩:=q4;⟨v,y,z.step k3⟩) (by rw[k1];exact hcs) (by rw[k1];exact hds)
  exact⟨v,y1,v,c2,rfl,rfl,k1,k2.trans e2,e3.trans k3,k4,y2⟩
end
def PF(g:Yt): Prop:=∀cf,fP cf->∀fl m args H r H',(fl<=m/\m<=H.length)->g.run cf fl args H=some (r,H')->H'.take fl=H.take fl/\m<=H'.length
theorem b9{H H':aK}{fl m:Nat}(h:fl<=m/\m<=H.length)(e:H'=H): H'.take fl=H.take fl/\m<=H'.length:=by subst e;exact⟨rfl,h.2⟩
theorem TF{H:aK}{fl m i:Nat}{o:cG}(h:fl<=m/\m<=H.length)(a:fl<=i): (H.set i o).take fl=H.take fl/\m<=(H.set i o).length:=⟨List.take_set_of_le a,by simpa using h.2⟩
theorem c7: PF<|Bv xJ:=λ_ _ fl m a H r H' h e=>by
 have e:xJ fl a H=some (r,H'):=e;refine b9 h ?_;unfold xJ at e;repeat' (first | (cases e;done) | (cases e;rfl) | split at e)
theorem TE: PF<|Bv Gv:=λ_ _ fl m a H r H' h e=>by
 rcases Sr (show Gv fl a H=some (r,H') from e) with⟨x,_,_,_,rfl⟩ | ⟨id,l,_,_,b,_,_,_,rfl⟩
 .exact⟨rfl,h.2⟩
 .exact TF h b
theorem KJ{b:Bool}{s:Nat}: PF<|Aj b s:=λ_ _ _ _ _ _ _ _ h e=>SC h e
theorem H4{H H':aK}{fl m:Nat}{x:AV}{cs:List AV}(h:fl<=m/\m<=H.length)(e:dY fl H x cs=some H'): H'.take fl=H.take fl/\m<=H'.length:=by
 unfold dY at e;split at e
 .split at e
  .rename_i a;split at e
   .split at e
    .split at e
     .split at e
      .cases e;exact TF h a
      .cases e
     .cases e
    .cases e
   .cases e
  .cases e
 .cases e
theorem VX{fl:Nat}{H H':aK}{p err:AV}(h:PK fl H p err=some H'): ∃c,dY fl H p [c]=some H':=by
 unfold PK at h;split at h
 .split at h
  .exact⟨_,h⟩
  .cases h
 .cases h
theorem NP{fl n1:Nat}{z:List Value}{q:Option (AV×aK)}{r:AV}{H':aK}(h:Lw fl z n1 q=some (r,H')): ∃b err p1 p2 H0 cs d,q=some (.tup [.lit (.bool b),err,p1,p2],H0)/\(match b with
 | false=>some H0
 | true=>match dY fl H0 p1 (z.map .lit) with
  | some H1=>PK fl H1 p2 err
  | none=>none)=some H'/\cA H' p1 n1=some cs/\cA H' p2 1=some [d]/\r=.tup [.agg cs,d]:=by
 unfold Lw at h;cases q with
 | none=>cases h
 | some y=>
  let⟨r0,H0⟩:=y
  dsimp only at h
  split at h
  case h_2=>cases h
  split at h
  case h_2=>cases h
  split at h
  case h_2=>cases h
  split at h
  case h_2=>cases h
  split at h
  case h_2=>cases h
  rename_i H2 e
  split at h
  case h_2=>cases h
  rename_i cs e1
  split at h
  case h_2=>cases h
  rename_i ds e2
  split at h
  case h_2=>cases h
  rename_i d
  cases h
  exact⟨_,_,_,_,_,cs,d,rfl,e,e1,e2,rfl⟩
theorem KK{vs n1:Nat}{z:List Value}: PF (sG vs z n1):=λcf hfo fl m a H r H' h e=>by
 simp only[sG] at e;split at e
 .let⟨b,err,p1,p2,H0,cs,d,hq,he,_⟩:=NP e
  let⟨k1,k2⟩:=hfo fl m vs a H _ H0 h hq
  cases b with
  | false=>cases he;exact⟨k1,k2⟩
  | true=>
   simp only at he;split at he
   .rename_i H1 e1;let⟨l1,l2⟩:=H4 ⟨h.1,k2⟩ e1;let⟨c,he⟩:=VX he;let⟨j1,j2⟩:=H4 ⟨h.1,l2⟩ he;exact⟨j1.trans (l1.trans k1),j2⟩
   .cases he
 .cases e
theorem El{vi k:Nat}{g:Yt}{o:Option Yt}(a:PF g)(b:∀q,o=some q->PF q): ∀q,(match Nat.beq vi k with | true=>some g | false=>o)=some q->PF q:=by
 intro q h;split at h
 .cases h;exact a
 .exact b q h
theorem P5: ∀q,(none:Option Yt)=some q->PF q:=λ_ h=>by cases h
theorem U3[aA](h:∀vi q,aA.prim vi=some q->PF q): ∀cf,fP cf->fP (vE cf):=by
 intro cf hfo fl m vi b H r H' d a;unfold vE at a;split at a
 .rename_i g c;exact h vi g c cf hfo fl m b H r H' d a
 .cases a
section
variable {P:Program}{T:List bC}
def QY(vs n1:Nat)(z:List Value): bK:=.seq (.region false [] [⟨some 1,.call false vs [.tmp 0],none⟩,⟨some 2,.extract (.tmp 1) 0,none⟩,⟨some 3,.extract (.tmp 1) 1,none⟩,⟨some 4,.extract (.tmp 1) 2,none⟩,⟨some 5,.extract (.tmp 1) 3,none⟩]) (.seq (.cond (.tmp 2) (.region false [] [⟨some 6,.build z [],none⟩,⟨none,.store n1 (.tmp 4) (.tmp 6),none⟩,⟨none,.store 1 (.tmp 5) (.tmp 3),none⟩]) (.region false [] [])) (.region false [] [⟨some 6,.load true n1 (.tmp 4),none⟩,⟨some 7,.load false 1 (.tmp 5),none⟩]))
theorem G7[aA]{st:St}: ∀{rs:List Dv} {vs:List AV},cY st rs=some vs->vs.length=rs.length
 | [],vs,h=>by cases h;rfl
 | r::rs,vs,h=>by
  simp only[cY] at h;split at h
  .split at h
   .rename_i k;cases h;simp[G7 k]
   .cases h
  .cases h
theorem u9[aA]{vs n fl:Nat}{b:List AV}{H H':aK}{r:AV}{F:bC}(hp:aA.prim vs=none)(hT:T[vs]?=some F)(hl:F.rets.length=4)(h:eB P T n fl vs b H=some (r,H')): ∃v1 v2 v3 v4,r=.tup [v1,v2,v3,v4]:=by
 cases n with
 | zero=>cases h
 | succ n=>
 simp only[eB,hp,hT] at h
 have key:∀{st:St} {vs:List AV},cY st F.rets=some vs->∃v1 v2 v3 v4,dM vs=.tup [v1,v2,v3,v4]:=λ{st vs} k=>by
  have k:=G7 k;rw[hl] at k
  match vs,k with
  | [v1,v2,v3,v4],_=>exact⟨v1,v2,v3,v4,rfl⟩
 split at h
 .split at h
  .rename_i k;cases h;exact key k
  .cases h
 .split at h
  .rename_i k;cases h;exact key k
  .cases h
 .cases h
theorem SJ[aA]{cf:CF}{lf fl:Nat}{a b:bK}{st st1:St}(h:bW P cf lf fl a st=some (.normal,st1)): bW P cf lf fl (.seq a b) st=bW P cf lf fl b st1:=by simp only[bW,h]
theorem aC9[aA]{cf:CF}{lf fl n1:Nat}{t0 t1 t2 t3 t4 t5 t6 t7:AV}{H1:aK}{y:bJ×St}(h:bW P cf lf fl (.region false [] [⟨some 6,.load true n1 (.tmp 4),none⟩,⟨some 7,.load false 1 (.tmp 5),none⟩]) ⟨[t0,t1,t2,t3,t4,t5,t6,t7],H1⟩=some y): ∃cs d,cA H1 t4 n1=some cs/\cA H1 t5 1=some [d]/\y=(.normal,⟨[t0,t1,t2,t3,t4,t5,.agg cs,d],H1⟩):=by
 simp only[bW,dN,aW,aV,bY,aG,aB,dL,List.getElem?_cons_zero,List.getElem?_cons_succ] at h
 cases hc:cA H1 t4 n1 with
 | none=>simp[hc] at h
 | some cs=>
 cases hd:cA H1 t5 1 with
 | none=>simp[hc,hd] at h
 | some ds=>
 match ds with
 | []=>simp[hc,hd] at h
 | _::_::_=>simp[hc,hd] at h
 | [d]=>
 simp[hc,hd] at h
 exact⟨cs,d,rfl,rfl,h.symm⟩
theorem aCB[aA]{cf:CF}{lf fl vs:Nat}{x v1 v2 v3 v4 u:AV}{H H0:aK}(hq:cf fl vs [x] H=some (.tup [v1,v2,v3,v4],H0)): bW P cf lf fl (.region false [] [⟨some 1,.call false vs [.tmp 0],none⟩,⟨some 2,.extract (.tmp 1) 0,none⟩,⟨some 3,.extract (.tmp 1) 1,none⟩,⟨some 4,.extract (.tmp 1) 2,none⟩,⟨some 5,.extract (.tmp 1) 3,none⟩]) ⟨[x,u,u,u,u,u,u,u],H⟩=some (.normal,⟨[x,.tup [v1,v2,v3,v4],v1,v2,v3,v4,u,u],H0⟩):=by
 simp[bW,dN,aW,aV,bY,aG,aB,iV,hq,dL]
theorem aCC[aA]{cf:CF}{lf fl vs:Nat}{x u:AV}{H:aK}{b:bK}(hq:cf fl vs [x] H=none): bW P cf lf fl (.seq (.region false [] [⟨some 1,.call false vs [.tmp 0],none⟩,⟨some 2,.extract (.tmp 1) 0,none⟩,⟨some 3,.extract (.tmp 1) 1,none⟩,⟨some 4,.extract (.tmp 1) 2,none⟩,⟨some 5,.extract (.tmp 1) 3,none⟩]) b) ⟨[x,u,u,u,u,u,u,u],H⟩=none:=by
 simp[bW,dN,aW,aV,bY,aG,aB,iV,hq]
theorem aCA[aA]{cf:CF}{lf fl n1:Nat}{z:List Value}{t0 t1 t2 t3 t4 t5 t6 t7:AV}{H0:aK}{y:bJ×St}(hz:z.length=n1)(h:bW P cf lf fl (.region false [] [⟨some 6,.build z [],none⟩,⟨none,.store n1 (.tmp 4) (.tmp 6),none⟩,⟨none,.store 1 (.tmp 5) (.tmp 3),none⟩]) ⟨[t0,t1,t2,t3,t4,t5,t6,t7],H0⟩=some y): ∃H1 H2,dY fl H0 t4 (z.map .lit)=some H1/\PK fl H1 t5 t3=some H2/\y=(.normal,⟨[t0,t1,t2,t3,t4,t5,.agg (z.map .lit),t7],H2⟩):=by
 have hz:(z.map AV.lit).length=n1:=by simpa using hz
 simp only[bW,dN,aW,aV,bY,aG,aB,dL,vG,List.map_nil,List.getElem?_cons_zero,List.getElem?_cons_succ,List.set_cons_succ,List.set_cons_zero] at h
 rw[show cellsOf (.agg (z.map .lit))=some (z.map .lit) from rfl] at h
 dsimp only at h
 rw[if_pos hz] at h
 cases h1:dY fl H0 t4 (z.map .lit) with
 | none=>simp[h1] at h
 | some H1=>
 cases hv:cellsOf t3 with
 | none=>simp[h1,hv] at h
 | some cs=>
 match cs with
 | []=>simp[h1,hv] at h
 | _::_::_=>simp[h1,hv] at h
 | [c]=>
 cases h2:dY fl H1 t5 [c] with
 | none=>simp[h1,hv,h2] at h
 | some H2=>
 simp[h1,hv,h2] at h
 exact⟨H1,H2,rfl,by simp only[PK,hv,h2],h.symm⟩
theorem L9[aA]{vi vs vw fid n1 m fl:Nat}{z:List Value}{F:bC}(hp:aA.prim vi=some (sG vs z n1))(hw:aA.prim vw=none)(hW:T[vw]?=some ⟨fid,8,[.tmp 6,.tmp 7],QY vs n1 z⟩)(hs:aA.prim vs=none)(hS:T[vs]?=some F)(hl:F.rets.length=4)(hz:z.length=n1){x r:AV}{H H':aK}(h:eB P T (m+1) fl vw [x] H=some (r,H')): eB P T (m+1) fl vi [x] H=some (r,H'):=by
 simp only[eB,hw,hW] at h
 show (match aA.prim vi with
  | some g=>g.run (eB P T m) fl [x] H
  | none=>_)=_
 rw[hp]
 show Lw fl z n1 (eB P T m fl vs [x] H)=_
 rw[show ([x]:List AV)++List.replicate (8-[x].length) (.lit aT)=[x,.lit aT,.lit aT,.lit aT,.lit aT,.lit aT,.lit aT,.lit aT] from rfl] at h
 cases hq:eB P T m fl vs [x] H with
 | none=>rw[QY,aCC hq] at h;cases h
 | some q=>
 let⟨r0,H0⟩:=q
 let⟨v1,v2,v3,v4,e⟩:=u9 hs hS hl hq
 subst e
 rw[QY,SJ (aCB hq)] at h
 have fin:∀{t0 t1 t2 t3 t6 t7:AV}{H1:aK},(match bW P (eB P T m) m fl (.region false [] [⟨some 6,.load true n1 (.tmp 4),none⟩,⟨some 7,.load false 1 (.tmp 5),none⟩]) ⟨[t0,t1,t2,t3,v3,v4,t6,t7],H1⟩ with
  | some (.normal,st)=>match cY st [.tmp 6,.tmp 7] with
   | some vs=>some (dM vs,st.heap)
   | none=>none
  | some (.ret,st)=>match cY st [.tmp 6,.tmp 7] with
   | some vs=>some (dM vs,st.heap)
   | none=>none
  | _=>none)=some (r,H')->∃cs d,cA H1 v3 n1=some cs/\cA H1 v4 1=some [d]/\r=.tup [.agg cs,d]/\H'=H1:=by
  intro t0 t1 t2 t3 t6 t7 H1 h
  cases h3:bW P (eB P T m) m fl (.region false [] [⟨some 6,.load true n1 (.tmp 4),none⟩,⟨some 7,.load false 1 (.tmp 5),none⟩]) ⟨[t0,t1,t2,t3,v3,v4,t6,t7],H1⟩ with
  | none=>rw[h3] at h;cases h
  | some y=>
  rw[h3] at h
  let⟨cs,d,k1,k2,k3⟩:=aC9 h3
  subst k3
  refine⟨cs,d,k1,k2,?_⟩
  simp[cY,pD,aB,dM] at h
  exact⟨h.1.symm,h.2.symm⟩
 have e1:∃b,v1=.lit (.bool b):=by
  cases v1 with
  | lit v=>cases v with
   | bool b=>exact⟨b,rfl⟩
   | _=>simp[bW,aB] at h
  | _=>simp[bW,aB] at h
 let⟨b,e1⟩:=e1;subst e1
 cases b with
 | false=>
  rw[SJ (st1:=⟨[x,.tup [.lit (.bool false),v2,v3,v4],.lit (.bool false),v2,v3,v4,.lit aT,.lit aT],H0⟩) (by simp[bW,aB,dN,aW])] at h
  let⟨cs,d,k1,k2,k3,k4⟩:=fin h
  subst k3 k4
  simp only[Lw,k1,k2]
 | true=>
  cases h2:bW P (eB P T m) m fl (.cond (.tmp 2) (.region false [] [⟨some 6,.build z [],none⟩,⟨none,.store n1 (.tmp 4) (.tmp 6),none⟩,⟨none,.store 1 (.tmp 5) (.tmp 3),none⟩]) (.region false [] [])) ⟨[x,.tup [.lit (.bool true),v2,v3,v4],.lit (.bool true),v2,v3,v4,.lit aT,.lit aT],H0⟩ with
  | none=>rw[show ∀(b:bK),bW P (eB P T m) m fl (.seq (.cond (.tmp 2) (.region false [] [⟨some 6,.build z [],none⟩,⟨none,.store n1 (.tmp 4) (.tmp 6),none⟩,⟨none,.store 1 (.tmp 5) (.tmp 3),none⟩]) (.region false [] [])) b) ⟨[x,.tup [.lit (.bool true),v2,v3,v4],.lit (.bool true),v2,v3,v4,.lit aT,.lit aT],H0⟩=none from λb=>by rw[bW,h2]] at h;cases h
  | some y=>
  have h2':=h2
  rw[bW] at h2'
  let⟨H1,H2,k1,k2,k3⟩:=aCA hz (show bW P (eB P T m) m fl (.region false [] [⟨some 6,.build z [],none⟩,⟨none,.store n1 (.tmp 4) (.tmp 6),none⟩,⟨none,.store 1 (.tmp 5) (.tmp 3),none⟩]) _=some y from h2')
  subst k3
  rw[SJ h2] at h
  let⟨cs,d,j1,j2,j3,j4⟩:=fin h
  subst j3 j4
  simp only[Lw,k1,k2,j1,j2]
theorem aAy[cN][aA]{vi vs vw fid n1:Nat}{z:List Value}{F:bC}(hp:aA.prim vi=some (sG vs z n1))(hw:aA.prim vw=none)(hW:T[vw]?=some ⟨fid,8,[.tmp 6,.tmp 7],QY vs n1 z⟩)(hs:aA.prim vs=none)(hS:T[vs]?=some F)(hl:F.rets.length=4)(hz:z.length=n1){c:IV}(h1:c.ka.length=1)(h:MX P T vw c): MX P T vi c:=by
 intro n p r hF aw q
 let⟨b,A,e,k⟩:=h n p r hF aw q
 have l:=q.len
 rw[Uy,h1] at l
 match aw,l with
 | [x],_=>
 cases n with
 | zero=>cases e
 | succ n=>exact⟨b,A,L9 hp hw hW hs hS hl hz e,k⟩
def U5(T:List bC)(v:Nat): bC:=match T[v]? with
 | some F=>F
 | none=>⟨0,0,[],.skip⟩
def aC8[cN][aA](vi vw vs n1:Nat)(z:List Value)(X:IU P T)(hv:X.vi=vw:=by rfl)(hp:aA.prim vi=some (sG vs z n1):=by kernel_rfl)(hw:aA.prim vw=none:=by kernel_rfl)(hW:T[vw]?=some ⟨(U5 T vw).fid,8,[.tmp 6,.tmp 7],QY vs n1 z⟩:=by kernel_rfl)(hs:aA.prim vs=none:=by kernel_rfl)(hS:T[vs]?=some (U5 T vs):=by kernel_rfl)(hl:(U5 T vs).rets.length=4:=by kernel_rfl)(hz:z.length=n1:=by kernel_rfl)(h1:X.c.ka.length=1:=by kernel_rfl): IU P T:=⟨vi,X.c,aAy hp hw hW hs hS hl hz h1 (hv ▸ X.ok)⟩
def Hx[aA](P:Program)(T:List bC)(F:bC): Bool:=match Nat.blt F.fid 1000000 with
 | true=>Xt P T F
 | false=>true
theorem HP[aA](h:T.all (Hx P T)=true): Checked P T:=λF hF hb=>by
 have h:=List.all_eq_true.1 h F hF;unfold Hx at h;rw[hb] at h;exact h
def ML[aA](P:Program)(T:List bC): List (Nat×Nat)->Bool
 | []=>true
 | p::r=>(match aF T p.1 with
  | some f=>(match aA.prim p.2 with
   | some _=>false
   | none=>match T[p.2]? with
    | some F=>De P T f F
    | none=>false)
  | none=>true)&&ML P T r
theorem DE[aA]{vi vs f:Nat}: ∀{l:List (Nat×Nat)},ML P T l=true->He vi l=some vs->aF T vi=some f->aA.prim vs=none/\∃F,T[vs]?=some F/\De P T f F=true
 | p::r,h,hl,hf=>by
  simp only[ML,Bool.and_eq_true] at h
  simp only[He] at hl
  split at hl
  .rename_i e;cases hl;have e:=Nat.eq_of_beq_eq_true e;have h:=h.1;rw[e,hf] at h
   dsimp only at h
   split at h
   .cases h
   .rename_i k;split at h
    .rename_i F g;exact⟨k,F,g,h⟩
    .cases h
  .exact DE h.2 hl hf
theorem y9[aA](h:ML P T aA.sh=true): XU P T:=λ_ _ _ a b=>DE h a b
def MM[aA](P:Program)(T:List bC): List (Nat×Nat×Nat×Nat×Nat)->Bool
 | []=>true
 | p::r=>(match aF T p.1 with
  | some f=>(match aA.prim p.2.1 with
   | some _=>false
   | none=>match T[p.2.1]? with
    | some F=>Df P T f p.2.2.1 p.2.2.2.1 p.2.2.2.2 F
    | none=>false)
  | none=>true)&&MM P T r
theorem DF[aA]{vi vs t1 t2 g f:Nat}: ∀{l:List (Nat×Nat×Nat×Nat×Nat)},MM P T l=true->(vi,vs,t1,t2,g)∈l->aF T vi=some f->aA.prim vs=none/\∃F,T[vs]?=some F/\Df P T f t1 t2 g F=true
 | p::r,h,hl,hf=>by
  simp only[MM,Bool.and_eq_true] at h
  rcases List.mem_cons.1 hl with e | e
  .subst e;have h:=h.1;rw[hf] at h
   dsimp only at h
   split at h
   .cases h
   .rename_i k;split at h
    .rename_i F g;exact⟨k,F,g,h⟩
    .cases h
  .exact DF h.2 e hf
theorem z7[aA](h:MM P T aA.df=true): XV P T:=λ_ _ _ _ _ _ a b=>DF h a b
end
section
open Go.Proofs Go.RowKit Go.Shelf Go.Sort
theorem Zq{P:Program}{ρ:Ren}{k:Nat}(L:SlLaysF0.n6 P ρ)(l:∀w,(Go.isAgg<|ρ.t 24).run P w=.ok true w)(j:∀w,(Go.sizeOf<|ρ.t 24).run P w=.ok k w): Dk P true (ρ.f 6) k:=
 λ_ enc p n cf r g o e off cap d w m c q b h=>AnyQ.slices_SortFunc_eq L k l j enc p n cf r g o e off cap d w m c q b h
theorem Gu{P:Program}{ρ:Ren}(L:SlLaysF0.n6 P ρ): Dj P<|ρ.f 6:=λp cap c w=>AnyF.slices_SortFunc_none L p cap c w
theorem VP{α:Type}[Inhabited α](enc:α->List Value)(e:∀x,(enc x).length=1)(d:Array α): flatK enc 1 d=d.map λx=>(enc x)[0]!:=by
 apply Array.ext
 .simp
 .intro i a b;have c:i<d.size:=by simpa using b
  have:=get_flatK enc 1 d i (by omega);rw[getElem!_pos _ i a] at this;rw[this,Array.getElem_map,Nat.div_one,Nat.mod_one,getElem!_pos d i c]
theorem Vz{α:Type}[Inhabited α](enc:α->Value)(off:Nat)(d:Array α)(c:Array Value): putCells _root_.id off (d.map enc) c=putCells enc off d c:=by
 unfold putCells;congr 1;funext k x;rw[Array.size_map];split
 .rename_i h;have b:k-off<d.size:=by omega
  show (d.map enc)[k-off]! =enc d[k-off]!;rw[getElem!_pos _ _ (by simpa using b),getElem!_pos d _ b,Array.getElem_map]
 .rfl
theorem zS{α:Type}[Inhabited α](enc:α->List Value)(d:∀x,(enc x).length=1)(w:World)(a off m:Nat)(b:Array α)(os:Array Obj):
 sortWorldK enc 1 w a off m b os=sortWorld (λx=>(enc x)[0]!) w a off m b os:=by
 unfold sortWorldK sortWorld putRowK putRow;rw[VP enc d];congr 2;funext c;exact Vz _ _ _ _
theorem Zp{P:Program}{ρ:Ren}(L:SlLaysF.n6 P ρ): Dk P false (ρ.f 6) 1:=by
 intro m enc q D cf t g r a off cap d w z c B b l;have h:OneCell λx=>(enc x)[0]!:=by
  intro x;refine D x _ ?_;show (enc x)[0]!∈enc x;rw[getElem!_pos (enc x) 0 (by rw[q];omega)];exact List.getElem_mem _
 have p:CmpLays1 P g r (λx=>(enc x)[0]!) cf a off d.size w:=by
  intro A os v o x y;have:=c A os v o x y;rw[zS enc q] at this;exact this
 have k:Holds (λx=>(enc x)[0]!) w a off d:=by
  intro j u;have:=B j (by simpa using u);rw[get_flatK _ _ _ _<|by omega,Nat.div_one,Nat.mod_one] at this;exact this
 refine (Any.slices_SortFunc_eq L (λx=>(enc x)[0]!) h cf t g r a off cap d w z p k b l).mono λe w' ⟨he,n,os,s⟩=>⟨he,n,os,?_⟩;rw[zS enc q];exact s
end
section
open gO (den cds ag)
section
variable {P:Program}{cf cf':Nat->Nat->List AV->aK->Option (AV×aK)}
theorem Ov(h:Le cf cf'){fl vi:Nat}{pu:Bool}{args:List AV}{H:aK}{x:AV×aK}(hx:iV cf fl pu vi args H=some x): iV cf' fl pu vi args H=some x:=by
 unfold iV at hx |-
 cases pu with
 | true=>
  simp only at hx |-
  cases hp:eM args with
  | true=>
   rw[hp] at hx
   simp only at hx |-
   split at hx
   .rename_i r H' he;rw[h _ _ _ _ _ he];exact hx
   .cases hx
  | false=>
   rw[hp] at hx
   simp only at hx |-
   split at hx
   .rename_i r H' he;rw[h _ _ _ _ _ he];exact hx
   .cases hx
 | false=>exact h _ _ _ _ _ hx
theorem Ui[aA](h:Le cf cf'){fl:Nat}{op:tK}{tm:List AV}{H:aK}{x:AV×aK}(hx:aG P cf fl op tm H=some x): aG P cf' fl op tm H=some x:=by
 cases op with
 | call pu vi args=>exact Ov h hx
 | callv pu y args=>
  simp only[aG] at hx |-
  split at hx
  .rename_i vi caps he
   exact Ov h hx
  .cases hx
 | callF vi args=>exact h _ _ _ _ _ hx
 | callS vi args=>
  simp only[aG] at hx |-
  split at hx
  .rename_i r H1 he
   rw[h _ _ _ _ _ he];exact hx
  .cases hx
 | callB vi args=>
  simp only[aG] at hx |-
  split at hx
  .rename_i r H1 he
   rw[h _ _ _ _ _ he];exact hx
  .cases hx
 | callT s vi args=>
  simp only[aG] at hx |-
  cases he:cf 0 vi ((args.map (aB tm)).map (fI H)) [] with
  | none=>rw[he] at hx;cases hx
  | some y=>rw[h _ _ _ _ _ he];rw[he] at hx;exact hx
 | _=>exact hx
theorem Hr[aA](h:Le cf cf'){fl:Nat}{o:aH}{st st':St}(hx:aV P cf fl o st=some st'): aV P cf' fl o st=some st':=by
 unfold aV at hx |-
 split at hx
 .split at hx
  .rename_i v H he
   rw[Ui h he];exact hx
  .cases hx
 .exact hx
 .cases hx
theorem Nr[aA](h:Le cf cf'){fl:Nat}: ∀(l:List aH) {st st':St},aW P cf fl l st=some st'->aW P cf' fl l st=some st'
 | [],_,_,hx=>hx
 | o::r,st,st',hx=>by
  simp only[aW] at hx |-
  split at hx
  .rename_i s1 he
   rw[Hr h he];exact Nr h r hx
  .cases hx
theorem xC[aA](h:Le cf cf'){fl:Nat}: ∀(l:List aH) {st:St} {q:List St},bU P cf fl l st=some q->bU P cf' fl l st=some q
 | [],_,_,hx=>hx
 | o::r,st,q,hx=>by
  simp only[bU] at hx |-
  split at hx
  .rename_i s1 he
   rw[Hr h he]
   simp only
   split at hx
   .rename_i l1 h1
    rw[xC h r h1];exact hx
   .cases hx
  .cases hx
theorem HA[aA](h:Le cf cf'){fl:Nat}{ck:List (Nat×Nat)}{ops:List aH}{st st':St}(hx:dN P cf fl ck ops st=some st'): dN P cf' fl ck ops st=some st':=by
 cases ck with
 | nil=>exact Nr h ops hx
 | cons c r=>
  unfold dN at hx |-
  cases hb:Nat.beq c.1 c.2 with
  | false=>
   simp only[hb] at hx |-
   split at hx
   .rename_i l he
    rw[xC h ops he];exact hx
   .cases hx
  | true=>
   simp only[hb] at hx |-
   split at hx
   .rename_i l he
    rw[xC h _ he];exact hx
   .cases hx
theorem xD[aA]{head:St->St}{step step':St->Option (bJ×St)}(hs:∀st x,step st=some x->step' st=some x): ∀(n m:Nat) (st:St) (x:bJ×St),n<=m->dK head step n st=some x->dK head step' m st=some x
 | 0,_,_,_,_,hx=>by cases hx
 | n+1,m,st,x,hnm,hx=>by
  obtain⟨m,rfl⟩:∃q,m=q+1:=⟨m-1,by omega⟩
  simp only[dK] at hx |-
  cases he:step (head st) with
  | none=>rw[he] at hx;cases hx
  | some r=>
   rw[he] at hx
   rw[hs _ _ he]
   obtain⟨y,s⟩:=r
   cases y with
   | normal=>exact xD hs n m s x (by omega) hx
   | exit i=>exact hx
   | ret=>exact hx
theorem Mp{lx lr:List Bool}{tr:Bool}{fl n:Nat}{r r':Option (bJ×St)}{x:bJ×St}(h:∀y,r=some y->r'=some y)(hx:nH lx lr tr fl n r=some x): nH lx lr tr fl n r'=some x:=by
 cases r with
 | none=>cases hx
 | some y=>rw[h y rfl];exact hx
theorem GL[aA]{lx lr:List Bool}{t fl n:Nat}{r r':Option (bJ×St)}{x:bJ×St}(h:∀y,r=some y->r'=some y)(hx:BK lx lr t fl n r=some x): BK lx lr t fl n r'=some x:=by
 cases r with
 | none=>cases hx
 | some y=>rw[h y rfl];exact hx
theorem eD[aA](h:Le cf cf'){lf lf' fl:Nat}(hl:lf<=lf'): ∀(c:bK) (st:St) (x:bJ×St),bW P cf lf fl c st=some x->bW P cf' lf' fl c st=some x
 | .skip,_,_,hx=>hx
 | .exit _,_,_,hx=>hx
 | .ret,_,_,hx=>hx
 | .stop,_,_,hx=>hx
 | .region _ ck ops,st,x,hx=>by
  simp only[bW] at hx |-
  split at hx
  .rename_i s1 he
   rw[HA h he];exact hx
  .cases hx
 | .seq a b,st,x,hx=>by
  simp only[bW] at hx |-
  cases he:bW P cf lf fl a st with
  | none=>rw[he] at hx;cases hx
  | some r=>
   rw[he] at hx
   rw[eD h hl a st r he]
   obtain⟨y,s⟩:=r
   cases y with
   | normal=>exact eD h hl b s x hx
   | exit i=>exact hx
   | ret=>exact hx
 | .cond c a b,st,x,hx=>by
  simp only[bW] at hx |-
  split at hx
  .exact eD h hl a st x hx
  .exact eD h hl b st x hx
  .cases hx
 | .block id c,st,x,hx=>by
  simp only[bW] at hx |-
  cases he:bW P cf lf fl c st with
  | none=>rw[he] at hx;cases hx
  | some r=>
   rw[he] at hx
   rw[eD h hl c st r he]
   exact hx
 | .loop live tr c,st,x,hx=>by
  simp only[bW] at hx |-
  exact xD (λst x hs=>eD h hl c st x hs) lf lf' st x hl hx
 | .frz t c,st,x,hx=>by
  simp only[bW] at hx |-
  split at hx
  .rename_i v H he
   rw[Ui h he]
   exact eD h hl c _ x hx
  .cases hx
 | .told li lx lr c,st,x,hx=>by
  simp only[bW] at hx |-
  exact Mp (λy hy=>eD h hl c _ y hy) hx
 | .mask lx lr tr c,st,x,hx=>by
  simp only[bW] at hx |-
  exact Mp (λy hy=>eD h hl c st y hy) hx
 | .scope c,st,x,hx=>by
  simp only[bW] at hx |-
  exact eD h hl c st x hx
 | .nilIf t d0 d1 a b,st,x,hx=>by
  simp only[bW] at hx |-
  split at hx
  .split at hx
   .cases he:bW P cf lf fl a ⟨qF st.tmps t d0 d1 true,st.heap⟩ with
    | none=>rw[he] at hx;cases hx
    | some r=>rw[he] at hx;rw[eD h hl a _ r he];exact hx
   .exact eD h hl b _ x hx
   .split at hx
    .cases he:bW P cf lf fl a ⟨qF st.tmps t d0 d1 true,st.heap⟩ with
     | none=>rw[he] at hx;cases hx
     | some r=>
      cases he2:bW P cf lf fl b ⟨qF st.tmps t d0 d1 false,st.heap⟩ with
      | none=>rw[he,he2] at hx;obtain⟨y,s⟩:=r;cases y<;>cases hx
      | some r2=>rw[he,he2] at hx;rw[eD h hl a _ r he,eD h hl b _ r2 he2];exact hx
    .cases hx
   .cases hx
  .cases hx
 | .loopV live lx lr t c,st,x,hx=>by
  simp only[bW] at hx |-
  split at hx
  .rename_i s1 he
   exact GL (λy hy=>xD (λst x hs=>eD h hl c st x hs) lf lf' s1 y hl hy) hx
  .cases hx
end
theorem HE[aA](P:Program)(T:List bC): ∀n,Le (eB P T n) (eB P T (n+1))
 | 0=>λ_ _ _ _ _ h=>by cases h
 | n+1=>λfl vi args H x hx=>by
  rw[eB] at hx |-
  split at hx
  .rename_i g _;exact g.mono _ _ (HE P T n) _ _ _ _ hx
  split at hx
  .cases hx
  .rename_i F hF
   cases he:bW P (eB P T n) n fl F.body ⟨args++List.replicate (F.nt-args.length) (.lit aT),H⟩ with
   | none=>rw[he] at hx;cases hx
   | some r=>
    rw[he] at hx
    rw[eD (HE P T n) (Nat.le_succ n) F.body _ r he]
    exact hx
theorem VW[aA]{P:Program}{T:List bC}{n m fl vi:Nat}{args:List AV}{H:aK}{x:AV×aK}(hnm:n<=m)(hx:eB P T n fl vi args H=some x): eB P T m fl vi args H=some x:=by
 induction hnm with
 | refl=>exact hx
 | step _ ih=>exact HE P T _ _ _ _ _ _ ih
def awB(r:Option (AV×aK)): Bool:=match r with
 | some (a,_)=>match a with
  | .lit v=>match v with
   | .bool b=>b
   | _=>false
  | _=>false
 | none=>false
theorem WS{r:Option (AV×aK)}(h:awB r=true): ∃H,r=some (.lit (.bool true),H):=by
 unfold awB at h
 split at h
 .split at h
  .split at h
   .subst h;exact⟨_,rfl⟩
   .cases h
  .cases h
 .cases h
theorem aBz{N n:Nat}{r:Bool}(h:cnd (Nat.ble N n) (some true) none=some r): N<=n/\r=true:=by
 cases hb:Nat.ble N n with
 | true=>rw[hb] at h;cases h;exact⟨Nat.le_of_ble_eq_true hb,rfl⟩
 | false=>rw[hb] at h;cases h
def aDm[cN][aA]{P:Program}{T:List bC}(vi kb N:Nat)(aw:awB (eB P T N 0 vi [] [])=true)(F:Nat->eW []->Option (eW ([kb].map .v)))(h:∀n p r,F n p=some r->N<=n/\vQ ([kb].map .v) r=[.lit (.bool true)]): IU P T:=
 ⟨vi,⟨[],[kb],false,F⟩,by
  intro n p r hr bs q
  obtain⟨h1,h2⟩:=h n p r hr
  obtain⟨H,hH⟩:=WS aw
  cases bs with
  | nil=>
   refine⟨[.lit (.bool true)],H,VW h1 hH,λH1=>?_,λa ha l e=>?_,λe=>by cases e⟩
   .show Qc H1 (vQ ([kb].map .v) r) _
    rw[h2];exact⟨.l _,trivial⟩
   .cases List.mem_singleton.1 ha;cases e
  | cons x bs=>exact q.elim⟩
section
variable [cN]{P:Program}
def shF(P:Program)(chk:TypeId->List Cd->Bool): List Field->List Cd->Bool
 | [],cs=>cs.isEmpty
 | f::r,cs=>chk f.type (cs.take<|P.cellsOf f.type)&&shF P chk r (cs.drop<|P.cellsOf f.type)
def M7(P:Program): Nat->TypeId->List Cd->Bool
 | 0,_,_=>false
 | n+1,t,cs=>match P.underlying t with
  | some .bool=>match cs with
   | [.bool]=>true
   | _=>false
  | some (.int k)=>match cs with
   | [.int k']=>decide<|k=k'
   | _=>false
  | some .string=>match cs with
   | [.str]=>true
   | _=>false
  | some (.slice e)=>match cs with
   | [.sl k]=>M7 P n e<|cds k
   | _=>false
  | some (.struct fs)=>shF P (M7 P n) fs.toList cs
  | _=>false
def K4(f:(cs:List Cd)->zL cs->Prop): (cs:List Cd)->zL cs->Prop
 | [],_=>True
 | .sl k::r,p=>(List.length (α:=den k) p.1<=mxL/\∀x:den k,List.Mem x p.1->f (cds k) (cN.un k x))/\K4 f r p.2
 | _::r,p=>K4 f r p.2
def LnC: Nat->(cs:List Cd)->zL cs->Prop
 | 0,_,_=>True
 | n+1,cs,p=>K4 (LnC n) cs p
theorem KD: ∀(a b:List Cd) (p:zL a) (q:zL b),∃r:zL<|a++b,jB (a++b) r=jB a p++jB b q/\∀f,K4 f a p->K4 f b q->K4 f (a++b) r
 | [],b,_,q=>⟨q,rfl,λ_ _ h=>h⟩
 | c::a,b,p,q=>by
  let⟨r,i,e⟩:=KD a b p.2 q;refine⟨(p.1,r),?_,λf d g=>?_⟩
  .show c.tv p.1::jB (a++b) r=_;rw[i];rfl
  .cases c with
   | sl k=>exact⟨d.1,e f d.2 g⟩
   | _=>exact e f d g
theorem TC{a b:List Cd}(e:a=b)(p:zL a): ∃q:zL b,jB b q=jB a p/\∀f,K4 f a p->K4 f b q:=by subst e;exact⟨p,rfl,λ_ h=>h⟩
theorem JL{k:Nat}: ∀(es:List<|List AV),(∀x∈es,∃p:zL<|cds k,Qr (jB (cds k) p) x/\∀d,LnC d (cds k) p)->∃l:List<|den k,Ql k l es/\∀d,∀x:den k,List.Mem x l->LnC d (cds k) (cN.un k x)
 | [],_=>⟨[],trivial,λd x h=>by cases h⟩
 | e::es,h=>by
  let⟨p,m,j⟩:=h e List.mem_cons_self;let⟨l,i,n⟩:=JL es λx b=>h x<|List.mem_cons_of_mem _ b;refine⟨cN.pk k p::l,⟨?_,i⟩,λd x b=>?_⟩
  .show Qr (jB (cds k)<|cN.un k<|cN.pk k p) e;rw[cN.un_pk];exact m
  .cases b with
   | head=>rw[cN.un_pk];exact j d
   | tail _ b=>exact n d x b
theorem EY: ∀(n:Nat) (t:TypeId) (cs:List Cd) (ys:List AV),M7 P n t cs=true->kY P n t ys->∃p:zL cs,Qr (jB cs p) ys/\∀d,LnC d cs p
 | 0,_,_,_,h,_=>by simp[M7] at h
 | n+1,t,cs,ys,a,h=>by
  unfold M7 at a;unfold kY at h;split at a
  .rename_i j;simp only[j] at h;obtain⟨b,rfl⟩:=h;split at a
   .exact⟨(b,()),⟨.lit _,trivial⟩,λd=>by cases d<;>exact trivial⟩
   .cases a
  .rename_i k j;simp only[j] at h;obtain⟨z,_,rfl⟩:=h;split at a
   .rename_i k';obtain rfl:=of_decide_eq_true a;exact⟨(z,()),⟨.lit _,trivial⟩,λd=>by cases d<;>exact trivial⟩
   .cases a
  .rename_i j;simp only[j] at h;obtain⟨z,_,rfl⟩:=h;split at a
   .exact⟨(z,()),⟨.lit _,trivial⟩,λd=>by cases d<;>exact trivial⟩
   .cases a
  .rename_i e j;simp only[j] at h;obtain⟨es,rfl,R,v⟩:=h;split at a
   .rename_i k;let⟨l,m,o⟩:=JL (k:=k) es λx B=>EY n e (cds k) x a<|v x B;refine⟨(l,()),⟨Qp.mkS (.inr ⟨_,rfl⟩) m,trivial⟩,λd=>?_⟩;cases d with
    | zero=>trivial
    | succ d=>exact⟨⟨by show l.length<=mxL;rw[<-m.len];exact R,o d⟩,trivial⟩
   .cases a
  .rename_i O j;simp only[j] at h;obtain⟨c,rfl,K,v⟩:=h;have u:∀(l:List Field) (cs:List Cd) (c:List<|List AV),shF P (M7 P n) l cs=true->c.length=l.length->(∀(i:Nat) (f:Field) (p:List AV),l[i]?=some f->c[i]?=some p->kY P n f.type p)->∃p:zL cs,Qr (jB cs p) c.flatten/\∀d,LnC d cs p:=by
    intro l;induction l with
    | nil=>
     intro cs c m o _;have:cs=[]:=by simpa [shF] using m
     subst this;have:c=[]:=List.length_eq_zero_iff.1 o;subst this;exact⟨(),trivial,λd=>by cases d<;>exact trivial⟩
    | cons f l M=>
     intro cs c m o y;simp only[shF,Bool.and_eq_true] at m;match c,o with
     | q::c,o=>
      let⟨Q,F,S⟩:=EY n f.type _ q m.1<|y 0 f q rfl rfl;let⟨A,C,J⟩:=M _ c m.2 (by simpa using o) λi g p H w=>y (i+1) g p (by simpa using H) (by simpa using w);let⟨r,I,E⟩:=KD _ _ Q A;let⟨s,L,D⟩:=TC (List.take_append_drop (P.cellsOf f.type) cs) r;refine⟨s,?_,λd=>?_⟩
      .rw[L,I,List.flatten_cons];exact F.app C
      .cases d with
       | zero=>trivial
       | succ d=>exact D _<|E _ (S<|d+1)<|J<|d+1
   exact u O.toList cs c a (by simpa using K) λi f p G w=>v i f p (by simpa using G) w
  .cases a
theorem B9{n k:Nat}{t:TypeId}{x:AV}{H:TH}(l:M7 P n t (cds k)=true)(s:isAgg P t=ag k)(i:ag k=true\/∃c,cds k=[c])(h:∃ys,kY P n t ys/\x=Ib P t ys): ∃a:den k,Qh H (val k a) x/\∀d,LnC d (cds k)<|cN.un k a:=by
 obtain⟨ys,r,rfl⟩:=h;let⟨p,q,o⟩:=EY n t (cds k) ys l r;refine⟨cN.pk k p,?_,λd=>by rw[cN.un_pk];exact o d⟩;have f:Qr (iN k<|cN.pk k p) ys:=by unfold iN;rw[cN.un_pk];exact q
 unfold val Ib;rw[s];cases e:ag k with
 | true=>exact Qh.mkA f.c
 | false=>
  have g:=kP<|cN.pk k p;rcases i with i | ⟨c,u⟩
  .rw[e] at i;cases i
  .rw[u] at g;revert f g;generalize iN k (cN.pk k p)=cs;intro f g;match cs,ys,f,g with
   | [v],[y],f,_=>exact .p _ _ f.1
theorem u7[aA]{T:List bC}{vi kb:Nat}{ka:List Sh}{F:Nat->eW ka->Option (eW<|[kb].map .v)}(i:MX P T vi ⟨ka,[kb],false,F⟩){n:Nat}{p:eW ka}{r:den kb}(e:F n p=some r)(h:val kb r=.lit (.bool true)){aw:List AV}(q:Qc [] (vQ ka p) aw): ∃k H',eB P T k 0 vi aw []=some (.lit<|.bool true,H'):=by
 let⟨d,A,j,c,s,_⟩:=i n p r e aw q;have c:=c [];match d,c with
 | [b],c=>
  refine⟨n,A,?_⟩;rw[j];have f:Qh [] (val kb r)<|dF A 0 b:=c.1;rw[h] at f;have a:=f.inL;have o:b=.lit (.bool true):=by
   cases b with
   | lit v=>
    have a:nQ v=.lit (.bool true):=a;unfold nQ at a;repeat' split at a
    all_goals first | (cases a;rfl) | cases a
   | ms id tot off len=>
    simp only[dF,fE,Nat.not_lt_zero,if_false,dZ,eA,Nat.zero_le,if_true] at a;split at a<;>cases a
   | mp id=>
    simp only[dF,fE,Nat.not_lt_zero,if_false,dZ,eA,Nat.zero_le,if_true] at a;split at a<;>cases a
   | ptr=>cases a
   | fn vi caps=>cases caps<;>cases a
   | _=>cases a
  rw[o];rfl
end
end
end Go.Proofs.YthadajkojciapaaGreatDoor.Av
