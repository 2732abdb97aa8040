/- A part of the proof of a law. -/
import Derived.Test.YthadajkojciapaaGreatDoorP7
import Derived.Test.YthadajkojciapaaGreatDoorP1
import Derived.Lib.IndexMore
import Derived.Test.YthadajkojciapaaGreatDoorP5
import Derived.Recover
import Derived.Shelf.SlSortCmp.NoneTotal
set_option maxRecDepth 100000
set_option maxHeartbeats 4000000
set_option linter.all false
namespace Go.Proofs.YthadajkojciapaaGreatDoor.Av
open Go
section
open DenT (den cds ag)
section
variable [RowT]{R:Type}{H H1:TH}{A:Heap}{N:Nat}{S:TS}{st:St}{P:Program}{T:List AFun}{cf:CF}{op:AOp}{K:TV->TS->Option R}{r:R}{E:XE}{n:Nat}{d:Option Nat}
theorem splN_ok{o:BinOp}{b:Bool}{K:TV->Option R}(h:splN o b K=some r): (o=.eql∧K (.lit<|.bool b)=some r)∨(o=.neq∧K (.lit<|.bool<|!b)=some r):=by
 unfold splN at h;split at h
 ·cases b<;>exact .inl ⟨rfl,h⟩
 ·cases b<;>exact .inr ⟨rfl,h⟩
 ·cases h
theorem shr1_ok[GlobT]{fl:Nat}{H:Heap}{t:TypeId}{a:Int}: evOp P cf fl (.bin .shr t (.tmp 0)<|.tmp 1) [.lit<|.int .u64 a,.lit<|.int .u64 1] H=some (.lit<|.int .u64<|a.fdiv 2,H):=by
 have b:pureRun P (eqGuard .shr t (.tmp 0) (.tmp 0) (.int .u64 a)<|.int .u64 1)=some ():=rfl;have c:pureRun P (binOp .shr t (.int .u64 a)<|.int .u64 1)=some (.int .u64<|a.fdiv 2):=by
  simp[binOp,Op.shift];rfl
 simp only[evOp,getOpd,List.getElem?_cons_zero,List.getElem?_cons_succ,lits,notNil,if_true,b,c]
theorem rdRows_one{k:Nat}: ∀{cs:List TV}{es:List AV}{l:List (den k)},Qc S.hp cs es->rdRows [] k (cs.map λc=>[c])=some l->Ql k l (es.map λc=>[toP c])
 | [],[],l,_,h=>by simp only[List.map_nil,rdRows,Option.some.injEq] at h;subst h;trivial
 | c::cs,a::es,l,q,h=>by
  simp only[List.map_cons,rdRows] at h;split at h
  ·rename_i x e;split at h
   ·rename_i y g;cases h;exact⟨mild_toP.r (rdRow0 e (aw:=[a]) ⟨q.1,trivial⟩),rdRows_one q.2 g⟩
   ·cases h
  ·cases h
 | [],_::_,_,q,_=>by cases q
 | _::_,[],_,q,_=>by cases q
theorem idxArr_t[GlobT]{s m:Nat}{x i:AOpd}(u:Qt N S st)(h:exOp E n d (.idxArr s m x i) S K=some r): Ok1 P cf E.fl N (.idxArr s m x i) st K r:=by
 have q:=u.get x;simp only[exOp] at h;split at h
 ·rename_i cs j;rw[j] at q;split at h
  ·rename_i e;simp only[Bool.and_eq_true] at e;let⟨e1,e2,e3⟩:=e
   have e1:=Nat.eq_of_beq_eq_true e1;have e2:=Nat.eq_of_beq_eq_true e2;subst e1;split at h
   ·rename_i b I;split at h
    ·rename_i l G;let⟨y,C,h⟩:=bnd_some h;let⟨R,L,W⟩:=idx_some C;let⟨aw,w,p⟩:=(q.pu trivial).inR
     have o:aw.length=m:=by rw[p.len,e2]
     have z:natOf (getOpd st.tmps i)=some b.toNat:=intOf_ok I (u.get i) R
     have gq:Ql (kdOf E d) l (aw.map λc=>[c]):=rdRows0 G (H':=S.hp) (All2.map (R:=Qh S.hp) (λa b t=>⟨t,trivial⟩) p.c)
     let⟨row,Q,O⟩:=gq.get L
     simp only[List.getElem?_map,Option.map_eq_some_iff] at Q;obtain⟨v,Q,rfl⟩:=Q
     have a:b.toNat<m:=by rw[←o];exact (List.getElem?_eq_some_iff.1 Q).1
     have hd:(aw.drop (b.toNat*1)).take 1=[v]:=by
      rw[Nat.mul_one,List.drop_eq_getElem_cons (by rw[o];exact a)];simp only[List.take_succ_cons,List.take_zero];rw[(List.getElem?_eq_some_iff.1 Q).2]
     refine Ok1.same (v:=.rptr [v]) u ?_ (.p _ _<|Qp.mkR O) h;simp only[evOp,z,a,if_true,w,hd]
    ·cases h
   ·cases h
  ·cases h
 ·cases h
theorem takeC_ok{k:Nat}{l:List (den k)}{es:List (List AV)}(q:Ql k l es)(e:(cds k).length=1): ∀{m i:Nat}{K:List TV->Option R}{r:R},takeC k l m i K=some r->∃cs,K cs=some r∧(0<m->i+m≤l.length)∧Qr cs ((es.drop i).take m).flatten
 | 0,i,K,r,h=>⟨[],h,λh=>absurd h (Nat.lt_irrefl 0),by simp only[List.take_zero,List.flatten_nil];trivial⟩
 | m+1,i,K,r,h=>by
  let⟨x,C,h⟩:=bnd_some (show bnd (idx l ((i:Nat):Int)) _=some r from h);let⟨R,L,W⟩:=idx_some C;let⟨cs,g,a,b⟩:=takeC_ok q e h
  have L:l[i]?=some x:=by simpa using L
  let⟨row,Q,O⟩:=q.get L;have z:=(List.getElem?_eq_some_iff.1 L).1;have y:=(List.getElem?_eq_some_iff.1 Q).1
  refine⟨_,g,λ_=>?_,?_⟩
  ·cases m with
   | zero=>omega
   | succ m=>have:=a (by omega);omega
  ·rw[List.drop_eq_getElem_cons y,List.take_succ_cons,List.flatten_cons,(List.getElem?_eq_some_iff.1 Q).2];exact O.app b
theorem allLen_of{k:Nat}{l:List (den k)}{es:List (List AV)}(q:Ql k l es)(e:(cds k).length=1): allLen 1 es=true:=q.all e
theorem tail2_t[GlobT]{x:AOpd}(a:Qt N S st)(h:exOp E n d (.tail2 x) S K=some r): Ok1 P cf E.fl N (.tail2 x) st K r:=by
 have q:=a.get x;simp only[exOp] at h;split at h
 case h_2=>cases h
 rename_i vs g;rw[g] at q;let⟨aw,e,j⟩:=q.inT
 split at h
 case h_2=>cases h
 split at h
 case h_2=>cases h
 rename_i v0 v1 rr
 match aw,j with
 | _::_::aw,⟨_,_,j⟩=>
 match rr,aw,j,h with
 | [],[],_,h=>exact Ok1.same (v:=.tup []) a (by simp only[evOp,e];rfl) (Qh.mkT (cs:=[]) trivial) h
 | y::rr,b::aw,⟨j,_⟩,h=>exact Ok1.same a (by simp only[evOp,e];rfl) j h
theorem arrPtr_t[GlobT]{s m:Nat}{x:AOpd}(u:Qt N S st)(h:exOp E n d (.arrPtr s m x) S K=some r): Ok1 P cf E.fl N (.arrPtr s m x) st K r:=by
 have q:=u.get x;simp only[exOp] at h;split at h
 ·rename_i k l j;rw[j] at q;split at h
  ·rename_i e;simp only[Bool.and_eq_true] at e;have e1:=Nat.eq_of_beq_eq_true e.1;have e2:0<m:=by simpa [Nat.blt_eq] using e.2
   let⟨es,Q,D⟩:=(q.pu trivial).inV;let⟨cs,h,a,b⟩:=takeC_ok D e1 h;have a:=a e2;rw[List.drop_zero] at b
   have al:=allLen_of D e1;have L:=D.len
   rcases Q with⟨t,z⟩ | ⟨f,t⟩ | t
   ·subst z;simp at L;omega
   ·refine Ok1.same (v:=.rptr (es.take m).flatten) u ?_ (.p _ _<|Qp.mkR b) h;simp only[evOp,t];rw[if_pos ⟨by omega,e2,al⟩]
   ·refine Ok1.same (v:=.rptr (es.take m).flatten) u ?_ (.p _ _<|Qp.mkR b) h;simp only[evOp,t];rw[if_pos ⟨by omega,e2,al⟩]
  ·cases h
 ·cases h
theorem slArr_t[GlobT]{s m:Nat}{x:AOpd}(u:Qt N S st)(h:exOp E n d (.slArr s m x) S K=some r): Ok1 P cf E.fl N (.slArr s m x) st K r:=by
 have q:=u.get x;simp only[exOp] at h;split at h
 case h_2=>cases h
 rename_i id off j;rw[j] at q;split at h
 case h_2=>cases h
 split at h
 ·cases h
 rename_i b;have b:=Nat.le_of_ble_eq_true b;split at h
 case h_2=>cases h
 rename_i o z;split at h
 case h_2=>cases h
 rename_i cs;split at h
 case h_2=>cases h
 rename_i e;simp only[Bool.and_eq_true] at e;let⟨e1,e2,_⟩:=e
 have e1:=Nat.eq_of_beq_eq_true e1
 have e2:0<m:=by simpa [Nat.blt_eq] using e2
 split at h
 case h_2=>cases h
 rename_i l G
 let⟨aw,w,p⟩:=u.hp.box z
 have hl:aw.length=m:=p.len.trans e1
 have sg:=gone_ok u (List.getElem?_eq_some_iff.1 z).1<|.blk cs.length<|[aw]++[List.replicate cs.length .undef]
 refine⟨.sl true (aw.map λc=>[toP c]),_,.sl (kdOf E d) l,_,?_,sg,.p _ _<|Qp.mkS (.inr ⟨_,rfl⟩)<|rdRows_one p G,h⟩
 simp only[evOp,q.ptr1,b,if_true,w,List.length_singleton,List.getElem?_cons_zero,hl,e2,and_self]
theorem c_bin[GlobT]{fl:Nat}{H:Heap}{t:TypeId}{o:BinOp}{v u w:Value}(b:pureRun P (eqGuard o t (.tmp 0) (.tmp 0) v u)=some ())(c:pureRun P (binOp o t v u)=some w)(a:notNil v=true): evOp P cf fl (.bin o t (.tmp 0)<|.tmp 1) [.lit v,.lit u] H=some (.lit w,H):=by
 simp only[evOp,getOpd,List.getElem?_cons_zero,List.getElem?_cons_succ,lits,a,if_true,b,c]
theorem shT_ok[GlobT](P:Program)(cf:CF)(fl:Nat)(H:Heap)(t:TypeId){o:BinOp}{k:IntKind}{a b:Int}{K:TV->Option R}(h:shT o k a b K=some r): ∃z,(∀k':IntKind,evOp P cf fl (.bin o t (.tmp 0)<|.tmp 1) [.lit<|.int k a,.lit<|.int k' b] H=some (.lit<|.int k z,H))∧K (.lit<|.int k z)=some r:=by
 unfold shT at h;split at h
 ·let⟨z,i,h⟩:=bnd_some h;have hb:0≤b:=of_decide_eq_true (grd_some i)
  refine⟨_,λk'=>c_bin rfl ?_ rfl,h⟩;simp[binOp,Op.shift,Int.not_lt.2 hb];rfl
 ·let⟨z,i,h⟩:=bnd_some h;have hb:0≤b:=of_decide_eq_true (grd_some i)
  refine⟨_,λk'=>c_bin rfl ?_ rfl,h⟩;simp[binOp,Op.shift,Int.not_lt.2 hb];rfl
 ·cases h
theorem bit_ok[GlobT]{fl:Nat}{H:Heap}{t:TypeId}{o:BinOp}{k:IntKind}{a b:Int}(h:o=.and∨o=.or∨o=.xor): evOp P cf fl (.bin o t (.tmp 0)<|.tmp 1) [.lit<|.int k a,.lit<|.int k b] H=some (.lit<|.int k (bitI o k a b),H):=by
 rcases h with rfl | rfl | rfl<;>exact c_bin rfl (by simp[binOp,Op.intBits];rfl) rfl
theorem bin_t[GlobT]{o:BinOp}{t:TypeId}{x y:AOpd}(D:EOK P T E)(p:Qt N S st)(h:exOp E n d (.bin o t x y) S K=some r): Ok1 P cf E.fl N (.bin o t x y) st K r:=by
 have q:=p.get x;have j:=p.get y;have L:evOp P cf E.fl (.bin o t x y) st.tmps st.heap=evOp P cf E.fl (.bin o t (.tmp 0)<|.tmp 1) [getOpd st.tmps x,getOpd st.tmps y] st.heap:=rfl;have c:∀{v:Value},evOp P cf E.fl (.bin o t (.tmp 0)<|.tmp 1) [getOpd st.tmps x,getOpd st.tmps y] st.heap=some (.lit v,st.heap)->K (.lit v) S=some r->Ok1 P cf E.fl N (.bin o t x y) st K r:=
  λhe G=>Ok1.same p (L.trans he) (Qh.l _) G
 have h:binT E o t (getT S.tm x) (getT S.tm y) (λv=>K v S)=some r:=h;unfold binT at h;split at h
 ·rename_i u F;rw[F] at q;have g:=q.inL;split at h
  ·rename_i w Q;rw[Q] at j;have e2:=j.inL;split at h
   ·rename_i a;split at h
    ·rename_i b;rcases splN_ok h with⟨rfl,f⟩ | ⟨rfl,f⟩
     ·exact c (by rw[g,e2];exact c_str_eql rfl) f
     ·exact c (by rw[g,e2];exact c_str_neq rfl) f
    ·cases h
   ·split at h
    ·rename_i e he;split at h
     ·cases h
     ·rename_i C;split at h
      ·rename_i a B;split at h
       ·rename_i b m;let⟨s,A⟩:=D.eq t e he cf E.fl st.heap a b [_] [_] (rdRow0 (H':=S.hp) B ⟨p.get x,trivial⟩)<|rdRow0 (H':=S.hp) m ⟨p.get y,trivial⟩;rw[C] at s A;rcases splN_ok h with⟨rfl,f⟩ | ⟨rfl,f⟩
        ·exact c s f
        ·exact c A f
       ·cases h
      ·cases h
    ·cases h
   ·rename_i k a;split at h
    ·rename_i k' b;split at h
     ·rename_i I _;subst I;split at h
      ·let⟨z,i,h⟩:=bnd_some h;unfold quoO at i;split at i
       ·cases i
       ·rename_i m;cases i;exact c (by rw[g,e2];exact quo_ok m) h
      ·let⟨z,i,h⟩:=bnd_some h;exact c (by rw[g,e2];exact remO_ok i) h
      ·split at h
       ·split at h
        ·rename_i J _;subst J;exact c (by rw[g,e2];exact shr1_ok) h
        ·let⟨z,i,h⟩:=shT_ok P cf E.fl st.heap t h;exact c (by rw[g,e2];exact i _) h
       ·let⟨z,i,h⟩:=shT_ok P cf E.fl st.heap t h;exact c (by rw[g,e2];exact i _) h
      ·let⟨z,i,h⟩:=shT_ok P cf E.fl st.heap t h;exact c (by rw[g,e2];exact i _) h
      ·exact c (by rw[g,e2];exact bit_ok (.inl rfl)) h
      ·exact c (by rw[g,e2];exact bit_ok (.inr (.inl rfl))) h
      ·exact c (by rw[g,e2];exact bit_ok (.inr (.inr rfl))) h
      ·cases h
     ·let⟨z,i,h⟩:=shT_ok P cf E.fl st.heap t h;exact c (by rw[g,e2];exact i _) h
    ·cases h
   ·cases h
  ·cases h
 ·rename_i cs M;rw[M] at q;let⟨aw,g,q⟩:=q.inA;split at h
  ·rename_i e he;split at h
   ·rename_i C;split at h
    ·rename_i a B;split at h
     ·rename_i ds O;rw[O] at j;let⟨H,e2,j⟩:=j.inA;split at h
      ·rename_i b m;let⟨s,A⟩:=D.eq t e he cf E.fl st.heap a b aw H (rdRow0 B q)<|rdRow0 m j;rw[C] at s A;rcases splN_ok h with⟨rfl,f⟩ | ⟨rfl,f⟩
       ·exact c (by rw[g,e2];exact s) f
       ·exact c (by rw[g,e2];exact A) f
      ·cases h
     ·cases h
    ·cases h
   ·cases h
  ·cases h
 ·cases h
theorem movN_t[GlobT]{x:AOpd}(b:Qt N S st)(h:exOp E n d (.movN x) S K=some r): Ok1 P cf E.fl N (.movN x) st K r:=by
 have q:=b.get x;refine Ok1.same b rfl ?_ h;generalize getT S.tm x=v at q;generalize getOpd st.tmps x=a at q;have c:∀{v:TV} {a:AV},Qh S.hp v a->Qh S.hp (nrmT1 v) (nrm a):=by
  intro v a q;cases v with
  | agg cs=>obtain⟨aw,rfl,_⟩:=q.inA;exact q
  | _=>exact nrm1_ok q λcs e=>by cases e
 cases v with
 | agg cs=>
  obtain⟨aw,rfl,f⟩:=q.inA;exact Qh.mkA<|f.map λ_ _ q=>c q
 | undef=>exact Qh.u _
 | _=>
  have:=c q;cases a with
  | agg=>
   cases q with
   | p _ _ q=>cases q<;>simp_all
  | _=>exact this
theorem op_t[GlobT](f:EOK P T E)(e:Qt N S st)(h:exOp E n d op S K=some r): Ok1 P (evF P T n) E.fl N op st K r:=by
 cases op with
 | mov x=>exact mov_t e h
 | movN x=>exact movN_t e h
 | pick c a b=>exact pick_t e h
 | alloc z=>exact alloc_t e h
 | ptrK n=>exact Ok1.same e rfl (Qh.ptr _ _) h
 | claim s=>exact claim_t e h
 | box x=>exact box_t e h
 | build z ps=>exact build_t e h
 | buildSl pu s m z ps=>exact buildSl_t e h
 | load agg m x=>exact load_t e h
 | store m x v=>exact store_t e h
 | nilCheck x=>exact nilCheck_t e h
 | ibin o x y=>exact ibin_t e h
 | bin o t x y=>exact bin_t f e h
 | un o x=>exact un_t e h
 | slArr s m x=>exact slArr_t e h
 | fieldAddr o x=>exact fieldAddr_t e h
 | field a m o x=>exact field_t e h
 | idxAddr s x i=>exact idxAddr_t e h
 | idxArr s m x i=>exact idxArr_t e h
 | arrPtr s m x=>exact arrPtr_t e h
 | tail2 x=>exact tail2_t e h
 | lenS x=>exact lenS_t e h
 | append s b x y=>exact append_t e h
 | extract x i=>exact extract_t e h
 | call pu vi u=>exact call_t f e h
 | callB vi u=>exact callB_t f.cs e h
 | minmax mx u=>exact minmax_t e h
 | callv pu x u=>exact callv_t f e h
 | callT s vi u=>exact callT_t f e h
 | mkFn vi u=>exact mkFn_t e h
 | lenC n=>exact Ok1.same e rfl (Qh.l _) h
 | allocC z cl=>exact allocC_t e h
 | boxC x cl=>exact boxC_t e h
 | buildC z ps cl=>exact buildC_t e h
 | index a s m x i=>exact index_t e h
 | mkMap=>exact mkMap_t e h
 | lookup kt z m k ok=>exact lookup_t f e h
 | mapUpd kt m k v=>exact mapUpd_t f e h
 | lenM x=>exact lenM_t e h
 | lenStr t x=>exact lenStr_t f e h
 | strIdx t x i=>exact strIdx_t f e h
 | strSlice t x lo hi=>exact strSlice_t e h
 | rangeStr x=>exact rangeStr_t e h
 | nextStr x=>exact nextStr_t e h
 | conv a b x=>exact conv_t f e h
 | slice s x lo hi mx=>exact slice_t e h
 | mkSlice s z b x y=>exact mkSlice_t e h
 | callF vi u=>exact callF_t f e h
 | copy s x y=>exact copy_t e h
 | clear s z x=>exact clear_t e h
 | capS x=>exact capS_t e h
 | appendZ s b z x m=>exact appendZ_t e h
 | loadF m k x=>exact loadF_t e h
 | _=>cases h
theorem putK_ok{v:TV}{a:AV}{K:TS->Option R}(h:putK N d v S K=some r)(b:Qt N S st)(q:Qh S.hp v a): ∃c,Qt N c ⟨putA st.tmps d a,st.heap⟩∧K c=some r:=by
 unfold putK at h;split at h
 ·split at h
  ·rename_i e;exact⟨_,b.put (by simpa [Nat.blt_eq] using e) q,h⟩
  ·cases h
 ·exact⟨S,b,h⟩
theorem setB_ok{t:Nat}{b:Bool}(c:Qt N S st)(h:look t S.tm=some (.lit<|.bool b)): Qt N (setB t b S) st:=by
 refine⟨c.ln,λu w a=>?_,c.hp⟩;simp only[setB,look] at a;split at a
 ·rename_i e;have e:=Nat.eq_of_beq_eq_true e;subst e;cases a;exact c.tm _ _ h
 ·exact c.tm u w a
theorem exOn_ok[GlobT]{o:AOper}{K:TS->Option R}(f:E.nt=N)(l:EOK P T E)(g:Qt N S st)(h:exOn E n o S K=some r):
 ∃v a b,evOp P (evF P T n) E.fl o.op st.tmps st.heap=some (v,a)∧Qt N b ⟨putA st.tmps o.dst v,a⟩∧K b=some r:=by
 let⟨v,a,tv,b,k,e,i,c⟩:=op_t l g h;rw[f] at c;let⟨j,m,d⟩:=putK_ok c e i;exact⟨v,a,j,k,m,d⟩
theorem oper_t[GlobT]{o:AOper}{K:TS->Option R}(t:E.nt=N)(y:EOK P T E)(f:Qt N S st)(h:exOper E n o S K=some r): ∃st' c,evOper P (evF P T n) E.fl o st=some st'∧Qt N c st'∧K c=some r:=by
 have s:∀{j:TS},wantA st.tmps o.guard=some true->Qt N j st->exOn E n o j K=some r->∃st' c,evOper P (evF P T n) E.fl o st=some st'∧Qt N c st'∧K c=some r:=by
  intro j i f h;let⟨v,C,c,m,q,B⟩:=exOn_ok t y f h;exact⟨_,c,by simp only[evOper,i,m],q,B⟩
 have off:∀{j:TS},wantA st.tmps o.guard=some false->Qt N j st->exOff E o j K=some r->∃st' c,evOper P (evF P T n) E.fl o st=some st'∧Qt N c st'∧K c=some r:=by
  intro j i f h;unfold exOff at h;rw[t] at h;let⟨c,m,q⟩:=putK_ok h f<|Qh.l _;exact⟨_,c,by simp only[evOper,i],m,q⟩
 unfold exOper at h;split at h
 ·rename_i p;exact s (by rw[p];rfl) f h
 ·rename_i g p;split at h
  ·rename_i v k;split at h
   ·rename_i u;let⟨a,x,A⟩:=f.tm _ _ k;have z:=A.inL;subst z;have i:∀w,(match (AV.lit u:AV) with | .lit (.bool b)=>some (b==g.2) | .lit _=>some false | _=>none)=w->wantA st.tmps o.guard=w:=by
     intro w e;rw[p];simp only[wantA,getOpd,x];exact e
    split at h
    ·rename_i b;split at h
     ·rename_i d;cases b with
      | true=>exact s (i _<|by simp[d]) (setB_ok f k) h
      | false=>exact off (i _<|by simp[d]) (setB_ok f k) h
     ·rename_i d;cases b with
      | true=>exact off (i _<|by simp[d]) (setB_ok f k) h
      | false=>exact s (i _<|by simp[d]) (setB_ok f k) h
    ·exact off (i _ rfl) f h
    ·cases h
   ·cases h
  ·cases h
theorem ops_t[GlobT](e:E.nt=N)(d:EOK P T E): ∀{l:List AOper} {S:TS} {st:St} {K:TS->Option R},Qt N S st->exOps E n l S K=some r->∃st' c,evOps P (evF P T n) E.fl l st=some st'∧Qt N c st'∧K c=some r
 | [],S,st,K,b,h=>⟨st,S,rfl,b,h⟩
 | o::l,S,st,K,b,h=>by
  let⟨q,s,i,m,p⟩:=oper_t e d b h;let⟨a,g,j,k,f⟩:=ops_t e d m p;exact⟨a,g,by simp only[evOps,i,j],k,f⟩
theorem obj_ok{H:TH}{v:TV}{a:AV}{o:Option Nat}(q:Qh H v a)(h:objT v=some o): objOf a=o:=by
 cases v with
 | undef=>cases h
 | tup=>cases h
 | agg=>cases h
 | fn=>cases h
 | ptr=>cases h;rw[q.ptr1];rfl
 | pel=>cases h;let⟨_,_,_,_,_,e⟩:=q.pel1;rw[e];rfl
 | ms id m=>
  cases h;cases q with
  | p _ _ q=>cases q
  | ms=>rfl
  | msn=>rfl
 | mp=>cases h;rw[q.mp1];rfl
 | rs=>cases h;rw[q.rs1];rfl
 | rel=>cases h;rw[q.rel1];rfl
 | lit=>cases h;rw[q.inL];rfl
 | emp=>cases h;cases (q.pu trivial) with
  | emp _ _ h=>rcases h with rfl | rfl | ⟨_,rfl⟩<;>rfl
 | sl=>cases h;let⟨es,b,_⟩:=(q.pu trivial).inS;rcases b with⟨rfl,_⟩ | ⟨f,rfl⟩<;>rfl
 | vw=>cases h;let⟨es,b,_⟩:=(q.pu trivial).inV;rcases b with⟨rfl,_⟩ | ⟨f,rfl⟩ | rfl<;>rfl
 | slF=>cases h;let⟨es,b,_⟩:=(q.pu trivial).inE;rcases b with⟨rfl,_⟩ | rfl<;>rfl
 | rptr=>cases h;obtain⟨_,rfl,_⟩:=(q.pu trivial).inR;rfl
 | sptr=>cases h;obtain⟨_,rfl,_⟩:=(q.pu trivial).inP;rfl
 | rmp=>cases h;let⟨_,b,_⟩:=(q.pu trivial).inM;rcases b with⟨rfl,_⟩ | rfl<;>rfl
 | it=>cases h;cases q with
  | p _ _ q=>cases q
  | it=>rfl
theorem plT1_ok{H:TH}{v:TV}{a:AV}(q:Qh H v a)(h:plT1 v=true): plain1 a=true:=by
 cases v with
 | lit=>rw[q.inL];rfl
 | emp=>cases (q.pu trivial) with
  | emp _ _ h=>rcases h with rfl | rfl | ⟨_,rfl⟩<;>rfl
 | sl=>let⟨es,c,_⟩:=(q.pu trivial).inS;rcases c with⟨rfl,_⟩ | ⟨f,rfl⟩<;>rfl
 | rptr=>obtain⟨_,rfl,_⟩:=(q.pu trivial).inR;rfl
 | sptr=>obtain⟨_,rfl,_⟩:=(q.pu trivial).inP;rfl
 | rmp=>let⟨_,c,_⟩:=(q.pu trivial).inM;rcases c with⟨rfl,_⟩ | rfl<;>rfl
 | _=>cases h
theorem plTL_ok{H:TH}: ∀{vs:List TV} {aw:List AV},Qc H vs aw->plTL vs=true->plainL aw=true
 | [],[],_,_=>rfl
 | v::vs,a::aw,q,h=>by
  simp only[plTL] at h;split at h
  ·rename_i e;simp only[plainL,plT1_ok q.1 e,plTL_ok q.2 h]
  ·cases h
 | [],_::_,q,_=>q.elim
 | _::_,[],q,_=>q.elim
theorem plT2_ok{H:TH}{v:TV}{a:AV}(q:Qh H v a)(h:plT2 v=true): plain2 a=true:=by
 cases v with
 | agg cs=>obtain⟨aw,rfl,q'⟩:=q.inA;exact plTL_ok q' h
 | _=>
  have b:=plT1_ok q h;cases a<;>first | exact b | cases b
theorem plTA_ok{H:TH}: ∀{vs:List TV} {aw:List AV},Qc H vs aw->plTA vs=true->plainAll aw=true
 | [],[],_,_=>rfl
 | v::vs,a::aw,q,h=>by
  simp only[plTA] at h;split at h
  ·rename_i e;simp only[plainAll,plT2_ok q.1 e,plTA_ok q.2 h]
  ·cases h
 | [],_::_,q,_=>q.elim
 | _::_,[],q,_=>q.elim
theorem stab_ok[GlobT]{g:AOp}{o:Option Nat}(d:Qt N S st)(h:stabT g S.tm=some o): stableAt g st.tmps=some o:=by
 cases g with
 | call pu vi a=>
  cases pu with
  | false=>cases h
  | true=>
   simp only[stabT] at h;split at h
   ·rename_i e;cases h;simp only[stableAt,plTA_ok (getL d a) e]
   ·cases h
 | callB vi a=>
  simp only[stabT] at h;split at h
  ·rename_i x;have q:=d.get x;split at h
   ·rename_i c;cases h;rw[c] at q;let⟨_,i,_⟩:=(q.pu trivial).inS;simp only[stableAt];rcases i with⟨e,_⟩ | ⟨f,e⟩<;>rw[e]
   ·rename_i c;cases h;rw[c] at q;let⟨_,i,_⟩:=(q.pu trivial).inV;simp only[stableAt];rcases i with⟨e,_⟩ | ⟨f,e⟩ | e<;>rw[e]
   ·cases h
  ·cases h
 | _=>first | cases h | (simp only[stabT] at h;simp only[stableAt,obj_ok (d.get _) h])
theorem keep_ok'[GlobT]{i:AOp}{n id:Nat}(j:Qt N S st)(h:keepT' i S.tm n id=true): keepsA i st.tmps n id=true:=by
 cases i with
 | store m x v=>
  have q:=j.get x;simp only[keepT'] at h;split at h
  ·rename_i c;rw[c] at q;simp only[keepsA,q.ptr1];exact h
  ·rename_i c;rw[c] at q;let⟨_,_,_,_,_,e⟩:=q.pel1;simp only[keepsA,e];exact h
  ·cases h
 | append s b x y=>
  have q:=j.get x;simp only[keepT'] at h;generalize getT S.tm x=v at q h;generalize d:getOpd st.tmps x=a at q;split at h
  ·cases q with
   | p _ _ q=>cases q
   | ms=>simp only[keepsA,d];exact h
   | msn=>simp only[keepsA,d];exact h
  ·cases (q.pu trivial) with
   | emp _ _ r=>rcases r with rfl | rfl | ⟨_,rfl⟩<;>(simp only[keepsA,d];exact h)
  ·rw[q.inL] at d;simp only[keepsA,d];exact h
  ·cases h
 | mapUpd kt m k v=>
  have q:=j.get m;simp only[keepT'] at h;split at h
  ·rename_i c;rw[c] at q;simp only[keepsA,q.mp1];exact h
  ·cases h
 | _=>first | cases h | exact h
theorem want_ok[GlobT]{g:Option<|Nat×Bool}{b:Bool}(f:Qt N S st)(h:wantT S.tm g=some b): wantA st.tmps g=some b:=by
 unfold wantT at h;split at h
 ·cases h;rfl
 ·rename_i g;split at h
  ·rename_i v d;let⟨a,c,q⟩:=f.tm _ _ d;split at h
   ·have e:=q.inL;subst e;split at h
    ·cases h;simp only[wantA,getOpd,c]
    ·cases h;simp only[wantA,getOpd,c]
    ·cases h
   ·cases h
  ·cases h
theorem ck1_ok[GlobT]{ops:List AOper}{l:List TS}{m:List St}{k j:Nat}(p:All2 (Qt N) l m)(h:ck1 ops l k j=true): ckOne ops m k j=true:=by
 unfold ck1 at h;split at h
 ·rename_i ok g;split at h
  ·rename_i u b;let⟨s,c,n⟩:=p.get b;simp only[ckOne,g,c];split at h
   ·rename_i i;rw[want_ok n i]
   ·split
    ·rfl
    ·split at h
     ·cases h
     ·rename_i o q;rw[stab_ok n q];split at h
      ·rfl
      ·rename_i id;split at h
       ·rename_i t e;split at h
        ·rename_i v d;let⟨r,a,f⟩:=p.get d;simp only[e,a];split at h
         ·rename_i i;rw[want_ok f i]
         ·split
          ·rfl
          ·rw[←f.hp.ln] at h;rw[keep_ok' f h]
        ·cases h
       ·cases h
  ·cases h
 ·cases h
theorem ckL_ok[GlobT]{ops:List AOper}{l:List TS}{m:List St}(a:All2 (Qt N) l m): ∀{b:List<|Nat×Nat},ckL ops l b=true->ckAll ops m b=true
 | [],_=>rfl
 | p::r,h=>by
  simp only[ckL] at h;split at h
  ·rename_i e;simp only[ckAll,ck1_ok a e];exact ckL_ok a h
  ·cases h
theorem opsL_t[GlobT](k:E.nt=N)(j:EOK P T E): ∀{l:List AOper} {S:TS} {st:St} {b:List TS} {K:List TS->TS->Option R},Qt N S st->exOpsL E n l S b K=some r->
 ∃e c st' i,evOpsL P (evF P T n) E.fl l st=some c∧All2 (Qt N) e c∧c.getLast?=some st'∧Qt N i st'∧K (b.reverse++e) i=some r
 | [],S,st,b,K,d,h=>⟨[S],[st],st,S,rfl,⟨d,trivial⟩,rfl,d,by simp only[exOpsL,List.reverse_cons] at h;exact h⟩
 | o::l,S,st,b,K,d,h=>by
  simp only[exOpsL] at h;let⟨w,y,u,v,t⟩:=oper_t k j d h;let⟨e,c,f,q,x,s,g,p,m⟩:=opsL_t k j v t;refine⟨S::e,st::c,f,q,by simp only[evOpsL,u,x],⟨d,s⟩,?_,p,by simp only[List.reverse_cons,List.append_assoc,List.singleton_append] at m;exact m⟩;cases c with
  | nil=>cases g
  | cons a r=>rw[List.getLast?_cons_cons];exact g
theorem keepsQ_ok[GlobT]{n:Nat}: ∀{m:Nat}{ops:List AOper}{l:List TS}{w:List St},All2 (Qt N) l w->keepsQ n m ops l=true->keepsP n m ops w=true
 | 0,_,_,_,_,_=>rfl
 | _+1,[],_,_,_,h=>by cases h
 | _+1,_::_,[],_,_,h=>by cases h
 | _+1,_::_,_::_,[],a,_=>a.elim
 | m+1,o::r,s::l,t::w,a,h=>by
  simp only[keepsQ] at h;split at h
  ·rename_i g;have k:=keepsQ_ok a.2 h;simp only[keepsP]
   have y:(match quietOp o.op with | true=>true | false=>match wantA t.tmps o.guard with | some false=>true | _=>keepsA o.op t.tmps t.heap.length n)=true:=by
    split at g
    ·rename_i q;rw[q]
    ·rename_i q;rw[q];split at g
     ·rename_i i;simp only[want_ok a.1 i]
     ·rw[a.1.hp.ln.symm] at g;have g:=keep_ok' a.1 g
      simp only;split<;>first | rfl | exact g
   exact (congrArg (λb=>match b with | true=>keepsP n m r w | false=>false) y).trans k
  ·cases h
theorem reg_t[GlobT](e:E.nt=N)(g:EOK P T E){f:List<|Nat×Nat}{l:List AOper}{K:TS->Option R}(d:Qt N S st)(h:exReg E n f l S K=some r): ∃st' a,evReg P (evF P T n) E.fl f l st=some st'∧Qt N a st'∧K a=some r:=by
 unfold exReg at h;split at h
 ·exact ops_t e g d h
 ·rename_i c cs;split at h
  ·rename_i w;let⟨p,q,st',a,j,o,k,i,b⟩:=opsL_t e g d h;simp only[List.reverse_nil,List.nil_append] at b;split at b
   ·rename_i m;exact⟨st',a,by simp only[evReg,w,j,ckL_ok o m,k],i,b⟩
   ·cases b
  ·rename_i w
   have lz:∀vs:List Value,Qc (S.hp++[.box (vs.map .lit)]) (vs.map .lit)<|vs.map .lit:=λvs=>Qc.lits vs
   have d2:Qt N (addH S (.box ((phZ l c.1).map .lit))) ⟨st.tmps,st.heap++[.blk (phZ l c.1).length [(phZ l c.1).map .lit]]⟩:=d.hpM HM.add<|d.hp.add (b:=.blk (phZ l c.1).length [(phZ l c.1).map .lit]) ⟨(phZ l c.1).map .lit,by simp,Qc.lits _⟩
   rw[←d.hp.ln] at h
   let⟨p,q,st',a,j,o,k,i,b⟩:=opsL_t e g d2 h;simp only[List.reverse_nil,List.nil_append] at b;split at b
   ·rename_i m;split at b
    ·rename_i y;exact⟨st',a,by simp only[evReg,w,j,ckL_ok o m,keepsQ_ok o y,k],i,b⟩
    ·cases b
   ·cases b
end
def lpsOf: ACode->List ACode
 | .seq a b=>lpsOf a++lpsOf b
 | .cond _ a b=>lpsOf a++lpsOf b
 | .block _ c=>lpsOf c
 | .loop _ _ c=>lpsOf c
 | .mask lx lr tr c=>.mask lx lr tr c::lpsOf c
 | .told li lx lr c=>.told li lx lr c::lpsOf c
 | .scope c=>lpsOf c
 | .frz _ c=>lpsOf c
 | _=>[]
theorem nLp_eq: ∀c,nLp c=(lpsOf c).length
 | .seq a b=>by simp[nLp,lpsOf,nLp_eq a,nLp_eq b]
 | .cond _ a b=>by simp[nLp,lpsOf,nLp_eq a,nLp_eq b]
 | .block _ c=>nLp_eq c
 | .scope c=>nLp_eq c
 | .frz _ c=>nLp_eq c
 | .mask _ _ _ c=>by simp only[nLp,lpsOf,List.length_cons,nLp_eq c];omega
 | .told _ _ _ c=>by simp only[nLp,lpsOf,List.length_cons,nLp_eq c];omega
 | .skip=>rfl
 | .region ..=>rfl
 | .loop _ _ c=>nLp_eq c
 | .exit _=>rfl
 | .ret=>rfl
 | .nilIf ..=>rfl
 | .loopV ..=>rfl
 | .stop=>rfl
section
variable [RowT]
def EP{P:Type}(R:Type): List (Out P)->Type
 | []=>Unit
 | o::r=>(o.lay.V->Option R)×EP R r
def fixE{P R:Type}(f:List AObj)(p:P): {l:List<|Out P}->ES R l->EP R l
 | [],_=>()
 | o::_,e=>(λt=>e.1 f (o.pr p) t,fixE f p e.2)
def injE{P R:Type}: (l:List<|Out P)->(SumO l->R)->EP R l
 | [],_=>()
 | [_],f=>(λt=>some<|f t,())
 | _::o'::r,f=>(λt=>some<|f<|.inl t,injE (o'::r) λs=>f<|.inr s)
def lpB{V X:Type}(B:(V->Option X)->V->Option X): Nat->V->Option X
 | 0,_=>none
 | m+1,q=>B (lpB B m) q
def pceK{P R:Type}(n:Nat)(outs:List<|Out P)(lx lr:List Bool)(e:ES R outs)(x:AExit)(S:TS): Option R:=match x with
 | .ret=>findX n .ret ⟨maskT lr S.tm,S.hp⟩ outs e
 | x=>findX n x ⟨maskT lx S.tm,S.hp⟩ outs e
def OKs(sp:LSp): Prop:=∀p q,∀o∈sp.outs,OKo sp p q o
def altL(E:XE)(i:Nat): List LSp:=match look i E.ls with
 | some l=>l
 | none=>[]
variable [GlobT](P:Program)(T:List AFun)(N fl:Nat)
inductive LOK: ACode->LSp->Prop
 | loop (lx lr live:List Bool) (tr tr':Bool) (b:ACode) (sp:LSp) (E:XE) (B:Nat->sp.ins.P->(sp.ins.V->Option (SumO sp.outs))->EP (SumO sp.outs) sp.outs->sp.ins.V->Option (SumO sp.outs)) :
  EOK P T E->E.nt=N->E.fl=fl->(∀(j:Nat) (c:ACode) (s:LSp),(lpsOf b)[j]?=some c->s∈altL E j->LOK c s)->
  OKs sp->kpL (.mask lx lr tr (.loop (some live) tr' b)) sp.kt=true->
  (∀n p q,sp.F n p q=lpB (λk q=>B n p k (injE sp.outs id) q) n q)->
  (∀n φ p q k e,exC E n b 0 (sp.ins.mkG sp.ins.os.length φ p q) (rndK sp.ins sp.outs live tr' lx lr tr sp.ins.os.length k e)=B n p (k (sp.ins.fo.map φ) p) (fixE (sp.ins.fo.map φ) p e) q)->
  LOK (.mask lx lr tr (.loop (some live) tr' b)) sp
 | told (li lx lr:List Bool) (b:ACode) (sp:LSp) (E:XE) (B:Nat->sp.ins.P->EP (SumO sp.outs) sp.outs->sp.ins.V->Option (SumO sp.outs)) :
  EOK P T E->E.nt=N->E.fl=fl->(∀(j:Nat) (c:ACode) (s:LSp),(lpsOf b)[j]?=some c->s∈altL E j->LOK c s)->
  OKs sp->kpL (.told li lx lr b) sp.kt=true->
  (∀n p q,sp.F n p q=B n p (injE sp.outs id) q)->
  (∀n φ p q e,exC E n b 0 (sp.ins.mkG sp.ins.os.length φ p q) (pceK sp.ins.os.length sp.outs lx lr e)=B n p (fixE (sp.ins.fo.map φ) p e) q)->
  LOK (.told li lx lr b) sp
open Classical in
noncomputable def mkE{P R:Type}(f:List AObj)(p:P): (l:List (Out P))->(SumO l->R)->ES R l
 | [],_=>()
 | [o],g=>(λf' p' t=>if f'=f∧p'=o.pr p then some (g t) else none,())
 | o::o'::r,g=>(λf' p' t=>if f'=f∧p'=o.pr p then some (g (.inl t)) else none,mkE f p (o'::r) λs=>g (.inr s))
theorem fix_mk{P R:Type}(f:List AObj)(p:P): ∀(l:List<|Out P) (g:SumO l->R),fixE f p (mkE f p l g)=injE l g
 | [],_=>rfl
 | [o],g=>by simp only[mkE,fixE,injE,and_self,if_pos];rfl
 | o::c::r,g=>by
  have d:=fix_mk f p (c::r) λs=>g<|.inr s;have e:∀(a:List AObj->o.lay.P->o.lay.V->Option R) (b:ES R (c::r)),fixE f p (l:=o::c::r) (a,b)=(λt=>a f (o.pr p) t,fixE f p (l:=c::r) b):=λ_ _=>rfl;rw[mkE,e,d];simp only[and_self,if_pos,injE];rfl
theorem find_ok{P R:Type}{n:Nat}{f:List AObj}{p:P}{x:AExit}{S:TS}{y:R}: ∀{l:List<|Out P} {g:SumO l->R},findX n x S l (mkE f p l g)=some y->∃t,y=g t∧AllO (λo t=>sameX o.x x=true∧o.lay.getF n S=some (f,o.pr p,t)) l t
 | [],g,h=>by cases h
 | [o],g,h=>by
  simp only[findX,mkE] at h;split at h
  ·rename_i c;split at h
   ·rename_i i p' t a;split at h
    ·rename_i e;cases h;exact⟨t,rfl,c,by rw[a,e.1,e.2]⟩
    ·cases h
   ·cases h
  ·cases h
 | o::b::r,g,h=>by
  have d:findX n x S (b::r) (mkE f p (b::r) λs=>g<|.inr s)=some y->∃t,y=g t∧AllO (λo t=>sameX o.x x=true∧o.lay.getF n S=some (f,o.pr p,t)) (o::b::r) t:=by
   intro h;let⟨t,k,j⟩:=find_ok h;exact⟨.inr t,k,j⟩
  rw[findX] at h;split at h
  ·rename_i c;split at h
   ·rename_i i p' t a;simp only[mkE] at h;split at h
    ·rename_i e;cases h;exact⟨.inl t,rfl,c,by rw[a,e.1,e.2]⟩
    ·cases h
   ·exact d h
  ·exact d h
theorem sameX_eq{x y:AExit}(h:sameX x y=true): x=y:=by
 cases x<;>cases y<;>first | rfl | cases h | exact congrArg _ (Nat.eq_of_beq_eq_true h)
variable {P T N fl}{R:Type}
theorem try_ok{n:Nat}{b:Bool}{e:TT}{S:TS}{K:AExit->TS->Option R}{r:R}: ∀{l:List LSp},tryL n b e S K l=some r->∃sp∈l,∃p q,sp.ins.fit S=some (p,q)∧lstB (sp.kl++sp.ins.fo) 0 S.hp (sp.ins.mk' p q).hp=true∧swO p b sp.outs (sp.F n p q) (λx g=>K x<|aft sp e S.hp x g)=some r
 | [],h=>by cases h
 | sp::l,h=>by
  simp only[tryL] at h;split at h
  ·rename_i p q i;split at h
   ·rename_i f;exact⟨sp,List.mem_cons_self,p,q,i,f,h⟩
   ·let⟨a,d,c⟩:=try_ok h;exact⟨a,List.mem_cons_of_mem _ d,c⟩
  ·let⟨a,d,c⟩:=try_ok h;exact⟨a,List.mem_cons_of_mem _ d,c⟩
theorem alt_in{E:XE}{i:Nat}{l:List LSp}{sp:LSp}(h:look i E.ls=some l)(a:sp∈l): sp∈altL E i:=by
 unfold altL;rw[h];exact a
theorem set_same{α:Type}{l:List α}{t:Nat}{a:α}(h:l[t]?=some a): l.set t a=l:=by
 apply List.ext_getElem?;intro i;by_cases c:t=i
 ·subst c;rw[List.getElem?_set_self (List.getElem?_eq_some_iff.1 h).1,h]
 ·rw[List.getElem?_set_ne c]
theorem frz_ok{E:XE}{t k:Nat}{S:TS}{st:St}{K:TS->Option R}{r:R}{cf:CF}(c:Qt N S st)(h:frzX E t k S K=some r):
 ∃v g j,evOp P cf E.fl (.freeze<|.tmp t) st.tmps st.heap=some (v,g)∧Qt N j ⟨st.tmps.set t v,g⟩∧K j=some r:=by
 unfold frzX at h;split at h
 ·rename_i v F;let⟨a,i,q⟩:=c.tm _ _ F;have B:t<N:=by rw[←c.ln];exact (List.getElem?_eq_some_iff.1 i).1
  have f:(∀id x y z,a≠.ms id x y z)->(∀id x y z,a≠.ptr id x y z)->K S=some r->∃v g j,evOp P cf E.fl (.freeze<|.tmp t) st.tmps st.heap=some (v,g)∧Qt N j ⟨st.tmps.set t v,g⟩∧K j=some r:=by
   intro H I M;refine⟨a,st.heap,S,?_,by rw[set_same i];exact c,M⟩;simp only[evOp,getOpd,i];try (split<;>first | (rename_i e;exact absurd rfl<|H _ _ _ _) | (rename_i e;exact absurd rfl<|I _ _ _ _) | rfl)
  split at h
  ·rename_i id m;split at h
   ·cases h
   ·rename_i b;have b:=Nat.le_of_ble_eq_true b;split at h
    ·rename_i o d;split at h
     ·rename_i k l;let⟨es,w,n⟩:=c.hp.lst d;have s:=gone_ok c (List.getElem?_eq_some_iff.1 d).1<|.blk (cds k).length<|es++[List.replicate (cds k).length .undef];have T:=q.mw d;refine⟨.sl false<|((es.drop (wOf l m).1).take (wOf l m).2).map λe=>e.map toP,_,_,?_,s.put B<|.p _ _<|Qp.mkS (.inr ⟨_,rfl⟩)<|mild_toP.ls<|by rw[win_all];exact (n.drop _).take _,h⟩;simp only[evOp,getOpd,i,T,b,if_true,w,n.len]
     ·cases h
    ·cases h
  ·rename_i id off;split at h
   ·split at h
    ·cases h
    ·rename_i b;have b:=Nat.le_of_ble_eq_true b;split at h
     ·rename_i o d;split at h
      ·rename_i cs;split at h
       ·rename_i x G;let⟨e,w,n⟩:=c.hp.box d;have s:=gone_ok c (List.getElem?_eq_some_iff.1 d).1<|.blk cs.length<|[e]++[List.replicate cs.length .undef];refine⟨.sptr<|e.map toP,_,_,?_,s.put B<|.p _ _<|Qp.mkP<|mild_toP.r<|rdRow0 G n,h⟩;simp only[evOp,getOpd,i,q.ptr1,b,if_true,w,List.length_singleton,List.getElem?_cons_zero,List.drop_zero]
       ·cases h
      ·cases h
     ·cases h
   ·cases h
  ·cases h
  ·cases h
  ·cases h
  ·cases h
  ·rename_i A O X D C J;refine f (λid x y z e=>?_) (λid x y z e=>?_) h
   ·subst e;cases q with
    | p _ _ q=>cases q<;>simp_all
    | ms=>exact A _ _ rfl
    | msn=>exact A _ _ rfl
    | rs=>exact J _ _ rfl
   ·subst e;cases q with
    | p _ _ q=>cases q<;>simp_all
    | ptr=>exact O _ _ rfl
    | pel=>exact D _ _ _ rfl
    | rel=>exact C _ _ _ _ rfl
 ·cases h
theorem unr_ok{a:TS->(AExit->TS->Option R)->Option R}{ev:St->Option (AExit×St)}{o:TS->TS}{he:St->St}{K:AExit->TS->Option R}{r:R}(p:∀S st (K:AExit->TS->Option R) r,Qt N S st->a S K=some r->∃x st' c,ev st=some (x,st')∧Qt N c st'∧K x c=some r)(n:∀S st,Qt N S st->Qt N (o S) (he st)):
 ∀(m lf:Nat) (S:TS) (st:St),m≤lf->Qt N S st->unrT a o m S K=some r->∃x st' c,evLoop he ev lf st=some (x,st')∧x≠.normal∧Qt N c st'∧K x c=some r
 | 0,_,_,_,_,_,h=>by cases h
 | m+1,0,_,_,y,_,_=>by omega
 | m+1,lf+1,S,st,y,v,h=>by
  simp only[unrT] at h;let⟨x,b,k,f,l,i⟩:=p _ _ _ _ (n S st v) h;cases x with
  | normal=>
   let⟨x,g,w,u,t⟩:=unr_ok p n m lf k b (by omega) l i;exact⟨x,g,w,by simp only[evLoop,f];exact u,t⟩
  | exit j=>exact⟨_,b,k,by simp only[evLoop,f],(by intro e;cases e),l,i⟩
  | ret=>exact⟨_,b,k,by simp only[evLoop,f],(by intro e;cases e),l,i⟩
def ExOK(P:Program)(T:List AFun)(N fl:Nat)(c:ACode): Prop:=∀{R:Type} {E:XE} {n i:Nat} {S:TS} {st:St} {K:AExit->TS->Option R} {r:R},EOK P T E->E.nt=N->E.fl=fl->
 (∀(j:Nat) (c':ACode) (s:LSp),(lpsOf c)[j]?=some c'->s∈altL E (i+j)->LOK P T N fl c' s)->Qt N S st->exC E n c i S K=some r->
 ∃x st' S',evC P (evF P T n) n fl c st=some (x,st')∧Qt N S' st'∧K x S'=some r
def LpOK(P:Program)(T:List AFun)(N fl:Nat)(c:ACode): Prop:=match c with
 | .loop _ _ b=>ExOK P T N fl b
 | _=>True
open Classical in
theorem told_ok{li lx lr:List Bool}{b:ACode}(ihb:ExOK P T N fl b): ExOK P T N fl (.told li lx lr b):=by
 intro _ E n i S st K r hE hN hFl hL hs h
 simp only[exC] at h
 split at h
 ·cases h
 rename_i hfn
 have hfn:fl≤st.heap.length:=by rw[hs.hp.ln,←hFl];exact Nat.le_of_ble_eq_true hfn
 split at h
 ·rename_i l hl
  obtain⟨sp,hsp,p,q,hg,hlb,h⟩:=try_ok h
  ·have hl:=hL 0 _ sp rfl (alt_in hl hsp)
   cases hl with
   | told _ _ _ _ _ E' B hE' hN' hFl' hL' hok hkt hF hB=>
    obtain⟨t,ht,hall⟩:=sw_ok h
    obtain⟨φ,hφ⟩:∃φ:Nat->AObj,∀i b,st.heap[i]?=some b->b=φ i:=⟨λi=>(st.heap[i]?).getD default,λi b hb=>by show b=(st.heap[i]?).getD default;rw[hb];rfl⟩
    rw[hF,←fix_mk (sp.ins.fo.map φ) p,←hB _ φ] at ht
    have hs1:=mask_ok hs li
    have h0:=fit_ok (n:=sp.ins.os.length) (φ:=φ) hg hs1 λi hi b hb=>by rw[hφ i b hb];exact .r _
    obtain⟨x,st1,S1,h1,h2,h3⟩:=ihb hE' hN' hFl' (λj c' s hj hs=>hL' j c' s hj (by simpa using hs)) h0 ht
    have hlen:sp.ins.os.length=st.heap.length:=(get_len (fit_get hg).1).symm.trans hs1.hp.len.symm
    have fin:∀S2 st2,Qt N S2 st2->maskR lx lr false fl st.heap.length (some (x,st1))=some (x,st2)->findX sp.ins.os.length x S2 sp.outs (mkE (sp.ins.fo.map φ) p sp.outs id)=some t->∃x st' S',evC P (evF P T n) n fl (.told li lx lr b) st=some (x,st')∧Qt N S' st'∧K x S'=some r:=by
     intro S2 st2 hq hm hf
     obtain⟨t',e,hall'⟩:=find_ok hf
     cases e
     obtain⟨o,ho,u,⟨g1,g2⟩,g3⟩:=AllO.two hall' hall
     have ex:=sameX_eq g1
     have he:evC P (evF P T n) n fl (.told li lx lr b) st=some (o.x,st2):=by
      simp only[evC,h1,ex]
      exact hm
     have hoo:=hok p q o ho
     rw[←hoo.fo] at g2
     refine⟨o.x,st2,_,he,aft_ok hs hs1 rfl (λ_ _ _ h=>h) hg hlb (λi _ b hb=>hφ i b hb) hoo (getF_ok g2 hq) λhx u hu=>?_,g3⟩
     exact kpt_ok (evF_fl P T hE.fo n) (by rw[hlen];exact hfn) _ _ _ _ (kpL_ok hkt u hu) (by rw[hlen];exact Nat.le_refl _) he hx
    cases x with
    | ret=>exact fin _ _ (mask_ok h2 lr) rfl h3
    | normal=>exact fin _ _ (mask_ok h2 lx) rfl h3
    | exit j=>exact fin _ _ (mask_ok h2 lx) rfl h3
 ·cases h
open Classical in
theorem mask_okC{lx lr:List Bool}{tr:Bool}{c:ACode}(ihb:LpOK P T N fl c): ExOK P T N fl (.mask lx lr tr c):=by
 intro _ E n i S st K r hE hN hFl hL hs h
 unfold exC at h
 split at h
 ·cases h
 rename_i hfn
 have hfn:fl≤st.heap.length:=by rw[hs.hp.ln,←hFl];exact Nat.le_of_ble_eq_true hfn
 split at h
 ·rename_i live tr' b
  split at h
  ·cases h
  rename_i live
  split at h
  ·rename_i m hm
   obtain⟨_,hg,h⟩:=bnd_some h
   have hmn:=Nat.le_of_ble_eq_true (grd_some hg)
   obtain⟨x,st',S',h1,h2,h3,h4⟩:=unr_ok (ev:=λst=>evC P (evF P T n) n fl b st) (he:=headSt (some live) tr' fl st.heap.length) (λS st K r hs h=>ihb hE hN hFl (λj c' s hj hs=>hL (1+j) c' s (by
    simp only[lpsOf,List.getElem?_cons_succ,Nat.add_comm 1 j];exact hj) (by rw[←Nat.add_assoc];exact hs)) hs h) (λS' st' hs'=>by rw[hs.hp.ln];exact head_ok hs' live tr' _ (by rw[←hs.hp.ln];exact hfn)) m n S st hmn hs h
   cases x with
   | normal=>exact (h2 rfl).elim
   | ret=>exact⟨.ret,_,_,by simp only[evC,h1,maskR],mask_ok h3 lr,h4⟩
   | exit j=>exact⟨.exit j,headSt (some lx) tr fl st.heap.length st',headT lx tr S.hp.length S',by simp only[evC,h1,maskR],by rw[hs.hp.ln];exact head_ok h3 lx tr _ (by rw[←hs.hp.ln];exact hfn),h4⟩
  ·split at h
   ·rename_i l hl
    obtain⟨sp,hsp,p,q,hg,hlb,h⟩:=try_ok h
    have hl:=hL 0 _ sp rfl (alt_in hl hsp)
    cases hl with
    | loop _ _ _ _ _ _ _ E' B hE' hN' hFl' hL' hok hkt hF hB=>
     have hs1:=head_ok hs live tr' S.hp.length (by rw[←hs.hp.ln];exact hfn)
     have hle:(headT live tr' S.hp.length S).hp.length=S.hp.length:=by
      cases tr' with
      | true=>simp[headT]
      | false=>rfl
     have hlen:sp.ins.os.length=st.heap.length:=by
      rw[←get_len (fit_get hg).1,hle,hs.hp.ln]
     obtain⟨t,ht,hall⟩:=sw_ok h
     rw[hF] at ht
     generalize hst1:headSt (some live) tr' fl S.hp.length st=st0 at hs1
     obtain⟨φ,hφ⟩:∃φ:Nat->AObj,∀i b,st0.heap[i]?=some b->b=φ i:=⟨λi=>(st0.heap[i]?).getD default,λi b hb=>by show b=(st0.heap[i]?).getD default;rw[hb];rfl⟩
     have h0:=fit_ok (n:=sp.ins.os.length) (φ:=φ) hg hs1 λi hi b hb=>by rw[hφ i b hb];exact .r _
     have run:∀m q st1,Qt N (sp.ins.mkG sp.ins.os.length φ p q) (headSt (some live) tr' fl st.heap.length st1)->lpB (λk q=>B n p k (injE sp.outs id) q) m q=some t->
      ∃x st2,evLoop (headSt (some live) tr' fl st.heap.length) (λst=>evC P (evF P T n) n fl b st) m st1=some (x,st2) ∧
       ∃S3 st3,Qt N S3 st3∧maskR lx lr tr fl st.heap.length (some (x,st2))=some (x,st3)∧findX sp.ins.os.length x S3 sp.outs (mkE (sp.ins.fo.map φ) p sp.outs id)=some t:=by
      intro m
      induction m with
      | zero=>intro q st1 _ h;cases h
      | succ m ih=>
       intro q st1 hq hr
       simp only[lpB] at hr
       have e:=hB n φ p q (λf' p' q'=>if f'=sp.ins.fo.map φ∧p'=p then lpB (λk q=>B n p k (injE sp.outs id) q) m q' else none) (mkE (sp.ins.fo.map φ) p sp.outs id)
       simp only[and_self,if_pos,fix_mk] at e
       rw[←e] at hr
       obtain⟨x,st2,S2,g1,g2,g3⟩:=ihb hE' hN' hFl' (λj c' s hj hs=>hL' j c' s hj (by simpa using hs)) hq hr
       cases x with
       | normal=>
        simp only[rndK] at g3
        split at g3
        ·rename_i f' p' q' hg'
         split at g3
         ·rename_i ep
          obtain⟨rfl,rfl⟩:=ep
          have g4:=getF_ok hg' (head_ok g2 live tr' sp.ins.os.length (by rw[hlen];exact hfn))
          rw[hlen] at g4
          obtain⟨x,st3,k1,k2⟩:=ih q' st2 (by rw[hlen];exact g4) g3
          exact⟨x,st3,by simp only[evLoop,g1];exact k1,k2⟩
         ·cases g3
        ·cases g3
       | ret=>
        refine⟨.ret,st2,by simp only[evLoop,g1],_,_,mask_ok g2 lr,rfl,g3⟩
       | exit j=>
        refine⟨.exit j,st2,by simp only[evLoop,g1],_,_,?_,rfl,g3⟩
        have:=head_ok g2 lx tr sp.ins.os.length (by rw[hlen];exact hfn)
        rw[hlen] at this ⊢
        exact this
     obtain⟨x,st2,g1,S3,st3,g2,g3,g4⟩:=run n q st (by rw[show headSt (some live) tr' fl st.heap.length st=st0 from by rw[hs.hp.ln];exact hst1];exact h0) ht
     obtain⟨t',e,hall'⟩:=find_ok g4
     cases e
     obtain⟨o,ho,u,⟨k1,k2⟩,k3⟩:=AllO.two hall' hall
     have ex:=sameX_eq k1
     have he:evC P (evF P T n) n fl (.mask lx lr tr (.loop (some live) tr' b)) st=some (o.x,st3):=by
      simp only[evC,g1,ex]
      exact g3
     have hoo:=hok p q o ho
     rw[←hoo.fo] at k2
     refine⟨o.x,st3,_,he,aft_ok hs hs1 hle (λi k l hi=>?_) hg hlb (λi _ b hb=>hφ i b hb) hoo (getF_ok k2 g2) λhx u hu=>?_,k3⟩
     ·cases tr' with
      | true=>exact hp_take (List.getElem?_eq_some_iff.1 hi).1 hi
      | false=>exact hi
     ·exact kpt_ok (evF_fl P T hE.fo n) (by rw[hlen];exact hfn) _ _ _ _ (kpL_ok hkt u hu) (by rw[hlen];exact Nat.le_refl _) he hx
   ·cases h
 ·cases h
theorem exC_all: ∀(c:ACode),ExOK P T N fl c∧LpOK P T N fl c
 | .skip=>⟨(by
  intro _ E n i S st K r k m d q f h;exact⟨_,st,S,rfl,f,h⟩),trivial⟩
 | .exit id=>⟨(by
  intro _ E n i S st K r k m d q f h;exact⟨_,st,S,rfl,f,h⟩),trivial⟩
 | .ret=>⟨(by
  intro _ E n i S st K r k m d q f h;exact⟨_,st,S,rfl,f,h⟩),trivial⟩
 | .region _ ck ops=>⟨(by
  intro _ E n i S st K r k m d q f h;simp only[exC] at h;let⟨st',H,o,u,p⟩:=reg_t m k f h;rw[d] at o;exact⟨_,st',H,by simp only[evC,o],u,p⟩),trivial⟩
 | .seq a b=>⟨(by
  intro _ E n i S st K r k m d q f h;simp only[exC] at h;let⟨x,g,y,o,u,p⟩:=(exC_all a).1 k m d (λj c' s z f=>q j c' s (by
   simp only[lpsOf];rw[List.getElem?_append_left (List.getElem?_eq_some_iff.1 z).1];exact z) f) f h
  split at p
  ·let⟨x,D,W,Q,M,U⟩:=(exC_all b).1 k m d (λj c' s z f=>q (nLp a+j) c' s (by
    simp only[lpsOf,nLp_eq];rw[List.getElem?_append_right<|Nat.le_add_right _ _,Nat.add_sub_cancel_left];exact z)<|by rw[←Nat.add_assoc];exact f) u p
   exact⟨x,D,W,by simp only[evC,o,Q],M,U⟩
  ·rename_i F;refine⟨x,g,y,?_,u,p⟩;cases x with
   | normal=>exact (F rfl).elim
   | exit=>simp only[evC,o]
   | ret=>simp only[evC,o]),trivial⟩
 | .cond c a b=>⟨(by
  intro _ E n i S st K r k m d q f h;simp only[exC] at h;split at h
  ·rename_i t;split at h
   ·rename_i v G;split at h
    ·split at h
     ·rename_i w;let⟨Z,I,Y⟩:=f.tm _ _ G;have R:=Y.inL;subst R;rcases cnd_or h with⟨rfl,h⟩ | ⟨rfl,h⟩
      ·let⟨x,g,y,o,u,p⟩:=(exC_all a).1 k m d (λj c' s z f=>q j c' s (by
        simp only[lpsOf];rw[List.getElem?_append_left (List.getElem?_eq_some_iff.1 z).1];exact z) f) (setB_ok f G) h
       exact⟨x,g,y,by simp only[evC,getOpd,I,o],u,p⟩
      ·let⟨x,g,y,o,u,p⟩:=(exC_all b).1 k m d (λj c' s z f=>q (nLp a+j) c' s (by
        simp only[lpsOf,nLp_eq];rw[List.getElem?_append_right<|Nat.le_add_right _ _,Nat.add_sub_cancel_left];exact z)<|by rw[←Nat.add_assoc];exact f) (setB_ok f G) h
       exact⟨x,g,y,by simp only[evC,getOpd,I,o],u,p⟩
     ·cases h
    ·cases h
   ·cases h
  ·cases h),trivial⟩
 | .block id c=>⟨(by
  intro _ E n i S st K r k m d q f h;simp only[exC] at h;let⟨x,g,y,o,u,p⟩:=(exC_all c).1 k m d q f h;split at p
  ·rename_i j;split at p
   ·rename_i e;have e:=Nat.eq_of_beq_eq_true e;exact⟨.normal,g,y,by simp only[evC,o,e,if_true],u,p⟩
   ·rename_i e;have e:=Nat.ne_of_beq_eq_false e;exact⟨.exit j,g,y,by simp only[evC,o];rw[if_neg e],u,p⟩
  ·rename_i F;refine⟨x,g,y,?_,u,p⟩;cases x with
   | normal=>simp only[evC,o]
   | exit j=>exact (F _ rfl).elim
   | ret=>simp only[evC,o]),trivial⟩
 | .scope c=>⟨(by
  intro _ E n i S st K r k m d q f h;simp only[exC] at h;let⟨x,g,y,o,u,p⟩:=(exC_all c).1 k m d q f h;exact⟨x,g,y,by simp only[evC,o],u,p⟩),trivial⟩
 | .told li L J b=>⟨told_ok (exC_all b).1,trivial⟩
 | .mask L J tr c=>⟨mask_okC (exC_all c).2,trivial⟩
 | .frz t c=>⟨(by
  intro _ E n i S st K r k m d q f h;simp only[exC] at h;let⟨v,A',H,o,u,p⟩:=frz_ok (P:=P) (cf:=evF P T n) f h;let⟨x,g,y,V,O,X⟩:=(exC_all c).1 k m d q u p;rw[d] at o;exact⟨x,g,y,by simp only[evC,o,V],O,X⟩),trivial⟩
 | .loop l t b=>⟨(by
  intro _ E n i S st K r k m d q f h;cases h),(exC_all b).1⟩
 | .nilIf _ _ _ _ _=>⟨(by
  intro _ E n i S st K r k m d q f h;cases h),trivial⟩
 | .loopV _ _ _ _ _=>⟨(by
  intro _ E n i S st K r k m d q f h;cases h),trivial⟩
 | .stop=>⟨(by
  intro _ E n i S st K r k m d q f h;cases h),trivial⟩
theorem exC_ok(c:ACode): ExOK P T N fl c:=(exC_all c).1
theorem AllO.imp{P:Type}{Q b:(o:Out P)->o.lay.V->Prop}: ∀{l:List<|Out P} {t:SumO l},(∀o∈l,∀t,Q o t->b o t)->AllO Q l t->AllO b l t
 | [],t,_,_=>t.elim
 | [o],t,h,k=>h o List.mem_cons_self t k
 | o::a::r,.inl t,h,k=>h o List.mem_cons_self t k
 | o::a::r,.inr t,h,k=>AllO.imp (l:=a::r) (λo c=>h o<|List.mem_cons_of_mem _ c) k
end
section
variable [RowT][GlobT]{P:Program}{T:List AFun}{N fl:Nat}{S:TS}{st:St}{H:TH}
theorem ret_ok(f:Qt N S st): ∀{rs:List ARes} {vs:List TV},retT S rs=some vs->∃aw,retsA st rs=some aw∧Qc S.hp vs aw
 | [],vs,h=>by cases h;exact⟨[],rfl,trivial⟩
 | r::rs,vs,h=>by
  simp only[retT] at h;split at h
  ·cases h
  ·rename_i v g;let⟨aw,i,k⟩:=ret_ok f g;split at h
   ·rename_i t;cases h;exact⟨getOpd st.tmps (.tmp t)::aw,by simp only[retsA,evRet,i],f.get<|.tmp t,k⟩
   ·rename_i t n agg;have q:=f.get<|.tmp t;split at h
    ·rename_i id off u;rw[u] at q;have q:=q.ptr1;split at h
     ·rename_i o m;split at h
      ·rename_i cs;let⟨es,p,l⟩:=f.hp.box m;split at h
       ·rename_i j;have j:=Nat.le_of_ble_eq_true j;have d:=(l.drop off).take n;have a:ldCells st.heap (getOpd st.tmps<|.tmp t) n=some ((es.drop off).take n):=by
         rw[q];have:off+n≤es.length:=by rw[l.len];exact j
         simp[ldCells,p,this]
        split at h
        ·cases h;exact⟨.agg ((es.drop off).take n)::aw,by simp only[retsA,evRet,a,if_true,i],Qh.mkA d,k⟩
        ·split at h
         ·rename_i c s;cases h;rw[s] at d;generalize he:(es.drop off).take n=e at d a;match e,d with
          | [b],d=>exact⟨b::aw,by simp only[retsA,evRet,a,Bool.false_eq_true,if_false,i],d.1,k⟩
         ·cases h
       ·cases h
      ·cases h
     ·cases h
    ·cases h
theorem tvs_len: ∀{l:List Sh} {p:PrT l},(tvs l p).length=l.length
 | [],_=>rfl
 | _::r,p=>by simp[tvs,tvs_len]
structure Con(P:Program)(T:List AFun) where
 vi:Nat
 c:CSp
 ok:FOK P T vi c
def conOf: List (Con P T)->Nat->Option CSp
 | [],_=>none
 | x::r,v=>match Nat.beq x.vi v with
  | true=>some x.c
  | false=>conOf r v
theorem conOf_ok: ∀{l:List<|Con P T} {vi:Nat} {c:CSp},conOf l vi=some c->FOK P T vi c
 | x::r,vi,c,h=>by
  simp only[conOf] at h;split at h
  ·rename_i e;have e:=Nat.eq_of_beq_eq_true e;cases h;rw[←e];exact x.ok
  ·exact conOf_ok h
theorem eqOK_of{k:Nat}{t:TypeId}(r:keyC (cds k)=true)(d:ag k=true)(c:∀a b:den k,Decidable<|a=b)(g:∀x y,pureRun P (eqGuard .eql t (.tmp 0) (.tmp 0) (kval k x)<|kval k y)=some ()∧pureRun P (eqGuard .neq t (.tmp 0) (.tmp 0) (kval k x)<|kval k y)=some ())(e:∀x y,pureRun P (Op.equal t (kval k x)<|kval k y)=some (@decide (x=y)<|c x y)): EqOK P t ⟨k,c⟩:=by
 intro cf fl H x y aw u s q;have m:∀{x:den k} {aw:List AV},Qr (cel k x) aw->lits (.agg aw)=some (kval k x):=by
  intro x aw h;unfold cel at h;rw[key_lit r] at h;simp only[lits,lits_Qr h,kval,d]
 have e:=e x y;have g:=g x y;have i:=m s;have l:=m q;have p:∀x,∃a,kval k x=.agg a:=λx=>⟨(kvC (cds k)<|RowT.un k x).toArray,by simp only[kval,d]⟩;let⟨a,o⟩:=p x;let⟨b,n⟩:=p y;rw[o,n] at e g;rw[o] at i;rw[n] at l;constructor
 ·have:pureRun P (binOp .eql t (.agg a)<|.agg b)=some (.bool<|@decide (x=y)<|c x y):=by
   simp only[binOp,pureRun_bind,e,Option.bind_some,pureRun_pure]
  simp only[d,unrow,evOp,getOpd,List.getElem?_cons_zero,List.getElem?_cons_succ,i,l,notNil,if_true,g.1,this]
 ·have:pureRun P (binOp .neq t (.agg a)<|.agg b)=some (.bool<|!@decide (x=y) (c x y)):=by
   simp only[binOp,pureRun_bind,e,Option.bind_some,pureRun_pure]
  simp only[d,unrow,evOp,getOpd,List.getElem?_cons_zero,List.getElem?_cons_succ,i,l,notNil,if_true,g.2,this]
theorem eqOK_b{k:Nat}{t:TypeId}{c:∀a b:den k,Decidable<|a=b}(l:ag k=false)(f:den k->Bool)(j:∀x,cel k x=[.lit<|.bool<|f x])(h:∀(cf:CF) (fl:Nat) (H:Heap) (x y:den k),
 evOp P cf fl (.bin .eql t (.tmp 0)<|.tmp 1) [.lit<|.bool<|f x,.lit<|.bool<|f y] H=some (bv<|@decide (x=y)<|c x y,H)∧evOp P cf fl (.bin .neq t (.tmp 0)<|.tmp 1) [.lit<|.bool<|f x,.lit<|.bool<|f y] H=some (bv<|!@decide (x=y) (c x y),H)): EqOK P t ⟨k,c⟩:=by
 intro cf fl H x y aw m i g;have e:∀{x:den k} {aw:List AV},Qr (cel k x) aw->aw=[.lit<|.bool<|f x]:=by
  intro x aw h;rw[j] at h;match aw,h with
  | [a],h=>rw[(Qh.p (H:=[]) _ _ h.1).inL]
 rw[e i,e g];simp only[l,unrow];exact h cf fl H x y
structure Glb(P:Program)(T:List AFun) where
 eq:List ((t:TypeId)×{e:EqS // EqOK P t e})
 km:List ((t:TypeId)×{e:KeyS // KOK P t e})
 st:List {t:TypeId // StOK P t}
 cv:List ((s:TypeId×TypeId)×{k:IntKind // CvOK P s.1 s.2 k})
 pr:List ((vi:Nat)×{p:PSp // POK T vi p})
 fo:∀cf,FlOK cf->FlOK (primF cf)
def asg{α:Nat->Type}{β:Type}(f:∀i,α i->β): List ((i:Nat)×α i)->Nat->Option β
 | [],_=>none
 | x::r,v=>match Nat.beq x.1 v with
  | true=>some<|f x.1 x.2
  | false=>asg f r v
theorem asg_ok{α:Nat->Type}{β:Type}{f:∀i,α i->β}{Q:Nat->β->Prop}(h:∀i x,Q i<|f i x): ∀{l:List<|(i:Nat)×α i} {v:Nat} {b:β},asg f l v=some b->Q v b
 | x::r,v,b,e=>by
  simp only[asg] at e;split at e
  ·rename_i a;have a:=Nat.eq_of_beq_eq_true a;cases e;rw[←a];exact h _ _
  ·exact asg_ok h e
def stB: List {t:TypeId // StOK P t}->TypeId->Bool
 | [],_=>false
 | x::r,t=>match Nat.beq x.1 t with
  | true=>true
  | false=>stB r t
theorem stB_ok: ∀{l:List {t:TypeId // StOK P t}} {t:TypeId},stB l t=true->StOK P t
 | x::r,t,h=>by
  simp only[stB] at h;split at h
  ·rename_i e;have e:=Nat.eq_of_beq_eq_true e;rw[←e];exact x.2
  ·exact stB_ok h
def cvB: List ((s:TypeId×TypeId)×{k:IntKind // CvOK P s.1 s.2 k})->TypeId->TypeId->Option IntKind
 | [],_,_=>none
 | x::r,s,t=>match Nat.beq x.1.1 s with
  | true=>match Nat.beq x.1.2 t with
   | true=>some x.2.1
   | false=>cvB r s t
  | false=>cvB r s t
theorem cvB_ok: ∀{l:List<|(s:TypeId×TypeId)×{k:IntKind // CvOK P s.1 s.2 k}} {s t:TypeId} {k:IntKind},cvB l s t=some k->CvOK P s t k
 | x::r,s,t,k,h=>by
  simp only[cvB] at h;split at h
  ·rename_i e;have e:=Nat.eq_of_beq_eq_true e;split at h
   ·rename_i a;have a:=Nat.eq_of_beq_eq_true a;cases h;rw[←e,←a];exact x.2.2
   ·exact cvB_ok h
  ·exact cvB_ok h
structure LC(P:Program)(T:List AFun)(N fl:Nat)(c:ACode) where
 s:LSp
 ok:LOK P T N fl c s
structure IC(P:Program)(T:List AFun) where
 s:ISp
 ok:IOK P T s
def lpA(b:ACode)(j:Nat): ACode:=match (lpsOf b)[j]? with
 | some c=>c
 | none=>.skip
structure En(P:Program)(T:List AFun)(N fl:Nat)(b:ACode) where
 C:List (Con P T)
 kd:List (Nat×Nat)
 ls:List ((j:Nat)×List (LC P T N fl (lpA b j)))
 un:List (Nat×Nat)
 il:List (IC P T)
def lsOf{b:ACode}: List ((j:Nat)×List (LC P T N fl<|lpA b j))->List (Nat×List LSp)
 | []=>[]
 | x::r=>(x.1,x.2.map (·.s))::lsOf r
def En.xe{b:ACode}(G:Glb P T)(e:En P T N fl b): XE:=⟨conOf e.C,asg (λ_ x=>x.1) G.eq,asg (λ_ x=>x.1) G.km,stB G.st,cvB G.cv,asg (λ_ x=>x.1) G.pr,e.kd,lsOf e.ls,e.un,e.il.map (·.s),N,fl⟩
theorem En.ok{b:ACode}(G:Glb P T)(e:En P T N fl b): EOK P T (e.xe G) where
 cs:=λ_ _ h=>conOf_ok h;eq:=λ_ _ h=>asg_ok (Q:=EqOK P) (λ_ x=>x.2) h;km:=λ_ _ h=>asg_ok (Q:=KOK P) (λ_ x=>x.2) h;st:=λ_ h=>stB_ok h;cv:=λ_ _ _ h=>cvB_ok h;pr:=λ_ _ h=>asg_ok (Q:=POK T) (λ_ x=>x.2) h;il:=λsp h=>by
  obtain⟨x,_,rfl⟩:=List.mem_map.1 h;exact x.ok
 fo:=G.fo
theorem En.lp{b:ACode}(G:Glb P T)(e:En P T N fl b)(j:Nat)(c:ACode)(s:LSp)(i:(lpsOf b)[j]?=some c)(m:s∈altL (e.xe G) j): LOK P T N fl c s:=by
 have g:∀(l:List<|(j:Nat)×List (LC P T N fl<|lpA b j)),s∈(match look j (lsOf l) with | some l=>l | none=>[])->LOK P T N fl c s:=by
  intro l;induction l with
  | nil=>intro h;cases h
  | cons x r k=>
   intro h;simp only[lsOf,look] at h;split at h
   ·rename_i l f;split at f
    ·rename_i e;have e:=Nat.eq_of_beq_eq_true e;cases f;obtain⟨y,_,rfl⟩:=List.mem_map.1 h;have d:∀(c':ACode) (y:LC P T N fl c'),c'=c->LOK P T N fl c y.s:=by rintro _ y rfl;exact y.ok
     exact d _ y<|by rw[e];simp[lpA,i]
    ·exact k<|by rw[f];exact h
   ·cases h
 exact g e.ls m
def consN(n:Nat): Option (List Nat)->Option (List Nat)
 | some l=>some (n::l)
 | none=>none
def chkI(kl:List Nat): Nat->TH->Option (List Nat)
 | _,[]=>some []
 | i,a::r=>match memN i kl with
  | true=>chkI kl (i+1) r
  | false=>match a with
   | .lst _ l=>consN l.length<|chkI kl (i+1) r
   | _=>chkI kl (i+1) r
def chkH(kl:List Nat): Nat->TH->TH->Option (List Nat)
 | _,[],_=>some []
 | i,a::r,s=>match s with
  | []=>none
  | b::s=>match memN i kl with
   | true=>chkH kl (i+1) r s
   | false=>match a with
    | .lst _ _=>match b with
     | .lst _ l=>consN l.length<|chkH kl (i+1) r s
     | _=>none
    | _=>chkH kl (i+1) r s
theorem chkI_some{kl:List Nat}: ∀{i:Nat} {H:TH},∃l,chkI kl i H=some l
 | i,[]=>⟨_,rfl⟩
 | i,a::r=>by
  let⟨l,h⟩:=chkI_some (kl:=kl) (i:=i+1) (H:=r);simp only[chkI,h];split
  ·exact⟨_,rfl⟩
  ·split<;>exact⟨_,rfl⟩
theorem chkH_ok{kl:List Nat}: ∀{i:Nat} {H H':TH},chkH kl i H H'=chkI kl i H->H.length≤H'.length∧∀(j k:Nat) (l:List<|den k),i+j∉kl->H[j]?=some (.lst k l)->∃(k':Nat) (c:List<|den k'),H'[j]?=some (.lst k' c)∧c.length=l.length
 | i,[],H',h=>⟨Nat.zero_le _,λj k l _ f=>by simp at f⟩
 | i,a::r,[],h=>by
  let⟨l,e⟩:=chkI_some (kl:=kl) (i:=i) (H:=a::r);rw[e] at h;cases h
 | i,a::r,b::s,h=>by
  have o:chkH kl (i+1) r s=chkI kl (i+1) r->(i∉kl->∀(k:Nat) (l:List<|den k),a=.lst k l->∃(k':Nat) (c:List<|den k'),b=.lst k' c∧c.length=l.length)->(a::r).length≤(b::s).length∧∀(j k:Nat) (l:List<|den k),i+j∉kl->(a::r)[j]?=some (.lst k l)->∃(k':Nat) (c:List<|den k'),(b::s)[j]?=some (.lst k' c)∧c.length=l.length:=by
   intro w u;let⟨t,y⟩:=chkH_ok w;refine⟨by simpa using t,λj k l f p=>?_⟩;cases j with
   | zero=>
    simp only[List.getElem?_cons_zero,Option.some.injEq] at p;let⟨k',c,e,g⟩:=u f k l p;exact⟨k',c,by rw[e];rfl,g⟩
   | succ j=>
    let⟨k',c,e,g⟩:=y j k l (by rw[Nat.add_assoc,Nat.add_comm 1];exact f) (by simpa using p);exact⟨k',c,by simpa using e,g⟩
  simp only[chkH,chkI] at h;cases n:memN i kl with
  | true=>
   rw[n] at h;exact o h λx=>by rw[memN_f x] at n;cases n
  | false=>
   rw[n] at h;simp only at h;cases a with
   | lst k l=>
    simp only at h;let⟨B,m⟩:=chkI_some (kl:=kl) (i:=i+1) (H:=r);split at h
    ·rename_i k' c;cases q:chkH kl (i+1) r s with
     | none=>rw[q,m] at h;cases h
     | some C=>
      rw[q,m] at h;simp only[consN,Option.some.injEq,List.cons.injEq] at h;exact o (by rw[q,m,h.2]) λ_ v z e=>by cases e;exact⟨_,_,rfl,h.1⟩
    ·rw[m] at h;cases h
   | _=>exact o h λ_ v z e=>by cases e
def HMa(ins:Lay)(kl:List Nat)(p:ins.P)(q:ins.V): List (Out ins.P)->Prop
 | []=>True
 | o::r=>o.lay.fo=ins.fo∧(∀t,chkH kl 0 (ins.mk' p q).hp (o.lay.mk' (o.pr p) t).hp=chkI kl 0 (ins.mk' p q).hp)∧HMa ins kl p q r
theorem HMa_ok{sp:LSp}{p:sp.ins.P}{q:sp.ins.V}: ∀{l:List<|Out sp.ins.P},HMa sp.ins sp.kl p q l->∀o∈l,OKo sp p q o
 | [],_,o,a=>by cases a
 | d::r,h,o,a=>by
  rcases List.mem_cons.1 a with rfl | a
  ·exact⟨h.1,λt j k l b c=>(chkH_ok<|h.2.1 t).2 j k l (by rw[Nat.zero_add];exact b) c,λt=>(chkH_ok<|h.2.1 t).1⟩
  ·exact HMa_ok h.2.2 o a
def mkL(G:Glb P T){c b:ACode}{lx lr live:List Bool}{tr tr':Bool}(hc:c=.mask lx lr tr (.loop (some live) tr' b))(e:En P T N fl b)(ins:Lay)(kl kt:List Nat)(outs:List<|Out ins.P)(B:Nat->ins.P->(ins.V->Option (SumO outs))->EP (SumO outs) outs->ins.V->Option (SumO outs))(h:∀n φ p q k e',exC (e.xe G) n b 0 (ins.mkG ins.os.length φ p q) (rndK ins outs live tr' lx lr tr ins.os.length k e')=B n p (k (ins.fo.map φ) p) (fixE (ins.fo.map φ) p e') q:=by intros;kernel_rfl)(hm:∀p q,HMa ins kl p q outs:=by intro _ _;repeat' first | exact trivial | refine And.intro ?_ ?_ | (intro _;kernel_rfl) | rfl)(hk:kpL c kt=true:=by kernel_rfl): LC P T N fl c:=
 ⟨⟨ins,kl,kt,outs,λn p q=>lpB (λk q=>B n p k (injE outs id) q) n q⟩,by subst hc;exact .loop _ _ _ _ _ _ _ (e.xe G) B (e.ok G) rfl rfl (e.lp G) (λp q=>HMa_ok<|hm p q) hk (λ_ _ _=>rfl) h⟩
def mkP(G:Glb P T){c b:ACode}{li lx lr:List Bool}(hc:c=.told li lx lr b)(e:En P T N fl b)(ins:Lay)(kl kt:List Nat)(outs:List<|Out ins.P)(B:Nat->ins.P->EP (SumO outs) outs->ins.V->Option (SumO outs))(h:∀n φ p q e',exC (e.xe G) n b 0 (ins.mkG ins.os.length φ p q) (pceK ins.os.length outs lx lr e')=B n p (fixE (ins.fo.map φ) p e') q:=by intros;kernel_rfl)(hm:∀p q,HMa ins kl p q outs:=by intro _ _;repeat' first | exact trivial | refine And.intro ?_ ?_ | (intro _;kernel_rfl) | rfl)(hk:kpL c kt=true:=by kernel_rfl): LC P T N fl c:=
 ⟨⟨ins,kl,kt,outs,λn p q=>B n p (injE outs id) q⟩,by subst hc;exact .told _ _ _ _ _ (e.xe G) B (e.ok G) rfl rfl (e.lp G) (λp q=>HMa_ok<|hm p q) hk (λ_ _ _=>rfl) h⟩
abbrev LC.f{c:ACode}(x:LC P T N fl c):=x.s.F
theorem fin_ok{F:AFun}{E:XE}{n:Nat}{R:Type}{K:AExit->TS->Option R}{r:R}{aw:List AV}{A:Heap}{vi:Nat}(z:getF T vi=some F)(y:EOK P T E)(p:E.nt=F.nt)(l:E.fl=fl)(u:∀(j:Nat) (c:ACode) (s:LSp),(lpsOf F.body)[j]?=some c->s∈altL E j->LOK P T F.nt fl c s)(g:Qt aw.length S ⟨aw,A⟩)(B:aw.length≤F.nt)(h:exC E n F.body 0 S K=some r)(w:∀x d,K x d=some r->x=.normal∨x=.ret):
 ∃x st' d,Qt F.nt d st'∧K x d=some r∧evF P T (n+1) fl vi aw A=(match retsA st' F.rets with | some vs=>some (packA vs,st'.heap) | none=>none):=by
 have k:Qt F.nt S ⟨aw++List.replicate (F.nt-aw.length) (.lit undefV),A⟩:=by
  refine⟨by simp;omega,λt v m=>?_,g.hp⟩;let⟨a,f,e⟩:=g.tm t v m;refine⟨a,?_,e⟩;show (aw++_)[t]?=_;rw[List.getElem?_append_left (List.getElem?_eq_some_iff.1 f).1];exact f
 let⟨x,st',d,o,f,e⟩:=exC_ok (i:=0) F.body y p l (λj b s q g=>u j b s q<|by simpa using g) k h;refine⟨x,st',d,f,e,?_⟩;rw[evF_at F z,o];rcases w x d e with rfl | rfl<;>rfl
theorem fok{vi:Nat}{c:CSp}{F:AFun}(C:getF T vi=some F)(E:XE)(D:EOK P T E)(M:E.nt=F.nt)(u:E.fl=0)(w:Nat.ble c.ka.length F.nt=true)(J:∀(j:Nat) (b:ACode) (s:LSp),(lpsOf F.body)[j]?=some b->s∈altL E j->LOK P T F.nt 0 b s)(L:∀p,c.F 0 p=none)(h:∀n p,c.F (n+1) p=exF E n F c p): FOK0 P T vi c:=by
 intro n p r i aw z;cases n with
 | zero=>rw[L] at i;cases i
 | succ n=>
  rw[h] at i;unfold exF at i;have B:aw.length=c.ka.length:=by rw[z.len,tvs_len]
  have w:=Nat.le_of_ble_eq_true w;let⟨x,st',f,q,m,G⟩:=fin_ok C D M u J (enum_qt (show Qs [] [] from trivial) z) (by omega) i λx f h=>by
   cases x with
   | normal=>exact .inl rfl
   | ret=>exact .inr rfl
   | exit=>cases h
  have g:(match retT f F.rets with | some vs=>(match c.kp with | false=>rdTs 2 f.hp (c.kr.map .v) vs | true=>bnd (grd<|keepB f.hp vs) λ_=>rdTs 2 f.hp (c.kr.map .v) vs) | none=>none)=some r->∃vs a A H,evF P T (n+1) 0 vi aw []=some (packA a,A)∧Qs H A∧Qc H vs a∧rdTs 2 H (c.kr.map .v) vs=some r∧(c.kp=true->keepB H vs=true):=by
   intro h;split at h
   ·rename_i vs l;let⟨a,I,y⟩:=ret_ok q l;have he:evF P T (n+1) 0 vi aw []=some (packA a,st'.heap):=by rw[G,I]
    split at h
    ·rename_i t;exact⟨vs,a,st'.heap,f.hp,he,q.hp,y,h,λe=>by rw[t] at e;cases e⟩
    ·let⟨_,K,h⟩:=bnd_some h;exact⟨vs,a,st'.heap,f.hp,he,q.hp,y,h,λ_=>grd_some K⟩
   ·cases h
  cases x with
  | normal=>exact g m
  | exit=>cases m
  | ret=>exact g m
def mkC(G:Glb P T)(vi:Nat){F:AFun}(hF:getF T vi=some F)(ka:List Sh)(kr:List Nat)(kp:Bool)(e:En P T F.nt 0 F.body)(f:Nat->PrT ka->Option (PrT<|kr.map .v))(hk:Nat.ble ka.length F.nt=true)(h0:∀p,f 0 p=none)(h:∀n p,f (n+1) p=exF (e.xe G) n F ⟨ka,kr,kp,f⟩ p)(hkp:kpB kp kr=true:=by kernel_rfl): Con P T:=⟨vi,⟨ka,kr,kp,f⟩,.of0 (fok hF (e.xe G) (e.ok G) rfl rfl hk (e.lp G) h0 h) hkp⟩
theorem retT_len: ∀{rs:List ARes} {vs:List TV},retT S rs=some vs->vs.length=rs.length
 | [],vs,h=>by cases h;rfl
 | r::rs,vs,h=>by
  simp only[retT] at h;split at h
  ·cases h
  ·rename_i c b;have a:=retT_len b;split at h
   ·cases h;simp[a]
   ·split at h
    ·split at h
     ·split at h
      ·split at h
       ·split at h
        ·cases h;simp[a]
        ·split at h
         ·cases h;simp[a]
         ·cases h
       ·cases h
      ·cases h
     ·cases h
    ·cases h
def mkI(G:Glb P T)(vi fl:Nat){F:AFun}(hF:getF T vi=some F)(e:En P T F.nt fl F.body)(ins:Lay)(kl:List Nat)(outs:List<|Out ins.P)(B:Nat->ins.P->EP (SumO outs) outs->ins.V->Option (SumO outs))(na:Nat)(hk:Nat.ble na F.nt=true:=by kernel_rfl)(h:∀n φ p q e',exI (e.xe G) n F (ins.mkG ins.os.length φ p q) (λS=>findX ins.os.length .ret S outs e')=B n p (fixE (ins.fo.map φ) p e') q:=by intros;kernel_rfl)(hm:∀p q,HMa ins kl p q outs:=by intro _ _;repeat' first | exact trivial | refine And.intro ?_ ?_ | (intro _;kernel_rfl) | rfl): IC P T:=
 ⟨⟨⟨ins,kl,[],outs,λn p q=>bnd (prd n) λn=>B n p (injE outs id) q⟩,vi,fl,na,F.rets.length⟩,by
  intro n p q t ht φ aw A hna hle hs
  cases n with
  | zero=>cases ht
  | succ n=>
   have ht:B n p (injE outs id) q=some t:=ht
   rw[←fix_mk (ins.fo.map φ) p,←h] at ht
   unfold exI at ht
   have hk:=Nat.le_of_ble_eq_true hk
   have hna:aw.length=na:=hna
   obtain⟨x,st',S',h2,h3,h4⟩:=fin_ok (fl:=fl) hF (e.ok G) rfl rfl (e.lp G) hs (by omega) ht λx S' h=>by
    cases x with
    | normal=>exact .inl rfl
    | ret=>exact .inr rfl
    | exit=>cases h
   have fin:(match retT S' F.rets with | some vs=>findX ins.os.length .ret ⟨enumT 0 vs,S'.hp⟩ outs (mkE (ins.fo.map φ) p outs id) | none=>none)=some t->
    ∃aw' H',evF P T (n+1) fl vi aw A=some (packA aw',H')∧aw'.length=F.rets.length∧AllO (λo t=>Qt F.rets.length (o.lay.mkG ins.os.length φ (o.pr p) t) ⟨aw',H'⟩∧OKo ⟨ins,kl,[],outs,λn p q=>bnd (prd n) λn=>B n p (injE outs id) q⟩ p q o) outs t:=by
    intro h
    split at h
    ·rename_i vs hvs
     obtain⟨aw',g1,g2⟩:=ret_ok h2 hvs
     obtain⟨t',e',hall⟩:=find_ok h
     cases e'
     have hl:aw'.length=F.rets.length:=by rw[g2.len,retT_len hvs]
     refine⟨aw',st'.heap,by rw[h4,g1],hl,AllO.imp (λo ho t hg=>?_) hall⟩
     have hoo:=HMa_ok (sp:=⟨ins,kl,[],outs,λn p q=>bnd (prd n) λn=>B n p (injE outs id) q⟩) (hm p q) o ho
     have hg2:=hg.2
     have hf:o.lay.fo=ins.fo:=hoo.fo
     rw[←hf] at hg2
     have:=getF_ok hg2<|enum_qt h2.hp g2
     rw[hl] at this
     exact⟨this,hoo⟩
    ·cases h
   cases x with
   | normal=>exact fin h3
   | exit=>cases h3
   | ret=>exact fin h3⟩
end
end
inductive Tr where
 | n (k:Nat) (l:List Tr)
structure Gr where
 nl:Nat
 al:List (Nat×Nat)
 na:Nat
 bs:Nat
 ru:List Nat
def popT: Nat->List Tr->List Tr->List Tr×List Tr
 | 0,acc,st=>(acc,st)
 | k+1,acc,st=>match st with
  | t::r=>popT k (t::acc) r
  | []=>(acc,[])
def nthD{α:Type}(d:α): Nat->List α->α
 | _,[]=>d
 | 0,x::_=>x
 | n+1,_::r=>nthD d n r
def digs(b:Nat): Nat->Nat->List Nat
 | 0,_=>[]
 | f+1,n=>match Nat.beq n 0 with
  | true=>[]
  | false=>Nat.mod n b::digs b f (Nat.div n b)
section
variable (G:Gr)
def ruleOf(s:Nat): Nat:=Nat.mod (Nat.div (nthD 0 (Nat.div s 64) G.ru)<|Nat.pow (Nat.mul G.bs G.bs)<|Nat.mod s 64)<|Nat.mul G.bs G.bs
def runZ: Nat->List Nat->List Tr->List Tr
 | 0,_,st=>st
 | f+1,w,st=>match w with
  | []=>st
  | s::w=>match Nat.blt s G.nl with
   | true=>runZ f w (.n s []::st)
   | false=>match Nat.blt s G.na with
    | true=>match nthD (0,0) (Nat.sub s G.nl) G.al with
     | (k,a)=>match popT a [] st with
      | (l,st)=>runZ f w (.n k l::st)
    | false=>match ruleOf G (Nat.sub s G.na) with
     | r=>runZ f (Nat.mod r G.bs::Nat.div r G.bs::w) st
def decZ(n:Nat): Tr:=match runZ G 1000000 (digs G.bs 1000000 n) [] with
 | t::_=>t
 | []=>.n 0 []
end
def rB: Tr->Bool
 | .n k _=>match k with
  | 0=>false
  | _=>true
def rN: Tr->Nat
 | .n k _=>k
def rI: Tr->Int
 | .n k l=>match l with
  | []=>Int.ofNat k
  | _=>Int.negOfNat k
def rL{α:Type}(r:Tr->α): Tr->List α
 | .n _ l=>l.map r
def rO{α:Type}(r:Tr->α): Tr->Option α
 | .n _ l=>match l with
  | []=>none
  | t::_=>some<|r t
def runsB: Bool->List Tr->List Bool
 | _,[]=>[]
 | b,t::r=>List.replicate (rN t) b++runsB (!b) r
def rM: Tr->List Bool
 | .n _ l=>runsB false l
def rK: Nat->IntKind
 | 0=>.i64
 | 1=>.i32
 | 2=>.u8
 | 3=>.u64
 | 4=>.u32
 | 5=>.i8
 | 6=>.i16
 | _=>.u16
def rVal: Tr->Value
 | .n k l=>match l with
  | []=>match k with
   | 0=>.bool false
   | 1=>.bool true
   | 2=>nilS
   | 3=>.pointer none
   | 4=>.map none
   | 5=>.nilFunc
   | 6=>.nilIface
   | 7=>.string ⟨#[]⟩
   | _=>undefV
  | t::r=>match k with
   | 15=>.string ⟨((t::r).map λt=>UInt8.ofNat<|rN t).toArray⟩
   | _=>.int (rK k)<|rI t
def rT(c k:Nat): Nat:=match Nat.blt k 320 with
 | true=>k
 | false=>Nat.sub (Nat.add c 320) k
def rX(c:Nat): Tr->AOpd
 | .n k l=>match l with
  | []=>.tmp<|rT c k
  | t::r=>match k with
   | 0=>.lit<|rVal t
   | 1=>.agg<|r.map rVal
   | 2=>.fn<|rN t
   | _=>.glob<|rN t
def rBin: Nat->BinOp
 | 0=>.add
 | 1=>.sub
 | 2=>.mul
 | 3=>.quo
 | 4=>.rem
 | 5=>.and
 | 6=>.or
 | 7=>.xor
 | 8=>.shl
 | 9=>.shr
 | 10=>.andNot
 | 11=>.eql
 | 12=>.neq
 | 13=>.lss
 | 14=>.leq
 | 15=>.gtr
 | _=>.geq
def rUn: Nat->UnOp
 | 0=>.neg
 | 1=>.xor
 | 2=>.not
 | _=>.plus
def rPt3(c:Nat): Tr->Nat×Nat×AOpd
 | .n a l=>match l with
  | [b,x]=>(a,rN b,rX c x)
  | _=>(a,0,.tmp 0)
def rPt2(c:Nat): Tr->Nat×AOpd
 | .n a l=>match l with
  | [x]=>(a,rX c x)
  | _=>(a,.tmp 0)
def rPN: Tr->Nat×Nat
 | .n a l=>match l with
  | [b]=>(a,rN b)
  | _=>(a,0)
def rOp(w:Nat): Tr->AOp
 | .n k l=>match l with
  | []=>.mkMap
  | [a]=>match k with
   | 0=>.mov<|rX w a
   | 1=>.movN<|rX w a
   | 2=>.nilCheck<|rX w a
   | 3=>.lenS<|rX w a
   | 4=>.capS<|rX w a
   | 5=>.lenM<|rX w a
   | 6=>.rangeStr<|rX w a
   | 7=>.nextStr<|rX w a
   | 8=>.claim<|rN a
   | 9=>.alloc<|rL rVal a
   | 10=>.box<|rX w a
   | 11=>.lenC<|rN a
   | 12=>.mov<|rX w a
   | 13=>.tail2<|rX w a
   | _=>.mov<|rX w a
  | [a,b]=>match k with
   | 0=>.allocC (rL rVal a)<|rL rPN b
   | 1=>.build (rL rVal a)<|rL (rPt3 w) b
   | 2=>.un (rUn<|rN a)<|rX w b
   | 3=>.fieldAddr (rN a)<|rX w b
   | 4=>.lenStr (rN a)<|rX w b
   | 5=>.minmax (rB a)<|rL (rX w) b
   | 6=>.mkFn (rN a)<|rL (rX w) b
   | 7=>.callB (rN a)<|rL (rX w) b
   | 8=>.callS (rN a)<|rL (rX w) b
   | 9=>.callF (rN a)<|rL (rX w) b
   | 17=>.boxC (rX w a)<|rL rPN b
   | 10=>.extract (rX w a)<|rN b
   | 11=>.load false (rN a)<|rX w b
   | 12=>.load true (rN a)<|rX w b
   | 13=>.call false (rN a)<|rL (rX w) b
   | 14=>.call true (rN a)<|rL (rX w) b
   | 15=>.callv false (rX w a)<|rL (rX w) b
   | _=>.callv true (rX w a)<|rL (rX w) b
  | [a,b,c]=>match k with
   | 0=>.pick (rX w a) (rX w b)<|rX w c
   | 1=>.store (rN a) (rX w b)<|rX w c
   | 2=>.ibin (rBin<|rN a) (rX w b)<|rX w c
   | 3=>.conv (rN a) (rN b)<|rX w c
   | 4=>.idxAddr (rN a) (rX w b)<|rX w c
   | 5=>.strIdx (rN a) (rX w b)<|rX w c
   | 6=>.copy (rN a) (rX w b)<|rX w c
   | 7=>.delete (rN a) (rX w b)<|rX w c
   | 8=>.callT (rN a) (rN b)<|rL (rX w) c
   | 9=>.clear (rN a) (rL rVal b)<|rX w c
   | 10=>.loadF (rN a) (rN b)<|rX w c
   | 13=>.slArr (rN a) (rN b)<|rX w c
   | 14=>.arrPtr (rN a) (rN b)<|rX w c
   | 15=>.buildC (rL rVal a) (rL (rPt3 w) b)<|rL rPN c
   | 11=>.field false (rN a) (rN b)<|rX w c
   | _=>.field true (rN a) (rN b)<|rX w c
  | [a,b,c,d]=>match k with
   | 0=>.bin (rBin<|rN a) (rN b) (rX w c)<|rX w d
   | 1=>.idxArr (rN a) (rN b) (rX w c)<|rX w d
   | 2=>.index false (rN a) (rN b) (rX w c)<|rX w d
   | 3=>.index true (rN a) (rN b) (rX w c)<|rX w d
   | 4=>.strSlice (rN a) (rX w b) (rO (rX w) c)<|rO (rX w) d
   | 5=>.mapUpd (rN a) (rX w b) (rX w c)<|rX w d
   | 6=>.append (rN a) (rN b) (rX w c)<|rX w d
   | 7=>.appendP (rN a) (rN b) (rX w c)<|rX w d
   | 8=>.buildSl false (rN a) (rN b) (rL rVal c)<|rL (rPt2 w) d
   | _=>.buildSl true (rN a) (rN b) (rL rVal c)<|rL (rPt2 w) d
  | [a,b,c,d,e]=>match k with
   | 0=>.slice (rN a) (rX w b) (rO (rX w) c) (rO (rX w) d)<|rO (rX w) e
   | 1=>.mkSlice (rN a) (rL rVal b) (rN c) (rX w d)<|rX w e
   | 2=>.lookup (rN a) (rX w b) (rX w c) (rX w d)<|rB e
   | _=>.appendZ (rN a) (rN b) (rL rVal c) (rX w d)<|rX w e
  | _=>.mkMap
def rOper(c:Nat): Tr->AOper
 | .n _ l=>match l with
  | [a]=>⟨some c,rOp c a,none⟩
  | [a,g]=>⟨some c,rOp c a,some (rT c<|rN g,true)⟩
  | [a,g,_]=>⟨some c,rOp c a,some (rT c<|rN g,false)⟩
  | [a,g,_,b]=>match b with
   | .n k _=>match k with
    | 0=>⟨none,rOp c a,none⟩
    | 1=>⟨none,rOp c a,some (rT c<|rN g,true)⟩
    | _=>⟨none,rOp c a,some (rT c<|rN g,false)⟩
  | _=>⟨none,.mkMap,none⟩
def rD(c d:Nat): Nat:=match Nat.blt d 320 with
 | true=>match Nat.beq d 0 with
  | true=>c
  | false=>d
 | false=>match Nat.beq d 337 with
  | true=>0
  | false=>Nat.sub (Nat.add c d) 320
def rOps: Nat->List Tr->List AOper
 | _,[]=>[]
 | c,t::r=>rOper (rD c<|rN t) t::rOps (rD c<|rN t) r
def rC: Nat->Tr->ACode
 | 0,_=>.stop
 | f+1,.n k l=>match k with
  | 0=>.region false []<|rOps 0 l
  | 1=>match l with
   | c::r=>.region true (rL rPN c)<|rOps 0 r
   | []=>.region true [] []
  | 2=>match l with
   | [a,b]=>.seq (rC f a)<|rC f b
   | _=>.stop
  | 3=>match l with
   | [c,a,b]=>.cond (.tmp<|rN c) (rC f a)<|rC f b
   | _=>.stop
  | 4=>match l with
   | [i,c]=>.block (rN i)<|rC f c
   | _=>.stop
  | 5=>match l with
   | [i]=>.exit<|rN i
   | _=>.stop
  | 6=>.skip
  | 7=>.ret
  | 8=>match l with
   | [lx,lr,t,li,u,c]=>.mask (rM lx) (rM lr) (rB t)<|.loop (some<|rM li) (rB u)<|rC f c
   | _=>.stop
  | 9=>match l with
   | [li,lx,lr,c]=>.told (rM li) (rM lx) (rM lr)<|rC f c
   | _=>.stop
  | 10=>match l with
   | [c]=>.scope<|rC f c
   | _=>.stop
  | 11=>match l with
   | [t,c]=>.frz (rN t)<|rC f c
   | _=>.stop
  | 12=>match l with
   | [t,d,e,a,b]=>.nilIf (rN t) (rN d) (rN e) (rC f a)<|rC f b
   | _=>.stop
  | 13=>match l with
   | [lx,lr,t,c]=>.mask (rM lx) (rM lr) (rB t)<|rC f c
   | _=>.stop
  | 14=>.stop
  | 15=>match l with
   | c::r=>.region false (rL rPN c)<|rOps 0 r
   | []=>.stop
  | _=>.stop
def rR: Tr->ARes
 | .n k l=>match l with
  | []=>.tmp k
  | [n]=>.cell k (rN n) false
  | n::_=>.cell k (rN n) true
def rF: Tr->AFun
 | .n i l=>match l with
  | [t,r,c]=>⟨i,rN t,rL rR r,rC 1000 c⟩
  | _=>⟨i,0,[],.stop⟩
section
open DenT (den cds ag)
def rSh: Tr->Sh
 | .n k l=>match l with
  | []=>.i
  | [a]=>match k with
   | 0=>.v<|rN a
   | 1=>.w<|rN a
   | 2=>.r<|rN a
   | 3=>.l<|rN a
   | 4=>.n<|rN a
   | _=>.f<|rN a
  | a::b::_=>match k with
   | 0=>.m (rN a)<|rN b
   | _=>.q (rN a)<|rN b
section
variable [RowT]
def rTV: Nat->Tr->TV
 | 0,_=>.undef
 | f+1,.n k l=>match l with
  | []=>match k with
   | 0=>.undef
   | 1=>.lit nilS
   | 2=>.emp false
   | 3=>.emp true
   | 4=>.lit<|.bool false
   | _=>.lit<|.bool true
  | a::r=>match k with
   | 0=>.ms (rN a) none
   | 1=>.mp<|rN a
   | 2=>.it<|rN a
   | 3=>match r with
    | b::_=>.ptr (rN a)<|rN b
    | []=>.ptr (rN a) 0
   | 4=>match r with
    | b::_=>.rs (rN a)<|rN b
    | []=>.undef
   | 5=>.fn (rN a)<|r.map<|rTV f
   | 6=>match r with
    | b::_=>.lit<|.int (rK<|rN a)<|rI b
    | []=>.lit<|.int .i64<|rI a
   | _=>.undef
inductive PlD where
 | con (v:TV)
 | p (s:Sh)
 | v (s:Sh)
 | q (j:Nat)
def rPl: Tr->PlD
 | .n k l=>match l with
  | []=>.q k
  | a::_=>match k with
   | 0=>.p<|rSh a
   | 1=>.v<|rSh a
   | _=>.con<|rTV 4 a
def inS: List PlD->List Pl
 | []=>[]
 | d::r=>match d with
  | .con v=>.con v::inS r
  | .p s=>.p s::inS r
  | .v s=>.v s::inS r
  | .q _=>.con .undef::inS r
def nthP: (l:List Sh)->Nat->Option ((s:Sh)×(PrT l->s.den))
 | [],_=>none
 | a::r,j=>match j with
  | 0=>some ⟨a,λp=>PrT.hd p⟩
  | j+1=>match nthP r j with
   | none=>none
   | some x=>some ⟨x.1,λp=>x.2<|PrT.tl p⟩
def outS(I:List Sh): List PlD->(ss:List Pl)×(PrT I->PrT (shs false ss))
 | []=>⟨[],λ_=>()⟩
 | d::r=>match outS I r with
  | ⟨ss,g⟩=>match d with
   | .con v=>⟨.con v::ss,g⟩
   | .v s=>⟨.v s::ss,g⟩
   | .p _=>⟨.con .undef::ss,g⟩
   | .q j=>match nthP I j with
    | none=>⟨.con .undef::ss,g⟩
    | some x=>⟨.p x.1::ss,λp=>PrT.cs (x.2 p)<|g p⟩
def rOL: Tr->OL
 | .n k l=>match l with
  | []=>match k with
   | 0=>.bx
   | 1=>.it
   | _=>.gone
  | [a]=>match k with
   | 0=>.box<|rN a
   | _=>.lst<|rN a
  | a::b::_=>match k with
   | 0=>.map (rN a)<|rN b
   | _=>.rows (rN a)<|rN b
def rTs: Tr->Nat×Option Nat
 | .n t l=>match l with
  | []=>(t,none)
  | a::_=>(t,some<|rN a)
def zsub(i:Nat): Tr->Tr
 | .n _ l=>nthD (.n 0 []) i l
def rLay(fo:List Nat)(ss:List Pl)(z:Tr): Lay:=⟨fo,rL rTs<|zsub 0 z,rL rOL<|zsub 1 z,ss⟩
def zfo(z:Tr): List Nat:=rL rN<|zsub 0 z
def zin(z:Tr): Lay:=rLay (zfo z) (inS<|rL rPl<|zsub 2<|zsub 1 z)<|zsub 1 z
def rEx: Tr->AExit
 | .n k l=>match l with
  | []=>match k with
   | 0=>.normal
   | _=>.ret
  | _=>.exit k
def zout1(z:Tr): Tr->Out (zin z).P
 | .n k l=>match outS (shs false (zin z).ss) (rL rPl<|zsub 2<|.n k l) with
  | ⟨ss,g⟩=>⟨rEx<|zsub 3<|.n k l,rLay (zfo z) ss<|.n k l,g⟩
def zout(z:Tr): List<|Out (zin z).P:=rL (zout1 z)<|zsub 2 z
def zkd(z:Tr): List<|Nat×Nat:=rL rPN<|zsub 3 z
def zun(z:Tr): List<|Nat×Nat:=rL rPN<|zsub 4 z
def zkl(z:Tr): List Nat:=rL rN<|zsub 5 z
def zkt(z:Tr): List Nat:=rL rN<|zsub 6 z
def BL(z:Tr)(R:Type): Type:=Nat->(zin z).P->((zin z).V->Option R)->EP R (zout z)->(zin z).V->Option R
def BP(z:Tr)(R:Type): Type:=Nat->(zin z).P->EP R (zout z)->(zin z).V->Option R
end
section
variable [RowT][GlobT]{P:Program}{T:List AFun}{N fl:Nat}
def HF{Q:Type}: List (Out Q)->Type
 | []=>Unit
 | o::r=>(o.lay.V->Option (List Nat))×HF r
def hmA(H:TH)(kl:List Nat){Q:Type}(p:Q): (l:List<|Out Q)->HF l
 | []=>()
 | o::r=>(λt=>chkH kl 0 H (o.lay.mk' (o.pr p) t).hp,hmA H kl p r)
def hmB(H:TH)(kl:List Nat){Q:Type}(p:Q): (l:List<|Out Q)->HF l
 | []=>()
 | _::r=>(λ_=>chkI kl 0 H,hmB H kl p r)
def fosB{Q:Type}(fo:List Nat): List (Out Q)->Bool
 | []=>true
 | o::r=>match decEq o.lay.fo fo with
  | isTrue _=>fosB fo r
  | isFalse _=>false
theorem HMz{a:Lay}{kl:List Nat}{p:a.P}{q:a.V}: ∀{l:List<|Out a.P},fosB a.fo l=true->hmA (a.mk' p q).hp kl p l=hmB (a.mk' p q).hp kl p l->HMa a kl p q l
 | [],_,_=>trivial
 | o::r,h,g=>by
  simp only[fosB] at h;split at h
  ·rename_i e _;have b:(λt=>chkH kl 0 (a.mk' p q).hp (o.lay.mk' (o.pr p) t).hp)=λ_=>chkI kl 0 (a.mk' p q).hp:=congrArg Prod.fst g;exact⟨e,λt=>congrFun b t,HMz h<|congrArg Prod.snd g⟩
  ·cases h
def lpx: ACode->List Bool
 | .mask lx _ _ _=>lx
 | .told _ lx _ _=>lx
 | _=>[]
def lpr: ACode->List Bool
 | .mask _ lr _ _=>lr
 | .told _ _ lr _=>lr
 | _=>[]
def lpt: ACode->Bool
 | .mask _ _ t _=>t
 | _=>false
def lpl: ACode->List Bool
 | .mask _ _ _ c=>match c with
  | .loop l _ _=>match l with
   | some l=>l
   | none=>[]
  | _=>[]
 | .told li _ _ _=>li
 | _=>[]
def lpu: ACode->Bool
 | .mask _ _ _ c=>match c with
  | .loop _ u _=>u
  | _=>false
 | _=>false
def lpb: ACode->ACode
 | .mask _ _ _ c=>match c with
  | .loop _ _ b=>b
  | _=>.skip
 | .told _ _ _ b=>b
 | _=>.skip
def cs{c c':ACode}(x:LC P T N fl c)(h:c=c':=by kernel_rfl): LC P T N fl c':=⟨x.s,h▸x.ok⟩
noncomputable def cB{γ δ:Type->Type}(h:γ=δ)(B:∀R,γ R)(R:Type): δ R:=h▸B R
class ZT where
 gr:Gr
def dz[ZT](n:Nat): Tr:=decZ ZT.gr n
class GlC(P:Program)(T:List AFun) where
 g:Glb P T
def fnT(T:List AFun)(vi:Nat): AFun:=match getF T vi with
 | some F=>F
 | none=>⟨0,0,[],.stop⟩
def lp1{Q V X:Type}(B:Nat->Q->(V->Option X)->((X->Option X)×Unit)->V->Option X)(n:Nat)(p:Q)(q:V): Option X:=lpB (λk q=>B n p k (λt=>some t,()) q) n q
def lp2{Q V X Y:Type}(B:Nat->Q->(V->Option (X⊕Y))->((X->Option (X⊕Y))×(Y->Option (X⊕Y))×Unit)->V->Option (X⊕Y))(n:Nat)(p:Q)(q:V): Option<|X⊕Y:=lpB (λk q=>B n p k (λt=>some<|.inl t,λt=>some<|.inr t,()) q) n q
def lp3{Q V X Y Z:Type}(B:Nat->Q->(V->Option (X⊕Y⊕Z))->((X->Option (X⊕Y⊕Z))×(Y->Option (X⊕Y⊕Z))×(Z->Option (X⊕Y⊕Z))×Unit)->V->Option (X⊕Y⊕Z))(n:Nat)(p:Q)(q:V): Option<|X⊕Y⊕Z:=lpB (λk q=>B n p k (λt=>some<|.inl t,λt=>some<|.inr<|.inl t,λt=>some<|.inr<|.inr t,()) q) n q
def pc1{Q X:Type}(B:Nat->Q->((X->Option X)×Unit)->Unit->Option X)(n:Nat)(p:Q): Option X:=B n p (λt=>some t,()) ()
def pc2{Q X Y:Type}(B:Nat->Q->((X->Option (X⊕Y))×(Y->Option (X⊕Y))×Unit)->Unit->Option (X⊕Y))(n:Nat)(p:Q): Option<|X⊕Y:=B n p (λt=>some<|.inl t,λt=>some<|.inr t,()) ()
def pc3{Q X Y Z:Type}(B:Nat->Q->((X->Option (X⊕Y⊕Z))×(Y->Option (X⊕Y⊕Z))×(Z->Option (X⊕Y⊕Z))×Unit)->Unit->Option (X⊕Y⊕Z))(n:Nat)(p:Q): Option<|X⊕Y⊕Z:=B n p (λt=>some<|.inl t,λt=>some<|.inr<|.inl t,λt=>some<|.inr<|.inr t,()) ()
def in1{Q X:Type}(B:Nat->Q->((X->Option X)×Unit)->Unit->Option X)(n:Nat)(p:Q): Option X:=bnd (prd n) λn=>pc1 B n p
def in2{Q X Y:Type}(B:Nat->Q->((X->Option (X⊕Y))×(Y->Option (X⊕Y))×Unit)->Unit->Option (X⊕Y))(n:Nat)(p:Q): Option<|X⊕Y:=bnd (prd n) λn=>pc2 B n p
def in3{Q X Y Z:Type}(B:Nat->Q->((X->Option (X⊕Y⊕Z))×(Y->Option (X⊕Y⊕Z))×(Z->Option (X⊕Y⊕Z))×Unit)->Unit->Option (X⊕Y⊕Z))(n:Nat)(p:Q): Option<|X⊕Y⊕Z:=bnd (prd n) λn=>pc3 B n p
abbrev ln{α:Type}(l:List α): Int:=((l.length:Nat):Int)
abbrev wr(x:Int): Int:=IntKind.i64.wrap x
abbrev cd{α:Type}(p:Prop)[Decidable p](x y:Option α): Option α:=cnd (decide p) x y
def Cur: List Sh->Type->Type
 | [],R=>R
 | a::r,R=>a.den->Cur r R
def unc{R:Type}: (l:List Sh)->Cur l R->PrT l->R
 | [],f,_=>f
 | _::r,f,p=>unc r (f<|PrT.hd p)<|PrT.tl p
noncomputable section
variable [ZT][GlC P T]
def mkLz{c:ACode}(z:Nat)(C:List<|Con P T)(ls:List<|(j:Nat)×List (LC P T N fl<|lpA (lpb c) j))(il:List<|IC P T){γ:Type->Type}(B:∀R,γ R)(hc:c=.mask (lpx c) (lpr c) (lpt c) (.loop (some<|lpl c) (lpu c)<|lpb c):=by kernel_rfl)(hB:γ=BL (dz z):=by kernel_rfl)(h:∀n φ p q k e',exC ((⟨C,zkd<|dz z,ls,zun<|dz z,il⟩:En P T N fl<|lpb c).xe GlC.g) n (lpb c) 0 ((zin<|dz z).mkG (zin<|dz z).os.length φ p q) (rndK (zin<|dz z) (zout<|dz z) (lpl c) (lpu c) (lpx c) (lpr c) (lpt c) (zin<|dz z).os.length k e')=cB hB B (SumO<|zout<|dz z) n p (k ((zin<|dz z).fo.map φ) p) (fixE ((zin<|dz z).fo.map φ) p e') q:=by intros;kernel_rfl)(hf:fosB (zin<|dz z).fo (zout<|dz z)=true:=by kernel_rfl)(hm:∀p q,hmA ((zin<|dz z).mk' p q).hp (zkl<|dz z) p (zout<|dz z)=hmB ((zin<|dz z).mk' p q).hp (zkl<|dz z) p (zout<|dz z):=by intros;kernel_rfl)(hk:kpL c (zkt<|dz z)=true:=by kernel_rfl): LC P T N fl c:=
 mkL GlC.g hc ⟨C,zkd<|dz z,ls,zun<|dz z,il⟩ (zin<|dz z) (zkl<|dz z) (zkt<|dz z) (zout<|dz z) (cB hB B<|SumO<|zout<|dz z) h (λp q=>HMz hf<|hm p q) hk
def mkPz{c:ACode}(z:Nat)(C:List<|Con P T)(ls:List<|(j:Nat)×List (LC P T N fl<|lpA (lpb c) j))(il:List<|IC P T){γ:Type->Type}(B:∀R,γ R)(hc:c=.told (lpl c) (lpx c) (lpr c) (lpb c):=by kernel_rfl)(hB:γ=BP (dz z):=by kernel_rfl)(h:∀n φ p q e',exC ((⟨C,zkd<|dz z,ls,zun<|dz z,il⟩:En P T N fl<|lpb c).xe GlC.g) n (lpb c) 0 ((zin<|dz z).mkG (zin<|dz z).os.length φ p q) (pceK (zin<|dz z).os.length (zout<|dz z) (lpx c) (lpr c) e')=cB hB B (SumO<|zout<|dz z) n p (fixE ((zin<|dz z).fo.map φ) p e') q:=by intros;kernel_rfl)(hf:fosB (zin<|dz z).fo (zout<|dz z)=true:=by kernel_rfl)(hm:∀p q,hmA ((zin<|dz z).mk' p q).hp (zkl<|dz z) p (zout<|dz z)=hmB ((zin<|dz z).mk' p q).hp (zkl<|dz z) p (zout<|dz z):=by intros;kernel_rfl)(hk:kpL c (zkt<|dz z)=true:=by kernel_rfl): LC P T N fl c:=
 mkP GlC.g hc ⟨C,zkd<|dz z,ls,zun<|dz z,il⟩ (zin<|dz z) (zkl<|dz z) (zkt<|dz z) (zout<|dz z) (cB hB B<|SumO<|zout<|dz z) h (λp q=>HMz hf<|hm p q) hk
def mkIz(vi fl na z:Nat)(C:List<|Con P T)(ls:List<|(j:Nat)×List (LC P T (fnT T vi).nt fl<|lpA (fnT T vi).body j))(il:List<|IC P T){γ:Type->Type}(B:∀R,γ R)(hF:getF T vi=some (fnT T vi):=by kernel_rfl)(hk:Nat.ble na (fnT T vi).nt=true:=by kernel_rfl)(hB:γ=BP (dz z):=by kernel_rfl)(h:∀n φ p q e',exI ((⟨C,zkd<|dz z,ls,zun<|dz z,il⟩:En P T (fnT T vi).nt fl (fnT T vi).body).xe GlC.g) n (fnT T vi) ((zin<|dz z).mkG (zin<|dz z).os.length φ p q) (λS=>findX (zin<|dz z).os.length .ret S (zout<|dz z) e')=cB hB B (SumO<|zout<|dz z) n p (fixE ((zin<|dz z).fo.map φ) p e') q:=by intros;kernel_rfl)(hf:fosB (zin<|dz z).fo (zout<|dz z)=true:=by kernel_rfl)(hm:∀p q,hmA ((zin<|dz z).mk' p q).hp (zkl<|dz z) p (zout<|dz z)=hmB ((zin<|dz z).mk' p q).hp (zkl<|dz z) p (zout<|dz z):=by intros;kernel_rfl): IC P T:=
 mkI GlC.g vi fl hF ⟨C,zkd<|dz z,ls,zun<|dz z,il⟩ (zin<|dz z) (zkl<|dz z) (zout<|dz z) (cB hB B<|SumO<|zout<|dz z) na hk h λp q=>HMz hf<|hm p q
def zka(z:Tr): List Sh:=rL rSh<|zsub 2 z
def zkr(z:Tr): List Nat:=rL rN<|zsub 3 z
def zkp(z:Tr): Bool:=rB<|zsub 4 z
def zCF(z:Tr): Type:=Nat->Cur (zka z) (Option<|PrT<|(zkr z).map .v)
def cF{γ δ:Type}(h:γ=δ)(f:γ): δ:=h▸f
def mkCz(vi z:Nat)(C:List<|Con P T)(ls:List<|(j:Nat)×List (LC P T (fnT T vi).nt 0<|lpA (fnT T vi).body j))(il:List<|IC P T){γ:Type}(f:γ)(hF:getF T vi=some (fnT T vi):=by kernel_rfl)(hB:γ=zCF (dz z):=by kernel_rfl)(hk:Nat.ble (zka<|dz z).length (fnT T vi).nt=true:=by kernel_rfl)(h0:∀p,unc (zka<|dz z) (cF hB f 0) p=none:=by intros;kernel_rfl)(h:∀n p,unc (zka<|dz z) (cF hB f<|n+1) p=exF ((⟨C,rL rPN<|zsub 0<|dz z,ls,rL rPN<|zsub 1<|dz z,il⟩:En P T (fnT T vi).nt 0 (fnT T vi).body).xe GlC.g) n (fnT T vi) ⟨zka<|dz z,zkr<|dz z,zkp<|dz z,λn p=>unc (zka<|dz z) (cF hB f n) p⟩ p:=by intros;kernel_rfl)(hkp:kpB (zkp<|dz z) (zkr<|dz z)=true:=by kernel_rfl): Con P T:=
 mkC GlC.g vi hF (zka<|dz z) (zkr<|dz z) (zkp<|dz z) ⟨C,rL rPN<|zsub 0<|dz z,ls,rL rPN<|zsub 1<|dz z,il⟩ (λn p=>unc (zka<|dz z) (cF hB f n) p) hk h0 h hkp
end
end
end
def contA(_:Nat)(args:List AV)(H:Heap): Option (AV×Heap):=match args with
 | []=>none
 | x::r=>match x with
  | .lit v=>match v with
   | .string s=>match r with
    | []=>none
    | y::q=>match y with
     | .lit u=>match u with
      | .string t=>match q with
       | []=>match Nat.blt s.size 4294967281 with
        | true=>some (.lit (.bool (Lib.contains s.data.toList t.data.toList)),H)
        | false=>none
       | _::_=>none
      | _=>none
     | _=>none
   | _=>none
  | _=>none
def contF(n:Nat)(s t:ByteArray): Option Bool:=match n with
 | 0=>none
 | _+1=>match Nat.blt s.size 4294967281 with
  | true=>some (Lib.contains s.data.toList t.data.toList)
  | false=>none
def clF{α:Type}(n:Nat)(l:List α): Option (List α):=match n with
 | 0=>none
 | _+1=>app [] l
def insG(s fl:Nat)(args:List AV)(H:Heap): Option<|AV×Heap:=match args with
 | [x,y,z]=>match x with
  | .ms id tot off len=>match y with
   | .lit v=>match v with
    | .int k n=>match k with
     | .i64=>match z with
      | .ms id2 tot2 off2 len2=>match H[id]? with
       | some o=>match o with
        | .blk s' es=>match H[id2]? with
         | some o2=>match o2 with
          | .blk s2 es2=>match es2 with
           | [row]=>match (Nat.ble fl id&&Nat.beq off 0&&Nat.beq len tot&&Nat.beq tot2 1&&Nat.beq off2 0&&Nat.beq len2 1&&!Nat.beq id id2&&Nat.beq s' s&&Nat.beq s2 s&&Nat.beq es.length tot&&Nat.ble tot 1000000&&decide (0≤n)&&Nat.ble n.toNat tot) with
            | true=>some (.ms id (tot+1) 0<|tot+1,H.set id<|.blk s (es.take n.toNat++row::es.drop n.toNat))
            | false=>none
           | _=>none
          | _=>none
         | none=>none
        | _=>none
       | none=>none
      | _=>none
     | _=>none
    | _=>none
   | _=>none
  | _=>none
 | _=>none
theorem insG_of{s fl id i:Nat}{y:AV}{H:Heap}{es:List<|List AV}{row:List AV}(b:fl≤id)(g:∃id2,id≠id2∧y=.ms id2 1 0 1∧H[id2]?=some (.blk s [row]))(j:H[id]?=some (.blk s es))(l:i≤es.length)(e:es.length≤1000000):
 insG s fl [.ms id es.length 0 es.length,.lit<|.int .i64 (i:Nat),y] H=some (.ms id (es.length+1) 0<|es.length+1,H.set id<|.blk s (es.take i++row::es.drop i)):=by
 obtain⟨id2,a,rfl,m⟩:=g;have n:Nat.ble fl id=true:=Nat.ble_eq_true_of_le b;have f:Nat.ble es.length 1000000=true:=Nat.ble_eq_true_of_le e;have c:decide ((0:Int)≤(i:Nat))=true:=decide_eq_true (by omega);have k:Nat.ble i es.length=true:=Nat.ble_eq_true_of_le l;have d:Nat.beq id id2=false:=by
  cases h:Nat.beq id id2 with
  | true=>exact (a<|Nat.eq_of_beq_eq_true h).elim
  | false=>rfl
 simp only[insG,j,m,n,Nat.beq_refl,f,c,Int.toNat_natCast,k,d,Bool.not_false,Bool.and_self]
theorem insG_inv{s fl:Nat}{a:List AV}{H H':Heap}{r:AV}(h:insG s fl a H=some (r,H')):
 ∃id id2 i es row,a=[.ms id es.length 0 es.length,.lit<|.int .i64 (i:Nat),.ms id2 1 0 1]∧fl≤id∧id≠id2∧H[id]?=some (.blk s es)∧H[id2]?=some (.blk s [row])∧i≤es.length∧es.length≤1000000 ∧
  r=.ms id (es.length+1) 0 (es.length+1)∧H'=H.set id (.blk s (es.take i++row::es.drop i)):=by
 unfold insG at h;repeat' split at h;all_goals first
  | (cases h;done)
  | skip
 rename_i id tot off len _ _ n _ _ id2 o k l _ _ s' es d _ _ G _ row j _ m;cases h;simp only[Bool.and_eq_true,Bool.not_eq_true',decide_eq_true_eq] at m;let⟨⟨⟨⟨⟨⟨⟨⟨⟨⟨⟨⟨q,u⟩,x⟩,C⟩,v⟩,F⟩,w⟩,E⟩,p⟩,c⟩,g⟩,e⟩,b⟩:=m;have e2:=Nat.eq_of_beq_eq_true u;have y:=Nat.eq_of_beq_eq_true x;have t:=Nat.eq_of_beq_eq_true C;have z:=Nat.eq_of_beq_eq_true v;have D:=Nat.eq_of_beq_eq_true F;have A:=Nat.eq_of_beq_eq_true E;have B:=Nat.eq_of_beq_eq_true p;have f:=Nat.eq_of_beq_eq_true c;subst e2 y t z D A B f;exact⟨id,id2,n.toNat,es,row,by rw[Int.toNat_of_nonneg e],Nat.le_of_ble_eq_true q,Nat.ne_of_beq_eq_false w,d,j,Nat.le_of_ble_eq_true b,Nat.le_of_ble_eq_true g,rfl,rfl⟩
def intsE: List (Value×AV)->Option (List<|Int×Int)
 | []=>some []
 | e::r=>match e.1 with
  | .int k x=>match k with
   | .i64=>match e.2 with
    | .lit v=>match v with
     | .int k' y=>match k' with
      | .i64=>match intsE r with
       | some l=>some ((x,y)::l)
       | none=>none
      | _=>none
     | _=>none
    | _=>none
   | _=>none
  | _=>none
def intsM: AV->Option (List<|Int×Int)
 | .rmp ents=>intsE ents
 | .lit v=>match v with
  | .map a=>match a with
   | none=>some []
   | some _=>none
  | _=>none
 | _=>none
def sdH(cf:CF)(hv:Nat)(H:Heap)(a:AV): Option<|List<|Int×Int:=match viewA2 H a with
 | .agg cs=>match cs with
  | [x,y,z]=>match cf 0 hv [.agg [x,y,z]] [] with
   | some p=>intsM<|seal3 p.2 0 p.1
   | none=>none
  | _=>none
 | _=>none
def sdG(m:List<|Int×Int)(k:Int): Int:=(mget m k).getD 0
def sdB(old:List<|Int×Int)(m:Int): List (Int×Int)->Bool
 | []=>false
 | e::r=>match !decide (e.1=m)&&!decide (sdG old e.1=e.2) with
  | true=>true
  | false=>sdB old m r
def sdA(cf:CF)(hv:Nat)(args:List AV)(H:Heap): Option<|AV×Heap:=match args with
 | [a,b,c]=>match c with
  | .lit v=>match v with
   | .int k m=>match k with
    | .i64=>match sdH cf hv H a with
     | some old=>match sdH cf hv H b with
      | some new=>some (.lit<|.bool<|sdB old m new,H)
      | none=>none
     | none=>none
    | _=>none
   | _=>none
  | _=>none
 | _=>none
theorem sdH_inv{cf:CF}{b:Nat}{H:Heap}{a:AV}{l:List<|Int×Int}(h:sdH cf b H a=some l): ∃x y z p,viewA2 H a=.agg [x,y,z]∧cf 0 b [.agg [x,y,z]] []=some p∧intsM (seal3 p.2 0 p.1)=some l:=by
 unfold sdH at h;repeat' split at h;all_goals first | (cases h;done) | skip
 exact⟨_,_,_,_,by assumption,by assumption,h⟩
theorem sdH_mono{cf b:CF}{c:Nat}{H:Heap}{a:AV}{l:List<|Int×Int}(f:Le cf b)(h:sdH cf c H a=some l): sdH b c H a=some l:=by
 let⟨x,y,z,p,g,d,e⟩:=sdH_inv h;unfold sdH;rw[g];simp only[f _ _ _ _ _ d,e]
theorem sdA_inv{cf:CF}{e:Nat}{c:List AV}{H H':Heap}{r:AV}(h:sdA cf e c H=some (r,H')): ∃a b m old d,c=[a,b,.lit<|.int .i64 m]∧sdH cf e H a=some old∧sdH cf e H b=some d∧r=.lit (.bool<|sdB old m d)∧H'=H:=by
 unfold sdA at h;repeat' split at h;all_goals first | (cases h;done) | skip
 cases h;exact⟨_,_,_,_,_,rfl,by assumption,by assumption,rfl,rfl⟩
def strayP(hv:Nat): Prim where
 run:=λcf _ args H=>sdA cf hv args H
 mono:=λcf cf' hl fl args H x h=>by
  obtain⟨a,b,m,old,new,rfl,h1,h2,h3,h4⟩:=sdA_inv (r:=x.1) (H':=x.2) h
  show sdA cf' hv _ H=some x
  simp only[sdA,sdH_mono hl h1,sdH_mono hl h2]
  rw[←h3]
  show some (x.1,H)=some x
  rw[←h4]
section
open Go.Proofs Go.RowKit Go.Shelf Go.Sort
def cI(z:Int): List AV:=[.lit<|.int .i64 z]
def decI: List (List AV)->Option (List Int)
 | []=>some []
 | e::r=>match e with
  | [.lit<|.int .i64 a]=>match decI r with
   | some l=>some (a::l)
   | none=>none
  | _=>none
theorem decI_map: ∀(es:List<|List AV) (l:List Int),decI es=some l->es=l.map cI
 | [],l,h=>by simp only[decI,Option.some.injEq] at h;subst h;rfl
 | e::r,l,h=>by
  unfold decI at h;split at h
  ·split at h
   ·rename_i a b;cases h;rw[decI_map r a b];rfl
   ·cases h
  ·cases h
theorem decI_enc: ∀l:List Int,decI (l.map cI)=some l
 | []=>rfl
 | x::r=>by simp only[List.map_cons,cI,decI];rw[decI_enc r]
def insI(x:Int): List Int->List Int
 | []=>[x]
 | y::r=>match decide (x≤y) with
  | true=>x::y::r
  | false=>y::insI x r
def srtI: List Int->List Int
 | []=>[]
 | x::r=>insI x<|srtI r
theorem insI_app(a:Int)(e:List Int): ∀d:List Int,(∀b∈d,decide (a≤b)=false)->insI a (d++e)=d++insI a e
 | [],_=>rfl
 | b::r,h=>by
  simp only[List.cons_append,insI,h b<|List.mem_cons_self ..];rw[insI_app a e r λc f=>h c<|List.mem_cons_of_mem _ f]
theorem srtI_eq: ∀l:List Int,(l.mergeSort λx y=>decide<|x≤y)=srtI l
 | []=>List.mergeSort_nil
 | a::l=>by
  have d:∀a b c:Int,decide (a≤b)=true->decide (b≤c)=true->decide (a≤c)=true:=by intro a b c i h;simp only[decide_eq_true_eq] at *;omega
  have f:∀a b:Int,(decide (a≤b)||decide (b≤a))=true:=by intro a b;simp only[Bool.or_eq_true,decide_eq_true_eq];omega
  let⟨j,e,i,h,k⟩:=List.mergeSort_cons (le:=λx y:Int=>decide<|x≤y) d f a l;have g:=List.pairwise_mergeSort (le:=λx y:Int=>decide<|x≤y) d f (a::l);rw[i] at g ⊢;have n:=srtI_eq l;simp only[srtI];rw[←n,h,insI_app a e j λb m=>by simpa using k b m];cases e with
  | nil=>rfl
  | cons b r=>
   have:decide (a≤b)=true:=(List.pairwise_cons.1 (List.pairwise_append.1 g).2.1).1 b<|List.mem_cons_self ..;simp only[insI,this]
theorem srtI_len(l:List Int): (srtI l).length=l.length:=by rw[←srtI_eq];exact List.length_mergeSort l
theorem srtI_perm(l:List Int): (srtI l).Perm l:=by rw[←srtI_eq];exact List.mergeSort_perm l _
def sortI(fl:Nat)(args:List AV)(H:Heap): Option<|AV×Heap:=match args with
 | []=>none
 | x::r=>match r with
  | _::_=>none
  | []=>match emptyS x with
   | true=>some (.tup [],H)
   | false=>match x with
    | .ms id tot off len=>match Nat.ble fl id with
     | false=>none
     | true=>match H[id]? with
      | none=>none
      | some o=>match o with
       | .blk s es=>match (Nat.beq s 1&&Nat.beq off 0&&Nat.beq len tot&&Nat.beq es.length tot&&Nat.ble tot 1000000) with
        | false=>none
        | true=>match decI es with
         | none=>none
         | some l=>some (.tup [],H.set id<|.blk 1<|(srtI l).map cI)
       | _=>none
    | _=>none
theorem sortI_inv{fl:Nat}{a:List AV}{H H':Heap}{r:AV}(h:sortI fl a H=some (r,H')):
 (∃x,a=[x]∧emptyS x=true∧r=.tup []∧H'=H) ∨
 ∃id l,a=[.ms id l.length 0 l.length]∧l≠[]∧fl≤id∧H[id]?=some (.blk 1<|l.map cI)∧l.length≤1000000∧r=.tup []∧H'=H.set id (.blk 1<|(srtI l).map cI):=by
 unfold sortI at h;repeat' split at h;all_goals first
  | (cases h;done)
  | skip
 ·rename_i he;cases h;exact .inl ⟨_,rfl,he,rfl,rfl⟩
 ·rename_i e _ id tot off len _ c _ _ s es b _ f _ l o;cases h;simp only[Bool.and_eq_true] at f;let⟨⟨⟨⟨i,k⟩,p⟩,j⟩,n⟩:=f;have g:=Nat.eq_of_beq_eq_true i;have e2:=Nat.eq_of_beq_eq_true k;have t:=Nat.eq_of_beq_eq_true p;have d:=Nat.eq_of_beq_eq_true j;have u:=Nat.le_of_ble_eq_true n;have m:=decI_map _ _ o;subst g e2 t m;rw[List.length_map] at d;subst d;refine .inr ⟨_,_,rfl,?_,Nat.le_of_ble_eq_true c,b,u,rfl,rfl⟩;intro q;subst q;exact absurd ‹emptyS _=false› (by simp[emptyS])
def SortIntLaw(P:Program)(f:Nat): Prop:=∀(blk off cap:Nat) (zs:List Int) (w:World),Holds (Value.int .i64) w blk off zs.toArray->blk<w.heap.size->zs.length<4611686018427387904->
 Calls P f #[.slice (some ⟨blk,off,none⟩) zs.length cap] w λe w'=>
  e=.returned (.tuple #[])∧∃n os,w'=grow (putRow (Value.int .i64) (Sort.ahead w n) blk off (zs.mergeSort λx y=>decide<|x≤y).toArray) os
def SortIntNone(P:Program)(f:Nat): Prop:=∀(p:Option Addr) (cap:Nat) (w:World),Calls P f #[.slice p 0 cap] w λe w'=>e=.returned (.tuple #[])∧w'=w
section
variable {P:Program}{T:List AFun}
theorem sortI_ok[GlobT]{f:Nat}(hL:SortIntLaw P f)(hN:SortIntNone P f){fl:Nat}{G:List AV}{r:AV}{H':Heap}{c:Ctx}{vs:Array Value}(c2:sortI fl G c.H=some (r,H'))(W:Sim (ftOf T) c)(g:ArgsR (ftOf T) c G vs):
 Calls P f vs c.w λe w'=>∃v c',e=.returned v∧c'.w=w'∧c'.H=H'∧c'.X=c.X∧Step fl c c'∧Sim (ftOf T) c'∧RV (ftOf T) c' r v:=by
 rcases sortI_inv c2 with⟨x,rfl,he,rfl,rfl⟩ | ⟨id,l,rfl,d1,d3,B,e1,rfl,rfl⟩
 ·let⟨u0,k0,r0⟩:=g.2 0 _ rfl;obtain⟨p,cap,rfl⟩:=empty_rv he r0;have R:vs=#[.slice p 0 cap]:=by
   apply Array.ext
   ·exact g.1
   ·intro i L N;have J:i<1:=by simpa using N
    match i,J with
    | 0,_=>exact Option.some.inj<|(Array.getElem?_eq_getElem L).symm.trans<|by simpa using k0
  subst R;refine (hN p cap c.w).mono λe w' ⟨he,U⟩=>?_;subst U;exact⟨_,c,he,rfl,rfl,rfl,Step.refl fl c,W,.tup [] #[] (λ_=>undefV) rfl (λi x E=>by simp at E) λi x E=>by simp at E⟩
 let⟨u0,k0,r0⟩:=g.2 0 _ rfl;obtain⟨a,cap,s',n,rfl,g1,g2,g3,g4⟩:=r0.ms_inv;have c3:s'=1∧n=l.length:=by
  simp only[shp,B] at g1;simpa [eq_comm] using g1
 obtain⟨rfl,rfl⟩:=c3;have e2:0<l.length:=List.length_pos_iff.2 d1;let⟨f2,d2⟩:=g4 rfl;rcases d2 with⟨_,h0,_⟩ | ⟨b,cs,ty,a',hb,s,e3,rfl,b2⟩
 ·omega
 have b1:cap≠0:=by omega
 obtain rfl:=b2 b1;have R:vs=#[.slice (some ⟨b,0,none⟩) l.length cap]:=by
  apply Array.ext
  ·exact g.1
  ·intro i L N;have J:i<1:=by simpa using N
   match i,J with
   | 0,_=>exact Option.some.inj<|(Array.getElem?_eq_getElem L).symm.trans<|by simpa using k0
 subst R;let⟨f3,f1,a2,Z,M⟩:=W.blk id 1 _ b B hb;rw[s] at a2;cases a2;have Y:b<c.w.heap.size:=W.lt hb;have O:l.length≤cs.size:=by simpa using Z
 have a3:∀(i:Nat) (z:Int),l[i]?=some z->cs[i]?=some (Value.int .i64 z):=by
  intro i z S;let⟨v,h1,_,h3⟩:=M i 0 (AV.lit<|Value.int .i64 z) (by simp[cellE,S,cI]);rw[h3.lit_inv] at h1;simpa using h1
 have hH:Holds (Value.int .i64) c.w b 0 l.toArray:=by
  intro t ht;have b3:t<l.length:=by simpa using ht
  refine⟨?_,by simp[World.frozen?,s]⟩;have:=a3 t l[t]<|List.getElem?_eq_getElem b3;simp only[World.cell?,s,Nat.zero_add];simpa [b3] using this
 refine (hL b 0 cap l c.w hH Y<|by omega).mono λe w' ⟨he,q,os,U⟩=>?_;rw[srtI_eq l] at U;generalize hd:srtI l=d at U;have K:d.length=l.length:=by rw[←hd];exact srtI_len l
 have a1:(putRow (Value.int .i64) (Sort.ahead c.w q) b 0 d.toArray).heap[b]?=some (.cells (putCells (Value.int .i64) 0 d.toArray cs) ty (0,0)):=by
  unfold putRow mapBlock;simp[Array.getElem?_modify,Sort.ahead,s,onCells]
 have o:∀k,k≠b->(putRow (Value.int .i64) (Sort.ahead c.w q) b 0 d.toArray).heap[k]?=c.w.heap[k]?:=by
  intro k hk;unfold putRow mapBlock;rw[Array.getElem?_modify,if_neg<|Ne.symm hk];rfl
 have A:(putRow (Value.int .i64) (Sort.ahead c.w q) b 0 d.toArray).heap.size=c.w.heap.size:=by
  unfold putRow mapBlock;simp[Sort.ahead]
 have u:(putCells (Value.int .i64) 0 d.toArray cs).size=cs.size:=by simp[putCells]
 have C:∀i j x,cellE (d.map cI) i j=some x->∃v,(putCells (Value.int .i64) 0 d.toArray cs)[i*1+j]?=some v∧scalarB v=true∧RV (ftOf T) c x v:=by
  intro i j x E;let⟨e,V,y⟩:=cellE_some E;rw[List.getElem?_map,Option.map_eq_some_iff] at V;obtain⟨z,S,rfl⟩:=V;have hi:i<d.length:=by
   rcases Nat.lt_or_ge i d.length with h | h
   ·exact h
   ·rw[List.getElem?_eq_none h] at S;cases S
  match j,y with
  | 0,y=>
   cases y;refine⟨Value.int .i64 z,?_,rfl,RV.lit _⟩;unfold putCells;rw[Array.getElem?_mapIdx,Nat.mul_one,Nat.add_zero,Array.getElem?_eq_getElem<|by omega];simp only[Option.map_some,Nat.zero_le,true_and,Nat.zero_add,Nat.sub_zero];rw[if_pos<|by simpa using hi];have:d.toArray[i]! =z:=by
    rw[List.getElem?_eq_getElem hi] at S;simp[hi];exact Option.some.inj S
   rw[this]
  | j+1,y=>simp[cI] at y
 have D:∀e∈d.map cI,e.length=1:=by
  intro e he;obtain⟨z,_,rfl⟩:=List.mem_map.1 he;rfl
 have I:=step_set (w':=putRow (Value.int .i64) (Sort.ahead c.w q) b 0 d.toArray) (es':=d.map cI) W d3 B hb s (by simp[K]) u a1 o A rfl rfl rfl<|Nat.le_add_right _ _;have m:=sim_set (w':=putRow (Value.int .i64) (Sort.ahead c.w q) b 0 d.toArray) (es':=d.map cI) W B hb s (by simp[K]) u a1 o A rfl rfl rfl D (by rw[u];simp[K];exact O) C<|Nat.le_add_right _ _;generalize Q:(⟨putRow (Value.int .i64) (Sort.ahead c.w q) b 0 d.toArray,c.X,c.β,c.H.set id<|.blk 1<|d.map cI⟩:Ctx)=c1 at I m;have F:=stepBg (c:=c1) (q:=0) (os:=os);refine⟨.tuple #[],back c1 ⟨grow (Sort.ahead c1.w 0) os,(bare c1).X,λ_=>none,[]⟩,he,?_,?_,?_,I.trans<|bare_step m F,bare_back m F,?_⟩
 ·rw[U,←Q];rfl
 ·rw[←Q];rfl
 ·rw[←Q];rfl
 ·exact .tup [] #[] (λ_=>undefV) rfl (λi x E=>by simp at E) λi x E=>by simp at E
end
theorem sortI_t{fl id:Nat}{l:List Int}{H:Heap}(d:fl≤id)(a:H[id]?=some (.blk 1<|l.map cI))(b:l.length≤1000000):
 sortI fl [.ms id l.length 0 l.length] H=some (.tup [],H.set id<|.blk 1<|(srtI l).map cI):=by
 cases f:l with
 | nil=>
  subst f;have e:emptyS (.ms id (List.length ([]:List Int)) 0<|List.length ([]:List Int))=true:=rfl;simp only[sortI,e,Option.some.injEq,Prod.mk.injEq,true_and];apply List.ext_getElem?;intro i;by_cases g:i=id
  ·subst g;rw[a,List.getElem?_set_self (by
    rcases Nat.lt_or_ge i H.length with h | h
    ·exact h
    ·rw[List.getElem?_eq_none h] at a;cases a)]
   rw[show srtI []=[] from rfl]
  ·rw[List.getElem?_set_ne<|Ne.symm g]
 | cons x r=>
  rw[f] at a b;have j:Nat.ble fl id=true:=Nat.ble_eq_true_of_le d;have e2:Nat.beq (x::r).length (x::r).length=true:=Nat.beq_refl _;have k:Nat.beq ((x::r).map cI).length (x::r).length=true:=by rw[List.length_map];exact Nat.beq_refl _
  have n:Nat.ble (x::r).length 1000000=true:=Nat.ble_eq_true_of_le b;have e:emptyS (.ms id (x::r).length 0 (x::r).length)=false:=rfl;have o:Nat.beq 1 1=true:=rfl;have m:Nat.beq 0 0=true:=rfl;simp only[sortI,j,e2,k,n,e,o,m,a,decI_enc,Bool.and_self]
end
section
open DenT (den cds ag)
theorem ask_of[GlobT]{K:Type}[DecidableEq K]{P:Program}{kt:TypeId}{b:K->Value}(he:∀k x,pureRun P (Op.equal kt (b k)<|b x)=some (decide<|k=x))(k:K):
 ∀(d:List K) (i:Nat),pureRun P (Instr.findAsking kt (b k) (d.map λx=>{ key:=b x,val:=.bool false,born:=0 }) i)=some ((d.findIdx? λx=>decide<|x=k).map λj=>(i+j,.bool false))
 | [],i=>rfl
 | x::r,i=>by
  have he:pureRun P (Op.equal kt (b k)<|b x)=some (decide<|x=k):=(he k x).trans<|congrArg some<|decide_eq_decide.2 ⟨λh=>h.symm,λh=>h.symm⟩;simp only[List.map_cons,Instr.findAsking,pureRun_bind,he,Option.bind_some,List.findIdx?_cons];cases decide (x=k) with
  | true=>simp[pureRun_pure]
  | false=>
   simp only[Bool.false_eq_true,if_false,ask_of ‹∀k x,_› k r<|i+1];cases r.findIdx? λx=>decide (x=k) with
   | none=>rfl
   | some j=>simp;omega
theorem keyA[GlobT]{K:Type}(g:DecidableEq K){P:Program}{kt:TypeId}{b:K->Value}{u:TypeDesc}(l:pureRun P (underlying kt)=some u)(i:∀k x r,Instr.findNow u (b k) ({ key:=b x,val:=.bool false,born:=0 }::r) 0=none)(he:∀k x,pureRun P (Op.equal kt (b k)<|b x)=some (decide<|k=x))(p:∀e k,pureRun P (Instr.checkKey e 10000 kt<|b k)=some ())(q:∀k,Instr.sameBits 10000 (b k) (b k)=true): KeyOK P kt b where
 find:=λk m=>by
  unfold findA;simp only[Instr.findKey,pureRun_bind,l,Option.bind_some,List.map_map,Function.comp_def];cases m with
  | nil=>
   have:=ask_of he k [] 0;simp only[List.map_nil] at this ⊢;cases h:Instr.findNow u (b k) [] 0 with
   | none=>simp only[this];rfl
   | some j=>cases u<;>first | (cases h;rfl) | (cases h)
  | cons x r=>
   simp only[List.map_cons,i];have:=ask_of he k (x::r) 0;simp only[List.map_cons] at this;simp only[this];cases (x::r).findIdx? λx=>decide (x=k) with
   | none=>rfl
   | some j=>simp
 chk:=p;same:=q
section
variable [RowT][GlobT]{P:Program}{T:List AFun}
theorem insOK{vi k:Nat}(b:GlobT.prim vi=some (prim0<|insG (cds k).length)): POK T vi<|.ins k:=
 ⟨_,b,λ_ _ _ _ _ _ _ d e a h c g=>insG_of d e a c g⟩
theorem ordOK{vi k:Nat}{F:List (den k)->List (den k)}(u:GlobT.prim vi=some (prim0 sortI))(f:den k->Int)(n:∀x,cel k x=[.lit<|.int .i64<|f x])(t:(cds k).length=1)(o:∀l,(F l).map f=srtI (l.map f)): POK T vi<|.ord k F:=by
 refine⟨_,u,λfl H id l es j q s r=>?_⟩;have m:∀{l:List<|den k} {es:List<|List AV},Ql k l es->es=(l.map f).map cI:=by
  intro l;induction l with
  | nil=>intro es h;cases es with
   | nil=>rfl
   | cons=>exact h.elim
  | cons x l i=>
   intro es h;cases es with
   | nil=>exact h.elim
   | cons e es=>
    rw[i h.2];have g:Qr (cel k x) e:=h.1;rw[n] at g;match e,g with
    | [a],g=>rw[(Qh.p (H:=[]) _ _ g.1).inL];rfl
 have d:∀l:List<|den k,Ql k l<|(l.map f).map cI:=by
  intro l;induction l with
  | nil=>trivial
  | cons x l i=>exact⟨by show Qr (cel k x)<|cI<|f x;rw[n];exact⟨.lit _,trivial⟩,i⟩
 have c:(F l).length=l.length:=by
  have:=congrArg List.length<|o l;rw[List.length_map,srtI_len,List.length_map] at this;exact this
 have e:=m s;subst e;refine⟨((F l).map f).map cI,?_,d _,c⟩;rw[t] at q ⊢;have:=sortI_t (fl:=fl) (id:=id) (l:=l.map f) (H:=H) j q (by simpa using r);rw[List.length_map] at this;rw[this,o]
theorem srtI_id(l:List Int): (srtI l).map (λx=>x)=srtI (l.map λx=>x):=by simp
def contK(vi ks kb:Nat)(hp:GlobT.prim vi=some (prim0 contA))(F:Nat->PrT [.v ks,.v ks]->Option (PrT<|[kb].map .v))(h:∀n p r,F n p=some r->∃m s t b,n=m+1∧tvs [.v ks,.v ks] p=[.lit<|.string s,.lit<|.string t]∧contF n s t=some b∧rdTs 2 [] ([kb].map .v) [.lit<|.bool b]=some r): Con P T:=
 ⟨vi,⟨[.v ks,.v ks],[kb],false,F⟩,.of0 (by
  intro n p r hr aw q
  obtain⟨m,s,t,b,rfl,h1,h2,h3⟩:=h n p r hr
  have q:Qc [] (tvs [.v ks,.v ks] p) aw:=q
  rw[h1] at q
  obtain⟨a,a',rfl⟩:∃a a',aw=[a,a']:=by
   match aw,q with
   | [a,a'],_=>exact⟨a,a',rfl⟩
  have e1:=q.1.inL
  have e2:=q.2.1.inL
  subst e1;subst e2
  have e:evF P T (m+1) 0 vi [.lit<|.string s,.lit<|.string t] []=some (.lit<|.bool b,[]):=by
   simp only[evF,hp,contA]
   simp only[contF] at h2
   split at h2
   ·rename_i hb;cases h2;simp only[hb]
   ·cases h2
  exact⟨[.lit<|.bool b],[.lit<|.bool b],[],[],e,trivial,⟨Qh.l _,trivial⟩,h3,λh=>by cases h⟩) rfl⟩
def clnK(vi k ks:Nat)(hc:ClnOK T vi k)(F:Nat->PrT [.w ks]->Option (PrT<|[ks].map .v))(L:PrT [.w ks]->List (den k))(h:∀n p r,F n p=some r->∃m,n=m+1∧tvs [.w ks] p=[.vw k<|L p]∧(L p).length≤1000000∧rdTs 2 [.lst k<|L p] ([ks].map .v) [.ms 0 none]=some r∧(L p=[]->rdTs 2 [] ([ks].map .v) [.emp false]=some r)): Con P T:=
 ⟨vi,⟨[.w ks],[ks],false,F⟩,.of0 (by
  intro n p r hr aw q
  obtain⟨m,rfl,h1,h2,h3,h4⟩:=h n p r hr
  have q:Qc [] (tvs [.w ks] p) aw:=q
  rw[h1] at q
  obtain⟨a,rfl⟩:∃a,aw=[a]:=by
   match aw,q with
   | [a],_=>exact⟨a,rfl⟩
  obtain⟨fid,bytes,z,hT,h0,hb⟩:=hc
  obtain⟨e1,e2,e3⟩:=cln_ev (P:=P) (n:=m) (G:=[]) hT h0
  obtain⟨es,hk,hq⟩:=(q.1.pu trivial).inV
  have em:L p=[]->es=[]:=λe=>List.length_eq_zero_iff.1<|by have:=hq.len;rw[e] at this;exact this
  cases es with
  | nil=>
   have e:L p=[]:=List.length_eq_zero_iff.1 hq.len.symm
   have fin:∀v,evF P T (m+1) 0 vi [a] []=some (v,[])->(v=.lit nilS∨v=.sl false [])->∃vs aw' A H,evF P T (m+1) 0 vi [a] []=some (packA aw',A)∧Qs H A∧Qc H vs aw'∧rdTs 2 H ([ks].map .v) vs=some r∧(false=true->keepB H vs=true):=by
    intro v hv hd
    refine⟨[.emp false],[v],[],[],hv,trivial,⟨.p _ _<|.emp _ _ ?_,trivial⟩,h4 e,λh=>by cases h⟩
    rcases hd with h | h
    ·exact .inl h
    ·exact .inr<|.inr ⟨rfl,h⟩
   rcases hk with⟨rfl,_⟩ | hk | hk
   ·exact fin _ e1<|.inl rfl
   ·exact fin _ (e2 a<|.inl hk)<|.inr rfl
   ·exact fin _ (e2 a<|.inr hk)<|.inr rfl
  | cons e es=>
   have hk:(∃f,a=.sl f (e::es))∨a=.vw (e::es):=by
    rcases hk with⟨_,hk⟩ | hk
    ·cases hk
    ·exact hk
   have g:=e3 a e es hk (hq.all rfl)<|room_le (by rw[hq.len];exact h2) hb
   refine⟨[.ms 0 none],[.ms 0 (e::es).length 0 (e::es).length],_,[.lst k<|L p],g,⟨⟨_,rfl,hq⟩,trivial⟩,⟨?_,trivial⟩,h3,λh=>by cases h⟩
   rw[hq.len]
   exact .ms 0 k (L p) rfl) rfl⟩
theorem cl_h{α:Type}{n:Nat}{l a:List α}(h:clF n l=some a): ∃m,n=m+1∧a=l∧l.length≤1000000:=by
 cases n with
 | zero=>cases h
 | succ m=>
  let⟨c,b⟩:=app_some h;exact⟨m,rfl,by simpa using c,by simpa using b⟩
theorem cont_h{n:Nat}{s t:ByteArray}{b:Bool}(h:contF n s t=some b): ∃m,n=m+1:=by
 cases n with
 | zero=>cases h
 | succ m=>exact⟨m,rfl⟩
end
end
section
variable {P:Program}{T:List AFun}{cf:CF}{fl lf:Nat}
def reaPost: List AOper:=[⟨some 5,.mov (.tmp 7),none⟩,⟨some 8,.extract (.tmp 5) 0,none⟩,⟨some 9,.extract (.tmp 5) 1,none⟩,⟨some 3,.alloc [.int .i64 0],none⟩,⟨none,.store 1 (.tmp 3) (.tmp 8),none⟩,⟨some 4,.mov (.tmp 9),none⟩]
def reaW: ACode:=.seq (.region false [] [⟨some 10,.mov (.tmp 4),none⟩]) (.cond (.tmp 10) (.seq (.region false [] [⟨some 11,.fieldAddr 0 (.tmp 3),none⟩,⟨some 12,.load false 1 (.tmp 11),none⟩,⟨some 2,.mov (.tmp 12),none⟩]) .ret) .skip)
def chkRea[GlobT](P:Program)(T:List AFun)(f:Nat): Bool:=match P.funcs[f]? with
 | some fn=>match fn.body with
  | some (.seq (.region _ a0 false) (.seq (.seq (.region _ a1 false) W) _))=>match a1.toList with
   | m1::ta::rest=>chkOpers P T a0 [⟨some 2,.mov (.lit (.int .i64 0)),none⟩] a0.toList&&(chkOpers P T a1 [⟨some 6,.mov (.tmp 0),none⟩] [m1]&&(chkOpers P T a1 reaPost rest&&(chkC P T reaW W&&(Nat.beq fn.ntmps 13&&(chkRes P [.tmp 2] fn.results.toList&&(isStruct P GlobT.ft&&(ta.guard.isNone&&(ta.dst==some 7&&match ta.op with
    | .typeAssert (.tmp 6) _ t true=>Nat.beq t GlobT.ft
    | _=>false))))))))
   | _=>false
  | _=>false
 | none=>false
theorem rea_ok[GlobT](hm:P.follows .mixedOrders=true)(hfo:FlOK cf)(hcf:CfOK P T cf)(hfn:FnsOK P T){f:Nat}(h:chkRea P T f=true){c:Ctx}(hs:Sim (ftOf T) c)(n:Int): Calls P f #[fltV n] c.w λe w'=>e=.returned (.int .i64 n)∧∃c',c'.w=w'∧c'.H=c.H∧c'.X=c.X∧Step fl c c'∧Sim (ftOf T) c':=by
 unfold chkRea at h
 split at h
 case h_2=>cases h
 rename_i fn hf
 split at h
 case h_2=>cases h
 rename_i i0 a0 i1 a1 W Z hbody
 split at h
 case h_2=>cases h
 rename_i m1 ta rest ha1
 simp only[Bool.and_eq_true,Option.isNone_iff_eq_none,beq_iff_eq] at h
 let⟨h1,h2,h3,h4,h5,h6,h7,h8,h9,h10⟩:=h
 have h5:=Nat.eq_of_beq_eq_true h5
 split at h10
 case h_2=>cases h10
 rename_i xT at_ hop
 have h10:=Nat.eq_of_beq_eq_true h10
 subst h10
 have hb:=bare_sim hs
 refine calls_of_wp hf hbody ?_
 rw[h5]
 have hargs:ArgsR (ftOf T) (bare c) [.lit (fltV n)] #[fltV n]:=⟨rfl,λi x e=>by
  cases i with
  | zero=>simp at e;subst e;exact⟨_,rfl,RV.lit _⟩
  | succ i=>simp at e⟩
 have htr:TR (ftOf T) (bare c) ([.lit (fltV n)]++List.replicate 12 (.lit undefV)) (#[fltV n]++Array.replicate (13-1) undef):=entry_tr (n:=13) hargs
 show Code.wp P _ _ _ (bare c).w
 refine wp_seq (wp_region ?_)
 have hs0:a0.size=1:=by have:=(chkOpers_get h1).1;simpa using this.symm
 rw[List.range_eq_range',hs0,←List.append_nil (List.range' 0 _)]
 refine ops_go (fl:=0) hcf hfn _ a0.toList 0 (bare c) _ _ _ h1 (λj o e=>by simpa using e) hb htr (Nat.zero_le _) (show evOps P cf 0 _ ⟨_,[]⟩=some ⟨_,[]⟩ from rfl) ?_
 intro a2 c2 e1 e2 e3 e4 e5
 refine wp_seq (wp_seq (wp_region ?_))
 have hsz:a1.size=rest.length+2:=by rw[←Array.length_toList,ha1];rfl
 have hgo:∀j,a1[j]?=(m1::ta::rest)[j]?:=λj=>by rw[←ha1,Array.getElem?_toList]
 have er:List.range a1.size=List.range' 0 1++(1::List.range' 2 rest.length):=by rw[List.range_eq_range',hsz];rfl
 rw[er]
 refine ops_go (fl:=0) hcf hfn [⟨some 6,.mov (.tmp 0),none⟩] [m1] 0 c2 a2 _ _ h2 (λj o e=>?_) e3 e4 (Nat.zero_le _) (show evOps P cf 0 _ ⟨_,c2.H⟩=some ⟨_,[]⟩ by rw[e1];rfl) ?_
 ·cases j with
  | zero=>rw[hgo];simpa using e
  | succ j=>simp at e
 intro a3 c3 f1 f2 f3 f4 f5
 rw[wpOps_cons]
 unfold wpOp
 rw[hgo]
 simp only[List.getElem?_cons_succ,List.getElem?_cons_zero]
 rw[if_pos (by simp[Region.wanted,h8])];left
 have hev:a3.eval (.tmp 6)=fltV n:=by
  let⟨v,y1,y2⟩:=f4.2 6 (.lit (fltV n)) rfl
  rw[y2.lit_inv] at y1
  simp[Act.eval,y1]
 have hstr:∃fs,P.underlying GlobT.ft=some (.struct fs):=by
  unfold isStruct at h7;split at h7
  ·rename_i fs q;exact⟨fs,q⟩
  ·cases h7
 let⟨fs,hfs⟩:=hstr
 have r1:(execOp a3.eval ta).run P c3.w=.ok (.value (.tuple #[.agg #[.int .i64 n],.bool true])) c3.w:=by
  simp[execOp,hop,Instr.typeAssert,hev,fltV,run_underlying hfs]
 unfold Oper.wp;rw[r1,Oper.upon_value,h9,←List.append_nil (List.range' 2 rest.length),show rest.length=reaPost.length from ((chkOpers_get h3).1).symm]
 have htr3:=TR.put (d:=some 7) f4 (show RV (ftOf T) c3 (.tup [.agg [.lit (.int .i64 n)],.lit (.bool true)]) (.tuple #[.agg #[.int .i64 n],.bool true]) from by
  refine .tup _ _ (λi=>if i=0 then .agg #[.int .i64 n] else .bool true) rfl ?_ ?_
  ·intro i y h
   match i with
   | 0=>rfl
   | 1=>rfl
   | i+2=>simp at h
  ·intro i y h
   match i with
   | 0=>
    simp at h;subst h
    refine .agg _ _ (λ_=>.int .i64 n) rfl ?_ ?_
    ·intro i y h
     match i with
     | 0=>exact⟨rfl,rfl⟩
     | i+1=>simp at h
    ·intro i y h
     match i with
     | 0=>simp at h;subst h;exact RV.lit _
     | i+1=>simp at h
   | 1=>simp at h;subst h;simpa using RV.lit _
   | i+2=>simp at h)
 refine ops_go (fl:=0) hcf hfn reaPost rest 2 c3 _ _ _ h3 (λj o e=>?_) f3 htr3 (Nat.zero_le _) (show evOps P cf 0 reaPost ⟨_,c3.H⟩=some ⟨_,[.blk 1 [[.lit (.int .i64 n)]]]⟩ by rw[f1];rfl) ?_
 ·rw[hgo,show 2+j=j+1+1 by omega,List.getElem?_cons_succ,List.getElem?_cons_succ];exact e
 intro a4 c4 g1 g2 g3 g4 g5
 show W.wp P _ a4 c4.w
 refine code_sound (lf:=0) (fl:=0) hm hfo hcf hfn reaW W h4 c4 a4 _ .ret _ _ g3 g4 (Nat.zero_le _) (show evC P cf 0 0 reaW ⟨_,c4.H⟩=some (.ret,⟨_,[.blk 1 [[.lit (.int .i64 n)]]]⟩) by rw[g1];rfl) ?_
 intro a5 c5 k1 k2 k3 k4 k5
 simp only[exitOf,Exit.then,bodyPost]
 let⟨v,N,G⟩:=results_run (fn:=fn) (rs:=[.tmp 2]) (vs:=[.lit (.int .i64 n)]) k3 k1 k4 h6 rfl
 have hv:v=.int .i64 n:=G.lit_inv
 subst hv
 have hst:Step 0 (bare c) c5:=e2.trans (f2.trans (g2.trans k2))
 exact⟨by rw[k5,g5];simp[put_defers,f5,e5],_,N,rfl,back c c5,rfl,rfl,rfl,bare_step hs hst,bare_back hs hst⟩
end
section
variable {P:Program}{T:List AFun}{cf:CF}{fl lf:Nat}
theorem evl[GlobT]{FT:Nat->Option Nat}{c:Ctx}{tm:List AV}{a:Act}{t:Nat}{v:Value}(h:TR FT c tm a.tmps)(e:tm[t]?=some (.lit v)): a.eval (.tmp t)=v:=by
 let⟨u,y1,y2⟩:=h.2 t _ e
 rw[y2.lit_inv] at y1
 simp[Act.eval,y1]
theorem mov_run[GlobT]{ops:Array Oper}{d s:Nat}{o:Oper}(h:chkOper P T ops ⟨some d,.mov (.tmp s),none⟩ o=true): o.dst=some d∧o.guard=none∧∀(ρ:Operand->Value) (w:World),(execOp ρ o).run P w=.ok (.value (ρ (.tmp s))) w:=by
 simp only[chkOper,Bool.and_eq_true,beq_iff_eq] at h;let⟨⟨a,b⟩,e⟩:=h
 refine⟨a.symm,?_,?_⟩
 ·cases g:o.guard with
  | none=>rfl
  | some q=>rw[g] at b;cases b
 intro ρ w
 simp only[chkOp] at e;split at e
 ·rename_i y q;cases y<;>simp only[chkOpd,Bool.false_eq_true,beq_iff_eq] at e;subst e;simp[execOp,q]
 ·rename_i y q;cases y<;>simp only[chkOpd,Bool.false_eq_true,beq_iff_eq] at e;subst e;simp[execOp,q]
 ·cases e
def isRecO(o:Op): Bool:=match o with
 | .call ⟨.builtin .recover,_,_⟩=>true
 | _=>false
def isNeqO(t:TypeId)(o:Op): Bool:=match o with
 | .binOp .neq t' (.tmp 4) (.const .nilIface) _=>Nat.beq t' t
 | _=>false
def chkClo[GlobT](P:Program)(T:List AFun)(g vr fr n1:Nat)(z:List Value)(t:TypeId): Bool:=match P.funcs[g]? with
 | some fn=>match fn.body with
  | some (.seq (.region _ a0 false) (.seq (.region _ a1 false) (.cond (.tmp k) (.region _ a2 false) .skip)))=>match a0.toList,a1.toList,a2.toList with
   | [x1,x2],[y1,y2],[w1,w2,w3,w4,w5]=>Nat.beq k 5&&(chkOper P T a0 ⟨some 2,.mov (.tmp 3),none⟩ x2&&(chkOper P T a1 ⟨some 4,.mov (.tmp 2),none⟩ y1&&(chkOpers P T a2 [⟨some 6,.build z [],none⟩,⟨some 7,.mov (.tmp 2),none⟩] [w1,w2]&&(chkOper P T a2 ⟨some 8,.call false vr [.tmp 7],none⟩ w3&&(chkOpers P T a2 [⟨none,.store n1 (.tmp 0) (.tmp 6),none⟩,⟨none,.store 1 (.tmp 1) (.tmp 8),none⟩] [w4,w5]&&(ftOf T vr==some fr&&(Nat.beq fn.ntmps 9&&(fn.results.isEmpty&&(z.length==n1&&(x1.guard.isNone&&(x1.dst==some 3&&(y2.guard.isNone&&(y2.dst==some 5&&isRecO x1.op&&isNeqO t y2.op)))))))))))))
   | _,_,_=>false
  | _=>false
 | none=>false
structure CloS[GlobT](P:Program)(T:List AFun)(g vr fr n1:Nat)(z:List Value)(t:TypeId)(fn:Func)(i0 i1 i2:Nat)(x1 x2 y1 y2 w1 w2 w3 w4 w5:Oper): Prop where
 hf:P.funcs[g]?=some fn
 hb:fn.body=some (.seq (.region i0 #[x1,x2] false) (.seq (.region i1 #[y1,y2] false) (.cond (.tmp 5) (.region i2 #[w1,w2,w3,w4,w5] false) .skip)))
 kx2:chkOper P T #[x1,x2] ⟨some 2,.mov (.tmp 3),none⟩ x2=true
 ky1:chkOper P T #[y1,y2] ⟨some 4,.mov (.tmp 2),none⟩ y1=true
 kw12:chkOpers P T #[w1,w2,w3,w4,w5] [⟨some 6,.build z [],none⟩,⟨some 7,.mov (.tmp 2),none⟩] [w1,w2]=true
 kw3:chkOper P T #[w1,w2,w3,w4,w5] ⟨some 8,.call false vr [.tmp 7],none⟩ w3=true
 kw45:chkOpers P T #[w1,w2,w3,w4,w5] [⟨none,.store n1 (.tmp 0) (.tmp 6),none⟩,⟨none,.store 1 (.tmp 1) (.tmp 8),none⟩] [w4,w5]=true
 ft:ftOf T vr=some fr
 nt:fn.ntmps=9
 rs:fn.results=#[]
 zl:z.length=n1
 xg:x1.guard=none
 xd:x1.dst=some 3
 yg:y2.guard=none
 yd:y2.dst=some 5
 xo:∃as1 ts,x1.op=.call ⟨.builtin .recover,as1,ts⟩
 yo:∃u,y2.op=.binOp .neq t (.tmp 4) (.const .nilIface) u
theorem chkClo_spec[GlobT]{g vr fr n1:Nat}{z:List Value}{t:TypeId}(h:chkClo P T g vr fr n1 z t=true): ∃fn i0 i1 i2 x1 x2 y1 y2 w1 w2 w3 w4 w5,CloS P T g vr fr n1 z t fn i0 i1 i2 x1 x2 y1 y2 w1 w2 w3 w4 w5:=by
 unfold chkClo at h
 split at h
 case h_2=>cases h
 rename_i fn hf
 split at h
 case h_2=>cases h
 rename_i i0 a0 i1 a1 k i2 a2 hb
 split at h
 case h_2=>cases h
 rename_i x1 x2 y1 y2 w1 w2 w3 w4 w5 e0 e1 e2
 have e0:a0=#[x1,x2]:=by apply Array.ext';simpa using e0
 have e1:a1=#[y1,y2]:=by apply Array.ext';simpa using e1
 have e2:a2=#[w1,w2,w3,w4,w5]:=by apply Array.ext';simpa using e2
 subst e0 e1 e2
 simp only[Bool.and_eq_true,Option.isNone_iff_eq_none,beq_iff_eq] at h
 let⟨h1,h2,h3,h4,h5,h6,h7,h8,h9,h10,h11,h12,h13,⟨h14,h15⟩,h16⟩:=h
 have h1:=Nat.eq_of_beq_eq_true h1
 subst h1
 have xo:∃as1 ts,x1.op=.call ⟨.builtin .recover,as1,ts⟩:=by
  revert h15;generalize x1.op=o;intro h15;unfold isRecO at h15;split at h15
  ·exact⟨_,_,rfl⟩
  ·cases h15
 have yo:∃u,y2.op=.binOp .neq t (.tmp 4) (.const .nilIface) u:=by
  revert h16;generalize y2.op=o;intro h16;unfold isNeqO at h16;split at h16
  ·rename_i t' u
   have:=Nat.eq_of_beq_eq_true h16
   subst this
   exact⟨u,rfl⟩
  ·cases h16
 exact⟨fn,i0,i1,i2,x1,x2,y1,y2,w1,w2,w3,w4,w5,{ hf:=hf,hb:=hb,kx2:=h2,ky1:=h3,kw12:=h4,kw3:=h5,kw45:=h6,ft:=h7,nt:=Nat.eq_of_beq_eq_true h8,rs:=by simpa using h9,zl:=h10,xg:=h11,xd:=h12,yg:=h13,yd:=h14,xo:=xo,yo:=yo }⟩
section
variable {g vr fr n1:Nat}{z:List Value}{t:TypeId}{fn:Func}{i0 i1 i2:Nat}{x1 x2 y1 y2 w1 w2 w3 w4 w5:Oper}
theorem clo_head[GlobT](h:CloS P T g vr fr n1 z t fn i0 i1 i2 x1 x2 y1 y2 w1 w2 w3 w4 w5){c:Ctx}{p1 p2:AV}{u1 u2 v:Value}{b:Bool}(hp1:RV (ftOf T) c p1 u1)(hp2:RV (ftOf T) c p2 u2)(hN:pureRun P (binOp .neq t v .nilIface)=some (.bool b))(hv:v=.nilIface∨∃n,v=fltV n){c₀:Frame}{cs cs':List Frame}{Q:Exit->Act->List Frame->World->Prop}
 (hrec:match recoverD (c₀::cs) with | some (u,k)=>u=v∧k=cs' | none=>v=.nilIface∧cs'=c₀::cs)
 (hQ:∀a:Act,a.defers=[]->TR (ftOf T) c ([p1,p2,.lit v,.lit v,.lit v,.lit (.bool b)]++List.replicate 3 (.lit undefV)) a.tmps->(Code.cond (.tmp 5) (.region i2 #[w1,w2,w3,w4,w5] false) .skip).wp P (λe a' w'=>Q e a' cs' w') a c.w):
 (Code.seq (.region i0 #[x1,x2] false) (.seq (.region i1 #[y1,y2] false) (.cond (.tmp 5) (.region i2 #[w1,w2,w3,w4,w5] false) .skip))).wpS P Q { tmps:=#[u1,u2]++Array.replicate (fn.ntmps-2) undef,defers:=[] } (c₀::cs) c.w:=by
 rw[h.nt]
 have hargs:ArgsR (ftOf T) c [p1,p2] #[u1,u2]:=⟨rfl,λi x e=>by
  match i with
  | 0=>simp at e;subst e;exact⟨_,rfl,hp1⟩
  | 1=>simp at e;subst e;exact⟨_,rfl,hp2⟩
  | i+2=>simp at e⟩
 have T0:TR (ftOf T) c ([p1,p2]++List.replicate 7 (.lit undefV)) (#[u1,u2]++Array.replicate (9-2) undef):=entry_tr (n:=9) hargs
 generalize ha0:({ tmps:=#[u1,u2]++Array.replicate (9-2) undef,defers:=[] }:Act)=a0
 have T0':TR (ftOf T) c ([p1,p2]++List.replicate 7 (.lit undefV)) a0.tmps:=by rw[←ha0];exact T0
 have d0:a0.defers=[]:=by rw[←ha0]
 let⟨as1,ts,xo⟩:=h.xo
 let⟨u,yo⟩:=h.yo
 have T1:=TR.put (d:=some 3) T0' (RV.lit (c:=c) (FT:=ftOf T) v)
 let⟨xd2,xg2,xr2⟩:=mov_run h.kx2
 let⟨yd1,yg1,yr1⟩:=mov_run h.ky1
 refine wpS_seq (wpS_region ?_)
 show wpOpsS P #[x1,x2] _ [0,1] a0 (c₀::cs) c.w
 generalize hQ0:Exit.thenS (fun a cs w=>(Code.seq (.region i1 #[y1,y2] false) (.cond (.tmp 5) (.region i2 #[w1,w2,w3,w4,w5] false) .skip)).wpS P Q a cs w) Q=Q0
 rw[wpOpsS]
 simp only[show (#[x1,x2]:Array Oper)[0]?=some x1 from rfl]
 rw[if_pos (by simp[Region.wanted,h.xg])]
 have r0:(execOp a0.eval x1).run P c.w=.ok .recover c.w:=by simp[execOp,xo,resolve,invoke,builtin]
 rw[r0]
 simp only
 have key:∀k,k=cs'->wpOpsS P #[x1,x2] Q0 [1] (a0.put x1.dst v) k c.w:=by
  intro k hk
  subst hk
  rw[wpOpsS]
  simp only[show (#[x1,x2]:Array Oper)[1]?=some x2 from rfl]
  rw[if_pos (by simp[Region.wanted,xg2]),xr2,h.xd,xd2]
  simp only[Oper.upon,wpOpsS]
  subst hQ0
  have e3:(a0.put (some 3) v).eval (.tmp 3)=v:=evl T1 rfl
  simp only[xd2,e3]
  have T2:=TR.put (d:=some 2) T1 (RV.lit (c:=c) (FT:=ftOf T) v)
  show Code.wpS P _ Q _ k c.w
  refine wpS_of_wp (wp_seq (wp_region ?_))
  show wpOps P #[y1,y2] _ [0,1] _ c.w
  rw[wpOps_cons]
  unfold wpOp
  simp only[show (#[y1,y2]:Array Oper)[0]?=some y1 from rfl]
  rw[if_pos (by simp[Region.wanted,yg1])];left
  unfold Oper.wp;rw[yr1,Oper.upon_value,yd1,wpOps_cons]
  have e2:((a0.put (some 3) v).put (some 2) v).eval (.tmp 2)=v:=evl T2 rfl
  rw[e2]
  have T3:=TR.put (d:=some 4) T2 (RV.lit (c:=c) (FT:=ftOf T) v)
  unfold wpOp
  simp only[show (#[y1,y2]:Array Oper)[1]?=some y2 from rfl]
  rw[if_pos (by simp[Region.wanted,h.yg])];left
  have e4:(((a0.put (some 3) v).put (some 2) v).put (some 4) v).eval (.tmp 4)=v:=evl T3 rfl
  have ry:(execOp (((a0.put (some 3) v).put (some 2) v).put (some 4) v).eval y2).run P c.w=.ok (.value (.bool b)) c.w:=by
   have g1:(eqGuard .neq t (.tmp 4) (.const .nilIface) v .nilIface).run P c.w=.ok () c.w:=by
    rcases hv with rfl | ⟨n,rfl⟩
    ·simp[eqGuard]
    ·simp[eqGuard,fltV]
   have e5:(((a0.put (some 3) v).put (some 2) v).put (some 4) v).eval (.const .nilIface)=.nilIface:=rfl
   simp[execOp,yo,e4,e5,g1,run_of_pureRun hN]
  unfold Oper.wp;rw[ry,Oper.upon_value,h.yd]
  have T4:=TR.put (d:=some 5) T3 (RV.lit (c:=c) (FT:=ftOf T) (.bool b))
  exact hQ _ (by simp only[put_defers];exact d0) T4
 split at hrec
 ·rename_i q k hq
  let⟨hq1,hq2⟩:=hrec
  subst hq1 hq2
  rw[hq]
  exact key _ rfl
 ·rename_i hq
  let⟨hq1,hq2⟩:=hrec
  subst hq1 hq2
  rw[hq]
  exact key _ rfl
theorem clo_set[GlobT](hm:P.follows .mixedOrders=true)(hfo:FlOK cf)(hcf:CfOK P T cf)(hfn:FnsOK P T)(h:CloS P T g vr fr n1 z t fn i0 i1 i2 x1 x2 y1 y2 w1 w2 w3 w4 w5)(hr:chkRea P T fr=true){c:Ctx}(hs:Sim (ftOf T) c)(hfl:fl≤c.H.length){p1 p2:AV}{H1 H2:Heap}{n:Int}{x y v6:AV}(hs1:stCells fl c.H p1 (z.map .lit)=some H1)(hs2:stCells fl H1 p2 [.lit (.int .i64 n)]=some H2){a:Act}{Q:Exit->Act->World->Prop}(htr:TR (ftOf T) c ([p1,p2,.lit (fltV n),.lit (fltV n),.lit (fltV n),.lit (.bool true)]++List.replicate 3 (.lit undefV)) a.tmps)(hd:a.defers=[])
 (hQ:∀a' c',c'.H=H2->c'.X=c.X->Step fl c c'->Sim (ftOf T) c'->a'.defers=[]->Q .normal a' c'.w): (Code.region i2 #[w1,w2,w3,w4,w5] false).wp P Q a c.w:=by
 refine wp_region ?_
 show wpOps P #[w1,w2,w3,w4,w5] Q (List.range' 0 2++[2,3,4]) a c.w
 refine ops_go (fl:=fl) hcf hfn _ [w1,w2] 0 c a _ _ h.kw12 (λj o e=>?_) hs htr hfl (show evOps P cf fl _ ⟨_,c.H⟩=some ⟨[p1,p2,.lit (fltV n),.lit (fltV n),.lit (fltV n),.lit (.bool true),.agg (z.map .lit),.lit (fltV n),.lit undefV],c.H⟩ by simp[evOps,evOper,wantA,evOp,fillA,putA,getOpd]) ?_
 ·match j with
  | 0=>simpa using e
  | 1=>simpa using e
  | j+2=>simp at e
 intro a1 c1 e1 e2 e3 e4 e5
 rw[wpOps_cons]
 let⟨kd,kg,f,as1,ts,ko,kf,ka⟩:=call_spec h.kw3
 rw[h.ft] at kf;cases kf
 unfold wpOp
 simp only[show (#[w1,w2,w3,w4,w5]:Array Oper)[2]?=some w3 from rfl]
 rw[if_pos (by simp[Region.wanted,kg])];left
 have hargs:=argsR_of e3 e4 ka
 have hl:as1.toList.length=1:=by
  have:∀(l:List AOpd) (m:List Operand),chkOpds T l m=true->l.length=m.length:=by
   intro l;induction l with
   | nil=>intro m q;cases m with
    | nil=>rfl
    | cons _ _=>cases q
   | cons b l i=>intro m q;cases m with
    | nil=>cases q
    | cons _ m=>simp only[chkOpds,Bool.and_eq_true] at q;simp[i m q.2]
  exact (this _ _ ka).symm
 have hval:as1.map a1.eval=#[fltV n]:=by
  apply Array.ext'
  match hm:as1.toList,hl with
  | [o],_=>
   rw[hm] at hargs
   let⟨v,q1,q2⟩:=hargs.2 0 (.lit (fltV n)) rfl
   have:=q2.lit_inv
   subst this
   simp at q1
   simp[hm,q1]
 let⟨fn',B,D,C⟩:=hfn vr fr h.ft
 have er:(execOp a1.eval w3).run P c1.w=.ok (.enter fr #[fltV n]) c1.w:=by
  rw[←callFunc_run B D C c1.w,←hval];simp[execOp,ko,resolve,Act.eval,Deferred.ofValue,invoke]
 unfold Oper.wp;rw[er,Oper.upon_enter]
 refine (rea_ok (fl:=fl) hm hfo hcf hfn hr e3 n).mono ?_
 rintro e w' ⟨rfl,c2,rfl,q2,q3,q4,q5⟩
 simp only
 rw[←kd]
 have T2:=TR.put (d:=some 8) (e4.step q4) (RV.lit (c:=c2) (FT:=ftOf T) (.int .i64 n))
 show wpOps P #[w1,w2,w3,w4,w5] Q (List.range' 3 2++[]) _ c2.w
 refine ops_go (fl:=fl) hcf hfn _ [w4,w5] 3 c2 _ _ ⟨[p1,p2,.lit (fltV n),.lit (fltV n),.lit (fltV n),.lit (.bool true),.agg (z.map .lit),.lit (fltV n),.lit (.int .i64 n)],H2⟩ h.kw45 (λj o e=>?_) q5 T2 (Nat.le_trans hfl (e2.trans q4).len) ?_ ?_
 ·match j with
  | 0=>simpa using e
  | 1=>simpa using e
  | j+2=>simp at e
 ·have hH:c2.H=c.H:=q2.trans e1
  have hz:(z.map AV.lit).length=n1:=by rw[List.length_map,h.zl]
  simp only[evOps,evOper,wantA,evOp,getOpd,putA,hH]
  simp[cellsOf,hz,hs1,scalarB,hs2]
 intro a3 c3 f1 f2 f3 f4 f5
 refine hQ a3 c3 f1 (f2.X.trans (q4.X.trans e2.X)) (e2.trans (q4.trans f2)) f3 ?_
 rw[f5,put_defers,e5];exact hd
end
end
section
variable {P:Program}{T:List AFun}{cf:CF}{fl lf:Nat}
variable {g vr fr n1:Nat}{z:List Value}{t:TypeId}
theorem res_nil{fn:Func}(h:fn.results=#[])(tv:Array Value)(w:World): ∃v,(results fn tv).run P w=.ok v w:=by
 refine⟨.tuple #[],?_⟩
 unfold results;rw[h]
 simp
theorem clo_ret[GlobT](h:chkClo P T g vr fr n1 z t=true){c:Ctx}{p1 p2:AV}{u1 u2:Value}(hp1:RV (ftOf T) c p1 u1)(hp2:RV (ftOf T) c p2 u2)(hN:pureRun P (binOp .neq t .nilIface .nilIface)=some (.bool false)): CallsD P g #[u1,u2] .returning c.w λe u' w'=>(∃v,e=.returned v)∧u'=.returning∧w'=c.w:=by
 let⟨fn,i0,i1,i2,x1,x2,y1,y2,w1,w2,w3,w4,w5,h⟩:=chkClo_spec h
 refine callsD_of_wpS h.hf h.hb λc₀ cs hc=>?_
 refine clo_head (v:=.nilIface) (b:=false) (cs':=c₀::cs) h hp1 hp2 hN (.inl rfl) ?_ ?_
 ·simp[recoverD,hc]
 intro a hd htr
 refine wp_cond_false (evl htr rfl) (wp_skip ?_)
 let⟨v,hv⟩:=res_nil (P:=P) h.rs a.tmps c.w
 exact⟨hd,.returning,by rw[←hc],v,hv,⟨v,rfl⟩,rfl,rfl⟩
theorem clo_pan[GlobT](hm:P.follows .mixedOrders=true)(hfo:FlOK cf)(hcf:CfOK P T cf)(hfn:FnsOK P T)(h:chkClo P T g vr fr n1 z t=true)(hr:chkRea P T fr=true){c:Ctx}(hs:Sim (ftOf T) c)(hfl:fl≤c.H.length){p1 p2:AV}{u1 u2:Value}{H1 H2:Heap}{n:Int}(hp1:RV (ftOf T) c p1 u1)(hp2:RV (ftOf T) c p2 u2)(hN:pureRun P (binOp .neq t (fltV n) .nilIface)=some (.bool true))(hs1:stCells fl c.H p1 (z.map .lit)=some H1)(hs2:stCells fl H1 p2 [.lit (.int .i64 n)]=some H2):
 CallsD P g #[u1,u2] (.panicking (chainV n)) c.w λe u' w'=>(∃v,e=.returned v)∧u'=.panicking [{ v:=fltV n,recovered:=true }]∧∃c',c'.w=w'∧c'.H=H2∧c'.X=c.X∧Step fl c c'∧Sim (ftOf T) c':=by
 let⟨fn,i0,i1,i2,x1,x2,y1,y2,w1,w2,w3,w4,w5,h⟩:=chkClo_spec h
 refine callsD_of_wpS h.hf h.hb λc₀ cs hc=>?_
 refine clo_head (v:=fltV n) (b:=true) (cs':={ c₀ with mode:=.panicking [{ v:=fltV n,recovered:=true }] }::cs) h hp1 hp2 hN (.inr ⟨n,rfl⟩) ?_ ?_
 ·simp[recoverD,hc,chainV]
 intro a hd htr
 refine wp_cond_true (evl htr rfl) ?_
 refine clo_set (x:=.undef) (y:=.undef) (v6:=.undef) hm hfo hcf hfn h hr hs hfl hs1 hs2 htr hd ?_
 intro a' c' e1 e2 e3 e4 e5
 let⟨v,hv⟩:=res_nil (P:=P) h.rs a'.tmps c'.w
 exact⟨e5,.panicking [{ v:=fltV n,recovered:=true }],rfl,v,hv,⟨v,rfl⟩,rfl,c',rfl,e1,e2,e3,e4⟩
def errS(fl:Nat)(H:Heap)(p err:AV): Option Heap:=match cellsOf err with
 | some cs=>match cs with
  | [c]=>stCells fl H p [c]
  | _=>none
 | none=>none
def readR(fl:Nat)(z:List Value)(n1:Nat)(q:Option (AV×Heap)): Option (AV×Heap):=match q with
 | none=>none
 | some (r,H)=>match r with
  | .tup vs=>match vs with
   | [v,err,p1,p2]=>match v with
    | .lit u=>match u with
     | .bool b=>match (match b with
       | false=>some H
       | true=>match stCells fl H p1 (z.map .lit) with
        | some H1=>errS fl H1 p2 err
        | none=>none) with
      | some H2=>match ldCells H2 p1 n1 with
       | some cs=>match ldCells H2 p2 1 with
        | some ds=>match ds with
         | [d]=>some (.tup [.agg cs,d],H2)
         | _=>none
        | none=>none
       | none=>none
      | none=>none
     | _=>none
    | _=>none
   | _=>none
  | _=>none
def readP(vs:Nat)(z:List Value)(n1:Nat): Prim:=⟨λcf fl args H=>match Nat.ble args.length 4 with
 | true=>readR fl z n1 (cf fl vs args H)
 | false=>none,λcf cf' h fl args H x e=>by
 split at e
 ·rename_i b;cases q:cf fl vs args H with
  | none=>rw[q] at e;cases e
  | some y=>rw[h fl vs args H y q];rw[q] at e;exact e
 ·cases e⟩
theorem art_tr[GlobT]{FT:Nat->Option Nat}{c:Ctx}{tv:Array Value}{t1 t2:Nat}{p1 p2:AV}(h1:∃v,tv[t1]?=some v∧RV FT c p1 v)(h2:∃v,tv[t2]?=some v∧RV FT c p2 v): TR FT c (((List.replicate tv.size AV.undef).set t1 p1).set t2 p2) tv:=by
 refine⟨by simp,λt x e=>?_⟩
 rw[List.getElem?_set] at e
 split at e
 ·rename_i q;subst q;split at e
  ·cases e;exact h2
  ·cases e
 ·rw[List.getElem?_set] at e;split at e
  ·rename_i q;subst q;split at e
   ·cases e;exact h1
   ·cases e
  ·rw[List.getElem?_replicate] at e;split at e
   ·rename_i q;cases e;exact⟨tv[t],by simp,RV.undef _⟩
   ·cases e
theorem read_ok[GlobT](hm:P.follows .mixedOrders=true)(hfo:FlOK cf)(hcf:CfOK P T cf)(hfn:FnsOK P T)(hdef:CfDef P T cf){vi vs t1 t2 f:Nat}{T1 T2:TypeId}(hd:(vi,vs,t1,t2,g)∈GlobT.df)(hf:ftOf T vi=some f)(hclo:chkClo P T g vr fr n1 z t=true)(hrea:chkRea P T fr=true)(hN0:pureRun P (binOp .neq t .nilIface .nilIface)=some (.bool false))(hN1:∀n,pureRun P (binOp .neq t (fltV n) .nilIface)=some (.bool true))(hg:∃fn,P.funcs[g]?=some fn∧fn.body.isSome=true∧(fn.name== "runtime.NumGoroutine")=false)(hres:∀fn,P.funcs[f]?=some fn->fn.results=#[.cell t1 T1,.cell t2 T2])(hz1:sizeIs P T1 n1=true)(ha1:aggIs P T1 true=true)(hz2:sizeIs P T2 1=true)(ha2:aggIs P T2 false=true)(h12:t1≠t2)
 {args:List AV}{r:AV}{H':Heap}{c:Ctx}{us:Array Value}(he:(readP vs z n1).run cf fl args c.H=some (r,H'))(hs:Sim (ftOf T) c)(hfl:fl≤c.H.length)(ha:ArgsR (ftOf T) c args us): Calls P f us c.w λe w'=>∃v c',e=.returned v∧c'.w=w'∧c'.H=H'∧c'.X=c.X∧Step fl c c'∧Sim (ftOf T) c'∧RV (ftOf T) c' r v:=by
 simp only[readP] at he
 split at he
 case h_2=>cases he
 rename_i hle
 have hle:=Nat.le_of_ble_eq_true hle
 cases hq:cf fl vs args c.H with
 | none=>rw[hq] at he;cases he
 | some q=>
 rw[hq] at he
 let⟨r0,H0⟩:=q
 let⟨fn,code,hfn1,hb,hwp⟩:=hdef fl vi vs t1 t2 g f args r0 H0 c us hd hf hle hq hs hfl ha
 let⟨gf,hg1,hg2,hg3⟩:=hg
 have hinv:∀u1 u2 w,(invoke (.fn (.func g) #[u1,u2]) #[]).run P w=.ok (.enter g #[u1,u2]) w:=λu1 u2 w=>by
  simp only[invoke];rw[show (#[]:Array Value)++#[u1,u2]=#[u1,u2] by simp];exact callFunc_run hg1 hg2 hg3 w
 have hres2:∀(c':Ctx) (tv:Array Value) (cs:List AV) (d p1 p2:AV),Sim (ftOf T) c'->(∃v,tv[t1]?=some v∧RV (ftOf T) c' p1 v)->(∃v,tv[t2]?=some v∧RV (ftOf T) c' p2 v)->ldCells c'.H p1 n1=some cs->ldCells c'.H p2 1=some [d]->∃v,(results fn tv).run P c'.w=.ok v c'.w∧RV (ftOf T) c' (.tup [.agg cs,d]) v:=by
  intro c' tv cs d p1 p2 k1 k2 k3 k4 k5
  have l1:t1<tv.size:=by let⟨v,y,_⟩:=k2;exact (Array.getElem?_eq_some_iff.1 y).1
  have l2:t2<tv.size:=by let⟨v,y,_⟩:=k3;exact (Array.getElem?_eq_some_iff.1 y).1
  have o1:getOpd (((List.replicate tv.size AV.undef).set t1 p1).set t2 p2) (.tmp t1)=p1:=by
   simp only[getOpd];rw[List.getElem?_set_ne (Ne.symm h12),List.getElem?_set_self (by simpa using l1)]
  have o2:getOpd (((List.replicate tv.size AV.undef).set t1 p1).set t2 p2) (.tmp t2)=p2:=by
   simp only[getOpd];rw[List.getElem?_set_self (by simpa using l2)]
  exact results_run (fn:=fn) (st:=⟨((List.replicate tv.size AV.undef).set t1 p1).set t2 p2,c'.H⟩) (rs:=[.cell t1 n1 true,.cell t2 1 false]) (vs:=[.agg cs,d]) k1 rfl (art_tr k2 k3) (by rw[hres fn hfn1];simp[chkRes,hz1,ha1,hz2,ha2]) (by simp only[retsA,evRet,o1,o2,k4,k5,if_true,Bool.false_eq_true,if_false])
 refine calls_of_wp_defers hfn1 hb (hwp _ ?_)
 intro a' c' e e1 e2 e3 e4 e5
 let⟨b,err,p1,p2,u1,u2,hr,q1,q2,q3,q4,q5,q6⟩:=e5
 subst hr
 simp only[readR] at he
 rcases q6 with⟨rfl,hx⟩ | ⟨n,rfl,rfl,rfl⟩
 ·
  simp only at he
  split at he
  case h_2=>cases he
  rename_i cs hcs
  split at he
  case h_2=>cases he
  rename_i ds hds
  split at he
  case h_2=>cases he
  rename_i d
  cases he
  have key:Leaves P fn a'.tmps (λe w'=>∃v c',e=.returned v∧c'.w=w'∧c'.H=H'∧c'.X=c.X∧Step fl c c'∧Sim (ftOf T) c'∧RV (ftOf T) c' (.tup [.agg cs,d]) v) a'.defers .returning c'.w:=by
   rw[q5]
   refine leaves_cons (by simp) (hinv u1 u2 _) ((clo_ret hclo q1 q2 hN0).mono ?_)
   rintro e u' w' ⟨⟨v,rfl⟩,rfl,rfl⟩
   simp only[settle]
   let⟨v,y1,y2⟩:=hres2 c' a'.tmps cs d p1 p2 e4 q3 q4 (by rw[e1];exact hcs) (by rw[e1];exact hds)
   exact⟨v,y1,v,c',rfl,rfl,e1,e2,e3,e4,y2⟩
  rcases hx with rfl | rfl
  ·exact key
  ·exact key
 ·simp only at he
  split at he
  case h_2=>cases he
  rename_i H2 hH2
  split at hH2
  case h_2=>cases hH2
  rename_i H1 hH1
  split at he
  case h_2=>cases he
  rename_i cs hcs
  split at he
  case h_2=>cases he
  rename_i ds hds
  split at he
  case h_2=>cases he
  rename_i d
  cases he
  show Leaves P fn a'.tmps _ a'.defers (.panicking (chainV n)) c'.w
  rw[q5]
  refine leaves_cons (by simp) (hinv u1 u2 _) ((clo_pan (fl:=fl) hm hfo hcf hfn hclo hrea e4 (Nat.le_trans hfl e3.len) q1 q2 (hN1 n) (by rw[e1];exact hH1) hH2).mono ?_)
  rintro e u' w' ⟨⟨v,rfl⟩,rfl,c2,rfl,k1,k2,k3,k4⟩
  simp only[settle]
  let⟨v,y1,y2⟩:=hres2 c2 a'.tmps cs d p1 p2 k4 (let⟨v,y,z⟩:=q3;⟨v,y,z.step k3⟩) (let⟨v,y,z⟩:=q4;⟨v,y,z.step k3⟩) (by rw[k1];exact hcs) (by rw[k1];exact hds)
  exact⟨v,y1,v,c2,rfl,rfl,k1,k2.trans e2,e3.trans k3,k4,y2⟩
end
def PF(g:Prim): Prop:=∀cf,FlOK cf->∀fl m args H r H',(fl≤m∧m≤H.length)->g.run cf fl args H=some (r,H')->H'.take fl=H.take fl∧m≤H'.length
theorem pf_same{H H':Heap}{fl m:Nat}(h:fl≤m∧m≤H.length)(e:H'=H): H'.take fl=H.take fl∧m≤H'.length:=by subst e;exact⟨rfl,h.2⟩
theorem pf_set{H:Heap}{fl m i:Nat}{o:AObj}(h:fl≤m∧m≤H.length)(a:fl≤i): (H.set i o).take fl=H.take fl∧m≤(H.set i o).length:=⟨List.take_set_of_le a,by simpa using h.2⟩
theorem pf_cont: PF<|prim0 contA:=λ_ _ fl m a H r H' h e=>by
 have e:contA fl a H=some (r,H'):=e;refine pf_same h ?_;unfold contA at e;repeat' (first | (cases e;done) | (cases e;rfl) | split at e)
theorem pf_sortI: PF<|prim0 sortI:=λ_ _ fl m a H r H' h e=>by
 rcases sortI_inv (show sortI fl a H=some (r,H') from e) with⟨x,_,_,_,rfl⟩ | ⟨id,l,_,_,b,_,_,_,rfl⟩
 ·exact⟨rfl,h.2⟩
 ·exact pf_set h b
theorem pf_sort{b:Bool}{s:Nat}: PF<|sortPr b s:=λ_ _ _ _ _ _ _ _ h e=>sortG_fl h e
theorem pf_ins{s:Nat}: PF<|prim0<|insG s:=λ_ _ fl m a H r H' h e=>by
 obtain⟨_,_,_,_,_,_,b,_,_,_,_,_,_,rfl⟩:=insG_inv e;exact pf_set h b
theorem pf_stray{a:Nat}: PF<|strayP a:=λ_ _ _ _ _ _ _ _ h e=>by
 let⟨_,_,_,_,_,_,_,_,_,e⟩:=sdA_inv e;exact pf_same h e
theorem pf_st{H H':Heap}{fl m:Nat}{x:AV}{cs:List AV}(h:fl≤m∧m≤H.length)(e:stCells fl H x cs=some H'): H'.take fl=H.take fl∧m≤H'.length:=by
 unfold stCells at e;split at e
 ·split at e
  ·rename_i a;split at e
   ·split at e
    ·split at e
     ·split at e
      ·cases e;exact pf_set h a
      ·cases e
     ·cases e
    ·cases e
   ·cases e
  ·cases e
 ·cases e
theorem errS_inv{fl:Nat}{H H':Heap}{p err:AV}(h:errS fl H p err=some H'): ∃c,stCells fl H p [c]=some H':=by
 unfold errS at h;split at h
 ·split at h
  ·exact⟨_,h⟩
  ·cases h
 ·cases h
theorem readR_inv{fl n1:Nat}{z:List Value}{q:Option (AV×Heap)}{r:AV}{H':Heap}(h:readR fl z n1 q=some (r,H')): ∃b err p1 p2 H0 cs d,q=some (.tup [.lit (.bool b),err,p1,p2],H0)∧(match b with
 | false=>some H0
 | true=>match stCells fl H0 p1 (z.map .lit) with
  | some H1=>errS fl H1 p2 err
  | none=>none)=some H'∧ldCells H' p1 n1=some cs∧ldCells H' p2 1=some [d]∧r=.tup [.agg cs,d]:=by
 unfold readR at h;cases q with
 | none=>cases h
 | some y=>
  let⟨r0,H0⟩:=y
  dsimp only at h
  split at h
  case h_2=>cases h
  split at h
  case h_2=>cases h
  split at h
  case h_2=>cases h
  split at h
  case h_2=>cases h
  split at h
  case h_2=>cases h
  rename_i H2 e
  split at h
  case h_2=>cases h
  rename_i cs e1
  split at h
  case h_2=>cases h
  rename_i ds e2
  split at h
  case h_2=>cases h
  rename_i d
  cases h
  exact⟨_,_,_,_,_,cs,d,rfl,e,e1,e2,rfl⟩
theorem pf_read{vs n1:Nat}{z:List Value}: PF (readP vs z n1):=λcf hfo fl m a H r H' h e=>by
 simp only[readP] at e;split at e
 ·let⟨b,err,p1,p2,H0,cs,d,hq,he,_⟩:=readR_inv e
  let⟨k1,k2⟩:=hfo fl m vs a H _ H0 h hq
  cases b with
  | false=>cases he;exact⟨k1,k2⟩
  | true=>
   simp only at he;split at he
   ·rename_i H1 e1;let⟨l1,l2⟩:=pf_st ⟨h.1,k2⟩ e1;let⟨c,he⟩:=errS_inv he;let⟨j1,j2⟩:=pf_st ⟨h.1,l2⟩ he;exact⟨j1.trans (l1.trans k1),j2⟩
   ·cases he
 ·cases e
theorem pf_beq{vi k:Nat}{g:Prim}{o:Option Prim}(a:PF g)(b:∀q,o=some q->PF q): ∀q,(match Nat.beq vi k with | true=>some g | false=>o)=some q->PF q:=by
 intro q h;split at h
 ·cases h;exact a
 ·exact b q h
theorem pf_nil: ∀q,(none:Option Prim)=some q->PF q:=λ_ h=>by cases h
theorem gfo_of[GlobT](h:∀vi q,GlobT.prim vi=some q->PF q): ∀cf,FlOK cf->FlOK (primF cf):=by
 intro cf hfo fl m vi b H r H' d a;unfold primF at a;split at a
 ·rename_i g c;exact h vi g c cf hfo fl m b H r H' d a
 ·cases a
section
variable {P:Program}{T:List AFun}
def wrpB(vs n1:Nat)(z:List Value): ACode:=.seq (.region false [] [⟨some 1,.call false vs [.tmp 0],none⟩,⟨some 2,.extract (.tmp 1) 0,none⟩,⟨some 3,.extract (.tmp 1) 1,none⟩,⟨some 4,.extract (.tmp 1) 2,none⟩,⟨some 5,.extract (.tmp 1) 3,none⟩]) (.seq (.cond (.tmp 2) (.region false [] [⟨some 6,.build z [],none⟩,⟨none,.store n1 (.tmp 4) (.tmp 6),none⟩,⟨none,.store 1 (.tmp 5) (.tmp 3),none⟩]) (.region false [] [])) (.region false [] [⟨some 6,.load true n1 (.tmp 4),none⟩,⟨some 7,.load false 1 (.tmp 5),none⟩]))
theorem rets4[GlobT]{st:St}: ∀{rs:List ARes} {vs:List AV},retsA st rs=some vs->vs.length=rs.length
 | [],vs,h=>by cases h;rfl
 | r::rs,vs,h=>by
  simp only[retsA] at h;split at h
  ·split at h
   ·rename_i k;cases h;simp[rets4 k]
   ·cases h
  ·cases h
theorem evF_len[GlobT]{vs n fl:Nat}{b:List AV}{H H':Heap}{r:AV}{F:AFun}(hp:GlobT.prim vs=none)(hT:T[vs]?=some F)(hl:F.rets.length=4)(h:evF P T n fl vs b H=some (r,H')): ∃v1 v2 v3 v4,r=.tup [v1,v2,v3,v4]:=by
 cases n with
 | zero=>cases h
 | succ n=>
 simp only[evF,hp,hT] at h
 have key:∀{st:St} {vs:List AV},retsA st F.rets=some vs->∃v1 v2 v3 v4,packA vs=.tup [v1,v2,v3,v4]:=λ{st vs} k=>by
  have k:=rets4 k;rw[hl] at k
  match vs,k with
  | [v1,v2,v3,v4],_=>exact⟨v1,v2,v3,v4,rfl⟩
 split at h
 ·split at h
  ·rename_i k;cases h;exact key k
  ·cases h
 ·split at h
  ·rename_i k;cases h;exact key k
  ·cases h
 ·cases h
theorem seq_n[GlobT]{cf:CF}{lf fl:Nat}{a b:ACode}{st st1:St}(h:evC P cf lf fl a st=some (.normal,st1)): evC P cf lf fl (.seq a b) st=evC P cf lf fl b st1:=by simp only[evC,h]
theorem wrp3[GlobT]{cf:CF}{lf fl n1:Nat}{t0 t1 t2 t3 t4 t5 t6 t7:AV}{H1:Heap}{y:AExit×St}(h:evC P cf lf fl (.region false [] [⟨some 6,.load true n1 (.tmp 4),none⟩,⟨some 7,.load false 1 (.tmp 5),none⟩]) ⟨[t0,t1,t2,t3,t4,t5,t6,t7],H1⟩=some y): ∃cs d,ldCells H1 t4 n1=some cs∧ldCells H1 t5 1=some [d]∧y=(.normal,⟨[t0,t1,t2,t3,t4,t5,.agg cs,d],H1⟩):=by
 simp only[evC,evReg,evOps,evOper,wantA,evOp,getOpd,putA,List.getElem?_cons_zero,List.getElem?_cons_succ] at h
 cases hc:ldCells H1 t4 n1 with
 | none=>simp[hc] at h
 | some cs=>
 cases hd:ldCells H1 t5 1 with
 | none=>simp[hc,hd] at h
 | some ds=>
 match ds with
 | []=>simp[hc,hd] at h
 | _::_::_=>simp[hc,hd] at h
 | [d]=>
 simp[hc,hd] at h
 exact⟨cs,d,rfl,rfl,h.symm⟩
theorem wrp1[GlobT]{cf:CF}{lf fl vs:Nat}{x v1 v2 v3 v4 u:AV}{H H0:Heap}(hq:cf fl vs [x] H=some (.tup [v1,v2,v3,v4],H0)): evC P cf lf fl (.region false [] [⟨some 1,.call false vs [.tmp 0],none⟩,⟨some 2,.extract (.tmp 1) 0,none⟩,⟨some 3,.extract (.tmp 1) 1,none⟩,⟨some 4,.extract (.tmp 1) 2,none⟩,⟨some 5,.extract (.tmp 1) 3,none⟩]) ⟨[x,u,u,u,u,u,u,u],H⟩=some (.normal,⟨[x,.tup [v1,v2,v3,v4],v1,v2,v3,v4,u,u],H0⟩):=by
 simp[evC,evReg,evOps,evOper,wantA,evOp,getOpd,callA,hq,putA]
theorem wrp0[GlobT]{cf:CF}{lf fl vs:Nat}{x u:AV}{H:Heap}{b:ACode}(hq:cf fl vs [x] H=none): evC P cf lf fl (.seq (.region false [] [⟨some 1,.call false vs [.tmp 0],none⟩,⟨some 2,.extract (.tmp 1) 0,none⟩,⟨some 3,.extract (.tmp 1) 1,none⟩,⟨some 4,.extract (.tmp 1) 2,none⟩,⟨some 5,.extract (.tmp 1) 3,none⟩]) b) ⟨[x,u,u,u,u,u,u,u],H⟩=none:=by
 simp[evC,evReg,evOps,evOper,wantA,evOp,getOpd,callA,hq]
theorem wrp2[GlobT]{cf:CF}{lf fl n1:Nat}{z:List Value}{t0 t1 t2 t3 t4 t5 t6 t7:AV}{H0:Heap}{y:AExit×St}(hz:z.length=n1)(h:evC P cf lf fl (.region false [] [⟨some 6,.build z [],none⟩,⟨none,.store n1 (.tmp 4) (.tmp 6),none⟩,⟨none,.store 1 (.tmp 5) (.tmp 3),none⟩]) ⟨[t0,t1,t2,t3,t4,t5,t6,t7],H0⟩=some y): ∃H1 H2,stCells fl H0 t4 (z.map .lit)=some H1∧errS fl H1 t5 t3=some H2∧y=(.normal,⟨[t0,t1,t2,t3,t4,t5,.agg (z.map .lit),t7],H2⟩):=by
 have hz:(z.map AV.lit).length=n1:=by simpa using hz
 simp only[evC,evReg,evOps,evOper,wantA,evOp,getOpd,putA,fillA,List.map_nil,List.getElem?_cons_zero,List.getElem?_cons_succ,List.set_cons_succ,List.set_cons_zero] at h
 rw[show cellsOf (.agg (z.map .lit))=some (z.map .lit) from rfl] at h
 dsimp only at h
 rw[if_pos hz] at h
 cases h1:stCells fl H0 t4 (z.map .lit) with
 | none=>simp[h1] at h
 | some H1=>
 cases hv:cellsOf t3 with
 | none=>simp[h1,hv] at h
 | some cs=>
 match cs with
 | []=>simp[h1,hv] at h
 | _::_::_=>simp[h1,hv] at h
 | [c]=>
 cases h2:stCells fl H1 t5 [c] with
 | none=>simp[h1,hv,h2] at h
 | some H2=>
 simp[h1,hv,h2] at h
 exact⟨H1,H2,rfl,by simp only[errS,hv,h2],h.symm⟩
theorem wrp_eq[GlobT]{vi vs vw fid n1 m fl:Nat}{z:List Value}{F:AFun}(hp:GlobT.prim vi=some (readP vs z n1))(hw:GlobT.prim vw=none)(hW:T[vw]?=some ⟨fid,8,[.tmp 6,.tmp 7],wrpB vs n1 z⟩)(hs:GlobT.prim vs=none)(hS:T[vs]?=some F)(hl:F.rets.length=4)(hz:z.length=n1){x r:AV}{H H':Heap}(h:evF P T (m+1) fl vw [x] H=some (r,H')): evF P T (m+1) fl vi [x] H=some (r,H'):=by
 simp only[evF,hw,hW] at h
 show (match GlobT.prim vi with
  | some g=>g.run (evF P T m) fl [x] H
  | none=>_)=_
 rw[hp]
 show readR fl z n1 (evF P T m fl vs [x] H)=_
 rw[show ([x]:List AV)++List.replicate (8-[x].length) (.lit undefV)=[x,.lit undefV,.lit undefV,.lit undefV,.lit undefV,.lit undefV,.lit undefV,.lit undefV] from rfl] at h
 cases hq:evF P T m fl vs [x] H with
 | none=>rw[wrpB,wrp0 hq] at h;cases h
 | some q=>
 let⟨r0,H0⟩:=q
 let⟨v1,v2,v3,v4,e⟩:=evF_len hs hS hl hq
 subst e
 rw[wrpB,seq_n (wrp1 hq)] at h
 have fin:∀{t0 t1 t2 t3 t6 t7:AV}{H1:Heap},(match evC P (evF P T m) m fl (.region false [] [⟨some 6,.load true n1 (.tmp 4),none⟩,⟨some 7,.load false 1 (.tmp 5),none⟩]) ⟨[t0,t1,t2,t3,v3,v4,t6,t7],H1⟩ with
  | some (.normal,st)=>match retsA st [.tmp 6,.tmp 7] with
   | some vs=>some (packA vs,st.heap)
   | none=>none
  | some (.ret,st)=>match retsA st [.tmp 6,.tmp 7] with
   | some vs=>some (packA vs,st.heap)
   | none=>none
  | _=>none)=some (r,H')->∃cs d,ldCells H1 v3 n1=some cs∧ldCells H1 v4 1=some [d]∧r=.tup [.agg cs,d]∧H'=H1:=by
  intro t0 t1 t2 t3 t6 t7 H1 h
  cases h3:evC P (evF P T m) m fl (.region false [] [⟨some 6,.load true n1 (.tmp 4),none⟩,⟨some 7,.load false 1 (.tmp 5),none⟩]) ⟨[t0,t1,t2,t3,v3,v4,t6,t7],H1⟩ with
  | none=>rw[h3] at h;cases h
  | some y=>
  rw[h3] at h
  let⟨cs,d,k1,k2,k3⟩:=wrp3 h3
  subst k3
  refine⟨cs,d,k1,k2,?_⟩
  simp[retsA,evRet,getOpd,packA] at h
  exact⟨h.1.symm,h.2.symm⟩
 have e1:∃b,v1=.lit (.bool b):=by
  cases v1 with
  | lit v=>cases v with
   | bool b=>exact⟨b,rfl⟩
   | _=>simp[evC,getOpd] at h
  | _=>simp[evC,getOpd] at h
 let⟨b,e1⟩:=e1;subst e1
 cases b with
 | false=>
  rw[seq_n (st1:=⟨[x,.tup [.lit (.bool false),v2,v3,v4],.lit (.bool false),v2,v3,v4,.lit undefV,.lit undefV],H0⟩) (by simp[evC,getOpd,evReg,evOps])] at h
  let⟨cs,d,k1,k2,k3,k4⟩:=fin h
  subst k3 k4
  simp only[readR,k1,k2]
 | true=>
  cases h2:evC P (evF P T m) m fl (.cond (.tmp 2) (.region false [] [⟨some 6,.build z [],none⟩,⟨none,.store n1 (.tmp 4) (.tmp 6),none⟩,⟨none,.store 1 (.tmp 5) (.tmp 3),none⟩]) (.region false [] [])) ⟨[x,.tup [.lit (.bool true),v2,v3,v4],.lit (.bool true),v2,v3,v4,.lit undefV,.lit undefV],H0⟩ with
  | none=>rw[show ∀(b:ACode),evC P (evF P T m) m fl (.seq (.cond (.tmp 2) (.region false [] [⟨some 6,.build z [],none⟩,⟨none,.store n1 (.tmp 4) (.tmp 6),none⟩,⟨none,.store 1 (.tmp 5) (.tmp 3),none⟩]) (.region false [] [])) b) ⟨[x,.tup [.lit (.bool true),v2,v3,v4],.lit (.bool true),v2,v3,v4,.lit undefV,.lit undefV],H0⟩=none from λb=>by rw[evC,h2]] at h;cases h
  | some y=>
  have h2':=h2
  rw[evC] at h2'
  let⟨H1,H2,k1,k2,k3⟩:=wrp2 hz (show evC P (evF P T m) m fl (.region false [] [⟨some 6,.build z [],none⟩,⟨none,.store n1 (.tmp 4) (.tmp 6),none⟩,⟨none,.store 1 (.tmp 5) (.tmp 3),none⟩]) _=some y from h2')
  subst k3
  rw[seq_n h2] at h
  let⟨cs,d,j1,j2,j3,j4⟩:=fin h
  subst j3 j4
  simp only[readR,k1,k2,j1,j2]
theorem wrpOK[RowT][GlobT]{vi vs vw fid n1:Nat}{z:List Value}{F:AFun}(hp:GlobT.prim vi=some (readP vs z n1))(hw:GlobT.prim vw=none)(hW:T[vw]?=some ⟨fid,8,[.tmp 6,.tmp 7],wrpB vs n1 z⟩)(hs:GlobT.prim vs=none)(hS:T[vs]?=some F)(hl:F.rets.length=4)(hz:z.length=n1){c:CSp}(h1:c.ka.length=1)(h:FOK P T vw c): FOK P T vi c:=by
 intro n p r hF aw q
 let⟨b,A,e,k⟩:=h n p r hF aw q
 have l:=q.len
 rw[tvs_len,h1] at l
 match aw,l with
 | [x],_=>
 cases n with
 | zero=>cases e
 | succ n=>exact⟨b,A,wrp_eq hp hw hW hs hS hl hz e,k⟩
def wrpK[RowT][GlobT](vi vw vs:Nat){z:List Value}{n1 fid:Nat}{F:AFun}(X:Con P T)(hv:X.vi=vw:=by rfl)(hp:GlobT.prim vi=some (readP vs z n1):=by kernel_rfl)(hw:GlobT.prim vw=none:=by kernel_rfl)(hW:T[vw]?=some ⟨fid,8,[.tmp 6,.tmp 7],wrpB vs n1 z⟩:=by kernel_rfl)(hs:GlobT.prim vs=none:=by kernel_rfl)(hS:T[vs]?=some F:=by kernel_rfl)(hl:F.rets.length=4:=by kernel_rfl)(hz:z.length=n1:=by kernel_rfl)(h1:X.c.ka.length=1:=by kernel_rfl): Con P T:=⟨vi,X.c,wrpOK hp hw hW hs hS hl hz h1 (hv ▸ X.ok)⟩
def chkFL[GlobT](P:Program)(T:List AFun)(F:AFun): Bool:=match Nat.blt F.fid 1000000 with
 | true=>chkFun P T F
 | false=>true
theorem checked_of[GlobT](h:T.all (chkFL P T)=true): Checked P T:=λF hF hb=>by
 have h:=List.all_eq_true.1 h F hF;unfold chkFL at h;rw[hb] at h;exact h
def chkSL[GlobT](P:Program)(T:List AFun): List (Nat×Nat)->Bool
 | []=>true
 | p::r=>(match ftOf T p.1 with
  | some f=>(match GlobT.prim p.2 with
   | some _=>false
   | none=>match T[p.2]? with
    | some F=>chkFunS P T f F
    | none=>false)
  | none=>true)&&chkSL P T r
theorem chkSL_ok[GlobT]{vi vs f:Nat}: ∀{l:List (Nat×Nat)},chkSL P T l=true->lookS vi l=some vs->ftOf T vi=some f->GlobT.prim vs=none∧∃F,T[vs]?=some F∧chkFunS P T f F=true
 | p::r,h,hl,hf=>by
  simp only[chkSL,Bool.and_eq_true] at h
  simp only[lookS] at hl
  split at hl
  ·rename_i e;cases hl;have e:=Nat.eq_of_beq_eq_true e;have h:=h.1;rw[e,hf] at h
   dsimp only at h
   split at h
   ·cases h
   ·rename_i k;split at h
    ·rename_i F g;exact⟨k,F,g,h⟩
    ·cases h
  ·exact chkSL_ok h.2 hl hf
theorem chkS_of[GlobT](h:chkSL P T GlobT.sh=true): ChkS P T:=λ_ _ _ a b=>chkSL_ok h a b
def chkDL[GlobT](P:Program)(T:List AFun): List (Nat×Nat×Nat×Nat×Nat)->Bool
 | []=>true
 | p::r=>(match ftOf T p.1 with
  | some f=>(match GlobT.prim p.2.1 with
   | some _=>false
   | none=>match T[p.2.1]? with
    | some F=>chkFunD P T f p.2.2.1 p.2.2.2.1 p.2.2.2.2 F
    | none=>false)
  | none=>true)&&chkDL P T r
theorem chkDL_ok[GlobT]{vi vs t1 t2 g f:Nat}: ∀{l:List (Nat×Nat×Nat×Nat×Nat)},chkDL P T l=true->(vi,vs,t1,t2,g)∈l->ftOf T vi=some f->GlobT.prim vs=none∧∃F,T[vs]?=some F∧chkFunD P T f t1 t2 g F=true
 | p::r,h,hl,hf=>by
  simp only[chkDL,Bool.and_eq_true] at h
  rcases List.mem_cons.1 hl with e | e
  ·subst e;have h:=h.1;rw[hf] at h
   dsimp only at h
   split at h
   ·cases h
   ·rename_i k;split at h
    ·rename_i F g;exact⟨k,F,g,h⟩
    ·cases h
  ·exact chkDL_ok h.2 e hf
theorem chkD_of[GlobT](h:chkDL P T GlobT.df=true): ChkD P T:=λ_ _ _ _ _ _ a b=>chkDL_ok h a b
end
section
open Go.Proofs Go.RowKit Go.Shelf Go.Sort
theorem sortLaw_agg{P:Program}{ρ:Ren}{k:Nat}(L:SlLaysF0.n6 P ρ)(l:∀w,(Go.isAgg<|ρ.t 24).run P w=.ok true w)(j:∀w,(Go.sizeOf<|ρ.t 24).run P w=.ok k w): SortLaw P true (ρ.f 6) k:=
 λ_ enc p n cf r g o e off cap d w m c q b h=>AnyQ.slices_SortFunc_eq L k l j enc p n cf r g o e off cap d w m c q b h
theorem sortNone_of{P:Program}{ρ:Ren}(L:SlLaysF0.n6 P ρ): SortNone P<|ρ.f 6:=λp cap c w=>AnyF.slices_SortFunc_none L p cap c w
theorem flat_on1{α:Type}[Inhabited α](enc:α->List Value)(e:∀x,(enc x).length=1)(d:Array α): flatK enc 1 d=d.map λx=>(enc x)[0]!:=by
 apply Array.ext
 ·simp
 ·intro i a b;have c:i<d.size:=by simpa using b
  have:=get_flatK enc 1 d i (by omega);rw[getElem!_pos _ i a] at this;rw[this,Array.getElem_map,Nat.div_one,Nat.mod_one,getElem!_pos d i c]
theorem putCells_one{α:Type}[Inhabited α](enc:α->Value)(off:Nat)(d:Array α)(c:Array Value): putCells _root_.id off (d.map enc) c=putCells enc off d c:=by
 unfold putCells;congr 1;funext k x;rw[Array.size_map];split
 ·rename_i h;have b:k-off<d.size:=by omega
  show (d.map enc)[k-off]! =enc d[k-off]!;rw[getElem!_pos _ _ (by simpa using b),getElem!_pos d _ b,Array.getElem_map]
 ·rfl
theorem sortWorld_one{α:Type}[Inhabited α](enc:α->List Value)(d:∀x,(enc x).length=1)(w:World)(a off m:Nat)(b:Array α)(os:Array Obj):
 sortWorldK enc 1 w a off m b os=sortWorld (λx=>(enc x)[0]!) w a off m b os:=by
 unfold sortWorldK sortWorld putRowK putRow;rw[flat_on1 enc d];congr 2;funext c;exact putCells_one _ _ _ _
theorem sortLaw_one{P:Program}{ρ:Ren}(L:SlLaysF.n6 P ρ): SortLaw P false (ρ.f 6) 1:=by
 intro m enc q D cf t g r a off cap d w z c B b l;have h:OneCell λx=>(enc x)[0]!:=by
  intro x;refine D x _ ?_;show (enc x)[0]!∈enc x;rw[getElem!_pos (enc x) 0 (by rw[q];omega)];exact List.getElem_mem _
 have p:CmpLays1 P g r (λx=>(enc x)[0]!) cf a off d.size w:=by
  intro A os v o x y;have:=c A os v o x y;rw[sortWorld_one enc q] at this;exact this
 have k:Holds (λx=>(enc x)[0]!) w a off d:=by
  intro j u;have:=B j (by simpa using u);rw[get_flatK _ _ _ _<|by omega,Nat.div_one,Nat.mod_one] at this;exact this
 refine (Any.slices_SortFunc_eq L (λx=>(enc x)[0]!) h cf t g r a off cap d w z p k b l).mono λe w' ⟨he,n,os,s⟩=>⟨he,n,os,?_⟩;rw[sortWorld_one enc q];exact s
end
section
open DenT (den cds ag)
section
variable {P:Program}{cf cf':Nat->Nat->List AV->Heap->Option (AV×Heap)}
theorem callA_mono(h:Le cf cf'){fl vi:Nat}{pu:Bool}{args:List AV}{H:Heap}{x:AV×Heap}(hx:callA cf fl pu vi args H=some x): callA cf' fl pu vi args H=some x:=by
 unfold callA at hx ⊢
 cases pu with
 | true=>
  simp only at hx ⊢
  cases hp:plainAll args with
  | true=>
   rw[hp] at hx
   simp only at hx ⊢
   split at hx
   ·rename_i r H' he;rw[h _ _ _ _ _ he];exact hx
   ·cases hx
  | false=>
   rw[hp] at hx
   simp only at hx ⊢
   split at hx
   ·rename_i r H' he;rw[h _ _ _ _ _ he];exact hx
   ·cases hx
 | false=>exact h _ _ _ _ _ hx
theorem evOp_mono[GlobT](h:Le cf cf'){fl:Nat}{op:AOp}{tm:List AV}{H:Heap}{x:AV×Heap}(hx:evOp P cf fl op tm H=some x): evOp P cf' fl op tm H=some x:=by
 cases op with
 | call pu vi args=>exact callA_mono h hx
 | callv pu y args=>
  simp only[evOp] at hx ⊢
  split at hx
  ·rename_i vi caps he
   exact callA_mono h hx
  ·cases hx
 | callF vi args=>exact h _ _ _ _ _ hx
 | callS vi args=>
  simp only[evOp] at hx ⊢
  split at hx
  ·rename_i r H1 he
   rw[h _ _ _ _ _ he];exact hx
  ·cases hx
 | callB vi args=>
  simp only[evOp] at hx ⊢
  split at hx
  ·rename_i r H1 he
   rw[h _ _ _ _ _ he];exact hx
  ·cases hx
 | callT s vi args=>
  simp only[evOp] at hx ⊢
  cases he:cf 0 vi ((args.map (getOpd tm)).map (viewA2 H)) [] with
  | none=>rw[he] at hx;cases hx
  | some y=>rw[h _ _ _ _ _ he];rw[he] at hx;exact hx
 | _=>exact hx
theorem evOper_mono[GlobT](h:Le cf cf'){fl:Nat}{o:AOper}{st st':St}(hx:evOper P cf fl o st=some st'): evOper P cf' fl o st=some st':=by
 unfold evOper at hx ⊢
 split at hx
 ·split at hx
  ·rename_i v H he
   rw[evOp_mono h he];exact hx
  ·cases hx
 ·exact hx
 ·cases hx
theorem evOps_mono[GlobT](h:Le cf cf'){fl:Nat}: ∀(l:List AOper) {st st':St},evOps P cf fl l st=some st'->evOps P cf' fl l st=some st'
 | [],_,_,hx=>hx
 | o::r,st,st',hx=>by
  simp only[evOps] at hx ⊢
  split at hx
  ·rename_i s1 he
   rw[evOper_mono h he];exact evOps_mono h r hx
  ·cases hx
theorem evOpsL_mono[GlobT](h:Le cf cf'){fl:Nat}: ∀(l:List AOper) {st:St} {q:List St},evOpsL P cf fl l st=some q->evOpsL P cf' fl l st=some q
 | [],_,_,hx=>hx
 | o::r,st,q,hx=>by
  simp only[evOpsL] at hx ⊢
  split at hx
  ·rename_i s1 he
   rw[evOper_mono h he]
   simp only
   split at hx
   ·rename_i l1 h1
    rw[evOpsL_mono h r h1];exact hx
   ·cases hx
  ·cases hx
theorem evReg_mono[GlobT](h:Le cf cf'){fl:Nat}{ck:List (Nat×Nat)}{ops:List AOper}{st st':St}(hx:evReg P cf fl ck ops st=some st'): evReg P cf' fl ck ops st=some st':=by
 cases ck with
 | nil=>exact evOps_mono h ops hx
 | cons c r=>
  unfold evReg at hx ⊢
  cases hb:Nat.beq c.1 c.2 with
  | false=>
   simp only[hb] at hx ⊢
   split at hx
   ·rename_i l he
    rw[evOpsL_mono h ops he];exact hx
   ·cases hx
  | true=>
   simp only[hb] at hx ⊢
   split at hx
   ·rename_i l he
    rw[evOpsL_mono h _ he];exact hx
   ·cases hx
theorem evLoop_mono[GlobT]{head:St->St}{step step':St->Option (AExit×St)}(hs:∀st x,step st=some x->step' st=some x): ∀(n m:Nat) (st:St) (x:AExit×St),n≤m->evLoop head step n st=some x->evLoop head step' m st=some x
 | 0,_,_,_,_,hx=>by cases hx
 | n+1,m,st,x,hnm,hx=>by
  obtain⟨m,rfl⟩:∃q,m=q+1:=⟨m-1,by omega⟩
  simp only[evLoop] at hx ⊢
  cases he:step (head st) with
  | none=>rw[he] at hx;cases hx
  | some r=>
   rw[he] at hx
   rw[hs _ _ he]
   obtain⟨y,s⟩:=r
   cases y with
   | normal=>exact evLoop_mono hs n m s x (by omega) hx
   | exit i=>exact hx
   | ret=>exact hx
theorem maskR_mono{lx lr:List Bool}{tr:Bool}{fl n:Nat}{r r':Option (AExit×St)}{x:AExit×St}(h:∀y,r=some y->r'=some y)(hx:maskR lx lr tr fl n r=some x): maskR lx lr tr fl n r'=some x:=by
 cases r with
 | none=>cases hx
 | some y=>rw[h y rfl];exact hx
theorem maskV_mono[GlobT]{lx lr:List Bool}{t fl n:Nat}{r r':Option (AExit×St)}{x:AExit×St}(h:∀y,r=some y->r'=some y)(hx:maskV lx lr t fl n r=some x): maskV lx lr t fl n r'=some x:=by
 cases r with
 | none=>cases hx
 | some y=>rw[h y rfl];exact hx
theorem evC_mono[GlobT](h:Le cf cf'){lf lf' fl:Nat}(hl:lf≤lf'): ∀(c:ACode) (st:St) (x:AExit×St),evC P cf lf fl c st=some x->evC P cf' lf' fl c st=some x
 | .skip,_,_,hx=>hx
 | .exit _,_,_,hx=>hx
 | .ret,_,_,hx=>hx
 | .stop,_,_,hx=>hx
 | .region _ ck ops,st,x,hx=>by
  simp only[evC] at hx ⊢
  split at hx
  ·rename_i s1 he
   rw[evReg_mono h he];exact hx
  ·cases hx
 | .seq a b,st,x,hx=>by
  simp only[evC] at hx ⊢
  cases he:evC P cf lf fl a st with
  | none=>rw[he] at hx;cases hx
  | some r=>
   rw[he] at hx
   rw[evC_mono h hl a st r he]
   obtain⟨y,s⟩:=r
   cases y with
   | normal=>exact evC_mono h hl b s x hx
   | exit i=>exact hx
   | ret=>exact hx
 | .cond c a b,st,x,hx=>by
  simp only[evC] at hx ⊢
  split at hx
  ·exact evC_mono h hl a st x hx
  ·exact evC_mono h hl b st x hx
  ·cases hx
 | .block id c,st,x,hx=>by
  simp only[evC] at hx ⊢
  cases he:evC P cf lf fl c st with
  | none=>rw[he] at hx;cases hx
  | some r=>
   rw[he] at hx
   rw[evC_mono h hl c st r he]
   exact hx
 | .loop live tr c,st,x,hx=>by
  simp only[evC] at hx ⊢
  exact evLoop_mono (λst x hs=>evC_mono h hl c st x hs) lf lf' st x hl hx
 | .frz t c,st,x,hx=>by
  simp only[evC] at hx ⊢
  split at hx
  ·rename_i v H he
   rw[evOp_mono h he]
   exact evC_mono h hl c _ x hx
  ·cases hx
 | .told li lx lr c,st,x,hx=>by
  simp only[evC] at hx ⊢
  exact maskR_mono (λy hy=>evC_mono h hl c _ y hy) hx
 | .mask lx lr tr c,st,x,hx=>by
  simp only[evC] at hx ⊢
  exact maskR_mono (λy hy=>evC_mono h hl c st y hy) hx
 | .scope c,st,x,hx=>by
  simp only[evC] at hx ⊢
  exact evC_mono h hl c st x hx
 | .nilIf t d0 d1 a b,st,x,hx=>by
  simp only[evC] at hx ⊢
  split at hx
  ·split at hx
   ·cases he:evC P cf lf fl a ⟨nilTm st.tmps t d0 d1 true,st.heap⟩ with
    | none=>rw[he] at hx;cases hx
    | some r=>rw[he] at hx;rw[evC_mono h hl a _ r he];exact hx
   ·exact evC_mono h hl b _ x hx
   ·split at hx
    ·cases he:evC P cf lf fl a ⟨nilTm st.tmps t d0 d1 true,st.heap⟩ with
     | none=>rw[he] at hx;cases hx
     | some r=>
      cases he2:evC P cf lf fl b ⟨nilTm st.tmps t d0 d1 false,st.heap⟩ with
      | none=>rw[he,he2] at hx;obtain⟨y,s⟩:=r;cases y<;>cases hx
      | some r2=>rw[he,he2] at hx;rw[evC_mono h hl a _ r he,evC_mono h hl b _ r2 he2];exact hx
    ·cases hx
   ·cases hx
  ·cases hx
 | .loopV live lx lr t c,st,x,hx=>by
  simp only[evC] at hx ⊢
  split at hx
  ·rename_i s1 he
   exact maskV_mono (λy hy=>evLoop_mono (λst x hs=>evC_mono h hl c st x hs) lf lf' s1 y hl hy) hx
  ·cases hx
end
theorem evF_le[GlobT](P:Program)(T:List AFun): ∀n,Le (evF P T n) (evF P T (n+1))
 | 0=>λ_ _ _ _ _ h=>by cases h
 | n+1=>λfl vi args H x hx=>by
  rw[evF] at hx ⊢
  split at hx
  ·rename_i g _;exact g.mono _ _ (evF_le P T n) _ _ _ _ hx
  split at hx
  ·cases hx
  ·rename_i F hF
   cases he:evC P (evF P T n) n fl F.body ⟨args++List.replicate (F.nt-args.length) (.lit undefV),H⟩ with
   | none=>rw[he] at hx;cases hx
   | some r=>
    rw[he] at hx
    rw[evC_mono (evF_le P T n) (Nat.le_succ n) F.body _ r he]
    exact hx
theorem evF_mono[GlobT]{P:Program}{T:List AFun}{n m fl vi:Nat}{args:List AV}{H:Heap}{x:AV×Heap}(hnm:n≤m)(hx:evF P T n fl vi args H=some x): evF P T m fl vi args H=some x:=by
 induction hnm with
 | refl=>exact hx
 | step _ ih=>exact evF_le P T _ _ _ _ _ _ ih
def awB(r:Option (AV×Heap)): Bool:=match r with
 | some (a,_)=>match a with
  | .lit v=>match v with
   | .bool b=>b
   | _=>false
  | _=>false
 | none=>false
theorem awB_spec{r:Option (AV×Heap)}(h:awB r=true): ∃H,r=some (.lit (.bool true),H):=by
 unfold awB at h
 split at h
 ·split at h
  ·split at h
   ·subst h;exact⟨_,rfl⟩
   ·cases h
  ·cases h
 ·cases h
theorem awk_h{N n:Nat}{r:Bool}(h:cnd (Nat.ble N n) (some true) none=some r): N≤n∧r=true:=by
 cases hb:Nat.ble N n with
 | true=>rw[hb] at h;cases h;exact⟨Nat.le_of_ble_eq_true hb,rfl⟩
 | false=>rw[hb] at h;cases h
def awkK[RowT][GlobT]{P:Program}{T:List AFun}(vi kb N:Nat)(aw:awB (evF P T N 0 vi [] [])=true)(F:Nat->PrT []->Option (PrT ([kb].map .v)))(h:∀n p r,F n p=some r->N≤n∧tvs ([kb].map .v) r=[.lit (.bool true)]): Con P T:=
 ⟨vi,⟨[],[kb],false,F⟩,by
  intro n p r hr bs q
  obtain⟨h1,h2⟩:=h n p r hr
  obtain⟨H,hH⟩:=awB_spec aw
  cases bs with
  | nil=>
   refine⟨[.lit (.bool true)],H,evF_mono h1 hH,λH1=>?_,λa ha l e=>?_,λe=>by cases e⟩
   ·show Qc H1 (tvs ([kb].map .v) r) _
    rw[h2];exact⟨.l _,trivial⟩
   ·cases List.mem_singleton.1 ha;cases e
  | cons x bs=>exact q.elim⟩
end
end Go.Proofs.YthadajkojciapaaGreatDoor.Av
