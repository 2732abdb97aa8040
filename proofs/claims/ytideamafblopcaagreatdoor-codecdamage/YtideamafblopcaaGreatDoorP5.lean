/- A part of the proof of a law. -/
import Derived.Test.YtideamafblopcaaGreatDoorP4
import Derived.WalkKit
import Derived.ProofKit
import Derived.OpenShut
import Derived.SizedLaws
import Derived.Handed
import Derived.KernelRfl
import Derived.Shelf.SlSortCmp.InsertionK
import Derived.Sort.AssemblyPlain
set_option maxRecDepth 100000
set_option maxHeartbeats 4000000
set_option linter.all false
namespace Go.Proofs.YtideamafblopcaaGreatDoor.Av
open Go
section
variable {P:Program}{T:List bK}
theorem Se[aB]{c:bV}{tv:Array Value}{st:St}(A:bJ (aG T) c)(I:c.H=st.heap)(g:TR (aG T) c st.tmps tv): ∀(rs:List Rg) (L:List ResultVar) (vs:List AV),qA P rs L=true->dM st rs=some vs->
 ∃l:List Value,l.length=vs.length/\(∀(i:Nat) (x:AV),vs[i]?=some x->∃u,l[i]?=some u/\RV (aG T) c x u) /\
  (L.mapM (fun
   | .tmp t=>pure<|tv.getD t undef
   | .cell a t=>do loadVar t (<-asAddr<|tv.getD a undef):ResultVar->Sem Value)).run P c.w=.ok l c.w
 | [],[],vs,_,h=>by
  simp only[dM,Option.some.injEq] at h;subst h;exact⟨[],rfl,λi x d=>by simp at d,by simp⟩
 | .tmp t::r,q::s,vs,b,h=>by
  cases q with
  | cell a K=>simp[qA] at b
  | tmp u=>
   simp only[qA,Bool.and_eq_true,beq_iff_eq] at b;let⟨rfl,b⟩:=b;simp only[dM,sK] at h;split at h
   .rename_i o k;cases h;let⟨l,E,D,C⟩:=Se A I g r s o b k;have G:=aR (a:=⟨tv,[]⟩) A g (x:=.tmp t) (y:=.tmp t) (by simp[aN]);refine⟨tv.getD t undef::l,by simp[E],λi x d=>?_,?_⟩
    .cases i with
     | zero=>
      simp only[List.getElem?_cons_zero,Option.some.injEq] at d;subst d;exact⟨tv.getD t undef,by rw[List.getElem?_cons_zero],G⟩
     | succ i=>
      simp only[List.getElem?_cons_succ] at d |-;exact D i x d
    .rw[List.mapM_cons];simp only[Sem.run_bind,Sem.run_pure,Result.andThen_ok,C]
   .cases h
 | .cell t n agg::r,q::s,vs,b,h=>by
  cases q with
  | tmp u=>simp[qA] at b
  | cell u K=>
   simp only[qA,Bool.and_eq_true,beq_iff_eq] at b;let⟨⟨⟨⟨rfl,U⟩,J⟩,X⟩,b⟩:=b;simp only[dM] at h;split at h
   .rename_i v j;split at h
    .rename_i o k;cases h;let⟨l,E,D,C⟩:=Se A I g r s o b k;have G:=aR (a:=⟨tv,[]⟩) A g (x:=.tmp t) (y:=.tmp t) (by simp[aN]);have m:∃u,(do loadVar K (<-asAddr<|tv.getD t undef):Sem Value).run P c.w=.ok u c.w/\RV (aG T) c v u:=by
      simp only[sK] at j;split at j
      .rename_i cs B;rw[<-I] at B;let⟨ad,Z,V,O,f⟩:=Mf A G B;have z:tv.getD t undef=.pointer (some ad):=V;cases agg with
       | true=>
        simp only[if_true,Option.some.injEq] at j;subst j;exact⟨_,by simp only[z,asAddr,Sem.run_bind,Sem.run_pure,Result.andThen_ok,tS f O J U rfl],Bb f⟩
       | false=>
        simp only[Bool.false_eq_true,if_false] at j;split at j
        .cases j;let⟨u,S,Y,Q⟩:=f.2.2 0 v (by simp);have e:=f.2.1 0 u S;have R:ad.add 0=ad:=by simp[Addr.add]
         rw[R] at e;exact⟨u,by simp only[z,asAddr,Sem.run_bind,Sem.run_pure,Result.andThen_ok,Cm e J],Q⟩
        .cases j
      .cases j
     let⟨u,M,W⟩:=m;refine⟨u::l,by simp[E],λi x d=>?_,?_⟩
     .cases i with
      | zero=>
       simp only[List.getElem?_cons_zero,Option.some.injEq] at d;subst d;exact⟨u,by simp,W⟩
      | succ i=>
       simp only[List.getElem?_cons_succ] at d |-;exact D i x d
     .rw[List.mapM_cons];simp only[Sem.run_bind,Sem.run_pure,Result.andThen_ok,C] at M |-;rw[M];simp only[Result.andThen_ok,C]
    .cases h
   .cases h
 | [],_::_,_,b,_=>by cases b
 | .tmp _::_,[],_,b,_=>by cases b
 | .cell _ _ _::_,[],_,b,_=>by cases b
theorem vR[aB]{c:bV}{tv:Array Value}{st:St}{fn:Func}{rs:List Rg}{vs:List AV}(q:bJ (aG T) c)(o:c.H=st.heap)(l:TR (aG T) c st.tmps tv)(p:qA P rs fn.results.toList=true)(h:dM st rs=some vs):
 ∃v,(results fn tv).run P c.w=.ok v c.w/\RV (aG T) c (eH vs) v:=by
 let⟨a,j,k,s⟩:=Se q o l rs fn.results.toList vs p h;refine⟨if t:a.toArray.size=1 then a.toArray[0] else .tuple a.toArray,?_,?_⟩
 .unfold results;rw[Array.mapM_eq_mapM_toList];simp only[Sem.run_bind,Sem.run_map,Sem.run_pure];refine Eq.trans (congrArg (λr=>(Result.andThen (Result.andThen r _) _))<|Eq.trans ?_ s) rfl;congr 2
 .unfold eH;split
  .rename_i v;have g:a.length=1:=by simpa using j
   let⟨u,d,m⟩:=k 0 v (by simp);have b:a.toArray.size=1:=by simpa using g
   rw[dif_pos b];have:a.toArray[0]=u:=by
    have:a.toArray[0]?=some u:=by simpa using d
    rw[Array.getElem?_eq_getElem<|by omega] at this;exact Option.some.inj this
   rw[this];exact m
  .rename_i f;have b:¬a.toArray.size=1:=by
    intro e;have g:vs.length=1:=by rw[<-j];simpa using e
    match vs,g with
    | [v],_=>exact f v rfl
   rw[dif_neg b];refine .tup vs a.toArray (λi=>(a[i]?).getD aW) (by simpa using j) ?_ ?_
   .intro i x n;let⟨u,d,_⟩:=k i x n;simp[d]
   .intro i x n;let⟨u,d,m⟩:=k i x n;simpa [d] using m
theorem Xn{F:bK}(h:OO P T F=true): ∃fn a,P.funcs[F.fid]?=some fn/\fn.body=some a/\eW P T F.body a=true/\fn.ntmps=F.nt/\qA P F.rets fn.results.toList=true/\(fn.name== "runtime.NumGoroutine")=false:=by
 unfold OO at h;split at h
 .rename_i fn c;split at h
  .rename_i a b;simp only[Bool.and_eq_true,beq_iff_eq,Bool.not_eq_true'] at h;exact⟨fn,a,c,b,h.1.1.1,h.1.1.2,h.1.2,h.2⟩
  .cases h
 .cases h
def Checked(P:Program)(T:List bK): Prop:=∀F∈T,Nat.blt F.fid 1000000=true->OO P T F=true
theorem KC{vi f:Nat}(h:aG T vi=some f): ∃F,T[vi]?=some F/\F.fid=f/\Nat.blt F.fid 1000000=true:=by
 unfold aG at h;split at h
 .rename_i F g;split at h
  .rename_i b;cases h;exact⟨F,g,rfl,b⟩
  .cases h
 .cases h
theorem Pk[aB](h:Checked P T): fW P T:=by
 intro vi f a;let⟨F,g,e,b⟩:=KC a;subst e;let⟨fn,b,e,d,_,_,_,c⟩:=Xn<|h F (List.mem_of_getElem? g) b;exact⟨fn,e,by simp[d],c⟩
def E8(n0:Nat): List Rg->Bool
 | []=>true
 | .tmp t::r=>Nat.blt t n0&&E8 n0 r
 | .cell t _ _::r=>Nat.blt t n0&&E8 n0 r
theorem Lr[aB]{n0:Nat}{tm:List AV}{H:aM}: ∀{rs:List Rg},E8 n0 rs=true->dM ⟨tm.take n0,H⟩ rs=dM ⟨tm,H⟩ rs
 | [],_=>rfl
 | .tmp t::r,h=>by
  simp only[E8,Bool.and_eq_true] at h;have a:t<n0:=by simpa [Nat.blt_eq] using h.1
  simp only[dM,sK,Hy a,Lr h.2]
 | .cell t n g::r,h=>by
  simp only[E8,Bool.and_eq_true] at h;have a:t<n0:=by simpa [Nat.blt_eq] using h.1
  simp only[dM,sK,Hy a,Lr h.2]
def v7(n0:Nat): bI->Bool
 | .region _ ck l=>match ck,l with
  | [],[x,y]=>match Wy x (n0+1),Wy y (n0+2) with
   | some a,some b=>sQ a (.lit (.bool false))&&sQ b (.lit (.int .i64 0))
   | _,_=>false
  | _,_=>false
 | _=>false
theorem EH{n0:Nat}{c:bI}(h:v7 n0 c=true): ∃d,c=.region d [] (NU n0):=by
 unfold v7 at h;split at h
 .rename_i d ck l;split at h
  .rename_i x y;split at h
   .rename_i a b g1 g2;simp only[Bool.and_eq_true] at h;have g1:=pS g1;have g2:=pS g2;rw[mH h.1] at g1;rw[mH h.2] at g2;subst g1 g2;exact⟨d,rfl⟩
   .cases h
  .cases h
 .cases h
def Qv[aB](P:Program)(T:List bK)(f:Nat)(F:bK): Bool:=match P.funcs[f]? with
 | some fn=>match fn.body with
  | some a=>match F.body with
   | .seq b fin=>match F.rets with
    | .tmp x::r=>match r with
     | .tmp y::rr=>eJ P T fn.ntmps [] b a&&(v7 fn.ntmps fin&&(Nat.beq F.nt (fn.ntmps+3)&&(Nat.beq x (fn.ntmps+1)&&(Nat.beq y (fn.ntmps+2)&&(Nat.ble rr.length 1&&(E8 fn.ntmps rr&&(qA P rr fn.results.toList&&Nat.ble 4 fn.ntmps)))))))
     | _=>false
    | _=>false
   | _=>false
  | none=>false
 | none=>false
def aBm[aB](P:Program)(T:List bK): Prop:=∀vi vs f,Wu vi aB.sh=some vs->aG T vi=some f->aB.prim vs=none/\∃F,T[vs]?=some F/\Qv P T f F=true
structure PB[aB](P:Program)(T:List bK): Prop where
 fl:∀cf,gW cf->gW (Co cf)
 ok:∀cf,gW cf->lP P T cf->Xu P T cf->aBo P T cf->lP P T (Co cf)
theorem YG{l:List AV}(h:l.length<=1): eH l=qM l:=by
 match l,h with
 | [],_=>rfl
 | [x],_=>rfl
 | _::_::_,h=>simp at h
theorem Gi[aB]{FT:Nat->Option Nat}{c:bV}{b:List AV}{us:Array Value}{n:Nat}(d:jQ FT c b us): TR FT c (b++List.replicate (n-b.length) (.lit aW)) (us++Array.replicate (n-us.size) undef):=by
 refine⟨by simp[d.1],λt x h=>?_⟩;rw[List.getElem?_append] at h;rw[Array.getElem?_append,d.1];split at h
 .rename_i A;rw[if_pos A];exact d.2 t x h
 .rename_i A;rw[if_neg A];rw[List.getElem?_replicate] at h;split at h
  .rename_i q;cases h;refine⟨undef,?_,RV.lit _⟩;rw[Array.getElem?_replicate,if_pos q]
  .cases h
theorem ER{b:List AV}{n:Nat}{u:AV}(h:b.length<=n): (b++List.replicate (n+3-b.length) u).take n=b++List.replicate (n-b.length) u:=by
 rw[List.take_append,List.take_of_length_le h,List.take_replicate,show min (n-b.length) (n+3-b.length)=n-b.length by omega]
theorem WI[aB](I:P.follows .mixedOrders=true){cf:CF}{lf fl f:Nat}{F:bK}(hfo:gW cf)(hcf:lP P T cf)(hpan:Xu P T cf)(hfn:fW P T)(hF:Qv P T f F=true){b:List AV}{us:Array Value}{c:bV}{x:bP}{st:St}{vals:List AV}(hx:x=.normal\/x=.ret)(he:cH P cf lf fl F.body ⟨b++List.replicate (F.nt-b.length) (.lit aW),c.H⟩=some (x,st))(hr:dM st F.rets=some vals)(O:bJ (aG T) c)(k:fl<=c.H.length)(d:jQ (aG T) c b us)(hb:b.length<=4):
 Calls P f us c.w λe w'=>∃c',c'.w=w'/\c'.H=st.heap/\c'.X=c.X/\bG fl c c'/\bJ (aG T) c'/\aG5 (aG T) c' (eH vals) e:=by
 unfold Qv at hF
 split at hF
 case h_2=>cases hF
 rename_i fn hf
 split at hF
 case h_2=>cases hF
 rename_i code hbody
 split at hF
 case h_2=>cases hF
 rename_i B fin hB
 split at hF
 case h_2=>cases hF
 rename_i x1 r1 hr1
 split at hF
 case h_2=>cases hF
 rename_i y1 rr
 simp only[Bool.and_eq_true] at hF
 let⟨q1,q2,q3,q4,q5,q6,q7,q8,q9⟩:=hF
 have q3:=Nat.eq_of_beq_eq_true q3
 have q4:=Nat.eq_of_beq_eq_true q4
 have q5:=Nat.eq_of_beq_eq_true q5
 have q6:=Nat.le_of_ble_eq_true q6
 have q9:=Nat.le_of_ble_eq_true q9
 subst q4 q5
 let⟨dr,hfin⟩:=EH q2
 rw[hB,hfin,q3] at he
 rw[hr1] at hr
 have htr:N4 (aG T) fn.ntmps c (b++List.replicate (fn.ntmps+3-b.length) (.lit aW)) (us++Array.replicate (fn.ntmps-us.size) undef):=
  ⟨by simp;omega,by rw[ER (by omega)];exact Gi d⟩
 have hcp:=eY (fl:=fl) (lf:=lf) (n0:=fn.ntmps) (K:=[]) I hfo hcf hpan hfn B code q1
 have split3:∀s:St,dM s (.tmp (fn.ntmps+1)::.tmp (fn.ntmps+2)::rr)=some vals->∃vr,dM s rr=some vr/\vals=aC s.tmps (.tmp (fn.ntmps+1))::aC s.tmps (.tmp (fn.ntmps+2))::vr:=by
  intro s h;simp only[dM,sK] at h;split at h
  .rename_i w1 e1;split at e1
   .rename_i w2 e2;cases e1;cases h;exact⟨w2,e2,rfl⟩
   .cases e1
  .cases h
 let⟨vr,g1,g2⟩:=split3 st hr
 subst g2
 have hvr:vr.length<=1:=by
  have:∀(l:List Rg) (v:List AV),dM st l=some v->v.length=l.length:=by
   intro l;induction l with
   | nil=>intro v h;simp only[dM,Option.some.injEq] at h;subst h;rfl
   | cons a l i=>
    intro v h;simp only[dM] at h;split at h
    .split at h
     .rename_i w e;cases h;simp[i w e]
     .cases h
    .cases h
  rw[this rr vr g1];exact q6
 have fin:∀(c':bV) (tv:Array Value),bJ (aG T) c'->c'.H=st.heap->TR (aG T) c' (st.tmps.take fn.ntmps) tv->∃v,(results fn tv).run P c'.w=.ok v c'.w/\RV (aG T) c' (qM vr) v:=by
  intro c' tv h1 h2 h3
  rw[<-YG hvr]
  exact vR (st:=⟨st.tmps.take fn.ntmps,st.heap⟩) (vs:=vr) h1 h2 h3 q8 (by rw[Lr q7];exact g1)
 refine calls_of_wp hf hbody ?_
 simp only[cH] at he
 split at he
 ·
  rename_i s1 he1
  simp only[eI,NU,bE,bD,cO,aI,aC,eL,Option.some.injEq,Prod.mk.injEq] at he
  let⟨_,hst⟩:=he
  subst hst
  refine hcp c _ _ .normal s1 _ O htr k he1 ?_
  intro a' c' e e1 e2 e3 e4 e5
  have l:=e4.2.1
  rw[e4.1]
  have t:((s1.tmps.set (fn.ntmps+1) (.lit (.bool false))).set (fn.ntmps+2) (.lit (.int .i64 0))).take fn.ntmps=s1.tmps.take fn.ntmps:=by rw[tR,tR]
  let⟨v,N,G⟩:=fin c' a'.tmps e3 e1 (by rw[t];exact e4.2.2)
  have m1:aC ((s1.tmps.set (fn.ntmps+1) (.lit (.bool false))).set (fn.ntmps+2) (.lit (.int .i64 0))) (.tmp (fn.ntmps+1))=.lit (.bool false):=by
   simp only[aC];rw[List.getElem?_set_ne (by omega),List.getElem?_set_self (by omega)]
  refine⟨e5,v,N,c',rfl,e1,e2.X,e2,e3,.inl ⟨aC ((s1.tmps.set (fn.ntmps+1) (.lit (.bool false))).set (fn.ntmps+2) (.lit (.int .i64 0))) (.tmp (fn.ntmps+2)),vr,v,?_,rfl,G⟩⟩
  simp only[eH,m1]
 .rename_i rx hne
  have hxr:x=.ret:=by
   rcases hx with rfl | rfl
   .exact (hne st he).elim
   .rfl
  subst hxr
  refine hcp c _ _ .ret st _ O htr k he ?_
  intro a' c' e e1 e2 e3 e4 e5
  rcases e4 with⟨rfl,k1,k2⟩ | ⟨n,tmx,rfl,k1,k2,k3,_⟩
  .let⟨v,N,G⟩:=fin c' a'.tmps e3 e1 k2.2
   refine⟨e5,v,N,c',rfl,e1,e2.X,e2,e3,.inl ⟨aC st.tmps (.tmp (fn.ntmps+2)),vr,v,?_,rfl,G⟩⟩
   have m1:aC st.tmps (.tmp (fn.ntmps+1))=.lit (.bool false):=by simp only[aC,k1]
   simp only[eH,m1]
  .refine⟨e5,c',rfl,e1,e2.X,e2,e3,.inr ⟨n,vr,?_,rfl⟩⟩
   simp only[eH,aC,k1,k2]
def aCT(o:aL)(t:Nat): Bool:=match o.guard with
 | none=>match o.op with
  | .alloc _=>match o.dst with
   | some d=>Nat.beq d t
   | none=>false
  | _=>false
 | some _=>false
theorem JZ{o:aL}{t:Nat}(h:aCT o t=true): ∃z,o=⟨some t,.alloc z,none⟩:=by
 unfold aCT at h;let⟨a,b,g⟩:=o;simp only at h
 repeat' split at h
 all_goals first | cases h;done | skip
 rw[Nat.eq_of_beq_eq_true h];exact⟨_,rfl⟩
def aFJ[aB](T:List bK)(o:aL)(o1 o2:Oper)(n0 t1 t2 g:Nat): Bool:=match o.guard,o.op,o.dst with
 | none,.mkFn vg [.tmp a,.tmp b],some d=>Nat.beq a t1&&(Nat.beq b t2&&(Nat.blt d n0&&(!Nat.beq d t1&&(!Nat.beq d t2&&(aG T vg==some g&&(o1.guard.isNone&&(o2.guard.isNone&&(o1.dst==some d&&(o2.dst.isNone&&match o1.op,o2.op with
  | .makeFunc (.func f) fs cs,.defer ⟨.value (.tmp e),as1,_⟩=>Nat.beq f g&&(fs.isEmpty&&(as1.isEmpty&&(Nat.beq e d&&match cs.toList with
   | [.tmp x,.tmp y]=>Nat.beq x t1&&Nat.beq y t2
   | _=>false)))
  | _,_=>false)))))))))
 | _,_,_=>false
theorem I3[aB]{o:aL}{o1 o2:Oper}{n0 t1 t2 g:Nat}(h:aFJ T o o1 o2 n0 t1 t2 g=true): ∃vg d ts,o=⟨some d,.mkFn vg [.tmp t1,.tmp t2],none⟩/\d<n0/\d≠t1/\d≠t2/\aG T vg=some g/\o1.guard=none/\o2.guard=none/\o1.dst=some d/\o2.dst=none/\o1.op=.makeFunc (.func g) #[] #[.tmp t1,.tmp t2]/\o2.op=.defer ⟨.value (.tmp d),#[],ts⟩:=by
 unfold aFJ at h;let⟨a,b,k⟩:=o;simp only at h
 split at h
 case h_2=>cases h
 rename_i vg a b d
 simp only[Bool.and_eq_true,Bool.not_eq_true',Option.isNone_iff_eq_none,beq_iff_eq] at h
 let⟨h1,h2,h3,h4,h5,h6,h7,h8,h9,h10,h11⟩:=h
 split at h11
 case h_2=>cases h11
 rename_i f fs cs e as1 ts q1 q2
 simp only[Bool.and_eq_true] at h11
 let⟨k1,k2,k3,k4,k5⟩:=h11
 split at k5
 case h_2=>cases k5
 rename_i x y q3
 simp only[Bool.and_eq_true] at k5
 have h1:=Nat.eq_of_beq_eq_true h1
 have h2:=Nat.eq_of_beq_eq_true h2
 have k1:=Nat.eq_of_beq_eq_true k1
 have k4:=Nat.eq_of_beq_eq_true k4
 have k51:=Nat.eq_of_beq_eq_true k5.1
 have k52:=Nat.eq_of_beq_eq_true k5.2
 have hfs:fs=#[]:=by simpa using k2
 have has:as1=#[]:=by simpa using k3
 have hcs:cs=#[.tmp x,.tmp y]:=by apply Array.ext';simpa using q3
 subst h1 h2 k1 k4 k51 k52 hfs has hcs
 exact⟨vg,_,ts,rfl,by simpa [Nat.blt_eq] using h3,(λe=>by rw[e,Nat.beq_refl] at h4;cases h4),(λe=>by rw[e,Nat.beq_refl] at h5;cases h5),h6,h7,h8,h9,h10,q1,q2⟩
def Qw[aB](P:Program)(T:List bK)(f t1 t2 g:Nat)(F:bK): Bool:=match P.funcs[f]? with
 | some fn=>match fn.body with
  | some (.seq (.region i0 ops0 false) (.seq (.region _ ops1 false) rest))=>match F.body with
   | .seq (.region false [] [x,y]) (.seq (.region _ [] [m]) (.seq b fin))=>match F.rets with
    | [.tmp r1,.tmp r2,.tmp r3,.tmp r4]=>match ops1.toList with
     | [o1,o2]=>eW P T (.region false [] [x,y]) (.region i0 ops0 false)&&(aCT x t1&&(aCT y t2&&(NJ fn.ntmps x&&(NJ fn.ntmps y&&(aFJ T m o1 o2 fn.ntmps t1 t2 g&&(eJ P T fn.ntmps [t1,t2] b rest&&(oS t1 b&&(oS t2 b&&(v7 fn.ntmps fin&&(Nat.beq F.nt (fn.ntmps+3)&&(Nat.blt t1 fn.ntmps&&(Nat.blt t2 fn.ntmps&&(!Nat.beq t1 t2&&(Nat.beq r1 (fn.ntmps+1)&&(Nat.beq r2 (fn.ntmps+2)&&(Nat.beq r3 t1&&(Nat.beq r4 t2&&Nat.ble 4 fn.ntmps)))))))))))))))))
     | _=>false
    | _=>false
   | _=>false
  | _=>false
 | none=>false
theorem QO[aB](I:P.follows .mixedOrders=true){cf:CF}{lf fl f t1 t2 g:Nat}{F:bK}(hfo:gW cf)(hcf:lP P T cf)(hpan:Xu P T cf)(hfn:fW P T)(hF:Qw P T f t1 t2 g F=true){b:List AV}{us:Array Value}{c:bV}{x:bP}{st:St}{vals:List AV}(hx:x=.normal\/x=.ret)(he:cH P cf lf fl F.body ⟨b++List.replicate (F.nt-b.length) (.lit aW),c.H⟩=some (x,st))(hr:dM st F.rets=some vals)(O:bJ (aG T) c)(k:fl<=c.H.length)(d:jQ (aG T) c b us)(hb:b.length<=4):
 ∃fn code,P.funcs[f]?=some fn/\fn.body=some code/\∀Q:Exit->Act->World->Prop,(∀a' c' e,c'.H=st.heap->c'.X=c.X->bG fl c c'->bJ (aG T) c'->aG9 (aG T) c' (eH vals) t1 t2 g a' e->Q e a' c'.w)->code.wp P Q { tmps:=us++Array.replicate (fn.ntmps-us.size) undef,defers:=[] } c.w:=by
 unfold Qw at hF
 split at hF
 case h_2=>cases hF
 rename_i fn hf
 split at hF
 case h_2=>cases hF
 rename_i i0 ops0 i1 ops1 rest hbody
 split at hF
 case h_2=>cases hF
 rename_i ox oy dm om B fin hB
 split at hF
 case h_2=>cases hF
 rename_i r1 r2 r3 r4 hr1
 split at hF
 case h_2=>cases hF
 rename_i o1 o2 hops1
 simp only[Bool.and_eq_true,Bool.not_eq_true'] at hF
 let⟨q1,q2,q3,q4,q5,q6,q7,q8,q9,q10,q11,q12,q13,q14,q15,q16,q17,q18,q19⟩:=hF
 have q11:=Nat.eq_of_beq_eq_true q11
 have q12:t1<fn.ntmps:=by simpa [Nat.blt_eq] using q12
 have q13:t2<fn.ntmps:=by simpa [Nat.blt_eq] using q13
 have q14:t1≠t2:=λe=>by rw[e,Nat.beq_refl] at q14;cases q14
 have q15:=Nat.eq_of_beq_eq_true q15
 have q16:=Nat.eq_of_beq_eq_true q16
 have q17:=(Nat.eq_of_beq_eq_true q17).symm
 have q18:=(Nat.eq_of_beq_eq_true q18).symm
 have q19:=Nat.le_of_ble_eq_true q19
 subst q15 q16 q17 q18
 let⟨z1,hox⟩:=JZ q2
 let⟨z2,hoy⟩:=JZ q3
 subst hox hoy
 let⟨vg,dd,ts,hom,m1,m2,m3,m4,m5,m6,m7,m8,m9,m10⟩:=I3 q6
 subst hom
 let⟨dr,hfin⟩:=EH q10
 refine⟨fn,_,hf,hbody,λQ hQ=>?_⟩
 rw[hB,hfin,q11] at he
 rw[hr1] at hr
 generalize htm0:b++List.replicate (fn.ntmps+3-b.length) (AV.lit aW)=tm0 at he
 have hlen0:tm0.length=fn.ntmps+3:=by rw[<-htm0];simp;omega
 have htr0:TR (aG T) c (tm0.take fn.ntmps) (us++Array.replicate (fn.ntmps-us.size) undef):=by
  rw[<-htm0,ER (by omega)];exact Gi d
 generalize hs0:(⟨(tm0.set t1 (.ptr c.H.length 1 0 0)).set t2 (.ptr (c.H++[cN.blk z1.length [z1.map .lit]]).length 1 0 0),(c.H++[.blk z1.length [z1.map .lit]])++[.blk z2.length [z2.map .lit]]⟩:St)=s0
 have hL0:bE P cf fl [⟨some t1,.alloc z1,none⟩,⟨some t2,.alloc z2,none⟩] ⟨tm0,c.H⟩=some s0:=by rw[<-hs0];rfl
 let⟨k1,k2⟩:=qI (n0:=fn.ntmps) (by simp only[List.all_cons,List.all_nil,q4,q5,Bool.and_self]) hL0
 have hc0:dF P T ops0 [⟨some t1,.alloc z1,none⟩,⟨some t2,.alloc z2,none⟩] ops0.toList=true:=by
  simp only[eW,Bool.and_eq_true] at q1;exact q1.1.2
 have g1:s0.tmps[t1]?=some (.ptr c.H.length 1 0 0):=by
  rw[<-hs0];simp only;rw[List.getElem?_set_ne (Ne.symm q14),List.getElem?_set_self (by omega)]
 have g2:s0.tmps[t2]?=some (.ptr (c.H++[cN.blk z1.length [z1.map .lit]]).length 1 0 0):=by
  rw[<-hs0];simp only;rw[List.getElem?_set_self (by simp only[List.length_set];omega)]
 refine wp_seq (wp_region ?_)
 rw[List.range_eq_range',show ops0.size=[(⟨some t1,.alloc z1,none⟩:aL),⟨some t2,.alloc z2,none⟩].length by rw[(eV hc0).1];simp,<-List.append_nil (List.range' 0 _)]
 refine Bl hcf hfn _ ops0.toList 0 c _ (tm0.take fn.ntmps) _ hc0 (λj o h=>by simpa using h) O htr0 k k1 ?_
 intro a1 c1 e1 e2 e3 e4 e5
 show (Code.seq (.region i1 ops1 false) rest).wp P Q a1 c1.w
 have t1v:=e4.2 t1 (.ptr c.H.length 1 0 0) (by rw[List.getElem?_take,if_pos q12];exact g1)
 have t2v:=e4.2 t2 _ (show (s0.tmps.take fn.ntmps)[t2]?=_ by rw[List.getElem?_take,if_pos q13];exact g2)
 let⟨u1,v1,w1⟩:=t1v
 let⟨u2,v2,w2⟩:=t2v
 have ev1:a1.eval (.tmp t1)=u1:=by simp[Act.eval,v1]
 have ev2:a1.eval (.tmp t2)=u2:=by simp[Act.eval,v2]
 have hops:ops1=#[o1,o2]:=by apply Array.ext';simpa using hops1
 subst hops
 have hsz:a1.tmps.size=fn.ntmps:=by rw[<-e4.1];simp only[List.length_take,k2,hlen0];omega
 refine wp_seq (wp_region ?_)
 show wpOps P #[o1,o2] _ [0,1] a1 c1.w
 rw[wpOps_cons]
 unfold wpOp
 simp only[show (#[o1,o2]:Array Oper)[0]?=some o1 from rfl]
 rw[if_pos (by simp[Region.wanted,m5])];left
 have r1:(execOp a1.eval o1).run P c1.w=.ok (.value (.func (.func g) #[] #[u1,u2])) c1.w:=by simp[execOp,m9,Instr.makeFunc,ev1,ev2]
 unfold Oper.wp;rw[r1,Oper.upon_value,wpOps_cons]
 unfold wpOp
 simp only[show (#[o1,o2]:Array Oper)[1]?=some o2 from rfl]
 rw[if_pos (by simp[Region.wanted,m6])];left
 have ev3:(a1.put o1.dst (.func (.func g) #[] #[u1,u2])).eval (.tmp dd)=.func (.func g) #[] #[u1,u2]:=by
  rw[m7];simp[Act.put,Act.eval,hsz,m1]
 have r2:(execOp (a1.put o1.dst (.func (.func g) #[] #[u1,u2])).eval o2).run P c1.w=.ok (.defer { target:=.fn (.func g) #[u1,u2],args:=#[] }) c1.w:=by
  simp[execOp,m10,resolve,ev3,Deferred.ofValue]
 unfold Oper.wp;rw[r2,Oper.upon_defer,m8]
 have he2:cH P cf lf fl (.seq B (.region dr [] (NU fn.ntmps))) ⟨s0.tmps.set dd (.fn vg [aC s0.tmps (.tmp t1),aC s0.tmps (.tmp t2)]),s0.heap⟩=some (x,st):=by
  rw[<-hs0];simpa only[cH,eI,bE,bD,cO,aI,eL,List.map_cons,List.map_nil] using he
 have gp1:aC s0.tmps (.tmp t1)=.ptr c.H.length 1 0 0:=by simp only[aC,g1]
 have gp2:aC s0.tmps (.tmp t2)=.ptr (c.H++[cN.blk z1.length [z1.map .lit]]).length 1 0 0:=by simp only[aC,g2]
 have hput:(a1.put o1.dst (.func (.func g) #[] #[u1,u2])).defers=[]:=by rw[gN,e5]
 have htr1:N4 (aG T) fn.ntmps c1 (s0.tmps.set dd (.fn vg [aC s0.tmps (.tmp t1),aC s0.tmps (.tmp t2)])) (a1.put o1.dst (.func (.func g) #[] #[u1,u2])).tmps:=by
  refine⟨by rw[List.length_set,k2,hlen0];exact Nat.le_refl _,?_⟩
  rw[take_set,m7]
  refine TR.put (d:=some dd) e4 ?_
  rw[gp1,gp2]
  refine .fn vg g _ #[u1,u2] (λi=>if i=0 then u1 else u2) m4 rfl ?_ ?_
  .intro i y h
   match i with
   | 0=>rfl
   | 1=>rfl
   | i+2=>simp at h
  .intro i y h
   match i with
   | 0=>simp at h;subst h;exact w1
   | 1=>simp at h;subst h;simpa using w2
   | i+2=>simp at h
 have kp1:Hk t1 c.H.length 1 0 0 ⟨s0.tmps.set dd (.fn vg [aC s0.tmps (.tmp t1),aC s0.tmps (.tmp t2)]),s0.heap⟩:=.inl (by show (s0.tmps.set dd _)[t1]?=_;rw[List.getElem?_set_ne m2];exact g1)
 have kp2:Hk t2 (c.H++[cN.blk z1.length [z1.map .lit]]).length 1 0 0 ⟨s0.tmps.set dd (.fn vg [aC s0.tmps (.tmp t1),aC s0.tmps (.tmp t2)]),s0.heap⟩:=.inl (by show (s0.tmps.set dd _)[t2]?=_;rw[List.getElem?_set_ne m3];exact g2)
 have hcp:=eY (fl:=fl) (lf:=lf) (n0:=fn.ntmps) (K:=[t1,t2]) I hfo hcf hpan hfn B rest q7
 have split4:∀s:St,dM s [.tmp (fn.ntmps+1),.tmp (fn.ntmps+2),.tmp t1,.tmp t2]=some vals->vals=[aC s.tmps (.tmp (fn.ntmps+1)),aC s.tmps (.tmp (fn.ntmps+2)),aC s.tmps (.tmp t1),aC s.tmps (.tmp t2)]:=by
  intro s h;simp only[dM,sK,Option.some.injEq] at h;exact h.symm
 have hv:=split4 st hr
 subst hv
 have ends:∀(s:St) (c':bV) (tv:Array Value) (tmx:List AV) (t i:Nat) (u:Value),Hk t i 1 0 0 s->bG fl c1 c'->RV (aG T) c1 (.ptr i 1 0 0) u->TR (aG T) c' tmx tv->tmx[t]?=s.tmps[t]?->RV (aG T) c' (aC s.tmps (.tmp t)) u/\∃v,tv[t]?=some v/\RV (aG T) c' (aC s.tmps (.tmp t)) v:=by
  intro s c' tv tmx t i u hk hst hu htr hq
  rcases hk with h | h
  .rw[h] at hq;let⟨v,y1,y2⟩:=htr.2 t _ hq
   simp only[aC,h];exact⟨hu.step hst,v,y1,y2⟩
  .rw[h] at hq;let⟨v,y1,_⟩:=htr.2 t _ hq
   simp only[aC,h];exact⟨RV.undef _,v,y1,RV.undef _⟩
 show rest.wp P Q { (a1.put o1.dst (.func (.func g) #[] #[u1,u2])) with defers:=_ } c1.w
 rw[hput]
 simp only[cH] at he2
 split at he2
 .rename_i s1 he1
  simp only[eI,NU,bE,bD,cO,aI,aC,eL,Option.some.injEq,Prod.mk.injEq] at he2
  let⟨_,hst⟩:=he2
  subst hst
  have he1':=he1
  rw[<-e1] at he1
  refine hcp c1 _ _ .normal s1 _ e3 htr1 (Nat.le_trans k e2.len) he1 ?_
  intro a' c' e f1 f2 f3 f4 f5
  rw[f4.1]
  have l:=f4.2.1
  have b1:=gJ hfo B _ _ _ q8 he1' kp1
  have b2:=gJ hfo B _ _ _ q9 he1' kp2
  let⟨x1,x2⟩:=ends s1 c' a'.tmps (s1.tmps.take fn.ntmps) t1 _ u1 b1 f2 w1 f4.2.2 (by rw[List.getElem?_take,if_pos q12])
  let⟨x3,x4⟩:=ends s1 c' a'.tmps (s1.tmps.take fn.ntmps) t2 _ u2 b2 f2 w2 f4.2.2 (by rw[List.getElem?_take,if_pos q13])
  refine hQ a' c' .normal f1 (f2.X.trans e2.X) (e2.trans f2) f3 ⟨false,aC ((s1.tmps.set (fn.ntmps+1) (.lit (.bool false))).set (fn.ntmps+2) (.lit (.int .i64 0))) (.tmp (fn.ntmps+2)),aC s1.tmps (.tmp t1),aC s1.tmps (.tmp t2),u1,u2,?_,x1,x3,x2,x4,f5,.inl ⟨rfl,.inr rfl⟩⟩
  have n1:aC ((s1.tmps.set (fn.ntmps+1) (.lit (.bool false))).set (fn.ntmps+2) (.lit (.int .i64 0))) (.tmp (fn.ntmps+1))=.lit (.bool false):=by
   simp only[aC];rw[List.getElem?_set_ne (by omega),List.getElem?_set_self (by omega)]
  have n2:∀t,t<fn.ntmps->aC ((s1.tmps.set (fn.ntmps+1) (.lit (.bool false))).set (fn.ntmps+2) (.lit (.int .i64 0))) (.tmp t)=aC s1.tmps (.tmp t):=by
   intro t ht;simp only[aC];rw[List.getElem?_set_ne (by omega),List.getElem?_set_ne (by omega)]
  simp only[eH,n1,n2 t1 q12,n2 t2 q13]
 .rename_i rx hne
  have hxr:x=.ret:=by
   rcases hx with rfl | rfl
   .exact (hne st he2).elim
   .rfl
  subst hxr
  have he1':=he2
  rw[<-e1] at he2
  refine hcp c1 _ _ .ret st _ e3 htr1 (Nat.le_trans k e2.len) he2 ?_
  intro a' c' e f1 f2 f3 f4 f5
  have b1:=gJ hfo B _ _ _ q8 he1' kp1
  have b2:=gJ hfo B _ _ _ q9 he1' kp2
  rcases f4 with⟨rfl,h1,h2⟩ | ⟨n,tmx,rfl,h1,h2,h3,h4⟩
  .let⟨x1,x2⟩:=ends st c' a'.tmps (st.tmps.take fn.ntmps) t1 _ u1 b1 f2 w1 h2.2 (by rw[List.getElem?_take,if_pos q12])
   let⟨x3,x4⟩:=ends st c' a'.tmps (st.tmps.take fn.ntmps) t2 _ u2 b2 f2 w2 h2.2 (by rw[List.getElem?_take,if_pos q13])
   refine hQ a' c' .ret f1 (f2.X.trans e2.X) (e2.trans f2) f3 ⟨false,aC st.tmps (.tmp (fn.ntmps+2)),_,_,u1,u2,?_,x1,x3,x2,x4,f5,.inl ⟨rfl,.inl rfl⟩⟩
   have n1:aC st.tmps (.tmp (fn.ntmps+1))=.lit (.bool false):=by simp only[aC,h1]
   simp only[eH,n1]
  .let⟨x1,x2⟩:=ends st c' a'.tmps tmx t1 _ u1 b1 f2 w1 h3 (h4 t1 (by simp))
   let⟨x3,x4⟩:=ends st c' a'.tmps tmx t2 _ u2 b2 f2 w2 h3 (h4 t2 (by simp))
   refine hQ a' c' _ f1 (f2.X.trans e2.X) (e2.trans f2) f3 ⟨true,.lit (.int .i64 n),_,_,u1,u2,?_,x1,x3,x2,x4,f5,.inr ⟨n,rfl,rfl,rfl⟩⟩
   have n1:aC st.tmps (.tmp (fn.ntmps+1))=.lit (.bool true):=by simp only[aC,h1]
   have n2:aC st.tmps (.tmp (fn.ntmps+2))=.lit (.int .i64 n):=by simp only[aC,h2]
   simp only[eH,n1,n2]
def aBn[aB](P:Program)(T:List bK): Prop:=∀vi vs t1 t2 g f,(vi,vs,t1,t2,g)∈aB.df->aG T vi=some f->aB.prim vs=none/\∃F,T[vs]?=some F/\Qw P T f t1 t2 g F=true
theorem UD[aB](I:P.follows .mixedOrders=true)(y:Checked P T)(z:aBm P T)(zd:aBn P T)(C:PB P T): ∀n,lP P T (dK P T n)/\Xu P T (dK P T n)/\aBo P T (dK P T n)
 | 0=>⟨fun fl vi f b r H' c vs a=>by simp[dK] at a,fun fl vi vs f b r H' c us _ _ _ a=>by simp[dK] at a,fun fl vi vs t1 t2 g f b r H' c us _ _ _ a=>by simp[dK] at a⟩
 | n+1=>by
  have L:=UD I y z zd C n
  refine⟨?_,?_,?_⟩
  .intro fl vi f b r H' c vs a m O k d;simp only[dK] at a;split at a
   .rename_i g V;exact C.ok _ (Bv P T C.fl n) L.1 L.2.1 L.2.2 fl vi f b r H' c vs (by simp only[Co,V];exact a) m O k d
   split at a
   .cases a
   .rename_i F E;let⟨F',E',B,hlt⟩:=KC m;rw[E] at E';cases E'
    subst B;let⟨fn,i,W,Y,R,M,U,_⟩:=Xn<|y F (List.mem_of_getElem? E) hlt;refine calls_of_wp W Y ?_;have s:TR (aG T) c (b++List.replicate (F.nt-b.length) (.lit aW))<|vs++Array.replicate (fn.ntmps-vs.size) undef:=by
     rw[M];exact Gi d
    have j:=dQ (fl:=fl) (lf:=n) I (Bv P T C.fl n) L.1 (Pk y) F.body i R;have l:∀(x:bP) (st:St),(x=.normal\/x=.ret)->cH P (dK P T n) n fl F.body ⟨b++List.replicate (F.nt-b.length) (.lit aW),c.H⟩=some (x,st)->
     (match dM st F.rets with | some Q=>some (eH Q,st.heap) | none=>none)=some (r,H')->
     i.wp P (bodyPost P fn λe w'=>∃v c',e=.returned v/\c'.w=w'/\c'.H=H'/\c'.X=c.X/\bG fl c c'/\bJ (aG T) c'/\RV (aG T) c' r v)
      { tmps:=vs++Array.replicate (fn.ntmps-vs.size) undef,defers:=[] } c.w:=by
     intro x st h he p;split at p
     .rename_i Q z;simp only[Option.some.injEq,Prod.mk.injEq] at p;let⟨rfl,rfl⟩:=p;refine j c _ _ x st _ O s k he ?_;intro a' c' u e2 D S K;let⟨v,N,G⟩:=vR (fn:=fn) D u S U z;rcases h with rfl | rfl
      .exact⟨K,v,N,v,c',rfl,rfl,u,e2.X,e2,D,G⟩
      .exact⟨K,v,N,v,c',rfl,rfl,u,e2.X,e2,D,G⟩
     .cases p
    split at a
    .rename_i st he;exact l .normal st (.inl rfl) he a
    .rename_i st he;exact l .ret st (.inr rfl) he a
    .cases a
  .intro fl vi vs f b r H' c us hsh m hle a O k d
   let⟨hp,F,E,hF⟩:=z vi vs f hsh m
   simp only[dK,hp,E] at a
   have l:∀(x:bP) (st:St),(x=.normal\/x=.ret)->cH P (dK P T n) n fl F.body ⟨b++List.replicate (F.nt-b.length) (.lit aW),c.H⟩=some (x,st)->
     (match dM st F.rets with | some Q=>some (eH Q,st.heap) | none=>none)=some (r,H')->Calls P f us c.w λe w'=>∃c',c'.w=w'/\c'.H=H'/\c'.X=c.X/\bG fl c c'/\bJ (aG T) c'/\aG5 (aG T) c' r e:=by
    intro x st h he p;split at p
    .rename_i Q z;simp only[Option.some.injEq,Prod.mk.injEq] at p;let⟨rfl,rfl⟩:=p
     exact WI I (Bv P T C.fl n) L.1 L.2.1 (Pk y) hF h he z O k d hle
    .cases p
   split at a
   .rename_i st he;exact l .normal st (.inl rfl) he a
   .rename_i st he;exact l .ret st (.inr rfl) he a
   .cases a
  .intro fl vi vs t1 t2 g f b r H' c us hd m hle a O k d
   let⟨hp,F,E,hF⟩:=zd vi vs t1 t2 g f hd m
   simp only[dK,hp,E] at a
   have l:∀(x:bP) (st:St),(x=.normal\/x=.ret)->cH P (dK P T n) n fl F.body ⟨b++List.replicate (F.nt-b.length) (.lit aW),c.H⟩=some (x,st)->
     (match dM st F.rets with | some Q=>some (eH Q,st.heap) | none=>none)=some (r,H')->∃fn code,P.funcs[f]?=some fn/\fn.body=some code/\∀Q:Exit->Act->World->Prop,(∀a' c' e,c'.H=H'->c'.X=c.X->bG fl c c'->bJ (aG T) c'->aG9 (aG T) c' r t1 t2 g a' e->Q e a' c'.w)->code.wp P Q { tmps:=us++Array.replicate (fn.ntmps-us.size) undef,defers:=[] } c.w:=by
    intro x st h he p;split at p
    .rename_i Q z;simp only[Option.some.injEq,Prod.mk.injEq] at p;let⟨rfl,rfl⟩:=p
     exact QO I (Bv P T C.fl n) L.1 L.2.1 (Pk y) hF h he z O k d hle
    .cases p
   split at a
   .rename_i st he;exact l .normal st (.inl rfl) he a
   .rename_i st he;exact l .ret st (.inr rfl) he a
   .cases a
theorem J5[aB](I:P.follows .mixedOrders=true)(y:Checked P T)(z:aBm P T)(zd:aBn P T)(C:PB P T)(n:Nat): lP P T (dK P T n):=(UD I y z zd C n).1
end
section
open Go.RowKit
def mxL: Nat:=140737488355328
def nC(P:Program): Nat->TypeId->List AV->Prop
 | 0,_,_=>False
 | n+1,t,xs=>
  match P.underlying t with
  | some .bool=>∃b,xs=[.lit<|.bool b]
  | some (.int k)=>∃z,(Lit.int k z).wf=true/\xs=[.lit<|.int k z]
  | some .string=>∃s:ByteArray,s.size<=maxLen/\xs=[.lit<|.string s]
  | some (.slice e)=>∃es:List<|List AV,xs=[.sl false es]/\es.length<=mxL/\∀x∈es,nC P n e x
  | some (.struct fs)=>∃ps:List<|List AV,xs=ps.flatten/\ps.length=fs.size/\∀(i:Nat) (f:Field) (p:List AV),fs[i]?=some f->ps[i]?=some p->nC P n f.type p
  | some (.array m e)=>∃ps:List<|List AV,xs=ps.flatten/\ps.length=m/\∀p∈ps,nC P n e p
  | _=>False
def FA(P:Program): Nat->List Field->Nat->Bool
 | o,[],tot=>o==tot
 | o,f::r,tot=>f.offset==o&&FA P (o+P.cellsOf f.type) r tot
def okT(P:Program): Nat->TypeId->Bool
 | 0,_=>false
 | n+1,t=>
  match P.underlying t with
  | some .bool=>true
  | some (.int _)=>true
  | some .string=>true
  | some (.slice e)=>decide (0<P.cellsOf e)&&(decide (0<P.bytesOf e)&&okT P n e)
  | some (.struct fs)=>FA P 0 fs.toList (P.cellsOf t)&&fs.toList.all λf=>okT P n f.type
  | some (.array m e)=>P.cellsOf t==m*P.cellsOf e&&okT P n e
  | _=>false
def CR(w:World)(xs:List AV)(cs:List Value): Prop:=
 xs.length=cs.length/\∀(j:Nat) (x:AV),xs[j]?=some x->∃v,cs[j]?=some v/\aY v=true/\RP w (λ_=>True) x v
theorem CR.nil{w:World}: CR w [] []:=⟨rfl,λj x h=>by simp at h⟩
theorem CR.one{w:World}{x:AV}{v:Value}(b:aY v=true)(h:RP w (λ_=>True) x v): CR w [x] [v]:=
 ⟨rfl,λj y a=>by
  cases j with
  | zero=>simp only[List.getElem?_cons_zero,Option.some.injEq] at a;subst a;exact⟨v,by simp,b,h⟩
  | succ j=>simp at a⟩
theorem CR.append{w:World}{c ys:List AV}{cs ds:List Value}(h:CR w c cs)(k:CR w ys ds): CR w (c++ys)<|cs++ds:=
 ⟨by simp[h.1,k.1],λj x b=>by
  rw[List.getElem?_append] at b |-;rw[h.1] at b;split at b
  .rename_i a;rw[if_pos a];exact h.2 j x b
  .rename_i a;rw[if_neg a];exact k.2 _ x b⟩
theorem CR.flatten[aB]{w:World}: ∀{b:List<|List AV} {a:List<|List Value},b.length=a.length->(∀(i:Nat) p q,b[i]?=some p->a[i]?=some q->CR w p q)->CR w b.flatten a.flatten
 | [],[],_,_=>CR.nil
 | [],_::_,h,_=>by simp at h
 | _::_,[],h,_=>by simp at h
 | p::b,q::a,h,k=>by
  simp only[List.flatten_cons];exact (k 0 p q rfl rfl).append<|CR.flatten (by simpa using h) λi p' q' d c=>k (i+1) p' q' (by simpa using d)<|by simpa using c
theorem wX[aB]{α:Type}{Q:Nat->α->Prop}: ∀n,(∀i,i<n->∃x,Q i x)->∃l:List α,l.length=n/\∀i x,l[i]?=some x->Q i x
 | 0,_=>⟨[],rfl,λi x h=>by simp at h⟩
 | n+1,h=>by
  let⟨l,b,d⟩:=wX n λi e=>h i (by omega);let⟨x,c⟩:=h n (by omega);refine⟨l++[x],by simp[b],λi y a=>?_⟩;rw[List.getElem?_append] at a;split at a
  .exact d i y a
  .have:i=n:=by
    rcases Nat.lt_or_ge (i-l.length) 1 with h | h
    .omega
    .rw[List.getElem?_eq_none<|by simpa using h] at a;cases a
   subst this;rw[b] at a;simp at a;subst a;exact c
theorem Xl[aB]{P:Program}{α:Type}(cs:List α){tot:Nat}(c:cs.length=tot): ∀(a:List Field) (o:Nat),FA P o a tot=true->
 cs.drop o=(a.map λf=>(cs.drop f.offset).take<|P.cellsOf f.type).flatten
 | [],o,h=>by
  simp only[FA,beq_iff_eq] at h;simp only[List.map_nil,List.flatten_nil,List.drop_eq_nil_iff];omega
 | f::r,o,h=>by
  simp only[FA,Bool.and_eq_true,beq_iff_eq] at h;let⟨d,b⟩:=h;have e:=Xl cs c r _ b;simp only[List.map_cons,List.flatten_cons,<-e,d];rw[<-List.drop_drop,List.take_append_drop]
theorem Cc[aB]{α:Type}(s:Nat): ∀(m o:Nat) (cs:List α),cs.length=o+m*s->
 cs.drop o=((List.range m).map λi=>(cs.drop<|o+i*s).take s).flatten
 | 0,o,cs,h=>by simp[List.drop_eq_nil_iff];omega
 | m+1,o,cs,h=>by
  have a:=Cc s m (o+s) cs (by rw[h,Nat.succ_mul];omega);rw[List.range_succ_eq_map];simp only[List.map_cons,List.map_map,List.flatten_cons];have e:((List.range m).map<|(λi=>(cs.drop<|o+i*s).take s)∘Nat.succ)=(List.range m).map λi=>(cs.drop<|o+s+i*s).take s:=by
   refine List.map_congr_left λi _=>?_;simp only[Function.comp,Nat.succ_mul];congr 2;omega
  rw[e,<-a,Nat.zero_mul,Nat.add_zero,<-List.drop_drop,List.take_append_drop]
section
variable {H:Type}{enc:TypeId×Value->H}{P:Program}{w:World}{base:Nat}{spare:Nat->Bool}{held:Bool}
theorem cells?_get{a:Addr}{n:Nat}{l:List Value}(h:w.cells? base a n=some l): l.length=n/\∀i,i<n->w.cell? (a.add i)=l[i]?:=by
 unfold World.cells? at h;split at h
 .exact⟨by simpa using mapM_some_length h,λi c=>mapM_some_get h i i<|by simp[c]⟩
 .cases h
theorem cell?_inv{a:Addr}{v:Value}(h:w.cell? a=some v): ∃c T b,w.heap[a.block]?=some (.cells c T b)/\a.spot=none/\c[a.off]?=some v:=by
 unfold World.cell? at h;split at h
 .rename_i c T b d;split at h
  .cases h
  .rename_i e;exact⟨c,T,b,d,by simpa using e,h⟩
 .cases h
theorem A3(a:Addr)(n:Nat): (a.add n).off=a.off+n:=by
 unfold Addr.add;split
 .rename_i h;simp[h]
 .rfl
theorem O3{P:Program}{e:TypeId}: ∀{ds:List<|DataW H} {i:Nat} {d:DataW H},ds[i]?=some d->∀n∈d.weights P e,n∈DataW.weightsAll P e ds
 | [],_,_,h,_,_=>by simp at h
 | b::ds,0,d,h,n,a=>by
  simp only[List.getElem?_cons_zero,Option.some.injEq] at h;subst h;simp only[DataW.weightsAll,List.mem_append];exact .inl a
 | b::ds,i+1,d,h,n,a=>by
  simp only[DataW.weightsAll,List.mem_append];exact .inr<|O3 (by simpa using h) n a
theorem Aq[aB]: ∀(n:Nat) (t:TypeId) (cs:List Value) (x:DataW H×List MemPlace) (F:Nat),okT P n t=true->DataW.trod enc P w base spare held F t cs=some x->(∀n∈x.1.weights P t,n<=reachBytes)->∃xs,nC P n t xs/\CR w xs cs
 | 0,t,cs,x,F,A,_,_=>by simp[okT] at A
 | n+1,t,cs,x,F,A,h,O=>by
  unfold okT at A;unfold nC;split at A
  .rename_i C;obtain⟨b,rfl,_⟩:=DataW.trod_bool C h;exact⟨_,⟨b,rfl⟩,CR.one rfl<|.lit _⟩
  .rename_i k C;obtain⟨z,rfl,_,hw⟩:=DataW.trod_int C h;exact⟨_,⟨z,hw,rfl⟩,CR.one rfl<|.lit _⟩
  .rename_i C;obtain⟨z,rfl,_,hw⟩:=DataW.trod_string C h;exact⟨_,⟨z,hw,rfl⟩,CR.one rfl<|.lit _⟩
  .rename_i e C;simp only[Bool.and_eq_true,decide_eq_true_eq] at A;let⟨c3,a3,A⟩:=A;rcases DataW.trod_slice C h with⟨rfl,_⟩ | ⟨a,len,cap,g,rest,m,_,rfl,rfl,_,e3,d3,e1,G,_,_⟩
   .exact⟨_,⟨[],rfl,by simp,λx D=>by cases D⟩,CR.one rfl<|.nil _ _ _<|by simp⟩
   .have u:∀i,i<len->∃y:List AV,nC P n e y/\∃l,w.cells? base (a.add<|i*P.cellsOf e) (P.cellsOf e)=some l/\CR w y l:=by
     intro i s;have J:=G i s;have h2:g[i]?=some g[i]:=List.getElem?_eq_getElem (by omega);rw[h2] at J;cases hc:w.cells? base (a.add<|i*P.cellsOf e) (P.cellsOf e) with
     | none=>rw[hc] at J;simp at J
     | some l=>
      rw[hc] at J;let⟨y,E,R⟩:=Aq n e l _ m A (by simpa using J) λz hz=>O z<|by
       simp only[DataW.weights,C,List.mem_cons,List.mem_append];exact .inr<|.inl<|O3 (ds:=g.map (·.1)) (i:=i) (by rw[List.getElem?_map,h2];rfl) z hz
      exact⟨y,E,l,rfl,R⟩
    let⟨es,d,Z⟩:=wX len u;have b1:es.length<=mxL:=by
     have:=O ((g.length+rest.length)*P.bytesOf e) (by simp only[DataW.weights,C,List.mem_cons,List.length_map];exact .inl trivial);have h3:=Nat.le_mul_of_pos_right (g.length+rest.length) a3;have h4:=reachBytes_lt;show _<=140737488355328;omega
    refine⟨[.sl false es],⟨es,rfl,b1,λy hy=>?_⟩,CR.one rfl ?_⟩
    .obtain⟨i,s,rfl⟩:=List.mem_iff_getElem.1 hy;exact (Z i _<|List.getElem?_eq_getElem s).1
    .by_cases h0:es=[]
     .subst h0;simp at d;subst d;exact .nil _ _ _<|by simp
     .have e2:0<len:=by
       rcases Nat.eq_zero_or_pos len with h | h
       .rw[h] at d;exact absurd (List.length_eq_zero_iff.1 d) h0
       .exact h
      have L:∀i j x,bL es i j=some x->∃v,w.cell? ((a.add<|i*P.cellsOf e).add j)=some v/\aY v=true/\RP w (λ_=>True) x v/\j<P.cellsOf e:=by
       intro i j x D;unfold bL at D;cases s:es[i]? with
       | none=>rw[s] at D;cases D
       | some y=>
        rw[s] at D;let⟨_,l,E,R⟩:=Z i y s;let⟨v,B,W,N⟩:=R.2 j x D;let⟨c1,c2⟩:=cells?_get E;have hj:j<P.cellsOf e:=by
         rcases Nat.lt_or_ge j (P.cellsOf e) with h | h
         .exact h
         .rw[List.getElem?_eq_none<|by omega] at B;cases B
        exact⟨v,(c2 j hj).trans B,W,N,hj⟩
      have M:∀y∈es,y.length=P.cellsOf e:=by
       intro y hy;obtain⟨i,s,rfl⟩:=List.mem_iff_getElem.1 hy;let⟨_,l,E,R⟩:=Z i _<|List.getElem?_eq_getElem s;rw[R.1];exact (cells?_get E).1
      have a1:∃x,bL es 0 0=some x:=by
       cases es with
       | nil=>exact absurd rfl h0
       | cons y r=>
        have:=M y (by simp);exact⟨y[0],by simp[bL]⟩
      let⟨x0,a1⟩:=a1;let⟨v0,B,_,_,_⟩:=L 0 0 x0 a1;let⟨c,T,fz,hb,Y,_⟩:=cell?_inv B;simp only[Nat.zero_mul,Addr.add,if_true] at hb Y;let⟨ab,ao,d2⟩:=a;simp only at hb Y;subst Y;have X:∀i j x,bL es i j=some x->∃v,c[ao+(i*P.cellsOf e+j)]?=some v/\aY v=true/\RP w (λ_=>True) x v:=by
       intro i j x D;let⟨v,B,W,N,_⟩:=L i j x D;let⟨c',T',f1,E,_,k3⟩:=cell?_inv B;rw[ChangeShapes.block_add,ChangeShapes.block_add] at E;rw[hb] at E;cases E;rw[A3,A3,Nat.add_assoc] at k3;exact⟨v,k3,W,N⟩
      have hr:RP w (λ_=>True) (.sl false es)<|.slice (some ⟨ab,ao,none⟩) es.length cap:=by
       refine .sl false es ab ao cap c T fz (P.cellsOf e) (λi j=>(c[ao+(i*P.cellsOf e+j)]?).getD undef) h0 trivial hb M (by omega) (by simp) ?_ ?_
       .intro i j x D;let⟨v,B,W,N⟩:=X i j x D;exact⟨by rw[B];rfl,by rw[B];exact W⟩
       .intro i j x D;let⟨v,B,W,N⟩:=X i j x D;show RP w _ x<|(c[ao+(i*P.cellsOf e+j)]?).getD undef;rw[B];exact N
      rw[d] at hr;exact hr
  .rename_i U C;simp only[Bool.and_eq_true,List.all_eq_true] at A;let⟨K,A⟩:=A;obtain⟨ys,m,_,rfl,hl,b3,G⟩:=DataW.trod_struct C h;have u:∀i,i<U.size->∃y:List AV,∃f,U[i]?=some f/\nC P n f.type y/\CR w y ((cs.drop f.offset).take<|P.cellsOf f.type):=by
    intro i s;have hf:U[i]?=some U[i]:=by simp[s]
    have J:=G i _ hf;rw[List.getElem?_eq_getElem<|by omega] at J;let⟨y,E,R⟩:=Aq n _ _ _ m (A U[i]<|by simp) J λz hz=>O z<|by
     simp only[DataW.weights,C];exact DataW.weights_mem_each (j:=i) (by rw[List.getElem?_map];simp[s]) (by rw[List.getElem?_map,List.getElem?_eq_getElem<|by omega];rfl) z hz
    exact⟨y,_,hf,E,R⟩
   let⟨ps,d,I⟩:=wX U.size u;refine⟨ps.flatten,⟨ps,rfl,d,λi f p hf S=>?_⟩,?_⟩
   .let⟨f',B,W,_⟩:=I i p S;rw[hf] at B;cases B;exact W
   .have e:=Xl (P:=P) cs hl U.toList 0 K;rw[List.drop_zero] at e;rw[e];refine CR.flatten (by simp[d]) λi p q S Q=>?_;let⟨f,B,_,N⟩:=I i p S;rw[List.getElem?_map] at Q;have:U.toList[i]?=some f:=by simpa using B
    rw[this] at Q;simp only[Option.map_some,Option.some.injEq] at Q;subst Q;exact N
  .rename_i m e C;simp only[Bool.and_eq_true,beq_iff_eq] at A;let⟨K,A⟩:=A;obtain⟨ys,m',_,rfl,hl,b3,G⟩:=DataW.trod_array C h;have u:∀i,i<m->∃y:List AV,nC P n e y/\CR w y ((cs.drop<|i*P.cellsOf e).take<|P.cellsOf e):=by
    intro i s;have J:=G i s;rw[List.getElem?_eq_getElem<|by omega] at J;let⟨y,E,R⟩:=Aq n _ _ _ m' A J λz hz=>O z<|by
     simp only[DataW.weights,C];exact O3 (i:=i) (by rw[List.getElem?_map,List.getElem?_eq_getElem<|by omega];rfl) z hz
    exact⟨y,E,R⟩
   let⟨ps,d,I⟩:=wX m u;refine⟨ps.flatten,⟨ps,rfl,d,λp S=>?_⟩,?_⟩
   .obtain⟨i,s,rfl⟩:=List.mem_iff_getElem.1 S;exact (I i _<|List.getElem?_eq_getElem s).1
   .have e':=Cc (P.cellsOf e) m 0 cs (by rw[hl,K];omega);rw[List.drop_zero] at e';rw[e'];refine CR.flatten (by simp[d]) λi p q S Q=>?_;let⟨_,N⟩:=I i p S;rw[List.getElem?_map] at Q;have s:i<m:=by
     rcases Nat.lt_or_ge i m with h | h
     .exact h
     .rw[List.getElem?_eq_none<|by omega] at S;cases S
    rw[List.getElem?_range s] at Q;simp only[Option.map_some,Option.some.injEq,Nat.zero_add] at Q;subst Q;exact N
  .cases A
def isAgg(P:Program)(t:TypeId): Bool:=
 match P.underlying t with
 | some (.struct _)=>true
 | some (.array _ _)=>true
 | _=>false
def Ha(P:Program)(t:TypeId)(xs:List AV): AV:=
 match isAgg P t with
 | true=>.agg xs
 | false=>xs.headD .undef
def Hg(P:Program)(n:Nat): List TypeId->List AV->Prop
 | [],[]=>True
 | t::ts,x::xs=>(∃ys,nC P n t ys/\x=Ha P t ys)/\Hg P n ts xs
 | _,_=>False
def GZ(W:World): bV:=⟨W,λ_=>False,λ_=>none,[]⟩
theorem LP(W:World)(b:Nat): mF (GZ W) b:=⟨λh=>h,λid h=>by cases h⟩
theorem aB3[aB](FT:Nat->Option Nat)(W:World)(g:tB<|GZ W): bJ FT (GZ W) where
 gl:=g;inj:=λ_ _ _ h=>by cases h
 dom:=λ_ _ h=>by cases h
 nx:=λ_ _ h=>by cases h
 fresh:=λ_ _ h=>h;lens:=λid s es h=>by simp[GZ] at h
 blk:=λid s es b h=>by simp[GZ] at h
 map:=λid es b h=>by simp[GZ] at h
 raw:=λid q b h=>by simp[GZ] at h
theorem aES[aB]{FT:Nat->Option Nat}{n j:Nat}{t:TypeId}{v:Value}{d:DataW H}{N:List MemPlace}(a:Value.okWide P w .any j t v)(Q:okT P n t=true)(h:DataW.Trod enc P w base spare held t v d N)(E:∀n∈d.weights P t,n<=reachBytes): ∃ys,nC P n t ys/\RV FT (GZ w) (Ha P t ys) v:=by
 let⟨q,h⟩:=h;let⟨ys,M,p⟩:=Aq n t _ _ q Q h E;refine⟨ys,M,?_⟩;have z:∀{x:AV} {u:Value},RP w (λ_=>True) x u->RP (GZ w).w (mF<|GZ w) x u:=λR=>R.mono λb o _ O=>⟨LP w b,O⟩;have f:∀cs:Array Value,v=.agg cs->RV FT (GZ w) (.agg ys) v:=by
  intro cs e;subst e;simp only[Value.cells] at p;refine .agg ys cs (λi=>(cs[i]?).getD undef) (by have:=p.1;simpa using this.symm) (λi x C=>?_) λi x C=>?_
  .let⟨u,l,L,A⟩:=p.2 i x C;have:cs[i]?=some u:=by simpa using l
   exact⟨by rw[this];rfl,by rw[this];exact L⟩
  .let⟨u,l,L,A⟩:=p.2 i x C;have:cs[i]?=some u:=by simpa using l
   show RV FT (GZ w) x<|(cs[i]?).getD undef;rw[this];exact .pure _ _<|z A
 unfold Value.okWide at a;unfold Ha isAgg;split at a
 .rename_i S k;obtain⟨cs,rfl,_⟩:=a;simp only[k];exact f cs rfl
 .rename_i m e k;obtain⟨cs,rfl,_⟩:=a;simp only[k];exact f cs rfl
 .rename_i I D;have G:∀cs,v≠.agg cs:=by
   intro cs e;subst e;unfold Cell.okWide Cell.ok at a;revert a;cases P.underlying t with
   | none=>simp
   | some u=>cases u<;>simp
  have c:v.cells=#[v]:=by
   cases v<;>first | rfl | exact absurd rfl (G _)
  rw[c] at p;have:(match P.underlying t with | some (.struct _)=>true | some (.array _ _)=>true | _=>false)=false:=by
   split
   .rename_i k;exact absurd k<|I _
   .rename_i k;exact absurd k<|D _ _
   .rfl
  rw[this];let⟨B,g⟩:=p;match ys,B,g with
  | [],B,_=>simp at B
  | y::r,_,g=>
   let⟨u,l,_,A⟩:=g 0 y rfl;simp at l;subst l;exact .pure _ _<|z A
theorem c9[aB]{FT:Nat->Option Nat}{n b:Nat}: ∀(ts:List TypeId) (vs:List Value) (ds:List<|DataW H) (m:List MemPlace),
 (∀(j:Nat) t v,ts[j]?=some t->vs[j]?=some v->Value.okWide P w .any b t v)->ts.all (okT P n)=true->DataW.TrodAll enc P w base spare held ts vs ds m->(∀n∈DataW.weightsEach P ts ds,n<=reachBytes)->
 ∃f,Hg P n ts f/\f.length=vs.length/\∀(i:Nat) x,f[i]?=some x->∃v,vs[i]?=some v/\RV FT (GZ w) x v
 | [],[],[],_,_,_,_,_=>⟨[],trivial,rfl,λi x c=>by simp at c⟩
 | t::ts,v::vs,d::ds,m,e,k,h,a=>by
  let⟨p,q,u,C,_⟩:=h;simp only[DataW.weightsEach,List.mem_append] at a;simp only[List.all_cons,Bool.and_eq_true] at k;let⟨ys,y,D⟩:=aES (FT:=FT) (e 0 t v rfl rfl) k.1 u λn g=>a n<|.inl g;obtain⟨f,E,A,z⟩:=c9 ts vs ds q (λj s B F e2=>e (j+1) s B (by simpa using F)<|by simpa using e2) k.2 C λn g=>a n<|.inr g;refine⟨Ha P t ys::f,⟨⟨ys,y,rfl⟩,E⟩,by simp[A],λi x c=>?_⟩;cases i with
  | zero=>
   simp only[List.getElem?_cons_zero,Option.some.injEq] at c;subst c;exact⟨v,rfl,D⟩
  | succ i=>
   simp only[List.getElem?_cons_succ] at c |-;exact z i x c
 | [],[],_::_,_,_,_,h,_=>h.elim
 | [],_::_,_,_,_,_,h,_=>h.elim
 | _::_,[],_,_,_,_,h,_=>h.elim
 | _::_,_::_,[],_,_,_,h,_=>h.elim
theorem Ku[aB]{ts:List TypeId}(k:laidOutB P=true){W i:World}(j:Below W.heap.size W i): ∀(ts:List TypeId) (vs:List Value) (ds:List<|DataW H) (c:List MemPlace),
 (∀t∈ts,P.readableRec t=true/\t<P.types.size)->(∀x∈c,x.block<W.heap.size)->DataW.TrodAll enc P W 0 (λ_=>true) true ts vs ds c->
 DataW.TrodAll enc P i 0 (λb=>decide<|b<W.heap.size) true ts vs ds c
 | [],[],[],_,_,_,h=>h
 | t::ts,v::vs,d::ds,c,e,a,h=>by
  obtain⟨p,q,m,n,rfl⟩:=h;exact⟨p,q,Below.trod k (e t<|by simp).1 (e t<|by simp).2 m j λx g=>a x<|by simp[g],
   Ku (ts:=ts) k j ts vs ds q (λl f=>e l<|by simp[f]) (λx g=>a x<|by simp[g]) n,rfl⟩
 | [],[],_::_,_,_,_,h=>h.elim
 | [],_::_,_,_,_,_,h=>h.elim
 | _::_,[],_,_,_,_,h=>h.elim
 | _::_,_::_,[],_,_,_,h=>h.elim
theorem NE[aB]{T:List bK}(hm:P.follows .mixedOrders=true)(hT:Checked P T)(hz:aBm P T)(hzd:aBn P T)(I:PB P T){vi f n:Nat}{fn:Func}(E:aG T vi=some f){s:ChangeSpec}(b:s.vars=[]){tb:TypeId}(Q:fn.resultTypes=#[tb])(B:P.underlying tb=some .bool)(Y:laidOutB P=true)(N:∀t∈fn.params.toList,P.readableRec t=true/\t<P.types.size)(R:fn.params.toList.all (okT P n)=true)(J:∀y,Hg P n fn.params.toList y->∃k H',dK P T k 0 vi y []=some (.lit<|.bool true,H')){W:World}{o:Nat}{a:Array Value}{ds u:List<|DataW H}{g:List MemPlace}{l c:Bool}(M:tB<|GZ W)(r:(s.fn H<|ds++u).results=[.lit<|.bool true]/\(s.fn H<|ds++u).args=ds/\(s.fn H<|ds++u).vars=[])(A:∀(j:Nat) t v,fn.params[j]?=some t->a[j]?=some v->Value.okWide P W .any o t v)(V:DataW.Whole enc P fn.params.toList s.vars false W a.toList ds u g)(D:∀n∈DataW.weightsEach P fn.params.toList ds,n<=reachBytes):
 Calls P f a W λe X=>∃v,e=.returned v/\s.post enc P fn false l c false W a v X:=by
 have z:=V;obtain⟨p,q,U,O,rfl,a2,a1⟩:=V;let⟨y,g1,Z,g3⟩:=c9 (FT:=aG T) (n:=n) fn.params.toList a.toList ds p (λj t v e1 e2=>A j t v (by simpa using e1)<|by simpa using e2) R U D;let⟨k,H',he⟩:=J y g1;have m:jQ (aG T) (GZ W) y a:=⟨by simpa using Z.symm,λi x C=>by
  let⟨v,h1,h2⟩:=g3 i x C;exact⟨v,by simpa using h1,h2⟩⟩
 refine (J5 hm hT hz hzd I k 0 vi f y _ H' (GZ W) a he E (aB3 _ W M) (Nat.zero_le _) m).mono λe X hq=>?_;obtain⟨v,c',rfl,rfl,_,_,d,_,L⟩:=hq;have hv:v=.bool true:=L.lit_inv;subst hv;have S:Below W.heap.size W c'.w:=⟨d.os,d.tape,d.output,d.size,λi hi=>d.frame i hi λid h=>by cases h⟩;have K:u=[]/\q=[]:=by
  rw[b] at O;cases u with
  | nil=>exact⟨rfl,O⟩
  | cons _ _=>exact O.elim
 obtain⟨rfl,rfl⟩:=K;have F:∀x∈p,x.block<W.heap.size:=λx C=>z.lt x (by simpa using C);have G:=Ku (ts:=[]) Y S fn.params.toList a.toList ds p N F U;refine⟨_,rfl,ds,[],p++[],[],p,[],z,?_,?_,?_,S.frame _,λh=>by cases h⟩
 .rw[r.1,Q];exact⟨[],[],shut_bool B _,rfl,rfl⟩
 .rw[r.2.1];exact G
 .rw[b,r.2.2];rfl
end
theorem HR{H:Type}{enc:TypeId×Value->H}{a:Assume}{C:Go.Checked}{os:Os}{f:FuncId}{fn:Func}{s:ChangeSpec}{n:List PathCond}{c m h l:Bool}{X:World->Array Value->Prop}(M:∀(w w':World) (b:Array Value),w.heap=w'.heap->X w b->X w' b)(E:ownKnob C.prog.godebug=none)(p:os.Started)(q:C.prog.inits.idxOf? f=none)(D:C.prog.funcs[f]?=some fn)(o:∃(w:World) (d:Tape) (i:Input),w.os=os/\(w.forCall d i).Shaped C.prog/\i.vars=[]/\Input.okWide C.prog (w.forCall d i) .any w.heap.size f i /\
  ((s.pre enc C.prog fn n c (w.forCall d i).memory i.args/\X (w.forCall d i).memory i.args)/\sizedMet enc C.prog fn (OpenSpec.ofChange s) c (w.forCall d i).memory i.args)/\a.holds C.prog (lone (Frame.enter C.prog f i.args .normal) []<|w.forCall d i))(k:∀(W:World) (x:Nat) (b:Array Value) (ds z:List<|DataW H) (g:List MemPlace),
  (∀(j:Nat) t v,fn.params[j]?=some t->b[j]?=some v->Value.okWide C.prog W .any x t v)->
  DataW.Whole enc C.prog fn.params.toList s.vars c W b.toList ds z g->X W b->W.ShapedOpen C.prog->(DataW.weightsEach C.prog (fn.params.toList++s.plain.varTypes C.prog)<|ds++z).all (·<=reachBytes)=true->
  Calls C.prog f b W λe J=>∃v,e=.returned v/\s.post enc C.prog fn c m h l W b v J):
 ReturnsInHanded a C os f .any (λw b=>(s.pre enc C.prog fn n c w b/\X w b)/\sizedMet enc C.prog fn (OpenSpec.ofChange s) c w b)<|s.post enc C.prog fn c m h l:=by
 refine returnsInHanded_of_calls E p q o ?_;intro w d i _ G _ A y _;let⟨_,_,_,B,u,_,_,_,_,r⟩:=A;have e:B=fn:=Option.some.inj<|u.symm.trans D;subst e;let⟨⟨⟨ds,z,g,I,_⟩,N⟩,K⟩:=y;have F:=DataW.Whole.of_heap (w':=w.forCall d i) (by rfl) I;refine (k (w.forCall d i) w.heap.size i.args ds z g r F (M _ _ _ (by rfl) N) G<|K.weights I).mono λe J ⟨v,he,L⟩=>?_;subst he;exact ChangeSpec.post_blind L
def aF9: DataW Unit->List Value
 | .lit (.int k z)=>[.int k z]
 | _=>[]
def KE: DataW Unit->List Value
 | .agg ps=>ps.flatMap aF9
 | _=>[]
def aEl: DataW Unit->List Value
 | .agg ps=>ps.flatMap KE
 | _=>[]
section
variable {P:Program}{w:World}{base:Nat}{sp:Nat->Bool}{held:Bool}{enc:TypeId×Value->Unit}
theorem D3{e:Nat}{t ta tb tc:TypeId}{ka kb kc:IntKind}{f0 f1 f2:Field}{cs:List Value}{x:DataW Unit×List MemPlace}(E:P.underlying t=some (.struct #[f0,f1,f2]))(G:P.cellsOf t=3)(B:f0.type=ta)(F:f1.type=tb)(A:f2.type=tc)(z:f0.offset=0)(u:f1.offset=1)(s:f2.offset=2)(K:P.underlying ta=some (.int ka))(Q:P.underlying tb=some (.int kb))(H:P.underlying tc=some (.int kc))(C:P.cellsOf ta=1)(O:P.cellsOf tb=1)(cc:P.cellsOf tc=1)(h:DataW.trod enc P w base sp held e t cs=some x): cs=KE x.1:=by
 obtain⟨J,n,_,rfl,k,i,d⟩:=DataW.trod_struct E h;rw[G] at k;match cs,k with
 | [a,b,c],_=>
  match J,i with
  | [S,T,R],_=>
   have o:=d 0 f0 rfl;have l:=d 1 f1 rfl;have q:=d 2 f2 rfl;rw[B,z,C] at o;rw[F,u,O] at l;rw[A,s,cc] at q;let⟨r,M,I,_⟩:=DataW.trod_int K o;let⟨y,N,L,_⟩:=DataW.trod_int Q l;let⟨v,e2,D,_⟩:=DataW.trod_int H q;have f:a=.int ka r:=by simpa using M
   have j:b=.int kb y:=by simpa using N
   have g:c=.int kc v:=by simpa using e2
   subst f j g I L D;rfl
theorem VY[aB]{b m:Nat}{t e ta tb tc:TypeId}{ka kb kc:IntKind}{f0 f1 f2:Field}{cs:List Value}{x:DataW Unit×List MemPlace}(C:P.underlying t=some (.array m e))(g:P.cellsOf t=m*3)(r:P.underlying e=some (.struct #[f0,f1,f2]))(p:P.cellsOf e=3)(z:f0.type=ta)(B:f1.type=tb)(F:f2.type=tc)(v:f0.offset=0)(I:f1.offset=1)(s:f2.offset=2)(H:P.underlying ta=some (.int ka))(u:P.underlying tb=some (.int kb))(E:P.underlying tc=some (.int kc))(A:P.cellsOf ta=1)(J:P.cellsOf tb=1)(cc:P.cellsOf tc=1)(h:DataW.trod enc P w base sp held b t cs=some x): cs=aEl x.1:=by
 obtain⟨f,n,_,rfl,D,G,j⟩:=DataW.trod_array C h;have o:=Cc 3 m 0 cs (by rw[D,g];omega);rw[List.drop_zero] at o;have k:∀i,i<m->∃y,f[i]?=some y/\(cs.drop<|0+i*3).take 3=KE y.1:=by
  intro i a;have c:=j i a;rw[p] at c;have d:f[i]?=some f[i]:=List.getElem?_eq_getElem (by omega);rw[d] at c;refine⟨_,d,?_⟩;rw[Nat.zero_add];exact D3 r p z B F v I s H u E A J cc c
 rw[o];show _=(f.map (·.1)).flatMap KE;rw[List.flatMap_def,List.map_map];congr 1;apply List.ext_getElem?;intro i;rw[List.getElem?_map,List.getElem?_map];rcases Nat.lt_or_ge i m with a | a
 .let⟨y,c,d⟩:=k i a;rw[List.getElem?_range a,c];simp only[Option.map_some,Function.comp];rw[d]
 .rw[List.getElem?_eq_none<|by simpa using a,List.getElem?_eq_none<|by omega];rfl
end
section
variable {P:Program}{w:World}{base:Nat}{sp:Nat->Bool}{held:Bool}{enc:TypeId×Value->Unit}
theorem D4[aB]{b m:Nat}{t e:TypeId}{k:IntKind}{cs:List Value}{x:DataW Unit×List MemPlace}(C:P.underlying t=some (.array m e))(g:P.cellsOf t=m*1)(r:P.underlying e=some (.int k))(p:P.cellsOf e=1)(h:DataW.trod enc P w base sp held b t cs=some x): cs=KE x.1:=by
 obtain⟨f,n,_,rfl,D,G,j⟩:=DataW.trod_array C h;have o:=Cc 1 m 0 cs (by rw[D,g];omega);rw[List.drop_zero] at o;have q:∀i,i<m->∃y,f[i]?=some y/\(cs.drop<|0+i*1).take 1=aF9 y.1:=by
  intro i a;have c:=j i a;rw[p] at c;have d:f[i]?=some f[i]:=List.getElem?_eq_getElem (by omega);rw[d] at c;refine⟨_,d,?_⟩;rw[Nat.zero_add];let⟨v,N,L,_⟩:=DataW.trod_int r c;rw[N,L];rfl
 rw[o];show _=(f.map (·.1)).flatMap aF9;rw[List.flatMap_def,List.map_map];congr 1;apply List.ext_getElem?;intro i;rw[List.getElem?_map,List.getElem?_map];rcases Nat.lt_or_ge i m with a | a
 .let⟨y,c,d⟩:=q i a;rw[List.getElem?_range a,c];simp only[Option.map_some,Function.comp];rw[d]
 .rw[List.getElem?_eq_none<|by simpa using a,List.getElem?_eq_none<|by omega];rfl
end
theorem QA{P:Program}{W:World}{n:String}{g:Nat}{cv:Array Value}(h1:P.globalNamed n=some g)(h3:W.var? P n=some cv): ∃T fz,W.heap[g]?=some (.cells cv T fz):=by
 unfold World.var? at h3
 rw[h1] at h3
 simp only[Option.bind_some] at h3
 split at h3
 .rename_i c T fz hb
  cases h3
  exact⟨T,fz,hb⟩
 .cases h3
theorem TL[aB]{W:World}{g:Nat}{tT:List AV}{V:List Value}{cv:Array Value}(hok:aB.ok g cv)(e:tT=V.map AV.lit)(hs:V.all aY=true)(hcv:cv.toList=V)(hh:∃T fz,W.heap[g]?=some (.cells cv T fz)): ∃(cc:Array Value) (T:TypeId) (b:Nat×Nat) (a:Nat->Value),mF (GZ W) g/\(GZ W).w.heap[g]?=some (.cells cc T b)/\aB.ok g cc /\
 (∀j x,tT[j]?=some x->cc[0+j]?=some (a j)/\aY (a j)=true)/\∀j x,tT[j]?=some x->RP (GZ W).w (mF (GZ W)) x (a j):=by
 obtain⟨T,fz,hheap⟩:=hh
 have key:∀(j:Nat) (x:AV),tT[j]?=some x->∃v,V[j]?=some v/\aY v=true/\x=AV.lit v:=by
  intro j x hx
  rw[e,List.getElem?_map,Option.map_eq_some_iff] at hx
  obtain⟨v,h5,rfl⟩:=hx
  exact⟨v,h5,List.all_eq_true.1 hs v (List.mem_of_getElem? h5),rfl⟩
 refine⟨cv,T,fz,λj=>(V[j]?).getD undef,LP W g,hheap,hok,?_,?_⟩
 .intro j x hx
  obtain⟨v,k1,k2,_⟩:=key j x hx
  have e:(V[j]?).getD undef=v:=by rw[k1];rfl
  show cv[0+j]?=some ((V[j]?).getD undef)/\aY ((V[j]?).getD undef)=true
  rw[e,Nat.zero_add,<-Array.getElem?_toList,hcv]
  exact⟨k1,k2⟩
 .intro j x hx
  obtain⟨v,k1,_,rfl⟩:=key j x hx
  have e:(V[j]?).getD undef=v:=by rw[k1];rfl
  show RP _ _ (AV.lit v) ((V[j]?).getD undef)
  rw[e]
  exact .lit _
end
def pv[aB](P:Program)(T:List bK)(n vi:Nat)(args:List AV): Option AV:=
 match dK P T n 0 vi args [] with
 | some (r,H')=>some<|gS H' 0 r
 | none=>none
def YL[aB](F:bK): Option (bP×St)->Option (AV×aM)
 | some (.normal,st)=>match dM st F.rets with
  | some vs=>some (eH vs,st.heap)
  | none=>none
 | some (.ret,st)=>match dM st F.rets with
  | some vs=>some (eH vs,st.heap)
  | none=>none
 | _=>none
theorem EM[aB]{P:Program}{T:List bK}{n fl vi:Nat}{a:List AV}{H:aM}(F:bK)(h:getF T vi=some F):
 dK P T (n+1) fl vi a H=YL F (cH P (dK P T n) n fl F.body ⟨a++List.replicate (F.nt-a.length) (.lit aW),H⟩):=by
 have b:aB.prim vi=none:=by
  unfold getF at h;split at h
  .cases h
  .assumption
 have c:T[vi]?=some F:=by simpa only[getF,b] using h
 simp only[dK,b,c,YL];split<;>split<;>simp_all
section
variable {P:Program}{cf:Nat->Nat->List AV->aM->Option (AV×aM)}{lf fl:Nat}{st:St}
end
theorem aFl{P:Program}(a b:Int): aK P (Builtin.max_ #[] 0 #[.int .i64 a,.int .i64 b])=some (.int .i64<|if a<b then b else a):=by
 by_cases h:a<b<;>simp[Builtin.max_,Builtin.max2,h]<;>rfl
theorem aFk{P:Program}{t:TypeId}(a b:ByteArray): aK P (binOp .eql t (.string a)<|.string b)=some (.bool<|a.toList==b.toList):=rfl
theorem aFj{P:Program}{t:TypeId}(a b:ByteArray): aK P (binOp .neq t (.string a)<|.string b)=some (.bool<|!(a.toList==b.toList)):=rfl
theorem aDZ{P:Program}{t:TypeId}{c:BinOp}(x y:Operand)(a b:ByteArray): aK P (eqGuard c t x y (.string a)<|.string b)=some ():=by cases c<;>rfl
theorem Nh{fl id s bytes tot:Nat}{H:aM}{es ys:List<|List AV}(a:H[id]?=some (.blk s es))(c:es.length=tot)(f:cY s ys=true)(k:0<s)(l:kO ys.length bytes=true)(e:kO (tot+ys.length) bytes=true)(d:fl<=id):
 cC fl H s bytes (.ms id tot 0 tot) ys=some (.ms id (tot+ys.length) 0<|tot+ys.length,H.set id<|.blk s<|es++ys):=by
 have g:id<H.length:=by
  rcases Nat.lt_or_ge id H.length with h | h
  .exact h
  .rw[List.getElem?_eq_none h] at a;cases a
 unfold cC;simp only[f,k,l,a,c,e,d,and_self,if_true];by_cases j:ys.length=0
 .have:ys=[]:=List.length_eq_zero_iff.1 j;subst this;simp only[List.length_nil,Nat.add_zero,List.append_nil,if_true,Option.some.injEq,Prod.mk.injEq,true_and];apply List.ext_getElem?;intro i;rw[List.getElem?_set];split
  .rename_i m;subst m;first | exact a | (rw[if_pos g];exact a)
  .rfl
 .simp only[j,if_false]
def aIN: List Prop->Prop
 | []=>True
 | p::r=>p/\aIN r
structure Orc where
 O:List (Nat×AV×Option aM)
 B:List (Nat×Bool)
def eD{α:Type}(t:Nat): List (Nat×α)->Option α
 | []=>none
 | (u,a)::r=>match Nat.beq u t with | true=>some a | false=>eD t r
section
variable (P:Program)(cf:Nat->Nat->List AV->aM->Option (AV×aM))(fl:Nat)
variable (o:Orc)
end
abbrev iv(n:Int): AV:=.lit (.int .i64 n)
abbrev bv(b:Bool): AV:=.lit (.bool b)
abbrev sv(s:ByteArray): AV:=.lit (.string s)
def bnd{α β:Type}(x:Option α)(f:α->Option β): Option β:=match x with
 | some a=>f a
 | none=>none
theorem aV{α β:Type}{x:Option α}{f:α->Option β}{r:β}(h:bnd x f=some r): ∃a,x=some a/\f a=some r:=by
 cases x with
 | none=>cases h
 | some a=>exact⟨a,rfl,h⟩
def bnd2{α β γ:Type}(x:Option<|α⊕β)(f:α->Option γ)(g:β->Option γ): Option γ:=match x with
 | some (.inl a)=>f a
 | some (.inr b)=>g b
 | none=>none
theorem L4{α β γ:Type}{x:Option<|α⊕β}{f:α->Option γ}{g:β->Option γ}{r:γ}(h:bnd2 x f g=some r): (∃a,x=some (.inl a)/\f a=some r)\/(∃a,x=some (.inr a)/\g a=some r):=by
 match x,h with
 | some (.inl a),h=>exact .inl ⟨a,rfl,h⟩
 | some (.inr a),h=>exact .inr ⟨a,rfl,h⟩
def cnd{α:Type}(b:Bool)(x y:α): α:=match b with
 | true=>x
 | false=>y
theorem aFg[aB]{P:Program}{T:List bK}{n vi:Nat}{a:List AV}{r b:AV}{H':aM}(h:dK P T n 0 vi a []=some (r,H'))(c:gS H' 0 r=b): pv P T n vi a=some b:=by
 unfold pv;rw[h,<-c]
def Fk(a b:Int): Int:=if a<b then b else a
def HP(a b:Int): Int:=if b<a then b else a
theorem ZX(a b:ByteArray): (a.toList==b.toList)=decide (a=b):=by
 by_cases h:a=b
 .subst h;simp
 .rw[decide_eq_false h];simp only[beq_eq_false_iff_ne,ne_eq];intro e;apply h;simp only[ByteArray.toList_eq] at e;exact ByteArray.ext<|Array.toList_inj.1 e
section
variable {P:Program}{cf:Nat->Nat->List AV->aM->Option (AV×aM)}{fl:Nat}{H:aM}{t:TypeId}{a b:ByteArray}{r:Bool}
theorem K9[aB](h:decide (a=b)=r): aI P cf fl (.bin .eql t (.tmp 0)<|.tmp 1) [sv a,sv b] H=some (bv r,H):=by
 simp only[aI,aC,List.getElem?_cons_zero,List.getElem?_cons_succ,lits,pP,if_true,aDZ,aFk,ZX,h]
theorem K8[aB](h:decide (a=b)=r): aI P cf fl (.bin .neq t (.tmp 0)<|.tmp 1) [sv a,sv b] H=some (bv<|!r,H):=by
 simp only[aI,aC,List.getElem?_cons_zero,List.getElem?_cons_succ,lits,pP,if_true,aDZ,aFj,ZX,h]
end
def idx{α:Type}(l:List α)(i:Int): Option α:=if 0<=i then l[i.toNat]? else none
theorem eU{α:Type}(l:List α)(i:Nat): idx l (i:Int)=l[i]?:=by simp[idx]
theorem kE{α:Type}{l:List α}{i:Int}{x:α}(h:idx l i=some x): 0<=i/\l[i.toNat]?=some x/\i.toNat<l.length:=by
 unfold idx at h;split at h
 .rename_i b;refine⟨b,h,?_⟩;rcases Nat.lt_or_ge i.toNat l.length with a | a
  .exact a
  .rw[List.getElem?_eq_none a] at h;cases h
 .cases h
section
variable {α:Type}{c:α->List AV}{H:aM}{fl id s:Nat}{l l' m:List α}{i:Int}{x:α}{f:Bool}
def YF{α:Type}(l:List α)(k:Nat)(i:Int): Option α:=if 0<=i/\i.toNat<k then l[i.toNat]? else none
theorem I6{k:Nat}(h:YF l k i=some x): 0<=i/\i.toNat<k/\l[i.toNat]?=some x/\i.toNat<l.length:=by
 unfold YF at h;split at h
 .rename_i b;refine⟨b.1,b.2,h,?_⟩;rcases Nat.lt_or_ge i.toNat l.length with a | a
  .exact a
  .rw[List.getElem?_eq_none a] at h;cases h
 .cases h
def app{α:Type}(l m:List α): Option<|List α:=if l.length+m.length<=1000000 then some (l++m) else none
theorem Ag(h:app l m=some l'): l'=l++m/\l.length+m.length<=1000000:=by
 unfold app at h;split at h
 .cases h;exact⟨rfl,by assumption⟩
 .cases h
theorem yH(h:l.length+m.length<=1000000): app l m=some (l++m):=by simp[app,h]
def jK(b:Bool): Option Unit:=match b with
 | true=>some ()
 | false=>none
theorem iU{b:Bool}{u:Unit}(h:jK b=some u): b=true:=by cases b<;>first | rfl | cases h
def prd(n:Nat): Option Nat:=match n with
 | 0=>none
 | k+1=>some k
theorem U5{n k:Nat}(h:prd n=some k): n=k+1:=by
 cases n with
 | zero=>cases h
 | succ n=>cases h;rfl
def PM{α:Type}(l:List α)(lo hi:Int): Option<|List α:=if 0<=lo/\lo<=hi/\hi<=l.length then some ((l.take hi.toNat).drop lo.toNat) else none
section
variable {P:Program}{cf:Nat->Nat->List AV->aM->Option (AV×aM)}{lo hi:Int}{w y z:AV}
theorem V8[aB]{a b:Int}: aI P cf fl (.minmax true [.tmp 0,.tmp 1]) [iv a,iv b] H=some (iv<|Fk a b,H):=by
 simp[aI,aC,zG,aFl,Fk]
theorem aFr[aB]{a b:Int}: aI P cf fl (.minmax false [.tmp 0,.tmp 1]) [iv a,iv b] H=some (iv<|HP a b,H):=by
 have:aK P (Builtin.min_ #[] 0 #[.int .i64 a,.int .i64 b])=some (.int .i64<|if b<a then b else a):=by
  by_cases h:b<a<;>simp[Builtin.min_,Builtin.min2,h]<;>rfl
 simp[aI,aC,zG,this,HP]
end
end
section
variable {K V:Type}[DecidableEq K]
def cR(m:List<|K×V)(k:K): Option V:=match m with
 | []=>none
 | (k',v)::r=>if k'=k then some v else cR r k
def oQ(m:List<|K×V)(k:K)(v:V): List<|K×V:=match m with
 | []=>[(k,v)]
 | (k',v')::r=>if k'=k then (k,v)::r else (k',v')::oQ r k v
theorem uP[aB](k k':K)(v:V): ∀m:List<|K×V,cR (oQ m k v) k'=if k=k' then some v else cR m k'
 | []=>by simp[oQ,cR]
 | (a,b)::r=>by
  simp only[oQ];split
  .rename_i h;subst h;simp only[cR];split<;>rfl
  .rename_i h;simp only[cR,uP k k' v r];split
   .rename_i c;subst c;rw[if_neg λd=>h d.symm]
   .rfl
structure GJ(P:Program)(kt:TypeId)(kv:K->Value): Prop where
 find:∀(k:K) (ks:List K),jL P kt (kv k) (ks.map λx=>(kv x,AV.undef))=some (ks.findIdx? λx=>decide (x=k))
 chk:∀(e:Bool) (k:K),aK P (Instr.checkKey e 10000 kt (kv k))=some ()
 same:∀k:K,Instr.sameBits 10000 (kv k) (kv k)=true
theorem YK{P:Program}{kt:TypeId}{k:Value}{c e2:List<|Value×AV}(h:c.map (·.1)=e2.map (·.1)): jL P kt k c=jL P kt k e2:=by
 unfold jL;have:(c.map λe=>({ key:=e.1,val:=.bool false,born:=0 }:MapEntry))=e2.map λe=>{ key:=e.1,val:=.bool false,born:=0 }:=by
  have e:∀l:List<|Value×AV,(l.map λe=>({ key:=e.1,val:=.bool false,born:=0 }:MapEntry))=(l.map (·.1)).map λk=>{ key:=k,val:=.bool false,born:=0 }:=λl=>by simp
  rw[e,e,h]
 rw[this]
theorem DB[aB](k:K): ∀m:List<|K×V,(cR m k=none/\m.findIdx? (λp=>decide<|p.1=k)=none)\/∃i v,cR m k=some v/\m.findIdx? (λp=>decide<|p.1=k)=some i/\m[i]?=some (k,v)
 | []=>.inl ⟨rfl,rfl⟩
 | (a,b)::r=>by
  simp only[cR,List.findIdx?_cons];by_cases h:a=k
  .subst h;exact .inr ⟨0,b,by simp,by simp,rfl⟩
  .rw[if_neg h,decide_eq_false h];simp only[Bool.false_eq_true,if_false];rcases DB k r with⟨d,e⟩ | ⟨i,v,d,e,f⟩
   .exact .inl ⟨d,by simp[e]⟩
   .exact .inr ⟨i+1,v,d,by simp[e],by simpa using f⟩
theorem SH[aB](k:K)(v:V): ∀m:List<|K×V,oQ m k v=match m.findIdx? (λp=>decide<|p.1=k) with | some i=>m.set i (k,v) | none=>m++[(k,v)]
 | []=>rfl
 | (a,b)::r=>by
  simp only[oQ,List.findIdx?_cons];by_cases h:a=k
  .subst h;simp
  .rw[if_neg h,decide_eq_false h,SH k v r];simp only[Bool.false_eq_true,if_false];cases r.findIdx? λp=>decide (p.1=k) with
   | none=>simp
   | some i=>simp
variable {P:Program}{cf:Nat->Nat->List AV->aM->Option (AV×aM)}{fl id:Nat}{H:aM}{kt:TypeId}{kv:K->Value}{va:V->AV}{m:List (K×V)}{x:AV}{k:K}
end
theorem Xe[aB](k:Int): ∀(c:List Int) (i:Nat),Instr.findNow (.int .i64) (.int .i64 k) (c.map λx=>{ key:=.int .i64 x,val:=.bool false,born:=0 }) i=some ((c.findIdx? λx=>decide<|x=k).map λj=>(i+j,.bool false))
 | [],i=>rfl
 | x::r,i=>by
  simp only[List.map_cons,Instr.findNow,Instr.sameNow,if_true,List.findIdx?_cons];by_cases h:x=k
  .subst h;simp
  .have g:(k==x)=false:=by simpa using λe=>h e.symm
   rw[decide_eq_false h,g];simp only[Bool.false_eq_true,if_false,Xe k r<|i+1];cases r.findIdx? λx=>decide (x=k) with
   | none=>rfl
   | some j=>simp;omega
theorem aCO[aB]{P:Program}{kt:TypeId}(b:aK P (underlying kt)=some (.int .i64)): GJ P kt (λk:Int=>.int .i64 k) where
 find:=λk g=>by
  unfold jL;simp only[Instr.findKey,cA,b,Option.bind_some,List.map_map,Function.comp_def,Xe,cQ];cases g.findIdx? λx=>decide (x=k) with
  | none=>rfl
  | some j=>simp
 chk:=λe k=>by
  rw[Instr.checkKey];simp only[cA,b,Option.bind_some];rfl
 same:=λk=>by simp[Instr.sameBits]
abbrev V: AV:=.lit aW
abbrev bt: AV:=.lit (.bool true)
structure PZ where
 ps:List Prop
 ok:aIN ps
def Z{p:Prop}(h:p)(r:PZ): PZ:=⟨p::r.ps,⟨h,r.ok⟩⟩
theorem Vn{α:Type}{b:Bool}{x y r:α}(h:cnd b x y=r): (b=true/\x=r)\/(b=false/\y=r):=by
 cases b with
 | true=>exact .inl ⟨rfl,h⟩
 | false=>exact .inr ⟨rfl,h⟩
def sat(s:ByteArray)(i:Int): Option Int:=if 0<=i then (s.data.toList[i.toNat]?).map (λb=>(b.toNat:Int)) else none
theorem S5{s:ByteArray}{i b:Int}(h:sat s i=some b): 0<=i/\∃c:UInt8,s[i.toNat]?=some c/\b=(c.toNat:Int):=by
 unfold sat at h;split at h
 .rename_i f;simp only[Option.map_eq_some_iff] at h;let⟨c,e,d⟩:=h;refine⟨f,c,?_,d.symm⟩;rw[<-e];simp[getElem?_def,ByteArray.getElem_eq_getElem_data]
 .cases h
def aIi(s:ByteArray)(lo hi:Int): Option ByteArray:=if 0<=lo/\lo<=hi/\hi.toNat<=s.size then some (s.extract lo.toNat hi.toNat) else none
section
variable {P:Program}{cf:Nat->Nat->List AV->aM->Option (AV×aM)}{fl:Nat}{H:aM}{t:TypeId}{s r:ByteArray}{i b lo hi:Int}{k:IntKind}
theorem U7(P:Program)(t:TypeId){d:TypeDesc}(b:P.underlying t=some d){β:Type}(f:TypeDesc->Sem β): aK P (underlying t >>= f)=aK P (f d):=by
 simp only[underlying];show aK P (Sem.program λP=>_)=_;simp only[aK];show aK P ((match P.underlying t with | some d=>pure d | none=>stuck "no such type":Sem TypeDesc).bind f)=_;rw[b];rfl
theorem D8[aB](d:P.underlying t=some .string)(h:sat s i=some b): aI P cf fl (.strIdx t (.tmp 0)<|.tmp 1) [sv s,iv i] H=some (.lit<|.int .u8 b,H):=by
 obtain⟨g,c,f,rfl⟩:=S5 h;have e:aK P (Instr.index t (.string s)<|.int .i64 i)=some (.int .u8 c.toNat):=by
  unfold Instr.index;show aK P (underlying t >>= _)=_;rw[U7 P t d];simp only[g,if_true,f];rfl
 simp only[aI,aC,List.getElem?_cons_zero,List.getElem?_cons_succ,e]
theorem aFf[aB]{a d:Int}(e:d≠0): aI P cf fl (.bin .quo t (.tmp 0)<|.tmp 1) [.lit<|.int k a,.lit<|.int k d] H=some (.lit<|.int k<|k.wrap<|a.tdiv d,H):=by
 have b:aK P (eqGuard .quo t (.tmp 0) (.tmp 0) (.int k a)<|.int k d)=some ():=rfl;have c:aK P (binOp .quo t (.int k a)<|.int k d)=some (.int k<|k.wrap<|a.tdiv d):=by
  simp[binOp,Op.intDiv,e];rfl
 simp only[aI,aC,List.getElem?_cons_zero,List.getElem?_cons_succ,lits,pP,if_true,b,c]
theorem aEV[aB]{a d:Int}(e:d≠0): aI P cf fl (.bin .rem t (.tmp 0)<|.tmp 1) [.lit<|.int k a,.lit<|.int k d] H=some (.lit<|.int k<|a.tmod d,H):=by
 have b:aK P (eqGuard .rem t (.tmp 0) (.tmp 0) (.int k a)<|.int k d)=some ():=rfl;have c:aK P (binOp .rem t (.int k a)<|.int k d)=some (.int k<|a.tmod d):=by
  simp[binOp,Op.intDiv,e];rfl
 simp only[aI,aC,List.getElem?_cons_zero,List.getElem?_cons_succ,lits,pP,if_true,b,c]
end
section
variable {P:Program}{cf cf':Nat->Nat->List AV->aM->Option (AV×aM)}
end
section
variable {H:aM}{α:Type}{c:α->List AV}{l l':List α}{x:α}{i:Int}{s id fl k:Nat}
variable {P:Program}{cf:Nat->Nat->List AV->aM->Option (AV×aM)}{lo hi:Int}{w y z:AV}
end
section
variable {K V:Type}[DecidableEq K]{P:Program}{cf:Nat->Nat->List AV->aM->Option (AV×aM)}{fl:Nat}{H:aM}{kt:TypeId}{kv:K->Value}{va:V->AV}{m:List (K×V)}{x:AV}{k:K}
def WW(a d:Int): Option Int:=if d=0 then none else some (a.tmod d)
theorem aBW[aB]{t:TypeId}{k:IntKind}{a d v:Int}(h:WW a d=some v): aI P cf fl (.bin .rem t (.tmp 0) (.tmp 1)) [.lit (.int k a),.lit (.int k d)] H=some (.lit (.int k v),H):=by
 unfold WW at h;split at h
 .cases h
 .rename_i b;cases h;exact aEV b
end
section
variable {P:Program}{T:List bK}{α:Type}{c:α->List AV}{vi fid s bytes n:Nat}{z:List Value}
end
section
inductive Cd where
 | int (ik:IntKind)
 | bool
 | str
 | sl (k:Nat)
 | sptr (k:Nat)
 | mp (kk vk:Nat)
 | any
class iG where
 den:Nat->Type
 cds:Nat->List Cd
 ag:Nat->Bool
open iG (den cds ag)
def Cd.den[iG]: Cd->Type
 | .int _=>Int
 | .bool=>Bool
 | .str=>ByteArray
 | .sl k=>List<|iG.den k
 | .sptr k=>iG.den k
 | .mp kk vk=>List<|iG.den kk×iG.den vk
 | .any=>Unit
def Ik[iG]: List Cd->Type
 | []=>Unit
 | c::r=>c.den×Ik r
class cX extends iG where
 pk:∀k,Ik (cds k)->den k
 un:∀k,den k->Ik (cds k)
 un_pk:∀k p,un k (pk k p)=p
inductive TV[iG] where
 | undef
 | lit (v:Value)
 | emp (ap:Bool)
 | sl (k:Nat) (l:List (den k))
 | vw (k:Nat) (l:List (den k))
 | ms (id:Nat) (n:Option (Nat×Nat))
 | ptr (id off:Nat)
 | pel (id:Nat) (i:Int) (off:Nat)
 | rptr (cs:List TV)
 | sptr (k:Nat) (x:den k)
 | rmp (kk vk:Nat) (m:List (den kk×den vk))
 | mp (id:Nat)
 | it (id:Nat)
 | fn (vi:Nat) (caps:List TV)
 | agg (cs:List TV)
 | tup (vs:List TV)
 | rs (id n:Nat)
 | rel (id n i off:Nat)
 | slF (k:Nat) (l:List (den k))
 deriving Inhabited
inductive lO[iG] where
 | box (cs:List TV)
 | lst (k:Nat) (l:List (den k))
 | map (kk vk:Nat) (m:List (den kk×den vk))
 | it (s:ByteArray) (pos:Nat)
 | rows (s:Nat) (es:List (List TV))
 | gone
 | fr (n:Nat) (o:cN)
 deriving Inhabited
abbrev TH[iG]:=List lO
abbrev TT[iG]:=List (Nat×TV)
structure TS[iG] where
 tm:TT
 hp:TH
def Cd.tv[iG]: (c:Cd)->c.den->TV
 | .int ik,n=>.lit<|.int ik n
 | .bool,b=>.lit<|.bool b
 | .str,s=>.lit<|.string s
 | .sl k,l=>.sl k l
 | .sptr k,x=>.sptr k x
 | .mp kk vk,m=>.rmp kk vk m
 | .any,_=>.undef
def lN[iG]: (cs:List Cd)->Ik cs->List TV
 | [],_=>[]
 | c::r,p=>c.tv p.1::lN r p.2
def iH[cX](k:Nat)(x:den k): List TV:=lN (cds k)<|cX.un k x
def hdT[iG]: List TV->TV
 | []=>.undef
 | x::_=>x
def val[cX](k:Nat)(x:den k): TV:=match ag k with
 | true=>.agg<|iH k x
 | false=>hdT<|iH k x
def Gx{k k':Nat}(F:Nat->Type)(x:F k): Option<|F k':=match Nat.decEq k k' with
 | isTrue h=>some<|h▸x
 | isFalse _=>none
def kvC[iG]: (cs:List Cd)->Ik cs->List Value
 | [],_=>[]
 | c::r,p=>(match c,p.1 with
  | .int ik,n=>.int ik n
  | .bool,b=>.bool b
  | .str,s=>.string s
  | _,_=>aW)::kvC r p.2
def pR[cX](k:Nat)(x:den k): Value:=match ag k with
 | true=>.agg (kvC (cds k)<|cX.un k x).toArray
 | false=>match kvC (cds k) (cX.un k x) with
  | v::_=>v
  | []=>aW
def SY: List Cd->Bool
 | []=>true
 | c::r=>match c with
  | .int _=>SY r
  | .bool=>SY r
  | .str=>SY r
  | _=>false
def B7{α:Type}(l:List α)(n:Option<|Nat×Nat): List α:=match n with
 | none=>l
 | some w=>(l.drop w.1).take w.2
section
variable [iG]
def MG(w:Nat)(H:TH)(k:Nat): TV->Option (List<|den k)
 | .sl k' l=>Gx (λk=>List<|den k) l
 | .emp _=>some []
 | .lit v=>match v with
  | .slice a l c=>match a with
   | none=>match l with
    | 0=>match c with
     | 0=>some []
     | _=>none
    | _=>none
   | _=>none
  | _=>none
 | .vw k' l=>match w with
  | 1=>Gx (λk=>List<|den k) l
  | _=>none
 | .ms id n=>match w with
  | 0=>none
  | _=>match H[id]? with
   | some o=>match o with
    | .lst k' l=>Gx (λk=>List<|den k)<|B7 l n
    | _=>none
   | none=>none
 | _=>none
def Xq{a b a' b':Nat}(m:List<|den a×den b): Option<|List<|den a'×den b':=match Nat.decEq a a' with
 | isTrue h=>match Nat.decEq b b' with
  | isTrue h'=>some<|h▸h'▸m
  | isFalse _=>none
 | isFalse _=>none
def rdM(w:Nat)(H:TH)(kk vk:Nat): TV->Option (List<|den kk×den vk)
 | .rmp a b m=>Xq m
 | .lit v=>match v with
  | .map a=>match a with
   | none=>some []
   | some _=>none
  | _=>none
 | .mp id=>match w with
  | 2=>match ag vk with
   | true=>none
   | false=>match H[id]? with
    | some o=>match o with
     | .map a b m=>Xq m
     | _=>none
    | none=>none
  | _=>none
 | _=>none
def f9(w:Nat)(H:TH)(c:Cd)(v:TV): Option c.den:=match c with
 | .int ik=>match v with
  | .lit u=>match u with
   | .int k n=>match decEq k ik with
    | isTrue _=>some n
    | isFalse _=>none
   | _=>none
  | _=>none
 | .bool=>match v with
  | .lit u=>match u with
   | .bool b=>some b
   | _=>none
  | _=>none
 | .str=>match v with
  | .lit u=>match u with
   | .string s=>some s
   | _=>none
  | _=>none
 | .sl k=>MG w H k v
 | .sptr k=>match v with
  | .sptr k' x=>Gx den x
  | _=>none
 | .any=>match w with
  | 1=>some ()
  | _=>none
 | .mp kk vk=>rdM w H kk vk v
def rdL(w:Nat)(H:TH): (cs:List Cd)->List TV->Option (Ik cs)
 | [],[]=>some ()
 | c::r,v::vs=>match f9 w H c v with
  | some x=>match rdL w H r vs with
   | some p=>some (x,p)
   | none=>none
  | none=>none
 | _,_=>none
end
section
variable [cX]
def jJ(w:Nat)(H:TH)(k:Nat)(cs:List TV): Option<|den k:=match rdL w H (cds k) cs with
 | some p=>some<|cX.pk k p
 | none=>none
def Zq(w:Nat)(H:TH)(k:Nat)(v:TV): Option<|den k:=match ag k with
 | true=>match v with
  | .agg cs=>jJ w H k cs
  | _=>none
 | false=>jJ w H k [v]
def uB(H:TH)(k:Nat): List (List TV)->Option (List<|den k)
 | []=>some []
 | e::r=>match jJ 0 H k e with
  | some x=>match uB H k r with
   | some l=>some (x::l)
   | none=>none
  | none=>none
def Vp: TV->Option (List TV)
 | .agg cs=>some cs
 | .undef=>none
 | .tup _=>none
 | .rptr _=>none
 | .lit v=>match aY v with
  | true=>some [.lit v]
  | false=>none
 | v=>some [v]
def Me(i:Nat): List Nat->Bool
 | []=>false
 | j::r=>match Nat.beq i j with
  | true=>true
  | false=>Me i r
def DO(ks:List Nat): TV->TV
 | .ms i n=>match Me i ks with | true=>.undef | false=>.ms i n
 | .pel i j o=>match Me i ks with | true=>.undef | false=>.pel i j o
 | .agg _=>.undef
 | .tup _=>.undef
 | .fn vi cs=>match cs with | []=>.fn vi [] | _=>.undef
 | v=>v
def Ky(ks:List Nat): TV->TV
 | .agg cs=>.agg<|cs.map<|DO ks
 | .tup _=>.undef
 | .fn vi caps=>.fn vi<|caps.map<|DO ks
 | v=>DO ks v
def SV(ks:List Nat)(tm:TT): TT:=match ks with
 | []=>tm
 | k::r=>tm.map λp=>(p.1,Ky (k::r) p.2)
def zH(ks:List Nat): lO->lO
 | .box cs=>.box<|cs.map<|Ky ks
 | .rows s es=>.rows s<|es.map λe=>e.map<|Ky ks
 | o=>o
def hP(id:Nat)(S:TS): TS:=⟨SV [id] S.tm,S.hp.map<|zH [id]⟩
def s7: List AV->Option (List TV)
 | []=>some []
 | a::r=>match a with
  | .lit v=>match s7 r with
   | some l=>some (.lit v::l)
   | none=>none
  | _=>none
def bR[aB](tm:TT): aQ->TV
 | .tmp t=>match eD t tm with
  | some v=>v
  | none=>.undef
 | .lit v=>.lit v
 | .agg vs=>.agg<|vs.map .lit
 | .fn vi=>.fn vi []
 | .glob g=>match aB.tab g with
  | some cs=>match s7 cs with
   | some l=>.rptr l
   | none=>.undef
  | none=>.undef
def o6: TV->TV
 | .lit v=>match v with
  | .slice a l c=>match a with
   | none=>match l with
    | 0=>match c with
     | 0=>.emp false
     | _=>.undef
    | _=>.undef
   | some _=>.undef
  | v=>.lit v
 | .emp _=>.emp false
 | .slF k l=>.sl k l
 | v=>v
def aFw: TV->TV
 | .agg cs=>.agg<|cs.map o6
 | v=>o6 v
def TE: TV->Option Int
 | .lit (.int _ n)=>some n
 | _=>none
def rdX(H:TH)(k:Nat)(v:TV): Option<|List<|den k:=MG 1 H k v
def aFA(H:TH): TV->Option Nat
 | .sl _ l=>some l.length
 | .vw _ l=>some l.length
 | .emp _=>some 0
 | .lit (.slice none 0 0)=>some 0
 | .ms id n=>match n with
  | some w=>some w.2
  | none=>match H[id]? with
   | some (.lst _ l)=>some l.length
   | _=>none
 | .rs _ n=>some n
 | _=>none
variable {R:Type}
def Kx(cs:List TV)(agg:Bool)(off n:Nat)(K:TV->Option R): Option R:=match Nat.ble (off+n) cs.length with
 | true=>match agg with
  | true=>K<|.agg<|(cs.drop off).take n
  | false=>match (cs.drop off).take n with
   | [c]=>K c
   | _=>none
 | false=>none
end
end
def Ko(c:bV)(w':World): bV:=⟨w',λb=>c.X b\/∃id,c.β id=some b,λ_=>none,[]⟩
def xM(c:bV)(b:Nat)(w':World): Prop:=c.w.heap.size<=w'.heap.size/\∀k o,k≠b->c.w.heap[k]?=some o->w'.heap[k]?=some o
section
variable {FT:Nat->Option Nat}{c:bV}{w':World}{id0 b0:Nat}
theorem y5{b:Nat}: mF (Ko c w') b↔mF c b:=(Ae (c:=c) (b:=b))
theorem S9{x:AV}{v:Value}(a:c.β id0=some b0)(g:xM c b0 w')(h:RP c.w (mF c) x v): RP (Ko c w').w (mF<|Ko c w') x v:=
 h.mono λb o f i=>⟨y5.2 f,g.2 b o (λe=>f.2 id0<|by rw[e];exact a) i⟩
theorem aBQ[aB](m:bJ FT c)(d:c.β id0=some b0)(i:xM c b0 w'): bJ FT (Ko c w') where
 gl:=λg cs f=>by
  let⟨cc,T,I,a,r,y,G,A,v⟩:=m.gl g cs f;exact⟨cc,T,I,a,y5.2 r,i.2 g _ (λe=>r.2 id0<|by rw[e];exact d) y,G,A,λj x D=>S9 d i<|v j x D⟩
 inj:=λ_ _ _ h=>by cases h
 dom:=λ_ _ h=>by cases h
 nx:=λ_ _ h=>by cases h
 fresh:=λk H h=>by
  have p:c.w.heap.size<=k:=Nat.le_trans i.1 H;rcases h with h | ⟨id,n⟩
  .exact m.fresh k p h
  .have:=fC m n;omega
 lens:=λid s es h=>by simp[Ko] at h
 blk:=λid s es b h=>by simp[Ko] at h
 map:=λid es b h=>by simp[Ko] at h
 raw:=λid q b h=>by simp[Ko] at h
def Fb(H:aM)(id:Nat): aM:=H.set id<|.mp []
theorem aCq{H:aM}{id i:Nat}(h:i≠id): (Fb H id)[i]?=H[i]?:=by
 unfold Fb;rw[List.getElem?_set_ne<|Ne.symm h]
theorem PX[aB](hs:bJ FT c)(t:c.β id0=some b0)(K:xM c b0 w'){x:AV}{v:Value}(h:RV FT c x v): RV FT (Ko c w') (lQ (Fb c.H id0) x) v:=by
 have m:∀b,OT (Ko c w') b:=λb id h=>by cases h
 have o:∀{x v},RP c.w (mF c) x v->RP (Ko c w').w (mF<|Ko c w') x v:=λhr=>S9 t K hr;have b1:∀b,mF c b->b≠b0:=λb hi e=>hi.2 id0 (by rw[e];exact t);have U:∀b,OT c b->b≠b0:=λb hi e=>hi id0 (by rw[e];exact t);cases h with
 | pure _ _ hp=>
  cases hp with
  | undef v=>exact RV.undef _
  | lit v=>
   have a3:sS v=.lit v\/(v=.slice none 0 0/\sS v=.sl false []):=by
    unfold sS;repeat' split
    all_goals first
     | exact .inl rfl
     | exact .inr ⟨rfl,rfl⟩
   simp only[lQ];rcases a3 with e | ⟨rfl,e⟩<;>rw[e]
   .exact RV.lit _
   .exact .vnil none 0
  | nil f a cap hf=>exact .vnil a cap
  | sl f es b off cap cc T B s d G C D E N Y h7 h8=>exact .vw es b off cap cc T B s d G (m b) (K.2 b _ (b1 b C) D) E N h7 λi j x k=>o<|h8 i j x k
  | sptr cs b off cc T B d G C D E=>exact .pure _ _<|o<|.sptr cs b off cc T B d G C D E
  | rmp R b es Z d G C D E N Y=>exact .pure _ _<|o<|.rmp R b es Z d G C D E N Y
 | ms id tot off len a cap s n J V S W=>
  simp only[lQ];split
  .rename_i es l;unfold rd at l;simp only at l;split at l
   .rename_i s' r g;have M:id≠id0:=by
     intro e;subst e;unfold Fb at g;rw[List.getElem?_set_self'] at g;cases k:c.H[id]?<;>simp[k] at g
    rw[aCq M] at g;split at l
    .rename_i O;cases l;rw[fL g] at J;cases J;let⟨m1,m2⟩:=W O.symm;have z:((r.drop off).take len).length=len:=by simp;omega
     by_cases a1:len=0
     .subst a1;simp only[List.take_zero,List.map_nil];exact .vnil _ _
     .rcases m2 with⟨_,m3,m4,m5⟩ | ⟨b,cc,Ty,a',m3,m4,m5,m6,m7⟩
      .omega
      .have ha:=m7 (by omega);subst m6;subst ha;let⟨d2,d3,q1,q2,q3⟩:=hs.blk id s r b g m3;rw[m4] at q1;cases q1;have Q:b≠b0:=λe=>M<|hs.inj id id0 b m3 (by rw[e];exact t);have F:=hs.lens id s r g;have p:∀i j x,bL (((r.drop off).take len).map λe=>e.map vJ) i j=some x->
        ∃y u,x=vJ y/\cc[off*s+(i*s+j)]?=some u/\aY u=true/\RV FT c y u:=by
        intro i j x k;obtain⟨y,hy,rfl⟩:=jB k;let⟨e,he,hj⟩:=dI hy;rw[List.getElem?_take] at he;split at he
        .rw[List.getElem?_drop] at he;let⟨u,L,w2,w3⟩:=q3 (off+i) j y (by simp[bL,he,hj]);exact⟨y,u,rfl,by rw[<-L];congr 1;rw[Nat.add_mul];omega,w2,w3⟩
        .cases he
       have A:=RV.vw (FT:=FT) (c:=Ko c w') (((r.drop off).take len).map λe=>e.map vJ) b (off*s) cap cc Ty (0,0) s
        (λi j=>(cc[off*s+(i*s+j)]?).getD aW)
        (by intro e;have:=congrArg List.length e;simp at this;omega) (m b) (K.2 b _ Q m4)
        (λe he=>by
         simp only[List.mem_map] at he;obtain⟨e0,h0,rfl⟩:=he;simpa using F e0<|List.mem_of_mem_drop<|List.mem_of_mem_take h0)
        (by simp only[List.length_map,z];exact S)
        (λi j x k=>by
         let⟨y,u,_,L,w2,_⟩:=p i j x k;simp[L,w2])
        (λi j x k=>by
         let⟨y,u,a2,L,_,w3⟩:=p i j x k;rw[a2];simp only[L,Option.getD_some];exact o<|BC w3)
       simp only[List.length_map,z] at A;exact A
    .cases l
   .cases l
  .exact RV.undef _
 | ptr=>exact RV.undef _
 | rptr cs b off cc T B d J V S W=>exact .rptr cs b off cc T B d (m b) (K.2 b _ (U b J) V) S λj x k=>o<|W j x k
 | vnil a cap=>exact .vnil a cap
 | vw es b off cap cc T B s d G C D E N Y h7=>exact .vw es b off cap cc T B s d G (m b) (K.2 b _ (U b C) D) E N Y λi j x k=>o<|h7 i j x k
 | mp=>exact RV.undef _
 | it=>exact RV.undef _
 | fn vi f caps cv d J V S W=>
  cases caps with
  | nil=>exact .fn vi f [] cv d J V S λi x k=>by simp at k
  | cons _ _=>exact RV.undef _
 | agg=>exact RV.undef _
 | tup=>exact RV.undef _
theorem IK[aB](j:bJ FT c)(a:c.β id0=some b0)(g:xM c b0 w'){x:AV}{v:Value}(h:RV FT c x v): RV FT (Ko c w') (eK (Fb c.H id0) x) v:=by
 unfold eK;split
 .rename_i cs;obtain⟨cv,b,rfl,k,m,l⟩:=h.agg_inv;refine .agg _ cv b (by simpa using k) ?_ ?_
  .intro i x d;simp only[List.getElem?_map,Option.map_eq_some_iff] at d;obtain⟨y,f,rfl⟩:=d;exact m i y f
  .intro i x d;simp only[List.getElem?_map,Option.map_eq_some_iff] at d;obtain⟨y,f,rfl⟩:=d;exact PX j a g<|l i y f
 .exact PX j a g h
end
def Ca(c:bV)(w':World)(id s:Nat)(es:List<|List AV): bV:=⟨w',λk=>c.X k\/c.β id=some k,λi=>if i=id then none else c.β i,c.H.set id<|.blk s<|es++[List.replicate s .undef]⟩
section
variable {FT:Nat->Option Nat}{c:bV}{w':World}{b0:Nat}
theorem UK{id s:Nat}{es:List<|List AV}{b:Nat}: mF (Ca c w' id s es) b↔mF c b:=AB (c:=c) (id:=id) (s:=s) (es:=es)
theorem Zo{id s:Nat}{es:List<|List AV}{x:AV}{v:Value}(a:c.β id=some b0)(f:xM c b0 w')(h:RP c.w (mF c) x v): RP (Ca c w' id s es).w (mF<|Ca c w' id s es) x v:=
 h.mono λb o d i=>⟨(UK (w':=w')).2 d,f.2 b o (λe=>d.2 id<|by rw[e];exact a) i⟩
theorem Ny[aB]{id s:Nat}{es:List<|List AV}{x:AV}{v:Value}(N:bJ FT c)(m:c.β id=some b0)(w:xM c b0 w')(K:c.H[id]?=some (.blk s es))(h:RV FT c x v): RV FT (Ca c w' id s es) x v:=by
 have k:∀i,i≠id->(Ca c w' id s es).H[i]?=c.H[i]?:=λi d=>oF (s:=s) (es:=es) d;have o:(Ca c w' id s es).H[id]?=some (.blk s<|es++[List.replicate s .undef]):=zM K;have I:∀i,i≠id->(Ca c w' id s es).β i=c.β i:=λi d=>by simp[Ca,d]
 have t:∀b,OT c b->OT (Ca c w' id s es) b:=by
  intro b r i d;simp only[Ca] at d;split at d
  .cases d
  .exact r i d
 have F:∀b,OT c b->b≠b0:=λb d e=>d id (by rw[e];exact m);have y:∀i,vZ c.H i->i≠id:=by
  rintro i ⟨e,he,p⟩ rfl;rw[K] at he;cases he;exact p
 induction h with
 | pure x v A=>exact .pure x v<|Zo m w A
 | ms i tot off len a cap s' n u M J g4=>
  by_cases d:i=id
  .subst d;rw[fL K] at u;cases u;exact .ms i tot off len a cap s (es.length+1) (by simp[shp,o]) (by omega) J λe=>by omega
  .refine .ms i tot off len a cap s' n (by simp only[shp,k i d];exact u) M J λe=>?_;let⟨Z,O⟩:=g4 e;refine⟨Z,?_⟩;rw[I i d];rcases O with O | ⟨b,cs,T,a',U,q2,q3⟩
   .exact .inl O
   .exact .inr ⟨b,cs,T,a',U,w.2 b _ (λe=>d<|N.inj i id b U<|by rw[e];exact m) q2,q3⟩
 | ptr i tot idx off a s' n u M J=>
  by_cases d:i=id
  .subst d;rw[fL K] at u;cases u;exact .ptr i tot idx off a s (es.length+1) (by simp[shp,o]) (by omega) λe=>by omega
  .refine .ptr i tot idx off a s' n (by simp only[shp,k i d];exact u) M λe=>?_;rw[I i d];exact J e
 | rptr cs b off cc T R g d r q A=>exact .rptr cs b off cc T R g (t b d) (w.2 b _ (F b d) r) q λj x L=>Zo m w<|A j x L
 | vnil a cap=>exact .vnil a cap
 | vw es' b off cap cc T R s' g Q d r B D q A=>exact .vw es' b off cap cc T R s' g Q (t b d) (w.2 b _ (F b d) r) B D q λi j x L=>Zo m w<|A i j x L
 | mp i b C r=>
  have d:=y i C;let⟨e,he,p⟩:=C;exact .mp i b ⟨e,by rw[k i d];exact he,p⟩<|by rw[I i d];exact r
 | it i b C r=>
  have d:=y i C;let⟨e,he,p⟩:=C;exact .it i b ⟨e,by rw[k i d];exact he,p⟩<|by rw[I i d];exact r
 | fn vi f caps cv g hf E q _ z=>exact .fn vi f caps cv g hf E q z
 | agg cs cv g E q _ z=>exact .agg cs cv g E q z
 | tup cs cv g E q _ z=>exact .tup cs cv g E q z
theorem R3[aB]{id s:Nat}{es:List<|List AV}(f:bJ FT c)(m:c.β id=some b0)(o:xM c b0 w')(y:c.H[id]?=some (.blk s es)): bJ FT<|Ca c w' id s es:=by
 have p:∀i b,(Ca c w' id s es).β i=some b->i≠id/\c.β i=some b:=by
  intro i b a;simp only[Ca] at a;split at a
  .cases a
  .rename_i h;exact⟨h,a⟩
 have n:∀i,i≠id->(Ca c w' id s es).H[i]?=c.H[i]?:=λi d=>oF (s:=s) (es:=es) d;refine⟨?_,λi j b d K=>f.inj i j b (p i b d).2 (p j b K).2,λi b d=>?_,λi b d l=>?_,λk S l=>?_,?_,?_,?_,λi q b h a=>by
  let⟨d,a⟩:=p i b a;rw[n i d] at h;exact o.2 b _ (λe=>d<|f.inj i id b a<|by rw[e];exact m)<|f.raw i q b h a⟩
 .intro g cs E;let⟨cc,T,Q,t,G,M,U,N,R⟩:=f.gl g cs E;exact⟨cc,T,Q,t,(UK (w':=w')).2 G,o.2 g _ (λe=>G.2 id<|by rw[e];exact m) M,U,N,λj x l=>Zo m o<|R j x l⟩
 .have:=f.dom i b (p i b d).2;simpa [Ca] using this
 .let⟨B,a⟩:=p i b d;rcases l with l | l
  .exact f.nx i b a l
  .exact B<|f.inj i id b a l
 .have J:c.w.heap.size<=k:=Nat.le_trans o.1 S;rcases l with l | l
  .exact f.fresh k J l
  .have G:=f.lt l;omega
 .intro i s' es' h e he;by_cases d:i=id
  .subst d;have O:(Ca c w' i s es).H[i]?=some (.blk s<|es++[List.replicate s .undef]):=zM y;rw[O] at h;cases h;rcases List.mem_append.1 he with he | he
   .exact f.lens i s es y e he
   .simp at he;subst he;simp
  .rw[n i d] at h;exact f.lens i s' es' h e he
 .intro i s' es' b h a;let⟨d,a⟩:=p i b a;rw[n i d] at h;let⟨cs,T,z,F,A⟩:=f.blk i s' es' b h a;exact⟨cs,T,o.2 b _ (λe=>d<|f.inj i id b a<|by rw[e];exact m) z,F,λi j x l=>let ⟨v,D,C,I⟩:=A i j x l;⟨v,D,C,Ny f m o y I⟩⟩
 .intro i u b h a;let⟨d,a⟩:=p i b a;rw[n i d] at h;let⟨cs,T,z,F,A⟩:=f.map i u b h a;exact⟨cs,T,o.2 b _ (λe=>d<|f.inj i id b a<|by rw[e];exact m) z,F,λi j x l=>let ⟨v,D,C,I⟩:=A i j x l;⟨v,D,C,Ny f m o y I⟩⟩
end
section
variable (P:Program)(cf:Nat->Nat->List AV->aM->Option (AV×aM))(fl:Nat)(mem:Nat->List AV->Option AV)
end
section
variable {R α:Type}
end
section
variable (P:Program)(cf:Nat->Nat->List AV->aM->Option (AV×aM))(mem:Nat->List AV->Option AV)
end
section
variable (P:Program)(cf:Nat->Nat->List AV->aM->Option (AV×aM))(mem:Nat->List AV->Option AV)
end
section
open Go.Proofs Go.RowKit Go.Shelf Go.Sort
def Kq{α:Type}: List (Option α)->Option (List α)
 | []=>some []
 | x::r=>match x with
  | none=>none
  | some a=>match Kq r with
   | none=>none
   | some l=>some (a::l)
def vL(agg:Bool)(x:List AV): AV:=match agg with
 | true=>.agg x
 | false=>match x with
  | []=>.undef
  | y::_=>y
def Vl(H:aM)(id s:Nat)(es:List<|List AV): aM:=H.set id<|.blk s<|es++[List.replicate s .undef]
def K4(cf:CF)(vc:Nat)(caps:List AV)(H Hd:aM)(x y:AV): Option<|AV×aM:=match caps with
 | []=>cf 0 vc ([x,y].map<|eK H) []
 | _::_=>cf Hd.length vc (x::y::caps) Hd
def Gs(cf:CF)(vc:Nat)(caps:List AV)(agg:Bool)(H Hd:aM)(x y:List AV): Option Int:=
 match K4 cf vc caps H Hd (vL agg x) (vL agg y) with
 | none=>none
 | some p=>match p.1 with
  | .lit v=>match v with
   | .int k z=>match k with
    | .i64=>some z
    | _=>none
   | _=>none
  | _=>none
def Nr{β:Type}(f:β->β->Option Int)(rows:List β): Option<|List<|List Int:=Kq<|rows.map λx=>Kq<|rows.map λy=>f x y
def N2(tb:List<|List Int)(i j:Nat): Int:=match tb[i]? with
 | none=>0
 | some r=>match r[j]? with
  | none=>0
  | some z=>z
def ltT(tb:List<|List Int)(i j:Nat): Bool:=decide<|N2 tb i j<0
def HA(n:Nat)(tb:List<|List Int): Bool:=(List.range n).all λi=>!(ltT tb i i)&&(List.range n).all λj=>(List.range n).all λk=>
 match ltT tb i j with
 | true=>!(ltT tb j k)||ltT tb i k
 | false=>ltT tb j k||!(ltT tb i k)
def Z8(m:Nat)(tb:List<|List Int): List Nat:=((pdq (ltOf λ(x y:Fin<|m+1)=>N2 tb x.1 y.1) (Array.ofFn λi=>i) 0 (m+1) (Lib.bitLen<|m+1) true true).toList).map Fin.val
def yU{β:Type}(d:β)(rows:List β)(i:Nat): β:=match rows[i]? with
 | none=>d
 | some x=>x
def qU: AV->Bool
 | .sl _ es=>es.isEmpty
 | .vw es=>es.isEmpty
 | .ms _ _ _ len=>Nat.beq len 0
 | .lit v=>match v with
  | .slice a len cap=>match a with
   | none=>Nat.beq len 0&&Nat.beq cap 0
   | some _=>false
  | _=>false
 | _=>false
def vQ(cf:CF)(agg:Bool)(s:Nat)(fl:Nat)(args:List AV)(H:aM): Option<|AV×aM:=match args with
 | []=>none
 | x::r=>match r with
  | []=>none
  | y::q=>match q with
   | _::_=>none
   | []=>match qU x with
    | true=>some (.tup [],H)
    | false=>match y with
     | .fn vc caps=>match x with
      | .ms id tot off len=>match Nat.ble fl id with
       | false=>none
       | true=>match H[id]? with
        | none=>none
        | some o=>match o with
         | .blk s' es=>match len with
          | 0=>none
          | m+1=>match (Nat.beq s' s&&Nat.beq es.length tot&&Nat.ble (off+(m+1)) tot&&Nat.ble tot 1000000) with
           | false=>none
           | true=>match Nr (Gs cf vc caps agg (Fb H id)<|Vl H id s es) ((es.drop off).take<|m+1) with
            | none=>none
            | some tb=>match HA (m+1) tb with
             | false=>none
             | true=>some (.tup [],H.set id<|.blk s<|es.take off++(Z8 m tb).map (yU []<|(es.drop off).take<|m+1)++es.drop (off+(m+1)))
         | _=>none
      | _=>none
     | _=>none
theorem Sa{cf:Nat->Nat->List AV->aM->Option (AV×aM)}{agg:Bool}{s fl:Nat}{a:List AV}{H H':aM}{r:AV}(h:vQ cf agg s fl a H=some (r,H')):
 (∃x y,a=[x,y]/\qU x=true/\r=.tup []/\H'=H) \/
 ∃id off m vc caps es tb,a=[.ms id es.length off<|m+1,.fn vc caps]/\fl<=id/\H[id]?=some (.blk s es)/\off+(m+1)<=es.length/\es.length<=1000000 /\
  Nr (Gs cf vc caps agg (Fb H id)<|Vl H id s es) ((es.drop off).take<|m+1)=some tb/\HA (m+1) tb=true/\r=.tup [] /\
  H'=H.set id (.blk s<|es.take off++(Z8 m tb).map (yU []<|(es.drop off).take<|m+1)++es.drop (off+(m+1))):=by
 unfold vQ at h;repeat' split at h;all_goals first
  | (cases h;done)
  | skip
 .grind
 .rename_i d _ _ _ es c _ _ _ _ f _ tb b _ e;cases h;simp only[Bool.and_eq_true] at f;let⟨⟨⟨n,l⟩,k⟩,i⟩:=f;have g:=Nat.eq_of_beq_eq_true n;have e2:=Nat.eq_of_beq_eq_true l;have o:=Nat.le_of_ble_eq_true k;have j:=Nat.le_of_ble_eq_true i;subst g e2;exact .inr ⟨_,_,_,_,_,_,tb,rfl,Nat.le_of_ble_eq_true d,c,o,j,b,e,rfl,rfl⟩
theorem Vt{α:Type}: ∀{l:List<|Option α} {r:List α},Kq l=some r->r.length=l.length/\∀i (h:i<l.length),l[i]?=some r[i]?
 | [],r,h=>by cases h;exact⟨rfl,λi h=>by simp at h⟩
 | none::l,r,h=>by simp[Kq] at h
 | some a::l,r,h=>by
  simp only[Kq] at h;split at h
  .cases h
  .rename_i b;cases h;let⟨d,c⟩:=Vt b;grind
theorem aB8{β:Type}{f:β->β->Option Int}{rows:List β}{tb:List<|List Int}(h:Nr f rows=some tb){i j:Nat}{x y:β}(g:rows[i]?=some x)(m:rows[j]?=some y): f x y=some (N2 tb i j):=by
 let⟨p,n⟩:=Vt h;have c:i<rows.length:=by
  grind
 have b:j<rows.length:=by
  grind
 have a:=n i (by simpa using c);rw[List.getElem?_map,g,Option.map_some,Option.some.injEq] at a;cases e:tb[i]? with
 | none=>grind
 | some r=>
  rw[e] at a;let⟨o,l⟩:=Vt a;have d:=l j (by simpa using b);rw[List.getElem?_map,m,Option.map_some,Option.some.injEq] at d;rw[d];cases k:r[j]? with
  | none=>grind
  | some z=>simp[N2,e,k]
theorem BF{m:Nat}{tb:List<|List Int}(h:HA (m+1) tb=true): SWO<|ltOf λ(x y:Fin<|m+1)=>N2 tb x.1 y.1:=by
 unfold HA at h;simp at h;have e:∀x y:Fin<|m+1,ltOf (λ(x y:Fin<|m+1)=>N2 tb x.1 y.1) x y=ltT tb x.1 y.1:=λ_ _=>rfl;refine⟨λx=>?_,λx y z a b=>?_,λx y z a b=>?_⟩
 .grind
 .grind
 .grind
theorem aAk{c c':bV}{fl:Nat}(h:bG fl c c')(i:∀k,k<c.w.heap.size->c'.w.heap[k]?=c.w.heap[k]?): ∃q os,c'.w=grow (c.w.drewN q) os:=by
 refine⟨c'.w.drawn-c.w.drawn,c'.w.heap.extract c.w.heap.size c'.w.heap.size,?_⟩;have l:=h.os;have e2:=h.tape;have g:=h.output;have m:c.w.drawn+(c'.w.drawn-c.w.drawn)=c'.w.drawn:=by have:=h.drawn;omega
 have j:c'.w.heap=c.w.heap++c'.w.heap.extract c.w.heap.size c'.w.heap.size:=by
  apply Array.ext_getElem?;grind
 unfold grow World.drewN;cases f:c'.w with
 | mk e d b os a=>grind
theorem Q4{c:bV}{q:Nat}{os:Array Obj}: bG 0 (gV c) ⟨grow (Sort.ahead c.w q) os,(gV c).X,λ_=>none,[]⟩ where
 X:=rfl;os:=rfl;tape:=rfl;output:=rfl;drawn:=Nat.le_add_right _ _;size:=by show c.w.heap.size<=(c.w.heap++os).size;rw[Array.size_append];exact Nat.le_add_right _ _
 len:=Nat.le_refl _;frame:=λk p _=>by
  have d:k<c.w.heap.size:=p;show (c.w.heap++os)[k]?=c.w.heap[k]?;rw[Array.getElem?_append_left d]
 img:=λid b h=>by cases h
 blkS:=λid s n h=>by simp[gV,shp] at h
 mpS:=λid h=>by let⟨e,he,_⟩:=h;simp[gV] at he
 floor:=λid h=>by omega
def Qy(agg:Bool)(l:List Value): Value:=match agg with
 | true=>.agg l.toArray
 | false=>l[0]!
def aIE{α:Type}[Inhabited α](P:Program)(agg:Bool)(g:Nat)(cb:Array Value)(enc:α->List Value)(k:Nat)(cf:α->α->Int)(blk off size:Nat)(w:World): Prop:=
 ∀(m:Nat) (os:Array Obj) (dk:Array α),dk.size=size->∀x y:α,
  Calls P g (#[Qy agg<|enc x,Qy agg<|enc y]++cb) (sortWorldK enc k w blk off m dk os) λe w'=>e=.returned (.int .i64<|cf x y)/\∃q os',w'=grow ((sortWorldK enc k w blk off m dk os).drewN q) os'
def Rb(P:Program)(agg:Bool)(f k:Nat): Prop:=∀(m:Nat) (enc:Fin (m+1)->List Value),(∀x,(enc x).length=k)->(∀x,∀v∈enc x,v.oneCell'=true)->
 ∀(cf:Fin (m+1)->Fin (m+1)->Int),SWO (ltOf cf)->∀(g:Nat) (cb:Array Value) (blk off cap:Nat) (d:Array<|Fin<|m+1) (w:World),
  (∀args w,(callFunc g args).run P w=.ok (.enter g args) w)->aIE P agg g cb enc k cf blk off d.size w->HoldsK enc k w blk off d->blk<w.heap.size->d.size<4611686018427387904->
  Calls P f #[.slice (some ⟨blk,off,none⟩) d.size cap,.func (.func g) #[] cb] w λe w'=>
   e=.returned (.tuple #[])/\∃n os,w'=sortWorldK enc k w blk off n (pdq (ltOf cf) d 0 d.size (Lib.bitLen d.size) true true) os
def Ra(P:Program)(f:Nat): Prop:=∀(p:Option Addr) (cap:Nat) (fv:Value) (w:World),Calls P f #[.slice p 0 cap,fv] w λe w'=>e=.returned (.tuple #[])/\w'=w
theorem UH{FT:Nat->Option Nat}{c:bV}{x:AV}{v:Value}(he:qU x=true)(h:RV FT c x v): ∃p cap,v=.slice p 0 cap:=by
 unfold qU at he;split at he
 .rename_i es;cases h with
  | pure _ _ e=>cases e with
   | nil f a cap _=>grind
   | sl f es b off cap c T k s g i=>grind
 .rename_i es;cases h with
  | pure _ _ e=>cases e
  | vnil a cap=>grind
  | vw es b off cap cc T k s g i=>grind
 .rename_i len;have:=Nat.eq_of_beq_eq_true he;subst this;cases h with
  | pure _ _ e=>cases e
  | ms id tot off len a cap s n=>grind
 .rename_i q;have:=h.lit_inv;split at he
  .rename_i cap;split at he
   .simp_all
   .grind
  .grind
 .grind
theorem AE{es:List<|List AV}{i j:Nat}{e:List AV}(he:es[i]?=some e): bL es i j=e[j]?:=by simp[bL,he]
section
variable {P:Program}{T:List bK}
theorem QI[aB]{cf:Nat->Nat->List AV->aM->Option (AV×aM)}(hcf:lP P T cf)(hfn:fW P T){agg:Bool}{f s:Nat}(hagg:agg=false->s=1)(hL:Rb P agg f s)(hN:Ra P f){fl:Nat}{args:List AV}{r:AV}{H':aM}{c:bV}{vs:Array Value}(hev:vQ cf agg s fl args c.H=some (r,H'))(hs:bJ (aG T) c)(hargs:jQ (aG T) c args vs):
 Calls P f vs c.w λe w'=>∃v c',e=.returned v/\c'.w=w'/\c'.H=H'/\c'.X=c.X/\bG fl c c'/\bJ (aG T) c'/\RV (aG T) c' r v:=by
 rcases Sa hev with⟨x,y,rfl,he,rfl,rfl⟩ | ⟨id,off,m,vc,caps,es,tb,rfl,hfl,hob,hwin,hbig,htb,hsw,rfl,rfl⟩
 .let⟨u0,k0,r0⟩:=hargs.2 0 _ rfl
  let⟨u1,k1,r1⟩:=hargs.2 1 _ rfl
  obtain⟨p,cap,rfl⟩:=UH he r0
  have hvs:vs=#[.slice p 0 cap,u1]:=by
   apply Array.ext
   .exact hargs.1
   .grind
  subst hvs
  refine (hN p cap u1 c.w).mono λe w' ⟨he,hw⟩=>?_
  subst hw
  exact⟨_,c,he,rfl,rfl,rfl,bG.refl fl c,hs,.tup [] #[] (λ_=>aW) rfl (λi x hx=>by simp at hx) λi x hx=>by simp at hx⟩
 let⟨u0,k0,r0⟩:=hargs.2 0 _ rfl
 let⟨u1,k1,r1⟩:=hargs.2 1 _ rfl
 obtain⟨a,cap,s',n,rfl,g1,g2,g3,g4⟩:=r0.ms_inv
 have hsh:s'=s/\n=es.length:=by
  simp only[shp,hob] at g1
  simpa [eq_comm] using g1
 obtain⟨rfl,rfl⟩:=hsh
 let⟨hml,hms⟩:=g4 rfl
 rcases hms with⟨_,h0,_⟩ | ⟨b,cs,ty,a',hb,hcs,hsz,rfl,hadr⟩
 .omega
 have hcap:cap≠0:=by omega
 obtain rfl:=hadr hcap
 obtain⟨g,cv,vals,rfl,hvc,hcv,hcv1,hcv2⟩:∃g cv,∃vals:Nat->Value,u1=.func (.func g) #[] cv/\aG T vc=some g/\cv.size=caps.length/\(∀i x,caps[i]?=some x->cv[i]?=some (vals i))/\∀i x,caps[i]?=some x->RV (aG T) c x (vals i):=by
  cases r1 with
  | pure _ _ h=>cases h
  | fn vi f caps cv vals hf h1 h2 h3=>exact⟨_,_,_,rfl,hf,h1,h2,h3⟩
 have hvs:vs=#[.slice (some ⟨b,off*s',none⟩) (m+1) cap,.func (.func g) #[] cv]:=by
  apply Array.ext
  .exact hargs.1
  .grind
 subst hvs
 let⟨fn,hf1,hf2,hf3⟩:=hfn vc g hvc
 let⟨code,hcode⟩:=Option.isSome_iff_exists.1 hf2
 let⟨cs2,ty2,hc2,hfit,hcell⟩:=hs.blk id s' _ b hob hb
 rw[hcs] at hc2
 cases hc2
 have hlens:=hs.lens id s' es hob
 have hblk:b<c.w.heap.size:=hs.lt hb
 have hrow:∀i,i<m+1->∃e,es[off+i]?=some e/\e.length=s':=by
  intro i hi
  have hlt:off+i<es.length:=by omega
  exact⟨es[off+i],List.getElem?_eq_getElem hlt,hlens _<|List.getElem_mem hlt⟩
 have hreal:∀i,i<m+1->∀j,j<s'->∃x v,bL es (off+i) j=some x/\cs[(off+i)*s'+j]?=some v/\aY v=true/\RV (aG T) c x v:=by
  intro i hi j hj
  let⟨e,he,hel⟩:=hrow i hi
  have hx:bL es (off+i) j=some e[j]:=by rw[AE he,List.getElem?_eq_getElem<|by omega]
  let⟨v,h1,h2,h3⟩:=hcell _ _ _ hx
  exact⟨_,v,hx,h1,h2,h3⟩
 let enc:Fin (m+1)->List Value:=λi=>(List.range s').map λj=>(cs[(off+i.1)*s'+j]?).getD aW
 have henc_len:∀x,(enc x).length=s':=λx=>by simp[enc]
 have henc_at:∀(x:Fin<|m+1) j,j<s'->(enc x)[j]?=cs[(off+x.1)*s'+j]?:=by
  intro x j hj
  let⟨_,v,_,h1,_,_⟩:=hreal x.1 x.2 j hj
  simp only[enc]
  rw[List.getElem?_map,List.getElem?_range hj,Option.map_some,h1]
  rfl
 have henc_one:∀x,∀v∈enc x,v.oneCell'=true:=by
  intro x v hv
  let⟨j,hj,hjv⟩:=List.getElem_of_mem hv
  have hj':j<s':=by simpa [enc] using hj
  let⟨_,v',_,h1,h2,_⟩:=hreal x.1 x.2 j hj'
  have:=henc_at x j hj'
  rw[List.getElem?_eq_getElem hj,hjv,h1] at this
  cases this
  rw[<-Lq];exact h2
 let d0:Array<|Fin<|m+1:=Array.ofFn λi=>i
 have hd0:d0.size=m+1:=by simp[d0]
 have hd0at:∀i (h:i<m+1),d0[i]! =⟨i,h⟩:=by
  intro i h
  simp[d0,h]
 have hH:HoldsK enc s' c.w b (off*s') d0:=by
  intro t ht
  rw[size_flatK] at ht
  rw[get_flatK _ _ _ _ ht]
  rw[hd0] at ht
  have hpos:0<s':=by
   rcases Nat.eq_zero_or_pos s' with h | h
   .grind
   .exact h
  have hlt:t / s'<m+1:=Nat.div_lt_of_lt_mul<|by rw[Nat.mul_comm];exact ht
  have hmod:=Nat.mod_lt t hpos
  have e1:off*s'+t=(off+t / s')*s'+t % s':=by
   have:=Nat.div_add_mod t s'
   rw[Nat.add_mul,Nat.mul_comm (t / s') s'];omega
  let⟨_,v,_,h1,_,_⟩:=hreal (t / s') hlt (t % s') hmod
  have h2:=henc_at ⟨t / s',hlt⟩ (t % s') hmod
  rw[hd0at _ hlt]
  refine⟨?_,by simp[World.frozen?,hcs]⟩
  rw[List.getElem!_eq_getElem?_getD,h2,h1]
  simp only[World.cell?,hcs,e1]
  simpa using h1
 have hcmp:aIE P agg g cv enc s' (λx y=>N2 tb x.1 y.1) b (off*s') d0.size c.w:=by
  intro mm os dk _ x y
  have hsame:xM c b<|sortWorldK enc s' c.w b (off*s') mm dk os:=by
   refine⟨?_,λk o hk ho=>?_⟩
   .show _<=((putRowK enc s' (Sort.ahead c.w mm) b (off*s') dk).heap++os).size
    rw[Array.size_append]
    unfold putRowK putRow mapBlock
    simp[Sort.ahead]
   .show ((putRowK enc s' (Sort.ahead c.w mm) b (off*s') dk).heap++os)[k]?=some o
    have hkl:k<c.w.heap.size:=by
     rcases Nat.lt_or_ge k c.w.heap.size with h | h
     .exact h
     .grind
    have e:(putRowK enc s' (Sort.ahead c.w mm) b (off*s') dk).heap[k]?=c.w.heap[k]?:=by
     unfold putRowK putRow mapBlock
     rw[Array.getElem?_modify,if_neg<|Ne.symm hk]
     rfl
    have hsz2:(putRowK enc s' (Sort.ahead c.w mm) b (off*s') dk).heap.size=c.w.heap.size:=by
     unfold putRowK putRow mapBlock
     simp[Sort.ahead]
    rw[Array.getElem?_append_left<|by rw[hsz2];exact hkl,e]
    exact ho
  generalize sortWorldK enc s' c.w b (off*s') mm dk os=W at hsame |-
  let⟨ex,hex,hexl⟩:=hrow x.1 x.2
  let⟨ey,hey,heyl⟩:=hrow y.1 y.2
  have hrx:((es.drop off).take<|m+1)[x.1]?=some ex:=by rw[List.getElem?_take,if_pos x.2,List.getElem?_drop];exact hex
  have hry:((es.drop off).take<|m+1)[y.1]?=some ey:=by rw[List.getElem?_take,if_pos y.2,List.getElem?_drop];exact hey
  have hcg:=aB8 htb hrx hry
  have hrv:∀(z:Fin<|m+1) (e:List AV),es[off+z.1]?=some e->e.length=s'->RV (aG T) c (vL agg e) (Qy agg<|enc z):=by
   intro z e he hel
   have hall:∀(j:Nat) x,e[j]?=some x->(enc z)[j]?=some ((enc z)[j]?.getD aW)/\aY ((enc z)[j]?.getD aW)=true/\RV (aG T) c x ((enc z)[j]?.getD aW):=by
    intro j x hx
    have hj:j<s':=by
     rcases Nat.lt_or_ge j s' with h | h
     .exact h
     .grind
    have hx':bL es (off+z.1) j=some x:=by rw[AE he];exact hx
    let⟨v,h1,h2,h3⟩:=hcell _ _ _ hx'
    rw[henc_at z j hj,h1]
    exact⟨rfl,h2,h3⟩
   cases agg with
   | true=>
    refine .agg e (enc z).toArray (λ(j:Nat)=>(enc z)[j]?.getD aW) (by simp[henc_len,hel]) (λ(j:Nat) x hx=>?_) λ(j:Nat) x hx=>(hall j x hx).2.2
    exact⟨by simpa using (hall j x hx).1,(hall j x hx).2.1⟩
   | false=>
    have h1:=hagg rfl
    subst h1
    obtain⟨y,rfl⟩:∃y,e=[y]:=by
     match e,hel with
     | [y],_=>grind
    have:=(hall 0 y rfl).2.2
    simp only[vL,Qy]
    rw[List.getElem!_eq_getElem?_getD]
    cases hq:(enc z)[0]? with
    | none=>grind
    | some u=>rw[hq] at this;exact this
  have hres:∀z H1,K4 cf vc caps (Fb c.H id) (Vl c.H id s' es) (vL agg ex) (vL agg ey)=some (.lit<|.int .i64 z,H1)->
   Calls P g (#[Qy agg<|enc x,Qy agg<|enc y]++cv) W λe w'=>e=.returned (.int .i64 z)/\∃q os',w'=grow (W.drewN q) os':=by
   intro z H1 hp
   unfold K4 at hp
   split at hp
   .have hargs':jQ (aG T) (Ko c W) ([vL agg ex,vL agg ey].map<|eK<|Fb c.H id)<|#[Qy agg<|enc x,Qy agg<|enc y]++cv:=by
     have hcv0:cv=#[]:=Array.eq_empty_of_size_eq_zero<|by simpa using hcv
     subst hcv0
     refine⟨by simp,λi z hz=>?_⟩
     rw[List.getElem?_map,Option.map_eq_some_iff] at hz
     obtain⟨z0,hz0,rfl⟩:=hz
     match i,hz0 with
     | 0,hz0=>cases hz0;exact⟨Qy agg<|enc x,rfl,IK hs hb hsame<|hrv x ex hex hexl⟩
     | 1,hz0=>cases hz0;exact⟨Qy agg<|enc y,rfl,IK hs hb hsame<|hrv y ey hey heyl⟩
     | i+2,hz0=>simp at hz0
    refine (hcf 0 vc g _ _ H1 (Ko c W) _ hp hvc (aBQ hs hb hsame) (Nat.zero_le _) hargs').mono λe w' hq=>?_
    obtain⟨v,c',rfl,rfl,_,_,hst,_,hr⟩:=hq
    exact⟨by rw[hr.lit_inv],aAk hst λk hk=>hst.frame k hk λid hid=>by cases hid⟩
   .rename_i c0 cr
    have hargs':jQ (aG T) (Ca c W id s' es) (vL agg ex::vL agg ey::c0::cr)<|#[Qy agg<|enc x,Qy agg<|enc y]++cv:=by
     refine⟨by simp[hcv];omega,λi z hz=>?_⟩
     match i,hz with
     | 0,hz=>cases hz;exact⟨Qy agg<|enc x,by rw[Array.getElem?_append_left<|by simp];rfl,Ny hs hb hsame hob<|hrv x ex hex hexl⟩
     | 1,hz=>cases hz;exact⟨Qy agg<|enc y,by rw[Array.getElem?_append_left<|by simp];rfl,Ny hs hb hsame hob<|hrv y ey hey heyl⟩
     | i+2,hz=>
      have hz1:(c0::cr)[i]?=some z:=by simpa using hz
      refine⟨vals i,?_,Ny hs hb hsame hob<|hcv2 i z hz1⟩
      rw[Array.getElem?_append_right<|by simp]
      simpa using hcv1 i z hz1
    have hsd:=R3 hs hb hsame hob
    refine (hcf _ vc g _ _ H1 (Ca c W id s' es) _ hp hvc hsd (Nat.le_refl _) hargs').mono λe w' hq=>?_
    obtain⟨v,c',rfl,rfl,_,_,hst,_,hr⟩:=hq
    refine⟨by rw[hr.lit_inv],aAk hst λk hk=>?_⟩
    by_cases hbk:∃i,(Ca c W id s' es).β i=some k
    .let⟨i,hi⟩:=hbk
     exact (hst.floor i<|hsd.dom i k hi).2.2 k hi
    .exact hst.frame k hk λi hi=>hbk ⟨i,hi⟩
  unfold Gs at hcg
  split at hcg
  .cases hcg
  rename_i p hp
  split at hcg
  .rename_i v hv
   split at hcg
   .rename_i k z
    split at hcg
    .cases hcg
     let⟨r1,H1⟩:=p
     simp only at hv
     subst hv
     exact hres _ H1 hp
    .cases hcg
   .cases hcg
  .cases hcg
 have main:=hL m enc henc_len henc_one _ (BF hsw) g cv b (off*s') cap d0 c.w (enters_of hf1 hf3 hcode) hcmp hH hblk<|by omega
 rw[hd0] at main
 refine main.mono λe w' ⟨he,q,os,hw⟩=>?_
 generalize hd:pdq (ltOf λ(x y:Fin<|m+1)=>N2 tb x.1 y.1) d0 0 (m+1) (Lib.bitLen<|m+1) true true=d at hw
 have hdsz:d.size=m+1:=by
  have h:=(pdq_sorts (ltOf λ(x y:Fin<|m+1)=>N2 tb x.1 y.1) (BF hsw) d0 0 (m+1) (Lib.bitLen<|m+1) true true (Nat.zero_le _) (by rw[hd0];exact Nat.le_refl _)<|Or.inl rfl).1.1
  rw[hd,hd0] at h
  exact h
 have hix:Z8 m tb=d.toList.map Fin.val:=by rw[<-hd];rfl
 rw[hix]
 generalize hes':es.take off++(d.toList.map Fin.val).map (yU []<|(es.drop off).take<|m+1)++es.drop (off+(m+1))=es'
 have htake:(es.take off).length=off:=by simp;omega
 have hmid:((d.toList.map Fin.val).map<|yU []<|(es.drop off).take<|m+1).length=m+1:=by simp[hdsz]
 have hlen':es'.length=es.length:=by
  rw[<-hes',List.length_append,List.length_append,htake,hmid,List.length_drop];omega
 have hget0:∀i,i<off->es'[i]?=es[i]?:=by
  intro i hi
  rw[<-hes',List.getElem?_append_left<|by rw[List.length_append];omega,List.getElem?_append_left<|by omega,List.getElem?_take,if_pos hi]
 have hget2:∀i,off+(m+1)<=i->es'[i]?=es[i]?:=by
  intro i hi
  rw[<-hes',List.getElem?_append_right<|by rw[List.length_append];omega,List.length_append,htake,hmid,List.getElem?_drop]
  congr 1
  omega
 have hget1:∀q (hq:q<m+1),es'[off+q]?=es[off+(d[q]'(by rw[hdsz];exact hq)).1]?:=by
  intro q hq
  have hk:=(d[q]'(by rw[hdsz];exact hq)).2
  let⟨e,he,_⟩:=hrow _ hk
  rw[<-hes',List.getElem?_append_left<|by rw[List.length_append];omega,List.getElem?_append_right<|by omega,htake,Nat.add_sub_cancel_left,List.getElem?_map,List.getElem?_map,Array.getElem?_toList,Array.getElem?_eq_getElem<|by rw[hdsz];exact hq,he]
  simp only[Option.map_some,Option.some.injEq]
  unfold yU
  rw[List.getElem?_take,if_pos hk,List.getElem?_drop,he]
 have hw1:(putRowK enc s' (Sort.ahead c.w q) b (off*s') d).heap[b]?=some (.cells (putCells _root_.id (off*s') (flatK enc s' d) cs) ty (0,0)):=by
  unfold putRowK putRow mapBlock
  simp[Array.getElem?_modify,Sort.ahead,hcs,onCells]
 have hother:∀k,k≠b->(putRowK enc s' (Sort.ahead c.w q) b (off*s') d).heap[k]?=c.w.heap[k]?:=by
  intro k hk
  unfold putRowK putRow mapBlock
  rw[Array.getElem?_modify,if_neg<|Ne.symm hk]
  rfl
 have hsize:(putRowK enc s' (Sort.ahead c.w q) b (off*s') d).heap.size=c.w.heap.size:=by
  unfold putRowK putRow mapBlock
  simp[Sort.ahead]
 have hcsz:(putCells _root_.id (off*s') (flatK enc s' d) cs).size=cs.size:=by simp[putCells]
 have hput:∀t,t<cs.size->(putCells _root_.id (off*s') (flatK enc s' d) cs)[t]?=if off*s'<=t/\t<off*s'+(m+1)*s' then some ((flatK enc s' d)[t-off*s']!) else cs[t]?:=by
  intro t ht
  unfold putCells
  rw[Array.getElem?_mapIdx,Array.getElem?_eq_getElem ht,size_flatK,hdsz]
  simp only[Option.map_some]
  split<;>rfl
 have hcells:∀i j x,bL es' i j=some x->∃v,(putCells _root_.id (off*s') (flatK enc s' d) cs)[i*s'+j]?=some v/\aY v=true/\RV (aG T) c x v:=by
  intro i j x hx
  let⟨e,hei,hej⟩:=dI hx
  have hi:i<es.length:=by
   rcases Nat.lt_or_ge i es'.length with h | h
   .omega
   .rw[List.getElem?_eq_none h] at hei;cases hei
  by_cases hin:off<=i/\i<off+(m+1)
  .obtain⟨q9,rfl⟩:∃q9,i=off+q9:=⟨i-off,by omega⟩
   have hq':q9<m+1:=by omega
   rw[hget1 q9 hq'] at hei
   have hk:=(d[q9]'(by rw[hdsz];exact hq')).2
   generalize hkk:(d[q9]'(by rw[hdsz];exact hq'))=k at hei hk
   have hel:e.length=s':=hlens e<|List.mem_of_getElem? hei
   have hj:j<s':=by
    rcases Nat.lt_or_ge j e.length with h | h
    .omega
    .rw[List.getElem?_eq_none h] at hej;cases hej
   let⟨v,h1,h2,h3⟩:=hcell (off+k.1) j x<|by rw[AE hei];exact hej
   refine⟨v,?_,h2,h3⟩
   have hle:(off+q9)*s'+s'<=es.length*s':=by
    have:(off+q9+1)*s'<=es.length*s':=Nat.mul_le_mul_right _<|by omega
    rw[Nat.add_mul _ 1,Nat.one_mul] at this
    exact this
   have hle2:q9*s'+s'<=(m+1)*s':=by
    have:(q9+1)*s'<=(m+1)*s':=Nat.mul_le_mul_right _<|by omega
    rw[Nat.add_mul q9 1,Nat.one_mul] at this
    exact this
   have e0:(off+q9)*s'=off*s'+q9*s':=Nat.add_mul _ _ _
   rw[hput _<|by omega,if_pos ⟨by omega,by omega⟩]
   have e1:(off+q9)*s'+j-off*s'=q9*s'+j:=by omega
   rw[e1,get_flatK _ _ _ _<|by rw[hdsz];omega]
   have e2:(q9*s'+j) / s'=q9:=by
    rw[Nat.mul_comm,Nat.mul_add_div<|by omega,Nat.div_eq_of_lt hj,Nat.add_zero]
   have e3:(q9*s'+j) % s'=j:=by
    rw[Nat.mul_comm,Nat.mul_add_mod,Nat.mod_eq_of_lt hj]
   rw[e2,e3]
   have e4:d[q9]! =k:=by
    rw[getElem!_pos d q9 (by rw[hdsz];exact hq')];exact hkk
   rw[e4,List.getElem!_eq_getElem?_getD,henc_at k j hj,h1]
   rfl
  .have hei':es[i]?=some e:=by
    rcases Nat.lt_or_ge i off with h | h
    .rw[<-hget0 i h];exact hei
    .rw[<-hget2 i<|by omega];exact hei
   have hel:e.length=s':=hlens e<|List.mem_of_getElem? hei'
   have hj:j<s':=by
    rcases Nat.lt_or_ge j e.length with h | h
    .omega
    .rw[List.getElem?_eq_none h] at hej;cases hej
   let⟨v,h1,h2,h3⟩:=hcell i j x<|by rw[AE hei'];exact hej
   refine⟨v,?_,h2,h3⟩
   have hle:i*s'+s'<=es.length*s':=by
    have:(i+1)*s'<=es.length*s':=Nat.mul_le_mul_right _<|by omega
    rw[Nat.add_mul i 1,Nat.one_mul] at this
    exact this
   rw[hput _<|by omega,if_neg,h1]
   rintro ⟨q1,q2⟩
   rcases Nat.lt_or_ge i off with h | h
   .have:(i+1)*s'<=off*s':=Nat.mul_le_mul_right _<|by omega
    rw[Nat.add_mul i 1,Nat.one_mul] at this
    omega
   .have:(off+(m+1))*s'<=i*s':=Nat.mul_le_mul_right _<|by omega
    rw[Nat.add_mul off] at this
    omega
 have hlens':∀e∈es',e.length=s':=by
  intro e he
  let⟨i,hi⟩:=List.getElem?_of_mem he
  rcases Nat.lt_or_ge i off with h | h
  .rw[hget0 i h] at hi;exact hlens e<|List.mem_of_getElem? hi
  .rcases Nat.lt_or_ge i (off+(m+1)) with h2 | h2
   .obtain⟨q9,rfl⟩:∃q9,i=off+q9:=⟨i-off,by omega⟩
    rw[hget1 q9<|by omega] at hi;exact hlens e<|List.mem_of_getElem? hi
   .rw[hget2 i h2] at hi;exact hlens e<|List.mem_of_getElem? hi
 have hst1:=qG (w':=putRowK enc s' (Sort.ahead c.w q) b (off*s') d) (es':=es') hs hfl hob hb hcs (by omega) hcsz hw1 hother hsize rfl rfl rfl<|Nat.le_add_right _ _
 have hsim1:=Az (w':=putRowK enc s' (Sort.ahead c.w q) b (off*s') d) (es':=es') hs hob hb hcs (by omega) hcsz hw1 hother hsize rfl rfl rfl hlens' (by rw[hcsz,hlen'];exact hfit) hcells<|Nat.le_add_right _ _
 generalize hc1:(⟨putRowK enc s' (Sort.ahead c.w q) b (off*s') d,c.X,c.β,c.H.set id<|.blk s' es'⟩:bV)=c1 at hst1 hsim1
 have hst2:=Q4 (c:=c1) (q:=0) (os:=os)
 refine⟨.tuple #[],nD c1 ⟨grow (Sort.ahead c1.w 0) os,(gV c1).X,λ_=>none,[]⟩,he,?_,?_,?_,hst1.trans<|tJ hsim1 hst2,Af hsim1 hst2,?_⟩
 .rw[hw,<-hc1]
  rfl
 .rw[<-hc1];rfl
 .rw[<-hc1];rfl
 .exact .tup [] #[] (λ_=>aW) rfl (λi x hx=>by simp at hx) λi x hx=>by simp at hx
end
end
section
variable {P:Program}{T:List bK}{n s vi id fl:Nat}{args args':List AV}{r:AV}{H H':aM}{α:Type}{c:α->List AV}{l:List α}
end
theorem YQ[aB]{P:Program}{T:List bK}{n vi:Nat}{a:List AV}{kk:IntKind}{z:Int}(h:pv P T n vi a=some (.lit<|.int kk z)): ∃H',dK P T n 0 vi a []=some (.lit<|.int kk z,H'):=by
 unfold pv at h;split at h
 .rename_i r H' he;simp only[Option.some.injEq] at h;refine⟨H',?_⟩;rw[he];cases r with
  | lit v=>
   simp only[gS,dS,gC,sS] at h;revert h;split
   .split
    .split
     .split
      .intro h;cases h
      .intro h;cases h
     .intro h;cases h
    .intro h;cases h
   .intro h;simp only[AV.lit.injEq] at h;rw[h]
  | agg cs=>simp[gS,dS] at h
  | tup cs=>simp[gS] at h
  | fn vi caps=>cases caps<;>simp[gS,dS,gC] at h
  | ms id tot off len=>
   simp only[gS,dS,gC,Nat.not_lt_zero,if_false,eZ,dZ,Nat.zero_le,if_true] at h;split at h<;>cases h
  | ptr=>simp[gS,dS,gC] at h
  | mp id=>
   simp only[gS,dS,gC,Nat.not_lt_zero,if_false,eZ,dZ,Nat.zero_le,if_true] at h;split at h<;>cases h
  | it=>simp[gS,dS,gC] at h
  | _=>simp[gS,dS,gC] at h
 .cases h
section
open Go.Sort
theorem Ah{α β:Type}{f g:α->Option β}(h:∀x y,f x=some y->g x=some y): ∀(l:List α) (r:List β),Kq (l.map f)=some r->Kq (l.map g)=some r
 | [],r,b=>b
 | x::l,r,b=>by
  simp only[List.map_cons,Kq] at b |-;split at b
  .cases b
  .rename_i a d;split at b
   .cases b
   .rename_i q c;rw[h x a d,Ah h l q c];exact b
theorem D6{β:Type}{f g:β->β->Option Int}(h:∀x y z,f x y=some z->g x y=some z){rows:List β}{tb:List<|List Int}(b:Nr f rows=some tb): Nr g rows=some tb:=
 Ah (λx r a=>Ah (λy z c=>h x y z c) rows r a) rows tb b
theorem K5{cf a:CF}(h:Le cf a){vc:Nat}{caps:List AV}{agg:Bool}{H c:aM}(x y:List AV)(z:Int)(b:Gs cf vc caps agg H c x y=some z): Gs a vc caps agg H c x y=some z:=by
 unfold Gs at b |-;split at b
 .cases b
 .rename_i p d;have:K4 a vc caps H c (vL agg x) (vL agg y)=some p:=by
   cases caps<;>exact h _ _ _ _ _ d
  rw[this];exact b
theorem QJ{cf:CF}{agg:Bool}{s fl id off m vc tot:Nat}{caps:List AV}{es:List<|List AV}{tb:List<|List Int}{H:aM}(f:fl<=id)(e:H[id]?=some (.blk s es))(b:es.length=tot)(c:off+(m+1)<=es.length)(a:es.length<=1000000)(d:Nr (Gs cf vc caps agg (Fb H id)<|Vl H id s es) ((es.drop off).take<|m+1)=some tb)(g:HA (m+1) tb=true):
 vQ cf agg s fl [.ms id tot off<|m+1,.fn vc caps] H=some (.tup [],H.set id<|.blk s<|es.take off++(Z8 m tb).map (yU []<|(es.drop off).take<|m+1)++es.drop (off+(m+1))):=by
 subst b;have h:Nat.ble fl id=true:=Nat.ble_eq_true_of_le f;have e2:Nat.beq es.length es.length=true:=Nat.beq_refl _;have k:Nat.ble (off+(m+1)) es.length=true:=Nat.ble_eq_true_of_le c;have i:Nat.ble es.length 1000000=true:=Nat.ble_eq_true_of_le a;have j:Nat.beq s s=true:=Nat.beq_refl _;have l:qU (.ms id es.length off<|m+1)=false:=rfl;simp only[vQ,h,e2,k,i,j,l,e,d,g,Bool.and_self]
theorem WF{agg:Bool}{s:Nat}(cf c:CF)(h:Le cf c)(fl:Nat)(a:List AV)(H:aM)(x:AV×aM)(j:vQ cf agg s fl a H=some x): vQ c agg s fl a H=some x:=by
 let⟨r,H'⟩:=x;rcases Sa j with⟨x,y,rfl,he,rfl,rfl⟩ | ⟨id,off,m,vc,caps,es,tb,rfl,g,f,d,b,e,i,rfl,rfl⟩
 .simp only[vQ,he]
 .exact QJ g f rfl d b (D6 (λx y z k=>K5 h x y z k) e) i
abbrev Ln(agg:Bool)(s:Nat): PC:=⟨λcf=>vQ cf agg s,WF⟩
def qX{α:Type}(F:α->α->Option Int)(l:List α): Option<|List α:=match l with
 | []=>some []
 | x::r=>match Nr F (x::r) with
  | none=>none
  | some tb=>match HA (r.length+1) tb with
   | false=>none
   | true=>some<|(Z8 r.length tb).map<|yU x (x::r)
theorem P6{α β:Type}{f:β->β->Option Int}{g:α->α->Option Int}{e:α->β}(h:∀x y z,g x y=some z->f (e x) (e y)=some z){l:List α}{tb:List<|List Int}(a:Nr g l=some tb): Nr f (l.map e)=some tb:=by
 unfold Nr at a |-;rw[List.map_map];refine Ah (f:=λx=>Kq<|l.map λy=>g x y) (g:=(λx=>Kq<|(l.map e).map λy=>f x y)∘e) (λx r c=>?_) l tb a;show Kq ((l.map e).map λy=>f (e x) y)=some r;rw[List.map_map];exact Ah (f:=λy=>g x y) (g:=(λy=>f (e x) y)∘e) (λy z b=>h x y z b) l r c
theorem YC{m:Nat}{tb:List<|List Int}{i:Nat}(h:i∈Z8 m tb): i<m+1:=by
 unfold Z8 at h;obtain⟨y,_,rfl⟩:=List.mem_map.1 h;exact y.2
theorem IZ{α β:Type}{e:α->β}{d:α}{d':β}{l:List α}{i:Nat}(a:i<l.length): yU d' (l.map e) i=e (yU d l i):=by
 unfold yU;rw[List.getElem?_map,List.getElem?_eq_getElem a];rfl
theorem R0{cf:CF}{agg:Bool}{s fl m:Nat}{a:List AV}{H H':aM}{r:AV}(c:fl<=m/\m<=H.length)(h:vQ cf agg s fl a H=some (r,H')): H'.take fl=H.take fl/\m<=H'.length:=by
 rcases Sa h with⟨x,y,rfl,he,rfl,rfl⟩ | ⟨id,off,m,vc,caps,es,tb,rfl,e,g,d,b,f,j,rfl,rfl⟩
 .exact⟨rfl,c.2⟩
 .refine⟨?_,by rw[List.length_set];exact c.2⟩;apply List.ext_getElem?;intro i;rw[List.getElem?_take,List.getElem?_take];split
  .rw[List.getElem?_set_ne<|by omega]
  .rfl
theorem aGn[aB]{P:Program}{T:List bK}{n vc:Nat}{agg:Bool}{H b:aM}{x y:List AV}{a:List AV}{z:Int}(c:[vL agg x,vL agg y].map (eK H)=a)(k:pv P T n vc a=some (.lit<|.int .i64 z)):
 Gs (dK P T n) vc [] agg H b x y=some z:=by
 let⟨H',h⟩:=YQ k;simp only[Gs,K4,c,h]
theorem NG{m:Nat}{tb:List<|List Int}(a:HA (m+1) tb=true): (Z8 m tb).length=m+1:=by
 have h:=(pdq_sorts (Go.Proofs.ltOf λ(x y:Fin<|m+1)=>N2 tb x.1 y.1) (BF a) (Array.ofFn λi=>i) 0 (m+1) (Lib.bitLen<|m+1) true true (Nat.zero_le _) (by simp)<|Or.inl rfl).1.1;unfold Z8;rw[List.length_map,Array.length_toList,h];simp
theorem IQ{α:Type}{F:α->α->Option Int}{l b:List α}(h:qX F l=some b): b.length=l.length:=by
 unfold qX at h;split at h
 .cases h;rfl
 .split at h
  .cases h
  split at h
  .cases h
  rename_i a;cases h;rw[List.length_map,NG a];rfl
theorem aDn{cf:CF}{vc:Nat}{caps:List AV}{agg:Bool}{H b:aM}{x y:List AV}{z:Int}(c:caps≠[])(h:∃H',cf b.length vc (vL agg x::vL agg y::caps) b=some (.lit<|.int .i64 z,H')):
 Gs cf vc caps agg H b x y=some z:=by
 let⟨H',h⟩:=h;cases caps with
 | nil=>exact absurd rfl c
 | cons a r=>simp only[Gs,K4,h]
end
end Go.Proofs.YtideamafblopcaaGreatDoor.Av
