/- A part of the proof of a law. -/
import Derived.Test.YtideamafblopcaaGreatDoorP1
import Derived.IntWalk
import Derived.Laws.BytesString
set_option maxRecDepth 100000
set_option maxHeartbeats 4000000
set_option linter.all false
namespace Go.Proofs.YtideamafblopcaaGreatDoor.Av
open Go
section
variable {P:Program}{T:List bK}{c:bV}{fl:Nat}{o:Oper}{a:Act}{tm:List AV}
theorem BC[aB]{FT:Nat->Option Nat}{x:AV}{v:Value}(h:RV FT c x v): RP c.w (mF c) (vJ x) v:=by
 cases h with
 | pure _ _ l=>
  have:=MR l;cases l with
  | undef v=>exact .undef v
  | lit v=>exact this
  | nil f a' cap A=>exact this
  | sl f es b off cap cc T o s a e i g j m q z y=>exact this
  | sptr cs b off cc T o a e i g j=>exact .sptr cs b off cc T o a e i g j
  | rmp d b es k a e i g j m q=>exact .rmp d b es k a e i g j m q
 | _=>exact .undef _
theorem jB[aB]{f:AV->AV}{es:List<|List AV}{i j:Nat}{x:AV}(h:bL (es.map λe=>e.map f) i j=some x): ∃y,bL es i j=some y/\x=f y:=by
 let⟨d,a,b⟩:=dI h;simp only[List.getElem?_map,Option.map_eq_some_iff] at a;obtain⟨e,he,rfl⟩:=a;simp only[List.getElem?_map,Option.map_eq_some_iff] at b;obtain⟨y,c,rfl⟩:=b;exact⟨y,by simp[bL,he,c],rfl⟩
theorem vW[aB](k:bJ (aG T) c)(F:fl<=c.H.length){s n cap:Nat}{es:List<|List AV}{cv:Array Value}{t:TypeId}{w':World}(pu:Bool)(q:es.length=n)(l:n<=cap)(K:pu=true->cap=n)(f:w'.heap=c.w.heap.push (.cells cv t (0,0)))(B:w'.os=c.w.os)(z:w'.tape=c.w.tape)(A:w'.output=c.w.output)(M:(execOp a.eval o).run P c.w=.ok (.value<|.slice (some ⟨c.w.heap.size,0,none⟩) n cap) w')(m:cv.size=cap*s)(L:∀e∈es,e.length=s)(D:∀i j x,bL es i j=some x->∃v,cv[i*s+j]?=some v/\aY v=true/\RV (aG T) c x v)(V:c.w.drawn<=w'.drawn:=by first | exact Nat.le_refl _ | exact Nat.le_succ _ | exact Nat.le_add_right _ _ | assumption):
 cZ P (aG T) c fl o a (if pu then .sl true (es.map λe=>e.map vJ) else .ms c.H.length n 0 n)<|if pu then c.H else c.H++[.blk s es]:=by
 cases pu with
 | true=>
  have u:=K rfl;subst u;simp only[if_true];have r:=IM (fl:=fl) k f B z A;refine eC (β':=c.β) M r (R2 k f B z A)<|.pure _ _ ?_;have p:mF ⟨w',c.X,c.β,c.H⟩ c.w.heap.size:=⟨k.fresh _<|Nat.le_refl _,λid C=>by have:=k.lt C;omega⟩;by_cases he:es=[]
  .subst he;simp only[List.length_nil] at q;subst q;exact .nil true _ 0 λ_=>rfl
  .have d:(es.map λe=>e.map vJ).length=cap:=by simpa using q
   have:=RP.sl (w:=w') (I:=mF ⟨w',c.X,c.β,c.H⟩) true (es.map λe=>e.map vJ) c.w.heap.size 0 cap cv t (0,0) s (λi j=>(cv[i*s+j]?).getD aW) (by simpa using he) p
    (by simp[f]) (λe he=>by simp only[List.mem_map] at he;obtain⟨U,S,rfl⟩:=he;simpa using L U S) (by omega) (λ_=>d.symm)
    (λi j x J=>by
     obtain⟨y,G,rfl⟩:=jB J;let⟨v,E,Q,N⟩:=D i j y G;simp[E,Q])
    (λi j x J=>by
     obtain⟨y,G,rfl⟩:=jB J;let⟨v,E,Q,N⟩:=D i j y G;simp only[E,Option.getD_some];exact BC<|N.step r)
   rw[d] at this;exact this
 | false=>
  simp only[Bool.false_eq_true,if_false];refine eC (β':=upd c.β c.H.length c.w.heap.size) M (Ec F f B z A λid b R=>k.lt R)
   (Zm k f B z A ?_ ?_ ?_ λ_ h=>by cases h) ?_
  .intro s' es' he;cases he;exact L
  .intro s' es' he;cases he;exact⟨cv,t,rfl,by rw[m,q];exact Nat.mul_le_mul_right s l,D⟩
  .intro O he;cases he
  .refine .ms _ n 0 n _ cap s n (by simp[shp,q]) (Nat.le_refl _) l λ_=>⟨by omega,.inr ⟨c.w.heap.size,cv,t,⟨c.w.heap.size,0,none⟩,dG _ _ _,by simp[f],by simp[m],rfl,λ_=>by simp⟩⟩
theorem XM[aB](K:bJ (aG T) c)(N:TR (aG T) c tm a.tmps)(p:fl<=c.H.length){pu:Bool}{s n:Nat}{z:List Value}{D:List<|Nat×aQ}{d:Array<|Nat×Operand}{t e:TypeId}{es:List<|List AV}(R:o.op=.buildSlice t n d)(S:P.underlying t=some (.slice e))(J:cT P e s=true)(V:jR P e z=true)(E:z.length=s)(F:0<s)(Z:n*s<=2 ^ 24)(W:Gu T D d.toList=true)(X:Ga s (List.replicate n<|z.map .lit) (D.map λ(i,x)=>(i,aC tm x))=some es):
 cZ P (aG T) c fl o a (if pu then .sl true (es.map λe=>e.map vJ) else .ms c.H.length n 0 n)<|if pu then c.H else c.H++[.blk s es]:=by
 let⟨i,L,b⟩:=dR J;let⟨i',v,k,hv,G,M⟩:=gA V;rw[L] at k;cases k;have C:v.cells.toList=z:=by rw[G]
 have q:=Bc (FT:=aG T) (c:=c) (n:=n) (m:=n) E M C<|Nat.le_refl _;have y:A5 (aG T) c s (List.replicate n<|z.map AV.lit)<|(Array.range<|n*s).map (v.cells[· % v.cells.size]!):=⟨by simp,q.1,q.2⟩;let⟨hl,r,Q,A⟩:=TZ K N D d.toList _ es _ W y X;have g:es.length=n:=by simpa using hl
 have I:(d.map λ(i,x)=>(i,a.eval x)).toList=d.toList.map λ(i,x)=>(i,a.eval x):=by simp
 by_cases l:n=0
 .subst l;have he:es=[]:=List.eq_nil_of_length_eq_zero g;subst he;have U:r=#[]:=Array.eq_empty_of_size_eq_zero (by simpa using A.1);subst U;refine vW K p pu (cap:=0) (cv:=#[]) (t:=e) (w':=c.w.alloc<|.cells #[] e (0,0)) rfl (Nat.le_refl _) (λ_=>rfl) rfl rfl rfl rfl ?_ (by simp) (by simp) (λi j x Y=>by simp[bL] at Y);have O:Array.range 0=#[]:=rfl;have B:Instr.fill (λi=>some (i*s,s)) #[] (d.toList.map λx=>(x.fst,a.eval x.snd))=some #[]:=by simpa [O] using Q
  simp[execOp,R,Instr.buildSlice,run_underlying S,sizeOf,typeInfo,L,b,B,newRow,O]
 .refine vW K p pu (cap:=n) (cv:=r) (t:=e) (w':=c.w.alloc<|.cells r e (0,0)) g (Nat.le_refl _) (λ_=>rfl) rfl rfl rfl rfl ?_ (by rw[A.1,g]) A.2.1 A.2.2;have u:=run_buildSlice (P:=P) c.w t e n (d.map λ(i,x)=>(i,a.eval x)) r i v S L hv (by rw[b];omega)
   (by rw[b];exact Nat.ne_of_gt<|Nat.mul_pos (Nat.pos_of_ne_zero l) F)<|by rw[I,b];exact Q
  simp only[execOp,R,Sem.run_bind,u,Result.andThen_ok,Sem.run_pure]
theorem Al{n:Nat}(h:n<=2 ^ 40): IntKind.i64.wrap (n:Int)=n:=by
 exact IntWalk.i64_in _<|by omega
theorem XJ[aB](K:bJ (aG T) c)(p:TR (aG T) c tm a.tmps)(M:fl<=c.H.length){s bytes l k:Nat}{z:List Value}{x y:aQ}{Q R:Operand}{t e:TypeId}(ho:o.op=.makeSlice t Q R)(h1:aN T x Q=true)(h2:aN T y R=true)(V:P.underlying t=some (.slice e))(I:cT P e s=true)(E:qE P e bytes=true)(U:jR P e z=true)(F:0<s)(Y:fA (aC tm x)=some l)(hk:fA (aC tm y)=some k)(f:l<=k)(O:k*bytes<=2 ^ 40)(q:k<=2 ^ 40)(A:z.length=s):
 cZ P (aG T) c fl o a (.ms c.H.length l 0 l)<|c.H++[.blk s<|List.replicate l<|z.map .lit]:=by
 let⟨i,h,r⟩:=dR I;let⟨i',v,g,hv,G,N⟩:=gA U;rw[h] at g;cases g;have J:v.cells.toList=z:=by rw[G]
 have b:i.bytes=bytes:=by simpa [qE,h] using E
 let⟨k1,X⟩:=pQ (aR K p h1) Y;let⟨k2,e2⟩:=pQ (aR K p h2) hk;let⟨p1,p2⟩:=Bc (FT:=aG T) (c:=c) (n:=l) (m:=k) A N J f;have:=vW (P:=P) (o:=o) (a:=a) K M false (cap:=k) (cv:=(Array.range<|k*s).map (v.cells[· % v.cells.size]!)) (t:=e) (es:=List.replicate l<|z.map AV.lit)
  (w':=c.w.alloc<|.cells ((Array.range<|k*s).map (v.cells[· % v.cells.size]!)) e (0,0)) (n:=l) (s:=s) (by simp) f (by simp) rfl rfl rfl rfl ?_ (by simp) p1 p2
 .simpa using this
 .have S:=Al (n:=l) (by omega);have Z:=Al (n:=k) q;have C:¬(281474976710656:Int)<(bytes:Int)*(k:Int):=by
   rw[<-Int.natCast_mul,Nat.mul_comm];omega
  have u:¬(k:Int)<(l:Int):=by omega
  have L:¬(l:Int)<0:=by omega
  have B:¬(k:Int)<0:=by omega
  simp[L,B,execOp,ho,Instr.makeSlice,run_underlying V,asInt,asIntOf,X,e2,typeInfo,h,b,S,Z,C,u];by_cases j:k=0
  .subst j;have W:Array.range 0=#[]:=rfl;simp[sizeOf,typeInfo,h,r,W,newRow]
  .simp[sizeOf,typeInfo,h,r,zeroValue,hv,newRow];intro h0;have:=Nat.mul_pos (Nat.pos_of_ne_zero j) F;omega
def ZL(v:Option Value)(n:Option Nat): Prop:=(v=none/\n=none)\/∃k m,v=some (.int k (m:Nat))/\n=some m
theorem uM[aB](e:bJ (aG T) c)(d:TR (aG T) c tm a.tmps){x:Option aQ}{y:Option Operand}{n:Option Nat}(h:qW T x y=true)(b:cU tm x=some n): ZL (y.map a.eval) n:=by
 unfold qW at h;split at h
 .simp only[cU,Option.some.injEq] at b;subst b;exact .inl ⟨rfl,rfl⟩
 .rename_i x y;simp only[cU] at b;split at b
  .rename_i m f;cases b;let⟨k,g⟩:=pQ (aR e d h) f;exact .inr ⟨k,m,by simp[g],rfl⟩
  .cases b
 .cases h
theorem BJ{k:IntKind}{m y:Nat}{b:BoundsCode}(h:m<=y)(w:World): (Instr.sliceBound (.int k (m:Nat)) y b).run P w=.ok m w:=by
 have c:(m:Int)<=(y:Int):=by omega
 simp[Instr.sliceBound,asIntOf,c]
theorem Cl[aB]{isS:Bool}{len cap:Nat}{c b vmx:Option Value}{e d mx:Option Nat}(i:ZL c e)(j:ZL b d)(k:ZL vmx mx)(h:mx.getD cap<=cap)(g:d.getD len<=mx.getD cap)(f:e.getD 0<=d.getD len)(l:mx.isSome=true->d.isSome=true)(w:World):
 (Instr.sliceBounds isS len cap c b vmx).run P w=.ok (e.getD 0,d.getD len,mx.getD cap) w:=by
 unfold Instr.sliceBounds;rcases k with⟨rfl,rfl⟩ | ⟨o,p,rfl,rfl⟩<;>rcases j with⟨rfl,rfl⟩ | ⟨m,n,rfl,rfl⟩<;>rcases i with⟨rfl,rfl⟩ | ⟨q,r,rfl,rfl⟩<;>simp at h g f l |- <;>
  simp[BJ,h,g,f]
theorem iX[aB]{t e:TypeId}{s len cap:Nat}{ad:Option Addr}{c f vmx:Option Value}{b d mx:Option Nat}(m:P.underlying t=some (.slice e))(j:cT P e s=true)(q:ZL c b)(o:ZL f d)(l:ZL vmx mx)(p:mx.getD cap<=cap)(n:d.getD len<=mx.getD cap)(k:b.getD 0<=d.getD len)(r:mx.isSome=true->d.isSome=true)(w:World):
 (Instr.sliceAt t (.slice ad len cap) c f vmx).run P w =
  .ok (.slice (if mx.getD cap=b.getD 0 then ad else ad.map (·.add<|b.getD 0*s)) (d.getD len-b.getD 0)<|mx.getD cap-b.getD 0) w:=by
 let⟨i,g,h⟩:=dR j;simp[Instr.sliceAt,Instr.slice,run_underlying m,Cl q o l p n k r,sizeOf,typeInfo,g,h]
theorem DU{s s':Nat}{es:List<|List AV}(h:fV s es=true)(b:∀e∈es,e.length=s')(a:es≠[]): s'=s:=by
 cases es with
 | nil=>exact (a rfl).elim
 | cons e r=>
  simp only[fV,beq_iff_eq] at h;rw[<-b e<|by simp,h]
theorem Ih[aB]{es:List<|List AV}{h l i j:Nat}{x:AV}(c:bL ((es.take h).drop l) i j=some x): bL es (l+i) j=some x:=by
 let⟨e,a,b⟩:=dI c;rw[List.getElem?_drop,List.getElem?_take] at a;split at a
 .simp[bL,a,b]
 .cases a
theorem S8[aB]{w:World}{I:Nat->Prop}{f g:Bool}{es:List<|List AV}{s l h m len cap:Nat}{ad:Option Addr}(r:RP w I (.sl f es)<|.slice ad len cap)(y:fV s es=true)(C:l<=h)(B:h<=m)(n:h<=es.length)(q:g=true->m=h):
 RP w I (.sl g<|(es.take h).drop l)<|.slice (if m=l then ad else ad.map (·.add<|l*s)) (h-l)<|m-l:=by
 by_cases he:h=l
 .subst he;have:(es.take h).drop h=[]:=List.drop_eq_nil_of_le (by simp;omega);rw[this,Nat.sub_self];exact .nil g _ _ λe=>by have:=q e;omega
 .cases r with
  | nil=>simp at n;omega
  | sl _ _ b off _ cc T D s' d v A t p F E z u=>
   have es':s'=s:=DU y p v;subst es';have a:((es.take h).drop l).length=h-l:=by simp;omega
   rw[if_neg<|by omega,<-a];simp only[Option.map_some,fS];refine .sl g _ b (off+l*s') (m-l) cc T D s' (λi j=>d (l+i) j) ?_ A t ?_ (by omega) (λe=>by have:=q e;omega) ?_ ?_
   .intro e;rw[e] at a;simp at a;omega
   .intro e k;exact p e<|List.mem_of_mem_take<|List.mem_of_mem_drop k
   .intro i j x o;have:=z _ _ x<|Ih o;rwa [show off+((l+i)*s'+j)=off+l*s'+(i*s'+j) by rw[Nat.add_mul];omega] at this
   .intro i j x o;exact u _ _ x<|Ih o
theorem WS{w:World}{I:Nat->Prop}{f:Bool}{es:List<|List AV}{v:Value}(c:RP w I (.sl f es) v): ∃ad cap,v=.slice ad es.length cap/\es.length<=cap/\(f=true->cap=es.length):=by
 cases c with
 | nil _ ad cap d=>exact⟨ad,cap,rfl,Nat.zero_le _,d⟩
 | sl _ _ b off cap cc T l s' a h m k i g e n j=>exact⟨_,cap,rfl,g,e⟩
theorem O4[aB]{FT:Nat->Option Nat}{es:List<|List AV}{s l h m cap:Nat}{ad:Option Addr}(r:RV FT c (.vw es)<|.slice ad es.length cap)(y:fV s es=true)(C:l<=h)(B:h<=m)(n:h<=es.length):
 RV FT c (.vw<|(es.take h).drop l)<|.slice (if m=l then ad else ad.map (·.add<|l*s)) (h-l)<|m-l:=by
 by_cases he:h=l
 .subst he;have:(es.take h).drop h=[]:=List.drop_eq_nil_of_le (by simp;omega);rw[this,Nat.sub_self];exact .vnil _ _
 .let⟨ad',cap',e1,_,d1⟩:=r.vw_inv;cases e1;rcases d1 with rfl | ⟨b,off,cc,Ty,fz,s',a2,rfl,g2,g3,g4,g7,g8⟩
  .simp at n;omega
  .have a:((es.take h).drop l).length=h-l:=by simp;omega
   have es':s'=s:=DU y g4 (by intro e;subst e;simp at n;omega);subst es'
   rw[if_neg<|by omega,<-a];simp only[Option.map_some,fS];refine .vw _ b (off+l*s') (m-l) cc Ty fz s' (λi j=>a2 (l+i) j) ?_ g2 g3 ?_ (by omega) ?_ ?_
   .intro e;rw[e] at a;simp at a;omega
   .intro e k;exact g4 e<|List.mem_of_mem_take<|List.mem_of_mem_drop k
   .intro i j x o;have:=g7 _ _ x<|Ih o;rwa [show off+((l+i)*s'+j)=off+l*s'+(i*s'+j) by rw[Nat.add_mul];omega] at this
   .intro i j x o;exact g8 _ _ x<|Ih o
theorem V5[aB](D:bJ (aG T) c)(N:TR (aG T) c tm a.tmps){x:aQ}{y:Operand}{lo hi mx:Option aQ}{U W X:Option Operand}{t e:TypeId}{s:Nat}{k z a3:Option Nat}{v:AV}(ho:o.op=.slice t y U W X)(h0:aN T x y=true)(h1:qW T lo U=true)(h2:qW T hi W=true)(h3:qW T mx X=true)(R:P.underlying t=some (.slice e))(q:cT P e s=true)(n1:cU tm lo=some k)(n2:cU tm hi=some z)(n3:cU tm mx=some a3)(g:eQ c.H s (aC tm x) k z a3=some v): cZ P (aG T) c fl o a v c.H:=by
 have F:=aR D N h0;have O:=uM D N h1 n1;have Q:=uM D N h2 n2;have M:=uM D N h3 n3;have l:∀(u r:Value),a.eval y=u->(Instr.sliceAt t u (U.map a.eval) (W.map a.eval)<|X.map a.eval).run P c.w=.ok r c.w->(execOp a.eval o).run P c.w=.ok (.value r) c.w:=by
  intro u r b3 hr;subst b3;simp only[execOp,ho,Sem.run_bind,hr,Result.andThen_ok,Sem.run_pure]
 unfold eQ at g;split at g
 .rename_i B;rw[B] at F;split at g
  .rename_i p;cases g;let⟨E,c2,S,c4⟩:=p;refine bM (cv:=aZ) D ?_<|RV.lit _;have:=iX (P:=P) (ad:=none) (len:=0) (cap:=0) R q O Q M (by omega) (by omega) (by omega) (by simpa using c4) c.w;simp only[execOp,ho,F.lit_inv,Sem.run_bind,this,Result.andThen_ok,Sem.run_pure,E,c2,S];rfl
  .cases g
 .rename_i f es B;rw[B] at F;have hp:=F.sl_inv;let⟨ad,cap,n,I,V⟩:=WS hp;rw[n] at hp;split at g
  .simp only[] at g;split at g
   .rename_i p;cases g;have d:=iX (P:=P) (ad:=ad) (len:=es.length) (cap:=cap) R q O Q M (by simp) (by simp;omega) (by simpa using p.1) (by simp) c.w;refine bM D (l _ _ n d)<|.pure _ _<|S8 (m:=cap) hp p.2.2 p.1 (by omega) p.2.1 ?_;intro e;simp only[Bool.and_eq_true,beq_iff_eq] at e;rw[V e.1,e.2]
   .cases g
  .rename_i m;split at g
   .cases g
   .rename_i h;simp only[] at g;split at g
    .rename_i p;cases g;have d:=iX (P:=P) (ad:=ad) (len:=es.length) (cap:=cap) R q O Q M (by simp;omega) (by simp;omega) (by simpa using p.1) (by simp) c.w;refine bM D (l _ _ n d)<|.pure _ _ ?_;simp only[Option.getD_some];refine S8 hp p.2.2.2 p.1 p.2.1 (by omega) ?_;intro e;simpa using (beq_iff_eq.1 e).symm
    .cases g
 .rename_i es B;rw[B] at F;let⟨ad,cap,n,I,d1⟩:=F.vw_inv;rw[n] at F;split at g
  .simp only[] at g;split at g
   .rename_i p;cases g;let⟨E,c2,S⟩:=p;have d:=iX (P:=P) (ad:=ad) (len:=es.length) (cap:=cap) R q O Q M (by simp) (by simp;omega) (by simpa using E) (by simp) c.w;refine bM D (l _ _ n d) ?_;simp only[Option.getD_none];exact O4 F S E (by omega) c2
   .cases g
  .rename_i m;split at g
   .cases g
   .rename_i h;split at g
    .rename_i p;cases g;obtain⟨E,rfl,rfl⟩:=p;have d:=iX (P:=P) (ad:=ad) (len:=es.length) (cap:=cap) R q O Q M (by simp) (by simp) (by simp[E]) (by simp) c.w;refine bM D (l _ _ n d) ?_;simp only[Option.getD_some,E,Nat.sub_zero];exact .pure _ _<|.nil true _ 0 λ_=>rfl
    .split at g
     .rename_i p;cases g;obtain⟨E,e2,e3,S⟩:=p;have d:=iX (P:=P) (ad:=ad) (len:=es.length) (cap:=cap) R q O Q M (by simp;omega) (by simp;omega) (by simpa using E) (by simp) c.w;refine bM D (l _ _ n d) ?_;simp only[Option.getD_some];exact O4 F S E e2 (by omega)
     .cases g
 .rename_i id tot off len B;rw[B] at F;let⟨ad,cap,s0,n0,n,g1,g2,g3,g4⟩:=F.ms_inv;split at g
  .simp only[] at g;split at g
   .rename_i s' es G;split at g
    .rename_i p;cases g;let⟨E,c2,rfl⟩:=p;rw[fL G] at g1;cases g1;have d:=iX (P:=P) (ad:=ad) (len:=len) (cap:=cap) R q O Q M (by simp) (by simp;omega) (by simpa using E) (by simp) c.w;refine bM D (l _ _ n d) ?_;simp only[Option.getD_none];refine .ms id tot _ _ _ _ s0 _ (fL G) g2 (by omega) λet=>?_;let⟨m1,m2⟩:=g4 et;refine⟨by omega,?_⟩;rcases m2 with⟨L,K,J,Y⟩ | ⟨b,cc,Ty,a',L,K,J,Y,m7⟩
     .subst J;exact .inl ⟨L,K,by split<;>rfl,by omega⟩
     .refine .inr ⟨b,cc,Ty,if cap=k.getD 0 then a' else a'.add (k.getD 0*s0),L,K,?_,?_,?_⟩
      .rw[<-J];congr 1;omega
      .subst Y;split<;>rfl
      .intro A;rw[if_neg<|by omega,m7<|by omega,fS,Nat.add_mul]
    .split at g
     .rename_i p;cases g;let⟨E,c2,S,c4,rfl⟩:=p;rw[fL G] at g1;cases g1;let⟨m1,m2⟩:=g4 S.symm;have I:z.getD len<=cap:=by
       rcases m2 with⟨L,K,J,Y⟩ | ⟨b,cc,Ty,a',L,K,J,Y,m7⟩
       .omega
       .let⟨e3,d3,q1,q2,q3⟩:=D.blk id _ es b G L;rw[K] at q1;cases q1;rw[<-J] at q2;have:=Nat.le_of_mul_le_mul_right q2 c4;omega
      have d:=iX (P:=P) (ad:=ad) (len:=len) (cap:=cap) R q O Q M (by simp) (by simpa using I) (by simpa using E) (by simp) c.w;refine bM D (l _ _ n d) ?_;simp only[Option.getD_none];refine .ms id tot _ _ _ _ s0 _ (fL G) g2 (by omega) λet=>?_;refine⟨by omega,?_⟩;rcases m2 with⟨L,K,J,Y⟩ | ⟨b,cc,Ty,a',L,K,J,Y,m7⟩
      .subst J;exact .inl ⟨L,K,by split<;>rfl,by omega⟩
      .refine .inr ⟨b,cc,Ty,if cap=k.getD 0 then a' else a'.add (k.getD 0*s0),L,K,?_,?_,?_⟩
       .rw[<-J];congr 1;omega
       .subst Y;split<;>rfl
       .intro A;rw[if_neg<|by omega,m7<|by omega,fS,Nat.add_mul]
     .cases g
   .cases g
  .rename_i m;split at g
   .cases g
   .rename_i h;simp only[] at g;split at g
    .rename_i p;cases g;let⟨E,c2,S⟩:=p;have d:=iX (P:=P) (ad:=ad) (len:=len) (cap:=cap) R q O Q M (by simp;omega) (by simp;omega) (by simp;omega) (by simp) c.w;refine bM D (l _ _ n d) ?_;simp only[Option.getD_some];have e1:h-k.getD 0=0:=by omega
     have e2:m-k.getD 0=0:=by omega
     rw[e1,e2];exact .pure _ _<|.nil true _ 0 λ_=>rfl
    .split at g
     .rename_i p;cases g;let⟨E,c2,S⟩:=p;have d:=iX (P:=P) (ad:=ad) (len:=len) (cap:=cap) R q O Q M (by simp;omega) (by simp;omega) (by simp;omega) (by simp) c.w;exact bM D (l _ _ n d)<|RV.undef _
     .cases g
 .cases g
end
section
variable {P:Program}{T:List bK}{c:bV}{fl:Nat}{o:Oper}{a:Act}{tm:List AV}
theorem RW[aB](i:bJ (aG T) c)(e:TR (aG T) c tm a.tmps){x:aQ}{y:Operand}{j l:Option aQ}{h g:Option Operand}{t:TypeId}{d b:Option Nat}{s:ByteArray}(B:o.op=.slice t y h g none)(v:aN T x y=true)(q:qW T j h=true)(r:qW T l g=true)(u:P.underlying t=some .string)(z:cU tm j=some d)(p:cU tm l=some b)(A:aC tm x=.lit (.string s))(k:d.getD 0<=b.getD s.size/\b.getD s.size<=s.size):
 cZ P (aG T) c fl o a (.lit<|.string<|s.extract (d.getD 0)<|b.getD s.size) c.H:=by
 have m:=aR i e v;rw[A] at m;have C:=uM i e q z;have n:=uM i e r p;refine bM (cv:=.string<|s.extract (d.getD 0)<|b.getD s.size) i ?_<|RV.lit _;have:=Cl (P:=P) (isS:=false) (len:=s.size) (cap:=s.size) (vmx:=none) (mx:=none) C n (.inl ⟨rfl,rfl⟩) (by simp) (by simpa using k.2) k.1 (by simp) c.w;simp[execOp,B,m.lit_inv,Instr.sliceAt,Instr.slice,run_underlying u,this]
theorem HD{α β:Type}(x:Sem α)(f:α->Sem β): aK P (x.bind f)=(aK P x).bind λa=>aK P<|f a:=by
 induction x with
 | pure a=>rfl
 | program k b=>simp only[Sem.bind,aK];exact b P
 | mark m k b=>simp only[Sem.bind,aK];exact b
 | _=>rfl
theorem cA[aB]{α β:Type}(x:Sem α)(f:α->Sem β): aK P (x >>= f)=(aK P x).bind λa=>aK P<|f a:=HD x f
theorem cQ{α:Type}(x:α): aK P (pure x:Sem α)=some x:=rfl
theorem Wl{α:Type}{p:Prop}[Decidable p](x y:Sem α): aK P (if p then x else y)=if p then aK P x else aK P y:=by split<;>rfl
theorem Xd[aB]{kind:TypeDesc}{k:Value}: ∀(c b:List MapEntry) (i:Nat),c.map (·.key)=b.map (·.key)->
 (Instr.findNow kind k c i).map (·.map (·.1))=(Instr.findNow kind k b i).map (·.map (·.1))
 | [],[],_,_=>rfl
 | f::d,e2::e,i,h=>by
  simp only[List.map_cons,List.cons.injEq] at h;simp only[Instr.findNow,h.1];split
  .rfl
  .exact Xd d e (i+1) h.2
  .rfl
 | [],_::_,_,h=>by cases h
 | _::_,[],_,h=>by cases h
theorem Xc[aB]{kind:TypeDesc}{k v:Value}{j:Nat}: ∀(es:List MapEntry) (i:Nat),Instr.findNow kind k es i=some (some (j,v))->i<=j/\∃e,es[j-i]?=some e/\v=e.val
 | [],_,h=>by cases h
 | e::r,i,h=>by
  simp only[Instr.findNow] at h;split at h
  .cases h;exact⟨Nat.le_refl _,e,by simp,rfl⟩
  .let⟨f,c,b,d⟩:=Xc r (i+1) h;refine⟨by omega,c,?_,d⟩;have:j-i=(j-(i+1))+1:=by omega
   rw[this,List.getElem?_cons_succ];exact b
  .cases h
theorem Fz[aB]{kt:TypeId}{k:Value}: ∀(d c:List MapEntry) (i:Nat),d.map (·.key)=c.map (·.key)->
 (aK P<|Instr.findAsking kt k d i).map (·.map (·.1))=(aK P<|Instr.findAsking kt k c i).map (·.map (·.1))
 | [],[],_,_=>rfl
 | g::e,e2::f,i,h=>by
  simp only[List.map_cons,List.cons.injEq] at h;simp only[Instr.findAsking,h.1,cA,Wl,cQ];cases aK P (Op.equal kt k e2.key) with
  | none=>rfl
  | some b=>
   simp only[Option.bind_some];split
   .rfl
   .exact Fz e f (i+1) h.2
 | [],_::_,_,h=>by cases h
 | _::_,[],_,h=>by cases h
theorem Fy[aB]{kt:TypeId}{k v:Value}{j:Nat}: ∀(es:List MapEntry) (i:Nat),aK P (Instr.findAsking kt k es i)=some (some (j,v))->i<=j/\∃e,es[j-i]?=some e/\v=e.val
 | [],_,h=>by simp[Instr.findAsking,cQ] at h
 | e::r,i,h=>by
  simp only[Instr.findAsking,cA,Wl,cQ] at h;cases c:aK P (Op.equal kt k e.key) with
  | none=>rw[c] at h;cases h
  | some b=>
   rw[c] at h;simp only[Option.bind_some] at h;split at h
   .cases h;exact⟨Nat.le_refl _,e,by simp,rfl⟩
   .let⟨l,d,g,f⟩:=Fy r (i+1) h;refine⟨by omega,d,?_,f⟩;have:j-i=(j-(i+1))+1:=by omega
    rw[this,List.getElem?_cons_succ];exact g
theorem uC[aB]{t:TypeId}: aK P (underlying t)=P.underlying t:=by
 unfold underlying;rw[cA];have:aK P program=some P:=rfl;rw[this];simp only[Option.bind_some];split
 .rename_i h;rw[h];rfl
 .rename_i h;rw[h];rfl
theorem Xf[aB]{kt:TypeId}{k:Value}{c b:List MapEntry}(h:c.map (·.key)=b.map (·.key)):
 (aK P<|Instr.findKey kt k c).map (·.map (·.1))=(aK P<|Instr.findKey kt k b).map (·.map (·.1)):=by
 simp only[Instr.findKey,cA,uC];cases P.underlying kt with
 | none=>rfl
 | some d=>
  simp only[Option.bind_some];have e:=Xd (kind:=d) (k:=k) c b 0 h;cases g:Instr.findNow d k c 0 with
  | none=>
   cases f:Instr.findNow d k b 0 with
   | none=>exact Fz c b 0 h
   | some i=>rw[g,f] at e;cases e
  | some j=>
   cases f:Instr.findNow d k b 0 with
   | none=>rw[g,f] at e;cases e
   | some i=>rw[g,f] at e;exact e
theorem TW[aB]{kt:TypeId}{k v:Value}{j:Nat}{es:List MapEntry}(h:aK P (Instr.findKey kt k es)=some (some (j,v))): ∃e,es[j]?=some e/\v=e.val:=by
 simp only[Instr.findKey,cA,uC] at h;cases f:P.underlying kt with
 | none=>rw[f] at h;cases h
 | some d=>
  rw[f] at h;simp only[Option.bind_some] at h;split at h
  .rename_i r g;simp only[cQ,Option.some.injEq] at h;subst h;let⟨_,e,b,c⟩:=Xc es 0 g;exact⟨e,by simpa using b,c⟩
  .let⟨_,e,b,c⟩:=Fy es 0 h;exact⟨e,by simpa using b,c⟩
def Ak(FT:Nat->Option Nat)(c:bV)(ents:List<|Value×AV)(es:Array MapEntry): Prop:=
 es.size=ents.length/\∀(i:Nat) (k:Value) (x:AV),ents[i]?=some (k,x)->∃e,es[i]?=some e/\e.key=k/\RV FT c x e.val
theorem EQ{FT:Nat->Option Nat}{a:List<|Value×AV}{es:Array MapEntry}(h:Ak FT c a es):
 (a.map λe=>({ key:=e.1,val:=.bool false,born:=0 }:MapEntry)).map (·.key)=es.toList.map (·.key):=by
 apply List.ext_getElem?;intro i;simp only[List.map_map,List.getElem?_map];cases he:a[i]? with
 | none=>
  have:es.toList[i]?=none:=by
   rw[List.getElem?_eq_none_iff] at he |-;simp only[Array.length_toList,h.1];exact he
  rw[this];rfl
 | some p=>
  let⟨k,x⟩:=p;let⟨e,g,f,_⟩:=h.2 i k x he;have:es.toList[i]?=some e:=by simpa using g
  rw[this];simp[f]
theorem Mi[aB]{FT:Nat->Option Nat}{kt:TypeId}{k:Value}{a:List<|Value×AV}{es:Array MapEntry}{i:Nat}(h:Ak FT c a es)(f:jL P kt k a=some (some i))(w:World):
 ∃e,es[i]?=some e/\(Instr.findKey kt k es.toList).run P w=.ok (some (i,e.val)) w:=by
 have d:=Xf (P:=P) (kt:=kt) (k:=k)<|EQ h;unfold jL at f;split at f
 .rename_i j v o;cases f;rw[o] at d;cases g:aK P (Instr.findKey kt k es.toList) with
  | none=>rw[g] at d;cases d
  | some r=>
   rw[g] at d;cases r with
   | none=>cases d
   | some p=>
    let⟨m,q⟩:=p;have:i=m:=by simpa using d
    subst this;let⟨e,n,l⟩:=TW g;exact⟨e,by simpa using n,by rw[cD g,l]⟩
 .cases f
 .cases f
theorem Mj[aB]{FT:Nat->Option Nat}{kt:TypeId}{k:Value}{a:List<|Value×AV}{es:Array MapEntry}(h:Ak FT c a es)(e:jL P kt k a=some none)(w:World):
 (Instr.findKey kt k es.toList).run P w=.ok none w:=by
 have d:=Xf (P:=P) (kt:=kt) (k:=k)<|EQ h;unfold jL at e;split at e
 .cases e
 .rename_i g;rw[g] at d;cases f:aK P (Instr.findKey kt k es.toList) with
  | none=>rw[f] at d;cases d
  | some r=>
   rw[f] at d;cases r with
   | none=>exact cD f
   | some p=>cases d
 .cases e
theorem aAz[aB](f:bJ (aG T) c){id b:Nat}{a:List<|Value×AV}(i:c.H[id]?=some (.mp a))(g:c.β id=some b):
 ∃es d,c.w.heap[b]?=some (.map es d)/\Ak (aG T) c a es:=by
 let⟨es,d,j,e,h⟩:=f.map id a b i g;exact⟨es,d,j,e.1,h⟩
theorem UG[aB](f:bJ (aG T) c){id b:Nat}{a:List<|Value×AV}(i:c.H[id]?=some (.mp a))(g:c.β id=some b):
 ∃es d,c.w.heap[b]?=some (.map es d)/\Ak (aG T) c a es/\N3 es d:=by
 let⟨es,d,j,e,h⟩:=f.map id a b i g;exact⟨es,d,j,⟨e.1,h⟩,e.2⟩
theorem hK{w:World}{b:Nat}{es:Array MapEntry}{a:Nat}(h:w.heap[b]?=some (.map es a)): (getObj b).run P w=.ok (.map es a) w:=by
 simp[getObj,Sem.run,h]
theorem DS{FT:Nat->Option Nat}{a:List<|Value×AV}{es:Array MapEntry}(h:Ak FT c a es): es.isEmpty=a.isEmpty:=by
 have:=h.1;cases a with
 | nil=>simp at this;simp[this]
 | cons e r=>
  have:es≠#[]:=by intro e;subst e;simp at this
  simp[this]
theorem JH[aB](J:bJ (aG T) c)(B:TR (aG T) c tm a.tmps){kt e t:TypeId}{z m k:aQ}{C k':Operand}{ok:Bool}{d:List<|Value×AV}{y:Value}{r v:AV}{i:TypeInfo}{N:Value}(ho:o.op=.lookup t C k' ok)(h1:aN T m C=true)(h2:aN T k k'=true)(Q:P.underlying t=some (.map kt e))(Y:P.info? e=some i)(X:i.zero=some N)(K:RV (aG T) c (aC tm z) N)(hk:lits (aC tm k)=some y)(R:aK P (Instr.checkKey d.isEmpty 10000 kt y)=some ())(A:(aC tm m=.lit (.map none)/\d=[])\/(∃id,aC tm m=.mp id/\c.H[id]?=some (.mp d))\/aC tm m=.rmp d)(hr:(∃i e,jL P kt y d=some (some i)/\d[i]?=some e/\r=e.2/\v=.lit (.bool true))\/(jL P kt y d=some none/\r=aC tm z/\v=.lit (.bool false))):
 cZ P (aG T) c fl o a (if ok then .tup [r,v] else r) c.H:=by
 have p:=aR J B h1;have S:=Oo (aR J B h2) hk;have M:∃es:Array MapEntry,Ak (aG T) c d es/\((a.eval C=.map none/\es=#[])\/∃b g,a.eval C=.map (some b)/\c.w.heap[b]?=some (.map es g)):=by
  rcases A with⟨A,rfl⟩ | ⟨id,A,O⟩ | A<;>rw[A] at p
  .exact⟨#[],⟨rfl,λi k x j=>by simp at j⟩,.inl ⟨p.lit_inv,rfl⟩⟩
  .let⟨b,l,_,G⟩:=p.mp_inv;let⟨es,g,u,q⟩:=aAz J O G;exact⟨es,q,.inr ⟨b,g,l,u⟩⟩
  .let⟨b,es,g,E,l,u,q,F,U⟩:=p.rmp_inv;exact⟨es,⟨q,λi k x j=>⟨E i,(F i k x j).1,(F i k x j).2,.pure _ _<|U i k x j⟩⟩,.inr ⟨b,g,l,u⟩⟩
 let⟨es,I,Z⟩:=M;have h:(Instr.checkKey es.isEmpty 10000 kt y).run P c.w=.ok () c.w:=by rw[DS I];exact cD R
 have D:∃(s:Value) (b:Bool),RV (aG T) c r s/\v=.lit (.bool b)/\(Instr.lookup t (a.eval C) y ok).run P c.w=.ok (if ok then .tuple #[s,.bool b] else s) c.w:=by
  rcases hr with⟨i0,en,L,V,rfl,rfl⟩ | ⟨L,rfl,rfl⟩
  .let⟨e',u,q⟩:=Mi I L c.w;let⟨k0,x0⟩:=en;let⟨a1,F,_,U⟩:=I.2 i0 k0 x0 V;rw[u] at F;cases F;refine⟨e'.val,true,U,rfl,?_⟩;rcases Z with⟨l,rfl⟩ | ⟨b,g,l,G⟩
   .simp at u
   .simp[Instr.lookup,run_underlying Q,l,hK G,h,q]
  .have q:=Mj I L c.w;refine⟨N,false,K,rfl,?_⟩;rcases Z with⟨l,rfl⟩ | ⟨b,g,l,G⟩
   .simp only[Array.isEmpty_empty] at h;simp[Instr.lookup,run_underlying Q,l,h,q,zeroValue,typeInfo,Y,X]
   .simp[Instr.lookup,run_underlying Q,l,hK G,h,q,zeroValue,typeInfo,Y,X]
 obtain⟨s,b,W,rfl,k3⟩:=D;refine bM (cv:=if ok then .tuple #[s,.bool b] else s) J (by simp[execOp,ho,S,k3]) ?_;cases ok with
 | false=>simpa using W
 | true=>
  simp only[if_true];refine .tup _ _ (λi=>if i=0 then s else .bool b) rfl ?_ ?_
  .intro i x j;match i with
   | 0=>rfl
   | 1=>rfl
   | n+2=>simp at j
  .intro i x j;match i with
   | 0=>simp at j;subst j;simpa using W
   | 1=>simp at j;subst j;exact RV.lit _
   | n+2=>simp at j
theorem J8{FT:Nat->Option Nat}{a:List<|Value×AV}{es:Array MapEntry}{i:Nat}{k:Value}{x:AV}{v:Value}{e:MapEntry}(h:Ak FT c a es)(he:es[i]?=some e)(p:RV FT c x v):
 Ak FT c (a.set i (k,x))<|es.modify i λe=>{ e with key:=k,val:=v }:=by
 refine⟨by simpa using h.1,λj k' g d=>?_⟩;rw[List.getElem?_set] at d;split at d
 .rename_i b;subst b;split at d
  .cases d;refine⟨{ e with key:=k,val:=v },?_,rfl,p⟩;rw[Array.getElem?_modify];simp[he]
  .cases d
 .rename_i b;let⟨l,n,m,o⟩:=h.2 j k' g d;refine⟨l,?_,m,o⟩;rw[Array.getElem?_modify];simp[b,n]
theorem YS{FT:Nat->Option Nat}{a:List<|Value×AV}{es:Array MapEntry}{k:Value}{x:AV}{v:Value}{n:Nat}(h:Ak FT c a es)(p:RV FT c x v):
 Ak FT c (a++[(k,x)])<|es.push { key:=k,val:=v,born:=n }:=by
 refine⟨by simp[h.1],λj k' f b=>?_⟩;rw[List.getElem?_append] at b;split at b
 .rename_i g;let⟨i,m,l,o⟩:=h.2 j k' f b;refine⟨i,?_,l,o⟩;rw[Array.getElem?_push,if_neg<|by rw[h.1];omega];exact m
 .rename_i g;rw[List.getElem?_singleton] at b;split at b
  .rename_i q;cases b;refine⟨{ key:=k,val:=v,born:=n },?_,rfl,p⟩;rw[Array.getElem?_push,if_pos<|by rw[h.1];omega]
  .cases b
theorem LJ{es:Array MapEntry}{a i:Nat}{f:MapEntry->MapEntry}(h:N3 es a)(b:∀e,(f e).born=e.born): N3 (es.modify i f) a:=by
 refine⟨λe he=>?_,?_⟩
 .obtain⟨j,d,rfl⟩:=List.mem_iff_getElem.1 he;simp only[Array.getElem_toList,Array.getElem_modify];have c:j<es.size:=by simpa using d
  have:=h.1 es[j] (by simp);split
  .rw[b];exact this
  .exact this
 .have e:(es.modify i f).toList.map (·.born)=es.toList.map (·.born):=by
   apply List.ext_getElem?;intro j;simp only[List.getElem?_map,Array.getElem?_toList,Array.getElem?_modify];split
   .cases es[j]? with
    | none=>rfl
    | some e=>simp[b]
   .rfl
  rw[e];exact h.2
theorem VR{es:Array MapEntry}{c:Nat}{k v:Value}(h:N3 es c): N3 (es.push { key:=k,val:=v,born:=c })<|c+1:=by
 refine⟨λe he=>?_,?_⟩
 .simp only[Array.toList_push,List.mem_append,List.mem_singleton] at he;rcases he with he | rfl
  .exact Nat.lt_succ_of_lt<|h.1 e he
  .exact Nat.lt_succ_self _
 .rw[Array.toList_push,List.map_append,List.nodup_append];refine⟨h.2,by simp,λa g b f e=>?_⟩;obtain⟨x,i,rfl⟩:=List.mem_map.1 g;have:=h.1 x i;simp at f;omega
theorem PO{es:Array MapEntry}{a i:Nat}(h:N3 es a)(b:i<es.size): N3 (es.eraseIdxIfInBounds i) a:=by
 have e:(es.eraseIdxIfInBounds i).toList=es.toList.eraseIdx i:=by simp only[Array.eraseIdxIfInBounds,b,dif_pos,Array.toList_eraseIdx]
 unfold N3;rw[e];exact⟨λe he=>h.1 e<|List.mem_of_mem_eraseIdx he,((List.eraseIdx_sublist _ _).map _).nodup h.2⟩
theorem JG[aB](y:bJ (aG T) c)(s:TR (aG T) c tm a.tmps){kt e t:TypeId}{m k x:aQ}{D k' v:Operand}{f ents':List<|Value×AV}{h:Value}{id:Nat}(C:o.op=.mapUpdate t D k' v\/o.op=.insert t D k' v)(h1:aN T m D=true)(h2:aN T k k'=true)(h3:aN T x v=true)(X:P.underlying t=some (.map kt e))(hk:lits (aC tm k)=some h)(K:aK P (Instr.checkKey false 10000 kt h)=some ())(G:fl<=id)(hm:aC tm m=.mp id)(r:c.H[id]?=some (.mp f))(hr:(∃i E,jL P kt h f=some (some i)/\f[i]?=some E/\Instr.sameBits 10000 E.1 h=true/\ents'=f.set i (h,aC tm x))\/(jL P kt h f=some none/\ents'=f++[(h,aC tm x)])):
 cZ P (aG T) c fl o a (.lit aW)<|c.H.set id<|.mp ents':=by
 have z:=aR y s h1;rw[hm] at z;have I:=Oo (aR y s h2) hk;have Y:=aR y s h3;let⟨b,U,_,R⟩:=z.mp_inv;let⟨es,q,F,A,S⟩:=UG y r R;have p:=cD (w:=c.w) K;have n:∀ob,(setObj b ob).run P c.w=.ok () { c.w with heap:=c.w.heap.setIfInBounds b ob }:=by
  intro ob;simp[setObj,Sem.run,F]
 have j:∃es' g,(Ak (aG T) c ents' es'/\N3 es' g)/\(Instr.mapUpdate t (a.eval D) h<|a.eval v).run P c.w=.ok () { c.w with heap:=c.w.heap.setIfInBounds b (.map es' g) }:=by
  rcases hr with⟨V,E,Q,N,B,rfl⟩ | ⟨Q,rfl⟩
  .let⟨e',J,M⟩:=Mi A Q c.w;let⟨k0,x0⟩:=E;let⟨a1,Z,k4,_⟩:=A.2 V k0 x0 N;rw[J] at Z;cases Z;refine⟨es.modify V λe=>{ e with key:=h,val:=a.eval v },q,⟨J8 A J Y,LJ S λ_=>rfl⟩,?_⟩;have O:(Instr.keyThatStays e'.key h).run P c.w=.ok h c.w:=by
    simp only at B;simp[Instr.keyThatStays,k4,B]
   simp[Instr.mapUpdate,run_underlying X,U,hK F,p,M,J,O,n]
  .have M:=Mj A Q c.w;refine⟨es.push { key:=h,val:=a.eval v,born:=q },q+1,⟨YS A Y,VR S⟩,?_⟩;simp[Instr.mapUpdate,run_underlying X,U,hK F,p,M,n]
 let⟨es',g,u,j⟩:=j;refine o0 (β':=c.β) (w':={ c.w with heap:=c.w.heap.setIfInBounds b (.map es' g) }) ?_ (Eb (ob:=.map es' g) y G r R rfl rfl rfl rfl)<|BK y r R rfl rfl rfl rfl ⟨u.1.1,u.2⟩ u.1.2;rcases C with C | C<;>simp[execOp,C,I,j]
theorem JJ[aB](x:bJ (aG T) c)(A:TR (aG T) c tm a.tmps){kt e t:TypeId}{m k:aQ}{K k':Operand}{ts:Array TypeId}{d ents':List<|Value×AV}{v:Value}{id:Nat}(ho:o.op=.call ⟨.builtin .delete,#[K,k'],ts⟩)(Q:ts[0]?=some t)(W:aN T m K=true)(Y:aN T k k'=true)(S:P.underlying t=some (.map kt e))(hk:lits (aC tm k)=some v)(E:aK P (Instr.checkKey d.isEmpty 10000 kt v)=some ())(L:fl<=id)(X:aC tm m=.mp id)(u:c.H[id]?=some (.mp d))(V:(∃i,jL P kt v d=some (some i)/\ents'=d.eraseIdx i)\/(jL P kt v d=some none/\ents'=d)):
 cZ P (aG T) c fl o a (.lit aW)<|c.H.set id<|.mp ents':=by
 have z:=aR x A W;rw[X] at z;have C:=Oo (aR x A Y) hk;let⟨b,O,_,J⟩:=z.mp_inv;let⟨es,y,G,l,N⟩:=UG x u J;have p:(Instr.checkKey es.isEmpty 10000 kt v).run P c.w=.ok () c.w:=by rw[DS l];exact cD E
 have q:∀ob,(setObj b ob).run P c.w=.ok () { c.w with heap:=c.w.heap.setIfInBounds b ob }:=by
  intro ob;simp[setObj,Sem.run,G]
 have g:∃es' f,(Ak (aG T) c ents' es'/\N3 es' f)/\(Builtin.delete_ ts o.type #[a.eval K,v]).run P c.w=.ok (.tuple #[]) { c.w with heap:=c.w.heap.setIfInBounds b (.map es' f) }:=by
  rcases V with⟨M,D,rfl⟩ | ⟨D,rfl⟩
  .let⟨e',Z,I⟩:=Mi l D c.w;have h:M<es.size:=(Array.getElem?_eq_some_iff.1 Z).1;refine⟨es.eraseIdxIfInBounds M,y,⟨⟨?_,?_⟩,PO N h⟩,?_⟩
   .simp only[Array.eraseIdxIfInBounds,h,dif_pos];rw[Array.size_eraseIdx,List.length_eraseIdx,l.1];rw[if_pos<|by rw[<-l.1];exact h]
   .intro j U R B;simp only[Array.eraseIdxIfInBounds,h,dif_pos];rw[List.getElem?_eraseIdx] at B;rw[Array.getElem?_eraseIdx];split at B
    .rename_i F;rw[if_pos F];exact l.2 j U R B
    .rename_i F;rw[if_neg F];exact l.2 _ U R B
   .simp[Builtin.delete_,Q,run_underlying S,O,hK G,p,I,q]
  .have I:=Mj l D c.w;refine⟨es,y,⟨l,N⟩,?_⟩;simp[Builtin.delete_,Q,run_underlying S,O,hK G,p,I,q]
 let⟨es',f,s,g⟩:=g;refine eC (cv:=.tuple #[]) (β':=c.β) (w':={ c.w with heap:=c.w.heap.setIfInBounds b (.map es' f) }) ?_ (Eb (ob:=.map es' f) x L u J rfl rfl rfl rfl) (BK x u J rfl rfl rfl rfl ⟨s.1.1,s.2⟩ s.1.2)<|RV.lit _;simp[execOp,ho,resolve,invoke,builtin,C,g]
end
section
variable {P:Program}{T:List bK}{c:bV}{fl:Nat}{o:Oper}{a:Act}{tm:List AV}
def kK(FT:Nat->Option Nat)(c:bV)(s:Nat)(ys:List<|List AV)(news:List Value): Prop:=
 news.length=ys.length*s/\∀i j x,bL ys i j=some x->∃u,news[i*s+j]?=some u/\aY u=true/\RV FT c x u
theorem xK{s:Nat}{ys:List<|List AV}(h:cY s ys=true): ∀e∈ys,e.length=s:=by
 intro e he;have:=List.all_eq_true.1 h e he;simpa using this
theorem qD[aB]{FT:Nat->Option Nat}{s:Nat}{ys:List<|List AV}{a:List Value}(k:∀e∈ys,e.length=s)(h:kK FT c s ys a): ∀u∈a,u.oneCell'=true:=by
 intro u m;let⟨p,g⟩:=List.mem_iff_getElem?.1 m;have b:p<ys.length*s:=by rw[<-h.1];exact (List.getElem?_eq_some_iff.1 g).1
 have j:0<s:=by
  rcases Nat.eq_zero_or_pos s with f | f
  .subst f;simp at b
  .exact f
 have i:p / s<ys.length:=Nat.div_lt_of_lt_mul (by rw[Nat.mul_comm];exact b);have n:p % s<s:=Nat.mod_lt _ j;have he:(ys[p / s]).length=s:=k _<|List.getElem_mem i;let⟨o,d,l,_⟩:=h.2 (p / s) (p % s) ((ys[p / s])[p % s]'(by omega)) (by simp[bL,i,he,n]);rw[Nat.mul_comm,Nat.div_add_mod] at d;rw[g] at d;cases d;rw[<-Lq];exact l
theorem Sd[aB]{FT:Nat->Option Nat}{s k b n:Nat}{cc:Array Value}{l:TypeId}{o:Nat×Nat}{ys:List<|List AV}(C:c.w.heap[b]?=some (.cells cc l o))(E:0<s)(g:ys.length=n)(p:∀e∈ys,e.length=s)(h:∀i j x,bL ys i j=some x->∃u,cc[k+(i*s+j)]?=some u/\aY u=true/\RV FT c x u):
 ∃a,kK FT c s ys a/\∀(j:Nat) (v:Value),a[j]?=some v->c.w.cell? ((⟨b,k,none⟩:Addr).add j)=some v:=by
 refine⟨(cc.toList.drop k).take<|n*s,⟨?_,?_⟩,?_⟩
 .simp only[List.length_take,List.length_drop,Array.length_toList,g];cases n with
  | zero=>simp
  | succ m=>
   have q:m<ys.length:=by omega
   have he:(ys[m]).length=s:=p _<|List.getElem_mem q;let⟨u,y,_⟩:=h m (s-1) ((ys[m])[s-1]'(by omega)) (by simp[bL,q]);have:k+(m*s+(s-1))<cc.size:=(Array.getElem?_eq_some_iff.1 y).1;rw[Nat.add_mul];omega
 .intro i j x r;let⟨u,B,t,z⟩:=h i j x r;refine⟨u,?_,t,z⟩;let⟨e,he,A⟩:=dI r;have f:j<s:=by rw[<-p e<|List.mem_of_getElem? he];exact (List.getElem?_eq_some_iff.1 A).1
  have D:i<n:=by rw[<-g];exact (List.getElem?_eq_some_iff.1 he).1
  rw[List.getElem?_take,if_pos<|MC D f,List.getElem?_drop];simpa using B
 .intro j v d;rw[fS,cell_of_row c.w b (k+j) cc l o C];rw[List.getElem?_take] at d;split at d
  .simpa using d
  .cases d
theorem d9[aB]{FT:Nat->Option Nat}(V:bJ FT c){y:AV}{v:Value}{ys:List<|List AV}{s:Nat}(J:RV FT c y v)(h:rd c.H y=some ys)(F:∀e∈ys,e.length=s)(D:0<s):
 ∃xa q a,v=.slice xa ys.length q/\ys.length<=q/\kK FT c s ys a/\∀w',sN c.w w'->(Builtin.firstCells s ys.length v).run P w'=.ok a.toArray w':=by
 have A:∀(b k q:Nat) (a:List Value),kK FT c s ys a->(∀(j:Nat) (v:Value),a[j]?=some v->c.w.cell? ((⟨b,k,none⟩:Addr).add j)=some v)->
  ∀w',sN c.w w'->(Builtin.firstCells s ys.length<|.slice (some ⟨b,k,none⟩) ys.length q).run P w'=.ok a.toArray w':=by
  intro b k q a h1 W w' hd;refine run_firstCells_some w' s ys.length ⟨b,k,none⟩ ys.length q a h1.1 ?_;intro j v t;rw[World.cell?_of_block (w:=c.w)<|by rw[hd.heap]];exact W j v t
 have d:∀(xa:Option Addr) (q:Nat),ys=[]->∀w',sN c.w w'->(Builtin.firstCells s ys.length<|.slice xa ys.length q).run P w'=.ok (#[]:Array Value) w':=by
  intro xa q he w' _;subst he;cases xa<;>simp[Builtin.firstCells,loadCells,loadCellsFrom]
 have m:ys=[]->kK FT c s ys []:=by
  intro he;subst he;exact⟨by simp,λi j x n=>by simp[bL] at n⟩
 unfold rd at h;split at h
 .cases h;exact⟨none,0,[],J.lit_inv,Nat.zero_le _,m rfl,by rw[J.lit_inv];exact d none 0 rfl⟩
 .rename_i f es;cases h;have hp:=J.sl_inv;cases hp with
  | nil _ ad cap hf=>exact⟨ad,cap,[],rfl,Nat.zero_le _,m rfl,d ad cap rfl⟩
  | sl _ _ b off cap cc X fz s' o M Y N K g5 g6 I Q=>
   have e:s'=s:=by
    cases ys with
    | nil=>exact (M rfl).elim
    | cons e r=>rw[<-K e<|by simp,F e<|by simp]
   subst e;obtain⟨a,z,p⟩:=Sd (k:=off) N D rfl F λi j x n=>⟨o i j,(I i j x n).1,(I i j x n).2,.pure _ _<|Q i j x n⟩;exact⟨_,cap,a,rfl,g5,z,A b off cap a z p⟩
 .rename_i es;cases h;obtain⟨ad,cap,rfl,L,S⟩:=J.vw_inv;rcases S with rfl | ⟨b,off,cc,X,fz,s',o,rfl,Y,N,K,I,Q⟩
  .exact⟨ad,cap,[],rfl,Nat.zero_le _,m rfl,d ad cap rfl⟩
  .by_cases B:ys=[]
   .subst B;exact⟨_,cap,[],rfl,Nat.zero_le _,m rfl,d _ cap rfl⟩
   have e:s'=s:=by
    cases ys with
    | nil=>exact (B rfl).elim
    | cons e r=>rw[<-K e<|by simp,F e<|by simp]
   subst e;obtain⟨a,z,p⟩:=Sd (k:=off) N D rfl F λi j x n=>⟨o i j,(I i j x n).1,(I i j x n).2,.pure _ _<|Q i j x n⟩;exact⟨_,cap,a,rfl,L,z,A b off cap a z p⟩
 .rename_i id tot off len;split at h
  .rename_i s' es E;split at h
   .rename_i G;cases h;let⟨ad,cap,s0,n0,t,M,Y,N,K⟩:=J.ms_inv;rw[fL E] at M;cases M;let⟨m1,m2⟩:=K G.symm;have g:((es.drop off).take len).length=len:=by simp;omega
    rw[g];rcases m2 with⟨_,m3,R,U⟩ | ⟨b,cc,X,a',m3,R,U,m6,m7⟩
    .subst U;have C:len=0:=by omega
     subst C;have he:(es.drop off).take 0=[]:=by simp
     have p:=d ad 0 he;simp only[g] at p;exact⟨ad,0,[],t,Nat.le_refl _,m he,by rw[t];exact p⟩
    .by_cases C:len=0
     .subst C;have he:(es.drop off).take 0=[]:=by simp
      have p:=d ad cap he;simp only[g] at p;exact⟨ad,cap,[],t,Nat.zero_le _,m he,by rw[t];exact p⟩
     .have ha:=m7 (by omega);subst m6;subst ha;let⟨a2,a1,Z,q2,q3⟩:=V.blk id s' es b E m3;rw[R] at Z;cases Z;have O:s'=s:=by
       have B:0<es.length:=by omega
       have T:off<es.length:=by omega
       have h1:=V.lens id s' es E (es[off])<|List.getElem_mem T;have W:=F (es[off])<|by
        rw[List.mem_iff_getElem?];exact⟨0,by rw[List.getElem?_take,if_pos<|by omega,List.getElem?_drop];simp[T]⟩
       omega
      subst O;let⟨a,z,p⟩:=Sd (FT:=FT) (k:=off*s') R D rfl F (λi j x n=>by
       let⟨e,he,hj⟩:=dI n;rw[List.getElem?_take] at he;split at he
       .rw[List.getElem?_drop] at he;let⟨u,w1,w2,w3⟩:=q3 (off+i) j x (by simp[bL,he,hj]);exact⟨u,by rw[<-w1];congr 1;rw[Nat.add_mul];omega,w2,w3⟩
       .cases he)
      have k3:=A b (off*s') cap a z p;simp only[g] at k3;exact⟨_,cap,a,t,by omega,z,by rw[t];exact k3⟩
   .cases h
  .cases h
 .cases h
end
section
variable {P:Program}{T:List bK}{c:bV}{fl:Nat}{o:Oper}{a:Act}{tm:List AV}
theorem EZ(w:World): sN w w.drew:=⟨rfl,rfl,rfl,rfl,Nat.le_succ _⟩
structure Src(P:Program)(w:World)(t t' e:TypeId)(i:TypeInfo)(xv:Value)(m:Nat)(news:List Value): Prop where
 ht:P.underlying t=some (.slice e)
 hi:P.info? e=some i
 run:∀(ty:TypeId) (base:Option Addr) (sLen sCap:Nat),sLen+m<=sCap->∀(w':World),
  (∀ad,base=some ad->(storeCells (ad.add (sLen*i.size)) news).run P w=.ok () w')->(base=none->w'=w)->
  (Builtin.append_ #[t,t'] ty #[.slice base sLen sCap,xv]).run P w=.ok (.slice base (sLen+m) sCap) w'
 grow:∀(ty:TypeId) (z:Value) (base:Option Addr) (sLen sCap:Nat) (olds:List Value),i.zero=some z->sCap<sLen+m->((sLen+m:Nat):Int)<=9223372036854775807->
  Builtin.nextslicecap (sLen+m) sCap*i.bytes<=281474976710656->(Builtin.firstCells i.size sLen (.slice base sLen sCap)).run P w.drew=.ok olds.toArray w.drew->
  ∃cells:Array Value,cells.toList=olds++news++(Builtin.zeroCells z.cells (grownCap w (sLen+m) sCap e-(sLen+m))).toList /\
  (Builtin.append_ #[t,t'] ty #[.slice base sLen sCap,xv]).run P w =
   .ok (.slice (some ⟨w.heap.size,0,none⟩) (sLen+m) (grownCap w (sLen+m) sCap e)) (w.drew.alloc (.cells cells e))
theorem a6[aB]{w:World}{t t' e:TypeId}{U:TypeDesc}{i:TypeInfo}{xv:Value}{m:Nat}{news:List Value}(ht:P.underlying t=some (.slice e))(ht':P.underlying t'=some U)(hU:U=.string\/∃e',U=.slice e')(hi:P.info? e=some i)(hl:∀w',(Builtin.lenOf xv).run P w'=.ok m w')(hf:∀w',sN w w'->(Builtin.firstCells i.size m xv).run P w'=.ok news.toArray w'): Src P w t t' e i xv m news where
 ht:=ht
 hi:=hi
 run:=by
  intro ty base sLen sCap hroom w' hst hn
  have hf0:=hf w<|sN.refl w
  cases base with
  | none=>rcases hU with rfl | ⟨e',rfl⟩<;>simp[Builtin.append_,run_underlying ht,run_underlying ht',sizeOf,typeInfo,hi,hl,hroom,hf0,hn rfl]
  | some ad=>rcases hU with rfl | ⟨e',rfl⟩<;>simp[Builtin.append_,run_underlying ht,run_underlying ht',sizeOf,typeInfo,hi,hl,hroom,hf0,hst ad rfl]
 grow:=by
  intro ty z base sLen sCap olds hz hg h63 hfit ho
  have hf0:=hf w.drew<|EZ w
  have hn:¬(sLen+m<=sCap):=by omega
  have h63':¬(9223372036854775807<((sLen:Int)+(m:Int))):=by omega
  have h48':¬(281474976710656<Builtin.nextslicecap (sLen+m) sCap*i.bytes):=by omega
  refine⟨olds.toArray++news.toArray++Builtin.zeroCells z.cells (grownCap w (sLen+m) sCap e-(sLen+m)),by simp,?_⟩
  rcases hU with rfl | ⟨e',rfl⟩ <;>
  (simp[Builtin.append_,run_underlying ht,run_underlying ht',sizeOf,typeInfo,zeroValue,hi,hz,hl,hn,h63',h48',Question.forced,hf0,ho,newRow,grownCap]
   congr 2
   apply Array.ext'
   simp[List.append_assoc])
theorem E1[aB]{w:World}{t t' e:TypeId}{U:TypeDesc}{i:TypeInfo}{xa:Option Addr}{xc m:Nat}{news:List Value}(ht:P.underlying t=some (.slice e))(ht':P.underlying t'=some U)(hU:U=.string\/∃e',U=.slice e')(hi:P.info? e=some i)(hf:∀w',sN w w'->(Builtin.firstCells i.size m<|.slice xa m xc).run P w'=.ok news.toArray w'): Src P w t t' e i (.slice xa m xc) m news:=
 a6 ht ht' hU hi (λw'=>by simp[Builtin.lenOf]) hf
theorem aBH[aB]{w:World}{t t' e:TypeId}{U:TypeDesc}{i:TypeInfo}{b:ByteArray}(ht:P.underlying t=some (.slice e))(ht':P.underlying t'=some U)(hU:U=.string\/∃e',U=.slice e')(hi:P.info? e=some i): Src P w t t' e i (.string b) b.size (b.data.toList.map λb=>.int .u8 ((b.toNat:Nat):Int)):=
 a6 ht ht' hU hi (λw'=>by simp[Builtin.lenOf]) λw' _=>by
  have e:b.extract 0 b.size=b:=by simp
  simp only[Builtin.firstCells,e]
  have:(b.data.map λb=>Value.int .u8 ((b.toNat:Nat):Int))=(b.data.toList.map λb=>Value.int .u8 ((b.toNat:Nat):Int)).toArray:=by
   apply Array.ext';simp
  rw[this];rfl
theorem E0[aB]{w:World}{t t' e:TypeId}{i:TypeInfo}{k k':IntKind}{z:Value}{m:Nat}(ht:P.underlying t=some (.slice e))(ht':P.underlying t'=some (.int k))(hi:P.info? e=some i)(hz:i.zero=some z)(hm:m<=2 ^ 20)(hb:m*i.bytes<=2 ^ 40)(hs0:0<i.size)(hzs:z.cells.size=i.size): Src P w t t' e i (.int k' (m:Nat)) m (Builtin.zeroCells z.cells m).toList where
 ht:=ht
 hi:=hi
 run:=by
  intro ty base sLen sCap hroom w' hst hn
  have w1:=Al (n:=m)<|by omega
  have hneg:¬((m:Int)<0):=by omega
  have hbig:¬((281474976710656:Int)<(m:Int)*(i.bytes:Int)):=by rw[<-Int.natCast_mul];omega
  by_cases hm0:m*i.size=0
  .have hmz:m=0:=by
    rcases Nat.mul_eq_zero.1 hm0 with h | h
    .exact h
    .omega
   subst hmz
   have hz0:(Builtin.zeroCells z.cells 0).toList=[]:=by simp[Builtin.zeroCells]
   rw[hz0] at hst
   have hr0:sLen<=sCap:=by omega
   have w0:IntKind.i64.wrap 0=0:=IntWalk.i64_in _<|by omega
   cases base with
   | none=>simp[Builtin.append_,run_underlying ht,run_underlying ht',sizeOf,typeInfo,hi,asInt,asIntOf,hr0,hn rfl,w0]
   | some ad=>simp[Builtin.append_,run_underlying ht,run_underlying ht',sizeOf,typeInfo,hi,asInt,asIntOf,hr0,hst ad rfl,w0]
  .cases base with
   | none=>simp[Builtin.append_,run_underlying ht,run_underlying ht',sizeOf,typeInfo,zeroValue,hz,hi,asInt,asIntOf,w1,hneg,hbig,hm0,hroom,hn rfl]
   | some ad=>simp[Builtin.append_,run_underlying ht,run_underlying ht',sizeOf,typeInfo,zeroValue,hz,hi,asInt,asIntOf,w1,hneg,hbig,hm0,hroom,hst ad rfl]
 grow:=by
  intro ty z' base sLen sCap olds hz' hg h63 hfit ho
  rw[hz] at hz'
  cases hz'
  have w1:=Al (n:=m)<|by omega
  have hneg:¬((m:Int)<0):=by omega
  have hbig:¬((281474976710656:Int)<(m:Int)*(i.bytes:Int)):=by rw[<-Int.natCast_mul];omega
  have hn:¬(sLen+m<=sCap):=by omega
  have h63':¬(9223372036854775807<((sLen:Int)+(m:Int))):=by omega
  have h48':¬(281474976710656<Builtin.nextslicecap (sLen+m) sCap*i.bytes):=by omega
  refine⟨olds.toArray++(Builtin.zeroCells z.cells m)++Builtin.zeroCells z.cells (grownCap w (sLen+m) sCap e-(sLen+m)),by simp,?_⟩
  by_cases hm0:m*i.size=0
  .have hmz:m=0:=by
    rcases Nat.mul_eq_zero.1 hm0 with h | h
    .exact h
    .omega
   subst hmz
   have hz0:Builtin.zeroCells z.cells 0=#[]:=by simp[Builtin.zeroCells]
   have w0:IntKind.i64.wrap 0=0:=IntWalk.i64_in _<|by omega
   have hn0:¬(sLen<=sCap):=by omega
   have h630:¬(9223372036854775807<(sLen:Int)):=by omega
   have h480:¬(281474976710656<Builtin.nextslicecap sLen sCap*i.bytes):=by simpa using h48'
   simp[Builtin.append_,run_underlying ht,run_underlying ht',sizeOf,typeInfo,zeroValue,hi,hz,asInt,asIntOf,hn0,h630,h480,Question.forced,ho,newRow,grownCap,w0,hz0]
  .simp[Builtin.append_,run_underlying ht,run_underlying ht',sizeOf,typeInfo,zeroValue,hi,hz,asInt,asIntOf,w1,hneg,hbig,hm0,hn,h63',h48',Question.forced,ho,newRow,grownCap]
end
section
variable {P:Program}{T:List bK}{c:bV}{fl:Nat}{o:Oper}{a:Act}{tm:List AV}
theorem OP[aB]{es ys:List<|List AV}{i j:Nat}{x:AV}(h:bL (es++ys) i j=some x): (i<es.length/\bL es i j=some x)\/(es.length<=i/\bL ys (i-es.length) j=some x):=by
 let⟨e,a,b⟩:=dI h;rw[List.getElem?_append] at a;split at a
 .exact .inl ⟨by assumption,by simp[bL,a,b]⟩
 .exact .inr ⟨by omega,by simp[bL,a,b]⟩
theorem QY[aB]{FT:Nat->Option Nat}{s:Nat}{es ys:List<|List AV}{a b rest:List Value}(l:kK FT c s es a)(m:kK FT c s ys b):
 ∀i j x,bL (es++ys) i j=some x->∃u,(a++b++rest)[i*s+j]?=some u/\aY u=true/\RV FT c x u:=by
 intro i j x o;rcases OP o with⟨n,k⟩ | ⟨n,k⟩
 .let⟨u,f,g,h⟩:=l.2 i j x k;refine⟨u,?_,g,h⟩;have d:=(List.getElem?_eq_some_iff.1 f).1;rw[List.append_assoc,List.getElem?_append_left d];exact f
 .let⟨u,f,g,h⟩:=m.2 _ j x k;refine⟨u,?_,g,h⟩;have d:=(List.getElem?_eq_some_iff.1 f).1;have e:i*s+j=a.length+((i-es.length)*s+j):=by
   rw[l.1,<-Nat.add_assoc,<-Nat.add_mul];congr 2;omega
  rw[e,List.append_assoc,List.getElem?_append_right<|by omega,Nat.add_sub_cancel_left,List.getElem?_append_left d];exact f
theorem E7{n bytes:Nat}(h:kO n bytes=true): n*bytes<=2 ^ 40/\n<=2 ^ 40:=by
 simpa [kO] using h
theorem I9[aB]{n m bytes cap:Nat}(h:kO (n+m) bytes=true)(a:cap<n+m): Builtin.nextslicecap (n+m) cap*bytes<=281474976710656/\((n+m:Nat):Int)<=9223372036854775807:=by
 let⟨b,c⟩:=E7 h;exact⟨growslice_fits a<|by omega,by omega⟩
theorem Ii[aB]{FT:Nat->Option Nat}{s k:Nat}{es ys:List<|List AV}{b:List Value}{cc:Array Value}(t:∀e∈es,e.length=s)(n:∀e∈ys,e.length=s)(y:k<=es.length)(r:kK FT c s ys b)(l:k*s+b.length<=cc.size)(d:∀i j x,bL es i j=some x->∃v,cc[i*s+j]?=some v/\aY v=true/\RV FT c x v):
 (∀e∈aU es k ys,e.length=s) /\
 ∀i j x,bL (aU es k ys) i j=some x->∃v,((aU cc.toList (k*s) b).toArray)[i*s+j]?=some v/\aY v=true/\RV FT c x v:=by
 refine⟨?_,?_⟩
 .intro e he;simp only[aU,List.mem_append] at he;rcases he with h | h | h
  .exact t e<|List.mem_of_mem_take h
  .exact n e h
  .exact t e<|List.mem_of_mem_drop h
 .intro i j x B;have f:k*s+b.length<=cc.toList.length:=by simpa using l
  simp only[List.getElem?_toArray,As f];let⟨e,a,q⟩:=dI B;unfold aU at a;rw[List.getElem?_append] at a;simp only[List.length_take,Nat.min_eq_left y] at a;have p:∀g:List AV,(g∈es\/g∈ys)->e=g->j<s:=by
   intro g A he;have:g.length=s:=A.elim (t g)<|n g;rw[<-this,<-he];exact (List.getElem?_eq_some_iff.1 q).1
  split at a
  .rename_i u;rw[List.getElem?_take,if_pos u] at a;have w:=p e (.inl<|List.mem_of_getElem? a) rfl;have:i*s+j<k*s:=MC u w;rw[if_pos this];simpa using d i j x<|by simp[bL,a,q]
  .rename_i u;rw[List.getElem?_append] at a;split at a
   .rename_i m;have w:=p e (.inr<|List.mem_of_getElem? a) rfl;have o:k*s<=i*s:=Nat.mul_le_mul_right s (by omega);have C:i*s+j-k*s=(i-k)*s+j:=by rw[Nat.sub_mul];omega
    have D:(i-k)*s+j<ys.length*s:=MC m w;rw[if_neg<|by omega,if_pos<|by rw[r.1];omega,C];exact r.2 _ j x<|by simp[bL,a,q]
   .rename_i m;rw[List.getElem?_drop] at a;have z:k+ys.length+(i-k-ys.length)=i:=by omega
    rw[z] at a;have o:(k+ys.length)*s<=i*s:=Nat.mul_le_mul_right s (by omega);rw[Nat.add_mul] at o;rw[if_neg<|by omega,if_neg<|by rw[r.1];omega];simpa using d i j x<|by simp[bL,a,q]
theorem zN[aB]{FT:Nat->Option Nat}(j:bJ FT c){x:AV}{v:Value}{b:List<|List AV}{s:Nat}(l:RV FT c x v)(h:rd c.H x=some b)(m:∀e∈b,e.length=s)(g:0<s):
 ∃xa f a,v=.slice xa b.length f/\kK FT c s b a/\(Builtin.firstCells s b.length<|.slice xa b.length f).run P c.w.drew=.ok a.toArray c.w.drew:=by
 let⟨xa,f,d,i,_,n,k⟩:=d9 (P:=P) j l h m g;exact⟨xa,f,d,i,n,by rw[<-i];exact k _<|EZ _⟩
theorem Tu[aB](O:bJ (aG T) c)(j3:fl<=c.H.length){x r:AV}{xv yv z:Value}{t t' e:TypeId}{i:TypeInfo}{s bytes m:Nat}{ys:List<|List AV}{y:List Value}{H':aM}(hx:RV (aG T) c x xv)(N:Src P c.w t t' e i yv m y)(hE:kK (aG T) c s ys y)(hm:ys.length=m)(c2:i.size=s)(o1:i.bytes=bytes)(hz:i.zero=some z)(j1:z.cells.size=s)(d:cC fl c.H s bytes x ys=some (r,H'))(F:∀cv w',(Builtin.append_ #[t,t'] o.type #[xv,yv]).run P c.w=.ok cv w'->(execOp a.eval o).run P c.w=.ok (.value cv) w'): cZ P (aG T) c fl o a r H':=by
 subst c2 o1 hm;unfold cC at d;split at d
 .rename_i c1;let⟨i2,d3,a3⟩:=c1;have V:=xK i2;have C:ys.length=0->(∃xa n cap,xv=.slice xa n cap/\n<=cap)->cZ P (aG T) c fl o a x c.H:=by
   rintro W ⟨xa,n,cap,rfl,a2⟩;have e2:y=[]:=List.eq_nil_of_length_eq_zero (by rw[hE.1,W,Nat.zero_mul]);have:=N.run o.type xa n cap (by omega) c.w (by intro ad _;rw[e2];simp[storeCells]) λ_=>rfl;rw[W] at this;exact bM O (F _ _ this) hx
  have Y:∀(es:List<|List AV) (xa:Option Addr) (cap:Nat) (q:List Value),xv=.slice xa es.length cap->(∀e∈es,e.length=i.size)->kK (aG T) c i.size es q->
   (Builtin.firstCells i.size es.length<|.slice xa es.length cap).run P c.w.drew=.ok q.toArray c.w.drew->cap<es.length+ys.length->kO (es.length+ys.length) i.bytes=true->
   ∃g:Array Value,∃E,es.length+ys.length<=E/\g.size=E*i.size /\
    (execOp a.eval o).run P c.w=.ok (.value<|.slice (some ⟨c.w.heap.size,0,none⟩) (es.length+ys.length) E) (c.w.drew.alloc<|.cells g e (0,0)) /\
    (∀f∈es++ys,f.length=i.size)/\∀k j x,bL (es++ys) k j=some x->∃v,g[k*i.size+j]?=some v/\aY v=true/\RV (aG T) c x v:=by
   intro es xa cap q i1 a2 hO n1 D L;let⟨f1,f2⟩:=I9 L D;let⟨g,g1,g2⟩:=N.grow o.type z xa es.length cap q hz D f2 f1 n1;have f3:=grownCap_ge c.w (es.length+ys.length) cap e;refine⟨g,grownCap c.w (es.length+ys.length) cap e,f3,?_,?_,?_,?_⟩
   .have:=congrArg List.length g1;simp only[Array.length_toList,List.length_append,hO.1,hE.1,size_zeroCells,j1] at this;rw[this,<-Nat.add_mul,<-Nat.add_mul];congr 1;omega
   .exact F _ _<|by rw[i1];exact g2
   .intro f hf;rcases List.mem_append.1 hf with h | h
    .exact a2 f h
    .exact V f h
   .intro k j x hx;let⟨u,k1,k2,k3⟩:=QY (rest:=(Builtin.zeroCells z.cells<|grownCap c.w (es.length+ys.length) cap e-(es.length+ys.length)).toList) hO hE k j x hx;refine⟨u,?_,k2,k3⟩;rw[<-g1] at k1;simpa using k1
  have M:∀(es:List<|List AV) (xa:Option Addr) (cap:Nat) (q:List Value),xv=.slice xa es.length cap->(∀e∈es,e.length=i.size)->kK (aG T) c i.size es q->
   (Builtin.firstCells i.size es.length<|.slice xa es.length cap).run P c.w.drew=.ok q.toArray c.w.drew->cap<es.length+ys.length->kO (es.length+ys.length) i.bytes=true->
   cZ P (aG T) c fl o a (.ms c.H.length (es.length+ys.length) 0<|es.length+ys.length) (c.H++[.blk i.size<|es++ys]):=by
   intro es xa cap q h1 h2 h3 h4 h5 h6;let⟨g,E,q1,q2,q3,q4,q5⟩:=Y es xa cap q h1 h2 h3 h4 h5 h6;have:=vW (P:=P) (o:=o) (a:=a) O j3 false (es:=es++ys) (n:=es.length+ys.length) (cap:=E) (cv:=g) (t:=e) (s:=i.size) (w':=c.w.drew.alloc<|.cells g e (0,0))
    (by simp) q1 (by simp) rfl rfl rfl rfl q3 q2 q4 q5
   simpa using this
  split at d
  .have Q:=hx.lit_inv;split at d
   .rename_i W;cases d;exact C W ⟨none,0,0,Q,Nat.le_refl _⟩
   .rename_i W;cases d;have:=M [] none 0 [] Q (by simp) ⟨by simp,λi j x hx=>by simp[bL] at hx⟩ (by simp[Builtin.firstCells]) (by simp;omega) (by simpa using a3);simpa using this
  .rename_i f es;let⟨xa,cap,Q,a2,c3⟩:=WS hx.sl_inv;split at d
   .rename_i W;cases d;exact C W ⟨xa,_,cap,Q,a2⟩
   .rename_i W;split at d
    .rename_i hc;cases d;have b2:=xK hc.2.1;let⟨j2,l3,q,k1,k2,k3⟩:=zN (P:=P) O hx (by simp[rd]:rd c.H (.sl f es)=some es) b2 d3;rw[Q] at k1;cases k1;exact M es xa cap q Q b2 k2 k3 (by rw[c3 hc.1];omega) hc.2.2
    .cases d
  .rename_i id tot off len;let⟨ad,cap,s0,n0,Q,g1,g2,g3,g4⟩:=hx.ms_inv;split at d
   .rename_i s' es A;split at d
    .rename_i hc;obtain⟨rfl,S,L⟩:=hc;rw[fL A] at g1;cases g1;let⟨m1,m2⟩:=g4 S.symm;have G:=O.lens id i.size es A;split at d
     .rename_i W;cases d;exact C W ⟨ad,len,cap,Q,g3⟩
     .rename_i W;split at d
      .rename_i K;split at d
       .rename_i b1;obtain⟨rfl,rfl⟩:=b1;cases d;subst S;have R:cap<es.length+ys.length->cZ P (aG T) c fl o a (.ms id (es.length+ys.length) 0<|es.length+ys.length) (c.H.set id<|.blk i.size<|es++ys):=by
         intro D;let⟨j2,l3,q,k1,k2,k3⟩:=zN (P:=P) O hx (by simp[rd,A]:rd c.H (.ms id es.length 0 es.length)=some es) G d3;rw[Q] at k1;cases k1;let⟨g,E,q1,q2,q3,q4,q5⟩:=Y es ad cap q Q G k2 k3 D L;have e1:es.length<(es++ys).length:=by simp;omega
         refine eC (β':=upd c.β id c.w.heap.size) q3 (Rz (ob:=.cells g e (0,0)) O K A e1 rfl rfl rfl rfl)
          (QM (cs':=g) (T:=e) O A e1 rfl rfl rfl rfl q4 (by rw[q2];exact Nat.mul_le_mul_right _<|by simpa using q1) q5) ?_
         refine .ms id _ 0 _ _ E i.size _ (by rw[Ho A];simp) (Nat.le_refl _) q1 λ_=>⟨by omega,.inr ⟨c.w.heap.size,g,e,_,dG _ _ _,?_,by simpa using q2.symm,rfl,λ_=>by simp⟩⟩;exact heap_alloc_new c.w.drew _
        rcases m2 with⟨_,X,I,m5⟩ | ⟨b,cc,U,a',X,I,m5,m6,m7⟩
        .exact R<|by omega
        .by_cases D:cap<es.length+ys.length
         .exact R D
         .have b3:cap≠0:=by omega
          have ha:=m7 b3;subst m6;subst ha;let⟨i3,l2,q1,q2,q3⟩:=O.blk id i.size es b A X;rw[I] at q1;cases q1;have B:es.length*i.size+y.length<=cc.size:=by
           rw[hE.1,<-m5,<-Nat.add_mul];exact Nat.mul_le_mul_right _<|by omega
          let⟨p1,p2⟩:=Ii (k:=es.length) G V (Nat.le_refl _) hE B q3;have n3:aU es es.length ys=es++ys:=by simp[aU]
          rw[n3] at p1 p2;have a1:=run_storeCells_at P b (es.length*i.size) U y 0 cc c.w I (by simpa using B)<|qD V hE;rw[lT] at a1;have p:=dX (l:=cc.toList) (vs:=y) (k:=es.length*i.size) (by simpa using B);have J:=N.run o.type (some ⟨b,0*i.size,none⟩) es.length cap (by omega) _ (λn2 h=>by cases h;rw[fS];simpa using a1) (λh=>by cases h);rw[<-Q] at J;refine eC (β':=c.β) (F _ _ J)
           (qG (cs':=(aU cc.toList (es.length*i.size) y).toArray) O K A X I (by simp) (by simpa using p) (setRow_heap c.w b cc _ U _ I) (λk hk=>setRow_other c.w b k _ hk) (by simp) rfl rfl rfl)
           (Az (cs':=(aU cc.toList (es.length*i.size) y).toArray) O A X I (by simp) (by simpa using p) (setRow_heap c.w b cc _ U _ I) (λk hk=>setRow_other c.w b k _ hk) (by simp) rfl rfl rfl p1 ?_ p2) ?_
          .simp only[List.length_append,List.size_toArray,p,Array.length_toList];rw[Nat.add_mul,<-hE.1];exact B
          .refine .ms id _ 0 _ _ cap i.size _ (by rw[Ho A];simp) (Nat.le_refl _) (by omega) λ_=>⟨by omega,.inr ⟨b,_,U,_,X,setRow_heap c.w b cc _ U _ I,?_,rfl,λ_=>rfl⟩⟩;simpa [p] using m5
       .rename_i b1;split at d
        .rename_i d2;cases d;subst S;rcases m2 with⟨_,X,I,m5⟩ | ⟨b,cc,U,a',X,I,m5,m6,m7⟩
         .omega
         .let⟨i3,l2,q1,q2,q3⟩:=O.blk id i.size es b A X;rw[I] at q1;cases q1;have D:es.length<=off+cap:=by
           rcases Nat.lt_or_ge (off+cap) es.length with h | h
           .have:(off+cap+1)*i.size<=es.length*i.size:=Nat.mul_le_mul_right _ h;rw[Nat.add_mul] at this;omega
           .exact h
          have b3:cap≠0:=by omega
          have ha:=m7 b3;subst m6;subst ha;have B:(off+len)*i.size+y.length<=cc.size:=by
           rw[hE.1,<-Nat.add_mul];exact Nat.le_trans (Nat.mul_le_mul_right _ d2) q2
          let⟨p1,p2⟩:=Ii (k:=off+len) G V (by omega) hE B q3;have a1:=run_storeCells_at P b ((off+len)*i.size) U y 0 cc c.w I (by simpa using B)<|qD V hE;rw[lT] at a1;have p:=dX (l:=cc.toList) (vs:=y) (k:=(off+len)*i.size) (by simpa using B);have Z:=dX (l:=es) (vs:=ys) (k:=off+len) d2;have J:=N.run o.type (some ⟨b,off*i.size,none⟩) len cap (by omega) _ (λn2 h=>by cases h;rw[fS,<-Nat.add_mul];exact a1) (λh=>by cases h);rw[<-Q] at J;refine eC (β':=c.β) (F _ _ J)
           (qG (cs':=(aU cc.toList ((off+len)*i.size) y).toArray) O K A X I (by omega) (by simpa using p) (setRow_heap c.w b cc _ U _ I) (λk hk=>setRow_other c.w b k _ hk) (by simp) rfl rfl rfl)
           (Az (cs':=(aU cc.toList ((off+len)*i.size) y).toArray) O A X I (by omega) (by simpa using p) (setRow_heap c.w b cc _ U _ I) (λk hk=>setRow_other c.w b k _ hk) (by simp) rfl rfl rfl p1 ?_ p2) ?_
          .simp only[List.size_toArray,p,Array.length_toList,Z];exact q2
          .refine .ms id _ off _ _ cap i.size _ (by rw[Ho A];simp[Z]) (Nat.le_refl _) (by omega) λ_=>⟨by omega,.inr ⟨b,_,U,_,X,setRow_heap c.w b cc _ U _ I,?_,rfl,λ_=>rfl⟩⟩;simpa [p] using m5
        .cases d
      .cases d
    .cases d
   .cases d
  .cases d
 .cases d
theorem aFb{H:aM}{v:AV}{ys:List<|List AV}(h:rd [] v=some ys): rd H v=some ys:=by
 unfold rd at h |-;split at h
 .exact h
 .exact h
 .exact h
 .simp at h
 .cases h
theorem BT{H:aM}{s:Nat}{v:AV}{ys:List<|List AV}(h:rd H v=some ys): rdY s H v=some ys:=by
 unfold rdY;split
 .split
  .cases h
  .exact h
 .exact h
theorem Q1(b:ByteArray): (HB b).length=b.size/\∀e∈HB b,e.length=1:=by
 refine⟨by unfold HB;rw[List.length_map,Array.length_toList];rfl,λe he=>?_⟩;simp only[HB,List.mem_map] at he;obtain⟨_,_,rfl⟩:=he;rfl
theorem aBA[aB]{FT:Nat->Option Nat}(b:ByteArray): kK FT c 1 (HB b) (b.data.toList.map λb=>.int .u8 ((b.toNat:Nat):Int)):=by
 refine⟨by unfold HB;rw[List.length_map,List.length_map,Nat.mul_one],λi j x h=>?_⟩;let⟨e,p,q⟩:=dI h;simp only[HB,List.getElem?_map,Option.map_eq_some_iff] at p;obtain⟨u,p,rfl⟩:=p
 cases j with
 | zero=>
  simp only[List.getElem?_cons_zero,Option.some.injEq] at q;subst q;exact⟨_,by simp only[Nat.mul_one,Nat.add_zero,List.getElem?_map,p,Option.map_some],rfl,RV.lit _⟩
 | succ j=>simp at q
theorem Ts[aB](l:bJ (aG T) c)(j:TR (aG T) c tm a.tmps)(A:fl<=c.H.length){x y:aQ}{D B:Operand}{t u e:TypeId}{U:TypeDesc}{i:TypeInfo}{z:Value}{s bytes:Nat}{ys:List<|List AV}{r:AV}{H':aM}(J:o.op=.call ⟨.builtin .append,#[D,B],#[t,u]⟩)(M:aN T x D=true)(L:aN T y B=true)(F:P.underlying t=some (.slice e))(n:P.underlying u=some U)(hU:U=.string\/∃e',U=.slice e')(K:P.info? e=some i)(f:i.size=s)(p:i.bytes=bytes)(N:i.zero=some z)(q:z.cells.size=s)(m:rdY s c.H (aC tm y)=some ys)(b:cC fl c.H s bytes (aC tm x) ys=some (r,H')): cZ P (aG T) c fl o a r H':=by
 have g:cY s ys=true/\0<s:=by
  unfold cC at b;split at b
  .rename_i h;exact⟨h.1,h.2.1⟩
  .cases b
 have G:∀(m:rd c.H (aC tm y)=some ys),cZ P (aG T) c fl o a r H':=by
  intro m;let⟨xa,O,d,C,_,G,v⟩:=d9 (P:=P) l (aR l j L) m (xK g.1) g.2;have k:Src P c.w t u e i (a.eval B) ys.length d:=by
   rw[C];exact E1 F n hU K<|by rw[f,<-C];exact v
  refine Tu l A (aR l j M) k G rfl f p N q b ?_;intro cv w' I;simp[execOp,J,resolve,invoke,builtin,I]
 unfold rdY at m;split at m
 .rename_i v hv;split at m
  .rename_i sb;split at m
   .cases m;have hy:=aR l j L;rw[hv] at hy;have e1:a.eval B=.string sb:=hy.lit_inv;have k:Src P c.w t u e i (a.eval B) sb.size (sb.data.toList.map λb=>.int .u8 ((b.toNat:Nat):Int)):=by
     rw[e1];exact aBH F n hU K
    refine Tu l A (aR l j M) k (aBA sb) (Q1 sb).1 f p N q b ?_;intro cv w' I;simp[execOp,J,resolve,invoke,builtin,I]
   .cases m
  .exact G (by rw[hv];exact m)
 .exact G m
theorem Xv[aB]{FT:Nat->Option Nat}{s n:Nat}{z:List Value}{v:Value}(d:z.length=s)(b:∀u∈z,aY u=true)(e:v.cells=z.toArray):
 kK FT c s (List.replicate n<|z.map AV.lit) (Builtin.zeroCells v.cells n).toList:=by
 have a:v.cells.size=s:=by rw[e];simpa using d
 let⟨_,h⟩:=Bc (FT:=FT) (c:=c) (n:=n) (m:=n) (cv:=v.cells) d b (by rw[e])<|Nat.le_refl _;refine⟨by simp[size_zeroCells,a],λi j x g=>?_⟩;let⟨u,f,k,l⟩:=h i j x g;refine⟨u,?_,k,l⟩;rw[<-f];simp only[Builtin.zeroCells,a,Array.getElem?_toList]
theorem XN[aB](G:bJ (aG T) c)(f:TR (aG T) c tm a.tmps)(L:fl<=c.H.length){x y:aQ}{M B:Operand}{t q e:TypeId}{k:IntKind}{z:List Value}{s bytes n:Nat}{r:AV}{H':aM}(Q:o.op=.call ⟨.builtin .append,#[M,B],#[t,q]⟩)(V:aN T x M=true)(R:aN T y B=true)(S:P.underlying t=some (.slice e))(A:P.underlying q=some (.int k))(D:cT P e s=true)(u:qE P e bytes=true)(X:jR P e z=true)(j:z.length=s)(W:fA (aC tm y)=some n)(l:n<=2 ^ 20)(E:n*bytes<=2 ^ 40)(b:cC fl c.H s bytes (aC tm x) (List.replicate n<|z.map .lit)=some (r,H')): cZ P (aG T) c fl o a r H':=by
 have O:0<s:=by
  unfold cC at b;split at b
  .rename_i h;exact h.2.1
  .cases b
 let⟨i,C,I⟩:=dR D;let⟨Y,v,g,N,m,K⟩:=gA X;rw[C] at g;cases g;have d:i.bytes=bytes:=by simpa [qE,C] using u
 have J:v.cells.size=s:=by rw[m];simpa using j
 let⟨k',F⟩:=pQ (aR G f R) W;have p:Src P c.w t q e i (a.eval B) n (Builtin.zeroCells v.cells n).toList:=by
  rw[F];exact E0 S A C N l (by rw[d];exact E) (by omega)<|by omega
 refine Tu G L (aR G f V) p (Xv j K m) (by simp) I d N J b ?_;intro cv w' U;simp[execOp,Q,resolve,invoke,builtin,U]
theorem aCx[aB](m:bJ (aG T) c)(B:TR (aG T) c tm a.tmps){x y:aQ}{x' Y:Operand}{t t' e:TypeId}{i:TypeInfo}{s id tot off len:Nat}{es ys:List<|List AV}(Z:o.op=.call ⟨.builtin .copy,#[x',Y],#[t,t']⟩)(h1:aN T x x'=true)(h2:aN T y Y=true)(W:P.underlying t=some (.slice e))(X:P.info? e=some i)(N:i.size=s)(R:rd c.H (aC tm y)=some ys)(S:cY s ys=true)(L:0<s)(hx:aC tm x=.ms id tot off len)(g:c.H[id]?=some (.blk s es))(A:es.length=tot)(V:ys.length<=len)(p:fl<=id){r:AV}{H':aM}(Q:(if ys.length=0 then some (AV.lit<|.int .i64 0,c.H) else some (AV.lit<|.int .i64 ys.length,c.H.set id<|.blk s<|aU es off ys))=some (r,H')): cZ P (aG T) c fl o a r H':=by
 have q:=xK S;let⟨xa,xc,d,M,_,G,U⟩:=d9 (P:=P) m (aR m B h2) R q L;have D:=aR m B h1;rw[hx] at D;let⟨ad,cap,s0,n0,C,g1,g2,g3,g4⟩:=D.ms_inv;rw[fL g] at g1;cases g1;let⟨m1,m2⟩:=g4 A.symm;have J:=U c.w<|sN.refl _;have j:Nat.min ys.length len=ys.length:=Nat.min_eq_left V;subst N;rw[M] at J;split at Q
 .rename_i E;cases Q;have F:d=[]:=List.eq_nil_of_length_eq_zero (by rw[G.1,E,Nat.zero_mul]);subst F;refine bM (cv:=.int .i64 0) m ?_<|RV.lit _;have a2:Nat.min ys.length len=0:=by rw[j,E]
  rw[E] at J;cases ad<;>simp[execOp,Z,resolve,invoke,builtin,Builtin.copy_,run_underlying W,sizeOf,typeInfo,X,Builtin.lenOf,M,C,E,J,storeCells,goInt]
 .rename_i E;cases Q;rcases m2 with⟨_,I,n,m5⟩ | ⟨b,cc,O,a',I,n,m5,m6,m7⟩
  .omega
  .have ha:=m7 (by omega);subst m6;subst ha;let⟨a3,a1,q1,q2,q3⟩:=m.blk id i.size es b g I;rw[n] at q1;cases q1;have z:off+ys.length<=es.length:=by omega
   have h:off*i.size+d.length<=cc.size:=by
    rw[G.1,<-Nat.add_mul];exact Nat.le_trans (Nat.mul_le_mul_right _ z) q2
   let⟨p1,p2⟩:=Ii (k:=off) (m.lens id _ es g) q (by omega) G h q3;have v:=run_storeCells_at P b (off*i.size) O d 0 cc c.w n (by simpa using h)<|qD q G;rw[lT] at v;have f:=dX (l:=cc.toList) (vs:=d) (k:=off*i.size) (by simpa using h);have u:=dX (l:=es) (vs:=ys) (k:=off) z;refine eC (β':=c.β) (cv:=.int .i64 ys.length) ?_
    (qG (cs':=(aU cc.toList (off*i.size) d).toArray) m p g I n (by omega) (by simpa using f) (setRow_heap c.w b cc _ O _ n) (λk K=>setRow_other c.w b k _ K) (by simp) rfl rfl rfl)
    (Az (cs':=(aU cc.toList (off*i.size) d).toArray) m g I n (by omega) (by simpa using f) (setRow_heap c.w b cc _ O _ n) (λk K=>setRow_other c.w b k _ K) (by simp) rfl rfl rfl p1 ?_ p2)<|RV.lit _
   .simp[execOp,Z,resolve,invoke,builtin,Builtin.copy_,run_underlying W,sizeOf,typeInfo,X,Builtin.lenOf,M,C,j,J,v,goInt]
   .simp only[List.size_toArray,f,Array.length_toList,u];exact q2
theorem W1[aB](A:bJ (aG T) c)(X:TR (aG T) c tm a.tmps){x:aQ}{x':Operand}{t e:TypeId}{s:Nat}{z:List Value}(R:o.op=.call ⟨.builtin .clear,#[x'],#[t]⟩)(h1:aN T x x'=true)(Q:P.underlying t=some (.slice e))(V:cT P e s=true)(hz:jR P e z=true){r:AV}{H':aM}(g:(aC tm x=.lit (.slice none 0 0)/\r=.tup []/\H'=c.H)\/(∃f,aC tm x=.sl f []/\r=.tup []/\H'=c.H) \/
  ∃id tot off len es,aC tm x=.ms id tot off len/\c.H[id]?=some (.blk s es)/\es.length=tot/\off+len<=tot/\fl<=id/\0<s/\z.length=s /\
   (if len=0 then some (AV.tup [],c.H) else some (AV.tup [],c.H.set id<|.blk s<|aU es off<|List.replicate len<|z.map .lit))=some (r,H')): cZ P (aG T) c fl o a r H':=by
 have h:=aR A X h1;have q:RV (aG T) c (.tup [])<|.tuple #[]:=.tup [] #[] (λ_=>aW) rfl (λi x g=>by simp at g) (λi x g=>by simp at g);let⟨i0,c2,b1⟩:=dR V;let⟨i',v,a2,hv,Y,a3⟩:=gA hz;rcases g with⟨g,rfl,rfl⟩ | ⟨f,g,rfl,rfl⟩ | ⟨id,tot,off,len,es,g,p,O,c3,C,c1,L,Z⟩
 .rw[g] at h;refine bM (cv:=.tuple #[]) A ?_ q;simp[execOp,R,resolve,invoke,builtin,Builtin.clear_,run_underlying Q,h.lit_inv]
 .rw[g] at h;let⟨ad,cap,a1,_⟩:=WS h.sl_inv;refine bM (cv:=.tuple #[]) A ?_ q;have K:a.eval x'=.slice ad 0 cap:=a1;cases ad<;>simp[execOp,R,resolve,invoke,builtin,Builtin.clear_,run_underlying Q,K]
 .rw[g] at h;let⟨ad,cap,s0,n0,I,g1,g2,g3,g4⟩:=h.ms_inv;rw[fL p] at g1;cases g1;let⟨m1,m2⟩:=g4 O.symm;split at Z
  .rename_i h0;cases Z;subst h0;refine bM (cv:=.tuple #[]) A ?_ q;cases ad<;>simp[execOp,R,resolve,invoke,builtin,Builtin.clear_,run_underlying Q,I]
  .rename_i h0;cases Z;rcases m2 with⟨_,S,E,m5⟩ | ⟨b,cc,Ty,a',S,E,m5,m6,m7⟩
   .omega
   .have ha:=m7 (by omega);subst m6;subst ha;let⟨b2,b3,q1,q2,q3⟩:=A.blk id s es b p S;rw[E] at q1;cases q1;have G:v.cells.toList=z:=by rw[Y]
    have B:v.cells.size=s:=by rw[<-Array.length_toList,G,L]
    let⟨W,p2⟩:=Bc (FT:=aG T) (c:=c) (n:=len) (m:=len) L a3 G<|Nat.le_refl _;have hE:kK (aG T) c s (List.replicate len<|z.map AV.lit) (Builtin.zeroCells v.cells len).toList:=by
     refine⟨by simp[Builtin.zeroCells,B],λi j x g=>?_⟩;let⟨u,w1,w2,w3⟩:=p2 i j x g;exact⟨u,by simp only[Builtin.zeroCells,Array.getElem?_toList,B];rw[B] at w1;exact w1,w2,w3⟩
    have J:=W;have M:off+len<=es.length:=by omega
    have y:off*s+(Builtin.zeroCells v.cells len).toList.length<=cc.size:=by
     rw[hE.1,List.length_replicate,<-Nat.add_mul];exact Nat.le_trans (Nat.mul_le_mul_right _ M) q2
    let⟨W,p2⟩:=Ii (k:=off) (A.lens id _ es p) J (by omega) hE y q3;have F:=run_storeCells_at P b (off*s) Ty _ 0 cc c.w E (by simpa using y)<|qD J hE;rw[lT] at F;have d:=dX (l:=cc.toList) (vs:=(Builtin.zeroCells v.cells len).toList) (k:=off*s) (by simpa using y);have D:=dX (l:=es) (vs:=List.replicate len<|z.map AV.lit) (k:=off) (by simpa using M);refine eC (β':=c.β) (cv:=.tuple #[]) ?_
     (qG (cs':=(aU cc.toList (off*s) (Builtin.zeroCells v.cells len).toList).toArray) A C p S E (by omega) (by simpa using d) (setRow_heap c.w b cc _ Ty _ E) (λk U=>setRow_other c.w b k _ U) (by simp) rfl rfl rfl)
     (Az (cs':=(aU cc.toList (off*s) (Builtin.zeroCells v.cells len).toList).toArray) A p S E (by omega) (by simpa using d) (setRow_heap c.w b cc _ Ty _ E) (λk U=>setRow_other c.w b k _ U) (by simp) rfl rfl rfl W ?_ p2)<|.tup [] #[] (λ_=>aW) rfl (λi x g=>by simp at g) λi x g=>by simp at g
    .let⟨n1,N⟩:∃n1,len=n1+1:=⟨len-1,by omega⟩;simp[execOp,R,resolve,invoke,builtin,Builtin.clear_,run_underlying Q,I,zeroValue,typeInfo,a2,hv,F,N];subst N;simp[F]
    .simp only[List.size_toArray,d,Array.length_toList,D];exact q2
theorem Xr{FT:Nat->Option Nat}: ∀(es:List<|List AV) (f:List Int) (a:List Value),qB es=some f->kK FT c 1 es a->a=f.map (Value.int .u8)/\∀e∈es,e.length=1
 | [],f,a,h,k=>by
  simp only[qB,Option.some.injEq] at h;subst h;exact⟨List.eq_nil_of_length_eq_zero<|by simpa using k.1,by simp⟩
 | e::r,f,a,h,k=>by
  simp only[qB] at h;split at h
  .rename_i n;split at h
   .rename_i l y;cases h;let⟨b,d⟩:=k;cases a with
    | nil=>simp at b
    | cons v vs=>
     let⟨u,p,_,s⟩:=d 0 0 (.lit<|.int .u8 n) rfl;simp only[Nat.zero_mul,Nat.zero_add,List.getElem?_cons_zero,Option.some.injEq] at p;subst p;have m:kK FT c 1 r vs:=⟨by simpa using b,λi j x t=>by
      let⟨u,g,o,w⟩:=d (i+1) j x (by simpa [bL] using t);have q:(i+1)*1+j=(i*1+j)+1:=by omega
      rw[q,List.getElem?_cons_succ] at g;exact⟨u,g,o,w⟩⟩
     let⟨g,o⟩:=Xr r l vs y m;refine⟨by rw[s.lit_inv,g];rfl,λe he=>?_⟩;rcases List.mem_cons.1 he with rfl | he
     .rfl
     .exact o e he
   .cases h
  .cases h
theorem FQ: ∀(es:List<|List AV) (a:List Int),qB es=some a->a.length=es.length/\∀e∈es,e.length=1
 | [],a,h=>by
  simp only[qB,Option.some.injEq] at h;subst h;exact⟨rfl,by simp⟩
 | e::r,a,h=>by
  simp only[qB] at h;split at h
  .split at h
   .rename_i l d;cases h;let⟨c,b⟩:=FQ r l d;refine⟨by simp[c],λe he=>?_⟩;rcases List.mem_cons.1 he with rfl | he
    .rfl
    .exact b e he
   .cases h
  .cases h
theorem W0[aB](p:bJ (aG T) c)(n:TR (aG T) c tm a.tmps){x:aQ}{r:Operand}{s d:TypeId}{es:List<|List AV}{b:List Int}(E:o.op=.convert s d r)(A:aN T x r=true)(F:rd c.H (aC tm x)=some es)(h:Bp P s d=true)(j:qB es=some b): cZ P (aG T) c fl o a (.lit<|.string<|xR b) c.H:=by
 have u:=aR p n A;let⟨C,l⟩:=FQ es b j;let⟨xa,v,i,z,_,B,k⟩:=d9 (P:=P) p u F l (by omega);obtain⟨rfl,_⟩:=Xr es b i j B;have m:=k c.w<|sN.refl _;unfold Bp at h;split at h
 .rename_i e q;split at h
  .rename_i he;split at h
   .rename_i y;refine bM (cv:=.string<|xR b) p ?_<|RV.lit _;rw[z] at m;have g:(convert s d<|.slice xa es.length v).run P c.w=.ok (.string<|xR b) c.w:=by
     cases xa with
     | none=>
      have G:b=[]:=by
       have:(b.map<|Value.int .u8).toArray=#[]:=by
        have:=m;simp[Builtin.firstCells] at this;simpa using this.symm
       simpa using this
      subst G;simp[convert,run_underlying q,run_underlying y,run_underlying he,Conv.bytesToString,xR]
     | some ad=>
      have D:(loadCells ad es.length).run P c.w=.ok (b.map<|Value.int .u8).toArray c.w:=by
       simpa [Builtin.firstCells] using m
      simp[convert,run_underlying q,run_underlying y,run_underlying he,run_bytesToString c.w ad es.length v b D,xR]
    simp[execOp,E,z,g]
   .cases h
  .cases h
 .cases h
end
section
variable {FT:Nat->Option Nat}{c c':bV}
theorem Hq[aB]{n:Nat}{I:Nat->Prop}(M:bJ FT c')(a:∀b,mF c' b->I b)(g:∀id b,n<=id->c'.β id=some b->I b):
 ∀(d:Nat) (x:AV) (v:Value),RV FT c' x v->RP c'.w I (dZ c'.H n d x) v
 | d,.lit u,v,h=>by
  have:dZ c'.H n d (.lit u)=sS u:=by cases d<;>rfl
  rw[this,h.lit_inv];exact MS u
 | d,.sl f es,v,h=>by
  have:dZ c'.H n d (.sl f es)=.sl false es:=by cases d<;>rfl
  rw[this];exact MR<|h.sl_inv.mono λb o J t=>⟨a b J,t⟩
 | 0,.ms id tot off len,v,_=>.undef v
 | d+1,.ms id tot off len,v,h=>by
  simp only[dZ];split
  .rename_i V;split
   .rename_i es c;let⟨ad,cap,B,n0,hv,N,g2,Y,Q⟩:=h.ms_inv;unfold rd at c;simp only at c;split at c
    .rename_i s' r p;split at c
     .rename_i G;cases c;rw[fL p] at N;cases N;let⟨m1,m2⟩:=Q G.symm;have A:((r.drop off).take len).length=len:=by simp;omega
      subst hv;by_cases R:len=0
      .subst R;simp only[List.take_zero,List.map_nil];exact .nil false _ _ λh=>by cases h
      .rcases m2 with⟨_,m3,X,m5⟩ | ⟨b,cc,Ty,a',m3,X,m5,m6,m7⟩
       .omega
       .have ha:=m7 (by omega);subst m6;subst ha;let⟨a2,a1,q1,q2,q3⟩:=M.blk id B r b p m3;rw[X] at q1;cases q1;have C:=M.lens id B r p;have m:∀i j x,bL (((r.drop off).take len).map λe=>e.map<|dZ c'.H n d) i j=some x->
         ∃y u,x=dZ c'.H n d y/\cc[off*B+(i*B+j)]?=some u/\aY u=true/\RV FT c' y u:=by
         intro i j x q;obtain⟨y,hy,rfl⟩:=jB q;let⟨e,he,hj⟩:=dI hy;rw[List.getElem?_take] at he;split at he
         .rw[List.getElem?_drop] at he;let⟨u,s,E,K⟩:=q3 (off+i) j y (by simp[bL,he,hj]);exact⟨y,u,rfl,by rw[<-s];congr 1;rw[Nat.add_mul];omega,E,K⟩
         .cases he
        have z:=RP.sl (w:=c'.w) (I:=I) false (((r.drop off).take len).map λe=>e.map<|dZ c'.H n d) b (off*B) cap cc Ty (0,0) B
         (λi j=>(cc[off*B+(i*B+j)]?).getD aW)
         (by intro e;have:=congrArg List.length e;simp at this;omega) (g id b V m3) X
         (λe he=>by
          simp only[List.mem_map] at he;obtain⟨e0,L,rfl⟩:=he;simpa using C e0<|List.mem_of_mem_drop<|List.mem_of_mem_take L)
         (by simp only[List.length_map,A];exact Y) λh=>by cases h
         (λi j x q=>by
          let⟨y,u,_,s,E,_⟩:=m i j x q;simp[s,E])
         (λi j x q=>by
          let⟨y,u,W,s,_,K⟩:=m i j x q;rw[W];simp only[s,Option.getD_some];exact Hq M a g d y u K)
        simp only[List.length_map,A] at z;exact z
     .cases c
    .cases c
   .exact .undef v
  .exact .undef v
 | d,.undef,v,_=>by
  have:dZ c'.H n d .undef=.undef:=by cases d<;>rfl
  rw[this];exact .undef v
 | d,.ptr ..,v,_=>by cases d<;>exact .undef v
 | d,.rptr ..,v,_=>by cases d<;>exact .undef v
 | d,.vw ..,v,_=>by cases d<;>exact .undef v
 | d,.sptr cs,v,h=>by
  have:dZ c'.H n d (.sptr cs)=.sptr cs:=by cases d<;>rfl
  rw[this];cases h with
  | pure _ _ T=>exact T.mono λb o J t=>⟨a b J,t⟩
 | d,.rmp l,v,h=>by
  have:dZ c'.H n d (.rmp l)=.rmp l:=by cases d<;>rfl
  rw[this];cases h with
  | pure _ _ T=>exact T.mono λb o J t=>⟨a b J,t⟩
 | 0,.mp id,v,_=>.undef v
 | d+1,.mp id,v,h=>by
  simp only[dZ];split
  .rename_i V;split
   .rename_i l p;obtain⟨b,rfl,_,t⟩:=h.mp_inv;let⟨es,S,N,⟨g2,Y⟩,Q⟩:=M.map id l b p t;refine .rmp _ b es S (λi=>(es[i]?).getD default) (g id b V t) N (by simpa using g2) Y ?_ ?_
    .intro i k x q;rw[List.getElem?_map,Option.map_eq_some_iff] at q;let⟨⟨U,O⟩,L,Z⟩:=q;cases Z;let⟨e,s,E,_⟩:=Q i U O L;simp[s,E]
    .intro i k x q;rw[List.getElem?_map,Option.map_eq_some_iff] at q;let⟨⟨U,O⟩,L,Z⟩:=q;cases Z;let⟨e,s,_,K⟩:=Q i U O L;simp only[s,Option.getD_some];exact Hq M a g d O e.val K
   .exact .undef v
  .exact .undef v
 | d,.it ..,v,_=>by cases d<;>exact .undef v
 | d,.fn ..,v,_=>by cases d<;>exact .undef v
 | d,.agg ..,v,_=>by cases d<;>exact .undef v
 | d,.tup ..,v,_=>by cases d<;>exact .undef v
def nD(c c':bV): bV:=⟨c'.w,c.X,c.β,c.H⟩
theorem Hn[aB]{fl:Nat}(l:bJ FT c)(h:bG c.H.length c c'): bG fl c (nD c c') where
 X:=rfl;os:=h.os;tape:=h.tape;output:=h.output;drawn:=h.drawn;size:=h.size;len:=Nat.le_refl _;frame:=h.frame;img:=λi _ a=>.inr ⟨i,a⟩;blkS:=λid s n e=>⟨n,e,Nat.le_refl _,λ_=>⟨rfl,λb cs T a g=>⟨cs,by
  have:=(h.floor id<|l.dom id b a).2.2 b a;rw[<-g];exact this,rfl⟩⟩⟩
 mpS:=λ_ r=>⟨r,rfl⟩;floor:=λid _=>⟨rfl,rfl,λb a=>(h.floor id<|l.dom id b a).2.2 b a⟩
theorem BM[aB](d:bJ FT c)(h:bG c.H.length c c'): bJ FT<|nD c c':=by
 have g:=Hn (fl:=0) d h;have f:∀id b,c.β id=some b->c'.w.heap[b]?=c.w.heap[b]?:=λid b a=>(h.floor id<|d.dom id b a).2.2 b a;refine⟨d.gl.step g,d.inj,d.dom,d.nx,λk A=>d.fresh k<|Nat.le_trans h.size A,d.lens,?_,?_,λid q b l a=>(f id b a).trans<|d.raw id q b l a⟩
 .intro id s es b l a;let⟨cs,T,y,n,u⟩:=d.blk id s es b l a;exact⟨cs,T,(f id b a).trans y,n,λi j x r=>let ⟨v,o,t,z⟩:=u i j x r;⟨v,o,t,z.step g⟩⟩
 .intro id m b l a;let⟨es,p,y,n,u⟩:=d.map id m b l a;exact⟨es,p,(f id b a).trans y,n,λi k x r=>let ⟨e,o,t,z⟩:=u i k x r;⟨e,o,t,z.step g⟩⟩
structure Fl(c c':bV): Prop where
 X:c'.X=c.X
 floor:∀id,id<c.H.length->c'.H[id]?=c.H[id]?/\c'.β id=c.β id
theorem bG.fl(h:bG c.H.length c c'): Fl c c':=⟨h.X,λid a=>⟨(h.floor id a).1,(h.floor id a).2.1⟩⟩
theorem Nx[aB](O:bJ FT c)(r:bJ FT c')(h:Fl c c'){x:AV}{v:Value}(hr:RV FT c' x v): RV FT (nD c c') (gC c'.H c.H.length x) v:=by
 have l:∀b,mF c' b->mF (nD c c') b:=by
  intro b D;refine⟨by have:=D.1;rw[h.X] at this;exact this,λid d=>D.2 id ?_⟩;have g:c.β id=some b:=d;rw[(h.floor id<|O.dom id b g).2];exact g
 have u:∀id b,c.H.length<=id->c'.β id=some b->mF (nD c c') b:=by
  intro id b B z;refine⟨by have:=r.nx id b z;rwa [h.X] at this,λm g=>?_⟩;have k:c.β m=some b:=g;have M:=O.dom m b k;have:c'.β m=some b:=by rw[(h.floor m M).2];exact k
  have:=r.inj id m b z this;omega
 have t:∀id,id<c.H.length->shp c.H id=shp c'.H id:=λid d=>by simp[shp,(h.floor id d).1]
 cases hr with
 | pure _ _ hp=>
  have C:=hp.mono (w':=(nD c c').w) (I':=mF<|nD c c') λb o D z=>⟨l b D,z⟩;have B:=MR C;cases C with
  | undef v=>exact .pure _ _<|.undef v
  | lit v=>exact .pure _ _ B
  | nil f a cap hf=>exact .pure _ _ B
  | sl f es b off cap cc T fz s j U Y N V h5 h6 h7 h8=>exact .pure _ _ B
  | sptr cs b off cc T fz j U Y N V=>exact .pure _ _ B
  | rmp y b es a3 j U Y N V h5 h6=>exact .pure _ _ B
 | ms id tot off len a cap s n p q A G=>
  simp only[gC];split
  .rename_i d;refine .ms id tot off len a cap s n (by show shp c.H id=_;rw[t id d];exact p) q A λe=>?_;let⟨m1,m2⟩:=G e;have Q:=(h.floor id d).2;refine⟨m1,?_⟩;rcases m2 with⟨L,E,J,K⟩ | ⟨b,cs,T,a',L,E,J,K,m7⟩
   .exact .inl ⟨Q.symm.trans L,E,J,K⟩
   .exact .inr ⟨b,cs,T,a',Q.symm.trans L,E,J,K,m7⟩
  .exact .pure _ _<|Hq r l u eZ _ _<|.ms id tot off len a cap s n p q A G
 | ptr id tot I off a s n p q A=>
  simp only[gC];split
  .rename_i d;refine .ptr id tot I off a s n (by show shp c.H id=_;rw[t id d];exact p) q λe=>?_;let⟨b,z,ha⟩:=A e;exact⟨b,((h.floor id d).2).symm.trans z,ha⟩
  .exact RV.undef _
 | rptr=>exact RV.undef _
 | vnil=>exact RV.undef _
 | vw=>exact RV.undef _
 | mp id b p q=>
  simp only[gC];split
  .rename_i d;let⟨y,he,F⟩:=p;exact .mp id b ⟨y,by rw[<-he];exact ((h.floor id d).1).symm,F⟩<|((h.floor id d).2).symm.trans q
  .exact .pure _ _<|Hq r l u eZ _ _<|.mp id b p q
 | it=>exact RV.undef _
 | fn vi f caps cv j p q A G=>
  cases caps with
  | nil=>exact .fn vi f [] cv j p q A λi x hx=>by simp at hx
  | cons _ _=>exact RV.undef _
 | agg=>exact RV.undef _
 | tup=>exact RV.undef _
theorem QT[aB](g:bJ FT c)(b:bJ FT c')(h:Fl c c'){x:AV}{v:Value}(f:RV FT c' x v): RV FT (nD c c') (dS c'.H c.H.length x) v:=by
 unfold dS;split
 .rename_i cs;obtain⟨cv,d,rfl,j,l,k⟩:=f.agg_inv;refine .agg _ cv d (by simpa using j) ?_ ?_
  .intro i x a;simp only[List.getElem?_map,Option.map_eq_some_iff] at a;obtain⟨y,e,rfl⟩:=a;exact l i y e
  .intro i x a;simp only[List.getElem?_map,Option.map_eq_some_iff] at a;obtain⟨y,e,rfl⟩:=a;exact Nx g b h<|k i y e
 .exact Nx g b h f
theorem Nw[aB](g:bJ FT c)(b:bJ FT c')(h:Fl c c'){x:AV}{v:Value}(f:RV FT c' x v): RV FT (nD c c') (gS c'.H c.H.length x) v:=by
 unfold gS;split
 .rename_i cs;obtain⟨cv,d,rfl,j,l,k⟩:=f.tup_inv;refine .tup _ cv d (by simpa using j) ?_ ?_
  .intro i x a;simp only[List.getElem?_map,Option.map_eq_some_iff] at a;obtain⟨y,e,rfl⟩:=a;exact l i y e
  .intro i x a;simp only[List.getElem?_map,Option.map_eq_some_iff] at a;obtain⟨y,e,rfl⟩:=a;exact QT g b h<|k i y e
 .exact QT g b h f
end
section
variable {FT:Nat->Option Nat}{c:bV}
def frz(c:bV)(id s:Nat)(es:List<|List AV): bV:=⟨c.w,c.X,λi=>if i=id then none else c.β i,c.H.set id<|.blk s<|es++[List.replicate s .undef]⟩
theorem oF{id s i:Nat}{es:List<|List AV}(h:i≠id): (frz c id s es).H[i]?=c.H[i]?:=by
 simp only[frz];rw[List.getElem?_set_ne<|Ne.symm h]
theorem zM{id s:Nat}{es es':List<|List AV}(b:c.H[id]?=some (.blk s es')): (frz c id s es).H[id]?=some (.blk s<|es++[List.replicate s .undef]):=by
 have a:id<c.H.length:=by
  rcases Nat.lt_or_ge id c.H.length with h | h
  .exact h
  .rw[List.getElem?_eq_none h] at b;cases b
 simp only[frz];rw[List.getElem?_set_self a]
theorem nP[aB]{fl id s:Nat}{es:List<|List AV}(x:fl<=id)(k:c.H[id]?=some (.blk s es)): bG fl c (frz c id s es) where
 X:=rfl;os:=rfl;tape:=rfl;output:=rfl;drawn:=Nat.le_refl _;size:=Nat.le_refl _;len:=by simp[frz]
 frame:=λ_ _ _=>rfl;img:=λi b j=>by
  simp only[frz] at j;split at j
  .cases j
  .exact .inr ⟨_,j⟩
 blkS:=λi s' n m=>by
  by_cases a:i=id
  .subst a;simp only[shp,k,Option.some.injEq,Prod.mk.injEq] at m;let⟨rfl,rfl⟩:=m;exact⟨es.length+1,by simp[shp,zM k],by omega,λh=>by omega⟩
  .refine⟨n,by simp only[shp,oF a];exact m,Nat.le_refl _,λ_=>⟨by simp[frz,a],λb cs T _ q=>⟨cs,q,rfl⟩⟩⟩
 mpS:=λi u=>by
  let⟨e,he,f⟩:=u;have a:i≠id:=by
   intro h;subst h;rw[k] at he;cases he;exact f
  exact⟨⟨e,by rw[oF a];exact he,f⟩,by simp[frz,a]⟩
 floor:=λi a=>by
  have:i≠id:=by omega
  exact⟨oF this,by simp[frz,this],λ_ _=>rfl⟩
theorem Ba[aB]{id s:Nat}{es:List<|List AV}(f:bJ FT c)(y:c.H[id]?=some (.blk s es)): bJ FT<|frz c id s es:=by
 have g:=nP (fl:=0) (Nat.zero_le _) y;have k:∀i b,(frz c id s es).β i=some b->i≠id/\c.β i=some b:=by
  intro i b a;simp only[frz] at a;split at a
  .cases a
  .rename_i h;exact⟨h,a⟩
 refine⟨f.gl.step g,λi j b d z=>f.inj i j b (k i b d).2 (k j b z).2,λi b d=>?_,λi b d=>f.nx i b (k i b d).2,f.fresh,?_,?_,?_,λi q b h a=>by
  let⟨d,a⟩:=k i b a;rw[oF d] at h;exact f.raw i q b h a⟩
 .have:=f.dom i b (k i b d).2;simpa [frz] using this
 .intro i s' es' h e he;by_cases d:i=id
  .subst d;rw[zM y] at h;cases h;rcases List.mem_append.1 he with he | he
   .exact f.lens i s es y e he
   .simp at he;subst he;simp
  .rw[oF d] at h;exact f.lens i s' es' h e he
 .intro i s' es' b h a;let⟨d,a⟩:=k i b a;rw[oF d] at h;let⟨cs,T,w,p,t⟩:=f.blk i s' es' b h a;exact⟨cs,T,w,p,λi j x r=>let ⟨v,o,u,n⟩:=t i j x r;⟨v,o,u,n.step g⟩⟩
 .intro i m b h a;let⟨d,a⟩:=k i b a;rw[oF d] at h;let⟨cs,T,w,p,t⟩:=f.map i m b h a;exact⟨cs,T,w,p,λi j x r=>let ⟨v,o,u,n⟩:=t i j x r;⟨v,o,u,n.step g⟩⟩
theorem LZ[aB]{id s tot off len:Nat}{es:List<|List AV}{v:Value}(z:bJ FT c)(E:c.H[id]?=some (.blk s es))(n:es.length=tot)(h:RV FT c (.ms id tot off len) v):
 RV FT (frz c id s es) (.sl false<|((es.drop off).take len).map λe=>e.map vJ) v:=by
 let⟨ad,cap,s0,n0,W,J,g2,Y,X⟩:=h.ms_inv;rw[fL E] at J;cases J;let⟨m1,R⟩:=X n.symm;have f:((es.drop off).take len).length=len:=by simp;omega
 subst W;refine .pure _ _ ?_;by_cases C:len=0
 .subst C;simp only[List.take_zero,List.map_nil];exact .nil false _ _ λh=>by cases h
 .rcases R with⟨_,t,G,U⟩ | ⟨b,cc,L,a',t,G,U,m6,Q⟩
  .omega
  .have ha:=Q (by omega);subst m6;subst ha;let⟨O,M,K,q2,N⟩:=z.blk id s es b E t;rw[G] at K;cases K;have k:=z.lens id s es E;have m:∀b',mF c b'->mF (frz c id s es) b':=λb' r=>⟨r.1,λi d=>by
    simp only[frz] at d;split at d
    .cases d
    .exact r.2 i d⟩
   have a:∀i j x,bL (((es.drop off).take len).map λe=>e.map vJ) i j=some x->
    ∃y u,x=vJ y/\cc[off*s+(i*s+j)]?=some u/\aY u=true/\RV FT c y u:=by
    intro i j x p;obtain⟨y,Z,rfl⟩:=jB p;let⟨e,he,T⟩:=dI Z;rw[List.getElem?_take] at he;split at he
    .rw[List.getElem?_drop] at he;let⟨u,q,A,B⟩:=N (off+i) j y (by simp[bL,he,T]);exact⟨y,u,rfl,by rw[<-q];congr 1;rw[Nat.add_mul];omega,A,B⟩
    .cases he
   have g:=RP.sl (w:=c.w) (I:=mF<|frz c id s es) false (((es.drop off).take len).map λe=>e.map vJ) b (off*s) cap cc L (0,0) s
    (λi j=>(cc[off*s+(i*s+j)]?).getD aW)
    (by intro e;have:=congrArg List.length e;simp at this;omega)
    ⟨z.nx id b t,λi d=>by
     simp only[frz] at d;split at d
     .cases d
     .rename_i D;exact D<|z.inj i id b d t⟩ G
    (λe he=>by
     simp only[List.mem_map] at he;obtain⟨S,V,rfl⟩:=he;simpa using k S<|List.mem_of_mem_drop<|List.mem_of_mem_take V)
    (by simp only[List.length_map,f];exact Y) λh=>by cases h
    (λi j x p=>by
     let⟨y,u,_,q,A,_⟩:=a i j x p;simp[q,A])
    (λi j x p=>by
     let⟨y,u,F,q,_,B⟩:=a i j x p;rw[F];simp only[q,Option.getD_some];exact (BC B).mono λb o r d=>⟨m b r,d⟩)
   simp only[List.length_map,f] at g;exact g
theorem LY[aB]{id s tot a off:Nat}{es:List<|List AV}{e:List AV}{v:Value}(r:bJ FT c)(C:c.H[id]?=some (.blk s es))(n:es.length=tot)(he:es[a]?=some e)(h:RV FT c (.ptr id tot a off) v):
 RV FT (frz c id s es) (.sptr<|(e.drop off).map vJ) v:=by
 cases h with
 | pure _ _ D=>cases D
 | ptr _ _ _ _ ad M K A L I=>
  rw[fL C] at A;cases A;obtain⟨b,f,rfl⟩:=I n.symm;let⟨cc,F,G,N,E⟩:=r.blk id s es b C f;have l:∀b',mF c b'->mF (frz c id s es) b':=λb' p=>⟨p.1,λi f=>by
   simp only[frz] at f;split at f
   .cases f
   .exact p.2 i f⟩
  have d:∀j x,((e.drop off).map vJ)[j]?=some x->∃y u,x=vJ y/\cc[a*s+off+j]?=some u/\aY u=true/\RV FT c y u:=by
   intro j x k;rw[List.getElem?_map,Option.map_eq_some_iff] at k;obtain⟨y,B,rfl⟩:=k;rw[List.getElem?_drop] at B;let⟨u,m,w,q⟩:=E a (off+j) y (by simp[bL,he,B]);exact⟨y,u,rfl,by rw[<-m];congr 1;omega,w,q⟩
  refine .pure _ _<|.sptr _ b (a*s+off) cc F (0,0) (λj=>(cc[a*s+off+j]?).getD aW) ⟨r.nx id b f,λi g=>?_⟩ G ?_ ?_
  .simp only[frz] at g;split at g
   .cases g
   .rename_i t;exact t<|r.inj i id b g f
  .intro j x k;let⟨y,u,_,m,w,_⟩:=d j x k;simp[m,w]
  .intro j x k;obtain⟨y,u,rfl,m,_,q⟩:=d j x k;simp only[m,Option.getD_some];exact (BC q).mono λb o p f=>⟨l b p,f⟩
def KO(c:bV)(id s:Nat)(es:List<|List AV): bV:=⟨c.w,λk=>c.X k\/c.β id=some k,λi=>if i=id then none else c.β i,c.H.set id<|.blk s<|es++[List.replicate s .undef]⟩
theorem AB{id s:Nat}{es:List<|List AV}{b:Nat}: mF (KO c id s es) b↔mF c b:=by
 constructor
 .intro h;refine⟨λa=>h.1<|.inl a,λi d=>?_⟩;by_cases f:i=id
  .subst f;exact h.1<|.inr d
  .exact h.2 i<|by simp only[KO,if_neg f];exact d
 .intro h;refine⟨λa=>?_,λi d=>?_⟩
  .rcases a with a | a
   .exact h.1 a
   .exact h.2 _ a
  .simp only[KO] at d;split at d
   .cases d
   .exact h.2 i d
theorem MB{id s:Nat}{es:List<|List AV}{x:AV}{v:Value}(h:RP c.w (mF c) x v): RP (KO c id s es).w (mF<|KO c id s es) x v:=
 h.mono λ_ _ a b=>⟨AB.2 a,b⟩
theorem WQ[aB]{id s:Nat}{es:List<|List AV}{x:AV}{v:Value}(I:c.H[id]?=some (.blk s es))(h:RV FT c x v): RV FT (KO c id s es) x v:=by
 have k:∀i,i≠id->(KO c id s es).H[i]?=c.H[i]?:=λi g=>oF (s:=s) (es:=es) g;have m:(KO c id s es).H[id]?=some (.blk s<|es++[List.replicate s .undef]):=zM I;have F:∀i,i≠id->(KO c id s es).β i=c.β i:=λi g=>by simp[KO,g]
 have r:∀b,OT c b->OT (KO c id s es) b:=by
  intro b p i g;simp only[KO] at g;split at g
  .cases g
  .exact p i g
 have C:∀i,vZ c.H i->i≠id:=by
  rintro i ⟨e,he,o⟩ rfl;rw[I] at he;cases he;exact o
 induction h with
 | pure x v w=>exact .pure x v<|MB w
 | ms i tot off len a cap s' n t K G V=>
  by_cases g:i=id
  .subst g;rw[fL I] at t;cases t;exact .ms i tot off len a cap s (es.length+1) (by simp[shp,m]) (by omega) G λe=>by omega
  .refine .ms i tot off len a cap s' n (by simp only[shp,k i g];exact t) K G λe=>?_;let⟨U,S⟩:=V e;refine⟨U,?_⟩;rw[F i g];exact S
 | ptr i tot z off a s' n t K G=>
  by_cases g:i=id
  .subst g;rw[fL I] at t;cases t;exact .ptr i tot z off a s (es.length+1) (by simp[shp,m]) (by omega) λe=>by omega
  .refine .ptr i tot z off a s' n (by simp only[shp,k i g];exact t) K λe=>?_;rw[F i g];exact G e
 | rptr cs b off cc T L d g p q w=>exact .rptr cs b off cc T L d (r b g) p q λj x M=>MB<|w j x M
 | vnil a cap=>exact .vnil a cap
 | vw es' b off cap cc T L s' d J g p y D q w=>exact .vw es' b off cap cc T L s' d J (r b g) p y D q λi j x M=>MB<|w i j x M
 | mp i b u p=>
  have g:=C i u;let⟨e,he,o⟩:=u;exact .mp i b ⟨e,by rw[k i g];exact he,o⟩<|by rw[F i g];exact p
 | it i b u p=>
  have g:=C i u;let⟨e,he,o⟩:=u;exact .it i b ⟨e,by rw[k i g];exact he,o⟩<|by rw[F i g];exact p
 | fn vi f caps cv d R A q _ B=>exact .fn vi f caps cv d R A q B
 | agg cs cv d A q _ B=>exact .agg cs cv d A q B
 | tup cs cv d A q _ B=>exact .tup cs cv d A q B
theorem aBP[aB]{id s:Nat}{es:List<|List AV}(m:bJ FT c)(t:c.H[id]?=some (.blk s es)): bJ FT<|KO c id s es:=by
 have n:∀i b,(KO c id s es).β i=some b->i≠id/\c.β i=some b:=by
  intro i b a;simp only[KO] at a;split at a
  .cases a
  .rename_i h;exact⟨h,a⟩
 have l:∀i,i≠id->(KO c id s es).H[i]?=c.H[i]?:=λi f=>oF (s:=s) (es:=es) f;refine⟨?_,λi j b f J=>m.inj i j b (n i b f).2 (n j b J).2,λi b f=>?_,λi b f d=>?_,λk G d=>?_,?_,?_,?_,λi q b h a=>by
  let⟨f,a⟩:=n i b a;rw[l i f] at h;exact m.raw i q b h a⟩
 .intro g cs y;let⟨cc,T,O,r,I,F,M,K,L⟩:=m.gl g cs y;exact⟨cc,T,O,r,AB.2 I,F,M,K,λj x d=>MB<|L j x d⟩
 .have:=m.dom i b (n i b f).2;simpa [KO] using this
 .let⟨A,a⟩:=n i b f;rcases d with d | d
  .exact m.nx i b a d
  .exact A<|m.inj i id b a d
 .rcases d with d | d
  .exact m.fresh k G d
  .have I:=m.lt d;have F:c.w.heap.size<=k:=G;omega
 .intro i s' es' h e he;by_cases f:i=id
  .subst f;have N:(KO c i s es).H[i]?=some (.blk s<|es++[List.replicate s .undef]):=zM t;rw[N] at h;cases h;rcases List.mem_append.1 he with he | he
   .exact m.lens i s es t e he
   .simp at he;subst he;simp
  .rw[l i f] at h;exact m.lens i s' es' h e he
 .intro i s' es' b h a;let⟨f,a⟩:=n i b a;rw[l i f] at h;let⟨cs,T,B,E,z⟩:=m.blk i s' es' b h a;exact⟨cs,T,B,E,λi j x d=>let ⟨v,D,C,u⟩:=z i j x d;⟨v,D,C,WQ t u⟩⟩
 .intro i p b h a;let⟨f,a⟩:=n i b a;rw[l i f] at h;let⟨cs,T,B,E,z⟩:=m.map i p b h a;exact⟨cs,T,B,E,λi j x d=>let ⟨v,D,C,u⟩:=z i j x d;⟨v,D,C,WQ t u⟩⟩
section
variable {c':bV}{id s tot off len:Nat}{es:List (List AV)}
end
end
section
variable {P:Program}{T:List bK}{c:bV}{fl:Nat}{o:Oper}{a:Act}{tm:List AV}
theorem XK[aB](j:bJ (aG T) c)(k:TR (aG T) c tm a.tmps){x:aQ}{y:Operand}{id s tot f off:Nat}{es:List<|List AV}{e:List AV}(g:o.op=.move y\/o.op=.assign y)(h:aN T x y=true)(n:aC tm x=.ptr id tot f off)(l:fl<=id)(b:c.H[id]?=some (.blk s es))(d:es.length=tot)(he:es[f]?=some e):
 cZ P (aG T) c fl o a (.sptr<|(e.drop off).map vJ)<|c.H.set id<|.blk s<|es++[List.replicate s .undef]:=by
 have m:=aR j k h;rw[n] at m;refine eC (cv:=a.eval y) (w':=c.w) (β':=λi=>if i=id then none else c.β i) ?_ (nP l b) (Ba j b)<|LY j b d he m;rcases g with g | g<;>simp[execOp,g]
theorem G4[aB](g:bJ (aG T) c)(j:TR (aG T) c tm a.tmps){x:aQ}{y:Operand}{id s tot off len:Nat}{es:List<|List AV}(f:o.op=.move y\/o.op=.assign y)(h:aN T x y=true)(m:aC tm x=.ms id tot off len)(k:fl<=id)(b:c.H[id]?=some (.blk s es))(d:es.length=tot):
 cZ P (aG T) c fl o a (.sl false<|((es.drop off).take len).map λe=>e.map vJ)<|c.H.set id<|.blk s<|es++[List.replicate s .undef]:=by
 have l:=aR g j h;rw[m] at l;refine eC (cv:=a.eval y) (w':=c.w) (β':=λi=>if i=id then none else c.β i) ?_ (nP k b) (Ba g b)<|LZ g b d l;rcases f with f | f<;>simp[execOp,f]
theorem WG{w:World}{I:Nat->Prop}{cs:List AV}{ad:Addr}(h0:cs≠[])(h:RP w I (.sptr cs) (.pointer (some ad))): RP w I (.sl true<|cs.map λc=>[c]) (.slice (some ad) cs.length cs.length):=by
 cases h with
 | sptr _ b off cc T fz vals a e g k=>
  have q:∀i j x,bL (cs.map λc=>[c]) i j=some x->j=0/\cs[i]?=some x:=by
   intro i j x h;simp only[bL,List.getElem?_map] at h;cases hi:cs[i]? with
   | none=>rw[hi] at h;cases h
   | some y=>
    rw[hi] at h;simp only[Option.map_some,Option.bind_some] at h;cases j with
    | zero=>exact⟨rfl,by simpa using h⟩
    | succ j=>simp at h
  have:=RP.sl (w:=w) (I:=I) true (cs.map λc=>[c]) b off cs.length cc T fz 1 (λi _=>vals i) (by simpa using h0) a e (λe m=>by simp at m;obtain⟨_,_,rfl⟩:=m;rfl) (by simp) (λ_=>by simp) (λi j x h=>by
   let⟨y,z⟩:=q i j x h;subst y;simpa using g i x z) (λi j x h=>by
   let⟨y,z⟩:=q i j x h;subst y;exact k i x z)
  simpa using this
theorem TU: ∀{es:List (List AV)},cY 1 es=true->∀j,es.flatten[j]?=bL es j 0
 | [],_,j=>rfl
 | e::r,h,j=>by
  simp only[cY,List.all_cons,Bool.and_eq_true,beq_iff_eq] at h
  match e,h.1 with
  | [x],_=>
   cases j with
   | zero=>rfl
   | succ j=>simpa[bL] using TU (es:=r) h.2 j
theorem Ib{es:List (List AV)}{n j:Nat}{x:AV}(h:cY 1 es=true)(e:(es.take n).flatten[j]?=some x): bL es j 0=some x:=by
 have h2:cY 1 (es.take n)=true:=by
  simp only[cY,List.all_eq_true] at h |-;exact λe m=>h e (List.mem_of_mem_take m)
 rw[TU h2] at e;simp only[bL,List.getElem?_take] at e |-;split at e
 .exact e
 .cases e
theorem W9{es:List (List AV)}{s:Nat}(h0:es≠[])(h:cY 1 es=true)(k:∀e∈es,e.length=s): s=1:=by
 cases es with
 | nil=>exact (h0 rfl).elim
 | cons e r=>simp only[cY,List.all_cons,Bool.and_eq_true,beq_iff_eq] at h;rw[<-k e (by simp),h.1]
theorem V6[aB](j:bJ (aG T) c)(k:TR (aG T) c tm a.tmps){x:aQ}{y:Operand}{t e':TypeId}{id s tot f n:Nat}{es:List<|List AV}{e:List AV}(g:o.op=.slice t y none none none)(h:aN T x y=true)(ht:P.underlying t=some (.array n e'))(hz:cT P e' 1=true)(m:aC tm x=.ptr id tot f 0)(l:fl<=id)(b:c.H[id]?=some (.blk s es))(d:es.length=tot)(he:es[f]?=some e)(hn:e.length=n)(h0:0<n):
 cZ P (aG T) c fl o a (.sl true<|e.map λc=>[vJ c])<|c.H.set id<|.blk s<|es++[List.replicate s .undef]:=by
 have q:=aR j k h;rw[m] at q
 have r:=LY j b d he q
 obtain⟨ad,hv⟩:∃ad,a.eval y=.pointer (some ad):=by
  generalize a.eval y=v at q;cases q with
  | pure _ _ D=>cases D
  | ptr _ _ _ _ ad M K A L I=>exact⟨ad,rfl⟩
 rw[hv] at r
 simp only[List.drop_zero] at r
 have r2:RV (aG T) (frz c id s es) (.sl true<|e.map λc=>[vJ c]) (.slice (some ad) n n):=by
  cases r with
  | pure _ _ D=>
   have:=WG (by intro z;rw[List.map_eq_nil_iff] at z;subst z;simp at hn;omega) D
   rw[List.length_map,hn,List.map_map] at this
   exact .pure _ _ this
 let⟨i,W,E⟩:=dR hz
 refine eC (cv:=.slice (some ad) n n) (w':=c.w) (β':=λi=>if i=id then none else c.β i) ?_ (nP l b) (Ba j b) r2
 have ha:ad.add 0=ad:=by simp[Addr.add]
 have hn0:¬n=0:=by omega
 have hsz:(sizeOf e').run P c.w=.ok i.size c.w:=by simp[sizeOf,typeInfo,W]
 simp[execOp,g,hv,Instr.sliceAt,run_underlying ht,Instr.sureAddr,Instr.sliceBounds,hsz,E,ha]
theorem JK[aB](j:bJ (aG T) c)(k:TR (aG T) c tm a.tmps){x:aQ}{y:Operand}{t e':TypeId}{n:Nat}{es:List<|List AV}{r:AV}(g:o.op=.sliceToArrayPointer t y)(h:aN T x y=true)(ht:P.underlying t=some (.array n e'))(hn:n<=es.length)(h0:0<n)(hl:cY 1 es=true)(m:(∃f,aC tm x=.sl f es/\r=.rptr (es.take n).flatten)\/(aC tm x=.vw es/\r=.rptr (es.take n).flatten)): cZ P (aG T) c fl o a r c.H:=by
 have q:=aR j k h
 have hne:es≠[]:=λe=>by subst e;simp at hn;omega
 have key:∃ad cap,a.eval y=.slice (some ad) es.length cap/\RV (aG T) c r (.pointer (some ad)):=by
  rcases m with⟨f,m,rfl⟩ | ⟨m,rfl⟩
  .rw[m] at q;generalize a.eval y=v at q |-;cases q with
   | pure _ _ D=>cases D with
    | nil=>exact (hne rfl).elim
    | sl _ _ b off cap cc T fz s vals p1 p2 p3 p4 p5 p6 p7 p8=>
     have:=W9 hne hl p4;subst this
     refine⟨_,_,rfl,.rptr _ b off cc T fz (λj=>vals j 0) p2.vis p3 (λi x e=>?_) (λi x e=>?_)⟩
     .have:=p7 i 0 x (Ib hl e);simpa using this
     .exact p8 i 0 x (Ib hl e)
  .rw[m] at q;generalize a.eval y=v at q |-;cases q with
   | pure _ _ D=>cases D
   | vnil=>exact (hne rfl).elim
   | vw _ b off cap cc T fz s vals p1 p2 p3 p4 p5 p6 p7=>
    have:=W9 hne hl p4;subst this
    refine⟨_,_,rfl,.rptr _ b off cc T fz (λj=>vals j 0) p2 p3 (λi x e=>?_) (λi x e=>?_)⟩
    .have:=p6 i 0 x (Ib hl e);simpa using this
    .exact p7 i 0 x (Ib hl e)
 let⟨ad,cap,e1,e2⟩:=key
 refine bM (cv:=.pointer (some ad)) j ?_ e2
 simp[execOp,g,e1,Instr.arrayAt,run_underlying ht,Nat.not_lt.2 hn]
theorem WP[aB]{id s tot off len k:Nat}{es:List<|List AV}{cs:List AV}{v:Value}(p:bJ (aG T) c)(l:c.H[id]?=some (.blk s es))(d:es.length=tot)(n:cs[k]?=some (.ms id tot off len))(h:RV (aG T) c (.agg cs) v): RV (aG T) (frz c id s es) (.agg<|cs.set k<|.sl false<|((es.drop off).take len).map λe=>e.map vJ) v:=by
 have j:=nP (fl:=0) (Nat.zero_le _) l;obtain⟨cv,f,rfl,q,o,m⟩:=h.agg_inv;have g:∀(i:Nat) (x:AV),(cs.set k<|.sl false<|((es.drop off).take len).map λe=>e.map vJ)[i]?=some x->(i=k/\x=.sl false (((es.drop off).take len).map λe=>e.map vJ))\/cs[i]?=some x:=by
  intro i x a;rw[List.getElem?_set] at a;split at a
  .split at a
   .rename_i b _;cases a;exact .inl ⟨b.symm,rfl⟩
   .cases a
  .exact .inr a
 refine .agg _ cv f (by simpa using q) (λi x a=>?_) λi x a=>?_
 .rcases g i x a with⟨rfl,rfl⟩ | b
  .exact o _ _ n
  .exact o i x b
 .rcases g i x a with⟨rfl,rfl⟩ | b
  .exact LZ p l d<|m _ _ n
  .exact (m i x b).step j
theorem V9[aB](g:bJ (aG T) c)(l:TR (aG T) c tm a.tmps){x:aQ}{y:Operand}{t:TypeId}{n k:Nat}{cs:List AV}{id s tot off len:Nat}{es:List<|List AV}(p:o.op=.load t y)(h:aN T x y=true)(z:sL P t true=true)(r:cT P t n=true)(u:cJ c.H (aC tm x) n=some cs)(v:cs[k]?=some (.ms id tot off len))(j:fl<=id)(d:c.H[id]?=some (.blk s es))(f:es.length=tot):
 cZ P (aG T) c fl o a (.agg<|cs.set k<|.sl false<|((es.drop off).take len).map λe=>e.map vJ)<|c.H.set id<|.blk s<|es++[List.replicate s .undef]:=by
 let⟨ad,vs,q,A,m⟩:=Mf g (aR g l h) u;refine eC (cv:=.agg vs.toArray) (w':=c.w) (β':=λi=>if i=id then none else c.β i) ?_ (nP j d) (Ba g d)<|WP g d f v<|Bb m;simp[execOp,p,Instr.loadAt,Instr.sureAddr,q,tS m A z r rfl]
theorem T5{H:aM}{v:AV}{ys:List<|List AV}(h:T6 v=some ys): rd H v=some ys:=by
 unfold T6 at h;split at h
 .exact h
 .exact h
 .cases h
theorem XO[aB](m:bJ (aG T) c)(E:TR (aG T) c tm a.tmps){x y:aQ}{X W:Operand}{t L e e':TypeId}{i:TypeInfo}{z:Value}{s bytes:Nat}{r:AV}(S:o.op=.call ⟨.builtin .append,#[X,W],#[t,L]⟩)(O:aN T x X=true)(Y:aN T y W=true)(M:P.underlying t=some (.slice e))(C:P.underlying L=some (.slice e'))(R:P.info? e=some i)(w:i.size=s)(F:i.bytes=bytes)(V:i.zero=some z)(B:z.cells.size=s)(g:aG3 s bytes (aC tm x) (aC tm y)=some r):
 cZ P (aG T) c fl o a r c.H:=by
 unfold aG3 at g;split at g
 .rename_i f es N;split at g
  .split at g
   .split at g
    .rename_i ys I;split at g
     .rename_i b;cases g;have A:rdY s c.H (aC tm y)=some ys:=BT (T5 I);intro K Q U;by_cases J:ys.length=0
      .have G:ys=[]:=List.length_eq_zero_iff.1 J;have h:cC c.H.length c.H s bytes (aC tm x) ys=some (.sl true [],c.H):=by
        unfold cC;rw[if_pos b,N];simp[J]
       refine Ts m E (fl:=c.H.length) (Nat.le_refl _) S O Y M C (.inr ⟨_,rfl⟩) R w F V B A h K Q λcv c' Z j d n=>?_;exact U cv (nD c c') rfl (Hn m j) (BM m j)<|by have:=Nx m d j.fl n;rw[G];exact this
      .have h:cC c.H.length c.H s bytes (aC tm x) ys=some (.ms c.H.length ys.length 0 ys.length,c.H++[.blk s ys]):=by
        unfold cC;rw[if_pos b,N];have l:kO (0+ys.length) bytes=true:=by rw[Nat.zero_add];exact b.2.2
        simp[J,cY,l,b.2.2]
       refine Ts m E (fl:=c.H.length) (Nat.le_refl _) S O Y M C (.inr ⟨_,rfl⟩) R w F V B A h K Q λcv c' Z j d n=>?_;have q:c'.H[c.H.length]?=some (.blk s ys):=by rw[Z];simp
       have k:bG c.H.length c<|frz c' c.H.length s ys:=j.trans<|nP (Nat.le_refl _) q;have p:=Ba d q;have v:=LZ d q rfl n;have D:=Nx m p k.fl v;refine U cv (nD c<|frz c' c.H.length s ys) rfl (Hn m k) (BM m k) ?_;simpa [gC] using D
     .cases g
    .cases g
   .cases g
  .cases g
 .cases g
end
section
variable {P:Program}{T:List bK}
def jQ(FT:Nat->Option Nat)(c:bV)(args:List AV)(vs:Array Value): Prop:=
 vs.size=args.length/\∀(i:Nat) (x:AV),args[i]?=some x->∃v,vs[i]?=some v/\RV FT c x v
def lP[aB](P:Program)(T:List bK)(cf:Nat->Nat->List AV->aM->Option (AV×aM)): Prop:=
 ∀(fl vi f:Nat) (args:List AV) (r:AV) (H':aM) (c:bV) (vs:Array Value),cf fl vi args c.H=some (r,H')->aG T vi=some f->bJ (aG T) c->fl<=c.H.length->jQ (aG T) c args vs->
  Calls P f vs c.w λe w'=>∃v c',e=.returned v/\c'.w=w'/\c'.H=H'/\c'.X=c.X/\bG fl c c'/\bJ (aG T) c'/\RV (aG T) c' r v
def fW(P:Program)(T:List bK): Prop:=
 ∀vi f,aG T vi=some f->∃fn,P.funcs[f]?=some fn/\fn.body.isSome=true/\(fn.name== "runtime.NumGoroutine")=false
variable {cf:Nat->Nat->List AV->aM->Option (AV×aM)}{c:bV}{fl:Nat}{o:Oper}{a:Act}{tm:List AV}
def gV(c:bV): bV:=⟨c.w,λb=>c.X b\/∃id,c.β id=some b,λ_=>none,[]⟩
theorem Ae{c:bV}{b:Nat}: mF (gV c) b↔mF c b:=
 ⟨λh=>⟨λd=>h.1<|.inl d,λid a=>h.1<|.inr ⟨id,a⟩⟩,λh=>⟨λd=>by
  rcases d with d | ⟨id,a⟩
  .exact h.1 d
  .exact h.2 id a,λid a=>by cases a⟩⟩
theorem fC[aB]{FT:Nat->Option Nat}{c:bV}(d:bJ FT c){id b:Nat}(h:c.β id=some b): b<c.w.heap.size:=by
 have f:=d.dom id b h;have a:∀o:Obj,c.w.heap[b]?=some o->b<c.w.heap.size:=by
  grind
 cases e:c.H[id] with
 | blk s es=>
  let⟨cs,T,g,_⟩:=d.blk id s es b (by rw[List.getElem?_eq_getElem f,e]) h;exact a _ g
 | mp es=>
  let⟨cs,T,g,_⟩:=d.map id es b (by rw[List.getElem?_eq_getElem f,e]) h;exact a _ g
 | raw q=>exact a _<|d.raw id q b (by rw[List.getElem?_eq_getElem f,e]) h
theorem Ad[aB]{FT:Nat->Option Nat}{c:bV}(f:bJ FT c): bJ FT (gV c) where
 gl:=λg cs e=>let ⟨cc,T,z,a,t,F,D,v,u⟩:=f.gl g cs e;⟨cc,T,z,a,Ae.2 t,F,D,v,λj x G=>(u j x G).mono λb o r A=>⟨Ae.2 r,A⟩⟩;inj:=λ_ _ _ h=>by cases h
 dom:=λ_ _ h=>by cases h
 nx:=λ_ _ h=>by cases h
 fresh:=λk l h=>by
  rcases h with h | ⟨id,d⟩
  .exact f.fresh k l h
  .have:=fC f d;have n:c.w.heap.size<=k:=l;omega
 lens:=λid s es h=>by simp[gV] at h
 blk:=λid s es b h=>by simp[gV] at h
 map:=λid es b h=>by simp[gV] at h
 raw:=λid q b h=>by simp[gV] at h
theorem JC[aB]{FT:Nat->Option Nat}{c:bV}{x:AV}{v:Value}(d:Bj x=true)(h:RV FT c x v): RV FT (gV c) x v:=by
 cases h with
 | pure _ _ u=>exact .pure _ _<|u.mono λb o e l=>⟨Ae.2 e,l⟩
 | ms=>cases d
 | ptr=>cases d
 | rptr cs b off cc T w a p k g q=>exact .rptr cs b off cc T w a (λid h=>by cases h) k g λj x m=>(q j x m).mono λb o e l=>⟨Ae.2 e,l⟩
 | vnil=>cases d
 | vw=>cases d
 | mp=>cases d
 | it=>cases d
 | fn vi f caps cv a p k g q=>
  cases caps with
  | nil=>exact .fn vi f [] cv a p k g λi x m=>by simp at m
  | cons _ _=>cases d
 | agg=>cases d
 | tup=>cases d
theorem Mb[aB]: ∀{cs:List AV},Ey cs=true->∀x∈cs,Bj x=true
 | [],_,x,a=>by cases a
 | y::r,h,x,a=>by
  simp only[Ey] at h;split at h
  .rename_i b;rcases List.mem_cons.1 a with rfl | a
   .grind
   .exact Mb h x a
  .cases h
theorem Bi[aB]: ∀{cs:List AV},fO cs=true->∀x∈cs,pO x=true
 | [],_,x,a=>by cases a
 | y::r,h,x,a=>by
  simp only[fO] at h;split at h
  .rename_i b;rcases List.mem_cons.1 a with rfl | a
   .grind
   .exact Bi h x a
  .cases h
theorem F5[aB]{FT:Nat->Option Nat}{c:bV}{x:AV}{v:Value}(b:pO x=true)(h:RV FT c x v): RV FT (gV c) x v:=by
 unfold pO at b;split at b
 .rename_i cs;obtain⟨cv,a,rfl,e,g,f⟩:=h.agg_inv;exact .agg cs cv a e g λi x d=>JC (Mb b x<|List.mem_of_getElem? d)<|f i x d
 .exact JC b h
theorem L5[aB]{FT:Nat->Option Nat}{c:bV}{a:List AV}{vs:Array Value}(e:fO a=true)(h:jQ FT c a vs): jQ FT (gV c) a vs:=
 ⟨h.1,λi x b=>let ⟨v,f,d⟩:=h.2 i x b;⟨v,f,F5 (Bi e x<|List.mem_of_getElem? b) d⟩⟩
theorem fZ{c c':bV}(h:bG 0 (gV c) c'){k:Nat}(b:k<c.w.heap.size): c'.w.heap[k]?=c.w.heap[k]?:=h.frame k b λid a=>by cases a
theorem tJ[aB]{FT:Nat->Option Nat}{c c':bV}{fl:Nat}(m:bJ FT c)(h:bG 0 (gV c) c'): bG fl c (nD c c') where
 X:=rfl;os:=h.os;tape:=h.tape;output:=h.output;drawn:=h.drawn;size:=h.size;len:=Nat.le_refl _;frame:=λk r _=>fZ h r;img:=λi _ a=>.inr ⟨i,a⟩;blkS:=λid s n e=>⟨n,e,Nat.le_refl _,λ_=>⟨rfl,λb cs T a g=>⟨cs,(fZ h<|fC m a).trans g,rfl⟩⟩⟩;mpS:=λ_ u=>⟨u,rfl⟩;floor:=λid _=>⟨rfl,rfl,λb a=>fZ h<|fC m a⟩
theorem Af[aB]{FT:Nat->Option Nat}{c c':bV}(a:bJ FT c)(h:bG 0 (gV c) c'): bJ FT<|nD c c':=by
 have f:=tJ (fl:=0) a h;refine⟨a.gl.step f,a.inj,a.dom,a.nx,λk y=>a.fresh k<|Nat.le_trans h.size y,a.lens,?_,?_,λid q b g d=>(fZ h<|fC a d).trans<|a.raw id q b g d⟩
 .intro id s es b g d;let⟨cs,T,n,t,r⟩:=a.blk id s es b g d;exact⟨cs,T,(fZ h<|fC a d).trans n,t,λi j x p=>let ⟨v,o,u,w⟩:=r i j x p;⟨v,o,u,w.step f⟩⟩
 .intro id l b g d;let⟨es,m,n,t,r⟩:=a.map id l b g d;exact⟨es,m,(fZ h<|fC a d).trans n,t,λi k x p=>let ⟨e,o,u,w⟩:=r i k x p;⟨e,o,u,w.step f⟩⟩
def F9: AV->Bool
 | .undef=>true
 | .lit _=>true
 | .sl _ _=>true
 | .sptr _=>true
 | .rmp _=>true
 | .fn _ []=>true
 | _=>false
def F8: AV->Bool
 | .agg cs=>cs.all F9
 | v=>F9 v
def aCr: AV->Bool
 | .tup cs=>cs.all F8
 | v=>F8 v
theorem IV(H:aM)(n:Nat): ∀(d:Nat) (x:AV),F9 (dZ H n d x)=true:=by
 intro d x;cases x with
 | lit v=>
  have:dZ H n d (.lit v)=sS v:=by cases d<;>rfl
  rw[this];unfold sS;repeat' split
  all_goals rfl
 | ms id tot off len=>
  cases d with
  | zero=>rfl
  | succ d=>
   simp only[dZ];repeat' split
   all_goals rfl
 | mp id=>
  cases d with
  | zero=>rfl
  | succ d=>
   simp only[dZ];repeat' split
   all_goals rfl
 | _=>cases d<;>rfl
theorem IY(H:aM)(x:AV): F9 (gC H 0 x)=true:=by
 cases x with
 | lit v=>
  show F9 (sS v)=true;unfold sS;repeat' split
  all_goals rfl
 | ms id tot off len=>
  exact IV _ _ _ _
 | mp id=>
  exact IV _ _ _ _
 | ptr id tot b off=>rfl
 | fn vi caps=>cases caps<;>rfl
 | _=>rfl
theorem IX(H:aM)(x:AV): F8 (dS H 0 x)=true:=by
 unfold dS;split
 .simp only[F8,List.all_map,List.all_eq_true];intro y _;exact IY H y
 .have:=IY H x;revert this;cases gC H 0 x<;>intro h<;>first | exact h | cases h
theorem IW(H:aM)(x:AV): aCr (gS H 0 x)=true:=by
 unfold gS;split
 .simp only[aCr,List.all_map,List.all_eq_true];intro y _;exact IX H y
 .have:=IX H x;revert this;cases dS H 0 x<;>intro h<;>first | exact h | cases h
theorem OQ{c c':bV}{b:Nat}(d:mF (nD (gV c) c') b): mF (nD c c') b:=⟨λe=>d.1<|.inl e,λid a=>d.1<|.inr ⟨id,a⟩⟩
theorem l9[aB]{FT:Nat->Option Nat}{c c':bV}{x:AV}{v:Value}(e:F9 x=true)(h:RV FT (nD (gV c) c') x v): RV FT (nD c c') x v:=by
 cases h with
 | pure x v k=>exact .pure x v<|k.mono λb o p j=>⟨OQ p,j⟩
 | fn vi f caps cv a n g l q=>
  cases caps with
  | nil=>exact .fn vi f [] cv a n g l λi x m=>by simp at m
  | cons _ _=>cases e
 | _=>cases e
theorem l8[aB]{FT:Nat->Option Nat}{c c':bV}{x:AV}{v:Value}(b:F8 x=true)(h:RV FT (nD (gV c) c') x v): RV FT (nD c c') x v:=by
 cases x with
 | agg cs=>
  obtain⟨cv,a,rfl,f,e,g⟩:=h.agg_inv;simp only[F8,List.all_eq_true] at b;exact .agg cs cv a f e λi x d=>l9 (b x<|List.mem_of_getElem? d)<|g i x d
 | _=>exact l9 b h
theorem UY[aB]{FT:Nat->Option Nat}{c c':bV}{x:AV}{v:Value}(d:aCr x=true)(h:RV FT (nD (gV c) c') x v): RV FT (nD c c') x v:=by
 cases x with
 | tup cs=>
  cases h with
  | pure _ _ j=>cases j
  | tup _ cv a k l g=>
   simp only[aCr,List.all_eq_true] at d;exact .tup cs cv a k l λi x e=>l8 (d x<|List.mem_of_getElem? e)<|g i x e
 | _=>exact l8 d h
theorem iP{f:Nat}{fn:Func}{a:Array Value}(h:P.funcs[f]?=some fn)(e:fn.body.isSome=true) (g:(fn.name== "runtime.NumGoroutine")=false) (w:World) :
 (callFunc f a).run P w=.ok (.enter f a) w:=by
 let⟨b,d⟩:=Option.isSome_iff_exists.1 e;have c:=by simpa using g
 simp[callFunc,h,d,c]
theorem X7[aB]{FT:Nat->Option Nat}{c:bV}{x:AV}{v:Value}(h:RV FT c x v): RV FT c (nrm x) v:=by
 cases h with
 | pure _ _ q=>exact .pure _ _<|MR q
 | ms id tot off len a cap s n g e i j=>exact .ms id tot off len a cap s n g e i j
 | ptr id tot l off a s n g e i=>exact .ptr id tot l off a s n g e i
 | rptr cs b off cc T k d g e i j=>exact .rptr cs b off cc T k d g e i j
 | vnil a cap=>exact .vnil a cap
 | vw es b off cap cc T k s d u w C y A B t=>exact .vw es b off cap cc T k s d u w C y A B t
 | mp id b g e=>exact .mp id b g e
 | it id b g e=>exact .it id b g e
 | fn vi f caps cv d g e i j=>exact .fn vi f caps cv d g e i j
 | agg cs cv d g e i=>exact .agg cs cv d g e i
 | tup cs cv d g e i=>exact .tup cs cv d g e i
theorem o7[aB]{FT:Nat->Option Nat}{c:bV}{x:AV}{v:Value}(h:RV FT c x v): RV FT c (Om x) v:=by
 unfold Om;split
 .rename_i cs;obtain⟨cv,a,rfl,f,g,d⟩:=h.agg_inv;refine .agg _ cv a (by simpa using f) ?_ ?_
  .grind
  .intro i x b;simp at b;obtain⟨y,e,rfl⟩:=b;exact X7<|d i y e
 .exact X7 h
theorem n7[aB](e:bJ (aG T) c)(d:TR (aG T) c tm a.tmps){x:aQ}{y:Operand}(b:o.op=.move y\/o.op=.assign y)(h:aN T x y=true):
 cZ P (aG T) c fl o a (Om<|aC tm x) c.H:=by
 refine bM e ?_<|o7<|aR e d h;rcases b with b | b<;>simp[execOp,b]
theorem UZ[aB]{FT:Nat->Option Nat}{c:bV}{a:List AV}{vs:Array Value}(h:jQ FT c a vs): jQ FT c (a.map Om) vs:=by
 refine⟨by simpa using h.1,λi x b=>?_⟩;simp at b;obtain⟨y,e,rfl⟩:=b;let⟨v,d,f⟩:=h.2 i y e;exact⟨v,d,o7 f⟩
theorem o3[aB](m:lP P T cf)(z:fW P T)(j:bJ (aG T) c)(u:fl<=c.H.length){pu:Bool}{vi f:Nat}{d:List AV}{vs:Array Value}{r:AV}{H':aM}(b:kR cf fl pu vi d c.H=some (r,H'))(p:aG T vi=some f)(h:jQ (aG T) c d vs)(n:(execOp a.eval o).run P c.w=(callFunc f vs).run P c.w): cZ P (aG T) c fl o a r H':=by
 let⟨fn,B,D,C⟩:=z vi f p;intro K Q A;unfold Oper.wp;rw[n,iP B D C];unfold kR at b;split at b
 .split at b
  .rename_i q;split at b
   .rename_i s l x;cases b;refine (m 0 vi f (d.map Om) s l (gV c) vs x p (Ad j) (Nat.le_refl _)<|UZ<|L5 q h).mono ?_;rintro e w' ⟨v,c',rfl,rfl,rfl,E,g,k,y⟩;exact A v (nD c c') rfl (tJ j g) (Af j g)<|UY (IW _ _)<|Nw (Ad j) k ⟨g.X,λid t=>absurd t<|Nat.not_lt_zero _⟩ y
   .grind
  .split at b
   .rename_i s l x;cases b;refine (m _ vi f (d.map Om) s l c vs x p j (Nat.le_refl _)<|UZ h).mono ?_;rintro e w' ⟨v,c',rfl,rfl,rfl,E,g,k,y⟩;exact A v (nD c c') rfl (Hn j g) (BM j g)<|Nw j k g.fl y
   .grind
 .refine (m fl vi f d r H' c vs b p j u h).mono ?_;grind
theorem vH[aB](f:bJ (aG T) c)(b:TR (aG T) c tm a.tmps){d:List aQ}{ys:List Operand}(h:dP T d ys=true): jQ (aG T) c (d.map<|aC tm) (ys.map a.eval).toArray:=by
 let⟨e,g⟩:=Zt f b h;refine⟨by simp[e],λi x j=>?_⟩;grind
theorem n9[aB](g:lP P T cf)(l:fW P T)(m:bJ (aG T) c)(j:TR (aG T) c tm a.tmps)(i:fl<=c.H.length){pu:Bool}{vi f:Nat}{b:List aQ}{d:Array Operand}{ts:Array TypeId}{r:AV}{H':aM}(n:o.op=.call ⟨.value<|.func f,d,ts⟩)(p:aG T vi=some f)(h:dP T b d.toList=true)(k:kR cf fl pu vi (b.map<|aC tm) c.H=some (r,H')): cZ P (aG T) c fl o a r H':=by
 refine o3 g l m i k p (vH m j h) ?_;have e:(d.toList.map a.eval).toArray=d.map a.eval:=by apply Array.ext';simp
 rw[e];simp[execOp,n,resolve,Act.eval,Deferred.ofValue,invoke]
theorem cZ.mono[aB]{FT:Nat->Option Nat}{b:Nat}{r:AV}{H':aM}(h:cZ P FT c b o a r H')(i:fl<=b): cZ P FT c fl o a r H':=
 λK Q f=>h K Q λcv c' j e g d=>f cv c' j (e.mono i) g d
theorem W6[aB](e:lP P T cf)(j:fW P T)(l:bJ (aG T) c)(d:TR (aG T) c tm a.tmps)(i:fl<=c.H.length){vi f:Nat}{b:List aQ}{k:Array Operand}{ts:Array TypeId}{r:AV}{H':aM}(m:o.op=.call ⟨.value<|.func f,k,ts⟩)(n:aG T vi=some f)(h:dP T b k.toList=true)(g:cf c.H.length vi (b.map<|aC tm) c.H=some (r,H')): cZ P (aG T) c fl o a r H':=
 (n9 (pu:=false) e j l d (Nat.le_refl _) m n h g).mono i
theorem ZQ[aB]{c:bV}{FT:Nat->Option Nat}(hs:bJ FT c){x:AV}{v:Value}(h:RV FT c x v): RV FT (gV c) (lQ c.H x) v:=by
 have g:∀b,OT (gV c) b:=λb id h=>by cases h
 have l:∀{x v},RP c.w (mF c) x v->RP (gV c).w (mF<|gV c) x v:=λhr=>hr.mono λb o hi hb=>⟨Ae.2 hi,hb⟩;cases h with
 | pure _ _ hp=>
  cases hp with
  | undef v=>exact RV.undef _
  | lit v=>
   have a1:sS v=.lit v\/(v=.slice none 0 0/\sS v=.sl false []):=by
    unfold sS;grind
   simp only[lQ];rcases a1 with e | ⟨rfl,e⟩<;>rw[e]
   .exact RV.lit _
   .exact .vnil none 0
  | nil f a cap hf=>exact .vnil a cap
  | sl f es b off cap cc T E s d C N A D J Q Z h8=>exact .vw es b off cap cc T E s d C (g b) A D J Z λi j x k=>l<|h8 i j x k
  | sptr cs b off cc T E d C N A D=>exact .pure _ _<|l<|.sptr cs b off cc T E d C N A D
  | rmp I b es V d C N A D J Q=>exact .pure _ _<|l<|.rmp I b es V d C N A D J Q
 | ms id tot off len a cap s n M O L R=>
  simp only[lQ];split
  .rename_i es p;unfold rd at p;simp only at p;split at p
   .rename_i s' m B;split at p
    .rename_i K;cases p;rw[fL B] at M;cases M;let⟨m1,m2⟩:=R K.symm;have r:((m.drop off).take len).length=len:=by simp;omega
     by_cases U:len=0
     .subst U;exact .vnil _ _
     .rcases m2 with⟨_,m3,X,m5⟩ | ⟨b,cc,Ty,a',m3,X,m5,m6,m7⟩
      .omega
      .have ha:=m7 (by omega);subst m6;subst ha;let⟨c1,c3,q1,q2,q3⟩:=hs.blk id s m b B m3;rw[X] at q1;cases q1;have z:=hs.lens id s m B;have q:∀i j x,bL (((m.drop off).take len).map λe=>e.map vJ) i j=some x->
        ∃y u,x=vJ y/\cc[off*s+(i*s+j)]?=some u/\aY u=true/\RV FT c y u:=by
        intro i j x k;obtain⟨y,hy,rfl⟩:=jB k;let⟨e,he,hj⟩:=dI hy;rw[List.getElem?_take] at he;split at he
        .rw[List.getElem?_drop] at he;let⟨u,G,W,S⟩:=q3 (off+i) j y (by simp[bL,he,hj]);exact⟨y,u,rfl,by rw[<-G];congr 1;rw[Nat.add_mul];omega,W,S⟩
        .grind
       have t:=RV.vw (FT:=FT) (c:=gV c) (((m.drop off).take len).map λe=>e.map vJ) b (off*s) cap cc Ty (0,0) s
        (λi j=>(cc[off*s+(i*s+j)]?).getD aW)
        (by intro e;have:=congrArg List.length e;simp at this;omega) (g b) X
        (λe he=>by
         simp only[List.mem_map] at he;obtain⟨e0,h0,rfl⟩:=he;simpa using z e0<|List.mem_of_mem_drop<|List.mem_of_mem_take h0)
        (by simp only[List.length_map,r];exact L)
        (λi j x k=>by
         let⟨y,u,_,G,W,_⟩:=q i j x k;simp[G,W])
        (λi j x k=>by
         let⟨y,u,Y,G,_,S⟩:=q i j x k;rw[Y];simp only[G,Option.getD_some];exact l<|BC S)
       simp only[List.length_map,r] at t;exact t
    .grind
   .grind
  .exact RV.undef _
 | ptr=>exact RV.undef _
 | rptr cs b off cc T E d M O L R=>exact .rptr cs b off cc T E d (g b) O L λj x k=>l<|R j x k
 | vnil a cap=>exact .vnil a cap
 | vw es b off cap cc T E s d C N A D J Q Z=>exact .vw es b off cap cc T E s d C (g b) A D J Q λi j x k=>l<|Z i j x k
 | mp=>exact RV.undef _
 | it=>exact RV.undef _
 | fn vi f caps cv d M O L R=>
  cases caps with
  | nil=>exact .fn vi f [] cv d M O L λi x k=>by simp at k
  | cons _ _=>exact RV.undef _
 | agg=>exact RV.undef _
 | tup=>exact RV.undef _
theorem PY[aB]{c:bV}{FT:Nat->Option Nat}(b:bJ FT c){x:AV}{v:Value}(h:RV FT c x v): RV FT (gV c) (eK c.H x) v:=by
 unfold eK;split
 .rename_i cs;obtain⟨cv,a,rfl,g,j,e⟩:=h.agg_inv;refine .agg _ cv a (by simpa using g) ?_ ?_
  .grind
  .intro i x d;simp at d;obtain⟨y,f,rfl⟩:=d;exact ZQ b<|e i y f
 .exact ZQ b h
theorem W7[aB](s:lP P T cf)(n:fW P T)(k:bJ (aG T) c)(q:TR (aG T) c tm a.tmps){vi f:Nat}{b:List aQ}{l:Array Operand}{ts:Array TypeId}{r:AV}{H1:aM}(F:o.op=.call ⟨.value<|.func f,l,ts⟩)(A:aG T vi=some f)(h:dP T b l.toList=true)(t:cf 0 vi ((b.map<|aC tm).map<|eK c.H) []=some (r,H1)): cZ P (aG T) c fl o a (gS H1 0 r) c.H:=by
 let⟨fn,E,B,C⟩:=n vi f A;intro K Q I;unfold Oper.wp;have e:(execOp a.eval o).run P c.w=(callFunc f<|(l.toList.map a.eval).toArray).run P c.w:=by
  have e:(l.toList.map a.eval).toArray=l.map a.eval:=by apply Array.ext';simp
  rw[e];simp[execOp,F,resolve,Act.eval,Deferred.ofValue,invoke]
 rw[e,iP E B C];have d:=vH k q h;have g:jQ (aG T) (gV c) ((b.map<|aC tm).map<|eK c.H)<|(l.toList.map a.eval).toArray:=by
  refine⟨by rw[List.length_map];exact d.1,λi x z=>?_⟩;rw[List.getElem?_map,Option.map_eq_some_iff] at z;obtain⟨y,L,rfl⟩:=z;let⟨v,J,D⟩:=d.2 i y L;exact⟨v,J,PY k D⟩
 refine (s 0 vi f _ r H1 (gV c) _ t A (Ad k) (Nat.le_refl _) g).mono ?_;rintro e w' ⟨v,c',rfl,rfl,rfl,M,j,p,G⟩;exact I v (nD c c') rfl (tJ k j) (Af k j)<|UY (IW _ _)<|Nw (Ad k) p ⟨j.X,λid u=>absurd u<|Nat.not_lt_zero _⟩ G
def qK(c:bV)(w':World)(ob:Option Nat)(s:Nat)(rows:List<|List AV): bV:=⟨w',c.X,λi=>if i=c.H.length then ob else c.β i,c.H++[.blk s rows]⟩
section
variable {FT:Nat->Option Nat}{c':bV}{ob:Option Nat}{s:Nat}{rows:List (List AV)}
theorem kP[aB](d:bJ FT c){w':World}{i b:Nat}(a:(qK c w' ob s rows).β i=some b): (i=c.H.length/\ob=some b)\/(i<c.H.length/\c.β i=some b):=by
 simp only[qK] at a;split at a
 .grind
 .exact .inr ⟨d.dom i b a,a⟩
theorem Ot{w':World}{i:Nat}(a:i<c.H.length): (qK c w' ob s rows).H[i]?=c.H[i]?:=List.getElem?_append_left a
theorem Ud[aB]{fl:Nat}(p:bJ FT c)(h:bG 0 (gV c) c')(B:fl<=c.H.length)(r:∀b,ob=some b->c.w.heap.size<=b): bG fl c (qK c c'.w ob s rows) where
 X:=rfl;os:=h.os;tape:=h.tape;output:=h.output;drawn:=h.drawn;size:=h.size;len:=by simp[qK]
 frame:=λk x _=>fZ h x;img:=λi b d=>by
  rcases kP p d with⟨_,y⟩ | ⟨_,y⟩
  .grind
  .grind
 blkS:=λi s' n f=>by
  have a:i<c.H.length:=by
   rcases Nat.lt_or_ge i c.H.length with u | u
   .grind
   .simp[shp,List.getElem?_eq_none u] at f
  exact⟨n,by simp only[shp,Ot a];exact f,Nat.le_refl _,λ_=>⟨by simp[qK,Nat.ne_of_lt a],λb cs T d o=>⟨cs,(fZ h<|fC p d).trans o,rfl⟩⟩⟩
 mpS:=λi A=>by
  let⟨e,he,q⟩:=A;have a:i<c.H.length:=by
   grind
  exact⟨⟨e,by rw[Ot a];exact he,q⟩,by simp[qK,Nat.ne_of_lt a]⟩
 floor:=λi D=>by
  have a:i<c.H.length:=by omega
  exact⟨Ot a,by simp[qK,Nat.ne_of_lt a],λb d=>fZ h<|fC p d⟩
theorem DR[aB](f:bJ FT c)(h:bG 0 (gV c) c'){b:Nat}(a:¬c'.X b)(j:ob≠some b): mF (qK c c'.w ob s rows) b:=by
 rw[h.X] at a;refine⟨λg=>a<|.inl g,λi e=>?_⟩;rcases kP f e with⟨_,d⟩ | ⟨_,d⟩
 .grind
 .exact a<|.inr ⟨i,d⟩
theorem TA[aB](d:bJ FT c)(M:bJ FT c')(h:bG 0 (gV c) c')(l:∀b,ob=some b->c.w.heap.size<=b/\∃i,c'.β i=some b)(U:∀e∈rows,e.length=s)(B:∀b,ob=some b->∃cs T,c'.w.heap[b]?=some (.cells cs T (0,0))/\rows.length*s<=cs.size/\∀i j x,bL rows i j=some x->∃v,cs[i*s+j]?=some v/\aY v=true/\RP c'.w (mF<|qK c c'.w ob s rows) x v):
 bJ FT<|qK c c'.w ob s rows:=by
 have I:=Ud (fl:=c.H.length) (s:=s) (rows:=rows) d h (Nat.le_refl _) λb r=>(l b r).1;have y:∀b,mF c' b->mF (qK c c'.w ob s rows) b:=λb p=>DR d h p.1 λe=>by
  let⟨_,i,O⟩:=l b e;exact p.2 i O
 have A:(qK c c'.w ob s rows).H[c.H.length]?=some (.blk s rows):=by simp[qK]
 have n:∀i o,(qK c c'.w ob s rows).H[i]?=some o->i≠c.H.length->i<c.H.length/\c.H[i]?=some o:=by
  intro i o L p;have E:i<c.H.length:=by
   rcases Nat.lt_or_ge i c.H.length with X | X
   .grind
   .have:(qK c c'.w ob s rows).H[i]?=none:=List.getElem?_eq_none (by simp[qK];omega);rw[this] at L;cases L
  exact⟨E,by rw[Ot E] at L;exact L⟩
 refine⟨?_,?_,?_,?_,λk hk=>d.fresh k<|Nat.le_trans h.size hk,?_,?_,?_,?_⟩
 .intro g cs N;let⟨cc,T,Z,G,V,h2,h0,Y,h4⟩:=M.gl g cs N;exact⟨cc,T,Z,G,y g V,h2,h0,Y,λj x z=>(h4 j x z).mono λb o p r=>⟨y b p,r⟩⟩
 .intro i j b p hj;rcases kP d p with⟨S,a⟩ | ⟨u,a⟩<;>rcases kP d hj with⟨e2,t⟩ | ⟨l2,t⟩
  .omega
  .have:=(l b a).1;have:=fC d t;omega
  .have:=(l b t).1;have:=fC d a;omega
  .exact d.inj i j b a t
 .intro i b p;show i<(c.H++[_]).length;simp only[List.length_append,List.length_singleton];rcases kP d p with⟨S,_⟩ | ⟨u,_⟩<;>omega
 .intro i b p;rcases kP d p with⟨S,a⟩ | ⟨u,a⟩
  .exact d.fresh b (l b a).1
  .exact d.nx i b a
 .intro i s' es' f e he;by_cases p:i=c.H.length
  .grind
  .exact d.lens i s' es' (n i _ f p).2 e he
 .intro i s' es' b f r;rcases kP d r with⟨rfl,a⟩ | ⟨u,a⟩
  .rw[A] at f;cases f;let⟨cs,T,F,D,J⟩:=B b a;exact⟨cs,T,F,D,λi j x z=>let ⟨v,w1,w2,W⟩:=J i j x z;⟨v,w1,w2,.pure _ _ W⟩⟩
  .let⟨_,m⟩:=n i _ f<|Nat.ne_of_lt u;let⟨cs,T,F,D,J⟩:=d.blk i s' es' b m a;exact⟨cs,T,(fZ h<|fC d a).trans F,D,λi j x z=>let ⟨v,a,t,R⟩:=J i j x z;⟨v,a,t,R.step I⟩⟩
 .intro i K b f r;rcases kP d r with⟨rfl,a⟩ | ⟨u,a⟩
  .grind
  .let⟨_,m⟩:=n i _ f<|Nat.ne_of_lt u;let⟨es',Q,F,D,J⟩:=d.map i K b m a;exact⟨es',Q,(fZ h<|fC d a).trans F,D,λi k x z=>let ⟨e,a,t,R⟩:=J i k x z;⟨e,a,t,R.step I⟩⟩
 .intro i q b f r;rcases kP d r with⟨rfl,a⟩ | ⟨u,a⟩
  .grind
  .let⟨_,m⟩:=n i _ f<|Nat.ne_of_lt u;exact (fZ h<|fC d a).trans<|d.raw i q b m a
theorem QZ[aB](C:bJ FT c)(f:bJ FT c')(h:bG 0 (gV c) c'){r:AV}{v:Value}(L:RV FT c' r v)(l:Wi s c'.H r=some rows):
 ∃ob,(∀b,ob=some b->c.w.heap.size<=b)/\bJ FT (qK c c'.w ob s rows)/\RV FT (qK c c'.w ob s rows) (.ms c.H.length rows.length 0 rows.length) v:=by
 unfold Wi at l;split at l
 .rename_i id tot off len;split at l
  .grind
  rename_i n;split at l
  .grind
  rename_i o k;split at l
  .rename_i s' es;split at l
   .rename_i m;simp only[Bool.and_eq_true] at n m;have G:=Nat.eq_of_beq_eq_true n.1;have e2:=Nat.eq_of_beq_eq_true n.2;have X:=Nat.eq_of_beq_eq_true m.1;have N:=Nat.eq_of_beq_eq_true m.2;subst G e2 X N;have d:=Option.some.inj l;have t:rows.length=es.length:=by rw[<-d];simp
    have p:∀b,c'.β id=some b->c.w.heap.size<=b/\∃i,c'.β i=some b:=by
     intro b g;rcases h.img id b g with S | ⟨i,F⟩
     .exact⟨S,id,g⟩
     .cases F
    refine⟨c'.β id,λb g=>(p b g).1,TA C f h p ?_ ?_,?_⟩
    .intro e he;rw[<-d] at he;obtain⟨Q,Z,rfl⟩:=List.mem_map.1 he;simpa using f.lens id s' es k Q Z
    .intro b g;let⟨cs,T,B,K,E⟩:=f.blk id s' es b k g;refine⟨cs,T,B,by rw[t];exact K,λi j x J=>?_⟩;rw[<-d] at J;obtain⟨y,Y,rfl⟩:=jB J;let⟨v,R,M,V⟩:=E i j y Y;refine⟨v,R,M,Hq (c':=KO c' id s' es) (aBP f k) (λb' F=>?_) ?_ _ _ _<|WQ k V⟩
     .have A:=AB.1 F;exact DR C h A.1<|A.2 id
     .intro I b' _ z;have q:I≠id/\c'.β I=some b':=by
       simp only[KO] at z;split at z
       .grind
       .grind
      exact DR C h (f.nx I b' q.2) λe=>q.1<|f.inj _ _ b' q.2 e
    .obtain⟨ad,cap,s0,n0,rfl,B,K,E,W⟩:=L.ms_inv;rw[fL k] at B;cases B;let⟨U,O⟩:=W rfl;rw[t];refine .ms _ _ _ _ ad cap s' es.length (by simp[shp,qK,t]) (Nat.le_refl _) E λ_=>⟨U,?_⟩;have:(qK c c'.w (c'.β id) s' rows).β c.H.length=c'.β id:=by simp[qK]
     rw[this];exact O
   .grind
  .grind
 .rename_i u;split at l
  .rename_i a len cap;split at l
   .split at l
    .rename_i D;cases l;simp only[Bool.and_eq_true] at D;have G:=Nat.eq_of_beq_eq_true D.1;have e2:=Nat.eq_of_beq_eq_true D.2;subst G e2;obtain rfl:=L.lit_inv;refine⟨none,(λb g=>by cases g),TA C f h (λb g=>by cases g) (λe he=>by cases he) (λb g=>by cases g),?_⟩;refine .ms _ _ _ _ none 0 s 0 (by simp[shp,qK]) (Nat.le_refl _) (Nat.le_refl _) λ_=>⟨Nat.le_refl _,.inl ⟨by simp[qK],rfl,rfl,rfl⟩⟩
    .grind
   .grind
  .grind
 .grind
end
theorem W4[aB](N:lP P T cf)(R:fW P T)(A:bJ (aG T) c)(J:TR (aG T) c tm a.tmps)(F:fl<=c.H.length){s vi f:Nat}{g:List aQ}{B:Array Operand}{ts:Array TypeId}{r:AV}{H':aM}(ho:o.op=.call ⟨.value<|.func f,B,ts⟩)(Y:aG T vi=some f)(h:dP T g B.toList=true)(b:Kz s c.H (cf 0 vi ((g.map<|aC tm).map<|eK c.H) [])=some (r,H')): cZ P (aG T) c fl o a r H':=by
 let⟨fn,M,I,L⟩:=R vi f Y;intro K Q W;unfold Oper.wp;have e:(execOp a.eval o).run P c.w=(callFunc f<|(B.toList.map a.eval).toArray).run P c.w:=by
  have e:(B.toList.map a.eval).toArray=B.map a.eval:=by apply Array.ext';simp
  rw[e];simp[execOp,ho,resolve,Act.eval,Deferred.ofValue,invoke]
 rw[e,iP M I L];have k:=vH A J h;have n:jQ (aG T) (gV c) ((g.map<|aC tm).map<|eK c.H)<|(B.toList.map a.eval).toArray:=by
  refine⟨by rw[List.length_map];exact k.1,λi x U=>?_⟩;rw[List.getElem?_map,Option.map_eq_some_iff] at U;obtain⟨y,q,rfl⟩:=U;let⟨v,g1,g2⟩:=k.2 i y q;exact⟨v,g1,PY A g2⟩
 unfold Kz at b;split at b
 .grind
 rename_i p Z;let⟨r0,H0⟩:=p;refine (N 0 vi f _ r0 H0 (gV c) _ Z Y (Ad A) (Nat.le_refl _) n).mono ?_;rintro e w' ⟨v,c',rfl,rfl,rfl,hX,m,E,S⟩;simp only at b;split at b
 .split at b
  .grind
  rename_i x l;split at b
  .grind
  rename_i C;split at b
  .grind
  rename_i rows t;cases b;obtain⟨cv,d,rfl,q1,q2,X⟩:∃cv,∃d:Nat->Value,v=.tuple cv/\cv.size=(x::l).length/\(∀(i:Nat) y,(x::l)[i]?=some y->cv[i]?=some (d i))/\∀(i:Nat) y,(x::l)[i]?=some y->RV (aG T) c' y (d i):=by
   cases S with
   | pure _ _ h=>cases h
   | tup cs cv d M I L=>exact⟨cv,d,rfl,M,I,L⟩
  let⟨ob,j,z,D⟩:=QZ A E m (X 0 x rfl) t;refine W _ (qK c c'.w ob s rows) rfl (Ud A m F j) z<|.tup _ cv d (by simpa using q1) (λi y q=>?_) λi y q=>?_
  .grind
  .match i,q with
   | 0,q=>grind
   | i+1,q=>
    have O:l[i]?=some y:=by simpa using q
    have hl:=List.all_eq_true.1 C y<|List.mem_of_getElem? O;have hr:=X (i+1) y (by simpa using q);cases y with
    | lit u=>rw[hr.lit_inv];exact RV.lit u
    | _=>cases hl
 .split at b
  .grind
  rename_i rows t;cases b;let⟨ob,j,z,D⟩:=QZ A E m S t;exact W v (qK c c'.w ob s rows) rfl (Ud A m F j) z D
def tQ(c:bV): bV:=⟨c.w,c.X,λ_=>none,[]⟩
theorem BI{c:bV}{b:Nat}(h:mF c b): mF (tQ c) b:=⟨h.1,λid a=>by cases a⟩
theorem QK[aB]{FT:Nat->Option Nat}{c:bV}(i:bJ FT c): bJ FT (tQ c) where
 gl:=λg cs e=>let ⟨cc,T,t,a,p,l,B,z,r⟩:=i.gl g cs e;⟨cc,T,t,a,BI p,l,B,z,λj x A=>(r j x A).mono λb o n v=>⟨BI n,v⟩⟩;inj:=λ_ _ _ h=>by cases h
 dom:=λ_ _ h=>by cases h
 nx:=λ_ _ h=>by cases h
 fresh:=i.fresh;lens:=λid s es h=>by simp[tQ] at h
 blk:=λid s es b h=>by simp[tQ] at h
 map:=λid es b h=>by simp[tQ] at h
 raw:=λid q b h=>by simp[tQ] at h
theorem tD{c c':bV}(h:bG 0 (tQ c) c'){k:Nat}(b:k<c.w.heap.size): c'.w.heap[k]?=c.w.heap[k]?:=h.frame k b λid a=>by cases a
theorem IU[aB]{FT:Nat->Option Nat}{c c':bV}{fl:Nat}(m:bJ FT c)(h:bG 0 (tQ c) c'): bG fl c (nD c c') where
 X:=rfl;os:=h.os;tape:=h.tape;output:=h.output;drawn:=h.drawn;size:=h.size;len:=Nat.le_refl _;frame:=λk r _=>tD h r;img:=λi _ a=>.inr ⟨i,a⟩;blkS:=λid s n e=>⟨n,e,Nat.le_refl _,λ_=>⟨rfl,λb cs T a g=>⟨cs,(tD h<|fC m a).trans g,rfl⟩⟩⟩;mpS:=λ_ u=>⟨u,rfl⟩;floor:=λid _=>⟨rfl,rfl,λb a=>tD h<|fC m a⟩
theorem E4[aB]{FT:Nat->Option Nat}{c c':bV}(a:bJ FT c)(h:bG 0 (tQ c) c'): bJ FT<|nD c c':=by
 have f:=IU (fl:=0) a h;refine⟨a.gl.step f,a.inj,a.dom,a.nx,λk y=>a.fresh k<|Nat.le_trans h.size y,a.lens,?_,?_,λid q b g d=>(tD h<|fC a d).trans<|a.raw id q b g d⟩
 .intro id s es b g d;let⟨cs,T,n,t,r⟩:=a.blk id s es b g d;exact⟨cs,T,(tD h<|fC a d).trans n,t,λi j x p=>let ⟨v,o,u,w⟩:=r i j x p;⟨v,o,u,w.step f⟩⟩
 .intro id l b g d;let⟨es,m,n,t,r⟩:=a.map id l b g d;exact⟨es,m,(tD h<|fC a d).trans n,t,λi k x p=>let ⟨e,o,u,w⟩:=r i k x p;⟨e,o,u,w.step f⟩⟩
theorem QL[aB]{c:bV}(B:bJ (aG T) c){x:AV}{v:Value}(U:RV (aG T) c x v): RV (aG T) (tQ c) (gC c.H 0 x) v:=by
 have o:∀d y u,RV (aG T) c y u->RP (tQ c).w (mF<|tQ c) (dZ c.H 0 d y) u:=λd y u h=>
  Hq B (λb m=>BI m) (λid b _ m=>⟨B.nx id b m,λi N=>by cases N⟩) d y u h
 cases U with
 | pure _ _ k=>
  have:=o 0 x v<|.pure _ _ k;cases k with
  | undef=>exact RV.undef _
  | lit=>exact .pure _ _<|MS _
  | nil f a cap X=>exact .pure _ _<|.nil false a cap<|by simp
  | sl f es b off cap cc J Q s e z E r A S I Y Z=>exact .pure _ _ this
  | sptr cs b off cc J Q e z E r A=>exact .pure _ _ this
  | rmp C b es K e z E r A S I=>exact .pure _ _ this
 | ms id tot off len a cap s n g j l t=>
  exact .pure _ _<|o _ _ _<|.ms id tot off len a cap s n g j l t
 | ptr id tot L off a s n g j l=>simp only[gC];exact RV.undef _
 | rptr=>exact RV.undef _
 | vnil=>exact RV.undef _
 | vw=>exact RV.undef _
 | mp id b g j=>
  exact .pure _ _<|o _ _ _<|.mp id b g j
 | it id b g j=>exact RV.undef _
 | fn vi f caps cv e g j l t=>
  cases caps with
  | nil=>exact .fn vi f [] cv e g j l λi x V=>by simp at V
  | cons _ _=>exact RV.undef _
 | agg=>exact RV.undef _
 | tup=>exact RV.undef _
theorem R1[aB]{c:bV}(d:bJ (aG T) c){x:AV}{v:Value}(b:RV (aG T) c x v): RV (aG T) (tQ c) (dS c.H 0 x) v:=by
 unfold dS;split
 .rename_i cs;obtain⟨cv,a,rfl,g,j,f⟩:=b.agg_inv;refine .agg _ cv a (by simpa using g) ?_ ?_
  .grind
  .intro i x e;simp at e;obtain⟨y,h,rfl⟩:=e;exact QL d<|f i y h
 .exact QL d b
theorem S4[aB]{FT:Nat->Option Nat}{c c':bV}{x:AV}{v:Value}(b:b9 x=true)(h:RV FT c x v): RV FT c' x v:=by
 unfold b9 at b;split at b
 .rw[h.lit_inv];exact RV.lit _
 .rename_i vs;obtain⟨cv,a,rfl,g,e,f⟩:=h.tup_inv;refine .tup _ cv a g e λi y d=>?_;have:=List.all_eq_true.1 b y<|List.mem_of_getElem? d;split at this
  .rw[(f i _ d).lit_inv];exact RV.lit _
  .grind
 .grind
theorem W5[aB](t:lP P T cf)(z:fW P T)(k:bJ (aG T) c)(p:TR (aG T) c tm a.tmps){vi f:Nat}{b:List aQ}{l:Array Operand}{ts:Array TypeId}{r:AV}{H':aM}(N:o.op=.call ⟨.value<|.func f,l,ts⟩)(B:aG T vi=some f)(h:dP T b l.toList=true)(q:cf 0 vi ((b.map<|aC tm).map<|dS c.H 0) []=some (r,H'))(C:b9 (gS H' 0 r)=true): cZ P (aG T) c fl o a (gS H' 0 r) c.H:=by
 have d:=vH k p h;have e:(l.toList.map a.eval).toArray=l.map a.eval:=by apply Array.ext';simp
 have m:(execOp a.eval o).run P c.w=(callFunc f (l.toList.map a.eval).toArray).run P c.w:=by
  rw[e];simp[execOp,N,resolve,Act.eval,Deferred.ofValue,invoke]
 let⟨fn,F,L,D⟩:=z vi f B;intro K Q J;unfold Oper.wp;rw[m,iP F L D];have g:jQ (aG T) (tQ c) ((b.map<|aC tm).map<|dS c.H 0) (l.toList.map a.eval).toArray:=by
  refine⟨by simpa using d.1,λi x A=>?_⟩;rw[List.getElem?_map,Option.map_eq_some_iff] at A;obtain⟨y,M,rfl⟩:=A;let⟨v,I,E⟩:=d.2 i y M;exact⟨v,I,R1 k E⟩
 refine (t 0 vi f _ r H' (tQ c) _ q B (QK k) (Nat.le_refl _) g).mono ?_;rintro e w' ⟨v,c',rfl,rfl,rfl,O,j,s,G⟩;exact J v (nD c c') rfl (IU k j) (E4 k j)<|S4 C<|Nw (QK k) s ⟨j.X,λid u=>absurd u<|Nat.not_lt_zero _⟩ G
theorem W3[aB](l:lP P T cf)(s:fW P T)(j:bJ (aG T) c)(d:TR (aG T) c tm a.tmps)(q:fl<=c.H.length){pu:Bool}{vi:Nat}{x:aQ}{y:Operand}{caps:List AV}{b:List aQ}{g:Array Operand}{ts:Array TypeId}{r:AV}{H':aM}(A:o.op=.call ⟨.value y,g,ts⟩)(C:aN T x y=true)(n:aC tm x=.fn vi caps)(h:dP T b g.toList=true)(m:kR cf fl pu vi (b.map (aC tm)++caps) c.H=some (r,H')): cZ P (aG T) c fl o a r H':=by
 have u:=aR j d C;rw[n] at u;let⟨f,cv,v,w,E,B,G,F⟩:=u.fn_inv;have p:=vH j d h;refine o3 l s j q m E (vs:=(g.toList.map a.eval).toArray++cv) ⟨by simp[B];simpa using p.1,?_⟩ ?_
 .intro i z k;rw[List.getElem?_append] at k;rw[Array.getElem?_append];have t:=p.1;rw[t];split at k
  .rename_i D;rw[if_pos D];exact p.2 i z k
  .grind
 .have e:(g.toList.map a.eval).toArray=g.map a.eval:=by apply Array.ext';simp
  rw[e];simp[execOp,A,resolve,w,Deferred.ofValue,invoke]
theorem vP[aB]: ∀(f:List<|Nat×Nat) (c:bV),bJ (aG T) c->fl<=c.H.length->bG fl c ⟨c.w,c.X,c.β,c.H++f.map λx=>.blk x.2 []⟩/\bJ (aG T) ⟨c.w,c.X,c.β,c.H++f.map λx=>.blk x.2 []⟩
 | [],c,b,_=>by simpa using⟨bG.refl fl c,b⟩
 | x::r,c,b,a=>by
  have i:=Ar (s:=x.2) a;have h:=Sb (s:=x.2) b;let⟨g,d⟩:=vP r ⟨c.w,c.X,c.β,c.H++[.blk x.2 []]⟩ h (by simp;omega);have e:(c.H++[cN.blk x.2 []])++r.map (λx=>cN.blk x.2 [])=c.H++(x::r).map λx=>.blk x.2 []:=by simp
  simp at g d;exact⟨i.trans g,d⟩
theorem tA[aB]{FT:Nat->Option Nat}{z:List Value}: ∀(b:List<|Nat×Nat) (n:Nat) (cs:List AV),oP FT c cs z.toArray->(∀x∈b,z[x.1]?=some aZ)->
 (∀i,i<b.length->RV FT c (.ms (n+i) 0 0 0) aZ)->oP FT c (cV n cs b) z.toArray
 | [],_,cs,h,_,_=>h
 | (o,s)::r,n,cs,h,e,f=>by
  refine tA r (n+1) _ ?_ (λx a=>e x<|by simp[a]) (λi g=>by have:=f (i+1) (by simp;omega);rwa [show n+(i+1)=n+1+i by omega] at this);refine⟨by simpa using h.1,λj x a=>?_⟩;rw[List.getElem?_set] at a;split at a
  .rename_i d;subst d;split at a
   .cases a;exact⟨aZ,by simpa using e (o,s)<|by simp,rfl,f 0<|by simp⟩
   .grind
  .exact h.2 j x a
theorem G6[aB](r:bJ (aG T) c)(q:fl<=c.H.length){z:List Value}{d:List<|Nat×Nat}{t:TypeId}(I:o.op=.alloc t)(h:jR P t z=true)(n:∀x∈d,z[x.1]?=some aZ):
 cZ P (aG T) c fl o a (.ptr (c.H.length+d.length) 1 0 0)<|(c.H++d.map λc=>.blk c.2 [])++[.blk z.length [cV c.H.length (z.map .lit) d]]:=by
 let⟨i,v,G,J,A,m⟩:=gA h;let⟨s,u⟩:=vP d c r q;generalize j:(c.H++d.map λc=>cN.blk c.2 [])=H1 at s u;have f:H1.length=c.H.length+d.length:=by rw[<-j];simp
 have l:oP (aG T) ⟨c.w,c.X,c.β,H1⟩ (cV c.H.length (z.map .lit) d) z.toArray:=by
  refine tA d c.H.length _ (Fi m) n ?_;intro k D;refine .ms _ 0 0 0 none 0 (d[k].2) 0 ?_ (Nat.le_refl _) (Nat.le_refl _) λ_=>⟨Nat.le_refl _,.inl ⟨?_,rfl,rfl,rfl⟩⟩
  .show shp H1 _=_;rw[<-j];simp[shp,D]
  .show c.β _=none;cases y:c.β (c.H.length+k) with
   | none=>rfl
   | some b=>have:=r.dom _ b y;omega
 have e:=Hs (P:=P) (fl:=fl) (o:=o) (a:=a) (t:=t) u (by simp;omega) ?_ l.1 l.2
 .have g:=by have:=l.1;simpa using this.symm
  rw[g] at e;simp only[f] at e;intro K Q F;refine e K Q ?_;intro cv c' C e2 E B;exact F cv c' C (s.trans e2) E B
 .simp[execOp,I,Instr.alloc,zeroValue,typeInfo,G,J,newVar,newRow,A]
theorem aCz[aB](f:bJ (aG T) c)(b:TR (aG T) c tm a.tmps)(q:fl<=c.H.length){x:aQ}{y:Operand}{t:TypeId}{cs:List AV}{d:List<|Nat×Nat}(k:o.op=.box t y)(h:aN T x y=true)(j:cellsOf (aC tm x)=some cs)(n:JN cs d=true):
 cZ P (aG T) c fl o a (.ptr (c.H.length+d.length) 1 0 0)<|(c.H++d.map λc=>.blk c.2 [])++[.blk cs.length [cV c.H.length cs d]]:=by
 let⟨g,i⟩:=vF (aR f b h) j;let⟨s,u⟩:=vP d c f q;generalize e0:(c.H++d.map λc=>cN.blk c.2 [])=H1 at s u;have f1:H1.length=c.H.length+d.length:=by rw[<-e0];simp
 have l0:oP (aG T) ⟨c.w,c.X,c.β,H1⟩ cs (a.eval y).cells.toList.toArray:=⟨by simpa using g,λm z e=>by
  let⟨v,A,B,C⟩:=i m z e;exact⟨v,by simpa using A,B,C.step s⟩⟩
 have z0:∀x∈d,(a.eval y).cells.toList[x.1]?=some aZ:=λx hx=>by
  have w:=List.all_eq_true.1 n x hx;split at w
  .rename_i e;let⟨v,A,_,C⟩:=i _ _ e;rw[C.lit_inv] at A;show _=some (Value.slice none 0 0);simpa using A
  .cases w
 have l:oP (aG T) ⟨c.w,c.X,c.β,H1⟩ (cV c.H.length cs d) (a.eval y).cells.toList.toArray:=by
  refine tA d c.H.length _ l0 z0 ?_;intro k D;refine .ms _ 0 0 0 none 0 (d[k].2) 0 ?_ (Nat.le_refl _) (Nat.le_refl _) λ_=>⟨Nat.le_refl _,.inl ⟨?_,rfl,rfl,rfl⟩⟩
  .show shp H1 _=_;rw[<-e0];simp[shp,D]
  .show c.β _=none;cases y:c.β (c.H.length+k) with
   | none=>rfl
   | some b=>have:=f.dom _ b y;omega
 have e:=Hs (P:=P) (fl:=fl) (o:=o) (a:=a) (t:=t) u (by simp;omega) ?_ l.1 l.2
 .have g2:(cV c.H.length cs d).length=cs.length:=by rw[<-l.1];simpa using g
  rw[g2] at e;simp only[f1] at e;intro K Q F;refine e K Q ?_;intro cv c' C e2 E B;exact F cv c' C (s.trans e2) E B
 .simp[execOp,k,Instr.box,newVar,newRow]
theorem G5[aB](f:bJ (aG T) c)(q:fl<=c.H.length){cs:List AV}{d:List<|Nat×Nat}(b:cZ P (aG T) c fl o a (.agg cs) c.H)(n:JN cs d=true):
 cZ P (aG T) c fl o a (.agg (cV c.H.length cs d)) (c.H++d.map λc=>.blk c.2 []):=by
 intro K Q F;refine b K Q ?_;intro cv c' C j s r;let⟨s2,u⟩:=vP (fl:=fl) d c' s (by rw[C];exact q)
 refine F cv ⟨c'.w,c'.X,c'.β,c'.H++d.map λc=>.blk c.2 []⟩ (by rw[C]) (j.trans s2) u ?_
 let⟨w,v,e1,g,i,h⟩:=r.agg_inv;subst e1
 have l0:oP (aG T) ⟨c'.w,c'.X,c'.β,c'.H++d.map λc=>.blk c.2 []⟩ cs w.toList.toArray:=⟨by simpa using g,λm z e=>⟨v m,by simpa using (i m z e).1,(i m z e).2,(h m z e).step s2⟩⟩
 have z0:∀x∈d,w.toList[x.1]?=some aZ:=λx hx=>by
  have W:=List.all_eq_true.1 n x hx;split at W
  .rename_i e;have A:=(i _ _ e).1;have C:=h _ _ e;rw[C.lit_inv] at A;show _=some (Value.slice none 0 0);simpa using A
  .cases W
 have l:oP (aG T) ⟨c'.w,c'.X,c'.β,c'.H++d.map λc=>.blk c.2 []⟩ (cV c.H.length cs d) w.toList.toArray:=by
  refine tA d c.H.length _ l0 z0 ?_;intro k D;refine .ms _ 0 0 0 none 0 (d[k].2) 0 ?_ (Nat.le_refl _) (Nat.le_refl _) λ_=>⟨Nat.le_refl _,.inl ⟨?_,rfl,rfl,rfl⟩⟩
  .show shp (c'.H++_) _=_;rw[C];simp[shp,D]
  .show c'.β _=none;cases y:c'.β (c.H.length+k) with
   | none=>rfl
   | some b=>have:=s.dom _ b y;rw[C] at this;omega
 have l:oP (aG T) ⟨c'.w,c'.X,c'.β,c'.H++d.map λc=>.blk c.2 []⟩ (cV c.H.length cs d) w:=by simpa using l
 exact FM l
end
end Go.Proofs.YtideamafblopcaaGreatDoor.Av
