/- A part of the proof of a law. -/
import Derived.Test.YtmlgedgcbfchjaaGreatDoorP1
import Derived.IntWalk
import Derived.Laws.BytesString
set_option maxRecDepth 100000
set_option maxHeartbeats 4000000
set_option linter.all false
namespace Go.Proofs.YtmlgedgcbfchjaaGreatDoor.Av
open Go
section
variable {I:Nat->Prop}{P:Program}{T:List cQ}{a:Act}{ad:Option Addr}{c:dF}{cap:Nat}{d:Option Nat}{e:TypeId}{es:List<|List AV}{f:Bool}{fl h i j l len m:Nat}{mx:Option Nat}{n:Nat}{o:Oper}{s:Nat}{t:TypeId}{tm:List AV}{v:Value}{vmx:Option Value}{w:World}{x:AV}{z:List Value}
section
theorem B5[aF]{FT:Nat->Option Nat}(h:RV FT c x v): RP c.w (nE c) (Gt x) v:=by
 cases h with
 | pure _ _ l=>
  have:=aBF l;cases l with
  | undef v=>exact .undef v
  | lit v=>exact this
  | nil f a' cap A=>exact this
  | sl f es b off cap cc T o s a e i g j m q z y=>exact this
  | sptr cs b off cc T o a e i g j=>exact .sptr cs b off cc T o a e i g j
  | rmp d b es k a e i g j m q=>exact .rmp d b es k a e i g j m q
 | _=>exact .undef _
theorem jU[aF]{f:AV->AV}(h:bK (es.map λe=>e.map f) i j=some x): ∃y,bK es i j=some y/\x=f y:=by
 let⟨d,a,b⟩:=cZ h;simp only[Zk,Zq] at a;obtain⟨e,he,rfl⟩:=a;simp only[Zk,Zq] at b;obtain⟨y,c,rfl⟩:=b;exact⟨y,by simp[bK,he,c],rfl⟩
theorem Dv[aF](k:bY (aK T) c)(F:fl<=c.H.length){cv:Array Value}{w':World}(pu:Bool)(q:es.length=n)(l:n<=cap)(K:pu=true->cap=n)(f:w'.heap=c.w.heap.push (.cells cv t (0,0)))(B:w'.os=c.w.os)(z:w'.tape=c.w.tape)(A:w'.output=c.w.output)(M:(execOp a.eval o).run P c.w=.ok (.value<|.slice (some ⟨c.w.heap.size,0,none⟩) n cap) w')(m:cv.size=cap*s)(L:∀e∈es,e.length=s)(D:∀i j x,bK es i j=some x->∃v,cv[i*s+j]?=some v/\bC v=true/\RV (aK T) c x v)(V:c.w.drawn<=w'.drawn:=by first | exact Zf _ | exact Ys _ | exact ZY _ _ | assumption):
 dM P (aK T) c fl o a (if pu then .sl true (es.map λe=>e.map Gt) else .ms c.H.length n 0 n)<|if pu then c.H else c.H++[.blk s es]:=by
 cases pu with
 | true=>
  have u:=K rfl;subst u;simp only[Zz];have r:=aAk (fl:=fl) k f B z A;refine eM (β':=c.β) M r (aJE k f B z A)<|.pure _ _ ?_;have p:nE ⟨w',c.X,c.β,c.H⟩ c.w.heap.size:=⟨k.fresh _<|Zf _,λid C=>by have:=k.lt C;omega⟩;by_cases he:es=[]
  .subst he;simp only[Z1] at q;subst q;exact .nil true _ 0 λ_=>rfl
  .have d:(es.map λe=>e.map Gt).length=cap:=by simpa using q
   have:=RP.sl (w:=w') (I:=nE ⟨w',c.X,c.β,c.H⟩) true (es.map λe=>e.map Gt) c.w.heap.size 0 cap cv t (0,0) s (λi j=>(cv[i*s+j]?).getD bM) (by simpa using he) p
    (by simp[f]) (λe he=>by simp only[Yh] at he;obtain⟨U,S,rfl⟩:=he;simpa using L U S) (by omega) (λ_=>d.symm)
    (λi j x J=>by
     obtain⟨y,G,rfl⟩:=jU J;let⟨v,E,Q,N⟩:=D i j y G;simp[E,Q])
    (λi j x J=>by
     obtain⟨y,G,rfl⟩:=jU J;let⟨v,E,Q,N⟩:=D i j y G;simp only[E,Yp];exact B5<|N.step r)
   rw[d] at this;exact this
 | false=>
  simp only[Zn,Z9];refine eM (β':=upd c.β c.H.length c.w.heap.size) M (Oj F f B z A λid b R=>k.lt R)
   (w7 k f B z A ?_ ?_ ?_ λ_ h=>by cases h) ?_
  .intro s' es' he;cases he;exact L
  .intro s' es' he;cases he;exact⟨cv,t,rfl,by rw[m,q];exact Zr s l,D⟩
  .intro O he;cases he
  .refine .ms _ n 0 n _ cap s n (by simp[shp,q]) (Zf _) l λ_=>⟨by omega,.inr ⟨c.w.heap.size,cv,t,⟨c.w.heap.size,0,none⟩,eA _ _ _,by simp[f],by simp[m],rfl,λ_=>by simp⟩⟩
theorem aFz[aF](K:bY (aK T) c)(N:TR (aK T) c tm a.tmps)(p:fl<=c.H.length){pu:Bool}{D:List<|Nat×bA}{d:Array<|Nat×Operand}(R:o.op=.buildSlice t n d)(S:P.underlying t=some (.slice e))(J:dO P e s=true)(V:nG P e z=true)(E:z.length=s)(F:0<s)(Z:n*s<=2 ^ 24)(W:Rl T D d.toList=true)(X:Qq s (List.replicate n<|z.map .lit) (D.map λ(i,x)=>(i,aH tm x))=some es):
 dM P (aK T) c fl o a (if pu then .sl true (es.map λe=>e.map Gt) else .ms c.H.length n 0 n)<|if pu then c.H else c.H++[.blk s es]:=by
 let⟨i,L,b⟩:=eJ J;let⟨i',v,k,hv,G,M⟩:=jA V;rw[L] at k;cases k;have C:v.cells.toList=z:=by rw[G]
 have q:=Kl (FT:=aK T) (c:=c) (n:=n) (m:=n) E M C<|Zf _;have y:aHQ (aK T) c s (List.replicate n<|z.map AV.lit)<|(Array.range<|n*s).map (v.cells[· % v.cells.size]!):=⟨by simp,q.1,q.2⟩;let⟨hl,r,Q,A⟩:=aEk K N D d.toList _ es _ W y X;have g:es.length=n:=by simpa using hl
 have I:(d.map λ(i,x)=>(i,a.eval x)).toList=d.toList.map λ(i,x)=>(i,a.eval x):=by simp
 by_cases l:n=0
 .subst l;have he:es=[]:=YO g;subst he;have U:r=#[]:=Wl (by simpa using A.1);subst U;refine Dv K p pu (cap:=0) (cv:=#[]) (t:=e) (w':=c.w.alloc<|.cells #[] e (0,0)) rfl (Zf _) (λ_=>rfl) rfl rfl rfl rfl ?_ (by simp) (by simp) (λi j x Y=>by simp[bK] at Y);have O:Array.range 0=#[]:=rfl;have B:Instr.fill (λi=>some (i*s,s)) #[] (d.toList.map λx=>(x.fst,a.eval x.snd))=some #[]:=by simpa [O] using Q
  simp[execOp,R,Instr.buildSlice,Zm S,sizeOf,typeInfo,L,b,B,newRow,O]
 .refine Dv K p pu (cap:=n) (cv:=r) (t:=e) (w':=c.w.alloc<|.cells r e (0,0)) g (Zf _) (λ_=>rfl) rfl rfl rfl rfl ?_ (by rw[A.1,g]) A.2.1 A.2.2;have u:=run_buildSlice (P:=P) c.w t e n (d.map λ(i,x)=>(i,a.eval x)) r i v S L hv (by rw[b];omega)
   (by rw[b];exact Nat.ne_of_gt<|Nat.mul_pos (WY l) F)<|by rw[I,b];exact Q
  simp only[execOp,R,YW,u,YK,Y4]
theorem Jv(h:n<=2 ^ 40): IntKind.i64.wrap (n:Int)=n:=by
 exact IntWalk.i64_in _<|by omega
theorem aFw[aF](K:bY (aK T) c)(p:TR (aK T) c tm a.tmps)(M:fl<=c.H.length){bytes k:Nat}{x y:bA}{Q R:Operand}(ho:o.op=.makeSlice t Q R)(h1:aS T x Q=true)(h2:aS T y R=true)(V:P.underlying t=some (.slice e))(I:dO P e s=true)(E:uY P e bytes=true)(U:nG P e z=true)(F:0<s)(Y:gY (aH tm x)=some l)(hk:gY (aH tm y)=some k)(f:l<=k)(O:k*bytes<=2 ^ 40)(q:k<=2 ^ 40)(A:z.length=s):
 dM P (aK T) c fl o a (.ms c.H.length l 0 l)<|c.H++[.blk s<|List.replicate l<|z.map .lit]:=by
 let⟨i,h,r⟩:=eJ I;let⟨i',v,g,hv,G,N⟩:=jA U;rw[h] at g;cases g;have J:v.cells.toList=z:=by rw[G]
 have b:i.bytes=bytes:=by simpa [uY,h] using E
 let⟨k1,X⟩:=uD (aX K p h1) Y;let⟨k2,e2⟩:=uD (aX K p h2) hk;let⟨p1,p2⟩:=Kl (FT:=aK T) (c:=c) (n:=l) (m:=k) A N J f;have:=Dv (P:=P) (o:=o) (a:=a) K M false (cap:=k) (cv:=(Array.range<|k*s).map (v.cells[· % v.cells.size]!)) (t:=e) (es:=List.replicate l<|z.map AV.lit)
  (w':=c.w.alloc<|.cells ((Array.range<|k*s).map (v.cells[· % v.cells.size]!)) e (0,0)) (n:=l) (s:=s) (by simp) f (by simp) rfl rfl rfl rfl ?_ (by simp) p1 p2
 .simpa using this
 .have S:=Jv (n:=l) (by omega);have Z:=Jv (n:=k) q;have C:¬(281474976710656:Int)<(bytes:Int)*(k:Int):=by
   rw[<-Wp,YN];omega
  have u:¬(k:Int)<(l:Int):=by omega
  have L:¬(l:Int)<0:=by omega
  have B:¬(k:Int)<0:=by omega
  simp[L,B,execOp,ho,Instr.makeSlice,Zm V,asInt,asIntOf,X,e2,typeInfo,h,b,S,Z,C,u];by_cases j:k=0
  .subst j;have W:Array.range 0=#[]:=rfl;simp[sizeOf,typeInfo,h,r,W,newRow]
  .simp[sizeOf,typeInfo,h,r,zeroValue,hv,newRow];intro h0;have:=Nat.mul_pos (WY j) F;omega
def aGk(v:Option Value)(n:Option Nat): Prop:=(v=none/\n=none)\/∃k m,v=some (.int k (m:Nat))/\n=some m
theorem zX[aF](e:bY (aK T) c)(d:TR (aK T) c tm a.tmps){x:Option bA}{y:Option Operand}{n:Option Nat}(h:wS T x y=true)(b:eC tm x=some n): aGk (y.map a.eval) n:=by
 unfold wS at h;split at h
 .simp only[eC,Za] at b;subst b;exact .inl ⟨rfl,rfl⟩
 .rename_i x y;simp only[eC] at b;split at b
  .rename_i m f;cases b;let⟨k,g⟩:=uD (aX e d h) f;exact .inr ⟨k,m,by simp[g],rfl⟩
  .cases b
 .cases h
theorem B9{k:IntKind}{y:Nat}{b:BoundsCode}(h:m<=y)(w:World): (Instr.sliceBound (.int k (m:Nat)) y b).run P w=.ok m w:=by
 have c:(m:Int)<=(y:Int):=by omega
 simp[Instr.sliceBound,asIntOf,c]
theorem Mc[aF]{isS:Bool}{c b:Option Value}{e:Option Nat}(i:aGk c e)(j:aGk b d)(k:aGk vmx mx)(h:mx.getD cap<=cap)(g:d.getD len<=mx.getD cap)(f:e.getD 0<=d.getD len)(l:mx.isSome=true->d.isSome=true)(w:World):
 (Instr.sliceBounds isS len cap c b vmx).run P w=.ok (e.getD 0,d.getD len,mx.getD cap) w:=by
 unfold Instr.sliceBounds;rcases k with⟨rfl,rfl⟩ | ⟨o,p,rfl,rfl⟩<;>rcases j with⟨rfl,rfl⟩ | ⟨m,n,rfl,rfl⟩<;>rcases i with⟨rfl,rfl⟩ | ⟨q,r,rfl,rfl⟩<;>simp at h g f l |- <;>
  simp[B9,h,g,f]
theorem mS[aF]{c f:Option Value}{b:Option Nat}(m:P.underlying t=some (.slice e))(j:dO P e s=true)(q:aGk c b)(o:aGk f d)(l:aGk vmx mx)(p:mx.getD cap<=cap)(n:d.getD len<=mx.getD cap)(k:b.getD 0<=d.getD len)(r:mx.isSome=true->d.isSome=true)(w:World):
 (Instr.sliceAt t (.slice ad len cap) c f vmx).run P w =
  .ok (.slice (if mx.getD cap=b.getD 0 then ad else ad.map (·.add<|b.getD 0*s)) (d.getD len-b.getD 0)<|mx.getD cap-b.getD 0) w:=by
 let⟨i,g,h⟩:=eJ j;simp[Instr.sliceAt,Instr.slice,Zm m,Mc q o l p n k r,sizeOf,typeInfo,g,h]
theorem aFC{s':Nat}(h:mY s es=true)(b:∀e∈es,e.length=s')(a:es≠[]): s'=s:=by
 cases es with
 | nil=>exact (a rfl).elim
 | cons e r=>
  simp only[mY,ZC] at h;rw[<-b e<|by simp,h]
theorem aAZ[aF](c:bK ((es.take h).drop l) i j=some x): bK es (l+i) j=some x:=by
 let⟨e,a,b⟩:=cZ c;rw[Zw,Zs] at a;split at a
 .simp[bK,a,b]
 .cases a
theorem aJU[aF]{g:Bool}(r:RP w I (.sl f es)<|.slice ad len cap)(y:mY s es=true)(C:l<=h)(B:h<=m)(n:h<=es.length)(q:g=true->m=h):
 RP w I (.sl g<|(es.take h).drop l)<|.slice (if m=l then ad else ad.map (·.add<|l*s)) (h-l)<|m-l:=by
 by_cases he:h=l
 .subst he;have:(es.take h).drop h=[]:=WD (by simp;omega);rw[this,XR];exact .nil g _ _ λe=>by have:=q e;omega
 .cases r with
  | nil=>simp at n;omega
  | sl _ _ b off _ cc T D s' d v A t p F E z u=>
   have es':s'=s:=aFC y p v;subst es';have a:((es.take h).drop l).length=h-l:=by simp;omega
   rw[ZF<|by omega,<-a];simp only[Yz,fM];refine .sl g _ b (off+l*s') (m-l) cc T D s' (λi j=>d (l+i) j) ?_ A t ?_ (by omega) (λe=>by have:=q e;omega) ?_ ?_
   .intro e;rw[e] at a;simp at a;omega
   .intro e k;exact p e<|Z7<|ZZ k
   .intro i j x o;have:=z _ _ x<|aAZ o;rwa [show off+((l+i)*s'+j)=off+l*s'+(i*s'+j) by rw[ZA];omega] at this
   .intro i j x o;exact u _ _ x<|aAZ o
theorem aFk(c:RP w I (.sl f es) v): ∃ad cap,v=.slice ad es.length cap/\es.length<=cap/\(f=true->cap=es.length):=by
 cases c with
 | nil _ ad cap d=>exact⟨ad,cap,rfl,ZG _,d⟩
 | sl _ _ b off cap cc T l s' a h m k i g e n j=>exact⟨_,cap,rfl,g,e⟩
theorem aKq[aF](D:bY (aK T) c)(N:TR (aK T) c tm a.tmps){x:bA}{y:Operand}{lo hi mx:Option bA}{U W X:Option Operand}{k z a3:Option Nat}{v:AV}(ho:o.op=.slice t y U W X)(h0:aS T x y=true)(h1:wS T lo U=true)(h2:wS T hi W=true)(h3:wS T mx X=true)(R:P.underlying t=some (.slice e))(q:dO P e s=true)(n1:eC tm lo=some k)(n2:eC tm hi=some z)(n3:eC tm mx=some a3)(g:gP c.H s (aH tm x) k z a3=some v): dM P (aK T) c fl o a v c.H:=by
 have F:=aX D N h0;have O:=zX D N h1 n1;have Q:=zX D N h2 n2;have M:=zX D N h3 n3;have l:∀(u r:Value),a.eval y=u->(Instr.sliceAt t u (U.map a.eval) (W.map a.eval)<|X.map a.eval).run P c.w=.ok r c.w->(execOp a.eval o).run P c.w=.ok (.value r) c.w:=by
  intro u r b3 hr;subst b3;simp only[execOp,ho,YW,hr,YK,Y4]
 unfold gP at g;split at g
 .rename_i B;rw[B] at F;split at g
  .rename_i p;cases g;let⟨E,c2,S,c4⟩:=p;refine bR (cv:=bO) D ?_<|RV.lit _;have:=mS (P:=P) (ad:=none) (len:=0) (cap:=0) R q O Q M (by omega) (by omega) (by omega) (by simpa using c4) c.w;simp only[execOp,ho,F.lit_inv,YW,this,YK,Y4,E,c2,S];rfl
  .cases g
 .rename_i f es B;rw[B] at F;have hp:=F.sl_inv;let⟨ad,cap,n,I,V⟩:=aFk hp;rw[n] at hp;split at g
  .simp only[] at g;split at g
   .rename_i p;cases g;have d:=mS (P:=P) (ad:=ad) (len:=es.length) (cap:=cap) R q O Q M (by simp) (by simp;omega) (by simpa using p.1) (by simp) c.w;refine bR D (l _ _ n d)<|.pure _ _<|aJU (m:=cap) hp p.2.2 p.1 (by omega) p.2.1 ?_;intro e;simp only[Zd,ZC] at e;rw[V e.1,e.2]
   .cases g
  .rename_i m;split at g
   .cases g
   .rename_i h;simp only[] at g;split at g
    .rename_i p;cases g;have d:=mS (P:=P) (ad:=ad) (len:=es.length) (cap:=cap) R q O Q M (by simp;omega) (by simp;omega) (by simpa using p.1) (by simp) c.w;refine bR D (l _ _ n d)<|.pure _ _ ?_;simp only[Yp];refine aJU hp p.2.2.2 p.1 p.2.1 (by omega) ?_;intro e;simpa using (ZC.1 e).symm
    .cases g
 .rename_i es B;rw[B] at F;let⟨ad,cap,n,I,d1⟩:=F.vw_inv;split at g
  .simp only[] at g;split at g
   .rename_i p;cases g;let⟨E,c2,S⟩:=p;have d:=mS (P:=P) (ad:=ad) (len:=es.length) (cap:=cap) R q O Q M (by simp) (by simp;omega) (by simpa using E) (by simp) c.w;refine bR D (l _ _ n d) ?_;simp only[Wj];have C:((es.take<|z.getD es.length).drop<|k.getD 0).length=z.getD es.length-k.getD 0:=by simp;omega
    by_cases A:(es.take<|z.getD es.length).drop (k.getD 0)=[]
    .rw[A] at C |-;rw[<-C];exact .vnil _ _
    .have d2:k.getD 0<z.getD es.length:=by
      have:0<((es.take<|z.getD es.length).drop<|k.getD 0).length:=WW.2 A;omega
     rcases d1 with rfl | ⟨b,off,cc,Ty,fz,s',a2,rfl,g2,g3,g4,g7,g8⟩
     .simp at A
     .have b1:s'=s:=by
       cases es with
       | nil=>simp at A
       | cons e r=>
        simp only[mY,ZC] at S;rw[<-g4 e<|by simp,S]
      subst b1;rw[ZF<|by omega];simp only[Yz,fM];rw[<-C];refine .vw _ b (off+k.getD 0*s') (cap-k.getD 0) cc Ty fz s' (λi j=>a2 (k.getD 0+i) j) A g2 g3 (λe he=>g4 e<|Z7<|ZZ he) (by rw[C];omega) ?_ ?_
      .intro i j x F;have Z:bK es (k.getD 0+i) j=some x:=by
        let⟨e,he,hj⟩:=cZ F;rw[Zw,Zs] at he;split at he
        .simp[bK,he,hj]
        .cases he
       have:=g7 _ j x Z;refine⟨?_,this.2⟩;rw[<-this.1];congr 1;rw[ZA];omega
      .intro i j x F;have Z:bK es (k.getD 0+i) j=some x:=by
        let⟨e,he,hj⟩:=cZ F;rw[Zw,Zs] at he;split at he
        .simp[bK,he,hj]
        .cases he
       exact g8 _ j x Z
   .cases g
  .rename_i m;split at g
   .cases g
   .rename_i h;split at g
    .rename_i p;cases g;obtain⟨E,rfl,rfl⟩:=p;have d:=mS (P:=P) (ad:=ad) (len:=es.length) (cap:=cap) R q O Q M (by simp) (by simp) (by simp[E]) (by simp) c.w;refine bR D (l _ _ n d) ?_;simp only[Yp,E,WA];exact .pure _ _<|.nil true _ 0 λ_=>rfl
    .cases g
 .rename_i id tot off len B;rw[B] at F;let⟨ad,cap,s0,n0,n,g1,g2,g3,g4⟩:=F.ms_inv;split at g
  .simp only[] at g;split at g
   .rename_i s' es G;split at g
    .rename_i p;cases g;let⟨E,c2,rfl⟩:=p;rw[eT G] at g1;cases g1;have d:=mS (P:=P) (ad:=ad) (len:=len) (cap:=cap) R q O Q M (by simp) (by simp;omega) (by simpa using E) (by simp) c.w;refine bR D (l _ _ n d) ?_;simp only[Wj];refine .ms id tot _ _ _ _ s0 _ (eT G) g2 (by omega) λet=>?_;let⟨m1,m2⟩:=g4 et;refine⟨by omega,?_⟩;rcases m2 with⟨L,K,J,Y⟩ | ⟨b,cc,Ty,a',L,K,J,Y,m7⟩
     .subst J;exact .inl ⟨L,K,by split<;>rfl,by omega⟩
     .refine .inr ⟨b,cc,Ty,if cap=k.getD 0 then a' else a'.add (k.getD 0*s0),L,K,?_,?_,?_⟩
      .rw[<-J];congr 1;omega
      .subst Y;split<;>rfl
      .intro A;rw[ZF<|by omega,m7<|by omega,fM,ZA]
    .split at g
     .rename_i p;cases g;let⟨E,c2,S,c4,rfl⟩:=p;rw[eT G] at g1;cases g1;let⟨m1,m2⟩:=g4 S.symm;have I:z.getD len<=cap:=by
       rcases m2 with⟨L,K,J,Y⟩ | ⟨b,cc,Ty,a',L,K,J,Y,m7⟩
       .omega
       .let⟨e3,d3,q1,q2,q3⟩:=D.blk id _ es b G L;rw[K] at q1;cases q1;rw[<-J] at q2;have:=Nat.le_of_mul_le_mul_right q2 c4;omega
      have d:=mS (P:=P) (ad:=ad) (len:=len) (cap:=cap) R q O Q M (by simp) (by simpa using I) (by simpa using E) (by simp) c.w;refine bR D (l _ _ n d) ?_;simp only[Wj];refine .ms id tot _ _ _ _ s0 _ (eT G) g2 (by omega) λet=>?_;refine⟨by omega,?_⟩;rcases m2 with⟨L,K,J,Y⟩ | ⟨b,cc,Ty,a',L,K,J,Y,m7⟩
      .subst J;exact .inl ⟨L,K,by split<;>rfl,by omega⟩
      .refine .inr ⟨b,cc,Ty,if cap=k.getD 0 then a' else a'.add (k.getD 0*s0),L,K,?_,?_,?_⟩
       .rw[<-J];congr 1;omega
       .subst Y;split<;>rfl
       .intro A;rw[ZF<|by omega,m7<|by omega,fM,ZA]
     .cases g
   .cases g
  .rename_i m;split at g
   .cases g
   .rename_i h;simp only[] at g;split at g
    .rename_i p;cases g;let⟨E,c2,S⟩:=p;have d:=mS (P:=P) (ad:=ad) (len:=len) (cap:=cap) R q O Q M (by simp;omega) (by simp;omega) (by simp;omega) (by simp) c.w;refine bR D (l _ _ n d) ?_;simp only[Yp];have e1:h-k.getD 0=0:=by omega
     have e2:m-k.getD 0=0:=by omega
     rw[e1,e2];exact .pure _ _<|.nil true _ 0 λ_=>rfl
    .split at g
     .rename_i p;cases g;let⟨E,c2,S⟩:=p;have d:=mS (P:=P) (ad:=ad) (len:=len) (cap:=cap) R q O Q M (by simp;omega) (by simp;omega) (by simp;omega) (by simp) c.w;exact bR D (l _ _ n d)<|RV.undef _
     .cases g
 .cases g
end
end
section
variable {FT:Nat->Option Nat}{P:Program}{T:List cQ}{a:Act}{b:Nat}{c:dF}{d:List<|Value×AV}{e:TypeId}{ents':List<|Value×AV}{es:Array MapEntry}{fl i id j:Nat}{k:Value}{k':Operand}{kind:TypeDesc}{kt:TypeId}{m:bA}{o:Oper}{t:TypeId}{tm:List AV}{v:Value}{x:bA}{α β:Type}
section
theorem aD3[aF](i:bY (aK T) c)(e:TR (aK T) c tm a.tmps){y:Operand}{j l:Option bA}{h g:Option Operand}{d b:Option Nat}{s:ByteArray}(B:o.op=.slice t y h g none)(v:aS T x y=true)(q:wS T j h=true)(r:wS T l g=true)(u:P.underlying t=some .string)(z:eC tm j=some d)(p:eC tm l=some b)(A:aH tm x=.lit (.string s))(k:d.getD 0<=b.getD s.size/\b.getD s.size<=s.size):
 dM P (aK T) c fl o a (.lit<|.string<|s.extract (d.getD 0)<|b.getD s.size) c.H:=by
 have m:=aX i e v;rw[A] at m;have C:=zX i e q z;have n:=zX i e r p;refine bR (cv:=.string<|s.extract (d.getD 0)<|b.getD s.size) i ?_<|RV.lit _;have:=Mc (P:=P) (isS:=false) (len:=s.size) (cap:=s.size) (vmx:=none) (mx:=none) C n (.inl ⟨rfl,rfl⟩) (by simp) (by simpa using k.2) k.1 (by simp) c.w;simp[execOp,B,m.lit_inv,Instr.sliceAt,Instr.slice,Zm u,this]
theorem S7(x:Sem α)(f:α->Sem β): aQ P (x.bind f)=(aQ P x).bind λa=>aQ P<|f a:=by
 induction x with
 | pure a=>rfl
 | program k b=>simp only[Sem.bind,aQ];exact b P
 | mark m k b=>simp only[Sem.bind,aQ];exact b
 | _=>rfl
theorem bX[aF](x:Sem α)(f:α->Sem β): aQ P (x >>= f)=(aQ P x).bind λa=>aQ P<|f a:=S7 x f
theorem cJ(x:α): aQ P (pure x:Sem α)=some x:=rfl
theorem VJ{p:Prop}[Decidable p](x y:Sem α): aQ P (if p then x else y)=if p then aQ P x else aQ P y:=by split<;>rfl
theorem VW[aF]: ∀(c b:List MapEntry) (i:Nat),c.map (·.key)=b.map (·.key)->
 (Instr.findNow kind k c i).map (·.map (·.1))=(Instr.findNow kind k b i).map (·.map (·.1))
 | [],[],_,_=>rfl
 | f::d,e2::e,i,h=>by
  simp only[ZE,XU] at h;simp only[Instr.findNow,h.1];split
  .rfl
  .exact VW d e (i+1) h.2
  .rfl
 | [],_::_,_,h=>by cases h
 | _::_,[],_,h=>by cases h
theorem VV[aF]: ∀(es:List MapEntry) (i:Nat),Instr.findNow kind k es i=some (some (j,v))->i<=j/\∃e,es[j-i]?=some e/\v=e.val
 | [],_,h=>by cases h
 | e::r,i,h=>by
  simp only[Instr.findNow] at h;split at h
  .cases h;exact⟨Zf _,e,by simp,rfl⟩
  .let⟨f,c,b,d⟩:=VV r (i+1) h;refine⟨by omega,c,?_,d⟩;have:j-i=(j-(i+1))+1:=by omega
   rw[this,ZL];exact b
  .cases h
theorem Qn[aF]: ∀(d c:List MapEntry) (i:Nat),d.map (·.key)=c.map (·.key)->
 (aQ P<|Instr.findAsking kt k d i).map (·.map (·.1))=(aQ P<|Instr.findAsking kt k c i).map (·.map (·.1))
 | [],[],_,_=>rfl
 | g::e,e2::f,i,h=>by
  simp only[ZE,XU] at h;simp only[Instr.findAsking,h.1,bX,VJ,cJ];cases aQ P (Op.equal kt k e2.key) with
  | none=>rfl
  | some b=>
   simp only[Z2];split
   .rfl
   .exact Qn e f (i+1) h.2
 | [],_::_,_,h=>by cases h
 | _::_,[],_,h=>by cases h
theorem Qk[aF]: ∀(es:List MapEntry) (i:Nat),aQ P (Instr.findAsking kt k es i)=some (some (j,v))->i<=j/\∃e,es[j-i]?=some e/\v=e.val
 | [],_,h=>by simp[Instr.findAsking,cJ] at h
 | e::r,i,h=>by
  simp only[Instr.findAsking,bX,VJ,cJ] at h;cases c:aQ P (Op.equal kt k e.key) with
  | none=>rw[c] at h;cases h
  | some b=>
   rw[c] at h;simp only[Z2] at h;split at h
   .cases h;exact⟨Zf _,e,by simp,rfl⟩
   .let⟨l,d,g,f⟩:=Qk r (i+1) h;refine⟨by omega,d,?_,f⟩;have:j-i=(j-(i+1))+1:=by omega
    rw[this,ZL];exact g
theorem zM[aF]: aQ P (underlying t)=P.underlying t:=by
 unfold underlying;rw[bX];have:aQ P program=some P:=rfl;rw[this];simp only[Z2];split
 .rename_i h;rw[h];rfl
 .rename_i h;rw[h];rfl
theorem VY[aF]{c b:List MapEntry}(h:c.map (·.key)=b.map (·.key)):
 (aQ P<|Instr.findKey kt k c).map (·.map (·.1))=(aQ P<|Instr.findKey kt k b).map (·.map (·.1)):=by
 simp only[Instr.findKey,bX,zM];cases P.underlying kt with
 | none=>rfl
 | some d=>
  simp only[Z2];have e:=VW (kind:=d) (k:=k) c b 0 h;cases g:Instr.findNow d k c 0 with
  | none=>
   cases f:Instr.findNow d k b 0 with
   | none=>exact Qn c b 0 h
   | some i=>rw[g,f] at e;cases e
  | some j=>
   cases f:Instr.findNow d k b 0 with
   | none=>rw[g,f] at e;cases e
   | some i=>rw[g,f] at e;exact e
theorem aEh[aF]{es:List MapEntry}(h:aQ P (Instr.findKey kt k es)=some (some (j,v))): ∃e,es[j]?=some e/\v=e.val:=by
 simp only[Instr.findKey,bX,zM] at h;cases f:P.underlying kt with
 | none=>rw[f] at h;cases h
 | some d=>
  rw[f] at h;simp only[Z2] at h;split at h
  .rename_i r g;simp only[cJ,Za] at h;subst h;let⟨_,e,b,c⟩:=VV es 0 g;exact⟨e,by simpa using b,c⟩
  .let⟨_,e,b,c⟩:=Qk es 0 h;exact⟨e,by simpa using b,c⟩
def Js(FT:Nat->Option Nat)(c:dF)(ents:List<|Value×AV)(es:Array MapEntry): Prop:=
 es.size=ents.length/\∀(i:Nat) (k:Value) (x:AV),ents[i]?=some (k,x)->∃e,es[i]?=some e/\e.key=k/\RV FT c x e.val
theorem L3{a:List<|Value×AV}(h:Js FT c a es):
 (a.map λe=>({ key:=e.1,val:=.bool false,born:=0 }:MapEntry)).map (·.key)=es.toList.map (·.key):=by
 apply Ym;intro i;simp only[Ya,Zk];cases he:a[i]? with
 | none=>
  have:es.toList[i]?=none:=by
   rw[XG] at he |-;simp only[Zx,h.1];exact he
  rw[this];rfl
 | some p=>
  let⟨k,x⟩:=p;let⟨e,g,f,_⟩:=h.2 i k x he;have:es.toList[i]?=some e:=by simpa using g
  rw[this];simp[f]
theorem FW[aF]{a:List<|Value×AV}(h:Js FT c a es)(f:kQ P kt k a=some (some i))(w:World):
 ∃e,es[i]?=some e/\(Instr.findKey kt k es.toList).run P w=.ok (some (i,e.val)) w:=by
 have d:=VY (P:=P) (kt:=kt) (k:=k)<|L3 h;unfold kQ at f;split at f
 .rename_i j v o;cases f;rw[o] at d;cases g:aQ P (Instr.findKey kt k es.toList) with
  | none=>rw[g] at d;cases d
  | some r=>
   rw[g] at d;cases r with
   | none=>cases d
   | some p=>
    let⟨m,q⟩:=p;have:i=m:=by simpa using d
    subst this;let⟨e,n,l⟩:=aEh g;exact⟨e,by simpa using n,by rw[cO g,l]⟩
 .cases f
 .cases f
theorem FX[aF]{a:List<|Value×AV}(h:Js FT c a es)(e:kQ P kt k a=some none)(w:World):
 (Instr.findKey kt k es.toList).run P w=.ok none w:=by
 have d:=VY (P:=P) (kt:=kt) (k:=k)<|L3 h;unfold kQ at e;split at e
 .cases e
 .rename_i g;rw[g] at d;cases f:aQ P (Instr.findKey kt k es.toList) with
  | none=>rw[f] at d;cases d
  | some r=>
   rw[f] at d;cases r with
   | none=>exact cO f
   | some p=>cases d
 .cases e
theorem aL0[aF](f:bY (aK T) c){a:List<|Value×AV}(i:c.H[id]?=some (.mp a))(g:c.β id=some b):
 ∃es d,c.w.heap[b]?=some (.map es d)/\Js (aK T) c a es:=by
 let⟨es,d,j,e,h⟩:=f.map id a b i g;exact⟨es,d,j,e.1,h⟩
theorem aEr[aF](f:bY (aK T) c){a:List<|Value×AV}(i:c.H[id]?=some (.mp a))(g:c.β id=some b):
 ∃es d,c.w.heap[b]?=some (.map es d)/\Js (aK T) c a es/\Yng es d:=by
 let⟨es,d,j,e,h⟩:=f.map id a b i g;exact⟨es,d,j,⟨e.1,h⟩,e.2⟩
theorem iE{w:World}{a:Nat}(h:w.heap[b]?=some (.map es a)): (getObj b).run P w=.ok (.map es a) w:=by
 simp[getObj,Sem.run,h]
theorem I2{a:List<|Value×AV}(h:Js FT c a es): es.isEmpty=a.isEmpty:=by
 have:=h.1;cases a with
 | nil=>simp at this;simp[this]
 | cons e r=>
  have:es≠#[]:=by intro e;subst e;simp at this
  simp[this]
theorem aA1[aF](J:bY (aK T) c)(B:TR (aK T) c tm a.tmps){z k:bA}{C:Operand}{ok:Bool}{y:Value}{r v:AV}{i:TypeInfo}{N:Value}(ho:o.op=.lookup t C k' ok)(h1:aS T m C=true)(h2:aS T k k'=true)(Q:P.underlying t=some (.map kt e))(Y:P.info? e=some i)(X:i.zero=some N)(K:RV (aK T) c (aH tm z) N)(hk:lits (aH tm k)=some y)(R:aQ P (Instr.checkKey d.isEmpty 10000 kt y)=some ())(A:(aH tm m=.lit (.map none)/\d=[])\/(∃id,aH tm m=.mp id/\c.H[id]?=some (.mp d))\/aH tm m=.rmp d)(hr:(∃i e,kQ P kt y d=some (some i)/\d[i]?=some e/\r=e.2/\v=.lit (.bool true))\/(kQ P kt y d=some none/\r=aH tm z/\v=.lit (.bool false))):
 dM P (aK T) c fl o a (if ok then .tup [r,v] else r) c.H:=by
 have p:=aX J B h1;have S:=LT (aX J B h2) hk;have M:∃es:Array MapEntry,Js (aK T) c d es/\((a.eval C=.map none/\es=#[])\/∃b g,a.eval C=.map (some b)/\c.w.heap[b]?=some (.map es g)):=by
  rcases A with⟨A,rfl⟩ | ⟨id,A,O⟩ | A<;>rw[A] at p
  .exact⟨#[],⟨rfl,λi k x j=>by simp at j⟩,.inl ⟨p.lit_inv,rfl⟩⟩
  .let⟨b,l,_,G⟩:=p.mp_inv;let⟨es,g,u,q⟩:=aL0 J O G;exact⟨es,q,.inr ⟨b,g,l,u⟩⟩
  .let⟨b,es,g,E,l,u,q,F,U⟩:=p.rmp_inv;exact⟨es,⟨q,λi k x j=>⟨E i,(F i k x j).1,(F i k x j).2,.pure _ _<|U i k x j⟩⟩,.inr ⟨b,g,l,u⟩⟩
 let⟨es,I,Z⟩:=M;have h:(Instr.checkKey es.isEmpty 10000 kt y).run P c.w=.ok () c.w:=by rw[I2 I];exact cO R
 have D:∃(s:Value) (b:Bool),RV (aK T) c r s/\v=.lit (.bool b)/\(Instr.lookup t (a.eval C) y ok).run P c.w=.ok (if ok then .tuple #[s,.bool b] else s) c.w:=by
  rcases hr with⟨i0,en,L,V,rfl,rfl⟩ | ⟨L,rfl,rfl⟩
  .let⟨e',u,q⟩:=FW I L c.w;let⟨k0,x0⟩:=en;let⟨a1,F,_,U⟩:=I.2 i0 k0 x0 V;rw[u] at F;cases F;refine⟨e'.val,true,U,rfl,?_⟩;rcases Z with⟨l,rfl⟩ | ⟨b,g,l,G⟩
   .simp at u
   .simp[Instr.lookup,Zm Q,l,iE G,h,q]
  .have q:=FX I L c.w;refine⟨N,false,K,rfl,?_⟩;rcases Z with⟨l,rfl⟩ | ⟨b,g,l,G⟩
   .simp only[Array.isEmpty_empty] at h;simp[Instr.lookup,Zm Q,l,h,q,zeroValue,typeInfo,Y,X]
   .simp[Instr.lookup,Zm Q,l,iE G,h,q,zeroValue,typeInfo,Y,X]
 obtain⟨s,b,W,rfl,k3⟩:=D;refine bR (cv:=if ok then .tuple #[s,.bool b] else s) J (by simp[execOp,ho,S,k3]) ?_;cases ok with
 | false=>simpa using W
 | true=>
  simp only[Zz];refine .tup _ _ (λi=>if i=0 then s else .bool b) rfl ?_ ?_
  .intro i x j;match i with
   | 0=>rfl
   | 1=>rfl
   | n+2=>simp at j
  .intro i x j;match i with
   | 0=>simp at j;subst j;simpa using W
   | 1=>simp at j;subst j;exact RV.lit _
   | n+2=>simp at j
theorem aIJ{a:List<|Value×AV}{x:AV}{e:MapEntry}(h:Js FT c a es)(he:es[i]?=some e)(p:RV FT c x v):
 Js FT c (a.set i (k,x))<|es.modify i λe=>{ e with key:=k,val:=v }:=by
 refine⟨by simpa using h.1,λj k' g d=>?_⟩;rw[Z5] at d;split at d
 .rename_i b;subst b;split at d
  .cases d;refine⟨{ e with key:=k,val:=v },?_,rfl,p⟩;rw[YH];simp[he]
  .cases d
 .rename_i b;let⟨l,n,m,o⟩:=h.2 j k' g d;refine⟨l,?_,m,o⟩;rw[YH];simp[b,n]
theorem aFO{a:List<|Value×AV}{x:AV}{n:Nat}(h:Js FT c a es)(p:RV FT c x v):
 Js FT c (a++[(k,x)])<|es.push { key:=k,val:=v,born:=n }:=by
 refine⟨by simp[h.1],λj k' f b=>?_⟩;rw[Yk] at b;split at b
 .rename_i g;let⟨i,m,l,o⟩:=h.2 j k' f b;refine⟨i,?_,l,o⟩;rw[ZU,ZF<|by rw[h.1];omega];exact m
 .rename_i g;rw[List.getElem?_singleton] at b;split at b
  .rename_i q;cases b;refine⟨{ key:=k,val:=v,born:=n },?_,rfl,p⟩;rw[ZU,Zu<|by rw[h.1];omega]
  .cases b
theorem aBi{a:Nat}{f:MapEntry->MapEntry}(h:Yng es a)(b:∀e,(f e).born=e.born): Yng (es.modify i f) a:=by
 refine⟨λe he=>?_,?_⟩
 .obtain⟨j,d,rfl⟩:=Xs.1 he;simp only[Array.getElem_toList,Array.getElem_modify];have c:j<es.size:=by simpa using d
  have:=h.1 es[j] (by simp);split
  .rw[b];exact this
  .exact this
 .have e:(es.modify i f).toList.map (·.born)=es.toList.map (·.born):=by
   apply Ym;intro j;simp only[Zk,Z8,YH];split
   .cases es[j]? with
    | none=>rfl
    | some e=>simp[b]
   .rfl
  rw[e];exact h.2
theorem aES{c:Nat}(h:Yng es c): Yng (es.push { key:=k,val:=v,born:=c })<|c+1:=by
 refine⟨λe he=>?_,?_⟩
 .simp only[W9,ZD,ZJ] at he;rcases he with he | rfl
  .exact Nat.lt_succ_of_lt<|h.1 e he
  .exact Wk _
 .rw[W9,YJ,List.nodup_append];refine⟨h.2,by simp,λa g b f e=>?_⟩;obtain⟨x,i,rfl⟩:=Yh.1 g;have:=h.1 x i;simp at f;omega
theorem aCN{a:Nat}(h:Yng es a)(b:i<es.size): Yng (es.eraseIdxIfInBounds i) a:=by
 have e:(es.eraseIdxIfInBounds i).toList=es.toList.eraseIdx i:=by simp only[Array.eraseIdxIfInBounds,b,Wz,Array.toList_eraseIdx]
 unfold Yng;rw[e];exact⟨λe he=>h.1 e<|List.mem_of_mem_eraseIdx he,((List.eraseIdx_sublist _ _).map _).nodup h.2⟩
theorem aA0[aF](y:bY (aK T) c)(s:TR (aK T) c tm a.tmps){k:bA}{D v:Operand}{f:List<|Value×AV}{h:Value}(C:o.op=.mapUpdate t D k' v\/o.op=.insert t D k' v)(h1:aS T m D=true)(h2:aS T k k'=true)(h3:aS T x v=true)(X:P.underlying t=some (.map kt e))(hk:lits (aH tm k)=some h)(K:aQ P (Instr.checkKey false 10000 kt h)=some ())(G:fl<=id)(hm:aH tm m=.mp id)(r:c.H[id]?=some (.mp f))(hr:(∃i E,kQ P kt h f=some (some i)/\f[i]?=some E/\Instr.sameBits 10000 E.1 h=true/\ents'=f.set i (h,aH tm x))\/(kQ P kt h f=some none/\ents'=f++[(h,aH tm x)])):
 dM P (aK T) c fl o a (.lit bM)<|c.H.set id<|.mp ents':=by
 have z:=aX y s h1;rw[hm] at z;have I:=LT (aX y s h2) hk;have Y:=aX y s h3;let⟨b,U,_,R⟩:=z.mp_inv;let⟨es,q,F,A,S⟩:=aEr y r R;have p:=cO (w:=c.w) K;have n:∀ob,(setObj b ob).run P c.w=.ok () { c.w with heap:=c.w.heap.setIfInBounds b ob }:=by
  intro ob;simp[setObj,Sem.run,F]
 have j:∃es' g,(Js (aK T) c ents' es'/\Yng es' g)/\(Instr.mapUpdate t (a.eval D) h<|a.eval v).run P c.w=.ok () { c.w with heap:=c.w.heap.setIfInBounds b (.map es' g) }:=by
  rcases hr with⟨V,E,Q,N,B,rfl⟩ | ⟨Q,rfl⟩
  .let⟨e',J,M⟩:=FW A Q c.w;let⟨k0,x0⟩:=E;let⟨a1,Z,k4,_⟩:=A.2 V k0 x0 N;rw[J] at Z;cases Z;refine⟨es.modify V λe=>{ e with key:=h,val:=a.eval v },q,⟨aIJ A J Y,aBi S λ_=>rfl⟩,?_⟩;have O:(Instr.keyThatStays e'.key h).run P c.w=.ok h c.w:=by
    simp only at B;simp[Instr.keyThatStays,k4,B]
   simp[Instr.mapUpdate,Zm X,U,iE F,p,M,J,O,n]
  .have M:=FX A Q c.w;refine⟨es.push { key:=h,val:=a.eval v,born:=q },q+1,⟨aFO A Y,aES S⟩,?_⟩;simp[Instr.mapUpdate,Zm X,U,iE F,p,M,n]
 let⟨es',g,u,j⟩:=j;refine aGY (β':=c.β) (w':={ c.w with heap:=c.w.heap.setIfInBounds b (.map es' g) }) ?_ (Oi (ob:=.map es' g) y G r R rfl rfl rfl rfl)<|D1 y r R rfl rfl rfl rfl ⟨u.1.1,u.2⟩ u.1.2;rcases C with C | C<;>simp[execOp,C,I,j]
theorem aA3[aF](x:bY (aK T) c)(A:TR (aK T) c tm a.tmps){k:bA}{K:Operand}{ts:Array TypeId}(ho:o.op=.call ⟨.builtin .delete,#[K,k'],ts⟩)(Q:ts[0]?=some t)(W:aS T m K=true)(Y:aS T k k'=true)(S:P.underlying t=some (.map kt e))(hk:lits (aH tm k)=some v)(E:aQ P (Instr.checkKey d.isEmpty 10000 kt v)=some ())(L:fl<=id)(X:aH tm m=.mp id)(u:c.H[id]?=some (.mp d))(V:(∃i,kQ P kt v d=some (some i)/\ents'=d.eraseIdx i)\/(kQ P kt v d=some none/\ents'=d)):
 dM P (aK T) c fl o a (.lit bM)<|c.H.set id<|.mp ents':=by
 have z:=aX x A W;rw[X] at z;have C:=LT (aX x A Y) hk;let⟨b,O,_,J⟩:=z.mp_inv;let⟨es,y,G,l,N⟩:=aEr x u J;have p:(Instr.checkKey es.isEmpty 10000 kt v).run P c.w=.ok () c.w:=by rw[I2 l];exact cO E
 have q:∀ob,(setObj b ob).run P c.w=.ok () { c.w with heap:=c.w.heap.setIfInBounds b ob }:=by
  intro ob;simp[setObj,Sem.run,G]
 have g:∃es' f,(Js (aK T) c ents' es'/\Yng es' f)/\(Builtin.delete_ ts o.type #[a.eval K,v]).run P c.w=.ok (.tuple #[]) { c.w with heap:=c.w.heap.setIfInBounds b (.map es' f) }:=by
  rcases V with⟨M,D,rfl⟩ | ⟨D,rfl⟩
  .let⟨e',Z,I⟩:=FW l D c.w;have h:M<es.size:=(Xa.1 Z).1;refine⟨es.eraseIdxIfInBounds M,y,⟨⟨?_,?_⟩,aCN N h⟩,?_⟩
   .simp only[Array.eraseIdxIfInBounds,h,Wz];rw[Array.size_eraseIdx,List.length_eraseIdx,l.1];rw[Zu<|by rw[<-l.1];exact h]
   .intro j U R B;simp only[Array.eraseIdxIfInBounds,h,Wz];rw[List.getElem?_eraseIdx] at B;rw[Array.getElem?_eraseIdx];split at B
    .rename_i F;rw[Zu F];exact l.2 j U R B
    .rename_i F;rw[ZF F];exact l.2 _ U R B
   .simp[Builtin.delete_,Q,Zm S,O,iE G,p,I,q]
  .have I:=FX l D c.w;refine⟨es,y,⟨l,N⟩,?_⟩;simp[Builtin.delete_,Q,Zm S,O,iE G,p,I,q]
 let⟨es',f,s,g⟩:=g;refine eM (cv:=.tuple #[]) (β':=c.β) (w':={ c.w with heap:=c.w.heap.setIfInBounds b (.map es' f) }) ?_ (Oi (ob:=.map es' f) x L u J rfl rfl rfl rfl) (D1 x u J rfl rfl rfl rfl ⟨s.1.1,s.2⟩ s.1.2)<|RV.lit _;simp[execOp,ho,resolve,invoke,builtin,C,g]
end
end
section
variable {FT:Nat->Option Nat}{P:Program}{T:List cQ}{a:Act}{c:dF}{fl:Nat}{o:Oper}{s:Nat}{tm:List AV}{ys:List<|List AV}
section
def fB(FT:Nat->Option Nat)(c:dF)(s:Nat)(ys:List<|List AV)(news:List Value): Prop:=
 news.length=ys.length*s/\∀i j x,bK ys i j=some x->∃u,news[i*s+j]?=some u/\bC u=true/\RV FT c x u
theorem Fg(h:fA s ys=true): ∀e∈ys,e.length=s:=by
 intro e he;have:=Yl.1 h e he;simpa using this
theorem gV[aF]{a:List Value}(k:∀e∈ys,e.length=s)(h:fB FT c s ys a): ∀u∈a,u.oneCell'=true:=by
 intro u m;let⟨p,g⟩:=Yi.1 m;have b:p<ys.length*s:=by rw[<-h.1];exact (Ze.1 g).1
 have j:0<s:=by
  rcases XB s with f | f
  .subst f;simp at b
  .exact f
 have i:p / s<ys.length:=WP (by rw[YN];exact b);have n:p % s<s:=Nat.mod_lt _ j;have he:(ys[p / s]).length=s:=k _<|ZP i;let⟨o,d,l,_⟩:=h.2 (p / s) (p % s) ((ys[p / s])[p % s]'(by omega)) (by simp[bK,i,he,n]);rw[YN,Nat.div_add_mod] at d;rw[g] at d;cases d;rw[<-EY];exact l
theorem PT[aF]{k b n:Nat}{cc:Array Value}{l:TypeId}{o:Nat×Nat}(C:c.w.heap[b]?=some (.cells cc l o))(E:0<s)(g:ys.length=n)(p:∀e∈ys,e.length=s)(h:∀i j x,bK ys i j=some x->∃u,cc[k+(i*s+j)]?=some u/\bC u=true/\RV FT c x u):
 ∃a,fB FT c s ys a/\∀(j:Nat) (v:Value),a[j]?=some v->c.w.cell? ((⟨b,k,none⟩:Addr).add j)=some v:=by
 refine⟨(cc.toList.drop k).take<|n*s,⟨?_,?_⟩,?_⟩
 .simp only[ZH,ZV,Zx,g];cases n with
  | zero=>simp
  | succ m=>
   have q:m<ys.length:=by omega
   have he:(ys[m]).length=s:=p _<|ZP q;let⟨u,y,_⟩:=h m (s-1) ((ys[m])[s-1]'(by omega)) (by simp[bK,q]);have:k+(m*s+(s-1))<cc.size:=(Xa.1 y).1;rw[ZA];omega
 .intro i j x r;let⟨u,B,t,z⟩:=h i j x r;refine⟨u,?_,t,z⟩;let⟨e,he,A⟩:=cZ r;have f:j<s:=by rw[<-p e<|Zg he];exact (Ze.1 A).1
  have D:i<n:=by rw[<-g];exact (Ze.1 he).1
  rw[Zs,Zu<|PU D f,Zw];simpa using B
 .intro j v d;rw[fM,cell_of_row c.w b (k+j) cc l o C];rw[Zs] at d;split at d
  .simpa using d
  .cases d
theorem aDr[aF](V:bY FT c){y:AV}{v:Value}(J:RV FT c y v)(h:rd c.H y=some ys)(F:∀e∈ys,e.length=s)(D:0<s):
 ∃xa q a,v=.slice xa ys.length q/\ys.length<=q/\fB FT c s ys a/\∀w',Jt c.w w'->(Builtin.firstCells s ys.length v).run P w'=.ok a.toArray w':=by
 have A:∀(b k q:Nat) (a:List Value),fB FT c s ys a->(∀(j:Nat) (v:Value),a[j]?=some v->c.w.cell? ((⟨b,k,none⟩:Addr).add j)=some v)->
  ∀w',Jt c.w w'->(Builtin.firstCells s ys.length<|.slice (some ⟨b,k,none⟩) ys.length q).run P w'=.ok a.toArray w':=by
  intro b k q a h1 W w' hd;refine X4 w' s ys.length ⟨b,k,none⟩ ys.length q a h1.1 ?_;intro j v t;rw[World.cell?_of_block (w:=c.w)<|by rw[hd.heap]];exact W j v t
 have d:∀(xa:Option Addr) (q:Nat),ys=[]->∀w',Jt c.w w'->(Builtin.firstCells s ys.length<|.slice xa ys.length q).run P w'=.ok (#[]:Array Value) w':=by
  intro xa q he w' _;subst he;cases xa<;>simp[Builtin.firstCells,loadCells,loadCellsFrom]
 have m:ys=[]->fB FT c s ys []:=by
  intro he;subst he;exact⟨by simp,λi j x n=>by simp[bK] at n⟩
 unfold rd at h;split at h
 .cases h;exact⟨none,0,[],J.lit_inv,ZG _,m rfl,by rw[J.lit_inv];exact d none 0 rfl⟩
 .rename_i f es;cases h;have hp:=J.sl_inv;cases hp with
  | nil _ ad cap hf=>exact⟨ad,cap,[],rfl,ZG _,m rfl,d ad cap rfl⟩
  | sl _ _ b off cap cc X fz s' o M Y N K g5 g6 I Q=>
   have e:s'=s:=by
    cases ys with
    | nil=>exact (M rfl).elim
    | cons e r=>rw[<-K e<|by simp,F e<|by simp]
   subst e;obtain⟨a,z,p⟩:=PT (k:=off) N D rfl F λi j x n=>⟨o i j,(I i j x n).1,(I i j x n).2,.pure _ _<|Q i j x n⟩;exact⟨_,cap,a,rfl,g5,z,A b off cap a z p⟩
 .rename_i es;cases h;obtain⟨ad,cap,rfl,L,S⟩:=J.vw_inv;rcases S with rfl | ⟨b,off,cc,X,fz,s',o,rfl,Y,N,K,I,Q⟩
  .exact⟨ad,cap,[],rfl,ZG _,m rfl,d ad cap rfl⟩
  .by_cases B:ys=[]
   .subst B;exact⟨_,cap,[],rfl,ZG _,m rfl,d _ cap rfl⟩
   have e:s'=s:=by
    cases ys with
    | nil=>exact (B rfl).elim
    | cons e r=>rw[<-K e<|by simp,F e<|by simp]
   subst e;obtain⟨a,z,p⟩:=PT (k:=off) N D rfl F λi j x n=>⟨o i j,(I i j x n).1,(I i j x n).2,.pure _ _<|Q i j x n⟩;exact⟨_,cap,a,rfl,L,z,A b off cap a z p⟩
 .rename_i id tot off len;split at h
  .rename_i s' es E;split at h
   .rename_i G;cases h;let⟨ad,cap,s0,n0,t,M,Y,N,K⟩:=J.ms_inv;rw[eT E] at M;cases M;let⟨m1,m2⟩:=K G.symm;have g:((es.drop off).take len).length=len:=by simp;omega
    rw[g];rcases m2 with⟨_,m3,R,U⟩ | ⟨b,cc,X,a',m3,R,U,m6,m7⟩
    .subst U;have C:len=0:=by omega
     subst C;have he:(es.drop off).take 0=[]:=by simp
     have p:=d ad 0 he;simp only[g] at p;exact⟨ad,0,[],t,Zf _,m he,by rw[t];exact p⟩
    .by_cases C:len=0
     .subst C;have he:(es.drop off).take 0=[]:=by simp
      have p:=d ad cap he;simp only[g] at p;exact⟨ad,cap,[],t,ZG _,m he,by rw[t];exact p⟩
     .have ha:=m7 (by omega);subst m6;subst ha;let⟨a2,a1,Z,q2,q3⟩:=V.blk id s' es b E m3;rw[R] at Z;cases Z;have O:s'=s:=by
       have B:0<es.length:=by omega
       have T:off<es.length:=by omega
       have h1:=V.lens id s' es E (es[off])<|ZP T;have W:=F (es[off])<|by
        rw[Yi];exact⟨0,by rw[Zs,Zu<|by omega,Zw];simp[T]⟩
       omega
      subst O;let⟨a,z,p⟩:=PT (FT:=FT) (k:=off*s') R D rfl F (λi j x n=>by
       let⟨e,he,hj⟩:=cZ n;rw[Zs] at he;split at he
       .rw[Zw] at he;let⟨u,w1,w2,w3⟩:=q3 (off+i) j x (by simp[bK,he,hj]);exact⟨u,by rw[<-w1];congr 1;rw[ZA];omega,w2,w3⟩
       .cases he)
      have k3:=A b (off*s') cap a z p;simp only[g] at k3;exact⟨_,cap,a,t,by omega,z,by rw[t];exact k3⟩
   .cases h
  .cases h
 .cases h
end
end
section
variable {P:Program}{T:List cQ}{a:Act}{c:dF}{e:TypeId}{fl:Nat}{i:TypeInfo}{m:Nat}{o:Oper}{t t':TypeId}{tm:List AV}{w:World}
section
theorem M9(w:World): Jt w w.drew:=⟨rfl,rfl,rfl,rfl,Ys _⟩
structure Src(P:Program)(w:World)(t t' e:TypeId)(i:TypeInfo)(xv:Value)(m:Nat)(news:List Value): Prop where
 ht:P.underlying t=some (.slice e)
 hi:P.info? e=some i
 run:∀(ty:TypeId) (base:Option Addr) (sLen sCap:Nat),sLen+m<=sCap->∀(w':World),
  (∀ad,base=some ad->(storeCells (ad.add (sLen*i.size)) news).run P w=.ok () w')->(base=none->w'=w)->
  (Builtin.append_ #[t,t'] ty #[.slice base sLen sCap,xv]).run P w=.ok (.slice base (sLen+m) sCap) w'
 grow:∀(ty:TypeId) (z:Value) (base:Option Addr) (sLen sCap:Nat) (olds:List Value),i.zero=some z->sCap<sLen+m->((sLen+m:Nat):Int)<=9223372036854775807->
  Builtin.nextslicecap (sLen+m) sCap*i.bytes<=281474976710656->(Builtin.firstCells i.size sLen (.slice base sLen sCap)).run P w.drew=.ok olds.toArray w.drew->
  ∃cells:Array Value,cells.toList=olds++news++(Builtin.zeroCells z.cells (grownCap w (sLen+m) sCap e-(sLen+m))).toList /\
  (Builtin.append_ #[t,t'] ty #[.slice base sLen sCap,xv]).run P w =
   .ok (.slice (some ⟨w.heap.size,0,none⟩) (sLen+m) (grownCap w (sLen+m) sCap e)) (w.drew.alloc (.cells cells e))
theorem aAl[aF]{e':TypeId}{xa:Option Addr}{xc:Nat}{news:List Value}(ht:P.underlying t=some (.slice e))(ht':P.underlying t'=some (.slice e'))(hi:P.info? e=some i)(hf:∀w',Jt w w'->(Builtin.firstCells i.size m<|.slice xa m xc).run P w'=.ok news.toArray w'): Src P w t t' e i (.slice xa m xc) m news where
 ht:=ht
 hi:=hi
 run:=by
  intro ty base sLen sCap hroom w' hst hn
  have hf0:=hf w<|Jt.refl w
  cases base with
  | none=>simp[Builtin.append_,Zm ht,Zm ht',sizeOf,typeInfo,hi,Builtin.lenOf,hroom,hf0,hn rfl]
  | some ad=>simp[Builtin.append_,Zm ht,Zm ht',sizeOf,typeInfo,hi,Builtin.lenOf,hroom,hf0,hst ad rfl]
 grow:=by
  intro ty z base sLen sCap olds hz hg h63 hfit ho
  have hf0:=hf w.drew<|M9 w
  have hn:¬(sLen+m<=sCap):=by omega
  have h63':¬(9223372036854775807<((sLen:Int)+(m:Int))):=by omega
  have h48':¬(281474976710656<Builtin.nextslicecap (sLen+m) sCap*i.bytes):=by omega
  refine⟨olds.toArray++news.toArray++Builtin.zeroCells z.cells (grownCap w (sLen+m) sCap e-(sLen+m)),by simp,?_⟩
  simp[Builtin.append_,Zm ht,Zm ht',sizeOf,typeInfo,zeroValue,hi,hz,Builtin.lenOf,hn,h63',h48',Question.forced,hf0,ho,newRow,grownCap]
  congr 2
  apply Xq
  simp[Ye]
theorem aIe[aF]{k k':IntKind}{z:Value}(ht:P.underlying t=some (.slice e))(ht':P.underlying t'=some (.int k))(hi:P.info? e=some i)(hz:i.zero=some z)(hm:m<=2 ^ 20)(hb:m*i.bytes<=2 ^ 40)(hs0:0<i.size)(hzs:z.cells.size=i.size): Src P w t t' e i (.int k' (m:Nat)) m (Builtin.zeroCells z.cells m).toList where
 ht:=ht
 hi:=hi
 run:=by
  intro ty base sLen sCap hroom w' hst hn
  have w1:=Jv (n:=m)<|by omega
  have hneg:¬((m:Int)<0):=by omega
  have hbig:¬((281474976710656:Int)<(m:Int)*(i.bytes:Int)):=by rw[<-Wp];omega
  by_cases hm0:m*i.size=0
  .have hmz:m=0:=by
    rcases Nat.mul_eq_zero.1 hm0 with h | h
    .exact h
    .omega
   subst hmz
   have hz0:(Builtin.zeroCells z.cells 0).toList=[]:=by simp[Builtin.zeroCells]
   rw[hz0] at hst
   have hr0:sLen<=sCap:=by omega
   have w0:IntKind.i64.wrap 0=0:=IntWalk.i64_in _<|by omega
   cases base with
   | none=>simp[Builtin.append_,Zm ht,Zm ht',sizeOf,typeInfo,hi,asInt,asIntOf,hr0,hn rfl,w0]
   | some ad=>simp[Builtin.append_,Zm ht,Zm ht',sizeOf,typeInfo,hi,asInt,asIntOf,hr0,hst ad rfl,w0]
  .cases base with
   | none=>simp[Builtin.append_,Zm ht,Zm ht',sizeOf,typeInfo,zeroValue,hz,hi,asInt,asIntOf,w1,hneg,hbig,hm0,hroom,hn rfl]
   | some ad=>simp[Builtin.append_,Zm ht,Zm ht',sizeOf,typeInfo,zeroValue,hz,hi,asInt,asIntOf,w1,hneg,hbig,hm0,hroom,hst ad rfl]
 grow:=by
  intro ty z' base sLen sCap olds hz' hg h63 hfit ho
  rw[hz] at hz'
  cases hz'
  have w1:=Jv (n:=m)<|by omega
  have hneg:¬((m:Int)<0):=by omega
  have hbig:¬((281474976710656:Int)<(m:Int)*(i.bytes:Int)):=by rw[<-Wp];omega
  have hn:¬(sLen+m<=sCap):=by omega
  have h63':¬(9223372036854775807<((sLen:Int)+(m:Int))):=by omega
  have h48':¬(281474976710656<Builtin.nextslicecap (sLen+m) sCap*i.bytes):=by omega
  refine⟨olds.toArray++(Builtin.zeroCells z.cells m)++Builtin.zeroCells z.cells (grownCap w (sLen+m) sCap e-(sLen+m)),by simp,?_⟩
  by_cases hm0:m*i.size=0
  .have hmz:m=0:=by
    rcases Nat.mul_eq_zero.1 hm0 with h | h
    .exact h
    .omega
   subst hmz
   have hz0:Builtin.zeroCells z.cells 0=#[]:=by simp[Builtin.zeroCells]
   have w0:IntKind.i64.wrap 0=0:=IntWalk.i64_in _<|by omega
   have hn0:¬(sLen<=sCap):=by omega
   have h630:¬(9223372036854775807<(sLen:Int)):=by omega
   have h480:¬(281474976710656<Builtin.nextslicecap sLen sCap*i.bytes):=by simpa using h48'
   simp[Builtin.append_,Zm ht,Zm ht',sizeOf,typeInfo,zeroValue,hi,hz,asInt,asIntOf,hn0,h630,h480,Question.forced,ho,newRow,grownCap,w0,hz0]
  .simp[Builtin.append_,Zm ht,Zm ht',sizeOf,typeInfo,zeroValue,hi,hz,asInt,asIntOf,w1,hneg,hbig,hm0,hn,h63',h48',Question.forced,ho,newRow,grownCap]
end
end
section
variable {B:Operand}{FT:Nat->Option Nat}{H':aU}{P:Program}{T:List cQ}{a:Act}{b:List Value}{bytes:Nat}{c:dF}{e:TypeId}{es:List<|List AV}{fl:Nat}{i:TypeInfo}{m n:Nat}{o:Oper}{r:AV}{s:Nat}{t t':TypeId}{tm:List AV}{v:Value}{x:bA}{x':Operand}{y:bA}{ys:List<|List AV}{z:List Value}
section
theorem aCz[aF]{i j:Nat}{x:AV}(h:bK (es++ys) i j=some x): (i<es.length/\bK es i j=some x)\/(es.length<=i/\bK ys (i-es.length) j=some x):=by
 let⟨e,a,b⟩:=cZ h;rw[Yk] at a;split at a
 .exact .inl ⟨by assumption,by simp[bK,a,b]⟩
 .exact .inr ⟨by omega,by simp[bK,a,b]⟩
theorem Ow[aF]{a rest:List Value}(l:fB FT c s es a)(m:fB FT c s ys b):
 ∀i j x,bK (es++ys) i j=some x->∃u,(a++b++rest)[i*s+j]?=some u/\bC u=true/\RV FT c x u:=by
 intro i j x o;rcases aCz o with⟨n,k⟩ | ⟨n,k⟩
 .let⟨u,f,g,h⟩:=l.2 i j x k;refine⟨u,?_,g,h⟩;have d:=(Ze.1 f).1;rw[Ye,Zo d];exact f
 .let⟨u,f,g,h⟩:=m.2 _ j x k;refine⟨u,?_,g,h⟩;have d:=(Ze.1 f).1;have e:i*s+j=a.length+((i-es.length)*s+j):=by
   rw[l.1,<-Yu,<-ZA];congr 2;omega
  rw[e,Ye,ZX<|by omega,YZ,Zo d];exact f
theorem aAu(h:mT n bytes=true): n*bytes<=2 ^ 40/\n<=2 ^ 40:=by
 simpa [mT] using h
theorem aAF[aF]{cap:Nat}(h:mT (n+m) bytes=true)(a:cap<n+m): Builtin.nextslicecap (n+m) cap*bytes<=281474976710656/\((n+m:Nat):Int)<=9223372036854775807:=by
 let⟨b,c⟩:=aAu h;exact⟨growslice_fits a<|by omega,by omega⟩
theorem Jm[aF]{k:Nat}{cc:Array Value}(t:∀e∈es,e.length=s)(n:∀e∈ys,e.length=s)(y:k<=es.length)(r:fB FT c s ys b)(l:k*s+b.length<=cc.size)(d:∀i j x,bK es i j=some x->∃v,cc[i*s+j]?=some v/\bC v=true/\RV FT c x v):
 (∀e∈aV es k ys,e.length=s) /\
 ∀i j x,bK (aV es k ys) i j=some x->∃v,((aV cc.toList (k*s) b).toArray)[i*s+j]?=some v/\bC v=true/\RV FT c x v:=by
 refine⟨?_,?_⟩
 .intro e he;simp only[aV,ZD] at he;rcases he with h | h | h
  .exact t e<|Z7 h
  .exact n e h
  .exact t e<|ZZ h
 .intro i j x B;have f:k*s+b.length<=cc.toList.length:=by simpa using l
  simp only[WH,Ka f];let⟨e,a,q⟩:=cZ B;unfold aV at a;rw[Yk] at a;simp only[ZH,Yq y] at a;have p:∀g:List AV,(g∈es\/g∈ys)->e=g->j<s:=by
   intro g A he;have:g.length=s:=A.elim (t g)<|n g;rw[<-this,<-he];exact (Ze.1 q).1
  split at a
  .rename_i u;rw[Zs,Zu u] at a;have w:=p e (.inl<|Zg a) rfl;have:i*s+j<k*s:=PU u w;rw[Zu this];simpa using d i j x<|by simp[bK,a,q]
  .rename_i u;rw[Yk] at a;split at a
   .rename_i m;have w:=p e (.inr<|Zg a) rfl;have o:k*s<=i*s:=Zr s (by omega);have C:i*s+j-k*s=(i-k)*s+j:=by rw[YR];omega
    have D:(i-k)*s+j<ys.length*s:=PU m w;rw[ZF<|by omega,Zu<|by rw[r.1];omega,C];exact r.2 _ j x<|by simp[bK,a,q]
   .rename_i m;rw[Zw] at a;have z:k+ys.length+(i-k-ys.length)=i:=by omega
    rw[z] at a;have o:(k+ys.length)*s<=i*s:=Zr s (by omega);rw[ZA] at o;rw[ZF<|by omega,ZF<|by rw[r.1];omega];simpa using d i j x<|by simp[bK,a,q]
theorem uI[aF](j:bY FT c){x:AV}{b:List<|List AV}(l:RV FT c x v)(h:rd c.H x=some b)(m:∀e∈b,e.length=s)(g:0<s):
 ∃xa f a,v=.slice xa b.length f/\fB FT c s b a/\(Builtin.firstCells s b.length<|.slice xa b.length f).run P c.w.drew=.ok a.toArray c.w.drew:=by
 let⟨xa,f,d,i,_,n,k⟩:=aDr (P:=P) j l h m g;exact⟨xa,f,d,i,n,by rw[<-i];exact k _<|M9 _⟩
theorem aA4[aF](O:bY (aK T) c)(j3:fl<=c.H.length){x:AV}{xv yv z:Value}{y:List Value}(hx:RV (aK T) c x xv)(N:Src P c.w t t' e i yv m y)(hE:fB (aK T) c s ys y)(hm:ys.length=m)(c2:i.size=s)(o1:i.bytes=bytes)(hz:i.zero=some z)(j1:z.cells.size=s)(d:cP fl c.H s bytes x ys=some (r,H'))(F:∀cv w',(Builtin.append_ #[t,t'] o.type #[xv,yv]).run P c.w=.ok cv w'->(execOp a.eval o).run P c.w=.ok (.value cv) w'): dM P (aK T) c fl o a r H':=by
 subst c2 o1 hm;unfold cP at d;split at d
 .rename_i c1;let⟨i2,d3,a3⟩:=c1;have V:=Fg i2;have C:ys.length=0->(∃xa n cap,xv=.slice xa n cap/\n<=cap)->dM P (aK T) c fl o a x c.H:=by
   rintro W ⟨xa,n,cap,rfl,a2⟩;have e2:y=[]:=YO (by rw[hE.1,W,YQ]);have:=N.run o.type xa n cap (by omega) c.w (by intro ad _;rw[e2];simp[storeCells]) λ_=>rfl;rw[W] at this;exact bR O (F _ _ this) hx
  have Y:∀(es:List<|List AV) (xa:Option Addr) (cap:Nat) (q:List Value),xv=.slice xa es.length cap->(∀e∈es,e.length=i.size)->fB (aK T) c i.size es q->
   (Builtin.firstCells i.size es.length<|.slice xa es.length cap).run P c.w.drew=.ok q.toArray c.w.drew->cap<es.length+ys.length->mT (es.length+ys.length) i.bytes=true->
   ∃g:Array Value,∃E,es.length+ys.length<=E/\g.size=E*i.size /\
    (execOp a.eval o).run P c.w=.ok (.value<|.slice (some ⟨c.w.heap.size,0,none⟩) (es.length+ys.length) E) (c.w.drew.alloc<|.cells g e (0,0)) /\
    (∀f∈es++ys,f.length=i.size)/\∀k j x,bK (es++ys) k j=some x->∃v,g[k*i.size+j]?=some v/\bC v=true/\RV (aK T) c x v:=by
   intro es xa cap q i1 a2 hO n1 D L;let⟨f1,f2⟩:=aAF L D;let⟨g,g1,g2⟩:=N.grow o.type z xa es.length cap q hz D f2 f1 n1;have f3:=WM c.w (es.length+ys.length) cap e;refine⟨g,grownCap c.w (es.length+ys.length) cap e,f3,?_,?_,?_,?_⟩
   .have:=congrArg List.length g1;simp only[Zx,Zh,hO.1,hE.1,XY,j1] at this;rw[this,<-ZA,<-ZA];congr 1;omega
   .exact F _ _<|by rw[i1];exact g2
   .intro f hf;rcases ZD.1 hf with h | h
    .exact a2 f h
    .exact V f h
   .intro k j x hx;let⟨u,k1,k2,k3⟩:=Ow (rest:=(Builtin.zeroCells z.cells<|grownCap c.w (es.length+ys.length) cap e-(es.length+ys.length)).toList) hO hE k j x hx;refine⟨u,?_,k2,k3⟩;rw[<-g1] at k1;simpa using k1
  have M:∀(es:List<|List AV) (xa:Option Addr) (cap:Nat) (q:List Value),xv=.slice xa es.length cap->(∀e∈es,e.length=i.size)->fB (aK T) c i.size es q->
   (Builtin.firstCells i.size es.length<|.slice xa es.length cap).run P c.w.drew=.ok q.toArray c.w.drew->cap<es.length+ys.length->mT (es.length+ys.length) i.bytes=true->
   dM P (aK T) c fl o a (.ms c.H.length (es.length+ys.length) 0<|es.length+ys.length) (c.H++[.blk i.size<|es++ys]):=by
   intro es xa cap q h1 h2 h3 h4 h5 h6;let⟨g,E,q1,q2,q3,q4,q5⟩:=Y es xa cap q h1 h2 h3 h4 h5 h6;have:=Dv (P:=P) (o:=o) (a:=a) O j3 false (es:=es++ys) (n:=es.length+ys.length) (cap:=E) (cv:=g) (t:=e) (s:=i.size) (w':=c.w.drew.alloc<|.cells g e (0,0))
    (by simp) q1 (by simp) rfl rfl rfl rfl q3 q2 q4 q5
   simpa using this
  split at d
  .have Q:=hx.lit_inv;split at d
   .rename_i W;cases d;exact C W ⟨none,0,0,Q,Zf _⟩
   .rename_i W;cases d;have:=M [] none 0 [] Q (by simp) ⟨by simp,λi j x hx=>by simp[bK] at hx⟩ (by simp[Builtin.firstCells]) (by simp;omega) (by simpa using a3);simpa using this
  .rename_i f es;let⟨xa,cap,Q,a2,c3⟩:=aFk hx.sl_inv;split at d
   .rename_i W;cases d;exact C W ⟨xa,_,cap,Q,a2⟩
   .rename_i W;split at d
    .rename_i hc;cases d;have b2:=Fg hc.2.1;let⟨j2,l3,q,k1,k2,k3⟩:=uI (P:=P) O hx (by simp[rd]:rd c.H (.sl f es)=some es) b2 d3;rw[Q] at k1;cases k1;exact M es xa cap q Q b2 k2 k3 (by rw[c3 hc.1];omega) hc.2.2
    .cases d
  .rename_i id tot off len;let⟨ad,cap,s0,n0,Q,g1,g2,g3,g4⟩:=hx.ms_inv;split at d
   .rename_i s' es A;split at d
    .rename_i hc;obtain⟨rfl,S,L⟩:=hc;rw[eT A] at g1;cases g1;let⟨m1,m2⟩:=g4 S.symm;have G:=O.lens id i.size es A;split at d
     .rename_i W;cases d;exact C W ⟨ad,len,cap,Q,g3⟩
     .rename_i W;split at d
      .rename_i K;split at d
       .rename_i b1;obtain⟨rfl,rfl⟩:=b1;cases d;subst S;have R:cap<es.length+ys.length->dM P (aK T) c fl o a (.ms id (es.length+ys.length) 0<|es.length+ys.length) (c.H.set id<|.blk i.size<|es++ys):=by
         intro D;let⟨j2,l3,q,k1,k2,k3⟩:=uI (P:=P) O hx (by simp[rd,A]:rd c.H (.ms id es.length 0 es.length)=some es) G d3;rw[Q] at k1;cases k1;let⟨g,E,q1,q2,q3,q4,q5⟩:=Y es ad cap q Q G k2 k3 D L;have e1:es.length<(es++ys).length:=by simp;omega
         refine eM (β':=upd c.β id c.w.heap.size) q3 (Ha (ob:=.cells g e (0,0)) O K A e1 rfl rfl rfl rfl)
          (KO (cs':=g) (T:=e) O A e1 rfl rfl rfl rfl q4 (by rw[q2];exact Zr _<|by simpa using q1) q5) ?_
         refine .ms id _ 0 _ _ E i.size _ (by rw[uT A];simp) (Zf _) q1 λ_=>⟨by omega,.inr ⟨c.w.heap.size,g,e,_,eA _ _ _,?_,by simpa using q2.symm,rfl,λ_=>by simp⟩⟩;exact Wq c.w.drew _
        rcases m2 with⟨_,X,I,m5⟩ | ⟨b,cc,U,a',X,I,m5,m6,m7⟩
        .exact R<|by omega
        .by_cases D:cap<es.length+ys.length
         .exact R D
         .have b3:cap≠0:=by omega
          have ha:=m7 b3;subst m6;subst ha;let⟨i3,l2,q1,q2,q3⟩:=O.blk id i.size es b A X;rw[I] at q1;cases q1;have B:es.length*i.size+y.length<=cc.size:=by
           rw[hE.1,<-m5,<-ZA];exact Zr _<|by omega
          let⟨p1,p2⟩:=Jm (k:=es.length) G V (Zf _) hE B q3;have n3:aV es es.length ys=es++ys:=by simp[aV]
          rw[n3] at p1 p2;have a1:=YV P b (es.length*i.size) U y 0 cc c.w I (by simpa using B)<|gV V hE;rw[gQ] at a1;have p:=cK (l:=cc.toList) (vs:=y) (k:=es.length*i.size) (by simpa using B);have J:=N.run o.type (some ⟨b,0*i.size,none⟩) es.length cap (by omega) _ (λn2 h=>by cases h;rw[fM];simpa using a1) (λh=>by cases h);rw[<-Q] at J;refine eM (β':=c.β) (F _ _ J)
           (oA (cs':=(aV cc.toList (es.length*i.size) y).toArray) O K A X I (by simp) (by simpa using p) (Yv c.w b cc _ U _ I) (λk hk=>Yy c.w b k _ hk) (by simp) rfl rfl rfl)
           (yF (cs':=(aV cc.toList (es.length*i.size) y).toArray) O A X I (by simp) (by simpa using p) (Yv c.w b cc _ U _ I) (λk hk=>Yy c.w b k _ hk) (by simp) rfl rfl rfl p1 ?_ p2) ?_
          .simp only[Zh,YP,p,Zx];rw[ZA,<-hE.1];exact B
          .refine .ms id _ 0 _ _ cap i.size _ (by rw[uT A];simp) (Zf _) (by omega) λ_=>⟨by omega,.inr ⟨b,_,U,_,X,Yv c.w b cc _ U _ I,?_,rfl,λ_=>rfl⟩⟩;simpa [p] using m5
       .rename_i b1;split at d
        .rename_i d2;cases d;subst S;rcases m2 with⟨_,X,I,m5⟩ | ⟨b,cc,U,a',X,I,m5,m6,m7⟩
         .omega
         .let⟨i3,l2,q1,q2,q3⟩:=O.blk id i.size es b A X;rw[I] at q1;cases q1;have D:es.length<=off+cap:=by
           rcases ZI (off+cap) es.length with h | h
           .have:(off+cap+1)*i.size<=es.length*i.size:=Zr _ h;rw[ZA] at this;omega
           .exact h
          have b3:cap≠0:=by omega
          have ha:=m7 b3;subst m6;subst ha;have B:(off+len)*i.size+y.length<=cc.size:=by
           rw[hE.1,<-ZA];exact ZB (Zr _ d2) q2
          let⟨p1,p2⟩:=Jm (k:=off+len) G V (by omega) hE B q3;have a1:=YV P b ((off+len)*i.size) U y 0 cc c.w I (by simpa using B)<|gV V hE;rw[gQ] at a1;have p:=cK (l:=cc.toList) (vs:=y) (k:=(off+len)*i.size) (by simpa using B);have Z:=cK (l:=es) (vs:=ys) (k:=off+len) d2;have J:=N.run o.type (some ⟨b,off*i.size,none⟩) len cap (by omega) _ (λn2 h=>by cases h;rw[fM,<-ZA];exact a1) (λh=>by cases h);rw[<-Q] at J;refine eM (β':=c.β) (F _ _ J)
           (oA (cs':=(aV cc.toList ((off+len)*i.size) y).toArray) O K A X I (by omega) (by simpa using p) (Yv c.w b cc _ U _ I) (λk hk=>Yy c.w b k _ hk) (by simp) rfl rfl rfl)
           (yF (cs':=(aV cc.toList ((off+len)*i.size) y).toArray) O A X I (by omega) (by simpa using p) (Yv c.w b cc _ U _ I) (λk hk=>Yy c.w b k _ hk) (by simp) rfl rfl rfl p1 ?_ p2) ?_
          .simp only[YP,p,Zx,Z];exact q2
          .refine .ms id _ off _ _ cap i.size _ (by rw[uT A];simp[Z]) (Zf _) (by omega) λ_=>⟨by omega,.inr ⟨b,_,U,_,X,Yv c.w b cc _ U _ I,?_,rfl,λ_=>rfl⟩⟩;simpa [p] using m5
        .cases d
      .cases d
    .cases d
   .cases d
  .cases d
 .cases d
theorem RD[aF](l:bY (aK T) c)(j:TR (aK T) c tm a.tmps)(A:fl<=c.H.length){D:Operand}{u E:TypeId}{z:Value}(J:o.op=.call ⟨.builtin .append,#[D,B],#[t,u]⟩)(M:aS T x D=true)(L:aS T y B=true)(F:P.underlying t=some (.slice e))(n:P.underlying u=some (.slice E))(K:P.info? e=some i)(f:i.size=s)(p:i.bytes=bytes)(N:i.zero=some z)(q:z.cells.size=s)(m:rd c.H (aH tm y)=some ys)(b:cP fl c.H s bytes (aH tm x) ys=some (r,H')): dM P (aK T) c fl o a r H':=by
 have g:fA s ys=true/\0<s:=by
  unfold cP at b;split at b
  .rename_i h;exact⟨h.1,h.2.1⟩
  .cases b
 let⟨xa,O,d,C,_,G,v⟩:=aDr (P:=P) l (aX l j L) m (Fg g.1) g.2;have k:Src P c.w t u e i (a.eval B) ys.length d:=by
  rw[C];exact aAl F n K<|by rw[f,<-C];exact v
 refine aA4 l A (aX l j M) k G rfl f p N q b ?_;intro cv w' I;simp[execOp,J,resolve,invoke,builtin,I]
theorem d8[aF](d:z.length=s)(b:∀u∈z,bC u=true)(e:v.cells=z.toArray):
 fB FT c s (List.replicate n<|z.map AV.lit) (Builtin.zeroCells v.cells n).toList:=by
 have a:v.cells.size=s:=by rw[e];simpa using d
 let⟨_,h⟩:=Kl (FT:=FT) (c:=c) (n:=n) (m:=n) (cv:=v.cells) d b (by rw[e])<|Zf _;refine⟨by simp[XY,a],λi j x g=>?_⟩;let⟨u,f,k,l⟩:=h i j x g;refine⟨u,?_,k,l⟩;rw[<-f];simp only[Builtin.zeroCells,a,Z8]
theorem aF0[aF](G:bY (aK T) c)(f:TR (aK T) c tm a.tmps)(L:fl<=c.H.length){M:Operand}{q:TypeId}{k:IntKind}(Q:o.op=.call ⟨.builtin .append,#[M,B],#[t,q]⟩)(V:aS T x M=true)(R:aS T y B=true)(S:P.underlying t=some (.slice e))(A:P.underlying q=some (.int k))(D:dO P e s=true)(u:uY P e bytes=true)(X:nG P e z=true)(j:z.length=s)(W:gY (aH tm y)=some n)(l:n<=2 ^ 20)(E:n*bytes<=2 ^ 40)(b:cP fl c.H s bytes (aH tm x) (List.replicate n<|z.map .lit)=some (r,H')): dM P (aK T) c fl o a r H':=by
 have O:0<s:=by
  unfold cP at b;split at b
  .rename_i h;exact h.2.1
  .cases b
 let⟨i,C,I⟩:=eJ D;let⟨Y,v,g,N,m,K⟩:=jA X;rw[C] at g;cases g;have d:i.bytes=bytes:=by simpa [uY,C] using u
 have J:v.cells.size=s:=by rw[m];simpa using j
 let⟨k',F⟩:=uD (aX G f R) W;have p:Src P c.w t q e i (a.eval B) n (Builtin.zeroCells v.cells n).toList:=by
  rw[F];exact aIe S A C N l (by rw[d];exact E) (by omega)<|by omega
 refine aA4 G L (aX G f V) p (d8 j K m) (by simp) I d N J b ?_;intro cv w' U;simp[execOp,Q,resolve,invoke,builtin,U]
theorem aNv[aF](m:bY (aK T) c)(B:TR (aK T) c tm a.tmps){Y:Operand}{id tot off len:Nat}(Z:o.op=.call ⟨.builtin .copy,#[x',Y],#[t,t']⟩)(h1:aS T x x'=true)(h2:aS T y Y=true)(W:P.underlying t=some (.slice e))(X:P.info? e=some i)(N:i.size=s)(R:rd c.H (aH tm y)=some ys)(S:fA s ys=true)(L:0<s)(hx:aH tm x=.ms id tot off len)(g:c.H[id]?=some (.blk s es))(A:es.length=tot)(V:ys.length<=len)(p:fl<=id)(Q:(if ys.length=0 then some (AV.lit<|.int .i64 0,c.H) else some (AV.lit<|.int .i64 ys.length,c.H.set id<|.blk s<|aV es off ys))=some (r,H')): dM P (aK T) c fl o a r H':=by
 have q:=Fg S;let⟨xa,xc,d,M,_,G,U⟩:=aDr (P:=P) m (aX m B h2) R q L;have D:=aX m B h1;rw[hx] at D;let⟨ad,cap,s0,n0,C,g1,g2,g3,g4⟩:=D.ms_inv;rw[eT g] at g1;cases g1;let⟨m1,m2⟩:=g4 A.symm;have J:=U c.w<|Jt.refl _;have j:Nat.min ys.length len=ys.length:=Yq V;subst N;rw[M] at J;split at Q
 .rename_i E;cases Q;have F:d=[]:=YO (by rw[G.1,E,YQ]);subst F;refine bR (cv:=.int .i64 0) m ?_<|RV.lit _;have a2:Nat.min ys.length len=0:=by rw[j,E]
  rw[E] at J;cases ad<;>simp[execOp,Z,resolve,invoke,builtin,Builtin.copy_,Zm W,sizeOf,typeInfo,X,Builtin.lenOf,M,C,E,J,storeCells,goInt]
 .rename_i E;cases Q;rcases m2 with⟨_,I,n,m5⟩ | ⟨b,cc,O,a',I,n,m5,m6,m7⟩
  .omega
  .have ha:=m7 (by omega);subst m6;subst ha;let⟨a3,a1,q1,q2,q3⟩:=m.blk id i.size es b g I;rw[n] at q1;cases q1;have z:off+ys.length<=es.length:=by omega
   have h:off*i.size+d.length<=cc.size:=by
    rw[G.1,<-ZA];exact ZB (Zr _ z) q2
   let⟨p1,p2⟩:=Jm (k:=off) (m.lens id _ es g) q (by omega) G h q3;have v:=YV P b (off*i.size) O d 0 cc c.w n (by simpa using h)<|gV q G;rw[gQ] at v;have f:=cK (l:=cc.toList) (vs:=d) (k:=off*i.size) (by simpa using h);have u:=cK (l:=es) (vs:=ys) (k:=off) z;refine eM (β':=c.β) (cv:=.int .i64 ys.length) ?_
    (oA (cs':=(aV cc.toList (off*i.size) d).toArray) m p g I n (by omega) (by simpa using f) (Yv c.w b cc _ O _ n) (λk K=>Yy c.w b k _ K) (by simp) rfl rfl rfl)
    (yF (cs':=(aV cc.toList (off*i.size) d).toArray) m g I n (by omega) (by simpa using f) (Yv c.w b cc _ O _ n) (λk K=>Yy c.w b k _ K) (by simp) rfl rfl rfl p1 ?_ p2)<|RV.lit _
   .simp[execOp,Z,resolve,invoke,builtin,Builtin.copy_,Zm W,sizeOf,typeInfo,X,Builtin.lenOf,M,C,j,J,v,goInt]
   .simp only[YP,f,Zx,u];exact q2
theorem aKv[aF](A:bY (aK T) c)(X:TR (aK T) c tm a.tmps)(R:o.op=.call ⟨.builtin .clear,#[x'],#[t]⟩)(h1:aS T x x'=true)(Q:P.underlying t=some (.slice e))(V:dO P e s=true)(hz:nG P e z=true)(g:(aH tm x=.lit (.slice none 0 0)/\r=.tup []/\H'=c.H)\/(∃f,aH tm x=.sl f []/\r=.tup []/\H'=c.H) \/
  ∃id tot off len es,aH tm x=.ms id tot off len/\c.H[id]?=some (.blk s es)/\es.length=tot/\off+len<=tot/\fl<=id/\0<s/\z.length=s /\
   (if len=0 then some (AV.tup [],c.H) else some (AV.tup [],c.H.set id<|.blk s<|aV es off<|List.replicate len<|z.map .lit))=some (r,H')): dM P (aK T) c fl o a r H':=by
 have h:=aX A X h1;have q:RV (aK T) c (.tup [])<|.tuple #[]:=.tup [] #[] (λ_=>bM) rfl (λi x g=>by simp at g) (λi x g=>by simp at g);let⟨i0,c2,b1⟩:=eJ V;let⟨i',v,a2,hv,Y,a3⟩:=jA hz;rcases g with⟨g,rfl,rfl⟩ | ⟨f,g,rfl,rfl⟩ | ⟨id,tot,off,len,es,g,p,O,c3,C,c1,L,Z⟩
 .rw[g] at h;refine bR (cv:=.tuple #[]) A ?_ q;simp[execOp,R,resolve,invoke,builtin,Builtin.clear_,Zm Q,h.lit_inv]
 .rw[g] at h;let⟨ad,cap,a1,_⟩:=aFk h.sl_inv;refine bR (cv:=.tuple #[]) A ?_ q;have K:a.eval x'=.slice ad 0 cap:=a1;cases ad<;>simp[execOp,R,resolve,invoke,builtin,Builtin.clear_,Zm Q,K]
 .rw[g] at h;let⟨ad,cap,s0,n0,I,g1,g2,g3,g4⟩:=h.ms_inv;rw[eT p] at g1;cases g1;let⟨m1,m2⟩:=g4 O.symm;split at Z
  .rename_i h0;cases Z;subst h0;refine bR (cv:=.tuple #[]) A ?_ q;cases ad<;>simp[execOp,R,resolve,invoke,builtin,Builtin.clear_,Zm Q,I]
  .rename_i h0;cases Z;rcases m2 with⟨_,S,E,m5⟩ | ⟨b,cc,Ty,a',S,E,m5,m6,m7⟩
   .omega
   .have ha:=m7 (by omega);subst m6;subst ha;let⟨b2,b3,q1,q2,q3⟩:=A.blk id s es b p S;rw[E] at q1;cases q1;have G:v.cells.toList=z:=by rw[Y]
    have B:v.cells.size=s:=by rw[<-Zx,G,L]
    let⟨W,p2⟩:=Kl (FT:=aK T) (c:=c) (n:=len) (m:=len) L a3 G<|Zf _;have hE:fB (aK T) c s (List.replicate len<|z.map AV.lit) (Builtin.zeroCells v.cells len).toList:=by
     refine⟨by simp[Builtin.zeroCells,B],λi j x g=>?_⟩;let⟨u,w1,w2,w3⟩:=p2 i j x g;exact⟨u,by simp only[Builtin.zeroCells,Z8,B];rw[B] at w1;exact w1,w2,w3⟩
    have J:=W;have M:off+len<=es.length:=by omega
    have y:off*s+(Builtin.zeroCells v.cells len).toList.length<=cc.size:=by
     rw[hE.1,Yo,<-ZA];exact ZB (Zr _ M) q2
    let⟨W,p2⟩:=Jm (k:=off) (A.lens id _ es p) J (by omega) hE y q3;have F:=YV P b (off*s) Ty _ 0 cc c.w E (by simpa using y)<|gV J hE;rw[gQ] at F;have d:=cK (l:=cc.toList) (vs:=(Builtin.zeroCells v.cells len).toList) (k:=off*s) (by simpa using y);have D:=cK (l:=es) (vs:=List.replicate len<|z.map AV.lit) (k:=off) (by simpa using M);refine eM (β':=c.β) (cv:=.tuple #[]) ?_
     (oA (cs':=(aV cc.toList (off*s) (Builtin.zeroCells v.cells len).toList).toArray) A C p S E (by omega) (by simpa using d) (Yv c.w b cc _ Ty _ E) (λk U=>Yy c.w b k _ U) (by simp) rfl rfl rfl)
     (yF (cs':=(aV cc.toList (off*s) (Builtin.zeroCells v.cells len).toList).toArray) A p S E (by omega) (by simpa using d) (Yv c.w b cc _ Ty _ E) (λk U=>Yy c.w b k _ U) (by simp) rfl rfl rfl W ?_ p2)<|.tup [] #[] (λ_=>bM) rfl (λi x g=>by simp at g) λi x g=>by simp at g
    .let⟨n1,N⟩:∃n1,len=n1+1:=⟨len-1,by omega⟩;simp[execOp,R,resolve,invoke,builtin,Builtin.clear_,Zm Q,I,zeroValue,typeInfo,a2,hv,F,N];subst N;simp[F]
    .simp only[YP,d,Zx,D];exact q2
theorem b9: ∀(es:List<|List AV) (f:List Int) (a:List Value),Lq es=some f->fB FT c 1 es a->a=f.map (Value.int .u8)/\∀e∈es,e.length=1
 | [],f,a,h,k=>by
  simp only[Lq,Za] at h;subst h;exact⟨YO<|by simpa using k.1,by simp⟩
 | e::r,f,a,h,k=>by
  simp only[Lq] at h;split at h
  .rename_i n;split at h
   .rename_i l y;cases h;let⟨b,d⟩:=k;cases a with
    | nil=>simp at b
    | cons v vs=>
     let⟨u,p,_,s⟩:=d 0 0 (.lit<|.int .u8 n) rfl;simp only[YQ,Z0,Zt,Za] at p;subst p;have m:fB FT c 1 r vs:=⟨by simpa using b,λi j x t=>by
      let⟨u,g,o,w⟩:=d (i+1) j x (by simpa [bK] using t);have q:(i+1)*1+j=(i*1+j)+1:=by omega
      rw[q,ZL] at g;exact⟨u,g,o,w⟩⟩
     let⟨g,o⟩:=b9 r l vs y m;refine⟨by rw[s.lit_inv,g];rfl,λe he=>?_⟩;rcases ZN.1 he with rfl | he
     .rfl
     .exact o e he
   .cases h
  .cases h
theorem O2: ∀(es:List<|List AV) (a:List Int),Lq es=some a->a.length=es.length/\∀e∈es,e.length=1
 | [],a,h=>by
  simp only[Lq,Za] at h;subst h;exact⟨rfl,by simp⟩
 | e::r,a,h=>by
  simp only[Lq] at h;split at h
  .split at h
   .rename_i l d;cases h;let⟨c,b⟩:=O2 r l d;refine⟨by simp[c],λe he=>?_⟩;rcases ZN.1 he with rfl | he
    .rfl
    .exact b e he
   .cases h
  .cases h
theorem aKu[aF](p:bY (aK T) c)(n:TR (aK T) c tm a.tmps){r:Operand}{s d:TypeId}{f:Bool}{b:List Int}(E:o.op=.convert s d r)(A:aS T x r=true)(F:aH tm x=.sl f es)(h:aBU P s d=true)(j:Lq es=some b): dM P (aK T) c fl o a (.lit<|.string<|PM b) c.H:=by
 have u:=aX p n A;rw[F] at u;let⟨C,l⟩:=O2 es b j;let⟨xa,v,i,z,_,B,k⟩:=aDr (P:=P) p u (show rd c.H (.sl f es)=some es from rfl) l (by omega);obtain⟨rfl,_⟩:=b9 es b i j B;have m:=k c.w<|Jt.refl _;unfold aBU at h;split at h
 .rename_i e q;split at h
  .rename_i he;split at h
   .rename_i y;refine bR (cv:=.string<|PM b) p ?_<|RV.lit _;rw[z] at m;have g:(convert s d<|.slice xa es.length v).run P c.w=.ok (.string<|PM b) c.w:=by
     cases xa with
     | none=>
      have G:b=[]:=by
       have:(b.map<|Value.int .u8).toArray=#[]:=by
        have:=m;simp[Builtin.firstCells] at this;simpa using this.symm
       simpa using this
      subst G;simp[convert,Zm q,Zm y,Zm he,Conv.bytesToString,PM]
     | some ad=>
      have D:(loadCells ad es.length).run P c.w=.ok (b.map<|Value.int .u8).toArray c.w:=by
       simpa [Builtin.firstCells] using m
      simp[convert,Zm q,Zm y,Zm he,run_bytesToString c.w ad es.length v b D,PM]
    simp[execOp,E,z,g]
   .cases h
  .cases h
 .cases h
end
end
section
variable {FT:Nat->Option Nat}{c c':dF}{v:Value}{x:AV}
section
theorem Vw[aF]{n:Nat}{I:Nat->Prop}(M:bY FT c')(a:∀b,nE c' b->I b)(g:∀id b,n<=id->c'.β id=some b->I b):
 ∀(d:Nat) (x:AV) (v:Value),RV FT c' x v->RP c'.w I (eE c'.H n d x) v
 | d,.lit u,v,h=>by
  have:eE c'.H n d (.lit u)=uC u:=by cases d<;>rfl
  rw[this,h.lit_inv];exact aBG u
 | d,.sl f es,v,h=>by
  have:eE c'.H n d (.sl f es)=.sl false es:=by cases d<;>rfl
  rw[this];exact aBF<|h.sl_inv.mono λb o J t=>⟨a b J,t⟩
 | 0,.ms id tot off len,v,_=>.undef v
 | d+1,.ms id tot off len,v,h=>by
  simp only[eE];split
  .rename_i V;split
   .rename_i es c;let⟨ad,cap,B,n0,hv,N,g2,Y,Q⟩:=h.ms_inv;unfold rd at c;simp only at c;split at c
    .rename_i s' r p;split at c
     .rename_i G;cases c;rw[eT p] at N;cases N;let⟨m1,m2⟩:=Q G.symm;have A:((r.drop off).take len).length=len:=by simp;omega
      subst hv;by_cases R:len=0
      .subst R;simp only[Wr,Yn];exact .nil false _ _ λh=>by cases h
      .rcases m2 with⟨_,m3,X,m5⟩ | ⟨b,cc,Ty,a',m3,X,m5,m6,m7⟩
       .omega
       .have ha:=m7 (by omega);subst m6;subst ha;let⟨a2,a1,q1,q2,q3⟩:=M.blk id B r b p m3;rw[X] at q1;cases q1;have C:=M.lens id B r p;have m:∀i j x,bK (((r.drop off).take len).map λe=>e.map<|eE c'.H n d) i j=some x->
         ∃y u,x=eE c'.H n d y/\cc[off*B+(i*B+j)]?=some u/\bC u=true/\RV FT c' y u:=by
         intro i j x q;obtain⟨y,hy,rfl⟩:=jU q;let⟨e,he,hj⟩:=cZ hy;rw[Zs] at he;split at he
         .rw[Zw] at he;let⟨u,s,E,K⟩:=q3 (off+i) j y (by simp[bK,he,hj]);exact⟨y,u,rfl,by rw[<-s];congr 1;rw[ZA];omega,E,K⟩
         .cases he
        have z:=RP.sl (w:=c'.w) (I:=I) false (((r.drop off).take len).map λe=>e.map<|eE c'.H n d) b (off*B) cap cc Ty (0,0) B
         (λi j=>(cc[off*B+(i*B+j)]?).getD bM)
         (by intro e;have:=congrArg List.length e;simp at this;omega) (g id b V m3) X
         (λe he=>by
          simp only[Yh] at he;obtain⟨e0,L,rfl⟩:=he;simpa using C e0<|ZZ<|Z7 L)
         (by simp only[ZO,A];exact Y) λh=>by cases h
         (λi j x q=>by
          let⟨y,u,_,s,E,_⟩:=m i j x q;simp[s,E])
         (λi j x q=>by
          let⟨y,u,W,s,_,K⟩:=m i j x q;rw[W];simp only[s,Yp];exact Vw M a g d y u K)
        simp only[ZO,A] at z;exact z
     .cases c
    .cases c
   .exact .undef v
  .exact .undef v
 | d,.undef,v,_=>by
  have:eE c'.H n d .undef=.undef:=by cases d<;>rfl
  rw[this];exact .undef v
 | d,.ptr ..,v,_=>by cases d<;>exact .undef v
 | d,.rptr ..,v,_=>by cases d<;>exact .undef v
 | d,.vw ..,v,_=>by cases d<;>exact .undef v
 | d,.sptr cs,v,h=>by
  have:eE c'.H n d (.sptr cs)=.sptr cs:=by cases d<;>rfl
  rw[this];cases h with
  | pure _ _ T=>exact T.mono λb o J t=>⟨a b J,t⟩
 | d,.rmp l,v,h=>by
  have:eE c'.H n d (.rmp l)=.rmp l:=by cases d<;>rfl
  rw[this];cases h with
  | pure _ _ T=>exact T.mono λb o J t=>⟨a b J,t⟩
 | 0,.mp id,v,_=>.undef v
 | d+1,.mp id,v,h=>by
  simp only[eE];split
  .rename_i V;split
   .rename_i l p;obtain⟨b,rfl,_,t⟩:=h.mp_inv;let⟨es,S,N,⟨g2,Y⟩,Q⟩:=M.map id l b p t;refine .rmp _ b es S (λi=>(es[i]?).getD default) (g id b V t) N (by simpa using g2) Y ?_ ?_
    .intro i k x q;rw[Zk,Zq] at q;let⟨⟨U,O⟩,L,Z⟩:=q;cases Z;let⟨e,s,E,_⟩:=Q i U O L;simp[s,E]
    .intro i k x q;rw[Zk,Zq] at q;let⟨⟨U,O⟩,L,Z⟩:=q;cases Z;let⟨e,s,_,K⟩:=Q i U O L;simp only[s,Yp];exact Vw M a g d O e.val K
   .exact .undef v
  .exact .undef v
 | d,.it ..,v,_=>by cases d<;>exact .undef v
 | d,.fn ..,v,_=>by cases d<;>exact .undef v
 | d,.agg ..,v,_=>by cases d<;>exact .undef v
 | d,.tup ..,v,_=>by cases d<;>exact .undef v
def pW(c c':dF): dF:=⟨c'.w,c.X,c.β,c.H⟩
theorem Vt[aF]{fl:Nat}(l:bY FT c)(h:bW c.H.length c c'): bW fl c (pW c c') where
 X:=rfl;os:=h.os;tape:=h.tape;output:=h.output;drawn:=h.drawn;size:=h.size;len:=Zf _;frame:=h.frame;img:=λi _ a=>.inr ⟨i,a⟩;blkS:=λid s n e=>⟨n,e,Zf _,λ_=>⟨rfl,λb cs T a g=>⟨cs,by
  have:=(h.floor id<|l.dom id b a).2.2 b a;rw[<-g];exact this,rfl⟩⟩⟩
 mpS:=λ_ r=>⟨r,rfl⟩;floor:=λid _=>⟨rfl,rfl,λb a=>(h.floor id<|l.dom id b a).2.2 b a⟩
theorem D2[aF](d:bY FT c)(h:bW c.H.length c c'): bY FT<|pW c c':=by
 have g:=Vt (fl:=0) d h;have f:∀id b,c.β id=some b->c'.w.heap[b]?=c.w.heap[b]?:=λid b a=>(h.floor id<|d.dom id b a).2.2 b a;refine⟨d.gl.step g,d.inj,d.dom,d.nx,λk A=>d.fresh k<|ZB h.size A,d.lens,?_,?_,λid q b l a=>(f id b a).trans<|d.raw id q b l a⟩
 .intro id s es b l a;let⟨cs,T,y,n,u⟩:=d.blk id s es b l a;exact⟨cs,T,(f id b a).trans y,n,λi j x r=>let ⟨v,o,t,z⟩:=u i j x r;⟨v,o,t,z.step g⟩⟩
 .intro id m b l a;let⟨es,p,y,n,u⟩:=d.map id m b l a;exact⟨es,p,(f id b a).trans y,n,λi k x r=>let ⟨e,o,t,z⟩:=u i k x r;⟨e,o,t,z.step g⟩⟩
structure Fl(c c':dF): Prop where
 X:c'.X=c.X
 floor:∀id,id<c.H.length->c'.H[id]?=c.H[id]?/\c'.β id=c.β id
theorem bW.fl(h:bW c.H.length c c'): Fl c c':=⟨h.X,λid a=>⟨(h.floor id a).1,(h.floor id a).2.1⟩⟩
theorem KQ[aF](O:bY FT c)(r:bY FT c')(h:Fl c c')(hr:RV FT c' x v): RV FT (pW c c') (gH c'.H c.H.length x) v:=by
 have l:∀b,nE c' b->nE (pW c c') b:=by
  intro b D;refine⟨by have:=D.1;rw[h.X] at this;exact this,λid d=>D.2 id ?_⟩;have g:c.β id=some b:=d;rw[(h.floor id<|O.dom id b g).2];exact g
 have u:∀id b,c.H.length<=id->c'.β id=some b->nE (pW c c') b:=by
  intro id b B z;refine⟨by have:=r.nx id b z;rwa [h.X] at this,λm g=>?_⟩;have k:c.β m=some b:=g;have M:=O.dom m b k;have:c'.β m=some b:=by rw[(h.floor m M).2];exact k
  have:=r.inj id m b z this;omega
 have t:∀id,id<c.H.length->shp c.H id=shp c'.H id:=λid d=>by simp[shp,(h.floor id d).1]
 cases hr with
 | pure _ _ hp=>
  have C:=hp.mono (w':=(pW c c').w) (I':=nE<|pW c c') λb o D z=>⟨l b D,z⟩;have B:=aBF C;cases C with
  | undef v=>exact .pure _ _<|.undef v
  | lit v=>exact .pure _ _ B
  | nil f a cap hf=>exact .pure _ _ B
  | sl f es b off cap cc T fz s j U Y N V h5 h6 h7 h8=>exact .pure _ _ B
  | sptr cs b off cc T fz j U Y N V=>exact .pure _ _ B
  | rmp y b es a3 j U Y N V h5 h6=>exact .pure _ _ B
 | ms id tot off len a cap s n p q A G=>
  simp only[gH];split
  .rename_i d;refine .ms id tot off len a cap s n (by show shp c.H id=_;rw[t id d];exact p) q A λe=>?_;let⟨m1,m2⟩:=G e;have Q:=(h.floor id d).2;refine⟨m1,?_⟩;rcases m2 with⟨L,E,J,K⟩ | ⟨b,cs,T,a',L,E,J,K,m7⟩
   .exact .inl ⟨Q.symm.trans L,E,J,K⟩
   .exact .inr ⟨b,cs,T,a',Q.symm.trans L,E,J,K,m7⟩
  .exact .pure _ _<|Vw r l u fE _ _<|.ms id tot off len a cap s n p q A G
 | ptr id tot I off a s n p q A=>
  simp only[gH];split
  .rename_i d;refine .ptr id tot I off a s n (by show shp c.H id=_;rw[t id d];exact p) q λe=>?_;let⟨b,z,ha⟩:=A e;exact⟨b,((h.floor id d).2).symm.trans z,ha⟩
  .exact RV.undef _
 | rptr=>exact RV.undef _
 | vnil=>exact RV.undef _
 | vw=>exact RV.undef _
 | mp id b p q=>
  simp only[gH];split
  .rename_i d;let⟨y,he,F⟩:=p;exact .mp id b ⟨y,by rw[<-he];exact ((h.floor id d).1).symm,F⟩<|((h.floor id d).2).symm.trans q
  .exact .pure _ _<|Vw r l u fE _ _<|.mp id b p q
 | it=>exact RV.undef _
 | fn vi f caps cv j p q A G=>
  cases caps with
  | nil=>exact .fn vi f [] cv j p q A λi x hx=>by simp at hx
  | cons _ _=>exact RV.undef _
 | agg=>exact RV.undef _
 | tup=>exact RV.undef _
theorem aDi[aF](g:bY FT c)(b:bY FT c')(h:Fl c c')(f:RV FT c' x v): RV FT (pW c c') (dZ c'.H c.H.length x) v:=by
 unfold dZ;split
 .rename_i cs;obtain⟨cv,d,rfl,j,l,k⟩:=f.agg_inv;refine .agg _ cv d (by simpa using j) ?_ ?_
  .intro i x a;simp only[Zk,Zq] at a;obtain⟨y,e,rfl⟩:=a;exact l i y e
  .intro i x a;simp only[Zk,Zq] at a;obtain⟨y,e,rfl⟩:=a;exact KQ g b h<|k i y e
 .exact KQ g b h f
theorem KP[aF](g:bY FT c)(b:bY FT c')(h:Fl c c')(f:RV FT c' x v): RV FT (pW c c') (fF c'.H c.H.length x) v:=by
 unfold fF;split
 .rename_i cs;obtain⟨cv,d,rfl,j,l,k⟩:=f.tup_inv;refine .tup _ cv d (by simpa using j) ?_ ?_
  .intro i x a;simp only[Zk,Zq] at a;obtain⟨y,e,rfl⟩:=a;exact l i y e
  .intro i x a;simp only[Zk,Zq] at a;obtain⟨y,e,rfl⟩:=a;exact aDi g b h<|k i y e
 .exact aDi g b h f
end
end
section
variable {FT:Nat->Option Nat}{P:Program}{T:List cQ}{a:Act}{c c':dF}{cs e:List AV}{es:List (List AV)}{fl id k len:Nat}{o:Oper}{off s:Nat}{t:TypeId}{tm:List AV}{tot:Nat}{v:Value}{x:bA}{y:Operand}
section
def frz(c:dF)(id s:Nat)(es:List<|List AV): dF:=⟨c.w,c.X,λi=>if i=id then none else c.β i,c.H.set id<|.blk s<|es++[List.replicate s .undef]⟩
theorem qV{i:Nat}{es:List<|List AV}(h:i≠id): (frz c id s es).H[i]?=c.H[i]?:=by
 simp only[frz];rw[Zv<|Ne.symm h]
theorem Id{es es':List<|List AV}(b:c.H[id]?=some (.blk s es')): (frz c id s es).H[id]?=some (.blk s<|es++[List.replicate s .undef]):=by
 have a:id<c.H.length:=by
  rcases ZI id c.H.length with h | h
  .exact h
  .rw[Zy h] at b;cases b
 simp only[frz];rw[Z3 a]
theorem vF[aF]{es:List<|List AV}(x:fl<=id)(k:c.H[id]?=some (.blk s es)): bW fl c (frz c id s es) where
 X:=rfl;os:=rfl;tape:=rfl;output:=rfl;drawn:=Zf _;size:=Zf _;len:=by simp[frz]
 frame:=λ_ _ _=>rfl;img:=λi b j=>by
  simp only[frz] at j;split at j
  .cases j
  .exact .inr ⟨_,j⟩
 blkS:=λi s' n m=>by
  by_cases a:i=id
  .subst a;simp only[shp,k,Za,Zi] at m;let⟨rfl,rfl⟩:=m;exact⟨es.length+1,by simp[shp,Id k],by omega,λh=>by omega⟩
  .refine⟨n,by simp only[shp,qV a];exact m,Zf _,λ_=>⟨by simp[frz,a],λb cs T _ q=>⟨cs,q,rfl⟩⟩⟩
 mpS:=λi u=>by
  let⟨e,he,f⟩:=u;have a:i≠id:=by
   intro h;subst h;rw[k] at he;cases he;exact f
  exact⟨⟨e,by rw[qV a];exact he,f⟩,by simp[frz,a]⟩
 floor:=λi a=>by
  have:i≠id:=by omega
  exact⟨qV this,by simp[frz,this],λ_ _=>rfl⟩
theorem Vu[aF]{es:List<|List AV}(f:bY FT c)(y:c.H[id]?=some (.blk s es)): bY FT<|frz c id s es:=by
 have g:=vF (fl:=0) (ZG _) y;have k:∀i b,(frz c id s es).β i=some b->i≠id/\c.β i=some b:=by
  intro i b a;simp only[frz] at a;split at a
  .cases a
  .rename_i h;exact⟨h,a⟩
 refine⟨f.gl.step g,λi j b d z=>f.inj i j b (k i b d).2 (k j b z).2,λi b d=>?_,λi b d=>f.nx i b (k i b d).2,f.fresh,?_,?_,?_,λi q b h a=>by
  let⟨d,a⟩:=k i b a;rw[qV d] at h;exact f.raw i q b h a⟩
 .have:=f.dom i b (k i b d).2;simpa [frz] using this
 .intro i s' es' h e he;by_cases d:i=id
  .subst d;rw[Id y] at h;cases h;rcases ZD.1 he with he | he
   .exact f.lens i s es y e he
   .simp at he;subst he;simp
  .rw[qV d] at h;exact f.lens i s' es' h e he
 .intro i s' es' b h a;let⟨d,a⟩:=k i b a;rw[qV d] at h;let⟨cs,T,w,p,t⟩:=f.blk i s' es' b h a;exact⟨cs,T,w,p,λi j x r=>let ⟨v,o,u,n⟩:=t i j x r;⟨v,o,u,n.step g⟩⟩
 .intro i m b h a;let⟨d,a⟩:=k i b a;rw[qV d] at h;let⟨cs,T,w,p,t⟩:=f.map i m b h a;exact⟨cs,T,w,p,λi j x r=>let ⟨v,o,u,n⟩:=t i j x r;⟨v,o,u,n.step g⟩⟩
theorem aBw[aF]{es:List<|List AV}(z:bY FT c)(E:c.H[id]?=some (.blk s es))(n:es.length=tot)(h:RV FT c (.ms id tot off len) v):
 RV FT (frz c id s es) (.sl false<|((es.drop off).take len).map λe=>e.map Gt) v:=by
 let⟨ad,cap,s0,n0,W,J,g2,Y,X⟩:=h.ms_inv;rw[eT E] at J;cases J;let⟨m1,R⟩:=X n.symm;have f:((es.drop off).take len).length=len:=by simp;omega
 subst W;refine .pure _ _ ?_;by_cases C:len=0
 .subst C;simp only[Wr,Yn];exact .nil false _ _ λh=>by cases h
 .rcases R with⟨_,t,G,U⟩ | ⟨b,cc,L,a',t,G,U,m6,Q⟩
  .omega
  .have ha:=Q (by omega);subst m6;subst ha;let⟨O,M,K,q2,N⟩:=z.blk id s es b E t;rw[G] at K;cases K;have k:=z.lens id s es E;have m:∀b',nE c b'->nE (frz c id s es) b':=λb' r=>⟨r.1,λi d=>by
    simp only[frz] at d;split at d
    .cases d
    .exact r.2 i d⟩
   have a:∀i j x,bK (((es.drop off).take len).map λe=>e.map Gt) i j=some x->
    ∃y u,x=Gt y/\cc[off*s+(i*s+j)]?=some u/\bC u=true/\RV FT c y u:=by
    intro i j x p;obtain⟨y,Z,rfl⟩:=jU p;let⟨e,he,T⟩:=cZ Z;rw[Zs] at he;split at he
    .rw[Zw] at he;let⟨u,q,A,B⟩:=N (off+i) j y (by simp[bK,he,T]);exact⟨y,u,rfl,by rw[<-q];congr 1;rw[ZA];omega,A,B⟩
    .cases he
   have g:=RP.sl (w:=c.w) (I:=nE<|frz c id s es) false (((es.drop off).take len).map λe=>e.map Gt) b (off*s) cap cc L (0,0) s
    (λi j=>(cc[off*s+(i*s+j)]?).getD bM)
    (by intro e;have:=congrArg List.length e;simp at this;omega)
    ⟨z.nx id b t,λi d=>by
     simp only[frz] at d;split at d
     .cases d
     .rename_i D;exact D<|z.inj i id b d t⟩ G
    (λe he=>by
     simp only[Yh] at he;obtain⟨S,V,rfl⟩:=he;simpa using k S<|ZZ<|Z7 V)
    (by simp only[ZO,f];exact Y) λh=>by cases h
    (λi j x p=>by
     let⟨y,u,_,q,A,_⟩:=a i j x p;simp[q,A])
    (λi j x p=>by
     let⟨y,u,F,q,_,B⟩:=a i j x p;rw[F];simp only[q,Yp];exact (B5 B).mono λb o r d=>⟨m b r,d⟩)
   simp only[ZO,f] at g;exact g
theorem aG8[aF]{a:Nat}{es:List<|List AV}(r:bY FT c)(C:c.H[id]?=some (.blk s es))(n:es.length=tot)(he:es[a]?=some e)(h:RV FT c (.ptr id tot a off) v):
 RV FT (frz c id s es) (.sptr<|(e.drop off).map Gt) v:=by
 cases h with
 | pure _ _ D=>cases D
 | ptr _ _ _ _ ad M K A L I=>
  rw[eT C] at A;cases A;obtain⟨b,f,rfl⟩:=I n.symm;let⟨cc,F,G,N,E⟩:=r.blk id s es b C f;have l:∀b',nE c b'->nE (frz c id s es) b':=λb' p=>⟨p.1,λi f=>by
   simp only[frz] at f;split at f
   .cases f
   .exact p.2 i f⟩
  have d:∀j x,((e.drop off).map Gt)[j]?=some x->∃y u,x=Gt y/\cc[a*s+off+j]?=some u/\bC u=true/\RV FT c y u:=by
   intro j x k;rw[Zk,Zq] at k;obtain⟨y,B,rfl⟩:=k;rw[Zw] at B;let⟨u,m,w,q⟩:=E a (off+j) y (by simp[bK,he,B]);exact⟨y,u,rfl,by rw[<-m];congr 1;omega,w,q⟩
  refine .pure _ _<|.sptr _ b (a*s+off) cc F (0,0) (λj=>(cc[a*s+off+j]?).getD bM) ⟨r.nx id b f,λi g=>?_⟩ G ?_ ?_
  .simp only[frz] at g;split at g
   .cases g
   .rename_i t;exact t<|r.inj i id b g f
  .intro j x k;let⟨y,u,_,m,w,_⟩:=d j x k;simp[m,w]
  .intro j x k;obtain⟨y,u,rfl,m,_,q⟩:=d j x k;simp only[m,Yp];exact (B5 q).mono λb o p f=>⟨l b p,f⟩
def det(c:dF)(id s:Nat)(es:List<|List AV): dF:=⟨c.w,λk=>c.X k\/c.β id=some k,λi=>if i=id then none else c.β i,c.H.set id<|.blk s<|es++[List.replicate s .undef]⟩
theorem A0{es:List<|List AV}{b:Nat}: nE (det c id s es) b↔nE c b:=by
 constructor
 .intro h;refine⟨λa=>h.1<|.inl a,λi d=>?_⟩;by_cases f:i=id
  .subst f;exact h.1<|.inr d
  .exact h.2 i<|by simp only[det,ZF f];exact d
 .intro h;refine⟨λa=>?_,λi d=>?_⟩
  .rcases a with a | a
   .exact h.1 a
   .exact h.2 _ a
  .simp only[det] at d;split at d
   .cases d
   .exact h.2 i d
theorem aBy{es:List<|List AV}{x:AV}(h:RP c.w (nE c) x v): RP (det c id s es).w (nE<|det c id s es) x v:=
 h.mono λ_ _ a b=>⟨A0.2 a,b⟩
theorem aFi[aF]{es:List<|List AV}{x:AV}(I:c.H[id]?=some (.blk s es))(h:RV FT c x v): RV FT (det c id s es) x v:=by
 have k:∀i,i≠id->(det c id s es).H[i]?=c.H[i]?:=λi g=>qV (s:=s) (es:=es) g;have m:(det c id s es).H[id]?=some (.blk s<|es++[List.replicate s .undef]):=Id I;have F:∀i,i≠id->(det c id s es).β i=c.β i:=λi g=>by simp[det,g]
 have r:∀b,Vis c b->Vis (det c id s es) b:=by
  intro b p i g;simp only[det] at g;split at g
  .cases g
  .exact p i g
 have C:∀i,Dx c.H i->i≠id:=by
  rintro i ⟨e,he,o⟩ rfl;rw[I] at he;cases he;exact o
 induction h with
 | pure x v w=>exact .pure x v<|aBy w
 | ms i tot off len a cap s' n t K G V=>
  by_cases g:i=id
  .subst g;rw[eT I] at t;cases t;exact .ms i tot off len a cap s (es.length+1) (by simp[shp,m]) (by omega) G λe=>by omega
  .refine .ms i tot off len a cap s' n (by simp only[shp,k i g];exact t) K G λe=>?_;let⟨U,S⟩:=V e;refine⟨U,?_⟩;rw[F i g];exact S
 | ptr i tot z off a s' n t K G=>
  by_cases g:i=id
  .subst g;rw[eT I] at t;cases t;exact .ptr i tot z off a s (es.length+1) (by simp[shp,m]) (by omega) λe=>by omega
  .refine .ptr i tot z off a s' n (by simp only[shp,k i g];exact t) K λe=>?_;rw[F i g];exact G e
 | rptr cs b off cc T L d g p q w=>exact .rptr cs b off cc T L d (r b g) p q λj x M=>aBy<|w j x M
 | vnil a cap=>exact .vnil a cap
 | vw es' b off cap cc T L s' d J g p y D q w=>exact .vw es' b off cap cc T L s' d J (r b g) p y D q λi j x M=>aBy<|w i j x M
 | mp i b u p=>
  have g:=C i u;let⟨e,he,o⟩:=u;exact .mp i b ⟨e,by rw[k i g];exact he,o⟩<|by rw[F i g];exact p
 | it i b u p=>
  have g:=C i u;let⟨e,he,o⟩:=u;exact .it i b ⟨e,by rw[k i g];exact he,o⟩<|by rw[F i g];exact p
 | fn vi f caps cv d R A q _ B=>exact .fn vi f caps cv d R A q B
 | agg cs cv d A q _ B=>exact .agg cs cv d A q B
 | tup cs cv d A q _ B=>exact .tup cs cv d A q B
theorem aMN[aF]{es:List<|List AV}(m:bY FT c)(t:c.H[id]?=some (.blk s es)): bY FT<|det c id s es:=by
 have n:∀i b,(det c id s es).β i=some b->i≠id/\c.β i=some b:=by
  intro i b a;simp only[det] at a;split at a
  .cases a
  .rename_i h;exact⟨h,a⟩
 have l:∀i,i≠id->(det c id s es).H[i]?=c.H[i]?:=λi f=>qV (s:=s) (es:=es) f;refine⟨?_,λi j b f J=>m.inj i j b (n i b f).2 (n j b J).2,λi b f=>?_,λi b f d=>?_,λk G d=>?_,?_,?_,?_,λi q b h a=>by
  let⟨f,a⟩:=n i b a;rw[l i f] at h;exact m.raw i q b h a⟩
 .intro g cs y;let⟨cc,T,O,r,I,F,M,K,L⟩:=m.gl g cs y;exact⟨cc,T,O,r,A0.2 I,F,M,K,λj x d=>aBy<|L j x d⟩
 .have:=m.dom i b (n i b f).2;simpa [det] using this
 .let⟨A,a⟩:=n i b f;rcases d with d | d
  .exact m.nx i b a d
  .exact A<|m.inj i id b a d
 .rcases d with d | d
  .exact m.fresh k G d
  .have I:=m.lt d;have F:c.w.heap.size<=k:=G;omega
 .intro i s' es' h e he;by_cases f:i=id
  .subst f;have N:(det c i s es).H[i]?=some (.blk s<|es++[List.replicate s .undef]):=Id t;rw[N] at h;cases h;rcases ZD.1 he with he | he
   .exact m.lens i s es t e he
   .simp at he;subst he;simp
  .rw[l i f] at h;exact m.lens i s' es' h e he
 .intro i s' es' b h a;let⟨f,a⟩:=n i b a;rw[l i f] at h;let⟨cs,T,B,E,z⟩:=m.blk i s' es' b h a;exact⟨cs,T,B,E,λi j x d=>let ⟨v,D,C,u⟩:=z i j x d;⟨v,D,C,aFi t u⟩⟩
 .intro i p b h a;let⟨f,a⟩:=n i b a;rw[l i f] at h;let⟨cs,T,B,E,z⟩:=m.map i p b h a;exact⟨cs,T,B,E,λi j x d=>let ⟨v,D,C,u⟩:=z i j x d;⟨v,D,C,aFi t u⟩⟩
section
end
end
section
theorem aFx[aF](j:bY (aK T) c)(k:TR (aK T) c tm a.tmps){f:Nat}{es:List<|List AV}(g:o.op=.move y\/o.op=.assign y)(h:aS T x y=true)(n:aH tm x=.ptr id tot f off)(l:fl<=id)(b:c.H[id]?=some (.blk s es))(d:es.length=tot)(he:es[f]?=some e):
 dM P (aK T) c fl o a (.sptr<|(e.drop off).map Gt)<|c.H.set id<|.blk s<|es++[List.replicate s .undef]:=by
 have m:=aX j k h;rw[n] at m;refine eM (cv:=a.eval y) (w':=c.w) (β':=λi=>if i=id then none else c.β i) ?_ (vF l b) (Vu j b)<|aG8 j b d he m;rcases g with g | g<;>simp[execOp,g]
theorem aIs[aF](g:bY (aK T) c)(j:TR (aK T) c tm a.tmps){es:List<|List AV}(f:o.op=.move y\/o.op=.assign y)(h:aS T x y=true)(m:aH tm x=.ms id tot off len)(k:fl<=id)(b:c.H[id]?=some (.blk s es))(d:es.length=tot):
 dM P (aK T) c fl o a (.sl false<|((es.drop off).take len).map λe=>e.map Gt)<|c.H.set id<|.blk s<|es++[List.replicate s .undef]:=by
 have l:=aX g j h;rw[m] at l;refine eM (cv:=a.eval y) (w':=c.w) (β':=λi=>if i=id then none else c.β i) ?_ (vF k b) (Vu g b)<|aBw g b d l;rcases f with f | f<;>simp[execOp,f]
theorem aFh[aF]{es:List<|List AV}(p:bY (aK T) c)(l:c.H[id]?=some (.blk s es))(d:es.length=tot)(n:cs[k]?=some (.ms id tot off len))(h:RV (aK T) c (.agg cs) v): RV (aK T) (frz c id s es) (.agg<|cs.set k<|.sl false<|((es.drop off).take len).map λe=>e.map Gt) v:=by
 have j:=vF (fl:=0) (ZG _) l;obtain⟨cv,f,rfl,q,o,m⟩:=h.agg_inv;have g:∀(i:Nat) (x:AV),(cs.set k<|.sl false<|((es.drop off).take len).map λe=>e.map Gt)[i]?=some x->(i=k/\x=.sl false (((es.drop off).take len).map λe=>e.map Gt))\/cs[i]?=some x:=by
  intro i x a;rw[Z5] at a;split at a
  .split at a
   .rename_i b _;cases a;exact .inl ⟨b.symm,rfl⟩
   .cases a
  .exact .inr a
 refine .agg _ cv f (by simpa using q) (λi x a=>?_) λi x a=>?_
 .rcases g i x a with⟨rfl,rfl⟩ | b
  .exact o _ _ n
  .exact o i x b
 .rcases g i x a with⟨rfl,rfl⟩ | b
  .exact aBw p l d<|m _ _ n
  .exact (m i x b).step j
theorem aKt[aF](g:bY (aK T) c)(l:TR (aK T) c tm a.tmps){n:Nat}{es:List<|List AV}(p:o.op=.load t y)(h:aS T x y=true)(z:Fh P t true=true)(r:dO P t n=true)(u:eB c.H (aH tm x) n=some cs)(v:cs[k]?=some (.ms id tot off len))(j:fl<=id)(d:c.H[id]?=some (.blk s es))(f:es.length=tot):
 dM P (aK T) c fl o a (.agg<|cs.set k<|.sl false<|((es.drop off).take len).map λe=>e.map Gt)<|c.H.set id<|.blk s<|es++[List.replicate s .undef]:=by
 let⟨ad,vs,q,A,m⟩:=FP g (aX g l h) u;refine eM (cv:=.agg vs.toArray) (w':=c.w) (β':=λi=>if i=id then none else c.β i) ?_ (vF j d) (Vu g d)<|aFh g d f v<|Kk m;simp[execOp,p,Instr.loadAt,Instr.sureAddr,q,zD m A z r rfl]
theorem aJW{H:aU}{v:AV}{ys:List<|List AV}(h:aJX v=some ys): rd H v=some ys:=by
 unfold aJX at h;split at h
 .exact h
 .exact h
 .cases h
theorem aF1[aF](m:bY (aK T) c)(E:TR (aK T) c tm a.tmps){y:bA}{X W:Operand}{L e e':TypeId}{i:TypeInfo}{z:Value}{bytes:Nat}{r:AV}(S:o.op=.call ⟨.builtin .append,#[X,W],#[t,L]⟩)(O:aS T x X=true)(Y:aS T y W=true)(M:P.underlying t=some (.slice e))(C:P.underlying L=some (.slice e'))(R:P.info? e=some i)(w:i.size=s)(F:i.bytes=bytes)(V:i.zero=some z)(B:z.cells.size=s)(g:aR2 s bytes (aH tm x) (aH tm y)=some r):
 dM P (aK T) c fl o a r c.H:=by
 unfold aR2 at g;split at g
 .rename_i f es N;split at g
  .split at g
   .split at g
    .rename_i ys I;split at g
     .rename_i b;cases g;have A:rd c.H (aH tm y)=some ys:=aJW I;intro K Q U;by_cases J:ys.length=0
      .have G:ys=[]:=ZK.1 J;have h:cP c.H.length c.H s bytes (aH tm x) ys=some (.sl true [],c.H):=by
        unfold cP;rw[Zu b,N];simp[J]
       refine RD m E (fl:=c.H.length) (Zf _) S O Y M C R w F V B A h K Q λcv c' Z j d n=>?_;exact U cv (pW c c') rfl (Vt m j) (D2 m j)<|by have:=KQ m d j.fl n;rw[G];exact this
      .have h:cP c.H.length c.H s bytes (aH tm x) ys=some (.ms c.H.length ys.length 0 ys.length,c.H++[.blk s ys]):=by
        unfold cP;rw[Zu b,N];have l:mT (0+ys.length) bytes=true:=by rw[Z0];exact b.2.2
        simp[J,fA,l,b.2.2]
       refine RD m E (fl:=c.H.length) (Zf _) S O Y M C R w F V B A h K Q λcv c' Z j d n=>?_;have q:c'.H[c.H.length]?=some (.blk s ys):=by rw[Z];simp
       have k:bW c.H.length c<|frz c' c.H.length s ys:=j.trans<|vF (Zf _) q;have p:=Vu d q;have v:=aBw d q rfl n;have D:=KQ m p k.fl v;refine U cv (pW c<|frz c' c.H.length s ys) rfl (Vt m k) (D2 m k) ?_;simpa [gH] using D
     .cases g
    .cases g
   .cases g
  .cases g
 .cases g
end
end
section
variable {P:Program}{T:List cQ}
def nF(FT:Nat->Option Nat)(c:dF)(args:List AV)(vs:Array Value): Prop:=
 vs.size=args.length/\∀(i:Nat) (x:AV),args[i]?=some x->∃v,vs[i]?=some v/\RV FT c x v
def De[aF](P:Program)(T:List cQ)(cf:Nat->Nat->List AV->aU->Option (AV×aU)): Prop:=
 ∀(fl vi f:Nat) (args:List AV) (r:AV) (H':aU) (c:dF) (vs:Array Value),cf fl vi args c.H=some (r,H')->aK T vi=some f->bY (aK T) c->fl<=c.H.length->nF (aK T) c args vs->
  Calls P f vs c.w λe w'=>∃v c',e=.returned v/\c'.w=w'/\c'.H=H'/\c'.X=c.X/\bW fl c c'/\bY (aK T) c'/\RV (aK T) c' r v
def pV(P:Program)(T:List cQ): Prop:=
 ∀vi f,aK T vi=some f->∃fn,P.funcs[f]?=some fn/\fn.body.isSome=true/\(fn.name== "runtime.NumGoroutine")=false
variable {cf:Nat->Nat->List AV->aU->Option (AV×aU)}{c:dF}{fl:Nat}{o:Oper}{a:Act}{tm:List AV}
def eP(c:dF): dF:=⟨c.w,λb=>c.X b\/∃id,c.β id=some b,λ_=>none,[]⟩
theorem Jn{c:dF}{b:Nat}: nE (eP c) b↔nE c b:=
 ⟨λh=>⟨λd=>h.1<|.inl d,λid a=>h.1<|.inr ⟨id,a⟩⟩,λh=>⟨λd=>by
  rcases d with d | ⟨id,a⟩
  .exact h.1 d
  .exact h.2 id a,λid a=>by cases a⟩⟩
theorem fP[aF]{FT:Nat->Option Nat}{c:dF}(d:bY FT c){id b:Nat}(h:c.β id=some b): b<c.w.heap.size:=by
 have f:=d.dom id b h;have a:∀o:Obj,c.w.heap[b]?=some o->b<c.w.heap.size:=by
  grind
 cases e:c.H[id] with
 | blk s es=>
  let⟨cs,T,g,_⟩:=d.blk id s es b (by rw[Zb f,e]) h;exact a _ g
 | mp es=>
  let⟨cs,T,g,_⟩:=d.map id es b (by rw[Zb f,e]) h;exact a _ g
 | raw q=>exact a _<|d.raw id q b (by rw[Zb f,e]) h
theorem Cv[aF]{FT:Nat->Option Nat}{c:dF}(f:bY FT c): bY FT (eP c) where
 gl:=λg cs e=>let ⟨cc,T,z,a,t,F,D,v,u⟩:=f.gl g cs e;⟨cc,T,z,a,Jn.2 t,F,D,v,λj x G=>(u j x G).mono λb o r A=>⟨Jn.2 r,A⟩⟩;inj:=λ_ _ _ h=>by cases h
 dom:=λ_ _ h=>by cases h
 nx:=λ_ _ h=>by cases h
 fresh:=λk l h=>by
  rcases h with h | ⟨id,d⟩
  .exact f.fresh k l h
  .have:=fP f d;have n:c.w.heap.size<=k:=l;omega
 lens:=λid s es h=>by simp[eP] at h
 blk:=λid s es b h=>by simp[eP] at h
 map:=λid es b h=>by simp[eP] at h
 raw:=λid q b h=>by simp[eP] at h
theorem aAw[aF]{FT:Nat->Option Nat}{c:dF}{x:AV}{v:Value}(d:Ks x=true)(h:RV FT c x v): RV FT (eP c) x v:=by
 cases h with
 | pure _ _ u=>exact .pure _ _<|u.mono λb o e l=>⟨Jn.2 e,l⟩
 | ms=>cases d
 | ptr=>cases d
 | rptr cs b off cc T w a p k g q=>exact .rptr cs b off cc T w a (λid h=>by cases h) k g λj x m=>(q j x m).mono λb o e l=>⟨Jn.2 e,l⟩
 | vnil=>cases d
 | vw=>cases d
 | mp=>cases d
 | it=>cases d
 | fn vi f caps cv a p k g q=>
  cases caps with
  | nil=>exact .fn vi f [] cv a p k g λi x m=>by simp at m
  | cons _ _=>cases d
 | agg=>cases d
 | tup=>cases d
theorem FJ[aF]: ∀{cs:List AV},Pm cs=true->∀x∈cs,Ks x=true
 | [],_,x,a=>by cases a
 | y::r,h,x,a=>by
  simp only[Pm] at h;split at h
  .rename_i b;rcases ZN.1 a with rfl | a
   .grind
   .exact FJ h x a
  .cases h
theorem Kr[aF]: ∀{cs:List AV},gK cs=true->∀x∈cs,uB x=true
 | [],_,x,a=>by cases a
 | y::r,h,x,a=>by
  simp only[gK] at h;split at h
  .rename_i b;rcases ZN.1 a with rfl | a
   .grind
   .exact Kr h x a
  .cases h
theorem aIm[aF]{FT:Nat->Option Nat}{c:dF}{x:AV}{v:Value}(b:uB x=true)(h:RV FT c x v): RV FT (eP c) x v:=by
 unfold uB at b;split at b
 .rename_i cs;obtain⟨cv,a,rfl,e,g,f⟩:=h.agg_inv;exact .agg cs cv a e g λi x d=>aAw (FJ b x<|Zg d)<|f i x d
 .exact aAw b h
theorem aIU[aF]{FT:Nat->Option Nat}{c:dF}{a:List AV}{vs:Array Value}(e:gK a=true)(h:nF FT c a vs): nF FT (eP c) a vs:=
 ⟨h.1,λi x b=>let ⟨v,f,d⟩:=h.2 i x b;⟨v,f,aIm (Kr e x<|Zg b) d⟩⟩
theorem gF{c c':dF}(h:bW 0 (eP c) c'){k:Nat}(b:k<c.w.heap.size): c'.w.heap[k]?=c.w.heap[k]?:=h.frame k b λid a=>by cases a
theorem yU[aF]{FT:Nat->Option Nat}{c c':dF}{fl:Nat}(m:bY FT c)(h:bW 0 (eP c) c'): bW fl c (pW c c') where
 X:=rfl;os:=h.os;tape:=h.tape;output:=h.output;drawn:=h.drawn;size:=h.size;len:=Zf _;frame:=λk r _=>gF h r;img:=λi _ a=>.inr ⟨i,a⟩;blkS:=λid s n e=>⟨n,e,Zf _,λ_=>⟨rfl,λb cs T a g=>⟨cs,(gF h<|fP m a).trans g,rfl⟩⟩⟩;mpS:=λ_ u=>⟨u,rfl⟩;floor:=λid _=>⟨rfl,rfl,λb a=>gF h<|fP m a⟩
theorem Jo[aF]{FT:Nat->Option Nat}{c c':dF}(a:bY FT c)(h:bW 0 (eP c) c'): bY FT<|pW c c':=by
 have f:=yU (fl:=0) a h;refine⟨a.gl.step f,a.inj,a.dom,a.nx,λk y=>a.fresh k<|ZB h.size y,a.lens,?_,?_,λid q b g d=>(gF h<|fP a d).trans<|a.raw id q b g d⟩
 .intro id s es b g d;let⟨cs,T,n,t,r⟩:=a.blk id s es b g d;exact⟨cs,T,(gF h<|fP a d).trans n,t,λi j x p=>let ⟨v,o,u,w⟩:=r i j x p;⟨v,o,u,w.step f⟩⟩
 .intro id l b g d;let⟨es,m,n,t,r⟩:=a.map id l b g d;exact⟨es,m,(gF h<|fP a d).trans n,t,λi k x p=>let ⟨e,o,u,w⟩:=r i k x p;⟨e,o,u,w.step f⟩⟩
def aIp: AV->Bool
 | .undef=>true
 | .lit _=>true
 | .sl _ _=>true
 | .sptr _=>true
 | .rmp _=>true
 | .fn _ []=>true
 | _=>false
def aIo: AV->Bool
 | .agg cs=>cs.all aIp
 | v=>aIp v
def aNq: AV->Bool
 | .tup cs=>cs.all aIo
 | v=>aIo v
theorem aAo(H:aU)(n:Nat): ∀(d:Nat) (x:AV),aIp (eE H n d x)=true:=by
 intro d x;cases x with
 | lit v=>
  have:eE H n d (.lit v)=uC v:=by cases d<;>rfl
  rw[this];unfold uC;repeat' split
  all_goals rfl
 | ms id tot off len=>
  cases d with
  | zero=>rfl
  | succ d=>
   simp only[eE];repeat' split
   all_goals rfl
 | mp id=>
  cases d with
  | zero=>rfl
  | succ d=>
   simp only[eE];repeat' split
   all_goals rfl
 | _=>cases d<;>rfl
theorem aAr(H:aU)(x:AV): aIp (gH H 0 x)=true:=by
 cases x with
 | lit v=>
  show aIp (uC v)=true;unfold uC;repeat' split
  all_goals rfl
 | ms id tot off len=>
  exact aAo _ _ _ _
 | mp id=>
  exact aAo _ _ _ _
 | ptr id tot b off=>rfl
 | fn vi caps=>cases caps<;>rfl
 | _=>rfl
theorem aAq(H:aU)(x:AV): aIo (dZ H 0 x)=true:=by
 unfold dZ;split
 .simp only[aIo,List.all_map,Yl];intro y _;exact aAr H y
 .have:=aAr H x;revert this;cases gH H 0 x<;>intro h<;>first | exact h | cases h
theorem aAp(H:aU)(x:AV): aNq (fF H 0 x)=true:=by
 unfold fF;split
 .simp only[aNq,List.all_map,Yl];intro y _;exact aAq H y
 .have:=aAq H x;revert this;cases dZ H 0 x<;>intro h<;>first | exact h | cases h
theorem aC0{c c':dF}{b:Nat}(d:nE (pW (eP c) c') b): nE (pW c c') b:=⟨λe=>d.1<|.inl e,λid a=>d.1<|.inr ⟨id,a⟩⟩
theorem aGT[aF]{FT:Nat->Option Nat}{c c':dF}{x:AV}{v:Value}(e:aIp x=true)(h:RV FT (pW (eP c) c') x v): RV FT (pW c c') x v:=by
 cases h with
 | pure x v k=>exact .pure x v<|k.mono λb o p j=>⟨aC0 p,j⟩
 | fn vi f caps cv a n g l q=>
  cases caps with
  | nil=>exact .fn vi f [] cv a n g l λi x m=>by simp at m
  | cons _ _=>cases e
 | _=>cases e
theorem aGS[aF]{FT:Nat->Option Nat}{c c':dF}{x:AV}{v:Value}(b:aIo x=true)(h:RV FT (pW (eP c) c') x v): RV FT (pW c c') x v:=by
 cases x with
 | agg cs=>
  obtain⟨cv,a,rfl,f,e,g⟩:=h.agg_inv;simp only[aIo,Yl] at b;exact .agg cs cv a f e λi x d=>aGT (b x<|Zg d)<|g i x d
 | _=>exact aGT b h
theorem aE6[aF]{FT:Nat->Option Nat}{c c':dF}{x:AV}{v:Value}(d:aNq x=true)(h:RV FT (pW (eP c) c') x v): RV FT (pW c c') x v:=by
 cases x with
 | tup cs=>
  cases h with
  | pure _ _ j=>cases j
  | tup _ cv a k l g=>
   simp only[aNq,Yl] at d;exact .tup cs cv a k l λi x e=>aGS (d x<|Zg e)<|g i x e
 | _=>exact aGS d h
theorem yN{f:Nat}{fn:Func}{a:Array Value}(h:P.funcs[f]?=some fn)(e:fn.body.isSome=true) (g:(fn.name== "runtime.NumGoroutine")=false) (w:World) :
 (callFunc f a).run P w=.ok (.enter f a) w:=by
 let⟨b,d⟩:=XK.1 e;have c:=by simpa using g
 simp[callFunc,h,d,c]
theorem aK6[aF]{FT:Nat->Option Nat}{c:dF}{x:AV}{v:Value}(h:RV FT c x v): RV FT c (nrm x) v:=by
 cases h with
 | pure _ _ q=>exact .pure _ _<|aBF q
 | ms id tot off len a cap s n g e i j=>exact .ms id tot off len a cap s n g e i j
 | ptr id tot l off a s n g e i=>exact .ptr id tot l off a s n g e i
 | rptr cs b off cc T k d g e i j=>exact .rptr cs b off cc T k d g e i j
 | vnil a cap=>exact .vnil a cap
 | vw es b off cap cc T k s d u w C y A B t=>exact .vw es b off cap cc T k s d u w C y A B t
 | mp id b g e=>exact .mp id b g e
 | it id b g e=>exact .it id b g e
 | fn vi f caps cv d g e i j=>exact .fn vi f caps cv d g e i j
 | agg cs cv d g e i=>exact .agg cs cv d g e i
 | tup cs cv d g e i=>exact .tup cs cv d g e i
theorem aHc[aF]{FT:Nat->Option Nat}{c:dF}{x:AV}{v:Value}(h:RV FT c x v): RV FT c (LR x) v:=by
 unfold LR;split
 .rename_i cs;obtain⟨cv,a,rfl,f,g,d⟩:=h.agg_inv;refine .agg _ cv a (by simpa using f) ?_ ?_
  .grind
  .intro i x b;simp at b;obtain⟨y,e,rfl⟩:=b;exact aK6<|d i y e
 .exact aK6 h
theorem aGV[aF](e:bY (aK T) c)(d:TR (aK T) c tm a.tmps){x:bA}{y:Operand}(b:o.op=.move y\/o.op=.assign y)(h:aS T x y=true):
 dM P (aK T) c fl o a (LR<|aH tm x) c.H:=by
 refine bR e ?_<|aHc<|aX e d h;rcases b with b | b<;>simp[execOp,b]
theorem aE7[aF]{FT:Nat->Option Nat}{c:dF}{a:List AV}{vs:Array Value}(h:nF FT c a vs): nF FT c (a.map LR) vs:=by
 refine⟨by simpa using h.1,λi x b=>?_⟩;simp at b;obtain⟨y,e,rfl⟩:=b;let⟨v,d,f⟩:=h.2 i y e;exact⟨v,d,aHc f⟩
theorem aGZ[aF](m:De P T cf)(z:pV P T)(j:bY (aK T) c)(u:fl<=c.H.length){pu:Bool}{vi f:Nat}{d:List AV}{vs:Array Value}{r:AV}{H':aU}(b:Ff cf fl pu vi d c.H=some (r,H'))(p:aK T vi=some f)(h:nF (aK T) c d vs)(n:(execOp a.eval o).run P c.w=(callFunc f vs).run P c.w): dM P (aK T) c fl o a r H':=by
 let⟨fn,B,D,C⟩:=z vi f p;intro K Q A;unfold Oper.wp;rw[n,yN B D C];unfold Ff at b;split at b
 .split at b
  .rename_i q;split at b
   .rename_i s l x;cases b;refine (m 0 vi f (d.map LR) s l (eP c) vs x p (Cv j) (Zf _)<|aE7<|aIU q h).mono ?_;rintro e w' ⟨v,c',rfl,rfl,rfl,E,g,k,y⟩;exact A v (pW c c') rfl (yU j g) (Jo j g)<|aE6 (aAp _ _)<|KP (Cv j) k ⟨g.X,λid t=>absurd t<|YE _⟩ y
   .grind
  .split at b
   .rename_i s l x;cases b;refine (m _ vi f (d.map LR) s l c vs x p j (Zf _)<|aE7 h).mono ?_;rintro e w' ⟨v,c',rfl,rfl,rfl,E,g,k,y⟩;exact A v (pW c c') rfl (Vt j g) (D2 j g)<|KP j k g.fl y
   .grind
 .refine (m fl vi f d r H' c vs b p j u h).mono ?_;grind
theorem Vj[aF](f:bY (aK T) c)(b:TR (aK T) c tm a.tmps){d:List bA}{ys:List Operand}(h:eQ T d ys=true): nF (aK T) c (d.map<|aH tm) (ys.map a.eval).toArray:=by
 let⟨e,g⟩:=y4 f b h;refine⟨by simp[e],λi x j=>?_⟩;grind
theorem aGX[aF](g:De P T cf)(l:pV P T)(m:bY (aK T) c)(j:TR (aK T) c tm a.tmps)(i:fl<=c.H.length){pu:Bool}{vi f:Nat}{b:List bA}{d:Array Operand}{ts:Array TypeId}{r:AV}{H':aU}(n:o.op=.call ⟨.value<|.func f,d,ts⟩)(p:aK T vi=some f)(h:eQ T b d.toList=true)(k:Ff cf fl pu vi (b.map<|aH tm) c.H=some (r,H')): dM P (aK T) c fl o a r H':=by
 refine aGZ g l m i k p (Vj m j h) ?_;have e:(d.toList.map a.eval).toArray=d.map a.eval:=by apply Xq;simp
 rw[e];simp[execOp,n,resolve,Act.eval,Deferred.ofValue,invoke]
theorem dM.mono[aF]{FT:Nat->Option Nat}{b:Nat}{r:AV}{H':aU}(h:dM P FT c b o a r H')(i:fl<=b): dM P FT c fl o a r H':=
 λK Q f=>h K Q λcv c' j e g d=>f cv c' j (e.mono i) g d
theorem aKz[aF](e:De P T cf)(j:pV P T)(l:bY (aK T) c)(d:TR (aK T) c tm a.tmps)(i:fl<=c.H.length){vi f:Nat}{b:List bA}{k:Array Operand}{ts:Array TypeId}{r:AV}{H':aU}(m:o.op=.call ⟨.value<|.func f,k,ts⟩)(n:aK T vi=some f)(h:eQ T b k.toList=true)(g:cf c.H.length vi (b.map<|aH tm) c.H=some (r,H')): dM P (aK T) c fl o a r H':=
 (aGX (pu:=false) e j l d (Zf _) m n h g).mono i
theorem aGs[aF]{c:dF}{FT:Nat->Option Nat}(hs:bY FT c){x:AV}{v:Value}(h:RV FT c x v): RV FT (eP c) (dG c.H x) v:=by
 have g:∀b,Vis (eP c) b:=λb id h=>by cases h
 have l:∀{x v},RP c.w (nE c) x v->RP (eP c).w (nE<|eP c) x v:=λhr=>hr.mono λb o hi hb=>⟨Jn.2 hi,hb⟩;cases h with
 | pure _ _ hp=>
  cases hp with
  | undef v=>exact RV.undef _
  | lit v=>
   have a1:uC v=.lit v\/(v=.slice none 0 0/\uC v=.sl false []):=by
    unfold uC;grind
   simp only[dG];rcases a1 with e | ⟨rfl,e⟩<;>rw[e]
   .exact RV.lit _
   .exact .vnil none 0
  | nil f a cap hf=>exact .vnil a cap
  | sl f es b off cap cc T E s d C N A D J Q Z h8=>exact .vw es b off cap cc T E s d C (g b) A D J Z λi j x k=>l<|h8 i j x k
  | sptr cs b off cc T E d C N A D=>exact .pure _ _<|l<|.sptr cs b off cc T E d C N A D
  | rmp I b es V d C N A D J Q=>exact .pure _ _<|l<|.rmp I b es V d C N A D J Q
 | ms id tot off len a cap s n M O L R=>
  simp only[dG];split
  .rename_i es p;unfold rd at p;simp only at p;split at p
   .rename_i s' m B;split at p
    .rename_i K;cases p;rw[eT B] at M;cases M;let⟨m1,m2⟩:=R K.symm;have r:((m.drop off).take len).length=len:=by simp;omega
     by_cases U:len=0
     .subst U;exact .vnil _ _
     .rcases m2 with⟨_,m3,X,m5⟩ | ⟨b,cc,Ty,a',m3,X,m5,m6,m7⟩
      .omega
      .have ha:=m7 (by omega);subst m6;subst ha;let⟨c1,c3,q1,q2,q3⟩:=hs.blk id s m b B m3;rw[X] at q1;cases q1;have z:=hs.lens id s m B;have q:∀i j x,bK (((m.drop off).take len).map λe=>e.map Gt) i j=some x->
        ∃y u,x=Gt y/\cc[off*s+(i*s+j)]?=some u/\bC u=true/\RV FT c y u:=by
        intro i j x k;obtain⟨y,hy,rfl⟩:=jU k;let⟨e,he,hj⟩:=cZ hy;rw[Zs] at he;split at he
        .rw[Zw] at he;let⟨u,G,W,S⟩:=q3 (off+i) j y (by simp[bK,he,hj]);exact⟨y,u,rfl,by rw[<-G];congr 1;rw[ZA];omega,W,S⟩
        .grind
       have t:=RV.vw (FT:=FT) (c:=eP c) (((m.drop off).take len).map λe=>e.map Gt) b (off*s) cap cc Ty (0,0) s
        (λi j=>(cc[off*s+(i*s+j)]?).getD bM)
        (by intro e;have:=congrArg List.length e;simp at this;omega) (g b) X
        (λe he=>by
         simp only[Yh] at he;obtain⟨e0,h0,rfl⟩:=he;simpa using z e0<|ZZ<|Z7 h0)
        (by simp only[ZO,r];exact L)
        (λi j x k=>by
         let⟨y,u,_,G,W,_⟩:=q i j x k;simp[G,W])
        (λi j x k=>by
         let⟨y,u,Y,G,_,S⟩:=q i j x k;rw[Y];simp only[G,Yp];exact l<|B5 S)
       simp only[ZO,r] at t;exact t
    .grind
   .grind
  .exact RV.undef _
 | ptr=>exact RV.undef _
 | rptr cs b off cc T E d M O L R=>exact .rptr cs b off cc T E d (g b) O L λj x k=>l<|R j x k
 | vnil a cap=>exact .vnil a cap
 | vw es b off cap cc T E s d C N A D J Q Z=>exact .vw es b off cap cc T E s d C (g b) A D J Q λi j x k=>l<|Z i j x k
 | mp=>exact RV.undef _
 | it=>exact RV.undef _
 | fn vi f caps cv d M O L R=>
  cases caps with
  | nil=>exact .fn vi f [] cv d M O L λi x k=>by simp at k
  | cons _ _=>exact RV.undef _
 | agg=>exact RV.undef _
 | tup=>exact RV.undef _
theorem KI[aF]{c:dF}{FT:Nat->Option Nat}(b:bY FT c){x:AV}{v:Value}(h:RV FT c x v): RV FT (eP c) (cG c.H x) v:=by
 unfold cG;split
 .rename_i cs;obtain⟨cv,a,rfl,g,j,e⟩:=h.agg_inv;refine .agg _ cv a (by simpa using g) ?_ ?_
  .grind
  .intro i x d;simp at d;obtain⟨y,f,rfl⟩:=d;exact aGs b<|e i y f
 .exact aGs b h
theorem aK0[aF](s:De P T cf)(n:pV P T)(k:bY (aK T) c)(q:TR (aK T) c tm a.tmps){vi f:Nat}{b:List bA}{l:Array Operand}{ts:Array TypeId}{r:AV}{H1:aU}(F:o.op=.call ⟨.value<|.func f,l,ts⟩)(A:aK T vi=some f)(h:eQ T b l.toList=true)(t:cf 0 vi ((b.map<|aH tm).map<|cG c.H) []=some (r,H1)): dM P (aK T) c fl o a (fF H1 0 r) c.H:=by
 let⟨fn,E,B,C⟩:=n vi f A;intro K Q I;unfold Oper.wp;have e:(execOp a.eval o).run P c.w=(callFunc f<|(l.toList.map a.eval).toArray).run P c.w:=by
  have e:(l.toList.map a.eval).toArray=l.map a.eval:=by apply Xq;simp
  rw[e];simp[execOp,F,resolve,Act.eval,Deferred.ofValue,invoke]
 rw[e,yN E B C];have d:=Vj k q h;have g:nF (aK T) (eP c) ((b.map<|aH tm).map<|cG c.H)<|(l.toList.map a.eval).toArray:=by
  refine⟨by rw[ZO];exact d.1,λi x z=>?_⟩;rw[Zk,Zq] at z;obtain⟨y,L,rfl⟩:=z;let⟨v,J,D⟩:=d.2 i y L;exact⟨v,J,KI k D⟩
 refine (s 0 vi f _ r H1 (eP c) _ t A (Cv k) (Zf _) g).mono ?_;rintro e w' ⟨v,c',rfl,rfl,rfl,M,j,p,G⟩;exact I v (pW c c') rfl (yU k j) (Jo k j)<|aE6 (aAp _ _)<|KP (Cv k) p ⟨j.X,λid u=>absurd u<|YE _⟩ G
def vM(c:dF)(w':World)(ob:Option Nat)(s:Nat)(rows:List<|List AV): dF:=⟨w',c.X,λi=>if i=c.H.length then ob else c.β i,c.H++[.blk s rows]⟩
section
variable {FT:Nat->Option Nat}{c':dF}{ob:Option Nat}{s:Nat}{rows:List (List AV)}
theorem mX[aF](d:bY FT c){w':World}{i b:Nat}(a:(vM c w' ob s rows).β i=some b): (i=c.H.length/\ob=some b)\/(i<c.H.length/\c.β i=some b):=by
 simp only[vM] at a;split at a
 .grind
 .exact .inr ⟨d.dom i b a,a⟩
theorem LV{w':World}{i:Nat}(a:i<c.H.length): (vM c w' ob s rows).H[i]?=c.H[i]?:=Zo a
theorem RI[aF]{fl:Nat}(p:bY FT c)(h:bW 0 (eP c) c')(B:fl<=c.H.length)(r:∀b,ob=some b->c.w.heap.size<=b): bW fl c (vM c c'.w ob s rows) where
 X:=rfl;os:=h.os;tape:=h.tape;output:=h.output;drawn:=h.drawn;size:=h.size;len:=by simp[vM]
 frame:=λk x _=>gF h x;img:=λi b d=>by
  rcases mX p d with⟨_,y⟩ | ⟨_,y⟩
  .grind
  .grind
 blkS:=λi s' n f=>by
  have a:i<c.H.length:=by
   rcases ZI i c.H.length with u | u
   .grind
   .simp[shp,Zy u] at f
  exact⟨n,by simp only[shp,LV a];exact f,Zf _,λ_=>⟨by simp[vM,Xy a],λb cs T d o=>⟨cs,(gF h<|fP p d).trans o,rfl⟩⟩⟩
 mpS:=λi A=>by
  let⟨e,he,q⟩:=A;have a:i<c.H.length:=by
   grind
  exact⟨⟨e,by rw[LV a];exact he,q⟩,by simp[vM,Xy a]⟩
 floor:=λi D=>by
  have a:i<c.H.length:=by omega
  exact⟨LV a,by simp[vM,Xy a],λb d=>gF h<|fP p d⟩
theorem I1[aF](f:bY FT c)(h:bW 0 (eP c) c'){b:Nat}(a:¬c'.X b)(j:ob≠some b): nE (vM c c'.w ob s rows) b:=by
 rw[h.X] at a;refine⟨λg=>a<|.inl g,λi e=>?_⟩;rcases mX f e with⟨_,d⟩ | ⟨_,d⟩
 .grind
 .exact a<|.inr ⟨i,d⟩
theorem aDS[aF](d:bY FT c)(M:bY FT c')(h:bW 0 (eP c) c')(l:∀b,ob=some b->c.w.heap.size<=b/\∃i,c'.β i=some b)(U:∀e∈rows,e.length=s)(B:∀b,ob=some b->∃cs T,c'.w.heap[b]?=some (.cells cs T (0,0))/\rows.length*s<=cs.size/\∀i j x,bK rows i j=some x->∃v,cs[i*s+j]?=some v/\bC v=true/\RP c'.w (nE<|vM c c'.w ob s rows) x v):
 bY FT<|vM c c'.w ob s rows:=by
 have I:=RI (fl:=c.H.length) (s:=s) (rows:=rows) d h (Zf _) λb r=>(l b r).1;have y:∀b,nE c' b->nE (vM c c'.w ob s rows) b:=λb p=>I1 d h p.1 λe=>by
  let⟨_,i,O⟩:=l b e;exact p.2 i O
 have A:(vM c c'.w ob s rows).H[c.H.length]?=some (.blk s rows):=by simp[vM]
 have n:∀i o,(vM c c'.w ob s rows).H[i]?=some o->i≠c.H.length->i<c.H.length/\c.H[i]?=some o:=by
  intro i o L p;have E:i<c.H.length:=by
   rcases ZI i c.H.length with X | X
   .grind
   .have:(vM c c'.w ob s rows).H[i]?=none:=Zy (by simp[vM];omega);rw[this] at L;cases L
  exact⟨E,by rw[LV E] at L;exact L⟩
 refine⟨?_,?_,?_,?_,λk hk=>d.fresh k<|ZB h.size hk,?_,?_,?_,?_⟩
 .intro g cs N;let⟨cc,T,Z,G,V,h2,h0,Y,h4⟩:=M.gl g cs N;exact⟨cc,T,Z,G,y g V,h2,h0,Y,λj x z=>(h4 j x z).mono λb o p r=>⟨y b p,r⟩⟩
 .intro i j b p hj;rcases mX d p with⟨S,a⟩ | ⟨u,a⟩<;>rcases mX d hj with⟨e2,t⟩ | ⟨l2,t⟩
  .omega
  .have:=(l b a).1;have:=fP d t;omega
  .have:=(l b t).1;have:=fP d a;omega
  .exact d.inj i j b a t
 .intro i b p;show i<(c.H++[_]).length;simp only[Zh,Yd];rcases mX d p with⟨S,_⟩ | ⟨u,_⟩<;>omega
 .intro i b p;rcases mX d p with⟨S,a⟩ | ⟨u,a⟩
  .exact d.fresh b (l b a).1
  .exact d.nx i b a
 .intro i s' es' f e he;by_cases p:i=c.H.length
  .grind
  .exact d.lens i s' es' (n i _ f p).2 e he
 .intro i s' es' b f r;rcases mX d r with⟨rfl,a⟩ | ⟨u,a⟩
  .rw[A] at f;cases f;let⟨cs,T,F,D,J⟩:=B b a;exact⟨cs,T,F,D,λi j x z=>let ⟨v,w1,w2,W⟩:=J i j x z;⟨v,w1,w2,.pure _ _ W⟩⟩
  .let⟨_,m⟩:=n i _ f<|Xy u;let⟨cs,T,F,D,J⟩:=d.blk i s' es' b m a;exact⟨cs,T,(gF h<|fP d a).trans F,D,λi j x z=>let ⟨v,a,t,R⟩:=J i j x z;⟨v,a,t,R.step I⟩⟩
 .intro i K b f r;rcases mX d r with⟨rfl,a⟩ | ⟨u,a⟩
  .grind
  .let⟨_,m⟩:=n i _ f<|Xy u;let⟨es',Q,F,D,J⟩:=d.map i K b m a;exact⟨es',Q,(gF h<|fP d a).trans F,D,λi k x z=>let ⟨e,a,t,R⟩:=J i k x z;⟨e,a,t,R.step I⟩⟩
 .intro i q b f r;rcases mX d r with⟨rfl,a⟩ | ⟨u,a⟩
  .grind
  .let⟨_,m⟩:=n i _ f<|Xy u;exact (gF h<|fP d a).trans<|d.raw i q b m a
theorem aDo[aF](C:bY FT c)(f:bY FT c')(h:bW 0 (eP c) c'){r:AV}{v:Value}(L:RV FT c' r v)(l:VF s c'.H r=some rows):
 ∃ob,(∀b,ob=some b->c.w.heap.size<=b)/\bY FT (vM c c'.w ob s rows)/\RV FT (vM c c'.w ob s rows) (.ms c.H.length rows.length 0 rows.length) v:=by
 unfold VF at l;split at l
 .rename_i id tot off len;split at l
  .grind
  rename_i n;split at l
  .grind
  rename_i o k;split at l
  .rename_i s' es;split at l
   .rename_i m;simp only[Zd] at n m;have G:=Zc n.1;have e2:=Zc n.2;have X:=Zc m.1;have N:=Zc m.2;subst G e2 X N;have d:=ZR l;have t:rows.length=es.length:=by rw[<-d];simp
    have p:∀b,c'.β id=some b->c.w.heap.size<=b/\∃i,c'.β i=some b:=by
     intro b g;rcases h.img id b g with S | ⟨i,F⟩
     .exact⟨S,id,g⟩
     .cases F
    refine⟨c'.β id,λb g=>(p b g).1,aDS C f h p ?_ ?_,?_⟩
    .intro e he;rw[<-d] at he;obtain⟨Q,Z,rfl⟩:=Yh.1 he;simpa using f.lens id s' es k Q Z
    .intro b g;let⟨cs,T,B,K,E⟩:=f.blk id s' es b k g;refine⟨cs,T,B,by rw[t];exact K,λi j x J=>?_⟩;rw[<-d] at J;obtain⟨y,Y,rfl⟩:=jU J;let⟨v,R,M,V⟩:=E i j y Y;refine⟨v,R,M,Vw (c':=det c' id s' es) (aMN f k) (λb' F=>?_) ?_ _ _ _<|aFi k V⟩
     .have A:=A0.1 F;exact I1 C h A.1<|A.2 id
     .intro I b' _ z;have q:I≠id/\c'.β I=some b':=by
       simp only[det] at z;split at z
       .grind
       .grind
      exact I1 C h (f.nx I b' q.2) λe=>q.1<|f.inj _ _ b' q.2 e
    .obtain⟨ad,cap,s0,n0,rfl,B,K,E,W⟩:=L.ms_inv;rw[eT k] at B;cases B;let⟨U,O⟩:=W rfl;rw[t];refine .ms _ _ _ _ ad cap s' es.length (by simp[shp,vM,t]) (Zf _) E λ_=>⟨U,?_⟩;have:(vM c c'.w (c'.β id) s' rows).β c.H.length=c'.β id:=by simp[vM]
     rw[this];exact O
   .grind
  .grind
 .rename_i u;split at l
  .rename_i a len cap;split at l
   .split at l
    .rename_i D;cases l;simp only[Zd] at D;have G:=Zc D.1;have e2:=Zc D.2;subst G e2;obtain rfl:=L.lit_inv;refine⟨none,(λb g=>by cases g),aDS C f h (λb g=>by cases g) (λe he=>by cases he) (λb g=>by cases g),?_⟩;refine .ms _ _ _ _ none 0 s 0 (by simp[shp,vM]) (Zf _) (Zf _) λ_=>⟨Zf _,.inl ⟨by simp[vM],rfl,rfl,rfl⟩⟩
    .grind
   .grind
  .grind
 .grind
end
theorem aKx[aF](N:De P T cf)(R:pV P T)(A:bY (aK T) c)(J:TR (aK T) c tm a.tmps)(F:fl<=c.H.length){s vi f:Nat}{g:List bA}{B:Array Operand}{ts:Array TypeId}{r:AV}{H':aU}(ho:o.op=.call ⟨.value<|.func f,B,ts⟩)(Y:aK T vi=some f)(h:eQ T g B.toList=true)(b:EC s c.H (cf 0 vi ((g.map<|aH tm).map<|cG c.H) [])=some (r,H')): dM P (aK T) c fl o a r H':=by
 let⟨fn,M,I,L⟩:=R vi f Y;intro K Q W;unfold Oper.wp;have e:(execOp a.eval o).run P c.w=(callFunc f<|(B.toList.map a.eval).toArray).run P c.w:=by
  have e:(B.toList.map a.eval).toArray=B.map a.eval:=by apply Xq;simp
  rw[e];simp[execOp,ho,resolve,Act.eval,Deferred.ofValue,invoke]
 rw[e,yN M I L];have k:=Vj A J h;have n:nF (aK T) (eP c) ((g.map<|aH tm).map<|cG c.H)<|(B.toList.map a.eval).toArray:=by
  refine⟨by rw[ZO];exact k.1,λi x U=>?_⟩;rw[Zk,Zq] at U;obtain⟨y,q,rfl⟩:=U;let⟨v,g1,g2⟩:=k.2 i y q;exact⟨v,g1,KI A g2⟩
 unfold EC at b;split at b
 .grind
 rename_i p Z;let⟨r0,H0⟩:=p;refine (N 0 vi f _ r0 H0 (eP c) _ Z Y (Cv A) (Zf _) n).mono ?_;rintro e w' ⟨v,c',rfl,rfl,rfl,hX,m,E,S⟩;simp only at b;split at b
 .split at b
  .grind
  rename_i x l;split at b
  .grind
  rename_i C;split at b
  .grind
  rename_i rows t;cases b;obtain⟨cv,d,rfl,q1,q2,X⟩:∃cv,∃d:Nat->Value,v=.tuple cv/\cv.size=(x::l).length/\(∀(i:Nat) y,(x::l)[i]?=some y->cv[i]?=some (d i))/\∀(i:Nat) y,(x::l)[i]?=some y->RV (aK T) c' y (d i):=by
   cases S with
   | pure _ _ h=>cases h
   | tup cs cv d M I L=>exact⟨cv,d,rfl,M,I,L⟩
  let⟨ob,j,z,D⟩:=aDo A E m (X 0 x rfl) t;refine W _ (vM c c'.w ob s rows) rfl (RI A m F j) z<|.tup _ cv d (by simpa using q1) (λi y q=>?_) λi y q=>?_
  .grind
  .match i,q with
   | 0,q=>grind
   | i+1,q=>
    have O:l[i]?=some y:=by simpa using q
    have hl:=Yl.1 C y<|Zg O;have hr:=X (i+1) y (by simpa using q);cases y with
    | lit u=>rw[hr.lit_inv];exact RV.lit u
    | _=>cases hl
 .split at b
  .grind
  rename_i rows t;cases b;let⟨ob,j,z,D⟩:=aDo A E m S t;exact W v (vM c c'.w ob s rows) rfl (RI A m F j) z D
def zB(c:dF): dF:=⟨c.w,c.X,λ_=>none,[]⟩
theorem B8{c:dF}{b:Nat}(h:nE c b): nE (zB c) b:=⟨h.1,λid a=>by cases a⟩
theorem aDb[aF]{FT:Nat->Option Nat}{c:dF}(i:bY FT c): bY FT (zB c) where
 gl:=λg cs e=>let ⟨cc,T,t,a,p,l,B,z,r⟩:=i.gl g cs e;⟨cc,T,t,a,B8 p,l,B,z,λj x A=>(r j x A).mono λb o n v=>⟨B8 n,v⟩⟩;inj:=λ_ _ _ h=>by cases h
 dom:=λ_ _ h=>by cases h
 nx:=λ_ _ h=>by cases h
 fresh:=i.fresh;lens:=λid s es h=>by simp[zB] at h
 blk:=λid s es b h=>by simp[zB] at h
 map:=λid es b h=>by simp[zB] at h
 raw:=λid q b h=>by simp[zB] at h
theorem yR{c c':dF}(h:bW 0 (zB c) c'){k:Nat}(b:k<c.w.heap.size): c'.w.heap[k]?=c.w.heap[k]?:=h.frame k b λid a=>by cases a
theorem aAn[aF]{FT:Nat->Option Nat}{c c':dF}{fl:Nat}(m:bY FT c)(h:bW 0 (zB c) c'): bW fl c (pW c c') where
 X:=rfl;os:=h.os;tape:=h.tape;output:=h.output;drawn:=h.drawn;size:=h.size;len:=Zf _;frame:=λk r _=>yR h r;img:=λi _ a=>.inr ⟨i,a⟩;blkS:=λid s n e=>⟨n,e,Zf _,λ_=>⟨rfl,λb cs T a g=>⟨cs,(yR h<|fP m a).trans g,rfl⟩⟩⟩;mpS:=λ_ u=>⟨u,rfl⟩;floor:=λid _=>⟨rfl,rfl,λb a=>yR h<|fP m a⟩
theorem aIg[aF]{FT:Nat->Option Nat}{c c':dF}(a:bY FT c)(h:bW 0 (zB c) c'): bY FT<|pW c c':=by
 have f:=aAn (fl:=0) a h;refine⟨a.gl.step f,a.inj,a.dom,a.nx,λk y=>a.fresh k<|ZB h.size y,a.lens,?_,?_,λid q b g d=>(yR h<|fP a d).trans<|a.raw id q b g d⟩
 .intro id s es b g d;let⟨cs,T,n,t,r⟩:=a.blk id s es b g d;exact⟨cs,T,(yR h<|fP a d).trans n,t,λi j x p=>let ⟨v,o,u,w⟩:=r i j x p;⟨v,o,u,w.step f⟩⟩
 .intro id l b g d;let⟨es,m,n,t,r⟩:=a.map id l b g d;exact⟨es,m,(yR h<|fP a d).trans n,t,λi k x p=>let ⟨e,o,u,w⟩:=r i k x p;⟨e,o,u,w.step f⟩⟩
theorem aDc[aF]{c:dF}(B:bY (aK T) c){x:AV}{v:Value}(U:RV (aK T) c x v): RV (aK T) (zB c) (gH c.H 0 x) v:=by
 have o:∀d y u,RV (aK T) c y u->RP (zB c).w (nE<|zB c) (eE c.H 0 d y) u:=λd y u h=>
  Vw B (λb m=>B8 m) (λid b _ m=>⟨B.nx id b m,λi N=>by cases N⟩) d y u h
 cases U with
 | pure _ _ k=>
  have:=o 0 x v<|.pure _ _ k;cases k with
  | undef=>exact RV.undef _
  | lit=>exact .pure _ _<|aBG _
  | nil f a cap X=>exact .pure _ _<|.nil false a cap<|by simp
  | sl f es b off cap cc J Q s e z E r A S I Y Z=>exact .pure _ _ this
  | sptr cs b off cc J Q e z E r A=>exact .pure _ _ this
  | rmp C b es K e z E r A S I=>exact .pure _ _ this
 | ms id tot off len a cap s n g j l t=>
  exact .pure _ _<|o _ _ _<|.ms id tot off len a cap s n g j l t
 | ptr id tot L off a s n g j l=>simp only[gH];exact RV.undef _
 | rptr=>exact RV.undef _
 | vnil=>exact RV.undef _
 | vw=>exact RV.undef _
 | mp id b g j=>
  exact .pure _ _<|o _ _ _<|.mp id b g j
 | it id b g j=>exact RV.undef _
 | fn vi f caps cv e g j l t=>
  cases caps with
  | nil=>exact .fn vi f [] cv e g j l λi x V=>by simp at V
  | cons _ _=>exact RV.undef _
 | agg=>exact RV.undef _
 | tup=>exact RV.undef _
theorem aJC[aF]{c:dF}(d:bY (aK T) c){x:AV}{v:Value}(b:RV (aK T) c x v): RV (aK T) (zB c) (dZ c.H 0 x) v:=by
 unfold dZ;split
 .rename_i cs;obtain⟨cv,a,rfl,g,j,f⟩:=b.agg_inv;refine .agg _ cv a (by simpa using g) ?_ ?_
  .grind
  .intro i x e;simp at e;obtain⟨y,h,rfl⟩:=e;exact aDc d<|f i y h
 .exact aDc d b
theorem aJN[aF]{FT:Nat->Option Nat}{c c':dF}{x:AV}{v:Value}(b:aG5 x=true)(h:RV FT c x v): RV FT c' x v:=by
 unfold aG5 at b;split at b
 .rw[h.lit_inv];exact RV.lit _
 .rename_i vs;obtain⟨cv,a,rfl,g,e,f⟩:=h.tup_inv;refine .tup _ cv a g e λi y d=>?_;have:=Yl.1 b y<|Zg d;split at this
  .rw[(f i _ d).lit_inv];exact RV.lit _
  .grind
 .grind
theorem aKy[aF](t:De P T cf)(z:pV P T)(k:bY (aK T) c)(p:TR (aK T) c tm a.tmps){vi f:Nat}{b:List bA}{l:Array Operand}{ts:Array TypeId}{r:AV}{H':aU}(N:o.op=.call ⟨.value<|.func f,l,ts⟩)(B:aK T vi=some f)(h:eQ T b l.toList=true)(q:cf 0 vi ((b.map<|aH tm).map<|dZ c.H 0) []=some (r,H'))(C:aG5 (fF H' 0 r)=true): dM P (aK T) c fl o a (fF H' 0 r) c.H:=by
 have d:=Vj k p h;have e:(l.toList.map a.eval).toArray=l.map a.eval:=by apply Xq;simp
 have m:(execOp a.eval o).run P c.w=(callFunc f (l.toList.map a.eval).toArray).run P c.w:=by
  rw[e];simp[execOp,N,resolve,Act.eval,Deferred.ofValue,invoke]
 let⟨fn,F,L,D⟩:=z vi f B;intro K Q J;unfold Oper.wp;rw[m,yN F L D];have g:nF (aK T) (zB c) ((b.map<|aH tm).map<|dZ c.H 0) (l.toList.map a.eval).toArray:=by
  refine⟨by simpa using d.1,λi x A=>?_⟩;rw[Zk,Zq] at A;obtain⟨y,M,rfl⟩:=A;let⟨v,I,E⟩:=d.2 i y M;exact⟨v,I,aJC k E⟩
 refine (t 0 vi f _ r H' (zB c) _ q B (aDb k) (Zf _) g).mono ?_;rintro e w' ⟨v,c',rfl,rfl,rfl,O,j,s,G⟩;exact J v (pW c c') rfl (aAn k j) (aIg k j)<|aJN C<|KP (aDb k) s ⟨j.X,λid u=>absurd u<|YE _⟩ G
theorem aKw[aF](l:De P T cf)(s:pV P T)(j:bY (aK T) c)(d:TR (aK T) c tm a.tmps)(q:fl<=c.H.length){pu:Bool}{vi:Nat}{x:bA}{y:Operand}{caps:List AV}{b:List bA}{g:Array Operand}{ts:Array TypeId}{r:AV}{H':aU}(A:o.op=.call ⟨.value y,g,ts⟩)(C:aS T x y=true)(n:aH tm x=.fn vi caps)(h:eQ T b g.toList=true)(m:Ff cf fl pu vi (b.map (aH tm)++caps) c.H=some (r,H')): dM P (aK T) c fl o a r H':=by
 have u:=aX j d C;rw[n] at u;let⟨f,cv,v,w,E,B,G,F⟩:=u.fn_inv;have p:=Vj j d h;refine aGZ l s j q m E (vs:=(g.toList.map a.eval).toArray++cv) ⟨by simp[B];simpa using p.1,?_⟩ ?_
 .intro i z k;rw[Yk] at k;rw[XX];have t:=p.1;rw[t];split at k
  .rename_i D;rw[Zu D];exact p.2 i z k
  .grind
 .have e:(g.toList.map a.eval).toArray=g.map a.eval:=by apply Xq;simp
  rw[e];simp[execOp,A,resolve,w,Deferred.ofValue,invoke]
theorem Ok[aF]: ∀(f:List<|Nat×Nat) (c:dF),bY (aK T) c->fl<=c.H.length->bW fl c ⟨c.w,c.X,c.β,c.H++f.map λx=>.blk x.2 []⟩/\bY (aK T) ⟨c.w,c.X,c.β,c.H++f.map λx=>.blk x.2 []⟩
 | [],c,b,_=>by simpa using⟨bW.refl fl c,b⟩
 | x::r,c,b,a=>by
  have i:=Jz (s:=x.2) a;have h:=PR (s:=x.2) b;let⟨g,d⟩:=Ok r ⟨c.w,c.X,c.β,c.H++[.blk x.2 []]⟩ h (by simp;omega);have e:(c.H++[dK.blk x.2 []])++r.map (λx=>dK.blk x.2 [])=c.H++(x::r).map λx=>.blk x.2 []:=by simp
  simp at g d;exact⟨i.trans g,d⟩
theorem Lf[aF]{FT:Nat->Option Nat}{z:List Value}: ∀(b:List<|Nat×Nat) (n:Nat) (cs:List AV),Cz FT c cs z.toArray->(∀x∈b,z[x.1]?=some bO)->
 (∀i,i<b.length->RV FT c (.ms (n+i) 0 0 0) bO)->Cz FT c (eO n cs b) z.toArray
 | [],_,cs,h,_,_=>h
 | (o,s)::r,n,cs,h,e,f=>by
  refine Lf r (n+1) _ ?_ (λx a=>e x<|by simp[a]) (λi g=>by have:=f (i+1) (by simp;omega);rwa [show n+(i+1)=n+1+i by omega] at this);refine⟨by simpa using h.1,λj x a=>?_⟩;rw[Z5] at a;split at a
  .rename_i d;subst d;split at a
   .cases a;exact⟨bO,by simpa using e (o,s)<|by simp,rfl,f 0<|by simp⟩
   .grind
  .exact h.2 j x a
theorem aIt[aF](r:bY (aK T) c)(q:fl<=c.H.length){z:List Value}{d:List<|Nat×Nat}{t:TypeId}(I:o.op=.alloc t)(h:nG P t z=true)(n:∀x∈d,z[x.1]?=some bO):
 dM P (aK T) c fl o a (.ptr (c.H.length+d.length) 1 0 0)<|(c.H++d.map λc=>.blk c.2 [])++[.blk z.length [eO c.H.length (z.map .lit) d]]:=by
 let⟨i,v,G,J,A,m⟩:=jA h;let⟨s,u⟩:=Ok d c r q;generalize j:(c.H++d.map λc=>dK.blk c.2 [])=H1 at s u;have f:H1.length=c.H.length+d.length:=by rw[<-j];simp
 have l:Cz (aK T) ⟨c.w,c.X,c.β,H1⟩ (eO c.H.length (z.map .lit) d) z.toArray:=by
  refine Lf d c.H.length _ (Pt m) n ?_;intro k D;refine .ms _ 0 0 0 none 0 (d[k].2) 0 ?_ (Zf _) (Zf _) λ_=>⟨Zf _,.inl ⟨?_,rfl,rfl,rfl⟩⟩
  .show shp H1 _=_;rw[<-j];simp[shp,D]
  .show c.β _=none;cases y:c.β (c.H.length+k) with
   | none=>rfl
   | some b=>have:=r.dom _ b y;omega
 have e:=Vy (P:=P) (fl:=fl) (o:=o) (a:=a) (t:=t) u (by simp;omega) ?_ l.1 l.2
 .have g:=by have:=l.1;simpa using this.symm
  rw[g] at e;simp only[f] at e;intro K Q F;refine e K Q ?_;intro cv c' C e2 E B;exact F cv c' C (s.trans e2) E B
 .simp[execOp,I,Instr.alloc,zeroValue,typeInfo,G,J,newVar,newRow,A]
theorem aNx[aF](f:bY (aK T) c)(b:TR (aK T) c tm a.tmps)(q:fl<=c.H.length){x:bA}{y:Operand}{t:TypeId}{cs:List AV}{d:List<|Nat×Nat}(k:o.op=.box t y)(h:aS T x y=true)(j:cellsOf (aH tm x)=some cs)(n:aK8 cs d=true):
 dM P (aK T) c fl o a (.ptr (c.H.length+d.length) 1 0 0)<|(c.H++d.map λc=>.blk c.2 [])++[.blk cs.length [eO c.H.length cs d]]:=by
 let⟨g,i⟩:=Ct (aX f b h) j;let⟨s,u⟩:=Ok d c f q;generalize e0:(c.H++d.map λc=>dK.blk c.2 [])=H1 at s u;have f1:H1.length=c.H.length+d.length:=by rw[<-e0];simp
 have l0:Cz (aK T) ⟨c.w,c.X,c.β,H1⟩ cs (a.eval y).cells.toList.toArray:=⟨by simpa using g,λm z e=>by
  let⟨v,A,B,C⟩:=i m z e;exact⟨v,by simpa using A,B,C.step s⟩⟩
 have z0:∀x∈d,(a.eval y).cells.toList[x.1]?=some bO:=λx hx=>by
  have w:=Yl.1 n x hx;split at w
  .rename_i e;let⟨v,A,_,C⟩:=i _ _ e;rw[C.lit_inv] at A;show _=some (Value.slice none 0 0);simpa using A
  .cases w
 have l:Cz (aK T) ⟨c.w,c.X,c.β,H1⟩ (eO c.H.length cs d) (a.eval y).cells.toList.toArray:=by
  refine Lf d c.H.length _ l0 z0 ?_;intro k D;refine .ms _ 0 0 0 none 0 (d[k].2) 0 ?_ (Zf _) (Zf _) λ_=>⟨Zf _,.inl ⟨?_,rfl,rfl,rfl⟩⟩
  .show shp H1 _=_;rw[<-e0];simp[shp,D]
  .show c.β _=none;cases y:c.β (c.H.length+k) with
   | none=>rfl
   | some b=>have:=f.dom _ b y;omega
 have e:=Vy (P:=P) (fl:=fl) (o:=o) (a:=a) (t:=t) u (by simp;omega) ?_ l.1 l.2
 .have g2:(eO c.H.length cs d).length=cs.length:=by rw[<-l.1];simpa using g
  rw[g2] at e;simp only[f1] at e;intro K Q F;refine e K Q ?_;intro cv c' C e2 E B;exact F cv c' C (s.trans e2) E B
 .simp[execOp,k,Instr.box,newVar,newRow]
end
section
variable {P:Program}{T:List cQ}{a:Act}{α:Type}{as:Array α}{c:dF}{cf:Nat->Nat->List AV->aU->Option (AV×aU)}{fl:Nat}{o:Oper}{tm:List AV}{x:α}
section
theorem pZ{y:α}(h:as.toList=[x,y]): as=#[x,y]:=by apply Xq;simpa using h
theorem jL(h:as.toList=[x]): as=#[x]:=by apply Xq;simpa using h
theorem aFK[aF](hcf:De P T cf)(hfn:pV P T)(hs:bY (aK T) c)(htr:TR (aK T) c tm a.tmps)(hfl:fl<=c.H.length){ao:Ju}{v:AV}{H':aU}(hchk:cR P T ao o.op=true)(hev:aO P cf fl ao tm c.H=some (v,H')): dM P (aK T) c fl o a v H':=by
 generalize hop:o.op=op at hchk
 cases ao with
 | mov x=>
  simp only[aO,Za,Zi] at hev
  let⟨rfl,rfl⟩:=hev
  simp only[cR] at hchk
  split at hchk
  .exact aFv hs htr (.inl hop) hchk
  .exact aFv hs htr (.inr hop) hchk
  .cases hchk
 | movN x=>
  simp only[aO,Za,Zi] at hev
  let⟨rfl,rfl⟩:=hev
  simp only[cR] at hchk
  split at hchk
  .exact aGV hs htr (.inl hop) hchk
  .exact aGV hs htr (.inr hop) hchk
  .cases hchk
 | rangeStr x=>
  simp only[cR] at hchk
  split at hchk
  .rename_i t y
   simp only[Zd] at hchk
   simp only[aO] at hev
   split at hev
   .rename_i s hx
    cases hev
    exact aD4 hs htr hfl hop hchk.1 (by
     have:=hchk.2
     split at this
     .assumption
     .cases this) hx
   .cases hev
  .cases hchk
 | nextStr x=>
  simp only[cR] at hchk
  split at hchk
  .rename_i y b
   simp only[Zd] at hchk
   obtain⟨hy,rfl⟩:=hchk
   simp only[aO] at hev
   split at hev
   .rename_i id hx
    split at hev
    .rename_i hle
     split at hev
     .rename_i s pos hob
      split at hev
      .rename_i hp
       cases hev
       exact aFu hs htr hop hy hx hle hob hp
      .rename_i hp
       cases hev
       exact aFt hs htr hop hy hx hob hp
     .cases hev
    .cases hev
   .cases hev
  .cases hchk
 | freeze x=>
  simp only[cR] at hchk
  have hmv:∃y,(o.op=.move y\/o.op=.assign y)/\aS T x y=true:=by
   split at hchk
   .exact⟨_,.inl hop,hchk⟩
   .exact⟨_,.inr hop,hchk⟩
   .cases hchk
  let⟨y,ho,hy⟩:=hmv
  simp only[aO] at hev
  split at hev
  .rename_i id tot off len hx
   split at hev
   .rename_i hle
    split at hev
    .rename_i s es hob
     split at hev
     .rename_i htot
      cases hev
      exact aIs hs htr ho hy hx hle hob htot
     .cases hev
    .cases hev
   .cases hev
  .rename_i id tot idx off hx
   split at hev
   .rename_i hle
    split at hev
    .rename_i s es hob
     split at hev
     .rename_i htot
      split at hev
      .rename_i e he
       cases hev
       exact aFx hs htr ho hy hx hle hob htot he
      .cases hev
     .cases hev
    .cases hev
   .cases hev
  .cases hev
   exact aFv hs htr ho hy
 | loadF n k x=>
  simp only[cR] at hchk
  split at hchk
  .simp only[Zd] at hchk
   let⟨⟨h1,h2⟩,h4⟩:=hchk
   simp only[aO] at hev
   split at hev
   .rename_i cs hcs
    split at hev
    .rename_i id tot off len hk
     split at hev
     .rename_i hle
      split at hev
      .rename_i s es hob
       split at hev
       .rename_i htot
        cases hev
        exact aKt hs htr hop h4 h1 h2 hcs hk hle hob htot
       .cases hev
      .cases hev
     .cases hev
    .cases hev
     exact aBC hs htr hop h4 h1 h2 hcs<|by simp
    .cases hev
   .cases hev
  .cases hchk
 | pick x y z=>
  simp only[cR] at hchk
  split at hchk
  .simp only[Zd] at hchk
   simp only[aO] at hev
   split at hev
   .rename_i t ht
    simp only[Za,Zi] at hev
    let⟨rfl,rfl⟩:=hev
    exact aNr hs htr hop hchk.1.1 hchk.1.2 hchk.2 ht
   .cases hev
  .cases hchk
 | alloc z=>
  simp only[aO,Za,Zi] at hev
  let⟨rfl,rfl⟩:=hev
  simp only[cR] at hchk
  split at hchk
  .exact aK2 hs hfl hop hchk
  .cases hchk
 | claim s=>
  simp only[aO,Za,Zi] at hev
  let⟨rfl,rfl⟩:=hev
  simp only[cR] at hchk
  split at hchk
  .exact aD7 hs hfl<|.inl hop
  .exact aD7 hs hfl<|.inr hop
  .cases hchk
 | allocC z cl=>
  simp only[aO,Za,Zi] at hev
  let⟨rfl,rfl⟩:=hev
  simp only[cR] at hchk
  split at hchk
  .simp only[Zd] at hchk
   refine aIt hs hfl hop hchk.1 λx hx=>?_
   have:=Yl.1 hchk.2 x hx
   split at this
   .rename_i h;exact h
   .cases this
  .cases hchk
 | box x=>
  simp only[cR] at hchk
  split at hchk
  .simp only[aO] at hev
   split at hev
   .rename_i cs hcs
    simp only[Za,Zi] at hev
    let⟨rfl,rfl⟩:=hev
    exact aQz hs htr hfl hop hchk hcs
   .cases hev
  .cases hchk
 | boxC x cl=>
  simp only[cR] at hchk
  split at hchk
  .simp only[aO] at hev
   split at hev
   .rename_i cs hcs
    split at hev
    .rename_i hn
     simp only[Za,Zi] at hev
     let⟨rfl,rfl⟩:=hev
     exact aNx hs htr hfl hop hchk hcs hn
    .cases hev
   .cases hev
  .cases hchk
 | build z ps=>
  have hchk0:=hchk
  simp only[cR] at hchk
  split at hchk
  .simp only[Zd] at hchk
   simp only[aO] at hev
   split at hev
   .rename_i cs hcs
    simp only[Za,Zi] at hev
    let⟨rfl,rfl⟩:=hev
    exact aK1 hs htr hop hchk.1 hchk0 hcs
   .cases hev
  .cases hchk
 | buildSl pu s n z ps=>
  simp only[cR] at hchk
  split at hchk
  .rename_i t m qs
   simp only[Zd,ZC] at hchk
   let⟨rfl,hchk⟩:=hchk
   split at hchk
   .rename_i e hu
    simp only[Zd,ZC,Z4] at hchk
    let⟨⟨⟨⟨⟨h1,h2⟩,h3⟩,h4⟩,h5⟩,h6⟩:=hchk
    simp only[aO] at hev
    split at hev
    .rename_i es hes
     have key:=aFz (pu:=pu) hs htr hfl hop hu h1 h2 h3 h4 h5 h6 hes
     cases pu with
     | true=>
      simp only[Zz,Za,Zi] at hev
      let⟨rfl,rfl⟩:=hev
      simpa using key
     | false=>
      simp only[Zn,Z9,Za,Zi] at hev
      let⟨rfl,rfl⟩:=hev
      simpa using key
    .cases hev
   .cases hchk
  .cases hchk
 | load agg n x=>
  simp only[cR] at hchk
  split at hchk
  .simp only[Zd] at hchk
   let⟨⟨⟨h1,h2⟩,h3⟩,h4⟩:=hchk
   simp only[aO] at hev
   split at hev
   .rename_i cs hcs
    cases agg with
    | true=>
     simp only[Zz,Za,Zi] at hev
     let⟨rfl,rfl⟩:=hev
     exact aBC hs htr hop h4 h1 h2 hcs<|by simp
    | false=>
     simp only[Zn,Z9] at hev
     split at hev
     .simp only[Za,Zi] at hev
      let⟨rfl,rfl⟩:=hev
      exact aBC hs htr hop h4 h1 h2 hcs<|by simp
     .cases hev
   .cases hev
  .cases hchk
 | store n x u=>
  simp only[cR] at hchk
  split at hchk
  .simp only[Zd] at hchk
   let⟨⟨h1,h2⟩,h3⟩:=hchk
   simp only[aO] at hev
   split at hev
   .rename_i cs hcs
    split at hev
    .rename_i hn
     split at hev
     .rename_i H1 hst
      simp only[Za,Zi] at hev
      let⟨rfl,rfl⟩:=hev
      exact aKp hs htr hop h2 h3 h1 hcs hn hst
     .cases hev
    .cases hev
   .cases hev
  .cases hchk
 | nilCheck x=>
  simp only[cR] at hchk
  split at hchk
  .simp only[aO] at hev
   split at hev
   .rename_i id tot idx off hx
    simp only[Za,Zi] at hev
    let⟨rfl,rfl⟩:=hev
    exact Du hs htr hop hchk<|.inl ⟨_,_,_,_,hx⟩
   .rename_i cs hx
    simp only[Za,Zi] at hev
    let⟨rfl,rfl⟩:=hev
    exact Du hs htr hop hchk<|.inr<|.inl ⟨_,hx⟩
   .rename_i cs hx
    simp only[Za,Zi] at hev
    let⟨rfl,rfl⟩:=hev
    exact Du hs htr hop hchk<|.inr<|.inr<|.inl ⟨_,hx⟩
   .rename_i vi caps hx
    simp only[Za,Zi] at hev
    let⟨rfl,rfl⟩:=hev
    exact Du hs htr hop hchk<|.inr<|.inr<|.inr ⟨_,_,hx⟩
   .cases hev
  .cases hchk
 | ibin op x y=>
  simp only[cR] at hchk
  split at hchk
  .simp only[Zd,Z4] at hchk
   let⟨⟨rfl,h1⟩,h2⟩:=hchk
   simp only[aO] at hev
   split at hev
   .rename_i k n k' m e1 e2
    split at hev
    .rename_i hk
     subst hk
     split at hev
     .rename_i r hr
      simp only[Za,Zi] at hev
      let⟨rfl,rfl⟩:=hev
      exact aNu hs htr hop h1 h2 e1 e2 hr
     .cases hev
    .cases hev
   .cases hev
  .cases hchk
 | bin op t x y=>
  simp only[cR] at hchk
  split at hchk
  .simp only[Zd,Z4,ZC] at hchk
   let⟨⟨⟨rfl,rfl⟩,h1⟩,h2⟩:=hchk
   simp only[aO] at hev
   split at hev
   .rename_i v1 v2 e1 e2
    split at hev
    .rename_i g hg
     split at hev
     .rename_i r hr
      simp only[Za,Zi] at hev
      let⟨rfl,rfl⟩:=hev
      split at hg
      .rename_i hn
       exact aQ0 hs htr hop h1 h2 e1 e2 hn hg hr
      .cases hg
     .cases hev
    .cases hev
   .cases hev
  .cases hchk
 | un op x=>
  simp only[cR] at hchk
  split at hchk
  .simp only[Zd,Z4] at hchk
   let⟨rfl,h1⟩:=hchk
   simp only[aO] at hev
   split at hev
   .rename_i v1 e1
    split at hev
    .rename_i r hr
     simp only[Za,Zi] at hev
     let⟨rfl,rfl⟩:=hev
     exact aTb hs htr hop h1 e1 hr
    .cases hev
   .cases hev
  .cases hchk
 | conv s d x=>
  simp only[cR] at hchk
  split at hchk
  .simp only[Zd,ZC] at hchk
   let⟨⟨rfl,rfl⟩,h1⟩:=hchk
   simp only[aO] at hev
   split at hev
   .rename_i v1 e1
    split at hev
    .rename_i r hr
     simp only[Za,Zi] at hev
     let⟨rfl,rfl⟩:=hev
     exact aNw hs htr hop h1 e1 hr
    .cases hev
   .rename_i f es e1
    split at hev
    .rename_i hb
     split at hev
     .rename_i ns hns
      simp only[Za,Zi] at hev
      let⟨rfl,rfl⟩:=hev
      exact aKu hs htr hop h1 e1 hb hns
     .cases hev
    .cases hev
   .cases hev
  .cases hchk
 | fieldAddr off x=>
  simp only[cR] at hchk
  split at hchk
  .simp only[Zd] at hchk
   let⟨h1,hchk⟩:=hchk
   split at hchk
   .rename_i fs hu
    split at hchk
    .rename_i fd hf
     simp only[Zd,ZC] at hchk
     let⟨hof,hchk⟩:=hchk
     split at hchk
     .rename_i i hi
      have hsz:i.size≠0:=by simpa using hchk
      simp only[aO] at hev
      split at hev
      .rename_i id tot idx k hx
       simp only[Za,Zi] at hev
       let⟨rfl,rfl⟩:=hev
       exact Ku hs htr hop h1 hu hf hof hi hsz<|.inl ⟨_,_,_,_,hx,rfl⟩
      .rename_i cs hx
       simp only[Za,Zi] at hev
       let⟨rfl,rfl⟩:=hev
       exact Ku hs htr hop h1 hu hf hof hi hsz<|.inr ⟨_,.inl hx,rfl⟩
      .rename_i cs hx
       simp only[Za,Zi] at hev
       let⟨rfl,rfl⟩:=hev
       exact Ku hs htr hop h1 hu hf hof hi hsz<|.inr ⟨_,.inr hx,rfl⟩
      .cases hev
     .cases hchk
    .cases hchk
   .cases hchk
  .cases hchk
 | field agg n off x=>
  simp only[cR] at hchk
  split at hchk
  .simp only[Zd] at hchk
   let⟨h1,hchk⟩:=hchk
   split at hchk
   .rename_i fs hu
    split at hchk
    .rename_i fd hf
     simp only[Zd,ZC] at hchk
     let⟨⟨⟨hof,h2⟩,h3⟩,h4⟩:=hchk
     have h4':agg=true\/n=1:=by simpa using h4
     simp only[aO] at hev
     split at hev
     .rename_i cs hx
      split at hev
      .rename_i hle
       cases agg with
       | true=>
        simp only[Zz,Za,Zi] at hev
        let⟨rfl,rfl⟩:=hev
        exact aD6 hs htr hop h1 hu hf hof h2 h3 h4' hx hle<|by simp
       | false=>
        simp only[Zn,Z9] at hev
        split at hev
        .rename_i c0 hc0
         simp only[Za,Zi] at hev
         let⟨rfl,rfl⟩:=hev
         exact aD6 hs htr hop h1 hu hf hof h2 h3 h4' hx hle<|by simpa using hc0
        .cases hev
      .cases hev
     .cases hev
    .cases hchk
   .cases hchk
  .cases hchk
 | idxAddr s x i=>
  simp only[cR] at hchk
  split at hchk
  .simp only[Zd] at hchk
   let⟨⟨h1,h2⟩,hchk⟩:=hchk
   split at hchk
   .rename_i e hu
    simp only[aO] at hev
    split at hev
    .rename_i n hn
     split at hev
     .rename_i f es hx
      split at hev
      .rename_i cs hcs
       split at hev
       .rename_i hl
        simp only[Za,Zi] at hev
        let⟨rfl,rfl⟩:=hev
        exact FL hs htr hop h1 h2 hu hchk hn<|.inl ⟨_,_,_,hx,hcs,hl,rfl⟩
       .cases hev
      .cases hev
     .rename_i es hx
      split at hev
      .rename_i cs hcs
       split at hev
       .rename_i hl
        simp only[Za,Zi] at hev
        let⟨rfl,rfl⟩:=hev
        exact FL hs htr hop h1 h2 hu hchk hn<|.inr<|.inl ⟨_,_,hx,hcs,hl,rfl⟩
       .cases hev
      .cases hev
     .rename_i id tot off len hx
      split at hev
      .rename_i s' es hob
       split at hev
       .rename_i hc
        let⟨rfl,hc1,hc2⟩:=hc
        simp only[Za,Zi] at hev
        let⟨rfl,rfl⟩:=hev
        exact FL hs htr hop h1 h2 hu hchk hn<|.inr<|.inr ⟨_,_,_,_,_,hx,hob,hc1,hc2,rfl⟩
       .cases hev
      .cases hev
     .cases hev
    .cases hev
   .cases hchk
  .cases hchk
 | idxArr s n x i=>
  simp only[cR] at hchk
  split at hchk
  .simp only[Zd] at hchk
   let⟨⟨h1,h2⟩,hchk⟩:=hchk
   split at hchk
   .rename_i m e hu
    simp only[Zd,ZC] at hchk
    let⟨rfl,h3⟩:=hchk
    simp only[aO] at hev
    split at hev
    .rename_i k hn
     split at hev
     .rename_i hlt
      split at hev
      .rename_i id tot idx off hx
       simp only[Za,Zi] at hev
       let⟨rfl,rfl⟩:=hev
       exact aA2 hs htr hop h1 h2 hu h3 hn hlt<|.inl ⟨_,_,_,_,hx,rfl⟩
      .rename_i cs hx
       simp only[Za,Zi] at hev
       let⟨rfl,rfl⟩:=hev
       exact aA2 hs htr hop h1 h2 hu h3 hn hlt<|.inr ⟨_,hx,rfl⟩
      .cases hev
     .cases hev
    .cases hev
   .cases hchk
  .cases hchk
 | index agg s n x i=>
  simp only[cR] at hchk
  split at hchk
  .simp only[Zd] at hchk
   let⟨⟨h1,h2⟩,hchk⟩:=hchk
   split at hchk
   .rename_i m e hu
    simp only[Zd,ZC] at hchk
    let⟨⟨⟨rfl,h3⟩,h4⟩,h5⟩:=hchk
    have h5':agg=true\/s=1:=by simpa using h5
    simp only[aO] at hev
    split at hev
    .rename_i k hn
     split at hev
     .rename_i hlt
      split at hev
      .rename_i cs hx
       split at hev
       .rename_i hle
        cases agg with
        | true=>
         simp only[Zz,Za,Zi] at hev
         let⟨rfl,rfl⟩:=hev
         exact aD5 hs htr hop h1 h2 hu h3 h4 h5' hn hlt hx hle<|by simp
        | false=>
         simp only[Zn,Z9] at hev
         split at hev
         .rename_i c0 hc0
          simp only[Za,Zi] at hev
          let⟨rfl,rfl⟩:=hev
          exact aD5 hs htr hop h1 h2 hu h3 h4 h5' hn hlt hx hle<|by simpa using hc0
         .cases hev
       .cases hev
      .cases hev
     .cases hev
    .cases hev
   .cases hchk
  .cases hchk
 | strIdx t x i=>
  simp only[cR] at hchk
  split at hchk
  .simp only[Zd,ZC] at hchk
   let⟨⟨rfl,h1⟩,h2⟩:=hchk
   simp only[aO] at hev
   split at hev
   .rename_i v1 v2 e1 e2
    split at hev
    .rename_i r hr
     simp only[Za,Zi] at hev
     let⟨rfl,rfl⟩:=hev
     exact aIq hs htr hop h1 h2 e1 e2 hr
    .cases hev
   .cases hev
  .cases hchk
 | slice s x lo hi mx=>
  simp only[cR] at hchk
  split at hchk
  .simp only[Zd] at hchk
   let⟨⟨⟨⟨h1,h2⟩,h3⟩,h4⟩,hchk⟩:=hchk
   split at hchk
   .rename_i e hu
    simp only[aO] at hev
    split at hev
    .rename_i nlo nhi nmx n1 n2 n3
     split at hev
     .rename_i r hr
      simp only[Za,Zi] at hev
      let⟨rfl,rfl⟩:=hev
      exact aKq hs htr hop h1 h2 h3 h4 hu hchk n1 n2 n3 hr
     .cases hev
    .cases hev
   .cases hchk
  .cases hchk
 | strSlice t x lo hi=>
  simp only[cR] at hchk
  split at hchk
  .simp only[Zd,ZC] at hchk
   let⟨⟨⟨⟨rfl,h1⟩,h2⟩,h3⟩,hchk⟩:=hchk
   split at hchk
   .rename_i hu
    simp only[aO] at hev
    split at hev
    .rename_i s nlo nhi e1 n1 n2
     split at hev
     .rename_i hc
      simp only[Za,Zi] at hev
      let⟨rfl,rfl⟩:=hev
      exact aD3 hs htr hop h1 h2 h3 hu n1 n2 e1 hc
     .cases hev
    .cases hev
   .cases hchk
  .cases hchk
 | mkSlice s z bytes l k=>
  simp only[cR] at hchk
  split at hchk
  .simp only[Zd] at hchk
   let⟨⟨h1,h2⟩,hchk⟩:=hchk
   split at hchk
   .rename_i e hu
    simp only[Zd,Z4] at hchk
    let⟨⟨⟨h3,h4⟩,h5⟩,h6⟩:=hchk
    simp only[aO] at hev
    split at hev
    .rename_i nl nk e1 e2
     split at hev
     .rename_i hc
      simp only[Za,Zi] at hev
      let⟨rfl,rfl⟩:=hev
      exact aFw hs htr hfl hop h1 h2 hu h3 h4 h5 h6 e1 e2 hc.1 hc.2.1 hc.2.2.1 hc.2.2.2
     .cases hev
    .cases hev
   .cases hchk
  .cases hchk
 | mkMap=>
  simp only[aO,Za,Zi] at hev
  let⟨rfl,rfl⟩:=hev
  simp only[cR] at hchk
  split at hchk
  .exact aKr hs hfl hop
  .cases hchk
 | lookup kt z m k ok=>
  simp only[cR] at hchk
  split at hchk
  .simp only[Zd,ZC] at hchk
   obtain⟨⟨⟨rfl,h1⟩,h2⟩,hchk⟩:=hchk
   split at hchk
   .rename_i kt' e hu
    simp only[Zd,ZC] at hchk
    obtain⟨rfl,hchk⟩:=hchk
    split at hchk
    .rename_i i hi
     have hz:∃zv,i.zero=some zv/\RV (aK T) c (aH tm z) zv:=by
      split at hchk
      .rename_i u v hz
       exact⟨u,hz,by rw[<-aEV hchk];exact RV.lit _⟩
      .rename_i us vs hz
       refine⟨.agg us,hz,?_⟩
       have:us=vs.toArray:=by rw[w5 hchk]
       rw[this]
       exact VE vs<|Dh hchk
      .cases hchk
     let⟨zv,hz1,hz2⟩:=hz
     simp only[aO] at hev
     split at hev
     .rename_i kv hk
      have fin:∀ents:List<|Value×AV,((aH tm m=.lit (.map none)/\ents=[])\/(∃id,aH tm m=.mp id/\c.H[id]?=some (.mp ents))\/aH tm m=.rmp ents)->
       (match aQ P<|Instr.checkKey ents.isEmpty 10000 kt kv,kQ P kt kv ents with
        | some _,some (some i)=>match ents[i]? with
         | some e=>some (if ok then AV.tup [e.2,.lit<|.bool true] else e.2,c.H)
         | none=>none
        | some _,some none=>some (if ok then AV.tup [aH tm z,.lit<|.bool false] else aH tm z,c.H)
        | _,_=>none)=some (v,H')->dM P (aK T) c fl o a v H':=by
       intro ents hm hr
       split at hr
       .rename_i u i0 hck hf
        split at hr
        .rename_i en hen
         simp only[Za,Zi] at hr
         let⟨rfl,rfl⟩:=hr
         exact aA1 hs htr hop h1 h2 hu hi hz1 hz2 hk hck hm<|.inl ⟨_,_,hf,hen,rfl,rfl⟩
        .cases hr
       .rename_i u hck hf
        simp only[Za,Zi] at hr
        let⟨rfl,rfl⟩:=hr
        exact aA1 hs htr hop h1 h2 hu hi hz1 hz2 hk hck hm<|.inr ⟨hf,rfl,rfl⟩
       .cases hr
      split at hev
      .rename_i hm
       exact fin [] (.inl ⟨hm,rfl⟩) hev
      .rename_i id hm
       split at hev
       .rename_i ents hob
        exact fin ents (.inr<|.inl ⟨id,hm,hob⟩) hev
       .cases hev
      .rename_i ents hm
       exact fin ents (.inr<|.inr hm) hev
      .cases hev
     .cases hev
    .cases hchk
   .cases hchk
  .cases hchk
 | mapUpd kt m k x=>
  have fin:∀(t:TypeId) (m' k' x':Operand) (e:TypeId),(o.op=.mapUpdate t m' k' x'\/o.op=.insert t m' k' x')->aS T m m'=true->aS T k k'=true->aS T x x'=true->
   P.underlying t=some (.map kt e)->dM P (aK T) c fl o a v H':=by
   intro t m' k' x' e ho h1 h2 h3 hu
   simp only[aO] at hev
   split at hev
   .rename_i kv id hk hm
    split at hev
    .rename_i hflid
     split at hev
     .rename_i ents hob
      split at hev
      .rename_i u i0 hck hf
       split at hev
       .rename_i en hen
        split at hev
        .rename_i hsb
         simp only[Za,Zi] at hev
         let⟨rfl,rfl⟩:=hev
         exact aA0 hs htr ho h1 h2 h3 hu hk hck hflid hm hob<|.inl ⟨_,_,hf,hen,hsb,rfl⟩
        .cases hev
       .cases hev
      .rename_i u hck hf
       simp only[Za,Zi] at hev
       let⟨rfl,rfl⟩:=hev
       exact aA0 hs htr ho h1 h2 h3 hu hk hck hflid hm hob<|.inr ⟨hf,rfl⟩
      .cases hev
     .cases hev
    .cases hev
   .cases hev
  simp only[cR] at hchk
  split at hchk
  .simp only[Zd] at hchk
   let⟨⟨⟨h1,h2⟩,h3⟩,hchk⟩:=hchk
   split at hchk
   .rename_i kt' e hu
    have:kt=kt':=by simpa using hchk
    subst this
    exact fin _ _ _ _ e (.inl hop) h1 h2 h3 hu
   .cases hchk
  .simp only[Zd] at hchk
   let⟨⟨⟨h1,h2⟩,h3⟩,hchk⟩:=hchk
   split at hchk
   .rename_i kt' e hu
    have:kt=kt':=by simpa using hchk
    subst this
    exact fin _ _ _ _ e (.inr hop) h1 h2 h3 hu
   .cases hchk
  .cases hchk
 | lenS x=>
  simp only[cR] at hchk
  split at hchk
  .rename_i as ts
   split at hchk
   .rename_i y t ha ht
    simp only[Zd] at hchk
    let⟨h1,hchk⟩:=hchk
    split at hchk
    .rename_i e hu
     rw[jL ha,jL ht] at hop
     simp only[aO] at hev
     split at hev
     .rename_i hx
      simp only[Za,Zi] at hev
      let⟨rfl,rfl⟩:=hev
      exact y5 (n:=0) hs htr hop h1 hu<|.inl ⟨hx,rfl⟩
     .rename_i f es hx
      simp only[Za,Zi] at hev
      let⟨rfl,rfl⟩:=hev
      exact y5 hs htr hop h1 hu<|.inr<|.inl ⟨_,_,hx,rfl⟩
     .rename_i es hx
      simp only[Za,Zi] at hev
      let⟨rfl,rfl⟩:=hev
      exact y5 hs htr hop h1 hu<|.inr<|.inr<|.inr ⟨_,hx,rfl⟩
     .rename_i id tot off len hx
      simp only[Za,Zi] at hev
      let⟨rfl,rfl⟩:=hev
      exact y5 hs htr hop h1 hu<|.inr<|.inr<|.inl ⟨_,_,_,hx⟩
     .cases hev
    .cases hchk
   .cases hchk
  .cases hchk
 | lenM x=>
  simp only[cR] at hchk
  split at hchk
  .rename_i as ts
   split at hchk
   .rename_i y t ha ht
    simp only[Zd] at hchk
    let⟨h1,hchk⟩:=hchk
    split at hchk
    .rename_i k e hu
     rw[jL ha,jL ht] at hop
     simp only[aO] at hev
     split at hev
     .rename_i hx
      simp only[Za,Zi] at hev
      let⟨rfl,rfl⟩:=hev
      exact aBD (n:=0) hs htr hop h1 hu<|.inl ⟨hx,rfl⟩
     .rename_i id hx
      split at hev
      .rename_i ents hob
       simp only[Za,Zi] at hev
       let⟨rfl,rfl⟩:=hev
       exact aBD hs htr hop h1 hu<|.inr<|.inl ⟨_,_,hx,hob,rfl⟩
      .cases hev
     .rename_i ents hx
      simp only[Za,Zi] at hev
      let⟨rfl,rfl⟩:=hev
      exact aBD hs htr hop h1 hu<|.inr<|.inr ⟨_,hx,rfl⟩
     .cases hev
    .cases hchk
   .cases hchk
  .cases hchk
 | lenStr t x=>
  simp only[cR] at hchk
  split at hchk
  .rename_i as ts
   split at hchk
   .rename_i y t' ha ht
    simp only[Zd,ZC] at hchk
    let⟨rfl,h1⟩:=hchk
    rw[jL ha,jL ht] at hop
    simp only[aO] at hev
    split at hev
    .rename_i v1 hx
     split at hev
     .rename_i r hr
      simp only[Za,Zi] at hev
      let⟨rfl,rfl⟩:=hev
      exact aIr hs htr hop h1 hx hr
     .cases hev
    .cases hev
   .cases hchk
  .cases hchk
 | lenC n=>
  simp only[aO,Za,Zi] at hev
  let⟨rfl,rfl⟩:=hev
  simp only[cR] at hchk
  split at hchk
  .rename_i as ts
   split at hchk
   .rename_i y t ha ht
    split at hchk
    .rename_i m e hu
     have:m=n:=by simpa using hchk
     subst this
     rw[jL ha,jL ht] at hop
     exact aNt hs hop hu
    .cases hchk
   .cases hchk
  .cases hchk
 | append s bytes x y=>
  simp only[cR] at hchk
  split at hchk
  .rename_i as ts
   split at hchk
   .rename_i x' y' t t' ha ht
    simp only[Zd] at hchk
    let⟨⟨⟨h1,h2⟩,h3⟩,hchk⟩:=hchk
    split at h3
    .rename_i e' hu'
     split at hchk
     .rename_i e hu
      simp only[Zd] at hchk
      let⟨⟨h4,h5⟩,hchk⟩:=hchk
      split at hchk
      .rename_i i hi
       split at hchk
       .rename_i z hz
        have hzs:z.cells.size=s:=by simpa using hchk
        have hsz:i.size=s:=by simpa [dO,hi] using h4
        have hby:i.bytes=bytes:=by simpa [uY,hi] using h5
        rw[pZ ha,pZ ht] at hop
        simp only[aO] at hev
        split at hev
        .rename_i ys hys
         exact RD hs htr hfl hop h1 h2 hu hu' hi hsz hby hz hzs hys hev
        .cases hev
       .cases hchk
      .cases hchk
     .cases hchk
    .cases h3
   .cases hchk
  .cases hchk
 | appendP s bytes x y=>
  simp only[cR] at hchk
  split at hchk
  .rename_i as ts
   split at hchk
   .rename_i x' y' t t' ha ht
    simp only[Zd] at hchk
    let⟨⟨⟨h1,h2⟩,h3⟩,hchk⟩:=hchk
    split at h3
    .rename_i e' hu'
     split at hchk
     .rename_i e hu
      simp only[Zd] at hchk
      let⟨⟨h4,h5⟩,hchk⟩:=hchk
      split at hchk
      .rename_i i hi
       split at hchk
       .rename_i z hz
        have hzs:z.cells.size=s:=by simpa using hchk
        have hsz:i.size=s:=by simpa [dO,hi] using h4
        have hby:i.bytes=bytes:=by simpa [uY,hi] using h5
        rw[pZ ha,pZ ht] at hop
        simp only[aO] at hev
        split at hev
        .rename_i r hr
         cases hev
         exact aF1 hs htr hop h1 h2 hu hu' hi hsz hby hz hzs hr
        .cases hev
       .cases hchk
      .cases hchk
     .cases hchk
    .cases h3
   .cases hchk
  .cases hchk
 | appendZ s bytes z x y=>
  simp only[cR] at hchk
  split at hchk
  .rename_i as ts
   split at hchk
   .rename_i x' y' t t' ha ht
    simp only[Zd] at hchk
    let⟨⟨⟨h1,h2⟩,h3⟩,hchk⟩:=hchk
    split at h3
    .rename_i k hu'
     split at hchk
     .rename_i e hu
      simp only[Zd] at hchk
      let⟨⟨h4,h5⟩,h6⟩:=hchk
      rw[pZ ha,pZ ht] at hop
      simp only[aO] at hev
      split at hev
      .rename_i n hn
       split at hev
       .rename_i hc
        exact aF0 hs htr hfl hop h1 h2 hu hu' h4 h5 h6 hc.1 hn hc.2.1 hc.2.2 hev
       .cases hev
      .cases hev
     .cases hchk
    .cases h3
   .cases hchk
  .cases hchk
 | copy s x y=>
  simp only[cR] at hchk
  split at hchk
  .rename_i as ts
   split at hchk
   .rename_i x' y' t t' ha ht
    simp only[Zd] at hchk
    let⟨⟨h1,h2⟩,hchk⟩:=hchk
    split at hchk
    .rename_i e hu
     let⟨i,hi,hsz⟩:=eJ hchk
     rw[pZ ha,pZ ht] at hop
     simp only[aO] at hev
     split at hev
     .rename_i ys hrd
      split at hev
      .rename_i hal
       split at hev
       .rename_i id tot off len hx
        split at hev
        .rename_i s' es hob
         split at hev
         .rename_i hc
          let⟨rfl,c2,c3,c4⟩:=hc
          exact aNv hs htr hop h1 h2 hu hi hsz hrd hal.1 hal.2 hx hob c2 c3 c4 hev
         .cases hev
        .cases hev
       .cases hev
      .cases hev
     .cases hev
    .cases hchk
   .cases hchk
  .cases hchk
 | clear s z x=>
  simp only[cR] at hchk
  split at hchk
  .rename_i as ts
   split at hchk
   .rename_i x' t ha ht
    simp only[Zd] at hchk
    let⟨h1,hchk⟩:=hchk
    split at hchk
    .rename_i e hu
     simp only[Zd] at hchk
     rw[jL ha,jL ht] at hop
     refine aKv hs htr hop h1 hu hchk.1 hchk.2 ?_
     simp only[aO] at hev
     split at hev
     .rename_i hx
      cases hev
      exact .inl ⟨hx,rfl,rfl⟩
     .rename_i f hx
      cases hev
      exact .inr<|.inl ⟨f,hx,rfl,rfl⟩
     .rename_i id tot off len hx
      split at hev
      .rename_i s' es hob
       split at hev
       .rename_i hc
        let⟨rfl,c2,c3,c4,c5,c6⟩:=hc
        exact .inr<|.inr ⟨id,tot,off,len,es,hx,hob,c2,c3,c4,c5,c6,hev⟩
       .cases hev
      .cases hev
     .cases hev
    .cases hchk
   .cases hchk
  .cases hchk
 | delete kt m k=>
  simp only[cR] at hchk
  split at hchk
  .rename_i as ts
   split at hchk
   .rename_i m' k' t ts' ha ht
    simp only[Zd] at hchk
    let⟨⟨h1,h2⟩,hchk⟩:=hchk
    split at hchk
    .rename_i kt' e hu
     have:kt=kt':=by simpa using hchk
     subst this
     have ht0:ts[0]?=some t:=by rw[<-Z8,ht];rfl
     rw[pZ ha] at hop
     simp only[aO] at hev
     split at hev
     .rename_i kv id hk hm
      split at hev
      .rename_i hflid
       split at hev
       .rename_i ents hob
        split at hev
        .rename_i u i0 hck hf
         simp only[Za,Zi] at hev
         let⟨rfl,rfl⟩:=hev
         exact aA3 hs htr hop ht0 h1 h2 hu hk hck hflid hm hob<|.inl ⟨_,hf,rfl⟩
        .rename_i u hck hf
         simp only[Za,Zi] at hev
         let⟨rfl,rfl⟩:=hev
         have key:=aA3 hs htr hop ht0 h1 h2 hu hk hck hflid hm hob<|.inr ⟨hf,rfl⟩
         have e0:c.H.set id (.mp ents)=c.H:=by
          apply Ym
          intro j
          by_cases hj:j=id
          .subst hj;rw[getElem?_set_eq' hob,hob]
          .rw[getElem?_set_ne' hj]
         rw[e0] at key
         exact key
        .cases hev
       .cases hev
      .cases hev
     .cases hev
    .cases hchk
   .cases hchk
  .cases hchk
 | minmax mx xs=>
  simp only[aO] at hev
  split at hev
  .rename_i vs hvs
   split at hev
   .rename_i r hr
    simp only[Za,Zi] at hev
    let⟨rfl,rfl⟩:=hev
    simp only[cR] at hchk
    split at hchk
    .simp only[Zd] at hchk
     obtain⟨rfl,h1⟩:=hchk
     exact aAz hs htr hop (.inl rfl) h1 hvs<|by simpa using hr
    .simp only[Zd,YG] at hchk
     obtain⟨rfl,h1⟩:=hchk
     exact aAz hs htr hop (.inr rfl) h1 hvs<|by simpa using hr
    .cases hchk
   .cases hev
  .cases hev
 | mkFn vi caps=>
  simp only[aO,Za,Zi] at hev
  let⟨rfl,rfl⟩:=hev
  simp only[cR] at hchk
  split at hchk
  .rename_i f first cs
   simp only[Zd,ZC] at hchk
   let⟨⟨h1,h2⟩,h3⟩:=hchk
   have:first=#[]:=by simpa using h1
   subst this
   exact aNs hs htr hop h2 h3
  .cases hchk
 | call pu vi args=>
  simp only[cR] at hchk
  split at hchk
  .simp only[Zd,ZC] at hchk
   simp only[aO] at hev
   exact aGX hcf hfn hs htr hfl hop hchk.1 hchk.2 hev
  .cases hchk
 | callS vi args=>
  simp only[cR] at hchk
  split at hchk
  .simp only[Zd,ZC] at hchk
   simp only[aO] at hev
   split at hev
   .rename_i r H1 he
    split at hev
    .rename_i hr
     cases hev
     exact aKy hcf hfn hs htr hop hchk.1 hchk.2 he hr
    .cases hev
   .cases hev
  .cases hchk
 | callF vi args=>
  simp only[cR] at hchk
  split at hchk
  .simp only[Zd,ZC] at hchk
   simp only[aO] at hev
   exact aKz hcf hfn hs htr hfl hop hchk.1 hchk.2 hev
  .cases hchk
 | callB vi args=>
  simp only[cR] at hchk
  split at hchk
  .simp only[Zd,ZC] at hchk
   simp only[aO] at hev
   split at hev
   .rename_i r H1 he
    cases hev
    exact aK0 hcf hfn hs htr hop hchk.1 hchk.2 he
   .cases hev
  .cases hchk
 | callT s vi args=>
  simp only[cR] at hchk
  split at hchk
  .simp only[Zd,ZC] at hchk
   simp only[aO] at hev
   exact aKx hcf hfn hs htr hfl hop hchk.1 hchk.2 hev
  .cases hchk
 | capS x=>
  simp only[cR] at hchk
  split at hchk
  .rename_i as ts
   split at hchk
   .rename_i y t ha ht
    simp only[Zd] at hchk
    let⟨h1,hchk⟩:=hchk
    split at hchk
    .rename_i e hu
     rw[jL ha,jL ht] at hop
     simp only[aO] at hev
     split at hev
     .rename_i hx
      simp only[Za,Zi] at hev
      let⟨rfl,rfl⟩:=hev
      exact aGW (n:=0) hs htr hop h1 hu<|.inl ⟨hx,rfl⟩
     .rename_i es hx
      simp only[Za,Zi] at hev
      let⟨rfl,rfl⟩:=hev
      exact aGW hs htr hop h1 hu<|.inr ⟨_,hx,rfl⟩
     .cases hev
    .cases hchk
   .cases hchk
  .cases hchk
 | callv pu x args=>
  simp only[cR] at hchk
  split at hchk
  .simp only[Zd] at hchk
   simp only[aO] at hev
   split at hev
   .rename_i vi caps hx
    exact aKw hcf hfn hs htr hfl hop hchk.1 hx hchk.2 hev
   .cases hev
  .cases hchk
 | extract x i=>
  simp only[cR] at hchk
  split at hchk
  .simp only[Zd,ZC] at hchk
   let⟨rfl,h1⟩:=hchk
   simp only[aO] at hev
   split at hev
   .rename_i vs hx
    split at hev
    .rename_i u hu
     simp only[Za,Zi] at hev
     let⟨rfl,rfl⟩:=hev
     exact aFy hs htr hop h1 hx hu
    .cases hev
   .cases hev
  .cases hchk
end
end
end Go.Proofs.YtmlgedgcbfchjaaGreatDoor.Av
