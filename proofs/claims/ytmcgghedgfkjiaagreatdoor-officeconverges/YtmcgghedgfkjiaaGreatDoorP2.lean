/- A part of the proof of a law. -/
import Derived.Test.YtmcgghedgfkjiaaGreatDoorP1
import Derived.IntWalk
import Derived.Laws.BytesString
set_option maxRecDepth 100000
set_option maxHeartbeats 4000000
set_option linter.all false
namespace Go.Proofs.YtmcgghedgfkjiaaGreatDoor.Av
open Go
section
variable {I:Nat->Prop}{P:Program}{T:List cS}{a:Act}{ad:Option Addr}{c:dA}{cap:Nat}{d:Option Nat}{e:TypeId}{es:List<|List AV}{f:Bool}{fl h i j l len m:Nat}{mx:Option Nat}{n:Nat}{o:Oper}{s:Nat}{t:TypeId}{tm:List AV}{v:Value}{vmx:Option Value}{w:World}{x:AV}{z:List Value}
section
theorem v9[aF]{FT:Nat->Option Nat}(h:RV FT c x v): RP c.w (lE c) (Fk x) v:=by
 cases h with
 | pure _ _ l=>
  have:=aBY l;cases l with
  | undef v=>exact .undef v
  | lit v=>exact this
  | nil f a' cap A=>exact this
  | sl f es b off cap cc T o s a e i g j m q z y=>exact this
  | sptr cs b off cc T o a e i g j=>exact .sptr cs b off cc T o a e i g j
  | rmp d b es k a e i g j m q=>exact .rmp d b es k a e i g j m q
 | _=>exact .undef _
theorem jO[aF]{f:AV->AV}(h:bM (es.map λe=>e.map f) i j=some x): ∃y,bM es i j=some y/\x=f y:=by
 let⟨d,a,b⟩:=cZ h;simp only[Zk,Zq] at a;obtain⟨e,he,rfl⟩:=a;simp only[Zk,Zq] at b;obtain⟨y,c,rfl⟩:=b;exact⟨y,by simp[bM,he,c],rfl⟩
theorem Cc[aF](k:bX (aJ T) c)(F:fl<=c.H.length){cv:Array Value}{w':World}(pu:Bool)(q:es.length=n)(l:n<=cap)(K:pu=true->cap=n)(f:w'.heap=c.w.heap.push (.cells cv t (0,0)))(B:w'.os=c.w.os)(z:w'.tape=c.w.tape)(A:w'.output=c.w.output)(M:(execOp a.eval o).run P c.w=.ok (.value<|.slice (some ⟨c.w.heap.size,0,none⟩) n cap) w')(m:cv.size=cap*s)(L:∀e∈es,e.length=s)(D:∀i j x,bM es i j=some x->∃v,cv[i*s+j]?=some v/\bF v=true/\RV (aJ T) c x v)(V:c.w.drawn<=w'.drawn:=by first | exact Zf _ | exact Ys _ | exact ZY _ _ | assumption):
 dJ P (aJ T) c fl o a (if pu then .sl true (es.map λe=>e.map Fk) else .ms c.H.length n 0 n)<|if pu then c.H else c.H++[.blk s es]:=by
 cases pu with
 | true=>
  have u:=K rfl;subst u;simp only[Zz];have r:=aAr (fl:=fl) k f B z A;refine eO (β':=c.β) M r (aKI k f B z A)<|.pure _ _ ?_;have p:lE ⟨w',c.X,c.β,c.H⟩ c.w.heap.size:=⟨k.fresh _<|Zf _,λid C=>by have:=k.lt C;omega⟩;by_cases he:es=[]
  .subst he;simp only[Z1] at q;subst q;exact .nil true _ 0 λ_=>rfl
  .have d:(es.map λe=>e.map Fk).length=cap:=by simpa using q
   have:=RP.sl (w:=w') (I:=lE ⟨w',c.X,c.β,c.H⟩) true (es.map λe=>e.map Fk) c.w.heap.size 0 cap cv t (0,0) s (λi j=>(cv[i*s+j]?).getD bQ) (by simpa using he) p
    (by simp[f]) (λe he=>by simp only[Yh] at he;obtain⟨U,S,rfl⟩:=he;simpa using L U S) (by omega) (λ_=>d.symm)
    (λi j x J=>by
     obtain⟨y,G,rfl⟩:=jO J;let⟨v,E,Q,N⟩:=D i j y G;simp[E,Q])
    (λi j x J=>by
     obtain⟨y,G,rfl⟩:=jO J;let⟨v,E,Q,N⟩:=D i j y G;simp only[E,Yp];exact v9<|N.step r)
   rw[d] at this;exact this
 | false=>
  simp only[Zn,Z9];refine eO (β':=upd c.β c.H.length c.w.heap.size) M (Oi F f B z A λid b R=>k.lt R)
   (j7 k f B z A ?_ ?_ ?_ λ_ h=>by cases h) ?_
  .intro s' es' he;cases he;exact L
  .intro s' es' he;cases he;exact⟨cv,t,rfl,by rw[m,q];exact Zr s l,D⟩
  .intro O he;cases he
  .refine .ms _ n 0 n _ cap s n (by simp[shp,q]) (Zf _) l λ_=>⟨by omega,.inr ⟨c.w.heap.size,cv,t,⟨c.w.heap.size,0,none⟩,dF _ _ _,by simp[f],by simp[m],rfl,λ_=>by simp⟩⟩
theorem aGn[aF](K:bX (aJ T) c)(N:TR (aJ T) c tm a.tmps)(p:fl<=c.H.length){pu:Bool}{D:List<|Nat×bB}{d:Array<|Nat×Operand}(R:o.op=.buildSlice t n d)(S:P.underlying t=some (.slice e))(J:dK P e s=true)(V:lR P e z=true)(E:z.length=s)(F:0<s)(Z:n*s<=2 ^ 24)(W:Si T D d.toList=true)(X:Ri s (List.replicate n<|z.map .lit) (D.map λ(i,x)=>(i,aG tm x))=some es):
 dJ P (aJ T) c fl o a (if pu then .sl true (es.map λe=>e.map Fk) else .ms c.H.length n 0 n)<|if pu then c.H else c.H++[.blk s es]:=by
 let⟨i,L,b⟩:=eL J;let⟨i',v,k,hv,G,M⟩:=gM V;rw[L] at k;cases k;have C:v.cells.toList=z:=by rw[G]
 have q:=Kh (FT:=aJ T) (c:=c) (n:=n) (m:=n) E M C<|Zf _;have y:aIQ (aJ T) c s (List.replicate n<|z.map AV.lit)<|(Array.range<|n*s).map (v.cells[· % v.cells.size]!):=⟨by simp,q.1,q.2⟩;let⟨hl,r,Q,A⟩:=aEE K N D d.toList _ es _ W y X;have g:es.length=n:=by simpa using hl
 have I:(d.map λ(i,x)=>(i,a.eval x)).toList=d.toList.map λ(i,x)=>(i,a.eval x):=by simp
 by_cases l:n=0
 .subst l;have he:es=[]:=YO g;subst he;have U:r=#[]:=Wl (by simpa using A.1);subst U;refine Cc K p pu (cap:=0) (cv:=#[]) (t:=e) (w':=c.w.alloc<|.cells #[] e (0,0)) rfl (Zf _) (λ_=>rfl) rfl rfl rfl rfl ?_ (by simp) (by simp) (λi j x Y=>by simp[bM] at Y);have O:Array.range 0=#[]:=rfl;have B:Instr.fill (λi=>some (i*s,s)) #[] (d.toList.map λx=>(x.fst,a.eval x.snd))=some #[]:=by simpa [O] using Q
  simp[execOp,R,Instr.buildSlice,Zm S,sizeOf,typeInfo,L,b,B,newRow,O]
 .refine Cc K p pu (cap:=n) (cv:=r) (t:=e) (w':=c.w.alloc<|.cells r e (0,0)) g (Zf _) (λ_=>rfl) rfl rfl rfl rfl ?_ (by rw[A.1,g]) A.2.1 A.2.2;have u:=run_buildSlice (P:=P) c.w t e n (d.map λ(i,x)=>(i,a.eval x)) r i v S L hv (by rw[b];omega)
   (by rw[b];exact Nat.ne_of_gt<|Nat.mul_pos (WY l) F)<|by rw[I,b];exact Q
  simp only[execOp,R,YW,u,YK,Y4]
theorem Jo(h:n<=2 ^ 40): IntKind.i64.wrap (n:Int)=n:=by
 exact IntWalk.i64_in _<|by omega
theorem aGk[aF](K:bX (aJ T) c)(p:TR (aJ T) c tm a.tmps)(M:fl<=c.H.length){bytes k:Nat}{x y:bB}{Q R:Operand}(ho:o.op=.makeSlice t Q R)(h1:aP T x Q=true)(h2:aP T y R=true)(V:P.underlying t=some (.slice e))(I:dK P e s=true)(E:tS P e bytes=true)(U:lR P e z=true)(F:0<s)(Y:iC (aG tm x)=some l)(hk:iC (aG tm y)=some k)(f:l<=k)(O:k*bytes<=2 ^ 40)(q:k<=2 ^ 40)(A:z.length=s):
 dJ P (aJ T) c fl o a (.ms c.H.length l 0 l)<|c.H++[.blk s<|List.replicate l<|z.map .lit]:=by
 let⟨i,h,r⟩:=eL I;let⟨i',v,g,hv,G,N⟩:=gM U;rw[h] at g;cases g;have J:v.cells.toList=z:=by rw[G]
 have b:i.bytes=bytes:=by simpa [tS,h] using E
 let⟨k1,X⟩:=sM (aX K p h1) Y;let⟨k2,e2⟩:=sM (aX K p h2) hk;let⟨p1,p2⟩:=Kh (FT:=aJ T) (c:=c) (n:=l) (m:=k) A N J f;have:=Cc (P:=P) (o:=o) (a:=a) K M false (cap:=k) (cv:=(Array.range<|k*s).map (v.cells[· % v.cells.size]!)) (t:=e) (es:=List.replicate l<|z.map AV.lit)
  (w':=c.w.alloc<|.cells ((Array.range<|k*s).map (v.cells[· % v.cells.size]!)) e (0,0)) (n:=l) (s:=s) (by simp) f (by simp) rfl rfl rfl rfl ?_ (by simp) p1 p2
 .simpa using this
 .have S:=Jo (n:=l) (by omega);have Z:=Jo (n:=k) q;have C:¬(281474976710656:Int)<(bytes:Int)*(k:Int):=by
   rw[<-Wp,YN];omega
  have u:¬(k:Int)<(l:Int):=by omega
  have L:¬(l:Int)<0:=by omega
  have B:¬(k:Int)<0:=by omega
  simp[L,B,execOp,ho,Instr.makeSlice,Zm V,asInt,asIntOf,X,e2,typeInfo,h,b,S,Z,C,u];by_cases j:k=0
  .subst j;have W:Array.range 0=#[]:=rfl;simp[sizeOf,typeInfo,h,r,W,newRow]
  .simp[sizeOf,typeInfo,h,r,zeroValue,hv,newRow];intro h0;have:=Nat.mul_pos (WY j) F;omega
def aGZ(v:Option Value)(n:Option Nat): Prop:=(v=none/\n=none)\/∃k m,v=some (.int k (m:Nat))/\n=some m
theorem yX[aF](e:bX (aJ T) c)(d:TR (aJ T) c tm a.tmps){x:Option bB}{y:Option Operand}{n:Option Nat}(h:vJ T x y=true)(b:eC tm x=some n): aGZ (y.map a.eval) n:=by
 unfold vJ at h;split at h
 .simp only[eC,Za] at b;subst b;exact .inl ⟨rfl,rfl⟩
 .rename_i x y;simp only[eC] at b;split at b
  .rename_i m f;cases b;let⟨k,g⟩:=sM (aX e d h) f;exact .inr ⟨k,m,by simp[g],rfl⟩
  .cases b
 .cases h
theorem w9{k:IntKind}{y:Nat}{b:BoundsCode}(h:m<=y)(w:World): (Instr.sliceBound (.int k (m:Nat)) y b).run P w=.ok m w:=by
 have c:(m:Int)<=(y:Int):=by omega
 simp[Instr.sliceBound,asIntOf,c]
theorem Lz[aF]{isS:Bool}{c b:Option Value}{e:Option Nat}(i:aGZ c e)(j:aGZ b d)(k:aGZ vmx mx)(h:mx.getD cap<=cap)(g:d.getD len<=mx.getD cap)(f:e.getD 0<=d.getD len)(l:mx.isSome=true->d.isSome=true)(w:World):
 (Instr.sliceBounds isS len cap c b vmx).run P w=.ok (e.getD 0,d.getD len,mx.getD cap) w:=by
 unfold Instr.sliceBounds;rcases k with⟨rfl,rfl⟩ | ⟨o,p,rfl,rfl⟩<;>rcases j with⟨rfl,rfl⟩ | ⟨m,n,rfl,rfl⟩<;>rcases i with⟨rfl,rfl⟩ | ⟨q,r,rfl,rfl⟩<;>simp at h g f l |- <;>
  simp[w9,h,g,f]
theorem lH[aF]{c f:Option Value}{b:Option Nat}(m:P.underlying t=some (.slice e))(j:dK P e s=true)(q:aGZ c b)(o:aGZ f d)(l:aGZ vmx mx)(p:mx.getD cap<=cap)(n:d.getD len<=mx.getD cap)(k:b.getD 0<=d.getD len)(r:mx.isSome=true->d.isSome=true)(w:World):
 (Instr.sliceAt t (.slice ad len cap) c f vmx).run P w =
  .ok (.slice (if mx.getD cap=b.getD 0 then ad else ad.map (·.add<|b.getD 0*s)) (d.getD len-b.getD 0)<|mx.getD cap-b.getD 0) w:=by
 let⟨i,g,h⟩:=eL j;simp[Instr.sliceAt,Instr.slice,Zm m,Lz q o l p n k r,sizeOf,typeInfo,g,h]
theorem aG0{s':Nat}(h:lO s es=true)(b:∀e∈es,e.length=s')(a:es≠[]): s'=s:=by
 cases es with
 | nil=>exact (a rfl).elim
 | cons e r=>
  simp only[lO,ZC] at h;rw[<-b e<|by simp,h]
theorem aBh[aF](c:bM ((es.take h).drop l) i j=some x): bM es (l+i) j=some x:=by
 let⟨e,a,b⟩:=cZ c;rw[Zw,Zs] at a;split at a
 .simp[bM,a,b]
 .cases a
theorem aKX[aF]{g:Bool}(r:RP w I (.sl f es)<|.slice ad len cap)(y:lO s es=true)(C:l<=h)(B:h<=m)(n:h<=es.length)(q:g=true->m=h):
 RP w I (.sl g<|(es.take h).drop l)<|.slice (if m=l then ad else ad.map (·.add<|l*s)) (h-l)<|m-l:=by
 by_cases he:h=l
 .subst he;have:(es.take h).drop h=[]:=WD (by simp;omega);rw[this,XR];exact .nil g _ _ λe=>by have:=q e;omega
 .cases r with
  | nil=>simp at n;omega
  | sl _ _ b off _ cc T D s' d v A t p F E z u=>
   have es':s'=s:=aG0 y p v;subst es';have a:((es.take h).drop l).length=h-l:=by simp;omega
   rw[ZF<|by omega,<-a];simp only[Yz,fK];refine .sl g _ b (off+l*s') (m-l) cc T D s' (λi j=>d (l+i) j) ?_ A t ?_ (by omega) (λe=>by have:=q e;omega) ?_ ?_
   .intro e;rw[e] at a;simp at a;omega
   .intro e k;exact p e<|Z7<|ZZ k
   .intro i j x o;have:=z _ _ x<|aBh o;rwa [show off+((l+i)*s'+j)=off+l*s'+(i*s'+j) by rw[ZA];omega] at this
   .intro i j x o;exact u _ _ x<|aBh o
theorem aFP(c:RP w I (.sl f es) v): ∃ad cap,v=.slice ad es.length cap/\es.length<=cap/\(f=true->cap=es.length):=by
 cases c with
 | nil _ ad cap d=>exact⟨ad,cap,rfl,ZG _,d⟩
 | sl _ _ b off cap cc T l s' a h m k i g e n j=>exact⟨_,cap,rfl,g,e⟩
theorem aLt[aF](D:bX (aJ T) c)(N:TR (aJ T) c tm a.tmps){x:bB}{y:Operand}{lo hi mx:Option bB}{U W X:Option Operand}{k z a3:Option Nat}{v:AV}(ho:o.op=.slice t y U W X)(h0:aP T x y=true)(h1:vJ T lo U=true)(h2:vJ T hi W=true)(h3:vJ T mx X=true)(R:P.underlying t=some (.slice e))(q:dK P e s=true)(n1:eC tm lo=some k)(n2:eC tm hi=some z)(n3:eC tm mx=some a3)(g:gY c.H s (aG tm x) k z a3=some v): dJ P (aJ T) c fl o a v c.H:=by
 have F:=aX D N h0;have O:=yX D N h1 n1;have Q:=yX D N h2 n2;have M:=yX D N h3 n3;have l:∀(u r:Value),a.eval y=u->(Instr.sliceAt t u (U.map a.eval) (W.map a.eval)<|X.map a.eval).run P c.w=.ok r c.w->(execOp a.eval o).run P c.w=.ok (.value r) c.w:=by
  intro u r b3 hr;subst b3;simp only[execOp,ho,YW,hr,YK,Y4]
 unfold gY at g;split at g
 .rename_i B;rw[B] at F;split at g
  .rename_i p;cases g;let⟨E,c2,S,c4⟩:=p;refine bT (cv:=bS) D ?_<|RV.lit _;have:=lH (P:=P) (ad:=none) (len:=0) (cap:=0) R q O Q M (by omega) (by omega) (by omega) (by simpa using c4) c.w;simp only[execOp,ho,F.lit_inv,YW,this,YK,Y4,E,c2,S];rfl
  .cases g
 .rename_i f es B;rw[B] at F;have hp:=F.sl_inv;let⟨ad,cap,n,I,V⟩:=aFP hp;rw[n] at hp;split at g
  .simp only[] at g;split at g
   .rename_i p;cases g;have d:=lH (P:=P) (ad:=ad) (len:=es.length) (cap:=cap) R q O Q M (by simp) (by simp;omega) (by simpa using p.1) (by simp) c.w;refine bT D (l _ _ n d)<|.pure _ _<|aKX (m:=cap) hp p.2.2 p.1 (by omega) p.2.1 ?_;intro e;simp only[Zd,ZC] at e;rw[V e.1,e.2]
   .cases g
  .rename_i m;split at g
   .cases g
   .rename_i h;simp only[] at g;split at g
    .rename_i p;cases g;have d:=lH (P:=P) (ad:=ad) (len:=es.length) (cap:=cap) R q O Q M (by simp;omega) (by simp;omega) (by simpa using p.1) (by simp) c.w;refine bT D (l _ _ n d)<|.pure _ _ ?_;simp only[Yp];refine aKX hp p.2.2.2 p.1 p.2.1 (by omega) ?_;intro e;simpa using (ZC.1 e).symm
    .cases g
 .rename_i es B;rw[B] at F;let⟨ad,cap,n,I,d1⟩:=F.vw_inv;split at g
  .simp only[] at g;split at g
   .rename_i p;cases g;let⟨E,c2,S⟩:=p;have d:=lH (P:=P) (ad:=ad) (len:=es.length) (cap:=cap) R q O Q M (by simp) (by simp;omega) (by simpa using E) (by simp) c.w;refine bT D (l _ _ n d) ?_;simp only[Wj];have C:((es.take<|z.getD es.length).drop<|k.getD 0).length=z.getD es.length-k.getD 0:=by simp;omega
    by_cases A:(es.take<|z.getD es.length).drop (k.getD 0)=[]
    .rw[A] at C |-;rw[<-C];exact .vnil _ _
    .have d2:k.getD 0<z.getD es.length:=by
      have:0<((es.take<|z.getD es.length).drop<|k.getD 0).length:=WW.2 A;omega
     rcases d1 with rfl | ⟨b,off,cc,Ty,fz,s',a2,rfl,g2,g3,g4,g7,g8⟩
     .simp at A
     .have b1:s'=s:=by
       cases es with
       | nil=>simp at A
       | cons e r=>
        simp only[lO,ZC] at S;rw[<-g4 e<|by simp,S]
      subst b1;rw[ZF<|by omega];simp only[Yz,fK];rw[<-C];refine .vw _ b (off+k.getD 0*s') (cap-k.getD 0) cc Ty fz s' (λi j=>a2 (k.getD 0+i) j) A g2 g3 (λe he=>g4 e<|Z7<|ZZ he) (by rw[C];omega) ?_ ?_
      .intro i j x F;have Z:bM es (k.getD 0+i) j=some x:=by
        let⟨e,he,hj⟩:=cZ F;rw[Zw,Zs] at he;split at he
        .simp[bM,he,hj]
        .cases he
       have:=g7 _ j x Z;refine⟨?_,this.2⟩;rw[<-this.1];congr 1;rw[ZA];omega
      .intro i j x F;have Z:bM es (k.getD 0+i) j=some x:=by
        let⟨e,he,hj⟩:=cZ F;rw[Zw,Zs] at he;split at he
        .simp[bM,he,hj]
        .cases he
       exact g8 _ j x Z
   .cases g
  .rename_i m;split at g
   .cases g
   .rename_i h;split at g
    .rename_i p;cases g;obtain⟨E,rfl,rfl⟩:=p;have d:=lH (P:=P) (ad:=ad) (len:=es.length) (cap:=cap) R q O Q M (by simp) (by simp) (by simp[E]) (by simp) c.w;refine bT D (l _ _ n d) ?_;simp only[Yp,E,WA];exact .pure _ _<|.nil true _ 0 λ_=>rfl
    .cases g
 .rename_i id tot off len B;rw[B] at F;let⟨ad,cap,s0,n0,n,g1,g2,g3,g4⟩:=F.ms_inv;split at g
  .simp only[] at g;split at g
   .rename_i s' es G;split at g
    .rename_i p;cases g;let⟨E,c2,rfl⟩:=p;rw[eV G] at g1;cases g1;have d:=lH (P:=P) (ad:=ad) (len:=len) (cap:=cap) R q O Q M (by simp) (by simp;omega) (by simpa using E) (by simp) c.w;refine bT D (l _ _ n d) ?_;simp only[Wj];refine .ms id tot _ _ _ _ s0 _ (eV G) g2 (by omega) λet=>?_;let⟨m1,m2⟩:=g4 et;refine⟨by omega,?_⟩;rcases m2 with⟨L,K,J,Y⟩ | ⟨b,cc,Ty,a',L,K,J,Y,m7⟩
     .subst J;exact .inl ⟨L,K,by split<;>rfl,by omega⟩
     .refine .inr ⟨b,cc,Ty,if cap=k.getD 0 then a' else a'.add (k.getD 0*s0),L,K,?_,?_,?_⟩
      .rw[<-J];congr 1;omega
      .subst Y;split<;>rfl
      .intro A;rw[ZF<|by omega,m7<|by omega,fK,ZA]
    .split at g
     .rename_i p;cases g;let⟨E,c2,S,c4,rfl⟩:=p;rw[eV G] at g1;cases g1;let⟨m1,m2⟩:=g4 S.symm;have I:z.getD len<=cap:=by
       rcases m2 with⟨L,K,J,Y⟩ | ⟨b,cc,Ty,a',L,K,J,Y,m7⟩
       .omega
       .let⟨e3,d3,q1,q2,q3⟩:=D.blk id _ es b G L;rw[K] at q1;cases q1;rw[<-J] at q2;have:=Nat.le_of_mul_le_mul_right q2 c4;omega
      have d:=lH (P:=P) (ad:=ad) (len:=len) (cap:=cap) R q O Q M (by simp) (by simpa using I) (by simpa using E) (by simp) c.w;refine bT D (l _ _ n d) ?_;simp only[Wj];refine .ms id tot _ _ _ _ s0 _ (eV G) g2 (by omega) λet=>?_;refine⟨by omega,?_⟩;rcases m2 with⟨L,K,J,Y⟩ | ⟨b,cc,Ty,a',L,K,J,Y,m7⟩
      .subst J;exact .inl ⟨L,K,by split<;>rfl,by omega⟩
      .refine .inr ⟨b,cc,Ty,if cap=k.getD 0 then a' else a'.add (k.getD 0*s0),L,K,?_,?_,?_⟩
       .rw[<-J];congr 1;omega
       .subst Y;split<;>rfl
       .intro A;rw[ZF<|by omega,m7<|by omega,fK,ZA]
     .cases g
   .cases g
  .rename_i m;split at g
   .cases g
   .rename_i h;simp only[] at g;split at g
    .rename_i p;cases g;let⟨E,c2,S⟩:=p;have d:=lH (P:=P) (ad:=ad) (len:=len) (cap:=cap) R q O Q M (by simp;omega) (by simp;omega) (by simp;omega) (by simp) c.w;refine bT D (l _ _ n d) ?_;simp only[Yp];have e1:h-k.getD 0=0:=by omega
     have e2:m-k.getD 0=0:=by omega
     rw[e1,e2];exact .pure _ _<|.nil true _ 0 λ_=>rfl
    .split at g
     .rename_i p;cases g;let⟨E,c2,S⟩:=p;have d:=lH (P:=P) (ad:=ad) (len:=len) (cap:=cap) R q O Q M (by simp;omega) (by simp;omega) (by simp;omega) (by simp) c.w;exact bT D (l _ _ n d)<|RV.undef _
     .cases g
 .cases g
end
end
section
variable {FT:Nat->Option Nat}{P:Program}{T:List cS}{a:Act}{b:Nat}{c:dA}{d:List<|Value×AV}{e:TypeId}{ents':List<|Value×AV}{es:Array MapEntry}{fl i id j:Nat}{k:Value}{k':Operand}{kind:TypeDesc}{kt:TypeId}{m:bB}{o:Oper}{t:TypeId}{tm:List AV}{v:Value}{x:bB}{α β:Type}
section
theorem aDW[aF](i:bX (aJ T) c)(e:TR (aJ T) c tm a.tmps){y:Operand}{j l:Option bB}{h g:Option Operand}{d b:Option Nat}{s:ByteArray}(B:o.op=.slice t y h g none)(v:aP T x y=true)(q:vJ T j h=true)(r:vJ T l g=true)(u:P.underlying t=some .string)(z:eC tm j=some d)(p:eC tm l=some b)(A:aG tm x=.lit (.string s))(k:d.getD 0<=b.getD s.size/\b.getD s.size<=s.size):
 dJ P (aJ T) c fl o a (.lit<|.string<|s.extract (d.getD 0)<|b.getD s.size) c.H:=by
 have m:=aX i e v;rw[A] at m;have C:=yX i e q z;have n:=yX i e r p;refine bT (cv:=.string<|s.extract (d.getD 0)<|b.getD s.size) i ?_<|RV.lit _;have:=Lz (P:=P) (isS:=false) (len:=s.size) (cap:=s.size) (vmx:=none) (mx:=none) C n (.inl ⟨rfl,rfl⟩) (by simp) (by simpa using k.2) k.1 (by simp) c.w;simp[execOp,B,m.lit_inv,Instr.sliceAt,Instr.slice,Zm u,this]
theorem S0(x:Sem α)(f:α->Sem β): aN P (x.bind f)=(aN P x).bind λa=>aN P<|f a:=by
 induction x with
 | pure a=>rfl
 | program k b=>simp only[Sem.bind,aN];exact b P
 | mark m k b=>simp only[Sem.bind,aN];exact b
 | _=>rfl
theorem cG[aF](x:Sem α)(f:α->Sem β): aN P (x >>= f)=(aN P x).bind λa=>aN P<|f a:=S0 x f
theorem cX(x:α): aN P (pure x:Sem α)=some x:=rfl
theorem SW{p:Prop}[Decidable p](x y:Sem α): aN P (if p then x else y)=if p then aN P x else aN P y:=by split<;>rfl
theorem TK[aF]: ∀(c b:List MapEntry) (i:Nat),c.map (·.key)=b.map (·.key)->
 (Instr.findNow kind k c i).map (·.map (·.1))=(Instr.findNow kind k b i).map (·.map (·.1))
 | [],[],_,_=>rfl
 | f::d,e2::e,i,h=>by
  simp only[ZE,XU] at h;simp only[Instr.findNow,h.1];split
  .rfl
  .exact TK d e (i+1) h.2
  .rfl
 | [],_::_,_,h=>by cases h
 | _::_,[],_,h=>by cases h
theorem TJ[aF]: ∀(es:List MapEntry) (i:Nat),Instr.findNow kind k es i=some (some (j,v))->i<=j/\∃e,es[j-i]?=some e/\v=e.val
 | [],_,h=>by cases h
 | e::r,i,h=>by
  simp only[Instr.findNow] at h;split at h
  .cases h;exact⟨Zf _,e,by simp,rfl⟩
  .let⟨f,c,b,d⟩:=TJ r (i+1) h;refine⟨by omega,c,?_,d⟩;have:j-i=(j-(i+1))+1:=by omega
   rw[this,ZL];exact b
  .cases h
theorem Rh[aF]: ∀(d c:List MapEntry) (i:Nat),d.map (·.key)=c.map (·.key)->
 (aN P<|Instr.findAsking kt k d i).map (·.map (·.1))=(aN P<|Instr.findAsking kt k c i).map (·.map (·.1))
 | [],[],_,_=>rfl
 | g::e,e2::f,i,h=>by
  simp only[ZE,XU] at h;simp only[Instr.findAsking,h.1,cG,SW,cX];cases aN P (Op.equal kt k e2.key) with
  | none=>rfl
  | some b=>
   simp only[Z2];split
   .rfl
   .exact Rh e f (i+1) h.2
 | [],_::_,_,h=>by cases h
 | _::_,[],_,h=>by cases h
theorem Rg[aF]: ∀(es:List MapEntry) (i:Nat),aN P (Instr.findAsking kt k es i)=some (some (j,v))->i<=j/\∃e,es[j-i]?=some e/\v=e.val
 | [],_,h=>by simp[Instr.findAsking,cX] at h
 | e::r,i,h=>by
  simp only[Instr.findAsking,cG,SW,cX] at h;cases c:aN P (Op.equal kt k e.key) with
  | none=>rw[c] at h;cases h
  | some b=>
   rw[c] at h;simp only[Z2] at h;split at h
   .cases h;exact⟨Zf _,e,by simp,rfl⟩
   .let⟨l,d,g,f⟩:=Rg r (i+1) h;refine⟨by omega,d,?_,f⟩;have:j-i=(j-(i+1))+1:=by omega
    rw[this,ZL];exact g
theorem yK[aF]: aN P (underlying t)=P.underlying t:=by
 unfold underlying;rw[cG];have:aN P program=some P:=rfl;rw[this];simp only[Z2];split
 .rename_i h;rw[h];rfl
 .rename_i h;rw[h];rfl
theorem TM[aF]{c b:List MapEntry}(h:c.map (·.key)=b.map (·.key)):
 (aN P<|Instr.findKey kt k c).map (·.map (·.1))=(aN P<|Instr.findKey kt k b).map (·.map (·.1)):=by
 simp only[Instr.findKey,cG,yK];cases P.underlying kt with
 | none=>rfl
 | some d=>
  simp only[Z2];have e:=TK (kind:=d) (k:=k) c b 0 h;cases g:Instr.findNow d k c 0 with
  | none=>
   cases f:Instr.findNow d k b 0 with
   | none=>exact Rh c b 0 h
   | some i=>rw[g,f] at e;cases e
  | some j=>
   cases f:Instr.findNow d k b 0 with
   | none=>rw[g,f] at e;cases e
   | some i=>rw[g,f] at e;exact e
theorem aEB[aF]{es:List MapEntry}(h:aN P (Instr.findKey kt k es)=some (some (j,v))): ∃e,es[j]?=some e/\v=e.val:=by
 simp only[Instr.findKey,cG,yK] at h;cases f:P.underlying kt with
 | none=>rw[f] at h;cases h
 | some d=>
  rw[f] at h;simp only[Z2] at h;split at h
  .rename_i r g;simp only[cX,Za] at h;subst h;let⟨_,e,b,c⟩:=TJ es 0 g;exact⟨e,by simpa using b,c⟩
  .let⟨_,e,b,c⟩:=Rg es 0 h;exact⟨e,by simpa using b,c⟩
def Jm(FT:Nat->Option Nat)(c:dA)(ents:List<|Value×AV)(es:Array MapEntry): Prop:=
 es.size=ents.length/\∀(i:Nat) (k:Value) (x:AV),ents[i]?=some (k,x)->∃e,es[i]?=some e/\e.key=k/\RV FT c x e.val
theorem J1{a:List<|Value×AV}(h:Jm FT c a es):
 (a.map λe=>({ key:=e.1,val:=.bool false,born:=0 }:MapEntry)).map (·.key)=es.toList.map (·.key):=by
 apply Ym;intro i;simp only[Ya,Zk];cases he:a[i]? with
 | none=>
  have:es.toList[i]?=none:=by
   rw[XG] at he |-;simp only[Zx,h.1];exact he
  rw[this];rfl
 | some p=>
  let⟨k,x⟩:=p;let⟨e,g,f,_⟩:=h.2 i k x he;have:es.toList[i]?=some e:=by simpa using g
  rw[this];simp[f]
theorem DX[aF]{a:List<|Value×AV}(h:Jm FT c a es)(f:kE P kt k a=some (some i))(w:World):
 ∃e,es[i]?=some e/\(Instr.findKey kt k es.toList).run P w=.ok (some (i,e.val)) w:=by
 have d:=TM (P:=P) (kt:=kt) (k:=k)<|J1 h;unfold kE at f;split at f
 .rename_i j v o;cases f;rw[o] at d;cases g:aN P (Instr.findKey kt k es.toList) with
  | none=>rw[g] at d;cases d
  | some r=>
   rw[g] at d;cases r with
   | none=>cases d
   | some p=>
    let⟨m,q⟩:=p;have:i=m:=by simpa using d
    subst this;let⟨e,n,l⟩:=aEB g;exact⟨e,by simpa using n,by rw[cQ g,l]⟩
 .cases f
 .cases f
theorem DY[aF]{a:List<|Value×AV}(h:Jm FT c a es)(e:kE P kt k a=some none)(w:World):
 (Instr.findKey kt k es.toList).run P w=.ok none w:=by
 have d:=TM (P:=P) (kt:=kt) (k:=k)<|J1 h;unfold kE at e;split at e
 .cases e
 .rename_i g;rw[g] at d;cases f:aN P (Instr.findKey kt k es.toList) with
  | none=>rw[f] at d;cases d
  | some r=>
   rw[f] at d;cases r with
   | none=>exact cQ f
   | some p=>cases d
 .cases e
theorem aMx[aF](f:bX (aJ T) c){a:List<|Value×AV}(i:c.H[id]?=some (.mp a))(g:c.β id=some b):
 ∃es d,c.w.heap[b]?=some (.map es d)/\Jm (aJ T) c a es:=by
 let⟨es,d,j,e,h⟩:=f.map id a b i g;exact⟨es,d,j,e.1,h⟩
theorem aEK[aF](f:bX (aJ T) c){a:List<|Value×AV}(i:c.H[id]?=some (.mp a))(g:c.β id=some b):
 ∃es d,c.w.heap[b]?=some (.map es d)/\Jm (aJ T) c a es/\Yng es d:=by
 let⟨es,d,j,e,h⟩:=f.map id a b i g;exact⟨es,d,j,⟨e.1,h⟩,e.2⟩
theorem iJ{w:World}{a:Nat}(h:w.heap[b]?=some (.map es a)): (getObj b).run P w=.ok (.map es a) w:=by
 simp[getObj,Sem.run,h]
theorem G3{a:List<|Value×AV}(h:Jm FT c a es): es.isEmpty=a.isEmpty:=by
 have:=h.1;cases a with
 | nil=>simp at this;simp[this]
 | cons e r=>
  have:es≠#[]:=by intro e;subst e;simp at this
  simp[this]
theorem aA9[aF](J:bX (aJ T) c)(B:TR (aJ T) c tm a.tmps){z k:bB}{C:Operand}{ok:Bool}{y:Value}{r v:AV}{i:TypeInfo}{N:Value}(ho:o.op=.lookup t C k' ok)(h1:aP T m C=true)(h2:aP T k k'=true)(Q:P.underlying t=some (.map kt e))(Y:P.info? e=some i)(X:i.zero=some N)(K:RV (aJ T) c (aG tm z) N)(hk:lits (aG tm k)=some y)(R:aN P (Instr.checkKey d.isEmpty 10000 kt y)=some ())(A:(aG tm m=.lit (.map none)/\d=[])\/(∃id,aG tm m=.mp id/\c.H[id]?=some (.mp d))\/aG tm m=.rmp d)(hr:(∃i e,kE P kt y d=some (some i)/\d[i]?=some e/\r=e.2/\v=.lit (.bool true))\/(kE P kt y d=some none/\r=aG tm z/\v=.lit (.bool false))):
 dJ P (aJ T) c fl o a (if ok then .tup [r,v] else r) c.H:=by
 have p:=aX J B h1;have S:=JR (aX J B h2) hk;have M:∃es:Array MapEntry,Jm (aJ T) c d es/\((a.eval C=.map none/\es=#[])\/∃b g,a.eval C=.map (some b)/\c.w.heap[b]?=some (.map es g)):=by
  rcases A with⟨A,rfl⟩ | ⟨id,A,O⟩ | A<;>rw[A] at p
  .exact⟨#[],⟨rfl,λi k x j=>by simp at j⟩,.inl ⟨p.lit_inv,rfl⟩⟩
  .let⟨b,l,_,G⟩:=p.mp_inv;let⟨es,g,u,q⟩:=aMx J O G;exact⟨es,q,.inr ⟨b,g,l,u⟩⟩
  .let⟨b,es,g,E,l,u,q,F,U⟩:=p.rmp_inv;exact⟨es,⟨q,λi k x j=>⟨E i,(F i k x j).1,(F i k x j).2,.pure _ _<|U i k x j⟩⟩,.inr ⟨b,g,l,u⟩⟩
 let⟨es,I,Z⟩:=M;have h:(Instr.checkKey es.isEmpty 10000 kt y).run P c.w=.ok () c.w:=by rw[G3 I];exact cQ R
 have D:∃(s:Value) (b:Bool),RV (aJ T) c r s/\v=.lit (.bool b)/\(Instr.lookup t (a.eval C) y ok).run P c.w=.ok (if ok then .tuple #[s,.bool b] else s) c.w:=by
  rcases hr with⟨i0,en,L,V,rfl,rfl⟩ | ⟨L,rfl,rfl⟩
  .let⟨e',u,q⟩:=DX I L c.w;let⟨k0,x0⟩:=en;let⟨a1,F,_,U⟩:=I.2 i0 k0 x0 V;rw[u] at F;cases F;refine⟨e'.val,true,U,rfl,?_⟩;rcases Z with⟨l,rfl⟩ | ⟨b,g,l,G⟩
   .simp at u
   .simp[Instr.lookup,Zm Q,l,iJ G,h,q]
  .have q:=DY I L c.w;refine⟨N,false,K,rfl,?_⟩;rcases Z with⟨l,rfl⟩ | ⟨b,g,l,G⟩
   .simp only[Array.isEmpty_empty] at h;simp[Instr.lookup,Zm Q,l,h,q,zeroValue,typeInfo,Y,X]
   .simp[Instr.lookup,Zm Q,l,iJ G,h,q,zeroValue,typeInfo,Y,X]
 obtain⟨s,b,W,rfl,k3⟩:=D;refine bT (cv:=if ok then .tuple #[s,.bool b] else s) J (by simp[execOp,ho,S,k3]) ?_;cases ok with
 | false=>simpa using W
 | true=>
  simp only[Zz];refine .tup _ _ (λi=>if i=0 then s else .bool b) rfl ?_ ?_
  .intro i x j;match i with
   | 0=>rfl
   | 1=>rfl
   | n+2=>simp at j
  .intro i x j;match i with
   | 0=>simp at j;subst j;simpa using W
   | 1=>simp at j;subst j;exact RV.lit _
   | n+2=>simp at j
theorem aJL{a:List<|Value×AV}{x:AV}{e:MapEntry}(h:Jm FT c a es)(he:es[i]?=some e)(p:RV FT c x v):
 Jm FT c (a.set i (k,x))<|es.modify i λe=>{ e with key:=k,val:=v }:=by
 refine⟨by simpa using h.1,λj k' g d=>?_⟩;rw[Z5] at d;split at d
 .rename_i b;subst b;split at d
  .cases d;refine⟨{ e with key:=k,val:=v },?_,rfl,p⟩;rw[YH];simp[he]
  .cases d
 .rename_i b;let⟨l,n,m,o⟩:=h.2 j k' g d;refine⟨l,?_,m,o⟩;rw[YH];simp[b,n]
theorem aGA{a:List<|Value×AV}{x:AV}{n:Nat}(h:Jm FT c a es)(p:RV FT c x v):
 Jm FT c (a++[(k,x)])<|es.push { key:=k,val:=v,born:=n }:=by
 refine⟨by simp[h.1],λj k' f b=>?_⟩;rw[Yk] at b;split at b
 .rename_i g;let⟨i,m,l,o⟩:=h.2 j k' f b;refine⟨i,?_,l,o⟩;rw[ZU,ZF<|by rw[h.1];omega];exact m
 .rename_i g;rw[List.getElem?_singleton] at b;split at b
  .rename_i q;cases b;refine⟨{ key:=k,val:=v,born:=n },?_,rfl,p⟩;rw[ZU,Zu<|by rw[h.1];omega]
  .cases b
theorem aBr{a:Nat}{f:MapEntry->MapEntry}(h:Yng es a)(b:∀e,(f e).born=e.born): Yng (es.modify i f) a:=by
 refine⟨λe he=>?_,?_⟩
 .obtain⟨j,d,rfl⟩:=Xs.1 he;simp only[Array.getElem_toList,Array.getElem_modify];have c:j<es.size:=by simpa using d
  have:=h.1 es[j] (by simp);split
  .rw[b];exact this
  .exact this
 .have e:(es.modify i f).toList.map (·.born)=es.toList.map (·.born):=by
   apply Ym;intro j;simp only[Zk,Z8,YH];split
   .cases es[j]? with
    | none=>rfl
    | some e=>simp[b]
   .rfl
  rw[e];exact h.2
theorem aF7{c:Nat}(h:Yng es c): Yng (es.push { key:=k,val:=v,born:=c })<|c+1:=by
 refine⟨λe he=>?_,?_⟩
 .simp only[W9,ZD,ZJ] at he;rcases he with he | rfl
  .exact Nat.lt_succ_of_lt<|h.1 e he
  .exact Wk _
 .rw[W9,YJ,List.nodup_append];refine⟨h.2,by simp,λa g b f e=>?_⟩;obtain⟨x,i,rfl⟩:=Yh.1 g;have:=h.1 x i;simp at f;omega
theorem aDi{a:Nat}(h:Yng es a)(b:i<es.size): Yng (es.eraseIdxIfInBounds i) a:=by
 have e:(es.eraseIdxIfInBounds i).toList=es.toList.eraseIdx i:=by simp only[Array.eraseIdxIfInBounds,b,Wz,Array.toList_eraseIdx]
 unfold Yng;rw[e];exact⟨λe he=>h.1 e<|List.mem_of_mem_eraseIdx he,((List.eraseIdx_sublist _ _).map _).nodup h.2⟩
theorem aA8[aF](y:bX (aJ T) c)(s:TR (aJ T) c tm a.tmps){k:bB}{D v:Operand}{f:List<|Value×AV}{h:Value}(C:o.op=.mapUpdate t D k' v\/o.op=.insert t D k' v)(h1:aP T m D=true)(h2:aP T k k'=true)(h3:aP T x v=true)(X:P.underlying t=some (.map kt e))(hk:lits (aG tm k)=some h)(K:aN P (Instr.checkKey false 10000 kt h)=some ())(G:fl<=id)(hm:aG tm m=.mp id)(r:c.H[id]?=some (.mp f))(hr:(∃i E,kE P kt h f=some (some i)/\f[i]?=some E/\Instr.sameBits 10000 E.1 h=true/\ents'=f.set i (h,aG tm x))\/(kE P kt h f=some none/\ents'=f++[(h,aG tm x)])):
 dJ P (aJ T) c fl o a (.lit bQ)<|c.H.set id<|.mp ents':=by
 have z:=aX y s h1;rw[hm] at z;have I:=JR (aX y s h2) hk;have Y:=aX y s h3;let⟨b,U,_,R⟩:=z.mp_inv;let⟨es,q,F,A,S⟩:=aEK y r R;have p:=cQ (w:=c.w) K;have n:∀ob,(setObj b ob).run P c.w=.ok () { c.w with heap:=c.w.heap.setIfInBounds b ob }:=by
  intro ob;simp[setObj,Sem.run,F]
 have j:∃es' g,(Jm (aJ T) c ents' es'/\Yng es' g)/\(Instr.mapUpdate t (a.eval D) h<|a.eval v).run P c.w=.ok () { c.w with heap:=c.w.heap.setIfInBounds b (.map es' g) }:=by
  rcases hr with⟨V,E,Q,N,B,rfl⟩ | ⟨Q,rfl⟩
  .let⟨e',J,M⟩:=DX A Q c.w;let⟨k0,x0⟩:=E;let⟨a1,Z,k4,_⟩:=A.2 V k0 x0 N;rw[J] at Z;cases Z;refine⟨es.modify V λe=>{ e with key:=h,val:=a.eval v },q,⟨aJL A J Y,aBr S λ_=>rfl⟩,?_⟩;have O:(Instr.keyThatStays e'.key h).run P c.w=.ok h c.w:=by
    simp only at B;simp[Instr.keyThatStays,k4,B]
   simp[Instr.mapUpdate,Zm X,U,iJ F,p,M,J,O,n]
  .have M:=DY A Q c.w;refine⟨es.push { key:=h,val:=a.eval v,born:=q },q+1,⟨aGA A Y,aF7 S⟩,?_⟩;simp[Instr.mapUpdate,Zm X,U,iJ F,p,M,n]
 let⟨es',g,u,j⟩:=j;refine aHS (β':=c.β) (w':={ c.w with heap:=c.w.heap.setIfInBounds b (.map es' g) }) ?_ (Oh (ob:=.map es' g) y G r R rfl rfl rfl rfl)<|x7 y r R rfl rfl rfl rfl ⟨u.1.1,u.2⟩ u.1.2;rcases C with C | C<;>simp[execOp,C,I,j]
theorem aAB[aF](x:bX (aJ T) c)(A:TR (aJ T) c tm a.tmps){k:bB}{K:Operand}{ts:Array TypeId}(ho:o.op=.call ⟨.builtin .delete,#[K,k'],ts⟩)(Q:ts[0]?=some t)(W:aP T m K=true)(Y:aP T k k'=true)(S:P.underlying t=some (.map kt e))(hk:lits (aG tm k)=some v)(E:aN P (Instr.checkKey d.isEmpty 10000 kt v)=some ())(L:fl<=id)(X:aG tm m=.mp id)(u:c.H[id]?=some (.mp d))(V:(∃i,kE P kt v d=some (some i)/\ents'=d.eraseIdx i)\/(kE P kt v d=some none/\ents'=d)):
 dJ P (aJ T) c fl o a (.lit bQ)<|c.H.set id<|.mp ents':=by
 have z:=aX x A W;rw[X] at z;have C:=JR (aX x A Y) hk;let⟨b,O,_,J⟩:=z.mp_inv;let⟨es,y,G,l,N⟩:=aEK x u J;have p:(Instr.checkKey es.isEmpty 10000 kt v).run P c.w=.ok () c.w:=by rw[G3 l];exact cQ E
 have q:∀ob,(setObj b ob).run P c.w=.ok () { c.w with heap:=c.w.heap.setIfInBounds b ob }:=by
  intro ob;simp[setObj,Sem.run,G]
 have g:∃es' f,(Jm (aJ T) c ents' es'/\Yng es' f)/\(Builtin.delete_ ts o.type #[a.eval K,v]).run P c.w=.ok (.tuple #[]) { c.w with heap:=c.w.heap.setIfInBounds b (.map es' f) }:=by
  rcases V with⟨M,D,rfl⟩ | ⟨D,rfl⟩
  .let⟨e',Z,I⟩:=DX l D c.w;have h:M<es.size:=(Xa.1 Z).1;refine⟨es.eraseIdxIfInBounds M,y,⟨⟨?_,?_⟩,aDi N h⟩,?_⟩
   .simp only[Array.eraseIdxIfInBounds,h,Wz];rw[Array.size_eraseIdx,List.length_eraseIdx,l.1];rw[Zu<|by rw[<-l.1];exact h]
   .intro j U R B;simp only[Array.eraseIdxIfInBounds,h,Wz];rw[List.getElem?_eraseIdx] at B;rw[Array.getElem?_eraseIdx];split at B
    .rename_i F;rw[Zu F];exact l.2 j U R B
    .rename_i F;rw[ZF F];exact l.2 _ U R B
   .simp[Builtin.delete_,Q,Zm S,O,iJ G,p,I,q]
  .have I:=DY l D c.w;refine⟨es,y,⟨l,N⟩,?_⟩;simp[Builtin.delete_,Q,Zm S,O,iJ G,p,I,q]
 let⟨es',f,s,g⟩:=g;refine eO (cv:=.tuple #[]) (β':=c.β) (w':={ c.w with heap:=c.w.heap.setIfInBounds b (.map es' f) }) ?_ (Oh (ob:=.map es' f) x L u J rfl rfl rfl rfl) (x7 x u J rfl rfl rfl rfl ⟨s.1.1,s.2⟩ s.1.2)<|RV.lit _;simp[execOp,ho,resolve,invoke,builtin,C,g]
end
end
section
variable {FT:Nat->Option Nat}{P:Program}{T:List cS}{a:Act}{c:dA}{fl:Nat}{o:Oper}{s:Nat}{tm:List AV}{ys:List<|List AV}
section
def fA(FT:Nat->Option Nat)(c:dA)(s:Nat)(ys:List<|List AV)(news:List Value): Prop:=
 news.length=ys.length*s/\∀i j x,bM ys i j=some x->∃u,news[i*s+j]?=some u/\bF u=true/\RV FT c x u
theorem Ec(h:eZ s ys=true): ∀e∈ys,e.length=s:=by
 intro e he;have:=Yl.1 h e he;simpa using this
theorem hZ[aF]{a:List Value}(k:∀e∈ys,e.length=s)(h:fA FT c s ys a): ∀u∈a,u.oneCell'=true:=by
 intro u m;let⟨p,g⟩:=Yi.1 m;have b:p<ys.length*s:=by rw[<-h.1];exact (Ze.1 g).1
 have j:0<s:=by
  rcases XB s with f | f
  .subst f;simp at b
  .exact f
 have i:p / s<ys.length:=WP (by rw[YN];exact b);have n:p % s<s:=Nat.mod_lt _ j;have he:(ys[p / s]).length=s:=k _<|ZP i;let⟨o,d,l,_⟩:=h.2 (p / s) (p % s) ((ys[p / s])[p % s]'(by omega)) (by simp[bM,i,he,n]);rw[YN,Nat.div_add_mod] at d;rw[g] at d;cases d;rw[<-CX];exact l
theorem NH[aF]{k b n:Nat}{cc:Array Value}{l:TypeId}{o:Nat×Nat}(C:c.w.heap[b]?=some (.cells cc l o))(E:0<s)(g:ys.length=n)(p:∀e∈ys,e.length=s)(h:∀i j x,bM ys i j=some x->∃u,cc[k+(i*s+j)]?=some u/\bF u=true/\RV FT c x u):
 ∃a,fA FT c s ys a/\∀(j:Nat) (v:Value),a[j]?=some v->c.w.cell? ((⟨b,k,none⟩:Addr).add j)=some v:=by
 refine⟨(cc.toList.drop k).take<|n*s,⟨?_,?_⟩,?_⟩
 .simp only[ZH,ZV,Zx,g];cases n with
  | zero=>simp
  | succ m=>
   have q:m<ys.length:=by omega
   have he:(ys[m]).length=s:=p _<|ZP q;let⟨u,y,_⟩:=h m (s-1) ((ys[m])[s-1]'(by omega)) (by simp[bM,q]);have:k+(m*s+(s-1))<cc.size:=(Xa.1 y).1;rw[ZA];omega
 .intro i j x r;let⟨u,B,t,z⟩:=h i j x r;refine⟨u,?_,t,z⟩;let⟨e,he,A⟩:=cZ r;have f:j<s:=by rw[<-p e<|Zg he];exact (Ze.1 A).1
  have D:i<n:=by rw[<-g];exact (Ze.1 he).1
  rw[Zs,Zu<|NI D f,Zw];simpa using B
 .intro j v d;rw[fK,cell_of_row c.w b (k+j) cc l o C];rw[Zs] at d;split at d
  .simpa using d
  .cases d
theorem aDK[aF](V:bX FT c){y:AV}{v:Value}(J:RV FT c y v)(h:rd c.H y=some ys)(F:∀e∈ys,e.length=s)(D:0<s):
 ∃xa q a,v=.slice xa ys.length q/\ys.length<=q/\fA FT c s ys a/\∀w',Ei c.w w'->(Builtin.firstCells s ys.length v).run P w'=.ok a.toArray w':=by
 have A:∀(b k q:Nat) (a:List Value),fA FT c s ys a->(∀(j:Nat) (v:Value),a[j]?=some v->c.w.cell? ((⟨b,k,none⟩:Addr).add j)=some v)->
  ∀w',Ei c.w w'->(Builtin.firstCells s ys.length<|.slice (some ⟨b,k,none⟩) ys.length q).run P w'=.ok a.toArray w':=by
  intro b k q a h1 W w' hd;refine X4 w' s ys.length ⟨b,k,none⟩ ys.length q a h1.1 ?_;intro j v t;rw[World.cell?_of_block (w:=c.w)<|by rw[hd.heap]];exact W j v t
 have d:∀(xa:Option Addr) (q:Nat),ys=[]->∀w',Ei c.w w'->(Builtin.firstCells s ys.length<|.slice xa ys.length q).run P w'=.ok (#[]:Array Value) w':=by
  intro xa q he w' _;subst he;cases xa<;>simp[Builtin.firstCells,loadCells,loadCellsFrom]
 have m:ys=[]->fA FT c s ys []:=by
  intro he;subst he;exact⟨by simp,λi j x n=>by simp[bM] at n⟩
 unfold rd at h;split at h
 .cases h;exact⟨none,0,[],J.lit_inv,ZG _,m rfl,by rw[J.lit_inv];exact d none 0 rfl⟩
 .rename_i f es;cases h;have hp:=J.sl_inv;cases hp with
  | nil _ ad cap hf=>exact⟨ad,cap,[],rfl,ZG _,m rfl,d ad cap rfl⟩
  | sl _ _ b off cap cc X fz s' o M Y N K g5 g6 I Q=>
   have e:s'=s:=by
    cases ys with
    | nil=>exact (M rfl).elim
    | cons e r=>rw[<-K e<|by simp,F e<|by simp]
   subst e;obtain⟨a,z,p⟩:=NH (k:=off) N D rfl F λi j x n=>⟨o i j,(I i j x n).1,(I i j x n).2,.pure _ _<|Q i j x n⟩;exact⟨_,cap,a,rfl,g5,z,A b off cap a z p⟩
 .rename_i es;cases h;obtain⟨ad,cap,rfl,L,S⟩:=J.vw_inv;rcases S with rfl | ⟨b,off,cc,X,fz,s',o,rfl,Y,N,K,I,Q⟩
  .exact⟨ad,cap,[],rfl,ZG _,m rfl,d ad cap rfl⟩
  .by_cases B:ys=[]
   .subst B;exact⟨_,cap,[],rfl,ZG _,m rfl,d _ cap rfl⟩
   have e:s'=s:=by
    cases ys with
    | nil=>exact (B rfl).elim
    | cons e r=>rw[<-K e<|by simp,F e<|by simp]
   subst e;obtain⟨a,z,p⟩:=NH (k:=off) N D rfl F λi j x n=>⟨o i j,(I i j x n).1,(I i j x n).2,.pure _ _<|Q i j x n⟩;exact⟨_,cap,a,rfl,L,z,A b off cap a z p⟩
 .rename_i id tot off len;split at h
  .rename_i s' es E;split at h
   .rename_i G;cases h;let⟨ad,cap,s0,n0,t,M,Y,N,K⟩:=J.ms_inv;rw[eV E] at M;cases M;let⟨m1,m2⟩:=K G.symm;have g:((es.drop off).take len).length=len:=by simp;omega
    rw[g];rcases m2 with⟨_,m3,R,U⟩ | ⟨b,cc,X,a',m3,R,U,m6,m7⟩
    .subst U;have C:len=0:=by omega
     subst C;have he:(es.drop off).take 0=[]:=by simp
     have p:=d ad 0 he;simp only[g] at p;exact⟨ad,0,[],t,Zf _,m he,by rw[t];exact p⟩
    .by_cases C:len=0
     .subst C;have he:(es.drop off).take 0=[]:=by simp
      have p:=d ad cap he;simp only[g] at p;exact⟨ad,cap,[],t,ZG _,m he,by rw[t];exact p⟩
     .have ha:=m7 (by omega);subst m6;subst ha;let⟨a2,a1,Z,q2,q3⟩:=V.blk id s' es b E m3;rw[R] at Z;cases Z;have O:s'=s:=by
       have B:0<es.length:=by omega
       have T:off<es.length:=by omega
       have h1:=V.lens id s' es E (es[off])<|ZP T;have W:=F (es[off])<|by
        rw[Yi];exact⟨0,by rw[Zs,Zu<|by omega,Zw];simp[T]⟩
       omega
      subst O;let⟨a,z,p⟩:=NH (FT:=FT) (k:=off*s') R D rfl F (λi j x n=>by
       let⟨e,he,hj⟩:=cZ n;rw[Zs] at he;split at he
       .rw[Zw] at he;let⟨u,w1,w2,w3⟩:=q3 (off+i) j x (by simp[bM,he,hj]);exact⟨u,by rw[<-w1];congr 1;rw[ZA];omega,w2,w3⟩
       .cases he)
      have k3:=A b (off*s') cap a z p;simp only[g] at k3;exact⟨_,cap,a,t,by omega,z,by rw[t];exact k3⟩
   .cases h
  .cases h
 .cases h
end
end
section
variable {P:Program}{T:List cS}{a:Act}{c:dA}{e:TypeId}{fl:Nat}{i:TypeInfo}{m:Nat}{o:Oper}{t t':TypeId}{tm:List AV}{w:World}
section
theorem K8(w:World): Ei w w.drew:=⟨rfl,rfl,rfl,rfl,Ys _⟩
structure Src(P:Program)(w:World)(t t' e:TypeId)(i:TypeInfo)(xv:Value)(m:Nat)(news:List Value): Prop where
 ht:P.underlying t=some (.slice e)
 hi:P.info? e=some i
 run:∀(ty:TypeId) (base:Option Addr) (sLen sCap:Nat),sLen+m<=sCap->∀(w':World),
  (∀ad,base=some ad->(storeCells (ad.add (sLen*i.size)) news).run P w=.ok () w')->(base=none->w'=w)->
  (Builtin.append_ #[t,t'] ty #[.slice base sLen sCap,xv]).run P w=.ok (.slice base (sLen+m) sCap) w'
 grow:∀(ty:TypeId) (z:Value) (base:Option Addr) (sLen sCap:Nat) (olds:List Value),i.zero=some z->sCap<sLen+m->((sLen+m:Nat):Int)<=9223372036854775807->
  Builtin.nextslicecap (sLen+m) sCap*i.bytes<=281474976710656->(Builtin.firstCells i.size sLen (.slice base sLen sCap)).run P w.drew=.ok olds.toArray w.drew->
  ∃cells:Array Value,cells.toList=olds++news++(Builtin.zeroCells z.cells (grownCap w (sLen+m) sCap e-(sLen+m))).toList /\
  (Builtin.append_ #[t,t'] ty #[.slice base sLen sCap,xv]).run P w =
   .ok (.slice (some ⟨w.heap.size,0,none⟩) (sLen+m) (grownCap w (sLen+m) sCap e)) (w.drew.alloc (.cells cells e))
theorem aAs[aF]{e':TypeId}{xa:Option Addr}{xc:Nat}{news:List Value}(ht:P.underlying t=some (.slice e))(ht':P.underlying t'=some (.slice e'))(hi:P.info? e=some i)(hf:∀w',Ei w w'->(Builtin.firstCells i.size m<|.slice xa m xc).run P w'=.ok news.toArray w'): Src P w t t' e i (.slice xa m xc) m news where
 ht:=ht
 hi:=hi
 run:=by
  intro ty base sLen sCap hroom w' hst hn
  have hf0:=hf w<|Ei.refl w
  cases base with
  | none=>simp[Builtin.append_,Zm ht,Zm ht',sizeOf,typeInfo,hi,Builtin.lenOf,hroom,hf0,hn rfl]
  | some ad=>simp[Builtin.append_,Zm ht,Zm ht',sizeOf,typeInfo,hi,Builtin.lenOf,hroom,hf0,hst ad rfl]
 grow:=by
  intro ty z base sLen sCap olds hz hg h63 hfit ho
  have hf0:=hf w.drew<|K8 w
  have hn:¬(sLen+m<=sCap):=by omega
  have h63':¬(9223372036854775807<((sLen:Int)+(m:Int))):=by omega
  have h48':¬(281474976710656<Builtin.nextslicecap (sLen+m) sCap*i.bytes):=by omega
  refine⟨olds.toArray++news.toArray++Builtin.zeroCells z.cells (grownCap w (sLen+m) sCap e-(sLen+m)),by simp,?_⟩
  simp[Builtin.append_,Zm ht,Zm ht',sizeOf,typeInfo,zeroValue,hi,hz,Builtin.lenOf,hn,h63',h48',Question.forced,hf0,ho,newRow,grownCap]
  congr 2
  apply Xq
  simp[Ye]
theorem aJh[aF]{k k':IntKind}{z:Value}(ht:P.underlying t=some (.slice e))(ht':P.underlying t'=some (.int k))(hi:P.info? e=some i)(hz:i.zero=some z)(hm:m<=2 ^ 20)(hb:m*i.bytes<=2 ^ 40)(hs0:0<i.size)(hzs:z.cells.size=i.size): Src P w t t' e i (.int k' (m:Nat)) m (Builtin.zeroCells z.cells m).toList where
 ht:=ht
 hi:=hi
 run:=by
  intro ty base sLen sCap hroom w' hst hn
  have w1:=Jo (n:=m)<|by omega
  have hneg:¬((m:Int)<0):=by omega
  have hbig:¬((281474976710656:Int)<(m:Int)*(i.bytes:Int)):=by rw[<-Wp];omega
  by_cases hm0:m*i.size=0
  .have hmz:m=0:=by
    rcases Nat.mul_eq_zero.1 hm0 with h | h
    .exact h
    .omega
   subst hmz
   have hz0:(Builtin.zeroCells z.cells 0).toList=[]:=by simp[Builtin.zeroCells]
   rw[hz0] at hst
   have hr0:sLen<=sCap:=by omega
   have w0:IntKind.i64.wrap 0=0:=IntWalk.i64_in _<|by omega
   cases base with
   | none=>simp[Builtin.append_,Zm ht,Zm ht',sizeOf,typeInfo,hi,asInt,asIntOf,hr0,hn rfl,w0]
   | some ad=>simp[Builtin.append_,Zm ht,Zm ht',sizeOf,typeInfo,hi,asInt,asIntOf,hr0,hst ad rfl,w0]
  .cases base with
   | none=>simp[Builtin.append_,Zm ht,Zm ht',sizeOf,typeInfo,zeroValue,hz,hi,asInt,asIntOf,w1,hneg,hbig,hm0,hroom,hn rfl]
   | some ad=>simp[Builtin.append_,Zm ht,Zm ht',sizeOf,typeInfo,zeroValue,hz,hi,asInt,asIntOf,w1,hneg,hbig,hm0,hroom,hst ad rfl]
 grow:=by
  intro ty z' base sLen sCap olds hz' hg h63 hfit ho
  rw[hz] at hz'
  cases hz'
  have w1:=Jo (n:=m)<|by omega
  have hneg:¬((m:Int)<0):=by omega
  have hbig:¬((281474976710656:Int)<(m:Int)*(i.bytes:Int)):=by rw[<-Wp];omega
  have hn:¬(sLen+m<=sCap):=by omega
  have h63':¬(9223372036854775807<((sLen:Int)+(m:Int))):=by omega
  have h48':¬(281474976710656<Builtin.nextslicecap (sLen+m) sCap*i.bytes):=by omega
  refine⟨olds.toArray++(Builtin.zeroCells z.cells m)++Builtin.zeroCells z.cells (grownCap w (sLen+m) sCap e-(sLen+m)),by simp,?_⟩
  by_cases hm0:m*i.size=0
  .have hmz:m=0:=by
    rcases Nat.mul_eq_zero.1 hm0 with h | h
    .exact h
    .omega
   subst hmz
   have hz0:Builtin.zeroCells z.cells 0=#[]:=by simp[Builtin.zeroCells]
   have w0:IntKind.i64.wrap 0=0:=IntWalk.i64_in _<|by omega
   have hn0:¬(sLen<=sCap):=by omega
   have h630:¬(9223372036854775807<(sLen:Int)):=by omega
   have h480:¬(281474976710656<Builtin.nextslicecap sLen sCap*i.bytes):=by simpa using h48'
   simp[Builtin.append_,Zm ht,Zm ht',sizeOf,typeInfo,zeroValue,hi,hz,asInt,asIntOf,hn0,h630,h480,Question.forced,ho,newRow,grownCap,w0,hz0]
  .simp[Builtin.append_,Zm ht,Zm ht',sizeOf,typeInfo,zeroValue,hi,hz,asInt,asIntOf,w1,hneg,hbig,hm0,hn,h63',h48',Question.forced,ho,newRow,grownCap]
end
end
section
variable {B:Operand}{FT:Nat->Option Nat}{H':aW}{P:Program}{T:List cS}{a:Act}{b:List Value}{bytes:Nat}{c:dA}{e:TypeId}{es:List<|List AV}{fl:Nat}{i:TypeInfo}{m n:Nat}{o:Oper}{r:AV}{s:Nat}{t t':TypeId}{tm:List AV}{v:Value}{x:bB}{x':Operand}{y:bB}{ys:List<|List AV}{z:List Value}
section
theorem aCI[aF]{i j:Nat}{x:AV}(h:bM (es++ys) i j=some x): (i<es.length/\bM es i j=some x)\/(es.length<=i/\bM ys (i-es.length) j=some x):=by
 let⟨e,a,b⟩:=cZ h;rw[Yk] at a;split at a
 .exact .inl ⟨by assumption,by simp[bM,a,b]⟩
 .exact .inr ⟨by omega,by simp[bM,a,b]⟩
theorem Oy[aF]{a rest:List Value}(l:fA FT c s es a)(m:fA FT c s ys b):
 ∀i j x,bM (es++ys) i j=some x->∃u,(a++b++rest)[i*s+j]?=some u/\bF u=true/\RV FT c x u:=by
 intro i j x o;rcases aCI o with⟨n,k⟩ | ⟨n,k⟩
 .let⟨u,f,g,h⟩:=l.2 i j x k;refine⟨u,?_,g,h⟩;have d:=(Ze.1 f).1;rw[Ye,Zo d];exact f
 .let⟨u,f,g,h⟩:=m.2 _ j x k;refine⟨u,?_,g,h⟩;have d:=(Ze.1 f).1;have e:i*s+j=a.length+((i-es.length)*s+j):=by
   rw[l.1,<-Yu,<-ZA];congr 2;omega
  rw[e,Ye,ZX<|by omega,YZ,Zo d];exact f
theorem aA2(h:lI n bytes=true): n*bytes<=2 ^ 40/\n<=2 ^ 40:=by
 simpa [lI] using h
theorem aAQ[aF]{cap:Nat}(h:lI (n+m) bytes=true)(a:cap<n+m): Builtin.nextslicecap (n+m) cap*bytes<=281474976710656/\((n+m:Nat):Int)<=9223372036854775807:=by
 let⟨b,c⟩:=aA2 h;exact⟨growslice_fits a<|by omega,by omega⟩
theorem Jf[aF]{k:Nat}{cc:Array Value}(t:∀e∈es,e.length=s)(n:∀e∈ys,e.length=s)(y:k<=es.length)(r:fA FT c s ys b)(l:k*s+b.length<=cc.size)(d:∀i j x,bM es i j=some x->∃v,cc[i*s+j]?=some v/\bF v=true/\RV FT c x v):
 (∀e∈aQ es k ys,e.length=s) /\
 ∀i j x,bM (aQ es k ys) i j=some x->∃v,((aQ cc.toList (k*s) b).toArray)[i*s+j]?=some v/\bF v=true/\RV FT c x v:=by
 refine⟨?_,?_⟩
 .intro e he;simp only[aQ,ZD] at he;rcases he with h | h | h
  .exact t e<|Z7 h
  .exact n e h
  .exact t e<|ZZ h
 .intro i j x B;have f:k*s+b.length<=cc.toList.length:=by simpa using l
  simp only[WH,Jw f];let⟨e,a,q⟩:=cZ B;unfold aQ at a;rw[Yk] at a;simp only[ZH,Yq y] at a;have p:∀g:List AV,(g∈es\/g∈ys)->e=g->j<s:=by
   intro g A he;have:g.length=s:=A.elim (t g)<|n g;rw[<-this,<-he];exact (Ze.1 q).1
  split at a
  .rename_i u;rw[Zs,Zu u] at a;have w:=p e (.inl<|Zg a) rfl;have:i*s+j<k*s:=NI u w;rw[Zu this];simpa using d i j x<|by simp[bM,a,q]
  .rename_i u;rw[Yk] at a;split at a
   .rename_i m;have w:=p e (.inr<|Zg a) rfl;have o:k*s<=i*s:=Zr s (by omega);have C:i*s+j-k*s=(i-k)*s+j:=by rw[YR];omega
    have D:(i-k)*s+j<ys.length*s:=NI m w;rw[ZF<|by omega,Zu<|by rw[r.1];omega,C];exact r.2 _ j x<|by simp[bM,a,q]
   .rename_i m;rw[Zw] at a;have z:k+ys.length+(i-k-ys.length)=i:=by omega
    rw[z] at a;have o:(k+ys.length)*s<=i*s:=Zr s (by omega);rw[ZA] at o;rw[ZF<|by omega,ZF<|by rw[r.1];omega];simpa using d i j x<|by simp[bM,a,q]
theorem sU[aF](j:bX FT c){x:AV}{b:List<|List AV}(l:RV FT c x v)(h:rd c.H x=some b)(m:∀e∈b,e.length=s)(g:0<s):
 ∃xa f a,v=.slice xa b.length f/\fA FT c s b a/\(Builtin.firstCells s b.length<|.slice xa b.length f).run P c.w.drew=.ok a.toArray c.w.drew:=by
 let⟨xa,f,d,i,_,n,k⟩:=aDK (P:=P) j l h m g;exact⟨xa,f,d,i,n,by rw[<-i];exact k _<|K8 _⟩
theorem aAC[aF](O:bX (aJ T) c)(j3:fl<=c.H.length){x:AV}{xv yv z:Value}{y:List Value}(hx:RV (aJ T) c x xv)(N:Src P c.w t t' e i yv m y)(hE:fA (aJ T) c s ys y)(hm:ys.length=m)(c2:i.size=s)(o1:i.bytes=bytes)(hz:i.zero=some z)(j1:z.cells.size=s)(d:cR fl c.H s bytes x ys=some (r,H'))(F:∀cv w',(Builtin.append_ #[t,t'] o.type #[xv,yv]).run P c.w=.ok cv w'->(execOp a.eval o).run P c.w=.ok (.value cv) w'): dJ P (aJ T) c fl o a r H':=by
 subst c2 o1 hm;unfold cR at d;split at d
 .rename_i c1;let⟨i2,d3,a3⟩:=c1;have V:=Ec i2;have C:ys.length=0->(∃xa n cap,xv=.slice xa n cap/\n<=cap)->dJ P (aJ T) c fl o a x c.H:=by
   rintro W ⟨xa,n,cap,rfl,a2⟩;have e2:y=[]:=YO (by rw[hE.1,W,YQ]);have:=N.run o.type xa n cap (by omega) c.w (by intro ad _;rw[e2];simp[storeCells]) λ_=>rfl;rw[W] at this;exact bT O (F _ _ this) hx
  have Y:∀(es:List<|List AV) (xa:Option Addr) (cap:Nat) (q:List Value),xv=.slice xa es.length cap->(∀e∈es,e.length=i.size)->fA (aJ T) c i.size es q->
   (Builtin.firstCells i.size es.length<|.slice xa es.length cap).run P c.w.drew=.ok q.toArray c.w.drew->cap<es.length+ys.length->lI (es.length+ys.length) i.bytes=true->
   ∃g:Array Value,∃E,es.length+ys.length<=E/\g.size=E*i.size /\
    (execOp a.eval o).run P c.w=.ok (.value<|.slice (some ⟨c.w.heap.size,0,none⟩) (es.length+ys.length) E) (c.w.drew.alloc<|.cells g e (0,0)) /\
    (∀f∈es++ys,f.length=i.size)/\∀k j x,bM (es++ys) k j=some x->∃v,g[k*i.size+j]?=some v/\bF v=true/\RV (aJ T) c x v:=by
   intro es xa cap q i1 a2 hO n1 D L;let⟨f1,f2⟩:=aAQ L D;let⟨g,g1,g2⟩:=N.grow o.type z xa es.length cap q hz D f2 f1 n1;have f3:=WM c.w (es.length+ys.length) cap e;refine⟨g,grownCap c.w (es.length+ys.length) cap e,f3,?_,?_,?_,?_⟩
   .have:=congrArg List.length g1;simp only[Zx,Zh,hO.1,hE.1,XY,j1] at this;rw[this,<-ZA,<-ZA];congr 1;omega
   .exact F _ _<|by rw[i1];exact g2
   .intro f hf;rcases ZD.1 hf with h | h
    .exact a2 f h
    .exact V f h
   .intro k j x hx;let⟨u,k1,k2,k3⟩:=Oy (rest:=(Builtin.zeroCells z.cells<|grownCap c.w (es.length+ys.length) cap e-(es.length+ys.length)).toList) hO hE k j x hx;refine⟨u,?_,k2,k3⟩;rw[<-g1] at k1;simpa using k1
  have M:∀(es:List<|List AV) (xa:Option Addr) (cap:Nat) (q:List Value),xv=.slice xa es.length cap->(∀e∈es,e.length=i.size)->fA (aJ T) c i.size es q->
   (Builtin.firstCells i.size es.length<|.slice xa es.length cap).run P c.w.drew=.ok q.toArray c.w.drew->cap<es.length+ys.length->lI (es.length+ys.length) i.bytes=true->
   dJ P (aJ T) c fl o a (.ms c.H.length (es.length+ys.length) 0<|es.length+ys.length) (c.H++[.blk i.size<|es++ys]):=by
   intro es xa cap q h1 h2 h3 h4 h5 h6;let⟨g,E,q1,q2,q3,q4,q5⟩:=Y es xa cap q h1 h2 h3 h4 h5 h6;have:=Cc (P:=P) (o:=o) (a:=a) O j3 false (es:=es++ys) (n:=es.length+ys.length) (cap:=E) (cv:=g) (t:=e) (s:=i.size) (w':=c.w.drew.alloc<|.cells g e (0,0))
    (by simp) q1 (by simp) rfl rfl rfl rfl q3 q2 q4 q5
   simpa using this
  split at d
  .have Q:=hx.lit_inv;split at d
   .rename_i W;cases d;exact C W ⟨none,0,0,Q,Zf _⟩
   .rename_i W;cases d;have:=M [] none 0 [] Q (by simp) ⟨by simp,λi j x hx=>by simp[bM] at hx⟩ (by simp[Builtin.firstCells]) (by simp;omega) (by simpa using a3);simpa using this
  .rename_i f es;let⟨xa,cap,Q,a2,c3⟩:=aFP hx.sl_inv;split at d
   .rename_i W;cases d;exact C W ⟨xa,_,cap,Q,a2⟩
   .rename_i W;split at d
    .rename_i hc;cases d;have b2:=Ec hc.2.1;let⟨j2,l3,q,k1,k2,k3⟩:=sU (P:=P) O hx (by simp[rd]:rd c.H (.sl f es)=some es) b2 d3;rw[Q] at k1;cases k1;exact M es xa cap q Q b2 k2 k3 (by rw[c3 hc.1];omega) hc.2.2
    .cases d
  .rename_i id tot off len;let⟨ad,cap,s0,n0,Q,g1,g2,g3,g4⟩:=hx.ms_inv;split at d
   .rename_i s' es A;split at d
    .rename_i hc;obtain⟨rfl,S,L⟩:=hc;rw[eV A] at g1;cases g1;let⟨m1,m2⟩:=g4 S.symm;have G:=O.lens id i.size es A;split at d
     .rename_i W;cases d;exact C W ⟨ad,len,cap,Q,g3⟩
     .rename_i W;split at d
      .rename_i K;split at d
       .rename_i b1;obtain⟨rfl,rfl⟩:=b1;cases d;subst S;have R:cap<es.length+ys.length->dJ P (aJ T) c fl o a (.ms id (es.length+ys.length) 0<|es.length+ys.length) (c.H.set id<|.blk i.size<|es++ys):=by
         intro D;let⟨j2,l3,q,k1,k2,k3⟩:=sU (P:=P) O hx (by simp[rd,A]:rd c.H (.ms id es.length 0 es.length)=some es) G d3;rw[Q] at k1;cases k1;let⟨g,E,q1,q2,q3,q4,q5⟩:=Y es ad cap q Q G k2 k3 D L;have e1:es.length<(es++ys).length:=by simp;omega
         refine eO (β':=upd c.β id c.w.heap.size) q3 (Fw (ob:=.cells g e (0,0)) O K A e1 rfl rfl rfl rfl)
          (HY (cs':=g) (T:=e) O A e1 rfl rfl rfl rfl q4 (by rw[q2];exact Zr _<|by simpa using q1) q5) ?_
         refine .ms id _ 0 _ _ E i.size _ (by rw[tN A];simp) (Zf _) q1 λ_=>⟨by omega,.inr ⟨c.w.heap.size,g,e,_,dF _ _ _,?_,by simpa using q2.symm,rfl,λ_=>by simp⟩⟩;exact Wq c.w.drew _
        rcases m2 with⟨_,X,I,m5⟩ | ⟨b,cc,U,a',X,I,m5,m6,m7⟩
        .exact R<|by omega
        .by_cases D:cap<es.length+ys.length
         .exact R D
         .have b3:cap≠0:=by omega
          have ha:=m7 b3;subst m6;subst ha;let⟨i3,l2,q1,q2,q3⟩:=O.blk id i.size es b A X;rw[I] at q1;cases q1;have B:es.length*i.size+y.length<=cc.size:=by
           rw[hE.1,<-m5,<-ZA];exact Zr _<|by omega
          let⟨p1,p2⟩:=Jf (k:=es.length) G V (Zf _) hE B q3;have n3:aQ es es.length ys=es++ys:=by simp[aQ]
          rw[n3] at p1 p2;have a1:=YV P b (es.length*i.size) U y 0 cc c.w I (by simpa using B)<|hZ V hE;rw[gZ] at a1;have p:=cN (l:=cc.toList) (vs:=y) (k:=es.length*i.size) (by simpa using B);have J:=N.run o.type (some ⟨b,0*i.size,none⟩) es.length cap (by omega) _ (λn2 h=>by cases h;rw[fK];simpa using a1) (λh=>by cases h);rw[<-Q] at J;refine eO (β':=c.β) (F _ _ J)
           (mU (cs':=(aQ cc.toList (es.length*i.size) y).toArray) O K A X I (by simp) (by simpa using p) (Yv c.w b cc _ U _ I) (λk hk=>Yy c.w b k _ hk) (by simp) rfl rfl rfl)
           (wZ (cs':=(aQ cc.toList (es.length*i.size) y).toArray) O A X I (by simp) (by simpa using p) (Yv c.w b cc _ U _ I) (λk hk=>Yy c.w b k _ hk) (by simp) rfl rfl rfl p1 ?_ p2) ?_
          .simp only[Zh,YP,p,Zx];rw[ZA,<-hE.1];exact B
          .refine .ms id _ 0 _ _ cap i.size _ (by rw[tN A];simp) (Zf _) (by omega) λ_=>⟨by omega,.inr ⟨b,_,U,_,X,Yv c.w b cc _ U _ I,?_,rfl,λ_=>rfl⟩⟩;simpa [p] using m5
       .rename_i b1;split at d
        .rename_i d2;cases d;subst S;rcases m2 with⟨_,X,I,m5⟩ | ⟨b,cc,U,a',X,I,m5,m6,m7⟩
         .omega
         .let⟨i3,l2,q1,q2,q3⟩:=O.blk id i.size es b A X;rw[I] at q1;cases q1;have D:es.length<=off+cap:=by
           rcases ZI (off+cap) es.length with h | h
           .have:(off+cap+1)*i.size<=es.length*i.size:=Zr _ h;rw[ZA] at this;omega
           .exact h
          have b3:cap≠0:=by omega
          have ha:=m7 b3;subst m6;subst ha;have B:(off+len)*i.size+y.length<=cc.size:=by
           rw[hE.1,<-ZA];exact ZB (Zr _ d2) q2
          let⟨p1,p2⟩:=Jf (k:=off+len) G V (by omega) hE B q3;have a1:=YV P b ((off+len)*i.size) U y 0 cc c.w I (by simpa using B)<|hZ V hE;rw[gZ] at a1;have p:=cN (l:=cc.toList) (vs:=y) (k:=(off+len)*i.size) (by simpa using B);have Z:=cN (l:=es) (vs:=ys) (k:=off+len) d2;have J:=N.run o.type (some ⟨b,off*i.size,none⟩) len cap (by omega) _ (λn2 h=>by cases h;rw[fK,<-ZA];exact a1) (λh=>by cases h);rw[<-Q] at J;refine eO (β':=c.β) (F _ _ J)
           (mU (cs':=(aQ cc.toList ((off+len)*i.size) y).toArray) O K A X I (by omega) (by simpa using p) (Yv c.w b cc _ U _ I) (λk hk=>Yy c.w b k _ hk) (by simp) rfl rfl rfl)
           (wZ (cs':=(aQ cc.toList ((off+len)*i.size) y).toArray) O A X I (by omega) (by simpa using p) (Yv c.w b cc _ U _ I) (λk hk=>Yy c.w b k _ hk) (by simp) rfl rfl rfl p1 ?_ p2) ?_
          .simp only[YP,p,Zx,Z];exact q2
          .refine .ms id _ off _ _ cap i.size _ (by rw[tN A];simp[Z]) (Zf _) (by omega) λ_=>⟨by omega,.inr ⟨b,_,U,_,X,Yv c.w b cc _ U _ I,?_,rfl,λ_=>rfl⟩⟩;simpa [p] using m5
        .cases d
      .cases d
    .cases d
   .cases d
  .cases d
 .cases d
theorem OS[aF](l:bX (aJ T) c)(j:TR (aJ T) c tm a.tmps)(A:fl<=c.H.length){D:Operand}{u E:TypeId}{z:Value}(J:o.op=.call ⟨.builtin .append,#[D,B],#[t,u]⟩)(M:aP T x D=true)(L:aP T y B=true)(F:P.underlying t=some (.slice e))(n:P.underlying u=some (.slice E))(K:P.info? e=some i)(f:i.size=s)(p:i.bytes=bytes)(N:i.zero=some z)(q:z.cells.size=s)(m:rd c.H (aG tm y)=some ys)(b:cR fl c.H s bytes (aG tm x) ys=some (r,H')): dJ P (aJ T) c fl o a r H':=by
 have g:eZ s ys=true/\0<s:=by
  unfold cR at b;split at b
  .rename_i h;exact⟨h.1,h.2.1⟩
  .cases b
 let⟨xa,O,d,C,_,G,v⟩:=aDK (P:=P) l (aX l j L) m (Ec g.1) g.2;have k:Src P c.w t u e i (a.eval B) ys.length d:=by
  rw[C];exact aAs F n K<|by rw[f,<-C];exact v
 refine aAC l A (aX l j M) k G rfl f p N q b ?_;intro cv w' I;simp[execOp,J,resolve,invoke,builtin,I]
theorem UK[aF](d:z.length=s)(b:∀u∈z,bF u=true)(e:v.cells=z.toArray):
 fA FT c s (List.replicate n<|z.map AV.lit) (Builtin.zeroCells v.cells n).toList:=by
 have a:v.cells.size=s:=by rw[e];simpa using d
 let⟨_,h⟩:=Kh (FT:=FT) (c:=c) (n:=n) (m:=n) (cv:=v.cells) d b (by rw[e])<|Zf _;refine⟨by simp[XY,a],λi j x g=>?_⟩;let⟨u,f,k,l⟩:=h i j x g;refine⟨u,?_,k,l⟩;rw[<-f];simp only[Builtin.zeroCells,a,Z8]
theorem aGo[aF](G:bX (aJ T) c)(f:TR (aJ T) c tm a.tmps)(L:fl<=c.H.length){M:Operand}{q:TypeId}{k:IntKind}(Q:o.op=.call ⟨.builtin .append,#[M,B],#[t,q]⟩)(V:aP T x M=true)(R:aP T y B=true)(S:P.underlying t=some (.slice e))(A:P.underlying q=some (.int k))(D:dK P e s=true)(u:tS P e bytes=true)(X:lR P e z=true)(j:z.length=s)(W:iC (aG tm y)=some n)(l:n<=2 ^ 20)(E:n*bytes<=2 ^ 40)(b:cR fl c.H s bytes (aG tm x) (List.replicate n<|z.map .lit)=some (r,H')): dJ P (aJ T) c fl o a r H':=by
 have O:0<s:=by
  unfold cR at b;split at b
  .rename_i h;exact h.2.1
  .cases b
 let⟨i,C,I⟩:=eL D;let⟨Y,v,g,N,m,K⟩:=gM X;rw[C] at g;cases g;have d:i.bytes=bytes:=by simpa [tS,C] using u
 have J:v.cells.size=s:=by rw[m];simpa using j
 let⟨k',F⟩:=sM (aX G f R) W;have p:Src P c.w t q e i (a.eval B) n (Builtin.zeroCells v.cells n).toList:=by
  rw[F];exact aJh S A C N l (by rw[d];exact E) (by omega)<|by omega
 refine aAC G L (aX G f V) p (UK j K m) (by simp) I d N J b ?_;intro cv w' U;simp[execOp,Q,resolve,invoke,builtin,U]
theorem aOy[aF](m:bX (aJ T) c)(B:TR (aJ T) c tm a.tmps){Y:Operand}{id tot off len:Nat}(Z:o.op=.call ⟨.builtin .copy,#[x',Y],#[t,t']⟩)(h1:aP T x x'=true)(h2:aP T y Y=true)(W:P.underlying t=some (.slice e))(X:P.info? e=some i)(N:i.size=s)(R:rd c.H (aG tm y)=some ys)(S:eZ s ys=true)(L:0<s)(hx:aG tm x=.ms id tot off len)(g:c.H[id]?=some (.blk s es))(A:es.length=tot)(V:ys.length<=len)(p:fl<=id)(Q:(if ys.length=0 then some (AV.lit<|.int .i64 0,c.H) else some (AV.lit<|.int .i64 ys.length,c.H.set id<|.blk s<|aQ es off ys))=some (r,H')): dJ P (aJ T) c fl o a r H':=by
 have q:=Ec S;let⟨xa,xc,d,M,_,G,U⟩:=aDK (P:=P) m (aX m B h2) R q L;have D:=aX m B h1;rw[hx] at D;let⟨ad,cap,s0,n0,C,g1,g2,g3,g4⟩:=D.ms_inv;rw[eV g] at g1;cases g1;let⟨m1,m2⟩:=g4 A.symm;have J:=U c.w<|Ei.refl _;have j:Nat.min ys.length len=ys.length:=Yq V;subst N;rw[M] at J;split at Q
 .rename_i E;cases Q;have F:d=[]:=YO (by rw[G.1,E,YQ]);subst F;refine bT (cv:=.int .i64 0) m ?_<|RV.lit _;have a2:Nat.min ys.length len=0:=by rw[j,E]
  rw[E] at J;cases ad<;>simp[execOp,Z,resolve,invoke,builtin,Builtin.copy_,Zm W,sizeOf,typeInfo,X,Builtin.lenOf,M,C,E,J,storeCells,goInt]
 .rename_i E;cases Q;rcases m2 with⟨_,I,n,m5⟩ | ⟨b,cc,O,a',I,n,m5,m6,m7⟩
  .omega
  .have ha:=m7 (by omega);subst m6;subst ha;let⟨a3,a1,q1,q2,q3⟩:=m.blk id i.size es b g I;rw[n] at q1;cases q1;have z:off+ys.length<=es.length:=by omega
   have h:off*i.size+d.length<=cc.size:=by
    rw[G.1,<-ZA];exact ZB (Zr _ z) q2
   let⟨p1,p2⟩:=Jf (k:=off) (m.lens id _ es g) q (by omega) G h q3;have v:=YV P b (off*i.size) O d 0 cc c.w n (by simpa using h)<|hZ q G;rw[gZ] at v;have f:=cN (l:=cc.toList) (vs:=d) (k:=off*i.size) (by simpa using h);have u:=cN (l:=es) (vs:=ys) (k:=off) z;refine eO (β':=c.β) (cv:=.int .i64 ys.length) ?_
    (mU (cs':=(aQ cc.toList (off*i.size) d).toArray) m p g I n (by omega) (by simpa using f) (Yv c.w b cc _ O _ n) (λk K=>Yy c.w b k _ K) (by simp) rfl rfl rfl)
    (wZ (cs':=(aQ cc.toList (off*i.size) d).toArray) m g I n (by omega) (by simpa using f) (Yv c.w b cc _ O _ n) (λk K=>Yy c.w b k _ K) (by simp) rfl rfl rfl p1 ?_ p2)<|RV.lit _
   .simp[execOp,Z,resolve,invoke,builtin,Builtin.copy_,Zm W,sizeOf,typeInfo,X,Builtin.lenOf,M,C,j,J,v,goInt]
   .simp only[YP,f,Zx,u];exact q2
theorem aLy[aF](A:bX (aJ T) c)(X:TR (aJ T) c tm a.tmps)(R:o.op=.call ⟨.builtin .clear,#[x'],#[t]⟩)(h1:aP T x x'=true)(Q:P.underlying t=some (.slice e))(V:dK P e s=true)(hz:lR P e z=true)(g:(aG tm x=.lit (.slice none 0 0)/\r=.tup []/\H'=c.H)\/(∃f,aG tm x=.sl f []/\r=.tup []/\H'=c.H) \/
  ∃id tot off len es,aG tm x=.ms id tot off len/\c.H[id]?=some (.blk s es)/\es.length=tot/\off+len<=tot/\fl<=id/\0<s/\z.length=s /\
   (if len=0 then some (AV.tup [],c.H) else some (AV.tup [],c.H.set id<|.blk s<|aQ es off<|List.replicate len<|z.map .lit))=some (r,H')): dJ P (aJ T) c fl o a r H':=by
 have h:=aX A X h1;have q:RV (aJ T) c (.tup [])<|.tuple #[]:=.tup [] #[] (λ_=>bQ) rfl (λi x g=>by simp at g) (λi x g=>by simp at g);let⟨i0,c2,b1⟩:=eL V;let⟨i',v,a2,hv,Y,a3⟩:=gM hz;rcases g with⟨g,rfl,rfl⟩ | ⟨f,g,rfl,rfl⟩ | ⟨id,tot,off,len,es,g,p,O,c3,C,c1,L,Z⟩
 .rw[g] at h;refine bT (cv:=.tuple #[]) A ?_ q;simp[execOp,R,resolve,invoke,builtin,Builtin.clear_,Zm Q,h.lit_inv]
 .rw[g] at h;let⟨ad,cap,a1,_⟩:=aFP h.sl_inv;refine bT (cv:=.tuple #[]) A ?_ q;have K:a.eval x'=.slice ad 0 cap:=a1;cases ad<;>simp[execOp,R,resolve,invoke,builtin,Builtin.clear_,Zm Q,K]
 .rw[g] at h;let⟨ad,cap,s0,n0,I,g1,g2,g3,g4⟩:=h.ms_inv;rw[eV p] at g1;cases g1;let⟨m1,m2⟩:=g4 O.symm;split at Z
  .rename_i h0;cases Z;subst h0;refine bT (cv:=.tuple #[]) A ?_ q;cases ad<;>simp[execOp,R,resolve,invoke,builtin,Builtin.clear_,Zm Q,I]
  .rename_i h0;cases Z;rcases m2 with⟨_,S,E,m5⟩ | ⟨b,cc,Ty,a',S,E,m5,m6,m7⟩
   .omega
   .have ha:=m7 (by omega);subst m6;subst ha;let⟨b2,b3,q1,q2,q3⟩:=A.blk id s es b p S;rw[E] at q1;cases q1;have G:v.cells.toList=z:=by rw[Y]
    have B:v.cells.size=s:=by rw[<-Zx,G,L]
    let⟨W,p2⟩:=Kh (FT:=aJ T) (c:=c) (n:=len) (m:=len) L a3 G<|Zf _;have hE:fA (aJ T) c s (List.replicate len<|z.map AV.lit) (Builtin.zeroCells v.cells len).toList:=by
     refine⟨by simp[Builtin.zeroCells,B],λi j x g=>?_⟩;let⟨u,w1,w2,w3⟩:=p2 i j x g;exact⟨u,by simp only[Builtin.zeroCells,Z8,B];rw[B] at w1;exact w1,w2,w3⟩
    have J:=W;have M:off+len<=es.length:=by omega
    have y:off*s+(Builtin.zeroCells v.cells len).toList.length<=cc.size:=by
     rw[hE.1,Yo,<-ZA];exact ZB (Zr _ M) q2
    let⟨W,p2⟩:=Jf (k:=off) (A.lens id _ es p) J (by omega) hE y q3;have F:=YV P b (off*s) Ty _ 0 cc c.w E (by simpa using y)<|hZ J hE;rw[gZ] at F;have d:=cN (l:=cc.toList) (vs:=(Builtin.zeroCells v.cells len).toList) (k:=off*s) (by simpa using y);have D:=cN (l:=es) (vs:=List.replicate len<|z.map AV.lit) (k:=off) (by simpa using M);refine eO (β':=c.β) (cv:=.tuple #[]) ?_
     (mU (cs':=(aQ cc.toList (off*s) (Builtin.zeroCells v.cells len).toList).toArray) A C p S E (by omega) (by simpa using d) (Yv c.w b cc _ Ty _ E) (λk U=>Yy c.w b k _ U) (by simp) rfl rfl rfl)
     (wZ (cs':=(aQ cc.toList (off*s) (Builtin.zeroCells v.cells len).toList).toArray) A p S E (by omega) (by simpa using d) (Yv c.w b cc _ Ty _ E) (λk U=>Yy c.w b k _ U) (by simp) rfl rfl rfl W ?_ p2)<|.tup [] #[] (λ_=>bQ) rfl (λi x g=>by simp at g) λi x g=>by simp at g
    .let⟨n1,N⟩:∃n1,len=n1+1:=⟨len-1,by omega⟩;simp[execOp,R,resolve,invoke,builtin,Builtin.clear_,Zm Q,I,zeroValue,typeInfo,a2,hv,F,N];subst N;simp[F]
    .simp only[YP,d,Zx,D];exact q2
theorem UD: ∀(es:List<|List AV) (f:List Int) (a:List Value),Lm es=some f->fA FT c 1 es a->a=f.map (Value.int .u8)/\∀e∈es,e.length=1
 | [],f,a,h,k=>by
  simp only[Lm,Za] at h;subst h;exact⟨YO<|by simpa using k.1,by simp⟩
 | e::r,f,a,h,k=>by
  simp only[Lm] at h;split at h
  .rename_i n;split at h
   .rename_i l y;cases h;let⟨b,d⟩:=k;cases a with
    | nil=>simp at b
    | cons v vs=>
     let⟨u,p,_,s⟩:=d 0 0 (.lit<|.int .u8 n) rfl;simp only[YQ,Z0,Zt,Za] at p;subst p;have m:fA FT c 1 r vs:=⟨by simpa using b,λi j x t=>by
      let⟨u,g,o,w⟩:=d (i+1) j x (by simpa [bM] using t);have q:(i+1)*1+j=(i*1+j)+1:=by omega
      rw[q,ZL] at g;exact⟨u,g,o,w⟩⟩
     let⟨g,o⟩:=UD r l vs y m;refine⟨by rw[s.lit_inv,g];rfl,λe he=>?_⟩;rcases ZN.1 he with rfl | he
     .rfl
     .exact o e he
   .cases h
  .cases h
theorem M3: ∀(es:List<|List AV) (a:List Int),Lm es=some a->a.length=es.length/\∀e∈es,e.length=1
 | [],a,h=>by
  simp only[Lm,Za] at h;subst h;exact⟨rfl,by simp⟩
 | e::r,a,h=>by
  simp only[Lm] at h;split at h
  .split at h
   .rename_i l d;cases h;let⟨c,b⟩:=M3 r l d;refine⟨by simp[c],λe he=>?_⟩;rcases ZN.1 he with rfl | he
    .rfl
    .exact b e he
   .cases h
  .cases h
theorem aLx[aF](p:bX (aJ T) c)(n:TR (aJ T) c tm a.tmps){r:Operand}{s d:TypeId}{f:Bool}{b:List Int}(E:o.op=.convert s d r)(A:aP T x r=true)(F:aG tm x=.sl f es)(h:aCq P s d=true)(j:Lm es=some b): dJ P (aJ T) c fl o a (.lit<|.string<|NB b) c.H:=by
 have u:=aX p n A;rw[F] at u;let⟨C,l⟩:=M3 es b j;let⟨xa,v,i,z,_,B,k⟩:=aDK (P:=P) p u (show rd c.H (.sl f es)=some es from rfl) l (by omega);obtain⟨rfl,_⟩:=UD es b i j B;have m:=k c.w<|Ei.refl _;unfold aCq at h;split at h
 .rename_i e q;split at h
  .rename_i he;split at h
   .rename_i y;refine bT (cv:=.string<|NB b) p ?_<|RV.lit _;rw[z] at m;have g:(convert s d<|.slice xa es.length v).run P c.w=.ok (.string<|NB b) c.w:=by
     cases xa with
     | none=>
      have G:b=[]:=by
       have:(b.map<|Value.int .u8).toArray=#[]:=by
        have:=m;simp[Builtin.firstCells] at this;simpa using this.symm
       simpa using this
      subst G;simp[convert,Zm q,Zm y,Zm he,Conv.bytesToString,NB]
     | some ad=>
      have D:(loadCells ad es.length).run P c.w=.ok (b.map<|Value.int .u8).toArray c.w:=by
       simpa [Builtin.firstCells] using m
      simp[convert,Zm q,Zm y,Zm he,run_bytesToString c.w ad es.length v b D,NB]
    simp[execOp,E,z,g]
   .cases h
  .cases h
 .cases h
end
end
section
variable {FT:Nat->Option Nat}{c c':dA}{v:Value}{x:AV}
section
theorem Tg[aF]{n:Nat}{I:Nat->Prop}(M:bX FT c')(a:∀b,lE c' b->I b)(g:∀id b,n<=id->c'.β id=some b->I b):
 ∀(d:Nat) (x:AV) (v:Value),RV FT c' x v->RP c'.w I (eE c'.H n d x) v
 | d,.lit u,v,h=>by
  have:eE c'.H n d (.lit u)=sK u:=by cases d<;>rfl
  rw[this,h.lit_inv];exact aBZ u
 | d,.sl f es,v,h=>by
  have:eE c'.H n d (.sl f es)=.sl false es:=by cases d<;>rfl
  rw[this];exact aBY<|h.sl_inv.mono λb o J t=>⟨a b J,t⟩
 | 0,.ms id tot off len,v,_=>.undef v
 | d+1,.ms id tot off len,v,h=>by
  simp only[eE];split
  .rename_i V;split
   .rename_i es c;let⟨ad,cap,B,n0,hv,N,g2,Y,Q⟩:=h.ms_inv;unfold rd at c;simp only at c;split at c
    .rename_i s' r p;split at c
     .rename_i G;cases c;rw[eV p] at N;cases N;let⟨m1,m2⟩:=Q G.symm;have A:((r.drop off).take len).length=len:=by simp;omega
      subst hv;by_cases R:len=0
      .subst R;simp only[Wr,Yn];exact .nil false _ _ λh=>by cases h
      .rcases m2 with⟨_,m3,X,m5⟩ | ⟨b,cc,Ty,a',m3,X,m5,m6,m7⟩
       .omega
       .have ha:=m7 (by omega);subst m6;subst ha;let⟨a2,a1,q1,q2,q3⟩:=M.blk id B r b p m3;rw[X] at q1;cases q1;have C:=M.lens id B r p;have m:∀i j x,bM (((r.drop off).take len).map λe=>e.map<|eE c'.H n d) i j=some x->
         ∃y u,x=eE c'.H n d y/\cc[off*B+(i*B+j)]?=some u/\bF u=true/\RV FT c' y u:=by
         intro i j x q;obtain⟨y,hy,rfl⟩:=jO q;let⟨e,he,hj⟩:=cZ hy;rw[Zs] at he;split at he
         .rw[Zw] at he;let⟨u,s,E,K⟩:=q3 (off+i) j y (by simp[bM,he,hj]);exact⟨y,u,rfl,by rw[<-s];congr 1;rw[ZA];omega,E,K⟩
         .cases he
        have z:=RP.sl (w:=c'.w) (I:=I) false (((r.drop off).take len).map λe=>e.map<|eE c'.H n d) b (off*B) cap cc Ty (0,0) B
         (λi j=>(cc[off*B+(i*B+j)]?).getD bQ)
         (by intro e;have:=congrArg List.length e;simp at this;omega) (g id b V m3) X
         (λe he=>by
          simp only[Yh] at he;obtain⟨e0,L,rfl⟩:=he;simpa using C e0<|ZZ<|Z7 L)
         (by simp only[ZO,A];exact Y) λh=>by cases h
         (λi j x q=>by
          let⟨y,u,_,s,E,_⟩:=m i j x q;simp[s,E])
         (λi j x q=>by
          let⟨y,u,W,s,_,K⟩:=m i j x q;rw[W];simp only[s,Yp];exact Tg M a g d y u K)
        simp only[ZO,A] at z;exact z
     .cases c
    .cases c
   .exact .undef v
  .exact .undef v
 | d,.undef,v,_=>by
  have:eE c'.H n d .undef=.undef:=by cases d<;>rfl
  rw[this];exact .undef v
 | d,.ptr ..,v,_=>by cases d<;>exact .undef v
 | d,.rptr ..,v,_=>by cases d<;>exact .undef v
 | d,.vw ..,v,_=>by cases d<;>exact .undef v
 | d,.sptr cs,v,h=>by
  have:eE c'.H n d (.sptr cs)=.sptr cs:=by cases d<;>rfl
  rw[this];cases h with
  | pure _ _ T=>exact T.mono λb o J t=>⟨a b J,t⟩
 | d,.rmp l,v,h=>by
  have:eE c'.H n d (.rmp l)=.rmp l:=by cases d<;>rfl
  rw[this];cases h with
  | pure _ _ T=>exact T.mono λb o J t=>⟨a b J,t⟩
 | 0,.mp id,v,_=>.undef v
 | d+1,.mp id,v,h=>by
  simp only[eE];split
  .rename_i V;split
   .rename_i l p;obtain⟨b,rfl,_,t⟩:=h.mp_inv;let⟨es,S,N,⟨g2,Y⟩,Q⟩:=M.map id l b p t;refine .rmp _ b es S (λi=>(es[i]?).getD default) (g id b V t) N (by simpa using g2) Y ?_ ?_
    .intro i k x q;rw[Zk,Zq] at q;let⟨⟨U,O⟩,L,Z⟩:=q;cases Z;let⟨e,s,E,_⟩:=Q i U O L;simp[s,E]
    .intro i k x q;rw[Zk,Zq] at q;let⟨⟨U,O⟩,L,Z⟩:=q;cases Z;let⟨e,s,_,K⟩:=Q i U O L;simp only[s,Yp];exact Tg M a g d O e.val K
   .exact .undef v
  .exact .undef v
 | d,.it ..,v,_=>by cases d<;>exact .undef v
 | d,.fn ..,v,_=>by cases d<;>exact .undef v
 | d,.agg ..,v,_=>by cases d<;>exact .undef v
 | d,.tup ..,v,_=>by cases d<;>exact .undef v
def pD(c c':dA): dA:=⟨c'.w,c.X,c.β,c.H⟩
theorem Td[aF]{fl:Nat}(l:bX FT c)(h:bW c.H.length c c'): bW fl c (pD c c') where
 X:=rfl;os:=h.os;tape:=h.tape;output:=h.output;drawn:=h.drawn;size:=h.size;len:=Zf _;frame:=h.frame;img:=λi _ a=>.inr ⟨i,a⟩;blkS:=λid s n e=>⟨n,e,Zf _,λ_=>⟨rfl,λb cs T a g=>⟨cs,by
  have:=(h.floor id<|l.dom id b a).2.2 b a;rw[<-g];exact this,rfl⟩⟩⟩
 mpS:=λ_ r=>⟨r,rfl⟩;floor:=λid _=>⟨rfl,rfl,λb a=>(h.floor id<|l.dom id b a).2.2 b a⟩
theorem x8[aF](d:bX FT c)(h:bW c.H.length c c'): bX FT<|pD c c':=by
 have g:=Td (fl:=0) d h;have f:∀id b,c.β id=some b->c'.w.heap[b]?=c.w.heap[b]?:=λid b a=>(h.floor id<|d.dom id b a).2.2 b a;refine⟨d.gl.step g,d.inj,d.dom,d.nx,λk A=>d.fresh k<|ZB h.size A,d.lens,?_,?_,λid q b l a=>(f id b a).trans<|d.raw id q b l a⟩
 .intro id s es b l a;let⟨cs,T,y,n,u⟩:=d.blk id s es b l a;exact⟨cs,T,(f id b a).trans y,n,λi j x r=>let ⟨v,o,t,z⟩:=u i j x r;⟨v,o,t,z.step g⟩⟩
 .intro id m b l a;let⟨es,p,y,n,u⟩:=d.map id m b l a;exact⟨es,p,(f id b a).trans y,n,λi k x r=>let ⟨e,o,t,z⟩:=u i k x r;⟨e,o,t,z.step g⟩⟩
structure Fl(c c':dA): Prop where
 X:c'.X=c.X
 floor:∀id,id<c.H.length->c'.H[id]?=c.H[id]?/\c'.β id=c.β id
theorem bW.fl(h:bW c.H.length c c'): Fl c c':=⟨h.X,λid a=>⟨(h.floor id a).1,(h.floor id a).2.1⟩⟩
theorem IB[aF](O:bX FT c)(r:bX FT c')(h:Fl c c')(hr:RV FT c' x v): RV FT (pD c c') (gN c'.H c.H.length x) v:=by
 have l:∀b,lE c' b->lE (pD c c') b:=by
  intro b D;refine⟨by have:=D.1;rw[h.X] at this;exact this,λid d=>D.2 id ?_⟩;have g:c.β id=some b:=d;rw[(h.floor id<|O.dom id b g).2];exact g
 have u:∀id b,c.H.length<=id->c'.β id=some b->lE (pD c c') b:=by
  intro id b B z;refine⟨by have:=r.nx id b z;rwa [h.X] at this,λm g=>?_⟩;have k:c.β m=some b:=g;have M:=O.dom m b k;have:c'.β m=some b:=by rw[(h.floor m M).2];exact k
  have:=r.inj id m b z this;omega
 have t:∀id,id<c.H.length->shp c.H id=shp c'.H id:=λid d=>by simp[shp,(h.floor id d).1]
 cases hr with
 | pure _ _ hp=>
  have C:=hp.mono (w':=(pD c c').w) (I':=lE<|pD c c') λb o D z=>⟨l b D,z⟩;have B:=aBY C;cases C with
  | undef v=>exact .pure _ _<|.undef v
  | lit v=>exact .pure _ _ B
  | nil f a cap hf=>exact .pure _ _ B
  | sl f es b off cap cc T fz s j U Y N V h5 h6 h7 h8=>exact .pure _ _ B
  | sptr cs b off cc T fz j U Y N V=>exact .pure _ _ B
  | rmp y b es a3 j U Y N V h5 h6=>exact .pure _ _ B
 | ms id tot off len a cap s n p q A G=>
  simp only[gN];split
  .rename_i d;refine .ms id tot off len a cap s n (by show shp c.H id=_;rw[t id d];exact p) q A λe=>?_;let⟨m1,m2⟩:=G e;have Q:=(h.floor id d).2;refine⟨m1,?_⟩;rcases m2 with⟨L,E,J,K⟩ | ⟨b,cs,T,a',L,E,J,K,m7⟩
   .exact .inl ⟨Q.symm.trans L,E,J,K⟩
   .exact .inr ⟨b,cs,T,a',Q.symm.trans L,E,J,K,m7⟩
  .exact .pure _ _<|Tg r l u fC _ _<|.ms id tot off len a cap s n p q A G
 | ptr id tot I off a s n p q A=>
  simp only[gN];split
  .rename_i d;refine .ptr id tot I off a s n (by show shp c.H id=_;rw[t id d];exact p) q λe=>?_;let⟨b,z,ha⟩:=A e;exact⟨b,((h.floor id d).2).symm.trans z,ha⟩
  .exact RV.undef _
 | rptr=>exact RV.undef _
 | vnil=>exact RV.undef _
 | vw=>exact RV.undef _
 | mp id b p q=>
  simp only[gN];split
  .rename_i d;let⟨y,he,F⟩:=p;exact .mp id b ⟨y,by rw[<-he];exact ((h.floor id d).1).symm,F⟩<|((h.floor id d).2).symm.trans q
  .exact .pure _ _<|Tg r l u fC _ _<|.mp id b p q
 | it=>exact RV.undef _
 | fn vi f caps cv j p q A G=>
  cases caps with
  | nil=>exact .fn vi f [] cv j p q A λi x hx=>by simp at hx
  | cons _ _=>exact RV.undef _
 | agg=>exact RV.undef _
 | tup=>exact RV.undef _
theorem aD8[aF](g:bX FT c)(b:bX FT c')(h:Fl c c')(f:RV FT c' x v): RV FT (pD c c') (dZ c'.H c.H.length x) v:=by
 unfold dZ;split
 .rename_i cs;obtain⟨cv,d,rfl,j,l,k⟩:=f.agg_inv;refine .agg _ cv d (by simpa using j) ?_ ?_
  .intro i x a;simp only[Zk,Zq] at a;obtain⟨y,e,rfl⟩:=a;exact l i y e
  .intro i x a;simp only[Zk,Zq] at a;obtain⟨y,e,rfl⟩:=a;exact IB g b h<|k i y e
 .exact IB g b h f
theorem IA[aF](g:bX FT c)(b:bX FT c')(h:Fl c c')(f:RV FT c' x v): RV FT (pD c c') (fD c'.H c.H.length x) v:=by
 unfold fD;split
 .rename_i cs;obtain⟨cv,d,rfl,j,l,k⟩:=f.tup_inv;refine .tup _ cv d (by simpa using j) ?_ ?_
  .intro i x a;simp only[Zk,Zq] at a;obtain⟨y,e,rfl⟩:=a;exact l i y e
  .intro i x a;simp only[Zk,Zq] at a;obtain⟨y,e,rfl⟩:=a;exact aD8 g b h<|k i y e
 .exact aD8 g b h f
end
end
section
variable {FT:Nat->Option Nat}{P:Program}{T:List cS}{a:Act}{c c':dA}{cs e:List AV}{es:List (List AV)}{fl id k len:Nat}{o:Oper}{off s:Nat}{t:TypeId}{tm:List AV}{tot:Nat}{v:Value}{x:bB}{y:Operand}
section
def frz(c:dA)(id s:Nat)(es:List<|List AV): dA:=⟨c.w,c.X,λi=>if i=id then none else c.β i,c.H.set id<|.blk s<|es++[List.replicate s .undef]⟩
theorem qG{i:Nat}{es:List<|List AV}(h:i≠id): (frz c id s es).H[i]?=c.H[i]?:=by
 simp only[frz];rw[Zv<|Ne.symm h]
theorem Hi{es es':List<|List AV}(b:c.H[id]?=some (.blk s es')): (frz c id s es).H[id]?=some (.blk s<|es++[List.replicate s .undef]):=by
 have a:id<c.H.length:=by
  rcases ZI id c.H.length with h | h
  .exact h
  .rw[Zy h] at b;cases b
 simp only[frz];rw[Z3 a]
theorem tW[aF]{es:List<|List AV}(x:fl<=id)(k:c.H[id]?=some (.blk s es)): bW fl c (frz c id s es) where
 X:=rfl;os:=rfl;tape:=rfl;output:=rfl;drawn:=Zf _;size:=Zf _;len:=by simp[frz]
 frame:=λ_ _ _=>rfl;img:=λi b j=>by
  simp only[frz] at j;split at j
  .cases j
  .exact .inr ⟨_,j⟩
 blkS:=λi s' n m=>by
  by_cases a:i=id
  .subst a;simp only[shp,k,Za,Zi] at m;let⟨rfl,rfl⟩:=m;exact⟨es.length+1,by simp[shp,Hi k],by omega,λh=>by omega⟩
  .refine⟨n,by simp only[shp,qG a];exact m,Zf _,λ_=>⟨by simp[frz,a],λb cs T _ q=>⟨cs,q,rfl⟩⟩⟩
 mpS:=λi u=>by
  let⟨e,he,f⟩:=u;have a:i≠id:=by
   intro h;subst h;rw[k] at he;cases he;exact f
  exact⟨⟨e,by rw[qG a];exact he,f⟩,by simp[frz,a]⟩
 floor:=λi a=>by
  have:i≠id:=by omega
  exact⟨qG this,by simp[frz,this],λ_ _=>rfl⟩
theorem Te[aF]{es:List<|List AV}(f:bX FT c)(y:c.H[id]?=some (.blk s es)): bX FT<|frz c id s es:=by
 have g:=tW (fl:=0) (ZG _) y;have k:∀i b,(frz c id s es).β i=some b->i≠id/\c.β i=some b:=by
  intro i b a;simp only[frz] at a;split at a
  .cases a
  .rename_i h;exact⟨h,a⟩
 refine⟨f.gl.step g,λi j b d z=>f.inj i j b (k i b d).2 (k j b z).2,λi b d=>?_,λi b d=>f.nx i b (k i b d).2,f.fresh,?_,?_,?_,λi q b h a=>by
  let⟨d,a⟩:=k i b a;rw[qG d] at h;exact f.raw i q b h a⟩
 .have:=f.dom i b (k i b d).2;simpa [frz] using this
 .intro i s' es' h e he;by_cases d:i=id
  .subst d;rw[Hi y] at h;cases h;rcases ZD.1 he with he | he
   .exact f.lens i s es y e he
   .simp at he;subst he;simp
  .rw[qG d] at h;exact f.lens i s' es' h e he
 .intro i s' es' b h a;let⟨d,a⟩:=k i b a;rw[qG d] at h;let⟨cs,T,w,p,t⟩:=f.blk i s' es' b h a;exact⟨cs,T,w,p,λi j x r=>let ⟨v,o,u,n⟩:=t i j x r;⟨v,o,u,n.step g⟩⟩
 .intro i m b h a;let⟨d,a⟩:=k i b a;rw[qG d] at h;let⟨cs,T,w,p,t⟩:=f.map i m b h a;exact⟨cs,T,w,p,λi j x r=>let ⟨v,o,u,n⟩:=t i j x r;⟨v,o,u,n.step g⟩⟩
theorem aBB[aF]{es:List<|List AV}(z:bX FT c)(E:c.H[id]?=some (.blk s es))(n:es.length=tot)(h:RV FT c (.ms id tot off len) v):
 RV FT (frz c id s es) (.sl false<|((es.drop off).take len).map λe=>e.map Fk) v:=by
 let⟨ad,cap,s0,n0,W,J,g2,Y,X⟩:=h.ms_inv;rw[eV E] at J;cases J;let⟨m1,R⟩:=X n.symm;have f:((es.drop off).take len).length=len:=by simp;omega
 subst W;refine .pure _ _ ?_;by_cases C:len=0
 .subst C;simp only[Wr,Yn];exact .nil false _ _ λh=>by cases h
 .rcases R with⟨_,t,G,U⟩ | ⟨b,cc,L,a',t,G,U,m6,Q⟩
  .omega
  .have ha:=Q (by omega);subst m6;subst ha;let⟨O,M,K,q2,N⟩:=z.blk id s es b E t;rw[G] at K;cases K;have k:=z.lens id s es E;have m:∀b',lE c b'->lE (frz c id s es) b':=λb' r=>⟨r.1,λi d=>by
    simp only[frz] at d;split at d
    .cases d
    .exact r.2 i d⟩
   have a:∀i j x,bM (((es.drop off).take len).map λe=>e.map Fk) i j=some x->
    ∃y u,x=Fk y/\cc[off*s+(i*s+j)]?=some u/\bF u=true/\RV FT c y u:=by
    intro i j x p;obtain⟨y,Z,rfl⟩:=jO p;let⟨e,he,T⟩:=cZ Z;rw[Zs] at he;split at he
    .rw[Zw] at he;let⟨u,q,A,B⟩:=N (off+i) j y (by simp[bM,he,T]);exact⟨y,u,rfl,by rw[<-q];congr 1;rw[ZA];omega,A,B⟩
    .cases he
   have g:=RP.sl (w:=c.w) (I:=lE<|frz c id s es) false (((es.drop off).take len).map λe=>e.map Fk) b (off*s) cap cc L (0,0) s
    (λi j=>(cc[off*s+(i*s+j)]?).getD bQ)
    (by intro e;have:=congrArg List.length e;simp at this;omega)
    ⟨z.nx id b t,λi d=>by
     simp only[frz] at d;split at d
     .cases d
     .rename_i D;exact D<|z.inj i id b d t⟩ G
    (λe he=>by
     simp only[Yh] at he;obtain⟨S,V,rfl⟩:=he;simpa using k S<|ZZ<|Z7 V)
    (by simp only[ZO,f];exact Y) λh=>by cases h
    (λi j x p=>by
     let⟨y,u,_,q,A,_⟩:=a i j x p;simp[q,A])
    (λi j x p=>by
     let⟨y,u,F,q,_,B⟩:=a i j x p;rw[F];simp only[q,Yp];exact (v9 B).mono λb o r d=>⟨m b r,d⟩)
   simp only[ZO,f] at g;exact g
theorem aH0[aF]{a:Nat}{es:List<|List AV}(r:bX FT c)(C:c.H[id]?=some (.blk s es))(n:es.length=tot)(he:es[a]?=some e)(h:RV FT c (.ptr id tot a off) v):
 RV FT (frz c id s es) (.sptr<|(e.drop off).map Fk) v:=by
 cases h with
 | pure _ _ D=>cases D
 | ptr _ _ _ _ ad M K A L I=>
  rw[eV C] at A;cases A;obtain⟨b,f,rfl⟩:=I n.symm;let⟨cc,F,G,N,E⟩:=r.blk id s es b C f;have l:∀b',lE c b'->lE (frz c id s es) b':=λb' p=>⟨p.1,λi f=>by
   simp only[frz] at f;split at f
   .cases f
   .exact p.2 i f⟩
  have d:∀j x,((e.drop off).map Fk)[j]?=some x->∃y u,x=Fk y/\cc[a*s+off+j]?=some u/\bF u=true/\RV FT c y u:=by
   intro j x k;rw[Zk,Zq] at k;obtain⟨y,B,rfl⟩:=k;rw[Zw] at B;let⟨u,m,w,q⟩:=E a (off+j) y (by simp[bM,he,B]);exact⟨y,u,rfl,by rw[<-m];congr 1;omega,w,q⟩
  refine .pure _ _<|.sptr _ b (a*s+off) cc F (0,0) (λj=>(cc[a*s+off+j]?).getD bQ) ⟨r.nx id b f,λi g=>?_⟩ G ?_ ?_
  .simp only[frz] at g;split at g
   .cases g
   .rename_i t;exact t<|r.inj i id b g f
  .intro j x k;let⟨y,u,_,m,w,_⟩:=d j x k;simp[m,w]
  .intro j x k;obtain⟨y,u,rfl,m,_,q⟩:=d j x k;simp only[m,Yp];exact (v9 q).mono λb o p f=>⟨l b p,f⟩
def det(c:dA)(id s:Nat)(es:List<|List AV): dA:=⟨c.w,λk=>c.X k\/c.β id=some k,λi=>if i=id then none else c.β i,c.H.set id<|.blk s<|es++[List.replicate s .undef]⟩
theorem o5{es:List<|List AV}{b:Nat}: lE (det c id s es) b↔lE c b:=by
 constructor
 .intro h;refine⟨λa=>h.1<|.inl a,λi d=>?_⟩;by_cases f:i=id
  .subst f;exact h.1<|.inr d
  .exact h.2 i<|by simp only[det,ZF f];exact d
 .intro h;refine⟨λa=>?_,λi d=>?_⟩
  .rcases a with a | a
   .exact h.1 a
   .exact h.2 _ a
  .simp only[det] at d;split at d
   .cases d
   .exact h.2 i d
theorem aBD{es:List<|List AV}{x:AV}(h:RP c.w (lE c) x v): RP (det c id s es).w (lE<|det c id s es) x v:=
 h.mono λ_ _ a b=>⟨o5.2 a,b⟩
theorem aFN[aF]{es:List<|List AV}{x:AV}(I:c.H[id]?=some (.blk s es))(h:RV FT c x v): RV FT (det c id s es) x v:=by
 have k:∀i,i≠id->(det c id s es).H[i]?=c.H[i]?:=λi g=>qG (s:=s) (es:=es) g;have m:(det c id s es).H[id]?=some (.blk s<|es++[List.replicate s .undef]):=Hi I;have F:∀i,i≠id->(det c id s es).β i=c.β i:=λi g=>by simp[det,g]
 have r:∀b,Vis c b->Vis (det c id s es) b:=by
  intro b p i g;simp only[det] at g;split at g
  .cases g
  .exact p i g
 have C:∀i,Cn c.H i->i≠id:=by
  rintro i ⟨e,he,o⟩ rfl;rw[I] at he;cases he;exact o
 induction h with
 | pure x v w=>exact .pure x v<|aBD w
 | ms i tot off len a cap s' n t K G V=>
  by_cases g:i=id
  .subst g;rw[eV I] at t;cases t;exact .ms i tot off len a cap s (es.length+1) (by simp[shp,m]) (by omega) G λe=>by omega
  .refine .ms i tot off len a cap s' n (by simp only[shp,k i g];exact t) K G λe=>?_;let⟨U,S⟩:=V e;refine⟨U,?_⟩;rw[F i g];exact S
 | ptr i tot z off a s' n t K G=>
  by_cases g:i=id
  .subst g;rw[eV I] at t;cases t;exact .ptr i tot z off a s (es.length+1) (by simp[shp,m]) (by omega) λe=>by omega
  .refine .ptr i tot z off a s' n (by simp only[shp,k i g];exact t) K λe=>?_;rw[F i g];exact G e
 | rptr cs b off cc T L d g p q w=>exact .rptr cs b off cc T L d (r b g) p q λj x M=>aBD<|w j x M
 | vnil a cap=>exact .vnil a cap
 | vw es' b off cap cc T L s' d J g p y D q w=>exact .vw es' b off cap cc T L s' d J (r b g) p y D q λi j x M=>aBD<|w i j x M
 | mp i b u p=>
  have g:=C i u;let⟨e,he,o⟩:=u;exact .mp i b ⟨e,by rw[k i g];exact he,o⟩<|by rw[F i g];exact p
 | it i b u p=>
  have g:=C i u;let⟨e,he,o⟩:=u;exact .it i b ⟨e,by rw[k i g];exact he,o⟩<|by rw[F i g];exact p
 | fn vi f caps cv d R A q _ B=>exact .fn vi f caps cv d R A q B
 | agg cs cv d A q _ B=>exact .agg cs cv d A q B
 | tup cs cv d A q _ B=>exact .tup cs cv d A q B
theorem aNO[aF]{es:List<|List AV}(m:bX FT c)(t:c.H[id]?=some (.blk s es)): bX FT<|det c id s es:=by
 have n:∀i b,(det c id s es).β i=some b->i≠id/\c.β i=some b:=by
  intro i b a;simp only[det] at a;split at a
  .cases a
  .rename_i h;exact⟨h,a⟩
 have l:∀i,i≠id->(det c id s es).H[i]?=c.H[i]?:=λi f=>qG (s:=s) (es:=es) f;refine⟨?_,λi j b f J=>m.inj i j b (n i b f).2 (n j b J).2,λi b f=>?_,λi b f d=>?_,λk G d=>?_,?_,?_,?_,λi q b h a=>by
  let⟨f,a⟩:=n i b a;rw[l i f] at h;exact m.raw i q b h a⟩
 .intro g cs y;let⟨cc,T,O,r,I,F,M,K,L⟩:=m.gl g cs y;exact⟨cc,T,O,r,o5.2 I,F,M,K,λj x d=>aBD<|L j x d⟩
 .have:=m.dom i b (n i b f).2;simpa [det] using this
 .let⟨A,a⟩:=n i b f;rcases d with d | d
  .exact m.nx i b a d
  .exact A<|m.inj i id b a d
 .rcases d with d | d
  .exact m.fresh k G d
  .have I:=m.lt d;have F:c.w.heap.size<=k:=G;omega
 .intro i s' es' h e he;by_cases f:i=id
  .subst f;have N:(det c i s es).H[i]?=some (.blk s<|es++[List.replicate s .undef]):=Hi t;rw[N] at h;cases h;rcases ZD.1 he with he | he
   .exact m.lens i s es t e he
   .simp at he;subst he;simp
  .rw[l i f] at h;exact m.lens i s' es' h e he
 .intro i s' es' b h a;let⟨f,a⟩:=n i b a;rw[l i f] at h;let⟨cs,T,B,E,z⟩:=m.blk i s' es' b h a;exact⟨cs,T,B,E,λi j x d=>let ⟨v,D,C,u⟩:=z i j x d;⟨v,D,C,aFN t u⟩⟩
 .intro i p b h a;let⟨f,a⟩:=n i b a;rw[l i f] at h;let⟨cs,T,B,E,z⟩:=m.map i p b h a;exact⟨cs,T,B,E,λi j x d=>let ⟨v,D,C,u⟩:=z i j x d;⟨v,D,C,aFN t u⟩⟩
section
end
end
section
theorem aGl[aF](j:bX (aJ T) c)(k:TR (aJ T) c tm a.tmps){f:Nat}{es:List<|List AV}(g:o.op=.move y\/o.op=.assign y)(h:aP T x y=true)(n:aG tm x=.ptr id tot f off)(l:fl<=id)(b:c.H[id]?=some (.blk s es))(d:es.length=tot)(he:es[f]?=some e):
 dJ P (aJ T) c fl o a (.sptr<|(e.drop off).map Fk)<|c.H.set id<|.blk s<|es++[List.replicate s .undef]:=by
 have m:=aX j k h;rw[n] at m;refine eO (cv:=a.eval y) (w':=c.w) (β':=λi=>if i=id then none else c.β i) ?_ (tW l b) (Te j b)<|aH0 j b d he m;rcases g with g | g<;>simp[execOp,g]
theorem aJv[aF](g:bX (aJ T) c)(j:TR (aJ T) c tm a.tmps){es:List<|List AV}(f:o.op=.move y\/o.op=.assign y)(h:aP T x y=true)(m:aG tm x=.ms id tot off len)(k:fl<=id)(b:c.H[id]?=some (.blk s es))(d:es.length=tot):
 dJ P (aJ T) c fl o a (.sl false<|((es.drop off).take len).map λe=>e.map Fk)<|c.H.set id<|.blk s<|es++[List.replicate s .undef]:=by
 have l:=aX g j h;rw[m] at l;refine eO (cv:=a.eval y) (w':=c.w) (β':=λi=>if i=id then none else c.β i) ?_ (tW k b) (Te g b)<|aBB g b d l;rcases f with f | f<;>simp[execOp,f]
theorem aFM[aF]{es:List<|List AV}(p:bX (aJ T) c)(l:c.H[id]?=some (.blk s es))(d:es.length=tot)(n:cs[k]?=some (.ms id tot off len))(h:RV (aJ T) c (.agg cs) v): RV (aJ T) (frz c id s es) (.agg<|cs.set k<|.sl false<|((es.drop off).take len).map λe=>e.map Fk) v:=by
 have j:=tW (fl:=0) (ZG _) l;obtain⟨cv,f,rfl,q,o,m⟩:=h.agg_inv;have g:∀(i:Nat) (x:AV),(cs.set k<|.sl false<|((es.drop off).take len).map λe=>e.map Fk)[i]?=some x->(i=k/\x=.sl false (((es.drop off).take len).map λe=>e.map Fk))\/cs[i]?=some x:=by
  intro i x a;rw[Z5] at a;split at a
  .split at a
   .rename_i b _;cases a;exact .inl ⟨b.symm,rfl⟩
   .cases a
  .exact .inr a
 refine .agg _ cv f (by simpa using q) (λi x a=>?_) λi x a=>?_
 .rcases g i x a with⟨rfl,rfl⟩ | b
  .exact o _ _ n
  .exact o i x b
 .rcases g i x a with⟨rfl,rfl⟩ | b
  .exact aBB p l d<|m _ _ n
  .exact (m i x b).step j
theorem aLw[aF](g:bX (aJ T) c)(l:TR (aJ T) c tm a.tmps){n:Nat}{es:List<|List AV}(p:o.op=.load t y)(h:aP T x y=true)(z:Ed P t true=true)(r:dK P t n=true)(u:eA c.H (aG tm x) n=some cs)(v:cs[k]?=some (.ms id tot off len))(j:fl<=id)(d:c.H[id]?=some (.blk s es))(f:es.length=tot):
 dJ P (aJ T) c fl o a (.agg<|cs.set k<|.sl false<|((es.drop off).take len).map λe=>e.map Fk)<|c.H.set id<|.blk s<|es++[List.replicate s .undef]:=by
 let⟨ad,vs,q,A,m⟩:=DR g (aX g l h) u;refine eO (cv:=.agg vs.toArray) (w':=c.w) (β':=λi=>if i=id then none else c.β i) ?_ (tW j d) (Te g d)<|aFM g d f v<|Kg m;simp[execOp,p,Instr.loadAt,Instr.sureAddr,q,yC m A z r rfl]
theorem aKZ{H:aW}{v:AV}{ys:List<|List AV}(h:aLa v=some ys): rd H v=some ys:=by
 unfold aLa at h;split at h
 .exact h
 .exact h
 .cases h
theorem aGp[aF](m:bX (aJ T) c)(E:TR (aJ T) c tm a.tmps){y:bB}{X W:Operand}{L e e':TypeId}{i:TypeInfo}{z:Value}{bytes:Nat}{r:AV}(S:o.op=.call ⟨.builtin .append,#[X,W],#[t,L]⟩)(O:aP T x X=true)(Y:aP T y W=true)(M:P.underlying t=some (.slice e))(C:P.underlying L=some (.slice e'))(R:P.info? e=some i)(w:i.size=s)(F:i.bytes=bytes)(V:i.zero=some z)(B:z.cells.size=s)(g:aSN s bytes (aG tm x) (aG tm y)=some r):
 dJ P (aJ T) c fl o a r c.H:=by
 unfold aSN at g;split at g
 .rename_i f es N;split at g
  .split at g
   .split at g
    .rename_i ys I;split at g
     .rename_i b;cases g;have A:rd c.H (aG tm y)=some ys:=aKZ I;intro K Q U;by_cases J:ys.length=0
      .have G:ys=[]:=ZK.1 J;have h:cR c.H.length c.H s bytes (aG tm x) ys=some (.sl true [],c.H):=by
        unfold cR;rw[Zu b,N];simp[J]
       refine OS m E (fl:=c.H.length) (Zf _) S O Y M C R w F V B A h K Q λcv c' Z j d n=>?_;exact U cv (pD c c') rfl (Td m j) (x8 m j)<|by have:=IB m d j.fl n;rw[G];exact this
      .have h:cR c.H.length c.H s bytes (aG tm x) ys=some (.ms c.H.length ys.length 0 ys.length,c.H++[.blk s ys]):=by
        unfold cR;rw[Zu b,N];have l:lI (0+ys.length) bytes=true:=by rw[Z0];exact b.2.2
        simp[J,eZ,l,b.2.2]
       refine OS m E (fl:=c.H.length) (Zf _) S O Y M C R w F V B A h K Q λcv c' Z j d n=>?_;have q:c'.H[c.H.length]?=some (.blk s ys):=by rw[Z];simp
       have k:bW c.H.length c<|frz c' c.H.length s ys:=j.trans<|tW (Zf _) q;have p:=Te d q;have v:=aBB d q rfl n;have D:=IB m p k.fl v;refine U cv (pD c<|frz c' c.H.length s ys) rfl (Td m k) (x8 m k) ?_;simpa [gN] using D
     .cases g
    .cases g
   .cases g
  .cases g
 .cases g
end
end
section
variable {P:Program}{T:List cS}
def lQ(FT:Nat->Option Nat)(c:dA)(args:List AV)(vs:Array Value): Prop:=
 vs.size=args.length/\∀(i:Nat) (x:AV),args[i]?=some x->∃v,vs[i]?=some v/\RV FT c x v
def Bh[aF](P:Program)(T:List cS)(cf:Nat->Nat->List AV->aW->Option (AV×aW)): Prop:=
 ∀(fl vi f:Nat) (args:List AV) (r:AV) (H':aW) (c:dA) (vs:Array Value),cf fl vi args c.H=some (r,H')->aJ T vi=some f->bX (aJ T) c->fl<=c.H.length->lQ (aJ T) c args vs->
  Calls P f vs c.w λe w'=>∃v c',e=.returned v/\c'.w=w'/\c'.H=H'/\c'.X=c.X/\bW fl c c'/\bX (aJ T) c'/\RV (aJ T) c' r v
def nH(P:Program)(T:List cS): Prop:=
 ∀vi f,aJ T vi=some f->∃fn,P.funcs[f]?=some fn/\fn.body.isSome=true/\(fn.name== "runtime.NumGoroutine")=false
variable {cf:Nat->Nat->List AV->aW->Option (AV×aW)}{c:dA}{fl:Nat}{o:Oper}{a:Act}{tm:List AV}
def eQ(c:dA): dA:=⟨c.w,λb=>c.X b\/∃id,c.β id=some b,λ_=>none,[]⟩
theorem Jg{c:dA}{b:Nat}: lE (eQ c) b↔lE c b:=
 ⟨λh=>⟨λd=>h.1<|.inl d,λid a=>h.1<|.inr ⟨id,a⟩⟩,λh=>⟨λd=>by
  rcases d with d | ⟨id,a⟩
  .exact h.1 d
  .exact h.2 id a,λid a=>by cases a⟩⟩
theorem fN[aF]{FT:Nat->Option Nat}{c:dA}(d:bX FT c){id b:Nat}(h:c.β id=some b): b<c.w.heap.size:=by
 have f:=d.dom id b h;have a:∀o:Obj,c.w.heap[b]?=some o->b<c.w.heap.size:=by
  grind
 cases e:c.H[id] with
 | blk s es=>
  let⟨cs,T,g,_⟩:=d.blk id s es b (by rw[Zb f,e]) h;exact a _ g
 | mp es=>
  let⟨cs,T,g,_⟩:=d.map id es b (by rw[Zb f,e]) h;exact a _ g
 | raw q=>exact a _<|d.raw id q b (by rw[Zb f,e]) h
theorem Bb[aF]{FT:Nat->Option Nat}{c:dA}(f:bX FT c): bX FT (eQ c) where
 gl:=λg cs e=>let ⟨cc,T,z,a,t,F,D,v,u⟩:=f.gl g cs e;⟨cc,T,z,a,Jg.2 t,F,D,v,λj x G=>(u j x G).mono λb o r A=>⟨Jg.2 r,A⟩⟩;inj:=λ_ _ _ h=>by cases h
 dom:=λ_ _ h=>by cases h
 nx:=λ_ _ h=>by cases h
 fresh:=λk l h=>by
  rcases h with h | ⟨id,d⟩
  .exact f.fresh k l h
  .have:=fN f d;have n:c.w.heap.size<=k:=l;omega
 lens:=λid s es h=>by simp[eQ] at h
 blk:=λid s es b h=>by simp[eQ] at h
 map:=λid es b h=>by simp[eQ] at h
 raw:=λid q b h=>by simp[eQ] at h
theorem aA4[aF]{FT:Nat->Option Nat}{c:dA}{x:AV}{v:Value}(d:Kr x=true)(h:RV FT c x v): RV FT (eQ c) x v:=by
 cases h with
 | pure _ _ u=>exact .pure _ _<|u.mono λb o e l=>⟨Jg.2 e,l⟩
 | ms=>cases d
 | ptr=>cases d
 | rptr cs b off cc T w a p k g q=>exact .rptr cs b off cc T w a (λid h=>by cases h) k g λj x m=>(q j x m).mono λb o e l=>⟨Jg.2 e,l⟩
 | vnil=>cases d
 | vw=>cases d
 | mp=>cases d
 | it=>cases d
 | fn vi f caps cv a p k g q=>
  cases caps with
  | nil=>exact .fn vi f [] cv a p k g λi x m=>by simp at m
  | cons _ _=>cases d
 | agg=>cases d
 | tup=>cases d
theorem DH[aF]: ∀{cs:List AV},Pq cs=true->∀x∈cs,Kr x=true
 | [],_,x,a=>by cases a
 | y::r,h,x,a=>by
  simp only[Pq] at h;split at h
  .rename_i b;rcases ZN.1 a with rfl | a
   .grind
   .exact DH h x a
  .cases h
theorem Kq[aF]: ∀{cs:List AV},gR cs=true->∀x∈cs,sI x=true
 | [],_,x,a=>by cases a
 | y::r,h,x,a=>by
  simp only[gR] at h;split at h
  .rename_i b;rcases ZN.1 a with rfl | a
   .grind
   .exact Kq h x a
  .cases h
theorem aJo[aF]{FT:Nat->Option Nat}{c:dA}{x:AV}{v:Value}(b:sI x=true)(h:RV FT c x v): RV FT (eQ c) x v:=by
 unfold sI at b;split at b
 .rename_i cs;obtain⟨cv,a,rfl,e,g,f⟩:=h.agg_inv;exact .agg cs cv a e g λi x d=>aA4 (DH b x<|Zg d)<|f i x d
 .exact aA4 b h
theorem aJZ[aF]{FT:Nat->Option Nat}{c:dA}{a:List AV}{vs:Array Value}(e:gR a=true)(h:lQ FT c a vs): lQ FT (eQ c) a vs:=
 ⟨h.1,λi x b=>let ⟨v,f,d⟩:=h.2 i x b;⟨v,f,aJo (Kq e x<|Zg b) d⟩⟩
theorem gL{c c':dA}(h:bW 0 (eQ c) c'){k:Nat}(b:k<c.w.heap.size): c'.w.heap[k]?=c.w.heap[k]?:=h.frame k b λid a=>by cases a
theorem xP[aF]{FT:Nat->Option Nat}{c c':dA}{fl:Nat}(m:bX FT c)(h:bW 0 (eQ c) c'): bW fl c (pD c c') where
 X:=rfl;os:=h.os;tape:=h.tape;output:=h.output;drawn:=h.drawn;size:=h.size;len:=Zf _;frame:=λk r _=>gL h r;img:=λi _ a=>.inr ⟨i,a⟩;blkS:=λid s n e=>⟨n,e,Zf _,λ_=>⟨rfl,λb cs T a g=>⟨cs,(gL h<|fN m a).trans g,rfl⟩⟩⟩;mpS:=λ_ u=>⟨u,rfl⟩;floor:=λid _=>⟨rfl,rfl,λb a=>gL h<|fN m a⟩
theorem Jh[aF]{FT:Nat->Option Nat}{c c':dA}(a:bX FT c)(h:bW 0 (eQ c) c'): bX FT<|pD c c':=by
 have f:=xP (fl:=0) a h;refine⟨a.gl.step f,a.inj,a.dom,a.nx,λk y=>a.fresh k<|ZB h.size y,a.lens,?_,?_,λid q b g d=>(gL h<|fN a d).trans<|a.raw id q b g d⟩
 .intro id s es b g d;let⟨cs,T,n,t,r⟩:=a.blk id s es b g d;exact⟨cs,T,(gL h<|fN a d).trans n,t,λi j x p=>let ⟨v,o,u,w⟩:=r i j x p;⟨v,o,u,w.step f⟩⟩
 .intro id l b g d;let⟨es,m,n,t,r⟩:=a.map id l b g d;exact⟨es,m,(gL h<|fN a d).trans n,t,λi k x p=>let ⟨e,o,u,w⟩:=r i k x p;⟨e,o,u,w.step f⟩⟩
def aJr: AV->Bool
 | .undef=>true
 | .lit _=>true
 | .sl _ _=>true
 | .sptr _=>true
 | .rmp _=>true
 | .fn _ []=>true
 | _=>false
def aJq: AV->Bool
 | .agg cs=>cs.all aJr
 | v=>aJr v
def aOs: AV->Bool
 | .tup cs=>cs.all aJq
 | v=>aJq v
theorem aAw(H:aW)(n:Nat): ∀(d:Nat) (x:AV),aJr (eE H n d x)=true:=by
 intro d x;cases x with
 | lit v=>
  have:eE H n d (.lit v)=sK v:=by cases d<;>rfl
  rw[this];unfold sK;repeat' split
  all_goals rfl
 | ms id tot off len=>
  cases d with
  | zero=>rfl
  | succ d=>
   simp only[eE];repeat' split
   all_goals rfl
 | mp id=>
  cases d with
  | zero=>rfl
  | succ d=>
   simp only[eE];repeat' split
   all_goals rfl
 | _=>cases d<;>rfl
theorem aAz(H:aW)(x:AV): aJr (gN H 0 x)=true:=by
 cases x with
 | lit v=>
  show aJr (sK v)=true;unfold sK;repeat' split
  all_goals rfl
 | ms id tot off len=>
  exact aAw _ _ _ _
 | mp id=>
  exact aAw _ _ _ _
 | ptr id tot b off=>rfl
 | fn vi caps=>cases caps<;>rfl
 | _=>rfl
theorem aAy(H:aW)(x:AV): aJq (dZ H 0 x)=true:=by
 unfold dZ;split
 .simp only[aJq,List.all_map,Yl];intro y _;exact aAz H y
 .have:=aAz H x;revert this;cases gN H 0 x<;>intro h<;>first | exact h | cases h
theorem aAx(H:aW)(x:AV): aOs (fD H 0 x)=true:=by
 unfold fD;split
 .simp only[aOs,List.all_map,Yl];intro y _;exact aAy H y
 .have:=aAy H x;revert this;cases dZ H 0 x<;>intro h<;>first | exact h | cases h
theorem aCL{c c':dA}{b:Nat}(d:lE (pD (eQ c) c') b): lE (pD c c') b:=⟨λe=>d.1<|.inl e,λid a=>d.1<|.inr ⟨id,a⟩⟩
theorem aHN[aF]{FT:Nat->Option Nat}{c c':dA}{x:AV}{v:Value}(e:aJr x=true)(h:RV FT (pD (eQ c) c') x v): RV FT (pD c c') x v:=by
 cases h with
 | pure x v k=>exact .pure x v<|k.mono λb o p j=>⟨aCL p,j⟩
 | fn vi f caps cv a n g l q=>
  cases caps with
  | nil=>exact .fn vi f [] cv a n g l λi x m=>by simp at m
  | cons _ _=>cases e
 | _=>cases e
theorem aHM[aF]{FT:Nat->Option Nat}{c c':dA}{x:AV}{v:Value}(b:aJq x=true)(h:RV FT (pD (eQ c) c') x v): RV FT (pD c c') x v:=by
 cases x with
 | agg cs=>
  obtain⟨cv,a,rfl,f,e,g⟩:=h.agg_inv;simp only[aJq,Yl] at b;exact .agg cs cv a f e λi x d=>aHN (b x<|Zg d)<|g i x d
 | _=>exact aHN b h
theorem aFg[aF]{FT:Nat->Option Nat}{c c':dA}{x:AV}{v:Value}(d:aOs x=true)(h:RV FT (pD (eQ c) c') x v): RV FT (pD c c') x v:=by
 cases x with
 | tup cs=>
  cases h with
  | pure _ _ j=>cases j
  | tup _ cv a k l g=>
   simp only[aOs,Yl] at d;exact .tup cs cv a k l λi x e=>aHM (d x<|Zg e)<|g i x e
 | _=>exact aHM d h
theorem xG{f:Nat}{fn:Func}{a:Array Value}(h:P.funcs[f]?=some fn)(e:fn.body.isSome=true) (g:(fn.name== "runtime.NumGoroutine")=false) (w:World) :
 (callFunc f a).run P w=.ok (.enter f a) w:=by
 let⟨b,d⟩:=XK.1 e;have c:=by simpa using g
 simp[callFunc,h,d,c]
theorem aLA[aF]{FT:Nat->Option Nat}{c:dA}{x:AV}{v:Value}(h:RV FT c x v): RV FT c (nrm x) v:=by
 cases h with
 | pure _ _ q=>exact .pure _ _<|aBY q
 | ms id tot off len a cap s n g e i j=>exact .ms id tot off len a cap s n g e i j
 | ptr id tot l off a s n g e i=>exact .ptr id tot l off a s n g e i
 | rptr cs b off cc T k d g e i j=>exact .rptr cs b off cc T k d g e i j
 | vnil a cap=>exact .vnil a cap
 | vw es b off cap cc T k s d u w C y A B t=>exact .vw es b off cap cc T k s d u w C y A B t
 | mp id b g e=>exact .mp id b g e
 | it id b g e=>exact .it id b g e
 | fn vi f caps cv d g e i j=>exact .fn vi f caps cv d g e i j
 | agg cs cv d g e i=>exact .agg cs cv d g e i
 | tup cs cv d g e i=>exact .tup cs cv d g e i
theorem aHX[aF]{FT:Nat->Option Nat}{c:dA}{x:AV}{v:Value}(h:RV FT c x v): RV FT c (JO x) v:=by
 unfold JO;split
 .rename_i cs;obtain⟨cv,a,rfl,f,g,d⟩:=h.agg_inv;refine .agg _ cv a (by simpa using f) ?_ ?_
  .grind
  .intro i x b;simp at b;obtain⟨y,e,rfl⟩:=b;exact aLA<|d i y e
 .exact aLA h
theorem aHP[aF](e:bX (aJ T) c)(d:TR (aJ T) c tm a.tmps){x:bB}{y:Operand}(b:o.op=.move y\/o.op=.assign y)(h:aP T x y=true):
 dJ P (aJ T) c fl o a (JO<|aG tm x) c.H:=by
 refine bT e ?_<|aHX<|aX e d h;rcases b with b | b<;>simp[execOp,b]
theorem aFh[aF]{FT:Nat->Option Nat}{c:dA}{a:List AV}{vs:Array Value}(h:lQ FT c a vs): lQ FT c (a.map JO) vs:=by
 refine⟨by simpa using h.1,λi x b=>?_⟩;simp at b;obtain⟨y,e,rfl⟩:=b;let⟨v,d,f⟩:=h.2 i y e;exact⟨v,d,aHX f⟩
theorem aHT[aF](m:Bh P T cf)(z:nH P T)(j:bX (aJ T) c)(u:fl<=c.H.length){pu:Bool}{vi f:Nat}{d:List AV}{vs:Array Value}{r:AV}{H':aW}(b:Eb cf fl pu vi d c.H=some (r,H'))(p:aJ T vi=some f)(h:lQ (aJ T) c d vs)(n:(execOp a.eval o).run P c.w=(callFunc f vs).run P c.w): dJ P (aJ T) c fl o a r H':=by
 let⟨fn,B,D,C⟩:=z vi f p;intro K Q A;unfold Oper.wp;rw[n,xG B D C];unfold Eb at b;split at b
 .split at b
  .rename_i q;split at b
   .rename_i s l x;cases b;refine (m 0 vi f (d.map JO) s l (eQ c) vs x p (Bb j) (Zf _)<|aFh<|aJZ q h).mono ?_;rintro e w' ⟨v,c',rfl,rfl,rfl,E,g,k,y⟩;exact A v (pD c c') rfl (xP j g) (Jh j g)<|aFg (aAx _ _)<|IA (Bb j) k ⟨g.X,λid t=>absurd t<|YE _⟩ y
   .grind
  .split at b
   .rename_i s l x;cases b;refine (m _ vi f (d.map JO) s l c vs x p j (Zf _)<|aFh h).mono ?_;rintro e w' ⟨v,c',rfl,rfl,rfl,E,g,k,y⟩;exact A v (pD c c') rfl (Td j g) (x8 j g)<|IA j k g.fl y
   .grind
 .refine (m fl vi f d r H' c vs b p j u h).mono ?_;grind
theorem Sn[aF](f:bX (aJ T) c)(b:TR (aJ T) c tm a.tmps){d:List bB}{ys:List Operand}(h:eT T d ys=true): lQ (aJ T) c (d.map<|aG tm) (ys.map a.eval).toArray:=by
 let⟨e,g⟩:=l7 f b h;refine⟨by simp[e],λi x j=>?_⟩;grind
theorem aHR[aF](g:Bh P T cf)(l:nH P T)(m:bX (aJ T) c)(j:TR (aJ T) c tm a.tmps)(i:fl<=c.H.length){pu:Bool}{vi f:Nat}{b:List bB}{d:Array Operand}{ts:Array TypeId}{r:AV}{H':aW}(n:o.op=.call ⟨.value<|.func f,d,ts⟩)(p:aJ T vi=some f)(h:eT T b d.toList=true)(k:Eb cf fl pu vi (b.map<|aG tm) c.H=some (r,H')): dJ P (aJ T) c fl o a r H':=by
 refine aHT g l m i k p (Sn m j h) ?_;have e:(d.toList.map a.eval).toArray=d.map a.eval:=by apply Xq;simp
 rw[e];simp[execOp,n,resolve,Act.eval,Deferred.ofValue,invoke]
theorem dJ.mono[aF]{FT:Nat->Option Nat}{b:Nat}{r:AV}{H':aW}(h:dJ P FT c b o a r H')(i:fl<=b): dJ P FT c fl o a r H':=
 λK Q f=>h K Q λcv c' j e g d=>f cv c' j (e.mono i) g d
theorem aL2[aF](e:Bh P T cf)(j:nH P T)(l:bX (aJ T) c)(d:TR (aJ T) c tm a.tmps)(i:fl<=c.H.length){vi f:Nat}{b:List bB}{k:Array Operand}{ts:Array TypeId}{r:AV}{H':aW}(m:o.op=.call ⟨.value<|.func f,k,ts⟩)(n:aJ T vi=some f)(h:eT T b k.toList=true)(g:cf c.H.length vi (b.map<|aG tm) c.H=some (r,H')): dJ P (aJ T) c fl o a r H':=
 (aHR (pu:=false) e j l d (Zf _) m n h g).mono i
theorem aHi[aF]{c:dA}{FT:Nat->Option Nat}(hs:bX FT c){x:AV}{v:Value}(h:RV FT c x v): RV FT (eQ c) (dE c.H x) v:=by
 have g:∀b,Vis (eQ c) b:=λb id h=>by cases h
 have l:∀{x v},RP c.w (lE c) x v->RP (eQ c).w (lE<|eQ c) x v:=λhr=>hr.mono λb o hi hb=>⟨Jg.2 hi,hb⟩;cases h with
 | pure _ _ hp=>
  cases hp with
  | undef v=>exact RV.undef _
  | lit v=>
   have a1:sK v=.lit v\/(v=.slice none 0 0/\sK v=.sl false []):=by
    unfold sK;grind
   simp only[dE];rcases a1 with e | ⟨rfl,e⟩<;>rw[e]
   .exact RV.lit _
   .exact .vnil none 0
  | nil f a cap hf=>exact .vnil a cap
  | sl f es b off cap cc T E s d C N A D J Q Z h8=>exact .vw es b off cap cc T E s d C (g b) A D J Z λi j x k=>l<|h8 i j x k
  | sptr cs b off cc T E d C N A D=>exact .pure _ _<|l<|.sptr cs b off cc T E d C N A D
  | rmp I b es V d C N A D J Q=>exact .pure _ _<|l<|.rmp I b es V d C N A D J Q
 | ms id tot off len a cap s n M O L R=>
  simp only[dE];split
  .rename_i es p;unfold rd at p;simp only at p;split at p
   .rename_i s' m B;split at p
    .rename_i K;cases p;rw[eV B] at M;cases M;let⟨m1,m2⟩:=R K.symm;have r:((m.drop off).take len).length=len:=by simp;omega
     by_cases U:len=0
     .subst U;exact .vnil _ _
     .rcases m2 with⟨_,m3,X,m5⟩ | ⟨b,cc,Ty,a',m3,X,m5,m6,m7⟩
      .omega
      .have ha:=m7 (by omega);subst m6;subst ha;let⟨c1,c3,q1,q2,q3⟩:=hs.blk id s m b B m3;rw[X] at q1;cases q1;have z:=hs.lens id s m B;have q:∀i j x,bM (((m.drop off).take len).map λe=>e.map Fk) i j=some x->
        ∃y u,x=Fk y/\cc[off*s+(i*s+j)]?=some u/\bF u=true/\RV FT c y u:=by
        intro i j x k;obtain⟨y,hy,rfl⟩:=jO k;let⟨e,he,hj⟩:=cZ hy;rw[Zs] at he;split at he
        .rw[Zw] at he;let⟨u,G,W,S⟩:=q3 (off+i) j y (by simp[bM,he,hj]);exact⟨y,u,rfl,by rw[<-G];congr 1;rw[ZA];omega,W,S⟩
        .grind
       have t:=RV.vw (FT:=FT) (c:=eQ c) (((m.drop off).take len).map λe=>e.map Fk) b (off*s) cap cc Ty (0,0) s
        (λi j=>(cc[off*s+(i*s+j)]?).getD bQ)
        (by intro e;have:=congrArg List.length e;simp at this;omega) (g b) X
        (λe he=>by
         simp only[Yh] at he;obtain⟨e0,h0,rfl⟩:=he;simpa using z e0<|ZZ<|Z7 h0)
        (by simp only[ZO,r];exact L)
        (λi j x k=>by
         let⟨y,u,_,G,W,_⟩:=q i j x k;simp[G,W])
        (λi j x k=>by
         let⟨y,u,Y,G,_,S⟩:=q i j x k;rw[Y];simp only[G,Yp];exact l<|v9 S)
       simp only[ZO,r] at t;exact t
    .grind
   .grind
  .exact RV.undef _
 | ptr=>exact RV.undef _
 | rptr cs b off cc T E d M O L R=>exact .rptr cs b off cc T E d (g b) O L λj x k=>l<|R j x k
 | vnil a cap=>exact .vnil a cap
 | vw es b off cap cc T E s d C N A D J Q Z=>exact .vw es b off cap cc T E s d C (g b) A D J Q λi j x k=>l<|Z i j x k
 | mp=>exact RV.undef _
 | it=>exact RV.undef _
 | fn vi f caps cv d M O L R=>
  cases caps with
  | nil=>exact .fn vi f [] cv d M O L λi x k=>by simp at k
  | cons _ _=>exact RV.undef _
 | agg=>exact RV.undef _
 | tup=>exact RV.undef _
theorem HH[aF]{c:dA}{FT:Nat->Option Nat}(b:bX FT c){x:AV}{v:Value}(h:RV FT c x v): RV FT (eQ c) (cL c.H x) v:=by
 unfold cL;split
 .rename_i cs;obtain⟨cv,a,rfl,g,j,e⟩:=h.agg_inv;refine .agg _ cv a (by simpa using g) ?_ ?_
  .grind
  .intro i x d;simp at d;obtain⟨y,f,rfl⟩:=d;exact aHi b<|e i y f
 .exact aHi b h
theorem aL3[aF](s:Bh P T cf)(n:nH P T)(k:bX (aJ T) c)(q:TR (aJ T) c tm a.tmps){vi f:Nat}{b:List bB}{l:Array Operand}{ts:Array TypeId}{r:AV}{H1:aW}(F:o.op=.call ⟨.value<|.func f,l,ts⟩)(A:aJ T vi=some f)(h:eT T b l.toList=true)(t:cf 0 vi ((b.map<|aG tm).map<|cL c.H) []=some (r,H1)): dJ P (aJ T) c fl o a (fD H1 0 r) c.H:=by
 let⟨fn,E,B,C⟩:=n vi f A;intro K Q I;unfold Oper.wp;have e:(execOp a.eval o).run P c.w=(callFunc f<|(l.toList.map a.eval).toArray).run P c.w:=by
  have e:(l.toList.map a.eval).toArray=l.map a.eval:=by apply Xq;simp
  rw[e];simp[execOp,F,resolve,Act.eval,Deferred.ofValue,invoke]
 rw[e,xG E B C];have d:=Sn k q h;have g:lQ (aJ T) (eQ c) ((b.map<|aG tm).map<|cL c.H)<|(l.toList.map a.eval).toArray:=by
  refine⟨by rw[ZO];exact d.1,λi x z=>?_⟩;rw[Zk,Zq] at z;obtain⟨y,L,rfl⟩:=z;let⟨v,J,D⟩:=d.2 i y L;exact⟨v,J,HH k D⟩
 refine (s 0 vi f _ r H1 (eQ c) _ t A (Bb k) (Zf _) g).mono ?_;rintro e w' ⟨v,c',rfl,rfl,rfl,M,j,p,G⟩;exact I v (pD c c') rfl (xP k j) (Jh k j)<|aFg (aAx _ _)<|IA (Bb k) p ⟨j.X,λid u=>absurd u<|YE _⟩ G
def uF(c:dA)(w':World)(ob:Option Nat)(s:Nat)(rows:List<|List AV): dA:=⟨w',c.X,λi=>if i=c.H.length then ob else c.β i,c.H++[.blk s rows]⟩
section
variable {FT:Nat->Option Nat}{c':dA}{ob:Option Nat}{s:Nat}{rows:List (List AV)}
theorem lM[aF](d:bX FT c){w':World}{i b:Nat}(a:(uF c w' ob s rows).β i=some b): (i=c.H.length/\ob=some b)\/(i<c.H.length/\c.β i=some b):=by
 simp only[uF] at a;split at a
 .grind
 .exact .inr ⟨d.dom i b a,a⟩
theorem JU{w':World}{i:Nat}(a:i<c.H.length): (uF c w' ob s rows).H[i]?=c.H[i]?:=Zo a
theorem PQ[aF]{fl:Nat}(p:bX FT c)(h:bW 0 (eQ c) c')(B:fl<=c.H.length)(r:∀b,ob=some b->c.w.heap.size<=b): bW fl c (uF c c'.w ob s rows) where
 X:=rfl;os:=h.os;tape:=h.tape;output:=h.output;drawn:=h.drawn;size:=h.size;len:=by simp[uF]
 frame:=λk x _=>gL h x;img:=λi b d=>by
  rcases lM p d with⟨_,y⟩ | ⟨_,y⟩
  .grind
  .grind
 blkS:=λi s' n f=>by
  have a:i<c.H.length:=by
   rcases ZI i c.H.length with u | u
   .grind
   .simp[shp,Zy u] at f
  exact⟨n,by simp only[shp,JU a];exact f,Zf _,λ_=>⟨by simp[uF,Xy a],λb cs T d o=>⟨cs,(gL h<|fN p d).trans o,rfl⟩⟩⟩
 mpS:=λi A=>by
  let⟨e,he,q⟩:=A;have a:i<c.H.length:=by
   grind
  exact⟨⟨e,by rw[JU a];exact he,q⟩,by simp[uF,Xy a]⟩
 floor:=λi D=>by
  have a:i<c.H.length:=by omega
  exact⟨JU a,by simp[uF,Xy a],λb d=>gL h<|fN p d⟩
theorem F9[aF](f:bX FT c)(h:bW 0 (eQ c) c'){b:Nat}(a:¬c'.X b)(j:ob≠some b): lE (uF c c'.w ob s rows) b:=by
 rw[h.X] at a;refine⟨λg=>a<|.inl g,λi e=>?_⟩;rcases lM f e with⟨_,d⟩ | ⟨_,d⟩
 .grind
 .exact a<|.inr ⟨i,d⟩
theorem aEw[aF](d:bX FT c)(M:bX FT c')(h:bW 0 (eQ c) c')(l:∀b,ob=some b->c.w.heap.size<=b/\∃i,c'.β i=some b)(U:∀e∈rows,e.length=s)(B:∀b,ob=some b->∃cs T,c'.w.heap[b]?=some (.cells cs T (0,0))/\rows.length*s<=cs.size/\∀i j x,bM rows i j=some x->∃v,cs[i*s+j]?=some v/\bF v=true/\RP c'.w (lE<|uF c c'.w ob s rows) x v):
 bX FT<|uF c c'.w ob s rows:=by
 have I:=PQ (fl:=c.H.length) (s:=s) (rows:=rows) d h (Zf _) λb r=>(l b r).1;have y:∀b,lE c' b->lE (uF c c'.w ob s rows) b:=λb p=>F9 d h p.1 λe=>by
  let⟨_,i,O⟩:=l b e;exact p.2 i O
 have A:(uF c c'.w ob s rows).H[c.H.length]?=some (.blk s rows):=by simp[uF]
 have n:∀i o,(uF c c'.w ob s rows).H[i]?=some o->i≠c.H.length->i<c.H.length/\c.H[i]?=some o:=by
  intro i o L p;have E:i<c.H.length:=by
   rcases ZI i c.H.length with X | X
   .grind
   .have:(uF c c'.w ob s rows).H[i]?=none:=Zy (by simp[uF];omega);rw[this] at L;cases L
  exact⟨E,by rw[JU E] at L;exact L⟩
 refine⟨?_,?_,?_,?_,λk hk=>d.fresh k<|ZB h.size hk,?_,?_,?_,?_⟩
 .intro g cs N;let⟨cc,T,Z,G,V,h2,h0,Y,h4⟩:=M.gl g cs N;exact⟨cc,T,Z,G,y g V,h2,h0,Y,λj x z=>(h4 j x z).mono λb o p r=>⟨y b p,r⟩⟩
 .intro i j b p hj;rcases lM d p with⟨S,a⟩ | ⟨u,a⟩<;>rcases lM d hj with⟨e2,t⟩ | ⟨l2,t⟩
  .omega
  .have:=(l b a).1;have:=fN d t;omega
  .have:=(l b t).1;have:=fN d a;omega
  .exact d.inj i j b a t
 .intro i b p;show i<(c.H++[_]).length;simp only[Zh,Yd];rcases lM d p with⟨S,_⟩ | ⟨u,_⟩<;>omega
 .intro i b p;rcases lM d p with⟨S,a⟩ | ⟨u,a⟩
  .exact d.fresh b (l b a).1
  .exact d.nx i b a
 .intro i s' es' f e he;by_cases p:i=c.H.length
  .grind
  .exact d.lens i s' es' (n i _ f p).2 e he
 .intro i s' es' b f r;rcases lM d r with⟨rfl,a⟩ | ⟨u,a⟩
  .rw[A] at f;cases f;let⟨cs,T,F,D,J⟩:=B b a;exact⟨cs,T,F,D,λi j x z=>let ⟨v,w1,w2,W⟩:=J i j x z;⟨v,w1,w2,.pure _ _ W⟩⟩
  .let⟨_,m⟩:=n i _ f<|Xy u;let⟨cs,T,F,D,J⟩:=d.blk i s' es' b m a;exact⟨cs,T,(gL h<|fN d a).trans F,D,λi j x z=>let ⟨v,a,t,R⟩:=J i j x z;⟨v,a,t,R.step I⟩⟩
 .intro i K b f r;rcases lM d r with⟨rfl,a⟩ | ⟨u,a⟩
  .grind
  .let⟨_,m⟩:=n i _ f<|Xy u;let⟨es',Q,F,D,J⟩:=d.map i K b m a;exact⟨es',Q,(gL h<|fN d a).trans F,D,λi k x z=>let ⟨e,a,t,R⟩:=J i k x z;⟨e,a,t,R.step I⟩⟩
 .intro i q b f r;rcases lM d r with⟨rfl,a⟩ | ⟨u,a⟩
  .grind
  .let⟨_,m⟩:=n i _ f<|Xy u;exact (gL h<|fN d a).trans<|d.raw i q b m a
theorem aDF[aF](C:bX FT c)(f:bX FT c')(h:bW 0 (eQ c) c'){r:AV}{v:Value}(L:RV FT c' r v)(l:SS s c'.H r=some rows):
 ∃ob,(∀b,ob=some b->c.w.heap.size<=b)/\bX FT (uF c c'.w ob s rows)/\RV FT (uF c c'.w ob s rows) (.ms c.H.length rows.length 0 rows.length) v:=by
 unfold SS at l;split at l
 .rename_i id tot off len;split at l
  .grind
  rename_i n;split at l
  .grind
  rename_i o k;split at l
  .rename_i s' es;split at l
   .rename_i m;simp only[Zd] at n m;have G:=Zc n.1;have e2:=Zc n.2;have X:=Zc m.1;have N:=Zc m.2;subst G e2 X N;have d:=ZR l;have t:rows.length=es.length:=by rw[<-d];simp
    have p:∀b,c'.β id=some b->c.w.heap.size<=b/\∃i,c'.β i=some b:=by
     intro b g;rcases h.img id b g with S | ⟨i,F⟩
     .exact⟨S,id,g⟩
     .cases F
    refine⟨c'.β id,λb g=>(p b g).1,aEw C f h p ?_ ?_,?_⟩
    .intro e he;rw[<-d] at he;obtain⟨Q,Z,rfl⟩:=Yh.1 he;simpa using f.lens id s' es k Q Z
    .intro b g;let⟨cs,T,B,K,E⟩:=f.blk id s' es b k g;refine⟨cs,T,B,by rw[t];exact K,λi j x J=>?_⟩;rw[<-d] at J;obtain⟨y,Y,rfl⟩:=jO J;let⟨v,R,M,V⟩:=E i j y Y;refine⟨v,R,M,Tg (c':=det c' id s' es) (aNO f k) (λb' F=>?_) ?_ _ _ _<|aFN k V⟩
     .have A:=o5.1 F;exact F9 C h A.1<|A.2 id
     .intro I b' _ z;have q:I≠id/\c'.β I=some b':=by
       simp only[det] at z;split at z
       .grind
       .grind
      exact F9 C h (f.nx I b' q.2) λe=>q.1<|f.inj _ _ b' q.2 e
    .obtain⟨ad,cap,s0,n0,rfl,B,K,E,W⟩:=L.ms_inv;rw[eV k] at B;cases B;let⟨U,O⟩:=W rfl;rw[t];refine .ms _ _ _ _ ad cap s' es.length (by simp[shp,uF,t]) (Zf _) E λ_=>⟨U,?_⟩;have:(uF c c'.w (c'.β id) s' rows).β c.H.length=c'.β id:=by simp[uF]
     rw[this];exact O
   .grind
  .grind
 .rename_i u;split at l
  .rename_i a len cap;split at l
   .split at l
    .rename_i D;cases l;simp only[Zd] at D;have G:=Zc D.1;have e2:=Zc D.2;subst G e2;obtain rfl:=L.lit_inv;refine⟨none,(λb g=>by cases g),aEw C f h (λb g=>by cases g) (λe he=>by cases he) (λb g=>by cases g),?_⟩;refine .ms _ _ _ _ none 0 s 0 (by simp[shp,uF]) (Zf _) (Zf _) λ_=>⟨Zf _,.inl ⟨by simp[uF],rfl,rfl,rfl⟩⟩
    .grind
   .grind
  .grind
 .grind
end
theorem aL0[aF](N:Bh P T cf)(R:nH P T)(A:bX (aJ T) c)(J:TR (aJ T) c tm a.tmps)(F:fl<=c.H.length){s vi f:Nat}{g:List bB}{B:Array Operand}{ts:Array TypeId}{r:AV}{H':aW}(ho:o.op=.call ⟨.value<|.func f,B,ts⟩)(Y:aJ T vi=some f)(h:eT T g B.toList=true)(b:BT s c.H (cf 0 vi ((g.map<|aG tm).map<|cL c.H) [])=some (r,H')): dJ P (aJ T) c fl o a r H':=by
 let⟨fn,M,I,L⟩:=R vi f Y;intro K Q W;unfold Oper.wp;have e:(execOp a.eval o).run P c.w=(callFunc f<|(B.toList.map a.eval).toArray).run P c.w:=by
  have e:(B.toList.map a.eval).toArray=B.map a.eval:=by apply Xq;simp
  rw[e];simp[execOp,ho,resolve,Act.eval,Deferred.ofValue,invoke]
 rw[e,xG M I L];have k:=Sn A J h;have n:lQ (aJ T) (eQ c) ((g.map<|aG tm).map<|cL c.H)<|(B.toList.map a.eval).toArray:=by
  refine⟨by rw[ZO];exact k.1,λi x U=>?_⟩;rw[Zk,Zq] at U;obtain⟨y,q,rfl⟩:=U;let⟨v,g1,g2⟩:=k.2 i y q;exact⟨v,g1,HH A g2⟩
 unfold BT at b;split at b
 .grind
 rename_i p Z;let⟨r0,H0⟩:=p;refine (N 0 vi f _ r0 H0 (eQ c) _ Z Y (Bb A) (Zf _) n).mono ?_;rintro e w' ⟨v,c',rfl,rfl,rfl,hX,m,E,S⟩;simp only at b;split at b
 .split at b
  .grind
  rename_i x l;split at b
  .grind
  rename_i C;split at b
  .grind
  rename_i rows t;cases b;obtain⟨cv,d,rfl,q1,q2,X⟩:∃cv,∃d:Nat->Value,v=.tuple cv/\cv.size=(x::l).length/\(∀(i:Nat) y,(x::l)[i]?=some y->cv[i]?=some (d i))/\∀(i:Nat) y,(x::l)[i]?=some y->RV (aJ T) c' y (d i):=by
   cases S with
   | pure _ _ h=>cases h
   | tup cs cv d M I L=>exact⟨cv,d,rfl,M,I,L⟩
  let⟨ob,j,z,D⟩:=aDF A E m (X 0 x rfl) t;refine W _ (uF c c'.w ob s rows) rfl (PQ A m F j) z<|.tup _ cv d (by simpa using q1) (λi y q=>?_) λi y q=>?_
  .grind
  .match i,q with
   | 0,q=>grind
   | i+1,q=>
    have O:l[i]?=some y:=by simpa using q
    have hl:=Yl.1 C y<|Zg O;have hr:=X (i+1) y (by simpa using q);cases y with
    | lit u=>rw[hr.lit_inv];exact RV.lit u
    | _=>cases hl
 .split at b
  .grind
  rename_i rows t;cases b;let⟨ob,j,z,D⟩:=aDF A E m S t;exact W v (uF c c'.w ob s rows) rfl (PQ A m F j) z D
def yA(c:dA): dA:=⟨c.w,c.X,λ_=>none,[]⟩
theorem w8{c:dA}{b:Nat}(h:lE c b): lE (yA c) b:=⟨h.1,λid a=>by cases a⟩
theorem aD2[aF]{FT:Nat->Option Nat}{c:dA}(i:bX FT c): bX FT (yA c) where
 gl:=λg cs e=>let ⟨cc,T,t,a,p,l,B,z,r⟩:=i.gl g cs e;⟨cc,T,t,a,w8 p,l,B,z,λj x A=>(r j x A).mono λb o n v=>⟨w8 n,v⟩⟩;inj:=λ_ _ _ h=>by cases h
 dom:=λ_ _ h=>by cases h
 nx:=λ_ _ h=>by cases h
 fresh:=i.fresh;lens:=λid s es h=>by simp[yA] at h
 blk:=λid s es b h=>by simp[yA] at h
 map:=λid es b h=>by simp[yA] at h
 raw:=λid q b h=>by simp[yA] at h
theorem xL{c c':dA}(h:bW 0 (yA c) c'){k:Nat}(b:k<c.w.heap.size): c'.w.heap[k]?=c.w.heap[k]?:=h.frame k b λid a=>by cases a
theorem aAu[aF]{FT:Nat->Option Nat}{c c':dA}{fl:Nat}(m:bX FT c)(h:bW 0 (yA c) c'): bW fl c (pD c c') where
 X:=rfl;os:=h.os;tape:=h.tape;output:=h.output;drawn:=h.drawn;size:=h.size;len:=Zf _;frame:=λk r _=>xL h r;img:=λi _ a=>.inr ⟨i,a⟩;blkS:=λid s n e=>⟨n,e,Zf _,λ_=>⟨rfl,λb cs T a g=>⟨cs,(xL h<|fN m a).trans g,rfl⟩⟩⟩;mpS:=λ_ u=>⟨u,rfl⟩;floor:=λid _=>⟨rfl,rfl,λb a=>xL h<|fN m a⟩
theorem aJj[aF]{FT:Nat->Option Nat}{c c':dA}(a:bX FT c)(h:bW 0 (yA c) c'): bX FT<|pD c c':=by
 have f:=aAu (fl:=0) a h;refine⟨a.gl.step f,a.inj,a.dom,a.nx,λk y=>a.fresh k<|ZB h.size y,a.lens,?_,?_,λid q b g d=>(xL h<|fN a d).trans<|a.raw id q b g d⟩
 .intro id s es b g d;let⟨cs,T,n,t,r⟩:=a.blk id s es b g d;exact⟨cs,T,(xL h<|fN a d).trans n,t,λi j x p=>let ⟨v,o,u,w⟩:=r i j x p;⟨v,o,u,w.step f⟩⟩
 .intro id l b g d;let⟨es,m,n,t,r⟩:=a.map id l b g d;exact⟨es,m,(xL h<|fN a d).trans n,t,λi k x p=>let ⟨e,o,u,w⟩:=r i k x p;⟨e,o,u,w.step f⟩⟩
theorem aD3[aF]{c:dA}(B:bX (aJ T) c){x:AV}{v:Value}(U:RV (aJ T) c x v): RV (aJ T) (yA c) (gN c.H 0 x) v:=by
 have o:∀d y u,RV (aJ T) c y u->RP (yA c).w (lE<|yA c) (eE c.H 0 d y) u:=λd y u h=>
  Tg B (λb m=>w8 m) (λid b _ m=>⟨B.nx id b m,λi N=>by cases N⟩) d y u h
 cases U with
 | pure _ _ k=>
  have:=o 0 x v<|.pure _ _ k;cases k with
  | undef=>exact RV.undef _
  | lit=>exact .pure _ _<|aBZ _
  | nil f a cap X=>exact .pure _ _<|.nil false a cap<|by simp
  | sl f es b off cap cc J Q s e z E r A S I Y Z=>exact .pure _ _ this
  | sptr cs b off cc J Q e z E r A=>exact .pure _ _ this
  | rmp C b es K e z E r A S I=>exact .pure _ _ this
 | ms id tot off len a cap s n g j l t=>
  exact .pure _ _<|o _ _ _<|.ms id tot off len a cap s n g j l t
 | ptr id tot L off a s n g j l=>simp only[gN];exact RV.undef _
 | rptr=>exact RV.undef _
 | vnil=>exact RV.undef _
 | vw=>exact RV.undef _
 | mp id b g j=>
  exact .pure _ _<|o _ _ _<|.mp id b g j
 | it id b g j=>exact RV.undef _
 | fn vi f caps cv e g j l t=>
  cases caps with
  | nil=>exact .fn vi f [] cv e g j l λi x V=>by simp at V
  | cons _ _=>exact RV.undef _
 | agg=>exact RV.undef _
 | tup=>exact RV.undef _
theorem aKH[aF]{c:dA}(d:bX (aJ T) c){x:AV}{v:Value}(b:RV (aJ T) c x v): RV (aJ T) (yA c) (dZ c.H 0 x) v:=by
 unfold dZ;split
 .rename_i cs;obtain⟨cv,a,rfl,g,j,f⟩:=b.agg_inv;refine .agg _ cv a (by simpa using g) ?_ ?_
  .grind
  .intro i x e;simp at e;obtain⟨y,h,rfl⟩:=e;exact aD3 d<|f i y h
 .exact aD3 d b
theorem aKS[aF]{FT:Nat->Option Nat}{c c':dA}{x:AV}{v:Value}(b:aHx x=true)(h:RV FT c x v): RV FT c' x v:=by
 unfold aHx at b;split at b
 .rw[h.lit_inv];exact RV.lit _
 .rename_i vs;obtain⟨cv,a,rfl,g,e,f⟩:=h.tup_inv;refine .tup _ cv a g e λi y d=>?_;have:=Yl.1 b y<|Zg d;split at this
  .rw[(f i _ d).lit_inv];exact RV.lit _
  .grind
 .grind
theorem aL1[aF](t:Bh P T cf)(z:nH P T)(k:bX (aJ T) c)(p:TR (aJ T) c tm a.tmps){vi f:Nat}{b:List bB}{l:Array Operand}{ts:Array TypeId}{r:AV}{H':aW}(N:o.op=.call ⟨.value<|.func f,l,ts⟩)(B:aJ T vi=some f)(h:eT T b l.toList=true)(q:cf 0 vi ((b.map<|aG tm).map<|dZ c.H 0) []=some (r,H'))(C:aHx (fD H' 0 r)=true): dJ P (aJ T) c fl o a (fD H' 0 r) c.H:=by
 have d:=Sn k p h;have e:(l.toList.map a.eval).toArray=l.map a.eval:=by apply Xq;simp
 have m:(execOp a.eval o).run P c.w=(callFunc f (l.toList.map a.eval).toArray).run P c.w:=by
  rw[e];simp[execOp,N,resolve,Act.eval,Deferred.ofValue,invoke]
 let⟨fn,F,L,D⟩:=z vi f B;intro K Q J;unfold Oper.wp;rw[m,xG F L D];have g:lQ (aJ T) (yA c) ((b.map<|aG tm).map<|dZ c.H 0) (l.toList.map a.eval).toArray:=by
  refine⟨by simpa using d.1,λi x A=>?_⟩;rw[Zk,Zq] at A;obtain⟨y,M,rfl⟩:=A;let⟨v,I,E⟩:=d.2 i y M;exact⟨v,I,aKH k E⟩
 refine (t 0 vi f _ r H' (yA c) _ q B (aD2 k) (Zf _) g).mono ?_;rintro e w' ⟨v,c',rfl,rfl,rfl,O,j,s,G⟩;exact J v (pD c c') rfl (aAu k j) (aJj k j)<|aKS C<|IA (aD2 k) s ⟨j.X,λid u=>absurd u<|YE _⟩ G
theorem aLz[aF](l:Bh P T cf)(s:nH P T)(j:bX (aJ T) c)(d:TR (aJ T) c tm a.tmps)(q:fl<=c.H.length){pu:Bool}{vi:Nat}{x:bB}{y:Operand}{caps:List AV}{b:List bB}{g:Array Operand}{ts:Array TypeId}{r:AV}{H':aW}(A:o.op=.call ⟨.value y,g,ts⟩)(C:aP T x y=true)(n:aG tm x=.fn vi caps)(h:eT T b g.toList=true)(m:Eb cf fl pu vi (b.map (aG tm)++caps) c.H=some (r,H')): dJ P (aJ T) c fl o a r H':=by
 have u:=aX j d C;rw[n] at u;let⟨f,cv,v,w,E,B,G,F⟩:=u.fn_inv;have p:=Sn j d h;refine aHT l s j q m E (vs:=(g.toList.map a.eval).toArray++cv) ⟨by simp[B];simpa using p.1,?_⟩ ?_
 .intro i z k;rw[Yk] at k;rw[XX];have t:=p.1;rw[t];split at k
  .rename_i D;rw[Zu D];exact p.2 i z k
  .grind
 .have e:(g.toList.map a.eval).toArray=g.map a.eval:=by apply Xq;simp
  rw[e];simp[execOp,A,resolve,w,Deferred.ofValue,invoke]
theorem Oj[aF]: ∀(f:List<|Nat×Nat) (c:dA),bX (aJ T) c->fl<=c.H.length->bW fl c ⟨c.w,c.X,c.β,c.H++f.map λx=>.blk x.2 []⟩/\bX (aJ T) ⟨c.w,c.X,c.β,c.H++f.map λx=>.blk x.2 []⟩
 | [],c,b,_=>by simpa using⟨bW.refl fl c,b⟩
 | x::r,c,b,a=>by
  have i:=Jv (s:=x.2) a;have h:=NF (s:=x.2) b;let⟨g,d⟩:=Oj r ⟨c.w,c.X,c.β,c.H++[.blk x.2 []]⟩ h (by simp;omega);have e:(c.H++[dI.blk x.2 []])++r.map (λx=>dI.blk x.2 [])=c.H++(x::r).map λx=>.blk x.2 []:=by simp
  simp at g d;exact⟨i.trans g,d⟩
theorem Lk[aF]{FT:Nat->Option Nat}{z:List Value}: ∀(b:List<|Nat×Nat) (n:Nat) (cs:List AV),Bi FT c cs z.toArray->(∀x∈b,z[x.1]?=some bS)->
 (∀i,i<b.length->RV FT c (.ms (n+i) 0 0 0) bS)->Bi FT c (eP n cs b) z.toArray
 | [],_,cs,h,_,_=>h
 | (o,s)::r,n,cs,h,e,f=>by
  refine Lk r (n+1) _ ?_ (λx a=>e x<|by simp[a]) (λi g=>by have:=f (i+1) (by simp;omega);rwa [show n+(i+1)=n+1+i by omega] at this);refine⟨by simpa using h.1,λj x a=>?_⟩;rw[Z5] at a;split at a
  .rename_i d;subst d;split at a
   .cases a;exact⟨bS,by simpa using e (o,s)<|by simp,rfl,f 0<|by simp⟩
   .grind
  .exact h.2 j x a
theorem aJw[aF](r:bX (aJ T) c)(q:fl<=c.H.length){z:List Value}{d:List<|Nat×Nat}{t:TypeId}(I:o.op=.alloc t)(h:lR P t z=true)(n:∀x∈d,z[x.1]?=some bS):
 dJ P (aJ T) c fl o a (.ptr (c.H.length+d.length) 1 0 0)<|(c.H++d.map λc=>.blk c.2 [])++[.blk z.length [eP c.H.length (z.map .lit) d]]:=by
 let⟨i,v,G,J,A,m⟩:=gM h;let⟨s,u⟩:=Oj d c r q;generalize j:(c.H++d.map λc=>dI.blk c.2 [])=H1 at s u;have f:H1.length=c.H.length+d.length:=by rw[<-j];simp
 have l:Bi (aJ T) ⟨c.w,c.X,c.β,H1⟩ (eP c.H.length (z.map .lit) d) z.toArray:=by
  refine Lk d c.H.length _ (Qg m) n ?_;intro k D;refine .ms _ 0 0 0 none 0 (d[k].2) 0 ?_ (Zf _) (Zf _) λ_=>⟨Zf _,.inl ⟨?_,rfl,rfl,rfl⟩⟩
  .show shp H1 _=_;rw[<-j];simp[shp,D]
  .show c.β _=none;cases y:c.β (c.H.length+k) with
   | none=>rfl
   | some b=>have:=r.dom _ b y;omega
 have e:=Ti (P:=P) (fl:=fl) (o:=o) (a:=a) (t:=t) u (by simp;omega) ?_ l.1 l.2
 .have g:=by have:=l.1;simpa using this.symm
  rw[g] at e;simp only[f] at e;intro K Q F;refine e K Q ?_;intro cv c' C e2 E B;exact F cv c' C (s.trans e2) E B
 .simp[execOp,I,Instr.alloc,zeroValue,typeInfo,G,J,newVar,newRow,A]
theorem aO0[aF](f:bX (aJ T) c)(b:TR (aJ T) c tm a.tmps)(q:fl<=c.H.length){x:bB}{y:Operand}{t:TypeId}{cs:List AV}{d:List<|Nat×Nat}(k:o.op=.box t y)(h:aP T x y=true)(j:cellsOf (aG tm x)=some cs)(n:aLB cs d=true):
 dJ P (aJ T) c fl o a (.ptr (c.H.length+d.length) 1 0 0)<|(c.H++d.map λc=>.blk c.2 [])++[.blk cs.length [eP c.H.length cs d]]:=by
 let⟨g,i⟩:=Az (aX f b h) j;let⟨s,u⟩:=Oj d c f q;generalize e0:(c.H++d.map λc=>dI.blk c.2 [])=H1 at s u;have f1:H1.length=c.H.length+d.length:=by rw[<-e0];simp
 have l0:Bi (aJ T) ⟨c.w,c.X,c.β,H1⟩ cs (a.eval y).cells.toList.toArray:=⟨by simpa using g,λm z e=>by
  let⟨v,A,B,C⟩:=i m z e;exact⟨v,by simpa using A,B,C.step s⟩⟩
 have z0:∀x∈d,(a.eval y).cells.toList[x.1]?=some bS:=λx hx=>by
  have w:=Yl.1 n x hx;split at w
  .rename_i e;let⟨v,A,_,C⟩:=i _ _ e;rw[C.lit_inv] at A;show _=some (Value.slice none 0 0);simpa using A
  .cases w
 have l:Bi (aJ T) ⟨c.w,c.X,c.β,H1⟩ (eP c.H.length cs d) (a.eval y).cells.toList.toArray:=by
  refine Lk d c.H.length _ l0 z0 ?_;intro k D;refine .ms _ 0 0 0 none 0 (d[k].2) 0 ?_ (Zf _) (Zf _) λ_=>⟨Zf _,.inl ⟨?_,rfl,rfl,rfl⟩⟩
  .show shp H1 _=_;rw[<-e0];simp[shp,D]
  .show c.β _=none;cases y:c.β (c.H.length+k) with
   | none=>rfl
   | some b=>have:=f.dom _ b y;omega
 have e:=Ti (P:=P) (fl:=fl) (o:=o) (a:=a) (t:=t) u (by simp;omega) ?_ l.1 l.2
 .have g2:(eP c.H.length cs d).length=cs.length:=by rw[<-l.1];simpa using g
  rw[g2] at e;simp only[f1] at e;intro K Q F;refine e K Q ?_;intro cv c' C e2 E B;exact F cv c' C (s.trans e2) E B
 .simp[execOp,k,Instr.box,newVar,newRow]
end
section
variable {P:Program}{T:List cS}{a:Act}{α:Type}{as:Array α}{c:dA}{cf:Nat->Nat->List AV->aW->Option (AV×aW)}{fl:Nat}{o:Oper}{tm:List AV}{x:α}
section
theorem pH{y:α}(h:as.toList=[x,y]): as=#[x,y]:=by apply Xq;simpa using h
theorem jG(h:as.toList=[x]): as=#[x]:=by apply Xq;simpa using h
theorem aG7[aF](hcf:Bh P T cf)(hfn:nH P T)(hs:bX (aJ T) c)(htr:TR (aJ T) c tm a.tmps)(hfl:fl<=c.H.length){ao:Jn}{v:AV}{H':aW}(hchk:cP P T ao o.op=true)(hev:aL P cf fl ao tm c.H=some (v,H')): dJ P (aJ T) c fl o a v H':=by
 generalize hop:o.op=op at hchk
 cases ao with
 | mov x=>
  simp only[aL,Za,Zi] at hev
  let⟨rfl,rfl⟩:=hev
  simp only[cP] at hchk
  split at hchk
  .exact aGj hs htr (.inl hop) hchk
  .exact aGj hs htr (.inr hop) hchk
  .cases hchk
 | movN x=>
  simp only[aL,Za,Zi] at hev
  let⟨rfl,rfl⟩:=hev
  simp only[cP] at hchk
  split at hchk
  .exact aHP hs htr (.inl hop) hchk
  .exact aHP hs htr (.inr hop) hchk
  .cases hchk
 | rangeStr x=>
  simp only[cP] at hchk
  split at hchk
  .rename_i t y
   simp only[Zd] at hchk
   simp only[aL] at hev
   split at hev
   .rename_i s hx
    cases hev
    exact aDX hs htr hfl hop hchk.1 (by
     have:=hchk.2
     split at this
     .assumption
     .cases this) hx
   .cases hev
  .cases hchk
 | nextStr x=>
  simp only[cP] at hchk
  split at hchk
  .rename_i y b
   simp only[Zd] at hchk
   obtain⟨hy,rfl⟩:=hchk
   simp only[aL] at hev
   split at hev
   .rename_i id hx
    split at hev
    .rename_i hle
     split at hev
     .rename_i s pos hob
      split at hev
      .rename_i hp
       cases hev
       exact aGi hs htr hop hy hx hle hob hp
      .rename_i hp
       cases hev
       exact aGh hs htr hop hy hx hob hp
     .cases hev
    .cases hev
   .cases hev
  .cases hchk
 | freeze x=>
  simp only[cP] at hchk
  have hmv:∃y,(o.op=.move y\/o.op=.assign y)/\aP T x y=true:=by
   split at hchk
   .exact⟨_,.inl hop,hchk⟩
   .exact⟨_,.inr hop,hchk⟩
   .cases hchk
  let⟨y,ho,hy⟩:=hmv
  simp only[aL] at hev
  split at hev
  .rename_i id tot off len hx
   split at hev
   .rename_i hle
    split at hev
    .rename_i s es hob
     split at hev
     .rename_i htot
      cases hev
      exact aJv hs htr ho hy hx hle hob htot
     .cases hev
    .cases hev
   .cases hev
  .rename_i id tot idx off hx
   split at hev
   .rename_i hle
    split at hev
    .rename_i s es hob
     split at hev
     .rename_i htot
      split at hev
      .rename_i e he
       cases hev
       exact aGl hs htr ho hy hx hle hob htot he
      .cases hev
     .cases hev
    .cases hev
   .cases hev
  .cases hev
   exact aGj hs htr ho hy
 | loadF n k x=>
  simp only[cP] at hchk
  split at hchk
  .simp only[Zd] at hchk
   let⟨⟨h1,h2⟩,h4⟩:=hchk
   simp only[aL] at hev
   split at hev
   .rename_i cs hcs
    split at hev
    .rename_i id tot off len hk
     split at hev
     .rename_i hle
      split at hev
      .rename_i s es hob
       split at hev
       .rename_i htot
        cases hev
        exact aLw hs htr hop h4 h1 h2 hcs hk hle hob htot
       .cases hev
      .cases hev
     .cases hev
    .cases hev
     exact aBU hs htr hop h4 h1 h2 hcs<|by simp
    .cases hev
   .cases hev
  .cases hchk
 | pick x y z=>
  simp only[cP] at hchk
  split at hchk
  .simp only[Zd] at hchk
   simp only[aL] at hev
   split at hev
   .rename_i t ht
    simp only[Za,Zi] at hev
    let⟨rfl,rfl⟩:=hev
    exact aOu hs htr hop hchk.1.1 hchk.1.2 hchk.2 ht
   .cases hev
  .cases hchk
 | alloc z=>
  simp only[aL,Za,Zi] at hev
  let⟨rfl,rfl⟩:=hev
  simp only[cP] at hchk
  split at hchk
  .exact aL5 hs hfl hop hchk
  .cases hchk
 | claim s=>
  simp only[aL,Za,Zi] at hev
  let⟨rfl,rfl⟩:=hev
  simp only[cP] at hchk
  split at hchk
  .exact aEa hs hfl<|.inl hop
  .exact aEa hs hfl<|.inr hop
  .cases hchk
 | allocC z cl=>
  simp only[aL,Za,Zi] at hev
  let⟨rfl,rfl⟩:=hev
  simp only[cP] at hchk
  split at hchk
  .simp only[Zd] at hchk
   refine aJw hs hfl hop hchk.1 λx hx=>?_
   have:=Yl.1 hchk.2 x hx
   split at this
   .rename_i h;exact h
   .cases this
  .cases hchk
 | box x=>
  simp only[cP] at hchk
  split at hchk
  .simp only[aL] at hev
   split at hev
   .rename_i cs hcs
    simp only[Za,Zi] at hev
    let⟨rfl,rfl⟩:=hev
    exact aRC hs htr hfl hop hchk hcs
   .cases hev
  .cases hchk
 | ptrK n=>simp only[cP] at hchk;cases hchk
 | boxC x cl=>
  simp only[cP] at hchk
  split at hchk
  .simp only[aL] at hev
   split at hev
   .rename_i cs hcs
    split at hev
    .rename_i hn
     simp only[Za,Zi] at hev
     let⟨rfl,rfl⟩:=hev
     exact aO0 hs htr hfl hop hchk hcs hn
    .cases hev
   .cases hev
  .cases hchk
 | build z ps=>
  have hchk0:=hchk
  simp only[cP] at hchk
  split at hchk
  .simp only[Zd] at hchk
   simp only[aL] at hev
   split at hev
   .rename_i cs hcs
    simp only[Za,Zi] at hev
    let⟨rfl,rfl⟩:=hev
    exact aL4 hs htr hop hchk.1 hchk0 hcs
   .cases hev
  .cases hchk
 | buildSl pu s n z ps=>
  simp only[cP] at hchk
  split at hchk
  .rename_i t m qs
   simp only[Zd,ZC] at hchk
   let⟨rfl,hchk⟩:=hchk
   split at hchk
   .rename_i e hu
    simp only[Zd,ZC,Z4] at hchk
    let⟨⟨⟨⟨⟨h1,h2⟩,h3⟩,h4⟩,h5⟩,h6⟩:=hchk
    simp only[aL] at hev
    split at hev
    .rename_i es hes
     have key:=aGn (pu:=pu) hs htr hfl hop hu h1 h2 h3 h4 h5 h6 hes
     cases pu with
     | true=>
      simp only[Zz,Za,Zi] at hev
      let⟨rfl,rfl⟩:=hev
      simpa using key
     | false=>
      simp only[Zn,Z9,Za,Zi] at hev
      let⟨rfl,rfl⟩:=hev
      simpa using key
    .cases hev
   .cases hchk
  .cases hchk
 | load agg n x=>
  simp only[cP] at hchk
  split at hchk
  .simp only[Zd] at hchk
   let⟨⟨⟨h1,h2⟩,h3⟩,h4⟩:=hchk
   simp only[aL] at hev
   split at hev
   .rename_i cs hcs
    cases agg with
    | true=>
     simp only[Zz,Za,Zi] at hev
     let⟨rfl,rfl⟩:=hev
     exact aBU hs htr hop h4 h1 h2 hcs<|by simp
    | false=>
     simp only[Zn,Z9] at hev
     split at hev
     .simp only[Za,Zi] at hev
      let⟨rfl,rfl⟩:=hev
      exact aBU hs htr hop h4 h1 h2 hcs<|by simp
     .cases hev
   .cases hev
  .cases hchk
 | store n x u=>
  simp only[cP] at hchk
  split at hchk
  .simp only[Zd] at hchk
   let⟨⟨h1,h2⟩,h3⟩:=hchk
   simp only[aL] at hev
   split at hev
   .rename_i cs hcs
    split at hev
    .rename_i hn
     split at hev
     .rename_i H1 hst
      simp only[Za,Zi] at hev
      let⟨rfl,rfl⟩:=hev
      exact aLs hs htr hop h2 h3 h1 hcs hn hst
     .cases hev
    .cases hev
   .cases hev
  .cases hchk
 | nilCheck x=>
  simp only[cP] at hchk
  split at hchk
  .simp only[aL] at hev
   split at hev
   .rename_i id tot idx off hx
    simp only[Za,Zi] at hev
    let⟨rfl,rfl⟩:=hev
    exact Cb hs htr hop hchk<|.inl ⟨_,_,_,_,hx⟩
   .rename_i cs hx
    simp only[Za,Zi] at hev
    let⟨rfl,rfl⟩:=hev
    exact Cb hs htr hop hchk<|.inr<|.inl ⟨_,hx⟩
   .rename_i cs hx
    simp only[Za,Zi] at hev
    let⟨rfl,rfl⟩:=hev
    exact Cb hs htr hop hchk<|.inr<|.inr<|.inl ⟨_,hx⟩
   .rename_i vi caps hx
    simp only[Za,Zi] at hev
    let⟨rfl,rfl⟩:=hev
    exact Cb hs htr hop hchk<|.inr<|.inr<|.inr ⟨_,_,hx⟩
   .cases hev
  .cases hchk
 | ibin op x y=>
  simp only[cP] at hchk
  split at hchk
  .simp only[Zd,Z4] at hchk
   let⟨⟨rfl,h1⟩,h2⟩:=hchk
   simp only[aL] at hev
   split at hev
   .rename_i k n k' m e1 e2
    split at hev
    .rename_i hk
     subst hk
     split at hev
     .rename_i r hr
      simp only[Za,Zi] at hev
      let⟨rfl,rfl⟩:=hev
      exact aOx hs htr hop h1 h2 e1 e2 hr
     .cases hev
    .cases hev
   .cases hev
  .cases hchk
 | bin op t x y=>
  simp only[cP] at hchk
  split at hchk
  .simp only[Zd,Z4,ZC] at hchk
   let⟨⟨⟨rfl,rfl⟩,h1⟩,h2⟩:=hchk
   simp only[aL] at hev
   split at hev
   .rename_i v1 v2 e1 e2
    split at hev
    .rename_i g hg
     split at hev
     .rename_i r hr
      simp only[Za,Zi] at hev
      let⟨rfl,rfl⟩:=hev
      split at hg
      .rename_i hn
       exact aRD hs htr hop h1 h2 e1 e2 hn hg hr
      .cases hg
     .cases hev
    .cases hev
   .cases hev
  .cases hchk
 | un op x=>
  simp only[cP] at hchk
  split at hchk
  .simp only[Zd,Z4] at hchk
   let⟨rfl,h1⟩:=hchk
   simp only[aL] at hev
   split at hev
   .rename_i v1 e1
    split at hev
    .rename_i r hr
     simp only[Za,Zi] at hev
     let⟨rfl,rfl⟩:=hev
     exact aUw hs htr hop h1 e1 hr
    .cases hev
   .cases hev
  .cases hchk
 | conv s d x=>
  simp only[cP] at hchk
  split at hchk
  .simp only[Zd,ZC] at hchk
   let⟨⟨rfl,rfl⟩,h1⟩:=hchk
   simp only[aL] at hev
   split at hev
   .rename_i v1 e1
    split at hev
    .rename_i r hr
     simp only[Za,Zi] at hev
     let⟨rfl,rfl⟩:=hev
     exact aOz hs htr hop h1 e1 hr
    .cases hev
   .rename_i f es e1
    split at hev
    .rename_i hb
     split at hev
     .rename_i ns hns
      simp only[Za,Zi] at hev
      let⟨rfl,rfl⟩:=hev
      exact aLx hs htr hop h1 e1 hb hns
     .cases hev
    .cases hev
   .cases hev
  .cases hchk
 | fieldAddr off x=>
  simp only[cP] at hchk
  split at hchk
  .simp only[Zd] at hchk
   let⟨h1,hchk⟩:=hchk
   split at hchk
   .rename_i fs hu
    split at hchk
    .rename_i fd hf
     simp only[Zd,ZC] at hchk
     let⟨hof,hchk⟩:=hchk
     split at hchk
     .rename_i i hi
      have hsz:i.size≠0:=by simpa using hchk
      simp only[aL] at hev
      split at hev
      .rename_i id tot idx k hx
       simp only[Za,Zi] at hev
       let⟨rfl,rfl⟩:=hev
       exact Kt hs htr hop h1 hu hf hof hi hsz<|.inl ⟨_,_,_,_,hx,rfl⟩
      .rename_i cs hx
       simp only[Za,Zi] at hev
       let⟨rfl,rfl⟩:=hev
       exact Kt hs htr hop h1 hu hf hof hi hsz<|.inr ⟨_,.inl hx,rfl⟩
      .rename_i cs hx
       simp only[Za,Zi] at hev
       let⟨rfl,rfl⟩:=hev
       exact Kt hs htr hop h1 hu hf hof hi hsz<|.inr ⟨_,.inr hx,rfl⟩
      .cases hev
     .cases hchk
    .cases hchk
   .cases hchk
  .cases hchk
 | field agg n off x=>
  simp only[cP] at hchk
  split at hchk
  .simp only[Zd] at hchk
   let⟨h1,hchk⟩:=hchk
   split at hchk
   .rename_i fs hu
    split at hchk
    .rename_i fd hf
     simp only[Zd,ZC] at hchk
     let⟨⟨⟨hof,h2⟩,h3⟩,h4⟩:=hchk
     have h4':agg=true\/n=1:=by simpa using h4
     simp only[aL] at hev
     split at hev
     .rename_i cs hx
      split at hev
      .rename_i hle
       cases agg with
       | true=>
        simp only[Zz,Za,Zi] at hev
        let⟨rfl,rfl⟩:=hev
        exact aDZ hs htr hop h1 hu hf hof h2 h3 h4' hx hle<|by simp
       | false=>
        simp only[Zn,Z9] at hev
        split at hev
        .rename_i c0 hc0
         simp only[Za,Zi] at hev
         let⟨rfl,rfl⟩:=hev
         exact aDZ hs htr hop h1 hu hf hof h2 h3 h4' hx hle<|by simpa using hc0
        .cases hev
      .cases hev
     .cases hev
    .cases hchk
   .cases hchk
  .cases hchk
 | idxAddr s x i=>
  simp only[cP] at hchk
  split at hchk
  .simp only[Zd] at hchk
   let⟨⟨h1,h2⟩,hchk⟩:=hchk
   split at hchk
   .rename_i e hu
    simp only[aL] at hev
    split at hev
    .rename_i n hn
     split at hev
     .rename_i f es hx
      split at hev
      .rename_i cs hcs
       split at hev
       .rename_i hl
        simp only[Za,Zi] at hev
        let⟨rfl,rfl⟩:=hev
        exact DK hs htr hop h1 h2 hu hchk hn<|.inl ⟨_,_,_,hx,hcs,hl,rfl⟩
       .cases hev
      .cases hev
     .rename_i es hx
      split at hev
      .rename_i cs hcs
       split at hev
       .rename_i hl
        simp only[Za,Zi] at hev
        let⟨rfl,rfl⟩:=hev
        exact DK hs htr hop h1 h2 hu hchk hn<|.inr<|.inl ⟨_,_,hx,hcs,hl,rfl⟩
       .cases hev
      .cases hev
     .rename_i id tot off len hx
      split at hev
      .rename_i s' es hob
       split at hev
       .rename_i hc
        let⟨rfl,hc1,hc2⟩:=hc
        simp only[Za,Zi] at hev
        let⟨rfl,rfl⟩:=hev
        exact DK hs htr hop h1 h2 hu hchk hn<|.inr<|.inr ⟨_,_,_,_,_,hx,hob,hc1,hc2,rfl⟩
       .cases hev
      .cases hev
     .cases hev
    .cases hev
   .cases hchk
  .cases hchk
 | idxArr s n x i=>
  simp only[cP] at hchk
  split at hchk
  .simp only[Zd] at hchk
   let⟨⟨h1,h2⟩,hchk⟩:=hchk
   split at hchk
   .rename_i m e hu
    simp only[Zd,ZC] at hchk
    let⟨rfl,h3⟩:=hchk
    simp only[aL] at hev
    split at hev
    .rename_i k hn
     split at hev
     .rename_i hlt
      split at hev
      .rename_i id tot idx off hx
       simp only[Za,Zi] at hev
       let⟨rfl,rfl⟩:=hev
       exact aAA hs htr hop h1 h2 hu h3 hn hlt<|.inl ⟨_,_,_,_,hx,rfl⟩
      .rename_i cs hx
       simp only[Za,Zi] at hev
       let⟨rfl,rfl⟩:=hev
       exact aAA hs htr hop h1 h2 hu h3 hn hlt<|.inr ⟨_,hx,rfl⟩
      .cases hev
     .cases hev
    .cases hev
   .cases hchk
  .cases hchk
 | index agg s n x i=>
  simp only[cP] at hchk
  split at hchk
  .simp only[Zd] at hchk
   let⟨⟨h1,h2⟩,hchk⟩:=hchk
   split at hchk
   .rename_i m e hu
    simp only[Zd,ZC] at hchk
    let⟨⟨⟨rfl,h3⟩,h4⟩,h5⟩:=hchk
    have h5':agg=true\/s=1:=by simpa using h5
    simp only[aL] at hev
    split at hev
    .rename_i k hn
     split at hev
     .rename_i hlt
      split at hev
      .rename_i cs hx
       split at hev
       .rename_i hle
        cases agg with
        | true=>
         simp only[Zz,Za,Zi] at hev
         let⟨rfl,rfl⟩:=hev
         exact aDY hs htr hop h1 h2 hu h3 h4 h5' hn hlt hx hle<|by simp
        | false=>
         simp only[Zn,Z9] at hev
         split at hev
         .rename_i c0 hc0
          simp only[Za,Zi] at hev
          let⟨rfl,rfl⟩:=hev
          exact aDY hs htr hop h1 h2 hu h3 h4 h5' hn hlt hx hle<|by simpa using hc0
         .cases hev
       .cases hev
      .cases hev
     .cases hev
    .cases hev
   .cases hchk
  .cases hchk
 | strIdx t x i=>
  simp only[cP] at hchk
  split at hchk
  .simp only[Zd,ZC] at hchk
   let⟨⟨rfl,h1⟩,h2⟩:=hchk
   simp only[aL] at hev
   split at hev
   .rename_i v1 v2 e1 e2
    split at hev
    .rename_i r hr
     simp only[Za,Zi] at hev
     let⟨rfl,rfl⟩:=hev
     exact aJt hs htr hop h1 h2 e1 e2 hr
    .cases hev
   .cases hev
  .cases hchk
 | slice s x lo hi mx=>
  simp only[cP] at hchk
  split at hchk
  .simp only[Zd] at hchk
   let⟨⟨⟨⟨h1,h2⟩,h3⟩,h4⟩,hchk⟩:=hchk
   split at hchk
   .rename_i e hu
    simp only[aL] at hev
    split at hev
    .rename_i nlo nhi nmx n1 n2 n3
     split at hev
     .rename_i r hr
      simp only[Za,Zi] at hev
      let⟨rfl,rfl⟩:=hev
      exact aLt hs htr hop h1 h2 h3 h4 hu hchk n1 n2 n3 hr
     .cases hev
    .cases hev
   .cases hchk
  .cases hchk
 | strSlice t x lo hi=>
  simp only[cP] at hchk
  split at hchk
  .simp only[Zd,ZC] at hchk
   let⟨⟨⟨⟨rfl,h1⟩,h2⟩,h3⟩,hchk⟩:=hchk
   split at hchk
   .rename_i hu
    simp only[aL] at hev
    split at hev
    .rename_i s nlo nhi e1 n1 n2
     split at hev
     .rename_i hc
      simp only[Za,Zi] at hev
      let⟨rfl,rfl⟩:=hev
      exact aDW hs htr hop h1 h2 h3 hu n1 n2 e1 hc
     .cases hev
    .cases hev
   .cases hchk
  .cases hchk
 | mkSlice s z bytes l k=>
  simp only[cP] at hchk
  split at hchk
  .simp only[Zd] at hchk
   let⟨⟨h1,h2⟩,hchk⟩:=hchk
   split at hchk
   .rename_i e hu
    simp only[Zd,Z4] at hchk
    let⟨⟨⟨h3,h4⟩,h5⟩,h6⟩:=hchk
    simp only[aL] at hev
    split at hev
    .rename_i nl nk e1 e2
     split at hev
     .rename_i hc
      simp only[Za,Zi] at hev
      let⟨rfl,rfl⟩:=hev
      exact aGk hs htr hfl hop h1 h2 hu h3 h4 h5 h6 e1 e2 hc.1 hc.2.1 hc.2.2.1 hc.2.2.2
     .cases hev
    .cases hev
   .cases hchk
  .cases hchk
 | mkMap=>
  simp only[aL,Za,Zi] at hev
  let⟨rfl,rfl⟩:=hev
  simp only[cP] at hchk
  split at hchk
  .exact aLu hs hfl hop
  .cases hchk
 | lookup kt z m k ok=>
  simp only[cP] at hchk
  split at hchk
  .simp only[Zd,ZC] at hchk
   obtain⟨⟨⟨rfl,h1⟩,h2⟩,hchk⟩:=hchk
   split at hchk
   .rename_i kt' e hu
    simp only[Zd,ZC] at hchk
    obtain⟨rfl,hchk⟩:=hchk
    split at hchk
    .rename_i i hi
     have hz:∃zv,i.zero=some zv/\RV (aJ T) c (aG tm z) zv:=by
      split at hchk
      .rename_i u v hz
       exact⟨u,hz,by rw[<-aFA hchk];exact RV.lit _⟩
      .rename_i us vs hz
       refine⟨.agg us,hz,?_⟩
       have:us=vs.toArray:=by rw[i5 hchk]
       rw[this]
       exact SR vs<|Bn hchk
      .cases hchk
     let⟨zv,hz1,hz2⟩:=hz
     simp only[aL] at hev
     split at hev
     .rename_i kv hk
      have fin:∀ents:List<|Value×AV,((aG tm m=.lit (.map none)/\ents=[])\/(∃id,aG tm m=.mp id/\c.H[id]?=some (.mp ents))\/aG tm m=.rmp ents)->
       (match aN P<|Instr.checkKey ents.isEmpty 10000 kt kv,kE P kt kv ents with
        | some _,some (some i)=>match ents[i]? with
         | some e=>some (if ok then AV.tup [e.2,.lit<|.bool true] else e.2,c.H)
         | none=>none
        | some _,some none=>some (if ok then AV.tup [aG tm z,.lit<|.bool false] else aG tm z,c.H)
        | _,_=>none)=some (v,H')->dJ P (aJ T) c fl o a v H':=by
       intro ents hm hr
       split at hr
       .rename_i u i0 hck hf
        split at hr
        .rename_i en hen
         simp only[Za,Zi] at hr
         let⟨rfl,rfl⟩:=hr
         exact aA9 hs htr hop h1 h2 hu hi hz1 hz2 hk hck hm<|.inl ⟨_,_,hf,hen,rfl,rfl⟩
        .cases hr
       .rename_i u hck hf
        simp only[Za,Zi] at hr
        let⟨rfl,rfl⟩:=hr
        exact aA9 hs htr hop h1 h2 hu hi hz1 hz2 hk hck hm<|.inr ⟨hf,rfl,rfl⟩
       .cases hr
      split at hev
      .rename_i hm
       exact fin [] (.inl ⟨hm,rfl⟩) hev
      .rename_i id hm
       split at hev
       .rename_i ents hob
        exact fin ents (.inr<|.inl ⟨id,hm,hob⟩) hev
       .cases hev
      .rename_i ents hm
       exact fin ents (.inr<|.inr hm) hev
      .cases hev
     .cases hev
    .cases hchk
   .cases hchk
  .cases hchk
 | mapUpd kt m k x=>
  have fin:∀(t:TypeId) (m' k' x':Operand) (e:TypeId),(o.op=.mapUpdate t m' k' x'\/o.op=.insert t m' k' x')->aP T m m'=true->aP T k k'=true->aP T x x'=true->
   P.underlying t=some (.map kt e)->dJ P (aJ T) c fl o a v H':=by
   intro t m' k' x' e ho h1 h2 h3 hu
   simp only[aL] at hev
   split at hev
   .rename_i kv id hk hm
    split at hev
    .rename_i hflid
     split at hev
     .rename_i ents hob
      split at hev
      .rename_i u i0 hck hf
       split at hev
       .rename_i en hen
        split at hev
        .rename_i hsb
         simp only[Za,Zi] at hev
         let⟨rfl,rfl⟩:=hev
         exact aA8 hs htr ho h1 h2 h3 hu hk hck hflid hm hob<|.inl ⟨_,_,hf,hen,hsb,rfl⟩
        .cases hev
       .cases hev
      .rename_i u hck hf
       simp only[Za,Zi] at hev
       let⟨rfl,rfl⟩:=hev
       exact aA8 hs htr ho h1 h2 h3 hu hk hck hflid hm hob<|.inr ⟨hf,rfl⟩
      .cases hev
     .cases hev
    .cases hev
   .cases hev
  simp only[cP] at hchk
  split at hchk
  .simp only[Zd] at hchk
   let⟨⟨⟨h1,h2⟩,h3⟩,hchk⟩:=hchk
   split at hchk
   .rename_i kt' e hu
    have:kt=kt':=by simpa using hchk
    subst this
    exact fin _ _ _ _ e (.inl hop) h1 h2 h3 hu
   .cases hchk
  .simp only[Zd] at hchk
   let⟨⟨⟨h1,h2⟩,h3⟩,hchk⟩:=hchk
   split at hchk
   .rename_i kt' e hu
    have:kt=kt':=by simpa using hchk
    subst this
    exact fin _ _ _ _ e (.inr hop) h1 h2 h3 hu
   .cases hchk
  .cases hchk
 | lenS x=>
  simp only[cP] at hchk
  split at hchk
  .rename_i as ts
   split at hchk
   .rename_i y t ha ht
    simp only[Zd] at hchk
    let⟨h1,hchk⟩:=hchk
    split at hchk
    .rename_i e hu
     rw[jG ha,jG ht] at hop
     simp only[aL] at hev
     split at hev
     .rename_i hx
      simp only[Za,Zi] at hev
      let⟨rfl,rfl⟩:=hev
      exact l8 (n:=0) hs htr hop h1 hu<|.inl ⟨hx,rfl⟩
     .rename_i f es hx
      simp only[Za,Zi] at hev
      let⟨rfl,rfl⟩:=hev
      exact l8 hs htr hop h1 hu<|.inr<|.inl ⟨_,_,hx,rfl⟩
     .rename_i es hx
      simp only[Za,Zi] at hev
      let⟨rfl,rfl⟩:=hev
      exact l8 hs htr hop h1 hu<|.inr<|.inr<|.inr ⟨_,hx,rfl⟩
     .rename_i id tot off len hx
      simp only[Za,Zi] at hev
      let⟨rfl,rfl⟩:=hev
      exact l8 hs htr hop h1 hu<|.inr<|.inr<|.inl ⟨_,_,_,hx⟩
     .cases hev
    .cases hchk
   .cases hchk
  .cases hchk
 | lenM x=>
  simp only[cP] at hchk
  split at hchk
  .rename_i as ts
   split at hchk
   .rename_i y t ha ht
    simp only[Zd] at hchk
    let⟨h1,hchk⟩:=hchk
    split at hchk
    .rename_i k e hu
     rw[jG ha,jG ht] at hop
     simp only[aL] at hev
     split at hev
     .rename_i hx
      simp only[Za,Zi] at hev
      let⟨rfl,rfl⟩:=hev
      exact aBV (n:=0) hs htr hop h1 hu<|.inl ⟨hx,rfl⟩
     .rename_i id hx
      split at hev
      .rename_i ents hob
       simp only[Za,Zi] at hev
       let⟨rfl,rfl⟩:=hev
       exact aBV hs htr hop h1 hu<|.inr<|.inl ⟨_,_,hx,hob,rfl⟩
      .cases hev
     .rename_i ents hx
      simp only[Za,Zi] at hev
      let⟨rfl,rfl⟩:=hev
      exact aBV hs htr hop h1 hu<|.inr<|.inr ⟨_,hx,rfl⟩
     .cases hev
    .cases hchk
   .cases hchk
  .cases hchk
 | lenStr t x=>
  simp only[cP] at hchk
  split at hchk
  .rename_i as ts
   split at hchk
   .rename_i y t' ha ht
    simp only[Zd,ZC] at hchk
    let⟨rfl,h1⟩:=hchk
    rw[jG ha,jG ht] at hop
    simp only[aL] at hev
    split at hev
    .rename_i v1 hx
     split at hev
     .rename_i r hr
      simp only[Za,Zi] at hev
      let⟨rfl,rfl⟩:=hev
      exact aJu hs htr hop h1 hx hr
     .cases hev
    .cases hev
   .cases hchk
  .cases hchk
 | lenC n=>
  simp only[aL,Za,Zi] at hev
  let⟨rfl,rfl⟩:=hev
  simp only[cP] at hchk
  split at hchk
  .rename_i as ts
   split at hchk
   .rename_i y t ha ht
    split at hchk
    .rename_i m e hu
     have:m=n:=by simpa using hchk
     subst this
     rw[jG ha,jG ht] at hop
     exact aOw hs hop hu
    .cases hchk
   .cases hchk
  .cases hchk
 | append s bytes x y=>
  simp only[cP] at hchk
  split at hchk
  .rename_i as ts
   split at hchk
   .rename_i x' y' t t' ha ht
    simp only[Zd] at hchk
    let⟨⟨⟨h1,h2⟩,h3⟩,hchk⟩:=hchk
    split at h3
    .rename_i e' hu'
     split at hchk
     .rename_i e hu
      simp only[Zd] at hchk
      let⟨⟨h4,h5⟩,hchk⟩:=hchk
      split at hchk
      .rename_i i hi
       split at hchk
       .rename_i z hz
        have hzs:z.cells.size=s:=by simpa using hchk
        have hsz:i.size=s:=by simpa [dK,hi] using h4
        have hby:i.bytes=bytes:=by simpa [tS,hi] using h5
        rw[pH ha,pH ht] at hop
        simp only[aL] at hev
        split at hev
        .rename_i ys hys
         exact OS hs htr hfl hop h1 h2 hu hu' hi hsz hby hz hzs hys hev
        .cases hev
       .cases hchk
      .cases hchk
     .cases hchk
    .cases h3
   .cases hchk
  .cases hchk
 | appendP s bytes x y=>
  simp only[cP] at hchk
  split at hchk
  .rename_i as ts
   split at hchk
   .rename_i x' y' t t' ha ht
    simp only[Zd] at hchk
    let⟨⟨⟨h1,h2⟩,h3⟩,hchk⟩:=hchk
    split at h3
    .rename_i e' hu'
     split at hchk
     .rename_i e hu
      simp only[Zd] at hchk
      let⟨⟨h4,h5⟩,hchk⟩:=hchk
      split at hchk
      .rename_i i hi
       split at hchk
       .rename_i z hz
        have hzs:z.cells.size=s:=by simpa using hchk
        have hsz:i.size=s:=by simpa [dK,hi] using h4
        have hby:i.bytes=bytes:=by simpa [tS,hi] using h5
        rw[pH ha,pH ht] at hop
        simp only[aL] at hev
        split at hev
        .rename_i r hr
         cases hev
         exact aGp hs htr hop h1 h2 hu hu' hi hsz hby hz hzs hr
        .cases hev
       .cases hchk
      .cases hchk
     .cases hchk
    .cases h3
   .cases hchk
  .cases hchk
 | appendZ s bytes z x y=>
  simp only[cP] at hchk
  split at hchk
  .rename_i as ts
   split at hchk
   .rename_i x' y' t t' ha ht
    simp only[Zd] at hchk
    let⟨⟨⟨h1,h2⟩,h3⟩,hchk⟩:=hchk
    split at h3
    .rename_i k hu'
     split at hchk
     .rename_i e hu
      simp only[Zd] at hchk
      let⟨⟨h4,h5⟩,h6⟩:=hchk
      rw[pH ha,pH ht] at hop
      simp only[aL] at hev
      split at hev
      .rename_i n hn
       split at hev
       .rename_i hc
        exact aGo hs htr hfl hop h1 h2 hu hu' h4 h5 h6 hc.1 hn hc.2.1 hc.2.2 hev
       .cases hev
      .cases hev
     .cases hchk
    .cases h3
   .cases hchk
  .cases hchk
 | copy s x y=>
  simp only[cP] at hchk
  split at hchk
  .rename_i as ts
   split at hchk
   .rename_i x' y' t t' ha ht
    simp only[Zd] at hchk
    let⟨⟨h1,h2⟩,hchk⟩:=hchk
    split at hchk
    .rename_i e hu
     let⟨i,hi,hsz⟩:=eL hchk
     rw[pH ha,pH ht] at hop
     simp only[aL] at hev
     split at hev
     .rename_i ys hrd
      split at hev
      .rename_i hal
       split at hev
       .rename_i id tot off len hx
        split at hev
        .rename_i s' es hob
         split at hev
         .rename_i hc
          let⟨rfl,c2,c3,c4⟩:=hc
          exact aOy hs htr hop h1 h2 hu hi hsz hrd hal.1 hal.2 hx hob c2 c3 c4 hev
         .cases hev
        .cases hev
       .cases hev
      .cases hev
     .cases hev
    .cases hchk
   .cases hchk
  .cases hchk
 | clear s z x=>
  simp only[cP] at hchk
  split at hchk
  .rename_i as ts
   split at hchk
   .rename_i x' t ha ht
    simp only[Zd] at hchk
    let⟨h1,hchk⟩:=hchk
    split at hchk
    .rename_i e hu
     simp only[Zd] at hchk
     rw[jG ha,jG ht] at hop
     refine aLy hs htr hop h1 hu hchk.1 hchk.2 ?_
     simp only[aL] at hev
     split at hev
     .rename_i hx
      cases hev
      exact .inl ⟨hx,rfl,rfl⟩
     .rename_i f hx
      cases hev
      exact .inr<|.inl ⟨f,hx,rfl,rfl⟩
     .rename_i id tot off len hx
      split at hev
      .rename_i s' es hob
       split at hev
       .rename_i hc
        let⟨rfl,c2,c3,c4,c5,c6⟩:=hc
        exact .inr<|.inr ⟨id,tot,off,len,es,hx,hob,c2,c3,c4,c5,c6,hev⟩
       .cases hev
      .cases hev
     .cases hev
    .cases hchk
   .cases hchk
  .cases hchk
 | delete kt m k=>
  simp only[cP] at hchk
  split at hchk
  .rename_i as ts
   split at hchk
   .rename_i m' k' t ts' ha ht
    simp only[Zd] at hchk
    let⟨⟨h1,h2⟩,hchk⟩:=hchk
    split at hchk
    .rename_i kt' e hu
     have:kt=kt':=by simpa using hchk
     subst this
     have ht0:ts[0]?=some t:=by rw[<-Z8,ht];rfl
     rw[pH ha] at hop
     simp only[aL] at hev
     split at hev
     .rename_i kv id hk hm
      split at hev
      .rename_i hflid
       split at hev
       .rename_i ents hob
        split at hev
        .rename_i u i0 hck hf
         simp only[Za,Zi] at hev
         let⟨rfl,rfl⟩:=hev
         exact aAB hs htr hop ht0 h1 h2 hu hk hck hflid hm hob<|.inl ⟨_,hf,rfl⟩
        .rename_i u hck hf
         simp only[Za,Zi] at hev
         let⟨rfl,rfl⟩:=hev
         have key:=aAB hs htr hop ht0 h1 h2 hu hk hck hflid hm hob<|.inr ⟨hf,rfl⟩
         have e0:c.H.set id (.mp ents)=c.H:=by
          apply Ym
          intro j
          by_cases hj:j=id
          .subst hj;rw[getElem?_set_eq' hob,hob]
          .rw[getElem?_set_ne' hj]
         rw[e0] at key
         exact key
        .cases hev
       .cases hev
      .cases hev
     .cases hev
    .cases hchk
   .cases hchk
  .cases hchk
 | minmax mx xs=>
  simp only[aL] at hev
  split at hev
  .rename_i vs hvs
   split at hev
   .rename_i r hr
    simp only[Za,Zi] at hev
    let⟨rfl,rfl⟩:=hev
    simp only[cP] at hchk
    split at hchk
    .simp only[Zd] at hchk
     obtain⟨rfl,h1⟩:=hchk
     exact aA7 hs htr hop (.inl rfl) h1 hvs<|by simpa using hr
    .simp only[Zd,YG] at hchk
     obtain⟨rfl,h1⟩:=hchk
     exact aA7 hs htr hop (.inr rfl) h1 hvs<|by simpa using hr
    .cases hchk
   .cases hev
  .cases hev
 | mkFn vi caps=>
  simp only[aL,Za,Zi] at hev
  let⟨rfl,rfl⟩:=hev
  simp only[cP] at hchk
  split at hchk
  .rename_i f first cs
   simp only[Zd,ZC] at hchk
   let⟨⟨h1,h2⟩,h3⟩:=hchk
   have:first=#[]:=by simpa using h1
   subst this
   exact aOv hs htr hop h2 h3
  .cases hchk
 | call pu vi args=>
  simp only[cP] at hchk
  split at hchk
  .simp only[Zd,ZC] at hchk
   simp only[aL] at hev
   exact aHR hcf hfn hs htr hfl hop hchk.1 hchk.2 hev
  .cases hchk
 | callS vi args=>
  simp only[cP] at hchk
  split at hchk
  .simp only[Zd,ZC] at hchk
   simp only[aL] at hev
   split at hev
   .rename_i r H1 he
    split at hev
    .rename_i hr
     cases hev
     exact aL1 hcf hfn hs htr hop hchk.1 hchk.2 he hr
    .cases hev
   .cases hev
  .cases hchk
 | callF vi args=>
  simp only[cP] at hchk
  split at hchk
  .simp only[Zd,ZC] at hchk
   simp only[aL] at hev
   exact aL2 hcf hfn hs htr hfl hop hchk.1 hchk.2 hev
  .cases hchk
 | callB vi args=>
  simp only[cP] at hchk
  split at hchk
  .simp only[Zd,ZC] at hchk
   simp only[aL] at hev
   split at hev
   .rename_i r H1 he
    cases hev
    exact aL3 hcf hfn hs htr hop hchk.1 hchk.2 he
   .cases hev
  .cases hchk
 | callT s vi args=>
  simp only[cP] at hchk
  split at hchk
  .simp only[Zd,ZC] at hchk
   simp only[aL] at hev
   exact aL0 hcf hfn hs htr hfl hop hchk.1 hchk.2 hev
  .cases hchk
 | capS x=>
  simp only[cP] at hchk
  split at hchk
  .rename_i as ts
   split at hchk
   .rename_i y t ha ht
    simp only[Zd] at hchk
    let⟨h1,hchk⟩:=hchk
    split at hchk
    .rename_i e hu
     rw[jG ha,jG ht] at hop
     simp only[aL] at hev
     split at hev
     .rename_i hx
      simp only[Za,Zi] at hev
      let⟨rfl,rfl⟩:=hev
      exact aHQ (n:=0) hs htr hop h1 hu<|.inl ⟨hx,rfl⟩
     .rename_i es hx
      simp only[Za,Zi] at hev
      let⟨rfl,rfl⟩:=hev
      exact aHQ hs htr hop h1 hu<|.inr ⟨_,hx,rfl⟩
     .cases hev
    .cases hchk
   .cases hchk
  .cases hchk
 | callv pu x args=>
  simp only[cP] at hchk
  split at hchk
  .simp only[Zd] at hchk
   simp only[aL] at hev
   split at hev
   .rename_i vi caps hx
    exact aLz hcf hfn hs htr hfl hop hchk.1 hx hchk.2 hev
   .cases hev
  .cases hchk
 | extract x i=>
  simp only[cP] at hchk
  split at hchk
  .simp only[Zd,ZC] at hchk
   let⟨rfl,h1⟩:=hchk
   simp only[aL] at hev
   split at hev
   .rename_i vs hx
    split at hev
    .rename_i u hu
     simp only[Za,Zi] at hev
     let⟨rfl,rfl⟩:=hev
     exact aGm hs htr hop h1 hx hu
    .cases hev
   .cases hev
  .cases hchk
end
end
end Go.Proofs.YtmcgghedgfkjiaaGreatDoor.Av
