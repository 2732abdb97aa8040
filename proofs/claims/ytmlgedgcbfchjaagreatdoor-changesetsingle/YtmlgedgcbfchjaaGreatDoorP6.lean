/- A part of the proof of a law. -/
import Derived.Test.YtmlgedgcbfchjaaGreatDoorP5
import Derived.Test.YtmlgedgcbfchjaaGreatDoorP3
import Derived.Test.YtmlgedgcbfchjaaGreatDoorP1
import Derived.Lib.IndexMore
import Derived.Test.YtmlgedgcbfchjaaGreatDoorP4
set_option maxRecDepth 100000
set_option maxHeartbeats 4000000
set_option linter.all false
namespace Go.Proofs.YtmlgedgcbfchjaaGreatDoor.Av
open Go
section
open jQ (den cds ag)
section
variable [dR]{R:Type}{H H1:TH}{A:aU}{N:Nat}{S:TS}{st:St}{P:Program}{T:List cQ}{cf:CF}{op:Ju}{K:TV->TS->Option R}{r:R}{E:XE}{n:Nat}{d:Option Nat}
theorem Ql.rep{k:Nat}{x:den k}{row:List AV}(h:Qr (kI k x) row): ∀n,Ql k (List.replicate n x) (List.replicate n row)
 | 0=>trivial
 | n+1=>⟨h,Ql.rep h n⟩
theorem D5{α:Type}{x:α}{a b:Int}{l:List α}(h:rep x a b=some l): 0<=a/\a<=b/\b<=1000000/\l=List.replicate a.toNat x:=by
 unfold rep at h;split at h
 .rename_i c;cases h;exact⟨c.1,c.2.1,c.2.2,rfl⟩
 .cases h
theorem AA[aF]{x:bA}{a:Int}(b:Qt N S st)(h:i64? (bZ S.tm x)=some a)(c:0<=a): gY (aH st.tmps x)=some a.toNat:=by
 rw[Ae h (b.get x)];simp[gY,c]
theorem aI0[aF]{s bytes:Nat}{z:List Value}{x y:bA}(f:Qt N S st)(h:cM E n d (.mkSlice s z bytes x y) S K=some r): dE P cf E.fl N (.mkSlice s z bytes x y) st K r:=by
 have j:=f.hp.ln;simp only[cM] at h;split at h
 .rename_i c;simp only[Zd] at c;have A:=Zc c.1;have e2:=Zc c.2.1;have k:=Zj c.2.2;split at h
  .rename_i e u;have i:Qr (kI _ e) (z.map .lit):=jY (H':=S.hp) u (Qc.lits z);split at h
   .rename_i a m;split at h
    .rename_i b g;obtain⟨l,w,h⟩:=bD h;obtain⟨t,B,C,rfl⟩:=D5 w;have q:=AA f m t;have p:=AA f g (by omega);have:=Y8 (show b.toNat<=1000000 by omega) k;refine dE.add (v:=.ms st.heap.length a.toNat 0 a.toNat) (o:=.lst (mW E d) (List.replicate a.toNat e)) (b:=.blk s (List.replicate a.toNat (z.map .lit))) f ?_ ⟨_,by rw[A],Ql.rep i _⟩ ?_ h
     .simp only[aO,q,p];rw[Zu ⟨by omega,by omega,by omega,e2⟩]
     .have:=Qh.ms (H:=S.hp++[.lst (mW E d) (List.replicate a.toNat e)]) S.hp.length (mW E d) (List.replicate a.toNat e) (by simp);rw[Yo] at this;rw[j];exact this
    .cases h
   .cases h
  .cases h
 .cases h
theorem aF4{v:TV}{a:AV}(h:VS v=true)(q:Qh H v a): a=.lit bO\/a=.sl true []:=by
 unfold VS at h;split at h
 .subst h;cases (q.pu trivial) with
  | emp _ _ h=>
   rcases h with h | h | ⟨h,_⟩
   .exact .inl h
   .exact .inr h
   .cases h
 .split at h
  .split at h
   .split at h
    .split at h
     .exact .inl q.inL
     .cases h
    .cases h
   .cases h
  .cases h
 .cases h
theorem aRu[aF]{x:bA}(a:Qt N S st)(h:cM E n d (.capS x) S K=some r): dE P cf E.fl N (.capS x) st K r:=by
 simp only[cM] at h;split at h
 .rename_i b;refine dE.same (v:=.lit (.int .i64 0)) a ?_ (Qh.l _) h;rcases aF4 b (a.get x) with e | e<;>simp only[aO,e,bO]<;>rfl
 .cases h
theorem aRi[aF]{s:Nat}{x y:bA}(c:Qt N S st)(h:cM E n d (.copy s x y) S K=some r): dE P cf E.fl N (.copy s x y) st K r:=by
 have q:=c.get x;simp only[cM] at h;split at h
 .rename_i id m B;rw[B] at q;split at h
  .rename_i o i;split at h
   .rename_i k l;split at h
    .rename_i ys A;obtain⟨es,D,f⟩:=aFn A (c.get y) c.hp;split at h
     .rename_i e;simp only[Zd] at e;have p:=Zc e.1;have e2:0<s:=by simpa [YC] using e.2.1
      have j:=Zj e.2.2;obtain⟨F,a,h⟩:=bD h;unfold cpy at a;split at a
      .rename_i u;cases a;obtain⟨w,g,t⟩:=c.hp.lst i;rw[p] at g;have C:=q.mw i;refine dE.put (v:=.lit (.int .i64 ((es.length:Nat):Int))) (b:=.blk s (aV w (Fo l m).1 es)) c i (zA u.2) ?_ ⟨_,by rw[p],t.spl f⟩ (by rw[f.len];exact Qh.l _) h;simp only[aO,D,C,g,f.all p,e2,Y7,Zz];rw[Zu ⟨trivial,t.len,by rw[f.len];exact u.1,j⟩];split
       .rename_i z;have:es=[]:=ZK.1 z;subst this;simp only[EU,PS g];rfl
       .rfl
      .cases a
     .cases h
    .cases h
   .cases h
  .cases h
 .cases h
theorem aOv[aF]{s:Nat}{z:List Value}{x:bA}(f:Qt N S st)(h:cM E n d (.clear s z x) S K=some r): dE P cf E.fl N (.clear s z x) st K r:=by
 have q:=f.get x;have y:Qh S.hp (.tup []) (.tup []):=Qh.mkT (cs:=[]) trivial;simp only[cM] at h;split at h
 .rename_i id m G;rw[G] at q;split at h
  .rename_i o j;split at h
   .rename_i k l;split at h
    .rename_i A H;have g:Qr (kI _ A) (z.map .lit):=jY (H':=S.hp) H (Qc.lits z);split at h
     .rename_i c;simp only[Zd] at c;have u:=Zc c.1;have e2:0<s:=by simpa [YC] using c.2.1
      have i:=Zj c.2.2.1;have F:=Zc c.2.2.2;obtain⟨J,a,h⟩:=bD h;unfold clr at a;split at a
      .rename_i w;cases a;obtain⟨B,p,t⟩:=f.hp.lst j;rw[u] at p;have I:=q.mw j;refine dE.put (v:=.tup []) (b:=.blk s (aV B (Fo l m).1 (List.replicate (Fo l m).2 (z.map .lit)))) f j (zA (by rw[Yo];exact w)) ?_ ⟨_,by rw[u],t.spl (Ql.rep g _)⟩ (Qh.mkT (cs:=[]) trivial) h;simp only[aO,I,p];rw[Zu ⟨trivial,t.len,w,i,e2,F⟩];split
       .rename_i D;simp only[D,List.replicate_zero,EU,PS p]
       .rfl
      .cases a
     .cases h
    .cases h
   .cases h
  .cases h
 .split at h
  .rename_i C;refine dE.same (v:=.tup []) f ?_ y h;rcases aF4 C q with e | e<;>simp only[aO,e,bO]
  .cases h
theorem aIV[aF]{s bytes:Nat}{z:List Value}{x m:bA}(f:Qt N S st)(h:cM E n d (.appendZ s bytes z x m) S K=some r): dE P cf E.fl N (.appendZ s bytes z x m) st K r:=by
 have q:=f.get x;have G:=f.hp.ln;simp only[cM] at h;split at h
 .rename_i B;have c:=aF4 B q;split at h
  .rename_i e;simp only[Zd] at e;have w:=Zc e.1;have e2:0<s:=by simpa [YC] using e.2.1
   have A:=Zc e.2.2.1;have t:=Zj e.2.2.2;split at h
   .rename_i g C;have k:Qr (kI _ g) (z.map .lit):=jY (H':=S.hp) C (Qc.lits z);split at h
    .rename_i a J;obtain⟨l,L,h⟩:=bD h;obtain⟨I,M,Q,rfl⟩:=D5 L;have F:=AA f J I;have O:=Y8 (show a.toNat<=1000000 by omega) t;have p:mT a.toNat bytes=true:=kJ (by omega) t;have u:fA s (List.replicate a.toNat (z.map AV.lit))=true:=(Ql.rep k a.toNat).all w;have ev:aO P cf E.fl (.appendZ s bytes z x m) st.tmps st.heap=cP E.fl st.heap s bytes (aH st.tmps x) (List.replicate a.toNat (z.map .lit)):=by
      simp only[aO,F];rw[Zu ⟨A,by omega,by omega⟩]
     rcases N2 h with⟨i,h⟩ | ⟨i,h⟩
     .have D:a.toNat=0:=by simpa using i
      refine dE.same f ?_ q h;rw[ev,D];rcases c with c | c<;>rw[c]<;>simp[cP,fA,e2,mT,bO]
     .have y:a.toNat≠0:=by simpa using i
      refine dE.add (v:=.ms st.heap.length a.toNat 0 a.toNat) (o:=.lst (mW E d) (List.replicate a.toNat g)) (b:=.blk s (List.replicate a.toNat (z.map .lit))) f ?_ ⟨_,by rw[w],Ql.rep k _⟩ ?_ h
      .rw[ev];rcases c with c | c<;>rw[c]
       .simp[cP,bO,u,e2,p,y]
       .have j:fA s ([]:List (List AV))=true:=rfl;unfold cP;simp only[u,e2,p,y,j,Y7,Zz,Z9,Z1,Z0,Xt,Yo]
      .have:=Qh.ms (H:=S.hp++[.lst (mW E d) (List.replicate a.toNat g)]) S.hp.length (mW E d) (List.replicate a.toNat g) (by simp);rw[Yo] at this;rw[G];exact this
    .cases h
   .cases h
  .cases h
 .split at h
  .rename_i id w hx;rw[hx] at q;split at h
   .split at h
    .rename_i o ho;split at h
     .rename_i k l;split at h
      .rename_i hk;simp only[Zd] at hk
       have e1:=Zc hk.1
       have e2:0<s:=by simpa [YC] using hk.2.1
       have hfl:=Zj hk.2.2.1
       have e3:=Zc hk.2.2.2.1
       have hb:=Zj hk.2.2.2.2
       split at h
       .rename_i z' hz
        have hq':Qr (kI _ z') (z.map .lit):=jY (H':=S.hp) hz (Qc.lits z)
        split at h
        .rename_i a ha
         obtain⟨y,hr,h⟩:=bD h
         obtain⟨c1,c2,c3,rfl⟩:=D5 hr
         obtain⟨l',hl',h⟩:=bD h
         obtain⟨e4,hle⟩:=Vk hl'
         subst e4
         have k1:=AA f ha c1
         have O:=Y8 (show a.toNat<=1000000 by omega) hb
         obtain⟨bs,g1,g2⟩:=f.hp.lst ho
         rw[e1] at g1
         have hq:=q.mw ho
         have hA:fA s (List.replicate a.toNat (z.map AV.lit))=true:=(Ql.rep hq' a.toNat).all e1
         rw[Yo] at hle
         have he:=KC (fl:=E.fl) (bytes:=bytes) (tot:=l.length) (ys:=List.replicate a.toNat (z.map AV.lit)) g1 g2.len hA e2 (kJ (by rw[Yo];omega) hb) (kJ (by rw[Yo];omega) hb) hfl
         refine⟨.ms id (l.length+a.toNat) 0 (l.length+a.toNat),st.heap.set id (.blk s (bs++List.replicate a.toNat (z.map .lit))),.ms id none,iK id (gR S id (.lst k (l++List.replicate a.toNat z'))),?_,LU f ho λH=>⟨_,by rw[e1],g2.app (Ql.rep hq' a.toNat)⟩,?_,h⟩
         .simp only[aO,k1,hq];rw[Zu ⟨e3,by omega,by omega⟩];simpa[Fo] using he
         .have:=Qh.ms (H:=(iK id (gR S id (.lst k (l++List.replicate a.toNat z')))).hp) id k (l++List.replicate a.toNat z') (by simp[iK,gR,Zk,(Ze.1 ho).1,Hs]);rw[Zh,Yo] at this;exact this
        .cases h
       .cases h
      .cases h
     .cases h
    .cases h
   .cases h
  .cases h
theorem aQh{k:Nat}{v:TV}{l:List (den k)}{a:AV}(h:rdX [] k v=some l)(q:Qh H v a): Qh ([]:TH) v a:=by
 cases v with
 | sl k l=>exact .p _ _ (q.pu trivial)
 | emp b=>exact .p _ _ (q.pu trivial)
 | vw k l=>exact .p _ _ (q.pu trivial)
 | lit v=>rw[q.inL];exact Qh.l _
 | ms id m=>simp[rdX,rdS] at h
 | _=>cases h
theorem aOz[aF]{vi:Nat}{s:List bA}(H:Q6 P T E)(g:Qt N S st)(h:cM E n d (.callF vi s) S K=some r): dE P (fH P T n) E.fl N (.callF vi s) st K r:=by
 have q:=J1 g s;simp only[cM] at h;split at h
 .rename_i p M;split at h
  .rename_i k;obtain⟨a1,bytes,z,V,h0,R⟩:=H.pr vi _ M;unfold aTS at h;split at h
   .rename_i x O;rw[O] at q;split at h
    .rename_i l I;obtain⟨a,y⟩:∃a,s.map (aH st.tmps)=[a]:=by
      cases u:s.map (aH st.tmps) with
      | nil=>rw[u] at q;exact q.elim
      | cons a t=>rw[u] at q;cases t with
       | nil=>exact⟨a,rfl⟩
       | cons _ _=>exact q.2.elim
     rw[y] at q;obtain⟨m,hm,h⟩:=bD h;have e:=aKe hm;subst e;obtain⟨W,e2,e3⟩:=aLL (P:=P) (n:=m) (G:=st.heap) V h0;have ev:aO P (fH P T (m+1)) E.fl (.callF vi s) st.tmps st.heap=fH P T (m+1) st.heap.length vi [a] st.heap:=by simp only[aO,y]
     have D:∃es,(a=.lit bO/\es=[]\/(∃f,a=.sl f es)\/a=.vw es)/\Ql k l es:=by
      rcases LH (A:=[]) I (aQh I q.1) (λ_=>trivial) with⟨es,i,w⟩ | ⟨_,es,i,w⟩ | ⟨_,id,tot,o,n,es,e,i,_⟩
      .exact⟨es,i.imp (λh=>h) .inl,w⟩
      .exact⟨es,i,w⟩
      .subst e;simp[rd] at i
     obtain⟨es,c,j⟩:=D;rcases N2 h with⟨F,h⟩ | ⟨F,h⟩
     .have:l=[]:=by simpa using F
      subst this;have:es=[]:=ZK.1 j.len;subst this;rcases c with⟨c,_⟩ | c
      .refine dE.same (v:=.lit bO) g ?_ (.p _ _ (.emp _ _ (.inl rfl))) h;rw[ev,c];exact W
      .refine dE.same (v:=.sl false []) g ?_ (.p _ _ (.emp _ _ (.inr (.inr ⟨rfl,rfl⟩)))) h;rw[ev];exact e2 a c
     .obtain⟨C,B,L⟩:=bD h;clear h;obtain⟨J,X⟩:=Vk B;rw[Xt] at J;subst J;cases es with
      | nil=>
       have:C=[]:=ZK.1 j.len.symm;subst this;cases F
      | cons e es=>
       have y:(∃f,a=.sl f (e::es))\/a=.vw (e::es):=by
        rcases c with⟨_,c⟩ | c
        .cases c
        .exact c
       have g3:=e3 a e es y (j.all rfl) (kJ (by rw[j.len];simpa using X) R);refine dE.add (v:=.ms st.heap.length (e::es).length 0 (e::es).length) (o:=.lst k C) (b:=.blk (cds k).length (e::es)) g (by rw[ev];exact g3) ⟨_,rfl,j⟩ ?_ L;rw[g.hp.ln,j.len];exact .ms _ k C (by simp)
    .cases h
   .cases h
  .cases h
 .obtain⟨v,Q,tv,S',i,w,U,Y⟩:=Vi (by rw[g.hp.ln];exact Zf _) g q H.il h;exact⟨v,Q,tv,S',by simp only[aO];rw[g.hp.ln];exact i,w,U,Y⟩
theorem aNA[aF]{m k:Nat}{x:bA}(u:Qt N S st)(h:cM E n d (.loadF m k x) S K=some r): dE P cf E.fl N (.loadF m k x) st K r:=by
 have q:=u.get x;simp only[cM] at h;split at h
 .rename_i id off j;rw[j] at q;split at h
  .split at h
   .rename_i o z;split at h
    .rename_i cs;split at h
     .rename_i e
      have e:=Zc e
      obtain⟨aw,p,b⟩:=u.hp.box z
      have w:eB st.heap (aH st.tmps x) m=some aw:=by
       have B:=b.len
       rw[q.ptr1];simp[eB,p,e,B];exact ZW (Nat.le_of_eq (B.trans e))
      split at h
      .rename_i v y
       obtain⟨a,i,g⟩:=b.get y
       split at h
       .rename_i f c
        split at h
        .rename_i C
         have C:=Zj C
         split at h
         .rename_i D
          split at h
          .rename_i kk l
           obtain⟨es,F,G⟩:=u.hp.lst D
           have s:=MB u (Ze.1 D).1 (.blk (cds kk).length (es++[List.replicate (cds kk).length .undef]))
           have T:=g.mw D
           refine⟨.agg (aw.set k (.sl false (((es.drop (Fo l c).1).take (Fo l c).2).map λe=>e.map Gt))),_,_,_,?_,s,Qh.mkA (bV.set (b.mapL λ_ _ q=>Ht aHv q) k (.p _ _ (Qp.mkS (.inr ⟨_,rfl⟩) (vK.ls (by rw[w4];exact (G.drop _).take _))))),h⟩
           simp only[aO,w,i,T,C,Zz,F,G.len]
          .cases h
         .cases h
        .cases h
       .refine dE.same u ?_ (Qh.mkA b) h
        cases g.pu trivial with
        | emp b a c=>rcases c with rfl | rfl | ⟨_,rfl⟩<;>simp only[aO,w,i]
       .have e:=g.inL;subst e;refine dE.same u ?_ (Qh.mkA b) h;simp only[aO,w,i]
       .cases h
      .cases h
     .cases h
    .cases h
   .cases h
  .cases h
 .cases h
end
section
variable [dR]{R:Type}{H H1:TH}{A:aU}{N:Nat}{S:TS}{st:St}{P:Program}{T:List cQ}{cf:CF}{op:Ju}{K:TV->TS->Option R}{r:R}{E:XE}{n:Nat}{d:Option Nat}
theorem aBq{o:BinOp}{b:Bool}{K:TV->Option R}(h:aJ8 o b K=some r): (o=.eql/\K (.lit<|.bool b)=some r)\/(o=.neq/\K (.lit<|.bool<|!b)=some r):=by
 unfold aJ8 at h;split at h
 .cases b<;>exact .inl ⟨rfl,h⟩
 .cases b<;>exact .inr ⟨rfl,h⟩
 .cases h
theorem aMP[aF]{fl:Nat}{H:aU}{t:TypeId}{a:Int}: aO P cf fl (.bin .shr t (.tmp 0)<|.tmp 1) [.lit<|.int .u64 a,.lit<|.int .u64 1] H=some (.lit<|.int .u64<|a.fdiv 2,H):=by
 have b:aQ P (eqGuard .shr t (.tmp 0) (.tmp 0) (.int .u64 a)<|.int .u64 1)=some ():=rfl;have c:aQ P (binOp .shr t (.int .u64 a)<|.int .u64 1)=some (.int .u64<|a.fdiv 2):=by
  simp[binOp,Op.shift];rfl
 simp only[aO,aH,Zt,ZL,lits,wJ,Zz,b,c]
theorem aTU[aF]{o:BinOp}{t:TypeId}{x y:bA}(D:Q6 P T E)(p:Qt N S st)(h:cM E n d (.bin o t x y) S K=some r): dE P cf E.fl N (.bin o t x y) st K r:=by
 have q:=p.get x;have j:=p.get y;have L:aO P cf E.fl (.bin o t x y) st.tmps st.heap=aO P cf E.fl (.bin o t (.tmp 0)<|.tmp 1) [aH st.tmps x,aH st.tmps y] st.heap:=rfl;have c:∀{v:Value},aO P cf E.fl (.bin o t (.tmp 0)<|.tmp 1) [aH st.tmps x,aH st.tmps y] st.heap=some (.lit v,st.heap)->K (.lit v) S=some r->dE P cf E.fl N (.bin o t x y) st K r:=
  λhe G=>dE.same p (L.trans he) (Qh.l _) G
 have h:aRx E o t (bZ S.tm x) (bZ S.tm y) (λv=>K v S)=some r:=h;unfold aRx at h;split at h
 .rename_i u F;rw[F] at q;have g:=q.inL;split at h
  .rename_i w Q;rw[Q] at j;have e2:=j.inL;split at h
   .rename_i a;split at h
    .rename_i b;rcases aBq h with⟨rfl,f⟩ | ⟨rfl,f⟩
     .exact c (by rw[g,e2];exact aIR rfl) f
     .exact c (by rw[g,e2];exact aIQ rfl) f
    .cases h
   .split at h
    .rename_i e he;split at h
     .cases h
     .rename_i C;split at h
      .rename_i a B;split at h
       .rename_i b m;let⟨s,A⟩:=D.eq t e he cf E.fl st.heap a b [_] [_] (jY (H':=S.hp) B ⟨p.get x,trivial⟩)<|jY (H':=S.hp) m ⟨p.get y,trivial⟩;rw[C] at s A;rcases aBq h with⟨rfl,f⟩ | ⟨rfl,f⟩
        .exact c s f
        .exact c A f
       .cases h
      .cases h
    .cases h
   .rename_i k a;split at h
    .rename_i k' b;split at h
     .rename_i I _;subst I;split at h
      .let⟨z,i,h⟩:=bD h;unfold aST at i;split at i
       .cases i
       .rename_i m;cases i;exact c (by rw[g,e2];exact aQn m) h
      .let⟨z,i,h⟩:=bD h;exact c (by rw[g,e2];exact aMX i) h
      .split at h
       .split at h
        .rename_i J _;subst J;exact c (by rw[g,e2];exact aMP) h
        .cases h
       .cases h
      .cases h
     .cases h
    .cases h
   .cases h
  .cases h
 .rename_i cs M;rw[M] at q;let⟨aw,g,q⟩:=q.inA;split at h
  .rename_i e he;split at h
   .rename_i C;split at h
    .rename_i a B;split at h
     .rename_i ds O;rw[O] at j;let⟨H,e2,j⟩:=j.inA;split at h
      .rename_i b m;let⟨s,A⟩:=D.eq t e he cf E.fl st.heap a b aw H (jY B q)<|jY m j;rw[C] at s A;rcases aBq h with⟨rfl,f⟩ | ⟨rfl,f⟩
       .exact c (by rw[g,e2];exact s) f
       .exact c (by rw[g,e2];exact A) f
      .cases h
     .cases h
    .cases h
   .cases h
  .cases h
 .cases h
theorem aQA[aF]{x:bA}(b:Qt N S st)(h:cM E n d (.movN x) S K=some r): dE P cf E.fl N (.movN x) st K r:=by
 have q:=b.get x;refine dE.same b rfl ?_ h;generalize bZ S.tm x=v at q;generalize aH st.tmps x=a at q;have c:∀{v:TV} {a:AV},Qh S.hp v a->Qh S.hp (aHb v) (nrm a):=by
  intro v a q;cases v with
  | agg cs=>obtain⟨aw,rfl,_⟩:=q.inA;exact q
  | _=>exact aBH q λcs e=>by cases e
 cases v with
 | agg cs=>
  obtain⟨aw,rfl,f⟩:=q.inA;exact Qh.mkA<|f.map λ_ _ q=>c q
 | undef=>exact Qh.u _
 | _=>
  have:=c q;cases a with
  | agg=>
   cases q with
   | p _ _ q=>cases q<;>simp_all
  | _=>exact this
theorem aVy[aF](f:Q6 P T E)(e:Qt N S st)(h:cM E n d op S K=some r): dE P (fH P T n) E.fl N op st K r:=by
 cases op with
 | mov x=>exact aTi e h
 | movN x=>exact aQA e h
 | pick c a b=>exact aQv e h
 | alloc z=>exact aO9 e h
 | claim s=>exact aOw e h
 | box x=>exact aTT e h
 | build z ps=>exact aO1 e h
 | buildSl pu s m z ps=>exact aIS e h
 | load agg m x=>exact aQF e h
 | store m x v=>exact aMC e h
 | nilCheck x=>exact aF3 e h
 | ibin o x y=>exact aQQ e h
 | bin o t x y=>exact aTU f e h
 | un o x=>exact aVf e h
 | fieldAddr o x=>exact aEl e h
 | field a m o x=>exact aNW e h
 | idxAddr s x i=>exact aI8 e h
 | lenS x=>exact aQI e h
 | append s b x y=>exact aLW e h
 | extract x i=>exact aIH e h
 | call pu vi u=>exact aRv f e h
 | callB vi u=>exact aO0 f.cs e h
 | minmax mx u=>exact aKC e h
 | callv pu x u=>exact aOx f e h
 | callT s vi u=>exact aOy f e h
 | mkFn vi u=>exact aQC e h
 | lenC n=>exact dE.same e rfl (Qh.l _) h
 | allocC z cl=>exact aLZ e h
 | boxC x cl=>exact aRw e h
 | index a s m x i=>exact aNU e h
 | mkMap=>exact aN6 e h
 | lookup kt z m k ok=>exact G9 f e h
 | mapUpd kt m k v=>exact aKJ f e h
 | lenM x=>exact aQJ e h
 | lenStr t x=>exact aKL f e h
 | strIdx t x i=>exact aJ3 f e h
 | strSlice t x lo hi=>exact aEZ e h
 | rangeStr x=>exact aFo e h
 | nextStr x=>exact aIy e h
 | conv a b x=>exact aRj f e h
 | slice s x lo hi mx=>exact aML e h
 | mkSlice s z b x y=>exact aI0 e h
 | callF vi u=>exact aOz f e h
 | copy s x y=>exact aRi e h
 | clear s z x=>exact aOv e h
 | capS x=>exact aRu e h
 | appendZ s b z x m=>exact aIV e h
 | loadF m k x=>exact aNA e h
 | _=>cases h
theorem aGH{v:TV}{a:AV}{K:TS->Option R}(h:aNd N d v S K=some r)(b:Qt N S st)(q:Qh S.hp v a): ∃c,Qt N c ⟨iY st.tmps d a,st.heap⟩/\K c=some r:=by
 unfold aNd at h;split at h
 .split at h
  .rename_i e;exact⟨_,b.put (by simpa [YC] using e) q,h⟩
  .cases h
 .exact⟨S,b,h⟩
theorem Vv{t:Nat}{b:Bool}(c:Qt N S st)(h:dD t S.tm=some (.lit<|.bool b)): Qt N (aDf t b S) st:=by
 refine⟨c.ln,λu w a=>?_,c.hp⟩;simp only[aDf,dD] at a;split at a
 .rename_i e;have e:=Zc e;subst e;cases a;exact c.tm _ _ h
 .exact c.tm u w a
theorem aOc[aF]{o:bS}{K:TS->Option R}(f:E.nt=N)(l:Q6 P T E)(g:Qt N S st)(h:aLy E n o S K=some r):
 ∃v a b,aO P (fH P T n) E.fl o.op st.tmps st.heap=some (v,a)/\Qt N b ⟨iY st.tmps o.dst v,a⟩/\K b=some r:=by
 let⟨v,a,tv,b,k,e,i,c⟩:=aVy l g h;rw[f] at c;let⟨j,m,d⟩:=aGH c e i;exact⟨v,a,j,k,m,d⟩
theorem aKo[aF]{o:bS}{K:TS->Option R}(t:E.nt=N)(y:Q6 P T E)(f:Qt N S st)(h:aCl E n o S K=some r): ∃st' c,cS P (fH P T n) E.fl o st=some st'/\Qt N c st'/\K c=some r:=by
 have s:∀{j:TS},fC st.tmps o.guard=some true->Qt N j st->aLy E n o j K=some r->∃st' c,cS P (fH P T n) E.fl o st=some st'/\Qt N c st'/\K c=some r:=by
  intro j i f h;let⟨v,C,c,m,q,B⟩:=aOc t y f h;exact⟨_,c,by simp only[cS,i,m],q,B⟩
 have off:∀{j:TS},fC st.tmps o.guard=some false->Qt N j st->aEo E o j K=some r->∃st' c,cS P (fH P T n) E.fl o st=some st'/\Qt N c st'/\K c=some r:=by
  intro j i f h;unfold aEo at h;rw[t] at h;let⟨c,m,q⟩:=aGH h f<|Qh.l _;exact⟨_,c,by simp only[cS,i],m,q⟩
 unfold aCl at h;split at h
 .rename_i p;exact s (by rw[p];rfl) f h
 .rename_i g p;split at h
  .rename_i v k;split at h
   .rename_i u;let⟨a,x,A⟩:=f.tm _ _ k;have z:=A.inL;subst z;have i:∀w,(match (AV.lit u:AV) with | .lit (.bool b)=>some (b==g.2) | .lit _=>some false | _=>none)=w->fC st.tmps o.guard=w:=by
     intro w e;rw[p];simp only[fC,aH,x];exact e
    split at h
    .rename_i b;split at h
     .rename_i d;cases b with
      | true=>exact s (i _<|by simp[d]) (Vv f k) h
      | false=>exact off (i _<|by simp[d]) (Vv f k) h
     .rename_i d;cases b with
      | true=>exact off (i _<|by simp[d]) (Vv f k) h
      | false=>exact s (i _<|by simp[d]) (Vv f k) h
    .exact off (i _ rfl) f h
    .cases h
   .cases h
  .cases h
theorem aOZ[aF](e:E.nt=N)(d:Q6 P T E): ∀{l:List bS} {S:TS} {st:St} {K:TS->Option R},Qt N S st->aLx E n l S K=some r->∃st' c,jM P (fH P T n) E.fl l st=some st'/\Qt N c st'/\K c=some r
 | [],S,st,K,b,h=>⟨st,S,rfl,b,h⟩
 | o::l,S,st,K,b,h=>by
  let⟨q,s,i,m,p⟩:=aKo e d b h;let⟨a,g,j,k,f⟩:=aOZ e d m p;exact⟨a,g,by simp only[jM,i,j],k,f⟩
theorem aQ4{H:TH}{v:TV}{a:AV}{o:Option Nat}(q:Qh H v a)(h:aIu v=some o): VP a=o:=by
 cases v with
 | undef=>cases h
 | tup=>cases h
 | agg=>cases h
 | fn=>cases h
 | ptr=>cases h;rw[q.ptr1];rfl
 | pel=>cases h;let⟨_,_,_,_,_,e⟩:=q.pel1;rw[e];rfl
 | ms id m=>
  cases h;cases q with
  | p _ _ q=>cases q
  | ms=>rfl
  | msn=>rfl
 | mp=>cases h;rw[q.mp1];rfl
 | rs=>cases h;rw[q.rs1];rfl
 | rel=>cases h;rw[q.rel1];rfl
 | lit=>cases h;rw[q.inL];rfl
 | emp=>cases h;cases (q.pu trivial) with
  | emp _ _ h=>rcases h with rfl | rfl | ⟨_,rfl⟩<;>rfl
 | sl=>cases h;let⟨es,b,_⟩:=(q.pu trivial).inS;rcases b with⟨rfl,_⟩ | ⟨f,rfl⟩<;>rfl
 | vw=>cases h;let⟨es,b,_⟩:=(q.pu trivial).inV;rcases b with⟨rfl,_⟩ | ⟨f,rfl⟩ | rfl<;>rfl
 | rptr=>cases h;obtain⟨_,rfl,_⟩:=(q.pu trivial).inR;rfl
 | sptr=>cases h;obtain⟨_,rfl,_⟩:=(q.pu trivial).inP;rfl
 | rmp=>cases h;let⟨_,b,_⟩:=(q.pu trivial).inM;rcases b with⟨rfl,_⟩ | rfl<;>rfl
 | it=>cases h;cases q with
  | p _ _ q=>cases q
  | it=>rfl
theorem aGN{H:TH}{v:TV}{a:AV}(q:Qh H v a)(h:aQu v=true): Ks a=true:=by
 cases v with
 | lit=>rw[q.inL];rfl
 | emp=>cases (q.pu trivial) with
  | emp _ _ h=>rcases h with rfl | rfl | ⟨_,rfl⟩<;>rfl
 | sl=>let⟨es,c,_⟩:=(q.pu trivial).inS;rcases c with⟨rfl,_⟩ | ⟨f,rfl⟩<;>rfl
 | rptr=>obtain⟨_,rfl,_⟩:=(q.pu trivial).inR;rfl
 | sptr=>obtain⟨_,rfl,_⟩:=(q.pu trivial).inP;rfl
 | rmp=>let⟨_,c,_⟩:=(q.pu trivial).inM;rcases c with⟨rfl,_⟩ | rfl<;>rfl
 | _=>cases h
theorem aGL{H:TH}: ∀{vs:List TV} {aw:List AV},Qc H vs aw->aNg vs=true->Pm aw=true
 | [],[],_,_=>rfl
 | v::vs,a::aw,q,h=>by
  simp only[aNg] at h;split at h
  .rename_i e;simp only[Pm,aGN q.1 e,aGL q.2 h]
  .cases h
 | [],_::_,q,_=>q.elim
 | _::_,[],q,_=>q.elim
theorem aNi{H:TH}{v:TV}{a:AV}(q:Qh H v a)(h:aSV v=true): uB a=true:=by
 cases v with
 | agg cs=>obtain⟨aw,rfl,q'⟩:=q.inA;exact aGL q' h
 | _=>
  have b:=aGN q h;cases a<;>first | exact b | cases b
theorem aGM{H:TH}: ∀{vs:List TV} {aw:List AV},Qc H vs aw->aNh vs=true->gK aw=true
 | [],[],_,_=>rfl
 | v::vs,a::aw,q,h=>by
  simp only[aNh] at h;split at h
  .rename_i e;simp only[gK,aNi q.1 e,aGM q.2 h]
  .cases h
 | [],_::_,q,_=>q.elim
 | _::_,[],q,_=>q.elim
theorem aMD[aF]{g:Ju}{o:Option Nat}(d:Qt N S st)(h:aCY g S.tm=some o): dN g st.tmps=some o:=by
 cases g with
 | call pu vi a=>
  cases pu with
  | false=>cases h
  | true=>
   simp only[aCY] at h;split at h
   .rename_i e;cases h;simp only[dN,aGM (J1 d a) e]
   .cases h
 | callB vi a=>
  simp only[aCY] at h;split at h
  .rename_i x;have q:=d.get x;split at h
   .rename_i c;cases h;rw[c] at q;let⟨_,i,_⟩:=(q.pu trivial).inS;simp only[dN];rcases i with⟨e,_⟩ | ⟨f,e⟩<;>rw[e]
   .rename_i c;cases h;rw[c] at q;let⟨_,i,_⟩:=(q.pu trivial).inV;simp only[dN];rcases i with⟨e,_⟩ | ⟨f,e⟩ | e<;>rw[e]
   .cases h
  .cases h
 | _=>first | cases h | (simp only[aCY] at h;simp only[dN,aQ4 (d.get _) h])
theorem aKU[aF]{i:Ju}{n id:Nat}(j:Qt N S st)(h:I0 i S.tm n id=true): qQ i st.tmps n id=true:=by
 cases i with
 | store m x v=>
  have q:=j.get x;simp only[I0] at h;split at h
  .rename_i c;rw[c] at q;simp only[qQ,q.ptr1];exact h
  .rename_i c;rw[c] at q;let⟨_,_,_,_,_,e⟩:=q.pel1;simp only[qQ,e];exact h
  .cases h
 | append s b x y=>
  have q:=j.get x;simp only[I0] at h;generalize bZ S.tm x=v at q h;generalize d:aH st.tmps x=a at q;split at h
  .cases q with
   | p _ _ q=>cases q
   | ms=>simp only[qQ,d];exact h
   | msn=>simp only[qQ,d];exact h
  .cases (q.pu trivial) with
   | emp _ _ r=>rcases r with rfl | rfl | ⟨_,rfl⟩<;>(simp only[qQ,d];exact h)
  .rw[q.inL] at d;simp only[qQ,d];exact h
  .cases h
 | mapUpd kt m k v=>
  have q:=j.get m;simp only[I0] at h;split at h
  .rename_i c;rw[c] at q;simp only[qQ,q.mp1];exact h
  .cases h
 | _=>first | cases h | exact h
theorem aGq[aF]{g:Option<|Nat×Bool}{b:Bool}(f:Qt N S st)(h:aGr S.tm g=some b): fC st.tmps g=some b:=by
 unfold aGr at h;split at h
 .cases h;rfl
 .rename_i g;split at h
  .rename_i v d;let⟨a,c,q⟩:=f.tm _ _ d;split at h
   .have e:=q.inL;subst e;split at h
    .cases h;simp only[fC,aH,c]
    .cases h;simp only[fC,aH,c]
    .cases h
   .cases h
  .cases h
theorem aRt[aF]{ops:List bS}{l:List TS}{m:List St}{k j:Nat}(p:bV (Qt N) l m)(h:ck1 ops l k j=true): aE4 ops m k j=true:=by
 unfold ck1 at h;split at h
 .rename_i ok g;split at h
  .rename_i u b;let⟨s,c,n⟩:=p.get b;simp only[aE4,g,c];split at h
   .rename_i i;rw[aGq n i]
   .split
    .rfl
    .split at h
     .cases h
     .rename_i o q;rw[aMD n q];split at h
      .rfl
      .rename_i id;split at h
       .rename_i t e;split at h
        .rename_i v d;let⟨r,a,f⟩:=p.get d;simp only[e,a];split at h
         .rename_i i;rw[aGq f i]
         .split
          .rfl
          .rw[<-f.hp.ln] at h;exact aKU f h
        .cases h
       .cases h
  .cases h
 .cases h
theorem aLO[aF]{ops:List bS}{l:List TS}{m:List St}(a:bV (Qt N) l m): ∀{b:List<|Nat×Nat},ckL ops l b=true->aAY ops m b=true
 | [],_=>rfl
 | p::r,h=>by
  simp only[ckL] at h;split at h
  .rename_i e;simp only[aAY,aRt a e];exact aLO a h
  .cases h
theorem aKn[aF](k:E.nt=N)(j:Q6 P T E): ∀{l:List bS} {S:TS} {st:St} {b:List TS} {K:List TS->TS->Option R},Qt N S st->K4 E n l S b K=some r->
 ∃e c st' i,Gf P (fH P T n) E.fl l st=some c/\bV (Qt N) e c/\c.getLast?=some st'/\Qt N i st'/\K (b.reverse++e) i=some r
 | [],S,st,b,K,d,h=>⟨[S],[st],st,S,rfl,⟨d,trivial⟩,rfl,d,by simp only[K4,W6] at h;exact h⟩
 | o::l,S,st,b,K,d,h=>by
  simp only[K4] at h;let⟨w,y,u,v,t⟩:=aKo k j d h;let⟨e,c,f,q,x,s,g,p,m⟩:=aKn k j v t;refine⟨S::e,st::c,f,q,by simp only[Gf,u,x],⟨d,s⟩,?_,p,by simp only[W6,Ye,List.singleton_append] at m;exact m⟩;cases c with
  | nil=>cases g
  | cons a r=>rw[List.getLast?_cons_cons];exact g
theorem aSG[aF](e:E.nt=N)(g:Q6 P T E){f:List<|Nat×Nat}{l:List bS}{K:TS->Option R}(d:Qt N S st)(h:aLw E n f l S K=some r): ∃st' a,Mo P (fH P T n) E.fl f l st=some st'/\Qt N a st'/\K a=some r:=by
 unfold aLw at h;split at h
 .exact aOZ e g d h
 .rename_i c cs;let⟨p,q,st',a,j,o,k,i,b⟩:=aKn e g d h;simp only[List.reverse_nil,Xt] at b;split at b
  .rename_i m;exact⟨st',a,by simp only[Mo,j,aLO o m,k],i,b⟩
  .cases b
end
def iH: bT->List bT
 | .seq a b=>iH a++iH b
 | .cond _ a b=>iH a++iH b
 | .block _ c=>iH c
 | .loop _ _ c=>iH c
 | .mask lx lr tr c=>.mask lx lr tr c::iH c
 | .told li lx lr c=>.told li lx lr c::iH c
 | .scope c=>iH c
 | .frz _ c=>iH c
 | _=>[]
theorem wK: ∀c,nLp c=(iH c).length
 | .seq a b=>by simp[nLp,iH,wK a,wK b]
 | .cond _ a b=>by simp[nLp,iH,wK a,wK b]
 | .block _ c=>wK c
 | .scope c=>wK c
 | .frz _ c=>wK c
 | .mask _ _ _ c=>by simp only[nLp,iH,Yc,wK c];omega
 | .told _ _ _ c=>by simp only[nLp,iH,Yc,wK c];omega
 | .skip=>rfl
 | .region ..=>rfl
 | .loop _ _ c=>wK c
 | .exit _=>rfl
 | .ret=>rfl
 | .nilIf ..=>rfl
 | .loopV ..=>rfl
 | .stop=>rfl
section
variable [dR]
def EP{P:Type}(R:Type): List (Oc P)->Type
 | []=>Unit
 | o::r=>(o.lay.V->Option R)×EP R r
def SA{P R:Type}(f:List dK)(p:P): {l:List<|Oc P}->ES R l->EP R l
 | [],_=>()
 | o::_,e=>(λt=>e.1 f (o.pr p) t,SA f p e.2)
def LX{P R:Type}: (l:List<|Oc P)->(sY l->R)->EP R l
 | [],_=>()
 | [_],f=>(λt=>some<|f t,())
 | _::o'::r,f=>(λt=>some<|f<|.inl t,LX (o'::r) λs=>f<|.inr s)
def lpB{V X:Type}(B:(V->Option X)->V->Option X): Nat->V->Option X
 | 0,_=>none
 | m+1,q=>B (lpB B m) q
def aQx{P R:Type}(n:Nat)(outs:List<|Oc P)(lx lr:List Bool)(e:ES R outs)(x:cU)(S:TS): Option R:=match x with
 | .ret=>Aj n .ret ⟨Dw lr S.tm,S.hp⟩ outs e
 | x=>Aj n x ⟨Dw lx S.tm,S.hp⟩ outs e
def OKs(sp:v9): Prop:=∀p q,∀o∈sp.outs,OKo sp p q o
def aEB(E:XE)(i:Nat): List v9:=match dD i E.ls with
 | some l=>l
 | none=>[]
variable [aF](P:Program)(T:List cQ)(N fl:Nat)
inductive LOK: bT->v9->Prop
 | loop (lx lr live:List Bool) (tr tr':Bool) (b:bT) (sp:v9) (E:XE) (B:Nat->sp.ins.P->(sp.ins.V->Option (sY sp.outs))->EP (sY sp.outs) sp.outs->sp.ins.V->Option (sY sp.outs)) :
  Q6 P T E->E.nt=N->E.fl=fl->(∀(j:Nat) (c:bT) (s:v9),(iH b)[j]?=some c->s∈aEB E j->LOK c s)->
  OKs sp->kpL (.mask lx lr tr (.loop (some live) tr' b)) sp.kt=true->
  (∀n p q,sp.F n p q=lpB (λk q=>B n p k (LX sp.outs id) q) n q)->
  (∀n φ p q k e,WK E n b 0 (sp.ins.mkG sp.ins.os.length φ p q) (aMW sp.ins sp.outs live tr' lx lr tr sp.ins.os.length k e)=B n p (k (sp.ins.fo.map φ) p) (SA (sp.ins.fo.map φ) p e) q)->
  LOK (.mask lx lr tr (.loop (some live) tr' b)) sp
 | told (li lx lr:List Bool) (b:bT) (sp:v9) (E:XE) (B:Nat->sp.ins.P->EP (sY sp.outs) sp.outs->sp.ins.V->Option (sY sp.outs)) :
  Q6 P T E->E.nt=N->E.fl=fl->(∀(j:Nat) (c:bT) (s:v9),(iH b)[j]?=some c->s∈aEB E j->LOK c s)->
  OKs sp->kpL (.told li lx lr b) sp.kt=true->
  (∀n p q,sp.F n p q=B n p (LX sp.outs id) q)->
  (∀n φ p q e,WK E n b 0 (sp.ins.mkG sp.ins.os.length φ p q) (aQx sp.ins.os.length sp.outs lx lr e)=B n p (SA (sp.ins.fo.map φ) p e) q)->
  LOK (.told li lx lr b) sp
open Classical in
noncomputable def mkE{P R:Type}(f:List dK)(p:P): (l:List (Oc P))->(sY l->R)->ES R l
 | [],_=>()
 | [o],g=>(λf' p' t=>if f'=f/\p'=o.pr p then some (g t) else none,())
 | o::o'::r,g=>(λf' p' t=>if f'=f/\p'=o.pr p then some (g (.inl t)) else none,mkE f p (o'::r) λs=>g (.inr s))
theorem aCh{P R:Type}(f:List dK)(p:P): ∀(l:List<|Oc P) (g:sY l->R),SA f p (mkE f p l g)=LX l g
 | [],_=>rfl
 | [o],g=>by simp only[mkE,SA,LX,Y7,Zu];rfl
 | o::c::r,g=>by
  have d:=aCh f p (c::r) λs=>g<|.inr s;have e:∀(a:List dK->o.lay.P->o.lay.V->Option R) (b:ES R (c::r)),SA f p (l:=o::c::r) (a,b)=(λt=>a f (o.pr p) t,SA f p (l:=c::r) b):=λ_ _=>rfl;rw[mkE,e,d];simp only[Y7,Zu,LX];rfl
theorem z7{P R:Type}{n:Nat}{f:List dK}{p:P}{x:cU}{S:TS}{y:R}: ∀{l:List<|Oc P} {g:sY l->R},Aj n x S l (mkE f p l g)=some y->∃t,y=g t/\Mb (λo t=>aG6 o.x x=true/\o.lay.getF n S=some (f,o.pr p,t)) l t
 | [],g,h=>by cases h
 | [o],g,h=>by
  simp only[Aj,mkE] at h;split at h
  .rename_i c;split at h
   .rename_i i p' t a;split at h
    .rename_i e;cases h;exact⟨t,rfl,c,by rw[a,e.1,e.2]⟩
    .cases h
   .cases h
  .cases h
 | o::b::r,g,h=>by
  have d:Aj n x S (b::r) (mkE f p (b::r) λs=>g<|.inr s)=some y->∃t,y=g t/\Mb (λo t=>aG6 o.x x=true/\o.lay.getF n S=some (f,o.pr p,t)) (o::b::r) t:=by
   intro h;let⟨t,k,j⟩:=z7 h;exact⟨.inr t,k,j⟩
  rw[Aj] at h;split at h
  .rename_i c;split at h
   .rename_i i p' t a;simp only[mkE] at h;split at h
    .rename_i e;cases h;exact⟨.inl t,rfl,c,by rw[a,e.1,e.2]⟩
    .cases h
   .exact d h
  .exact d h
theorem aDl{x y:cU}(h:aG6 x y=true): x=y:=by
 cases x<;>cases y<;>first | rfl | cases h | exact congrArg _ (Zc h)
variable {P T N fl}{R:Type}
theorem aBk{n:Nat}{b:Bool}{e:TT}{S:TS}{K:cU->TS->Option R}{r:R}: ∀{l:List v9},aHX n b e S K l=some r->∃sp∈l,∃p q,sp.ins.fit S=some (p,q)/\n5 (sp.kl++sp.ins.fo) 0 S.hp (sp.ins.mk' p q).hp=true/\swO p b sp.outs (sp.F n p q) (λx g=>K x<|aft sp e S.hp x g)=some r
 | [],h=>by cases h
 | sp::l,h=>by
  simp only[aHX] at h;split at h
  .rename_i p q i;split at h
   .rename_i f;exact⟨sp,ZM,p,q,i,f,h⟩
   .let⟨a,d,c⟩:=aBk h;exact⟨a,ZQ _ d,c⟩
  .let⟨a,d,c⟩:=aBk h;exact⟨a,ZQ _ d,c⟩
theorem aLY{E:XE}{i:Nat}{l:List v9}{sp:v9}(h:dD i E.ls=some l)(a:sp∈l): sp∈aEB E i:=by
 unfold aEB;rw[h];exact a
theorem aJJ{α:Type}{l:List α}{t:Nat}{a:α}(h:l[t]?=some a): l.set t a=l:=by
 apply Ym;intro i;by_cases c:t=i
 .subst c;rw[Z3 (Ze.1 h).1,h]
 .rw[Zv c]
theorem aQW{E:XE}{t k:Nat}{S:TS}{st:St}{K:TS->Option R}{r:R}{cf:CF}(c:Qt N S st)(h:aQX E t k S K=some r):
 ∃v g j,aO P cf E.fl (.freeze<|.tmp t) st.tmps st.heap=some (v,g)/\Qt N j ⟨st.tmps.set t v,g⟩/\K j=some r:=by
 unfold aQX at h;split at h
 .rename_i v F;let⟨a,i,q⟩:=c.tm _ _ F;have B:t<N:=by rw[<-c.ln];exact (Ze.1 i).1
  have f:(∀id x y z,a≠.ms id x y z)->(∀id x y z,a≠.ptr id x y z)->K S=some r->∃v g j,aO P cf E.fl (.freeze<|.tmp t) st.tmps st.heap=some (v,g)/\Qt N j ⟨st.tmps.set t v,g⟩/\K j=some r:=by
   intro H I M;refine⟨a,st.heap,S,?_,by rw[aJJ i];exact c,M⟩;simp only[aO,aH,i];try (split<;>first | (rename_i e;exact absurd rfl<|H _ _ _ _) | (rename_i e;exact absurd rfl<|I _ _ _ _) | rfl)
  split at h
  .rename_i id m;split at h
   .cases h
   .rename_i b;have b:=Zj b;split at h
    .rename_i o d;split at h
     .rename_i k l;let⟨es,w,n⟩:=c.hp.lst d;have s:=MB c (Ze.1 d).1<|.blk (cds k).length<|es++[List.replicate (cds k).length .undef];have T:=q.mw d;refine⟨.sl false<|((es.drop (Fo l m).1).take (Fo l m).2).map λe=>e.map Gt,_,_,?_,s.put B<|.p _ _<|Qp.mkS (.inr ⟨_,rfl⟩)<|vK.ls<|by rw[w4];exact (n.drop _).take _,h⟩;simp only[aO,aH,i,T,b,Zz,w,n.len]
     .cases h
    .cases h
  .rename_i id off;split at h
   .split at h
    .cases h
    .rename_i b;have b:=Zj b;split at h
     .rename_i o d;split at h
      .rename_i cs;split at h
       .rename_i x G;let⟨e,w,n⟩:=c.hp.box d;have s:=MB c (Ze.1 d).1<|.blk cs.length<|[e]++[List.replicate cs.length .undef];refine⟨.sptr<|e.map Gt,_,_,?_,s.put B<|.p _ _<|Qp.mkP<|vK.r<|jY G n,h⟩;simp only[aO,aH,i,q.ptr1,b,Zz,w,Yd,Zt,YD]
       .cases h
      .cases h
     .cases h
   .cases h
  .cases h
  .cases h
  .cases h
  .cases h
  .rename_i A O X D C J;refine f (λid x y z e=>?_) (λid x y z e=>?_) h
   .subst e;cases q with
    | p _ _ q=>cases q<;>simp_all
    | ms=>exact A _ _ rfl
    | msn=>exact A _ _ rfl
    | rs=>exact J _ _ rfl
   .subst e;cases q with
    | p _ _ q=>cases q<;>simp_all
    | ptr=>exact O _ _ rfl
    | pel=>exact D _ _ _ rfl
    | rel=>exact C _ _ _ _ rfl
 .cases h
theorem aJy{a:TS->(cU->TS->Option R)->Option R}{ev:St->Option (cU×St)}{o:TS->TS}{he:St->St}{K:cU->TS->Option R}{r:R}(p:∀S st (K:cU->TS->Option R) r,Qt N S st->a S K=some r->∃x st' c,ev st=some (x,st')/\Qt N c st'/\K x c=some r)(n:∀S st,Qt N S st->Qt N (o S) (he st)):
 ∀(m lf:Nat) (S:TS) (st:St),m<=lf->Qt N S st->aM3 a o m S K=some r->∃x st' c,gA he ev lf st=some (x,st')/\x≠.normal/\Qt N c st'/\K x c=some r
 | 0,_,_,_,_,_,h=>by cases h
 | m+1,0,_,_,y,_,_=>by omega
 | m+1,lf+1,S,st,y,v,h=>by
  simp only[aM3] at h;let⟨x,b,k,f,l,i⟩:=p _ _ _ _ (n S st v) h;cases x with
  | normal=>
   let⟨x,g,w,u,t⟩:=aJy p n m lf k b (by omega) l i;exact⟨x,g,w,by simp only[gA,f];exact u,t⟩
  | exit j=>exact⟨_,b,k,by simp only[gA,f],(by intro e;cases e),l,i⟩
  | ret=>exact⟨_,b,k,by simp only[gA,f],(by intro e;cases e),l,i⟩
def aJg(P:Program)(T:List cQ)(N fl:Nat)(c:bT): Prop:=∀{R:Type} {E:XE} {n i:Nat} {S:TS} {st:St} {K:cU->TS->Option R} {r:R},Q6 P T E->E.nt=N->E.fl=fl->
 (∀(j:Nat) (c':bT) (s:v9),(iH c)[j]?=some c'->s∈aEB E (i+j)->LOK P T N fl c' s)->Qt N S st->WK E n c i S K=some r->
 ∃x st' S',eS P (fH P T n) n fl c st=some (x,st')/\Qt N S' st'/\K x S'=some r
def aUk(P:Program)(T:List cQ)(N fl:Nat)(c:bT): Prop:=match c with
 | .loop _ _ b=>aJg P T N fl b
 | _=>True
open Classical in
theorem aM7{li lx lr:List Bool}{b:bT}(ihb:aJg P T N fl b): aJg P T N fl (.told li lx lr b):=by
 intro _ E n i S st K r hE hN hFl hL hs h
 simp only[WK] at h
 split at h
 .cases h
 rename_i hfn
 have hfn:fl<=st.heap.length:=by rw[hs.hp.ln,<-hFl];exact Zj hfn
 split at h
 .rename_i l hl
  obtain⟨sp,hsp,p,q,hg,hlb,h⟩:=aBk h
  .have hl:=hL 0 _ sp rfl (aLY hl hsp)
   cases hl with
   | told _ _ _ _ _ E' B hE' hN' hFl' hL' hok hkt hF hB=>
    obtain⟨t,ht,hall⟩:=aCW h
    obtain⟨φ,hφ⟩:∃φ:Nat->dK,∀i b,st.heap[i]?=some b->b=φ i:=⟨λi=>(st.heap[i]?).getD default,λi b hb=>by show b=(st.heap[i]?).getD default;rw[hb];rfl⟩
    rw[hF,<-aCh (sp.ins.fo.map φ) p,<-hB _ φ] at ht
    have hs1:=Kx hs li
    have h0:=K1 (n:=sp.ins.os.length) (φ:=φ) hg hs1 λi hi b hb=>by rw[hφ i b hb];exact .r _
    obtain⟨x,st1,S1,h1,h2,h3⟩:=ihb hE' hN' hFl' (λj c' s hj hs=>hL' j c' s hj (by simpa using hs)) h0 ht
    have hlen:sp.ins.os.length=st.heap.length:=(y9 (yK hg).1).symm.trans hs1.hp.len.symm
    have fin:∀S2 st2,Qt N S2 st2->Hp lx lr false fl st.heap.length (some (x,st1))=some (x,st2)->Aj sp.ins.os.length x S2 sp.outs (mkE (sp.ins.fo.map φ) p sp.outs id)=some t->∃x st' S',eS P (fH P T n) n fl (.told li lx lr b) st=some (x,st')/\Qt N S' st'/\K x S'=some r:=by
     intro S2 st2 hq hm hf
     obtain⟨t',e,hall'⟩:=z7 hf
     cases e
     obtain⟨o,ho,u,⟨g1,g2⟩,g3⟩:=Mb.two hall' hall
     have ex:=aDl g1
     have he:eS P (fH P T n) n fl (.told li lx lr b) st=some (o.x,st2):=by
      simp only[eS,h1,ex]
      exact hm
     have hoo:=hok p q o ho
     rw[<-hoo.fo] at g2
     refine⟨o.x,st2,_,he,aMa hs hs1 rfl (λ_ _ _ h=>h) hg hlb (λi _ b hb=>hφ i b hb) hoo (z6 g2 hq) λhx u hu=>?_,g3⟩
     exact nR (SM P T hE.fo n) (by rw[hlen];exact hfn) _ _ _ _ (aF8 hkt u hu) (by rw[hlen];exact Zf _) he hx
    cases x with
    | ret=>exact fin _ _ (Kx h2 lr) rfl h3
    | normal=>exact fin _ _ (Kx h2 lx) rfl h3
    | exit j=>exact fin _ _ (Kx h2 lx) rfl h3
 .cases h
open Classical in
theorem aKG{lx lr:List Bool}{tr:Bool}{c:bT}(ihb:aUk P T N fl c): aJg P T N fl (.mask lx lr tr c):=by
 intro _ E n i S st K r hE hN hFl hL hs h
 unfold WK at h
 split at h
 .cases h
 rename_i hfn
 have hfn:fl<=st.heap.length:=by rw[hs.hp.ln,<-hFl];exact Zj hfn
 split at h
 .rename_i live tr' b
  split at h
  .cases h
  rename_i live
  split at h
  .rename_i m hm
   obtain⟨_,hg,h⟩:=bD h
   have hmn:=Zj (Ag hg)
   obtain⟨x,st',S',h1,h2,h3,h4⟩:=aJy (ev:=λst=>eS P (fH P T n) n fl b st) (he:=dP (some live) tr' fl st.heap.length) (λS st K r hs h=>ihb hE hN hFl (λj c' s hj hs=>hL (1+j) c' s (by
    simp only[iH,ZL,Wg 1 j];exact hj) (by rw[<-Yu];exact hs)) hs h) (λS' st' hs'=>by rw[hs.hp.ln];exact LZ hs' live tr' _ (by rw[<-hs.hp.ln];exact hfn)) m n S st hmn hs h
   cases x with
   | normal=>exact (h2 rfl).elim
   | ret=>exact⟨.ret,_,_,by simp only[eS,h1,Hp],Kx h3 lr,h4⟩
   | exit j=>exact⟨.exit j,dP (some lx) tr fl st.heap.length st',Pw lx tr S.hp.length S',by simp only[eS,h1,Hp],by rw[hs.hp.ln];exact LZ h3 lx tr _ (by rw[<-hs.hp.ln];exact hfn),h4⟩
  .split at h
   .rename_i l hl
    obtain⟨sp,hsp,p,q,hg,hlb,h⟩:=aBk h
    have hl:=hL 0 _ sp rfl (aLY hl hsp)
    cases hl with
    | loop _ _ _ _ _ _ _ E' B hE' hN' hFl' hL' hok hkt hF hB=>
     have hs1:=LZ hs live tr' S.hp.length (by rw[<-hs.hp.ln];exact hfn)
     have hle:(Pw live tr' S.hp.length S).hp.length=S.hp.length:=by
      cases tr' with
      | true=>simp[Pw]
      | false=>rfl
     have hlen:sp.ins.os.length=st.heap.length:=by
      rw[<-y9 (yK hg).1,hle,hs.hp.ln]
     obtain⟨t,ht,hall⟩:=aCW h
     rw[hF] at ht
     generalize hst1:dP (some live) tr' fl S.hp.length st=st0 at hs1
     obtain⟨φ,hφ⟩:∃φ:Nat->dK,∀i b,st0.heap[i]?=some b->b=φ i:=⟨λi=>(st0.heap[i]?).getD default,λi b hb=>by show b=(st0.heap[i]?).getD default;rw[hb];rfl⟩
     have h0:=K1 (n:=sp.ins.os.length) (φ:=φ) hg hs1 λi hi b hb=>by rw[hφ i b hb];exact .r _
     have run:∀m q st1,Qt N (sp.ins.mkG sp.ins.os.length φ p q) (dP (some live) tr' fl st.heap.length st1)->lpB (λk q=>B n p k (LX sp.outs id) q) m q=some t->
      ∃x st2,gA (dP (some live) tr' fl st.heap.length) (λst=>eS P (fH P T n) n fl b st) m st1=some (x,st2) /\
       ∃S3 st3,Qt N S3 st3/\Hp lx lr tr fl st.heap.length (some (x,st2))=some (x,st3)/\Aj sp.ins.os.length x S3 sp.outs (mkE (sp.ins.fo.map φ) p sp.outs id)=some t:=by
      intro m
      induction m with
      | zero=>intro q st1 _ h;cases h
      | succ m ih=>
       intro q st1 hq hr
       simp only[lpB] at hr
       have e:=hB n φ p q (λf' p' q'=>if f'=sp.ins.fo.map φ/\p'=p then lpB (λk q=>B n p k (LX sp.outs id) q) m q' else none) (mkE (sp.ins.fo.map φ) p sp.outs id)
       simp only[Y7,Zu,aCh] at e
       rw[<-e] at hr
       obtain⟨x,st2,S2,g1,g2,g3⟩:=ihb hE' hN' hFl' (λj c' s hj hs=>hL' j c' s hj (by simpa using hs)) hq hr
       cases x with
       | normal=>
        simp only[aMW] at g3
        split at g3
        .rename_i f' p' q' hg'
         split at g3
         .rename_i ep
          obtain⟨rfl,rfl⟩:=ep
          have g4:=z6 hg' (LZ g2 live tr' sp.ins.os.length (by rw[hlen];exact hfn))
          rw[hlen] at g4
          obtain⟨x,st3,k1,k2⟩:=ih q' st2 (by rw[hlen];exact g4) g3
          exact⟨x,st3,by simp only[gA,g1];exact k1,k2⟩
         .cases g3
        .cases g3
       | ret=>
        refine⟨.ret,st2,by simp only[gA,g1],_,_,Kx g2 lr,rfl,g3⟩
       | exit j=>
        refine⟨.exit j,st2,by simp only[gA,g1],_,_,?_,rfl,g3⟩
        have:=LZ g2 lx tr sp.ins.os.length (by rw[hlen];exact hfn)
        rw[hlen] at this |-
        exact this
     obtain⟨x,st2,g1,S3,st3,g2,g3,g4⟩:=run n q st (by rw[show dP (some live) tr' fl st.heap.length st=st0 from by rw[hs.hp.ln];exact hst1];exact h0) ht
     obtain⟨t',e,hall'⟩:=z7 g4
     cases e
     obtain⟨o,ho,u,⟨k1,k2⟩,k3⟩:=Mb.two hall' hall
     have ex:=aDl k1
     have he:eS P (fH P T n) n fl (.mask lx lr tr (.loop (some live) tr' b)) st=some (o.x,st3):=by
      simp only[eS,g1,ex]
      exact g3
     have hoo:=hok p q o ho
     rw[<-hoo.fo] at k2
     refine⟨o.x,st3,_,he,aMa hs hs1 hle (λi k l hi=>?_) hg hlb (λi _ b hb=>hφ i b hb) hoo (z6 k2 g2) λhx u hu=>?_,k3⟩
     .cases tr' with
      | true=>exact y8 (Ze.1 hi).1 hi
      | false=>exact hi
     .exact nR (SM P T hE.fo n) (by rw[hlen];exact hfn) _ _ _ _ (aF8 hkt u hu) (by rw[hlen];exact Zf _) he hx
   .cases h
 .cases h
theorem rY: ∀(c:bT),aJg P T N fl c/\aUk P T N fl c
 | .skip=>⟨(by
  intro _ E n i S st K r k m d q f h;exact⟨_,st,S,rfl,f,h⟩),trivial⟩
 | .exit id=>⟨(by
  intro _ E n i S st K r k m d q f h;exact⟨_,st,S,rfl,f,h⟩),trivial⟩
 | .ret=>⟨(by
  intro _ E n i S st K r k m d q f h;exact⟨_,st,S,rfl,f,h⟩),trivial⟩
 | .region _ ck ops=>⟨(by
  intro _ E n i S st K r k m d q f h;simp only[WK] at h;let⟨st',H,o,u,p⟩:=aSG m k f h;rw[d] at o;exact⟨_,st',H,by simp only[eS,o],u,p⟩),trivial⟩
 | .seq a b=>⟨(by
  intro _ E n i S st K r k m d q f h;simp only[WK] at h;let⟨x,g,y,o,u,p⟩:=(rY a).1 k m d (λj c' s z f=>q j c' s (by
   simp only[iH];rw[Zo (Ze.1 z).1];exact z) f) f h
  split at p
  .let⟨x,D,W,Q,M,U⟩:=(rY b).1 k m d (λj c' s z f=>q (nLp a+j) c' s (by
    simp only[iH,wK];rw[ZX<|ZY _ _,YZ];exact z)<|by rw[<-Yu];exact f) u p
   exact⟨x,D,W,by simp only[eS,o,Q],M,U⟩
  .rename_i F;refine⟨x,g,y,?_,u,p⟩;cases x with
   | normal=>exact (F rfl).elim
   | exit=>simp only[eS,o]
   | ret=>simp only[eS,o]),trivial⟩
 | .cond c a b=>⟨(by
  intro _ E n i S st K r k m d q f h;simp only[WK] at h;split at h
  .rename_i t;split at h
   .rename_i v G;split at h
    .split at h
     .rename_i w;let⟨Z,I,Y⟩:=f.tm _ _ G;have R:=Y.inL;subst R;rcases N2 h with⟨rfl,h⟩ | ⟨rfl,h⟩
      .let⟨x,g,y,o,u,p⟩:=(rY a).1 k m d (λj c' s z f=>q j c' s (by
        simp only[iH];rw[Zo (Ze.1 z).1];exact z) f) (Vv f G) h
       exact⟨x,g,y,by simp only[eS,aH,I,o],u,p⟩
      .let⟨x,g,y,o,u,p⟩:=(rY b).1 k m d (λj c' s z f=>q (nLp a+j) c' s (by
        simp only[iH,wK];rw[ZX<|ZY _ _,YZ];exact z)<|by rw[<-Yu];exact f) (Vv f G) h
       exact⟨x,g,y,by simp only[eS,aH,I,o],u,p⟩
     .cases h
    .cases h
   .cases h
  .cases h),trivial⟩
 | .block id c=>⟨(by
  intro _ E n i S st K r k m d q f h;simp only[WK] at h;let⟨x,g,y,o,u,p⟩:=(rY c).1 k m d q f h;split at p
  .rename_i j;split at p
   .rename_i e;have e:=Zc e;exact⟨.normal,g,y,by simp only[eS,o,e,Zz],u,p⟩
   .rename_i e;have e:=YF e;exact⟨.exit j,g,y,by simp only[eS,o];rw[ZF e],u,p⟩
  .rename_i F;refine⟨x,g,y,?_,u,p⟩;cases x with
   | normal=>simp only[eS,o]
   | exit j=>exact (F _ rfl).elim
   | ret=>simp only[eS,o]),trivial⟩
 | .scope c=>⟨(by
  intro _ E n i S st K r k m d q f h;simp only[WK] at h;let⟨x,g,y,o,u,p⟩:=(rY c).1 k m d q f h;exact⟨x,g,y,by simp only[eS,o],u,p⟩),trivial⟩
 | .told li L J b=>⟨aM7 (rY b).1,trivial⟩
 | .mask L J tr c=>⟨aKG (rY c).2,trivial⟩
 | .frz t c=>⟨(by
  intro _ E n i S st K r k m d q f h;simp only[WK] at h;let⟨v,A',H,o,u,p⟩:=aQW (P:=P) (cf:=fH P T n) f h;let⟨x,g,y,V,O,X⟩:=(rY c).1 k m d q u p;rw[d] at o;exact⟨x,g,y,by simp only[eS,o,V],O,X⟩),trivial⟩
 | .loop l t b=>⟨(by
  intro _ E n i S st K r k m d q f h;cases h),(rY b).1⟩
 | .nilIf _ _ _ _ _=>⟨(by
  intro _ E n i S st K r k m d q f h;cases h),trivial⟩
 | .loopV _ _ _ _ _=>⟨(by
  intro _ E n i S st K r k m d q f h;cases h),trivial⟩
 | .stop=>⟨(by
  intro _ E n i S st K r k m d q f h;cases h),trivial⟩
theorem aQY(c:bT): aJg P T N fl c:=(rY c).1
theorem Mb.imp{P:Type}{Q b:(o:Oc P)->o.lay.V->Prop}: ∀{l:List<|Oc P} {t:sY l},(∀o∈l,∀t,Q o t->b o t)->Mb Q l t->Mb b l t
 | [],t,_,_=>t.elim
 | [o],t,h,k=>h o ZM t k
 | o::a::r,.inl t,h,k=>h o ZM t k
 | o::a::r,.inr t,h,k=>Mb.imp (l:=a::r) (λo c=>h o<|ZQ _ c) k
end
section
variable [dR][aF]{P:Program}{T:List cQ}{N fl:Nat}{S:TS}{st:St}{H:TH}
theorem aFm(f:Qt N S st): ∀{rs:List aAh} {vs:List TV},aBz S rs=some vs->∃aw,nD st rs=some aw/\Qc S.hp vs aw
 | [],vs,h=>by cases h;exact⟨[],rfl,trivial⟩
 | r::rs,vs,h=>by
  simp only[aBz] at h;split at h
  .cases h
  .rename_i v g;let⟨aw,i,k⟩:=aFm f g;split at h
   .rename_i t;cases h;exact⟨aH st.tmps (.tmp t)::aw,by simp only[nD,Qy,i],f.get<|.tmp t,k⟩
   .rename_i t n agg;have q:=f.get<|.tmp t;split at h
    .rename_i id off u;rw[u] at q;have q:=q.ptr1;split at h
     .rename_i o m;split at h
      .rename_i cs;let⟨es,p,l⟩:=f.hp.box m;split at h
       .rename_i j;have j:=Zj j;have d:=(l.drop off).take n;have a:eB st.heap (aH st.tmps<|.tmp t) n=some ((es.drop off).take n):=by
         rw[q];have:off+n<=es.length:=by rw[l.len];exact j
         simp[eB,p,this]
        split at h
        .cases h;exact⟨.agg ((es.drop off).take n)::aw,by simp only[nD,Qy,a,Zz,i],Qh.mkA d,k⟩
        .split at h
         .rename_i c s;cases h;rw[s] at d;generalize he:(es.drop off).take n=e at d a;match e,d with
          | [b],d=>exact⟨b::aw,by simp only[nD,Qy,a,Zn,Z9,i],d.1,k⟩
         .cases h
       .cases h
      .cases h
     .cases h
    .cases h
theorem aGv: ∀{l:List Sh} {p:fT l},(Og l p).length=l.length
 | [],_=>rfl
 | _::r,p=>by simp[Og,aGv]
structure Con(P:Program)(T:List cQ) where
 vi:Nat
 c:CSp
 ok:FOK P T vi c
def aHF: List (Con P T)->Nat->Option CSp
 | [],_=>none
 | x::r,v=>match Nat.beq x.vi v with
  | true=>some x.c
  | false=>aHF r v
theorem aE1: ∀{l:List<|Con P T} {vi:Nat} {c:CSp},aHF l vi=some c->FOK P T vi c
 | x::r,vi,c,h=>by
  simp only[aHF] at h;split at h
  .rename_i e;have e:=Zc e;cases h;rw[<-e];exact x.ok
  .exact aE1 h
theorem z8{k:Nat}{t:TypeId}(r:aDR (cds k)=true)(d:ag k=true)(c:∀a b:den k,Decidable<|a=b)(g:∀x y,aQ P (eqGuard .eql t (.tmp 0) (.tmp 0) (uE k x)<|uE k y)=some ()/\aQ P (eqGuard .neq t (.tmp 0) (.tmp 0) (uE k x)<|uE k y)=some ())(e:∀x y,aQ P (Op.equal t (uE k x)<|uE k y)=some (@decide (x=y)<|c x y)): aMk P t ⟨k,c⟩:=by
 intro cf fl H x y aw u s q;have m:∀{x:den k} {aw:List AV},Qr (kI k x) aw->lits (.agg aw)=some (uE k x):=by
  intro x aw h;unfold kI at h;rw[y7 r] at h;simp only[lits,aBP h,uE,d]
 have e:=e x y;have g:=g x y;have i:=m s;have l:=m q;have p:∀x,∃a,uE k x=.agg a:=λx=>⟨(kvC (cds k)<|dR.un k x).toArray,by simp only[uE,d]⟩;let⟨a,o⟩:=p x;let⟨b,n⟩:=p y;rw[o,n] at e g;rw[o] at i;rw[n] at l;constructor
 .have:aQ P (binOp .eql t (.agg a)<|.agg b)=some (.bool<|@decide (x=y)<|c x y):=by
   simp only[binOp,bX,e,Z2,cJ]
  simp only[d,vE,aO,aH,Zt,ZL,i,l,wJ,Zz,g.1,this]
 .have:aQ P (binOp .neq t (.agg a)<|.agg b)=some (.bool<|!@decide (x=y) (c x y)):=by
   simp only[binOp,bX,e,Z2,cJ]
  simp only[d,vE,aO,aH,Zt,ZL,i,l,wJ,Zz,g.2,this]
theorem aRb{k:Nat}{t:TypeId}{c:∀a b:den k,Decidable<|a=b}(l:ag k=false)(f:den k->Bool)(j:∀x,kI k x=[.lit<|.bool<|f x])(h:∀(cf:CF) (fl:Nat) (H:aU) (x y:den k),
 aO P cf fl (.bin .eql t (.tmp 0)<|.tmp 1) [.lit<|.bool<|f x,.lit<|.bool<|f y] H=some (bv<|@decide (x=y)<|c x y,H)/\aO P cf fl (.bin .neq t (.tmp 0)<|.tmp 1) [.lit<|.bool<|f x,.lit<|.bool<|f y] H=some (bv<|!@decide (x=y) (c x y),H)): aMk P t ⟨k,c⟩:=by
 intro cf fl H x y aw m i g;have e:∀{x:den k} {aw:List AV},Qr (kI k x) aw->aw=[.lit<|.bool<|f x]:=by
  intro x aw h;rw[j] at h;match aw,h with
  | [a],h=>rw[(Qh.p (H:=[]) _ _ h.1).inL]
 rw[e i,e g];simp only[l,vE];exact h cf fl H x y
structure Glb(P:Program)(T:List cQ) where
 eq:List ((t:TypeId)×{e:EqS // aMk P t e})
 km:List ((t:TypeId)×{e:aOE // KOK P t e})
 st:List {t:TypeId // aMf P t}
 cv:List ((s:TypeId×TypeId)×{k:IntKind // aJi P s.1 s.2 k})
 pr:List ((vi:Nat)×{p:PSp // POK T vi p})
 fo:∀cf,Cy cf->Cy (Mj cf)
def asg{α:Nat->Type}{β:Type}(f:∀i,α i->β): List ((i:Nat)×α i)->Nat->Option β
 | [],_=>none
 | x::r,v=>match Nat.beq x.1 v with
  | true=>some<|f x.1 x.2
  | false=>asg f r v
theorem aC1{α:Nat->Type}{β:Type}{f:∀i,α i->β}{Q:Nat->β->Prop}(h:∀i x,Q i<|f i x): ∀{l:List<|(i:Nat)×α i} {v:Nat} {b:β},asg f l v=some b->Q v b
 | x::r,v,b,e=>by
  simp only[asg] at e;split at e
  .rename_i a;have a:=Zc a;cases e;rw[<-a];exact h _ _
  .exact aC1 h e
def stB: List {t:TypeId // aMf P t}->TypeId->Bool
 | [],_=>false
 | x::r,t=>match Nat.beq x.1 t with
  | true=>true
  | false=>stB r t
theorem aJ6: ∀{l:List {t:TypeId // aMf P t}} {t:TypeId},stB l t=true->aMf P t
 | x::r,t,h=>by
  simp only[stB] at h;split at h
  .rename_i e;have e:=Zc e;rw[<-e];exact x.2
  .exact aJ6 h
def cvB: List ((s:TypeId×TypeId)×{k:IntKind // aJi P s.1 s.2 k})->TypeId->TypeId->Option IntKind
 | [],_,_=>none
 | x::r,s,t=>match Nat.beq x.1.1 s with
  | true=>match Nat.beq x.1.2 t with
   | true=>some x.2.1
   | false=>cvB r s t
  | false=>cvB r s t
theorem aFU: ∀{l:List<|(s:TypeId×TypeId)×{k:IntKind // aJi P s.1 s.2 k}} {s t:TypeId} {k:IntKind},cvB l s t=some k->aJi P s t k
 | x::r,s,t,k,h=>by
  simp only[cvB] at h;split at h
  .rename_i e;have e:=Zc e;split at h
   .rename_i a;have a:=Zc a;cases h;rw[<-e,<-a];exact x.2.2
   .exact aFU h
  .exact aFU h
structure LC(P:Program)(T:List cQ)(N fl:Nat)(c:bT) where
 s:v9
 ok:LOK P T N fl c s
structure IC(P:Program)(T:List cQ) where
 s:ISp
 ok:IOK P T s
def lpA(b:bT)(j:Nat): bT:=match (iH b)[j]? with
 | some c=>c
 | none=>.skip
structure En(P:Program)(T:List cQ)(N fl:Nat)(b:bT) where
 C:List (Con P T)
 kd:List (Nat×Nat)
 ls:List ((j:Nat)×List (LC P T N fl (lpA b j)))
 un:List (Nat×Nat)
 il:List (IC P T)
def aN8{b:bT}: List ((j:Nat)×List (LC P T N fl<|lpA b j))->List (Nat×List v9)
 | []=>[]
 | x::r=>(x.1,x.2.map (·.s))::aN8 r
def En.xe{b:bT}(G:Glb P T)(e:En P T N fl b): XE:=⟨aHF e.C,asg (λ_ x=>x.1) G.eq,asg (λ_ x=>x.1) G.km,stB G.st,cvB G.cv,asg (λ_ x=>x.1) G.pr,e.kd,aN8 e.ls,e.un,e.il.map (·.s),N,fl⟩
theorem En.ok{b:bT}(G:Glb P T)(e:En P T N fl b): Q6 P T (e.xe G) where
 cs:=λ_ _ h=>aE1 h;eq:=λ_ _ h=>aC1 (Q:=aMk P) (λ_ x=>x.2) h;km:=λ_ _ h=>aC1 (Q:=KOK P) (λ_ x=>x.2) h;st:=λ_ h=>aJ6 h;cv:=λ_ _ _ h=>aFU h;pr:=λ_ _ h=>aC1 (Q:=POK T) (λ_ x=>x.2) h;il:=λsp h=>by
  obtain⟨x,_,rfl⟩:=Yh.1 h;exact x.ok
 fo:=G.fo
theorem En.lp{b:bT}(G:Glb P T)(e:En P T N fl b)(j:Nat)(c:bT)(s:v9)(i:(iH b)[j]?=some c)(m:s∈aEB (e.xe G) j): LOK P T N fl c s:=by
 have g:∀(l:List<|(j:Nat)×List (LC P T N fl<|lpA b j)),s∈(match dD j (aN8 l) with | some l=>l | none=>[])->LOK P T N fl c s:=by
  intro l;induction l with
  | nil=>intro h;cases h
  | cons x r k=>
   intro h;simp only[aN8,dD] at h;split at h
   .rename_i l f;split at f
    .rename_i e;have e:=Zc e;cases f;obtain⟨y,_,rfl⟩:=Yh.1 h;have d:∀(c':bT) (y:LC P T N fl c'),c'=c->LOK P T N fl c y.s:=by rintro _ y rfl;exact y.ok
     exact d _ y<|by rw[e];simp[lpA,i]
    .exact k<|by rw[f];exact h
   .cases h
 exact g e.ls m
def aLH(n:Nat): Option (List Nat)->Option (List Nat)
 | some l=>some (n::l)
 | none=>none
def N7(kl:List Nat): Nat->TH->Option (List Nat)
 | _,[]=>some []
 | i,a::r=>match FN i kl with
  | true=>N7 kl (i+1) r
  | false=>match a with
   | .lst _ l=>aLH l.length<|N7 kl (i+1) r
   | _=>N7 kl (i+1) r
def V4(kl:List Nat): Nat->TH->TH->Option (List Nat)
 | _,[],_=>some []
 | i,a::r,s=>match s with
  | []=>none
  | b::s=>match FN i kl with
   | true=>V4 kl (i+1) r s
   | false=>match a with
    | .lst _ _=>match b with
     | .lst _ l=>aLH l.length<|V4 kl (i+1) r s
     | _=>none
    | _=>V4 kl (i+1) r s
theorem UR{kl:List Nat}: ∀{i:Nat} {H:TH},∃l,N7 kl i H=some l
 | i,[]=>⟨_,rfl⟩
 | i,a::r=>by
  let⟨l,h⟩:=UR (kl:=kl) (i:=i+1) (H:=r);simp only[N7,h];split
  .exact⟨_,rfl⟩
  .split<;>exact⟨_,rfl⟩
theorem aCy{kl:List Nat}: ∀{i:Nat} {H H':TH},V4 kl i H H'=N7 kl i H->H.length<=H'.length/\∀(j k:Nat) (l:List<|den k),i+j∉kl->H[j]?=some (.lst k l)->∃(k':Nat) (c:List<|den k'),H'[j]?=some (.lst k' c)/\c.length=l.length
 | i,[],H',h=>⟨ZG _,λj k l _ f=>by simp at f⟩
 | i,a::r,[],h=>by
  let⟨l,e⟩:=UR (kl:=kl) (i:=i) (H:=a::r);rw[e] at h;cases h
 | i,a::r,b::s,h=>by
  have o:V4 kl (i+1) r s=N7 kl (i+1) r->(i∉kl->∀(k:Nat) (l:List<|den k),a=.lst k l->∃(k':Nat) (c:List<|den k'),b=.lst k' c/\c.length=l.length)->(a::r).length<=(b::s).length/\∀(j k:Nat) (l:List<|den k),i+j∉kl->(a::r)[j]?=some (.lst k l)->∃(k':Nat) (c:List<|den k'),(b::s)[j]?=some (.lst k' c)/\c.length=l.length:=by
   intro w u;let⟨t,y⟩:=aCy w;refine⟨by simpa using t,λj k l f p=>?_⟩;cases j with
   | zero=>
    simp only[Zt,Za] at p;let⟨k',c,e,g⟩:=u f k l p;exact⟨k',c,by rw[e];rfl,g⟩
   | succ j=>
    let⟨k',c,e,g⟩:=y j k l (by rw[Yu,Wg 1];exact f) (by simpa using p);exact⟨k',c,by simpa using e,g⟩
  simp only[V4,N7] at h;cases n:FN i kl with
  | true=>
   rw[n] at h;exact o h λx=>by rw[aF7 x] at n;cases n
  | false=>
   rw[n] at h;simp only at h;cases a with
   | lst k l=>
    simp only at h;let⟨B,m⟩:=UR (kl:=kl) (i:=i+1) (H:=r);split at h
    .rename_i k' c;cases q:V4 kl (i+1) r s with
     | none=>rw[q,m] at h;cases h
     | some C=>
      rw[q,m] at h;simp only[aLH,Za,XU] at h;exact o (by rw[q,m,h.2]) λ_ v z e=>by cases e;exact⟨_,_,rfl,h.1⟩
    .rw[m] at h;cases h
   | _=>exact o h λ_ v z e=>by cases e
def HMa(ins:Gs)(kl:List Nat)(p:ins.P)(q:ins.V): List (Oc ins.P)->Prop
 | []=>True
 | o::r=>o.lay.fo=ins.fo/\(∀t,V4 kl 0 (ins.mk' p q).hp (o.lay.mk' (o.pr p) t).hp=N7 kl 0 (ins.mk' p q).hp)/\HMa ins kl p q r
theorem aCF{sp:v9}{p:sp.ins.P}{q:sp.ins.V}: ∀{l:List<|Oc sp.ins.P},HMa sp.ins sp.kl p q l->∀o∈l,OKo sp p q o
 | [],_,o,a=>by cases a
 | d::r,h,o,a=>by
  rcases ZN.1 a with rfl | a
  .exact⟨h.1,λt j k l b c=>(aCy<|h.2.1 t).2 j k l (by rw[Z0];exact b) c,λt=>(aCy<|h.2.1 t).1⟩
  .exact aCF h.2.2 o a
def mkL(G:Glb P T){c b:bT}{lx lr live:List Bool}{tr tr':Bool}(hc:c=.mask lx lr tr (.loop (some live) tr' b))(e:En P T N fl b)(ins:Gs)(kl kt:List Nat)(outs:List<|Oc ins.P)(B:Nat->ins.P->(ins.V->Option (sY outs))->EP (sY outs) outs->ins.V->Option (sY outs))(h:∀n φ p q k e',WK (e.xe G) n b 0 (ins.mkG ins.os.length φ p q) (aMW ins outs live tr' lx lr tr ins.os.length k e')=B n p (k (ins.fo.map φ) p) (SA (ins.fo.map φ) p e') q:=by intros;kernel_rfl)(hm:∀p q,HMa ins kl p q outs:=by intro _ _;repeat' first | exact trivial | refine Vh ?_ ?_ | (intro _;kernel_rfl) | rfl)(hk:kpL c kt=true:=by kernel_rfl): LC P T N fl c:=
 ⟨⟨ins,kl,kt,outs,λn p q=>lpB (λk q=>B n p k (LX outs id) q) n q⟩,by subst hc;exact .loop _ _ _ _ _ _ _ (e.xe G) B (e.ok G) rfl rfl (e.lp G) (λp q=>aCF<|hm p q) hk (λ_ _ _=>rfl) h⟩
def mkP(G:Glb P T){c b:bT}{li lx lr:List Bool}(hc:c=.told li lx lr b)(e:En P T N fl b)(ins:Gs)(kl kt:List Nat)(outs:List<|Oc ins.P)(B:Nat->ins.P->EP (sY outs) outs->ins.V->Option (sY outs))(h:∀n φ p q e',WK (e.xe G) n b 0 (ins.mkG ins.os.length φ p q) (aQx ins.os.length outs lx lr e')=B n p (SA (ins.fo.map φ) p e') q:=by intros;kernel_rfl)(hm:∀p q,HMa ins kl p q outs:=by intro _ _;repeat' first | exact trivial | refine Vh ?_ ?_ | (intro _;kernel_rfl) | rfl)(hk:kpL c kt=true:=by kernel_rfl): LC P T N fl c:=
 ⟨⟨ins,kl,kt,outs,λn p q=>B n p (LX outs id) q⟩,by subst hc;exact .told _ _ _ _ _ (e.xe G) B (e.ok G) rfl rfl (e.lp G) (λp q=>aCF<|hm p q) hk (λ_ _ _=>rfl) h⟩
abbrev LC.f{c:bT}(x:LC P T N fl c):=x.s.F
theorem aLq{F:cQ}{E:XE}{n:Nat}{R:Type}{K:cU->TS->Option R}{r:R}{aw:List AV}{A:aU}{vi:Nat}(z:getF T vi=some F)(y:Q6 P T E)(p:E.nt=F.nt)(l:E.fl=fl)(u:∀(j:Nat) (c:bT) (s:v9),(iH F.body)[j]?=some c->s∈aEB E j->LOK P T F.nt fl c s)(g:Qt aw.length S ⟨aw,A⟩)(B:aw.length<=F.nt)(h:WK E n F.body 0 S K=some r)(w:∀x d,K x d=some r->x=.normal\/x=.ret):
 ∃x st' d,Qt F.nt d st'/\K x d=some r/\fH P T (n+1) fl vi aw A=(match nD st' F.rets with | some vs=>some (kO vs,st'.heap) | none=>none):=by
 have k:Qt F.nt S ⟨aw++List.replicate (F.nt-aw.length) (.lit bM),A⟩:=by
  refine⟨by simp;omega,λt v m=>?_,g.hp⟩;let⟨a,f,e⟩:=g.tm t v m;refine⟨a,?_,e⟩;show (aw++_)[t]?=_;rw[Zo (Ze.1 f).1];exact f
 let⟨x,st',d,o,f,e⟩:=aQY (i:=0) F.body y p l (λj b s q g=>u j b s q<|by simpa using g) k h;refine⟨x,st',d,f,e,?_⟩;rw[K8 F z,o];rcases w x d e with rfl | rfl<;>rfl
theorem fok{vi:Nat}{c:CSp}{F:cQ}(C:getF T vi=some F)(E:XE)(D:Q6 P T E)(M:E.nt=F.nt)(u:E.fl=0)(w:Nat.ble c.ka.length F.nt=true)(J:∀(j:Nat) (b:bT) (s:v9),(iH F.body)[j]?=some b->s∈aEB E j->LOK P T F.nt 0 b s)(L:∀p,c.F 0 p=none)(h:∀n p,c.F (n+1) p=exF E n F c p): aUs P T vi c:=by
 intro n p r i aw z;cases n with
 | zero=>rw[L] at i;cases i
 | succ n=>
  rw[h] at i;unfold exF at i;have B:aw.length=c.ka.length:=by rw[z.len,aGv]
  have w:=Zj w;let⟨x,st',f,q,m,G⟩:=aLq C D M u J (aCq (show Qs [] [] from trivial) z) (by omega) i λx f h=>by
   cases x with
   | normal=>exact .inl rfl
   | ret=>exact .inr rfl
   | exit=>cases h
  have g:(match aBz f F.rets with | some vs=>(match c.kp with | false=>Fy 2 f.hp (c.kr.map .v) vs | true=>bnd (Nq<|VR f.hp vs) λ_=>Fy 2 f.hp (c.kr.map .v) vs) | none=>none)=some r->∃vs a A H,fH P T (n+1) 0 vi aw []=some (kO a,A)/\Qs H A/\Qc H vs a/\Fy 2 H (c.kr.map .v) vs=some r/\(c.kp=true->VR H vs=true):=by
   intro h;split at h
   .rename_i vs l;let⟨a,I,y⟩:=aFm q l;have he:fH P T (n+1) 0 vi aw []=some (kO a,st'.heap):=by rw[G,I]
    split at h
    .rename_i t;exact⟨vs,a,st'.heap,f.hp,he,q.hp,y,h,λe=>by rw[t] at e;cases e⟩
    .let⟨_,K,h⟩:=bD h;exact⟨vs,a,st'.heap,f.hp,he,q.hp,y,h,λ_=>Ag K⟩
   .cases h
  cases x with
  | normal=>exact g m
  | exit=>cases m
  | ret=>exact g m
def mkC(G:Glb P T)(vi:Nat){F:cQ}(hF:getF T vi=some F)(ka:List Sh)(kr:List Nat)(kp:Bool)(e:En P T F.nt 0 F.body)(f:Nat->fT ka->Option (fT<|kr.map .v))(hk:Nat.ble ka.length F.nt=true)(h0:∀p,f 0 p=none)(h:∀n p,f (n+1) p=exF (e.xe G) n F ⟨ka,kr,kp,f⟩ p)(hkp:kpB kp kr=true:=by kernel_rfl): Con P T:=⟨vi,⟨ka,kr,kp,f⟩,.of0 (fok hF (e.xe G) (e.ok G) rfl rfl hk (e.lp G) h0 h) hkp⟩
theorem aDp: ∀{rs:List aAh} {vs:List TV},aBz S rs=some vs->vs.length=rs.length
 | [],vs,h=>by cases h;rfl
 | r::rs,vs,h=>by
  simp only[aBz] at h;split at h
  .cases h
  .rename_i c b;have a:=aDp b;split at h
   .cases h;simp[a]
   .split at h
    .split at h
     .split at h
      .split at h
       .split at h
        .cases h;simp[a]
        .split at h
         .cases h;simp[a]
         .cases h
       .cases h
      .cases h
     .cases h
    .cases h
def mkI(G:Glb P T)(vi fl:Nat){F:cQ}(hF:getF T vi=some F)(e:En P T F.nt fl F.body)(ins:Gs)(kl:List Nat)(outs:List<|Oc ins.P)(B:Nat->ins.P->EP (sY outs) outs->ins.V->Option (sY outs))(na:Nat)(hk:Nat.ble na F.nt=true:=by kernel_rfl)(h:∀n φ p q e',exI (e.xe G) n F (ins.mkG ins.os.length φ p q) (λS=>Aj ins.os.length .ret S outs e')=B n p (SA (ins.fo.map φ) p e') q:=by intros;kernel_rfl)(hm:∀p q,HMa ins kl p q outs:=by intro _ _;repeat' first | exact trivial | refine Vh ?_ ?_ | (intro _;kernel_rfl) | rfl): IC P T:=
 ⟨⟨⟨ins,kl,[],outs,λn p q=>bnd (prd n) λn=>B n p (LX outs id) q⟩,vi,fl,na,F.rets.length⟩,by
  intro n p q t ht φ aw A hna hle hs
  cases n with
  | zero=>cases ht
  | succ n=>
   have ht:B n p (LX outs id) q=some t:=ht
   rw[<-aCh (ins.fo.map φ) p,<-h] at ht
   unfold exI at ht
   have hk:=Zj hk
   have hna:aw.length=na:=hna
   obtain⟨x,st',S',h2,h3,h4⟩:=aLq (fl:=fl) hF (e.ok G) rfl rfl (e.lp G) hs (by omega) ht λx S' h=>by
    cases x with
    | normal=>exact .inl rfl
    | ret=>exact .inr rfl
    | exit=>cases h
   have fin:(match aBz S' F.rets with | some vs=>Aj ins.os.length .ret ⟨XW 0 vs,S'.hp⟩ outs (mkE (ins.fo.map φ) p outs id) | none=>none)=some t->
    ∃aw' H',fH P T (n+1) fl vi aw A=some (kO aw',H')/\aw'.length=F.rets.length/\Mb (λo t=>Qt F.rets.length (o.lay.mkG ins.os.length φ (o.pr p) t) ⟨aw',H'⟩/\OKo ⟨ins,kl,[],outs,λn p q=>bnd (prd n) λn=>B n p (LX outs id) q⟩ p q o) outs t:=by
    intro h
    split at h
    .rename_i vs hvs
     obtain⟨aw',g1,g2⟩:=aFm h2 hvs
     obtain⟨t',e',hall⟩:=z7 h
     cases e'
     have hl:aw'.length=F.rets.length:=by rw[g2.len,aDp hvs]
     refine⟨aw',st'.heap,by rw[h4,g1],hl,Mb.imp (λo ho t hg=>?_) hall⟩
     have hoo:=aCF (sp:=⟨ins,kl,[],outs,λn p q=>bnd (prd n) λn=>B n p (LX outs id) q⟩) (hm p q) o ho
     have hg2:=hg.2
     have hf:o.lay.fo=ins.fo:=hoo.fo
     rw[<-hf] at hg2
     have:=z6 hg2<|aCq h2.hp g2
     rw[hl] at this
     exact⟨this,hoo⟩
    .cases h
   cases x with
   | normal=>exact fin h3
   | exit=>cases h3
   | ret=>exact fin h3⟩
end
section
variable [dR]{P:Program}
def shF(P:Program)(chk:TypeId->List Cd->Bool): List Field->List Cd->Bool
 | [],cs=>cs.isEmpty
 | f::r,cs=>chk f.type (cs.take<|P.cellsOf f.type)&&shF P chk r (cs.drop<|P.cellsOf f.type)
def shK(P:Program): Nat->TypeId->List Cd->Bool
 | 0,_,_=>false
 | n+1,t,cs=>match P.underlying t with
  | some .bool=>match cs with
   | [.bool]=>true
   | _=>false
  | some (.int k)=>match cs with
   | [.int k']=>decide<|k=k'
   | _=>false
  | some .string=>match cs with
   | [.str]=>true
   | _=>false
  | some (.slice e)=>match cs with
   | [.sl k]=>shK P n e<|cds k
   | _=>false
  | some (.struct fs)=>shF P (shK P n) fs.toList cs
  | _=>false
def LnL(f:(cs:List Cd)->VA cs->Prop): (cs:List Cd)->VA cs->Prop
 | [],_=>True
 | .sl k::r,p=>(List.length (α:=den k) p.1<=mxL/\∀x:den k,List.Mem x p.1->f (cds k) (dR.un k x))/\LnL f r p.2
 | _::r,p=>LnL f r p.2
def LnC: Nat->(cs:List Cd)->VA cs->Prop
 | 0,_,_=>True
 | n+1,cs,p=>LnL (LnC n) cs p
theorem aGI: ∀(a b:List Cd) (p:VA a) (q:VA b),∃r:VA<|a++b,tB (a++b) r=tB a p++tB b q/\∀f,LnL f a p->LnL f b q->LnL f (a++b) r
 | [],b,_,q=>⟨q,rfl,λ_ _ h=>h⟩
 | c::a,b,p,q=>by
  let⟨r,i,e⟩:=aGI a b p.2 q;refine⟨(p.1,r),?_,λf d g=>?_⟩
  .show c.tv p.1::tB (a++b) r=_;rw[i];rfl
  .cases c with
   | sl k=>exact⟨d.1,e f d.2 g⟩
   | _=>exact e f d g
theorem aKf{a b:List Cd}(e:a=b)(p:VA a): ∃q:VA b,tB b q=tB a p/\∀f,LnL f a p->LnL f b q:=by subst e;exact⟨p,rfl,λ_ h=>h⟩
theorem aG0{k:Nat}: ∀(es:List<|List AV),(∀x∈es,∃p:VA<|cds k,Qr (tB (cds k) p) x/\∀d,LnC d (cds k) p)->∃l:List<|den k,Ql k l es/\∀d,∀x:den k,List.Mem x l->LnC d (cds k) (dR.un k x)
 | [],_=>⟨[],trivial,λd x h=>by cases h⟩
 | e::es,h=>by
  let⟨p,m,j⟩:=h e ZM;let⟨l,i,n⟩:=aG0 es λx b=>h x<|ZQ _ b;refine⟨dR.pk k p::l,⟨?_,i⟩,λd x b=>?_⟩
  .show Qr (tB (cds k)<|dR.un k<|dR.pk k p) e;rw[dR.un_pk];exact m
  .cases b with
   | head=>rw[dR.un_pk];exact j d
   | tail _ b=>exact n d x b
theorem aFe: ∀(n:Nat) (t:TypeId) (cs:List Cd) (ys:List AV),shK P n t cs=true->yB P n t ys->∃p:VA cs,Qr (tB cs p) ys/\∀d,LnC d cs p
 | 0,_,_,_,h,_=>by simp[shK] at h
 | n+1,t,cs,ys,a,h=>by
  unfold shK at a;unfold yB at h;split at a
  .rename_i j;simp only[j] at h;obtain⟨b,rfl⟩:=h;split at a
   .exact⟨(b,()),⟨.lit _,trivial⟩,λd=>by cases d<;>exact trivial⟩
   .cases a
  .rename_i k j;simp only[j] at h;obtain⟨z,_,rfl⟩:=h;split at a
   .rename_i k';obtain rfl:=Zl a;exact⟨(z,()),⟨.lit _,trivial⟩,λd=>by cases d<;>exact trivial⟩
   .cases a
  .rename_i j;simp only[j] at h;obtain⟨z,_,rfl⟩:=h;split at a
   .exact⟨(z,()),⟨.lit _,trivial⟩,λd=>by cases d<;>exact trivial⟩
   .cases a
  .rename_i e j;simp only[j] at h;obtain⟨es,rfl,R,v⟩:=h;split at a
   .rename_i k;let⟨l,m,o⟩:=aG0 (k:=k) es λx B=>aFe n e (cds k) x a<|v x B;refine⟨(l,()),⟨Qp.mkS (.inr ⟨_,rfl⟩) m,trivial⟩,λd=>?_⟩;cases d with
    | zero=>trivial
    | succ d=>exact⟨⟨by show l.length<=mxL;rw[<-m.len];exact R,o d⟩,trivial⟩
   .cases a
  .rename_i O j;simp only[j] at h;obtain⟨c,rfl,K,v⟩:=h;have u:∀(l:List Field) (cs:List Cd) (c:List<|List AV),shF P (shK P n) l cs=true->c.length=l.length->(∀(i:Nat) (f:Field) (p:List AV),l[i]?=some f->c[i]?=some p->yB P n f.type p)->∃p:VA cs,Qr (tB cs p) c.flatten/\∀d,LnC d cs p:=by
    intro l;induction l with
    | nil=>
     intro cs c m o _;have:cs=[]:=by simpa [shF] using m
     subst this;have:c=[]:=ZK.1 o;subst this;exact⟨(),trivial,λd=>by cases d<;>exact trivial⟩
    | cons f l M=>
     intro cs c m o y;simp only[shF,Zd] at m;match c,o with
     | q::c,o=>
      let⟨Q,F,S⟩:=aFe n f.type _ q m.1<|y 0 f q rfl rfl;let⟨A,C,J⟩:=M _ c m.2 (by simpa using o) λi g p H w=>y (i+1) g p (by simpa using H) (by simpa using w);let⟨r,I,E⟩:=aGI _ _ Q A;let⟨s,L,D⟩:=aKf (YT (P.cellsOf f.type) cs) r;refine⟨s,?_,λd=>?_⟩
      .rw[L,I,Yt];exact F.app C
      .cases d with
       | zero=>trivial
       | succ d=>exact D _<|E _ (S<|d+1)<|J<|d+1
   exact u O.toList cs c a (by simpa using K) λi f p G w=>v i f p (by simpa using G) w
  .cases a
theorem aHL{n k:Nat}{t:TypeId}{x:AV}{H:TH}(l:shK P n t (cds k)=true)(s:isAgg P t=ag k)(i:ag k=true\/∃c,cds k=[c])(h:∃ys,yB P n t ys/\x=c7 P t ys): ∃a:den k,Qh H (val k a) x/\∀d,LnC d (cds k)<|dR.un k a:=by
 obtain⟨ys,r,rfl⟩:=h;let⟨p,q,o⟩:=aFe n t (cds k) ys l r;refine⟨dR.pk k p,?_,λd=>by rw[dR.un_pk];exact o d⟩;have f:Qr (kI k<|dR.pk k p) ys:=by unfold kI;rw[dR.un_pk];exact q
 unfold val c7;rw[s];cases e:ag k with
 | true=>exact Qh.mkA f.c
 | false=>
  have g:=uX<|dR.pk k p;rcases i with i | ⟨c,u⟩
  .rw[e] at i;cases i
  .rw[u] at g;revert f g;generalize kI k (dR.pk k p)=cs;intro f g;match cs,ys,f,g with
   | [v],[y],f,_=>exact .p _ _ f.1
theorem aOd[aF]{T:List cQ}{vi kb:Nat}{ka:List Sh}{F:Nat->fT ka->Option (fT<|[kb].map .v)}(i:FOK P T vi ⟨ka,[kb],false,F⟩){n:Nat}{p:fT ka}{r:den kb}(e:F n p=some r)(h:val kb r=.lit (.bool true)){aw:List AV}(q:Qc [] (Og ka p) aw): ∃k H',fH P T k 0 vi aw []=some (.lit<|.bool true,H'):=by
 let⟨d,A,j,c,s,_⟩:=i n p r e aw q;have c:=c [];match d,c with
 | [b],c=>
  refine⟨n,A,?_⟩;rw[j];have f:Qh [] (val kb r)<|dZ A 0 b:=c.1;rw[h] at f;have a:=f.inL;have o:b=.lit (.bool true):=by
   cases b with
   | lit v=>
    have a:uC v=.lit (.bool true):=a;unfold uC at a;repeat' split at a
    all_goals first | (cases a;rfl) | cases a
   | ms id tot off len=>
    simp only[dZ,gH,YE,Z9,fE,eE,ZG,Zz] at a;split at a<;>cases a
   | mp id=>
    simp only[dZ,gH,YE,Z9,fE,eE,ZG,Zz] at a;split at a<;>cases a
   | ptr=>cases a
   | fn vi caps=>cases caps<;>cases a
   | _=>cases a
  rw[o];rfl
end
end
inductive Tr where
 | n (k:Nat) (l:List Tr)
structure Gr where
 nl:Nat
 al:List (Nat×Nat)
 na:Nat
 bs:Nat
 ru:List Nat
def aSU: Nat->List Tr->List Tr->List Tr×List Tr
 | 0,acc,st=>(acc,st)
 | k+1,acc,st=>match st with
  | t::r=>aSU k (t::acc) r
  | []=>(acc,[])
def aN1{α:Type}(d:α): Nat->List α->α
 | _,[]=>d
 | 0,x::_=>x
 | n+1,_::r=>aN1 d n r
def aTJ(b:Nat): Nat->Nat->List Nat
 | 0,_=>[]
 | f+1,n=>match Nat.beq n 0 with
  | true=>[]
  | false=>Nat.mod n b::aTJ b f (Nat.div n b)
section
variable (G:Gr)
def aPY(s:Nat): Nat:=Nat.mod (Nat.div (aN1 0 (Nat.div s 64) G.ru)<|Nat.pow (Nat.mul G.bs G.bs)<|Nat.mod s 64)<|Nat.mul G.bs G.bs
def aMV: Nat->List Nat->List Tr->List Tr
 | 0,_,st=>st
 | f+1,w,st=>match w with
  | []=>st
  | s::w=>match Nat.blt s G.nl with
   | true=>aMV f w (.n s []::st)
   | false=>match Nat.blt s G.na with
    | true=>match aN1 (0,0) (Nat.sub s G.nl) G.al with
     | (k,a)=>match aSU a [] st with
      | (l,st)=>aMV f w (.n k l::st)
    | false=>match aPY G (Nat.sub s G.na) with
     | r=>aMV f (Nat.mod r G.bs::Nat.div r G.bs::w) st
def aTL(n:Nat): Tr:=match aMV G 1000000 (aTJ G.bs 1000000 n) [] with
 | t::_=>t
 | []=>.n 0 []
end
def rB: Tr->Bool
 | .n k _=>match k with
  | 0=>false
  | _=>true
def rN: Tr->Nat
 | .n k _=>k
def rI: Tr->Int
 | .n k l=>match l with
  | []=>Int.ofNat k
  | _=>Int.negOfNat k
def rL{α:Type}(r:Tr->α): Tr->List α
 | .n _ l=>l.map r
def rO{α:Type}(r:Tr->α): Tr->Option α
 | .n _ l=>match l with
  | []=>none
  | t::_=>some<|r t
def aOT: Bool->List Tr->List Bool
 | _,[]=>[]
 | b,t::r=>List.replicate (rN t) b++aOT (!b) r
def rM: Tr->List Bool
 | .n _ l=>aOT false l
def rK: Nat->IntKind
 | 0=>.i64
 | 1=>.i32
 | 2=>.u8
 | 3=>.u64
 | 4=>.u32
 | 5=>.i8
 | 6=>.i16
 | _=>.u16
def S6: Tr->Value
 | .n k l=>match l with
  | []=>match k with
   | 0=>.bool false
   | 1=>.bool true
   | 2=>bO
   | 3=>.pointer none
   | 4=>.map none
   | 5=>.nilFunc
   | 6=>.nilIface
   | 7=>.string ⟨#[]⟩
   | _=>bM
  | t::r=>match k with
   | 15=>.string ⟨((t::r).map λt=>UInt8.ofNat<|rN t).toArray⟩
   | _=>.int (rK k)<|rI t
def rT(c k:Nat): Nat:=match Nat.blt k 320 with
 | true=>k
 | false=>Nat.sub (Nat.add c 320) k
def rX(c:Nat): Tr->bA
 | .n k l=>match l with
  | []=>.tmp<|rT c k
  | t::r=>match k with
   | 0=>.lit<|S6 t
   | 1=>.agg<|r.map S6
   | 2=>.fn<|rN t
   | _=>.glob<|rN t
def aSR: Nat->BinOp
 | 0=>.add
 | 1=>.sub
 | 2=>.mul
 | 3=>.quo
 | 4=>.rem
 | 5=>.and
 | 6=>.or
 | 7=>.xor
 | 8=>.shl
 | 9=>.shr
 | 10=>.andNot
 | 11=>.eql
 | 12=>.neq
 | 13=>.lss
 | 14=>.leq
 | 15=>.gtr
 | _=>.geq
def rUn: Nat->UnOp
 | 0=>.neg
 | 1=>.xor
 | 2=>.not
 | _=>.plus
def aVx(c:Nat): Tr->Nat×Nat×bA
 | .n a l=>match l with
  | [b,x]=>(a,rN b,rX c x)
  | _=>(a,0,.tmp 0)
def aSO(c:Nat): Tr->Nat×bA
 | .n a l=>match l with
  | [x]=>(a,rX c x)
  | _=>(a,.tmp 0)
def rPN: Tr->Nat×Nat
 | .n a l=>match l with
  | [b]=>(a,rN b)
  | _=>(a,0)
def rOp(w:Nat): Tr->Ju
 | .n k l=>match l with
  | []=>.mkMap
  | [a]=>match k with
   | 0=>.mov<|rX w a
   | 1=>.movN<|rX w a
   | 2=>.nilCheck<|rX w a
   | 3=>.lenS<|rX w a
   | 4=>.capS<|rX w a
   | 5=>.lenM<|rX w a
   | 6=>.rangeStr<|rX w a
   | 7=>.nextStr<|rX w a
   | 8=>.claim<|rN a
   | 9=>.alloc<|rL S6 a
   | 10=>.box<|rX w a
   | 11=>.lenC<|rN a
   | _=>.mov<|rX w a
  | [a,b]=>match k with
   | 0=>.allocC (rL S6 a)<|rL rPN b
   | 1=>.build (rL S6 a)<|rL (aVx w) b
   | 2=>.un (rUn<|rN a)<|rX w b
   | 3=>.fieldAddr (rN a)<|rX w b
   | 4=>.lenStr (rN a)<|rX w b
   | 5=>.minmax (rB a)<|rL (rX w) b
   | 6=>.mkFn (rN a)<|rL (rX w) b
   | 7=>.callB (rN a)<|rL (rX w) b
   | 8=>.callS (rN a)<|rL (rX w) b
   | 9=>.callF (rN a)<|rL (rX w) b
   | 17=>.boxC (rX w a)<|rL rPN b
   | 10=>.extract (rX w a)<|rN b
   | 11=>.load false (rN a)<|rX w b
   | 12=>.load true (rN a)<|rX w b
   | 13=>.call false (rN a)<|rL (rX w) b
   | 14=>.call true (rN a)<|rL (rX w) b
   | 15=>.callv false (rX w a)<|rL (rX w) b
   | _=>.callv true (rX w a)<|rL (rX w) b
  | [a,b,c]=>match k with
   | 0=>.pick (rX w a) (rX w b)<|rX w c
   | 1=>.store (rN a) (rX w b)<|rX w c
   | 2=>.ibin (aSR<|rN a) (rX w b)<|rX w c
   | 3=>.conv (rN a) (rN b)<|rX w c
   | 4=>.idxAddr (rN a) (rX w b)<|rX w c
   | 5=>.strIdx (rN a) (rX w b)<|rX w c
   | 6=>.copy (rN a) (rX w b)<|rX w c
   | 7=>.delete (rN a) (rX w b)<|rX w c
   | 8=>.callT (rN a) (rN b)<|rL (rX w) c
   | 9=>.clear (rN a) (rL S6 b)<|rX w c
   | 10=>.loadF (rN a) (rN b)<|rX w c
   | 11=>.field false (rN a) (rN b)<|rX w c
   | _=>.field true (rN a) (rN b)<|rX w c
  | [a,b,c,d]=>match k with
   | 0=>.bin (aSR<|rN a) (rN b) (rX w c)<|rX w d
   | 1=>.idxArr (rN a) (rN b) (rX w c)<|rX w d
   | 2=>.index false (rN a) (rN b) (rX w c)<|rX w d
   | 3=>.index true (rN a) (rN b) (rX w c)<|rX w d
   | 4=>.strSlice (rN a) (rX w b) (rO (rX w) c)<|rO (rX w) d
   | 5=>.mapUpd (rN a) (rX w b) (rX w c)<|rX w d
   | 6=>.append (rN a) (rN b) (rX w c)<|rX w d
   | 7=>.appendP (rN a) (rN b) (rX w c)<|rX w d
   | 8=>.buildSl false (rN a) (rN b) (rL S6 c)<|rL (aSO w) d
   | _=>.buildSl true (rN a) (rN b) (rL S6 c)<|rL (aSO w) d
  | [a,b,c,d,e]=>match k with
   | 0=>.slice (rN a) (rX w b) (rO (rX w) c) (rO (rX w) d)<|rO (rX w) e
   | 1=>.mkSlice (rN a) (rL S6 b) (rN c) (rX w d)<|rX w e
   | 2=>.lookup (rN a) (rX w b) (rX w c) (rX w d)<|rB e
   | _=>.appendZ (rN a) (rN b) (rL S6 c) (rX w d)<|rX w e
  | _=>.mkMap
def aSP(c:Nat): Tr->bS
 | .n _ l=>match l with
  | [a]=>⟨some c,rOp c a,none⟩
  | [a,g]=>⟨some c,rOp c a,some (rT c<|rN g,true)⟩
  | [a,g,_]=>⟨some c,rOp c a,some (rT c<|rN g,false)⟩
  | [a,g,_,b]=>match b with
   | .n k _=>match k with
    | 0=>⟨none,rOp c a,none⟩
    | 1=>⟨none,rOp c a,some (rT c<|rN g,true)⟩
    | _=>⟨none,rOp c a,some (rT c<|rN g,false)⟩
  | _=>⟨none,.mkMap,none⟩
def rD(c d:Nat): Nat:=match Nat.blt d 320 with
 | true=>match Nat.beq d 0 with
  | true=>c
  | false=>d
 | false=>match Nat.beq d 337 with
  | true=>0
  | false=>Nat.sub (Nat.add c d) 320
def aQm: Nat->List Tr->List bS
 | _,[]=>[]
 | c,t::r=>aSP (rD c<|rN t) t::aQm (rD c<|rN t) r
def rC: Nat->Tr->bT
 | 0,_=>.stop
 | f+1,.n k l=>match k with
  | 0=>.region false []<|aQm 0 l
  | 1=>match l with
   | c::r=>.region true (rL rPN c)<|aQm 0 r
   | []=>.region true [] []
  | 2=>match l with
   | [a,b]=>.seq (rC f a)<|rC f b
   | _=>.stop
  | 3=>match l with
   | [c,a,b]=>.cond (.tmp<|rN c) (rC f a)<|rC f b
   | _=>.stop
  | 4=>match l with
   | [i,c]=>.block (rN i)<|rC f c
   | _=>.stop
  | 5=>match l with
   | [i]=>.exit<|rN i
   | _=>.stop
  | 6=>.skip
  | 7=>.ret
  | 8=>match l with
   | [lx,lr,t,li,u,c]=>.mask (rM lx) (rM lr) (rB t)<|.loop (some<|rM li) (rB u)<|rC f c
   | _=>.stop
  | 9=>match l with
   | [li,lx,lr,c]=>.told (rM li) (rM lx) (rM lr)<|rC f c
   | _=>.stop
  | 10=>match l with
   | [c]=>.scope<|rC f c
   | _=>.stop
  | 11=>match l with
   | [t,c]=>.frz (rN t)<|rC f c
   | _=>.stop
  | 12=>match l with
   | [t,d,e,a,b]=>.nilIf (rN t) (rN d) (rN e) (rC f a)<|rC f b
   | _=>.stop
  | 13=>match l with
   | [lx,lr,t,c]=>.mask (rM lx) (rM lr) (rB t)<|rC f c
   | _=>.stop
  | _=>.stop
def rR: Tr->aAh
 | .n k l=>match l with
  | []=>.tmp k
  | [n]=>.cell k (rN n) false
  | n::_=>.cell k (rN n) true
def rF: Tr->cQ
 | .n i l=>match l with
  | [t,r,c]=>⟨i,rN t,rL rR r,rC 1000 c⟩
  | _=>⟨i,0,[],.stop⟩
section
open jQ (den cds ag)
def rSh: Tr->Sh
 | .n k l=>match l with
  | []=>.i
  | [a]=>match k with
   | 0=>.v<|rN a
   | 1=>.w<|rN a
   | 2=>.r<|rN a
   | 3=>.l<|rN a
   | _=>.n<|rN a
  | a::b::_=>match k with
   | 0=>.m (rN a)<|rN b
   | _=>.q (rN a)<|rN b
section
variable [dR]
def rTV: Nat->Tr->TV
 | 0,_=>.undef
 | f+1,.n k l=>match l with
  | []=>match k with
   | 0=>.undef
   | 1=>.lit bO
   | 2=>.emp false
   | 3=>.emp true
   | 4=>.lit<|.bool false
   | _=>.lit<|.bool true
  | a::r=>match k with
   | 0=>.ms (rN a) none
   | 1=>.mp<|rN a
   | 2=>.it<|rN a
   | 3=>match r with
    | b::_=>.ptr (rN a)<|rN b
    | []=>.ptr (rN a) 0
   | 4=>match r with
    | b::_=>.rs (rN a)<|rN b
    | []=>.undef
   | 5=>.fn (rN a)<|r.map<|rTV f
   | 6=>match r with
    | b::_=>.lit<|.int (rK<|rN a)<|rI b
    | []=>.lit<|.int .i64<|rI a
   | _=>.undef
inductive PlD where
 | con (v:TV)
 | p (s:Sh)
 | v (s:Sh)
 | q (j:Nat)
def rPl: Tr->PlD
 | .n k l=>match l with
  | []=>.q k
  | a::_=>match k with
   | 0=>.p<|rSh a
   | 1=>.v<|rSh a
   | _=>.con<|rTV 4 a
def inS: List PlD->List Pl
 | []=>[]
 | d::r=>match d with
  | .con v=>.con v::inS r
  | .p s=>.p s::inS r
  | .v s=>.v s::inS r
  | .q _=>.con .undef::inS r
def aTd: (l:List Sh)->Nat->Option ((s:Sh)×(fT l->s.den))
 | [],_=>none
 | a::r,j=>match j with
  | 0=>some ⟨a,λp=>fT.hd p⟩
  | j+1=>match aTd r j with
   | none=>none
   | some x=>some ⟨x.1,λp=>x.2<|fT.tl p⟩
def aSZ(I:List Sh): List PlD->(ss:List Pl)×(fT I->fT (shs false ss))
 | []=>⟨[],λ_=>()⟩
 | d::r=>match aSZ I r with
  | ⟨ss,g⟩=>match d with
   | .con v=>⟨.con v::ss,g⟩
   | .v s=>⟨.v s::ss,g⟩
   | .p _=>⟨.con .undef::ss,g⟩
   | .q j=>match aTd I j with
    | none=>⟨.con .undef::ss,g⟩
    | some x=>⟨.p x.1::ss,λp=>fT.cs (x.2 p)<|g p⟩
def rOL: Tr->OL
 | .n k l=>match l with
  | []=>match k with
   | 0=>.bx
   | 1=>.it
   | _=>.gone
  | [a]=>match k with
   | 0=>.box<|rN a
   | _=>.lst<|rN a
  | a::b::_=>match k with
   | 0=>.map (rN a)<|rN b
   | _=>.rows (rN a)<|rN b
def rTs: Tr->Nat×Option Nat
 | .n t l=>match l with
  | []=>(t,none)
  | a::_=>(t,some<|rN a)
def Gu(i:Nat): Tr->Tr
 | .n _ l=>aN1 (.n 0 []) i l
def aSQ(fo:List Nat)(ss:List Pl)(z:Tr): Gs:=⟨fo,rL rTs<|Gu 0 z,rL rOL<|Gu 1 z,ss⟩
def zfo(z:Tr): List Nat:=rL rN<|Gu 0 z
def Vs(z:Tr): Gs:=aSQ (zfo z) (inS<|rL rPl<|Gu 2<|Gu 1 z)<|Gu 1 z
def rEx: Tr->cU
 | .n k l=>match l with
  | []=>match k with
   | 0=>.normal
   | _=>.ret
  | _=>.exit k
def aSr(z:Tr): Tr->Oc (Vs z).P
 | .n k l=>match aSZ (shs false (Vs z).ss) (rL rPl<|Gu 2<|.n k l) with
  | ⟨ss,g⟩=>⟨rEx<|Gu 3<|.n k l,aSQ (zfo z) ss<|.n k l,g⟩
def yV(z:Tr): List<|Oc (Vs z).P:=rL (aSr z)<|Gu 2 z
def zkd(z:Tr): List<|Nat×Nat:=rL rPN<|Gu 3 z
def zun(z:Tr): List<|Nat×Nat:=rL rPN<|Gu 4 z
def zkl(z:Tr): List Nat:=rL rN<|Gu 5 z
def zkt(z:Tr): List Nat:=rL rN<|Gu 6 z
def BL(z:Tr)(R:Type): Type:=Nat->(Vs z).P->((Vs z).V->Option R)->EP R (yV z)->(Vs z).V->Option R
def BP(z:Tr)(R:Type): Type:=Nat->(Vs z).P->EP R (yV z)->(Vs z).V->Option R
end
section
variable [dR][aF]{P:Program}{T:List cQ}{N fl:Nat}
def HF{Q:Type}: List (Oc Q)->Type
 | []=>Unit
 | o::r=>(o.lay.V->Option (List Nat))×HF r
def hmA(H:TH)(kl:List Nat){Q:Type}(p:Q): (l:List<|Oc Q)->HF l
 | []=>()
 | o::r=>(λt=>V4 kl 0 H (o.lay.mk' (o.pr p) t).hp,hmA H kl p r)
def hmB(H:TH)(kl:List Nat){Q:Type}(p:Q): (l:List<|Oc Q)->HF l
 | []=>()
 | _::r=>(λ_=>N7 kl 0 H,hmB H kl p r)
def aIE{Q:Type}(fo:List Nat): List (Oc Q)->Bool
 | []=>true
 | o::r=>match decEq o.lay.fo fo with
  | isTrue _=>aIE fo r
  | isFalse _=>false
theorem HMz{a:Gs}{kl:List Nat}{p:a.P}{q:a.V}: ∀{l:List<|Oc a.P},aIE a.fo l=true->hmA (a.mk' p q).hp kl p l=hmB (a.mk' p q).hp kl p l->HMa a kl p q l
 | [],_,_=>trivial
 | o::r,h,g=>by
  simp only[aIE] at h;split at h
  .rename_i e _;have b:(λt=>V4 kl 0 (a.mk' p q).hp (o.lay.mk' (o.pr p) t).hp)=λ_=>N7 kl 0 (a.mk' p q).hp:=congrArg Prod.fst g;exact⟨e,λt=>congrFun b t,HMz h<|congrArg Prod.snd g⟩
  .cases h
def lpx: bT->List Bool
 | .mask lx _ _ _=>lx
 | .told _ lx _ _=>lx
 | _=>[]
def lpr: bT->List Bool
 | .mask _ lr _ _=>lr
 | .told _ _ lr _=>lr
 | _=>[]
def lpt: bT->Bool
 | .mask _ _ t _=>t
 | _=>false
def lpl: bT->List Bool
 | .mask _ _ _ c=>match c with
  | .loop l _ _=>match l with
   | some l=>l
   | none=>[]
  | _=>[]
 | .told li _ _ _=>li
 | _=>[]
def lpu: bT->Bool
 | .mask _ _ _ c=>match c with
  | .loop _ u _=>u
  | _=>false
 | _=>false
def lpb: bT->bT
 | .mask _ _ _ c=>match c with
  | .loop _ _ b=>b
  | _=>.skip
 | .told _ _ _ b=>b
 | _=>.skip
def cs{c c':bT}(x:LC P T N fl c)(h:c=c':=by kernel_rfl): LC P T N fl c':=⟨x.s,h▸x.ok⟩
noncomputable def cB{γ δ:Type->Type}(h:γ=δ)(B:∀R,γ R)(R:Type): δ R:=h▸B R
class ZT where
 gr:Gr
def dz[ZT](n:Nat): Tr:=aTL ZT.gr n
class GlC(P:Program)(T:List cQ) where
 g:Glb P T
def Q9(T:List cQ)(vi:Nat): cQ:=match getF T vi with
 | some F=>F
 | none=>⟨0,0,[],.stop⟩
def oH{Q V X:Type}(B:Nat->Q->(V->Option X)->((X->Option X)×Unit)->V->Option X)(n:Nat)(p:Q)(q:V): Option X:=lpB (λk q=>B n p k (λt=>some t,()) q) n q
def qP{Q V X Y:Type}(B:Nat->Q->(V->Option (X⊕Y))->((X->Option (X⊕Y))×(Y->Option (X⊕Y))×Unit)->V->Option (X⊕Y))(n:Nat)(p:Q)(q:V): Option<|X⊕Y:=lpB (λk q=>B n p k (λt=>some<|.inl t,λt=>some<|.inr t,()) q) n q
def lp3{Q V X Y Z:Type}(B:Nat->Q->(V->Option (X⊕Y⊕Z))->((X->Option (X⊕Y⊕Z))×(Y->Option (X⊕Y⊕Z))×(Z->Option (X⊕Y⊕Z))×Unit)->V->Option (X⊕Y⊕Z))(n:Nat)(p:Q)(q:V): Option<|X⊕Y⊕Z:=lpB (λk q=>B n p k (λt=>some<|.inl t,λt=>some<|.inr<|.inl t,λt=>some<|.inr<|.inr t,()) q) n q
def fR{Q X:Type}(B:Nat->Q->((X->Option X)×Unit)->Unit->Option X)(n:Nat)(p:Q): Option X:=B n p (λt=>some t,()) ()
def pc2{Q X Y:Type}(B:Nat->Q->((X->Option (X⊕Y))×(Y->Option (X⊕Y))×Unit)->Unit->Option (X⊕Y))(n:Nat)(p:Q): Option<|X⊕Y:=B n p (λt=>some<|.inl t,λt=>some<|.inr t,()) ()
def pc3{Q X Y Z:Type}(B:Nat->Q->((X->Option (X⊕Y⊕Z))×(Y->Option (X⊕Y⊕Z))×(Z->Option (X⊕Y⊕Z))×Unit)->Unit->Option (X⊕Y⊕Z))(n:Nat)(p:Q): Option<|X⊕Y⊕Z:=B n p (λt=>some<|.inl t,λt=>some<|.inr<|.inl t,λt=>some<|.inr<|.inr t,()) ()
def qR{Q X:Type}(B:Nat->Q->((X->Option X)×Unit)->Unit->Option X)(n:Nat)(p:Q): Option X:=bnd (prd n) λn=>fR B n p
def BJ{Q X Y:Type}(B:Nat->Q->((X->Option (X⊕Y))×(Y->Option (X⊕Y))×Unit)->Unit->Option (X⊕Y))(n:Nat)(p:Q): Option<|X⊕Y:=bnd (prd n) λn=>pc2 B n p
def in3{Q X Y Z:Type}(B:Nat->Q->((X->Option (X⊕Y⊕Z))×(Y->Option (X⊕Y⊕Z))×(Z->Option (X⊕Y⊕Z))×Unit)->Unit->Option (X⊕Y⊕Z))(n:Nat)(p:Q): Option<|X⊕Y⊕Z:=bnd (prd n) λn=>pc3 B n p
abbrev ln{α:Type}(l:List α): Int:=((l.length:Nat):Int)
abbrev wr(x:Int): Int:=IntKind.i64.wrap x
abbrev cd{α:Type}(p:Prop)[Decidable p](x y:Option α): Option α:=cnd (decide p) x y
def Cur: List Sh->Type->Type
 | [],R=>R
 | a::r,R=>a.den->Cur r R
def unc{R:Type}: (l:List Sh)->Cur l R->fT l->R
 | [],f,_=>f
 | _::r,f,p=>unc r (f<|fT.hd p)<|fT.tl p
noncomputable section
variable [ZT][GlC P T]
def bE{c:bT}(z:Nat)(C:List<|Con P T)(ls:List<|(j:Nat)×List (LC P T N fl<|lpA (lpb c) j))(il:List<|IC P T){γ:Type->Type}(B:∀R,γ R)(hc:c=.mask (lpx c) (lpr c) (lpt c) (.loop (some<|lpl c) (lpu c)<|lpb c):=by kernel_rfl)(hB:γ=BL (dz z):=by kernel_rfl)(h:∀n φ p q k e',WK ((⟨C,zkd<|dz z,ls,zun<|dz z,il⟩:En P T N fl<|lpb c).xe GlC.g) n (lpb c) 0 ((Vs<|dz z).mkG (Vs<|dz z).os.length φ p q) (aMW (Vs<|dz z) (yV<|dz z) (lpl c) (lpu c) (lpx c) (lpr c) (lpt c) (Vs<|dz z).os.length k e')=cB hB B (sY<|yV<|dz z) n p (k ((Vs<|dz z).fo.map φ) p) (SA ((Vs<|dz z).fo.map φ) p e') q:=by intros;kernel_rfl)(hf:aIE (Vs<|dz z).fo (yV<|dz z)=true:=by kernel_rfl)(hm:∀p q,hmA ((Vs<|dz z).mk' p q).hp (zkl<|dz z) p (yV<|dz z)=hmB ((Vs<|dz z).mk' p q).hp (zkl<|dz z) p (yV<|dz z):=by intros;kernel_rfl)(hk:kpL c (zkt<|dz z)=true:=by kernel_rfl): LC P T N fl c:=
 mkL GlC.g hc ⟨C,zkd<|dz z,ls,zun<|dz z,il⟩ (Vs<|dz z) (zkl<|dz z) (zkt<|dz z) (yV<|dz z) (cB hB B<|sY<|yV<|dz z) h (λp q=>HMz hf<|hm p q) hk
def bG{c:bT}(z:Nat)(C:List<|Con P T)(ls:List<|(j:Nat)×List (LC P T N fl<|lpA (lpb c) j))(il:List<|IC P T){γ:Type->Type}(B:∀R,γ R)(hc:c=.told (lpl c) (lpx c) (lpr c) (lpb c):=by kernel_rfl)(hB:γ=BP (dz z):=by kernel_rfl)(h:∀n φ p q e',WK ((⟨C,zkd<|dz z,ls,zun<|dz z,il⟩:En P T N fl<|lpb c).xe GlC.g) n (lpb c) 0 ((Vs<|dz z).mkG (Vs<|dz z).os.length φ p q) (aQx (Vs<|dz z).os.length (yV<|dz z) (lpx c) (lpr c) e')=cB hB B (sY<|yV<|dz z) n p (SA ((Vs<|dz z).fo.map φ) p e') q:=by intros;kernel_rfl)(hf:aIE (Vs<|dz z).fo (yV<|dz z)=true:=by kernel_rfl)(hm:∀p q,hmA ((Vs<|dz z).mk' p q).hp (zkl<|dz z) p (yV<|dz z)=hmB ((Vs<|dz z).mk' p q).hp (zkl<|dz z) p (yV<|dz z):=by intros;kernel_rfl)(hk:kpL c (zkt<|dz z)=true:=by kernel_rfl): LC P T N fl c:=
 mkP GlC.g hc ⟨C,zkd<|dz z,ls,zun<|dz z,il⟩ (Vs<|dz z) (zkl<|dz z) (zkt<|dz z) (yV<|dz z) (cB hB B<|sY<|yV<|dz z) h (λp q=>HMz hf<|hm p q) hk
def bP(vi fl na z:Nat)(C:List<|Con P T)(ls:List<|(j:Nat)×List (LC P T (Q9 T vi).nt fl<|lpA (Q9 T vi).body j))(il:List<|IC P T){γ:Type->Type}(B:∀R,γ R)(hF:getF T vi=some (Q9 T vi):=by kernel_rfl)(hk:Nat.ble na (Q9 T vi).nt=true:=by kernel_rfl)(hB:γ=BP (dz z):=by kernel_rfl)(h:∀n φ p q e',exI ((⟨C,zkd<|dz z,ls,zun<|dz z,il⟩:En P T (Q9 T vi).nt fl (Q9 T vi).body).xe GlC.g) n (Q9 T vi) ((Vs<|dz z).mkG (Vs<|dz z).os.length φ p q) (λS=>Aj (Vs<|dz z).os.length .ret S (yV<|dz z) e')=cB hB B (sY<|yV<|dz z) n p (SA ((Vs<|dz z).fo.map φ) p e') q:=by intros;kernel_rfl)(hf:aIE (Vs<|dz z).fo (yV<|dz z)=true:=by kernel_rfl)(hm:∀p q,hmA ((Vs<|dz z).mk' p q).hp (zkl<|dz z) p (yV<|dz z)=hmB ((Vs<|dz z).mk' p q).hp (zkl<|dz z) p (yV<|dz z):=by intros;kernel_rfl): IC P T:=
 mkI GlC.g vi fl hF ⟨C,zkd<|dz z,ls,zun<|dz z,il⟩ (Vs<|dz z) (zkl<|dz z) (yV<|dz z) (cB hB B<|sY<|yV<|dz z) na hk h λp q=>HMz hf<|hm p q
def zka(z:Tr): List Sh:=rL rSh<|Gu 2 z
def zkr(z:Tr): List Nat:=rL rN<|Gu 3 z
def zkp(z:Tr): Bool:=rB<|Gu 4 z
def zCF(z:Tr): Type:=Nat->Cur (zka z) (Option<|fT<|(zkr z).map .v)
def cF{γ δ:Type}(h:γ=δ)(f:γ): δ:=h▸f
def bJ(vi z:Nat)(C:List<|Con P T)(ls:List<|(j:Nat)×List (LC P T (Q9 T vi).nt 0<|lpA (Q9 T vi).body j))(il:List<|IC P T){γ:Type}(f:γ)(hF:getF T vi=some (Q9 T vi):=by kernel_rfl)(hB:γ=zCF (dz z):=by kernel_rfl)(hk:Nat.ble (zka<|dz z).length (Q9 T vi).nt=true:=by kernel_rfl)(h0:∀p,unc (zka<|dz z) (cF hB f 0) p=none:=by intros;kernel_rfl)(h:∀n p,unc (zka<|dz z) (cF hB f<|n+1) p=exF ((⟨C,rL rPN<|Gu 0<|dz z,ls,rL rPN<|Gu 1<|dz z,il⟩:En P T (Q9 T vi).nt 0 (Q9 T vi).body).xe GlC.g) n (Q9 T vi) ⟨zka<|dz z,zkr<|dz z,zkp<|dz z,λn p=>unc (zka<|dz z) (cF hB f n) p⟩ p:=by intros;kernel_rfl)(hkp:kpB (zkp<|dz z) (zkr<|dz z)=true:=by kernel_rfl): Con P T:=
 mkC GlC.g vi hF (zka<|dz z) (zkr<|dz z) (zkp<|dz z) ⟨C,rL rPN<|Gu 0<|dz z,ls,rL rPN<|Gu 1<|dz z,il⟩ (λn p=>unc (zka<|dz z) (cF hB f n) p) hk h0 h hkp
end
end
end
def Rd(_:Nat)(args:List AV)(H:aU): Option (AV×aU):=match args with
 | []=>none
 | x::r=>match x with
  | .lit v=>match v with
   | .string s=>match r with
    | []=>none
    | y::q=>match y with
     | .lit u=>match u with
      | .string t=>match q with
       | []=>match Nat.blt s.size 4294967281 with
        | true=>some (.lit (.bool (Lib.contains s.data.toList t.data.toList)),H)
        | false=>none
       | _::_=>none
      | _=>none
     | _=>none
   | _=>none
  | _=>none
def aAO(n:Nat)(s t:ByteArray): Option Bool:=match n with
 | 0=>none
 | _+1=>match Nat.blt s.size 4294967281 with
  | true=>some (Lib.contains s.data.toList t.data.toList)
  | false=>none
def clF{α:Type}(n:Nat)(l:List α): Option (List α):=match n with
 | 0=>none
 | _+1=>app [] l
def Pu(s fl:Nat)(args:List AV)(H:aU): Option<|AV×aU:=match args with
 | [x,y,z]=>match x with
  | .ms id tot off len=>match y with
   | .lit v=>match v with
    | .int k n=>match k with
     | .i64=>match z with
      | .ms id2 tot2 off2 len2=>match H[id]? with
       | some o=>match o with
        | .blk s' es=>match H[id2]? with
         | some o2=>match o2 with
          | .blk s2 es2=>match es2 with
           | [row]=>match (Nat.ble fl id&&Nat.beq off 0&&Nat.beq len tot&&Nat.beq tot2 1&&Nat.beq off2 0&&Nat.beq len2 1&&!Nat.beq id id2&&Nat.beq s' s&&Nat.beq s2 s&&Nat.beq es.length tot&&Nat.ble tot 1000000&&decide (0<=n)&&Nat.ble n.toNat tot) with
            | true=>some (.ms id (tot+1) 0<|tot+1,H.set id<|.blk s (es.take n.toNat++row::es.drop n.toNat))
            | false=>none
           | _=>none
          | _=>none
         | none=>none
        | _=>none
       | none=>none
      | _=>none
     | _=>none
    | _=>none
   | _=>none
  | _=>none
 | _=>none
theorem aNT{s fl id i:Nat}{y:AV}{H:aU}{es:List<|List AV}{row:List AV}(b:fl<=id)(g:∃id2,id≠id2/\y=.ms id2 1 0 1/\H[id2]?=some (.blk s [row]))(j:H[id]?=some (.blk s es))(l:i<=es.length)(e:es.length<=1000000):
 Pu s fl [.ms id es.length 0 es.length,.lit<|.int .i64 (i:Nat),y] H=some (.ms id (es.length+1) 0<|es.length+1,H.set id<|.blk s (es.take i++row::es.drop i)):=by
 obtain⟨id2,a,rfl,m⟩:=g;have n:Nat.ble fl id=true:=Yx b;have f:Nat.ble es.length 1000000=true:=Yx e;have c:decide ((0:Int)<=(i:Nat))=true:=Yj (by omega);have k:Nat.ble i es.length=true:=Yx l;have d:Nat.beq id id2=false:=by
  cases h:Nat.beq id id2 with
  | true=>exact (a<|Zc h).elim
  | false=>rfl
 simp only[Pu,j,m,n,Y5,f,c,YA,k,d,X3,Xr]
theorem I3{s fl:Nat}{a:List AV}{H H':aU}{r:AV}(h:Pu s fl a H=some (r,H')):
 ∃id id2 i es row,a=[.ms id es.length 0 es.length,.lit<|.int .i64 (i:Nat),.ms id2 1 0 1]/\fl<=id/\id≠id2/\H[id]?=some (.blk s es)/\H[id2]?=some (.blk s [row])/\i<=es.length/\es.length<=1000000 /\
  r=.ms id (es.length+1) 0 (es.length+1)/\H'=H.set id (.blk s (es.take i++row::es.drop i)):=by
 unfold Pu at h;repeat' split at h;all_goals first
  | (cases h;done)
  | skip
 rename_i id tot off len _ _ n _ _ id2 o k l _ _ s' es d _ _ G _ row j _ m;cases h;simp only[Zd,YG,Z4] at m;let⟨⟨⟨⟨⟨⟨⟨⟨⟨⟨⟨⟨q,u⟩,x⟩,C⟩,v⟩,F⟩,w⟩,E⟩,p⟩,c⟩,g⟩,e⟩,b⟩:=m;have e2:=Zc u;have y:=Zc x;have t:=Zc C;have z:=Zc v;have D:=Zc F;have A:=Zc E;have B:=Zc p;have f:=Zc c;subst e2 y t z D A B f;exact⟨id,id2,n.toNat,es,row,by rw[X7 e],Zj q,YF w,d,j,Zj b,Zj g,rfl,rfl⟩
section
def aAD: List (Value×AV)->Option (List<|Int×Int)
 | []=>some []
 | e::r=>match e.1 with
  | .int k x=>match k with
   | .i64=>match e.2 with
    | .lit v=>match v with
     | .int k' y=>match k' with
      | .i64=>match aAD r with
       | some l=>some ((x,y)::l)
       | none=>none
      | _=>none
     | _=>none
    | _=>none
   | _=>none
  | _=>none
def Hu: AV->Option (List<|Int×Int)
 | .rmp ents=>aAD ents
 | .lit v=>match v with
  | .map a=>match a with
   | none=>some []
   | some _=>none
  | _=>none
 | _=>none
def sdH(cf:CF)(hv:Nat)(H:aU)(a:AV): Option<|List<|Int×Int:=match cG H a with
 | .agg cs=>match cs with
  | [x,y,z]=>match cf 0 hv [.agg [x,y,z]] [] with
   | some p=>Hu<|fF p.2 0 p.1
   | none=>none
  | _=>none
 | _=>none
def sdG(m:List<|Int×Int)(k:Int): Int:=(bQ m k).getD 0
def sdB(old:List<|Int×Int)(m:Int): List (Int×Int)->Bool
 | []=>false
 | e::r=>match !decide (e.1=m)&&!decide (sdG old e.1=e.2) with
  | true=>true
  | false=>sdB old m r
def sdA(cf:CF)(hv:Nat)(args:List AV)(H:aU): Option<|AV×aU:=match args with
 | [a,b,c]=>match c with
  | .lit v=>match v with
   | .int k m=>match k with
    | .i64=>match sdH cf hv H a with
     | some old=>match sdH cf hv H b with
      | some new=>some (.lit<|.bool<|sdB old m new,H)
      | none=>none
     | none=>none
    | _=>none
   | _=>none
  | _=>none
 | _=>none
variable {H:aU}{a:AV}{cf:CF}{l:List<|Int×Int}
theorem aG2{b:Nat}(h:sdH cf b H a=some l): ∃x y z p,cG H a=.agg [x,y,z]/\cf 0 b [.agg [x,y,z]] []=some p/\Hu (fF p.2 0 p.1)=some l:=by
 unfold sdH at h;repeat' split at h;all_goals first | (cases h;done) | skip
 exact⟨_,_,_,_,by assumption,by assumption,h⟩
theorem aDk{b:CF}{c:Nat}(f:Le cf b)(h:sdH cf c H a=some l): sdH b c H a=some l:=by
 let⟨x,y,z,p,g,d,e⟩:=aG2 h;unfold sdH;rw[g];simp only[f _ _ _ _ _ d,e]
theorem w8{e:Nat}{c:List AV}{H':aU}{r:AV}(h:sdA cf e c H=some (r,H')): ∃a b m old d,c=[a,b,.lit<|.int .i64 m]/\sdH cf e H a=some old/\sdH cf e H b=some d/\r=.lit (.bool<|sdB old m d)/\H'=H:=by
 unfold sdA at h;repeat' split at h;all_goals first | (cases h;done) | skip
 cases h;exact⟨_,_,_,_,_,rfl,by assumption,by assumption,rfl,rfl⟩
def aBn(hv:Nat): aAg where
 run:=λcf _ args H=>sdA cf hv args H
 mono:=λcf cf' hl fl args H x h=>by
  obtain⟨a,b,m,old,new,rfl,h1,h2,h3,h4⟩:=w8 (r:=x.1) (H':=x.2) h
  show sdA cf' hv _ H=some x
  simp only[sdA,aDk hl h1,aDk hl h2]
  rw[<-h3]
  show some (x.1,H)=some x
  rw[<-h4]
end
section
open Go.Proofs Go.RowKit Go.Shelf Go.Sort
def cI(z:Int): List AV:=[.lit<|.int .i64 z]
def aFT: List (List AV)->Option (List Int)
 | []=>some []
 | e::r=>match e with
  | [.lit<|.int .i64 a]=>match aFT r with
   | some l=>some (a::l)
   | none=>none
  | _=>none
theorem aEy: ∀(es:List<|List AV) (l:List Int),aFT es=some l->es=l.map cI
 | [],l,h=>by simp only[aFT,Za] at h;subst h;rfl
 | e::r,l,h=>by
  unfold aFT at h;split at h
  .split at h
   .rename_i a b;cases h;rw[aEy r a b];rfl
   .cases h
  .cases h
theorem aEz: ∀l:List Int,aFT (l.map cI)=some l
 | []=>rfl
 | x::r=>by simp only[ZE,cI,aFT];rw[aEz r]
def aI6(x:Int): List Int->List Int
 | []=>[x]
 | y::r=>match decide (x<=y) with
  | true=>x::y::r
  | false=>y::aI6 x r
def Db: List Int->List Int
 | []=>[]
 | x::r=>aI6 x<|Db r
theorem aDV(a:Int)(e:List Int): ∀d:List Int,(∀b∈d,decide (a<=b)=false)->aI6 a (d++e)=d++aI6 a e
 | [],_=>rfl
 | b::r,h=>by
  simp only[Vf,aI6,h b<|ZM ..];rw[aDV a e r λc f=>h c<|ZQ _ f]
theorem w6: ∀l:List Int,(l.mergeSort λx y=>decide<|x<=y)=Db l
 | []=>List.mergeSort_nil
 | a::l=>by
  have d:∀a b c:Int,decide (a<=b)=true->decide (b<=c)=true->decide (a<=c)=true:=by intro a b c i h;simp only[Z4] at *;omega
  have f:∀a b:Int,(decide (a<=b)||decide (b<=a))=true:=by intro a b;simp only[YU,Z4];omega
  let⟨j,e,i,h,k⟩:=List.mergeSort_cons (le:=λx y:Int=>decide<|x<=y) d f a l;have g:=List.pairwise_mergeSort (le:=λx y:Int=>decide<|x<=y) d f (a::l);rw[i] at g |-;have n:=w6 l;simp only[Db];rw[<-n,h,aDV a e j λb m=>by simpa using k b m];cases e with
  | nil=>rfl
  | cons b r=>
   have:decide (a<=b)=true:=(List.pairwise_cons.1 (List.pairwise_append.1 g).2.1).1 b<|ZM ..;simp only[aI6,this]
theorem KK(l:List Int): (Db l).length=l.length:=by rw[<-w6];exact List.length_mergeSort l
theorem aId(l:List Int): (Db l).Perm l:=by rw[<-w6];exact List.mergeSort_perm l _
def Hb(fl:Nat)(args:List AV)(H:aU): Option<|AV×aU:=match args with
 | []=>none
 | x::r=>match r with
  | _::_=>none
  | []=>match wL x with
   | true=>some (.tup [],H)
   | false=>match x with
    | .ms id tot off len=>match Nat.ble fl id with
     | false=>none
     | true=>match H[id]? with
      | none=>none
      | some o=>match o with
       | .blk s es=>match (Nat.beq s 1&&Nat.beq off 0&&Nat.beq len tot&&Nat.beq es.length tot&&Nat.ble tot 1000000) with
        | false=>none
        | true=>match aFT es with
         | none=>none
         | some l=>some (.tup [],H.set id<|.blk 1<|(Db l).map cI)
       | _=>none
    | _=>none
variable {H H':aU}{P:Program}{T:List cQ}{fl:Nat}{r:AV}
theorem PN{a:List AV}(h:Hb fl a H=some (r,H')):
 (∃x,a=[x]/\wL x=true/\r=.tup []/\H'=H) \/
 ∃id l,a=[.ms id l.length 0 l.length]/\l≠[]/\fl<=id/\H[id]?=some (.blk 1<|l.map cI)/\l.length<=1000000/\r=.tup []/\H'=H.set id (.blk 1<|(Db l).map cI):=by
 unfold Hb at h;repeat' split at h;all_goals first
  | (cases h;done)
  | skip
 .rename_i he;cases h;exact .inl ⟨_,rfl,he,rfl,rfl⟩
 .rename_i e _ id tot off len _ c _ _ s es b _ f _ l o;cases h;simp only[Zd] at f;let⟨⟨⟨⟨i,k⟩,p⟩,j⟩,n⟩:=f;have g:=Zc i;have e2:=Zc k;have t:=Zc p;have d:=Zc j;have u:=Zj n;have m:=aEy _ _ o;subst g e2 t m;rw[ZO] at d;subst d;refine .inr ⟨_,_,rfl,?_,Zj c,b,u,rfl,rfl⟩;intro q;subst q;exact absurd ‹wL _=false› (by simp[wL])
def P3(P:Program)(f:Nat): Prop:=∀(blk off cap:Nat) (zs:List Int) (w:World),Holds (Value.int .i64) w blk off zs.toArray->blk<w.heap.size->zs.length<4611686018427387904->
 Calls P f #[.slice (some ⟨blk,off,none⟩) zs.length cap] w λe w'=>
  e=.returned (.tuple #[])/\∃n os,w'=grow (putRow (Value.int .i64) (Sort.ahead w n) blk off (zs.mergeSort λx y=>decide<|x<=y).toArray) os
def c9(P:Program)(f:Nat): Prop:=∀(p:Option Addr) (cap:Nat) (w:World),Calls P f #[.slice p 0 cap] w λe w'=>e=.returned (.tuple #[])/\w'=w
section
theorem aJA[aF]{f:Nat}(hL:P3 P f)(hN:c9 P f){G:List AV}{c:dF}{vs:Array Value}(c2:Hb fl G c.H=some (r,H'))(W:bY (aK T) c)(g:nF (aK T) c G vs):
 Calls P f vs c.w λe w'=>∃v c',e=.returned v/\c'.w=w'/\c'.H=H'/\c'.X=c.X/\bW fl c c'/\bY (aK T) c'/\RV (aK T) c' r v:=by
 rcases PN c2 with⟨x,rfl,he,rfl,rfl⟩ | ⟨id,l,rfl,d1,d3,B,e1,rfl,rfl⟩
 .let⟨u0,k0,r0⟩:=g.2 0 _ rfl;obtain⟨p,cap,rfl⟩:=aEs he r0;have R:vs=#[.slice p 0 cap]:=by
   apply XQ
   .exact g.1
   .intro i L N;have J:i<1:=by simpa using N
    match i,J with
    | 0,_=>exact ZR<|(Z6 L).symm.trans<|by simpa using k0
  subst R;refine (hN p cap c.w).mono λe w' ⟨he,U⟩=>?_;subst U;exact⟨_,c,he,rfl,rfl,rfl,bW.refl fl c,W,.tup [] #[] (λ_=>bM) rfl (λi x E=>by simp at E) λi x E=>by simp at E⟩
 let⟨u0,k0,r0⟩:=g.2 0 _ rfl;obtain⟨a,cap,s',n,rfl,g1,g2,g3,g4⟩:=r0.ms_inv;have c3:s'=1/\n=l.length:=by
  simp only[shp,B] at g1;simpa [Wy] using g1
 obtain⟨rfl,rfl⟩:=c3;have e2:0<l.length:=WW.2 d1;let⟨f2,d2⟩:=g4 rfl;rcases d2 with⟨_,h0,_⟩ | ⟨b,cs,ty,a',hb,s,e3,rfl,b2⟩
 .omega
 have b1:cap≠0:=by omega
 obtain rfl:=b2 b1;have R:vs=#[.slice (some ⟨b,0,none⟩) l.length cap]:=by
  apply XQ
  .exact g.1
  .intro i L N;have J:i<1:=by simpa using N
   match i,J with
   | 0,_=>exact ZR<|(Z6 L).symm.trans<|by simpa using k0
 subst R;let⟨f3,f1,a2,Z,M⟩:=W.blk id 1 _ b B hb;rw[s] at a2;cases a2;have Y:b<c.w.heap.size:=W.lt hb;have O:l.length<=cs.size:=by simpa using Z
 have a3:∀(i:Nat) (z:Int),l[i]?=some z->cs[i]?=some (Value.int .i64 z):=by
  intro i z S;let⟨v,h1,_,h3⟩:=M i 0 (AV.lit<|Value.int .i64 z) (by simp[bK,S,cI]);rw[h3.lit_inv] at h1;simpa using h1
 have hH:Holds (Value.int .i64) c.w b 0 l.toArray:=by
  intro t ht;have b3:t<l.length:=by simpa using ht
  refine⟨?_,by simp[World.frozen?,s]⟩;have:=a3 t l[t]<|Zb b3;simp only[World.cell?,s,Z0];simpa [b3] using this
 refine (hL b 0 cap l c.w hH Y<|by omega).mono λe w' ⟨he,q,os,U⟩=>?_;rw[w6 l] at U;generalize hd:Db l=d at U;have K:d.length=l.length:=by rw[<-hd];exact KK l
 have a1:(putRow (Value.int .i64) (Sort.ahead c.w q) b 0 d.toArray).heap[b]?=some (.cells (putCells (Value.int .i64) 0 d.toArray cs) ty (0,0)):=by
  unfold putRow mapBlock;simp[YH,Sort.ahead,s,onCells]
 have o:∀k,k≠b->(putRow (Value.int .i64) (Sort.ahead c.w q) b 0 d.toArray).heap[k]?=c.w.heap[k]?:=by
  intro k hk;unfold putRow mapBlock;rw[YH,ZF<|Ne.symm hk];rfl
 have A:(putRow (Value.int .i64) (Sort.ahead c.w q) b 0 d.toArray).heap.size=c.w.heap.size:=by
  unfold putRow mapBlock;simp[Sort.ahead]
 have u:(putCells (Value.int .i64) 0 d.toArray cs).size=cs.size:=by simp[putCells]
 have C:∀i j x,bK (d.map cI) i j=some x->∃v,(putCells (Value.int .i64) 0 d.toArray cs)[i*1+j]?=some v/\bC v=true/\RV (aK T) c x v:=by
  intro i j x E;let⟨e,V,y⟩:=cZ E;rw[Zk,Zq] at V;obtain⟨z,S,rfl⟩:=V;have hi:i<d.length:=by
   rcases ZI i d.length with h | h
   .exact h
   .rw[Zy h] at S;cases S
  match j,y with
  | 0,y=>
   cases y;refine⟨Value.int .i64 z,?_,rfl,RV.lit _⟩;unfold putCells;rw[WI,Nat.mul_one,Xm,Z6<|by omega];simp only[Yz,ZG,We,Z0,WA];rw[Zu<|by simpa using hi];have:d.toArray[i]! =z:=by
    rw[Zb hi] at S;simp[hi];exact ZR S
   rw[this]
  | j+1,y=>simp[cI] at y
 have D:∀e∈d.map cI,e.length=1:=by
  intro e he;obtain⟨z,_,rfl⟩:=Yh.1 he;rfl
 have I:=oA (w':=putRow (Value.int .i64) (Sort.ahead c.w q) b 0 d.toArray) (es':=d.map cI) W d3 B hb s (by simp[K]) u a1 o A rfl rfl rfl<|ZY _ _;have m:=yF (w':=putRow (Value.int .i64) (Sort.ahead c.w q) b 0 d.toArray) (es':=d.map cI) W B hb s (by simp[K]) u a1 o A rfl rfl rfl D (by rw[u];simp[K];exact O) C<|ZY _ _;generalize Q:(⟨putRow (Value.int .i64) (Sort.ahead c.w q) b 0 d.toArray,c.X,c.β,c.H.set id<|.blk 1<|d.map cI⟩:dF)=c1 at I m;have F:=aJ5 (c:=c1) (q:=0) (os:=os);refine⟨.tuple #[],pW c1 ⟨grow (Sort.ahead c1.w 0) os,(eP c1).X,λ_=>none,[]⟩,he,?_,?_,?_,I.trans<|yU m F,Jo m F,?_⟩
 .rw[U,<-Q];rfl
 .rw[<-Q];rfl
 .rw[<-Q];rfl
 .exact .tup [] #[] (λ_=>bM) rfl (λi x E=>by simp at E) λi x E=>by simp at E
end
theorem aMK{id:Nat}{l:List Int}(d:fl<=id)(a:H[id]?=some (.blk 1<|l.map cI))(b:l.length<=1000000):
 Hb fl [.ms id l.length 0 l.length] H=some (.tup [],H.set id<|.blk 1<|(Db l).map cI):=by
 cases f:l with
 | nil=>
  subst f;have e:wL (.ms id (List.length ([]:List Int)) 0<|List.length ([]:List Int))=true:=rfl;simp only[Hb,e,Za,Zi,We];apply Ym;intro i;by_cases g:i=id
  .subst g;rw[a,Z3 (by
    rcases ZI i H.length with h | h
    .exact h
    .rw[Zy h] at a;cases a)]
   rw[show Db []=[] from rfl]
  .rw[Zv<|Ne.symm g]
 | cons x r=>
  rw[f] at a b;have j:Nat.ble fl id=true:=Yx d;have e2:Nat.beq (x::r).length (x::r).length=true:=Y5 _;have k:Nat.beq ((x::r).map cI).length (x::r).length=true:=by rw[ZO];exact Y5 _
  have n:Nat.ble (x::r).length 1000000=true:=Yx b;have e:wL (.ms id (x::r).length 0 (x::r).length)=false:=rfl;have o:Nat.beq 1 1=true:=rfl;have m:Nat.beq 0 0=true:=rfl;simp only[Hb,j,e2,k,n,e,o,m,a,aEz,Xr]
end
end Go.Proofs.YtmlgedgcbfchjaaGreatDoor.Av
