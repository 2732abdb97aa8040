/- A part of the proof of a law. -/
import Derived.Test.YtmcgghedgfkjiaaGreatDoorP3
import Derived.WalkKit
import Derived.ProofKit
import Derived.OpenShut
import Derived.SizedLaws
import Derived.Handed
import Derived.KernelRfl
import Derived.Shelf.SlSortCmp.InsertionK
import Derived.Sort.AssemblyPlain
set_option maxRecDepth 100000
set_option maxHeartbeats 4000000
set_option linter.all false
namespace Go.Proofs.YtmcgghedgfkjiaaGreatDoor.Av
open Go
section
open Go.RowKit
def mxL: Nat:=140737488355328
def rG(P:Program): Nat->TypeId->List AV->Prop
 | 0,_,_=>False
 | n+1,t,xs=>
  match P.underlying t with
  | some .bool=>∃b,xs=[.lit<|.bool b]
  | some (.int k)=>∃z,(Lit.int k z).wf=true/\xs=[.lit<|.int k z]
  | some .string=>∃s:ByteArray,s.size<=maxLen/\xs=[.lit<|.string s]
  | some (.slice e)=>∃es:List<|List AV,xs=[.sl false es]/\es.length<=mxL/\∀x∈es,rG P n e x
  | some (.struct fs)=>∃ps:List<|List AV,xs=ps.flatten/\ps.length=fs.size/\∀(i:Nat) (f:Field) (p:List AV),fs[i]?=some f->ps[i]?=some p->rG P n f.type p
  | some (.array m e)=>∃ps:List<|List AV,xs=ps.flatten/\ps.length=m/\∀p∈ps,rG P n e p
  | _=>False
def L1(P:Program): Nat->List Field->Nat->Bool
 | o,[],tot=>o==tot
 | o,f::r,tot=>f.offset==o&&L1 P (o+P.cellsOf f.type) r tot
def okT(P:Program): Nat->TypeId->Bool
 | 0,_=>false
 | n+1,t=>
  match P.underlying t with
  | some .bool=>true
  | some (.int _)=>true
  | some .string=>true
  | some (.slice e)=>decide (0<P.cellsOf e)&&(decide (0<P.bytesOf e)&&okT P n e)
  | some (.struct fs)=>L1 P 0 fs.toList (P.cellsOf t)&&fs.toList.all λf=>okT P n f.type
  | some (.array m e)=>P.cellsOf t==m*P.cellsOf e&&okT P n e
  | _=>false
def CR(w:World)(xs:List AV)(cs:List Value): Prop:=
 xs.length=cs.length/\∀(j:Nat) (x:AV),xs[j]?=some x->∃v,cs[j]?=some v/\bF v=true/\RP w (λ_=>True) x v
variable {FT:Nat->Option Nat}{H:Type}{P:Program}{W:World}{a:Addr}{base:Nat}{enc:TypeId×Value->H}{held:Bool}{n:Nat}{spare:Nat->Bool}{v:Value}{w:World}{α:Type}
theorem CR.nil: CR w [] []:=⟨rfl,λj x h=>by simp at h⟩
theorem CR.one{x:AV}(b:bF v=true)(h:RP w (λ_=>True) x v): CR w [x] [v]:=
 ⟨rfl,λj y a=>by
  cases j with
  | zero=>simp only[Zt,Za] at a;subst a;exact⟨v,by simp,b,h⟩
  | succ j=>simp at a⟩
theorem CR.append{c ys:List AV}{cs ds:List Value}(h:CR w c cs)(k:CR w ys ds): CR w (c++ys)<|cs++ds:=
 ⟨by simp[h.1,k.1],λj x b=>by
  rw[Yk] at b |-;rw[h.1] at b;split at b
  .rename_i a;rw[Zu a];exact h.2 j x b
  .rename_i a;rw[ZF a];exact k.2 _ x b⟩
theorem CR.flatten[aF]: ∀{b:List<|List AV} {a:List<|List Value},b.length=a.length->(∀(i:Nat) p q,b[i]?=some p->a[i]?=some q->CR w p q)->CR w b.flatten a.flatten
 | [],[],_,_=>CR.nil
 | [],_::_,h,_=>by simp at h
 | _::_,[],h,_=>by simp at h
 | p::b,q::a,h,k=>by
  simp only[Yt];exact (k 0 p q rfl rfl).append<|CR.flatten (by simpa using h) λi p' q' d c=>k (i+1) p' q' (by simpa using d)<|by simpa using c
theorem Dl[aF]{Q:Nat->α->Prop}: ∀n,(∀i,i<n->∃x,Q i x)->∃l:List α,l.length=n/\∀i x,l[i]?=some x->Q i x
 | 0,_=>⟨[],rfl,λi x h=>by simp at h⟩
 | n+1,h=>by
  let⟨l,b,d⟩:=Dl n λi e=>h i (by omega);let⟨x,c⟩:=h n (by omega);refine⟨l++[x],by simp[b],λi y a=>?_⟩;rw[Yk] at a;split at a
  .exact d i y a
  .have:i=n:=by
    rcases ZI (i-l.length) 1 with h | h
    .omega
    .rw[Zy<|by simpa using h] at a;cases a
   subst this;rw[b] at a;simp at a;subst a;exact c
theorem TY[aF](cs:List α){tot:Nat}(c:cs.length=tot): ∀(a:List Field) (o:Nat),L1 P o a tot=true->
 cs.drop o=(a.map λf=>(cs.drop f.offset).take<|P.cellsOf f.type).flatten
 | [],o,h=>by
  simp only[L1,ZC] at h;simp only[Yn,Xd,WS];omega
 | f::r,o,h=>by
  simp only[L1,Zd,ZC] at h;let⟨d,b⟩:=h;have e:=TY cs c r _ b;simp only[ZE,Yt,<-e,d];rw[<-XD,YT]
theorem GZ[aF](s:Nat): ∀(m o:Nat) (cs:List α),cs.length=o+m*s->
 cs.drop o=((List.range m).map λi=>(cs.drop<|o+i*s).take s).flatten
 | 0,o,cs,h=>by simp[WS];omega
 | m+1,o,cs,h=>by
  have a:=GZ s m (o+s) cs (by rw[h,Xx];omega);rw[List.range_succ_eq_map];simp only[ZE,Ya,Yt];have e:((List.range m).map<|(λi=>(cs.drop<|o+i*s).take s)∘Nat.succ)=(List.range m).map λi=>(cs.drop<|o+s+i*s).take s:=by
   refine ZS λi _=>?_;simp only[Function.comp,Xx];congr 2;omega
  rw[e,<-a,YQ,Xm,<-XD,YT]
section
theorem cells?_get{l:List Value}(h:w.cells? base a n=some l): l.length=n/\∀i,i<n->w.cell? (a.add i)=l[i]?:=by
 unfold World.cells? at h;split at h
 .exact⟨by simpa using mapM_some_length h,λi c=>mapM_some_get h i i<|by simp[c]⟩
 .cases h
theorem cell?_inv(h:w.cell? a=some v): ∃c T b,w.heap[a.block]?=some (.cells c T b)/\a.spot=none/\c[a.off]?=some v:=by
 unfold World.cell? at h;split at h
 .rename_i c T b d;split at h
  .cases h
  .rename_i e;exact⟨c,T,b,d,by simpa using e,h⟩
 .cases h
theorem aIM(a:Addr)(n:Nat): (a.add n).off=a.off+n:=by
 unfold Addr.add;split
 .rename_i h;simp[h]
 .rfl
theorem aKx{e:TypeId}: ∀{ds:List<|DataW H} {i:Nat} {d:DataW H},ds[i]?=some d->∀n∈d.weights P e,n∈DataW.weightsAll P e ds
 | [],_,_,h,_,_=>by simp at h
 | b::ds,0,d,h,n,a=>by
  simp only[Zt,Za] at h;subst h;simp only[DataW.weightsAll,ZD];exact .inl a
 | b::ds,i+1,d,h,n,a=>by
  simp only[DataW.weightsAll,ZD];exact .inr<|aKx (by simpa using h) n a
theorem Ju[aF]: ∀(n:Nat) (t:TypeId) (cs:List Value) (x:DataW H×List MemPlace) (F:Nat),okT P n t=true->DataW.trod enc P w base spare held F t cs=some x->(∀n∈x.1.weights P t,n<=reachBytes)->∃xs,rG P n t xs/\CR w xs cs
 | 0,t,cs,x,F,A,_,_=>by simp[okT] at A
 | n+1,t,cs,x,F,A,h,O=>by
  unfold okT at A;unfold rG;split at A
  .rename_i C;obtain⟨b,rfl,_⟩:=DataW.trod_bool C h;exact⟨_,⟨b,rfl⟩,CR.one rfl<|.lit _⟩
  .rename_i k C;obtain⟨z,rfl,_,hw⟩:=X2 C h;exact⟨_,⟨z,hw,rfl⟩,CR.one rfl<|.lit _⟩
  .rename_i C;obtain⟨z,rfl,_,hw⟩:=DataW.trod_string C h;exact⟨_,⟨z,hw,rfl⟩,CR.one rfl<|.lit _⟩
  .rename_i e C;simp only[Zd,Z4] at A;let⟨c3,a3,A⟩:=A;rcases DataW.trod_slice C h with⟨rfl,_⟩ | ⟨a,len,cap,g,rest,m,_,rfl,rfl,_,e3,d3,e1,G,_,_⟩
   .exact⟨_,⟨[],rfl,by simp,λx D=>by cases D⟩,CR.one rfl<|.nil _ _ _<|by simp⟩
   .have u:∀i,i<len->∃y:List AV,rG P n e y/\∃l,w.cells? base (a.add<|i*P.cellsOf e) (P.cellsOf e)=some l/\CR w y l:=by
     intro i s;have J:=G i s;have h2:g[i]?=some g[i]:=Zb (by omega);rw[h2] at J;cases hc:w.cells? base (a.add<|i*P.cellsOf e) (P.cellsOf e) with
     | none=>rw[hc] at J;simp at J
     | some l=>
      rw[hc] at J;let⟨y,E,R⟩:=Ju n e l _ m A (by simpa using J) λz hz=>O z<|by
       simp only[DataW.weights,C,ZN,ZD];exact .inr<|.inl<|aKx (ds:=g.map (·.1)) (i:=i) (by rw[Zk,h2];rfl) z hz
      exact⟨y,E,l,rfl,R⟩
    let⟨es,d,Z⟩:=Dl len u;have b1:es.length<=mxL:=by
     have:=O ((g.length+rest.length)*P.bytesOf e) (by simp only[DataW.weights,C,ZN,ZO];exact .inl trivial);have h3:=Nat.le_mul_of_pos_right (g.length+rest.length) a3;have h4:=reachBytes_lt;show _<=140737488355328;omega
    refine⟨[.sl false es],⟨es,rfl,b1,λy hy=>?_⟩,CR.one rfl ?_⟩
    .obtain⟨i,s,rfl⟩:=Xs.1 hy;exact (Z i _<|Zb s).1
    .by_cases h0:es=[]
     .subst h0;simp at d;subst d;exact .nil _ _ _<|by simp
     .have e2:0<len:=by
       rcases XB len with h | h
       .rw[h] at d;exact absurd (ZK.1 d) h0
       .exact h
      have L:∀i j x,bM es i j=some x->∃v,w.cell? ((a.add<|i*P.cellsOf e).add j)=some v/\bF v=true/\RP w (λ_=>True) x v/\j<P.cellsOf e:=by
       intro i j x D;unfold bM at D;cases s:es[i]? with
       | none=>rw[s] at D;cases D
       | some y=>
        rw[s] at D;let⟨_,l,E,R⟩:=Z i y s;let⟨v,B,W,N⟩:=R.2 j x D;let⟨c1,c2⟩:=cells?_get E;have hj:j<P.cellsOf e:=by
         rcases ZI j (P.cellsOf e) with h | h
         .exact h
         .rw[Zy<|by omega] at B;cases B
        exact⟨v,(c2 j hj).trans B,W,N,hj⟩
      have M:∀y∈es,y.length=P.cellsOf e:=by
       intro y hy;obtain⟨i,s,rfl⟩:=Xs.1 hy;let⟨_,l,E,R⟩:=Z i _<|Zb s;rw[R.1];exact (cells?_get E).1
      have a1:∃x,bM es 0 0=some x:=by
       cases es with
       | nil=>exact absurd rfl h0
       | cons y r=>
        have:=M y (by simp);exact⟨y[0],by simp[bM]⟩
      let⟨x0,a1⟩:=a1;let⟨v0,B,_,_,_⟩:=L 0 0 x0 a1;let⟨c,T,fz,hb,Y,_⟩:=cell?_inv B;simp only[YQ,Addr.add,Zz] at hb Y;let⟨ab,ao,d2⟩:=a;simp only at hb Y;subst Y;have X:∀i j x,bM es i j=some x->∃v,c[ao+(i*P.cellsOf e+j)]?=some v/\bF v=true/\RP w (λ_=>True) x v:=by
       intro i j x D;let⟨v,B,W,N,_⟩:=L i j x D;let⟨c',T',f1,E,_,k3⟩:=cell?_inv B;rw[ChangeShapes.block_add,ChangeShapes.block_add] at E;rw[hb] at E;cases E;rw[aIM,aIM,Yu] at k3;exact⟨v,k3,W,N⟩
      have hr:RP w (λ_=>True) (.sl false es)<|.slice (some ⟨ab,ao,none⟩) es.length cap:=by
       refine .sl false es ab ao cap c T fz (P.cellsOf e) (λi j=>(c[ao+(i*P.cellsOf e+j)]?).getD undef) h0 trivial hb M (by omega) (by simp) ?_ ?_
       .intro i j x D;let⟨v,B,W,N⟩:=X i j x D;exact⟨by rw[B];rfl,by rw[B];exact W⟩
       .intro i j x D;let⟨v,B,W,N⟩:=X i j x D;show RP w _ x<|(c[ao+(i*P.cellsOf e+j)]?).getD undef;rw[B];exact N
      rw[d] at hr;exact hr
  .rename_i U C;simp only[Zd,Yl] at A;let⟨K,A⟩:=A;obtain⟨ys,m,_,rfl,hl,b3,G⟩:=W8 C h;have u:∀i,i<U.size->∃y:List AV,∃f,U[i]?=some f/\rG P n f.type y/\CR w y ((cs.drop f.offset).take<|P.cellsOf f.type):=by
    intro i s;have hf:U[i]?=some U[i]:=by simp[s]
    have J:=G i _ hf;rw[Zb<|by omega] at J;let⟨y,E,R⟩:=Ju n _ _ _ m (A U[i]<|by simp) J λz hz=>O z<|by
     simp only[DataW.weights,C];exact DataW.weights_mem_each (j:=i) (by rw[Zk];simp[s]) (by rw[Zk,Zb<|by omega];rfl) z hz
    exact⟨y,_,hf,E,R⟩
   let⟨ps,d,I⟩:=Dl U.size u;refine⟨ps.flatten,⟨ps,rfl,d,λi f p hf S=>?_⟩,?_⟩
   .let⟨f',B,W,_⟩:=I i p S;rw[hf] at B;cases B;exact W
   .have e:=TY (P:=P) cs hl U.toList 0 K;rw[YD] at e;rw[e];refine CR.flatten (by simp[d]) λi p q S Q=>?_;let⟨f,B,_,N⟩:=I i p S;rw[Zk] at Q;have:U.toList[i]?=some f:=by simpa using B
    rw[this] at Q;simp only[Yz,Za] at Q;subst Q;exact N
  .rename_i m e C;simp only[Zd,ZC] at A;let⟨K,A⟩:=A;obtain⟨ys,m',_,rfl,hl,b3,G⟩:=DataW.trod_array C h;have u:∀i,i<m->∃y:List AV,rG P n e y/\CR w y ((cs.drop<|i*P.cellsOf e).take<|P.cellsOf e):=by
    intro i s;have J:=G i s;rw[Zb<|by omega] at J;let⟨y,E,R⟩:=Ju n _ _ _ m' A J λz hz=>O z<|by
     simp only[DataW.weights,C];exact aKx (i:=i) (by rw[Zk,Zb<|by omega];rfl) z hz
    exact⟨y,E,R⟩
   let⟨ps,d,I⟩:=Dl m u;refine⟨ps.flatten,⟨ps,rfl,d,λp S=>?_⟩,?_⟩
   .obtain⟨i,s,rfl⟩:=Xs.1 S;exact (I i _<|Zb s).1
   .have e':=GZ (P.cellsOf e) m 0 cs (by rw[hl,K];omega);rw[YD] at e';rw[e'];refine CR.flatten (by simp[d]) λi p q S Q=>?_;let⟨_,N⟩:=I i p S;rw[Zk] at Q;have s:i<m:=by
     rcases ZI i m with h | h
     .exact h
     .rw[Zy<|by omega] at S;cases S
    rw[YY s] at Q;simp only[Yz,Za,Z0] at Q;subst Q;exact N
  .cases A
def isAgg(P:Program)(t:TypeId): Bool:=
 match P.underlying t with
 | some (.struct _)=>true
 | some (.array _ _)=>true
 | _=>false
def CI(P:Program)(t:TypeId)(xs:List AV): AV:=
 match isAgg P t with
 | true=>.agg xs
 | false=>xs.headD .undef
def Sy(P:Program)(n:Nat): List TypeId->List AV->Prop
 | [],[]=>True
 | t::ts,x::xs=>(∃ys,rG P n t ys/\x=CI P t ys)/\Sy P n ts xs
 | _,_=>False
def top(W:World): dA:=⟨W,λ_=>False,λ_=>none,[]⟩
theorem aB1(W:World)(b:Nat): lE (top W) b:=⟨λh=>h,λid h=>by cases h⟩
theorem aN7[aF](FT:Nat->Option Nat)(W:World)(g:tU<|top W): bX FT (top W) where
 gl:=g;inj:=λ_ _ _ h=>by cases h
 dom:=λ_ _ h=>by cases h
 nx:=λ_ _ h=>by cases h
 fresh:=λ_ _ h=>h;lens:=λid s es h=>by simp[top] at h
 blk:=λid s es b h=>by simp[top] at h
 map:=λid es b h=>by simp[top] at h
 raw:=λid q b h=>by simp[top] at h
theorem aRg[aF]{j:Nat}{t:TypeId}{d:DataW H}{N:List MemPlace}(a:Value.okWide P w .any j t v)(Q:okT P n t=true)(h:DataW.Trod enc P w base spare held t v d N)(E:∀n∈d.weights P t,n<=reachBytes): ∃ys,rG P n t ys/\RV FT (top w) (CI P t ys) v:=by
 let⟨q,h⟩:=h;let⟨ys,M,p⟩:=Ju n t _ _ q Q h E;refine⟨ys,M,?_⟩;have z:∀{x:AV} {u:Value},RP w (λ_=>True) x u->RP (top w).w (lE<|top w) x u:=λR=>R.mono λb o _ O=>⟨aB1 w b,O⟩;have f:∀cs:Array Value,v=.agg cs->RV FT (top w) (.agg ys) v:=by
  intro cs e;subst e;simp only[Value.cells] at p;refine .agg ys cs (λi=>(cs[i]?).getD undef) (by have:=p.1;simpa using this.symm) (λi x C=>?_) λi x C=>?_
  .let⟨u,l,L,A⟩:=p.2 i x C;have:cs[i]?=some u:=by simpa using l
   exact⟨by rw[this];rfl,by rw[this];exact L⟩
  .let⟨u,l,L,A⟩:=p.2 i x C;have:cs[i]?=some u:=by simpa using l
   show RV FT (top w) x<|(cs[i]?).getD undef;rw[this];exact .pure _ _<|z A
 unfold Value.okWide at a;unfold CI isAgg;split at a
 .rename_i S k;obtain⟨cs,rfl,_⟩:=a;simp only[k];exact f cs rfl
 .rename_i m e k;obtain⟨cs,rfl,_⟩:=a;simp only[k];exact f cs rfl
 .rename_i I D;have G:∀cs,v≠.agg cs:=by
   intro cs e;subst e;unfold Cell.okWide Cell.ok at a;revert a;cases P.underlying t with
   | none=>simp
   | some u=>cases u<;>simp
  have c:v.cells=#[v]:=by
   cases v<;>first | rfl | exact absurd rfl (G _)
  rw[c] at p;have:(match P.underlying t with | some (.struct _)=>true | some (.array _ _)=>true | _=>false)=false:=by
   split
   .rename_i k;exact absurd k<|I _
   .rename_i k;exact absurd k<|D _ _
   .rfl
  rw[this];let⟨B,g⟩:=p;match ys,B,g with
  | [],B,_=>simp at B
  | y::r,_,g=>
   let⟨u,l,_,A⟩:=g 0 y rfl;simp at l;subst l;exact .pure _ _<|z A
theorem aH1[aF]{b:Nat}: ∀(ts:List TypeId) (vs:List Value) (ds:List<|DataW H) (m:List MemPlace),
 (∀(j:Nat) t v,ts[j]?=some t->vs[j]?=some v->Value.okWide P w .any b t v)->ts.all (okT P n)=true->DataW.TrodAll enc P w base spare held ts vs ds m->(∀n∈DataW.weightsEach P ts ds,n<=reachBytes)->
 ∃f,Sy P n ts f/\f.length=vs.length/\∀(i:Nat) x,f[i]?=some x->∃v,vs[i]?=some v/\RV FT (top w) x v
 | [],[],[],_,_,_,_,_=>⟨[],trivial,rfl,λi x c=>by simp at c⟩
 | t::ts,v::vs,d::ds,m,e,k,h,a=>by
  let⟨p,q,u,C,_⟩:=h;simp only[DataW.weightsEach,ZD] at a;simp only[XM,Zd] at k;let⟨ys,y,D⟩:=aRg (FT:=FT) (e 0 t v rfl rfl) k.1 u λn g=>a n<|.inl g;obtain⟨f,E,A,z⟩:=aH1 ts vs ds q (λj s B F e2=>e (j+1) s B (by simpa using F)<|by simpa using e2) k.2 C λn g=>a n<|.inr g;refine⟨CI P t ys::f,⟨⟨ys,y,rfl⟩,E⟩,by simp[A],λi x c=>?_⟩;cases i with
  | zero=>
   simp only[Zt,Za] at c;subst c;exact⟨v,rfl,D⟩
  | succ i=>
   simp only[ZL] at c |-;exact z i x c
 | [],[],_::_,_,_,_,h,_=>h.elim
 | [],_::_,_,_,_,_,h,_=>h.elim
 | _::_,[],_,_,_,_,h,_=>h.elim
 | _::_,_::_,[],_,_,_,h,_=>h.elim
theorem BN[aF]{ts:List TypeId}(k:laidOutB P=true){i:World}(j:Below W.heap.size W i): ∀(ts:List TypeId) (vs:List Value) (ds:List<|DataW H) (c:List MemPlace),
 (∀t∈ts,P.readableRec t=true/\t<P.types.size)->(∀x∈c,x.block<W.heap.size)->DataW.TrodAll enc P W 0 (λ_=>true) true ts vs ds c->
 DataW.TrodAll enc P i 0 (λb=>decide<|b<W.heap.size) true ts vs ds c
 | [],[],[],_,_,_,h=>h
 | t::ts,v::vs,d::ds,c,e,a,h=>by
  obtain⟨p,q,m,n,rfl⟩:=h;exact⟨p,q,Below.trod k (e t<|by simp).1 (e t<|by simp).2 m j λx g=>a x<|by simp[g],
   BN (ts:=ts) k j ts vs ds q (λl f=>e l<|by simp[f]) (λx g=>a x<|by simp[g]) n,rfl⟩
 | [],[],_::_,_,_,_,h=>h.elim
 | [],_::_,_,_,_,_,h=>h.elim
 | _::_,[],_,_,_,_,h=>h.elim
 | _::_,_::_,[],_,_,_,h=>h.elim
theorem aCm[aF]{T:List cS}(hm:P.follows .mixedOrders=true)(hT:Checked P T)(I:aGY P T){vi f:Nat}{fn:Func}(E:aJ T vi=some f){s:ChangeSpec}(b:s.vars=[]){tb:TypeId}(Q:fn.resultTypes=#[tb])(B:P.underlying tb=some .bool)(Y:laidOutB P=true)(N:∀t∈fn.params.toList,P.readableRec t=true/\t<P.types.size)(R:fn.params.toList.all (okT P n)=true)(J:∀y,Sy P n fn.params.toList y->∃k H',fH P T k 0 vi y []=some (.lit<|.bool true,H')){o:Nat}{a:Array Value}{ds u:List<|DataW H}{g:List MemPlace}{l c:Bool}(M:tU<|top W)(r:(s.fn H<|ds++u).results=[.lit<|.bool true]/\(s.fn H<|ds++u).args=ds/\(s.fn H<|ds++u).vars=[])(A:∀(j:Nat) t v,fn.params[j]?=some t->a[j]?=some v->Value.okWide P W .any o t v)(V:DataW.Whole enc P fn.params.toList s.vars false W a.toList ds u g)(D:∀n∈DataW.weightsEach P fn.params.toList ds,n<=reachBytes):
 Calls P f a W λe X=>∃v,e=.returned v/\s.post enc P fn false l c false W a v X:=by
 have z:=V;obtain⟨p,q,U,O,rfl,a2,a1⟩:=V;let⟨y,g1,Z,g3⟩:=aH1 (FT:=aJ T) (n:=n) fn.params.toList a.toList ds p (λj t v e1 e2=>A j t v (by simpa using e1)<|by simpa using e2) R U D;let⟨k,H',he⟩:=J y g1;have m:lQ (aJ T) (top W) y a:=⟨by simpa using Z.symm,λi x C=>by
  let⟨v,h1,h2⟩:=g3 i x C;exact⟨v,by simpa using h1,h2⟩⟩
 refine (aAU hm hT I k 0 vi f y _ H' (top W) a he E (aN7 _ W M) (ZG _) m).mono λe X hq=>?_;obtain⟨v,c',rfl,rfl,_,_,d,_,L⟩:=hq;have hv:v=.bool true:=L.lit_inv;subst hv;have S:Below W.heap.size W c'.w:=⟨d.os,d.tape,d.output,d.size,λi hi=>d.frame i hi λid h=>by cases h⟩;have K:u=[]/\q=[]:=by
  rw[b] at O;cases u with
  | nil=>exact⟨rfl,O⟩
  | cons _ _=>exact O.elim
 obtain⟨rfl,rfl⟩:=K;have F:∀x∈p,x.block<W.heap.size:=λx C=>z.lt x (by simpa using C);have G:=BN (ts:=[]) Y S fn.params.toList a.toList ds p N F U;refine⟨_,rfl,ds,[],p++[],[],p,[],z,?_,?_,?_,S.frame _,λh=>by cases h⟩
 .rw[r.1,Q];exact⟨[],[],shut_bool B _,rfl,rfl⟩
 .rw[r.2.1];exact G
 .rw[b,r.2.2];rfl
end
end
section
open Go.RowKit
theorem T9{H:Type}{enc:TypeId×Value->H}{a:Assume}{C:Go.Checked}{os:Os}{f:FuncId}{fn:Func}{s:ChangeSpec}{n:List PathCond}{c m h l:Bool}{X:World->Array Value->Prop}(M:∀(w w':World) (b:Array Value),w.heap=w'.heap->X w b->X w' b)(E:ownKnob C.prog.godebug=none)(p:os.Started)(q:C.prog.inits.idxOf? f=none)(D:C.prog.funcs[f]?=some fn)(o:∃(w:World) (d:Tape) (i:Input),w.os=os/\(w.forCall d i).Shaped C.prog/\i.vars=[]/\Input.okWide C.prog (w.forCall d i) .any w.heap.size f i /\
  ((s.pre enc C.prog fn n c (w.forCall d i).memory i.args/\X (w.forCall d i).memory i.args)/\sizedMet enc C.prog fn (OpenSpec.ofChange s) c (w.forCall d i).memory i.args)/\a.holds C.prog (lone (Frame.enter C.prog f i.args .normal) []<|w.forCall d i))(k:∀(W:World) (x:Nat) (b:Array Value) (ds z:List<|DataW H) (g:List MemPlace),
  (∀(j:Nat) t v,fn.params[j]?=some t->b[j]?=some v->Value.okWide C.prog W .any x t v)->
  DataW.Whole enc C.prog fn.params.toList s.vars c W b.toList ds z g->X W b->W.ShapedOpen C.prog->(DataW.weightsEach C.prog (fn.params.toList++s.plain.varTypes C.prog)<|ds++z).all (·<=reachBytes)=true->
  Calls C.prog f b W λe J=>∃v,e=.returned v/\s.post enc C.prog fn c m h l W b v J):
 ReturnsInHanded a C os f .any (λw b=>(s.pre enc C.prog fn n c w b/\X w b)/\sizedMet enc C.prog fn (OpenSpec.ofChange s) c w b)<|s.post enc C.prog fn c m h l:=by
 refine returnsInHanded_of_calls E p q o ?_;intro w d i _ G _ A y _;let⟨_,_,_,B,u,_,_,_,_,r⟩:=A;have e:B=fn:=ZR<|u.symm.trans D;subst e;let⟨⟨⟨ds,z,g,I,_⟩,N⟩,K⟩:=y;have F:=DataW.Whole.of_heap (w':=w.forCall d i) (by rfl) I;refine (k (w.forCall d i) w.heap.size i.args ds z g r F (M _ _ _ (by rfl) N) G<|K.weights I).mono λe J ⟨v,he,L⟩=>?_;subst he;exact ChangeSpec.post_blind L
def aWW: DataW Unit->List Value
 | .lit (.int k z)=>[.int k z]
 | _=>[]
def aIu: DataW Unit->List Value
 | .agg ps=>ps.flatMap aWW
 | _=>[]
def aQv: DataW Unit->List Value
 | .agg ps=>ps.flatMap aIu
 | _=>[]
variable {P:Program}{base:Nat}{cs:List Value}{enc:TypeId×Value->Unit}{f0 f1 f2:Field}{held:Bool}{ka kb kc:IntKind}{sp:Nat->Bool}{t ta tb tc:TypeId}{w:World}{x:DataW Unit×List MemPlace}
section
theorem aJb{e:Nat}(E:P.underlying t=some (.struct #[f0,f1,f2]))(G:P.cellsOf t=3)(B:f0.type=ta)(F:f1.type=tb)(A:f2.type=tc)(z:f0.offset=0)(u:f1.offset=1)(s:f2.offset=2)(K:P.underlying ta=some (.int ka))(Q:P.underlying tb=some (.int kb))(H:P.underlying tc=some (.int kc))(C:P.cellsOf ta=1)(O:P.cellsOf tb=1)(cc:P.cellsOf tc=1)(h:DataW.trod enc P w base sp held e t cs=some x): cs=aIu x.1:=by
 obtain⟨J,n,_,rfl,k,i,d⟩:=W8 E h;rw[G] at k;match cs,k with
 | [a,b,c],_=>
  match J,i with
  | [S,T,R],_=>
   have o:=d 0 f0 rfl;have l:=d 1 f1 rfl;have q:=d 2 f2 rfl;rw[B,z,C] at o;rw[F,u,O] at l;rw[A,s,cc] at q;let⟨r,M,I,_⟩:=X2 K o;let⟨y,N,L,_⟩:=X2 Q l;let⟨v,e2,D,_⟩:=X2 H q;have f:a=.int ka r:=by simpa using M
   have j:b=.int kb y:=by simpa using N
   have g:c=.int kc v:=by simpa using e2
   subst f j g I L D;rfl
theorem aFC[aF]{b m:Nat}{e:TypeId}(C:P.underlying t=some (.array m e))(g:P.cellsOf t=m*3)(r:P.underlying e=some (.struct #[f0,f1,f2]))(p:P.cellsOf e=3)(z:f0.type=ta)(B:f1.type=tb)(F:f2.type=tc)(v:f0.offset=0)(I:f1.offset=1)(s:f2.offset=2)(H:P.underlying ta=some (.int ka))(u:P.underlying tb=some (.int kb))(E:P.underlying tc=some (.int kc))(A:P.cellsOf ta=1)(J:P.cellsOf tb=1)(cc:P.cellsOf tc=1)(h:DataW.trod enc P w base sp held b t cs=some x): cs=aQv x.1:=by
 obtain⟨f,n,_,rfl,D,G,j⟩:=DataW.trod_array C h;have o:=GZ 3 m 0 cs (by rw[D,g];omega);rw[YD] at o;have k:∀i,i<m->∃y,f[i]?=some y/\(cs.drop<|0+i*3).take 3=aIu y.1:=by
  intro i a;have c:=j i a;rw[p] at c;have d:f[i]?=some f[i]:=Zb (by omega);rw[d] at c;refine⟨_,d,?_⟩;rw[Z0];exact aJb r p z B F v I s H u E A J cc c
 rw[o];show _=(f.map (·.1)).flatMap aIu;rw[List.flatMap_def,Ya];congr 1;apply Ym;intro i;rw[Zk,Zk];rcases ZI i m with a | a
 .let⟨y,c,d⟩:=k i a;rw[YY a,c];simp only[Yz,Function.comp];rw[d]
 .rw[Zy<|by simpa using a,Zy<|by omega];rfl
end
end
section
def pv[aF](P:Program)(T:List cS)(n vi:Nat)(args:List AV): Option AV:=
 match fH P T n 0 vi args [] with
 | some (r,H')=>some<|fD H' 0 r
 | none=>none
def aG6[aF](F:cS): Option (cT×St)->Option (AV×aW)
 | some (.normal,st)=>match lP st F.rets with
  | some vs=>some (kB vs,st.heap)
  | none=>none
 | some (.ret,st)=>match lP st F.rets with
  | some vs=>some (kB vs,st.heap)
  | none=>none
 | _=>none
variable {H:aW}{P:Program}{cf:Nat->Nat->List AV->aW->Option (AV×aW)}{fl lf:Nat}{st:St}{t:TypeId}
theorem I8[aF]{T:List cS}{n vi:Nat}{a:List AV}(F:cS)(h:getF T vi=some F):
 fH P T (n+1) fl vi a H=aG6 F (eU P (fH P T n) n fl F.body ⟨a++List.replicate (F.nt-a.length) (.lit bQ),H⟩):=by
 have b:aF.prim vi=none:=by
  unfold getF at h;split at h
  .cases h
  .assumption
 have c:T[vi]?=some F:=by simpa only[getF,b] using h
 simp only[fH,b,c,aG6];split<;>split<;>simp_all
section
end
theorem aR3(a b:Int): aN P (Builtin.max_ #[] 0 #[.int .i64 a,.int .i64 b])=some (.int .i64<|if a<b then b else a):=by
 by_cases h:a<b<;>simp[Builtin.max_,Builtin.max2,h]<;>rfl
theorem aR2(a b:ByteArray): aN P (binOp .eql t (.string a)<|.string b)=some (.bool<|a.toList==b.toList):=rfl
theorem aR1(a b:ByteArray): aN P (binOp .neq t (.string a)<|.string b)=some (.bool<|!(a.toList==b.toList)):=rfl
theorem aQi{c:BinOp}(x y:Operand)(a b:ByteArray): aN P (eqGuard c t x y (.string a)<|.string b)=some ():=by cases c<;>rfl
theorem HA{id s bytes tot:Nat}{es ys:List<|List AV}(a:H[id]?=some (.blk s es))(c:es.length=tot)(f:eZ s ys=true)(k:0<s)(l:lI ys.length bytes=true)(e:lI (tot+ys.length) bytes=true)(d:fl<=id):
 cR fl H s bytes (.ms id tot 0 tot) ys=some (.ms id (tot+ys.length) 0<|tot+ys.length,H.set id<|.blk s<|es++ys):=by
 have g:id<H.length:=by
  rcases ZI id H.length with h | h
  .exact h
  .rw[Zy h] at a;cases a
 unfold cR;simp only[f,k,l,a,c,e,d,Y7,Zz];by_cases j:ys.length=0
 .have:ys=[]:=ZK.1 j;subst this;simp only[Z1,Xm,Wo,Zz,Za,Zi,We];apply Ym;intro i;rw[Z5];split
  .rename_i m;subst m;first | exact a | (rw[Zu g];exact a)
  .rfl
 .simp only[j,Z9]
end
def aVW: List Prop->Prop
 | []=>True
 | p::r=>p/\aVW r
structure Orc where
 O:List (Nat×AV×Option aW)
 B:List (Nat×Bool)
def dC{α:Type}(t:Nat): List (Nat×α)->Option α
 | []=>none
 | (u,a)::r=>match Nat.beq u t with | true=>some a | false=>dC t r
section
variable (P:Program)(cf:Nat->Nat->List AV->aW->Option (AV×aW))(fl:Nat)
variable (o:Orc)
end
section
abbrev iv(n:Int): AV:=.lit (.int .i64 n)
abbrev bv(b:Bool): AV:=.lit (.bool b)
abbrev sv(s:ByteArray): AV:=.lit (.string s)
def bnd{α β:Type}(x:Option α)(f:α->Option β): Option β:=match x with
 | some a=>f a
 | none=>none
variable {H:aW}{P:Program}{a b:ByteArray}{α:Type}{c:α->List AV}{cf:Nat->Nat->List AV->aW->Option (AV×aW)}{f:Bool}{fl:Nat}{hi i:Int}{id k:Nat}{l l':List α}{lo:Int}{m:List α}{n:Nat}{r:Bool}{s:Nat}{t:TypeId}{w:AV}{x:α}{y z:AV}{β:Type}
theorem bG{x:Option α}{f:α->Option β}{r:β}(h:bnd x f=some r): ∃a,x=some a/\f a=some r:=by
 cases x with
 | none=>cases h
 | some a=>exact⟨a,rfl,h⟩
def bnd2{α β γ:Type}(x:Option<|α⊕β)(f:α->Option γ)(g:β->Option γ): Option γ:=match x with
 | some (.inl a)=>f a
 | some (.inr b)=>g b
 | none=>none
theorem aJY{γ:Type}{x:Option<|α⊕β}{f:α->Option γ}{g:β->Option γ}{r:γ}(h:bnd2 x f g=some r): (∃a,x=some (.inl a)/\f a=some r)\/(∃a,x=some (.inr a)/\g a=some r):=by
 match x,h with
 | some (.inl a),h=>exact .inl ⟨a,rfl,h⟩
 | some (.inr a),h=>exact .inr ⟨a,rfl,h⟩
def cnd{α:Type}(b:Bool)(x y:α): α:=match b with
 | true=>x
 | false=>y
theorem aRy[aF]{T:List cS}{vi:Nat}{a:List AV}{r b:AV}{H':aW}(h:fH P T n 0 vi a []=some (r,H'))(c:fD H' 0 r=b): pv P T n vi a=some b:=by
 unfold pv;rw[h,<-c]
def oB(a b:Int): Int:=if a<b then b else a
def PS(a b:Int): Int:=if b<a then b else a
theorem aHo(a b:ByteArray): (a.toList==b.toList)=decide (a=b):=by
 by_cases h:a=b
 .subst h;simp
 .rw[YI h];simp only[X5,Ww];intro e;apply h;simp only[ByteArray.toList_eq] at e;exact ByteArray.ext<|Array.toList_inj.1 e
section
theorem aJW[aF](h:decide (a=b)=r): aL P cf fl (.bin .eql t (.tmp 0)<|.tmp 1) [sv a,sv b] H=some (bv r,H):=by
 simp only[aL,aG,Zt,ZL,lits,uY,Zz,aQi,aR2,aHo,h]
theorem aJV[aF](h:decide (a=b)=r): aL P cf fl (.bin .neq t (.tmp 0)<|.tmp 1) [sv a,sv b] H=some (bv<|!r,H):=by
 simp only[aL,aG,Zt,ZL,lits,uY,Zz,aQi,aR1,aHo,h]
end
def idx{α:Type}(l:List α)(i:Int): Option α:=if 0<=i then l[i.toNat]? else none
theorem bP(l:List α)(i:Nat): idx l (i:Int)=l[i]?:=by simp[idx]
theorem qD(h:idx l i=some x): 0<=i/\l[i.toNat]?=some x/\i.toNat<l.length:=by
 unfold idx at h;split at h
 .rename_i b;refine⟨b,h,?_⟩;rcases ZI i.toNat l.length with a | a
  .exact a
  .rw[Zy a] at h;cases h
 .cases h
section
def eM{α:Type}(l:List α)(k:Nat)(i:Int): Option α:=if 0<=i/\i.toNat<k then l[i.toNat]? else none
theorem aJB(h:eM l k i=some x): 0<=i/\i.toNat<k/\l[i.toNat]?=some x/\i.toNat<l.length:=by
 unfold eM at h;split at h
 .rename_i b;refine⟨b.1,b.2,h,?_⟩;rcases ZI i.toNat l.length with a | a
  .exact a
  .rw[Zy a] at h;cases h
 .cases h
def app{α:Type}(l m:List α): Option<|List α:=if l.length+m.length<=1000000 then some (l++m) else none
theorem So(h:app l m=some l'): l'=l++m/\l.length+m.length<=1000000:=by
 unfold app at h;split at h
 .cases h;exact⟨rfl,by assumption⟩
 .cases h
theorem tJ(h:l.length+m.length<=1000000): app l m=some (l++m):=by simp[app,h]
def Nu(b:Bool): Option Unit:=match b with
 | true=>some ()
 | false=>none
theorem zC{b:Bool}{u:Unit}(h:Nu b=some u): b=true:=by cases b<;>first | rfl | cases h
def prd(n:Nat): Option Nat:=match n with
 | 0=>none
 | k+1=>some k
theorem aLj(h:prd n=some k): n=k+1:=by
 cases n with
 | zero=>cases h
 | succ n=>cases h;rfl
def cut{α:Type}(l:List α)(lo hi:Int): Option<|List α:=if 0<=lo/\lo<=hi/\hi<=l.length then some ((l.take hi.toNat).drop lo.toNat) else none
section
theorem aLv[aF]{a b:Int}: aL P cf fl (.minmax true [.tmp 0,.tmp 1]) [iv a,iv b] H=some (iv<|oB a b,H):=by
 simp[aL,aG,Gv,aR3,oB]
theorem aRB[aF]{a b:Int}: aL P cf fl (.minmax false [.tmp 0,.tmp 1]) [iv a,iv b] H=some (iv<|PS a b,H):=by
 have:aN P (Builtin.min_ #[] 0 #[.int .i64 a,.int .i64 b])=some (.int .i64<|if b<a then b else a):=by
  by_cases h:b<a<;>simp[Builtin.min_,Builtin.min2,h]<;>rfl
 simp[aL,aG,Gv,this,PS]
end
end
end
section
variable {H:aW}{K:Type}{P:Program}{V:Type}{cf:Nat->Nat->List AV->aW->Option (AV×aW)}{fl id:Nat}{k:K}{kt:TypeId}{kv:K->Value}{m:List (K×V)}{va:V->AV}{x:AV}
section
variable [DecidableEq K]
def cE(m:List<|K×V)(k:K): Option V:=match m with
 | []=>none
 | (k',v)::r=>if k'=k then some v else cE r k
def kW(m:List<|K×V)(k:K)(v:V): List<|K×V:=match m with
 | []=>[(k,v)]
 | (k',v')::r=>if k'=k then (k,v)::r else (k',v')::kW r k v
theorem uE[aF](k k':K)(v:V): ∀m:List<|K×V,cE (kW m k v) k'=if k=k' then some v else cE m k'
 | []=>by simp[kW,cE]
 | (a,b)::r=>by
  simp only[kW];split
  .rename_i h;subst h;simp only[cE];split<;>rfl
  .rename_i h;simp only[cE,uE k k' v r];split
   .rename_i c;subst c;rw[ZF λd=>h d.symm]
   .rfl
structure P7(P:Program)(kt:TypeId)(kv:K->Value): Prop where
 find:∀(k:K) (ks:List K),kE P kt (kv k) (ks.map λx=>(kv x,AV.undef))=some (ks.findIdx? λx=>decide (x=k))
 chk:∀(e:Bool) (k:K),aN P (Instr.checkKey e 10000 kt (kv k))=some ()
 same:∀k:K,Instr.sameBits 10000 (kv k) (kv k)=true
theorem aG5{k:Value}{c e2:List<|Value×AV}(h:c.map (·.1)=e2.map (·.1)): kE P kt k c=kE P kt k e2:=by
 unfold kE;have:(c.map λe=>({ key:=e.1,val:=.bool false,born:=0 }:MapEntry))=e2.map λe=>{ key:=e.1,val:=.bool false,born:=0 }:=by
  have e:∀l:List<|Value×AV,(l.map λe=>({ key:=e.1,val:=.bool false,born:=0 }:MapEntry))=(l.map (·.1)).map λk=>{ key:=k,val:=.bool false,born:=0 }:=λl=>by simp
  rw[e,e,h]
 rw[this]
theorem E4[aF](k:K): ∀m:List<|K×V,(cE m k=none/\m.findIdx? (λp=>decide<|p.1=k)=none)\/∃i v,cE m k=some v/\m.findIdx? (λp=>decide<|p.1=k)=some i/\m[i]?=some (k,v)
 | []=>.inl ⟨rfl,rfl⟩
 | (a,b)::r=>by
  simp only[cE,XC];by_cases h:a=k
  .subst h;exact .inr ⟨0,b,by simp,by simp,rfl⟩
  .rw[ZF h,YI h];simp only[Zn,Z9];rcases E4 k r with⟨d,e⟩ | ⟨i,v,d,e,f⟩
   .exact .inl ⟨d,by simp[e]⟩
   .exact .inr ⟨i+1,v,d,by simp[e],by simpa using f⟩
theorem aEg[aF](k:K)(v:V): ∀m:List<|K×V,kW m k v=match m.findIdx? (λp=>decide<|p.1=k) with | some i=>m.set i (k,v) | none=>m++[(k,v)]
 | []=>rfl
 | (a,b)::r=>by
  simp only[kW,XC];by_cases h:a=k
  .subst h;simp
  .rw[ZF h,YI h,aEg k v r];simp only[Zn,Z9];cases r.findIdx? λp=>decide (p.1=k) with
   | none=>simp
   | some i=>simp
end
theorem TL[aF](k:Int): ∀(c:List Int) (i:Nat),Instr.findNow (.int .i64) (.int .i64 k) (c.map λx=>{ key:=.int .i64 x,val:=.bool false,born:=0 }) i=some ((c.findIdx? λx=>decide<|x=k).map λj=>(i+j,.bool false))
 | [],i=>rfl
 | x::r,i=>by
  simp only[ZE,Instr.findNow,Instr.sameNow,Zz,XC];by_cases h:x=k
  .subst h;simp
  .have g:(k==x)=false:=by simpa using λe=>h e.symm
   rw[YI h,g];simp only[Zn,Z9,TL k r<|i+1];cases r.findIdx? λx=>decide (x=k) with
   | none=>rfl
   | some j=>simp;omega
theorem aOL[aF](b:aN P (underlying kt)=some (.int .i64)): P7 P kt (λk:Int=>.int .i64 k) where
 find:=λk g=>by
  unfold kE;simp only[Instr.findKey,cG,b,Z2,Ya,W7,TL,cX];cases g.findIdx? λx=>decide (x=k) with
  | none=>rfl
  | some j=>simp
 chk:=λe k=>by
  rw[Instr.checkKey];simp only[cG,b,Z2];rfl
 same:=λk=>by simp[Instr.sameBits]
end
section
abbrev V: AV:=.lit bQ
abbrev bt: AV:=.lit (.bool true)
structure PZ where
 ps:List Prop
 ok:aVW ps
def Z{p:Prop}(h:p)(r:PZ): PZ:=⟨p::r.ps,⟨h,r.ok⟩⟩
theorem L4{α:Type}{b:Bool}{x y r:α}(h:cnd b x y=r): (b=true/\x=r)\/(b=false/\y=r):=by
 cases b with
 | true=>exact .inl ⟨rfl,h⟩
 | false=>exact .inr ⟨rfl,h⟩
def sat(s:ByteArray)(i:Int): Option Int:=if 0<=i then (s.data.toList[i.toNat]?).map (λb=>(b.toNat:Int)) else none
variable {H:aW}{P:Program}{a b:Int}{cf:Nat->Nat->List AV->aW->Option (AV×aW)}{d:Int}{fl:Nat}{hi i:Int}{k:IntKind}{lo:Int}{r s:ByteArray}{t:TypeId}
theorem aKT(h:sat s i=some b): 0<=i/\∃c:UInt8,s[i.toNat]?=some c/\b=(c.toNat:Int):=by
 unfold sat at h;split at h
 .rename_i f;simp only[Zq] at h;let⟨c,e,d⟩:=h;refine⟨f,c,?_,d.symm⟩;rw[<-e];simp[getElem?_def,ByteArray.getElem_eq_getElem_data]
 .cases h
def aUY(s:ByteArray)(lo hi:Int): Option ByteArray:=if 0<=lo/\lo<=hi/\hi.toNat<=s.size then some (s.extract lo.toNat hi.toNat) else none
section
theorem aLl(P:Program)(t:TypeId){d:TypeDesc}(b:P.underlying t=some d){β:Type}(f:TypeDesc->Sem β): aN P (underlying t >>= f)=aN P (f d):=by
 simp only[underlying];show aN P (Sem.program λP=>_)=_;simp only[aN];show aN P ((match P.underlying t with | some d=>pure d | none=>stuck "no such type":Sem TypeDesc).bind f)=_;rw[b];rfl
theorem aJf[aF](d:P.underlying t=some .string)(h:sat s i=some b): aL P cf fl (.strIdx t (.tmp 0)<|.tmp 1) [sv s,iv i] H=some (.lit<|.int .u8 b,H):=by
 obtain⟨g,c,f,rfl⟩:=aKT h;have e:aN P (Instr.index t (.string s)<|.int .i64 i)=some (.int .u8 c.toNat):=by
  unfold Instr.index;show aN P (underlying t >>= _)=_;rw[aLl P t d];simp only[g,Zz,f];rfl
 simp only[aL,aG,Zt,ZL,e]
theorem aRx[aF](e:d≠0): aL P cf fl (.bin .quo t (.tmp 0)<|.tmp 1) [.lit<|.int k a,.lit<|.int k d] H=some (.lit<|.int k<|k.wrap<|a.tdiv d,H):=by
 have b:aN P (eqGuard .quo t (.tmp 0) (.tmp 0) (.int k a)<|.int k d)=some ():=rfl;have c:aN P (binOp .quo t (.int k a)<|.int k d)=some (.int k<|k.wrap<|a.tdiv d):=by
  simp[binOp,Op.intDiv,e];rfl
 simp only[aL,aG,Zt,ZL,lits,uY,Zz,b,c]
theorem aRj[aF](e:d≠0): aL P cf fl (.bin .rem t (.tmp 0)<|.tmp 1) [.lit<|.int k a,.lit<|.int k d] H=some (.lit<|.int k<|a.tmod d,H):=by
 have b:aN P (eqGuard .rem t (.tmp 0) (.tmp 0) (.int k a)<|.int k d)=some ():=rfl;have c:aN P (binOp .rem t (.int k a)<|.int k d)=some (.int k<|a.tmod d):=by
  simp[binOp,Op.intDiv,e];rfl
 simp only[aL,aG,Zt,ZL,lits,uY,Zz,b,c]
end
end
section
variable {P:Program}{cf cf':Nat->Nat->List AV->aW->Option (AV×aW)}
end
section
variable {H:aW}{K:Type}{P:Program}{T:List cS}{V:Type}{bytes:Nat}{α:Type}{c:α->List AV}{cf:Nat->Nat->List AV->aW->Option (AV×aW)}{fid fl:Nat}{hi i:Int}{id:Nat}{kt:TypeId}{kv:K->Value}{l l':List α}{lo:Int}{m:List (K×V)}{n s:Nat}{va:V->AV}{vi:Nat}{w y:AV}
section
variable {x:α}{k:Nat}
variable {z:AV}
end
section
variable [DecidableEq K]{x:AV}{k:K}
def aJl(a d:Int): Option Int:=if d=0 then none else some (a.tmod d)
theorem aNZ[aF]{t:TypeId}{k:IntKind}{a d v:Int}(h:aJl a d=some v): aL P cf fl (.bin .rem t (.tmp 0) (.tmp 1)) [.lit (.int k a),.lit (.int k d)] H=some (.lit (.int k v),H):=by
 unfold aJl at h;split at h
 .cases h
 .rename_i b;cases h;exact aRj b
end
section
variable {z:List Value}
end
end
section
inductive Cd where
 | int (ik:IntKind)
 | bool
 | str
 | sl (k:Nat)
 | sptr (k:Nat)
 | mp (kk vk:Nat)
 | any
class jJ where
 den:Nat->Type
 cds:Nat->List Cd
 ag:Nat->Bool
open jJ (den cds ag)
def Cd.den[jJ]: Cd->Type
 | .int _=>Int
 | .bool=>Bool
 | .str=>ByteArray
 | .sl k=>List<|jJ.den k
 | .sptr k=>jJ.den k
 | .mp kk vk=>List<|jJ.den kk×jJ.den vk
 | .any=>Unit
def SL[jJ]: List Cd->Type
 | []=>Unit
 | c::r=>c.den×SL r
class dN extends jJ where
 pk:∀k,SL (cds k)->den k
 un:∀k,den k->SL (cds k)
 un_pk:∀k p,un k (pk k p)=p
inductive TV[jJ] where
 | undef
 | lit (v:Value)
 | emp (ap:Bool)
 | sl (k:Nat) (l:List (den k))
 | vw (k:Nat) (l:List (den k))
 | ms (id:Nat) (n:Option (Nat×Nat))
 | ptr (id off:Nat)
 | pel (id:Nat) (i:Int) (off:Nat)
 | rptr (cs:List TV)
 | sptr (k:Nat) (x:den k)
 | rmp (kk vk:Nat) (m:List (den kk×den vk))
 | mp (id:Nat)
 | it (id:Nat)
 | fn (vi:Nat) (caps:List TV)
 | agg (cs:List TV)
 | tup (vs:List TV)
 | rs (id n:Nat)
 | rel (id n i off:Nat)
 deriving Inhabited
inductive oT[jJ] where
 | box (cs:List TV)
 | lst (k:Nat) (l:List (den k))
 | map (kk vk:Nat) (m:List (den kk×den vk))
 | it (s:ByteArray) (pos:Nat)
 | rows (s:Nat) (es:List (List TV))
 | gone
 | fr (n:Nat) (o:dI)
 deriving Inhabited
abbrev TH[jJ]:=List oT
abbrev TT[jJ]:=List (Nat×TV)
structure TS[jJ] where
 tm:TT
 hp:TH
def Cd.tv[jJ]: (c:Cd)->c.den->TV
 | .int ik,n=>.lit<|.int ik n
 | .bool,b=>.lit<|.bool b
 | .str,s=>.lit<|.string s
 | .sl k,l=>.sl k l
 | .sptr k,x=>.sptr k x
 | .mp kk vk,m=>.rmp kk vk m
 | .any,_=>.undef
def qX[jJ]: (cs:List Cd)->SL cs->List TV
 | [],_=>[]
 | c::r,p=>c.tv p.1::qX r p.2
def jX[dN](k:Nat)(x:den k): List TV:=qX (cds k)<|dN.un k x
def hdT[jJ]: List TV->TV
 | []=>.undef
 | x::_=>x
def val[dN](k:Nat)(x:den k): TV:=match ag k with
 | true=>.agg<|jX k x
 | false=>hdT<|jX k x
def CH{k k':Nat}(F:Nat->Type)(x:F k): Option<|F k':=match Nat.decEq k k' with
 | isTrue h=>some<|h▸x
 | isFalse _=>none
def kvC[jJ]: (cs:List Cd)->SL cs->List Value
 | [],_=>[]
 | c::r,p=>(match c,p.1 with
  | .int ik,n=>.int ik n
  | .bool,b=>.bool b
  | .str,s=>.string s
  | _,_=>bQ)::kvC r p.2
def sO[dN](k:Nat)(x:den k): Value:=match ag k with
 | true=>.agg (kvC (cds k)<|dN.un k x).toArray
 | false=>match kvC (cds k) (dN.un k x) with
  | v::_=>v
  | []=>bQ
def aEu: List Cd->Bool
 | []=>true
 | c::r=>match c with
  | .int _=>aEu r
  | .bool=>aEu r
  | .str=>aEu r
  | _=>false
def win{α:Type}(l:List α)(n:Option<|Nat×Nat): List α:=match n with
 | none=>l
 | some w=>(l.drop w.1).take w.2
section
variable [jJ]
def rdS(w:Nat)(H:TH)(k:Nat): TV->Option (List<|den k)
 | .sl k' l=>CH (λk=>List<|den k) l
 | .emp _=>some []
 | .lit v=>match v with
  | .slice a l c=>match a with
   | none=>match l with
    | 0=>match c with
     | 0=>some []
     | _=>none
    | _=>none
   | _=>none
  | _=>none
 | .vw k' l=>match w with
  | 1=>CH (λk=>List<|den k) l
  | _=>none
 | .ms id n=>match w with
  | 0=>none
  | _=>match H[id]? with
   | some o=>match o with
    | .lst k' l=>CH (λk=>List<|den k)<|win l n
    | _=>none
   | none=>none
 | _=>none
def UC{a b a' b':Nat}(m:List<|den a×den b): Option<|List<|den a'×den b':=match Nat.decEq a a' with
 | isTrue h=>match Nat.decEq b b' with
  | isTrue h'=>some<|h▸h'▸m
  | isFalse _=>none
 | isFalse _=>none
def rdM(w:Nat)(H:TH)(kk vk:Nat): TV->Option (List<|den kk×den vk)
 | .rmp a b m=>UC m
 | .lit v=>match v with
  | .map a=>match a with
   | none=>some []
   | some _=>none
  | _=>none
 | .mp id=>match w with
  | 2=>match ag vk with
   | true=>none
   | false=>match H[id]? with
    | some o=>match o with
     | .map a b m=>UC m
     | _=>none
    | none=>none
  | _=>none
 | _=>none
def rdC(w:Nat)(H:TH)(c:Cd)(v:TV): Option c.den:=match c with
 | .int ik=>match v with
  | .lit u=>match u with
   | .int k n=>match decEq k ik with
    | isTrue _=>some n
    | isFalse _=>none
   | _=>none
  | _=>none
 | .bool=>match v with
  | .lit u=>match u with
   | .bool b=>some b
   | _=>none
  | _=>none
 | .str=>match v with
  | .lit u=>match u with
   | .string s=>some s
   | _=>none
  | _=>none
 | .sl k=>rdS w H k v
 | .sptr k=>match v with
  | .sptr k' x=>CH den x
  | _=>none
 | .any=>match w with
  | 1=>some ()
  | _=>none
 | .mp kk vk=>rdM w H kk vk v
def rdL(w:Nat)(H:TH): (cs:List Cd)->List TV->Option (SL cs)
 | [],[]=>some ()
 | c::r,v::vs=>match rdC w H c v with
  | some x=>match rdL w H r vs with
   | some p=>some (x,p)
   | none=>none
  | none=>none
 | _,_=>none
end
section
variable [dN]
def kA(w:Nat)(H:TH)(k:Nat)(cs:List TV): Option<|den k:=match rdL w H (cds k) cs with
 | some p=>some<|dN.pk k p
 | none=>none
def k8(w:Nat)(H:TH)(k:Nat)(v:TV): Option<|den k:=match ag k with
 | true=>match v with
  | .agg cs=>kA w H k cs
  | _=>none
 | false=>kA w H k [v]
def NO(H:TH)(k:Nat): List (List TV)->Option (List<|den k)
 | []=>some []
 | e::r=>match kA 0 H k e with
  | some x=>match NO H k r with
   | some l=>some (x::l)
   | none=>none
  | none=>none
def RY: TV->Option (List TV)
 | .agg cs=>some cs
 | .undef=>none
 | .tup _=>none
 | .rptr _=>none
 | .lit v=>match bF v with
  | true=>some [.lit v]
  | false=>none
 | v=>some [v]
def DO(i:Nat): List Nat->Bool
 | []=>false
 | j::r=>match Nat.beq i j with
  | true=>true
  | false=>DO i r
def F5(ks:List Nat): TV->TV
 | .ms i n=>match DO i ks with | true=>.undef | false=>.ms i n
 | .pel i j o=>match DO i ks with | true=>.undef | false=>.pel i j o
 | .agg _=>.undef
 | .tup _=>.undef
 | .fn vi cs=>match cs with | []=>.fn vi [] | _=>.undef
 | v=>v
def BS(ks:List Nat): TV->TV
 | .agg cs=>.agg<|cs.map<|F5 ks
 | .tup _=>.undef
 | .fn vi caps=>.fn vi<|caps.map<|F5 ks
 | v=>F5 ks v
def aEr(ks:List Nat)(tm:TT): TT:=match ks with
 | []=>tm
 | k::r=>tm.map λp=>(p.1,BS (k::r) p.2)
def Gw(ks:List Nat): oT->oT
 | .box cs=>.box<|cs.map<|BS ks
 | .rows s es=>.rows s<|es.map λe=>e.map<|BS ks
 | o=>o
def iM(id:Nat)(S:TS): TS:=⟨aEr [id] S.tm,S.hp.map<|Gw [id]⟩
def aId: List AV->Option (List TV)
 | []=>some []
 | a::r=>match a with
  | .lit v=>match aId r with
   | some l=>some (.lit v::l)
   | none=>none
  | _=>none
def cC[aF](tm:TT): bB->TV
 | .tmp t=>match dC t tm with
  | some v=>v
  | none=>.undef
 | .lit v=>.lit v
 | .agg vs=>.agg<|vs.map .lit
 | .fn vi=>.fn vi []
 | .glob g=>match aF.tab g with
  | some cs=>match aId cs with
   | some l=>.rptr l
   | none=>.undef
  | none=>.undef
def aHW: TV->TV
 | .lit v=>match v with
  | .slice a l c=>match a with
   | none=>match l with
    | 0=>match c with
     | 0=>.emp false
     | _=>.undef
    | _=>.undef
   | some _=>.undef
  | v=>.lit v
 | .emp _=>.emp false
 | v=>v
def aRI: TV->TV
 | .agg cs=>.agg<|cs.map aHW
 | v=>aHW v
def aIm: TV->Option Int
 | .lit (.int _ n)=>some n
 | _=>none
def rdX(H:TH)(k:Nat)(v:TV): Option<|List<|den k:=rdS 1 H k v
def aRS(H:TH): TV->Option Nat
 | .sl _ l=>some l.length
 | .vw _ l=>some l.length
 | .emp _=>some 0
 | .lit (.slice none 0 0)=>some 0
 | .ms id n=>match n with
  | some w=>some w.2
  | none=>match H[id]? with
   | some (.lst _ l)=>some l.length
   | _=>none
 | .rs _ n=>some n
 | _=>none
variable {R:Type}
def BR(cs:List TV)(agg:Bool)(off n:Nat)(K:TV->Option R): Option R:=match Nat.ble (off+n) cs.length with
 | true=>match agg with
  | true=>K<|.agg<|(cs.drop off).take n
  | false=>match (cs.drop off).take n with
   | [c]=>K c
   | _=>none
 | false=>none
end
end
section
def BJ(c:dA)(w':World): dA:=⟨w',λb=>c.X b\/∃id,c.β id=some b,λ_=>none,[]⟩
def Ee(c:dA)(b:Nat)(w':World): Prop:=c.w.heap.size<=w'.heap.size/\∀k o,k≠b->c.w.heap[k]?=some o->w'.heap[k]?=some o
variable {FT:Nat->Option Nat}{b b0:Nat}{c:dA}{es:List<|List AV}{id id0 s:Nat}{v:Value}{w':World}{x:AV}
section
theorem aID: lE (BJ c w') b↔lE c b:=(Jg (c:=c) (b:=b))
theorem aKY(a:c.β id0=some b0)(g:Ee c b0 w')(h:RP c.w (lE c) x v): RP (BJ c w').w (lE<|BJ c w') x v:=
 h.mono λb o f i=>⟨aID.2 f,g.2 b o (λe=>f.2 id0<|by rw[e];exact a) i⟩
theorem aNP[aF](m:bX FT c)(d:c.β id0=some b0)(i:Ee c b0 w'): bX FT (BJ c w') where
 gl:=λg cs f=>by
  let⟨cc,T,I,a,r,y,G,A,v⟩:=m.gl g cs f;exact⟨cc,T,I,a,aID.2 r,i.2 g _ (λe=>r.2 id0<|by rw[e];exact d) y,G,A,λj x D=>aKY d i<|v j x D⟩
 inj:=λ_ _ _ h=>by cases h
 dom:=λ_ _ h=>by cases h
 nx:=λ_ _ h=>by cases h
 fresh:=λk H h=>by
  have p:c.w.heap.size<=k:=ZB i.1 H;rcases h with h | ⟨id,n⟩
  .exact m.fresh k p h
  .have:=fN m n;omega
 lens:=λid s es h=>by simp[BJ] at h
 blk:=λid s es b h=>by simp[BJ] at h
 map:=λid es b h=>by simp[BJ] at h
 raw:=λid q b h=>by simp[BJ] at h
def Pt(H:aW)(id:Nat): aW:=H.set id<|.mp []
theorem aOr{H:aW}{i:Nat}(h:i≠id): (Pt H id)[i]?=H[i]?:=by
 unfold Pt;rw[Zv<|Ne.symm h]
theorem aDm[aF](hs:bX FT c)(t:c.β id0=some b0)(K:Ee c b0 w')(h:RV FT c x v): RV FT (BJ c w') (dE (Pt c.H id0) x) v:=by
 have m:∀b,Vis (BJ c w') b:=λb id h=>by cases h
 have o:∀{x v},RP c.w (lE c) x v->RP (BJ c w').w (lE<|BJ c w') x v:=λhr=>aKY t K hr;have b1:∀b,lE c b->b≠b0:=λb hi e=>hi.2 id0 (by rw[e];exact t);have U:∀b,Vis c b->b≠b0:=λb hi e=>hi id0 (by rw[e];exact t);cases h with
 | pure _ _ hp=>
  cases hp with
  | undef v=>exact RV.undef _
  | lit v=>
   have a3:sK v=.lit v\/(v=.slice none 0 0/\sK v=.sl false []):=by
    unfold sK;repeat' split
    all_goals first
     | exact .inl rfl
     | exact .inr ⟨rfl,rfl⟩
   simp only[dE];rcases a3 with e | ⟨rfl,e⟩<;>rw[e]
   .exact RV.lit _
   .exact .vnil none 0
  | nil f a cap hf=>exact .vnil a cap
  | sl f es b off cap cc T B s d G C D E N Y h7 h8=>exact .vw es b off cap cc T B s d G (m b) (K.2 b _ (b1 b C) D) E N h7 λi j x k=>o<|h8 i j x k
  | sptr cs b off cc T B d G C D E=>exact .pure _ _<|o<|.sptr cs b off cc T B d G C D E
  | rmp R b es Z d G C D E N Y=>exact .pure _ _<|o<|.rmp R b es Z d G C D E N Y
 | ms id tot off len a cap s n J V S W=>
  simp only[dE];split
  .rename_i es l;unfold rd at l;simp only at l;split at l
   .rename_i s' r g;have M:id≠id0:=by
     intro e;subst e;unfold Pt at g;rw[List.getElem?_set_self'] at g;cases k:c.H[id]?<;>simp[k] at g
    rw[aOr M] at g;split at l
    .rename_i O;cases l;rw[eV g] at J;cases J;let⟨m1,m2⟩:=W O.symm;have z:((r.drop off).take len).length=len:=by simp;omega
     by_cases a1:len=0
     .subst a1;simp only[Wr,Yn];exact .vnil _ _
     .rcases m2 with⟨_,m3,m4,m5⟩ | ⟨b,cc,Ty,a',m3,m4,m5,m6,m7⟩
      .omega
      .have ha:=m7 (by omega);subst m6;subst ha;let⟨d2,d3,q1,q2,q3⟩:=hs.blk id s r b g m3;rw[m4] at q1;cases q1;have Q:b≠b0:=λe=>M<|hs.inj id id0 b m3 (by rw[e];exact t);have F:=hs.lens id s r g;have p:∀i j x,bM (((r.drop off).take len).map λe=>e.map Fk) i j=some x->
        ∃y u,x=Fk y/\cc[off*s+(i*s+j)]?=some u/\bF u=true/\RV FT c y u:=by
        intro i j x k;obtain⟨y,hy,rfl⟩:=jO k;let⟨e,he,hj⟩:=cZ hy;rw[Zs] at he;split at he
        .rw[Zw] at he;let⟨u,L,w2,w3⟩:=q3 (off+i) j y (by simp[bM,he,hj]);exact⟨y,u,rfl,by rw[<-L];congr 1;rw[ZA];omega,w2,w3⟩
        .cases he
       have A:=RV.vw (FT:=FT) (c:=BJ c w') (((r.drop off).take len).map λe=>e.map Fk) b (off*s) cap cc Ty (0,0) s
        (λi j=>(cc[off*s+(i*s+j)]?).getD bQ)
        (by intro e;have:=congrArg List.length e;simp at this;omega) (m b) (K.2 b _ Q m4)
        (λe he=>by
         simp only[Yh] at he;obtain⟨e0,h0,rfl⟩:=he;simpa using F e0<|ZZ<|Z7 h0)
        (by simp only[ZO,z];exact S)
        (λi j x k=>by
         let⟨y,u,_,L,w2,_⟩:=p i j x k;simp[L,w2])
        (λi j x k=>by
         let⟨y,u,a2,L,_,w3⟩:=p i j x k;rw[a2];simp only[L,Yp];exact o<|v9 w3)
       simp only[ZO,z] at A;exact A
    .cases l
   .cases l
  .exact RV.undef _
 | ptr=>exact RV.undef _
 | rptr cs b off cc T B d J V S W=>exact .rptr cs b off cc T B d (m b) (K.2 b _ (U b J) V) S λj x k=>o<|W j x k
 | vnil a cap=>exact .vnil a cap
 | vw es b off cap cc T B s d G C D E N Y h7=>exact .vw es b off cap cc T B s d G (m b) (K.2 b _ (U b C) D) E N Y λi j x k=>o<|h7 i j x k
 | mp=>exact RV.undef _
 | it=>exact RV.undef _
 | fn vi f caps cv d J V S W=>
  cases caps with
  | nil=>exact .fn vi f [] cv d J V S λi x k=>by simp at k
  | cons _ _=>exact RV.undef _
 | agg=>exact RV.undef _
 | tup=>exact RV.undef _
theorem aAp[aF](j:bX FT c)(a:c.β id0=some b0)(g:Ee c b0 w')(h:RV FT c x v): RV FT (BJ c w') (cL (Pt c.H id0) x) v:=by
 unfold cL;split
 .rename_i cs;obtain⟨cv,b,rfl,k,m,l⟩:=h.agg_inv;refine .agg _ cv b (by simpa using k) ?_ ?_
  .intro i x d;simp only[Zk,Zq] at d;obtain⟨y,f,rfl⟩:=d;exact m i y f
  .intro i x d;simp only[Zk,Zq] at d;obtain⟨y,f,rfl⟩:=d;exact aDm j a g<|l i y f
 .exact aDm j a g h
end
def Li(c:dA)(w':World)(id s:Nat)(es:List<|List AV): dA:=⟨w',λk=>c.X k\/c.β id=some k,λi=>if i=id then none else c.β i,c.H.set id<|.blk s<|es++[List.replicate s .undef]⟩
section
theorem aER: lE (Li c w' id s es) b↔lE c b:=o5 (c:=c) (id:=id) (s:=s) (es:=es)
theorem k7(a:c.β id=some b0)(f:Ee c b0 w')(h:RP c.w (lE c) x v): RP (Li c w' id s es).w (lE<|Li c w' id s es) x v:=
 h.mono λb o d i=>⟨(aER (w':=w')).2 d,f.2 b o (λe=>d.2 id<|by rw[e];exact a) i⟩
theorem IE[aF](N:bX FT c)(m:c.β id=some b0)(w:Ee c b0 w')(K:c.H[id]?=some (.blk s es))(h:RV FT c x v): RV FT (Li c w' id s es) x v:=by
 have k:∀i,i≠id->(Li c w' id s es).H[i]?=c.H[i]?:=λi d=>qG (s:=s) (es:=es) d;have o:(Li c w' id s es).H[id]?=some (.blk s<|es++[List.replicate s .undef]):=Hi K;have I:∀i,i≠id->(Li c w' id s es).β i=c.β i:=λi d=>by simp[Li,d]
 have t:∀b,Vis c b->Vis (Li c w' id s es) b:=by
  intro b r i d;simp only[Li] at d;split at d
  .cases d
  .exact r i d
 have F:∀b,Vis c b->b≠b0:=λb d e=>d id (by rw[e];exact m);have y:∀i,Cn c.H i->i≠id:=by
  rintro i ⟨e,he,p⟩ rfl;rw[K] at he;cases he;exact p
 induction h with
 | pure x v A=>exact .pure x v<|k7 m w A
 | ms i tot off len a cap s' n u M J g4=>
  by_cases d:i=id
  .subst d;rw[eV K] at u;cases u;exact .ms i tot off len a cap s (es.length+1) (by simp[shp,o]) (by omega) J λe=>by omega
  .refine .ms i tot off len a cap s' n (by simp only[shp,k i d];exact u) M J λe=>?_;let⟨Z,O⟩:=g4 e;refine⟨Z,?_⟩;rw[I i d];rcases O with O | ⟨b,cs,T,a',U,q2,q3⟩
   .exact .inl O
   .exact .inr ⟨b,cs,T,a',U,w.2 b _ (λe=>d<|N.inj i id b U<|by rw[e];exact m) q2,q3⟩
 | ptr i tot idx off a s' n u M J=>
  by_cases d:i=id
  .subst d;rw[eV K] at u;cases u;exact .ptr i tot idx off a s (es.length+1) (by simp[shp,o]) (by omega) λe=>by omega
  .refine .ptr i tot idx off a s' n (by simp only[shp,k i d];exact u) M λe=>?_;rw[I i d];exact J e
 | rptr cs b off cc T R g d r q A=>exact .rptr cs b off cc T R g (t b d) (w.2 b _ (F b d) r) q λj x L=>k7 m w<|A j x L
 | vnil a cap=>exact .vnil a cap
 | vw es' b off cap cc T R s' g Q d r B D q A=>exact .vw es' b off cap cc T R s' g Q (t b d) (w.2 b _ (F b d) r) B D q λi j x L=>k7 m w<|A i j x L
 | mp i b C r=>
  have d:=y i C;let⟨e,he,p⟩:=C;exact .mp i b ⟨e,by rw[k i d];exact he,p⟩<|by rw[I i d];exact r
 | it i b C r=>
  have d:=y i C;let⟨e,he,p⟩:=C;exact .it i b ⟨e,by rw[k i d];exact he,p⟩<|by rw[I i d];exact r
 | fn vi f caps cv g hf E q _ z=>exact .fn vi f caps cv g hf E q z
 | agg cs cv g E q _ z=>exact .agg cs cv g E q z
 | tup cs cv g E q _ z=>exact .tup cs cv g E q z
theorem aKJ[aF](f:bX FT c)(m:c.β id=some b0)(o:Ee c b0 w')(y:c.H[id]?=some (.blk s es)): bX FT<|Li c w' id s es:=by
 have p:∀i b,(Li c w' id s es).β i=some b->i≠id/\c.β i=some b:=by
  intro i b a;simp only[Li] at a;split at a
  .cases a
  .rename_i h;exact⟨h,a⟩
 have n:∀i,i≠id->(Li c w' id s es).H[i]?=c.H[i]?:=λi d=>qG (s:=s) (es:=es) d;refine⟨?_,λi j b d K=>f.inj i j b (p i b d).2 (p j b K).2,λi b d=>?_,λi b d l=>?_,λk S l=>?_,?_,?_,?_,λi q b h a=>by
  let⟨d,a⟩:=p i b a;rw[n i d] at h;exact o.2 b _ (λe=>d<|f.inj i id b a<|by rw[e];exact m)<|f.raw i q b h a⟩
 .intro g cs E;let⟨cc,T,Q,t,G,M,U,N,R⟩:=f.gl g cs E;exact⟨cc,T,Q,t,(aER (w':=w')).2 G,o.2 g _ (λe=>G.2 id<|by rw[e];exact m) M,U,N,λj x l=>k7 m o<|R j x l⟩
 .have:=f.dom i b (p i b d).2;simpa [Li] using this
 .let⟨B,a⟩:=p i b d;rcases l with l | l
  .exact f.nx i b a l
  .exact B<|f.inj i id b a l
 .have J:c.w.heap.size<=k:=ZB o.1 S;rcases l with l | l
  .exact f.fresh k J l
  .have G:=f.lt l;omega
 .intro i s' es' h e he;by_cases d:i=id
  .subst d;have O:(Li c w' i s es).H[i]?=some (.blk s<|es++[List.replicate s .undef]):=Hi y;rw[O] at h;cases h;rcases ZD.1 he with he | he
   .exact f.lens i s es y e he
   .simp at he;subst he;simp
  .rw[n i d] at h;exact f.lens i s' es' h e he
 .intro i s' es' b h a;let⟨d,a⟩:=p i b a;rw[n i d] at h;let⟨cs,T,z,F,A⟩:=f.blk i s' es' b h a;exact⟨cs,T,o.2 b _ (λe=>d<|f.inj i id b a<|by rw[e];exact m) z,F,λi j x l=>let ⟨v,D,C,I⟩:=A i j x l;⟨v,D,C,IE f m o y I⟩⟩
 .intro i u b h a;let⟨d,a⟩:=p i b a;rw[n i d] at h;let⟨cs,T,z,F,A⟩:=f.map i u b h a;exact⟨cs,T,o.2 b _ (λe=>d<|f.inj i id b a<|by rw[e];exact m) z,F,λi j x l=>let ⟨v,D,C,I⟩:=A i j x l;⟨v,D,C,IE f m o y I⟩⟩
end
end
section
variable (P:Program)(cf:Nat->Nat->List AV->aW->Option (AV×aW))(fl:Nat)(mem:Nat->List AV->Option AV)
end
section
variable {R α:Type}
end
section
variable (P:Program)(cf:Nat->Nat->List AV->aW->Option (AV×aW))(mem:Nat->List AV->Option AV)
end
section
variable (P:Program)(cf:Nat->Nat->List AV->aW->Option (AV×aW))(mem:Nat->List AV->Option AV)
end
section
open Go.Proofs Go.RowKit Go.Shelf Go.Sort
def BK{α:Type}: List (Option α)->Option (List α)
 | []=>some []
 | x::r=>match x with
  | none=>none
  | some a=>match BK r with
   | none=>none
   | some l=>some (a::l)
def Bk(agg:Bool)(x:List AV): AV:=match agg with
 | true=>.agg x
 | false=>match x with
  | []=>.undef
  | y::_=>y
def RW(H:aW)(id s:Nat)(es:List<|List AV): aW:=H.set id<|.blk s<|es++[List.replicate s .undef]
def aJR(cf:CF)(vc:Nat)(caps:List AV)(H Hd:aW)(x y:AV): Option<|AV×aW:=match caps with
 | []=>cf 0 vc ([x,y].map<|cL H) []
 | _::_=>cf Hd.length vc (x::y::caps) Hd
def Sb(cf:CF)(vc:Nat)(caps:List AV)(agg:Bool)(H Hd:aW)(x y:List AV): Option Int:=
 match aJR cf vc caps H Hd (Bk agg x) (Bk agg y) with
 | none=>none
 | some p=>match p.1 with
  | .lit v=>match v with
   | .int k z=>match k with
    | .i64=>some z
    | _=>none
   | _=>none
  | _=>none
def HT{β:Type}(f:β->β->Option Int)(rows:List β): Option<|List<|List Int:=BK<|rows.map λx=>BK<|rows.map λy=>f x y
def at2(tb:List<|List Int)(i j:Nat): Int:=match tb[i]? with
 | none=>0
 | some r=>match r[j]? with
  | none=>0
  | some z=>z
def ltT(tb:List<|List Int)(i j:Nat): Bool:=decide<|at2 tb i j<0
def R3(n:Nat)(tb:List<|List Int): Bool:=(List.range n).all λi=>!(ltT tb i i)&&(List.range n).all λj=>(List.range n).all λk=>
 match ltT tb i j with
 | true=>!(ltT tb j k)||ltT tb i k
 | false=>ltT tb j k||!(ltT tb i k)
def ixG(m:Nat)(tb:List<|List Int): List Nat:=((pdq (ltOf λ(x y:Fin<|m+1)=>at2 tb x.1 y.1) (Array.ofFn λi=>i) 0 (m+1) (Lib.bitLen<|m+1) true true).toList).map Fin.val
def Fz{β:Type}(d:β)(rows:List β)(i:Nat): β:=match rows[i]? with
 | none=>d
 | some x=>x
def vC: AV->Bool
 | .sl _ es=>es.isEmpty
 | .vw es=>es.isEmpty
 | .ms _ _ _ len=>Nat.beq len 0
 | .lit v=>match v with
  | .slice a len cap=>match a with
   | none=>Nat.beq len 0&&Nat.beq cap 0
   | some _=>false
  | _=>false
 | _=>false
def vL(cf:CF)(agg:Bool)(s:Nat)(fl:Nat)(args:List AV)(H:aW): Option<|AV×aW:=match args with
 | []=>none
 | x::r=>match r with
  | []=>none
  | y::q=>match q with
   | _::_=>none
   | []=>match vC x with
    | true=>some (.tup [],H)
    | false=>match y with
     | .fn vc caps=>match x with
      | .ms id tot off len=>match Nat.ble fl id with
       | false=>none
       | true=>match H[id]? with
        | none=>none
        | some o=>match o with
         | .blk s' es=>match len with
          | 0=>none
          | m+1=>match (Nat.beq s' s&&Nat.beq es.length tot&&Nat.ble (off+(m+1)) tot&&Nat.ble tot 1000000) with
           | false=>none
           | true=>match HT (Sb cf vc caps agg (Pt H id)<|RW H id s es) ((es.drop off).take<|m+1) with
            | none=>none
            | some tb=>match R3 (m+1) tb with
             | false=>none
             | true=>some (.tup [],H.set id<|.blk s<|es.take off++(ixG m tb).map (Fz []<|(es.drop off).take<|m+1)++es.drop (off+(m+1)))
         | _=>none
      | _=>none
     | _=>none
variable {H':aW}{P:Program}{T:List cS}{agg:Bool}{c:dA}{cf:Nat->Nat->List AV->aW->Option (AV×aW)}{fl i j:Nat}{r:AV}{s:Nat}{tb:List<|List Int}
theorem ND{a:List AV}{H:aW}(h:vL cf agg s fl a H=some (r,H')):
 (∃x y,a=[x,y]/\vC x=true/\r=.tup []/\H'=H) \/
 ∃id off m vc caps es tb,a=[.ms id es.length off<|m+1,.fn vc caps]/\fl<=id/\H[id]?=some (.blk s es)/\off+(m+1)<=es.length/\es.length<=1000000 /\
  HT (Sb cf vc caps agg (Pt H id)<|RW H id s es) ((es.drop off).take<|m+1)=some tb/\R3 (m+1) tb=true/\r=.tup [] /\
  H'=H.set id (.blk s<|es.take off++(ixG m tb).map (Fz []<|(es.drop off).take<|m+1)++es.drop (off+(m+1))):=by
 unfold vL at h;repeat' split at h;all_goals first
  | (cases h;done)
  | skip
 .grind
 .rename_i d _ _ _ es c _ _ _ _ f _ tb b _ e;cases h;simp only[Zd] at f;let⟨⟨⟨n,l⟩,k⟩,i⟩:=f;have g:=Zc n;have e2:=Zc l;have o:=Zj k;have j:=Zj i;subst g e2;exact .inr ⟨_,_,_,_,_,_,tb,rfl,Zj d,c,o,j,b,e,rfl,rfl⟩
theorem SE{α:Type}: ∀{l:List<|Option α} {r:List α},BK l=some r->r.length=l.length/\∀i (h:i<l.length),l[i]?=some r[i]?
 | [],r,h=>by cases h;exact⟨rfl,λi h=>by simp at h⟩
 | none::l,r,h=>by simp[BK] at h
 | some a::l,r,h=>by
  simp only[BK] at h;split at h
  .cases h
  .rename_i b;cases h;let⟨d,c⟩:=SE b;grind
theorem aNC{β:Type}{f:β->β->Option Int}{rows:List β}(h:HT f rows=some tb){x y:β}(g:rows[i]?=some x)(m:rows[j]?=some y): f x y=some (at2 tb i j):=by
 let⟨p,n⟩:=SE h;have c:i<rows.length:=by
  grind
 have b:j<rows.length:=by
  grind
 have a:=n i (by simpa using c);rw[Zk,g,Yz,Za] at a;cases e:tb[i]? with
 | none=>grind
 | some r=>
  rw[e] at a;let⟨o,l⟩:=SE a;have d:=l j (by simpa using b);rw[Zk,m,Yz,Za] at d;rw[d];cases k:r[j]? with
  | none=>grind
  | some z=>simp[at2,e,k]
theorem w5{m:Nat}(h:R3 (m+1) tb=true): SWO<|ltOf λ(x y:Fin<|m+1)=>at2 tb x.1 y.1:=by
 unfold R3 at h;simp at h;have e:∀x y:Fin<|m+1,ltOf (λ(x y:Fin<|m+1)=>at2 tb x.1 y.1) x y=ltT tb x.1 y.1:=λ_ _=>rfl;refine⟨λx=>?_,λx y z a b=>?_,λx y z a b=>?_⟩
 .grind
 .grind
 .grind
theorem aMk{c':dA}(h:bW fl c c')(i:∀k,k<c.w.heap.size->c'.w.heap[k]?=c.w.heap[k]?): ∃q os,c'.w=grow (c.w.drewN q) os:=by
 refine⟨c'.w.drawn-c.w.drawn,c'.w.heap.extract c.w.heap.size c'.w.heap.size,?_⟩;have l:=h.os;have e2:=h.tape;have g:=h.output;have m:c.w.drawn+(c'.w.drawn-c.w.drawn)=c'.w.drawn:=by have:=h.drawn;omega
 have j:c'.w.heap=c.w.heap++c'.w.heap.extract c.w.heap.size c'.w.heap.size:=by
  apply Xj;grind
 unfold grow World.drewN;cases f:c'.w with
 | mk e d b os a=>grind
theorem aK8{q:Nat}{os:Array Obj}: bW 0 (eQ c) ⟨grow (Sort.ahead c.w q) os,(eQ c).X,λ_=>none,[]⟩ where
 X:=rfl;os:=rfl;tape:=rfl;output:=rfl;drawn:=ZY _ _;size:=by show c.w.heap.size<=(c.w.heap++os).size;rw[Wh];exact ZY _ _
 len:=Zf _;frame:=λk p _=>by
  have d:k<c.w.heap.size:=p;show (c.w.heap++os)[k]?=c.w.heap[k]?;rw[Xb d]
 img:=λid b h=>by cases h
 blkS:=λid s n h=>by simp[eQ,shp] at h
 mpS:=λid h=>by let⟨e,he,_⟩:=h;simp[eQ] at he
 floor:=λid h=>by omega
def MA(agg:Bool)(l:List Value): Value:=match agg with
 | true=>.agg l.toArray
 | false=>l[0]!
def aVG{α:Type}[Inhabited α](P:Program)(agg:Bool)(g:Nat)(cb:Array Value)(enc:α->List Value)(k:Nat)(cf:α->α->Int)(blk off size:Nat)(w:World): Prop:=
 ∀(m:Nat) (os:Array Obj) (dk:Array α),dk.size=size->∀x y:α,
  Calls P g (#[MA agg<|enc x,MA agg<|enc y]++cb) (sortWorldK enc k w blk off m dk os) λe w'=>e=.returned (.int .i64<|cf x y)/\∃q os',w'=grow ((sortWorldK enc k w blk off m dk os).drewN q) os'
def Lq(P:Program)(agg:Bool)(f k:Nat): Prop:=∀(m:Nat) (enc:Fin (m+1)->List Value),(∀x,(enc x).length=k)->(∀x,∀v∈enc x,v.oneCell'=true)->
 ∀(cf:Fin (m+1)->Fin (m+1)->Int),SWO (ltOf cf)->∀(g:Nat) (cb:Array Value) (blk off cap:Nat) (d:Array<|Fin<|m+1) (w:World),
  (∀args w,(callFunc g args).run P w=.ok (.enter g args) w)->aVG P agg g cb enc k cf blk off d.size w->HoldsK enc k w blk off d->blk<w.heap.size->d.size<4611686018427387904->
  Calls P f #[.slice (some ⟨blk,off,none⟩) d.size cap,.func (.func g) #[] cb] w λe w'=>
   e=.returned (.tuple #[])/\∃n os,w'=sortWorldK enc k w blk off n (pdq (ltOf cf) d 0 d.size (Lib.bitLen d.size) true true) os
def Jj(P:Program)(f:Nat): Prop:=∀(p:Option Addr) (cap:Nat) (fv:Value) (w:World),Calls P f #[.slice p 0 cap,fv] w λe w'=>e=.returned (.tuple #[])/\w'=w
theorem aEL{FT:Nat->Option Nat}{x:AV}{v:Value}(he:vC x=true)(h:RV FT c x v): ∃p cap,v=.slice p 0 cap:=by
 unfold vC at he;split at he
 .rename_i es;cases h with
  | pure _ _ e=>cases e with
   | nil f a cap _=>grind
   | sl f es b off cap c T k s g i=>grind
 .rename_i es;cases h with
  | pure _ _ e=>cases e
  | vnil a cap=>grind
  | vw es b off cap cc T k s g i=>grind
 .rename_i len;have:=Zc he;subst this;cases h with
  | pure _ _ e=>cases e
  | ms id tot off len a cap s n=>grind
 .rename_i q;have:=h.lit_inv;split at he
  .rename_i cap;split at he
   .simp_all
   .grind
  .grind
 .grind
theorem o8{es:List<|List AV}{e:List AV}(he:es[i]?=some e): bM es i j=e[j]?:=by simp[bM,he]
section
theorem HV[aF](hcf:Bh P T cf)(hfn:nH P T){f:Nat}(hagg:agg=false->s=1)(hL:Lq P agg f s)(hN:Jj P f){args:List AV}{vs:Array Value}(hev:vL cf agg s fl args c.H=some (r,H'))(hs:bX (aJ T) c)(hargs:lQ (aJ T) c args vs):
 Calls P f vs c.w λe w'=>∃v c',e=.returned v/\c'.w=w'/\c'.H=H'/\c'.X=c.X/\bW fl c c'/\bX (aJ T) c'/\RV (aJ T) c' r v:=by
 rcases ND hev with⟨x,y,rfl,he,rfl,rfl⟩ | ⟨id,off,m,vc,caps,es,tb,rfl,hfl,hob,hwin,hbig,htb,hsw,rfl,rfl⟩
 .let⟨u0,k0,r0⟩:=hargs.2 0 _ rfl
  let⟨u1,k1,r1⟩:=hargs.2 1 _ rfl
  obtain⟨p,cap,rfl⟩:=aEL he r0
  have hvs:vs=#[.slice p 0 cap,u1]:=by
   apply XQ
   .exact hargs.1
   .grind
  subst hvs
  refine (hN p cap u1 c.w).mono λe w' ⟨he,hw⟩=>?_
  subst hw
  exact⟨_,c,he,rfl,rfl,rfl,bW.refl fl c,hs,.tup [] #[] (λ_=>bQ) rfl (λi x hx=>by simp at hx) λi x hx=>by simp at hx⟩
 let⟨u0,k0,r0⟩:=hargs.2 0 _ rfl
 let⟨u1,k1,r1⟩:=hargs.2 1 _ rfl
 obtain⟨a,cap,s',n,rfl,g1,g2,g3,g4⟩:=r0.ms_inv
 have hsh:s'=s/\n=es.length:=by
  simp only[shp,hob] at g1
  simpa [Wy] using g1
 obtain⟨rfl,rfl⟩:=hsh
 let⟨hml,hms⟩:=g4 rfl
 rcases hms with⟨_,h0,_⟩ | ⟨b,cs,ty,a',hb,hcs,hsz,rfl,hadr⟩
 .omega
 have hcap:cap≠0:=by omega
 obtain rfl:=hadr hcap
 obtain⟨g,cv,vals,rfl,hvc,hcv,hcv1,hcv2⟩:∃g cv,∃vals:Nat->Value,u1=.func (.func g) #[] cv/\aJ T vc=some g/\cv.size=caps.length/\(∀i x,caps[i]?=some x->cv[i]?=some (vals i))/\∀i x,caps[i]?=some x->RV (aJ T) c x (vals i):=by
  cases r1 with
  | pure _ _ h=>cases h
  | fn vi f caps cv vals hf h1 h2 h3=>exact⟨_,_,_,rfl,hf,h1,h2,h3⟩
 have hvs:vs=#[.slice (some ⟨b,off*s',none⟩) (m+1) cap,.func (.func g) #[] cv]:=by
  apply XQ
  .exact hargs.1
  .grind
 subst hvs
 let⟨fn,hf1,hf2,hf3⟩:=hfn vc g hvc
 let⟨code,hcode⟩:=XK.1 hf2
 let⟨cs2,ty2,hc2,hfit,hcell⟩:=hs.blk id s' _ b hob hb
 rw[hcs] at hc2
 cases hc2
 have hlens:=hs.lens id s' es hob
 have hblk:b<c.w.heap.size:=hs.lt hb
 have hrow:∀i,i<m+1->∃e,es[off+i]?=some e/\e.length=s':=by
  intro i hi
  have hlt:off+i<es.length:=by omega
  exact⟨es[off+i],Zb hlt,hlens _<|ZP hlt⟩
 have hreal:∀i,i<m+1->∀j,j<s'->∃x v,bM es (off+i) j=some x/\cs[(off+i)*s'+j]?=some v/\bF v=true/\RV (aJ T) c x v:=by
  intro i hi j hj
  let⟨e,he,hel⟩:=hrow i hi
  have hx:bM es (off+i) j=some e[j]:=by rw[o8 he,Zb<|by omega]
  let⟨v,h1,h2,h3⟩:=hcell _ _ _ hx
  exact⟨_,v,hx,h1,h2,h3⟩
 let enc:Fin (m+1)->List Value:=λi=>(List.range s').map λj=>(cs[(off+i.1)*s'+j]?).getD bQ
 have henc_len:∀x,(enc x).length=s':=λx=>by simp[enc]
 have henc_at:∀(x:Fin<|m+1) j,j<s'->(enc x)[j]?=cs[(off+x.1)*s'+j]?:=by
  intro x j hj
  let⟨_,v,_,h1,_,_⟩:=hreal x.1 x.2 j hj
  simp only[enc]
  rw[Zk,YY hj,Yz,h1]
  rfl
 have henc_one:∀x,∀v∈enc x,v.oneCell'=true:=by
  intro x v hv
  let⟨j,hj,hjv⟩:=List.getElem_of_mem hv
  have hj':j<s':=by simpa [enc] using hj
  let⟨_,v',_,h1,h2,_⟩:=hreal x.1 x.2 j hj'
  have:=henc_at x j hj'
  rw[Zb hj,hjv,h1] at this
  cases this
  rw[<-CX];exact h2
 let d0:Array<|Fin<|m+1:=Array.ofFn λi=>i
 have hd0:d0.size=m+1:=by simp[d0]
 have hd0at:∀i (h:i<m+1),d0[i]! =⟨i,h⟩:=by
  intro i h
  simp[d0,h]
 have hH:HoldsK enc s' c.w b (off*s') d0:=by
  intro t ht
  rw[size_flatK] at ht
  rw[get_flatK _ _ _ _ ht]
  rw[hd0] at ht
  have hpos:0<s':=by
   rcases XB s' with h | h
   .grind
   .exact h
  have hlt:t / s'<m+1:=WP<|by rw[YN];exact ht
  have hmod:=Nat.mod_lt t hpos
  have e1:off*s'+t=(off+t / s')*s'+t % s':=by
   have:=Nat.div_add_mod t s'
   rw[ZA,YN (t / s') s'];omega
  let⟨_,v,_,h1,_,_⟩:=hreal (t / s') hlt (t % s') hmod
  have h2:=henc_at ⟨t / s',hlt⟩ (t % s') hmod
  rw[hd0at _ hlt]
  refine⟨?_,by simp[World.frozen?,hcs]⟩
  rw[Xp,h2,h1]
  simp only[World.cell?,hcs,e1]
  simpa using h1
 have hcmp:aVG P agg g cv enc s' (λx y=>at2 tb x.1 y.1) b (off*s') d0.size c.w:=by
  intro mm os dk _ x y
  have hsame:Ee c b<|sortWorldK enc s' c.w b (off*s') mm dk os:=by
   refine⟨?_,λk o hk ho=>?_⟩
   .show _<=((putRowK enc s' (Sort.ahead c.w mm) b (off*s') dk).heap++os).size
    rw[Wh]
    unfold putRowK putRow mapBlock
    simp[Sort.ahead]
   .show ((putRowK enc s' (Sort.ahead c.w mm) b (off*s') dk).heap++os)[k]?=some o
    have hkl:k<c.w.heap.size:=by
     rcases ZI k c.w.heap.size with h | h
     .exact h
     .grind
    have e:(putRowK enc s' (Sort.ahead c.w mm) b (off*s') dk).heap[k]?=c.w.heap[k]?:=by
     unfold putRowK putRow mapBlock
     rw[YH,ZF<|Ne.symm hk]
     rfl
    have hsz2:(putRowK enc s' (Sort.ahead c.w mm) b (off*s') dk).heap.size=c.w.heap.size:=by
     unfold putRowK putRow mapBlock
     simp[Sort.ahead]
    rw[Xb<|by rw[hsz2];exact hkl,e]
    exact ho
  generalize sortWorldK enc s' c.w b (off*s') mm dk os=W at hsame |-
  let⟨ex,hex,hexl⟩:=hrow x.1 x.2
  let⟨ey,hey,heyl⟩:=hrow y.1 y.2
  have hrx:((es.drop off).take<|m+1)[x.1]?=some ex:=by rw[Zs,Zu x.2,Zw];exact hex
  have hry:((es.drop off).take<|m+1)[y.1]?=some ey:=by rw[Zs,Zu y.2,Zw];exact hey
  have hcg:=aNC htb hrx hry
  have hrv:∀(z:Fin<|m+1) (e:List AV),es[off+z.1]?=some e->e.length=s'->RV (aJ T) c (Bk agg e) (MA agg<|enc z):=by
   intro z e he hel
   have hall:∀(j:Nat) x,e[j]?=some x->(enc z)[j]?=some ((enc z)[j]?.getD bQ)/\bF ((enc z)[j]?.getD bQ)=true/\RV (aJ T) c x ((enc z)[j]?.getD bQ):=by
    intro j x hx
    have hj:j<s':=by
     rcases ZI j s' with h | h
     .exact h
     .grind
    have hx':bM es (off+z.1) j=some x:=by rw[o8 he];exact hx
    let⟨v,h1,h2,h3⟩:=hcell _ _ _ hx'
    rw[henc_at z j hj,h1]
    exact⟨rfl,h2,h3⟩
   cases agg with
   | true=>
    refine .agg e (enc z).toArray (λ(j:Nat)=>(enc z)[j]?.getD bQ) (by simp[henc_len,hel]) (λ(j:Nat) x hx=>?_) λ(j:Nat) x hx=>(hall j x hx).2.2
    exact⟨by simpa using (hall j x hx).1,(hall j x hx).2.1⟩
   | false=>
    have h1:=hagg rfl
    subst h1
    obtain⟨y,rfl⟩:∃y,e=[y]:=by
     match e,hel with
     | [y],_=>grind
    have:=(hall 0 y rfl).2.2
    simp only[Bk,MA]
    rw[Xp]
    cases hq:(enc z)[0]? with
    | none=>grind
    | some u=>rw[hq] at this;exact this
  have hres:∀z H1,aJR cf vc caps (Pt c.H id) (RW c.H id s' es) (Bk agg ex) (Bk agg ey)=some (.lit<|.int .i64 z,H1)->
   Calls P g (#[MA agg<|enc x,MA agg<|enc y]++cv) W λe w'=>e=.returned (.int .i64 z)/\∃q os',w'=grow (W.drewN q) os':=by
   intro z H1 hp
   unfold aJR at hp
   split at hp
   .have hargs':lQ (aJ T) (BJ c W) ([Bk agg ex,Bk agg ey].map<|cL<|Pt c.H id)<|#[MA agg<|enc x,MA agg<|enc y]++cv:=by
     have hcv0:cv=#[]:=Wl<|by simpa using hcv
     subst hcv0
     refine⟨by simp,λi z hz=>?_⟩
     rw[Zk,Zq] at hz
     obtain⟨z0,hz0,rfl⟩:=hz
     match i,hz0 with
     | 0,hz0=>cases hz0;exact⟨MA agg<|enc x,rfl,aAp hs hb hsame<|hrv x ex hex hexl⟩
     | 1,hz0=>cases hz0;exact⟨MA agg<|enc y,rfl,aAp hs hb hsame<|hrv y ey hey heyl⟩
     | i+2,hz0=>simp at hz0
    refine (hcf 0 vc g _ _ H1 (BJ c W) _ hp hvc (aNP hs hb hsame) (ZG _) hargs').mono λe w' hq=>?_
    obtain⟨v,c',rfl,rfl,_,_,hst,_,hr⟩:=hq
    exact⟨by rw[hr.lit_inv],aMk hst λk hk=>hst.frame k hk λid hid=>by cases hid⟩
   .rename_i c0 cr
    have hargs':lQ (aJ T) (Li c W id s' es) (Bk agg ex::Bk agg ey::c0::cr)<|#[MA agg<|enc x,MA agg<|enc y]++cv:=by
     refine⟨by simp[hcv];omega,λi z hz=>?_⟩
     match i,hz with
     | 0,hz=>cases hz;exact⟨MA agg<|enc x,by rw[Xb<|by simp];rfl,IE hs hb hsame hob<|hrv x ex hex hexl⟩
     | 1,hz=>cases hz;exact⟨MA agg<|enc y,by rw[Xb<|by simp];rfl,IE hs hb hsame hob<|hrv y ey hey heyl⟩
     | i+2,hz=>
      have hz1:(c0::cr)[i]?=some z:=by simpa using hz
      refine⟨vals i,?_,IE hs hb hsame hob<|hcv2 i z hz1⟩
      rw[Array.getElem?_append_right<|by simp]
      simpa using hcv1 i z hz1
    have hsd:=aKJ hs hb hsame hob
    refine (hcf _ vc g _ _ H1 (Li c W id s' es) _ hp hvc hsd (Zf _) hargs').mono λe w' hq=>?_
    obtain⟨v,c',rfl,rfl,_,_,hst,_,hr⟩:=hq
    refine⟨by rw[hr.lit_inv],aMk hst λk hk=>?_⟩
    by_cases hbk:∃i,(Li c W id s' es).β i=some k
    .let⟨i,hi⟩:=hbk
     exact (hst.floor i<|hsd.dom i k hi).2.2 k hi
    .exact hst.frame k hk λi hi=>hbk ⟨i,hi⟩
  unfold Sb at hcg
  split at hcg
  .cases hcg
  rename_i p hp
  split at hcg
  .rename_i v hv
   split at hcg
   .rename_i k z
    split at hcg
    .cases hcg
     let⟨r1,H1⟩:=p
     simp only at hv
     subst hv
     exact hres _ H1 hp
    .cases hcg
   .cases hcg
  .cases hcg
 have main:=hL m enc henc_len henc_one _ (w5 hsw) g cv b (off*s') cap d0 c.w (enters_of hf1 hf3 hcode) hcmp hH hblk<|by omega
 rw[hd0] at main
 refine main.mono λe w' ⟨he,q,os,hw⟩=>?_
 generalize hd:pdq (ltOf λ(x y:Fin<|m+1)=>at2 tb x.1 y.1) d0 0 (m+1) (Lib.bitLen<|m+1) true true=d at hw
 have hdsz:d.size=m+1:=by
  have h:=(pdq_sorts (ltOf λ(x y:Fin<|m+1)=>at2 tb x.1 y.1) (w5 hsw) d0 0 (m+1) (Lib.bitLen<|m+1) true true (ZG _) (by rw[hd0];exact Zf _)<|Or.inl rfl).1.1
  rw[hd,hd0] at h
  exact h
 have hix:ixG m tb=d.toList.map Fin.val:=by rw[<-hd];rfl
 rw[hix]
 generalize hes':es.take off++(d.toList.map Fin.val).map (Fz []<|(es.drop off).take<|m+1)++es.drop (off+(m+1))=es'
 have htake:(es.take off).length=off:=by simp;omega
 have hmid:((d.toList.map Fin.val).map<|Fz []<|(es.drop off).take<|m+1).length=m+1:=by simp[hdsz]
 have hlen':es'.length=es.length:=by
  rw[<-hes',Zh,Zh,htake,hmid,ZV];omega
 have hget0:∀i,i<off->es'[i]?=es[i]?:=by
  intro i hi
  rw[<-hes',Zo<|by rw[Zh];omega,Zo<|by omega,Zs,Zu hi]
 have hget2:∀i,off+(m+1)<=i->es'[i]?=es[i]?:=by
  intro i hi
  rw[<-hes',ZX<|by rw[Zh];omega,Zh,htake,hmid,Zw]
  congr 1
  omega
 have hget1:∀q (hq:q<m+1),es'[off+q]?=es[off+(d[q]'(by rw[hdsz];exact hq)).1]?:=by
  intro q hq
  have hk:=(d[q]'(by rw[hdsz];exact hq)).2
  let⟨e,he,_⟩:=hrow _ hk
  rw[<-hes',Zo<|by rw[Zh];omega,ZX<|by omega,htake,YZ,Zk,Zk,Z8,Z6<|by rw[hdsz];exact hq,he]
  simp only[Yz,Za]
  unfold Fz
  rw[Zs,Zu hk,Zw,he]
 have hw1:(putRowK enc s' (Sort.ahead c.w q) b (off*s') d).heap[b]?=some (.cells (putCells _root_.id (off*s') (flatK enc s' d) cs) ty (0,0)):=by
  unfold putRowK putRow mapBlock
  simp[YH,Sort.ahead,hcs,onCells]
 have hother:∀k,k≠b->(putRowK enc s' (Sort.ahead c.w q) b (off*s') d).heap[k]?=c.w.heap[k]?:=by
  intro k hk
  unfold putRowK putRow mapBlock
  rw[YH,ZF<|Ne.symm hk]
  rfl
 have hsize:(putRowK enc s' (Sort.ahead c.w q) b (off*s') d).heap.size=c.w.heap.size:=by
  unfold putRowK putRow mapBlock
  simp[Sort.ahead]
 have hcsz:(putCells _root_.id (off*s') (flatK enc s' d) cs).size=cs.size:=by simp[putCells]
 have hput:∀t,t<cs.size->(putCells _root_.id (off*s') (flatK enc s' d) cs)[t]?=if off*s'<=t/\t<off*s'+(m+1)*s' then some ((flatK enc s' d)[t-off*s']!) else cs[t]?:=by
  intro t ht
  unfold putCells
  rw[WI,Z6 ht,size_flatK,hdsz]
  simp only[Yz]
  split<;>rfl
 have hcells:∀i j x,bM es' i j=some x->∃v,(putCells _root_.id (off*s') (flatK enc s' d) cs)[i*s'+j]?=some v/\bF v=true/\RV (aJ T) c x v:=by
  intro i j x hx
  let⟨e,hei,hej⟩:=cZ hx
  have hi:i<es.length:=by
   rcases ZI i es'.length with h | h
   .omega
   .rw[Zy h] at hei;cases hei
  by_cases hin:off<=i/\i<off+(m+1)
  .obtain⟨q9,rfl⟩:∃q9,i=off+q9:=⟨i-off,by omega⟩
   have hq':q9<m+1:=by omega
   rw[hget1 q9 hq'] at hei
   have hk:=(d[q9]'(by rw[hdsz];exact hq')).2
   generalize hkk:(d[q9]'(by rw[hdsz];exact hq'))=k at hei hk
   have hel:e.length=s':=hlens e<|Zg hei
   have hj:j<s':=by
    rcases ZI j e.length with h | h
    .omega
    .rw[Zy h] at hej;cases hej
   let⟨v,h1,h2,h3⟩:=hcell (off+k.1) j x<|by rw[o8 hei];exact hej
   refine⟨v,?_,h2,h3⟩
   have hle:(off+q9)*s'+s'<=es.length*s':=by
    have:(off+q9+1)*s'<=es.length*s':=Zr _<|by omega
    rw[ZA _ 1,Yw] at this
    exact this
   have hle2:q9*s'+s'<=(m+1)*s':=by
    have:(q9+1)*s'<=(m+1)*s':=Zr _<|by omega
    rw[ZA q9 1,Yw] at this
    exact this
   have e0:(off+q9)*s'=off*s'+q9*s':=ZA _ _ _
   rw[hput _<|by omega,Zu ⟨by omega,by omega⟩]
   have e1:(off+q9)*s'+j-off*s'=q9*s'+j:=by omega
   rw[e1,get_flatK _ _ _ _<|by rw[hdsz];omega]
   have e2:(q9*s'+j) / s'=q9:=by
    rw[YN,Nat.mul_add_div<|by omega,Nat.div_eq_of_lt hj,Xm]
   have e3:(q9*s'+j) % s'=j:=by
    rw[YN,Nat.mul_add_mod,Vc hj]
   rw[e2,e3]
   have e4:d[q9]! =k:=by
    rw[getElem!_pos d q9 (by rw[hdsz];exact hq')];exact hkk
   rw[e4,Xp,henc_at k j hj,h1]
   rfl
  .have hei':es[i]?=some e:=by
    rcases ZI i off with h | h
    .rw[<-hget0 i h];exact hei
    .rw[<-hget2 i<|by omega];exact hei
   have hel:e.length=s':=hlens e<|Zg hei'
   have hj:j<s':=by
    rcases ZI j e.length with h | h
    .omega
    .rw[Zy h] at hej;cases hej
   let⟨v,h1,h2,h3⟩:=hcell i j x<|by rw[o8 hei'];exact hej
   refine⟨v,?_,h2,h3⟩
   have hle:i*s'+s'<=es.length*s':=by
    have:(i+1)*s'<=es.length*s':=Zr _<|by omega
    rw[ZA i 1,Yw] at this
    exact this
   rw[hput _<|by omega,ZF,h1]
   rintro ⟨q1,q2⟩
   rcases ZI i off with h | h
   .have:(i+1)*s'<=off*s':=Zr _<|by omega
    rw[ZA i 1,Yw] at this
    omega
   .have:(off+(m+1))*s'<=i*s':=Zr _<|by omega
    rw[ZA off] at this
    omega
 have hlens':∀e∈es',e.length=s':=by
  intro e he
  let⟨i,hi⟩:=WR he
  rcases ZI i off with h | h
  .rw[hget0 i h] at hi;exact hlens e<|Zg hi
  .rcases ZI i (off+(m+1)) with h2 | h2
   .obtain⟨q9,rfl⟩:∃q9,i=off+q9:=⟨i-off,by omega⟩
    rw[hget1 q9<|by omega] at hi;exact hlens e<|Zg hi
   .rw[hget2 i h2] at hi;exact hlens e<|Zg hi
 have hst1:=mU (w':=putRowK enc s' (Sort.ahead c.w q) b (off*s') d) (es':=es') hs hfl hob hb hcs (by omega) hcsz hw1 hother hsize rfl rfl rfl<|ZY _ _
 have hsim1:=wZ (w':=putRowK enc s' (Sort.ahead c.w q) b (off*s') d) (es':=es') hs hob hb hcs (by omega) hcsz hw1 hother hsize rfl rfl rfl hlens' (by rw[hcsz,hlen'];exact hfit) hcells<|ZY _ _
 generalize hc1:(⟨putRowK enc s' (Sort.ahead c.w q) b (off*s') d,c.X,c.β,c.H.set id<|.blk s' es'⟩:dA)=c1 at hst1 hsim1
 have hst2:=aK8 (c:=c1) (q:=0) (os:=os)
 refine⟨.tuple #[],pD c1 ⟨grow (Sort.ahead c1.w 0) os,(eQ c1).X,λ_=>none,[]⟩,he,?_,?_,?_,hst1.trans<|xP hsim1 hst2,Jh hsim1 hst2,?_⟩
 .rw[hw,<-hc1]
  rfl
 .rw[<-hc1];rfl
 .rw[<-hc1];rfl
 .exact .tup [] #[] (λ_=>bQ) rfl (λi x hx=>by simp at hx) λi x hx=>by simp at hx
end
end
section
variable {H H':aW}{P:Program}{T:List cS}{args args':List AV}{α:Type}{c:α->List AV}{fl id:Nat}{l:List α}{n:Nat}{r:AV}{s vi:Nat}
section
end
theorem aG9[aF]{a:List AV}{kk:IntKind}{z:Int}(h:pv P T n vi a=some (.lit<|.int kk z)): ∃H',fH P T n 0 vi a []=some (.lit<|.int kk z,H'):=by
 unfold pv at h;split at h
 .rename_i r H' he;simp only[Za] at h;refine⟨H',?_⟩;rw[he];cases r with
  | lit v=>
   simp only[fD,dZ,gN,sK] at h;revert h;split
   .split
    .split
     .split
      .intro h;cases h
      .intro h;cases h
     .intro h;cases h
    .intro h;cases h
   .intro h;simp only[AV.lit.injEq] at h;rw[h]
  | agg cs=>simp[fD,dZ] at h
  | tup cs=>simp[fD] at h
  | fn vi caps=>cases caps<;>simp[fD,dZ,gN] at h
  | ms id tot off len=>
   simp only[fD,dZ,gN,YE,Z9,fC,eE,ZG,Zz] at h;split at h<;>cases h
  | ptr=>simp[fD,dZ,gN] at h
  | mp id=>
   simp only[fD,dZ,gN,YE,Z9,fC,eE,ZG,Zz] at h;split at h<;>cases h
  | it=>simp[fD,dZ,gN] at h
  | _=>simp[fD,dZ,gN] at h
 .cases h
end
section
open Go.Sort
variable {H:aW}{a:List AV}{agg:Bool}{b:aW}{caps:List AV}{cf:CF}{α β:Type}{e:α->β}{f:β->β->Option Int}{fl i:Nat}{l:List α}{m s:Nat}{tb:List<|List Int}{vc:Nat}{x y:List AV}{z:Int}
theorem Ji{f g:α->Option β}(h:∀x y,f x=some y->g x=some y): ∀(l:List α) (r:List β),BK (l.map f)=some r->BK (l.map g)=some r
 | [],r,b=>b
 | x::l,r,b=>by
  simp only[ZE,BK] at b |-;split at b
  .cases b
  .rename_i a d;split at b
   .cases b
   .rename_i q c;rw[h x a d,Ji h l q c];exact b
theorem aJd{g:β->β->Option Int}(h:∀x y z,f x y=some z->g x y=some z){rows:List β}(b:HT f rows=some tb): HT g rows=some tb:=
 Ji (λx r a=>Ji (λy z c=>h x y z c) rows r a) rows tb b
theorem aJS{a:CF}(h:Le cf a){c:aW}(x y:List AV)(z:Int)(b:Sb cf vc caps agg H c x y=some z): Sb a vc caps agg H c x y=some z:=by
 unfold Sb at b |-;split at b
 .cases b
 .rename_i p d;have:aJR a vc caps H c (Bk agg x) (Bk agg y)=some p:=by
   cases caps<;>exact h _ _ _ _ _ d
  rw[this];exact b
theorem aD1{id off tot:Nat}{es:List<|List AV}(f:fl<=id)(e:H[id]?=some (.blk s es))(b:es.length=tot)(c:off+(m+1)<=es.length)(a:es.length<=1000000)(d:HT (Sb cf vc caps agg (Pt H id)<|RW H id s es) ((es.drop off).take<|m+1)=some tb)(g:R3 (m+1) tb=true):
 vL cf agg s fl [.ms id tot off<|m+1,.fn vc caps] H=some (.tup [],H.set id<|.blk s<|es.take off++(ixG m tb).map (Fz []<|(es.drop off).take<|m+1)++es.drop (off+(m+1))):=by
 subst b;have h:Nat.ble fl id=true:=Yx f;have e2:Nat.beq es.length es.length=true:=Y5 _;have k:Nat.ble (off+(m+1)) es.length=true:=Yx c;have i:Nat.ble es.length 1000000=true:=Yx a;have j:Nat.beq s s=true:=Y5 _;have l:vC (.ms id es.length off<|m+1)=false:=rfl;simp only[vL,h,e2,k,i,j,l,e,d,g,Xr]
theorem aFG(cf c:CF)(h:Le cf c)(fl:Nat)(a:List AV)(H:aW)(x:AV×aW)(j:vL cf agg s fl a H=some x): vL c agg s fl a H=some x:=by
 let⟨r,H'⟩:=x;rcases ND j with⟨x,y,rfl,he,rfl,rfl⟩ | ⟨id,off,m,vc,caps,es,tb,rfl,g,f,d,b,e,i,rfl,rfl⟩
 .simp only[vL,he]
 .exact aD1 g f rfl d b (aJd (λx y z k=>aJS h x y z k) e) i
abbrev xZ(agg:Bool)(s:Nat): aAl:=⟨λcf=>vL cf agg s,aFG⟩
def qY{α:Type}(F:α->α->Option Int)(l:List α): Option<|List α:=match l with
 | []=>some []
 | x::r=>match HT F (x::r) with
  | none=>none
  | some tb=>match R3 (r.length+1) tb with
   | false=>none
   | true=>some<|(ixG r.length tb).map<|Fz x (x::r)
theorem aK3{g:α->α->Option Int}(h:∀x y z,g x y=some z->f (e x) (e y)=some z)(a:HT g l=some tb): HT f (l.map e)=some tb:=by
 unfold HT at a |-;rw[Ya];refine Ji (f:=λx=>BK<|l.map λy=>g x y) (g:=(λx=>BK<|(l.map e).map λy=>f x y)∘e) (λx r c=>?_) l tb a;show BK ((l.map e).map λy=>f (e x) y)=some r;rw[Ya];exact Ji (f:=λy=>g x y) (g:=(λy=>f (e x) y)∘e) (λy z b=>h x y z b) l r c
theorem aGy(h:i∈ixG m tb): i<m+1:=by
 unfold ixG at h;obtain⟨y,_,rfl⟩:=Yh.1 h;exact y.2
theorem aA0{d:α}{d':β}(a:i<l.length): Fz d' (l.map e) i=e (Fz d l i):=by
 unfold Fz;rw[Zk,Zb a];rfl
theorem Om{H':aW}{r:AV}(c:fl<=m/\m<=H.length)(h:vL cf agg s fl a H=some (r,H')): H'.take fl=H.take fl/\m<=H'.length:=by
 rcases ND h with⟨x,y,rfl,he,rfl,rfl⟩ | ⟨id,off,m,vc,caps,es,tb,rfl,e,g,d,b,f,j,rfl,rfl⟩
 .exact⟨rfl,c.2⟩
 .refine⟨?_,by rw[Yr];exact c.2⟩;apply Ym;intro i;rw[Zs,Zs];split
  .rw[Zv<|by omega]
  .rfl
theorem aS9[aF]{P:Program}{T:List cS}{n:Nat}(c:[Bk agg x,Bk agg y].map (cL H)=a)(k:pv P T n vc a=some (.lit<|.int .i64 z)):
 Sb (fH P T n) vc [] agg H b x y=some z:=by
 let⟨H',h⟩:=aG9 k;simp only[Sb,aJR,c,h]
theorem aCo(a:R3 (m+1) tb=true): (ixG m tb).length=m+1:=by
 have h:=(pdq_sorts (Go.Proofs.ltOf λ(x y:Fin<|m+1)=>at2 tb x.1 y.1) (w5 a) (Array.ofFn λi=>i) 0 (m+1) (Lib.bitLen<|m+1) true true (ZG _) (by simp)<|Or.inl rfl).1.1;unfold ixG;rw[ZO,Zx,h];simp
theorem aAt{F:α->α->Option Int}{b:List α}(h:qY F l=some b): b.length=l.length:=by
 unfold qY at h;split at h
 .cases h;rfl
 .split at h
  .cases h
  split at h
  .cases h
  rename_i a;cases h;rw[ZO,aCo a];rfl
theorem aPl(c:caps≠[])(h:∃H',cf b.length vc (Bk agg x::Bk agg y::caps) b=some (.lit<|.int .i64 z,H')):
 Sb cf vc caps agg H b x y=some z:=by
 let⟨H',h⟩:=h;cases caps with
 | nil=>exact absurd rfl c
 | cons a r=>simp only[Sb,aJR,h]
end
section
open jJ (den cds ag)
inductive Sh where
 | v (k:Nat)
 | w (k:Nat)
 | r (k:Nat)
 | l (k:Nat)
 | m (kk vk:Nat)
 | n (id:Nat)
 | i
 | q (id off:Nat)
section
variable [dN]
def Sh.den: Sh->Type
 | .v k=>jJ.den k
 | .w k=>jJ.den k
 | .r k=>jJ.den k
 | .l k=>List (jJ.den k)
 | .m kk vk=>List (jJ.den kk×jJ.den vk)
 | .n _=>Nat×Nat
 | .i=>ByteArray×Nat
 | .q _ _=>Int
def NA: TV->TV
 | .sl k l=>.vw k l
 | v=>v
def toW: TV->TV
 | .agg cs=>.agg (cs.map NA)
 | v=>NA v
def Sh.tv: (s:Sh)->s.den->TV
 | .v k,x=>val k x
 | .w k,x=>toW (val k x)
 | .r k,x=>.rptr (jX k x)
 | .l k,x=>.sl k x
 | .m kk vk,x=>.rmp kk vk x
 | .n id,x=>.ms id (some x)
 | .i,x=>.tup [.lit (.string x.1),.lit (.int .i64 (.ofNat x.2))]
 | .q id off,x=>.pel id x off
def aMb: TV->Option (ByteArray×Nat)
 | .tup cs=>match cs with
  | [a,b]=>match a with
   | .lit u=>match u with
    | .string s=>match b with
     | .lit w=>match w with
      | .int k n=>match k with
       | .i64=>match n with
        | Int.ofNat n=>some (s,n)
        | _=>none
       | _=>none
      | _=>none
     | _=>none
    | _=>none
   | _=>none
  | _=>none
 | _=>none
def rdN(id:Nat): TV->Option (Nat×Nat)
 | .ms j c=>match Nat.beq j id with
  | true=>c
  | false=>none
 | _=>none
def rdQ(id off:Nat): TV->Option Int
 | .pel j i o=>match Nat.beq j id with
  | true=>match Nat.beq o off with
   | true=>some i
   | false=>none
  | false=>none
 | _=>none
def Sh.rd(w:Nat)(H:TH)(s:Sh)(v:TV): Option s.den:=match s with
 | .v k=>k8 (match w with | 3=>0 | w=>w) H k v
 | .w k=>k8 (match w with | 3=>1 | w=>w) H k v
 | .r k=>match v with
  | .rptr cs=>kA 0 H k cs
  | _=>none
 | .l k=>match v with
  | .sl k' xs=>CH (λk=>List (jJ.den k)) xs
  | _=>none
 | .m kk vk=>match v with
  | .rmp a b xs=>UC xs
  | _=>none
 | .n id=>rdN id v
 | .i=>aMb v
 | .q id off=>rdQ id off v
def fU: List Sh->Type
 | []=>Unit
 | [a]=>a.den
 | a::b::r=>a.den×fU (b::r)
def fU.hd{a:Sh}: {r:List Sh}->fU (a::r)->a.den
 | [],x=>x
 | _::_,x=>x.1
def fU.tl{a:Sh}: {r:List Sh}->fU (a::r)->fU r
 | [],_=>()
 | _::_,x=>x.2
def fU.cs{a:Sh}: {r:List Sh}->a.den->fU r->fU (a::r)
 | [],x,_=>x
 | _::_,x,y=>(x,y)
def Of: (l:List Sh)->fU l->List TV
 | [],_=>[]
 | a::r,p=>a.tv (fU.hd p)::Of r (fU.tl p)
def Et(w:Nat)(H:TH): (l:List Sh)->List TV->Option (fU l)
 | [],vs=>match vs with
  | []=>some ()
  | _=>none
 | a::r,vs=>match vs with
  | []=>none
  | v::vs=>match a.rd w H v with
   | some x=>match Et w H r vs with
    | some p=>some (fU.cs x p)
    | none=>none
   | none=>none
inductive Pl where
 | con (v:TV)
 | p (s:Sh)
 | v (s:Sh)
def shs(b:Bool): List Pl->List Sh
 | []=>[]
 | .con _::r=>shs b r
 | .p s::r=>match b with
  | false=>s::shs b r
  | true=>shs b r
 | .v s::r=>match b with
  | true=>s::shs b r
  | false=>shs b r
def mkV: (l:List Pl)->fU (shs false l)->fU (shs true l)->List TV
 | [],_,_=>[]
 | .con v::r,p,q=>v::mkV r p q
 | .p s::r,p,q=>s.tv (fU.hd p)::mkV r (fU.tl p) q
 | .v s::r,p,q=>s.tv (fU.hd q)::mkV r p (fU.tl q)
def Ow: TV->TV->Bool
 | .undef,_=>true
 | .ms i n,v=>match n with
  | none=>match v with
   | .ms j m=>match m with
    | none=>Nat.beq i j
    | some _=>false
   | _=>false
  | some _=>false
 | .ptr i o,v=>match v with
  | .ptr j q=>match Nat.beq i j with
   | true=>Nat.beq o q
   | false=>false
  | _=>false
 | .mp i,v=>match v with
  | .mp j=>Nat.beq i j
  | _=>false
 | .it i,v=>match v with
  | .it j=>Nat.beq i j
  | _=>false
 | .rs i n,v=>match v with
  | .rs j m=>match Nat.beq i j with
   | true=>Nat.beq n m
   | false=>false
  | _=>false
 | .fn i cs,v=>match cs with
  | []=>match v with
   | .fn j ds=>match ds with
    | []=>Nat.beq i j
    | _=>false
   | _=>false
  | _=>false
 | .lit u,v=>match u with
  | .int k a=>match v with
   | .lit y=>match y with
    | .int k' b=>match decEq k k' with
     | isTrue _=>match decEq a b with
      | isTrue _=>true
      | isFalse _=>false
     | isFalse _=>false
    | _=>false
   | _=>false
  | .bool b=>match v with
   | .lit y=>match y with
    | .bool c=>match b with
     | true=>c
     | false=>match c with
      | true=>false
      | false=>true
    | _=>false
   | _=>false
  | .slice a l c=>match a with
   | none=>match l with
    | 0=>match c with
     | 0=>match v with
      | .lit y=>match y with
       | .slice a l c=>match a with
        | none=>match l with
         | 0=>match c with
          | 0=>true
          | _=>false
         | _=>false
        | _=>false
       | _=>false
      | _=>false
     | _=>false
    | _=>false
   | _=>false
  | _=>false
 | .emp b,v=>match v with
  | .emp c=>match b with
   | false=>true
   | true=>c
  | _=>false
 | _,_=>false
def aHz: List TV->List TV->Bool
 | [],l=>match l with
  | []=>true
  | _=>false
 | c::r,l=>match l with
  | []=>false
  | v::s=>match c with
   | .ms _ _=>false
   | c=>match Ow c v with
    | true=>aHz r s
    | false=>false
def aKV: TV->TV->Bool
 | .fn i cs,v=>match v with
  | .fn j ds=>match Nat.beq i j with
   | true=>aHz cs ds
   | false=>false
  | _=>false
 | u,v=>Ow u v
def SU: (l:List Pl)->List TV->Option (fU (shs false l)×fU (shs true l))
 | [],vs=>match vs with
  | []=>some ((),())
  | _=>none
 | .con c::r,vs=>match vs with
  | []=>none
  | v::vs=>match aKV c v with
   | true=>SU r vs
   | false=>none
 | .p s::r,vs=>match vs with
  | []=>none
  | v::vs=>match s.rd 3 [] v with
   | some x=>match SU r vs with
    | some p=>some (fU.cs x p.1,p.2)
    | none=>none
   | none=>none
 | .v s::r,vs=>match vs with
  | []=>none
  | v::vs=>match s.rd 3 [] v with
   | some x=>match SU r vs with
    | some p=>some (p.1,fU.cs x p.2)
    | none=>none
   | none=>none
inductive OL where
 | box (n:Nat)
 | bx
 | lst (k:Nat)
 | map (kk vk:Nat)
 | it
 | rows (s m:Nat)
 | gone
structure Fj where
 fo:List Nat
 ts:List (Nat×Option Nat)
 os:List OL
 ss:List Pl
abbrev Fj.P(L:Fj): Type:=fU (shs false L.ss)
abbrev Fj.V(L:Fj): Type:=fU (shs true L.ss)
def plT: List (Nat×Option Nat)->List TV->TT
 | t::ts,vs=>match t.2 with
  | some n=>(t.1,.agg (vs.take n))::plT ts (vs.drop n)
  | none=>match vs with
   | v::vs=>(t.1,v)::plT ts vs
   | []=>[]
 | [],_=>[]
def nO: List OL->Nat
 | []=>0
 | o::r=>match o with
  | .box n=>n+nO r
  | .rows s m=>s*m+nO r
  | .gone=>nO r
  | _=>nO r+1
def aQZ: TV->oT
 | .agg cs=>.box cs
 | _=>.gone
def aQY(v:TV): oT:=match aMb v with
 | some p=>.it p.1 p.2
 | none=>.gone
def qM{α:Type}(s:Nat): Nat->List α->List (List α)
 | 0,_=>[]
 | m+1,l=>l.take s::qM s m (l.drop s)
def aHm(k:Nat): TV->oT
 | .sl k' l=>match Nat.beq k' k with
  | true=>.lst k' l
  | false=>.gone
 | _=>.gone
def aK2(kk vk:Nat): TV->oT
 | .rmp a b m=>match Nat.beq a kk with
  | true=>match Nat.beq b vk with
   | true=>.map a b m
   | false=>.gone
  | false=>.gone
 | _=>.gone
def Q4: List OL->List TV->TH
 | [],_=>[]
 | o::r,vs=>match o with
  | .box n=>.box (vs.take n)::Q4 r (vs.drop n)
  | .gone=>.gone::Q4 r vs
  | .lst k=>match vs with
   | v::vs=>aHm k v::Q4 r vs
   | []=>[]
  | .map kk vk=>match vs with
   | v::vs=>aK2 kk vk v::Q4 r vs
   | []=>[]
  | .it=>match vs with
   | v::vs=>aQY v::Q4 r vs
   | []=>[]
  | .bx=>match vs with
   | v::vs=>aQZ v::Q4 r vs
   | []=>[]
  | .rows s m=>.rows s (qM s m (vs.take (s*m)))::Q4 r (vs.drop (s*m))
def Fj.mkM(L:Fj)(M:List TV): TS:=⟨plT L.ts (M.drop (nO L.os)),Q4 L.os (M.take (nO L.os))⟩
def Fj.mk'(L:Fj)(p:L.P)(q:L.V): TS:=L.mkM (mkV L.ss p q)
def ovO(n:Nat)(φ:Nat->dI): List Nat->TH->TH
 | [],H=>H
 | i::r,H=>(ovO n φ r H).set i (.fr n (φ i))
def Fj.mkG(L:Fj)(n:Nat)(φ:Nat->dI)(p:L.P)(q:L.V): TS:=⟨(L.mk' p q).tm,ovO n φ L.fo (L.mk' p q).hp⟩
def upT(tm:TT): List (Nat×Option Nat)->Option (List TV)
 | []=>some []
 | t::r=>match dC t.1 tm with
  | some v=>match upT tm r with
   | some vs=>match t.2 with
    | none=>some (v::vs)
    | some n=>match v with
     | .agg cs=>match Nat.beq cs.length n with
      | true=>some (cs++vs)
      | false=>none
     | _=>none
   | none=>none
  | none=>none
def upO: List OL->TH->Option (List TV)
 | [],H=>match H with
  | []=>some []
  | _=>none
 | o::r,H=>match H with
  | []=>none
  | b::H=>match upO r H with
   | none=>none
   | some vs=>match o with
    | .gone=>some vs
    | .box n=>match b with
     | .box cs=>match Nat.beq cs.length n with
      | true=>some (cs++vs)
      | false=>none
     | _=>none
    | .lst k=>match b with
     | .lst k' l=>match Nat.beq k' k with
      | true=>some (.sl k' l::vs)
      | false=>none
     | _=>none
    | .map kk vk=>match b with
     | .map a b m=>match Nat.beq a kk with
      | true=>match Nat.beq b vk with
       | true=>some (.rmp a b m::vs)
       | false=>none
      | false=>none
     | _=>none
    | .bx=>match b with
     | .box cs=>some (.agg cs::vs)
     | _=>none
    | .it=>match b with
     | .it s p=>some (.tup [.lit (.string s),.lit (.int .i64 (.ofNat p))]::vs)
     | _=>none
    | .rows s m=>match b with
     | .rows s' es=>match Nat.beq s' s with
      | true=>match Nat.beq es.length m with
       | true=>match es.all λe=>Nat.beq e.length s with
        | true=>some (es.flatten++vs)
        | false=>none
       | false=>none
      | false=>none
     | _=>none
def TE(H:TH): List TV->Bool
 | []=>true
 | v::r=>match v with
  | .ms i _=>match H[i]? with
   | some o=>match o with
    | .lst _ _=>TE H r
    | _=>false
   | none=>false
  | .pel i _ _=>match H[i]? with
   | some o=>match o with
    | .lst _ _=>TE H r
    | _=>false
   | none=>false
  | _=>TE H r
def Fj.get(L:Fj)(S:TS): Option (L.P×L.V):=match upT S.tm L.ts with
 | some a=>match upO L.os S.hp with
  | some b=>match SU L.ss (b++a) with
   | some p=>match TE (L.mk' p.1 p.2).hp (mkV L.ss p.1 p.2) with
    | true=>some p
    | false=>none
   | none=>none
  | none=>none
 | none=>none
def aO3(os:List OL): List Nat->Bool
 | []=>true
 | i::r=>match os[i]? with
  | some o=>match o with
   | .gone=>aO3 os r
   | _=>false
  | none=>false
def Fj.fit(L:Fj)(S:TS): Option (L.P×L.V):=match aO3 L.os L.fo with
 | true=>L.get S
 | false=>none
def aOe(n:Nat)(H:TH): List Nat->Option (List dI)
 | []=>some []
 | i::r=>match H[i]? with
  | some o=>match o with
   | .fr k a=>match Nat.beq k n with
    | true=>match aOe n H r with
     | some l=>some (a::l)
     | none=>none
    | false=>none
   | _=>none
  | none=>none
def Fj.getF(L:Fj)(n:Nat)(S:TS): Option (List dI×L.P×L.V):=match aOe n S.hp L.fo with
 | some f=>match L.fit S with
  | some p=>some (f,p)
  | none=>none
 | none=>none
structure Nv(P:Type) where
 x:cT
 lay:Fj
 pr:P->lay.P
def qU{P:Type}: List (Nv P)->Type
 | []=>Empty
 | [o]=>o.lay.V
 | o::o'::r=>o.lay.V⊕qU (o'::r)
structure h9 where
 ins:Fj
 kl:List Nat
 kt:List Nat
 outs:List (Nv ins.P)
 F:Nat->ins.P->ins.V->Option (qU outs)
structure CSp where
 ka:List Sh
 kr:List Nat
 kp:Bool
 F:Nat->fU ka->Option (fU (kr.map .v))
structure EqS where
 k:Nat
 dec:∀a b:den k,Decidable (a=b)
structure aPG where
 k:Nat
 dec:∀a b:den k,Decidable (a=b)
structure ISp where
 s:h9
 vi:Nat
 fl:Nat
 na:Nat
 nr:Nat
abbrev ISp.kl(s:ISp): List Nat:=s.s.kl
inductive PSp where
 | srt (k:Nat)
 | ins (k:Nat)
 | cln (k:Nat)
 | ord (k:Nat) (F:List (jJ.den k)->List (jJ.den k))
structure XE where
 cs:Nat->Option CSp
 eq:TypeId->Option EqS
 km:TypeId->Option aPG
 st:TypeId->Bool
 cv:TypeId->TypeId->Option IntKind
 pr:Nat->Option PSp
 kd:List (Nat×Nat)
 ls:List (Nat×List h9)
 un:List (Nat×Nat)
 il:List ISp
 nt:Nat
 fl:Nat
def Cm(lx:List Bool): TT->TT
 | []=>[]
 | p::r=>match lx[p.1]? with
  | some b=>match b with
   | true=>p::Cm lx r
   | false=>Cm lx r
  | none=>Cm lx r
def cV(n:Nat): TV->TV
 | .ms i m=>match Nat.blt i n with | true=>.ms i m | false=>.undef
 | .ptr i o=>match Nat.blt i n with | true=>.ptr i o | false=>.undef
 | .pel i j o=>match Nat.blt i n with | true=>.pel i j o | false=>.undef
 | .mp i=>match Nat.blt i n with | true=>.mp i | false=>.undef
 | .it i=>match Nat.blt i n with | true=>.it i | false=>.undef
 | .rs i m=>match Nat.blt i n with | true=>.rs i m | false=>.undef
 | .rel i m j o=>match Nat.blt i n with | true=>.rel i m j o | false=>.undef
 | .fn vi cs=>match cs with | []=>.fn vi [] | _=>.undef
 | .agg _=>.undef
 | .tup _=>.undef
 | v=>v
def jI(n:Nat): TV->TV
 | .fn vi cs=>.fn vi (cs.map (cV n))
 | v=>cV n v
def xE(n:Nat): TV->TV
 | .agg cs=>.agg (cs.map (jI n))
 | v=>jI n v
def iU(n:Nat): oT->oT
 | .box cs=>.box (cs.map (jI n))
 | .rows s es=>.rows s (es.map λe=>e.map (jI n))
 | .fr k a=>match Nat.ble k n with
  | true=>.fr k a
  | false=>.gone
 | o=>o
def rsO(kl:List Nat)(n:Nat)(H0:TH): List Nat->TH->TH
 | [],H=>H
 | i::r,H=>match H0[i]? with
  | some o=>(rsO kl n H0 r H).set i (Gw kl (iU n o))
  | none=>rsO kl n H0 r H
def rsT(kl:List Nat)(n:Nat)(T0:TT): List Nat->TT
 | []=>[]
 | t::r=>match dC t T0 with
  | some v=>(t,BS kl (xE n v))::rsT kl n T0 r
  | none=>rsT kl n T0 r
def aft(s:h9)(T0:TT)(H0:TH)(x:cT)(S:TS): TS:=⟨match x with
 | .ret=>S.tm
 | _=>S.tm++rsT s.kl H0.length T0 s.kt,rsO s.kl H0.length H0 s.ins.fo S.hp⟩
def Qv(live:List Bool)(tr:Bool)(n:Nat)(S:TS): TS:=match tr with
 | true=>⟨(Cm live S.tm).map λp=>(p.1,xE n p.2),(S.hp.take n).map (iU n)⟩
 | false=>⟨Cm live S.tm,S.hp⟩
variable {R:Type}
def Ok(v:TV)(K:TV->Option R): Option R:=match v with
 | .lit u=>match u with
  | .bool b=>cnd b (K (.lit (.bool true))) (K (.lit (.bool false)))
  | u=>K (.lit u)
 | v=>K v
def aKD: List TV->(List TV->Option R)->Option R
 | [],K=>K []
 | v::vs,K=>Ok v λv=>aKD vs λvs=>K (v::vs)
def mkK: (l:List Pl)->fU (shs false l)->fU (shs true l)->(List TV->Option R)->Option R
 | [],_,_,K=>K []
 | .con v::r,p,q,K=>mkK r p q λvs=>K (v::vs)
 | .p s::r,p,q,K=>mkK r (fU.tl p) q λvs=>K (s.tv (fU.hd p)::vs)
 | .v s::r,p,q,K=>Ok (s.tv (fU.hd q)) λv=>mkK r p (fU.tl q) λvs=>K (v::vs)
def Fj.mkB(L:Fj)(p:L.P)(q:L.V)(K:TS->Option R): Option R:=mkK L.ss p q λvs=>K (L.mkM vs)
def swO{P:Type}(p:P)(b:Bool): (l:List (Nv P))->Option (qU l)->(cT->TS->Option R)->Option R
 | [],_,_=>none
 | [o],r,K=>bnd r λt=>match b with
  | true=>o.lay.mkB (o.pr p) t (K o.x)
  | false=>K o.x (o.lay.mk' (o.pr p) t)
 | o::o'::l,r,K=>bnd2 r (λt=>match b with
  | true=>o.lay.mkB (o.pr p) t (K o.x)
  | false=>K o.x (o.lay.mk' (o.pr p) t)) λs=>swO p b (o'::l) (some s) K
def lL(E:XE)(d:Option Nat): Nat:=match d with
 | some d=>match dC d E.kd with
  | some k=>k
  | none=>0
 | none=>0
def aXa(E:XE)(d:Option Nat): Option Nat:=match d with
 | some d=>dC d E.kd
 | none=>none
def TG: TV->Bool
 | .emp b=>b
 | .lit v=>match v with
  | .slice a l c=>match a with
   | none=>match l with
    | 0=>match c with
     | 0=>true
     | _=>false
    | _=>false
   | _=>false
  | _=>false
 | _=>false
def aIw(cells:List TV): List (Nat×Nat×TV)->Option (List TV)
 | []=>some cells
 | (off,size,v)::rest=>match RY v with
  | none=>none
  | some cs=>match Nat.beq cs.length size with
   | true=>match Nat.ble (off+size) cells.length with
    | true=>aIw (aQ cells off cs) rest
    | false=>none
   | false=>none
def aIx(s:Nat)(es:List (List TV)): List (Nat×TV)->Option (List (List TV))
 | []=>some es
 | (i,v)::rest=>match RY v with
  | none=>none
  | some cs=>match Nat.beq cs.length s with
   | true=>match Nat.blt i es.length with
    | true=>aIx s (es.set i cs) rest
    | false=>none
   | false=>none
def hK(S:TS)(id:Nat)(o:oT): TS:=⟨S.tm,S.hp.set id o⟩
def Ln(S:TS)(o:oT): TS:=⟨S.tm,S.hp++[o]⟩
def aUC(op:BinOp)(k:IntKind)(a b:Int)(K:TV->Option R): Option R:=match op with
 | .add=>K (.lit (.int k (k.wrap (a+b))))
 | .sub=>K (.lit (.int k (k.wrap (a-b))))
 | .mul=>K (.lit (.int k (k.wrap (a*b))))
 | .eql=>Ok (.lit (.bool (a==b))) K
 | .neq=>Ok (.lit (.bool (a != b))) K
 | .lss=>Ok (.lit (.bool (decide (a<b)))) K
 | .leq=>Ok (.lit (.bool (decide (a<=b)))) K
 | .gtr=>Ok (.lit (.bool (decide (a > b)))) K
 | .geq=>Ok (.lit (.bool (decide (a>=b)))) K
 | _=>none
section
variable [aF]
variable (E:XE)(n:Nat)
def aUj(k:IntKind)(a d:Int): Option Int:=if d=0 then none else some (k.wrap (a.tdiv d))
def aKC(op:BinOp)(b:Bool)(K:TV->Option R): Option R:=match op with
 | .eql=>cnd b (K (.lit (.bool true))) (K (.lit (.bool false)))
 | .neq=>cnd b (K (.lit (.bool false))) (K (.lit (.bool true)))
 | _=>none
def aSJ(op:BinOp)(t:TypeId)(x y:TV)(K:TV->Option R): Option R:=match x with
 | .lit u=>match y with
  | .lit w=>match u with
   | .string a=>match w with
    | .string b=>aKC op (decide (a=b)) K
    | _=>none
   | .bool _=>match E.eq t with
    | some e=>match ag e.k with
     | true=>none
     | false=>match kA 0 [] e.k [x] with
      | some a=>match kA 0 [] e.k [y] with
       | some b=>aKC op (@decide (a=b) (e.dec a b)) K
       | none=>none
      | none=>none
    | none=>none
   | .int k a=>match w with
    | .int k' b=>match decEq k k' with
     | isTrue _=>match op with
      | .quo=>bnd (aUj k a b) λr=>K (.lit (.int k r))
      | .rem=>bnd (aJl a b) λr=>K (.lit (.int k r))
      | .shr=>match k with
       | .u64=>match decEq b 1 with
        | isTrue _=>K (.lit (.int .u64 (Int.fdiv a 2)))
        | isFalse _=>none
       | _=>none
      | _=>none
     | isFalse _=>none
    | _=>none
   | _=>none
  | _=>none
 | .agg cs=>match E.eq t with
  | some e=>match ag e.k with
   | true=>match kA 0 [] e.k cs with
    | some a=>match y with
     | .agg ds=>match kA 0 [] e.k ds with
      | some b=>aKC op (@decide (a=b) (e.dec a b)) K
      | none=>none
     | _=>none
    | none=>none
   | false=>none
  | none=>none
 | _=>none
def okA(w:Nat): List Sh->Bool
 | []=>true
 | s::r=>match s with
  | .w _=>okA w r
  | .v _=>match w with
   | 0=>okA w r
   | _=>false
  | _=>false
def Sk(w:Nat)(c:CSp)(vs:List TV)(H:TH)(K:TV->Option R): Option R:=match Et w H c.ka vs with
 | some p=>match okA w c.ka with
  | false=>none
  | true=>bnd (c.F n p) λr=>aKD (Of (c.kr.map .v) r) λvs=>match vs with
   | [v]=>K v
   | vs=>K (.tup vs)
 | none=>none
def i64?(v:TV): Option Int:=match v with
 | .lit u=>match u with
  | .int k n=>match k with
   | .i64=>some n
   | _=>none
  | _=>none
 | _=>none
def aQg(vs:List TV): Option (Int×Int):=match vs with
 | [x,y]=>match i64? x with
  | some a=>match i64? y with
   | some b=>some (a,b)
   | none=>none
  | none=>none
 | _=>none
def aLL(H:TH)(kk:Nat): TV->Option (Σ vk,List (den kk×den vk))
 | .rmp a b m=>match UC (a':=kk) (b':=b) m with
  | some m=>some ⟨b,m⟩
  | none=>none
 | .mp id=>match H[id]? with
  | some o=>match o with
   | .map a b m=>match UC (a':=kk) (b':=b) m with
    | some m=>some ⟨b,m⟩
    | none=>none
   | _=>none
  | none=>none
 | _=>none
def aQq(H:TH): TV->Option Nat
 | .rmp _ _ m=>some m.length
 | .mp id=>match H[id]? with
  | some o=>match o with
   | .map _ _ m=>some m.length
   | _=>none
  | none=>none
 | _=>none
def aJe(v:TV): Option ByteArray:=match v with
 | .lit u=>match u with
  | .string s=>some s
  | _=>none
 | _=>none
def LY(tm:TT)(x:Option bB)(d:Int): Option Int:=match x with
 | none=>some d
 | some x=>i64? (cC tm x)
def HG(tm:TT): Option bB->Bool
 | none=>true
 | some x=>match i64? (cC tm x) with
  | some n=>match n with
   | .ofNat n=>match n with
    | 0=>true
    | _=>false
   | _=>false
  | none=>false
def sub{α:Type}(l:List α)(w:Nat×Nat)(a b:Int): Option (Nat×Nat):=if 0<=a/\a<=b/\w.1+b.toNat<=l.length then some (w.1+a.toNat,b.toNat-a.toNat) else none
def SD{α:Type}(l:List α)(w:Nat×Nat)(ys:List α): Option (List α):=if w.1+w.2+ys.length<=l.length/\l.length+ys.length<=1000000 then some (aQ l (w.1+w.2) ys) else none
def aSM{α:Type}(l:List α)(w:Nat×Nat)(ys:List α): Option (List α):=if w.1=0/\w.2=l.length/\l.length+ys.length<=1000000 then some (l++ys) else SD l w ys
def Ej{α:Type}(l:List α): Option (Nat×Nat)->Nat×Nat
 | none=>(0,l.length)
 | some w=>w
def cpy{α:Type}(l:List α)(w:Nat×Nat)(ys:List α): Option (List α):=if ys.length<=w.2/\w.1+ys.length<=l.length then some (aQ l w.1 ys) else none
def clr{α:Type}(l:List α)(w:Nat×Nat)(z:α): Option (List α):=if w.1+w.2<=l.length then some (aQ l w.1 (List.replicate w.2 z)) else none
def rep{α:Type}(x:α)(a b:Int): Option (List α):=if 0<=a/\a<=b/\b<=1000000 then some (List.replicate a.toNat x) else none
def aS3(s:Nat)(tm:TT)(H:TH)(lo hi:Option bB)(v:TV)(K:TV->Option R): Option R:=match v with
 | .sl k l=>match Nat.beq (cds k).length s with
  | true=>match LY tm lo 0 with
   | some a=>match LY tm hi ((l.length:Nat):Int) with
    | some b=>bnd (cut l a b) λl'=>K (.sl k l')
    | none=>none
   | none=>none
  | false=>none
 | .vw k l=>match Nat.beq (cds k).length s with
  | true=>match LY tm lo 0 with
   | some a=>match LY tm hi ((l.length:Nat):Int) with
    | some b=>bnd (cut l a b) λl'=>K (.vw k l')
    | none=>none
   | none=>none
  | false=>none
 | .ms id m=>match H[id]? with
  | some o=>match o with
   | .lst k l=>match Nat.beq (cds k).length s&&Nat.blt 0 s with
    | true=>match LY tm lo 0 with
     | some a=>match m with
      | none=>match LY tm hi ((l.length:Nat):Int) with
       | some b=>bnd (sub l (0,l.length) a b) λw=>K (.ms id (some w))
       | none=>none
      | some w=>match LY tm hi ((w.2:Nat):Int) with
       | some b=>bnd (sub l w a b) λw=>K (.ms id (some w))
       | none=>none
     | none=>none
    | false=>none
   | _=>none
  | none=>none
 | .emp b=>match HG tm lo&&HG tm hi with
  | true=>K (.emp b)
  | false=>none
 | .lit u=>match u with
  | .slice a l c=>match a with
   | none=>match l with
    | 0=>match c with
     | 0=>match HG tm lo&&HG tm hi with
      | true=>K (.lit u)
      | false=>none
     | _=>none
    | _=>none
   | _=>none
  | _=>none
 | _=>none
def aFQ(H:TH)(id n i:Nat): Option (List TV):=match H[id]? with
 | some o=>match o with
  | .rows _ es=>match Nat.beq es.length n with
   | true=>es[i]?
   | false=>none
  | _=>none
 | none=>none
def aJU(k s:Nat)(n:Nat)(cs:List TV): Option (List (den k)):=NO [] k (qM s n cs)
def aLc(nr:Nat)(tm:TT): TV:=match nr with
 | 1=>match dC 0 tm with
  | some v=>v
  | none=>.undef
 | m=>.tup ((List.range m).map λj=>match dC j tm with
  | some v=>v
  | none=>.undef)
def TU: Nat->List TV->TT
 | _,[]=>[]
 | i,v::vs=>(i,v)::TU (i+1) vs
def VM(kl:List Nat): Nat->TH->TH->Bool
 | _,[],_=>true
 | i,a::r,s=>match s with
  | []=>false
  | b::s=>match a with
   | .lst _ _=>match b with
    | .lst _ _=>VM kl (i+1) r s
    | _=>match DO i kl with
     | true=>VM kl (i+1) r s
     | false=>false
   | _=>VM kl (i+1) r s
def aJ4: TH->TH->Bool
 | [],_=>true
 | o::r,H=>match H with
  | []=>false
  | b::s=>match o with
   | .lst _ l=>match b with
    | .lst _ l'=>Nat.beq l'.length l.length&&aJ4 r s
    | _=>false
   | _=>aJ4 r s
def Ba(fl vi:Nat)(vs:List TV)(S:TS)(K:TV->TS->Option R): List ISp->Option R
 | []=>none
 | sp::r=>match Nat.beq sp.vi vi with
  | false=>Ba fl vi vs S K r
  | true=>match Nat.beq sp.fl fl with
   | false=>Ba fl vi vs S K r
   | true=>match Nat.beq vs.length sp.na with
    | false=>Ba fl vi vs S K r
    | true=>match sp.s.ins.fit ⟨TU 0 vs,S.hp⟩ with
     | some (p,q)=>match VM (sp.kl++sp.s.ins.fo) 0 S.hp (sp.s.ins.mk' p q).hp with
      | true=>match DO 999999 sp.kl with
       | false=>swO p true sp.s.outs (sp.s.F n p q) λ_ S'=>K (aLc sp.nr S'.tm) ⟨aEr sp.kl S.tm,rsO sp.kl S.hp.length S.hp sp.s.ins.fo S'.hp⟩
       | true=>match VM sp.s.ins.fo 0 S.hp (sp.s.ins.mk' p q).hp with
        | true=>swO p true sp.s.outs (sp.s.F n p q) λ_ S'=>cnd (aJ4 (sp.s.ins.mk' p q).hp S'.hp) (K (aLc sp.nr S'.tm) ⟨S.tm,rsO [] S.hp.length S.hp sp.s.ins.fo S'.hp⟩) none
        | false=>Ba fl vi vs S K r
      | false=>Ba fl vi vs S K r
     | none=>Ba fl vi vs S K r
def aMc: TV->Bool
 | .ptr _ _=>true
 | .pel _ _ _=>true
 | .ms _ _=>true
 | .mp _=>true
 | .rs _ _=>true
 | .rel _ _ _ _=>true
 | _=>false
def aQ9(vi:Nat)(vs:List TV)(S:TS)(K:TV->TS->Option R): Option R:=match vs.any aMc with
 | true=>Ba n S.hp.length vi (vs.map aRI) S (λv _=>match v with
  | .lit u=>match u with
   | .slice _ _ _=>none
   | u=>K (.lit u) S
  | .sl k l=>K (.sl k l) S
  | _=>none) E.il
 | false=>none
def F7(v:TV)(S:TS)(K:TV->TS->Option R): Option R:=match v with
 | .sl k l=>K (.ms S.hp.length none) (Ln S (.lst k l))
 | .tup vs=>match vs with
  | v::r=>match v with
   | .sl k l=>match r.all λv=>match v with | .lit _=>true | _=>false with
    | true=>K (.tup (.ms S.hp.length none::r)) (Ln S (.lst k l))
    | false=>none
   | _=>none
  | []=>none
 | _=>none
def kdL(E:XE)(d o:Nat): Nat:=lL E (some (1000*(d+1)+o))
def tI(n:Nat)(cs:List TV): List (Nat×Nat)->List TV
 | []=>cs
 | (o,_)::r=>tI (n+1) (cs.set o (.ms n none)) r
def aGz: TV->Bool
 | .lit u=>match u with
  | .slice a l c=>match a with
   | none=>match l with
    | 0=>match c with
     | 0=>true
     | _=>false
    | _=>false
   | _=>false
  | _=>false
 | _=>false
def aKw(E:XE): Option Nat->Option (Nat×Nat)
 | some d=>match dC (1000*(d+1)+999) E.kd with
  | some _=>some (0,0)
  | none=>none
 | none=>none
def aGq(E:XE)(d:Nat): List (Nat×Nat)->Bool
 | []=>true
 | (o,s)::r=>match Nat.beq (cds (kdL E d o)).length s with
  | true=>aGq E d r
  | false=>false
def aSA(c:CSp)(k:Nat)(H:TH)(x y:den k): Option Int:=Sk n 1 c [val k x,val k y] H i64?
def He(id:Nat)(S:TS): TS:=iM id (hK S id .gone)
def aSB(vi id k:Nat)(caps:List TV)(S:TS)(x y:den k): Option Int:=Ba n S.hp.length vi (val k x::val k y::caps.map (BS [id])) ⟨[],(He id S).hp⟩ (λv _=>i64? v) E.il
def aNH{α:Type}(F:α->α->Option Int)(m:Option (Nat×Nat))(l:List α)(K:List α->Option R): Option R:=match m with
 | none=>bnd (Nu (decide (l.length<=1000000))) λ_=>bnd (qY F l) K
 | some w=>bnd (Nu (decide (l.length<=1000000/\w.1+w.2<=l.length))) λ_=>bnd (qY F (win l (some w))) λl'=>K (aQ l w.1 l')
def VN{α:Type}(l:List α)(j:Int)(y:α): Option (List α):=if 0<=j/\j.toNat<=l.length/\l.length<=1000000 then some (l.take j.toNat++y::l.drop j.toNat) else none
def aLN(fl:Nat)(H:TH)(k:Nat)(v:TV): Option (Nat×List (den k)):=match v with
 | .ms id m=>match m with
  | some _=>none
  | none=>match Nat.ble fl id with
   | false=>none
   | true=>match H[id]? with
    | some o=>match o with
     | .lst k' l=>match CH (λk=>List (den k)) (k':=k) l with
      | some l=>some (id,l)
      | none=>none
     | _=>none
    | none=>none
 | _=>none
def aRE(H:TH)(k id:Nat)(v:TV): Option (den k):=match v with
 | .ms _ _=>match aLN 0 H k v with
  | some q=>match Nat.beq id q.1 with
   | true=>none
   | false=>match q.2 with
    | [z]=>some z
    | _=>none
  | none=>none
 | _=>none
def aVc(d k:Nat)(vs:List TV)(S:TS)(K:TV->TS->Option R): Option R:=match vs with
 | [x]=>match rdX [] k x with
  | some l=>bnd (prd d) λ_=>cnd l.isEmpty (K (.emp false) S) (bnd (app [] l) λl'=>K (.ms S.hp.length none) (Ln S (.lst k l')))
  | none=>none
 | _=>none
def aLi(p:PSp)(vs:List TV)(S:TS)(K:TV->TS->Option R): Option R:=match p with
 | .srt k=>match vs with
  | [x,f]=>match x with
   | .ms id m=>match Nat.ble E.fl id with
    | false=>none
    | true=>match S.hp[id]? with
     | some o=>match o with
      | .lst k' l=>match CH (λk=>List (den k)) (k':=k) l with
       | some l=>match f with
        | .fn vc caps=>match caps with
         | []=>match E.cs vc with
          | some c=>aNH (aSA n c k (He id S).hp) m l λl'=>K (.tup []) (hK S id (.lst k l'))
          | none=>none
         | c::r=>aNH (aSB E n vc id k (c::r) S) m l λl'=>K (.tup []) (hK S id (.lst k l'))
        | _=>none
       | none=>none
      | _=>none
     | none=>none
   | _=>none
  | _=>none
 | .ord k F=>match vs with
  | [x]=>match aLN E.fl S.hp k x with
   | some p=>bnd (Nu (decide (p.2.length<=1000000))) λ_=>K (.tup []) (hK S p.1 (.lst k (F p.2)))
   | none=>none
  | _=>none
 | .ins k=>match vs with
  | [x,i,y]=>match aLN E.fl S.hp k x with
   | some p=>match i64? i with
    | some j=>match aRE S.hp k p.1 y with
     | some z=>bnd (VN p.2 j z) λl'=>K (.ms p.1 none) (iM p.1 (hK S p.1 (.lst k l')))
     | none=>none
    | none=>none
   | none=>none
  | _=>none
 | .cln _=>none
def cO(d:Option Nat)(op:Jn)(S:TS)(K:TV->TS->Option R): Option R:=
 match op with
 | .mov x=>K (cC S.tm x) S
 | .movN x=>K (aRI (cC S.tm x)) S
 | .pick c a b=>match cC S.tm c with
  | .lit u=>match u with
   | .bool t=>cnd t (K (cC S.tm a) S) (K (cC S.tm b) S)
   | _=>none
  | _=>none
 | .alloc z=>K (.ptr S.hp.length 0) (Ln S (.box (z.map .lit)))
 | .ptrK n=>K (.ptr n 0) S
 | .claim s=>match Nat.beq (cds (lL E d)).length s with
  | true=>K (.ms S.hp.length (aKw E d)) (Ln S (.lst (lL E d) []))
  | false=>none
 | .boxC x cl=>match d with
  | some d=>match aGq E d cl with
   | true=>match RY (cC S.tm x) with
    | some cs=>match cl.all λc=>match cs[c.1]? with | some v=>aGz v | none=>false with
     | true=>K (.ptr (S.hp.length+cl.length) 0) ⟨S.tm,(S.hp++cl.map λc=>.lst (kdL E d c.1) [])++[.box (tI S.hp.length cs cl)]⟩
     | false=>none
    | none=>none
   | false=>none
  | none=>none
 | .box x=>match RY (cC S.tm x) with
  | some cs=>K (.ptr S.hp.length 0) (Ln S (.box cs))
  | none=>none
 | .build z ps=>match aIw (z.map .lit) (ps.map λ(o,s,x)=>(o,s,cC S.tm x)) with
  | some cs=>K (.agg cs) S
  | none=>none
 | .buildSl pu s m z ps=>match aIx s (List.replicate m (z.map .lit)) (ps.map λ(i,x)=>(i,cC S.tm x)) with
  | some es=>match aXa E d with
   | none=>match pu with
    | true=>none
    | false=>K (.rs S.hp.length m) (Ln S (.rows s es))
   | some _=>match NO S.hp (lL E d) es with
    | some l=>match Nat.beq (cds (lL E d)).length s with
     | true=>match pu with
      | true=>match es with
       | []=>K (.emp true) S
       | _=>K (.sl (lL E d) l) S
      | false=>K (.ms S.hp.length none) (Ln S (.lst (lL E d) l))
     | false=>none
    | none=>none
  | none=>none
 | .allocC z cl=>match d with
  | some d=>match aGq E d cl with
   | true=>K (.ptr (S.hp.length+cl.length) 0) ⟨S.tm,(S.hp++cl.map λc=>.lst (kdL E d c.1) [])++[.box (tI S.hp.length (z.map .lit) cl)]⟩
   | false=>none
  | none=>none
 | .load agg n x=>match cC S.tm x with
  | .rel id m i off=>match aFQ S.hp id m i with
   | some cs=>BR cs agg off n λv=>K v S
   | none=>none
  | .ptr id off=>match S.hp[id]? with
   | some o=>match o with
    | .box cs=>BR cs agg off n λv=>K v S
    | _=>none
   | none=>none
  | .rptr cs=>BR cs agg 0 n λv=>K v S
  | .sptr k x=>BR (jX k x) agg 0 n λv=>K v S
  | .pel id i off=>match S.hp[id]? with
   | some o=>match o with
    | .lst k l=>bnd (idx l i) λx=>BR (jX k x) agg off n λv=>K v S
    | _=>none
   | none=>none
  | _=>none
 | .store n x v=>match RY (cC S.tm v) with
  | some cs=>match Nat.beq cs.length n with
   | true=>match cC S.tm x with
    | .ptr id off=>match Nat.ble E.fl id with
     | false=>none
     | true=>match S.hp[id]? with
      | some o=>match o with
       | .box bs=>match Nat.ble (off+cs.length) bs.length with
        | true=>K (.lit bQ) (hK S id (.box (aQ bs off cs)))
        | false=>none
       | _=>none
      | none=>none
    | .pel id i off=>match Nat.ble E.fl id with
     | false=>none
     | true=>match S.hp[id]? with
      | some o=>match o with
       | .lst k l=>bnd (idx l i) λx=>match Nat.ble (off+cs.length) (cds k).length with
        | true=>match kA 0 [] k (aQ (jX k x) off cs) with
         | some x'=>K (.lit bQ) (hK S id (.lst k (l.set i.toNat x')))
         | none=>none
        | false=>none
       | _=>none
      | none=>none
    | _=>none
   | false=>none
  | none=>none
 | .nilCheck x=>match cC S.tm x with
  | .ptr id off=>K (.ptr id off) S
  | .pel id i off=>K (.pel id i off) S
  | .rptr cs=>K (.rptr cs) S
  | .sptr k x=>K (.sptr k x) S
  | .fn vi caps=>K (.fn vi caps) S
  | _=>none
 | .ibin op x y=>match cC S.tm x with
  | .lit u=>match u with
   | .int k a=>match cC S.tm y with
    | .lit w=>match w with
     | .int k' b=>match decEq k k' with
      | isTrue _=>aUC op k a b λv=>K v S
      | isFalse _=>none
     | _=>none
    | _=>none
   | _=>none
  | _=>none
 | .bin op t x y=>aSJ E op t (cC S.tm x) (cC S.tm y) λv=>K v S
 | .un op x=>match op with
  | .neg=>match cC S.tm x with
   | .lit u=>match u with
    | .int k a=>K (.lit (.int k (k.wrap (0-a)))) S
    | _=>none
   | _=>none
  | .not=>match cC S.tm x with
   | .lit u=>match u with
    | .bool b=>K (.lit (.bool (!b))) S
    | _=>none
   | _=>none
  | _=>none
 | .fieldAddr off x=>match cC S.tm x with
  | .ptr id o=>K (.ptr id (o+off)) S
  | .pel id i o=>K (.pel id i (o+off)) S
  | .rptr cs=>K (.rptr (cs.drop off)) S
  | .sptr k x=>K (.rptr ((jX k x).drop off)) S
  | .rel id m i o=>K (.rel id m i (o+off)) S
  | _=>none
 | .field agg n off x=>match cC S.tm x with
  | .agg cs=>BR cs agg off n λv=>K v S
  | _=>none
 | .idxAddr s x i=>match aIm (cC S.tm i) with
  | some i=>match cC S.tm x with
   | .sl k l=>match Nat.beq (cds k).length s with
    | true=>bnd (idx l i) λx=>K (.rptr (jX k x)) S
    | false=>none
   | .vw k l=>match Nat.beq (cds k).length s with
    | true=>bnd (idx l i) λx=>K (.rptr (jX k x)) S
    | false=>none
   | .ms id m=>match S.hp[id]? with
    | some o=>match o with
     | .lst k l=>match Nat.beq (cds k).length s with
      | true=>match m with
       | none=>bnd (eM l l.length i) λx=>K (.pel id i 0) S
       | some w=>bnd (idx (win l (some w)) i) λx=>K (.pel id (i+((w.1:Nat):Int)) 0) S
      | false=>none
     | _=>none
    | none=>none
   | .rs id m=>match i with
    | .ofNat j=>match S.hp[id]? with
     | some o=>match o with
      | .rows s' es=>match Nat.beq s' s&&(Nat.beq es.length m&&Nat.blt j m) with
       | true=>K (.rel id m j 0) S
       | false=>none
      | _=>none
     | none=>none
    | _=>none
   | _=>none
  | none=>none
 | .index agg s m x i=>match cC S.tm x with
  | .agg cs=>match Nat.beq cs.length (m*s) with
   | false=>none
   | true=>match aIm (cC S.tm i) with
    | none=>none
    | some i=>match d with
     | none=>none
     | some d'=>match dC d' E.kd with
      | none=>match i with
       | .ofNat j=>match Nat.blt j m with
        | true=>BR cs agg (j*s) s λv=>K v S
        | false=>none
       | _=>none
      | some k=>match agg with
       | true=>match Nat.beq (cds k).length s with
        | true=>match aJU k s m cs with
         | some l=>bnd (idx l i) λx=>K (.agg (jX k x)) S
         | none=>none
        | false=>none
       | false=>none
  | _=>none
 | .mkMap=>match cds (lL E d) with
  | [c]=>match c with
   | .mp kk vk=>K (.mp S.hp.length) (Ln S (.map kk vk []))
   | _=>none
  | _=>none
 | .lookup kt z m k ok=>match E.km kt with
  | some ks=>match k8 0 [] ks.k (cC S.tm k) with
   | some kx=>match aLL S.hp ks.k (cC S.tm m) with
    | some p=>match k8 0 [] p.1 (cC S.tm z) with
     | some z'=>match ok with
      | true=>Ok (.lit (.bool (@cE _ _ ks.dec p.2 kx).isSome)) λb=>Ok (val p.1 ((@cE _ _ ks.dec p.2 kx).getD z')) λv=>K (.tup [v,b]) S
      | false=>Ok (val p.1 ((@cE _ _ ks.dec p.2 kx).getD z')) λv=>K v S
     | none=>none
    | none=>none
   | none=>none
  | none=>none
 | .mapUpd kt m k v=>match E.km kt with
  | some ks=>match k8 0 [] ks.k (cC S.tm k) with
   | some kx=>match cC S.tm m with
    | .mp id=>match Nat.ble E.fl id with
     | false=>none
     | true=>match aLL S.hp ks.k (.mp id) with
      | some p=>match k8 0 [] p.1 (cC S.tm v) with
       | some v'=>K (.lit bQ) (hK S id (.map ks.k p.1 (@kW _ _ ks.dec p.2 kx v')))
       | none=>none
      | none=>none
    | _=>none
   | none=>none
  | none=>none
 | .lenM x=>match aQq S.hp (cC S.tm x) with
  | some n=>K (.lit (.int .i64 ((n:Nat):Int))) S
  | none=>none
 | .lenStr t x=>match E.st t with
  | true=>match aJe (cC S.tm x) with
   | some s=>K (.lit (.int .i64 ((s.size:Nat):Int))) S
   | none=>none
  | false=>none
 | .strIdx t x i=>match E.st t with
  | true=>match aJe (cC S.tm x) with
   | some s=>match i64? (cC S.tm i) with
    | some j=>bnd (sat s j) λv=>K (.lit (.int .u8 v)) S
    | none=>none
   | none=>none
  | false=>none
 | .strSlice _ x lo hi=>match aJe (cC S.tm x) with
  | some s=>match LY S.tm lo 0 with
   | some a=>match LY S.tm hi ((s.size:Nat):Int) with
    | some b=>bnd (aUY s a b) λr=>K (.lit (.string r)) S
    | none=>none
   | none=>none
  | none=>none
 | .rangeStr x=>match aJe (cC S.tm x) with
  | some s=>K (.it S.hp.length) (Ln S (.it s 0))
  | none=>none
 | .nextStr x=>match cC S.tm x with
  | .it id=>match Nat.ble E.fl id with
   | false=>none
   | true=>match S.hp[id]? with
    | some o=>match o with
     | .it s p=>cnd (decide (p<s.size)) (K (.tup [.lit (.bool true),.lit (.int .i64 ((p:Nat):Int)),.lit (.int .i32 (((Utf8.decode s p).1:Nat):Int))]) (hK S id (.it s (p+(Utf8.decode s p).2)))) (K (.tup [.lit (.bool false)]) S)
     | _=>none
    | none=>none
  | _=>none
 | .conv src dst x=>match E.cv src dst with
  | some k'=>match cC S.tm x with
   | .lit u=>match u with
    | .int k a=>K (.lit (.int k' (k'.wrap a))) S
    | _=>none
   | _=>none
  | none=>none
 | .slice s x lo hi mx=>match mx with
  | none=>aS3 s S.tm S.hp lo hi (cC S.tm x) λv=>K v S
  | some m=>match hi with
   | none=>none
   | some h=>match cC S.tm x with
    | .ms id w=>match S.hp[id]? with
     | some o=>match o with
      | .lst k l=>match LY S.tm lo 0 with
       | some a=>match i64? (cC S.tm h) with
        | some b=>match i64? (cC S.tm m) with
         | some c=>bnd (Nu (decide (0<=a/\a<=b/\b<=c/\c<=(((Ej l w).2:Nat):Int)))) λ_=>K .undef S
         | none=>none
        | none=>none
       | none=>none
      | _=>none
     | none=>none
    | .sl k _=>match HG S.tm lo&&(HG S.tm (some h)&&HG S.tm (some m)) with
     | true=>match Nat.beq (cds k).length s with
      | true=>K (.emp true) S
      | false=>none
     | false=>none
    | _=>none
 | .lenS x=>match aRS S.hp (cC S.tm x) with
  | some n=>K (.lit (.int .i64 ((n:Nat):Int))) S
  | none=>none
 | .append s bytes x y=>match cC S.tm x with
  | .ms id m=>match S.hp[id]? with
   | some o=>match o with
    | .lst k l=>match rdX S.hp k (cC S.tm y) with
     | some ys=>match Nat.beq (cds k).length s&&(Nat.blt 0 s&&Nat.ble E.fl id) with
      | true=>match Nat.ble bytes 100000 with
       | true=>match m with
        | none=>bnd (app l ys) λl'=>K (.ms id none) (iM id (hK S id (.lst k l')))
        | some w=>match aKw E d with
         | none=>bnd (SD l w ys) λl'=>K (.ms id (some (w.1,w.2+ys.length))) (hK S id (.lst k l'))
         | some _=>bnd (aSM l w ys) λl'=>K (.ms id (some (w.1,w.2+ys.length))) (iM id (hK S id (.lst k l')))
       | false=>none
      | false=>none
     | none=>none
    | _=>none
   | none=>none
  | v=>match TG v with
   | true=>match Nat.beq (cds (lL E d)).length s&&Nat.blt 0 s with
    | true=>match rdX S.hp (lL E d) (cC S.tm y) with
     | some ys=>match Nat.ble bytes 100000 with
      | true=>cnd (List.isEmpty ys) (K v S) (bnd (app [] ys) λl'=>K (.ms S.hp.length none) (Ln S (.lst (lL E d) l')))
      | false=>none
     | none=>none
    | false=>none
   | false=>none
 | .mkSlice s z bytes len cap=>match Nat.beq (cds (lL E d)).length s&&(Nat.beq z.length s&&Nat.ble bytes 100000) with
  | true=>match kA 0 [] (lL E d) (z.map .lit) with
   | some x=>match i64? (cC S.tm len) with
    | some a=>match i64? (cC S.tm cap) with
     | some b=>bnd (rep x a b) λl=>K (.ms S.hp.length none) (Ln S (.lst (lL E d) l))
     | none=>none
    | none=>none
   | none=>none
  | false=>none
 | .copy s x y=>match cC S.tm x with
  | .ms id m=>match S.hp[id]? with
   | some o=>match o with
    | .lst k l=>match rdX S.hp k (cC S.tm y) with
     | some ys=>match Nat.beq (cds k).length s&&(Nat.blt 0 s&&Nat.ble E.fl id) with
      | true=>bnd (cpy l (Ej l m) ys) λl'=>K (.lit (.int .i64 ((ys.length:Nat):Int))) (hK S id (.lst k l'))
      | false=>none
     | none=>none
    | _=>none
   | none=>none
  | _=>none
 | .clear s z x=>match cC S.tm x with
  | .ms id m=>match S.hp[id]? with
   | some o=>match o with
    | .lst k l=>match kA 0 [] k (z.map .lit) with
     | some z'=>match Nat.beq (cds k).length s&&(Nat.blt 0 s&&(Nat.ble E.fl id&&Nat.beq z.length s)) with
      | true=>bnd (clr l (Ej l m) z') λl'=>K (.tup []) (hK S id (.lst k l'))
      | false=>none
     | none=>none
    | _=>none
   | none=>none
  | v=>match TG v with
   | true=>K (.tup []) S
   | false=>none
 | .capS x=>match TG (cC S.tm x) with
  | true=>K (.lit (.int .i64 0)) S
  | false=>none
 | .appendZ s bytes z x m=>match TG (cC S.tm x) with
  | true=>match Nat.beq (cds (lL E d)).length s&&(Nat.blt 0 s&&(Nat.beq z.length s&&Nat.ble bytes 100000)) with
   | true=>match kA 0 [] (lL E d) (z.map .lit) with
    | some z'=>match i64? (cC S.tm m) with
     | some a=>bnd (rep z' a a) λl=>cnd l.isEmpty (K (cC S.tm x) S) (K (.ms S.hp.length none) (Ln S (.lst (lL E d) l)))
     | none=>none
    | none=>none
   | false=>none
  | false=>match cC S.tm x with
   | .ms id w=>match w with
    | none=>match S.hp[id]? with
     | some o=>match o with
      | .lst k l=>match Nat.beq (cds k).length s&&(Nat.blt 0 s&&(Nat.ble E.fl id&&(Nat.beq z.length s&&Nat.ble bytes 100000))) with
       | true=>match kA 0 [] k (z.map .lit) with
        | some z'=>match i64? (cC S.tm m) with
         | some a=>bnd (rep z' a a) λy=>bnd (app l y) λv=>K (.ms id none) (iM id (hK S id (.lst k v)))
         | none=>none
        | none=>none
       | false=>none
      | _=>none
     | none=>none
    | some _=>none
   | _=>none
 | .loadF m k x=>match cC S.tm x with
  | .ptr id off=>match off with
   | 0=>match S.hp[id]? with
    | some o=>match o with
     | .box cs=>match Nat.beq cs.length m with
      | true=>match cs[k]? with
       | some v=>match v with
        | .ms j w=>match Nat.ble E.fl j with
         | true=>match S.hp[j]? with
          | some o=>match o with
           | .lst kk l=>K (.agg ((cs.map (BS [j])).set k (.sl kk (win l w)))) (He j S)
           | _=>none
          | none=>none
         | false=>none
        | .emp _=>K (.agg cs) S
        | .lit _=>K (.agg cs) S
        | _=>none
       | none=>none
      | false=>none
     | _=>none
    | none=>none
   | _=>none
  | _=>none
 | .extract x i=>match cC S.tm x with
  | .tup vs=>match vs[i]? with
   | some v=>K v S
   | none=>none
  | _=>none
 | .call pu vi args=>match pu with
  | true=>match E.cs vi with
   | some c=>Sk n 0 c (args.map (cC S.tm)) [] λv=>K v S
   | none=>none
  | false=>match E.pr vi with
   | some p=>bnd (prd n) λm=>aLi E m p (args.map (cC S.tm)) S K
   | none=>match Nat.ble E.fl S.hp.length with
    | true=>Ba n E.fl vi (args.map (cC S.tm)) S K E.il
    | false=>none
 | .callv pu x args=>match cC S.tm x with
  | .fn vi caps=>match pu with
   | true=>match caps with
    | []=>match E.cs vi with
     | some c=>Sk n 0 c (args.map (cC S.tm)) [] λv=>K v S
     | none=>none
    | c::r=>aQ9 E n vi (args.map (cC S.tm)++c::r) S K
   | false=>match Nat.ble E.fl S.hp.length with
    | true=>Ba n E.fl vi (args.map (cC S.tm)++caps) S K E.il
    | false=>none
  | _=>none
 | .callT s vi args=>match E.cs vi with
  | some c=>match c.kp with
   | true=>match c.kr with
    | k::_=>match cds k with
     | [e]=>match e with
      | .sl k'=>match Nat.beq (cds k').length s&&!(ag k) with
       | true=>Sk n 1 c (args.map (cC S.tm)) S.hp λv=>F7 v S K
       | false=>none
      | _=>none
     | _=>none
    | []=>none
   | false=>none
  | none=>none
 | .mkFn vi caps=>K (.fn vi (caps.map (cC S.tm))) S
 | .lenC n=>K (.lit (.int .i64 n)) S
 | .callF vi args=>match E.pr vi with
  | some p=>match p with
   | .cln k=>aVc n k (args.map (cC S.tm)) S K
   | _=>none
  | none=>Ba n S.hp.length vi (args.map (cC S.tm)) S K E.il
 | .callB vi args=>match E.cs vi with
  | some c=>Sk n 1 c (args.map (cC S.tm)) S.hp λv=>K v S
  | none=>none
 | .minmax mx xs=>match aQg (xs.map (cC S.tm)) with
  | some p=>match mx with
   | true=>K (.lit (.int .i64 (oB p.1 p.2))) S
   | false=>K (.lit (.int .i64 (PS p.1 p.2))) S
  | none=>none
 | _=>none
def aOg(N:Nat)(d:Option Nat)(v:TV)(S:TS)(K:TS->Option R): Option R:=match d with
 | some d=>match Nat.blt d N with
  | true=>K ⟨(d,v)::S.tm,S.hp⟩
  | false=>none
 | none=>K S
def aD5(t:Nat)(b:Bool)(S:TS): TS:=⟨(t,.lit (.bool b))::S.tm,S.hp⟩
def aMw(o:bE)(S:TS)(K:TS->Option R): Option R:=cO E n o.dst o.op S λv S=>aOg E.nt o.dst v S K
def aEH(o:bE)(S:TS)(K:TS->Option R): Option R:=aOg E.nt o.dst (.lit bQ) S K
def aC4(o:bE)(S:TS)(K:TS->Option R): Option R:=match o.guard with
 | none=>aMw E n o S K
 | some g=>match dC g.1 S.tm with
  | some v=>match v with
   | .lit u=>match u with
    | .bool b=>match g.2 with
     | true=>cnd b (aMw E n o (aD5 g.1 true S) K) (aEH E o (aD5 g.1 false S) K)
     | false=>cnd b (aEH E o (aD5 g.1 true S) K) (aMw E n o (aD5 g.1 false S) K)
    | .tuple _=>aEH E o S K
    | _=>none
   | _=>none
  | none=>none
def aMv: List bE->TS->(TS->Option R)->Option R
 | [],S,K=>K S
 | o::r,S,K=>aC4 E n o S λS=>aMv r S K
def nLp: bU->Nat
 | .seq a b=>nLp a+nLp b
 | .cond _ a b=>nLp a+nLp b
 | .block _ c=>nLp c
 | .loop _ _ c=>nLp c
 | .mask _ _ _ c=>1+nLp c
 | .told _ _ _ c=>1+nLp c
 | .scope c=>nLp c
 | .frz _ c=>nLp c
 | _=>0
def aJx: TV->Option (Option Nat)
 | .undef=>none
 | .tup _=>none
 | .agg _=>none
 | .fn _ _=>none
 | .ptr id _=>some (some id)
 | .pel id _ _=>some (some id)
 | .ms id _=>some (some id)
 | .mp id=>some (some id)
 | .rs id _=>some (some id)
 | .rel id _ _ _=>some (some id)
 | _=>some none
def aR4: TV->Bool
 | .lit _=>true
 | .emp _=>true
 | .sl _ _=>true
 | .rptr _=>true
 | .sptr _ _=>true
 | .rmp _ _ _=>true
 | _=>false
def aOj: List TV->Bool
 | []=>true
 | x::r=>match aR4 x with
  | true=>aOj r
  | false=>false
def aUm: TV->Bool
 | .agg cs=>aOj cs
 | v=>aR4 v
def aOk: List TV->Bool
 | []=>true
 | x::r=>match aUm x with
  | true=>aOk r
  | false=>false
def aDz(op:Jn)(tm:TT): Option (Option Nat):=match op with
 | .load _ _ x=>aJx (cC tm x)
 | .idxAddr _ x _=>aJx (cC tm x)
 | .slice _ x _ _ _=>aJx (cC tm x)
 | .lookup _ _ m _ _=>aJx (cC tm m)
 | .lenM x=>aJx (cC tm x)
 | .call pu _ args=>match pu with
  | true=>match aOk (args.map (cC tm)) with
   | true=>some none
   | false=>none
  | false=>none
 | .callB _ args=>match args with
  | [x]=>match cC tm x with
   | .sl _ _=>some none
   | .vw _ _=>some none
   | _=>none
  | _=>none
 | _=>none
def PO(op:Jn)(tm:TT)(n id:Nat): Bool:=match op with
 | .alloc _=>Nat.blt id n
 | .claim _=>Nat.blt id n
 | .allocC _ _=>Nat.blt id n
 | .box _=>Nat.blt id n
 | .boxC _ _=>Nat.blt id n
 | .buildSl _ _ _ _ _=>Nat.blt id n
 | .mkMap=>Nat.blt id n
 | .callT _ _ _=>Nat.blt id n
 | .store _ x _=>match cC tm x with
  | .ptr i _=>!Nat.beq i id
  | .pel i _ _=>!Nat.beq i id
  | _=>false
 | .append _ _ x _=>match cC tm x with
  | .ms i _=>!Nat.beq i id
  | .emp _=>Nat.blt id n
  | .lit _=>Nat.blt id n
  | _=>false
 | .mapUpd _ m _ _=>match cC tm m with
  | .mp i=>!Nat.beq i id
  | _=>false
 | _=>false
def aDj(tm:TT): Option (Nat×Bool)->Option Bool
 | none=>some true
 | some g=>match dC g.1 tm with
  | some v=>match v with
   | .lit u=>match u with
    | .bool b=>some (b==g.2)
    | .tuple _=>some false
    | _=>none
   | _=>none
  | none=>none
def ck1(ops:List bE)(l:List TS)(k m:Nat): Bool:=match ops[k]? with
 | some ok=>match l[k]? with
  | some sk=>match aDj sk.tm ok.guard with
   | some false=>true
   | _=>match aDz ok.op sk.tm with
    | none=>false
    | some o=>match o with
     | none=>true
     | some id=>match ops[m]? with
      | some om=>match l[m]? with
       | some sm=>match aDj sm.tm om.guard with
        | some false=>true
        | _=>PO om.op sm.tm sm.hp.length id
       | none=>false
      | none=>false
  | none=>false
 | none=>false
def ckL(ops:List bE)(l:List TS): List (Nat×Nat)->Bool
 | []=>true
 | p::r=>match ck1 ops l p.1 p.2 with
  | true=>ckL ops l r
  | false=>false
def QQ: List bE->TS->List TS->(List TS->TS->Option R)->Option R
 | [],S,l,K=>K (S::l).reverse S
 | o::r,S,l,K=>aC4 E n o S λS'=>QQ r S' (S::l) K
def aCn(n:Nat): Nat->List bE->List TS->Bool
 | 0,_,_=>true
 | m+1,o::r,s::l=>match (match fE o.op with
   | true=>true
   | false=>match aDj s.tm o.guard with
    | some false=>true
    | _=>PO o.op s.tm s.hp.length n) with
  | true=>aCn n m r l
  | false=>false
 | _,_,_=>false
def aMu(ck:List (Nat×Nat))(ops:List bE)(S:TS)(K:TS->Option R): Option R:=match ck with
 | []=>aMv E n ops S K
 | c::r=>match Nat.beq c.1 c.2 with
  | false=>QQ E n ops S [] λl S=>match ckL ops l (c::r) with
   | true=>K S
   | false=>none
  | true=>QQ E n (eW ops c.1 S.hp.length) (Ln S (.box ((phZ ops c.1).map .lit))) [] λl S'=>match ckL (eW ops c.1 S.hp.length) l r with
   | true=>match aCn S.hp.length c.1 (eW ops c.1 S.hp.length) l with
    | true=>K S'
    | false=>none
   | false=>none
def aJa(n:Nat)(b:Bool)(T0:TT)(S:TS)(K:cT->TS->Option R): List h9->Option R
 | []=>none
 | sp::r=>match sp.ins.fit S with
  | some (p,q)=>match VM (sp.kl++sp.ins.fo) 0 S.hp (sp.ins.mk' p q).hp with
   | true=>swO p b sp.outs (sp.F n p q) λx S'=>K x (aft sp T0 S.hp x S')
   | false=>aJa n b T0 S K r
  | none=>aJa n b T0 S K r
def aN4(body:TS->(cT->TS->Option R)->Option R)(hd:TS->TS): Nat->TS->(cT->TS->Option R)->Option R
 | 0,_,_=>none
 | m+1,S,K=>body (hd S) λx S=>match x with
  | .normal=>aN4 body hd m S K
  | x=>K x S
def aSl(t:Nat)(k:Nat)(S:TS)(K:TS->Option R): Option R:=match dC t S.tm with
 | some v=>match v with
  | .ms id m=>match Nat.ble E.fl id with
   | false=>none
   | true=>match S.hp[id]? with
    | some o=>match o with
     | .lst k l=>K ⟨(t,.sl k (win l m))::(He id S).tm,(He id S).hp⟩
     | _=>none
    | none=>none
  | .ptr id off=>match off with
   | 0=>match Nat.ble E.fl id with
    | false=>none
    | true=>match S.hp[id]? with
     | some o=>match o with
      | .box cs=>match kA 0 [] k cs with
       | some x=>K ⟨(t,.sptr k x)::(He id S).tm,(He id S).hp⟩
       | none=>none
      | _=>none
     | none=>none
   | _=>none
  | .undef=>none
  | .pel _ _ _=>none
  | .rel _ _ _ _=>none
  | .rs _ _=>none
  | v=>K S
 | none=>none
def TP: bU->Nat->TS->(cT->TS->Option R)->Option R
 | .skip,_,S,K=>K .normal S
 | .region _ ck ops,_,S,K=>aMu E n ck ops S (K .normal)
 | .seq a b,i,S,K=>TP a i S λx S=>match x with
  | .normal=>TP b (i+nLp a) S K
  | x=>K x S
 | .cond c a b,i,S,K=>match c with
  | .tmp t=>match dC t S.tm with
   | some v=>match v with
    | .lit u=>match u with
     | .bool v=>cnd v (TP a i (aD5 t true S) K) (TP b (i+nLp a) (aD5 t false S) K)
     | _=>none
    | _=>none
   | none=>none
  | _=>none
 | .block id c,i,S,K=>TP c i S λx S=>match x with
  | .exit j=>match Nat.beq j id with
   | true=>K .normal S
   | false=>K (.exit j) S
  | x=>K x S
 | .exit id,_,S,K=>K (.exit id) S
 | .ret,_,S,K=>K .ret S
 | .mask lx lr tr c,i,S,K=>match Nat.ble E.fl S.hp.length with
  | false=>none
  | true=>match c with
   | .loop live tr' b=>match live with
    | none=>none
    | some live=>match dC i E.un with
     | some m=>bnd (Nu (Nat.ble m n)) λ_=>aN4 (λS K=>TP b (i+1) S K) (Qv live tr' S.hp.length) m S λx S'=>match x with
      | .normal=>none
      | .ret=>K .ret ⟨Cm lr S'.tm,S'.hp⟩
      | .exit j=>K (.exit j) (Qv lx tr S.hp.length S')
     | none=>match dC i E.ls with
      | some l=>aJa n false S.tm (Qv live tr' S.hp.length S) K l
      | none=>none
   | _=>none
 | .told li lx lr c,i,S,K=>match Nat.ble E.fl S.hp.length with
  | false=>none
  | true=>match dC i E.ls with
   | some l=>aJa n true S.tm ⟨Cm li S.tm,S.hp⟩ K l
   | none=>none
 | .scope c,i,S,K=>TP c i S K
 | .frz t c,i,S,K=>aSl E t (lL E (some (900+t))) S λS=>TP c i S K
 | _,_,_,_=>none
def aBE(S:TS): List aAo->Option (List TV)
 | []=>some []
 | r::rs=>match aBE S rs with
  | none=>none
  | some vs=>match r with
   | .tmp t=>some (cC S.tm (.tmp t)::vs)
   | .cell t n agg=>match cC S.tm (.tmp t) with
    | .ptr id off=>match S.hp[id]? with
     | some o=>match o with
      | .box cs=>match Nat.ble (off+n) cs.length with
       | true=>match agg with
        | true=>some (.agg ((cs.drop off).take n)::vs)
        | false=>match (cs.drop off).take n with
         | [c]=>some (c::vs)
         | _=>none
       | false=>none
      | _=>none
     | none=>none
    | _=>none
def TF(H:TH): List TV->Bool
 | []=>false
 | v::_=>match v with
  | .ms id m=>match H[id]? with
   | some o=>match o with
    | .lst _ l=>match m with
     | none=>true
     | some w=>decide (w=(0,l.length))
    | _=>false
   | none=>false
  | .lit u=>match u with
   | .slice a l c=>match a with
    | none=>match l with
     | 0=>match c with
      | 0=>true
      | _=>false
     | _=>false
    | some _=>false
   | _=>false
  | _=>false
def exF(F:cS)(c:CSp)(p:fU c.ka): Option (fU (c.kr.map .v)):=TP E n F.body 0 ⟨TU 0 (Of c.ka p),[]⟩ λx S=>match x with
 | .exit _=>none
 | _=>match aBE S F.rets with
  | some vs=>match c.kp with
   | false=>Et 2 S.hp (c.kr.map .v) vs
   | true=>bnd (Nu (TF S.hp vs)) λ_=>Et 2 S.hp (c.kr.map .v) vs
  | none=>none
def exI(F:cS)(S:TS)(K:TS->Option R): Option R:=TP E n F.body 0 S λx S=>match x with
 | .exit _=>none
 | _=>match aBE S F.rets with
  | some vs=>K ⟨TU 0 vs,S.hp⟩
  | none=>none
end
end
section
variable [dN]
def aHy: cT->cT->Bool
 | .normal,y=>match y with | .normal=>true | _=>false
 | .exit i,y=>match y with | .exit j=>Nat.beq i j | _=>false
 | .ret,y=>match y with | .ret=>true | _=>false
def ES{P:Type}(R:Type): List (Nv P)->Type
 | []=>Unit
 | o::r=>(List dI->o.lay.P->o.lay.V->Option R)×ES R r
def zF{P R:Type}(n:Nat)(x:cT)(S:TS): (l:List (Nv P))->ES R l->Option R
 | [],_=>none
 | o::r,e=>match aHy o.x x with
  | true=>match o.lay.getF n S with
   | some (f,p,q)=>e.1 f p q
   | none=>zF n x S r e.2
  | false=>zF n x S r e.2
def aNY{R:Type}(ins:Fj)(outs:List (Nv ins.P))(live:List Bool)(tr':Bool)(lx lr:List Bool)(tr:Bool)(n:Nat)(k:List dI->ins.P->ins.V->Option R)(e:ES R outs)(x:cT)(S:TS): Option R:=match x with
 | .normal=>match ins.getF n (Qv live tr' n S) with
  | some (f,p,q)=>k f p q
  | none=>none
 | .ret=>zF n .ret ⟨Cm lr S.tm,S.hp⟩ outs e
 | .exit i=>zF n (.exit i) (Qv lx tr n S) outs e
end
section
variable {α β:Type}
def bZ(R:α->β->Prop): List α->List β->Prop
 | [],l=>match l with | []=>True | _::_=>False
 | a::r,l=>match l with | []=>False | b::s=>R a b/\bZ R r s
variable {R:α->β->Prop}
theorem bZ.len: ∀{l:List α} {m:List β},bZ R l m->m.length=l.length
 | [],[],_=>rfl
 | _::_,_::_,h=>by simp[bZ.len h.2]
theorem bZ.at: ∀{l:List α} {m:List β},bZ R l m->∀{j:Nat} {a:α} {b:β},l[j]?=some a->m[j]?=some b->R a b
 | _::_,_::_,h,0,_,_,c,d=>by
  simp only[Zt,Za] at c d;rw[<-c,<-d];exact h.1
 | _::_,_::_,h,j+1,_,_,c,d=>h.2.at (j:=j) (by simpa using c)<|by simpa using d
theorem bZ.of: ∀{l:List α} {m:List β},m.length=l.length->(∀(j:Nat) (a:α) (b:β),l[j]?=some a->m[j]?=some b->R a b)->bZ R l m
 | [],[],_,_=>trivial
 | [],_::_,h,_=>by cases h
 | _::_,[],h,_=>by cases h
 | _::_,_::_,h,k=>⟨k 0 _ _ rfl rfl,bZ.of (by simpa using h) λj a b c d=>k (j+1) a b (by simpa using c)<|by simpa using d⟩
theorem bZ.get{l:List α}{m:List β}(h:bZ R l m){j:Nat}{a:α}(c:l[j]?=some a): ∃b,m[j]?=some b/\R a b:=by
 have:j<m.length:=by rw[h.len];exact (Ze.1 c).1
 exact⟨m[j],Zb this,h.at c<|Zb this⟩
theorem bZ.drop{l:List α}{m:List β}(h:bZ R l m)(n:Nat): bZ R (l.drop n)<|m.drop n:=
 bZ.of (by simp[h.len]) λj a b c d=>h.at (by simpa using c)<|by simpa using d
theorem bZ.take{l:List α}{m:List β}(h:bZ R l m)(n:Nat): bZ R (l.take n)<|m.take n:=
 bZ.of (by simp[h.len]) λj a b c d=>by
  simp only[Zs] at c d;split at c
  .rename_i e;rw[Zu e] at d;exact h.at c d
  .cases c
theorem bZ.app: ∀{l:List α} {m:List β} {a b},bZ R l m->bZ R a b->bZ R (l++a) (m++b)
 | [],[],_,_,_,h=>h
 | _::_,_::_,_,_,h,c=>⟨h.1,bZ.app h.2 c⟩
theorem bZ.spl{l c:List α}{m d:List β}{off:Nat}(h:bZ R l m)(k:bZ R c d): bZ R (aQ l off c)<|aQ m off d:=by
 unfold aQ;rw[<-k.len];exact (h.take off).app<|k.app<|h.drop _
theorem bZ.set: ∀{l:List α} {m:List β},bZ R l m->∀{a b} (i:Nat),R a b->bZ R (l.set i a) (m.set i b)
 | [],[],_,_,_,_,_=>trivial
 | _::_,_::_,h,_,_,0,k=>⟨k,h.2⟩
 | _::_,_::_,h,_,_,i+1,k=>⟨h.1,h.2.set i k⟩
theorem bZ.imp{c:α->β->Prop}(k:∀a b,R a b->c a b): ∀{l:List α} {m:List β},bZ R l m->bZ c l m
 | [],[],_=>trivial
 | _::_,_::_,h=>⟨k _ _ h.1,h.2.imp k⟩
theorem bZ.map{γ δ:Type}{c:γ->δ->Prop}{f:α->γ}{g:β->δ}(k:∀a b,R a b->c (f a) (g b)): ∀{l:List α} {m:List β},bZ R l m->bZ c (l.map f) (m.map g)
 | [],[],_=>trivial
 | _::_,_::_,h=>⟨k _ _ h.1,h.2.map k⟩
theorem bZ.mapR{δ:Type}{c:α->δ->Prop}{g:β->δ}(k:∀a b,R a b->c a (g b)): ∀{l:List α} {m:List β},bZ R l m->bZ c l (m.map g)
 | [],[],_=>trivial
 | _::_,_::_,h=>⟨k _ _ h.1,h.2.mapR k⟩
theorem bZ.mapL{γ:Type}{c:γ->β->Prop}{f:α->γ}(k:∀a b,R a b->c (f a) b): ∀{l:List α} {m:List β},bZ R l m->bZ c (l.map f) m
 | [],[],_=>trivial
 | _::_,_::_,h=>⟨k _ _ h.1,h.2.mapL k⟩
theorem bZ.rep{a:α}{b:β}(h:R a b): ∀n,bZ R (List.replicate n a)<|List.replicate n b
 | 0=>trivial
 | n+1=>⟨h,bZ.rep h n⟩
end
section
variable [dN]
def tV(g:Bool)(r:List AV): AV:=match g with
 | true=>.agg r
 | false=>match r with
  | a::_=>a
  | []=>.undef
inductive Qp: TV->AV->Prop
 | undef (a):Qp .undef a
 | lit (v):Qp (.lit v) (.lit v)
 | emp (b a):(a=.lit bS\/a=.sl true []\/(b=false/\a=.sl false []))->Qp (.emp b) a
 | sl (k:Nat) (l:List (den k)) (a:AV) (es:List (List AV)):((a=.lit bS/\es=[])\/∃f,a=.sl f es)->es.length=l.length->(∀(i:Nat) (x:den k) (e:List AV),l[i]?=some x->es[i]?=some e->e.length=(jX k x).length)->
  (∀(i:Nat) (x:den k) (e:List AV) (j:Nat) (c:TV) (b:AV),l[i]?=some x->es[i]?=some e->(jX k x)[j]?=some c->e[j]?=some b->Qp c b)->Qp (.sl k l) a
 | vw (k:Nat) (l:List (den k)) (a:AV) (es:List (List AV)):((a=.lit bS/\es=[])\/(∃f,a=.sl f es)\/a=.vw es)->es.length=l.length->(∀(i:Nat) (x:den k) (e:List AV),l[i]?=some x->es[i]?=some e->e.length=(jX k x).length)->
  (∀(i:Nat) (x:den k) (e:List AV) (j:Nat) (c:TV) (b:AV),l[i]?=some x->es[i]?=some e->(jX k x)[j]?=some c->e[j]?=some b->Qp c b)->Qp (.vw k l) a
 | rptr (cs:List TV) (aw:List AV):aw.length=cs.length->(∀(j:Nat) (c:TV) (b:AV),cs[j]?=some c->aw[j]?=some b->Qp c b)->Qp (.rptr cs) (.rptr aw)
 | sptr (k:Nat) (x:den k) (aw:List AV):aw.length=(jX k x).length->(∀(j:Nat) (c:TV) (b:AV),(jX k x)[j]?=some c->aw[j]?=some b->Qp c b)->Qp (.sptr k x) (.sptr aw)
 | rmp (kk vk:Nat) (m:List (den kk×den vk)) (a:AV) (rows:List (List AV)):((a=.lit (.map none)/\m=[])\/a=.rmp ((m.map λp=>sO kk p.1).zip (rows.map (tV (ag vk)))))->rows.length=m.length->
  (∀(i:Nat) (p:den kk×den vk) (e:List AV),m[i]?=some p->rows[i]?=some e->e.length=(jX vk p.2).length)->
  (∀(i:Nat) (p:den kk×den vk) (e:List AV) (j:Nat) (c:TV) (b:AV),m[i]?=some p->rows[i]?=some e->(jX vk p.2)[j]?=some c->e[j]?=some b->Qp c b)->Qp (.rmp kk vk m) a
abbrev Qr(cs:List TV)(aw:List AV): Prop:=bZ Qp cs aw
abbrev Ql(k:Nat)(l:List (den k))(es:List (List AV)): Prop:=bZ (λx e=>Qr (jX k x) e) l es
theorem Ql.of{k:Nat}{l:List<|den k}{es:List<|List AV}(f:es.length=l.length)(g:∀(i:Nat) (x:den k) (e:List AV),l[i]?=some x->es[i]?=some e->e.length=(jX k x).length)(m:∀(i:Nat) (x:den k) (e:List AV) (j:Nat) (c:TV) (b:AV),l[i]?=some x->es[i]?=some e->(jX k x)[j]?=some c->e[j]?=some b->Qp c b): Ql k l es:=
 bZ.of f λi x e d he=>bZ.of (g i x e d he) λj c b h n=>m i x e j c b d he h n
theorem Qp.mkS{k:Nat}{l:List<|den k}{a:AV}{es:List<|List AV}(h:(a=.lit bS/\es=[])\/∃f,a=.sl f es)(r:Ql k l es): Qp (.sl k l) a:=
 .sl k l a es h r.len (λi x e d he=>(r.at d he).len) λi x e j c b d he n m=>(r.at d he).at n m
theorem Qp.mkV{k:Nat}{l:List<|den k}{a:AV}{es:List<|List AV}(h:(a=.lit bS/\es=[])\/(∃f,a=.sl f es)\/a=.vw es)(r:Ql k l es): Qp (.vw k l) a:=
 .vw k l a es h r.len (λi x e d he=>(r.at d he).len) λi x e j c b d he n m=>(r.at d he).at n m
theorem Qp.mkR{cs:List TV}{aw:List AV}(h:Qr cs aw): Qp (.rptr cs)<|.rptr aw:=.rptr cs aw h.len λj c b a d=>h.at a d
theorem Qp.mkP{k:Nat}{x:den k}{aw:List AV}(h:Qr (jX k x) aw): Qp (.sptr k x)<|.sptr aw:=.sptr k x aw h.len λj c b a e=>h.at a e
theorem Qp.inS{k:Nat}{l:List<|den k}{a:AV}(h:Qp (.sl k l) a): ∃es,((a=.lit bS/\es=[])\/∃f,a=.sl f es)/\Ql k l es:=by
 cases h with
 | sl _ _ _ es d e b g=>exact⟨es,d,Ql.of e b g⟩
theorem Qp.inV{k:Nat}{l:List<|den k}{a:AV}(h:Qp (.vw k l) a): ∃es,((a=.lit bS/\es=[])\/(∃f,a=.sl f es)\/a=.vw es)/\Ql k l es:=by
 cases h with
 | vw _ _ _ es d e b g=>exact⟨es,d,Ql.of e b g⟩
theorem Qp.inR{cs:List TV}{a:AV}(h:Qp (.rptr cs) a): ∃aw,a=.rptr aw/\Qr cs aw:=by
 cases h with
 | rptr _ aw c d=>exact⟨aw,rfl,bZ.of c d⟩
abbrev Qm{kk:Nat}(vk:Nat)(m:List (den kk×den vk))(rows:List (List AV)): Prop:=bZ (λp e=>Qr (jX vk p.2) e) m rows
abbrev gD{kk:Nat}(vk:Nat)(m:List (den kk×den vk))(rows:List (List AV)): List (Value×AV):=(m.map λp=>sO kk p.1).zip (rows.map (tV (ag vk)))
theorem Qp.mkM{kk d:Nat}{m:List<|den kk×den d}{a:AV}{rows:List<|List AV}(h:(a=.lit (.map none)/\m=[])\/a=.rmp (gD d m rows))(r:Qm d m rows): Qp (.rmp kk d m) a:=
 .rmp kk d m a rows h r.len (λi x e f he=>(r.at f he).len) λi x e j c b f he l k=>(r.at f he).at l k
theorem Qp.inM{kk d:Nat}{m:List<|den kk×den d}{a:AV}(h:Qp (.rmp kk d m) a): ∃rows,((a=.lit (.map none)/\m=[])\/a=.rmp (gD d m rows))/\Qm d m rows:=by
 cases h with
 | rmp _ _ _ _ rows r l p k=>exact⟨rows,r,bZ.of l λi x e g he=>bZ.of (p i x e g he) λj c b o q=>k i x e j c b g he o q⟩
theorem Qp.inP{k:Nat}{x:den k}{a:AV}(h:Qp (.sptr k x) a): ∃aw,a=.sptr aw/\Qr (jX k x) aw:=by
 cases h with
 | sptr _ _ aw d e=>exact⟨aw,rfl,bZ.of d e⟩
inductive Qh(H:TH): TV->AV->Prop
 | p (v a):Qp v a->Qh H v a
 | ms (id k l):H[id]?=some (.lst k l)->Qh H (.ms id none) (.ms id l.length 0 l.length)
 | msn (id w k l):H[id]?=some (.lst k l)->Qh H (.ms id (some w)) (.ms id l.length w.1 w.2)
 | ptr (id off):Qh H (.ptr id off) (.ptr id 1 0 off)
 | pel (id i off k l):H[id]?=some (.lst k l)->0<=i->i.toNat<l.length->Qh H (.pel id i off) (.ptr id l.length i.toNat off)
 | mp (id):Qh H (.mp id) (.mp id)
 | it (id):Qh H (.it id) (.it id)
 | fn (vi:Nat) (cs:List TV) (aw:List AV):aw.length=cs.length->(∀(j:Nat) (c:TV) (b:AV),cs[j]?=some c->aw[j]?=some b->Qh H c b)->Qh H (.fn vi cs) (.fn vi aw)
 | agg (cs:List TV) (aw:List AV):aw.length=cs.length->(∀(j:Nat) (c:TV) (b:AV),cs[j]?=some c->aw[j]?=some b->Qh H c b)->Qh H (.agg cs) (.agg aw)
 | tup (cs:List TV) (aw:List AV):aw.length=cs.length->(∀(j:Nat) (c:TV) (b:AV),cs[j]?=some c->aw[j]?=some b->Qh H c b)->Qh H (.tup cs) (.tup aw)
 | rs (id n):Qh H (.rs id n) (.ms id n 0 n)
 | rel (id n i off):Qh H (.rel id n i off) (.ptr id n i off)
variable {H H':TH}
theorem Qh.u(a:AV): Qh H .undef a:=.p _ _<|.undef a
theorem Qh.l(v:Value): Qh H (.lit v)<|.lit v:=.p _ _<|.lit v
theorem Qh.inL{v:Value}{a:AV}(h:Qh H (.lit v) a): a=.lit v:=by
 cases h with
 | p _ _ h=>cases h;rfl
theorem Qh.pu{v:TV}{a:AV}(h:Qh H v a)(b:match v with | .sl ..=>True | .vw ..=>True | .rptr ..=>True | .sptr ..=>True | .emp ..=>True | .rmp ..=>True | _=>False): Qp v a:=by
 cases h with
 | p _ _ h=>exact h
 | _=>exact b.elim
abbrev Qc(H:TH)(cs:List TV)(aw:List AV): Prop:=bZ (Qh H) cs aw
theorem Qh.mkA{cs:List TV}{aw:List AV}(h:Qc H cs aw): Qh H (.agg cs)<|.agg aw:=.agg cs aw h.len λj c b a d=>h.at a d
theorem Qh.mkT{cs:List TV}{aw:List AV}(h:Qc H cs aw): Qh H (.tup cs)<|.tup aw:=.tup cs aw h.len λj c b a d=>h.at a d
theorem Qh.mkF{vi:Nat}{cs:List TV}{aw:List AV}(h:Qc H cs aw): Qh H (.fn vi cs)<|.fn vi aw:=.fn vi cs aw h.len λj c b a d=>h.at a d
theorem Qh.inA{cs:List TV}{a:AV}(h:Qh H (.agg cs) a): ∃aw,a=.agg aw/\Qc H cs aw:=by
 cases h with
 | p _ _ h=>cases h
 | agg _ aw c b=>exact⟨aw,rfl,bZ.of c b⟩
theorem Qh.inT{cs:List TV}{a:AV}(h:Qh H (.tup cs) a): ∃aw,a=.tup aw/\Qc H cs aw:=by
 cases h with
 | p _ _ h=>cases h
 | tup _ aw c d=>exact⟨aw,rfl,bZ.of c d⟩
theorem Qh.inF{vi:Nat}{cs:List TV}{a:AV}(h:Qh H (.fn vi cs) a): ∃aw,a=.fn vi aw/\Qc H cs aw:=by
 cases h with
 | p _ _ h=>cases h
 | fn _ _ aw c b=>exact⟨aw,rfl,bZ.of c b⟩
def HM(H H':TH): Prop:=∀(id k:Nat) (l:List<|den k),H[id]?=some (.lst k l)->∃(k':Nat) (b:List<|den k'),H'[id]?=some (.lst k' b)/\b.length=l.length
theorem HM.r: HM H H:=λ_ k l h=>⟨k,l,h,rfl⟩
theorem Qh.mono(m:HM H H'){v:TV}{a:AV}(h:Qh H v a): Qh H' v a:=by
 induction h with
 | p v a h=>exact .p v a h
 | ms id k l h=>
  let⟨k',e,b,d⟩:=m id k l h;rw[<-d];exact .ms id k' e b
 | msn id n k l h=>
  let⟨k',e,b,d⟩:=m id k l h;rw[<-d];exact .msn id n k' e b
 | ptr id off=>exact .ptr id off
 | pel id i off k l h r u=>
  let⟨k',e,b,d⟩:=m id k l h;rw[<-d];exact .pel id i off k' e b r<|by omega
 | mp id=>exact .mp id
 | it id=>exact .it id
 | fn vi cs aw b _ c=>exact .fn vi cs aw b c
 | agg cs aw b _ c=>exact .agg cs aw b c
 | tup cs aw b _ c=>exact .tup cs aw b c
 | rs id n=>exact .rs id n
 | rel id n i off=>exact .rel id n i off
inductive ClO(n:Nat): dI->dI->Prop
 | r (a):ClO n a a
 | s (a b m):n<=m->ClO n a b->ClO n a (bY m b)
def Qo(H:TH): oT->dI->Prop
 | .box cs,o=>∃aw,o=.blk cs.length [aw]/\Qc H cs aw
 | .lst k l,o=>∃es,o=.blk (cds k).length es/\Ql k l es
 | .map _ b m,o=>∃rows,o=.mp (gD b m rows)/\Qm b m rows
 | .it s p,o=>o=.raw (.stringIter s p)
 | .rows s es,o=>∃aw,o=.blk s aw/\bZ (Qc H) es aw
 | .gone,_=>True
 | .fr n a,o=>ClO n a o
theorem Qo.mono(m:HM H H'){o:oT}{b:dI}(h:Qo H o b): Qo H' o b:=by
 cases o with
 | box cs=>let⟨aw,a,c⟩:=h;exact⟨aw,a,c.imp λ_ _ h=>h.mono m⟩
 | rows s es=>let⟨aw,a,c⟩:=h;exact⟨aw,a,c.imp λ_ _ h=>h.imp λ_ _ h=>h.mono m⟩
 | _=>exact h
abbrev Qs(H:TH)(A:aW): Prop:=bZ (Qo H) H A
theorem HM.set{id:Nat}{o:oT}(h:∀(k:Nat) (l:List<|den k),H[id]?=some (.lst k l)->∃(k':Nat) (a:List<|den k'),o=.lst k' a/\a.length=l.length): HM H<|H.set id o:=by
 intro i k l c;rw[Z5];split
 .rename_i e;subst e;let⟨k',a,f,d⟩:=h k l c;have:=(Ze.1 c).1;exact⟨k',a,by simp[this,f],d⟩
 .exact⟨k,l,c,rfl⟩
theorem HM.add{o:oT}: HM H<|H++[o]:=by
 intro i k l a;exact⟨k,l,by rw[Zo (Ze.1 a).1];exact a,rfl⟩
theorem Qs.add{A:aW}{o:oT}{b:dI}(h:Qs H A)(k:Qo (H++[o]) o b): Qs (H++[o])<|A++[b]:=
 (h.imp λ_ _ h=>h.mono HM.add).app ⟨k,trivial⟩
theorem Qs.set{A:aW}{id:Nat}{o:oT}{b:dI}(h:Qs H A)(m:HM H<|H.set id o)(k:Qo (H.set id o) o b): Qs (H.set id o)<|A.set id b:=
 (h.imp λ_ _ h=>h.mono m).set id k
structure Qt(N:Nat)(S:TS)(st:St): Prop where
 ln:st.tmps.length=N
 tm:∀(t:Nat) (v:TV),dC t S.tm=some v->∃a,st.tmps[t]?=some a/\Qh S.hp v a
 hp:Qs S.hp st.heap
theorem Qc.lits: ∀(vs:List Value),Qc H (vs.map .lit)<|vs.map .lit
 | []=>trivial
 | v::r=>⟨Qh.l v,Qc.lits r⟩
theorem aEo: ∀{cs:List AV} {l:List TV},aId cs=some l->Qr l cs
 | [],l,b=>by cases b;trivial
 | a::r,l,b=>by
  simp only[aId] at b;split at b
  .split at b
   .rename_i d c;cases b;exact⟨.lit _,aEo c⟩
   .cases b
  .cases b
theorem Qt.get[aF]{N:Nat}{S:TS}{st:St}(h:Qt N S st)(x:bB): Qh S.hp (cC S.tm x)<|aG st.tmps x:=by
 cases x with
 | tmp t=>
  simp only[cC,aG];cases b:dC t S.tm with
  | none=>exact Qh.u _
  | some v=>
   let⟨a,e,f⟩:=h.tm t v b;simp only[e];exact f
 | lit v=>exact Qh.l v
 | agg vs=>exact Qh.mkA<|Qc.lits vs
 | fn vi=>exact Qh.mkF trivial
 | glob g=>
  simp only[cC,aG];cases aF.tab g with
  | none=>exact Qh.u _
  | some cs=>
   simp only;split
   .rename_i l b;exact .p _ _<|Qp.mkR<|aEo b
   .exact Qh.u _
theorem Qt.put{N:Nat}{S:TS}{st:St}(h:Qt N S st){d:Nat}{v:TV}{a:AV}(g:d<N)(q:Qh S.hp v a): Qt N ⟨(d,v)::S.tm,S.hp⟩ ⟨st.tmps.set d a,st.heap⟩:=by
 refine⟨by simp[h.ln],λt w c=>?_,h.hp⟩;simp only[dC] at c;split at c
 .rename_i e;have e:=Zc e;cases c;subst e;exact⟨a,by simp[h.ln,g],q⟩
 .rename_i e;let⟨b,i,f⟩:=h.tm t w c;have e:¬d=t:=YF e;exact⟨b,by rw[Zv e];exact i,f⟩
theorem Qt.hpM{N:Nat}{S:TS}{st:St}(h:Qt N S st){H':TH}{A:aW}(m:HM S.hp H')(k:Qs H' A): Qt N ⟨S.tm,H'⟩ ⟨st.tmps,A⟩:=
 ⟨h.ln,λt v c=>(h.tm t v c).elim λa b=>⟨a,b.1,b.2.mono m⟩,k⟩
end
theorem qN{F:Nat->Type}{k k':Nat}{x:F k}{y:F k'}(h:CH F x=some y): ∃e:k=k',y=e▸x:=by
 unfold CH at h;split at h
 .rename_i e _;cases h;exact⟨e,rfl⟩
 .cases h
section
variable [dN]{H H':TH}{A:aW}
theorem LX{a b a' b':Nat}{m:List<|den a×den b}{y:List<|den a'×den b'}(h:UC m=some y): ∃(e:a=a') (d:b=b'),y=e▸d▸m:=by
 unfold UC at h;split at h
 .rename_i e _;split at h
  .rename_i d _;cases h;exact⟨e,d,rfl⟩
  .cases h
 .cases h
theorem aOd{w kk a:Nat}{v:TV}{x:List<|den kk×den a}(h:rdM w H kk a v=some x): v=.rmp kk a x\/(v=.lit (.map none)/\x=[])\/(w=2/\ag a=false/\∃id,v=.mp id/\H[id]?=some (.map kk a x)):=by
 unfold rdM at h;split at h
 .let⟨e,b,h⟩:=LX h;subst e;subst b;subst h;exact .inl rfl
 .split at h
  .split at h
   .cases h;exact .inr<|.inl ⟨rfl,rfl⟩
   .cases h
  .cases h
 .split at h
  .split at h
   .cases h
   .rename_i f;split at h
    .rename_i o d;split at h
     .let⟨e,b,h⟩:=LX h;subst e;subst b;subst h;exact .inr<|.inr ⟨rfl,f,_,rfl,d⟩
     .cases h
    .cases h
  .cases h
 .cases h
theorem aLg{w kk b:Nat}{v:TV}{x:List<|den kk×den b}{a:AV}(d:w≠2)(h:rdM w H kk b v=some x)(q:Qh H' v a): Qp (.rmp kk b x) a:=by
 rcases aOd h with rfl | ⟨rfl,rfl⟩ | ⟨e,_⟩
 .exact q.pu trivial
 .rw[q.inL];exact Qp.mkM (rows:=[]) (.inl ⟨rfl,rfl⟩) trivial
 .exact (d e).elim
theorem i4{α:Type}(l:List α)(m:Option<|Nat×Nat): win l m=(l.drop (Ej l m).1).take (Ej l m).2:=by
 cases m with
 | none=>simp[win,Ej]
 | some w=>rfl
theorem Qh.mw{id k:Nat}{l:List<|den k}{m:Option<|Nat×Nat}{a:AV}(q:Qh H (.ms id m) a)(d:H[id]?=some (.lst k l)): a=.ms id l.length (Ej l m).1 (Ej l m).2:=by
 cases q with
 | p _ _ q=>cases q
 | ms _ k' e b=>rw[d] at b;cases b;rfl
 | msn _ c k' e b=>rw[d] at b;cases b;rfl
theorem aRs{id k:Nat}{l:List<|den k}{m:Option<|Nat×Nat}(e:Qs H A)(c:H[id]?=some (.lst k l)):
 ∃es,rd A (.ms id l.length (Ej l m).1 (Ej l m).2)=some es/\Ql k (win l m) es:=by
 obtain⟨b,f,es,rfl,a⟩:=e.get c;refine⟨(es.drop (Ej l m).1).take (Ej l m).2,?_,?_⟩
 .simp only[rd,f,a.len,Zz]
 .rw[i4];exact (a.drop _).take _
theorem IW{w k:Nat}{v:TV}{l:List<|den k}{a:AV}(h:rdS w H k v=some l)(q:Qh H v a)(p:w≠0->Qs H A):
 (∃es,((a=.lit bS/\es=[])\/∃f,a=.sl f es)/\Ql k l es)\/(w=1/\∃es,((a=.lit bS/\es=[])\/(∃f,a=.sl f es)\/a=.vw es)/\Ql k l es)\/(w≠0/\∃id tot o n es,a=.ms id tot o n/\rd A a=some es/\Ql k l es):=by
 unfold rdS at h;split at h
 .let⟨e,h⟩:=qN h;subst e;subst h;exact .inl (q.pu trivial).inS
 .cases h;have:=q.pu trivial;cases this with
  | emp b a h=>
   refine .inl ⟨[],?_,trivial⟩;rcases h with h | h | ⟨_,h⟩
   .exact .inl ⟨h,rfl⟩
   .exact .inr ⟨_,h⟩
   .exact .inr ⟨_,h⟩
 .rename_i v;have e:=q.inL;subst e;split at h
  .split at h
   .split at h
    .split at h
     .cases h;exact .inl ⟨[],.inl ⟨rfl,rfl⟩,trivial⟩
     .cases h
    .cases h
   .cases h
  .cases h
 .split at h
  .let⟨e,h⟩:=qN h;subst e;subst h;exact .inr<|.inl ⟨rfl,(q.pu trivial).inV⟩
  .cases h
 .rename_i id m;split at h
  .cases h
  .rename_i d;split at h
   .rename_i o c;split at h
    .rename_i k' s;let⟨e,h⟩:=qN h;subst e;subst h;refine .inr<|.inr ⟨d,?_⟩;rw[q.mw c];obtain⟨es,r,j⟩:=aRs (p d) c;exact⟨_,_,_,_,es,rfl,r,j⟩
    .cases h
   .cases h
 .cases h
theorem aFT{w k:Nat}{v:TV}{l:List<|den k}{a:AV}(h:rdS w H k v=some l)(q:Qh H v a)(e:Qs H A): ∃es,rd A a=some es/\Ql k l es:=by
 rcases IW h q (λ_=>e) with⟨es,c,b⟩ | ⟨_,es,c,b⟩ | ⟨_,id,tot,o,n,es,rfl,c,b⟩
 .rcases c with⟨rfl,rfl⟩ | ⟨f,rfl⟩
  .exact⟨_,rfl,b⟩
  .exact⟨_,rfl,b⟩
 .rcases c with⟨rfl,rfl⟩ | ⟨f,rfl⟩ | rfl
  .exact⟨_,rfl,b⟩
  .exact⟨_,rfl,b⟩
  .exact⟨_,rfl,b⟩
 .exact⟨es,c,b⟩
structure P5(g:AV->AV): Prop where
 l:∀v,g (.lit v)=.lit v\/g (.lit v)=sK v
 s:∀f es,∃f',g (.sl f es)=.sl f' es
 p:∀cs,g (.sptr cs)=.sptr cs
 m:∀e,g (.rmp e)=.rmp e
theorem uD: P5 Fk:=⟨λv=>.inr rfl,λf es=>⟨false,rfl⟩,λ_=>rfl,λ_=>rfl⟩
theorem aLH: P5 nrm:=⟨λv=>.inr rfl,λf es=>⟨false,rfl⟩,λ_=>rfl,λ_=>rfl⟩
theorem aEh(n:Nat): P5<|jW n:=⟨λv=>.inl rfl,λf es=>⟨f,rfl⟩,λ_=>rfl,λ_=>rfl⟩
theorem Gs(B:aW)(n d:Nat): P5<|eE B n d:=⟨λv=>.inr<|by cases d<;>rfl,λf es=>⟨false,by cases d<;>rfl⟩,λ_=>by cases d<;>rfl,λ_=>by cases d<;>rfl⟩
theorem P5.c{g:AV->AV}(m:P5 g){c:Cd}{x:c.den}{b:AV}(h:Qp (c.tv x) b): Qp (c.tv x)<|g b:=by
 cases c with
 | int o=>cases h;rcases m.l (.int o x) with e | e<;>rw[e]<;>exact .lit _
 | bool=>cases h;rcases m.l (.bool x) with e | e<;>rw[e]<;>exact .lit _
 | str=>cases h;rcases m.l (.string x) with e | e<;>rw[e]<;>exact .lit _
 | sl k=>
  let⟨es,d,a⟩:=Qp.inS h;rcases d with⟨rfl,rfl⟩ | ⟨f,rfl⟩
  .rcases m.l bS with e | e
   .rw[e];exact Qp.mkS (.inl ⟨rfl,rfl⟩) a
   .rw[e];exact Qp.mkS (.inr ⟨false,rfl⟩) a
  .let⟨q,e⟩:=m.s f es;rw[e];exact Qp.mkS (.inr ⟨q,rfl⟩) a
 | sptr k=>
  obtain⟨aw,rfl,a⟩:=Qp.inP h;rw[m.p];exact h
 | mp kk u=>
  let⟨rows,d,a⟩:=Qp.inM h;refine Qp.mkM ?_ a;rcases d with⟨rfl,d⟩ | rfl
  .exact .inl ⟨by rcases m.l (.map none) with e | e<;>rw[e];rfl,d⟩
  .exact .inr<|m.m _
 | any=>exact .undef _
theorem P5.r{g:AV->AV}(m:P5 g): ∀{cs:List Cd} {p:SL cs} {e:List AV},Qr (qX cs p) e->Qr (qX cs p) (e.map g)
 | [],_,[],_=>trivial
 | c::r,p,b::e,h=>⟨m.c h.1,m.r h.2⟩
theorem P5.ls{g:AV->AV}(m:P5 g){k:Nat}{l:List<|den k}{es:List<|List AV}(h:Ql k l es): Ql k l<|es.map λe=>e.map g:=h.mapR λ_ _ h=>m.r h
theorem aTY{k:Nat}{v:TV}{l:List<|den k}(h:rdS 0 H k v=some l): rdS 0 H' k v=some l:=by cases v<;>exact h
theorem aDN{w:Nat}{a:IntKind}{v:TV}{x:Int}(h:rdC w H (.int a) v=some x): v=.lit (.int a x):=by
 cases v with
 | lit u=>
  cases u with
  | int k n=>
   have h:(match decEq k a with | isTrue _=>some n | isFalse _=>none)=some x:=h;split at h
   .rename_i e _;cases h;rw[e]
   .cases h
  | _=>cases h
 | _=>cases h
theorem y8{w:Nat}{v:TV}{x:Bool}(h:rdC w H .bool v=some x): v=.lit (.bool x):=by
 cases v with
 | lit u=>
  cases u with
  | bool b=>cases h;rfl
  | _=>cases h
 | _=>cases h
theorem aDL{w:Nat}{v:TV}{x:ByteArray}(h:rdC w H .str v=some x): v=.lit (.string x):=by
 cases v with
 | lit u=>
  cases u with
  | string b=>cases h;rfl
  | _=>cases h
 | _=>cases h
theorem aDM{w k:Nat}{v:TV}{x:den k}(h:rdC w H (.sptr k) v=some x): v=.sptr k x:=by
 cases v with
 | sptr k' y=>
  let⟨e,h⟩:=qN (F:=den) (x:=y) (y:=x) h;subst e;subst h;rfl
 | _=>cases h
theorem rd0{c:Cd}{v:TV}{x:c.den}{a:AV}(h:rdC 0 H c v=some x)(q:Qh H' v a): Qp (c.tv x) a:=by
 cases c with
 | int n=>have e:=aDN h;subst e;rw[q.inL];exact .lit _
 | bool=>have e:=y8 h;subst e;rw[q.inL];exact .lit _
 | str=>have e:=aDL h;subst e;rw[q.inL];exact .lit _
 | sl k=>
  have h:rdS 0 H k v=some x:=h;rcases IW (A:=[]) (aTY h) q (λe=>(e rfl).elim) with⟨es,i,f⟩ | ⟨e,_⟩ | ⟨e,_⟩
  .exact Qp.mkS i f
  .cases e
  .exact (e rfl).elim
 | sptr k=>have e:=aDM h;subst e;exact q.pu trivial
 | mp kk m=>exact aLg (w:=0) (H:=H) (by decide) h q
 | any=>exact .undef _
theorem aUa: ∀{cs:List Cd} {vs:List TV} {p:SL cs} {aw:List AV},rdL 0 H cs vs=some p->Qc H' vs aw->Qr (qX cs p) aw
 | [],[],_,[],_,_=>trivial
 | c::r,v::vs,p,a::aw,h,q=>by
  simp only[rdL] at h;split at h
  .rename_i x b;split at h
   .rename_i p' d;cases h;exact⟨rd0 b q.1,aUa d q.2⟩
   .cases h
  .cases h
theorem jQ{k:Nat}{vs:List TV}{x:den k}{aw:List AV}(h:kA 0 H k vs=some x)(q:Qc H' vs aw): Qr (jX k x) aw:=by
 unfold kA at h;split at h
 .rename_i p a;cases h;unfold jX;rw[dN.un_pk];exact aUa a q
 .cases h
theorem Qr.c{cs:List TV}{aw:List AV}(h:Qr cs aw): Qc H cs aw:=h.imp λ_ _ h=>.p _ _ h
theorem aBK{k:Nat}: ∀{vs:List<|List TV} {l:List<|den k} {es:List<|List AV},NO H k vs=some l->bZ (Qc H') vs es->Ql k l es
 | [],_,[],h,_=>by cases h;trivial
 | v::vs,l,e::es,h,q=>by
  simp only[NO] at h;split at h
  .rename_i x a;split at h
   .rename_i d c;cases h;exact⟨jQ a q.1,aBK c q.2⟩
   .cases h
  .cases h
theorem aN2{k:Nat}{x:den k}{aw:List AV}(h:Qr (jX k x) aw)(a:ag k=true): Qh H (val k x)<|.agg aw:=by
 unfold val;rw[a];exact Qh.mkA h.c
theorem aN3{k:Nat}{x:den k}{a:AV}(h:Qr (jX k x) [a])(e:ag k=false): Qh H (val k x) a:=by
 unfold val;rw[e];cases b:jX k x with
 | nil=>rw[b] at h;exact h.elim
 | cons c r=>rw[b] at h;exact .p _ _ h.1
theorem aTX{k:Nat}{v:TV}{x:den k}{a:AV}{H1:TH}(h:k8 0 H k v=some x)(q:Qh H' v a): Qh H1 (val k x) a:=by
 unfold k8 at h;split at h
 .rename_i b;split at h
  .obtain⟨aw,rfl,q'⟩:=q.inA;exact aN2 (jQ h q') b
  .cases h
 .rename_i b;exact aN3 (jQ h (aw:=[a]) ⟨q,trivial⟩) b
end
end
end Go.Proofs.YtmcgghedgfkjiaaGreatDoor.Av
