/- A part of the proof of a law. -/
import Derived.Test.YtideamafblopcaaGreatDoorP10
import Derived.IntWalk
import Derived.Test.YtideamafblopcaaGreatDoorP9
import Derived.KernelRfl
import Derived.Test.YtideamafblopcaaGreatDoorP8
set_option maxRecDepth 100000
set_option maxHeartbeats 4000000
set_option linter.all false
namespace Go.Proofs.YtideamafblopcaaGreatDoor.Av
open Go
theorem Vs{α:Type}{l:List α}{x:α}(h:l.length<=900000): app l [x]=some (l++[x]):=yH<|by simp;omega
theorem aAo{α:Type}{l:List α}{i:Nat}{x:α}{q:α->Bool}(a:l[i]?=some x)(h:q x=true): (l.drop i).find? q=some x:=by
 obtain⟨b,rfl⟩:=List.getElem?_eq_some_iff.1 a;rw[List.drop_eq_getElem_cons b,List.find?_cons,h]
theorem aAq{α:Type}{l:List α}{i:Nat}{x:α}{q:α->Bool}(a:l[i]?=some x)(h:q x=false): (l.drop i).find? q=(l.drop<|i+1).find? q:=by
 obtain⟨b,rfl⟩:=List.getElem?_eq_some_iff.1 a;rw[List.drop_eq_getElem_cons b,List.find?_cons,h]
theorem aAr{α:Type}{l:List α}{i:Nat}{q:α->Bool}(h:l.length<=i): (l.drop i).find? q=none:=by
 rw[List.drop_of_length_le h];rfl
def kC(p:aX)(id:Int): cW×Bool:=match p.Nodes.find? λx=>x.ID==id with
 | some x=>(x,true)
 | none=>(⟨0,⟨0,0⟩⟩,false)
def Vr(p:aX)(id:Int): eP×Bool:=match p.Arcs.find? λx=>x.ID==id with
 | some x=>(x,true)
 | none=>(⟨0,0,0,[],0,0⟩,false)
theorem LH(l:List cW)(d:l.length<=300)(id:Int)(i:Nat): aD (λn m=>vK uI n m (id,l,ln l) (i:Int))<|Su (λv=>∃x,(l.drop i).find? (λx=>x.ID==id)=some x/\v=(x,x)) λ_=>(l.drop i).find? (λx=>x.ID==id)=none:=
 cG<|bB (λx b c=>aE (λh=>aA ⟨x,aAo (q:=λx=>x.ID==id) b h,rfl⟩) λh=>by
  rw[dL<|by omega,aAq (q:=λx=>x.ID==id) b h];exact LH l d id<|i+1)
  (λa=>aA<|aAr a)
termination_by l.length-i
theorem Vy(p:aX)(c:Sm p)(id:Int): aD (λn _=>iY n p id) λr=>r=kC p id:=
 bA (λ_=>rfl)<|aT (bH<|LH _ c.n id 0) (λv b=>aA<|by
  obtain⟨x,a,rfl⟩:=b;rw[List.drop_zero] at a;unfold kC;rw[a]) λ_ h=>aA<|by
  rw[List.drop_zero] at h;unfold kC;rw[h]
theorem aIp{α:Type}(l:List α)(h:l.length<=1000000): aD (λn _=>clF n l) λr=>r=l:=
 bA (g:=λ_=>app [] l) (λ_=>rfl) ⟨l,rfl,0,λ_ _ _ _=>by rw[yH<|by simpa using h];rfl⟩
theorem VP(l:List eP)(g:l.length<=300)(d:∀a∈l,a.Via.length<=300)(id:Int)(i:Nat): aD (λn m=>vK yD n m (id,l,ln l) (i:Int))<|Su (λv=>∃x,(l.drop i).find? (λx=>x.ID==id)=some x/\v=(x.ID,x.From,x.To,x.Via,x.Left,x.Right,x.ID,x.From,x.To,x.Via,x.Left,x.Right)) λ_=>(l.drop i).find? (λx=>x.ID==id)=none:=
 cG<|bB (λx c e=>aE (λh=>aH (aIp x.Via<|by have:=d x<|List.mem_of_getElem? c;omega) λr f=>aA ⟨x,aAo (q:=λx=>x.ID==id) c h,by rw[f]⟩) λh=>by
  rw[dL<|by omega,aAq (q:=λx=>x.ID==id) c h];exact VP l g d id<|i+1)
  (λb=>aA<|aAr b)
termination_by l.length-i
theorem aBr(p:aX)(c:Sm p)(id:Int): aD (λn _=>Ex n p id) λr=>r=Vr p id:=
 bA (λ_=>rfl)<|aT (bH<|VP _ c.a c.v id 0) (λv d=>aA<|by
  obtain⟨x,b,rfl⟩:=d;rw[List.drop_zero] at b;unfold Vr;rw[b]) λ_ h=>aA<|by
  rw[List.drop_zero] at h;unfold Vr;rw[h]
theorem KN{α:Type}{a:List<|List α}{i:Nat}{x:List α}(b:a[i]?=some x): (a.drop i).flatten=x++(a.drop<|i+1).flatten:=by
 obtain⟨c,rfl⟩:=List.getElem?_eq_some_iff.1 b;rw[List.drop_eq_getElem_cons c,List.flatten_cons]
theorem D5{α:Type}{a:List<|List α}{i:Nat}{x:List α}(b:a[i]?=some x): (a.take<|i+1).flatten=(a.take i).flatten++x:=by
 rw[List.take_add_one,b];simp
theorem z8(c:List<|List Aaa)(g:c.length<=1000)(i a:Nat)(f:a+(c.drop i).flatten.length<=100000): aD (λn m=>Fh gM n m (c,ln c) ((a:Int),(i:Int))) λr=>r=((a+(c.drop i).flatten.length:Nat):Int):=
 fE<|bB (λx k o=>by
  have e:=KN k;rw[e,List.length_append] at f;have l:wr ((a:Int)+ln x)=((a+x.length:Nat):Int):=by rw[wr,ln,i64_in _<|by omega];push_cast;rfl
  rw[l,dL<|by omega];refine aE (λh=>?_) λ_=>?_
  .have:=of_decide_eq_true h;omega
  .refine (z8 c g (i+1) (a+x.length)<|by omega).imp λr j=>?_;rw[j,e,List.length_append,Nat.add_assoc])
  (λd=>aA<|by rw[List.drop_of_length_le d];rfl)
termination_by c.length-i
theorem z7(a:List<|List Aaa)(o:a.length<=1000)(N:Nat)(g:N<=100000)(i:Nat)(l:List Aaa)(k:Nat)(q:l.length=N)(d:l.take k=(a.take i).flatten)(j:k=(a.take i).flatten.length)(h:k+(a.drop i).flatten.length=N): aD (λn m=>Fh gL n m (a,ln a) (l,(0,k),(i:Int))) λr=>B7 r.1 (some r.2)=a.flatten:=
 fE<|bB (λx f p=>by
  have e:=KN f;rw[e,List.length_append] at h;rw[dL<|by omega];have c:=D5 f;refine aJ (x:=aU l k x) (by unfold L8;rw[if_pos<|by simp only[Nat.zero_add];omega,Nat.zero_add])<|z7 a o N g (i+1) _ (k+x.length) (by simp[aU];omega) ?_ (by rw[c,List.length_append,j]) (by omega);unfold aU;rw[c,<-d,<-List.append_assoc,List.take_append_of_le_length<|by simp;omega,List.take_of_length_le<|by simp;omega])
  (λb=>aA<|by
   show (l.drop 0).take k=a.flatten;rw[List.drop_zero,d,List.take_of_length_le b])
termination_by a.length-i
theorem aBl(a:List<|List Aaa)(c:a.length<=1000)(g:0<a.flatten.length)(d:a.flatten.length<=100000): aD (λn _=>kS n a) λr=>r=a.flatten:=by
 refine bA (λ_=>rfl)<|aH (bH<|z8 a c 0 0<|by simpa using d) λv e=>?_;have f:v=((a.flatten.length:Nat):Int):=by rw[e];simp
 have e2:wr (v-0)=((a.flatten.length:Nat):Int):=by rw[f,wr,i64_in _<|by omega];omega
 refine aT (Q:=λ_=>False) (R:=λr=>r=(List.replicate a.flatten.length ⟨0,0⟩,(0,0))) (bF<|aE (λh=>by have:=of_decide_eq_true h;omega) λ_=>aE (λ_=>?_) λh=>by rw[e2] at h;have:=of_decide_eq_false h;omega) (λ_ h=>h.elim) λr b=>?_
 .refine aJ (x:=List.replicate a.flatten.length ⟨0,0⟩) (by rw[e2];unfold rep;rw[if_pos<|by omega];simp)<|aE (λh=>?_) λ_=>aJ (x:=(0,0)) (by unfold sub;rw[if_pos<|by simp];rfl)<|aA rfl;rw[List.isEmpty_iff] at h;have:=congrArg List.length h;rw[List.length_replicate,List.length_nil] at this;omega
 .subst b;exact aJ rfl<|aH (bH<|z7 a c a.flatten.length d 0 _ 0 (by simp) (by simp) (by simp)<|by simp) λr b=>aA b
def dH(p:aX)(id:Int): List Aaa×Int:=match (Vr p id).2&&(kC p (Vr p id).1.From).2&&(kC p (Vr p id).1.To).2 with
 | true=>([(kC p (Vr p id).1.From).1.At]++(Vr p id).1.Via++[(kC p (Vr p id).1.To).1.At],0)
 | false=>([],7)
theorem VA(p:aX)(a:Sm p)(id:Int): (Vr p id).1.Via.length<=300:=by
 unfold Vr;split
 .rename_i x h;exact a.v x<|List.mem_of_find?_eq_some h
 .simp
theorem PD(p:aX)(a:Sm p)(id:Int): aD (λn _=>tF n p id) λr=>r=dH p id:=by
 have k:=VA p a id;refine bA (λ_=>rfl)<|aH (aBr p a id) λl j=>?_;subst j;refine aE (λc=>aH (Vy p a _) λg f=>?_) λc=>aH (Vy p a _) λg f=>?_;all_goals subst f;all_goals refine aE (λb=>aH (Vy p a _) λi e=>?_) λb=>aH (Vy p a _) λi e=>?_;all_goals subst e;all_goals refine aE (λd=>aH (Q:=λ_=>True) (aA trivial) λ_ _=>?_) λd=>aH (Q:=λ_=>True) (aA trivial) λ_ _=>?_
 .refine aH (aBl _ (by simp) (by simp)<|by simp;omega) λr h=>aA ?_;unfold dH;rw[c,b,d,h];simp
 all_goals (refine aA ?_;unfold dH;rw[c,b,d];rfl)
theorem Bk(p:aX)(a:Sm p)(id:Int): (dH p id).1.length<=302:=by
 have b:=VA p a id;unfold dH;split
 .simp;omega
 .simp
theorem uJ{p:aX}{id:Int}(h:(dH p id).2=0): 2<=(dH p id).1.length:=by
 unfold dH at h |-;split
 .simp
 .rename_i a;rw[a] at h;cases h
def M3(l:List Aaa): Prop:=∀(j:Nat) (x y:Aaa),l[j]?=some x->l[j+1]?=some y->x≠y
structure sM(s:aS): Prop where
 h0:0<=s.at_
 h1:s.at_.toNat+1<s.line.path.length
 h2:s.line.path.length<=302
theorem R9(x:eP)(l:List Aaa)(v:Int): aD (λn _=>yX n (x,l,v)) λr=>r=false->v=0:=by
 refine aE (λ_=>aA<|by simp) λh=>aE (λ_=>aE (λ_=>aA<|by simp) λ_=>aA λ_=>?_) λ_=>aA λ_=>?_;all_goals simpa using h
theorem QR(v:List Aaa)(g:LI)(p:g.path=v)(C:2<=v.length)(t:v.length<=302)(i:Nat)(l:List aS)(B:Nat)(A:l.length<=B+i/\B<=100000)(F:i+1<=v.length)(u:∀s∈l,sM s)(q:∀(j:Nat) (x y:Aaa),j<i->v[j]?=some x->v[j+1]?=some y->x≠y):
 aD (λn m=>vK mI n m (v,g,wr<|ln v-1) (l,(i:Int)))<|Su (λ_=>True) λr=>r.length<=B+302/\(∀s∈r,sM s)/\M3 v:=by
 have z:wr (ln v-1)=((v.length-1:Nat):Int):=by rw[wr,ln,i64_in _<|by omega];omega
 refine cG<|aE (λh=>?_) λh=>aA ⟨by omega,u,λj x y E w=>q j x y ?_ E w⟩
 .have D:i<v.length-1:=by rw[z] at h;have:=of_decide_eq_true h;omega
  rw[dL<|by omega];refine aJ (x:=v[i]) (by rw[eU];exact List.getElem?_eq_getElem<|by omega)<|aJ (x:=v[i+1]) (by rw[eU];exact List.getElem?_eq_getElem<|by omega)<|aE (λ_=>aA trivial) λf=>aJ (Vs<|by omega) ?_;refine QR v g p C t (i+1) _ B ⟨by simp;omega,A.2⟩ (by omega) ?_ ?_
  .intro s o;rcases List.mem_append.1 o with h | h
   .exact u s h
   .rw[List.mem_singleton.1 h];exact⟨by show (0:Int)<=(i:Int);omega,by show (i:Int).toNat+1<g.path.length;rw[p];omega,by show g.path.length<=302;rw[p];exact t⟩
  .intro j a b G e d;by_cases k:j=i
   .subst k;rw[List.getElem?_eq_getElem<|by omega] at e d;cases e;cases d;exact of_decide_eq_false f
   .exact q j a b (by omega) e d
 .rw[z] at h;have:=of_decide_eq_false h;have:=(List.getElem?_eq_some_iff.1 w).1;omega
termination_by v.length-i
theorem QS(p:aX)(d:Sm p)(i:Nat)(u:i<=p.Arcs.length)(l:List aS)(A:l.length<=302*i)(g:∀s∈l,sM s)(k:oR p.Arcs i λa=>(dH p a.ID).2=0/\M3 (dH p a.ID).1):
 aD (λn m=>lm3 mJ n m (p,p.Arcs,ln p.Arcs) (l,(i:Int)))<|Su (λ_=>True) (Su (λ_=>True) λr=>r.length<=100000/\(∀s∈r,sM s)/\∀a∈p.Arcs,(dH p a.ID).2=0/\M3 (dH p a.ID).1):=by
 have z:=d.a;refine aAY<|bB (λx o q=>aH (PD p d x.ID) λv c=>aH (R9 _ v.1 v.2) λr t=>aE (λ_=>aA trivial) λh=>?_) λf=>aA ⟨?_,g,k.fin f⟩
 .have b:=t h;rw[dL<|by omega];refine aT (bH<|QR v.1 ⟨x,v.1⟩ rfl (by rw[c] at b |-;exact uJ b) (by rw[c];exact Bk p d x.ID) 0 l (302*i) ⟨by omega,by omega⟩ (by rw[c] at b |-;have:=uJ b;omega) g λj x y h=>by omega) (λ_ _=>aA trivial) λw e=>?_;exact QS p d (i+1) (by omega) w (by have:=e.1;omega) e.2.1<|k.step o ⟨by rw[c] at b;exact b,by have:=e.2.2;rw[c] at this;exact this⟩
 .omega
termination_by p.Arcs.length-i
theorem aER(p:aX)(c:Sm p): aD (λn _=>yB n p) λr=>(r.2=true->r.1.length<=100000/\(∀s∈r.1,sM s)/\∀a∈p.Arcs,(dH p a.ID).2=0/\M3 (dH p a.ID).1):=
 bA (λ_=>rfl)<|aT (bH<|QS p c 0 (by omega) [] (by simp) (by simp) oR.nil) (λ_ _=>aJ rfl<|aA<|by simp) λw b=>aT (aA b) (λ_ _=>aJ rfl<|aA<|by simp) λv d=>aJ rfl<|aA λ_=>d
theorem NK{α:Type}{l:List α}{i:Int}(a:0<=i)(h:i.toNat<l.length): idx l i=some l[i.toNat]:=by
 unfold idx;rw[if_pos a];exact List.getElem?_eq_getElem h
def EU(s:aS): Aaa×Aaa:=(s.line.path.getD s.at_.toNat ⟨0,0⟩,s.line.path.getD (s.at_.toNat+1) ⟨0,0⟩)
theorem ET(s:aS)(a:sM s): aD (λn _=>dA n s) λr=>r=EU s:=by
 have e:=a.h0;have c:=a.h1;have g:=a.h2;have b:wr (s.at_+1)=s.at_+1:=i64_in _ (by omega);have e2:(s.at_+1).toNat=s.at_.toNat+1:=by omega
 have d:idx s.line.path s.at_=some (s.line.path.getD s.at_.toNat ⟨0,0⟩):=by rw[NK e<|by omega,List.getD_eq_getElem?_getD,List.getElem?_eq_getElem<|by omega];rfl
 have f:idx s.line.path (wr<|s.at_+1)=some (s.line.path.getD (s.at_.toNat+1) ⟨0,0⟩):=by
  rw[b];unfold idx;rw[if_pos<|by omega,e2,List.getD_eq_getElem?_getD,List.getElem?_eq_getElem c];rfl
 exact bA (λ_=>rfl)<|aJ d<|aJ f<|aA rfl
theorem VT(s:aS)(b:sM s): aD (λn _=>gD n s) λr=>r=HP (EU s).1.X (EU s).2.X:=
 bA (λ_=>rfl)<|aH (ET s b) λr a=>aA<|by rw[a]
theorem aGa(s:aS)(a:sM s): Tt λn _=>nU n s:=
 bA (λ_=>rfl)<|aH (ET s a) λr b=>aA trivial
theorem aH3(s t:aS)(f:sM s)(c:sM t): aD (λn _=>nV n s t) λr=>r=UQ (HP (EU s).1.X (EU s).2.X) (HP (EU t).1.X (EU t).2.X):=
 bA (λ_=>rfl)<|aH (VT s f) λa e=>aH (VT t c) λb d=>aH (M8 a b) λr g=>aA<|by rw[g,e,d]
theorem YH{b:Bool}(h:b=true): jK b=some ():=by subst h;rfl
theorem Wm(l:List cW)(b:l.length<=300)(i:Nat)(m:List<|Int×Aaa): Tt λn k=>Fh pH n k (l,ln l) (m,(i:Int)):=
 fE<|bB (λx d a=>by
  rw[dL<|by omega];exact Wm l b (i+1) _)
  (λc=>aA trivial)
termination_by l.length-i
theorem aCg(m:List<|Int×Aaa)(x y:aS)(b:sM x)(a:sM y): aD (λn _=>Ep n (m,x,y))<|Su (λ_=>True) λ_=>True:=by
 refine bF<|aH (ET x b) λ_ _=>aH (ET y a) λ_ _=>?_;repeat' first
  | exact aA trivial
  | refine aE (λ_=>?_) (λ_=>?_)
  | refine FZ ?_
  | refine bQ λ_=>?_
theorem ML(m:List<|Int×Aaa)(x:aS)(l:List aS)(b:sM x)(c:∀s∈l,sM s)(d:l.length<=100000)(i:Nat): aD (λn k=>vK pF n k (m,x,l,ln l) (i:Int))<|Su (λ_=>True) λ_=>True:=
 cG<|bB (λy f e=>by
  have a:=c y<|List.mem_of_getElem? f;rw[dL<|by omega];refine aH (VT y a) λ_ _=>aH (aGa x b) λ_ _=>aE (λ_=>aA trivial) λ_=>aT (aCg m x y b a) (λ_ _=>aE (λ_=>ML m x l b c d<|i+1) λ_=>aA trivial) λ_ _=>ML m x l b c d<|i+1)
  (λg=>aA trivial)
termination_by l.length-i
instance aLS{s:aS}{x:cW}{a b:Aaa}: TC (λn=>Em n (s,x,a,b)):=⟨by repeat' first | exact aA trivial | refine aE (λ_=>?_) (λ_=>?_) | refine bQ λ_=>?_⟩
theorem j5(x:aS)(a:sM x)(l:List cW)(c:l.length<=300)(i:Nat): aD (λn m=>vK pE n m (x,l,ln l) (i:Int))<|Su (λ_=>True) λ_=>True:=
 cG<|bB (λy e b=>by
  rw[dL<|by omega];exact aH (ET x a) λ_ _=>bQ λ_=>aE (λ_=>aA trivial) λ_=>j5 x a l c<|i+1)
  (λd=>aA trivial)
termination_by l.length-i
theorem j6(p:aX)(e:Sm p)(m:List<|Int×Aaa)(l:List aS)(d:∀s∈l,sM s)(j:l.length<=100000)(i:Nat): aD (λn k=>lm3 pG n k (p,m,l,l,ln l) (i:Int))<|Su (λ_=>True)<|Su (λ_=>True) λ_=>True:=
 aAY<|bB (λy g f=>by
  have c:=d y<|List.mem_of_getElem? g;rw[dL<|by omega];refine aJ (aAC (a:=i+1) (b:=l.length) (by omega)<|Nat.le_refl _)<|aT (bH<|ML m y _ c (λs h=>d s<|List.mem_of_mem_take<|List.mem_of_mem_drop h) (by simp;omega) 0) (λ_ _=>aT (bH<|j5 y c _ e.n 0) (λ_ _=>aA trivial) λ_ _=>j6 p e m l d j<|i+1) λ_ _=>aA trivial)
  (λo=>aA trivial)
termination_by l.length-i
theorem U8(p:aX)(c:Sm p): aD (λn _=>Er n p) λr=>r=true->∀a∈p.Arcs,(dH p a.ID).2=0/\M3 (dH p a.ID).1:=by
 refine bA (λ_=>rfl)<|aH (aER p c) λv b=>aE (λh=>aH (bH<|Wm _ c.n 0 []) λw _=>bF ?_) λ_=>aA (by simp);have b:=b h;refine aJ (YH<|decide_eq_true<|by have:=b.1;omega)<|aH (a9 (F:=λn x y=>bnd (nV n x y) λh=>some h) (λx i y g=>aH (aH3 x y (b.2.1 x i)<|b.2.1 y g) λ_ h=>aA h)<|aEM _ _) λl d=>?_;refine aT (aD.sh (f:=λn=>Eo n (p,w,l,l,ln l) 0)<|bH<|j6 p c w l (λs j=>b.2.1 s<|d.2 s j) (by rw[d.1];exact b.1) 0) (λ_ _=>aA<|by simp) λw e=>aT (aA e) (λ_ _=>aA<|by simp) λ_ _=>aA λ_=>b.2.2
theorem y7(l:List eP)(e:l.length<=300)(i:Nat)(c:oR l i λa=>a.Via.length<=64): aD (λn m=>vK qR n m (l,ln l) (i:Int)) (Su (λ_=>True) λ_=>∀a∈l,a.Via.length<=64):=
 cG<|bB (λy f d=>by
  rw[dL<|by omega];exact aE (λ_=>aA trivial) λh=>y7 l e (i+1)<|c.step f<|by have:¬ln y.Via > 64:=of_decide_eq_false h;unfold ln at this;omega)
  (λb=>aA<|c.fin b)
termination_by l.length-i
structure qO(p:aX): Prop where
 leN:p.Nodes.length<=256
 leA:p.Arcs.length<=256
 leF:p.Faces.length<=64
 leV:∀a∈p.Arcs,a.Via.length<=64
 asN:B4 (p.Nodes.map cW.ID)
 asA:B4 (p.Arcs.map eP.ID)
 asF:B4 p.Faces
 nuA:∀a∈p.Arcs,1<=a.ID/\a.ID<=1073741824
 nuN:∀x∈p.Nodes,1<=x.ID/\x.ID<=1073741824
 nuF:∀x∈p.Faces,1<=x/\x<=1073741824
 ptN:∀x∈p.Nodes,Cg x.At
 ptA:∀a∈p.Arcs,∀y∈a.Via,Cg y
 con:∀a∈p.Arcs,a.From∈p.Nodes.map cW.ID/\a.To∈p.Nodes.map cW.ID
 sid:∀a∈p.Arcs,(a.Left=0\/a.Left∈p.Faces)/\(a.Right=0\/a.Right∈p.Faces)
 pth:∀a∈p.Arcs,(dH p a.ID).2=0/\M3 (dH p a.ID).1
theorem aDM(p:aX)(c:Sm p): aD (λn _=>Ma n p) λr=>r=0->qO p:=by
 have T:=c.n;have m:=c.a;have S:=c.f;refine bA (λ_=>rfl)<|aH (Q:=λr=>r=false->p.Nodes.length<=256/\p.Arcs.length<=256/\p.Faces.length<=64) ?_ λU H=>aE (λ_=>aA<|by simp) λI=>aT (bH<|y7 _ c.a 0 .nil) (λ_ _=>aA<|by simp) λ_ e=>aJ rfl<|aH (aHM p c) λv M=>?_
 .refine aE (λ_=>aA<|by simp) λq=>aE (λ_=>aA<|by simp) λt=>aE (λ_=>aA<|by simp) λs=>aA λ_=>?_;have q:¬ln p.Nodes > 256:=of_decide_eq_false q;have t:¬ln p.Arcs > 256:=of_decide_eq_false t;have s:¬ln p.Faces > 64:=of_decide_eq_false s;unfold ln at q t s;omega
 subst M;refine aH (Q:=λr=>r=false->B4 (p.Nodes.map cW.ID)/\B4 (p.Arcs.map eP.ID)/\B4 p.Faces) ?_ λw j=>aE (λ_=>aA<|by simp) λk=>aH (Q:=λr=>r=false->(∀x∈p.Nodes.map cW.ID,1<=x/\x<=1073741824)/\(∀x∈p.Arcs.map eP.ID,1<=x/\x<=1073741824)/\(∀x∈p.Faces,1<=x/\x<=1073741824)/\(∀x∈p.Nodes,Cg x.At)/\∀a∈p.Arcs,∀y∈a.Via,Cg y) ?_ λz g=>aE (λ_=>aA<|by simp) λi=>aH (aGm p c (p.Nodes.map cW.ID)<|by simp;omega) λu d=>aE (λb=>aA λh=>?_) λb=>aH (U8 p c) λL l=>aE (λo=>aA λ_=>?_) λ_=>aA<|by simp
 .exact aH (aAR _<|by simp;omega) λw j=>aE (λk=>aH (aAR _<|by simp;omega) λz g=>aE (λi=>aH (aAR _<|by omega) λu d=>aE (λb=>aA λ_=>⟨j k,g i,d b⟩) λ_=>aA<|by simp) λ_=>aA<|by simp) λ_=>aA<|by simp
 .exact aH (X6 _<|by simp;omega) λw j=>aE (λk=>aH (X6 _<|by simp;omega) λz g=>aE (λi=>aH (X6 _<|by omega) λu d=>aE (λb=>aH (U9 p c) λL l=>aE (λo=>aA λ_=>⟨j k,g i,d b,(l o).1,(l o).2⟩) λ_=>aA<|by simp) λ_=>aA<|by simp) λ_=>aA<|by simp) λ_=>aA<|by simp
 .rw[h] at b;simp at b
 .have A:u=0:=by simpa using b
  let⟨C,F,E,B,O⟩:=g i;let⟨N,D,J⟩:=j k;let⟨G,R,K⟩:=H I;exact⟨G,R,K,e,N,D,J,λa m=>F _<|List.mem_map_of_mem m,λa m=>C _<|List.mem_map_of_mem m,E,B,O,(d A).1,(d A).2,l o⟩
def cr(ux uy vx vy:Int): Int:=ux*vy-uy*vx
theorem aEv(f c d b e a:Int): b*cr f c e a=a*cr f c d b+c*cr d b e a:=by
 unfold cr;simp only[Int.mul_sub];have g:a*(f*b)=b*(f*a):=by rw[Int.mul_left_comm,Int.mul_comm a b,Int.mul_left_comm]
 have e2:a*(c*d)=c*(d*a):=by rw[Int.mul_left_comm,Int.mul_comm a d]
 have h:b*(c*e)=c*(b*e):=Int.mul_left_comm _ _ _;omega
def Up(x y:Int): Prop:=0<y\/(y=0/\0<x)
theorem YZ{e b d a:Int}(f:Up e b)(g:Up d a)(h:cr e b d a > 0): 0<a:=by
 rcases g with c | ⟨c,i⟩
 .exact c
 .unfold cr at h;rw[c,Int.mul_zero] at h;have:0<=b*d:=by
   refine Int.mul_nonneg ?_ (by omega);rcases f with h | ⟨h,_⟩<;>omega
  omega
theorem UN{i c j f g d:Int}(k:Up i c)(m:Up j f)(o:Up g d)(l:cr i c j f > 0)(n:cr j f g d > 0): cr i c g d > 0:=by
 have q:=YZ k m l;have p:=YZ m o n;have e:=aEv i c j f g d;have r:0<d*cr i c j f:=Int.mul_pos p l;have s:0<=c*cr j f g d:=Int.mul_nonneg (by rcases k with h | ⟨h,_⟩<;>omega) (by omega);have t:0<f*cr i c g d:=by omega
 rcases Int.lt_or_le 0 (cr i c g d) with h | h
 .exact h
 .have:=Int.mul_nonpos_of_nonneg_of_nonpos (a:=f) (b:=cr i c g d) (by omega) h;omega
theorem aAE{i a g d f b:Int}(n:Up i a)(p:Up g d)(q:Up f b)(s:¬cr i a g d > 0)(m:¬cr g d f b > 0): ¬cr i a f b > 0:=by
 intro o;have k:0<b:=YZ n q o;have l:0<=a:=by rcases n with h | ⟨h,_⟩<;>omega
 rcases p with c | ⟨c,j⟩
 .have e:=aEv i a g d f b;have r:0<d*cr i a f b:=Int.mul_pos c o;have t:b*cr i a g d<=0:=Int.mul_nonpos_of_nonneg_of_nonpos (by omega) (by omega);have u:a*cr g d f b<=0:=Int.mul_nonpos_of_nonneg_of_nonpos l (by omega);omega
 .unfold cr at m;rw[c,Int.zero_mul] at m;have:=Int.mul_pos j k;omega
theorem aAD(c d a b:Int): cr (-c) (-d) (-a) (-b)=cr c d a b:=by
 unfold cr;rw[Int.neg_mul_neg,Int.neg_mul_neg]
def zF(o p:Aaa): Bool:=decide (p.Y<o.Y)||(p.Y==o.Y&&decide (p.X<o.X))
def twE(o a b:Aaa): Int:=cr (a.X-o.X) (a.Y-o.Y) (b.X-o.X)<|b.Y-o.Y
def oU(o a b:Aaa): Bool:=if zF o a != zF o b then zF o b else decide (twE o a b > 0)
theorem Tx{o p:Aaa}(h:zF o p=false)(b:p≠o): Up (p.X-o.X)<|p.Y-o.Y:=by
 simp only[zF,Bool.or_eq_false_iff,decide_eq_false_iff_not,Bool.and_eq_false_iff,beq_eq_false_iff_ne] at h;by_cases c:p.Y=o.Y
 .refine .inr ⟨by omega,?_⟩;have:p.X≠o.X:=by
   intro d;apply b;cases p;cases o;simp_all
  rcases h.2 with h | h
  .exact absurd c h
  .omega
 .exact .inl<|by omega
theorem Tz{o p:Aaa}(h:zF o p=true): Up (-(p.X-o.X)) (-(p.Y-o.Y)):=by
 simp only[zF,Bool.or_eq_true,decide_eq_true_eq,Bool.and_eq_true,beq_iff_eq] at h;rcases h with h | ⟨b,a⟩
 .exact .inl<|by omega
 .exact .inr ⟨by omega,by omega⟩
theorem aCG{o a b c:Aaa}(j:a≠o)(i:b≠o)(k:c≠o)(d:oU o a b=true)(e:oU o b c=true): oU o a c=true:=by
 unfold oU at d e |-;cases g:zF o a<;>cases f:zF o b<;>cases h:zF o c<;>rw[g,f] at d<;>rw[f,h] at e<;>simp only[bne_self_eq_false,Bool.false_eq_true,if_false,Bool.true_bne,Bool.false_bne,Bool.not_false,if_true,Bool.not_true,decide_eq_true_eq] at d e |-
 .exact UN (Tx g j) (Tx f i) (Tx h k) d e
 .unfold twE at d e |-;rw[<-aAD] at d e |-;exact UN (Tz g) (Tz f) (Tz h) d e
theorem aCH{o a b c:Aaa}(j:a≠o)(i:b≠o)(k:c≠o)(d:oU o a b=false)(e:oU o b c=false): oU o a c=false:=by
 unfold oU at d e |-;cases g:zF o a<;>cases f:zF o b<;>cases h:zF o c<;>rw[g,f] at d<;>rw[f,h] at e<;>simp only[bne_self_eq_false,Bool.false_eq_true,if_false,Bool.true_bne,Bool.false_bne,Bool.not_false,if_true,Bool.not_true,decide_eq_false_iff_not,Bool.true_eq_false] at d e |-
 .exact aAE (Tx g j) (Tx f i) (Tx h k) d e
 .unfold twE at d e |-;rw[<-aAD] at d e |-;exact aAE (Tz g) (Tz f) (Tz h) d e
theorem aCI(o a:Aaa): oU o a a=false:=by
 unfold oU twE cr;rw[bne_self_eq_false,if_neg<|by simp,Int.mul_comm];simp
theorem aHB{x y:Int}{B:Nat}(a:-(B:Int)<=x/\x<=B)(b:-(B:Int)<=y/\y<=B): -((B*B:Nat):Int)<=x*y/\x*y<=((B*B:Nat):Int):=by
 have h:(x*y).natAbs<=B*B:=by rw[Int.natAbs_mul];exact Nat.mul_le_mul (by omega)<|by omega
 omega
theorem aEJ{o a b:Aaa}(e:Cg o)(c:Cg a)(d:Cg b): twV o a b=twE o a b:=by
 let⟨o1,m,n,l⟩:=e;let⟨g,j,p,h⟩:=c;let⟨r,f,k,s⟩:=d;have i:=aHB (B:=2097152) (x:=a.X-o.X) (y:=b.Y-o.Y) ⟨by omega,by omega⟩ ⟨by omega,by omega⟩;have q:=aHB (B:=2097152) (x:=a.Y-o.Y) (y:=b.X-o.X) ⟨by omega,by omega⟩ ⟨by omega,by omega⟩;unfold twV twE cr;simp only[wr];rw[i64_in (a.X-o.X)<|by omega,i64_in (b.Y-o.Y)<|by omega,i64_in (a.Y-o.Y)<|by omega,i64_in (b.X-o.X)<|by omega,i64_in ((a.X-o.X)*(b.Y-o.Y))<|by omega,i64_in ((a.Y-o.Y)*(b.X-o.X))<|by omega,i64_in _<|by omega]
theorem NB(o p:Aaa): aD (λn _=>gQ n o p) λr=>r=zF o p:=by
 refine bA (λ_=>rfl)<|aH (Q:=λr=>r=zF o p) ?_ λr c=>aE (λh=>aA<|by rw[<-c,h]) λh=>aA (by rw[<-c,h]);unfold zF;refine aE (λh=>aA<|by rw[h];rfl) λh=>aE (λa=>aE (λb=>aA<|by rw[h,a,b];rfl) λb=>aA<|by rw[h,a,b];rfl) λa=>aA<|by rw[h,a];rfl
theorem Cg.near{x:Aaa}(h:Cg x): SD x:=by let⟨b,c,a,d⟩:=h;exact⟨by omega,by omega,by omega,by omega⟩
theorem M4(o a b:Aaa)(j:Cg o)(f:Cg a)(g:Cg b)(e:a≠o)(d:b≠o): aD (λn _=>Pi n (o,a,b)) λr=>r=false:=by
 refine aH (XS [o,a,b]<|by simp) λr i=>aE (λ_=>aE (λh=>absurd (of_decide_eq_true h) e) λ_=>aE (λh=>absurd (of_decide_eq_true h) d) λ_=>aA rfl) λh=>?_;rw[i (by
  intro x c;rcases List.mem_cons.1 c with rfl | c
  .exact j.near
  rcases List.mem_cons.1 c with rfl | c
  .exact f.near
  .rw[List.mem_singleton.1 c];exact g.near)] at h
 cases h
theorem aBe(o a b:Aaa)(q:Cg o)(p:Cg a)(s:Cg b)(m:a≠o)(f:b≠o): aD (λn _=>Ia n o a b) λr=>r=oU o a b:=by
 refine bA (λ_=>rfl)<|aH (M4 o a b q p s m f) λr v=>aE (λh=>by rw[v] at h;cases h) λ_=>aH (NB o a) λw c=>?_;have tw:zF o a=zF o b->aD (λn _=>bnd (gP n o a b) λh=>cd (h > 0) (some true)<|some false) λr=>r=oU o a b:=by
  intro e;refine aH (ZU o a b) λt k=>?_;rw[aEJ q p s] at k;subst k;refine aE (λh=>aA ?_) λh=>aA ?_<;>(unfold oU;rw[e];simp_all)
 have u:zF o a≠zF o b->aD (λn _=>bnd (gQ n o b) λi=>cnd i (some true)<|some false) λr=>r=oU o a b:=by
  intro e;refine aH (NB o b) λt k=>?_;refine aE (λh=>aA ?_) λh=>aA ?_<;>(unfold oU;rw[if_pos<|by simpa using e];simp_all)
 refine aE (λl=>?_) λl=>?_;all_goals
  refine aH (NB o b) λx d=>aE (λj=>?_) λj=>?_;all_goals
   refine aE (λg=>?_) λg=>?_;all_goals
    first
    | exact absurd (of_decide_eq_true g) (by decide)
    | exact absurd rfl (of_decide_eq_false g)
    | exact tw (by rw[<-c,<-d,l,j])
    | exact u (by rw[<-c,<-d,l,j];decide)
theorem B4.lt{l:List Int}(h:B4 l): ∀(d i:Nat) (x y:Int),l[i]?=some x->l[i+d+1]?=some y->x<y
 | 0,i,x,y,b,a=>h i x y b a
 | d+1,i,x,y,b,a=>by
  have c:i+d+1<l.length:=by have:=(List.getElem?_eq_some_iff.1 a).1;omega
  have f:=B4.lt h d i x _ b<|List.getElem?_eq_getElem c;have e:=h (i+d+1) _ y (List.getElem?_eq_getElem c) (by rw[show i+d+1+1=i+(d+1)+1 by omega];exact a);omega
theorem B4.inj{α:Type}{f:α->Int}{l:List α}(h:B4<|l.map f){a b:α}(p:a∈l)(o:b∈l)(e:f a=f b): a=b:=by
 let⟨i,n⟩:=List.mem_iff_getElem?.1 p;let⟨j,c⟩:=List.mem_iff_getElem?.1 o;have m:(l.map f)[i]?=some (f a):=by rw[List.getElem?_map,n];rfl
 have k:(l.map f)[j]?=some (f b):=by rw[List.getElem?_map,c];rfl
 rcases Nat.lt_trichotomy i j with g | d | g
 .have:=h.lt (j-i-1) i _ _ m (by rw[show i+(j-i-1)+1=j by omega];exact k);omega
 .subst d;rw[n] at c;cases c;rfl
 .have:=h.lt (i-j-1) j _ _ k (by rw[show j+(i-j-1)+1=i by omega];exact m);omega
theorem aDD{p:aX}(c:qO p){a:eP}(b:a∈p.Arcs): Vr p a.ID=(a,true):=by
 unfold Vr;cases h:p.Arcs.find? λx=>x.ID==a.ID with
 | none=>
  have:=List.find?_eq_none.1 h a b;simp at this
 | some x=>
  have e:=List.mem_of_find?_eq_some h;have d:x.ID=a.ID:=by have:=List.find?_some h;simpa using this
  rw[c.asA.inj e b d]
theorem Hu{p:aX}{id:Int}(h:id∈p.Nodes.map cW.ID): (kC p id).2=true/\(kC p id).1∈p.Nodes:=by
 unfold kC;cases a:p.Nodes.find? λx=>x.ID==id with
 | none=>
  obtain⟨x,b,rfl⟩:=List.mem_map.1 h;have:=List.find?_eq_none.1 a x b;simp at this
 | some x=>exact⟨rfl,List.mem_of_find?_eq_some a⟩
theorem l5{p:aX}(b:qO p){a:eP}(c:a∈p.Arcs): (dH p a.ID).1=[(kC p a.From).1.At]++a.Via++[(kC p a.To).1.At]:=by
 let⟨g,d⟩:=b.con a c;have f:=(Hu g).1;have e:=(Hu d).1;unfold dH;rw[aDD b c];simp only[f,e,Bool.and_self]
theorem aCn{p:aX}(c:qO p){a:eP}(d:a∈p.Arcs): ∀x∈(dH p a.ID).1,Cg x:=by
 let⟨f,e⟩:=c.con a d;rw[l5 c d];intro x b;rcases List.mem_append.1 b with b | b
 .rcases List.mem_append.1 b with b | b
  .rw[List.mem_singleton.1 b];exact c.ptN _ (Hu f).2
  .exact c.ptA a d x b
 .rw[List.mem_singleton.1 b];exact c.ptN _ (Hu e).2
def fR(p:aX)(d:Int): Prop:=∃a∈p.Arcs,d=a.ID\/d=-a.ID
structure ZP(p:aX)(o:Aaa)(i:Nat)(l:List Int)(tw:List (Int×Aaa)): Prop where
 len:l.length<=2*i
 dart:∀d∈l,fR p d
 tow:∀d∈l,∃q,cR tw d=some q/\Cg q/\q≠o
theorem ZP.add{p:aX}{o:Aaa}{i:Nat}{l:List Int}{tw:List<|Int×Aaa}{d:Int}{q:Aaa}(g:fR p d)(f:Cg q)(c:q≠o)(k:l.length<=2*i+1)(j:∀d∈l,fR p d)(h:∀d∈l,∃q,cR tw d=some q/\Cg q/\q≠o):
 (l++[d]).length<=2*i+2/\(∀e∈l++[d],fR p e)/\∀e∈l++[d],∃q',cR (oQ tw d q) e=some q'/\Cg q'/\q'≠o:=by
 refine⟨by simp;omega,?_,?_⟩
 .intro e he;rcases List.mem_append.1 he with he | he
  .exact j e he
  .rw[List.mem_singleton.1 he];exact g
 .intro e he;rw[uP];by_cases a:d=e
  .rw[if_pos a];exact⟨q,rfl,f,c⟩
  .rw[if_neg a];rcases List.mem_append.1 he with he | he
   .exact h e he
   .exact absurd (List.mem_singleton.1 he).symm a
theorem GM(l:List Int)(tw:List<|Int×Aaa)(d:Int)(q:Aaa)(h:l.length<=100000): aD (λn _=>nK n (l,tw,d,q)) λr=>r=(l++[d],oQ tw d q):=
 bF<|aJ (A2 h)<|aA rfl
theorem VO(p:aX)(H:Sm p)(t:qO p)(id:Int)(v:cW×Bool)(o:v=kC p id)(i:Nat)(l:List Int)(tw:List<|Int×Aaa)(g:ZP p v.1.At i l tw)(hi:i<=p.Arcs.length): aD (λn m=>Fh kM n m (p,id,p.Arcs,ln p.Arcs) (l,tw,(i:Int))) λr=>r.1.length<=600/\(∀d∈r.1,fR p d)/\∀d∈r.1,∃q,cR r.2 d=some q/\Cg q/\q≠v.1.At:=by
 have ha:=H.a;refine fE<|bB (λx Z a2=>?_) λa1=>aA ⟨by have:=g.len;show l.length<=600;omega,g.dart,g.tow⟩;have c:=List.mem_of_getElem? Z;have W:=t.nuA x c;have e0:wr (0-x.ID)=-x.ID:=by rw[wr,i64_in _<|by omega];omega
 rw[dL<|by omega,e0];have e:∀I j,ZP p v.1.At (i+1) I j->aD (λn m=>Fh kM n m (p,id,p.Arcs,ln p.Arcs) (I,j,((i+1:Nat):Int))) λr=>r.1.length<=600/\(∀d∈r.1,fR p d)/\∀d∈r.1,∃q,cR r.2 d=some q/\Cg q/\q≠v.1.At:=λI j T=>VO p H t id v o (i+1) I j T (by omega);have f:ZP p v.1.At (i+1) l tw:=⟨by have:=g.len;omega,g.dart,g.tow⟩;refine aH (Q:=λ_=>True) ?_ λr _=>aE (λ_=>e _ _ f) λ_=>aH (PD p H x.ID) λw R=>aE (λ_=>e _ _ f) λ_=>?_
 .repeat' first
   | exact aA trivial
   | refine aE (λ_=>?_) (λ_=>?_)
 subst R;have u:=aCn t c;have z:=(t.pth x c).2;have h2:=uJ (t.pth x c).1;have K:=Bk p H x.ID;have k:=l5 t c;have C:∃q,(dH p x.ID).1[1]?=some q:=⟨_,List.getElem?_eq_getElem<|by omega⟩;have E:∃q,(dH p x.ID).1[(dH p x.ID).1.length-2]?=some q:=⟨_,List.getElem?_eq_getElem<|by omega⟩;let⟨G,C⟩:=C;let⟨D,E⟩:=E;have i1:idx (dH p x.ID).1 1=some G:=C;have U:wr (ln (dH p x.ID).1-2)=(((dH p x.ID).1.length-2:Nat):Int):=by rw[wr,i64_in _<|by unfold ln;omega];unfold ln;omega
 have M:idx (dH p x.ID).1 (wr<|ln (dH p x.ID).1-2)=some D:=by rw[U,eU];exact E
 have X:Cg G:=u _<|List.mem_of_getElem? C;have O:Cg D:=u _<|List.mem_of_getElem? E;have z0:(dH p x.ID).1[0]?=some (kC p x.From).1.At:=by rw[k];rfl
 have S:(dH p x.ID).1[(dH p x.ID).1.length-2+1]?=some (kC p x.To).1.At:=by
  have:(dH p x.ID).1.length-2+1=([(kC p x.From).1.At]++x.Via).length:=by rw[k];simp
  rw[this,k,List.getElem?_append_right<|Nat.le_refl _,Nat.sub_self];rfl
 have V:x.From=id->G≠v.1.At:=by
  intro h;rw[o,<-h];exact (z 0 _ _ z0 C).symm
 have J:x.To=id->D≠v.1.At:=by
  intro h;rw[o,<-h];exact z _ _ _ E S
 have d1:fR p x.ID:=⟨x,c,.inl rfl⟩;have L:fR p (-x.ID):=⟨x,c,.inr rfl⟩;have Y:=g.len;refine aE (λN=>?_) λN=>aE (λy=>?_) λy=>e _ _ f
 .have A:=ZP.add (i:=i) d1 X (V<|eq_of_beq N) (by omega) g.dart g.tow;refine aJ i1<|aH (GM l tw _ G<|by omega) λs F=>?_;subst F;refine aE (λy=>?_) λy=>e _ _ ⟨by have:=A.1;omega,A.2.1,A.2.2⟩;have B:=ZP.add (l:=l++[x.ID]) (tw:=oQ tw x.ID G) (i:=i) L O (J<|eq_of_beq y) (by simp;omega) A.2.1 A.2.2;refine aJ M<|aH (GM _ _ _ D<|by simp;omega) λs F=>?_;subst F;exact e _ _ ⟨by have:=B.1;omega,B.2.1,B.2.2⟩
 .have A:=ZP.add (i:=i) L O (J<|eq_of_beq y) (by omega) g.dart g.tow;refine aJ M<|aH (GM l tw _ D<|by omega) λs F=>?_;subst F;exact e _ _ ⟨by have:=A.1;omega,A.2.1,A.2.2⟩
termination_by p.Arcs.length-i
def UR(o a b:Aaa): Int:=if oU o a b=true then -1 else if oU o b a=true then 1 else 0
theorem FG{o a b:Aaa}: UR o a b<0↔oU o a b=true:=by
 unfold UR;split<;>(try split)<;>simp_all
theorem aBq(p:aX)(u:Sm p)(A:qO p)(id:Int): aD (λn _=>Dw n p id) λr=>r.length<=600/\∀d∈r,fR p d:=by
 refine bA (λ_=>rfl)<|aH (Vy p u id) λv j=>aE (λb=>aH (bH<|VO p u A id v j 0 [] [] ⟨by simp,by simp,by simp⟩<|by omega) λw m=>bF<|aJ (YH<|decide_eq_true<|by have:=m.1;omega) ?_) λ_=>aA (by simp);have k:Cg v.1.At:=by
  rw[j] at b |-;unfold kC at b |-;cases h:p.Nodes.find? λx=>x.ID==id with
  | none=>rw[h] at b;cases b
  | some x=>exact A.ptN x<|List.mem_of_find?_eq_some h
 have E:∀x∈w.1,∀y∈w.1,aD (λn _=>bnd (tO n (v.1,w.2,x,y)) λi=>some i) λr=>r=UR v.1.At ((cR w.2 x).getD ⟨0,0⟩) ((cR w.2 y).getD ⟨0,0⟩):=by
  have a:∀x∈w.1,Cg ((cR w.2 x).getD ⟨0,0⟩)/\(cR w.2 x).getD ⟨0,0⟩≠v.1.At:=by
   intro x c;let⟨D,q,e2,t⟩:=m.2.2 x c;rw[q];exact⟨e2,t⟩
  intro x c y f;refine aH (Q:=λr=>r=UR v.1.At ((cR w.2 x).getD ⟨0,0⟩) ((cR w.2 y).getD ⟨0,0⟩)) (bF ?_) λr e=>aA e;refine aH (aBe v.1.At ((cR w.2 x).getD ⟨0,0⟩) ((cR w.2 y).getD ⟨0,0⟩) k (a x c).1 (a y f).1 (a x c).2 (a y f).2) λr e=>aE (λh=>aA ?_) λh=>aH (aBe v.1.At ((cR w.2 y).getD ⟨0,0⟩) ((cR w.2 x).getD ⟨0,0⟩) k (a y f).1 (a x c).1 (a y f).2 (a x c).2) λG l=>aE (λg=>aA ?_) λg=>aA ?_
  .unfold UR;rw[if_pos<|by rw[<-e,h]]
  .unfold UR;rw[if_neg<|by rw[<-e,h];simp,if_pos<|by rw[<-l,g]]
  .unfold UR;rw[if_neg<|by rw[<-e,h];simp,if_neg<|by rw[<-l,g];simp]
 have B:Swo (λx y=>UR v.1.At ((cR w.2 x).getD ⟨0,0⟩)<|(cR w.2 y).getD ⟨0,0⟩) w.1:=by
  have a:∀x∈w.1,(cR w.2 x).getD ⟨0,0⟩≠v.1.At:=by
   intro x c;let⟨D,q,e2,t⟩:=m.2.2 x c;rw[q];exact t
  refine⟨λx c=>?_,λx c y f z s o g=>?_,λx c y f z s o g=>?_⟩
  .rw[FG,aCI];simp
  .rw[FG] at *;exact aCG (a x c) (a y f) (a z s) o g
  .rw[FG,Bool.not_eq_true] at *;exact aCH (a x c) (a y f) (a z s) o g
 exact aH (a9 (F:=λn x y=>bnd (tO n (v.1,w.2,x,y)) λi=>some i) E B) λr e=>aA ⟨by rw[e.1];exact m.1,λd C=>m.2.1 d<|e.2 d C⟩
theorem RJ(l:List Int)(d:Int)(f:l.length<=1000): Tt λn _=>tN n l d:=by
 refine bA (λ_=>rfl)<|aH (A6 l d<|by omega) λr a=>aE (λ_=>aA trivial) λh=>?_;have i:0<=r:=by have:=of_decide_eq_false h;omega
 have g:r.toNat<l.length:=by rcases a with a | a<;>omega
 have c:wr (wr (r+ln l)-1)=r+(l.length:Int)-1:=by unfold wr ln;rw[i64_in (r+_)<|by omega,i64_in _<|by omega]
 rw[c];have e2:WW (r+(l.length:Int)-1) (ln l)=some ((r+(l.length:Int)-1).tmod (l.length:Int)):=by unfold WW ln;rw[if_neg<|by omega]
 have b:0<=(r+(l.length:Int)-1).tmod (l.length:Int):=Int.tmod_nonneg _ (by omega);have e:(r+(l.length:Int)-1).tmod (l.length:Int)<(l.length:Int):=Int.tmod_lt_of_pos _ (by omega);exact aJ e2<|aJ (NK b<|by omega)<|aA trivial
theorem Y6{V:Type}{m:List<|Int×V}{k:Int}{v:V}(h:cR m k=some v): v∈m.map Prod.snd:=by
 induction m with
 | nil=>cases h
 | cons a r b=>
  simp only[cR] at h;split at h
  .cases h;exact List.mem_cons_self ..
  .exact List.mem_cons_of_mem _<|b h
theorem X8{V:Type}(m:List<|Int×V)(k:Int)(v:V): (oQ m k v).length<=m.length+1:=by
 induction m with
 | nil=>simp[oQ]
 | cons a r b=>
  simp only[oQ];split
  .simp
  .simp only[List.length_cons];omega
theorem A8(p:aX)(v:List Int)(f:v.length<=600)(b:∀d∈v,fR p d)(B:Nat)(c:B<=190000)(i:Nat)(o:i<=v.length)(l:List Int)(m:List<|Int×Int)(s:l.length<=B+i)(q:m.length<=B+i)(a:∀d∈l,fR p d):
 aD (λn k=>Fh oZ n k (v,v,ln v) (l,m,(i:Int))) λr=>r.1.length<=B+600/\r.2.length<=B+600/\∀d∈r.1,fR p d:=
 fE<|bB (λd h j=>aJ (Vs<|by omega) (aH (RJ v d<|by omega) λw _=>by
  rw[dL<|by omega];refine A8 p v f b B c (i+1) (by omega) _ _ (by simp;omega) (by have:=X8 m (wr<|0-d) w;omega) ?_;intro e he;rcases List.mem_append.1 he with he | he
  .exact a e he
  .rw[List.mem_singleton.1 he];exact b d<|List.mem_of_getElem? h))
  (λg=>aA ⟨by show l.length<=_;omega,by show m.length<=_;omega,a⟩)
termination_by v.length-i
theorem A9(p:aX)(b:Sm p)(e:qO p)(i:Nat)(t:i<=p.Nodes.length)(l:List Int)(m:List<|Int×Int)(j:l.length<=600*i)(o:m.length<=600*i)(f:∀d∈l,fR p d):
 aD (λn k=>Fh pA n k (p,p.Nodes,ln p.Nodes) (l,m,(i:Int))) λr=>r.1.length<=180000/\r.2.length<=180000/\∀d∈r.1,fR p d:=by
 have s:=b.n;refine fE<|bB (λx q h=>aH (aBq p b e x.ID) λw c=>aH (bH<|A8 p w c.1 c.2 (600*i) (by omega) 0 (by omega) l m (by omega) (by omega) f) λr a=>?_) λg=>aA ⟨by show l.length<=_;omega,by show m.length<=_;omega,f⟩;rw[dL<|by omega];exact A9 p b e (i+1) (by omega) r.1 r.2 (by have:=a.1;omega) (by have:=a.2.1;omega) a.2.2
termination_by p.Nodes.length-i
theorem aAH{p q:Int->Bool}{d:Int}: ∀(l:List Int),(∀x,q x=true->p x=true)->d∈l->p d=true->q d=false->l.countP q<l.countP p
 | [],_,h,_,_=>by cases h
 | a::l,b,h,i,g=>by
  have e:∀l:List Int,l.countP q<=l.countP p:=λl=>List.countP_mono_left λx _ h=>b x h;rw[List.countP_cons,List.countP_cons];rcases List.mem_cons.1 h with rfl | h
  .rw[i,g];have:=e l;simp;omega
  .have:=aAH l b h i g;by_cases f:q a=true
   .rw[f,b a f];simp;omega
   .rw[if_neg f];omega
def nL(m:List<|Int×Bool)(k:Int): Bool:=!(cR m k).getD false
theorem TQ(p:aX)(v:List<|Int×Int)(V:List Int)(f:∀k,(cR v k).getD 0∈V)(g:V.length<=800000)(seen:List<|Int×Bool)(a:List Int)(d:Int)(j:d∈V)(o:a.length+V.countP (nL seen)<=800000):
 aD (λn k=>Fh oX n k v (seen,a,d)) λr=>∃t,r.2=a++t/\r.2.length+V.countP (nL r.1)<=a.length+V.countP (nL seen)/\((cR seen d).getD false=false->∃i,t=d::i):=by
 refine fE<|aE (λh=>aA ⟨[],by simp,Nat.le_refl _,λc=>by rw[h] at c;cases c⟩) λh=>aJ (Vs<|by omega) ?_;have m:V.countP (nL<|oQ seen d true)<V.countP (nL seen):=by
  refine aAH V (λx b=>?_) j (by unfold nL;rw[h];rfl) (by unfold nL;rw[uP,if_pos rfl];rfl);unfold nL at b |-;rw[uP] at b;split at b
  .cases b
  .exact b
 refine (TQ p v V f g (oQ seen d true) (a++[d]) ((cR v d).getD 0) (f d)<|by simp;omega).imp ?_;rintro r ⟨t,l,c,_⟩;exact⟨d::t,by rw[l];simp,by simp only[List.length_append,List.length_cons,List.length_nil] at c;omega,λ_=>⟨t,rfl⟩⟩
termination_by V.countP<|nL seen
def dV(v:List Int×List (Int×Int)): List Int:=v.1++0::v.2.map Prod.snd
theorem PI(p:aX)(v:List Int×List (Int×Int))(s:v.1.length<=180000)(u:v.2.length<=180000)(e:∀d∈v.1,fR p d)(i:Nat)(G:i<=v.1.length)(l:List<|List Int)(m:List<|Int×Bool)(H:l.length<=i)(z:l.flatten.length+(dV v).countP (nL m)<=400000)(g:∀c∈l,c.length<=800000/\∃d t,c=d::t/\fR p d):
 aD (λn k=>Fh oY n k (v.2,yT v.1,ln<|yT v.1) (l,m,(i:Int))) λr=>r.1.length<=180000/\r.1.flatten.length<=400000/\∀c∈r.1,c.length<=800000/\∃d t,c=d::t/\fR p d:=by
 have y:=Ns v.1;refine fE<|bB (λd B F=>?_) λE=>aA ⟨by show l.length<=_;omega,by show l.flatten.length<=_;omega,g⟩;rw[dL<|by omega];have b:d∈v.1:=(D9 v.1).mem_iff.1<|List.mem_of_getElem? B;refine aE (λ_=>PI p v s u e (i+1) (by omega) l m (by omega) z g) λx=>?_;have A:∀k,(cR v.2 k).getD 0∈dV v:=by
  intro k;unfold dV;cases D:cR v.2 k with
  | none=>simp
  | some w=>exact List.mem_append_right _<|List.mem_cons_of_mem _<|Y6 D
 have o:(dV v).length<=400000:=by simp[dV];omega
 refine aH (Q:=λr=>∃t,r.2=d::t/\r.2.length+(dV v).countP (nL r.1)<=(dV v).countP (nL m)) (bF<|aH (bH<|TQ p v.2 (dV v) A (by omega) m [] d (List.mem_append_left _ b)<|by simp only[List.length_nil];omega) λr j=>aA ?_) λr j=>aJ (Vs<|by omega) ?_
 .let⟨t,h,q,C⟩:=j;obtain⟨f,rfl⟩:=C x;exact⟨f,by simpa using h,by simpa using q⟩
 let⟨f,h,q⟩:=j;refine PI p v s u e (i+1) (by omega) _ _ (by simp;omega) ?_ ?_
 .rw[List.flatten_append,List.length_append,show[r.2].flatten=r.2 by simp];omega
 intro c a;rcases List.mem_append.1 a with a | a
 .exact g c a
 .rw[List.mem_singleton.1 a];exact⟨by omega,d,f,h,e d b⟩
termination_by v.1.length-i
decreasing_by all_goals (have:=Ns v.1;omega)
theorem aIf{v:List Int×List (Int×Int)}(c:v.1.length<=180000)(d:v.2.length<=180000){m:List<|Int×Bool}: ([]:List<|List Int).flatten.length+(dV v).countP (nL m)<=400000:=by
 have b:(dV v).countP (nL m)<=(dV v).length:=List.countP_le_length;have a:(dV v).length<=400000:=by simp[dV];omega
 simp only[List.flatten_nil,List.length_nil];omega
def aE9(p:aX)(l:List<|List Int): Prop:=l.length<=180000/\l.flatten.length<=400000/\∀c∈l,c.length<=800000/\∃d t,c=d::t/\fR p d
theorem aBk(p:aX)(b:Sm p): aD (λn _=>Dv n p) λr=>r.2=0->qO p/\aE9 p r.1:=by
 refine bA (λ_=>rfl)<|aH (aDM p b) λc i=>aE (λh=>aA λe=>?_) λh=>?_
 .rw[show c=0 from e] at h;simp at h
 .have d:=i (by simpa using h);exact aH (bH<|A9 p b d 0 (by omega) [] [] (by simp) (by simp)<|by simp) λv a=>bF<|aJ (YH<|decide_eq_true<|by have:=a.1;omega)<|aH (aD.sh (f:=λn=>Du n (v.2,yT v.1,ln<|yT v.1) ([],[],0))<|bH<|PI p v a.1 a.2.1 a.2.2 0 (by omega) [] [] (by simp) (aIf a.1 a.2.1)<|by simp) λr g=>aA λ_=>⟨d,g⟩
structure Rf(p:aX)(m:List (Int×List Aaa)): Prop where
 has:∀a∈p.Arcs,∃l,cR m a.ID=some l/\2<=l.length
 len:∀k l,cR m k=some l->l.length<=302
theorem RI(p:aX)(d:Sm p)(g:qO p)(i:Nat)(m:List<|Int×List Aaa)(s:∀(j:Nat) (a:eP),j<i->p.Arcs[j]?=some a->∃l,cR m a.ID=some l/\2<=l.length)(t:∀k l,cR m k=some l->l.length<=302): aD (λn k=>Fh kU n k (p,p.Arcs,ln p.Arcs) (m,(i:Int))) λr=>Rf p r:=by
 have y:=d.a;refine fE<|bB (λx f u=>aH (PD p d x.ID) λw q=>aE (λ_=>?_) λh=>?_) λo=>aA ⟨oR.fin (l:=p.Arcs) (i:=i) (Q:=λ(a:eP)=>∃l,cR m a.ID=some l/\2<=l.length) s o,t⟩
 .rw[dL<|by omega];subst q;refine RI p d g (i+1) _ (λj a v b=>?_) λk l e=>?_
  .rw[uP];by_cases he:x.ID=a.ID
   .rw[if_pos he];exact⟨_,rfl,uJ (g.pth x<|List.mem_of_getElem? f).1⟩
   .rw[if_neg he];refine s j a ?_ b;rcases Nat.lt_or_ge j i with h | h
    .exact h
    .have:j=i:=by omega
     subst this;rw[f] at b;cases b;exact absurd rfl he
  .rw[uP] at e;split at e
   .cases e;exact Bk p d _
   .exact t k l e
 .subst q;rw[(g.pth x<|List.mem_of_getElem? f).1] at h;simp at h
termination_by p.Arcs.length-i
theorem F6(p:aX)(c:Sm p)(b:qO p): aD (λn _=>uA n p) λr=>Rf p r:=
 bA (λ_=>rfl)<|aH (bH<|RI p c b 0 [] (λj a h=>by omega) λk l h=>by cases h) λr d=>aA d
theorem VB(p:aX)(a:Sm p)(d:Int): Tt λn _=>An n p d:=
 bA (λ_=>rfl)<|aE (λ_=>aA trivial) λ_=>aE (λ_=>aA trivial) λ_=>aH (aBr p a _) λ_ _=>aE (λ_=>aA trivial) λ_=>aA trivial
theorem VG(p:aX)(a:Sm p)(d:Int): Tt λn _=>Hm n p d:=
 bA (λ_=>rfl)<|aH (VB p a d) λ_ _=>aE (λ_=>aE (λ_=>aA trivial) λ_=>aA trivial) λ_=>aA trivial
theorem A4(v:List Aaa)(k:Int)(c:k=wr (ln v-1))(f:2<=v.length)(e:v.length<=1000)(i:Nat)(s:Int): Tt λn m=>Fh qP n m (v,k) (s,(i:Int)):=by
 have g:wr (ln v-1)=((v.length-1:Nat):Int):=by unfold wr ln;rw[i64_in _<|by omega];omega
 refine fE<|aE (λh=>?_) λh=>aA trivial;have d:i<v.length-1:=by rw[c,g] at h;have:=of_decide_eq_true h;omega
 have b:idx v (i:Int)=some v[i]:=by rw[eU];exact List.getElem?_eq_getElem<|by omega
 have a:idx v ((i+1:Nat):Int)=some v[i+1]:=by rw[eU];exact List.getElem?_eq_getElem<|by omega
 rw[dL<|by omega];exact aJ b<|aJ a<|aJ a<|aJ b<|A4 v k c f e (i+1) _
termination_by v.length-i
theorem OU(p:aX)(e:Sm p)(c:List Int)(f:c.length<=512)(i:Nat)(s:Int): aD (λn m=>vK qQ n m (p,c,ln c) (s,(i:Int)))<|Su (λ_=>True) λ_=>True:=
 cG<|bB (λd k j=>aH (VB p e d) λw _=>aE (λ_=>aH (PD p e _) λv g=>aE (λ_=>aA trivial) λb=>by
  rw[dL<|by omega];have a:v.2=0:=by simpa using b
  refine aH (bH<|A4 v.1 _ rfl (by rw[g] at a |-;exact uJ a) (by rw[g];have:=Bk p e<|Fk d<|wr<|0-d;omega) 0 0) λt _=>aE (λ_=>OU p e c f (i+1) _) λ_=>OU p e c f (i+1) _) λ_=>aA trivial)
  (λh=>aA trivial)
termination_by c.length-i
theorem M1(p:aX)(a:Sm p)(c:List Int): Tt λn _=>oW n p c:=
 bA (λ_=>rfl)<|aE (λ_=>aA trivial) λh=>aT (bH<|OU p a c (by have h:¬ln c > 512:=of_decide_eq_false h;unfold ln at h;omega) 0 0) (λ_ _=>aA trivial) λ_ _=>aJ rfl<|aA trivial
section
variable {a b c:Aaa}
instance aMn: TC (λn=>lV n (a,b,c)):=⟨by repeat' first | exact aA trivial | refine aE (λ_=>?_) (λ_=>?_) | refine bQ λ_=>?_⟩
instance aMm: TC (λn=>lU n (a,b,c)):=⟨by repeat' first | exact aA trivial | refine aE (λ_=>?_) (λ_=>?_) | refine bQ λ_=>?_⟩
end
theorem aDf(a x y:Aaa)(b c:Bool): Tt λn _=>lW n (a,b,c,x,y):=by
 refine bF ?_;repeat' first | exact aA trivial | refine aE (λ_=>?_) (λ_=>?_) | refine bQ λ_=>?_
theorem x6(a:Aaa)(l:List Aaa)(g:l.length<=1000)(i:Nat)(q:1<=i)(p f:Bool): Tt λn k=>Fh eB n k (a,l) (p,f,(i:Int)):=by
 refine fE<|aE (λh=>?_) λ_=>aA trivial;have b:(i:Int)<ln l:=of_decide_eq_true h;have b:i<l.length:=by unfold ln at b;omega
 have j:wr ((i:Int)-1)=((i-1:Nat):Int):=by rw[wr,i64_in _<|by omega];omega
 rw[dL<|by omega,j];have c:∀e d,Tt λn k=>Fh eB n k (a,l) (e,d,((i+1:Nat):Int)):=λe d=>x6 a l g (i+1) (by omega) e d;have o:idx l ((i-1:Nat):Int)=some (l[i-1]'(by omega)):=by rw[eU];exact List.getElem?_eq_getElem<|by omega
 have m:idx l (i:Int)=some l[i]:=by rw[eU];exact List.getElem?_eq_getElem<|by omega
 exact aJ o<|aJ m<|aH (aDf _ _ _ _ _) λ_ _=>aE (λ_=>aE (λ_=>c _ _) λ_=>c _ _) λ_=>aE (λ_=>c _ _) λ_=>c _ _
termination_by l.length-i
def GI(m:List<|Int×List Aaa): Prop:=∀k l,cR m k=some l->l.length<=302
theorem GI.d{m:List<|Int×List Aaa}(h:GI m)(k:Int): ((cR m k).getD []).length<=1000:=by
 cases e:cR m k with
 | none=>simp
 | some l=>have:=h k l e;show l.length<=_;omega
theorem x7(m:List<|Int×List Aaa)(f:GI m)(c:List Int)(g:c.length<=800000)(a:Aaa)(i:Nat)(e b:Bool): Tt λn k=>Fh fM n k (a,m,c,ln c) (e,b,(i:Int)):=
 fE<|bB (λd l j=>by
  rw[dL<|by omega];exact aH (bH<|x6 a _ (f.d _) 1 (by omega) e b) λ_ _=>x7 m f c g a (i+1) _ _)
  (λh=>aA trivial)
termination_by c.length-i
theorem aDe(m:List<|Int×List Aaa)(d:GI m)(c:List Int)(b:c.length<=800000)(a:Aaa): Tt λn _=>eN n m c a:=
 bA (λ_=>rfl)<|aH (Q:=λ_=>True) (bF<|aH (bH<|x7 m d c b a 0 false false) λ_ _=>aA trivial) λ_ _=>aE (λ_=>aE (λ_=>aA trivial) λ_=>aA trivial) λ_=>aE (λ_=>aA trivial) λ_=>aA trivial
theorem YJ(m:List<|Int×List Aaa)(e:GI m)(l:List Ch)(f:∀x∈l,x.outer.length<=800000)(a:Aaa)(b i:Nat)(g:b<l.length)(d:i<l.length): Tt λn _=>qH n (a,m,l,(b:Int),(i:Int)):=by
 have c:idx l (i:Int)=some l[i]:=by rw[eU];exact List.getElem?_eq_getElem d
 have e2:idx l (b:Int)=some l[b]:=by rw[eU];exact List.getElem?_eq_getElem g
 have k:Tt λn _=>eN n m l[i].outer a:=aDe m e _ (f _<|List.getElem_mem d) a;exact aE (λ_=>aJ c<|aH k λ_ _=>aE (λ_=>aA trivial) λ_=>aA trivial) λ_=>aJ c<|aJ e2<|aE (λ_=>aJ c<|aH k λ_ _=>aE (λ_=>aA trivial) λ_=>aA trivial) λ_=>aA trivial
theorem Un(m:List<|Int×List Aaa)(d:GI m)(l:List Ch)(f:∀x∈l,x.outer.length<=800000)(g:l.length<=800000)(a:Aaa)(b i:Nat)(e:b<l.length): aD (λn k=>Fh iJ n k (a,m,l) ((b:Int),(i:Int))) λr=>0<=r/\r.toNat<l.length:=
 fE<|aE (λh=>by
  have c:(i:Int)<ln l:=of_decide_eq_true h;have c:i<l.length:=by unfold ln at c;omega
  rw[dL<|by omega];exact aH (YJ m d l f a b i e c) λ_ _=>aE (λ_=>Un m d l f g a i (i+1) c) λ_=>Un m d l f g a b (i+1) e)
  (λj=>aA<|show 0<=(b:Int)/\(b:Int).toNat<l.length from⟨by omega,by simpa using e⟩)
termination_by l.length-i
theorem v5(m:List<|Int×List Aaa)(c:GI m)(l:List Ch)(d:∀x∈l,x.outer.length<=800000)(e:l.length<=800000)(f:0<l.length)(a:Aaa): aD (λn _=>eA n m l a) λr=>0<=r/\r.toNat<l.length:=
 bA (λ_=>rfl)<|aH (bH<|Un m c l d e a 0 1 f) λr b=>aA b
theorem PH(l:List eP)(a:l.length<=300)(id:Int)(i:Nat)(s:Int): Tt λn m=>Fh pN n m (id,l,ln l) (s,(i:Int)):=
 fE<|bB (λd e b=>by
  rw[dL<|by omega];refine aH (Q:=λ_=>True) ?_ λ_ _=>aE (λ_=>PH l a id (i+1) _) λ_=>PH l a id (i+1) _;exact aE (λ_=>aA trivial) λ_=>aA trivial)
  (λc=>aA trivial)
termination_by l.length-i
theorem M7(p:aX)(b:Sm p)(id:Int): Tt λn _=>mU n p id:=
 bA (λ_=>rfl)<|aH (bH<|PH p.Arcs b.a id 0 0) λ_ _=>aA trivial
structure aGF(l:List eO)(b c:Nat): Prop where
 al:∀a∈l,a.alone.length<=c
 sz:∀a∈l,a.outer.length+a.inner.flatten.length<=400000
 l1:1<=l.length
 l2:l.length<=200000
 ou:∀a∈l,a.outer.length<=800000
 inn:∀a∈l,a.inner.length<=b/\∀c∈a.inner,c.length<=800000
 ne:∀(i:Nat) (a:eO),1<=i->l[i]?=some a->a.outer≠[]
def aDJ: Prop:=∀(p:aX) (cs:List<|List Int) (m:List<|Int×List Aaa),Sm p->qO p->aE9 p cs->Rf p m->aD (λn _=>lX n p cs m) λr=>aGF r 200000 300
theorem aEt(a:eO)(h:a.inner.length<=200000): aD (λn _=>iK n a) λr=>r=a.outer::a.inner:=
 bA (λ_=>rfl)<|aJ (yH (l:=[a.outer]) (m:=a.inner)<|by simp;omega)<|aA rfl
section
variable (p:aX)(hp:Sm p)(lf:List Int)(v:Int)
include hp
theorem v9(c:List Int)(a:c.length<=800000)(i:Nat): aD (λn m=>vK nR n m (p,lf,v,c,ln c) (i:Int))<|Su (λ_=>True) λ_=>True:=
 cG<|bB (λd g b=>aH (VG p hp d) λ_ _=>by
  rw[dL<|by omega];exact aE (λ_=>aA trivial) λ_=>v9 c a<|i+1)
  (λe=>aA trivial)
termination_by c.length-i
theorem NX(a:List<|List Int)(g:a.length<=800000)(b:∀c∈a,c.length<=800000)(i:Nat): aD (λn m=>vK nS n m (p,lf,v,a,ln a) (i:Int))<|Su (λ_=>True) λ_=>True:=
 cG<|bB (λc e d=>aT (bH<|v9 p hp lf v c (b c<|List.mem_of_getElem? e) 0) (λ_ _=>aA trivial) λ_ _=>aJ rfl<|by
  rw[dL<|by omega];exact NX a g b<|i+1)
  (λf=>aA trivial)
termination_by a.length-i
end
theorem SG{V:Type}(k:Int)(v:V): ∀m:List<|Int×V,cR m k=none->(oQ m k v).length=m.length+1
 | [],_=>rfl
 | a::r,h=>by
  simp only[cR] at h;split at h
  .cases h
  .rename_i b;simp only[oQ];rw[if_neg b];simp only[List.length_cons];rw[SG k v r h]
theorem NY(p:aX)(q:Sm p)(l:List eO)(o:aGF l 200000 300)(i:Nat)(R:i<=l.length)(lf:List Int)(g:List<|Int×Bool)(K:lf.length=i)(E:g.length=i-1)(j:∀k v,cR g k=some v->v=true): aD (λn m=>vK nT n m (p,l,ln l) (lf,g,(i:Int)))<|Su (λ_=>True) λr=>r.1.length=l.length/\r.2.length=l.length-1:=by
 have O:=o.l2;refine cG<|bB (λa I N=>?_) λL=>aA (show lf.length=l.length/\g.length=l.length-1 by omega);have y:=List.mem_of_getElem? I;have D:=o.inn a y;have B:=o.ou a y;have f:∀w,w=a.outer::a.inner->w.length<=800000/\∀c∈w,c.length<=800000:=by
  rintro w rfl;refine⟨by simp;omega,λc H=>?_⟩;rcases List.mem_cons.1 H with rfl | H
  .exact B
  .exact D.2 c H
 rw[dL<|by omega];refine aE (λb=>?_) λb=>?_
 .have F:1<=i:=by have:(i:Int) > 0:=of_decide_eq_true b;omega
  have G:=o.ne i a F I;let⟨d,t,C⟩:∃d t,a.outer=d::t:=by
   cases h:a.outer with
   | nil=>exact absurd h G
   | cons d t=>exact⟨d,t,rfl⟩
  refine aJ (x:=d) (by rw[C];rfl)<|aH (VG p q d) λv _=>aH (Q:=λr=>r=false->(cR g v).getD false=false) ?_ λ_ M=>aE (λ_=>aA trivial) λJ=>aH (aEt a<|by omega) λw s=>aT (bH<|NX p q lf v w (f w s).1 (f w s).2 0) (λ_ _=>aA trivial) λ_ _=>aJ rfl<|aJ (Vs<|by omega)<|NY p q l o (i+1) (by omega) _ _ (by simp;omega) ?_ ?_
  .exact aE (λ_=>aA<|by simp) λ_=>aE (λ_=>aA<|by simp) λh=>aA λ_=>h
  .have h:=M J;have:cR g v=none:=by
    cases e:cR g v with
    | none=>rfl
    | some w=>rw[e,j v w e] at h;cases h
   rw[SG v true g this,E];omega
  .intro k u z;rw[uP] at z;split at z
   .cases z;rfl
   .exact j k u z
 .exact aH (aEt a<|by omega) λw s=>aT (bH<|NX p q lf 0 w (f w s).1 (f w s).2 0) (λ_ _=>aA trivial) λ_ _=>aJ rfl<|aJ (Vs<|by omega)<|NY p q l o (i+1) (by omega) _ _ (by simp;omega) (by have:¬(i:Int) > 0:=of_decide_eq_false b;omega) j
termination_by l.length-i
theorem aCY(p:aX)(e:Sm p)(l:List eO)(c:aGF l 200000 300): aD (λn _=>Bg n p l) λr=>r.2=true->r.1.length=l.length/\l.length=p.Faces.length+1:=
 bA (λ_=>rfl)<|aT (bH<|NY p e l c 0 (by omega) [] [] rfl rfl λ_ _ h=>by cases h) (λ_ _=>aA<|by simp) λr d=>aJ rfl<|aE (λb=>aA λ_=>⟨d.1,by have:=c.l1;have f:=d.2;have b:ln r.2=ln p.Faces:=eq_of_beq b;unfold ln at b;omega⟩) λ_=>aA λh=>by cases h
def SzR(o:List Int)(i:List<|List Int)(a:List Int): Prop:=o.length+i.flatten.length<=400000/\(i.length<=200000/\∀c∈i,c.length<=800000)/\a.length<=300
theorem aEX(s:aDJ)(p:aX)(g:Sm p): aD (λn _=>Eh n p) λr=>r.2.2.2=0->qO p/\r.1.length=p.Faces.length+1/\r.2.1.length=r.1.length/\r.1.length<=200000/\∀a∈r.1,SzR a.outer a.inner a.alone:=by
 refine bA (λ_=>rfl)<|aH (aBk p g) λc o=>aE (λb=>aA λh=>?_) λb=>?_
 .rw[show c.2=0 from h] at b;simp at b
 .let⟨j,i⟩:=o (by simpa using b);exact aH (F6 p g j) λm q=>aH (s p c.1 m g j i q) λl d=>aH (aCY p g l d) λf k=>aE (λb=>aA λ_=>⟨j,(k b).2,(k b).1,d.l2,λa e=>⟨d.sz a e,⟨by have:=(d.inn a e).1;omega,(d.inn a e).2⟩,by have:=d.al a e;omega⟩⟩) λ_=>aA λh=>by cases h
theorem M2(m:aDJ)(p:aX)(s:Sm p): ∃v:Unit×Int,True/\(v.2=0->qO p/\True)/\True/\aD (λn _=>Bh n p) λr=>r=v.2:=by
 let⟨v,e,g⟩:=(aEX m p s).val
 exact⟨((),v.2.2.2),trivial,λh=>⟨(e h).1,trivial⟩,trivial,bA (λ_=>rfl)<|aH g λz o=>aA<|by rw[o]⟩
theorem aJW{c:Prop}[Decidable c]{x y:Nat×Nat}(b:1<=x.2/\x.2<=4)(a:1<=y.2/\y.2<=4): 1<=(if c then x else y).2/\(if c then x else y).2<=4:=by split<;>assumption
theorem aId(s:ByteArray)(p:Nat)(h:p<s.size): 1<=(Utf8.decode s p).2/\(Utf8.decode s p).2<=4:=by
 unfold Utf8.decode;dsimp only;repeat' first
  | apply aJW
  | (show 1<=_/\_<=4;exact⟨by dsimp only;omega,by dsimp only;omega⟩)
theorem VI(a:Int)(b:tC)(i:Nat): aD (λn m=>vK oC n m (a,b) (i:Int))<|Su (λ_=>True) λ_=>True:=
 cG<|aE (λh=>by
  have h:(i:Int)<13:=of_decide_eq_true h;have h:i<13:=by omega
  rw[dL<|by omega];refine aJ (x:=([b.e0,b.e1,b.e2,b.e3,b.e4,b.e5,b.e6,b.e7,b.e8,b.e9,b.e10,b.e11,b.e12]:List fU)[i]) (by rw[eU];exact List.getElem?_eq_getElem<|by simpa using h)<|aH (Q:=λ_=>True) ?_ λ_ _=>aE (λ_=>aA trivial) λ_=>VI a b<|i+1;repeat' first
   | exact aA trivial
   | refine aE (λ_=>?_) (λ_=>?_)) λ_=>aA trivial
termination_by 13-i
theorem VH(a:Int): Tt λn _=>sU n a:=
 bA (λ_=>rfl)<|aE (λ_=>aA trivial) λ_=>aE (λ_=>aA trivial) λ_=>aT (bH<|VI _ _ 0) (λ_ _=>aA trivial) λ_ _=>aJ rfl<|aA trivial
theorem VL(s:ByteArray)(b:s.size<=1000)(i:Nat)(l:List Int)(d:l.length<=i)(e:i<=1010): aD (λn m=>vK oD n m () (l,(s,i)))<|Su (λ_=>True) λv=>v.1.length<=1010:=
 cG<|aE (λh=>by
  have h:i<s.size:=of_decide_eq_true h;have c:=aId s i h;refine aH (VH _) λ_ _=>aE (λ_=>aA trivial) λ_=>aJ (A2<|by omega)<|VL s b (i+(Utf8.decode s i).2) _ (by simp;omega)<|by omega) λh=>aA<|show l.length<=1010 by omega
termination_by s.size-i
theorem aBi(s:ByteArray)(a:s.size<=1000): aD (λn _=>Bq n s) λr=>r.1.length<=1010:=
 bA (λ_=>rfl)<|aT (bH<|VL s a 0 [] (by simp)<|by omega) (λ_ _=>aA<|by simp) λv b=>aJ rfl<|aA b
theorem aDm(s t:ByteArray)(h:s.size<=1000): Tt λn _=>KP n s t:=
 ⟨_,trivial,1,λn m a _=>by
  obtain⟨n,rfl⟩:∃k,n=k+1:=⟨n-1,by omega⟩;show (match Nat.blt s.size 4294967281 with | true=>_ | false=>_)=_;rw[show Nat.blt s.size 4294967281=true from by rw[Nat.blt_eq];omega]⟩
theorem S6{s:ByteArray}{i:Int}(a:0<=i)(h:i.toNat<s.size): ∃c,sat s i=some c:=by
 unfold sat;rw[if_pos a,List.getElem?_eq_getElem<|by simpa using h];exact⟨_,rfl⟩
theorem o8(a b:List Int)(d:b.length<=100000)(i:Nat): aD (λn m=>vK uN n m (a,b,ln b) (i:Int))<|Su (λ_=>True) λ_=>True:=
 cG<|bB (λx f c=>aH (VH x) λ_ _=>by
  rw[dL<|by omega];exact aE (λ_=>aA trivial) λ_=>o8 a b d<|i+1)
  (λe=>aA trivial)
termination_by b.length-i
theorem aF2(s:ByteArray): Tt λn _=>uO n s:=by
 refine bA (λ_=>rfl)<|aH (Q:=λ_=>True) ?_ λ_ _=>aA trivial;refine bA (λ_=>rfl)<|aE (λ_=>aA trivial) λf=>aE (λ_=>aA trivial) λh=>?_;have h:¬((s.size:Nat):Int) > 40:=of_decide_eq_false h;have f:s≠(⟨#[]⟩:ByteArray):=of_decide_eq_false f;have m:0<s.size:=by
  rcases Nat.eq_zero_or_pos s.size with e | e
  .exfalso;apply f;cases s with
   | mk d=>cases d with
    | mk l=>cases l with
     | nil=>rfl
     | cons a l=>simp[ByteArray.size] at e
  .exact e
 let⟨c,j⟩:=S6 (s:=s) (i:=0) (by omega) (by simpa using m);have g:wr ((s.size:Int)-1)=(s.size:Int)-1:=by rw[wr,i64_in _<|by omega]
 let⟨d,k⟩:=S6 (s:=s) (i:=(s.size:Int)-1) (by omega) (by omega);refine aH (aBi s<|by omega) λb o=>aE (λ_=>aA trivial) λ_=>aH (Q:=λ_=>True) ?_ λ_ _=>aE (λ_=>aA trivial) λ_=>aT (bH<|o8 b.1 b.1 (by omega) 0) (λ_ _=>aA trivial) λ_ _=>aJ rfl<|aA trivial;exact aJ j<|aE (λ_=>aA trivial) λ_=>aJ (by rw[g];exact k)<|aE (λ_=>aA trivial) λ_=>aH (aDm s _<|by omega) λ_ _=>aE (λ_=>aA trivial) λ_=>aA trivial
instance aJQ{s:ByteArray}: TC (λn=>uO n s):=⟨aF2 s⟩
structure aDG(s:cS): Prop where
 p:Sm s.Plan
 n:s.Features.length<=1000
 f:∀f∈s.Features,f.Parts.length<=1000
abbrev Sx{β γ:Type}(f:Nat->Nat->Option (β⊕γ)): Prop:=aD f (Su (λ_=>True) λ_=>True)
instance aJh{x:Int}: TC (λn=>fH n x):=⟨bA (λ_=>rfl) (by repeat' first|apply fD|apply aE|apply bQ|intro)⟩
section
variable {f:aP}
instance fc1: TC (λn=>lE n f):=⟨by repeat' first|apply fD|apply aE|apply bQ|intro⟩
instance fc4: TC (λn=>lD n f):=⟨by repeat' first|apply fD|apply aE|apply bQ|intro⟩
instance fc5: TC (λn=>lC n f):=⟨by repeat' first|apply fD|apply aE|apply bQ|intro⟩
instance aMj: TC (λn=>wR n f):=⟨bF (by repeat' first|apply fD|apply aE|apply bQ|intro)⟩
instance aMi: TC (λn=>wO n f):=⟨bF (by repeat' first|apply fD|apply aE|apply bQ|intro)⟩
instance aMh: TC (λn=>wL n f):=⟨bF (by repeat' first|apply fD|apply aE|apply bQ|intro)⟩
instance aMg: TC (λn=>wI n f):=⟨bF (by repeat' first|apply fD|apply aE|apply bQ|intro)⟩
instance aMf: TC (λn=>oG n f):=⟨bF (by repeat' first|apply fD|apply aE|apply bQ|intro)⟩
end
section
variable (l:List aP)(hl:l.length<=1000)
include hl
theorem aHT(i:Nat): Sx λn m=>vK lK n m (l,ln l) (i:Int):=
 cG<|bB (λx c a=>by
  rw[dL<|by omega];exact bQ λ_=>aE (λ_=>aA trivial) λ_=>aHT<|i+1)
  (λb=>aA trivial)
termination_by l.length-i
theorem aKc: Sx λn _=>wT n l:=
 bF<|aT (f:=λn _=>wS n l) (Q:=λ_=>True) (R:=λ_=>True) (bF<|aT (bH<|aHT l hl 0) (λ_ _=>aA trivial) λ_ _=>aJ rfl<|aA trivial) (λ_ _=>aE (λ_=>aA trivial) λ_=>aA trivial) λ_ _=>aJ rfl<|aA trivial
theorem aHS(i:Nat): Sx λn m=>vK lJ n m (l,ln l) (i:Int):=
 cG<|bB (λx c a=>by
  rw[dL<|by omega];exact bQ λ_=>aE (λ_=>aA trivial) λ_=>aHS<|i+1)
  (λb=>aA trivial)
termination_by l.length-i
theorem aKb: Sx λn _=>wQ n l:=
 bF<|aT (f:=λn _=>wP n l) (Q:=λ_=>True) (R:=λ_=>True) (bF<|aT (bH<|aHS l hl 0) (λ_ _=>aA trivial) λ_ _=>aJ rfl<|aA trivial) (λ_ _=>aE (λ_=>aA trivial) λ_=>aA trivial) λ_ _=>aJ rfl<|aA trivial
theorem aHR(i:Nat): Sx λn m=>vK lI n m (l,ln l) (i:Int):=
 cG<|bB (λx c a=>by
  rw[dL<|by omega];exact bQ λ_=>aE (λ_=>aA trivial) λ_=>aHR<|i+1)
  (λb=>aA trivial)
termination_by l.length-i
theorem aKa: Sx λn _=>wN n l:=
 bF<|aT (f:=λn _=>wM n l) (Q:=λ_=>True) (R:=λ_=>True) (bF<|aT (bH<|aHR l hl 0) (λ_ _=>aA trivial) λ_ _=>aJ rfl<|aA trivial) (λ_ _=>aE (λ_=>aA trivial) λ_=>aA trivial) λ_ _=>aJ rfl<|aA trivial
theorem aHQ(i:Nat): Sx λn m=>vK lH n m (l,ln l) (i:Int):=
 cG<|bB (λx c a=>by
  rw[dL<|by omega];exact bQ λ_=>aE (λ_=>aA trivial) λ_=>aHQ<|i+1)
  (λb=>aA trivial)
termination_by l.length-i
theorem aJZ: Sx λn _=>wK n l:=
 bF<|aT (f:=λn _=>wJ n l) (Q:=λ_=>True) (R:=λ_=>True) (bF<|aT (bH<|aHQ l hl 0) (λ_ _=>aA trivial) λ_ _=>aJ rfl<|aA trivial) (λ_ _=>aE (λ_=>aA trivial) λ_=>aA trivial) λ_ _=>aJ rfl<|aA trivial
theorem fI3(j:∀f∈l,f.Parts.length<=1000)(m:List<|Aab×Bool): Sx λn _=>zS n (m,l):=by
 have o:∀(a:Int) (p:List Int) (d:p.length<=1000) (k i:Nat) (m:List<|Aab×Bool),p.length<=i+k->Sx (λn k=>vK mQ n k (a,p,ln p) (m,(i:Int))):=by
  intro a p d k;induction k with
  | zero=>exact λi m h=>cG<|bB (λx c b=>by omega) λ_=>aA trivial
  | succ k e=>
   intro i m h;refine cG<|bB (λx c b=>?_) λ_=>aA trivial;rw[dL<|by omega];exact aE (λ_=>aA trivial) λ_=>e (i+1) _<|by omega
 have q:∀(m:List<|Aab×Bool) (f:aP),f.Parts.length<=1000->Sx (λn _=>zQ n (m,f)):=λm f d=>
  bF<|aT (f:=λn _=>zO n f) (Q:=λ_=>True) (R:=λ_=>True) (bQ λ_=>aE (λ_=>aA trivial) λ_=>aE (λ_=>aA trivial) λ_=>aA trivial) (λ_ _=>aA trivial) λ_ _=>aJ rfl<|aT (bH<|o _ _ d _ 0 _<|Nat.le_add_left ..) (λ_ _=>aA trivial) λ_ _=>aJ rfl<|aA trivial
 have g:∀(k i:Nat) (m:List<|Aab×Bool),l.length<=i+k->Sx (λn k=>vK mR n k (l,ln l) (m,(i:Int))):=by
  intro k;induction k with
  | zero=>exact λi m h=>cG<|bB (λx c b=>by omega) λ_=>aA trivial
  | succ k e=>
   intro i m h;refine cG<|bB (λx c b=>?_) λ_=>aA trivial;rw[dL<|by omega];exact aT (q _ x<|j x<|List.mem_of_getElem? c) (λ_ _=>e (i+1) _<|by omega) λ_ _=>aJ rfl<|aA trivial
 exact bF<|aT (f:=λn _=>zR n (m,l)) (Q:=λ_=>True) (R:=λ_=>True) (bF<|aT (bH<|g _ 0 m<|Nat.le_add_left ..) (λ_ _=>aA trivial) λ_ _=>aJ rfl<|aA trivial) (λ_ _=>aE (λ_=>aA trivial) λ_=>aA trivial) λ_ _=>aJ rfl<|aA trivial
end
theorem aIB(l:List Int)(x:Int)(b:l.length<=100000): aD (λn _=>Uf n l x) λr=>r=decide (x∈l):=
 bA (λ_=>rfl)<|aH (Ci l x b) λr a=>aE (λh=>aA<|by rw[<-a,h]) λh=>aA<|by rw[<-a,h]
theorem aF6(p:aX)(b:Sm p)(f:aP)(l:List Int)(j:l.length<=1000): Tt λn _=>mP n (p,f,l):=by
 have d:∀x:Int,Tt λn _=>uU n (p,f,x):=λx=>
  bF<|bQ λ_=>aE (λ_=>aH (Vy p b x) λ_ _=>aE (λ_=>aA trivial) λ_=>aA trivial) λ_=>aE (λ_=>aH (aBr p b x) λ_ _=>aE (λ_=>aA trivial) λ_=>aA trivial) λ_=>aE (λ_=>aH (aIB p.Faces x<|by have:=b.f;omega) λ_ _=>aE (λ_=>aA trivial) λ_=>aA trivial) λ_=>aA trivial
 have c:∀(k i:Nat),l.length<=i+k->Sx (λn k=>vK gI n k (p,f,l,ln l) (i:Int)):=by
  intro k;induction k with
  | zero=>exact λi h=>cG<|bB (λx g a=>by omega) λ_=>aA trivial
  | succ k e=>
   intro i h;refine cG<|bB (λx g a=>?_) λ_=>aA trivial;rw[dL<|by omega];exact aH (d x) λ_ _=>aE (λ_=>aA trivial) λ_=>e (i+1)<|by omega
 exact bF<|aH (f:=λn _=>uV n (p,f,l)) (Q:=λ_=>True) (bF<|aT (bH<|c _ 0<|Nat.le_add_left ..) (λ_ _=>aA trivial) λ_ _=>aJ rfl<|aA trivial) λ_ _=>aE (λ_=>aA trivial) λ_=>aA trivial
theorem fI9(s:cS)(d:aDG s): Sx λn _=>zP n (s,s.Features):=by
 have c:∀f∈s.Features,Tt λn _=>wV n (s,f):=λf g=>
  bF<|aH (f:=λn _=>wU n (s.Plan,f)) (Q:=λ_=>True) (bF<|aH (aF6 s.Plan d.p f f.Parts<|d.f f g) λ_ _=>aE (λ_=>aA trivial) λ_=>aA trivial) λ_ _=>aE (λ_=>aA trivial) λ_=>aA trivial
 have b:∀(k i:Nat),s.Features.length<=i+k->Sx (λn k=>vK lL n k (s,s.Features,ln s.Features) (i:Int)):=by
  have:=d.n;intro k;induction k with
  | zero=>exact λi h=>cG<|bB (λx e a=>by omega) λ_=>aA trivial
  | succ k j=>
   intro i h;refine cG<|bB (λx e a=>?_) λ_=>aA trivial;rw[dL<|by omega];exact aH (c x<|List.mem_of_getElem? e) λ_ _=>aE (λ_=>aA trivial) λ_=>j (i+1)<|by omega
 exact bF<|aT (f:=λn _=>wW n (s,s.Features)) (Q:=λ_=>True) (R:=λ_=>True) (bF<|aT (bH<|b _ 0<|Nat.le_add_left ..) (λ_ _=>aA trivial) λ_ _=>aJ rfl<|aA trivial) (λ_ _=>aE (λ_=>aA trivial) λ_=>aA trivial) λ_ _=>aJ rfl<|aA trivial
theorem aEi(l:List Int)(a:l.length<=1000): aD (λn _=>qL n l) λr=>r=true->B4 l:=
 bA (λ_=>rfl)<|aT (bH<|FU l a 1 (Nat.le_refl _) λj x y h=>by omega) (λ_ _=>aA<|by simp) λ_ h=>aJ rfl<|aA λ_=>h
theorem aJY(s:cS)(g:aDG s): Sx λn _=>wH n (s,0,s.Features):=by
 have q:=g.n;have b:∀(i:Nat) (f:aP),f∈s.Features->i<s.Features.length->Tt (λn _=>wC n (s,((i+1:Nat):Int),f)):=by
  intro i f m p;have j:=aEi f.Parts<|g.f f m;refine aE (λh=>?_) λ_=>aH j λ_ _=>aE (λ_=>aA trivial) λ_=>aA trivial;have h:((i+1:Nat):Int) > 1:=of_decide_eq_true h;have e:wr (((i+1:Nat):Int)-2)=((i-1:Nat):Int):=by rw[wr,i64_in _<|by omega];omega
  refine aJ (x:=s.Features[i-1]'(by omega)) (by rw[e,eU];exact List.getElem?_eq_getElem<|by omega)<|aE (λ_=>aA trivial) λ_=>aH j λ_ _=>aE (λ_=>aA trivial) λ_=>aA trivial
 have c:∀(k i:Nat),s.Features.length<=i+k->Sx (λn k=>vK lG n k (s,s.Features,ln s.Features) ((i:Int),(i:Int))):=by
  intro k;induction k with
  | zero=>exact λi h=>cG<|bB (λx d a=>by omega) λ_=>aA trivial
  | succ k l=>
   intro i h;refine cG<|bB (λx d a=>?_) λ_=>aA trivial;rw[dL<|by omega];refine aH (f:=λn _=>wF n (s,(i:Int),x)) (Q:=λr=>r.1=((i+1:Nat):Int)) (bF ?_) λr o=>aE (λ_=>aA trivial) λ_=>by rw[o];exact l (i+1)<|by omega
   have e:=dL (i:=i) (by omega);have h:=b i x (List.mem_of_getElem? d) a;rw[<-e] at h |-;exact aH h λ_ _=>aE (λ_=>aA rfl) λ_=>aA rfl
 exact bF<|aT (f:=λn _=>wG n (s,0,s.Features)) (Q:=λ_=>True) (R:=λ_=>True) (bF<|aT (bH<|c _ 0<|Nat.le_add_left ..) (λ_ _=>aA trivial) λ_ _=>aJ rfl<|aA trivial) (λ_ _=>aE (λ_=>aA trivial) λ_=>aA trivial) λ_ _=>aJ rfl<|aA trivial
theorem Ce{β γ:Type}{f:Nat->Nat->Option (β⊕γ)}{N:Nat->Nat->Option Int}{q:β->Bool}{c:Int}(h:Sx f)(k:Tt N): Tt λn m=>Av.bnd2 (f n m) (λv=>Av.cnd (q v) (some c)<|N n m) λw=>Av.bnd (some w) λ_=>N n m:=
 aT h (λ_ _=>aE (λ_=>aA trivial) λ_=>k) λ_ _=>aJ rfl k
theorem aJX(l:List aP)(m:l.length<=1000): aD (λn _=>wE n l) (Su (λv=>v.2=true) λ_=>∀f∈l,f.Parts.length<=64):=by
 have d:∀(k i:Nat),l.length<=i+k->oR l i (λf=>f.Parts.length<=64)->aD (λn k=>vK lF n k (l,ln l) (i:Int)) (Su (λv=>0<=v.2) λ_=>∀f∈l,f.Parts.length<=64):=by
  intro k;induction k with
  | zero=>exact λi h b=>cG<|bB (λx e c=>by omega) λa=>aA<|b.fin a
  | succ k g=>
   intro i h b;refine cG<|bB (λx e c=>?_) λa=>aA<|b.fin a;rw[dL<|by omega];refine aH (f:=λn _=>oG n x) (Q:=λr=>r=false->x.Parts.length<=64) (bF (aE (λ_=>aA<|by simp) λh=>aA λ_=>by have h:¬ln x.Parts > 64:=of_decide_eq_false h;unfold ln at h;omega)) λr j=>aE (λ_=>aA<|show (0:Int)<=(i:Int) by omega) λh=>g (i+1) (by omega)<|b.step e<|j h
 refine bF<|aT (f:=λn _=>wD n l) (Q:=λv:aP×Int=>0<=v.2) (R:=λ_=>∀f∈l,f.Parts.length<=64) (bF<|aT (bH<|d _ 0 (Nat.le_add_left ..) .nil) (λv h=>aA<|show 0<=v.2 from h) λ_ h=>aJ rfl<|aA<|by exact h) (λv o=>aE (λ_=>aA rfl) λh=>?_) λ_ h=>aJ rfl<|aA (by exact h);have:=of_decide_eq_false h;omega
structure SvC(s:cS): Prop where
 v:qO s.Plan
 n:s.Features.length<=128
 f:∀f∈s.Features,f.Parts.length<=64
theorem qO.sm{p:aX}(h:qO p): Sm p:=⟨by have:=h.leN;omega,by have:=h.leA;omega,by have:=h.leF;omega,λa b=>by have:=h.leV a b;omega⟩
theorem SvC.ok{s:cS}(h:SvC s): aDG s:=⟨h.v.sm,by have:=h.n;omega,λf a=>by have:=h.f f a;omega⟩
theorem aFU(o:aDJ)(s:cS)(a:aDG s): aD (λn _=>yE n s) λr=>r=0->SvC s:=by
 let⟨v,_,e,_,j⟩:=M2 o s.Plan a.p;refine bA (λ_=>rfl)<|aH j λr m=>aE (λb=>aA λh=>by rw[show r=0 from h] at b;simp at b) λb=>aE (λ_=>aA<|by simp) λd=>aH (f:=λn _=>zV n s) (Q:=λ_=>True) (bF<|aA trivial) λ_ _=>aH (f:=λn _=>zU n ()) (Q:=λ_=>True) (bF<|aA trivial) λc _=>FZ ?_;have l:r=0:=by simpa using b
 have i:=(e<|by rw[<-m];exact l).1;have g:s.Features.length<=128:=by have h:¬ln s.Features > 128:=of_decide_eq_false d;unfold ln at h;omega
 refine aT (aJX _ a.n) (λv e=>aE (λ_=>aA<|by simp) λh=>by rw[show v.2=true from e] at h;cases h) λ_ k=>aJ rfl<|aD.imp (P:=λ_=>True) ?_ λ_ _ _=>⟨i,g,k⟩;exact Ce (aJY s a)<|Ce (aJZ _ a.n)<|Ce (aKa _ a.n)<|Ce (aKb _ a.n)<|Ce (aKc _ a.n)<|Ce (fI9 s a)<|Ce (fI3 _ a.n a.f c)<|aA trivial
abbrev Ev{α:Type}(f:Nat->Option α)(r:α): Prop:=aD (λn _=>f n) λx=>x=r
theorem Ev.mk{α:Type}{f:Nat->Option α}{r:α}(K:Nat)(h:∀n,K<=n->f n=some r): Ev f r:=⟨r,rfl,K,λn _ hn _=>h n hn⟩
theorem aD.e{α β:Type}{P:α->Prop}{f:Nat->Option β}{g:Nat->Nat->β->Option α}{r:β}(h:Ev f r)(k:aD (λn m=>g n m r) P): aD (λn m=>Av.bnd (f n) (g n m)) P:=aH h λx hx=>by rw[hx];exact k
theorem Ev.to{α:Type}{f:Nat->Option α}{r s:α}(h:Ev f r)(e:r=s): Ev f s:=e▸h
theorem Lk{N:Nat}{T:Nat->Prop}(h:∀i,(i<N->T (i+1))->T i)(i:Nat): T i:=h i λhi=>Lk h (i+1)
termination_by N-i
theorem aDA(s:ByteArray): s.size=s.data.toList.length:=by rw[Array.length_toList];rfl
section
open Go.IntWalk
def vl: Nat->Nat->List Int
 | 0,_=>[]
 | f+1,u=>if u<128 then[(u:Int)] else ((u % 128+128:Nat):Int)::vl f (u / 128)
theorem O5: ∀(f u:Nat),(vl f u).length<=f
 | 0,_=>Nat.le_refl _
 | f+1,u=>by
  have:=O5 f (u / 128)
  unfold vl;split
  .simp
  .simp;omega
theorem P2(x:Int): IntKind.u64.wrap x=x % 18446744073709551616:=IntKind.wrap_u64 x
theorem ZS(x:Int): IntKind.u32.wrap x=x % 4294967296:=IntKind.wrap_u32 x
theorem B9(x:Int): IntKind.u8.wrap x=x % 256:=IntKind.wrap_u8 x
theorem ofI(w n:Nat)(h:n<2 ^ w): (BitVec.ofInt w (n:Int)).toNat=n:=by
 rw[BitVec.ofInt_natCast,BitVec.toNat_ofNat,Nat.mod_eq_of_lt h]
theorem aFx(n:Nat)(h:n<18446744073709551616): G8 .u64 (n:Int)=18446744073709551615-(n:Int):=by
 show IntKind.u64.wrap (((BitVec.ofInt 64 18446744073709551615 ^^^ BitVec.ofInt 64 (n:Int)).toNat:Nat):Int)=_
 rw[show (BitVec.ofInt 64 18446744073709551615)=BitVec.allOnes 64 from by decide,BitVec.allOnes_xor,BitVec.toNat_not,ofI 64 n h,P2]
 omega
theorem N9(a b:Nat)(ha:a<4294967296)(hb:b<4294967296): eG .xor .u32 (a:Int) (b:Int)=((a ^^^ b:Nat):Int)/\a ^^^ b<4294967296:=by
 have h:a ^^^ b<2 ^ 32:=Nat.xor_lt_two_pow ha hb
 refine⟨?_,h⟩
 show IntKind.u32.wrap (((BitVec.ofInt 32 (a:Int) ^^^ BitVec.ofInt 32 (b:Int)).toNat:Nat):Int)=_
 rw[BitVec.toNat_xor,ofI 32 a ha,ofI 32 b hb,ZS]
 omega
theorem aG4(a:Nat)(ha:a<4294967296): eG .and .u32 (a:Int) 15=((a % 16:Nat):Int):=by
 show IntKind.u32.wrap (((BitVec.ofInt 32 (a:Int) &&& BitVec.ofInt 32 ((15:Nat):Int)).toNat:Nat):Int)=_
 rw[BitVec.toNat_and,ofI 32 a ha,ofI 32 15 (by decide),ZS,show (15:Nat)=2 ^ 4-1 from rfl,Nat.and_two_pow_sub_one_eq_mod]
 omega
theorem aFy(n:Nat)(h:n<4294967296): G8 .u32 (n:Int)=((4294967295-n:Nat):Int):=by
 show IntKind.u32.wrap (((BitVec.ofInt 32 4294967295 ^^^ BitVec.ofInt 32 (n:Int)).toNat:Nat):Int)=_
 rw[show (BitVec.ofInt 32 4294967295)=BitVec.allOnes 32 from by decide,BitVec.allOnes_xor,BitVec.toNat_not,ofI 32 n h,ZS]
 omega
theorem aH7: ∀m<256,eG .or .u8 ((m:Nat):Int) 128=((m % 128+128:Nat):Int):=by decide
theorem aJM(u:Nat): eG .or .u8 (IntKind.u8.wrap (u:Int)) 128=((u % 128+128:Nat):Int):=by
 rw[B9,show (u:Int) % 256=((u % 256:Nat):Int) by omega,aH7 _ (by omega)]
 omega
theorem aHi(u:Nat): aO .u64 (u:Int) 7=((u / 128:Nat):Int):=by
 show (u:Int).fdiv 128=_
 rw[Int.fdiv_eq_ediv_of_nonneg _ (by decide)];omega
theorem aJA(u:Nat): aO .u32 (u:Int) 4=((u / 16:Nat):Int):=by
 show (u:Int).fdiv 16=_
 rw[Int.fdiv_eq_ediv_of_nonneg _ (by decide)];omega
theorem KZ{α β:Type}(x:α)(f:α->Option β): bnd (some x) f=f x:=rfl
theorem dT{X:Type}{u f:Nat}{A:List Int}{N c:List Int->Option X}(hA:A.length<1000000)(hN:128<=u->N (A++[((u % 128+128:Nat):Int)])=c ((A++[((u % 128+128:Nat):Int)])++vl f (u / 128))):
 cd ((u:Int)>=128) (bnd (app A [eG .or .u8 (IntKind.u8.wrap (u:Int)) 128]) N) (bnd (app A [IntKind.u8.wrap (u:Int)]) c)=c (A++vl (f+1) u):=by
 rw[aJM,yH (by simp;omega),yH (by simp;omega),KZ,KZ]
 by_cases h:128<=u
 .rw[show cd ((u:Int)>=128) (N (A++[((u % 128+128:Nat):Int)])) (c (A++[IntKind.u8.wrap (u:Int)]))=N (A++[((u % 128+128:Nat):Int)]) by
   rw[cd,decide_eq_true (by omega)];rfl,hN h,vl,if_neg (by omega),List.append_assoc];rfl
 .rw[show cd ((u:Int)>=128) (N (A++[((u % 128+128:Nat):Int)])) (c (A++[IntKind.u8.wrap (u:Int)]))=c (A++[IntKind.u8.wrap (u:Int)]) by
   rw[cd,decide_eq_false (by omega)];rfl,vl,if_pos (by omega),B9]
  congr 3;omega
def zig(b:Int): Nat:=if b<0 then 18446744073709551615-(2*(b % 18446744073709551616)).toNat % 18446744073709551616 else (2*(b % 18446744073709551616)).toNat % 18446744073709551616
theorem N6(b:Int): zig b<18446744073709551616:=by unfold zig;split<;>omega
theorem aJB(b:Int): QN .u64 (IntKind.u64.wrap b) 1=(((2*(b % 18446744073709551616)).toNat % 18446744073709551616:Nat):Int):=by
 show IntKind.u64.wrap (IntKind.u64.wrap b*2)=_
 rw[P2,P2];omega
theorem P2z(n:Nat)(b:Int): nJ n (b,QN .u64 (IntKind.u64.wrap b) 1)=some ((zig b:Nat):Int):=by
 simp only[nJ,nE,gZ,aJB,cd,zig]
 by_cases h:b<0
 .rw[decide_eq_true h,if_pos h,aFx _ (by omega)]
  show some _=_
  congr 1;omega
 .rw[decide_eq_false h,if_neg h];rfl
def vi(b:Int): List Int:=vl 10 (zig b)
theorem fX(b:Int): (vi b).length<=10:=O5 _ _
theorem g7: jK (decide ((0:Nat)<=7))=some ():=rfl
theorem g1: jK (decide ((0:Nat)<=1))=some ():=rfl
theorem I1z(n:Nat)(a:List Int)(b:Int)(ha:a.length<=999900)(hn:10<=n): hJ (n+1) (a,b)=some ([],a++vi b):=by
 have hz:=N6 b
 unfold vi
 simp only[hJ,Dq,prd,nE,kL,KZ,g1,P2z,g7,Nat.ble_eq_true_of_le hn,show jK true=some () from rfl]
 generalize zig b=u at hz
 simp only[aHi]
 refine dT (A:=a) (c:=λs=>some (([]:List Int),s)) (by omega) λh0=>?_
 refine dT (c:=λs=>some (([]:List Int),s)) (by simp;omega) λh1=>?_
 refine dT (c:=λs=>some (([]:List Int),s)) (by simp;omega) λh2=>?_
 refine dT (c:=λs=>some (([]:List Int),s)) (by simp;omega) λh3=>?_
 refine dT (c:=λs=>some (([]:List Int),s)) (by simp;omega) λh4=>?_
 refine dT (c:=λs=>some (([]:List Int),s)) (by simp;omega) λh5=>?_
 refine dT (c:=λs=>some (([]:List Int),s)) (by simp;omega) λh6=>?_
 refine dT (c:=λs=>some (([]:List Int),s)) (by simp;omega) λh7=>?_
 refine dT (c:=λs=>some (([]:List Int),s)) (by simp;omega) λh8=>?_
 refine dT (c:=λs=>some (([]:List Int),s)) (by simp;omega) λh9=>?_
 omega
theorem I2z(n:Nat)(a:List Int)(b:Int)(ha:a.length<=999900)(hn:10<=n): mA (n+1) (a,b)=some (a++vi b,[]):=by
 have hz:=N6 b
 unfold vi
 simp only[mA,Dq,prd,nE,nH,KZ,g1,P2z,g7,Nat.ble_eq_true_of_le hn,show jK true=some () from rfl]
 generalize zig b=u at hz
 simp only[aHi]
 refine dT (A:=a) (c:=λs=>some (s,([]:List Int))) (by omega) λh0=>?_
 refine dT (c:=λs=>some (s,([]:List Int))) (by simp;omega) λh1=>?_
 refine dT (c:=λs=>some (s,([]:List Int))) (by simp;omega) λh2=>?_
 refine dT (c:=λs=>some (s,([]:List Int))) (by simp;omega) λh3=>?_
 refine dT (c:=λs=>some (s,([]:List Int))) (by simp;omega) λh4=>?_
 refine dT (c:=λs=>some (s,([]:List Int))) (by simp;omega) λh5=>?_
 refine dT (c:=λs=>some (s,([]:List Int))) (by simp;omega) λh6=>?_
 refine dT (c:=λs=>some (s,([]:List Int))) (by simp;omega) λh7=>?_
 refine dT (c:=λs=>some (s,([]:List Int))) (by simp;omega) λh8=>?_
 refine dT (c:=λs=>some (s,([]:List Int))) (by simp;omega) λh9=>?_
 omega
theorem gt3{α:Type}(a:List α): jK (decide (0<=ln a/\ln a=ln a/\ln a<=ln a))=some ():=by
 rw[decide_eq_true ⟨by simp,rfl,Int.le_refl _⟩];rfl
theorem tk{α:Type}(a:List α): List.take (Int.toNat (ln a)) a=a:=by simp
theorem Aj(a:List Int)(b:Int)(ha:a.length<=999900): Ev (λn=>gB n a b) (a++vi b):=.mk 12 λn hn=>by
 obtain⟨n,rfl⟩:∃k,n=k+2:=⟨n-2,by omega⟩
 rw[gB,gt3,KZ,tk,I1z n a b ha (by omega)];rfl
theorem pD{α:Type}(l:List α)(g:α->List Int)(c B:Nat)(hc:∀x∈l,(g x).length<=c){L:Nat->Nat->List Int×Int->Option (List Int)}(step:∀(i:Nat) (a:List Int) (P:List Int->Prop),a.length+c*(l.length-i)<=B->(∀x∈l,l[i]?=some x->i<l.length->aD (λn m=>L n m (a++g x,((i+1:Nat):Int))) P)->(l.length<=i->P a)->aD (λn m=>L n m (a,(i:Int))) P):
 ∀(i:Nat) (a:List Int),a.length+c*(l.length-i)<=B->aD (λn m=>L n m (a,(i:Int))) λr=>r=a++(l.drop i).flatMap g:=
 λi=>Lk (N:=l.length) (T:=λi=>∀(a:List Int),a.length+c*(l.length-i)<=B->aD (λn m=>L n m (a,(i:Int))) λr=>r=a++(l.drop i).flatMap g) (λi ih a ha=>step i a _ ha (λx hm hx hi=>by
  refine (ih hi (a++g x) ?_).imp λr hr=>?_
  .have h1:=hc x hm
   have h2:c*(l.length-i)=c*(l.length-(i+1))+c:=by
    rw[show l.length-i=(l.length-(i+1))+1 by omega,Nat.mul_succ]
   rw[List.length_append];omega
  .obtain⟨k1,k2⟩:=List.getElem?_eq_some_iff.1 hx
   rw[hr,List.drop_eq_getElem_cons k1,k2,List.flatMap_cons,List.append_assoc]) λh=>by rw[List.drop_eq_nil_of_le h,List.flatMap_nil,List.append_nil]) i
theorem tE(a b:List Int)(hb:b.length<=9000)(h:a.length+10*b.length<=990000): Ev (λn=>fI n a b) (a++b.flatMap vi):=
 bA (λ_=>rfl) (aH (Q:=λr=>r=a++b.flatMap vi) (bH (pD b vi 10 990000 (λx _=>fX x) (L:=λn m p=>Fh mS n m (b,ln b) p) (λi a P ha h1 h2=>fE (bB (λx hx hi=>aD.e (Aj a x (by omega)) (by rw[dL (by omega)];exact h1 x (List.mem_of_getElem? hx) hx hi)) λh=>aA (h2 h))) 0 a (by omega))) λr hr=>aA hr)
def ptL(p:Aaa): List Int:=[p.X,p.Y].flatMap vi
theorem mO{α:Type}(l:List α)(g:α->List Int)(c:Nat)(hc:∀x∈l,(g x).length<=c): (l.flatMap g).length<=c*l.length:=by
 induction l with
 | nil=>simp
 | cons x l ih=>
  have h1:=hc x (by simp)
  have h2:=ih λy hy=>hc y (by simp[hy])
  rw[List.flatMap_cons,List.length_append,List.length_cons,Nat.mul_succ];omega
theorem i7(p:Aaa): (ptL p).length<=20:=mO [p.X,p.Y] vi 10 λx _=>fX x
def Wr(l:List Aaa): List Int:=vi (ln l)++l.flatMap ptL
def Wv(l:List Int): List Int:=vi (ln l)++l.flatMap vi
def BE(s:ByteArray): List Int:=vi ((s.size:Nat):Int)++Q2 s
theorem QF(s:ByteArray): (Q2 s).length=s.size:=by rw[aDA];simp[Q2]
theorem Tn(l:List Aaa): (Wr l).length<=10+20*l.length:=by
 have h1:=fX (ln l)
 have h2:=mO l ptL 20 λx _=>i7 x
 unfold Wr;rw[List.length_append];omega
theorem Ub(l:List Int): (Wv l).length<=10+10*l.length:=by
 have h1:=fX (ln l)
 have h2:=mO l vi 10 λx _=>fX x
 unfold Wv;rw[List.length_append];omega
theorem yS(s:ByteArray): (BE s).length<=10+s.size:=by
 have h1:=fX ((s.size:Nat):Int)
 unfold BE;rw[List.length_append,QF];omega
theorem Wk(a:List Int)(b:List Aaa)(hb:b.length<=9000)(h:a.length<=700000): Ev (λn=>mB n a b) (a++Wr b):=by
 have hv:=fX (ln b)
 refine bA (λ_=>rfl) (aD.e (Aj a (ln b) (by omega)) (aH (Q:=λr=>r=a++Wr b) ((bH (pD b ptL 20 990000 (λx _=>i7 x) (L:=λn m p=>Fh kJ n m (b,ln b) p) (λi a P ha h1 h2=>fE (bB (λx hx hi=>aD.e (tE a [x.X,x.Y] (by simp) (by simp;omega)) (by rw[dL (by omega)];exact h1 x (List.mem_of_getElem? hx) hx hi)) λh=>aA (h2 h))) 0 (a++vi (ln b)) (by rw[List.length_append];omega))).imp λr hr=>?_) λr hr=>aA hr))
 rw[hr,Wr,List.drop_zero,List.append_assoc]
theorem aE7(a:List Int)(b:Int)(ha:a.length<=999900): Ev (λn=>hJ n (a,b)) ([],a++vi b):=.mk 11 λn hn=>by
 obtain⟨n,rfl⟩:∃k,n=k+1:=⟨n-1,by omega⟩
 exact I1z n a b ha (by omega)
theorem aIA(a:List Int)(b:Int)(ha:a.length<=999900): Ev (λn=>mA n (a,b)) (a++vi b,[]):=.mk 11 λn hn=>by
 obtain⟨n,rfl⟩:∃k,n=k+1:=⟨n-1,by omega⟩
 exact I2z n a b ha (by omega)
theorem Vw(a:List Int)(s:ByteArray)(hs:s.size<=9000)(h:a.length<=700000): Ev (λn=>nF n a s) (a++BE s):=by
 have hv:=fX ((s.size:Nat):Int)
 refine bA (λ_=>rfl) (aJ (gt3 a) ?_)
 rw[tk]
 refine aD.e (aE7 a _ (by omega)) (aJ (yH (by rw[QF,List.length_append];omega)) (aA ?_))
 rw[BE,List.append_assoc]
theorem Vx(a l:List Int)(hb:l.length<=9000)(h:a.length<=700000): Ev (λn=>nI n a l) (a++Wv l):=by
 have hv:=fX (ln l)
 refine bA (λ_=>rfl) (aJ (gt3 a) ?_)
 rw[tk]
 refine aD.e (aE7 a _ (by omega)) (aH (Q:=λr=>r=a++Wv l) ((bH (pD l vi 10 990000 (λx _=>fX x) (L:=λn m p=>Fh nG n m (l,ln l) p) (λi a P ha h1 h2=>fE (bB (λx hx hi=>aD.e (aIA a x (by omega)) (by rw[dL (by omega)];exact h1 x (List.mem_of_getElem? hx) hx hi)) λh=>aA (h2 h))) 0 (a++vi (ln l)) (by rw[List.length_append];omega))).imp λr hr=>?_) λr hr=>aA hr)
 rw[hr,Wv,List.drop_zero,List.append_assoc]
def cb(r:Nat): Nat:=r / 2 ^^^ (if r % 2=1 then 3988292384 else 0)
theorem aKn(a b:Nat): cb (a ^^^ b)=cb a ^^^ cb b:=by
 have h1:(a ^^^ b) / 2=a / 2 ^^^ b / 2:=by
  have:=Nat.shiftRight_xor_distrib (a:=a) (b:=b) (i:=1)
  simpa [Nat.shiftRight_eq_div_pow] using this
 have h2:(a ^^^ b) % 2=(a % 2) ^^^ (b % 2):=by
  have:=Nat.xor_mod_two_pow (a:=a) (b:=b) (n:=1)
  simpa using this
 unfold cb
 rw[h1,h2]
 have ha:a % 2=0\/a % 2=1:=by omega
 have hb:b % 2=0\/b % 2=1:=by omega
 rcases ha with ha | ha<;>rcases hb with hb | hb<;>rw[ha,hb]<;>simp
 .rw[Nat.xor_assoc]
 .rw[Nat.xor_assoc,Nat.xor_assoc,Nat.xor_comm (b / 2)]
 .rw[show a / 2 ^^^ 3988292384 ^^^ (b / 2 ^^^ 3988292384)=a / 2 ^^^ b / 2 ^^^ (3988292384 ^^^ 3988292384) by ac_rfl,Nat.xor_self,Nat.xor_zero]
theorem aDz(m:Nat): cb (2*m)=m:=by
 unfold cb
 rw[if_neg (by omega),Nat.xor_zero];omega
def PN(r:Nat): Nat:=cb (cb (cb (cb r)))
theorem aIt(a b:Nat): PN (a ^^^ b)=PN a ^^^ PN b:=by simp only[PN,aKn]
theorem aGs(m:Nat): PN (16*m)=m:=by
 unfold PN
 rw[show 16*m=2*(2*(2*(2*m))) by omega,aDz,aDz,aDz,aDz]
theorem aBI(r:Nat): r=(16*(r / 16)) ^^^ (r % 16):=by
 have h:16*(r / 16)+r % 16=16*(r / 16) ^^^ r % 16:=by
  rw[show 16*(r / 16)=2 ^ 4*(r / 16) by omega,Nat.two_pow_add_eq_or_of_lt (by omega)]
  apply Nat.eq_of_testBit_eq
  intro i
  simp only[Nat.testBit_or,Nat.testBit_xor,Nat.testBit_two_pow_mul]
  by_cases hi:i<4
  .simp[show ¬4<=i by omega]
  .have:(r % 16).testBit i=false:=Nat.testBit_lt_two_pow (Nat.lt_of_lt_of_le (Nat.mod_lt _ (by decide)) (by
    calc 16=2 ^ 4:=rfl
     _<=2 ^ i:=Nat.pow_le_pow_right (by decide) (by omega)))
   simp[this]
 omega
def P7: List Nat:=[0,498536548,997073096,651767980,1994146192,1802195444,1303535960,1342533948,3988292384,4027552580,3604390888,3412177804,2607071920,2262029012,2685067896,3183342108]
theorem VZ: ∀i<16,P7[i]?=some (PN i):=by decide
theorem aD0(r t:Nat)(h:P7[r % 16]?=some t): PN r=t ^^^ r / 16:=by
 rw[VZ _ (Nat.mod_lt _ (by decide))] at h
 cases h
 conv=>lhs;rw[aBI r]
 rw[aIt,aGs,Nat.xor_comm]
theorem xJ{r:Nat}(h:r<4294967296): cb r<4294967296:=by
 unfold cb
 have:r / 2<2 ^ 32:=by omega
 refine Nat.xor_lt_two_pow (n:=32) this ?_
 split<;>decide
def stp{X:Type}(y:Int)(z:Int->Option X): Option X:=bnd (WW y 2) λb0=>cnd (b0==1) (bnd (aCb .u32 y 2) λc0=>z (eG .xor .u32 c0 3988292384)) (bnd (aCb .u32 y 2) λd0=>z d0)
def cb8(r:Nat): Nat:=PN (PN r)
def Qg: Nat->List Int->Nat
 | r,[]=>r
 | r,b::l=>Qg (cb8 (r ^^^ (b % 4294967296).toNat)) l
theorem ZF{r:Nat}(h:r<4294967296): PN r<4294967296:=xJ (xJ (xJ (xJ h)))
theorem aB7(i:Nat): idx P8 (i:Int)=(P7[i]?).map λn=>((n:Nat):Int):=by
 rw[eU,<-List.getElem?_map];rfl
theorem QD{X:Type}(r:Nat)(h:r<4294967296)(K:Int->Option X): bnd (idx P8 (eG .and .u32 (r:Int) 15)) (λt=>K (eG .xor .u32 (aO .u32 (r:Int) 4) t))=K ((PN r:Nat):Int):=by
 rw[aG4 r h,aB7,VZ _ (Nat.mod_lt _ (by decide)),aJA]
 have hl:PN (r % 16)<4294967296:=ZF (by omega)
 show K (eG .xor .u32 ((r / 16:Nat):Int) ((PN (r % 16):Nat):Int))=_
 rw[(N9 (r / 16) _ (by omega) hl).1,aD0 r _ (VZ _ (Nat.mod_lt _ (by decide))),Nat.xor_comm]
theorem g4: jK (decide ((0:Nat)<=4))=some ():=rfl
theorem aD5(h:Int)(f:Nat)(hf:f<4294967296): eG .xor .u32 (f:Int) (IntKind.u32.wrap h)=((f ^^^ (h % 4294967296).toNat:Nat):Int)/\f ^^^ (h % 4294967296).toNat<4294967296:=by
 have hw:IntKind.u32.wrap h=(((h % 4294967296).toNat:Nat):Int):=by rw[ZS];omega
 rw[hw]
 exact N9 f (h % 4294967296).toNat hf (by omega)
theorem aHh(l:List Int)(hl:l.length<=999000)(i:Nat): ∀f:Nat,f<4294967296->aD (λn m=>Fh fY n m (l,ln l) ((f:Int),(i:Int))) λr=>r=((Qg f (l.drop i):Nat):Int)/\Qg f (l.drop i)<4294967296:=
 Lk (N:=l.length) (T:=λi=>∀f:Nat,f<4294967296->aD (λn m=>Fh fY n m (l,ln l) ((f:Int),(i:Int))) λr=>r=((Qg f (l.drop i):Nat):Int)/\Qg f (l.drop i)<4294967296) (λi ih f hf=>fE (bB (λx hx hi=>by
  obtain⟨e1,e2⟩:=aD5 x f hf
  obtain⟨k1,k2⟩:=List.getElem?_eq_some_iff.1 hx
  have e3:=ZF e2
  have e4:=ZF e3
  rw[List.drop_eq_getElem_cons k1,k2,Qg,dL (by omega)]
  have key:=ih hi (cb8 (f ^^^ (x % 4294967296).toNat)) e4
  refine cast (congrArg (λg=>aD g _) ?_) key
  funext n m
  simp only[e1,g4,KZ]
  rw[QD (f ^^^ (x % 4294967296).toNat) e2 (λy=>bnd (idx P8 (eG .and .u32 y 15)) λj=>Fh fY n m (l,ln l) (eG .xor .u32 (aO .u32 y 4) j,((i+1:Nat):Int)))]
  rw[QD (PN (f ^^^ (x % 4294967296).toNat)) e3 (λy=>Fh fY n m (l,ln l) (y,((i+1:Nat):Int)))]
  rfl) λh=>aA (by rw[List.drop_eq_nil_of_le h];exact⟨rfl,hf⟩))) i
def Qf(l:List Int): Nat:=4294967295-Qg 4294967295 l
theorem aDR(l:List Int)(hl:l.length<=999000): Ev (λn=>Na n l) ((Qf l:Nat):Int):=
 bA (λ_=>rfl) (aH (bH (aHh l hl 0 4294967295 (by decide))) λr hr=>aA (by rw[hr.1,aFy _ hr.2];rfl))
def uQ(c:Nat): List Int:=[((c / 16777216 % 256:Nat):Int),((c / 65536 % 256:Nat):Int),((c / 256 % 256:Nat):Int),((c % 256:Nat):Int)]
theorem E5(k:IntKind)(c d:Nat)(e:Int)(h:(2:Int) ^ (min e.toNat k.bits)=((d:Nat):Int)): IntKind.u8.wrap (aO k (c:Int) e)=((c / d % 256:Nat):Int):=by
 show IntKind.u8.wrap ((c:Int).fdiv (2 ^ (min e.toNat k.bits)))=_
 rw[h,Int.fdiv_eq_ediv_of_nonneg _ (by omega),B9,Int.natCast_emod,Int.natCast_ediv];rfl
theorem g24: jK (decide ((0:Nat)<=24))=some ()/\jK (decide ((0:Nat)<=16))=some ()/\jK (decide ((0:Nat)<=8))=some ():=⟨rfl,rfl,rfl⟩
theorem aBc(l:List Int)(hl:l.length<=900000): Ev (λn=>xG n l) (l++uQ (Qf l)):=by
 refine bA (λ_=>rfl) (aH (Q:=λb=>[b.e0,b.e1,b.e2,b.e3]=uQ (Qf l)) (bA (λ_=>rfl) (aD.e (aDR l (by omega)) (aJ g24.1 (aJ g24.2.1 (aJ g24.2.2 (aA ?_)))))) λb hb=>aJ (gt3 l) ?_)
 .show[_,_,_,_]=uQ _
  rw[E5 .u32 _ 16777216 24 (by decide),E5 .u32 _ 65536 16 (by decide),E5 .u32 _ 256 8 (by decide),B9]
  rfl
 .rw[tk]
  exact aJ (yH (by simp;omega)) (aA (by rw[hb]))
end
def dOp(a:List Int): List Int×Int:=if a.length<4 then ([],5) else if a.drop (a.length-4)=uQ (Qf (a.take (a.length-4))) then (a.take (a.length-4),0) else ([],6)
theorem aDy{r s:Nat}(hr:r<4294967296)(hs:s<4294967296)(h:cb r=cb s): r=s:=by
 have t:∀r,r<4294967296->(cb r).testBit 31=decide (r % 2=1):=λr hr=>by
  unfold cb
  rw[Nat.testBit_xor,Nat.testBit_lt_two_pow (show r / 2<2 ^ 31 by omega)]
  split
  .rename_i q;rw[q];decide
  .rename_i q;simp[q]
 have e:=t r hr;rw[h,t s hs] at e
 have e:r % 2=1↔s % 2=1:=by simpa using e.symm
 have x:r / 2=s / 2:=by
  unfold cb at h
  rw[show (if s % 2=1 then 3988292384 else 0)=if r % 2=1 then 3988292384 else 0 by simp[e]] at h
  have:=congrArg (· ^^^ (if r % 2=1 then 3988292384 else 0)) h
  simpa [Nat.xor_assoc] using this
 omega
theorem z9{r s:Nat}(hr:r<4294967296)(hs:s<4294967296)(h:PN r=PN s): r=s:=
 have a:=xJ hr;have b:=xJ hs;have c:=xJ a;have d:=xJ b
 aDy hr hs (aDy a b (aDy c d (aDy (xJ c) (xJ d) h)))
theorem Df{r:Nat}(h:r<4294967296): PN r<4294967296:=xJ (xJ (xJ (xJ h)))
theorem GP{r:Nat}(h:r<4294967296)(b:Int): r ^^^ (b % 4294967296).toNat<4294967296:=
 Nat.xor_lt_two_pow (n:=32) h (by omega)
theorem x_i{a b r:Nat}(h:r ^^^ a=r ^^^ b): a=b:=by
 have:=congrArg (r ^^^ ·) h
 simpa [<-Nat.xor_assoc] using this
theorem YY: ∀(l:List Int) {r:Nat},r<4294967296->Qg r l<4294967296
 | [],_,h=>h
 | b::l,_,h=>YY l (Df (Df (GP h b)))
theorem aEu: ∀(l:List Int) {r s:Nat},r<4294967296->s<4294967296->Qg r l=Qg s l->r=s
 | [],_,_,_,_,h=>h
 | b::l,r,s,hr,hs,h=>by
  have a:=Df (GP hr b);have c:=Df (GP hs b)
  have:=z9 (GP hr b) (GP hs b) (z9 a c (aEu l (Df a) (Df c) h))
  rw[Nat.xor_comm r,Nat.xor_comm s] at this
  exact x_i this
theorem y3: ∀(l:List Int) (i:Nat) (x y:Int) {r:Nat},r<4294967296->l[i]?=some x->x≠y->0<=x->x<256->0<=y->y<256->Qg r (l.set i y)≠Qg r l
 | [],_,_,_,_,_,h,_,_,_,_,_=>by cases h
 | b::l,0,x,y,r,hr,h,n,h1,h2,h3,h4=>by
  intro q
  have e:b=x:=by simpa using h
  subst e
  have a:=Df (GP hr b);have c:=Df (GP hr y)
  have:=x_i (z9 (GP hr y) (GP hr b) (z9 c a (aEu l (Df c) (Df a) q)))
  omega
 | b::l,i+1,x,y,r,hr,h,n,h1,h2,h3,h4=>y3 l i x y (Df (Df (GP hr b))) (by simpa using h) n h1 h2 h3 h4
theorem aCA{c d:Nat}(hc:c<4294967296)(hd:d<4294967296)(h:uQ c=uQ d): c=d:=by
 unfold uQ at h
 simp only[List.cons.injEq,and_true] at h
 omega
theorem aGi{l m:List Int}(h:Qg 4294967295 l≠Qg 4294967295 m): Qf l≠Qf m:=by
 have:=YY l (r:=4294967295) (by decide);have:=YY m (r:=4294967295) (by decide)
 unfold Qf;omega
theorem aDi{l:List Int}(i:Nat)(x y:Int)(h:(l++uQ (Qf l))[i]?=some x)(n:x≠y)(h1:0<=x)(h2:x<256)(h3:0<=y)(h4:y<256): (dOp ((l++uQ (Qf l)).set i y)).2=6:=by
 have hl:(uQ (Qf l)).length=4:=rfl
 unfold dOp
 simp only[List.length_set,List.length_append,hl,Nat.add_sub_cancel]
 rw[if_neg (by omega),if_neg]
 by_cases c:i<l.length
 .rw[List.set_append_left _ _ c,List.take_left' (by simp),List.drop_left' (by simp)]
  intro e
  have b:∀m,Qf m<4294967296:=λm=>by unfold Qf;omega
  have:=aCA (b _) (b _) e
  rw[List.getElem?_append_left c] at h
  exact aGi (y3 l i x y (by decide) h n h1 h2 h3 h4) this.symm
 .rw[List.set_append_right _ _ (by omega),List.take_left' rfl,List.drop_left' rfl]
  rw[List.getElem?_append_right (by omega)] at h
  intro e
  rw[<-e,List.getElem?_set_self (by simpa using (List.getElem?_eq_some_iff.1 h).1)] at h
  exact n (Option.some.inj h).symm
instance aMd{x:Int}: TC (λn=>Cy n x):=⟨by repeat' first|apply fD|apply aE|apply bQ|intro⟩
instance aMe{x:dJ}: TC (λn=>Cz n x):=⟨by repeat' first|apply fD|apply aE|apply bQ|intro⟩
instance aMc{x:dJ}: TC (λn=>Cx n x):=⟨by repeat' first|apply fD|apply aE|apply bQ|intro⟩
instance aKY{x:dJ}: TC (λn=>Bz n x):=⟨bA (λ_=>rfl) (by repeat' first|apply fD|apply aE|apply bQ|intro)⟩
instance aM7{b:M5}{x:Aaa}: TC (λn=>EF n (b,x)):=⟨by repeat' first|apply fD|apply aE|apply bQ|intro⟩
instance aM6{b:M5}{x:Aaa}: TC (λn=>NS n b x):=⟨bA (λ_=>rfl) (by repeat' first|apply fD|apply aE|apply bQ|intro)⟩
instance aLN{x:Int}: TC (λn=>eE n x):=⟨bF (by repeat' first|apply fD|apply aE|apply bQ|intro)⟩
instance aLM{x:Aaa}: TC (λn=>iB n x):=⟨bF (by repeat' first|apply fD|apply aE|apply bQ|intro)⟩
instance aKP{x:Int}: TC (λn=>Cw n x):=⟨bF (by repeat' first|apply fD|apply aE|apply bQ|intro)⟩
instance aKO{x:Int}: TC (λn=>Cv n x):=⟨by repeat' first|apply fD|apply aE|apply bQ|intro⟩
instance aKN{x:dJ}: TC (λn=>Cu n x):=⟨by repeat' first|apply fD|apply aE|apply bQ|intro⟩
theorem aHu(l:List Aaa)(b:l.length<=1000)(i:Nat): Sx λn m=>vK pX n m (l,ln l) (i:Int):=
 cG<|bB (λx d a=>by
  rw[dL<|by omega];exact bQ λ_=>aE (λ_=>aA trivial) λ_=>aHu l b<|i+1) λc=>aA trivial
termination_by l.length-i
theorem aJJ(l:List Aaa)(a:l.length<=1000): Tt λn _=>iA n l:=
 bF<|aH (f:=λn _=>Gk n l) (Q:=λ_=>True) (bF<|aT (bH<|aHu l a 0) (λ_ _=>aA trivial) λ_ _=>aJ rfl<|aA trivial) λ_ _=>aE (λ_=>aA trivial) λ_=>aA trivial
theorem aHt(l:List Int)(b:l.length<=1000)(i:Nat): Sx λn m=>vK pW n m (l,ln l) (i:Int):=
 cG<|bB (λx d a=>by
  rw[dL<|by omega];exact bQ λ_=>aE (λ_=>aA trivial) λ_=>aHt l b<|i+1) λc=>aA trivial
termination_by l.length-i
theorem aJI(l:List Int)(a:l.length<=1000): Tt λn _=>hZ n l:=
 bF<|aH (f:=λn _=>Gj n l) (Q:=λ_=>True) (bF<|aT (bH<|aHt l a 0) (λ_ _=>aA trivial) λ_ _=>aJ rfl<|aA trivial) λ_ _=>aE (λ_=>aA trivial) λ_=>aA trivial
theorem U1(e:dJ)(b:e.Via.length<=1000)(a:e.Parts.length<=1000): Tt λn _=>Gl n e:=by
 have c:TC λn=>iA n e.Via:=⟨aJJ _ b⟩;have f:TC λn=>hZ n e.Parts:=⟨aJI _ a⟩;refine bA (λ_=>rfl) ?_;repeat' first|apply fD|apply aE|apply bQ|intro
instance aMq{x:dJ}: TC (λn=>Li n x):=⟨by repeat' first|apply fD|apply aE|apply bQ|intro⟩
instance aMp{x:dJ}: TC (λn=>Lh n x):=⟨by repeat' first|apply fD|apply aE|apply bQ|intro⟩
instance aMo{x:dJ}: TC (λn=>Lf n x):=⟨by repeat' first|apply fD|apply aE|apply bQ|intro⟩
def aID(e:dJ): Prop:=e.Via.length<=64/\e.Parts.length<=64
theorem aGc(e:dJ): aD (λn _=>Mz n e) λr=>r=0->aID e:=by
 refine bA (λ_=>rfl)<|bQ λ_=>aE (λ_=>aA<|by simp) λ_=>bQ λ_=>aE (λ_=>aA<|by simp) λ_=>bQ λ_=>aE (λ_=>aA<|by simp) λ_=>aH (f:=λn _=>Lg n e) (Q:=λr=>r=false->aID e) (aE (λ_=>aA<|by simp) λb=>aE (λ_=>aA<|by simp) λc=>aA λ_=>?_) λr d=>aE (λ_=>aA<|by simp) λh=>?_
 .have b:¬ln e.Via > 64:=of_decide_eq_false b;have c:¬ln e.Parts > 64:=of_decide_eq_false c;unfold ln at b c;exact⟨by omega,by omega⟩
 .have a:=d h;refine aH (U1 e (by have:=a.1;omega)<|by have:=a.2;omega) λ_ _=>aE (λ_=>aH (aEi e.Parts<|by have:=a.2;omega) λ_ _=>aE (λ_=>bQ λ_=>aE (λ_=>aA<|by simp) λ_=>aA λ_=>a) λ_=>aA<|by simp) λ_=>aA<|by simp
structure ArO(l:List eO)(b c:Nat): Prop where
 al:∀a∈l,a.alone.length<=c
 l1:1<=l.length
 l2:l.length<=200000
 ou:∀a∈l,a.outer.length<=800000
 inn:∀a∈l,a.inner.length<=b/\∀c∈a.inner,c.length<=800000
 ne:∀(i:Nat) (a:eO),1<=i->l[i]?=some a->a.outer≠[]
theorem aA9(p:aX)(w:Sm p)(B:Nat): ∀(cs:List<|List Int) (l:List eO) (q:List<|List Int),ArO l 0 0->l.length+cs.length<=200000->(∀c∈cs,c.length<=800000/\∃d t,c=d::t/\fR p d)->(∀c∈q,c.length<=800000/\∃d t,c=d::t/\fR p d)->
 (∀a∈l,a.inner=[]/\a.outer.length+q.flatten.length+cs.flatten.length<=B)->q.flatten.length+cs.flatten.length<=B->
 aD (λn _=>dv1 n p cs l q) λr=>ArO r.1 0 0/\r.2.length<=q.length+cs.length/\(∀c∈r.2,c.length<=800000/\∃d t,c=d::t/\fR p d)/\∀a∈r.1,a.inner=[]/\a.outer.length+r.2.flatten.length<=B
 | [],l,q,f,_,_,s,j,_=>aA (x:=(l,q)) ⟨f,by simp,s,λa b=>⟨(j a b).1,by have:=(j a b).2;simpa using this⟩⟩
 | c::cs,l,q,f,A,y,s,j,C=>by
  have u:=y c<|List.mem_cons_self ..;have m:∀c∈cs,c.length<=800000/\∃d t,c=d::t/\fR p d:=λc h=>y c<|List.mem_cons_of_mem _ h;simp only[List.length_cons] at A;simp only[List.flatten_cons,List.length_append] at j C;let⟨o,d,D,k,v⟩:=u;refine aH (M1 p w c) λt _=>aE (λ_=>?_) λ_=>?_
  .refine aD.imp (aA9 p w B cs (l++[⟨t,c,[],[]⟩]) q ⟨?_,by simp,by simp;omega,?_,?_,?_⟩ (by simp;omega) m s ?_<|by omega) ?_
   .intro a b;rcases List.mem_append.1 b with b | b
    .exact f.al a b
    .rw[List.mem_singleton.1 b];exact Nat.le_refl _
   .intro a b;rcases List.mem_append.1 b with b | b
    .exact f.ou a b
    .rw[List.mem_singleton.1 b];exact o
   .intro a b;rcases List.mem_append.1 b with b | b
    .exact f.inn a b
    .rw[List.mem_singleton.1 b];exact⟨Nat.le_refl _,λc h=>by cases h⟩
   .intro i a z b;rcases Nat.lt_or_ge i l.length with h | h
    .rw[List.getElem?_append_left h] at b;exact f.ne i a z b
    .rw[List.getElem?_append_right h] at b;have:a=⟨t,c,[],[]⟩:=by
      have:=List.mem_of_getElem? b;exact List.mem_singleton.1 this
     rw[this,k];simp
   .intro a b;rcases List.mem_append.1 b with b | b
    .have:=j a b;exact⟨this.1,by omega⟩
    .rw[List.mem_singleton.1 b];exact⟨rfl,by show c.length+_+_<=B;omega⟩
   .intro r g;exact⟨g.1,by have:=g.2.1;simp only[List.length_cons];omega,g.2.2⟩
  .refine aD.imp (aA9 p w B cs l (q++[c]) f (by omega) m ?_ ?_ ?_) ?_
   .intro e he;rcases List.mem_append.1 he with he | he
    .exact s e he
    .rw[List.mem_singleton.1 he];exact⟨o,d,D,k,v⟩
   .intro a b;have:=j a b;exact⟨this.1,by simp only[List.flatten_append,List.length_append,List.flatten_cons,List.flatten_nil,List.length_nil];omega⟩
   .simp only[List.flatten_append,List.length_append,List.flatten_cons,List.flatten_nil,List.length_nil];omega
   .intro r g;exact⟨g.1,by have:=g.2.1;simp only[List.length_cons,List.length_append,List.length_nil] at this |-;omega,g.2.2⟩
theorem A1{l:List eO}{b c:Nat}(h:ArO l b c): ∀x∈l.map arV,x.outer.length<=800000:=by
 intro x d;obtain⟨a,e,rfl⟩:=List.mem_map.1 d;exact h.ou a e
theorem QP{α:Type}{l:List α}{i:Nat}{a' x:α}(a:x∈l.set i a'): x=a'\/x∈l:=(List.mem_or_eq_of_mem_set a).symm
theorem ArO.set{l:List eO}{b b' c c':Nat}{i:Nat}{a a':eO}(h:ArO l b c)(m:l[i]?=some a)(g:a'.outer=a.outer)(n:b<=b')(p:a'.inner.length<=b'/\∀c∈a'.inner,c.length<=800000)(o:c<=c')(f:a'.alone.length<=c'): ArO (l.set i a') b' c':=by
 refine⟨?_,by rw[List.length_set];exact h.l1,by rw[List.length_set];exact h.l2,?_,?_,?_⟩
 .intro x d;rcases QP d with rfl | d
  .exact f
  .exact Nat.le_trans (h.al x d) o
 .intro x d;rcases QP d with rfl | d
  .rw[g];exact h.ou a<|List.mem_of_getElem? m
  .exact h.ou x d
 .intro x d;rcases QP d with rfl | d
  .exact p
  .exact⟨Nat.le_trans (h.inn x d).1 n,(h.inn x d).2⟩
 .intro j x k d;rw[List.getElem?_set] at d;split at d
  .rename_i e;subst e;split at d
   .cases d;rw[g];exact h.ne i a k m
   .cases d
  .exact h.ne j x k d
theorem aEr(p:aX)(F:Sm p)(y:qO p)(m:List<|Int×List Aaa)(o:Rf p m)(B:Nat): ∀(cs:List<|List Int) (l:List eO) (b:Nat),ArO l b 0->(∀c∈cs,c.length<=800000/\∃d t,c=d::t/\fR p d)->(∀a∈l,a.outer.length+a.inner.flatten.length+cs.flatten.length<=B)->
 aD (λn _=>dv2 n m cs l) λr=>ArO r (b+cs.length) 0/\∀a∈r,a.outer.length+a.inner.flatten.length<=B
 | [],l,b,g,_,j=>aA ⟨g,λa k=>by have:=j a k;simpa using this⟩
 | c::cs,l,b,g,u,j=>by
  obtain⟨q,d,z,rfl,a,k,I⟩:=u c<|List.mem_cons_self ..;have E:=y.nuA a k;have G:Fk d (wr<|0-d)=a.ID:=by
   rw[wr,i64_in _<|by omega];unfold Fk;split<;>omega
  let⟨w,A,C⟩:=o.has a k;refine aJ (x:=d) rfl<|aJ (x:=w[0]'(by omega)) (by rw[G,A];show idx w ((0:Nat):Int)=_;rw[eU];exact List.getElem?_eq_getElem<|by omega)<|aH (v5 m o.len (l.map arV) (A1 g) (by simp;have:=g.l2;omega) (by simp;have:=g.l1;omega) _) λi v=>?_;have f:i.toNat<l.length:=by simpa using v.2
  refine aJ (NK v.1 f) ?_;simp only[List.flatten_cons,List.length_append,List.length_cons] at j;have H:=aEr p F y m o B cs (l.set i.toNat ⟨l[i.toNat].twice,l[i.toNat].outer,l[i.toNat].inner++[d::z],l[i.toNat].alone⟩) (b+1) (g.set (List.getElem?_eq_getElem f) rfl (by omega) (by
   have:=g.inn _<|List.getElem_mem f;refine⟨by simp;omega,λc e=>?_⟩;rcases List.mem_append.1 e with e | e
   .exact this.2 c e
   .rw[List.mem_singleton.1 e];exact q) (Nat.le_refl _)<|g.al l[i.toNat]<|List.getElem_mem f) (λc h=>u c<|List.mem_cons_of_mem _ h) (λx s=>by
    rcases QP s with rfl | s
    .have:=j _<|List.getElem_mem f;simp only[List.flatten_append,List.length_append,List.flatten_cons,List.flatten_nil,List.length_nil,List.length_cons];omega
    .have:=j x s;omega)
  refine H.imp λr D=>?_;have:b+((d::z)::cs).length=b+1+cs.length:=by simp;omega
  rw[this];exact D
theorem aA8(p:aX)(k:Sm p)(m:List<|Int×List Aaa)(q:Rf p m)(b B:Nat): ∀(h:List cW) (l:List eO) (c:Nat),ArO l b c->(∀a∈l,a.outer.length+a.inner.flatten.length<=B)->aD (λn _=>dv3 n p m h l) λr=>ArO r b (c+h.length)/\∀a∈r,a.outer.length+a.inner.flatten.length<=B
 | [],l,c,f,j=>aA ⟨f,j⟩
 | x::h,l,c,f,j=>by
  have e:c+(x::h).length=c+1+h.length:=by simp;omega
  rw[e];refine aH (M7 p k x.ID) λd _=>aE (λ_=>aH (v5 m q.len (l.map arV) (A1 f) (by simp;have:=f.l2;omega) (by simp;have:=f.l1;omega) _) λi s=>?_) λ_=>aA8 p k m q b B h l (c+1) ⟨λa t=>Nat.le_succ_of_le<|f.al a t,f.l1,f.l2,f.ou,f.inn,f.ne⟩ j;have g:i.toNat<l.length:=by simpa using s.2
  exact aJ (NK s.1 g) (aA8 p k m q b B h _ (c+1) (f.set (List.getElem?_eq_getElem g) rfl (Nat.le_refl _) (f.inn l[i.toNat]<|List.getElem_mem g) (Nat.le_succ _)<|by have:=f.al l[i.toNat]<|List.getElem_mem g;simp;omega) λx o=>by
   rcases QP o with rfl | o
   .exact j l[i.toNat]<|List.getElem_mem g
   .exact j x o)
theorem aAZ{α:Type}{P:α->Prop}{c:Nat->Bool}{g:Nat->Nat->Option α}(K:Nat)(b:∀n,K<=n->c n=true)(h:aD g P): aD (λn m=>Av.bnd (jK<|c n) λ_=>g n m) P:=by
 let⟨r,a,J,d⟩:=h;refine⟨r,a,max K J,λn m f i=>?_⟩;show Av.bnd (jK<|c n) (λ_=>g n m)=some r;rw[b n<|by omega];exact d n m (by omega)<|by omega
theorem aKe: aDJ:=by
 intro p cs m g t j o;have v:=g.n;have u:=j.1;refine bA (λ_=>rfl)<|aAZ (c:=λn=>decide<|cs.length<n/\p.Nodes.length<n/\cs.length<=190000/\p.Nodes.length<=9000) 200000 (λn h=>decide_eq_true<|by omega) ?_;refine aH (aA9 p g 400000 cs [⟨0,[],[],[]⟩] [] ⟨by simp,by simp,by simp,by simp,by simp,?_⟩ (by simp;omega) j.2.2 (by simp) (by simpa using j.2.1)<|by simpa using j.2.1) λq f=>aH (aEr p g t m o 400000 q.2 q.1 0 f.1 f.2.2.1 λa d=>by rw[(f.2.2.2 a d).1];have:=(f.2.2.2 a d).2;simpa using this) λl b=>?_
 .intro i a w d;have:=(List.getElem?_eq_some_iff.1 d).1;simp at this;omega
 .have k:=f.2.1;simp only[List.length_nil,Nat.zero_add] at k;let⟨b,s⟩:=b;refine aD.imp (aA8 p g m o 200000 400000 p.Nodes l 0 ⟨b.al,b.l1,b.l2,b.ou,λa d=>⟨by have:=(b.inn a d).1;omega,(b.inn a d).2⟩,b.ne⟩ s) λr e=>⟨λa d=>by have:=e.1.al a d;omega,e.2,e.1.l1,e.1.l2,e.1.ou,e.1.inn,e.1.ne⟩
section
open Go.IntWalk
def VN(l:List Int): Prop:=∀b∈l,0<=b/\b<256
theorem VN.app{l m:List Int}(h:VN l)(g:VN m): VN (l++m):=λb hb=>by rcases List.mem_append.1 hb with r | r;exact h b r;exact g b r
theorem VN.fm{α:Type}{l:List α}{g:α->List Int}(h:∀x∈l,VN (g x)): VN (l.flatMap g):=λb hb=>by
 obtain⟨x,hx,hb⟩:=List.mem_flatMap.1 hb;exact h x hx b hb
theorem O6: ∀f u,VN (vl f u)
 | 0,_=>by intro b hb;cases hb
 | f+1,u=>by
  unfold vl;split
  .intro b hb;rw[List.mem_singleton.1 hb];omega
  .intro b hb
   rcases List.mem_cons.1 hb with r | r
   .rw[r];omega
   .exact O6 f _ b r
theorem Dx(b:Int): VN (vi b):=O6 _ _
theorem Ap(l:List Int): VN (l.flatMap vi):=.fm λx _=>Dx x
theorem RQ(l:List Aaa): VN (Wr l):=(Dx _).app (.fm λx _=>Ap _)
theorem DK(l:List Int): VN (Wv l):=(Dx _).app (Ap l)
theorem aB9(s:ByteArray): VN (Q2 s):=λb hb=>by
 obtain⟨x,_,rfl⟩:=List.mem_map.1 hb
 have:=x.toNat_lt;omega
theorem BD(s:ByteArray): VN (BE s):=(Dx _).app (aB9 s)
theorem Y8(c:Nat): VN (uQ c):=λb hb=>by
 unfold uQ at hb
 simp only[List.mem_cons,List.not_mem_nil,or_false] at hb
 omega
def OV(r:List Int×Int): Prop:=r.2=0->∃l,r.1=l++uQ (Qf l)/\VN l/\l.length<=300000
structure SmE(x:dJ): Prop where
 v:x.Via.length<=80
 p:x.Parts.length<=80
 n:x.Name.size<=200
structure SmT(t:Nk): Prop where
 e:t.Edits.length<=80
 s:t.Source.size<=200
 x:∀x∈t.Edits,SmE x
theorem aIz(x:dJ): aD (λn _=>Dg n x) λb=>b=false->SmE x:=by
 refine aE (λh=>aA λh=>by cases h) λh=>aE (λk=>aA λh=>by cases h) λk=>aE (λi=>aA λh=>by cases h) λi=>aA λ_=>?_
 have h:=of_decide_eq_false h
 have k:=of_decide_eq_false k
 have i:=of_decide_eq_false i
 simp only[ln] at h k
 exact⟨by omega,by omega,by omega⟩
theorem SL2(t:Nk)(ht:t.Edits.length<=80)(i:Nat): oR t.Edits i SmE->aD (λn m=>vK jP n m t (i:Int)) (Su (λ_=>True) λ_=>∀x∈t.Edits,SmE x):=
 Lk (N:=t.Edits.length) (T:=λi=>oR t.Edits i SmE->aD (λn m=>vK jP n m t (i:Int)) (Su (λ_=>True) λ_=>∀x∈t.Edits,SmE x)) (λi ih hu=>cG (bB (λx hx hi=>aH (aIz x) λb hb=>aE (λ_=>aA trivial) λh=>by rw[dL (by omega)];exact ih hi (hu.step hx (hb h))) λh=>aA (hu.fin h))) i
theorem aDH(t:Nk): aD (λn _=>Cf n t) λb=>b=true->SmT t:=by
 refine bA (λ_=>rfl) (aH (Q:=λb=>b=false->t.Edits.length<=80/\t.Source.size<=200) (aE (λh=>aA λh=>by cases h) λh=>aE (λk=>aA λh=>by cases h) λk=>aA λ_=>?_) λb hb=>aE (λ_=>aA λh=>by cases h) λh=>aT (bH (SL2 t (hb h).1 0 oR.nil)) (λ_ _=>aA λh=>by cases h) λ_ hx=>aJ rfl (aA λ_=>⟨(hb h).1,(hb h).2,hx⟩))
 have h:=of_decide_eq_false h
 have k:=of_decide_eq_false k
 simp only[ln] at h
 exact⟨by omega,by omega⟩
def JL(x:dJ): List Int:=[x.Kind,x.ID,x.A,x.B,x.C,x.At.X,x.At.Y]
def KM(x:dJ): List Int:=(JL x).flatMap vi++(Wr x.Via++(BE x.Name++Wv x.Parts))
theorem KL{x:dJ}(h:SmE x): (KM x).length<=3000:=by
 have h1:=mO (JL x) vi 10 λx _=>fX x
 have h2:=Tn x.Via
 have h3:=yS x.Name
 have h4:=Ub x.Parts
 have h5:=h.v
 have h6:=h.p
 have h7:=h.n
 have h8:(JL x).length=7:=rfl
 unfold KM
 simp only[List.length_append]
 omega
theorem TL3(l:List dJ)(hl:l.length<=80)(hs:∀x∈l,SmE x)(a:List Int)(ha:a.length<=1000): aD (λn m=>Fh oJ n m (l,ln l) (a,0)) λr=>r=a++l.flatMap KM:=
 pD l KM 3000 300000 (λx hx=>KL (hs x hx)) (L:=λn m p=>Fh oJ n m (l,ln l) p) (λi a P ha h1 h2=>fE (bB (λx hx hi=>by
  have hm:=List.mem_of_getElem? hx
  have h:=hs x hm
  have k1:=mO (JL x) vi 10 λx _=>fX x
  have k2:=Tn x.Via
  have k3:=yS x.Name
  have h5:=h.v
  have h6:=h.p
  have h7:=h.n
  have h8:(JL x).length=7:=rfl
  refine aD.e (tE a (JL x) (by omega) (by omega)) (aD.e (Wk _ x.Via (by omega) (by simp only[List.length_append];omega)) (aD.e (Vw _ x.Name (by omega) (by simp only[List.length_append];omega)) (aD.e (Vx _ x.Parts (by omega) (by simp only[List.length_append];omega)) ?_)))
  rw[dL (by omega)]
  have:=h1 x hm hx hi
  unfold KM at this
  simpa only[List.append_assoc] using this) λh=>aA (h2 h))) 0 a (by omega)
theorem TL2(l:List dJ)(hl:l.length<=80)(i:Nat): aD (λn m=>vK oK n m (l,ln l) (i:Int)) (Su (λv=>v.2≠0) λ_=>True):=
 Lk (N:=l.length) (T:=λi=>aD (λn m=>vK oK n m (l,ln l) (i:Int)) (Su (λv=>v.2≠0) λ_=>True)) (λi ih=>cG (bB (λx hx hi=>aH (aGc x) λr _=>aE (λh=>aA (show r≠0 by simpa using h)) λh=>by rw[dL (by omega)];exact ih hi) λh=>aA trivial)) i
theorem aE1(t:Nk)(h:SmT t): aD (λn _=>Ie n t) OV:=by
 have h1:=mO [t.Office,t.Seq,t.Time] vi 10 λx _=>fX x
 have h2:=yS t.Source
 have h3:=fX (ln t.Edits)
 have h4:=mO t.Edits KM 3000 λx hx=>KL (h.x x hx)
 have h5:=h.e
 have h6:=h.s
 have h7:[t.Office,t.Seq,t.Time].length=3:=rfl
 refine bA (λ_=>rfl) (aH (Q:=λ_=>True) (aE (λ_=>aA trivial) λ_=>aE (λ_=>aA trivial) λ_=>aA trivial) λb _=>aE (λk=>aA λh=>by cases h) λk=>?_)
 refine aT (bH (TL2 t.Edits h5 0)) (λv hv=>aA λh=>absurd h hv) λ_ hv=>aJ rfl ?_
 refine aD.e ((tE [] [t.Office,t.Seq,t.Time] (by simp) (by simp)).to (List.nil_append _)) (aD.e (Vw _ t.Source (by omega) (by omega)) (aD.e (Aj _ (ln t.Edits) (by simp only[List.length_append];omega)) (aH (bH (TL3 t.Edits h5 h.x _ (by simp only[List.length_append];omega))) λr hr=>?_)))
 have hl:r.length<=300000:=by rw[hr];simp only[List.length_append];omega
 refine aD.e (aBc _ (by omega)) (aA λ_=>⟨r,rfl,?_,hl⟩)
 rw[hr]
 exact (((Ap _).app (BD _)).app (Dx _)).app (.fm λx _=>(Ap _).app ((RQ _).app ((BD _).app (DK _))))
structure SmP(p:aX): Prop where
 n:p.Nodes.length<=40
 a:p.Arcs.length<=40
 f:p.Faces.length<=80
 v:∀a∈p.Arcs,a.Via.length<=300
structure SmS(s:cS): Prop where
 p:SmP s.Plan
 n:s.Features.length<=20
 f:∀f∈s.Features,f.Parts.length<=70/\f.Name.size<=200
theorem PL2(p:aX)(ha:p.Arcs.length<=40)(i:Nat): ∀c:Int,oR p.Arcs i (λa=>a.Via.length<=300)->aD (λn m=>vK oO n m p (c,(i:Int))) (Su (λ_=>True) λ_=>∀a∈p.Arcs,a.Via.length<=300):=
 Lk (N:=p.Arcs.length) (T:=λi=>∀c:Int,oR p.Arcs i (λa=>a.Via.length<=300)->aD (λn m=>vK oO n m p (c,(i:Int))) (Su (λ_=>True) λ_=>∀a∈p.Arcs,a.Via.length<=300)) (λi ih c hu=>cG (bB (λx hx hi=>aE (λ_=>aA trivial) λh=>aJ (by rw[eU];exact hx) (by
  rw[dL (by omega)]
  have h:=of_decide_eq_false h
  simp only[ln] at h
  exact ih hi _ (hu.step hx (by omega)))) λh=>aA (hu.fin h))) i
theorem aI3(p:aX): aD (λn _=>Vv n p) λb=>b=true->SmP p:=by
 refine bA (λ_=>rfl) (aH (Q:=λb=>b=false->p.Nodes.length<=40/\p.Arcs.length<=40/\p.Faces.length<=80) (aE (λh=>aA λh=>by cases h) λh=>aE (λk=>aA λh=>by cases h) λk=>aE (λk=>aA λh=>by cases h) λj=>aA λ_=>?_) λb hb=>aE (λ_=>aA λh=>by cases h) λh=>aT (bH (PL2 p (hb h).2.1 0 0 oR.nil)) (λ_ _=>aA λh=>by cases h) λc hx=>aJ rfl (aE (λ_=>aA λ_=>⟨(hb h).1,(hb h).2.1,(hb h).2.2,hx⟩) λ_=>aA λh=>by cases h))
 have h:=of_decide_eq_false h
 have k:=of_decide_eq_false k
 have j:=of_decide_eq_false j
 simp only[ln] at h k j
 exact⟨by omega,by omega,by omega⟩
theorem FL2(s:cS)(hn:s.Features.length<=20)(i:Nat): oR s.Features i (λf=>f.Parts.length<=70/\f.Name.size<=200)->aD (λn m=>vK oN n m s (i:Int)) (Su (λ_=>True) λ_=>∀f∈s.Features,f.Parts.length<=70/\f.Name.size<=200):=
 Lk (N:=s.Features.length) (T:=λi=>oR s.Features i (λf=>f.Parts.length<=70/\f.Name.size<=200)->aD (λn m=>vK oN n m s (i:Int)) (Su (λ_=>True) λ_=>∀f∈s.Features,f.Parts.length<=70/\f.Name.size<=200)) (λi ih hu=>cG (aE (λhlt=>by
  have hi:i<s.Features.length:=by have:=of_decide_eq_true hlt;simp only[ln] at this;omega
  have e:=List.getElem?_eq_getElem hi
  have ei:idx s.Features (i:Int)=some s.Features[i]:=by rw[eU];exact e
  refine aH (Q:=λb=>b=false->s.Features[i].Parts.length<=70/\s.Features[i].Name.size<=200) (aJ ei (aE (λ_=>aA λh=>by cases h) λh=>aJ ei (aE (λ_=>aA λh=>by cases h) λk=>aA λ_=>?_))) λb hb=>aE (λ_=>aA trivial) λh=>by rw[dL (by omega)];exact ih hi (hu.step e (hb h))
  have h:=of_decide_eq_false h
  have k:=of_decide_eq_false k
  simp only[ln] at h
  exact⟨by omega,by omega⟩) λhlt=>aA (hu.fin (by have:=of_decide_eq_false hlt;simp only[ln] at this;omega)))) i
theorem aI2(s:cS): aD (λn _=>Vu n s) λb=>b=true->SmS s:=by
 refine bA (λ_=>rfl) (aH (Q:=λb=>b=false->SmP s.Plan/\s.Features.length<=20) (aH (aI3 s.Plan) λb hb=>aE (λh=>aE (λ_=>aA λh=>by cases h) λk=>aA λ_=>?_) λ_=>aA λh=>by cases h) λb hb=>aE (λ_=>aA λh=>by cases h) λh=>aT (bH (FL2 s (hb h).2 0 oR.nil)) (λ_ _=>aA λh=>by cases h) λc hx=>aJ rfl (aA λ_=>⟨(hb h).1,(hb h).2,hx⟩))
 have k:=of_decide_eq_false k
 simp only[ln] at k
 exact⟨hb h,by omega⟩
def p9(x:cW): List Int:=[x.ID,x.At.X,x.At.Y].flatMap vi
def L6(x:eP): List Int:=[x.ID,x.From,x.To,x.Left,x.Right].flatMap vi++Wr x.Via
def KH(x:aP): List Int:=[x.ID,x.Kind,x.Class].flatMap vi++(BE x.Name++Wv x.Parts)
theorem JM(x:cW): (p9 x).length<=30:=mO [x.ID,x.At.X,x.At.Y] vi 10 λx _=>fX x
theorem VC{x:eP}(h:x.Via.length<=300): (L6 x).length<=6060:=by
 have h1:=mO [x.ID,x.From,x.To,x.Left,x.Right] vi 10 λx _=>fX x
 have h2:=Tn x.Via
 have h8:[x.ID,x.From,x.To,x.Left,x.Right].length=5:=rfl
 unfold L6;simp only[List.length_append];omega
theorem KG{x:aP}(h:x.Parts.length<=70/\x.Name.size<=200): (KH x).length<=1000:=by
 have h1:=mO [x.ID,x.Kind,x.Class] vi 10 λx _=>fX x
 have h3:=yS x.Name
 have h4:=Ub x.Parts
 have h8:[x.ID,x.Kind,x.Class].length=3:=rfl
 unfold KH;simp only[List.length_append];omega
theorem VL1(l:List cW)(hl:l.length<=40)(a:List Int)(ha:a.length<=100): aD (λn m=>Fh jO n m (l,ln l) (a,0)) λr=>r=a++l.flatMap p9:=
 pD l p9 30 300000 (λx _=>JM x) (L:=λn m p=>Fh jO n m (l,ln l) p) (λi a P ha h1 h2=>fE (bB (λx hx hi=>aD.e (tE a [x.ID,x.At.X,x.At.Y] (by simp) (by simp;omega)) (by
  rw[dL (by omega)];exact h1 x (List.mem_of_getElem? hx) hx hi)) λh=>aA (h2 h))) 0 a (by omega)
theorem VL2(l:List eP)(hl:l.length<=40)(hv:∀a∈l,a.Via.length<=300)(a:List Int)(ha:a.length<=2000): aD (λn m=>Fh jN n m (l,ln l) (a,0)) λr=>r=a++l.flatMap L6:=
 pD l L6 6060 300000 (λx hx=>VC (hv x hx)) (L:=λn m p=>Fh jN n m (l,ln l) p) (λi a P ha h1 h2=>fE (bB (λx hx hi=>by
  have hm:=List.mem_of_getElem? hx
  have k1:=mO [x.ID,x.From,x.To,x.Left,x.Right] vi 10 λx _=>fX x
  have k8:[x.ID,x.From,x.To,x.Left,x.Right].length=5:=rfl
  have k2:=hv x hm
  refine aD.e (tE a [x.ID,x.From,x.To,x.Left,x.Right] (by simp) (by simp;omega)) (aD.e (Wk _ x.Via (by omega) (by simp only[List.length_append];omega)) ?_)
  rw[dL (by omega)]
  have:=h1 x hm hx hi
  unfold L6 at this
  simpa only[List.append_assoc] using this) λh=>aA (h2 h))) 0 a (by omega)
theorem VL3(l:List aP)(hl:l.length<=20)(hv:∀f∈l,f.Parts.length<=70/\f.Name.size<=200)(a:List Int)(ha:a.length<=270000): aD (λn m=>Fh jM n m (l,ln l) (a,0)) λr=>r=a++l.flatMap KH:=
 pD l KH 1000 300000 (λx hx=>KG (hv x hx)) (L:=λn m p=>Fh jM n m (l,ln l) p) (λi a P ha h1 h2=>fE (bB (λx hx hi=>by
  have hm:=List.mem_of_getElem? hx
  have k1:=mO [x.ID,x.Kind,x.Class] vi 10 λx _=>fX x
  have k8:[x.ID,x.Kind,x.Class].length=3:=rfl
  have k2:=hv x hm
  have k3:=yS x.Name
  refine aD.e (tE a [x.ID,x.Kind,x.Class] (by simp) (by simp;omega)) (aD.e (Vw _ x.Name (by omega) (by simp only[List.length_append];omega)) (aD.e (Vx _ x.Parts (by omega) (by simp only[List.length_append];omega)) ?_))
  rw[dL (by omega)]
  have:=h1 x hm hx hi
  unfold KH at this
  simpa only[List.append_assoc] using this) λh=>aA (h2 h))) 0 a (by omega)
theorem aBa(s:cS)(h:SmS s): aD (λn _=>Cb n s) OV:=by
 have h1:=fX (ln s.Plan.Nodes)
 have h2:=mO s.Plan.Nodes p9 30 λx _=>JM x
 have h3:=fX (ln s.Plan.Arcs)
 have h4:=mO s.Plan.Arcs L6 6060 λx hx=>VC (h.p.v x hx)
 have h5:=Ub s.Plan.Faces
 have h6:=fX (ln s.Features)
 have h7:=mO s.Features KH 1000 λx hx=>KG (h.f x hx)
 have g1:=h.p.n
 have g2:=h.p.a
 have g3:=h.p.f
 have g4:=h.n
 refine bA (λ_=>rfl) (aH (aFU aKe s ⟨⟨by omega,by omega,by omega,λa ha=>by have:=h.p.v a ha;omega⟩,by omega,λf hf=>by have:=h.f f hf;omega⟩) λb _=>aE (λk=>aA λh=>by simp at k;exact absurd h k) λk=>?_)
 refine aD.e ((Aj [] _ (by simp)).to (List.nil_append _)) (aH (bH (VL1 _ g1 _ (by omega))) λr1 e1=>aD.e (Aj r1 _ (by rw[e1];simp only[List.length_append];omega)) (aH (bH (VL2 _ g2 h.p.v _ (by rw[e1];simp only[List.length_append];omega))) λr2 e2=>aD.e (Vx r2 _ (by omega) (by rw[e2,e1];simp only[List.length_append];omega)) (aD.e (Aj _ (ln s.Features) (by rw[e2,e1];simp only[List.length_append];omega)) (aH (bH (VL3 _ g4 h.f _ (by rw[e2,e1];simp only[List.length_append];omega))) λr e3=>?_))))
 have hl:r.length<=300000:=by rw[e3,e2,e1];simp only[List.length_append];omega
 refine aD.e (aBc _ (by omega)) (aA λ_=>⟨r,rfl,?_,hl⟩)
 rw[e3,e2,e1]
 exact (((((((Dx _).app (.fm λx _=>Ap _)).app (Dx _)).app (.fm λx _=>(Ap _).app (RQ _))).app (DK _)).app (Dx _)).app (.fm λx _=>(Ap _).app ((BD _).app (DK _))))
theorem aDk{l:List Int}{k:Nat}(h:k<=l.length): PM l (k:Int) (ln l)=some (l.drop k):=by
 unfold PM
 rw[if_pos ⟨by omega,by simp only[ln];omega,by simp only[ln];omega⟩]
 simp only[ln,Int.toNat_natCast,List.take_length]
theorem aIh{a:List Int}{k:Nat}(h:k<=a.length): PM a 0 (k:Int)=some (a.take k):=by
 unfold PM
 rw[if_pos ⟨by omega,by omega,by omega⟩,Int.toNat_natCast];rfl
theorem wr4{a:List Int}(h:4<=a.length)(h6:a.length<=990000): wr (ln a-4)=((a.length-4:Nat):Int):=by rw[wr,i64_in _ (by simp only[ln];omega)];simp only[ln];omega
theorem aF7(l:List Int)(hl:l.length<=990000): aD (λn _=>xF n l) λb=>[b.e0,b.e1,b.e2,b.e3]=uQ (Qf l):=by
 refine bA (λ_=>rfl) (aD.e (aDR l (by omega)) (aJ g24.1 (aJ g24.2.1 (aJ g24.2.2 (aA ?_)))))
 show[_,_,_,_]=uQ _
 rw[E5 .u32 _ 16777216 24 (by decide),E5 .u32 _ 65536 16 (by decide),E5 .u32 _ 256 8 (by decide),B9]
 rfl
theorem aHE{l:List Int}(h:l.length=4): ∃a b c d,l=[a,b,c,d]:=by
 match l,h with
 | [a,b,c,d],_=>exact⟨a,b,c,d,rfl⟩
theorem aG6(a:List Int)(h6:a.length<=990000): Ev (λn=>Gm n a) (dOp a):=by
 refine bA (λ_=>rfl) (aE (λq=>aA ?_) λq=>?_)
 .have q:=of_decide_eq_true q
  unfold dOp;rw[if_pos (by simp only[ln] at q;omega)]
 .have q:=of_decide_eq_false q
  have h4:4<=a.length:=by simp only[ln] at q;omega
  unfold dOp
  rw[if_neg (by omega),wr4 h4 h6]
  refine aJ (aIh (by omega)) (aH (aF7 _ (by rw[List.length_take];omega)) λb hb=>aJ (aDk (by omega)) ?_)
  obtain⟨x,y,z,w,hd⟩:=aHE (l:=a.drop (a.length-4)) (by rw[List.length_drop];omega)
  rw[hd]
  refine aJ (x:=x) rfl (aJ (x:=y) rfl (aJ (x:=z) rfl (aJ (x:=w) rfl (aE (λk=>?_) λk=>aA ?_))))
  .have k:=of_decide_eq_true k
   rw[if_pos (by rw[<-hb,k])]
   refine aD.e (.mk 1 λn hn=>by
    obtain⟨n,rfl⟩:∃k,n=k+1:=⟨n-1,by omega⟩
    exact yH (by simp;omega)) (aA (by rw[List.nil_append]))
  .have k:=of_decide_eq_false k
   rw[if_neg]
   intro e
   rw[<-hb] at e
   simp only[List.cons.injEq,and_true] at e
   apply k
   obtain⟨b0,b1,b2,b3⟩:=b
   simp only at e
   rw[e.1,e.2.1,e.2.2.1,e.2.2.2]
theorem aHc(a b:Nat)(ha:a<256)(hb:b<256): eG .xor .u8 (a:Int) (b:Int)=((a ^^^ b:Nat):Int)/\a ^^^ b<256:=by
 have h:a ^^^ b<2 ^ 8:=Nat.xor_lt_two_pow ha hb
 refine⟨?_,h⟩
 show IntKind.u8.wrap (((BitVec.ofInt 8 (a:Int) ^^^ BitVec.ofInt 8 (b:Int)).toNat:Nat):Int)=_
 rw[BitVec.toNat_xor,ofI 8 a ha,ofI 8 b hb,B9]
 omega
theorem aJz{x d:Int}(h1:0<=x)(h2:x<256)(h3:0<=d)(h4:d<256)(hd:d≠0): 0<=eG .xor .u8 x d/\eG .xor .u8 x d<256/\x≠eG .xor .u8 x d:=by
 obtain⟨a,rfl⟩:=Int.eq_ofNat_of_zero_le h1
 obtain⟨b,rfl⟩:=Int.eq_ofNat_of_zero_le h3
 have e:=aHc a b (by omega) (by omega)
 rw[e.1]
 refine⟨by omega,by omega,λh=>?_⟩
 have:a ^^^ b=a ^^^ 0:=by rw[Nat.xor_zero];omega
 have:=x_i this
 omega
theorem aE4(a:List Int)(h6:a.length<=990000)(h:(dOp a).2=6): Ev (λn=>codec_ReadSurvey?_I2 n a) (.inl 6):=by
 refine bF (aE (λq=>?_) λq=>?_)
 .have q:=of_decide_eq_true q
  simp only[ln] at q;omega
 .refine aD.e (aG6 a h6) (aE (λk=>aE (λ_=>aA (by rw[h])) λ_=>aA (by rw[h])) λk=>?_)
  rw[h] at k;cases k
theorem aKy(a:List Int)(h6:a.length<=990000)(h:(dOp a).2=6): aD (λn _=>codec_ReadSurvey? n a) λr=>r.2=6:=
 bA (λ_=>rfl) (aH (Q:=λb=>b=6) (bF (aT (Q:=λc=>c=6) (R:=λ_=>False) ((aE4 a h6 h).imp λz hz=>by rw[hz];rfl) (λc hc=>aA hc) λ_ hf=>hf.elim)) λb hb=>aA hb)
theorem aKx(a:List Int)(h6:a.length<=990000)(h:(dOp a).2=6): aD (λn _=>codec_ReadTxn? n a) λr=>r.2=6:=
 bA (λ_=>rfl) (aH (Q:=λb=>b.2=6) (bF (aT (Q:=λc=>c=6) (R:=λ_=>False) ((aE4 a h6 h).imp λz hz=>by rw[hz];rfl) (λc hc=>aA hc) λ_ hf=>hf.elim)) λb hb=>aA hb)
theorem aIs{r:List Int×Int}(hs:OV r)(h:r.2=0){c d:Int}(h1:0<=c)(h2:c<ln r.1)(h3:0<=d)(h4:d<256)(hd:d≠0):
 aD (λn _=>nB n r.1 c d) λa=>a.length<=990000/\(dOp a).2=6:=by
 obtain⟨l,e,hb,hl⟩:=hs h
 have hlen:r.1.length=l.length+4:=by rw[e,List.length_append];rfl
 have B:VN r.1:=by rw[e];exact hb.app (Y8 _)
 simp only[ln] at h2
 obtain⟨i,rfl⟩:=Int.eq_ofNat_of_zero_le h1
 have hi:i<r.1.length:=by omega
 have g:=List.getElem?_eq_getElem hi
 have b:=B _ (List.getElem_mem hi)
 have x:=aJz b.1 b.2 h3 h4 hd
 have k:YF r.1 r.1.length (i:Int)=some r.1[i]:=by unfold YF;rw[if_pos ⟨by omega,by simpa using hi⟩];simpa using g
 refine bA (λ_=>rfl) (aJ (x:=r.1) (yH (by simp;omega)) (aJ k (aJ (by rw[eU];exact g) (aJ k (aJ (by rw[eU];exact g) (aA ⟨by rw[List.length_set];omega,?_⟩))))))
 rw[Int.toNat_natCast]
 have:=aDi (l:=l) i r.1[i] (eG .xor .u8 r.1[i] d) (by rw[<-e];exact g) x.2.2 b.1 b.2 x.1 x.2.1
 rwa [<-e] at this
theorem aDB: Ev (λn=>iF n) true:=.mk AWN λn hn=>by
 unfold iF
 rw[Nat.ble_eq_true_of_le hn];rfl
theorem aGz: aD (λn _=>bnd (iF n) λg=>cnd g (some true) (some false)) λr=>r=true:=aD.e aDB (aA rfl)
theorem aI6(c:Int)(r:List Int×Int): aD (λn _=>fT n (c,r.1,r.2)) λi=>i=true->r.2=0/\c<ln r.1:=by
 refine aE (λh=>aE (λk=>aA λ_=>⟨by simpa using h,of_decide_eq_true k⟩) λ_=>aA λh=>by cases h) λ_=>aA λh=>by cases h
theorem aBj(s:cS)(t:Nk)(c d:Int)(h3:0<=d)(h4:d<256): Ev (λn=>mE n s t c d) true:=by
 refine bA (λ_=>rfl) (aH (Q:=λb=>b=false->SmS s/\SmT t/\d≠0/\0<=c) ?_ λf hf=>aE (λ_=>aGz) λh=>?_)
 .refine aH (aI2 s) λg hg=>aE (λh=>aH (aDH t) λg' hg'=>aE (λh'=>aE (λ_=>aA λh=>by cases h) λk=>aE (λ_=>aA λh=>by cases h) λj=>aA λ_=>⟨hg h,hg' h',by simpa using k,by have:=of_decide_eq_false j;omega⟩) λ_=>aA λh=>by cases h) λ_=>aA λh=>by cases h
 obtain⟨hs,ht,hd,hc⟩:=hf h
 have T:∀m:List Int×Int,OV m->aD (λn _=>bnd (fT n (c,m.1,m.2)) λo=>cnd o (bnd (nB n m.1 c d) λr=>bnd (codec_ReadTxn? n r) λs=>cnd (s.2 != 6) (some false) (bnd (iF n) λt=>cnd t (some true) (some false))) (bnd (iF n) λu=>cnd u (some true) (some false))) λr=>r=true:=λm hm=>
  aH (aI6 c m) λo ho=>aE (λk=>aH (aIs hm (ho k).1 hc (ho k).2 h3 h4 hd) λr hr=>aH (aKx r hr.1 hr.2) λz hz=>aE (λq=>by rw[hz] at q;cases q) λ_=>aGz) λ_=>aGz
 refine aH (aBa s hs) λr hr=>aH (aI6 c r) λi hi=>aE (λk=>aH (aIs hr (hi k).1 hc (hi k).2 h3 h4 hd) λj hj=>aH (aKy j hj.1 hj.2) λz hz=>aE (λq=>by rw[hz] at q;cases q) λ_=>aH (aE1 t ht) λm hm=>T m hm) λ_=>aH (aE1 t ht) λm hm=>T m hm
end
theorem sh5: PP.underlying 5=some (.int .u8):=by kernel_rfl
theorem P1{a:Int}{x:AV}(h:∃ys,nC PP 10 5 ys/\x=Ha PP 5 ys)(q:Qh [] (val 35 a) x): 0<=a/\a<256:=by
 obtain⟨ys,h,rfl⟩:=h
 unfold nC at h
 rw[sh5] at h
 obtain⟨z,wz,rfl⟩:=h
 have q:Qh [] (.lit (.int .u8 a)) (.lit (.int .u8 z)):=q
 have e:a=z:=by
  have:=q.inL
  cases this;rfl
 subst e
 have wz:(decide (IntKind.u8.min<=a)&&decide (a<=IntKind.u8.max))=true:=wz
 simp only[Bool.and_eq_true,decide_eq_true_eq] at wz
 have m1:IntKind.u8.min=0:=by decide
 have m2:IntKind.u8.max=255:=by decide
 rw[m1,m2] at wz
 omega
section
open Go.Proofs
theorem R4{P:Program}{n:Nat}{t0 t1 t2 t3:TypeId}{c:List AV}(h:Hg P n [t0,t1,t2,t3] c): ∃x0 x1 x2 x3,c=[x0,x1,x2,x3]/\(∃ys,nC P n t0 ys/\x0=Ha P t0 ys)/\(∃ys,nC P n t1 ys/\x1=Ha P t1 ys)/\(∃ys,nC P n t2 ys/\x2=Ha P t2 ys)/\(∃ys,nC P n t3 ys/\x3=Ha P t3 ys):=
 match c,h with
 | [x0,x1,x2,x3],⟨h0,h1,h2,h3,_⟩=>⟨x0,x1,x2,x3,rfl,h0,h1,h2,h3⟩
theorem aIb: xL.c=⟨[.v 7,.v 9,.v 3,.v 35],[5],false,λn p=>mE n p.1 p.2.1 p.2.2.1 p.2.2.2⟩:=by kernel_rfl
theorem aGg(b:List AV)(h:Hg PP 10 [29,32,3,5] b): ∃k H',dK PP T k 0 0 b []=some (.lit<|.bool true,H'):=by
 obtain⟨x0,x1,x2,x3,rfl,h0,h1,h2,h3⟩:=R4 h
 let⟨a0,q0,l0⟩:=AF (k:=7) (H:=[]) (by kernel_rfl) (by kernel_rfl) (.inl<|by kernel_rfl) h0
 let⟨a1,q1,l1⟩:=AF (k:=9) (H:=[]) (by kernel_rfl) (by kernel_rfl) (.inl<|by kernel_rfl) h1
 let⟨a2,q2,l2⟩:=AF (k:=3) (H:=[]) (by kernel_rfl) (by kernel_rfl) (.inr ⟨_,rfl⟩) h2
 let⟨a3,q3,l3⟩:=AF (k:=35) (H:=[]) (by kernel_rfl) (by kernel_rfl) (.inr ⟨_,rfl⟩) h3
 let⟨r,l,n,f⟩:=aBj a0 a1 a2 a3 (P1 h3 q3).1 (P1 h3 q3).2;subst l
 have i:PG PP T 0 ⟨[.v 7,.v 9,.v 3,.v 35],[5],false,λn p=>mE n p.1 p.2.1 p.2.2.1 p.2.2.2⟩:=aIb▸xL.ok
 exact aDa i (n:=n) (p:=(a0,a1,a2,a3)) (r:=true) (f n n (Nat.le_refl _)<|Nat.le_refl _) rfl ⟨q0,q1,q2,q3,trivial⟩
theorem YT(os:Os)(started:os.Started)(H:Type)(enc:TypeId×Value->H):
 ReturnsInHanded {} Tryz.checked os 3 .any (λw args=>(Rows.codecDamageSpec.pre enc Tryz.prog Tryz.f3 [] false w args/\laidMetH Tryz.prog Rows.codecDamageRow.laid w)/\sizedMet enc Tryz.prog Tryz.f3 (OpenSpec.ofChange Rows.codecDamageSpec) false w args)
  (Rows.codecDamageSpec.post enc Tryz.prog Tryz.f3 false true false false):=by
 refine HR (C:=Tryz.checked) (X:=λw _=>laidMetH Tryz.prog Rows.codecDamageRow.laid w) (λ_ _ _ hh h=>h.of_heap hh) own started (by kernel_rfl) Tryz.func3
  (ChangeSpec.witness_shaped (enc:=enc) (C:=Tryz.checked) (os:=os) (X:=λw _=>laidMetH Tryz.prog Rows.codecDamageRow.laid w) false (World.laidAll Tryz.prog os Rows.codecDamageRow.laid) #[.agg #[.slice none 0 0,.slice none 0 0,.slice none 0 0,.slice none 0 0],.agg #[.int .i64 0,.int .i64 0,.int .i64 0,.string ⟨#[]⟩,.slice none 0 0],.int .i64 0,.int .u8 0] 8 (World.laidAll_os _ _ _)
   (World.shaped_of_ZipB (by kernel_rfl) (by kernel_rfl)) (by kernel_rfl) (by kernel_rfl) (by kernel_rfl)
   (by rw[MakeChecks.laidMetH_plain _ _ _ (by kernel_rfl)];exact laidMet_laidAll _ (by kernel_rfl) (by kernel_rfl))) ?_
 intro W base args ds gs before hval hW hlaid hsh hwt
 have hds:∃d0 d1 d2 d3,ds=[d0,d1,d2,d3]/\gs=[]:=by
  obtain⟨p,q,hA,hV,_⟩:=hW
  have hA':DataW.TrodAll enc Tryz.prog W 0 (λ_=>true) true [29,32,3,5] args.toList ds p:=by
   have:=hA
   rw[Tryz.params3] at this
   exact this
  obtain⟨v0,vs0,d0,ds0,p0,q0,_,rfl,rfl,h0,r0⟩:=ChangeShapes.trodAll_cons hA'
  obtain⟨v1,vs1,d1,ds1,p1,q1,_,rfl,rfl,h1,r1⟩:=ChangeShapes.trodAll_cons r0
  obtain⟨v2,vs2,d2,ds2,p2,q2,_,rfl,rfl,h2,r2⟩:=ChangeShapes.trodAll_cons r1
  obtain⟨v3,vs3,d3,ds3,p3,q3,_,rfl,rfl,h3,r3⟩:=ChangeShapes.trodAll_cons r2
  obtain⟨rfl,rfl,rfl⟩:=ChangeShapes.trodAll_nil r3
  obtain⟨rfl,rfl⟩:=ChangeShapes.trodVars_none hV
  exact⟨_,_,_,_,rfl,rfl⟩
 obtain⟨d0,d1,d2,d3,rfl,rfl⟩:=hds
 refine NE (T:=T) (n:=10) (vi:=0) Y3 checked aKh aKi aCd (by kernel_rfl) rfl (tb:=4) (by kernel_rfl) (by kernel_rfl) laid (by rw[Tryz.params3];intro t ht;simp at ht;rcases ht with rfl | rfl | rfl | rfl<;>exact⟨by kernel_rfl,of_decide_eq_true (by kernel_rfl)⟩) (by kernel_rfl) ?_ (aAl hlaid hsh) ⟨rfl,rfl,rfl⟩ hval hW ?_
 .intro xs hxs
  rw[Tryz.params3] at hxs
  exact aGg xs hxs
 .intro n hn
  have:=List.all_eq_true.1 hwt n (by
   have e:Tryz.f3.params.toList++Rows.codecDamageSpec.plain.varTypes Tryz.prog=Tryz.f3.params.toList:=List.append_nil _
   show n∈DataW.weightsEach Tryz.prog (Tryz.f3.params.toList++Rows.codecDamageSpec.plain.varTypes Tryz.prog) ([d0,d1,d2,d3]++[])
   rw[e,List.append_nil];exact hn)
  simpa using this
theorem aAB: Rows.CodecDamageSaid:=
 OpenClaim.holds_of_wide 3 Tryz.f3 rfl rfl rfl rfl rfl rfl rfl ⟨rfl,rfl,rfl,rfl,rfl⟩ rfl rfl rfl rfl rfl (by kernel_rfl) Tryz.func3 K6
  (of_decide_eq_true (by kernel_rfl)) (by unfold Func.isWrapper;first | (rw[if_pos (by decide +kernel)];kernel_rfl) | (rw[if_neg (by decide +kernel)];exact⟨rfl,rfl⟩))
  (λos started H enc _=>YT os started H enc)
theorem dmg_card: Rows.CodecDamageCardSaid:=
 Claim7.holds_tied_plain_at .later [] [.data,.data] true (true,"03310e52eccc3a88c76eb8eaa765e82b8359edf8aa07e6ea191ff507add9f51f") true
  aAB (λ_ h=>by cases h) aHF (λ_ h=>by cases h) codecDamage_row_tie rfl ⟨rfl,rfl⟩ aHG rfl
  (λf fn hf hfn=>by
   obtain rfl:f=3:=Option.some.inj (aHJ.symm.trans hf) |>.symm
   obtain rfl:fn=Tryz.f3:=(Option.some.inj (Tryz.func3.symm.trans hfn)).symm
   exact⟨aHH,λj t ht=>by
    rw[Tryz.params3] at ht
    exact match j,ht with
    | 0,ht=>(by have e:29=t:=(by simpa using ht);subst e;exact aCM)
    | 1,ht=>(by have e:32=t:=(by simpa using ht);subst e;exact aCL)
    | 2,ht=>(by have e:3=t:=(by simpa using ht);subst e;exact aFG)
    | 3,ht=>(by have e:5=t:=(by simpa using ht);subst e;exact aFF)
    | n+4,ht=>(by simp at ht)⟩)
  aHI
end
end Go.Proofs.YtideamafblopcaaGreatDoor.Av
