/- A part of the proof of a law. -/
import Derived.Test.YtmcgghedgfkjiaaGreatDoorP10
import Derived.Test.YtmcgghedgfkjiaaGreatDoorP7
import Derived.Test.YtmcgghedgfkjiaaGreatDoorP0
import Derived.Test.YtmcgghedgfkjiaaGreatDoorP6
set_option maxRecDepth 100000
set_option maxHeartbeats 4000000
set_option linter.all false
namespace Go.Proofs.YtmcgghedgfkjiaaGreatDoor.Av
open Go
def aGT(e:aZ): Prop:=e.Via.length<=100000/\e.Parts.length<=100000
def Eh(t:bD): Prop:=t.Edits.length<=100000/\∀e∈t.Edits,aGT e
theorem aKu(t:bD): aB (λn _=>qR n t) λr=>r=0->aXa t:=by
 refine aU (λ_=>rfl)<|aD (f:=λn _=>HN n t) (Q:=λ_=>True) (by repeat' first | exact aA trivial | refine aC (λ_=>?_) (λ_=>?_)) λ_ _=>aC (λ_=>aA<|by simp) λ_=>?_;refine aP (f:=λn _=>HL n t) (Q:=λ_=>True) (R:=λr=>r≠0) (aC (λ_=>aA trivial) λ_=>aD (aL1 t.Source) λd _=>aC (λh=>aA<|show d≠0 by simpa using h) λ_=>aA trivial) (λ_ _=>?_) λr g=>aE rfl<|aA λh=>absurd h g;refine aD (f:=λn _=>HK n t) (Q:=λr=>r=false->t.Edits.length<=64) (aC (λ_=>aA<|by simp) λ_=>aC (λ_=>aA<|by simp) λh=>aA λ_=>by
  have h:¬ln t.Edits > 64:=Zi h;unfold ln at h;omega) λc e=>aC (λ_=>aA<|by simp) λh=>?_
 have a:=e h;refine aP (aW<|aT3 t.Edits a 0 .nil) (λv b=>aA λh=>absurd h b) λ_ i=>aE rfl<|aA λ_=>⟨a,i⟩
theorem aMf(x:Int×Int×Int×ByteArray)(b:List aZ)(k:b.length<=100000)(g:∀e∈b,aGT e)(i:Nat)(l:List aZ)(h:l=b): aB (λn m=>qF jQ n m (x.1,x.2.1,x.2.2.1,x.2.2.2,ln b) (l,(i:Int))) λr=>r=b:=by
 subst h;refine bZ<|aC (λa=>?_) λo=>aA rfl;have a:(i:Int)<ln l:=Zh a;have a:i<l.length:=by unfold ln at a;omega
 have d:eK l l.length (i:Int)=some l[i]:=by rw[gZ a];exact Za a
 have e2:idx l (i:Int)=some l[i]:=by rw[bN];exact Za a
 have j:=g _<|ZQ a;have es:l.set (Int.toNat (i:Int)) l[i]=l:=by rw[YA];simp
 refine aE d<|aE e2<|aD (aEV l[i].Via<|by have:=j.1;omega) λv c=>?_;subst c;refine aE d<|aE e2<|aD (aEV l[i].Parts<|by have:=j.2;omega) λv c=>?_;subst c;have f:l.set (Int.toNat (i:Int)) (aZ.mk l[i].Kind l[i].ID l[i].A l[i].B l[i].C l[i].At l[i].Via l[i].Name l[i].Parts)=l:=es;simp only[f];refine aE d<|aE e2 ?_;simp only[f];rw[bS<|by omega];exact aMf x l k g (i+1) l rfl
termination_by b.length-i
theorem I0(t:bD)(h:Eh t): aB (λn _=>wV n t) λr=>r=t:=by
 let⟨o,s,u,z,l⟩:=t;let⟨a,c⟩:=h;refine aU (λ_=>rfl)<|aV<|aC (λb=>?_) λ_=>?_
 .have:l=[]:=by simpa using b
  subst this;exact aD (Q:=λ_=>True) (GV (f:=λn=>mQ n () ())<|aW (f:=λn m=>qF fA n m () ())<|bZ<|aA trivial) λ_ _=>aA rfl
 .exact aE (Ko (l:=[]) (m:=l)<|by show 0+l.length<=_;have:l.length<=100000:=a;omega)<|aD (Q:=λr=>r=l) (GV (f:=λn=>uI n (o,s,u,z,ln l) (l,0))<|aW<|aMf (o,s,u,z) l a c 0 l rfl) λr d=>aA<|by rw[d]
theorem aGC(t:bD)(l:List bD)(a:l.length<=256)(i:Nat)(k:Int): Sx λn m=>pK uC n m (t,[],l,ln l) (k,(i:Int)):=
 bL<|bA (λx d b=>by
  rw[bS<|by omega];exact aC (λ_=>aGC t l a (i+1) _) λ_=>aC (λ_=>aA trivial) λ_=>aGC t l a (i+1) _) λc=>aA trivial
termination_by l.length-i
theorem aMD(x:List Aab×List aO×List Int×List aG)(l:List bD)(g:l.length<=256)(c:∀t∈l,Eh t)(i:Nat)(r:List bD)(a:r=l.take i): aB (λn m=>qF uB n m (x.1,x.2.1,x.2.2.1,x.2.2.2,l,ln l) (r,(i:Int))) λr=>r=l:=
 bZ<|bA (λt d e=>aD (I0 t<|c t<|Zg d) λu f=>aE (BU<|by rw[a];simp;omega)<|by
  rw[bS<|by omega];exact aMD x l g c (i+1) _<|by rw[a,f,YR,d];simp) λb=>aA<|by rw[a,ZS b]
termination_by l.length-i
def eS: aJ:=⟨⟨[],[],[]⟩,[]⟩
def eR: dE:=⟨eS,[]⟩
theorem aNb(a:dE)(t:bD)(l:wR a.Survey)(m:∀t∈a.Txns,Eh t)(k:Eh t): ∃s:aJ×Int×Int,aB (λn _=>Rc n a.Survey t.Edits) (λr=>r=s) /\
 aB (λn _=>xG n a t) λr=>(r.2≠0->r.1=eR)/\(r.2=0->s.2.2=0/\r.1=⟨s.1,a.Txns++[t]⟩/\wR s.1/\a.Txns.length<256):=by
 let⟨s,e,d⟩:=(aUR aUD aWp a.Survey l t.Edits).val;refine⟨s,d,aU (λ_=>rfl)<|aD (aKu t) λc p=>aC (λh=>aA ⟨λ_=>rfl,λf=>by rw[show c=0 from f] at h;simp at h⟩) λ_=>aC (λ_=>aA ⟨λ_=>rfl,by simp⟩) λh=>?_⟩;have h:¬ln a.Txns>=256:=Zi h;have h:a.Txns.length<256:=by unfold ln at h;omega
 refine aP (aW<|aGC t a.Txns (by omega) 0 0) (λ_ _=>aA ⟨λ_=>rfl,by simp⟩) λ_ _=>aE rfl<|aC (λ_=>aA ⟨λ_=>rfl,by simp⟩) λ_=>aD d λg j=>?_;subst j;refine aC (λb=>aA ⟨λ_=>rfl,λf=>by rw[show g.2.2=0 from f] at b;simp at b⟩) λb=>?_;have b:g.2.2=0:=by simpa using b
 exact aD (aW<|aMD (g.1.Plan.Nodes,g.1.Plan.Arcs,g.1.Plan.Faces,g.1.Features) a.Txns (by omega) m 0 [] rfl) λr i=>aD (I0 t k) λu o=>by
  subst i;subst o;exact aE (BU<|by omega)<|aA ⟨λh=>absurd rfl h,λ_=>⟨b,rfl,(e b).1,h⟩⟩
section
variable {α β γ:Type}
theorem tW{a b:List α}{i:Nat}{P:β->Prop}{f:Nat->Nat->α->α->Option β}{e:Nat->Nat->Option β}(j:a.length=b.length)(h:∀x y,a[i]?=some x->b[i]?=some y->i<a.length->aB (λn m=>f n m x y) P)(d:a.length<=i->aB e P):
 aB (λn m=>Av.cnd (decide<|(i:Int)<((a.length:Nat):Int)) (Av.bnd (idx a (i:Int)) λx=>Av.bnd (idx b (i:Int)) λy=>f n m x y)<|e n m) P:=
 bA (λx g c=>aE (x:=b[i]'(by omega)) (by rw[bN];exact Za<|by omega)<|h x _ g (Za<|by omega) c) d
theorem aDo{a b:List α}{i:Nat}{x y:α}(d:a.take i=b.take i)(f:a[i]?=some x)(c:b[i]?=some y)(e:x=y): a.take (i+1)=b.take (i+1):=by
 rw[YR,YR,d,f,c,e]
theorem aDp{a b:List α}{i:Nat}{x y:α}(d:a[i]?=some x)(c:b[i]?=some y)(e:x≠y): a≠b:=λh=>by
 subst h;rw[d] at c;exact e<|ZE c
theorem aDq{a b:List α}{i:Nat}(d:a.length=b.length)(c:a.take i=b.take i)(h:a.length<=i): a=b:=by
 rw[ZS h,ZS<|by omega] at c;exact c
abbrev Q2(a b:List α): (β⊕γ)->Prop:=Su (λ_=>a≠b) λ_=>a=b
theorem eqW{a b:List α}{f:Nat->Nat->Option (Unit⊕Unit)}(h:a.length=b.length->aB f (Q2 a b)): aB (λn m=>Av.cnd (ln a != ln b) (some false)<|Av.bnd2 (f n m) (λ_=>some false) λc=>Av.bnd (some c) λ_=>some true) λr=>r=true↔a=b:=
 aC (λh=>aA ⟨by simp,λe=>by subst e;simp at h⟩) λd=>aP (h<|aCh d) (λ_ h=>aA ⟨by simp,λe=>absurd e h⟩) λ_ h=>aE rfl<|aA ⟨λ_=>h,λ_=>rfl⟩
abbrev Iq{α:Type}(f:Nat->Nat->Option Bool)(a b:α): Prop:=aB f λr=>r=true↔a=b
theorem Iq.ret{P:α->Prop}{x:α}(h:P x): aB (λ_ _=>some x) P:=aA h
end
theorem aPP(a b:List Aaa)(d:a.length=b.length)(k:a.length<=100000)(i:Nat)(g:a.take i=b.take i): aB (λn m=>pK mV n m (a,b) (i:Int))<|Q2 a b:=
 bL<|tW d (λx y e f j=>aC (λh=>by
  rw[bS<|by omega];exact aPP a b d k (i+1)<|aDo g e f<|Zh h) λh=>aA<|aDp e f<|Zi h) λc=>aA<|aDq d g c
termination_by a.length-i
theorem aTV(a b:List Aaa)(c:a.length<=100000): Iq (λn _=>GX n a b) a b:=aU (λ_=>rfl)<|eqW λd=>aW<|aPP a b d c 0 rfl
theorem aPR(a b:List Int)(d:a.length=b.length)(k:a.length<=100000)(i:Nat)(g:a.take i=b.take i): aB (λn m=>pK sZ n m (a,b) (i:Int))<|Q2 a b:=
 bL<|tW d (λx y e f j=>aC (λh=>aA<|aDp e f<|by simpa using h) λh=>by
  rw[bS<|by omega];exact aPR a b d k (i+1)<|aDo g e f<|by simpa using h) λc=>aA<|aDq d g c
termination_by a.length-i
theorem aW1(a b:List Int)(c:a.length<=100000): Iq (λn _=>P0 n a b) a b:=aU (λ_=>rfl)<|eqW λd=>aW<|aPR a b d c 0 rfl
theorem aKD(a b:List Int)(d:a.length=b.length)(k:a.length<=100000)(i:Nat)(g:a.take i=b.take i): aB (λn m=>pK fX n m (a,b,ln a) (i:Int))<|Q2 a b:=
 bL<|tW d (λx y e f j=>aC (λh=>aA<|aDp e f<|by simpa using h) λh=>by
  rw[bS<|by omega];exact aKD a b d k (i+1)<|aDo g e f<|by simpa using h) λc=>aA<|aDq d g c
termination_by a.length-i
theorem aPS(a b:List Int)(c:a.length<=100000): Iq (λn _=>eL n a b) a b:=aU (λ_=>rfl)<|eqW λd=>aW<|aKD a b d c 0 rfl
theorem aKB(a b:List Aaa)(d:a.length=b.length)(k:a.length<=100000)(i:Nat)(g:a.take i=b.take i): aB (λn m=>pK gS n m (a,b,ln a) (i:Int))<|Q2 a b:=
 bL<|tW d (λx y e f j=>aC (λh=>by
  rw[bS<|by omega];exact aKB a b d k (i+1)<|aDo g e f<|Zh h) λh=>aA<|aDp e f<|Zi h) λc=>aA<|aDq d g c
termination_by a.length-i
theorem aT7(a b:List Aaa)(c:a.length<=100000): Iq (λn _=>iC n a b) a b:=aU (λ_=>rfl)<|eqW λd=>aW<|aKB a b d c 0 rfl
theorem aKC(a b:List Aab)(d:a.length=b.length)(k:a.length<=100000)(i:Nat)(g:a.take i=b.take i): aB (λn m=>pK iE n m (a,b,ln a) (i:Int))<|Q2 a b:=
 bL<|tW d (λx y e f j=>aC (λh=>by
  rw[bS<|by omega];exact aKC a b d k (i+1)<|aDo g e f<|Zh h) λh=>aA<|aDp e f<|Zi h) λc=>aA<|aDq d g c
termination_by a.length-i
theorem aT8(a b:List Aab)(c:a.length<=100000): Iq (λn _=>oP n a b) a b:=aU (λ_=>rfl)<|eqW λd=>aW<|aKC a b d c 0 rfl
theorem Iq.and{α:Type}{a b:α}{p:Prop}{x:Nat->Nat->Option Bool}{c:Bool}(d:c=true↔p)(f:a=b->p)(h:p->Iq x a b): Iq (λn m=>cnd c (x n m)<|some false) a b:=
 aC (λe=>h<|d.1 e) λe=>aA ⟨by simp,λh=>by rw[d.2<|f h] at e;cases e⟩
theorem Iq.end_{α β:Type}{a b:α}{u v:β}{f:Nat->Nat->Option Bool}(g:Iq f u v)(h:u=v↔a=b): Iq (λn m=>bnd (f n m) λd=>cnd d (some true)<|some false) a b:=
 aD g λr c=>aC (λe=>aA ⟨λ_=>h.1<|c.1 e,λ_=>rfl⟩) λe=>aA ⟨by simp,λk=>by rw[c.2<|h.2 k] at e;cases e⟩
theorem Iq.bb{α:Type}{a b:α}{f:Nat->Nat->Option Bool}(c:Iq f a b): Iq (λn m=>bnd (f n m) λd=>cnd d (some true)<|some false) a b:=Iq.end_ c Iff.rfl
theorem aPu{a b:aO}(e:a.ID=b.ID)(f:a.From=b.From)(i:a.To=b.To)(g:a.Left=b.Left)(d:a.Right=b.Right): a.Via=b.Via↔a=b:=by
 constructor
 .intro h;cases a;cases b;simp_all
 .rintro rfl;rfl
theorem aWY(a b:aO){f:Nat->Nat->Option Bool}(h:Iq f a.Via b.Via): Iq (λn m=>(cnd (a.ID==b.ID) (cnd (a.From==b.From) (cnd (a.To==b.To) (cnd (a.Left==b.Left) (cnd (a.Right==b.Right) (bnd (f n m) λd=>(cnd (d) (some true)<|some false))<|some false)<|some false)<|some false)<|some false)<|some false)) a b:=
 Iq.and ZD (congrArg _) λj=>Iq.and ZD (congrArg _) λg=>Iq.and ZD (congrArg _) λi=>Iq.and ZD (congrArg _) λc=>Iq.and ZD (congrArg _) λe=>Iq.end_ h<|aPu j g i c e
theorem aMl{a b:aG}(d:a.ID=b.ID)(e:a.Kind=b.Kind)(g:a.Class=b.Class)(f:a.Name=b.Name): a.Parts=b.Parts↔a=b:=by
 constructor
 .intro h;cases a;cases b;simp_all
 .rintro rfl;rfl
theorem aU2(a b:aG){f:Nat->Nat->Option Bool}(g:Iq f a.Parts b.Parts): Iq (λn m=>(cnd (a.ID==b.ID) (cnd (a.Kind==b.Kind) (cnd (a.Class==b.Class) (cd (a.Name=b.Name) (bnd (f n m) λd=>(cnd (d) (some true)<|some false))<|some false)<|some false)<|some false)<|some false)) a b:=
 Iq.and ZD (congrArg _) λi=>Iq.and ZD (congrArg _) λe=>Iq.and ZD (congrArg _) λh=>Iq.and Wc (congrArg _) λc=>Iq.end_ g<|aMl i e h c
theorem aTW(a b:aO)(h:a.Via.length<=100000): Iq (λn _=>uG n (a,b)) a b:=aWY a b<|aT7 a.Via b.Via h
theorem aU0(a b:aG)(h:a.Parts.length<=100000): Iq (λn _=>nJ n (a,b)) a b:=aU2 a b<|aPS a.Parts b.Parts h
section
variable {α:Type}{a b:List α}
theorem rq{i:Nat}(l:a.length=b.length)(u:a.length<=100000)(g:a.take i=b.take i){t:Nat->Nat->α->α->Option Bool}(s:∀x∈a,∀y,Iq (λn m=>t n m x y) x y){k:Nat->Nat->Option (Unit⊕Unit)}(q:a.take (i+1)=b.take (i+1)->i<a.length->aB k (Q2 a b)):
 aB (λn m=>cnd (decide<|(i:Int)<((a.length:Nat):Int)) (bnd (idx a (i:Int)) λx=>bnd (idx b (i:Int)) λy=>bnd (t n m x y) λj=>cnd j (k n m)<|some<|.inl ())<|some<|.inr ())<|Q2 a b:=
 tW l (λx y c o d=>aD (s x (Zg c) y) λr p=>aC (λh=>q (aDo g c o<|p.1 h) d) λh=>aA<|aDp c o λe=>by rw[p.2 e] at h;cases h) λf=>aA<|aDq l g f
end
section
variable (a b:aM)(ha:Sm a)
include ha
end
section
variable (a b:aJ)(ha:wR a)
include ha
end
theorem aTX(a b:List aO)(q:a.length<=300)(o:∀x∈a,x.Via.length<=300)(c:a.length=b.length)(i:Nat)(j:a.take i=b.take i): aB (λn m=>pK yB n m (b,a,ln a) (i:Int))<|Su (λ_=>a≠b) λ_=>a=b:=
 bL<|tW c (λx y d k p=>aD (f:=λn _=>IX n (x,y)) (Q:=λr=>r=true↔x=y) (aV<|Iq.bb<|aTW x y<|by have:=o x<|Zg d;omega) λr l=>aC (λh=>by
  rw[bS<|by omega];exact aTX a b q o c (i+1)<|aDo j d k<|l.1 h) λh=>aA<|aDp d k λe=>by rw[l.2 e] at h;cases h) λg=>aA<|aDq c j g
termination_by a.length-i
theorem aW3(a b:List aO)(d:a.length<=300)(c:∀x∈a,x.Via.length<=300): aB (λn _=>IY n (a,b))<|Su (λr=>r=true↔a=b) λ_=>a≠b:=by
 refine aV<|aC (λh=>aA<|show (false=true↔a=b) from⟨by simp,λe=>by subst e;simp at h⟩) λf=>?_;refine aP (aW<|aTX a b d c (aCh f) 0 rfl) (λ_ h=>?_) λ_ h=>?_
 .exact aA<|show a≠b from h
 .exact aE rfl<|aA<|show (true=true↔a=b) from⟨λ_=>h,λ_=>rfl⟩
theorem aW2(a b:aM)(i:Sm a): Iq (λn _=>PB n a b) a b:=by
 have g:∀{p:Prop},(a=b->p)->¬p->aB (λ_ _=>some false) (λr=>r=true↔a=b):=λh l=>aA ⟨by simp,λe=>absurd (h e) l⟩;refine aU (λ_=>rfl) (aD (aT8 a.Nodes b.Nodes<|by have:=i.n;omega) λc k=>aC (λm=>?_) λh=>g (congrArg _) λe=>by rw[k.2 e] at h;cases h);refine aP (aW3 a.Arcs b.Arcs i.a i.v) (λd j=>aC (λo=>?_) λh=>g (congrArg _) λe=>by rw[j.2 e] at h;cases h) λ_ h=>aE rfl<|g (congrArg _) h;exact Iq.end_ (aPS a.Faces b.Faces<|by have:=i.f;omega) ⟨λq=>by have:=k.1 m;have:=j.1 o;cases a;cases b;simp_all,λe=>by rw[e]⟩
theorem aU1(a b:List aG)(q:a.length<=1000)(o:∀x∈a,x.Parts.length<=1000)(c:a.length=b.length)(i:Nat)(j:a.take i=b.take i): aB (λn m=>pK pR n m (b,a,ln a) (i:Int))<|Su (λ_=>a≠b) λ_=>a=b:=
 bL<|tW c (λx y d k p=>aD (f:=λn _=>Lr n (x,y)) (Q:=λr=>r=true↔x=y) (aV<|Iq.bb<|aU0 x y<|by have:=o x<|Zg d;omega) λr l=>aC (λh=>by
  rw[bS<|by omega];exact aU1 a b q o c (i+1)<|aDo j d k<|l.1 h) λh=>aA<|aDp d k λe=>by rw[l.2 e] at h;cases h) λg=>aA<|aDq c j g
termination_by a.length-i
theorem aWI(a b:List aG)(d:a.length<=1000)(c:∀x∈a,x.Parts.length<=1000): aB (λn _=>Ls n (a,b))<|Su (λr=>r=true↔a=b) λ_=>a≠b:=by
 refine aV<|aC (λh=>aA<|show (false=true↔a=b) from⟨by simp,λe=>by subst e;simp at h⟩) λf=>?_;refine aP (aW<|aU1 a b d c (aCh f) 0 rfl) (λ_ h=>?_) λ_ h=>?_
 .exact aA<|show a≠b from h
 .exact aE rfl<|aA<|show (true=true↔a=b) from⟨λ_=>h,λ_=>rfl⟩
theorem aOI(a b:aJ)(i:wR a): Iq (λn _=>Ka n a b) a b:=by
 have g:∀{p:Prop},(a=b->p)->¬p->aB (λ_ _=>some false) (λr=>r=true↔a=b):=λh l=>aA ⟨by simp,λe=>absurd (h e) l⟩;refine aU (λ_=>rfl) (aD (aW2 a.Plan b.Plan i.p) λc k=>aC (λo=>?_) λh=>g (congrArg _) λe=>by rw[k.2 e] at h;cases h);exact aP (aWI a.Features b.Features i.n i.f) (λd j=>aC (λm=>aA ⟨λ_=>by have:=k.1 o;have:=j.1 m;cases a;cases b;simp_all,λ_=>rfl⟩) λh=>g (congrArg _) λe=>by rw[j.2 e] at h;cases h) λ_ h=>aE rfl<|g (congrArg _) h
theorem aRY{a b:aZ}(e:a.Kind=b.Kind)(g:a.ID=b.ID)(l:a.A=b.A)(j:a.B=b.B)(d:a.C=b.C)(k:a.At=b.At)(f:a.Via=b.Via)(i:a.Name=b.Name): a.Parts=b.Parts↔a=b:=by
 constructor
 .intro h;cases a;cases b;simp_all
 .rintro rfl;rfl
theorem aWr(a b:aZ)(h:aGT a): Iq (λn _=>wS n a b) a b:=
 aU (λ_=>rfl)<|Iq.bb<|Iq.and ZD (congrArg _) λk=>Iq.and ZD (congrArg _) λg=>Iq.and ZD (congrArg _) λj=>Iq.and ZD (congrArg _) λl=>Iq.and ZD (congrArg _) λe=>Iq.and Wc (congrArg _) λc=>
  aD (aTV a.Via b.Via h.1) λd i=>Iq.and i (congrArg _) λf=>Iq.and Wc (congrArg _) λm=>Iq.end_ (aW1 a.Parts b.Parts h.2)<|aRY k g j l e c f m
theorem aPO(a b:bD)(c:Eh a)(d:a.Edits.length=b.Edits.length)(i:Nat)(f:a.Edits.take i=b.Edits.take i): aB (λn m=>pK sP n m (a,b) (i:Int))<|Q2 a.Edits b.Edits:=
 have j:=c.1;bL<|rq d (by omega) f (t:=λn _ x y=>wS n x y) (λx g y=>aWr x y<|c.2 x g) λh e=>by
  rw[bS<|by omega];exact aPO a b c d (i+1) h
termination_by a.Edits.length-i
def CmV(a:dE)(t:bD)(v:dE×Int): Prop:=aB (λn _=>xG n a t) λr=>r=v
theorem CmV.uniq{a:dE}{t:bD}{v w:dE×Int}(h:CmV a t v)(k:CmV a t w): v=w:=aB.uniq (r:=v) (P:=λx=>x=w) h k
inductive Rp: List bD->dE->dE×Int->Prop
 | nil (p):Rp [] p (p,0)
 | err (t l p v):CmV p t v->v.2≠0->Rp (t::l) p v
 | ok (t l p v r):CmV p t v->v.2=0->Rp l v.1 r->Rp (t::l) p r
theorem Rp.uniq{l:List bD}{p:dE}{v w:dE×Int}(h:Rp l p v)(k:Rp l p w): v=w:=by
 induction h with
 | nil p=>cases k;rfl
 | err t l p v d e=>
  cases k with
  | err _ _ _ _ a b=>exact d.uniq a
  | ok _ _ _ u _ a b _=>rw[d.uniq a] at e;exact absurd b e
 | ok t l p v r d e i g=>
  cases k with
  | err _ _ _ _ a b=>rw[<-d.uniq a] at b;exact absurd e b
  | ok _ _ _ u _ a b f=>rw[<-d.uniq a] at f;exact g f
theorem Rp.snoc{l:List bD}{p q:dE}{t:bD}{v:dE×Int}(h:Rp l p (q,0))(k:CmV q t v)(e:v.2=0): Rp (l++[t]) p v:=by
 generalize c:(q,(0:Int))=r at h;induction h with
 | nil p=>cases c;exact .ok _ _ _ _ _ k e<|by let⟨a,b⟩:=v;subst e;exact .nil a
 | err t l p v f d=>subst c;exact absurd rfl d
 | ok t l p v r f d j g=>exact .ok _ _ _ _ _ f d<|g c
structure V7(a:dE): Prop where
 s:wR a.Survey
 t:∀t∈a.Txns,Eh t
theorem aFz(a:dE)(t:bD)(c:V7 a)(f:Eh t): ∃s:aJ×Int×Int,∃v,aB (λn _=>Rc n a.Survey t.Edits) (λr=>r=s)/\CmV a t v/\(v.2≠0->v.1=eR)/\(v.2=0->s.2.2=0/\v.1=⟨s.1,a.Txns++[t]⟩/\V7 v.1/\a.Txns.length<256):=by
 let⟨s,i,g⟩:=aNb a t c.s c.t f;let⟨v,e,l⟩:=g.val;refine⟨s,v,i,l,e.1,λh=>?_⟩;let⟨k,d,j,m⟩:=e.2 h;refine⟨k,d,?_,m⟩;rw[d];refine⟨j,λu b=>?_⟩;rcases ZC.1 b with b | b
 .exact c.t u b
 .rw[ZN.1 b];exact f
theorem aKP(e:List bD)(D:e.length<=100000)(y:∀t∈e,Eh t): ∀(a:List bD) (i:Nat) (p:dE),e.drop i=a->V7 p->∃v,Rp a p v/\(v.2=0->V7 v.1/\v.1.Txns=p.Txns++a)/\aB (λn m=>pK uA n m (e,ln e) (p.Survey.Plan.Nodes,p.Survey.Plan.Arcs,p.Survey.Plan.Faces,p.Survey.Features,p.Txns,(i:Int))) (Su (λw=>v.2≠0/\w.2.2=v.2) λw=>v.2=0/\v.1=⟨⟨⟨w.1,w.2.1,w.2.2.1⟩,w.2.2.2.1⟩,w.2.2.2.2⟩)
 | [],i,p,o,k=>⟨(p,0),.nil p,λ_=>⟨k,by simp⟩,bL<|bA (λx d g=>by
  have:=congrArg List.length o;rw[ZU,Z2] at this;omega) λ_=>aA ⟨rfl,rfl⟩⟩
 | t::a,i,p,o,k=>by
  let⟨q,A,G⟩:=Ia o;let⟨s,v,_,j,H,B⟩:=aFz p t k<|y t<|Zg q;by_cases c:v.2=0
  .let⟨_,F,E,_⟩:=B c;let⟨w,z,u,C⟩:=aKP e D y a (i+1) v.1 A E;refine⟨w,.ok _ _ _ v _ j c z,λh=>⟨(u h).1,?_⟩,bL<|bA (λx d g=>?_) λh=>by omega⟩
   .rw[(u h).2,F];simp
   .rw[q] at d;cases d;refine aD j λr l=>?_;subst l;refine aC (λb=>by rw[c] at b;simp at b) λ_=>?_;rw[bS<|by omega];exact C
  .refine⟨v,.err _ _ _ v j c,λh=>absurd h c,bL<|bA (λx d g=>?_) λh=>by omega⟩;rw[q] at d;cases d;refine aD j λr l=>?_;subst l;exact aC (λ_=>aA ⟨c,rfl⟩) λb=>absurd (by simpa using b) c
theorem aQr: V7 eR:=⟨⟨⟨by simp[eR,eS],by simp[eR,eS],by simp[eR,eS],by simp[eR,eS]⟩,by simp[eR,eS],by simp[eR,eS]⟩,by simp[eR]⟩
theorem aMU(l:List bD)(e:l.length<=100000)(c:∀t∈l,Eh t): ∃v,Rp l eR v/\(v.2=0->V7 v.1/\v.1.Txns=l)/\aB (λn _=>CJ n l) λr=>r.2.2=v.2/\(v.2=0->r.1=v.1):=by
 let⟨v,f,b,d⟩:=aKP l e c l 0 eR rfl aQr;refine⟨v,f,b,aU (λ_=>rfl)<|aP (aW d) (λw a=>aA ⟨a.2,λh=>absurd h a.1⟩) λw a=>aE rfl<|aA ⟨a.1.symm,λ_=>a.2.symm⟩⟩
def VlP(a:dE): Prop:=∃v,Rp a.Txns eR v/\v.2=0/\v.1.Survey=a.Survey
theorem aPy(a:dE)(z:a.Txns.length<=100000)(y:∀t∈a.Txns,Eh t): aB (λn _=>NJ n a) λr=>r=true↔VlP a:=by
 let⟨v,j,u,x⟩:=aMU a.Txns z y;refine aU (λ_=>rfl)<|aD x λb i=>aD (f:=λn _=>HJ n (a,b.1,b.2.2)) (Q:=λr=>r=true↔VlP a) (aC (λh=>?_) λh=>aA ⟨by simp,λ⟨w,l,g,_⟩=>?_⟩) λc q=>aC (λe=>aA ⟨λ_=>q.1 e,λ_=>rfl⟩) λe=>aA ⟨by simp,λk=>by rw[q.2 k] at e;cases e⟩
 .have m:v.2=0:=by rw[<-i.1];simpa using h
  have e:=i.2 m;refine aD (aOI b.1.Survey a.Survey<|by rw[e];exact (u m).1.s) λd p=>aC (λk=>aA ⟨λ_=>⟨v,j,m,by rw[<-e];exact p.1 k⟩,λ_=>rfl⟩) λk=>aA ⟨by simp,λ⟨w,l,g,o⟩=>?_⟩;rw[l.uniq j,<-e] at o;rw[p.2 o] at k;cases k
 .rw[l.uniq j,<-i.1] at g;have:b.2.2≠0:=by simpa using h
  exact absurd g this
theorem aRx(n:Nat)(t:bD): dW n t=wV n t:=by cases n<;>rfl
theorem aUj(t:bD)(h:Eh t): aB (λn _=>dW n t) λr=>r=t:=by
 have:(λ(n _:Nat)=>dW n t)=λn _=>wV n t:=by funext n m;exact aRx n t
 rw[this];exact I0 t h
theorem aRZ(l:List aZ)(i:Nat)(e:aZ)(h:l[i]?=some e): aB (λn _=>Kr n (l,(i:Int))) λr=>r=false->aGT e:=by
 have e1:idx l (i:Int)=some e:=by rw[bN];exact h
 refine aE e1 (aC (λ_=>aA (by simp)) λh1=>aE e1 (aC (λ_=>aA (by simp)) λh2=>aE e1 (aC (λ_=>aA (by simp)) λ_=>aA λ_=>?_)))
 have h1:=Zi h1;have h2:=Zi h2
 unfold ln at h1 h2
 exact⟨by omega,by omega⟩
theorem aMr(l:List aZ)(i:Nat)(hi:i<=7)(hu:Am l i aGT): aB (λn m=>pK Ah n m l (i:Int)) (Su (λ_=>True) λ_=>∃j,Am l j aGT/\(l.length<=j\/7<=j)):=
 bL (aC (λh=>by
  have hlt:i<l.length:=by have:=Zh h;unfold ln at this;omega
  refine aC (λh7=>?_) λh7=>aA ⟨i,hu,.inr (by have:=Zi h7;omega)⟩
  have h7:i<7:=by have:=Zh h7;omega
  refine aD (f:=λn _=>Kr n (l,(i:Int))) (aRZ l i _ (Za hlt)) λr hr=>aC (λ_=>aA trivial) λe=>?_
  rw[bS (by omega)]
  exact aMr l (i+1) (by omega) (hu.step (Za hlt) (hr e))) λh=>aA ⟨i,hu,.inl (by have:=Zi h;unfold ln at this;omega)⟩)
termination_by 7-i
theorem aOQ(l:List aZ): aB (λn _=>SL n l) λr=>r=true->l.length<=6/\∀e∈l,aGT e:=by
 refine aU (λ_=>rfl) (aP (aW (aMr l 0 (by omega) .nil)) (λ_ _=>aA (by simp)) λ_ h=>aE rfl (aC (λb=>aA λ_=>?_) λ_=>aA (by simp)))
 have b:=Zh b
 unfold ln at b
 obtain⟨j,hu,hj⟩:=h
 exact⟨by omega,hu.fin (by omega)⟩
theorem aPQ(l:List bD)(hl:l.length<=14)(i:Nat)(hu:Am l i Eh): aB (λn m=>pK Ag n m l (i:Int)) (Su (λ_=>True) λ_=>∀t∈l,Eh t):=
 bL (aC (λh=>by
  have hlt:i<l.length:=by have:=Zh h;unfold ln at this;omega
  have e1:idx l (i:Int)=some l[i]:=by rw[bN];exact Za hlt
  rw[bS (by omega)]
  refine aD (f:=λn _=>MM n (l,(i:Int))) (Q:=λr=>r=false->Eh l[i]) (aE e1 (aC (λ_=>aA (by simp)) λ_=>aE e1 (aD (aOQ l[i].Edits) λr hr=>aC (λe=>aA λ_=>?_) λ_=>aA (by simp)))) λr hr=>aC (λ_=>aA trivial) λe=>aPQ l hl (i+1) (hu.step (Za hlt) (hr e))
  have:=hr e
  exact⟨by omega,this.2⟩) λh=>aA (hu.fin (by have:=Zi h;unfold ln at this;omega)))
termination_by l.length-i
theorem aIZ(l:List bD): aB (λn _=>SK n l) λr=>r=true->l.length<=14/\∀t∈l,Eh t:=by
 refine aU (λ_=>rfl) (aC (λ_=>aA (by simp)) λh=>?_)
 have h:=Zi h
 unfold ln at h
 exact aP (aW (aPQ l (by omega) 0 .nil)) (λ_ _=>aA (by simp)) λ_ k=>aE rfl (aA λ_=>⟨by omega,k⟩)
def pL(a b:bD): Prop:=a.Time<b.Time\/(a.Time=b.Time/\(a.Office<b.Office\/(a.Office=b.Office/\a.Seq<b.Seq)))
def aLf(c d f:Int): Int:=([c,d,f].find? (· != 0)).getD 0
theorem aUh(c d f:Int): aB (λn _=>Ad n [c,d,f]) λr=>r=aLf c d f:=
 aU (λ_=>rfl) (aP (aW (aBP [c,d,f] (by simp) 0)) (λv h=>aA (by unfold aLf;rw[show[c,d,f].find? (· != 0)=some v from h];rfl)) λ_ h=>aE rfl (aA (by unfold aLf;rw[show[c,d,f].find? (· != 0)=none from h];rfl)))
def aSr(a b:bD): Int:=aLf (AU a.Time b.Time) (AU a.Office b.Office) (AU a.Seq b.Seq)
theorem aJE(a b:bD): aB (λn _=>eT n a b) λr=>r=aSr a b:=
 aU (λ_=>rfl) (aD (fL _ _) λx hx=>aD (fL _ _) λy hy=>aD (fL _ _) λz hz=>aD (aUh x y z) λr hr=>aA (by rw[hr,hx,hy,hz];rfl))
theorem aES(a b:bD): aSr a b<0↔pL a b:=by
 unfold aSr aLf pL AU
 by_cases h1:a.Time<b.Time
 .simp[h1]
 .by_cases h2:b.Time<a.Time
  .have:¬a.Time=b.Time:=by omega
   simp[h1,h2,this]
  .have e:a.Time=b.Time:=by omega
   by_cases h3:a.Office<b.Office
   .simp[e,h3]
   .by_cases h4:b.Office<a.Office
    .have:¬a.Office=b.Office:=by omega
     simp[e,h3,h4,this]
    .have e2:a.Office=b.Office:=by omega
     by_cases h5:a.Seq<b.Seq
     .simp[e,e2,h5]
     .by_cases h6:b.Seq<a.Seq
      .simp[e,e2,h5,h6]
      .simp[e,e2,h5,h6]
theorem aLD{a b c:bD}(h:pL a b)(k:pL b c): pL a c:=by unfold pL at *;omega
theorem aLF(a:bD): ¬pL a a:=by unfold pL;omega
def aGU(t:bD)(v:Int): Prop:=aB (λn _=>qR n t) λr=>r=v
theorem aGU.uniq{t:bD}{v w:Int}(h:aGU t v)(k:aGU t w): v=w:=aB.uniq (r:=v) (P:=λx=>x=w) h k
def Uv(t:bD): Aac:=⟨t.Office,t.Seq⟩
structure P7(L:List bD)(j:Nat)(t:bD): Prop where
 c:aGU t 0
 l:∀u,0<j->L[j-1]?=some u->pL u t
 k:∀m u,m<j->L[m]?=some u->Uv u≠Uv t
def aGS(l:List bD): Prop:=∀j t,l[j]?=some t->P7 l j t
def aVo(l:List bD)(i:Nat)(h:List (Aac×Bool)): Prop:=∀k,(cE h k).getD false=true↔∃j u,j<i/\l[j]?=some u/\Uv u=k
theorem aQG(o:bT)(hl:o.Txns.length<=256)(i:Nat)(x:bD)(hx:o.Txns[i]?=some x)(h:List (Aac×Bool))(hm:aVo o.Txns i h): aB (λn _=>Ln n (o,h,x,x.Office,x.Seq,(i:Int))) λr=>r=true↔¬P7 o.Txns i x:=by
 obtain⟨v,_,hv⟩:=(aKu x).val
 have hi:i<256:=by have:=(Zd.1 hx).1;omega
 have fin:aGU x 0->(∀u,0<i->o.Txns[i-1]?=some u->pL u x)->aB (λ_ _=>cnd (Option.getD (cE h (Aac.mk x.Office x.Seq)) false) (some true) (some false)) λr=>r=true↔¬P7 o.Txns i x:=λh1 h2=>aC (λb=>aA ⟨λ_ g=>by
  obtain⟨j,u,k1,k2,k3⟩:=(hm _).1 b
  exact g.k j u k1 k2 k3,λ_=>rfl⟩) λb=>aA ⟨by simp,λg=>absurd ⟨h1,h2,λk u k1 k2 k3=>by
  have e:=(hm (Aac.mk x.Office x.Seq)).2 ⟨k,u,k1,k2,k3⟩
  rw[e] at b;cases b⟩ g⟩
 refine aD hv λc hc=>?_
 subst hc
 refine aC (λb=>aA ⟨λ_ g=>by have:=g.c.uniq hv;rw[<-this] at b;simp at b,λ_=>rfl⟩) λb=>?_
 have hc:c=0:=by simpa using b
 subst hc
 refine aC (λb=>?_) λb=>fin hv λu hu=>absurd hu (by have:=Zi b;omega)
 have h0:0<i:=by have:=Zh b;omega
 have hlt:i-1<o.Txns.length:=by have:=(Zd.1 hx).1;omega
 have e1:idx o.Txns (wr ((i:Int)-1))=some o.Txns[i-1]:=by
  have:wr ((i:Int)-1)=((i-1:Nat):Int):=by unfold wr;rw[i64_in _ (by omega)];omega
  rw[this,bN];exact Za hlt
 refine aE e1 (aD (aJE _ x) λr hr=>aC (λb=>aA ⟨λ_ g=>?_,λ_=>rfl⟩) λb=>fin hv λu _ hu=>?_)
 .have:=(aES _ _).2 (g.l _ h0 (Za hlt))
  have b:=Zh b
  omega
 .rw[Za hlt] at hu
  cases hu
  have b:=Zi b
  exact (aES _ _).1 (by omega)
theorem aKp(o:bT)(hl:o.Txns.length<=256)(i:Nat)(h:List (Aac×Bool))(hm:aVo o.Txns i h)(hg:∀j t,j<i->o.Txns[j]?=some t->P7 o.Txns j t): aB (λn m=>pK pG n m (o,o.Txns,ln o.Txns) (h,(i:Int))) (Su (λ_=>¬aGS o.Txns) λ_=>aGS o.Txns):=
 bL (bA (λx hx hlt=>by
  refine aD (aQG o hl i x hx h hm) λr hr=>aC (λb=>aA λg=>hr.1 b (g i x hx)) λb=>?_
  have hgx:P7 o.Txns i x:=Classical.byContradiction λg=>by rw[hr.2 g] at b;cases b
  rw[bS (by omega)]
  refine aKp o hl (i+1) _ (λk=>?_) λj t hj ht=>?_
  .rw[tL]
   by_cases e:Aac.mk x.Office x.Seq=k
   .rw[Zu e];exact⟨λ_=>⟨i,x,by omega,hx,e⟩,λ_=>rfl⟩
   .rw[ZF e,hm k]
    exact⟨λ⟨j,u,a,b,c⟩=>⟨j,u,by omega,b,c⟩,λ⟨j,u,a,b,c⟩=>by
     rcases ZI j i with hj | hj
     .exact⟨j,u,hj,b,c⟩
     .have:j=i:=by omega
      subst this
      rw[hx] at b;cases b;exact absurd c e⟩
  .rcases ZI j i with h1 | h1
   .exact hg j t h1 ht
   .have:j=i:=by omega
    subst this
    rw[hx] at ht;cases ht;exact hgx) λhge=>aA λj t ht=>hg j t (by have:=(Zd.1 ht).1;omega) ht)
termination_by o.Txns.length-i
structure aS3(o:bT): Prop where
 a:1<=o.ID
 b:o.ID<=8
 n:o.Txns.length<=256
 g:aGS o.Txns
theorem aNs(o:bT): aB (λn _=>pH n o) λr=>r=true↔aS3 o:=by
 refine aU (λ_=>rfl) (aD (f:=λn _=>Lo n o) (Q:=λr=>r=true↔¬(1<=o.ID/\o.ID<=8/\o.Txns.length<=256)) (aC (λh=>aA ⟨λ_ g=>?_,λ_=>rfl⟩) λh1=>aC (λh=>aA ⟨λ_ g=>?_,λ_=>rfl⟩) λh2=>aC (λh=>aA ⟨λ_ g=>?_,λ_=>rfl⟩) λh3=>aA ⟨by simp,λg=>?_⟩) λr hr=>aC (λb=>aA ⟨by simp,λg=>absurd ⟨g.a,g.b,g.n⟩ (hr.1 b)⟩) λb=>?_)
 .have:=Zh h;omega
 .have:=Zh h;omega
 .have:=Zh h;unfold ln at this;omega
 .have:=Zi h1;have:=Zi h2;have:=Zi h3;unfold ln at this
  exact absurd ⟨by omega,by omega,by omega⟩ g
 .have hk:1<=o.ID/\o.ID<=8/\o.Txns.length<=256:=Classical.byContradiction λg=>by rw[hr.2 g] at b;cases b
  exact aP (aW (aKp o hk.2.2 0 [] (λk=>by simp[cE]) λj t hj=>by omega)) (λ_ h=>aA ⟨by simp,λg=>absurd g.g h⟩) λ_ h=>aE rfl (aA ⟨λ_=>⟨hk.1,hk.2.1,hk.2.2,h⟩,λ_=>rfl⟩)
theorem aGS.asc{l:List bD}(h:aGS l): ∀(i j:Nat) (a b:bD),i<j->l[i]?=some a->l[j]?=some b->pL a b:=by
 intro i j
 induction j with
 | zero=>intro a b hi;omega
 | succ j ih=>
  intro a b hi ha hb
  have hlt:j<l.length:=by have:=(Zd.1 hb).1;omega
  have h1:=(h (j+1) b hb).l _ (by omega) (by rw[Nat.add_sub_cancel];exact Za hlt)
  rcases ZI i j with h2 | h2
  .exact aLD (ih a _ h2 ha (Za hlt)) h1
  .have:i=j:=by omega
   subst this
   rw[Za hlt] at ha;cases ha;exact h1
abbrev KM:=List (Aac×Bool)
def L1(b:Int)(k:Nat): KM->Nat
 | []=>0
 | (x,_)::r=>(if x.e0=b/\(k:Int)<x.e1 then 1 else 0)+L1 b k r
theorem aI2(b:Int)(k:Nat): ∀m:KM,L1 b (k+1) m<=L1 b k m
 | []=>Zf _
 | (x,v)::r=>by
  have:=aI2 b k r
  unfold L1
  split<;>split<;>first | omega | (rename_i h1 h2;exact absurd ⟨h1.1,by have:=h1.2;omega⟩ h2)
theorem aI1(b:Int)(k:Nat): ∀m:KM,(cE m ⟨b,((k+1:Nat):Int)⟩).isSome=true->L1 b (k+1) m<L1 b k m
 | [],h=>by simp[cE] at h
 | (x,v)::r,h=>by
  have hle:=aI2 b k r
  unfold L1
  by_cases e:x=⟨b,((k+1:Nat):Int)⟩
  .subst e
   rw[ZF (by simp),Zu ⟨rfl,by show (k:Int)<((k+1:Nat):Int);omega⟩];omega
  .have:=aI1 b k r (by unfold cE at h;rw[ZF e] at h;exact h)
   split<;>split<;>first | omega | (rename_i h1 h2;exact absurd ⟨h1.1,by have:=h1.2;omega⟩ h2)
theorem aER(b:Int)(k:Nat): ∀m:KM,L1 b k m<=m.length
 | []=>Zf _
 | (x,v)::r=>by
  have:=aER b k r
  unfold L1
  rw[Z9]
  split<;>omega
theorem aAD(k:Aac)(v:Bool): ∀m:KM,(kL m k v).length<=m.length+1
 | []=>by simp[kL]
 | (x,w)::r=>by
  have:=aAD k v r
  unfold kL
  split<;>simp<;>omega
theorem aQc(m:KM)(b:Int)(k:Nat)(hk:k+L1 b k m<=1000): aB (λn q=>qF oL n q (m,b) (k:Int)) λ_=>True:=by
 refine bZ ?_
 have e:wr ((k:Int)+1)=((k+1:Nat):Int):=bS (by omega)
 show aB (λn q=>cnd (Option.getD (cE m (Aac.mk b (wr ((k:Int)+1)))) false) (qF oL n q (m,b) (wr ((k:Int)+1))) (some (k:Int))) λ_=>True
 rw[e]
 refine aC (λh=>?_) λ_=>aA trivial
 have:=aI1 b k m (by cases hg:cE m ⟨b,((k+1:Nat):Int)⟩ with | none=>rw[hg] at h;cases h | some v=>rfl)
 exact aQc m b (k+1) (by omega)
termination_by L1 b k m
theorem aWs{f:Nat}(h:f<=1000): rep (0:Int) (f:Int) (f:Int)=some (List.replicate f 0):=by
 have:=NV (l:=List.replicate f (0:Int)) 0 (by simp;omega)
 simpa [ln] using this
theorem aLx(m:KM)(hm:m.length<=900)(d:List Int)(f g:Nat)(h:d.length+f<=g)(hg:g<=9): aB (λn q=>qF xE n q m (d,(f:Int),(g:Int))) λ_=>True:=by
 refine bZ ?_
 have e1:wr ((f:Int)+1)=((f+1:Nat):Int):=bS (by omega)
 have e2:wr ((g:Int)+1)=((g+1:Nat):Int):=bS (by omega)
 refine aC (λb=>?_) λ_=>aA trivial
 have b:g<=8:=by have:=Zh b;omega
 refine aD (f:=λn _=>HD n (m,(g:Int))) (Q:=λ_=>True) (aV (aD (aW (aQc m g 0 (by have:=aER g 0 m;omega))) λr _=>aA trivial)) λr _=>aC (λ_=>?_) λ_=>aE (aWs (by omega)) (aE (Ko (by simp;omega)) (aE (Ko (by simp;omega)) ?_))
 .rw[e1,e2];exact aLx m hm d (f+1) (g+1) (by omega) (by omega)
 .rw[e2];exact aLx m hm _ 0 (g+1) (by simp;omega) (by omega)
termination_by 9-g
theorem aQd(l:List bD)(hl:l.length<=256)(i:Nat)(m:KM)(hi:i<=l.length)(h:m.length<=i): aB (λn q=>qF xF n q (l,ln l) (m,(i:Int))) λr=>r.length<=256:=
 bZ (bA (λx hx hlt=>by
  rw[bS (by omega)]
  exact aQd l hl (i+1) _ (by omega) (by have:=aAD ⟨x.Office,x.Seq⟩ true m;omega)) λ_=>aA (by omega))
termination_by l.length-i
theorem aXe(l:List bD)(hl:l.length<=256): Tt (λn _=>Es n l):=
 aU (λ_=>rfl) (aD (aW (aQd l hl 0 [] (by omega) (by simp))) λm hm=>aD (f:=λn _=>HE n m) (Q:=λ_=>True) (aV (aD (aW (aLx m (by omega) [] 0 1 (by simp) (by omega))) λr _=>aA trivial)) λr _=>aA trivial)
theorem aOW(c:nZ)(o:Int): Tt (λn _=>It n c o):=by
 refine aU (λ_=>rfl) (aD (f:=λn _=>Ky n (c,o)) (Q:=λr=>r=false->1<=o/\o<=8/\o<=ln c.Counts) (aC (λ_=>aA (by simp)) λh1=>aC (λ_=>aA (by simp)) λh2=>aC (λ_=>aA (by simp)) λh3=>aA λ_=>?_) λr hr=>aC (λ_=>aA trivial) λh=>?_)
 .have:=Zi h1;have:=Zi h2;have:=Zi h3
  exact⟨by omega,by omega,by omega⟩
 .obtain⟨a,b,d⟩:=hr h
  unfold ln at d
  have e:wr (o-1)=o-1:=by unfold wr;rw[i64_in _ (by omega)]
  rw[e]
  exact aE (uL (by omega) (by omega)) (aD (f:=λn _=>mW n _ 0) (Q:=λ_=>True) (aU (λ_=>rfl) (aC (λ_=>aA trivial) λ_=>aA trivial)) λ_ _=>aA trivial)
theorem aP5(c:nZ)(o s:Int): Tt (λn _=>wG n c o s):=
 aU (λ_=>rfl) (aD (f:=λn _=>Kz n (c,o,s)) (Q:=λ_=>True) (aC (λ_=>aD (aOW c o) λ_ _=>aC (λ_=>aA trivial) λ_=>aA trivial) λ_=>aA trivial) λ_ _=>aC (λ_=>aA trivial) λ_=>aA trivial)
section
theorem aWq(a b:bD)(ha:Eh a): Iq (λn _=>oH n a b) a b:=by
 refine aU (λ_=>rfl) (aD (f:=λn _=>Sf n (a,b)) (Q:=λr=>(r=true->a≠b)/\(r=false->a.Office=b.Office/\a.Seq=b.Seq/\a.Time=b.Time/\a.Source=b.Source/\a.Edits.length=b.Edits.length)) ?_ λc hc=>aC (λh=>aA ⟨by simp,λe=>absurd e (hc.1 h)⟩) λh=>?_)
 .have no:∀{p:Prop},(a=b->p)->¬p->aB (λ_ _=>some true) (λr=>(r=true->a≠b)/\(r=false->a.Office=b.Office/\a.Seq=b.Seq/\a.Time=b.Time/\a.Source=b.Source/\a.Edits.length=b.Edits.length)):=λh k=>aA ⟨λ_ e=>k (h e),by simp⟩
  exact aC (λh=>no (congrArg bD.Office) (by simpa using h)) λh1=>aC (λh=>no (congrArg bD.Seq) (by simpa using h)) λh2=>aC (λh=>no (congrArg bD.Time) (by simpa using h)) λh3=>aC (λh4=>aC (λh=>no (congrArg λx=>x.Edits.length) (by simp[ln] at h;omega)) λh5=>aA ⟨by simp,λ_=>⟨by simpa using h1,by simpa using h2,by simpa using h3,Zh h4,by simp[ln] at h5;omega⟩⟩) λh=>no (congrArg bD.Source) (Zi h)
 .obtain⟨h1,h2,h3,h4,h5⟩:=hc.2 h
  exact aP (aW (aPO a b ha h5 0 rfl)) (λ_ h=>aA ⟨by simp,λe=>absurd (congrArg _ e) h⟩) λ_ h=>aE rfl (aA ⟨λ_=>by cases a;cases b;simp_all,λ_=>rfl⟩)
inductive qH{α:Type}: List α->List α->List α->Prop
 | nil:qH [] [] []
 | acc (x o a r):qH o a r->qH (x::o) (x::a) r
 | rej (x o a r):qH o a r->qH (x::o) a (x::r)
variable {α:Type}{a o r:List α}{x:α}
theorem qH.mem(h:qH o a r): ∀x∈a,x∈o:=by
 induction h with
 | nil=>exact λx hx=>hx
 | acc x o a r _ ih=>intro y hy;rcases ZJ.1 hy with e | e;exact e▸ZG;exact ZH _ (ih y e)
 | rej x o a r _ ih=>exact λy hy=>ZH _ (ih y hy)
theorem qH.snocA(h:qH o a r): qH (o++[x]) (a++[x]) r:=by
 induction h with
 | nil=>exact .acc _ _ _ _ .nil
 | acc y o a r _ ih=>exact .acc _ _ _ _ ih
 | rej y o a r _ ih=>exact .rej _ _ _ _ ih
theorem qH.snocR(h:qH o a r): qH (o++[x]) a (r++[x]):=by
 induction h with
 | nil=>exact .rej _ _ _ _ .nil
 | acc y o a r _ ih=>exact .acc _ _ _ _ ih
 | rej y o a r _ ih=>exact .rej _ _ _ _ ih
end
abbrev StT:=List Aab×List aO×List Int×List aG×List bD×List bD
def rpO(w:StT): dE:=⟨⟨⟨w.1,w.2.1,w.2.2.1⟩,w.2.2.2.1⟩,w.2.2.2.2.1⟩
theorem aKz(c:nZ)(l:List bD)(hl:l.length<=256)(hs:∀t∈l,Eh t): ∀(todo:List bD) (i:Nat) (p:dE) (m:List bD),l.drop i=todo->V7 p->Rp p.Txns eR (p,0)->qH (l.take i) p.Txns m->m.length<=i->
 aB (λn q=>qF jR n q (c,l,ln l) (p.Survey.Plan.Nodes,p.Survey.Plan.Arcs,p.Survey.Plan.Faces,p.Survey.Features,p.Txns,m,(i:Int))) λw=>qH l w.2.2.2.2.1 w.2.2.2.2.2/\Rp w.2.2.2.2.1 eR (rpO w,0)/\V7 (rpO w)
 | [],i,p,m,hd,hp,hr,ha,hm=>bZ (bA (λx hx hlt=>by
  have:=congrArg List.length hd
  rw[ZU,Z2] at this;omega) λhge=>aA (by rw[ZS hge] at ha;exact⟨ha,hr,hp⟩))
 | t::todo,i,p,m,hd,hp,hr,ha,hm=>by
  obtain⟨g1,g2,g3⟩:=Ia hd
  have hlt:i<l.length:=(Zd.1 g1).1
  have ht:=hs t (Zg g1)
  have tk:l.take (i+1)=l.take i++[t]:=by rw[YR,g1];rfl
  have rej:aB (λn q=>bnd (dW n t) λu=>bnd (app m [u]) λv=>qF jR n q (c,l,ln l) (p.Survey.Plan.Nodes,p.Survey.Plan.Arcs,p.Survey.Plan.Faces,p.Survey.Features,p.Txns,v,((i+1:Nat):Int))) λw=>qH l w.2.2.2.2.1 w.2.2.2.2.2/\Rp w.2.2.2.2.1 eR (rpO w,0)/\V7 (rpO w):=by
   refine aD (aUj t ht) λu hu=>?_
   subst hu
   exact aE (BU (by omega)) (aKz c l hl hs todo (i+1) p (m++[u]) g2 hp hr (by rw[tk];exact ha.snocR) (by simp;omega))
  refine bZ (bA (λx hx _=>?_) λh=>by omega)
  rw[g1] at hx
  cases hx
  rw[bS (by omega)]
  refine aD (aP5 c t.Office t.Seq) λs _=>aC (λ_=>?_) λ_=>rej
  obtain⟨s,v,_,h1,_,h3⟩:=aFz p t hp ht
  refine aD h1 λr hr'=>?_
  subst hr'
  refine aC (λb=>?_) λ_=>rej
  have h0:r.2=0:=by simpa using b
  obtain⟨_,k1,k2,_⟩:=h3 h0
  have kt:r.1.Txns=p.Txns++[t]:=by rw[k1]
  refine aKz c l hl hs todo (i+1) r.1 m g2 k2 ?_ (by rw[tk,kt];exact ha.snocA) (by omega)
  have:=hr.snoc h1 h0
  rw[kt]
  obtain⟨r1,r2⟩:=r
  simp only at h0
  subst h0
  exact this
theorem aP0(o:bT)(hs:∀t∈o.Txns,Eh t): aB (λn _=>pI n o) λr=>(r.2.2=0/\aS3 o/\qH o.Txns r.1.Txns r.2.1/\Rp r.1.Txns eR (r.1,0)/\V7 r.1)\/(r.2.2=19/\¬aS3 o/\r.1=eR/\r.2.1=[]):=by
 refine aU (λ_=>rfl) (aD (aNs o) λb hb=>aC (λh=>?_) λh=>aA (.inr ⟨rfl,(λk=>by rw[hb.2 k] at h;cases h),rfl,rfl⟩))
 have hk:=hb.1 h
 exact aD (aXe o.Txns hk.n) λc _=>aD (aW (aKz c o.Txns hk.n hs o.Txns 0 eR [] rfl aQr (.nil eR) .nil (by simp))) λw hw=>aA (.inl ⟨rfl,hk,hw.1,hw.2.1,hw.2.2⟩)
section
structure aBj(L:List bD): Prop where
 c:∀t∈L,aGU t 0
 l:L.Pairwise pL
 k:L.Pairwise λa b=>Uv a≠Uv b
variable {l:List bD}
theorem aGS.gl(h:aGS l): aBj l where
 c t ht:=by obtain⟨i,hi⟩:=Yd.1 ht;exact (h i t hi).c
 l:=List.pairwise_iff_getElem.2 λi j hi hj hij=>h.asc i j _ _ hij (Za hi) (Za hj)
 k:=List.pairwise_iff_getElem.2 λi j hi hj hij=>(h j _ (Za hj)).k i _ hij (Za hi)
theorem aLE{a b:bD}(h:Uv a≠Uv b)(k:¬pL a b): pL b a:=by
 have:¬(a.Office=b.Office/\a.Seq=b.Seq):=λ⟨x,y⟩=>h (by unfold Uv;rw[x,y])
 unfold pL at *;omega
theorem aBj.ins(h:aBj l){t:bD}(hc:aGU t 0)(hk:∀u∈l,Uv u≠Uv t){p:Nat}(h1:∀u∈l.take p,pL u t)(h2:∀u∈l.drop p,¬pL u t): aBj (l.take p++t::l.drop p):=by
 have hk1:∀u∈l.take p,Uv u≠Uv t:=λu hu=>hk u (Z1 hu)
 have hk2:∀u∈l.drop p,Uv u≠Uv t:=λu hu=>hk u (ZX hu)
 have hl:=h.l;have hkk:=h.k
 rw[<-YN p l] at hl hkk
 obtain⟨a1,a2,a3⟩:=List.pairwise_append.1 hl
 obtain⟨b1,b2,b3⟩:=List.pairwise_append.1 hkk
 refine⟨λu hu=>?_,List.pairwise_append.2 ⟨a1,List.pairwise_cons.2 ⟨λu hu=>aLE (hk2 u hu) (h2 u hu),a2⟩,λa ha b hb=>?_⟩,List.pairwise_append.2 ⟨b1,List.pairwise_cons.2 ⟨λu hu e=>hk2 u hu e.symm,b2⟩,λa ha b hb=>?_⟩⟩
 .rcases ZC.1 hu with hu | hu
  .exact h.c u (Z1 hu)
  .rcases ZJ.1 hu with e | hu
   .rw[e];exact hc
   .exact h.c u (ZX hu)
 .rcases ZJ.1 hb with e | hb
  .rw[e];exact h1 a ha
  .exact a3 a ha b hb
 .rcases ZJ.1 hb with e | hb
  .rw[e];exact hk1 a ha
  .exact b3 a ha b hb
end
theorem aBj.key{l:List bD}(h:aBj l){a b:bD}(ha:a∈l)(hb:b∈l)(e:Uv a=Uv b): a=b:=by
 obtain⟨i,hi,rfl⟩:=YZ.1 ha
 obtain⟨j,hj,rfl⟩:=YZ.1 hb
 rcases Nat.lt_trichotomy i j with k | k | k
 .exact absurd e (List.pairwise_iff_getElem.1 h.k _ _ hi hj k)
 .subst k;rfl
 .exact absurd e.symm (List.pairwise_iff_getElem.1 h.k _ _ hj hi k)
section
variable {α:Type}{a m o:List α}
theorem qH.inv{x:α}(h:qH (x::o) a m): (∃c,a=x::c/\qH o c m)\/∃c,m=x::c/\qH o a c:=by
 cases h with
 | acc _ _ c _ h=>exact .inl ⟨c,rfl,h⟩
 | rej _ _ _ c h=>exact .inr ⟨c,rfl,h⟩
theorem qH.len(h:qH o a m): a.length+m.length=o.length:=by
 induction h with
 | nil=>rfl
 | acc x o a r _ ih=>simp;omega
 | rej x o a r _ ih=>simp;omega
theorem qH.memR{r:List α}(h:qH o a r): ∀x∈r,x∈o:=by
 induction h with
 | nil=>exact λx hx=>hx
 | acc x o a r _ ih=>exact λy hy=>ZH _ (ih y hy)
 | rej x o a r _ ih=>intro y hy;rcases ZJ.1 hy with e | e;exact e▸ZG;exact ZH _ (ih y e)
end
section
variable {f:Nat->Nat->Option Bool}{α:Type}
theorem aPp(h:aB f λr=>r=true): aB (λn m=>bnd (f n m) λd=>cnd d (some true) (some false)) λr=>r=true:=
 aD h λr a=>aC (λ_=>aA rfl) λh=>by rw[show r=true from a] at h;cases h
theorem awk{P:α->Prop}{x y:Nat->Nat->Option α}(aw:aB f λr=>r=true)(h:aB x P): aB (λn m=>bnd (f n m) λd=>cnd d (x n m) (y n m)) P:=
 aD aw λr a=>aC (λ_=>h) λh=>by rw[show r=true from a] at h;cases h
theorem qH.ni{a m:List α}(h:qH [] a m): a=[]/\m=[]:=by cases h;exact⟨rfl,rfl⟩
theorem kpQ(o L:List bD)(hL:∀t∈L,Eh t)(i j:Nat)(x:bD)(hx:o[j]?=some x): aB (λn _=>cnd (decide ((i:Int)<ln L)) (bnd (idx L (i:Int)) λg=>bnd (idx o (j:Int)) λh=>bnd (oH n g h) λq=>cnd q (some true) (some false)) (some false)) λr=>r=true↔L[i]?=some x:=
 aC (λh=>by
  have hlt:i<L.length:=by have:=Zh h;unfold ln at this;omega
  exact aE (x:=L[i]) (by rw[bN];exact Za hlt) (aE (x:=x) (by rw[bN];exact hx) (aD (aWq L[i] x (hL _ (ZQ hlt))) λq hq=>aC (λk=>aA ⟨λ_=>by rw[Za hlt,hq.1 k],λ_=>rfl⟩) λk=>aA ⟨by simp,λe=>by rw[Za hlt] at e;rw[hq.2 (ZE e)] at k;cases k⟩)))
  λh=>aA ⟨by simp,λe=>absurd (Zd.1 e).1 (by have:=Zi h;unfold ln at this;omega)⟩
theorem aLN(o:bT)(r:dE)(l:List bD)(hr:∀t∈r.Txns,Eh t)(hl:∀t∈l,Eh t)(ho:o.Txns.Pairwise pL)(n1:o.Txns.length<=256)(n2:r.Txns.length<=256)(n3:l.length<=256)(i k j:Nat)(hi:i<=r.Txns.length)(hk:k<=l.length)(hp:qH (o.Txns.drop j) (r.Txns.drop i) (l.drop k)): aB (λn m=>pK kR n m (o,r,l) ((i:Int),(k:Int),(j:Int))) (Su (λ_=>False) λw=>w=((r.Txns.length:Int),(l.length:Int))):=
 bL (aC (λh=>by
  have hlt:j<o.Txns.length:=by have:=Zh h;unfold ln at this;omega
  have ed:=YM hlt
  have hx:=Za hlt
  have hd:(o.Txns.drop j).Pairwise pL:=ho.sublist (List.drop_sublist _ _)
  rw[ed] at hp hd
  obtain⟨d1,_⟩:=List.pairwise_cons.1 hd
  refine aD (f:=λn _=>Ak n (o,r,(i:Int),(j:Int))) (kpQ o.Txns r.Txns hr i j _ hx) λu hu=>aC (λc=>?_) λc=>aD (f:=λn _=>Aj n (o,l,(k:Int),(j:Int))) (kpQ o.Txns l hl k j _ hx) λv hv=>aC (λd=>?_) λd=>?_
  .obtain⟨hilt,hie⟩:=Zd.1 (hu.1 c)
   have ea:=YM hilt
   rw[hie] at ea
   rw[ea] at hp
   rw[bS (by omega),bS (by omega)]
   rcases hp.inv with⟨a,e,hp⟩ | ⟨a,e,hp⟩
   .obtain rfl:=(List.cons.inj e).2
    exact aLN o r l hr hl ho n1 n2 n3 (i+1) k (j+1) (by omega) hk hp
   .exact absurd (d1 _ (hp.mem _ ZG)) (aLF _)
  .rcases hp.inv with⟨a,e,hp⟩ | ⟨a,e,hp⟩
   .have:r.Txns[i]?=some o.Txns[j]:=by rw[<-List.head?_drop,e];rfl
    rw[hu.2 this] at c;cases c
   .obtain⟨hklt,hke⟩:=Zd.1 (hv.1 d)
    have eb:=YM hklt
    rw[eb] at e
    obtain rfl:=(List.cons.inj e).2
    rw[bS (by omega),bS (by omega)]
    exact aLN o r l hr hl ho n1 n2 n3 i (k+1) (j+1) hi (by omega) hp
  .exfalso
   rcases hp.inv with⟨a,e,hp⟩ | ⟨a,e,hp⟩
   .have:r.Txns[i]?=some o.Txns[j]:=by rw[<-List.head?_drop,e];rfl
    rw[hu.2 this] at c;cases c
   .have:l[k]?=some o.Txns[j]:=by rw[<-List.head?_drop,e];rfl
    rw[hv.2 this] at d;cases d) λh=>by
  have hge:o.Txns.length<=j:=by have:=Zi h;unfold ln at this;omega
  rw[Y8 hge] at hp
  obtain⟨e1,e2⟩:=hp.ni
  have e1:=Xu.1 e1
  have e2:=Xu.1 e2
  refine aA (show ((i:Int),(k:Int))=_ from ?_)
  rw[show i=r.Txns.length by omega,show k=l.length by omega])
termination_by o.Txns.length-j
section
variable (aw:aB (λn _=>sO n) λr=>r=true)
include aw
theorem aP7(o:bT): aB (λn _=>mU n o) λr=>r=true:=by
 refine aU (λ_=>rfl) (aD (aIZ o.Txns) λb hb=>aC (λh=>?_) λ_=>aPp aw)
 obtain⟨hl,hs⟩:=hb h
 refine aD (aP0 o hs) λc hc=>aC (λk=>?_) λk=>?_
 .rcases hc with⟨e,_⟩ | ⟨e,_,e1,e2⟩
  .rw[e] at k;simp at k
  .exact aPp (f:=λn _=>Al n (c.1,c.2.1,c.2.2)) (awk aw (aC (λ_=>aC (λ_=>aC (λ_=>aA rfl) λk=>by rw[e1] at k;simp[eR,ln] at k) λk=>by rw[e2] at k;simp[ln] at k) λk=>by rw[e] at k;simp at k))
 .rcases hc with⟨e,hk,hp,hr,ho⟩ | ⟨e,_⟩
  .have e3:=hp.len
   refine aP (aW (aLN o c.1 c.2.1 ho.t (λt ht=>hs t (hp.memR t ht)) hk.g.gl.l hk.n (by omega) (by omega) 0 0 0 (by omega) (by omega) hp)) (λ_ h=>h.elim) λf hf=>aE rfl ?_
   obtain rfl:=hf
   refine aPp (f:=λn _=>Ai n (c.1,c.2.1,_,_)) (awk aw (aC (λ_=>aC (λ_=>?_) λk=>?_) λk=>?_))
   .exact aPp ((aPy c.1 (by omega) ho.t).imp λr e=>e.2 ⟨_,hr,rfl,rfl⟩)
   .simp[ln] at k
   .simp[ln] at k
  .rw[e] at k;simp at k
end
end
theorem aMI: ∀n,sO (n+100)=some true:=by intro n;kernel_rfl
theorem aPq: aB (λn _=>sO n) λr=>r=true:=⟨true,rfl,100,λn m a _=>by
 obtain⟨k,rfl⟩:∃k,n=k+100:=⟨n-100,by omega⟩
 exact aMI k⟩
section
open Go.Proofs
theorem aK9{P:Program}{n:Nat}{t0:TypeId}{c:List AV}(h:Se P n [t0] c): ∃x0,c=[x0]/\(∃ys,An P n t0 ys/\x0=M6 P t0 ys):=
 match c,h with
 | [x0],⟨h0,_⟩=>⟨x0,rfl,h0⟩
theorem aO8: Dn.c=⟨[.v 7],[4],false,mU⟩:=by kernel_rfl
theorem aLQ(b:List AV)(h:Se PP 10 [24] b): ∃k H',fB PP T k 0 1 b []=some (.lit<|.bool true,H'):=by
 obtain⟨x0,rfl,h0⟩:=aK9 h
 let⟨a0,q0,l0⟩:=aPs (k:=7) (H:=[]) (by kernel_rfl) (by kernel_rfl) (.inl<|by kernel_rfl) h0
 let⟨r,l,n,f⟩:=aP7 aPq a0;subst l
 have i:FOK PP T 1 ⟨[.v 7],[4],false,mU⟩:=aO8▸Dn.ok
 exact aON i (n:=n) (p:=a0) (r:=true) (f n n (Zf _)<|Zf _) rfl ⟨q0,trivial⟩
theorem aCk(os:Os)(started:os.Started)(H:Type)(enc:TypeId×Value->H):
 ReturnsInHanded {} Tryz.checked os 4 .any (λw args=>(Rows.officeKeepsSpec.pre enc Tryz.prog Tryz.f4 [] false w args/\laidMetH Tryz.prog Rows.officeKeepsRow.laid w)/\sizedMet enc Tryz.prog Tryz.f4 (OpenSpec.ofChange Rows.officeKeepsSpec) false w args)
  (Rows.officeKeepsSpec.post enc Tryz.prog Tryz.f4 false true false false):=by
 refine T8 (C:=Tryz.checked) (X:=λw _=>laidMetH Tryz.prog Rows.officeKeepsRow.laid w) (λ_ _ _ hh h=>h.of_heap hh) own started (by kernel_rfl) Tryz.func4
  (ChangeSpec.witness_shaped (enc:=enc) (C:=Tryz.checked) (os:=os) (X:=λw _=>laidMetH Tryz.prog Rows.officeKeepsRow.laid w) false (World.laidAll Tryz.prog os Rows.officeKeepsRow.laid) #[.agg #[.int .i64 0,.slice none 0 0]] 8 (World.laidAll_os _ _ _)
   (World.shaped_of_ZipB (by kernel_rfl) (by kernel_rfl)) (by kernel_rfl) (by kernel_rfl) (by kernel_rfl)
   (by rw[MakeChecks.laidMetH_plain _ _ _ (by kernel_rfl)];exact laidMet_laidAll _ (by kernel_rfl) (by kernel_rfl))) ?_
 intro W base args ds gs before hval hW hlaid hsh hwt
 have hds:∃d0,ds=[d0]/\gs=[]:=by
  obtain⟨p,q,hA,hV,_⟩:=hW
  have hA':DataW.TrodAll enc Tryz.prog W 0 (λ_=>true) true [24] args.toList ds p:=by
   have:=hA
   rw[Tryz.params4] at this
   exact this
  obtain⟨v0,vs0,d0,ds0,p0,q0,_,rfl,rfl,h0,r0⟩:=ChangeShapes.trodAll_cons hA'
  obtain⟨rfl,rfl,rfl⟩:=ChangeShapes.trodAll_nil r0
  obtain⟨rfl,rfl⟩:=ChangeShapes.trodVars_none hV
  exact⟨_,rfl,rfl⟩
 obtain⟨d0,rfl,rfl⟩:=hds
 refine aCi (T:=T) (n:=10) (vi:=1) mixed checked aNV (by kernel_rfl) rfl (tb:=4) (by kernel_rfl) (by kernel_rfl) laid (by rw[Tryz.params4];intro t ht;simp at ht;subst ht;exact⟨by kernel_rfl,Zh (by kernel_rfl)⟩) (by kernel_rfl) ?_ (aMd hlaid hsh) ⟨rfl,rfl,rfl⟩ hval hW ?_
 .intro xs hxs
  rw[Tryz.params4] at hxs
  exact aLQ xs hxs
 .intro n hn
  have:=Yh.1 hwt n (by
   have e:Tryz.f4.params.toList++Rows.officeKeepsSpec.plain.varTypes Tryz.prog=Tryz.f4.params.toList:=Xw _
   show n∈DataW.weightsEach Tryz.prog (Tryz.f4.params.toList++Rows.officeKeepsSpec.plain.varTypes Tryz.prog) ([d0]++[])
   rw[e,Xw];exact hn)
  simpa using this
theorem aGq: Rows.OfficeKeepsSaid:=
 OpenClaim.holds_of_wide 4 Tryz.f4 rfl rfl rfl rfl rfl rfl rfl ⟨rfl,rfl,rfl,rfl,rfl⟩ rfl rfl rfl rfl rfl (by kernel_rfl) Tryz.func4 aJH
  (Zh (by kernel_rfl)) (by unfold Func.isWrapper;first | (rw[Zu (by decide +kernel)];kernel_rfl) | (rw[ZF (by decide +kernel)];exact⟨rfl,rfl⟩))
  (λos started H enc _=>aCk os started H enc)
theorem keeps_card: Rows.OfficeKeepsCardSaid:=
 Claim7.holds_tied_plain_at .later [] [.data] true (true,"451d81400f80a4f832c83695bab2ea4e8798ef44fb34a86d3cb7aa3e7be56805") false
  aGq (λ_ h=>by cases h) aUq (λ_ h=>by cases h) officeKeeps_row_tie rfl ⟨rfl,rfl⟩ aUr rfl
  (λf fn hf hfn=>by
   obtain rfl:f=4:=ZE (aUu.symm.trans hf) |>.symm
   obtain rfl:fn=Tryz.f4:=(ZE (Tryz.func4.symm.trans hfn)).symm
   exact⟨aUs,λj t ht=>by
    rw[Tryz.params4] at ht
    exact match j,ht with
    | 0,ht=>(by have e:24=t:=(by simpa using ht);subst e;exact aO5)
    | n+1,ht=>(by simp at ht)⟩)
  aUt
end
end Go.Proofs.YtmcgghedgfkjiaaGreatDoor.Av
