/- A part of the proof of a law. -/
import Derived.Test.YtmlgedgcbfchjaaGreatDoorP11
import Derived.Test.YtmlgedgcbfchjaaGreatDoorP8
import Derived.Test.YtmlgedgcbfchjaaGreatDoorP6
set_option maxRecDepth 100000
set_option maxHeartbeats 4000000
set_option linter.all false
namespace Go.Proofs.YtmlgedgcbfchjaaGreatDoor.Av
open Go
section
variable {i:Nat}
theorem RE{α:Type}{l:List α}{x:α}(h:l[i]?=some x): l.set i x=l:=by
 obtain⟨k,e⟩:=Ze.1 h
 subst e
 exact WG k
theorem aGc: ∀n,pU (n+100)=some true:=by intro n;kernel_rfl
theorem aBb: aB (λn _=>pU n) λr=>r=true:=⟨true,rfl,100,λn m a _=>by
 obtain⟨k,rfl⟩:∃k,n=k+100:=⟨n-100,by omega⟩
 exact aGc k⟩
theorem aRy: aB (λn _=>bnd (pU n) λf=>cnd f (some true) (some false)) λr=>r=true:=
 aE aBb λf hf=>aC (λ_=>aA rfl) λz=>by rw[show f=true from hf] at z;cases z
theorem aNX(s:aJ): aB (λn _=>Lt n s s) λr=>r=true->pL s:=
 aW (λ_=>rfl) (aE (aH2 s) λc hc=>aC (λz=>aE (aH2 s) λd hd=>aC (λ_=>aA λ_=>hc z) λ_=>aA (by simp)) λ_=>aA (by simp))
theorem aUi(s:aJ)(g:aN): aB (λn _=>sX n (s,g)) λr=>r=false->(g.Kind=3\/g.Kind=6\/g.Kind=9\/g.Kind=10)/\pL s:=by
 have F:(g.Kind=3\/g.Kind=6\/g.Kind=9\/g.Kind=10)->aB (λn _=>bnd (Lt n s s) λf=>cnd f (some false) (some true)) λr=>r=false->(g.Kind=3\/g.Kind=6\/g.Kind=9\/g.Kind=10)/\pL s:=λk=>
  aE (aNX s) λc hc=>aC (λz=>aA λ_=>⟨k,hc z⟩) λ_=>aA (by simp)
 exact aC (λ_=>aC (λ_=>aC (λ_=>aC (λ_=>aA (by simp)) λz=>F (by simp at z;omega)) λz=>F (by simp at z;omega)) λz=>F (by simp at z;omega)) λz=>F (by simp at z;omega)
theorem aVm(g:aN)(h:aCH g): aB (λn _=>Lv n g g) λr=>r=true:=
 aW (λ_=>rfl) (aE (f:=λn _=>Ng n (g,g)) (Q:=λr=>r=true) (aC (λ_=>aC (λ_=>aC (λ_=>aC (λ_=>aC (λ_=>aC (λ_=>aC (λ_=>aE (aSu g.Via (by have:=h.1;omega)) λd hd=>aC (λ_=>aE (aSw g.Parts (by have:=h.2;omega)) λe he=>aC (λ_=>aA rfl) λz=>by rw[show e=true from he] at z;cases z) λz=>by rw[show d=true from hd] at z;cases z) λz=>by simp at z) λz=>by simp at z) λz=>by simp at z) λz=>by simp at z) λz=>by simp at z) λz=>by simp at z) λz=>by simp at z) λr hr=>aC (λ_=>aA rfl) λz=>by rw[show r=true from hr] at z;cases z)
theorem aS3(l:List aN)(hl:l.length<=1000)(h:∀g∈l,aCH g)(i:Nat): aB (λn m=>mV pM n m (l,l) (i:Int)) (Su (λ_=>False) λ_=>True):=
 bF (aY (λx e c=>by
  rw[cD (i:=i) (by omega)]
  exact aI (by rw[bL];exact e) (aE (aVm x (h x (Zg e))) λr hr=>aC (λ_=>aS3 l hl h (i+1)) λz=>by rw[show r=true from hr] at z;cases z)) λ_=>aA trivial)
termination_by l.length-i
theorem aS1(l:List aN)(hl:l.length<=1000)(h:∀g∈l,aCH g): aB (λn _=>jV n l l) λr=>r=true:=
 aW (λ_=>rfl) (aC (λz=>by simp at z) λ_=>aR (bB (aS3 l hl h 0)) (λ_ h=>h.elim) λ_ _=>aI rfl (aA rfl))
theorem aS2(g:aN)(h:aCH g): aB (λn _=>jV n [g] [g]) λr=>r=true:=aS1 [g] (by simp) (by simpa using h)
theorem aUh(l:List aN)(e:Int)(hl:l=[])(he:e=0): aB (λn _=>sW n (l,e)) λr=>r=true:=
 aC (λ_=>aC (λ_=>aE aBb λf hf=>aC (λ_=>aA rfl) λz=>by rw[show f=true from hf] at z;cases z) λz=>by rw[hl] at z;cases z) λz=>by rw[he] at z;cases z
theorem aTW(p:aM): Alk p p:=⟨rfl,rfl,λi x h=>⟨x,h,rfl⟩,rfl,λi x h=>⟨x,h,rfl,rfl,rfl,rfl,rfl⟩⟩
theorem aT1(s:aJ): Fk s s:=⟨rfl,λi x h=>⟨x,h,rfl,rfl,rfl⟩⟩
theorem aCj(s:aJ)(os:pL s)(xs:SvX s): aB (λn _=>dC n s s) λr=>r=[]:=
 aLt s s os os xs xs (aT1 s) [] λh o m=>ftE s s os (aT1 s) h o m [] 0 λj x y _ hx hy=>by rw[hx] at hy;cases hy;exact⟨rfl,rfl⟩
section
variable (d:KG)(a b:aJ)(ha:OK a)(hb:OK b)
include d ha hb
theorem aHC(e:b.Plan=a.Plan)(L:List aN)(l:L.length<=1)(hf:aB (λn _=>dC n a b) λr=>r=L): aB (λn _=>cY n a b) λr=>r=(L,0):=by
 have N:=ha.v.sm
 refine aFR a b a ha hb [] L (by simp) l (by rw[e];exact aTW _) ?_ hf
 refine (aN5 b.Plan.Nodes b.Plan.Arcs b.Plan.Faces b.Features a.Plan.Nodes a.Plan.Arcs a.Plan.Faces b.Plan.Nodes (by rw[e];have:=N.n;omega) (by rw[e]) [] a.Plan.Nodes a.Plan.Arcs a.Plan.Faces a.Features 0 λj x y _ hx hy=>by rw[e,hy] at hx;cases hx;rfl).imp λr hr=>?_
 rcases r with r | r
 .exact hr.elim
 .exact⟨[],(a.Plan.Nodes,a.Plan.Arcs,a.Plan.Faces,a.Features),hr,aN4 b.Plan.Nodes b.Plan.Arcs b.Plan.Faces b.Features a.Plan.Nodes a.Plan.Arcs a.Plan.Faces b.Plan.Arcs (by rw[e];have:=N.a;omega) (by rw[e];intro x hx;have:=N.v x hx;omega) (by rw[e]) [] a.Plan.Nodes a.Plan.Arcs a.Plan.Faces a.Features 0 λj x y _ hx hy=>by rw[e,hy] at hx;cases hx;rfl⟩
theorem aOl{y:Aab}{p:Aaa}(hy:a.Plan.Nodes[i]?=some y)(e:b=⟨⟨a.Plan.Nodes.set i ⟨y.ID,p⟩,a.Plan.Arcs,a.Plan.Faces⟩,a.Features⟩)(ne:y.At≠p)(hA:aB (λn _=>dH n a ⟨3,y.ID,0,0,0,p,[],⟨#[]⟩,[]⟩) λr=>r=(b,0)): aB (λn _=>cY n a b) λr=>r=([(⟨3,y.ID,0,0,0,p,[],⟨#[]⟩,[]⟩:aN)],0):=by
 have N:=ha.v.sm
 have li:=(Ze.1 hy).1
 have bn:b.Plan.Nodes=a.Plan.Nodes.set i ⟨y.ID,p⟩:=by rw[e]
 have ba:b.Plan.Arcs=a.Plan.Arcs:=by rw[e]
 have g:∀(j:Nat) (x:Aab),b.Plan.Nodes[j]?=some x->(j=i/\x=⟨y.ID,p⟩)\/(j≠i/\a.Plan.Nodes[j]?=some x):=λj x h=>by
  rw[bn,Z5] at h
  split at h
  .rename_i q
   subst q
   first | rw[Zu li] at h | skip
   cases h
   exact .inl ⟨rfl,rfl⟩
  .rename_i q
   exact .inr ⟨λz=>q z.symm,h⟩
 have gi:b.Plan.Nodes[i]?=some ⟨y.ID,p⟩:=by rw[bn,Z3 li]
 refine aFR a b b ha hb [⟨3,y.ID,0,0,0,p,[],⟨#[]⟩,[]⟩] [] (by simp) (by simp) ⟨by rw[e],by rw[bn,Yr],λj x hx=>?_,by rw[ba],λj x hx=>⟨x,by rw[ba];exact hx,rfl,rfl,rfl,rfl,rfl⟩⟩ ?_ (aCj b hb.ok (hb.x d))
 .rcases Classical.em (j=i) with q | q
  .subst q
   rw[hy] at hx
   cases hx
   exact⟨_,gi,rfl⟩
  .exact⟨x,by rw[bn,Zv (λz=>q z.symm)];exact hx,rfl⟩
 .refine (aTg b.Plan.Nodes b.Plan.Arcs b.Plan.Faces b.Features a.Plan.Nodes a.Plan.Arcs a.Plan.Faces b.Plan.Nodes (by rw[bn,Yr];have:=N.n;omega) (by rw[bn,Yr]) (s:=a) (t:=b) gi hy (λz=>ne z.symm) (λj x z hj hx hz=>?_) hA 0 (by omega)).imp λr hr=>?_
  .rcases g j x hx with q | q
   .exact absurd q.1 hj
   .rw[q.2] at hz;cases hz;rfl
  .rcases r with r | r
   .exact hr.elim
   .exact⟨_,(b.Plan.Nodes,b.Plan.Arcs,b.Plan.Faces,b.Features),hr,aN4 b.Plan.Nodes b.Plan.Arcs b.Plan.Faces b.Features a.Plan.Nodes a.Plan.Arcs a.Plan.Faces b.Plan.Arcs (by rw[ba];have:=N.a;omega) (by rw[ba];intro x hx;have:=N.v x hx;omega) (by rw[ba]) _ b.Plan.Nodes b.Plan.Arcs b.Plan.Faces b.Features 0 λj x y _ hx hy=>by rw[ba,hy] at hx;cases hx;rfl⟩
theorem aOm{y:aP}{v:List Aaa}(hy:a.Plan.Arcs[i]?=some y)(hv:v.length<=1000)(e:b=⟨⟨a.Plan.Nodes,a.Plan.Arcs.set i ⟨y.ID,y.From,y.To,v,y.Left,y.Right⟩,a.Plan.Faces⟩,a.Features⟩)(ne:y.Via≠v)(hA:aB (λn _=>dH n a ⟨6,y.ID,0,0,0,⟨0,0⟩,v,⟨#[]⟩,[]⟩) λr=>r=(b,0)): aB (λn _=>cY n a b) λr=>r=([(⟨6,y.ID,0,0,0,⟨0,0⟩,v,⟨#[]⟩,[]⟩:aN)],0):=by
 have N:=ha.v.sm
 have li:=(Ze.1 hy).1
 have bn:b.Plan.Arcs=a.Plan.Arcs.set i ⟨y.ID,y.From,y.To,v,y.Left,y.Right⟩:=by rw[e]
 have ba:b.Plan.Nodes=a.Plan.Nodes:=by rw[e]
 have g:∀(j:Nat) (x:aP),b.Plan.Arcs[j]?=some x->(j=i/\x=⟨y.ID,y.From,y.To,v,y.Left,y.Right⟩)\/(j≠i/\a.Plan.Arcs[j]?=some x):=λj x h=>by
  rw[bn,Z5] at h
  split at h
  .rename_i q
   subst q
   first | rw[Zu li] at h | skip
   cases h
   exact .inl ⟨rfl,rfl⟩
  .rename_i q
   exact .inr ⟨λz=>q z.symm,h⟩
 have gi:b.Plan.Arcs[i]?=some ⟨y.ID,y.From,y.To,v,y.Left,y.Right⟩:=by rw[bn,Z3 li]
 refine aFR a b b ha hb [⟨6,y.ID,0,0,0,⟨0,0⟩,v,⟨#[]⟩,[]⟩] [] (by simp) (by simp) ⟨by rw[e],by rw[ba],λj x hx=>⟨x,by rw[ba];exact hx,rfl⟩,by rw[bn,Yr],λj x hx=>?_⟩ ?_ (aCj b hb.ok (hb.x d))
 .rcases Classical.em (j=i) with q | q
  .subst q
   rw[hy] at hx
   cases hx
   exact⟨_,gi,rfl,rfl,rfl,rfl,rfl⟩
  .exact⟨x,by rw[bn,Zv (λz=>q z.symm)];exact hx,rfl,rfl,rfl,rfl,rfl⟩
 .refine (aN5 b.Plan.Nodes b.Plan.Arcs b.Plan.Faces b.Features a.Plan.Nodes a.Plan.Arcs a.Plan.Faces b.Plan.Nodes (by rw[ba];have:=N.n;omega) (by rw[ba]) [] a.Plan.Nodes a.Plan.Arcs a.Plan.Faces a.Features 0 λj x y _ hx hy=>by rw[ba,hy] at hx;cases hx;rfl).imp λr hr=>?_
  rcases r with r | r
  .exact hr.elim
  .refine⟨[],(a.Plan.Nodes,a.Plan.Arcs,a.Plan.Faces,a.Features),hr,aTf b.Plan.Nodes b.Plan.Arcs b.Plan.Faces b.Features a.Plan.Nodes a.Plan.Arcs a.Plan.Faces b.Plan.Arcs (by rw[bn,Yr];have:=N.a;omega) (λx hx=>?_) (by rw[bn,Yr]) (s:=a) (t:=b) gi hy (λz=>ne z.symm) (λj x z hj hx hz=>?_) hA 0 (by omega)⟩
   .obtain⟨j,hj⟩:=Yi.1 hx
    rcases g j x hj with q | q
    .rw[q.2];exact hv
    .have:=N.v x (Zg q.2);omega
   .rcases g j x hx with q | q
    .exact absurd q.1 hj
    .rw[q.2] at hz;cases hz;rfl
theorem aHD{x y:aD}{X:aN}(hx:a.Features[i]?=some x)(e:b=⟨a.Plan,a.Features.set i y⟩)(h1:x.ID=y.ID)(h2:x.Kind=y.Kind)(h3:x.Parts=y.Parts)(ne:(x.Name≠y.Name/\x.Class=y.Class/\X=⟨9,y.ID,0,0,0,⟨0,0⟩,[],y.Name,[]⟩)\/(x.Name=y.Name/\x.Class≠y.Class/\X=⟨10,y.ID,0,y.Class,0,⟨0,0⟩,[],⟨#[]⟩,[]⟩)): aB (λn _=>cY n a b) λr=>r=([X],0):=by
 have li:=(Ze.1 hx).1
 have bf:b.Features=a.Features.set i y:=by rw[e]
 have gi:b.Features[i]?=some y:=by rw[bf,Z3 li]
 have gn:∀j,j≠i->b.Features[j]?=a.Features[j]?:=λj q=>by rw[bf,Zv (λz=>q z.symm)]
 have K:Fk a b:=⟨by rw[bf,Yr],λj z hz=>by
  rcases Classical.em (j=i) with q | q
  .subst q
   rw[hx] at hz
   cases hz
   exact⟨y,gi,h1,h2,h3⟩
  .exact⟨z,by rw[gn j q];exact hz,rfl,rfl,rfl⟩⟩
 exact aHC d a b ha hb (by rw[e]) [X] (by simp) (aLt a b ha.ok hb.ok (ha.x d) (hb.x d) K [X] λh o m=>ftO a b hb.ok K h o m hx gi X ne (λj u w hj hu hw=>by
  rw[gn j hj,hu] at hw
  cases hw
  exact⟨rfl,rfl⟩) 0 (by omega))
end
theorem aOk(d:KG)(a:aJ)(ha:OK a): aB (λn _=>cY n a a) λr=>r=([],0):=aHC d a a ha ha rfl [] (by simp) (aCj a ha.ok (ha.x d))
theorem aOj(d:KG)(a b:aJ)(g:aN)(ok:aCH g)(cl:aOG g)(ha:OK a)(hb:OK b)(f:Frm a g b)(hA:aB (λn _=>dH n a g) λr=>r=(b,0)): (b=a/\aB (λn _=>cY n a b) λr=>r=([],0))\/(¬(a.Plan.Nodes=b.Plan.Nodes/\a.Plan.Arcs=b.Plan.Arcs/\a.Features=b.Features)/\aB (λn _=>cY n a b) λr=>r=([g],0)):=by
 have same:b=a->(b=a/\aB (λn _=>cY n a b) λr=>r=([],0)):=λe=>⟨e,by rw[e];exact aOk d a ha⟩
 rcases f with⟨k,i,y,hy,hid,e⟩ | ⟨k,i,y,hy,hid,e⟩ | ⟨k,i,y,hy,hid,e⟩
 .have li:=(Ze.1 hy).1
  have g0:=cl.1 k
  rcases Classical.em (y.At=g.At) with q | q
  .refine .inl (same ?_)
   rw[e,<-q,RE hy]
  .refine .inr ⟨λz=>?_,?_⟩
   .have z1:=z.1
    have:b.Plan.Nodes[i]?=some ⟨y.ID,g.At⟩:=by rw[e];exact Z3 li
    rw[<-z1,hy] at this
    exact q (congrArg Aab.At (ZR this))
   .rw[g0] at hA |-
    rw[<-hid] at hA |-
    exact aOl d a b ha hb hy e q hA
 .have li:=(Ze.1 hy).1
  have g0:=cl.2.1 k
  rcases Classical.em (y.Via=g.Via) with q | q
  .refine .inl (same ?_)
   rw[e,<-q,RE hy]
  .refine .inr ⟨λz=>?_,?_⟩
   .have z1:=z.2.1
    have:b.Plan.Arcs[i]?=some ⟨y.ID,y.From,y.To,g.Via,y.Left,y.Right⟩:=by rw[e];exact Z3 li
    rw[<-z1,hy] at this
    exact q (congrArg aP.Via (ZR this))
   .rw[g0] at hA |-
    rw[<-hid] at hA |-
    exact aOm d a b ha hb hy (by have:=ok.1;omega) e q hA
 .have li:=(Ze.1 hy).1
  rcases Classical.em (Cg g y=y) with q | q
  .refine .inl (same ?_)
   rw[e,q,RE hy]
  .refine .inr ⟨λz=>?_,?_⟩
   .have z1:=z.2.2
    have:b.Features[i]?=some (Cg g y):=by rw[e];exact Z3 li
    rw[<-z1,hy] at this
    exact q (ZR this).symm
   .rcases k with k | k
    .have c:Cg g y=⟨y.ID,y.Kind,y.Class,g.Name,y.Parts⟩:=by unfold Cg;rw[Zu k]
     refine aHD d a b ha hb hy e (by rw[c]) (by rw[c]) (by rw[c]) (.inl ⟨λz=>q ?_,by rw[c],?_⟩)
     .rw[c] at z |-
      simp only at z
      rw[<-z]
     .rw[c]
      have g0:=cl.2.2.1 k
      rw[<-hid] at g0
      exact g0
    .have c:Cg g y=⟨y.ID,y.Kind,g.B,y.Name,y.Parts⟩:=by unfold Cg;rw[ZF (by omega)]
     refine aHD d a b ha hb hy e (by rw[c]) (by rw[c]) (by rw[c]) (.inr ⟨by rw[c],λz=>q ?_,?_⟩)
     .rw[c] at z |-
      simp only at z
      rw[<-z]
     .rw[c]
      have g0:=cl.2.2.2 k
      rw[<-hid] at g0
      exact g0
theorem aMg(d:KG)(t:aMe)(a:aJ)(g:aN): aB (λn _=>iC n a g) λr=>r=true:=by
 refine aW (λ_=>rfl) (aE (aUi a g) λc hc=>aC (λ_=>aRy) λz=>?_)
 obtain⟨k,o⟩:=hc z
 obtain⟨r,hr,A⟩:=(aLV d t a o g k).val
 obtain⟨b,e⟩:=r
 refine aE A λr h=>?_
 have h:r=(b,e):=h
 subst h
 refine aC (λ_=>aRy) λz=>?_
 have e0:e=0:=by simpa using z
 subst e0
 obtain⟨ok,cl,ha,hb,f⟩:=hr rfl
 rcases aOj d a b g ok cl ha hb f A with⟨rfl,D⟩ | ⟨ne,D⟩
 .refine aE D λr h=>?_
  obtain⟨L,e2⟩:=r
  have h:(L,e2)=([],0):=h
  have h1:L=[]:=congrArg Prod.fst h
  have h2:e2=0:=congrArg Prod.snd h
  exact aE (aQa b ha.ok) λw hw=>aC (λ_=>aE (aUh L e2 h1 h2) λr hr=>aC (λ_=>aA rfl) λz=>by rw[show r=true from hr] at z;cases z) λz=>by rw[show w=true from hw] at z;cases z
 .refine aE D λr h=>?_
  obtain⟨L,e2⟩:=r
  have h:(L,e2)=([g],0):=h
  have h1:L=[g]:=congrArg Prod.fst h
  have h2:e2=0:=congrArg Prod.snd h
  subst h1
  exact aE (aPZ a b ha.ok) λw hw=>aC (λz=>absurd (hw z) ne) λ_=>aC (λ_=>aE (aS2 g ok) λl hl=>aC (λ_=>aRy) λz=>by rw[show l=true from hl] at z;cases z) λz=>by rw[h2] at z;cases z
end
structure ArO(l:List dS)(b c:Nat): Prop where
 al:∀a∈l,a.alone.length<=c
 l1:1<=l.length
 l2:l.length<=200000
 ou:∀a∈l,a.outer.length<=800000
 inn:∀a∈l,a.inner.length<=b/\∀c∈a.inner,c.length<=800000
 ne:∀(i:Nat) (a:dS),1<=i->l[i]?=some a->a.outer≠[]
theorem aLA(p:aM)(w:Sm p)(B:Nat): ∀(cs:List<|List Int) (l:List dS) (q:List<|List Int),ArO l 0 0->l.length+cs.length<=200000->(∀c∈cs,c.length<=800000/\∃d t,c=d::t/\fZ p d)->(∀c∈q,c.length<=800000/\∃d t,c=d::t/\fZ p d)->
 (∀a∈l,a.inner=[]/\a.outer.length+q.flatten.length+cs.flatten.length<=B)->q.flatten.length+cs.flatten.length<=B->
 aB (λn _=>dv1 n p cs l q) λr=>ArO r.1 0 0/\r.2.length<=q.length+cs.length/\(∀c∈r.2,c.length<=800000/\∃d t,c=d::t/\fZ p d)/\∀a∈r.1,a.inner=[]/\a.outer.length+r.2.flatten.length<=B
 | [],l,q,f,_,_,s,j,_=>aA (x:=(l,q)) ⟨f,by simp,s,λa b=>⟨(j a b).1,by have:=(j a b).2;simpa using this⟩⟩
 | c::cs,l,q,f,A,y,s,j,C=>by
  have u:=y c<|ZM ..;have m:∀c∈cs,c.length<=800000/\∃d t,c=d::t/\fZ p d:=λc h=>y c<|ZQ _ h;simp only[Yc] at A;simp only[Yt,Zh] at j C;let⟨o,d,D,k,v⟩:=u;refine aE (aIZ p w c) λt _=>aC (λ_=>?_) λ_=>?_
  .refine aB.imp (aLA p w B cs (l++[⟨t,c,[],[]⟩]) q ⟨?_,by simp,by simp;omega,?_,?_,?_⟩ (by simp;omega) m s ?_<|by omega) ?_
   .intro a b;rcases ZD.1 b with b | b
    .exact f.al a b
    .rw[ZJ.1 b];exact Zf _
   .intro a b;rcases ZD.1 b with b | b
    .exact f.ou a b
    .rw[ZJ.1 b];exact o
   .intro a b;rcases ZD.1 b with b | b
    .exact f.inn a b
    .rw[ZJ.1 b];exact⟨Zf _,λc h=>by cases h⟩
   .intro i a z b;rcases ZI i l.length with h | h
    .rw[Zo h] at b;exact f.ne i a z b
    .rw[ZX h] at b;have:a=⟨t,c,[],[]⟩:=by
      have:=Zg b;exact ZJ.1 this
     rw[this,k];simp
   .intro a b;rcases ZD.1 b with b | b
    .have:=j a b;exact⟨this.1,by omega⟩
    .rw[ZJ.1 b];exact⟨rfl,by show c.length+_+_<=B;omega⟩
   .intro r g;exact⟨g.1,by have:=g.2.1;simp only[Yc];omega,g.2.2⟩
  .refine aB.imp (aLA p w B cs l (q++[c]) f (by omega) m ?_ ?_ ?_) ?_
   .intro e he;rcases ZD.1 he with he | he
    .exact s e he
    .rw[ZJ.1 he];exact⟨o,d,D,k,v⟩
   .intro a b;have:=j a b;exact⟨this.1,by simp only[Xw,Zh,Yt,Xd,Z1];omega⟩
   .simp only[Xw,Zh,Yt,Xd,Z1];omega
   .intro r g;exact⟨g.1,by have:=g.2.1;simp only[Yc,Zh,Z1] at this |-;omega,g.2.2⟩
theorem aHM{l:List dS}{b c:Nat}(h:ArO l b c): ∀x∈l.map arV,x.outer.length<=800000:=by
 intro x d;obtain⟨a,e,rfl⟩:=Yh.1 d;exact h.ou a e
theorem aDe{α:Type}{l:List α}{i:Nat}{a' x:α}(a:x∈l.set i a'): x=a'\/x∈l:=(YL a).symm
theorem ArO.set{l:List dS}{b b' c c':Nat}{i:Nat}{a a':dS}(h:ArO l b c)(m:l[i]?=some a)(g:a'.outer=a.outer)(n:b<=b')(p:a'.inner.length<=b'/\∀c∈a'.inner,c.length<=800000)(o:c<=c')(f:a'.alone.length<=c'): ArO (l.set i a') b' c':=by
 refine⟨?_,by rw[Yr];exact h.l1,by rw[Yr];exact h.l2,?_,?_,?_⟩
 .intro x d;rcases aDe d with rfl | d
  .exact f
  .exact ZB (h.al x d) o
 .intro x d;rcases aDe d with rfl | d
  .rw[g];exact h.ou a<|Zg m
  .exact h.ou x d
 .intro x d;rcases aDe d with rfl | d
  .exact p
  .exact⟨ZB (h.inn x d).1 n,(h.inn x d).2⟩
 .intro j x k d;rw[Z5] at d;split at d
  .rename_i e;subst e;split at d
   .cases d;rw[g];exact h.ne i a k m
   .cases d
  .exact h.ne j x k d
theorem aPw(p:aM)(F:Sm p)(y:tH p)(m:List<|Int×List Aaa)(o:OW p m)(B:Nat): ∀(cs:List<|List Int) (l:List dS) (b:Nat),ArO l b 0->(∀c∈cs,c.length<=800000/\∃d t,c=d::t/\fZ p d)->(∀a∈l,a.outer.length+a.inner.flatten.length+cs.flatten.length<=B)->
 aB (λn _=>dv2 n m cs l) λr=>ArO r (b+cs.length) 0/\∀a∈r,a.outer.length+a.inner.flatten.length<=B
 | [],l,b,g,_,j=>aA ⟨g,λa k=>by have:=j a k;simpa using this⟩
 | c::cs,l,b,g,u,j=>by
  obtain⟨q,d,z,rfl,a,k,I⟩:=u c<|ZM ..;have E:=y.nuA a k;have G:uF d (wr<|0-d)=a.ID:=by
   rw[wr,i64_in _<|by omega];unfold uF;split<;>omega
  let⟨w,A,C⟩:=o.has a k;refine aI (x:=d) rfl<|aI (x:=w[0]'(by omega)) (by rw[G,A];show idx w ((0:Nat):Int)=_;rw[bL];exact Zb<|by omega)<|aE (aHz m o.len (l.map arV) (aHM g) (by simp;have:=g.l2;omega) (by simp;have:=g.l1;omega) _) λi v=>?_;have f:i.toNat<l.length:=by simpa using v.2
  refine aI (Gd v.1 f) ?_;simp only[Yt,Zh,Yc] at j;have H:=aPw p F y m o B cs (l.set i.toNat ⟨l[i.toNat].twice,l[i.toNat].outer,l[i.toNat].inner++[d::z],l[i.toNat].alone⟩) (b+1) (g.set (Zb f) rfl (by omega) (by
   have:=g.inn _<|ZP f;refine⟨by simp;omega,λc e=>?_⟩;rcases ZD.1 e with e | e
   .exact this.2 c e
   .rw[ZJ.1 e];exact q) (Zf _)<|g.al l[i.toNat]<|ZP f) (λc h=>u c<|ZQ _ h) (λx s=>by
    rcases aDe s with rfl | s
    .have:=j _<|ZP f;simp only[Xw,Zh,Yt,Xd,Z1,Yc];omega
    .have:=j x s;omega)
  refine H.imp λr D=>?_;have:b+((d::z)::cs).length=b+1+cs.length:=by simp;omega
  rw[this];exact D
theorem aL9(p:aM)(k:Sm p)(m:List<|Int×List Aaa)(q:OW p m)(b B:Nat): ∀(h:List Aab) (l:List dS) (c:Nat),ArO l b c->(∀a∈l,a.outer.length+a.inner.flatten.length<=B)->aB (λn _=>dv3 n p m h l) λr=>ArO r b (c+h.length)/\∀a∈r,a.outer.length+a.inner.flatten.length<=B
 | [],l,c,f,j=>aA ⟨f,j⟩
 | x::h,l,c,f,j=>by
  have e:c+(x::h).length=c+1+h.length:=by simp;omega
  rw[e];refine aE (aJh p k x.ID) λd _=>aC (λ_=>aE (aHz m q.len (l.map arV) (aHM f) (by simp;have:=f.l2;omega) (by simp;have:=f.l1;omega) _) λi s=>?_) λ_=>aL9 p k m q b B h l (c+1) ⟨λa t=>Xl<|f.al a t,f.l1,f.l2,f.ou,f.inn,f.ne⟩ j;have g:i.toNat<l.length:=by simpa using s.2
  exact aI (Gd s.1 g) (aL9 p k m q b B h _ (c+1) (f.set (Zb g) rfl (Zf _) (f.inn l[i.toNat]<|ZP g) (Ys _)<|by have:=f.al l[i.toNat]<|ZP g;simp;omega) λx o=>by
   rcases aDe o with rfl | o
   .exact j l[i.toNat]<|ZP g
   .exact j x o)
theorem aMd{α:Type}{P:α->Prop}{c:Nat->Bool}{g:Nat->Nat->Option α}(K:Nat)(b:∀n,K<=n->c n=true)(h:aB g P): aB (λn m=>Av.bnd (Nq<|c n) λ_=>g n m) P:=by
 let⟨r,a,J,d⟩:=h;refine⟨r,a,max K J,λn m f i=>?_⟩;show Av.bnd (Nq<|c n) (λ_=>g n m)=some r;rw[b n<|by omega];exact d n m (by omega)<|by omega
theorem aTI: KG:=by
 intro p cs m g t j o;have v:=g.n;have u:=j.1;refine aW (λ_=>rfl)<|aMd (c:=λn=>decide<|cs.length<n/\p.Nodes.length<n/\cs.length<=190000/\p.Nodes.length<=9000) 200000 (λn h=>Yj<|by omega) ?_;refine aE (aLA p g 400000 cs [⟨0,[],[],[]⟩] [] ⟨by simp,by simp,by simp,by simp,by simp,?_⟩ (by simp;omega) j.2.2 (by simp) (by simpa using j.2.1)<|by simpa using j.2.1) λq f=>aE (aPw p g t m o 400000 q.2 q.1 0 f.1 f.2.2.1 λa d=>by rw[(f.2.2.2 a d).1];have:=(f.2.2.2 a d).2;simpa using this) λl b=>?_
 .intro i a w d;have:=(Ze.1 d).1;simp at this;omega
 .have k:=f.2.1;simp only[Z1,Z0] at k;let⟨b,s⟩:=b;refine aB.imp (aL9 p g m o 200000 400000 p.Nodes l 0 ⟨b.al,b.l1,b.l2,b.ou,λa d=>⟨by have:=(b.inn a d).1;omega,(b.inn a d).2⟩,b.ne⟩ s) λr e=>⟨λa d=>by have:=e.1.al a d;omega,e.2,e.1.l1,e.1.l2,e.1.ou,e.1.inn,e.1.ne⟩
theorem aHt(g:eR)(l:List Int)(b:l.length<=300)(i:Nat)(m:List (Int×Int)): Tt (λn k=>Ob wM n k (g,l,ln l) (m,(i:Int))):=
 eD (aY (λx d a=>by
  rw[cD (by omega)];exact aHt g l b (i+1) _)
  (λc=>aA trivial))
termination_by l.length-i
theorem aHu(l:List eR)(d:l.length<=200000)(a:∀x∈l,x.Alone.length<=300)(i:Nat)(m:List (Int×Int)): Tt (λn k=>Ob wN n k (l,ln l) (m,(i:Int))):=
 eD (aY (λx c b=>by
  rw[cD (by omega)];exact aE (bB (aHt x x.Alone (a x (Zg c)) 0 m)) λ_ _=>aHu l d a (i+1) _)
  (λe=>aA trivial))
termination_by l.length-i
theorem aHs(p:aM)(c:Sm p): Tt (λn _=>pF n p):=by
 obtain⟨v,e,_,a,_⟩:=aBf aTI p c;exact aW (λ_=>rfl) (aE e λw b=>by
  subst b;exact aE (bB (aHu w.1 a.1 (λx d=>(a.2 x d).2.2) 0 [])) λ_ _=>aA trivial)
theorem aVh: aMe:=λp q x b a=>aW (λ_=>rfl) (aE (aHs p b) λ_ _=>aE (aHs q a) λ_ _=>aA trivial)
section
open Go.Proofs
theorem aJG{P:Program}{n:Nat}{t0 t1:TypeId}{c:List AV}(h:Vo P n [t0,t1] c): ∃x0 x1,c=[x0,x1]/\(∃ys,yB P n t0 ys/\x0=c7 P t0 ys)/\(∃ys,yB P n t1 ys/\x1=c7 P t1 ys):=
 match c,h with
 | [x0,x1],⟨h0,h1,_⟩=>⟨x0,x1,rfl,h0,h1⟩
theorem aJD: tG.c=⟨[.v 7,.v 33],[5],false,λn p=>iC n p.1 p.2⟩:=by kernel_rfl
theorem aIh(b:List AV)(h:Vo PP 10 [29,34] b): ∃k H',fH PP T k 0 0 b []=some (.lit<|.bool true,H'):=by
 obtain⟨x0,x1,rfl,h0,h1⟩:=aJG h
 let⟨a0,q0,l0⟩:=aHL (k:=7) (H:=[]) (by kernel_rfl) (by kernel_rfl) (.inl<|by kernel_rfl) h0
 let⟨a1,q1,l1⟩:=aHL (k:=33) (H:=[]) (by kernel_rfl) (by kernel_rfl) (.inl<|by kernel_rfl) h1
 let⟨r,l,n,f⟩:=aMg aTI aVh a0 a1;subst l
 have i:FOK PP T 0 ⟨[.v 7,.v 33],[5],false,λn p=>iC n p.1 p.2⟩:=aJD▸tG.ok
 exact aOd i (n:=n) (p:=(a0,a1)) (r:=true) (f n n (Zf _)<|Zf _) rfl ⟨q0,q1,trivial⟩
theorem R7(os:Os)(started:os.Started)(H:Type)(enc:TypeId×Value->H):
 ReturnsInHanded {} Tryz.checked os 3 .any (λw args=>(Rows.changesetSingleSpec.pre enc Tryz.prog Tryz.f3 [] false w args/\laidMetH Tryz.prog Rows.changesetSingleRow.laid w)/\sizedMet enc Tryz.prog Tryz.f3 (OpenSpec.ofChange Rows.changesetSingleSpec) false w args)
  (Rows.changesetSingleSpec.post enc Tryz.prog Tryz.f3 false true false false):=by
 refine U0 (C:=Tryz.checked) (X:=λw _=>laidMetH Tryz.prog Rows.changesetSingleRow.laid w) (λ_ _ _ hh h=>h.of_heap hh) own started (by kernel_rfl) Tryz.func3
  (ChangeSpec.witness_shaped (enc:=enc) (C:=Tryz.checked) (os:=os) (X:=λw _=>laidMetH Tryz.prog Rows.changesetSingleRow.laid w) false (World.laidAll Tryz.prog os Rows.changesetSingleRow.laid) #[.agg #[.slice none 0 0,.slice none 0 0,.slice none 0 0,.slice none 0 0],.agg #[.int .i64 0,.int .i64 0,.int .i64 0,.int .i64 0,.int .i64 0,.int .i64 0,.int .i64 0,.slice none 0 0,.string ⟨#[]⟩,.slice none 0 0]] 8 (World.laidAll_os _ _ _)
   (World.shaped_of_ZipB (by kernel_rfl) (by kernel_rfl)) (by kernel_rfl) (by kernel_rfl) (by kernel_rfl)
   (by rw[MakeChecks.laidMetH_plain _ _ _ (by kernel_rfl)];exact laidMet_laidAll _ (by kernel_rfl) (by kernel_rfl))) ?_
 intro W base args ds gs before hval hW hlaid hsh hwt
 have hds:∃d0 d1,ds=[d0,d1]/\gs=[]:=by
  obtain⟨p,q,hA,hV,_⟩:=hW
  have hA':DataW.TrodAll enc Tryz.prog W 0 (λ_=>true) true [29,34] args.toList ds p:=by
   have:=hA
   rw[Tryz.params3] at this
   exact this
  obtain⟨v0,vs0,d0,ds0,p0,q0,_,rfl,rfl,h0,r0⟩:=ChangeShapes.trodAll_cons hA'
  obtain⟨v1,vs1,d1,ds1,p1,q1,_,rfl,rfl,h1,r1⟩:=ChangeShapes.trodAll_cons r0
  obtain⟨rfl,rfl,rfl⟩:=ChangeShapes.trodAll_nil r1
  obtain⟨rfl,rfl⟩:=ChangeShapes.trodVars_none hV
  exact⟨_,_,rfl,rfl⟩
 obtain⟨d0,d1,rfl,rfl⟩:=hds
 refine aBR (T:=T) (n:=10) (vi:=0) mixed checked aNe (by kernel_rfl) rfl (tb:=4) (by kernel_rfl) (by kernel_rfl) laid (by rw[Tryz.params3];intro t ht;simp at ht;rcases ht with rfl | rfl<;>exact⟨by kernel_rfl,Zl (by kernel_rfl)⟩) (by kernel_rfl) ?_ (aLl hlaid hsh) ⟨rfl,rfl,rfl⟩ hval hW ?_
 .intro xs hxs
  rw[Tryz.params3] at hxs
  exact aIh xs hxs
 .intro n hn
  have:=Yl.1 hwt n (by
   have e:Tryz.f3.params.toList++Rows.changesetSingleSpec.plain.varTypes Tryz.prog=Tryz.f3.params.toList:=Wo _
   show n∈DataW.weightsEach Tryz.prog (Tryz.f3.params.toList++Rows.changesetSingleSpec.plain.varTypes Tryz.prog) ([d0,d1]++[])
   rw[e,Wo];exact hn)
  simpa using this
theorem aDd: Rows.ChangesetSingleSaid:=
 OpenClaim.holds_of_wide 3 Tryz.f3 rfl rfl rfl rfl rfl rfl rfl ⟨rfl,rfl,rfl,rfl,rfl⟩ rfl rfl rfl rfl rfl (by kernel_rfl) Tryz.func3 aIO
  (Zl (by kernel_rfl)) (by unfold Func.isWrapper;first | (rw[Zu (by decide +kernel)];kernel_rfl) | (rw[ZF (by decide +kernel)];exact⟨rfl,rfl⟩))
  (λos started H enc _=>R7 os started H enc)
theorem single_card: Rows.ChangesetSingleCardSaid:=
 Claim7.holds_tied_plain_at .later [] [.data] true (true,"8ded7b73e8ce7513124d450069fa2681492d4b9f9d8f53802c389207cfad793a") false
  aDd (λ_ h=>by cases h) aTm (λ_ h=>by cases h) changesetSingle_row_tie rfl ⟨rfl,rfl⟩ aTn rfl
  (λf fn hf hfn=>by
   obtain rfl:f=3:=ZR (aTq.symm.trans hf) |>.symm
   obtain rfl:fn=Tryz.f3:=(ZR (Tryz.func3.symm.trans hfn)).symm
   exact⟨aTo,λj t ht=>by
    rw[Tryz.params3] at ht
    exact match j,ht with
    | 0,ht=>(by have e:29=t:=(by simpa using ht);subst e;exact aNK)
    | 1,ht=>(by have e:34=t:=(by simpa using ht);subst e;exact aNJ)
    | n+2,ht=>(by simp at ht)⟩)
  aTp
end
end Go.Proofs.YtmlgedgcbfchjaaGreatDoor.Av
