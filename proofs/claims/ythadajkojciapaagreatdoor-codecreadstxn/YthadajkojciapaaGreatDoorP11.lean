/- A part of the proof of a law. -/
import Derived.Test.YthadajkojciapaaGreatDoorP10
import Derived.Test.YthadajkojciapaaGreatDoorP8
import Derived.KernelRfl
import Derived.Test.YthadajkojciapaaGreatDoorP9
import Derived.Test.YthadajkojciapaaGreatDoorP0
set_option maxRecDepth 100000
set_option maxHeartbeats 4000000
set_option linter.all false
namespace Go.Proofs.YthadajkojciapaaGreatDoor.Av
open Go
section
open Go.IntWalk
def R5(vs:List Int)(v:List Aaa)(s:ByteArray)(q:List Int): aP:=⟨vs.getD 0 0,vs.getD 1 0,vs.getD 2 0,vs.getD 3 0,vs.getD 4 0,⟨vs.getD 5 0,vs.getD 6 0⟩,v,s,q⟩
def q4(l:List Int): PR (((List Int×List Aaa)×ByteArray)×List Int):=pB (pB (pB (nF 7 l) λb r=>pB (qC r) λa r=>.inr ((b,a),r)) λb r=>pB (qB r) λa r=>.inr ((b,a),r)) λb r=>pB (wL r) λa r=>.inr ((b,a),r)
theorem c9(l:List Int): nG l=pB (q4 l) λy r=>.inr (R5 y.1.1.1 y.1.1.2 y.1.2 y.2,r):=by
 unfold nG q4 TI
 simp only[nF]
 cases jH l with
 | inl e=>rfl
 | inr p1=>
 dsimp only[pB]
 cases jH p1.2 with
 | inl e=>rfl
 | inr p2=>
 dsimp only
 cases jH p2.2 with
 | inl e=>rfl
 | inr p3=>
 dsimp only
 cases jH p3.2 with
 | inl e=>rfl
 | inr p4=>
 dsimp only
 cases jH p4.2 with
 | inl e=>rfl
 | inr p5=>
 dsimp only
 cases jH p5.2 with
 | inl e=>rfl
 | inr p6=>
 dsimp only
 cases jH p6.2 with
 | inl e=>rfl
 | inr p7=>
 dsimp only
 cases qC p7.2 with
 | inl e=>rfl
 | inr p8=>
 dsimp only
 cases qB p8.2 with
 | inl e=>rfl
 | inr p9=>
 dsimp only
 cases wL p9.2 with
 | inl e=>rfl
 | inr p10=>rfl
theorem aA6{l:List Int}(h:l.length=7): ∃a b c d e f g,l=[a,b,c,d,e,f,g]:=by
 match l,h with
 | [a,b,c,d,e,f,g],_=>exact⟨a,b,c,d,e,f,g,rfl⟩
theorem F8{l:List Int}(h:l.length=3): ∃a b c,l=[a,b,c]:=by
 match l,h with
 | [a,b,c],_=>exact⟨a,b,c,rfl⟩
theorem Z8(a b c:Int)(s:ByteArray)(v:Int)(d:aO)(f:List aP)(g:Int)(h:d.e≠0): aD (λn m=>Qj iT n m (a,b,c,s,v) (d,f,g)) λz=>z=(d,f):=iC (aD.e (Uu d v g) (aE (λq=>by simp at q;exact (h q.2).elim) λ_=>aC rfl))
theorem aBZ(a b c:Int)(s:ByteArray)(v:Int): ∀(k:Nat) (l:List Int) (f:List aP) (g:Int),g+k=v->0<=g->v<=1000->f.length+k<=1000->qW l->aD (λn m=>Qj iT n m (a,b,c,s,v) (⟨l,0⟩,f,g)) (PR9 f (hP k l))
 | 0,l,f,g,h1,h2,h3,h4,h5=>iC (aD.e (Uu _ v g) (aE (λq=>by simp at q;omega) λ_=>aC (by show _=_;simp)))
 | k+1,l,f,g,h1,h2,h3,h4,h5=>by
  refine iC (aD.e (Uu _ v g) (aE (λ_=>bF ((Kc 7 (by omega)).1 l h5) λx1 hx1=>?_) λq=>?_))
  .obtain⟨hx1,hl⟩:=hx1
   have g1:=wK 7 h5
   refine Rs.bnd ZN g1 hx1 λx2 A2 B2 _=>?_
   have R2:=Rz.pB (c:=λb a=>(b,a)) A2 B2
   have g2:Gd (pB (nF 7 l) λb r=>pB (qC r) λa r=>.inr ((b,a),r)):=fF g1 λ_ _ h=>fF (Bx h) λ_ _ h=>h
   refine Rs.bnd (z:=((x1.1,x2.1),x2.2)) Vo g2 R2 λx3 A3 B3 _=>?_
   have R3:=Rz.pB (c:=λb a=>(b,a)) A3 B3
   have g3:=fF (f:=λb r=>pB (qB r) λa r=>.inr ((b,a),r)) g2 λ_ _ h=>fF (oT h) λ_ _ h=>h
   refine Rs.bnd (z:=(((x1.1,x2.1),x3.1),x3.2)) ZO g3 R3 λx4 A4 B4 _=>?_
   have R4:Rz (q4 l) ((((x1.1,x2.1),x3.1),x4.1),x4.2):=Rz.pB (c:=λb a=>(b,a)) A4 B4
   have g4:Gd (q4 l):=fF g3 λ_ _ h=>fF (AU h) λ_ _ h=>h
   obtain⟨y0,y1,y2,y3,y4,y5,y6,hy⟩:=aA6 hl
   rw[hy]
   refine aL (x:=y0) rfl (aL (x:=y1) rfl (aL (x:=y2) rfl (aL (x:=y3) rfl (aL (x:=y4) rfl (aL (x:=y5) rfl (aL (x:=y6) rfl (aL (pK (by simp;omega)) ?_)))))))
   rw[YJ ⟨h2,by omega⟩]
   unfold hP
   rw[c9]
   cases hp:q4 l with
   | inl e=>
    rw[hp] at R4 g4
    have R4:x4.2.e=e:=R4
    have g4:e≠0:=g4
    exact (Z8 a b c s v x4.2 _ _ (by rw[R4];exact g4)).imp λz hz=>by rw[hz];exact R4
   | inr w=>
    obtain⟨y,r⟩:=w
    rw[hp] at R4 g4
    have R4:((((x1.1,x2.1),x3.1),x4.1),x4.2)=(y,(⟨r,0⟩:aO)):=R4
    have g4:qW r:=g4
    have e1:x4.2=⟨r,0⟩:=congrArg Prod.snd R4
    have e2:(((x1.1,x2.1),x3.1),x4.1)=y:=congrArg Prod.fst R4
    have e3:(aP.mk y0 y1 y2 y3 y4 (Aaa.mk y5 y6) x2.1 x3.1 x4.1)=R5 y.1.1.1 y.1.1.2 y.1.2 y.2:=by rw[<-e2,hy];rfl
    rw[e1,e3]
    dsimp only[pB]
    refine (aBZ a b c s v k r (f++[R5 y.1.1.1 y.1.1.2 y.1.2 y.2]) (g+1) (by omega) (by omega) h3 (by simp;omega) g4).imp λz hz=>?_
    cases hq:hP k r with
    | inl e=>rw[hq] at hz;exact hz
    | inr w=>
     rw[hq] at hz
     have hz:z=_:=hz
     show z=_
     rw[hz,List.append_assoc];rfl
  .simp at q;omega
def pT3(l:List Int): PR ((List Int×ByteArray)×Int):=pB (pB (nF 3 l) λb r=>pB (qB r) λa r=>.inr ((b,a),r)) λb r=>pB (Em r) λa r=>.inr ((b,a),r)
theorem P7(l:List Int): zO l=pB (pT3 l) λy r=>pB (hP y.2.toNat r) λes r=>.inr (⟨y.1.1.getD 0 0,y.1.1.getD 1 0,y.1.1.getD 2 0,y.1.2,es⟩,r):=by
 unfold zO pT3
 simp only[nF]
 cases jH l with
 | inl e=>rfl
 | inr p1=>
 dsimp only[pB]
 cases jH p1.2 with
 | inl e=>rfl
 | inr p2=>
 dsimp only
 cases jH p2.2 with
 | inl e=>rfl
 | inr p3=>
 dsimp only
 cases qB p3.2 with
 | inl e=>rfl
 | inr p4=>
 dsimp only
 cases Em p4.2 with
 | inl e=>rfl
 | inr p5=>rfl
theorem Y5(d:aO): Ev (λn=>xZ n d) ((d.e==0)&&decide (d.b.length > 0)):=by
 refine aE (λh=>aE (λq=>aC ?_) λq=>aC ?_) λh=>aC (by rw[h];rfl)
 .have q:=of_decide_eq_true q
  rw[h,decide_eq_true (by simp only[ln] at q;omega)];rfl
 .have q:=of_decide_eq_false q
  rw[h,decide_eq_false (by simp only[ln] at q;omega)];rfl
theorem XL(d:aO): Ev (λn=>pN n d) (if d.e=0/\d.b.length > 0 then⟨d.b,4⟩ else d):=by
 refine aD.e (Y5 d) (aE (λh=>aC ?_) λh=>aC ?_)
 .simp at h
  rw[if_pos ⟨h.1,h.2⟩]
 .rw[if_neg]
  rintro ⟨h1,h2⟩
  rw[h1,decide_eq_true h2] at h
  cases h
theorem aBF(d:aO)(a b c:Int)(s:ByteArray)(es:List aP)(h:Int): Ev (λn=>xY n (d,a,b,c,s,es,h)) (decide (h<ln es)&&(d.e==0)):=by
 refine aE (λh=>?_) λh=>aC (by rw[h];rfl)
 rw[h,Bool.true_and]
 exact aE (λq=>aC q.symm) λq=>aC q.symm
theorem Z3(a b c:Int)(s:ByteArray)(es:List aP)(d:aO)(g:Int)(h:d.e≠0): aD (λn m=>Qj gA n m (a,b,c,s,es) (d,g)) λz=>z=d:=iC (aD.e (aBF d a b c s es g) (aE (λq=>by simp at q;exact (h q.2).elim) λ_=>aC rfl))
theorem aBL(a b c:Int)(s:ByteArray)(es:List aP)(hl:es.length<=100000)(i:Nat): ∀d:aO,d.e=0->aD (λn m=>Qj gA n m (a,b,c,s,es) (d,(i:Int))) λz=>z.e=eQ (es.drop i):=
 iW (N:=es.length) (T:=λi=>∀d:aO,d.e=0->aD (λn m=>Qj gA n m (a,b,c,s,es) (d,(i:Int))) λz=>z.e=eQ (es.drop i)) (λi ih d hd=>iC (aD.e (aBF d a b c s es i) (aE (λq=>by
  simp only[Bool.and_eq_true,decide_eq_true_eq] at q
  have hi:i<es.length:=by have:=q.1;simp only[ln] at this;omega
  have hx:=List.getElem?_eq_getElem hi
  refine aL (x:=es[i]) (by unfold GT;rw[if_pos ⟨by omega,by simpa using hi⟩,Int.toNat_natCast];exact hx) (aL (jJ hi) (aD.e (QK _) ?_))
  rw[J2 hx,oM (by omega)]
  by_cases k:Bc es[i]=0
  .rw[if_pos k]
   exact ih hi _ k
  .rw[if_neg k]
   exact (Z3 a b c s es ⟨d.b,Bc es[i]⟩ _ k).imp λz hz=>by rw[hz]) λq=>aC (by
  have hi:es.length<=i:=by
   apply Classical.byContradiction
   intro h
   rw[hd,decide_eq_true (by simp only[ln];omega)] at q
   cases q
  show d.e=_
  rw[hd,List.drop_eq_nil_of_le hi];rfl)))) i
theorem HZ(a:List Int)(hb:sB a)(h6:a.length<=990000): Ev (λn=>yB n a) (FH a):=by
 unfold FH
 rw[if_neg (by omega)]
 refine bN (λ_=>rfl) (aD.e (r:=(⟨(Dc a).1,(Dc a).2⟩:aO)) (bN (λ_=>rfl) (aE (λq=>by have q:=of_decide_eq_true q;simp only[ln] at q;omega) λ_=>aD.e (E5 a h6) (aC rfl))) ?_)
 have fin:∀(y1 y2 y3:Int) (s:ByteArray) (j:aO×List aP),j.1.e≠0->aD (λn _=>bnd (pN n j.1) λl=>bnd (yA n (y1,y2,y3,s,j.2) (l,0)) λm=>cnd (m.e != 0) (some ((eX.mk 0 0 0 (⟨#[]⟩:ByteArray) []),m.e)) (some ((eX.mk y1 y2 y3 s j.2),0))) λz=>z=(z0,j.1.e):=by
  intro y1 y2 y3 s j hj
  refine aD.e (XL j.1) ?_
  rw[if_neg (λh=>hj h.1)]
  refine bF (cO (Z3 y1 y2 y3 s j.2 j.1 0 hj)) λz hz=>?_
  rw[hz]
  exact aE (λ_=>aC rfl) λq=>by simp at q;exact (hj q).elim
 by_cases ho:(Dc a).2≠0
 .rw[if_pos ho]
  refine bF ((Kc 3 (by omega)).2 _ ho) λx1 hx1=>?_
  obtain⟨y0,y1,y2,hy⟩:=F8 hx1.2
  rw[hy]
  have e1:x1.2.e=(Dc a).2:=hx1.1
  refine aL (x:=y0) rfl (aL (x:=y1) rfl (aL (x:=y2) rfl (bF (Vo.2 x1.2 (by rw[e1];exact ho)) λx2 hx2=>?_)))
  have e2:x2.2.e=(Dc a).2:=hx2.1.trans e1
  refine bF (Vp.2 x2.2 (by rw[e2];exact ho)) λx3 hx3=>?_
  have e3:x3.2.e=(Dc a).2:=hx3.1.trans e2
  refine bF (cO (Z8 y0 y1 y2 x2.1 x3.1 x3.2 [] 0 (by rw[e3];exact ho))) λj hj=>?_
  subst hj
  exact (fin y0 y1 y2 x2.1 (x3.2,[]) (by show x3.2.e≠0;rw[e3];exact ho)).imp λz hz=>by rw[hz];show (z0,x3.2.e)=_;rw[e3]
 .rw[if_neg ho]
  have ho:(Dc a).2=0:=by simpa using ho
  have hk:=HH hb h6 ho
  rw[ho]
  generalize (Dc a).1=l at hk
  refine bF ((Kc 3 (by omega)).1 l hk) λx1 hx1=>?_
  obtain⟨hx1,hl⟩:=hx1
  obtain⟨y0,y1,y2,hy⟩:=F8 hl
  have g1:=wK 3 hk
  rw[hy]
  refine aL (x:=y0) rfl (aL (x:=y1) rfl (aL (x:=y2) rfl (Rs.bnd Vo g1 hx1 λx2 A2 B2 _=>?_)))
  have R2:=Rz.pB (c:=λb a=>(b,a)) A2 B2
  have g2:Gd (pB (nF 3 l) λb r=>pB (qB r) λa r=>.inr ((b,a),r)):=fF g1 λ_ _ h=>fF (oT h) λ_ _ h=>h
  refine Rs.bnd (z:=((x1.1,x2.1),x2.2)) Vp g2 R2 λx3 A3 B3 _=>?_
  have R3:Rz (pT3 l) (((x1.1,x2.1),x3.1),x3.2):=Rz.pB (c:=λb a=>(b,a)) A3 B3
  have g3:Gd (pT3 l):=fF g2 λ_ _ h=>fF (tY h) λ_ _ h=>h
  rw[P7]
  cases hp:pT3 l with
  | inl e=>
   rw[hp] at R3 g3
   have R3:x3.2.e=e:=R3
   have g3:e≠0:=g3
   refine bF (cO (Z8 y0 y1 y2 x2.1 x3.1 x3.2 [] 0 (by rw[R3];exact g3))) λj hj=>?_
   subst hj
   exact (fin y0 y1 y2 x2.1 (x3.2,[]) (by show x3.2.e≠0;rw[R3];exact g3)).imp λz hz=>by rw[hz];show (z0,x3.2.e)=(z0,e);rw[R3]
  | inr w=>
   obtain⟨y,r⟩:=w
   have hcv:0<=y.2/\y.2<=64:=by
    unfold pT3 at hp
    obtain⟨_,r',_,h⟩:=dJ hp
    obtain⟨c,_,h1,h⟩:=dJ h
    cases h
    exact sH h1
   rw[hp] at R3 g3
   have R3:(((x1.1,x2.1),x3.1),x3.2)=(y,(⟨r,0⟩:aO)):=R3
   have g3:qW r:=g3
   have e1:x3.2=⟨r,0⟩:=congrArg Prod.snd R3
   have e2:((x1.1,x2.1),x3.1)=y:=congrArg Prod.fst R3
   rw[e1]
   dsimp only[pB]
   obtain⟨k,hk2⟩:∃k:Nat,y.2=k:=⟨y.2.toNat,by omega⟩
   have e4:x3.1=(k:Int):=by rw[<-hk2,<-e2]
   rw[e4,hk2,Int.toNat_natCast]
   refine bF (cO (aBZ y0 y1 y2 x2.1 k k r [] 0 (by omega) (by omega) (by omega) (by simp;omega) g3)) λj hj=>?_
   have gE:=Td k g3
   cases hq:hP k r with
   | inl e=>
    rw[hq] at hj gE
    have hj:j.1.e=e:=hj
    have gE:e≠0:=gE
    exact (fin y0 y1 y2 x2.1 j (by rw[hj];exact gE)).imp λz hz=>by rw[hz,hj];rfl
   | inr w=>
    obtain⟨es,r'⟩:=w
    rw[hq] at hj
    have hj:j=_:=hj
    subst hj
    have hlen:=Ap k hq
    show aD _ λz=>z=GY _ r'
    rw[show (eX.mk (y.1.1.getD 0 0) (y.1.1.getD 1 0) (y.1.1.getD 2 0) y.1.2 es)=eX.mk y0 y1 y2 x2.1 es by rw[<-e2,hy];rfl]
    unfold GY
    by_cases hr:r'.length > 0
    .rw[if_pos hr]
     refine aD.e (XL ⟨r',0⟩) ?_
     rw[if_pos ⟨rfl,hr⟩]
     refine bF (cO (Z3 y0 y1 y2 x2.1 ([]++es) ⟨r',4⟩ 0 (by show (4:Int)≠0;decide))) λz hz=>?_
     rw[hz]
     exact aC rfl
    .rw[if_neg hr]
     refine aD.e (XL ⟨r',0⟩) ?_
     rw[if_neg (λh=>hr h.2)]
     refine bF (cO (aBL y0 y1 y2 x2.1 ([]++es) (by simp;omega) 0 ⟨r',0⟩ rfl)) λz hz=>?_
     rw[List.drop_zero,List.nil_append] at hz
     show aD (λn m=>cnd (z.e != 0) _ (some ((eX.mk y0 y1 y2 x2.1 ([]++es)),0))) _
     rw[hz,List.nil_append]
     dsimp only
     by_cases hf:eQ es=0
     .rw[if_pos hf]
      exact aE (λq=>by simp[hf] at q) λ_=>aC rfl
     .rw[if_neg hf]
      exact aE (λ_=>aC rfl) λq=>by simp at q;exact (hf q).elim
def LnE(x:aP): Prop:=x.Via.length<=1000/\x.Parts.length<=1000
theorem AR: ∀(c:Nat) {l r:List Int} {es:List Aaa},Bw c l=.inr (es,r)->es.length=c
 | 0,l,r,es,h=>by cases h;rfl
 | c+1,l,r,es,h=>by
  unfold Bw at h
  obtain⟨x,s,h1,h⟩:=dJ h
  obtain⟨xs,s',h2,h⟩:=dJ h
  cases h
  simp[AR c h2]
theorem NW{l r:List Int}{v:List Aaa}(h:qC l=.inr (v,r)): v.length<=64:=by
 unfold qC at h
 obtain⟨c,s,h1,h⟩:=dJ h
 have:=AR _ h
 have:=sH h1
 omega
theorem PN{l:List Int}(hl:sB l)(most:Nat): (mI l most).1.length<=most:=by
 unfold mI
 rcases lL hl most with⟨e,q,he⟩ | ⟨v,k,q,hk,hv⟩<;>rw[q]
 .rw[if_pos he];simp
 .rw[if_neg (by simp)]
  simp only[Int.toNat_natCast]
  have:=FQ v (l.drop k) (hl.drop k)
  cases hp:pL v (l.drop k) with
  | inl e=>simp
  | inr p=>
   obtain⟨vs,j⟩:=p
   rw[hp] at this
   dsimp only at this |-
   omega
theorem NX{l r v:List Int}(hl:sB l)(h:wL l=.inr (v,r)): v.length<=64:=by
 unfold wL YB at h
 split at h
 .cases h
 .cases h;exact PN hl 64
theorem NY{l r:List Int}{x:aP}(hl:qW l)(h:nG l=.inr (x,r)): LnE x:=by
 unfold nG at h
 obtain⟨_,_,g1,h⟩:=dJ h
 have o1:=iK (cK hl) g1
 obtain⟨_,_,g2,h⟩:=dJ h
 have o2:=iK (cK o1) g2
 obtain⟨_,_,g3,h⟩:=dJ h
 have o3:=iK (cK o2) g3
 obtain⟨_,_,g4,h⟩:=dJ h
 have o4:=iK (cK o3) g4
 obtain⟨_,_,g5,h⟩:=dJ h
 have o5:=iK (cK o4) g5
 obtain⟨_,_,g6,h⟩:=dJ h
 have o6:=iK (Mf o5) g6
 obtain⟨_,_,g7,h⟩:=dJ h
 have o7:=iK (Bx o6) g7
 obtain⟨_,_,g8,h⟩:=dJ h
 have o8:=iK (oT o7) g8
 obtain⟨_,_,g9,h⟩:=dJ h
 cases h
 exact⟨Nat.le_trans (NW g7) (by decide),Nat.le_trans (NX o8.b g9) (by decide)⟩
theorem Mg: ∀(c:Nat) {l r:List Int} {es:List aP},qW l->hP c l=.inr (es,r)->∀x∈es,LnE x
 | 0,l,r,es,_,h=>by cases h;simp
 | c+1,l,r,es,hl,h=>by
  unfold hP at h
  obtain⟨x,s,h1,h⟩:=dJ h
  obtain⟨xs,s',h2,h⟩:=dJ h
  cases h
  intro y hy
  rcases List.mem_cons.1 hy with rfl | hy
  .exact NY hl h1
  .exact Mg c (iK (Mh hl) h1) h2 y hy
def LnT(t:eX): Prop:=t.Edits.length<=1000/\∀x∈t.Edits,LnE x
theorem TG{l r:List Int}{t:eX}(hl:qW l)(h:zO l=.inr (t,r)): LnT t:=by
 have h0:=AQ h
 unfold zO at h
 obtain⟨_,_,g1,h⟩:=dJ h
 have o1:=iK (cK hl) g1
 obtain⟨_,_,g2,h⟩:=dJ h
 have o2:=iK (cK o1) g2
 obtain⟨_,_,g3,h⟩:=dJ h
 have o3:=iK (cK o2) g3
 obtain⟨_,_,g4,h⟩:=dJ h
 have o4:=iK (oT o3) g4
 obtain⟨c,_,g5,h⟩:=dJ h
 have o5:=iK (tY o4) g5
 obtain⟨es,_,g6,h⟩:=dJ h
 cases h
 exact⟨by omega,Mg _ o5 g6⟩
theorem Za: LnT z0:=⟨by simp[z0],by simp[z0]⟩
theorem ZQ{a:List Int}(hb:sB a)(h6:a.length<=990000): LnT (FH a).1:=by
 unfold FH
 split
 .exact Za
 .split
  .exact Za
  .rename_i ho
   have ho:(Dc a).2=0:=by simpa using ho
   have hk:=HH hb h6 ho
   cases hp:zO (Dc a).1 with
   | inl e=>exact Za
   | inr q=>
    obtain⟨t,r⟩:=q
    show LnT (GY t r).1
    unfold GY
    split
    .exact Za
    .split
     .exact TG hk hp
     .exact Za
theorem D9(l:List Aaa)(hl:l.length<=1000): Ev (λn=>uT n l l) true:=by
 refine bN (λ_=>rfl) (aE (λh=>?_) λ_=>cM (Q:=λ_=>False) (R:=λ_=>True) (cO (f:=λn m=>uC gX n m (l,l) 0) ?_) (λ_ h=>h.elim) λ_ _=>aL rfl (aC rfl))
 .rw[bne_self_eq_false] at h;cases h
 .exact iW (N:=l.length) (T:=λi=>aD (λn m=>uC gX n m (l,l) ((i:Nat):Int)) (Su (λ_=>False) λ_=>True)) (λi ih=>eV (jL (λx hx hi=>aL (by rw[nS];exact hx) (aE (λ_=>by rw[oM (by omega)];exact ih hi) λh=>by simp at h)) λ_=>aC trivial)) 0
theorem E0(l:List Int)(hl:l.length<=1000): Ev (λn=>uU n l l) true:=by
 refine bN (λ_=>rfl) (aE (λh=>?_) λ_=>cM (Q:=λ_=>False) (R:=λ_=>True) (cO (f:=λn m=>uC fL n m (l,l) 0) ?_) (λ_ h=>h.elim) λ_ _=>aL rfl (aC rfl))
 .rw[bne_self_eq_false] at h;cases h
 .exact iW (N:=l.length) (T:=λi=>aD (λn m=>uC fL n m (l,l) ((i:Nat):Int)) (Su (λ_=>False) λ_=>True)) (λi ih=>eV (jL (λx hx hi=>aL (by rw[nS];exact hx) (aE (λh=>by simp at h) λ_=>by rw[oM (by omega)];exact ih hi)) λ_=>aC trivial)) 0
theorem E1(x:aP)(h:LnE x): Ev (λn=>uV n x x) true:=by
 refine bN (λ_=>rfl) (bF (Q:=λb=>b=true) ?_ λb hb=>by rw[hb];exact aC rfl)
 refine aE (λ_=>aE (λ_=>aE (λ_=>aE (λ_=>aE (λ_=>aE (λ_=>aE (λ_=>aD.e (D9 _ h.1) (aE (λ_=>aD.e (E0 _ h.2) (aC rfl)) λh=>by cases h)) λh=>?_) λh=>?_) λh=>?_) λh=>?_) λh=>?_) λh=>?_) λh=>?_
 all_goals simp at h
theorem Y4(t:eX)(h:LnT t): Ev (λn=>xX n t t) true:=by
 refine bN (λ_=>rfl) (bF (Q:=λb=>b=false) ?_ λb hb=>?_)
 .refine aE (λh=>?_) λ_=>aE (λh=>?_) λ_=>aE (λh=>?_) λ_=>aE (λ_=>aE (λh=>?_) λ_=>aC rfl) λh=>?_
  all_goals simp at h
 .rw[hb]
  refine tf (cM (Q:=λ_=>False) (R:=λ_=>True) (cO (f:=λn m=>uC iS n m (t,t) 0) ?_) (λ_ h=>h.elim) λ_ _=>aL rfl (aC rfl))
  have h1:=h.1
  exact iW (N:=t.Edits.length) (T:=λi=>aD (λn m=>uC iS n m (t,t) ((i:Nat):Int)) (Su (λ_=>False) λ_=>True)) (λi ih=>eV (jL (λx hx hi=>aL (by rw[nS];exact hx) (aD.e (E1 x (h.2 x (List.mem_of_getElem? hx))) (aE (λ_=>by rw[oM (by omega)];exact ih hi) λh=>by cases h))) λ_=>aC trivial)) 0
theorem MP: Ev (λn=>tC n) true:=.mk AWN λn hn=>by
 unfold tC
 rw[Nat.ble_eq_true_of_le hn];rfl
theorem E3(a:List Int)(hb:sB a): Ev (λn=>gW n a) true:=by
 refine bN (λ_=>rfl) (aE (λ_=>aD.e MP (aC rfl)) λh=>?_)
 have h6:a.length<=5000:=by
  have h:=of_decide_eq_false h
  simp only[ln] at h;omega
 refine aD.e (QH a hb (by omega)) (aD.e (HZ a hb (by omega)) (bF (Q:=λb=>b=true) (aE (λ_=>aD.e (Y4 _ (ZQ hb (by omega))) (aD.e MP (aC rfl))) λh=>?_) λb hb=>?_))
 .simp at h
 .rw[hb];exact aC rfl
end
theorem aCI: PP.underlying 27=some (.slice 5):=by kernel_rfl
theorem sh5: PP.underlying 5=some (.int .u8):=by kernel_rfl
theorem A9{a:List Int}{x:AV}(h:∃ys,kY PP 10 27 ys/\x=Ib PP 27 ys)(q:Qh [] (val 3 a) x): sB a:=by
 obtain⟨ys,h,rfl⟩:=h
 unfold kY at h
 rw[aCI] at h
 obtain⟨es,rfl,_,hs⟩:=h
 have q:Qh [] (.sl 2 a) (.sl false es):=q
 obtain⟨es',hx,Q⟩:=(q.pu trivial).inS
 have e:es'=es:=by
  rcases hx with⟨h,_⟩ | ⟨f,h⟩
  .cases h
  .cases h;rfl
 subst e
 intro b hb
 obtain⟨i,hi⟩:=List.getElem?_of_mem hb
 obtain⟨row,hr,O⟩:=Q.get hi
 have hw:=hs row (List.mem_of_getElem? hr)
 unfold kY at hw
 rw[sh5] at hw
 obtain⟨z,wz,rfl⟩:=hw
 have O:Qp (.lit (.int .u8 b)) (.lit (.int .u8 z)):=O.1
 have e:b=z:=by cases O;rfl
 subst e
 have wz:(decide (IntKind.u8.min<=b)&&decide (b<=IntKind.u8.max))=true:=wz
 simp only[Bool.and_eq_true,decide_eq_true_eq] at wz
 have m1:IntKind.u8.min=0:=by decide
 have m2:IntKind.u8.max=255:=by decide
 rw[m1,m2] at wz
 omega
section
open Go.Proofs
theorem SG{P:Program}{n:Nat}{t0:TypeId}{c:List AV}(h:xV P n [t0] c): ∃x0,c=[x0]/\(∃ys,kY P n t0 ys/\x0=Ib P t0 ys):=
 match c,h with
 | [x0],⟨h0,_⟩=>⟨x0,rfl,h0⟩
theorem ZS: nJ.c=⟨[.v 3],[0],false,gW⟩:=by kernel_rfl
theorem SW(b:List AV)(h:xV PP 10 [27] b): ∃k H',eB PP T k 0 0 b []=some (.lit<|.bool true,H'):=by
 obtain⟨x0,rfl,h0⟩:=SG h
 let⟨a0,q0,l0⟩:=B9 (k:=3) (H:=[]) (by kernel_rfl) (by kernel_rfl) (.inr ⟨_,rfl⟩) h0
 let⟨r,l,n,f⟩:=E3 a0 (A9 h0 q0);subst l
 have i:MX PP T 0 ⟨[.v 3],[0],false,gW⟩:=ZS▸nJ.ok
 exact u7 i (n:=n) (p:=a0) (r:=true) (f n n (Nat.le_refl _)<|Nat.le_refl _) rfl ⟨q0,trivial⟩
theorem Vu(os:Os)(started:os.Started)(H:Type)(enc:TypeId×Value->H):
 ReturnsInHanded {} Tryz.checked os 4 .any (λw args=>(Rows.codecReadsTxnSpec.pre enc Tryz.prog Tryz.f4 [] false w args/\laidMetH Tryz.prog Rows.codecReadsTxnRow.laid w)/\sizedMet enc Tryz.prog Tryz.f4 (OpenSpec.ofChange Rows.codecReadsTxnSpec) false w args)
  (Rows.codecReadsTxnSpec.post enc Tryz.prog Tryz.f4 false true false false):=by
 refine Rd (C:=Tryz.checked) (X:=λw _=>laidMetH Tryz.prog Rows.codecReadsTxnRow.laid w) (λ_ _ _ hh h=>h.of_heap hh) own started (by kernel_rfl) Tryz.func4
  (ChangeSpec.witness_shaped (enc:=enc) (C:=Tryz.checked) (os:=os) (X:=λw _=>laidMetH Tryz.prog Rows.codecReadsTxnRow.laid w) false (World.laidAll Tryz.prog os Rows.codecReadsTxnRow.laid) #[.slice none 0 0] 8 (World.laidAll_os _ _ _)
   (World.shaped_of_ZipB (by kernel_rfl) (by kernel_rfl)) (by kernel_rfl) (by kernel_rfl) (by kernel_rfl)
   (by rw[MakeChecks.laidMetH_plain _ _ _ (by kernel_rfl)];exact laidMet_laidAll _ (by kernel_rfl) (by kernel_rfl))) ?_
 intro W base args ds gs before hval hW hlaid hsh hwt
 have hds:∃d0,ds=[d0]/\gs=[]:=by
  obtain⟨p,q,hA,hV,_⟩:=hW
  have hA':DataW.TrodAll enc Tryz.prog W 0 (λ_=>true) true [27] args.toList ds p:=by
   have:=hA
   rw[Tryz.params4] at this
   exact this
  obtain⟨v0,vs0,d0,ds0,p0,q0,_,rfl,rfl,h0,r0⟩:=ChangeShapes.trodAll_cons hA'
  obtain⟨rfl,rfl,rfl⟩:=ChangeShapes.trodAll_nil r0
  obtain⟨rfl,rfl⟩:=ChangeShapes.trodVars_none hV
  exact⟨_,rfl,rfl⟩
 obtain⟨d0,rfl,rfl⟩:=hds
 refine Ws (T:=T) (n:=10) (vi:=0) UK checked aDe aDf ZZ (by kernel_rfl) rfl (tb:=4) (by kernel_rfl) (by kernel_rfl) laid (by rw[Tryz.params4];intro t ht;simp at ht;subst ht;exact⟨by kernel_rfl,of_decide_eq_true (by kernel_rfl)⟩) (by kernel_rfl) ?_ (VN hlaid hsh) ⟨rfl,rfl,rfl⟩ hval hW ?_
 .intro xs hxs
  rw[Tryz.params4] at hxs
  exact SW xs hxs
 .intro n hn
  have:=List.all_eq_true.1 hwt n (by
   have e:Tryz.f4.params.toList++Rows.codecReadsTxnSpec.plain.varTypes Tryz.prog=Tryz.f4.params.toList:=List.append_nil _
   show n∈DataW.weightsEach Tryz.prog (Tryz.f4.params.toList++Rows.codecReadsTxnSpec.plain.varTypes Tryz.prog) ([d0]++[])
   rw[e,List.append_nil];exact hn)
  simpa using this
theorem FJ: Rows.CodecReadsTxnSaid:=
 OpenClaim.holds_of_wide 4 Tryz.f4 rfl rfl rfl rfl rfl rfl rfl ⟨rfl,rfl,rfl,rfl,rfl⟩ rfl rfl rfl rfl rfl (by kernel_rfl) Tryz.func4 PT
  (of_decide_eq_true (by kernel_rfl)) (by unfold Func.isWrapper;first | (rw[if_pos (by decide +kernel)];kernel_rfl) | (rw[if_neg (by decide +kernel)];exact⟨rfl,rfl⟩))
  (λos started H enc _=>Vu os started H enc)
theorem reads_card: Rows.CodecReadsTxnCardSaid:=
 Claim7.holds_tied_plain_at .later [] [.data,.data] true (true,"b2f529f39ffebf23ec139143c71f3fb2078551bd6edc59e6f80363d6e67fb306") true
  FJ (λ_ h=>by cases h) aBa (λ_ h=>by cases h) codecReadsTxn_row_tie rfl ⟨rfl,rfl⟩ aBb rfl
  (λf fn hf hfn=>by
   obtain rfl:f=4:=Option.some.inj (aBe.symm.trans hf) |>.symm
   obtain rfl:fn=Tryz.f4:=(Option.some.inj (Tryz.func4.symm.trans hfn)).symm
   exact⟨aBc,λj t ht=>by
    rw[Tryz.params4] at ht
    exact match j,ht with
    | 0,ht=>(by have e:27=t:=(by simpa using ht);subst e;exact o9)
    | n+1,ht=>(by simp at ht)⟩)
  aBd
end
end Go.Proofs.YthadajkojciapaaGreatDoor.Av
