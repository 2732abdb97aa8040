/- A part of the proof of a law. -/
import Derived.Test.YthadajkojciapaaGreatDoorP9
import Derived.Test.YthadajkojciapaaGreatDoorP0
set_option maxRecDepth 100000
set_option maxHeartbeats 4000000
set_option linter.all false
namespace Go.Proofs.YthadajkojciapaaGreatDoor.Av
open Go
section
open Go.IntWalk
abbrev f29_L1(n:Nat)(s:ByteArray)(k:Int)(m:Nat)(l:List Int)(u i:Int): Option (List Int×Int):=lm1 R06_Decode_L2_B n m (s,k) (l,u,i)
theorem P3_e(n:Nat)(s:ByteArray)(k j:Nat)(u:Int)(hk:k+j≤1000): R06_Decode_P3 n (s,(k:Int),u,(j:Int))=some (decide (j≤3∧k+j≤s.size∧u=0)):=by
 have hw:wr ((k:Int)+(j:Int))=(k:Int)+j:=i64_in _ (by omega)
 simp only[R06_Decode_P3,pc1,R06_Decode_P3_B,hw,cnd_ite,decide_eq_true_eq,beq_iff_eq]
 repeat' split
 all_goals first | exact congrArg some (decide_eq_true (by omega)).symm | exact congrArg some (decide_eq_false (by omega)).symm
theorem P4_e(n:Nat)(s:ByteArray)(k j c:Nat)(hkj:k+j≤s.size)(hsz:s.size≤40)(hc:c<65536): R06_Decode_P4 (n+2) (s,(k:Int),(j:Int),(c:Int))=some (decide (0≤scr (c:Int)∧unitL c=(s.data.toList.drop k).take j)):=by
 have hw:wr ((k:Int)+(j:Int))=((k+j:Nat):Int):=by rw[wr,i64_in _ (by omega)];push_cast;rfl
 obtain⟨hcut,hlist⟩:=cut_list hkj
 obtain⟨t,ht1,ht2⟩:=unit_eq (n+1) c hc
 have ht1':R06_unit (n+2) (c:Int)=some t:=ht1
 simp only[R06_Decode_P4,pc1,R06_Decode_P4_B,hw,bnd_of (RScript_eq n (c:Int)),bnd_of ht1',bnd_of hcut,cnd_ite,decide_eq_true_eq]
 by_cases c1:0≤scr (c:Int)
 ·rw[if_pos (show scr (c:Int)≥0 from c1)]
  by_cases c2:t=s.extract k (k+j)
  ·rw[if_pos c2,decide_eq_true ⟨c1,by rw[←ht2,c2,hlist]⟩]
  ·rw[if_neg c2,decide_eq_false (λh=>c2 (ba_ext.2 (by rw[ht2,h.2,hlist])))]
 ·rw[if_neg (show ¬scr (c:Int)≥0 from c1),decide_eq_false (λh=>c1 h.1)]
theorem L1_step(n:Nat)(s:ByteArray)(k:Int)(m:Nat)(l:List Int)(u i:Int): f29_L1 n s k (m+1) l u i=bnd (R06_Decode_P3 n (s,k,u,i)) λb=>cnd b (bnd (cutS s k (wr (k+i))) λj=>bnd (R06_value n j) λx=>bnd (R06_Decode_P4 n (s,k,i,x)) λc=>cnd c (bnd (app l [x]) λo=>f29_L1 n s k m o i (wr (i+1))) (f29_L1 n s k m l u (wr (i+1)))) (some (l,u)):=rfl
theorem inner_stop(n:Nat)(s:ByteArray)(k j m:Nat)(l:List Int)(u:Int)(hu:u≠0)(hk:k+j≤1000): f29_L1 n s (k:Int) (m+1) l u (j:Int)=some (l,u):=by
 rw[L1_step,P3_e n s k j u hk,decide_eq_false (λh=>hu h.2.2)];rfl
theorem inner_end(n:Nat)(s:ByteArray)(k j m:Nat)(l:List Int)(h:3<j∨s.size<k+j)(hk:k+j≤1000): f29_L1 n s (k:Int) (m+1) l 0 (j:Int)=some (l,0):=by
 rw[L1_step,P3_e n s k j 0 hk,decide_eq_false (by omega)];rfl
theorem inner_round(n:Nat)(s:ByteArray)(k j m c:Nat)(l:List Int)(hj:j≤3)(hkj:k+j≤s.size)(hsz:s.size≤40)(hl:l.length≤1000)(hv:R06_value (n+2) (s.extract k (k+j))=some (c:Int))(hc:c<65536)(hj0:1≤j):
 f29_L1 (n+2) s (k:Int) (m+2) l 0 (j:Int)=if 0≤scr (c:Int)∧unitL c=(s.data.toList.drop k).take j then some (l++[(c:Int)],(j:Int)) else f29_L1 (n+2) s (k:Int) (m+1) l 0 ((j+1:Nat):Int):=by
 have hw:wr ((k:Int)+(j:Int))=((k+j:Nat):Int):=by rw[wr,i64_in _ (by omega)];push_cast;rfl
 have hw2:wr ((j:Int)+1)=((j+1:Nat):Int):=by rw[wr,i64_in _ (by omega)];push_cast;rfl
 have hcut:=(cut_list hkj).1
 have happ:app l [(c:Int)]=some (l++[(c:Int)]):=app_of (by simp;omega)
 rw[L1_step,P3_e (n+2) s k j 0 (by omega),decide_eq_true ⟨hj,hkj,rfl⟩,hw,hw2]
 simp only[cnd,bnd_of rfl,bnd_of hcut,bnd_of hv,P4_e n s k j c hkj hsz hc,bnd_of happ]
 show cnd (decide (0≤scr (c:Int)∧unitL c=(s.data.toList.drop k).take j)) _ _=_
 by_cases c1:0≤scr (c:Int)∧unitL c=(s.data.toList.drop k).take j
 ·rw[decide_eq_true c1,if_pos c1]
  exact inner_stop _ _ _ _ _ _ _ (by omega) (by omega)
 ·rw[decide_eq_false c1,if_neg c1];rfl
theorem inner(n:Nat)(s:ByteArray)(k m:Nat)(l:List Int)(hk:k<s.size)(hsz:s.size≤40)(hl:l.length≤1000)(hm:5≤m)(hn:2≤n):
 f29_L1 n s (k:Int) m l 0 1=some (if 0≤scr ((Utf8.decode s k).1:Int) then (l++[((Utf8.decode s k).1:Int)],((Utf8.decode s k).2:Int)) else (l,0)):=by
 obtain⟨n,rfl⟩:∃z,n=z+2:=⟨n-2,by omega⟩
 obtain⟨m,rfl⟩:∃z,m=z+5:=⟨m-5,by omega⟩
 have hlt:k<s.data.toList.length:=by rw[←ba_size];exact hk
 have hd:s.data.toList.drop k=s.data.toList[k]::s.data.toList.drop (k+1):=List.drop_eq_getElem_cons hlt
 have hlen:(s.data.toList.drop (k+1)).length=s.size-(k+1):=by rw[List.length_drop,←ba_size]
 generalize s.data.toList[k]=b0 at hd
 generalize s.data.toList.drop (k+1)=r at hd hlen
 have D:DecC s k b0 r:=⟨(dec_cases hd).1,(dec_cases hd).2.1,(dec_cases hd).2.2.1,(dec_cases hd).2.2.2⟩
 have h0:=b_lt b0
 have e1:(s.extract k (k+1)).data.toList=[b0]:=by rw[(cut_list (s:=s) (k:=k) (j:=1) (by omega)).2,hd];rfl
 have r1:=inner_round n s k 1 (m+3) b0.toNat l (by omega) (by omega) hsz hl (val_1 (n+1) e1) (by omega) (by omega)
 have t1:(s.data.toList.drop k).take 1=[b0]:=by rw[hd];rfl
 rw[t1] at r1
 have g1:f29_L1 (n+2) s (k:Int) (m+5) l 0 1=_:=r1
 rw[g1]
 by_cases A1:0≤scr (b0.toNat:Int)∧unitL b0.toNat=[b0]
 ·rw[if_pos A1,D.d1 (unit1.1 A1.2),if_pos A1.1]
 ·rw[if_neg A1]
  match r,hd,hlen,D with
  | [],hd,hlen,D=>
   have hl0:s.size=k+1:=by simp at hlen;omega
   rw[inner_end (n+2) s k 2 (m+3) l (.inr (by omega)) (by omega),if_neg]
   intro hs
   rcases D.d4 hs with q | ⟨_,_,q,_⟩ | ⟨_,_,_,q,_⟩
   ·rw[D.d1 q] at hs;exact A1 ⟨hs,unit1.2 q⟩
   ·cases q
   ·cases q
  | b1::q,hd,hlen,D=>
   have h1:=b_lt b1
   have hsz2:k+2≤s.size:=by simp at hlen;omega
   have e2:(s.extract k (k+2)).data.toList=[b0,b1]:=by rw[(cut_list (s:=s) (k:=k) (j:=2) hsz2).2,hd];rfl
   have r2:=inner_round n s k 2 (m+2) _ l (by omega) hsz2 hsz hl (val_2 (n+1) e2) (by omega) (by omega)
   have t2:(s.data.toList.drop k).take 2=[b0,b1]:=by rw[hd];rfl
   rw[t2] at r2
   have g2:f29_L1 (n+2) s (k:Int) (m+4) l 0 ((1+1:Nat):Int)=_:=r2
   show f29_L1 (n+2) s (k:Int) (m+4) l 0 ((1+1:Nat):Int)=_
   rw[g2]
   by_cases A2:0≤scr ((b0.toNat % 32*64+b1.toNat % 64:Nat):Int)∧unitL (b0.toNat % 32*64+b1.toNat % 64)=[b0,b1]
   ·have B:=unit2.1 A2.2
    rw[if_pos A2,D.d2 b1 q rfl B.2.1 B.2.2 B.1,if_pos A2.1]
   ·rw[if_neg A2]
    match q,hd,hlen,D with
    | [],hd,hlen,D=>
     have hl0:s.size=k+2:=by simp at hlen;omega
     rw[show ((2+1:Nat):Int)=((3:Nat):Int) from rfl,inner_end (n+2) s k 3 (m+2) l (.inr (by omega)) (by omega),if_neg]
     intro hs
     rcases D.d4 hs with z | ⟨x,y,z,z1,z2,z3⟩ | ⟨_,_,_,z,_⟩
     ·rw[D.d1 z] at hs;exact A1 ⟨hs,unit1.2 z⟩
     ·cases z
      rw[D.d2 _ _ rfl z1 z2 z3] at hs
      exact A2 ⟨hs,unit2.2 ⟨z3,z1,z2⟩⟩
     ·cases z
    | b2::q,hd,hlen,D=>
     have h2:=b_lt b2
     have hsz3:k+3≤s.size:=by simp at hlen;omega
     have e3:(s.extract k (k+3)).data.toList=[b0,b1,b2]:=by rw[(cut_list (s:=s) (k:=k) (j:=3) hsz3).2,hd];rfl
     have r3:=inner_round n s k 3 (m+1) _ l (by omega) hsz3 hsz hl (val_3 (n+1) e3) (by omega) (by omega)
     have t3:(s.data.toList.drop k).take 3=[b0,b1,b2]:=by rw[hd];rfl
     rw[t3] at r3
     show f29_L1 (n+2) s (k:Int) (m+1+2) l 0 ((3:Nat):Int)=_
     rw[r3]
     by_cases A3:0≤scr ((b0.toNat % 16*4096+b1.toNat % 64*64+b2.toNat % 64:Nat):Int)∧unitL (b0.toNat % 16*4096+b1.toNat % 64*64+b2.toNat % 64)=[b0,b1,b2]
     ·have hv:=scr_ge A3.1
      have B:=unit3.1 A3.2
      rw[if_pos A3,D.d3 b1 b2 q rfl B.2.1 B.2.2.1 B.2.2.2 B.1 (by omega),if_pos A3.1]
     ·rw[if_neg A3,inner_end (n+2) s k 4 (m+1) l (.inl (by omega)) (by omega),if_neg]
      intro hs
      rcases D.d4 hs with z | ⟨x,y,z,z1,z2,z3⟩ | ⟨x,y,w,z,z1,z2,z3,z4⟩
      ·rw[D.d1 z] at hs;exact A1 ⟨hs,unit1.2 z⟩
      ·cases z
       rw[D.d2 _ _ rfl z1 z2 z3] at hs
       exact A2 ⟨hs,unit2.2 ⟨z3,z1,z2⟩⟩
      ·cases z
       by_cases hv:b0.toNat % 16*4096+b1.toNat % 64*64+b2.toNat % 64<55296
       ·rw[D.d3 _ _ _ rfl z1 z2 z3 z4 hv] at hs
        exact A3 ⟨hs,unit3.2 ⟨z4,z1,z2,z3⟩⟩
       ·have hb:=b_lt b0
        have hdec:(Utf8.decode s k).1=65533∨(Utf8.decode s k).1=b0.toNat % 16*4096+b1.toNat % 64*64+b2.toNat % 64:=by
         have hget:∀j b,(b0::b1::b2::q)[j]?=some b->s.get! (k+j)=b:=by
          intro j b hb
          apply get_list s rfl
          rw[←hd,List.getElem?_drop] at hb
          exact hb
         have g0:s.get! (k+0)=b0:=hget 0 b0 rfl
         have g1:s.get! (k+1)=b1:=hget 1 b1 rfl
         have g2:s.get! (k+2)=b2:=hget 2 b2 rfl
         have n0:¬b0.toNat<128:=by omega
         have n1:(b0.toNat / 32==6)=false:=by simp;omega
         have l1:k+1<s.size:=by omega
         have l2:k+2<s.size:=by omega
         simp only[Utf8.decode,g0,g1,g2,n0,if_false,n1,Bool.false_and,Bool.false_eq_true,z1,z2,z3,l1,l2,decide_true,Bool.and_self,beq_self_eq_true,if_true]
         split
         ·exact .inr rfl
         ·exact .inl rfl
        rcases hdec with q | q
        ·rw[q] at hs;have:=scr_ge hs;omega
        ·rw[q] at hs;have:=scr_ge hs;omega
theorem dec_bnd(s:ByteArray)(k:Nat): 1≤(Utf8.decode s k).2∧(Utf8.decode s k).2≤4∧(Utf8.decode s k).1<2097152:=by
 have h0:=b_lt (s.get! (k+0))
 have h1:=b_lt (s.get! (k+1))
 have h2:=b_lt (s.get! (k+2))
 have h3:=b_lt (s.get! (k+3))
 unfold Utf8.decode
 simp only[Utf8.runeError]
 have hk:∀(p:Prop) [Decidable p] (a b:Nat×Nat),(p->(1≤a.2∧a.2≤4∧a.1<2097152))->(1≤b.2∧b.2≤4∧b.1<2097152)->(1≤(if p then a else b).2∧(if p then a else b).2≤4∧(if p then a else b).1<2097152):=by
  intro p _ a b h1 h2
  split
  ·exact h1 (by assumption)
  ·exact h2
 repeat' (first | (apply hk;intro _) | apply hk)
 all_goals (simp only[];omega)
def dl(s:ByteArray): Nat->Nat->Option (List Int)
 | 0,_=>none
 | f+1,k=>if k<s.size then (if 0≤scr ((Utf8.decode s k).1:Int) then (match dl s f (k+(Utf8.decode s k).2) with | some r=>some (((Utf8.decode s k).1:Int)::r) | none=>none) else none) else some []
theorem dl_fuel(s:ByteArray): ∀(m m' k:Nat),s.size-k<m->s.size-k<m'->dl s m k=dl s m' k:=by
 intro m
 induction m with
 | zero=>intro m' k h;omega
 | succ m ih=>
  intro m' k h h'
  obtain⟨m',rfl⟩:∃z,m'=z+1:=⟨m'-1,by omega⟩
  obtain⟨w1,_,_⟩:=dec_bnd s k
  simp only[dl]
  by_cases hk:k<s.size
  ·rw[if_pos hk,if_pos hk,ih m' (k+(Utf8.decode s k).2) (by omega) (by omega)]
  ·rw[if_neg hk,if_neg hk]
def dls(s:ByteArray): Option (List Int):=dl s (s.size+1) 0
def dlR(s:ByteArray): List Int×Int:=match dls s with
 | some r=>(r,0)
 | none=>([],4)
theorem GDec_L1(s:ByteArray)(hs:s.size≤40): ∀(f:Nat) (l:List Int) (k:Nat),s.size-k<f->l.length+(s.size-k)≤100->
 Tot (λn m=>lm2 glyph_Decode_L1_B n m () (l,(s,k))) λz=>match dl s f k with | some r=>∃q,z=.inr (l++r,q) | none=>∃q,z=.inl q
 | 0,l,k,h,hl=>by omega
 | f+1,l,k,h,hl=>by
  obtain⟨w1,w2,w3⟩:=dec_bnd s k
  have hw:wr (((Utf8.decode s k).1:Nat):Int)=((Utf8.decode s k).1:Int):=i64_in _ (by omega)
  refine Tot.l2 (Tot.cnd (λhk=>?_) λhk=>?_)
  ·have hk:k<s.size:=of_decide_eq_true hk
   simp only[dl,if_pos hk]
   rw[hw]
   refine Tot.e (Script_e _) (Tot.cnd (λhc=>?_) λhc=>?_)
   ·have hc:=of_decide_eq_true hc
    rw[if_neg (by omega)]
    exact Tot.ret ⟨_,rfl⟩
   ·have hc:=of_decide_eq_false hc
    rw[if_pos (by omega)]
    refine Tot.bndc (x:=l++[((Utf8.decode s k).1:Int)]) (app_of (by simp;omega)) ?_
    refine (GDec_L1 s hs f _ (k+(Utf8.decode s k).2) (by omega) (by simp;omega)).imp λz hz=>?_
    cases hd:dl s f (k+(Utf8.decode s k).2) with
    | none=>rw[hd] at hz;exact hz
    | some r=>rw[hd] at hz;obtain⟨q,rfl⟩:=hz;exact⟨q,by simp⟩
  ·have hk:¬k<s.size:=of_decide_eq_false hk
   simp only[dl,if_neg hk]
   exact Tot.ret ⟨(s,k),by rw[List.append_nil]⟩
theorem RDec_L1(s:ByteArray)(hs:s.size≤40): ∀(f:Nat) (l:List Int) (k:Nat),s.size-k<f->l.length+(s.size-k)≤100->k≤100->
 Tot (λn m=>lm2 R06_Decode_L1_B n m s (l,(k:Int))) λz=>match dl s f k with | some r=>z=.inr (l++r) | none=>∃q,z=.inl q
 | 0,l,k,h,hl,hk0=>by omega
 | f+1,l,k,h,hl,hk0=>by
  obtain⟨w1,w2,w3⟩:=dec_bnd s k
  refine Tot.l2 (Tot.cnd (λhk=>?_) λhk=>?_)
  ·have hk:(k:Int)<(s.size:Int):=of_decide_eq_true hk
   have hk:k<s.size:=by omega
   simp only[dl,if_pos hk]
   refine Tot.e (Ev.mk 5 λn hn=>inner n s k n l hk hs (by omega) hn (by omega)) ?_
   by_cases hc:0≤scr ((Utf8.decode s k).1:Int)
   ·have hw:wr ((k:Int)+((Utf8.decode s k).2:Int))=((k+(Utf8.decode s k).2:Nat):Int):=by rw[wr,i64_in _ (by omega)];push_cast;rfl
    have hne:(((Utf8.decode s k).2:Int)==0)=false:=beq_eq_false_iff_ne.2 (by omega)
    simp only[if_pos hc,hw,hne]
    refine (RDec_L1 s hs f _ (k+(Utf8.decode s k).2) (by omega) (by simp;omega) (by omega)).imp λz hz=>?_
    cases hd:dl s f (k+(Utf8.decode s k).2) with
    | none=>rw[hd] at hz;exact hz
    | some r=>rw[hd] at hz;rw[hz];simp
   ·simp only[if_neg hc]
    exact Tot.ret ⟨_,rfl⟩
  ·have hk:¬(k:Int)<(s.size:Int):=of_decide_eq_false hk
   simp only[dl,if_neg (show ¬k<s.size by omega)]
   exact Tot.ret (by simp)
theorem GDecode_e(s:ByteArray)(hs:s.size≤40): Ev (λn=>glyph_Decode n s) (dlR s):=by
 refine Tot.fn (λ_=>rfl) ?_
 have h:=Tot.dg (GDec_L1 s hs (s.size+1) [] 0 (by omega) (by simp;omega))
 obtain⟨z,hz,h⟩:=h.val
 unfold dlR dls
 cases hd:dl s (s.size+1) 0 with
 | none=>rw[hd] at hz;obtain⟨q,rfl⟩:=hz;exact Tot.bnd2 (Q:=λ_=>True) (R:=λ_=>False) (h.imp λ_ e=>by rw[e];trivial) (λ_ _=>Tot.ret rfl) λ_ h=>h.elim
 | some r=>rw[hd] at hz;obtain⟨q,rfl⟩:=hz;exact Tot.bnd2 (Q:=λ_=>False) (R:=λx=>x.1=r) (h.imp λ_ e=>by rw[e];rfl) (λ_ h=>h.elim) λx h=>Tot.bndc rfl (Tot.ret (by rw[h]))
theorem RDecode_e(s:ByteArray)(hs:s.size≤40): Ev (λn=>R06_Decode n s) (dlR s):=by
 refine Tot.fn (λ_=>rfl) ?_
 have h:=Tot.dg (RDec_L1 s hs (s.size+1) [] 0 (by omega) (by simp;omega) (by omega))
 obtain⟨z,hz,h⟩:=h.val
 unfold dlR dls
 cases hd:dl s (s.size+1) 0 with
 | none=>rw[hd] at hz;obtain⟨q,rfl⟩:=hz;exact Tot.bnd2 (Q:=λ_=>True) (R:=λ_=>False) (h.imp λ_ e=>by rw[e];trivial) (λ_ _=>Tot.ret rfl) λ_ h=>h.elim
 | some r=>rw[hd] at hz;rw[hz] at h;exact Tot.bnd2 (Q:=λ_=>False) (R:=λx=>x=r) (h.imp λ_ e=>by rw[e];rfl) (λ_ h=>h.elim) λx h=>Tot.bndc rfl (Tot.ret (by rw[h]))
def adj{α:Type}[DecidableEq α](z:α): List α->Bool
 | []=>false
 | a::r=>(decide (a=z)&&decide (r.head?=some z))||adj z r
theorem contains_adj(l:List UInt8): Lib.contains l [32,32]=adj 32 l:=by
 induction l with
 | nil=>rfl
 | cons b l ih=>
  unfold Lib.contains at ih ⊢
  unfold Lib.index
  have hp:([32,32]:List UInt8).isPrefixOf (b::l)=(decide (b=32)&&decide (l.head?=some 32)):=by
   cases l with
   | nil=>simp[List.isPrefixOf]
   | cons c r=>
    simp only[List.isPrefixOf,Bool.and_true,List.head?_cons,Option.some.injEq]
    congr 1
    ·rw[Bool.eq_iff_iff,beq_iff_eq,decide_eq_true_eq];exact eq_comm
    ·rw[Bool.eq_iff_iff,beq_iff_eq,decide_eq_true_eq];exact eq_comm
  rw[hp]
  simp only[adj]
  rw[←ih]
  have hge:=Lib.index_ge l [32,32]
  cases (decide (b=32)&&decide (l.head?=some 32)) with
  | true=>simp
  | false=>
   simp only[Bool.false_eq_true,if_false,Bool.false_or]
   by_cases h:Lib.index l [32,32]=-1
   ·simp[h]
   ·have:(Lib.index l [32,32]==-1)=false:=beq_eq_false_iff_ne.2 h
    rw[this]
    simp only[Bool.false_eq_true,if_false]
    rw[decide_eq_true (by omega),decide_eq_true (by omega)]
def UB(c:Int): List UInt8:=unitL c.toNat
def good(c:Int): Prop:=0≤scr c
theorem good_bnd{c:Int}(h:good c): 32≤c∧c<55296:=by
 refine⟨?_,scr_ge h⟩
 apply Classical.byContradiction
 intro hc
 have:scr c=-1:=by
  simp only[scr,tabS,lookT]
  iterate 13 rw[if_neg (by omega)]
 unfold good at h
 omega
theorem UB_32: UB 32=[32]:=rfl
theorem UB_ne{c:Int}(h:good c): UB c≠[]:=by
 unfold UB unitL
 split
 ·simp
 ·split<;>simp
theorem UB_not{c:Int}(h:good c)(hc:c≠32): ∀b∈UB c,b≠32:=by
 obtain⟨h1,h2⟩:=good_bnd h
 have key:∀a:Nat,a<256->a≠32->UInt8.ofNat a≠32:=by
  intro a ha hne e
  apply hne
  have:=(ofNat_eq (b:=32) ha).1 e
  simpa using this
 unfold UB unitL
 intro b hb
 split at hb
 ·simp only[List.mem_singleton] at hb
  subst hb
  exact key _ (by omega) (by omega)
 ·split at hb
  ·simp only[List.mem_cons,List.not_mem_nil,or_false] at hb
   rcases hb with rfl | rfl
   ·exact key _ (by omega) (by omega)
   ·exact key _ (by omega) (by omega)
  ·simp only[List.mem_cons,List.not_mem_nil,or_false] at hb
   rcases hb with rfl | rfl | rfl
   ·exact key _ (by omega) (by omega)
   ·exact key _ (by omega) (by omega)
   ·exact key _ (by omega) (by omega)
theorem head_flat(l:List Int)(hl:∀c∈l,good c): (l.flatMap UB).head?=some 32↔l.head?=some 32:=by
 cases l with
 | nil=>simp
 | cons c r=>
  have hg:=hl c (by simp)
  rw[List.flatMap_cons]
  by_cases hc:c=32
  ·subst hc;simp[UB_32]
  ·cases hu:UB c with
   | nil=>exact (UB_ne hg hu).elim
   | cons b q=>
    have:=UB_not hg hc b (by rw[hu];simp)
    simp[this,hc]
theorem adj_skip(xs ys:List UInt8)(h:∀b∈xs,b≠32): adj 32 (xs++ys)=adj 32 ys:=by
 induction xs with
 | nil=>rfl
 | cons b q ih=>
  have hb:=h b (by simp)
  simp only[List.cons_append,adj,hb,decide_false,Bool.false_and,Bool.false_or]
  exact ih λb hb=>h b (by simp[hb])
theorem adj_flat(l:List Int)(hl:∀c∈l,good c): adj 32 (l.flatMap UB)=adj 32 l:=by
 induction l with
 | nil=>rfl
 | cons c r ih=>
  have hg:=hl c (by simp)
  have hr:∀c∈r,good c:=λc hc=>hl c (by simp[hc])
  rw[List.flatMap_cons]
  by_cases hc:c=32
  ·subst hc
   rw[UB_32]
   simp only[List.cons_append,List.nil_append,adj,ih hr,decide_true,Bool.true_and]
   congr 1
   rw[Bool.eq_iff_iff]
   simp only[decide_eq_true_eq]
   exact head_flat r hr
  ·rw[adj_skip _ _ (UB_not hg hc),ih hr]
   simp[adj,hc]
theorem last_flat(l:List Int)(hl:∀c∈l,good c): (l.flatMap UB).getLast?=some 32↔l.getLast?=some 32:=by
 rcases List.eq_nil_or_concat l with rfl | ⟨q,c,rfl⟩
 ·simp
 ·have hg:=hl c (by simp)
  rw[List.concat_eq_append,List.flatMap_append,List.flatMap_cons,List.flatMap_nil,List.append_nil,List.getLast?_append,List.getLast?_append]
  simp only[List.getLast?_singleton,Option.some_or,Option.some.injEq]
  by_cases hc:c=32
  ·subst hc;simp[UB_32]
  ·have hne:=UB_ne hg
   rw[List.getLast?_eq_some_getLast hne]
   simp only[Option.some_or,Option.some.injEq,hc,iff_false]
   exact UB_not hg hc _ (List.getLast_mem hne)
theorem step_unit{s:ByteArray}{k:Nat}(hk:k<s.size)(hs:0≤scr ((Utf8.decode s k).1:Int)):
 s.data.toList.drop k=UB ((Utf8.decode s k).1:Int)++s.data.toList.drop (k+(Utf8.decode s k).2):=by
 have hlt:k<s.data.toList.length:=by rw[←ba_size];exact hk
 have hd:s.data.toList.drop k=s.data.toList[k]::s.data.toList.drop (k+1):=List.drop_eq_getElem_cons hlt
 generalize s.data.toList[k]=b0 at hd
 generalize hr:s.data.toList.drop (k+1)=r at hd
 have hdd:∀j,s.data.toList.drop (k+1+j)=r.drop j:=by
  intro j
  rw[←hr,List.drop_drop]
 obtain⟨D1,D2,D3,D4⟩:=dec_cases hd
 rcases D4 hs with z | ⟨b1,q,z,z1,z2,z3⟩ | ⟨b1,b2,q,z,z1,z2,z3,z4⟩
 ·rw[D1 z,hd]
  show b0::r=unitL b0.toNat++s.data.toList.drop (k+1)
  rw[unit1.2 z,hr];rfl
 ·rw[D2 b1 q z z1 z2 z3,hd]
  show b0::r=unitL (b0.toNat % 32*64+b1.toNat % 64)++s.data.toList.drop (k+1+1)
  rw[unit2.2 ⟨z3,z1,z2⟩,hdd 1,z];rfl
 ·by_cases hv:b0.toNat % 16*4096+b1.toNat % 64*64+b2.toNat % 64<55296
  ·rw[D3 b1 b2 q z z1 z2 z3 z4 hv,hd]
   show b0::r=unitL (b0.toNat % 16*4096+b1.toNat % 64*64+b2.toNat % 64)++s.data.toList.drop (k+1+2)
   rw[unit3.2 ⟨z4,z1,z2,z3⟩,hdd 2,z];rfl
  ·exfalso
   clear D1 D2 D3 D4
   have hget:∀j b,(b0::r)[j]?=some b->s.get! (k+j)=b:=by
    intro j b hb
    apply get_list s rfl
    rw[←hd,List.getElem?_drop] at hb
    exact hb
   have hsz:s.size=k+(b0::r).length:=by
    have:=congrArg List.length hd
    rw[List.length_drop] at this
    rw[ba_size]
    simp only[List.length_cons] at this ⊢
    omega
   subst z
   have g0:s.get! (k+0)=b0:=hget 0 b0 rfl
   have g1:s.get! (k+1)=b1:=hget 1 b1 rfl
   have g2:s.get! (k+2)=b2:=hget 2 b2 rfl
   have n0:¬b0.toNat<128:=by omega
   have hb0:=b_lt b0
   have n1:(b0.toNat / 32==6)=false:=by simp;omega
   have l1:k+1<s.size:=by rw[hsz];simp
   have l2:k+2<s.size:=by rw[hsz];simp
   have hdec:(Utf8.decode s k).1=65533∨(Utf8.decode s k).1=b0.toNat % 16*4096+b1.toNat % 64*64+b2.toNat % 64:=by
    simp only[Utf8.decode,g0,g1,g2,n0,if_false,n1,Bool.false_and,Bool.false_eq_true,z1,z2,z3,l1,l2,decide_true,Bool.and_self,beq_self_eq_true,if_true]
    split
    ·exact .inr rfl
    ·exact .inl rfl
   have:=scr_ge hs
   rcases hdec with q | q<;>rw[q] at this<;>omega
theorem dl_flat(s:ByteArray): ∀(m k:Nat) (r:List Int),dl s m k=some r->s.data.toList.drop k=r.flatMap UB∧(∀c∈r,good c)∧r.length≤s.size-k:=by
 intro m
 induction m with
 | zero=>intro k r h;cases h
 | succ m ih=>
  intro k r h
  simp only[dl] at h
  split at h
  ·rename_i hk
   split at h
   ·rename_i hc
    split at h
    ·rename_i q hq
     cases h
     obtain⟨h1,h2,h3⟩:=ih _ _ hq
     obtain⟨w1,_,_⟩:=dec_bnd s k
     refine⟨?_,?_,?_⟩
     ·rw[List.flatMap_cons,←h1];exact step_unit hk hc
     ·intro c hc'
      rcases List.mem_cons.1 hc' with rfl | hc'
      ·exact hc
      ·exact h2 c hc'
     ·simp only[List.length_cons];omega
    ·cases h
   ·cases h
  ·rename_i hk
   cases h
   refine⟨?_,by simp,by simp⟩
   rw[List.drop_eq_nil_of_le (by rw[←ba_size];omega)]
   rfl
def anyS(l:List Int): Bool:=l.any λc=>decide (scr c≠0)
theorem anyS_cons(a:Int)(r:List Int): anyS (a::r)=(decide (scr a≠0)||anyS r):=rfl
theorem anyS_step{l:List Int}{i:Nat}(h:i<l.length): anyS (l.drop i)=((scr l[i] != 0)||anyS (l.drop (i+1))):=by
 rw[drop_nat h,anyS_cons];congr 1
 by_cases hc:scr l[i]=0<;>simp[hc]
theorem ge_drop{l:List Int}{i:Nat}(h:l.length≤i): anyS (l.drop i)=false:=by rw[List.drop_eq_nil_of_le h];rfl
theorem nr_L2(a b:List Int)(hb:b.length≤1000)(i:Nat): Tot (λn m=>lm2 name_read_L2_B n m (a,b,ln b) (i:Int)) (Su (λ_=>anyS (b.drop i)=true) λ_=>anyS (b.drop i)=false):=
 Tot.l2 (Tot.rng (λx hx hlt=>by
  have hx':x=b[i]:=by rw[List.getElem?_eq_getElem hlt] at hx;cases hx;rfl
  subst hx'
  rw[wr_s (by omega)]
  refine Tot.e (Script_e _) (Tot.cnd (λh=>Tot.ret ?_) λh=>?_)
  ·show anyS (b.drop i)=true;rw[anyS_step hlt,h];rfl
  ·rw[anyS_step hlt,h,Bool.false_or];exact nr_L2 a b hb (i+1))
  (λhge=>Tot.ret (ge_drop hge)))
termination_by b.length-i
theorem cm_L1(b:List Int)(hb:b.length≤1000)(i:Nat): Tot (λn m=>lm2 R07_common_L1_B n m b (i:Int)) (Su (λ_=>anyS (b.drop i)=true) λ_=>anyS (b.drop i)=false):=
 Tot.l2 (Tot.rng (λx hx hlt=>by
  have hx':x=b[i]:=by rw[List.getElem?_eq_getElem hlt] at hx;cases hx;rfl
  subst hx'
  rw[wr_s (by omega)]
  refine Tot.e (RScript_e _) (Tot.cnd (λh=>Tot.ret ?_) λh=>?_)
  ·show anyS (b.drop i)=true;rw[anyS_step hlt,h];rfl
  ·rw[anyS_step hlt,h,Bool.false_or];exact cm_L1 b hb (i+1))
  (λhge=>Tot.ret (ge_drop hge)))
termination_by b.length-i
theorem common_e(b:List Int)(hb:b.length≤1000): Ev (λn=>R07_common n b) (!anyS b):=
 Tot.fn (λ_=>rfl) (Tot.bnd2 (Tot.dg (cm_L1 b hb 0)) (λ_ h=>Tot.ret (by rw[List.drop_zero] at h;rw[h];rfl)) λ_ h=>Tot.bndc rfl (Tot.ret (by rw[List.drop_zero] at h;rw[h];rfl)))
theorem adj_step{l:List Int}{i:Nat}(h:i<l.length)(h1:1≤i): adj 32 (l.drop (i-1))=((l[i]==32&&l[i-1]'(by omega)==32)||adj 32 (l.drop i)):=by
 have hlt:i-1<l.length:=by omega
 have e:i-1+1=i:=by omega
 rw[drop_nat hlt,e]
 have hh:(l.drop i).head?=some l[i]:=by rw[drop_nat h];rfl
 simp only[adj,hh,Option.some.injEq]
 congr 1
 rw[Bool.eq_iff_iff,Bool.and_eq_true,Bool.and_eq_true,decide_eq_true_eq,decide_eq_true_eq,beq_iff_eq,beq_iff_eq]
 exact and_comm
theorem bl_L2(b:List Int)(hb:b.length≤1000)(i:Nat)(h1:1≤i)(h2:i≤b.length): Tot (λn m=>lm2 R07_blanks_L2_B n m b (i:Int)) (Su (λ_=>adj 32 (b.drop (i-1))=true) λ_=>adj 32 (b.drop (i-1))=false):=
 Tot.l2 (Tot.cnd (λh=>by
  have h:(i:Int)<(b.length:Int):=of_decide_eq_true h
  have hlt:i<b.length:=by omega
  have hlt':i-1<b.length:=by omega
  rw[wr_s (by omega)]
  refine Tot.e (r:=(b[i]==32&&b[i-1]==32)) (Ev.mk 0 λn _=>?_) (Tot.cnd (λh=>Tot.ret ?_) λh=>?_)
  ·simp only[R07_blanks_P3,pc1,R07_blanks_P3_B,bnd_of (idx_get hlt),wr_p (show i<1000000 by omega) h1,bnd_of (idx_get hlt')]
   cases b[i]==32<;>cases b[i-1]==32<;>rfl
  ·show adj 32 (b.drop (i-1))=true;rw[adj_step hlt h1,h];rfl
  ·rw[adj_step hlt h1,h,Bool.false_or];exact bl_L2 b hb (i+1) (by omega) (by omega))
  (λh=>Tot.ret (by
   have h:¬(i:Int)<(b.length:Int):=of_decide_eq_false h
   have hlt:i-1<b.length:=by omega
   show adj 32 (b.drop (i-1))=false
   rw[drop_nat hlt,List.drop_eq_nil_of_le (by omega)]
   simp[adj])))
termination_by b.length-i
theorem blanks_e(v:List Int)(hv:v.length≤1000)(h0:v≠[]): Ev (λn=>R07_blanks n v) (decide (v.head?=some 32)||decide (v.getLast?=some 32)||adj 32 v):=by
 have hl:0<v.length:=List.length_pos_iff.2 h0
 have hlt:v.length-1<v.length:=by omega
 have i0:idx v 0=some v[0]:=idx_get hl
 have i1:idx v (wr (((v.length:Nat):Int)-1))=some v[v.length-1]:=by
  rw[wr_p (by omega) (by omega)];exact idx_get hlt
 have e0:v.head?=some v[0]:=by rw[List.head?_eq_getElem?,List.getElem?_eq_getElem hl]
 have e1:v.getLast?=some v[v.length-1]:=by rw[List.getLast?_eq_getElem?,List.getElem?_eq_getElem hlt]
 have d0:decide (v.head?=some 32)=(v[0]==32):=by rw[e0,Bool.eq_iff_iff,decide_eq_true_eq,beq_iff_eq,Option.some.injEq]
 have d1:decide (v.getLast?=some 32)=(v[v.length-1]==32):=by rw[e1,Bool.eq_iff_iff,decide_eq_true_eq,beq_iff_eq,Option.some.injEq]
 rw[d0,d1]
 refine Tot.fn (λ_=>rfl) (Tot.e (r:=(v[0]==32||v[v.length-1]==32)) (Ev.mk 0 λn _=>?_) (Tot.cnd (λh=>Tot.ret (by rw[h];rfl)) λh=>?_))
 ·simp only[R07_blanks_P1,pc1,R07_blanks_P1_B,bnd_of i0,bnd_of i1]
  cases v[0]==32<;>cases v[v.length-1]==32<;>rfl
 ·rw[h,Bool.false_or]
  have hh:=bl_L2 v hv 1 (by omega) (by omega)
  rw[show 1-1=0 from rfl,List.drop_zero] at hh
  exact Tot.bnd2 (Tot.dg hh) (λ_ h=>Tot.ret h.symm) λ_ h=>Tot.bndc rfl (Tot.ret h.symm)
def nameE(s:ByteArray): Int:=
 if s=⟨#[]⟩ then 14 else if 40<s.size then 3 else match dls s with
  | none=>4
  | some l=>if (decide (l.head?=some 32)||decide (l.getLast?=some 32)||adj 32 l) then 14 else if anyS l then 0 else 14
theorem dls_ne{s:ByteArray}(h:s≠⟨#[]⟩){l:List Int}(hd:dls s=some l): l≠[]∧s.data.toList=l.flatMap UB∧(∀c∈l,good c)∧l.length≤s.size:=by
 obtain⟨h1,h2,h3⟩:=dl_flat s _ 0 l hd
 rw[List.drop_zero] at h1
 refine⟨?_,h1,h2,by omega⟩
 rintro rfl
 apply h
 rw[ba_ext,h1];rfl
theorem RCheck_e(s:ByteArray): Ev (λn=>R07_Check n s) (nameE s):=by
 unfold nameE
 refine Tot.fn (λ_=>rfl) (Tot.cnd (λc0=>?_) λc0=>Tot.cnd (λc1=>?_) λc1=>?_)
 ·rw[if_pos (of_decide_eq_true c0)];exact Tot.ret rfl
 ·have c0:=of_decide_eq_false c0
  have c1:((s.size:Nat):Int) > 40:=of_decide_eq_true c1
  rw[if_neg c0,if_pos (by omega)];exact Tot.ret rfl
 ·have c0:=of_decide_eq_false c0
  have c1:¬((s.size:Nat):Int) > 40:=of_decide_eq_false c1
  rw[if_neg c0,if_neg (by omega)]
  refine Tot.e (RDecode_e s (by omega)) ?_
  unfold dlR
  cases hd:dls s with
  | none=>exact Tot.ret rfl
  | some l=>
   dsimp only
   obtain⟨g1,g2,g3,g4⟩:=dls_ne c0 hd
   have hl:(ln l==0)=false:=beq_eq_false_iff_ne.2 (by have:=List.length_pos_iff.2 g1;show ((l.length:Nat):Int)≠0;omega)
   refine Tot.bnd (Q:=λb=>b=((decide (l.head?=some 32)||decide (l.getLast?=some 32)||adj 32 l)||!anyS l||false)) ?_ λb hb=>?_
   ·simp only[R07_Check_P1,pc1,R07_Check_P1_B,hl]
    refine Tot.e (blanks_e l (by omega) g1) (Tot.cnd (λh=>Tot.ret (by rw[h];rfl)) λh=>Tot.e (common_e l (by omega)) (Tot.cnd (λh'=>Tot.ret (by rw[h,h'];rfl)) λh'=>Tot.ret (by rw[h,h'];rfl)))
   ·subst hb
    cases (decide (l.head?=some 32)||decide (l.getLast?=some 32)||adj 32 l) with
    | true=>exact Tot.ret rfl
    | false=>cases anyS l<;>exact Tot.ret rfl
theorem Check_e(s:ByteArray): Ev (λn=>name_Check n s) (nameE s):=by
 unfold nameE
 refine Tot.fn (λ_=>rfl) (Tot.bnd (Q:=λb=>b.2=nameE s) ?_ λb hb=>Tot.ret hb)
 unfold nameE
 refine Tot.fn (λ_=>rfl) (Tot.cnd (λc0=>?_) λc0=>Tot.cnd (λc1=>?_) λc1=>?_)
 ·rw[if_pos (of_decide_eq_true c0)];exact Tot.ret rfl
 ·have c0:=of_decide_eq_false c0
  have c1:((s.size:Nat):Int) > 40:=of_decide_eq_true c1
  rw[if_neg c0,if_pos (by omega)];exact Tot.ret rfl
 ·have c0:=of_decide_eq_false c0
  have c1:¬((s.size:Nat):Int) > 40:=of_decide_eq_false c1
  rw[if_neg c0,if_neg (by omega)]
  refine Tot.e (GDecode_e s (by omega)) ?_
  unfold dlR
  cases hd:dls s with
  | none=>exact Tot.ret rfl
  | some l=>
   dsimp only
   obtain⟨g1,g2,g3,g4⟩:=dls_ne c0 hd
   have hpos:0<s.data.toList.length:=by
    rcases Nat.eq_zero_or_pos s.data.toList.length with h | h
    ·exfalso;apply c0;rw[ba_ext];exact List.eq_nil_of_length_eq_zero h
    ·exact h
   have hsz:s.size=s.data.toList.length:=ba_size s
   have hlt:s.data.toList.length-1<s.data.toList.length:=by omega
   have i0:sat s 0=some ((s.data.toList[0]).toNat:Int):=sat_list rfl 0 _ (List.getElem?_eq_getElem hpos)
   have i1:sat s (wr (((s.size:Nat):Int)-1))=some ((s.data.toList[s.data.toList.length-1]).toNat:Int):=by
    rw[wr_p (by omega) (by omega),hsz];exact sat_list rfl _ _ (List.getElem?_eq_getElem hlt)
   have h46:Ev (λn=>contF n s ⟨#[32,32]⟩) (adj 32 l):=.mk 1 λn hn=>by
    obtain⟨n,rfl⟩:∃z,n=z+1:=⟨n-1,by omega⟩
    have hb:Nat.blt s.size 4294967281=true:=by
     rw[Nat.blt_eq];omega
    simp only[contF,hb]
    show some (Lib.contains s.data.toList [32,32])=_
    rw[contains_adj,g2,adj_flat l g3]
   have hb32:∀b:UInt8,((b.toNat:Int)==32)=decide (b=32):=by
    intro b
    rw[Bool.eq_iff_iff,beq_iff_eq,decide_eq_true_eq,←UInt8.toNat_inj]
    show (b.toNat:Int)=32↔b.toNat=32
    omega
   have eh:decide (s.data.toList[0]=32)=decide (l.head?=some 32):=by
    rw[Bool.eq_iff_iff,decide_eq_true_eq,decide_eq_true_eq,←head_flat l g3,←g2,List.head?_eq_getElem?,List.getElem?_eq_getElem hpos,Option.some.injEq]
   have el:decide (s.data.toList[s.data.toList.length-1]=32)=decide (l.getLast?=some 32):=by
    rw[Bool.eq_iff_iff,decide_eq_true_eq,decide_eq_true_eq,←last_flat l g3,←g2,List.getLast?_eq_getElem?,List.getElem?_eq_getElem hlt,Option.some.injEq]
   refine Tot.bnd (Q:=λb=>b=(decide (l.head?=some 32)||decide (l.getLast?=some 32)||adj 32 l)) ?_ λb hb=>?_
   ·simp only[name_read_P1,pc1,name_read_P1_B,bnd_of i0,bnd_of i1,hb32,eh,el]
    refine Tot.cnd (λh=>Tot.ret (by rw[h];rfl)) λh=>Tot.cnd (λh'=>Tot.ret (by rw[h,h'];rfl)) λh'=>Tot.e h46 ?_
    rw[h,h']
    cases adj 32 l<;>exact Tot.ret rfl
   ·subst hb
    cases (decide (l.head?=some 32)||decide (l.getLast?=some 32)||adj 32 l) with
    | true=>exact Tot.ret rfl
    | false=>
     have hh:=nr_L2 l l (by omega) 0
     rw[List.drop_zero] at hh
     exact Tot.bnd2 (Tot.dg hh) (λ_ h=>Tot.ret (by rw[h];rfl)) λ_ h=>Tot.bndc rfl (Tot.ret (by rw[h];rfl))
theorem up_ind{N:Nat}{T:Nat->Prop}(h:∀i,(i<N->T (i+1))->T i)(i:Nat): T i:=h i λhi=>up_ind h (i+1)
termination_by N-i
def idB(a:Int): Bool:=decide (1≤a∧a≤1073741824)
def ptB(p:GPoint): Bool:=decide (-1048576≤p.X∧p.X≤1048576∧-1048576≤p.Y∧p.Y≤1048576)
def ccB(c:Int): Bool:=decide (-1073741824≤c∧c≤1073741824)
def bB(b:Int): Bool:=decide (1≤b∧b≤9)
def tailB(x:GEdit): Bool:=idB x.ID&&(ccB x.C&&(ptB x.At&&(x.Via.all ptB&&x.Parts.all idB)))
def rangB(x:GEdit): Bool:=(x.Kind != 4||idB x.A&&idB x.B)&&((x.Kind != 12||idB x.A)&&((x.Kind != 7&&x.Kind != 10||bB x.B)&&tailB x))
theorem Rid_e(a:Int): Ev (λn=>R20_id n a) (idB a):=Tot.fn (λ_=>rfl) (Tot.cnd (λh=>Tot.cnd (λk=>Tot.ret (decide_eq_true ⟨of_decide_eq_true h,of_decide_eq_true k⟩).symm) λk=>Tot.ret (decide_eq_false λz=>of_decide_eq_false k z.2).symm) λh=>Tot.ret (decide_eq_false λz=>of_decide_eq_false h z.1).symm)
theorem I1_e(a:Int): Ev (λn=>edit_ranged_I1 n a) (idB a):=Tot.prd (Tot.cnd (λh=>Tot.cnd (λk=>Tot.ret (decide_eq_true ⟨of_decide_eq_true h,of_decide_eq_true k⟩).symm) λk=>Tot.ret (decide_eq_false λz=>of_decide_eq_false k z.2).symm) λh=>Tot.ret (decide_eq_false λz=>of_decide_eq_false h z.1).symm)
theorem tand4{p q r s:Prop}[Decidable p][Decidable q][Decidable r][Decidable s]{P:Bool->Prop}(h:P (decide (p∧q∧r∧s))): Tot (λ_ _=>cd p (cd q (cd r (cd s (some true) (some false)) (some false)) (some false)) (some false)) P:=by
 by_cases h1:p
 ·by_cases h2:q
  ·by_cases h3:r
   ·by_cases h4:s
    ·simp only[cd,h1,h2,h3,h4,decide_true,cnd];exact Tot.ret (by simpa [h1,h2,h3,h4] using h)
    ·simp only[cd,h1,h2,h3,h4,decide_true,decide_false,cnd];exact Tot.ret (by simpa [h1,h2,h3,h4] using h)
   ·simp only[cd,h1,h2,h3,decide_true,decide_false,cnd];exact Tot.ret (by simpa [h1,h2,h3] using h)
  ·simp only[cd,h1,h2,decide_true,decide_false,cnd];exact Tot.ret (by simpa [h1,h2] using h)
 ·simp only[cd,h1,decide_false,cnd];exact Tot.ret (by simpa [h1] using h)
theorem tboo{b:Bool}{P:Bool->Prop}(h:P b): Tot (λ_ _=>cnd b (some true) (some false)) P:=by cases b<;>exact Tot.ret h
theorem V14_e(p:GPoint): Ev (λn=>R14_Valid n p) (ptB p):=Tot.fn (λ_=>rfl) (Tot.bnd (Q:=λb=>b=ptB p) (tand4 (P:=λb=>b=ptB p) rfl) λb h=>tboo h)
theorem In_e(p:GPoint): Ev (λn=>geom_In n (GBox.mk (-1048576) (-1048576) 1048576 1048576) p) (ptB p):=Tot.fn (λ_=>rfl) (Tot.bnd (Q:=λb=>b=ptB p) (tand4 rfl) λb h=>tboo h)
theorem tnb{b:Bool}{P:Bool->Prop}(h:P (!b)): Tot (λ_ _=>cnd b (some false) (some true)) P:=by cases b<;>exact Tot.ret h
theorem I2_e(p:GPoint): Ev (λn=>edit_ranged_I2 n p) (!ptB p):=Tot.prd (Tot.e (In_e p) (tnb rfl))
theorem I10_e(a:Int): Ev (λn=>edit_ranged_I10 n a) (!idB a):=Tot.prd (Tot.e (I1_e a) (tnb rfl))
theorem all_d{α:Type}{l:List α}{i:Nat}{x:α}{p:α->Bool}(h:l[i]?=some x): (l.drop i).all p=(p x&&(l.drop (i+1)).all p):=by
 obtain⟨h1,h2⟩:=List.getElem?_eq_some_iff.1 h
 rw[List.drop_eq_getElem_cons h1,h2,List.all_cons]
theorem all_n{α:Type}{l:List α}{i:Nat}{p:α->Bool}(h:l.length≤i): (l.drop i).all p=true:=by rw[List.drop_eq_nil_of_le h];rfl
theorem L5_e(l:List GPoint)(hl:l.length≤100000)(i:Nat): Tot (λn m=>lm2 edit_ranged_L5_B n m (l,ln l) (i:Int)) (Su (λv=>0≤v∧(l.drop i).all ptB=false) λ_=>(l.drop i).all ptB=true):=
 up_ind (N:=l.length) (T:=λi=>Tot (λn m=>lm2 edit_ranged_L5_B n m (l,ln l) (i:Int)) (Su (λv=>0≤v∧(l.drop i).all ptB=false) λ_=>(l.drop i).all ptB=true)) (λi ih=>Tot.l2 (Tot.rng (λx hx hi=>Tot.e (I2_e x) (Tot.cnd (λh=>Tot.ret ⟨by omega,by rw[all_d hx];simp at h;simp[h]⟩) λh=>by
  rw[wr_s (by omega),all_d hx]
  simp at h
  simp only[h,Bool.true_and]
  exact ih hi)) λh=>Tot.ret (all_n h))) i
theorem L9_e(l:List Int)(hl:l.length≤100000)(i:Nat): Tot (λn m=>lm2 edit_ranged_L9_B n m (l,ln l) (i:Int)) (Su (λv=>0≤v∧(l.drop i).all idB=false) λ_=>(l.drop i).all idB=true):=
 up_ind (N:=l.length) (T:=λi=>Tot (λn m=>lm2 edit_ranged_L9_B n m (l,ln l) (i:Int)) (Su (λv=>0≤v∧(l.drop i).all idB=false) λ_=>(l.drop i).all idB=true)) (λi ih=>Tot.l2 (Tot.rng (λx hx hi=>Tot.e (I10_e x) (Tot.cnd (λh=>Tot.ret ⟨by omega,by rw[all_d hx];simp at h;simp[h]⟩) λh=>by
  rw[wr_s (by omega),all_d hx]
  simp at h
  simp only[h,Bool.true_and]
  exact ih hi)) λh=>Tot.ret (all_n h))) i
theorem L3_e(x:GEdit)(hl:x.Via.length≤100000)(i:Nat): Tot (λn m=>lm2 R20_ranged_L3_B n m x (i:Int)) (Su (λ_=>(x.Via.drop i).all ptB=false) λ_=>(x.Via.drop i).all ptB=true):=
 up_ind (N:=x.Via.length) (T:=λi=>Tot (λn m=>lm2 R20_ranged_L3_B n m x (i:Int)) (Su (λ_=>(x.Via.drop i).all ptB=false) λ_=>(x.Via.drop i).all ptB=true)) (λi ih=>Tot.l2 (Tot.rng (λy hx hi=>Tot.e (V14_e y) (Tot.cnd (λh=>by
  rw[wr_s (by omega),all_d hx]
  simp only[h,Bool.true_and]
  exact ih hi) λh=>Tot.ret (by show (x.Via.drop i).all ptB=false;rw[all_d hx];simp[h]))) λh=>Tot.ret (all_n h))) i
theorem L4_e(x:GEdit)(hl:x.Parts.length≤100000)(i:Nat): Tot (λn m=>lm2 R20_ranged_L4_B n m x (i:Int)) (Su (λ_=>(x.Parts.drop i).all idB=false) λ_=>(x.Parts.drop i).all idB=true):=
 up_ind (N:=x.Parts.length) (T:=λi=>Tot (λn m=>lm2 R20_ranged_L4_B n m x (i:Int)) (Su (λ_=>(x.Parts.drop i).all idB=false) λ_=>(x.Parts.drop i).all idB=true)) (λi ih=>Tot.l2 (Tot.rng (λy hx hi=>Tot.e (Rid_e y) (Tot.cnd (λh=>by
  rw[wr_s (by omega),all_d hx]
  simp only[h,Bool.true_and]
  exact ih hi) λh=>Tot.ret (by show (x.Parts.drop i).all idB=false;rw[all_d hx];simp[h]))) λh=>Tot.ret (all_n h))) i
theorem I3_e(l:List GPoint)(hl:l.length≤100000): Ev (λn=>edit_ranged_I3 n l) (!l.all ptB):=
 Tot.prd (Tot.bnd (Q:=λc:Int=>decide (c≥0)=!l.all ptB) (Tot.prd (Tot.bnd2 (Tot.dg (L5_e l hl 0)) (λa h=>Tot.ret (by have h2:l.all ptB=false:=h.2;rw[h2,decide_eq_true h.1];rfl)) λ_ h=>Tot.bndc rfl (Tot.ret (by have h2:l.all ptB=true:=h;rw[h2];rfl)))) λc h=>by
  show Tot (λ_ _=>cnd (decide (c≥0)) (some true) (some false)) _
  rw[h];exact tboo rfl)
theorem I7_e(l:List Int)(hl:l.length≤100000): Ev (λn=>edit_ranged_I7 n l) (!l.all idB):=
 Tot.prd (Tot.bnd (Q:=λc:Int=>decide (c≥0)=!l.all idB) (Tot.prd (Tot.bnd2 (Tot.dg (L9_e l hl 0)) (λa h=>Tot.ret (by have h2:l.all idB=false:=h.2;rw[h2,decide_eq_true h.1];rfl)) λ_ h=>Tot.bndc rfl (Tot.ret (by have h2:l.all idB=true:=h;rw[h2];rfl)))) λc h=>by
  show Tot (λ_ _=>cnd (decide (c≥0)) (some true) (some false)) _
  rw[h];exact tboo rfl)
theorem tail_e(x:GEdit)(h1:x.Via.length≤100000)(h2:x.Parts.length≤100000): Ev (λn=>bnd (edit_ranged_I1 n x.ID) λd=>cnd d (cd (x.C<(-1073741824)) (some false) (cd (x.C > 1073741824) (some false) (bnd (edit_ranged_I2 n x.At) λf=>cnd f (some false) (bnd (edit_ranged_I3 n x.Via) λg=>cnd g (some false) (bnd (edit_ranged_I7 n x.Parts) λh=>cnd h (some false) (some true)))))) (some false)) (tailB x):=by
 refine Tot.e (I1_e x.ID) (Tot.cnd (λa=>Tot.cnd (λb=>Tot.ret ?_) λb=>Tot.cnd (λc=>Tot.ret ?_) λc=>Tot.e (I2_e x.At) (Tot.cnd (λd=>Tot.ret ?_) λd=>Tot.e (I3_e _ h1) (Tot.cnd (λe=>Tot.ret ?_) λe=>Tot.e (I7_e _ h2) (Tot.cnd (λf=>Tot.ret ?_) λf=>Tot.ret ?_)))) λa=>Tot.ret ?_)
 ·have b:=of_decide_eq_true b;simp[tailB,ccB,show ¬(-1073741824≤x.C) by omega]
 ·have c:=of_decide_eq_true c;simp[tailB,ccB,show ¬(x.C≤1073741824) by omega]
 ·simp at d;simp[tailB,d]
 ·simp only[Bool.not_eq_true'] at e;simp[tailB,e]
 ·simp only[Bool.not_eq_true'] at f;simp[tailB,f]
 ·have b:=of_decide_eq_false b
  have c:=of_decide_eq_false c
  simp only[Bool.not_eq_false'] at d e f
  simp only[tailB,a,d,e,f,ccB,decide_eq_true (show -1073741824≤x.C∧x.C≤1073741824 by omega),Bool.and_self]
 ·simp[tailB,a]
theorem P13_e(x:GEdit): Ev (λn=>edit_ranged_P13 n x) (!bB x.B):=by
 refine Tot.cnd (λh=>Tot.ret ?_) λh=>Tot.cnd (λk=>Tot.ret ?_) λk=>Tot.ret ?_
 ·have h:=of_decide_eq_true h;unfold bB;rw[decide_eq_false (by omega)];rfl
 ·have k:=of_decide_eq_true k;unfold bB;rw[decide_eq_false (by omega)];rfl
 ·have h:=of_decide_eq_false h;have k:=of_decide_eq_false k;unfold bB;rw[decide_eq_true (by omega)];rfl
theorem ranged_e(x:GEdit)(h1:x.Via.length≤100000)(h2:x.Parts.length≤100000): Ev (λn=>edit_ranged n x) (rangB x):=by
 refine Tot.fn (λ_=>rfl) (Tot.cnd (λa=>?_) λa=>Tot.cnd (λb=>?_) λb=>Tot.bnd (Q:=λc=>c=(x.Kind==7||x.Kind==10)) ?_ λc hc=>Tot.cnd (λc1=>?_) λc1=>?_)
 ·have a':x.Kind=4:=by simpa using a
  have e:rangB x=(idB x.A&&(idB x.B&&tailB x)):=by simp[rangB,a',Bool.and_assoc]
  rw[e]
  refine Tot.e (I1_e x.A) (Tot.cnd (λb=>Tot.e (I1_e x.B) (Tot.cnd (λc=>?_) λc=>Tot.ret (by simp[c]))) λb=>Tot.ret (by simp[b]))
  rw[b,c];exact tail_e x h1 h2
 ·have b':x.Kind=12:=by simpa using b
  have e:rangB x=(idB x.A&&tailB x):=by simp[rangB,b']
  rw[e]
  refine Tot.e (I1_e x.A) (Tot.cnd (λb=>?_) λb=>Tot.ret (by simp[b]))
  rw[b];exact tail_e x h1 h2
 ·refine Tot.cnd (λd=>Tot.ret (by rw[d];rfl)) λd=>Tot.cnd (λf=>Tot.ret (by rw[f];simp)) λf=>Tot.ret (by rw[d,f];rfl)
 ·rw[c1] at hc
  have a':¬x.Kind=4:=by simpa using a
  have b':¬x.Kind=12:=by simpa using b
  have c':x.Kind=7∨x.Kind=10:=by simpa using hc.symm
  have e:rangB x=(bB x.B&&tailB x):=by rcases c' with c | c<;>simp[rangB,c]
  rw[e]
  refine Tot.e (P13_e x) (Tot.cnd (λd=>Tot.ret (by simp at d;simp[d])) λd=>?_)
  simp at d
  rw[d];exact tail_e x h1 h2
 ·rw[c1] at hc
  have a':¬x.Kind=4:=by simpa using a
  have b':¬x.Kind=12:=by simpa using b
  have c':¬x.Kind=7∧¬x.Kind=10:=by simpa using hc.symm
  have e:rangB x=tailB x:=by
   unfold rangB
   rw[bne_iff_ne.2 a',bne_iff_ne.2 b',bne_iff_ne.2 c'.1,bne_iff_ne.2 c'.2];simp
  rw[e]
  exact tail_e x h1 h2
theorem RP1_e(x:GEdit): Ev (λn=>R20_ranged_P1 n x) (!(idB x.ID&&((x.Kind != 4||idB x.A&&idB x.B)&&(x.Kind != 12||idB x.A)))):=by
 refine Tot.e (Rid_e x.ID) (Tot.cnd (λa=>Tot.cnd (λb=>Tot.e (Rid_e x.A) (Tot.cnd (λc=>Tot.e (Rid_e x.B) (Tot.cnd (λd=>Tot.cnd (λe=>?_) λe=>Tot.ret ?_) λd=>Tot.ret ?_)) λc=>Tot.ret ?_)) λb=>Tot.cnd (λc=>Tot.e (Rid_e x.A) (Tot.cnd (λd=>Tot.ret ?_) λd=>Tot.ret ?_)) λc=>Tot.ret ?_) λa=>Tot.ret ?_)
 ·have b:x.Kind=4:=by simpa using b
  have e:x.Kind=12:=by simpa using e
  omega
 all_goals simp_all
theorem RP2_e(x:GEdit): Ev (λn=>R20_ranged_P2 n x) (!(ccB x.C&&(x.Kind != 7&&x.Kind != 10||bB x.B))):=by
 refine Tot.cnd (λa=>Tot.ret ?_) λa=>Tot.cnd (λb=>Tot.ret ?_) λb=>Tot.cnd (λc=>P13_e x |>.imp λr h=>?_) λc=>Tot.cnd (λd=>P13_e x |>.imp λr h=>?_) λd=>Tot.ret ?_
 ·have a:=of_decide_eq_true a;simp[ccB,show ¬(-1073741824≤x.C) by omega]
 ·have b:=of_decide_eq_true b;simp[ccB,show ¬(x.C≤1073741824) by omega]
 all_goals
  have a:=of_decide_eq_false a
  have b:=of_decide_eq_false b
  have k:ccB x.C=true:=decide_eq_true (by omega)
  simp_all
theorem Rranged_e(x:GEdit)(h1:x.Via.length≤100000)(h2:x.Parts.length≤100000): Ev (λn=>R20_ranged n x) (rangB x):=by
 refine Tot.fn (λ_=>rfl) (Tot.e (RP1_e x) (Tot.cnd (λa=>Tot.ret ?_) λa=>Tot.e (RP2_e x) (Tot.cnd (λb=>Tot.ret ?_) λb=>Tot.bnd2 (Tot.dg (L3_e x h1 0)) (λ_ c=>Tot.ret ?_) λ_ c=>Tot.bndc rfl (Tot.bnd2 (Tot.dg (L4_e x h2 0)) (λ_ d=>Tot.ret ?_) λ_ d=>Tot.bndc rfl (Tot.e (V14_e x.At) (tboo ?_))))))
 ·simp only[Bool.not_eq_true'] at a
  unfold rangB tailB
  revert a
  generalize (x.Kind != 4||idB x.A&&idB x.B)=p
  generalize (x.Kind != 12||idB x.A)=q
  cases idB x.ID<;>cases p<;>cases q<;>simp
 ·simp only[Bool.not_eq_true'] at b
  unfold rangB tailB
  revert b
  generalize (x.Kind != 7&&x.Kind != 10||bB x.B)=p
  cases ccB x.C<;>cases p<;>simp
 ·have c:x.Via.all ptB=false:=c
  simp only[rangB,tailB,c,Bool.and_false,Bool.false_and]
 ·have d:x.Parts.all idB=false:=d
  simp only[rangB,tailB,d,Bool.and_false,Bool.false_and]
 ·have c:x.Via.all ptB=true:=c
  have d:x.Parts.all idB=true:=d
  simp only[Bool.not_eq_false',Bool.and_eq_true] at a b
  simp only[rangB,tailB,c,d,a.1,a.2.1,a.2.2,b.1,b.2,Bool.and_true,Bool.true_and]
def bareB(x:GEdit): Bool:=
 (x.Kind==1||x.Kind==3||decide (x.At=GPoint.mk 0 0))&&((x.Kind==4||x.Kind==7||x.Kind==12||x.A==0)&&((x.Kind==4||x.Kind==7||x.Kind==10||x.B==0)&&((x.Kind==4||x.C==0) &&
 ((x.Kind==4||x.Kind==6||x.Via.isEmpty)&&((x.Kind==7||x.Kind==9||decide (x.Name=⟨#[]⟩))&&(x.Kind==7||x.Kind==11||x.Parts.isEmpty))))))
def zeroB(x:GEdit): Bool:=decide (x.At=GPoint.mk 0 0)&&(x.A==0&&(x.B==0&&(x.C==0&&(x.Via.isEmpty&&(decide (x.Name=⟨#[]⟩)&&x.Parts.isEmpty)))))
theorem ln_pos{α:Type}(l:List α): decide (ln l > 0)=!l.isEmpty:=by cases l<;>simp<;>omega
theorem ln_z{α:Type}(l:List α): (ln l==0)=l.isEmpty:=by cases l<;>simp<;>omega
theorem P3_eq(n:Nat)(x:GEdit): edit_foreign_P3 n x=some (!zeroB x):=by
 simp only[edit_foreign_P3,pc1,edit_foreign_P3_B,zeroB,cd,ln_pos,bne]
 generalize decide (x.At=GPoint.mk 0 0)=a
 generalize (x.A==0)=b
 generalize (x.B==0)=c
 generalize (x.C==0)=d
 generalize x.Via.isEmpty=e
 generalize decide (x.Name=(⟨#[]⟩:ByteArray))=f
 generalize x.Parts.isEmpty=g
 cases a<;>cases b<;>cases c<;>cases d<;>cases e<;>cases f<;>cases g<;>rfl
theorem FP2_e(k:Int): Ev (λn=>edit_foreign_P2 n k) (k==1||k==3):=Tot.cnd (λh=>Tot.ret (by rw[h];rfl)) λh=>Tot.cnd (λi=>Tot.ret (by rw[i];simp)) λi=>Tot.ret (by rw[h,i];rfl)
theorem foreign_e(x:GEdit): Ev (λn=>edit_foreign n x) (!bareB x):=by
 refine Tot.fn (λ_=>rfl) (Tot.bnd (Q:=λy=>zeroB y=bareB x) (Tot.e (FP2_e x.Kind) ?_) λy hy=>Tot.e (.mk 0 λn _=>P3_eq n y) (by rw[hy];exact tboo rfl))
 refine Tot.cnd (λa=>Tot.ret ?_) λa=>Tot.cnd (λb=>Tot.ret ?_) λb=>Tot.cnd (λc=>Tot.ret ?_) λc=>Tot.cnd (λd=>Tot.ret ?_) λd=>Tot.cnd (λe=>Tot.ret ?_) λe=>Tot.cnd (λf=>Tot.ret ?_) λf=>Tot.cnd (λg=>Tot.ret ?_) λg=>Tot.cnd (λh=>Tot.ret ?_) λh=>Tot.ret ?_
 ·have a:x.Kind=1∨x.Kind=3:=by simpa using a
  rcases a with a | a<;>simp[zeroB,bareB,a]
 all_goals
  have a:¬x.Kind=1∧¬x.Kind=3:=by simpa using a
 ·have b:x.Kind=4:=by simpa using b
  simp[zeroB,bareB,b]
 all_goals have b:¬x.Kind=4:=by simpa using b
 ·have c:x.Kind=6:=by simpa using c
  simp[zeroB,bareB,c]
 all_goals have c:¬x.Kind=6:=by simpa using c
 ·have d:x.Kind=7:=by simpa using d
  simp[zeroB,bareB,d]
 all_goals have d:¬x.Kind=7:=by simpa using d
 ·have e:x.Kind=9:=by simpa using e
  simp[zeroB,bareB,e]
 all_goals have e:¬x.Kind=9:=by simpa using e
 ·have f:x.Kind=10:=by simpa using f
  simp[zeroB,bareB,f]
 all_goals have f:¬x.Kind=10:=by simpa using f
 ·have g:x.Kind=11:=by simpa using g
  simp[zeroB,bareB,g]
 all_goals have g:¬x.Kind=11:=by simpa using g
 ·have h:x.Kind=12:=by simpa using h
  simp[zeroB,bareB,h]
 all_goals have h:¬x.Kind=12:=by simpa using h
 ·simp[zeroB,bareB,beq_false_of_ne a.1,beq_false_of_ne a.2,beq_false_of_ne b,beq_false_of_ne c,beq_false_of_ne d,beq_false_of_ne e,beq_false_of_ne f,beq_false_of_ne g,beq_false_of_ne h]
theorem BP2_eq(n:Nat)(x:GEdit)(t a b c:Bool): R20_bare_P2 n (x,t,a,b,c)=some (!((t||decide (x.At=GPoint.mk 0 0))&&((a||x.A==0)&&((b||x.B==0)&&(c||x.C==0))))):=by
 simp only[R20_bare_P2,pc1,R20_bare_P2_B,cd,bne]
 generalize decide (x.At=GPoint.mk 0 0)=p
 generalize (x.A==0)=q
 generalize (x.B==0)=r
 generalize (x.C==0)=s
 cases t<;>cases a<;>cases b<;>cases c<;>cases p<;>cases q<;>cases r<;>cases s<;>rfl
theorem BP3_eq(n:Nat)(x:GEdit)(v m p:Bool): R20_bare_P3 n (x,v,m,p)=some ((v||x.Via.isEmpty)&&((m||decide (x.Name=⟨#[]⟩))&&(p||x.Parts.isEmpty))):=by
 simp only[R20_bare_P3,pc1,R20_bare_P3_B,cd,ln_z]
 generalize decide (x.Name=(⟨#[]⟩:ByteArray))=q
 generalize x.Via.isEmpty=r
 generalize x.Parts.isEmpty=s
 cases v<;>cases m<;>cases p<;>cases q<;>cases r<;>cases s<;>rfl
def barS(x:GEdit)(t a b c v m p:Bool): Bool:=((t||decide (x.At=GPoint.mk 0 0))&&((a||x.A==0)&&((b||x.B==0)&&(c||x.C==0))))&&((v||x.Via.isEmpty)&&((m||decide (x.Name=⟨#[]⟩))&&(p||x.Parts.isEmpty)))
theorem bare_of{x:GEdit}{s:ByteArray}{t a b c v m p:Bool}(h:∀n,R20_bare_L1 (n+6) s (false,false,false,false,false,false,false,0)=some (t,a,b,c,v,m,p)): Ev (λn=>R20_bare n x s) (barS x t a b c v m p):=by
 refine Tot.fn (λ_=>rfl) (Tot.e (r:=(t,a,b,c,v,m,p)) (Ev.mk 6 λn hn=>by
  obtain⟨n,rfl⟩:∃k,n=k+6:=⟨n-6,by omega⟩
  exact h n) (Tot.e (.mk 0 λn _=>BP2_eq n x t a b c) (Tot.cnd (λk=>Tot.ret ?_) λk=>Tot.e (.mk 0 λn _=>BP3_eq n x v m p) (tboo ?_))))
 ·simp only[Bool.not_eq_true'] at k;unfold barS;rw[k];rfl
 ·simp only[Bool.not_eq_false'] at k;unfold barS;rw[k];rfl
theorem bare_e(x:GEdit): Tot (λn _=>bnd (R20_fields n x.Kind) λc=>R20_bare n x c) λb=>b=bareB x:=by
 have key:∀{s:ByteArray} {b:Bool},Ev (λn=>R20_bare n x s) b->b=bareB x->Tot (λn _=>R20_bare n x s) λb=>b=bareB x:=λh e=>by rw[e] at h;exact h
 refine Tot.bnd (Q:=λs=>Tot (λn _=>R20_bare n x s) λb=>b=bareB x) (Tot.fn (λ_=>rfl) (Tot.e (FP2_e x.Kind) ?_)) λs hs=>hs
 refine Tot.cnd (λa=>Tot.ret (key (bare_of (t:=true) (a:=false) (b:=false) (c:=false) (v:=false) (m:=false) (p:=false) λn=>by kernel_rfl) ?_)) λa=>Tot.cnd (λb=>Tot.ret (key (bare_of (t:=false) (a:=true) (b:=true) (c:=true) (v:=true) (m:=false) (p:=false) λn=>by kernel_rfl) ?_)) λb=>Tot.cnd (λc=>Tot.ret (key (bare_of (t:=false) (a:=false) (b:=false) (c:=false) (v:=true) (m:=false) (p:=false) λn=>by kernel_rfl) ?_)) λc=>Tot.cnd (λd=>Tot.ret (key (bare_of (t:=false) (a:=true) (b:=true) (c:=false) (v:=false) (m:=true) (p:=true) λn=>by kernel_rfl) ?_)) λd=>Tot.cnd (λe=>Tot.ret (key (bare_of (t:=false) (a:=false) (b:=false) (c:=false) (v:=false) (m:=true) (p:=false) λn=>by kernel_rfl) ?_)) λe=>Tot.cnd (λf=>Tot.ret (key (bare_of (t:=false) (a:=false) (b:=true) (c:=false) (v:=false) (m:=false) (p:=false) λn=>by kernel_rfl) ?_)) λf=>Tot.cnd (λg=>Tot.ret (key (bare_of (t:=false) (a:=false) (b:=false) (c:=false) (v:=false) (m:=false) (p:=true) λn=>by kernel_rfl) ?_)) λg=>Tot.cnd (λh=>Tot.ret (key (bare_of (t:=false) (a:=true) (b:=false) (c:=false) (v:=false) (m:=false) (p:=false) λn=>by kernel_rfl) ?_)) λh=>Tot.ret (key (bare_of (t:=false) (a:=false) (b:=false) (c:=false) (v:=false) (m:=false) (p:=false) λn=>by kernel_rfl) ?_)
 ·have a:x.Kind=1∨x.Kind=3:=by simpa using a
  rcases a with a | a<;>simp[barS,bareB,a,Bool.and_assoc]
 all_goals
  have a:¬x.Kind=1∧¬x.Kind=3:=by simpa using a
 ·have b:x.Kind=4:=by simpa using b
  simp[barS,bareB,b,Bool.and_assoc]
 all_goals have b:¬x.Kind=4:=by simpa using b
 ·have c:x.Kind=6:=by simpa using c
  simp[barS,bareB,c,Bool.and_assoc]
 all_goals have c:¬x.Kind=6:=by simpa using c
 ·have d:x.Kind=7:=by simpa using d
  simp[barS,bareB,d,Bool.and_assoc]
 all_goals have d:¬x.Kind=7:=by simpa using d
 ·have e:x.Kind=9:=by simpa using e
  simp[barS,bareB,e,Bool.and_assoc]
 all_goals have e:¬x.Kind=9:=by simpa using e
 ·have f:x.Kind=10:=by simpa using f
  simp[barS,bareB,f,Bool.and_assoc]
 all_goals have f:¬x.Kind=10:=by simpa using f
 ·have g:x.Kind=11:=by simpa using g
  simp[barS,bareB,g,Bool.and_assoc]
 all_goals have g:¬x.Kind=11:=by simpa using g
 ·have h:x.Kind=12:=by simpa using h
  simp[barS,bareB,h,Bool.and_assoc]
 all_goals have h:¬x.Kind=12:=by simpa using h
 ·simp[barS,bareB,beq_false_of_ne a.1,beq_false_of_ne a.2,beq_false_of_ne b,beq_false_of_ne c,beq_false_of_ne d,beq_false_of_ne e,beq_false_of_ne f,beq_false_of_ne g,beq_false_of_ne h,Bool.and_assoc]
def ascB: List Int->Bool
 | []=>true
 | a::l=>(match l with | []=>true | b::_=>decide (a<b))&&ascB l
theorem asc_e(l:List Int)(hl:l.length≤100000)(i:Nat): Tot (λn m=>lm2 idset_Valid_L1_B n m l ((i+1:Nat):Int)) (Su (λ_=>ascB (l.drop i)=false) λ_=>ascB (l.drop i)=true):=
 up_ind (N:=l.length) (T:=λi=>Tot (λn m=>lm2 idset_Valid_L1_B n m l ((i+1:Nat):Int)) (Su (λ_=>ascB (l.drop i)=false) λ_=>ascB (l.drop i)=true)) (λi ih=>Tot.l2 (Tot.cnd (λh=>by
  have h:i+1<l.length:=by have:=of_decide_eq_true h;simp only[ln] at this;omega
  rw[wr_p (by omega) (by omega),wr_s (by omega),show i+1-1=i by omega]
  refine Tot.bndc (idx_get (by omega)) (Tot.bndc (idx_get h) ?_)
  have e:ascB (l.drop i)=(decide (l[i]<l[i+1])&&ascB (l.drop (i+1))):=by
   rw[drop_nat (by omega:i<l.length),drop_nat h];rfl
  rw[e]
  refine Tot.cnd (λk=>Tot.ret ?_) λk=>?_
  ·have k:=of_decide_eq_true k
   show (_&&_)=false
   rw[decide_eq_false (by omega)];rfl
  ·have k:=of_decide_eq_false k
   rw[decide_eq_true (by omega),Bool.true_and]
   exact ih (by omega)) λh=>Tot.ret (by
  have h:¬i+1<l.length:=by have:=of_decide_eq_false h;simp only[ln] at this;omega
  show ascB (l.drop i)=true
  rcases Nat.lt_or_ge i l.length with k | k
  ·rw[drop_nat k,List.drop_eq_nil_of_le (by omega)];rfl
  ·rw[List.drop_eq_nil_of_le k];rfl))) i
theorem Valid_e(l:List Int)(hl:l.length≤100000): Ev (λn=>idset_Valid n l) (ascB l):=
 Tot.fn (λ_=>rfl) (Tot.bnd2 (Tot.dg (asc_e l hl 0)) (λ_ h=>Tot.ret (show false=ascB l from (show ascB l=false from h).symm)) λ_ h=>Tot.bndc rfl (Tot.ret (show true=ascB l from (show ascB l=true from h).symm)))
theorem RL3_e(x:GEdit)(hl:x.Parts.length≤100000): Tot (λn m=>lm2 R20_Check_L3_B n m x 1) (Su (λ_=>ascB x.Parts=false) λ_=>ascB x.Parts=true):=asc_e x.Parts hl 0
def shapeV(a:Int): Int:=if a=1∨a=2∨a=8 then 1 else if a=3∨a=4 then 2 else if a=5∨a=6∨a=7 then 3 else 0
theorem Shape_eq(n:Nat)(a:Int): feature_Shape (n+1) a=some (shapeV a):=by
 simp only[feature_Shape,shapeV,cnd_ite,beq_iff_eq]
 repeat' split
 all_goals first | rfl | (exfalso;omega)
theorem RShape_eq(n:Nat)(a:Int): R17_Shape (n+1) a=some (shapeV a):=by
 simp only[R17_Shape,R17_Shape_P1,R17_Shape_P2,pc1,R17_Shape_P1_B,R17_Shape_P2_B,shapeV,cnd_ite,beq_iff_eq]
 by_cases h1:a=1∨a=2∨a=8
 ·rw[if_pos h1];rcases h1 with rfl | rfl | rfl<;>rfl
 ·rw[if_neg h1,if_neg (by omega),if_neg (by omega),if_neg (by omega)]
  by_cases h2:a=3∨a=4
  ·rw[if_pos h2];rcases h2 with rfl | rfl<;>rfl
  ·rw[if_neg h2,if_neg (by omega),if_neg (by omega)]
   by_cases h3:a=5∨a=6∨a=7
   ·rw[if_pos h3];rcases h3 with rfl | rfl | rfl<;>rfl
   ·rw[if_neg h3]
    simp only[bnd,Bool.false_eq_true,if_false]
    rw[if_neg (by omega),if_neg (by omega),if_neg (by omega)]
def kindB(x:GEdit): Bool:=decide (x.Kind<1∨12<x.Kind)||(x.Kind==7&&shapeV x.A==0)
def longB(x:GEdit): Bool:=decide (64<x.Via.length∨64<x.Parts.length)
def nameB(x:GEdit): Bool:=!decide (x.Name=⟨#[]⟩)&&nameE x.Name != 0
def chkV(x:GEdit): Int:=if kindB x then 9 else if bareB x then (if longB x then 3 else if rangB x then (if ascB x.Parts then (if nameB x then 14 else 0) else 10) else 2) else 1
theorem CP3_e(x:GEdit): Ev (λn=>edit_Check_P3 n x) (longB x):=Tot.cnd (λh=>Tot.ret (decide_eq_true (.inl (by have:=of_decide_eq_true h;simp only[ln] at this;omega))).symm) λh=>Tot.cnd (λk=>Tot.ret (decide_eq_true (.inr (by have:=of_decide_eq_true k;simp only[ln] at this;omega))).symm) λk=>Tot.ret (decide_eq_false (by
 have h:=of_decide_eq_false h
 have k:=of_decide_eq_false k
 simp only[ln] at h k
 omega)).symm
theorem NP4_e(x:GEdit): Ev (λn=>edit_Check_P4 n x) (nameB x):=Tot.cnd (λh=>Tot.ret (by unfold nameB;rw[h];rfl)) λh=>Tot.e (Check_e x.Name) (by
 have e:nameB x=(nameE x.Name != 0):=by unfold nameB;rw[h];rfl
 rw[e];exact tboo rfl)
theorem RP4_e(x:GEdit): Ev (λn=>R20_Check_P4 n x) (nameB x):=Tot.cnd (λh=>Tot.ret (by unfold nameB;rw[h];rfl)) λh=>Tot.e (RCheck_e x.Name) (by
 have e:nameB x=(nameE x.Name != 0):=by unfold nameB;rw[h];rfl
 rw[e];exact tboo rfl)
theorem long_le{x:GEdit}(h:longB x=false): x.Via.length≤100000∧x.Parts.length≤100000:=by
 have:=of_decide_eq_false h
 omega
theorem ECheck_e(x:GEdit): Ev (λn=>edit_Check n x) (chkV x):=by
 refine Tot.fn (λ_=>rfl) (Tot.bnd (Q:=λb=>b=decide (x.Kind<1∨12<x.Kind)) ?_ λb hb=>Tot.cnd (λh=>Tot.ret ?_) λh=>Tot.bnd (Q:=λc=>c=(x.Kind==7&&shapeV x.A==0)) ?_ λc hc=>Tot.cnd (λk=>Tot.ret ?_) λk=>?_)
 ·refine Tot.cnd (λh=>Tot.ret ?_) λh=>Tot.cnd (λk=>Tot.ret ?_) λk=>Tot.ret ?_
  ·have h:=of_decide_eq_true h;exact (decide_eq_true (.inl h)).symm
  ·have k:=of_decide_eq_true k;exact (decide_eq_true (.inr k)).symm
  ·have h:=of_decide_eq_false h;have k:=of_decide_eq_false k;exact (decide_eq_false (by omega)).symm
 ·unfold chkV kindB;rw[←hb,h];rfl
 ·refine Tot.cnd (λh=>Tot.e (.mk 1 λn hn=>by
   obtain⟨n,rfl⟩:∃k,n=k+1:=⟨n-1,by omega⟩
   exact Shape_eq n x.A) ?_) λh=>Tot.ret (by rw[h];rfl)
  rw[h,Bool.true_and];exact tboo rfl
 ·unfold chkV kindB;rw[←hc,k,Bool.or_true];rfl
 have hk:kindB x=false:=by unfold kindB;rw[←hb,←hc,h,k];rfl
 unfold chkV
 rw[hk]
 simp only[Bool.false_eq_true,if_false]
 refine Tot.e (foreign_e x) (Tot.cnd (λa=>Tot.ret ?_) λa=>Tot.e (CP3_e x) (Tot.cnd (λb=>Tot.ret ?_) λb=>Tot.e (ranged_e x (long_le b).1 (long_le b).2) (Tot.cnd (λc=>Tot.e (Valid_e _ (long_le b).2) (Tot.cnd (λd=>Tot.e (NP4_e x) (Tot.cnd (λe=>Tot.ret ?_) λe=>Tot.ret ?_)) λd=>Tot.ret ?_)) λc=>Tot.ret ?_)))
 ·simp only[Bool.not_eq_true'] at a;rw[a];rfl
 all_goals
  simp only[Bool.not_eq_false'] at a
  simp_all
theorem RRCheck_e(x:GEdit): Ev (λn=>R20_Check n x) (chkV x):=by
 refine Tot.fn (λ_=>rfl) (Tot.bnd (Q:=λb=>b=kindB x) ?_ λb hb=>Tot.cnd (λh=>Tot.ret ?_) λh=>?_)
 ·unfold kindB
  refine Tot.cnd (λh=>Tot.ret ?_) λh=>Tot.cnd (λk=>Tot.ret ?_) λk=>?_
  ·have h:=of_decide_eq_true h;rw[decide_eq_true (.inl h)];rfl
  ·have k:=of_decide_eq_true k;rw[decide_eq_true (.inr k)];rfl
  ·have h:=of_decide_eq_false h;have k:=of_decide_eq_false k;rw[decide_eq_false (by omega),Bool.false_or]
   refine Tot.cnd (λh=>Tot.e (.mk 1 λn hn=>by
    obtain⟨n,rfl⟩:∃k,n=k+1:=⟨n-1,by omega⟩
    exact RShape_eq n x.A) ?_) λh=>Tot.ret (by rw[h];rfl)
   rw[h,Bool.true_and];exact tboo rfl
 ·unfold chkV;rw[←hb,h];rfl
 unfold chkV
 rw[←hb,h]
 simp only[Bool.false_eq_true,if_false]
 have bb:=bare_e x
 obtain⟨r,hr,K,hK⟩:=bb
 subst hr
 have key:∀{P:Int->Prop} {g:Nat->Nat->Bool->Option Int},Tot (λn m=>g n m (bareB x)) P->Tot (λn m=>bnd (R20_fields n x.Kind) λc=>bnd (R20_bare n x c) λd=>g n m d) P:=by
  intro P g hg
  obtain⟨s,hs,J,hJ⟩:=hg
  refine⟨s,hs,max K J,λn m hn hm=>?_⟩
  have h1:bnd (R20_fields n x.Kind) (λc=>R20_bare n x c)=some (bareB x):=hK n m (by omega) (by omega)
  show bnd (R20_fields n x.Kind) (λc=>bnd (R20_bare n x c) λd=>g n m d)=some s
  cases hf:R20_fields n x.Kind with
  | none=>rw[hf] at h1;cases h1
  | some c=>
   rw[hf] at h1
   have h1:R20_bare n x c=some (bareB x):=h1
   show bnd (R20_bare n x c) (λd=>g n m d)=some s
   rw[h1]
   exact hJ n m (by omega) (by omega)
 refine key (Tot.cnd (λa=>Tot.e (CP3_e x) (Tot.cnd (λb=>Tot.ret ?_) λb=>Tot.e (Rranged_e x (long_le b).1 (long_le b).2) (Tot.cnd (λc=>Tot.bnd2 (Tot.dg (RL3_e x (long_le b).2)) (λ_ d=>Tot.ret ?_) λ_ d=>Tot.bndc rfl (Tot.e (RP4_e x) (Tot.cnd (λe=>Tot.ret ?_) λe=>Tot.ret ?_))) λc=>Tot.ret ?_))) λa=>Tot.ret ?_)
 ·simp_all
 ·have d:ascB x.Parts=false:=d
  simp_all
 ·have d:ascB x.Parts=true:=d
  simp_all
 ·have d:ascB x.Parts=true:=d
  simp_all
 ·simp_all
 ·rw[a];rfl
def vl: Nat->Nat->List Int
 | 0,_=>[]
 | f+1,u=>if u<128 then[(u:Int)] else ((u % 128+128:Nat):Int)::vl f (u / 128)
theorem vl_len: ∀(f u:Nat),(vl f u).length≤f
 | 0,_=>Nat.le_refl _
 | f+1,u=>by
  have:=vl_len f (u / 128)
  unfold vl;split
  ·simp
  ·simp;omega
theorem u64_w(x:Int): IntKind.u64.wrap x=x % 18446744073709551616:=IntKind.wrap_u64 x
theorem u32_w(x:Int): IntKind.u32.wrap x=x % 4294967296:=IntKind.wrap_u32 x
theorem u8_w(x:Int): IntKind.u8.wrap x=x % 256:=IntKind.wrap_u8 x
theorem ofI(w n:Nat)(h:n<2 ^ w): (BitVec.ofInt w (n:Int)).toNat=n:=by
 rw[BitVec.ofInt_natCast,BitVec.toNat_ofNat,Nat.mod_eq_of_lt h]
theorem notI64(n:Nat)(h:n<18446744073709551616): notI .u64 (n:Int)=18446744073709551615-(n:Int):=by
 show IntKind.u64.wrap (((BitVec.ofInt 64 18446744073709551615 ^^^ BitVec.ofInt 64 (n:Int)).toNat:Nat):Int)=_
 rw[show (BitVec.ofInt 64 18446744073709551615)=BitVec.allOnes 64 from by decide,BitVec.allOnes_xor,BitVec.toNat_not,ofI 64 n h,u64_w]
 omega
theorem xorI32(a b:Nat)(ha:a<4294967296)(hb:b<4294967296): bitI .xor .u32 (a:Int) (b:Int)=((a ^^^ b:Nat):Int)∧a ^^^ b<4294967296:=by
 have h:a ^^^ b<2 ^ 32:=Nat.xor_lt_two_pow ha hb
 refine⟨?_,h⟩
 show IntKind.u32.wrap (((BitVec.ofInt 32 (a:Int) ^^^ BitVec.ofInt 32 (b:Int)).toNat:Nat):Int)=_
 rw[BitVec.toNat_xor,ofI 32 a ha,ofI 32 b hb,u32_w]
 omega
theorem andI15(a:Nat)(ha:a<4294967296): bitI .and .u32 (a:Int) 15=((a % 16:Nat):Int):=by
 show IntKind.u32.wrap (((BitVec.ofInt 32 (a:Int) &&& BitVec.ofInt 32 ((15:Nat):Int)).toNat:Nat):Int)=_
 rw[BitVec.toNat_and,ofI 32 a ha,ofI 32 15 (by decide),u32_w,show (15:Nat)=2 ^ 4-1 from rfl,Nat.and_two_pow_sub_one_eq_mod]
 omega
theorem notI32(n:Nat)(h:n<4294967296): notI .u32 (n:Int)=((4294967295-n:Nat):Int):=by
 show IntKind.u32.wrap (((BitVec.ofInt 32 4294967295 ^^^ BitVec.ofInt 32 (n:Int)).toNat:Nat):Int)=_
 rw[show (BitVec.ofInt 32 4294967295)=BitVec.allOnes 32 from by decide,BitVec.allOnes_xor,BitVec.toNat_not,ofI 32 n h,u32_w]
 omega
theorem orI8a: ∀m<256,bitI .or .u8 ((m:Nat):Int) 128=((m % 128+128:Nat):Int):=by decide
theorem orI8(u:Nat): bitI .or .u8 (IntKind.u8.wrap (u:Int)) 128=((u % 128+128:Nat):Int):=by
 rw[u8_w,show (u:Int) % 256=((u % 256:Nat):Int) by omega,orI8a _ (by omega)]
 omega
theorem shr7(u:Nat): shrI .u64 (u:Int) 7=((u / 128:Nat):Int):=by
 show (u:Int).fdiv 128=_
 rw[Int.fdiv_eq_ediv_of_nonneg _ (by decide)];omega
theorem shr4(u:Nat): shrI .u32 (u:Int) 4=((u / 16:Nat):Int):=by
 show (u:Int).fdiv 16=_
 rw[Int.fdiv_eq_ediv_of_nonneg _ (by decide)];omega
theorem bnd_s{α β:Type}(x:α)(f:α->Option β): bnd (some x) f=f x:=rfl
theorem put_step{X:Type}{u f:Nat}{A:List Int}{N c:List Int->Option X}(hA:A.length<1000000)(hN:128≤u->N (A++[((u % 128+128:Nat):Int)])=c ((A++[((u % 128+128:Nat):Int)])++vl f (u / 128))):
 cd ((u:Int)≥128) (bnd (app A [bitI .or .u8 (IntKind.u8.wrap (u:Int)) 128]) N) (bnd (app A [IntKind.u8.wrap (u:Int)]) c)=c (A++vl (f+1) u):=by
 rw[orI8,app_of (by simp;omega),app_of (by simp;omega),bnd_s,bnd_s]
 by_cases h:128≤u
 ·rw[show cd ((u:Int)≥128) (N (A++[((u % 128+128:Nat):Int)])) (c (A++[IntKind.u8.wrap (u:Int)]))=N (A++[((u % 128+128:Nat):Int)]) by
   rw[cd,decide_eq_true (by omega)];rfl,hN h,vl,if_neg (by omega),List.append_assoc];rfl
 ·rw[show cd ((u:Int)≥128) (N (A++[((u % 128+128:Nat):Int)])) (c (A++[IntKind.u8.wrap (u:Int)]))=c (A++[IntKind.u8.wrap (u:Int)]) by
   rw[cd,decide_eq_false (by omega)];rfl,vl,if_pos (by omega),u8_w]
  congr 3;omega
theorem put_stepR{X:Type}{u f:Nat}{A:List Int}{N:List Int->Int->Option X}{c:List Int->Option X}(hu:u<18446744073709551616)(hA:A.length<1000000)(hN:128≤u->N (A++[((u % 128+128:Nat):Int)]) ((u / 128:Nat):Int)=c ((A++[((u % 128+128:Nat):Int)])++vl f (u / 128))):
 cd ((u:Int)≥128) (bnd (remO (u:Int) 128) λd=>bnd (app A [IntKind.u8.wrap ((IntKind.u8.wrap d)+128)]) λf=>bnd (quoO .u64 (u:Int) 128) λg=>N f g) (bnd (app A [IntKind.u8.wrap (u:Int)]) c)=c (A++vl (f+1) u):=by
 have e1:remO (u:Int) 128=some ((u % 128:Nat):Int):=remO_nat u 128 (by decide)
 have e2:quoO .u64 (u:Int) 128=some ((u / 128:Nat):Int):=by
  have:quoO .u64 (u:Int) ((128:Nat):Int)=some (IntKind.u64.wrap ((u / 128:Nat):Int)):=by
   unfold quoO
   rw[if_neg (by decide),tdiv_nat]
  rw[show (128:Int)=((128:Nat):Int) from rfl,this,u64_w];congr 1;omega
 have e3:IntKind.u8.wrap ((IntKind.u8.wrap ((u % 128:Nat):Int))+128)=((u % 128+128:Nat):Int):=by rw[u8_w,u8_w];omega
 rw[e1,bnd_s,e3,app_of (by simp;omega),app_of (by simp;omega),bnd_s,bnd_s,e2,bnd_s]
 by_cases h:128≤u
 ·rw[show cd ((u:Int)≥128) (N (A++[((u % 128+128:Nat):Int)]) ((u / 128:Nat):Int)) (c (A++[IntKind.u8.wrap (u:Int)]))=N (A++[((u % 128+128:Nat):Int)]) ((u / 128:Nat):Int) by
   rw[cd,decide_eq_true (by omega)];rfl,hN h,vl,if_neg (by omega),List.append_assoc];rfl
 ·rw[show cd ((u:Int)≥128) (N (A++[((u % 128+128:Nat):Int)]) ((u / 128:Nat):Int)) (c (A++[IntKind.u8.wrap (u:Int)]))=c (A++[IntKind.u8.wrap (u:Int)]) by
   rw[cd,decide_eq_false (by omega)];rfl,vl,if_pos (by omega),u8_w]
  congr 3;omega
def zig(b:Int): Nat:=if b<0 then 18446744073709551615-(2*(b % 18446744073709551616)).toNat % 18446744073709551616 else (2*(b % 18446744073709551616)).toNat % 18446744073709551616
theorem zig_lt(b:Int): zig b<18446744073709551616:=by unfold zig;split<;>omega
theorem shl1(b:Int): shlI .u64 (IntKind.u64.wrap b) 1=(((2*(b % 18446744073709551616)).toNat % 18446744073709551616:Nat):Int):=by
 show IntKind.u64.wrap (IntKind.u64.wrap b*2)=_
 rw[u64_w,u64_w];omega
theorem P2z(n:Nat)(b:Int): wire_PutInt_P2 n (b,shlI .u64 (IntKind.u64.wrap b) 1)=some ((zig b:Nat):Int):=by
 simp only[wire_PutInt_P2,pc1,wire_PutInt_P2_B,shl1,cd,zig]
 by_cases h:b<0
 ·rw[decide_eq_true h,if_pos h,notI64 _ (by omega)]
  show some _=_
  congr 1;omega
 ·rw[decide_eq_false h,if_neg h];rfl
theorem P1z(n:Nat)(b:Int): R02_PutInt_P1 n (b,IntKind.u64.wrap (2*IntKind.u64.wrap b))=some ((zig b:Nat):Int):=by
 simp only[R02_PutInt_P1,pc1,R02_PutInt_P1_B,cd,zig,u64_w,wr,IntKind.wrap_i64]
 by_cases h:b<0
 ·rw[decide_eq_true h,if_pos h]
  show some _=_
  congr 1;omega
 ·rw[decide_eq_false h,if_neg h]
  show some _=_
  congr 1;omega
def vi(b:Int): List Int:=vl 10 (zig b)
theorem vi_len(b:Int): (vi b).length≤10:=vl_len _ _
theorem g7: grd (decide ((0:Nat)≤7))=some ():=rfl
theorem g1: grd (decide ((0:Nat)≤1))=some ():=rfl
theorem I1z(n:Nat)(a:List Int)(b:Int)(ha:a.length≤999900)(hn:10≤n): wire_PutInt_I1 (n+1) (a,b)=some ([],a++vi b):=by
 have hz:=zig_lt b
 unfold vi
 simp only[wire_PutInt_I1,in1,prd,pc1,wire_PutInt_I1_B,bnd_s,g1,P2z,g7,Nat.ble_eq_true_of_le hn,show grd true=some () from rfl]
 generalize zig b=u at hz
 simp only[shr7]
 refine put_step (A:=a) (c:=λs=>some (([]:List Int),s)) (by omega) λh0=>?_
 refine put_step (c:=λs=>some (([]:List Int),s)) (by simp;omega) λh1=>?_
 refine put_step (c:=λs=>some (([]:List Int),s)) (by simp;omega) λh2=>?_
 refine put_step (c:=λs=>some (([]:List Int),s)) (by simp;omega) λh3=>?_
 refine put_step (c:=λs=>some (([]:List Int),s)) (by simp;omega) λh4=>?_
 refine put_step (c:=λs=>some (([]:List Int),s)) (by simp;omega) λh5=>?_
 refine put_step (c:=λs=>some (([]:List Int),s)) (by simp;omega) λh6=>?_
 refine put_step (c:=λs=>some (([]:List Int),s)) (by simp;omega) λh7=>?_
 refine put_step (c:=λs=>some (([]:List Int),s)) (by simp;omega) λh8=>?_
 refine put_step (c:=λs=>some (([]:List Int),s)) (by simp;omega) λh9=>?_
 omega
theorem I2z(n:Nat)(a:List Int)(b:Int)(ha:a.length≤999900)(hn:10≤n): wire_PutList_I2 (n+1) (a,b)=some (a++vi b,[]):=by
 have hz:=zig_lt b
 unfold vi
 simp only[wire_PutList_I2,in1,prd,pc1,wire_PutList_I2_B,bnd_s,g1,P2z,g7,Nat.ble_eq_true_of_le hn,show grd true=some () from rfl]
 generalize zig b=u at hz
 simp only[shr7]
 refine put_step (A:=a) (c:=λs=>some (s,([]:List Int))) (by omega) λh0=>?_
 refine put_step (c:=λs=>some (s,([]:List Int))) (by simp;omega) λh1=>?_
 refine put_step (c:=λs=>some (s,([]:List Int))) (by simp;omega) λh2=>?_
 refine put_step (c:=λs=>some (s,([]:List Int))) (by simp;omega) λh3=>?_
 refine put_step (c:=λs=>some (s,([]:List Int))) (by simp;omega) λh4=>?_
 refine put_step (c:=λs=>some (s,([]:List Int))) (by simp;omega) λh5=>?_
 refine put_step (c:=λs=>some (s,([]:List Int))) (by simp;omega) λh6=>?_
 refine put_step (c:=λs=>some (s,([]:List Int))) (by simp;omega) λh7=>?_
 refine put_step (c:=λs=>some (s,([]:List Int))) (by simp;omega) λh8=>?_
 refine put_step (c:=λs=>some (s,([]:List Int))) (by simp;omega) λh9=>?_
 omega
theorem RPut_eq(n:Nat)(a:List Int)(b:Int)(ha:a.length≤999900)(hn:10≤n): R02_PutInt (n+1) a b=some (a++vi b):=by
 have hz:=zig_lt b
 unfold vi
 simp only[R02_PutInt,bnd_s,P1z,Nat.ble_eq_true_of_le hn,show grd true=some () from rfl]
 generalize zig b=u at hz
 cases a with
 | nil=>
  simp only[List.isEmpty_nil,cnd]
  refine put_stepR (A:=[]) (c:=λs=>some s) hz (by simp) λh0=>?_
  refine put_stepR (c:=λs=>some s) (by omega) (by simp;try omega) λh1=>?_
  refine put_stepR (c:=λs=>some s) (by omega) (by simp;try omega) λh2=>?_
  refine put_stepR (c:=λs=>some s) (by omega) (by simp;try omega) λh3=>?_
  refine put_stepR (c:=λs=>some s) (by omega) (by simp;try omega) λh4=>?_
  refine put_stepR (c:=λs=>some s) (by omega) (by simp;try omega) λh5=>?_
  refine put_stepR (c:=λs=>some s) (by omega) (by simp;try omega) λh6=>?_
  refine put_stepR (c:=λs=>some s) (by omega) (by simp;try omega) λh7=>?_
  refine put_stepR (c:=λs=>some s) (by omega) (by simp;try omega) λh8=>?_
  refine put_stepR (c:=λs=>some s) (by omega) (by simp;try omega) λh9=>?_
  omega
 | cons x a=>
  rw[show List.isEmpty (x::a)=false from rfl]
  simp only[cnd]
  rw[app_of (by simp at ha ⊢;omega)]
  simp only[bnd_s,List.nil_append]
  refine put_stepR (A:=x::a) (c:=λs=>some s) hz (by simp at ha ⊢;omega) λh0=>?_
  refine put_stepR (c:=λs=>some s) (by omega) (by simp at ha ⊢;omega) λh1=>?_
  refine put_stepR (c:=λs=>some s) (by omega) (by simp at ha ⊢;omega) λh2=>?_
  refine put_stepR (c:=λs=>some s) (by omega) (by simp at ha ⊢;omega) λh3=>?_
  refine put_stepR (c:=λs=>some s) (by omega) (by simp at ha ⊢;omega) λh4=>?_
  refine put_stepR (c:=λs=>some s) (by omega) (by simp at ha ⊢;omega) λh5=>?_
  refine put_stepR (c:=λs=>some s) (by omega) (by simp at ha ⊢;omega) λh6=>?_
  refine put_stepR (c:=λs=>some s) (by omega) (by simp at ha ⊢;omega) λh7=>?_
  refine put_stepR (c:=λs=>some s) (by omega) (by simp at ha ⊢;omega) λh8=>?_
  refine put_stepR (c:=λs=>some s) (by omega) (by simp at ha ⊢;omega) λh9=>?_
  omega
theorem gt3{α:Type}(a:List α): grd (decide (0≤ln a∧ln a=ln a∧ln a≤ln a))=some ():=by
 rw[decide_eq_true ⟨by simp,rfl,Int.le_refl _⟩];rfl
theorem tk{α:Type}(a:List α): List.take (Int.toNat (ln a)) a=a:=by simp
theorem PutInt_e(a:List Int)(b:Int)(ha:a.length≤999900): Ev (λn=>wire_PutInt n a b) (a++vi b):=.mk 12 λn hn=>by
 obtain⟨n,rfl⟩:∃k,n=k+2:=⟨n-2,by omega⟩
 rw[wire_PutInt,gt3,bnd_s,tk,I1z n a b ha (by omega)];rfl
theorem RPutInt_e(a:List Int)(b:Int)(ha:a.length≤999900): Ev (λn=>R02_PutInt n a b) (a++vi b):=.mk 12 λn hn=>by
 obtain⟨n,rfl⟩:∃k,n=k+1:=⟨n-1,by omega⟩
 exact RPut_eq n a b ha (by omega)
theorem push_loop{α:Type}(l:List α)(g:α->List Int)(c B:Nat)(hc:∀x∈l,(g x).length≤c){L:Nat->Nat->List Int×Int->Option (List Int)}(step:∀(i:Nat) (a:List Int) (P:List Int->Prop),a.length+c*(l.length-i)≤B->(∀x∈l,l[i]?=some x->i<l.length->Tot (λn m=>L n m (a++g x,((i+1:Nat):Int))) P)->(l.length≤i->P a)->Tot (λn m=>L n m (a,(i:Int))) P):
 ∀(i:Nat) (a:List Int),a.length+c*(l.length-i)≤B->Tot (λn m=>L n m (a,(i:Int))) λr=>r=a++(l.drop i).flatMap g:=
 λi=>up_ind (N:=l.length) (T:=λi=>∀(a:List Int),a.length+c*(l.length-i)≤B->Tot (λn m=>L n m (a,(i:Int))) λr=>r=a++(l.drop i).flatMap g) (λi ih a ha=>step i a _ ha (λx hm hx hi=>by
  refine (ih hi (a++g x) ?_).imp λr hr=>?_
  ·have h1:=hc x hm
   have h2:c*(l.length-i)=c*(l.length-(i+1))+c:=by
    rw[show l.length-i=(l.length-(i+1))+1 by omega,Nat.mul_succ]
   rw[List.length_append];omega
  ·obtain⟨k1,k2⟩:=List.getElem?_eq_some_iff.1 hx
   rw[hr,List.drop_eq_getElem_cons k1,k2,List.flatMap_cons,List.append_assoc]) λh=>by rw[List.drop_eq_nil_of_le h,List.flatMap_nil,List.append_nil]) i
theorem putInts_e(a b:List Int)(hb:b.length≤9000)(h:a.length+10*b.length≤990000): Ev (λn=>codec_putInts n a b) (a++b.flatMap vi):=
 Tot.fn (λ_=>rfl) (Tot.bnd (Q:=λr=>r=a++b.flatMap vi) (Tot.dg (push_loop b vi 10 990000 (λx _=>vi_len x) (L:=λn m p=>lm1 codec_putInts_L1_B n m (b,ln b) p) (λi a P ha h1 h2=>Tot.l1 (Tot.rng (λx hx hi=>Tot.e (PutInt_e a x (by omega)) (by rw[wr_s (by omega)];exact h1 x (List.mem_of_getElem? hx) hx hi)) λh=>Tot.ret (h2 h))) 0 a (by omega))) λr hr=>Tot.ret hr)
theorem put_e(a b:List Int)(hb:b.length≤9000)(h:a.length+10*b.length≤990000): Ev (λn=>R22_put n a b) (a++b.flatMap vi):=
 Tot.fn (λ_=>rfl) (Tot.bnd (Q:=λr=>r=a++b.flatMap vi) (Tot.dg (push_loop b vi 10 990000 (λx _=>vi_len x) (L:=λn m p=>lm1 R22_put_L1_B n m b p) (λi a P ha h1 h2=>Tot.l1 (Tot.rng (λx hx hi=>Tot.e (RPutInt_e a x (by omega)) (by rw[wr_s (by omega)];exact h1 x (List.mem_of_getElem? hx) hx hi)) λh=>Tot.ret (h2 h))) 0 a (by omega))) λr hr=>Tot.ret hr)
def ptL(p:GPoint): List Int:=[p.X,p.Y].flatMap vi
theorem fm_len{α:Type}(l:List α)(g:α->List Int)(c:Nat)(hc:∀x∈l,(g x).length≤c): (l.flatMap g).length≤c*l.length:=by
 induction l with
 | nil=>simp
 | cons x l ih=>
  have h1:=hc x (by simp)
  have h2:=ih λy hy=>hc y (by simp[hy])
  rw[List.flatMap_cons,List.length_append,List.length_cons,Nat.mul_succ];omega
theorem ptL_len(p:GPoint): (ptL p).length≤20:=fm_len [p.X,p.Y] vi 10 λx _=>vi_len x
def pathL(l:List GPoint): List Int:=vi (ln l)++l.flatMap ptL
def listL(l:List Int): List Int:=vi (ln l)++l.flatMap vi
def textL(s:ByteArray): List Int:=vi ((s.size:Nat):Int)++strB s
theorem strB_len(s:ByteArray): (strB s).length=s.size:=by rw[ba_size];simp[strB]
theorem pathL_len(l:List GPoint): (pathL l).length≤10+20*l.length:=by
 have h1:=vi_len (ln l)
 have h2:=fm_len l ptL 20 λx _=>ptL_len x
 unfold pathL;rw[List.length_append];omega
theorem listL_len(l:List Int): (listL l).length≤10+10*l.length:=by
 have h1:=vi_len (ln l)
 have h2:=fm_len l vi 10 λx _=>vi_len x
 unfold listL;rw[List.length_append];omega
theorem textL_len(s:ByteArray): (textL s).length≤10+s.size:=by
 have h1:=vi_len ((s.size:Nat):Int)
 unfold textL;rw[List.length_append,strB_len];omega
theorem putPoints_e(a:List Int)(b:List GPoint)(hb:b.length≤9000)(h:a.length≤700000): Ev (λn=>codec_putPoints n a b) (a++pathL b):=by
 have hv:=vi_len (ln b)
 refine Tot.fn (λ_=>rfl) (Tot.e (PutInt_e a (ln b) (by omega)) (Tot.bnd (Q:=λr=>r=a++pathL b) ((Tot.dg (push_loop b ptL 20 990000 (λx _=>ptL_len x) (L:=λn m p=>lm1 codec_putPoints_L1_B n m (b,ln b) p) (λi a P ha h1 h2=>Tot.l1 (Tot.rng (λx hx hi=>Tot.e (putInts_e a [x.X,x.Y] (by simp) (by simp;omega)) (by rw[wr_s (by omega)];exact h1 x (List.mem_of_getElem? hx) hx hi)) λh=>Tot.ret (h2 h))) 0 (a++vi (ln b)) (by rw[List.length_append];omega))).imp λr hr=>?_) λr hr=>Tot.ret hr))
 rw[hr,pathL,List.drop_zero,List.append_assoc]
theorem points_e(a:List Int)(b:List GPoint)(hb:b.length≤9000)(h:a.length≤700000): Ev (λn=>R22_points n a b) (a++pathL b):=by
 have hv:=vi_len (ln b)
 refine Tot.fn (λ_=>rfl) (Tot.e ((put_e a [ln b] (by simp) (by simp;omega)).to (s:=a++vi (ln b)) (by simp)) (Tot.bnd (Q:=λr=>r=a++pathL b) ((Tot.dg (push_loop b ptL 20 990000 (λx _=>ptL_len x) (L:=λn m p=>lm1 R22_points_L1_B n m b p) (λi a P ha h1 h2=>Tot.l1 (Tot.rng (λx hx hi=>Tot.bndc (by rw[idx_nat];exact hx) (Tot.e (put_e a [x.X,x.Y] (by simp) (by simp;omega)) (by rw[wr_s (by omega)];exact h1 x (List.mem_of_getElem? hx) hx hi))) λh=>Tot.ret (h2 h))) 0 (a++vi (ln b)) (by rw[List.length_append];omega))).imp λr hr=>?_) λr hr=>Tot.ret hr))
 rw[hr,pathL,List.drop_zero,List.append_assoc]
theorem I1_ev(a:List Int)(b:Int)(ha:a.length≤999900): Ev (λn=>wire_PutInt_I1 n (a,b)) ([],a++vi b):=.mk 11 λn hn=>by
 obtain⟨n,rfl⟩:∃k,n=k+1:=⟨n-1,by omega⟩
 exact I1z n a b ha (by omega)
theorem I2_ev(a:List Int)(b:Int)(ha:a.length≤999900): Ev (λn=>wire_PutList_I2 n (a,b)) (a++vi b,[]):=.mk 11 λn hn=>by
 obtain⟨n,rfl⟩:∃k,n=k+1:=⟨n-1,by omega⟩
 exact I2z n a b ha (by omega)
theorem PutText_e(a:List Int)(s:ByteArray)(hs:s.size≤9000)(h:a.length≤700000): Ev (λn=>wire_PutText n a s) (a++textL s):=by
 have hv:=vi_len ((s.size:Nat):Int)
 refine Tot.fn (λ_=>rfl) (Tot.bndc (gt3 a) ?_)
 rw[tk]
 refine Tot.e (I1_ev a _ (by omega)) (Tot.bndc (app_of (by rw[strB_len,List.length_append];omega)) (Tot.ret ?_))
 rw[textL,List.append_assoc]
theorem RPutText_e(a:List Int)(s:ByteArray)(hs:s.size≤9000)(h:a.length≤700000): Ev (λn=>R02_PutText n a s) (a++textL s):=by
 have hv:=vi_len ((s.size:Nat):Int)
 refine Tot.fn (λ_=>rfl) (Tot.e (RPutInt_e a _ (by omega)) (Tot.bndc (app_of (by rw[strB_len,List.length_append];omega)) (Tot.ret ?_)))
 rw[textL,List.append_assoc]
theorem PutList_e(a l:List Int)(hb:l.length≤9000)(h:a.length≤700000): Ev (λn=>wire_PutList n a l) (a++listL l):=by
 have hv:=vi_len (ln l)
 refine Tot.fn (λ_=>rfl) (Tot.bndc (gt3 a) ?_)
 rw[tk]
 refine Tot.e (I1_ev a _ (by omega)) (Tot.bnd (Q:=λr=>r=a++listL l) ((Tot.dg (push_loop l vi 10 990000 (λx _=>vi_len x) (L:=λn m p=>lm1 wire_PutList_L1_B n m (l,ln l) p) (λi a P ha h1 h2=>Tot.l1 (Tot.rng (λx hx hi=>Tot.e (I2_ev a x (by omega)) (by rw[wr_s (by omega)];exact h1 x (List.mem_of_getElem? hx) hx hi)) λh=>Tot.ret (h2 h))) 0 (a++vi (ln l)) (by rw[List.length_append];omega))).imp λr hr=>?_) λr hr=>Tot.ret hr)
 rw[hr,listL,List.drop_zero,List.append_assoc]
theorem RPutList_e(a l:List Int)(hb:l.length≤9000)(h:a.length≤700000): Ev (λn=>R02_PutList n a l) (a++listL l):=by
 have hv:=vi_len (ln l)
 refine Tot.fn (λ_=>rfl) (Tot.e (RPutInt_e a _ (by omega)) (Tot.bnd (Q:=λr=>r=a++listL l) ((Tot.dg (push_loop l vi 10 990000 (λx _=>vi_len x) (L:=λn m p=>lm1 R02_PutList_L1_B n m l p) (λi a P ha h1 h2=>Tot.l1 (Tot.rng (λx hx hi=>Tot.e ((RPutInt_e [] x (by simp)).to (List.nil_append _)) (Tot.bndc (app_of (by have:=vi_len x;omega)) (by rw[wr_s (by omega)];exact h1 x (List.mem_of_getElem? hx) hx hi))) λh=>Tot.ret (h2 h))) 0 (a++vi (ln l)) (by rw[List.length_append];omega))).imp λr hr=>?_) λr hr=>Tot.ret hr))
 rw[hr,listL,List.drop_zero,List.append_assoc]
def cb(r:Nat): Nat:=r / 2 ^^^ (if r % 2=1 then 3988292384 else 0)
theorem cb_x(a b:Nat): cb (a ^^^ b)=cb a ^^^ cb b:=by
 have h1:(a ^^^ b) / 2=a / 2 ^^^ b / 2:=by
  have:=Nat.shiftRight_xor_distrib (a:=a) (b:=b) (i:=1)
  simpa [Nat.shiftRight_eq_div_pow] using this
 have h2:(a ^^^ b) % 2=(a % 2) ^^^ (b % 2):=by
  have:=Nat.xor_mod_two_pow (a:=a) (b:=b) (n:=1)
  simpa using this
 unfold cb
 rw[h1,h2]
 have ha:a % 2=0∨a % 2=1:=by omega
 have hb:b % 2=0∨b % 2=1:=by omega
 rcases ha with ha | ha<;>rcases hb with hb | hb<;>rw[ha,hb]<;>simp
 ·rw[Nat.xor_assoc]
 ·rw[Nat.xor_assoc,Nat.xor_assoc,Nat.xor_comm (b / 2)]
 ·rw[show a / 2 ^^^ 3988292384 ^^^ (b / 2 ^^^ 3988292384)=a / 2 ^^^ b / 2 ^^^ (3988292384 ^^^ 3988292384) by ac_rfl,Nat.xor_self,Nat.xor_zero]
theorem cb_2(m:Nat): cb (2*m)=m:=by
 unfold cb
 rw[if_neg (by omega),Nat.xor_zero];omega
def cb4(r:Nat): Nat:=cb (cb (cb (cb r)))
theorem cb4_x(a b:Nat): cb4 (a ^^^ b)=cb4 a ^^^ cb4 b:=by simp only[cb4,cb_x]
theorem cb4_16(m:Nat): cb4 (16*m)=m:=by
 unfold cb4
 rw[show 16*m=2*(2*(2*(2*m))) by omega,cb_2,cb_2,cb_2,cb_2]
theorem split16(r:Nat): r=(16*(r / 16)) ^^^ (r % 16):=by
 have h:16*(r / 16)+r % 16=16*(r / 16) ^^^ r % 16:=by
  rw[show 16*(r / 16)=2 ^ 4*(r / 16) by omega,Nat.two_pow_add_eq_or_of_lt (by omega)]
  apply Nat.eq_of_testBit_eq
  intro i
  simp only[Nat.testBit_or,Nat.testBit_xor,Nat.testBit_two_pow_mul]
  by_cases hi:i<4
  ·simp[show ¬4≤i by omega]
  ·have:(r % 16).testBit i=false:=Nat.testBit_lt_two_pow (Nat.lt_of_lt_of_le (Nat.mod_lt _ (by decide)) (by
    calc 16=2 ^ 4:=rfl
     _≤2 ^ i:=Nat.pow_le_pow_right (by decide) (by omega)))
   simp[this]
 omega
def tab16: List Nat:=[0,498536548,997073096,651767980,1994146192,1802195444,1303535960,1342533948,3988292384,4027552580,3604390888,3412177804,2607071920,2262029012,2685067896,3183342108]
theorem tab_cb: ∀i<16,tab16[i]?=some (cb4 i):=by decide
theorem cb4_tab(r t:Nat)(h:tab16[r % 16]?=some t): cb4 r=t ^^^ r / 16:=by
 rw[tab_cb _ (Nat.mod_lt _ (by decide))] at h
 cases h
 conv=>lhs;rw[split16 r]
 rw[cb4_x,cb4_16,Nat.xor_comm]
theorem cb_lt{r:Nat}(h:r<4294967296): cb r<4294967296:=by
 unfold cb
 have:r / 2<2 ^ 32:=by omega
 refine Nat.xor_lt_two_pow (n:=32) this ?_
 split<;>decide
def stp{X:Type}(y:Int)(z:Int->Option X): Option X:=bnd (remO y 2) λb0=>cnd (b0==1) (bnd (quoO .u32 y 2) λc0=>z (bitI .xor .u32 c0 3988292384)) (bnd (quoO .u32 y 2) λd0=>z d0)
theorem stp_eq{X:Type}(y:Nat)(h:y<4294967296)(z:Int->Option X): stp (y:Int) z=z ((cb y:Nat):Int):=by
 have e1:remO (y:Int) 2=some ((y % 2:Nat):Int):=remO_nat y 2 (by decide)
 have e2:quoO .u32 (y:Int) 2=some ((y / 2:Nat):Int):=by
  have:quoO .u32 (y:Int) ((2:Nat):Int)=some (IntKind.u32.wrap ((y / 2:Nat):Int)):=by
   unfold quoO
   rw[if_neg (by decide),tdiv_nat]
  rw[show (2:Int)=((2:Nat):Int) from rfl,this,u32_w];congr 1;omega
 unfold stp cb
 rw[e1,bnd_s,e2,bnd_s,bnd_s]
 by_cases k:y % 2=1
 ·rw[if_pos k,k]
  show z _=_
  rw[show (3988292384:Int)=((3988292384:Nat):Int) from rfl,(xorI32 (y / 2) 3988292384 (by omega) (by decide)).1]
 ·rw[if_neg k,show y % 2=0 by omega,Nat.xor_zero];rfl
def cb8(r:Nat): Nat:=cb4 (cb4 r)
def crcN: Nat->List Int->Nat
 | r,[]=>r
 | r,b::l=>crcN (cb8 (r ^^^ (b % 4294967296).toNat)) l
theorem cb4_lt{r:Nat}(h:r<4294967296): cb4 r<4294967296:=cb_lt (cb_lt (cb_lt (cb_lt h)))
theorem tab_idx(i:Nat): idx tab0 (i:Int)=(tab16[i]?).map λn=>((n:Nat):Int):=by
 rw[idx_nat,←List.getElem?_map];rfl
theorem tab_step{X:Type}(r:Nat)(h:r<4294967296)(K:Int->Option X): bnd (idx tab0 (bitI .and .u32 (r:Int) 15)) (λt=>K (bitI .xor .u32 (shrI .u32 (r:Int) 4) t))=K ((cb4 r:Nat):Int):=by
 rw[andI15 r h,tab_idx,tab_cb _ (Nat.mod_lt _ (by decide)),shr4]
 have hl:cb4 (r % 16)<4294967296:=cb4_lt (by omega)
 show K (bitI .xor .u32 ((r / 16:Nat):Int) ((cb4 (r % 16):Nat):Int))=_
 rw[(xorI32 (r / 16) _ (by omega) hl).1,cb4_tab r _ (tab_cb _ (Nat.mod_lt _ (by decide))),Nat.xor_comm]
theorem g4: grd (decide ((0:Nat)≤4))=some ():=rfl
theorem byte_in(h:Int)(f:Nat)(hf:f<4294967296): bitI .xor .u32 (f:Int) (IntKind.u32.wrap h)=((f ^^^ (h % 4294967296).toNat:Nat):Int)∧f ^^^ (h % 4294967296).toNat<4294967296:=by
 have hw:IntKind.u32.wrap h=(((h % 4294967296).toNat:Nat):Int):=by rw[u32_w];omega
 rw[hw]
 exact xorI32 f (h % 4294967296).toNat hf (by omega)
theorem sum_L(l:List Int)(hl:l.length≤999000)(i:Nat): ∀f:Nat,f<4294967296->Tot (λn m=>lm1 digest_sum_L1_B n m (l,ln l) ((f:Int),(i:Int))) λr=>r=((crcN f (l.drop i):Nat):Int)∧crcN f (l.drop i)<4294967296:=
 up_ind (N:=l.length) (T:=λi=>∀f:Nat,f<4294967296->Tot (λn m=>lm1 digest_sum_L1_B n m (l,ln l) ((f:Int),(i:Int))) λr=>r=((crcN f (l.drop i):Nat):Int)∧crcN f (l.drop i)<4294967296) (λi ih f hf=>Tot.l1 (Tot.rng (λx hx hi=>by
  obtain⟨e1,e2⟩:=byte_in x f hf
  obtain⟨k1,k2⟩:=List.getElem?_eq_some_iff.1 hx
  have e3:=cb4_lt e2
  have e4:=cb4_lt e3
  rw[List.drop_eq_getElem_cons k1,k2,crcN,wr_s (by omega)]
  have key:=ih hi (cb8 (f ^^^ (x % 4294967296).toNat)) e4
  refine cast (congrArg (λg=>Tot g _) ?_) key
  funext n m
  simp only[e1,g4,bnd_s]
  rw[tab_step (f ^^^ (x % 4294967296).toNat) e2 (λy=>bnd (idx tab0 (bitI .and .u32 y 15)) λj=>lm1 digest_sum_L1_B n m (l,ln l) (bitI .xor .u32 (shrI .u32 y 4) j,((i+1:Nat):Int)))]
  rw[tab_step (cb4 (f ^^^ (x % 4294967296).toNat)) e3 (λy=>lm1 digest_sum_L1_B n m (l,ln l) (y,((i+1:Nat):Int)))]
  rfl) λh=>Tot.ret (by rw[List.drop_eq_nil_of_le h];exact⟨rfl,hf⟩))) i
theorem crc_L(l:List Int)(hl:l.length≤999000)(i:Nat): ∀f:Nat,f<4294967296->Tot (λn m=>lm1 R03_Crc_L1_B n m l ((f:Int),(i:Int))) λr=>r=((crcN f (l.drop i):Nat):Int)∧crcN f (l.drop i)<4294967296:=
 up_ind (N:=l.length) (T:=λi=>∀f:Nat,f<4294967296->Tot (λn m=>lm1 R03_Crc_L1_B n m l ((f:Int),(i:Int))) λr=>r=((crcN f (l.drop i):Nat):Int)∧crcN f (l.drop i)<4294967296) (λi ih f hf=>Tot.l1 (Tot.rng (λx hx hi=>by
  obtain⟨e1,e2⟩:=byte_in x f hf
  obtain⟨k1,k2⟩:=List.getElem?_eq_some_iff.1 hx
  have e3:=cb4_lt e2
  have e4:=cb4_lt e3
  rw[List.drop_eq_getElem_cons k1,k2,crcN,wr_s (by omega)]
  have key:=ih hi (cb8 (f ^^^ (x % 4294967296).toNat)) e4
  refine Tot.grdn ?_
  refine cast (congrArg (λg=>Tot g _) ?_) key
  funext n m
  rw[e1]
  generalize f ^^^ (x % 4294967296).toNat=y at e2
  have l1:=cb_lt e2
  have l2:=cb_lt l1
  have l3:=cb_lt l2
  have l4:=cb_lt l3
  have l5:=cb_lt l4
  have l6:=cb_lt l5
  have l7:=cb_lt l6
  symm
  show stp (y:Int) (λa=>stp a λa=>stp a λa=>stp a λa=>stp a λa=>stp a λa=>stp a λa=>stp a λa=>lm1 R03_Crc_L1_B n m l (a,((i+1:Nat):Int)))=_
  rw[stp_eq _ e2,stp_eq _ l1,stp_eq _ l2,stp_eq _ l3,stp_eq _ l4,stp_eq _ l5,stp_eq _ l6,stp_eq _ l7]
  rfl) λh=>Tot.ret (by rw[List.drop_eq_nil_of_le h];exact⟨rfl,hf⟩))) i
def crcV(l:List Int): Nat:=4294967295-crcN 4294967295 l
theorem crcV_lt(l:List Int): crcV l<4294967296:=by unfold crcV;omega
theorem sum_e(l:List Int)(hl:l.length≤999000): Ev (λn=>digest_sum n l) ((crcV l:Nat):Int):=
 Tot.fn (λ_=>rfl) (Tot.bnd (Tot.dg (sum_L l hl 0 4294967295 (by decide))) λr hr=>Tot.ret (by rw[hr.1,notI32 _ hr.2];rfl))
theorem Crc_e(l:List Int)(hl:l.length≤999000): Ev (λn=>R03_Crc n l) ((crcV l:Nat):Int):=
 Tot.fn (λ_=>rfl) (Tot.bnd (Tot.dg (crc_L l hl 0 4294967295 (by decide))) λr hr=>Tot.ret (by
  rw[hr.1,notI32 _ hr.2]
  have:=crcV_lt l
  exact i64_in ((crcV l:Nat):Int) (by omega)))
def markL(c:Nat): List Int:=[((c / 16777216 % 256:Nat):Int),((c / 65536 % 256:Nat):Int),((c / 256 % 256:Nat):Int),((c % 256:Nat):Int)]
theorem shrN(k:IntKind)(c d:Nat)(e:Int)(h:(2:Int) ^ (min e.toNat k.bits)=((d:Nat):Int)): IntKind.u8.wrap (shrI k (c:Int) e)=((c / d % 256:Nat):Int):=by
 show IntKind.u8.wrap ((c:Int).fdiv (2 ^ (min e.toNat k.bits)))=_
 rw[h,Int.fdiv_eq_ediv_of_nonneg _ (by omega),u8_w,Int.natCast_emod,Int.natCast_ediv];rfl
theorem g24: grd (decide ((0:Nat)≤24))=some ()∧grd (decide ((0:Nat)≤16))=some ()∧grd (decide ((0:Nat)≤8))=some ():=⟨rfl,rfl,rfl⟩
theorem Seal_e(l:List Int)(hl:l.length≤900000): Ev (λn=>digest_Seal n l) (l++markL (crcV l)):=by
 refine Tot.fn (λ_=>rfl) (Tot.bnd (Q:=λb=>[b.e0,b.e1,b.e2,b.e3]=markL (crcV l)) (Tot.fn (λ_=>rfl) (Tot.e (sum_e l (by omega)) (Tot.bndc g24.1 (Tot.bndc g24.2.1 (Tot.bndc g24.2.2 (Tot.ret ?_)))))) λb hb=>Tot.bndc (gt3 l) ?_)
 ·show[_,_,_,_]=markL _
  rw[shrN .u32 _ 16777216 24 (by decide),shrN .u32 _ 65536 16 (by decide),shrN .u32 _ 256 8 (by decide),u8_w]
  rfl
 ·rw[tk]
  exact Tot.bndc (app_of (by simp;omega)) (Tot.ret (by rw[hb]))
theorem Bytes_e(c:Nat): Ev (λn=>R03_Bytes n (c:Int) 4) (markL c):=.mk 6 λn hn=>by
 obtain⟨n,rfl⟩:∃k,n=k+6:=⟨n-6,by omega⟩
 have h:R03_Bytes (n+6) (c:Int) 4=some [IntKind.u8.wrap (shrI .u64 (c:Int) 24),IntKind.u8.wrap (shrI .u64 (c:Int) 16),IntKind.u8.wrap (shrI .u64 (c:Int) 8),IntKind.u8.wrap (shrI .u64 (c:Int) 0)]:=by kernel_rfl
 rw[h,shrN .u64 _ 16777216 24 (by decide),shrN .u64 _ 65536 16 (by decide),shrN .u64 _ 256 8 (by decide),shrN .u64 _ 1 0 (by decide),Nat.div_one]
 rfl
theorem RSeal_e(l:List Int)(hl:l.length≤900000): Ev (λn=>R03_Seal n l) (l++markL (crcV l)):=by
 refine Tot.fn (λ_=>rfl) (Tot.bndc (x:=l) (app_of (l:=[]) (by simp;omega)) (Tot.e (Crc_e l (by omega)) ?_))
 have hc:=crcV_lt l
 rw[u64_w,show ((crcV l:Nat):Int) % 18446744073709551616=((crcV l:Nat):Int) by omega]
 exact Tot.e (Bytes_e (crcV l)) (Tot.bndc (app_of (by simp[markL];omega)) (Tot.ret rfl))
theorem Same_e(l:List Int)(hl:l.length≤999000): Ev (λn=>R03_Same n l l) true:=by
 refine Tot.fn (λ_=>rfl) (Tot.cnd (λh=>?_) λ_=>Tot.bnd2 (Q:=λ_=>False) (R:=λ_=>True) (Tot.dg (f:=λn m=>lm2 R03_Same_L1_B n m (l,l) 0) ?_) (λ_ h=>h.elim) λ_ _=>Tot.bndc rfl (Tot.ret rfl))
 ·rw[bne_self_eq_false] at h;cases h
 ·exact up_ind (N:=l.length) (T:=λi=>Tot (λn m=>lm2 R03_Same_L1_B n m (l,l) ((i:Nat):Int)) (Su (λ_=>False) λ_=>True)) (λi ih=>Tot.l2 (Tot.rng (λx hx hi=>Tot.bndc (by rw[idx_nat];exact hx) (Tot.cnd (λh=>by simp at h) λ_=>by rw[wr_s (by omega)];exact ih hi)) λ_=>Tot.ret trivial)) 0
structure SmE(x:GEdit): Prop where
 v:x.Via.length≤80
 p:x.Parts.length≤80
 n:x.Name.size≤200
structure SmT(t:GTxn): Prop where
 e:t.Edits.length≤80
 s:t.Source.size≤200
 x:∀x∈t.Edits,SmE x
theorem SP3_e(x:GEdit): Tot (λn _=>R22_SmallTxn_P3 n x) λb=>b=false->SmE x:=by
 refine Tot.cnd (λh=>Tot.ret λh=>by cases h) λh=>Tot.cnd (λk=>Tot.ret λh=>by cases h) λk=>Tot.cnd (λi=>Tot.ret λh=>by cases h) λi=>Tot.ret λ_=>?_
 have h:=of_decide_eq_false h
 have k:=of_decide_eq_false k
 have i:=of_decide_eq_false i
 simp only[ln] at h k
 exact⟨by omega,by omega,by omega⟩
theorem SL2(t:GTxn)(ht:t.Edits.length≤80)(i:Nat): Upto t.Edits i SmE->Tot (λn m=>lm2 R22_SmallTxn_L2_B n m t (i:Int)) (Su (λ_=>True) λ_=>∀x∈t.Edits,SmE x):=
 up_ind (N:=t.Edits.length) (T:=λi=>Upto t.Edits i SmE->Tot (λn m=>lm2 R22_SmallTxn_L2_B n m t (i:Int)) (Su (λ_=>True) λ_=>∀x∈t.Edits,SmE x)) (λi ih hu=>Tot.l2 (Tot.rng (λx hx hi=>Tot.bnd (SP3_e x) λb hb=>Tot.cnd (λ_=>Tot.ret trivial) λh=>by rw[wr_s (by omega)];exact ih hi (hu.step hx (hb h))) λh=>Tot.ret (hu.fin h))) i
theorem Small_e(t:GTxn): Tot (λn _=>R22_SmallTxn n t) λb=>b=true->SmT t:=by
 refine Tot.fn (λ_=>rfl) (Tot.bnd (Q:=λb=>b=false->t.Edits.length≤80∧t.Source.size≤200) (Tot.cnd (λh=>Tot.ret λh=>by cases h) λh=>Tot.cnd (λk=>Tot.ret λh=>by cases h) λk=>Tot.ret λ_=>?_) λb hb=>Tot.cnd (λ_=>Tot.ret λh=>by cases h) λh=>Tot.bnd2 (Tot.dg (SL2 t (hb h).1 0 Upto.nil)) (λ_ _=>Tot.ret λh=>by cases h) λ_ hx=>Tot.bndc rfl (Tot.ret λ_=>⟨(hb h).1,(hb h).2,hx⟩))
 have h:=of_decide_eq_false h
 have k:=of_decide_eq_false k
 simp only[ln] at h
 exact⟨by omega,by omega⟩
def firstBad: List GEdit->Int
 | []=>0
 | x::l=>if chkV x=0 then firstBad l else chkV x
def numsE(x:GEdit): List Int:=[x.Kind,x.ID,x.A,x.B,x.C,x.At.X,x.At.Y]
def editL(x:GEdit): List Int:=(numsE x).flatMap vi++(pathL x.Via++(textL x.Name++listL x.Parts))
theorem editL_len{x:GEdit}(h:SmE x): (editL x).length≤3000:=by
 have h1:=fm_len (numsE x) vi 10 λx _=>vi_len x
 have h2:=pathL_len x.Via
 have h3:=textL_len x.Name
 have h4:=listL_len x.Parts
 have h5:=h.v
 have h6:=h.p
 have h7:=h.n
 have h8:(numsE x).length=7:=rfl
 unfold editL
 simp only[List.length_append]
 omega
def bodyL(t:GTxn): List Int:=[t.Office,t.Seq,t.Time].flatMap vi++(textL t.Source++(vi (ln t.Edits)++t.Edits.flatMap editL))
def txnV(t:GTxn): List Int×Int:=if 40<t.Source.size∨64<t.Edits.length then ([],3) else if firstBad t.Edits=0 then (bodyL t++markL (crcV (bodyL t)),0) else ([],firstBad t.Edits)
theorem TP1_e(t:GTxn): Tot (λn _=>codec_Txn_P1 n t) λb=>(b=true∧(40<t.Source.size∨64<t.Edits.length))∨(b=false∧¬(40<t.Source.size∨64<t.Edits.length)):=by
 refine Tot.cnd (λh=>Tot.ret (.inl ⟨rfl,.inl ?_⟩)) λh=>Tot.cnd (λk=>Tot.ret (.inl ⟨rfl,.inr ?_⟩)) λk=>Tot.ret (.inr ⟨rfl,?_⟩)
 ·have h:=of_decide_eq_true h;omega
 ·have k:=of_decide_eq_true k;simp only[ln] at k;omega
 ·have h:=of_decide_eq_false h
  have k:=of_decide_eq_false k
  simp only[ln] at k
  omega
theorem bad_d{l:List GEdit}{i:Nat}{x:GEdit}(h:l[i]?=some x): firstBad (l.drop i)=if chkV x=0 then firstBad (l.drop (i+1)) else chkV x:=by
 obtain⟨h1,h2⟩:=List.getElem?_eq_some_iff.1 h
 rw[List.drop_eq_getElem_cons h1,h2,firstBad]
theorem TL2(l:List GEdit)(hl:l.length≤80)(i:Nat): Tot (λn m=>lm2 codec_Txn_L2_B n m (l,ln l) (i:Int)) (Su (λv=>firstBad (l.drop i)=v.2∧v.2≠0) λ_=>firstBad (l.drop i)=0):=
 up_ind (N:=l.length) (T:=λi=>Tot (λn m=>lm2 codec_Txn_L2_B n m (l,ln l) (i:Int)) (Su (λv=>firstBad (l.drop i)=v.2∧v.2≠0) λ_=>firstBad (l.drop i)=0)) (λi ih=>Tot.l2 (Tot.rng (λx hx hi=>Tot.e (ECheck_e x) (by
  rw[bad_d hx]
  refine Tot.cnd (λh=>Tot.ret ?_) λh=>?_
  ·have h:chkV x≠0:=by simpa using h
   rw[if_neg h];exact⟨rfl,h⟩
  ·have h:chkV x=0:=by simpa using h
   rw[if_pos h,wr_s (by omega)];exact ih hi)) λh=>Tot.ret (by rw[List.drop_eq_nil_of_le h];rfl))) i
theorem TL3(l:List GEdit)(hl:l.length≤80)(hs:∀x∈l,SmE x)(a:List Int)(ha:a.length≤1000): Tot (λn m=>lm1 codec_Txn_L3_B n m (l,ln l) (a,0)) λr=>r=a++l.flatMap editL:=
 push_loop l editL 3000 300000 (λx hx=>editL_len (hs x hx)) (L:=λn m p=>lm1 codec_Txn_L3_B n m (l,ln l) p) (λi a P ha h1 h2=>Tot.l1 (Tot.rng (λx hx hi=>by
  have hm:=List.mem_of_getElem? hx
  have h:=hs x hm
  have k1:=fm_len (numsE x) vi 10 λx _=>vi_len x
  have k2:=pathL_len x.Via
  have k3:=textL_len x.Name
  have h5:=h.v
  have h6:=h.p
  have h7:=h.n
  have h8:(numsE x).length=7:=rfl
  refine Tot.e (putInts_e a (numsE x) (by omega) (by omega)) (Tot.e (putPoints_e _ x.Via (by omega) (by simp only[List.length_append];omega)) (Tot.e (PutText_e _ x.Name (by omega) (by simp only[List.length_append];omega)) (Tot.e (PutList_e _ x.Parts (by omega) (by simp only[List.length_append];omega)) ?_)))
  rw[wr_s (by omega)]
  have:=h1 x hm hx hi
  unfold editL at this
  simpa only[List.append_assoc] using this) λh=>Tot.ret (h2 h))) 0 a (by omega)
theorem RL2(t:GTxn)(ht:t.Edits.length≤80)(hs:∀x∈t.Edits,SmE x)(i:Nat): ∀a:List Int,a.length+3000*(t.Edits.length-i)≤300000->Tot (λn m=>lm2 R22_Txn_L2_B n m t (a,(i:Int))) (Su (λv=>firstBad (t.Edits.drop i)=v.2∧v.2≠0) λr=>firstBad (t.Edits.drop i)=0∧r=a++(t.Edits.drop i).flatMap editL):=
 up_ind (N:=t.Edits.length) (T:=λi=>∀a:List Int,a.length+3000*(t.Edits.length-i)≤300000->Tot (λn m=>lm2 R22_Txn_L2_B n m t (a,(i:Int))) (Su (λv=>firstBad (t.Edits.drop i)=v.2∧v.2≠0) λr=>firstBad (t.Edits.drop i)=0∧r=a++(t.Edits.drop i).flatMap editL)) (λi ih a ha=>Tot.l2 (Tot.rng (λx hx hi=>Tot.e (RRCheck_e x) (by
  have hm:=List.mem_of_getElem? hx
  rw[bad_d hx]
  refine Tot.cnd (λh=>Tot.ret ?_) λh=>?_
  ·have h:chkV x≠0:=by simpa using h
   rw[if_neg h];exact⟨rfl,h⟩
  ·have hc:chkV x=0:=by simpa using h
   have h:=hs x hm
   have k0:=editL_len h
   have k1:=fm_len (numsE x) vi 10 λx _=>vi_len x
   have k2:=pathL_len x.Via
   have k3:=textL_len x.Name
   have h5:=h.v
   have h6:=h.p
   have h7:=h.n
   have h8:(numsE x).length=7:=rfl
   refine Tot.e (put_e a (numsE x) (by omega) (by omega)) (Tot.e (points_e _ x.Via (by omega) (by simp only[List.length_append];omega)) (Tot.e (RPutText_e _ x.Name (by omega) (by simp only[List.length_append];omega)) (Tot.e (RPutList_e _ x.Parts (by omega) (by simp only[List.length_append];omega)) ?_)))
   rw[if_pos hc,wr_s (by omega)]
   have e:a++(numsE x).flatMap vi++pathL x.Via++textL x.Name++listL x.Parts=a++editL x:=by simp only[editL,List.append_assoc]
   rw[e]
   refine (ih hi (a++editL x) (by rw[List.length_append];omega)).imp λz hz=>?_
   obtain⟨q1,q2⟩:=List.getElem?_eq_some_iff.1 hx
   cases z with
   | inl v=>exact hz
   | inr r=>exact⟨hz.1,by rw[hz.2,List.drop_eq_getElem_cons q1,q2,List.flatMap_cons,List.append_assoc]⟩)) λh=>Tot.ret (by rw[List.drop_eq_nil_of_le h];exact⟨rfl,(List.append_nil _).symm⟩))) i
theorem body_len{t:GTxn}(h:SmT t): (bodyL t).length≤250000:=by
 have h1:=fm_len [t.Office,t.Seq,t.Time] vi 10 λx _=>vi_len x
 have h2:=textL_len t.Source
 have h3:=vi_len (ln t.Edits)
 have h4:=fm_len t.Edits editL 3000 λx hx=>editL_len (h.x x hx)
 have h5:=h.e
 have h6:=h.s
 have h7:[t.Office,t.Seq,t.Time].length=3:=rfl
 unfold bodyL
 simp only[List.length_append]
 omega
theorem Txn_e(t:GTxn)(h:SmT t): Ev (λn=>codec_Txn n t) (txnV t):=by
 have h1:=fm_len [t.Office,t.Seq,t.Time] vi 10 λx _=>vi_len x
 have h2:=textL_len t.Source
 have h3:=vi_len (ln t.Edits)
 have h5:=h.e
 have h6:=h.s
 have h7:[t.Office,t.Seq,t.Time].length=3:=rfl
 have h8:=body_len h
 refine Tot.fn (λ_=>rfl) (Tot.bnd (TP1_e t) λb hb=>Tot.cnd (λk=>Tot.ret ?_) λk=>?_)
 ·rcases hb with⟨_,hb⟩ | ⟨q,_⟩
  ·unfold txnV;rw[if_pos hb]
  ·rw[q] at k;cases k
 have hb:¬(40<t.Source.size∨64<t.Edits.length):=by
  rcases hb with⟨q,_⟩ | ⟨_,hb⟩
  ·rw[q] at k;cases k
  ·exact hb
 unfold txnV
 rw[if_neg hb]
 refine Tot.bnd2 (Tot.dg (TL2 t.Edits h5 0)) (λv hv=>Tot.ret ?_) λ_ hv=>Tot.bndc rfl ?_
 ·rw[List.drop_zero] at hv;rw[if_neg (by rw[hv.1];exact hv.2),hv.1]
 ·have hv:firstBad t.Edits=0:=hv
  rw[if_pos hv]
  refine Tot.e ((putInts_e [] [t.Office,t.Seq,t.Time] (by simp) (by simp)).to (List.nil_append _)) (Tot.e (PutText_e _ t.Source (by omega) (by omega)) (Tot.e (PutInt_e _ (ln t.Edits) (by simp only[List.length_append];omega)) (Tot.bnd (Tot.dg (TL3 t.Edits h5 h.x _ (by simp only[List.length_append];omega))) λr hr=>?_)))
  have e:r=bodyL t:=by rw[hr];simp only[bodyL,List.append_assoc]
  rw[e]
  exact Tot.e (Seal_e _ (by omega)) (Tot.ret rfl)
theorem RTxn_e(t:GTxn)(h:SmT t): Ev (λn=>R22_Txn n t) (txnV t):=by
 have h1:=fm_len [t.Office,t.Seq,t.Time] vi 10 λx _=>vi_len x
 have h2:=textL_len t.Source
 have h3:=vi_len (ln t.Edits)
 have h5:=h.e
 have h6:=h.s
 have h7:[t.Office,t.Seq,t.Time].length=3:=rfl
 have h8:=body_len h
 refine Tot.fn (λ_=>rfl) (Tot.bnd (TP1_e t) λb hb=>Tot.cnd (λk=>Tot.ret ?_) λk=>?_)
 ·rcases hb with⟨_,hb⟩ | ⟨q,_⟩
  ·unfold txnV;rw[if_pos hb]
  ·rw[q] at k;cases k
 have hb:¬(40<t.Source.size∨64<t.Edits.length):=by
  rcases hb with⟨q,_⟩ | ⟨_,hb⟩
  ·rw[q] at k;cases k
  ·exact hb
 unfold txnV
 rw[if_neg hb]
 refine Tot.e ((put_e [] [t.Office,t.Seq,t.Time] (by simp) (by simp)).to (List.nil_append _)) (Tot.e (RPutText_e _ t.Source (by omega) (by omega)) (Tot.e ((put_e _ [ln t.Edits] (by simp) (by simp only[List.length_append,List.length_singleton];omega)).to (s:=[t.Office,t.Seq,t.Time].flatMap vi++textL t.Source++vi (ln t.Edits)) (by simp)) (Tot.bnd2 (Tot.dg (RL2 t h5 h.x 0 _ (by simp only[List.length_append];omega))) (λv hv=>Tot.ret ?_) λr hv=>Tot.bndc rfl ?_)))
 ·rw[List.drop_zero] at hv;rw[if_neg (by rw[hv.1];exact hv.2),hv.1]
 ·have hv1:firstBad t.Edits=0:=hv.1
  rw[if_pos hv1]
  have e:r=bodyL t:=by rw[hv.2];simp only[bodyL,List.append_assoc,List.drop_zero]
  rw[e]
  exact Tot.e (RSeal_e _ (by omega)) (Tot.ret rfl)
theorem TSame_e(t:GTxn)(h:SmT t): Ev (λn=>R03_Same n (txnV t).1 (txnV t).1) true:=Same_e _ (by
 have h8:=body_len h
 unfold txnV
 split
 ·simp
 ·split
  ·simp[markL];omega
  ·simp)
theorem awake_e: Ev (λn=>W22_awake n) true:=.mk AWN λn hn=>by
 unfold W22_awake
 rw[Nat.ble_eq_true_of_le hn];rfl
theorem Txns_T(t:GTxn): Ev (λn=>W22_CodecTxns n t) true:=by
 refine Tot.fn (λ_=>rfl) (Tot.bnd (Small_e t) λb hb=>Tot.cnd (λh=>?_) λ_=>Tot.e awake_e (Tot.ret rfl))
 have hs:=hb h
 refine Tot.e (Txn_e t hs) (Tot.e (RTxn_e t hs) (Tot.bnd (Q:=λb=>b=true) (Tot.cnd (λ_=>Tot.e (TSame_e t hs) (Tot.e awake_e (Tot.ret rfl))) λh=>?_) λb hb=>?_))
 ·simp at h
 ·rw[hb];exact Tot.ret rfl
end
section
open Go.Proofs
theorem shapeAll{P:Program}{n:Nat}{t0:TypeId}{c:List AV}(h:ShapeAll P n [t0] c): ∃x0,c=[x0]∧(∃ys,Shape P n t0 ys∧x0=argOf P t0 ys):=
 match c,h with
 | [x0],⟨h0,_⟩=>⟨x0,rfl,h0⟩
theorem txns_K: W22_CodecTxns_K.c=⟨[.v 3],[4],false,W22_CodecTxns⟩:=by kernel_rfl
theorem txns_ev(b:List AV)(h:ShapeAll PP 10 [24] b): ∃k H',evF PP T k 0 0 b []=some (.lit<|.bool true,H'):=by
 obtain⟨x0,rfl,h0⟩:=shapeAll h
 let⟨a0,q0,l0⟩:=arg_val (k:=3) (H:=[]) (by kernel_rfl) (by kernel_rfl) (.inl<|by kernel_rfl) h0
 let⟨r,l,n,f⟩:=Txns_T a0;subst l
 have i:FOK PP T 0 ⟨[.v 3],[4],false,W22_CodecTxns⟩:=txns_K▸W22_CodecTxns_K.ok
 exact ev_true i (n:=n) (p:=a0) (r:=true) (f n n (Nat.le_refl _)<|Nat.le_refl _) rfl ⟨q0,trivial⟩
theorem txns_lifted(os:Os)(started:os.Started)(H:Type)(enc:TypeId×Value->H):
 ReturnsInHanded {} Tryz.checked os 3 .any (λw args=>(Rows.codecTxnsSpec.pre enc Tryz.prog Tryz.f3 [] false w args∧laidMetH Tryz.prog Rows.codecTxnsRow.laid w)∧sizedMet enc Tryz.prog Tryz.f3 (OpenSpec.ofChange Rows.codecTxnsSpec) false w args)
  (Rows.codecTxnsSpec.post enc Tryz.prog Tryz.f3 false true false false):=by
 refine handed_shaped (C:=Tryz.checked) (X:=λw _=>laidMetH Tryz.prog Rows.codecTxnsRow.laid w) (λ_ _ _ hh h=>h.of_heap hh) own started (by kernel_rfl) Tryz.func3
  (ChangeSpec.witness_shaped (enc:=enc) (C:=Tryz.checked) (os:=os) (X:=λw _=>laidMetH Tryz.prog Rows.codecTxnsRow.laid w) false (World.laidAll Tryz.prog os Rows.codecTxnsRow.laid) #[.agg #[.int .i64 0,.int .i64 0,.int .i64 0,.string ⟨#[]⟩,.slice none 0 0]] 8 (World.laidAll_os _ _ _)
   (World.shaped_of_ZipB (by kernel_rfl) (by kernel_rfl)) (by kernel_rfl) (by kernel_rfl) (by kernel_rfl)
   (by rw[MakeChecks.laidMetH_plain _ _ _ (by kernel_rfl)];exact laidMet_laidAll _ (by kernel_rfl) (by kernel_rfl))) ?_
 intro W base args ds gs before hval hW hlaid hsh hwt
 have hds:∃d0,ds=[d0]∧gs=[]:=by
  obtain⟨p,q,hA,hV,_⟩:=hW
  have hA':DataW.TrodAll enc Tryz.prog W 0 (λ_=>true) true [24] args.toList ds p:=by
   have:=hA
   rw[Tryz.params3] at this
   exact this
  obtain⟨v0,vs0,d0,ds0,p0,q0,_,rfl,rfl,h0,r0⟩:=ChangeShapes.trodAll_cons hA'
  obtain⟨rfl,rfl,rfl⟩:=ChangeShapes.trodAll_nil r0
  obtain⟨rfl,rfl⟩:=ChangeShapes.trodVars_none hV
  exact⟨_,rfl,rfl⟩
 obtain⟨d0,rfl,rfl⟩:=hds
 refine law_contract (T:=T) (n:=10) (vi:=0) mixed checked chkS chkD prim_ok (by kernel_rfl) rfl (tb:=4) (by kernel_rfl) (by kernel_rfl) laid (by rw[Tryz.params3];intro t ht;simp at ht;subst ht;exact⟨by kernel_rfl,of_decide_eq_true (by kernel_rfl)⟩) (by kernel_rfl) ?_ (glob_top hlaid hsh) ⟨rfl,rfl,rfl⟩ hval hW ?_
 ·intro xs hxs
  rw[Tryz.params3] at hxs
  exact txns_ev xs hxs
 ·intro n hn
  have:=List.all_eq_true.1 hwt n (by
   have e:Tryz.f3.params.toList++Rows.codecTxnsSpec.plain.varTypes Tryz.prog=Tryz.f3.params.toList:=List.append_nil _
   show n∈DataW.weightsEach Tryz.prog (Tryz.f3.params.toList++Rows.codecTxnsSpec.plain.varTypes Tryz.prog) ([d0]++[])
   rw[e,List.append_nil];exact hn)
  simpa using this
theorem txns_said: Rows.CodecTxnsSaid:=
 OpenClaim.holds_of_wide 3 Tryz.f3 rfl rfl rfl rfl rfl rfl rfl ⟨rfl,rfl,rfl,rfl,rfl⟩ rfl rfl rfl rfl rfl (by kernel_rfl) Tryz.func3 closed_tc
  (of_decide_eq_true (by kernel_rfl)) (by unfold Func.isWrapper;first | (rw[if_pos (by decide +kernel)];kernel_rfl) | (rw[if_neg (by decide +kernel)];exact⟨rfl,rfl⟩))
  (λos started H enc _=>txns_lifted os started H enc)
theorem txns_card: Rows.CodecTxnsCardSaid:=
 Claim7.holds_tied_plain_at .later [] [.data,.data] true (true,"b2f529f39ffebf23ec139143c71f3fb2078551bd6edc59e6f80363d6e67fb306") true
  txns_said (λ_ h=>by cases h) kw_tc (λ_ h=>by cases h) codecTxns_row_tie rfl ⟨rfl,rfl⟩ km_tc rfl
  (λf fn hf hfn=>by
   obtain rfl:f=3:=Option.some.inj (kf_tc.symm.trans hf) |>.symm
   obtain rfl:fn=Tryz.f3:=(Option.some.inj (Tryz.func3.symm.trans hfn)).symm
   exact⟨kl_tc,λj t ht=>by
    rw[Tryz.params3] at ht
    exact match j,ht with
    | 0,ht=>(by have e:24=t:=(by simpa using ht);subst e;exact ks24_tc)
    | n+1,ht=>(by simp at ht)⟩)
  kg_tc
end
end Go.Proofs.YthadajkojciapaaGreatDoor.Av
