/- A part of the proof of a law. -/
import Derived.Test.YthadajkojciapaaGreatDoorP9
set_option maxRecDepth 100000
set_option maxHeartbeats 4000000
set_option linter.all false
namespace Go.Proofs.YthadajkojciapaaGreatDoor.Av
open Go
section
open Go.IntWalk
theorem HW{s t:ByteArray}: s=t↔s.data.toList=t.data.toList:=by
 constructor
 .intro h;rw[h]
 .intro h
  cases s;cases t
  simp only[Array.toList_inj] at h
  rw[h]
theorem lW(s:ByteArray): s.size=s.data.toList.length:=by rw[Array.length_toList];rfl
theorem VS(s:ByteArray)(a b:Nat): (s.extract a b).data.toList=(s.data.toList.drop a).take (b-a):=by
 simp[ByteArray.data_extract,Array.toList_extract,List.extract_eq_take_drop]
theorem xI{s:ByteArray}{k j:Nat}(h:k+j<=s.size): HJ s (k:Int) ((k+j:Nat):Int)=some (s.extract k (k+j))/\(s.extract k (k+j)).data.toList=(s.data.toList.drop k).take j:=by
 constructor
 .unfold HJ
  rw[if_pos ⟨by omega,by omega,by rw[Int.toNat_natCast];exact h⟩,Int.toNat_natCast,Int.toNat_natCast]
 .rw[VS];congr 1;omega
theorem mR(b:UInt8): b.toNat<256:=b.toNat_lt
theorem mB{s:ByteArray}{l:List UInt8}(h:s.data.toList=l)(i:Nat)(b:UInt8)(hb:l[i]?=some b): Ls s (i:Int)=some (b.toNat:Int):=by
 unfold Ls
 rw[if_pos (by omega),h]
 simp[hb]
theorem RI(a b:Nat): Int.tmod (a:Int) (b:Int)=((a % b:Nat):Int):=(Int.ofNat_tmod a b).symm
theorem Li(a b:Nat): Int.tdiv (a:Int) (b:Int)=((a / b:Nat):Int):=(Int.ofNat_tdiv a b).symm
theorem jG(a b:Nat)(hb:(b:Int)≠0): iG (a:Int) (b:Int)=some ((a % b:Nat):Int):=by
 unfold iG
 simp only[hb,if_false,RI]
theorem AN(a b:Nat)(hb:(b:Int)≠0)(h:a<=1000000000): hM .i64 (a:Int) (b:Int)=some ((a / b:Nat):Int):=by
 unfold hM
 have:a / b<=a:=Nat.div_le_self a b
 simp only[hb,if_false,Li]
 generalize a / b=q at *
 rw[i64_in _ (by omega)]
theorem aA1(n:Nat){t:ByteArray}{b0:UInt8}(h:t.data.toList=[b0]): gS (n+1) t=some (b0.toNat:Int):=by
 have h0:=mR b0
 have hs:t.size=1:=by rw[lW,h];rfl
 have e0:Ls t 0=some (b0.toNat:Int):=mB h 0 b0 rfl
 have w0:wr (b0.toNat:Int)=(b0.toNat:Int):=i64_in _ (by omega)
 simp only[gS,oB,H5,iE,hs,show ((((1:Nat):Int))==1)=true from rfl,cnd,dH e0,w0]
 rfl
theorem aA0(n:Nat){t:ByteArray}{b0 b1:UInt8}(h:t.data.toList=[b0,b1]): gS (n+1) t=some ((b0.toNat % 32*64+b1.toNat % 64:Nat):Int):=by
 have h0:=mR b0
 have h1:=mR b1
 have hs:t.size=2:=by rw[lW,h];rfl
 have e0:Ls t 0=some (b0.toNat:Int):=mB h 0 b0 rfl
 have e1:Ls t 1=some (b1.toNat:Int):=mB h 1 b1 rfl
 have w0:wr (b0.toNat:Int)=(b0.toNat:Int):=i64_in _ (by omega)
 have w1:wr (b1.toNat:Int)=(b1.toNat:Int):=i64_in _ (by omega)
 have q0:iG (b0.toNat:Int) 32=some ((b0.toNat % 32:Nat):Int):=jG _ 32 (by decide)
 have q1:iG (b1.toNat:Int) 64=some ((b1.toNat % 64:Nat):Int):=jG _ 64 (by decide)
 have w2:wr (((b0.toNat % 32:Nat):Int)*64)=((b0.toNat % 32:Nat):Int)*64:=i64_in _ (by omega)
 have w3:wr (((b0.toNat % 32:Nat):Int)*64+((b1.toNat % 64:Nat):Int))=((b0.toNat % 32:Nat):Int)*64+((b1.toNat % 64:Nat):Int):=i64_in _ (by omega)
 simp only[gS,oB,H5,iE,hs,show ((((2:Nat):Int))==1)=false from rfl,show ((((2:Nat):Int))==2)=true from rfl,cnd,dH e0,dH e1,w0,w1,dH q0,dH q1,w2,w3]
 rfl
theorem aAz(n:Nat){t:ByteArray}{b0 b1 b2:UInt8}(h:t.data.toList=[b0,b1,b2]): gS (n+1) t=some ((b0.toNat % 16*4096+b1.toNat % 64*64+b2.toNat % 64:Nat):Int):=by
 have h0:=mR b0
 have h1:=mR b1
 have h2:=mR b2
 have hs:t.size=3:=by rw[lW,h];rfl
 have e0:Ls t 0=some (b0.toNat:Int):=mB h 0 b0 rfl
 have e1:Ls t 1=some (b1.toNat:Int):=mB h 1 b1 rfl
 have e2:Ls t 2=some (b2.toNat:Int):=mB h 2 b2 rfl
 have w0:wr (b0.toNat:Int)=(b0.toNat:Int):=i64_in _ (by omega)
 have w1:wr (b1.toNat:Int)=(b1.toNat:Int):=i64_in _ (by omega)
 have w2:wr (b2.toNat:Int)=(b2.toNat:Int):=i64_in _ (by omega)
 have q0:iG (b0.toNat:Int) 16=some ((b0.toNat % 16:Nat):Int):=jG _ 16 (by decide)
 have q1:iG (b1.toNat:Int) 64=some ((b1.toNat % 64:Nat):Int):=jG _ 64 (by decide)
 have q2:iG (b2.toNat:Int) 64=some ((b2.toNat % 64:Nat):Int):=jG _ 64 (by decide)
 have w3:wr (((b0.toNat % 16:Nat):Int)*4096)=((b0.toNat % 16:Nat):Int)*4096:=i64_in _ (by omega)
 have w4:wr (((b1.toNat % 64:Nat):Int)*64)=((b1.toNat % 64:Nat):Int)*64:=i64_in _ (by omega)
 have w5:wr (((b0.toNat % 16:Nat):Int)*4096+((b1.toNat % 64:Nat):Int)*64)=((b0.toNat % 16:Nat):Int)*4096+((b1.toNat % 64:Nat):Int)*64:=i64_in _ (by omega)
 have w6:wr (((b0.toNat % 16:Nat):Int)*4096+((b1.toNat % 64:Nat):Int)*64+((b2.toNat % 64:Nat):Int))=((b0.toNat % 16:Nat):Int)*4096+((b1.toNat % 64:Nat):Int)*64+((b2.toNat % 64:Nat):Int):=i64_in _ (by omega)
 simp only[gS,oB,H5,iE,hs,show ((((3:Nat):Int))==1)=false from rfl,show ((((3:Nat):Int))==2)=false from rfl,cnd,bnd2,dH rfl,dH e0,dH e1,dH e2,w0,w1,w2,dH q0,dH q1,dH q2,w3,w4,w5,w6]
 rfl
def jE(c:Nat): List UInt8:=
 if c<128 then[UInt8.ofNat c]
 else if c<2048 then[UInt8.ofNat (192+c / 64),UInt8.ofNat (128+c % 64)]
 else[UInt8.ofNat (224+c / 4096),UInt8.ofNat (128+c / 64 % 64),UInt8.ofNat (128+c % 64)]
theorem YO(n c:Nat)(hc:c<65536): ∃t,yI (n+1) (c:Int)=some t/\t.data.toList=jE c:=by
 have q0:hM .i64 (c:Int) 64=some ((c / 64:Nat):Int):=AN c 64 (by decide) (by omega)
 have q1:iG (c:Int) 64=some ((c % 64:Nat):Int):=jG c 64 (by decide)
 have q2:hM .i64 (c:Int) 4096=some ((c / 4096:Nat):Int):=AN c 4096 (by decide) (by omega)
 have q3:iG ((c / 64:Nat):Int) 64=some ((c / 64 % 64:Nat):Int):=jG (c / 64) 64 (by decide)
 simp only[yI,Ij,H5,rU,cd,jE,dH q0,dH q1,dH q2,dH q3]
 by_cases c1:c<128
 .rw[decide_eq_true (show (c:Int)<128 by omega),if_pos c1]
  refine⟨_,rfl,?_⟩
  rw[u8_in _ (by omega)]
  rfl
 .rw[decide_eq_false (show ¬(c:Int)<128 by omega),if_neg c1]
  by_cases c2:c<2048
  .rw[decide_eq_true (show (c:Int)<2048 by omega),if_pos c2]
   refine⟨_,rfl,?_⟩
   rw[wr,wr,i64_in _ (by omega),i64_in _ (by omega),u8_in _ (by omega),u8_in _ (by omega)]
   rfl
  .rw[decide_eq_false (show ¬(c:Int)<2048 by omega),if_neg c2]
   refine⟨_,rfl,?_⟩
   rw[wr,wr,wr,i64_in _ (by omega),i64_in _ (by omega),i64_in _ (by omega),u8_in _ (by omega),u8_in _ (by omega),u8_in _ (by omega)]
   rfl
theorem oV{a:Nat}{b:UInt8}(ha:a<256): UInt8.ofNat a=b↔a=b.toNat:=by
 rw[<-UInt8.toNat_inj,UInt8.toNat_ofNat',Nat.mod_eq_of_lt ha]
theorem Al{r:Int}(h:0<=zN r): r<55296:=by
 apply Classical.byContradiction
 intro hr
 have:zN r=-1:=by
  simp only[zN,Lk,zV]
  iterate 13 rw[if_neg (by omega)]
 omega
theorem Nl(s:ByteArray){l:List UInt8}(h:s.data.toList=l){i:Nat}{b:UInt8}(hb:l[i]?=some b): s.get! i=b:=by
 subst h
 have:s.data[i]?=some b:=by simpa using hb
 have hlt:i<s.data.size:=(Array.getElem?_eq_some_iff.1 this).1
 show s.data[i]! =b
 rw[getElem!_pos s.data i hlt]
 exact (Array.getElem?_eq_some_iff.1 this).2
theorem sT{s:ByteArray}{k:Nat}{b0:UInt8}{r:List UInt8}(h:s.data.toList.drop k=b0::r):
 (b0.toNat<128->Utf8.decode s k=(b0.toNat,1)) /\
 (∀b1 q,r=b1::q->b0.toNat / 32=6->b1.toNat / 64=2->128<=b0.toNat % 32*64+b1.toNat % 64->Utf8.decode s k=(b0.toNat % 32*64+b1.toNat % 64,2)) /\
 (∀b1 b2 q,r=b1::b2::q->b0.toNat / 16=14->b1.toNat / 64=2->b2.toNat / 64=2->2048<=b0.toNat % 16*4096+b1.toNat % 64*64+b2.toNat % 64->b0.toNat % 16*4096+b1.toNat % 64*64+b2.toNat % 64<55296->Utf8.decode s k=(b0.toNat % 16*4096+b1.toNat % 64*64+b2.toNat % 64,3)) /\
 (0<=zN ((Utf8.decode s k).1:Int)->b0.toNat<128\/(∃b1 q,r=b1::q/\b0.toNat / 32=6/\b1.toNat / 64=2/\128<=b0.toNat % 32*64+b1.toNat % 64) \/
  (∃b1 b2 q,r=b1::b2::q/\b0.toNat / 16=14/\b1.toNat / 64=2/\b2.toNat / 64=2/\2048<=b0.toNat % 16*4096+b1.toNat % 64*64+b2.toNat % 64)):=by
 have hget:∀j b,(b0::r)[j]?=some b->s.get! (k+j)=b:=by
  intro j b hb
  apply Nl s rfl
  rw[<-h,List.getElem?_drop] at hb
  exact hb
 have hsz:s.size=k+(b0::r).length:=by
  have:=congrArg List.length h
  rw[List.length_drop] at this
  rw[lW]
  simp at this |-
  omega
 have g0:s.get! (k+0)=b0:=hget 0 b0 rfl
 have hb0:=mR b0
 refine⟨?_,?_,?_,?_⟩
 .intro h0
  simp only[Utf8.decode,g0,h0,if_true]
 .intro b1 q hr h0 h1 hc
  have hb1:=mR b1
  have g1:s.get! (k+1)=b1:=hget 1 b1 (by rw[hr];rfl)
  have hlt:k+1<s.size:=by rw[hsz,hr];simp
  have n0:¬b0.toNat<128:=by omega
  simp only[Utf8.decode,g0,g1,n0,if_false,h0,h1,hlt,decide_true,Bool.and_self,beq_self_eq_true,if_true]
  rw[if_pos (by simpa using hc)]
 .intro b1 b2 q hr h0 h1 h2 hc hv
  have hb1:=mR b1
  have hb2:=mR b2
  have g1:s.get! (k+1)=b1:=hget 1 b1 (by rw[hr];rfl)
  have g2:s.get! (k+2)=b2:=hget 2 b2 (by rw[hr];rfl)
  have hlt:k+1<s.size:=by rw[hsz,hr];simp
  have hlt2:k+2<s.size:=by rw[hsz,hr];simp
  have n0:¬b0.toNat<128:=by omega
  have n1:(b0.toNat / 32==6)=false:=by simp;omega
  have hval:Utf8.valid (b0.toNat % 16*4096+b1.toNat % 64*64+b2.toNat % 64:Nat)=true:=by
   simp only[Utf8.valid,Bool.or_eq_true,Bool.and_eq_true,decide_eq_true_eq]
   left;omega
  simp only[Utf8.decode,g0,g1,g2,n0,if_false,n1,Bool.false_and,Bool.false_eq_true,h0,h1,h2,hlt,hlt2,decide_true,Bool.and_self,beq_self_eq_true,if_true]
  rw[if_pos (by rw[hval];simpa using hc)]
 .intro hs
  by_cases c0:b0.toNat<128
  .exact .inl c0
  right
  have hbad:¬0<=zN ((65533:Nat):Int):=λh=>by have:=Al h;omega
  have eC:∀j,(decide (k+j<s.size)&&(s.get! (k+j)).toNat / 64==2)=true->∃b,(b0::r)[j]?=some b/\b.toNat / 64=2:=by
   intro j hj
   simp only[Bool.and_eq_true,decide_eq_true_eq,beq_iff_eq] at hj
   have hjl:j<(b0::r).length:=by omega
   refine⟨(b0::r)[j],List.getElem?_eq_getElem hjl,?_⟩
   rw[<-hget j _ (List.getElem?_eq_getElem hjl)]
   exact hj.2
  unfold Utf8.decode at hs
  simp only[Utf8.runeError,g0,c0,if_false] at hs
  split at hs
  .rename_i hc
   rw[Bool.and_eq_true,beq_iff_eq] at hc
   split at hs
   .rename_i hge
    left
    obtain⟨b1,e1,e2⟩:=eC 1 hc.2
    cases r with
    | nil=>simp at e1
    | cons b q=>
     simp only[List.getElem?_cons_succ,List.getElem?_cons_zero,Option.some.injEq] at e1
     subst e1
     refine⟨b,q,rfl,hc.1,e2,?_⟩
     have g1:s.get! (k+1)=b:=hget 1 b rfl
     rw[g1] at hge
     exact hge
   .exact (hbad hs).elim
  .split at hs
   .rename_i hc
    rw[Bool.and_eq_true,Bool.and_eq_true,beq_iff_eq] at hc
    split at hs
    .rename_i hge
     right
     obtain⟨b1,e1,e2⟩:=eC 1 hc.1.2
     obtain⟨b2,e3,e4⟩:=eC 2 hc.2
     match r,e1,e3 with
     | b::d::q,e1,e3=>
      simp only[List.getElem?_cons_succ,List.getElem?_cons_zero,Option.some.injEq] at e1 e3
      subst e1
      subst e3
      have g1:s.get! (k+1)=b:=hget 1 b rfl
      have g2:s.get! (k+2)=d:=hget 2 d rfl
      rw[g1,g2,Bool.and_eq_true,decide_eq_true_eq] at hge
      exact⟨b,d,q,rfl,hc.1.1,e2,e4,hge.1⟩
    .exact (hbad hs).elim
   .split at hs
    .split at hs
     .rename_i hge
      have:=Al hs
      simp only[Bool.and_eq_true,decide_eq_true_eq] at hge
      omega
     .exact (hbad hs).elim
    .exact (hbad hs).elim
structure aD3(s:ByteArray)(k:Nat)(b0:UInt8)(r:List UInt8): Prop where
 d1:b0.toNat<128->Utf8.decode s k=(b0.toNat,1)
 d2:∀b1 q,r=b1::q->b0.toNat / 32=6->b1.toNat / 64=2->128<=b0.toNat % 32*64+b1.toNat % 64->Utf8.decode s k=(b0.toNat % 32*64+b1.toNat % 64,2)
 d3:∀b1 b2 q,r=b1::b2::q->b0.toNat / 16=14->b1.toNat / 64=2->b2.toNat / 64=2->2048<=b0.toNat % 16*4096+b1.toNat % 64*64+b2.toNat % 64->b0.toNat % 16*4096+b1.toNat % 64*64+b2.toNat % 64<55296->Utf8.decode s k=(b0.toNat % 16*4096+b1.toNat % 64*64+b2.toNat % 64,3)
 d4:0<=zN ((Utf8.decode s k).1:Int)->b0.toNat<128\/(∃b1 q,r=b1::q/\b0.toNat / 32=6/\b1.toNat / 64=2/\128<=b0.toNat % 32*64+b1.toNat % 64) \/
  (∃b1 b2 q,r=b1::b2::q/\b0.toNat / 16=14/\b1.toNat / 64=2/\b2.toNat / 64=2/\2048<=b0.toNat % 16*4096+b1.toNat % 64*64+b2.toNat % 64)
theorem Zk{b0:UInt8}: jE b0.toNat=[b0]↔b0.toNat<128:=by
 have h0:=mR b0
 unfold jE
 split
 .rename_i h;simp[oV h0,h]
 .rename_i h;split<;>simp[h]
theorem JB{b0 b1:UInt8}: jE (b0.toNat % 32*64+b1.toNat % 64)=[b0,b1]↔128<=b0.toNat % 32*64+b1.toNat % 64/\b0.toNat / 32=6/\b1.toNat / 64=2:=by
 have h0:=mR b0
 have h1:=mR b1
 unfold jE
 split
 .rename_i h;simp;omega
 .rename_i h
  rw[if_pos (by omega)]
  simp only[List.cons.injEq,and_true]
  rw[oV (by omega),oV (by omega)]
  omega
theorem RG{b0 b1 b2:UInt8}: jE (b0.toNat % 16*4096+b1.toNat % 64*64+b2.toNat % 64)=[b0,b1,b2]↔2048<=b0.toNat % 16*4096+b1.toNat % 64*64+b2.toNat % 64/\b0.toNat / 16=14/\b1.toNat / 64=2/\b2.toNat / 64=2:=by
 have h0:=mR b0
 have h1:=mR b1
 have h2:=mR b2
 unfold jE
 split
 .rename_i h;simp;omega
 .split
  .rename_i h;simp;omega
  .rename_i h
   simp only[List.cons.injEq,and_true]
   rw[oV (by omega),oV (by omega),oV (by omega)]
   omega
abbrev mM(n:Nat)(s:ByteArray)(k:Int)(m:Nat)(l:List Int)(u i:Int): Option (List Int×Int):=Qj nB n m (s,k) (l,u,i)
theorem Y8(n:Nat)(s:ByteArray)(k j:Nat)(u:Int)(hk:k+j<=1000): lZ n (s,(k:Int),u,(j:Int))=some (decide (j<=3/\k+j<=s.size/\u=0)):=by
 have hw:wr ((k:Int)+(j:Int))=(k:Int)+j:=i64_in _ (by omega)
 simp only[lZ,lC,nA,hw,lU,decide_eq_true_eq,beq_iff_eq]
 repeat' split
 all_goals first | exact congrArg some (decide_eq_true (by omega)).symm | exact congrArg some (decide_eq_false (by omega)).symm
theorem aDs(n:Nat)(s:ByteArray)(k j c:Nat)(hkj:k+j<=s.size)(hsz:s.size<=40)(hc:c<65536): lY (n+2) (s,(k:Int),(j:Int),(c:Int))=some (decide (0<=zN (c:Int)/\jE c=(s.data.toList.drop k).take j)):=by
 have hw:wr ((k:Int)+(j:Int))=((k+j:Nat):Int):=by rw[wr,i64_in _ (by omega)];push_cast;rfl
 obtain⟨hcut,hlist⟩:=xI hkj
 obtain⟨t,ht1,ht2⟩:=YO (n+1) c hc
 have ht1':yI (n+2) (c:Int)=some t:=ht1
 simp only[lY,lC,mZ,hw,dH (Pc n (c:Int)),dH ht1',dH hcut,lU,decide_eq_true_eq]
 by_cases c1:0<=zN (c:Int)
 .rw[if_pos (show zN (c:Int)>=0 from c1)]
  by_cases c2:t=s.extract k (k+j)
  .rw[if_pos c2,decide_eq_true ⟨c1,by rw[<-ht2,c2,hlist]⟩]
  .rw[if_neg c2,decide_eq_false (λh=>c2 (HW.2 (by rw[ht2,h.2,hlist])))]
 .rw[if_neg (show ¬zN (c:Int)>=0 from c1),decide_eq_false (λh=>c1 h.1)]
theorem Yu(n:Nat)(s:ByteArray)(k:Int)(m:Nat)(l:List Int)(u i:Int): mM n s k (m+1) l u i=bnd (lZ n (s,k,u,i)) λb=>cnd b (bnd (HJ s k (wr (k+i))) λj=>bnd (gS n j) λx=>bnd (lY n (s,k,i,x)) λc=>cnd c (bnd (app l [x]) λo=>mM n s k m o i (wr (i+1))) (mM n s k m l u (wr (i+1)))) (some (l,u)):=rfl
theorem GS(n:Nat)(s:ByteArray)(k j m:Nat)(l:List Int)(u:Int)(hu:u≠0)(hk:k+j<=1000): mM n s (k:Int) (m+1) l u (j:Int)=some (l,u):=by
 rw[Yu,Y8 n s k j u hk,decide_eq_false (λh=>hu h.2.2)];rfl
theorem Fa(n:Nat)(s:ByteArray)(k j m:Nat)(l:List Int)(h:3<j\/s.size<k+j)(hk:k+j<=1000): mM n s (k:Int) (m+1) l 0 (j:Int)=some (l,0):=by
 rw[Yu,Y8 n s k j 0 hk,decide_eq_false (by omega)];rfl
theorem wT(n:Nat)(s:ByteArray)(k j m c:Nat)(l:List Int)(hj:j<=3)(hkj:k+j<=s.size)(hsz:s.size<=40)(hl:l.length<=1000)(hv:gS (n+2) (s.extract k (k+j))=some (c:Int))(hc:c<65536)(hj0:1<=j):
 mM (n+2) s (k:Int) (m+2) l 0 (j:Int)=if 0<=zN (c:Int)/\jE c=(s.data.toList.drop k).take j then some (l++[(c:Int)],(j:Int)) else mM (n+2) s (k:Int) (m+1) l 0 ((j+1:Nat):Int):=by
 have hw:wr ((k:Int)+(j:Int))=((k+j:Nat):Int):=by rw[wr,i64_in _ (by omega)];push_cast;rfl
 have hw2:wr ((j:Int)+1)=((j+1:Nat):Int):=by rw[wr,i64_in _ (by omega)];push_cast;rfl
 have hcut:=(xI hkj).1
 have happ:app l [(c:Int)]=some (l++[(c:Int)]):=pK (by simp;omega)
 rw[Yu,Y8 (n+2) s k j 0 (by omega),decide_eq_true ⟨hj,hkj,rfl⟩,hw,hw2]
 simp only[cnd,dH rfl,dH hcut,dH hv,aDs n s k j c hkj hsz hc,dH happ]
 show cnd (decide (0<=zN (c:Int)/\jE c=(s.data.toList.drop k).take j)) _ _=_
 by_cases c1:0<=zN (c:Int)/\jE c=(s.data.toList.drop k).take j
 .rw[decide_eq_true c1,if_pos c1]
  exact GS _ _ _ _ _ _ _ (by omega) (by omega)
 .rw[decide_eq_false c1,if_neg c1];rfl
theorem aBh(n:Nat)(s:ByteArray)(k m:Nat)(l:List Int)(hk:k<s.size)(hsz:s.size<=40)(hl:l.length<=1000)(hm:5<=m)(hn:2<=n):
 mM n s (k:Int) m l 0 1=some (if 0<=zN ((Utf8.decode s k).1:Int) then (l++[((Utf8.decode s k).1:Int)],((Utf8.decode s k).2:Int)) else (l,0)):=by
 obtain⟨n,rfl⟩:∃z,n=z+2:=⟨n-2,by omega⟩
 obtain⟨m,rfl⟩:∃z,m=z+5:=⟨m-5,by omega⟩
 have hlt:k<s.data.toList.length:=by rw[<-lW];exact hk
 have hd:s.data.toList.drop k=s.data.toList[k]::s.data.toList.drop (k+1):=List.drop_eq_getElem_cons hlt
 have hlen:(s.data.toList.drop (k+1)).length=s.size-(k+1):=by rw[List.length_drop,<-lW]
 generalize s.data.toList[k]=b0 at hd
 generalize s.data.toList.drop (k+1)=r at hd hlen
 have D:aD3 s k b0 r:=⟨(sT hd).1,(sT hd).2.1,(sT hd).2.2.1,(sT hd).2.2.2⟩
 have h0:=mR b0
 have e1:(s.extract k (k+1)).data.toList=[b0]:=by rw[(xI (s:=s) (k:=k) (j:=1) (by omega)).2,hd];rfl
 have r1:=wT n s k 1 (m+3) b0.toNat l (by omega) (by omega) hsz hl (aA1 (n+1) e1) (by omega) (by omega)
 have t1:(s.data.toList.drop k).take 1=[b0]:=by rw[hd];rfl
 rw[t1] at r1
 have g1:mM (n+2) s (k:Int) (m+5) l 0 1=_:=r1
 rw[g1]
 by_cases A1:0<=zN (b0.toNat:Int)/\jE b0.toNat=[b0]
 .rw[if_pos A1,D.d1 (Zk.1 A1.2),if_pos A1.1]
 .rw[if_neg A1]
  match r,hd,hlen,D with
  | [],hd,hlen,D=>
   have hl0:s.size=k+1:=by simp at hlen;omega
   rw[Fa (n+2) s k 2 (m+3) l (.inr (by omega)) (by omega),if_neg]
   intro hs
   rcases D.d4 hs with q | ⟨_,_,q,_⟩ | ⟨_,_,_,q,_⟩
   .rw[D.d1 q] at hs;exact A1 ⟨hs,Zk.2 q⟩
   .cases q
   .cases q
  | b1::q,hd,hlen,D=>
   have h1:=mR b1
   have hsz2:k+2<=s.size:=by simp at hlen;omega
   have e2:(s.extract k (k+2)).data.toList=[b0,b1]:=by rw[(xI (s:=s) (k:=k) (j:=2) hsz2).2,hd];rfl
   have r2:=wT n s k 2 (m+2) _ l (by omega) hsz2 hsz hl (aA0 (n+1) e2) (by omega) (by omega)
   have t2:(s.data.toList.drop k).take 2=[b0,b1]:=by rw[hd];rfl
   rw[t2] at r2
   have g2:mM (n+2) s (k:Int) (m+4) l 0 ((1+1:Nat):Int)=_:=r2
   show mM (n+2) s (k:Int) (m+4) l 0 ((1+1:Nat):Int)=_
   rw[g2]
   by_cases A2:0<=zN ((b0.toNat % 32*64+b1.toNat % 64:Nat):Int)/\jE (b0.toNat % 32*64+b1.toNat % 64)=[b0,b1]
   .have B:=JB.1 A2.2
    rw[if_pos A2,D.d2 b1 q rfl B.2.1 B.2.2 B.1,if_pos A2.1]
   .rw[if_neg A2]
    match q,hd,hlen,D with
    | [],hd,hlen,D=>
     have hl0:s.size=k+2:=by simp at hlen;omega
     rw[show ((2+1:Nat):Int)=((3:Nat):Int) from rfl,Fa (n+2) s k 3 (m+2) l (.inr (by omega)) (by omega),if_neg]
     intro hs
     rcases D.d4 hs with z | ⟨x,y,z,z1,z2,z3⟩ | ⟨_,_,_,z,_⟩
     .rw[D.d1 z] at hs;exact A1 ⟨hs,Zk.2 z⟩
     .cases z
      rw[D.d2 _ _ rfl z1 z2 z3] at hs
      exact A2 ⟨hs,JB.2 ⟨z3,z1,z2⟩⟩
     .cases z
    | b2::q,hd,hlen,D=>
     have h2:=mR b2
     have hsz3:k+3<=s.size:=by simp at hlen;omega
     have e3:(s.extract k (k+3)).data.toList=[b0,b1,b2]:=by rw[(xI (s:=s) (k:=k) (j:=3) hsz3).2,hd];rfl
     have r3:=wT n s k 3 (m+1) _ l (by omega) hsz3 hsz hl (aAz (n+1) e3) (by omega) (by omega)
     have t3:(s.data.toList.drop k).take 3=[b0,b1,b2]:=by rw[hd];rfl
     rw[t3] at r3
     show mM (n+2) s (k:Int) (m+1+2) l 0 ((3:Nat):Int)=_
     rw[r3]
     by_cases A3:0<=zN ((b0.toNat % 16*4096+b1.toNat % 64*64+b2.toNat % 64:Nat):Int)/\jE (b0.toNat % 16*4096+b1.toNat % 64*64+b2.toNat % 64)=[b0,b1,b2]
     .have hv:=Al A3.1
      have B:=RG.1 A3.2
      rw[if_pos A3,D.d3 b1 b2 q rfl B.2.1 B.2.2.1 B.2.2.2 B.1 (by omega),if_pos A3.1]
     .rw[if_neg A3,Fa (n+2) s k 4 (m+1) l (.inl (by omega)) (by omega),if_neg]
      intro hs
      rcases D.d4 hs with z | ⟨x,y,z,z1,z2,z3⟩ | ⟨x,y,w,z,z1,z2,z3,z4⟩
      .rw[D.d1 z] at hs;exact A1 ⟨hs,Zk.2 z⟩
      .cases z
       rw[D.d2 _ _ rfl z1 z2 z3] at hs
       exact A2 ⟨hs,JB.2 ⟨z3,z1,z2⟩⟩
      .cases z
       by_cases hv:b0.toNat % 16*4096+b1.toNat % 64*64+b2.toNat % 64<55296
       .rw[D.d3 _ _ _ rfl z1 z2 z3 z4 hv] at hs
        exact A3 ⟨hs,RG.2 ⟨z4,z1,z2,z3⟩⟩
       .have hb:=mR b0
        have hdec:(Utf8.decode s k).1=65533\/(Utf8.decode s k).1=b0.toNat % 16*4096+b1.toNat % 64*64+b2.toNat % 64:=by
         have hget:∀j b,(b0::b1::b2::q)[j]?=some b->s.get! (k+j)=b:=by
          intro j b hb
          apply Nl s rfl
          rw[<-hd,List.getElem?_drop] at hb
          exact hb
         have g0:s.get! (k+0)=b0:=hget 0 b0 rfl
         have g1:s.get! (k+1)=b1:=hget 1 b1 rfl
         have g2:s.get! (k+2)=b2:=hget 2 b2 rfl
         have n0:¬b0.toNat<128:=by omega
         have n1:(b0.toNat / 32==6)=false:=by simp;omega
         have l1:k+1<s.size:=by omega
         have l2:k+2<s.size:=by omega
         simp only[Utf8.decode,g0,g1,g2,n0,if_false,n1,Bool.false_and,Bool.false_eq_true,z1,z2,z3,l1,l2,decide_true,Bool.and_self,beq_self_eq_true,if_true]
         split
         .exact .inr rfl
         .exact .inl rfl
        rcases hdec with q | q
        .rw[q] at hs;have:=Al hs;omega
        .rw[q] at hs;have:=Al hs;omega
theorem Xo(s:ByteArray)(k:Nat): 1<=(Utf8.decode s k).2/\(Utf8.decode s k).2<=4/\(Utf8.decode s k).1<2097152:=by
 have h0:=mR (s.get! (k+0))
 have h1:=mR (s.get! (k+1))
 have h2:=mR (s.get! (k+2))
 have h3:=mR (s.get! (k+3))
 unfold Utf8.decode
 simp only[Utf8.runeError]
 have hk:∀(p:Prop) [Decidable p] (a b:Nat×Nat),(p->(1<=a.2/\a.2<=4/\a.1<2097152))->(1<=b.2/\b.2<=4/\b.1<2097152)->(1<=(if p then a else b).2/\(if p then a else b).2<=4/\(if p then a else b).1<2097152):=by
  intro p _ a b h1 h2
  split
  .exact h1 (by assumption)
  .exact h2
 repeat' (first | (apply hk;intro _) | apply hk)
 all_goals (simp only[];omega)
def dl(s:ByteArray): Nat->Nat->Option (List Int)
 | 0,_=>none
 | f+1,k=>if k<s.size then (if 0<=zN ((Utf8.decode s k).1:Int) then (match dl s f (k+(Utf8.decode s k).2) with | some r=>some (((Utf8.decode s k).1:Int)::r) | none=>none) else none) else some []
def V2(s:ByteArray): Option (List Int):=dl s (s.size+1) 0
def dlR(s:ByteArray): List Int×Int:=match V2 s with
 | some r=>(r,0)
 | none=>([],4)
theorem MW(s:ByteArray)(hs:s.size<=40): ∀(f:Nat) (l:List Int) (k:Nat),s.size-k<f->l.length+(s.size-k)<=100->
 aD (λn m=>uC kH n m () (l,(s,k))) λz=>match dl s f k with | some r=>∃q,z=.inr (l++r,q) | none=>∃q,z=.inl q
 | 0,l,k,h,hl=>by omega
 | f+1,l,k,h,hl=>by
  obtain⟨w1,w2,w3⟩:=Xo s k
  have hw:wr (((Utf8.decode s k).1:Nat):Int)=((Utf8.decode s k).1:Int):=i64_in _ (by omega)
  refine eV (aE (λhk=>?_) λhk=>?_)
  .have hk:k<s.size:=of_decide_eq_true hk
   simp only[dl,if_pos hk]
   rw[hw]
   refine aD.e (DN _) (aE (λhc=>?_) λhc=>?_)
   .have hc:=of_decide_eq_true hc
    rw[if_neg (by omega)]
    exact aC ⟨_,rfl⟩
   .have hc:=of_decide_eq_false hc
    rw[if_pos (by omega)]
    refine aL (x:=l++[((Utf8.decode s k).1:Int)]) (pK (by simp;omega)) ?_
    refine (MW s hs f _ (k+(Utf8.decode s k).2) (by omega) (by simp;omega)).imp λz hz=>?_
    cases hd:dl s f (k+(Utf8.decode s k).2) with
    | none=>rw[hd] at hz;exact hz
    | some r=>rw[hd] at hz;obtain⟨q,rfl⟩:=hz;exact⟨q,by simp⟩
  .have hk:¬k<s.size:=of_decide_eq_false hk
   simp only[dl,if_neg hk]
   exact aC ⟨(s,k),by rw[List.append_nil]⟩
theorem MV(s:ByteArray)(hs:s.size<=40): ∀(f:Nat) (l:List Int) (k:Nat),s.size-k<f->l.length+(s.size-k)<=100->k<=100->
 aD (λn m=>uC nC n m s (l,(k:Int))) λz=>match dl s f k with | some r=>z=.inr (l++r) | none=>∃q,z=.inl q
 | 0,l,k,h,hl,hk0=>by omega
 | f+1,l,k,h,hl,hk0=>by
  obtain⟨w1,w2,w3⟩:=Xo s k
  refine eV (aE (λhk=>?_) λhk=>?_)
  .have hk:(k:Int)<(s.size:Int):=of_decide_eq_true hk
   have hk:k<s.size:=by omega
   simp only[dl,if_pos hk]
   refine aD.e (Ev.mk 5 λn hn=>aBh n s k n l hk hs (by omega) hn (by omega)) ?_
   by_cases hc:0<=zN ((Utf8.decode s k).1:Int)
   .have hw:wr ((k:Int)+((Utf8.decode s k).2:Int))=((k+(Utf8.decode s k).2:Nat):Int):=by rw[wr,i64_in _ (by omega)];push_cast;rfl
    have hne:(((Utf8.decode s k).2:Int)==0)=false:=beq_eq_false_iff_ne.2 (by omega)
    simp only[if_pos hc,hw,hne]
    refine (MV s hs f _ (k+(Utf8.decode s k).2) (by omega) (by simp;omega) (by omega)).imp λz hz=>?_
    cases hd:dl s f (k+(Utf8.decode s k).2) with
    | none=>rw[hd] at hz;exact hz
    | some r=>rw[hd] at hz;rw[hz];simp
   .simp only[if_neg hc]
    exact aC ⟨_,rfl⟩
  .have hk:¬(k:Int)<(s.size:Int):=of_decide_eq_false hk
   simp only[dl,if_neg (show ¬k<s.size by omega)]
   exact aC (by simp)
theorem QO(s:ByteArray)(hs:s.size<=40): Ev (λn=>uF n s) (dlR s):=by
 refine bN (λ_=>rfl) ?_
 have h:=cO (MW s hs (s.size+1) [] 0 (by omega) (by simp;omega))
 obtain⟨z,hz,h⟩:=h.val
 unfold dlR V2
 cases hd:dl s (s.size+1) 0 with
 | none=>rw[hd] at hz;obtain⟨q,rfl⟩:=hz;exact cM (Q:=λ_=>True) (R:=λ_=>False) (h.imp λ_ e=>by rw[e];trivial) (λ_ _=>aC rfl) λ_ h=>h.elim
 | some r=>rw[hd] at hz;obtain⟨q,rfl⟩:=hz;exact cM (Q:=λ_=>False) (R:=λx=>x.1=r) (h.imp λ_ e=>by rw[e];rfl) (λ_ h=>h.elim) λx h=>aL rfl (aC (by rw[h]))
theorem QL(s:ByteArray)(hs:s.size<=40): Ev (λn=>Bl n s) (dlR s):=by
 refine bN (λ_=>rfl) ?_
 have h:=cO (MV s hs (s.size+1) [] 0 (by omega) (by simp;omega) (by omega))
 obtain⟨z,hz,h⟩:=h.val
 unfold dlR V2
 cases hd:dl s (s.size+1) 0 with
 | none=>rw[hd] at hz;obtain⟨q,rfl⟩:=hz;exact cM (Q:=λ_=>True) (R:=λ_=>False) (h.imp λ_ e=>by rw[e];trivial) (λ_ _=>aC rfl) λ_ h=>h.elim
 | some r=>rw[hd] at hz;rw[hz] at h;exact cM (Q:=λ_=>False) (R:=λx=>x=r) (h.imp λ_ e=>by rw[e];rfl) (λ_ h=>h.elim) λx h=>aL rfl (aC (by rw[h]))
def Ig{α:Type}[DecidableEq α](z:α): List α->Bool
 | []=>false
 | a::r=>(decide (a=z)&&decide (r.head?=some z))||Ig z r
theorem Xq(l:List UInt8): Lib.contains l [32,32]=Ig 32 l:=by
 induction l with
 | nil=>rfl
 | cons b l ih=>
  unfold Lib.contains at ih |-
  unfold Lib.index
  have hp:([32,32]:List UInt8).isPrefixOf (b::l)=(decide (b=32)&&decide (l.head?=some 32)):=by
   cases l with
   | nil=>simp[List.isPrefixOf]
   | cons c r=>
    simp only[List.isPrefixOf,Bool.and_true,List.head?_cons,Option.some.injEq]
    congr 1
    .rw[Bool.eq_iff_iff,beq_iff_eq,decide_eq_true_eq];exact eq_comm
    .rw[Bool.eq_iff_iff,beq_iff_eq,decide_eq_true_eq];exact eq_comm
  rw[hp]
  simp only[Ig]
  rw[<-ih]
  have hge:=Lib.index_ge l [32,32]
  cases (decide (b=32)&&decide (l.head?=some 32)) with
  | true=>simp
  | false=>
   simp only[Bool.false_eq_true,if_false,Bool.false_or]
   by_cases h:Lib.index l [32,32]=-1
   .simp[h]
   .have:(Lib.index l [32,32]==-1)=false:=beq_eq_false_iff_ne.2 h
    rw[this]
    simp only[Bool.false_eq_true,if_false]
    rw[decide_eq_true (by omega),decide_eq_true (by omega)]
def UB(c:Int): List UInt8:=jE c.toNat
def Re(c:Int): Prop:=0<=zN c
theorem VM{c:Int}(h:Re c): 32<=c/\c<55296:=by
 refine⟨?_,Al h⟩
 apply Classical.byContradiction
 intro hc
 have:zN c=-1:=by
  simp only[zN,Lk,zV]
  iterate 13 rw[if_neg (by omega)]
 unfold Re at h
 omega
theorem XC: UB 32=[32]:=rfl
theorem J8{c:Int}(h:Re c): UB c≠[]:=by
 unfold UB jE
 split
 .simp
 .split<;>simp
theorem HY{c:Int}(h:Re c)(hc:c≠32): ∀b∈UB c,b≠32:=by
 obtain⟨h1,h2⟩:=VM h
 have key:∀a:Nat,a<256->a≠32->UInt8.ofNat a≠32:=by
  intro a ha hne e
  apply hne
  have:=(oV (b:=32) ha).1 e
  simpa using this
 unfold UB jE
 intro b hb
 split at hb
 .simp only[List.mem_singleton] at hb
  subst hb
  exact key _ (by omega) (by omega)
 .split at hb
  .simp only[List.mem_cons,List.not_mem_nil,or_false] at hb
   rcases hb with rfl | rfl
   .exact key _ (by omega) (by omega)
   .exact key _ (by omega) (by omega)
  .simp only[List.mem_cons,List.not_mem_nil,or_false] at hb
   rcases hb with rfl | rfl | rfl
   .exact key _ (by omega) (by omega)
   .exact key _ (by omega) (by omega)
   .exact key _ (by omega) (by omega)
theorem Uc(l:List Int)(hl:∀c∈l,Re c): (l.flatMap UB).head?=some 32↔l.head?=some 32:=by
 cases l with
 | nil=>simp
 | cons c r=>
  have hg:=hl c (by simp)
  rw[List.flatMap_cons]
  by_cases hc:c=32
  .subst hc;simp[XC]
  .cases hu:UB c with
   | nil=>exact (J8 hg hu).elim
   | cons b q=>
    have:=HY hg hc b (by rw[hu];simp)
    simp[this,hc]
theorem XA(xs ys:List UInt8)(h:∀b∈xs,b≠32): Ig 32 (xs++ys)=Ig 32 ys:=by
 induction xs with
 | nil=>rfl
 | cons b q ih=>
  have hb:=h b (by simp)
  simp only[List.cons_append,Ig,hb,decide_false,Bool.false_and,Bool.false_or]
  exact ih λb hb=>h b (by simp[hb])
theorem XB(l:List Int)(hl:∀c∈l,Re c): Ig 32 (l.flatMap UB)=Ig 32 l:=by
 induction l with
 | nil=>rfl
 | cons c r ih=>
  have hg:=hl c (by simp)
  have hr:∀c∈r,Re c:=λc hc=>hl c (by simp[hc])
  rw[List.flatMap_cons]
  by_cases hc:c=32
  .subst hc
   rw[XC]
   simp only[List.cons_append,List.nil_append,Ig,ih hr,decide_true,Bool.true_and]
   congr 1
   rw[Bool.eq_iff_iff]
   simp only[decide_eq_true_eq]
   exact Uc r hr
  .rw[XA _ _ (HY hg hc),ih hr]
   simp[Ig,hc]
theorem OT(l:List Int)(hl:∀c∈l,Re c): (l.flatMap UB).getLast?=some 32↔l.getLast?=some 32:=by
 rcases List.eq_nil_or_concat l with rfl | ⟨q,c,rfl⟩
 .simp
 .have hg:=hl c (by simp)
  rw[List.concat_eq_append,List.flatMap_append,List.flatMap_cons,List.flatMap_nil,List.append_nil,List.getLast?_append,List.getLast?_append]
  simp only[List.getLast?_singleton,Option.some_or,Option.some.injEq]
  by_cases hc:c=32
  .subst hc;simp[XC]
  .have hne:=J8 hg
   rw[List.getLast?_eq_some_getLast hne]
   simp only[Option.some_or,Option.some.injEq,hc,iff_false]
   exact HY hg hc _ (List.getLast_mem hne)
theorem NG{s:ByteArray}{k:Nat}(hk:k<s.size)(hs:0<=zN ((Utf8.decode s k).1:Int)):
 s.data.toList.drop k=UB ((Utf8.decode s k).1:Int)++s.data.toList.drop (k+(Utf8.decode s k).2):=by
 have hlt:k<s.data.toList.length:=by rw[<-lW];exact hk
 have hd:s.data.toList.drop k=s.data.toList[k]::s.data.toList.drop (k+1):=List.drop_eq_getElem_cons hlt
 generalize s.data.toList[k]=b0 at hd
 generalize hr:s.data.toList.drop (k+1)=r at hd
 have hdd:∀j,s.data.toList.drop (k+1+j)=r.drop j:=by
  intro j
  rw[<-hr,List.drop_drop]
 obtain⟨D1,D2,D3,D4⟩:=sT hd
 rcases D4 hs with z | ⟨b1,q,z,z1,z2,z3⟩ | ⟨b1,b2,q,z,z1,z2,z3,z4⟩
 .rw[D1 z,hd]
  show b0::r=jE b0.toNat++s.data.toList.drop (k+1)
  rw[Zk.2 z,hr];rfl
 .rw[D2 b1 q z z1 z2 z3,hd]
  show b0::r=jE (b0.toNat % 32*64+b1.toNat % 64)++s.data.toList.drop (k+1+1)
  rw[JB.2 ⟨z3,z1,z2⟩,hdd 1,z];rfl
 .by_cases hv:b0.toNat % 16*4096+b1.toNat % 64*64+b2.toNat % 64<55296
  .rw[D3 b1 b2 q z z1 z2 z3 z4 hv,hd]
   show b0::r=jE (b0.toNat % 16*4096+b1.toNat % 64*64+b2.toNat % 64)++s.data.toList.drop (k+1+2)
   rw[RG.2 ⟨z4,z1,z2,z3⟩,hdd 2,z];rfl
  .exfalso
   clear D1 D2 D3 D4
   have hget:∀j b,(b0::r)[j]?=some b->s.get! (k+j)=b:=by
    intro j b hb
    apply Nl s rfl
    rw[<-hd,List.getElem?_drop] at hb
    exact hb
   have hsz:s.size=k+(b0::r).length:=by
    have:=congrArg List.length hd
    rw[List.length_drop] at this
    rw[lW]
    simp only[List.length_cons] at this |-
    omega
   subst z
   have g0:s.get! (k+0)=b0:=hget 0 b0 rfl
   have g1:s.get! (k+1)=b1:=hget 1 b1 rfl
   have g2:s.get! (k+2)=b2:=hget 2 b2 rfl
   have n0:¬b0.toNat<128:=by omega
   have hb0:=mR b0
   have n1:(b0.toNat / 32==6)=false:=by simp;omega
   have l1:k+1<s.size:=by rw[hsz];simp
   have l2:k+2<s.size:=by rw[hsz];simp
   have hdec:(Utf8.decode s k).1=65533\/(Utf8.decode s k).1=b0.toNat % 16*4096+b1.toNat % 64*64+b2.toNat % 64:=by
    simp only[Utf8.decode,g0,g1,g2,n0,if_false,n1,Bool.false_and,Bool.false_eq_true,z1,z2,z3,l1,l2,decide_true,Bool.and_self,beq_self_eq_true,if_true]
    split
    .exact .inr rfl
    .exact .inl rfl
   have:=Al hs
   rcases hdec with q | q<;>rw[q] at this<;>omega
theorem v7(s:ByteArray): ∀(m k:Nat) (r:List Int),dl s m k=some r->s.data.toList.drop k=r.flatMap UB/\(∀c∈r,Re c)/\r.length<=s.size-k:=by
 intro m
 induction m with
 | zero=>intro k r h;cases h
 | succ m ih=>
  intro k r h
  simp only[dl] at h
  split at h
  .rename_i hk
   split at h
   .rename_i hc
    split at h
    .rename_i q hq
     cases h
     obtain⟨h1,h2,h3⟩:=ih _ _ hq
     obtain⟨w1,_,_⟩:=Xo s k
     refine⟨?_,?_,?_⟩
     .rw[List.flatMap_cons,<-h1];exact NG hk hc
     .intro c hc'
      rcases List.mem_cons.1 hc' with rfl | hc'
      .exact hc
      .exact h2 c hc'
     .simp only[List.length_cons];omega
    .cases h
   .cases h
  .rename_i hk
   cases h
   refine⟨?_,by simp,by simp⟩
   rw[List.drop_eq_nil_of_le (by rw[<-lW];omega)]
   rfl
def Bh(l:List Int): Bool:=l.any λc=>decide (zN c≠0)
theorem QD(a:Int)(r:List Int): Bh (a::r)=(decide (zN a≠0)||Bh r):=rfl
theorem zE{l:List Int}{i:Nat}(h:i<l.length): Bh (l.drop i)=((zN l[i] != 0)||Bh (l.drop (i+1))):=by
 rw[mH h,QD];congr 1
 by_cases hc:zN l[i]=0<;>simp[hc]
theorem LX{l:List Int}{i:Nat}(h:l.length<=i): Bh (l.drop i)=false:=by rw[List.drop_eq_nil_of_le h];rfl
theorem H8(a b:List Int)(hb:b.length<=1000)(i:Nat): aD (λn m=>uC oZ n m (a,b,ln b) (i:Int)) (Su (λ_=>Bh (b.drop i)=true) λ_=>Bh (b.drop i)=false):=
 eV (jL (λx hx hlt=>by
  have hx':x=b[i]:=by rw[List.getElem?_eq_getElem hlt] at hx;cases hx;rfl
  subst hx'
  rw[oM (by omega)]
  refine aD.e (DN _) (aE (λh=>aC ?_) λh=>?_)
  .show Bh (b.drop i)=true;rw[zE hlt,h];rfl
  .rw[zE hlt,h,Bool.false_or];exact H8 a b hb (i+1))
  (λhge=>aC (LX hge)))
termination_by b.length-i
theorem I7(b:List Int)(hb:b.length<=1000)(i:Nat): aD (λn m=>uC mS n m b (i:Int)) (Su (λ_=>Bh (b.drop i)=true) λ_=>Bh (b.drop i)=false):=
 eV (jL (λx hx hlt=>by
  have hx':x=b[i]:=by rw[List.getElem?_eq_getElem hlt] at hx;cases hx;rfl
  subst hx'
  rw[oM (by omega)]
  refine aD.e (QJ _) (aE (λh=>aC ?_) λh=>?_)
  .show Bh (b.drop i)=true;rw[zE hlt,h];rfl
  .rw[zE hlt,h,Bool.false_or];exact I7 b hb (i+1))
  (λhge=>aC (LX hge)))
termination_by b.length-i
theorem WJ(b:List Int)(hb:b.length<=1000): Ev (λn=>Bj n b) (!Bh b):=
 bN (λ_=>rfl) (cM (cO (I7 b hb 0)) (λ_ h=>aC (by rw[List.drop_zero] at h;rw[h];rfl)) λ_ h=>aL rfl (aC (by rw[List.drop_zero] at h;rw[h];rfl)))
theorem DL{l:List Int}{i:Nat}(h:i<l.length)(h1:1<=i): Ig 32 (l.drop (i-1))=((l[i]==32&&l[i-1]'(by omega)==32)||Ig 32 (l.drop i)):=by
 have hlt:i-1<l.length:=by omega
 have e:i-1+1=i:=by omega
 rw[mH hlt,e]
 have hh:(l.drop i).head?=some l[i]:=by rw[mH h];rfl
 simp only[Ig,hh,Option.some.injEq]
 congr 1
 rw[Bool.eq_iff_iff,Bool.and_eq_true,Bool.and_eq_true,decide_eq_true_eq,decide_eq_true_eq,beq_iff_eq,beq_iff_eq]
 exact and_comm
theorem J1(b:List Int)(hb:b.length<=1000)(i:Nat)(h1:1<=i)(h2:i<=b.length): aD (λn m=>uC mV n m b (i:Int)) (Su (λ_=>Ig 32 (b.drop (i-1))=true) λ_=>Ig 32 (b.drop (i-1))=false):=
 eV (aE (λh=>by
  have h:(i:Int)<(b.length:Int):=of_decide_eq_true h
  have hlt:i<b.length:=by omega
  have hlt':i-1<b.length:=by omega
  rw[oM (by omega)]
  refine aD.e (r:=(b[i]==32&&b[i-1]==32)) (Ev.mk 0 λn _=>?_) (aE (λh=>aC ?_) λh=>?_)
  .simp only[Af,lC,mT,dH (jJ hlt),YI (show i<1000000 by omega) h1,dH (jJ hlt')]
   cases b[i]==32<;>cases b[i-1]==32<;>rfl
  .show Ig 32 (b.drop (i-1))=true;rw[DL hlt h1,h];rfl
  .rw[DL hlt h1,h,Bool.false_or];exact J1 b hb (i+1) (by omega) (by omega))
  (λh=>aC (by
   have h:¬(i:Int)<(b.length:Int):=of_decide_eq_false h
   have hlt:i-1<b.length:=by omega
   show Ig 32 (b.drop (i-1))=false
   rw[mH hlt,List.drop_eq_nil_of_le (by omega)]
   simp[Ig])))
termination_by b.length-i
theorem WR(v:List Int)(hv:v.length<=1000)(h0:v≠[]): Ev (λn=>Bk n v) (decide (v.head?=some 32)||decide (v.getLast?=some 32)||Ig 32 v):=by
 have hl:0<v.length:=List.length_pos_iff.2 h0
 have hlt:v.length-1<v.length:=by omega
 have i0:idx v 0=some v[0]:=jJ hl
 have i1:idx v (wr (((v.length:Nat):Int)-1))=some v[v.length-1]:=by
  rw[YI (by omega) (by omega)];exact jJ hlt
 have e0:v.head?=some v[0]:=by rw[List.head?_eq_getElem?,List.getElem?_eq_getElem hl]
 have e1:v.getLast?=some v[v.length-1]:=by rw[List.getLast?_eq_getElem?,List.getElem?_eq_getElem hlt]
 have d0:decide (v.head?=some 32)=(v[0]==32):=by rw[e0,Bool.eq_iff_iff,decide_eq_true_eq,beq_iff_eq,Option.some.injEq]
 have d1:decide (v.getLast?=some 32)=(v[v.length-1]==32):=by rw[e1,Bool.eq_iff_iff,decide_eq_true_eq,beq_iff_eq,Option.some.injEq]
 rw[d0,d1]
 refine bN (λ_=>rfl) (aD.e (r:=(v[0]==32||v[v.length-1]==32)) (Ev.mk 0 λn _=>?_) (aE (λh=>aC (by rw[h];rfl)) λh=>?_))
 .simp only[Ag,lC,mU,dH i0,dH i1]
  cases v[0]==32<;>cases v[v.length-1]==32<;>rfl
 .rw[h,Bool.false_or]
  have hh:=J1 v hv 1 (by omega) (by omega)
  rw[show 1-1=0 from rfl,List.drop_zero] at hh
  exact cM (cO hh) (λ_ h=>aC h.symm) λ_ h=>aL rfl (aC h.symm)
def Cc(s:ByteArray): Int:=
 if s=⟨#[]⟩ then 14 else if 40<s.size then 3 else match V2 s with
  | none=>4
  | some l=>if (decide (l.head?=some 32)||decide (l.getLast?=some 32)||Ig 32 l) then 14 else if Bh l then 0 else 14
theorem WC{s:ByteArray}(h:s≠⟨#[]⟩){l:List Int}(hd:V2 s=some l): l≠[]/\s.data.toList=l.flatMap UB/\(∀c∈l,Re c)/\l.length<=s.size:=by
 obtain⟨h1,h2,h3⟩:=v7 s _ 0 l hd
 rw[List.drop_zero] at h1
 refine⟨?_,h1,h2,by omega⟩
 rintro rfl
 apply h
 rw[HW,h1];rfl
theorem XJ(s:ByteArray): Ev (λn=>Gm n s) (Cc s):=by
 unfold Cc
 refine bN (λ_=>rfl) (aE (λc0=>?_) λc0=>aE (λc1=>?_) λc1=>?_)
 .rw[if_pos (of_decide_eq_true c0)];exact aC rfl
 .have c0:=of_decide_eq_false c0
  have c1:((s.size:Nat):Int) > 40:=of_decide_eq_true c1
  rw[if_neg c0,if_pos (by omega)];exact aC rfl
 .have c0:=of_decide_eq_false c0
  have c1:¬((s.size:Nat):Int) > 40:=of_decide_eq_false c1
  rw[if_neg c0,if_neg (by omega)]
  refine aD.e (QL s (by omega)) ?_
  unfold dlR
  cases hd:V2 s with
  | none=>exact aC rfl
  | some l=>
   dsimp only
   obtain⟨g1,g2,g3,g4⟩:=WC c0 hd
   have hl:(ln l==0)=false:=beq_eq_false_iff_ne.2 (by have:=List.length_pos_iff.2 g1;show ((l.length:Nat):Int)≠0;omega)
   refine bF (Q:=λb=>b=((decide (l.head?=some 32)||decide (l.getLast?=some 32)||Ig 32 l)||!Bh l||false)) ?_ λb hb=>?_
   .simp only[Dr,lC,pR,hl]
    refine aD.e (WR l (by omega) g1) (aE (λh=>aC (by rw[h];rfl)) λh=>aD.e (WJ l (by omega)) (aE (λh'=>aC (by rw[h,h'];rfl)) λh'=>aC (by rw[h,h'];rfl)))
   .subst hb
    cases (decide (l.head?=some 32)||decide (l.getLast?=some 32)||Ig 32 l) with
    | true=>exact aC rfl
    | false=>cases Bh l<;>exact aC rfl
theorem F2(s:ByteArray): Ev (λn=>As n s) (Cc s):=by
 unfold Cc
 refine bN (λ_=>rfl) (bF (Q:=λb=>b.2=Cc s) ?_ λb hb=>aC hb)
 unfold Cc
 refine bN (λ_=>rfl) (aE (λc0=>?_) λc0=>aE (λc1=>?_) λc1=>?_)
 .rw[if_pos (of_decide_eq_true c0)];exact aC rfl
 .have c0:=of_decide_eq_false c0
  have c1:((s.size:Nat):Int) > 40:=of_decide_eq_true c1
  rw[if_neg c0,if_pos (by omega)];exact aC rfl
 .have c0:=of_decide_eq_false c0
  have c1:¬((s.size:Nat):Int) > 40:=of_decide_eq_false c1
  rw[if_neg c0,if_neg (by omega)]
  refine aD.e (QO s (by omega)) ?_
  unfold dlR
  cases hd:V2 s with
  | none=>exact aC rfl
  | some l=>
   dsimp only
   obtain⟨g1,g2,g3,g4⟩:=WC c0 hd
   have hpos:0<s.data.toList.length:=by
    rcases Nat.eq_zero_or_pos s.data.toList.length with h | h
    .exfalso;apply c0;rw[HW];exact List.eq_nil_of_length_eq_zero h
    .exact h
   have hsz:s.size=s.data.toList.length:=lW s
   have hlt:s.data.toList.length-1<s.data.toList.length:=by omega
   have i0:Ls s 0=some ((s.data.toList[0]).toNat:Int):=mB rfl 0 _ (List.getElem?_eq_getElem hpos)
   have i1:Ls s (wr (((s.size:Nat):Int)-1))=some ((s.data.toList[s.data.toList.length-1]).toNat:Int):=by
    rw[YI (by omega) (by omega),hsz];exact mB rfl _ _ (List.getElem?_eq_getElem hlt)
   have h46:Ev (λn=>Oj n s ⟨#[32,32]⟩) (Ig 32 l):=.mk 1 λn hn=>by
    obtain⟨n,rfl⟩:∃z,n=z+1:=⟨n-1,by omega⟩
    have hb:Nat.blt s.size 4294967281=true:=by
     rw[Nat.blt_eq];omega
    simp only[Oj,hb]
    show some (Lib.contains s.data.toList [32,32])=_
    rw[Xq,g2,XB l g3]
   have hb32:∀b:UInt8,((b.toNat:Int)==32)=decide (b=32):=by
    intro b
    rw[Bool.eq_iff_iff,beq_iff_eq,decide_eq_true_eq,<-UInt8.toNat_inj]
    show (b.toNat:Int)=32↔b.toNat=32
    omega
   have eh:decide (s.data.toList[0]=32)=decide (l.head?=some 32):=by
    rw[Bool.eq_iff_iff,decide_eq_true_eq,decide_eq_true_eq,<-Uc l g3,<-g2,List.head?_eq_getElem?,List.getElem?_eq_getElem hpos,Option.some.injEq]
   have el:decide (s.data.toList[s.data.toList.length-1]=32)=decide (l.getLast?=some 32):=by
    rw[Bool.eq_iff_iff,decide_eq_true_eq,decide_eq_true_eq,<-OT l g3,<-g2,List.getLast?_eq_getElem?,List.getElem?_eq_getElem hlt,Option.some.injEq]
   refine bF (Q:=λb=>b=(decide (l.head?=some 32)||decide (l.getLast?=some 32)||Ig 32 l)) ?_ λb hb=>?_
   .simp only[Cb,lC,oY,dH i0,dH i1,hb32,eh,el]
    refine aE (λh=>aC (by rw[h];rfl)) λh=>aE (λh'=>aC (by rw[h,h'];rfl)) λh'=>aD.e h46 ?_
    rw[h,h']
    cases Ig 32 l<;>exact aC rfl
   .subst hb
    cases (decide (l.head?=some 32)||decide (l.getLast?=some 32)||Ig 32 l) with
    | true=>exact aC rfl
    | false=>
     have hh:=H8 l l (by omega) 0
     rw[List.drop_zero] at hh
     exact cM (cO hh) (λ_ h=>aC (by rw[h];rfl)) λ_ h=>aL rfl (aC (by rw[h];rfl))
theorem iW{N:Nat}{T:Nat->Prop}(h:∀i,(i<N->T (i+1))->T i)(i:Nat): T i:=h i λhi=>iW h (i+1)
termination_by N-i
def yV(a:Int): Bool:=decide (1<=a/\a<=1073741824)
def Mb(p:Aaa): Bool:=decide (-1048576<=p.X/\p.X<=1048576/\-1048576<=p.Y/\p.Y<=1048576)
def z8(c:Int): Bool:=decide (-1073741824<=c/\c<=1073741824)
def bB(b:Int): Bool:=decide (1<=b/\b<=9)
def kU(x:aP): Bool:=yV x.ID&&(z8 x.C&&(Mb x.At&&(x.Via.all Mb&&x.Parts.all yV)))
def nE(x:aP): Bool:=(x.Kind != 4||yV x.A&&yV x.B)&&((x.Kind != 12||yV x.A)&&((x.Kind != 7&&x.Kind != 10||bB x.B)&&kU x))
theorem DO(a:Int): Ev (λn=>yC n a) (yV a):=bN (λ_=>rfl) (aE (λh=>aE (λk=>aC (decide_eq_true ⟨of_decide_eq_true h,of_decide_eq_true k⟩).symm) λk=>aC (decide_eq_false λz=>of_decide_eq_false k z.2).symm) λh=>aC (decide_eq_false λz=>of_decide_eq_false h z.1).symm)
theorem XP(a:Int): Ev (λn=>cU n a) (yV a):=eG (aE (λh=>aE (λk=>aC (decide_eq_true ⟨of_decide_eq_true h,of_decide_eq_true k⟩).symm) λk=>aC (decide_eq_false λz=>of_decide_eq_false k z.2).symm) λh=>aC (decide_eq_false λz=>of_decide_eq_false h z.1).symm)
theorem F9{p q r s:Prop}[Decidable p][Decidable q][Decidable r][Decidable s]{P:Bool->Prop}(h:P (decide (p/\q/\r/\s))): aD (λ_ _=>cd p (cd q (cd r (cd s (some true) (some false)) (some false)) (some false)) (some false)) P:=by
 by_cases h1:p
 .by_cases h2:q
  .by_cases h3:r
   .by_cases h4:s
    .simp only[cd,h1,h2,h3,h4,decide_true,cnd];exact aC (by simpa [h1,h2,h3,h4] using h)
    .simp only[cd,h1,h2,h3,h4,decide_true,decide_false,cnd];exact aC (by simpa [h1,h2,h3,h4] using h)
   .simp only[cd,h1,h2,h3,decide_true,decide_false,cnd];exact aC (by simpa [h1,h2,h3] using h)
  .simp only[cd,h1,h2,decide_true,decide_false,cnd];exact aC (by simpa [h1,h2] using h)
 .simp only[cd,h1,decide_false,cnd];exact aC (by simpa [h1] using h)
theorem Lj{b:Bool}{P:Bool->Prop}(h:P b): aD (λ_ _=>cnd b (some true) (some false)) P:=by cases b<;>exact aC h
theorem J7(p:Aaa): Ev (λn=>zI n p) (Mb p):=bN (λ_=>rfl) (bF (Q:=λb=>b=Mb p) (F9 (P:=λb=>b=Mb p) rfl) λb h=>Lj h)
theorem aDy(p:Aaa): Ev (λn=>Xb n (XS.mk (-1048576) (-1048576) 1048576 1048576) p) (Mb p):=bN (λ_=>rfl) (bF (Q:=λb=>b=Mb p) (F9 rfl) λb h=>Lj h)
theorem tnb{b:Bool}{P:Bool->Prop}(h:P (!b)): aD (λ_ _=>cnd b (some false) (some true)) P:=by cases b<;>exact aC h
theorem aBT(p:Aaa): Ev (λn=>eR n p) (!Mb p):=eG (aD.e (aDy p) (tnb rfl))
theorem aBX(a:Int): Ev (λn=>vI n a) (!yV a):=eG (aD.e (XP a) (tnb rfl))
theorem Ie{α:Type}{l:List α}{i:Nat}{x:α}{p:α->Bool}(h:l[i]?=some x): (l.drop i).all p=(p x&&(l.drop (i+1)).all p):=by
 obtain⟨h1,h2⟩:=List.getElem?_eq_some_iff.1 h
 rw[List.drop_eq_getElem_cons h1,h2,List.all_cons]
theorem MQ{α:Type}{l:List α}{i:Nat}{p:α->Bool}(h:l.length<=i): (l.drop i).all p=true:=by rw[List.drop_eq_nil_of_le h];rfl
theorem aDv(l:List Aaa)(hl:l.length<=100000)(i:Nat): aD (λn m=>uC iM n m (l,ln l) (i:Int)) (Su (λv=>0<=v/\(l.drop i).all Mb=false) λ_=>(l.drop i).all Mb=true):=
 iW (N:=l.length) (T:=λi=>aD (λn m=>uC iM n m (l,ln l) (i:Int)) (Su (λv=>0<=v/\(l.drop i).all Mb=false) λ_=>(l.drop i).all Mb=true)) (λi ih=>eV (jL (λx hx hi=>aD.e (aBT x) (aE (λh=>aC ⟨by omega,by rw[Ie hx];simp at h;simp[h]⟩) λh=>by
  rw[oM (by omega),Ie hx]
  simp at h
  simp only[h,Bool.true_and]
  exact ih hi)) λh=>aC (MQ h))) i
theorem aDu(l:List Int)(hl:l.length<=100000)(i:Nat): aD (λn m=>uC iL n m (l,ln l) (i:Int)) (Su (λv=>0<=v/\(l.drop i).all yV=false) λ_=>(l.drop i).all yV=true):=
 iW (N:=l.length) (T:=λi=>aD (λn m=>uC iL n m (l,ln l) (i:Int)) (Su (λv=>0<=v/\(l.drop i).all yV=false) λ_=>(l.drop i).all yV=true)) (λi ih=>eV (jL (λx hx hi=>aD.e (aBX x) (aE (λh=>aC ⟨by omega,by rw[Ie hx];simp at h;simp[h]⟩) λh=>by
  rw[oM (by omega),Ie hx]
  simp at h
  simp only[h,Bool.true_and]
  exact ih hi)) λh=>aC (MQ h))) i
theorem aDx(x:aP)(hl:x.Via.length<=100000)(i:Nat): aD (λn m=>uC jN n m x (i:Int)) (Su (λ_=>(x.Via.drop i).all Mb=false) λ_=>(x.Via.drop i).all Mb=true):=
 iW (N:=x.Via.length) (T:=λi=>aD (λn m=>uC jN n m x (i:Int)) (Su (λ_=>(x.Via.drop i).all Mb=false) λ_=>(x.Via.drop i).all Mb=true)) (λi ih=>eV (jL (λy hx hi=>aD.e (J7 y) (aE (λh=>by
  rw[oM (by omega),Ie hx]
  simp only[h,Bool.true_and]
  exact ih hi) λh=>aC (by show (x.Via.drop i).all Mb=false;rw[Ie hx];simp[h]))) λh=>aC (MQ h))) i
theorem aDw(x:aP)(hl:x.Parts.length<=100000)(i:Nat): aD (λn m=>uC jM n m x (i:Int)) (Su (λ_=>(x.Parts.drop i).all yV=false) λ_=>(x.Parts.drop i).all yV=true):=
 iW (N:=x.Parts.length) (T:=λi=>aD (λn m=>uC jM n m x (i:Int)) (Su (λ_=>(x.Parts.drop i).all yV=false) λ_=>(x.Parts.drop i).all yV=true)) (λi ih=>eV (jL (λy hx hi=>aD.e (DO y) (aE (λh=>by
  rw[oM (by omega),Ie hx]
  simp only[h,Bool.true_and]
  exact ih hi) λh=>aC (by show (x.Parts.drop i).all yV=false;rw[Ie hx];simp[h]))) λh=>aC (MQ h))) i
theorem aD1(l:List Aaa)(hl:l.length<=100000): Ev (λn=>fX n l) (!l.all Mb):=
 eG (bF (Q:=λc:Int=>decide (c>=0)=!l.all Mb) (eG (cM (cO (aDv l hl 0)) (λa h=>aC (by have h2:l.all Mb=false:=h.2;rw[h2,decide_eq_true h.1];rfl)) λ_ h=>aL rfl (aC (by have h2:l.all Mb=true:=h;rw[h2];rfl)))) λc h=>by
  show aD (λ_ _=>cnd (decide (c>=0)) (some true) (some false)) _
  rw[h];exact Lj rfl)
theorem aDz(l:List Int)(hl:l.length<=100000): Ev (λn=>fW n l) (!l.all yV):=
 eG (bF (Q:=λc:Int=>decide (c>=0)=!l.all yV) (eG (cM (cO (aDu l hl 0)) (λa h=>aC (by have h2:l.all yV=false:=h.2;rw[h2,decide_eq_true h.1];rfl)) λ_ h=>aL rfl (aC (by have h2:l.all yV=true:=h;rw[h2];rfl)))) λc h=>by
  show aD (λ_ _=>cnd (decide (c>=0)) (some true) (some false)) _
  rw[h];exact Lj rfl)
theorem Vc(x:aP)(h1:x.Via.length<=100000)(h2:x.Parts.length<=100000): Ev (λn=>bnd (cU n x.ID) λd=>cnd d (cd (x.C<(-1073741824)) (some false) (cd (x.C > 1073741824) (some false) (bnd (eR n x.At) λf=>cnd f (some false) (bnd (fX n x.Via) λg=>cnd g (some false) (bnd (fW n x.Parts) λh=>cnd h (some false) (some true)))))) (some false)) (kU x):=by
 refine aD.e (XP x.ID) (aE (λa=>aE (λb=>aC ?_) λb=>aE (λc=>aC ?_) λc=>aD.e (aBT x.At) (aE (λd=>aC ?_) λd=>aD.e (aD1 _ h1) (aE (λe=>aC ?_) λe=>aD.e (aDz _ h2) (aE (λf=>aC ?_) λf=>aC ?_)))) λa=>aC ?_)
 .have b:=of_decide_eq_true b;simp[kU,z8,show ¬(-1073741824<=x.C) by omega]
 .have c:=of_decide_eq_true c;simp[kU,z8,show ¬(x.C<=1073741824) by omega]
 .simp at d;simp[kU,d]
 .simp only[Bool.not_eq_true'] at e;simp[kU,e]
 .simp only[Bool.not_eq_true'] at f;simp[kU,f]
 .have b:=of_decide_eq_false b
  have c:=of_decide_eq_false c
  simp only[Bool.not_eq_false'] at d e f
  simp only[kU,a,d,e,f,z8,decide_eq_true (show -1073741824<=x.C/\x.C<=1073741824 by omega),Bool.and_self]
 .simp[kU,a]
theorem XM(x:aP): Ev (λn=>vH n x) (!bB x.B):=by
 refine aE (λh=>aC ?_) λh=>aE (λk=>aC ?_) λk=>aC ?_
 .have h:=of_decide_eq_true h;unfold bB;rw[decide_eq_false (by omega)];rfl
 .have k:=of_decide_eq_true k;unfold bB;rw[decide_eq_false (by omega)];rfl
 .have h:=of_decide_eq_false h;have k:=of_decide_eq_false k;unfold bB;rw[decide_eq_true (by omega)];rfl
theorem SY(x:aP)(h1:x.Via.length<=100000)(h2:x.Parts.length<=100000): Ev (λn=>xF n x) (nE x):=by
 refine bN (λ_=>rfl) (aE (λa=>?_) λa=>aE (λb=>?_) λb=>bF (Q:=λc=>c=(x.Kind==7||x.Kind==10)) ?_ λc hc=>aE (λc1=>?_) λc1=>?_)
 .have a':x.Kind=4:=by simpa using a
  have e:nE x=(yV x.A&&(yV x.B&&kU x)):=by simp[nE,a',Bool.and_assoc]
  rw[e]
  refine aD.e (XP x.A) (aE (λb=>aD.e (XP x.B) (aE (λc=>?_) λc=>aC (by simp[c]))) λb=>aC (by simp[b]))
  rw[b,c];exact Vc x h1 h2
 .have b':x.Kind=12:=by simpa using b
  have e:nE x=(yV x.A&&kU x):=by simp[nE,b']
  rw[e]
  refine aD.e (XP x.A) (aE (λb=>?_) λb=>aC (by simp[b]))
  rw[b];exact Vc x h1 h2
 .refine aE (λd=>aC (by rw[d];rfl)) λd=>aE (λf=>aC (by rw[f];simp)) λf=>aC (by rw[d,f];rfl)
 .rw[c1] at hc
  have a':¬x.Kind=4:=by simpa using a
  have b':¬x.Kind=12:=by simpa using b
  have c':x.Kind=7\/x.Kind=10:=by simpa using hc.symm
  have e:nE x=(bB x.B&&kU x):=by rcases c' with c | c<;>simp[nE,c]
  rw[e]
  refine aD.e (XM x) (aE (λd=>aC (by simp at d;simp[d])) λd=>?_)
  simp at d
  rw[d];exact Vc x h1 h2
 .rw[c1] at hc
  have a':¬x.Kind=4:=by simpa using a
  have b':¬x.Kind=12:=by simpa using b
  have c':¬x.Kind=7/\¬x.Kind=10:=by simpa using hc.symm
  have e:nE x=kU x:=by
   unfold nE
   rw[bne_iff_ne.2 a',bne_iff_ne.2 b',bne_iff_ne.2 c'.1,bne_iff_ne.2 c'.2];simp
  rw[e]
  exact Vc x h1 h2
theorem aB9(x:aP): Ev (λn=>Ad n x) (!(yV x.ID&&((x.Kind != 4||yV x.A&&yV x.B)&&(x.Kind != 12||yV x.A)))):=by
 refine aD.e (DO x.ID) (aE (λa=>aE (λb=>aD.e (DO x.A) (aE (λc=>aD.e (DO x.B) (aE (λd=>aE (λe=>?_) λe=>aC ?_) λd=>aC ?_)) λc=>aC ?_)) λb=>aE (λc=>aD.e (DO x.A) (aE (λd=>aC ?_) λd=>aC ?_)) λc=>aC ?_) λa=>aC ?_)
 .have b:x.Kind=4:=by simpa using b
  have e:x.Kind=12:=by simpa using e
  omega
 all_goals simp_all
theorem aB8(x:aP): Ev (λn=>Ac n x) (!(z8 x.C&&(x.Kind != 7&&x.Kind != 10||bB x.B))):=by
 refine aE (λa=>aC ?_) λa=>aE (λb=>aC ?_) λb=>aE (λc=>XM x |>.imp λr h=>?_) λc=>aE (λd=>XM x |>.imp λr h=>?_) λd=>aC ?_
 .have a:=of_decide_eq_true a;simp[z8,show ¬(-1073741824<=x.C) by omega]
 .have b:=of_decide_eq_true b;simp[z8,show ¬(x.C<=1073741824) by omega]
 all_goals
  have a:=of_decide_eq_false a
  have b:=of_decide_eq_false b
  have k:z8 x.C=true:=decide_eq_true (by omega)
  simp_all
theorem QG(x:aP)(h1:x.Via.length<=100000)(h2:x.Parts.length<=100000): Ev (λn=>Bi n x) (nE x):=by
 refine bN (λ_=>rfl) (aD.e (aB9 x) (aE (λa=>aC ?_) λa=>aD.e (aB8 x) (aE (λb=>aC ?_) λb=>cM (cO (aDx x h1 0)) (λ_ c=>aC ?_) λ_ c=>aL rfl (cM (cO (aDw x h2 0)) (λ_ d=>aC ?_) λ_ d=>aL rfl (aD.e (J7 x.At) (Lj ?_))))))
 .simp only[Bool.not_eq_true'] at a
  unfold nE kU
  revert a
  generalize (x.Kind != 4||yV x.A&&yV x.B)=p
  generalize (x.Kind != 12||yV x.A)=q
  cases yV x.ID<;>cases p<;>cases q<;>simp
 .simp only[Bool.not_eq_true'] at b
  unfold nE kU
  revert b
  generalize (x.Kind != 7&&x.Kind != 10||bB x.B)=p
  cases z8 x.C<;>cases p<;>simp
 .have c:x.Via.all Mb=false:=c
  simp only[nE,kU,c,Bool.and_false,Bool.false_and]
 .have d:x.Parts.all yV=false:=d
  simp only[nE,kU,d,Bool.and_false,Bool.false_and]
 .have c:x.Via.all Mb=true:=c
  have d:x.Parts.all yV=true:=d
  simp only[Bool.not_eq_false',Bool.and_eq_true] at a b
  simp only[nE,kU,c,d,a.1,a.2.1,a.2.2,b.1,b.2,Bool.and_true,Bool.true_and]
def fM(x:aP): Bool:=
 (x.Kind==1||x.Kind==3||decide (x.At=Aaa.mk 0 0))&&((x.Kind==4||x.Kind==7||x.Kind==12||x.A==0)&&((x.Kind==4||x.Kind==7||x.Kind==10||x.B==0)&&((x.Kind==4||x.C==0) &&
 ((x.Kind==4||x.Kind==6||x.Via.isEmpty)&&((x.Kind==7||x.Kind==9||decide (x.Name=⟨#[]⟩))&&(x.Kind==7||x.Kind==11||x.Parts.isEmpty))))))
def vA(x:aP): Bool:=decide (x.At=Aaa.mk 0 0)&&(x.A==0&&(x.B==0&&(x.C==0&&(x.Via.isEmpty&&(decide (x.Name=⟨#[]⟩)&&x.Parts.isEmpty)))))
theorem R9{α:Type}(l:List α): decide (ln l > 0)=!l.isEmpty:=by cases l<;>simp<;>omega
theorem aCU{α:Type}(l:List α): (ln l==0)=l.isEmpty:=by cases l<;>simp<;>omega
theorem aBG(n:Nat)(x:aP): mN n x=some (!vA x):=by
 simp only[mN,lC,kM,vA,cd,R9,bne]
 generalize decide (x.At=Aaa.mk 0 0)=a
 generalize (x.A==0)=b
 generalize (x.B==0)=c
 generalize (x.C==0)=d
 generalize x.Via.isEmpty=e
 generalize decide (x.Name=(⟨#[]⟩:ByteArray))=f
 generalize x.Parts.isEmpty=g
 cases a<;>cases b<;>cases c<;>cases d<;>cases e<;>cases f<;>cases g<;>rfl
theorem L3(k:Int): Ev (λn=>mO n k) (k==1||k==3):=aE (λh=>aC (by rw[h];rfl)) λh=>aE (λi=>aC (by rw[i];simp)) λi=>aC (by rw[h,i];rfl)
theorem PG(x:aP): Ev (λn=>uM n x) (!fM x):=by
 refine bN (λ_=>rfl) (bF (Q:=λy=>vA y=fM x) (aD.e (L3 x.Kind) ?_) λy hy=>aD.e (.mk 0 λn _=>aBG n y) (by rw[hy];exact Lj rfl))
 refine aE (λa=>aC ?_) λa=>aE (λb=>aC ?_) λb=>aE (λc=>aC ?_) λc=>aE (λd=>aC ?_) λd=>aE (λe=>aC ?_) λe=>aE (λf=>aC ?_) λf=>aE (λg=>aC ?_) λg=>aE (λh=>aC ?_) λh=>aC ?_
 .have a:x.Kind=1\/x.Kind=3:=by simpa using a
  rcases a with a | a<;>simp[vA,fM,a]
 all_goals
  have a:¬x.Kind=1/\¬x.Kind=3:=by simpa using a
 .have b:x.Kind=4:=by simpa using b
  simp[vA,fM,b]
 all_goals have b:¬x.Kind=4:=by simpa using b
 .have c:x.Kind=6:=by simpa using c
  simp[vA,fM,c]
 all_goals have c:¬x.Kind=6:=by simpa using c
 .have d:x.Kind=7:=by simpa using d
  simp[vA,fM,d]
 all_goals have d:¬x.Kind=7:=by simpa using d
 .have e:x.Kind=9:=by simpa using e
  simp[vA,fM,e]
 all_goals have e:¬x.Kind=9:=by simpa using e
 .have f:x.Kind=10:=by simpa using f
  simp[vA,fM,f]
 all_goals have f:¬x.Kind=10:=by simpa using f
 .have g:x.Kind=11:=by simpa using g
  simp[vA,fM,g]
 all_goals have g:¬x.Kind=11:=by simpa using g
 .have h:x.Kind=12:=by simpa using h
  simp[vA,fM,h]
 all_goals have h:¬x.Kind=12:=by simpa using h
 .simp[vA,fM,beq_false_of_ne a.1,beq_false_of_ne a.2,beq_false_of_ne b,beq_false_of_ne c,beq_false_of_ne d,beq_false_of_ne e,beq_false_of_ne f,beq_false_of_ne g,beq_false_of_ne h]
theorem aAe(n:Nat)(x:aP)(t a b c:Bool): yE n (x,t,a,b,c)=some (!((t||decide (x.At=Aaa.mk 0 0))&&((a||x.A==0)&&((b||x.B==0)&&(c||x.C==0))))):=by
 simp only[yE,lC,rS,cd,bne]
 generalize decide (x.At=Aaa.mk 0 0)=p
 generalize (x.A==0)=q
 generalize (x.B==0)=r
 generalize (x.C==0)=s
 cases t<;>cases a<;>cases b<;>cases c<;>cases p<;>cases q<;>cases r<;>cases s<;>rfl
theorem aAd(n:Nat)(x:aP)(v m p:Bool): yD n (x,v,m,p)=some ((v||x.Via.isEmpty)&&((m||decide (x.Name=⟨#[]⟩))&&(p||x.Parts.isEmpty))):=by
 simp only[yD,lC,rQ,cd,aCU]
 generalize decide (x.Name=(⟨#[]⟩:ByteArray))=q
 generalize x.Via.isEmpty=r
 generalize x.Parts.isEmpty=s
 cases v<;>cases m<;>cases p<;>cases q<;>cases r<;>cases s<;>rfl
def Je(x:aP)(t a b c v m p:Bool): Bool:=((t||decide (x.At=Aaa.mk 0 0))&&((a||x.A==0)&&((b||x.B==0)&&(c||x.C==0))))&&((v||x.Via.isEmpty)&&((m||decide (x.Name=⟨#[]⟩))&&(p||x.Parts.isEmpty)))
theorem oA{x:aP}{s:ByteArray}{t a b c v m p:Bool}(h:∀n,Ii (n+6) s (false,false,false,false,false,false,false,0)=some (t,a,b,c,v,m,p)): Ev (λn=>gN n x s) (Je x t a b c v m p):=by
 refine bN (λ_=>rfl) (aD.e (r:=(t,a,b,c,v,m,p)) (Ev.mk 6 λn hn=>by
  obtain⟨n,rfl⟩:∃k,n=k+6:=⟨n-6,by omega⟩
  exact h n) (aD.e (.mk 0 λn _=>aAe n x t a b c) (aE (λk=>aC ?_) λk=>aD.e (.mk 0 λn _=>aAd n x v m p) (Lj ?_))))
 .simp only[Bool.not_eq_true'] at k;unfold Je;rw[k];rfl
 .simp only[Bool.not_eq_false'] at k;unfold Je;rw[k];rfl
theorem X4(x:aP): aD (λn _=>bnd (jS n x.Kind) λc=>gN n x c) λb=>b=fM x:=by
 have key:∀{s:ByteArray} {b:Bool},Ev (λn=>gN n x s) b->b=fM x->aD (λn _=>gN n x s) λb=>b=fM x:=λh e=>by rw[e] at h;exact h
 refine bF (Q:=λs=>aD (λn _=>gN n x s) λb=>b=fM x) (bN (λ_=>rfl) (aD.e (L3 x.Kind) ?_)) λs hs=>hs
 refine aE (λa=>aC (key (oA (t:=true) (a:=false) (b:=false) (c:=false) (v:=false) (m:=false) (p:=false) λn=>by kernel_rfl) ?_)) λa=>aE (λb=>aC (key (oA (t:=false) (a:=true) (b:=true) (c:=true) (v:=true) (m:=false) (p:=false) λn=>by kernel_rfl) ?_)) λb=>aE (λc=>aC (key (oA (t:=false) (a:=false) (b:=false) (c:=false) (v:=true) (m:=false) (p:=false) λn=>by kernel_rfl) ?_)) λc=>aE (λd=>aC (key (oA (t:=false) (a:=true) (b:=true) (c:=false) (v:=false) (m:=true) (p:=true) λn=>by kernel_rfl) ?_)) λd=>aE (λe=>aC (key (oA (t:=false) (a:=false) (b:=false) (c:=false) (v:=false) (m:=true) (p:=false) λn=>by kernel_rfl) ?_)) λe=>aE (λf=>aC (key (oA (t:=false) (a:=false) (b:=true) (c:=false) (v:=false) (m:=false) (p:=false) λn=>by kernel_rfl) ?_)) λf=>aE (λg=>aC (key (oA (t:=false) (a:=false) (b:=false) (c:=false) (v:=false) (m:=false) (p:=true) λn=>by kernel_rfl) ?_)) λg=>aE (λh=>aC (key (oA (t:=false) (a:=true) (b:=false) (c:=false) (v:=false) (m:=false) (p:=false) λn=>by kernel_rfl) ?_)) λh=>aC (key (oA (t:=false) (a:=false) (b:=false) (c:=false) (v:=false) (m:=false) (p:=false) λn=>by kernel_rfl) ?_)
 .have a:x.Kind=1\/x.Kind=3:=by simpa using a
  rcases a with a | a<;>simp[Je,fM,a,Bool.and_assoc]
 all_goals
  have a:¬x.Kind=1/\¬x.Kind=3:=by simpa using a
 .have b:x.Kind=4:=by simpa using b
  simp[Je,fM,b,Bool.and_assoc]
 all_goals have b:¬x.Kind=4:=by simpa using b
 .have c:x.Kind=6:=by simpa using c
  simp[Je,fM,c,Bool.and_assoc]
 all_goals have c:¬x.Kind=6:=by simpa using c
 .have d:x.Kind=7:=by simpa using d
  simp[Je,fM,d,Bool.and_assoc]
 all_goals have d:¬x.Kind=7:=by simpa using d
 .have e:x.Kind=9:=by simpa using e
  simp[Je,fM,e,Bool.and_assoc]
 all_goals have e:¬x.Kind=9:=by simpa using e
 .have f:x.Kind=10:=by simpa using f
  simp[Je,fM,f,Bool.and_assoc]
 all_goals have f:¬x.Kind=10:=by simpa using f
 .have g:x.Kind=11:=by simpa using g
  simp[Je,fM,g,Bool.and_assoc]
 all_goals have g:¬x.Kind=11:=by simpa using g
 .have h:x.Kind=12:=by simpa using h
  simp[Je,fM,h,Bool.and_assoc]
 all_goals have h:¬x.Kind=12:=by simpa using h
 .simp[Je,fM,beq_false_of_ne a.1,beq_false_of_ne a.2,beq_false_of_ne b,beq_false_of_ne c,beq_false_of_ne d,beq_false_of_ne e,beq_false_of_ne f,beq_false_of_ne g,beq_false_of_ne h,Bool.and_assoc]
def uP: List Int->Bool
 | []=>true
 | a::l=>(match l with | []=>true | b::_=>decide (a<b))&&uP l
theorem J4(l:List Int)(hl:l.length<=100000)(i:Nat): aD (λn m=>uC iJ n m l ((i+1:Nat):Int)) (Su (λ_=>uP (l.drop i)=false) λ_=>uP (l.drop i)=true):=
 iW (N:=l.length) (T:=λi=>aD (λn m=>uC iJ n m l ((i+1:Nat):Int)) (Su (λ_=>uP (l.drop i)=false) λ_=>uP (l.drop i)=true)) (λi ih=>eV (aE (λh=>by
  have h:i+1<l.length:=by have:=of_decide_eq_true h;simp only[ln] at this;omega
  rw[YI (by omega) (by omega),oM (by omega),show i+1-1=i by omega]
  refine aL (jJ (by omega)) (aL (jJ h) ?_)
  have e:uP (l.drop i)=(decide (l[i]<l[i+1])&&uP (l.drop (i+1))):=by
   rw[mH (by omega:i<l.length),mH h];rfl
  rw[e]
  refine aE (λk=>aC ?_) λk=>?_
  .have k:=of_decide_eq_true k
   show (_&&_)=false
   rw[decide_eq_false (by omega)];rfl
  .have k:=of_decide_eq_false k
   rw[decide_eq_true (by omega),Bool.true_and]
   exact ih (by omega)) λh=>aC (by
  have h:¬i+1<l.length:=by have:=of_decide_eq_false h;simp only[ln] at this;omega
  show uP (l.drop i)=true
  rcases Nat.lt_or_ge i l.length with k | k
  .rw[mH k,List.drop_eq_nil_of_le (by omega)];rfl
  .rw[List.drop_eq_nil_of_le k];rfl))) i
theorem D8(l:List Int)(hl:l.length<=100000): Ev (λn=>wU n l) (uP l):=
 bN (λ_=>rfl) (cM (cO (J4 l hl 0)) (λ_ h=>aC (show false=uP l from (show uP l=false from h).symm)) λ_ h=>aL rfl (aC (show true=uP l from (show uP l=true from h).symm)))
theorem aBA(x:aP)(hl:x.Parts.length<=100000): aD (λn m=>uC pO n m x 1) (Su (λ_=>uP x.Parts=false) λ_=>uP x.Parts=true):=J4 x.Parts hl 0
def Eh(a:Int): Int:=if a=1\/a=2\/a=8 then 1 else if a=3\/a=4 then 2 else if a=5\/a=6\/a=7 then 3 else 0
theorem XG(n:Nat)(a:Int): lS (n+1) a=some (Eh a):=by
 simp only[lS,Eh,lU,beq_iff_eq]
 repeat' split
 all_goals first | rfl | (exfalso;omega)
theorem QI(n:Nat)(a:Int): zH (n+1) a=some (Eh a):=by
 simp only[zH,Dq,Dp,lC,pQ,pP,Eh,lU,beq_iff_eq]
 by_cases h1:a=1\/a=2\/a=8
 .rw[if_pos h1];rcases h1 with rfl | rfl | rfl<;>rfl
 .rw[if_neg h1,if_neg (by omega),if_neg (by omega),if_neg (by omega)]
  by_cases h2:a=3\/a=4
  .rw[if_pos h2];rcases h2 with rfl | rfl<;>rfl
  .rw[if_neg h2,if_neg (by omega),if_neg (by omega)]
   by_cases h3:a=5\/a=6\/a=7
   .rw[if_pos h3];rcases h3 with rfl | rfl | rfl<;>rfl
   .rw[if_neg h3]
    simp only[bnd,Bool.false_eq_true,if_false]
    rw[if_neg (by omega),if_neg (by omega),if_neg (by omega)]
def Mw(x:aP): Bool:=decide (x.Kind<1\/12<x.Kind)||(x.Kind==7&&Eh x.A==0)
def UT(x:aP): Bool:=decide (64<x.Via.length\/64<x.Parts.length)
def Ce(x:aP): Bool:=!decide (x.Name=⟨#[]⟩)&&Cc x.Name != 0
def Bc(x:aP): Int:=if Mw x then 9 else if fM x then (if UT x then 3 else if nE x then (if uP x.Parts then (if Ce x then 14 else 0) else 10) else 2) else 1
theorem L6(x:aP): Ev (λn=>rG n x) (UT x):=aE (λh=>aC (decide_eq_true (.inl (by have:=of_decide_eq_true h;simp only[ln] at this;omega))).symm) λh=>aE (λk=>aC (decide_eq_true (.inr (by have:=of_decide_eq_true k;simp only[ln] at this;omega))).symm) λk=>aC (decide_eq_false (by
 have h:=of_decide_eq_false h
 have k:=of_decide_eq_false k
 simp only[ln] at h k
 omega)).symm
theorem aBH(x:aP): Ev (λn=>Ab n x) (Ce x):=aE (λh=>aC (by unfold Ce;rw[h];rfl)) λh=>aD.e (F2 x.Name) (by
 have e:Ce x=(Cc x.Name != 0):=by unfold Ce;rw[h];rfl
 rw[e];exact Lj rfl)
theorem aB7(x:aP): Ev (λn=>Do n x) (Ce x):=aE (λh=>aC (by unfold Ce;rw[h];rfl)) λh=>aD.e (XJ x.Name) (by
 have e:Ce x=(Cc x.Name != 0):=by unfold Ce;rw[h];rfl
 rw[e];exact Lj rfl)
theorem yU{x:aP}(h:UT x=false): x.Via.length<=100000/\x.Parts.length<=100000:=by
 have:=of_decide_eq_false h
 omega
theorem XT(x:aP): Ev (λn=>Ba n x) (Bc x):=by
 refine bN (λ_=>rfl) (bF (Q:=λb=>b=decide (x.Kind<1\/12<x.Kind)) ?_ λb hb=>aE (λh=>aC ?_) λh=>bF (Q:=λc=>c=(x.Kind==7&&Eh x.A==0)) ?_ λc hc=>aE (λk=>aC ?_) λk=>?_)
 .refine aE (λh=>aC ?_) λh=>aE (λk=>aC ?_) λk=>aC ?_
  .have h:=of_decide_eq_true h;exact (decide_eq_true (.inl h)).symm
  .have k:=of_decide_eq_true k;exact (decide_eq_true (.inr k)).symm
  .have h:=of_decide_eq_false h;have k:=of_decide_eq_false k;exact (decide_eq_false (by omega)).symm
 .unfold Bc Mw;rw[<-hb,h];rfl
 .refine aE (λh=>aD.e (.mk 1 λn hn=>by
   obtain⟨n,rfl⟩:∃k,n=k+1:=⟨n-1,by omega⟩
   exact XG n x.A) ?_) λh=>aC (by rw[h];rfl)
  rw[h,Bool.true_and];exact Lj rfl
 .unfold Bc Mw;rw[<-hc,k,Bool.or_true];rfl
 have hk:Mw x=false:=by unfold Mw;rw[<-hb,<-hc,h,k];rfl
 unfold Bc
 rw[hk]
 simp only[Bool.false_eq_true,if_false]
 refine aD.e (PG x) (aE (λa=>aC ?_) λa=>aD.e (L6 x) (aE (λb=>aC ?_) λb=>aD.e (SY x (yU b).1 (yU b).2) (aE (λc=>aD.e (D8 _ (yU b).2) (aE (λd=>aD.e (aBH x) (aE (λe=>aC ?_) λe=>aC ?_)) λd=>aC ?_)) λc=>aC ?_)))
 .simp only[Bool.not_eq_true'] at a;rw[a];rfl
 all_goals
  simp only[Bool.not_eq_false'] at a
  simp_all
theorem QK(x:aP): Ev (λn=>Gl n x) (Bc x):=by
 refine bN (λ_=>rfl) (bF (Q:=λb=>b=Mw x) ?_ λb hb=>aE (λh=>aC ?_) λh=>?_)
 .unfold Mw
  refine aE (λh=>aC ?_) λh=>aE (λk=>aC ?_) λk=>?_
  .have h:=of_decide_eq_true h;rw[decide_eq_true (.inl h)];rfl
  .have k:=of_decide_eq_true k;rw[decide_eq_true (.inr k)];rfl
  .have h:=of_decide_eq_false h;have k:=of_decide_eq_false k;rw[decide_eq_false (by omega),Bool.false_or]
   refine aE (λh=>aD.e (.mk 1 λn hn=>by
    obtain⟨n,rfl⟩:∃k,n=k+1:=⟨n-1,by omega⟩
    exact QI n x.A) ?_) λh=>aC (by rw[h];rfl)
   rw[h,Bool.true_and];exact Lj rfl
 .unfold Bc;rw[<-hb,h];rfl
 unfold Bc
 rw[<-hb,h]
 simp only[Bool.false_eq_true,if_false]
 have bb:=X4 x
 obtain⟨r,hr,K,hK⟩:=bb
 subst hr
 have key:∀{P:Int->Prop} {g:Nat->Nat->Bool->Option Int},aD (λn m=>g n m (fM x)) P->aD (λn m=>bnd (jS n x.Kind) λc=>bnd (gN n x c) λd=>g n m d) P:=by
  intro P g hg
  obtain⟨s,hs,J,hJ⟩:=hg
  refine⟨s,hs,max K J,λn m hn hm=>?_⟩
  have h1:bnd (jS n x.Kind) (λc=>gN n x c)=some (fM x):=hK n m (by omega) (by omega)
  show bnd (jS n x.Kind) (λc=>bnd (gN n x c) λd=>g n m d)=some s
  cases hf:jS n x.Kind with
  | none=>rw[hf] at h1;cases h1
  | some c=>
   rw[hf] at h1
   have h1:gN n x c=some (fM x):=h1
   show bnd (gN n x c) (λd=>g n m d)=some s
   rw[h1]
   exact hJ n m (by omega) (by omega)
 refine key (aE (λa=>aD.e (L6 x) (aE (λb=>aC ?_) λb=>aD.e (QG x (yU b).1 (yU b).2) (aE (λc=>cM (cO (aBA x (yU b).2)) (λ_ d=>aC ?_) λ_ d=>aL rfl (aD.e (aB7 x) (aE (λe=>aC ?_) λe=>aC ?_))) λc=>aC ?_))) λa=>aC ?_)
 .simp_all
 .have d:uP x.Parts=false:=d
  simp_all
 .have d:uP x.Parts=true:=d
  simp_all
 .have d:uP x.Parts=true:=d
  simp_all
 .simp_all
 .rw[a];rfl
theorem zQ(x:Int): IntKind.u64.wrap x=x % 18446744073709551616:=IntKind.wrap_u64 x
theorem Zl(x:Int): IntKind.u32.wrap x=x % 4294967296:=IntKind.wrap_u32 x
theorem M1(x:Int): IntKind.u8.wrap x=x % 256:=IntKind.wrap_u8 x
theorem QR(w n:Nat)(h:n<2 ^ w): (BitVec.ofInt w (n:Int)).toNat=n:=by
 rw[BitVec.ofInt_natCast,BitVec.toNat_ofNat,Nat.mod_eq_of_lt h]
theorem EE(a b:Nat)(ha:a<4294967296)(hb:b<4294967296): dX .xor .u32 (a:Int) (b:Int)=((a ^^^ b:Nat):Int)/\a ^^^ b<4294967296:=by
 have h:a ^^^ b<2 ^ 32:=Nat.xor_lt_two_pow ha hb
 refine⟨?_,h⟩
 show IntKind.u32.wrap (((BitVec.ofInt 32 (a:Int) ^^^ BitVec.ofInt 32 (b:Int)).toNat:Nat):Int)=_
 rw[BitVec.toNat_xor,QR 32 a ha,QR 32 b hb,Zl]
 omega
theorem X9(a:Nat)(ha:a<4294967296): dX .and .u32 (a:Int) 15=((a % 16:Nat):Int):=by
 show IntKind.u32.wrap (((BitVec.ofInt 32 (a:Int) &&& BitVec.ofInt 32 ((15:Nat):Int)).toNat:Nat):Int)=_
 rw[BitVec.toNat_and,QR 32 a ha,QR 32 15 (by decide),Zl,show (15:Nat)=2 ^ 4-1 from rfl,Nat.and_two_pow_sub_one_eq_mod]
 omega
theorem UH(n:Nat)(h:n<4294967296): OJ .u32 (n:Int)=((4294967295-n:Nat):Int):=by
 show IntKind.u32.wrap (((BitVec.ofInt 32 4294967295 ^^^ BitVec.ofInt 32 (n:Int)).toNat:Nat):Int)=_
 rw[show (BitVec.ofInt 32 4294967295)=BitVec.allOnes 32 from by decide,BitVec.allOnes_xor,BitVec.toNat_not,QR 32 n h,Zl]
 omega
theorem aCH(u:Nat): zM .u32 (u:Int) 4=((u / 16:Nat):Int):=by
 show (u:Int).fdiv 16=_
 rw[Int.fdiv_eq_ediv_of_nonneg _ (by decide)];omega
theorem qS{α β:Type}(x:α)(f:α->Option β): bnd (some x) f=f x:=rfl
def cb(r:Nat): Nat:=r / 2 ^^^ (if r % 2=1 then 3988292384 else 0)
theorem aDk(a b:Nat): cb (a ^^^ b)=cb a ^^^ cb b:=by
 have h1:(a ^^^ b) / 2=a / 2 ^^^ b / 2:=by
  have:=Nat.shiftRight_xor_distrib (a:=a) (b:=b) (i:=1)
  simpa [Nat.shiftRight_eq_div_pow] using this
 have h2:(a ^^^ b) % 2=(a % 2) ^^^ (b % 2):=by
  have:=Nat.xor_mod_two_pow (a:=a) (b:=b) (n:=1)
  simpa using this
 unfold cb
 rw[h1,h2]
 have ha:a % 2=0\/a % 2=1:=by omega
 have hb:b % 2=0\/b % 2=1:=by omega
 rcases ha with ha | ha<;>rcases hb with hb | hb<;>rw[ha,hb]<;>simp
 .rw[Nat.xor_assoc]
 .rw[Nat.xor_assoc,Nat.xor_assoc,Nat.xor_comm (b / 2)]
 .rw[show a / 2 ^^^ 3988292384 ^^^ (b / 2 ^^^ 3988292384)=a / 2 ^^^ b / 2 ^^^ (3988292384 ^^^ 3988292384) by ac_rfl,Nat.xor_self,Nat.xor_zero]
theorem z9(m:Nat): cb (2*m)=m:=by
 unfold cb
 rw[if_neg (by omega),Nat.xor_zero];omega
def HQ(r:Nat): Nat:=cb (cb (cb (cb r)))
theorem aBv(a b:Nat): HQ (a ^^^ b)=HQ a ^^^ HQ b:=by simp only[HQ,aDk]
theorem W4(m:Nat): HQ (16*m)=m:=by
 unfold HQ
 rw[show 16*m=2*(2*(2*(2*m))) by omega,z9,z9,z9,z9]
theorem ZC(r:Nat): r=(16*(r / 16)) ^^^ (r % 16):=by
 have h:16*(r / 16)+r % 16=16*(r / 16) ^^^ r % 16:=by
  rw[show 16*(r / 16)=2 ^ 4*(r / 16) by omega,Nat.two_pow_add_eq_or_of_lt (by omega)]
  apply Nat.eq_of_testBit_eq
  intro i
  simp only[Nat.testBit_or,Nat.testBit_xor,Nat.testBit_two_pow_mul]
  by_cases hi:i<4
  .simp[show ¬4<=i by omega]
  .have:(r % 16).testBit i=false:=Nat.testBit_lt_two_pow (Nat.lt_of_lt_of_le (Nat.mod_lt _ (by decide)) (by
    calc 16=2 ^ 4:=rfl
     _<=2 ^ i:=Nat.pow_le_pow_right (by decide) (by omega)))
   simp[this]
 omega
def RN: List Nat:=[0,498536548,997073096,651767980,1994146192,1802195444,1303535960,1342533948,3988292384,4027552580,3604390888,3412177804,2607071920,2262029012,2685067896,3183342108]
theorem EK: ∀i<16,RN[i]?=some (HQ i):=by decide
theorem A0(r t:Nat)(h:RN[r % 16]?=some t): HQ r=t ^^^ r / 16:=by
 rw[EK _ (Nat.mod_lt _ (by decide))] at h
 cases h
 conv=>lhs;rw[ZC r]
 rw[aBv,W4,Nat.xor_comm]
theorem xP{r:Nat}(h:r<4294967296): cb r<4294967296:=by
 unfold cb
 have:r / 2<2 ^ 32:=by omega
 refine Nat.xor_lt_two_pow (n:=32) this ?_
 split<;>decide
def XZ{X:Type}(y:Int)(z:Int->Option X): Option X:=bnd (iG y 2) λb0=>cnd (b0==1) (bnd (hM .u32 y 2) λc0=>z (dX .xor .u32 c0 3988292384)) (bnd (hM .u32 y 2) λd0=>z d0)
theorem vX{X:Type}(y:Nat)(h:y<4294967296)(z:Int->Option X): XZ (y:Int) z=z ((cb y:Nat):Int):=by
 have e1:iG (y:Int) 2=some ((y % 2:Nat):Int):=jG y 2 (by decide)
 have e2:hM .u32 (y:Int) 2=some ((y / 2:Nat):Int):=by
  have:hM .u32 (y:Int) ((2:Nat):Int)=some (IntKind.u32.wrap ((y / 2:Nat):Int)):=by
   unfold hM
   rw[if_neg (by decide),Li]
  rw[show (2:Int)=((2:Nat):Int) from rfl,this,Zl];congr 1;omega
 unfold XZ cb
 rw[e1,qS,e2,qS,qS]
 by_cases k:y % 2=1
 .rw[if_pos k,k]
  show z _=_
  rw[show (3988292384:Int)=((3988292384:Nat):Int) from rfl,(EE (y / 2) 3988292384 (by omega) (by decide)).1]
 .rw[if_neg k,show y % 2=0 by omega,Nat.xor_zero];rfl
def cb8(r:Nat): Nat:=HQ (HQ r)
def Jc: Nat->List Int->Nat
 | r,[]=>r
 | r,b::l=>Jc (cb8 (r ^^^ (b % 4294967296).toNat)) l
theorem Ot{r:Nat}(h:r<4294967296): HQ r<4294967296:=xP (xP (xP (xP h)))
theorem YT(i:Nat): idx RO (i:Int)=(RN[i]?).map λn=>((n:Nat):Int):=by
 rw[nS,<-List.getElem?_map];rfl
theorem Zn{X:Type}(r:Nat)(h:r<4294967296)(K:Int->Option X): bnd (idx RO (dX .and .u32 (r:Int) 15)) (λt=>K (dX .xor .u32 (zM .u32 (r:Int) 4) t))=K ((HQ r:Nat):Int):=by
 rw[X9 r h,YT,EK _ (Nat.mod_lt _ (by decide)),aCH]
 have hl:HQ (r % 16)<4294967296:=Ot (by omega)
 show K (dX .xor .u32 ((r / 16:Nat):Int) ((HQ (r % 16):Nat):Int))=_
 rw[(EE (r / 16) _ (by omega) hl).1,A0 r _ (EK _ (Nat.mod_lt _ (by decide))),Nat.xor_comm]
theorem g4: vF (decide ((0:Nat)<=4))=some ():=rfl
theorem MN(h:Int)(f:Nat)(hf:f<4294967296): dX .xor .u32 (f:Int) (IntKind.u32.wrap h)=((f ^^^ (h % 4294967296).toNat:Nat):Int)/\f ^^^ (h % 4294967296).toNat<4294967296:=by
 have hw:IntKind.u32.wrap h=(((h % 4294967296).toNat:Nat):Int):=by rw[Zl];omega
 rw[hw]
 exact EE f (h % 4294967296).toNat hf (by omega)
theorem aA4(l:List Int)(hl:l.length<=999000)(i:Nat): ∀f:Nat,f<4294967296->aD (λn m=>Qj fB n m (l,ln l) ((f:Int),(i:Int))) λr=>r=((Jc f (l.drop i):Nat):Int)/\Jc f (l.drop i)<4294967296:=
 iW (N:=l.length) (T:=λi=>∀f:Nat,f<4294967296->aD (λn m=>Qj fB n m (l,ln l) ((f:Int),(i:Int))) λr=>r=((Jc f (l.drop i):Nat):Int)/\Jc f (l.drop i)<4294967296) (λi ih f hf=>iC (jL (λx hx hi=>by
  obtain⟨e1,e2⟩:=MN x f hf
  obtain⟨k1,k2⟩:=List.getElem?_eq_some_iff.1 hx
  have e3:=Ot e2
  have e4:=Ot e3
  rw[List.drop_eq_getElem_cons k1,k2,Jc,oM (by omega)]
  have key:=ih hi (cb8 (f ^^^ (x % 4294967296).toNat)) e4
  refine cast (congrArg (λg=>aD g _) ?_) key
  funext n m
  simp only[e1,g4,qS]
  rw[Zn (f ^^^ (x % 4294967296).toNat) e2 (λy=>bnd (idx RO (dX .and .u32 y 15)) λj=>Qj fB n m (l,ln l) (dX .xor .u32 (zM .u32 y 4) j,((i+1:Nat):Int)))]
  rw[Zn (HQ (f ^^^ (x % 4294967296).toNat)) e3 (λy=>Qj fB n m (l,ln l) (y,((i+1:Nat):Int)))]
  rfl) λh=>aC (by rw[List.drop_eq_nil_of_le h];exact⟨rfl,hf⟩))) i
theorem aBo(l:List Int)(hl:l.length<=999000)(i:Nat): ∀f:Nat,f<4294967296->aD (λn m=>Qj kS n m l ((f:Int),(i:Int))) λr=>r=((Jc f (l.drop i):Nat):Int)/\Jc f (l.drop i)<4294967296:=
 iW (N:=l.length) (T:=λi=>∀f:Nat,f<4294967296->aD (λn m=>Qj kS n m l ((f:Int),(i:Int))) λr=>r=((Jc f (l.drop i):Nat):Int)/\Jc f (l.drop i)<4294967296) (λi ih f hf=>iC (jL (λx hx hi=>by
  obtain⟨e1,e2⟩:=MN x f hf
  obtain⟨k1,k2⟩:=List.getElem?_eq_some_iff.1 hx
  have e3:=Ot e2
  have e4:=Ot e3
  rw[List.drop_eq_getElem_cons k1,k2,Jc,oM (by omega)]
  have key:=ih hi (cb8 (f ^^^ (x % 4294967296).toNat)) e4
  refine XD ?_
  refine cast (congrArg (λg=>aD g _) ?_) key
  funext n m
  rw[e1]
  generalize f ^^^ (x % 4294967296).toNat=y at e2
  have l1:=xP e2
  have l2:=xP l1
  have l3:=xP l2
  have l4:=xP l3
  have l5:=xP l4
  have l6:=xP l5
  have l7:=xP l6
  symm
  show XZ (y:Int) (λa=>XZ a λa=>XZ a λa=>XZ a λa=>XZ a λa=>XZ a λa=>XZ a λa=>XZ a λa=>Qj kS n m l (a,((i+1:Nat):Int)))=_
  rw[vX _ e2,vX _ l1,vX _ l2,vX _ l3,vX _ l4,vX _ l5,vX _ l6,vX _ l7]
  rfl) λh=>aC (by rw[List.drop_eq_nil_of_le h];exact⟨rfl,hf⟩))) i
def Xp(l:List Int): Nat:=4294967295-Jc 4294967295 l
theorem MH(l:List Int): Xp l<4294967296:=by unfold Xp;omega
theorem aA3(l:List Int)(hl:l.length<=999000): Ev (λn=>Bb n l) ((Xp l:Nat):Int):=
 bN (λ_=>rfl) (bF (cO (aA4 l hl 0 4294967295 (by decide))) λr hr=>aC (by rw[hr.1,UH _ hr.2];rfl))
theorem aCa(l:List Int)(hl:l.length<=999000): Ev (λn=>Yl n l) ((Xp l:Nat):Int):=
 bN (λ_=>rfl) (bF (cO (aBo l hl 0 4294967295 (by decide))) λr hr=>aC (by
  rw[hr.1,UH _ hr.2]
  have:=MH l
  exact i64_in ((Xp l:Nat):Int) (by omega)))
def BM(c:Nat): List Int:=[((c / 16777216 % 256:Nat):Int),((c / 65536 % 256:Nat):Int),((c / 256 % 256:Nat):Int),((c % 256:Nat):Int)]
theorem EW(k:IntKind)(c d:Nat)(e:Int)(h:(2:Int) ^ (min e.toNat k.bits)=((d:Nat):Int)): IntKind.u8.wrap (zM k (c:Int) e)=((c / d % 256:Nat):Int):=by
 show IntKind.u8.wrap ((c:Int).fdiv (2 ^ (min e.toNat k.bits)))=_
 rw[h,Int.fdiv_eq_ediv_of_nonneg _ (by omega),M1,Int.natCast_emod,Int.natCast_ediv];rfl
theorem g24: vF (decide ((0:Nat)<=24))=some ()/\vF (decide ((0:Nat)<=16))=some ()/\vF (decide ((0:Nat)<=8))=some ():=⟨rfl,rfl,rfl⟩
theorem F3(c:Nat): Ev (λn=>zK n (c:Int) 4) (BM c):=.mk 6 λn hn=>by
 obtain⟨n,rfl⟩:∃k,n=k+6:=⟨n-6,by omega⟩
 have h:zK (n+6) (c:Int) 4=some [IntKind.u8.wrap (zM .u64 (c:Int) 24),IntKind.u8.wrap (zM .u64 (c:Int) 16),IntKind.u8.wrap (zM .u64 (c:Int) 8),IntKind.u8.wrap (zM .u64 (c:Int) 0)]:=by kernel_rfl
 rw[h,EW .u64 _ 16777216 24 (by decide),EW .u64 _ 65536 16 (by decide),EW .u64 _ 256 8 (by decide),EW .u64 _ 1 0 (by decide),Nat.div_one]
 rfl
def sB(l:List Int): Prop:=∀b∈l,0<=b/\b<256
theorem sB.at{l:List Int}(h:sB l){i:Nat}{b:Int}(e:l[i]?=some b): 0<=b/\b<256:=h b (List.mem_of_getElem? e)
theorem sB.drop{l:List Int}(h:sB l)(i:Nat): sB (l.drop i):=λb m=>h b (List.mem_of_mem_drop m)
theorem sB.take{l:List Int}(h:sB l)(i:Nat): sB (l.take i):=λb m=>h b (List.mem_of_mem_take m)
def vN: List Int->Nat
 | []=>0
 | b::r=>(b % 128).toNat+128*vN r
theorem IY: ∀l:List Int,vN l<128 ^ l.length
 | []=>by decide
 | b::r=>by
  have:=IY r
  rw[vN,List.length_cons,Nat.pow_succ];omega
theorem Bn: ∀(l:List Int) (i:Nat) (b:Int),l[i]?=some b->vN (l.take (i+1))=vN (l.take i)+(b % 128).toNat*128 ^ i
 | [],i,b,h=>by simp at h
 | a::l,0,b,h=>by
  simp at h;subst h;simp[vN]
 | a::l,i+1,b,h=>by
  simp at h
  have:=Bn l i b h
  rw[List.take_succ_cons,List.take_succ_cons,vN,vN,this,Nat.pow_succ,Nat.mul_add]
  rw[show 128*((b % 128).toNat*128 ^ i)=(b % 128).toNat*(128 ^ i*128) by rw[Nat.mul_comm (128 ^ i),Nat.mul_left_comm]]
  omega
theorem IZ: ∀(l:List Int) (j:Nat),vN (l.drop j)<=vN l
 | l,0=>Nat.le_refl _
 | [],j+1=>Nat.le_refl _
 | a::l,j+1=>by
  have:=IZ l j
  rw[List.drop_succ_cons,vN];omega
def kE: Nat->List Int->Nat
 | 0,_=>0
 | _+1,[]=>0
 | f+1,b::r=>if 128<=b then kE f r+1 else 0
theorem Nd: ∀(f:Nat) (l:List Int) (i:Nat),i<=f->(∀j b,j<i->l[j]?=some b->128<=b)->i<=l.length->(i=f\/i=l.length\/∃b,l[i]?=some b/\b<128)->kE f l=i
 | 0,l,i,h1,_,_,_=>by unfold kE;omega
 | f+1,[],i,h1,h2,h3,_=>by simp at h3;subst h3;rfl
 | f+1,b::r,0,h1,h2,h3,h4=>by
  rcases h4 with h | h | ⟨c,h,k⟩
  .omega
  .simp at h
  .simp at h;subst h;unfold kE;rw[if_neg (by omega)]
 | f+1,b::r,i+1,h1,h2,h3,h4=>by
  unfold kE
  rw[if_pos (h2 0 b (by omega) (by simp)),Nd f r i (by omega) (λj c hj hc=>h2 (j+1) c (by omega) (by simpa using hc)) (by simpa using h3) ?_]
  rcases h4 with h | h | ⟨c,h,k⟩
  .exact .inl (by omega)
  .exact .inr (.inl (by simpa using h))
  .exact .inr (.inr ⟨c,by simpa using h,k⟩)
theorem Wu: ∀(f:Nat) (l:List Int),kE f l<=f/\kE f l<=l.length
 | 0,l=>by simp[kE]
 | f+1,[]=>by simp[kE]
 | f+1,a::r=>by
  have:=Wu f r
  unfold kE;split<;>simp<;>omega
def F6(u:Nat): Int:=if u % 2=0 then ((u / 2:Nat):Int) else -((u / 2:Nat):Int)-1
def dB(l:List Int): Int×Int×Int:=
 if kE 10 l=10 then (0,0,4) else match l[kE 10 l]? with
  | none=>(0,0,5)
  | some b=>if (0<kE 10 l/\b=0)\/(kE 10 l=9/\1<b) then (0,0,4) else (F6 (vN (l.take (kE 10 l+1))),((kE 10 l+1:Nat):Int),0)
theorem D6(b:Int)(h:0<=b/\b<256): IntKind.u64.wrap (dX .and .u8 b 127)=((b % 128).toNat:Int):=by
 obtain⟨n,rfl⟩:∃n:Nat,b=n:=⟨b.toNat,by omega⟩
 show IntKind.u64.wrap (IntKind.u8.wrap (((BitVec.ofInt 8 (n:Int) &&& BitVec.ofInt 8 ((127:Nat):Int)).toNat:Nat):Int))=_
 rw[BitVec.toNat_and,QR 8 n (by omega),QR 8 127 (by decide),M1,show (127:Nat)=2 ^ 7-1 from rfl,Nat.and_two_pow_sub_one_eq_mod,zQ]
 omega
theorem aAU(a b:Nat)(ha:a<18446744073709551616)(hb:b<18446744073709551616): dX .or .u64 (a:Int) (b:Int)=((a ||| b:Nat):Int):=by
 have h:a ||| b<2 ^ 64:=Nat.or_lt_two_pow ha hb
 show IntKind.u64.wrap (((BitVec.ofInt 64 (a:Int) ||| BitVec.ofInt 64 (b:Int)).toNat:Nat):Int)=_
 rw[BitVec.toNat_or,QR 64 a ha,QR 64 b hb,zQ]
 omega
theorem aB0(a:Nat)(ha:a<18446744073709551616): dX .and .u64 (a:Int) 1=((a % 2:Nat):Int):=by
 show IntKind.u64.wrap (((BitVec.ofInt 64 (a:Int) &&& BitVec.ofInt 64 ((1:Nat):Int)).toNat:Nat):Int)=_
 rw[BitVec.toNat_and,QR 64 a ha,QR 64 1 (by decide),show (1:Nat)=2 ^ 1-1 from rfl,Nat.and_two_pow_sub_one_eq_mod,zQ]
 omega
theorem aCS(a:Nat)(ha:a<9223372036854775808): OJ .i64 (a:Int)=-(a:Int)-1:=by
 show IntKind.i64.wrap (((BitVec.ofInt 64 (-1) ^^^ BitVec.ofInt 64 (a:Int)).toNat:Nat):Int)=_
 rw[show (BitVec.ofInt 64 (-1))=BitVec.allOnes 64 from by decide,BitVec.allOnes_xor,BitVec.toNat_not,QR 64 a (by omega),IntKind.wrap_i64]
 omega
theorem aCQ(i:Nat)(h:i<=9): 128 ^ i<=9223372036854775808:=by
 have:=Nat.pow_le_pow_right (n:=128) (by decide) h
 exact Nat.le_trans this (by decide)
theorem dig(u i:Nat)(b:Int)(hb:0<=b/\b<256)(hi:i<=9)(hu:u<128 ^ i)(h9:i<=8\/b % 128<=1):
 dX .or .u64 (u:Int) (Vk .u64 (IntKind.u64.wrap (dX .and .u8 b 127)) (wr (7*(i:Int))))=((u+(b % 128).toNat*128 ^ i:Nat):Int)/\u+(b % 128).toNat*128 ^ i<18446744073709551616:=by
 have hp:=aCQ i hi
 have hx:(b % 128).toNat*128 ^ i+128 ^ i<=18446744073709551616:=by
  rcases h9 with h | h
  .have h8:=Nat.pow_le_pow_right (n:=128) (by decide) h
   have h1:(b % 128).toNat+1<=128:=by omega
   have:=Nat.mul_le_mul h1 h8
   rw[Nat.add_mul,Nat.one_mul] at this
   exact Nat.le_trans this (by decide)
  .have h1:(b % 128).toNat+1<=2:=by omega
   have:=Nat.mul_le_mul h1 hp
   rw[Nat.add_mul,Nat.one_mul] at this
   exact Nat.le_trans this (by decide)
 have e1:wr (7*(i:Int))=((7*i:Nat):Int):=by rw[wr,i64_in _ (by omega)];omega
 have e2:Vk .u64 ((b % 128).toNat:Int) ((7*i:Nat):Int)=(((b % 128).toNat*128 ^ i:Nat):Int):=by
  show IntKind.u64.wrap (((b % 128).toNat:Int)*2 ^ (min ((7*i:Nat):Int).toNat 64))=_
  rw[Int.toNat_natCast,Nat.min_eq_left (by omega),Int.pow_mul,zQ]
  have:(((b % 128).toNat:Int)*((2 ^ 7) ^ i:Int))=(((b % 128).toNat*128 ^ i:Nat):Int):=by
   rw[Int.natCast_mul,Int.natCast_pow];rfl
  rw[this]
  have h0:0<128 ^ i:=Nat.pow_pos (by decide)
  omega
 rw[D6 b hb,e1,e2]
 have h0:0<128 ^ i:=Nat.pow_pos (by decide)
 rw[aAU _ _ (by omega) (by omega)]
 refine⟨?_,by omega⟩
 congr 1
 have hq:128 ^ i=2 ^ (7*i):=by rw[Nat.pow_mul]
 rw[hq] at hu |-
 rw[Nat.or_comm,Nat.mul_comm (b % 128).toNat,<-Nat.two_pow_add_eq_or_of_lt hu]
 omega
theorem J6(l:List Int)(i:Nat)(b:Int)(e:l[i]?=some b)(hb:0<=b): Ev (λn=>pW n (l,(i:Int))) (decide ((0<i/\b=0)\/(i=9/\1<b))):=.mk 0 λn _=>by
 have e1:idx l (i:Int)=some b:=by rw[nS];exact e
 simp only[pW,lC,lQ,e1,qS,cd,lU,beq_iff_eq,decide_eq_true_eq]
 repeat' split
 all_goals first | exact congrArg some (decide_eq_true (by omega)).symm | exact congrArg some (decide_eq_false (by omega)).symm
theorem aB1(u:Nat)(h:u<18446744073709551616)(n:Nat): vS n (wr (Int.fdiv (u:Int) 2),(u:Int))=some (F6 u):=by
 have e1:wr (Int.fdiv (u:Int) 2)=((u / 2:Nat):Int):=by
  rw[Int.fdiv_eq_ediv_of_nonneg _ (by decide),wr,i64_in _ (by omega)];omega
 simp only[vS,lC,qX,e1,aB0 u h,F6]
 by_cases k:u % 2=0
 .rw[if_pos k,k];rfl
 .rw[if_neg k,show u % 2=1 by omega,aCS _ (by omega)];rfl
theorem Z4(l:List Int)(hl:sB l)(i:Nat): ∀u:Nat,i<=10->i<=l.length->(∀j b,j<i->l[j]?=some b->128<=b)->(i<10->u=vN (l.take i))->
 aD (λn m=>uC lR n m (l,Rb (ln l) 10) ((u:Int),(i:Int))) (Su (λv=>v=dB l) λ_=>dB l=(0,0,if 10<=l.length then 4 else 5)):=
 iW (N:=10) (T:=λi=>∀u:Nat,i<=10->i<=l.length->(∀j b,j<i->l[j]?=some b->128<=b)->(i<10->u=vN (l.take i))->
  aD (λn m=>uC lR n m (l,Rb (ln l) 10) ((u:Int),(i:Int))) (Su (λv=>v=dB l) λ_=>dB l=(0,0,if 10<=l.length then 4 else 5))) (λi ih u hi hil hall hu=>eV (aE (λh=>by
   have h:(i:Int)<Rb (ln l) 10:=of_decide_eq_true h
   have hlt:i<10/\i<l.length:=by
    unfold Rb ln at h
    split at h<;>omega
   have hx:l[i]?=some l[i]:=List.getElem?_eq_getElem hlt.2
   generalize l[i]=b at hx
   have hb:=hl.at hx
   have hu:=hu hlt.1
   have hv:u<128 ^ i:=by
    have:=IY (l.take i)
    rw[List.length_take,Nat.min_eq_left (by omega)] at this
    rw[hu];exact this
   have g0:vF (decide (0<=wr (7*(i:Int))))=some ():=by
    rw[decide_eq_true (by rw[wr,i64_in _ (by omega)];omega)];rfl
   refine aL (x:=b) (by rw[nS];exact hx) (aL g0 (aL (x:=b) (by rw[nS];exact hx) (aE (λk=>?_) λk=>?_)))
   .have k:b>=128:=of_decide_eq_true k
    rw[oM (by omega)]
    have hall':∀j c,j<i+1->l[j]?=some c->128<=c:=λj c hj hc=>by
     by_cases e:j=i
     .subst e;rw[hx] at hc;cases hc;omega
     .exact hall j c (by omega) hc
    obtain⟨w,hw⟩:∃w:Nat,dX .or .u64 (u:Int) (Vk .u64 (IntKind.u64.wrap (dX .and .u8 b 127)) (wr (7*(i:Int))))=(w:Int):=by
     refine⟨(dX .or .u64 (u:Int) (Vk .u64 (IntKind.u64.wrap (dX .and .u8 b 127)) (wr (7*(i:Int))))).toNat,?_⟩
     have:0<=dX .or .u64 (u:Int) (Vk .u64 (IntKind.u64.wrap (dX .and .u8 b 127)) (wr (7*(i:Int)))):=by
      unfold dX;rw[zQ];omega
     omega
    rw[hw]
    refine ih hlt.1 w (by omega) (by omega) hall' λh9=>?_
    have hd:=(dig u i b hb (by omega) hv (.inl (by omega))).1
    rw[hw] at hd
    rw[Bn l i b hx,<-hu]
    exact Int.ofNat_inj.1 hd
   .have k:¬b>=128:=of_decide_eq_false k
    have hk:kE 10 l=i:=Nd 10 l i (by omega) hall hil (.inr (.inr ⟨b,hx,by omega⟩))
    have hd:dB l=if (0<i/\b=0)\/(i=9/\1<b) then (0,0,4) else (F6 (vN (l.take (i+1))),((i+1:Nat):Int),0):=by
     unfold dB;rw[hk,if_neg (by omega),hx]
    refine aD.e (J6 l i b hx hb.1) (aE (λc=>aC ?_) λc=>?_)
    .have c:=of_decide_eq_true c
     show _=_
     rw[hd,if_pos c]
    .have c:=of_decide_eq_false c
     obtain⟨d1,d2⟩:=dig u i b hb (by omega) hv (by omega)
     rw[d1]
     refine aD.e (.mk 0 λn _=>aB1 _ d2 n) (aC ?_)
     show _=_
     rw[hd,if_neg c,oM (by omega),Bn l i b hx,<-hu]) λh=>aC (by
   have h:¬(i:Int)<Rb (ln l) 10:=of_decide_eq_false h
   have hlt:i=10\/i=l.length:=by
    unfold Rb ln at h
    split at h<;>omega
   show dB l=_
   rcases hlt with e | e
   .have hk:kE 10 l=10:=Nd 10 l 10 (by omega) (by rw[<-e];exact hall) (by omega) (.inl rfl)
    unfold dB;rw[if_pos hk,if_pos (by omega)]
   .have hk:kE 10 l=i:=Nd 10 l i (by omega) hall hil (.inr (.inl e))
    unfold dB
    by_cases e10:i=10
    .rw[if_pos (by omega),if_pos (by omega)]
    .rw[if_neg (by omega),hk,List.getElem?_eq_none (by omega),if_neg (by omega)]))) i
theorem XO(l:List Int)(hl:sB l): Ev (λn=>vT n l) (dB l):=
 bN (λ_=>rfl) (cM (cO (Z4 l hl 0 0 (by omega) (by omega) (λj b h=>by omega) (λ_=>rfl))) (λv hv=>aC (by have hv:v=dB l:=hv;rw[hv])) λ_ hv=>aL rfl (aE (λh=>aC (by
  have hv:dB l=_:=hv
  have h:=of_decide_eq_true h
  rw[hv,if_pos (by simp only[ln] at h;omega)])) λh=>aC (by
  have hv:dB l=_:=hv
  have h:=of_decide_eq_false h
  rw[hv,if_neg (by simp only[ln] at h;omega)])))
theorem aDq(l:List Int)(i:Nat): Ev (λn=>Qd n (l,(i:Int))) (decide (i<10/\∃b,l[i]?=some b/\128<=b)):=by
 refine aE (λh=>aE (λk=>?_) λk=>aC ?_) λh=>aC ?_
 .have h:(i:Int)<ln l:=of_decide_eq_true h
  have hx:i<l.length:=by simp only[ln] at h;omega
  have k:=of_decide_eq_true k
  refine aL (jJ hx) (aE (λc=>aC ?_) λc=>aC ?_)
  .have c:=of_decide_eq_true c
   exact (decide_eq_true ⟨by omega,l[i],List.getElem?_eq_getElem hx,c⟩).symm
  .have c:=of_decide_eq_false c
   refine (decide_eq_false ?_).symm
   rintro ⟨_,b,e,g⟩
   rw[List.getElem?_eq_getElem hx] at e;cases e;omega
 .have k:=of_decide_eq_false k
  exact (decide_eq_false λg=>k (by omega)).symm
 .have h:=of_decide_eq_false h
  refine (decide_eq_false ?_).symm
  rintro ⟨_,b,e,g⟩
  have:=(List.getElem?_eq_some_iff.1 e).1
  simp only[ln] at h
  omega
theorem aBC(l:List Int)(i:Nat): i<=10->i<=l.length->(∀j b,j<i->l[j]?=some b->128<=b)->aD (λn m=>Qj oC n m l (i:Int)) λr=>r=((kE 10 l:Nat):Int):=
 iW (N:=10) (T:=λi=>i<=10->i<=l.length->(∀j b,j<i->l[j]?=some b->128<=b)->aD (λn m=>Qj oC n m l (i:Int)) λr=>r=((kE 10 l:Nat):Int)) (λi ih hi hil hall=>iC (aD.e (aDq l i) (aE (λh=>by
  obtain⟨h1,b,h2,h3⟩:=of_decide_eq_true h
  have:=(List.getElem?_eq_some_iff.1 h2).1
  rw[oM (by omega)]
  refine ih h1 (by omega) (by omega) λj c hj hc=>?_
  by_cases e:j=i
  .subst e;rw[h2] at hc;cases hc;exact h3
  .exact hall j c (by omega) hc) λh=>aC (by
  have h:=of_decide_eq_false h
  have:kE 10 l=i:=by
   refine Nd 10 l i hi hall hil ?_
   by_cases e1:i=10
   .exact .inl e1
   .by_cases e2:i=l.length
    .exact .inr (.inl e2)
    .have hx:i<l.length:=by omega
     refine .inr (.inr ⟨l[i],List.getElem?_eq_getElem hx,?_⟩)
     apply Classical.byContradiction
     intro g
     exact h ⟨by omega,l[i],List.getElem?_eq_getElem hx,by omega⟩
  rw[this])))) i
theorem K0(l:List Int)(hl:sB l)(k:Nat)(hk:k<=9)(hkl:k<l.length)(hv:vN (l.take (k+1))<18446744073709551616): ∀(j:Nat) (f:Int),f=(j:Int)-1->j<=k+1->aD (λn m=>Qj uX n m l (((vN ((l.take (k+1)).drop j):Nat):Int),f)) λr=>r=((vN (l.take (k+1)):Nat):Int)
 | 0,f,hf,_=>by
  rw[List.drop_zero]
  refine iC (aE (λh=>?_) λ_=>?_)
  .have h:=of_decide_eq_true h;omega
  .exact aC rfl
 | j+1,f,hf,hj=>iC (aE (λ_=>by
  have hx:j<l.length:=by omega
  have e0:f=(j:Int):=by omega
  have hb:=hl.at (List.getElem?_eq_getElem hx)
  rw[e0]
  refine aL (jJ hx) ?_
  have e1:iG l[j] 128=some ((l[j] % 128).toNat:Int):=by
   have:=jG l[j].toNat 128 (by decide)
   rw[show ((l[j].toNat:Nat):Int)=l[j] by omega] at this
   rw[show (128:Int)=((128:Nat):Int) from rfl,this];congr 1;omega
  have hd:(l.take (k+1)).drop j=l[j]::(l.take (k+1)).drop (j+1):=by
   rw[List.drop_eq_getElem_cons (by rw[List.length_take];omega),List.getElem_take]
  have hle:=IZ (l.take (k+1)) j
  have e2:vN ((l.take (k+1)).drop j)=(l[j] % 128).toNat+128*vN ((l.take (k+1)).drop (j+1)):=by rw[hd,vN]
  rw[e2] at hle
  refine aL e1 ?_
  have e3:IntKind.u64.wrap (IntKind.u64.wrap (((vN ((l.take (k+1)).drop (j+1)):Nat):Int)*128)+IntKind.u64.wrap ((l[j] % 128).toNat:Int))=((vN ((l.take (k+1)).drop j):Nat):Int):=by
   rw[zQ,zQ,zQ,e2];omega
  have e4:wr ((j:Int)-1)=(j:Int)-1:=by rw[wr,i64_in _ (by omega)]
  rw[e3,e4]
  exact K0 l hl k hk hkl hv j _ rfl (by omega)) λh=>by have h:=of_decide_eq_false h;omega)
theorem V3(l:List Int): dB l=if kE 10 l=10 then (0,0,4) else if kE 10 l=l.length then (0,0,5) else if (0<kE 10 l/\l[kE 10 l]?=some 0)\/(kE 10 l=9/\∃b,l[kE 10 l]?=some b/\1<b) then (0,0,4) else (F6 (vN (l.take (kE 10 l+1))),((kE 10 l+1:Nat):Int),0):=by
 have hl:=Wu 10 l
 unfold dB
 split
 .rfl
 .by_cases e:kE 10 l=l.length
  .rw[if_pos e,List.getElem?_eq_none (by omega)]
  .rw[if_neg e]
   have hx:kE 10 l<l.length:=by omega
   rw[List.getElem?_eq_getElem hx]
   simp
theorem n9{l:List Int}(hl:sB l){k:Nat}{b:Int}(hx:l[k]?=some b)(hk:k<=9)(hb:b<128)(h:¬(k=9/\1<b)): vN (l.take (k+1))<18446744073709551616:=by
 have hb0:=hl.at hx
 have hkl:=(List.getElem?_eq_some_iff.1 hx).1
 have h2:=IY (l.take k)
 rw[List.length_take,Nat.min_eq_left (by omega)] at h2
 rw[Bn l k b hx]
 exact (dig _ k b hb0 hk h2 (by omega)).2
theorem IA(l:List Int)(hl:sB l): Ev (λn=>Dt n l) (dB l):=by
 refine bN (λ_=>rfl) (bF (cO (aBC l 0 (by omega) (by omega) λj b h=>by omega)) λr hr=>?_)
 rw[hr,V3]
 have hle:=Wu 10 l
 refine aE (λh=>aC ?_) λh=>aE (λk=>aC ?_) λk=>?_
 .have h:((kE 10 l:Nat):Int)=10:=by simpa using h
  rw[if_pos (by omega)]
 .have h:¬((kE 10 l:Nat):Int)=10:=by simpa using h
  have k:((kE 10 l:Nat):Int)=ln l:=by simpa using k
  rw[if_neg (by omega),if_pos (by simp only[ln] at k;omega)]
 .have h:¬((kE 10 l:Nat):Int)=10:=by simpa using h
  have k:¬((kE 10 l:Nat):Int)=ln l:=by simpa using k
  have hne:kE 10 l≠l.length:=by simp only[ln] at k;omega
  rw[if_neg (by omega),if_neg hne]
  have hx:kE 10 l<l.length:=by omega
  have hg:=List.getElem?_eq_getElem hx
  generalize l[kE 10 l]=b at hg
  have hb:=hl.at hg
  have hlt:b<128:=by
   have key:∀(f:Nat) (l:List Int) (b:Int),kE f l<f->l[kE f l]?=some b->b<128:=by
    intro f
    induction f with
    | zero=>intro l b h;omega
    | succ f ih=>
     intro l b h e
     cases l with
     | nil=>simp[kE] at e
     | cons a r=>
      unfold kE at h e
      split at h
      .rename_i q
       rw[if_pos q] at e
       exact ih r b (by omega) (by simpa using e)
      .rename_i q
       rw[if_neg q] at e
       simp at e;omega
   exact key 10 l b (by omega) hg
  refine aD.e (J6 l _ b hg hb.1) (aE (λc=>aC ?_) λc=>?_)
  .have c:=of_decide_eq_true c
   rw[if_pos]
   rcases c with c | c
   .exact .inl ⟨c.1,by rw[hg,c.2]⟩
   .exact .inr ⟨c.1,b,hg,c.2⟩
  .have c:=of_decide_eq_false c
   have hno:¬((0<kE 10 l/\l[kE 10 l]?=some 0)\/(kE 10 l=9/\∃b,l[kE 10 l]?=some b/\1<b)):=by
    rintro (⟨q1,q2⟩ | ⟨q1,b',q2,q3⟩)
    .rw[hg] at q2;cases q2;exact c (.inl ⟨q1,rfl⟩)
    .rw[hg] at q2;cases q2;exact c (.inr ⟨q1,q3⟩)
   rw[if_neg hno]
   have hv:=n9 hl hg (by omega) hlt (λq=>c (.inr q))
   have L:=K0 l hl (kE 10 l) (by omega) hx hv (kE 10 l+1) _ rfl (Nat.le_refl _)
   rw[List.drop_eq_nil_of_le (by rw[List.length_take];omega)] at L
   have e0:((kE 10 l+1:Nat):Int)-1=((kE 10 l:Nat):Int):=by omega
   rw[e0] at L
   refine bF (cO L) λd hd=>?_
   rw[hd]
   generalize vN (l.take (kE 10 l+1))=u at hv
   have e1:iG (u:Int) 2=some ((u % 2:Nat):Int):=jG u 2 (by decide)
   have e2:hM .u64 (u:Int) 2=some ((u / 2:Nat):Int):=by
    have:hM .u64 (u:Int) ((2:Nat):Int)=some (IntKind.u64.wrap ((u / 2:Nat):Int)):=by
     unfold hM
     rw[if_neg (by decide),Li]
    rw[show (2:Int)=((2:Nat):Int) from rfl,this,zQ];congr 1;omega
   have e5:wr (((kE 10 l:Nat):Int)+1)=((kE 10 l+1:Nat):Int):=oM (by omega)
   refine aL e1 (aE (λq=>aL e2 (aC ?_)) λq=>aL e2 (aC ?_))
   .have q:((u % 2:Nat):Int)=0:=by simpa using q
    rw[e5,wr,i64_in _ (by omega),F6,if_pos (by omega)]
   .have q:¬((u % 2:Nat):Int)=0:=by simpa using q
    have e6:wr ((u / 2:Nat):Int)=((u / 2:Nat):Int):=i64_in _ (by omega)
    have e7:wr (0-((u / 2:Nat):Int))=0-((u / 2:Nat):Int):=i64_in _ (by omega)
    have e8:wr (0-((u / 2:Nat):Int)-1)=0-((u / 2:Nat):Int)-1:=i64_in _ (by omega)
    rw[e5,e6,e7,e8,F6,if_neg (by omega)]
    congr 1;omega
theorem pF{l:List Int}(hl:sB l): dB l=(0,0,4)\/dB l=(0,0,5)\/∃(v:Int) (k:Nat),dB l=(v,(k:Int),0)/\1<=k/\k<=l.length/\k<=10/\-9223372036854775808<=v/\v<=9223372036854775807:=by
 have hle:=Wu 10 l
 unfold dB
 split
 .exact .inl rfl
 .split
  .exact .inr (.inl rfl)
  .rename_i b hx
   split
   .exact .inl rfl
   .rename_i hc
    have hb:=hl.at hx
    have hkl:=(List.getElem?_eq_some_iff.1 hx).1
    have hlt:vN (l.take (kE 10 l+1))<18446744073709551616:=by
     have h2:=IY (l.take (kE 10 l))
     rw[List.length_take,Nat.min_eq_left (by omega)] at h2
     have hb8:b % 128<=1\/kE 10 l<=8:=by
      by_cases h9:kE 10 l=9
      .left
       have:¬1<b:=λq=>hc (.inr ⟨h9,q⟩)
       omega
      .right;omega
     rw[Bn l _ b hx]
     exact (dig _ _ b hb (by omega) h2 (by omega)).2
    refine .inr (.inr ⟨_,_,rfl,by omega,by omega,by omega,?_⟩)
    unfold F6
    split<;>omega
theorem uO{l:List Int}{k:Nat}(h:k<=l.length): Ht l (k:Int) (ln l)=some (l.drop k):=by
 unfold Ht
 rw[if_pos ⟨by omega,by simp only[ln];omega,by simp only[ln];omega⟩]
 simp only[ln,Int.toNat_natCast,List.take_length]
def gL(l:List Int)(most:Int): Int×Int×Int:=
 if (dB l).2.2≠0 then (0,0,(dB l).2.2) else if (dB l).1<0 then (0,0,4) else if (dB l).1 > Wz most 0 then (0,0,3) else ((dB l).1,(dB l).2.1,0)
theorem K5(l:List Int)(hl:sB l)(most:Int): Ev (λn=>pV n l most) (gL l most):=by
 refine bN (λ_=>rfl) (aD.e (XO l hl) ?_)
 unfold gL
 refine cM (Q:=λd=>(if (dB l).2.2≠0 then (0,0,(dB l).2.2) else if (dB l).1<0 then (0,0,4) else if (dB l).1 > Wz most 0 then (0,0,3) else ((dB l).1,(dB l).2.1,0))=(0,0,d)) (R:=λ_=>(if (dB l).2.2≠0 then (0,0,(dB l).2.2) else if (dB l).1<0 then (0,0,4) else if (dB l).1 > Wz most 0 then (0,0,3) else ((dB l).1,(dB l).2.1,0))=((dB l).1,(dB l).2.1,0)) ?_ (λd h=>aC (by rw[h])) λ_ h=>aL rfl (aC (by rw[h]))
 refine aE (λh=>aC ?_) λh=>aE (λk=>aC ?_) λk=>aE (λm=>aC ?_) λm=>aC ?_
 .have h:(dB l).2.2≠0:=by simpa using h
  show _=_
  rw[if_pos h]
 all_goals have h:¬(dB l).2.2≠0:=by simpa using h
 .have k:=of_decide_eq_true k
  show _=_
  rw[if_neg h,if_pos k]
 all_goals have k:=of_decide_eq_false k
 .have m:=of_decide_eq_true m
  show _=_
  rw[if_neg h,if_neg k,if_pos m]
 .have m:=of_decide_eq_false m
  show _=_
  rw[if_neg h,if_neg k,if_neg m]
theorem XI(l:List Int)(hl:sB l)(most:Int): Ev (λn=>uW n l most) (gL l most):=by
 refine bN (λ_=>rfl) (aD.e (IA l hl) ?_)
 unfold gL
 refine aE (λh=>aC ?_) λh=>aE (λk=>aC ?_) λk=>aE (λm=>aC ?_) λm=>aC ?_
 .have h:(dB l).2.2≠0:=by simpa using h
  rw[if_pos h]
 all_goals have h:¬(dB l).2.2≠0:=by simpa using h
 .have k:=of_decide_eq_true k
  rw[if_neg h,if_pos k]
 all_goals have k:=of_decide_eq_false k
 .have m:=of_decide_eq_true m
  rw[if_neg h,if_neg k,if_pos m]
 .have m:=of_decide_eq_false m
  rw[if_neg h,if_neg k,if_neg m]
theorem lL{l:List Int}(hl:sB l)(most:Nat): (∃e,gL l most=(0,0,e)/\e≠0)\/∃v k:Nat,gL l most=((v:Int),(k:Int),0)/\k<=l.length/\v<=most:=by
 unfold gL
 rcases pF hl with h | h | ⟨v,k,h,h1,h2,h3,h4⟩
 .rw[h];exact .inl ⟨4,rfl,by decide⟩
 .rw[h];exact .inl ⟨5,rfl,by decide⟩
 .rw[h]
  dsimp only
  rw[if_neg (by simp)]
  split
  .exact .inl ⟨4,rfl,by decide⟩
  .split
   .exact .inl ⟨3,rfl,by decide⟩
   .rename_i q1 q2
    unfold Wz at q2
    refine .inr ⟨v.toNat,k,by rw[Int.toNat_of_nonneg (by omega)],h2,?_⟩
    split at q2<;>omega
def pE(l:List Int)(most:Int): ByteArray×Int×Int:=
 if (gL l most).2.2≠0 then (⟨#[]⟩,0,(gL l most).2.2) else if (gL l most).1 > ln l-(gL l most).2.1 then (⟨#[]⟩,0,5) else (HT ((l.drop (gL l most).2.1.toNat).take (gL l most).1.toNat),(gL l most).2.1+(gL l most).1,0)
theorem JE{l:List Int}(hl:sB l)(h6:l.length<=1000000)(most:Nat)(hm:most<=1000): aD (λ_ _=>cnd ((gL l most).2.2 != 0) (some ((⟨#[]⟩:ByteArray),(0:Int),(gL l most).2.2)) (cd ((gL l most).1 > (wr ((ln l)-(gL l most).2.1))) (some ((⟨#[]⟩:ByteArray),0,5)) (bnd (Ht l (gL l most).2.1 (wr ((gL l most).2.1+(gL l most).1))) λd=>(some ((HT d),(wr ((gL l most).2.1+(gL l most).1)),0))))) λr=>r=pE l most:=by
 unfold pE
 rcases lL hl most with⟨e,h,he⟩ | ⟨v,k,h,hk,hv⟩
 .rw[h]
  refine aE (λ_=>aC ?_) λq=>?_
  .rw[if_pos he]
  .simp at q;exact (he q).elim
 .rw[h]
  refine aE (λq=>by simp at q) λ_=>?_
  dsimp only
  have e1:wr (ln l-(k:Int))=ln l-(k:Int):=i64_in _ (by simp only[ln];omega)
  have e2:wr ((k:Int)+(v:Int))=((k+v:Nat):Int):=by rw[wr,i64_in _ (by omega)];omega
  rw[e1,e2,if_neg (by simp)]
  refine aE (λq=>aC ?_) λq=>?_
  .have q:=of_decide_eq_true q
   rw[if_pos q]
  .have q:=of_decide_eq_false q
   have q':k+v<=l.length:=by simp only[ln] at q;omega
   refine aL (x:=(l.take (k+v)).drop k) (by
    unfold Ht
    rw[if_pos ⟨by omega,by omega,by omega⟩,Int.toNat_natCast,Int.toNat_natCast]) (aC ?_)
   rw[if_neg q]
   simp only[Int.toNat_natCast]
   rw[List.drop_take,show k+v-k=v by omega]
   congr 2
theorem Y2(l:List Int)(hl:sB l)(h6:l.length<=1000000)(most:Nat)(hm:most<=1000): Ev (λn=>Dx n l most) (pE l most):=bN (λ_=>rfl) (aD.e (K5 l hl most) (JE hl h6 most hm))
theorem E4(l:List Int)(hl:sB l)(h6:l.length<=1000000)(most:Nat)(hm:most<=1000): Ev (λn=>Qa n l most) (pE l most):=bN (λ_=>rfl) (aD.e (XI l hl most) (JE hl h6 most hm))
def pL: Nat->List Int->Int⊕(List Int×Nat)
 | 0,_=>.inr ([],0)
 | c+1,r=>if (dB r).2.2≠0 then .inl (dB r).2.2 else match pL c (r.drop (dB r).2.1.toNat) with
  | .inl e=>.inl e
  | .inr (vs,k)=>.inr ((dB r).1::vs,(dB r).2.1.toNat+k)
def mI(l:List Int)(most:Int): List Int×Int×Int:=
 if (gL l most).2.2≠0 then ([],0,(gL l most).2.2) else match pL (gL l most).1.toNat (l.drop (gL l most).2.1.toNat) with
  | .inl e=>([],0,e)
  | .inr (vs,k)=>(vs,(gL l most).2.1+(k:Int),0)
theorem FQ: ∀(c:Nat) (l:List Int),sB l->(match pL c l with
 | .inl e=>e≠0
 | .inr (vs,k)=>k<=l.length/\vs.length=c)
 | 0,l,_=>by simp[pL]
 | c+1,l,hl=>by
  unfold pL
  rcases pF hl with h | h | ⟨v,k,h,h1,h2,h3,h4⟩
  .rw[h];simp
  .rw[h];simp
  .rw[h]
   dsimp only
   rw[if_neg (by simp),Int.toNat_natCast]
   have:=FQ c (l.drop k) (hl.drop k)
   cases hp:pL c (l.drop k) with
   | inl e=>rw[hp] at this;exact this
   | inr p=>
    obtain⟨vs,q⟩:=p
    rw[hp] at this
    dsimp only at this |-
    rw[List.length_drop] at this
    exact⟨by omega,by simp[this.2]⟩
def LR(g:List Int)(h:Nat)(p:Int⊕(List Int×Nat))(z:(List Int×Int)⊕(List Int×Int)): Prop:=match p with
 | .inl e=>∃g',z=.inl (g',e)
 | .inr (vs,k)=>z=.inr (g++vs,((h+k:Nat):Int))
theorem Tv{l:List Int}(hl:sB l)(h6:l.length<=1000000){c h:Nat}(hh:h<=l.length){g:List Int}(hg:g.length<=2000){K:Nat->Nat->List Int×Int->Option ((List Int×Int)⊕(List Int×Int))}(ih:∀(v:Int) (k:Nat),h+k<=l.length->aD (λn m=>K n m (g++[v],((h+k:Nat):Int))) (LR (g++[v]) (h+k) (pL c (l.drop (h+k))))):
 aD (λn m=>cnd ((dB (l.drop h)).2.2 != 0) (some (.inl (g,(dB (l.drop h)).2.2))) (bnd (app g [(dB (l.drop h)).1]) λx=>K n m (x,wr ((h:Int)+(dB (l.drop h)).2.1)))) (LR g h (pL (c+1) (l.drop h))):=by
 unfold pL
 rcases pF (hl.drop h) with e | e | ⟨v,k,e,h1,h2,h3,h4⟩
 .rw[e];exact aE (λ_=>aC ⟨g,rfl⟩) λq=>by simp at q
 .rw[e];exact aE (λ_=>aC ⟨g,rfl⟩) λq=>by simp at q
 .rw[e]
  rw[List.length_drop] at h2
  refine aE (λq=>by simp at q) λ_=>aL (pK (by simp;omega)) ?_
  have e2:wr ((h:Int)+(k:Int))=((h+k:Nat):Int):=by rw[wr,i64_in _ (by omega)];omega
  rw[e2]
  refine (ih v k (by omega)).imp λz hz=>?_
  dsimp only
  rw[if_neg (by simp),Int.toNat_natCast,List.drop_drop]
  cases hp:pL c (l.drop (h+k)) with
  | inl e=>rw[hp] at hz;exact hz
  | inr p=>
   obtain⟨vs,q⟩:=p
   rw[hp] at hz
   have hz:z=_:=hz
   show z=_
   rw[hz,List.append_assoc,Nat.add_assoc];rfl
theorem WL(l:List Int)(hl:sB l)(h6:l.length<=1000000)(n0:Nat)(hn:n0<=1000): ∀(c i h:Nat) (g:List Int),i+c=n0->h<=l.length->g.length=i->aD (λn m=>uC fR n m (l,(n0:Int)) (g,(h:Int),(i:Int))) (LR g h (pL c (l.drop h)))
 | 0,i,h,g,hc,hh,hg=>eV (aE (λq=>by have q:=of_decide_eq_true q;omega) λ_=>aC (by show _=_;simp))
 | c+1,i,h,g,hc,hh,hg=>eV (aE (λ_=>by
  refine aL (x:=()) (by rw[decide_eq_true ⟨Int.le_refl _,Int.le_refl _⟩];rfl) (aL (uO hh) (aD.e (XO _ (hl.drop h)) ?_))
  rw[oM (by omega)]
  exact Tv hl h6 hh (by omega) (K:=λn m p=>uC fR n m (l,(n0:Int)) (p.1,p.2,((i+1:Nat):Int))) λv k hk=>WL l hl h6 n0 hn c (i+1) (h+k) (g++[v]) (by omega) hk (by simp;omega)) λq=>by have q:=of_decide_eq_false q;omega)
theorem RL(l:List Int)(hl:sB l)(h6:l.length<=1000000)(n0:Nat)(hn:n0<=1000): ∀(c i h:Nat) (g:List Int),i+c=n0->h<=l.length->g.length=i->aD (λn m=>uC jI n m (l,(n0:Int)) (g,(h:Int),(i:Int))) (LR g h (pL c (l.drop h)))
 | 0,i,h,g,hc,hh,hg=>eV (aE (λq=>by have q:=of_decide_eq_true q;omega) λ_=>aC (by show _=_;simp))
 | c+1,i,h,g,hc,hh,hg=>eV (aE (λ_=>by
  refine aL (uO hh) (aD.e (IA _ (hl.drop h)) ?_)
  rw[oM (by omega)]
  exact Tv hl h6 hh (by omega) (K:=λn m p=>uC jI n m (l,(n0:Int)) (p.1,p.2,((i+1:Nat):Int))) λv k hk=>RL l hl h6 n0 hn c (i+1) (h+k) (g++[v]) (by omega) hk (by simp;omega)) λq=>by have q:=of_decide_eq_false q;omega)
theorem Wr{l:List Int}(hl:sB l)(most:Nat){L:Nat->Nat->List Int×Int×Int->Option ((List Int×Int)⊕(List Int×Int))}(h:∀v k:Nat,gL l most=((v:Int),(k:Int),0)->k<=l.length->v<=most->aD (λn m=>L n m ([],(k:Int),0)) (LR [] k (pL v (l.drop k)))):
 aD (λn _=>cnd ((gL l most).2.2 != 0) (some (([]:List Int),(0:Int),(gL l most).2.2)) (bnd2 (L n n ([],(gL l most).2.1,0)) (λd=>some ([],0,d.2)) λf=>bnd (some f) λg=>some (g.1,g.2,0))) λr=>r=mI l most:=by
 unfold mI
 rcases lL hl most with⟨e,q,he⟩ | ⟨v,k,q,hk,hv⟩
 .rw[q]
  refine aE (λ_=>aC ?_) λq=>?_
  .rw[if_pos he]
  .simp at q;exact (he q).elim
 .have hh:=h v k q hk hv
  rw[q]
  refine aE (λq=>by simp at q) λ_=>?_
  dsimp only
  rw[if_neg (by simp)]
  simp only[Int.toNat_natCast]
  obtain⟨z,hz,hT⟩:=(cO hh).val
  cases hp:pL v (l.drop k) with
  | inl e=>
   rw[hp] at hz
   obtain⟨g',rfl⟩:=hz
   exact cM (Q:=λd=>d.2=e) (R:=λ_=>False) (hT.imp λ_ h=>by rw[h];rfl) (λd hd=>aC (by rw[hd])) λ_ h=>h.elim
  | inr p=>
   obtain⟨vs,j⟩:=p
   rw[hp] at hz
   have hz:z=_:=hz
   subst hz
   exact cM (Q:=λ_=>False) (R:=λx=>x=(([]:List Int)++vs,((k+j:Nat):Int))) (hT.imp λ_ h=>by rw[h];rfl) (λ_ h=>h.elim) λx hx=>aL rfl (aC (by rw[hx];simp))
theorem Z2(l:List Int)(hl:sB l)(h6:l.length<=1000000)(most:Nat)(hm:most<=1000): Ev (λn=>Dy n l most) (mI l most):=by
 refine bN (λ_=>rfl) (aD.e (K5 l hl most) ?_)
 rcases lL hl most with⟨e,q,he⟩ | ⟨v,k,q,hk,hv⟩
 .refine Wr hl most (L:=λn m p=>uC fR n m (l,(gL l most).1) p) λv k q' _ _=>?_
  rw[q] at q';cases q';exact (he rfl).elim
 .refine Wr hl most (L:=λn m p=>uC fR n m (l,(gL l most).1) p) λv' k' q' _ _=>?_
  rw[q'] at *
  exact WL l hl h6 v' (by omega) v' 0 k' [] (by omega) (by assumption) rfl
theorem E6(l:List Int)(hl:sB l)(h6:l.length<=1000000)(most:Nat)(hm:most<=1000): Ev (λn=>Qb n l most) (mI l most):=by
 refine bN (λ_=>rfl) (aD.e (XI l hl most) ?_)
 refine Wr hl most (L:=λn m p=>uC jI n m (l,(gL l most).1) p) λv' k' q' _ _=>?_
 rw[q']
 exact RL l hl h6 v' (by omega) v' 0 k' [] (by omega) (by assumption) rfl
abbrev PR(α:Type):=Int⊕(α×List Int)
def pB{α β:Type}(p:PR α)(f:α->List Int->PR β): PR β:=match p with
 | .inl e=>.inl e
 | .inr (a,r)=>f a r
def YB{α:Type}(l:List Int)(a:α)(u e:Int): PR α:=if e≠0 then .inl e else .inr (a,l.drop u.toNat)
def jH(l:List Int): PR Int:=YB l (dB l).1 (dB l).2.1 (dB l).2.2
def qB(l:List Int): PR ByteArray:=YB l (pE l 40).1 (pE l 40).2.1 (pE l 40).2.2
def wL(l:List Int): PR (List Int):=YB l (mI l 64).1 (mI l 64).2.1 (mI l 64).2.2
def Em(l:List Int): PR Int:=pB (jH l) λv r=>if v<0 then .inl 4 else if v > 64 then .inl 3 else .inr (v,r)
def TI(l:List Int): PR Aaa:=pB (jH l) λx r=>pB (jH r) λy r=>.inr (⟨x,y⟩,r)
def Bw: Nat->List Int->PR (List Aaa)
 | 0,l=>.inr ([],l)
 | c+1,l=>pB (TI l) λp r=>pB (Bw c r) λps r=>.inr (p::ps,r)
def qC(l:List Int): PR (List Aaa):=pB (Em l) λc r=>Bw c.toNat r
def nG(l:List Int): PR aP:=pB (jH l) λa r=>pB (jH r) λb r=>pB (jH r) λc r=>pB (jH r) λd r=>pB (jH r) λe r=>pB (TI r) λp r=>pB (qC r) λv r=>pB (qB r) λs r=>pB (wL r) λq r=>.inr (⟨a,b,c,d,e,p,v,s,q⟩,r)
def hP: Nat->List Int->PR (List aP)
 | 0,l=>.inr ([],l)
 | c+1,l=>pB (nG l) λp r=>pB (hP c r) λps r=>.inr (p::ps,r)
def zO(l:List Int): PR eX:=pB (jH l) λa r=>pB (jH r) λb r=>pB (jH r) λc r=>pB (qB r) λs r=>pB (Em r) λk r=>pB (hP k.toNat r) λes r=>.inr (⟨a,b,c,s,es⟩,r)
structure qW(l:List Int): Prop where
 b:sB l
 n:l.length<=1000000
def Gd{α:Type}(p:PR α): Prop:=match p with
 | .inl e=>e≠0
 | .inr (_,r)=>qW r
theorem qW.drop{l:List Int}(h:qW l)(k:Nat): qW (l.drop k):=⟨h.b.drop k,by have:=h.n;rw[List.length_drop];omega⟩
theorem FP{α:Type}{l:List Int}(h:qW l)(a:α)(u e:Int): Gd (YB l a u e):=by
 unfold YB
 split
 .assumption
 .exact h.drop _
theorem fF{α β:Type}{p:PR α}{f:α->List Int->PR β}(h:Gd p)(k:∀a r,qW r->Gd (f a r)): Gd (pB p f):=by
 unfold pB
 cases p with
 | inl e=>exact h
 | inr q=>exact k _ _ h
theorem cK{l:List Int}(h:qW l): Gd (jH l):=FP h _ _ _
theorem oT{l:List Int}(h:qW l): Gd (qB l):=FP h _ _ _
theorem AU{l:List Int}(h:qW l): Gd (wL l):=FP h _ _ _
theorem tY{l:List Int}(h:qW l): Gd (Em l):=fF (cK h) λv r hr=>by
 split
 .show (4:Int)≠0;decide
 .split
  .show (3:Int)≠0;decide
  .exact hr
theorem Mf{l:List Int}(h:qW l): Gd (TI l):=fF (cK h) λ_ _ h=>fF (cK h) λ_ _ h=>h
theorem KM: ∀(c:Nat) {l:List Int},qW l->Gd (Bw c l)
 | 0,l,h=>h
 | c+1,l,h=>fF (Mf h) λ_ _ h=>fF (KM c h) λ_ _ h=>h
theorem Bx{l:List Int}(h:qW l): Gd (qC l):=fF (tY h) λ_ _ h=>KM _ h
theorem Mh{l:List Int}(h:qW l): Gd (nG l):=fF (cK h) λ_ _ h=>fF (cK h) λ_ _ h=>fF (cK h) λ_ _ h=>fF (cK h) λ_ _ h=>fF (cK h) λ_ _ h=>fF (Mf h) λ_ _ h=>fF (Bx h) λ_ _ h=>fF (oT h) λ_ _ h=>fF (AU h) λ_ _ h=>h
theorem Td: ∀(c:Nat) {l:List Int},qW l->Gd (hP c l)
 | 0,l,h=>h
 | c+1,l,h=>fF (Mh h) λ_ _ h=>fF (Td c h) λ_ _ h=>h
def QF(l:List Int)(u e:Int): Prop:=e=0->∃k:Nat,u=k/\k<=l.length
theorem Ul{l:List Int}(h:sB l): QF l (dB l).2.1 (dB l).2.2:=by
 rcases pF h with e | e | ⟨v,k,e,h1,h2,_⟩<;>rw[e]
 .intro h;cases h
 .intro h;cases h
 .exact λ_=>⟨k,rfl,h2⟩
theorem Og{l:List Int}(h:sB l)(most:Nat): QF l (pE l most).2.1 (pE l most).2.2:=by
 unfold pE
 rcases lL h most with⟨e,q,he⟩ | ⟨v,k,q,hk,hv⟩<;>rw[q]
 .rw[if_pos he];exact λh=>(he h).elim
 .rw[if_neg (by simp)]
  split
  .intro h;cases h
  .rename_i q
   dsimp only at q |-
   simp only[ln] at q
   exact λ_=>⟨k+v,by omega,by omega⟩
theorem Oh{l:List Int}(h:sB l)(most:Nat): QF l (mI l most).2.1 (mI l most).2.2:=by
 unfold mI
 rcases lL h most with⟨e,q,he⟩ | ⟨v,k,q,hk,hv⟩<;>rw[q]
 .rw[if_pos he];exact λh=>(he h).elim
 .rw[if_neg (by simp)]
  simp only[Int.toNat_natCast]
  have:=FQ v (l.drop k) (h.drop k)
  cases hp:pL v (l.drop k) with
  | inl e=>rw[hp] at this;exact λh=>(this h).elim
  | inr p=>
   obtain⟨vs,j⟩:=p
   rw[hp] at this
   dsimp only at this |-
   rw[List.length_drop] at this
   exact λ_=>⟨k+j,by omega,by omega⟩
def iOf{α:Type}(z:α)(l:List Int)(p:PR α): List Int×Bool×Int×α:=match p with
 | .inl e=>(l,true,e,z)
 | .inr (a,r)=>(r,false,0,a)
theorem aD0(l:List Int)(u e:Int)(h:QF l u e): Ev (λn=>codec_ReadTxn?_I5 n (l,u,e)) (if e≠0 then (l,true,e) else (l.drop u.toNat,false,0)):=eG (aE (λq=>by
 have q:e≠0:=by simpa using q
 rw[if_pos q]
 exact aE (λ_=>aC rfl) λ_=>aC rfl) λq=>by
 have q:e=0:=by simpa using q
 obtain⟨k,rfl,hk⟩:=h q
 rw[if_neg (by simp[q])]
 exact aL (uO hk) (aC rfl))
theorem Wv{α:Type}(z a:α)(l:List Int)(u e:Int)(h:QF l u e){B:Nat->List Int×Bool×Int->Option (List Int×Bool×Int×α)}(hB:∀n d,B n d=cnd d.2.1 (some (d.1,true,d.2.2,z)) (some (d.1,false,0,a))): aD (λn _=>bnd (codec_ReadTxn?_I5 n (l,u,e)) (B n)) λr=>r=iOf z l (YB l a u e):=by
 refine aD.e (aD0 l u e h) ?_
 unfold iOf YB
 by_cases q:e≠0
 .rw[if_pos q,if_pos q];simp only[hB];exact aC rfl
 .rw[if_neg q,if_neg q];simp only[hB];exact aC rfl
theorem Qf{l:List Int}(h:qW l): Ev (λn=>codec_ReadTxn?_I4 n l) (iOf 0 l (jH l)):=eG (aD.e (XO l h.b) (Wv 0 (dB l).1 l _ _ (Ul h.b) (B:=λn d=>cnd d.2.1 (some (d.1,true,d.2.2,0)) (some (d.1,false,0,(dB l).1))) λ_ _=>rfl))
theorem aBQ{l:List Int}(h:qW l): Ev (λn=>codec_ReadTxn?_I6 n l) (iOf ⟨#[]⟩ l (qB l)):=eG (aD.e (Y2 l h.b h.n 40 (by omega)) (Wv ⟨#[]⟩ (pE l 40).1 l _ _ (Og h.b 40) (B:=λn d=>cnd d.2.1 (some (d.1,true,d.2.2,⟨#[]⟩)) (some (d.1,false,0,(pE l 40).1))) λ_ _=>rfl))
theorem aBU{l:List Int}(h:qW l): Ev (λn=>codec_ReadTxn?_I25 n l) (iOf [] l (wL l)):=eG (aD.e (Z2 l h.b h.n 64 (by omega)) (Wv [] (mI l 64).1 l _ _ (Oh h.b 64) (B:=λn d=>cnd d.2.1 (some (d.1,true,d.2.2,[])) (some (d.1,false,0,(mI l 64).1))) λ_ _=>rfl))
def It{α:Type}(p:PR α)(z:List Int×Bool×Int×α): Prop:=match p with
 | .inl e=>z.2.1=true/\z.2.2.1=e
 | .inr (a,r)=>z=(r,false,0,a)
theorem aCc{l:List Int}(h:qW l): aD (λn _=>codec_ReadTxn?_I7 n l) (It (Em l)):=by
 refine eG (aD.e (Qf h) ?_)
 unfold Em
 cases jH l with
 | inl e=>exact aE (λ_=>aC ⟨rfl,rfl⟩) λh=>by cases h
 | inr p=>
  obtain⟨v,r⟩:=p
  refine aE (λh=>by cases h) λ_=>aE (λq=>aC ?_) λq=>aE (λk=>aC ?_) λk=>aC ?_
  .have q:v<0:=of_decide_eq_true q
   show It (if v<0 then _ else _) _
   rw[if_pos q];exact⟨rfl,rfl⟩
  all_goals have q:¬v<0:=of_decide_eq_false q
  .have k:v > 64:=of_decide_eq_true k
   show It (if v<0 then _ else _) _
   rw[if_neg q,if_pos k];exact⟨rfl,rfl⟩
  .have k:¬v > 64:=of_decide_eq_false k
   show It (if v<0 then _ else _) _
   rw[if_neg q,if_neg k];rfl
theorem aD.it{α β:Type}{f:Nat->Option (List Int×Bool×Int×α)}{z:α}{l:List Int}{p:PR α}{g:Nat->Nat->(List Int×Bool×Int×α)->Option β}{P:β->Prop}(h:Ev f (iOf z l p))(k1:∀e,p=.inl e->aD (λn m=>g n m (l,true,e,z)) P)(k2:∀a r,p=.inr (a,r)->aD (λn m=>g n m (r,false,0,a)) P): aD (λn m=>Av.bnd (f n) (g n m)) P:=by
 refine aD.e h ?_
 cases p with
 | inl e=>exact k1 e rfl
 | inr q=>exact k2 q.1 q.2 rfl
theorem MS{α β:Type}{f:Nat->Nat->Option (List Int×Bool×Int×α)}{p:PR α}{g:Nat->Nat->(List Int×Bool×Int×α)->Option β}{P:β->Prop}(h:aD f (It p))(k1:∀e b a,p=.inl e->aD (λn m=>g n m (b,true,e,a)) P)(k2:∀a r,p=.inr (a,r)->aD (λn m=>g n m (r,false,0,a)) P): aD (λn m=>Av.bnd (f n m) (g n m)) P:=by
 refine bF h λz hz=>?_
 cases p with
 | inl e=>
  obtain⟨b,x,y,a⟩:=z
  obtain⟨rfl,rfl⟩:=hz
  exact k1 _ b a rfl
 | inr q=>
  have hz:z=_:=hz
  rw[hz];exact k2 q.1 q.2 rfl
def aBO(p:PR Aaa)(z:List Int×Int×Int×Bool×Int×Int×Int): Prop:=match p with
 | .inl e=>z.2.2.2.1=true/\z.2.2.2.2.1=e
 | .inr (a,r)=>z.1=r/\z.2.2.2.1=false/\z.2.2.2.2.2=(a.X,a.Y)
theorem iK{α:Type}{p:PR α}{a:α}{r:List Int}(h:Gd p)(e:p=.inr (a,r)): qW r:=by rw[e] at h;exact h
theorem tt{α:Type}{P:α->Prop}{x:α}{y:Nat->Nat->Option α}(h:P x): aD (λn m=>cnd true (some x) (y n m)) P:=aC h
theorem tf{α:Type}{P:α->Prop}{x y:Nat->Nat->Option α}(h:aD y P): aD (λn m=>cnd false (x n m) (y n m)) P:=h
theorem K8{l:List Int}(h:qW l): aD (λn _=>codec_ReadTxn?_I13 n l) (aBO (TI l)):=by
 refine eG (aD.it (Qf h) (λe h1=>?_) λv r h1=>?_)
 .unfold TI;rw[h1];exact tt ⟨rfl,rfl⟩
 .refine tf (aD.it (Qf (iK (cK h) h1)) (λe h2=>?_) λw s h2=>?_)
  .unfold TI;rw[h1];dsimp only[pB];rw[h2];exact tt ⟨rfl,rfl⟩
  .unfold TI;rw[h1];dsimp only[pB];rw[h2];exact tf (aC ⟨rfl,rfl,rfl⟩)
theorem uS{α β γ:Type}{P:α->Prop}{f:Nat->Nat->Option (β⊕γ)}{g:Nat->Nat->β->Option α}{k:Nat->Nat->γ->Option α}{z:β⊕γ}(h:aD f λx=>x=z)(q:aD (λn m=>match z with | .inl a=>g n m a | .inr b=>k n m b) P): aD (λn m=>Av.bnd2 (f n m) (g n m) (k n m)) P:=by
 cases z with
 | inl a=>exact cM (Q:=λx=>x=a) (R:=λ_=>False) (h.imp λ_ e=>by rw[e];rfl) (λx e=>by rw[e];exact q) λ_ h=>h.elim
 | inr b=>exact cM (Q:=λ_=>False) (R:=λx=>x=b) (h.imp λ_ e=>by rw[e];rfl) (λ_ h=>h.elim) λx e=>by rw[e];exact q
theorem eT{α β γ:Type}(a:β)(f:β->Option α)(g:γ->Option α): bnd2 (some (.inl a)) f g=f a:=rfl
theorem eE{α β γ:Type}(a:γ)(f:β->Option α)(g:γ->Option α): bnd2 (some (.inr a)) f g=g a:=rfl
theorem sH{l r:List Int}{c:Int}(h:Em l=.inr (c,r)): 0<=c/\c<=64:=by
 unfold Em at h
 cases h1:jH l with
 | inl e=>rw[h1] at h;cases h
 | inr p=>
  obtain⟨v,s⟩:=p
  rw[h1] at h
  dsimp only[pB] at h
  split at h
  .cases h
  .split at h
   .cases h
   .cases h;omega
theorem MT{β:Type}{f:Nat->Nat->Option (List Int×Int×Int×Bool×Int×Int×Int)}{p:PR Aaa}{g:Nat->Nat->(List Int×Int×Int×Bool×Int×Int×Int)->Option β}{P:β->Prop}(h:aD f (aBO p))(k1:∀e b x y u v,p=.inl e->aD (λn m=>g n m (b,x,y,true,e,u,v)) P)(k2:∀a r x y w,p=.inr (a,r)->aD (λn m=>g n m (r,x,y,false,w,a.X,a.Y)) P): aD (λn m=>Av.bnd (f n m) (g n m)) P:=by
 refine bF h λz hz=>?_
 obtain⟨b,x,y,c,w,u,v⟩:=z
 cases p with
 | inl e=>
  obtain⟨rfl,rfl⟩:=hz
  exact k1 _ b x y u v rfl
 | inr q=>
  obtain⟨rfl,rfl,hz⟩:=hz
  cases hz
  exact k2 q.1 q.2 x y w rfl
def LP(acc:List Aaa)(p:PR (List Aaa))(z:(List Int×List Aaa×Int×Int×Int)⊕(List Int×List Aaa)): Prop:=match p with
 | .inl e=>∃t,z=.inl t/\t.2.2.2.2=e
 | .inr (ps,r)=>z=.inr (r,acc++ps)
theorem K7: ∀(c:Nat) (g:Int) (l:List Int) (acc:List Aaa),g=(c:Int)->qW l->acc.length+c<=1000->aD (λn m=>uC codec_ReadTxn?_L20_B n m () (l,acc,g)) (LP acc (Bw c l))
 | 0,g,l,acc,hg,h,hc=>eV (aE (λq=>by have q:=of_decide_eq_true q;omega) λ_=>aC (by show _=_;simp))
 | c+1,g,l,acc,hg,h,hc=>by
  refine eV (aE (λ_=>MT (K8 h) (λe b x y u v h1=>?_) λa r x y w h1=>?_) λq=>by have q:=of_decide_eq_false q;omega)
  .unfold Bw;rw[h1];exact tt ⟨_,rfl,rfl⟩
  .refine tf (aL (pK (by simp;omega)) ?_)
   have e:wr (g-1)=(c:Int):=by rw[wr,i64_in _ (by omega)];omega
   rw[e]
   refine (K7 c _ r (acc++[⟨a.X,a.Y⟩]) rfl (iK (Mf h) h1) (by simp;omega)).imp λz hz=>?_
   unfold Bw;rw[h1];dsimp only[pB]
   cases hp:Bw c r with
   | inl e=>rw[hp] at hz;exact hz
   | inr q=>
    rw[hp] at hz
    have hz:z=_:=hz
    show z=_
    rw[hz,List.append_assoc];rfl
def P16(p:PR (List Aaa))(z:(List Int×List Aaa×Int)⊕(List Int×List Aaa×Int×Int×Int)⊕(List Int×List Aaa)): Prop:=match p with
 | .inl e=>(match z with | .inl t=>t.2.2=e | .inr (.inl t)=>t.2.2.2.2=e | .inr (.inr _)=>False)
 | .inr (v,r)=>z=.inr (.inr (r,v))
theorem aBW{l:List Int}(h:qW l): aD (λn _=>codec_ReadTxn?_I16 n l) (P16 (qC l)):=by
 refine eG (MS (aCc h) (λe b a h1=>?_) λc r h1=>?_)
 .unfold qC;rw[h1];exact tt rfl
 .unfold qC;rw[h1]
  dsimp only[pB]
  obtain⟨c1,c2⟩:=sH h1
  obtain⟨k,rfl⟩:∃k:Nat,c=k:=⟨c.toNat,by omega⟩
  rw[Int.toNat_natCast]
  obtain⟨z,hz,hT⟩:=(cO (K7 k _ r [] rfl (iK (tY h) h1) (by simp;omega))).val
  refine tf (uS hT ?_)
  cases hp:Bw k r with
  | inl e=>
   rw[hp] at hz
   obtain⟨t,rfl,rfl⟩:=hz
   exact aC rfl
  | inr q=>
   rw[hp] at hz
   have hz:z=_:=hz
   subst hz
   simp only[qS]
   exact aC rfl
def P10{A B C D G:Type}(ea:A->Int)(eb:B->Int)(ec:C->Int)(ed:D->Int)(gl:G->List Int)(gf:G->Bool)(ge:G->Int)(gx:G->aP)(p:PR aP)(z:A⊕B⊕C⊕D⊕G): Prop:=match p with
 | .inl e=>(match z with | .inl t=>ea t=e | .inr (.inl t)=>eb t=e | .inr (.inr (.inl t))=>ec t=e | .inr (.inr (.inr (.inl t)))=>ed t=e | .inr (.inr (.inr (.inr t)))=>gf t=true/\ge t=e)
 | .inr (x,r)=>∃t,z=.inr (.inr (.inr (.inr t)))/\gl t=r/\gf t=false/\gx t=x
theorem Z7{l:List Int}(h:qW l): aD (λn _=>codec_ReadTxn?_I10 n l) (P10 (λt=>t.2.2.2.2.2.2.1) (λt=>t.2.2.2.2.2.2.2.2.2.1) (λt=>t.2.2.2.2.2.2.2.2.2.2.2.2.1) (λt=>t.2.2.2.2.2.2.2.2.2.2.2.2.2.2.1) (λt=>t.1) (λt=>t.2.2.2.2.2.2.2.2.2.2.2.2.2.1) (λt=>t.2.2.2.2.2.2.2.2.2.2.2.2.2.2.1) (λt=>let u:=t.2.2.2.2.2.2.2.2.2.2.2.2.2.2.2;⟨u.1,u.2.1,u.2.2.1,u.2.2.2.1,u.2.2.2.2.1,⟨u.2.2.2.2.2.1,u.2.2.2.2.2.2.1⟩,u.2.2.2.2.2.2.2.1,u.2.2.2.2.2.2.2.2.1,u.2.2.2.2.2.2.2.2.2⟩) (nG l)):=by
 refine eG (aD.it (Qf h) (λe h1=>?_) λx1 r1 h1=>?_)
 .unfold nG;rw[h1];exact tt rfl
 have o1:=iK (cK h) h1
 refine tf (aD.it (Qf o1) (λe h2=>?_) λx2 r2 h2=>?_)
 .unfold nG;rw[h1];dsimp only[pB];rw[h2];exact tt rfl
 have o2:=iK (cK o1) h2
 refine tf (aD.it (Qf o2) (λe h3=>?_) λx3 r3 h3=>?_)
 .unfold nG;rw[h1];dsimp only[pB];rw[h2];dsimp only;rw[h3];exact tt rfl
 have o3:=iK (cK o2) h3
 refine tf (aD.it (Qf o3) (λe h4=>?_) λx4 r4 h4=>?_)
 .unfold nG;rw[h1];dsimp only[pB];rw[h2];dsimp only;rw[h3];dsimp only;rw[h4];exact tt rfl
 have o4:=iK (cK o3) h4
 refine tf (aD.it (Qf o4) (λe h5=>?_) λx5 r5 h5=>?_)
 .unfold nG;rw[h1];dsimp only[pB];rw[h2];dsimp only;rw[h3];dsimp only;rw[h4];dsimp only;rw[h5];exact tt rfl
 have o5:=iK (cK o4) h5
 have e5:nG l=pB (TI r5) λp r=>pB (qC r) λv r=>pB (qB r) λs r=>pB (wL r) λq r=>.inr (⟨x1,x2,x3,x4,x5,p,v,s,q⟩,r):=by
  unfold nG;rw[h1];dsimp only[pB];rw[h2];dsimp only;rw[h3];dsimp only;rw[h4];dsimp only;rw[h5]
 rw[e5]
 refine tf (MT (K8 o5) (λe b x y u v h6=>?_) λa r6 x y w h6=>?_)
 .rw[h6];exact tt rfl
 have o6:=iK (Mf o5) h6
 rw[h6]
 dsimp only[pB]
 obtain⟨z,hz,hT⟩:=(aBW o6).val
 refine tf (uS hT ?_)
 cases h7:qC r6 with
 | inl e=>
  rw[h7] at hz
  rcases z with t | t | t
  .exact aC hz
  .simp only[eT,eE];exact aC hz
  .exact hz.elim
 | inr q=>
  obtain⟨vi,r7⟩:=q
  rw[h7] at hz
  have hz:z=_:=hz
  subst hz
  have o7:=iK (Bx o6) h7
  simp only[eE,qS]
  refine aD.it (aBQ o7) (λe h8=>?_) λs r8 h8=>?_
  .rw[h8];exact tt ⟨rfl,rfl⟩
  have o8:=iK (oT o7) h8
  rw[h8]
  dsimp only
  refine tf (aD.it (aBU o8) (λe h9=>?_) λq r9 h9=>?_)
  .rw[h9];exact tt ⟨rfl,rfl⟩
  .rw[h9];exact tf (aC ⟨_,rfl,rfl,rfl,rfl⟩)
def l9m(n m:Nat)(p:Int×Int×Int×ByteArray)(q:List Int×List aP×Int):=OR (λk q=>codec_ReadTxn?_L9_B n p k (λt=>some (Sum.inl t),λt=>some (Sum.inr (Sum.inl t)),λt=>some (Sum.inr (Sum.inr (Sum.inl t))),λt=>some (Sum.inr (Sum.inr (Sum.inr (Sum.inl t)))),λt=>some (Sum.inr (Sum.inr (Sum.inr (Sum.inr (Sum.inl t))))),λt=>some (Sum.inr (Sum.inr (Sum.inr (Sum.inr (Sum.inr t))))),()) q) m q
def P9{A B C D E F:Type}(ea:A->Int)(eb:B->Int)(ec:C->Int)(ed:D->Int)(ee:E->Int)(gl:F->List Int)(gx:F->List aP)(acc:List aP)(p:PR (List aP))(z:A⊕B⊕C⊕D⊕E⊕F): Prop:=match p with
 | .inl e=>(match z with | .inl t=>ea t=e | .inr (.inl t)=>eb t=e | .inr (.inr (.inl t))=>ec t=e | .inr (.inr (.inr (.inl t)))=>ed t=e | .inr (.inr (.inr (.inr (.inl t))))=>ee t=e | .inr (.inr (.inr (.inr (.inr _))))=>False)
 | .inr (xs,r)=>∃t,z=.inr (.inr (.inr (.inr (.inr t))))/\gl t=r/\gx t=acc++xs
theorem E7{A B C D E F:Type}{ea:A->Int}{eb:B->Int}{ec:C->Int}{ed:D->Int}{ee:E->Int}{gl:F->List Int}{gx:F->List aP}{acc:List aP}{x:aP}{p:PR (List aP)}{z:A⊕B⊕C⊕D⊕E⊕F}(h:P9 ea eb ec ed ee gl gx (acc++[x]) p z): P9 ea eb ec ed ee gl gx acc (pB p λps r=>.inr (x::ps,r)) z:=by
 cases p with
 | inl e=>exact h
 | inr q=>
  obtain⟨t,h1,h2,h3⟩:=h
  exact⟨t,h1,h2,by rw[h3,List.append_assoc];rfl⟩
theorem tt2{α:Type}{P:α->Prop}{x y:Nat->Nat->Option α}(h:aD x P): aD (λn m=>cnd true (x n m) (y n m)) P:=h
theorem gd9(a b c:Int)(d:ByteArray)(r:List aP): vF ((decide ((a:Int)=a)&&(decide ((b:Int)=b)&&(decide ((c:Int)=c)&&(decide ((d:ByteArray)=d)&&(decide (List.length r=List.length r)&&true)))))&&true)=some ():=by simp[vF]
theorem K6(pp:Int×Int×Int×ByteArray): ∀(c:Nat) (g:Int) (l:List Int) (acc:List aP),g=(c:Int)->qW l->acc.length+c<=1000->aD (λn m=>l9m n m pp (l,acc,g)) (P9 (λt=>t.2.2.2.2.2.2.2) (λt=>t.2.2.2.2.2.2.2.2.2.2) (λt=>t.2.2.2.2.2.2.2.2.2.2.2.2.2) (λt=>t.2.2.2.2.2.2.2.2.2.2.2.2.2.2.2) (λt=>t.2.2.2.2.2.2.2.2.2.2.2.2.2.2) (λt=>t.1) (λt=>t.2) acc (hP c l))
 | 0,g,l,acc,hg,h,hc=>aD.lp (g:=λn m=>codec_ReadTxn?_L9_B n pp (λq=>l9m n m pp q) (λt=>some (Sum.inl t),λt=>some (Sum.inr (Sum.inl t)),λt=>some (Sum.inr (Sum.inr (Sum.inl t))),λt=>some (Sum.inr (Sum.inr (Sum.inr (Sum.inl t)))),λt=>some (Sum.inr (Sum.inr (Sum.inr (Sum.inr (Sum.inl t))))),λt=>some (Sum.inr (Sum.inr (Sum.inr (Sum.inr (Sum.inr t))))),()) (l,acc,g)) (λ_ _=>rfl) (aE (λq=>by have q:=of_decide_eq_true q;omega) λ_=>aC ⟨_,rfl,rfl,by simp⟩)
 | c+1,g,l,acc,hg,h,hc=>by
  refine aD.lp (g:=λn m=>codec_ReadTxn?_L9_B n pp (λq=>l9m n m pp q) (λt=>some (Sum.inl t),λt=>some (Sum.inr (Sum.inl t)),λt=>some (Sum.inr (Sum.inr (Sum.inl t))),λt=>some (Sum.inr (Sum.inr (Sum.inr (Sum.inl t)))),λt=>some (Sum.inr (Sum.inr (Sum.inr (Sum.inr (Sum.inl t))))),λt=>some (Sum.inr (Sum.inr (Sum.inr (Sum.inr (Sum.inr t))))),()) (l,acc,g)) (λ_ _=>rfl) ?_
  obtain⟨z,hz,hT⟩:=(Z7 h).val
  refine aE (λ_=>uS hT ?_) λq=>by have q:=of_decide_eq_false q;omega
  unfold hP
  cases hp:nG l with
  | inl e=>
   rw[hp] at hz
   rcases z with t | t | t | t | t
   .exact aL (gd9 _ _ _ _ _) (aC hz)
   .simp only[eT,eE,decide_true,Bool.and_self];exact aL (x:=()) rfl (aC hz)
   .simp only[eT,eE,decide_true,Bool.and_self];exact aL (x:=()) rfl (aC hz)
   .simp only[eT,eE,decide_true,Bool.and_self];exact aL (x:=()) rfl (aC hz)
   .simp only[eT,eE,qS,decide_true,Bool.and_self]
    obtain⟨z1,z2⟩:=hz
    dsimp only at z1 z2
    rw[z1]
    exact tt2 (aL (x:=()) rfl (aC z2))
  | inr q=>
   obtain⟨x,r⟩:=q
   rw[hp] at hz
   obtain⟨t,rfl,z1,z2,z3⟩:=hz
   simp only[eT,eE,qS,decide_true,Bool.and_self]
   dsimp only at z1 z2 z3
   rw[z2]
   refine tf (aL (x:=()) rfl (aL (pK (by simp;omega)) ?_))
   have e:wr (g-1)=(c:Int):=by rw[wr,i64_in _ (by omega)];omega
   rw[e,z1,z3]
   exact (K6 pp c _ r (acc++[x]) rfl (iK (Mh h) hp) (by simp;omega)).imp λz hz=>E7 hz
def P3{B C D E F:Type}(eb:B->Int)(ec:C->Int)(ed:D->Int)(ee:E->Int)(ef:F->Int)(p:PR eX)(z:(List Int×List aP×Int×Int×Int×ByteArray×Bool×Int×Int×Int×Int×ByteArray)⊕B⊕C⊕D⊕E⊕F): Prop:=match p with
 | .inl e=>(match z with | .inl t=>t.2.2.2.2.2.2.1=true/\t.2.2.2.2.2.2.2.1=e | .inr (.inl t)=>eb t=e | .inr (.inr (.inl t))=>ec t=e | .inr (.inr (.inr (.inl t)))=>ed t=e | .inr (.inr (.inr (.inr (.inl t))))=>ee t=e | .inr (.inr (.inr (.inr (.inr t))))=>ef t=e)
 | .inr (x,r)=>z=.inl (r,x.Edits,x.Office,x.Seq,x.Time,x.Source,false,0,x.Office,x.Seq,x.Time,x.Source)
theorem aBR{l:List Int}(h:qW l): aD (λn _=>codec_ReadTxn?_I3 n l) (P3 (λt=>t.2.2.2.2.2.2.2.2.2.2.2.1) (λt=>t.2.2.2.2.2.2.2.2.2.2.2.2.2.2.1) (λt=>t.2.2.2.2.2.2.2.2.2.2.2.2.2.2.2.2.2.1) (λt=>t.2.2.2.2.2.2.2.2.2.2.2.2.2.2.2.2.2.2.2.1) (λt=>t.2.2.2.2.2.2.2.2.2.2.2.2.2.2.2.2.2.2.1) (zO l)):=by
 refine eG (aD.it (Qf h) (λe h1=>?_) λx1 r1 h1=>?_)
 .unfold zO;rw[h1];exact tt ⟨rfl,rfl⟩
 have o1:=iK (cK h) h1
 refine tf (aD.it (Qf o1) (λe h2=>?_) λx2 r2 h2=>?_)
 .unfold zO;rw[h1];dsimp only[pB];rw[h2];exact tt ⟨rfl,rfl⟩
 have o2:=iK (cK o1) h2
 refine tf (aD.it (Qf o2) (λe h3=>?_) λx3 r3 h3=>?_)
 .unfold zO;rw[h1];dsimp only[pB];rw[h2];dsimp only;rw[h3];exact tt ⟨rfl,rfl⟩
 have o3:=iK (cK o2) h3
 refine tf (aD.it (aBQ o3) (λe h4=>?_) λx4 r4 h4=>?_)
 .unfold zO;rw[h1];dsimp only[pB];rw[h2];dsimp only;rw[h3];dsimp only;rw[h4];exact tt ⟨rfl,rfl⟩
 have o4:=iK (oT o3) h4
 have e4:zO l=pB (Em r4) λk r=>pB (hP k.toNat r) λes r=>.inr (⟨x1,x2,x3,x4,es⟩,r):=by
  unfold zO;rw[h1];dsimp only[pB];rw[h2];dsimp only;rw[h3];dsimp only;rw[h4]
 rw[e4]
 refine tf (MS (aCc o4) (λe b a h5=>?_) λc r5 h5=>?_)
 .rw[h5];exact tt ⟨rfl,rfl⟩
 have o5:=iK (tY o4) h5
 obtain⟨c1,c2⟩:=sH h5
 obtain⟨k,rfl⟩:∃k:Nat,c=k:=⟨c.toNat,by omega⟩
 rw[h5]
 dsimp only[pB]
 rw[Int.toNat_natCast]
 obtain⟨z,hz,hT⟩:=(cO (K6 (x1,x2,x3,x4) k _ r5 [] rfl o5 (by simp;omega))).val
 refine tf (uS hT ?_)
 cases hp:hP k r5 with
 | inl e=>
  rw[hp] at hz
  rcases z with t | t | t | t | t | t
  .exact aC hz
  .simp only[eT,eE];exact aC hz
  .simp only[eT,eE];exact aC hz
  .simp only[eT,eE];exact aC hz
  .simp only[eT,eE];exact aC hz
  .exact hz.elim
 | inr q=>
  obtain⟨xs,r⟩:=q
  rw[hp] at hz
  obtain⟨t,rfl,z1,z2⟩:=hz
  simp only[eT,eE,qS]
  rw[List.nil_append] at z2
  dsimp only at z1 z2
  refine aC ?_
  show _=_
  rw[<-z1,<-z2]
def Dc(a:List Int): List Int×Int:=if a.length<4 then ([],5) else if a.drop (a.length-4)=BM (Xp (a.take (a.length-4))) then (a.take (a.length-4),0) else ([],6)
theorem WG{a:List Int}{k:Nat}(h:k<=a.length): Ht a 0 (k:Int)=some (a.take k):=by
 unfold Ht
 rw[if_pos ⟨by omega,by omega,by omega⟩,Int.toNat_natCast];rfl
theorem wr4{a:List Int}(h:4<=a.length)(h6:a.length<=990000): wr (ln a-4)=((a.length-4:Nat):Int):=by rw[wr,i64_in _ (by simp only[ln];omega)];simp only[ln];omega
theorem R6(l:List Int)(hl:l.length<=990000): aD (λn _=>xG n l) λb=>[b.e0,b.e1,b.e2,b.e3]=BM (Xp l):=by
 refine bN (λ_=>rfl) (aD.e (aA3 l (by omega)) (aL g24.1 (aL g24.2.1 (aL g24.2.2 (aC ?_)))))
 show[_,_,_,_]=BM _
 rw[EW .u32 _ 16777216 24 (by decide),EW .u32 _ 65536 16 (by decide),EW .u32 _ 256 8 (by decide),M1]
 rfl
theorem aAZ{l:List Int}(h:l.length=4): ∃a b c d,l=[a,b,c,d]:=by
 match l,h with
 | [a,b,c,d],_=>exact⟨a,b,c,d,rfl⟩
theorem Y9(a:List Int)(h6:a.length<=990000): Ev (λn=>xH n a) (Dc a):=by
 refine bN (λ_=>rfl) (aE (λq=>aC ?_) λq=>?_)
 .have q:=of_decide_eq_true q
  unfold Dc;rw[if_pos (by simp only[ln] at q;omega)]
 .have q:=of_decide_eq_false q
  have h4:4<=a.length:=by simp only[ln] at q;omega
  unfold Dc
  rw[if_neg (by omega),wr4 h4 h6]
  refine aL (WG (by omega)) (bF (R6 _ (by rw[List.length_take];omega)) λb hb=>aL (uO (by omega)) ?_)
  obtain⟨x,y,z,w,hd⟩:=aAZ (l:=a.drop (a.length-4)) (by rw[List.length_drop];omega)
  rw[hd]
  refine aL (x:=x) rfl (aL (x:=y) rfl (aL (x:=z) rfl (aL (x:=w) rfl (aE (λk=>?_) λk=>aC ?_))))
  .have k:=of_decide_eq_true k
   rw[if_pos (by rw[<-hb,k])]
   refine aD.e (.mk 1 λn hn=>by
    obtain⟨n,rfl⟩:∃k,n=k+1:=⟨n-1,by omega⟩
    exact pK (by simp;omega)) (aC (by rw[List.nil_append]))
  .have k:=of_decide_eq_false k
   rw[if_neg]
   intro e
   rw[<-hb] at e
   simp only[List.cons.injEq,and_true] at e
   apply k
   obtain⟨b0,b1,b2,b3⟩:=b
   simp only at e
   rw[e.1,e.2.1,e.2.2.1,e.2.2.2]
theorem Y3(a b:List Int)(ha:a.length<=990000): Ev (λn=>Px n a b) (decide (a=b)):=by
 refine bN (λ_=>rfl) (aE (λh=>aC ?_) λh=>?_)
 .have h:ln a≠ln b:=by simpa using h
  exact (decide_eq_false λe=>h (by rw[e])).symm
 .have h:ln a=ln b:=by simpa using h
  have hl:a.length=b.length:=by simp only[ln] at h;omega
  have L:∀i:Nat,i<=a.length->a.take i=b.take i->aD (λn m=>uC fL n m (a,b) (i:Int)) (Su (λ_=>a≠b) λ_=>a=b):=λi=>iW (N:=a.length) (T:=λi=>i<=a.length->a.take i=b.take i->aD (λn m=>uC fL n m (a,b) (i:Int)) (Su (λ_=>a≠b) λ_=>a=b)) (λi ih hi ht=>eV (jL (λx hx hlt=>by
   have hb:i<b.length:=by omega
   refine aL (jJ hb) (aE (λq=>aC ?_) λq=>?_)
   .have q:x≠b[i]:=by simpa using q
    intro e
    apply q
    subst e
    have:=List.getElem?_eq_getElem hlt
    rw[hx] at this;cases this;rfl
   .have q:x=b[i]:=by simpa using q
    rw[oM (by omega)]
    refine ih hlt (by omega) ?_
    rw[List.take_succ,List.take_succ,ht,hx,List.getElem?_eq_getElem hb,q]) λhge=>aC (by
   show a=b
   rw[<-List.take_of_length_le hge,ht,List.take_of_length_le (by omega)]))) i
  exact cM (cO (L 0 (by omega) rfl)) (λ_ h=>aC (decide_eq_false h).symm) λ_ h=>aL rfl (aC (decide_eq_true h).symm)
theorem E5(a:List Int)(h6:a.length<=990000): Ev (λn=>Py n a) (Dc a):=by
 refine bN (λ_=>rfl) (aE (λq=>aC ?_) λq=>?_)
 .have q:=of_decide_eq_true q
  have e:wr (ln a-4)=ln a-4:=i64_in _ (by simp only[ln];omega)
  rw[e] at q
  unfold Dc;rw[if_pos (by simp only[ln] at q;omega)]
 .have q:=of_decide_eq_false q
  have e:wr (ln a-4)=ln a-4:=i64_in _ (by simp only[ln];omega)
  rw[e] at q
  have h4:4<=a.length:=by simp only[ln] at q;omega
  unfold Dc
  rw[if_neg (by omega),wr4 h4 h6]
  refine aL (WG (by omega)) (aD.e (aCa _ (by rw[List.length_take];omega)) ?_)
  have hc:=MH (a.take (a.length-4))
  rw[zQ,show ((Xp (a.take (a.length-4)):Nat):Int) % 18446744073709551616=((Xp (a.take (a.length-4)):Nat):Int) by omega]
  refine aD.e (F3 _) (aL (uO (by omega)) (aD.e (Y3 _ _ (by simp[BM])) (aE (λk=>?_) λk=>aC ?_)))
  .have k:=of_decide_eq_true k
   rw[if_pos k.symm]
   refine aL (WG (by omega)) (aE (λe=>aC ?_) λe=>aL (pK (by simp;omega)) (aC rfl))
   rw[List.isEmpty_iff.1 e]
  .have k:=of_decide_eq_false k
   rw[if_neg λe=>k e.symm]
def eQ: List aP->Int
 | []=>0
 | x::l=>if Bc x=0 then eQ l else Bc x
theorem J2{l:List aP}{i:Nat}{x:aP}(h:l[i]?=some x): eQ (l.drop i)=if Bc x=0 then eQ (l.drop (i+1)) else Bc x:=by
 obtain⟨h1,h2⟩:=List.getElem?_eq_some_iff.1 h
 rw[List.drop_eq_getElem_cons h1,h2,eQ]
def z0: eX:=eX.mk 0 0 0 ⟨#[]⟩ []
def GY(t:eX)(r:List Int): eX×Int:=if r.length > 0 then (z0,4) else if eQ t.Edits=0 then (t,0) else (z0,eQ t.Edits)
def aBx(p:PR eX): eX×Int:=match p with
 | .inl e=>(z0,e)
 | .inr (t,r)=>GY t r
def FH(a:List Int): eX×Int:=if a.length > 1048576 then (z0,3) else if (Dc a).2≠0 then (z0,(Dc a).2) else aBx (zO (Dc a).1)
theorem aBM(a b c:Int)(d:ByteArray)(es:List aP)(hl:es.length<=100000)(i:Nat): ∀x:Int,aD (λn m=>uC codec_ReadTxn?_L27_B n m (a,b,c,d,es,ln es) (x,(i:Int))) (Su (λt=>t.1=⟨#[]⟩/\t.2.1=eQ (es.drop i)/\t.2.1≠0) λ_=>eQ (es.drop i)=0):=
 iW (N:=es.length) (T:=λi=>∀x:Int,aD (λn m=>uC codec_ReadTxn?_L27_B n m (a,b,c,d,es,ln es) (x,(i:Int))) (Su (λt=>t.1=⟨#[]⟩/\t.2.1=eQ (es.drop i)/\t.2.1≠0) λ_=>eQ (es.drop i)=0)) (λi ih x=>eV (aE (λh=>by
  have h:(i:Int)<ln es:=of_decide_eq_true h
  have hi:i<es.length:=by simp only[ln] at h;omega
  have hx:=List.getElem?_eq_getElem hi
  refine aL (x:=es[i]) (by unfold GT;rw[if_pos ⟨by omega,by simpa using hi⟩,Int.toNat_natCast];exact hx) (aL (jJ hi) (aD.e (XT _) ?_))
  rw[J2 hx]
  refine aE (λq=>aC ?_) λq=>?_
  .have q:Bc es[i]≠0:=by simpa using q
   rw[if_neg q];exact⟨rfl,rfl,q⟩
  .have q:Bc es[i]=0:=by simpa using q
   rw[if_pos q,oM (by omega)]
   exact ih hi _) λh=>aC (by
  have h:¬(i:Int)<ln es:=of_decide_eq_false h
  show eQ (es.drop i)=0
  rw[List.drop_eq_nil_of_le (by simp only[ln] at h;omega)];rfl))) i
def aB2{A B C D E F G H R:Type}(fa:A->R)(fb:B->R)(fc:C->R)(fd:D->R)(fe:E->R)(ff:F->R)(fg:G->R)(fh:H->R)(z:A⊕B⊕C⊕D⊕E⊕F⊕G⊕H): R:=match z with
 | .inl t=>fa t
 | .inr (.inl t)=>fb t
 | .inr (.inr (.inl t))=>fc t
 | .inr (.inr (.inr (.inl t)))=>fd t
 | .inr (.inr (.inr (.inr (.inl t))))=>fe t
 | .inr (.inr (.inr (.inr (.inr (.inl t)))))=>ff t
 | .inr (.inr (.inr (.inr (.inr (.inr (.inl t))))))=>fg t
 | .inr (.inr (.inr (.inr (.inr (.inr (.inr t))))))=>fh t
theorem Ap: ∀(c:Nat) {l r:List Int} {es:List aP},hP c l=.inr (es,r)->es.length=c
 | 0,l,r,es,h=>by cases h;rfl
 | c+1,l,r,es,h=>by
  unfold hP at h
  cases h1:nG l with
  | inl e=>rw[h1] at h;cases h
  | inr p=>
   obtain⟨x,s⟩:=p
   rw[h1] at h
   dsimp only[pB] at h
   cases h2:hP c s with
   | inl e=>rw[h2] at h;cases h
   | inr q=>
    obtain⟨xs,s'⟩:=q
    rw[h2] at h
    cases h
    simp[Ap c h2]
theorem dJ{α β:Type}{p:PR α}{f:α->List Int->PR β}{y:β×List Int}(h:pB p f=.inr y): ∃a r,p=.inr (a,r)/\f a r=.inr y:=by
 cases p with
 | inl e=>cases h
 | inr q=>exact⟨q.1,q.2,rfl,h⟩
theorem AQ{l r:List Int}{t:eX}(h:zO l=.inr (t,r)): t.Edits.length<=64:=by
 unfold zO at h
 obtain⟨_,_,_,h⟩:=dJ h
 obtain⟨_,_,_,h⟩:=dJ h
 obtain⟨_,_,_,h⟩:=dJ h
 obtain⟨_,_,_,h⟩:=dJ h
 obtain⟨c,_,h1,h⟩:=dJ h
 obtain⟨es,_,h2,h⟩:=dJ h
 cases h
 have:=Ap _ h2
 have:=sH h1
 show es.length<=64
 omega
theorem aBS(a:List Int)(h6:a.length<=990000): Ev (λn=>codec_ReadTxn?_I2 n a) (if a.length > 1048576 then .inl 3 else if (Dc a).2≠0 then .inl (Dc a).2 else .inr (Dc a).1):=by
 refine eG (aE (λq=>?_) λq=>?_)
 .have q:=of_decide_eq_true q
  simp only[ln] at q;omega
 .rw[if_neg (by omega)]
  refine aD.e (Y9 a h6) (aE (λk=>?_) λk=>aC ?_)
  .have k:(Dc a).2≠0:=by simpa using k
   rw[if_pos k]
   exact aE (λ_=>aC rfl) λ_=>aC rfl
  .have k:(Dc a).2=0:=by simpa using k
   rw[if_neg (by simp[k])]
theorem Z6(a:List Int): Ev (λn=>codec_ReadTxn?_I26 n a) (if a.length > 0 then (true,4) else (false,0)):=by
 refine eG (aE (λq=>aC ?_) λq=>aC ?_)
 .have q:=of_decide_eq_true q
  rw[if_pos (by simp only[ln] at q;omega)]
 .have q:=of_decide_eq_false q
  rw[if_neg (by simp only[ln] at q;omega)]
theorem HH{a:List Int}(hb:sB a)(h6:a.length<=990000)(h:(Dc a).2=0): qW (Dc a).1:=by
 unfold Dc at h |-
 split
 .rename_i q;rw[if_pos q] at h;cases h
 .rename_i q
  rw[if_neg q] at h
  split
  .exact⟨hb.take _,by show (a.take _).length<=_;rw[List.length_take];omega⟩
  .rename_i k;rw[if_neg k] at h;cases h
def Qx(z:eX)(f:Bool)(e:Int)(t:eX×Int): eX×Int:=if f then (z,e) else t
theorem aBV(a:List Int)(hb:sB a)(h6:a.length<=990000): aD (λn _=>codec_ReadTxn?_I1 n a) (λz=>aB2 (λb=>(z0,b.2.2.2.2)) (λd=>(z0,d.2.2.2.2.2.2.2.2.2.2)) (λg=>Qx z0 g.2.2.2.2.2.2.2.2.2.2.1 g.2.2.2.2.2.2.2.2.2.2.2 ((eX.mk g.1 g.2.1 g.2.2.1 g.2.2.2.1 g.2.2.2.2.2.1),0)) (λi=>Qx z0 i.2.2.2.2.2.2.2.2.2.2.2.2.1 i.2.2.2.2.2.2.2.2.2.2.2.2.2 ((eX.mk i.1 i.2.1 i.2.2.1 i.2.2.2.1 []),i.2.2.2.2.1)) (λl=>(z0,l.2.2.2.2.2.2.2.2.2.2.2.2.2)) (λo=>(z0,o.2.2.2.2.2.2.2.2.2.2.2.2.2.2)) (λs=>(z0,s.2.2.2.2.2.2.2.2.2.2.2.2.2.2.2.2)) (λu=>(z0,u.2.2.2.2.2.2.2.2.2.2.2.2.2)) z=FH a):=by
 unfold FH
 rw[if_neg (by omega)]
 have h2:=aBS a h6
 rw[if_neg (by omega)] at h2
 refine eG ?_
 by_cases ho:(Dc a).2≠0
 .rw[if_pos ho] at h2 |-
  refine uS h2 ?_
  exact aC rfl
 .rw[if_neg ho] at h2 |-
  have hk:=HH hb h6 (by simpa using ho)
  refine uS h2 ?_
  simp only[qS]
  obtain⟨z,hz,hT⟩:=(aBR hk).val
  refine uS hT ?_
  cases hp:zO (Dc a).1 with
  | inl e=>
   rw[hp] at hz
   rcases z with t | t | t | t | t | t
   .obtain⟨z1,z2⟩:=hz
    simp only
    rw[z1]
    refine tt ?_
    show (z0,_)=(z0,e)
    rw[<-z2]
   .simp only[eT,eE];refine aC ?_;show (z0,_)=(z0,e);rw[<-show _=e from hz]
   .simp only[eT,eE];refine aC ?_;show (z0,_)=(z0,e);rw[<-show _=e from hz]
   .simp only[eT,eE];refine aC ?_;show (z0,_)=(z0,e);rw[<-show _=e from hz]
   .simp only[eT,eE];refine aC ?_;show (z0,_)=(z0,e);rw[<-show _=e from hz]
   .simp only[eT,eE,qS];refine aC ?_;show (z0,_)=(z0,e);rw[<-show _=e from hz]
  | inr q=>
   obtain⟨t,r⟩:=q
   rw[hp] at hz
   have hz:z=_:=hz
   subst hz
   have hl:=AQ hp
   refine tf ?_
   show aD _ (λz=>aB2 _ _ _ _ _ _ _ _ z=GY t r)
   unfold GY
   refine aD.e (Z6 r) ?_
   by_cases hr:r.length > 0
   .rw[if_pos hr,if_pos hr];exact tt rfl
   .rw[if_neg hr,if_neg hr]
    refine tf ?_
    obtain⟨y,hy,hY⟩:=(cO (aBM t.Office t.Seq t.Time t.Source t.Edits (by omega) 0 0)).val
    rw[List.drop_zero] at hy
    refine uS hY ?_
    cases y with
    | inl x=>
     obtain⟨y1,y2,y3⟩:=hy
     rw[if_neg (by rw[<-y2];exact y3)]
     refine aC ?_
     show ((eX.mk 0 0 0 x.1 []),x.2.1)=(z0,_)
     rw[y1,y2];rfl
    | inr x=>
     have hy:eQ t.Edits=0:=hy
     rw[if_pos hy]
     simp only[qS]
     exact aC rfl
theorem QH(a:List Int)(hb:sB a)(h6:a.length<=990000): Ev (λn=>codec_ReadTxn? n a) (FH a):=by
 obtain⟨z,hz,hT⟩:=(aBV a hb h6).val
 refine bN (λ_=>rfl) (uS hT ?_)
 rcases z with t | t | t | t | t | t | t | t
 .exact aC hz
 .simp only[eT,eE];exact aC hz
 .simp only[eT,eE]
  refine aE (λh=>aC ?_) λh=>aC ?_
  .rw[<-hz];show _=Qx _ _ _ _;unfold Qx;rw[h];rfl
  .rw[<-hz];show _=Qx _ _ _ _;unfold Qx;rw[h];rfl
 .simp only[eT,eE]
  refine aE (λh=>aC ?_) λh=>aC ?_
  .rw[<-hz];show _=Qx _ _ _ _;unfold Qx;rw[h];rfl
  .rw[<-hz];show _=Qx _ _ _ _;unfold Qx;rw[h];rfl
 .simp only[eT,eE];exact aC hz
 .simp only[eT,eE];exact aC hz
 .simp only[eT,eE];exact aC hz
 .simp only[eT,eE,qS];exact aC hz
def Rz{α:Type}(p:PR α)(z:α×aO): Prop:=match p with
 | .inl e=>z.2.e=e
 | .inr (a,r)=>z=(a,⟨r,0⟩)
theorem ST{α:Type}{a:α}{l:List Int}{u e:Int}(h:QF l u e)(h0:e≠0->u=0): aD (λ_ _=>bnd (Ht l u (ln l)) λc=>some (a,(aO.mk c e))) (Rz (YB l a u e)):=by
 unfold YB
 by_cases q:e≠0
 .rw[if_pos q,h0 q]
  exact aL (x:=l.drop 0) (uO (k:=0) (by omega)) (aC rfl)
 .have q:e=0:=by simpa using q
  obtain⟨k,rfl,hk⟩:=h q
  rw[if_neg (by simp[q]),q]
  exact aL (uO hk) (aC rfl)
theorem v8{l:List Int}(h:sB l)(e:(dB l).2.2≠0): (dB l).2.1=0:=by
 rcases pF h with q | q | ⟨v,k,q,_⟩<;>rw[q] at e |-
 exact (e rfl).elim
theorem WE{l:List Int}(h:sB l)(most:Nat)(e:(pE l most).2.2≠0): (pE l most).2.1=0:=by
 unfold pE at e |-
 split
 .rfl
 .rename_i q
  rw[if_neg q] at e
  split
  .rfl
  .rename_i k
   rw[if_neg k] at e
   exact (e rfl).elim
theorem WF{l:List Int}(h:sB l)(most:Nat)(e:(mI l most).2.2≠0): (mI l most).2.1=0:=by
 unfold mI at e |-
 split
 .rfl
 .rename_i q
  rw[if_neg q] at e
  cases hp:pL (gL l most).1.toNat (l.drop (gL l most).2.1.toNat) with
  | inl e=>rfl
  | inr p=>
   obtain⟨vs,k⟩:=p
   rw[hp] at e
   exact (e rfl).elim
theorem aA9(r:aO)(h:qW r.b)(he:r.e=0): aD (λn _=>lO n r) (Rz (jH r.b)):=bN (λ_=>rfl) (aE (λq=>by rw[he] at q;simp at q) λ_=>aD.e (IA r.b h.b) (ST (Ul h.b) (v8 h.b)))
theorem aAA{l:List Int}(h:qW l): aD (λn _=>lO n ⟨l,0⟩) (Rz (jH l)):=aA9 ⟨l,0⟩ h rfl
theorem G6(r:aO)(h:r.e≠0): Ev (λn=>lO n r) (0,r):=bN (λ_=>rfl) (aE (λ_=>aC rfl) λq=>by simp at q;exact (h q).elim)
theorem N1(r:aO)(h:qW r.b)(he:r.e=0): aD (λn _=>pM n r) (Rz (qB r.b)):=bN (λ_=>rfl) (aE (λq=>by rw[he] at q;simp at q) λ_=>aD.e (E4 r.b h.b h.n 40 (by omega)) (ST (Og h.b 40) (WE h.b 40)))
theorem aA8{l:List Int}(h:qW l): aD (λn _=>pM n ⟨l,0⟩) (Rz (qB l)):=N1 ⟨l,0⟩ h rfl
theorem N0(r:aO)(h:r.e≠0): Ev (λn=>pM n r) (⟨#[]⟩,r):=bN (λ_=>rfl) (aE (λ_=>aC rfl) λq=>by simp at q;exact (h q).elim)
theorem N4(r:aO)(h:qW r.b)(he:r.e=0): aD (λn _=>tD n r 64) (Rz (wL r.b)):=bN (λ_=>rfl) (aE (λq=>by rw[he] at q;simp at q) λ_=>aD.e (E6 r.b h.b h.n 64 (by omega)) (ST (Oh h.b 64) (WF h.b 64)))
theorem aAB{l:List Int}(h:qW l): aD (λn _=>tD n ⟨l,0⟩ 64) (Rz (wL l)):=N4 ⟨l,0⟩ h rfl
theorem N3(r:aO)(h:r.e≠0): Ev (λn=>tD n r 64) ([],r):=bN (λ_=>rfl) (aE (λ_=>aC rfl) λq=>by simp at q;exact (h q).elim)
def Rs{α:Type}(f:Nat->aO->Option (α×aO))(p:List Int->PR α)(S:α->Prop): Prop:=
 (∀l,qW l->aD (λn _=>f n ⟨l,0⟩) λz=>Rz (p l) z/\S z.1)/\∀r:aO,r.e≠0->aD (λn _=>f n r) λz=>z.2.e=r.e/\S z.1
theorem Vo: Rs pM qB λ_=>True:=⟨λl h=>(aA8 h).imp λ_ h=>⟨h,trivial⟩,λr h=>(N0 r h).imp λ_ e=>by rw[e];exact⟨rfl,trivial⟩⟩
theorem ZO: Rs (λn r=>tD n r 64) wL λ_=>True:=⟨λl h=>(aAB h).imp λ_ h=>⟨h,trivial⟩,λr h=>(N3 r h).imp λ_ e=>by rw[e];exact⟨rfl,trivial⟩⟩
theorem Vp: Rs (λn r=>zG n r 64) Em λ_=>True:=by
 constructor
 .intro l h
  refine bN (λ_=>rfl) (bF (aAA h) λz hz=>?_)
  unfold Em
  have g:=cK h
  cases h1:jH l with
  | inl e=>
   rw[h1] at hz g
   have hz:z.2.e=e:=hz
   have g:e≠0:=g
   refine aE (λ_=>aC ⟨hz,trivial⟩) λq=>?_
   rw[hz] at q;simp at q;exact (g q).elim
  | inr p=>
   obtain⟨v,r⟩:=p
   rw[h1] at hz
   have hz:z=_:=hz
   subst hz
   dsimp only[pB]
   refine aE (λq=>by simp at q) λ_=>aE (λq=>aC ?_) λq=>aE (λk=>aC ?_) λk=>aC ?_
   .have q:v<0:=of_decide_eq_true q
    rw[if_pos q];exact⟨rfl,trivial⟩
   all_goals have q:¬v<0:=of_decide_eq_false q
   .have k:v > 64:=of_decide_eq_true k
    rw[if_neg q,if_pos k];exact⟨rfl,trivial⟩
   .have k:¬v > 64:=of_decide_eq_false k
    rw[if_neg q,if_neg k];exact⟨rfl,trivial⟩
 .intro r h
  refine bN (λ_=>rfl) (aD.e (G6 r h) (aE (λ_=>aC ⟨rfl,trivial⟩) λq=>?_))
  simp at q;exact (h q).elim
theorem Rs.bnd{α β γ:Type}{f:Nat->aO->Option (α×aO)}{p:List Int->PR α}{S:α->Prop}(h:Rs f p S){q:PR β}{P:γ->Prop}{K:Nat->Nat->α×aO->Option γ}{z:β×aO}(hg:Gd q)(hz:Rz q z)(k1:∀x:α×aO,(∀e,q=.inl e->x.2.e=e)->(∀b r,q=.inr (b,r)->z.1=b/\Rz (p r) x)->S x.1->aD (λn m=>K n m x) P): aD (λn m=>Av.bnd (f n z.2) (K n m)) P:=by
 cases q with
 | inl e=>
  have hz:z.2.e=e:=hz
  have hg:e≠0:=hg
  refine bF (h.2 z.2 (by rw[hz];exact hg)) λx hx=>k1 x (λe' he=>by cases he;rw[hx.1,hz]) (λ_ _ h=>by cases h) hx.2
 | inr y=>
  obtain⟨b,r⟩:=y
  have hz:z=_:=hz
  have hg:qW r:=hg
  subst hz
  refine bF (h.1 r hg) λx hx=>k1 x (λ_ h=>by cases h) (λb' r' he=>by cases he;exact⟨rfl,hx.1⟩) hx.2
theorem Rz.pB{α β γ:Type}{q:PR β}{p:List Int->PR α}{c:β->α->γ}{x:α×aO}{z:β}(h1:∀e,q=.inl e->x.2.e=e)(h2:∀b r,q=.inr (b,r)->z=b/\Rz (p r) x): Rz (Av.pB q λb r=>Av.pB (p r) λa r=>.inr (c b a,r)) (c z x.1,x.2):=by
 cases q with
 | inl e=>exact h1 e rfl
 | inr y=>
  obtain⟨b,r⟩:=y
  obtain⟨rfl,h⟩:=h2 b r rfl
  dsimp only[Av.pB]
  cases hp:p r with
  | inl e=>rw[hp] at h;exact h
  | inr w=>
   rw[hp] at h
   have h:x=_:=h
   subst h;rfl
def nF: Nat->List Int->PR (List Int)
 | 0,l=>.inr ([],l)
 | k+1,l=>pB (jH l) λv r=>pB (nF k r) λvs r=>.inr (v::vs,r)
theorem wK: ∀(c:Nat) {l:List Int},qW l->Gd (nF c l)
 | 0,l,h=>h
 | c+1,l,h=>fF (cK h) λ_ _ h=>fF (wK c h) λ_ _ h=>h
theorem YJ{g:Int}(h:0<=g/\g<=100000): wr (g+1)=g+1:=i64_in _ (by omega)
theorem Z1(k:Int): ∀(c:Nat) (d:aO) (f:List Int) (g:Int),g+c=k->0<=g->k<=1000->f.length+c<=1000->d.e≠0->aD (λn m=>Qj iQ n m k (d,f,g)) λz=>z.1.e=d.e/\z.2.length=f.length+c
 | 0,d,f,g,h1,h2,h3,h4,h5=>iC (aE (λq=>by have q:=of_decide_eq_true q;omega) λ_=>aC ⟨rfl,rfl⟩)
 | c+1,d,f,g,h1,h2,h3,h4,h5=>by
  refine iC (aE (λ_=>aD.e (G6 d h5) (aL (pK (by simp;omega)) ?_)) λq=>by have q:=of_decide_eq_false q;omega)
  rw[YJ ⟨h2,by omega⟩]
  exact (Z1 k c d (f++[0]) (g+1) (by omega) (by omega) h3 (by simp;omega) h5).imp λz hz=>⟨hz.1,by rw[hz.2];simp;omega⟩
def NR(f:List Int)(c:Nat)(p:PR (List Int))(z:aO×List Int): Prop:=z.2.length=f.length+c/\match p with
 | .inl e=>z.1.e=e
 | .inr (vs,r)=>z=(⟨r,0⟩,f++vs)
theorem aBI(k:Int): ∀(c:Nat) (l:List Int) (f:List Int) (g:Int),g+c=k->0<=g->k<=1000->f.length+c<=1000->qW l->aD (λn m=>Qj iQ n m k (⟨l,0⟩,f,g)) (NR f c (nF c l))
 | 0,l,f,g,h1,h2,h3,h4,h5=>iC (aE (λq=>by have q:=of_decide_eq_true q;omega) λ_=>aC ⟨rfl,by show _=_;simp⟩)
 | c+1,l,f,g,h1,h2,h3,h4,h5=>by
  refine iC (aE (λ_=>bF (aAA h5) λx hx=>aL (pK (by simp;omega)) ?_) λq=>by have q:=of_decide_eq_false q;omega)
  rw[YJ ⟨h2,by omega⟩]
  unfold nF
  have gd:=cK h5
  cases hp:jH l with
  | inl e=>
   rw[hp] at hx gd
   have hx:x.2.e=e:=hx
   have gd:e≠0:=gd
   refine (Z1 k c x.2 (f++[x.1]) (g+1) (by omega) (by omega) h3 (by simp;omega) (by rw[hx];exact gd)).imp λz hz=>⟨by rw[hz.2];simp;omega,?_⟩
   show z.1.e=e
   rw[hz.1,hx]
  | inr y=>
   obtain⟨v,r⟩:=y
   rw[hp] at hx
   have hx:x=_:=hx
   subst hx
   refine (aBI k c r (f++[v]) (g+1) (by omega) (by omega) h3 (by simp;omega) (iK (cK h5) hp)).imp λz hz=>⟨by rw[hz.1];simp;omega,?_⟩
   have hz:=hz.2
   dsimp only[pB]
   cases hq:nF c r with
   | inl e=>rw[hq] at hz;exact hz
   | inr w=>
    rw[hq] at hz
    have hz:z=_:=hz
    show z=_
    rw[hz,List.append_assoc];rfl
theorem Kc(k:Nat)(hk:k<=100): Rs (λn r=>mJ n r (k:Int)) (nF k) λvs=>vs.length=k:=by
 constructor
 .intro l h
  refine bN (λ_=>rfl) (bF (cO (aBI k k l [] 0 (by omega) (by omega) (by omega) (by simp;omega) h)) λz hz=>aC ?_)
  obtain⟨h1,h2⟩:=hz
  refine⟨?_,by simpa using h1⟩
  cases hq:nF k l with
  | inl e=>rw[hq] at h2;exact h2
  | inr w=>
   rw[hq] at h2
   have h2:z=_:=h2
   rw[h2];rfl
 .intro r h
  refine bN (λ_=>rfl) (bF (cO (Z1 k k r [] 0 (by omega) (by omega) (by omega) (by simp;omega) h)) λz hz=>aC ⟨hz.1,by simpa using hz.2⟩)
theorem Uu(d:aO)(v g:Int): Ev (λn=>xW n (d,v,g)) (decide (g<v)&&(d.e==0)):=by
 refine aE (λh=>?_) λh=>aC (by rw[h];rfl)
 rw[h,Bool.true_and]
 exact aE (λq=>aC q.symm) λq=>aC q.symm
def PR9{α:Type}(f:List α)(p:PR (List α))(z:aO×List α): Prop:=match p with
 | .inl e=>z.1.e=e
 | .inr (vs,r)=>z=(⟨r,0⟩,f++vs)
theorem two{l:List Int}(h:l.length=2): ∃a b,l=[a,b]:=by
 match l,h with
 | [a,b],_=>exact⟨a,b,rfl⟩
theorem aAR(l:List Int): TI l=pB (nF 2 l) λvs r=>.inr (⟨vs.getD 0 0,vs.getD 1 0⟩,r):=by
 unfold TI
 simp only[nF]
 cases jH l with
 | inl e=>rfl
 | inr p=>
  dsimp only[pB]
  cases jH p.2 with
  | inl e=>rfl
  | inr q=>rfl
theorem Y7(v:Int)(d:aO)(f:List Aaa)(g:Int)(h:d.e≠0): aD (λn m=>Qj lX n m v (d,f,g)) λz=>z=(d,f):=iC (aD.e (Uu d v g) (aE (λq=>by simp at q;exact (h q.2).elim) λ_=>aC rfl))
theorem aBE(v:Int): ∀(c:Nat) (l:List Int) (f:List Aaa) (g:Int),g+c=v->0<=g->v<=1000->f.length+c<=1000->qW l->aD (λn m=>Qj lX n m v (⟨l,0⟩,f,g)) (PR9 f (Bw c l))
 | 0,l,f,g,h1,h2,h3,h4,h5=>iC (aD.e (Uu _ v g) (aE (λq=>by simp at q;omega) λ_=>aC (by show _=_;simp)))
 | c+1,l,f,g,h1,h2,h3,h4,h5=>by
  refine iC (aD.e (Uu _ v g) (aE (λ_=>bF ((Kc 2 (by omega)).1 l h5) λx hx=>?_) λq=>?_))
  .obtain⟨hx,hl⟩:=hx
   obtain⟨a,b,hab⟩:=two hl
   rw[hab]
   refine aL (x:=a) rfl (aL (x:=b) rfl (aL (pK (by simp;omega)) ?_))
   rw[YJ ⟨h2,by omega⟩]
   unfold Bw
   rw[aAR]
   have gd:=wK 2 h5
   cases hp:nF 2 l with
   | inl e=>
    rw[hp] at hx gd
    have hx:x.2.e=e:=hx
    have gd:e≠0:=gd
    exact (Y7 v x.2 _ _ (by rw[hx];exact gd)).imp λz hz=>by rw[hz];exact hx
   | inr y=>
    obtain⟨vs,r⟩:=y
    rw[hp] at hx
    have hx:x=_:=hx
    subst hx
    have hab:vs=[a,b]:=hab
    subst hab
    refine (aBE v c r (f++[⟨a,b⟩]) (g+1) (by omega) (by omega) h3 (by simp;omega) (iK (wK 2 h5) hp)).imp λz hz=>?_
    dsimp only[pB]
    cases hq:Bw c r with
    | inl e=>rw[hq] at hz;exact hz
    | inr w=>
     rw[hq] at hz
     have hz:z=_:=hz
     show z=_
     rw[hz,List.append_assoc];rfl
  .simp at q;omega
theorem ZN: Rs Pd qC λ_=>True:=by
 constructor
 .intro l h
  refine bN (λ_=>rfl) (bF (Vp.1 l h) λz hz=>?_)
  have gd:=tY h
  unfold qC
  cases hp:Em l with
  | inl e=>
   rw[hp] at hz gd
   have hz:z.2.e=e:=hz.1
   have gd:e≠0:=gd
   exact bF (cO (Y7 z.1 z.2 [] 0 (by rw[hz];exact gd))) λx hx=>aC ⟨by rw[hx];exact hz,trivial⟩
  | inr y=>
   obtain⟨c,r⟩:=y
   rw[hp] at hz
   have hz:z=_:=hz.1
   subst hz
   obtain⟨c1,c2⟩:=sH hp
   obtain⟨k,rfl⟩:∃k:Nat,c=k:=⟨c.toNat,by omega⟩
   dsimp only[pB]
   rw[Int.toNat_natCast]
   refine bF (cO (aBE k k r [] 0 (by omega) (by omega) (by omega) (by simp;omega) (iK (tY h) hp))) λx hx=>aC ⟨?_,trivial⟩
   cases hq:Bw k r with
   | inl e=>rw[hq] at hx;exact hx
   | inr w=>
    rw[hq] at hx
    have hx:x=_:=hx
    rw[hx];rfl
 .intro r h
  refine bN (λ_=>rfl) (bF (Vp.2 r h) λz hz=>bF (cO (Y7 z.1 z.2 [] 0 (by rw[hz.1];exact h))) λx hx=>aC ⟨by rw[hx];exact hz.1,trivial⟩)
end
end Go.Proofs.YthadajkojciapaaGreatDoor.Av
