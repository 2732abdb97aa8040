/- A part of the proofs of laws of the chapter office: an evaluator of the program, proved sound, and what it says. -/
import Derived.Test.YtkdnaejhpcibnaaGreatDoorVoPl
import Derived.IntWalk
import Derived.Test.YtkdnaejhpcibnaaGreatDoorCards
import Derived.Test.YtkdnaejhpcibnaaGreatDoorVoJ1
set_option linter.unusedVariables false
set_option linter.unusedSimpArgs false
namespace Go.Proofs.YtkdnaejhpcibnaaGreatDoor.Av
open Go Go.IntWalk
theorem loops (n : Nat) (hn : 400 ≤ n) (a : GTxn) (hl : a.Edits.length ≤ 1000) : ∀ (d m i : Nat),i + d=a.Edits.length→d < m →
  (∃ t,uU n a m (i : Int)=some (.inl t)∧uT n a m (i : Int)=some (.inl t.2.2.2.2.2.2.2.2.2.2)) ∨ (uU n a m (i : Int)=some (.inr ())∧uT n a m (i : Int)=some (.inr ())):=by
 intro d
 induction d with
 | zero =>
  intro m i hi hm
  obtain ⟨m,rfl⟩ : ∃ z,m=z + 1:=⟨m - 1,by omega⟩
  right
  rw [uU,uT,decide_eq_false (by omega)]
  exact ⟨rfl,rfl⟩
 | succ d ih =>
  intro m i hi hm
  obtain ⟨m,rfl⟩ : ∃ z,m=z + 1:=⟨m - 1,by omega⟩
  have hlt : i < a.Edits.length:=by omega
  obtain ⟨v,h1,h2⟩:=bAz n a.Edits[i] hn
  have ih':=ih m (i + 1) (by omega) (by omega)
  rw [uU,uT,decide_eq_true (by omega)]
  simp only [cnd,kK (nI hlt),kK h1,kK h2,lE (show i < 100000 by omega)]
  cases (v != 0) with
  | true=>exact .inl ⟨_,rfl,rfl⟩
  | false=>exact ih'
theorem txns (n : Nat) (hn : 500 ≤ n) (a : GTxn) (hl : a.Edits.length ≤ 1000) (hm : 1001 ≤ n) : ∃ v,f22 (n + 1) a=some v∧f26 (n + 1) a=some v:=by
 have tail : ∃ v,(bnd2 (uU n a n 0) (fun v1930=>(some v1930.2.2.2.2.2.2.2.2.2.2)) (fun v1931=>(some 0)))=some v∧(bnd2 (uT n a n 0) (fun v3521=>(some v3521)) (fun v3522=>(some 0)))=some v:=by
  rcases loops n (by omega) a hl a.Edits.length n 0 (by omega) (by omega) with ⟨t,h1,h2⟩ | ⟨h1,h2⟩
  ·exact ⟨t.2.2.2.2.2.2.2.2.2.2,by rw [show ((0 : Nat) : Int)=0 from rfl] at h1; rw [h1]; rfl,by rw [show ((0 : Nat) : Int)=0 from rfl] at h2; rw [h2]; rfl⟩
  ·exact ⟨0,by rw [show ((0 : Nat) : Int)=0 from rfl] at h1; rw [h1]; rfl,by rw [show ((0 : Nat) : Int)=0 from rfl] at h2; rw [h2]; rfl⟩
 obtain ⟨w,t1,t2⟩:=tail
 rw [f22,f26,t1,t2,aS0 n (by omega) a.Source,aSz n (by omega) a.Source]
 cases decide (a.Office < 1) with
 | true=>exact ⟨_,rfl,rfl⟩
 | false =>
 cases decide (a.Office > 8) with
 | true=>exact ⟨_,rfl,rfl⟩
 | false =>
 cases decide (a.Seq < 1) with
 | true=>exact ⟨_,rfl,rfl⟩
 | false =>
 cases decide (a.Seq > 1073741824) with
 | true=>exact ⟨_,rfl,rfl⟩
 | false =>
 cases decide (a.Time < 0) with
 | true=>exact ⟨_,rfl,rfl⟩
 | false =>
 cases decide (a.Time > 1073741824) with
 | true=>exact ⟨_,rfl,rfl⟩
 | false =>
 have fin : ∃ v,(cnd (decide (((a.Edits.length : Nat) : Int) < 1)) (some 3) (cnd (decide (((a.Edits.length : Nat) : Int) > 64)) (some 3) (some w)) : Option Int)=some v:=by
  cases decide (((a.Edits.length : Nat) : Int) < 1) with
  | true=>exact ⟨_,rfl⟩
  | false =>
  cases decide (((a.Edits.length : Nat) : Int) > 64) with
  | true=>exact ⟨_,rfl⟩
  | false=>exact ⟨_,rfl⟩
 obtain ⟨u,hu⟩:=fin
 cases decide (a.Source=(⟨#[]⟩ : ByteArray)) with
 | true=>exact ⟨u,hu,hu⟩
 | false =>
  simp only [cnd,bnd]
  cases (aLp a.Source != 0) with
  | true=>exact ⟨_,rfl,rfl⟩
  | false=>exact ⟨u,hu,hu⟩
end Go.Proofs.YtkdnaejhpcibnaaGreatDoor.Av
namespace Go.Proofs.YtkdnaejhpcibnaaGreatDoor.Av
open Go Go.IntWalk
def bef (a b : GTxn) : Bool:=decide (a.Time < b.Time ∨ (a.Time=b.Time∧(a.Office < b.Office ∨ (a.Office=b.Office∧a.Seq < b.Seq))))
theorem aPt (a b : GTxn) : bef a b=true ↔ (a.Time < b.Time ∨ (a.Time=b.Time∧(a.Office < b.Office ∨ (a.Office=b.Office∧a.Seq < b.Seq)))):=by simp [bef]
theorem aHg {a b c : GTxn} (h : bef a b=true) (k : bef b c=true) : bef a c=true:=by
 rw [aPt] at *; omega
def aEb (a b : GTxn) : Prop:=a.Time=b.Time∧a.Office=b.Office∧a.Seq=b.Seq
def key2 (a b : GTxn) : Prop:=a.Office=b.Office∧a.Seq=b.Seq
instance (a b : GTxn) : Decidable (key2 a b):=inferInstanceAs (Decidable (_∧_))
theorem aVx {a b : GTxn} (h : bef a b=false) : bef b a=true ∨ aEb a b:=by
 have h1 : ¬ bef a b=true:=by rw [h]; decide
 rw [aPt] at h1 ⊢
 unfold aEb
 omega
theorem aO4 (n : Nat) (a b : GTxn) : f44 (n + 1) a b=some (bef a b):=by
 have hb : ∀ x y : Int,(x != y)=decide (x ≠ y):=fun x y=>by by_cases h : x=y <;> simp [h]
 simp only [f44,sF,hb,decide_eq_true_eq,bef]
 split
 ·split
  ·rw [decide_eq_true]; omega
  ·rw [decide_eq_false]; omega
 ·split
  ·split
   ·rw [decide_eq_true]; omega
   ·rw [decide_eq_false]; omega
  ·split
   ·rw [decide_eq_true]; omega
   ·rw [decide_eq_false]; omega
def cmp3 (a b : Int) : Int:=if a < b then -1 else if a > b then 1 else 0
theorem aXn (n : Nat) (a : Int) : f84 (n + 1) a=some false:=by simp [f84,cnd]
theorem aYe (n : Nat) (a b : Int) : f63 (n + 2) a b=some (cmp3 a b):=by
 simp only [f63,kK (aXn n _),sF,cmp3,decide_eq_true_eq,Bool.false_eq_true,if_false]
 split <;> (try split) <;> rfl
theorem aBw (n m : Nat) (l : List Int) (i : Nat) (h : i < l.length) (hi : i < 1000) : wM n l (m + 1) (i : Int)=cnd (l[i] != 0) (some (Sum.inl l[i])) (wM n l m ((i + 1 : Nat) : Int)):=by
 rw [wM,decide_eq_true (by omega)]
 simp only [cnd,kK (nI h),lE (show i < 100000 by omega)]
theorem aL2 (n m : Nat) (l : List Int) (i : Nat) (h : i=l.length) : wM n l (m + 1) (i : Int)=some (.inr ()):=by
 rw [wM,decide_eq_false (by omega)]
 rfl
def aGl (a b c : Int) : Int:=if a ≠ 0 then a else if b ≠ 0 then b else c
theorem aYd (n : Nat) (a b c : Int) (hn : 5 ≤ n) : f64 n [a,b,c]=some (aGl a b c):=by
 obtain ⟨n,rfl⟩ : ∃ k,n=k + 5:=⟨n - 5,by omega⟩
 have hb : ∀ x y : Int,(x != y)=decide (x ≠ y):=fun x y=>by by_cases h : x=y <;> simp [h]
 have h0:=aBw (n + 4) (n + 3) [a,b,c] 0 (by simp) (by omega)
 have h1:=aBw (n + 4) (n + 2) [a,b,c] 1 (by simp) (by omega)
 have h2:=aBw (n + 4) (n + 1) [a,b,c] 2 (by simp) (by omega)
 have h3:=aL2 (n + 4) n [a,b,c] 3 rfl
 rw [f64]
 rw [show ((0 : Nat) : Int)=0 from rfl] at h0
 rw [h0,h1,h2,h3]
 simp only [List.getElem_cons_zero,List.getElem_cons_succ,hb,sF,decide_eq_true_eq,aGl]
 by_cases ha : a=0
 ·by_cases hb : b=0
  ·by_cases hc : c=0
   ·simp [ha,hb,hc,bnd2]
   ·simp [ha,hb,hc,bnd2]
  ·simp [ha,hb,bnd2]
 ·simp [ha,bnd2]
def cmpT (a b : GTxn) : Int:=aGl (cmp3 a.Time b.Time) (cmp3 a.Office b.Office) (cmp3 a.Seq b.Seq)
theorem aKk (n : Nat) (a b : GTxn) (hn : 10 ≤ n) : f39 n a b=some (cmpT a b):=by
 obtain ⟨n,rfl⟩ : ∃ k,n=k + 10:=⟨n - 10,by omega⟩
 rw [f39]
 simp only [kK (aYe (n + 7) _ _),kK (aYd (n + 9) _ _ _ (by omega))]
 rfl
theorem aPl (a b : GTxn) : decide (cmpT a b < 0)=bef a b:=by
 unfold cmpT aGl cmp3 bef
 apply decide_eq_decide.2
 split <;> (try split) <;> (repeat' split) <;> omega
theorem aVp (a b : GTxn) : decide (cmpT a b ≥ 0)=!bef a b:=by
 rw [← aPl,← decide_not]
 apply decide_eq_decide.2
 omega
instance (a b : GTxn) : Decidable (aEb a b):=inferInstanceAs (Decidable (_∧_))
theorem aPk (a b : GTxn) : (cmpT a b == 0)=decide (aEb a b):=by
 have : (cmpT a b=0) ↔ aEb a b:=by
  unfold cmpT aGl cmp3 aEb
  split <;> (try split) <;> (repeat' split) <;> omega
 by_cases h : cmpT a b=0
 ·rw [decide_eq_true (this.1 h),h]; rfl
 ·rw [decide_eq_false (fun q=>h (this.2 q))]; simpa using h
structure SmE (t : GTxn) : Prop where
 len : t.Edits.length ≤ 6
 via : ∀ e ∈ t.Edits,e.Via.length ≤ 20
 parts : ∀ e ∈ t.Edits,e.Parts.length ≤ 20
def Sm (l : List GTxn) : Prop:=∀ t ∈ l,SmE t
def dT : GTxn:=⟨0,0,0,⟨#[]⟩,[]⟩
def tx (l : List GTxn) (i : Nat) : GTxn:=l.getD i dT
theorem yL {l : List GTxn} {i : Nat} (h : i < l.length) : tx l i=l[i]:=by simp [tx,h]
theorem vT {l : List GTxn} {i : Nat} (h : i < l.length) : tx l i ∈ l:=by rw [yL h]; exact List.getElem_mem h
theorem qV {l : List GTxn} {i : Nat} (h : i < l.length) : idx l (i : Int)=some (tx l i):=by rw [nI h,yL h]
theorem aEy {l : List GTxn} {i : Nat} (h : i < l.length) : idxK l l.length (i : Int)=some (tx l i):=by
 unfold idxK
 rw [if_pos ⟨by omega,by simpa using h⟩]
 simp [yL h]
def Srt (l : List GTxn) : Prop:=∀ i j,i < j→j < l.length→bef (tx l i) (tx l j)=true
def Dif (l : List GTxn) : Prop:=∀ i j,i < j→j < l.length→¬ key2 (tx l i) (tx l j)
theorem aV8 {l : List GTxn} (h : ∀ j,1 ≤ j→j < l.length→bef (tx l (j - 1)) (tx l j)=true) : Srt l:=by
 intro i j hij
 induction j with
 | zero=>omega
 | succ j ih =>
  intro hj
  have h1:=h (j + 1) (by omega) hj
  rw [Nat.add_sub_cancel] at h1
  rcases Nat.lt_or_ge i j with h2 | h2
  ·exact aHg (ih h2 (by omega)) h1
  ·obtain rfl : i=j:=by omega
   exact h1
theorem aXb (n : Nat) (o : GOffice) (i : Nat) (hi : i < o.Txns.length) (hl : o.Txns.length ≤ 1000) : ∀ (d m k : Nat),k + d=i→d < m →
  ((∃ j,k ≤ j∧j < i∧key2 (tx o.Txns j) (tx o.Txns i))∧rB n (i : Int) o m (k : Int)=some (.inl ())) ∨
  ((¬ ∃ j,k ≤ j∧j < i∧key2 (tx o.Txns j) (tx o.Txns i))∧rB n (i : Int) o m (k : Int)=some (.inr ())):=by
 intro d
 induction d with
 | zero =>
  intro m k hk hm
  obtain ⟨m,rfl⟩ : ∃ z,m=z + 1:=⟨m - 1,by omega⟩
  right
  refine ⟨fun ⟨j,h1,h2,_⟩=>by omega,?_⟩
  rw [rB,decide_eq_false (by omega)]
  rfl
 | succ d ih =>
  intro m k hk hm
  obtain ⟨m,rfl⟩ : ∃ z,m=z + 1:=⟨m - 1,by omega⟩
  have ih':=ih m (k + 1) (by omega) (by omega)
  rw [rB,decide_eq_true (by omega)]
  simp only [cnd,kK (qV (show k < o.Txns.length by omega)),kK (qV hi),lE (show k < 100000 by omega)]
  have step : ¬ key2 (tx o.Txns k) (tx o.Txns i)→((∃ j,k ≤ j∧j < i∧key2 (tx o.Txns j) (tx o.Txns i)) ↔ ∃ j,k + 1 ≤ j∧j < i∧key2 (tx o.Txns j) (tx o.Txns i)):=by
   intro hne
   constructor
   ·rintro ⟨j,h1,h2,h3⟩
    refine ⟨j,?_,h2,h3⟩
    rcases Nat.lt_or_ge k j with h | h
    ·exact h
    ·obtain rfl : j=k:=by omega
     exact absurd h3 hne
   ·rintro ⟨j,h1,h2,h3⟩
    exact ⟨j,by omega,h2,h3⟩
  by_cases e1 : (tx o.Txns k).Office=(tx o.Txns i).Office
  ·by_cases e2 : (tx o.Txns k).Seq=(tx o.Txns i).Seq
   ·left
    refine ⟨⟨k,Nat.le_refl _,by omega,e1,e2⟩,?_⟩
    simp [e1,e2]
   ·have h2 : ((tx o.Txns k).Seq == (tx o.Txns i).Seq)=false:=by simpa using e2
    have h1 : ((tx o.Txns k).Office == (tx o.Txns i).Office)=true:=by simpa using e1
    rw [h1,h2]
    simp only
    rw [step (fun h=>e2 h.2)]
    exact ih'
  ·have h1 : ((tx o.Txns k).Office == (tx o.Txns i).Office)=false:=by simpa using e1
   rw [h1]
   simp only
   rw [step (fun h=>e1 h.1)]
   exact ih'
end Go.Proofs.YtkdnaejhpcibnaaGreatDoor.Av
namespace Go.Proofs.YtkdnaejhpcibnaaGreatDoor.Av
open Go Go.IntWalk
theorem aI5 (t : GTxn) (hs : SmE t) : ∃ v,∀ n,2000 ≤ n→f22 n t=some v∧f26 n t=some v:=by
 have hl:=hs.len
 obtain ⟨v,h1,h2⟩:=txns 1999 (by omega) t (by omega) (by omega)
 refine ⟨v,fun n hn=>?_⟩
 obtain ⟨n,rfl⟩ : ∃ k,n=k + 1:=⟨n - 1,by omega⟩
 obtain ⟨w,k1,k2⟩:=txns n (by omega) t (by omega) (by omega)
 have a1:=aH0 (show 2000 ≤ n + 1 by omega) (aKo 2000 t v h1)
 rw [aKo (n + 1) t w k1] at a1
 have e : w=v:=by simpa using a1
 subst e
 exact ⟨k1,k2⟩
theorem aSb (a b : GTxn) : (GArr2_Int.mk a.Office a.Seq=GArr2_Int.mk b.Office b.Seq) ↔ key2 a b:=by simp [key2]
theorem aHo (n : Nat) (hn : 2000 ≤ n) (o : GOffice) (hs : Sm o.Txns) (hl : o.Txns.length ≤ 14) : ∀ (d m i : Nat) (mp : List (GArr2_Int × Bool)),i + d=o.Txns.length→d < m →
  (∀ k,(mget mp k).getD false=true ↔ ∃ j,j < i∧GArr2_Int.mk (tx o.Txns j).Office (tx o.Txns j).Seq=k) →
  ((∃ t,sK n o m mp (i : Int)=some (.inl t))∧sJ n o m (i : Int)=some (.inl ())) ∨
  ((∃ t,sK n o m mp (i : Int)=some (.inr t))∧sJ n o m (i : Int)=some (.inr ()) ∧
   ∀ j,i ≤ j→j < o.Txns.length→f22 n (tx o.Txns j)=some 0∧(1 ≤ j→bef (tx o.Txns (j - 1)) (tx o.Txns j)=true)∧∀ k,k < j→¬ key2 (tx o.Txns k) (tx o.Txns j)):=by
 intro d
 induction d with
 | zero =>
  intro m i mp hi hm _
  obtain ⟨m,rfl⟩ : ∃ z,m=z + 1:=⟨m - 1,by omega⟩
  right
  rw [sK,sJ,decide_eq_false (by omega)]
  exact ⟨⟨_,rfl⟩,rfl,fun j h1 h2=>by omega⟩
 | succ d ih =>
  intro m i mp hi hm hinv
  obtain ⟨m,rfl⟩ : ∃ z,m=z + 1:=⟨m - 1,by omega⟩
  have hlt : i < o.Txns.length:=by omega
  obtain ⟨v,hv⟩:=aI5 (tx o.Txns i) (hs _ (vT hlt))
  obtain ⟨h1,h2⟩:=hv n (by omega)
  have tail : ∀ tup,((∃ t,cnd ((mget mp (GArr2_Int.mk (tx o.Txns i).Office (tx o.Txns i).Seq)).getD false) (some (.inl tup)) (sK n o m (mput mp (GArr2_Int.mk (tx o.Txns i).Office (tx o.Txns i).Seq) true) (IntKind.i64.wrap ((i : Int) + 1)))=some (.inl t)) ∧
     bnd2 (rB n (i : Int) o n 0) (fun _=>some (.inl ())) (fun _=>sJ n o m (IntKind.i64.wrap ((i : Int) + 1)))=some (.inl ())) ∨
    ((∃ t,cnd ((mget mp (GArr2_Int.mk (tx o.Txns i).Office (tx o.Txns i).Seq)).getD false) (some (.inl tup)) (sK n o m (mput mp (GArr2_Int.mk (tx o.Txns i).Office (tx o.Txns i).Seq) true) (IntKind.i64.wrap ((i : Int) + 1)))=some (.inr t)) ∧
     bnd2 (rB n (i : Int) o n 0) (fun _=>some (.inl ())) (fun _=>sJ n o m (IntKind.i64.wrap ((i : Int) + 1)))=some (.inr ()) ∧
     (∀ j,i + 1 ≤ j→j < o.Txns.length→f22 n (tx o.Txns j)=some 0∧(1 ≤ j→bef (tx o.Txns (j - 1)) (tx o.Txns j)=true)∧∀ k,k < j→¬ key2 (tx o.Txns k) (tx o.Txns j)) ∧
     ∀ k,k < i→¬ key2 (tx o.Txns k) (tx o.Txns i)):=by
   intro tup
   have hin:=aXb n o i hlt (by omega) i n 0 (by omega) (by omega)
   rw [show ((0 : Nat) : Int)=0 from rfl] at hin
   have hk:=hinv (GArr2_Int.mk (tx o.Txns i).Office (tx o.Txns i).Seq)
   rcases hin with ⟨⟨j,_,j2,j3⟩,hx⟩ | ⟨hno,hx⟩
   ·left
    rw [hx,hk.2 ⟨j,j2,(aSb _ _).2 j3⟩]
    exact ⟨⟨_,rfl⟩,rfl⟩
   ·have hno' : ∀ k,k < i→¬ key2 (tx o.Txns k) (tx o.Txns i):=fun k hk h=>hno ⟨k,Nat.zero_le _,hk,h⟩
    have hf : (mget mp (GArr2_Int.mk (tx o.Txns i).Office (tx o.Txns i).Seq)).getD false=false:=by
     cases hq : (mget mp (GArr2_Int.mk (tx o.Txns i).Office (tx o.Txns i).Seq)).getD false with
     | false=>rfl
     | true=>obtain ⟨j,j1,j2⟩:=hk.1 hq; exact absurd ((aSb _ _).1 j2) (hno' j j1)
    rw [hx,hf]
    simp only [cnd,bnd2]
    rw [lE (show i < 100000 by omega)]
    have ih':=ih m (i + 1) (mput mp (GArr2_Int.mk (tx o.Txns i).Office (tx o.Txns i).Seq) true) (by omega) (by omega) (by
     intro k
     rw [aJp]
     by_cases hkk : GArr2_Int.mk (tx o.Txns i).Office (tx o.Txns i).Seq=k
     ·rw [if_pos hkk]
      exact ⟨fun _=>⟨i,by omega,hkk⟩,fun _=>rfl⟩
     ·rw [if_neg hkk,hinv k]
      constructor
      ·rintro ⟨j,j1,j2⟩; exact ⟨j,by omega,j2⟩
      ·rintro ⟨j,j1,j2⟩
       refine ⟨j,?_,j2⟩
       rcases Nat.lt_or_ge j i with h | h
       ·exact h
       ·obtain rfl : j=i:=by omega
        exact absurd j2 hkk)
    rcases ih' with ⟨⟨t,a1⟩,a2⟩ | ⟨⟨t,a1⟩,a2,a3⟩
    ·exact .inl ⟨⟨t,a1⟩,a2⟩
    ·exact .inr ⟨⟨t,a1⟩,a2,a3,hno'⟩
  rw [sK,sJ,decide_eq_true (by omega)]
  simp only [kK (qV hlt),kK h1,kK h2]
  simp only [cnd]
  by_cases hv0 : v=0
  ·subst hv0
   simp only [bne_self_eq_false]
   have fin : ∀ (A : Option (_ ⊕ _)) (B : Option (Unit ⊕ Unit)),(1 ≤ i→bef (tx o.Txns (i - 1)) (tx o.Txns i)=true)→(∃ tup,A=cnd ((mget mp (GArr2_Int.mk (tx o.Txns i).Office (tx o.Txns i).Seq)).getD false) (some (.inl tup)) (sK n o m (mput mp (GArr2_Int.mk (tx o.Txns i).Office (tx o.Txns i).Seq) true) (IntKind.i64.wrap ((i : Int) + 1)))) →
     B=bnd2 (rB n (i : Int) o n 0) (fun _=>some (.inl ())) (fun _=>sJ n o m (IntKind.i64.wrap ((i : Int) + 1))) →
     ((∃ t,A=some (.inl t))∧B=some (.inl ())) ∨ ((∃ t,A=some (.inr t))∧B=some (.inr ())∧∀ j,i ≤ j→j < o.Txns.length→f22 n (tx o.Txns j)=some 0∧(1 ≤ j→bef (tx o.Txns (j - 1)) (tx o.Txns j)=true)∧∀ k,k < j→¬ key2 (tx o.Txns k) (tx o.Txns j)):=by
    rintro A B hbe ⟨tup,rfl⟩ rfl
    rcases tail tup with h | ⟨a1,a2,a3,a4⟩
    ·exact .inl h
    ·refine .inr ⟨a1,a2,fun j j1 j2=>?_⟩
     rcases Nat.lt_or_ge i j with h | h
     ·exact a3 j h j2
     ·obtain rfl : j=i:=by omega
      exact ⟨h1,hbe,a4⟩
   by_cases hi0 : i=0
   ·rw [decide_eq_false (show ¬ ((i : Int) > 0) by omega)]
    exact fin _ _ (fun h=>by omega) ⟨_,rfl⟩ rfl
   ·rw [decide_eq_true (show (i : Int) > 0 by omega),sQ (show i < 100000 by omega) (by omega)]
    have hp : i - 1 < o.Txns.length:=by omega
    obtain ⟨n',rfl⟩ : ∃ k,n=k + 1:=⟨n - 1,by omega⟩
    simp only [kK (qV hp),kK (aKk (n' + 1) _ _ (by omega)),kK (aO4 n' _ _),aVp]
    cases hb : bef (tx o.Txns (i - 1)) (tx o.Txns i) with
    | false=>exact .inl ⟨⟨_,rfl⟩,rfl⟩
    | true=>exact fin _ _ (fun _=>hb) ⟨_,rfl⟩ rfl
  ·have : (v != 0)=true:=by simpa using hv0
   rw [this]
   exact .inl ⟨⟨_,rfl⟩,rfl⟩
structure OkO (o : GOffice) : Prop where
 lo : 1 ≤ o.ID
 hi : o.ID ≤ 8
 srt : Srt o.Txns
 dif : Dif o.Txns
 chk : ∀ n,2000 ≤ n→∀ t ∈ o.Txns,f22 n t=some 0
theorem aP3 (n : Nat) (hn : 2000 ≤ n) (o : GOffice) (hs : Sm o.Txns) (hl : o.Txns.length ≤ 14) : ∃ v,f21 (n + 1) o=some v∧f25 (n + 1) o=some v∧(v=true→OkO o):=by
 rw [f21,f25]
 by_cases c1 : o.ID < 1
 ·rw [decide_eq_true c1]; exact ⟨_,rfl,rfl,fun h=>by cases h⟩
 rw [decide_eq_false c1]
 by_cases c2 : o.ID > 8
 ·rw [decide_eq_true c2]; exact ⟨_,rfl,rfl,fun h=>by cases h⟩
 rw [decide_eq_false c2,decide_eq_false (show ¬ ((o.Txns.length : Nat) : Int) > 256 by omega)]
 simp only [cnd]
 have h:=aHo n hn o hs hl o.Txns.length n 0 [] (by omega) (by omega) (by
  intro k
  constructor
  ·intro h; cases h
  ·rintro ⟨j,j1,_⟩; omega)
 rw [show ((0 : Nat) : Int)=0 from rfl] at h
 rcases h with ⟨⟨t,a1⟩,a2⟩ | ⟨⟨t,a1⟩,a2,a3⟩
 ·rw [a1,a2]; exact ⟨_,rfl,rfl,fun h=>by cases h⟩
 ·rw [a1,a2]
  refine ⟨true,rfl,rfl,fun _=>⟨by omega,by omega,aV8 fun j j1 j2=>(a3 j (by omega) j2).2.1 j1,fun i j hij hj=>(a3 j (by omega) hj).2.2 i hij,fun n' hn' t ht=>?_⟩⟩
  obtain ⟨i,hi,rfl⟩:=List.getElem_of_mem ht
  obtain ⟨v,hv⟩:=aI5 _ (hs _ ht)
  have e:=(a3 i (by omega) hi).1
  rw [yL hi,(hv n hn).1] at e
  have e' : v=0:=Option.some.inj e
  subst e'
  exact (hv n' hn').1
end Go.Proofs.YtkdnaejhpcibnaaGreatDoor.Av
namespace Go.Proofs.YtkdnaejhpcibnaaGreatDoor.Av
open Go Go.IntWalk
def pos : List GTxn→GTxn→Nat
 | [],_=>0
 | x :: l,t=>if bef x t=true then pos l t + 1 else 0
theorem yP : ∀ (l : List GTxn) (t : GTxn),pos l t ≤ l.length
 | [],_=>Nat.le_refl _
 | x :: l,t=>by
  have:=yP l t
  simp only [pos,List.length_cons]
  split <;> omega
theorem aMg (x : GTxn) (l : List GTxn) (i : Nat) : tx (x :: l) (i + 1)=tx l i:=rfl
theorem aJg : ∀ (l : List GTxn) (t : GTxn) (j : Nat),j < pos l t→bef (tx l j) t=true
 | [],_,_,h=>absurd h (Nat.not_lt_zero _)
 | x :: l,t,j,h=>by
  simp only [pos] at h
  split at h
  ·rename_i hx
   cases j with
   | zero=>exact hx
   | succ j=>rw [aMg]; exact aJg l t j (by omega)
  ·omega
theorem aMy : ∀ (l : List GTxn) (t : GTxn),pos l t < l.length→bef (tx l (pos l t)) t=false
 | [],_,h=>absurd h (Nat.not_lt_zero _)
 | x :: l,t,h=>by
  simp only [pos,List.length_cons] at h ⊢
  split
  ·rename_i hx
   rw [if_pos hx] at h
   rw [aMg]
   exact aMy l t (by omega)
  ·rename_i hx
   show bef x t=false
   simpa using hx
theorem aR9 {l : List GTxn} (hs : Srt l) (t : GTxn) {j : Nat} (h : pos l t ≤ j) (hj : j < l.length) : bef (tx l j) t=false:=by
 have h0:=aMy l t (by omega)
 rcases Nat.lt_or_ge (pos l t) j with h1 | h1
 ·cases hb : bef (tx l j) t with
  | false=>rfl
  | true=>rw [aHg (hs _ _ h1 hj) hb] at h0; cases h0
 ·obtain rfl : j=pos l t:=by omega
  exact h0
def ins (l : List GTxn) (t : GTxn) : List GTxn:=l.take (pos l t)++t :: l.drop (pos l t)
theorem aV9 (n : Nat) (l : List GTxn) (t : GTxn) (hl : l.length ≤ 1000) : ∀ (d m i : Nat),i + d=pos l t→d < m→aCc (n + 1) l t m (i : Int)=some ((pos l t : Nat) : Int):=by
 intro d
 have hp:=yP l t
 induction d with
 | zero =>
  intro m i hi hm
  obtain ⟨m,rfl⟩ : ∃ z,m=z + 1:=⟨m - 1,by omega⟩
  obtain rfl : i=pos l t:=by omega
  rw [aCc]
  by_cases h : pos l t < l.length
  ·rw [decide_eq_true (by omega)]
   simp only [cnd,kK (qV h),kK (aO4 n _ _),aMy l t h]
  ·rw [decide_eq_false (by omega)]
   rfl
 | succ d ih =>
  intro m i hi hm
  obtain ⟨m,rfl⟩ : ∃ z,m=z + 1:=⟨m - 1,by omega⟩
  have h : i < l.length:=by omega
  rw [aCc,decide_eq_true (by omega)]
  simp only [cnd,kK (qV h),kK (aO4 n _ _),aJg l t i (by omega),lE (show i < 100000 by omega)]
  exact ih m (i + 1) (by omega) (by omega)
theorem aRq {α : Type} (l : List α) (p : Nat) (h : p ≤ l.length) : cut l 0 (p : Int)=some (l.take p):=by
 unfold cut
 rw [if_pos ⟨by omega,by omega,by omega⟩]
 simp
theorem aRr {α : Type} (l : List α) (p : Nat) (h : p ≤ l.length) : cut l (p : Int) ((l.length : Nat) : Int)=some (l.drop p):=by
 unfold cut
 rw [if_pos ⟨by omega,by omega,by omega⟩]
 simp
theorem aT0 (n : Nat) (hn : 1000 ≤ n) (l : List GTxn) (t : GTxn) (hl : l.length ≤ 900) : f27 (n + 1) l t=some (ins l t):=by
 have hp:=yP l t
 obtain ⟨n,rfl⟩ : ∃ k,n=k + 1:=⟨n - 1,by omega⟩
 have h:=aV9 n l t (by omega) (pos l t) (n + 1) 0 (by omega) (by omega)
 rw [show ((0 : Nat) : Int)=0 from rfl] at h
 rw [f27]
 simp only [kK h,kK (aRq l _ hp),kK (aRr l _ hp)]
 have a1 : app [t] (l.drop (pos l t))=some (t :: l.drop (pos l t)):=qK (by simp; omega)
 cases he : (l.take (pos l t)).isEmpty with
 | true =>
  have e : l.take (pos l t)=[]:=List.isEmpty_iff.1 he
  simp only [cnd,kK a1,ins,e,List.nil_append]
 | false =>
  have a2 : app ([] : List GTxn) (l.take (pos l t))=some (l.take (pos l t)):=qK (by simp; omega)
  have a3 : app (l.take (pos l t)) [t]=some (l.take (pos l t)++[t]):=qK (by simp; omega)
  have a4 : app (l.take (pos l t)++[t]) (l.drop (pos l t))=some (l.take (pos l t)++[t]++l.drop (pos l t)):=qK (by simp; omega)
  simp only [cnd,kK a2,kK a3,kK a4,ins,List.append_assoc,List.singleton_append]
def bsL (n : Nat) (l : List GTxn) (t : GTxn) : Nat→Int→Int→Option Int
 | 0,_,_=>none
 | m + 1,i,j=>(cnd (decide (j < i)) (bnd (idxK l l.length (IntKind.i64.wrap (Int.fdiv (IntKind.u64.wrap (IntKind.i64.wrap (j + i))) 2))) fun x=>(bnd (f39 n x t) fun v=>(cnd (decide (v < 0)) (bsL n l t m i (IntKind.i64.wrap ((IntKind.i64.wrap (Int.fdiv (IntKind.u64.wrap (IntKind.i64.wrap (j + i))) 2)) + 1))) (bsL n l t m (IntKind.i64.wrap (Int.fdiv (IntKind.u64.wrap (IntKind.i64.wrap (j + i))) 2)) j)))) (some j))
theorem aWv {i j : Nat} (h : i + j < 100000) : IntKind.i64.wrap (Int.fdiv (IntKind.u64.wrap (IntKind.i64.wrap ((j : Int) + (i : Int)))) 2)=(((j + i) / 2 : Nat) : Int):=by
 have e : Int.fdiv ((j : Int) + (i : Int)) 2=(((j + i) / 2 : Nat) : Int):=by
  rw [Int.fdiv_eq_ediv_of_nonneg _ (by omega)]
  omega
 rw [i64_in ((j : Int) + (i : Int)) (by omega),u64_in _ (by omega),e,i64_in _ (by omega)]
theorem bGr (n : Nat) (hn : 10 ≤ n) (l : List GTxn) (t : GTxn) (hs : Srt l) (hl : l.length ≤ 1000) : ∀ (d m i j : Nat),i ≤ j + d→d < m→j ≤ pos l t→pos l t ≤ i→i ≤ l.length→bsL n l t m (i : Int) (j : Int)=some ((pos l t : Nat) : Int):=by
 intro d
 induction d with
 | zero =>
  intro m i j h1 hm h2 h3 h4
  obtain ⟨m,rfl⟩ : ∃ z,m=z + 1:=⟨m - 1,by omega⟩
  obtain rfl : j=pos l t:=by omega
  rw [bsL,decide_eq_false (by omega)]
  rfl
 | succ d ih =>
  intro m i j h1 hm h2 h3 h4
  obtain ⟨m,rfl⟩ : ∃ z,m=z + 1:=⟨m - 1,by omega⟩
  rw [bsL]
  by_cases hij : j < i
  ·have hk : (j + i) / 2 < l.length:=by omega
   rw [decide_eq_true (by omega),aWv (by omega)]
   simp only [cnd,kK (aEy hk),kK (aKk n _ _ hn),aPl]
   rcases Nat.lt_or_ge ((j + i) / 2) (pos l t) with hb | hb
   ·rw [aJg l t _ hb,lE (by omega)]
    exact ih m i ((j + i) / 2 + 1) (by omega) (by omega) (by omega) h3 h4
   ·rw [aR9 hs t hb hk]
    exact ih m ((j + i) / 2) j (by omega) (by omega) h2 hb (by omega)
  ·obtain rfl : j=pos l t:=by omega
   rw [decide_eq_false (by omega)]
   rfl
theorem aVh (l : List GTxn) (t : GTxn) (hl : l.length ≤ 1000) : insO l ((pos l t : Nat) : Int) t=some (ins l t):=by
 have hp:=yP l t
 unfold insO
 rw [if_pos ⟨by omega,by simpa using hp,by omega⟩]
 simp [ins]
theorem aN9 (l : List GTxn) (t : GTxn) : (ins l t).length=l.length + 1:=by
 have hp:=yP l t
 simp only [ins,List.length_append,List.length_take,List.length_cons,List.length_drop]
 omega
theorem aN8 (l : List GTxn) (t x : GTxn) : x ∈ ins l t ↔ x=t ∨ x ∈ l:=by
 unfold ins
 conv=>rhs; rw [← List.take_append_drop (pos l t) l]
 simp only [List.mem_append,List.mem_cons]
 constructor
 ·rintro (h | h | h)
  ·exact .inr (.inl h)
  ·exact .inl h
  ·exact .inr (.inr h)
 ·rintro (h | h | h)
  ·exact .inr (.inl h)
  ·exact .inl h
  ·exact .inr (.inr h)
theorem aSc (l : List GTxn) (t : GTxn) (j : Nat) : tx (ins l t) j=if j < pos l t then tx l j else if j=pos l t then t else tx l (j - 1):=by
 have hp:=yP l t
 unfold tx ins
 simp only [List.getD_eq_getElem?_getD]
 rw [List.getElem?_append]
 simp only [List.length_take,Nat.min_eq_left hp]
 split
 ·rw [List.getElem?_take,if_pos (by assumption)]
 ·split
  ·rename_i h1 h2
   subst h2
   simp
  ·rename_i h1 h2
   obtain ⟨k,hk⟩ : ∃ k,j=pos l t + 1 + k:=⟨j - pos l t - 1,by omega⟩
   subst hk
   have e1 : pos l t + 1 + k - pos l t=k + 1:=by omega
   have e2 : pos l t + 1 + k - 1=pos l t + k:=by omega
   rw [e1,e2,List.getElem?_cons_succ,List.getElem?_drop]
theorem aVf {l : List GTxn} (hs : Srt l) {t : GTxn} (hne : ∀ x ∈ l,¬ key2 x t) : Srt (ins l t):=by
 have hp:=yP l t
 have after : ∀ j,pos l t ≤ j→j < l.length→bef t (tx l j)=true:=by
  intro j h1 h2
  rcases aVx (aR9 hs t h1 h2) with h | h
  ·exact h
  ·exact absurd ⟨h.2.1,h.2.2⟩ (hne _ (vT h2))
 intro i j hij hj
 rw [aN9] at hj
 rw [aSc,aSc]
 by_cases h1 : i < pos l t
 ·rw [if_pos h1]
  by_cases h2 : j < pos l t
  ·rw [if_pos h2]; exact hs _ _ hij (by omega)
  ·rw [if_neg h2]
   by_cases h3 : j=pos l t
   ·rw [if_pos h3]; exact aJg l t i h1
   ·rw [if_neg h3]; exact hs _ _ (by omega) (by omega)
 ·rw [if_neg h1]
  by_cases h2 : i=pos l t
  ·rw [if_pos h2,if_neg (by omega),if_neg (by omega)]
   exact after _ (by omega) (by omega)
  ·rw [if_neg h2,if_neg (by omega),if_neg (by omega)]
   exact hs _ _ (by omega) (by omega)
theorem aAg (n : Nat) : prd (n + 1)=some n:=rfl
theorem aVt (n : Nat) (l : List GPoint) (h : l.length ≤ 1000000) : f60 (n + 1) l=some l:=by simp [f60,h]
theorem aVs (n : Nat) (l : List Int) (h : l.length ≤ 1000000) : f61 (n + 1) l=some l:=by simp [f61,h]
theorem aMo {α : Type} (l : List α) (i : Nat) (h : i < l.length) : l.set i l[i]=l:=by
 apply List.ext_getElem?
 intro j
 rw [List.getElem?_set]
 split
 ·rename_i e
  subst e
  simp [h]
 ·rfl
theorem aJw {α : Type} {l : List α} {i k : Nat} (h : i < l.length) (hk : i < k) : idxK l k (i : Int)=some l[i]:=by
 unfold idxK
 rw [if_pos ⟨by omega,by simpa using hk⟩]
 simp [h]
theorem aLv (n : Nat) (t : GTxn) (hs : SmE t) : ∀ (d m i : Nat),i + d=t.Edits.length→d < m→rW (n + 1) t m t.Edits (i : Int)=some t.Edits:=by
 have hl:=hs.len
 intro d
 induction d with
 | zero =>
  intro m i hi hm
  obtain ⟨m,rfl⟩ : ∃ z,m=z + 1:=⟨m - 1,by omega⟩
  rw [rW,decide_eq_false (by omega)]
  rfl
 | succ d ih =>
  intro m i hi hm
  obtain ⟨m,rfl⟩ : ∃ z,m=z + 1:=⟨m - 1,by omega⟩
  have h : i < t.Edits.length:=by omega
  have hm:=List.getElem_mem h
  have hv:=hs.via _ hm
  have hp:=hs.parts _ hm
  rw [rW,decide_eq_true (by omega)]
  have e0 : (GEdit.mk t.Edits[i].Kind t.Edits[i].ID t.Edits[i].A t.Edits[i].B t.Edits[i].C t.Edits[i].At t.Edits[i].Via t.Edits[i].Name t.Edits[i].Parts)=t.Edits[i]:=rfl
  simp only [cnd,kK (aJw h h),kK (aVt n _ (show t.Edits[i].Via.length ≤ 1000000 by omega)),kK (aVs n _ (show t.Edits[i].Parts.length ≤ 1000000 by omega)),e0,Int.toNat_natCast,aMo _ i h,lE (show i < 100000 by omega)]
  exact ih m (i + 1) (by omega) (by omega)
theorem aJy (n : Nat) (hn : 20 ≤ n) (t : GTxn) (hs : SmE t) : f37 (n + 1) t=some t:=by
 have hl:=hs.len
 obtain ⟨n,rfl⟩ : ∃ k,n=k + 1:=⟨n - 1,by omega⟩
 rw [f37]
 simp only [kK (aAg n)]
 cases he : t.Edits.isEmpty with
 | true =>
  have e : t.Edits=[]:=List.isEmpty_iff.1 he
  have h1 : aKl (n + 1) t (n + 1)=some ():=rfl
  simp only [cnd,kK h1]
  cases t
  simp only at e
  subst e
  rfl
 | false =>
  have h1:=aLv n t hs t.Edits.length (n + 1) 0 (by omega) (by omega)
  rw [show ((0 : Nat) : Int)=0 from rfl] at h1
  have h2 : grd (decide (List.length t.Edits ≤ 1000000))=some ():=by rw [decide_eq_true (by omega)]; rfl
  simp only [cnd,kK h2,kK h1]
end Go.Proofs.YtkdnaejhpcibnaaGreatDoor.Av
namespace Go.Proofs.YtkdnaejhpcibnaaGreatDoor.Av
open Go Go.IntWalk
theorem aC2 {α : Type} {l : List α} {i : Nat} (h : i < l.length) : idx l (i : Int)=some l[i]:=nI h
theorem aQa (n : Nat) (l : List GPoint) (hl : l.length ≤ 1000) : ∀ (d m i : Nat),i + d=l.length→d < m→wO n l l m (i : Int)=some (.inr ()):=by
 intro d
 induction d with
 | zero =>
  intro m i hi hm
  obtain ⟨m,rfl⟩ : ∃ z,m=z + 1:=⟨m - 1,by omega⟩
  rw [wO,decide_eq_false (by omega)]; rfl
 | succ d ih =>
  intro m i hi hm
  obtain ⟨m,rfl⟩ : ∃ z,m=z + 1:=⟨m - 1,by omega⟩
  have h : i < l.length:=by omega
  rw [wO,decide_eq_true (by omega)]
  simp only [cnd,kK (aC2 h),decide_true,lE (show i < 100000 by omega)]
  exact ih m (i + 1) (by omega) (by omega)
theorem aWb (n : Nat) (hn : 1001 ≤ n) (l : List GPoint) (hl : l.length ≤ 1000) : f54 (n + 1) l l=some true:=by
 have h:=aQa n l hl l.length n 0 (by omega) (by omega)
 rw [show ((0 : Nat) : Int)=0 from rfl] at h
 rw [f54,h]
 simp only [bne_self_eq_false,cnd,bnd2]
theorem aP9 (n : Nat) (l : List Int) (hl : l.length ≤ 1000) : ∀ (d m i : Nat),i + d=l.length→d < m→wN n l l m (i : Int)=some (.inr ()):=by
 intro d
 induction d with
 | zero =>
  intro m i hi hm
  obtain ⟨m,rfl⟩ : ∃ z,m=z + 1:=⟨m - 1,by omega⟩
  rw [wN,decide_eq_false (by omega)]; rfl
 | succ d ih =>
  intro m i hi hm
  obtain ⟨m,rfl⟩ : ∃ z,m=z + 1:=⟨m - 1,by omega⟩
  have h : i < l.length:=by omega
  rw [wN,decide_eq_true (by omega)]
  simp only [cnd,kK (aC2 h),bne_self_eq_false,lE (show i < 100000 by omega)]
  exact ih m (i + 1) (by omega) (by omega)
theorem aWa (n : Nat) (hn : 1001 ≤ n) (l : List Int) (hl : l.length ≤ 1000) : f55 (n + 1) l l=some true:=by
 have h:=aP9 n l hl l.length n 0 (by omega) (by omega)
 rw [show ((0 : Nat) : Int)=0 from rfl] at h
 rw [f55,h]
 simp only [bne_self_eq_false,cnd,bnd2]
theorem aWc (n : Nat) (hn : 1100 ≤ n) (e : GEdit) (h1 : e.Via.length ≤ 20) (h2 : e.Parts.length ≤ 20) : f34 (n + 1) e e=some true:=by
 obtain ⟨n,rfl⟩ : ∃ z,n=z + 1:=⟨n - 1,by omega⟩
 rw [f34]
 simp only [beq_self_eq_true,cnd,decide_true,kK (aWb n (by omega) e.Via (by omega)),kK (aWa n (by omega) e.Parts (by omega))]
theorem aQb (n : Nat) (hn : 1101 ≤ n) (t : GTxn) (hs : SmE t) : ∀ (d m i : Nat),i + d=t.Edits.length→d < m→tI n t t m (i : Int)=some (.inr ()):=by
 have hl:=hs.len
 obtain ⟨n,rfl⟩ : ∃ z,n=z + 1:=⟨n - 1,by omega⟩
 intro d
 induction d with
 | zero =>
  intro m i hi hm
  obtain ⟨m,rfl⟩ : ∃ z,m=z + 1:=⟨m - 1,by omega⟩
  rw [tI,decide_eq_false (by omega)]; rfl
 | succ d ih =>
  intro m i hi hm
  obtain ⟨m,rfl⟩ : ∃ z,m=z + 1:=⟨m - 1,by omega⟩
  have h : i < t.Edits.length:=by omega
  have hm:=List.getElem_mem h
  rw [tI,decide_eq_true (by omega)]
  simp only [cnd,kK (aC2 h),kK (aWc n (by omega) _ (hs.via _ hm) (hs.parts _ hm)),lE (show i < 100000 by omega)]
  exact ih m (i + 1) (by omega) (by omega)
theorem aWd (n : Nat) (hn : 1200 ≤ n) (t : GTxn) (hs : SmE t) : f17 (n + 1) t t=some true:=by
 have hl:=hs.len
 have h:=aQb n (by omega) t hs t.Edits.length n 0 (by omega) (by omega)
 rw [show ((0 : Nat) : Int)=0 from rfl] at h
 rw [f17,h]
 simp only [bne_self_eq_false,decide_true,cnd,bnd2]
theorem aQc (n : Nat) (hn : 1201 ≤ n) (l : List GTxn) (hs : Sm l) (hl : l.length ≤ 1000) : ∀ (d m i : Nat),i + d=l.length→d < m→aCl n l l m (i : Int)=some (.inr ()):=by
 obtain ⟨n,rfl⟩ : ∃ z,n=z + 1:=⟨n - 1,by omega⟩
 intro d
 induction d with
 | zero =>
  intro m i hi hm
  obtain ⟨m,rfl⟩ : ∃ z,m=z + 1:=⟨m - 1,by omega⟩
  rw [aCl,decide_eq_false (by omega)]; rfl
 | succ d ih =>
  intro m i hi hm
  obtain ⟨m,rfl⟩ : ∃ z,m=z + 1:=⟨m - 1,by omega⟩
  have h : i < l.length:=by omega
  rw [aCl,decide_eq_true (by omega)]
  simp only [cnd,kK (qV h),kK (aWd n (by omega) _ (hs _ (vT h))),lE (show i < 100000 by omega)]
  exact ih m (i + 1) (by omega) (by omega)
theorem aR6 (n : Nat) (hn : 1300 ≤ n) (l : List GTxn) (hs : Sm l) (hl : l.length ≤ 1000) : f15 (n + 1) l l=some true:=by
 have h:=aQc n (by omega) l hs hl l.length n 0 (by omega) (by omega)
 rw [show ((0 : Nat) : Int)=0 from rfl] at h
 rw [f15,h]
 simp only [bne_self_eq_false,cnd,bnd2]
theorem aWe (n : Nat) (hn : 1400 ≤ n) (o : GOffice) (hs : Sm o.Txns) (hl : o.Txns.length ≤ 1000) : f10 (n + 1) o o=some true:=by
 obtain ⟨n,rfl⟩ : ∃ z,n=z + 1:=⟨n - 1,by omega⟩
 rw [f10]
 simp only [beq_self_eq_true,cnd,kK (aR6 n (by omega) o.Txns hs hl)]
structure SmL (l : List GEdit) : Prop where
 len : l.length ≤ 6
 via : ∀ e ∈ l,e.Via.length ≤ 20
 parts : ∀ e ∈ l,e.Parts.length ≤ 20
theorem aVn (n : Nat) (l : List GEdit) : ∀ (d m i : Nat),i + d=7→d < m →
  aGp n l m (i : Int)=some (.inl ()) ∨ (aGp n l m (i : Int)=some (.inr ())∧(l.length ≤ 6→∀ j,(h : j < l.length)→i ≤ j→l[j].Via.length ≤ 20∧l[j].Parts.length ≤ 20)):=by
 intro d
 induction d with
 | zero =>
  intro m i hi hm
  obtain ⟨m,rfl⟩ : ∃ z,m=z + 1:=⟨m - 1,by omega⟩
  right
  rw [aGp]
  by_cases h : (i : Int) < ((l.length : Nat) : Int)
  ·rw [decide_eq_true h,decide_eq_false (show ¬ ((i : Int) < 7) by omega)]
   exact ⟨rfl,fun hl j hj hij=>by omega⟩
  ·rw [decide_eq_false h]
   exact ⟨rfl,fun hl j hj hij=>by omega⟩
 | succ d ih =>
  intro m i hi hm
  obtain ⟨m,rfl⟩ : ∃ z,m=z + 1:=⟨m - 1,by omega⟩
  rw [aGp]
  by_cases h : i < l.length
  ·rw [decide_eq_true (by omega),decide_eq_true (show ((i : Int) < 7) by omega)]
   simp only [kK (aC2 h)]
   by_cases c1 : ((l[i].Via.length : Nat) : Int) > 20
   ·rw [decide_eq_true c1]; exact .inl rfl
   by_cases c2 : ((l[i].Parts.length : Nat) : Int) > 20
   ·rw [decide_eq_false c1,decide_eq_true c2]; exact .inl rfl
   by_cases c3 : ((l[i].Name.size : Nat) : Int) > 100
   ·rw [decide_eq_false c1,decide_eq_false c2,decide_eq_true c3]; exact .inl rfl
   rw [decide_eq_false c1,decide_eq_false c2,decide_eq_false c3]
   simp only [cnd,lE (show i < 100000 by omega)]
   rcases ih m (i + 1) (by omega) (by omega) with h1 | ⟨h1,h2⟩
   ·exact .inl h1
   ·refine .inr ⟨h1,fun hl j hj hij=>?_⟩
    rcases Nat.lt_or_ge i j with h3 | h3
    ·exact h2 hl j hj h3
    ·obtain rfl : j=i:=by omega
     exact ⟨by omega,by omega⟩
  ·rw [decide_eq_false (by omega)]
   exact .inr ⟨rfl,fun hl j hj hij=>by omega⟩
theorem aRo (n : Nat) (hn : 10 ≤ n) (l : List GEdit) : ∃ v,f4 (n + 1) l=some v∧(v=true→SmL l):=by
 have h:=aVn n l 7 n 0 (by omega) (by omega)
 rw [show ((0 : Nat) : Int)=0 from rfl] at h
 rw [f4]
 rcases h with h | ⟨h,hh⟩
 ·rw [h]; exact ⟨_,rfl,fun h=>by cases h⟩
 ·rw [h]
  simp only [bnd2]
  by_cases c : ((l.length : Nat) : Int) ≤ 6
  ·rw [decide_eq_true c]
   refine ⟨_,rfl,fun _=>⟨by omega,fun e he=>?_,fun e he=>?_⟩⟩
   ·obtain ⟨j,hj,rfl⟩:=List.getElem_of_mem he
    exact (hh (by omega) j hj (Nat.zero_le _)).1
   ·obtain ⟨j,hj,rfl⟩:=List.getElem_of_mem he
    exact (hh (by omega) j hj (Nat.zero_le _)).2
  ·rw [decide_eq_false c]
   exact ⟨_,rfl,fun h=>by cases h⟩
theorem aT4 (n : Nat) (hn : 20 ≤ n) (l : List GTxn) (hl : l.length ≤ 14) : ∀ (d m i : Nat),i + d=l.length→d < m →
  aGs n l m (i : Int)=some (.inl ()) ∨ (aGs n l m (i : Int)=some (.inr ())∧∀ j,i ≤ j→j < l.length→SmL (tx l j).Edits):=by
 obtain ⟨n,rfl⟩ : ∃ z,n=z + 1:=⟨n - 1,by omega⟩
 intro d
 induction d with
 | zero =>
  intro m i hi hm
  obtain ⟨m,rfl⟩ : ∃ z,m=z + 1:=⟨m - 1,by omega⟩
  right
  rw [aGs,decide_eq_false (by omega)]
  exact ⟨rfl,fun j h1 h2=>by omega⟩
 | succ d ih =>
  intro m i hi hm
  obtain ⟨m,rfl⟩ : ∃ z,m=z + 1:=⟨m - 1,by omega⟩
  have h : i < l.length:=by omega
  obtain ⟨v,h1,h2⟩:=aRo n (by omega) (tx l i).Edits
  rw [aGs,decide_eq_true (by omega)]
  simp only [kK (qV h),kK h1]
  by_cases c : (((tx l i).Source.size : Nat) : Int) > 100
  ·rw [decide_eq_true c]; exact .inl rfl
  rw [decide_eq_false c]
  cases v with
  | false=>exact .inl rfl
  | true =>
   simp only [cnd,lE (show i < 100000 by omega)]
   rcases ih m (i + 1) (by omega) (by omega) with h3 | ⟨h3,h4⟩
   ·exact .inl h3
   ·refine .inr ⟨h3,fun j j1 j2=>?_⟩
    rcases Nat.lt_or_ge i j with h5 | h5
    ·exact h4 j h5 j2
    ·obtain rfl : j=i:=by omega
     exact h2 rfl
theorem aJd (n : Nat) (hn : 100 ≤ n) (l : List GTxn) : ∃ v,f3 (n + 1) l=some v∧(v=true→Sm l∧l.length ≤ 14):=by
 rw [f3]
 by_cases c : ((l.length : Nat) : Int) > 14
 ·rw [decide_eq_true c]; exact ⟨_,rfl,fun h=>by cases h⟩
 rw [decide_eq_false c]
 have h:=aT4 n (by omega) l (by omega) l.length n 0 (by omega) (by omega)
 rw [show ((0 : Nat) : Int)=0 from rfl] at h
 rcases h with h | ⟨h,hh⟩
 ·rw [h]; exact ⟨_,rfl,fun h=>by cases h⟩
 ·rw [h]
  refine ⟨_,rfl,fun _=>⟨fun t ht=>?_,by omega⟩⟩
  obtain ⟨j,hj,rfl⟩:=List.getElem_of_mem ht
  have:=hh j (Nat.zero_le _) hj
  rw [yL hj] at this
  exact ⟨this.len,this.via,this.parts⟩
def cpL (n : Nat) (o : GOffice) : Nat→List GTxn→Int→Option (List GTxn)
 | 0,_,_=>none
 | m + 1,l,i=>cnd (decide (i < ((o.Txns.length : Nat) : Int))) (bnd (idx o.Txns i) fun x=>bnd (f37 n x) fun v=>bnd (app l [v]) fun l2=>cpL n o m l2 (IntKind.i64.wrap (i + 1))) (some l)
theorem bD6 (n : Nat) (hn : 30 ≤ n) (o : GOffice) (hs : Sm o.Txns) (hl : o.Txns.length ≤ 1000) : ∀ (d m i : Nat),i + d=o.Txns.length→d < m→cpL n o m (o.Txns.take i) (i : Int)=some o.Txns:=by
 obtain ⟨n,rfl⟩ : ∃ z,n=z + 1:=⟨n - 1,by omega⟩
 intro d
 induction d with
 | zero =>
  intro m i hi hm
  obtain ⟨m,rfl⟩ : ∃ z,m=z + 1:=⟨m - 1,by omega⟩
  rw [cpL,decide_eq_false (by omega),List.take_of_length_le (by omega)]
  rfl
 | succ d ih =>
  intro m i hi hm
  obtain ⟨m,rfl⟩ : ∃ z,m=z + 1:=⟨m - 1,by omega⟩
  have h : i < o.Txns.length:=by omega
  have e : app (o.Txns.take i) [tx o.Txns i]=some (o.Txns.take (i + 1)):=by
   rw [qK (by simp; omega),yL h,List.take_succ_eq_append_getElem h]
  rw [cpL,decide_eq_true (by omega)]
  simp only [cnd,kK (qV h),kK (aJy n (by omega) _ (hs _ (vT h))),kK e,lE (show i < 100000 by omega)]
  exact ih m (i + 1) (by omega) (by omega)
end Go.Proofs.YtkdnaejhpcibnaaGreatDoor.Av
namespace Go.Proofs.YtkdnaejhpcibnaaGreatDoor.Av
open Go Go.IntWalk
theorem aYh {n : Nat} (h : 10000 ≤ n) : f5 n=some true:=by unfold f5; rw [if_pos h]
end Go.Proofs.YtkdnaejhpcibnaaGreatDoor.Av
namespace Go.Proofs.YtkdnaejhpcibnaaGreatDoor.Av
open Go Go.IntWalk
def eqG {α : Type} [DecidableEq α] (a b : List α) : Nat→Int→Option (Unit ⊕ Unit)
 | 0,_=>none
 | m + 1,i=>cnd (decide (i < ((a.length : Nat) : Int))) (bnd (idx a i) fun x=>bnd (idx b i) fun y=>cnd (decide (x=y)) (eqG a b m (IntKind.i64.wrap (i + 1))) (some (.inl ()))) (some (.inr ()))
theorem aRm {α : Type} [DecidableEq α] (a b : List α) (hab : a.length=b.length) (hl : a.length ≤ 1000) : ∀ (d m i : Nat),i + d=a.length→d < m →
  eqG a b m (i : Int)=some (if a.drop i=b.drop i then .inr () else .inl ()):=by
 intro d
 induction d with
 | zero =>
  intro m i hi hm
  obtain ⟨m,rfl⟩ : ∃ z,m=z + 1:=⟨m - 1,by omega⟩
  rw [eqG,decide_eq_false (by omega),List.drop_of_length_le (by omega),List.drop_of_length_le (by omega)]
  rfl
 | succ d ih =>
  intro m i hi hm
  obtain ⟨m,rfl⟩ : ∃ z,m=z + 1:=⟨m - 1,by omega⟩
  have h : i < a.length:=by omega
  have h' : i < b.length:=by omega
  rw [eqG,decide_eq_true (by omega),List.drop_eq_getElem_cons h,List.drop_eq_getElem_cons h']
  simp only [cnd,kK (aC2 h),kK (aC2 h')]
  by_cases e : a[i]=b[i]
  ·rw [decide_eq_true e]
   simp only [lE (show i < 100000 by omega)]
   rw [ih m (i + 1) (by omega) (by omega)]
   simp only [e,List.cons.injEq,true_and]
  ·rw [decide_eq_false e]
   simp only [List.cons.injEq,e,false_and,if_false]
theorem aI4 {β : Type} {x y : Int} {A B : β} : cnd (x != y) A B=cnd (decide (x=y)) B A:=by
 by_cases h : x=y
 ·simp [h,cnd]
 ·have : (x != y)=true:=by simpa using h
  rw [this,decide_eq_false h]
  rfl
theorem e98 (n : Nat) (a b : List GPoint) : ∀ (m : Nat) (i : Int),aDo n a b m i=eqG a b m i
 | 0,_=>rfl
 | m + 1,i=>by simp only [aDo,eqG,e98 n a b m]
theorem e54 (n : Nat) (a b : List GPoint) : ∀ (m : Nat) (i : Int),wO n a b m i=eqG a b m i
 | 0,_=>rfl
 | m + 1,i=>by simp only [wO,eqG,e54 n a b m]
theorem e99 (n : Nat) (a b : List Int) : ∀ (m : Nat) (i : Int),aDn n a b m i=eqG a b m i
 | 0,_=>rfl
 | m + 1,i=>by simp only [aDn,eqG,e99 n a b m,aI4]
theorem e55 (n : Nat) (a b : List Int) : ∀ (m : Nat) (i : Int),wN n a b m i=eqG a b m i
 | 0,_=>rfl
 | m + 1,i=>by simp only [wN,eqG,e55 n a b m,aI4]
theorem aP1 {α : Type} [DecidableEq α] (n : Nat) (hn : 1001 ≤ n) (a b : List α) (hl : a.length ≤ 1000) :
  cnd (((a.length : Nat) : Int) != ((b.length : Nat) : Int)) (some false) (bnd2 (eqG a b n 0) (fun _=>(some false)) (fun _=>(some true)))=some (decide (a=b)):=by
 by_cases hab : a.length=b.length
 ·have h:=aRm a b hab hl a.length n 0 (by omega) (by omega)
  rw [show ((0 : Nat) : Int)=0 from rfl,List.drop_zero,List.drop_zero] at h
  rw [h,hab]
  simp only [bne_self_eq_false,cnd]
  by_cases e : a=b
  ·rw [if_pos e,decide_eq_true e]; rfl
  ·rw [if_neg e,decide_eq_false e]; rfl
 ·have : (((a.length : Nat) : Int) != ((b.length : Nat) : Int))=true:=by
   simp only [bne_iff_ne,ne_eq]
   omega
  rw [this,decide_eq_false (fun e=>hab (by rw [e]))]
  rfl
theorem aXh (n : Nat) (hn : 1001 ≤ n) (a b : List GPoint) (hl : a.length ≤ 1000) : f98 (n + 1) a b=some (decide (a=b)):=by
 rw [f98,e98]; exact aP1 n hn a b hl
theorem aYl (n : Nat) (hn : 1001 ≤ n) (a b : List GPoint) (hl : a.length ≤ 1000) : f54 (n + 1) a b=some (decide (a=b)):=by
 rw [f54,e54]; exact aP1 n hn a b hl
theorem aXg (n : Nat) (hn : 1001 ≤ n) (a b : List Int) (hl : a.length ≤ 1000) : f99 (n + 1) a b=some (decide (a=b)):=by
 rw [f99,e99]; exact aP1 n hn a b hl
theorem aYk (n : Nat) (hn : 1001 ≤ n) (a b : List Int) (hl : a.length ≤ 1000) : f55 (n + 1) a b=some (decide (a=b)):=by
 rw [f55,e55]; exact aP1 n hn a b hl
theorem aPs (x y : Int) : (x == y)=decide (x=y):=by by_cases h : x=y <;> simp [h]
theorem aG4 (n : Nat) (hn : 1002 ≤ n) (x y : GEdit) (h1 : x.Via.length ≤ 1000) (h2 : x.Parts.length ≤ 1000) : f78 (n + 1) x y=some (decide (x=y))∧f34 (n + 1) x y=some (decide (x=y)):=by
 obtain ⟨n,rfl⟩ : ∃ z,n=z + 1:=⟨n - 1,by omega⟩
 have key : decide (x=y)=(decide (x.Kind=y.Kind) && decide (x.ID=y.ID) && decide (x.A=y.A) && decide (x.B=y.B) && decide (x.C=y.C) && decide (x.At=y.At) && decide (x.Via=y.Via) && decide (x.Name=y.Name) && decide (x.Parts=y.Parts)):=by
  cases x; cases y
  simp only [GEdit.mk.injEq,Bool.decide_and,Bool.and_assoc]
 rw [f78,f34,key]
 simp only [aPs,kK (aXh n (by omega) x.Via y.Via h1),kK (aXg n (by omega) x.Parts y.Parts h2),kK (aYl n (by omega) x.Via y.Via h1),kK (aYk n (by omega) x.Parts y.Parts h2)]
 cases decide (x.Kind=y.Kind) <;> cases decide (x.ID=y.ID) <;> cases decide (x.A=y.A) <;> cases decide (x.B=y.B) <;> cases decide (x.C=y.C) <;> cases decide (x.At=y.At) <;> cases decide (x.Via=y.Via) <;> cases decide (x.Name=y.Name) <;> cases decide (x.Parts=y.Parts) <;> exact ⟨rfl,rfl⟩
theorem l17 (n : Nat) (hn : 1003 ≤ n) (a b : GTxn) (hs : SmE a) (hab : a.Edits.length=b.Edits.length) : ∀ (d m i : Nat),i + d=a.Edits.length→d < m →
  tI n a b m (i : Int)=some (if a.Edits.drop i=b.Edits.drop i then .inr () else .inl ()):=by
 have hl:=hs.len
 obtain ⟨n,rfl⟩ : ∃ z,n=z + 1:=⟨n - 1,by omega⟩
 intro d
 induction d with
 | zero =>
  intro m i hi hm
  obtain ⟨m,rfl⟩ : ∃ z,m=z + 1:=⟨m - 1,by omega⟩
  rw [tI,decide_eq_false (by omega),List.drop_of_length_le (by omega),List.drop_of_length_le (by omega)]
  rfl
 | succ d ih =>
  intro m i hi hm
  obtain ⟨m,rfl⟩ : ∃ z,m=z + 1:=⟨m - 1,by omega⟩
  have h : i < a.Edits.length:=by omega
  have h' : i < b.Edits.length:=by omega
  have hv:=hs.via _ (List.getElem_mem h)
  have hp:=hs.parts _ (List.getElem_mem h)
  rw [tI,decide_eq_true (by omega),List.drop_eq_getElem_cons h,List.drop_eq_getElem_cons h']
  simp only [cnd,kK (aC2 h),kK (aC2 h'),kK (aG4 n (by omega) a.Edits[i] b.Edits[i] (by omega) (by omega)).2]
  by_cases e : a.Edits[i]=b.Edits[i]
  ·rw [decide_eq_true e]
   simp only [lE (show i < 100000 by omega)]
   rw [ih m (i + 1) (by omega) (by omega)]
   simp only [e,List.cons.injEq,true_and]
  ·rw [decide_eq_false e]
   simp only [List.cons.injEq,e,false_and,if_false]
theorem l49 (n : Nat) (hn : 1003 ≤ n) (a b : GTxn) (hs : SmE a) (hab : a.Edits.length=b.Edits.length) : ∀ (d m i : Nat),i + d=a.Edits.length→d < m →
  (a.Edits.drop i=b.Edits.drop i∧nP n b a m (i : Int)=some (.inr ())) ∨ (¬ a.Edits.drop i=b.Edits.drop i∧∃ t,nP n b a m (i : Int)=some (.inl t)):=by
 have hl:=hs.len
 obtain ⟨n,rfl⟩ : ∃ z,n=z + 1:=⟨n - 1,by omega⟩
 intro d
 induction d with
 | zero =>
  intro m i hi hm
  obtain ⟨m,rfl⟩ : ∃ z,m=z + 1:=⟨m - 1,by omega⟩
  rw [nP,decide_eq_false (by omega),List.drop_of_length_le (by omega),List.drop_of_length_le (by omega)]
  exact .inl ⟨rfl,rfl⟩
 | succ d ih =>
  intro m i hi hm
  obtain ⟨m,rfl⟩ : ∃ z,m=z + 1:=⟨m - 1,by omega⟩
  have h : i < a.Edits.length:=by omega
  have h' : i < b.Edits.length:=by omega
  have hv:=hs.via _ (List.getElem_mem h)
  have hp:=hs.parts _ (List.getElem_mem h)
  rw [nP,decide_eq_true (by omega),List.drop_eq_getElem_cons h,List.drop_eq_getElem_cons h']
  simp only [cnd,kK (aC2 h),kK (aC2 h'),kK (aG4 n (by omega) a.Edits[i] b.Edits[i] (by omega) (by omega)).1]
  by_cases e : a.Edits[i]=b.Edits[i]
  ·rw [decide_eq_true e]
   simp only [lE (show i < 100000 by omega),e,List.cons.injEq,true_and]
   exact ih m (i + 1) (by omega) (by omega)
  ·rw [decide_eq_false e]
   simp only [List.cons.injEq,e,false_and,not_false_eq_true,true_and]
   exact .inr ⟨_,rfl⟩
theorem aYy (n : Nat) (hn : 1010 ≤ n) (a b : GTxn) (hs : SmE a) : f17 (n + 1) a b=some (decide (a=b)):=by
 have hl:=hs.len
 have key : decide (a=b)=(decide (a.Office=b.Office) && decide (a.Seq=b.Seq) && decide (a.Time=b.Time) && decide (a.Source=b.Source) && decide (a.Edits=b.Edits)):=by
  cases a; cases b
  simp only [GTxn.mk.injEq,Bool.decide_and,Bool.and_assoc]
 have e : cnd (((a.Edits.length : Nat) : Int) != ((b.Edits.length : Nat) : Int)) (some false) (bnd2 (tI n a b n 0) (fun _=>(some false)) (fun _=>(some true)))=some (decide (a.Edits=b.Edits)):=by
  by_cases hab : a.Edits.length=b.Edits.length
  ·have h:=l17 n (by omega) a b hs hab a.Edits.length n 0 (by omega) (by omega)
   rw [show ((0 : Nat) : Int)=0 from rfl,List.drop_zero,List.drop_zero] at h
   rw [h,hab]
   simp only [bne_self_eq_false,cnd]
   by_cases e : a.Edits=b.Edits
   ·rw [if_pos e,decide_eq_true e]; rfl
   ·rw [if_neg e,decide_eq_false e]; rfl
  ·have : (((a.Edits.length : Nat) : Int) != ((b.Edits.length : Nat) : Int))=true:=by
    simp only [bne_iff_ne,ne_eq]
    omega
   rw [this,decide_eq_false (fun e=>hab (by rw [e]))]
   rfl
 rw [f17,key]
 simp only [aI4,] at e ⊢
 rw [e]
 cases decide (a.Office=b.Office) <;> cases decide (a.Seq=b.Seq) <;> cases decide (a.Time=b.Time) <;> cases decide (a.Source=b.Source) <;> cases decide (a.Edits=b.Edits) <;> rfl
theorem aYq (n : Nat) (hn : 1010 ≤ n) (a b : GTxn) (hs : SmE a) : f49 (n + 1) a b=some (decide (a=b)):=by
 have hl:=hs.len
 obtain ⟨n,rfl⟩ : ∃ z,n=z + 1:=⟨n - 1,by omega⟩
 have key : decide (a=b)=(decide (aEb a b) && decide (a.Source=b.Source) && decide (a.Edits=b.Edits)):=by
  rw [← Bool.decide_and,← Bool.decide_and]
  apply decide_eq_decide.2
  cases a; cases b
  simp only [GTxn.mk.injEq,aEb]
  constructor
  ·rintro ⟨h1,h2,h3,h4,h5⟩; exact ⟨⟨⟨h3,h1,h2⟩,h4⟩,h5⟩
  ·rintro ⟨⟨⟨h3,h1,h2⟩,h4⟩,h5⟩; exact ⟨h1,h2,h3,h4,h5⟩
 have e : cnd (((a.Edits.length : Nat) : Int) != ((b.Edits.length : Nat) : Int)) (some false) (bnd2 (nP n b a n 0) (fun _=>(some false)) (fun _=>(some true)))=some (decide (a.Edits=b.Edits)):=by
  by_cases hab : a.Edits.length=b.Edits.length
  ·have h:=l49 n (by omega) a b hs hab a.Edits.length n 0 (by omega) (by omega)
   rw [show ((0 : Nat) : Int)=0 from rfl,List.drop_zero,List.drop_zero] at h
   rw [hab]
   simp only [bne_self_eq_false,cnd]
   rcases h with ⟨h1,h2⟩ | ⟨h1,t,h2⟩
   ·rw [h2,decide_eq_true h1]; rfl
   ·rw [h2,decide_eq_false h1]; rfl
  ·have : (((a.Edits.length : Nat) : Int) != ((b.Edits.length : Nat) : Int))=true:=by
    simp only [bne_iff_ne,ne_eq]
    omega
   rw [this,decide_eq_false (fun e=>hab (by rw [e]))]
   rfl
 rw [f49,key]
 simp only [kK (aKk (n + 1) a b (by omega)),aPk,kK (aAg n)]
 rw [e]
 cases decide (aEb a b) <;> cases decide (a.Source=b.Source) <;> cases decide (a.Edits=b.Edits) <;> rfl
end Go.Proofs.YtkdnaejhpcibnaaGreatDoor.Av
namespace Go.Proofs.YtkdnaejhpcibnaaGreatDoor.Av
open Go Go.IntWalk
theorem find (n q : Nat) (K : List GTxn) (o : GOffice) (v : List GTxn) (x : GTxn) (hl : K.length ≤ 1000) : ∀ (d m m' k : Nat),k + d=K.length→d < m→d < m' →
  (∃ j,j < K.length∧key2 (tx K j) x∧nR (n + 1) K o v x m (k : Int)=some (.inl (j : Int))∧tE q K x.Office x.Seq m' (k : Int)=some (.inl (j : Int))) ∨
  ((∀ j,k ≤ j→j < K.length→¬ key2 (tx K j) x)∧nR (n + 1) K o v x m (k : Int)=some (.inr ())∧tE q K x.Office x.Seq m' (k : Int)=some (.inr ())):=by
 intro d
 induction d with
 | zero =>
  intro m m' k hk hm hm'
  obtain ⟨m,rfl⟩ : ∃ z,m=z + 1:=⟨m - 1,by omega⟩
  obtain ⟨m',rfl⟩ : ∃ z,m'=z + 1:=⟨m' - 1,by omega⟩
  right
  rw [nR,tE,decide_eq_false (by omega)]
  exact ⟨fun j h1 h2=>by omega,rfl,rfl⟩
 | succ d ih =>
  intro m m' k hk hm hm'
  obtain ⟨m,rfl⟩ : ∃ z,m=z + 1:=⟨m - 1,by omega⟩
  obtain ⟨m',rfl⟩ : ∃ z,m'=z + 1:=⟨m' - 1,by omega⟩
  have h : k < K.length:=by omega
  rw [nR,tE,decide_eq_true (by omega)]
  simp only [cnd,kK (aEy h),kK (qV h),kK (aAg n),aPs]
  by_cases e1 : (tx K k).Office=x.Office
  ·by_cases e2 : (tx K k).Seq=x.Seq
   ·rw [decide_eq_true e1,decide_eq_true e2]
    exact .inl ⟨k,h,⟨e1,e2⟩,rfl,rfl⟩
   ·rw [decide_eq_true e1,decide_eq_false e2]
    simp only [lE (show k < 100000 by omega)]
    rcases ih m m' (k + 1) (by omega) (by omega) (by omega) with h1 | ⟨h1,h2⟩
    ·exact .inl h1
    ·refine .inr ⟨fun j j1 j2=>?_,h2⟩
     rcases Nat.lt_or_ge k j with h3 | h3
     ·exact h1 j h3 j2
     ·obtain rfl : j=k:=by omega
      exact fun hh=>e2 hh.2
  ·rw [decide_eq_false e1]
   simp only [lE (show k < 100000 by omega)]
   rcases ih m m' (k + 1) (by omega) (by omega) (by omega) with h1 | ⟨h1,h2⟩
   ·exact .inl h1
   ·refine .inr ⟨fun j j1 j2=>?_,h2⟩
    rcases Nat.lt_or_ge k j with h3 | h3
    ·exact h1 j h3 j2
    ·obtain rfl : j=k:=by omega
     exact fun hh=>e1 hh.1
theorem bs11 (n : Nat) (l : List GTxn) (o : GOffice) (v : List GTxn) (x : GTxn) : ∀ (m : Nat) (i j : Int),oH n l o v x m i j=bsL n l x m i j
 | 0,_,_=>rfl
 | m + 1,i,j=>by simp only [oH,bsL,bs11 n l o v x m]
theorem cp11 (n : Nat) (o : GOffice) : ∀ (m : Nat) (l : List GTxn) (i : Int),pP n o m l i=cpL n o m l i
 | 0,_,_=>rfl
 | m + 1,l,i=>by simp only [pP,cpL,cp11 n o m]
structure Got (K l K' : List GTxn) (i : Nat) : Prop where
 srt : Srt K'
 sm : Sm K'
 len : K'.length ≤ K.length + (l.length - i)
 mem : ∀ t,t ∈ K' ↔ t ∈ K ∨ ∃ j,i ≤ j∧j < l.length∧t=tx l j
theorem aMu (n : Nat) (hn : 5000 ≤ n) (l : List GTxn) (o : GOffice) (v0 : List GTxn) (hsl : Sm l) (hll : l.length ≤ 14) : ∀ (d m i : Nat) (K : List GTxn),i + d=l.length→d < m→Srt K→Sm K→K.length ≤ 100 - d →
  (∃ t1 t2,pD n l o v0 m K (i : Int)=some (.inl t1)∧tM n l o m K (i : Int)=some (.inl t2)∧t1.2.2.2.2.2.2.2.2.2.2.2=t2.2∧t2.2 ≠ 0) ∨
  (∃ K',pD n l o v0 m K (i : Int)=some (.inr K')∧tM n l o m K (i : Int)=some (.inr K')∧Got K l K' i):=by
 obtain ⟨n,rfl⟩ : ∃ z,n=z + 6:=⟨n - 6,by omega⟩
 intro d
 induction d with
 | zero =>
  intro m i K hi hm hK hs hlen
  obtain ⟨m,rfl⟩ : ∃ z,m=z + 1:=⟨m - 1,by omega⟩
  right
  rw [pD,tM,decide_eq_false (by omega)]
  exact ⟨K,rfl,rfl,hK,hs,by omega,fun t=>⟨.inl,fun h=>by
   rcases h with h | ⟨j,j1,j2,_⟩
   ·exact h
   ·omega⟩⟩
 | succ d ih =>
  intro m i K hi hm hK hs hlen
  obtain ⟨m,rfl⟩ : ∃ z,m=z + 1:=⟨m - 1,by omega⟩
  have h : i < l.length:=by omega
  have hx:=hsl _ (vT h)
  obtain ⟨c,hc⟩:=aI5 _ hx
  rw [pD,tM,decide_eq_true (by omega)]
  simp only [cnd,kK (qV h),kK (aAg (n + 5)),kK (hc (n + 5) (by omega)).1,kK (hc (n + 6) (by omega)).2]
  by_cases hc0 : c=0
  ·subst hc0
   simp only [bne_self_eq_false,kK (aAg (n + 4)),lE (show i < 100000 by omega)]
   have hf:=find (n + 3) (n + 6 - 1) K o v0 (tx l i) (by omega) K.length (n + 4) (n + 5) 0 (by omega) (by omega) (by omega)
   rw [show ((0 : Nat) : Int)=0 from rfl] at hf
   have hstep : ∀ (K2 : List GTxn),Srt K2→Sm K2→K2.length ≤ K.length + 1→(∀ t,t ∈ K2 ↔ t ∈ K ∨ t=tx l i) →
     (∃ t1 t2,pD (n + 6) l o v0 m K2 ((i + 1 : Nat) : Int)=some (.inl t1)∧tM (n + 6) l o m K2 ((i + 1 : Nat) : Int)=some (.inl t2)∧t1.2.2.2.2.2.2.2.2.2.2.2=t2.2∧t2.2 ≠ 0) ∨
     (∃ K',pD (n + 6) l o v0 m K2 ((i + 1 : Nat) : Int)=some (.inr K')∧tM (n + 6) l o m K2 ((i + 1 : Nat) : Int)=some (.inr K')∧Got K l K' i):=by
    intro K2 a1 a2 a3 a4
    rcases ih m (i + 1) K2 (by omega) (by omega) a1 a2 (by omega) with h1 | ⟨K',b1,b2,b3⟩
    ·exact .inl h1
    ·refine .inr ⟨K',b1,b2,b3.srt,b3.sm,by have:=b3.len; omega,fun t=>?_⟩
     rw [b3.mem,a4]
     constructor
     ·rintro ((h1 | h1) | ⟨j,j1,j2,j3⟩)
      ·exact .inl h1
      ·exact .inr ⟨i,Nat.le_refl _,h,h1⟩
      ·exact .inr ⟨j,by omega,j2,j3⟩
     ·rintro (h1 | ⟨j,j1,j2,j3⟩)
      ·exact .inl (.inl h1)
      ·rcases Nat.lt_or_ge i j with h5 | h5
       ·exact .inr ⟨j,h5,j2,j3⟩
       ·obtain rfl : j=i:=by omega
        exact .inl (.inr j3)
   rcases hf with ⟨j,j1,j2,j3,j4⟩ | ⟨hno,j3,j4⟩
   ·have e29 : f29 (n + 6) K (tx l i).Office (tx l i).Seq=some (j : Int):=by
     rw [f29]
     have : tE (n + 5) K (tx l i).Office (tx l i).Seq (n + 5) 0=some (.inl (j : Int)):=j4
     rw [this]
     rfl
    have d1 : decide ((j : Int) ≥ 0)=true:=decide_eq_true (by omega)
    rw [j3]
    simp only [bnd2,kK e29,d1,kK (aEy j1),kK (qV j1),kK (aYq (n + 4) (by omega) (tx K j) (tx l i) (hs _ (vT j1))),kK (aYy (n + 5) (by omega) (tx K j) (tx l i) (hs _ (vT j1)))]
    by_cases he : tx K j=tx l i
    ·rw [decide_eq_true he]
     refine hstep K hK hs (by omega) fun t=>⟨.inl,fun h5=>?_⟩
     rcases h5 with h5 | h5
     ·exact h5
     ·rw [h5,← he]; exact vT j1
    ·rw [decide_eq_false he]
     exact .inl ⟨_,_,rfl,rfl,rfl,show (16 : Int) ≠ 0 by decide⟩
   ·have e29 : f29 (n + 6) K (tx l i).Office (tx l i).Seq=some (-1):=by
     rw [f29]
     have : tE (n + 5) K (tx l i).Office (tx l i).Seq (n + 5) 0=some (.inr ()):=j4
     rw [this]
     rfl
    have d1 : decide ((-1 : Int) ≥ 0)=false:=rfl
    have d2 : decide (((K.length : Nat) : Int) ≥ 256)=false:=decide_eq_false (by omega)
    rw [j3]
    simp only [bnd2,kK e29,d1,d2,kK (aAg (n + 4)),kK (aAg (n + 3)),kK (aAg (n + 2))]
    have hp:=yP K (tx l i)
    have g2:=bGr (n + 3) (by omega) K (tx l i) hK (by omega) K.length (n + 3) K.length 0 (by omega) (by omega) (Nat.zero_le _) hp (Nat.le_refl _)
    rw [show ((0 : Nat) : Int)=0 from rfl] at g2
    have g3:=aJy (n + 3) (by omega) (tx l i) hx
    have g4:=aVh K (tx l i) (by omega)
    have g5:=aT0 (n + 5) (by omega) K (tx l i) (by omega)
    have hkey : ∀ x ∈ K,¬ key2 x (tx l i):=by
     intro y hy
     obtain ⟨j,hj,rfl⟩:=List.getElem_of_mem hy
     have:=hno j (Nat.zero_le _) hj
     rwa [yL hj] at this
    have hfin:=hstep (ins K (tx l i)) (aVf hK hkey) (fun t ht=>by
     rcases (aN8 _ _ _).1 ht with rfl | h5
     ·exact hx
     ·exact hs t h5) (by rw [aN9]; omega) (fun t=>by rw [aN8]; exact Or.comm)
    simp only [bs11,kK g2,kK g3,kK g4,kK g5]
    by_cases hq : pos K (tx l i) < K.length
    ·rw [decide_eq_true (show ((pos K (tx l i) : Nat) : Int) < ((K.length : Nat) : Int) by omega)]
     simp only [kK (aEy hq),kK (aKk (n + 3) _ _ (by omega))]
     cases (cmpT (tx K (pos K (tx l i))) (tx l i) == 0) with
     | true=>exact hfin
     | false=>exact hfin
    ·rw [decide_eq_false (show ¬ ((pos K (tx l i) : Nat) : Int) < ((K.length : Nat) : Int) by omega)]
     exact hfin
  ·have hb : (c != 0)=true:=by simpa using hc0
   rw [hb]
   exact .inl ⟨_,_,rfl,rfl,rfl,hc0⟩
theorem aT8 (n : Nat) (hn : 6000 ≤ n) (o : GOffice) (l : List GTxn) (hs : Sm o.Txns) (hl : o.Txns.length ≤ 14) (hsl : Sm l) (hll : l.length ≤ 14) :
  ∃ r : GOffice × Int,f11 (n + 1) o l=some r∧f12 (n + 1) o l=some r∧Sm r.1.Txns∧r.1.Txns.length ≤ 100 ∧
   ((r.2=0∧OkO o∧r.1.ID=o.ID∧Got o.Txns l r.1.Txns 0) ∨ (r.2 ≠ 0∧r.1.Txns=[])):=by
 obtain ⟨k,rfl⟩ : ∃ k,n=k + 1:=⟨n - 1,by omega⟩
 have hz : Sm (GOffice.mk 0 []).Txns:=fun t ht=>by cases ht
 rw [f11,f12]
 obtain ⟨v,h1,h2,h3⟩:=aP3 k (by omega) o hs hl
 simp only [kK h1,kK h2]
 cases v with
 | false=>exact ⟨_,rfl,rfl,hz,by simp,.inr ⟨by decide,rfl⟩⟩
 | true =>
 have ok:=h3 rfl
 have g1:=bD6 k (by omega) o hs (by omega) o.Txns.length k 0 (by omega) (by omega)
 rw [show ((0 : Nat) : Int)=0 from rfl,List.take_zero] at g1
 have g2 : app ([] : List GTxn) o.Txns=some o.Txns:=qK (by simp; omega)
 simp only [cnd,kK (aAg k),cp11,kK g1,kK g2]
 have hr:=aMu (k + 1) (by omega) l o o.Txns hsl hll l.length (k + 1) 0 o.Txns (by omega) (by omega) ok.srt hs (by omega)
 rw [show ((0 : Nat) : Int)=0 from rfl] at hr
 rcases hr with ⟨t1,t2,a1,a2,a3,a4⟩ | ⟨K',a1,a2,a3⟩
 ·rw [a1,a2]
  simp only [bnd2,a3]
  exact ⟨_,rfl,rfl,hz,by simp,.inr ⟨a4,rfl⟩⟩
 ·rw [a1,a2]
  simp only [bnd2]
  exact ⟨_,rfl,rfl,a3.sm,by have:=a3.len; show K'.length ≤ 100; omega,.inl ⟨rfl,ok,rfl,a3⟩⟩
end Go.Proofs.YtkdnaejhpcibnaaGreatDoor.Av
namespace Go.Proofs.YtkdnaejhpcibnaaGreatDoor.Av
open Go Go.IntWalk
def cnt (c : GClock) (a : Int) : Int:=if a < 1 then 0 else if a > 8 then 0 else if a > ((c.Counts.length : Nat) : Int) then 0 else imax 0 (c.Counts.getD (a.toNat - 1) 0)
def knw (c : GClock) (t : GTxn) : Bool:=decide (1 ≤ t.Seq) && decide (t.Seq ≤ cnt c t.Office)
theorem aXp (n : Nat) (x : Int) : f80 (n + 1) x 0=some (imax 0 x):=by
 simp only [f80,sF,decide_eq_true_eq,imax]
 split <;> split <;> first | rfl | (congr 1; omega)
theorem aOd {c : GClock} {a : Int} (h1 : ¬ a < 1) (h2 : ¬ a > 8) (h3 : ¬ a > ((c.Counts.length : Nat) : Int)) : idx c.Counts (IntKind.i64.wrap (a - 1))=some (c.Counts.getD (a.toNat - 1) 0):=by
 have e : IntKind.i64.wrap (a - 1)=((a.toNat - 1 : Nat) : Int):=by rw [i64_in _ (by omega)]; omega
 have hlt : a.toNat - 1 < c.Counts.length:=by omega
 rw [e,nI hlt]
 simp [hlt]
theorem aYj (n : Nat) (c : GClock) (a : Int) : f56 (n + 2) c a=some (cnt c a):=by
 rw [f56,cnt]
 by_cases h1 : a < 1
 ·rw [decide_eq_true h1,if_pos h1]; rfl
 rw [decide_eq_false h1,if_neg h1]
 by_cases h2 : a > 8
 ·rw [decide_eq_true h2,if_pos h2]; rfl
 rw [decide_eq_false h2,if_neg h2]
 by_cases h3 : a > ((c.Counts.length : Nat) : Int)
 ·rw [decide_eq_true h3,if_pos h3]; rfl
 rw [decide_eq_false h3,if_neg h3]
 simp only [cnd,kK (aOd h1 h2 h3),kK (aXp n _)]
theorem aXr (n : Nat) (c : GClock) (a : Int) : f79 (n + 1) c a=some (cnt c a):=by
 rw [f79,cnt]
 by_cases h1 : a < 1
 ·rw [decide_eq_true h1,if_pos h1]; rfl
 rw [decide_eq_false h1,if_neg h1]
 by_cases h2 : a > 8
 ·rw [decide_eq_true h2,if_pos h2]; rfl
 rw [decide_eq_false h2,if_neg h2]
 by_cases h3 : a > ((c.Counts.length : Nat) : Int)
 ·rw [decide_eq_true h3,if_pos h3]; rfl
 rw [decide_eq_false h3,if_neg h3]
 simp only [cnd,kK (aOd h1 h2 h3)]
theorem aYt (n : Nat) (c : GClock) (t : GTxn) : f35 (n + 3) c t.Office t.Seq=some (knw c t):=by
 rw [f35,knw]
 simp only [kK (aYj n c _)]
 cases decide (1 ≤ t.Seq) <;> cases decide (t.Seq ≤ cnt c t.Office) <;> rfl
theorem aYm (n : Nat) (c : GClock) (t : GTxn) : f53 (n + 3) c t.Office t.Seq=some (knw c t):=by
 rw [f53,knw]
 simp only [kK (aXr (n + 1) c _),ge_iff_le]
 cases decide (1 ≤ t.Seq) <;> cases decide (t.Seq ≤ cnt c t.Office) <;> rfl
theorem aY8 (n : Nat) (l : List GPoint) (h : l.length ≤ 1000) : f51 (n + 1) l=some l:=by
 rw [f51]
 cases l with
 | nil=>rfl
 | cons x r =>
  have e : app ([] : List GPoint) (x :: r)=some (x :: r):=qK (by simpa using (show r.length + 1 ≤ 1000000 by simp at h; omega))
  simp only [List.isEmpty_cons,cnd,kK e]
theorem aY7 (n : Nat) (l : List Int) (h : l.length ≤ 1000) : f52 (n + 1) l=some l:=by
 rw [f52]
 cases l with
 | nil=>rfl
 | cons x r =>
  have e : app ([] : List Int) (x :: r)=some (x :: r):=qK (by simpa using (show r.length + 1 ≤ 1000000 by simp at h; omega))
  simp only [List.isEmpty_cons,cnd,kK e]
theorem aLd (n : Nat) (K : List GTxn) (o : GOffice) (k : Int) (c : GClock) (t : GTxn) (hs : SmE t) : ∀ (d m i : Nat),i + d=t.Edits.length→d < m→nL (n + 1) K o k t.Edits c t m t.Edits (i : Int)=some t.Edits:=by
 have hl:=hs.len
 intro d
 induction d with
 | zero =>
  intro m i hi hm
  obtain ⟨m,rfl⟩ : ∃ z,m=z + 1:=⟨m - 1,by omega⟩
  rw [nL,decide_eq_false (by omega)]
  rfl
 | succ d ih =>
  intro m i hi hm
  obtain ⟨m,rfl⟩ : ∃ z,m=z + 1:=⟨m - 1,by omega⟩
  have h : i < t.Edits.length:=by omega
  have hm:=List.getElem_mem h
  have hv:=hs.via _ hm
  have hp:=hs.parts _ hm
  rw [nL,decide_eq_true (by omega)]
  have e0 : (GEdit.mk t.Edits[i].Kind t.Edits[i].ID t.Edits[i].A t.Edits[i].B t.Edits[i].C t.Edits[i].At t.Edits[i].Via t.Edits[i].Name t.Edits[i].Parts)=t.Edits[i]:=rfl
  simp only [cnd,kK (aJw h h),kK (aY8 n _ (show t.Edits[i].Via.length ≤ 1000 by omega)),kK (aY7 n _ (show t.Edits[i].Parts.length ≤ 1000 by omega)),e0,Int.toNat_natCast,aMo _ i h,lE (show i < 100000 by omega)]
  exact ih m (i + 1) (by omega) (by omega)
def miss (c : GClock) (l : List GTxn) : List GTxn:=l.filter fun t=>!knw c t
theorem aNn {c : GClock} {l : List GTxn} {i : Nat} (h : i < l.length) : miss c (l.drop i)=if knw c (tx l i)=true then miss c (l.drop (i + 1)) else tx l i :: miss c (l.drop (i + 1)):=by
 rw [List.drop_eq_getElem_cons h,yL h]
 unfold miss
 rw [List.filter_cons]
 cases knw c l[i] <;> rfl
theorem aQt (c : GClock) (l : List GTxn) : (miss c l).length ≤ l.length:=List.length_filter_le _ _
theorem aMq (n : Nat) (hn : 100 ≤ n) (q : Nat) (hq : 100 ≤ q) (o : GOffice) (c : GClock) (hs : Sm o.Txns) (hl : o.Txns.length ≤ 1000) : ∀ (d m m' i : Nat) (K : List GTxn),i + d=o.Txns.length→d < m→d < m'→K.length ≤ i →
  nQ n o c m K (i : Int)=some (K++miss c (o.Txns.drop i))∧yW q o.Txns c m' K (i : Int)=some (K++miss c (o.Txns.drop i)):=by
 obtain ⟨n,rfl⟩ : ∃ z,n=z + 3:=⟨n - 3,by omega⟩
 obtain ⟨q,rfl⟩ : ∃ z,q=z + 3:=⟨q - 3,by omega⟩
 intro d
 induction d with
 | zero =>
  intro m m' i K hi hm hm' hK
  obtain ⟨m,rfl⟩ : ∃ z,m=z + 1:=⟨m - 1,by omega⟩
  obtain ⟨m',rfl⟩ : ∃ z,m'=z + 1:=⟨m' - 1,by omega⟩
  rw [nQ,yW,decide_eq_false (by omega),List.drop_of_length_le (by omega)]
  simp [cnd,miss]
 | succ d ih =>
  intro m m' i K hi hm hm' hK
  obtain ⟨m,rfl⟩ : ∃ z,m=z + 1:=⟨m - 1,by omega⟩
  obtain ⟨m',rfl⟩ : ∃ z,m'=z + 1:=⟨m' - 1,by omega⟩
  have h : i < o.Txns.length:=by omega
  have hx:=hs _ (vT h)
  have hel:=hx.len
  rw [nQ,yW,decide_eq_true (by omega),aNn h]
  simp only [cnd,kK (qV h),kK (aYt n c _),kK (aYm q c _),lE (show i < 100000 by omega)]
  cases hk : knw c (tx o.Txns i) with
  | true =>
   simp only [if_true]
   exact ih m m' (i + 1) K (by omega) (by omega) (by omega) (by omega)
  | false =>
   simp only [Bool.false_eq_true,if_false,kK (aAg (n + 2))]
   have e1 : app K [tx o.Txns i]=some (K++[tx o.Txns i]):=qK (by simp; omega)
   have r:=ih m m' (i + 1) (K++[tx o.Txns i]) (by omega) (by omega) (by omega) (by simp; omega)
   rw [List.append_assoc,List.singleton_append] at r
   simp only [kK e1]
   refine ⟨?_,r.2⟩
   cases he : (tx o.Txns i).Edits.isEmpty with
   | true =>
    have e : (tx o.Txns i).Edits=[]:=List.isEmpty_iff.1 he
    have e2 : GTxn.mk (tx o.Txns i).Office (tx o.Txns i).Seq (tx o.Txns i).Time (tx o.Txns i).Source []=tx o.Txns i:=by rw [← e]
    have h1 : uF (n + 3) K o (i : Int) c (tx o.Txns i) (n + 3)=some ():=rfl
    simp only [kK h1,e2,kK e1]
    exact r.1
   | false =>
    have e3 : app ([] : List GEdit) (tx o.Txns i).Edits=some (tx o.Txns i).Edits:=qK (by simp; omega)
    have h1:=aLd (n + 2) K o (i : Int) c (tx o.Txns i) hx (tx o.Txns i).Edits.length (n + 3) 0 (by omega) (by omega)
    rw [show ((0 : Nat) : Int)=0 from rfl] at h1
    simp only [kK e3,kK h1,kK e1]
    exact r.1
theorem aT7 (n : Nat) (hn : 3000 ≤ n) (o : GOffice) (c : GClock) (hs : Sm o.Txns) (hl : o.Txns.length ≤ 1000) : f13 (n + 1) o c=some (miss c o.Txns)∧f14 (n + 1) o c=some (miss c o.Txns):=by
 obtain ⟨n,rfl⟩ : ∃ z,n=z + 1:=⟨n - 1,by omega⟩
 have h:=aMq n (by omega) n (by omega) o c hs hl o.Txns.length n n 0 [] (by omega) (by omega) (by omega) (by simp)
 rw [show ((0 : Nat) : Int)=0 from rfl,List.drop_zero,List.nil_append] at h
 have h31 : f31 (n + 1) c o.Txns=some (miss c o.Txns):=by rw [f31]; simp only [kK h.2]
 rw [f13,f14]
 simp only [kK (aAg n),kK h.1,kK h31,and_self]
theorem aUk {c : GClock} {l : List GTxn} (hs : Sm l) : Sm (miss c l):=fun t ht=>hs t (List.mem_filter.1 ht).1
theorem aCo (o : GOffice) (l : List GTxn) (c : GClock) : f1 20001 o l c=some true:=by
 rw [f1]
 obtain ⟨v,h1,h2⟩:=aJd 19999 (by omega) o.Txns
 simp only [kK h1,kK (aYh (show 10000 ≤ 20000 by omega))]
 cases v with
 | false=>rfl
 | true =>
 obtain ⟨v,k1,k2⟩:=aJd 19999 (by omega) l
 simp only [cnd,kK k1]
 cases v with
 | false=>rfl
 | true =>
 simp only
 cases decide (((c.Counts.length : Nat) : Int) > 20) with
 | true=>rfl
 | false =>
 obtain ⟨r,r1,r2,r3,r4,_⟩:=aT8 19999 (by omega) o l (h2 rfl).1 (h2 rfl).2 (k2 rfl).1 (k2 rfl).2
 have hm:=aQt c o.Txns
 have ho:=(h2 rfl).2
 obtain ⟨q1,q2⟩:=aT7 19999 (by omega) o c (h2 rfl).1 (by omega)
 have s1:=aWe 19999 (by omega) r.1 r3 (by omega)
 have s2:=aR6 19999 (by omega) (miss c o.Txns) (aUk (h2 rfl).1) (by omega)
 simp only [kK r1,kK r2,kK q1,kK q2,kK s1,kK s2,beq_self_eq_true]
end Go.Proofs.YtkdnaejhpcibnaaGreatDoor.Av
namespace Go.Proofs.YtkdnaejhpcibnaaGreatDoor.Av
open Go Go.Proofs
set_option maxRecDepth 100000
open Go.Proofs.YtkdnaejhpcibnaaGreatDoor in
theorem zI (os : Os) (started : os.Started) (H : Type) (enc : TypeId × Value→H) :
  ReturnsInHanded {} Tryz.checked os 4 .any (fun w args=>(Rows.officeExchangesSpec.pre enc Tryz.prog Tryz.f4 [] false w args∧laidMetH Tryz.prog Rows.officeExchangesRow.laid w)∧sizedMet enc Tryz.prog Tryz.f4 (OpenSpec.ofChange Rows.officeExchangesSpec) false w args)
   (Rows.officeExchangesSpec.post enc Tryz.prog Tryz.f4 false true false false):=by
 refine aE0 (C:=Tryz.checked) (X:=fun w _=>laidMetH Tryz.prog Rows.officeExchangesRow.laid w) (fun _ _ _ hh h=>h.of_heap hh) own started (by kernel_rfl) Tryz.func4
  (ChangeSpec.witness_shaped (enc:=enc) (C:=Tryz.checked) (os:=os) (X:=fun w _=>laidMetH Tryz.prog Rows.officeExchangesRow.laid w) false (World.laidAll Tryz.prog os Rows.officeExchangesRow.laid) #[.agg #[.int .i64 0,.slice none 0 0],.slice none 0 0,.agg #[.slice none 0 0]] 8 (World.laidAll_os _ _ _)
   (World.shaped_of_ZipB (by kernel_rfl) (by kernel_rfl)) (by kernel_rfl) (by kernel_rfl) (by kernel_rfl)
   (by rw [MakeChecks.laidMetH_plain _ _ _ (by kernel_rfl)]; exact laidMet_laidAll _ (by kernel_rfl) (by kernel_rfl))) ?_
 intro W base args ds gs before hval hW hlaid hsh
 have hds : ∃ d0 d1 d2,ds=[d0,d1,d2]∧gs=[]:=by
  obtain ⟨p,q,hA,hV,_⟩:=hW
  have hA' : DataW.TrodAll enc Tryz.prog W 0 (fun _=>true) true [24,22,37] args.toList ds p:=by
   have:=hA
   rw [Tryz.params4] at this
   exact this
  obtain ⟨v0,vs0,d0,ds0,p0,q0,_,rfl,rfl,h0,r0⟩:=ChangeShapes.trodAll_cons hA'
  obtain ⟨v1,vs1,d1,ds1,p1,q1,_,rfl,rfl,h1,r1⟩:=ChangeShapes.trodAll_cons r0
  obtain ⟨v2,vs2,d2,ds2,p2,q2,_,rfl,rfl,h2,r2⟩:=ChangeShapes.trodAll_cons r1
  obtain ⟨rfl,rfl,rfl⟩:=ChangeShapes.trodAll_nil r2
  obtain ⟨rfl,rfl⟩:=ChangeShapes.trodVars_none hV
  exact ⟨_,_,_,rfl,rfl⟩
 obtain ⟨d0,d1,d2,rfl,rfl⟩:=hds
 refine aGd (T:=T) (n:=10) (vi:=1) mixed checked aT9 (by kernel_rfl) rfl (tb:=4) (by kernel_rfl) (by kernel_rfl) laid (by rw [Tryz.params4]; intro t ht; simp at ht; rcases ht with rfl | rfl | rfl <;> exact ⟨by kernel_rfl,of_decide_eq_true (by kernel_rfl)⟩) (by kernel_rfl) ?_ (aQz hlaid hsh) ⟨rfl,rfl,rfl⟩ hval hW
 intro xs hxs
 rw [Tryz.params4] at hxs
 obtain ⟨x0,x1,x2,rfl,h0,h1,h2⟩:=aMn hxs
 obtain ⟨a0,rfl⟩:=aMb h0
 obtain ⟨a1,rfl⟩:=aRw h1
 obtain ⟨a2,rfl⟩:=aPx h2
 exact ⟨20001,aPb (bDy 20001 a0 a1 a2 true (aCo a0 a1 a2))⟩
open Go.Proofs.YtkdnaejhpcibnaaGreatDoor in
theorem aC5 : Rows.OfficeExchangesSaid :=
 OpenClaim.holds_of_wide 4 Tryz.f4 rfl rfl rfl rfl rfl rfl rfl ⟨rfl,rfl,rfl,rfl,rfl⟩ rfl rfl rfl rfl rfl (by kernel_rfl) Tryz.func4 aPm
  (of_decide_eq_true (by kernel_rfl)) (by unfold Func.isWrapper; first | (rw [if_pos (by decide +kernel)]; kernel_rfl) | (rw [if_neg (by decide +kernel)]; exact ⟨rfl,rfl⟩))
  (fun os started H enc _=>zI os started H enc)
open Go.Proofs.YtkdnaejhpcibnaaGreatDoor in
theorem exchanges_card : Rows.OfficeExchangesCardSaid :=
 Claim7.holds_tied_plain_at .later [] [.data] true (true, "13ef1da9d887c7b8949677d6daa88fa6b1e024909eb534004b64fd53ef0d4880") false
  aC5 (fun _ h=>by cases h) bDo (fun _ h=>by cases h) officeExchanges_row_tie rfl ⟨rfl,rfl⟩ bDp rfl
  (fun f fn hf hfn=>by
   obtain rfl : f=4:=Option.some.inj (kf_ex.symm.trans hf) |>.symm
   obtain rfl : fn=Tryz.f4:=(Option.some.inj (Tryz.func4.symm.trans hfn)).symm
   exact ⟨bDq,fun j t ht=>by
    rw [Tryz.params4] at ht
    exact match j,ht with
    | 0,ht=>(by have e : 24=t:=(by simpa using ht); subst e; exact aUn)
    | 1,ht=>(by have e : 22=t:=(by simpa using ht); subst e; exact aUo)
    | 2,ht=>(by have e : 37=t:=(by simpa using ht); subst e; exact aUm)
    | n + 3,ht=>(by simp at ht)⟩)
  bDr
end Go.Proofs.YtkdnaejhpcibnaaGreatDoor.Av
