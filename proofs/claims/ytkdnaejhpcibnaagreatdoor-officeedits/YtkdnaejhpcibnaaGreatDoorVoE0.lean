/- A part of the proofs of laws of the chapter office: an evaluator of the program, proved sound, and what it says. -/
import Derived.Test.YtkdnaejhpcibnaaGreatDoorVoPm
import Derived.IntWalk
import Derived.Test.YtkdnaejhpcibnaaGreatDoorCards
import Derived.Test.YtkdnaejhpcibnaaGreatDoorVoJ0
set_option linter.unusedVariables false
set_option linter.unusedSimpArgs false
namespace Go.Proofs.YtkdnaejhpcibnaaGreatDoor.Av
open Go Go.IntWalk
def bef (a b : GTxn) : Bool:=decide (a.Time < b.Time ∨ (a.Time = b.Time ∧ (a.Office < b.Office ∨ (a.Office = b.Office ∧ a.Seq < b.Seq))))
theorem bef_iff (a b : GTxn) : bef a b = true ↔ (a.Time < b.Time ∨ (a.Time = b.Time ∧ (a.Office < b.Office ∨ (a.Office = b.Office ∧ a.Seq < b.Seq)))):=by simp [bef]
theorem bef_trans {a b c : GTxn} (h : bef a b = true) (k : bef b c = true) : bef a c = true:=by
 rw [bef_iff] at *; omega
def same3 (a b : GTxn) : Prop:=a.Time = b.Time ∧ a.Office = b.Office ∧ a.Seq = b.Seq
def key2 (a b : GTxn) : Prop:=a.Office = b.Office ∧ a.Seq = b.Seq
instance (a b : GTxn) : Decidable (key2 a b):=inferInstanceAs (Decidable (_ ∧ _))
theorem f44_eq (n : Nat) (a b : GTxn) : f44 (n + 1) a b = some (bef a b):=by
 have hb : ∀ x y : Int,(x != y) = decide (x ≠ y):=fun x y => by by_cases h : x = y <;> simp [h]
 simp only [f44,cnd_ite,hb,decide_eq_true_eq,bef]
 split
 ·split
  ·rw [decide_eq_true]; omega
  ·rw [decide_eq_false]; omega
 ·split
  ·split
   ·rw [decide_eq_true]; omega
   ·rw [decide_eq_false]; omega
  ·split
   ·rw [decide_eq_true]; omega
   ·rw [decide_eq_false]; omega
def cmp3 (a b : Int) : Int:=if a < b then -1 else if a > b then 1 else 0
theorem f84_eq (n : Nat) (a : Int) : f84 (n + 1) a = some false:=by simp [f84,cnd]
theorem f63_eq (n : Nat) (a b : Int) : f63 (n + 2) a b = some (cmp3 a b):=by
 simp only [f63,bnd_of (f84_eq n _),cnd_ite,cmp3,decide_eq_true_eq,Bool.false_eq_true,if_false]
 split <;> (try split) <;> rfl
theorem f64_L0_at (n m : Nat) (l : List Int) (i : Nat) (h : i < l.length) (hi : i < 1000) : f64_L0 n l (m + 1) (i : Int) = cnd (l[i] != 0) (some (Sum.inl l[i])) (f64_L0 n l m ((i + 1 : Nat) : Int)):=by
 rw [f64_L0,decide_eq_true (by omega)]
 simp only [cnd,bnd_of (idx_get h),wrap_succ (show i < 100000 by omega)]
theorem f64_L0_end (n m : Nat) (l : List Int) (i : Nat) (h : i = l.length) : f64_L0 n l (m + 1) (i : Int) = some (.inr ()):=by
 rw [f64_L0,decide_eq_false (by omega)]
 rfl
def first3 (a b c : Int) : Int:=if a ≠ 0 then a else if b ≠ 0 then b else c
theorem f64_eq (n : Nat) (a b c : Int) (hn : 5 ≤ n) : f64 n [a,b,c] = some (first3 a b c):=by
 obtain ⟨n,rfl⟩ : ∃ k,n = k + 5:=⟨n - 5,by omega⟩
 have hb : ∀ x y : Int,(x != y) = decide (x ≠ y):=fun x y => by by_cases h : x = y <;> simp [h]
 have h0:=f64_L0_at (n + 4) (n + 3) [a,b,c] 0 (by simp) (by omega)
 have h1:=f64_L0_at (n + 4) (n + 2) [a,b,c] 1 (by simp) (by omega)
 have h2:=f64_L0_at (n + 4) (n + 1) [a,b,c] 2 (by simp) (by omega)
 have h3:=f64_L0_end (n + 4) n [a,b,c] 3 rfl
 rw [f64]
 rw [show ((0 : Nat) : Int) = 0 from rfl] at h0
 rw [h0,h1,h2,h3]
 simp only [List.getElem_cons_zero,List.getElem_cons_succ,hb,cnd_ite,decide_eq_true_eq,first3]
 by_cases ha : a = 0
 ·by_cases hb : b = 0
  ·by_cases hc : c = 0
   ·simp [ha,hb,hc,bnd2]
   ·simp [ha,hb,hc,bnd2]
  ·simp [ha,hb,bnd2]
 ·simp [ha,bnd2]
def cmpT (a b : GTxn) : Int:=first3 (cmp3 a.Time b.Time) (cmp3 a.Office b.Office) (cmp3 a.Seq b.Seq)
theorem f39_eq (n : Nat) (a b : GTxn) (hn : 10 ≤ n) : f39 n a b = some (cmpT a b):=by
 obtain ⟨n,rfl⟩ : ∃ k,n = k + 10:=⟨n - 10,by omega⟩
 rw [f39]
 simp only [bnd_of (f63_eq (n + 7) _ _),bnd_of (f64_eq (n + 9) _ _ _ (by omega))]
 rfl
theorem cmpT_lt (a b : GTxn) : decide (cmpT a b < 0) = bef a b:=by
 unfold cmpT first3 cmp3 bef
 apply decide_eq_decide.2
 split <;> (try split) <;> (repeat' split) <;> omega
theorem cmpT_ge (a b : GTxn) : decide (cmpT a b ≥ 0) = !bef a b:=by
 rw [← cmpT_lt,← decide_not]
 apply decide_eq_decide.2
 omega
instance (a b : GTxn) : Decidable (same3 a b):=inferInstanceAs (Decidable (_ ∧ _))
structure SmE (t : GTxn) : Prop where
 len : t.Edits.length ≤ 6
 via : ∀ e ∈ t.Edits,e.Via.length ≤ 20
 parts : ∀ e ∈ t.Edits,e.Parts.length ≤ 20
def Sm (l : List GTxn) : Prop:=∀ t ∈ l,SmE t
def dT : GTxn:=⟨0,0,0,⟨#[]⟩,[]⟩
def tx (l : List GTxn) (i : Nat) : GTxn:=l.getD i dT
theorem tx_get {l : List GTxn} {i : Nat} (h : i < l.length) : tx l i = l[i]:=by simp [tx,h]
theorem tx_mem {l : List GTxn} {i : Nat} (h : i < l.length) : tx l i ∈ l:=by rw [tx_get h]; exact List.getElem_mem h
theorem idx_tx {l : List GTxn} {i : Nat} (h : i < l.length) : idx l (i : Int) = some (tx l i):=by rw [idx_get h,tx_get h]
theorem idxK_tx {l : List GTxn} {i : Nat} (h : i < l.length) : idxK l l.length (i : Int) = some (tx l i):=by
 unfold idxK
 rw [if_pos ⟨by omega,by simpa using h⟩]
 simp [tx_get h]
def Srt (l : List GTxn) : Prop:=∀ i j,i < j → j < l.length → bef (tx l i) (tx l j) = true
def Dif (l : List GTxn) : Prop:=∀ i j,i < j → j < l.length → ¬ key2 (tx l i) (tx l j)
theorem srt_of {l : List GTxn} (h : ∀ j,1 ≤ j → j < l.length → bef (tx l (j - 1)) (tx l j) = true) : Srt l:=by
 intro i j hij
 induction j with
 | zero => omega
 | succ j ih =>
  intro hj
  have h1:=h (j + 1) (by omega) hj
  rw [Nat.add_sub_cancel] at h1
  rcases Nat.lt_or_ge i j with h2 | h2
  ·exact bef_trans (ih h2 (by omega)) h1
  ·obtain rfl : i = j:=by omega
   exact h1
theorem innerK (n : Nat) (o : GOffice) (i : Nat) (hi : i < o.Txns.length) (hl : o.Txns.length ≤ 1000) : ∀ (d m k : Nat),k + d = i → d < m →
  ((∃ j,k ≤ j ∧ j < i ∧ key2 (tx o.Txns j) (tx o.Txns i)) ∧ f25_L1 n (i : Int) o m (k : Int) = some (.inl ())) ∨
  ((¬ ∃ j,k ≤ j ∧ j < i ∧ key2 (tx o.Txns j) (tx o.Txns i)) ∧ f25_L1 n (i : Int) o m (k : Int) = some (.inr ())):=by
 intro d
 induction d with
 | zero =>
  intro m k hk hm
  obtain ⟨m,rfl⟩ : ∃ z,m = z + 1:=⟨m - 1,by omega⟩
  right
  refine ⟨fun ⟨j,h1,h2,_⟩ => by omega,?_⟩
  rw [f25_L1,decide_eq_false (by omega)]
  rfl
 | succ d ih =>
  intro m k hk hm
  obtain ⟨m,rfl⟩ : ∃ z,m = z + 1:=⟨m - 1,by omega⟩
  have ih':=ih m (k + 1) (by omega) (by omega)
  rw [f25_L1,decide_eq_true (by omega)]
  simp only [cnd,bnd_of (idx_tx (show k < o.Txns.length by omega)),bnd_of (idx_tx hi),wrap_succ (show k < 100000 by omega)]
  have step : ¬ key2 (tx o.Txns k) (tx o.Txns i) → ((∃ j,k ≤ j ∧ j < i ∧ key2 (tx o.Txns j) (tx o.Txns i)) ↔ ∃ j,k + 1 ≤ j ∧ j < i ∧ key2 (tx o.Txns j) (tx o.Txns i)):=by
   intro hne
   constructor
   ·rintro ⟨j,h1,h2,h3⟩
    refine ⟨j,?_,h2,h3⟩
    rcases Nat.lt_or_ge k j with h | h
    ·exact h
    ·obtain rfl : j = k:=by omega
     exact absurd h3 hne
   ·rintro ⟨j,h1,h2,h3⟩
    exact ⟨j,by omega,h2,h3⟩
  by_cases e1 : (tx o.Txns k).Office = (tx o.Txns i).Office
  ·by_cases e2 : (tx o.Txns k).Seq = (tx o.Txns i).Seq
   ·left
    refine ⟨⟨k,Nat.le_refl _,by omega,e1,e2⟩,?_⟩
    simp [e1,e2]
   ·have h2 : ((tx o.Txns k).Seq == (tx o.Txns i).Seq) = false:=by simpa using e2
    have h1 : ((tx o.Txns k).Office == (tx o.Txns i).Office) = true:=by simpa using e1
    rw [h1,h2]
    simp only
    rw [step (fun h => e2 h.2)]
    exact ih'
  ·have h1 : ((tx o.Txns k).Office == (tx o.Txns i).Office) = false:=by simpa using e1
   rw [h1]
   simp only
   rw [step (fun h => e1 h.1)]
   exact ih'
end Go.Proofs.YtkdnaejhpcibnaaGreatDoor.Av
namespace Go.Proofs.YtkdnaejhpcibnaaGreatDoor.Av
open Go Go.IntWalk
theorem chk_all (t : GTxn) (hs : SmE t) : ∃ v,∀ n,2000 ≤ n → f22 n t = some v ∧ f26 n t = some v:=by
 have hl:=hs.len
 obtain ⟨v,h1,h2⟩:=txns 1999 (by omega) t (by omega) (by omega)
 refine ⟨v,fun n hn => ?_⟩
 obtain ⟨n,rfl⟩ : ∃ k,n = k + 1:=⟨n - 1,by omega⟩
 obtain ⟨w,k1,k2⟩:=txns n (by omega) t (by omega) (by omega)
 have a1:=pv_mono (show 2000 ≤ n + 1 by omega) (f22_ok 2000 t v h1)
 rw [f22_ok (n + 1) t w k1] at a1
 have e : w = v:=by simpa using a1
 subst e
 exact ⟨k1,k2⟩
theorem key_mk (a b : GTxn) : (GArr2_Int.mk a.Office a.Seq = GArr2_Int.mk b.Office b.Seq) ↔ key2 a b:=by simp [key2]
theorem valid_loops (n : Nat) (hn : 2000 ≤ n) (o : GOffice) (hs : Sm o.Txns) (hl : o.Txns.length ≤ 14) : ∀ (d m i : Nat) (mp : List (GArr2_Int × Bool)),i + d = o.Txns.length → d < m →
  (∀ k,(mget mp k).getD false = true ↔ ∃ j,j < i ∧ GArr2_Int.mk (tx o.Txns j).Office (tx o.Txns j).Seq = k) →
  ((∃ t,f21_L0 n o m mp (i : Int) = some (.inl t)) ∧ f25_L0 n o m (i : Int) = some (.inl ())) ∨
  ((∃ t,f21_L0 n o m mp (i : Int) = some (.inr t)) ∧ f25_L0 n o m (i : Int) = some (.inr ()) ∧
   ∀ j,i ≤ j → j < o.Txns.length → f22 n (tx o.Txns j) = some 0 ∧ (1 ≤ j → bef (tx o.Txns (j - 1)) (tx o.Txns j) = true) ∧ ∀ k,k < j → ¬ key2 (tx o.Txns k) (tx o.Txns j)):=by
 intro d
 induction d with
 | zero =>
  intro m i mp hi hm _
  obtain ⟨m,rfl⟩ : ∃ z,m = z + 1:=⟨m - 1,by omega⟩
  right
  rw [f21_L0,f25_L0,decide_eq_false (by omega)]
  exact ⟨⟨_,rfl⟩,rfl,fun j h1 h2 => by omega⟩
 | succ d ih =>
  intro m i mp hi hm hinv
  obtain ⟨m,rfl⟩ : ∃ z,m = z + 1:=⟨m - 1,by omega⟩
  have hlt : i < o.Txns.length:=by omega
  obtain ⟨v,hv⟩:=chk_all (tx o.Txns i) (hs _ (tx_mem hlt))
  obtain ⟨h1,h2⟩:=hv n (by omega)
  have tail : ∀ tup,((∃ t,cnd ((mget mp (GArr2_Int.mk (tx o.Txns i).Office (tx o.Txns i).Seq)).getD false) (some (.inl tup)) (f21_L0 n o m (mput mp (GArr2_Int.mk (tx o.Txns i).Office (tx o.Txns i).Seq) true) (IntKind.i64.wrap ((i : Int) + 1))) = some (.inl t)) ∧
     bnd2 (f25_L1 n (i : Int) o n 0) (fun _ => some (.inl ())) (fun _ => f25_L0 n o m (IntKind.i64.wrap ((i : Int) + 1))) = some (.inl ())) ∨
    ((∃ t,cnd ((mget mp (GArr2_Int.mk (tx o.Txns i).Office (tx o.Txns i).Seq)).getD false) (some (.inl tup)) (f21_L0 n o m (mput mp (GArr2_Int.mk (tx o.Txns i).Office (tx o.Txns i).Seq) true) (IntKind.i64.wrap ((i : Int) + 1))) = some (.inr t)) ∧
     bnd2 (f25_L1 n (i : Int) o n 0) (fun _ => some (.inl ())) (fun _ => f25_L0 n o m (IntKind.i64.wrap ((i : Int) + 1))) = some (.inr ()) ∧
     (∀ j,i + 1 ≤ j → j < o.Txns.length → f22 n (tx o.Txns j) = some 0 ∧ (1 ≤ j → bef (tx o.Txns (j - 1)) (tx o.Txns j) = true) ∧ ∀ k,k < j → ¬ key2 (tx o.Txns k) (tx o.Txns j)) ∧
     ∀ k,k < i → ¬ key2 (tx o.Txns k) (tx o.Txns i)):=by
   intro tup
   have hin:=innerK n o i hlt (by omega) i n 0 (by omega) (by omega)
   rw [show ((0 : Nat) : Int) = 0 from rfl] at hin
   have hk:=hinv (GArr2_Int.mk (tx o.Txns i).Office (tx o.Txns i).Seq)
   rcases hin with ⟨⟨j,_,j2,j3⟩,hx⟩ | ⟨hno,hx⟩
   ·left
    rw [hx,hk.2 ⟨j,j2,(key_mk _ _).2 j3⟩]
    exact ⟨⟨_,rfl⟩,rfl⟩
   ·have hno' : ∀ k,k < i → ¬ key2 (tx o.Txns k) (tx o.Txns i):=fun k hk h => hno ⟨k,Nat.zero_le _,hk,h⟩
    have hf : (mget mp (GArr2_Int.mk (tx o.Txns i).Office (tx o.Txns i).Seq)).getD false = false:=by
     cases hq : (mget mp (GArr2_Int.mk (tx o.Txns i).Office (tx o.Txns i).Seq)).getD false with
     | false => rfl
     | true => obtain ⟨j,j1,j2⟩:=hk.1 hq; exact absurd ((key_mk _ _).1 j2) (hno' j j1)
    rw [hx,hf]
    simp only [cnd,bnd2]
    rw [wrap_succ (show i < 100000 by omega)]
    have ih':=ih m (i + 1) (mput mp (GArr2_Int.mk (tx o.Txns i).Office (tx o.Txns i).Seq) true) (by omega) (by omega) (by
     intro k
     rw [mget_put]
     by_cases hkk : GArr2_Int.mk (tx o.Txns i).Office (tx o.Txns i).Seq = k
     ·rw [if_pos hkk]
      exact ⟨fun _ => ⟨i,by omega,hkk⟩,fun _ => rfl⟩
     ·rw [if_neg hkk,hinv k]
      constructor
      ·rintro ⟨j,j1,j2⟩; exact ⟨j,by omega,j2⟩
      ·rintro ⟨j,j1,j2⟩
       refine ⟨j,?_,j2⟩
       rcases Nat.lt_or_ge j i with h | h
       ·exact h
       ·obtain rfl : j = i:=by omega
        exact absurd j2 hkk)
    rcases ih' with ⟨⟨t,a1⟩,a2⟩ | ⟨⟨t,a1⟩,a2,a3⟩
    ·exact .inl ⟨⟨t,a1⟩,a2⟩
    ·exact .inr ⟨⟨t,a1⟩,a2,a3,hno'⟩
  rw [f21_L0,f25_L0,decide_eq_true (by omega)]
  simp only [bnd_of (idx_tx hlt),bnd_of h1,bnd_of h2]
  simp only [cnd]
  by_cases hv0 : v = 0
  ·subst hv0
   simp only [bne_self_eq_false]
   have fin : ∀ (A : Option (_ ⊕ _)) (B : Option (Unit ⊕ Unit)),(1 ≤ i → bef (tx o.Txns (i - 1)) (tx o.Txns i) = true) → (∃ tup,A = cnd ((mget mp (GArr2_Int.mk (tx o.Txns i).Office (tx o.Txns i).Seq)).getD false) (some (.inl tup)) (f21_L0 n o m (mput mp (GArr2_Int.mk (tx o.Txns i).Office (tx o.Txns i).Seq) true) (IntKind.i64.wrap ((i : Int) + 1)))) →
     B = bnd2 (f25_L1 n (i : Int) o n 0) (fun _ => some (.inl ())) (fun _ => f25_L0 n o m (IntKind.i64.wrap ((i : Int) + 1))) →
     ((∃ t,A = some (.inl t)) ∧ B = some (.inl ())) ∨ ((∃ t,A = some (.inr t)) ∧ B = some (.inr ()) ∧ ∀ j,i ≤ j → j < o.Txns.length → f22 n (tx o.Txns j) = some 0 ∧ (1 ≤ j → bef (tx o.Txns (j - 1)) (tx o.Txns j) = true) ∧ ∀ k,k < j → ¬ key2 (tx o.Txns k) (tx o.Txns j)):=by
    rintro A B hbe ⟨tup,rfl⟩ rfl
    rcases tail tup with h | ⟨a1,a2,a3,a4⟩
    ·exact .inl h
    ·refine .inr ⟨a1,a2,fun j j1 j2 => ?_⟩
     rcases Nat.lt_or_ge i j with h | h
     ·exact a3 j h j2
     ·obtain rfl : j = i:=by omega
      exact ⟨h1,hbe,a4⟩
   by_cases hi0 : i = 0
   ·rw [decide_eq_false (show ¬ ((i : Int) > 0) by omega)]
    exact fin _ _ (fun h => by omega) ⟨_,rfl⟩ rfl
   ·rw [decide_eq_true (show (i : Int) > 0 by omega),wrap_pred (show i < 100000 by omega) (by omega)]
    have hp : i - 1 < o.Txns.length:=by omega
    obtain ⟨n',rfl⟩ : ∃ k,n = k + 1:=⟨n - 1,by omega⟩
    simp only [bnd_of (idx_tx hp),bnd_of (f39_eq (n' + 1) _ _ (by omega)),bnd_of (f44_eq n' _ _),cmpT_ge]
    cases hb : bef (tx o.Txns (i - 1)) (tx o.Txns i) with
    | false => exact .inl ⟨⟨_,rfl⟩,rfl⟩
    | true => exact fin _ _ (fun _ => hb) ⟨_,rfl⟩ rfl
  ·have : (v != 0) = true:=by simpa using hv0
   rw [this]
   exact .inl ⟨⟨_,rfl⟩,rfl⟩
structure OkO (o : GOffice) : Prop where
 lo : 1 ≤ o.ID
 hi : o.ID ≤ 8
 srt : Srt o.Txns
 dif : Dif o.Txns
 chk : ∀ n,2000 ≤ n → ∀ t ∈ o.Txns,f22 n t = some 0
theorem valid_eq (n : Nat) (hn : 2000 ≤ n) (o : GOffice) (hs : Sm o.Txns) (hl : o.Txns.length ≤ 14) : ∃ v,f21 (n + 1) o = some v ∧ f25 (n + 1) o = some v ∧ (v = true → OkO o):=by
 rw [f21,f25]
 by_cases c1 : o.ID < 1
 ·rw [decide_eq_true c1]; exact ⟨_,rfl,rfl,fun h => by cases h⟩
 rw [decide_eq_false c1]
 by_cases c2 : o.ID > 8
 ·rw [decide_eq_true c2]; exact ⟨_,rfl,rfl,fun h => by cases h⟩
 rw [decide_eq_false c2,decide_eq_false (show ¬ ((o.Txns.length : Nat) : Int) > 256 by omega)]
 simp only [cnd]
 have h:=valid_loops n hn o hs hl o.Txns.length n 0 [] (by omega) (by omega) (by
  intro k
  constructor
  ·intro h; cases h
  ·rintro ⟨j,j1,_⟩; omega)
 rw [show ((0 : Nat) : Int) = 0 from rfl] at h
 rcases h with ⟨⟨t,a1⟩,a2⟩ | ⟨⟨t,a1⟩,a2,a3⟩
 ·rw [a1,a2]; exact ⟨_,rfl,rfl,fun h => by cases h⟩
 ·rw [a1,a2]
  refine ⟨true,rfl,rfl,fun _ => ⟨by omega,by omega,srt_of fun j j1 j2 => (a3 j (by omega) j2).2.1 j1,fun i j hij hj => (a3 j (by omega) hj).2.2 i hij,fun n' hn' t ht => ?_⟩⟩
  obtain ⟨i,hi,rfl⟩:=List.getElem_of_mem ht
  obtain ⟨v,hv⟩:=chk_all _ (hs _ ht)
  have e:=(a3 i (by omega) hi).1
  rw [tx_get hi,(hv n hn).1] at e
  have e' : v = 0:=Option.some.inj e
  subst e'
  exact (hv n' hn').1
end Go.Proofs.YtkdnaejhpcibnaaGreatDoor.Av
namespace Go.Proofs.YtkdnaejhpcibnaaGreatDoor.Av
open Go Go.IntWalk
def pos : List GTxn → GTxn → Nat
 | [],_ => 0
 | x :: l,t => if bef x t = true then pos l t + 1 else 0
theorem pos_le : ∀ (l : List GTxn) (t : GTxn),pos l t ≤ l.length
 | [],_ => Nat.le_refl _
 | x :: l,t => by
  have:=pos_le l t
  simp only [pos,List.length_cons]
  split <;> omega
theorem tx_cons (x : GTxn) (l : List GTxn) (i : Nat) : tx (x :: l) (i + 1) = tx l i:=rfl
theorem pos_lt : ∀ (l : List GTxn) (t : GTxn) (j : Nat),j < pos l t → bef (tx l j) t = true
 | [],_,_,h => absurd h (Nat.not_lt_zero _)
 | x :: l,t,j,h => by
  simp only [pos] at h
  split at h
  ·rename_i hx
   cases j with
   | zero => exact hx
   | succ j => rw [tx_cons]; exact pos_lt l t j (by omega)
  ·omega
theorem pos_at : ∀ (l : List GTxn) (t : GTxn),pos l t < l.length → bef (tx l (pos l t)) t = false
 | [],_,h => absurd h (Nat.not_lt_zero _)
 | x :: l,t,h => by
  simp only [pos,List.length_cons] at h ⊢
  split
  ·rename_i hx
   rw [if_pos hx] at h
   rw [tx_cons]
   exact pos_at l t (by omega)
  ·rename_i hx
   show bef x t = false
   simpa using hx
theorem pos_ge {l : List GTxn} (hs : Srt l) (t : GTxn) {j : Nat} (h : pos l t ≤ j) (hj : j < l.length) : bef (tx l j) t = false:=by
 have h0:=pos_at l t (by omega)
 rcases Nat.lt_or_ge (pos l t) j with h1 | h1
 ·cases hb : bef (tx l j) t with
  | false => rfl
  | true => rw [bef_trans (hs _ _ h1 hj) hb] at h0; cases h0
 ·obtain rfl : j = pos l t:=by omega
  exact h0
def ins (l : List GTxn) (t : GTxn) : List GTxn:=l.take (pos l t) ++ t :: l.drop (pos l t)
theorem search (n : Nat) (l : List GTxn) (t : GTxn) (hl : l.length ≤ 1000) : ∀ (d m i : Nat),i + d = pos l t → d < m → f27_L0 (n + 1) l t m (i : Int) = some ((pos l t : Nat) : Int):=by
 intro d
 have hp:=pos_le l t
 induction d with
 | zero =>
  intro m i hi hm
  obtain ⟨m,rfl⟩ : ∃ z,m = z + 1:=⟨m - 1,by omega⟩
  obtain rfl : i = pos l t:=by omega
  rw [f27_L0]
  by_cases h : pos l t < l.length
  ·rw [decide_eq_true (by omega)]
   simp only [cnd,bnd_of (idx_tx h),bnd_of (f44_eq n _ _),pos_at l t h]
  ·rw [decide_eq_false (by omega)]
   rfl
 | succ d ih =>
  intro m i hi hm
  obtain ⟨m,rfl⟩ : ∃ z,m = z + 1:=⟨m - 1,by omega⟩
  have h : i < l.length:=by omega
  rw [f27_L0,decide_eq_true (by omega)]
  simp only [cnd,bnd_of (idx_tx h),bnd_of (f44_eq n _ _),pos_lt l t i (by omega),wrap_succ (show i < 100000 by omega)]
  exact ih m (i + 1) (by omega) (by omega)
theorem cut_take {α : Type} (l : List α) (p : Nat) (h : p ≤ l.length) : cut l 0 (p : Int) = some (l.take p):=by
 unfold cut
 rw [if_pos ⟨by omega,by omega,by omega⟩]
 simp
theorem cut_drop {α : Type} (l : List α) (p : Nat) (h : p ≤ l.length) : cut l (p : Int) ((l.length : Nat) : Int) = some (l.drop p):=by
 unfold cut
 rw [if_pos ⟨by omega,by omega,by omega⟩]
 simp
theorem with_eq (n : Nat) (hn : 1000 ≤ n) (l : List GTxn) (t : GTxn) (hl : l.length ≤ 900) : f27 (n + 1) l t = some (ins l t):=by
 have hp:=pos_le l t
 obtain ⟨n,rfl⟩ : ∃ k,n = k + 1:=⟨n - 1,by omega⟩
 have h:=search n l t (by omega) (pos l t) (n + 1) 0 (by omega) (by omega)
 rw [show ((0 : Nat) : Int) = 0 from rfl] at h
 rw [f27]
 simp only [bnd_of h,bnd_of (cut_take l _ hp),bnd_of (cut_drop l _ hp)]
 have a1 : app [t] (l.drop (pos l t)) = some (t :: l.drop (pos l t)):=app_of (by simp; omega)
 cases he : (l.take (pos l t)).isEmpty with
 | true =>
  have e : l.take (pos l t) = []:=List.isEmpty_iff.1 he
  simp only [cnd,bnd_of a1,ins,e,List.nil_append]
 | false =>
  have a2 : app ([] : List GTxn) (l.take (pos l t)) = some (l.take (pos l t)):=app_of (by simp; omega)
  have a3 : app (l.take (pos l t)) [t] = some (l.take (pos l t) ++ [t]):=app_of (by simp; omega)
  have a4 : app (l.take (pos l t) ++ [t]) (l.drop (pos l t)) = some (l.take (pos l t) ++ [t] ++ l.drop (pos l t)):=app_of (by simp; omega)
  simp only [cnd,bnd_of a2,bnd_of a3,bnd_of a4,ins,List.append_assoc,List.singleton_append]
def bsL (n : Nat) (l : List GTxn) (t : GTxn) : Nat → Int → Int → Option Int
 | 0,_,_ => none
 | m + 1,i,j => (cnd (decide (j < i)) (bnd (idxK l l.length (IntKind.i64.wrap (Int.fdiv (IntKind.u64.wrap (IntKind.i64.wrap (j + i))) 2))) fun x => (bnd (f39 n x t) fun v => (cnd (decide (v < 0)) (bsL n l t m i (IntKind.i64.wrap ((IntKind.i64.wrap (Int.fdiv (IntKind.u64.wrap (IntKind.i64.wrap (j + i))) 2)) + 1))) (bsL n l t m (IntKind.i64.wrap (Int.fdiv (IntKind.u64.wrap (IntKind.i64.wrap (j + i))) 2)) j)))) (some j))
theorem mid_eq {i j : Nat} (h : i + j < 100000) : IntKind.i64.wrap (Int.fdiv (IntKind.u64.wrap (IntKind.i64.wrap ((j : Int) + (i : Int)))) 2) = (((j + i) / 2 : Nat) : Int):=by
 have e : Int.fdiv ((j : Int) + (i : Int)) 2 = (((j + i) / 2 : Nat) : Int):=by
  rw [Int.fdiv_eq_ediv_of_nonneg _ (by omega)]
  omega
 rw [i64_in ((j : Int) + (i : Int)) (by omega),u64_in _ (by omega),e,i64_in _ (by omega)]
theorem bs_eq (n : Nat) (hn : 10 ≤ n) (l : List GTxn) (t : GTxn) (hs : Srt l) (hl : l.length ≤ 1000) : ∀ (d m i j : Nat),i ≤ j + d → d < m → j ≤ pos l t → pos l t ≤ i → i ≤ l.length → bsL n l t m (i : Int) (j : Int) = some ((pos l t : Nat) : Int):=by
 intro d
 induction d with
 | zero =>
  intro m i j h1 hm h2 h3 h4
  obtain ⟨m,rfl⟩ : ∃ z,m = z + 1:=⟨m - 1,by omega⟩
  obtain rfl : j = pos l t:=by omega
  rw [bsL,decide_eq_false (by omega)]
  rfl
 | succ d ih =>
  intro m i j h1 hm h2 h3 h4
  obtain ⟨m,rfl⟩ : ∃ z,m = z + 1:=⟨m - 1,by omega⟩
  rw [bsL]
  by_cases hij : j < i
  ·have hk : (j + i) / 2 < l.length:=by omega
   rw [decide_eq_true (by omega),mid_eq (by omega)]
   simp only [cnd,bnd_of (idxK_tx hk),bnd_of (f39_eq n _ _ hn),cmpT_lt]
   rcases Nat.lt_or_ge ((j + i) / 2) (pos l t) with hb | hb
   ·rw [pos_lt l t _ hb,wrap_succ (by omega)]
    exact ih m i ((j + i) / 2 + 1) (by omega) (by omega) (by omega) h3 h4
   ·rw [pos_ge hs t hb hk]
    exact ih m ((j + i) / 2) j (by omega) (by omega) h2 hb (by omega)
  ·obtain rfl : j = pos l t:=by omega
   rw [decide_eq_false (by omega)]
   rfl
theorem insO_eq (l : List GTxn) (t : GTxn) (hl : l.length ≤ 1000) : insO l ((pos l t : Nat) : Int) t = some (ins l t):=by
 have hp:=pos_le l t
 unfold insO
 rw [if_pos ⟨by omega,by simpa using hp,by omega⟩]
 simp [ins]
theorem ins_len (l : List GTxn) (t : GTxn) : (ins l t).length = l.length + 1:=by
 have hp:=pos_le l t
 simp only [ins,List.length_append,List.length_take,List.length_cons,List.length_drop]
 omega
theorem ins_mem (l : List GTxn) (t x : GTxn) : x ∈ ins l t ↔ x = t ∨ x ∈ l:=by
 unfold ins
 conv => rhs; rw [← List.take_append_drop (pos l t) l]
 simp only [List.mem_append,List.mem_cons]
 constructor
 ·rintro (h | h | h)
  ·exact .inr (.inl h)
  ·exact .inl h
  ·exact .inr (.inr h)
 ·rintro (h | h | h)
  ·exact .inr (.inl h)
  ·exact .inl h
  ·exact .inr (.inr h)
theorem prd_s (n : Nat) : prd (n + 1) = some n:=rfl
theorem clone60 (n : Nat) (l : List GPoint) (h : l.length ≤ 1000000) : f60 (n + 1) l = some l:=by simp [f60,h]
theorem clone61 (n : Nat) (l : List Int) (h : l.length ≤ 1000000) : f61 (n + 1) l = some l:=by simp [f61,h]
theorem set_get {α : Type} (l : List α) (i : Nat) (h : i < l.length) : l.set i l[i] = l:=by
 apply List.ext_getElem?
 intro j
 rw [List.getElem?_set]
 split
 ·rename_i e
  subst e
  simp [h]
 ·rfl
theorem idxK_get {α : Type} {l : List α} {i k : Nat} (h : i < l.length) (hk : i < k) : idxK l k (i : Int) = some l[i]:=by
 unfold idxK
 rw [if_pos ⟨by omega,by simpa using hk⟩]
 simp [h]
theorem fresh_loop (n : Nat) (t : GTxn) (hs : SmE t) : ∀ (d m i : Nat),i + d = t.Edits.length → d < m → f37_L0_2 (n + 1) t m t.Edits (i : Int) = some t.Edits:=by
 have hl:=hs.len
 intro d
 induction d with
 | zero =>
  intro m i hi hm
  obtain ⟨m,rfl⟩ : ∃ z,m = z + 1:=⟨m - 1,by omega⟩
  rw [f37_L0_2,decide_eq_false (by omega)]
  rfl
 | succ d ih =>
  intro m i hi hm
  obtain ⟨m,rfl⟩ : ∃ z,m = z + 1:=⟨m - 1,by omega⟩
  have h : i < t.Edits.length:=by omega
  have hm:=List.getElem_mem h
  have hv:=hs.via _ hm
  have hp:=hs.parts _ hm
  rw [f37_L0_2,decide_eq_true (by omega)]
  have e0 : (GEdit.mk t.Edits[i].Kind t.Edits[i].ID t.Edits[i].A t.Edits[i].B t.Edits[i].C t.Edits[i].At t.Edits[i].Via t.Edits[i].Name t.Edits[i].Parts) = t.Edits[i]:=rfl
  simp only [cnd,bnd_of (idxK_get h h),bnd_of (clone60 n _ (show t.Edits[i].Via.length ≤ 1000000 by omega)),bnd_of (clone61 n _ (show t.Edits[i].Parts.length ≤ 1000000 by omega)),e0,Int.toNat_natCast,set_get _ i h,wrap_succ (show i < 100000 by omega)]
  exact ih m (i + 1) (by omega) (by omega)
theorem fresh_eq (n : Nat) (hn : 20 ≤ n) (t : GTxn) (hs : SmE t) : f37 (n + 1) t = some t:=by
 have hl:=hs.len
 obtain ⟨n,rfl⟩ : ∃ k,n = k + 1:=⟨n - 1,by omega⟩
 rw [f37]
 simp only [bnd_of (prd_s n)]
 cases he : t.Edits.isEmpty with
 | true =>
  have e : t.Edits = []:=List.isEmpty_iff.1 he
  have h1 : f37_L0 (n + 1) t (n + 1) = some ():=rfl
  simp only [cnd,bnd_of h1]
  cases t
  simp only at e
  subst e
  rfl
 | false =>
  have h1:=fresh_loop n t hs t.Edits.length (n + 1) 0 (by omega) (by omega)
  rw [show ((0 : Nat) : Int) = 0 from rfl] at h1
  have h2 : grd (decide (List.length t.Edits ≤ 1000000)) = some ():=by rw [decide_eq_true (by omega)]; rfl
  simp only [cnd,bnd_of h2,bnd_of h1]
end Go.Proofs.YtkdnaejhpcibnaaGreatDoor.Av
namespace Go.Proofs.YtkdnaejhpcibnaaGreatDoor.Av
open Go Go.IntWalk
theorem idx_g {α : Type} {l : List α} {i : Nat} (h : i < l.length) : idx l (i : Int) = some l[i]:=idx_get h
theorem same54_L (n : Nat) (l : List GPoint) (hl : l.length ≤ 1000) : ∀ (d m i : Nat),i + d = l.length → d < m → f54_L0 n l l m (i : Int) = some (.inr ()):=by
 intro d
 induction d with
 | zero =>
  intro m i hi hm
  obtain ⟨m,rfl⟩ : ∃ z,m = z + 1:=⟨m - 1,by omega⟩
  rw [f54_L0,decide_eq_false (by omega)]; rfl
 | succ d ih =>
  intro m i hi hm
  obtain ⟨m,rfl⟩ : ∃ z,m = z + 1:=⟨m - 1,by omega⟩
  have h : i < l.length:=by omega
  rw [f54_L0,decide_eq_true (by omega)]
  simp only [cnd,bnd_of (idx_g h),decide_true,wrap_succ (show i < 100000 by omega)]
  exact ih m (i + 1) (by omega) (by omega)
theorem same54 (n : Nat) (hn : 1001 ≤ n) (l : List GPoint) (hl : l.length ≤ 1000) : f54 (n + 1) l l = some true:=by
 have h:=same54_L n l hl l.length n 0 (by omega) (by omega)
 rw [show ((0 : Nat) : Int) = 0 from rfl] at h
 rw [f54,h]
 simp only [bne_self_eq_false,cnd,bnd2]
theorem same55_L (n : Nat) (l : List Int) (hl : l.length ≤ 1000) : ∀ (d m i : Nat),i + d = l.length → d < m → f55_L0 n l l m (i : Int) = some (.inr ()):=by
 intro d
 induction d with
 | zero =>
  intro m i hi hm
  obtain ⟨m,rfl⟩ : ∃ z,m = z + 1:=⟨m - 1,by omega⟩
  rw [f55_L0,decide_eq_false (by omega)]; rfl
 | succ d ih =>
  intro m i hi hm
  obtain ⟨m,rfl⟩ : ∃ z,m = z + 1:=⟨m - 1,by omega⟩
  have h : i < l.length:=by omega
  rw [f55_L0,decide_eq_true (by omega)]
  simp only [cnd,bnd_of (idx_g h),bne_self_eq_false,wrap_succ (show i < 100000 by omega)]
  exact ih m (i + 1) (by omega) (by omega)
theorem same55 (n : Nat) (hn : 1001 ≤ n) (l : List Int) (hl : l.length ≤ 1000) : f55 (n + 1) l l = some true:=by
 have h:=same55_L n l hl l.length n 0 (by omega) (by omega)
 rw [show ((0 : Nat) : Int) = 0 from rfl] at h
 rw [f55,h]
 simp only [bne_self_eq_false,cnd,bnd2]
theorem same34 (n : Nat) (hn : 1100 ≤ n) (e : GEdit) (h1 : e.Via.length ≤ 20) (h2 : e.Parts.length ≤ 20) : f34 (n + 1) e e = some true:=by
 obtain ⟨n,rfl⟩ : ∃ z,n = z + 1:=⟨n - 1,by omega⟩
 rw [f34]
 simp only [beq_self_eq_true,cnd,decide_true,bnd_of (same54 n (by omega) e.Via (by omega)),bnd_of (same55 n (by omega) e.Parts (by omega))]
theorem same17_L (n : Nat) (hn : 1101 ≤ n) (t : GTxn) (hs : SmE t) : ∀ (d m i : Nat),i + d = t.Edits.length → d < m → f17_L0 n t t m (i : Int) = some (.inr ()):=by
 have hl:=hs.len
 obtain ⟨n,rfl⟩ : ∃ z,n = z + 1:=⟨n - 1,by omega⟩
 intro d
 induction d with
 | zero =>
  intro m i hi hm
  obtain ⟨m,rfl⟩ : ∃ z,m = z + 1:=⟨m - 1,by omega⟩
  rw [f17_L0,decide_eq_false (by omega)]; rfl
 | succ d ih =>
  intro m i hi hm
  obtain ⟨m,rfl⟩ : ∃ z,m = z + 1:=⟨m - 1,by omega⟩
  have h : i < t.Edits.length:=by omega
  have hm:=List.getElem_mem h
  rw [f17_L0,decide_eq_true (by omega)]
  simp only [cnd,bnd_of (idx_g h),bnd_of (same34 n (by omega) _ (hs.via _ hm) (hs.parts _ hm)),wrap_succ (show i < 100000 by omega)]
  exact ih m (i + 1) (by omega) (by omega)
theorem same17 (n : Nat) (hn : 1200 ≤ n) (t : GTxn) (hs : SmE t) : f17 (n + 1) t t = some true:=by
 have hl:=hs.len
 have h:=same17_L n (by omega) t hs t.Edits.length n 0 (by omega) (by omega)
 rw [show ((0 : Nat) : Int) = 0 from rfl] at h
 rw [f17,h]
 simp only [bne_self_eq_false,decide_true,cnd,bnd2]
theorem same15_L (n : Nat) (hn : 1201 ≤ n) (l : List GTxn) (hs : Sm l) (hl : l.length ≤ 1000) : ∀ (d m i : Nat),i + d = l.length → d < m → f15_L0 n l l m (i : Int) = some (.inr ()):=by
 obtain ⟨n,rfl⟩ : ∃ z,n = z + 1:=⟨n - 1,by omega⟩
 intro d
 induction d with
 | zero =>
  intro m i hi hm
  obtain ⟨m,rfl⟩ : ∃ z,m = z + 1:=⟨m - 1,by omega⟩
  rw [f15_L0,decide_eq_false (by omega)]; rfl
 | succ d ih =>
  intro m i hi hm
  obtain ⟨m,rfl⟩ : ∃ z,m = z + 1:=⟨m - 1,by omega⟩
  have h : i < l.length:=by omega
  rw [f15_L0,decide_eq_true (by omega)]
  simp only [cnd,bnd_of (idx_tx h),bnd_of (same17 n (by omega) _ (hs _ (tx_mem h))),wrap_succ (show i < 100000 by omega)]
  exact ih m (i + 1) (by omega) (by omega)
theorem same15 (n : Nat) (hn : 1300 ≤ n) (l : List GTxn) (hs : Sm l) (hl : l.length ≤ 1000) : f15 (n + 1) l l = some true:=by
 have h:=same15_L n (by omega) l hs hl l.length n 0 (by omega) (by omega)
 rw [show ((0 : Nat) : Int) = 0 from rfl] at h
 rw [f15,h]
 simp only [bne_self_eq_false,cnd,bnd2]
theorem same10 (n : Nat) (hn : 1400 ≤ n) (o : GOffice) (hs : Sm o.Txns) (hl : o.Txns.length ≤ 1000) : f10 (n + 1) o o = some true:=by
 obtain ⟨n,rfl⟩ : ∃ z,n = z + 1:=⟨n - 1,by omega⟩
 rw [f10]
 simp only [beq_self_eq_true,cnd,bnd_of (same15 n (by omega) o.Txns hs hl)]
structure SmL (l : List GEdit) : Prop where
 len : l.length ≤ 6
 via : ∀ e ∈ l,e.Via.length ≤ 20
 parts : ∀ e ∈ l,e.Parts.length ≤ 20
theorem edits_L (n : Nat) (l : List GEdit) : ∀ (d m i : Nat),i + d = 7 → d < m →
  f4_L0 n l m (i : Int) = some (.inl ()) ∨ (f4_L0 n l m (i : Int) = some (.inr ()) ∧ (l.length ≤ 6 → ∀ j,(h : j < l.length) → i ≤ j → l[j].Via.length ≤ 20 ∧ l[j].Parts.length ≤ 20)):=by
 intro d
 induction d with
 | zero =>
  intro m i hi hm
  obtain ⟨m,rfl⟩ : ∃ z,m = z + 1:=⟨m - 1,by omega⟩
  right
  rw [f4_L0]
  by_cases h : (i : Int) < ((l.length : Nat) : Int)
  ·rw [decide_eq_true h,decide_eq_false (show ¬ ((i : Int) < 7) by omega)]
   exact ⟨rfl,fun hl j hj hij => by omega⟩
  ·rw [decide_eq_false h]
   exact ⟨rfl,fun hl j hj hij => by omega⟩
 | succ d ih =>
  intro m i hi hm
  obtain ⟨m,rfl⟩ : ∃ z,m = z + 1:=⟨m - 1,by omega⟩
  rw [f4_L0]
  by_cases h : i < l.length
  ·rw [decide_eq_true (by omega),decide_eq_true (show ((i : Int) < 7) by omega)]
   simp only [bnd_of (idx_g h)]
   by_cases c1 : ((l[i].Via.length : Nat) : Int) > 20
   ·rw [decide_eq_true c1]; exact .inl rfl
   by_cases c2 : ((l[i].Parts.length : Nat) : Int) > 20
   ·rw [decide_eq_false c1,decide_eq_true c2]; exact .inl rfl
   by_cases c3 : ((l[i].Name.size : Nat) : Int) > 100
   ·rw [decide_eq_false c1,decide_eq_false c2,decide_eq_true c3]; exact .inl rfl
   rw [decide_eq_false c1,decide_eq_false c2,decide_eq_false c3]
   simp only [cnd,wrap_succ (show i < 100000 by omega)]
   rcases ih m (i + 1) (by omega) (by omega) with h1 | ⟨h1,h2⟩
   ·exact .inl h1
   ·refine .inr ⟨h1,fun hl j hj hij => ?_⟩
    rcases Nat.lt_or_ge i j with h3 | h3
    ·exact h2 hl j hj h3
    ·obtain rfl : j = i:=by omega
     exact ⟨by omega,by omega⟩
  ·rw [decide_eq_false (by omega)]
   exact .inr ⟨rfl,fun hl j hj hij => by omega⟩
theorem edits_eq (n : Nat) (hn : 10 ≤ n) (l : List GEdit) : ∃ v,f4 (n + 1) l = some v ∧ (v = true → SmL l):=by
 have h:=edits_L n l 7 n 0 (by omega) (by omega)
 rw [show ((0 : Nat) : Int) = 0 from rfl] at h
 rw [f4]
 rcases h with h | ⟨h,hh⟩
 ·rw [h]; exact ⟨_,rfl,fun h => by cases h⟩
 ·rw [h]
  simp only [bnd2]
  by_cases c : ((l.length : Nat) : Int) ≤ 6
  ·rw [decide_eq_true c]
   refine ⟨_,rfl,fun _ => ⟨by omega,fun e he => ?_,fun e he => ?_⟩⟩
   ·obtain ⟨j,hj,rfl⟩:=List.getElem_of_mem he
    exact (hh (by omega) j hj (Nat.zero_le _)).1
   ·obtain ⟨j,hj,rfl⟩:=List.getElem_of_mem he
    exact (hh (by omega) j hj (Nat.zero_le _)).2
  ·rw [decide_eq_false c]
   exact ⟨_,rfl,fun h => by cases h⟩
theorem small_L (n : Nat) (hn : 20 ≤ n) (l : List GTxn) (hl : l.length ≤ 14) : ∀ (d m i : Nat),i + d = l.length → d < m →
  f3_L0 n l m (i : Int) = some (.inl ()) ∨ (f3_L0 n l m (i : Int) = some (.inr ()) ∧ ∀ j,i ≤ j → j < l.length → SmL (tx l j).Edits):=by
 obtain ⟨n,rfl⟩ : ∃ z,n = z + 1:=⟨n - 1,by omega⟩
 intro d
 induction d with
 | zero =>
  intro m i hi hm
  obtain ⟨m,rfl⟩ : ∃ z,m = z + 1:=⟨m - 1,by omega⟩
  right
  rw [f3_L0,decide_eq_false (by omega)]
  exact ⟨rfl,fun j h1 h2 => by omega⟩
 | succ d ih =>
  intro m i hi hm
  obtain ⟨m,rfl⟩ : ∃ z,m = z + 1:=⟨m - 1,by omega⟩
  have h : i < l.length:=by omega
  obtain ⟨v,h1,h2⟩:=edits_eq n (by omega) (tx l i).Edits
  rw [f3_L0,decide_eq_true (by omega)]
  simp only [bnd_of (idx_tx h),bnd_of h1]
  by_cases c : (((tx l i).Source.size : Nat) : Int) > 100
  ·rw [decide_eq_true c]; exact .inl rfl
  rw [decide_eq_false c]
  cases v with
  | false => exact .inl rfl
  | true =>
   simp only [cnd,wrap_succ (show i < 100000 by omega)]
   rcases ih m (i + 1) (by omega) (by omega) with h3 | ⟨h3,h4⟩
   ·exact .inl h3
   ·refine .inr ⟨h3,fun j j1 j2 => ?_⟩
    rcases Nat.lt_or_ge i j with h5 | h5
    ·exact h4 j h5 j2
    ·obtain rfl : j = i:=by omega
     exact h2 rfl
theorem small_eq (n : Nat) (hn : 100 ≤ n) (l : List GTxn) : ∃ v,f3 (n + 1) l = some v ∧ (v = true → Sm l ∧ l.length ≤ 14):=by
 rw [f3]
 by_cases c : ((l.length : Nat) : Int) > 14
 ·rw [decide_eq_true c]; exact ⟨_,rfl,fun h => by cases h⟩
 rw [decide_eq_false c]
 have h:=small_L n (by omega) l (by omega) l.length n 0 (by omega) (by omega)
 rw [show ((0 : Nat) : Int) = 0 from rfl] at h
 rcases h with h | ⟨h,hh⟩
 ·rw [h]; exact ⟨_,rfl,fun h => by cases h⟩
 ·rw [h]
  refine ⟨_,rfl,fun _ => ⟨fun t ht => ?_,by omega⟩⟩
  obtain ⟨j,hj,rfl⟩:=List.getElem_of_mem ht
  have:=hh j (Nat.zero_le _) hj
  rw [tx_get hj] at this
  exact ⟨this.len,this.via,this.parts⟩
def cpL (n : Nat) (o : GOffice) : Nat → List GTxn → Int → Option (List GTxn)
 | 0,_,_ => none
 | m + 1,l,i => cnd (decide (i < ((o.Txns.length : Nat) : Int))) (bnd (idx o.Txns i) fun x => bnd (f37 n x) fun v => bnd (app l [v]) fun l2 => cpL n o m l2 (IntKind.i64.wrap (i + 1))) (some l)
theorem cp_eq (n : Nat) (hn : 30 ≤ n) (o : GOffice) (hs : Sm o.Txns) (hl : o.Txns.length ≤ 1000) : ∀ (d m i : Nat),i + d = o.Txns.length → d < m → cpL n o m (o.Txns.take i) (i : Int) = some o.Txns:=by
 obtain ⟨n,rfl⟩ : ∃ z,n = z + 1:=⟨n - 1,by omega⟩
 intro d
 induction d with
 | zero =>
  intro m i hi hm
  obtain ⟨m,rfl⟩ : ∃ z,m = z + 1:=⟨m - 1,by omega⟩
  rw [cpL,decide_eq_false (by omega),List.take_of_length_le (by omega)]
  rfl
 | succ d ih =>
  intro m i hi hm
  obtain ⟨m,rfl⟩ : ∃ z,m = z + 1:=⟨m - 1,by omega⟩
  have h : i < o.Txns.length:=by omega
  have e : app (o.Txns.take i) [tx o.Txns i] = some (o.Txns.take (i + 1)):=by
   rw [app_of (by simp; omega),tx_get h,List.take_succ_eq_append_getElem h]
  rw [cpL,decide_eq_true (by omega)]
  simp only [cnd,bnd_of (idx_tx h),bnd_of (fresh_eq n (by omega) _ (hs _ (tx_mem h))),bnd_of e,wrap_succ (show i < 100000 by omega)]
  exact ih m (i + 1) (by omega) (by omega)
end Go.Proofs.YtkdnaejhpcibnaaGreatDoor.Av
namespace Go.Proofs.YtkdnaejhpcibnaaGreatDoor.Av
open Go Go.IntWalk
def mxL (o : GOffice) (time : Int) : Nat → Int → Bool → Int → Option (Int × Bool)
 | 0,_,_,_ => none
 | m + 1,i,b,k => cnd (decide (k < ((o.Txns.length : Nat) : Int))) (bnd (idx o.Txns k) fun x => cnd (x.Office == o.ID) (cnd b (mxL o time m (imax i x.Seq) true (IntKind.i64.wrap (k + 1))) (cnd (decide (x.Time > time)) (mxL o time m (imax i x.Seq) true (IntKind.i64.wrap (k + 1))) (mxL o time m (imax i x.Seq) false (IntKind.i64.wrap (k + 1))))) (mxL o time m i b (IntKind.i64.wrap (k + 1)))) (some (i,b))
theorem mx6 (n : Nat) (time : Int) (s : ByteArray) (l : List GEdit) (o : GOffice) : ∀ (m : Nat) (i : Int) (b : Bool) (k : Int),f6_L0 n time s l o m i b k = mxL o time m i b k
 | 0,_,_,_ => rfl
 | m + 1,i,b,k => by simp only [f6_L0,mxL,mx6 n time s l o m]
theorem mx7 (n : Nat) (time : Int) (s : ByteArray) (l : List GEdit) (o : GOffice) : ∀ (m : Nat) (i : Int) (b : Bool) (k : Int),f7_L0 n time o s l m i b k = mxL o time m i b k
 | 0,_,_,_ => rfl
 | m + 1,i,b,k => by simp only [f7_L0,mxL,mx7 n time s l o m]
theorem mx_some (o : GOffice) (time : Int) (hl : o.Txns.length ≤ 1000) : ∀ (d m : Nat) (i : Int) (b : Bool) (k : Nat),k + d = o.Txns.length → d < m → ∃ v,mxL o time m i b (k : Int) = some v:=by
 intro d
 induction d with
 | zero =>
  intro m i b k hk hm
  obtain ⟨m,rfl⟩ : ∃ z,m = z + 1:=⟨m - 1,by omega⟩
  rw [mxL,decide_eq_false (by omega)]
  exact ⟨_,rfl⟩
 | succ d ih =>
  intro m i b k hk hm
  obtain ⟨m,rfl⟩ : ∃ z,m = z + 1:=⟨m - 1,by omega⟩
  have h : k < o.Txns.length:=by omega
  rw [mxL,decide_eq_true (by omega)]
  simp only [bnd_of (idx_tx h),wrap_succ (show k < 100000 by omega)]
  have ih':=fun i b => ih m i b (k + 1) (by omega) (by omega)
  simp only [cnd]
  cases ((tx o.Txns k).Office == o.ID) with
  | false => exact ih' _ _
  | true =>
   cases b with
   | true => exact ih' _ _
   | false =>
    cases decide ((tx o.Txns k).Time > time) with
    | true => exact ih' _ _
    | false => exact ih' _ _
theorem cp6 (n : Nat) (o : GOffice) (v : Int × Bool) (a : Int) (s : ByteArray) (e : List GEdit) : ∀ (m : Nat) (l : List GTxn) (i : Int),f6_I23_L0 n o v a s e m l i = cpL n o m l i
 | 0,_,_ => rfl
 | m + 1,l,i => by simp only [f6_I23_L0,cpL,cp6 n o v a s e m]
theorem bs6 (n : Nat) (l : List GTxn) (o : GOffice) (v : Int × Bool) (a : Int) (s : ByteArray) (e : List GEdit) : ∀ (m : Nat) (i j : Int),f6_I42_L0 n l o v a s e m i j = bsL n l (GTxn.mk o.ID (IntKind.i64.wrap (v.1 + 1)) a s e) m i j
 | 0,_,_ => rfl
 | m + 1,i,j => by simp only [f6_I42_L0,bsL,bs6 n l o v a s e m]
theorem edit_eq (n : Nat) (hn : 5000 ≤ n) (o : GOffice) (time : Int) (src : ByteArray) (l : List GEdit) (hs : Sm o.Txns) (hl : o.Txns.length ≤ 14) (he : SmL l) :
  ∃ r : GOffice × Int,f6 (n + 1) o time src l = some r ∧ f7 (n + 1) o time src l = some r ∧ Sm r.1.Txns ∧ r.1.Txns.length ≤ 100:=by
 obtain ⟨k,rfl⟩ : ∃ k,n = k + 1:=⟨n - 1,by omega⟩
 have hz : Sm (GOffice.mk 0 []).Txns:=fun t ht => by cases ht
 rw [f6,f7]
 obtain ⟨v,h1,h2,h3⟩:=valid_eq k (by omega) o hs hl
 simp only [bnd_of h1,bnd_of h2]
 cases v with
 | false => exact ⟨_,rfl,rfl,hz,by simp⟩
 | true =>
 have ok:=h3 rfl
 obtain ⟨w,hw⟩:=mx_some o time (by omega) o.Txns.length (k + 1) 0 false 0 (by omega) (by omega)
 rw [show ((0 : Nat) : Int) = 0 from rfl] at hw
 simp only [cnd,mx6,mx7,bnd_of hw]
 have hT : SmE (GTxn.mk o.ID (IntKind.i64.wrap (w.1 + 1)) time src l):=⟨he.len,he.via,he.parts⟩
 obtain ⟨c,hc⟩:=chk_all _ hT
 obtain ⟨c1,c2⟩:=hc (k + 1) (by omega)
 simp only [bnd_of c1,bnd_of c2]
 cases hcv : (c != 0) with
 | true => exact ⟨_,rfl,rfl,hz,by simp⟩
 | false =>
 rw [decide_eq_false (show ¬ ((o.Txns.length : Nat) : Int) ≥ 256 by omega)]
 simp only
 cases hlate : w.2 with
 | true => exact ⟨_,rfl,rfl,hz,by simp⟩
 | false =>
 obtain ⟨p,rfl⟩ : ∃ p,k = p + 3:=⟨k - 3,by omega⟩
 generalize hTT : GTxn.mk o.ID (IntKind.i64.wrap (w.1 + 1)) time src l = tt at *
 have g1:=cp_eq (p + 3) (by omega) o hs (by omega) o.Txns.length (p + 3) 0 (by omega) (by omega)
 rw [show ((0 : Nat) : Int) = 0 from rfl,List.take_zero] at g1
 have hp:=pos_le o.Txns tt
 have g2:=bs_eq (p + 2) (by omega) o.Txns tt ok.srt (by omega) o.Txns.length (p + 2) o.Txns.length 0 (by omega) (by omega) (Nat.zero_le _) hp (Nat.le_refl _)
 rw [show ((0 : Nat) : Int) = 0 from rfl] at g2
 have g3:=fresh_eq (p + 2) (by omega) tt hT
 have g4:=insO_eq o.Txns tt (by omega)
 have g5:=with_eq (p + 3) (by omega) o.Txns tt (by omega)
 simp only [bnd_of (prd_s _),cp6,bs6,hTT,bnd_of g1,bnd_of g2,bnd_of g3,bnd_of g4,bnd_of g5]
 have hr : Sm (ins o.Txns tt):=fun t ht => by
  rcases (ins_mem _ _ _).1 ht with rfl | h
  ·exact hT
  ·exact hs t h
 have hlen : (ins o.Txns tt).length ≤ 100:=by rw [ins_len]; omega
 by_cases hq : pos o.Txns tt < o.Txns.length
 ·rw [decide_eq_true (show ((pos o.Txns tt : Nat) : Int) < ((o.Txns.length : Nat) : Int) by omega)]
  simp only [bnd_of (idxK_tx hq),bnd_of (f39_eq (p + 2) _ _ (by omega))]
  cases (cmpT (tx o.Txns (pos o.Txns tt)) tt == 0) with
  | true => exact ⟨_,rfl,rfl,hr,hlen⟩
  | false => exact ⟨_,rfl,rfl,hr,hlen⟩
 ·rw [decide_eq_false (show ¬ ((pos o.Txns tt : Nat) : Int) < ((o.Txns.length : Nat) : Int) by omega)]
  exact ⟨_,rfl,rfl,hr,hlen⟩
theorem new_eq (n : Nat) (i : Int) : ∃ r : GOffice × Int,f8 (n + 1) i = some r ∧ f9 (n + 1) i = some r ∧ r.1.Txns = []:=by
 rw [f8,f9]
 cases decide (i < 1) with
 | true => exact ⟨_,rfl,rfl,rfl⟩
 | false =>
 cases decide (i > 8) with
 | true => exact ⟨_,rfl,rfl,rfl⟩
 | false => exact ⟨_,rfl,rfl,rfl⟩
theorem f5_val {n : Nat} (h : 10000 ≤ n) : f5 n = some true:=by unfold f5; rw [if_pos h]
theorem edits_plain (o : GOffice) (time : Int) (src : ByteArray) (l : List GEdit) : f0 20001 o time src l = some true:=by
 rw [f0]
 obtain ⟨v,h1,h2⟩:=small_eq 19999 (by omega) o.Txns
 simp only [bnd_of h1,bnd_of (f5_val (show 10000 ≤ 20000 by omega))]
 cases v with
 | false => rfl
 | true =>
 obtain ⟨v,k1,k2⟩:=edits_eq 19999 (by omega) l
 simp only [cnd,bnd_of k1]
 cases v with
 | false => rfl
 | true =>
 simp only
 cases decide (((src.size : Nat) : Int) > 100) with
 | true => rfl
 | false =>
 obtain ⟨r,r1,r2,r3,r4⟩:=edit_eq 19999 (by omega) o time src l (h2 rfl).1 (h2 rfl).2 (k2 rfl)
 obtain ⟨q,q1,q2,q3⟩:=new_eq 19999 o.ID
 have s1:=same10 19999 (by omega) r.1 r3 (by omega)
 have s2:=same10 19999 (by omega) q.1 (by rw [q3]; intro t ht; cases ht) (by rw [q3]; simp)
 simp only [bnd_of r1,bnd_of r2,bnd_of q1,bnd_of q2,bnd_of s1,bnd_of s2,beq_self_eq_true]
end Go.Proofs.YtkdnaejhpcibnaaGreatDoor.Av
namespace Go.Proofs.YtkdnaejhpcibnaaGreatDoor.Av
open Go Go.Proofs
set_option maxRecDepth 100000
open Go.Proofs.YtkdnaejhpcibnaaGreatDoor in
theorem edits_lifted (os : Os) (started : os.Started) (H : Type) (enc : TypeId × Value → H) :
  ReturnsInHanded {} Tryz.checked os 3 .any (fun w args => (Rows.officeEditsSpec.pre enc Tryz.prog Tryz.f3 [] false w args ∧ laidMetH Tryz.prog Rows.officeEditsRow.laid w) ∧ sizedMet enc Tryz.prog Tryz.f3 (OpenSpec.ofChange Rows.officeEditsSpec) false w args)
   (Rows.officeEditsSpec.post enc Tryz.prog Tryz.f3 false true false false):=by
 refine handed_shaped (C:=Tryz.checked) (X:=fun w _ => laidMetH Tryz.prog Rows.officeEditsRow.laid w) (fun _ _ _ hh h => h.of_heap hh) own started (by kernel_rfl) Tryz.func3
  (ChangeSpec.witness_shaped (enc:=enc) (C:=Tryz.checked) (os:=os) (X:=fun w _ => laidMetH Tryz.prog Rows.officeEditsRow.laid w) false (World.laidAll Tryz.prog os Rows.officeEditsRow.laid) #[.agg #[.int .i64 0,.slice none 0 0],.int .i64 0,.string ⟨#[]⟩,.slice none 0 0] 8 (World.laidAll_os _ _ _)
   (World.shaped_of_ZipB (by kernel_rfl) (by kernel_rfl)) (by kernel_rfl) (by kernel_rfl) (by kernel_rfl)
   (by rw [MakeChecks.laidMetH_plain _ _ _ (by kernel_rfl)]; exact laidMet_laidAll _ (by kernel_rfl) (by kernel_rfl))) ?_
 intro W base args ds gs before hval hW hlaid hsh
 have hds : ∃ d0 d1 d2 d3,ds = [d0,d1,d2,d3] ∧ gs = []:=by
  obtain ⟨p,q,hA,hV,_⟩:=hW
  have hA' : DataW.TrodAll enc Tryz.prog W 0 (fun _ => true) true [24,3,9,25] args.toList ds p:=by
   have:=hA
   rw [Tryz.params3] at this
   exact this
  obtain ⟨v0,vs0,d0,ds0,p0,q0,_,rfl,rfl,h0,r0⟩:=ChangeShapes.trodAll_cons hA'
  obtain ⟨v1,vs1,d1,ds1,p1,q1,_,rfl,rfl,h1,r1⟩:=ChangeShapes.trodAll_cons r0
  obtain ⟨v2,vs2,d2,ds2,p2,q2,_,rfl,rfl,h2,r2⟩:=ChangeShapes.trodAll_cons r1
  obtain ⟨v3,vs3,d3,ds3,p3,q3,_,rfl,rfl,h3,r3⟩:=ChangeShapes.trodAll_cons r2
  obtain ⟨rfl,rfl,rfl⟩:=ChangeShapes.trodAll_nil r3
  obtain ⟨rfl,rfl⟩:=ChangeShapes.trodVars_none hV
  exact ⟨_,_,_,_,rfl,rfl⟩
 obtain ⟨d0,d1,d2,d3,rfl,rfl⟩:=hds
 refine law_contract (T:=T) (n:=10) (vi:=0) mixed checked prim_ok (by kernel_rfl) rfl (tb:=4) (by kernel_rfl) (by kernel_rfl) laid (by rw [Tryz.params3]; intro t ht; simp at ht; rcases ht with rfl | rfl | rfl | rfl <;> exact ⟨by kernel_rfl,of_decide_eq_true (by kernel_rfl)⟩) (by kernel_rfl) ?_ (glob_top hlaid hsh) ⟨rfl,rfl,rfl⟩ hval hW
 intro xs hxs
 rw [Tryz.params3] at hxs
 obtain ⟨x0,x1,x2,x3,rfl,h0,h1,h2,h3⟩:=shapeAll4 hxs
 obtain ⟨a0,rfl⟩:=arg_office h0
 obtain ⟨a1,rfl⟩:=arg_int h1
 obtain ⟨a2,rfl⟩:=arg_str h2
 obtain ⟨a3,rfl⟩:=arg_edits h3
 exact ⟨20001,evF_of_pv (f0_ok 20001 a0 a1 a2 a3 true (edits_plain a0 a1 a2 a3))⟩
open Go.Proofs.YtkdnaejhpcibnaaGreatDoor in
theorem edits_said : Rows.OfficeEditsSaid :=
 OpenClaim.holds_of_wide 3 Tryz.f3 rfl rfl rfl rfl rfl rfl rfl ⟨rfl,rfl,rfl,rfl,rfl⟩ rfl rfl rfl rfl rfl (by kernel_rfl) Tryz.func3 closed_ed
  (of_decide_eq_true (by kernel_rfl)) (by unfold Func.isWrapper; first | (rw [if_pos (by decide +kernel)]; kernel_rfl) | (rw [if_neg (by decide +kernel)]; exact ⟨rfl,rfl⟩))
  (fun os started H enc _ => edits_lifted os started H enc)
open Go.Proofs.YtkdnaejhpcibnaaGreatDoor in
theorem edits_card : Rows.OfficeEditsCardSaid :=
 Claim7.holds_tied_plain_at .later [] [.data] true (true, "13ef1da9d887c7b8949677d6daa88fa6b1e024909eb534004b64fd53ef0d4880") false
  edits_said (fun _ h => by cases h) kw_ed (fun _ h => by cases h) officeEdits_row_tie rfl ⟨rfl,rfl⟩ km_ed rfl
  (fun f fn hf hfn => by
   obtain rfl : f = 3:=Option.some.inj (kf_ed.symm.trans hf) |>.symm
   obtain rfl : fn = Tryz.f3:=(Option.some.inj (Tryz.func3.symm.trans hfn)).symm
   exact ⟨kl_ed,fun j t ht => by
    rw [Tryz.params3] at ht
    exact match j,ht with
    | 0,ht => (by have e : 24 = t:=(by simpa using ht); subst e; exact ks24_ed)
    | 1,ht => (by have e : 3 = t:=(by simpa using ht); subst e; exact ks3_ed)
    | 2,ht => (by have e : 9 = t:=(by simpa using ht); subst e; exact ks9_ed)
    | 3,ht => (by have e : 25 = t:=(by simpa using ht); subst e; exact ks25_ed)
    | n + 4,ht => (by simp at ht)⟩)
  kg_ed
end Go.Proofs.YtkdnaejhpcibnaaGreatDoor.Av
