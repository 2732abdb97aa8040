/- A part of the proofs of laws of the chapter office: an evaluator of the program, proved sound, and what it says. -/
import Derived.Test.YtkdnaejhpcibnaaGreatDoorVoQe
import Derived.Test.YtkdnaejhpcibnaaGreatDoorCards
import Derived.Test.YtkdnaejhpcibnaaGreatDoorVoJ2
set_option linter.unusedVariables false
set_option linter.unusedSimpArgs false
namespace Go.Proofs.YtkdnaejhpcibnaaGreatDoor.Av
open Go Go.IntWalk
def eqG {α : Type} [DecidableEq α] (a b : List α) : Nat → Int → Option (Unit ⊕ Unit)
 | 0,_ => none
 | m + 1,i => cnd (decide (i < ((a.length : Nat) : Int))) (bnd (idx a i) fun x => bnd (idx b i) fun y => cnd (decide (x = y)) (eqG a b m (IntKind.i64.wrap (i + 1))) (some (.inl ()))) (some (.inr ()))
theorem eqG_spec {α : Type} [DecidableEq α] (a b : List α) (hab : a.length = b.length) (hl : a.length ≤ 1000) : ∀ (d m i : Nat),i + d = a.length → d < m →
  eqG a b m (i : Int) = some (if a.drop i = b.drop i then .inr () else .inl ()):=by
 intro d
 induction d with
 | zero =>
  intro m i hi hm
  obtain ⟨m,rfl⟩ : ∃ z,m = z + 1:=⟨m - 1,by omega⟩
  rw [eqG,decide_eq_false (by omega),List.drop_of_length_le (by omega),List.drop_of_length_le (by omega)]
  rfl
 | succ d ih =>
  intro m i hi hm
  obtain ⟨m,rfl⟩ : ∃ z,m = z + 1:=⟨m - 1,by omega⟩
  have h : i < a.length:=by omega
  have h' : i < b.length:=by omega
  rw [eqG,decide_eq_true (by omega),List.drop_eq_getElem_cons h,List.drop_eq_getElem_cons h']
  simp only [cnd,bnd_of (idx_g h),bnd_of (idx_g h')]
  by_cases e : a[i] = b[i]
  ·rw [decide_eq_true e]
   simp only [wrap_succ (show i < 100000 by omega)]
   rw [ih m (i + 1) (by omega) (by omega)]
   simp only [e,List.cons.injEq,true_and]
  ·rw [decide_eq_false e]
   simp only [List.cons.injEq,e,false_and,if_false]
theorem cnd_bne {β : Type} {x y : Int} {A B : β} : cnd (x != y) A B = cnd (decide (x = y)) B A:=by
 by_cases h : x = y
 ·simp [h,cnd]
 ·have : (x != y) = true:=by simpa using h
  rw [this,decide_eq_false h]
  rfl
theorem e98 (n : Nat) (a b : List GPoint) : ∀ (m : Nat) (i : Int),f98_L0 n a b m i = eqG a b m i
 | 0,_ => rfl
 | m + 1,i => by simp only [f98_L0,eqG,e98 n a b m]
theorem e54 (n : Nat) (a b : List GPoint) : ∀ (m : Nat) (i : Int),f54_L0 n a b m i = eqG a b m i
 | 0,_ => rfl
 | m + 1,i => by simp only [f54_L0,eqG,e54 n a b m]
theorem e99 (n : Nat) (a b : List Int) : ∀ (m : Nat) (i : Int),f99_L0 n a b m i = eqG a b m i
 | 0,_ => rfl
 | m + 1,i => by simp only [f99_L0,eqG,e99 n a b m,cnd_bne]
theorem e55 (n : Nat) (a b : List Int) : ∀ (m : Nat) (i : Int),f55_L0 n a b m i = eqG a b m i
 | 0,_ => rfl
 | m + 1,i => by simp only [f55_L0,eqG,e55 n a b m,cnd_bne]
theorem whole {α : Type} [DecidableEq α] (n : Nat) (hn : 1001 ≤ n) (a b : List α) (hl : a.length ≤ 1000) :
  cnd (((a.length : Nat) : Int) != ((b.length : Nat) : Int)) (some false) (bnd2 (eqG a b n 0) (fun _ => (some false)) (fun _ => (some true))) = some (decide (a = b)):=by
 by_cases hab : a.length = b.length
 ·have h:=eqG_spec a b hab hl a.length n 0 (by omega) (by omega)
  rw [show ((0 : Nat) : Int) = 0 from rfl,List.drop_zero,List.drop_zero] at h
  rw [h,hab]
  simp only [bne_self_eq_false,cnd]
  by_cases e : a = b
  ·rw [if_pos e,decide_eq_true e]; rfl
  ·rw [if_neg e,decide_eq_false e]; rfl
 ·have : (((a.length : Nat) : Int) != ((b.length : Nat) : Int)) = true:=by
   simp only [bne_iff_ne,ne_eq]
   omega
  rw [this,decide_eq_false (fun e => hab (by rw [e]))]
  rfl
theorem f98_eq (n : Nat) (hn : 1001 ≤ n) (a b : List GPoint) (hl : a.length ≤ 1000) : f98 (n + 1) a b = some (decide (a = b)):=by
 rw [f98,e98]; exact whole n hn a b hl
theorem f54_eq (n : Nat) (hn : 1001 ≤ n) (a b : List GPoint) (hl : a.length ≤ 1000) : f54 (n + 1) a b = some (decide (a = b)):=by
 rw [f54,e54]; exact whole n hn a b hl
theorem f99_eq (n : Nat) (hn : 1001 ≤ n) (a b : List Int) (hl : a.length ≤ 1000) : f99 (n + 1) a b = some (decide (a = b)):=by
 rw [f99,e99]; exact whole n hn a b hl
theorem f55_eq (n : Nat) (hn : 1001 ≤ n) (a b : List Int) (hl : a.length ≤ 1000) : f55 (n + 1) a b = some (decide (a = b)):=by
 rw [f55,e55]; exact whole n hn a b hl
theorem beq_dec (x y : Int) : (x == y) = decide (x = y):=by by_cases h : x = y <;> simp [h]
theorem edit_same (n : Nat) (hn : 1002 ≤ n) (x y : GEdit) (h1 : x.Via.length ≤ 1000) (h2 : x.Parts.length ≤ 1000) : f78 (n + 1) x y = some (decide (x = y)) ∧ f34 (n + 1) x y = some (decide (x = y)):=by
 obtain ⟨n,rfl⟩ : ∃ z,n = z + 1:=⟨n - 1,by omega⟩
 have key : decide (x = y) = (decide (x.Kind = y.Kind) && decide (x.ID = y.ID) && decide (x.A = y.A) && decide (x.B = y.B) && decide (x.C = y.C) && decide (x.At = y.At) && decide (x.Via = y.Via) && decide (x.Name = y.Name) && decide (x.Parts = y.Parts)):=by
  cases x; cases y
  simp only [GEdit.mk.injEq,Bool.decide_and,Bool.and_assoc]
 rw [f78,f34,key]
 simp only [beq_dec,bnd_of (f98_eq n (by omega) x.Via y.Via h1),bnd_of (f99_eq n (by omega) x.Parts y.Parts h2),bnd_of (f54_eq n (by omega) x.Via y.Via h1),bnd_of (f55_eq n (by omega) x.Parts y.Parts h2)]
 cases decide (x.Kind = y.Kind) <;> cases decide (x.ID = y.ID) <;> cases decide (x.A = y.A) <;> cases decide (x.B = y.B) <;> cases decide (x.C = y.C) <;> cases decide (x.At = y.At) <;> cases decide (x.Via = y.Via) <;> cases decide (x.Name = y.Name) <;> cases decide (x.Parts = y.Parts) <;> exact ⟨rfl,rfl⟩
theorem l17 (n : Nat) (hn : 1003 ≤ n) (a b : GTxn) (hs : SmE a) (hab : a.Edits.length = b.Edits.length) : ∀ (d m i : Nat),i + d = a.Edits.length → d < m →
  f17_L0 n a b m (i : Int) = some (if a.Edits.drop i = b.Edits.drop i then .inr () else .inl ()):=by
 have hl:=hs.len
 obtain ⟨n,rfl⟩ : ∃ z,n = z + 1:=⟨n - 1,by omega⟩
 intro d
 induction d with
 | zero =>
  intro m i hi hm
  obtain ⟨m,rfl⟩ : ∃ z,m = z + 1:=⟨m - 1,by omega⟩
  rw [f17_L0,decide_eq_false (by omega),List.drop_of_length_le (by omega),List.drop_of_length_le (by omega)]
  rfl
 | succ d ih =>
  intro m i hi hm
  obtain ⟨m,rfl⟩ : ∃ z,m = z + 1:=⟨m - 1,by omega⟩
  have h : i < a.Edits.length:=by omega
  have h' : i < b.Edits.length:=by omega
  have hv:=hs.via _ (List.getElem_mem h)
  have hp:=hs.parts _ (List.getElem_mem h)
  rw [f17_L0,decide_eq_true (by omega),List.drop_eq_getElem_cons h,List.drop_eq_getElem_cons h']
  simp only [cnd,bnd_of (idx_g h),bnd_of (idx_g h'),bnd_of (edit_same n (by omega) a.Edits[i] b.Edits[i] (by omega) (by omega)).2]
  by_cases e : a.Edits[i] = b.Edits[i]
  ·rw [decide_eq_true e]
   simp only [wrap_succ (show i < 100000 by omega)]
   rw [ih m (i + 1) (by omega) (by omega)]
   simp only [e,List.cons.injEq,true_and]
  ·rw [decide_eq_false e]
   simp only [List.cons.injEq,e,false_and,if_false]
theorem l49 (n : Nat) (hn : 1003 ≤ n) (a b : GTxn) (hs : SmE a) (hab : a.Edits.length = b.Edits.length) : ∀ (d m i : Nat),i + d = a.Edits.length → d < m →
  (a.Edits.drop i = b.Edits.drop i ∧ f49_I77_L0 n b a m (i : Int) = some (.inr ())) ∨ (¬ a.Edits.drop i = b.Edits.drop i ∧ ∃ t,f49_I77_L0 n b a m (i : Int) = some (.inl t)):=by
 have hl:=hs.len
 obtain ⟨n,rfl⟩ : ∃ z,n = z + 1:=⟨n - 1,by omega⟩
 intro d
 induction d with
 | zero =>
  intro m i hi hm
  obtain ⟨m,rfl⟩ : ∃ z,m = z + 1:=⟨m - 1,by omega⟩
  rw [f49_I77_L0,decide_eq_false (by omega),List.drop_of_length_le (by omega),List.drop_of_length_le (by omega)]
  exact .inl ⟨rfl,rfl⟩
 | succ d ih =>
  intro m i hi hm
  obtain ⟨m,rfl⟩ : ∃ z,m = z + 1:=⟨m - 1,by omega⟩
  have h : i < a.Edits.length:=by omega
  have h' : i < b.Edits.length:=by omega
  have hv:=hs.via _ (List.getElem_mem h)
  have hp:=hs.parts _ (List.getElem_mem h)
  rw [f49_I77_L0,decide_eq_true (by omega),List.drop_eq_getElem_cons h,List.drop_eq_getElem_cons h']
  simp only [cnd,bnd_of (idx_g h),bnd_of (idx_g h'),bnd_of (edit_same n (by omega) a.Edits[i] b.Edits[i] (by omega) (by omega)).1]
  by_cases e : a.Edits[i] = b.Edits[i]
  ·rw [decide_eq_true e]
   simp only [wrap_succ (show i < 100000 by omega),e,List.cons.injEq,true_and]
   exact ih m (i + 1) (by omega) (by omega)
  ·rw [decide_eq_false e]
   simp only [List.cons.injEq,e,false_and,not_false_eq_true,true_and]
   exact .inr ⟨_,rfl⟩
theorem f17_eq (n : Nat) (hn : 1010 ≤ n) (a b : GTxn) (hs : SmE a) : f17 (n + 1) a b = some (decide (a = b)):=by
 have hl:=hs.len
 have key : decide (a = b) = (decide (a.Office = b.Office) && decide (a.Seq = b.Seq) && decide (a.Time = b.Time) && decide (a.Source = b.Source) && decide (a.Edits = b.Edits)):=by
  cases a; cases b
  simp only [GTxn.mk.injEq,Bool.decide_and,Bool.and_assoc]
 have e : cnd (((a.Edits.length : Nat) : Int) != ((b.Edits.length : Nat) : Int)) (some false) (bnd2 (f17_L0 n a b n 0) (fun _ => (some false)) (fun _ => (some true))) = some (decide (a.Edits = b.Edits)):=by
  by_cases hab : a.Edits.length = b.Edits.length
  ·have h:=l17 n (by omega) a b hs hab a.Edits.length n 0 (by omega) (by omega)
   rw [show ((0 : Nat) : Int) = 0 from rfl,List.drop_zero,List.drop_zero] at h
   rw [h,hab]
   simp only [bne_self_eq_false,cnd]
   by_cases e : a.Edits = b.Edits
   ·rw [if_pos e,decide_eq_true e]; rfl
   ·rw [if_neg e,decide_eq_false e]; rfl
  ·have : (((a.Edits.length : Nat) : Int) != ((b.Edits.length : Nat) : Int)) = true:=by
    simp only [bne_iff_ne,ne_eq]
    omega
   rw [this,decide_eq_false (fun e => hab (by rw [e]))]
   rfl
 rw [f17,key]
 simp only [cnd_bne,] at e ⊢
 rw [e]
 cases decide (a.Office = b.Office) <;> cases decide (a.Seq = b.Seq) <;> cases decide (a.Time = b.Time) <;> cases decide (a.Source = b.Source) <;> cases decide (a.Edits = b.Edits) <;> rfl
theorem f49_eq (n : Nat) (hn : 1010 ≤ n) (a b : GTxn) (hs : SmE a) : f49 (n + 1) a b = some (decide (a = b)):=by
 have hl:=hs.len
 obtain ⟨n,rfl⟩ : ∃ z,n = z + 1:=⟨n - 1,by omega⟩
 have key : decide (a = b) = (decide (same3 a b) && decide (a.Source = b.Source) && decide (a.Edits = b.Edits)):=by
  rw [← Bool.decide_and,← Bool.decide_and]
  apply decide_eq_decide.2
  cases a; cases b
  simp only [GTxn.mk.injEq,same3]
  constructor
  ·rintro ⟨h1,h2,h3,h4,h5⟩; exact ⟨⟨⟨h3,h1,h2⟩,h4⟩,h5⟩
  ·rintro ⟨⟨⟨h3,h1,h2⟩,h4⟩,h5⟩; exact ⟨h1,h2,h3,h4,h5⟩
 have e : cnd (((a.Edits.length : Nat) : Int) != ((b.Edits.length : Nat) : Int)) (some false) (bnd2 (f49_I77_L0 n b a n 0) (fun _ => (some false)) (fun _ => (some true))) = some (decide (a.Edits = b.Edits)):=by
  by_cases hab : a.Edits.length = b.Edits.length
  ·have h:=l49 n (by omega) a b hs hab a.Edits.length n 0 (by omega) (by omega)
   rw [show ((0 : Nat) : Int) = 0 from rfl,List.drop_zero,List.drop_zero] at h
   rw [hab]
   simp only [bne_self_eq_false,cnd]
   rcases h with ⟨h1,h2⟩ | ⟨h1,t,h2⟩
   ·rw [h2,decide_eq_true h1]; rfl
   ·rw [h2,decide_eq_false h1]; rfl
  ·have : (((a.Edits.length : Nat) : Int) != ((b.Edits.length : Nat) : Int)) = true:=by
    simp only [bne_iff_ne,ne_eq]
    omega
   rw [this,decide_eq_false (fun e => hab (by rw [e]))]
   rfl
 rw [f49,key]
 simp only [bnd_of (f39_eq (n + 1) a b (by omega)),cmpT_zero,bnd_of (prd_s n)]
 rw [e]
 cases decide (same3 a b) <;> cases decide (a.Source = b.Source) <;> cases decide (a.Edits = b.Edits) <;> rfl
end Go.Proofs.YtkdnaejhpcibnaaGreatDoor.Av
namespace Go.Proofs.YtkdnaejhpcibnaaGreatDoor.Av
open Go Go.IntWalk
theorem find (n q : Nat) (K : List GTxn) (o : GOffice) (v : List GTxn) (x : GTxn) (hl : K.length ≤ 1000) : ∀ (d m m' k : Nat),k + d = K.length → d < m → d < m' →
  (∃ j,j < K.length ∧ key2 (tx K j) x ∧ f11_I48_L0 (n + 1) K o v x m (k : Int) = some (.inl (j : Int)) ∧ f29_L0 q K x.Office x.Seq m' (k : Int) = some (.inl (j : Int))) ∨
  ((∀ j,k ≤ j → j < K.length → ¬ key2 (tx K j) x) ∧ f11_I48_L0 (n + 1) K o v x m (k : Int) = some (.inr ()) ∧ f29_L0 q K x.Office x.Seq m' (k : Int) = some (.inr ())):=by
 intro d
 induction d with
 | zero =>
  intro m m' k hk hm hm'
  obtain ⟨m,rfl⟩ : ∃ z,m = z + 1:=⟨m - 1,by omega⟩
  obtain ⟨m',rfl⟩ : ∃ z,m' = z + 1:=⟨m' - 1,by omega⟩
  right
  rw [f11_I48_L0,f29_L0,decide_eq_false (by omega)]
  exact ⟨fun j h1 h2 => by omega,rfl,rfl⟩
 | succ d ih =>
  intro m m' k hk hm hm'
  obtain ⟨m,rfl⟩ : ∃ z,m = z + 1:=⟨m - 1,by omega⟩
  obtain ⟨m',rfl⟩ : ∃ z,m' = z + 1:=⟨m' - 1,by omega⟩
  have h : k < K.length:=by omega
  rw [f11_I48_L0,f29_L0,decide_eq_true (by omega)]
  simp only [cnd,bnd_of (idxK_tx h),bnd_of (idx_tx h),bnd_of (prd_s n),beq_dec]
  by_cases e1 : (tx K k).Office = x.Office
  ·by_cases e2 : (tx K k).Seq = x.Seq
   ·rw [decide_eq_true e1,decide_eq_true e2]
    exact .inl ⟨k,h,⟨e1,e2⟩,rfl,rfl⟩
   ·rw [decide_eq_true e1,decide_eq_false e2]
    simp only [wrap_succ (show k < 100000 by omega)]
    rcases ih m m' (k + 1) (by omega) (by omega) (by omega) with h1 | ⟨h1,h2⟩
    ·exact .inl h1
    ·refine .inr ⟨fun j j1 j2 => ?_,h2⟩
     rcases Nat.lt_or_ge k j with h3 | h3
     ·exact h1 j h3 j2
     ·obtain rfl : j = k:=by omega
      exact fun hh => e2 hh.2
  ·rw [decide_eq_false e1]
   simp only [wrap_succ (show k < 100000 by omega)]
   rcases ih m m' (k + 1) (by omega) (by omega) (by omega) with h1 | ⟨h1,h2⟩
   ·exact .inl h1
   ·refine .inr ⟨fun j j1 j2 => ?_,h2⟩
    rcases Nat.lt_or_ge k j with h3 | h3
    ·exact h1 j h3 j2
    ·obtain rfl : j = k:=by omega
     exact fun hh => e1 hh.1
theorem bs11 (n : Nat) (l : List GTxn) (o : GOffice) (v : List GTxn) (x : GTxn) : ∀ (m : Nat) (i j : Int),f11_I42_L0 n l o v x m i j = bsL n l x m i j
 | 0,_,_ => rfl
 | m + 1,i,j => by simp only [f11_I42_L0,bsL,bs11 n l o v x m]
theorem cp11 (n : Nat) (o : GOffice) : ∀ (m : Nat) (l : List GTxn) (i : Int),f11_I23_L0 n o m l i = cpL n o m l i
 | 0,_,_ => rfl
 | m + 1,l,i => by simp only [f11_I23_L0,cpL,cp11 n o m]
structure Got (K l K' : List GTxn) (i : Nat) : Prop where
 srt : Srt K'
 sm : Sm K'
 len : K'.length ≤ K.length + (l.length - i)
 mem : ∀ t,t ∈ K' ↔ t ∈ K ∨ ∃ j,i ≤ j ∧ j < l.length ∧ t = tx l j
theorem recv_loop (n : Nat) (hn : 5000 ≤ n) (l : List GTxn) (o : GOffice) (v0 : List GTxn) (hsl : Sm l) (hll : l.length ≤ 14) : ∀ (d m i : Nat) (K : List GTxn),i + d = l.length → d < m → Srt K → Sm K → K.length ≤ 100 - d →
  (∃ t1 t2,f11_L0 n l o v0 m K (i : Int) = some (.inl t1) ∧ f12_L0 n l o m K (i : Int) = some (.inl t2) ∧ t1.2.2.2.2.2.2.2.2.2.2.2 = t2.2 ∧ t2.2 ≠ 0) ∨
  (∃ K',f11_L0 n l o v0 m K (i : Int) = some (.inr K') ∧ f12_L0 n l o m K (i : Int) = some (.inr K') ∧ Got K l K' i):=by
 obtain ⟨n,rfl⟩ : ∃ z,n = z + 6:=⟨n - 6,by omega⟩
 intro d
 induction d with
 | zero =>
  intro m i K hi hm hK hs hlen
  obtain ⟨m,rfl⟩ : ∃ z,m = z + 1:=⟨m - 1,by omega⟩
  right
  rw [f11_L0,f12_L0,decide_eq_false (by omega)]
  exact ⟨K,rfl,rfl,hK,hs,by omega,fun t => ⟨.inl,fun h => by
   rcases h with h | ⟨j,j1,j2,_⟩
   ·exact h
   ·omega⟩⟩
 | succ d ih =>
  intro m i K hi hm hK hs hlen
  obtain ⟨m,rfl⟩ : ∃ z,m = z + 1:=⟨m - 1,by omega⟩
  have h : i < l.length:=by omega
  have hx:=hsl _ (tx_mem h)
  obtain ⟨c,hc⟩:=chk_all _ hx
  rw [f11_L0,f12_L0,decide_eq_true (by omega)]
  simp only [cnd,bnd_of (idx_tx h),bnd_of (prd_s (n + 5)),bnd_of (hc (n + 5) (by omega)).1,bnd_of (hc (n + 6) (by omega)).2]
  by_cases hc0 : c = 0
  ·subst hc0
   simp only [bne_self_eq_false,bnd_of (prd_s (n + 4)),wrap_succ (show i < 100000 by omega)]
   have hf:=find (n + 3) (n + 6 - 1) K o v0 (tx l i) (by omega) K.length (n + 4) (n + 5) 0 (by omega) (by omega) (by omega)
   rw [show ((0 : Nat) : Int) = 0 from rfl] at hf
   have hstep : ∀ (K2 : List GTxn),Srt K2 → Sm K2 → K2.length ≤ K.length + 1 → (∀ t,t ∈ K2 ↔ t ∈ K ∨ t = tx l i) →
     (∃ t1 t2,f11_L0 (n + 6) l o v0 m K2 ((i + 1 : Nat) : Int) = some (.inl t1) ∧ f12_L0 (n + 6) l o m K2 ((i + 1 : Nat) : Int) = some (.inl t2) ∧ t1.2.2.2.2.2.2.2.2.2.2.2 = t2.2 ∧ t2.2 ≠ 0) ∨
     (∃ K',f11_L0 (n + 6) l o v0 m K2 ((i + 1 : Nat) : Int) = some (.inr K') ∧ f12_L0 (n + 6) l o m K2 ((i + 1 : Nat) : Int) = some (.inr K') ∧ Got K l K' i):=by
    intro K2 a1 a2 a3 a4
    rcases ih m (i + 1) K2 (by omega) (by omega) a1 a2 (by omega) with h1 | ⟨K',b1,b2,b3⟩
    ·exact .inl h1
    ·refine .inr ⟨K',b1,b2,b3.srt,b3.sm,by have:=b3.len; omega,fun t => ?_⟩
     rw [b3.mem,a4]
     constructor
     ·rintro ((h1 | h1) | ⟨j,j1,j2,j3⟩)
      ·exact .inl h1
      ·exact .inr ⟨i,Nat.le_refl _,h,h1⟩
      ·exact .inr ⟨j,by omega,j2,j3⟩
     ·rintro (h1 | ⟨j,j1,j2,j3⟩)
      ·exact .inl (.inl h1)
      ·rcases Nat.lt_or_ge i j with h5 | h5
       ·exact .inr ⟨j,h5,j2,j3⟩
       ·obtain rfl : j = i:=by omega
        exact .inl (.inr j3)
   rcases hf with ⟨j,j1,j2,j3,j4⟩ | ⟨hno,j3,j4⟩
   ·have e29 : f29 (n + 6) K (tx l i).Office (tx l i).Seq = some (j : Int):=by
     rw [f29]
     have : f29_L0 (n + 5) K (tx l i).Office (tx l i).Seq (n + 5) 0 = some (.inl (j : Int)):=j4
     rw [this]
     rfl
    have d1 : decide ((j : Int) ≥ 0) = true:=decide_eq_true (by omega)
    rw [j3]
    simp only [bnd2,bnd_of e29,d1,bnd_of (idxK_tx j1),bnd_of (idx_tx j1),bnd_of (f49_eq (n + 4) (by omega) (tx K j) (tx l i) (hs _ (tx_mem j1))),bnd_of (f17_eq (n + 5) (by omega) (tx K j) (tx l i) (hs _ (tx_mem j1)))]
    by_cases he : tx K j = tx l i
    ·rw [decide_eq_true he]
     refine hstep K hK hs (by omega) fun t => ⟨.inl,fun h5 => ?_⟩
     rcases h5 with h5 | h5
     ·exact h5
     ·rw [h5,← he]; exact tx_mem j1
    ·rw [decide_eq_false he]
     exact .inl ⟨_,_,rfl,rfl,rfl,show (16 : Int) ≠ 0 by decide⟩
   ·have e29 : f29 (n + 6) K (tx l i).Office (tx l i).Seq = some (-1):=by
     rw [f29]
     have : f29_L0 (n + 5) K (tx l i).Office (tx l i).Seq (n + 5) 0 = some (.inr ()):=j4
     rw [this]
     rfl
    have d1 : decide ((-1 : Int) ≥ 0) = false:=rfl
    have d2 : decide (((K.length : Nat) : Int) ≥ 256) = false:=decide_eq_false (by omega)
    rw [j3]
    simp only [bnd2,bnd_of e29,d1,d2,bnd_of (prd_s (n + 4)),bnd_of (prd_s (n + 3)),bnd_of (prd_s (n + 2))]
    have hp:=pos_le K (tx l i)
    have g2:=bs_eq (n + 3) (by omega) K (tx l i) hK (by omega) K.length (n + 3) K.length 0 (by omega) (by omega) (Nat.zero_le _) hp (Nat.le_refl _)
    rw [show ((0 : Nat) : Int) = 0 from rfl] at g2
    have g3:=fresh_eq (n + 3) (by omega) (tx l i) hx
    have g4:=insO_eq K (tx l i) (by omega)
    have g5:=with_eq (n + 5) (by omega) K (tx l i) (by omega)
    have hkey : ∀ x ∈ K,¬ key2 x (tx l i):=by
     intro y hy
     obtain ⟨j,hj,rfl⟩:=List.getElem_of_mem hy
     have:=hno j (Nat.zero_le _) hj
     rwa [tx_get hj] at this
    have hfin:=hstep (ins K (tx l i)) (ins_srt hK hkey) (fun t ht => by
     rcases (ins_mem _ _ _).1 ht with rfl | h5
     ·exact hx
     ·exact hs t h5) (by rw [ins_len]; omega) (fun t => by rw [ins_mem]; exact Or.comm)
    simp only [bs11,bnd_of g2,bnd_of g3,bnd_of g4,bnd_of g5]
    by_cases hq : pos K (tx l i) < K.length
    ·rw [decide_eq_true (show ((pos K (tx l i) : Nat) : Int) < ((K.length : Nat) : Int) by omega)]
     simp only [bnd_of (idxK_tx hq),bnd_of (f39_eq (n + 3) _ _ (by omega))]
     cases (cmpT (tx K (pos K (tx l i))) (tx l i) == 0) with
     | true => exact hfin
     | false => exact hfin
    ·rw [decide_eq_false (show ¬ ((pos K (tx l i) : Nat) : Int) < ((K.length : Nat) : Int) by omega)]
     exact hfin
  ·have hb : (c != 0) = true:=by simpa using hc0
   rw [hb]
   exact .inl ⟨_,_,rfl,rfl,rfl,hc0⟩
theorem recv_eq (n : Nat) (hn : 6000 ≤ n) (o : GOffice) (l : List GTxn) (hs : Sm o.Txns) (hl : o.Txns.length ≤ 14) (hsl : Sm l) (hll : l.length ≤ 14) :
  ∃ r : GOffice × Int,f11 (n + 1) o l = some r ∧ f12 (n + 1) o l = some r ∧ Sm r.1.Txns ∧ r.1.Txns.length ≤ 100 ∧
   ((r.2 = 0 ∧ OkO o ∧ r.1.ID = o.ID ∧ Got o.Txns l r.1.Txns 0) ∨ (r.2 ≠ 0 ∧ r.1.Txns = [])):=by
 obtain ⟨k,rfl⟩ : ∃ k,n = k + 1:=⟨n - 1,by omega⟩
 have hz : Sm (GOffice.mk 0 []).Txns:=fun t ht => by cases ht
 rw [f11,f12]
 obtain ⟨v,h1,h2,h3⟩:=valid_eq k (by omega) o hs hl
 simp only [bnd_of h1,bnd_of h2]
 cases v with
 | false => exact ⟨_,rfl,rfl,hz,by simp,.inr ⟨by decide,rfl⟩⟩
 | true =>
 have ok:=h3 rfl
 have g1:=cp_eq k (by omega) o hs (by omega) o.Txns.length k 0 (by omega) (by omega)
 rw [show ((0 : Nat) : Int) = 0 from rfl,List.take_zero] at g1
 have g2 : app ([] : List GTxn) o.Txns = some o.Txns:=app_of (by simp; omega)
 simp only [cnd,bnd_of (prd_s k),cp11,bnd_of g1,bnd_of g2]
 have hr:=recv_loop (k + 1) (by omega) l o o.Txns hsl hll l.length (k + 1) 0 o.Txns (by omega) (by omega) ok.srt hs (by omega)
 rw [show ((0 : Nat) : Int) = 0 from rfl] at hr
 rcases hr with ⟨t1,t2,a1,a2,a3,a4⟩ | ⟨K',a1,a2,a3⟩
 ·rw [a1,a2]
  simp only [bnd2,a3]
  exact ⟨_,rfl,rfl,hz,by simp,.inr ⟨a4,rfl⟩⟩
 ·rw [a1,a2]
  simp only [bnd2]
  exact ⟨_,rfl,rfl,a3.sm,by have:=a3.len; show K'.length ≤ 100; omega,.inl ⟨rfl,ok,rfl,a3⟩⟩
end Go.Proofs.YtkdnaejhpcibnaaGreatDoor.Av
namespace Go.Proofs.YtkdnaejhpcibnaaGreatDoor.Av
open Go Go.IntWalk
def cnt (c : GClock) (a : Int) : Int:=if a < 1 then 0 else if a > 8 then 0 else if a > ((c.Counts.length : Nat) : Int) then 0 else imax 0 (c.Counts.getD (a.toNat - 1) 0)
def knw (c : GClock) (t : GTxn) : Bool:=decide (1 ≤ t.Seq) && decide (t.Seq ≤ cnt c t.Office)
theorem f80_eq (n : Nat) (x : Int) : f80 (n + 1) x 0 = some (imax 0 x):=by
 simp only [f80,cnd_ite,decide_eq_true_eq,imax]
 split <;> split <;> first | rfl | (congr 1; omega)
theorem idx_cnt {c : GClock} {a : Int} (h1 : ¬ a < 1) (h2 : ¬ a > 8) (h3 : ¬ a > ((c.Counts.length : Nat) : Int)) : idx c.Counts (IntKind.i64.wrap (a - 1)) = some (c.Counts.getD (a.toNat - 1) 0):=by
 have e : IntKind.i64.wrap (a - 1) = ((a.toNat - 1 : Nat) : Int):=by rw [i64_in _ (by omega)]; omega
 have hlt : a.toNat - 1 < c.Counts.length:=by omega
 rw [e,idx_get hlt]
 simp [hlt]
theorem f56_eq (n : Nat) (c : GClock) (a : Int) : f56 (n + 2) c a = some (cnt c a):=by
 rw [f56,cnt]
 by_cases h1 : a < 1
 ·rw [decide_eq_true h1,if_pos h1]; rfl
 rw [decide_eq_false h1,if_neg h1]
 by_cases h2 : a > 8
 ·rw [decide_eq_true h2,if_pos h2]; rfl
 rw [decide_eq_false h2,if_neg h2]
 by_cases h3 : a > ((c.Counts.length : Nat) : Int)
 ·rw [decide_eq_true h3,if_pos h3]; rfl
 rw [decide_eq_false h3,if_neg h3]
 simp only [cnd,bnd_of (idx_cnt h1 h2 h3),bnd_of (f80_eq n _)]
theorem f79_eq (n : Nat) (c : GClock) (a : Int) : f79 (n + 1) c a = some (cnt c a):=by
 rw [f79,cnt]
 by_cases h1 : a < 1
 ·rw [decide_eq_true h1,if_pos h1]; rfl
 rw [decide_eq_false h1,if_neg h1]
 by_cases h2 : a > 8
 ·rw [decide_eq_true h2,if_pos h2]; rfl
 rw [decide_eq_false h2,if_neg h2]
 by_cases h3 : a > ((c.Counts.length : Nat) : Int)
 ·rw [decide_eq_true h3,if_pos h3]; rfl
 rw [decide_eq_false h3,if_neg h3]
 simp only [cnd,bnd_of (idx_cnt h1 h2 h3)]
theorem f35_eq (n : Nat) (c : GClock) (t : GTxn) : f35 (n + 3) c t.Office t.Seq = some (knw c t):=by
 rw [f35,knw]
 simp only [bnd_of (f56_eq n c _)]
 cases decide (1 ≤ t.Seq) <;> cases decide (t.Seq ≤ cnt c t.Office) <;> rfl
theorem f53_eq (n : Nat) (c : GClock) (t : GTxn) : f53 (n + 3) c t.Office t.Seq = some (knw c t):=by
 rw [f53,knw]
 simp only [bnd_of (f79_eq (n + 1) c _),ge_iff_le]
 cases decide (1 ≤ t.Seq) <;> cases decide (t.Seq ≤ cnt c t.Office) <;> rfl
theorem copy51 (n : Nat) (l : List GPoint) (h : l.length ≤ 1000) : f51 (n + 1) l = some l:=by
 rw [f51]
 cases l with
 | nil => rfl
 | cons x r =>
  have e : app ([] : List GPoint) (x :: r) = some (x :: r):=app_of (by simpa using (show r.length + 1 ≤ 1000000 by simp at h; omega))
  simp only [List.isEmpty_cons,cnd,bnd_of e]
theorem copy52 (n : Nat) (l : List Int) (h : l.length ≤ 1000) : f52 (n + 1) l = some l:=by
 rw [f52]
 cases l with
 | nil => rfl
 | cons x r =>
  have e : app ([] : List Int) (x :: r) = some (x :: r):=app_of (by simpa using (show r.length + 1 ≤ 1000000 by simp at h; omega))
  simp only [List.isEmpty_cons,cnd,bnd_of e]
theorem send_loop2 (n : Nat) (K : List GTxn) (o : GOffice) (k : Int) (c : GClock) (t : GTxn) (hs : SmE t) : ∀ (d m i : Nat),i + d = t.Edits.length → d < m → f13_I30_L1_2 (n + 1) K o k t.Edits c t m t.Edits (i : Int) = some t.Edits:=by
 have hl:=hs.len
 intro d
 induction d with
 | zero =>
  intro m i hi hm
  obtain ⟨m,rfl⟩ : ∃ z,m = z + 1:=⟨m - 1,by omega⟩
  rw [f13_I30_L1_2,decide_eq_false (by omega)]
  rfl
 | succ d ih =>
  intro m i hi hm
  obtain ⟨m,rfl⟩ : ∃ z,m = z + 1:=⟨m - 1,by omega⟩
  have h : i < t.Edits.length:=by omega
  have hm:=List.getElem_mem h
  have hv:=hs.via _ hm
  have hp:=hs.parts _ hm
  rw [f13_I30_L1_2,decide_eq_true (by omega)]
  have e0 : (GEdit.mk t.Edits[i].Kind t.Edits[i].ID t.Edits[i].A t.Edits[i].B t.Edits[i].C t.Edits[i].At t.Edits[i].Via t.Edits[i].Name t.Edits[i].Parts) = t.Edits[i]:=rfl
  simp only [cnd,bnd_of (idxK_get h h),bnd_of (copy51 n _ (show t.Edits[i].Via.length ≤ 1000 by omega)),bnd_of (copy52 n _ (show t.Edits[i].Parts.length ≤ 1000 by omega)),e0,Int.toNat_natCast,set_get _ i h,wrap_succ (show i < 100000 by omega)]
  exact ih m (i + 1) (by omega) (by omega)
def miss (c : GClock) (l : List GTxn) : List GTxn:=l.filter fun t => !knw c t
theorem miss_cons {c : GClock} {l : List GTxn} {i : Nat} (h : i < l.length) : miss c (l.drop i) = if knw c (tx l i) = true then miss c (l.drop (i + 1)) else tx l i :: miss c (l.drop (i + 1)):=by
 rw [List.drop_eq_getElem_cons h,tx_get h]
 unfold miss
 rw [List.filter_cons]
 cases knw c l[i] <;> rfl
theorem miss_len (c : GClock) (l : List GTxn) : (miss c l).length ≤ l.length:=List.length_filter_le _ _
theorem send_loop (n : Nat) (hn : 100 ≤ n) (q : Nat) (hq : 100 ≤ q) (o : GOffice) (c : GClock) (hs : Sm o.Txns) (hl : o.Txns.length ≤ 1000) : ∀ (d m m' i : Nat) (K : List GTxn),i + d = o.Txns.length → d < m → d < m' → K.length ≤ i →
  f13_I30_L0 n o c m K (i : Int) = some (K ++ miss c (o.Txns.drop i)) ∧ f31_L0 q o.Txns c m' K (i : Int) = some (K ++ miss c (o.Txns.drop i)):=by
 obtain ⟨n,rfl⟩ : ∃ z,n = z + 3:=⟨n - 3,by omega⟩
 obtain ⟨q,rfl⟩ : ∃ z,q = z + 3:=⟨q - 3,by omega⟩
 intro d
 induction d with
 | zero =>
  intro m m' i K hi hm hm' hK
  obtain ⟨m,rfl⟩ : ∃ z,m = z + 1:=⟨m - 1,by omega⟩
  obtain ⟨m',rfl⟩ : ∃ z,m' = z + 1:=⟨m' - 1,by omega⟩
  rw [f13_I30_L0,f31_L0,decide_eq_false (by omega),List.drop_of_length_le (by omega)]
  simp [cnd,miss]
 | succ d ih =>
  intro m m' i K hi hm hm' hK
  obtain ⟨m,rfl⟩ : ∃ z,m = z + 1:=⟨m - 1,by omega⟩
  obtain ⟨m',rfl⟩ : ∃ z,m' = z + 1:=⟨m' - 1,by omega⟩
  have h : i < o.Txns.length:=by omega
  have hx:=hs _ (tx_mem h)
  have hel:=hx.len
  rw [f13_I30_L0,f31_L0,decide_eq_true (by omega),miss_cons h]
  simp only [cnd,bnd_of (idx_tx h),bnd_of (f35_eq n c _),bnd_of (f53_eq q c _),wrap_succ (show i < 100000 by omega)]
  cases hk : knw c (tx o.Txns i) with
  | true =>
   simp only [if_true]
   exact ih m m' (i + 1) K (by omega) (by omega) (by omega) (by omega)
  | false =>
   simp only [Bool.false_eq_true,if_false,bnd_of (prd_s (n + 2))]
   have e1 : app K [tx o.Txns i] = some (K ++ [tx o.Txns i]):=app_of (by simp; omega)
   have r:=ih m m' (i + 1) (K ++ [tx o.Txns i]) (by omega) (by omega) (by omega) (by simp; omega)
   rw [List.append_assoc,List.singleton_append] at r
   simp only [bnd_of e1]
   refine ⟨?_,r.2⟩
   cases he : (tx o.Txns i).Edits.isEmpty with
   | true =>
    have e : (tx o.Txns i).Edits = []:=List.isEmpty_iff.1 he
    have e2 : GTxn.mk (tx o.Txns i).Office (tx o.Txns i).Seq (tx o.Txns i).Time (tx o.Txns i).Source [] = tx o.Txns i:=by rw [← e]
    have h1 : f13_I30_L1 (n + 3) K o (i : Int) c (tx o.Txns i) (n + 3) = some ():=rfl
    simp only [bnd_of h1,e2,bnd_of e1]
    exact r.1
   | false =>
    have e3 : app ([] : List GEdit) (tx o.Txns i).Edits = some (tx o.Txns i).Edits:=app_of (by simp; omega)
    have h1:=send_loop2 (n + 2) K o (i : Int) c (tx o.Txns i) hx (tx o.Txns i).Edits.length (n + 3) 0 (by omega) (by omega)
    rw [show ((0 : Nat) : Int) = 0 from rfl] at h1
    simp only [bnd_of e3,bnd_of h1,bnd_of e1]
    exact r.1
theorem send_eq (n : Nat) (hn : 3000 ≤ n) (o : GOffice) (c : GClock) (hs : Sm o.Txns) (hl : o.Txns.length ≤ 1000) : f13 (n + 1) o c = some (miss c o.Txns) ∧ f14 (n + 1) o c = some (miss c o.Txns):=by
 obtain ⟨n,rfl⟩ : ∃ z,n = z + 1:=⟨n - 1,by omega⟩
 have h:=send_loop n (by omega) n (by omega) o c hs hl o.Txns.length n n 0 [] (by omega) (by omega) (by omega) (by simp)
 rw [show ((0 : Nat) : Int) = 0 from rfl,List.drop_zero,List.nil_append] at h
 have h31 : f31 (n + 1) c o.Txns = some (miss c o.Txns):=by rw [f31]; simp only [bnd_of h.2]
 rw [f13,f14]
 simp only [bnd_of (prd_s n),bnd_of h.1,bnd_of h31,and_self]
theorem miss_sm {c : GClock} {l : List GTxn} (hs : Sm l) : Sm (miss c l):=fun t ht => hs t (List.mem_filter.1 ht).1
end Go.Proofs.YtkdnaejhpcibnaaGreatDoor.Av
namespace Go.Proofs.YtkdnaejhpcibnaaGreatDoor.Av
open Go Go.IntWalk
theorem pigeon (o : Int) : ∀ (k : Nat) (l : List GTxn),(∀ s : Nat,1 ≤ s → s ≤ k → ∃ t ∈ l,t.Office = o ∧ t.Seq = (s : Int)) → k ≤ l.length:=by
 intro k
 induction k with
 | zero => intro l _; omega
 | succ k ih =>
  intro l h
  obtain ⟨t,ht,h1,h2⟩:=h (k + 1) (by omega) (Nat.le_refl _)
  have hlt : (l.filter fun x => decide (x.Seq ≠ ((k + 1 : Nat) : Int))).length < l.length:=by
   rw [List.length_filter_lt_length_iff_exists]
   exact ⟨t,ht,by simp [h2]⟩
  have:=ih (l.filter fun x => decide (x.Seq ≠ ((k + 1 : Nat) : Int))) (fun s s1 s2 => by
   obtain ⟨x,hx,x1,x2⟩:=h s s1 (by omega)
   exact ⟨x,List.mem_filter.2 ⟨hx,by simp only [decide_eq_true_eq]; rw [x2]; omega⟩,x1,x2⟩)
  omega
def HasM (l : List GTxn) (mp : List (GArr2_Int × Bool)) : Prop:=∀ o s : Int,(mget mp (GArr2_Int.mk o s)).getD false = true → ∃ t ∈ l,t.Office = o ∧ t.Seq = s
theorem of_map (n : Nat) (l : List GTxn) (hl : l.length ≤ 1000) : ∀ (d m i : Nat) (mp : List (GArr2_Int × Bool)),i + d = l.length → d < m → HasM l mp → ∃ mp',f16_L0 n l m mp (i : Int) = some mp' ∧ HasM l mp':=by
 intro d
 induction d with
 | zero =>
  intro m i mp hi hm hh
  obtain ⟨m,rfl⟩ : ∃ z,m = z + 1:=⟨m - 1,by omega⟩
  rw [f16_L0,decide_eq_false (by omega)]
  exact ⟨mp,rfl,hh⟩
 | succ d ih =>
  intro m i mp hi hm hh
  obtain ⟨m,rfl⟩ : ∃ z,m = z + 1:=⟨m - 1,by omega⟩
  have h : i < l.length:=by omega
  rw [f16_L0,decide_eq_true (by omega)]
  simp only [cnd,bnd_of (idx_tx h),wrap_succ (show i < 100000 by omega)]
  refine ih m (i + 1) _ (by omega) (by omega) fun o s hos => ?_
  rw [mget_put] at hos
  by_cases e : GArr2_Int.mk (tx l i).Office (tx l i).Seq = GArr2_Int.mk o s
  ·simp only [GArr2_Int.mk.injEq] at e
   exact ⟨tx l i,tx_mem h,e.1,e.2⟩
  ·rw [if_neg e] at hos
   exact hh o s hos
theorem of_count (n : Nat) (l : List GTxn) (hl : l.length ≤ 1000) (mp : List (GArr2_Int × Bool)) (hh : HasM l mp) (a : Int) (cs : List Int) : ∀ (d m i : Nat),i + d = l.length + 1 → d < m → (∀ s : Nat,1 ≤ s → s ≤ i → ∃ t ∈ l,t.Office = a ∧ t.Seq = (s : Int)) →
  ∃ v : Nat,f16_I32_L0 n a mp cs m (i : Int) = some (v : Int) ∧ ∀ s : Nat,1 ≤ s → s ≤ v → ∃ t ∈ l,t.Office = a ∧ t.Seq = (s : Int):=by
 intro d
 induction d with
 | zero =>
  intro m i hi hm hs
  have:=pigeon a i l hs
  omega
 | succ d ih =>
  intro m i hi hm hs
  obtain ⟨m,rfl⟩ : ∃ z,m = z + 1:=⟨m - 1,by omega⟩
  rw [f16_I32_L0]
  simp only [wrap_succ (show i < 100000 by omega)]
  cases hg : (mget mp (GArr2_Int.mk a ((i + 1 : Nat) : Int))).getD false with
  | true =>
   simp only [cnd]
   refine ih m (i + 1) (by omega) (by omega) fun s s1 s2 => ?_
   rcases Nat.lt_or_ge i s with h1 | h1
   ·obtain rfl : s = i + 1:=by omega
    exact hh _ _ hg
   ·exact hs s s1 h1
  | false => exact ⟨i,rfl,hs⟩
def CntOk (l : List GTxn) (cs : List Int) : Prop:=∀ j,j < cs.length → ∀ s : Int,1 ≤ s → s ≤ cs.getD j 0 → ∃ t ∈ l,t.Office = ((j + 1 : Nat) : Int) ∧ t.Seq = s
theorem of_loop (n : Nat) (hn : 2000 ≤ n) (l : List GTxn) (hl : l.length ≤ 1000) (mp : List (GArr2_Int × Bool)) (hh : HasM l mp) : ∀ (d m z : Nat) (cs : List Int),cs.length + z + d = 8 → d < m → CntOk l cs →
  ∃ cs',f16_I33_L0 n mp m cs (z : Int) ((cs.length + z + 1 : Nat) : Int) = some cs' ∧ CntOk l cs':=by
 obtain ⟨n,rfl⟩ : ∃ z,n = z + 1:=⟨n - 1,by omega⟩
 intro d
 induction d with
 | zero =>
  intro m z cs hz hm hc
  obtain ⟨m,rfl⟩ : ∃ z,m = z + 1:=⟨m - 1,by omega⟩
  rw [f16_I33_L0,decide_eq_false (by omega)]
  exact ⟨cs,rfl,hc⟩
 | succ d ih =>
  intro m z cs hz hm hc
  obtain ⟨m,rfl⟩ : ∃ z,m = z + 1:=⟨m - 1,by omega⟩
  obtain ⟨v,v1,v2⟩:=of_count n l hl mp hh ((cs.length + z + 1 : Nat) : Int) cs (l.length + 1) n 0 (by omega) (by omega) (fun s s1 s2 => by omega)
  rw [show ((0 : Nat) : Int) = 0 from rfl] at v1
  rw [f16_I33_L0,decide_eq_true (by omega)]
  simp only [cnd,bnd_of (prd_s n),bnd_of v1,wrap_succ (show z < 100000 by omega),wrap_succ (show cs.length + z + 1 < 100000 by omega)]
  by_cases hv : v = 0
  ·subst hv
   have e : (((0 : Nat) : Int) == 0) = true:=rfl
   rw [e]
   simp only
   have:=ih m (z + 1) cs (by omega) (by omega) hc
   rw [show cs.length + (z + 1) + 1 = cs.length + z + 1 + 1 by omega] at this
   exact this
  ·have e : (((v : Nat) : Int) == 0) = false:=by simpa using hv
   rw [e]
   have e1 : appZ cs (z : Int) 0 = some (cs ++ List.replicate z 0):=by
    unfold appZ
    rw [if_pos ⟨by omega,by simp only [Int.toNat_natCast]; omega⟩,Int.toNat_natCast]
   have e2 : app (cs ++ List.replicate z 0) [(v : Int)] = some (cs ++ List.replicate z 0 ++ [(v : Int)]):=app_of (by simp; omega)
   simp only [bnd_of e1,bnd_of e2]
   have hlen : (cs ++ List.replicate z 0 ++ [(v : Int)]).length = cs.length + z + 1:=by simp; omega
   have:=ih m 0 (cs ++ List.replicate z 0 ++ [(v : Int)]) (by rw [hlen]; omega) (by omega) (by
    intro j hj s s1 s2
    rw [hlen] at hj
    simp only [List.getD_eq_getElem?_getD] at s2
    by_cases h1 : j < cs.length
    ·rw [List.append_assoc,List.getElem?_append_left h1] at s2
     exact hc j h1 s s1 (by rw [List.getD_eq_getElem?_getD]; exact s2)
    ·by_cases h2 : j < cs.length + z
     ·rw [List.getElem?_append_left (by simp; omega),List.getElem?_append_right (by omega),List.getElem?_replicate] at s2
      split at s2
      ·simp only [Option.getD_some] at s2; omega
      ·simp only [Option.getD_none] at s2; omega
     ·obtain rfl : j = cs.length + z:=by omega
      rw [List.getElem?_append_right (by simp)] at s2
      simp only [List.length_append,List.length_replicate,Nat.sub_self,List.getElem?_cons_zero,Option.getD_some] at s2
      obtain ⟨t,t1,t2,t3⟩:=v2 s.toNat (by omega) (by omega)
      exact ⟨t,t1,t2,by rw [t3]; omega⟩)
   rw [hlen] at this
   exact this
theorem of_eq (n : Nat) (hn : 3000 ≤ n) (l : List GTxn) (hl : l.length ≤ 1000) : ∃ c,f16 (n + 1) l = some c ∧ ∀ t,knw c t = true → ∃ u ∈ l,key2 u t:=by
 obtain ⟨n,rfl⟩ : ∃ z,n = z + 1:=⟨n - 1,by omega⟩
 obtain ⟨mp,m1,m2⟩:=of_map (n + 1) l hl l.length (n + 1) 0 [] (by omega) (by omega) (fun o s h => by cases h)
 rw [show ((0 : Nat) : Int) = 0 from rfl] at m1
 obtain ⟨cs,c1,c2⟩:=of_loop n (by omega) l hl mp m2 8 n 0 [] (by simp) (by omega) (fun j h => by simp at h)
 have c1' : f16_I33_L0 n mp n [] 0 1 = some cs:=c1
 rw [f16]
 simp only [bnd_of m1,bnd_of (prd_s n),bnd_of c1']
 refine ⟨_,rfl,fun t ht => ?_⟩
 unfold knw at ht
 simp only [Bool.and_eq_true,decide_eq_true_eq] at ht
 obtain ⟨h1,h2⟩:=ht
 unfold cnt at h2
 split at h2
 ·omega
 ·split at h2
  ·omega
  ·split at h2
   ·omega
   ·rename_i k1 k2 k3
    simp only at k3 h2
    have hlt : t.Office.toNat - 1 < cs.length:=by omega
    have h3 : t.Seq ≤ cs.getD (t.Office.toNat - 1) 0:=by
     unfold imax at h2
     split at h2 <;> omega
    obtain ⟨u,u1,u2,u3⟩:=c2 _ hlt t.Seq h1 h3
    exact ⟨u,u1,by rw [u2]; omega,u3⟩
theorem srt_ext : ∀ (a b : List GTxn),Srt a → Srt b → (∀ t,t ∈ a ↔ t ∈ b) → a = b
 | [],[],_,_,_ => rfl
 | [],y :: b,_,_,h => by have:=(h y).2 (by simp); cases this
 | x :: a,[],_,_,h => by have:=(h x).1 (by simp); cases this
 | x :: a,y :: b,ha,hb,h => by
  have head : ∀ (z : GTxn) (c : List GTxn),Srt (z :: c) → ∀ t ∈ c,bef z t = true:=by
   intro z c hc t ht
   obtain ⟨j,hj,rfl⟩:=List.getElem_of_mem ht
   have:=hc 0 (j + 1) (by omega) (by simp; omega)
   rw [tx_cons,tx_get hj] at this
   exact this
  have tail : ∀ (z : GTxn) (c : List GTxn),Srt (z :: c) → Srt c:=by
   intro z c hc i j hij hj
   have:=hc (i + 1) (j + 1) (by omega) (by simp; omega)
   rwa [tx_cons,tx_cons] at this
  have hxy : x = y:=by
   have h1:=(h x).1 (by simp)
   have h2:=(h y).2 (by simp)
   rcases List.mem_cons.1 h1 with h1 | h1
   ·exact h1
   ·rcases List.mem_cons.1 h2 with h2 | h2
    ·exact h2.symm
    ·have b1:=head y b hb x h1
     have b2:=head x a ha y h2
     have:=bef_trans b1 b2
     rw [bef_irrefl] at this
     cases this
  subst hxy
  have hne : ∀ (c : List GTxn),Srt (x :: c) → x ∉ c:=by
   intro c hc hx
   have:=head x c hc x hx
   rw [bef_irrefl] at this
   cases this
  rw [srt_ext a b (tail _ _ ha) (tail _ _ hb) fun t => ?_]
  constructor
  ·intro ht
   rcases List.mem_cons.1 ((h t).1 (by simp [ht])) with e | e
   ·subst e; exact absurd ht (hne a ha)
   ·exact e
  ·intro ht
   rcases List.mem_cons.1 ((h t).2 (by simp [ht])) with e | e
   ·subst e; exact absurd ht (hne b hb)
   ·exact e
theorem clash_L1 (n : Nat) (hn : 10000 ≤ n) (a b : GOffice) (X Y : GOffice × Int) (ha : Sm a.Txns) (hlb : b.Txns.length ≤ 1000) (i : Nat) (hi : i < a.Txns.length) : ∀ (d m k : Nat),k + d = b.Txns.length → d < m →
  f2_L1 n (i : Int) a b X Y m (k : Int) = some (.inl true) ∨ (f2_L1 n (i : Int) a b X Y m (k : Int) = some (.inr ()) ∧ ∀ j,k ≤ j → j < b.Txns.length → key2 (tx a.Txns i) (tx b.Txns j) → tx a.Txns i = tx b.Txns j):=by
 obtain ⟨q,rfl⟩ : ∃ z,n = z + 1:=⟨n - 1,by omega⟩
 intro d
 induction d with
 | zero =>
  intro m k hk hm
  obtain ⟨m,rfl⟩ : ∃ z,m = z + 1:=⟨m - 1,by omega⟩
  rw [f2_L1,decide_eq_false (by omega)]
  exact .inr ⟨rfl,fun j h1 h2 => by omega⟩
 | succ d ih =>
  intro m k hk hm
  obtain ⟨m,rfl⟩ : ∃ z,m = z + 1:=⟨m - 1,by omega⟩
  have h : k < b.Txns.length:=by omega
  have ih':=ih m (k + 1) (by omega) (by omega)
  have fin : (key2 (tx a.Txns i) (tx b.Txns k) → tx a.Txns i = tx b.Txns k) → f2_L1 (q + 1) (i : Int) a b X Y m ((k + 1 : Nat) : Int) = some (.inl true) ∨ (f2_L1 (q + 1) (i : Int) a b X Y m ((k + 1 : Nat) : Int) = some (.inr ()) ∧ ∀ j,k ≤ j → j < b.Txns.length → key2 (tx a.Txns i) (tx b.Txns j) → tx a.Txns i = tx b.Txns j):=by
   intro hk0
   rcases ih' with h1 | ⟨h1,h2⟩
   ·exact .inl h1
   ·refine .inr ⟨h1,fun j j1 j2 j3 => ?_⟩
    rcases Nat.lt_or_ge k j with h5 | h5
    ·exact h2 j h5 j2 j3
    ·obtain rfl : j = k:=by omega
     exact hk0 j3
  rw [f2_L1,decide_eq_true (by omega)]
  simp only [cnd,bnd_of (idx_tx hi),bnd_of (idx_tx h),beq_dec,bnd_of (f17_eq q (by omega) (tx a.Txns i) (tx b.Txns k) (ha _ (tx_mem hi))),bnd_of (f5_val hn),wrap_succ (show k < 100000 by omega)]
  by_cases e1 : (tx a.Txns i).Office = (tx b.Txns k).Office
  ·rw [decide_eq_true e1]
   by_cases e2 : (tx a.Txns i).Seq = (tx b.Txns k).Seq
   ·rw [decide_eq_true e2]
    by_cases e3 : tx a.Txns i = tx b.Txns k
    ·rw [decide_eq_true e3]
     exact fin fun _ => e3
    ·rw [decide_eq_false e3]
     exact .inl rfl
   ·rw [decide_eq_false e2]
    exact fin fun hh => absurd hh.2 e2
  ·rw [decide_eq_false e1]
   exact fin fun hh => absurd hh.1 e1
theorem clash_L0 (n : Nat) (hn : 10000 ≤ n) (a b : GOffice) (X Y : GOffice × Int) (ha : Sm a.Txns) (hla : a.Txns.length ≤ 1000) (hlb : b.Txns.length ≤ 1000) : ∀ (d m i : Nat),i + d = a.Txns.length → d < m →
  f2_L0 n a b X Y m (i : Int) = some (.inl true) ∨ (f2_L0 n a b X Y m (i : Int) = some (.inr ()) ∧ ∀ p,i ≤ p → p < a.Txns.length → ∀ j,j < b.Txns.length → key2 (tx a.Txns p) (tx b.Txns j) → tx a.Txns p = tx b.Txns j):=by
 intro d
 induction d with
 | zero =>
  intro m i hi hm
  obtain ⟨m,rfl⟩ : ∃ z,m = z + 1:=⟨m - 1,by omega⟩
  rw [f2_L0,decide_eq_false (by omega)]
  exact .inr ⟨rfl,fun p h1 h2 => by omega⟩
 | succ d ih =>
  intro m i hi hm
  obtain ⟨m,rfl⟩ : ∃ z,m = z + 1:=⟨m - 1,by omega⟩
  have h : i < a.Txns.length:=by omega
  have h1:=clash_L1 n hn a b X Y ha hlb i h b.Txns.length n 0 (by omega) (by omega)
  rw [show ((0 : Nat) : Int) = 0 from rfl] at h1
  rw [f2_L0,decide_eq_true (by omega)]
  simp only [cnd,wrap_succ (show i < 100000 by omega)]
  rcases h1 with h1 | ⟨h1,h2⟩
  ·rw [h1]; exact .inl rfl
  ·rw [h1]
   simp only [bnd2]
   rcases ih m (i + 1) (by omega) (by omega) with h3 | ⟨h3,h4⟩
   ·exact .inl h3
   ·refine .inr ⟨h3,fun p p1 p2 j j2 j3 => ?_⟩
    rcases Nat.lt_or_ge i p with h5 | h5
    ·exact h4 p h5 p2 j j2 j3
    ·obtain rfl : p = i:=by omega
     exact h2 j (Nat.zero_le _) j2 j3
theorem meets_plain (a b : GOffice) : f2 20001 a b = some true:=by
 rw [f2]
 simp only [bnd_of (f5_val (show 10000 ≤ 20000 by omega))]
 by_cases ca : ((a.Txns.length : Nat) : Int) > 7
 ·rw [decide_eq_true ca]; rfl
 rw [decide_eq_false ca]
 by_cases cb : ((b.Txns.length : Nat) : Int) > 7
 ·rw [decide_eq_true cb]; rfl
 rw [decide_eq_false cb]
 obtain ⟨v,h1,h2⟩:=small_eq 19999 (by omega) a.Txns
 simp only [cnd,bnd_of h1]
 cases v with
 | false => rfl
 | true =>
 obtain ⟨v,k1,k2⟩:=small_eq 19999 (by omega) b.Txns
 simp only [bnd_of k1]
 cases v with
 | false => rfl
 | true =>
 have ha:=(h2 rfl).1
 have hb:=(k2 rfl).1
 obtain ⟨Ca,a1,a2⟩:=of_eq 19999 (by omega) a.Txns (by omega)
 obtain ⟨Cb,b1,b2⟩:=of_eq 19999 (by omega) b.Txns (by omega)
 have ma:=miss_len Ca b.Txns
 have mb:=miss_len Cb a.Txns
 have s1:=(send_eq 19999 (by omega) b Ca hb (by omega)).1
 have s2:=(send_eq 19999 (by omega) a Cb ha (by omega)).1
 obtain ⟨X,x1,_,x2,x3,x4⟩:=recv_eq 19999 (by omega) a (miss Ca b.Txns) ha (by omega) (miss_sm hb) (by omega)
 obtain ⟨Y,y1,_,y2,y3,y4⟩:=recv_eq 19999 (by omega) b (miss Cb a.Txns) hb (by omega) (miss_sm ha) (by omega)
 simp only [bnd_of a1,bnd_of b1,bnd_of s1,bnd_of s2,bnd_of x1,bnd_of y1]
 rcases x4 with ⟨xe,xo,_,xg⟩ | ⟨xe,xn⟩
 ·rcases y4 with ⟨ye,yo,_,yg⟩ | ⟨ye,yn⟩
  ·rw [xe,ye]
   simp only [bne_self_eq_false]
   have hc:=clash_L0 20000 (by omega) a b X Y ha (by omega) (by omega) a.Txns.length 20000 0 (by omega) (by omega)
   rw [show ((0 : Nat) : Int) = 0 from rfl] at hc
   rcases hc with hc | ⟨hc,hno⟩
   ·rw [hc]; rfl
   ·rw [hc]
    simp only [bnd2]
    have agree : ∀ s ∈ a.Txns,∀ t ∈ b.Txns,key2 s t → s = t:=by
     intro s hs t ht hk
     obtain ⟨p,hp,rfl⟩:=List.getElem_of_mem hs
     obtain ⟨j,hj,rfl⟩:=List.getElem_of_mem ht
     have:=hno p (Nat.zero_le _) hp j hj (by rw [tx_get hp,tx_get hj]; exact hk)
     rwa [tx_get hp,tx_get hj] at this
    have memL : ∀ (l : List GTxn) (t : GTxn),(∃ j,0 ≤ j ∧ j < l.length ∧ t = tx l j) ↔ t ∈ l:=by
     intro l t
     constructor
     ·rintro ⟨j,_,j2,rfl⟩; exact tx_mem j2
     ·intro ht
      obtain ⟨j,hj,rfl⟩:=List.getElem_of_mem ht
      exact ⟨j,Nat.zero_le _,hj,(tx_get hj).symm⟩
    have hX : ∀ t,t ∈ X.1.Txns ↔ t ∈ a.Txns ∨ t ∈ b.Txns:=by
     intro t
     rw [xg.mem,memL]
     constructor
     ·rintro (h | h)
      ·exact .inl h
      ·exact .inr (List.mem_filter.1 h).1
     ·rintro (h | h)
      ·exact .inl h
      ·cases hk : knw Ca t with
       | false => exact .inr (List.mem_filter.2 ⟨h,by simp [hk]⟩)
       | true =>
        obtain ⟨u,u1,u2⟩:=a2 t hk
        rw [← agree u u1 t h u2]
        exact .inl u1
    have hY : ∀ t,t ∈ Y.1.Txns ↔ t ∈ a.Txns ∨ t ∈ b.Txns:=by
     intro t
     rw [yg.mem,memL]
     constructor
     ·rintro (h | h)
      ·exact .inr h
      ·exact .inl (List.mem_filter.1 h).1
     ·rintro (h | h)
      ·cases hk : knw Cb t with
       | false => exact .inr (List.mem_filter.2 ⟨h,by simp [hk]⟩)
       | true =>
        obtain ⟨u,u1,u2⟩:=b2 t hk
        rw [agree t h u u1 ⟨u2.1.symm,u2.2.symm⟩]
        exact .inl u1
      ·exact .inl h
    have e : X.1.Txns = Y.1.Txns:=srt_ext _ _ xg.srt yg.srt fun t => by rw [hX,hY]
    have s3:=same15 19999 (by omega) Y.1.Txns y2 (by omega)
    rw [e]
    simp only [bnd_of s3]
  ·have hb : (Y.2 != 0) = true:=by simpa using ye
   rw [xe,hb,yn]
   simp only [bne_self_eq_false,List.length_nil]
   have : (IntKind.i64.wrap (((X.1.Txns.length : Nat) : Int) * ((0 : Nat) : Int)) == 0) = true:=by
    rw [show (((X.1.Txns.length : Nat) : Int) * ((0 : Nat) : Int)) = 0 by simp]
    rfl
   rw [this]
 ·have hb : (X.2 != 0) = true:=by simpa using xe
  rw [hb,xn]
  simp only [List.length_nil]
  have : (IntKind.i64.wrap (((0 : Nat) : Int) * ((Y.1.Txns.length : Nat) : Int)) == 0) = true:=by
   rw [show (((0 : Nat) : Int) * ((Y.1.Txns.length : Nat) : Int)) = 0 by simp]
   rfl
  rw [this]
end Go.Proofs.YtkdnaejhpcibnaaGreatDoor.Av
namespace Go.Proofs.YtkdnaejhpcibnaaGreatDoor.Av
open Go Go.Proofs
set_option maxRecDepth 100000
open Go.Proofs.YtkdnaejhpcibnaaGreatDoor in
theorem meets_lifted (os : Os) (started : os.Started) (H : Type) (enc : TypeId × Value → H) :
  ReturnsInHanded {} Tryz.checked os 5 .any (fun w args => (Rows.officeMeetsSpec.pre enc Tryz.prog Tryz.f5 [] false w args ∧ laidMetH Tryz.prog Rows.officeMeetsRow.laid w) ∧ sizedMet enc Tryz.prog Tryz.f5 (OpenSpec.ofChange Rows.officeMeetsSpec) false w args)
   (Rows.officeMeetsSpec.post enc Tryz.prog Tryz.f5 false true false false):=by
 refine handed_shaped (C:=Tryz.checked) (X:=fun w _ => laidMetH Tryz.prog Rows.officeMeetsRow.laid w) (fun _ _ _ hh h => h.of_heap hh) own started (by kernel_rfl) Tryz.func5
  (ChangeSpec.witness_shaped (enc:=enc) (C:=Tryz.checked) (os:=os) (X:=fun w _ => laidMetH Tryz.prog Rows.officeMeetsRow.laid w) false (World.laidAll Tryz.prog os Rows.officeMeetsRow.laid) #[.agg #[.int .i64 0,.slice none 0 0],.agg #[.int .i64 0,.slice none 0 0]] 8 (World.laidAll_os _ _ _)
   (World.shaped_of_ZipB (by kernel_rfl) (by kernel_rfl)) (by kernel_rfl) (by kernel_rfl) (by kernel_rfl)
   (by rw [MakeChecks.laidMetH_plain _ _ _ (by kernel_rfl)]; exact laidMet_laidAll _ (by kernel_rfl) (by kernel_rfl))) ?_
 intro W base args ds gs before hval hW hlaid hsh
 have hds : ∃ d0 d1,ds = [d0,d1] ∧ gs = []:=by
  obtain ⟨p,q,hA,hV,_⟩:=hW
  have hA' : DataW.TrodAll enc Tryz.prog W 0 (fun _ => true) true [24,24] args.toList ds p:=by
   have:=hA
   rw [Tryz.params5] at this
   exact this
  obtain ⟨v0,vs0,d0,ds0,p0,q0,_,rfl,rfl,h0,r0⟩:=ChangeShapes.trodAll_cons hA'
  obtain ⟨v1,vs1,d1,ds1,p1,q1,_,rfl,rfl,h1,r1⟩:=ChangeShapes.trodAll_cons r0
  obtain ⟨rfl,rfl,rfl⟩:=ChangeShapes.trodAll_nil r1
  obtain ⟨rfl,rfl⟩:=ChangeShapes.trodVars_none hV
  exact ⟨_,_,rfl,rfl⟩
 obtain ⟨d0,d1,rfl,rfl⟩:=hds
 refine law_contract (T:=T) (n:=10) (vi:=2) mixed checked prim_ok (by kernel_rfl) rfl (tb:=4) (by kernel_rfl) (by kernel_rfl) laid (by rw [Tryz.params5]; intro t ht; simp at ht; subst ht; exact ⟨by kernel_rfl,of_decide_eq_true (by kernel_rfl)⟩) (by kernel_rfl) ?_ (glob_top hlaid hsh) ⟨rfl,rfl,rfl⟩ hval hW
 intro xs hxs
 rw [Tryz.params5] at hxs
 obtain ⟨x0,x1,rfl,h0,h1⟩:=shapeAll2 hxs
 obtain ⟨a0,rfl⟩:=arg_office h0
 obtain ⟨a1,rfl⟩:=arg_office h1
 exact ⟨20001,evF_of_pv (f2_ok 20001 a0 a1 true (meets_plain a0 a1))⟩
open Go.Proofs.YtkdnaejhpcibnaaGreatDoor in
theorem meets_said : Rows.OfficeMeetsSaid :=
 OpenClaim.holds_of_wide 5 Tryz.f5 rfl rfl rfl rfl rfl rfl rfl ⟨rfl,rfl,rfl,rfl,rfl⟩ rfl rfl rfl rfl rfl (by kernel_rfl) Tryz.func5 closed_me
  (of_decide_eq_true (by kernel_rfl)) (by unfold Func.isWrapper; first | (rw [if_pos (by decide +kernel)]; kernel_rfl) | (rw [if_neg (by decide +kernel)]; exact ⟨rfl,rfl⟩))
  (fun os started H enc _ => meets_lifted os started H enc)
open Go.Proofs.YtkdnaejhpcibnaaGreatDoor in
theorem meets_card : Rows.OfficeMeetsCardSaid :=
 Claim7.holds_tied_plain_at .later [] [.data] true (true, "13ef1da9d887c7b8949677d6daa88fa6b1e024909eb534004b64fd53ef0d4880") false
  meets_said (fun _ h => by cases h) kw_me (fun _ h => by cases h) officeMeets_row_tie rfl ⟨rfl,rfl⟩ km_me rfl
  (fun f fn hf hfn => by
   obtain rfl : f = 5:=Option.some.inj (kf_me.symm.trans hf) |>.symm
   obtain rfl : fn = Tryz.f5:=(Option.some.inj (Tryz.func5.symm.trans hfn)).symm
   exact ⟨kl_me,fun j t ht => by
    rw [Tryz.params5] at ht
    exact match j,ht with
    | 0,ht => (by have e : 24 = t:=(by simpa using ht); subst e; exact ks24_me)
    | 1,ht => (by have e : 24 = t:=(by simpa using ht); subst e; exact ks24_me)
    | n + 2,ht => (by simp at ht)⟩)
  kg_me
end Go.Proofs.YtkdnaejhpcibnaaGreatDoor.Av
