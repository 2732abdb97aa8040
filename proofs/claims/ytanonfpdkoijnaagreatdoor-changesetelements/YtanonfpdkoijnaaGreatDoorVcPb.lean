/- A part of the proof of ChangesetElementsCardSaid: an evaluator of the program, proved sound, and what it says. -/
import Derived.Test.YtanonfpdkoijnaaGreatDoorVcTl1
set_option linter.all false
namespace Go.Proofs.YtanonfpdkoijnaaGreatDoor.Av
open Go Go.Proofs Go.RowKit Go.Shelf Go.Sort
set_option maxHeartbeats 0
set_option linter.unusedVariables false
set_option linter.unusedSimpArgs false
theorem cnd_beq {α : Type} {a b : Int} {x y r : α} (h1 : a = b → x = r) (h2 : ¬ a = b → y = r) : cnd (a == b) x y = r := by
 rw [cnd_ite]; by_cases h : a = b
 ·rw [if_pos (beq_iff_eq.2 h)]; exact h1 h
 ·rw [if_neg (fun e => h (beq_iff_eq.1 e))]; exact h2 h
theorem cnd_dec {α : Type} {p : Prop} [Decidable p] {x y r : α} (h1 : p → x = r) (h2 : ¬ p → y = r) : cnd (decide p) x y = r := by
 rw [cnd_ite]; by_cases h : p
 ·rw [if_pos (decide_eq_true h)]; exact h1 h
 ·rw [if_neg (by simpa using h)]; exact h2 h
theorem wrap_le {i : Int} (h : -1000000000000 ≤ i) (h2 : i ≤ 1000000000000) : IntKind.i64.wrap i = i := by rw [IntKind.wrap_i64]; omega
theorem wrap1 {i : Nat} (h : i ≤ 1000000) : IntKind.i64.wrap ((i : Int) + 1) = ((i + 1 : Nat) : Int) := by rw [IntKind.wrap_i64]; omega
theorem prd_s (n : Nat) : prd (n + 1) = some n := rfl
def elk (k : Int) : Int := if k = 1 ∨ k = 2 ∨ k = 3 then 1 else if k = 4 ∨ k = 5 ∨ k = 6 then 2 else if k = 7 ∨ k = 8 ∨ k = 9 ∨ k = 10 ∨ k = 11 then 3 else 0
def eof (x : GEdit) : Option GConflict := if elk x.Kind = 0 then none else some ⟨elk x.Kind, x.ID⟩
def els (l : List GEdit) : List GConflict := l.filterMap eof
def ltC (a b : GConflict) : Prop := a.Kind < b.Kind ∨ (a.Kind = b.Kind ∧ a.ID < b.ID)
theorem ltC_irr (a : GConflict) : ¬ ltC a a := by unfold ltC; omega
theorem ltC_trans {a b c : GConflict} (h : ltC a b) (k : ltC b c) : ltC a c := by unfold ltC at *; omega
theorem ltC_tot {a b : GConflict} (h : ¬ ltC a b) (k : ¬ ltC b a) : a = b := by
 unfold ltC at *
 cases a; cases b
 simp only at h k
 congr 1 <;> omega
theorem ltC_asym {a b : GConflict} (h : ltC a b) : ¬ ltC b a := by unfold ltC at *; omega
abbrev Asc (l : List GConflict) : Prop := l.Pairwise ltC
theorem asc_eq : ∀ {l m : List GConflict}, Asc l → Asc m → (∀ c, c ∈ l ↔ c ∈ m) → l = m
 | [], [], _, _, _ => rfl
 | [], y :: m, _, _, h => absurd ((h y).2 (by simp)) (by simp)
 | x :: l, [], _, _, h => absurd ((h x).1 (by simp)) (by simp)
 | x :: l, y :: m, hl, hm, h => by
  have hx := List.pairwise_cons.1 hl
  have hy := List.pairwise_cons.1 hm
  have e : x = y := by
   have h1 := (h x).1 (by simp)
   have h2 := (h y).2 (by simp)
   rcases List.mem_cons.1 h1 with h1 | h1
   ·exact h1
   rcases List.mem_cons.1 h2 with h2 | h2
   ·exact h2.symm
   exact absurd (hy.1 x h1) (ltC_asym (hx.1 y h2))
  subst e
  congr 1
  refine asc_eq hx.2 hy.2 fun c => ?_
  constructor
  ·intro hc
   rcases List.mem_cons.1 ((h c).1 (by simp [hc])) with rfl | h1
   ·exact absurd (hx.1 c hc) (ltC_irr c)
   ·exact h1
  ·intro hc
   rcases List.mem_cons.1 ((h c).2 (by simp [hc])) with rfl | h1
   ·exact absurd (hy.1 c hc) (ltC_irr c)
   ·exact h1
theorem sortP_perm (l : List (Int × Int)) : (sortP l).Perm l := by
 have h := (pdq_sorts (ltOf cmpP) cmpP_swo l.toArray 0 l.length (Lib.bitLen l.length) true true (Nat.zero_le _) (by simp) (Or.inl rfl)).1
 have h3 := h.2.2
 have e1 : (l.toArray.extract 0 l.length).toList = l := by simp
 have e2 : ((pdq (ltOf cmpP) l.toArray 0 l.length (Lib.bitLen l.length) true true).extract 0 l.length).toList = sortP l := by
  have hs := h.1
  simp only [List.size_toArray] at hs
  unfold sortP
  generalize pdq (ltOf cmpP) l.toArray 0 l.length (Lib.bitLen l.length) true true = d at hs
  rw [← hs]
  simp
 rw [e1, e2] at h3
 exact h3
theorem sortP_sorted (l : List (Int × Int)) : (sortP l).Pairwise fun x y => ltOf cmpP y x = false := by
 have h := (pdq_sorts (ltOf cmpP) cmpP_swo l.toArray 0 l.length (Lib.bitLen l.length) true true (Nat.zero_le _) (by simp) (Or.inl rfl)).2
 rw [List.pairwise_iff_getElem]
 intro i j hi hj hij
 have hlen := sortP_len l
 have := h i j (Nat.zero_le _) hij (by omega)
 unfold sortP at hi hj ⊢
 simp only [Array.length_toList] at hi hj
 simpa [hi, hj, getElem!_pos] using this
theorem sortC_mem (l : List GConflict) (c : GConflict) : c ∈ sortC l ↔ c ∈ l := by
 unfold sortC
 rw [List.mem_map]
 constructor
 ·rintro ⟨p, hp, rfl⟩
  have := (sortP_perm _).mem_iff.1 hp
  obtain ⟨x, hx, rfl⟩ := List.mem_map.1 this
  exact hx
 ·intro h
  exact ⟨(c.Kind, c.ID), (sortP_perm _).mem_iff.2 (List.mem_map.2 ⟨c, h, rfl⟩), rfl⟩
theorem sortC_asc {l : List GConflict} (h : l.Nodup) : Asc (sortC l) := by
 have hn : (sortP (l.map fun x => (x.Kind, x.ID))).Nodup := by
  refine (sortP_perm _).nodup_iff.2 ?_
  refine List.pairwise_map.2 (h.imp ?_)
  intro a b hne e
  apply hne
  cases a; cases b
  simp only [Prod.mk.injEq] at e
  simp [e]
 have hs := sortP_sorted (l.map fun x => (x.Kind, x.ID))
 unfold sortC Asc
 rw [List.pairwise_map]
 refine (hs.and hn).imp ?_
 intro a b ⟨h1, h2⟩
 rw [cmpP_nlt] at h1
 unfold ltC
 have : ¬ (a.1 = b.1 ∧ a.2 = b.2) := fun e => h2 (Prod.ext e.1 e.2)
 show a.1 < b.1 ∨ (a.1 = b.1 ∧ a.2 < b.2)
 omega
def okF (out : List GConflict) (fnd : List (GConflict × Bool)) : Prop := ∀ c, (mget fnd c).getD false = decide (c ∈ out)
theorem okF_nil : okF [] [] := fun c => by simp [mget]
theorem okF_put {out : List GConflict} {fnd : List (GConflict × Bool)} (h : okF out fnd) (c : GConflict) : okF (out ++ [c]) (mput fnd c true) := by
 intro d
 rw [mget_put]
 by_cases hd : c = d
 ·subst hd; simp
 ·rw [if_neg hd, h d]
  have : ¬ d = c := fun e => hd e.symm
  simp [this]
def stepF (rec : List GConflict → List (GConflict × Bool) → Option (List GConflict × List (GConflict × Bool))) (x : GEdit) (out : List GConflict) (fnd : List (GConflict × Bool)) : Option (List GConflict × List (GConflict × Bool)) :=
 match eof x with
 | none => rec out fnd
 | some c => cnd ((mget fnd c).getD false) (rec out fnd) (bnd (app out [c]) fun l => rec l (mput fnd c true))
theorem stepF_k {rec : List GConflict → List (GConflict × Bool) → Option (List GConflict × List (GConflict × Bool))} {x : GEdit} {out : List GConflict} {fnd : List (GConflict × Bool)} {k : Int} (h : elk x.Kind = k) (hk : k ≠ 0) :
  cnd ((mget fnd (GConflict.mk k x.ID)).getD false) (rec out fnd) (bnd (app out [GConflict.mk k x.ID]) fun l => rec l (mput fnd (GConflict.mk k x.ID) true)) = stepF rec x out fnd := by
 have : eof x = some ⟨k, x.ID⟩ := by unfold eof; rw [h, if_neg hk]
 unfold stepF
 rw [this]
theorem stepF_0 {rec : List GConflict → List (GConflict × Bool) → Option (List GConflict × List (GConflict × Bool))} {x : GEdit} {out : List GConflict} {fnd : List (GConflict × Bool)} (h : elk x.Kind = 0) : rec out fnd = stepF rec x out fnd := by
 have : eof x = none := by unfold eof; rw [if_pos h]
 unfold stepF
 rw [this]
theorem f2_L0_step (n m : Nat) (l : List GEdit) (out : List GConflict) (fnd : List (GConflict × Bool)) (i : Nat) (hi : i ≤ 1000000) :
  f2_L0 n l (m + 1) out fnd (i : Int) = match l[i]? with | some x => stepF (fun a b => f2_L0 n l m a b ((i + 1 : Nat) : Int)) x out fnd | none => some (out, fnd) := by
 rw [f2_L0]
 refine cnd_dec (fun h => ?_) (fun h => ?_)
 ·have hlt : i < l.length := by omega
  rw [idx_nat, List.getElem?_eq_getElem hlt, wrap1 hi]
  simp only [bnd]
  generalize l[i] = x
  refine cnd_beq (fun h => ?_) (fun h1 => ?_)
  ·exact stepF_k (rec := fun a b => f2_L0 n l m a b ((i + 1 : Nat) : Int)) (x := x) (k := 1) (by simp [elk, h]) (by decide)
  refine cnd_beq (fun h => ?_) (fun h2 => ?_)
  ·exact stepF_k (rec := fun a b => f2_L0 n l m a b ((i + 1 : Nat) : Int)) (x := x) (k := 1) (by simp [elk, h]) (by decide)
  refine cnd_beq (fun h => ?_) (fun h3 => ?_)
  ·exact stepF_k (rec := fun a b => f2_L0 n l m a b ((i + 1 : Nat) : Int)) (x := x) (k := 1) (by simp [elk, h]) (by decide)
  refine cnd_beq (fun h => ?_) (fun h4 => ?_)
  ·exact stepF_k (rec := fun a b => f2_L0 n l m a b ((i + 1 : Nat) : Int)) (x := x) (k := 2) (by simp [elk, h]) (by decide)
  refine cnd_beq (fun h => ?_) (fun h5 => ?_)
  ·exact stepF_k (rec := fun a b => f2_L0 n l m a b ((i + 1 : Nat) : Int)) (x := x) (k := 2) (by simp [elk, h]) (by decide)
  refine cnd_beq (fun h => ?_) (fun h6 => ?_)
  ·exact stepF_k (rec := fun a b => f2_L0 n l m a b ((i + 1 : Nat) : Int)) (x := x) (k := 2) (by simp [elk, h]) (by decide)
  refine cnd_beq (fun h => ?_) (fun h7 => ?_)
  ·exact stepF_k (rec := fun a b => f2_L0 n l m a b ((i + 1 : Nat) : Int)) (x := x) (k := 3) (by simp [elk, h]) (by decide)
  refine cnd_beq (fun h => ?_) (fun h8 => ?_)
  ·exact stepF_k (rec := fun a b => f2_L0 n l m a b ((i + 1 : Nat) : Int)) (x := x) (k := 3) (by simp [elk, h]) (by decide)
  refine cnd_beq (fun h => ?_) (fun h9 => ?_)
  ·exact stepF_k (rec := fun a b => f2_L0 n l m a b ((i + 1 : Nat) : Int)) (x := x) (k := 3) (by simp [elk, h]) (by decide)
  refine cnd_beq (fun h => ?_) (fun h10 => ?_)
  ·exact stepF_k (rec := fun a b => f2_L0 n l m a b ((i + 1 : Nat) : Int)) (x := x) (k := 3) (by simp [elk, h]) (by decide)
  refine cnd_beq (fun h => ?_) (fun h11 => ?_)
  ·exact stepF_k (rec := fun a b => f2_L0 n l m a b ((i + 1 : Nat) : Int)) (x := x) (k := 3) (by simp [elk, h]) (by decide)
  exact stepF_0 (rec := fun a b => f2_L0 n l m a b ((i + 1 : Nat) : Int)) (x := x) (by simp [elk, h1, h2, h3, h4, h5, h6, h7, h8, h9, h10, h11])
 ·rw [List.getElem?_eq_none (by omega)]
theorem f2_L0_eq (n : Nat) (l : List GEdit) (hl : l.length ≤ 1000) : ∀ (m i : Nat) (out : List GConflict) (fnd : List (GConflict × Bool)), i ≤ l.length → l.length - i < m → okF out fnd → out.Nodup → out.length ≤ i →
  ∃ r, f2_L0 n l m out fnd (i : Int) = some r ∧ r.1.Nodup ∧ (∀ c, c ∈ r.1 ↔ c ∈ out ∨ c ∈ els (l.drop i)) ∧ r.1.length ≤ l.length
 | 0, i, out, fnd, _, h, _, _, _ => by omega
 | m + 1, i, out, fnd, hi, hm, hf, hn, ho => by
  rw [f2_L0_step n m l out fnd i (by omega)]
  rcases Nat.lt_or_ge i l.length with hlt | hge
  ·rw [List.getElem?_eq_getElem hlt]
   have hd : l.drop i = l[i] :: l.drop (i + 1) := List.drop_eq_getElem_cons hlt
   generalize l[i] = x at hd
   simp only
   unfold stepF
   cases he : eof x with
   | none =>
    obtain ⟨r, h1, h2, h3, h4⟩ := f2_L0_eq n l hl m (i + 1) out fnd (by omega) (by omega) hf hn (by omega)
    refine ⟨r, h1, h2, fun c => ?_, h4⟩
    rw [h3, hd]
    simp [els, he]
   | some c =>
    simp only [hf c]
    by_cases hc : c ∈ out
    ·rw [decide_eq_true hc]
     obtain ⟨r, h1, h2, h3, h4⟩ := f2_L0_eq n l hl m (i + 1) out fnd (by omega) (by omega) hf hn (by omega)
     refine ⟨r, h1, h2, fun d => ?_, h4⟩
     rw [h3, hd]
     simp only [els, List.filterMap_cons, he, List.mem_cons]
     constructor
     ·rintro (h | h)
      ·exact .inl h
      ·exact .inr (.inr h)
     ·rintro (h | rfl | h)
      ·exact .inl h
      ·exact .inl hc
      ·exact .inr h
    ·rw [decide_eq_false hc]
     rw [app_of (by simp; omega)]
     simp only [cnd, bnd]
     obtain ⟨r, h1, h2, h3, h4⟩ := f2_L0_eq n l hl m (i + 1) (out ++ [c]) (mput fnd c true) (by omega) (by omega) (okF_put hf c) (by
      rw [List.nodup_append]
      refine ⟨hn, by simp, fun a ha b hb => ?_⟩
      have : b = c := by simpa using hb
      subst this
      exact fun e => hc (e ▸ ha)) (by simp; omega)
     refine ⟨r, h1, h2, fun d => ?_, h4⟩
     rw [h3, hd]
     simp only [els, List.filterMap_cons, he, List.mem_cons, List.mem_append, List.not_mem_nil, or_false, or_assoc]
  ·rw [List.getElem?_eq_none hge]
   have hd : l.drop i = [] := List.drop_eq_nil_of_le hge
   exact ⟨(out, fnd), rfl, hn, fun c => by rw [hd]; simp [els], by simp only; omega⟩
theorem f2_eq (n : Nat) (hn : 2000 ≤ n) (l : List GEdit) (hl : l.length ≤ 1000) : ∃ s, f2 n l = some s ∧ Asc s ∧ (∀ c, c ∈ s ↔ c ∈ els l) ∧ s.length ≤ 1000 := by
 obtain ⟨k, rfl⟩ : ∃ k, n = k + 2 := ⟨n - 2, by omega⟩
 obtain ⟨r, h1, h2, h3, h4⟩ := f2_L0_eq (k + 1) l hl (k + 1) 0 [] [] (Nat.zero_le _) (by omega) okF_nil (by simp) (by simp)
 refine ⟨sortC r.1, ?_, sortC_asc h2, fun c => ?_, ?_⟩
 ·rw [f2]
  have h1' : f2_L0 (k + 1) l (k + 1) [] [] 0 = some r := h1
  rw [h1']
  simp only [bnd, prd_s]
  have : decide (r.1.length ≤ 1000000) = true := decide_eq_true (by omega)
  rw [this]
  rfl
 ·rw [sortC_mem, h3]
  simp
 ·simp [sortC, sortP_len]; omega
theorem f13_eq (n : Nat) (x : GEdit) : f13 (n + 1) x = some (elk x.Kind) := by
 rw [f13]
 repeat' (first | refine cnd_beq (fun _ => ?_) (fun _ => ?_))
 all_goals (simp_all [elk])
theorem f14_eq (n : Nat) (a b : GConflict) : f14 (n + 1) a b = some (decide (a.Kind < b.Kind ∨ (a.Kind = b.Kind ∧ a.ID < b.ID))) := by
 rw [f14]
 refine cnd_dec (fun h => ?_) (fun h => ?_)
 ·rw [decide_eq_true (.inl h)]
 refine cnd_beq (fun h1 => ?_) (fun h1 => ?_)
 ·refine cnd_dec (fun h2 => ?_) (fun h2 => ?_)
  ·rw [decide_eq_true (.inr ⟨h1, h2⟩)]
  ·rw [decide_eq_false (by omega)]
 ·rw [decide_eq_false (by omega)]
def cnt (c : GConflict) : List GConflict → Nat
 | [] => 0
 | x :: r => if x.Kind < c.Kind ∨ (x.Kind = c.Kind ∧ x.ID < c.ID) then cnt c r + 1 else 0
theorem cnt_le (c : GConflict) : ∀ l, cnt c l ≤ l.length
 | [] => Nat.le_refl _
 | x :: r => by
  unfold cnt
  have := cnt_le c r
  split <;> simp <;> omega
theorem f3_L1_eq (n : Nat) (a : List GEdit) (l : List GConflict) (hl : l.length ≤ 1000) (i0 v : Int) (x : GEdit) : ∀ (m k : Nat), k ≤ l.length → l.length - k < m →
  f3_L1 (n + 1) a l i0 v x m (k : Int) = some (((k + cnt ⟨v, x.ID⟩ (l.drop k) : Nat)) : Int)
 | 0, k, _, h => by omega
 | m + 1, k, hk, hm => by
  rw [f3_L1]
  refine cnd_dec (fun h => ?_) (fun h => ?_)
  ·have hlt : k < l.length := by omega
   rw [idx_nat, List.getElem?_eq_getElem hlt, wrap1 (by omega)]
   have hd : l.drop k = l[k] :: l.drop (k + 1) := List.drop_eq_getElem_cons hlt
   rw [hd]
   generalize l[k] = y
   simp only [bnd, f14_eq]
   refine cnd_dec (fun h1 => ?_) (fun h1 => ?_)
   ·rw [f3_L1_eq n a l hl i0 v x m (k + 1) (by omega) (by omega)]
    simp only [cnt]
    rw [if_pos h1]
    congr 2
    omega
   ·simp only [cnt]
    rw [if_neg h1]
    rfl
  ·rw [List.drop_eq_nil_of_le (by omega)]
   rfl
instance (a b : GConflict) : Decidable (ltC a b) := by unfold ltC; infer_instance
def insR (c : GConflict) : List GConflict → List GConflict
 | [] => [c]
 | x :: r => if ltC x c then x :: insR c r else if x = c then c :: r else c :: x :: r
def cutE (c : GConflict) (l : List GConflict) (k : Nat) : List GConflict := l.take k ++ c :: (if l[k]? = some c then l.drop (k + 1) else l.drop k)
theorem insR_cut (c : GConflict) : ∀ l, insR c l = cutE c l (cnt c l)
 | [] => by simp [insR, cnt, cutE]
 | x :: r => by
  simp only [insR]
  by_cases h : ltC x c
  ·have h' : x.Kind < c.Kind ∨ (x.Kind = c.Kind ∧ x.ID < c.ID) := h
   have e : cnt c (x :: r) = cnt c r + 1 := by rw [cnt, if_pos h']
   rw [if_pos h, e, insR_cut c r]
   simp [cutE]
  ·have h' : ¬ (x.Kind < c.Kind ∨ (x.Kind = c.Kind ∧ x.ID < c.ID)) := h
   have e : cnt c (x :: r) = 0 := by rw [cnt, if_neg h']
   rw [if_neg h, e]
   by_cases e : x = c
   ·subst e; simp [cutE]
   ·simp [cutE, e]
theorem insR_mem (c : GConflict) : ∀ l d, d ∈ insR c l ↔ d = c ∨ d ∈ l
 | [], d => by simp [insR]
 | x :: r, d => by
  simp only [insR]
  split
  ·simp only [List.mem_cons, insR_mem c r d]
   constructor
   ·rintro (h | h | h)
    ·exact .inr (.inl h)
    ·exact .inl h
    ·exact .inr (.inr h)
   ·rintro (h | h | h)
    ·exact .inr (.inl h)
    ·exact .inl h
    ·exact .inr (.inr h)
  ·split
   ·rename_i e; subst e; simp
   ·simp
theorem insR_len (c : GConflict) : ∀ l, (insR c l).length ≤ l.length + 1
 | [] => by simp [insR]
 | x :: r => by
  simp only [insR]
  have := insR_len c r
  split
  ·simp; omega
  ·split <;> simp
theorem insR_asc (c : GConflict) : ∀ l, Asc l → Asc (insR c l)
 | [], _ => by simp [insR]
 | x :: r, h => by
  have hx := List.pairwise_cons.1 h
  simp only [insR]
  by_cases h1 : ltC x c
  ·rw [if_pos h1]
   refine List.pairwise_cons.2 ⟨fun d hd => ?_, insR_asc c r hx.2⟩
   rcases (insR_mem c r d).1 hd with rfl | hd
   ·exact h1
   ·exact hx.1 d hd
  ·rw [if_neg h1]
   by_cases e : x = c
   ·subst e; rw [if_pos rfl]; exact h
   ·rw [if_neg e]
    have hc : ltC c x := Decidable.byContradiction fun h2 => e (ltC_tot h1 h2)
    refine List.pairwise_cons.2 ⟨fun d hd => ?_, h⟩
    rcases List.mem_cons.1 hd with rfl | hd
    ·exact hc
    ·exact ltC_trans hc (hx.1 d hd)
def insAll (o : List GConflict) (l : List GConflict) : List GConflict := l.foldl (fun o c => insR c o) o
theorem f3_L0_eq (n : Nat) (hn : 2000 ≤ n) (a : List GEdit) (ha : a.length ≤ 1000) : ∀ (m i : Nat) (o : List GConflict), i ≤ a.length → a.length - i < m → o.length ≤ i →
  f3_L0 n a m o (i : Int) = some (insAll o (els (a.drop i)))
 | 0, i, o, _, h, _ => by omega
 | m + 1, i, o, hi, hm, ho => by
  obtain ⟨k, rfl⟩ : ∃ k, n = k + 1 := ⟨n - 1, by omega⟩
  rw [f3_L0]
  refine cnd_dec (fun h => ?_) (fun h => ?_)
  ·have hlt : i < a.length := by omega
   rw [idx_nat, List.getElem?_eq_getElem hlt, wrap1 (by omega)]
   have hd : a.drop i = a[i] :: a.drop (i + 1) := List.drop_eq_getElem_cons hlt
   rw [hd]
   generalize a[i] = x
   simp only [bnd, f13_eq]
   refine cnd_beq (fun h1 => ?_) (fun h1 => ?_)
   ·rw [f3_L0_eq (k + 1) hn a ha m (i + 1) o (by omega) (by omega) (by omega)]
    have : eof x = none := by unfold eof; rw [if_pos h1]
    simp only [els, List.filterMap_cons, this]
   ·have he : eof x = some ⟨elk x.Kind, x.ID⟩ := by unfold eof; rw [if_neg h1]
    have h2 := f3_L1_eq k a o (by omega) (i : Int) (elk x.Kind) x (k + 1) 0 (Nat.zero_le _) (by omega)
    simp only [List.drop_zero, Nat.zero_add] at h2
    have h2' : f3_L1 (k + 1) a o (i : Int) (elk x.Kind) x (k + 1) 0 = some ((cnt ⟨elk x.Kind, x.ID⟩ o : Nat) : Int) := h2
    rw [h2']
    generalize hc : GConflict.mk (elk x.Kind) x.ID = c at *
    have hle := cnt_le c o
    have key : ∀ r, r = insR c o → f3_L0 (k + 1) a m r ((i + 1 : Nat) : Int) = some (insAll o (els (x :: a.drop (i + 1)))) := by
     rintro r rfl
     have := insR_len c o
     rw [f3_L0_eq (k + 1) hn a ha m (i + 1) _ (by omega) (by omega) (by omega)]
     simp only [els, List.filterMap_cons, he, insAll, List.foldl_cons]
    have hcut0 : cut o 0 ((cnt c o : Nat) : Int) = some (o.take (cnt c o)) := by
     unfold cut
     rw [if_pos (by omega)]
     simp
    have hcut1 : ∀ j : Nat, j ≤ o.length → cut o (j : Int) ((o.length : Nat) : Int) = some (o.drop j) := by
     intro j hj
     unfold cut
     rw [if_pos (by omega)]
     simp
    simp only [hcut0]
    rw [app_of (by simp; omega)]
    simp only [List.nil_append]
    rw [app_of (by simp; omega)]
    simp only
    refine cnd_dec (fun h3 => ?_) (fun h3 => ?_)
    ·have hlt2 : cnt c o < o.length := by omega
     rw [idx_nat, List.getElem?_eq_getElem hlt2]
     simp only
     refine cnd_dec (fun h4 => ?_) (fun h4 => ?_)
     ·rw [wrap1 (by omega), hcut1 _ (by omega)]
      simp only
      rw [app_of (by simp; omega)]
      simp only
      refine key _ ?_
      rw [insR_cut, cutE, List.getElem?_eq_getElem hlt2, h4, if_pos rfl]
      simp
     ·rw [hcut1 _ (by omega)]
      simp only
      rw [app_of (by simp; omega)]
      simp only
      refine key _ ?_
      rw [insR_cut, cutE, List.getElem?_eq_getElem hlt2, if_neg (fun e => h4 (Option.some.inj e))]
      simp
    ·rw [hcut1 _ (by omega)]
     simp only
     rw [app_of (by simp; omega)]
     simp only
     refine key _ ?_
     rw [insR_cut, cutE, List.getElem?_eq_none (by omega), if_neg (by simp)]
     simp
  ·rw [List.drop_eq_nil_of_le (by omega)]
   rfl
theorem insAll_asc : ∀ (l o : List GConflict), Asc o → Asc (insAll o l)
 | [], o, h => h
 | c :: r, o, h => insAll_asc r (insR c o) (insR_asc c o h)
theorem insAll_mem : ∀ (l o : List GConflict) (d : GConflict), d ∈ insAll o l ↔ d ∈ o ∨ d ∈ l
 | [], o, d => by simp [insAll]
 | c :: r, o, d => by
  have h := insAll_mem r (insR c o) d
  have e : insAll o (c :: r) = insAll (insR c o) r := rfl
  rw [e, h, insR_mem]
  simp only [List.mem_cons]
  constructor
  ·rintro ((h | h) | h)
   ·exact .inr (.inl h)
   ·exact .inl h
   ·exact .inr (.inr h)
  ·rintro (h | h | h)
   ·exact .inl (.inr h)
   ·exact .inl (.inl h)
   ·exact .inr h
theorem f3_eq (n : Nat) (hn : 3000 ≤ n) (l : List GEdit) (hl : l.length ≤ 1000) : ∃ s, f3 n l = some s ∧ Asc s ∧ (∀ c, c ∈ s ↔ c ∈ els l) := by
 obtain ⟨k, rfl⟩ : ∃ k, n = k + 1 := ⟨n - 1, by omega⟩
 refine ⟨insAll [] (els l), ?_, insAll_asc _ _ List.Pairwise.nil, fun c => by rw [insAll_mem]; simp⟩
 rw [f3]
 have h := f3_L0_eq k (by omega) l hl k 0 [] (Nat.zero_le _) (by omega) (Nat.le_refl _)
 have h' : f3_L0 k l k [] 0 = some (insAll [] (els l)) := h
 rw [h']
 rfl
theorem f23_eq (n : Nat) (hn : 3000 ≤ n) (l : List GEdit) (hl : l.length ≤ 1000) : ∃ s, f2 n l = some s ∧ f3 n l = some s ∧ (∀ c, c ∈ s ↔ c ∈ els l) ∧ s.length ≤ 1000 := by
 obtain ⟨s, h1, h2, h3, h4⟩ := f2_eq n (by omega) l hl
 obtain ⟨t, k1, k2, k3⟩ := f3_eq n hn l hl
 obtain rfl : s = t := asc_eq h2 k2 fun c => by rw [h3, k3]
 exact ⟨s, h1, k1, h3, h4⟩
end Go.Proofs.YtanonfpdkoijnaaGreatDoor.Av
namespace Go.Proofs.YtanonfpdkoijnaaGreatDoor.Av
open Go Go.Proofs Go.RowKit Go.Shelf Go.Sort
set_option maxHeartbeats 0
set_option linter.unusedVariables false
set_option linter.unusedSimpArgs false
theorem f4_L0_eq (n : Nat) (l : List GConflict) (hl : l.length ≤ 1000) : ∀ (m i : Nat), i ≤ l.length → l.length - i < m → f4_L0 n l l m (i : Int) = some (.inr ())
 | 0, i, _, h => by omega
 | m + 1, i, hi, hm => by
  rw [f4_L0]
  refine cnd_dec (fun h => ?_) (fun h => ?_)
  ·have hlt : i < l.length := by omega
   rw [idx_nat, List.getElem?_eq_getElem hlt, wrap1 (by omega)]
   simp only [bnd, decide_true, cnd]
   exact f4_L0_eq n l hl m (i + 1) (by omega) (by omega)
  ·rfl
theorem f4_eq (n : Nat) (hn : 2000 ≤ n) (l : List GConflict) (hl : l.length ≤ 1000) : f4 n l l = some true := by
 obtain ⟨k, rfl⟩ : ∃ k, n = k + 1 := ⟨n - 1, by omega⟩
 rw [f4]
 have h := f4_L0_eq k l hl k 0 (Nat.zero_le _) (by omega)
 have h' : f4_L0 k l l k 0 = some (.inr ()) := h
 rw [h', bne_self_eq_false]
 rfl
def dis (s t : List GConflict) : Bool := decide (∀ c ∈ t, c ∉ s)
theorem dis_comm (s t : List GConflict) : dis s t = dis t s := by
 unfold dis
 exact decide_eq_decide.2 ⟨fun h c hc hd => h c hd hc, fun h c hc hd => h c hd hc⟩
theorem f5_L0_eq (n : Nat) (a : List GEdit) (s : List GConflict) (hs : s.length ≤ 1000) : ∀ (m i : Nat) (o : List GConflict) (fnd : List (GConflict × Bool)), i ≤ s.length → s.length - i < m → okF o fnd →
  ∃ r, f5_L0 n a s m fnd (i : Int) = some r ∧ okF (o ++ s.drop i) r
 | 0, i, o, fnd, _, h, _ => by omega
 | m + 1, i, o, fnd, hi, hm, hf => by
  rw [f5_L0]
  rcases Nat.lt_or_ge i s.length with hlt | hge
  ·rw [cnd_ite, if_pos (decide_eq_true (by omega)), idx_nat, List.getElem?_eq_getElem hlt, wrap1 (by omega)]
   have hd : s.drop i = s[i] :: s.drop (i + 1) := List.drop_eq_getElem_cons hlt
   rw [hd]
   generalize s[i] = c
   simp only [bnd]
   obtain ⟨r, h1, h2⟩ := f5_L0_eq n a s hs m (i + 1) (o ++ [c]) (mput fnd c true) (by omega) (by omega) (okF_put hf c)
   exact ⟨r, h1, by simpa using h2⟩
  ·rw [cnd_ite, if_neg (by simp; omega), List.drop_eq_nil_of_le hge]
   exact ⟨fnd, rfl, by simpa using hf⟩
theorem f5_I_eq (n : Nat) (s t : List GConflict) (ht : t.length ≤ 1000) (fnd : List (GConflict × Bool)) (hf : okF s fnd) : ∀ (m i : Nat), i ≤ t.length → t.length - i < m →
  (dis s (t.drop i) = true ∧ f5_I32_L0 (n + 1) t fnd m (i : Int) = some (.inr ())) ∨ (dis s (t.drop i) = false ∧ ∃ j : Nat, f5_I32_L0 (n + 1) t fnd m (i : Int) = some (.inl (j : Int)))
 | 0, i, _, h => by omega
 | m + 1, i, hi, hm => by
  rw [f5_I32_L0]
  rcases Nat.lt_or_ge i t.length with hlt | hge
  ·rw [cnd_ite, if_pos (decide_eq_true (by omega)), idx_nat, List.getElem?_eq_getElem hlt, wrap1 (by omega)]
   have hd : t.drop i = t[i] :: t.drop (i + 1) := List.drop_eq_getElem_cons hlt
   rw [hd]
   generalize t[i] = c
   simp only [bnd, prd_s, hf c]
   by_cases hc : c ∈ s
   ·rw [decide_eq_true hc]
    exact .inr ⟨by simp [dis, hc], i, rfl⟩
   ·rw [decide_eq_false hc]
    have e : dis s (c :: t.drop (i + 1)) = dis s (t.drop (i + 1)) := by
     unfold dis
     exact decide_eq_decide.2 ⟨fun h d hd => h d (by simp [hd]), fun h d hd => by
      rcases List.mem_cons.1 hd with rfl | hd
      ·exact hc
      ·exact h d hd⟩
    rw [e]
    exact f5_I_eq n s t ht fnd hf m (i + 1) (by omega) (by omega)
  ·rw [cnd_ite, if_neg (by simp; omega), List.drop_eq_nil_of_le hge]
   exact .inl ⟨by simp [dis], rfl⟩
theorem f5_eq (n : Nat) (hn : 4000 ≤ n) (x y : List GEdit) (s t : List GConflict) (hs : f2 (n - 1) x = some s) (ht : f2 (n - 1) y = some t) (ls : s.length ≤ 1000) (lt : t.length ≤ 1000) : f5 n x y = some (dis s t) := by
 obtain ⟨k, rfl⟩ : ∃ k, n = k + 4 := ⟨n - 4, by omega⟩
 rw [f5]
 have e : k + 4 - 1 = k + 3 := by omega
 rw [e] at hs ht
 obtain ⟨r, h1, h2⟩ := f5_L0_eq (k + 3) y s ls (k + 3) 0 [] [] (Nat.zero_le _) (by omega) okF_nil
 have h1' : f5_L0 (k + 3) y s (k + 3) [] 0 = some r := h1
 simp only [List.nil_append, List.drop_zero] at h2
 have h3 := f5_I_eq k s t lt r h2 (k + 1) 0 (Nat.zero_le _) (by omega)
 simp only [List.drop_zero] at h3
 simp only [hs, bnd, h1', ht, prd_s]
 rcases h3 with ⟨h4, h5⟩ | ⟨h4, j, h5⟩
 ·have h5' : f5_I32_L0 (k + 1) t r (k + 1) 0 = some (.inr ()) := h5
  rw [h5', h4]
  rfl
 ·have h5' : f5_I32_L0 (k + 1) t r (k + 1) 0 = some (.inl (j : Int)) := h5
  rw [h5', h4]
  simp only [bnd2]
  rw [decide_eq_true (by omega)]
  rfl
theorem f6_L1_eq (n : Nat) (s t : List GConflict) (ht : t.length ≤ 1000) (i : Nat) (c : GConflict) (hc : s[i]? = some c) : ∀ (m k : Nat), k ≤ t.length → t.length - k < m →
  f6_L1 n s t (i : Int) m (k : Int) = some (if c ∈ t.drop k then .inl () else .inr ())
 | 0, k, _, h => by omega
 | m + 1, k, hk, hm => by
  rw [f6_L1]
  rcases Nat.lt_or_ge k t.length with hlt | hge
  ·rw [cnd_ite, if_pos (decide_eq_true (by omega)), idx_nat, idx_nat, hc, List.getElem?_eq_getElem hlt, wrap1 (by omega)]
   have hd : t.drop k = t[k] :: t.drop (k + 1) := List.drop_eq_getElem_cons hlt
   rw [hd]
   generalize t[k] = d
   simp only [bnd]
   refine cnd_dec (fun h => ?_) (fun h => ?_)
   ·rw [if_pos (by simp [h])]
   ·rw [f6_L1_eq n s t ht i c hc m (k + 1) (by omega) (by omega)]
    simp [h]
  ·rw [cnd_ite, if_neg (by simp; omega), List.drop_eq_nil_of_le hge, if_neg (by simp)]
theorem f6_L0_eq (n : Nat) (hn : 2000 ≤ n) (s t : List GConflict) (hs : s.length ≤ 1000) (ht : t.length ≤ 1000) : ∀ (m i : Nat), i ≤ s.length → s.length - i < m →
  f6_L0 n s t m (i : Int) = some (if dis t (s.drop i) = true then .inr () else .inl ())
 | 0, i, _, h => by omega
 | m + 1, i, hi, hm => by
  rw [f6_L0]
  rcases Nat.lt_or_ge i s.length with hlt | hge
  ·rw [cnd_ite, if_pos (decide_eq_true (by omega))]
   have hd : s.drop i = s[i] :: s.drop (i + 1) := List.drop_eq_getElem_cons hlt
   rw [hd]
   have hc : s[i]? = some s[i] := List.getElem?_eq_getElem hlt
   generalize s[i] = c at hc
   have h1 := f6_L1_eq n s t ht i c hc n 0 (Nat.zero_le _) (by omega)
   simp only [List.drop_zero] at h1
   have h1' : f6_L1 n s t (i : Int) n 0 = some (if c ∈ t then .inl () else .inr ()) := h1
   rw [h1', wrap1 (by omega)]
   by_cases h : c ∈ t
   ·rw [if_pos h]
    simp only [bnd2]
    rw [if_neg (by simp [dis, h])]
   ·rw [if_neg h]
    simp only [bnd2]
    rw [f6_L0_eq n hn s t hs ht m (i + 1) (by omega) (by omega)]
    simp [dis, h]
  ·rw [cnd_ite, if_neg (by simp; omega), List.drop_eq_nil_of_le hge, if_pos (by simp [dis])]
theorem f6_eq (n : Nat) (hn : 4000 ≤ n) (x y : List GEdit) (s t : List GConflict) (hs : f3 (n - 1) x = some s) (ht : f3 (n - 1) y = some t) (ls : s.length ≤ 1000) (lt : t.length ≤ 1000) : f6 n x y = some (dis s t) := by
 obtain ⟨k, rfl⟩ : ∃ k, n = k + 1 := ⟨n - 1, by omega⟩
 have e : k + 1 - 1 = k := by omega
 rw [e] at hs ht
 rw [f6]
 have h := f6_L0_eq k (by omega) s t ls lt k 0 (Nat.zero_le _) (by omega)
 have h' : f6_L0 k s t k 0 = some (if dis t s = true then .inr () else .inl ()) := h
 simp only [hs, ht, bnd, h', dis_comm s t]
 cases dis t s <;> rfl
theorem f1_eq (n : Nat) (hn : 10000 ≤ n) : f1 n = some true := by rw [f1, if_pos hn]
theorem law_plain (x y : List GEdit) : f0 20001 x y = some true := by
 rw [f0]
 rw [cnd_ite]
 split
 ·simp only [f1_eq 20000 (by omega), bnd, cnd]
 rename_i hx
 rw [cnd_ite]
 split
 ·simp only [f1_eq 20000 (by omega), bnd, cnd]
 rename_i hy
 have hx' : x.length ≤ 300 := by simp at hx; omega
 have hy' : y.length ≤ 300 := by simp at hy; omega
 obtain ⟨s, s1, s2, s3, s4⟩ := f23_eq 20000 (by omega) x (by omega)
 obtain ⟨t, t1, t2, t3, t4⟩ := f23_eq 20000 (by omega) y (by omega)
 obtain ⟨s', p1, p2, p3, _⟩ := f23_eq 19999 (by omega) x (by omega)
 obtain ⟨t', q1, q2, q3, _⟩ := f23_eq 19999 (by omega) y (by omega)
 obtain ⟨s0, a1, a2, _, a4⟩ := f23_eq 20000 (by omega) [] (by simp)
 obtain ⟨u, u1, u2, u3, u4⟩ := f23_eq 20000 (by omega) (x ++ y) (by simp; omega)
 have ls' : s'.length ≤ 1000 := by assumption
 have lt' : t'.length ≤ 1000 := by assumption
 have e5 := f5_eq 20000 (by omega) x y s' t' p1 q1 ls' lt'
 have e5' := f5_eq 20000 (by omega) y x t' s' q1 p1 lt' ls'
 have e6 := f6_eq 20000 (by omega) x y s' t' p2 q2 ls' lt'
 rw [dis_comm] at e5'
 have f4s := f4_eq 20000 (by omega) s s4
 have f40 := f4_eq 20000 (by omega) s0 a4
 have f4u := f4_eq 20000 (by omega) u u4
 have e1 := f1_eq 20000 (by omega)
 have apy : app ([] : List GEdit) y = some y := by rw [app_of (by simp; omega)]; rfl
 have apx : app ([] : List GEdit) x = some x := by rw [app_of (by simp; omega)]; rfl
 have apxy : app x y = some (x ++ y) := app_of (by omega)
 cases hxe : x.isEmpty with
 | true =>
  have hx0 : x = [] := List.isEmpty_iff.1 hxe
  cases hye : y.isEmpty with
  | true =>
   simp only [cnd, bnd, s1, s2, f4s, a1, a2, f40, e5, e5', e6, e1]
   cases dis s' t' <;> rfl
  | false =>
   have hxy : x ++ y = y := by rw [hx0]; rfl
   rw [hxy] at u1 u2
   simp only [cnd, bnd, apy, s1, s2, f4s, u1, u2, f4u, e5, e5', e6, e1]
   cases dis s' t' <;> rfl
 | false =>
  simp only [cnd, bnd, apx, apxy, s1, s2, f4s, u1, u2, f4u, e5, e5', e6, e1]
  cases dis s' t' <;> rfl
end Go.Proofs.YtanonfpdkoijnaaGreatDoor.Av
