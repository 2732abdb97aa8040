/- A part of the proof of EditChecksCardSaid. -/
import Derived.Test.YtmflphfmefakfaaGreatDoorVePd
set_option linter.all false
namespace Go.Proofs.YtmflphfmefakfaaGreatDoor.Av
open Go Go.IntWalk
set_option linter.unusedVariables false
set_option linter.unusedSimpArgs false
theorem dec_bnd (s : ByteArray) (k : Nat) : 1 ≤ (Utf8.decode s k).2 ∧ (Utf8.decode s k).2 ≤ 4 ∧ (Utf8.decode s k).1 < 2097152 := by
 have h0 := b_lt (s.get! (k + 0))
 have h1 := b_lt (s.get! (k + 1))
 have h2 := b_lt (s.get! (k + 2))
 have h3 := b_lt (s.get! (k + 3))
 unfold Utf8.decode
 simp only [Utf8.runeError]
 have hk : ∀ (p : Prop) [Decidable p] (a b : Nat × Nat), (p → (1 ≤ a.2 ∧ a.2 ≤ 4 ∧ a.1 < 2097152)) → (1 ≤ b.2 ∧ b.2 ≤ 4 ∧ b.1 < 2097152) → (1 ≤ (if p then a else b).2 ∧ (if p then a else b).2 ≤ 4 ∧ (if p then a else b).1 < 2097152) := by
  intro p _ a b h1 h2
  split
  ·exact h1 (by assumption)
  ·exact h2
 repeat' (first | (apply hk; intro _) | apply hk)
 all_goals (simp only []; omega)
def dl (s : ByteArray) : Nat → Nat → Option (List Int)
 | 0, _ => none
 | f + 1, k => if k < s.size then (if 0 ≤ scr ((Utf8.decode s k).1 : Int) then (match dl s f (k + (Utf8.decode s k).2) with | some r => some (((Utf8.decode s k).1 : Int) :: r) | none => none) else none) else some []
theorem f45_L0_eq (n : Nat) (hn : 15 ≤ n) (s : ByteArray) (hs : s.size ≤ 40) : ∀ (m : Nat) (l : List Int) (k : Nat), s.size - k < m → l.length + (s.size - k) ≤ 100 →
  ∃ z, f45_L0 n s m l k = some z ∧ (match dl s m k with | some r => ∃ q, z = .inr (l ++ r, q) | none => ∃ q, z = .inl q) := by
 intro m
 induction m with
 | zero => intro l k h; omega
 | succ m ih =>
  intro l k h hl
  obtain ⟨w1, w2, w3⟩ := dec_bnd s k
  simp only [f45_L0, dl]
  by_cases hk : k < s.size
  ·rw [decide_eq_true hk, if_pos hk]
   have hw : IntKind.i64.wrap (((Utf8.decode s k).1 : Nat) : Int) = ((Utf8.decode s k).1 : Int) := i64_in _ (by omega)
   have happ : app l [((Utf8.decode s k).1 : Int)] = some (l ++ [((Utf8.decode s k).1 : Int)]) := app_of (by simp; omega)
   simp only [cnd, hw, bnd_of (f47_eq n _ hn), bnd_of happ]
   by_cases hc : 0 ≤ scr ((Utf8.decode s k).1 : Int)
   ·rw [decide_eq_false (show ¬ scr ((Utf8.decode s k).1 : Int) < 0 by omega), if_pos hc]
    obtain ⟨z, z1, z2⟩ := ih (l ++ [((Utf8.decode s k).1 : Int)]) (k + (Utf8.decode s k).2) (by omega) (by simp; omega)
    refine ⟨z, z1, ?_⟩
    cases hd : dl s m (k + (Utf8.decode s k).2) with
    | none => rw [hd] at z2; exact z2
    | some r =>
     rw [hd] at z2
     obtain ⟨q, rfl⟩ := z2
     exact ⟨q, by simp⟩
   ·rw [decide_eq_true (show scr ((Utf8.decode s k).1 : Int) < 0 by omega), if_neg hc]
    exact ⟨_, rfl, _, rfl⟩
  ·rw [decide_eq_false hk, if_neg hk]
   exact ⟨_, rfl, _, by rw [List.append_nil]⟩
theorem f29_L0_eq (n : Nat) (hn : 10 ≤ n) (s : ByteArray) (hs : s.size ≤ 40) : ∀ (m : Nat) (l : List Int) (k : Nat), s.size - k < m → l.length + (s.size - k) ≤ 100 → k ≤ 100 →
  ∃ z, f29_L0 n s m l (k : Int) = some z ∧ (match dl s m k with | some r => z = .inr (l ++ r) | none => ∃ q, z = .inl q) := by
 intro m
 induction m with
 | zero => intro l k h; omega
 | succ m ih =>
  intro l k h hl hk0
  obtain ⟨w1, w2, w3⟩ := dec_bnd s k
  simp only [f29_L0, dl]
  by_cases hk : k < s.size
  ·rw [decide_eq_true (show (k : Int) < ((s.size : Nat) : Int) by omega), if_pos hk]
   simp only [cnd, bnd_of (inner n s k n l hk hs (by omega) (by omega) (by omega))]
   by_cases hc : 0 ≤ scr ((Utf8.decode s k).1 : Int)
   ·have hw : IntKind.i64.wrap ((k : Int) + ((Utf8.decode s k).2 : Int)) = ((k + (Utf8.decode s k).2 : Nat) : Int) := by rw [i64_in _ (by omega)]; push_cast; rfl
    have hne : (((Utf8.decode s k).2 : Int) == 0) = false := beq_eq_false_iff_ne.2 (by omega)
    rw [if_pos hc, if_pos hc]
    simp only [hw, hne]
    obtain ⟨z, z1, z2⟩ := ih (l ++ [((Utf8.decode s k).1 : Int)]) (k + (Utf8.decode s k).2) (by omega) (by simp; omega) (by omega)
    refine ⟨z, z1, ?_⟩
    cases hd : dl s m (k + (Utf8.decode s k).2) with
    | none => rw [hd] at z2; exact z2
    | some r =>
     rw [hd] at z2
     rw [z2]; simp
   ·rw [if_neg hc, if_neg hc]
    exact ⟨_, rfl, _, rfl⟩
  ·rw [decide_eq_false (show ¬ (k : Int) < ((s.size : Nat) : Int) by omega), if_neg hk]
   exact ⟨_, rfl, by simp⟩
theorem dl_fuel (s : ByteArray) : ∀ (m m' k : Nat), s.size - k < m → s.size - k < m' → dl s m k = dl s m' k := by
 intro m
 induction m with
 | zero => intro m' k h; omega
 | succ m ih =>
  intro m' k h h'
  obtain ⟨m', rfl⟩ : ∃ z, m' = z + 1 := ⟨m' - 1, by omega⟩
  obtain ⟨w1, _, _⟩ := dec_bnd s k
  simp only [dl]
  by_cases hk : k < s.size
  ·rw [if_pos hk, if_pos hk, ih m' (k + (Utf8.decode s k).2) (by omega) (by omega)]
  ·rw [if_neg hk, if_neg hk]
def dls (s : ByteArray) : Option (List Int) := dl s (s.size + 1) 0
theorem f45_eq (n : Nat) (hn : 50 ≤ n) (s : ByteArray) (hs : s.size ≤ 40) : f45 n s = some (match dls s with | some r => (r, 0) | none => ([], 4)) := by
 obtain ⟨n, rfl⟩ : ∃ z, n = z + 1 := ⟨n - 1, by omega⟩
 obtain ⟨z, h1, h2⟩ := f45_L0_eq n (by omega) s hs n [] 0 (by omega) (by simp; omega)
 rw [dl_fuel s n (s.size + 1) 0 (by omega) (by omega)] at h2
 simp only [f45, h1, dls]
 cases hd : dl s (s.size + 1) 0 with
 | none => rw [hd] at h2; obtain ⟨q, rfl⟩ := h2; rfl
 | some r => rw [hd] at h2; obtain ⟨q, rfl⟩ := h2; rfl
theorem f29_eq (n : Nat) (hn : 50 ≤ n) (s : ByteArray) (hs : s.size ≤ 40) : f29 n s = some (match dls s with | some r => (r, 0) | none => ([], 4)) := by
 obtain ⟨n, rfl⟩ : ∃ z, n = z + 1 := ⟨n - 1, by omega⟩
 obtain ⟨z, h1, h2⟩ := f29_L0_eq n (by omega) s hs n [] 0 (by omega) (by simp; omega) (by omega)
 rw [dl_fuel s n (s.size + 1) 0 (by omega) (by omega)] at h2
 have h1' : f29_L0 n s n [] 0 = some z := h1
 simp only [f29, h1', dls]
 cases hd : dl s (s.size + 1) 0 with
 | none => rw [hd] at h2; obtain ⟨q, rfl⟩ := h2; rfl
 | some r => rw [hd] at h2; subst h2; rfl
end Go.Proofs.YtmflphfmefakfaaGreatDoor.Av
namespace Go.Proofs.YtmflphfmefakfaaGreatDoor.Av
open Go Go.IntWalk
set_option linter.unusedVariables false
set_option linter.unusedSimpArgs false
def adj {α : Type} [DecidableEq α] (z : α) : List α → Bool
 | [] => false
 | a :: r => (decide (a = z) && decide (r.head? = some z)) || adj z r
theorem contains_adj (l : List UInt8) : Lib.contains l [32, 32] = adj 32 l := by
 induction l with
 | nil => rfl
 | cons b l ih =>
  unfold Lib.contains at ih ⊢
  unfold Lib.index
  have hp : ([32, 32] : List UInt8).isPrefixOf (b :: l) = (decide (b = 32) && decide (l.head? = some 32)) := by
   cases l with
   | nil => simp [List.isPrefixOf]
   | cons c r =>
    simp only [List.isPrefixOf, Bool.and_true, List.head?_cons, Option.some.injEq]
    congr 1
    ·rw [Bool.eq_iff_iff, beq_iff_eq, decide_eq_true_eq]; exact eq_comm
    ·rw [Bool.eq_iff_iff, beq_iff_eq, decide_eq_true_eq]; exact eq_comm
  rw [hp]
  simp only [adj]
  rw [← ih]
  have hge := Lib.index_ge l [32, 32]
  cases (decide (b = 32) && decide (l.head? = some 32)) with
  | true => simp
  | false =>
   simp only [Bool.false_eq_true, if_false, Bool.false_or]
   by_cases h : Lib.index l [32, 32] = -1
   ·simp [h]
   ·have : (Lib.index l [32, 32] == -1) = false := beq_eq_false_iff_ne.2 h
    rw [this]
    simp only [Bool.false_eq_true, if_false]
    rw [decide_eq_true (by omega), decide_eq_true (by omega)]
def UB (c : Int) : List UInt8 := unitL c.toNat
def good (c : Int) : Prop := 0 ≤ scr c
theorem good_bnd {c : Int} (h : good c) : 32 ≤ c ∧ c < 55296 := by
 refine ⟨?_, scr_ge h⟩
 apply Classical.byContradiction
 intro hc
 have : scr c = -1 := by
  simp only [scr, tab0, lookT]
  iterate 13 rw [if_neg (by omega)]
 unfold good at h
 omega
theorem UB_32 : UB 32 = [32] := rfl
theorem UB_ne {c : Int} (h : good c) : UB c ≠ [] := by
 unfold UB unitL
 split
 ·simp
 ·split <;> simp
theorem UB_not {c : Int} (h : good c) (hc : c ≠ 32) : ∀ b ∈ UB c, b ≠ 32 := by
 obtain ⟨h1, h2⟩ := good_bnd h
 have key : ∀ a : Nat, a < 256 → a ≠ 32 → UInt8.ofNat a ≠ 32 := by
  intro a ha hne e
  apply hne
  have := (ofNat_eq (b := 32) ha).1 e
  simpa using this
 unfold UB unitL
 intro b hb
 split at hb
 ·simp only [List.mem_singleton] at hb
  subst hb
  exact key _ (by omega) (by omega)
 ·split at hb
  ·simp only [List.mem_cons, List.not_mem_nil, or_false] at hb
   rcases hb with rfl | rfl
   ·exact key _ (by omega) (by omega)
   ·exact key _ (by omega) (by omega)
  ·simp only [List.mem_cons, List.not_mem_nil, or_false] at hb
   rcases hb with rfl | rfl | rfl
   ·exact key _ (by omega) (by omega)
   ·exact key _ (by omega) (by omega)
   ·exact key _ (by omega) (by omega)
theorem head_flat (l : List Int) (hl : ∀ c ∈ l, good c) : (l.flatMap UB).head? = some 32 ↔ l.head? = some 32 := by
 cases l with
 | nil => simp
 | cons c r =>
  have hg := hl c (by simp)
  rw [List.flatMap_cons]
  by_cases hc : c = 32
  ·subst hc; simp [UB_32]
  ·cases hu : UB c with
   | nil => exact (UB_ne hg hu).elim
   | cons b q =>
    have := UB_not hg hc b (by rw [hu]; simp)
    simp [this, hc]
theorem adj_skip (xs ys : List UInt8) (h : ∀ b ∈ xs, b ≠ 32) : adj 32 (xs ++ ys) = adj 32 ys := by
 induction xs with
 | nil => rfl
 | cons b q ih =>
  have hb := h b (by simp)
  simp only [List.cons_append, adj, hb, decide_false, Bool.false_and, Bool.false_or]
  exact ih fun b hb => h b (by simp [hb])
theorem adj_flat (l : List Int) (hl : ∀ c ∈ l, good c) : adj 32 (l.flatMap UB) = adj 32 l := by
 induction l with
 | nil => rfl
 | cons c r ih =>
  have hg := hl c (by simp)
  have hr : ∀ c ∈ r, good c := fun c hc => hl c (by simp [hc])
  rw [List.flatMap_cons]
  by_cases hc : c = 32
  ·subst hc
   rw [UB_32]
   simp only [List.cons_append, List.nil_append, adj, ih hr, decide_true, Bool.true_and]
   congr 1
   rw [Bool.eq_iff_iff]
   simp only [decide_eq_true_eq]
   exact head_flat r hr
  ·rw [adj_skip _ _ (UB_not hg hc), ih hr]
   simp [adj, hc]
theorem last_flat (l : List Int) (hl : ∀ c ∈ l, good c) : (l.flatMap UB).getLast? = some 32 ↔ l.getLast? = some 32 := by
 rcases List.eq_nil_or_concat l with rfl | ⟨q, c, rfl⟩
 ·simp
 ·have hg := hl c (by simp)
  rw [List.concat_eq_append, List.flatMap_append, List.flatMap_cons, List.flatMap_nil, List.append_nil, List.getLast?_append, List.getLast?_append]
  simp only [List.getLast?_singleton, Option.some_or, Option.some.injEq]
  by_cases hc : c = 32
  ·subst hc; simp [UB_32]
  ·have hne := UB_ne hg
   rw [List.getLast?_eq_some_getLast hne]
   simp only [Option.some_or, Option.some.injEq, hc, iff_false]
   exact UB_not hg hc _ (List.getLast_mem hne)
theorem step_unit {s : ByteArray} {k : Nat} (hk : k < s.size) (hs : 0 ≤ scr ((Utf8.decode s k).1 : Int)) :
  s.data.toList.drop k = UB ((Utf8.decode s k).1 : Int) ++ s.data.toList.drop (k + (Utf8.decode s k).2) := by
 have hlt : k < s.data.toList.length := by rw [← ba_size]; exact hk
 have hd : s.data.toList.drop k = s.data.toList[k] :: s.data.toList.drop (k + 1) := List.drop_eq_getElem_cons hlt
 generalize s.data.toList[k] = b0 at hd
 generalize hr : s.data.toList.drop (k + 1) = r at hd
 have hdd : ∀ j, s.data.toList.drop (k + 1 + j) = r.drop j := by
  intro j
  rw [← hr, List.drop_drop]
 obtain ⟨D1, D2, D3, D4⟩ := dec_cases hd
 rcases D4 hs with z | ⟨b1, q, z, z1, z2, z3⟩ | ⟨b1, b2, q, z, z1, z2, z3, z4⟩
 ·rw [D1 z, hd]
  show b0 :: r = unitL b0.toNat ++ s.data.toList.drop (k + 1)
  rw [unit1.2 z, hr]; rfl
 ·rw [D2 b1 q z z1 z2 z3, hd]
  show b0 :: r = unitL (b0.toNat % 32 * 64 + b1.toNat % 64) ++ s.data.toList.drop (k + 1 + 1)
  rw [unit2.2 ⟨z3, z1, z2⟩, hdd 1, z]; rfl
 ·by_cases hv : b0.toNat % 16 * 4096 + b1.toNat % 64 * 64 + b2.toNat % 64 < 55296
  ·rw [D3 b1 b2 q z z1 z2 z3 z4 hv, hd]
   show b0 :: r = unitL (b0.toNat % 16 * 4096 + b1.toNat % 64 * 64 + b2.toNat % 64) ++ s.data.toList.drop (k + 1 + 2)
   rw [unit3.2 ⟨z4, z1, z2, z3⟩, hdd 2, z]; rfl
  ·exfalso
   clear D1 D2 D3 D4
   have hget : ∀ j b, (b0 :: r)[j]? = some b → s.get! (k + j) = b := by
    intro j b hb
    apply get_list s rfl
    rw [← hd, List.getElem?_drop] at hb
    exact hb
   have hsz : s.size = k + (b0 :: r).length := by
    have := congrArg List.length hd
    rw [List.length_drop] at this
    rw [ba_size]
    simp only [List.length_cons] at this ⊢
    omega
   subst z
   have g0 : s.get! (k + 0) = b0 := hget 0 b0 rfl
   have g1 : s.get! (k + 1) = b1 := hget 1 b1 rfl
   have g2 : s.get! (k + 2) = b2 := hget 2 b2 rfl
   have n0 : ¬ b0.toNat < 128 := by omega
   have hb0 := b_lt b0
   have n1 : (b0.toNat / 32 == 6) = false := by simp; omega
   have l1 : k + 1 < s.size := by rw [hsz]; simp
   have l2 : k + 2 < s.size := by rw [hsz]; simp
   have hdec : (Utf8.decode s k).1 = 65533 ∨ (Utf8.decode s k).1 = b0.toNat % 16 * 4096 + b1.toNat % 64 * 64 + b2.toNat % 64 := by
    simp only [Utf8.decode, g0, g1, g2, n0, if_false, n1, Bool.false_and, Bool.false_eq_true, z1, z2, z3, l1, l2, decide_true, Bool.and_self, beq_self_eq_true, if_true]
    split
    ·exact .inr rfl
    ·exact .inl rfl
   have := scr_ge hs
   rcases hdec with q | q <;> rw [q] at this <;> omega
theorem dl_flat (s : ByteArray) : ∀ (m k : Nat) (r : List Int), dl s m k = some r → s.data.toList.drop k = r.flatMap UB ∧ (∀ c ∈ r, good c) ∧ r.length ≤ s.size - k := by
 intro m
 induction m with
 | zero => intro k r h; cases h
 | succ m ih =>
  intro k r h
  simp only [dl] at h
  split at h
  ·rename_i hk
   split at h
   ·rename_i hc
    split at h
    ·rename_i q hq
     cases h
     obtain ⟨h1, h2, h3⟩ := ih _ _ hq
     obtain ⟨w1, _, _⟩ := dec_bnd s k
     refine ⟨?_, ?_, ?_⟩
     ·rw [List.flatMap_cons, ← h1]; exact step_unit hk hc
     ·intro c hc'
      rcases List.mem_cons.1 hc' with rfl | hc'
      ·exact hc
      ·exact h2 c hc'
     ·simp only [List.length_cons]; omega
    ·cases h
   ·cases h
  ·rename_i hk
   cases h
   refine ⟨?_, by simp, by simp⟩
   rw [List.drop_eq_nil_of_le (by rw [← ba_size]; omega)]
   rfl
end Go.Proofs.YtmflphfmefakfaaGreatDoor.Av
namespace Go.Proofs.YtmflphfmefakfaaGreatDoor.Av
open Go Go.IntWalk
set_option linter.unusedVariables false
set_option linter.unusedSimpArgs false
def anyS (l : List Int) : Bool := l.any fun c => decide (scr c ≠ 0)
theorem anyS_cons (a : Int) (r : List Int) : anyS (a :: r) = (decide (scr a ≠ 0) || anyS r) := rfl
theorem drop_nat {α : Type} {l : List α} {i : Nat} (h : i < l.length) : l.drop i = l[i] :: l.drop (i + 1) := List.drop_eq_getElem_cons h
theorem idx_get {α : Type} {l : List α} {i : Nat} (h : i < l.length) : idx l (i : Int) = some l[i] := by rw [idx_nat, List.getElem?_eq_getElem h]
theorem wrap_succ {i : Nat} (h : i < 100000) : IntKind.i64.wrap ((i : Int) + 1) = ((i + 1 : Nat) : Int) := by rw [i64_in _ (by omega)]; push_cast; rfl
theorem wrap_pred {i : Nat} (h : i < 100000) (h1 : 1 ≤ i) : IntKind.i64.wrap ((i : Int) - 1) = ((i - 1 : Nat) : Int) := by rw [i64_in _ (by omega)]; omega
theorem f26_L0_eq (n : Nat) (hn : 15 ≤ n) (v : List Int × Int) : ∀ (d m i : Nat), i + d = v.1.length → d < m → v.1.length ≤ 1000 → f26_L0 n v m (i : Int) = some (if anyS (v.1.drop i) then .inl () else .inr ()) := by
 intro d
 induction d with
 | zero =>
  intro m i hi hm hl
  obtain ⟨m, rfl⟩ : ∃ z, m = z + 1 := ⟨m - 1, by omega⟩
  rw [f26_L0, decide_eq_false (by omega), List.drop_eq_nil_of_le (by omega)]
  rfl
 | succ d ih =>
  intro m i hi hm hl
  obtain ⟨m, rfl⟩ : ∃ z, m = z + 1 := ⟨m - 1, by omega⟩
  have hlt : i < v.1.length := by omega
  rw [f26_L0, decide_eq_true (by omega), drop_nat hlt]
  simp only [cnd, bnd_of (idx_get hlt), bnd_of (f47_eq n _ hn), wrap_succ (show i < 100000 by omega), ih m (i + 1) (by omega) (by omega) hl]
  rw [anyS_cons]
  by_cases hc : scr v.1[i] = 0
  ·rw [show (scr v.1[i] != 0) = false by simp [hc], decide_eq_false (fun h => h hc), Bool.false_or]
  ·rw [show (scr v.1[i] != 0) = true by simp [hc], decide_eq_true hc]; rfl
theorem f31_L0_eq (n : Nat) (hn : 2 ≤ n) (v : List Int) : ∀ (d m i : Nat), i + d = v.length → d < m → v.length ≤ 1000 → f31_L0 n v m (i : Int) = some (if anyS (v.drop i) then .inl () else .inr ()) := by
 intro d
 obtain ⟨n, rfl⟩ : ∃ z, n = z + 2 := ⟨n - 2, by omega⟩
 induction d with
 | zero =>
  intro m i hi hm hl
  obtain ⟨m, rfl⟩ : ∃ z, m = z + 1 := ⟨m - 1, by omega⟩
  rw [f31_L0, decide_eq_false (by omega), List.drop_eq_nil_of_le (by omega)]
  rfl
 | succ d ih =>
  intro m i hi hm hl
  obtain ⟨m, rfl⟩ : ∃ z, m = z + 1 := ⟨m - 1, by omega⟩
  have hlt : i < v.length := by omega
  rw [f31_L0, decide_eq_true (by omega), drop_nat hlt]
  simp only [cnd, bnd_of (idx_get hlt), bnd_of (f49_eq n _), wrap_succ (show i < 100000 by omega), ih m (i + 1) (by omega) (by omega) hl]
  rw [anyS_cons]
  by_cases hc : scr v[i] = 0
  ·rw [show (scr v[i] != 0) = false by simp [hc], decide_eq_false (fun h => h hc), Bool.false_or]
  ·rw [show (scr v[i] != 0) = true by simp [hc], decide_eq_true hc]; rfl
theorem f30_L0_eq (n : Nat) (v : List Int) : ∀ (d m i : Nat), i + d = v.length → d < m → v.length ≤ 1000 → 1 ≤ i → f30_L0 n v m (i : Int) = some (if adj 32 (v.drop (i - 1)) then .inl () else .inr ()) := by
 intro d
 induction d with
 | zero =>
  intro m i hi hm hl h1
  obtain ⟨m, rfl⟩ : ∃ z, m = z + 1 := ⟨m - 1, by omega⟩
  have hlt : i - 1 < v.length := by omega
  rw [f30_L0, decide_eq_false (by omega), drop_nat hlt, List.drop_eq_nil_of_le (by omega)]
  simp [cnd, adj]
 | succ d ih =>
  intro m i hi hm hl h1
  obtain ⟨m, rfl⟩ : ∃ z, m = z + 1 := ⟨m - 1, by omega⟩
  have hlt : i < v.length := by omega
  have hlt' : i - 1 < v.length := by omega
  have e : i - 1 + 1 = i := by omega
  rw [f30_L0, decide_eq_true (by omega), drop_nat hlt']
  have ihh := ih m (i + 1) (by omega) (by omega) hl (by omega)
  rw [show i + 1 - 1 = i from rfl] at ihh
  simp only [cnd, bnd_of (idx_get hlt), wrap_pred (show i < 100000 by omega) h1, bnd_of (idx_get hlt'), wrap_succ (show i < 100000 by omega), ihh, e, adj]
  have hh : (v.drop i).head? = some v[i] := by rw [drop_nat hlt]; rfl
  rw [hh]
  by_cases hc : v[i] = 32
  ·rw [show (v[i] == 32) = true by simp [hc]]
   by_cases hc' : v[i - 1] = 32
   ·rw [show (v[i - 1] == 32) = true by simp [hc']]
    simp [hc, hc']
   ·rw [show (v[i - 1] == 32) = false by simp [hc']]
    simp [hc, hc']
  ·rw [show (v[i] == 32) = false by simp [hc]]
   simp [hc]
theorem f31_eq (n : Nat) (hn : 100 ≤ n) (v : List Int) (hv : v.length ≤ 40) : f31 n v = some (!anyS v) := by
 obtain ⟨n, rfl⟩ : ∃ z, n = z + 1 := ⟨n - 1, by omega⟩
 have h := f31_L0_eq n (by omega) v v.length n 0 (by omega) (by omega) (by omega)
 have h' : f31_L0 n v n 0 = _ := h
 rw [f31, h', List.drop_zero]
 cases anyS v <;> rfl
theorem f30_eq (n : Nat) (hn : 100 ≤ n) (v : List Int) (hv : v.length ≤ 40) (h0 : v ≠ []) : f30 n v = some (decide (v.head? = some 32) || decide (v.getLast? = some 32) || adj 32 v) := by
 obtain ⟨n, rfl⟩ : ∃ z, n = z + 1 := ⟨n - 1, by omega⟩
 have hl : 0 < v.length := List.length_pos_iff.2 h0
 have h := f30_L0_eq n v (v.length - 1) n 1 (by omega) (by omega) (by omega) (by omega)
 have h' : f30_L0 n v n 1 = _ := h
 have i0 : idx v 0 = some v[0] := idx_get hl
 have hlt : v.length - 1 < v.length := by omega
 have i1 : idx v (IntKind.i64.wrap (((v.length : Nat) : Int) - 1)) = some v[v.length - 1] := by
  rw [wrap_pred (by omega) (by omega)]; exact idx_get hlt
 have e0 : v.head? = some v[0] := by rw [List.head?_eq_getElem?, List.getElem?_eq_getElem hl]
 have e1 : v.getLast? = some v[v.length - 1] := by rw [List.getLast?_eq_getElem?, List.getElem?_eq_getElem hlt]
 rw [f30]
 simp only [bnd_of i0, bnd_of i1, h', e0, e1, Option.some.injEq]
 by_cases c0 : v[0] = 32
 ·rw [show (v[0] == 32) = true by simp [c0]]; simp [c0, cnd]
 ·rw [show (v[0] == 32) = false by simp [c0]]
  by_cases c1 : v[v.length - 1] = 32
  ·rw [show (v[v.length - 1] == 32) = true by simp [c1]]; simp [c1, cnd]
  ·rw [show (v[v.length - 1] == 32) = false by simp [c1]]
   simp only [cnd, c0, c1, decide_false, Bool.or_self, Bool.false_or]
   show bnd2 (some (if adj 32 (v.drop (1 - 1)) = true then Sum.inl () else Sum.inr ())) _ _ = _
   rw [show v.drop (1 - 1) = v from rfl]
   cases adj 32 v <;> rfl
def nameE (s : ByteArray) : Int :=
 if s = ⟨#[]⟩ then 14 else if 40 < s.size then 3 else match dls s with
  | none => 4
  | some l => if (decide (l.head? = some 32) || decide (l.getLast? = some 32) || adj 32 l) then 14 else if anyS l then 0 else 14
theorem dls_ne {s : ByteArray} (h : s ≠ ⟨#[]⟩) {l : List Int} (hd : dls s = some l) : l ≠ [] ∧ s.data.toList = l.flatMap UB ∧ (∀ c ∈ l, good c) ∧ l.length ≤ s.size := by
 obtain ⟨h1, h2, h3⟩ := dl_flat s _ 0 l hd
 rw [List.drop_zero] at h1
 refine ⟨?_, h1, h2, by omega⟩
 rintro rfl
 apply h
 rw [ba_ext, h1]; rfl
theorem f13_eq (n : Nat) (hn : 200 ≤ n) (s : ByteArray) : f13 n s = some (nameE s) := by
 obtain ⟨n, rfl⟩ : ∃ z, n = z + 1 := ⟨n - 1, by omega⟩
 rw [f13, nameE]
 by_cases c0 : s = ⟨#[]⟩
 ·rw [decide_eq_true c0, if_pos c0]; rfl
 ·rw [decide_eq_false c0, if_neg c0]
  by_cases c1 : 40 < s.size
  ·rw [decide_eq_true (by omega), if_pos c1]; rfl
  ·rw [decide_eq_false (by omega), if_neg c1]
   simp only [cnd, bnd_of (f29_eq n (by omega) s (by omega))]
   cases hd : dls s with
   | none => rfl
   | some l =>
    obtain ⟨g1, g2, g3, g4⟩ := dls_ne c0 hd
    have hl : ((((l.length : Nat) : Int)) == 0) = false := beq_eq_false_iff_ne.2 (by have := List.length_pos_iff.2 g1; omega)
    simp only [hl, bnd_of (f30_eq n (by omega) l (by omega) g1), bnd_of (f31_eq n (by omega) l (by omega)), show ((0 : Int) != 0) = false from rfl]
    cases (decide (l.head? = some 32) || decide (l.getLast? = some 32) || adj 32 l) with
    | true => rfl
    | false => cases anyS l <;> rfl
theorem f8_eq (n : Nat) (hn : 200 ≤ n) (s : ByteArray) : f8 n s = some (nameE s) := by
 obtain ⟨n, rfl⟩ : ∃ z, n = z + 2 := ⟨n - 2, by omega⟩
 rw [f8, f26, nameE]
 by_cases c0 : s = ⟨#[]⟩
 ·rw [decide_eq_true c0, if_pos c0]; rfl
 ·rw [decide_eq_false c0, if_neg c0]
  by_cases c1 : 40 < s.size
  ·rw [decide_eq_true (by omega), if_pos c1]; rfl
  ·rw [decide_eq_false (by omega), if_neg c1]
   simp only [cnd, bnd_of (f45_eq n (by omega) s (by omega))]
   cases hd : dls s with
   | none => rfl
   | some l =>
    obtain ⟨g1, g2, g3, g4⟩ := dls_ne c0 hd
    have hpos : 0 < s.data.toList.length := by
     rcases Nat.eq_zero_or_pos s.data.toList.length with h | h
     ·exfalso; apply c0; rw [ba_ext]; exact List.eq_nil_of_length_eq_zero h
     ·exact h
    have hsz : s.size = s.data.toList.length := ba_size s
    have hlt : s.data.toList.length - 1 < s.data.toList.length := by omega
    have i0 : sat s 0 = some ((s.data.toList[0]).toNat : Int) := sat_list rfl 0 _ (List.getElem?_eq_getElem hpos)
    have i1 : sat s (IntKind.i64.wrap (((s.size : Nat) : Int) - 1)) = some ((s.data.toList[s.data.toList.length - 1]).toNat : Int) := by
     rw [wrap_pred (by omega) (by omega), hsz]; exact sat_list rfl _ _ (List.getElem?_eq_getElem hlt)
    have h46 : f46 n s ⟨#[32, 32]⟩ = some (adj 32 l) := by
     obtain ⟨n, rfl⟩ : ∃ z, n = z + 1 := ⟨n - 1, by omega⟩
     have hb : Nat.blt s.size 4294967281 = true := by
      rw [Nat.blt_eq]; omega
     simp only [f46, hb]
     show some (Lib.contains s.data.toList [32, 32]) = _
     rw [contains_adj, g2, adj_flat l g3]
    have hL := f26_L0_eq n (by omega) (l, 0) l.length n 0 (by simp) (by omega) (by simp; omega)
    have hL' : f26_L0 n (l, 0) n 0 = some (if anyS l then .inl () else .inr ()) := hL
    have hb32 : ∀ b : UInt8, ((b.toNat : Int) == 32) = decide (b = 32) := by
     intro b
     rw [Bool.eq_iff_iff, beq_iff_eq, decide_eq_true_eq, ← UInt8.toNat_inj]
     show (b.toNat : Int) = 32 ↔ b.toNat = 32
     omega
    have eh : decide (s.data.toList[0] = 32) = decide (l.head? = some 32) := by
     rw [Bool.eq_iff_iff, decide_eq_true_eq, decide_eq_true_eq, ← head_flat l g3, ← g2, List.head?_eq_getElem?, List.getElem?_eq_getElem hpos, Option.some.injEq]
    have el : decide (s.data.toList[s.data.toList.length - 1] = 32) = decide (l.getLast? = some 32) := by
     rw [Bool.eq_iff_iff, decide_eq_true_eq, decide_eq_true_eq, ← last_flat l g3, ← g2, List.getLast?_eq_getElem?, List.getElem?_eq_getElem hlt, Option.some.injEq]
    simp only [show ((0 : Int) != 0) = false from rfl, bnd_of i0, bnd_of i1, bnd_of h46, hL', hb32, eh, el]
    cases decide (l.head? = some 32) with
    | true => rfl
    | false =>
     cases decide (l.getLast? = some 32) with
     | true => rfl
     | false =>
      cases adj 32 l with
      | true => rfl
      | false => cases anyS l <;> rfl
end Go.Proofs.YtmflphfmefakfaaGreatDoor.Av
