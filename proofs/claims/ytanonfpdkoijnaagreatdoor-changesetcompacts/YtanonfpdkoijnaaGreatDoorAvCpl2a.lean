/- A part of the proof of ChangesetCompactsCardSaid: an evaluator of the program, proved sound, and what it says. -/
import Derived.Test.YtanonfpdkoijnaaGreatDoorAvCpl
namespace Go.Proofs.YtanonfpdkoijnaaGreatDoor.Av
open Go
set_option maxHeartbeats 0
set_option linter.unusedVariables false
set_option linter.unusedSimpArgs false

/-- The step of Compact on the stack of kept edits (the newest first). -/
def stp (s : List GEdit) (x : GEdit) : List GEdit :=
  match s.dropWhile (fun y => decide (covP y x)) with
  | [] => [x]
  | y :: r => if cancP y x then r else if joiP y x then jn y x :: r else x :: y :: r

def Rep (l : List GEdit) (k : Nat) (s : List GEdit) : Prop := l.take k = s.reverse ∧ k = s.length

theorem Rep.le {l k s} (h : Rep l k s) : k ≤ l.length := by
  have h1 := congrArg List.length h.1
  rw [List.length_take, List.length_reverse, ← h.2] at h1
  omega
theorem Rep.split {l k y r} (h : Rep l k (y :: r)) : ∃ t, l = r.reverse ++ y :: t ∧ k = r.length + 1 := by
  refine ⟨l.drop k, ?_, h.2⟩
  have h1 := (List.take_append_drop k l).symm
  rw [h.1, List.reverse_cons, List.append_assoc] at h1
  exact h1
theorem wrap_pred {k : Nat} (h : k ≤ 1000000) (h0 : 0 < k) : IntKind.i64.wrap ((k : Int) - 1) = ((k - 1 : Nat) : Int) := by
  have : (k : Int) - 1 = ((k - 1 : Nat) : Int) := by omega
  rw [this]; exact wrap_small (by omega)
theorem wrap_succ {i : Nat} (h : i ≤ 1000000) : IntKind.i64.wrap ((i : Int) + 1) = ((i + 1 : Nat) : Int) := by
  have : (i : Int) + 1 = ((i + 1 : Nat) : Int) := by omega
  rw [this]; exact wrap_small (by omega)
theorem Rep.top {l k y r} (h : Rep l k (y :: r)) (hk : k ≤ 1000000) : idxK l k (IntKind.i64.wrap ((k : Int) - 1)) = some y := by
  obtain ⟨t, e, ek⟩ := h.split
  rw [wrap_pred hk (by omega), idxK]
  rw [if_pos (by constructor <;> omega)]
  subst e ek
  simp
theorem Rep.pop {l k y r} (h : Rep l k (y :: r)) : Rep l (k - 1) r := by
  obtain ⟨t, e, ek⟩ := h.split
  subst e ek
  refine ⟨?_, rfl⟩
  rw [Nat.add_sub_cancel, List.take_append_of_le_length (by simp)]
  rw [List.take_of_length_le (by simp)]
theorem Rep.gd {l k y r} (h : Rep l k (y :: r)) (hk : k ≤ 1000000) : grd (decide (0 ≤ (IntKind.i64.wrap ((k : Int) - 1)) ∧ Int.toNat (IntKind.i64.wrap ((k : Int) - 1)) ≤ k)) = some () := by
  have := h.2
  rw [wrap_pred hk (by rw [this]; exact Nat.succ_pos _), decide_eq_true (by constructor <;> omega)]
  rfl
theorem Rep.push {l k s} (h : Rep l k s) (x : GEdit) (hl : l.length ≤ 1000) : ∃ l', appK l k [x] = some l' ∧ Rep l' (k + 1) (x :: s) ∧ l'.length ≤ max l.length (k + 1) := by
  unfold appK
  have hk := h.le
  by_cases e : k = l.length
  · rw [if_pos e, app_of (by simp; omega)]
    refine ⟨_, rfl, ⟨?_, by rw [List.length_cons, h.2]⟩, by simp; omega⟩
    have h1 := h.1
    rw [e, List.take_length] at h1
    rw [List.take_of_length_le (by simp; omega), h1, List.reverse_cons]
  · rw [if_neg e, if_pos (by simp; omega)]
    refine ⟨_, rfl, ⟨?_, by rw [List.length_cons, h.2]⟩, ?_⟩
    · rw [h.1, List.reverse_cons, h.2]
      rw [← List.append_assoc, List.take_append_of_le_length (by simp), List.take_of_length_le (by simp)]
    · simp; omega
theorem Rep.put {l k y r} (h : Rep l k (y :: r)) (hk : k ≤ 1000000) (z : GEdit) : Rep (List.set l (Int.toNat (IntKind.i64.wrap ((k : Int) - 1))) z) k (z :: r) := by
  obtain ⟨t, e, ek⟩ := h.split
  rw [wrap_pred hk (by omega), Int.toNat_natCast]
  subst e ek
  refine ⟨?_, rfl⟩
  rw [Nat.add_sub_cancel, List.set_append_right _ _ (by simp)]
  rw [Nat.sub_eq_zero_of_le (by simp), List.set_cons_zero, List.take_append]
  rw [List.take_of_length_le (by simp), List.reverse_cons]
  simp


theorem f3_L1_eq {n : Nat} {l a : List GEdit} {i : Int} {x : GEdit} : ∀ (m k : Nat) (s : List GEdit), Rep l k s → k < m → k ≤ 1000000 →
    ∃ k', f3_L1 (n + 1) l a i x x.Via x.Parts m k = some k' ∧ Rep l k' (s.dropWhile (fun y => decide (covP y x))) := by
  intro m
  induction m with
  | zero => intro k s _ h; omega
  | succ m ih =>
    intro k s h hm hk
    rw [f3_L1]
    cases s with
    | nil =>
      have e : k = 0 := h.2
      subst e
      exact ⟨0, rfl, h⟩
    | cons y r =>
      have e : k = r.length + 1 := h.2
      rw [← cnd_t (decide_eq_true (by omega)), h.top hk]
      simp only [bnd, f13_eq, List.dropWhile]
      by_cases hc : covP y x
      · rw [decide_eq_true hc, ← cnd_t rfl, h.gd hk]
        have hp := h.pop
        have := ih (k - 1) r hp (by omega) (by omega)
        rw [wrap_pred hk (by omega), Int.toNat_natCast]
        exact this
      · rw [decide_eq_false hc]
        exact ⟨k, rfl, h⟩

theorem f4_L1_eq {n : Nat} {l a : List GEdit} {i : Int} {x : GEdit} : ∀ (m k : Nat) (s : List GEdit), Rep l k s → k < m → k ≤ 1000000 →
    ∃ k', f4_L1 (n + 1) a l i x m k = some k' ∧ Rep l k' (s.dropWhile (fun y => decide (covP y x))) := by
  intro m
  induction m with
  | zero => intro k s _ h; omega
  | succ m ih =>
    intro k s h hm hk
    rw [f4_L1]
    cases s with
    | nil =>
      have e : k = 0 := h.2
      subst e
      exact ⟨0, rfl, h⟩
    | cons y r =>
      have e : k = r.length + 1 := h.2
      rw [← cnd_t (decide_eq_true (by omega)), h.top hk]
      simp only [bnd, f16_eq, List.dropWhile]
      by_cases hc : covP y x
      · rw [decide_eq_true hc, ← cnd_t rfl, h.gd hk]
        have hp := h.pop
        have := ih (k - 1) r hp (by omega) (by omega)
        rw [wrap_pred hk (by omega), Int.toNat_natCast]
        exact this
      · rw [decide_eq_false hc]
        exact ⟨k, rfl, h⟩

abbrev Sml (x : GEdit) : Prop := x.Via.length ≤ 5000 ∧ x.Parts.length ≤ 5000

theorem f11_eq {n : Nat} {l : List GPoint} (h : l.length ≤ 5000) : f11 (n + 1) l = some l := if_pos (by omega)
theorem f12_eq {n : Nat} {l : List Int} (h : l.length ≤ 5000) : f12 (n + 1) l = some l := if_pos (by omega)
theorem cnd_true {α : Type} {x y : α} : cnd true x y = x := rfl
theorem cnd_false {α : Type} {x y : α} : cnd false x y = y := rfl


def OK {α : Type} (Q : α → Prop) (o : Option α) : Prop := ∃ r, o = some r ∧ Q r
theorem OK_some {α : Type} {Q : α → Prop} {r : α} (h : Q r) : OK Q (some r) := ⟨r, rfl, h⟩
theorem OK_bnd {α β : Type} {Q : β → Prop} {x : Option α} {f : α → Option β} {a : α} (e : x = some a) (h : OK Q (f a)) : OK Q (bnd x f) := by
  subst e; exact h
theorem OK_beq {α : Type} {Q : α → Prop} {a b : Int} {x y : Option α} (h1 : a = b → OK Q x) (h2 : ¬ a = b → OK Q y) : OK Q (cnd (a == b) x y) := by
  by_cases h : a = b
  · rw [← cnd_t (beq_iff_eq.2 h)]; exact h1 h
  · rw [← cnd_f (beq_eq_false_iff_ne.2 h)]; exact h2 h
theorem OK_bne {α : Type} {Q : α → Prop} {a b : Int} {x y : Option α} (h1 : ¬ a = b → OK Q x) (h2 : a = b → OK Q y) : OK Q (cnd (a != b) x y) := by
  by_cases h : a = b
  · rw [← cnd_f (by rw [h]; exact bne_self_eq_false b)]; exact h2 h
  · rw [← cnd_t (bne_iff_ne.2 h)]; exact h1 h
theorem OK_arr {α : Type} {Q : α → Prop} {a b c d : Int} {x y : Option α} (h1 : (a = c ∧ b = d) → OK Q x) (h2 : ¬ (a = c ∧ b = d) → OK Q y) : OK Q (cnd (decide (GArr2_Int.mk a b = GArr2_Int.mk c d)) x y) := by
  by_cases h : a = c ∧ b = d
  · rw [← cnd_t (by rw [decide_eq_true_iff, h.1, h.2])]; exact h1 h
  · rw [← cnd_f (by rw [decide_eq_false_iff_not]; intro e; cases e; exact h ⟨rfl, rfl⟩)]; exact h2 h
theorem OK_dec {α : Type} {Q : α → Prop} {p : Prop} [Decidable p] {x y : Option α} (h1 : p → OK Q x) (h2 : ¬ p → OK Q y) : OK Q (cnd (decide p) x y) := by
  by_cases h : p
  · rw [← cnd_t (decide_eq_true h)]; exact h1 h
  · rw [← cnd_f (decide_eq_false h)]; exact h2 h

/-- What is left to show of a round: one of the three ends. -/
structure Ends (n : Nat) (F : List GEdit → Nat → Int → Option (List GEdit × Nat)) (Q : List GEdit × Nat → Prop) (l lp : List GEdit) (k : Nat) (i : Int) (y x : GEdit) : Prop where
  gd : grd (decide (0 ≤ (IntKind.i64.wrap ((k : Int) - 1)) ∧ Int.toNat (IntKind.i64.wrap ((k : Int) - 1)) ≤ k)) = some ()
  ap : appK l k [x] = some lp
  pop : cancP y x → OK Q (F l (Int.toNat (IntKind.i64.wrap ((k : Int) - 1))) i)
  put : ∀ z, z = jn y x ∧ ¬ cancP y x ∧ joiP y x → OK Q (F (List.set l (Int.toNat (IntKind.i64.wrap ((k : Int) - 1))) z) k i)
  push : ¬ cancP y x ∧ ¬ joiP y x → OK Q (F lp (k + 1) i)

theorem jn0 {y x : GEdit} (h : labP y x ∧ ¬ cancP y x) : GEdit.mk y.Kind y.ID x.A y.B y.C y.At y.Via y.Name y.Parts = jn y x ∧ ¬ cancP y x ∧ joiP y x :=
  ⟨by unfold jn; rw [if_pos h.1], h.2, .inl h.1⟩
theorem jn1 {y x : GEdit} (h : ¬ labP y x ∧ ¬ cancP y x ∧ joiP y x ∧ x.Kind = 3) : GEdit.mk y.Kind y.ID y.A y.B y.C x.At y.Via y.Name y.Parts = jn y x ∧ ¬ cancP y x ∧ joiP y x :=
  ⟨by unfold jn; rw [if_neg h.1, if_pos h.2.2.2], h.2.1, h.2.2.1⟩
theorem jn2 {y x : GEdit} (h : ¬ labP y x ∧ ¬ cancP y x ∧ joiP y x ∧ x.Kind = 6) : GEdit.mk y.Kind y.ID y.A y.B y.C y.At x.Via y.Name y.Parts = jn y x ∧ ¬ cancP y x ∧ joiP y x :=
  ⟨by unfold jn; rw [if_neg h.1, if_neg (by omega), if_pos h.2.2.2], h.2.1, h.2.2.1⟩
theorem jn3 {y x : GEdit} (h : ¬ labP y x ∧ ¬ cancP y x ∧ joiP y x ∧ x.Kind = 9) : GEdit.mk y.Kind y.ID y.A y.B y.C y.At y.Via x.Name y.Parts = jn y x ∧ ¬ cancP y x ∧ joiP y x :=
  ⟨by unfold jn; rw [if_neg h.1, if_neg (by omega), if_neg (by omega), if_pos h.2.2.2], h.2.1, h.2.2.1⟩
theorem jn4 {y x : GEdit} (h : ¬ labP y x ∧ ¬ cancP y x ∧ joiP y x ∧ x.Kind = 10) : GEdit.mk y.Kind y.ID y.A x.B y.C y.At y.Via y.Name y.Parts = jn y x ∧ ¬ cancP y x ∧ joiP y x :=
  ⟨by unfold jn; rw [if_neg h.1, if_neg (by omega), if_neg (by omega), if_neg (by omega), if_pos h.2.2.2], h.2.1, h.2.2.1⟩
theorem jn5 {y x : GEdit} (h : ¬ labP y x ∧ ¬ cancP y x ∧ joiP y x ∧ x.Kind = 11) : GEdit.mk y.Kind y.ID y.A y.B y.C y.At y.Via y.Name x.Parts = jn y x ∧ ¬ cancP y x ∧ joiP y x :=
  ⟨by unfold jn; rw [if_neg h.1, if_neg (by omega), if_neg (by omega), if_neg (by omega), if_neg (by omega)], h.2.1, h.2.2.1⟩

end Go.Proofs.YtanonfpdkoijnaaGreatDoor.Av
