/- A part of the proof of ChangesetCompactsCardSaid: an evaluator of the program, proved sound, and what it says. -/
import Derived.Test.YtanonfpdkoijnaaGreatDoorAvTl2
namespace Go.Proofs.YtanonfpdkoijnaaGreatDoor.Av
open Go
set_option maxHeartbeats 0
set_option linter.unusedVariables false
set_option linter.unusedSimpArgs false

/-! The plain law of ChangesetCompacts: what the lifted functions compute. -/

abbrev covP (y x : GEdit) : Prop := y.ID = x.ID ∧ ((y.Kind = x.Kind ∧ (x.Kind = 3 ∨ x.Kind = 6 ∨ x.Kind = 9 ∨ x.Kind = 10 ∨ x.Kind = 11)) ∨ (x.Kind = 2 ∧ y.Kind = 3) ∨ (x.Kind = 5 ∧ y.Kind = 6) ∨ (x.Kind = 8 ∧ (y.Kind = 9 ∨ y.Kind = 10 ∨ y.Kind = 11)))
abbrev canP (y x : GEdit) : Prop := y.ID = x.ID ∧ ((y.Kind = 1 ∧ x.Kind = 2) ∨ (y.Kind = 7 ∧ x.Kind = 8) ∨ (y.Kind = 4 ∧ y.C = 0 ∧ x.Kind = 5))
abbrev labP (y x : GEdit) : Prop := y.Kind = 12 ∧ x.Kind = 12 ∧ y.A = x.ID
abbrev cancP (y x : GEdit) : Prop := (labP y x ∧ x.A = y.ID) ∨ canP y x
abbrev joiP (y x : GEdit) : Prop := labP y x ∨ (y.ID = x.ID ∧ ((y.Kind = 1 ∧ x.Kind = 3) ∨ (y.Kind = 4 ∧ x.Kind = 6) ∨ (y.Kind = 7 ∧ (x.Kind = 9 ∨ x.Kind = 10 ∨ x.Kind = 11))))

def jn (y x : GEdit) : GEdit :=
  if labP y x then GEdit.mk y.Kind y.ID x.A y.B y.C y.At y.Via y.Name y.Parts
  else if x.Kind = 3 then GEdit.mk y.Kind y.ID y.A y.B y.C x.At y.Via y.Name y.Parts
  else if x.Kind = 6 then GEdit.mk y.Kind y.ID y.A y.B y.C y.At x.Via y.Name y.Parts
  else if x.Kind = 9 then GEdit.mk y.Kind y.ID y.A y.B y.C y.At y.Via x.Name y.Parts
  else if x.Kind = 10 then GEdit.mk y.Kind y.ID y.A x.B y.C y.At y.Via y.Name y.Parts
  else GEdit.mk y.Kind y.ID y.A y.B y.C y.At y.Via y.Name x.Parts

theorem jn_kind (y x : GEdit) : (jn y x).Kind = y.Kind := by unfold jn; repeat' split
                                                             all_goals rfl
theorem jn_id (y x : GEdit) : (jn y x).ID = y.ID := by unfold jn; repeat' split
                                                       all_goals rfl
theorem jn_via (y x : GEdit) : (jn y x).Via = y.Via ∨ (jn y x).Via = x.Via := by
  unfold jn; repeat' split
  all_goals first | exact .inl rfl | exact .inr rfl
theorem jn_parts (y x : GEdit) : (jn y x).Parts = y.Parts ∨ (jn y x).Parts = x.Parts := by
  unfold jn; repeat' split
  all_goals first | exact .inl rfl | exact .inr rfl


theorem cnd_beq {α : Type} {a b : Int} {x y r : α} (h1 : a = b → x = r) (h2 : ¬ a = b → y = r) : cnd (a == b) x y = r := by
  rw [cnd_ite]; by_cases h : a = b
  · rw [if_pos (beq_iff_eq.2 h)]; exact h1 h
  · rw [if_neg (fun e => h (beq_iff_eq.1 e))]; exact h2 h
theorem cnd_bne {α : Type} {a b : Int} {x y r : α} (h1 : ¬ a = b → x = r) (h2 : a = b → y = r) : cnd (a != b) x y = r := by
  rw [cnd_ite]; by_cases h : a = b
  · rw [if_neg (fun e => bne_iff_ne.1 e h)]; exact h2 h
  · rw [if_pos (bne_iff_ne.2 h)]; exact h1 h
theorem cnd_arr {α : Type} {a b c d : Int} {x y r : α} (h1 : (a = c ∧ b = d) → x = r) (h2 : ¬ (a = c ∧ b = d) → y = r) : cnd (decide (GArr2_Int.mk a b = GArr2_Int.mk c d)) x y = r := by
  rw [cnd_ite]; by_cases h : a = c ∧ b = d
  · rw [if_pos (by rw [decide_eq_true_iff, h.1, h.2])]; exact h1 h
  · rw [if_neg (by rw [decide_eq_true_iff]; intro e; cases e; exact h ⟨rfl, rfl⟩)]; exact h2 h
theorem some_f {p : Prop} [Decidable p] (h : ¬ p) : some false = some (decide p) := by rw [decide_eq_false h]
theorem some_t {p : Prop} [Decidable p] (h : p) : some true = some (decide p) := by rw [decide_eq_true h]

theorem f13_eq (n : Nat) (y x : GEdit) : f13 (n + 1) y x = some (decide (covP y x)) := by
  rw [f13]
  repeat' (first | refine cnd_beq (fun _ => ?_) (fun _ => ?_) | refine cnd_bne (fun _ => ?_) (fun _ => ?_))
  all_goals first
    | (refine some_f ?_; omega)
    | (refine some_t ?_; omega)

theorem f16_eq (n : Nat) (y x : GEdit) : f16 (n + 1) y x = some (decide (covP y x)) := by
  rw [f16]
  repeat' (first | refine cnd_beq (fun _ => ?_) (fun _ => ?_) | refine cnd_bne (fun _ => ?_) (fun _ => ?_))
  all_goals first
    | (refine some_f ?_; omega)
    | (refine some_t ?_; omega)

theorem f14_eq (n : Nat) (y x : GEdit) : f14 (n + 1) y x = some (decide (canP y x)) := by
  rw [f14]
  repeat' (first | refine cnd_beq (fun _ => ?_) (fun _ => ?_) | refine cnd_bne (fun _ => ?_) (fun _ => ?_))
  all_goals first
    | (refine some_f ?_; omega)
    | (refine some_t ?_; omega)

theorem f17_eq (n : Nat) (y x : GEdit) : f17 (n + 1) y x = some (decide (cancP y x)) := by
  rw [f17]
  repeat' (first | refine cnd_beq (fun _ => ?_) (fun _ => ?_) | refine cnd_bne (fun _ => ?_) (fun _ => ?_))
  all_goals first
    | (refine some_f ?_; omega)
    | (refine some_t ?_; omega)

theorem f18_eq (n : Nat) (y x : GEdit) : f18 (n + 1) y x = some (if joiP y x then (jn y x, true) else (y, false)) := by
  have j0 : labP y x → jn y x = GEdit.mk y.Kind y.ID x.A y.B y.C y.At y.Via y.Name y.Parts := fun h => if_pos h
  have j1 : ¬ labP y x → x.Kind = 3 → jn y x = GEdit.mk y.Kind y.ID y.A y.B y.C x.At y.Via y.Name y.Parts := fun h h1 => by
    unfold jn; rw [if_neg h, if_pos h1]
  have j2 : ¬ labP y x → x.Kind = 6 → jn y x = GEdit.mk y.Kind y.ID y.A y.B y.C y.At x.Via y.Name y.Parts := fun h h1 => by
    unfold jn; rw [if_neg h, if_neg (by omega), if_pos h1]
  have j3 : ¬ labP y x → x.Kind = 9 → jn y x = GEdit.mk y.Kind y.ID y.A y.B y.C y.At y.Via x.Name y.Parts := fun h h1 => by
    unfold jn; rw [if_neg h, if_neg (by omega), if_neg (by omega), if_pos h1]
  have j4 : ¬ labP y x → x.Kind = 10 → jn y x = GEdit.mk y.Kind y.ID y.A x.B y.C y.At y.Via y.Name y.Parts := fun h h1 => by
    unfold jn; rw [if_neg h, if_neg (by omega), if_neg (by omega), if_neg (by omega), if_pos h1]
  have j5 : ¬ labP y x → x.Kind = 11 → jn y x = GEdit.mk y.Kind y.ID y.A y.B y.C y.At y.Via y.Name x.Parts := fun h h1 => by
    unfold jn; rw [if_neg h, if_neg (by omega), if_neg (by omega), if_neg (by omega), if_neg (by omega)]
  have kn : ¬ joiP y x → some (y, false) = some (if joiP y x then (jn y x, true) else (y, false)) := fun h => by rw [if_neg h]
  have k0 : labP y x → some (GEdit.mk y.Kind y.ID x.A y.B y.C y.At y.Via y.Name y.Parts, true) = some (if joiP y x then (jn y x, true) else (y, false)) := fun h => by
    rw [if_pos (by omega), j0 h]
  have k1 : ¬ labP y x ∧ joiP y x ∧ x.Kind = 3 → some (GEdit.mk y.Kind y.ID y.A y.B y.C x.At y.Via y.Name y.Parts, true) = some (if joiP y x then (jn y x, true) else (y, false)) := fun h => by
    rw [if_pos h.2.1, j1 h.1 h.2.2]
  have k2 : ¬ labP y x ∧ joiP y x ∧ x.Kind = 6 → some (GEdit.mk y.Kind y.ID y.A y.B y.C y.At x.Via y.Name y.Parts, true) = some (if joiP y x then (jn y x, true) else (y, false)) := fun h => by
    rw [if_pos h.2.1, j2 h.1 h.2.2]
  have k3 : ¬ labP y x ∧ joiP y x ∧ x.Kind = 9 → some (GEdit.mk y.Kind y.ID y.A y.B y.C y.At y.Via x.Name y.Parts, true) = some (if joiP y x then (jn y x, true) else (y, false)) := fun h => by
    rw [if_pos h.2.1, j3 h.1 h.2.2]
  have k4 : ¬ labP y x ∧ joiP y x ∧ x.Kind = 10 → some (GEdit.mk y.Kind y.ID y.A x.B y.C y.At y.Via y.Name y.Parts, true) = some (if joiP y x then (jn y x, true) else (y, false)) := fun h => by
    rw [if_pos h.2.1, j4 h.1 h.2.2]
  have k5 : ¬ labP y x ∧ joiP y x ∧ x.Kind = 11 → some (GEdit.mk y.Kind y.ID y.A y.B y.C y.At y.Via y.Name x.Parts, true) = some (if joiP y x then (jn y x, true) else (y, false)) := fun h => by
    rw [if_pos h.2.1, j5 h.1 h.2.2]
  generalize some (if joiP y x then (jn y x, true) else (y, false)) = R at kn k0 k1 k2 k3 k4 k5 ⊢
  clear j0 j1 j2 j3 j4 j5
  rw [f18]
  repeat' (first | refine cnd_beq (fun _ => ?_) (fun _ => ?_) | refine cnd_bne (fun _ => ?_) (fun _ => ?_))
  all_goals first
    | (refine kn ?_; clear kn k0 k1 k2 k3 k4 k5; omega)
    | (refine k0 ?_; clear kn k0 k1 k2 k3 k4 k5; omega)
    | (refine k1 ?_; clear kn k0 k1 k2 k3 k4 k5; omega)
    | (refine k2 ?_; clear kn k0 k1 k2 k3 k4 k5; omega)
    | (refine k3 ?_; clear kn k0 k1 k2 k3 k4 k5; omega)
    | (refine k4 ?_; clear kn k0 k1 k2 k3 k4 k5; omega)
    | (refine k5 ?_; clear kn k0 k1 k2 k3 k4 k5; omega)
end Go.Proofs.YtanonfpdkoijnaaGreatDoor.Av
