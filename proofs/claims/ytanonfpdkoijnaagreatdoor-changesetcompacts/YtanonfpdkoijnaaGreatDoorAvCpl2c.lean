/- A part of the proof of ChangesetCompactsCardSaid: an evaluator of the program, proved sound, and what it says. -/
import Derived.Test.YtanonfpdkoijnaaGreatDoorAvCpl2a
namespace Go.Proofs.YtanonfpdkoijnaaGreatDoor.Av
open Go
set_option maxHeartbeats 0
set_option linter.unusedVariables false
theorem f3_L0_eq {n : Nat} (hn : 400 ≤ n) {a : List GEdit} (ha : a.length ≤ 300) (hs : ∀ x ∈ a, Sml x) : ∀ (m i : Nat) (l : List GEdit) (k : Nat) (s : List GEdit), Rep l k s → l.length ≤ i → i ≤ a.length → a.length - i < m →
    OK (fun r => Rep r.1 r.2 ((a.drop i).foldl stp s)) (f3_L0 n a m l k (i : Int)) := by
  obtain ⟨n, rfl⟩ : ∃ n', n = n' + 1 := ⟨n - 1, by omega⟩
  intro m
  induction m with
  | zero => intro i l k s _ _ _ h; omega
  | succ m ih =>
    intro i l k s h hl hi hm
    rw [f3_L0]
    refine OK_dec (fun hlt => ?_) (fun hlt => ?_)
    · replace hlt : i < a.length := by omega
      rw [List.drop_eq_getElem_cons hlt, List.foldl_cons]
      refine OK_bnd (a := a[i]) (by rw [idx_nat, List.getElem?_eq_getElem hlt]) ?_
      have hx := hs _ (List.getElem_mem hlt)
      generalize a[i] = x at hx ⊢
      have hk := h.le
      obtain ⟨k', e1, h'⟩ := f3_L1_eq (n := n) (l := l) (a := a) (i := (i : Int)) (x := x) (n + 1) k s h (by omega) (by omega)
      refine OK_bnd (f11_eq hx.1) ?_
      refine OK_bnd (f12_eq hx.2) ?_
      refine OK_bnd e1 ?_
      have hk' := h'.le
      have next : ∀ (l2 : List GEdit) (k2 : Nat) (s2 : List GEdit), Rep l2 k2 s2 → l2.length ≤ i + 1 → stp s x = s2 → OK (fun r => Rep r.1 r.2 ((a.drop (i + 1)).foldl stp (stp s x))) (f3_L0 (n + 1) a m l2 k2 (IntKind.i64.wrap ((i : Int) + 1))) :=
        fun l2 k2 s2 hr h1 h2 => by rw [h2, wrap_succ (show i ≤ 1000000 by omega)]; exact ih (i + 1) l2 k2 s2 hr h1 (by omega) (by omega)
      have hst : ∀ t, s.dropWhile (fun y => decide (covP y x)) = t → stp s x = (match t with
        | [] => [x]
        | y :: r => if cancP y x then r else if joiP y x then jn y x :: r else x :: y :: r) := fun t e => by unfold stp; rw [e]; cases t <;> rfl
      revert h' hst
      generalize s.dropWhile (fun y => decide (covP y x)) = t
      intro h' hst
      replace hst := hst t rfl
      revert next
      generalize (fun r : List GEdit × Nat => Rep r.1 r.2 ((a.drop (i + 1)).foldl stp (stp s x))) = Q
      intro next
      obtain ⟨lp, ep, hp, hlp⟩ := h'.push x (by omega)
      refine OK_beq (fun e0 => ?_) (fun e0 => ?_)
      · cases t with
        | cons y r => have := h'.2; rw [List.length_cons] at this; omega
        | nil => exact OK_bnd ep (next _ _ _ hp (by omega) hst)
      · cases t with
        | nil => have := h'.2; exact absurd (by rw [this]; rfl) e0
        | cons y r =>
          clear e0
          have e0 : k' = r.length + 1 := h'.2
          refine OK_bnd (h'.top (by omega)) ?_
          dsimp only at hst
          have hw : Int.toNat (IntKind.i64.wrap ((k' : Int) - 1)) = k' - 1 := by rw [wrap_pred (by omega) (by omega), Int.toNat_natCast]
          have E1 := h'.gd (by omega)
          have hll : lp.length ≤ i + 1 := by omega
          have hll' : l.length ≤ i + 1 := by omega
          have hk6 : k' ≤ 1000000 := by omega
          have E3 : cancP y x → OK Q (f3_L0 (n + 1) a m l (Int.toNat (IntKind.i64.wrap ((k' : Int) - 1))) (IntKind.i64.wrap ((i : Int) + 1))) := by
            intro hc
            rw [hw]
            exact next _ _ _ h'.pop hll' (by rw [hst, if_pos hc])
          have E4 : ∀ z, z = jn y x ∧ ¬ cancP y x ∧ joiP y x → OK Q (f3_L0 (n + 1) a m (List.set l (Int.toNat (IntKind.i64.wrap ((k' : Int) - 1))) z) k' (IntKind.i64.wrap ((i : Int) + 1))) := by
            intro z hz
            refine next _ _ _ (h'.put hk6 z) (by rw [List.length_set]; exact hll') ?_
            rw [hst, if_neg hz.2.1, if_pos hz.2.2, hz.1]
          have E5 : ¬ cancP y x ∧ ¬ joiP y x → OK Q (f3_L0 (n + 1) a m lp (k' + 1) (IntKind.i64.wrap ((i : Int) + 1))) := by
            intro hj
            exact next _ _ _ hp hll (by rw [hst, if_neg hj.1, if_neg hj.2])
          have E : Ends n (f3_L0 (n + 1) a m) Q l lp k' (IntKind.i64.wrap ((i : Int) + 1)) y x := Ends.mk E1 ep E3 E4 E5
          clear E1 E3 E4 E5 hll hll' hk6 next hst hp hlp ep hw e0 h' hk' e1 hx hm hi hl h ih hk hlt
          refine OK_bnd (f14_eq n y x) ?_
          refine OK_dec (fun hc => ?_) (fun hc => ?_)
          · exact OK_bnd E.gd (E.pop (.inr hc))
          · refine OK_bnd (a := n) rfl ?_
            repeat' (first | refine OK_beq (fun _ => ?_) (fun _ => ?_) | refine OK_bne (fun _ => ?_) (fun _ => ?_) | refine OK_arr (fun _ => ?_) (fun _ => ?_))
            all_goals first
              | (refine OK_bnd E.gd (E.pop ?_); clear E; omega)
              | (refine OK_bnd E.ap (E.push ?_); clear E; omega)
              | (refine E.put _ (jn0 ?_); clear E; omega)
              | (refine E.put _ (jn1 ?_); clear E; omega)
              | (refine E.put _ (jn2 ?_); clear E; omega)
              | (refine E.put _ (jn3 ?_); clear E; omega)
              | (refine E.put _ (jn4 ?_); clear E; omega)
              | (refine E.put _ (jn5 ?_); clear E; omega)
    · rw [List.drop_eq_nil_of_le (by omega)]
      exact OK_some h

end Go.Proofs.YtanonfpdkoijnaaGreatDoor.Av
namespace Go.Proofs.YtanonfpdkoijnaaGreatDoor.Av
open Go
set_option maxHeartbeats 0
set_option linter.unusedVariables false
theorem f4_L0_eq {n : Nat} (hn : 400 ≤ n) {a : List GEdit} (ha : a.length ≤ 300) : ∀ (m i : Nat) (l : List GEdit) (k : Nat) (s : List GEdit), Rep l k s → l.length ≤ i → i ≤ a.length → a.length - i < m →
    OK (fun r => Rep r.1 r.2 ((a.drop i).foldl stp s)) (f4_L0 n a m l k (i : Int)) := by
  obtain ⟨n, rfl⟩ : ∃ n', n = n' + 1 := ⟨n - 1, by omega⟩
  intro m
  induction m with
  | zero => intro i l k s _ _ _ h; omega
  | succ m ih =>
    intro i l k s h hl hi hm
    rw [f4_L0]
    refine OK_dec (fun hlt => ?_) (fun hlt => ?_)
    · replace hlt : i < a.length := by omega
      rw [List.drop_eq_getElem_cons hlt, List.foldl_cons]
      refine OK_bnd (a := a[i]) (by rw [idx_nat, List.getElem?_eq_getElem hlt]) ?_
      generalize a[i] = x
      have hk := h.le
      obtain ⟨k', e1, h'⟩ := f4_L1_eq (n := n) (l := l) (a := a) (i := (i : Int)) (x := x) (n + 1) k s h (by omega) (by omega)
      refine OK_bnd e1 ?_
      have hk' := h'.le
      have next : ∀ (l2 : List GEdit) (k2 : Nat) (s2 : List GEdit), Rep l2 k2 s2 → l2.length ≤ i + 1 → stp s x = s2 → OK (fun r => Rep r.1 r.2 ((a.drop (i + 1)).foldl stp (stp s x))) (f4_L0 (n + 1) a m l2 k2 (IntKind.i64.wrap ((i : Int) + 1))) :=
        fun l2 k2 s2 hr h1 h2 => by rw [h2, wrap_succ (show i ≤ 1000000 by omega)]; exact ih (i + 1) l2 k2 s2 hr h1 (by omega) (by omega)
      have hst : ∀ t, s.dropWhile (fun y => decide (covP y x)) = t → stp s x = (match t with
        | [] => [x]
        | y :: r => if cancP y x then r else if joiP y x then jn y x :: r else x :: y :: r) := fun t e => by unfold stp; rw [e]; cases t <;> rfl
      revert h' hst
      generalize s.dropWhile (fun y => decide (covP y x)) = t
      intro h' hst
      replace hst := hst t rfl
      revert next
      generalize (fun r : List GEdit × Nat => Rep r.1 r.2 ((a.drop (i + 1)).foldl stp (stp s x))) = Q
      intro next
      obtain ⟨lp, ep, hp, hlp⟩ := h'.push x (by omega)
      refine OK_beq (fun e0 => ?_) (fun e0 => ?_)
      · cases t with
        | cons y r => have := h'.2; rw [List.length_cons] at this; omega
        | nil => exact OK_bnd ep (next _ _ _ hp (by omega) hst)
      · cases t with
        | nil => have := h'.2; exact absurd (by rw [this]; rfl) e0
        | cons y r =>
          clear e0
          have e0 : k' = r.length + 1 := h'.2
          refine OK_bnd (h'.top (by omega)) ?_
          dsimp only at hst
          have hw : Int.toNat (IntKind.i64.wrap ((k' : Int) - 1)) = k' - 1 := by rw [wrap_pred (by omega) (by omega), Int.toNat_natCast]
          have hpop := h'.pop
          have new : ∀ (z : GEdit) (q : List GEdit) (hq : q.length ≤ i), Rep (q.reverse ++ [z]) (q.reverse ++ [z]).length (z :: q) ∧ (q.reverse ++ [z]).length ≤ i + 1 := fun z q hq =>
            ⟨⟨by rw [List.take_length, List.reverse_cons], by simp⟩, by simp; omega⟩
          refine OK_bnd (f17_eq n y x) ?_
          refine OK_dec (fun hc => ?_) (fun hc => ?_)
          · refine OK_bnd (h'.gd (by omega)) ?_
            rw [hw]; exact next _ _ _ hpop (by omega) (by rw [hst, if_pos hc])
          · refine OK_bnd (f18_eq n y x) ?_
            by_cases hj : joiP y x
            · rw [if_pos hj, ← cnd_t rfl]
              refine OK_bnd (h'.gd (by omega)) ?_
              rw [hw, hpop.1]
              obtain ⟨n1, n2⟩ := new (jn y x) r (by omega)
              have hb : stp s x = jn y x :: r := by rw [hst, if_neg hc, if_pos hj]
              cases hr : List.isEmpty r.reverse
              · rw [← cnd_f rfl]
                refine OK_bnd (app_of (by simp; omega)) ?_
                refine OK_bnd (app_of (by simp; omega)) ?_
                exact next _ _ _ n1 n2 hb
              · rw [← cnd_t rfl]
                have : r = [] := by simpa using hr
                subst this
                exact next _ _ _ n1 n2 hb
            · rw [if_neg hj, ← cnd_f rfl]
              rw [h'.1]
              obtain ⟨n1, n2⟩ := new x (y :: r) (by rw [List.length_cons]; omega)
              have hb : stp s x = x :: y :: r := by rw [hst, if_neg hc, if_neg hj]
              have hne : List.isEmpty (y :: r).reverse = false := by simp
              rw [hne, ← cnd_f rfl]
              refine OK_bnd (app_of (by simp; omega)) ?_
              refine OK_bnd (app_of (by simp; omega)) ?_
              exact next _ _ _ n1 n2 hb
    · rw [List.drop_eq_nil_of_le (by omega)]
      exact OK_some h
end Go.Proofs.YtanonfpdkoijnaaGreatDoor.Av
