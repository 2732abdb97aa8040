/- A part of the proof of ChangesetCompactsCardSaid: an evaluator of the program, proved sound, and what it says. -/
import Derived.Test.YtanonfpdkoijnaaGreatDoorAvCpl2c
namespace Go.Proofs.YtanonfpdkoijnaaGreatDoor.Av
open Go
set_option maxHeartbeats 1000000
set_option linter.unusedVariables false

theorem imin_nat (a : Nat) : 0 ≤ imin (a : Int) 5000 ∧ imin (a : Int) 5000 ≤ 5000 ∧ (imin (a : Int) 5000 < 5000 → a ≤ 5000) := by
  unfold imin; split <;> omega
theorem wrap_int {z : Int} (h0 : 0 ≤ z) (h : z ≤ 1000000) : IntKind.i64.wrap z = z := by
  obtain ⟨k, rfl⟩ := Int.eq_ofNat_of_zero_le h0
  exact wrap_small (by omega)

theorem f1_L0_eq {n : Nat} {a : List GEdit} (ha : a.length ≤ 300) : ∀ (m i : Nat) (v : Int), 0 ≤ v → v ≤ 30000 → i ≤ a.length → a.length - i < m →
    OK (fun r => r ≤ 5000 → ∀ x ∈ a.drop i, Sml x) (f1_L0 n a 5000 m v (i : Int)) := by
  intro m
  induction m with
  | zero => intro i v _ _ _ h; omega
  | succ m ih =>
    intro i v h0 h1 hi hm
    rw [f1_L0]
    refine OK_dec (fun hlt => ?_) (fun hlt => ?_)
    · replace hlt : i < a.length := by omega
      refine OK_dec (fun hv => ?_) (fun hv => ?_)
      · refine OK_bnd (a := a[i]) (by rw [idx_nat, List.getElem?_eq_getElem hlt]) ?_
        rw [List.drop_eq_getElem_cons hlt]
        generalize a[i] = x
        have a1 := imin_nat x.Via.length
        have a2 := imin_nat x.Parts.length
        have a3 := imin_nat x.Name.size
        generalize imin (x.Via.length : Int) 5000 = b1 at a1
        generalize imin (x.Parts.length : Int) 5000 = b2 at a2
        generalize imin (x.Name.size : Int) 5000 = b3 at a3
        rw [wrap_succ (i := i) (by omega), wrap_int (z := v + 1) (by omega) (by omega), wrap_int (z := v + 1 + b1) (by omega) (by omega), wrap_int (z := v + 1 + b1 + b2) (by omega) (by omega), wrap_int (z := v + 1 + b1 + b2 + b3) (by omega) (by omega)]
        obtain ⟨r, e, hr⟩ := ih (i + 1) (v + 1 + b1 + b2 + b3) (by omega) (by omega) (by omega) (by omega)
        have mono : v + 1 + b1 + b2 + b3 ≤ 5000 ∨ 5000 < r := by
          by_cases hle : v + 1 + b1 + b2 + b3 ≤ 5000
          · exact .inl hle
          · refine .inr ?_
            cases m with
            | zero => cases e
            | succ m =>
              rw [f1_L0] at e
              by_cases h2 : ((i + 1 : Nat) : Int) < (a.length : Int)
              · rw [← cnd_t (decide_eq_true h2), ← cnd_f (decide_eq_false hle)] at e
                cases e; omega
              · rw [← cnd_f (decide_eq_false h2)] at e
                cases e; omega
        refine ⟨r, e, fun hr5 => ?_⟩
        intro z hz
        rcases mono with hm5 | hm5
        · cases hz with
          | head => exact ⟨a1.2.2 (by omega), a2.2.2 (by omega)⟩
          | tail _ hz => exact hr hr5 z hz
        · omega
      · exact OK_some (fun h => absurd h hv)
    · rw [List.drop_eq_nil_of_le (by omega)]
      exact OK_some (fun _ x hx => nomatch hx)

theorem f1_eq {n : Nat} (hn : 400 ≤ n) {a : List GEdit} (ha : a.length ≤ 300) : OK (fun b => b = true → ∀ x ∈ a, Sml x) (f1 n a 5000) := by
  obtain ⟨n, rfl⟩ : ∃ n', n = n' + 1 := ⟨n - 1, by omega⟩
  rw [f1]
  obtain ⟨r, e, hr⟩ := f1_L0_eq (n := n) ha n 0 0 (by omega) (by omega) (by omega) (by omega)
  refine OK_bnd e ?_
  refine OK_dec (fun h => ?_) (fun h => ?_)
  · exact OK_some (fun _ => hr h)
  · exact OK_some (fun h => by cases h)

theorem f31_L0_eq {n : Nat} {a : List GPoint} (ha : a.length ≤ 5000) : ∀ (m i : Nat), i ≤ a.length → a.length - i < m → f31_L0 n a a m (i : Int) = some (Sum.inr ()) := by
  intro m
  induction m with
  | zero => intro i _ h; omega
  | succ m ih =>
    intro i hi hm
    rw [f31_L0]
    by_cases hlt : i < a.length
    · rw [← cnd_t (decide_eq_true (by omega)), idx_nat, List.getElem?_eq_getElem hlt]
      simp only [bnd, decide_true, cnd]
      rw [wrap_succ (by omega)]
      exact ih (i + 1) (by omega) (by omega)
    · rw [← cnd_f (decide_eq_false (by omega))]

theorem f32_L0_eq {n : Nat} {a : List Int} (ha : a.length ≤ 5000) : ∀ (m i : Nat), i ≤ a.length → a.length - i < m → f32_L0 n a a m (i : Int) = some (Sum.inr ()) := by
  intro m
  induction m with
  | zero => intro i _ h; omega
  | succ m ih =>
    intro i hi hm
    rw [f32_L0]
    by_cases hlt : i < a.length
    · rw [← cnd_t (decide_eq_true (by omega)), idx_nat, List.getElem?_eq_getElem hlt]
      simp only [bnd, bne_self_eq_false, cnd]
      rw [wrap_succ (by omega)]
      exact ih (i + 1) (by omega) (by omega)
    · rw [← cnd_f (decide_eq_false (by omega))]

theorem f31_eq {n : Nat} (hn : 6000 ≤ n) {a : List GPoint} (ha : a.length ≤ 5000) : f31 n a a = some true := by
  obtain ⟨n, rfl⟩ : ∃ n', n = n' + 1 := ⟨n - 1, by omega⟩
  have h := f31_L0_eq (n := n) ha n 0 (by omega) (by omega)
  rw [f31, bne_self_eq_false, cnd_false]
  exact (congrArg (fun o => bnd2 o _ _) h).trans rfl
theorem f32_eq {n : Nat} (hn : 6000 ≤ n) {a : List Int} (ha : a.length ≤ 5000) : f32 n a a = some true := by
  obtain ⟨n, rfl⟩ : ∃ n', n = n' + 1 := ⟨n - 1, by omega⟩
  have h := f32_L0_eq (n := n) ha n 0 (by omega) (by omega)
  rw [f32, bne_self_eq_false, cnd_false]
  exact (congrArg (fun o => bnd2 o _ _) h).trans rfl
theorem f19_eq {n : Nat} (hn : 6001 ≤ n) {x : GEdit} (hx : Sml x) : f19 n x x = some true := by
  obtain ⟨n, rfl⟩ : ∃ n', n = n' + 1 := ⟨n - 1, by omega⟩
  rw [f19]
  simp only [beq_self_eq_true, decide_true, cnd_true, f31_eq (show 6000 ≤ n by omega) hx.1, f32_eq (show 6000 ≤ n by omega) hx.2, bnd]
theorem f5_L0_eq {n : Nat} (hn : 6001 ≤ n) {a : List GEdit} (ha : a.length ≤ 300) (hs : ∀ x ∈ a, Sml x) : ∀ (m i : Nat), i ≤ a.length → a.length - i < m → f5_L0 n a a m (i : Int) = some (Sum.inr ()) := by
  intro m
  induction m with
  | zero => intro i _ h; omega
  | succ m ih =>
    intro i hi hm
    rw [f5_L0]
    by_cases hlt : i < a.length
    · rw [← cnd_t (decide_eq_true (by omega)), idx_nat, List.getElem?_eq_getElem hlt]
      simp only [bnd, f19_eq hn (hs _ (List.getElem_mem hlt)), cnd]
      rw [wrap_succ (by omega)]
      exact ih (i + 1) (by omega) (by omega)
    · rw [← cnd_f (decide_eq_false (by omega))]
theorem f5_eq {n : Nat} (hn : 6002 ≤ n) {a : List GEdit} (ha : a.length ≤ 300) (hs : ∀ x ∈ a, Sml x) : f5 n a a = some true := by
  obtain ⟨n, rfl⟩ : ∃ n', n = n' + 1 := ⟨n - 1, by omega⟩
  have h := f5_L0_eq (n := n) (by omega) ha hs n 0 (by omega) (by omega)
  rw [f5, bne_self_eq_false, cnd_false]
  exact (congrArg (fun o => bnd2 o _ _) h).trans rfl

theorem rep_take {l k s} (h : Rep l k s) : l.take k = s.reverse := h.1
theorem f3_eq {n : Nat} (hn : 401 ≤ n) {a : List GEdit} (ha : a.length ≤ 300) (hs : ∀ x ∈ a, Sml x) : f3 n a = some (a.foldl stp []).reverse := by
  obtain ⟨n, rfl⟩ : ∃ n', n = n' + 1 := ⟨n - 1, by omega⟩
  obtain ⟨r, e, hr⟩ := f3_L0_eq (n := n) (by omega) ha hs n 0 [] 0 [] ⟨rfl, rfl⟩ (Nat.zero_le _) (by omega) (by omega)
  rw [f3]
  refine (congrArg (fun o => bnd o _) e).trans ?_
  exact congrArg some hr.1
theorem f4_eq {n : Nat} (hn : 401 ≤ n) {a : List GEdit} (ha : a.length ≤ 300) : f4 n a = some (a.foldl stp []).reverse := by
  obtain ⟨n, rfl⟩ : ∃ n', n = n' + 1 := ⟨n - 1, by omega⟩
  obtain ⟨r, e, hr⟩ := f4_L0_eq (n := n) (by omega) ha n 0 [] 0 [] ⟨rfl, rfl⟩ (Nat.zero_le _) (by omega) (by omega)
  rw [f4]
  refine (congrArg (fun o => bnd o _) e).trans ?_
  exact congrArg some hr.1

/-! The stack's neighbours cannot be reduced: Compact is idempotent. -/
def irr (y x : GEdit) : Prop := ¬ covP y x ∧ ¬ cancP y x ∧ ¬ joiP y x
def Irr : List GEdit → Prop
  | [] => True
  | x :: s => (∀ y ∈ s.head?, irr y x) ∧ Irr s
theorem Irr.tail {x s} (h : Irr (x :: s)) : Irr s := h.2
theorem Irr.drop {p : GEdit → Bool} : ∀ {s}, Irr s → Irr (s.dropWhile p)
  | [], _ => trivial
  | x :: s, h => by
    unfold List.dropWhile
    split
    · exact Irr.drop h.2
    · exact h
theorem irr_of {y x z : GEdit} (h : irr y x) (hk : z.Kind = x.Kind) (hi : z.ID = x.ID) : irr y z := by
  obtain ⟨h1, h2, h3⟩ := h
  have j3 : ¬ joiP y z := by
    intro hj; apply h3; unfold joiP labP at *; rw [hk, hi] at hj; exact hj
  refine ⟨?_, ?_, j3⟩
  · intro hj; apply h1; unfold covP at *; rw [hk, hi] at hj; exact hj
  · intro hj
    rcases hj with hj | hj
    · exact j3 (.inl hj.1)
    · apply h2; refine .inr ?_; unfold canP at *; rw [hk, hi] at hj; exact hj
theorem stp_def (s : List GEdit) (x : GEdit) : (∃ h : s.dropWhile (fun y => decide (covP y x)) = [], stp s x = [x]) ∨ ∃ y r, s.dropWhile (fun y => decide (covP y x)) = y :: r ∧ stp s x = if cancP y x then r else if joiP y x then jn y x :: r else x :: y :: r := by
  unfold stp
  cases h : s.dropWhile (fun y => decide (covP y x)) with
  | nil => exact .inl ⟨rfl, rfl⟩
  | cons y r => exact .inr ⟨y, r, rfl, rfl⟩
theorem stp_irr {s : List GEdit} {x : GEdit} (h : Irr s) : Irr (stp s x) := by
  rcases stp_def s x with ⟨_, e⟩ | ⟨y, r, e1, e⟩
  · rw [e]; exact ⟨fun y hy => (nomatch hy), trivial⟩
  · have h1 := h.drop (p := fun y => decide (covP y x))
    have hc : ¬ covP y x := by
      have := List.head?_dropWhile_not (fun y => decide (covP y x)) s
      rw [e1] at this
      simpa using this
    rw [e1] at h1
    rw [e]
    split
    · exact h1.2
    · rename_i hcan
      split
      · exact ⟨fun z hz => irr_of (h1.1 z hz) (jn_kind y x) (jn_id y x), h1.2⟩
      · rename_i hj
        refine ⟨fun z hz => ?_, h1⟩
        cases hz
        exact ⟨hc, hcan, hj⟩
theorem stp_len {s : List GEdit} {x : GEdit} : (stp s x).length ≤ s.length + 1 := by
  have hd : (s.dropWhile (fun y => decide (covP y x))).length ≤ s.length := (List.dropWhile_sublist _).length_le
  rcases stp_def s x with ⟨_, e⟩ | ⟨y, r, e1, e⟩
  · rw [e]; simp
  · rw [e1, List.length_cons] at hd
    rw [e]
    split
    · omega
    · split
      · rw [List.length_cons]; omega
      · rw [List.length_cons, List.length_cons]; omega
theorem stp_sml {s : List GEdit} {x : GEdit} (h : ∀ y ∈ s, Sml y) (hx : Sml x) : ∀ y ∈ stp s x, Sml y := by
  have hd : ∀ y ∈ s.dropWhile (fun y => decide (covP y x)), Sml y := fun y hy => h y ((List.dropWhile_sublist _).mem hy)
  rcases stp_def s x with ⟨_, e⟩ | ⟨y, r, e1, e⟩
  · rw [e]; intro y hy; cases hy with
    | head => exact hx
    | tail _ hy => cases hy
  · rw [e1] at hd
    have hy := hd y (.head _)
    have hr : ∀ z ∈ r, Sml z := fun z hz => hd z (.tail _ hz)
    rw [e]
    split
    · exact hr
    · split
      · intro z hz
        cases hz with
        | head =>
          refine ⟨?_, ?_⟩
          · rcases jn_via y x with e | e <;> rw [e]
            · exact hy.1
            · exact hx.1
          · rcases jn_parts y x with e | e <;> rw [e]
            · exact hy.2
            · exact hx.2
        | tail _ hz => exact hr z hz
      · intro z hz
        cases hz with
        | head => exact hx
        | tail _ hz => exact hd z hz
theorem fold_irr : ∀ (a s : List GEdit), Irr s → Irr (a.foldl stp s)
  | [], _, h => h
  | x :: a, s, h => fold_irr a (stp s x) (stp_irr h)
theorem fold_len : ∀ (a s : List GEdit), (a.foldl stp s).length ≤ s.length + a.length
  | [], _ => Nat.le_refl _
  | x :: a, s => by
    have h1 := fold_len a (stp s x)
    have h2 := stp_len (s := s) (x := x)
    rw [List.foldl_cons, List.length_cons]; omega
theorem fold_sml : ∀ (a s : List GEdit), (∀ y ∈ s, Sml y) → (∀ y ∈ a, Sml y) → ∀ y ∈ a.foldl stp s, Sml y
  | [], _, h, _ => h
  | x :: a, s, h, ha => fold_sml a (stp s x) (stp_sml h (ha x (.head _))) (fun y hy => ha y (.tail _ hy))
theorem fold_idem : ∀ (s : List GEdit), Irr s → s.reverse.foldl stp [] = s
  | [], _ => rfl
  | x :: s, h => by
    rw [List.reverse_cons, List.foldl_append, fold_idem s h.2, List.foldl_cons, List.foldl_nil]
    cases s with
    | nil => rfl
    | cons y r =>
      have hi := h.1 y rfl
      unfold stp
      rw [List.dropWhile_cons_of_neg (by simpa using hi.1)]
      dsimp only
      rw [if_neg hi.2.1, if_neg hi.2.2]

theorem law_plain (l : List GEdit) : f0 20001 l = some true := by
  have h2 : f2 20000 = some true := by unfold f2; exact if_pos (by omega)
  suffices h : OK (fun b => b = true) (f0 20001 l) by
    obtain ⟨r, e, rfl⟩ := h; exact e
  rw [f0]
  refine OK_dec (fun h => ?_) (fun h => ?_)
  · refine OK_bnd h2 ?_
    exact OK_some rfl
  · have hl : l.length ≤ 300 := by omega
    obtain ⟨b, e, hb⟩ := f1_eq (n := 20000) (by omega) hl
    refine OK_bnd e ?_
    cases b with
    | false => exact OK_bnd h2 (OK_some rfl)
    | true =>
      have hs := hb rfl
      have ho := fold_sml l [] (fun y hy => nomatch hy) hs
      have hlen := fold_len l []
      have hirr := fold_irr l [] trivial
      rw [List.length_nil] at hlen
      have hrl : (l.foldl stp []).reverse.length ≤ 300 := by rw [List.length_reverse]; omega
      have hrs : ∀ y ∈ (l.foldl stp []).reverse, Sml y := fun y hy => ho y (List.mem_reverse.1 hy)
      refine OK_bnd (f3_eq (by omega) hl hs) ?_
      refine OK_bnd (f4_eq (by omega) hl) ?_
      refine OK_bnd (f5_eq (by omega) hrl hrs) ?_
      refine OK_dec (fun h => ?_) (fun h => ?_)
      · refine OK_bnd (f3_eq (by omega) hrl hrs) ?_
        rw [fold_idem _ hirr]
        refine OK_bnd (f5_eq (by omega) hrl hrs) ?_
        exact OK_bnd h2 (OK_some rfl)
      · rw [List.length_reverse] at h; omega
end Go.Proofs.YtanonfpdkoijnaaGreatDoor.Av
