/- A part of the proof of EditChecksCardSaid. -/
import Derived.Test.YtmflphfmefakfaaGreatDoorVePg
import Derived.Test.YtmflphfmefakfaaGreatDoorVeTl3
set_option linter.all false
namespace Go.Proofs.YtmflphfmefakfaaGreatDoor.Av
open Go Go.IntWalk
set_option linter.unusedVariables false
set_option linter.unusedSimpArgs false
def idB (n : Int) : Bool := decide (1 ≤ n ∧ n ≤ 1073741824)
def ptB (p : GPoint) : Bool := decide (-1048576 ≤ p.X ∧ p.X ≤ 1048576 ∧ -1048576 ≤ p.Y ∧ p.Y ≤ 1048576)
theorem f27_eq (n : Nat) (a : Int) : f27 (n + 1) a = some (idB a) := by
 rw [f27]
 by_cases c1 : a ≥ 1
 ·rw [decide_eq_true c1]
  by_cases c2 : a ≤ 1073741824
  ·rw [decide_eq_true c2]; simp only [cnd, idB]; rw [decide_eq_true ⟨c1, c2⟩]
  ·rw [decide_eq_false c2]; simp only [cnd, idB]; rw [decide_eq_false (fun h => c2 h.2)]
 ·rw [decide_eq_false c1]; simp only [cnd, idB]; rw [decide_eq_false (fun h => c1 h.1)]
theorem f28_eq (n : Nat) (p : GPoint) : f28 (n + 1) p = some (ptB p) := by
 rw [f28]
 by_cases c1 : p.X ≥ -1048576
 ·by_cases c2 : p.X ≤ 1048576
  ·by_cases c3 : p.Y ≥ -1048576
   ·by_cases c4 : p.Y ≤ 1048576
    ·rw [decide_eq_true c1, decide_eq_true c2, decide_eq_true c3, decide_eq_true c4, show ptB p = true from decide_eq_true (by omega)]; rfl
    ·rw [decide_eq_true c1, decide_eq_true c2, decide_eq_true c3, decide_eq_false c4, show ptB p = false from decide_eq_false (by omega)]; rfl
   ·rw [decide_eq_true c1, decide_eq_true c2, decide_eq_false c3, show ptB p = false from decide_eq_false (by omega)]; rfl
  ·rw [decide_eq_true c1, decide_eq_false c2, show ptB p = false from decide_eq_false (by omega)]; rfl
 ·rw [decide_eq_false c1, show ptB p = false from decide_eq_false (by omega)]; rfl
theorem f42_eq (n : Nat) (p : GPoint) : f42 (n + 1) (GBox.mk (-1048576) (-1048576) 1048576 1048576) p = some (ptB p) := by
 rw [f42]
 by_cases c1 : -1048576 ≤ p.X
 ·by_cases c2 : p.X ≤ 1048576
  ·by_cases c3 : -1048576 ≤ p.Y
   ·by_cases c4 : p.Y ≤ 1048576
    ·rw [decide_eq_true c1, decide_eq_true c2, decide_eq_true c3, decide_eq_true c4, show ptB p = true from decide_eq_true (by omega)]; rfl
    ·rw [decide_eq_true c1, decide_eq_true c2, decide_eq_true c3, decide_eq_false c4, show ptB p = false from decide_eq_false (by omega)]; rfl
   ·rw [decide_eq_true c1, decide_eq_true c2, decide_eq_false c3, show ptB p = false from decide_eq_false (by omega)]; rfl
  ·rw [decide_eq_true c1, decide_eq_false c2, show ptB p = false from decide_eq_false (by omega)]; rfl
 ·rw [decide_eq_false c1, show ptB p = false from decide_eq_false (by omega)]; rfl
theorem prd_succ (n : Nat) : prd (n + 1) = some n := rfl
theorem f12_L0_eq (n : Nat) (a : GEdit) : ∀ (d m i : Nat), i + d = a.Via.length → d < m → a.Via.length ≤ 1000 → f12_L0 (n + 1) a m (i : Int) = some (cnd ((a.Via.drop i).all ptB) (.inr ()) (.inl ())) := by
 intro d
 induction d with
 | zero =>
  intro m i hi hm hl
  obtain ⟨m, rfl⟩ : ∃ z, m = z + 1 := ⟨m - 1, by omega⟩
  rw [f12_L0, decide_eq_false (by omega), List.drop_eq_nil_of_le (by omega)]
  rfl
 | succ d ih =>
  intro m i hi hm hl
  obtain ⟨m, rfl⟩ : ∃ z, m = z + 1 := ⟨m - 1, by omega⟩
  have hlt : i < a.Via.length := by omega
  rw [f12_L0, decide_eq_true (by omega), drop_nat hlt]
  simp only [cnd, bnd_of (idx_get hlt), bnd_of (f28_eq n _), wrap_succ (show i < 100000 by omega), ih m (i + 1) (by omega) (by omega) hl, List.all_cons]
  cases ptB a.Via[i] <;> rfl
theorem f12_L1_eq (n : Nat) (a : GEdit) : ∀ (d m i : Nat), i + d = a.Parts.length → d < m → a.Parts.length ≤ 1000 → f12_L1 (n + 1) a m (i : Int) = some (cnd ((a.Parts.drop i).all idB) (.inr ()) (.inl ())) := by
 intro d
 induction d with
 | zero =>
  intro m i hi hm hl
  obtain ⟨m, rfl⟩ : ∃ z, m = z + 1 := ⟨m - 1, by omega⟩
  rw [f12_L1, decide_eq_false (by omega), List.drop_eq_nil_of_le (by omega)]
  rfl
 | succ d ih =>
  intro m i hi hm hl
  obtain ⟨m, rfl⟩ : ∃ z, m = z + 1 := ⟨m - 1, by omega⟩
  have hlt : i < a.Parts.length := by omega
  rw [f12_L1, decide_eq_true (by omega), drop_nat hlt]
  simp only [cnd, bnd_of (idx_get hlt), bnd_of (f27_eq n _), wrap_succ (show i < 100000 by omega), ih m (i + 1) (by omega) (by omega) hl, List.all_cons]
  cases idB a.Parts[i] <;> rfl
theorem f6_I43_L0_eq (n : Nat) (a : GEdit) : ∀ (d m i : Nat), i + d = a.Via.length → d < m → a.Via.length ≤ 1000 →
  ∃ z, f6_I43_L0 (n + 2) a m (i : Int) = some z ∧ (match z with | .inr _ => (a.Via.drop i).all ptB = true | .inl j => (a.Via.drop i).all ptB = false ∧ 0 ≤ j) := by
 intro d
 induction d with
 | zero =>
  intro m i hi hm hl
  obtain ⟨m, rfl⟩ : ∃ z, m = z + 1 := ⟨m - 1, by omega⟩
  rw [f6_I43_L0, decide_eq_false (by omega), List.drop_eq_nil_of_le (by omega)]
  exact ⟨.inr (), rfl, rfl⟩
 | succ d ih =>
  intro m i hi hm hl
  obtain ⟨m, rfl⟩ : ∃ z, m = z + 1 := ⟨m - 1, by omega⟩
  have hlt : i < a.Via.length := by omega
  obtain ⟨z, h1, h2⟩ := ih m (i + 1) (by omega) (by omega) hl
  rw [f6_I43_L0, decide_eq_true (by omega), drop_nat hlt]
  simp only [cnd, bnd_of (idx_get hlt), bnd_of (prd_succ (n + 1)), bnd_of (f42_eq n _), wrap_succ (show i < 100000 by omega), h1, List.all_cons]
  cases ptB a.Via[i] with
  | true => exact ⟨z, rfl, by simpa using h2⟩
  | false => exact ⟨.inl (i : Int), rfl, rfl, by omega⟩
theorem f6_I44_L0_eq (n : Nat) (a : GEdit) : ∀ (d m i : Nat), i + d = a.Parts.length → d < m → a.Parts.length ≤ 1000 →
  ∃ z, f6_I44_L0 (n + 2) a m (i : Int) = some z ∧ (match z with | .inr _ => (a.Parts.drop i).all idB = true | .inl j => (a.Parts.drop i).all idB = false ∧ 0 ≤ j) := by
 intro d
 induction d with
 | zero =>
  intro m i hi hm hl
  obtain ⟨m, rfl⟩ : ∃ z, m = z + 1 := ⟨m - 1, by omega⟩
  rw [f6_I44_L0, decide_eq_false (by omega), List.drop_eq_nil_of_le (by omega)]
  exact ⟨.inr (), rfl, rfl⟩
 | succ d ih =>
  intro m i hi hm hl
  obtain ⟨m, rfl⟩ : ∃ z, m = z + 1 := ⟨m - 1, by omega⟩
  have hlt : i < a.Parts.length := by omega
  obtain ⟨z, h1, h2⟩ := ih m (i + 1) (by omega) (by omega) hl
  rw [f6_I44_L0, decide_eq_true (by omega), drop_nat hlt]
  simp only [cnd, bnd_of (idx_get hlt), bnd_of (prd_succ (n + 1)), bnd_of (prd_succ n), wrap_succ (show i < 100000 by omega), h1, List.all_cons]
  by_cases c1 : 1 ≤ a.Parts[i]
  ·by_cases c2 : a.Parts[i] ≤ 1073741824
   ·rw [decide_eq_true c1, decide_eq_true c2, show idB a.Parts[i] = true from decide_eq_true ⟨c1, c2⟩]
    exact ⟨z, rfl, by simpa using h2⟩
   ·rw [decide_eq_true c1, decide_eq_false c2, show idB a.Parts[i] = false from decide_eq_false (fun h => c2 h.2)]
    exact ⟨.inl (i : Int), rfl, rfl, by omega⟩
  ·rw [decide_eq_false c1, show idB a.Parts[i] = false from decide_eq_false (fun h => c1 h.1)]
   exact ⟨.inl (i : Int), rfl, rfl, by omega⟩
def tailB (a : GEdit) : Bool := a.Via.all ptB && a.Parts.all idB
def rangB (a : GEdit) : Bool :=
 idB a.ID && ((if a.Kind = 4 then idB a.A && idB a.B else if a.Kind = 12 then idB a.A else if a.Kind = 7 ∨ a.Kind = 10 then decide (1 ≤ a.B ∧ a.B ≤ 9) else true) && (decide (-1073741824 ≤ a.C ∧ a.C ≤ 1073741824) && (ptB a.At && tailB a)))
theorem tail6 (n : Nat) (a : GEdit) (hn : 100 ≤ n) (hv : a.Via.length ≤ 64) (hp : a.Parts.length ≤ 64) :
  (bnd (prd n) fun n1 => bnd (prd n1) fun n2 => bnd2 (f6_I43_L0 n2 a n2 0) (fun v => cnd (decide (v ≥ 0)) (some false) (bnd (prd n) fun n3 => bnd (prd n3) fun n4 => bnd2 (f6_I44_L0 n4 a n4 0) (fun v => cnd (decide (v ≥ 0)) (some false) (some true)) (fun _ => some true))) (fun _ => bnd (prd n) fun n3 => bnd (prd n3) fun n4 => bnd2 (f6_I44_L0 n4 a n4 0) (fun v => cnd (decide (v ≥ 0)) (some false) (some true)) (fun _ => some true))) = some (tailB a) := by
 obtain ⟨n, rfl⟩ : ∃ z, n = z + 4 := ⟨n - 4, by omega⟩
 obtain ⟨z, h1, h2⟩ := f6_I43_L0_eq n a a.Via.length (n + 2) 0 (by omega) (by omega) (by omega)
 obtain ⟨y, g1, g2⟩ := f6_I44_L0_eq n a a.Parts.length (n + 2) 0 (by omega) (by omega) (by omega)
 have h1' : f6_I43_L0 (n + 2) a (n + 2) 0 = some z := h1
 have g1' : f6_I44_L0 (n + 2) a (n + 2) 0 = some y := g1
 rw [List.drop_zero] at h2 g2
 simp only [bnd_of (prd_succ (n + 3)), bnd_of (prd_succ (n + 2)), h1', g1', tailB]
 cases z with
 | inl j =>
  simp only at h2
  simp only [bnd2]
  rw [decide_eq_true (show j ≥ 0 from h2.2), h2.1]; rfl
 | inr u =>
  simp only at h2
  simp only [bnd2]
  rw [h2]
  cases y with
  | inl j =>
   simp only at g2
   rw [g2.1]
   simp only
   rw [decide_eq_true (show j ≥ 0 from g2.2)]; rfl
  | inr u => simp only at g2; rw [g2]; rfl
theorem tail12 (n : Nat) (a : GEdit) (hn : 100 ≤ n) (hv : a.Via.length ≤ 64) (hp : a.Parts.length ≤ 64) :
  bnd2 (f12_L0 n a n 0) (fun _ => some false) (fun _ => bnd2 (f12_L1 n a n 0) (fun _ => some false) (fun _ => bnd (f28 n a.At) fun v => cnd v (some true) (some false))) = some (ptB a.At && tailB a) := by
 obtain ⟨n, rfl⟩ : ∃ z, n = z + 1 := ⟨n - 1, by omega⟩
 have h1 := f12_L0_eq n a a.Via.length (n + 1) 0 (by omega) (by omega) (by omega)
 have g1 := f12_L1_eq n a a.Parts.length (n + 1) 0 (by omega) (by omega) (by omega)
 have h1' : f12_L0 (n + 1) a (n + 1) 0 = _ := h1
 have g1' : f12_L1 (n + 1) a (n + 1) 0 = _ := g1
 rw [List.drop_zero] at h1' g1'
 rw [h1', g1', f28_eq, tailB]
 cases a.Via.all ptB <;> cases a.Parts.all idB <;> cases ptB a.At <;> rfl
end Go.Proofs.YtmflphfmefakfaaGreatDoor.Av
namespace Go.Proofs.YtmflphfmefakfaaGreatDoor.Av
open Go Go.IntWalk
set_option linter.unusedVariables false
set_option linter.unusedSimpArgs false
theorem ite_k (p : Prop) [Decidable p] {α : Type} (a b c : α) (h1 : p → a = c) (h2 : ¬ p → b = c) : (if p then a else b) = c := by
 split
 ·exact h1 (by assumption)
 ·exact h2 (by assumption)
theorem f6_eq (n : Nat) (a : GEdit) (hn : 200 ≤ n) (hv : a.Via.length ≤ 64) (hp : a.Parts.length ≤ 64) : f6 n a = some (rangB a) := by
 obtain ⟨z, rfl⟩ : ∃ z, n = z + 1 := ⟨n - 1, by omega⟩
 rw [f6]
 simp only [tail6 z a (by omega) hv hp]
 obtain ⟨y, rfl⟩ : ∃ y, z = y + 2 := ⟨z - 2, by omega⟩
 simp only [bnd_of (prd_succ (y + 1)), bnd_of (f42_eq y _), cnd_ite, decide_eq_true_eq, beq_iff_eq]
 cases hpt : ptB a.At <;> cases htl : tailB a <;>
 (repeat' (apply ite_k <;> intro _)) <;> simp_all [rangB, idB] <;> omega
theorem f12_eq (n : Nat) (a : GEdit) (hn : 200 ≤ n) (hv : a.Via.length ≤ 64) (hp : a.Parts.length ≤ 64) : f12 n a = some (rangB a) := by
 obtain ⟨z, rfl⟩ : ∃ z, n = z + 1 := ⟨n - 1, by omega⟩
 rw [f12]
 simp only [tail12 z a (by omega) hv hp]
 obtain ⟨y, rfl⟩ : ∃ y, z = y + 1 := ⟨z - 1, by omega⟩
 simp only [bnd_of (f27_eq y _), cnd_ite, decide_eq_true_eq, beq_iff_eq]
 cases hpt : ptB a.At <;> cases htl : tailB a <;>
 (repeat' (apply ite_k <;> intro _)) <;> simp_all [rangB, idB] <;> omega
end Go.Proofs.YtmflphfmefakfaaGreatDoor.Av
namespace Go.Proofs.YtmflphfmefakfaaGreatDoor.Av
open Go Go.IntWalk
set_option linter.unusedVariables false
set_option linter.unusedSimpArgs false
def bareB (a : GEdit) : Bool :=
 (decide (a.Kind = 1 ∨ a.Kind = 3) || decide (a.At = GPoint.mk 0 0)) && ((decide (a.Kind = 4 ∨ a.Kind = 7 ∨ a.Kind = 12) || decide (a.A = 0)) && ((decide (a.Kind = 4 ∨ a.Kind = 7 ∨ a.Kind = 10) || decide (a.B = 0)) && ((decide (a.Kind = 4) || decide (a.C = 0)) &&
  ((decide (a.Kind = 4 ∨ a.Kind = 6) || decide (a.Via.length = 0)) && ((decide (a.Kind = 7 ∨ a.Kind = 9) || decide (a.Name = (⟨#[]⟩ : ByteArray))) && (decide (a.Kind = 7 ∨ a.Kind = 11) || decide (a.Parts.length = 0)))))))
theorem len_pos (n : Nat) : decide (((n : Nat) : Int) > 0) = !decide (n = 0) := by
 by_cases h : n = 0
 ·subst h; rfl
 ·rw [decide_eq_true (by omega), decide_eq_false h]; rfl
theorem len_zero (n : Nat) : (((n : Nat) : Int) == 0) = decide (n = 0) := by
 rw [Bool.eq_iff_iff, beq_iff_eq, decide_eq_true_eq]; omega
theorem bne_dec (a : Int) : (a != 0) = !decide (a = 0) := by
 by_cases h : a = 0
 ·subst h; rfl
 ·rw [decide_eq_false h, bne_iff_ne.2 h]; rfl
theorem kind_cases (k : Int) : k = 1 ∨ k = 3 ∨ k = 4 ∨ k = 6 ∨ k = 7 ∨ k = 9 ∨ k = 10 ∨ k = 11 ∨ k = 12 ∨ (k ≠ 1 ∧ k ≠ 3 ∧ k ≠ 4 ∧ k ≠ 6 ∧ k ≠ 7 ∧ k ≠ 9 ∧ k ≠ 10 ∧ k ≠ 11 ∧ k ≠ 12) := by omega
set_option maxHeartbeats 4000000 in
theorem f5_eq (n : Nat) (a : GEdit) : f5 (n + 1) a = some (!bareB a) := by
 rw [f5]
 simp only [len_pos, bne_dec, bareB]
 generalize decide (a.A = 0) = bA
 generalize decide (a.B = 0) = bB
 generalize decide (a.C = 0) = bC
 generalize decide (a.At = GPoint.mk 0 0) = bT
 generalize decide (a.Name = (⟨#[]⟩ : ByteArray)) = bN
 generalize decide (a.Via.length = 0) = bV
 generalize decide (a.Parts.length = 0) = bP
 generalize a.Kind = k
 rcases kind_cases k with rfl | rfl | rfl | rfl | rfl | rfl | rfl | rfl | rfl | ⟨h1, h2, h3, h4, h5, h6, h7, h8, h9⟩
 iterate 9 (simp [cnd]; cases bA <;> cases bB <;> cases bC <;> cases bT <;> cases bN <;> cases bV <;> cases bP <;> rfl)
 have e : ∀ c : Int, k ≠ c → (k == c) = false := fun c h => beq_eq_false_iff_ne.2 h
 simp only [e _ h1, e _ h2, e _ h3, e _ h4, e _ h5, e _ h6, e _ h7, e _ h8, e _ h9, cnd]
 simp only [h1, h2, h3, h4, h5, h6, h7, h8, h9, or_self, decide_false, Bool.false_or]
 cases bA <;> cases bB <;> cases bC <;> cases bT <;> cases bN <;> cases bV <;> cases bP <;> rfl
end Go.Proofs.YtmflphfmefakfaaGreatDoor.Av
namespace Go.Proofs.YtmflphfmefakfaaGreatDoor.Av
open Go Go.IntWalk
set_option linter.unusedVariables false
set_option linter.unusedSimpArgs false
theorem prdk_of {k n : Nat} (h : k ≤ n) : prdk k n = some (n - k) := by rw [prdk, if_pos h]
theorem f11_l0 (n : Nat) (a : GEdit) : f11 n a (⟨#[]⟩ : ByteArray) = f11_0 n a := by
 rw [f11]
 rw [if_pos rfl]
theorem f11_l1 (n : Nat) (a : GEdit) : f11 n a (⟨#[116]⟩ : ByteArray) = f11_1 n a := by
 rw [f11]
 rw [if_neg (by decide)]
 rw [if_pos rfl]
theorem f11_l2 (n : Nat) (a : GEdit) : f11 n a (⟨#[97, 98, 99, 118]⟩ : ByteArray) = f11_2 n a := by
 rw [f11]
 rw [if_neg (by decide)]
 rw [if_neg (by decide)]
 rw [if_pos rfl]
theorem f11_l3 (n : Nat) (a : GEdit) : f11 n a (⟨#[118]⟩ : ByteArray) = f11_3 n a := by
 rw [f11]
 rw [if_neg (by decide)]
 rw [if_neg (by decide)]
 rw [if_neg (by decide)]
 rw [if_pos rfl]
theorem f11_l4 (n : Nat) (a : GEdit) : f11 n a (⟨#[97, 98, 110, 112]⟩ : ByteArray) = f11_4 n a := by
 rw [f11]
 rw [if_neg (by decide)]
 rw [if_neg (by decide)]
 rw [if_neg (by decide)]
 rw [if_neg (by decide)]
 rw [if_pos rfl]
theorem f11_l5 (n : Nat) (a : GEdit) : f11 n a (⟨#[110]⟩ : ByteArray) = f11_5 n a := by
 rw [f11]
 rw [if_neg (by decide)]
 rw [if_neg (by decide)]
 rw [if_neg (by decide)]
 rw [if_neg (by decide)]
 rw [if_neg (by decide)]
 rw [if_pos rfl]
theorem f11_l6 (n : Nat) (a : GEdit) : f11 n a (⟨#[98]⟩ : ByteArray) = f11_6 n a := by
 rw [f11]
 rw [if_neg (by decide)]
 rw [if_neg (by decide)]
 rw [if_neg (by decide)]
 rw [if_neg (by decide)]
 rw [if_neg (by decide)]
 rw [if_neg (by decide)]
 rw [if_pos rfl]
theorem f11_l7 (n : Nat) (a : GEdit) : f11 n a (⟨#[112]⟩ : ByteArray) = f11_7 n a := by
 rw [f11]
 rw [if_neg (by decide)]
 rw [if_neg (by decide)]
 rw [if_neg (by decide)]
 rw [if_neg (by decide)]
 rw [if_neg (by decide)]
 rw [if_neg (by decide)]
 rw [if_neg (by decide)]
 rw [if_pos rfl]
theorem f11_l8 (n : Nat) (a : GEdit) : f11 n a (⟨#[97]⟩ : ByteArray) = f11_8 n a := by
 rw [f11]
 rw [if_neg (by decide)]
 rw [if_neg (by decide)]
 rw [if_neg (by decide)]
 rw [if_neg (by decide)]
 rw [if_neg (by decide)]
 rw [if_neg (by decide)]
 rw [if_neg (by decide)]
 rw [if_neg (by decide)]
 rw [if_pos rfl]
set_option maxHeartbeats 4000000 in
theorem f11_eq (n : Nat) (a : GEdit) (hn : 20 ≤ n) : ∃ s, f10 n a.Kind = some s ∧ f11 n a s = some (bareB a) := by
 obtain ⟨n, rfl⟩ : ∃ z, n = z + 1 := ⟨n - 1, by omega⟩
 rcases kind_cases a.Kind with h | h | h | h | h | h | h | h | h | ⟨h1, h2, h3, h4, h5, h6, h7, h8, h9⟩
 ·refine ⟨(⟨#[116]⟩ : ByteArray), by rw [f10, h]; rfl, ?_⟩
  rw [f11_l1, f11_1, prdk_of (show 2 ≤ n by omega)]
  simp only [bnd, len_zero, bne_dec, bareB, h]
  generalize decide (a.A = 0) = bA
  generalize decide (a.B = 0) = bB
  generalize decide (a.C = 0) = bC
  generalize decide (a.At = GPoint.mk 0 0) = bT
  generalize decide (a.Name = (⟨#[]⟩ : ByteArray)) = bN
  generalize decide (a.Via.length = 0) = bV
  generalize decide (a.Parts.length = 0) = bP
  simp
  cases bA <;> cases bB <;> cases bC <;> cases bT <;> cases bN <;> cases bV <;> cases bP <;> rfl
 ·refine ⟨(⟨#[116]⟩ : ByteArray), by rw [f10, h]; rfl, ?_⟩
  rw [f11_l1, f11_1, prdk_of (show 2 ≤ n by omega)]
  simp only [bnd, len_zero, bne_dec, bareB, h]
  generalize decide (a.A = 0) = bA
  generalize decide (a.B = 0) = bB
  generalize decide (a.C = 0) = bC
  generalize decide (a.At = GPoint.mk 0 0) = bT
  generalize decide (a.Name = (⟨#[]⟩ : ByteArray)) = bN
  generalize decide (a.Via.length = 0) = bV
  generalize decide (a.Parts.length = 0) = bP
  simp
  cases bA <;> cases bB <;> cases bC <;> cases bT <;> cases bN <;> cases bV <;> cases bP <;> rfl
 ·refine ⟨(⟨#[97, 98, 99, 118]⟩ : ByteArray), by rw [f10, h]; rfl, ?_⟩
  rw [f11_l2, f11_2, prdk_of (show 5 ≤ n by omega)]
  simp only [bnd, len_zero, bne_dec, bareB, h]
  generalize decide (a.A = 0) = bA
  generalize decide (a.B = 0) = bB
  generalize decide (a.C = 0) = bC
  generalize decide (a.At = GPoint.mk 0 0) = bT
  generalize decide (a.Name = (⟨#[]⟩ : ByteArray)) = bN
  generalize decide (a.Via.length = 0) = bV
  generalize decide (a.Parts.length = 0) = bP
  simp
  cases bA <;> cases bB <;> cases bC <;> cases bT <;> cases bN <;> cases bV <;> cases bP <;> rfl
 ·refine ⟨(⟨#[118]⟩ : ByteArray), by rw [f10, h]; rfl, ?_⟩
  rw [f11_l3, f11_3, prdk_of (show 2 ≤ n by omega)]
  simp only [bnd, len_zero, bne_dec, bareB, h]
  generalize decide (a.A = 0) = bA
  generalize decide (a.B = 0) = bB
  generalize decide (a.C = 0) = bC
  generalize decide (a.At = GPoint.mk 0 0) = bT
  generalize decide (a.Name = (⟨#[]⟩ : ByteArray)) = bN
  generalize decide (a.Via.length = 0) = bV
  generalize decide (a.Parts.length = 0) = bP
  simp
  cases bA <;> cases bB <;> cases bC <;> cases bT <;> cases bN <;> cases bV <;> cases bP <;> rfl
 ·refine ⟨(⟨#[97, 98, 110, 112]⟩ : ByteArray), by rw [f10, h]; rfl, ?_⟩
  rw [f11_l4, f11_4, prdk_of (show 5 ≤ n by omega)]
  simp only [bnd, len_zero, bne_dec, bareB, h]
  generalize decide (a.A = 0) = bA
  generalize decide (a.B = 0) = bB
  generalize decide (a.C = 0) = bC
  generalize decide (a.At = GPoint.mk 0 0) = bT
  generalize decide (a.Name = (⟨#[]⟩ : ByteArray)) = bN
  generalize decide (a.Via.length = 0) = bV
  generalize decide (a.Parts.length = 0) = bP
  simp
  cases bA <;> cases bB <;> cases bC <;> cases bT <;> cases bN <;> cases bV <;> cases bP <;> rfl
 ·refine ⟨(⟨#[110]⟩ : ByteArray), by rw [f10, h]; rfl, ?_⟩
  rw [f11_l5, f11_5, prdk_of (show 2 ≤ n by omega)]
  simp only [bnd, len_zero, bne_dec, bareB, h]
  generalize decide (a.A = 0) = bA
  generalize decide (a.B = 0) = bB
  generalize decide (a.C = 0) = bC
  generalize decide (a.At = GPoint.mk 0 0) = bT
  generalize decide (a.Name = (⟨#[]⟩ : ByteArray)) = bN
  generalize decide (a.Via.length = 0) = bV
  generalize decide (a.Parts.length = 0) = bP
  simp
  cases bA <;> cases bB <;> cases bC <;> cases bT <;> cases bN <;> cases bV <;> cases bP <;> rfl
 ·refine ⟨(⟨#[98]⟩ : ByteArray), by rw [f10, h]; rfl, ?_⟩
  rw [f11_l6, f11_6, prdk_of (show 2 ≤ n by omega)]
  simp only [bnd, len_zero, bne_dec, bareB, h]
  generalize decide (a.A = 0) = bA
  generalize decide (a.B = 0) = bB
  generalize decide (a.C = 0) = bC
  generalize decide (a.At = GPoint.mk 0 0) = bT
  generalize decide (a.Name = (⟨#[]⟩ : ByteArray)) = bN
  generalize decide (a.Via.length = 0) = bV
  generalize decide (a.Parts.length = 0) = bP
  simp
  cases bA <;> cases bB <;> cases bC <;> cases bT <;> cases bN <;> cases bV <;> cases bP <;> rfl
 ·refine ⟨(⟨#[112]⟩ : ByteArray), by rw [f10, h]; rfl, ?_⟩
  rw [f11_l7, f11_7, prdk_of (show 2 ≤ n by omega)]
  simp only [bnd, len_zero, bne_dec, bareB, h]
  generalize decide (a.A = 0) = bA
  generalize decide (a.B = 0) = bB
  generalize decide (a.C = 0) = bC
  generalize decide (a.At = GPoint.mk 0 0) = bT
  generalize decide (a.Name = (⟨#[]⟩ : ByteArray)) = bN
  generalize decide (a.Via.length = 0) = bV
  generalize decide (a.Parts.length = 0) = bP
  simp
  cases bA <;> cases bB <;> cases bC <;> cases bT <;> cases bN <;> cases bV <;> cases bP <;> rfl
 ·refine ⟨(⟨#[97]⟩ : ByteArray), by rw [f10, h]; rfl, ?_⟩
  rw [f11_l8, f11_8, prdk_of (show 2 ≤ n by omega)]
  simp only [bnd, len_zero, bne_dec, bareB, h]
  generalize decide (a.A = 0) = bA
  generalize decide (a.B = 0) = bB
  generalize decide (a.C = 0) = bC
  generalize decide (a.At = GPoint.mk 0 0) = bT
  generalize decide (a.Name = (⟨#[]⟩ : ByteArray)) = bN
  generalize decide (a.Via.length = 0) = bV
  generalize decide (a.Parts.length = 0) = bP
  simp
  cases bA <;> cases bB <;> cases bC <;> cases bT <;> cases bN <;> cases bV <;> cases bP <;> rfl
 ·refine ⟨(⟨#[]⟩ : ByteArray), ?_, ?_⟩
  ·have e : ∀ c : Int, a.Kind ≠ c → (a.Kind == c) = false := fun c h => beq_eq_false_iff_ne.2 h
   rw [f10]
   simp only [e _ h1, e _ h2, e _ h3, e _ h4, e _ h5, e _ h6, e _ h7, e _ h8, e _ h9, cnd]
  rw [f11_l0, f11_0, prdk_of (show 1 ≤ n by omega)]
  simp only [bnd, len_zero, bne_dec, bareB, h1, h2, h3, h4, h5, h6, h7, h8, h9, or_self, decide_false, Bool.false_or]
  generalize decide (a.A = 0) = bA
  generalize decide (a.B = 0) = bB
  generalize decide (a.C = 0) = bC
  generalize decide (a.At = GPoint.mk 0 0) = bT
  generalize decide (a.Name = (⟨#[]⟩ : ByteArray)) = bN
  generalize decide (a.Via.length = 0) = bV
  generalize decide (a.Parts.length = 0) = bP
  cases bA <;> cases bB <;> cases bC <;> cases bT <;> cases bN <;> cases bV <;> cases bP <;> rfl
end Go.Proofs.YtmflphfmefakfaaGreatDoor.Av
namespace Go.Proofs.YtmflphfmefakfaaGreatDoor.Av
open Go Go.IntWalk
set_option linter.unusedVariables false
set_option linter.unusedSimpArgs false
theorem f2_L0_eq (n n' : Nat) (a : GEdit) : ∀ (m : Nat) (i : Int), f2_L0 n a m i = f7_L0 n' a.Parts m i
 | 0, i => rfl
 | m + 1, i => by simp only [f2_L0, f7_L0, f2_L0_eq n n' a m]
theorem f7_L0_tot (n : Nat) (l : List Int) : ∀ (d m i : Nat), i + d = l.length → d < m → l.length ≤ 1000 → 1 ≤ i → ∃ z, f7_L0 n l m (i : Int) = some z := by
 intro d
 induction d with
 | zero =>
  intro m i hi hm hl h1
  obtain ⟨m, rfl⟩ : ∃ z, m = z + 1 := ⟨m - 1, by omega⟩
  rw [f7_L0, decide_eq_false (by omega)]
  exact ⟨_, rfl⟩
 | succ d ih =>
  intro m i hi hm hl h1
  obtain ⟨m, rfl⟩ : ∃ z, m = z + 1 := ⟨m - 1, by omega⟩
  have hlt : i < l.length := by omega
  have hlt' : i - 1 < l.length := by omega
  obtain ⟨z, hz⟩ := ih m (i + 1) (by omega) (by omega) hl (by omega)
  rw [f7_L0, decide_eq_true (by omega)]
  simp only [cnd, bnd_of (idx_get hlt), wrap_pred (show i < 100000 by omega) h1, bnd_of (idx_get hlt'), wrap_succ (show i < 100000 by omega), hz]
  cases decide (l[i - 1] ≥ l[i]) with
  | true => exact ⟨_, rfl⟩
  | false => exact ⟨_, rfl⟩
theorem f7_tot (n : Nat) (l : List Int) (hn : 100 ≤ n) (hl : l.length ≤ 64) : ∃ z, f7_L0 n l n 1 = some z := by
 rcases Nat.eq_zero_or_pos l.length with h | h
 ·obtain ⟨n, rfl⟩ : ∃ z, n = z + 1 := ⟨n - 1, by omega⟩
  rw [f7_L0, decide_eq_false (by omega)]
  exact ⟨_, rfl⟩
 ·exact f7_L0_tot n l (l.length - 1) n 1 (by omega) (by omega) (by omega) (by omega)
theorem tails (n : Nat) (a : GEdit) (hn : 300 ≤ n) : ∃ v : Int,
  (bnd (f5 n a) fun v1 => (cnd v1 (some 1) (cnd (decide (((a.Via.length : Nat) : Int) > 64)) (some 3) (cnd (decide (((a.Parts.length : Nat) : Int) > 64)) (some 3) (bnd (f6 n a) fun v2 => (cnd v2 (bnd (f7 n a.Parts) fun v3 => (cnd v3 (cnd (decide (a.Name = (⟨#[]⟩ : ByteArray))) (some 0) (bnd (f8 n a.Name) fun v4 => (cnd (v4 != 0) (some 14) (some 0)))) (some 10))) (some 2))))))) = some v ∧
  (bnd (f10 n a.Kind) fun v1 => (bnd (f11 n a v1) fun v2 => (cnd v2 (cnd (decide (((a.Via.length : Nat) : Int) > 64)) (some 3) (cnd (decide (((a.Parts.length : Nat) : Int) > 64)) (some 3) (bnd (f12 n a) fun v3 => (cnd v3 (bnd2 (f2_L0 n a n 1) (fun _ => (some 10)) (fun _ => (cnd (decide (a.Name = (⟨#[]⟩ : ByteArray))) (some 0) (bnd (f13 n a.Name) fun v4 => (cnd (v4 != 0) (some 14) (some 0)))))) (some 2))))) (some 1)))) = some v := by
 obtain ⟨s, h1, h2⟩ := f11_eq n a (by omega)
 obtain ⟨m, rfl⟩ : ∃ z, n = z + 1 := ⟨n - 1, by omega⟩
 rw [f5_eq, h1]
 simp only [bnd, h2]
 cases hb : bareB a with
 | false => exact ⟨1, rfl, rfl⟩
 | true =>
  simp only [Bool.not_true, cnd]
  by_cases c1 : ((a.Via.length : Nat) : Int) > 64
  ·rw [decide_eq_true c1]; exact ⟨3, rfl, rfl⟩
  ·rw [decide_eq_false c1]
   by_cases c2 : ((a.Parts.length : Nat) : Int) > 64
   ·rw [decide_eq_true c2]; exact ⟨3, rfl, rfl⟩
   ·rw [decide_eq_false c2]
    simp only [f6_eq (m + 1) a (by omega) (by omega) (by omega), f12_eq (m + 1) a (by omega) (by omega) (by omega), f8_eq (m + 1) (by omega) a.Name, f13_eq (m + 1) (by omega) a.Name]
    cases rangB a with
    | false => exact ⟨2, rfl, rfl⟩
    | true =>
     obtain ⟨z, hz⟩ := f7_tot m a.Parts (by omega) (by omega)
     obtain ⟨y, hy⟩ := f7_tot (m + 1) a.Parts (by omega) (by omega)
     have hyz : y = z := by
      have key : ∀ (k : Nat) (i : Int) (r : Unit ⊕ Unit), f7_L0 m a.Parts k i = some r → f7_L0 (m + 1) a.Parts (k + 1) i = some r := by
       intro k
       induction k with
       | zero => intro i r h; cases h
       | succ k ih =>
        intro i r h
        rw [f7_L0] at h ⊢
        cases hi : decide (i < ((a.Parts.length : Nat) : Int)) with
        | false => rw [hi] at h; exact h
        | true =>
         rw [hi] at h
         simp only [cnd] at h ⊢
         obtain ⟨x, e1, h⟩ := bnd_some h
         obtain ⟨x', e2, h⟩ := bnd_some h
         rw [bnd_of e1, bnd_of e2]
         cases hd : decide (x ≥ x') with
         | true => rw [hd] at h; exact h
         | false => rw [hd] at h; exact ih _ _ h
      have := key m 1 z hz
      rw [hy] at this
      exact Option.some.inj this
     subst hyz
     rw [f7, hz, f2_L0_eq (m + 1) (m + 1) a, hy]
     cases y with
     | inl u => exact ⟨10, rfl, rfl⟩
     | inr u =>
      simp only [bnd2]
      cases decide (a.Name = (⟨#[]⟩ : ByteArray)) with
      | true => exact ⟨0, rfl, rfl⟩
      | false =>
       simp only
       cases (nameE a.Name != 0) with
       | true => exact ⟨14, rfl, rfl⟩
       | false => exact ⟨0, rfl, rfl⟩
theorem f9_f4 (n : Nat) (k : Int) : f9 n k = f4 n k := by cases n <;> rfl
theorem f4_tot (n : Nat) (k : Int) : ∃ v, f4 (n + 1) k = some v := by
 simp only [f4, cnd_ite]
 repeat' split
 all_goals exact ⟨_, rfl⟩
theorem checks (n : Nat) (a : GEdit) (hn : 400 ≤ n) : ∃ v, f1 n a = some v ∧ f2 n a = some v := by
 obtain ⟨n, rfl⟩ : ∃ z, n = z + 1 := ⟨n - 1, by omega⟩
 obtain ⟨v, t1, t2⟩ := tails n a (by omega)
 rw [f1, f2, t1, t2]
 cases decide (a.Kind < 1) with
 | true => exact ⟨9, rfl, rfl⟩
 | false =>
  cases decide (a.Kind > 12) with
  | true => exact ⟨9, rfl, rfl⟩
  | false =>
   cases (a.Kind == 7) with
   | false => exact ⟨v, rfl, rfl⟩
   | true =>
    obtain ⟨m, rfl⟩ : ∃ z, n = z + 1 := ⟨n - 1, by omega⟩
    obtain ⟨w, hw⟩ := f4_tot m a.A
    simp only [cnd, f9_f4, hw, bnd]
    cases (w == 0) with
    | true => exact ⟨9, rfl, rfl⟩
    | false => exact ⟨v, rfl, rfl⟩
theorem law_plain (a : GEdit) : f0 20000 a = some true := by
 obtain ⟨v, h1, h2⟩ := checks 19999 a (by omega)
 rw [f0, h1, h2]
 have h3 : f3 19999 = some true := by unfold f3; rw [if_pos (by omega)]
 simp only [bnd, h3, beq_self_eq_true, cnd]
end Go.Proofs.YtmflphfmefakfaaGreatDoor.Av
