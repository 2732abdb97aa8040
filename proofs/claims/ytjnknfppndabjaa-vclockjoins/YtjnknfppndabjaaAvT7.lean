/- A part of the proof of VclockJoinsSaid: an evaluator of the program, proved sound, and what it says. -/
import Derived.Test.YtjnknfppndabjaaAvT6
namespace Go.Proofs.Ytjnknfppndabjaa.Av
open Go
set_option linter.unusedSimpArgs false
set_option linter.unusedVariables false

/-! ### lists by their indices -/
def tab {α : Type} (g : Nat → α) (i : Nat) : List α := (List.range i).map g
theorem tab_succ {α : Type} (g : Nat → α) (i : Nat) : tab g (i + 1) = tab g i ++ [g i] := by simp [tab, List.range_succ]
theorem tab_len {α : Type} (g : Nat → α) (i : Nat) : (tab g i).length = i := by simp [tab]
theorem tab_get {α : Type} (g : Nat → α) {i j : Nat} (h : j < i) : (tab g i)[j]? = some (g j) := by simp [tab, h]
theorem map_tab {α β : Type} (d : α) (g : α → β) (l : List α) : l.map g = tab (fun j => g (l.getD j d)) l.length := by
  apply List.ext_getElem?
  intro i
  rcases Nat.lt_or_ge i l.length with h | h
  · rw [tab_get _ h]
    simp [h]
  · rw [List.getElem?_eq_none (by simpa using h), List.getElem?_eq_none (by simpa [tab_len] using h)]
theorem map_get {α β : Type} (d : α) (g : α → β) {l : List α} {i : Nat} (h : i < l.length) : (l.map g)[i]? = some (g (l.getD i d)) := by simp [h]
theorem tab_congr {α : Type} {g g' : Nat → α} {i : Nat} (h : ∀ j, j < i → g j = g' j) : tab g i = tab g' i :=
  List.map_congr_left fun j hj => h j (by simpa using hj)

/-! ### operations -/
section
variable {cf : Nat → Nat → List AV → Heap → Option (AV × Heap)} {fl : Nat} {H : Heap}
theorem ib_lss_t {a b : Int} (h : a < b) : ibA .lss (iv a) (iv b) = some (bv true) := by simp [ibA, ibinV, h]
theorem ib_lss_f {a b : Int} (h : ¬ a < b) : ibA .lss (iv a) (iv b) = some (bv false) := by simp [ibA, ibinV]; omega
theorem ib_leq_t {a b : Int} (h : a ≤ b) : ibA .leq (iv a) (iv b) = some (bv true) := by simp [ibA, ibinV, h]
theorem ib_leq_f {a b : Int} (h : ¬ a ≤ b) : ibA .leq (iv a) (iv b) = some (bv false) := by simp [ibA, ibinV]; omega
theorem ib_geq_t {a b : Int} (h : b ≤ a) : ibA .geq (iv a) (iv b) = some (bv true) := by simp [ibA, ibinV, h]
theorem ib_geq_f {a b : Int} (h : ¬ b ≤ a) : ibA .geq (iv a) (iv b) = some (bv false) := by simp [ibA, ibinV]; omega
theorem ib_eql_v {a b : Int} {c : Bool} (h : (a == b) = c) : ibA .eql (iv a) (iv b) = some (bv c) := by simp [ibA, ibinV, h]
theorem ib_neq_f {a b : Int} (h : a = b) : ibA .neq (iv a) (iv b) = some (bv false) := by simp [ibA, ibinV, h]
theorem ib_add {a b c : Int} (h : a + b = c) (h1 : -9223372036854775808 ≤ c) (h2 : c ≤ 9223372036854775807) : ibA .add (iv a) (iv b) = some (iv c) := by
  simp [ibA, ibinV, h, wrap_id h1 h2]
theorem ib_sub {a b c : Int} (h : a - b = c) (h1 : -9223372036854775808 ≤ c) (h2 : c ≤ 9223372036854775807) : ibA .sub (iv a) (iv b) = some (iv c) := by
  simp [ibA, ibinV, h, wrap_id h1 h2]
theorem len_sl {f : Bool} {es : List (List AV)} {m : Nat} (h : es.length = m) : evOp PP cf fl (.lenS (.tmp 0)) [.sl f es] H = some (iv m, H) := by
  subst h; rfl
end

theorem pv_evF {P : Program} {T : List AFun} {n vi : Nat} {args : List AV} {r r' : AV} {H' : Heap} (h : evF P T n 0 vi args [] = some (r, H')) (hs : seal3 H' 0 r = r') : pv P T n vi args = some r' := by
  unfold pv; rw [h, ← hs]

theorem seal_ms {H : Heap} {id s tot : Nat} {es : List (List AV)} (h : H[id]? = some (.blk s es)) (hl : es.length = tot) (hs : ∀ e ∈ es, e.map (sealC H 0 5) = e) : seal3 H 0 (.ms id tot 0 tot) = .sl false es := by
  simp only [seal3, seal2, seal1, Nat.not_lt_zero, if_false, sealDepth, sealC, Nat.zero_le, if_true, rd, h, hl, List.drop_zero]
  rw [List.take_of_length_le (by omega)]
  congr 1
  conv => rhs; rw [← List.map_id es]
  exact List.map_congr_left hs

/-! ### marks and transactions -/
abbrev Tx := Int × Int × Int
def encM (m : Int × Int) : List AV := [iv m.1, iv m.2]
def encT (t : Tx) : List AV := [iv t.1, iv t.2.1, iv t.2.2, .lit (.string ⟨#[]⟩), .lit nilS]
def tx3 (l : List (Int × Int)) : List Tx := tab (fun j => ((l.getD j (0, 0)).1, (l.getD j (0, 0)).2, (j : Int))) l.length

theorem few_pv (n : Nat) (hn : 1 ≤ n) (f g : Bool) (a b : List (List AV)) : pv PP T n 15 [.sl f a, .sl g b] = some (bv (decide (a.length ≤ 60 ∧ b.length ≤ 60))) := by
  obtain ⟨n, rfl⟩ : ∃ m, n = m + 1 := ⟨n - 1, by omega⟩
  rw [pv_at F15 rfl]
  have e : ∀ l : List (List AV), ((l.length : Int) ≤ 60) = (l.length ≤ 60) := fun l => by apply propext; omega
  by_cases h1 : a.length ≤ 60 <;> by_cases h2 : b.length ≤ 60 <;> simp only [List.getElem?_cons_zero, List.getElem?_cons_succ, List.getElem?_nil, evC_skip, evC_region, evC_seq, evC_cond, evC_block, evC_loop, evC_exit, evC_ret, evC_frz, evOps, evOper, evOp, getOpd, putA, wantA, List.replicate, List.length, List.cons_append, List.nil_append, List.set, cellsOf, ibinV, ldCells, stCells, splice, List.take, List.drop, scalarB, natOf, finA, sealO, retsA, evRet, packA, nextIs, callA_pv, callA_im, plainAll, plain2, plain1, plainL, seal3, seal2, seal1, fillA, fillE, Nat.reduceAdd, Nat.reduceLeDiff, Nat.reduceSub, Nat.reduceEqDiff, Nat.reduceLT, Bool.not_true, Bool.not_false, if_true, if_false, ite_true, ite_false, Bool.false_eq_true, reduceIte, List.map, Nat.reduceMul, beq_tf, beq_ft, beq_tt, beq_ff, Nat.not_lt_zero, decide_true, decide_false, Nat.zero_add, Nat.add_zero, Nat.le_refl, Nat.zero_le, List.append_nil, Option.getD, lits, litL, pr_not, pr_neg, pr_max, pr_seq, pr_sne, pr_gs, pr_gb, notNil, headSt, maskO, maskL, not_true_eq_false, not_false_eq_true, Nat.lt_irrefl, true_and, and_true, and_self, Nat.lt_add_one, reduceCtorEq, F15, e, h1, h2, and_false, false_and]

theorem few_nil_pv (n : Nat) (hn : 1 ≤ n) (f : Bool) (a : List (List AV)) : pv PP T n 15 [.sl f a, .lit nilS] = some (bv (decide (a.length ≤ 60))) := by
  obtain ⟨n, rfl⟩ : ∃ m, n = m + 1 := ⟨n - 1, by omega⟩
  rw [pv_at F15 rfl]
  have e : ∀ l : List (List AV), ((l.length : Int) ≤ 60) = (l.length ≤ 60) := fun l => by apply propext; omega
  by_cases h1 : a.length ≤ 60 <;> simp only [List.getElem?_cons_zero, List.getElem?_cons_succ, List.getElem?_nil, evC_skip, evC_region, evC_seq, evC_cond, evC_block, evC_loop, evC_exit, evC_ret, evC_frz, evOps, evOper, evOp, getOpd, putA, wantA, List.replicate, List.length, List.cons_append, List.nil_append, List.set, cellsOf, ibinV, ldCells, stCells, splice, List.take, List.drop, scalarB, natOf, finA, sealO, retsA, evRet, packA, nextIs, callA_pv, callA_im, plainAll, plain2, plain1, plainL, seal3, seal2, seal1, fillA, fillE, Nat.reduceAdd, Nat.reduceLeDiff, Nat.reduceSub, Nat.reduceEqDiff, Nat.reduceLT, Bool.not_true, Bool.not_false, if_true, if_false, ite_true, ite_false, Bool.false_eq_true, reduceIte, List.map, Nat.reduceMul, beq_tf, beq_ft, beq_tt, beq_ff, Nat.not_lt_zero, decide_true, decide_false, Nat.zero_add, Nat.add_zero, Nat.le_refl, Nat.zero_le, List.append_nil, Option.getD, lits, litL, pr_not, pr_neg, pr_max, pr_seq, pr_sne, pr_gs, pr_gb, notNil, headSt, maskO, maskL, not_true_eq_false, not_false_eq_true, Nat.lt_irrefl, true_and, and_true, and_self, Nat.lt_add_one, reduceCtorEq, F15, e, h1, nilS]
  · rfl

def txS (f : Bool) (l : List (Int × Int)) (i : Nat) : St :=
  ⟨[.sl f (l.map encM), .undef, .undef, .ms 0 i 0 i, iv (i : Nat), .undef, .undef, .undef, .undef, .undef, .undef, .undef, .undef, .undef, .undef, .undef, .undef, .undef, .undef, .undef, .undef, .undef, .undef, .undef, .undef, .undef, .undef], [.blk 5 (tab (fun j => encT ((l.getD j (0, 0)).1, (l.getD j (0, 0)).2, (j : Int))) i)]⟩
def txE (f : Bool) (l : List (Int × Int)) (i : Nat) : St :=
  ⟨[.sl f (l.map encM), .undef, .undef, .ms 0 i 0 i, iv (i : Nat), iv (i : Nat), .sl f (l.map encM), iv (i : Nat), bv false, .undef, .undef, .undef, .undef, .undef, .undef, .undef, .undef, .undef, .undef, .undef, .undef, .undef, .undef, .undef, .undef, .undef, .undef], [.blk 5 (tab (fun j => encT ((l.getD j (0, 0)).1, (l.getD j (0, 0)).2, (j : Int))) i)]⟩

theorem txns_pv (n : Nat) (f : Bool) (l : List (Int × Int)) (hl : l.length ≤ 1000) (hn : l.length + 3 ≤ n) : pv PP T n 7 [.sl f (l.map encM)] = some (.sl false ((tx3 l).map encT)) := by
  obtain ⟨n, rfl⟩ : ∃ m, n = m + 1 := ⟨n - 1, by omega⟩
  have hlen : ∀ H : Heap, evOp PP (evF PP T n) 0 (.lenS (.tmp 0)) [.sl f (l.map encM)] H = some (iv (l.length : Nat), H) := fun H => len_sl (by simp)
  have hs : ∀ i, i < l.length → nextIs (headSt (some [true, false, false, true, true]) false 0 1) (evC PP (evF PP T n) n 0 L7_0 (txS f l i)) (txS f l (i + 1)) := by
    intro i hi
    have h1 := hlen [.blk 5 (tab (fun j => encT ((l.getD j (0, 0)).1, (l.getD j (0, 0)).2, (j : Int))) i)]
    have h2 := ib_lss_t (a := (i : Nat)) (b := (l.length : Nat)) (by omega)
    have h3 := idx_sl (H := [.blk 5 (tab (fun j => encT ((l.getD j (0, 0)).1, (l.getD j (0, 0)).2, (j : Int))) i)]) (f := f) (i := (i : Nat)) rfl (map_get (0, 0) encM hi) (s := 2) rfl
    have h4 := appendA_ms (fl := 0) (id := 0) (s := 5) (bytes := 64) (tot := i) (H := [.blk 5 (tab (fun j => encT ((l.getD j (0, 0)).1, (l.getD j (0, 0)).2, (j : Int))) i)])
      (ys := [encT ((l.getD i (0, 0)).1, (l.getD i (0, 0)).2, (i : Int))]) rfl (tab_len _ _) rfl (by omega) rfl (by simp [room]; omega) (by omega)
    rw [← tab_succ] at h4
    have h5 := ib_add (a := (i : Nat)) (b := 1) (c := (i + 1 : Nat)) (by omega) (by omega) (by omega)
    exact next_o ⟨[(7, iv (l.length : Nat), none), (8, bv true, none), (14, .rptr (encM (l.getD i (0, 0))), none), (19, .rptr (encM (l.getD i (0, 0))), none), (25, .ms 0 (i + 1) 0 (i + 1), some [.blk 5 (tab (fun j => encT ((l.getD j (0, 0)).1, (l.getD j (0, 0)).2, (j : Int))) (i + 1))]), (10, iv (i + 1 : Nat), none)], []⟩ [] []
      (ps := [PropOf h5, PropOf h4, PropOf h3, PropOf h3, PropOf h2, PropOf h1]) (by kernel_rfl) ⟨h5, h4, h3, h3, h2, h1, trivial⟩
  have he : evC PP (evF PP T n) n 0 L7_0 (txS f l l.length) = some (.exit 0, txE f l l.length) := by
    have h1 := hlen [.blk 5 (tab (fun j => encT ((l.getD j (0, 0)).1, (l.getD j (0, 0)).2, (j : Int))) l.length)]
    have h2 := ib_lss_f (a := (l.length : Nat)) (b := (l.length : Nat)) (by omega)
    exact exit_o (by simp) ⟨[(7, iv (l.length : Nat), none), (8, bv false, none)], []⟩ [] [] (ps := [PropOf h2, PropOf h1]) (by kernel_rfl) ⟨h2, h1, trivial⟩
  have hloop := evLoopH_run (n := n) (txS f l) (by simp) (by omega) hs he
  refine pv_evF (evF_o (F := F7) ⟨[], []⟩ [(.exit 0, txE f l l.length)] [] rfl (r := .ms 0 l.length 0 l.length) (H' := [.blk 5 (tab (fun j => encT ((l.getD j (0, 0)).1, (l.getD j (0, 0)).2, (j : Int))) l.length)]) (ps := [PropOf hloop]) (by kernel_rfl) ⟨hloop, trivial⟩) ?_
  have e : (tx3 l).map encT = tab (fun j => encT ((l.getD j (0, 0)).1, (l.getD j (0, 0)).2, (j : Int))) l.length := by simp [tx3, tab]
  rw [e]
  refine seal_ms rfl (tab_len _ _) fun x hx => ?_
  simp only [tab, List.mem_map] at hx
  obtain ⟨j, _, rfl⟩ := hx
  rfl

/-! ### the clock of transactions -/
def mem2 (t : List Tx) (o s : Int) : Bool := t.any fun x => x.1 == o && x.2.1 == s
def cOf (t : List Tx) (o : Int) : Int := (((List.range (t.length + 1)).find? fun k => !mem2 t o ((k : Nat) + 1)).getD 0 : Nat)

theorem pigeon (t : List Tx) (o : Int) : ∀ N : Nat, (∀ i : Nat, i < N → mem2 t o (i + 1) = true) → N ≤ t.length := by
  have key : ∀ (N : Nat) (ks : List (Int × Int)), (∀ i : Nat, i < N → (o, (i : Int) + 1) ∈ ks) → N ≤ ks.length := by
    intro N
    induction N with
    | zero => intros; omega
    | succ N ih =>
      intro ks h
      have h1 := h N (by omega)
      have h2 := ih (ks.erase (o, (N : Int) + 1)) fun i hi => (List.mem_erase_of_ne (by intro e; simp only [Prod.mk.injEq] at e; omega)).2 (h i (by omega))
      rw [List.length_erase_of_mem h1] at h2
      have : 0 < ks.length := List.length_pos_of_mem h1
      omega
  intro N h
  have := key N (t.map fun x => (x.1, x.2.1)) fun i hi => by
    have := h i hi
    simp only [mem2, List.any_eq_true, Bool.and_eq_true, beq_iff_eq] at this
    obtain ⟨x, hx, e1, e2⟩ := this
    exact List.mem_map.2 ⟨x, hx, by rw [e1, e2]⟩
  simpa using this

theorem cOf_spec (t : List Tx) (o : Int) : ∃ k : Nat, cOf t o = k ∧ k ≤ t.length ∧ (∀ i : Nat, i < k → mem2 t o (i + 1) = true) ∧ mem2 t o (k + 1) = false := by
  obtain ⟨k, h1, h2, h3⟩ := first_fail (fun i => mem2 t o ((i : Nat) + 1) = true) (t.length + 1)
  have hk : k < t.length + 1 ∧ ¬ mem2 t o ((k : Nat) + 1) = true := by
    rcases h3 with rfl | h3
    · have := pigeon t o _ h2
      omega
    · exact h3
  have hf : (List.range (t.length + 1)).find? (fun k => !mem2 t o ((k : Nat) + 1)) = some k := by
    rw [List.find?_range_eq_some]
    refine ⟨by simpa using hk.2, by simpa using hk.1, fun j hj => by simpa using h2 j hj⟩
  exact ⟨k, by unfold cOf; rw [hf]; rfl, by omega, h2, by simpa using hk.2⟩

theorem cOf_eq {t : List Tx} {o : Int} {k : Nat} (h1 : ∀ i : Nat, i < k → mem2 t o (i + 1) = true) (h2 : mem2 t o (k + 1) = false) : cOf t o = k := by
  obtain ⟨j, e, _, h3, h4⟩ := cOf_spec t o
  rw [e]
  rcases Nat.lt_trichotomy j k with h | h | h
  · rw [h1 j h] at h4; cases h4
  · rw [h]
  · rw [h3 k h] at h2; cases h2

theorem cOf_congr {t u : List Tx} (h : ∀ o s, mem2 t o s = mem2 u o s) (o : Int) : cOf t o = cOf u o := by
  obtain ⟨k, e, _, h1, h2⟩ := cOf_spec u o
  rw [e]
  exact cOf_eq (fun i hi => by rw [h]; exact h1 i hi) (by rw [h]; exact h2)

def clk (t : List Tx) : List Int := trim (valsOf (cOf t) 8)

end Go.Proofs.Ytjnknfppndabjaa.Av
