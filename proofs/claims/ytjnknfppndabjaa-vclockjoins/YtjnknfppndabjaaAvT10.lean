/- A part of the proof of VclockJoinsSaid: an evaluator of the program, proved sound, and what it says. -/
import Derived.Test.YtjnknfppndabjaaAvT9
namespace Go.Proofs.Ytjnknfppndabjaa.Av
open Go
set_option linter.unusedSimpArgs false
set_option linter.unusedVariables false

/-! ### Missing -/
def knw (l : List Int) (t : Tx) : Bool := decide (1 ≤ t.2.1 ∧ t.2.1 ≤ cnt l t.1)
def missAt (l : List Int) (t : List Tx) : Nat → List Tx
  | 0 => []
  | i + 1 => if knw l (t.getD i (0, 0, 0)) then missAt l t i else missAt l t i ++ [t.getD i (0, 0, 0)]
theorem missAt_len (l : List Int) (t : List Tx) : ∀ i, (missAt l t i).length ≤ i
  | 0 => Nat.le_refl _
  | i + 1 => by
    have := missAt_len l t i
    simp only [missAt]
    split
    · omega
    · simp; omega
def miss (l : List Int) (t : List Tx) : List Tx := missAt l t t.length

theorem seal_tx (H : Heap) (d : Nat) (t : Tx) : (encT t).map (sealC H 0 d) = encT t := by
  cases d <;> rfl

def rmH (f : Bool) (l : List Int) (t : List Tx) (i : Nat) : Heap := [.blk 1 [[.sl f (ints l)]], .blk 5 ((missAt l t i).map encT)]
def rmsS (f g : Bool) (l : List Int) (t : List Tx) (i : Nat) : St := ⟨[.undef, .sl g (t.map encT), .ptr 0 1 0 0, .undef, .undef, .ms 1 (missAt l t i).length 0 (missAt l t i).length, iv (i : Nat), .undef, .undef, .undef, .undef, .undef, .undef, .undef, .undef, .undef, .undef, .undef, .undef, .undef, .undef, .undef, .undef, .undef, .undef, .undef, .undef, .undef, .undef, .undef, .undef, .undef, .undef, .undef], rmH f l t i⟩
def rmsE (f g : Bool) (l : List Int) (t : List Tx) (i : Nat) : St := ⟨[.undef, .sl g (t.map encT), .ptr 0 1 0 0, .undef, .undef, .ms 1 (missAt l t i).length 0 (missAt l t i).length, iv (i : Nat), iv (i : Nat), .sl g (t.map encT), iv (t.length : Nat), bv false, .undef, .undef, .undef, .undef, .undef, .undef, .undef, .undef, .undef, .undef, .undef, .undef, .undef, .undef, .undef, .undef, .undef, .undef, .undef, .undef, .undef, .undef, .undef], rmH f l t i⟩

theorem rmissing_pv (n : Nat) (f g : Bool) (l : List Int) (t : List Tx) (ht : t.length ≤ 1000) (hn : t.length + 10 ≤ n) : pv PP T n 22 [cl f l, .sl g (t.map encT)] = some (.sl false ((miss l t).map encT)) := by
  obtain ⟨n, rfl⟩ : ∃ m, n = m + 1 := ⟨n - 1, by omega⟩
  have hlen : ∀ H : Heap, evOp PP (evF PP T n) 0 (.lenS (.tmp 0)) [.sl g (t.map encT)] H = some (iv (t.length : Nat), H) := fun H => len_sl (by simp)
  have hs : ∀ i, i < t.length → nextIs (headSt (some [false, true, true, false, false, true, true]) false 0 2) (evC PP (evF PP T n) n 0 L22_0 (rmsS f g l t i)) (rmsS f g l t (i + 1)) := by
    intro i hi
    have h1 := hlen (rmH f l t i)
    have h2 := ib_lss_t (a := (i : Nat)) (b := (t.length : Nat)) (by omega)
    have h3 := idx_sl (H := rmH f l t i) (f := g) (i := (i : Nat)) rfl (map_get (0, 0, 0) encT hi) (s := 5) rfl
    have h4 := rknows_pv n (by omega) f l (t.getD i (0, 0, 0)).1 (t.getD i (0, 0, 0)).2.1
    have h5 := ib_add (a := (i : Nat)) (b := 1) (c := (i + 1 : Nat)) (by omega) (by omega) (by omega)
    cases hk : knw l (t.getD i (0, 0, 0)) with
    | true =>
      have e : missAt l t (i + 1) = missAt l t i := by simp only [missAt]; rw [if_pos hk]
      have hk' : decide (1 ≤ (t.getD i (0, 0, 0)).2.1 ∧ (t.getD i (0, 0, 0)).2.1 ≤ cnt l (t.getD i (0, 0, 0)).1) = true := hk
      rw [hk'] at h4
      have := next_o (P := PP) (cf := evF PP T n) (lf := n) (fl := 0) (head := headSt (some [false, true, true, false, false, true, true]) false 0 2) (c := L22_0) (st := rmsS f g l t i) ⟨[(9, iv (t.length : Nat), none), (10, bv true, none), (16, .rptr (encT (t.getD i (0, 0, 0))), none), (21, .rptr (encT (t.getD i (0, 0, 0))), none), (24, bv true, none), (12, iv (i + 1 : Nat), none)], []⟩ [] []
        (st' := ⟨[.undef, .sl g (t.map encT), .ptr 0 1 0 0, .undef, .undef, .ms 1 (missAt l t i).length 0 (missAt l t i).length, iv (i + 1 : Nat), .undef, .undef, .undef, .undef, .undef, .undef, .undef, .undef, .undef, .undef, .undef, .undef, .undef, .undef, .undef, .undef, .undef, .undef, .undef, .undef, .undef, .undef, .undef, .undef, .undef, .undef, .undef], rmH f l t i⟩)
        (ps := [PropOf h5, PropOf h4, PropOf h3, PropOf h3, PropOf h2, PropOf h1]) (by kernel_rfl) ⟨h5, h4, h3, h3, h2, h1, trivial⟩
      unfold rmsS rmH
      rw [e]
      exact this
    | false =>
      have e : missAt l t (i + 1) = missAt l t i ++ [t.getD i (0, 0, 0)] := by simp only [missAt]; rw [hk]; rfl
      have hk' : decide (1 ≤ (t.getD i (0, 0, 0)).2.1 ∧ (t.getD i (0, 0, 0)).2.1 ≤ cnt l (t.getD i (0, 0, 0)).1) = false := hk
      rw [hk'] at h4
      have hml := missAt_len l t i
      have h6 := appendA_2 (fl := 0) (id := 1) (s := 5) (bytes := 64) (tot := (missAt l t i).length) (m := (missAt l t (i + 1)).length) (H := rmH f l t i) (ys := [encT (t.getD i (0, 0, 0))]) (zs := (missAt l t (i + 1)).map encT) rfl (by rw [List.length_map]) rfl (by omega) (by rw [e]; simp) (by rw [e]; simp) rfl (by rw [e]; simp [room]; omega) (by omega)
      exact next_o ⟨[(9, iv (t.length : Nat), none), (10, bv true, none), (16, .rptr (encT (t.getD i (0, 0, 0))), none), (21, .rptr (encT (t.getD i (0, 0, 0))), none), (24, bv false, none), (29, .rptr (encT (t.getD i (0, 0, 0))), none), (32, .ms 1 (missAt l t (i + 1)).length 0 (missAt l t (i + 1)).length, some (rmH f l t (i + 1))), (12, iv (i + 1 : Nat), none)], []⟩ [] []
        (ps := [PropOf h5, PropOf h6, PropOf h3, PropOf h4, PropOf h3, PropOf h3, PropOf h2, PropOf h1]) (by kernel_rfl) ⟨h5, h6, h3, h4, h3, h3, h2, h1, trivial⟩
  have he : evC PP (evF PP T n) n 0 L22_0 (rmsS f g l t t.length) = some (.exit 0, rmsE f g l t t.length) := by
    have h1 := hlen (rmH f l t t.length)
    have h2 := ib_lss_f (a := (t.length : Nat)) (b := (t.length : Nat)) (by omega)
    exact exit_o (by simp) ⟨[(9, iv (t.length : Nat), none), (10, bv false, none)], []⟩ [] [] (ps := [PropOf h2, PropOf h1]) (by kernel_rfl) ⟨h2, h1, trivial⟩
  have hloop := evLoopH_run (n := n) (rmsS f g l t) (by simp) (by omega) hs he
  refine pv_evF (evF_o (F := F22) ⟨[], []⟩ [(.exit 0, rmsE f g l t t.length)] [] rfl (r := .ms 1 (missAt l t t.length).length 0 (missAt l t t.length).length) (H' := rmH f l t t.length) (ps := [PropOf hloop]) (by kernel_rfl) ⟨hloop, trivial⟩) ?_
  refine seal_ms rfl (by simp [miss]) fun x hx => ?_
  simp only [List.mem_map] at hx
  obtain ⟨j, _, rfl⟩ := hx
  exact seal_tx _ _ _

theorem listE_pv (n : Nat) (hn : 1 ≤ n) : pv PP T n 27 [.lit nilS] = some (.lit nilS) := by
  obtain ⟨n, rfl⟩ : ∃ m, n = m + 1 := ⟨n - 1, by omega⟩
  exact pv_o (F := F27) ⟨[], []⟩ [] [] rfl (ps := []) (by kernel_rfl) trivial

theorem clean_tx (n : Nat) (l : List Tx) : (l.map encT).map (fun e => e.map (clean1 n)) = l.map encT := by
  simp only [List.map_map]
  exact List.map_congr_left fun t _ => rfl

theorem count_nil_pv (n : Nat) (hn : 2 ≤ n) (o : Int) : pv PP T n 31 [.agg [.lit nilS], iv o] = some (iv 0) := by
  obtain ⟨n, rfl⟩ : ∃ m, n = m + 1 := ⟨n - 1, by omega⟩
  rw [pv_at F31 rfl]
  by_cases h : o < 1
  · simp only [List.getElem?_cons_zero, List.getElem?_cons_succ, List.getElem?_nil, evC_skip, evC_region, evC_seq, evC_cond, evC_block, evC_loop, evC_exit, evC_ret, evC_frz, evOps, evOper, evOp, getOpd, putA, wantA, List.replicate, List.length, List.cons_append, List.nil_append, List.set, cellsOf, ibinV, ldCells, stCells, splice, List.take, List.drop, scalarB, natOf, finA, sealO, retsA, evRet, packA, nextIs, callA_pv, callA_im, plainAll, plain2, plain1, plainL, seal3, seal2, seal1, fillA, fillE, Nat.reduceAdd, Nat.reduceLeDiff, Nat.reduceSub, Nat.reduceEqDiff, Nat.reduceLT, Bool.not_true, Bool.not_false, if_true, if_false, ite_true, ite_false, Bool.false_eq_true, reduceIte, List.map, Nat.reduceMul, beq_tf, beq_ft, beq_tt, beq_ff, Nat.not_lt_zero, decide_true, decide_false, Nat.zero_add, Nat.add_zero, Nat.le_refl, Nat.zero_le, List.append_nil, Option.getD, lits, litL, pr_not, pr_neg, pr_max, pr_seq, pr_sne, pr_gs, pr_gb, notNil, headSt, maskO, maskL, not_true_eq_false, not_false_eq_true, Nat.lt_irrefl, true_and, and_true, and_self, Nat.lt_add_one, reduceCtorEq, F31, h, true_or, nilS]
  by_cases h2 : 8 < o
  · simp only [List.getElem?_cons_zero, List.getElem?_cons_succ, List.getElem?_nil, evC_skip, evC_region, evC_seq, evC_cond, evC_block, evC_loop, evC_exit, evC_ret, evC_frz, evOps, evOper, evOp, getOpd, putA, wantA, List.replicate, List.length, List.cons_append, List.nil_append, List.set, cellsOf, ibinV, ldCells, stCells, splice, List.take, List.drop, scalarB, natOf, finA, sealO, retsA, evRet, packA, nextIs, callA_pv, callA_im, plainAll, plain2, plain1, plainL, seal3, seal2, seal1, fillA, fillE, Nat.reduceAdd, Nat.reduceLeDiff, Nat.reduceSub, Nat.reduceEqDiff, Nat.reduceLT, Bool.not_true, Bool.not_false, if_true, if_false, ite_true, ite_false, Bool.false_eq_true, reduceIte, List.map, Nat.reduceMul, beq_tf, beq_ft, beq_tt, beq_ff, Nat.not_lt_zero, decide_true, decide_false, Nat.zero_add, Nat.add_zero, Nat.le_refl, Nat.zero_le, List.append_nil, Option.getD, lits, litL, pr_not, pr_neg, pr_max, pr_seq, pr_sne, pr_gs, pr_gb, notNil, headSt, maskO, maskL, not_true_eq_false, not_false_eq_true, Nat.lt_irrefl, true_and, and_true, and_self, Nat.lt_add_one, reduceCtorEq, F31, h, h2, true_or, or_true, gt_iff_lt, nilS]
  have h3 : (0 : Int) < o := by omega
  simp only [List.getElem?_cons_zero, List.getElem?_cons_succ, List.getElem?_nil, evC_skip, evC_region, evC_seq, evC_cond, evC_block, evC_loop, evC_exit, evC_ret, evC_frz, evOps, evOper, evOp, getOpd, putA, wantA, List.replicate, List.length, List.cons_append, List.nil_append, List.set, cellsOf, ibinV, ldCells, stCells, splice, List.take, List.drop, scalarB, natOf, finA, sealO, retsA, evRet, packA, nextIs, callA_pv, callA_im, plainAll, plain2, plain1, plainL, seal3, seal2, seal1, fillA, fillE, Nat.reduceAdd, Nat.reduceLeDiff, Nat.reduceSub, Nat.reduceEqDiff, Nat.reduceLT, Bool.not_true, Bool.not_false, if_true, if_false, ite_true, ite_false, Bool.false_eq_true, reduceIte, List.map, Nat.reduceMul, beq_tf, beq_ft, beq_tt, beq_ff, Nat.not_lt_zero, decide_true, decide_false, Nat.zero_add, Nat.add_zero, Nat.le_refl, Nat.zero_le, List.append_nil, Option.getD, lits, litL, pr_not, pr_neg, pr_max, pr_seq, pr_sne, pr_gs, pr_gb, notNil, headSt, maskO, maskL, not_true_eq_false, not_false_eq_true, Nat.lt_irrefl, true_and, and_true, and_self, Nat.lt_add_one, reduceCtorEq, F31, h, h2, h3, true_or, or_true, gt_iff_lt, nilS]

theorem cnt_nil (o : Int) : cnt [] o = 0 := by
  unfold cnt
  split
  · rfl
  · simp

theorem knows_nil_pv (n : Nat) (hn : 3 ≤ n) (o s : Int) : pv PP T n 12 [.agg [.lit nilS], iv o, iv s] = some (bv (decide (1 ≤ s ∧ s ≤ cnt [] o))) := by
  obtain ⟨n, rfl⟩ : ∃ m, n = m + 1 := ⟨n - 1, by omega⟩
  rw [pv_at F12 rfl, cnt_nil]
  have hc := count_nil_pv n (by omega) o
  by_cases h : 1 ≤ s
  · simp only [List.getElem?_cons_zero, List.getElem?_cons_succ, List.getElem?_nil, evC_skip, evC_region, evC_seq, evC_cond, evC_block, evC_loop, evC_exit, evC_ret, evC_frz, evOps, evOper, evOp, getOpd, putA, wantA, List.replicate, List.length, List.cons_append, List.nil_append, List.set, cellsOf, ibinV, ldCells, stCells, splice, List.take, List.drop, scalarB, natOf, finA, sealO, retsA, evRet, packA, nextIs, callA_pv, callA_im, plainAll, plain2, plain1, plainL, seal3, seal2, seal1, fillA, fillE, Nat.reduceAdd, Nat.reduceLeDiff, Nat.reduceSub, Nat.reduceEqDiff, Nat.reduceLT, Bool.not_true, Bool.not_false, if_true, if_false, ite_true, ite_false, Bool.false_eq_true, reduceIte, List.map, Nat.reduceMul, beq_tf, beq_ft, beq_tt, beq_ff, Nat.not_lt_zero, decide_true, decide_false, Nat.zero_add, Nat.add_zero, Nat.le_refl, Nat.zero_le, List.append_nil, Option.getD, lits, litL, pr_not, pr_neg, pr_max, pr_seq, pr_sne, pr_gs, pr_gb, notNil, headSt, maskO, maskL, not_true_eq_false, not_false_eq_true, Nat.lt_irrefl, true_and, and_true, and_self, Nat.lt_add_one, reduceCtorEq, F12, h, hc]
  · simp only [List.getElem?_cons_zero, List.getElem?_cons_succ, List.getElem?_nil, evC_skip, evC_region, evC_seq, evC_cond, evC_block, evC_loop, evC_exit, evC_ret, evC_frz, evOps, evOper, evOp, getOpd, putA, wantA, List.replicate, List.length, List.cons_append, List.nil_append, List.set, cellsOf, ibinV, ldCells, stCells, splice, List.take, List.drop, scalarB, natOf, finA, sealO, retsA, evRet, packA, nextIs, callA_pv, callA_im, plainAll, plain2, plain1, plainL, seal3, seal2, seal1, fillA, fillE, Nat.reduceAdd, Nat.reduceLeDiff, Nat.reduceSub, Nat.reduceEqDiff, Nat.reduceLT, Bool.not_true, Bool.not_false, if_true, if_false, ite_true, ite_false, Bool.false_eq_true, reduceIte, List.map, Nat.reduceMul, beq_tf, beq_ft, beq_tt, beq_ff, Nat.not_lt_zero, decide_true, decide_false, Nat.zero_add, Nat.add_zero, Nat.le_refl, Nat.zero_le, List.append_nil, Option.getD, lits, litL, pr_not, pr_neg, pr_max, pr_seq, pr_sne, pr_gs, pr_gb, notNil, headSt, maskO, maskL, not_true_eq_false, not_false_eq_true, Nat.lt_irrefl, true_and, and_true, and_self, Nat.lt_add_one, reduceCtorEq, F12, h, false_and]

def mH (f : Bool) (l : List Int) (t : List Tx) (i : Nat) : Heap := [.blk 1 [[.sl f (ints l)]], .blk 5 ((missAt l t i).map encT)]
def msS (f g : Bool) (l : List Int) (t : List Tx) (i : Nat) : St := ⟨[.undef, .undef, .ptr 0 1 0 0, .undef, .ms 1 (missAt l t i).length 0 (missAt l t i).length, .undef, .undef, .undef, .undef, .sl g (t.map encT), iv (t.length : Nat), iv (i : Nat), .undef, .undef, .undef, .undef, .undef, .undef, .undef, .undef, .undef, .undef, .undef, .undef, .undef, .undef, .undef, .undef, .undef, .undef, .undef, .undef, .undef, .undef, .undef, .undef, .undef, .undef, .undef, .undef, .undef, .undef, .undef, .undef, .undef, .undef, .undef, .undef, .undef, .undef, .undef, .undef, .undef, .undef, .undef, .undef], mH f l t i⟩
def msE (f g : Bool) (l : List Int) (t : List Tx) (i : Nat) : St := ⟨[.undef, .undef, .ptr 0 1 0 0, .undef, .ms 1 (missAt l t i).length 0 (missAt l t i).length, .undef, .undef, .undef, .undef, .sl g (t.map encT), iv (t.length : Nat), iv (i : Nat), bv false, .undef, .undef, .undef, .undef, .undef, .undef, .undef, .undef, .undef, .undef, .undef, .undef, .undef, .undef, .undef, .undef, .undef, .undef, .undef, .undef, .undef, .undef, .undef, .undef, .undef, .undef, .undef, .undef, .undef, .undef, .undef, .undef, .undef, .undef, .undef, .undef, .undef, .undef, .undef, .undef, .undef, .undef, .undef], mH f l t i⟩

theorem missing_pv (n : Nat) (f g : Bool) (l : List Int) (t : List Tx) (ht : t.length ≤ 1000) (hn : t.length + 10 ≤ n) : pv PP T n 9 [.agg [.sl f (ints l)], .sl g (t.map encT)] = some (.sl false ((miss l t).map encT)) := by
  obtain ⟨n, rfl⟩ : ∃ m, n = m + 1 := ⟨n - 1, by omega⟩
  have hs : ∀ i, i < t.length → nextIs (headSt (some [false, false, true, false, true, false, false, false, false, true, true, true]) true 0 2) (evC PP (evF PP T n) n 0 L9_0 (msS f g l t i)) (msS f g l t (i + 1)) := by
    intro i hi
    have h2 := ib_lss_t (a := (i : Nat)) (b := (t.length : Nat)) (by omega)
    have h3 := idx_sl (H := mH f l t i) (f := g) (i := (i : Nat)) rfl (map_get (0, 0, 0) encT hi) (s := 5) rfl
    have h4 := knows_pv n (by omega) f l (t.getD i (0, 0, 0)).1 (t.getD i (0, 0, 0)).2.1
    have h5 := ib_add (a := (i : Nat)) (b := 1) (c := (i + 1 : Nat)) (by omega) (by omega) (by omega)
    have hcl : ∀ i, ((mH f l t i).drop 0).map (cleanObj 2) = (mH f l t i).drop 0 := by
      intro i
      simp only [mH, List.drop_zero, List.map, cleanObj, clean_tx, clean1]
    cases hk : knw l (t.getD i (0, 0, 0)) with
    | true =>
      have e : missAt l t (i + 1) = missAt l t i := by simp only [missAt]; rw [if_pos hk]
      have hk' : decide (1 ≤ (t.getD i (0, 0, 0)).2.1 ∧ (t.getD i (0, 0, 0)).2.1 ≤ cnt l (t.getD i (0, 0, 0)).1) = true := hk
      rw [hk'] at h4
      have := next_tr (P := PP) (cf := evF PP T n) (lf := n) (fl := 0) (n := 2) (live := some [false, false, true, false, true, false, false, false, false, true, true, true]) (c := L9_0) (st := msS f g l t i) ⟨[(12, bv true, none), (13, .rptr (encT (t.getD i (0, 0, 0))), none), (20, bv true, none), (54, iv (i + 1 : Nat), none)], []⟩ [] []
        (st' := ⟨[.undef, .undef, .ptr 0 1 0 0, .undef, .ms 1 (missAt l t i).length 0 (missAt l t i).length, .undef, .undef, .undef, .undef, .sl g (t.map encT), iv (t.length : Nat), iv (i + 1 : Nat), .undef, .undef, .undef, .undef, .undef, .undef, .undef, .undef, .undef, .undef, .undef, .undef, .undef, .undef, .undef, .undef, .undef, .undef, .undef, .undef, .undef, .undef, .undef, .undef, .undef, .undef, .undef, .undef, .undef, .undef, .undef, .undef, .undef, .undef, .undef, .undef, .undef, .undef, .undef, .undef, .undef, .undef, .undef, .undef], mH f l t i⟩)
        (ps := [PropOf h5, PropOf h4, PropOf h3, PropOf h2]) (by kernel_rfl) ⟨h5, h4, h3, h2, trivial⟩ (by omega) (hcl i)
      unfold msS mH
      rw [e]
      exact this
    | false =>
      have e : missAt l t (i + 1) = missAt l t i ++ [t.getD i (0, 0, 0)] := by simp only [missAt]; rw [hk]; rfl
      have hk' : decide (1 ≤ (t.getD i (0, 0, 0)).2.1 ∧ (t.getD i (0, 0, 0)).2.1 ≤ cnt l (t.getD i (0, 0, 0)).1) = false := hk
      rw [hk'] at h4
      have hml := missAt_len l t i
      have hle := listE_pv n (by omega)
      have hin : evLoopH (headSt (some [false, false, true, false, true, false, true, false, false, true, true, true, false, false, false, false, false, false, false, false, false, false, false, false, false, false, true, true, true]) true 0 3) (evC PP (evF PP T n) n 0 L9_1) n
          (⟨[.undef, .undef, .ptr 0 1 0 0, .undef, .ms 1 (missAt l t i).length 0 (missAt l t i).length, .undef, .ptr 2 1 0 0, .undef, .undef, .sl g (t.map encT), iv (t.length : Nat), iv (i : Nat), .undef, .undef, .undef, .undef, .undef, .undef, .undef, .undef, .undef, .undef, .undef, .undef, .undef, .undef, .lit nilS, iv 0, iv 0, .undef, .undef, .undef, .undef, .undef, .undef, .undef, .undef, .undef, .undef, .undef, .undef, .undef, .undef, .undef, .undef, .undef, .undef, .undef, .undef, .undef, .undef, .undef, .undef, .undef, .undef, .undef], mH f l t i ++ [.blk 5 [encT (t.getD i (0, 0, 0))]]⟩) =
          some (.exit 2, ⟨[.undef, .undef, .ptr 0 1 0 0, .undef, .ms 1 (missAt l t i).length 0 (missAt l t i).length, .undef, .ptr 2 1 0 0, .undef, .undef, .sl g (t.map encT), iv (t.length : Nat), iv (i : Nat), .undef, .undef, .undef, .undef, .undef, .undef, .undef, .undef, .undef, .undef, .undef, .undef, .undef, .undef, .lit nilS, iv 0, iv 0, bv false, .undef, .undef, .undef, .undef, .undef, .undef, .undef, .undef, .undef, .undef, .undef, .undef, .undef, .undef, .undef, .undef, .undef, .undef, .undef, .undef, .undef, .undef, .undef, .undef, .undef, .undef], mH f l t i ++ [.blk 5 [encT (t.getD i (0, 0, 0))]]⟩) := by
        refine evLoopH_run (n := n) (k := 0) (fun _ => _) (by simp) (by omega) (fun j hj => by omega) ?_
        exact exit_o (by simp) ⟨[], []⟩ [] [] (ps := []) (by kernel_rfl) trivial
      have hin' : evLoopH (headSt (some [false, false, true, false, true, false, true, false, false, true, true, true, false, false, false, false, false, false, false, false, false, false, false, false, false, false, true, true, true]) true 0 3) (evC PP (evF PP T n) n 0 L9_1) n
          (headSt (some [false, false, true, false, true, false, true, false, false, true, true, true, false, false, false, false, false, false, false, false, false, false, false, false, false, false, true, true, true]) true 0 3 (⟨[.undef, .undef, .ptr 0 1 0 0, .undef, .ms 1 (missAt l t i).length 0 (missAt l t i).length, .undef, .ptr 2 1 0 0, .undef, .undef, .sl g (t.map encT), iv (t.length : Nat), iv (i : Nat), bv true, .rptr (encT (t.getD i (0, 0, 0))), .agg (encT (t.getD i (0, 0, 0))), .agg [.sl f (ints l)], .ptr 2 1 0 0, iv (t.getD i (0, 0, 0)).1, .ptr 2 1 0 1, iv (t.getD i (0, 0, 0)).2.1, bv false, .ptr 2 1 0 4, .lit nilS, .lit nilS, .ptr 2 1 0 4, .ptr 2 1 0 4, .lit nilS, iv 0, iv 0, .undef, .undef, .undef, .undef, .undef, .undef, .undef, .undef, .undef, .undef, .undef, .undef, .undef, .undef, .undef, .undef, .undef, .undef, .undef, .undef, .undef, .undef, .undef, .undef, .undef, .undef, .undef], mH f l t i ++ [.blk 5 [encT (t.getD i (0, 0, 0))]]⟩)) =
          some (.exit 2, ⟨[.undef, .undef, .ptr 0 1 0 0, .undef, .ms 1 (missAt l t i).length 0 (missAt l t i).length, .undef, .ptr 2 1 0 0, .undef, .undef, .sl g (t.map encT), iv (t.length : Nat), iv (i : Nat), .undef, .undef, .undef, .undef, .undef, .undef, .undef, .undef, .undef, .undef, .undef, .undef, .undef, .undef, .lit nilS, iv 0, iv 0, bv false, .undef, .undef, .undef, .undef, .undef, .undef, .undef, .undef, .undef, .undef, .undef, .undef, .undef, .undef, .undef, .undef, .undef, .undef, .undef, .undef, .undef, .undef, .undef, .undef, .undef, .undef], mH f l t i ++ [.blk 5 [encT (t.getD i (0, 0, 0))]]⟩) := by
        rw [← hin]
        congr 1
        simp only [headSt, if_true, mH, List.cons_append, List.nil_append, List.take, List.drop, List.map, cleanObj, clean_tx, clean1]
        rfl
      have h6 := appendA_2 (fl := 0) (id := 1) (s := 5) (bytes := 64) (tot := (missAt l t i).length) (m := (missAt l t (i + 1)).length) (H := mH f l t i ++ [.blk 5 [encT (t.getD i (0, 0, 0))]]) (ys := [encT (t.getD i (0, 0, 0))]) (zs := (missAt l t (i + 1)).map encT) rfl (by rw [List.length_map]) rfl (by omega) (by rw [e]; simp) (by rw [e]; simp) rfl (by rw [e]; simp [room]; omega) (by omega)
      exact next_tr ⟨[(12, bv true, none), (13, .rptr (encT (t.getD i (0, 0, 0))), none), (20, bv false, none), (23, .lit nilS, none), (53, .ms 1 (missAt l t (i + 1)).length 0 (missAt l t (i + 1)).length, some (mH f l t (i + 1) ++ [.blk 5 [encT (t.getD i (0, 0, 0))]])), (54, iv (i + 1 : Nat), none)], []⟩
        [(.exit 2, ⟨[.undef, .undef, .ptr 0 1 0 0, .undef, .ms 1 (missAt l t i).length 0 (missAt l t i).length, .undef, .ptr 2 1 0 0, .undef, .undef, .sl g (t.map encT), iv (t.length : Nat), iv (i : Nat), .undef, .undef, .undef, .undef, .undef, .undef, .undef, .undef, .undef, .undef, .undef, .undef, .undef, .undef, .lit nilS, iv 0, iv 0, bv false, .undef, .undef, .undef, .undef, .undef, .undef, .undef, .undef, .undef, .undef, .undef, .undef, .undef, .undef, .undef, .undef, .undef, .undef, .undef, .undef, .undef, .undef, .undef, .undef, .undef, .undef], mH f l t i ++ [.blk 5 [encT (t.getD i (0, 0, 0))]]⟩)] []
        (ps := [PropOf h5, PropOf h6, PropOf hin', PropOf hle, PropOf h4, PropOf h3, PropOf h2]) (by kernel_rfl) ⟨h5, h6, hin', hle, h4, h3, h2, trivial⟩ (by omega) (hcl (i + 1))
  have he : evC PP (evF PP T n) n 0 L9_0 (msS f g l t t.length) = some (.exit 0, msE f g l t t.length) := by
    have h2 := ib_lss_f (a := (t.length : Nat)) (b := (t.length : Nat)) (by omega)
    exact exit_o (by simp) ⟨[(12, bv false, none)], []⟩ [] [] (ps := [PropOf h2]) (by kernel_rfl) ⟨h2, trivial⟩
  have hloop := evLoopH_run (n := n) (msS f g l t) (by simp) (by omega) hs he
  have h1 : evOp PP (evF PP T n) 0 (.lenS (.tmp 0)) [.sl g (t.map encT)] (mH f l t 0) = some (iv (t.length : Nat), mH f l t 0) := len_sl (by simp)
  refine pv_evF (evF_o (F := F9) ⟨[(10, iv (t.length : Nat), none)], []⟩ [(.exit 0, msE f g l t t.length)] [] rfl (r := .ms 1 (missAt l t t.length).length 0 (missAt l t t.length).length) (H' := mH f l t t.length) (ps := [PropOf hloop, PropOf h1]) (by kernel_rfl) ⟨hloop, h1, trivial⟩) ?_
  refine seal_ms rfl (by simp [miss]) fun x hx => ?_
  simp only [List.mem_map] at hx
  obtain ⟨j, _, rfl⟩ := hx
  exact seal_tx _ _ _

def mH0 (l : List Int) (t : List Tx) (i : Nat) : Heap := [.blk 1 [[.lit nilS]], .blk 5 ((missAt [] t i).map encT)]
def msS0 (g : Bool) (l : List Int) (t : List Tx) (i : Nat) : St := ⟨[.undef, .undef, .ptr 0 1 0 0, .undef, .ms 1 (missAt [] t i).length 0 (missAt [] t i).length, .undef, .undef, .undef, .undef, .sl g (t.map encT), iv (t.length : Nat), iv (i : Nat), .undef, .undef, .undef, .undef, .undef, .undef, .undef, .undef, .undef, .undef, .undef, .undef, .undef, .undef, .undef, .undef, .undef, .undef, .undef, .undef, .undef, .undef, .undef, .undef, .undef, .undef, .undef, .undef, .undef, .undef, .undef, .undef, .undef, .undef, .undef, .undef, .undef, .undef, .undef, .undef, .undef, .undef, .undef, .undef], mH0 l t i⟩
def msE0 (g : Bool) (l : List Int) (t : List Tx) (i : Nat) : St := ⟨[.undef, .undef, .ptr 0 1 0 0, .undef, .ms 1 (missAt [] t i).length 0 (missAt [] t i).length, .undef, .undef, .undef, .undef, .sl g (t.map encT), iv (t.length : Nat), iv (i : Nat), bv false, .undef, .undef, .undef, .undef, .undef, .undef, .undef, .undef, .undef, .undef, .undef, .undef, .undef, .undef, .undef, .undef, .undef, .undef, .undef, .undef, .undef, .undef, .undef, .undef, .undef, .undef, .undef, .undef, .undef, .undef, .undef, .undef, .undef, .undef, .undef, .undef, .undef, .undef, .undef, .undef, .undef, .undef, .undef], mH0 l t i⟩

theorem missing0_pv (n : Nat) (g : Bool) (l : List Int) (t : List Tx) (ht : t.length ≤ 1000) (hn : t.length + 10 ≤ n) : pv PP T n 9 [.agg [.lit nilS], .sl g (t.map encT)] = some (.sl false ((miss [] t).map encT)) := by
  obtain ⟨n, rfl⟩ : ∃ m, n = m + 1 := ⟨n - 1, by omega⟩
  have hs : ∀ i, i < t.length → nextIs (headSt (some [false, false, true, false, true, false, false, false, false, true, true, true]) true 0 2) (evC PP (evF PP T n) n 0 L9_0 (msS0 g l t i)) (msS0 g l t (i + 1)) := by
    intro i hi
    have h2 := ib_lss_t (a := (i : Nat)) (b := (t.length : Nat)) (by omega)
    have h3 := idx_sl (H := mH0 l t i) (f := g) (i := (i : Nat)) rfl (map_get (0, 0, 0) encT hi) (s := 5) rfl
    have h4 := knows_nil_pv n (by omega) (t.getD i (0, 0, 0)).1 (t.getD i (0, 0, 0)).2.1
    have h5 := ib_add (a := (i : Nat)) (b := 1) (c := (i + 1 : Nat)) (by omega) (by omega) (by omega)
    have hcl : ∀ i, ((mH0 l t i).drop 0).map (cleanObj 2) = (mH0 l t i).drop 0 := by
      intro i
      simp only [mH0, List.drop_zero, List.map, cleanObj, clean_tx, clean1]
    cases hk : knw [] (t.getD i (0, 0, 0)) with
    | true =>
      have e : missAt [] t (i + 1) = missAt [] t i := by simp only [missAt]; rw [if_pos hk]
      have hk' : decide (1 ≤ (t.getD i (0, 0, 0)).2.1 ∧ (t.getD i (0, 0, 0)).2.1 ≤ cnt [] (t.getD i (0, 0, 0)).1) = true := hk
      rw [hk'] at h4
      have := next_tr (P := PP) (cf := evF PP T n) (lf := n) (fl := 0) (n := 2) (live := some [false, false, true, false, true, false, false, false, false, true, true, true]) (c := L9_0) (st := msS0 g l t i) ⟨[(12, bv true, none), (13, .rptr (encT (t.getD i (0, 0, 0))), none), (20, bv true, none), (54, iv (i + 1 : Nat), none)], []⟩ [] []
        (st' := ⟨[.undef, .undef, .ptr 0 1 0 0, .undef, .ms 1 (missAt [] t i).length 0 (missAt [] t i).length, .undef, .undef, .undef, .undef, .sl g (t.map encT), iv (t.length : Nat), iv (i + 1 : Nat), .undef, .undef, .undef, .undef, .undef, .undef, .undef, .undef, .undef, .undef, .undef, .undef, .undef, .undef, .undef, .undef, .undef, .undef, .undef, .undef, .undef, .undef, .undef, .undef, .undef, .undef, .undef, .undef, .undef, .undef, .undef, .undef, .undef, .undef, .undef, .undef, .undef, .undef, .undef, .undef, .undef, .undef, .undef, .undef], mH0 l t i⟩)
        (ps := [PropOf h5, PropOf h4, PropOf h3, PropOf h2]) (by kernel_rfl) ⟨h5, h4, h3, h2, trivial⟩ (by omega) (hcl i)
      unfold msS0 mH0
      rw [e]
      exact this
    | false =>
      have e : missAt [] t (i + 1) = missAt [] t i ++ [t.getD i (0, 0, 0)] := by simp only [missAt]; rw [hk]; rfl
      have hk' : decide (1 ≤ (t.getD i (0, 0, 0)).2.1 ∧ (t.getD i (0, 0, 0)).2.1 ≤ cnt [] (t.getD i (0, 0, 0)).1) = false := hk
      rw [hk'] at h4
      have hml := missAt_len [] t i
      have hle := listE_pv n (by omega)
      have hin : evLoopH (headSt (some [false, false, true, false, true, false, true, false, false, true, true, true, false, false, false, false, false, false, false, false, false, false, false, false, false, false, true, true, true]) true 0 3) (evC PP (evF PP T n) n 0 L9_1) n
          (⟨[.undef, .undef, .ptr 0 1 0 0, .undef, .ms 1 (missAt [] t i).length 0 (missAt [] t i).length, .undef, .ptr 2 1 0 0, .undef, .undef, .sl g (t.map encT), iv (t.length : Nat), iv (i : Nat), .undef, .undef, .undef, .undef, .undef, .undef, .undef, .undef, .undef, .undef, .undef, .undef, .undef, .undef, .lit nilS, iv 0, iv 0, .undef, .undef, .undef, .undef, .undef, .undef, .undef, .undef, .undef, .undef, .undef, .undef, .undef, .undef, .undef, .undef, .undef, .undef, .undef, .undef, .undef, .undef, .undef, .undef, .undef, .undef, .undef], mH0 l t i ++ [.blk 5 [encT (t.getD i (0, 0, 0))]]⟩) =
          some (.exit 2, ⟨[.undef, .undef, .ptr 0 1 0 0, .undef, .ms 1 (missAt [] t i).length 0 (missAt [] t i).length, .undef, .ptr 2 1 0 0, .undef, .undef, .sl g (t.map encT), iv (t.length : Nat), iv (i : Nat), .undef, .undef, .undef, .undef, .undef, .undef, .undef, .undef, .undef, .undef, .undef, .undef, .undef, .undef, .lit nilS, iv 0, iv 0, bv false, .undef, .undef, .undef, .undef, .undef, .undef, .undef, .undef, .undef, .undef, .undef, .undef, .undef, .undef, .undef, .undef, .undef, .undef, .undef, .undef, .undef, .undef, .undef, .undef, .undef, .undef], mH0 l t i ++ [.blk 5 [encT (t.getD i (0, 0, 0))]]⟩) := by
        refine evLoopH_run (n := n) (k := 0) (fun _ => _) (by simp) (by omega) (fun j hj => by omega) ?_
        exact exit_o (by simp) ⟨[], []⟩ [] [] (ps := []) (by kernel_rfl) trivial
      have hin' : evLoopH (headSt (some [false, false, true, false, true, false, true, false, false, true, true, true, false, false, false, false, false, false, false, false, false, false, false, false, false, false, true, true, true]) true 0 3) (evC PP (evF PP T n) n 0 L9_1) n
          (headSt (some [false, false, true, false, true, false, true, false, false, true, true, true, false, false, false, false, false, false, false, false, false, false, false, false, false, false, true, true, true]) true 0 3 (⟨[.undef, .undef, .ptr 0 1 0 0, .undef, .ms 1 (missAt [] t i).length 0 (missAt [] t i).length, .undef, .ptr 2 1 0 0, .undef, .undef, .sl g (t.map encT), iv (t.length : Nat), iv (i : Nat), bv true, .rptr (encT (t.getD i (0, 0, 0))), .agg (encT (t.getD i (0, 0, 0))), .agg [.lit nilS], .ptr 2 1 0 0, iv (t.getD i (0, 0, 0)).1, .ptr 2 1 0 1, iv (t.getD i (0, 0, 0)).2.1, bv false, .ptr 2 1 0 4, .lit nilS, .lit nilS, .ptr 2 1 0 4, .ptr 2 1 0 4, .lit nilS, iv 0, iv 0, .undef, .undef, .undef, .undef, .undef, .undef, .undef, .undef, .undef, .undef, .undef, .undef, .undef, .undef, .undef, .undef, .undef, .undef, .undef, .undef, .undef, .undef, .undef, .undef, .undef, .undef, .undef], mH0 l t i ++ [.blk 5 [encT (t.getD i (0, 0, 0))]]⟩)) =
          some (.exit 2, ⟨[.undef, .undef, .ptr 0 1 0 0, .undef, .ms 1 (missAt [] t i).length 0 (missAt [] t i).length, .undef, .ptr 2 1 0 0, .undef, .undef, .sl g (t.map encT), iv (t.length : Nat), iv (i : Nat), .undef, .undef, .undef, .undef, .undef, .undef, .undef, .undef, .undef, .undef, .undef, .undef, .undef, .undef, .lit nilS, iv 0, iv 0, bv false, .undef, .undef, .undef, .undef, .undef, .undef, .undef, .undef, .undef, .undef, .undef, .undef, .undef, .undef, .undef, .undef, .undef, .undef, .undef, .undef, .undef, .undef, .undef, .undef, .undef, .undef], mH0 l t i ++ [.blk 5 [encT (t.getD i (0, 0, 0))]]⟩) := by
        rw [← hin]
        congr 1
        simp only [headSt, if_true, mH0, List.cons_append, List.nil_append, List.take, List.drop, List.map, cleanObj, clean_tx, clean1]
        rfl
      have h6 := appendA_2 (fl := 0) (id := 1) (s := 5) (bytes := 64) (tot := (missAt [] t i).length) (m := (missAt [] t (i + 1)).length) (H := mH0 l t i ++ [.blk 5 [encT (t.getD i (0, 0, 0))]]) (ys := [encT (t.getD i (0, 0, 0))]) (zs := (missAt [] t (i + 1)).map encT) rfl (by rw [List.length_map]) rfl (by omega) (by rw [e]; simp) (by rw [e]; simp) rfl (by rw [e]; simp [room]; omega) (by omega)
      exact next_tr ⟨[(12, bv true, none), (13, .rptr (encT (t.getD i (0, 0, 0))), none), (20, bv false, none), (23, .lit nilS, none), (53, .ms 1 (missAt [] t (i + 1)).length 0 (missAt [] t (i + 1)).length, some (mH0 l t (i + 1) ++ [.blk 5 [encT (t.getD i (0, 0, 0))]])), (54, iv (i + 1 : Nat), none)], []⟩
        [(.exit 2, ⟨[.undef, .undef, .ptr 0 1 0 0, .undef, .ms 1 (missAt [] t i).length 0 (missAt [] t i).length, .undef, .ptr 2 1 0 0, .undef, .undef, .sl g (t.map encT), iv (t.length : Nat), iv (i : Nat), .undef, .undef, .undef, .undef, .undef, .undef, .undef, .undef, .undef, .undef, .undef, .undef, .undef, .undef, .lit nilS, iv 0, iv 0, bv false, .undef, .undef, .undef, .undef, .undef, .undef, .undef, .undef, .undef, .undef, .undef, .undef, .undef, .undef, .undef, .undef, .undef, .undef, .undef, .undef, .undef, .undef, .undef, .undef, .undef, .undef], mH0 l t i ++ [.blk 5 [encT (t.getD i (0, 0, 0))]]⟩)] []
        (ps := [PropOf h5, PropOf h6, PropOf hin', PropOf hle, PropOf h4, PropOf h3, PropOf h2]) (by kernel_rfl) ⟨h5, h6, hin', hle, h4, h3, h2, trivial⟩ (by omega) (hcl (i + 1))
  have he : evC PP (evF PP T n) n 0 L9_0 (msS0 g l t t.length) = some (.exit 0, msE0 g l t t.length) := by
    have h2 := ib_lss_f (a := (t.length : Nat)) (b := (t.length : Nat)) (by omega)
    exact exit_o (by simp) ⟨[(12, bv false, none)], []⟩ [] [] (ps := [PropOf h2]) (by kernel_rfl) ⟨h2, trivial⟩
  have hloop := evLoopH_run (n := n) (msS0 g l t) (by simp) (by omega) hs he
  have h1 : evOp PP (evF PP T n) 0 (.lenS (.tmp 0)) [.sl g (t.map encT)] (mH0 l t 0) = some (iv (t.length : Nat), mH0 l t 0) := len_sl (by simp)
  refine pv_evF (evF_o (F := F9) ⟨[(10, iv (t.length : Nat), none)], []⟩ [(.exit 0, msE0 g l t t.length)] [] rfl (r := .ms 1 (missAt [] t t.length).length 0 (missAt [] t t.length).length) (H' := mH0 l t t.length) (ps := [PropOf hloop, PropOf h1]) (by kernel_rfl) ⟨hloop, h1, trivial⟩) ?_
  refine seal_ms rfl (by simp [miss]) fun x hx => ?_
  simp only [List.mem_map] at hx
  obtain ⟨j, _, rfl⟩ := hx
  exact seal_tx _ _ _

end Go.Proofs.Ytjnknfppndabjaa.Av
