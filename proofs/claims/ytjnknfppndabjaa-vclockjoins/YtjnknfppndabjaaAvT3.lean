/- A part of the proof of VclockJoinsSaid: an evaluator of the program, proved sound, and what it says. -/
import Derived.Test.YtjnknfppndabjaaAvT2
namespace Go.Proofs.Ytjnknfppndabjaa.Av
open Go
set_option linter.unusedSimpArgs false
set_option linter.unusedVariables false

def trim (l : List Int) : List Int := (l.reverse.dropWhile fun x => decide (x = 0)).reverse

theorem trim_nil : trim [] = [] := rfl
theorem trim_snoc (l : List Int) (x : Int) : trim (l ++ [x]) = if x = 0 then trim l else l ++ [x] := by
  unfold trim
  by_cases h : x = 0 <;> simp [h, List.dropWhile_cons]

theorem trim_spec (l : List Int) : ∃ k, l = trim l ++ List.replicate k 0 ∧ (trim l = [] ∨ ∃ t x, trim l = t ++ [x] ∧ x ≠ 0) := by
  have key : ∀ r : List Int, ∃ k, r.reverse = trim r.reverse ++ List.replicate k 0 ∧ (trim r.reverse = [] ∨ ∃ t x, trim r.reverse = t ++ [x] ∧ x ≠ 0) := by
    intro r
    induction r with
    | nil => exact ⟨0, rfl, .inl rfl⟩
    | cons x r ih =>
      obtain ⟨k, h1, h2⟩ := ih
      simp only [List.reverse_cons, trim_snoc]
      by_cases h : x = 0
      · subst h
        simp only [if_true]
        refine ⟨k + 1, ?_, h2⟩
        rw [List.replicate_succ', ← List.append_assoc, ← h1]
      · simp only [h, if_false]
        exact ⟨0, by simp, .inr ⟨r.reverse, x, rfl, h⟩⟩
  have := key l.reverse
  simpa using this

theorem trim_len (l : List Int) : (trim l).length ≤ l.length := by
  obtain ⟨k, h, _⟩ := trim_spec l
  have := congrArg List.length h
  simp at this
  omega

theorem ints_take (l : List Int) (k : Nat) : (ints l).take k = ints (l.take k) := by simp [ints, List.map_take]
theorem ints_app (l m : List Int) : ints l ++ ints m = ints (l ++ m) := by simp [ints]
theorem ints_rep (k : Nat) (n : Int) : List.replicate k [AV.lit (.int .i64 n)] = ints (List.replicate k n) := by simp [ints]
theorem ints_headLen (l : List Int) : headLen 1 (ints l) = true := by cases l <;> rfl
theorem ints_allLen (l : List Int) : allLen 1 (ints l) = true := by simp [allLen, ints]
theorem ints_toP (l : List Int) : (ints l).map (fun e => e.map toP) = ints l := by
  simp [ints, toP]

def rshS (l : List Int) (i : Nat) : St := ⟨[.sl false (ints (l.take (l.length - i))), .undef, .ptr 0 1 0 0, .undef, .undef, .undef, .undef, .undef, .undef, .undef, .undef, .undef, .undef, .undef, .undef, .undef, .undef, .undef, .undef, .undef, .undef, .undef], [AObj.blk 1 [[.lit nilS]]]⟩

theorem rshort_pv (n : Nat) (l : List Int) (hl : l.length ≤ 60) (hn : 63 ≤ n) : pv PP T n 34 [.sl false (ints l)] = some (.agg [.sl false (ints (trim l))]) := by
  obtain ⟨n, rfl⟩ : ∃ m, n = m + 1 := ⟨n - 1, by omega⟩
  rw [pv_at F34 rfl]
  obtain ⟨k, h1, h2⟩ := trim_spec l
  generalize hT : trim l = t at h1 h2
  have hlen : l.length = t.length + k := by rw [h1]; simp
  simp only [List.getElem?_cons_zero, List.getElem?_cons_succ, List.getElem?_nil, evC_skip, evC_region, evC_seq, evC_cond, evC_block, evC_loop, evC_exit, evC_ret, evC_frz, evOps, evOper, evOp, getOpd, putA, wantA, List.replicate, List.length, List.cons_append, List.nil_append, List.set, cellsOf, ibinV, ldCells, stCells, splice, List.take, List.drop, scalarB, natOf, finA, sealO, retsA, evRet, packA, nextIs, callA_pv, callA_im, plainAll, plain2, plain1, plainL, seal3, seal2, seal1, fillA, fillE, Nat.reduceAdd, Nat.reduceLeDiff, Nat.reduceSub, Nat.reduceEqDiff, Nat.reduceLT, Bool.not_true, Bool.not_false, if_true, if_false, ite_true, ite_false, Bool.false_eq_true, reduceIte, List.map, Nat.reduceMul, beq_tf, beq_ft, beq_tt, beq_ff, Nat.not_lt_zero, decide_true, decide_false, Nat.zero_add, Nat.add_zero, Nat.le_refl, Nat.zero_le, List.append_nil, Option.getD, lits, litL, pr_not, pr_neg, pr_max, pr_seq, pr_sne, pr_gs, pr_gb, notNil, headSt, maskO, maskL, not_true_eq_false, not_false_eq_true, Nat.lt_irrefl, true_and, and_true, and_self, Nat.lt_add_one, reduceCtorEq, F34]
  have htake : ∀ i, i ≤ k → l.take (l.length - i) = t ++ List.replicate (k - i) 0 := by
    intro i hi
    rw [hlen, h1, List.take_append, List.take_of_length_le (by omega), List.take_replicate]
    congr 2
    omega
  have hs : ∀ i, i < k → nextIs (headSt (some [true, false, true]) false 0 1) (evC PP (evF PP T n) n 0 L34_0 (rshS l i)) (rshS l (i + 1)) := by
    intro i hi
    have hL : (l.take (l.length - i)).length = l.length - i := by simp
    have h5 : ((l.length - i : Nat) : Int) > 0 := by omega
    have hw : IntKind.i64.wrap (((l.length - i : Nat) : Int) - 1) = ((l.length - (i + 1) : Nat) : Int) := by
      rw [wrap_id (by omega) (by omega)]; omega
    have h6 : (0 : Int) ≤ ((l.length - (i + 1) : Nat) : Int) := by omega
    have hg := ints_get (l := l.take (l.length - i)) (i := l.length - (i + 1)) (by simp; omega)
    have hz : (l.take (l.length - i)).getD (l.length - (i + 1)) 0 = 0 := by
      rw [htake i (by omega), List.getD_eq_getElem?_getD, List.getElem?_append_right (by omega), List.getElem?_replicate]
      split <;> rfl
    rw [hz] at hg
    have h7 : l.length - (i + 1) ≤ l.length - i := by omega
    have h9 : (l.length - (i + 1)) = min (l.length - (i + 1)) (l.length - i) := by omega
    simp only [List.getElem?_cons_zero, List.getElem?_cons_succ, List.getElem?_nil, evC_skip, evC_region, evC_seq, evC_cond, evC_block, evC_loop, evC_exit, evC_ret, evC_frz, evOps, evOper, evOp, getOpd, putA, wantA, List.replicate, List.length, List.cons_append, List.nil_append, List.set, cellsOf, ibinV, ldCells, stCells, splice, List.take, List.drop, scalarB, natOf, finA, sealO, retsA, evRet, packA, nextIs, callA_pv, callA_im, plainAll, plain2, plain1, plainL, seal3, seal2, seal1, fillA, fillE, Nat.reduceAdd, Nat.reduceLeDiff, Nat.reduceSub, Nat.reduceEqDiff, Nat.reduceLT, Bool.not_true, Bool.not_false, if_true, if_false, ite_true, ite_false, Bool.false_eq_true, reduceIte, List.map, Nat.reduceMul, beq_tf, beq_ft, beq_tt, beq_ff, Nat.not_lt_zero, decide_true, decide_false, Nat.zero_add, Nat.add_zero, Nat.le_refl, Nat.zero_le, List.append_nil, Option.getD, lits, litL, pr_not, pr_neg, pr_max, pr_seq, pr_sne, pr_gs, pr_gb, notNil, headSt, maskO, maskL, not_true_eq_false, not_false_eq_true, Nat.lt_irrefl, true_and, and_true, and_self, Nat.lt_add_one, reduceCtorEq, L34_0, rshS, ints_len, hL, h5, hw, h6, hg, h7, natOpt, sliceA, ints_headLen, Int.toNat_natCast, Bool.false_and, ints_take, List.take_take, beq_self_eq_true]
    rw [← h9]
  have hk := htake k (Nat.le_refl _)
  simp only [Nat.sub_self, List.replicate_zero, List.append_nil] at hk
  rcases h2 with rfl | ⟨t', x, rfl, hx⟩
  · rw [evLoop_eq (k := k) (x := .exit 0) (stx := ?stx) (rshS l) (by simp) ?h0 (by omega) hs ?he]
    case h0 => simp only [List.getElem?_cons_zero, List.getElem?_cons_succ, List.getElem?_nil, evC_skip, evC_region, evC_seq, evC_cond, evC_block, evC_loop, evC_exit, evC_ret, evC_frz, evOps, evOper, evOp, getOpd, putA, wantA, List.replicate, List.length, List.cons_append, List.nil_append, List.set, cellsOf, ibinV, ldCells, stCells, splice, List.take, List.drop, scalarB, natOf, finA, sealO, retsA, evRet, packA, nextIs, callA_pv, callA_im, plainAll, plain2, plain1, plainL, seal3, seal2, seal1, fillA, fillE, Nat.reduceAdd, Nat.reduceLeDiff, Nat.reduceSub, Nat.reduceEqDiff, Nat.reduceLT, Bool.not_true, Bool.not_false, if_true, if_false, ite_true, ite_false, Bool.false_eq_true, reduceIte, List.map, Nat.reduceMul, beq_tf, beq_ft, beq_tt, beq_ff, Nat.not_lt_zero, decide_true, decide_false, Nat.zero_add, Nat.add_zero, Nat.le_refl, Nat.zero_le, List.append_nil, Option.getD, lits, litL, pr_not, pr_neg, pr_max, pr_seq, pr_sne, pr_gs, pr_gb, notNil, headSt, maskO, maskL, not_true_eq_false, not_false_eq_true, Nat.lt_irrefl, true_and, and_true, and_self, Nat.lt_add_one, reduceCtorEq, rshS, Nat.sub_zero, List.take_length]
    case he =>
      simp only [List.getElem?_cons_zero, List.getElem?_cons_succ, List.getElem?_nil, evC_skip, evC_region, evC_seq, evC_cond, evC_block, evC_loop, evC_exit, evC_ret, evC_frz, evOps, evOper, evOp, getOpd, putA, wantA, List.replicate, List.length, List.cons_append, List.nil_append, List.set, cellsOf, ibinV, ldCells, stCells, splice, List.take, List.drop, scalarB, natOf, finA, sealO, retsA, evRet, packA, nextIs, callA_pv, callA_im, plainAll, plain2, plain1, plainL, seal3, seal2, seal1, fillA, fillE, Nat.reduceAdd, Nat.reduceLeDiff, Nat.reduceSub, Nat.reduceEqDiff, Nat.reduceLT, Bool.not_true, Bool.not_false, if_true, if_false, ite_true, ite_false, Bool.false_eq_true, reduceIte, List.map, Nat.reduceMul, beq_tf, beq_ft, beq_tt, beq_ff, Nat.not_lt_zero, decide_true, decide_false, Nat.zero_add, Nat.add_zero, Nat.le_refl, Nat.zero_le, List.append_nil, Option.getD, lits, litL, pr_not, pr_neg, pr_max, pr_seq, pr_sne, pr_gs, pr_gb, notNil, headSt, maskO, maskL, not_true_eq_false, not_false_eq_true, Nat.lt_irrefl, true_and, and_true, and_self, Nat.lt_add_one, reduceCtorEq, L34_0, rshS, hk, ints_len, Int.natCast_zero, Int.lt_irrefl, gt_iff_lt]
      rfl
    · simp only [List.getElem?_cons_zero, List.getElem?_cons_succ, List.getElem?_nil, evC_skip, evC_region, evC_seq, evC_cond, evC_block, evC_loop, evC_exit, evC_ret, evC_frz, evOps, evOper, evOp, getOpd, putA, wantA, List.replicate, List.length, List.cons_append, List.nil_append, List.set, cellsOf, ibinV, ldCells, stCells, splice, List.take, List.drop, scalarB, natOf, finA, sealO, retsA, evRet, packA, nextIs, callA_pv, callA_im, plainAll, plain2, plain1, plainL, seal3, seal2, seal1, fillA, fillE, Nat.reduceAdd, Nat.reduceLeDiff, Nat.reduceSub, Nat.reduceEqDiff, Nat.reduceLT, Bool.not_true, Bool.not_false, if_true, if_false, ite_true, ite_false, Bool.false_eq_true, reduceIte, List.map, Nat.reduceMul, beq_tf, beq_ft, beq_tt, beq_ff, Nat.not_lt_zero, decide_true, decide_false, Nat.zero_add, Nat.add_zero, Nat.le_refl, Nat.zero_le, List.append_nil, Option.getD, lits, litL, pr_not, pr_neg, pr_max, pr_seq, pr_sne, pr_gs, pr_gb, notNil, headSt, maskO, maskL, not_true_eq_false, not_false_eq_true, Nat.lt_irrefl, true_and, and_true, and_self, Nat.lt_add_one, reduceCtorEq, nilS]
  · have hL : (t' ++ [x]).length = t'.length + 1 := by simp
    have h5 : 0 < ((t'.length + 1 : Nat) : Int) := by omega
    have hw : IntKind.i64.wrap (((t'.length + 1 : Nat) : Int) - 1) = (t'.length : Int) := by
      have hlt : t'.length ≤ 60 := by simp at hlen; omega
      rw [wrap_id (by omega) (by omega)]; omega
    have h6 : (0 : Int) ≤ (t'.length : Int) := by omega
    have hg := ints_get (l := t' ++ [x]) (i := t'.length) (by simp)
    have hz : (t' ++ [x]).getD t'.length 0 = x := by simp
    rw [hz] at hg
    have hx' : (x == 0) = false := by simpa using hx
    rw [evLoop_eq (k := k) (x := .exit 0) (stx := ?sty) (rshS l) (by simp) ?h0 (by omega) hs ?he]
    case h0 => simp only [List.getElem?_cons_zero, List.getElem?_cons_succ, List.getElem?_nil, evC_skip, evC_region, evC_seq, evC_cond, evC_block, evC_loop, evC_exit, evC_ret, evC_frz, evOps, evOper, evOp, getOpd, putA, wantA, List.replicate, List.length, List.cons_append, List.nil_append, List.set, cellsOf, ibinV, ldCells, stCells, splice, List.take, List.drop, scalarB, natOf, finA, sealO, retsA, evRet, packA, nextIs, callA_pv, callA_im, plainAll, plain2, plain1, plainL, seal3, seal2, seal1, fillA, fillE, Nat.reduceAdd, Nat.reduceLeDiff, Nat.reduceSub, Nat.reduceEqDiff, Nat.reduceLT, Bool.not_true, Bool.not_false, if_true, if_false, ite_true, ite_false, Bool.false_eq_true, reduceIte, List.map, Nat.reduceMul, beq_tf, beq_ft, beq_tt, beq_ff, Nat.not_lt_zero, decide_true, decide_false, Nat.zero_add, Nat.add_zero, Nat.le_refl, Nat.zero_le, List.append_nil, Option.getD, lits, litL, pr_not, pr_neg, pr_max, pr_seq, pr_sne, pr_gs, pr_gb, notNil, headSt, maskO, maskL, not_true_eq_false, not_false_eq_true, Nat.lt_irrefl, true_and, and_true, and_self, Nat.lt_add_one, reduceCtorEq, rshS, Nat.sub_zero, List.take_length]
    case he =>
      simp only [List.getElem?_cons_zero, List.getElem?_cons_succ, List.getElem?_nil, evC_skip, evC_region, evC_seq, evC_cond, evC_block, evC_loop, evC_exit, evC_ret, evC_frz, evOps, evOper, evOp, getOpd, putA, wantA, List.replicate, List.length, List.cons_append, List.nil_append, List.set, cellsOf, ibinV, ldCells, stCells, splice, List.take, List.drop, scalarB, natOf, finA, sealO, retsA, evRet, packA, nextIs, callA_pv, callA_im, plainAll, plain2, plain1, plainL, seal3, seal2, seal1, fillA, fillE, Nat.reduceAdd, Nat.reduceLeDiff, Nat.reduceSub, Nat.reduceEqDiff, Nat.reduceLT, Bool.not_true, Bool.not_false, if_true, if_false, ite_true, ite_false, Bool.false_eq_true, reduceIte, List.map, Nat.reduceMul, beq_tf, beq_ft, beq_tt, beq_ff, Nat.not_lt_zero, decide_true, decide_false, Nat.zero_add, Nat.add_zero, Nat.le_refl, Nat.zero_le, List.append_nil, Option.getD, lits, litL, pr_not, pr_neg, pr_max, pr_seq, pr_sne, pr_gs, pr_gb, notNil, headSt, maskO, maskL, not_true_eq_false, not_false_eq_true, Nat.lt_irrefl, true_and, and_true, and_self, Nat.lt_add_one, reduceCtorEq, L34_0, rshS, hk, ints_len, hL, h5, hw, h6, hg, hx', Int.toNat_natCast, gt_iff_lt]
      rfl
    · simp only [List.getElem?_cons_zero, List.getElem?_cons_succ, List.getElem?_nil, evC_skip, evC_region, evC_seq, evC_cond, evC_block, evC_loop, evC_exit, evC_ret, evC_frz, evOps, evOper, evOp, getOpd, putA, wantA, List.replicate, List.length, List.cons_append, List.nil_append, List.set, cellsOf, ibinV, ldCells, stCells, splice, List.take, List.drop, scalarB, natOf, finA, sealO, retsA, evRet, packA, nextIs, callA_pv, callA_im, plainAll, plain2, plain1, plainL, seal3, seal2, seal1, fillA, fillE, Nat.reduceAdd, Nat.reduceLeDiff, Nat.reduceSub, Nat.reduceEqDiff, Nat.reduceLT, Bool.not_true, Bool.not_false, if_true, if_false, ite_true, ite_false, Bool.false_eq_true, reduceIte, List.map, Nat.reduceMul, beq_tf, beq_ft, beq_tt, beq_ff, Nat.not_lt_zero, decide_true, decide_false, Nat.zero_add, Nat.add_zero, Nat.le_refl, Nat.zero_le, List.append_nil, Option.getD, lits, litL, pr_not, pr_neg, pr_max, pr_seq, pr_sne, pr_gs, pr_gb, notNil, headSt, maskO, maskL, not_true_eq_false, not_false_eq_true, Nat.lt_irrefl, true_and, and_true, and_self, Nat.lt_add_one, reduceCtorEq, nilS]

end Go.Proofs.Ytjnknfppndabjaa.Av
