/- A part of the proof of VclockJoinsSaid: an evaluator of the program, proved sound, and what it says. -/
import Derived.Test.YtjnknfppndabjaaAvT4
namespace Go.Proofs.Ytjnknfppndabjaa.Av
open Go
set_option linter.unusedSimpArgs false
set_option linter.unusedVariables false

theorem seal_ints (H : Heap) (n : Nat) (d : Nat) (l : List Int) : (ints l).map (fun e => e.map (sealC H n d)) = ints l := by
  have : ∀ z : Int, sealC H n d (AV.lit (.int .i64 z)) = AV.lit (.int .i64 z) := by intro z; cases d <;> rfl
  simp [ints, this]

theorem merge_pv (n : Nat) (hn : 14 ≤ n) (f g : Bool) (a b : List Int) : pv PP T n 13 [.agg [.sl f (ints a)], .agg [.sl g (ints b)]] = some (.agg [.sl false (ints (mrg a b))]) := by
  obtain ⟨n, rfl⟩ : ∃ m, n = m + 1 := ⟨n - 1, by omega⟩
  rw [pv_at F13 rfl]
  have hs := short_ev n (by omega) 32 [.ptr 0 1 0 0, .ptr 1 1 0 0] rfl (fun o => mx (cnt a o) (cnt b o)) (.blk 1 [[.sl f (ints a)]]) (.blk 1 [[.sl g (ints b)]]) (.blk 1 [[.lit nilS]])
    (fun o h3 h4 => ⟨_, merge1_ev (n - 1) (by omega) f g a b o _ h3 h4⟩)
  have hm : mrg a b = trim (valsOf (fun o => mx (cnt a o) (cnt b o)) 8) := rfl
  rw [← hm] at hs
  simp only [List.getElem?_cons_zero, List.getElem?_cons_succ, List.getElem?_nil, evC_skip, evC_region, evC_seq, evC_cond, evC_block, evC_loop, evC_exit, evC_ret, evC_frz, evOps, evOper, evOp, getOpd, putA, wantA, List.replicate, List.length, List.cons_append, List.nil_append, List.set, cellsOf, ibinV, ldCells, stCells, splice, List.take, List.drop, scalarB, natOf, finA, sealO, retsA, evRet, packA, nextIs, callA_pv, callA_im, plainAll, plain2, plain1, plainL, seal3, seal2, seal1, fillA, fillE, Nat.reduceAdd, Nat.reduceLeDiff, Nat.reduceSub, Nat.reduceEqDiff, Nat.reduceLT, Bool.not_true, Bool.not_false, if_true, if_false, ite_true, ite_false, Bool.false_eq_true, reduceIte, List.map, Nat.reduceMul, beq_tf, beq_ft, beq_tt, beq_ff, Nat.not_lt_zero, decide_true, decide_false, Nat.zero_add, Nat.add_zero, Nat.le_refl, Nat.zero_le, List.append_nil, Option.getD, lits, litL, pr_not, pr_neg, pr_max, pr_seq, pr_sne, pr_gs, pr_gb, notNil, headSt, maskO, maskL, not_true_eq_false, not_false_eq_true, Nat.lt_irrefl, true_and, and_true, and_self, Nat.lt_add_one, reduceCtorEq, F13, hs, sealC, sealDepth, rd, ints_len, List.take_of_length_le, seal_ints]

theorem cnt_nonneg (l : List Int) (o : Int) : 0 ≤ cnt l o := by
  unfold cnt
  split
  · omega
  · split <;> omega

theorem cnt_trim (s : Int → Int) (hs : ∀ o, 0 ≤ s o) (h0 : ∀ o, o < 1 ∨ 8 < o → s o = 0) (o : Int) : cnt (trim (valsOf s 8)) o = s o := by
  obtain ⟨k, h1, _⟩ := trim_spec (valsOf s 8)
  have hlen := congrArg List.length h1
  simp only [valsOf_len, List.length_append, List.length_replicate] at hlen
  unfold cnt
  by_cases h : o < 1 ∨ 8 < o
  · rw [if_pos (by omega), h0 o h]
  · have hv : (valsOf s 8).getD (o - 1).toNat 0 = s o := by
      have : (o - 1).toNat < 8 := by omega
      simp only [valsOf, List.getD_eq_getElem?_getD, List.getElem?_map, List.getElem?_range this, Option.map_some, Option.getD_some]
      congr 1
      omega
    have hg : (trim (valsOf s 8) ++ List.replicate k (0 : Int)).getD (o - 1).toNat 0 = s o := by rw [← h1]; exact hv
    rw [List.getD_eq_getElem?_getD, List.getElem?_append] at hg
    by_cases hl : ((trim (valsOf s 8)).length : Int) < o
    · rw [if_pos (by omega)]
      rw [if_neg (by omega), List.getElem?_replicate] at hg
      split at hg <;> simpa using hg
    · rw [if_neg (by omega)]
      rw [if_pos (by omega), ← List.getD_eq_getElem?_getD] at hg
      rw [hg]
      have := hs o
      rw [if_neg (by omega)]

theorem cnt_out (l : List Int) (o : Int) (h : o < 1 ∨ 8 < o) : cnt l o = 0 := by
  unfold cnt
  rw [if_pos (by omega)]

theorem cnt_mrg (a b : List Int) (o : Int) : cnt (mrg a b) o = mx (cnt a o) (cnt b o) :=
  cnt_trim (fun o => mx (cnt a o) (cnt b o)) (fun o => by have := cnt_nonneg a o; have := cnt_nonneg b o; simp only [mx]; split <;> omega)
    (fun o h => by simp only [mx, cnt_out a o h, cnt_out b o h, Int.lt_irrefl, if_false]) o

theorem cov_iff (a b : List Int) : cov a b = true ↔ ∀ i : Nat, i < 8 → cnt b (i + 1) ≤ cnt a (i + 1) := by simp [cov]

theorem mrg_comm (a b : List Int) : mrg a b = mrg b a := by
  unfold mrg
  congr 2
  funext o
  simp only [mx]
  split <;> split <;> omega

theorem mrg_assoc (a b c : List Int) : mrg (mrg a b) c = mrg a (mrg b c) := by
  show trim (valsOf (fun o => mx (cnt (mrg a b) o) (cnt c o)) 8) = trim (valsOf (fun o => mx (cnt a o) (cnt (mrg b c) o)) 8)
  congr 2
  funext o
  rw [cnt_mrg, cnt_mrg]
  simp only [mx]
  repeat' split
  all_goals omega

theorem mrg_idem (a b : List Int) : mrg (mrg a b) (mrg a b) = mrg a b := by
  show trim (valsOf (fun o => mx (cnt (mrg a b) o) (cnt (mrg a b) o)) 8) = trim (valsOf (fun o => mx (cnt a o) (cnt b o)) 8)
  congr 2
  funext o
  rw [cnt_mrg]
  simp only [mx, Int.lt_irrefl, if_false]

theorem cov_mrg_left (a b : List Int) : cov (mrg a b) a = true := (cov_iff _ _).2 fun i _ => by rw [cnt_mrg]; simp only [mx]; split <;> omega
theorem cov_mrg_right (a b : List Int) : cov (mrg a b) b = true := (cov_iff _ _).2 fun i _ => by rw [cnt_mrg]; simp only [mx]; split <;> omega
theorem cov_mrg (a b c : List Int) (h : cov c a = true) : cov c b = cov c (mrg a b) := by
  rw [Bool.eq_iff_iff, cov_iff, cov_iff]
  have h := (cov_iff _ _).1 h
  constructor
  · intro h2 i hi
    have := h i hi
    have := h2 i hi
    rw [cnt_mrg]; simp only [mx]; split <;> omega
  · intro h2 i hi
    have h3 := h2 i hi
    rw [cnt_mrg] at h3
    simp only [mx] at h3
    split at h3 <;> omega
theorem cov_trans {a b c : List Int} (h : cov a b = true) (k : cov b c = true) : cov a c = true :=
  (cov_iff _ _).2 fun i hi => by have := (cov_iff _ _).1 h i hi; have := (cov_iff _ _).1 k i hi; omega

theorem mrg_len (a b : List Int) : (mrg a b).length ≤ 60 := by
  have := trim_len (valsOf (fun o => mx (cnt a o) (cnt b o)) 8)
  rw [valsOf_len] at this
  unfold mrg
  omega

theorem merges_pv (hwk : pv PP T 200 0 [] = some (bv true)) (f g : Bool) (a b : List Int) : pv PP T 201 3 [.agg [.sl f (ints a)], .agg [.sl g (ints b)]] = some (bv true) := by
  rw [pv_at F3 rfl]
  have hsm := small_pv 200 (by omega) f g g a b b
  by_cases h : a.length ≤ 20 ∧ b.length ≤ 20 ∧ b.length ≤ 20
  · have h1 := cmp_pv 200 (by omega) f g a b
    have h2 := rcmp_pv 200 (by omega) f g a b
    have h3 := merge_pv 200 (by omega) f g a b
    have h4 := rmerge_pv 200 (by omega) f g a b
    have h5 := same_pv 200 false false (mrg a b) (mrg a b) (mrg_len a b) (by omega)
    simp only [List.getElem?_cons_zero, List.getElem?_cons_succ, List.getElem?_nil, evC_skip, evC_region, evC_seq, evC_cond, evC_block, evC_loop, evC_exit, evC_ret, evC_frz, evOps, evOper, evOp, getOpd, putA, wantA, List.replicate, List.length, List.cons_append, List.nil_append, List.set, cellsOf, ibinV, ldCells, stCells, splice, List.take, List.drop, scalarB, natOf, finA, sealO, retsA, evRet, packA, nextIs, callA_pv, callA_im, plainAll, plain2, plain1, plainL, seal3, seal2, seal1, fillA, fillE, Nat.reduceAdd, Nat.reduceLeDiff, Nat.reduceSub, Nat.reduceEqDiff, Nat.reduceLT, Bool.not_true, Bool.not_false, if_true, if_false, ite_true, ite_false, Bool.false_eq_true, reduceIte, List.map, Nat.reduceMul, beq_tf, beq_ft, beq_tt, beq_ff, Nat.not_lt_zero, decide_true, decide_false, Nat.zero_add, Nat.add_zero, Nat.le_refl, Nat.zero_le, List.append_nil, Option.getD, lits, litL, pr_not, pr_neg, pr_max, pr_seq, pr_sne, pr_gs, pr_gb, notNil, headSt, maskO, maskL, not_true_eq_false, not_false_eq_true, Nat.lt_irrefl, true_and, and_true, and_self, Nat.lt_add_one, reduceCtorEq, F3, hsm, hwk, h, h1, h2, h3, h4, h5, eqb, beq_self_eq_true]
  · rw [decide_eq_false h] at hsm
    simp only [List.getElem?_cons_zero, List.getElem?_cons_succ, List.getElem?_nil, evC_skip, evC_region, evC_seq, evC_cond, evC_block, evC_loop, evC_exit, evC_ret, evC_frz, evOps, evOper, evOp, getOpd, putA, wantA, List.replicate, List.length, List.cons_append, List.nil_append, List.set, cellsOf, ibinV, ldCells, stCells, splice, List.take, List.drop, scalarB, natOf, finA, sealO, retsA, evRet, packA, nextIs, callA_pv, callA_im, plainAll, plain2, plain1, plainL, seal3, seal2, seal1, fillA, fillE, Nat.reduceAdd, Nat.reduceLeDiff, Nat.reduceSub, Nat.reduceEqDiff, Nat.reduceLT, Bool.not_true, Bool.not_false, if_true, if_false, ite_true, ite_false, Bool.false_eq_true, reduceIte, List.map, Nat.reduceMul, beq_tf, beq_ft, beq_tt, beq_ff, Nat.not_lt_zero, decide_true, decide_false, Nat.zero_add, Nat.add_zero, Nat.le_refl, Nat.zero_le, List.append_nil, Option.getD, lits, litL, pr_not, pr_neg, pr_max, pr_seq, pr_sne, pr_gs, pr_gb, notNil, headSt, maskO, maskL, not_true_eq_false, not_false_eq_true, Nat.lt_irrefl, true_and, and_true, and_self, Nat.lt_add_one, reduceCtorEq, F3, hsm, hwk]

end Go.Proofs.Ytjnknfppndabjaa.Av
