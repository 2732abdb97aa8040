/- A part of the proof of VclockJoinsSaid: an evaluator of the program, proved sound, and what it says. -/
import Derived.Test.YtjnknfppndabjaaAvT3
namespace Go.Proofs.Ytjnknfppndabjaa.Av
open Go
set_option linter.unusedSimpArgs false
set_option linter.unusedVariables false

abbrev mx (a b : Int) : Int := if a < b then b else a
def valsOf (s : Int → Int) (i : Nat) : List Int := (List.range i).map fun j : Nat => s (j + 1)
theorem valsOf_succ (s : Int → Int) (i : Nat) : valsOf s (i + 1) = valsOf s i ++ [s (i + 1)] := by simp [valsOf, List.range_succ]
theorem valsOf_len (s : Int → Int) (i : Nat) : (valsOf s i).length = i := by simp [valsOf]
def mrg (a b : List Int) : List Int := trim (valsOf (fun o => mx (cnt a o) (cnt b o)) 8)

def rmS (a b : List Int) (f g : Bool) (i : Nat) : St := ⟨[.undef, .undef, .ptr 0 1 0 0, .ptr 1 1 0 0, .ptr 2 1 0 0, .ms 3 i 0 i, iv (i + 1), .undef, .undef, .undef, .undef, .undef, .undef, .undef, .undef, .undef, .undef, .undef, .undef, .undef, .undef, .undef, .undef], [.blk 1 [[.sl f (ints a)]], .blk 1 [[.sl g (ints b)]], .blk 1 [[.lit nilS]], .blk 1 (ints (valsOf (fun o => mx (cnt a o) (cnt b o)) i))]⟩

theorem rmerge_pv (n : Nat) (hn : 64 ≤ n) (f g : Bool) (a b : List Int) : pv PP T n 21 [.agg [.sl f (ints a)], .agg [.sl g (ints b)]] = some (.agg [.sl false (ints (mrg a b))]) := by
  obtain ⟨n, rfl⟩ : ∃ m, n = m + 1 := ⟨n - 1, by omega⟩
  rw [pv_at F21 rfl]
  simp only [List.getElem?_cons_zero, List.getElem?_cons_succ, List.getElem?_nil, evC_skip, evC_region, evC_seq, evC_cond, evC_block, evC_loop, evC_exit, evC_ret, evC_frz, evOps, evOper, evOp, getOpd, putA, wantA, List.replicate, List.length, List.cons_append, List.nil_append, List.set, cellsOf, ibinV, ldCells, stCells, splice, List.take, List.drop, scalarB, natOf, finA, sealO, retsA, evRet, packA, nextIs, callA_pv, callA_im, plainAll, plain2, plain1, plainL, seal3, seal2, seal1, fillA, fillE, Nat.reduceAdd, Nat.reduceLeDiff, Nat.reduceSub, Nat.reduceEqDiff, Nat.reduceLT, Bool.not_true, Bool.not_false, if_true, if_false, ite_true, ite_false, Bool.false_eq_true, reduceIte, List.map, Nat.reduceMul, beq_tf, beq_ft, beq_tt, beq_ff, Nat.not_lt_zero, decide_true, decide_false, Nat.zero_add, Nat.add_zero, Nat.le_refl, Nat.zero_le, List.append_nil, Option.getD, lits, litL, pr_not, pr_neg, pr_max, pr_seq, pr_sne, pr_gs, pr_gb, notNil, headSt, maskO, maskL, not_true_eq_false, not_false_eq_true, Nat.lt_irrefl, true_and, and_true, and_self, Nat.lt_add_one, reduceCtorEq, F21]
  have hA : ∀ i : Nat, pv PP T n 35 [.agg [.sl f (ints a)], iv (i + 1)] = some (iv (cnt a (i + 1))) := fun i => rcount_pv n (by omega) f a _
  have hB : ∀ i : Nat, pv PP T n 35 [.agg [.sl g (ints b)], iv (i + 1)] = some (iv (cnt b (i + 1))) := fun i => rcount_pv n (by omega) g b _
  have hs : ∀ i, i < 8 → nextIs (headSt (some [false, false, true, true, true, true, true]) false 0 4) (evC PP (evF PP T n) n 0 L21_0 (rmS a b f g i)) (rmS a b f g (i + 1)) := by
    intro i hi
    have h8 : (i : Int) + 1 ≤ 8 := by omega
    have hw : IntKind.i64.wrap ((i : Int) + 1 + 1) = (i : Int) + 1 + 1 := wrap_id (by omega) (by omega)
    have hap := appendA_ms (fl := 0) (id := 3) (s := 1) (bytes := 8) (tot := i) (H := [AObj.blk 1 [[AV.sl f (ints a)]], .blk 1 [[.sl g (ints b)]], .blk 1 [[.lit nilS]], .blk 1 (ints (valsOf (fun o => mx (cnt a o) (cnt b o)) i))])
      (ys := [[iv (mx (cnt a (i + 1)) (cnt b (i + 1)))]]) rfl (by rw [ints_len, valsOf_len]) rfl (by omega) rfl (by simp [room]; omega) (by omega)
    simp only [List.getElem?_cons_zero, List.getElem?_cons_succ, List.getElem?_nil, evC_skip, evC_region, evC_seq, evC_cond, evC_block, evC_loop, evC_exit, evC_ret, evC_frz, evOps, evOper, evOp, getOpd, putA, wantA, List.replicate, List.length, List.cons_append, List.nil_append, List.set, cellsOf, ibinV, ldCells, stCells, splice, List.take, List.drop, scalarB, natOf, finA, sealO, retsA, evRet, packA, nextIs, callA_pv, callA_im, plainAll, plain2, plain1, plainL, seal3, seal2, seal1, fillA, fillE, Nat.reduceAdd, Nat.reduceLeDiff, Nat.reduceSub, Nat.reduceEqDiff, Nat.reduceLT, Bool.not_true, Bool.not_false, if_true, if_false, ite_true, ite_false, Bool.false_eq_true, reduceIte, List.map, Nat.reduceMul, beq_tf, beq_ft, beq_tt, beq_ff, Nat.not_lt_zero, decide_true, decide_false, Nat.zero_add, Nat.add_zero, Nat.le_refl, Nat.zero_le, List.append_nil, Option.getD, lits, litL, pr_not, pr_neg, pr_max, pr_seq, pr_sne, pr_gs, pr_gb, notNil, headSt, maskO, maskL, not_true_eq_false, not_false_eq_true, Nat.lt_irrefl, true_and, and_true, and_self, Nat.lt_add_one, reduceCtorEq, L21_0, rmS, hA, hB, h8, hw, rd, toP, hap, valsOf_succ, ← ints_app]
    rfl
  rw [evLoop_eq (k := 8) (x := .exit 0) (stx := ?stx) (rmS a b f g) (by simp) rfl (by omega) hs ?he]
  case he =>
    simp only [List.getElem?_cons_zero, List.getElem?_cons_succ, List.getElem?_nil, evC_skip, evC_region, evC_seq, evC_cond, evC_block, evC_loop, evC_exit, evC_ret, evC_frz, evOps, evOper, evOp, getOpd, putA, wantA, List.replicate, List.length, List.cons_append, List.nil_append, List.set, cellsOf, ibinV, ldCells, stCells, splice, List.take, List.drop, scalarB, natOf, finA, sealO, retsA, evRet, packA, nextIs, callA_pv, callA_im, plainAll, plain2, plain1, plainL, seal3, seal2, seal1, fillA, fillE, Nat.reduceAdd, Nat.reduceLeDiff, Nat.reduceSub, Nat.reduceEqDiff, Nat.reduceLT, Bool.not_true, Bool.not_false, if_true, if_false, ite_true, ite_false, Bool.false_eq_true, reduceIte, List.map, Nat.reduceMul, beq_tf, beq_ft, beq_tt, beq_ff, Nat.not_lt_zero, decide_true, decide_false, Nat.zero_add, Nat.add_zero, Nat.le_refl, Nat.zero_le, List.append_nil, Option.getD, lits, litL, pr_not, pr_neg, pr_max, pr_seq, pr_sne, pr_gs, pr_gb, notNil, headSt, maskO, maskL, not_true_eq_false, not_false_eq_true, Nat.lt_irrefl, true_and, and_true, and_self, Nat.lt_add_one, reduceCtorEq, rmS, L21_0]
    rfl
  · have hr := rshort_pv n (valsOf (fun o => mx (cnt a o) (cnt b o)) 8) (by rw [valsOf_len]; omega) (by omega)
    simp only [List.getElem?_cons_zero, List.getElem?_cons_succ, List.getElem?_nil, evC_skip, evC_region, evC_seq, evC_cond, evC_block, evC_loop, evC_exit, evC_ret, evC_frz, evOps, evOper, evOp, getOpd, putA, wantA, List.replicate, List.length, List.cons_append, List.nil_append, List.set, cellsOf, ibinV, ldCells, stCells, splice, List.take, List.drop, scalarB, natOf, finA, sealO, retsA, evRet, packA, nextIs, callA_pv, callA_im, plainAll, plain2, plain1, plainL, seal3, seal2, seal1, fillA, fillE, Nat.reduceAdd, Nat.reduceLeDiff, Nat.reduceSub, Nat.reduceEqDiff, Nat.reduceLT, Bool.not_true, Bool.not_false, if_true, if_false, ite_true, ite_false, Bool.false_eq_true, reduceIte, List.map, Nat.reduceMul, beq_tf, beq_ft, beq_tt, beq_ff, Nat.not_lt_zero, decide_true, decide_false, Nat.zero_add, Nat.add_zero, Nat.le_refl, Nat.zero_le, List.append_nil, Option.getD, lits, litL, pr_not, pr_neg, pr_max, pr_seq, pr_sne, pr_gs, pr_gb, notNil, headSt, maskO, maskL, not_true_eq_false, not_false_eq_true, Nat.lt_irrefl, true_and, and_true, and_self, Nat.lt_add_one, reduceCtorEq, rmS, ints_len, valsOf_len, ints_toP, List.take_of_length_le, hr, mrg]

theorem merge1_ev (n : Nat) (hn : 3 ≤ n) (f g : Bool) (a b : List Int) (o : Int) (h2 h3 h4 : AObj) :
    evF PP T n 5 32 [iv o, .ptr 0 1 0 0, .ptr 1 1 0 0] [.blk 1 [[.sl f (ints a)]], .blk 1 [[.sl g (ints b)]], h2, h3, h4] = some (iv (mx (cnt a o) (cnt b o)), [.blk 1 [[.sl f (ints a)]], .blk 1 [[.sl g (ints b)]], h2, h3, h4]) := by
  obtain ⟨n, rfl⟩ : ∃ m, n = m + 1 := ⟨n - 1, by omega⟩
  rw [evF_at F32 rfl]
  have hA := count_pv n (by omega) f a o
  have hB := count_pv n (by omega) g b o
  have hg := greater_pv n (by omega) (cnt a o) (cnt b o)
  simp only [List.getElem?_cons_zero, List.getElem?_cons_succ, List.getElem?_nil, evC_skip, evC_region, evC_seq, evC_cond, evC_block, evC_loop, evC_exit, evC_ret, evC_frz, evOps, evOper, evOp, getOpd, putA, wantA, List.replicate, List.length, List.cons_append, List.nil_append, List.set, cellsOf, ibinV, ldCells, stCells, splice, List.take, List.drop, scalarB, natOf, finA, sealO, retsA, evRet, packA, nextIs, callA_pv, callA_im, plainAll, plain2, plain1, plainL, seal3, seal2, seal1, fillA, fillE, Nat.reduceAdd, Nat.reduceLeDiff, Nat.reduceSub, Nat.reduceEqDiff, Nat.reduceLT, Bool.not_true, Bool.not_false, if_true, if_false, ite_true, ite_false, Bool.false_eq_true, reduceIte, List.map, Nat.reduceMul, beq_tf, beq_ft, beq_tt, beq_ff, Nat.not_lt_zero, decide_true, decide_false, Nat.zero_add, Nat.add_zero, Nat.le_refl, Nat.zero_le, List.append_nil, Option.getD, lits, litL, pr_not, pr_neg, pr_max, pr_seq, pr_sne, pr_gs, pr_gb, notNil, headSt, maskO, maskL, not_true_eq_false, not_false_eq_true, Nat.lt_irrefl, true_and, and_true, and_self, Nat.lt_add_one, reduceCtorEq, F32, hA, hB, hg]

def shS (vi : Nat) (caps : List AV) (s : Int → Int) (h0 h1 h2 : AObj) (i : Nat) : St :=
  ⟨[.fn vi caps, .undef, .ptr 4 1 0 0, iv ((i - (trim (valsOf s i)).length : Nat) : Int), iv (i + 1), .undef, .undef, .undef, .undef, .undef, .undef, .undef, .undef, .undef, .undef, .undef, .undef, .undef, .undef, .undef, .undef, .undef, .undef, .undef, .undef, .undef], [h0, h1, h2, .blk 1 (ints (trim (valsOf s i))), .blk 1 [[.ms 3 (trim (valsOf s i)).length 0 (trim (valsOf s i)).length]]]⟩

theorem short_ev (n : Nat) (hn : 12 ≤ n) (vi : Nat) (caps : List AV) (hcaps : plainAll caps = false) (s : Int → Int) (h0 h1 h2 : AObj)
    (hf : ∀ (o : Int) (h3 h4 : AObj), ∃ H', evF PP T (n - 1) 5 vi (iv o :: caps) [h0, h1, h2, h3, h4] = some (iv (s o), H')) :
    evF PP T n 3 26 [.fn vi caps] [h0, h1, h2] = some (.agg [.ms 3 (trim (valsOf s 8)).length 0 (trim (valsOf s 8)).length],
      [h0, h1, h2, .blk 1 (ints (trim (valsOf s 8))), .blk 1 [[.ms 3 (trim (valsOf s 8)).length 0 (trim (valsOf s 8)).length]]]) := by
  obtain ⟨n, rfl⟩ : ∃ m, n = m + 1 := ⟨n - 1, by omega⟩
  rw [evF_at F26 rfl]
  simp only [Nat.add_sub_cancel] at hf
  simp only [List.getElem?_cons_zero, List.getElem?_cons_succ, List.getElem?_nil, evC_skip, evC_region, evC_seq, evC_cond, evC_block, evC_loop, evC_exit, evC_ret, evC_frz, evOps, evOper, evOp, getOpd, putA, wantA, List.replicate, List.length, List.cons_append, List.nil_append, List.set, cellsOf, ibinV, ldCells, stCells, splice, List.take, List.drop, scalarB, natOf, finA, sealO, retsA, evRet, packA, nextIs, callA_pv, callA_im, plainAll, plain2, plain1, plainL, seal3, seal2, seal1, fillA, fillE, Nat.reduceAdd, Nat.reduceLeDiff, Nat.reduceSub, Nat.reduceEqDiff, Nat.reduceLT, Bool.not_true, Bool.not_false, if_true, if_false, ite_true, ite_false, Bool.false_eq_true, reduceIte, List.map, Nat.reduceMul, beq_tf, beq_ft, beq_tt, beq_ff, Nat.not_lt_zero, decide_true, decide_false, Nat.zero_add, Nat.add_zero, Nat.le_refl, Nat.zero_le, List.append_nil, Option.getD, lits, litL, pr_not, pr_neg, pr_max, pr_seq, pr_sne, pr_gs, pr_gb, notNil, headSt, maskO, maskL, not_true_eq_false, not_false_eq_true, Nat.lt_irrefl, true_and, and_true, and_self, Nat.lt_add_one, reduceCtorEq, F26, claimCells]
  have hpl : ∀ x, plainAll (iv x :: caps) = false := by intro x; simp only [plainAll, plain2, plain1]; exact hcaps
  have hs : ∀ i, i < 8 → nextIs (headSt (some [true, false, true, true, true]) false 3 5) (evC PP (evF PP T n) n 3 L26_0 (shS vi caps s h0 h1 h2 i)) (shS vi caps s h0 h1 h2 (i + 1)) := by
    intro i hi
    have h8 : (i : Int) + 1 ≤ 8 := by omega
    have hw : IntKind.i64.wrap ((i : Int) + 1 + 1) = (i : Int) + 1 + 1 := wrap_id (by omega) (by omega)
    obtain ⟨H', hc⟩ := hf (i + 1) (.blk 1 (ints (trim (valsOf s i)))) (.blk 1 [[.ms 3 (trim (valsOf s i)).length 0 (trim (valsOf s i)).length]])
    by_cases hz : s (i + 1) = 0
    · have hz' : (s (i + 1) == 0) = true := by simpa using hz
      have ht : trim (valsOf s (i + 1)) = trim (valsOf s i) := by rw [valsOf_succ, trim_snoc, if_pos hz]
      have hl := trim_len (valsOf s i)
      rw [valsOf_len] at hl
      have hw2 : IntKind.i64.wrap (((i - (trim (valsOf s i)).length : Nat) : Int) + 1) = ((i + 1 - (trim (valsOf s i)).length : Nat) : Int) := by
        rw [wrap_id (by omega) (by omega)]; omega
      simp only [List.getElem?_cons_zero, List.getElem?_cons_succ, List.getElem?_nil, evC_skip, evC_region, evC_seq, evC_cond, evC_block, evC_loop, evC_exit, evC_ret, evC_frz, evOps, evOper, evOp, getOpd, putA, wantA, List.replicate, List.length, List.cons_append, List.nil_append, List.set, cellsOf, ibinV, ldCells, stCells, splice, List.take, List.drop, scalarB, natOf, finA, sealO, retsA, evRet, packA, nextIs, callA_pv, callA_im, plainAll, plain2, plain1, plainL, seal3, seal2, seal1, fillA, fillE, Nat.reduceAdd, Nat.reduceLeDiff, Nat.reduceSub, Nat.reduceEqDiff, Nat.reduceLT, Bool.not_true, Bool.not_false, if_true, if_false, ite_true, ite_false, Bool.false_eq_true, reduceIte, List.map, Nat.reduceMul, beq_tf, beq_ft, beq_tt, beq_ff, Nat.not_lt_zero, decide_true, decide_false, Nat.zero_add, Nat.add_zero, Nat.le_refl, Nat.zero_le, List.append_nil, Option.getD, lits, litL, pr_not, pr_neg, pr_max, pr_seq, pr_sne, pr_gs, pr_gb, notNil, headSt, maskO, maskL, not_true_eq_false, not_false_eq_true, Nat.lt_irrefl, true_and, and_true, and_self, Nat.lt_add_one, reduceCtorEq, L26_0, shS, h8, hw, hcaps, hc, hz', ht, hw2]
      rfl
    · have hz' : (s (i + 1) == 0) = false := by simpa using hz
      have hl := trim_len (valsOf s i)
      rw [valsOf_len] at hl
      have ht : trim (valsOf s (i + 1)) = valsOf s i ++ [s (i + 1)] := by rw [valsOf_succ, trim_snoc, if_neg hz]
      have hlen : (valsOf s i ++ [s (i + 1)]).length = i + 1 := by simp [valsOf_len]
      have hfull : trim (valsOf s i) ++ List.replicate (i - (trim (valsOf s i)).length) 0 = valsOf s i := by
        obtain ⟨k, e, _⟩ := trim_spec (valsOf s i)
        have h := congrArg List.length e
        simp only [valsOf_len, List.length_append, List.length_replicate] at h
        have hk : i - (trim (valsOf s i)).length = k := by omega
        rw [hk]; exact e.symm
      have h6 : (0 : Int) ≤ ((i - (trim (valsOf s i)).length : Nat) : Int) := by omega
      have h9 : i - (trim (valsOf s i)).length ≤ 2 ^ 20 := by omega
      have h10 : (i - (trim (valsOf s i)).length) * 8 ≤ 2 ^ 40 := by omega
      generalize hm : (trim (valsOf s i)).length = m at *
      generalize hc0 : trim (valsOf s i) = c at *
      have hmz : m + (i - m) = i := by omega
      have hap1 := appendA_ms (fl := 3) (id := 3) (s := 1) (bytes := 8) (tot := m) (H := [h0, h1, h2, .blk 1 (ints c), .blk 1 [[.ms 3 m 0 m]]]) (es := ints c)
        (ys := List.replicate (i - m) [AV.lit (.int .i64 0)]) rfl (by rw [ints_len]; exact hm) (by rw [ints_rep]; exact ints_allLen _) (by omega) (by simp [room]; omega) (by simp [room]; omega) (by omega)
      rw [List.length_replicate, hmz, ints_rep, ints_app, hfull, ← ints_rep] at hap1
      have hap2 := appendA_ms (fl := 3) (id := 3) (s := 1) (bytes := 8) (tot := i) (H := [h0, h1, h2, .blk 1 (ints (valsOf s i)), .blk 1 [[.ms 3 m 0 m]]]) (es := ints (valsOf s i))
        (ys := [[iv (s (i + 1))]]) rfl (by rw [ints_len, valsOf_len]) rfl (by omega) rfl (by simp [room]; omega) (by omega)
      simp only [List.set, List.length] at hap1 hap2
      simp only [List.getElem?_cons_zero, List.getElem?_cons_succ, List.getElem?_nil, evC_skip, evC_region, evC_seq, evC_cond, evC_block, evC_loop, evC_exit, evC_ret, evC_frz, evOps, evOper, evOp, getOpd, putA, wantA, List.replicate, List.length, List.cons_append, List.nil_append, List.set, cellsOf, ibinV, ldCells, stCells, splice, List.take, List.drop, scalarB, natOf, finA, sealO, retsA, evRet, packA, nextIs, callA_pv, callA_im, plainAll, plain2, plain1, plainL, seal3, seal2, seal1, fillA, fillE, Nat.reduceAdd, Nat.reduceLeDiff, Nat.reduceSub, Nat.reduceEqDiff, Nat.reduceLT, Bool.not_true, Bool.not_false, if_true, if_false, ite_true, ite_false, Bool.false_eq_true, reduceIte, List.map, Nat.reduceMul, beq_tf, beq_ft, beq_tt, beq_ff, Nat.not_lt_zero, decide_true, decide_false, Nat.zero_add, Nat.add_zero, Nat.le_refl, Nat.zero_le, List.append_nil, Option.getD, lits, litL, pr_not, pr_neg, pr_max, pr_seq, pr_sne, pr_gs, pr_gb, notNil, headSt, maskO, maskL, not_true_eq_false, not_false_eq_true, Nat.lt_irrefl, true_and, and_true, and_self, Nat.lt_add_one, reduceCtorEq, L26_0, shS, h8, hw, hcaps, hc, hz', ht, h6, h9, h10, hap1, hap2, hlen, rd, toP, Int.toNat_natCast, hm, hc0, ← ints_app, Nat.sub_self]
      rfl
  rw [evLoop_eq (k := 8) (x := .exit 0) (stx := ?stx) (shS vi caps s h0 h1 h2) (by simp) rfl (by omega) hs ?he]
  case he =>
    simp only [List.getElem?_cons_zero, List.getElem?_cons_succ, List.getElem?_nil, evC_skip, evC_region, evC_seq, evC_cond, evC_block, evC_loop, evC_exit, evC_ret, evC_frz, evOps, evOper, evOp, getOpd, putA, wantA, List.replicate, List.length, List.cons_append, List.nil_append, List.set, cellsOf, ibinV, ldCells, stCells, splice, List.take, List.drop, scalarB, natOf, finA, sealO, retsA, evRet, packA, nextIs, callA_pv, callA_im, plainAll, plain2, plain1, plainL, seal3, seal2, seal1, fillA, fillE, Nat.reduceAdd, Nat.reduceLeDiff, Nat.reduceSub, Nat.reduceEqDiff, Nat.reduceLT, Bool.not_true, Bool.not_false, if_true, if_false, ite_true, ite_false, Bool.false_eq_true, reduceIte, List.map, Nat.reduceMul, beq_tf, beq_ft, beq_tt, beq_ff, Nat.not_lt_zero, decide_true, decide_false, Nat.zero_add, Nat.add_zero, Nat.le_refl, Nat.zero_le, List.append_nil, Option.getD, lits, litL, pr_not, pr_neg, pr_max, pr_seq, pr_sne, pr_gs, pr_gb, notNil, headSt, maskO, maskL, not_true_eq_false, not_false_eq_true, Nat.lt_irrefl, true_and, and_true, and_self, Nat.lt_add_one, reduceCtorEq, shS, L26_0]
    rfl
  · simp only [List.getElem?_cons_zero, List.getElem?_cons_succ, List.getElem?_nil, evC_skip, evC_region, evC_seq, evC_cond, evC_block, evC_loop, evC_exit, evC_ret, evC_frz, evOps, evOper, evOp, getOpd, putA, wantA, List.replicate, List.length, List.cons_append, List.nil_append, List.set, cellsOf, ibinV, ldCells, stCells, splice, List.take, List.drop, scalarB, natOf, finA, sealO, retsA, evRet, packA, nextIs, callA_pv, callA_im, plainAll, plain2, plain1, plainL, seal3, seal2, seal1, fillA, fillE, Nat.reduceAdd, Nat.reduceLeDiff, Nat.reduceSub, Nat.reduceEqDiff, Nat.reduceLT, Bool.not_true, Bool.not_false, if_true, if_false, ite_true, ite_false, Bool.false_eq_true, reduceIte, List.map, Nat.reduceMul, beq_tf, beq_ft, beq_tt, beq_ff, Nat.not_lt_zero, decide_true, decide_false, Nat.zero_add, Nat.add_zero, Nat.le_refl, Nat.zero_le, List.append_nil, Option.getD, lits, litL, pr_not, pr_neg, pr_max, pr_seq, pr_sne, pr_gs, pr_gb, notNil, headSt, maskO, maskL, not_true_eq_false, not_false_eq_true, Nat.lt_irrefl, true_and, and_true, and_self, Nat.lt_add_one, reduceCtorEq, shS]

end Go.Proofs.Ytjnknfppndabjaa.Av
