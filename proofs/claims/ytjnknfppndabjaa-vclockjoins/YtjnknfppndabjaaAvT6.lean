/- A part of the proof of VclockJoinsSaid: an evaluator of the program, proved sound, and what it says. -/
import Derived.Test.YtjnknfppndabjaaAvT5
import Derived.Test.YtjnknfppndabjaaAvOrc
namespace Go.Proofs.Ytjnknfppndabjaa.Av
open Go
set_option linter.unusedVariables false

theorem neb (a : Bool) : pureRun PP (binOp .neq 4 (.bool a) (.bool a)) = some (.bool false) := by
  cases a <;> kernel_rfl

theorem cmp_swap (x y : Bool) : IntKind.i64.wrap (0 - cmpN y x) = cmpN x y ∧ cmpB x y = cmpB y x := by
  cases x <;> cases y <;> exact ⟨rfl, rfl⟩

theorem bin_eqb {cf : Nat → Nat → List AV → Heap → Option (AV × Heap)} {fl : Nat} {H : Heap} (a b : Bool) (h : a = b) : evOp PP cf fl (.bin .eql 4 (.tmp 0) (.tmp 1)) [bv a, bv b] H = some (bv true, H) := by
  subst h
  cases a <;> kernel_rfl
theorem bin_neb {cf : Nat → Nat → List AV → Heap → Option (AV × Heap)} {fl : Nat} {H : Heap} (a b : Bool) (h : a = b) : evOp PP cf fl (.bin .neq 4 (.tmp 0) (.tmp 1)) [bv a, bv b] H = some (bv false, H) := by
  subst h
  cases a <;> kernel_rfl
theorem ib_eql (a b : Int) (h : a = b) : ibA .eql (iv a) (iv b) = some (bv true) := by
  simp [ibA, ibinV, h]

abbrev cl (f : Bool) (l : List Int) : AV := .agg [.sl f (ints l)]

theorem orders_pv' (n : Nat) (hn : 100 ≤ n) (hwk : pv PP T n 0 [] = some (bv true)) (f k h : Bool) (a b c : List Int) : pv PP T (n + 1) 5 [cl f a, cl k b, cl h c] = some (bv true) := by
  have hsm := small_pv n (by omega) f k h a b c
  by_cases hl : a.length ≤ 20 ∧ b.length ≤ 20 ∧ c.length ≤ 20
  · rw [decide_eq_true hl] at hsm
    have h1 := merge_pv n (by omega) f k a b
    have h2 := merge_pv n (by omega) k f b a
    rw [mrg_comm b a] at h2
    have h3 := merge_pv n (by omega) false h (mrg a b) c
    have h4 := merge_pv n (by omega) k h b c
    have h5 := merge_pv n (by omega) f false a (mrg b c)
    rw [← mrg_assoc] at h5
    have h6 := merge_pv n (by omega) false false (mrg a b) (mrg a b)
    rw [mrg_idem] at h6
    have h7 := same_pv n false false (mrg a b) (mrg a b) (mrg_len a b) (by omega)
    rw [decide_eq_true (rfl : mrg a b = mrg a b)] at h7
    have h8 := same_pv n false false (mrg (mrg a b) c) (mrg (mrg a b) c) (mrg_len _ _) (by omega)
    rw [decide_eq_true (rfl : mrg (mrg a b) c = mrg (mrg a b) c)] at h8
    have c1 := lcovers_pv n (by omega) false f (mrg a b) a
    rw [cov_mrg_left] at c1
    have c2 := lcovers_pv n (by omega) false k (mrg a b) b
    rw [cov_mrg_right] at c2
    have c3 := lcovers_pv n (by omega) h f c a
    have c4 := lcovers_pv n (by omega) h k c b
    have c5 := lcovers_pv n (by omega) h false c (mrg a b)
    have c6 := lcovers_pv n (by omega) f k a b
    have c7 := lcovers_pv n (by omega) k h b c
    have c8 := lcovers_pv n (by omega) f h a c
    have d1 := cmp_pv n (by omega) f k a b
    have d2 := cmp_pv n (by omega) k f b a
    obtain ⟨e1, e2⟩ := cmp_swap (cov a b) (cov b a)
    have g0 := bin_neb (cf := evF PP T n) (fl := 0) (H := [.blk 1 [[.sl f (ints a)]], .blk 1 [[.sl k (ints b)]], .blk 1 [[.sl h (ints c)]], .blk 1 [[.sl false (ints (mrg a b))]]]) (cov c b) _ rfl
    have g1 := bin_eqb (cf := evF PP T n) (fl := 0) (H := [.blk 1 [[.sl f (ints a)]], .blk 1 [[.sl k (ints b)]], .blk 1 [[.sl h (ints c)]], .blk 1 [[.sl false (ints (mrg a b))]]]) _ _ e2
    have g2 := ib_eql _ _ e1.symm
    cases hca : cov c a with
    | false =>
      rw [hca] at c3
      cases hab : cov a b with
      | false =>
        rw [hab] at c6
        exact pv_o ⟨[(15, bv true, none), (20, cl false (mrg a b), none), (23, bv true, none), (28, bv true, none), (35, cl false (mrg a b), none), (36, bv true, none), (42, cl false (mrg (mrg a b) c), none), (46, cl false (mrg b c), none), (47, cl false (mrg (mrg a b) c), none), (48, bv true, none), (54, cl false (mrg a b), none), (56, bv true, none), (74, .tup [iv (cmpN (cov a b) (cov b a)), bv (cmpB (cov a b) (cov b a))], none), (80, .tup [iv (cmpN (cov b a) (cov a b)), bv (cmpB (cov b a) (cov a b))], none), (83, bv true, none), (87, bv true, none), (93, bv true, none), (61, bv false, none), (98, bv false, none)], []⟩ [] [] (F := F5) rfl
          (ps := [PropOf c6, PropOf g2, PropOf g1, PropOf hwk, PropOf d2, PropOf d1, PropOf c3, PropOf h7, PropOf h6, PropOf h8, PropOf h5, PropOf h4, PropOf h3, PropOf h7, PropOf h2, PropOf c2, PropOf c1, PropOf h1, PropOf hsm]) (by kernel_rfl) ⟨c6, g2, g1, hwk, d2, d1, c3, h7, h6, h8, h5, h4, h3, h7, h2, c2, c1, h1, hsm, trivial⟩
      | true =>
        rw [hab] at c6
        cases hbc : cov b c with
        | false =>
          rw [hbc] at c7
          exact pv_o ⟨[(15, bv true, none), (20, cl false (mrg a b), none), (23, bv true, none), (28, bv true, none), (35, cl false (mrg a b), none), (36, bv true, none), (42, cl false (mrg (mrg a b) c), none), (46, cl false (mrg b c), none), (47, cl false (mrg (mrg a b) c), none), (48, bv true, none), (54, cl false (mrg a b), none), (56, bv true, none), (74, .tup [iv (cmpN (cov a b) (cov b a)), bv (cmpB (cov a b) (cov b a))], none), (80, .tup [iv (cmpN (cov b a) (cov a b)), bv (cmpB (cov b a) (cov a b))], none), (83, bv true, none), (87, bv true, none), (93, bv true, none), (61, bv false, none), (98, bv true, none), (103, bv false, none)], []⟩ [] [] (F := F5) rfl
            (ps := [PropOf c7, PropOf c6, PropOf g2, PropOf g1, PropOf hwk, PropOf d2, PropOf d1, PropOf c3, PropOf h7, PropOf h6, PropOf h8, PropOf h5, PropOf h4, PropOf h3, PropOf h7, PropOf h2, PropOf c2, PropOf c1, PropOf h1, PropOf hsm]) (by kernel_rfl) ⟨c7, c6, g2, g1, hwk, d2, d1, c3, h7, h6, h8, h5, h4, h3, h7, h2, c2, c1, h1, hsm, trivial⟩
        | true =>
          rw [hbc] at c7
          rw [cov_trans hab hbc] at c8
          exact pv_o ⟨[(15, bv true, none), (20, cl false (mrg a b), none), (23, bv true, none), (28, bv true, none), (35, cl false (mrg a b), none), (36, bv true, none), (42, cl false (mrg (mrg a b) c), none), (46, cl false (mrg b c), none), (47, cl false (mrg (mrg a b) c), none), (48, bv true, none), (54, cl false (mrg a b), none), (56, bv true, none), (74, .tup [iv (cmpN (cov a b) (cov b a)), bv (cmpB (cov a b) (cov b a))], none), (80, .tup [iv (cmpN (cov b a) (cov a b)), bv (cmpB (cov b a) (cov a b))], none), (83, bv true, none), (87, bv true, none), (93, bv true, none), (61, bv false, none), (98, bv true, none), (103, bv true, none), (109, bv true, none)], []⟩ [] [] (F := F5) rfl
            (ps := [PropOf c8, PropOf c7, PropOf c6, PropOf g2, PropOf g1, PropOf hwk, PropOf d2, PropOf d1, PropOf c3, PropOf h7, PropOf h6, PropOf h8, PropOf h5, PropOf h4, PropOf h3, PropOf h7, PropOf h2, PropOf c2, PropOf c1, PropOf h1, PropOf hsm]) (by kernel_rfl) ⟨c8, c7, c6, g2, g1, hwk, d2, d1, c3, h7, h6, h8, h5, h4, h3, h7, h2, c2, c1, h1, hsm, trivial⟩
    | true =>
      rw [hca] at c3
      rw [← cov_mrg a b c hca] at c5
      cases hab : cov a b with
      | false =>
        rw [hab] at c6
        exact pv_o ⟨[(15, bv true, none), (20, cl false (mrg a b), none), (23, bv true, none), (28, bv true, none), (35, cl false (mrg a b), none), (36, bv true, none), (42, cl false (mrg (mrg a b) c), none), (46, cl false (mrg b c), none), (47, cl false (mrg (mrg a b) c), none), (48, bv true, none), (54, cl false (mrg a b), none), (56, bv true, none), (74, .tup [iv (cmpN (cov a b) (cov b a)), bv (cmpB (cov a b) (cov b a))], none), (80, .tup [iv (cmpN (cov b a) (cov a b)), bv (cmpB (cov b a) (cov a b))], none), (83, bv true, none), (87, bv true, none), (93, bv true, none), (61, bv true, none), (65, bv (cov c b), none), (68, bv (cov c b), none), (69, bv false, none), (98, bv false, none)], []⟩ [] [] (F := F5) rfl
          (ps := [PropOf c6, PropOf g2, PropOf g1, PropOf hwk, PropOf d2, PropOf d1, PropOf g0, PropOf c5, PropOf c4, PropOf c3, PropOf h7, PropOf h6, PropOf h8, PropOf h5, PropOf h4, PropOf h3, PropOf h7, PropOf h2, PropOf c2, PropOf c1, PropOf h1, PropOf hsm]) (by kernel_rfl) ⟨c6, g2, g1, hwk, d2, d1, g0, c5, c4, c3, h7, h6, h8, h5, h4, h3, h7, h2, c2, c1, h1, hsm, trivial⟩
      | true =>
        rw [hab] at c6
        cases hbc : cov b c with
        | false =>
          rw [hbc] at c7
          exact pv_o ⟨[(15, bv true, none), (20, cl false (mrg a b), none), (23, bv true, none), (28, bv true, none), (35, cl false (mrg a b), none), (36, bv true, none), (42, cl false (mrg (mrg a b) c), none), (46, cl false (mrg b c), none), (47, cl false (mrg (mrg a b) c), none), (48, bv true, none), (54, cl false (mrg a b), none), (56, bv true, none), (74, .tup [iv (cmpN (cov a b) (cov b a)), bv (cmpB (cov a b) (cov b a))], none), (80, .tup [iv (cmpN (cov b a) (cov a b)), bv (cmpB (cov b a) (cov a b))], none), (83, bv true, none), (87, bv true, none), (93, bv true, none), (61, bv true, none), (65, bv (cov c b), none), (68, bv (cov c b), none), (69, bv false, none), (98, bv true, none), (103, bv false, none)], []⟩ [] [] (F := F5) rfl
            (ps := [PropOf c7, PropOf c6, PropOf g2, PropOf g1, PropOf hwk, PropOf d2, PropOf d1, PropOf g0, PropOf c5, PropOf c4, PropOf c3, PropOf h7, PropOf h6, PropOf h8, PropOf h5, PropOf h4, PropOf h3, PropOf h7, PropOf h2, PropOf c2, PropOf c1, PropOf h1, PropOf hsm]) (by kernel_rfl) ⟨c7, c6, g2, g1, hwk, d2, d1, g0, c5, c4, c3, h7, h6, h8, h5, h4, h3, h7, h2, c2, c1, h1, hsm, trivial⟩
        | true =>
          rw [hbc] at c7
          rw [cov_trans hab hbc] at c8
          exact pv_o ⟨[(15, bv true, none), (20, cl false (mrg a b), none), (23, bv true, none), (28, bv true, none), (35, cl false (mrg a b), none), (36, bv true, none), (42, cl false (mrg (mrg a b) c), none), (46, cl false (mrg b c), none), (47, cl false (mrg (mrg a b) c), none), (48, bv true, none), (54, cl false (mrg a b), none), (56, bv true, none), (74, .tup [iv (cmpN (cov a b) (cov b a)), bv (cmpB (cov a b) (cov b a))], none), (80, .tup [iv (cmpN (cov b a) (cov a b)), bv (cmpB (cov b a) (cov a b))], none), (83, bv true, none), (87, bv true, none), (93, bv true, none), (61, bv true, none), (65, bv (cov c b), none), (68, bv (cov c b), none), (69, bv false, none), (98, bv true, none), (103, bv true, none), (109, bv true, none)], []⟩ [] [] (F := F5) rfl
            (ps := [PropOf c8, PropOf c7, PropOf c6, PropOf g2, PropOf g1, PropOf hwk, PropOf d2, PropOf d1, PropOf g0, PropOf c5, PropOf c4, PropOf c3, PropOf h7, PropOf h6, PropOf h8, PropOf h5, PropOf h4, PropOf h3, PropOf h7, PropOf h2, PropOf c2, PropOf c1, PropOf h1, PropOf hsm]) (by kernel_rfl) ⟨c8, c7, c6, g2, g1, hwk, d2, d1, g0, c5, c4, c3, h7, h6, h8, h5, h4, h3, h7, h2, c2, c1, h1, hsm, trivial⟩
  · rw [decide_eq_false hl] at hsm
    exact pv_o ⟨[(15, bv false, none), (17, bv true, none)], []⟩ [] [] (F := F5) rfl (ps := [PropOf hwk, PropOf hsm]) (by kernel_rfl) ⟨hwk, hsm, trivial⟩

theorem orders_pv (hwk : pv PP T 200 0 [] = some (bv true)) (f k h : Bool) (a b c : List Int) : pv PP T 201 5 [cl f a, cl k b, cl h c] = some (bv true) := orders_pv' 200 (by omega) hwk f k h a b c
end Go.Proofs.Ytjnknfppndabjaa.Av
