/- A part of the proof of VclockJoinsSaid: an evaluator of the program, proved sound, and what it says. -/
import Derived.Test.YtjnknfppndabjaaAvT10
namespace Go.Proofs.Ytjnknfppndabjaa.Av
open Go
set_option linter.unusedSimpArgs false
set_option linter.unusedVariables false

def stS (f g : Bool) (t : List Tx) (i : Nat) : St := ⟨[.sl f (t.map encT), .sl g (t.map encT), .undef, .undef, .undef, iv (i : Nat), .undef, .undef, .undef, .undef, .undef, .undef, .undef, .undef, .undef, .undef, .undef, .undef, .undef, .undef, .undef, .undef, .undef, .undef, .undef, .undef, .undef, .undef, .undef, .undef, .undef, .undef, .undef, .undef, .undef, .undef, .undef, .undef, .undef, .undef, .undef, .undef, .undef, .undef, .undef, .undef, .undef, .undef, .undef, .undef, .undef, .undef, .undef, .undef, .undef, .undef, .undef, .undef, .undef, .undef, .undef, .undef, .undef, .undef, .undef, .undef, .undef, .undef, .undef, .undef, .undef, .undef, .undef, .undef, .undef, .undef, .undef, .undef, .undef, .undef, .undef, .undef], []⟩
def stE (f g : Bool) (t : List Tx) : St := ⟨[.sl f (t.map encT), .sl g (t.map encT), .undef, .undef, .undef, iv (t.length : Nat), .undef, .undef, .undef, .undef, .undef, iv (t.length : Nat), .sl f (t.map encT), iv (t.length : Nat), bv false, .undef, .undef, .undef, .undef, .undef, .undef, .undef, .undef, .undef, .undef, .undef, .undef, .undef, .undef, .undef, .undef, .undef, .undef, .undef, .undef, .undef, .undef, .undef, .undef, .undef, .undef, .undef, .undef, .undef, .undef, .undef, .undef, .undef, .undef, .undef, .undef, .undef, .undef, .undef, .undef, .undef, .undef, .undef, .undef, .undef, .undef, .undef, .undef, .undef, .undef, .undef, .undef, .undef, .undef, .undef, .undef, .undef, .undef, .undef, .undef, .undef, .undef, .undef, .undef, .undef, .undef, .undef], []⟩

theorem sameTxns_pv (n : Nat) (f g : Bool) (t : List Tx) (ht : t.length ≤ 1000) (hn : t.length + 3 ≤ n) : pv PP T n 23 [.sl f (t.map encT), .sl g (t.map encT)] = some (bv true) := by
  obtain ⟨n, rfl⟩ : ∃ m, n = m + 1 := ⟨n - 1, by omega⟩
  have h1 : evOp PP (evF PP T n) 0 (.lenS (.tmp 0)) [.sl f (t.map encT)] [] = some (iv (t.length : Nat), []) := len_sl (by simp)
  have h1' : evOp PP (evF PP T n) 0 (.lenS (.tmp 0)) [.sl g (t.map encT)] [] = some (iv (t.length : Nat), []) := len_sl (by simp)
  have hs : ∀ i, i < t.length → nextIs (headSt (some [true, true, false, false, false, true]) false 0 0) (evC PP (evF PP T n) n 0 L23_0 (stS f g t i)) (stS f g t (i + 1)) := by
    intro i hi
    have h2 := ib_lss_t (a := (i : Nat)) (b := (t.length : Nat)) (by omega)
    have h3 := idx_sl (H := []) (f := f) (i := (i : Nat)) rfl (map_get (0, 0, 0) encT hi) (s := 5) rfl
    have h4 := idx_sl (H := []) (f := g) (i := (i : Nat)) rfl (map_get (0, 0, 0) encT hi) (s := 5) rfl
    have h5 := ib_add (a := (i : Nat)) (b := 1) (c := (i + 1 : Nat)) (by omega) (by omega) (by omega)
    have g1 := ib_neq_f (a := (t.getD i (0, 0, 0)).1) rfl
    have g2 := ib_neq_f (a := (t.getD i (0, 0, 0)).2.1) rfl
    have g3 := ib_neq_f (a := (t.getD i (0, 0, 0)).2.2) rfl
    exact next_o ⟨[(13, iv (t.length : Nat), none), (14, bv true, none), (19, .rptr (encT (t.getD i (0, 0, 0))), none), (24, .rptr (encT (t.getD i (0, 0, 0))), none), (27, bv false, none), (31, .rptr (encT (t.getD i (0, 0, 0))), none), (36, .rptr (encT (t.getD i (0, 0, 0))), none), (39, bv false, none), (44, .rptr (encT (t.getD i (0, 0, 0))), none), (49, .rptr (encT (t.getD i (0, 0, 0))), none), (52, bv false, none), (57, .rptr (encT (t.getD i (0, 0, 0))), none), (63, .rptr (encT (t.getD i (0, 0, 0))), none), (72, .rptr (encT (t.getD i (0, 0, 0))), none), (77, .rptr (encT (t.getD i (0, 0, 0))), none), (16, iv (i + 1 : Nat), none)], []⟩ [] []
      (ps := [PropOf h5, PropOf h4, PropOf h3, PropOf h4, PropOf h3, PropOf g3, PropOf h4, PropOf h3, PropOf g2, PropOf h4, PropOf h3, PropOf g1, PropOf h4, PropOf h3, PropOf h2, PropOf h1]) (by kernel_rfl) ⟨h5, h4, h3, h4, h3, g3, h4, h3, g2, h4, h3, g1, h4, h3, h2, h1, trivial⟩
  have he : evC PP (evF PP T n) n 0 L23_0 (stS f g t t.length) = some (.exit 0, stE f g t) := by
    have h2 := ib_lss_f (a := (t.length : Nat)) (b := (t.length : Nat)) (by omega)
    exact exit_o (by simp) ⟨[(13, iv (t.length : Nat), none), (14, bv false, none)], []⟩ [] [] (ps := [PropOf h2, PropOf h1]) (by kernel_rfl) ⟨h2, h1, trivial⟩
  have hloop := evLoopH_run (n := n) (stS f g t) (by simp) (by omega) hs he
  have h6 := ib_neq_f (a := (t.length : Nat)) rfl
  exact pv_o (F := F23) ⟨[(7, iv (t.length : Nat), none), (9, iv (t.length : Nat), none), (10, bv false, none)], []⟩ [(.exit 0, stE f g t)] [] rfl (ps := [PropOf hloop, PropOf h6, PropOf h1', PropOf h1]) (by kernel_rfl) ⟨hloop, h6, h1', h1, trivial⟩

theorem miss_len (l : List Int) (t : List Tx) : (miss l t).length ≤ t.length := missAt_len l t t.length

theorem missing_pv' (n : Nat) (hn : 199 ≤ n) (hwk : pv PP T n 0 [] = some (bv true)) (f g : Bool) (c : List Int) (l : List (Int × Int)) : pv PP T (n + 1) 4 [cl f c, .sl g (l.map encM)] = some (bv true) := by
  have hsm := small_pv n (by omega) f f f c c c
  have hfew := few_nil_pv n (by omega) g (l.map encM)
  rw [List.length_map] at hfew
  by_cases hc : c.length ≤ 20 ∧ c.length ≤ 20 ∧ c.length ≤ 20
  · rw [decide_eq_true hc] at hsm
    by_cases hl : l.length ≤ 60
    · rw [decide_eq_true hl] at hfew
      have ht := txns_pv n g l (by omega) (by omega)
      have h1 := missing_pv n f false c (tx3 l) (by rw [tx3_len]; omega) (by rw [tx3_len]; omega)
      have h2 := rmissing_pv n f false c (tx3 l) (by rw [tx3_len]; omega) (by rw [tx3_len]; omega)
      have hm := miss_len c (tx3 l)
      rw [tx3_len] at hm
      have h3 := sameTxns_pv n false false (miss c (tx3 l)) (by omega) (by omega)
      exact pv_o (F := F4) ⟨[(8, bv true, none), (12, bv true, none), (16, bv true, none), (20, .sl false ((tx3 l).map encT), none), (21, .sl false ((miss c (tx3 l)).map encT), none), (24, .sl false ((tx3 l).map encT), none), (25, .sl false ((miss c (tx3 l)).map encT), none), (26, bv true, none)], []⟩ [] [] rfl
        (ps := [PropOf h3, PropOf h2, PropOf ht, PropOf h1, PropOf ht, PropOf hwk, PropOf hfew, PropOf hsm]) (by kernel_rfl) ⟨h3, h2, ht, h1, ht, hwk, hfew, hsm, trivial⟩
    · rw [decide_eq_false hl] at hfew
      exact pv_o (F := F4) ⟨[(8, bv true, none), (12, bv false, none), (15, bv true, none)], []⟩ [] [] rfl (ps := [PropOf hwk, PropOf hfew, PropOf hsm]) (by kernel_rfl) ⟨hwk, hfew, hsm, trivial⟩
  · rw [decide_eq_false hc] at hsm
    exact pv_o (F := F4) ⟨[(8, bv false, none), (15, bv true, none)], []⟩ [] [] rfl (ps := [PropOf hwk, PropOf hsm]) (by kernel_rfl) ⟨hwk, hsm, trivial⟩

theorem missing_law (hwk : pv PP T 200 0 [] = some (bv true)) (c : List Int) (l : List (Int × Int)) : pv PP T 201 4 [cl false c, .sl false (l.map encM)] = some (bv true) := missing_pv' 200 (by omega) hwk false false c l

/-! ### VclockJoins -/
theorem cOf_mono {t u : List Tx} {o : Int} (h : ∀ s, mem2 t o s = true → mem2 u o s = true) : cOf t o ≤ cOf u o := by
  obtain ⟨k, e, _, h1, h2⟩ := cOf_spec t o
  obtain ⟨j, e', _, h3, h4⟩ := cOf_spec u o
  rw [e, e']
  rcases Nat.lt_or_ge j k with hlt | hge
  · rw [h _ (h1 j hlt)] at h4; cases h4
  · omega

theorem cOf_nonneg (t : List Tx) (o : Int) : 0 ≤ cOf t o := by
  obtain ⟨k, e, _⟩ := cOf_spec t o
  omega

theorem cnt_clk (t : List Tx) (i : Nat) (hi : i < 8) : cnt (clk t) (i + 1) = cOf t (i + 1) := by
  have h := cnt_trim (fun o => if 1 ≤ o ∧ o ≤ 8 then cOf t o else 0) (fun o => by
    have := cOf_nonneg t o
    split <;> omega) (fun o ho => by rw [if_neg (by omega)]) (i + 1)
  have e : valsOf (fun o => if 1 ≤ o ∧ o ≤ 8 then cOf t o else 0) 8 = valsOf (cOf t) 8 := by
    unfold valsOf
    refine List.map_congr_left fun j hj => ?_
    have : j < 8 := by simpa using hj
    show (if 1 ≤ (j : Int) + 1 ∧ (j : Int) + 1 ≤ 8 then cOf t ((j : Int) + 1) else 0) = cOf t ((j : Int) + 1)
    rw [if_pos (by omega)]
  rw [e, if_pos (by omega)] at h
  exact h

theorem cov_join (a b : List (Int × Int)) : cov (clk (tx3 (a ++ b))) (mrg (clk (tx3 a)) (clk (tx3 b))) = true := by
  rw [cov_iff]
  intro i hi
  rw [cnt_mrg, cnt_clk _ i hi, cnt_clk _ i hi, cnt_clk _ i hi]
  have h1 : cOf (tx3 a) (i + 1) ≤ cOf (tx3 (a ++ b)) (i + 1) := cOf_mono fun s h => by
    rw [mem2_tx3] at h ⊢
    exact List.mem_append_left _ h
  have h2 : cOf (tx3 b) (i + 1) ≤ cOf (tx3 (a ++ b)) (i + 1) := cOf_mono fun s h => by
    rw [mem2_tx3] at h ⊢
    exact List.mem_append_right _ h
  simp only [mx]
  split <;> omega

theorem missAt_nil (t : List Tx) : ∀ i, (missAt [] t i).length = i
  | 0 => rfl
  | i + 1 => by
    have hk : knw [] (t.getD i (0, 0, 0)) = false := by
      unfold knw
      rw [cnt_nil]
      simp
      omega
    simp only [missAt, hk]
    simp [missAt_nil t i]

def joH (c : List Int) (l : List (Int × Int)) : Heap := [.blk 2 (l.map encM ++ [List.replicate 2 .undef]), .blk 1 [[.sl false (ints c)]]]
def joS (c : List Int) (l : List (Int × Int)) (i : Nat) : St := ⟨[.undef, .undef, .undef, .undef, .undef, .sl false (l.map encM), .ptr 1 1 0 0, iv ((missAt c (tx3 l) i).length : Nat), iv (i : Nat), .undef, .undef, .undef, .undef, .undef, .undef, .undef, .undef, .undef, .undef, .undef, .undef, .undef, .undef, .undef, .undef, .undef, .undef, .undef, .undef, .undef, .undef, .undef, .undef, .undef, .undef, .undef, .undef, .undef, .undef, .undef, .undef, .undef, .undef, .undef, .undef, .undef, .undef, .undef, .undef, .undef, .undef, .undef, .undef, .undef, .undef, .undef, .undef, .undef, .undef, .undef, .undef, .undef, .undef, .undef, .undef, .undef, .undef, .undef, .undef, .undef, .undef, .undef, .undef], joH c l⟩
def joE (c : List Int) (l : List (Int × Int)) (i : Nat) : St := ⟨[.undef, .undef, .undef, .undef, .undef, .sl false (l.map encM), .ptr 1 1 0 0, iv ((missAt c (tx3 l) i).length : Nat), iv (i : Nat), .undef, .undef, .undef, .undef, .undef, .undef, .undef, .undef, .undef, .undef, .undef, .undef, .undef, .undef, .undef, .undef, .undef, .undef, .undef, .undef, .undef, .undef, .undef, iv (i : Nat), .sl false (l.map encM), iv (l.length : Nat), bv false, .undef, .undef, .undef, .undef, .undef, .undef, .undef, .undef, .undef, .undef, .undef, .undef, .undef, .undef, .undef, .undef, .undef, .undef, .undef, .undef, .undef, .undef, .undef, .undef, .undef, .undef, .undef, .undef, .undef, .undef, .undef, .undef, .undef, .undef, .undef, .undef, .undef], joH c l⟩

theorem append_ms_sl {fl s bytes tot m : Nat} {H : Heap} {id : Nat} {f : Bool} {es ys zs : List (List AV)} (hid : H[id]? = some (.blk s es)) (hes : es.length = tot) (hys : allLen s ys = true) (hs : 0 < s) (hm : tot + ys.length = m) (hz : es ++ ys = zs) (hr : room ys.length bytes = true)
    (hr2 : room m bytes = true) (hfl : fl ≤ id) : (match rd H (.sl f ys) with | some ys => appendA fl H s bytes (.ms id tot 0 tot) ys | none => none) = some (.ms id m 0 m, H.set id (.blk s zs)) :=
  appendA_2 hid hes hys hs hm hz hr hr2 hfl

theorem encM_allLen (l : List (Int × Int)) : allLen 2 (l.map encM) = true := by
  simp [allLen, encM]

theorem joins_pv' (n : Nat) (hn : 199 ≤ n) (hwk : pv PP T n 0 [] = some (bv true)) (f g : Bool) (a b : List (Int × Int)) : pv PP T (n + 1) 6 [.sl f (a.map encM), .sl g (b.map encM)] = some (bv true) := by
  have hfew := few_pv n (by omega) f g (a.map encM) (b.map encM)
  rw [List.length_map, List.length_map] at hfew
  by_cases hl : a.length ≤ 60 ∧ b.length ≤ 60
  · rw [decide_eq_true hl] at hfew
    obtain ⟨ha, hb⟩ := hl
    have e0 : ((a ++ b)).length = a.length + b.length := by simp
    have p1 := append_ms_sl (fl := 0) (s := 2) (bytes := 16) (tot := 0) (m := a.length) (H := [.blk 2 []]) (id := 0) (f := f) (es := []) (ys := a.map encM) (zs := a.map encM) rfl rfl (encM_allLen a) (by omega) (by simp) (by simp) (by simp [room]; omega) (by simp [room]; omega) (by omega)
    have p2 := append_ms_sl (fl := 0) (s := 2) (bytes := 16) (tot := a.length) (m := (a ++ b).length) (H := [.blk 2 (a.map encM)]) (id := 0) (f := g) (es := a.map encM) (ys := b.map encM) (zs := (a ++ b).map encM) rfl (by simp) (encM_allLen b) (by omega) (by simp) (by simp) (by simp [room]; omega) (by simp [room]; omega) (by omega)
    have p3 := frz_ms (cf := evF PP T n) (fl := 0) (H := [.blk 2 ((a ++ b).map encM)]) (id := 0) (s := 2) (m := (a ++ b).length) (es := (a ++ b).map encM) rfl (by simp) (by omega) (fun e he => by
      simp only [List.mem_map] at he
      obtain ⟨x, _, rfl⟩ := he
      rfl)
    have t0 := txns_pv n false (a ++ b) (by omega) (by omega)
    have o0 := of_pv n false (tx3 (a ++ b)) (by rw [tx3_len]; omega) (by rw [tx3_len]; omega)
    have ta := txns_pv n f a (by omega) (by omega)
    have oa := of_pv n false (tx3 a) (by rw [tx3_len]; omega) (by rw [tx3_len]; omega)
    have tb := txns_pv n g b (by omega) (by omega)
    have ob := of_pv n false (tx3 b) (by rw [tx3_len]; omega) (by rw [tx3_len]; omega)
    have hm := merge_pv n (by omega) false false (clk (tx3 a)) (clk (tx3 b))
    have hcv := lcovers_pv n (by omega) false false (clk (tx3 (a ++ b))) (mrg (clk (tx3 a)) (clk (tx3 b)))
    rw [cov_join] at hcv
    have m1 := missing_pv n false false (clk (tx3 (a ++ b))) (tx3 (a ++ b)) (by rw [tx3_len]; omega) (by rw [tx3_len]; omega)
    have m2 := missing0_pv n false [] (tx3 (a ++ b)) (by rw [tx3_len]; omega) (by rw [tx3_len]; omega)
    generalize hgl : a ++ b = l at *
    generalize hgc : clk (tx3 l) = c at *
    have hlen : ∀ H : Heap, evOp PP (evF PP T n) 0 (.lenS (.tmp 0)) [.sl false (l.map encM)] H = some (iv (l.length : Nat), H) := fun H => len_sl (by simp)
    have hs : ∀ i, i < l.length → nextIs (headSt (some [false, false, false, false, false, true, true, true, true]) false 0 2) (evC PP (evF PP T n) n 0 L6_0 (joS c l i)) (joS c l (i + 1)) := by
      intro i hi
      have h1 := hlen (joH c l)
      have h2 := ib_lss_t (a := (i : Nat)) (b := (l.length : Nat)) (by omega)
      have h3 := idx_sl (H := joH c l) (f := false) (i := (i : Nat)) rfl (map_get (0, 0) encM hi) (s := 2) rfl
      have h4 := knows_pv n (by omega) false c (l.getD i (0, 0)).1 (l.getD i (0, 0)).2
      have h5 := ib_add (a := (i : Nat)) (b := 1) (c := (i + 1 : Nat)) (by omega) (by omega) (by omega)
      have hml := missAt_len c (tx3 l) i
      have hget : (tx3 l).getD i (0, 0, 0) = ((l.getD i (0, 0)).1, (l.getD i (0, 0)).2, (i : Int)) := by
        have : (tx3 l)[i]? = some ((l.getD i (0, 0)).1, (l.getD i (0, 0)).2, (i : Int)) := tab_get _ hi
        rw [List.getD_eq_getElem?_getD, this]
        rfl
      have hkn : knw c ((tx3 l).getD i (0, 0, 0)) = decide (1 ≤ (l.getD i (0, 0)).2 ∧ (l.getD i (0, 0)).2 ≤ cnt c (l.getD i (0, 0)).1) := by rw [hget]; rfl
      rw [← hkn] at h4
      cases hk : knw c ((tx3 l).getD i (0, 0, 0)) with
      | true =>
        have e : missAt c (tx3 l) (i + 1) = missAt c (tx3 l) i := by simp only [missAt]; rw [if_pos hk]
        rw [hk] at h4
        have := next_o (P := PP) (cf := evF PP T n) (lf := n) (fl := 0) (head := headSt (some [false, false, false, false, false, true, true, true, true]) false 0 2) (c := L6_0) (st := joS c l i) ⟨[(34, iv (l.length : Nat), none), (35, bv true, none), (41, .rptr (encM (l.getD i (0, 0))), none), (46, .rptr (encM (l.getD i (0, 0))), none), (49, bv true, none), (37, iv (i + 1 : Nat), none)], []⟩ [] []
          (st' := ⟨[.undef, .undef, .undef, .undef, .undef, .sl false (l.map encM), .ptr 1 1 0 0, iv ((missAt c (tx3 l) i).length : Nat), iv (i + 1 : Nat), .undef, .undef, .undef, .undef, .undef, .undef, .undef, .undef, .undef, .undef, .undef, .undef, .undef, .undef, .undef, .undef, .undef, .undef, .undef, .undef, .undef, .undef, .undef, .undef, .undef, .undef, .undef, .undef, .undef, .undef, .undef, .undef, .undef, .undef, .undef, .undef, .undef, .undef, .undef, .undef, .undef, .undef, .undef, .undef, .undef, .undef, .undef, .undef, .undef, .undef, .undef, .undef, .undef, .undef, .undef, .undef, .undef, .undef, .undef, .undef, .undef, .undef, .undef, .undef], joH c l⟩)
          (ps := [PropOf h5, PropOf h4, PropOf h3, PropOf h3, PropOf h2, PropOf h1]) (by kernel_rfl) ⟨h5, h4, h3, h3, h2, h1, trivial⟩
        unfold joS
        rw [e]
        exact this
      | false =>
        have e : missAt c (tx3 l) (i + 1) = missAt c (tx3 l) i ++ [(tx3 l).getD i (0, 0, 0)] := by simp only [missAt]; rw [hk]; rfl
        rw [hk] at h4
        have h6 := ib_add (a := ((missAt c (tx3 l) i).length : Nat)) (b := 1) (c := ((missAt c (tx3 l) (i + 1)).length : Nat)) (by rw [e]; simp) (by omega) (by rw [e]; simp; omega)
        exact next_o ⟨[(34, iv (l.length : Nat), none), (35, bv true, none), (41, .rptr (encM (l.getD i (0, 0))), none), (46, .rptr (encM (l.getD i (0, 0))), none), (49, bv false, none), (52, iv ((missAt c (tx3 l) (i + 1)).length : Nat), none), (37, iv (i + 1 : Nat), none)], []⟩ [] []
          (ps := [PropOf h5, PropOf h6, PropOf h4, PropOf h3, PropOf h3, PropOf h2, PropOf h1]) (by kernel_rfl) ⟨h5, h6, h4, h3, h3, h2, h1, trivial⟩
    have he : evC PP (evF PP T n) n 0 L6_0 (joS c l l.length) = some (.exit 0, joE c l l.length) := by
      have h1 := hlen (joH c l)
      have h2 := ib_lss_f (a := (l.length : Nat)) (b := (l.length : Nat)) (by omega)
      exact exit_o (by simp) ⟨[(34, iv (l.length : Nat), none), (35, bv false, none)], []⟩ [] [] (ps := [PropOf h2, PropOf h1]) (by kernel_rfl) ⟨h2, h1, trivial⟩
    have hloop := evLoopH_run (n := n) (joS c l) (by simp) (by omega) hs he
    have q1 : evOp PP (evF PP T n) 0 (.lenS (.tmp 0)) [.sl false ((miss c (tx3 l)).map encT)] (joH c l) = some (iv ((missAt c (tx3 l) l.length).length : Nat), joH c l) := len_sl (by rw [List.length_map, miss, tx3_len])
    have q2 := ib_eql _ _ (rfl : (((missAt c (tx3 l) l.length).length : Nat) : Int) = ((missAt c (tx3 l) l.length).length : Nat))
    have q3 : evOp PP (evF PP T n) 0 (.lenS (.tmp 0)) [.sl false ((miss [] (tx3 l)).map encT)] (joH c l) = some (iv (l.length : Nat), joH c l) := len_sl (by rw [List.length_map, miss, tx3_len, missAt_nil])
    have q4 := hlen (joH c l)
    have q5 := ib_eql _ _ (rfl : ((l.length : Nat) : Int) = (l.length : Nat))
    exact pv_o (F := F6) ⟨[(11, bv true, none), (16, .ms 0 a.length 0 a.length, some [.blk 2 (a.map encM)]), (18, .ms 0 l.length 0 l.length, some [.blk 2 (l.map encM)]), (100005, .sl false (l.map encM), some [.blk 2 (l.map encM ++ [List.replicate 2 .undef])]),
      (20, .sl false ((tx3 l).map encT), none), (21, cl false c, none), (24, .sl false ((tx3 a).map encT), none), (25, cl false (clk (tx3 a)), none), (27, .sl false ((tx3 b).map encT), none), (28, cl false (clk (tx3 b)), none), (29, cl false (mrg (clk (tx3 a)) (clk (tx3 b))), none), (30, bv true, none),
      (53, bv true, none), (57, .sl false ((tx3 l).map encT), none), (58, .sl false ((miss c (tx3 l)).map encT), none), (59, iv ((missAt c (tx3 l) l.length).length : Nat), none), (61, bv true, none), (66, .sl false ((tx3 l).map encT), none), (67, .sl false ((miss [] (tx3 l)).map encT), none), (68, iv (l.length : Nat), none), (70, iv (l.length : Nat), none), (71, bv true, none)], []⟩ [(.exit 0, joE c l l.length)] [] rfl
      (ps := [PropOf q5, PropOf q4, PropOf q3, PropOf m2, PropOf t0, PropOf q2, PropOf q1, PropOf m1, PropOf t0, PropOf hwk, PropOf hloop, PropOf hcv, PropOf hm, PropOf ob, PropOf tb, PropOf oa, PropOf ta, PropOf o0, PropOf t0, PropOf p3, PropOf p2, PropOf p1, PropOf hfew]) (by kernel_rfl)
      ⟨q5, q4, q3, m2, t0, q2, q1, m1, t0, hwk, hloop, hcv, hm, ob, tb, oa, ta, o0, t0, p3, p2, p1, hfew, trivial⟩
  · rw [decide_eq_false hl] at hfew
    exact pv_o (F := F6) ⟨[(11, bv false, none), (13, bv true, none)], []⟩ [] [] rfl (ps := [PropOf hwk, PropOf hfew]) (by kernel_rfl) ⟨hwk, hfew, trivial⟩

theorem joins_pv (hwk : pv PP T 200 0 [] = some (bv true)) (a b : List (Int × Int)) : pv PP T 201 6 [.sl false (a.map encM), .sl false (b.map encM)] = some (bv true) := joins_pv' 200 (by omega) hwk false false a b
end Go.Proofs.Ytjnknfppndabjaa.Av
