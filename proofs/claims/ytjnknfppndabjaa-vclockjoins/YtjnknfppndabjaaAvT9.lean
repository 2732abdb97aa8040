/- A part of the proof of VclockJoinsSaid: an evaluator of the program, proved sound, and what it says. -/
import Derived.Test.YtjnknfppndabjaaAvT8
namespace Go.Proofs.Ytjnknfppndabjaa.Av
open Go
set_option linter.unusedSimpArgs false
set_option linter.unusedVariables false

/-! ### the reference's Of -/
def hasS (f : Bool) (t : List Tx) (o s : Int) (i : Nat) : St := ⟨[.sl f (t.map encT), iv o, iv s, .undef, .undef, .undef, .undef, iv (i : Nat), .undef, .undef, .undef, .undef, .undef, .undef, .undef, .undef, .undef, .undef, .undef, .undef, .undef, .undef, .undef, .undef, .undef, .undef, .undef, .undef, .undef, .undef], []⟩

theorem has_pv (n : Nat) (f : Bool) (t : List Tx) (ht : t.length ≤ 1000) (hn : t.length + 3 ≤ n) (o s : Int) : pv PP T n 33 [.sl f (t.map encT), iv o, iv s] = some (bv (mem2 t o s)) := by
  obtain ⟨n, rfl⟩ : ∃ m, n = m + 1 := ⟨n - 1, by omega⟩
  have h1 : evOp PP (evF PP T n) 0 (.lenS (.tmp 0)) [.sl f (t.map encT)] [] = some (iv (t.length : Nat), []) := len_sl (by simp)
  obtain ⟨k, hk, hin, hout⟩ := first_fail (fun i => ¬ ((t.getD i (0, 0, 0)).1 = o ∧ (t.getD i (0, 0, 0)).2.1 = s)) t.length
  have hs : ∀ i, i < k → nextIs (headSt (some [true, true, true, false, false, false, false, true]) false 0 0) (evC PP (evF PP T n) n 0 L33_0 (hasS f t o s i)) (hasS f t o s (i + 1)) := by
    intro i hi
    have h2 := ib_lss_t (a := (i : Nat)) (b := (t.length : Nat)) (by omega)
    have h3 := idx_sl (H := []) (f := f) (i := (i : Nat)) rfl (map_get (0, 0, 0) encT (show i < t.length by omega)) (s := 5) rfl
    have h5 := ib_add (a := (i : Nat)) (b := 1) (c := (i + 1 : Nat)) (by omega) (by omega) (by omega)
    have h6 := hin i hi
    by_cases e1 : (t.getD i (0, 0, 0)).1 = o
    · have e2 : ¬ (t.getD i (0, 0, 0)).2.1 = s := fun e => h6 ⟨e1, e⟩
      have g1 := ib_eql_v (a := (t.getD i (0, 0, 0)).1) (b := o) (c := true) (by simpa using e1)
      have g2 := ib_eql_v (a := (t.getD i (0, 0, 0)).2.1) (b := s) (c := false) (by simpa using e2)
      exact next_o ⟨[(10, iv (t.length : Nat), none), (11, bv true, none), (16, .rptr (encT (t.getD i (0, 0, 0))), none), (20, bv true, none), (24, .rptr (encT (t.getD i (0, 0, 0))), none), (28, bv false, none), (13, iv (i + 1 : Nat), none)], []⟩ [] []
        (ps := [PropOf h5, PropOf g2, PropOf h3, PropOf g1, PropOf h3, PropOf h2, PropOf h1]) (by kernel_rfl) ⟨h5, g2, h3, g1, h3, h2, h1, trivial⟩
    · have g1 := ib_eql_v (a := (t.getD i (0, 0, 0)).1) (b := o) (c := false) (by simpa using e1)
      exact next_o ⟨[(10, iv (t.length : Nat), none), (11, bv true, none), (16, .rptr (encT (t.getD i (0, 0, 0))), none), (20, bv false, none), (13, iv (i + 1 : Nat), none)], []⟩ [] []
        (ps := [PropOf h5, PropOf g1, PropOf h3, PropOf h2, PropOf h1]) (by kernel_rfl) ⟨h5, g1, h3, h2, h1, trivial⟩
  have hm : mem2 t o s = true ↔ ∃ j, j < t.length ∧ (t.getD j (0, 0, 0)).1 = o ∧ (t.getD j (0, 0, 0)).2.1 = s := by
    rw [mem2_iff]
    simp only [txK, Prod.mk.injEq]
  rcases hout with rfl | ⟨h3, h4⟩
  · have he : evC PP (evF PP T n) n 0 L33_0 (hasS f t o s t.length) = some (.exit 0, ⟨[.sl f (t.map encT), iv o, iv s, .undef, .undef, .undef, .undef, iv (t.length : Nat), iv (t.length : Nat), .sl f (t.map encT), iv (t.length : Nat), bv false, .undef, .undef, .undef, .undef, .undef, .undef, .undef, .undef, .undef, .undef, .undef, .undef, .undef, .undef, .undef, .undef, .undef, .undef], []⟩) := by
      have h2 := ib_lss_f (a := (t.length : Nat)) (b := (t.length : Nat)) (by omega)
      exact exit_o (by simp) ⟨[(10, iv (t.length : Nat), none), (11, bv false, none)], []⟩ [] [] (ps := [PropOf h2, PropOf h1]) (by kernel_rfl) ⟨h2, h1, trivial⟩
    have hloop := evLoopH_run (n := n) (hasS f t o s) (by simp) (by omega) hs he
    have hf : mem2 t o s = false := by
      cases h : mem2 t o s with
      | false => rfl
      | true =>
        obtain ⟨j, hj, e⟩ := hm.1 h
        exact (hin j hj e).elim
    rw [hf]
    exact pv_o (F := F33) ⟨[], []⟩ [(.exit 0, ⟨[.sl f (t.map encT), iv o, iv s, .undef, .undef, .undef, .undef, iv (t.length : Nat), iv (t.length : Nat), .sl f (t.map encT), iv (t.length : Nat), bv false, .undef, .undef, .undef, .undef, .undef, .undef, .undef, .undef, .undef, .undef, .undef, .undef, .undef, .undef, .undef, .undef, .undef, .undef], []⟩)] [] rfl (ps := [PropOf hloop]) (by kernel_rfl) ⟨hloop, trivial⟩
  · have e := Decidable.not_not.1 h4
    have he : evC PP (evF PP T n) n 0 L33_0 (hasS f t o s k) = some (.ret, ⟨[.sl f (t.map encT), iv o, iv s, .undef, .undef, .undef, bv true, iv (k : Nat), iv (k : Nat), .sl f (t.map encT), iv (t.length : Nat), bv true, .undef, .undef, .sl f (t.map encT), iv (k : Nat), .rptr (encT (t.getD k (0, 0, 0))), .rptr (encT (t.getD k (0, 0, 0))), iv (t.getD k (0, 0, 0)).1, iv o, bv true, bv true, .sl f (t.map encT), iv (k : Nat), .rptr (encT (t.getD k (0, 0, 0))), .rptr ((encT (t.getD k (0, 0, 0))).drop 1), iv (t.getD k (0, 0, 0)).2.1, iv s, bv true, bv true], []⟩) := by
      have h2 := ib_lss_t (a := (k : Nat)) (b := (t.length : Nat)) (by omega)
      have h3 := idx_sl (H := []) (f := f) (i := (k : Nat)) rfl (map_get (0, 0, 0) encT (show k < t.length by omega)) (s := 5) rfl
      have g1 := ib_eql_v (a := (t.getD k (0, 0, 0)).1) (b := o) (c := true) (by simpa using e.1)
      have g2 := ib_eql_v (a := (t.getD k (0, 0, 0)).2.1) (b := s) (c := true) (by simpa using e.2)
      exact exit_o (by simp) ⟨[(10, iv (t.length : Nat), none), (11, bv true, none), (16, .rptr (encT (t.getD k (0, 0, 0))), none), (20, bv true, none), (24, .rptr (encT (t.getD k (0, 0, 0))), none), (28, bv true, none)], []⟩ [] []
        (ps := [PropOf g2, PropOf h3, PropOf g1, PropOf h3, PropOf h2, PropOf h1]) (by kernel_rfl) ⟨g2, h3, g1, h3, h2, h1, trivial⟩
    have hloop := evLoopH_run (n := n) (hasS f t o s) (by simp) (by omega) hs he
    rw [hm.2 ⟨k, h3, e⟩]
    exact pv_o (F := F33) ⟨[], []⟩ [(.ret, ⟨[.sl f (t.map encT), iv o, iv s, .undef, .undef, .undef, bv true, iv (k : Nat), iv (k : Nat), .sl f (t.map encT), iv (t.length : Nat), bv true, .undef, .undef, .sl f (t.map encT), iv (k : Nat), .rptr (encT (t.getD k (0, 0, 0))), .rptr (encT (t.getD k (0, 0, 0))), iv (t.getD k (0, 0, 0)).1, iv o, bv true, bv true, .sl f (t.map encT), iv (k : Nat), .rptr (encT (t.getD k (0, 0, 0))), .rptr ((encT (t.getD k (0, 0, 0))).drop 1), iv (t.getD k (0, 0, 0)).2.1, iv s, bv true, bv true], []⟩)] [] rfl (ps := [PropOf hloop]) (by kernel_rfl) ⟨hloop, trivial⟩

def roH (t : List Tx) (i : Nat) : Heap := [.blk 1 [[.lit nilS]], .blk 1 (ints (valsOf (cOf t) i))]
def roS (f : Bool) (t : List Tx) (i : Nat) : St := ⟨[.sl f (t.map encT), .undef, .ptr 0 1 0 0, .ms 1 i 0 i, iv (i + 1 : Nat), .undef, .undef, .undef, .undef, .undef, .undef, .undef, .undef, .undef, .undef, .undef, .undef, .undef, .undef, .undef, .undef, .undef, .undef], roH t i⟩
def riS (f : Bool) (t : List Tx) (i j : Nat) : St := ⟨[.sl f (t.map encT), .undef, .ptr 0 1 0 0, .ms 1 i 0 i, iv (i + 1 : Nat), iv (j : Nat), .undef, .undef, .undef, .undef, .undef, .undef, .undef, .undef, .undef, .undef, .undef, .undef, .undef, .undef, .undef, .undef, .undef], roH t i⟩
def riE (f : Bool) (t : List Tx) (i j : Nat) : St := ⟨[.sl f (t.map encT), .undef, .ptr 0 1 0 0, .ms 1 i 0 i, iv (i + 1 : Nat), iv (j : Nat), .undef, .undef, .undef, .undef, .sl f (t.map encT), iv (i + 1 : Nat), iv (j : Nat), iv (j + 1 : Nat), bv false, .undef, .undef, .undef, .undef, .undef, .undef, .undef, .undef], roH t i⟩

theorem rof_pv (n : Nat) (f : Bool) (t : List Tx) (ht : t.length ≤ 1000) (hn : t.length + 70 ≤ n) : pv PP T n 16 [.sl f (t.map encT)] = some (cl false (clk t)) := by
  obtain ⟨n, rfl⟩ : ∃ m, n = m + 1 := ⟨n - 1, by omega⟩
  have hin : ∀ i : Nat, i < 8 → evLoopH (headSt (some [true, false, true, true, true, true]) false 0 2) (evC PP (evF PP T n) n 0 L16_1) n (riS f t i 0) = some (.exit 2, riE f t i (cOf t (i + 1 : Nat)).toNat) := by
    intro i hi
    obtain ⟨k, e, hk, hi1, ho⟩ := cOf_spec t (i + 1 : Nat)
    rw [e, Int.toNat_natCast]
    have hh : ∀ j : Nat, pv PP T n 33 [.sl f (t.map encT), iv (i + 1 : Nat), iv (j + 1 : Nat)] = some (bv (mem2 t (i + 1 : Nat) (j + 1 : Nat))) := fun j => has_pv n f t ht (by omega) _ _
    refine evLoopH_run (n := n) (k := k) (riS f t i) (by simp) (by omega) ?_ ?_
    · intro j hj
      have h1 := hh j
      have e3 : ((j + 1 : Nat) : Int) = (j : Int) + 1 := by omega
      rw [e3, hi1 j hj, ← e3] at h1
      have h5 := ib_add (a := (j : Nat)) (b := 1) (c := (j + 1 : Nat)) (by omega) (by omega) (by omega)
      exact next_o ⟨[(13, iv (j + 1 : Nat), none), (14, bv true, none), (16, iv (j + 1 : Nat), none)], []⟩ [] [] (ps := [PropOf h5, PropOf h1, PropOf h5]) (by kernel_rfl) ⟨h5, h1, h5, trivial⟩
    · have h1 := hh k
      have e3 : ((k + 1 : Nat) : Int) = (k : Int) + 1 := by omega
      rw [e3, ho, ← e3] at h1
      have h5 := ib_add (a := (k : Nat)) (b := 1) (c := (k + 1 : Nat)) (by omega) (by omega) (by omega)
      exact exit_o (by simp) ⟨[(13, iv (k + 1 : Nat), none), (14, bv false, none)], []⟩ [] [] (ps := [PropOf h1, PropOf h5]) (by kernel_rfl) ⟨h1, h5, trivial⟩
  have hs : ∀ i, i < 8 → nextIs (headSt (some [true, false, true, true, true]) false 0 2) (evC PP (evF PP T n) n 0 L16_0 (roS f t i)) (roS f t (i + 1)) := by
    intro i hi
    have h1 := hin i hi
    obtain ⟨k, e, hk, _, _⟩ := cOf_spec t (i + 1 : Nat)
    rw [e, Int.toNat_natCast] at h1
    have h2 := ib_leq_t (a := (i + 1 : Nat)) (b := 8) (by omega)
    have h4 := appendA_ms (fl := 0) (id := 1) (s := 1) (bytes := 8) (tot := i) (H := roH t i) (ys := [[iv (k : Nat)]]) rfl (by rw [ints_len, valsOf_len]) rfl (by omega) rfl (by simp [room]; omega) (by omega)
    have e4 : ints (valsOf (cOf t) i) ++ [[iv (k : Nat)]] = ints (valsOf (cOf t) (i + 1)) := by
      rw [valsOf_succ, ← ints_app]
      have e5 : (i : Int) + 1 = (i + 1 : Nat) := by omega
      rw [e5, e]
      rfl
    rw [e4] at h4
    have h5 := ib_add (a := (i + 1 : Nat)) (b := 1) (c := (i + 1 + 1 : Nat)) (by omega) (by omega) (by omega)
    exact next_o ⟨[(7, bv true, none), (20, .ms 1 (i + 1) 0 (i + 1), some (roH t (i + 1))), (9, iv (i + 1 + 1 : Nat), none)], []⟩ [(.exit 2, riE f t i k)] [] (ps := [PropOf h5, PropOf h4, PropOf h1, PropOf h2]) (by kernel_rfl) ⟨h5, h4, h1, h2, trivial⟩
  have he : evC PP (evF PP T n) n 0 L16_0 (roS f t 8) = some (.exit 0, ⟨[.sl f (t.map encT), .undef, .ptr 0 1 0 0, .ms 1 8 0 8, iv 9, .undef, iv 9, bv false, .undef, .undef, .undef, .undef, .undef, .undef, .undef, .undef, .undef, .undef, .undef, .undef, .undef, .undef, .undef], roH t 8⟩) :=
    exit_o (by simp) ⟨[], []⟩ [] [] (ps := []) (by kernel_rfl) trivial
  have hloop := evLoopH_run (n := n) (roS f t) (by simp) (by omega) hs he
  have hr := rshort_pv n (valsOf (cOf t) 8) (by rw [valsOf_len]; omega) (by omega)
  exact pv_evF (evF_o (F := F16) ⟨[(22, cl false (clk t), none)], []⟩ [(.exit 0, ⟨[.sl f (t.map encT), .undef, .ptr 0 1 0 0, .ms 1 8 0 8, iv 9, .undef, iv 9, bv false, .undef, .undef, .undef, .undef, .undef, .undef, .undef, .undef, .undef, .undef, .undef, .undef, .undef, .undef, .undef], roH t 8⟩)] [] rfl (r := cl false (clk t)) (H' := [.blk 1 [[.sl false (ints (clk t))]], .blk 1 (ints (valsOf (cOf t) 8) ++ [[.undef]])]) (ps := [PropOf hr, PropOf hloop]) (by kernel_rfl) ⟨hr, hloop, trivial⟩) rfl

/-! ### VclockCounts -/
theorem mem2_tx3 (l : List (Int × Int)) (o s : Int) : mem2 (tx3 l) o s = true ↔ (o, s) ∈ l := by
  rw [mem2_iff]
  have hl : (tx3 l).length = l.length := by simp [tx3, tab_len]
  have hg : ∀ j, j < l.length → txK ((tx3 l).getD j (0, 0, 0)) = l.getD j (0, 0) := by
    intro j hj
    have : (tx3 l)[j]? = some ((l.getD j (0, 0)).1, (l.getD j (0, 0)).2, (j : Int)) := tab_get _ hj
    rw [List.getD_eq_getElem?_getD, this]
    rfl
  rw [hl]
  constructor
  · rintro ⟨j, hj, e⟩
    rw [hg j hj] at e
    rw [← e, List.getD_eq_getElem?_getD, List.getElem?_eq_getElem hj]
    exact List.getElem_mem hj
  · intro h
    obtain ⟨j, hj, e⟩ := List.mem_iff_getElem.1 h
    exact ⟨j, hj, by rw [hg j hj, List.getD_eq_getElem?_getD, List.getElem?_eq_getElem hj]; exact e⟩

def backL (l : List (Int × Int)) : Nat → List (Int × Int)
  | 0 => []
  | j + 1 => backL l j ++ [l.getD (l.length - 1 - j) (0, 0), l.getD (l.length - 1 - j) (0, 0)]
theorem backL_len (l : List (Int × Int)) : ∀ j, (backL l j).length = 2 * j
  | 0 => rfl
  | j + 1 => by simp [backL, backL_len l j]; omega
theorem backL_mem (l : List (Int × Int)) (x : Int × Int) : ∀ j, j ≤ l.length → (x ∈ backL l j ↔ ∃ i, i < j ∧ l.getD (l.length - 1 - i) (0, 0) = x)
  | 0, _ => by simp [backL]
  | j + 1, h => by
    simp only [backL, List.mem_append, backL_mem l x j (by omega), List.mem_cons, List.not_mem_nil, or_false]
    constructor
    · rintro (⟨i, h1, h2⟩ | h1 | h1)
      · exact ⟨i, by omega, h2⟩
      · exact ⟨j, by omega, h1.symm⟩
      · exact ⟨j, by omega, h1.symm⟩
    · rintro ⟨i, h1, h2⟩
      rcases Nat.lt_or_ge i j with h3 | h3
      · exact .inl ⟨i, h3, h2⟩
      · have : i = j := by omega
        subst this
        exact .inr (.inl h2.symm)
theorem backL_all (l : List (Int × Int)) (x : Int × Int) : x ∈ backL l l.length ↔ x ∈ l := by
  rw [backL_mem l x _ (Nat.le_refl _)]
  constructor
  · rintro ⟨i, h1, h2⟩
    rw [← h2, List.getD_eq_getElem?_getD, List.getElem?_eq_getElem (show l.length - 1 - i < l.length by omega)]
    exact List.getElem_mem _
  · intro h
    obtain ⟨j, hj, e⟩ := List.mem_iff_getElem.1 h
    refine ⟨l.length - 1 - j, by omega, ?_⟩
    have : l.length - 1 - (l.length - 1 - j) = j := by omega
    rw [this, List.getD_eq_getElem?_getD, List.getElem?_eq_getElem hj]
    exact e

theorem clk_back (l : List (Int × Int)) : clk (tx3 (backL l l.length)) = clk (tx3 l) := by
  unfold clk
  congr 2
  funext o
  refine cOf_congr (fun o s => ?_) o
  rw [Bool.eq_iff_iff, mem2_tx3, mem2_tx3, backL_all]

theorem tx3_len (l : List (Int × Int)) : (tx3 l).length = l.length := by simp [tx3, tab_len]
theorem clk_len (t : List Tx) : (clk t).length ≤ 60 := by
  have := trim_len (valsOf (cOf t) 8)
  rw [valsOf_len] at this
  unfold clk
  omega

theorem frz_ms {cf : Nat → Nat → List AV → Heap → Option (AV × Heap)} {fl : Nat} {H : Heap} {id s m : Nat} {es : List (List AV)} (h : H[id]? = some (.blk s es)) (hl : es.length = m) (hfl : fl ≤ id) (hp : ∀ e ∈ es, e.map toP = e) :
    evOp PP cf fl (.freeze (.tmp 0)) [.ms id m 0 m] H = some (.sl false es, H.set id (.blk s (es ++ [List.replicate s .undef]))) := by
  simp only [evOp, getOpd, List.getElem?_cons_zero, hfl, if_true, h, hl, List.drop_zero, List.take_of_length_le, Nat.le_refl]
  have : es.map (fun e => e.map toP) = es := by
    conv => rhs; rw [← List.map_id es]
    exact List.map_congr_left hp
  rw [this]

theorem appendA_2 {fl id s bytes tot m : Nat} {H : Heap} {es ys zs : List (List AV)} (hid : H[id]? = some (.blk s es)) (hes : es.length = tot) (hys : allLen s ys = true) (hs : 0 < s) (hm : tot + ys.length = m) (hz : es ++ ys = zs) (hr : room ys.length bytes = true)
    (hr2 : room m bytes = true) (hfl : fl ≤ id) :
    appendA fl H s bytes (.ms id tot 0 tot) ys = some (.ms id m 0 m, H.set id (.blk s zs)) := by
  subst hm hz
  exact appendA_ms hid hes hys hs hr hr2 hfl

def cbH (l : List (Int × Int)) (j : Nat) : Heap := [.blk 1 [[.sl false (ints (clk (tx3 l)))]], .blk 2 ((backL l j).map encM)]
def cbS (f : Bool) (l : List (Int × Int)) (j : Nat) : St := ⟨[.sl f (l.map encM), .undef, .undef, .ptr 0 1 0 0, .ms 1 (2 * j) 0 (2 * j), iv ((l.length : Int) - 1 - (j : Nat)), .undef, .undef, .undef, .undef, .undef, .undef, .undef, .undef, .undef, .undef, .undef, .undef, .undef, .undef, .undef, .undef, .undef, .undef, .undef, .undef, .undef, .undef, .undef, .undef, .undef, .undef, .undef, .undef, .undef, .undef, .undef, .undef, .undef, .undef, .undef, .undef, .undef, .undef, .undef, .undef, .undef], cbH l j⟩
def cbE (f : Bool) (l : List (Int × Int)) : St := ⟨[.sl f (l.map encM), .undef, .undef, .ptr 0 1 0 0, .ms 1 (2 * l.length) 0 (2 * l.length), iv ((l.length : Int) - 1 - (l.length : Nat)), .undef, .undef, .undef, .undef, .undef, .undef, .undef, .undef, .undef, .undef, .undef, iv ((l.length : Int) - 1 - (l.length : Nat)), bv false, .undef, .undef, .undef, .undef, .undef, .undef, .undef, .undef, .undef, .undef, .undef, .undef, .undef, .undef, .undef, .undef, .undef, .undef, .undef, .undef, .undef, .undef, .undef, .undef, .undef, .undef, .undef, .undef], cbH l l.length⟩

theorem counts_pv' (n : Nat) (hn : 199 ≤ n) (hwk : pv PP T n 0 [] = some (bv true)) (f : Bool) (l : List (Int × Int)) : pv PP T (n + 1) 1 [.sl f (l.map encM)] = some (bv true) := by
  have hfew := few_nil_pv n (by omega) f (l.map encM)
  rw [List.length_map] at hfew
  by_cases hl : l.length ≤ 60
  · rw [decide_eq_true hl] at hfew
    have ht := txns_pv n f l (by omega) (by omega)
    have hof := of_pv n false (tx3 l) (by rw [tx3_len]; omega) (by rw [tx3_len]; omega)
    have hrof := rof_pv n false (tx3 l) (by rw [tx3_len]; omega) (by rw [tx3_len]; omega)
    have hsame := same_pv n false false (clk (tx3 l)) (clk (tx3 l)) (clk_len _) (by omega)
    rw [decide_eq_true (rfl : clk (tx3 l) = clk (tx3 l))] at hsame
    have htb := txns_pv n false (backL l l.length) (by rw [backL_len]; omega) (by rw [backL_len]; omega)
    have hofb := of_pv n false (tx3 (backL l l.length)) (by rw [tx3_len, backL_len]; omega) (by rw [tx3_len, backL_len]; omega)
    rw [clk_back] at hofb
    have hs : ∀ j, j < l.length → nextIs (headSt (some [true, false, false, true, true, true]) false 0 2) (evC PP (evF PP T n) n 0 L1_0 (cbS f l j)) (cbS f l (j + 1)) := by
      intro j hj
      have h1 := ib_geq_t (a := (l.length : Int) - 1 - (j : Nat)) (b := 0) (by omega)
      have h2 := idx_sl (H := cbH l j) (f := f) (i := (l.length : Int) - 1 - (j : Nat)) (j := l.length - 1 - j) (by omega) (map_get (0, 0) encM (show l.length - 1 - j < l.length by omega)) (s := 2) rfl
      have h3 := appendA_2 (fl := 0) (id := 1) (s := 2) (bytes := 16) (tot := 2 * j) (m := 2 * (j + 1)) (H := cbH l j) (ys := [encM (l.getD (l.length - 1 - j) (0, 0)), encM (l.getD (l.length - 1 - j) (0, 0))]) (zs := (backL l (j + 1)).map encM) rfl (by rw [List.length_map, backL_len]) rfl (by omega) (by simp; omega) (by simp [backL]) rfl (by simp [room]; omega) (by omega)
      have h4 := ib_sub (a := (l.length : Int) - 1 - (j : Nat)) (b := 1) (c := (l.length : Int) - 1 - (j + 1 : Nat)) (by omega) (by omega) (by omega)
      exact next_o ⟨[(18, bv true, none), (24, .rptr (encM (l.getD (l.length - 1 - j) (0, 0))), none), (28, .rptr (encM (l.getD (l.length - 1 - j) (0, 0))), none), (31, .ms 1 (2 * (j + 1)) 0 (2 * (j + 1)), some (cbH l (j + 1))), (20, iv ((l.length : Int) - 1 - (j + 1 : Nat)), none)], []⟩ [] [] (ps := [PropOf h4, PropOf h3, PropOf h2, PropOf h2, PropOf h1]) (by kernel_rfl) ⟨h4, h3, h2, h2, h1, trivial⟩
    have he : evC PP (evF PP T n) n 0 L1_0 (cbS f l l.length) = some (.exit 0, cbE f l) := by
      have h1 := ib_geq_f (a := (l.length : Int) - 1 - (l.length : Nat)) (b := 0) (by omega)
      exact exit_o (by simp) ⟨[(18, bv false, none)], []⟩ [] [] (ps := [PropOf h1]) (by kernel_rfl) ⟨h1, trivial⟩
    have hloop := evLoopH_run (n := n) (cbS f l) (by simp) (by omega) hs he
    have hlen : evOp PP (evF PP T n) 0 (.lenS (.tmp 0)) [.sl f (l.map encM)] (cbH l 0) = some (iv (l.length : Nat), cbH l 0) := len_sl (by simp)
    have hsub := ib_sub (a := (l.length : Nat)) (b := 1) (c := (l.length : Int) - 1 - (0 : Nat)) (by omega) (by omega) (by omega)
    have hfz := frz_ms (cf := evF PP T n) (fl := 0) (H := cbH l l.length) (id := 1) (s := 2) (m := 2 * l.length) (es := (backL l l.length).map encM) rfl (by rw [List.length_map, backL_len]) (by omega) (fun e he => by
      simp only [List.mem_map] at he
      obtain ⟨x, _, rfl⟩ := he
      rfl)
    exact pv_o (F := F1) ⟨[(7, bv true, none), (11, .sl false ((tx3 l).map encT), none), (12, cl false (clk (tx3 l)), none), (15, iv (l.length : Nat), none), (16, iv ((l.length : Int) - 1 - (0 : Nat)), none), (100004, .sl false ((backL l l.length).map encM), some ((cbH l l.length).set 1 (.blk 2 ((backL l l.length).map encM ++ [List.replicate 2 .undef])))),
      (32, bv true, none), (36, .sl false ((tx3 l).map encT), none), (37, cl false (clk (tx3 l)), none), (38, bv true, none), (42, .sl false ((tx3 (backL l l.length)).map encT), none), (43, cl false (clk (tx3 l)), none), (45, bv true, none)], []⟩ [(.exit 0, cbE f l)] [] rfl
      (ps := [PropOf hsame, PropOf hofb, PropOf htb, PropOf hsame, PropOf hrof, PropOf ht, PropOf hwk, PropOf hfz, PropOf hloop, PropOf hsub, PropOf hlen, PropOf hof, PropOf ht, PropOf hfew]) (by kernel_rfl) ⟨hsame, hofb, htb, hsame, hrof, ht, hwk, hfz, hloop, hsub, hlen, hof, ht, hfew, trivial⟩
  · rw [decide_eq_false hl] at hfew
    exact pv_o (F := F1) ⟨[(7, bv false, none), (9, bv true, none)], []⟩ [] [] rfl (ps := [PropOf hwk, PropOf hfew]) (by kernel_rfl) ⟨hwk, hfew, trivial⟩

theorem counts_pv (hwk : pv PP T 200 0 [] = some (bv true)) (l : List (Int × Int)) : pv PP T 201 1 [.sl false (l.map encM)] = some (bv true) := counts_pv' 200 (by omega) hwk false l
end Go.Proofs.Ytjnknfppndabjaa.Av
