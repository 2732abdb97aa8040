/- A part of the proof of VclockJoinsSaid: an evaluator of the program, proved sound, and what it says. -/
import Derived.Test.YtjnknfppndabjaaAvT7
namespace Go.Proofs.Ytjnknfppndabjaa.Av
open Go
set_option linter.unusedSimpArgs false
set_option linter.unusedVariables false

/-! ### a map with pairs as its keys -/
theorem eq_int (a b : Int) : pureRun PP (Op.equalIn 9999 3 (.int .i64 a) (.int .i64 b)) = some (a == b) := by
  kernel_rfl

def kE (k : Int × Int) : Value := .agg #[.int .i64 k.1, .int .i64 k.2]
def entE (k : Int × Int) : Value × AV := (kE k, bv true)

theorem eq_arr2 (k m : Int × Int) : pureRun PP (Op.equal 48 (kE k) (kE m)) = some (k == m) := by
  obtain ⟨a, b⟩ := k
  obtain ⟨c, d⟩ := m
  have h1 : pureRun PP (underlying 48) = some (.array 2 3) := by kernel_rfl
  have h2 : pureRun PP (sizeOf 3) = some 1 := by kernel_rfl
  have h3 : ∀ x y : Value, pureRun PP (part 3 #[x, y] 0) = some x := by intro x y; kernel_rfl
  have h4 : ∀ x y : Value, pureRun PP (part 3 #[x, y] 1) = some y := by intro x y; kernel_rfl
  unfold Op.equal Op.maxDepth kE
  rw [Op.equalIn]
  simp only [pureRun_bind, h1, Option.bind_some, h2, Std.Legacy.Range.forIn_eq_forIn_range', Std.Legacy.Range.size, Nat.sub_zero, Nat.add_one_sub_one, Nat.div_one, Nat.reduceAdd, Nat.reduceSub, Nat.reduceDiv, List.range', List.forIn_cons, List.forIn_nil, Nat.zero_mul, Nat.one_mul, Nat.zero_add, h3, h4, eq_int]
  have e : ((a, b) == (c, d)) = (a == c && b == d) := rfl
  rw [e]
  cases h5 : (a == c)
  · rfl
  · simp only [Bool.not_true, Bool.false_eq_true, if_false, pureRun_pure, Option.bind_some, pureRun_bind, h3, h4, eq_int]
    cases h6 : (b == d) <;> rfl

theorem find_asking (k : Int × Int) : ∀ (ks : List (Int × Int)) (i : Nat), pureRun PP (Instr.findAsking 48 (kE k) (ks.map fun x => { key := kE x, val := .bool false, born := 0 }) i) = some ((ks.findIdx? (k == ·)).map fun j => (i + j, .bool false))
  | [], i => rfl
  | x :: r, i => by
    simp only [List.map_cons, Instr.findAsking, pureRun_bind, eq_arr2, Option.bind_some, pureRun_ite, List.findIdx?_cons]
    cases h : (k == x) with
    | true => simp [pureRun_pure]
    | false =>
      simp only [Bool.false_eq_true, if_false, find_asking k r (i + 1)]
      cases List.findIdx? (fun x => k == x) r with
      | none => rfl
      | some j => simp; omega

theorem findA_ks (k : Int × Int) (ks : List (Int × Int)) : findA PP 48 (kE k) (ks.map entE) = some (ks.findIdx? (k == ·)) := by
  unfold findA
  have e : (ks.map entE).map (fun e => ({ key := e.1, val := .bool false, born := 0 } : MapEntry)) = ks.map fun x => { key := kE x, val := .bool false, born := 0 } := by simp [entE]
  rw [e]
  have h1 : pureRun PP (underlying 48) = some (.array 2 3) := by kernel_rfl
  simp only [Instr.findKey, pureRun_bind, h1, Option.bind_some]
  cases ks with
  | nil => rfl
  | cons x r =>
    have : Instr.findNow (.array 2 3) (kE k) ((x :: r).map fun x => { key := kE x, val := .bool false, born := 0 }) 0 = none := rfl
    simp only [this, find_asking]
    cases (List.findIdx? (fun x => k == x) (x :: r)) with
    | none => rfl
    | some j => simp

theorem check_key (e : Bool) (k : Int × Int) : pureRun PP (Instr.checkKey e 10000 48 (kE k)) = some () := by
  cases e <;> kernel_rfl

def addK (ks : List (Int × Int)) (k : Int × Int) : List (Int × Int) := if k ∈ ks then ks else ks ++ [k]

theorem findIdx_none {k : Int × Int} {ks : List (Int × Int)} (h : k ∉ ks) : ks.findIdx? (k == ·) = none := by
  rw [List.findIdx?_eq_none_iff]
  intro x hx
  simp only [beq_eq_false_iff_ne, ne_eq]
  intro e
  subst e
  exact h hx
theorem findIdx_some {k : Int × Int} {ks : List (Int × Int)} (h : k ∈ ks) : ∃ j, ks.findIdx? (k == ·) = some j ∧ ks[j]? = some k := by
  cases hf : ks.findIdx? (k == ·) with
  | none =>
    rw [List.findIdx?_eq_none_iff] at hf
    have := hf k h
    simp at this
  | some j =>
    refine ⟨j, rfl, ?_⟩
    rw [List.findIdx?_eq_some_iff_getElem] at hf
    obtain ⟨hj, h1, _⟩ := hf
    rw [List.getElem?_eq_getElem hj]
    simp only [beq_iff_eq] at h1
    rw [← h1]

section
variable {cf : Nat → Nat → List AV → Heap → Option (AV × Heap)} {fl : Nat} {H : Heap}
theorem lookup_ks {id : Nat} {ks : List (Int × Int)} (k : Int × Int) (hH : H[id]? = some (.mp (ks.map entE))) : evOp PP cf fl (.lookup 48 (.tmp 2) (.tmp 0) (.tmp 1) false) [.mp id, .agg [iv k.1, iv k.2], bv false] H = some (bv (decide (k ∈ ks)), H) := by
  have e1 : lits (.agg [iv k.1, iv k.2]) = some (kE k) := rfl
  simp only [evOp, getOpd, List.getElem?_cons_zero, List.getElem?_cons_succ, e1, hH, check_key, findA_ks]
  by_cases h : k ∈ ks
  · obtain ⟨j, h1, h2⟩ := findIdx_some h
    simp [h1, h2, h, entE]
  · simp [findIdx_none h, h]

theorem sameBits_kE (k : Int × Int) : Instr.sameBits 10000 (kE k) (kE k) = true := by
  obtain ⟨a, b⟩ := k
  simp [Instr.sameBits, kE]

theorem upd_ks {id : Nat} {ks : List (Int × Int)} (k : Int × Int) (hfl : fl ≤ id) (hH : H[id]? = some (.mp (ks.map entE))) : evOp PP cf fl (.mapUpd 48 (.tmp 0) (.tmp 1) (.tmp 2)) [.mp id, .agg [iv k.1, iv k.2], bv true] H = some (.lit undefV, H.set id (.mp ((addK ks k).map entE))) := by
  have e1 : lits (.agg [iv k.1, iv k.2]) = some (kE k) := rfl
  simp only [evOp, getOpd, List.getElem?_cons_zero, List.getElem?_cons_succ, e1, hH, check_key, findA_ks, hfl, if_true]
  unfold addK
  by_cases h : k ∈ ks
  · obtain ⟨j, h1, h2⟩ := findIdx_some h
    have h3 : (ks.map entE)[j]? = some (entE k) := by simp [h2]
    simp only [h1, h3]
    have h4 : (entE k).1 = kE k := rfl
    rw [h4, sameBits_kE, if_pos rfl, if_pos h]
    have : (ks.map entE).set j (kE k, bv true) = ks.map entE := by
      apply List.ext_getElem?
      intro i
      rw [List.getElem?_set]
      split
      · rename_i hi; subst hi
        split
        · rw [h3]; rfl
        · rename_i hlt
          rw [List.getElem?_eq_none (by simpa using hlt)]
      · rfl
    rw [this]
  · simp only [findIdx_none h, if_neg h, List.map_append, List.map_cons, List.map_nil]
    rfl
end

def txK (t : Tx) : Int × Int := (t.1, t.2.1)
def ksAt (t : List Tx) : Nat → List (Int × Int)
  | 0 => []
  | i + 1 => addK (ksAt t i) (txK (t.getD i (0, 0, 0)))

theorem addK_mem (ks : List (Int × Int)) (k x : Int × Int) : x ∈ addK ks k ↔ x ∈ ks ∨ x = k := by
  unfold addK
  split
  · rename_i h
    constructor
    · exact .inl
    · rintro (h1 | rfl)
      · exact h1
      · exact h
  · simp

theorem ksAt_mem (t : List Tx) : ∀ (i : Nat) (x : Int × Int), i ≤ t.length → (x ∈ ksAt t i ↔ ∃ j, j < i ∧ txK (t.getD j (0, 0, 0)) = x)
  | 0, x, _ => by simp [ksAt]
  | i + 1, x, h => by
    rw [ksAt, addK_mem, ksAt_mem t i x (by omega)]
    constructor
    · rintro (⟨j, h1, h2⟩ | rfl)
      · exact ⟨j, by omega, h2⟩
      · exact ⟨i, by omega, rfl⟩
    · rintro ⟨j, h1, h2⟩
      rcases Nat.lt_or_ge j i with h3 | h3
      · exact .inl ⟨j, h3, h2⟩
      · have : j = i := by omega
        subst this
        exact .inr h2.symm

theorem mem2_iff (t : List Tx) (o s : Int) : mem2 t o s = true ↔ ∃ j, j < t.length ∧ txK (t.getD j (0, 0, 0)) = (o, s) := by
  simp only [mem2, List.any_eq_true, Bool.and_eq_true, beq_iff_eq]
  constructor
  · rintro ⟨x, hx, e1, e2⟩
    obtain ⟨j, hj, rfl⟩ := List.mem_iff_getElem.1 hx
    exact ⟨j, hj, by simp [txK, hj, e1, e2]⟩
  · rintro ⟨j, hj, e⟩
    refine ⟨t[j], List.getElem_mem hj, ?_⟩
    simp [txK, hj] at e
    exact e

theorem ksAt_dec (t : List Tx) (o s : Int) : decide ((o, s) ∈ ksAt t t.length) = mem2 t o s := by
  rw [Bool.eq_iff_iff, decide_eq_true_iff, ksAt_mem t _ _ (Nat.le_refl _), mem2_iff]

/-! ### vclock.Of -/
def o1S (o : Int) (i : Nat) (H : Heap) : St := ⟨[iv o, .ptr 2 1 0 0, .undef, .undef, iv (i : Nat), .undef, .undef, .undef, .undef, .undef, .undef, .undef, .undef, .undef], H⟩
def o1E (o : Int) (i : Nat) (H : Heap) : St := ⟨[iv o, .ptr 2 1 0 0, .undef, .undef, iv (i : Nat), .mp 1, iv o, iv (i : Nat), iv (i + 1 : Nat), .agg [iv o, iv (i + 1 : Nat)], bv false, .undef, .undef, .undef], H⟩

theorem of1_ev (n : Nat) (t : List Tx) (ht : t.length ≤ 1000) (hn : t.length + 3 ≤ n) (o : Int) (h0 h3 h4 : AObj) :
    evF PP T n 5 25 [iv o, .ptr 2 1 0 0] [h0, .mp ((ksAt t t.length).map entE), .blk 1 [[.mp 1]], h3, h4] = some (iv (cOf t o), [h0, .mp ((ksAt t t.length).map entE), .blk 1 [[.mp 1]], h3, h4]) := by
  obtain ⟨n, rfl⟩ : ∃ m, n = m + 1 := ⟨n - 1, by omega⟩
  obtain ⟨k, e, hk, hin, hout⟩ := cOf_spec t o
  have hlk : ∀ i : Nat, evOp PP (evF PP T n) 5 (.lookup 48 (.tmp 2) (.tmp 0) (.tmp 1) false) [.mp 1, .agg [iv o, iv (i + 1 : Nat)], bv false] [h0, .mp ((ksAt t t.length).map entE), .blk 1 [[.mp 1]], h3, h4] = some (bv (mem2 t o (i + 1 : Nat)), [h0, .mp ((ksAt t t.length).map entE), .blk 1 [[.mp 1]], h3, h4]) := by
    intro i
    rw [← ksAt_dec]
    exact lookup_ks (o, (i + 1 : Nat)) rfl
  have hs : ∀ i, i < k → nextIs (headSt (some [true, true, false, false, true]) false 5 5) (evC PP (evF PP T n) n 5 L25_0 (o1S o i [h0, .mp ((ksAt t t.length).map entE), .blk 1 [[.mp 1]], h3, h4])) (o1S o (i + 1) [h0, .mp ((ksAt t t.length).map entE), .blk 1 [[.mp 1]], h3, h4]) := by
    intro i hi
    have h1 := hlk i
    have h2 := hin i hi
    have e3 : ((i + 1 : Nat) : Int) = (i : Int) + 1 := by omega
    rw [e3, h2, ← e3] at h1
    have h5 := ib_add (a := (i : Nat)) (b := 1) (c := (i + 1 : Nat)) (by omega) (by omega) (by omega)
    exact next_o ⟨[(8, iv (i + 1 : Nat), none), (10, bv true, none), (12, iv (i + 1 : Nat), none)], []⟩ [] [] (ps := [PropOf h5, PropOf h1, PropOf h5]) (by kernel_rfl) ⟨h5, h1, h5, trivial⟩
  have he : evC PP (evF PP T n) n 5 L25_0 (o1S o k [h0, .mp ((ksAt t t.length).map entE), .blk 1 [[.mp 1]], h3, h4]) = some (.exit 0, o1E o k [h0, .mp ((ksAt t t.length).map entE), .blk 1 [[.mp 1]], h3, h4]) := by
    have h1 := hlk k
    have e3 : ((k + 1 : Nat) : Int) = (k : Int) + 1 := by omega
    rw [e3, hout, ← e3] at h1
    have h5 := ib_add (a := (k : Nat)) (b := 1) (c := (k + 1 : Nat)) (by omega) (by omega) (by omega)
    exact exit_o (by simp) ⟨[(8, iv (k + 1 : Nat), none), (10, bv false, none)], []⟩ [] [] (ps := [PropOf h1, PropOf h5]) (by kernel_rfl) ⟨h1, h5, trivial⟩
  have hloop := evLoopH_run (n := n) (fun i => o1S o i [h0, .mp ((ksAt t t.length).map entE), .blk 1 [[.mp 1]], h3, h4]) (by simp) (by omega) hs he
  rw [e]
  exact evF_o (F := F25) ⟨[], []⟩ [(.exit 0, o1E o k [h0, .mp ((ksAt t t.length).map entE), .blk 1 [[.mp 1]], h3, h4])] [] rfl (ps := [PropOf hloop]) (by kernel_rfl) ⟨hloop, trivial⟩

def ofS (f : Bool) (t : List Tx) (i : Nat) : St := ⟨[.undef, .undef, .ptr 0 1 0 0, .ptr 2 1 0 0, .undef, .undef, .undef, .sl f (t.map encT), iv (t.length : Nat), iv (i : Nat), .undef, .undef, .undef, .undef, .undef, .undef, .undef, .undef, .undef, .undef, .undef, .undef], [.blk 1 [[.lit nilS]], .mp ((ksAt t i).map entE), .blk 1 [[.mp 1]]]⟩
def ofE (f : Bool) (t : List Tx) (i : Nat) : St := ⟨[.undef, .undef, .ptr 0 1 0 0, .ptr 2 1 0 0, .undef, .undef, .undef, .sl f (t.map encT), iv (t.length : Nat), iv (i : Nat), bv false, .undef, .undef, .undef, .undef, .undef, .undef, .undef, .undef, .undef, .undef, .undef], [.blk 1 [[.lit nilS]], .mp ((ksAt t i).map entE), .blk 1 [[.mp 1]]]⟩

theorem cleanM (ks : List (Int × Int)) (n : Nat) : (ks.map entE).map (fun e => (e.1, clean2 n e.2)) = ks.map entE := by
  simp [entE, clean2, clean1]

theorem of_pv (n : Nat) (f : Bool) (t : List Tx) (ht : t.length ≤ 1000) (hn : t.length + 20 ≤ n) : pv PP T n 8 [.sl f (t.map encT)] = some (cl false (clk t)) := by
  obtain ⟨n, rfl⟩ : ∃ m, n = m + 1 := ⟨n - 1, by omega⟩
  have hlen : ∀ H : Heap, evOp PP (evF PP T n) 0 (.lenS (.tmp 0)) [.sl f (t.map encT)] H = some (iv (t.length : Nat), H) := fun H => len_sl (by simp)
  have hs : ∀ i, i < t.length → nextIs (headSt (some [false, false, true, true, false, false, false, true, true, true]) true 0 3) (evC PP (evF PP T n) n 0 L8_0 (ofS f t i)) (ofS f t (i + 1)) := by
    intro i hi
    have h2 := ib_lss_t (a := (i : Nat)) (b := (t.length : Nat)) (by omega)
    have h3 := idx_sl (H := [.blk 1 [[.lit nilS]], .mp ((ksAt t i).map entE), .blk 1 [[.mp 1]]]) (f := f) (i := (i : Nat)) rfl (map_get (0, 0, 0) encT hi) (s := 5) rfl
    have h4 := upd_ks (cf := evF PP T n) (fl := 0) (id := 1) (H := [.blk 1 [[.lit nilS]], .mp ((ksAt t i).map entE), .blk 1 [[.mp 1]], .blk 5 [encT (t.getD i (0, 0, 0))]]) (txK (t.getD i (0, 0, 0))) (by omega) rfl
    have h5 := ib_add (a := (i : Nat)) (b := 1) (c := (i + 1 : Nat)) (by omega) (by omega) (by omega)
    have h6 := next_o (P := PP) (cf := evF PP T n) (lf := n) (fl := 0) (head := id) (c := L8_0) (st := ofS f t i) ⟨[(10, bv true, none), (11, .rptr (encT (t.getD i (0, 0, 0))), none), (19, iv (i + 1 : Nat), none)], []⟩ [] [[.blk 1 [[.lit nilS]], .mp ((ksAt t (i + 1)).map entE), .blk 1 [[.mp 1]], .blk 5 [encT (t.getD i (0, 0, 0))]]]
      (st' := ⟨[.undef, .undef, .ptr 0 1 0 0, .ptr 2 1 0 0, .undef, .ptr 3 1 0 0, .undef, .sl f (t.map encT), iv (t.length : Nat), iv (i + 1 : Nat), bv true, .rptr (encT (t.getD i (0, 0, 0))), .agg (encT (t.getD i (0, 0, 0))), .mp 1, .ptr 3 1 0 0, iv (t.getD i (0, 0, 0)).1, .ptr 3 1 0 1, iv (t.getD i (0, 0, 0)).2.1, .agg [iv (t.getD i (0, 0, 0)).1, iv (t.getD i (0, 0, 0)).2.1], iv (i + 1 : Nat), .undef, .undef], [.blk 1 [[.lit nilS]], .mp ((ksAt t (i + 1)).map entE), .blk 1 [[.mp 1]], .blk 5 [encT (t.getD i (0, 0, 0))]]⟩)
      (ps := [PropOf h5, PropOf h4, PropOf h3, PropOf h2]) (by kernel_rfl) ⟨h5, h4, h3, h2, trivial⟩
    obtain ⟨st', e1, e2⟩ := nextIs_ex h6
    rw [e1]
    simp only [id] at e2
    subst e2
    simp only [nextIs, headSt, if_true, List.take, List.drop, List.map, List.nil_append, List.append_nil, cleanObj, cleanM]
    rfl
  have he : evC PP (evF PP T n) n 0 L8_0 (ofS f t t.length) = some (.exit 0, ofE f t t.length) := by
    have h2 := ib_lss_f (a := (t.length : Nat)) (b := (t.length : Nat)) (by omega)
    exact exit_o (by simp) ⟨[(10, bv false, none)], []⟩ [] [] (ps := [PropOf h2]) (by kernel_rfl) ⟨h2, trivial⟩
  have hloop := evLoopH_run (n := n) (ofS f t) (by simp) (by omega) hs he
  have h1 := hlen [.blk 1 [[.lit nilS]], .mp [], .blk 1 [[.mp 1]]]
  have hsh := short_ev n (by omega) 25 [.ptr 2 1 0 0] rfl (cOf t) (.blk 1 [[.lit nilS]]) (.mp ((ksAt t t.length).map entE)) (.blk 1 [[.mp 1]])
    (fun o h3 h4 => ⟨_, of1_ev (n - 1) t ht (by omega) o _ h3 h4⟩)
  have hca : callA (evF PP T n) 0 true 26 [.fn 25 [.ptr 2 1 0 0]] [.blk 1 [[.lit nilS]], .mp ((ksAt t t.length).map entE), .blk 1 [[.mp 1]]] = some (cl false (clk t), [.blk 1 [[.lit nilS]], .mp ((ksAt t t.length).map entE), .blk 1 [[.mp 1]]]) := by
    simp only [callA, plainAll, plain2, plain1, List.length, Nat.zero_add, Nat.reduceAdd, hsh, seal3, seal2, List.map, seal1, Nat.lt_irrefl, if_false, sealDepth, sealC, Nat.le_refl, if_true, rd, List.getElem?_cons_succ, List.getElem?_cons_zero, ints_len, List.drop_zero, List.take_of_length_le, seal_ints, clk]
  exact pv_evF (evF_o (F := F8) ⟨[(8, iv (t.length : Nat), none), (21, cl false (clk t), none)], []⟩ [(.exit 0, ofE f t t.length)] [] rfl (r := cl false (clk t)) (H' := [.blk 1 [[.sl false (ints (clk t))]], .mp ((ksAt t t.length).map entE), .blk 1 [[.mp 1]]]) (ps := [PropOf hca, PropOf hloop, PropOf h1]) (by kernel_rfl) ⟨hca, hloop, h1, trivial⟩) rfl

end Go.Proofs.Ytjnknfppndabjaa.Av
