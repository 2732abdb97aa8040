/- A part of the proof of VclockJoinsSaid: an evaluator of the program, proved sound, and what it says. -/
import Derived.Test.YtjnknfppndabjaaAvDraw
namespace Go.Proofs.Ytjnknfppndabjaa.Av
open Go

section
variable {P : Program} {T : List AFun} {cf : Nat → Nat → List AV → Heap → Option (AV × Heap)} {fl : Nat}

theorem chkOpers_get {ops : Array Oper} : ∀ {aops : List AOper} {os : List Oper}, chkOpers P T ops aops os = true → aops.length = os.length ∧ ∀ (k : Nat) (o : Oper), os[k]? = some o → ∃ ao, aops[k]? = some ao ∧ chkOper P T ops ao o = true
  | [], [], _ => ⟨rfl, fun k o h => by simp at h⟩
  | a :: r, o :: s, h => by
    simp only [chkOpers, Bool.and_eq_true] at h
    obtain ⟨h1, h2⟩ := chkOpers_get h.2
    refine ⟨by simp [h1], fun k p hp => ?_⟩
    cases k with
    | zero =>
      simp only [List.getElem?_cons_zero, Option.some.injEq] at hp
      subst hp
      exact ⟨a, by simp, h.1⟩
    | succ k =>
      simp only [List.getElem?_cons_succ] at hp ⊢
      exact h2 k p hp
  | [], _ :: _, h => by cases h
  | _ :: _, [], h => by cases h

theorem quietFirst_get : ∀ {n : Nat} {aops : List AOper}, quietFirst n aops = true → ∀ k ao, k < n → aops[k]? = some ao → quietOp ao.op = true
  | 0, _, _, k, _, h, _ => by omega
  | n + 1, [], _, k, ao, _, hk => by simp at hk
  | n + 1, o :: r, h, k, ao, hlt, hk => by
    simp only [quietFirst, Bool.and_eq_true] at h
    cases k with
    | zero =>
      simp only [List.getElem?_cons_zero, Option.some.injEq] at hk
      subst hk
      exact h.1
    | succ k =>
      simp only [List.getElem?_cons_succ] at hk
      exact quietFirst_get h.2 k ao (by omega) hk

theorem backOk_get {ops : List Oper} : ∀ {n : Nat}, backOk ops n = true → ∀ k o, k < n → ops[k]? = some o → ∀ e ∈ o.after, Region.binds .any e = true → e.on < k
  | 0, _, k, _, h, _, _, _, _ => by omega
  | n + 1, h, k, o, hlt, hk, e, he, hb => by
    simp only [backOk, Bool.and_eq_true] at h
    by_cases ek : k = n
    · subst ek
      rw [hk] at h
      have := List.all_eq_true.1 h.2 e (by simpa using he)
      simpa [hb] using this
    · exact backOk_get h.1 k o (by omega) hk e he hb

def unl (N : Nat) (listed : Array Bool) : Nat := ((List.range N).filter fun i => !listed.getD i true).length

theorem unl_lt {N k : Nat} {listed : Array Bool} (hk : k < N) (h : listed.getD k true = false) (hsz : listed.size = N) : unl N (listed.setIfInBounds k true) < unl N listed := by
  unfold unl
  have e : ((List.range N).filter fun i => !(listed.setIfInBounds k true).getD i true) = (((List.range N).filter fun i => !listed.getD i true).filter fun i => decide (i ≠ k)) := by
    rw [List.filter_filter]
    apply List.filter_congr
    intro i hi
    by_cases ei : i = k
    · subst ei
      simp [hsz, hk]
    · rw [getD_set_ne true (fun e => ei e.symm)]
      simp [ei]
  rw [e]
  refine List.length_filter_lt_length_iff_exists.2 ⟨k, ?_, by simp⟩
  simp only [List.mem_filter, List.mem_range, Bool.not_eq_true']
  exact ⟨hk, h⟩

theorem getD_of_size {listed : Array Bool} {k : Nat} (hk : k < listed.size) : listed.getD k true = listed.getD k false := by
  simp [Array.getD, hk]

structure RInv (P : Program) (T : List AFun) (fl na N : Nat) (aops : List AOper) (an : List Nat) (tm : List AV) (val : Nat → AV) (S : Nat → St) (c0 : Ctx) (ds : List Deferred) (listed : Array Bool) (a : Act) (c : Ctx) : Prop where
  size : listed.size = N
  sim : Sim (ftOf T) c
  step : Step fl c0 c
  defers : a.defers = ds
  closed : ∀ i j, j < N → listed.getD j false = true → (an.getD j 0).testBit i = true → listed.getD i false = true
  tr : TR (ftOf T) c (foldD aops tm val (fun j => listed.getD j false) N) a.tmps
  phase : ((∀ j, listed.getD j false = true → j < na) ∧ c.H = c0.H) ∨ ∃ m, na ≤ m ∧ m ≤ N ∧ (∀ j, j < N → listed.getD j false = decide (j < m)) ∧ c.H = (S m).heap

theorem any_sound (hcf : CfOK P T cf) (hfn : FnsOK P T) {ops : Array Oper} {aops : List AOper} {na : Nat} {tm : List AV} {c0 : Ctx} {ds : List Deferred} {val : Nat → AV} {S : Nat → St} {Q : Exit → Act → World → Prop}
    (hchk : chkOpers P T ops aops ops.toList = true) (hord : orderOk na aops (ancs ops.toList ops.size []) ops.size = true) (hna : na ≤ ops.size) (hq : quietFirst na aops = true) (hback : backOk ops.toList ops.size = true)
    (h0 : S 0 = ⟨tm, c0.H⟩) (hS : ∀ k ao, aops[k]? = some ao → evOper P cf fl ao (S k) = some (S (k + 1))) (hval : ∀ k ao, aops[k]? = some ao → (S (k + 1)).tmps = putA (S k).tmps ao.dst (val k))
    (hfl : fl ≤ c0.H.length)
    (hQ : ∀ a' c', c'.H = (S ops.size).heap → Step fl c0 c' → Sim (ftOf T) c' → TR (ftOf T) c' (S ops.size).tmps a'.tmps → a'.defers = ds → Q .normal a' c'.w) :
    ∀ (fuel : Nat) (listed : Array Bool) (a : Act) (c : Ctx), unl ops.size listed ≤ fuel → RInv P T fl na ops.size aops (ancs ops.toList ops.size []) tm val S c0 ds listed a c → wpAny P .any ops Q fuel listed a c.w := by
  obtain ⟨hlen, hget⟩ := chkOpers_get hchk
  have hlen' : aops.length = ops.size := by simpa using hlen
  have hheapA : ∀ k, k ≤ na → (S k).heap = c0.H := by
    intro k
    induction k with
    | zero => intro _; rw [h0]
    | succ k ih =>
      intro hk
      have hka : k < aops.length := by omega
      have hao : aops[k]? = some aops[k] := by simp
      rw [evOper_quiet (quietFirst_get hq k _ (by omega) hao) (hS k _ hao)]
      exact ih (by omega)
  have h0t : (S 0).tmps = tm := by rw [h0]
  -- all are listed
  have done : ∀ (listed : Array Bool) (a : Act) (c : Ctx), (∀ j, j < ops.size → listed.getD j false = true) → RInv P T fl na ops.size aops (ancs ops.toList ops.size []) tm val S c0 ds listed a c → Q .normal a c.w := by
    intro listed a c hall hI
    have hfold : foldD aops tm val (fun j => listed.getD j false) ops.size = (S ops.size).tmps :=
      foldD_prefix h0t hval (Nat.le_refl _) (by omega) hall (fun j h1 h2 => by omega)
    have hH : c.H = (S ops.size).heap := by
      rcases hI.phase with ⟨h1, h2⟩ | ⟨m, h1, h2, h3, h4⟩
      · by_cases hn : na = ops.size
        · rw [h2, hheapA ops.size (by omega)]
        · have := h1 na (hall na (by omega)); omega
      · by_cases hm : m = ops.size
        · rw [h4, hm]
        · have := h3 m (by omega)
          rw [hall m (by omega)] at this
          simp at this
    refine hQ a c hH hI.step hI.sim ?_ hI.defers
    rw [← hfold]
    exact hI.tr
  -- if none is ready, all are listed
  have noready : ∀ (listed : Array Bool), listed.size = ops.size → Region.ready .any ops listed = [] → ∀ j, j < ops.size → listed.getD j false = true := by
    intro listed hsz hr j
    induction j using Nat.strongRecOn with
    | _ j ih =>
      intro hj
      cases hd : listed.getD j false with
      | true => rfl
      | false =>
        exfalso
        have hmem : j ∈ Region.ready .any ops listed := by
          rw [mem_ready]
          refine ⟨by rw [getD_of_size (by omega)]; exact hd, ops[j], by simp, fun e he hb => ?_⟩
          have hlt := backOk_get hback j ops[j] hj (by simp) e he hb
          exact ih e.on hlt (by omega)
        rw [hr] at hmem
        cases hmem
  intro fuel
  induction fuel with
  | zero =>
    intro listed a c hu hI
    have hall : ∀ j, j < ops.size → listed.getD j false = true := by
      intro j hj
      cases hd : listed.getD j false with
      | true => rfl
      | false =>
        exfalso
        have : j ∈ (List.range ops.size).filter fun i => !listed.getD i true := by
          simp only [List.mem_filter, List.mem_range, Bool.not_eq_true']
          exact ⟨hj, by rw [getD_of_size (by rw [hI.size]; exact hj)]; exact hd⟩
        unfold unl at hu
        have h2 := List.eq_nil_of_length_eq_zero (Nat.le_zero.1 hu)
        rw [h2] at this
        cases this
    refine ⟨?_, done listed a c hall hI⟩
    cases hr : Region.ready .any ops listed with
    | nil => rfl
    | cons i r =>
      exfalso
      have : i ∈ Region.ready .any ops listed := by rw [hr]; simp
      rw [mem_ready] at this
      obtain ⟨h1, o, ho, _⟩ := this
      have hi : i < ops.size := (Array.getElem?_eq_some_iff.1 ho).1
      rw [getD_of_size (by rw [hI.size]; exact hi), hall i hi] at h1
      cases h1
  | succ fuel ih =>
    intro listed a c hu hI
    refine ⟨fun hr => done listed a c (noready listed hI.size hr) hI, fun k hk => ?_⟩
    rw [mem_ready] at hk
    obtain ⟨hk1, o, ho, hedges⟩ := hk
    have hkN : k < ops.size := (Array.getElem?_eq_some_iff.1 ho).1
    have hkD : listed.getD k false = false := by rw [← getD_of_size (by rw [hI.size]; exact hkN)]; exact hk1
    obtain ⟨ao, hao, hok⟩ := hget k o (by simpa using ho)
    have hol : ops.toList[k]? = some o := by simpa using ho
    have hanc : ∀ i, ((ancs ops.toList ops.size []).getD k 0).testBit i = true → listed.getD i false = true := by
      intro i hi
      have hi' : ((ancs ops.toList ops.toList.length []).getD k 0).testBit i = true := by simpa using hi
      obtain ⟨o', ho', e, he, hb, hlt, hh⟩ := anc_step (by simpa using hkN) hi'
      rw [hol] at ho'
      cases ho'
      have hde := hedges e he hb
      rcases hh with rfl | hh
      · exact hde
      · exact hI.closed i e.on (by omega) hde (by simpa using hh)
    -- operations behind this one that are listed already do not hang on it
    have later : ∀ j, k < j → j < ops.size → listed.getD j false = true → j < na ∧ ∃ x y, aops[k]? = some x ∧ aops[j]? = some y ∧ clash x y = false ∧ clash y x = false := by
      intro j hkj hj hD
      rcases orderOk_spec _ hord k j hkj hj with h | h
      · have := hI.closed k j hj hD h
        rw [hkD] at this; cases this
      · exact h
    have earlier : ∀ j, j < k → listed.getD j false = true ∨ (k < na ∧ ∃ x y, aops[j]? = some x ∧ aops[k]? = some y ∧ clash x y = false ∧ clash y x = false) := by
      intro j hj
      rcases orderOk_spec _ hord j k hj hkN with h | h
      · exact .inl (hanc j h)
      · exact .inr h
    have hdst : dstA aops k = ao.dst := by simp [dstA, hao]
    -- what it looks at is as in the order of the text
    have hlook : ∀ t ∈ looksA ao, (foldD aops tm val (fun j => listed.getD j false) ops.size)[t]? = (S k).tmps[t]? := by
      intro t ht
      rw [← foldD_prefix (D := fun j => decide (j < k)) (n := ops.size) h0t hval (Nat.le_of_lt hkN) (by omega) (fun j hj => by simpa using hj) (fun j h1 _ => by simp; omega)]
      apply foldD_agree
      intro j hj hd
      by_cases hjk : j < k
      · have : decide (j < k) = true := by simpa using hjk
        rw [this]
        rcases earlier j hjk with h | ⟨_, x, y, hx, hy, hc1, hc2⟩
        · exact h
        · exfalso
          rw [hao] at hy
          cases hy
          have hdx : x.dst = some t := by simpa [dstA, hx] using hd
          exact (clash_false hc1 hdx).1 ht
      · have : decide (j < k) = false := by simpa using hjk
        rw [this]
        by_cases ej : j = k
        · subst ej; exact hkD
        · cases hDj : listed.getD j false with
          | false => rfl
          | true =>
            exfalso
            obtain ⟨_, x, y, hx, hy, hc1, hc2⟩ := later j (by omega) hj hDj
            rw [hao] at hx
            cases hx
            have hdy : y.dst = some t := by simpa [dstA, hy] using hd
            exact (clash_false hc2 hdy).1 ht
    -- the heap is that of the text's order
    have hheap : c.H = (S k).heap ∧ ((k < na ∧ ∀ j, listed.getD j false = true → j < na) ∨ (na ≤ k ∧ ∀ j, j < ops.size → listed.getD j false = decide (j < k))) := by
      by_cases hkna : k < na
      · rcases hI.phase with ⟨h1, h2⟩ | ⟨m, h1, h2, h3, h4⟩
        · exact ⟨by rw [h2, hheapA k (by omega)], .inl ⟨hkna, h1⟩⟩
        · have := h3 k hkN
          rw [hkD] at this
          have : ¬ k < m := by simpa using this.symm
          omega
      · have hall : ∀ j, j < k → listed.getD j false = true := by
          intro j hj
          rcases earlier j hj with h | ⟨h, _⟩
          · exact h
          · omega
        have hnone : ∀ j, k < j → j < ops.size → listed.getD j false = false := by
          intro j h1 h2
          cases hd : listed.getD j false with
          | false => rfl
          | true =>
            have := later j h1 h2 hd
            omega
        have hpre : ∀ j, j < ops.size → listed.getD j false = decide (j < k) := by
          intro j hj
          by_cases h1 : j < k
          · rw [hall j h1]; simp [h1]
          · by_cases h2 : j = k
            · subst h2; rw [hkD]; simp
            · rw [hnone j (by omega) hj]; simp; omega
        refine ⟨?_, .inr ⟨by omega, hpre⟩⟩
        rcases hI.phase with ⟨h1, h2⟩ | ⟨m, h1, h2, h3, h4⟩
        · have hkn : k = na := by
            by_cases h : k = na
            · exact h
            · have := h1 na (hall na (by omega)); omega
          rw [h2, hkn, hheapA na (Nat.le_refl _)]
        · have hmk : m = k := by
            have e1 := h3 k hkN
            rw [hkD] at e1
            have e2 : ¬ k < m := by simpa using e1.symm
            by_cases h : m = k
            · exact h
            · have e3 := h3 m (by omega)
              rw [hall m (by omega)] at e3
              simp at e3
          rw [h4, hmk]
    have hevk := hS k ao hao
    have hevk' : evOper P cf fl ao ⟨(S k).tmps, c.H⟩ = some (S (k + 1)) := by rw [hheap.1]; exact hevk
    obtain ⟨x, hx1, hx2⟩ := evOper_congr (tm := foldD aops tm val (fun j => listed.getD j false) ops.size) hlook hevk'
    refine oper_sound hcf hfn hI.sim hI.tr (Nat.le_trans hfl hI.step.len) ho hok hx2 ?_
    intro a' c' e1 e2 e3 e4 e5 _
    refine ih (listed.setIfInBounds k true) a' c' (by have := unl_lt hkN hk1 hI.size; omega) ?_
    have hset : ∀ j, (listed.setIfInBounds k true).getD j false = if j = k then true else listed.getD j false := by
      intro j
      by_cases ej : j = k
      · subst ej
        simp [hI.size, hkN]
      · rw [getD_set_ne false (fun e => ej e.symm), if_neg ej]
    refine ⟨by simpa using hI.size, e3, hI.step.trans e2, e5.trans hI.defers, ?_, ?_, ?_⟩
    · intro i j hj hD hb
      rw [hset] at hD ⊢
      split
      · rfl
      · by_cases ej : j = k
        · subst ej; exact hanc i hb
        · rw [if_neg ej] at hD
          exact hI.closed i j hj hD hb
    · refine ⟨by rw [foldD_length, ← e4.1, putA_length, foldD_length], fun t y hy => ?_⟩
      refine e4.2 t y ?_
      rw [← hy, putA_get]
      split
      · rename_i hd
        have hdk : dstA aops k = some t := by rw [hdst]; exact hd
        rw [foldD_length]
        rw [foldD_last (k := k) (by simp [hset]) hdk ops.size hkN]
        · split
          · rename_i hlt
            congr 1
            -- the two values are one
            have h1 : (S (k + 1)).tmps[t]? = some x := by rw [hx1, putA_get, if_pos hd, if_pos (by rw [← foldD_seq h0t hval k (by omega), foldD_length]; exact hlt)]
            have h2 : (S (k + 1)).tmps[t]? = some (val k) := by rw [hval k ao hao, putA_get, if_pos hd, if_pos (by rw [← foldD_seq h0t hval k (by omega), foldD_length]; exact hlt)]
            rw [h1] at h2
            exact Option.some.inj h2
          · rfl
        · intro j h1 h2 h3
          rw [hset, if_neg (by omega)]
          cases hDj : listed.getD j false with
          | false => rfl
          | true =>
            exfalso
            obtain ⟨_, x', y', hx', hy', hc1, hc2⟩ := later j h1 h2 hDj
            rw [hao] at hx'
            cases hx'
            have hdy : y'.dst = some t := by simpa [dstA, hy'] using h3
            exact (clash_false hc1 hd).2 hdy
      · rename_i hd
        apply foldD_agree
        intro j hj hdj
        rw [hset]
        by_cases ej : j = k
        · subst ej
          rw [hdst] at hdj
          exact (hd hdj).elim
        · rw [if_neg ej]
    · rcases hheap.2 with ⟨hkna, h1⟩ | ⟨hkna, h1⟩
      · left
        refine ⟨fun j hD => ?_, ?_⟩
        · rw [hset] at hD
          split at hD
          · omega
          · exact h1 j hD
        · rw [e1]
          show (S (k + 1)).heap = c0.H
          exact hheapA (k + 1) (by omega)
      · right
        refine ⟨k + 1, by omega, by omega, fun j hj => ?_, e1⟩
        rw [hset]
        split
        · simp; omega
        · rw [h1 j hj]
          simp only [decide_eq_decide]
          omega

theorem region_sound (hm : P.follows .mixedOrders = true) (hcf : CfOK P T cf) (hfn : FnsOK P T) {id na : Nat} {draw : Bool} {ops : Array Oper} {aops : List AOper} {tm : List AV} {c : Ctx} {a : Act} {st' : St} {Q : Exit → Act → World → Prop}
    (hchk : chkC P T (.region draw na aops) (.region id ops draw) = true) (hs : Sim (ftOf T) c) (htr : TR (ftOf T) c tm a.tmps) (hfl : fl ≤ c.H.length) (hev : evOps P cf fl aops ⟨tm, c.H⟩ = some st')
    (hQ : ∀ a' c', c'.H = st'.heap → Step fl c c' → Sim (ftOf T) c' → TR (ftOf T) c' st'.tmps a'.tmps → a'.defers = a.defers → Q .normal a' c'.w) : (Code.region id ops draw).wp P Q a c.w := by
  simp only [chkC, Bool.and_eq_true] at hchk
  obtain ⟨⟨_, hc⟩, ho⟩ := hchk
  obtain ⟨hlen, _⟩ := chkOpers_get hc
  cases draw with
  | false =>
    refine wp_region ?_
    have := ops_seq hcf hfn (ops := ops) (Q := Q) aops ops.toList 0 c a tm st' hc (fun j o hj => by simpa using hj) hs htr hfl hev hQ
    rw [List.range_eq_range']
    rw [hlen] at this
    simpa using this
  | true =>
    simp only [Bool.not_true, Bool.false_or, Bool.and_eq_true, decide_eq_true_eq] at ho
    obtain ⟨⟨⟨h1, h2⟩, h3⟩, h4⟩ := ho
    obtain ⟨S, e1, e2, e3⟩ := trace_of aops ⟨tm, c.H⟩ st' hev
    have hval : ∃ val : Nat → AV, ∀ k ao, aops[k]? = some ao → (S (k + 1)).tmps = putA (S k).tmps ao.dst (val k) := by
      have : ∀ k, ∃ x, ∀ ao, aops[k]? = some ao → (S (k + 1)).tmps = putA (S k).tmps ao.dst x := by
        intro k
        cases hk : aops[k]? with
        | none => exact ⟨.undef, fun ao h => by cases h⟩
        | some ao =>
          obtain ⟨x, g1, _⟩ := evOper_congr (tm := (S k).tmps) (fun _ _ => rfl) (e3 k ao hk)
          exact ⟨x, fun ao' h => by cases h; exact g1⟩
      exact ⟨fun k => Classical.choose (this k), fun k => Classical.choose_spec (this k)⟩
    obtain ⟨val, hval⟩ := hval
    have hlen' : aops.length = ops.size := by simpa using hlen
    refine wp_region_any hm ?_
    have hd : Drawn c.w { c.w with drawn := c.w.drawn + 1 } := ⟨rfl, rfl, rfl, rfl⟩
    have hst0 := step_drawn (fl := fl) hd
    refine any_sound (c0 := ⟨{ c.w with drawn := c.w.drawn + 1 }, c.X, c.β, c.H⟩) (ds := a.defers) hcf hfn hc h1 h2 h3 h4 e1 e3 hval hfl ?_ ops.size (Array.replicate ops.size false) a ⟨{ c.w with drawn := c.w.drawn + 1 }, c.X, c.β, c.H⟩ ?_ ?_
    · intro a' c' f1 f2 f3 f4 f5
      rw [← hlen', e2] at f1 f4
      exact hQ a' c' f1 (hst0.trans f2) f3 f4 f5
    · unfold unl
      exact Nat.le_trans (List.length_filter_le _ _) (by simp)
    · have hF : ∀ j, (Array.replicate ops.size false).getD j false = false := by
        intro j
        simp only [Array.getD_eq_getD_getElem?, Array.getElem?_replicate]
        split <;> rfl
      refine ⟨by simp, hs.drawn hd, Step.refl _ _, rfl, (fun i j _ hD _ => by rw [hF] at hD; cases hD), ?_, .inl ⟨(fun j hD => by rw [hF] at hD; cases hD), rfl⟩⟩
      have : foldD aops tm val (fun j => (Array.replicate ops.size false).getD j false) ops.size = tm :=
        foldD_false ops.size (Nat.zero_le _) fun j _ _ => hF j
      rw [this]
      exact htr.step hst0

end
end Go.Proofs.Ytjnknfppndabjaa.Av
