/- A part of the proof of VclockJoinsSaid: an evaluator of the program, proved sound, and what it says. -/
import Derived.Test.YtjnknfppndabjaaAvReg
namespace Go.Proofs.Ytjnknfppndabjaa.Av
open Go

section
variable {P : Program} {T : List AFun} {cf : Nat → Nat → List AV → Heap → Option (AV × Heap)} {fl : Nat}

theorem mem_tmpsOf {t : Nat} : ∀ {xs : List AOpd}, AOpd.tmp t ∈ xs → t ∈ tmpsOf xs
  | x :: r, h => by
    rcases List.mem_cons.1 h with e | h'
    · subst e; simp [tmpsOf]
    · have ih := mem_tmpsOf h'
      cases x <;> simp [tmpsOf, ih]

theorem getOpd_congr {tm tm' : List AV} {xs : List AOpd} (h : ∀ t ∈ tmpsOf xs, tm[t]? = tm'[t]?) : ∀ x ∈ xs, getOpd tm x = getOpd tm' x := by
  intro x hx
  cases x with
  | tmp t => simp only [getOpd, h t (mem_tmpsOf hx)]
  | _ => rfl

theorem natOpt_congr {tm tm' : List AV} {x : Option AOpd} (h : ∀ y ∈ optL x, getOpd tm y = getOpd tm' y) : natOpt tm x = natOpt tm' x := by
  cases x with
  | none => rfl
  | some y => simp only [natOpt, h y (by simp [optL])]

theorem evOp_congr {tm tm' : List AV} {H : Heap} {op : AOp} (h : ∀ x ∈ opdsA op, getOpd tm x = getOpd tm' x) : evOp P cf fl op tm H = evOp P cf fl op tm' H := by
  cases op with
  | build z ps =>
    have e : (ps.map fun (p : Nat × Nat × AOpd) => (p.1, p.2.1, getOpd tm p.2.2)) = ps.map fun (p : Nat × Nat × AOpd) => (p.1, p.2.1, getOpd tm' p.2.2) := by
      apply List.map_congr_left
      intro p hp
      rw [h p.2.2 (by simp only [opdsA, List.mem_map]; exact ⟨p, hp, rfl⟩)]
    simp only [evOp]
    have e' : (ps.map fun (o, s, x) => (o, s, getOpd tm x)) = ps.map fun (o, s, x) => (o, s, getOpd tm' x) := e
    rw [e']
  | buildSl pu s n z ps =>
    have e' : (ps.map fun (i, x) => (i, getOpd tm x)) = ps.map fun (i, x) => (i, getOpd tm' x) := by
      apply List.map_congr_left
      intro p hp
      show (p.1, getOpd tm p.2) = (p.1, getOpd tm' p.2)
      rw [h p.2 (by simp only [opdsA, List.mem_map]; exact ⟨p, hp, rfl⟩)]
    simp only [evOp]
    rw [e']
  | slice s x lo hi mx =>
    simp only [opdsA] at h
    simp only [evOp]
    rw [h x (by simp), natOpt_congr (fun y hy => h y (by simp [hy])), natOpt_congr (x := hi) (fun y hy => h y (by simp [hy])), natOpt_congr (x := mx) (fun y hy => h y (by simp [hy]))]
  | strSlice t x lo hi =>
    simp only [opdsA] at h
    simp only [evOp]
    rw [h x (by simp), natOpt_congr (fun y hy => h y (by simp [hy])), natOpt_congr (x := hi) (fun y hy => h y (by simp [hy]))]
  | minmax mx xs =>
    simp only [opdsA] at h
    simp only [evOp]
    rw [List.map_congr_left h]
  | mkFn vi xs =>
    simp only [opdsA] at h
    simp only [evOp]
    rw [List.map_congr_left h]
  | call pu vi xs =>
    simp only [opdsA] at h
    simp only [evOp]
    rw [List.map_congr_left h]
  | callv pu x xs =>
    simp only [opdsA] at h
    simp only [evOp]
    rw [h x (by simp), List.map_congr_left (fun y hy => h y (by simp [hy]))]
  | _ =>
    simp only [opdsA, List.mem_cons, List.not_mem_nil, or_false, forall_eq_or_imp, forall_eq, false_imp_iff, implies_true] at h
    simp [evOp, h]

theorem wantA_congr {tm tm' : List AV} {g : Option (Nat × Bool)} (h : ∀ t b, g = some (t, b) → tm[t]? = tm'[t]?) : wantA tm g = wantA tm' g := by
  cases g with
  | none => rfl
  | some q =>
    obtain ⟨t, b⟩ := q
    simp only [wantA, getOpd, h t b rfl]

/-- What an operation gives, apart from where it is put. -/
theorem evOper_congr {tm tm' : List AV} {H : Heap} {o : AOper} {st' : St} (h : ∀ t ∈ looksA o, tm[t]? = tm'[t]?) (hev : evOper P cf fl o ⟨tm', H⟩ = some st') :
    ∃ x, st'.tmps = putA tm' o.dst x ∧ evOper P cf fl o ⟨tm, H⟩ = some ⟨putA tm o.dst x, st'.heap⟩ := by
  have h1 : wantA tm o.guard = wantA tm' o.guard := wantA_congr fun t b hg => h t (by simp [looksA, hg])
  have h2 : evOp P cf fl o.op tm H = evOp P cf fl o.op tm' H := evOp_congr (getOpd_congr fun t ht => h t (by
    unfold looksA
    split
    · simp [ht]
    · exact ht))
  unfold evOper at hev ⊢
  simp only [h1, h2] at hev ⊢
  split at hev
  · split at hev
    · rename_i v H1 he
      cases hev
      exact ⟨v, rfl, rfl⟩
    · cases hev
  · cases hev
    exact ⟨_, rfl, rfl⟩
  · cases hev

theorem evOp_quiet {tm : List AV} {H H' : Heap} {op : AOp} {v : AV} (hq : quietOp op = true) (hev : evOp P cf fl op tm H = some (v, H')) : H' = H := by
  cases op with
  | call pu vi xs =>
    simp only [quietOp] at hq
    subst hq
    simp only [evOp, callA] at hev
    split at hev <;> split at hev <;> cases hev <;> rfl
  | callv pu x xs =>
    simp only [quietOp] at hq
    subst hq
    simp only [evOp, callA] at hev
    split at hev
    · split at hev <;> split at hev <;> cases hev <;> rfl
    · cases hev
  | buildSl pu s n z ps =>
    simp only [quietOp] at hq
    subst hq
    simp only [evOp, if_true] at hev
    split at hev <;> cases hev
    rfl
  | lookup kt z m k ok =>
    simp only [evOp] at hev
    split at hev
    · split at hev
      · split at hev
        · split at hev <;> cases hev
          rfl
        · cases hev; rfl
        · cases hev
      · split at hev
        · split at hev
          · split at hev <;> cases hev
            rfl
          · cases hev; rfl
          · cases hev
        · cases hev
      · cases hev
    · cases hev
  | _ =>
    first
    | (simp [quietOp] at hq; done)
    | (simp only [evOp] at hev; (repeat' split at hev) <;> first | (cases hev; rfl) | cases hev)

theorem evOper_quiet {st st' : St} {o : AOper} (hq : quietOp o.op = true) (hev : evOper P cf fl o st = some st') : st'.heap = st.heap := by
  unfold evOper at hev
  split at hev
  · split at hev
    · rename_i v H he
      cases hev
      exact evOp_quiet hq he
    · cases hev
  · cases hev; rfl
  · cases hev

theorem trace_of : ∀ (aops : List AOper) (st st' : St), evOps P cf fl aops st = some st' →
    ∃ S : Nat → St, S 0 = st ∧ S aops.length = st' ∧ ∀ k ao, aops[k]? = some ao → evOper P cf fl ao (S k) = some (S (k + 1))
  | [], st, st', h => by
    simp only [evOps, Option.some.injEq] at h
    exact ⟨fun _ => st, rfl, h, fun k ao hk => by simp at hk⟩
  | o :: r, st, st', h => by
    simp only [evOps] at h
    split at h
    · rename_i st1 h1
      obtain ⟨S, e1, e2, e3⟩ := trace_of r st1 st' h
      refine ⟨fun k => match k with | 0 => st | k + 1 => S k, rfl, by simpa using e2, fun k ao hk => ?_⟩
      cases k with
      | zero =>
        simp only [List.getElem?_cons_zero, Option.some.injEq] at hk
        subst hk
        rw [h1, ← e1]
      | succ k =>
        simp only [List.getElem?_cons_succ] at hk
        exact e3 k ao hk
    · cases h

def dstA (aops : List AOper) (k : Nat) : Option Nat := match aops[k]? with | some o => o.dst | none => none

/-- The temporaries behind some of the operations. -/
def foldD (aops : List AOper) (tm : List AV) (val : Nat → AV) (D : Nat → Bool) : Nat → List AV
  | 0 => tm
  | n + 1 => if D n then putA (foldD aops tm val D n) (dstA aops n) (val n) else foldD aops tm val D n

theorem putA_length (tm : List AV) (d : Option Nat) (x : AV) : (putA tm d x).length = tm.length := by cases d <;> simp [putA]

theorem foldD_length {aops : List AOper} {tm : List AV} {val : Nat → AV} {D : Nat → Bool} : ∀ n, (foldD aops tm val D n).length = tm.length
  | 0 => rfl
  | n + 1 => by
    simp only [foldD]
    split
    · rw [putA_length, foldD_length n]
    · exact foldD_length n

theorem putA_get {tm : List AV} {d : Option Nat} {x : AV} {t : Nat} : (putA tm d x)[t]? = if d = some t then (if t < tm.length then some x else none) else tm[t]? := by
  cases d with
  | none => simp [putA]
  | some d =>
    simp only [putA, List.getElem?_set, Option.some.injEq]
    by_cases e : d = t
    · subst e; rfl
    · simp [e]

theorem foldD_agree {aops : List AOper} {tm : List AV} {val : Nat → AV} {D D' : Nat → Bool} {t : Nat} : ∀ n, (∀ j, j < n → dstA aops j = some t → D j = D' j) → (foldD aops tm val D n)[t]? = (foldD aops tm val D' n)[t]?
  | 0, _ => rfl
  | n + 1, h => by
    have ih := foldD_agree (val := val) (tm := tm) n fun j hj hd => h j (by omega) hd
    simp only [foldD]
    by_cases hd : dstA aops n = some t
    · rw [h n (by omega) hd]
      split
      · simp only [putA_get, hd, if_true, foldD_length]
      · exact ih
    · have hne : ∀ l : List AV, (putA l (dstA aops n) (val n))[t]? = l[t]? := fun l => by rw [putA_get, if_neg hd]
      split <;> split <;> (try simp only [hne]) <;> exact ih

theorem foldD_congr {aops : List AOper} {tm : List AV} {val : Nat → AV} {D D' : Nat → Bool} : ∀ n, (∀ j, j < n → D j = D' j) → foldD aops tm val D n = foldD aops tm val D' n
  | 0, _ => rfl
  | n + 1, h => by
    simp only [foldD, h n (by omega), foldD_congr n fun j hj => h j (by omega)]

theorem foldD_last {aops : List AOper} {tm : List AV} {val : Nat → AV} {D : Nat → Bool} {t k : Nat} (hD : D k = true) (hd : dstA aops k = some t) : ∀ n, k < n → (∀ j, k < j → j < n → dstA aops j = some t → D j = false) →
    (foldD aops tm val D n)[t]? = if t < tm.length then some (val k) else none
  | 0, h, _ => by omega
  | n + 1, hk, h => by
    simp only [foldD]
    by_cases e : k = n
    · subst e
      rw [if_pos hD, putA_get, if_pos hd, foldD_length]
    · have ih := foldD_last (tm := tm) (val := val) hD hd n (by omega) fun j h1 h2 h3 => h j h1 (by omega) h3
      by_cases hdn : dstA aops n = some t
      · rw [h n (by omega) (by omega) hdn]
        simpa using ih
      · split
        · rw [putA_get, if_neg hdn]; exact ih
        · exact ih

theorem foldD_seq {aops : List AOper} {tm : List AV} {val : Nat → AV} {S : Nat → St} (h0 : (S 0).tmps = tm) (hS : ∀ k ao, aops[k]? = some ao → (S (k + 1)).tmps = putA (S k).tmps ao.dst (val k)) :
    ∀ n, n ≤ aops.length → foldD aops tm val (fun _ => true) n = (S n).tmps
  | 0, _ => h0.symm
  | n + 1, h => by
    have hn : n < aops.length := by omega
    simp only [foldD, if_true, foldD_seq h0 hS n (by omega)]
    rw [hS n aops[n] (by simp)]
    simp [dstA, hn]

theorem foldD_false {aops : List AOper} {tm : List AV} {val : Nat → AV} {D : Nat → Bool} {k : Nat} : ∀ n, k ≤ n → (∀ j, k ≤ j → j < n → D j = false) → foldD aops tm val D n = foldD aops tm val D k
  | 0, h, _ => by have : k = 0 := by omega
                  rw [this]
  | n + 1, h, hD => by
    by_cases e : k = n + 1
    · rw [e]
    · simp only [foldD, hD n (by omega) (by omega)]
      simpa using foldD_false n (by omega) fun j h1 h2 => hD j h1 (by omega)

/-- A front part of the operations. -/
theorem foldD_prefix {aops : List AOper} {tm : List AV} {val : Nat → AV} {S : Nat → St} {D : Nat → Bool} {k n : Nat} (h0 : (S 0).tmps = tm) (hS : ∀ k ao, aops[k]? = some ao → (S (k + 1)).tmps = putA (S k).tmps ao.dst (val k))
    (hk : k ≤ n) (hn : n ≤ aops.length) (h1 : ∀ j, j < k → D j = true) (h2 : ∀ j, k ≤ j → j < n → D j = false) : foldD aops tm val D n = (S k).tmps := by
  rw [foldD_false n hk h2, foldD_congr (D' := fun _ => true) k h1]
  exact foldD_seq h0 hS k (by omega)

theorem orAnc_bit {acc : List Nat} {i : Nat} : ∀ {ds : List Nat}, (orAnc acc ds).testBit i = true → ∃ d ∈ ds, i = d ∨ (acc.getD d 0).testBit i = true
  | [], h => by simp [orAnc] at h
  | d :: r, h => by
    simp only [orAnc, Nat.testBit_or, Bool.or_eq_true] at h
    rcases h with (h | h) | h
    · have : d = i := by simpa [Nat.testBit_two_pow] using h
      exact ⟨d, by simp, .inl this.symm⟩
    · exact ⟨d, by simp, .inr h⟩
    · obtain ⟨e, h1, h2⟩ := orAnc_bit h
      exact ⟨e, by simp [h1], h2⟩

def dsOf (ops : List Oper) (k : Nat) : List Nat := match ops[k]? with
  | some o => (o.after.toList.filter fun e => Region.binds .any e && decide (e.on < k)).map fun (e : Edge) => e.on
  | none => []

theorem ancs_spec {ops : List Oper} : ∀ (n : Nat) (acc : List Nat), (∃ L, ancs ops n acc = acc ++ L ∧ L.length = n) ∧
    ∀ k, acc.length ≤ k → k < acc.length + n → (ancs ops n acc).getD k 0 = orAnc ((ancs ops n acc).take k) (dsOf ops k)
  | 0, acc => ⟨⟨[], by simp [ancs], rfl⟩, fun k h1 h2 => by omega⟩
  | n + 1, acc => by
    obtain ⟨⟨L, h1, h2⟩, h3⟩ := ancs_spec (ops := ops) n (acc ++ [orAnc acc (dsOf ops acc.length)])
    have e : ancs ops (n + 1) acc = ancs ops n (acc ++ [orAnc acc (dsOf ops acc.length)]) := rfl
    rw [e]
    refine ⟨⟨orAnc acc (dsOf ops acc.length) :: L, by rw [h1]; simp, by simp [h2]⟩, fun k hk1 hk2 => ?_⟩
    by_cases ek : k = acc.length
    · subst ek
      rw [h1]
      simp [List.getD_eq_getElem?_getD]
    · exact h3 k (by simp; omega) (by simp; omega)

theorem anc_step {ops : List Oper} {k i : Nat} (hk : k < ops.length) (h : ((ancs ops ops.length []).getD k 0).testBit i = true) :
    ∃ o, ops[k]? = some o ∧ ∃ e ∈ o.after, Region.binds .any e = true ∧ e.on < k ∧ (i = e.on ∨ ((ancs ops ops.length []).getD e.on 0).testBit i = true) := by
  obtain ⟨_, h3⟩ := ancs_spec (ops := ops) ops.length []
  rw [h3 k (by simp) (by simpa using hk)] at h
  obtain ⟨d, hd, hi⟩ := orAnc_bit h
  unfold dsOf at hd
  rw [List.getElem?_eq_getElem hk] at hd
  simp only [List.mem_map, List.mem_filter, Bool.and_eq_true, decide_eq_true_eq] at hd
  obtain ⟨e, ⟨he, hb, hlt⟩, rfl⟩ := hd
  refine ⟨ops[k], List.getElem?_eq_getElem hk, e, by simpa using he, hb, hlt, ?_⟩
  rcases hi with hi | hi
  · exact .inl hi
  · right
    rw [← hi]
    congr 1
    simp only [List.getD_eq_getElem?_getD]
    rw [List.getElem?_take, if_pos hlt]

theorem orderOk_spec {na : Nat} {aops : List AOper} {an : List Nat} : ∀ n, orderOk na aops an n = true → ∀ i j, i < j → j < n → (an.getD j 0).testBit i = true ∨
    (j < na ∧ ∃ x y, aops[i]? = some x ∧ aops[j]? = some y ∧ clash x y = false ∧ clash y x = false)
  | 0, _, i, j, _, h => by omega
  | n + 1, h, i, j, hij, hj => by
    simp only [orderOk, Bool.and_eq_true] at h
    by_cases e : j = n
    · subst e
      have := List.all_eq_true.1 h.2 i (by simpa using hij)
      simp only [Bool.or_eq_true, Bool.and_eq_true, decide_eq_true_eq] at this
      rcases this with h1 | ⟨h1, h2⟩
      · exact .inl h1
      · right
        refine ⟨h1, ?_⟩
        split at h2
        · rename_i x y hx hy
          simp only [Bool.and_eq_true, Bool.not_eq_true'] at h2
          exact ⟨x, y, hx, hy, h2.1, h2.2⟩
        · cases h2
    · exact orderOk_spec n h.1 i j hij (by omega)

theorem clash_false {x y : AOper} {d : Nat} (h : clash x y = false) (hd : x.dst = some d) : d ∉ looksA y ∧ y.dst ≠ some d := by
  unfold clash at h
  rw [hd] at h
  simp only [Bool.or_eq_false_iff, beq_eq_false_iff_ne, ne_eq] at h
  refine ⟨fun hm => ?_, h.2⟩
  have : (looksA y).contains d = true := by simpa using hm
  rw [this] at h
  cases h.1

end
end Go.Proofs.Ytjnknfppndabjaa.Av
