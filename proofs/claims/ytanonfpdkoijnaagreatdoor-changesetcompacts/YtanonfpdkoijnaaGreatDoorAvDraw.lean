/- A part of the proof of ChangesetCompactsCardSaid: an evaluator of the program, proved sound, and what it says. -/
import Derived.Test.YtanonfpdkoijnaaGreatDoorAvReg
namespace Go.Proofs.YtanonfpdkoijnaaGreatDoor.Av
open Go

section
variable {P : Program} {T : List AFun} {cf : Nat → Nat → List AV → Heap → Option (AV × Heap)} {fl : Nat}

theorem mem_tmpsOf [GlobT] {t : Nat} : ∀ {xs : List AOpd}, AOpd.tmp t ∈ xs → t ∈ tmpsOf xs
  | x :: r, h => by
    rcases List.mem_cons.1 h with e | h'
    · subst e; simp [tmpsOf]
    · have ih := mem_tmpsOf h'
      cases x <;> simp [tmpsOf, ih]

theorem getOpd_congr [GlobT] {tm tm' : List AV} {xs : List AOpd} (h : ∀ t ∈ tmpsOf xs, tm[t]? = tm'[t]?) : ∀ x ∈ xs, getOpd tm x = getOpd tm' x := by
  intro x hx
  cases x with
  | tmp t => simp only [getOpd, h t (mem_tmpsOf hx)]
  | _ => rfl

theorem natOpt_congr [GlobT] {tm tm' : List AV} {x : Option AOpd} (h : ∀ y ∈ optL x, getOpd tm y = getOpd tm' y) : natOpt tm x = natOpt tm' x := by
  cases x with
  | none => rfl
  | some y => simp only [natOpt, h y (by simp [optL])]

theorem evOp_congr [GlobT] {tm tm' : List AV} {H : Heap} {op : AOp} (h : ∀ x ∈ opdsA op, getOpd tm x = getOpd tm' x) : evOp P cf fl op tm H = evOp P cf fl op tm' H := by
  cases op with
  | build z ps =>
    have e : (ps.map fun (p : Nat × Nat × AOpd) => (p.1, p.2.1, getOpd tm p.2.2)) = ps.map fun (p : Nat × Nat × AOpd) => (p.1, p.2.1, getOpd tm' p.2.2) := by
      apply List.map_congr_left
      intro p hp
      rw [h p.2.2 (by simp only [opdsA, List.mem_map]; exact ⟨p, hp, rfl⟩)]
    simp only [evOp]
    have e' : (ps.map fun (o, s, x) => (o, s, getOpd tm x)) = ps.map fun (o, s, x) => (o, s, getOpd tm' x) := e
    rw [e']
  | buildSl pu s n z ps =>
    have e' : (ps.map fun (i, x) => (i, getOpd tm x)) = ps.map fun (i, x) => (i, getOpd tm' x) := by
      apply List.map_congr_left
      intro p hp
      show (p.1, getOpd tm p.2) = (p.1, getOpd tm' p.2)
      rw [h p.2 (by simp only [opdsA, List.mem_map]; exact ⟨p, hp, rfl⟩)]
    simp only [evOp]
    rw [e']
  | slice s x lo hi mx =>
    simp only [opdsA] at h
    simp only [evOp]
    rw [h x (by simp), natOpt_congr (fun y hy => h y (by simp [hy])), natOpt_congr (x := hi) (fun y hy => h y (by simp [hy])), natOpt_congr (x := mx) (fun y hy => h y (by simp [hy]))]
  | strSlice t x lo hi =>
    simp only [opdsA] at h
    simp only [evOp]
    rw [h x (by simp), natOpt_congr (fun y hy => h y (by simp [hy])), natOpt_congr (x := hi) (fun y hy => h y (by simp [hy]))]
  | minmax mx xs =>
    simp only [opdsA] at h
    simp only [evOp]
    rw [List.map_congr_left h]
  | mkFn vi xs =>
    simp only [opdsA] at h
    simp only [evOp]
    rw [List.map_congr_left h]
  | call pu vi xs =>
    simp only [opdsA] at h
    simp only [evOp]
    rw [List.map_congr_left h]
  | callF vi xs =>
    simp only [opdsA] at h
    simp only [evOp]
    rw [List.map_congr_left h]
  | callS vi xs =>
    simp only [opdsA] at h
    simp only [evOp]
    rw [List.map_congr_left h]
  | callv pu x xs =>
    simp only [opdsA] at h
    simp only [evOp]
    rw [h x (by simp), List.map_congr_left (fun y hy => h y (by simp [hy]))]
  | _ =>
    simp only [opdsA, List.mem_cons, List.not_mem_nil, or_false, forall_eq_or_imp, forall_eq, false_imp_iff, implies_true] at h
    simp [evOp, h]

theorem wantA_congr [GlobT] {tm tm' : List AV} {g : Option (Nat × Bool)} (h : ∀ t b, g = some (t, b) → tm[t]? = tm'[t]?) : wantA tm g = wantA tm' g := by
  cases g with
  | none => rfl
  | some q =>
    obtain ⟨t, b⟩ := q
    simp only [wantA, getOpd, h t b rfl]

/-- What an operation gives, apart from where it is put. -/
theorem evOper_congr [GlobT] {tm tm' : List AV} {H : Heap} {o : AOper} {st' : St} (h : ∀ t ∈ looksA o, tm[t]? = tm'[t]?) (hev : evOper P cf fl o ⟨tm', H⟩ = some st') :
    ∃ x, st'.tmps = putA tm' o.dst x ∧ evOper P cf fl o ⟨tm, H⟩ = some ⟨putA tm o.dst x, st'.heap⟩ := by
  have h1 : wantA tm o.guard = wantA tm' o.guard := wantA_congr fun t b hg => h t (by simp [looksA, hg])
  have h2 : evOp P cf fl o.op tm H = evOp P cf fl o.op tm' H := evOp_congr (getOpd_congr fun t ht => h t (by
    unfold looksA
    split
    · simp [ht]
    · exact ht))
  unfold evOper at hev ⊢
  simp only [h1, h2] at hev ⊢
  split at hev
  · split at hev
    · rename_i v H1 he
      cases hev
      exact ⟨v, rfl, rfl⟩
    · cases hev
  · cases hev
    exact ⟨_, rfl, rfl⟩
  · cases hev

theorem evOp_quiet [GlobT] {tm : List AV} {H H' : Heap} {op : AOp} {v : AV} (hq : quietOp op = true) (hev : evOp P cf fl op tm H = some (v, H')) : H' = H := by
  cases op with
  | call pu vi xs =>
    simp only [quietOp] at hq
    subst hq
    simp only [evOp, callA] at hev
    split at hev <;> split at hev <;> cases hev <;> rfl
  | callv pu x xs =>
    simp only [quietOp] at hq
    subst hq
    simp only [evOp, callA] at hev
    split at hev
    · split at hev <;> split at hev <;> cases hev <;> rfl
    · cases hev
  | buildSl pu s n z ps =>
    simp only [quietOp] at hq
    subst hq
    simp only [evOp, if_true] at hev
    split at hev <;> cases hev
    rfl
  | lookup kt z m k ok =>
    simp only [evOp] at hev
    split at hev
    · split at hev
      · split at hev
        · split at hev <;> cases hev
          rfl
        · cases hev; rfl
        · cases hev
      · split at hev
        · split at hev
          · split at hev <;> cases hev
            rfl
          · cases hev; rfl
          · cases hev
        · cases hev
      · cases hev
    · cases hev
  | _ =>
    first
    | (simp [quietOp] at hq; done)
    | (simp only [evOp] at hev; (repeat' split at hev) <;> first | (cases hev; rfl) | cases hev)

theorem evOper_quiet [GlobT] {st st' : St} {o : AOper} (hq : quietOp o.op = true) (hev : evOper P cf fl o st = some st') : st'.heap = st.heap := by
  unfold evOper at hev
  split at hev
  · split at hev
    · rename_i v H he
      cases hev
      exact evOp_quiet hq he
    · cases hev
  · cases hev; rfl
  · cases hev

theorem trace_of [GlobT] : ∀ (aops : List AOper) (st st' : St), evOps P cf fl aops st = some st' →
    ∃ S : Nat → St, S 0 = st ∧ S aops.length = st' ∧ ∀ k ao, aops[k]? = some ao → evOper P cf fl ao (S k) = some (S (k + 1))
  | [], st, st', h => by
    simp only [evOps, Option.some.injEq] at h
    exact ⟨fun _ => st, rfl, h, fun k ao hk => by simp at hk⟩
  | o :: r, st, st', h => by
    simp only [evOps] at h
    split at h
    · rename_i st1 h1
      obtain ⟨S, e1, e2, e3⟩ := trace_of r st1 st' h
      refine ⟨fun k => match k with | 0 => st | k + 1 => S k, rfl, by simpa using e2, fun k ao hk => ?_⟩
      cases k with
      | zero =>
        simp only [List.getElem?_cons_zero, Option.some.injEq] at hk
        subst hk
        rw [h1, ← e1]
      | succ k =>
        simp only [List.getElem?_cons_succ] at hk
        exact e3 k ao hk
    · cases h

def dstA (aops : List AOper) (k : Nat) : Option Nat := match aops[k]? with | some o => o.dst | none => none

/-- The temporaries behind some of the operations. -/
def foldD (aops : List AOper) (tm : List AV) (val : Nat → AV) (D : Nat → Bool) : Nat → List AV
  | 0 => tm
  | n + 1 => if D n then putA (foldD aops tm val D n) (dstA aops n) (val n) else foldD aops tm val D n

theorem putA_length (tm : List AV) (d : Option Nat) (x : AV) : (putA tm d x).length = tm.length := by cases d <;> simp [putA]

theorem foldD_length [GlobT] {aops : List AOper} {tm : List AV} {val : Nat → AV} {D : Nat → Bool} : ∀ n, (foldD aops tm val D n).length = tm.length
  | 0 => rfl
  | n + 1 => by
    simp only [foldD]
    split
    · rw [putA_length, foldD_length n]
    · exact foldD_length n

theorem putA_get {tm : List AV} {d : Option Nat} {x : AV} {t : Nat} : (putA tm d x)[t]? = if d = some t then (if t < tm.length then some x else none) else tm[t]? := by
  cases d with
  | none => simp [putA]
  | some d =>
    simp only [putA, List.getElem?_set, Option.some.injEq]
    by_cases e : d = t
    · subst e; rfl
    · simp [e]

theorem foldD_agree [GlobT] {aops : List AOper} {tm : List AV} {val : Nat → AV} {D D' : Nat → Bool} {t : Nat} : ∀ n, (∀ j, j < n → dstA aops j = some t → D j = D' j) → (foldD aops tm val D n)[t]? = (foldD aops tm val D' n)[t]?
  | 0, _ => rfl
  | n + 1, h => by
    have ih := foldD_agree (val := val) (tm := tm) n fun j hj hd => h j (by omega) hd
    simp only [foldD]
    by_cases hd : dstA aops n = some t
    · rw [h n (by omega) hd]
      split
      · simp only [putA_get, hd, if_true, foldD_length]
      · exact ih
    · have hne : ∀ l : List AV, (putA l (dstA aops n) (val n))[t]? = l[t]? := fun l => by rw [putA_get, if_neg hd]
      split <;> split <;> (try simp only [hne]) <;> exact ih

theorem foldD_congr [GlobT] {aops : List AOper} {tm : List AV} {val : Nat → AV} {D D' : Nat → Bool} : ∀ n, (∀ j, j < n → D j = D' j) → foldD aops tm val D n = foldD aops tm val D' n
  | 0, _ => rfl
  | n + 1, h => by
    simp only [foldD, h n (by omega), foldD_congr n fun j hj => h j (by omega)]

theorem foldD_last [GlobT] {aops : List AOper} {tm : List AV} {val : Nat → AV} {D : Nat → Bool} {t k : Nat} (hD : D k = true) (hd : dstA aops k = some t) : ∀ n, k < n → (∀ j, k < j → j < n → dstA aops j = some t → D j = false) →
    (foldD aops tm val D n)[t]? = if t < tm.length then some (val k) else none
  | 0, h, _ => by omega
  | n + 1, hk, h => by
    simp only [foldD]
    by_cases e : k = n
    · subst e
      rw [if_pos hD, putA_get, if_pos hd, foldD_length]
    · have ih := foldD_last (tm := tm) (val := val) hD hd n (by omega) fun j h1 h2 h3 => h j h1 (by omega) h3
      by_cases hdn : dstA aops n = some t
      · rw [h n (by omega) (by omega) hdn]
        simpa using ih
      · split
        · rw [putA_get, if_neg hdn]; exact ih
        · exact ih

theorem foldD_seq [GlobT] {aops : List AOper} {tm : List AV} {val : Nat → AV} {S : Nat → St} (h0 : (S 0).tmps = tm) (hS : ∀ k ao, aops[k]? = some ao → (S (k + 1)).tmps = putA (S k).tmps ao.dst (val k)) :
    ∀ n, n ≤ aops.length → foldD aops tm val (fun _ => true) n = (S n).tmps
  | 0, _ => h0.symm
  | n + 1, h => by
    have hn : n < aops.length := by omega
    simp only [foldD, if_true, foldD_seq h0 hS n (by omega)]
    rw [hS n aops[n] (by simp)]
    simp [dstA, hn]

theorem foldD_false [GlobT] {aops : List AOper} {tm : List AV} {val : Nat → AV} {D : Nat → Bool} {k : Nat} : ∀ n, k ≤ n → (∀ j, k ≤ j → j < n → D j = false) → foldD aops tm val D n = foldD aops tm val D k
  | 0, h, _ => by have : k = 0 := by omega
                  rw [this]
  | n + 1, h, hD => by
    by_cases e : k = n + 1
    · rw [e]
    · simp only [foldD, hD n (by omega) (by omega)]
      simpa using foldD_false n (by omega) fun j h1 h2 => hD j h1 (by omega)

/-- A front part of the operations. -/
theorem foldD_prefix [GlobT] {aops : List AOper} {tm : List AV} {val : Nat → AV} {S : Nat → St} {D : Nat → Bool} {k n : Nat} (h0 : (S 0).tmps = tm) (hS : ∀ k ao, aops[k]? = some ao → (S (k + 1)).tmps = putA (S k).tmps ao.dst (val k))
    (hk : k ≤ n) (hn : n ≤ aops.length) (h1 : ∀ j, j < k → D j = true) (h2 : ∀ j, k ≤ j → j < n → D j = false) : foldD aops tm val D n = (S k).tmps := by
  rw [foldD_false n hk h2, foldD_congr (D' := fun _ => true) k h1]
  exact foldD_seq h0 hS k (by omega)

theorem orAnc_bit [GlobT] {acc : List Nat} {i : Nat} : ∀ {ds : List Nat}, (orAnc acc ds).testBit i = true → ∃ d ∈ ds, i = d ∨ (acc.getD d 0).testBit i = true
  | [], h => by simp [orAnc] at h
  | d :: r, h => by
    simp only [orAnc, Nat.testBit_or, Bool.or_eq_true] at h
    rcases h with (h | h) | h
    · have : d = i := by simpa [Nat.testBit_two_pow] using h
      exact ⟨d, by simp, .inl this.symm⟩
    · exact ⟨d, by simp, .inr h⟩
    · obtain ⟨e, h1, h2⟩ := orAnc_bit h
      exact ⟨e, by simp [h1], h2⟩

def dsOf (ops : List Oper) (k : Nat) : List Nat := match ops[k]? with
  | some o => (o.after.toList.filter fun e => Region.binds .any e && decide (e.on < k)).map fun (e : Edge) => e.on
  | none => []

theorem ancs_spec [GlobT] {ops : List Oper} : ∀ (n : Nat) (acc : List Nat), (∃ L, ancs ops n acc = acc ++ L ∧ L.length = n) ∧
    ∀ k, acc.length ≤ k → k < acc.length + n → (ancs ops n acc).getD k 0 = orAnc ((ancs ops n acc).take k) (dsOf ops k)
  | 0, acc => ⟨⟨[], by simp [ancs], rfl⟩, fun k h1 h2 => by omega⟩
  | n + 1, acc => by
    obtain ⟨⟨L, h1, h2⟩, h3⟩ := ancs_spec (ops := ops) n (acc ++ [orAnc acc (dsOf ops acc.length)])
    have e : ancs ops (n + 1) acc = ancs ops n (acc ++ [orAnc acc (dsOf ops acc.length)]) := rfl
    rw [e]
    refine ⟨⟨orAnc acc (dsOf ops acc.length) :: L, by rw [h1]; simp, by simp [h2]⟩, fun k hk1 hk2 => ?_⟩
    by_cases ek : k = acc.length
    · subst ek
      rw [h1]
      simp [List.getD_eq_getElem?_getD]
    · exact h3 k (by simp; omega) (by simp; omega)

theorem anc_step [GlobT] {ops : List Oper} {k i : Nat} (hk : k < ops.length) (h : ((ancs ops ops.length []).getD k 0).testBit i = true) :
    ∃ o, ops[k]? = some o ∧ ∃ e ∈ o.after, Region.binds .any e = true ∧ e.on < k ∧ (i = e.on ∨ ((ancs ops ops.length []).getD e.on 0).testBit i = true) := by
  obtain ⟨_, h3⟩ := ancs_spec (ops := ops) ops.length []
  rw [h3 k (by simp) (by simpa using hk)] at h
  obtain ⟨d, hd, hi⟩ := orAnc_bit h
  unfold dsOf at hd
  rw [List.getElem?_eq_getElem hk] at hd
  simp only [List.mem_map, List.mem_filter, Bool.and_eq_true, decide_eq_true_eq] at hd
  obtain ⟨e, ⟨he, hb, hlt⟩, rfl⟩ := hd
  refine ⟨ops[k], List.getElem?_eq_getElem hk, e, by simpa using he, hb, hlt, ?_⟩
  rcases hi with hi | hi
  · exact .inl hi
  · right
    rw [← hi]
    congr 1
    simp only [List.getD_eq_getElem?_getD]
    rw [List.getElem?_take, if_pos hlt]

theorem orderOk_spec [GlobT] {sw : Nat} {aops : List AOper} {an : List Nat} : ∀ n, orderOk sw aops an n = true → ∀ i j, i < j → j < n → (an.getD j 0).testBit i = true ∨
    (((quietAt aops i = true ∨ quietAt aops j = true) ∨ (i = sw ∧ j = sw + 1 ∧ allocAt aops i = true ∧ allocAt aops j = true)) ∧ ∃ x y, aops[i]? = some x ∧ aops[j]? = some y ∧ clash x y = false ∧ clash y x = false)
  | 0, _, i, j, _, h => by omega
  | n + 1, h, i, j, hij, hj => by
    simp only [orderOk, Bool.and_eq_true] at h
    by_cases e : j = n
    · subst e
      have := List.all_eq_true.1 h.2 i (by simpa using hij)
      simp only [Bool.or_eq_true, Bool.and_eq_true, beq_iff_eq] at this
      rcases this with h1 | ⟨h1, h2⟩
      · exact .inl h1
      · right
        refine ⟨by rcases h1 with h1 | ⟨⟨⟨h1, h3⟩, h4⟩, h5⟩; exact .inl h1; exact .inr ⟨h1, h3, h4, h5⟩, ?_⟩
        split at h2
        · rename_i x y hx hy
          simp only [Bool.and_eq_true, Bool.not_eq_true'] at h2
          exact ⟨x, y, hx, hy, h2.1, h2.2⟩
        · cases h2
    · exact orderOk_spec n h.1 i j hij (by omega)

theorem stabOk_spec {aops : List AOper} {ck : List (Nat × Nat)} {an : List Nat} {n k m : Nat} (h : stabOk aops ck an n = true) (hk : k < n) (hm : m < n) (hkq : quietAt aops k = true) (hmq : quietAt aops m = false) :
    neutralAt aops k = true ∨ (an.getD k 0).testBit m = true ∨ (an.getD m 0).testBit k = true ∨ (k, m) ∈ ck := by
  have h1 := List.all_eq_true.1 h k (by simpa using hk)
  simp only [Bool.or_eq_true, hkq, Bool.not_true, Bool.false_eq_true, or_false] at h1
  rcases h1 with h1 | h1
  · exact .inl h1
  · have h2 := List.all_eq_true.1 h1 m (by simpa using hm)
    simp only [Bool.or_eq_true, hmq, Bool.false_eq_true, false_or] at h2
    rcases h2 with (h2 | h2) | h2
    · exact .inr (.inl h2)
    · exact .inr (.inr (.inl h2))
    · exact .inr (.inr (.inr (by simpa using h2)))

theorem neutral_quiet {op : AOp} (h : neutralOp op = true) : quietOp op = true := by
  cases op <;> first | rfl | exact h | (simp [neutralOp] at h)

theorem evOp_neutral [GlobT] {tm : List AV} {H H' : Heap} {op : AOp} {v : AV} {H1 : Heap} (hq : neutralOp op = true) (hev : evOp P cf fl op tm H = some (v, H1)) : evOp P cf fl op tm H' = some (v, H') := by
  cases op with
  | buildSl pu s n z ps =>
    simp only [neutralOp] at hq
    subst hq
    simp only [evOp, if_true] at hev ⊢
    split at hev <;> cases hev
    rfl
  | _ =>
    first
    | (simp [neutralOp] at hq; done)
    | (simp only [evOp] at hev ⊢; (repeat' split at hev) <;> first | (cases hev; rfl) | (cases hev; simp_all) | cases hev)

theorem ldCells_congr {H H' : Heap} {x : AV} {n : Nat} (h : ∀ id, objOf x = some id → H'[id]? = H[id]?) : ldCells H' x n = ldCells H x n := by
  cases x <;> try rfl
  rename_i id tot idx off
  simp only [ldCells, h id rfl]

theorem sliceA_congr {H H' : Heap} {s : Nat} {x : AV} {lo hi mx : Option Nat} (h : ∀ id, objOf x = some id → H'[id]? = H[id]?) : sliceA H' s x lo hi mx = sliceA H s x lo hi mx := by
  cases x with
  | ms id tot off len => simp only [sliceA, h id rfl]
  | lit v => unfold sliceA; split <;> rename_i h1 <;> first | rfl | cases h1
  | _ => rfl

theorem seal1_plain {H H' : Heap} {x : AV} (h : plain1 x = true) : seal1 H 0 x = seal1 H' 0 x := by
  cases x with
  | fn v caps => cases caps <;> rfl
  | _ => first | rfl | (simp [plain1] at h)

theorem seal2_plain [GlobT] {H H' : Heap} {x : AV} (h : plain2 x = true) : seal2 H 0 x = seal2 H' 0 x := by
  cases x with
  | agg cs =>
    simp only [plain2] at h
    simp only [seal2]
    congr 1
    exact List.map_congr_left fun y hy => seal1_plain (plainL_mem h y hy)
  | _ => exact seal1_plain (H := H) (H' := H') (by simpa [plain2] using h)

theorem evOp_stable [GlobT] {tm : List AV} {H H' : Heap} {op : AOp} {v : AV} {H1 : Heap} {r : Option Nat} (hq : stableAt op tm = some r) (hr : ∀ id, r = some id → H'[id]? = H[id]?) (hev : evOp P cf fl op tm H = some (v, H1)) : evOp P cf fl op tm H' = some (v, H') := by
  cases op with
  | load agg n x =>
    simp only [stableAt, Option.some.injEq] at hq
    simp only [evOp, ldCells_congr (H := H) (H' := H') (x := getOpd tm x) (fun id h => hr id (by rw [← hq]; exact h))] at hev ⊢
    split at hev
    · split at hev
      · cases hev; simp_all
      · split at hev
        · cases hev; simp_all
        · cases hev
    · cases hev
  | idxAddr s x i =>
    simp only [stableAt, Option.some.injEq] at hq
    simp only [evOp] at hev ⊢
    split at hev
    · split at hev
      · split at hev
        · split at hev
          · cases hev; simp_all
          · cases hev
        · cases hev
      · rename_i id tot off len hx
        rw [hr id (by rw [← hq, hx]; rfl)]
        split at hev
        · split at hev
          · cases hev; simp_all
          · cases hev
        · cases hev
      · cases hev
    · cases hev
  | slice s x lo hi mx =>
    simp only [stableAt, Option.some.injEq] at hq
    simp only [evOp, sliceA_congr (H := H) (H' := H') (x := getOpd tm x) (fun id h => hr id (by rw [← hq]; exact h))] at hev ⊢
    split at hev
    · split at hev
      · cases hev; simp_all
      · cases hev
    · cases hev
  | lookup kt z m k ok =>
    simp only [stableAt, Option.some.injEq] at hq
    simp only [evOp] at hev ⊢
    split at hev
    · rename_i kv hkv
      split at hev
      · rename_i hm
        split at hev
        · split at hev <;> cases hev
          simp_all
        · cases hev; simp_all
        · cases hev
      · rename_i id hm
        rw [hr id (by rw [← hq, hm]; rfl)]
        split at hev
        · rename_i ents hob
          split at hev
          · split at hev <;> cases hev
            simp_all
          · cases hev; simp_all
          · cases hev
        · cases hev
      · cases hev
    · cases hev
  | lenM x =>
    simp only [stableAt, Option.some.injEq] at hq
    simp only [evOp] at hev ⊢
    split at hev
    · cases hev; simp_all
    · rename_i id hx
      rw [hr id (by rw [← hq, hx]; rfl)]
      split at hev
      · cases hev; simp_all
      · cases hev
    · cases hev
  | call pu vi args =>
    cases pu with
    | false => simp [stableAt] at hq
    | true =>
      simp only [stableAt] at hq
      split at hq
      · rename_i hp
        simp only [evOp, callA, hp] at hev ⊢
        split at hev <;> cases hev
        simp_all
      · cases hq
  | callS vi args =>
    simp only [stableAt] at hq
    split at hq
    · rename_i hp
      have e : (args.map (getOpd tm)).map (seal2 H' 0) = (args.map (getOpd tm)).map (seal2 H 0) := List.map_congr_left fun y hy => seal2_plain (plainAll_mem hp y hy)
      simp only [evOp, e] at hev ⊢
      split at hev
      · rename_i r H2 he
        split at hev
        · rename_i hr
          cases hev
          simp [he, hr]
        · cases hev
      · cases hev
    · cases hq
  | callv pu x args =>
    cases pu with
    | false => simp [stableAt] at hq
    | true =>
      simp only [stableAt] at hq
      split at hq
      · rename_i vi caps hx
        split at hq
        · rename_i hp
          simp only [evOp, hx, callA, hp] at hev ⊢
          split at hev <;> cases hev
          simp_all
        · cases hq
      · cases hq
  | _ => simp [stableAt] at hq

theorem blt_lt {a b : Nat} (h : Nat.blt a b = true) : a < b := Nat.le_of_ble_eq_true h

theorem get_app [GlobT] {H : Heap} {L : List AObj} {id : Nat} (h : Nat.blt id H.length = true) : (H ++ L)[id]? = H[id]? := List.getElem?_append_left (blt_lt h)

theorem get_set {H : Heap} {o : AObj} {i id : Nat} (h : (!Nat.beq i id) = true) : (H.set i o)[id]? = H[id]? := by
  have : i ≠ id := by
    intro e
    subst e
    simp at h
  rw [List.getElem?_set_ne this]

theorem appendA_keeps [GlobT] {H H' : Heap} {s bytes id : Nat} {x r : AV} {ys : List (List AV)} (hk : (match x with | .ms i _ _ _ => !Nat.beq i id | _ => Nat.blt id H.length) = true) (hev : appendA fl H s bytes x ys = some (r, H')) : H'[id]? = H[id]? := by
  unfold appendA at hev
  split at hev
  · split at hev
    · split at hev <;> cases hev
      · rfl
      · exact get_app hk
    · split at hev
      · cases hev; rfl
      · split at hev <;> cases hev
        exact get_app hk
    · split at hev
      · split at hev
        · split at hev
          · cases hev; rfl
          · split at hev
            · split at hev
              · cases hev; exact get_set hk
              · split at hev
                · cases hev; exact get_set hk
                · cases hev
            · cases hev
        · cases hev
      · cases hev
    · cases hev
  · cases hev

/-- What a call leaves alone: what lies below its floor. -/
def FlOK (cf : Nat → Nat → List AV → Heap → Option (AV × Heap)) : Prop := ∀ fl vi args H r H', fl ≤ H.length → cf fl vi args H = some (r, H') → H'.take fl = H.take fl ∧ fl ≤ H'.length

theorem evOp_keeps [GlobT] (hfo : FlOK cf) {tm : List AV} {H H' : Heap} {op : AOp} {v : AV} {id : Nat} (hk : keepsA op tm H.length id = true) (hev : evOp P cf fl op tm H = some (v, H')) : H'[id]? = H[id]? := by
  cases op with
  | alloc z => simp only [evOp] at hev; cases hev; exact get_app hk
  | claim s => simp only [evOp] at hev; cases hev; exact get_app hk
  | allocC z cl => simp only [evOp] at hev; cases hev; rw [List.append_assoc]; exact get_app hk
  | box x =>
    simp only [evOp] at hev
    split at hev <;> cases hev
    exact get_app hk
  | buildSl pu s n z ps =>
    simp only [evOp] at hev
    split at hev
    · split at hev <;> cases hev
      · rfl
      · exact get_app hk
    · cases hev
  | mkSlice s z b l c =>
    simp only [evOp] at hev
    split at hev
    · split at hev <;> cases hev
      exact get_app hk
    · cases hev
  | mkMap => simp only [evOp] at hev; cases hev; exact get_app hk
  | callF vi args =>
    simp only [evOp] at hev
    obtain ⟨h1, h2⟩ := hfo _ _ _ _ _ _ (Nat.le_refl _) hev
    have hlt := blt_lt hk
    have : (H'.take H.length)[id]? = (H.take H.length)[id]? := by rw [h1]
    rw [List.getElem?_take, List.getElem?_take, if_pos hlt, if_pos hlt] at this
    exact this
  | store n x u =>
    simp only [keepsA] at hk
    simp only [evOp] at hev
    split at hev
    · split at hev
      · split at hev
        · rename_i H2 hst
          cases hev
          unfold stCells at hst
          split at hst
          · rename_i i tot idx off hx
            rw [hx] at hk
            split at hst
            · split at hst
              · split at hst
                · split at hst
                  · split at hst <;> cases hst
                    exact get_set hk
                  · cases hst
                · cases hst
              · cases hst
            · cases hst
          · cases hst
        · cases hev
      · cases hev
    · cases hev
  | append s b x y =>
    simp only [keepsA] at hk
    simp only [evOp] at hev
    split at hev
    · exact appendA_keeps hk hev
    · cases hev
  | mapUpd kt m k x =>
    simp only [keepsA] at hk
    simp only [evOp] at hev
    split at hev
    · rename_i kv i h1 h2
      rw [h2] at hk
      split at hev
      · split at hev
        · split at hev
          · split at hev
            · split at hev <;> cases hev
              exact get_set hk
            · cases hev
          · cases hev; exact get_set hk
          · cases hev
        · cases hev
      · cases hev
    · cases hev
  | _ => simp [keepsA] at hk

theorem clash_false {x y : AOper} {d : Nat} (h : clash x y = false) (hd : x.dst = some d) : d ∉ looksA y ∧ y.dst ≠ some d := by
  unfold clash at h
  rw [hd] at h
  simp only [Bool.or_eq_false_iff, beq_eq_false_iff_ne, ne_eq] at h
  refine ⟨fun hm => ?_, h.2⟩
  have : (looksA y).contains d = true := by simpa using hm
  rw [this] at h
  cases h.1

/-- What lies below the floor is as it was. -/
def Fr (fl : Nat) (H H' : Heap) : Prop := H'.take fl = H.take fl ∧ fl ≤ H'.length

theorem Fr.refl {H : Heap} (h : fl ≤ H.length) : Fr fl H H := ⟨rfl, h⟩
theorem Fr.trans {a b c : Heap} (h : Fr fl a b) (k : Fr fl b c) : Fr fl a c := ⟨k.1.trans h.1, k.2⟩
theorem Fr.app {H L : Heap} (h : fl ≤ H.length) : Fr fl H (H ++ L) := ⟨List.take_append_of_le_length h, by simp; omega⟩
theorem Fr.set {H : Heap} {i : Nat} {o : AObj} (h : fl ≤ H.length) (hi : fl ≤ i) : Fr fl H (H.set i o) := ⟨List.take_set_of_le hi, by simpa using h⟩

theorem appendA_fr [GlobT] {H H' : Heap} {s bytes : Nat} {x r : AV} {ys : List (List AV)} (h : fl ≤ H.length) (hev : appendA fl H s bytes x ys = some (r, H')) : Fr fl H H' := by
  unfold appendA at hev
  split at hev
  · split at hev
    · split at hev <;> cases hev
      · exact .refl h
      · exact .app h
    · split at hev
      · cases hev; exact .refl h
      · split at hev <;> cases hev
        exact .app h
    · split at hev
      · split at hev
        · split at hev
          · cases hev; exact .refl h
          · split at hev
            · rename_i hi
              split at hev
              · cases hev; exact .set h hi
              · split at hev
                · cases hev; exact .set h hi
                · cases hev
            · cases hev
        · cases hev
      · cases hev
    · cases hev
  · cases hev

theorem evOp_fr [GlobT] (hfo : FlOK cf) {tm : List AV} {H H' : Heap} {op : AOp} {v : AV} (h : fl ≤ H.length) (hev : evOp P cf fl op tm H = some (v, H')) : Fr fl H H' := by
  by_cases hq : quietOp op = true
  · rw [evOp_quiet hq hev]; exact .refl h
  · cases op with
    | alloc z => simp only [evOp] at hev; cases hev; exact .app h
    | claim s => simp only [evOp] at hev; cases hev; exact .app h
    | allocC z cl => simp only [evOp] at hev; cases hev; rw [List.append_assoc]; exact .app h
    | box x => simp only [evOp] at hev; split at hev <;> cases hev; exact .app h
    | buildSl pu s n z ps =>
      simp only [evOp] at hev
      split at hev
      · split at hev <;> cases hev
        · exact .refl h
        · exact .app h
      · cases hev
    | mkSlice s z b l c =>
      simp only [evOp] at hev
      split at hev
      · split at hev <;> cases hev
        exact .app h
      · cases hev
    | mkMap => simp only [evOp] at hev; cases hev; exact .app h
    | rangeStr x => simp only [evOp] at hev; split at hev <;> cases hev; exact .app h
    | nextStr x =>
      simp only [evOp] at hev
      split at hev
      · split at hev
        · rename_i hi
          split at hev
          · split at hev <;> cases hev
            · exact .set h hi
            · exact .refl h
          · cases hev
        · cases hev
      · cases hev
    | store n x u =>
      simp only [evOp] at hev
      split at hev
      · split at hev
        · split at hev
          · rename_i H2 hst
            cases hev
            unfold stCells at hst
            split at hst
            · split at hst
              · rename_i hi
                split at hst
                · split at hst
                  · split at hst
                    · split at hst <;> cases hst
                      exact .set h hi
                    · cases hst
                  · cases hst
                · cases hst
              · cases hst
            · cases hst
          · cases hev
        · cases hev
      · cases hev
    | append s b x y =>
      simp only [evOp] at hev
      split at hev
      · exact appendA_fr h hev
      · cases hev
    | appendZ s b z x n =>
      simp only [evOp] at hev
      split at hev
      · split at hev
        · exact appendA_fr h hev
        · cases hev
      · cases hev
    | mapUpd kt m k x =>
      simp only [evOp] at hev
      split at hev
      · split at hev
        · rename_i hi
          split at hev
          · split at hev
            · split at hev
              · split at hev <;> cases hev
                exact .set h hi
              · cases hev
            · cases hev; exact .set h hi
            · cases hev
          · cases hev
        · cases hev
      · cases hev
    | delete kt m k =>
      simp only [evOp] at hev
      split at hev
      · split at hev
        · rename_i hi
          split at hev
          · split at hev
            · cases hev; exact .set h hi
            · cases hev; exact .refl h
            · cases hev
          · cases hev
        · cases hev
      · cases hev
    | copy s x y =>
      simp only [evOp] at hev
      split at hev
      · split at hev
        · split at hev
          · split at hev
            · split at hev
              · rename_i hi
                split at hev <;> cases hev
                · exact .refl h
                · exact .set h hi.2.2.2
              · cases hev
            · cases hev
          · cases hev
        · cases hev
      · cases hev
    | freeze x =>
      simp only [evOp] at hev
      split at hev
      · split at hev
        · rename_i hi
          split at hev
          · split at hev <;> cases hev
            exact .set h hi
          · cases hev
        · cases hev
      · cases hev; exact .refl h
    | call pu vi args =>
      cases pu with
      | true => simp [quietOp] at hq
      | false => exact hfo _ _ _ _ _ _ h hev
    | callv pu x args =>
      cases pu with
      | true => simp [quietOp] at hq
      | false =>
        simp only [evOp] at hev
        split at hev
        · exact hfo _ _ _ _ _ _ h hev
        · cases hev
    | callF vi args =>
      simp only [evOp] at hev
      obtain ⟨h1, h2⟩ := hfo _ _ _ _ _ _ (Nat.le_refl _) hev
      refine ⟨?_, Nat.le_trans h h2⟩
      have : (H'.take H.length).take fl = (H.take H.length).take fl := by rw [h1]
      rwa [List.take_take, List.take_take, Nat.min_eq_left h] at this
    | _ => simp [quietOp] at hq

theorem evOper_fr [GlobT] (hfo : FlOK cf) {o : AOper} {st st' : St} (h : fl ≤ st.heap.length) (hev : evOper P cf fl o st = some st') : Fr fl st.heap st'.heap := by
  unfold evOper at hev
  split at hev
  · split at hev
    · rename_i v H he
      cases hev
      exact evOp_fr hfo h he
    · cases hev
  · cases hev; exact .refl h
  · cases hev

end
end Go.Proofs.YtanonfpdkoijnaaGreatDoor.Av
