/- A part of the proof of EditChecksCardSaid. -/
import Derived.Test.YtmflphfmefakfaaGreatDoorAvReg
set_option linter.all false
namespace Go.Proofs.YtmflphfmefakfaaGreatDoor.Av
open Go
section
variable {P : Program} {T : List AFun} {cf : Nat → Nat → List AV → Heap → Option (AV × Heap)} {fl : Nat}
theorem mem_tmpsOf [GlobT] {t : Nat} : ∀ {xs : List AOpd}, AOpd.tmp t ∈ xs → t ∈ tmpsOf xs
 | x :: r, h => by
  rcases List.mem_cons.1 h with e | h'
  ·subst e; simp [tmpsOf]
  ·have ih := mem_tmpsOf h'
   cases x <;> simp [tmpsOf, ih]
theorem getOpd_congr [GlobT] {tm tm' : List AV} {xs : List AOpd} (h : ∀ t ∈ tmpsOf xs, tm[t]? = tm'[t]?) : ∀ x ∈ xs, getOpd tm x = getOpd tm' x := by
 intro x hx
 cases x with
 | tmp t => simp only [getOpd, h t (mem_tmpsOf hx)]
 | _ => rfl
theorem natOpt_congr [GlobT] {tm tm' : List AV} {x : Option AOpd} (h : ∀ y ∈ optL x, getOpd tm y = getOpd tm' y) : natOpt tm x = natOpt tm' x := by
 cases x with
 | none => rfl
 | some y => simp only [natOpt, h y (by simp [optL])]
theorem evOp_congr [GlobT] {tm tm' : List AV} {H : Heap} {op : AOp} (h : ∀ x ∈ opdsA op, getOpd tm x = getOpd tm' x) : evOp P cf fl op tm H = evOp P cf fl op tm' H := by
 cases op with
 | build z ps =>
  have e : (ps.map fun (p : Nat × Nat × AOpd) => (p.1, p.2.1, getOpd tm p.2.2)) = ps.map fun (p : Nat × Nat × AOpd) => (p.1, p.2.1, getOpd tm' p.2.2) := by
   apply List.map_congr_left
   intro p hp
   rw [h p.2.2 (by simp only [opdsA, List.mem_map]; exact ⟨p, hp, rfl⟩)]
  simp only [evOp]
  have e' : (ps.map fun (o, s, x) => (o, s, getOpd tm x)) = ps.map fun (o, s, x) => (o, s, getOpd tm' x) := e
  rw [e']
 | buildSl pu s n z ps =>
  have e' : (ps.map fun (i, x) => (i, getOpd tm x)) = ps.map fun (i, x) => (i, getOpd tm' x) := by
   apply List.map_congr_left
   intro p hp
   show (p.1, getOpd tm p.2) = (p.1, getOpd tm' p.2)
   rw [h p.2 (by simp only [opdsA, List.mem_map]; exact ⟨p, hp, rfl⟩)]
  simp only [evOp]
  rw [e']
 | slice s x lo hi mx =>
  simp only [opdsA] at h
  simp only [evOp]
  rw [h x (by simp), natOpt_congr (fun y hy => h y (by simp [hy])), natOpt_congr (x := hi) (fun y hy => h y (by simp [hy])), natOpt_congr (x := mx) (fun y hy => h y (by simp [hy]))]
 | strSlice t x lo hi =>
  simp only [opdsA] at h
  simp only [evOp]
  rw [h x (by simp), natOpt_congr (fun y hy => h y (by simp [hy])), natOpt_congr (x := hi) (fun y hy => h y (by simp [hy]))]
 | minmax mx xs =>
  simp only [opdsA] at h
  simp only [evOp]
  rw [List.map_congr_left h]
 | mkFn vi xs =>
  simp only [opdsA] at h
  simp only [evOp]
  rw [List.map_congr_left h]
 | call pu vi xs =>
  simp only [opdsA] at h
  simp only [evOp]
  rw [List.map_congr_left h]
 | callF vi xs =>
  simp only [opdsA] at h
  simp only [evOp]
  rw [List.map_congr_left h]
 | callS vi xs =>
  simp only [opdsA] at h
  simp only [evOp]
  rw [List.map_congr_left h]
 | callv pu x xs =>
  simp only [opdsA] at h
  simp only [evOp]
  rw [h x (by simp), List.map_congr_left (fun y hy => h y (by simp [hy]))]
 | _ =>
  simp only [opdsA, List.mem_cons, List.not_mem_nil, or_false, forall_eq_or_imp, forall_eq, false_imp_iff, implies_true] at h
  simp [evOp, h]
theorem wantA_congr [GlobT] {tm tm' : List AV} {g : Option (Nat × Bool)} (h : ∀ t b, g = some (t, b) → tm[t]? = tm'[t]?) : wantA tm g = wantA tm' g := by
 cases g with
 | none => rfl
 | some q =>
  obtain ⟨t, b⟩ := q
  simp only [wantA, getOpd, h t b rfl]
theorem evOper_congr [GlobT] {tm tm' : List AV} {H : Heap} {o : AOper} {st' : St} (h : ∀ t ∈ looksA o, tm[t]? = tm'[t]?) (hev : evOper P cf fl o ⟨tm', H⟩ = some st') :
  ∃ x, st'.tmps = putA tm' o.dst x ∧ evOper P cf fl o ⟨tm, H⟩ = some ⟨putA tm o.dst x, st'.heap⟩ := by
 have h1 : wantA tm o.guard = wantA tm' o.guard := wantA_congr fun t b hg => h t (by simp [looksA, hg])
 have h2 : evOp P cf fl o.op tm H = evOp P cf fl o.op tm' H := evOp_congr (getOpd_congr fun t ht => h t (by
  unfold looksA
  split
  ·simp [ht]
  ·exact ht))
 unfold evOper at hev ⊢
 simp only [h1, h2] at hev ⊢
 split at hev
 ·split at hev
  ·rename_i v H1 he
   cases hev
   exact ⟨v, rfl, rfl⟩
  ·cases hev
 ·cases hev
  exact ⟨_, rfl, rfl⟩
 ·cases hev
theorem evOp_quiet [GlobT] {tm : List AV} {H H' : Heap} {op : AOp} {v : AV} (hq : quietOp op = true) (hev : evOp P cf fl op tm H = some (v, H')) : H' = H := by
 cases op with
 | call pu vi xs =>
  simp only [quietOp] at hq
  subst hq
  simp only [evOp, callA] at hev
  split at hev <;> split at hev <;> cases hev <;> rfl
 | callv pu x xs =>
  simp only [quietOp] at hq
  subst hq
  simp only [evOp, callA] at hev
  split at hev
  ·split at hev <;> split at hev <;> cases hev <;> rfl
  ·cases hev
 | buildSl pu s n z ps =>
  simp only [quietOp] at hq
  subst hq
  simp only [evOp, if_true] at hev
  split at hev <;> cases hev
  rfl
 | lookup kt z m k ok =>
  simp only [evOp] at hev
  split at hev
  ·split at hev
   ·split at hev
    ·split at hev <;> cases hev
     rfl
    ·cases hev; rfl
    ·cases hev
   ·split at hev
    ·split at hev
     ·split at hev <;> cases hev
      rfl
     ·cases hev; rfl
     ·cases hev
    ·cases hev
   ·cases hev
  ·cases hev
 | _ =>
  first
  | (simp [quietOp] at hq; done)
  | (simp only [evOp] at hev; (repeat' split at hev) <;> first | (cases hev; rfl) | cases hev)
theorem evOper_quiet [GlobT] {st st' : St} {o : AOper} (hq : quietOp o.op = true) (hev : evOper P cf fl o st = some st') : st'.heap = st.heap := by
 unfold evOper at hev
 split at hev
 ·split at hev
  ·rename_i v H he
   cases hev
   exact evOp_quiet hq he
  ·cases hev
 ·cases hev; rfl
 ·cases hev
theorem trace_of [GlobT] : ∀ (aops : List AOper) (st st' : St), evOps P cf fl aops st = some st' →
  ∃ S : Nat → St, S 0 = st ∧ S aops.length = st' ∧ ∀ k ao, aops[k]? = some ao → evOper P cf fl ao (S k) = some (S (k + 1))
 | [], st, st', h => by
  simp only [evOps, Option.some.injEq] at h
  exact ⟨fun _ => st, rfl, h, fun k ao hk => by simp at hk⟩
 | o :: r, st, st', h => by
  simp only [evOps] at h
  split at h
  ·rename_i st1 h1
   obtain ⟨S, e1, e2, e3⟩ := trace_of r st1 st' h
   refine ⟨fun k => match k with | 0 => st | k + 1 => S k, rfl, by simpa using e2, fun k ao hk => ?_⟩
   cases k with
   | zero =>
    simp only [List.getElem?_cons_zero, Option.some.injEq] at hk
    subst hk
    rw [h1, ← e1]
   | succ k =>
    simp only [List.getElem?_cons_succ] at hk
    exact e3 k ao hk
  ·cases h
def dstA (aops : List AOper) (k : Nat) : Option Nat := match aops[k]? with | some o => o.dst | none => none
def foldD (aops : List AOper) (tm : List AV) (val : Nat → AV) (D : Nat → Bool) : Nat → List AV
 | 0 => tm
 | n + 1 => if D n then putA (foldD aops tm val D n) (dstA aops n) (val n) else foldD aops tm val D n
theorem putA_length (tm : List AV) (d : Option Nat) (x : AV) : (putA tm d x).length = tm.length := by cases d <;> simp [putA]
theorem foldD_length [GlobT] {aops : List AOper} {tm : List AV} {val : Nat → AV} {D : Nat → Bool} : ∀ n, (foldD aops tm val D n).length = tm.length
 | 0 => rfl
 | n + 1 => by
  simp only [foldD]
  split
  ·rw [putA_length, foldD_length n]
  ·exact foldD_length n
theorem putA_get {tm : List AV} {d : Option Nat} {x : AV} {t : Nat} : (putA tm d x)[t]? = if d = some t then (if t < tm.length then some x else none) else tm[t]? := by
 cases d with
 | none => simp [putA]
 | some d =>
  simp only [putA, List.getElem?_set, Option.some.injEq]
  by_cases e : d = t
  ·subst e; rfl
  ·simp [e]
theorem foldD_agree [GlobT] {aops : List AOper} {tm : List AV} {val : Nat → AV} {D D' : Nat → Bool} {t : Nat} : ∀ n, (∀ j, j < n → dstA aops j = some t → D j = D' j) → (foldD aops tm val D n)[t]? = (foldD aops tm val D' n)[t]?
 | 0, _ => rfl
 | n + 1, h => by
  have ih := foldD_agree (val := val) (tm := tm) n fun j hj hd => h j (by omega) hd
  simp only [foldD]
  by_cases hd : dstA aops n = some t
  ·rw [h n (by omega) hd]
   split
   ·simp only [putA_get, hd, if_true, foldD_length]
   ·exact ih
  ·have hne : ∀ l : List AV, (putA l (dstA aops n) (val n))[t]? = l[t]? := fun l => by rw [putA_get, if_neg hd]
   split <;> split <;> (try simp only [hne]) <;> exact ih
theorem foldD_congr [GlobT] {aops : List AOper} {tm : List AV} {val : Nat → AV} {D D' : Nat → Bool} : ∀ n, (∀ j, j < n → D j = D' j) → foldD aops tm val D n = foldD aops tm val D' n
 | 0, _ => rfl
 | n + 1, h => by
  simp only [foldD, h n (by omega), foldD_congr n fun j hj => h j (by omega)]
theorem foldD_last [GlobT] {aops : List AOper} {tm : List AV} {val : Nat → AV} {D : Nat → Bool} {t k : Nat} (hD : D k = true) (hd : dstA aops k = some t) : ∀ n, k < n → (∀ j, k < j → j < n → dstA aops j = some t → D j = false) →
  (foldD aops tm val D n)[t]? = if t < tm.length then some (val k) else none
 | 0, h, _ => by omega
 | n + 1, hk, h => by
  simp only [foldD]
  by_cases e : k = n
  ·subst e
   rw [if_pos hD, putA_get, if_pos hd, foldD_length]
  ·have ih := foldD_last (tm := tm) (val := val) hD hd n (by omega) fun j h1 h2 h3 => h j h1 (by omega) h3
   by_cases hdn : dstA aops n = some t
   ·rw [h n (by omega) (by omega) hdn]
    simpa using ih
   ·split
    ·rw [putA_get, if_neg hdn]; exact ih
    ·exact ih
theorem foldD_seq [GlobT] {aops : List AOper} {tm : List AV} {val : Nat → AV} {S : Nat → St} (h0 : (S 0).tmps = tm) (hS : ∀ k ao, aops[k]? = some ao → (S (k + 1)).tmps = putA (S k).tmps ao.dst (val k)) :
  ∀ n, n ≤ aops.length → foldD aops tm val (fun _ => true) n = (S n).tmps
 | 0, _ => h0.symm
 | n + 1, h => by
  have hn : n < aops.length := by omega
  simp only [foldD, if_true, foldD_seq h0 hS n (by omega)]
  rw [hS n aops[n] (by simp)]
  simp [dstA, hn]
theorem foldD_false [GlobT] {aops : List AOper} {tm : List AV} {val : Nat → AV} {D : Nat → Bool} {k : Nat} : ∀ n, k ≤ n → (∀ j, k ≤ j → j < n → D j = false) → foldD aops tm val D n = foldD aops tm val D k
 | 0, h, _ => by have : k = 0 := (by omega); rw [this]
 | n + 1, h, hD => by
  by_cases e : k = n + 1
  ·rw [e]
  ·simp only [foldD, hD n (by omega) (by omega)]
   simpa using foldD_false n (by omega) fun j h1 h2 => hD j h1 (by omega)
theorem foldD_prefix [GlobT] {aops : List AOper} {tm : List AV} {val : Nat → AV} {S : Nat → St} {D : Nat → Bool} {k n : Nat} (h0 : (S 0).tmps = tm) (hS : ∀ k ao, aops[k]? = some ao → (S (k + 1)).tmps = putA (S k).tmps ao.dst (val k))
  (hk : k ≤ n) (hn : n ≤ aops.length) (h1 : ∀ j, j < k → D j = true) (h2 : ∀ j, k ≤ j → j < n → D j = false) : foldD aops tm val D n = (S k).tmps := by
 rw [foldD_false n hk h2, foldD_congr (D' := fun _ => true) k h1]
 exact foldD_seq h0 hS k (by omega)
theorem orAnc_bit [GlobT] {acc : List Nat} {i : Nat} : ∀ {ds : List Nat}, (orAnc acc ds).testBit i = true → ∃ d ∈ ds, i = d ∨ (acc.getD d 0).testBit i = true
 | [], h => by simp [orAnc] at h
 | d :: r, h => by
  simp only [orAnc, Nat.testBit_or, Bool.or_eq_true] at h
  rcases h with (h | h) | h
  ·have : d = i := by simpa [Nat.testBit_two_pow] using h
   exact ⟨d, by simp, .inl this.symm⟩
  ·exact ⟨d, by simp, .inr h⟩
  ·obtain ⟨e, h1, h2⟩ := orAnc_bit h
   exact ⟨e, by simp [h1], h2⟩
def dsOf (ops : List Oper) (k : Nat) : List Nat := match ops[k]? with
 | some o => (o.after.toList.filter fun e => Region.binds .any e && decide (e.on < k)).map fun (e : Edge) => e.on
 | none => []
theorem ancs_spec [GlobT] {ops : List Oper} : ∀ (n : Nat) (acc : List Nat), (∃ L, ancs ops n acc = acc ++ L ∧ L.length = n) ∧
  ∀ k, acc.length ≤ k → k < acc.length + n → (ancs ops n acc).getD k 0 = orAnc ((ancs ops n acc).take k) (dsOf ops k)
 | 0, acc => ⟨⟨[], by simp [ancs], rfl⟩, fun k h1 h2 => by omega⟩
 | n + 1, acc => by
  obtain ⟨⟨L, h1, h2⟩, h3⟩ := ancs_spec (ops := ops) n (acc ++ [orAnc acc (dsOf ops acc.length)])
  have e : ancs ops (n + 1) acc = ancs ops n (acc ++ [orAnc acc (dsOf ops acc.length)]) := rfl
  rw [e]
  refine ⟨⟨orAnc acc (dsOf ops acc.length) :: L, by rw [h1]; simp, by simp [h2]⟩, fun k hk1 hk2 => ?_⟩
  by_cases ek : k = acc.length
  ·subst ek
   rw [h1]
   simp [List.getD_eq_getElem?_getD]
  ·exact h3 k (by simp; omega) (by simp; omega)
theorem anc_step [GlobT] {ops : List Oper} {k i : Nat} (hk : k < ops.length) (h : ((ancs ops ops.length []).getD k 0).testBit i = true) :
  ∃ o, ops[k]? = some o ∧ ∃ e ∈ o.after, Region.binds .any e = true ∧ e.on < k ∧ (i = e.on ∨ ((ancs ops ops.length []).getD e.on 0).testBit i = true) := by
 obtain ⟨_, h3⟩ := ancs_spec (ops := ops) ops.length []
 rw [h3 k (by simp) (by simpa using hk)] at h
 obtain ⟨d, hd, hi⟩ := orAnc_bit h
 unfold dsOf at hd
 rw [List.getElem?_eq_getElem hk] at hd
 simp only [List.mem_map, List.mem_filter, Bool.and_eq_true, decide_eq_true_eq] at hd
 obtain ⟨e, ⟨he, hb, hlt⟩, rfl⟩ := hd
 refine ⟨ops[k], List.getElem?_eq_getElem hk, e, by simpa using he, hb, hlt, ?_⟩
 rcases hi with hi | hi
 ·exact .inl hi
 ·right
  rw [← hi]
  congr 1
  simp only [List.getD_eq_getElem?_getD]
  rw [List.getElem?_take, if_pos hlt]
theorem orderOk_spec [GlobT] {sw : Nat} {aops : List AOper} {an : List Nat} : ∀ n, orderOk sw aops an n = true → ∀ i j, i < j → j < n → (an.getD j 0).testBit i = true ∨
  (((quietAt aops i = true ∨ quietAt aops j = true) ∨ (i = sw ∧ j = sw + 1 ∧ allocAt aops i = true ∧ allocAt aops j = true)) ∧ ∃ x y, aops[i]? = some x ∧ aops[j]? = some y ∧ clash x y = false ∧ clash y x = false)
 | 0, _, i, j, _, h => by omega
 | n + 1, h, i, j, hij, hj => by
  simp only [orderOk, Bool.and_eq_true] at h
  by_cases e : j = n
  ·subst e
   have := List.all_eq_true.1 h.2 i (by simpa using hij)
   simp only [Bool.or_eq_true, Bool.and_eq_true, beq_iff_eq] at this
   rcases this with h1 | ⟨h1, h2⟩
   ·exact .inl h1
   ·right
    refine ⟨by rcases h1 with h1 | ⟨⟨⟨h1, h3⟩, h4⟩, h5⟩; exact .inl h1; exact .inr ⟨h1, h3, h4, h5⟩, ?_⟩
    split at h2
    ·rename_i x y hx hy
     simp only [Bool.and_eq_true, Bool.not_eq_true'] at h2
     exact ⟨x, y, hx, hy, h2.1, h2.2⟩
    ·cases h2
  ·exact orderOk_spec n h.1 i j hij (by omega)
theorem stabOk_spec {aops : List AOper} {ck : List (Nat × Nat)} {an : List Nat} {n k m : Nat} (h : stabOk aops ck an n = true) (hk : k < n) (hm : m < n) (hkq : quietAt aops k = true) (hmq : quietAt aops m = false) :
  neutralAt aops k = true ∨ (an.getD k 0).testBit m = true ∨ (an.getD m 0).testBit k = true ∨ (k, m) ∈ ck := by
 have h1 := List.all_eq_true.1 h k (by simpa using hk)
 simp only [Bool.or_eq_true, hkq, Bool.not_true, Bool.false_eq_true, or_false] at h1
 rcases h1 with h1 | h1
 ·exact .inl h1
 ·have h2 := List.all_eq_true.1 h1 m (by simpa using hm)
  simp only [Bool.or_eq_true, hmq, Bool.false_eq_true, false_or] at h2
  rcases h2 with (h2 | h2) | h2
  ·exact .inr (.inl h2)
  ·exact .inr (.inr (.inl h2))
  ·exact .inr (.inr (.inr (by simpa using h2)))
theorem neutral_quiet {op : AOp} (h : neutralOp op = true) : quietOp op = true := by
 cases op <;> first | rfl | exact h | (simp [neutralOp] at h)
theorem evOp_neutral [GlobT] {tm : List AV} {H H' : Heap} {op : AOp} {v : AV} {H1 : Heap} (hq : neutralOp op = true) (hev : evOp P cf fl op tm H = some (v, H1)) : evOp P cf fl op tm H' = some (v, H') := by
 cases op with
 | buildSl pu s n z ps =>
  simp only [neutralOp] at hq
  subst hq
  simp only [evOp, if_true] at hev ⊢
  split at hev <;> cases hev
  rfl
 | _ =>
  first
  | (simp [neutralOp] at hq; done)
  | (simp only [evOp] at hev ⊢; (repeat' split at hev) <;> first | (cases hev; rfl) | (cases hev; simp_all) | cases hev)
theorem ldCells_congr {H H' : Heap} {x : AV} {n : Nat} (h : ∀ id, objOf x = some id → H'[id]? = H[id]?) : ldCells H' x n = ldCells H x n := by
 cases x <;> try rfl
 rename_i id tot idx off
 simp only [ldCells, h id rfl]
theorem sliceA_congr {H H' : Heap} {s : Nat} {x : AV} {lo hi mx : Option Nat} (h : ∀ id, objOf x = some id → H'[id]? = H[id]?) : sliceA H' s x lo hi mx = sliceA H s x lo hi mx := by
 cases x with
 | ms id tot off len => simp only [sliceA, h id rfl]
 | lit v => unfold sliceA; split <;> rename_i h1 <;> first | rfl | cases h1
 | _ => rfl
theorem seal1_plain {H H' : Heap} {x : AV} (h : plain1 x = true) : seal1 H 0 x = seal1 H' 0 x := by
 cases x with
 | fn v caps => cases caps <;> rfl
 | _ => first | rfl | (simp [plain1] at h)
theorem seal2_plain [GlobT] {H H' : Heap} {x : AV} (h : plain2 x = true) : seal2 H 0 x = seal2 H' 0 x := by
 cases x with
 | agg cs =>
  simp only [plain2] at h
  simp only [seal2]
  congr 1
  exact List.map_congr_left fun y hy => seal1_plain (plainL_mem h y hy)
 | _ => exact seal1_plain (H := H) (H' := H') (by simpa [plain2] using h)
theorem evOp_stable [GlobT] {tm : List AV} {H H' : Heap} {op : AOp} {v : AV} {H1 : Heap} {r : Option Nat} (hq : stableAt op tm = some r) (hr : ∀ id, r = some id → H'[id]? = H[id]?) (hev : evOp P cf fl op tm H = some (v, H1)) : evOp P cf fl op tm H' = some (v, H') := by
 cases op with
 | load agg n x =>
  simp only [stableAt, Option.some.injEq] at hq
  simp only [evOp, ldCells_congr (H := H) (H' := H') (x := getOpd tm x) (fun id h => hr id (by rw [← hq]; exact h))] at hev ⊢
  split at hev
  ·split at hev
   ·cases hev; simp_all
   ·split at hev
    ·cases hev; simp_all
    ·cases hev
  ·cases hev
 | idxAddr s x i =>
  simp only [stableAt, Option.some.injEq] at hq
  simp only [evOp] at hev ⊢
  split at hev
  ·split at hev
   ·split at hev
    ·split at hev
     ·cases hev; simp_all
     ·cases hev
    ·cases hev
   ·rename_i id tot off len hx
    rw [hr id (by rw [← hq, hx]; rfl)]
    split at hev
    ·split at hev
     ·cases hev; simp_all
     ·cases hev
    ·cases hev
   ·cases hev
  ·cases hev
 | slice s x lo hi mx =>
  simp only [stableAt, Option.some.injEq] at hq
  simp only [evOp, sliceA_congr (H := H) (H' := H') (x := getOpd tm x) (fun id h => hr id (by rw [← hq]; exact h))] at hev ⊢
  split at hev
  ·split at hev
   ·cases hev; simp_all
   ·cases hev
  ·cases hev
 | lookup kt z m k ok =>
  simp only [stableAt, Option.some.injEq] at hq
  simp only [evOp] at hev ⊢
  split at hev
  ·rename_i kv hkv
   split at hev
   ·rename_i hm
    split at hev
    ·split at hev <;> cases hev
     simp_all
    ·cases hev; simp_all
    ·cases hev
   ·rename_i id hm
    rw [hr id (by rw [← hq, hm]; rfl)]
    split at hev
    ·rename_i ents hob
     split at hev
     ·split at hev <;> cases hev
      simp_all
     ·cases hev; simp_all
     ·cases hev
    ·cases hev
   ·cases hev
  ·cases hev
 | lenM x =>
  simp only [stableAt, Option.some.injEq] at hq
  simp only [evOp] at hev ⊢
  split at hev
  ·cases hev; simp_all
  ·rename_i id hx
   rw [hr id (by rw [← hq, hx]; rfl)]
   split at hev
   ·cases hev; simp_all
   ·cases hev
  ·cases hev
 | call pu vi args =>
  cases pu with
  | false => simp [stableAt] at hq
  | true =>
   simp only [stableAt] at hq
   split at hq
   ·rename_i hp
    simp only [evOp, callA, hp] at hev ⊢
    split at hev <;> cases hev
    simp_all
   ·cases hq
 | callS vi args =>
  simp only [stableAt] at hq
  split at hq
  ·rename_i hp
   have e : (args.map (getOpd tm)).map (seal2 H' 0) = (args.map (getOpd tm)).map (seal2 H 0) := List.map_congr_left fun y hy => seal2_plain (plainAll_mem hp y hy)
   simp only [evOp, e] at hev ⊢
   split at hev
   ·rename_i r H2 he
    split at hev
    ·rename_i hr
     cases hev
     simp [he, hr]
    ·cases hev
   ·cases hev
  ·cases hq
 | callv pu x args =>
  cases pu with
  | false => simp [stableAt] at hq
  | true =>
   simp only [stableAt] at hq
   split at hq
   ·rename_i vi caps hx
    split at hq
    ·rename_i hp
     simp only [evOp, hx, callA, hp] at hev ⊢
     split at hev <;> cases hev
     simp_all
    ·cases hq
   ·cases hq
 | _ => simp [stableAt] at hq
theorem blt_lt {a b : Nat} (h : Nat.blt a b = true) : a < b := Nat.le_of_ble_eq_true h
theorem get_app [GlobT] {H : Heap} {L : List AObj} {id : Nat} (h : Nat.blt id H.length = true) : (H ++ L)[id]? = H[id]? := List.getElem?_append_left (blt_lt h)
theorem get_set {H : Heap} {o : AObj} {i id : Nat} (h : (!Nat.beq i id) = true) : (H.set i o)[id]? = H[id]? := by
 have : i ≠ id := by
  intro e
  subst e
  simp at h
 rw [List.getElem?_set_ne this]
theorem appendA_keeps [GlobT] {H H' : Heap} {s bytes id : Nat} {x r : AV} {ys : List (List AV)} (hk : (match x with | .ms i _ _ _ => !Nat.beq i id | _ => Nat.blt id H.length) = true) (hev : appendA fl H s bytes x ys = some (r, H')) : H'[id]? = H[id]? := by
 unfold appendA at hev
 split at hev
 ·split at hev
  ·split at hev <;> cases hev
   ·rfl
   ·exact get_app hk
  ·split at hev
   ·cases hev; rfl
   ·split at hev <;> cases hev
    exact get_app hk
  ·split at hev
   ·split at hev
    ·split at hev
     ·cases hev; rfl
     ·split at hev
      ·split at hev
       ·cases hev; exact get_set hk
       ·split at hev
        ·cases hev; exact get_set hk
        ·cases hev
      ·cases hev
    ·cases hev
   ·cases hev
  ·cases hev
 ·cases hev
def FlOK (cf : Nat → Nat → List AV → Heap → Option (AV × Heap)) : Prop := ∀ fl vi args H r H', fl ≤ H.length → cf fl vi args H = some (r, H') → H'.take fl = H.take fl ∧ fl ≤ H'.length
theorem evOp_keeps [GlobT] (hfo : FlOK cf) {tm : List AV} {H H' : Heap} {op : AOp} {v : AV} {id : Nat} (hk : keepsA op tm H.length id = true) (hev : evOp P cf fl op tm H = some (v, H')) : H'[id]? = H[id]? := by
 cases op with
 | alloc z => simp only [evOp] at hev; cases hev; exact get_app hk
 | claim s => simp only [evOp] at hev; cases hev; exact get_app hk
 | allocC z cl => simp only [evOp] at hev; cases hev; rw [List.append_assoc]; exact get_app hk
 | box x =>
  simp only [evOp] at hev
  split at hev <;> cases hev
  exact get_app hk
 | buildSl pu s n z ps =>
  simp only [evOp] at hev
  split at hev
  ·split at hev <;> cases hev
   ·rfl
   ·exact get_app hk
  ·cases hev
 | mkSlice s z b l c =>
  simp only [evOp] at hev
  split at hev
  ·split at hev <;> cases hev
   exact get_app hk
  ·cases hev
 | mkMap => simp only [evOp] at hev; cases hev; exact get_app hk
 | callF vi args =>
  simp only [evOp] at hev
  obtain ⟨h1, h2⟩ := hfo _ _ _ _ _ _ (Nat.le_refl _) hev
  have hlt := blt_lt hk
  have : (H'.take H.length)[id]? = (H.take H.length)[id]? := by rw [h1]
  rw [List.getElem?_take, List.getElem?_take, if_pos hlt, if_pos hlt] at this
  exact this
 | store n x u =>
  simp only [keepsA] at hk
  simp only [evOp] at hev
  split at hev
  ·split at hev
   ·split at hev
    ·rename_i H2 hst
     cases hev
     unfold stCells at hst
     split at hst
     ·rename_i i tot idx off hx
      rw [hx] at hk
      split at hst
      ·split at hst
       ·split at hst
        ·split at hst
         ·split at hst <;> cases hst
          exact get_set hk
         ·cases hst
        ·cases hst
       ·cases hst
      ·cases hst
     ·cases hst
    ·cases hev
   ·cases hev
  ·cases hev
 | append s b x y =>
  simp only [keepsA] at hk
  simp only [evOp] at hev
  split at hev
  ·exact appendA_keeps hk hev
  ·cases hev
 | mapUpd kt m k x =>
  simp only [keepsA] at hk
  simp only [evOp] at hev
  split at hev
  ·rename_i kv i h1 h2
   rw [h2] at hk
   split at hev
   ·split at hev
    ·split at hev
     ·split at hev
      ·split at hev <;> cases hev
       exact get_set hk
      ·cases hev
     ·cases hev; exact get_set hk
     ·cases hev
    ·cases hev
   ·cases hev
  ·cases hev
 | _ => simp [keepsA] at hk
theorem clash_false {x y : AOper} {d : Nat} (h : clash x y = false) (hd : x.dst = some d) : d ∉ looksA y ∧ y.dst ≠ some d := by
 unfold clash at h
 rw [hd] at h
 simp only [Bool.or_eq_false_iff, beq_eq_false_iff_ne, ne_eq] at h
 refine ⟨fun hm => ?_, h.2⟩
 have : (looksA y).contains d = true := by simpa using hm
 rw [this] at h
 cases h.1
def Fr (fl : Nat) (H H' : Heap) : Prop := H'.take fl = H.take fl ∧ fl ≤ H'.length
theorem Fr.refl {H : Heap} (h : fl ≤ H.length) : Fr fl H H := ⟨rfl, h⟩
theorem Fr.trans {a b c : Heap} (h : Fr fl a b) (k : Fr fl b c) : Fr fl a c := ⟨k.1.trans h.1, k.2⟩
theorem Fr.app {H L : Heap} (h : fl ≤ H.length) : Fr fl H (H ++ L) := ⟨List.take_append_of_le_length h, by simp; omega⟩
theorem Fr.set {H : Heap} {i : Nat} {o : AObj} (h : fl ≤ H.length) (hi : fl ≤ i) : Fr fl H (H.set i o) := ⟨List.take_set_of_le hi, by simpa using h⟩
theorem appendA_fr [GlobT] {H H' : Heap} {s bytes : Nat} {x r : AV} {ys : List (List AV)} (h : fl ≤ H.length) (hev : appendA fl H s bytes x ys = some (r, H')) : Fr fl H H' := by
 unfold appendA at hev
 split at hev
 ·split at hev
  ·split at hev <;> cases hev
   ·exact .refl h
   ·exact .app h
  ·split at hev
   ·cases hev; exact .refl h
   ·split at hev <;> cases hev
    exact .app h
  ·split at hev
   ·split at hev
    ·split at hev
     ·cases hev; exact .refl h
     ·split at hev
      ·rename_i hi
       split at hev
       ·cases hev; exact .set h hi
       ·split at hev
        ·cases hev; exact .set h hi
        ·cases hev
      ·cases hev
    ·cases hev
   ·cases hev
  ·cases hev
 ·cases hev
theorem evOp_fr [GlobT] (hfo : FlOK cf) {tm : List AV} {H H' : Heap} {op : AOp} {v : AV} (h : fl ≤ H.length) (hev : evOp P cf fl op tm H = some (v, H')) : Fr fl H H' := by
 by_cases hq : quietOp op = true
 ·rw [evOp_quiet hq hev]; exact .refl h
 ·cases op with
  | alloc z => simp only [evOp] at hev; cases hev; exact .app h
  | claim s => simp only [evOp] at hev; cases hev; exact .app h
  | allocC z cl => simp only [evOp] at hev; cases hev; rw [List.append_assoc]; exact .app h
  | box x => simp only [evOp] at hev; split at hev <;> cases hev; exact .app h
  | buildSl pu s n z ps =>
   simp only [evOp] at hev
   split at hev
   ·split at hev <;> cases hev
    ·exact .refl h
    ·exact .app h
   ·cases hev
  | mkSlice s z b l c =>
   simp only [evOp] at hev
   split at hev
   ·split at hev <;> cases hev
    exact .app h
   ·cases hev
  | mkMap => simp only [evOp] at hev; cases hev; exact .app h
  | rangeStr x => simp only [evOp] at hev; split at hev <;> cases hev; exact .app h
  | nextStr x =>
   simp only [evOp] at hev
   split at hev
   ·split at hev
    ·rename_i hi
     split at hev
     ·split at hev <;> cases hev
      ·exact .set h hi
      ·exact .refl h
     ·cases hev
    ·cases hev
   ·cases hev
  | store n x u =>
   simp only [evOp] at hev
   split at hev
   ·split at hev
    ·split at hev
     ·rename_i H2 hst
      cases hev
      unfold stCells at hst
      split at hst
      ·split at hst
       ·rename_i hi
        split at hst
        ·split at hst
         ·split at hst
          ·split at hst <;> cases hst
           exact .set h hi
          ·cases hst
         ·cases hst
        ·cases hst
       ·cases hst
      ·cases hst
     ·cases hev
    ·cases hev
   ·cases hev
  | append s b x y =>
   simp only [evOp] at hev
   split at hev
   ·exact appendA_fr h hev
   ·cases hev
  | appendZ s b z x n =>
   simp only [evOp] at hev
   split at hev
   ·split at hev
    ·exact appendA_fr h hev
    ·cases hev
   ·cases hev
  | mapUpd kt m k x =>
   simp only [evOp] at hev
   split at hev
   ·split at hev
    ·rename_i hi
     split at hev
     ·split at hev
      ·split at hev
       ·split at hev <;> cases hev
        exact .set h hi
       ·cases hev
      ·cases hev; exact .set h hi
      ·cases hev
     ·cases hev
    ·cases hev
   ·cases hev
  | delete kt m k =>
   simp only [evOp] at hev
   split at hev
   ·split at hev
    ·rename_i hi
     split at hev
     ·split at hev
      ·cases hev; exact .set h hi
      ·cases hev; exact .refl h
      ·cases hev
     ·cases hev
    ·cases hev
   ·cases hev
  | copy s x y =>
   simp only [evOp] at hev
   split at hev
   ·split at hev
    ·split at hev
     ·split at hev
      ·split at hev
       ·rename_i hi
        split at hev <;> cases hev
        ·exact .refl h
        ·exact .set h hi.2.2.2
       ·cases hev
      ·cases hev
     ·cases hev
    ·cases hev
   ·cases hev
  | freeze x =>
   simp only [evOp] at hev
   split at hev
   ·split at hev
    ·rename_i hi
     split at hev
     ·split at hev <;> cases hev
      exact .set h hi
     ·cases hev
    ·cases hev
   ·cases hev; exact .refl h
  | call pu vi args =>
   cases pu with
   | true => simp [quietOp] at hq
   | false => exact hfo _ _ _ _ _ _ h hev
  | callv pu x args =>
   cases pu with
   | true => simp [quietOp] at hq
   | false =>
    simp only [evOp] at hev
    split at hev
    ·exact hfo _ _ _ _ _ _ h hev
    ·cases hev
  | callF vi args =>
   simp only [evOp] at hev
   obtain ⟨h1, h2⟩ := hfo _ _ _ _ _ _ (Nat.le_refl _) hev
   refine ⟨?_, Nat.le_trans h h2⟩
   have : (H'.take H.length).take fl = (H.take H.length).take fl := by rw [h1]
   rwa [List.take_take, List.take_take, Nat.min_eq_left h] at this
  | _ => simp [quietOp] at hq
theorem evOper_fr [GlobT] (hfo : FlOK cf) {o : AOper} {st st' : St} (h : fl ≤ st.heap.length) (hev : evOper P cf fl o st = some st') : Fr fl st.heap st'.heap := by
 unfold evOper at hev
 split at hev
 ·split at hev
  ·rename_i v H he
   cases hev
   exact evOp_fr hfo h he
  ·cases hev
 ·cases hev; exact .refl h
 ·cases hev
end
end Go.Proofs.YtmflphfmefakfaaGreatDoor.Av
namespace Go.Proofs.YtmflphfmefakfaaGreatDoor.Av
open Go
section
variable {P : Program} {T : List AFun} {cf : Nat → Nat → List AV → Heap → Option (AV × Heap)} {fl : Nat}
theorem chkOpers_get [GlobT] {ops : Array Oper} : ∀ {aops : List AOper} {os : List Oper}, chkOpers P T ops aops os = true → aops.length = os.length ∧ ∀ (k : Nat) (o : Oper), os[k]? = some o → ∃ ao, aops[k]? = some ao ∧ chkOper P T ops ao o = true
 | [], [], _ => ⟨rfl, fun k o h => by simp at h⟩
 | a :: r, o :: s, h => by
  simp only [chkOpers, Bool.and_eq_true] at h
  obtain ⟨h1, h2⟩ := chkOpers_get h.2
  refine ⟨by simp [h1], fun k p hp => ?_⟩
  cases k with
  | zero =>
   simp only [List.getElem?_cons_zero, Option.some.injEq] at hp
   subst hp
   exact ⟨a, by simp, h.1⟩
  | succ k =>
   simp only [List.getElem?_cons_succ] at hp ⊢
   exact h2 k p hp
 | [], _ :: _, h => by cases h
 | _ :: _, [], h => by cases h
theorem backOk_get [GlobT] {ops : List Oper} : ∀ {n : Nat}, backOk ops n = true → ∀ k o, k < n → ops[k]? = some o → ∀ e ∈ o.after, Region.binds .any e = true → e.on < k
 | 0, _, k, _, h, _, _, _, _ => by omega
 | n + 1, h, k, o, hlt, hk, e, he, hb => by
  simp only [backOk, Bool.and_eq_true] at h
  by_cases ek : k = n
  ·subst ek
   rw [hk] at h
   have := List.all_eq_true.1 h.2 e (by simpa using he)
   simpa [hb] using this
  ·exact backOk_get h.1 k o (by omega) hk e he hb
def unl (N : Nat) (listed : Array Bool) : Nat := ((List.range N).filter fun i => !listed.getD i true).length
theorem unl_lt {N k : Nat} {listed : Array Bool} (hk : k < N) (h : listed.getD k true = false) (hsz : listed.size = N) : unl N (listed.setIfInBounds k true) < unl N listed := by
 unfold unl
 have e : ((List.range N).filter fun i => !(listed.setIfInBounds k true).getD i true) = (((List.range N).filter fun i => !listed.getD i true).filter fun i => decide (i ≠ k)) := by
  rw [List.filter_filter]
  apply List.filter_congr
  intro i hi
  by_cases ei : i = k
  ·subst ei
   simp [hsz, hk]
  ·rw [getD_set_ne true (fun e => ei e.symm)]
   simp [ei]
 rw [e]
 refine List.length_filter_lt_length_iff_exists.2 ⟨k, ?_, by simp⟩
 simp only [List.mem_filter, List.mem_range, Bool.not_eq_true']
 exact ⟨hk, h⟩
theorem getD_of_size {listed : Array Bool} {k : Nat} (hk : k < listed.size) : listed.getD k true = listed.getD k false := by
 simp [Array.getD, hk]
def lastM (aops : List AOper) (D : Nat → Bool) : Nat → Nat
 | 0 => 0
 | n + 1 => if D n && !quietAt aops n then n + 1 else lastM aops D n
theorem lastM_congr [GlobT] {aops : List AOper} {D D' : Nat → Bool} : ∀ n, (∀ j, j < n → quietAt aops j = false → D j = D' j) → lastM aops D n = lastM aops D' n
 | 0, _ => rfl
 | n + 1, h => by
  have ih := lastM_congr n fun j hj => h j (by omega)
  simp only [lastM]
  cases hq : quietAt aops n with
  | true => simpa using ih
  | false => rw [h n (by omega) hq, ih]
theorem lastM_false [GlobT] {aops : List AOper} {D : Nat → Bool} {k : Nat} : ∀ n, k ≤ n → (∀ j, k ≤ j → j < n → quietAt aops j = false → D j = false) → lastM aops D n = lastM aops D k
 | 0, h, _ => by have : k = 0 := (by omega); rw [this]
 | n + 1, h, hD => by
  by_cases e : k = n + 1
  ·rw [e]
  ·have ih := lastM_false (k := k) n (by omega) fun j h1 h2 => hD j h1 (by omega)
   simp only [lastM]
   cases hq : quietAt aops n with
   | true => simpa using ih
   | false => rw [hD n (by omega) (by omega) hq]; simpa using ih
theorem lastM_le [GlobT] {aops : List AOper} {D : Nat → Bool} : ∀ n, lastM aops D n ≤ n
 | 0 => Nat.le_refl _
 | n + 1 => by
  simp only [lastM]
  split
  ·exact Nat.le_refl _
  ·exact Nat.le_succ_of_le (lastM_le n)
theorem lastM_is [GlobT] {aops : List AOper} {D : Nat → Bool} {p : Nat} : ∀ n, lastM aops D n = p + 1 → p < n ∧ D p = true ∧ quietAt aops p = false
 | 0, h => by cases h
 | n + 1, h => by
  simp only [lastM] at h
  split at h
  ·rename_i hc
   simp only [Bool.and_eq_true, Bool.not_eq_true'] at hc
   have : p = n := by omega
   subst this
   exact ⟨by omega, hc.1, hc.2⟩
  ·obtain ⟨h1, h2⟩ := lastM_is n h
   exact ⟨by omega, h2⟩
theorem lastM_ge [GlobT] {aops : List AOper} {D : Nat → Bool} {m : Nat} : ∀ n, m < n → D m = true → quietAt aops m = false → m + 1 ≤ lastM aops D n
 | 0, h, _, _ => by omega
 | n + 1, h, hD, hq => by
  simp only [lastM]
  split
  ·omega
  ·rename_i hc
   by_cases e : m = n
   ·subst e
    simp [hD, hq] at hc
   ·exact lastM_ge n (by omega) hD hq
theorem allocAt_spec {aops : List AOper} {k : Nat} (h : allocAt aops k = true) : ∃ d z, aops[k]? = some ⟨some d, .alloc z, none⟩ := by
 unfold allocAt at h
 split at h
 ·rename_i o ho
  split at h
  ·rename_i d hd
   split at h
   ·rename_i z hz
    split at h
    ·rename_i hg
     obtain ⟨dst, op, guard⟩ := o
     simp only at hd hz hg
     subst hd hz hg
     exact ⟨d, z, ho⟩
    ·cases h
   ·cases h
  ·cases h
 ·cases h
def zAt (aops : List AOper) (k : Nat) : List Value := match aops[k]? with
 | some ⟨_, .alloc z, _⟩ => z
 | _ => []
def oddH (aops : List AOper) (S : Nat → St) (sw : Nat) : Heap := (S sw).heap ++ [.blk (zAt aops sw).length [], .blk (zAt aops (sw + 1)).length [(zAt aops (sw + 1)).map .lit]]
def oddD (D : Nat → Bool) (sw : Nat) : Bool := D (sw + 1) && !D sw
def hpH (aops : List AOper) (S : Nat → St) (sw N : Nat) (D : Nat → Bool) : Heap := if oddD D sw = true then oddH aops S sw else (S (lastM aops D N)).heap
theorem allocR_sound [GlobT] {c : Ctx} {a : Act} {tm : List AV} {ops : Array Oper} {i id d : Nat} {z : List Value} {o : Oper} {K : Act → World → Prop} {Q : Exit → Act → World → Prop}
  (hs : Sim (ftOf T) c) (htr : TR (ftOf T) c tm a.tmps) (hi : ops[i]? = some o) (hchk : chkOper P T ops ⟨some d, .alloc z, none⟩ o = true) (hob : c.H[id]? = some (.blk z.length [])) (hfl : fl ≤ id)
  (hK : ∀ a' c', c'.H = c.H.set id (.blk z.length [z.map .lit]) → Step fl c c' → Sim (ftOf T) c' → TR (ftOf T) c' (putA tm (some d) (.ptr id 1 0 0)) a'.tmps → a'.defers = a.defers → K a' c'.w) :
  wpOp P ops Q i K a c.w := by
 simp only [chkOper, Bool.and_eq_true, beq_iff_eq] at hchk
 obtain ⟨⟨hd, hg⟩, hop⟩ := hchk
 unfold wpOp
 rw [hi]
 simp only
 have hw : Region.wanted o (yielded ops a.tmps) = true := wantA_spec (tm := tm) htr hg rfl
 rw [hw]
 simp only [if_true]
 left
 simp only [chkOp] at hop
 split at hop
 ·rename_i t ho
  obtain ⟨ii, v, hii, hv, hc, hsc⟩ := zeroIs_spec hop
  have hrun : (execOp a.eval o).run P c.w = .ok (.value (.pointer (some ⟨c.w.heap.size, 0, none⟩))) (c.w.alloc (.cells z.toArray t (0, 0))) := by
   have e : z.toArray = v.cells := hc.symm
   rw [e]
   simp [execOp, ho, Instr.alloc, zeroValue, typeInfo, hii, hv, newVar, newRow]
  have hst := step_grow (fl := fl) (es' := [z.map AV.lit]) (ob := .cells z.toArray t (0, 0)) (w' := c.w.alloc (.cells z.toArray t (0, 0))) hs hfl hob (by simp) rfl rfl rfl rfl
  have hsim : Sim (ftOf T) ⟨c.w.alloc (.cells z.toArray t (0, 0)), c.X, upd c.β id c.w.heap.size, c.H.set id (.blk z.length [z.map AV.lit])⟩ := by
   refine sim_grow (cs' := z.toArray) (T := t) hs hob (by simp) rfl rfl rfl rfl (by intro e he; simp only [List.mem_singleton] at he; subst he; simp) (by simp) ?_
   intro i j x hx
   obtain ⟨rfl, hj⟩ := cellE_one hx
   simp only [List.getElem?_map, Option.map_eq_some_iff] at hj
   obtain ⟨u, hu, rfl⟩ := hj
   exact ⟨u, by simpa using hu, hsc u (List.mem_of_getElem? hu), RV.lit _⟩
  refine (ok_value (β' := upd c.β id c.w.heap.size) (v := .ptr id 1 0 0) hrun hst hsim ?_) _ _ ?_
  ·refine .ptr id 1 0 0 _ z.length 1 ?_ (Nat.le_refl _) fun _ => ⟨c.w.heap.size, upd_same _ _ _, by simp⟩
   rw [shp_set hob]; simp
  ·intro cv c' q1 q2 q3 q4
   rw [← hd]
   exact hK _ c' q1 q2 q3 ((htr.step q2).put q4) (put_defers _ _ _)
 ·cases hop
structure RInv [GlobT] (P : Program) (T : List AFun) (fl N sw : Nat) (aops : List AOper) (an : List Nat) (tm : List AV) (val : Nat → AV) (S : Nat → St) (c0 : Ctx) (ds : List Deferred) (listed : Array Bool) (a : Act) (c : Ctx) : Prop where
 size : listed.size = N
 sim : Sim (ftOf T) c
 step : Step fl c0 c
 defers : a.defers = ds
 closed : ∀ i j, j < N → listed.getD j false = true → (an.getD j 0).testBit i = true → listed.getD i false = true
 tr : TR (ftOf T) c (foldD aops tm val (fun j => listed.getD j false) N) a.tmps
 heap : c.H = hpH aops S sw N (fun j => listed.getD j false)
theorem swapAt_aux [GlobT] {aops : List AOper} {an : List Nat} : ∀ (n i : Nat), swapAt aops an n i = aops.length ∨ (allocAt aops (swapAt aops an n i) = true ∧ allocAt aops (swapAt aops an n i + 1) = true)
 | 0, _ => .inl rfl
 | n + 1, i => by
  simp only [swapAt]
  split
  ·rename_i h
   simp only [Bool.and_eq_true] at h
   exact .inr ⟨h.1.1, h.1.2⟩
  ·exact swapAt_aux n (i + 1)
theorem swapAt_spec [GlobT] {aops : List AOper} {an : List Nat} {n i N : Nat} (hN : aops.length = N) : swapAt aops an n i + 1 < N → allocAt aops (swapAt aops an n i) = true ∧ allocAt aops (swapAt aops an n i + 1) = true := by
 intro h
 rcases swapAt_aux (aops := aops) (an := an) n i with e | e
 ·omega
 ·exact e
theorem stab2_spec {sw : Nat} {aops : List AOper} {ck : List (Nat × Nat)} {an : List Nat} {n : Nat} (h : stab2Ok sw aops ck an n = true) : sw + 1 < n → ∀ k, k < n → quietAt aops k = true → neutralAt aops k = true ∨ (an.getD k 0).testBit sw = true ∨ (k, sw) ∈ ck := by
 intro hs k hk hq
 simp only [stab2Ok, hs, decide_true, Bool.not_true, Bool.false_or] at h
 have := List.all_eq_true.1 h k (by simpa using hk)
 simp only [hq, Bool.not_true, Bool.false_or, Bool.or_eq_true] at this
 rcases this with (h1 | h1) | h1
 ·exact .inl h1
 ·exact .inr (.inl h1)
 ·exact .inr (.inr (by simpa using h1))
theorem any_sound [GlobT] (hcf : CfOK P T cf) (hfn : FnsOK P T) {ops : Array Oper} {aops : List AOper} {sw : Nat} {ck : List (Nat × Nat)} {tm : List AV} {c0 : Ctx} {ds : List Deferred} {val : Nat → AV} {S : Nat → St} {Q : Exit → Act → World → Prop}
  (hchk : chkOpers P T ops aops ops.toList = true) (hord : orderOk sw aops (ancs ops.toList ops.size []) ops.size = true) (hstab : stabOk aops ck (ancs ops.toList ops.size []) ops.size = true) (hback : backOk ops.toList ops.size = true)
  (h0 : S 0 = ⟨tm, c0.H⟩) (hS : ∀ k ao, aops[k]? = some ao → evOper P cf fl ao (S k) = some (S (k + 1))) (hval : ∀ k ao, aops[k]? = some ao → (S (k + 1)).tmps = putA (S k).tmps ao.dst (val k))
  (hck : ∀ k m, (k, m) ∈ ck → ∀ ao, aops[k]? = some ao → wantA (S k).tmps ao.guard = some false ∨ stableAt ao.op (S k).tmps = some none ∨ ∃ id, stableAt ao.op (S k).tmps = some (some id) ∧ (S (m + 1)).heap[id]? = (S m).heap[id]?)
  (hsw : sw + 1 < ops.size → allocAt aops sw = true ∧ allocAt aops (sw + 1) = true) (hstab2 : sw + 1 < ops.size → ∀ k, k < ops.size → quietAt aops k = true → neutralAt aops k = true ∨ ((ancs ops.toList ops.size []).getD k 0).testBit sw = true ∨ (k, sw) ∈ ck) (hfo : FlOK cf)
  (hfl : fl ≤ c0.H.length)
  (hQ : ∀ a' c', c'.H = (S ops.size).heap → Step fl c0 c' → Sim (ftOf T) c' → TR (ftOf T) c' (S ops.size).tmps a'.tmps → a'.defers = ds → Q .normal a' c'.w) :
  ∀ (fuel : Nat) (listed : Array Bool) (a : Act) (c : Ctx), unl ops.size listed ≤ fuel → RInv P T fl ops.size sw aops (ancs ops.toList ops.size []) tm val S c0 ds listed a c → wpAny P .any ops Q fuel listed a c.w := by
 obtain ⟨hlen, hget⟩ := chkOpers_get hchk
 have hlen' : aops.length = ops.size := by simpa using hlen
 have hquiet : ∀ k, k < ops.size → quietAt aops k = true → (S (k + 1)).heap = (S k).heap := by
  intro k hk hq
  have hao : aops[k]? = some (aops[k]'(by omega)) := by simp
  simp only [quietAt, hao] at hq
  exact evOper_quiet hq (hS k _ hao)
 have hheapA : ∀ k, k ≤ ops.size → (S (lastM aops (fun _ => true) k)).heap = (S k).heap := by
  intro k
  induction k with
  | zero => intro _; rfl
  | succ k ih =>
   intro hk
   simp only [lastM, Bool.true_and]
   cases hq : quietAt aops k with
   | false => rfl
   | true =>
    rw [hquiet k (by omega) hq]
    simpa using ih (by omega)
 have hkeep : ∀ (id a b : Nat), a ≤ b → b ≤ ops.size → (∀ m, a ≤ m → m < b → quietAt aops m = false → (S (m + 1)).heap[id]? = (S m).heap[id]?) → (S b).heap[id]? = (S a).heap[id]? := by
  intro id a b
  induction b with
  | zero => intro h1 _ _; have : a = 0 := (by omega); rw [this]
  | succ b ih =>
   intro h1 h2 h3
   by_cases e : a = b + 1
   ·rw [e]
   ·have h4 : (S (b + 1)).heap[id]? = (S b).heap[id]? := by
     cases hq : quietAt aops b with
     | true => rw [hquiet b (by omega) hq]
     | false => exact h3 b (by omega) (by omega) hq
    rw [h4]
    exact ih (by omega) (by omega) fun m g1 g2 => h3 m g1 (by omega)
 have h0t : (S 0).tmps = tm := by rw [h0]
 have hlenS : ∀ k, k ≤ ops.size → fl ≤ (S k).heap.length := by
  intro k
  induction k with
  | zero => intro _; rw [h0]; exact hfl
  | succ k ih =>
   intro hk
   exact (evOper_fr hfo (ih (by omega)) (hS k (aops[k]'(by omega)) (by simp))).2
 have done : ∀ (listed : Array Bool) (a : Act) (c : Ctx), (∀ j, j < ops.size → listed.getD j false = true) → RInv P T fl ops.size sw aops (ancs ops.toList ops.size []) tm val S c0 ds listed a c → Q .normal a c.w := by
  intro listed a c hall hI
  have hfold : foldD aops tm val (fun j => listed.getD j false) ops.size = (S ops.size).tmps :=
   foldD_prefix h0t hval (Nat.le_refl _) (by omega) hall (fun j h1 h2 => by omega)
  have hH : c.H = (S ops.size).heap := by
   have hodd : oddD (fun j => listed.getD j false) sw = false := by
    unfold oddD
    by_cases h : sw < ops.size
    ·simp [hall sw h]
    ·have : listed.getD (sw + 1) false = false := by
      rw [Array.getD_eq_getD_getElem?, Array.getElem?_eq_none (by rw [hI.size]; omega)]; rfl
     simp only [this, Bool.false_and]
   rw [hI.heap, hpH, if_neg (by rw [hodd]; exact Bool.false_ne_true), lastM_congr (D' := fun _ => true) ops.size (fun j hj _ => hall j hj), hheapA _ (Nat.le_refl _)]
  refine hQ a c hH hI.step hI.sim ?_ hI.defers
  rw [← hfold]
  exact hI.tr
 have noready : ∀ (listed : Array Bool), listed.size = ops.size → Region.ready .any ops listed = [] → ∀ j, j < ops.size → listed.getD j false = true := by
  intro listed hsz hr j
  induction j using Nat.strongRecOn with
  | _ j ih =>
   intro hj
   cases hd : listed.getD j false with
   | true => rfl
   | false =>
    exfalso
    have hmem : j ∈ Region.ready .any ops listed := by
     rw [mem_ready]
     refine ⟨by rw [getD_of_size (by omega)]; exact hd, ops[j], by simp, fun e he hb => ?_⟩
     have hlt := backOk_get hback j ops[j] hj (by simp) e he hb
     exact ih e.on hlt (by omega)
    rw [hr] at hmem
    cases hmem
 intro fuel
 induction fuel with
 | zero =>
  intro listed a c hu hI
  have hall : ∀ j, j < ops.size → listed.getD j false = true := by
   intro j hj
   cases hd : listed.getD j false with
   | true => rfl
   | false =>
    exfalso
    have : j ∈ (List.range ops.size).filter fun i => !listed.getD i true := by
     simp only [List.mem_filter, List.mem_range, Bool.not_eq_true']
     exact ⟨hj, by rw [getD_of_size (by rw [hI.size]; exact hj)]; exact hd⟩
    unfold unl at hu
    have h2 := List.eq_nil_of_length_eq_zero (Nat.le_zero.1 hu)
    rw [h2] at this
    cases this
  refine ⟨?_, done listed a c hall hI⟩
  cases hr : Region.ready .any ops listed with
  | nil => rfl
  | cons i r =>
   exfalso
   have : i ∈ Region.ready .any ops listed := by rw [hr]; simp
   rw [mem_ready] at this
   obtain ⟨h1, o, ho, _⟩ := this
   have hi : i < ops.size := (Array.getElem?_eq_some_iff.1 ho).1
   rw [getD_of_size (by rw [hI.size]; exact hi), hall i hi] at h1
   cases h1
 | succ fuel ih =>
  intro listed a c hu hI
  refine ⟨fun hr => done listed a c (noready listed hI.size hr) hI, fun k hk => ?_⟩
  rw [mem_ready] at hk
  obtain ⟨hk1, o, ho, hedges⟩ := hk
  have hkN : k < ops.size := (Array.getElem?_eq_some_iff.1 ho).1
  have hkD : listed.getD k false = false := by rw [← getD_of_size (by rw [hI.size]; exact hkN)]; exact hk1
  obtain ⟨ao, hao, hok⟩ := hget k o (by simpa using ho)
  have hol : ops.toList[k]? = some o := by simpa using ho
  have hanc : ∀ i, ((ancs ops.toList ops.size []).getD k 0).testBit i = true → listed.getD i false = true := by
   intro i hi
   have hi' : ((ancs ops.toList ops.toList.length []).getD k 0).testBit i = true := by simpa using hi
   obtain ⟨o', ho', e, he, hb, hlt, hh⟩ := anc_step (by simpa using hkN) hi'
   rw [hol] at ho'
   cases ho'
   have hde := hedges e he hb
   rcases hh with rfl | hh
   ·exact hde
   ·exact hI.closed i e.on (by omega) hde (by simpa using hh)
  have later : ∀ j, k < j → j < ops.size → listed.getD j false = true → ((quietAt aops k = true ∨ quietAt aops j = true) ∨ (k = sw ∧ j = sw + 1 ∧ allocAt aops k = true ∧ allocAt aops j = true)) ∧ ∃ x y, aops[k]? = some x ∧ aops[j]? = some y ∧ clash x y = false ∧ clash y x = false := by
   intro j hkj hj hD
   rcases orderOk_spec _ hord k j hkj hj with h | h
   ·have := hI.closed k j hj hD h
    rw [hkD] at this; cases this
   ·exact h
  have earlier : ∀ j, j < k → listed.getD j false = true ∨ (((quietAt aops j = true ∨ quietAt aops k = true) ∨ (j = sw ∧ k = sw + 1 ∧ allocAt aops j = true ∧ allocAt aops k = true)) ∧ ∃ x y, aops[j]? = some x ∧ aops[k]? = some y ∧ clash x y = false ∧ clash y x = false) := by
   intro j hj
   rcases orderOk_spec _ hord j k hj hkN with h | h
   ·exact .inl (hanc j h)
   ·exact .inr h
  have hdst : dstA aops k = ao.dst := by simp [dstA, hao]
  have hlook : ∀ t ∈ looksA ao, (foldD aops tm val (fun j => listed.getD j false) ops.size)[t]? = (S k).tmps[t]? := by
   intro t ht
   rw [← foldD_prefix (D := fun j => decide (j < k)) (n := ops.size) h0t hval (Nat.le_of_lt hkN) (by omega) (fun j hj => by simpa using hj) (fun j h1 _ => by simp; omega)]
   apply foldD_agree
   intro j hj hd
   by_cases hjk : j < k
   ·have : decide (j < k) = true := by simpa using hjk
    rw [this]
    rcases earlier j hjk with h | ⟨_, x, y, hx, hy, hc1, hc2⟩
    ·exact h
    ·exfalso
     rw [hao] at hy
     cases hy
     have hdx : x.dst = some t := by simpa [dstA, hx] using hd
     exact (clash_false hc1 hdx).1 ht
   ·have : decide (j < k) = false := by simpa using hjk
    rw [this]
    by_cases ej : j = k
    ·subst ej; exact hkD
    ·cases hDj : listed.getD j false with
     | false => rfl
     | true =>
      exfalso
      obtain ⟨_, x, y, hx, hy, hc1, hc2⟩ := later j (by omega) hj hDj
      rw [hao] at hx
      cases hx
      have hdy : y.dst = some t := by simpa [dstA, hy] using hd
      exact (clash_false hc2 hdy).1 ht
  have hset : ∀ j, (listed.setIfInBounds k true).getD j false = if j = k then true else listed.getD j false := by
   intro j
   by_cases ej : j = k
   ·subst ej
    simp [hI.size, hkN]
   ·rw [getD_set_ne false (fun e => ej e.symm), if_neg ej]
  have ancLt : ∀ q m, q < ops.size → ((ancs ops.toList ops.size []).getD q 0).testBit m = true → m < q := by
   intro q m
   induction q using Nat.strongRecOn with
   | _ q ihq =>
    intro hqN hqb
    have hqb' : ((ancs ops.toList ops.toList.length []).getD q 0).testBit m = true := by simpa using hqb
    obtain ⟨o', ho', e, he, hb', hlt', hh⟩ := anc_step (by simpa using hqN) hqb'
    rcases hh with rfl | hh
    ·exact hlt'
    ·have := ihq e.on hlt' (by omega) (by simpa using hh)
     omega
  have fin : ∀ (x : AV) a' c', (S (k + 1)).tmps = putA (S k).tmps ao.dst x → c'.H = hpH aops S sw ops.size (fun j => (listed.setIfInBounds k true).getD j false) → Step fl c c' → Sim (ftOf T) c' → TR (ftOf T) c' (putA (foldD aops tm val (fun j => listed.getD j false) ops.size) ao.dst x) a'.tmps → a'.defers = a.defers → wpAny P .any ops Q fuel (listed.setIfInBounds k true) a' c'.w := by
   intro x a' c' hx1 e1 e2 e3 e4 e5
   refine ih (listed.setIfInBounds k true) a' c' (by have := unl_lt hkN hk1 hI.size; omega) ?_
   refine ⟨by simpa using hI.size, e3, hI.step.trans e2, e5.trans hI.defers, ?_, ?_, e1⟩
   ·intro i j hj hD hb
    rw [hset] at hD ⊢
    split
    ·rfl
    ·by_cases ej : j = k
     ·subst ej; exact hanc i hb
     ·rw [if_neg ej] at hD
      exact hI.closed i j hj hD hb
   ·refine ⟨by rw [foldD_length, ← e4.1, putA_length, foldD_length], fun t y hy => ?_⟩
    refine e4.2 t y ?_
    rw [← hy, putA_get]
    split
    ·rename_i hd
     have hdk : dstA aops k = some t := by rw [hdst]; exact hd
     rw [foldD_length]
     rw [foldD_last (k := k) (by simp [hset]) hdk ops.size hkN]
     ·split
      ·rename_i hlt
       congr 1
       have h1 : (S (k + 1)).tmps[t]? = some x := by rw [hx1, putA_get, if_pos hd, if_pos (by rw [← foldD_seq h0t hval k (by omega), foldD_length]; exact hlt)]
       have h2 : (S (k + 1)).tmps[t]? = some (val k) := by rw [hval k ao hao, putA_get, if_pos hd, if_pos (by rw [← foldD_seq h0t hval k (by omega), foldD_length]; exact hlt)]
       rw [h1] at h2
       exact Option.some.inj h2
      ·rfl
     ·intro j h1 h2 h3
      rw [hset, if_neg (by omega)]
      cases hDj : listed.getD j false with
      | false => rfl
      | true =>
       exfalso
       obtain ⟨_, x', y', hx', hy', hc1, hc2⟩ := later j h1 h2 hDj
       rw [hao] at hx'
       cases hx'
       have hdy : y'.dst = some t := by simpa [dstA, hy'] using h3
       exact (clash_false hc1 hd).2 hdy
    ·rename_i hd
     apply foldD_agree
     intro j hj hdj
     rw [hset]
     by_cases ej : j = k
     ·subst ej
      rw [hdst] at hdj
      exact (hd hdj).elim
     ·rw [if_neg ej]
  have byOp : ∀ c1 : Ctx, c1.w = c.w → Step fl c c1 → Sim (ftOf T) c1 → (∃ st', evOper P cf fl ao ⟨(S k).tmps, c1.H⟩ = some st' ∧ st'.tmps = (S (k + 1)).tmps ∧ st'.heap = hpH aops S sw ops.size (fun j => (listed.setIfInBounds k true).getD j false)) → wpOp P ops Q k (fun a' w' => wpAny P .any ops Q fuel (listed.setIfInBounds k true) a' w') a c.w := by
   intro c1 hw hst hs1 ⟨stk', hevk', hstt, hsth⟩
   obtain ⟨x, hx1, hx2⟩ := evOper_congr (tm := foldD aops tm val (fun j => listed.getD j false) ops.size) hlook hevk'
   rw [hstt] at hx1
   rw [← hw]
   refine oper_sound hcf hfn hs1 (hI.tr.step hst) (Nat.le_trans hfl (hI.step.trans hst).len) ho hok hx2 ?_
   intro a' c' e1 e2 e3 e4 e5 _
   exact fin x a' c' hx1 (e1.trans hsth) (hst.trans e2) e3 e4 e5
  have hmutA : ∀ m, allocAt aops m = true → quietAt aops m = false := by
   intro m hm
   obtain ⟨d, z, hz⟩ := allocAt_spec hm
   simp [quietAt, hz, quietOp]
  have pairF : sw + 1 < ops.size → ∃ d1 z1 d2 z2, aops[sw]? = some ⟨some d1, .alloc z1, none⟩ ∧ aops[sw + 1]? = some ⟨some d2, .alloc z2, none⟩ ∧ zAt aops sw = z1 ∧ zAt aops (sw + 1) = z2 ∧
    S (sw + 1) = ⟨(S sw).tmps.set d1 (.ptr (S sw).heap.length 1 0 0), (S sw).heap ++ [.blk z1.length [z1.map .lit]]⟩ ∧
    S (sw + 2) = ⟨(S (sw + 1)).tmps.set d2 (.ptr ((S sw).heap.length + 1) 1 0 0), (S sw).heap ++ [.blk z1.length [z1.map .lit], .blk z2.length [z2.map .lit]]⟩ := by
   intro h
   obtain ⟨h1, h2⟩ := hsw h
   obtain ⟨d1, z1, e1⟩ := allocAt_spec h1
   obtain ⟨d2, z2, e2⟩ := allocAt_spec h2
   have t1 := hS sw _ e1
   have t2 := hS (sw + 1) _ e2
   simp only [evOper, wantA, evOp, putA, Option.some.injEq] at t1 t2
   refine ⟨d1, z1, d2, z2, e1, e2, by simp [zAt, e1], by simp [zAt, e2], t1.symm, ?_⟩
   rw [← t2, ← t1]
   simp
  by_cases hodd : oddD (fun j => listed.getD j false) sw = true
  · -- the second of two new variables is there, the first is not
   have ho2 : listed.getD (sw + 1) false = true ∧ listed.getD sw false = false := by
    simp only [oddD, Bool.and_eq_true, Bool.not_eq_true'] at hodd; exact hodd
   have hswN : sw + 1 < ops.size := by
    rcases Nat.lt_or_ge (sw + 1) ops.size with h | h
    ·exact h
    ·have := ho2.1
     rw [Array.getD_eq_getD_getElem?, Array.getElem?_eq_none (by rw [hI.size]; exact h)] at this
     cases this
   obtain ⟨hal1, hal2⟩ := hsw hswN
   obtain ⟨d1, z1, d2, z2, p1, p2, p3, p4, p5, p6⟩ := pairF hswN
   have hcH : c.H = (S sw).heap ++ [.blk z1.length [], .blk z2.length [z2.map .lit]] := by
    rw [hI.heap, hpH, if_pos hodd, oddH, p3, p4]
   have hbehind : ∀ j, sw + 1 < j → j < ops.size → quietAt aops j = false → listed.getD j false = false := by
    intro j h1 h2 h3
    cases hd : listed.getD j false with
    | false => rfl
    | true =>
     rcases orderOk_spec _ hord sw j (by omega) h2 with h | ⟨(h | h) | h, _⟩
     ·have := hI.closed sw j h2 hd h
      rw [ho2.2] at this; cases this
     ·rw [hmutA sw hal1] at h; cases h
     ·rw [h3] at h; cases h
     ·omega
   by_cases hksw : k = sw
   ·subst hksw
    rw [hao] at p1
    cases p1
    have hid : c.H[(S k).heap.length]? = some (.blk z1.length []) := by rw [hcH]; simp
    refine allocR_sound (id := (S k).heap.length) hI.sim hI.tr ho hok hid (hlenS k (by omega)) ?_
    intro a' c' e1 e2 e3 e4 e5
    refine fin (.ptr (S k).heap.length 1 0 0) a' c' (by rw [p5]; rfl) ?_ e2 e3 e4 e5
    have hnod : oddD (fun j => (listed.setIfInBounds k true).getD j false) k = false := by simp [oddD, hset]
    rw [e1, hpH, if_neg (by rw [hnod]; exact Bool.false_ne_true), lastM_false (k := k + 2) ops.size (by omega) (fun j h1 h2 h3 => by
     rw [hset, if_neg (by omega)]; exact hbehind j (by omega) h2 h3)]
    have hl2 : lastM aops (fun j => (listed.setIfInBounds k true).getD j false) (k + 2) = k + 2 := by
     have e : (listed.setIfInBounds k true).getD (k + 1) false = true := by rw [hset, if_neg (by omega)]; exact ho2.1
     show (if ((listed.setIfInBounds k true).getD (k + 1) false && !quietAt aops (k + 1)) = true then k + 1 + 1 else _) = _
     rw [e, hmutA _ hal2]
     rfl
    rw [hl2, p6, hcH]
    simp
   · -- it leaves the objects alone
    have hq : quietAt aops k = true := by
     cases hq : quietAt aops k with
     | true => rfl
     | false =>
      exfalso
      rcases Nat.lt_or_ge k sw with h | h
      ·rcases orderOk_spec _ hord k (sw + 1) (by omega) hswN with g | ⟨(g | g) | g, _⟩
       ·have := hI.closed k (sw + 1) hswN ho2.1 g
        rw [hkD] at this; cases this
       ·rw [hq] at g; cases g
       ·rw [hmutA _ hal2] at g; cases g
       ·omega
      ·by_cases h' : k = sw + 1
       ·subst h'; rw [hkD] at ho2; cases ho2.1
       ·rcases orderOk_spec _ hord sw k (by omega) hkN with g | ⟨(g | g) | g, _⟩
        ·have := hanc sw g
         rw [ho2.2] at this; cases this
        ·rw [hmutA _ hal1] at g; cases g
        ·rw [hq] at g; cases g
        ·omega
    have hD' : oddD (fun j => (listed.setIfInBounds k true).getD j false) sw = true := by
     have q1 : (listed.setIfInBounds k true).getD sw false = false := by rw [hset, if_neg (fun e => hksw e.symm)]; exact ho2.2
     have q2 : (listed.setIfInBounds k true).getD (sw + 1) false = true := by
      rw [hset]
      split
      ·rfl
      ·exact ho2.1
     simp only [oddD, q1, q2]
     rfl
    refine byOp c rfl (Step.refl _ _) hI.sim ?_
    have hpe : hpH aops S sw ops.size (fun j => (listed.setIfInBounds k true).getD j false) = c.H := by
     rw [hpH, if_pos hD', hI.heap, hpH, if_pos hodd]
    rw [hpe]
    have hev := hS k ao hao
    have hqo : quietOp ao.op = true := by simpa [quietAt, hao] using hq
    have hwant : ∀ (hop : ∀ v H1, evOp P cf fl ao.op (S k).tmps (S k).heap = some (v, H1) → evOp P cf fl ao.op (S k).tmps c.H = some (v, c.H)), ∃ st', evOper P cf fl ao ⟨(S k).tmps, c.H⟩ = some st' ∧ st'.tmps = (S (k + 1)).tmps ∧ st'.heap = c.H := by
     intro hop
     unfold evOper at hev ⊢
     simp only at hev ⊢
     split at hev
     ·rename_i hw
      split at hev
      ·rename_i v H1 he
       simp only [Option.some.injEq] at hev
       rw [hop v H1 he]
       exact ⟨_, rfl, by rw [← hev], rfl⟩
      ·cases hev
     ·rename_i hw
      simp only [Option.some.injEq] at hev
      exact ⟨_, rfl, by rw [← hev], rfl⟩
     ·cases hev
    by_cases hn : neutralAt aops k = true
    ·have hno : neutralOp ao.op = true := by simpa [neutralAt, hao] using hn
     exact hwant fun v H1 he => evOp_neutral hno he
    by_cases hg : wantA (S k).tmps ao.guard = some false
    ·unfold evOper at hev ⊢
     simp only [hg] at hev ⊢
     simp only [Option.some.injEq] at hev
     exact ⟨_, rfl, by rw [← hev], rfl⟩
    have hks : (k, sw) ∈ ck := by
     rcases hstab2 hswN k hkN hq with h | h | h
     ·exact (hn h).elim
     ·have := hanc sw h
      rw [ho2.2] at this; cases this
     ·exact h
    have hmid : ∀ m, m < ops.size → quietAt aops m = false → ((sw + 2 ≤ m ∧ m < k) ∨ (k ≤ m ∧ m < sw + 2)) → (k, m) ∈ ck := by
     intro m hm hmq hb
     by_cases em : m = sw
     ·subst em; exact hks
     have hmD : m ≤ sw + 1 → listed.getD m false = true := by
      intro hle
      by_cases e : m = sw + 1
      ·subst e; exact ho2.1
      ·rcases orderOk_spec _ hord m (sw + 1) (by omega) hswN with g | ⟨(g | g) | g, _⟩
       ·exact hI.closed m (sw + 1) hswN ho2.1 g
       ·rw [hmq] at g; cases g
       ·rw [hmutA _ hal2] at g; cases g
       ·omega
     rcases stabOk_spec hstab hkN hm hq hmq with h | h | h | h
     ·exact (hn h).elim
     · -- m is an ancestor of k
      have hlt := ancLt k m hkN h
      have hml := hanc m h
      rcases hb with ⟨b1, b2⟩ | ⟨b1, b2⟩
      ·rw [hbehind m (by omega) hm hmq] at hml; cases hml
      ·omega
     ·have hlt := ancLt m k hm h
      rcases hb with ⟨b1, b2⟩ | ⟨b1, b2⟩
      ·omega
      ·have := hI.closed k m hm (hmD (by omega)) h
       rw [hkD] at this; cases this
     ·exact h
    rcases hck k sw hks ao hao with h | h | ⟨id, h, hkp⟩
    ·exact (hg h).elim
    ·exact hwant fun v H1 he => evOp_stable h (fun id hid => by cases hid) he
    ·refine hwant fun v H1 he => evOp_stable h (fun id' hid => ?_) he
     cases hid
     have hidn : id ≠ (S sw).heap.length := by
      intro e
      rw [p5] at hkp
      simp only [e] at hkp
      rw [List.getElem?_append_right (Nat.le_refl _), List.getElem?_eq_none (Nat.le_refl _)] at hkp
      simp at hkp
     have hbase : c.H[id]? = (S (sw + 2)).heap[id]? := by
      rw [hcH, p6]
      simp only
      rcases Nat.lt_or_ge id (S sw).heap.length with hl | hl
      ·rw [List.getElem?_append_left hl, List.getElem?_append_left hl]
      ·rw [List.getElem?_append_right hl, List.getElem?_append_right hl]
       obtain ⟨q, hq'⟩ : ∃ q, id - (S sw).heap.length = q + 1 := ⟨id - (S sw).heap.length - 1, by omega⟩
       rw [hq']
       rfl
     have hsts : ∀ m, m < ops.size → quietAt aops m = false → ((sw + 2 ≤ m ∧ m < k) ∨ (k ≤ m ∧ m < sw + 2)) → (S (m + 1)).heap[id]? = (S m).heap[id]? := by
      intro m h1 h2 h3
      rcases hck k m (hmid m h1 h2 h3) ao hao with g | g | ⟨id2, g, g2⟩
      ·exact (hg g).elim
      ·rw [h] at g; cases g
      ·rw [h] at g; cases g; exact g2
     rw [hbase]
     rcases Nat.le_total (sw + 2) k with hle | hle
     ·exact (hkeep id (sw + 2) k hle (by omega) fun m g1 g2 g3 => hsts m (by omega) g3 (.inl ⟨g1, g2⟩)).symm
     ·exact hkeep id k (sw + 2) hle (by omega) fun m g1 g2 g3 => hsts m (by omega) g3 (.inr ⟨g1, g2⟩)
  · -- the usual case
   have hcH : c.H = (S (lastM aops (fun j => listed.getD j false) ops.size)).heap := by rw [hI.heap, hpH, if_neg hodd]
   by_cases hI1 : k = sw + 1 ∧ listed.getD sw false = false
   · -- the second of the two, before the first
    obtain ⟨hk', hD1⟩ := hI1
    subst hk'
    obtain ⟨hal1, hal2⟩ := hsw hkN
    obtain ⟨d1, z1, d2, z2, p1, p2, p3, p4, p5, p6⟩ := pairF hkN
    have hL : lastM aops (fun j => listed.getD j false) ops.size = lastM aops (fun _ => true) sw := by
     rw [lastM_false (k := sw) ops.size (by omega) (fun j h1 h2 h3 => by
      by_cases e : j = sw
      ·subst e; exact hD1
      ·by_cases e' : j = sw + 1
       ·subst e'; exact hkD
       ·cases hd : listed.getD j false with
        | false => rfl
        | true =>
         rcases (later j (by omega) h2 hd).1 with (h | h) | h
         ·rw [hmutA _ hal2] at h; cases h
         ·rw [h3] at h; cases h
         ·omega)]
     refine lastM_congr sw fun j hj hjq => ?_
     rcases earlier j (by omega) with h | ⟨(h | h) | h, _⟩
     ·exact h
     ·rw [hjq] at h; cases h
     ·rw [hmutA _ hal2] at h; cases h
     ·omega
    have hH : c.H = (S sw).heap := by rw [hcH, hL, hheapA sw (by omega)]
    rw [hao] at p2
    cases p2
    refine byOp ⟨c.w, c.X, c.β, c.H ++ [.blk z1.length []]⟩ rfl (step_claim (Nat.le_trans hfl hI.step.len)) (sim_claim hI.sim) ?_
    refine ⟨⟨(S (sw + 1)).tmps.set d2 (.ptr (c.H ++ [AObj.blk z1.length []]).length 1 0 0), (c.H ++ [.blk z1.length []]) ++ [.blk z2.length [z2.map .lit]]⟩, rfl, ?_, ?_⟩
    ·rw [p6, hH]; simp
    ·have hD' : oddD (fun j => (listed.setIfInBounds (sw + 1) true).getD j false) sw = true := by
      have q1 : (listed.setIfInBounds (sw + 1) true).getD sw false = false := by rw [hset, if_neg (by omega)]; exact hD1
      have q2 : (listed.setIfInBounds (sw + 1) true).getD (sw + 1) false = true := by rw [hset, if_pos rfl]
      simp only [oddD, q1, q2]
      rfl
     rw [hpH, if_pos hD', oddH, p3, p4, hH]
     simp
   · -- none of the two stands alone
    have hnodd' : oddD (fun j => (listed.setIfInBounds k true).getD j false) sw = false := by
     cases h : oddD (fun j => (listed.setIfInBounds k true).getD j false) sw with
     | false => rfl
     | true =>
      exfalso
      simp only [oddD, hset, Bool.and_eq_true, Bool.not_eq_true'] at h
      obtain ⟨h1, h2⟩ := h
      split at h2
      ·cases h2
      ·rename_i hks
       split at h1
       ·rename_i e; exact hI1 ⟨e.symm, h2⟩
       ·exact hodd (by simp [oddD, h1, h2])
    refine byOp c rfl (Step.refl _ _) hI.sim ?_
    rw [hpH, if_neg (by rw [hnodd']; exact Bool.false_ne_true)]
    cases hq : quietAt aops k with
    | false =>
     have hlat : ∀ j, k < j → j < ops.size → quietAt aops j = false → listed.getD j false = false := by
      intro j h1 h2 h3
      cases hd : listed.getD j false with
      | false => rfl
      | true =>
       rcases (later j h1 h2 hd).1 with (h | h) | ⟨e1, e2, _⟩
       ·rw [hq] at h; cases h
       ·rw [h3] at h; cases h
       ·exfalso
        subst e1 e2
        exact hodd (by simp [oddD, hd, hkD])
     have hL : lastM aops (fun j => listed.getD j false) ops.size = lastM aops (fun _ => true) k := by
      rw [lastM_false (k := k) ops.size (by omega) (fun j h1 h2 h3 => by
       by_cases e : j = k
       ·subst e; exact hkD
       ·exact hlat j (by omega) h2 h3)]
      refine lastM_congr k fun j hj hjq => ?_
      rcases earlier j hj with h | ⟨(h | h) | ⟨e1, e2, _⟩, _⟩
      ·exact h
      ·rw [hjq] at h; cases h
      ·rw [hq] at h; cases h
      ·cases hd : listed.getD j false with
       | true => rfl
       | false => exact (hI1 ⟨e2, by rw [← e1]; exact hd⟩).elim
     have hH : c.H = (S k).heap := by rw [hcH, hL, hheapA k (by omega)]
     refine ⟨S (k + 1), by rw [hH]; exact hS k ao hao, rfl, ?_⟩
     rw [lastM_false (k := k + 1) ops.size (by omega) (fun j h1 h2 h3 => by
      rw [hset, if_neg (by omega)]
      exact hlat j (by omega) h2 h3)]
     simp only [lastM, hset, if_true, hq]
     rfl
    | true =>
     have hL : lastM aops (fun j => (listed.setIfInBounds k true).getD j false) ops.size = lastM aops (fun j => listed.getD j false) ops.size := by
      refine lastM_congr ops.size fun j hj hjq => ?_
      rw [hset, if_neg (by intro e; subst e; rw [hq] at hjq; cases hjq)]
     rw [hL, ← hcH]
     have hqo : quietOp ao.op = true := by simpa [quietAt, hao] using hq
     have hev := hS k ao hao
     have hpl := lastM_le (aops := aops) (D := fun j => listed.getD j false) ops.size
     generalize hp : lastM aops (fun j => listed.getD j false) ops.size = p at *
     have hbetween : ∀ m, m < ops.size → quietAt aops m = false → ((p ≤ m ∧ m < k) ∨ (k ≤ m ∧ m < p)) → neutralAt aops k = true ∨ (k, m) ∈ ck := by
      intro m hm hmq hb
      rcases stabOk_spec hstab hkN hm hq hmq with h | h | h | h
      ·exact .inl h
      ·exfalso
       have hml := hanc m h
       have := lastM_ge (aops := aops) (D := fun j => listed.getD j false) ops.size hm hml hmq
       rw [hp] at this
       have hlt := ancLt k m hkN h
       omega
      ·exfalso
       have hlt := ancLt m k hm h
       rcases hb with ⟨h1, h2⟩ | ⟨h1, h2⟩
       ·omega
       · -- m is listed, for the last one is
        obtain ⟨p', rfl⟩ : ∃ p', p = p' + 1 := ⟨p - 1, by omega⟩
        obtain ⟨g1, g2, g3⟩ := lastM_is ops.size hp
        have hmD : listed.getD m false = true := by
         by_cases e : m = p'
         ·subst e; exact g2
         ·rcases orderOk_spec _ hord m p' (by omega) g1 with h' | ⟨(h' | h') | ⟨e1, e2, _⟩, _⟩
          ·exact hI.closed m p' g1 g2 h'
          ·rw [hmq] at h'; cases h'
          ·rw [g3] at h'; cases h'
          ·cases hd : listed.getD m false with
           | true => rfl
           | false =>
            exfalso
            subst e1 e2
            exact hodd (by simp [oddD, g2, hd])
        have := hI.closed k m hm hmD h
        rw [hkD] at this
        cases this
      ·exact .inr h
     have hsame : c.H = (S k).heap → ∃ st', evOper P cf fl ao ⟨(S k).tmps, c.H⟩ = some st' ∧ st'.tmps = (S (k + 1)).tmps ∧ st'.heap = c.H := by
      intro e
      refine ⟨S (k + 1), by rw [e]; exact hev, rfl, ?_⟩
      rw [e]
      exact evOper_quiet hqo hev
     have hwant : ∀ (hop : ∀ v H1, evOp P cf fl ao.op (S k).tmps (S k).heap = some (v, H1) → evOp P cf fl ao.op (S k).tmps c.H = some (v, c.H)), ∃ st', evOper P cf fl ao ⟨(S k).tmps, c.H⟩ = some st' ∧ st'.tmps = (S (k + 1)).tmps ∧ st'.heap = c.H := by
      intro hop
      unfold evOper at hev ⊢
      simp only at hev ⊢
      split at hev
      ·rename_i hw
       split at hev
       ·rename_i v H1 he
        simp only [Option.some.injEq] at hev
        rw [hop v H1 he]
        exact ⟨_, rfl, by rw [← hev], rfl⟩
       ·cases hev
      ·rename_i hw
       simp only [Option.some.injEq] at hev
       exact ⟨_, rfl, by rw [← hev], rfl⟩
      ·cases hev
     by_cases hn : neutralAt aops k = true
     ·have hno : neutralOp ao.op = true := by simpa [neutralAt, hao] using hn
      exact hwant fun v H1 he => evOp_neutral hno he
     · -- every mutator between is listed in ck
      have hmid : ∀ m, m < ops.size → quietAt aops m = false → ((p ≤ m ∧ m < k) ∨ (k ≤ m ∧ m < p)) → (k, m) ∈ ck := by
       intro m h1 h2 h3
       rcases hbetween m h1 h2 h3 with h | h
       ·exact (hn h).elim
       ·exact h
      by_cases hg : wantA (S k).tmps ao.guard = some false
      · -- it is not carried out
       unfold evOper at hev ⊢
       simp only [hg] at hev ⊢
       simp only [Option.some.injEq] at hev
       exact ⟨_, rfl, by rw [← hev], rfl⟩
      by_cases hex : ∃ m, m < ops.size ∧ quietAt aops m = false ∧ ((p ≤ m ∧ m < k) ∨ (k ≤ m ∧ m < p))
      ·obtain ⟨m0, q1, q2, q3⟩ := hex
       rcases hck k m0 (hmid m0 q1 q2 q3) ao hao with h | h | ⟨id, h, _⟩
       ·exact (hg h).elim
       ·exact hwant fun v H1 he => evOp_stable h (fun id hid => by cases hid) he
       ·refine hwant fun v H1 he => evOp_stable h (fun id' hid => ?_) he
        cases hid
        have hsts : ∀ m, m < ops.size → quietAt aops m = false → ((p ≤ m ∧ m < k) ∨ (k ≤ m ∧ m < p)) → (S (m + 1)).heap[id]? = (S m).heap[id]? := by
         intro m h1 h2 h3
         rcases hck k m (hmid m h1 h2 h3) ao hao with g | g | ⟨id2, g, g2⟩
         ·exact (hg g).elim
         ·rw [h] at g; cases g
         ·rw [h] at g; cases g; exact g2
        rw [hcH]
        rcases Nat.le_total p k with hle | hle
        ·exact (hkeep id p k hle (by omega) fun m g1 g2 g3 => hsts m (by omega) g3 (.inl ⟨g1, g2⟩)).symm
        ·exact hkeep id k p hle hpl fun m g1 g2 g3 => hsts m (by omega) g3 (.inr ⟨g1, g2⟩)
      · -- no mutator lies between
       refine hsame ?_
       rw [hcH]
       apply List.ext_getElem?
       intro id
       rcases Nat.le_total p k with hle | hle
       ·exact (hkeep id p k hle (by omega) fun m g1 g2 g3 => (hex ⟨m, by omega, g3, .inl ⟨g1, g2⟩⟩).elim).symm
       ·exact hkeep id k p hle hpl fun m g1 g2 g3 => (hex ⟨m, by omega, g3, .inr ⟨g1, g2⟩⟩).elim
theorem traceL_of [GlobT] : ∀ (aops : List AOper) (st : St) (l : List St), evOpsL P cf fl aops st = some l →
  ∃ S : Nat → St, S 0 = st ∧ l.getLast? = some (S aops.length) ∧ (∀ k, k ≤ aops.length → l[k]? = some (S k)) ∧ ∀ k ao, aops[k]? = some ao → evOper P cf fl ao (S k) = some (S (k + 1))
 | [], st, l, h => by
  simp only [evOpsL, Option.some.injEq] at h
  subst h
  exact ⟨fun _ => st, rfl, rfl, fun k hk => by have : k = 0 := (by simpa using hk); subst this; rfl, fun k ao hk => by simp at hk⟩
 | o :: r, st, l, h => by
  simp only [evOpsL] at h
  split at h
  ·rename_i st1 h1
   split at h
   ·rename_i l1 h2
    cases h
    obtain ⟨S, e1, e2, e3, e4⟩ := traceL_of r st1 l1 h2
    refine ⟨fun k => match k with | 0 => st | k + 1 => S k, rfl, ?_, ?_, fun k ao hk => ?_⟩
    ·have hne : l1 ≠ [] := by
      intro e
      subst e
      have := e3 0 (by omega)
      simp at this
     rw [List.getLast?_cons_of_ne_nil hne, e2]
     simp
    ·intro k hk
     cases k with
     | zero => rfl
     | succ k => simpa using e3 k (by simpa using hk)
    ·cases k with
     | zero =>
      simp only [List.getElem?_cons_zero, Option.some.injEq] at hk
      subst hk
      rw [h1, ← e1]
     | succ k =>
      simp only [List.getElem?_cons_succ] at hk
      exact e4 k ao hk
   ·cases h
  ·cases h
theorem ckAll_mem [GlobT] {ops : List AOper} {l : List St} : ∀ {ck : List (Nat × Nat)}, ckAll ops l ck = true → ∀ k m, (k, m) ∈ ck → ckOne ops l k m = true
 | [], _, k, m, h => by cases h
 | (a, b) :: r, h, k, m, hm => by
  simp only [ckAll] at h
  split at h
  ·rename_i h1
   rcases List.mem_cons.1 hm with e | e
   ·cases e; exact h1
   ·exact ckAll_mem h k m e
  ·cases h
theorem reg_trace [GlobT] (hfo : FlOK cf) {ck : List (Nat × Nat)} {aops : List AOper} {st st' : St} (h : evReg P cf fl ck aops st = some st') :
  ∃ S : Nat → St, S 0 = st ∧ S aops.length = st' ∧ (∀ k ao, aops[k]? = some ao → evOper P cf fl ao (S k) = some (S (k + 1))) ∧
   ∀ k m, (k, m) ∈ ck → ∀ ao, aops[k]? = some ao → wantA (S k).tmps ao.guard = some false ∨ stableAt ao.op (S k).tmps = some none ∨ ∃ id, stableAt ao.op (S k).tmps = some (some id) ∧ (S (m + 1)).heap[id]? = (S m).heap[id]? := by
 unfold evReg at h
 split at h
 ·obtain ⟨S, e1, e2, e3⟩ := trace_of aops st st' h
  exact ⟨S, e1, e2, e3, fun k m hm => by cases hm⟩
 ·rename_i c r
  split at h
  ·rename_i l hl
   split at h
   ·rename_i hck
    obtain ⟨S, e1, e2, e3, e4⟩ := traceL_of aops st l hl
    rw [e2] at h
    cases h
    refine ⟨S, e1, rfl, e4, fun k m hm ao hao => ?_⟩
    have := ckAll_mem hck k m hm
    unfold ckOne at this
    have hk : k < aops.length := (List.getElem?_eq_some_iff.1 hao).1
    simp only [hao, e3 k (by omega)] at this
    split at this
    ·rename_i hw; exact .inl hw
    ·split at this
     ·rename_i hs; exact .inr (.inl hs)
     ·rename_i id hs
      refine .inr (.inr ⟨id, hs, ?_⟩)
      split at this
      ·rename_i om hom
       have hm' : m < aops.length := (List.getElem?_eq_some_iff.1 hom).1
       simp only [e3 m (by omega)] at this
       have hev := e4 m om hom
       unfold evOper at hev
       split at this
       ·rename_i hw
        simp only [hw, Option.some.injEq] at hev
        rw [← hev]
       ·rename_i hw
        split at hev
        ·split at hev
         ·rename_i v H1 he
          simp only [Option.some.injEq] at hev
          rw [← hev]
          exact evOp_keeps hfo this he
         ·cases hev
        ·rename_i hw'; exact (hw hw').elim
        ·cases hev
      ·cases this
     ·cases this
   ·cases h
  ·cases h
theorem evOpsL_ops [GlobT] : ∀ (aops : List AOper) (st : St) (l : List St), evOpsL P cf fl aops st = some l → evOps P cf fl aops st = l.getLast?
 | [], st, l, h => by
  simp only [evOpsL, Option.some.injEq] at h
  subst h
  rfl
 | o :: r, st, l, h => by
  simp only [evOpsL] at h
  split at h
  ·rename_i st1 h1
   split at h
   ·rename_i l1 h2
    cases h
    have ih := evOpsL_ops r st1 l1 h2
    have hne : l1 ≠ [] := by
     intro e
     subst e
     obtain ⟨S, _, g, _⟩ := traceL_of r st1 [] h2
     simp at g
    simp only [evOps, h1, ih]
    rw [List.getLast?_cons_of_ne_nil hne]
   ·cases h
  ·cases h
theorem evReg_ops [GlobT] {ck : List (Nat × Nat)} {aops : List AOper} {st st' : St} (h : evReg P cf fl ck aops st = some st') : evOps P cf fl aops st = some st' := by
 unfold evReg at h
 split at h
 ·exact h
 ·split at h
  ·rename_i l hl
   split at h
   ·rw [evOpsL_ops aops st l hl]; exact h
   ·cases h
  ·cases h
theorem region_sound [GlobT] (hm : P.follows .mixedOrders = true) (hfo : FlOK cf) (hcf : CfOK P T cf) (hfn : FnsOK P T) {id : Nat} {ck : List (Nat × Nat)} {draw : Bool} {ops : Array Oper} {aops : List AOper} {tm : List AV} {c : Ctx} {a : Act} {st' : St} {Q : Exit → Act → World → Prop}
  (hchk : chkC P T (.region draw ck aops) (.region id ops draw) = true) (hs : Sim (ftOf T) c) (htr : TR (ftOf T) c tm a.tmps) (hfl : fl ≤ c.H.length) (hev : evReg P cf fl ck aops ⟨tm, c.H⟩ = some st')
  (hQ : ∀ a' c', c'.H = st'.heap → Step fl c c' → Sim (ftOf T) c' → TR (ftOf T) c' st'.tmps a'.tmps → a'.defers = a.defers → Q .normal a' c'.w) : (Code.region id ops draw).wp P Q a c.w := by
 simp only [chkC, Bool.and_eq_true] at hchk
 obtain ⟨⟨_, hc⟩, ho⟩ := hchk
 obtain ⟨hlen, _⟩ := chkOpers_get hc
 cases draw with
 | false =>
  refine wp_region ?_
  have hev := evReg_ops hev
  have := ops_seq hcf hfn (ops := ops) (Q := Q) aops ops.toList 0 c a tm st' hc (fun j o hj => by simpa using hj) hs htr hfl hev hQ
  rw [List.range_eq_range']
  rw [hlen] at this
  simpa using this
 | true =>
  simp only [Bool.not_true, Bool.false_or, Bool.and_eq_true, decide_eq_true_eq] at ho
  obtain ⟨⟨h1, h2⟩, h4⟩ := ho
  obtain ⟨S, e1, e2, e3, eck⟩ := reg_trace hfo hev
  have hval : ∃ val : Nat → AV, ∀ k ao, aops[k]? = some ao → (S (k + 1)).tmps = putA (S k).tmps ao.dst (val k) := by
   have : ∀ k, ∃ x, ∀ ao, aops[k]? = some ao → (S (k + 1)).tmps = putA (S k).tmps ao.dst x := by
    intro k
    cases hk : aops[k]? with
    | none => exact ⟨.undef, fun ao h => by cases h⟩
    | some ao =>
     obtain ⟨x, g1, _⟩ := evOper_congr (tm := (S k).tmps) (fun _ _ => rfl) (e3 k ao hk)
     exact ⟨x, fun ao' h => by cases h; exact g1⟩
   exact ⟨fun k => Classical.choose (this k), fun k => Classical.choose_spec (this k)⟩
  obtain ⟨val, hval⟩ := hval
  have hlen' : aops.length = ops.size := by simpa using hlen
  refine wp_region_any hm ?_
  have hd : Drawn c.w { c.w with drawn := c.w.drawn + 1 } := ⟨rfl, rfl, rfl, rfl⟩
  have hst0 := step_drawn (fl := fl) hd
  refine any_sound (c0 := ⟨{ c.w with drawn := c.w.drawn + 1 }, c.X, c.β, c.H⟩) (ds := a.defers) hcf hfn hc h1 h2.1 h4 e1 e3 hval eck (swapAt_spec hlen') (stab2_spec h2.2) hfo hfl ?_ ops.size (Array.replicate ops.size false) a ⟨{ c.w with drawn := c.w.drawn + 1 }, c.X, c.β, c.H⟩ ?_ ?_
  ·intro a' c' f1 f2 f3 f4 f5
   rw [← hlen', e2] at f1 f4
   exact hQ a' c' f1 (hst0.trans f2) f3 f4 f5
  ·unfold unl
   exact Nat.le_trans (List.length_filter_le _ _) (by simp)
  ·have hF : ∀ j, (Array.replicate ops.size false).getD j false = false := by
    intro j
    simp only [Array.getD_eq_getD_getElem?, Array.getElem?_replicate]
    split <;> rfl
   refine ⟨by simp, hs.drawn hd, Step.refl _ _, rfl, (fun i j _ hD _ => by rw [hF] at hD; cases hD), ?_, ?_⟩
   have hfd : foldD aops tm val (fun j => (Array.replicate ops.size false).getD j false) ops.size = tm :=
    foldD_false ops.size (Nat.zero_le _) fun j _ _ => hF j
   ·rw [hfd]
    exact htr.step hst0
   ·have hodd : oddD (fun j => (Array.replicate ops.size false).getD j false) (swapAt aops (ancs ops.toList ops.size []) ops.size 0) = false := by simp only [oddD, hF, Bool.false_and]
    rw [hpH, if_neg (by rw [hodd]; exact Bool.false_ne_true), lastM_false (k := 0) ops.size (Nat.zero_le _) fun j _ _ _ => hF j]
    simp only [lastM, e1]
end
end Go.Proofs.YtmflphfmefakfaaGreatDoor.Av
