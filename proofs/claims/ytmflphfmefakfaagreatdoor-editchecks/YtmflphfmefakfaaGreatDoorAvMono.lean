/- A part of the proof of EditChecksCardSaid. -/
import Derived.Test.YtmflphfmefakfaaGreatDoorAvOrc
set_option linter.all false
namespace Go.Proofs.YtmflphfmefakfaaGreatDoor.Av
open Go
abbrev iv (n : Int) : AV := .lit (.int .i64 n)
abbrev bv (b : Bool) : AV := .lit (.bool b)
abbrev sv (s : ByteArray) : AV := .lit (.string s)
def bnd {α β : Type} (x : Option α) (f : α → Option β) : Option β := match x with
 | some a => f a
 | none => none
theorem bnd_some {α β : Type} {x : Option α} {f : α → Option β} {r : β} (h : bnd x f = some r) : ∃ a, x = some a ∧ f a = some r := by
 cases x with
 | none => cases h
 | some a => exact ⟨a, rfl, h⟩
theorem bnd_of {α β : Type} {x : Option α} {f : α → Option β} {a : α} (h : x = some a) : bnd x f = f a := by rw [h]; rfl
def bnd2 {α β γ : Type} (x : Option (α ⊕ β)) (f : α → Option γ) (g : β → Option γ) : Option γ := match x with
 | some (.inl a) => f a
 | some (.inr b) => g b
 | none => none
theorem bnd2_some {α β γ : Type} {x : Option (α ⊕ β)} {f : α → Option γ} {g : β → Option γ} {r : γ} (h : bnd2 x f g = some r) : (∃ a, x = some (.inl a) ∧ f a = some r) ∨ (∃ a, x = some (.inr a) ∧ g a = some r) := by
 match x, h with
 | some (.inl a), h => exact .inl ⟨a, rfl, h⟩
 | some (.inr a), h => exact .inr ⟨a, rfl, h⟩
def cnd {α : Type} (b : Bool) (x y : α) : α := match b with
 | true => x
 | false => y
theorem cnd_t {α : Type} {b : Bool} {x y : α} (h : b = true) : x = cnd b x y := by rw [h]; rfl
theorem cnd_f {α : Type} {b : Bool} {x y : α} (h : b = false) : y = cnd b x y := by rw [h]; rfl
theorem cnd_ite {α : Type} {b : Bool} {x y : α} : cnd b x y = if b then x else y := by cases b <;> rfl
theorem bool_eq {e b : Bool} (h : e = b) : some (AV.lit (.bool e)) = some (AV.lit (.bool b)) := by rw [h]
theorem pv_evF [GlobT] {P : Program} {T : List AFun} {n vi : Nat} {args : List AV} {r r' : AV} {H' : Heap} (h : evF P T n 0 vi args [] = some (r, H')) (hs : seal3 H' 0 r = r') : pv P T n vi args = some r' := by
 unfold pv; rw [h, ← hs]
def imax (a b : Int) : Int := if a < b then b else a
def imin (a b : Int) : Int := if b < a then b else a
theorem str_beq (a b : ByteArray) : (a.toList == b.toList) = decide (a = b) := by
 by_cases h : a = b
 ·subst h; simp
 ·rw [decide_eq_false h]
  simp only [beq_eq_false_iff_ne, ne_eq]
  intro e
  apply h
  simp only [ByteArray.toList_eq] at e
  exact ByteArray.ext (Array.toList_inj.1 e)
section
variable {P : Program} {cf : Nat → Nat → List AV → Heap → Option (AV × Heap)} {fl : Nat} {H : Heap} {t : TypeId} {a b : ByteArray} {r : Bool}
theorem c_str_eql [GlobT] (h : decide (a = b) = r) : evOp P cf fl (.bin .eql t (.tmp 0) (.tmp 1)) [sv a, sv b] H = some (bv r, H) := by
 simp only [evOp, getOpd, List.getElem?_cons_zero, List.getElem?_cons_succ, lits, notNil, if_true, pr_gs, pr_seq, str_beq, h]
theorem c_str_neq [GlobT] (h : decide (a = b) = r) : evOp P cf fl (.bin .neq t (.tmp 0) (.tmp 1)) [sv a, sv b] H = some (bv (!r), H) := by
 simp only [evOp, getOpd, List.getElem?_cons_zero, List.getElem?_cons_succ, lits, notNil, if_true, pr_gs, pr_sne, str_beq, h]
end
def idx {α : Type} (l : List α) (i : Int) : Option α := if 0 ≤ i then l[i.toNat]? else none
theorem idx_nat {α : Type} (l : List α) (i : Nat) : idx l (i : Int) = l[i]? := by simp [idx]
theorem idx_some {α : Type} {l : List α} {i : Int} {x : α} (h : idx l i = some x) : 0 ≤ i ∧ l[i.toNat]? = some x ∧ i.toNat < l.length := by
 unfold idx at h
 split at h
 ·rename_i hi
  refine ⟨hi, h, ?_⟩
  rcases Nat.lt_or_ge i.toNat l.length with h1 | h1
  ·exact h1
  ·rw [List.getElem?_eq_none h1] at h; cases h
 ·cases h
section
variable {α : Type} {c : α → List AV} {H : Heap} {fl id s : Nat} {l l' m : List α} {i : Int} {x : α} {f : Bool}
theorem idxl [GlobT] (h : idx l i = some x) (hs : (c x).length = s) : idxA H s (.sl f (l.map c)) (.lit (.int .i64 i)) = some (.rptr (c x)) := by
 obtain ⟨h1, h2, _⟩ := idx_some h
 simp [idxA, natOf, h1, h2, hs]
def idxK {α : Type} (l : List α) (k : Nat) (i : Int) : Option α := if 0 ≤ i ∧ i.toNat < k then l[i.toNat]? else none
theorem idxK_some {k : Nat} (h : idxK l k i = some x) : 0 ≤ i ∧ i.toNat < k ∧ l[i.toNat]? = some x ∧ i.toNat < l.length := by
 unfold idxK at h
 split at h
 ·rename_i hi
  refine ⟨hi.1, hi.2, h, ?_⟩
  rcases Nat.lt_or_ge i.toNat l.length with h1 | h1
  ·exact h1
  ·rw [List.getElem?_eq_none h1] at h; cases h
 ·cases h
theorem idx_ms [GlobT] {k : Nat} (h : idxK l k i = some x) (hH : H[id]? = some (.blk s (l.map c))) : idxA H s (.ms id l.length 0 k) (.lit (.int .i64 i)) = some (.ptr id l.length (0 + i.toNat) 0) := by
 obtain ⟨h1, h2, _, _⟩ := idxK_some h
 simp [idxA, natOf, h1, hH, h2]
theorem len_sl [GlobT] {P : Program} {cf : Nat → Nat → List AV → Heap → Option (AV × Heap)} : evOp P cf fl (.lenS (.tmp 0)) [.sl f (l.map c)] H = some (iv l.length, H) := by
 show some (AV.lit (.int .i64 ((l.map c).length : Nat)), H) = _
 rw [List.length_map]
def app {α : Type} (l m : List α) : Option (List α) := if l.length + m.length ≤ 1000000 then some (l ++ m) else none
theorem app_some (h : app l m = some l') : l' = l ++ m ∧ l.length + m.length ≤ 1000000 := by
 unfold app at h
 split at h
 ·cases h; exact ⟨rfl, by assumption⟩
 ·cases h
theorem app_of (h : l.length + m.length ≤ 1000000) : app l m = some (l ++ m) := by simp [app, h]
theorem allLen_map (hc : ∀ x, (c x).length = s) : allLen s (l.map c) = true := by
 simp [allLen, hc]
theorem app_ms [GlobT] {bytes : Nat} (h : app l m = some l') (hH : H[id]? = some (.blk s (l.map c))) (hc : ∀ x, (c x).length = s) (hs : 0 < s) (hb : bytes ≤ 100000) (hfl : fl ≤ id) :
  appendA fl H s bytes (.ms id l.length 0 l.length) (m.map c) = some (.ms id l'.length 0 l'.length, H.set id (.blk s (l'.map c))) := by
 obtain ⟨rfl, hl⟩ := app_some h
 have hmul : ∀ a, a ≤ 1000000 → a * bytes ≤ 2 ^ 40 := by
  intro a ha
  have := Nat.mul_le_mul ha hb
  omega
 have h1 := appendA_ms (fl := fl) (bytes := bytes) (tot := l.length) (ys := m.map c) hH (by simp) (allLen_map hc) hs (by simp [room]; exact ⟨hmul _ (by omega), by omega⟩) (by simp [room]; exact ⟨hmul _ (by omega), by omega⟩) hfl
 rw [h1]
 simp
theorem app_new [GlobT] {bytes : Nat} (h : app l m = some l') (hm : m ≠ []) (hc : ∀ x, (c x).length = s) (hs : 0 < s) (hb : bytes ≤ 100000) :
  appendA fl H s bytes (.sl true (l.map c)) (m.map c) = some (.ms H.length l'.length 0 l'.length, H ++ [.blk s (l'.map c)]) := by
 obtain ⟨rfl, hl⟩ := app_some h
 have hmul : ∀ a, a ≤ 1000000 → a * bytes ≤ 2 ^ 40 := by
  intro a ha
  have := Nat.mul_le_mul ha hb
  omega
 have h0 : (m.map c).length ≠ 0 := by simpa using hm
 unfold appendA
 have r1 : room (m.map c).length bytes = true := by simp [room]; exact ⟨hmul _ (by omega), by omega⟩
 have r2 : room ((l.map c).length + (m.map c).length) bytes = true := by simp [room]; exact ⟨hmul _ (by omega), by omega⟩
 simp only [allLen_map hc, hs, r1, r2, h0, and_self, if_true, if_false]
 simp
def appK {α : Type} (l : List α) (k : Nat) (m : List α) : Option (List α) :=
 if k = l.length then app l m else if k + m.length ≤ l.length ∧ l.length ≤ 500000 then some (l.take k ++ (m ++ l.drop (k + m.length))) else none
theorem app_msK [GlobT] {bytes k : Nat} (h : appK l k m = some l') (hH : H[id]? = some (.blk s (l.map c))) (hc : ∀ x, (c x).length = s) (hs : 0 < s) (hb : bytes ≤ 100000) (hfl : fl ≤ id) :
  appendA fl H s bytes (.ms id l.length 0 k) (m.map c) = some (.ms id l'.length 0 (k + m.length), H.set id (.blk s (l'.map c))) := by
 unfold appK at h
 split at h
 ·rename_i hk
  subst hk
  have := app_ms h hH hc hs hb hfl
  rw [this, (app_some h).1]
  simp
 ·rename_i hk
  split at h
  ·rename_i hl
   cases h
   have hlt : id < H.length := by
    rcases Nat.lt_or_ge id H.length with h | h
    ·exact h
    ·rw [List.getElem?_eq_none h] at hH; cases hH
   have hmul : ∀ a, a ≤ 1000000 → a * bytes ≤ 2 ^ 40 := by
    intro a ha
    have := Nat.mul_le_mul ha hb
    omega
   have r1 : room m.length bytes = true := by simp [room]; exact ⟨hmul _ (by omega), by omega⟩
   have r2 : room (l.length + m.length) bytes = true := by simp [room]; exact ⟨hmul _ (by omega), by omega⟩
   have hll : (l.take k ++ (m ++ l.drop (k + m.length))).length = l.length := by simp; omega
   unfold appendA
   simp only [allLen_map hc, hs, r1, r2, hH, List.length_map, hfl, and_self, if_true]
   by_cases h0 : m.length = 0
   ·have : m = [] := List.length_eq_zero_iff.1 h0
    subst this
    simp only [List.length_nil, Nat.add_zero] at r1 r2
    simp only [List.length_nil, Nat.add_zero, List.nil_append, List.take_append_drop, if_true, Option.some.injEq, Prod.mk.injEq, true_and]
    apply List.ext_getElem?
    intro i
    rw [List.getElem?_set]
    split
    ·rename_i hi; subst hi; first | exact hH | (rw [if_pos hlt]; exact hH)
    ·rfl
   ·rw [hll]
    have h1 : ¬ (0 = 0 ∧ k = l.length) := by omega
    have h2 : 0 + k + m.length ≤ l.length := by omega
    simp only [h0, h1, h2, if_true, if_false, splice, List.length_map, List.map_append, List.map_take, List.map_drop, Nat.zero_add, and_false, true_and, hk]
    rw [if_pos hl.1]
  ·cases h
theorem app_e {bytes : Nat} {x : AV} (h : List.isEmpty m = true) (hc : ∀ x, (c x).length = s) (hs : 0 < s) (hx : x = .lit nilS ∨ x = .sl true []) : appendA fl H s bytes x (m.map c) = some (x, H) := by
 have : m = [] := List.isEmpty_iff.1 h
 subst this
 rcases hx with rfl | rfl <;> simp [appendA, allLen, hs, room, nilS]
theorem app_n [GlobT] {bytes : Nat} {x : AV} (h : app ([] : List α) m = some l') (he : List.isEmpty m = false) (hc : ∀ x, (c x).length = s) (hs : 0 < s) (hb : bytes ≤ 100000) (hx : x = .lit nilS ∨ x = .sl true []) :
  appendA fl H s bytes x (m.map c) = some (.ms H.length l'.length 0 l'.length, H ++ [.blk s (l'.map c)]) := by
 obtain ⟨e, hl⟩ := app_some h
 rw [List.nil_append] at e
 subst e
 have h0 : (l'.map c).length ≠ 0 := by
  intro h1
  have : l' = [] := by simpa using h1
  rw [this] at he
  simp at he
 have hmul : ∀ a, a ≤ 1000000 → a * bytes ≤ 2 ^ 40 := by
  intro a ha
  have := Nat.mul_le_mul ha hb
  omega
 simp only [List.length_nil, Nat.zero_add] at hl
 have r1 : room (l'.map c).length bytes = true := by simp [room]; exact ⟨hmul _ (by omega), by omega⟩
 rcases hx with rfl | rfl
 ·unfold appendA nilS
  simp only [allLen_map hc, hs, r1, h0, and_self, if_true, if_false]
  simp only [List.length_map]
 ·unfold appendA
  have ha : allLen s ([] : List (List AV)) = true := rfl
  simp only [allLen_map hc, hs, r1, h0, ha, and_self, if_true, if_false, List.length_nil, Nat.zero_add, List.nil_append]
  simp only [List.length_map]
theorem rd_ms (hH : H[id]? = some (.blk s (l.map c))) : rd H (.ms id l.length 0 l.length) = some (l.map c) := by
 have h1 : (l.map c).length = l.length := by simp
 simp only [rd, hH, h1, if_true, List.drop_zero]
 rw [List.take_of_length_le (by omega)]
theorem rd_msK {k : Nat} (hH : H[id]? = some (.blk s (l.map c))) : rd H (.ms id l.length 0 k) = some ((l.take k).map c) := by
 simp [rd, hH, List.map_take]
theorem rd_app {y : AV} {ys : List (List AV)} {bytes : Nat} {x : AV} {r : AV × Heap} (h : rd H y = some ys) (k : appendA fl H s bytes x ys = some r) : (match rd H y with | some ys => appendA fl H s bytes x ys | none => none) = some r := by
 rw [h]; exact k
theorem st_ms [GlobT] {P : Program} {cf : Nat → Nat → List AV → Heap → Option (AV × Heap)} {off n k : Nat} {x' : α} {v : AV} {cs : List AV} (h : idxK l k i = some x) (hH : H[id]? = some (.blk s (l.map c))) (hfl : fl ≤ id) (hv : cellsOf v = some cs) (hx : splice (c x) off (cs.map nrm) = c x') (hn : cs.length = n ∧ off + cs.length ≤ (c x).length) (hnrm : cs.map nrm = cs) :
  evOp P cf fl (.store n (.tmp 0) (.tmp 1)) [.ptr id l.length (0 + i.toNat) off, v] H = some (.lit undefV, H.set id (.blk s ((l.set i.toNat x').map c))) := by
 obtain ⟨h1, h2, h3, h4⟩ := idxK_some h
 have h5 : (l.map c)[0 + i.toNat]? = some (c x) := by simp [h3]
 rw [hnrm] at hx
 simp only [evOp, getOpd, List.getElem?_cons_zero, List.getElem?_cons_succ, hv, hn.1, if_true, stCells, hfl, hH, List.length_map, h5, hn.2, hx]
 have : (l.map c).set (0 + i.toNat) (c x') = (l.set i.toNat x').map c := by rw [Nat.zero_add, List.map_set]
 have h6 : off + n ≤ (c x).length := by have := hn.2; rw [hn.1] at this; exact this
 rw [this, if_pos h6]
def grd (b : Bool) : Option Unit := match b with
 | true => some ()
 | false => none
theorem grd_some {b : Bool} {u : Unit} (h : grd b = some u) : b = true := by cases b <;> first | rfl | cases h
def prd (n : Nat) : Option Nat := match n with
 | 0 => none
 | k + 1 => some k
theorem prd_eq {n k : Nat} (h : prd n = some k) : n = k + 1 := by
 cases n with
 | zero => cases h
 | succ n => cases h; rfl
def cut {α : Type} (l : List α) (lo hi : Int) : Option (List α) := if 0 ≤ lo ∧ lo ≤ hi ∧ hi ≤ l.length then some ((l.take hi.toNat).drop lo.toNat) else none
theorem headLen_map (hc : ∀ x, (c x).length = s) : headLen s (l.map c) = true := by
 cases l with
 | nil => rfl
 | cons x r => simp [headLen, hc]
theorem slice_sl_gen [GlobT] {lo hi : Option Nat} {L Hh : Nat} (hl : lo.getD 0 = L) (hh : hi.getD l.length = Hh) (h1 : L ≤ Hh) (h2 : Hh ≤ l.length) (hc : ∀ x, (c x).length = s) : sliceA H s (.sl false (l.map c)) lo hi none = some (.sl false (((l.take Hh).drop L).map c)) := by
 unfold sliceA
 simp only [List.length_map, hl, hh, h1, h2, headLen_map hc, and_self, if_true, Bool.false_and, List.map_drop, List.map_take]
section
variable {P : Program} {cf : Nat → Nat → List AV → Heap → Option (AV × Heap)} {lo hi : Int} {w y z : AV}
theorem slice_sl11 [GlobT] (h : cut l lo hi = some l') (hc : ∀ x, (c x).length = s) : evOp P cf fl (.slice s (.tmp 0) (some (.tmp 1)) (some (.tmp 2)) none) [.sl false (l.map c), iv lo, iv hi, z] H = some (.sl false (l'.map c), H) := by
 unfold cut at h
 split at h
 ·rename_i hb
  cases h
  have h1 : (0 : Int) ≤ hi := by omega
  simp only [evOp, getOpd, natOpt, natOf, List.getElem?_cons_zero, List.getElem?_cons_succ, hb.1, h1, if_true]
  rw [slice_sl_gen (L := lo.toNat) (Hh := hi.toNat) rfl rfl (by omega) (by omega) hc]
 ·cases h
theorem slice_sl10 [GlobT] (h : cut l lo ((l.length : Nat) : Int) = some l') (hc : ∀ x, (c x).length = s) : evOp P cf fl (.slice s (.tmp 0) (some (.tmp 1)) none none) [.sl false (l.map c), iv lo, y, z] H = some (.sl false (l'.map c), H) := by
 unfold cut at h
 split at h
 ·rename_i hb
  cases h
  simp only [evOp, getOpd, natOpt, natOf, List.getElem?_cons_zero, List.getElem?_cons_succ, hb.1, if_true]
  rw [slice_sl_gen (L := lo.toNat) (Hh := l.length) rfl rfl (by omega) (by omega) hc]
  simp
 ·cases h
theorem slice_sl01 [GlobT] (h : cut l 0 hi = some l') (hc : ∀ x, (c x).length = s) : evOp P cf fl (.slice s (.tmp 0) none (some (.tmp 2)) none) [.sl false (l.map c), w, iv hi, z] H = some (.sl false (l'.map c), H) := by
 unfold cut at h
 split at h
 ·rename_i hb
  cases h
  have h1 : (0 : Int) ≤ hi := by omega
  simp only [evOp, getOpd, natOpt, natOf, List.getElem?_cons_zero, List.getElem?_cons_succ, h1, if_true]
  rw [slice_sl_gen (L := 0) (Hh := hi.toNat) rfl rfl (by omega) (by omega) hc]
  simp
 ·cases h
theorem slice_sl00 [GlobT] (h : cut l 0 ((l.length : Nat) : Int) = some l') (hc : ∀ x, (c x).length = s) : evOp P cf fl (.slice s (.tmp 0) none none none) [.sl false (l.map c), w, y, z] H = some (.sl false (l'.map c), H) := by
 unfold cut at h
 split at h
 ·cases h
  simp only [evOp, getOpd, natOpt, List.getElem?_cons_zero]
  rw [slice_sl_gen (L := 0) (Hh := l.length) rfl rfl (by omega) (by omega) hc]
  simp
 ·cases h
theorem slice_00 [GlobT] {q : Option AOpd} (hc : ∀ x, (c x).length = s) (hq : q = none ∨ q = some (.tmp 1) := by first | exact .inl rfl | exact .inr rfl) (hw : q = some (.tmp 1) → w = iv 0 := by intro _; rfl) : evOp P cf fl (.slice s (.tmp 0) q (some (.tmp 2)) (some (.tmp 3))) [.sl f (l.map c), w, iv 0, iv 0] H = some (.sl true [], H) := by
 have e : ∀ o : Option Nat, o.getD 0 = 0 → sliceA H s (.sl f (l.map c)) o (some 0) (some 0) = some (.sl true []) := by
  intro o ho
  simp [sliceA, ho, headLen_map hc]
 rcases hq with rfl | rfl
 ·simp [evOp, getOpd, natOpt, natOf, e]
 ·have := hw rfl
  subst this
  simp [evOp, getOpd, natOpt, natOf, e]
theorem slice_ms [GlobT] {es : List (List AV)} {tot k : Nat} {h : Int} {u : Unit} (hg : grd (decide (0 ≤ h ∧ h.toNat ≤ k)) = some u) (hH : H[id]? = some (.blk s es)) : evOp P cf fl (.slice s (.tmp 0) none (some (.tmp 2)) none) [.ms id tot 0 k, w, iv h, z] H = some (.ms id tot 0 h.toNat, H) := by
 have hb := of_decide_eq_true (grd_some hg)
 simp [evOp, getOpd, natOpt, natOf, hb.1, sliceA, hH, hb.2]
theorem op_max [GlobT] {a b : Int} : evOp P cf fl (.minmax true [.tmp 0, .tmp 1]) [iv a, iv b] H = some (iv (imax a b), H) := by
 simp [evOp, getOpd, litL, pr_max, imax]
theorem op_min [GlobT] {a b : Int} : evOp P cf fl (.minmax false [.tmp 0, .tmp 1]) [iv a, iv b] H = some (iv (imin a b), H) := by
 have : pureRun P (Builtin.min_ #[] 0 #[.int .i64 a, .int .i64 b]) = some (.int .i64 (if b < a then b else a)) := by
  by_cases h : b < a <;> simp [Builtin.min_, Builtin.min2, h] <;> rfl
 simp [evOp, getOpd, litL, this, imin]
end
theorem frz_msK [GlobT] {P : Program} {cf : Nat → Nat → List AV → Heap → Option (AV × Heap)} {k : Nat} (hH : H[id]? = some (.blk s (l.map c))) (hfl : fl ≤ id) (hp : ∀ x, (c x).map toP = c x) :
  evOp P cf fl (.freeze (.tmp 0)) [.ms id l.length 0 k] H = some (.sl false ((l.take k).map c), H.set id (.blk s (l.map c ++ [List.replicate s .undef]))) := by
 simp only [evOp, getOpd, List.getElem?_cons_zero, hfl, if_true, hH, List.length_map, List.drop_zero]
 have : ((l.map c).take k).map (fun e => e.map toP) = (l.take k).map c := by
  rw [← List.map_take, List.map_map]
  exact List.map_congr_left fun x _ => hp x
 rw [this]
theorem seal1_msK {k : Nat} (hH : H[id]? = some (.blk s (l.map c))) (hp : ∀ x, (c x).map (sealC H 0 5) = c x) : seal1 H 0 (.ms id l.length 0 k) = .sl false ((l.take k).map c) := by
 simp only [seal1, Nat.not_lt_zero, if_false, sealDepth, sealC, Nat.zero_le, if_true, rd, hH, List.length_map, List.drop_zero]
 congr 1
 rw [← List.map_take, List.map_map]
 exact List.map_congr_left fun x _ => hp x
theorem frz_ms [GlobT] {P : Program} {cf : Nat → Nat → List AV → Heap → Option (AV × Heap)} (hH : H[id]? = some (.blk s (l.map c))) (hfl : fl ≤ id) (hp : ∀ x, (c x).map toP = c x) :
  evOp P cf fl (.freeze (.tmp 0)) [.ms id l.length 0 l.length] H = some (.sl false (l.map c), H.set id (.blk s (l.map c ++ [List.replicate s .undef]))) := by
 have h1 : (l.map c).length = l.length := by simp
 simp only [evOp, getOpd, List.getElem?_cons_zero, hfl, if_true, hH, h1, List.drop_zero]
 rw [List.take_of_length_le (by omega)]
 have : (l.map c).map (fun e => e.map toP) = l.map c := by
  rw [List.map_map]
  exact List.map_congr_left fun x _ => hp x
 rw [this]
theorem seal1_ms (hH : H[id]? = some (.blk s (l.map c))) (hp : ∀ x, (c x).map (sealC H 0 5) = c x) : seal1 H 0 (.ms id l.length 0 l.length) = .sl false (l.map c) := by
 have h1 : (l.map c).length = l.length := by simp
 simp only [seal1, Nat.not_lt_zero, if_false, sealDepth, sealC, Nat.zero_le, if_true, rd, hH, h1, List.drop_zero]
 rw [List.take_of_length_le (by omega)]
 congr 1
 rw [List.map_map]
 exact List.map_congr_left fun x _ => hp x
theorem clean_map {n : Nat} (hp : ∀ x, (c x).map (clean1 n) = c x) : (l.map c).map (fun e => e.map (clean1 n)) = l.map c := by
 rw [List.map_map]
 exact List.map_congr_left fun x _ => hp x
theorem ld_ms [GlobT] {P : Program} {cf : Nat → Nat → List AV → Heap → Option (AV × Heap)} {off n k : Nat} {agg : Bool} {v : AV} (h : idxK l k i = some x) (hH : H[id]? = some (.blk s (l.map c))) (ho : off + n ≤ (c x).length)
  (hv : (if agg then some (AV.agg (((c x).drop off).take n)) else match ((c x).drop off).take n with | [y] => some y | _ => none) = some v) :
  evOp P cf fl (.load agg n (.tmp 0)) [.ptr id l.length (0 + i.toNat) off] H = some (v, H) := by
 obtain ⟨h1, h2, h3, h5⟩ := idxK_some h
 have h4 : (l.map c)[0 + i.toNat]? = some (c x) := by simp [h3]
 simp only [evOp, getOpd, List.getElem?_cons_zero, ldCells, hH, List.length_map, if_true, h4, ho]
 cases agg with
 | true => simp only [if_true] at hv ⊢; cases hv; rfl
 | false =>
  simp only [Bool.false_eq_true, if_false] at hv ⊢
  split at hv
  ·rename_i y hy
   cases hv
   rw [hy]
  ·cases hv
end
end Go.Proofs.YtmflphfmefakfaaGreatDoor.Av
namespace Go.Proofs.YtmflphfmefakfaaGreatDoor.Av
open Go
section
variable {K V : Type} [DecidableEq K]
def mget (m : List (K × V)) (k : K) : Option V := match m with
 | [] => none
 | (k', v) :: r => if k' = k then some v else mget r k
def mput (m : List (K × V)) (k : K) (v : V) : List (K × V) := match m with
 | [] => [(k, v)]
 | (k', v') :: r => if k' = k then (k, v) :: r else (k', v') :: mput r k v
theorem mget_put [GlobT] (k k' : K) (v : V) : ∀ m : List (K × V), mget (mput m k v) k' = if k = k' then some v else mget m k'
 | [] => by simp [mput, mget]
 | (a, b) :: r => by
  simp only [mput]
  split
  ·rename_i h
   subst h
   simp only [mget]
   split <;> rfl
  ·rename_i h
   simp only [mget, mget_put k k' v r]
   split
   ·rename_i h1
    subst h1
    rw [if_neg fun h2 => h h2.symm]
   ·rfl
def entL (kv : K → Value) (va : V → AV) (m : List (K × V)) : List (Value × AV) := m.map fun p => (kv p.1, va p.2)
structure KeyOK (P : Program) (kt : TypeId) (kv : K → Value) : Prop where
 find : ∀ (k : K) (ks : List K), findA P kt (kv k) (ks.map fun x => (kv x, AV.undef)) = some (ks.findIdx? fun x => decide (x = k))
 chk : ∀ (e : Bool) (k : K), pureRun P (Instr.checkKey e 10000 kt (kv k)) = some ()
 same : ∀ k : K, Instr.sameBits 10000 (kv k) (kv k) = true
theorem findA_vals {P : Program} {kt : TypeId} {k : Value} {e1 e2 : List (Value × AV)} (h : e1.map (·.1) = e2.map (·.1)) : findA P kt k e1 = findA P kt k e2 := by
 unfold findA
 have : (e1.map fun e => ({ key := e.1, val := .bool false, born := 0 } : MapEntry)) = e2.map fun e => { key := e.1, val := .bool false, born := 0 } := by
  have e : ∀ l : List (Value × AV), (l.map fun e => ({ key := e.1, val := .bool false, born := 0 } : MapEntry)) = (l.map (·.1)).map fun k => { key := k, val := .bool false, born := 0 } := fun l => by simp
  rw [e, e, h]
 rw [this]
theorem find_ent [GlobT] {P : Program} {kt : TypeId} {kv : K → Value} (hk : KeyOK P kt kv) (va : V → AV) (k : K) (m : List (K × V)) : findA P kt (kv k) (entL kv va m) = some (m.findIdx? fun p => decide (p.1 = k)) := by
 rw [findA_vals (e2 := (m.map (·.1)).map fun x => (kv x, AV.undef)) (by simp [entL]), hk.find]
 congr 1
 rw [List.findIdx?_map]
 rfl
theorem mget_idx [GlobT] (k : K) : ∀ m : List (K × V), (mget m k = none ∧ m.findIdx? (fun p => decide (p.1 = k)) = none) ∨ ∃ i v, mget m k = some v ∧ m.findIdx? (fun p => decide (p.1 = k)) = some i ∧ m[i]? = some (k, v)
 | [] => .inl ⟨rfl, rfl⟩
 | (a, b) :: r => by
  simp only [mget, List.findIdx?_cons]
  by_cases h : a = k
  ·subst h
   exact .inr ⟨0, b, by simp, by simp, rfl⟩
  ·rw [if_neg h, decide_eq_false h]
   simp only [Bool.false_eq_true, if_false]
   rcases mget_idx k r with ⟨h1, h2⟩ | ⟨i, v, h1, h2, h3⟩
   ·exact .inl ⟨h1, by simp [h2]⟩
   ·exact .inr ⟨i + 1, v, h1, by simp [h2], by simpa using h3⟩
theorem mput_idx [GlobT] (k : K) (v : V) : ∀ m : List (K × V), mput m k v = match m.findIdx? (fun p => decide (p.1 = k)) with | some i => m.set i (k, v) | none => m ++ [(k, v)]
 | [] => rfl
 | (a, b) :: r => by
  simp only [mput, List.findIdx?_cons]
  by_cases h : a = k
  ·subst h
   simp
  ·rw [if_neg h, decide_eq_false h, mput_idx k v r]
   simp only [Bool.false_eq_true, if_false]
   cases r.findIdx? fun p => decide (p.1 = k) with
   | none => simp
   | some i => simp
variable {P : Program} {cf : Nat → Nat → List AV → Heap → Option (AV × Heap)} {fl id : Nat} {H : Heap} {kt : TypeId} {kv : K → Value} {va : V → AV} {m : List (K × V)} {x : AV} {k : K}
theorem look_ok [GlobT] (hk : KeyOK P kt kv) (z : V) (hx : lits x = some (kv k)) (hH : H[id]? = some (.mp (entL kv va m))) : evOp P cf fl (.lookup kt (.tmp 2) (.tmp 0) (.tmp 1) false) [.mp id, x, va z] H = some (va ((mget m k).getD z), H) := by
 simp only [evOp, getOpd, List.getElem?_cons_zero, List.getElem?_cons_succ, hx, hH, hk.chk, find_ent hk]
 rcases mget_idx k m with ⟨h1, h2⟩ | ⟨i, v, h1, h2, h3⟩
 ·simp [h1, h2]
 ·have : (entL kv va m)[i]? = some (kv k, va v) := by simp [entL, h3]
  simp [h1, h2, this]
theorem look_ok2 [GlobT] (hk : KeyOK P kt kv) (z : V) (hx : lits x = some (kv k)) (hH : H[id]? = some (.mp (entL kv va m))) : evOp P cf fl (.lookup kt (.tmp 2) (.tmp 0) (.tmp 1) true) [.mp id, x, va z] H = some (.tup [va ((mget m k).getD z), bv (mget m k).isSome], H) := by
 simp only [evOp, getOpd, List.getElem?_cons_zero, List.getElem?_cons_succ, hx, hH, hk.chk, find_ent hk]
 rcases mget_idx k m with ⟨h1, h2⟩ | ⟨i, v, h1, h2, h3⟩
 ·simp [h1, h2]
 ·have : (entL kv va m)[i]? = some (kv k, va v) := by simp [entL, h3]
  simp [h1, h2, this]
theorem upd_ok [GlobT] (hk : KeyOK P kt kv) (v : V) (hx : lits x = some (kv k)) (hfl : fl ≤ id) (hH : H[id]? = some (.mp (entL kv va m))) : evOp P cf fl (.mapUpd kt (.tmp 0) (.tmp 1) (.tmp 2)) [.mp id, x, va v] H = some (.lit undefV, H.set id (.mp (entL kv va (mput m k v)))) := by
 simp only [evOp, getOpd, List.getElem?_cons_zero, List.getElem?_cons_succ, hx, hH, hk.chk, find_ent hk, hfl, if_true, mput_idx]
 rcases mget_idx k m with ⟨h1, h2⟩ | ⟨i, u, h1, h2, h3⟩
 ·simp [h2, entL]
 ·have : (entL kv va m)[i]? = some (kv k, va u) := by simp [entL, h3]
  simp only [h2, this, hk.same, if_true]
  simp [entL, List.map_set]
end
theorem clean_ent {K V : Type} {kv : K → Value} {va : V → AV} {n : Nat} {m : List (K × V)} (h : ∀ v, clean2 n (va v) = va v) : (entL kv va m).map (fun e => (e.1, clean2 n e.2)) = entL kv va m := by
 simp [entL, h]
theorem findNow_int [GlobT] (k : Int) : ∀ (ks : List Int) (i : Nat), Instr.findNow (.int .i64) (.int .i64 k) (ks.map fun x => { key := .int .i64 x, val := .bool false, born := 0 }) i = some ((ks.findIdx? fun x => decide (x = k)).map fun j => (i + j, .bool false))
 | [], i => rfl
 | x :: r, i => by
  simp only [List.map_cons, Instr.findNow, Instr.sameNow, if_true, List.findIdx?_cons]
  by_cases h : x = k
  ·subst h
   simp
  ·have h' : (k == x) = false := by simpa using fun e => h e.symm
   rw [decide_eq_false h, h']
   simp only [Bool.false_eq_true, if_false, findNow_int k r (i + 1)]
   cases r.findIdx? fun x => decide (x = k) with
   | none => rfl
   | some j => simp; omega
theorem key_int [GlobT] {P : Program} {kt : TypeId} (hu : pureRun P (underlying kt) = some (.int .i64)) : KeyOK P kt (fun k : Int => .int .i64 k) where
 find := fun k ks => by
  unfold findA
  simp only [Instr.findKey, pureRun_bind, hu, Option.bind_some, List.map_map, Function.comp_def, findNow_int, pureRun_pure]
  cases ks.findIdx? fun x => decide (x = k) with
  | none => rfl
  | some j => simp
 chk := fun e k => by
  rw [Instr.checkKey]
  simp only [pureRun_bind, hu, Option.bind_some]
  rfl
 same := fun k => by simp [Instr.sameBits]
theorem lenM_ok [GlobT] {K V : Type} {P : Program} {cf : Nat → Nat → List AV → Heap → Option (AV × Heap)} {fl id : Nat} {H : Heap} {kv : K → Value} {va : V → AV} {m : List (K × V)} (hH : H[id]? = some (.mp (entL kv va m))) : evOp P cf fl (.lenM (.tmp 0)) [.mp id] H = some (iv (m.length : Nat), H) := by
 simp only [evOp, getOpd, List.getElem?_cons_zero, hH]
 simp [entL]
end Go.Proofs.YtmflphfmefakfaaGreatDoor.Av
namespace Go.Proofs.YtmflphfmefakfaaGreatDoor.Av
open Go
abbrev U : AV := .undef
abbrev V : AV := .lit undefV
abbrev bt : AV := .lit (.bool true)
abbrev bf : AV := .lit (.bool false)
structure PZ where
 ps : List Prop
 ok : AllP ps
def Z0 : PZ := ⟨[], trivial⟩
def Z {p : Prop} (h : p) (r : PZ) : PZ := ⟨p :: r.ps, ⟨h, r.ok⟩⟩
theorem cnd_or {α : Type} {b : Bool} {x y r : α} (h : cnd b x y = r) : (b = true ∧ x = r) ∨ (b = false ∧ y = r) := by
 cases b with
 | true => exact .inl ⟨rfl, h⟩
 | false => exact .inr ⟨rfl, h⟩
theorem pv_z [GlobT] {P : Program} {T : List AFun} {n vi : Nat} {args : List AV} {r : AV} {F : AFun} (o : Orc) (L : List (AExit × St)) (M : List (Option Heap)) (hF : getF T vi = some F) (z : PZ) (h : oF P T n o L M F args = some (r, z.ps)) : pv P T (n + 1) vi args = some r := pv_o o L M hF h z.ok
theorem evF_z [GlobT] {P : Program} {T : List AFun} {n fl vi : Nat} {args : List AV} {H H' : Heap} {r : AV} {F : AFun} (o : Orc) (L : List (AExit × St)) (M : List (Option Heap)) (hF : getF T vi = some F) (z : PZ) (h : oE P T n o L M F fl args H = some (r, H', z.ps)) : evF P T (n + 1) fl vi args H = some (r, H') := evF_o o L M hF h z.ok
theorem next_z [GlobT] {P : Program} {cf : Nat → Nat → List AV → Heap → Option (AV × Heap)} {lf fl n m : Nat} {live : Option (List Bool)} {tr : Bool} {c : ACode} {st st' : St} {r : Option (AExit × St)} (o : Orc) (L : List (AExit × St)) (M : List (Option Heap)) (hn : Nat.ble fl n = true) (z : PZ) (h : oB P cf lf fl (headO live tr n) o L M c st = some (.normal, st', z.ps))
  (hc : cleanQ tr fl n st'.heap) (hr : evLoopH (headSt live tr fl n) (evC P cf lf fl c) m st' = r) : evLoopH (headSt live tr fl n) (evC P cf lf fl c) (m + 1) st = r := next_m o L M hn h z.ok hc hr
theorem last_z [GlobT] {P : Program} {cf : Nat → Nat → List AV → Heap → Option (AV × Heap)} {lf fl n m : Nat} {live : Option (List Bool)} {tr tr' : Bool} {lx lr : List Bool} {c : ACode} {st st' : St} {x : AExit} (o : Orc) (L : List (AExit × St)) (M : List (Option Heap)) (hn : Nat.ble fl n = true) (z : PZ) (h : oX P cf lf fl n lx lr tr o L M c st = some (x, st', z.ps))
  (hc : cleanX tr fl n x st'.heap) : maskR lx lr tr fl n (evLoopH (headSt live tr' fl n) (evC P cf lf fl c) (m + 1) st) = some (x, st') := last_m o L M hn h z.ok hc
theorem next_zV [GlobT] {P : Program} {cf : Nat → Nat → List AV → Heap → Option (AV × Heap)} {lf fl n m t : Nat} {live : List Bool} {c : ACode} {st st' : St} {r : Option (AExit × St)} (o : Orc) (L : List (AExit × St)) (M : List (Option Heap)) (hn : Nat.ble fl n = true) (z : PZ) (h : oB P cf lf fl (headVO live t n) o L M c st = some (.normal, st', z.ps))
  (hc : cleanQ true fl n st'.heap) (hr : evLoopH (headV live t fl n) (evC P cf lf fl c) m st' = r) : evLoopH (headV live t fl n) (evC P cf lf fl c) (m + 1) st = r := next_mV o L M hn h z.ok hc hr
theorem last_zV [GlobT] {P : Program} {cf : Nat → Nat → List AV → Heap → Option (AV × Heap)} {lf fl n m t : Nat} {live : List Bool} {lx lr : List Bool} {c : ACode} {st st' : St} {x : AExit} (o : Orc) (L : List (AExit × St)) (M : List (Option Heap)) (hn : Nat.ble fl n = true) (z : PZ) (h : oXV P cf lf fl n lx lr t o L M c st = some (x, st', z.ps))
  (hc : cleanX true fl n x st'.heap) : maskV lx lr t fl n (evLoopH (headV live t fl n) (evC P cf lf fl c) (m + 1) st) = some (x, st') := last_mV o L M hn h z.ok hc
def prdk (k n : Nat) : Option Nat := if k ≤ n then some (n - k) else none
theorem prdk_eq {k n m : Nat} (h : prdk k n = some m) : n = m + k := by
 unfold prdk at h
 split at h
 ·cases h; omega
 ·cases h
theorem callA_np {cf : Nat → Nat → List AV → Heap → Option (AV × Heap)} {fl vi : Nat} {args : List AV} {H H' : Heap} {r r' : AV} (hp : plainAll args = false) (hn : args.map nrm2 = args) (h : cf H.length vi args H = some (r, H')) (hr : seal3 H' H.length r = r') :
  callA cf fl true vi args H = some (r', H) := by
 subst hr
 unfold callA
 simp only [hp, hn, h]
def sat (s : ByteArray) (i : Int) : Option Int := if 0 ≤ i then (s.data.toList[i.toNat]?).map (fun b => (b.toNat : Int)) else none
theorem sat_some {s : ByteArray} {i b : Int} (h : sat s i = some b) : 0 ≤ i ∧ ∃ c : UInt8, s[i.toNat]? = some c ∧ b = (c.toNat : Int) := by
 unfold sat at h
 split at h
 ·rename_i hi
  simp only [Option.map_eq_some_iff] at h
  obtain ⟨c, h1, h2⟩ := h
  refine ⟨hi, c, ?_, h2.symm⟩
  rw [← h1]
  simp [getElem?_def, ByteArray.getElem_eq_getElem_data]
 ·cases h
def cutS (s : ByteArray) (lo hi : Int) : Option ByteArray := if 0 ≤ lo ∧ lo ≤ hi ∧ hi.toNat ≤ s.size then some (s.extract lo.toNat hi.toNat) else none
section
variable {P : Program} {cf : Nat → Nat → List AV → Heap → Option (AV × Heap)} {fl : Nat} {H : Heap} {t : TypeId} {s r : ByteArray} {i b lo hi : Int} {k : IntKind}
theorem pr_under (P : Program) (t : TypeId) {d : TypeDesc} (ht : P.underlying t = some d) {β : Type} (f : TypeDesc → Sem β) : pureRun P (underlying t >>= f) = pureRun P (f d) := by
 simp only [underlying]
 show pureRun P (Sem.program fun P => _) = _
 simp only [pureRun]
 show pureRun P ((match P.underlying t with | some d => pure d | none => stuck "no such type" : Sem TypeDesc).bind f) = _
 rw [ht]
 rfl
theorem strIdx_ok [GlobT] (ht : P.underlying t = some .string) (h : sat s i = some b) : evOp P cf fl (.strIdx t (.tmp 0) (.tmp 1)) [sv s, iv i] H = some (.lit (.int .u8 b), H) := by
 obtain ⟨h1, c, h2, rfl⟩ := sat_some h
 have hp : pureRun P (Instr.index t (.string s) (.int .i64 i)) = some (.int .u8 c.toNat) := by
  unfold Instr.index
  show pureRun P (underlying t >>= _) = _
  rw [pr_under P t ht]
  simp only [h1, if_true, h2]
  rfl
 simp only [evOp, getOpd, List.getElem?_cons_zero, List.getElem?_cons_succ, hp]
theorem strCut11 [GlobT] (h : cutS s lo hi = some r) : evOp P cf fl (.strSlice t (.tmp 0) (some (.tmp 1)) (some (.tmp 2))) [sv s, iv lo, iv hi] H = some (sv r, H) := by
 unfold cutS at h
 split at h
 ·rename_i hc
  cases h
  have h0 : (0 : Int) ≤ hi := by omega
  have h1 : lo.toNat ≤ hi.toNat := by omega
  simp [evOp, getOpd, natOpt, natOf, hc.1, h0, h1, hc.2.2]
 ·cases h
theorem quo_ok [GlobT] {a d : Int} (hd : d ≠ 0) : evOp P cf fl (.bin .quo t (.tmp 0) (.tmp 1)) [.lit (.int k a), .lit (.int k d)] H = some (.lit (.int k (k.wrap (a.tdiv d))), H) := by
 have h1 : pureRun P (eqGuard .quo t (.tmp 0) (.tmp 0) (.int k a) (.int k d)) = some () := rfl
 have h2 : pureRun P (binOp .quo t (.int k a) (.int k d)) = some (.int k (k.wrap (a.tdiv d))) := by
  simp [binOp, Op.intDiv, hd]
  rfl
 simp only [evOp, getOpd, List.getElem?_cons_zero, List.getElem?_cons_succ, lits, notNil, if_true, h1, h2]
theorem rem_ok [GlobT] {a d : Int} (hd : d ≠ 0) : evOp P cf fl (.bin .rem t (.tmp 0) (.tmp 1)) [.lit (.int k a), .lit (.int k d)] H = some (.lit (.int k (a.tmod d)), H) := by
 have h1 : pureRun P (eqGuard .rem t (.tmp 0) (.tmp 0) (.int k a) (.int k d)) = some () := rfl
 have h2 : pureRun P (binOp .rem t (.int k a) (.int k d)) = some (.int k (a.tmod d)) := by
  simp [binOp, Op.intDiv, hd]
  rfl
 simp only [evOp, getOpd, List.getElem?_cons_zero, List.getElem?_cons_succ, lits, notNil, if_true, h1, h2]
theorem idx_agg [GlobT] {α : Type} {c : α → List AV} {l : List α} {x : α} {s n : Nat} (h : idx l i = some x) (hc : ∀ x, (c x).length = s) (hn : l.length = n) (cs : List AV) (he : cs = l.flatMap c) :
  evOp P cf fl (.index true s n (.tmp 0) (.tmp 1)) [.agg cs, iv i] H = some (.agg (c x), H) := by
 obtain ⟨h1, h2, h3⟩ := idx_some h
 subst he
 have key : ∀ (l : List α) (k : Nat) (x : α), l[k]? = some x → ((l.flatMap c).drop (k * s)).take s = c x ∧ k * s + s ≤ (l.flatMap c).length := by
  intro l
  induction l with
  | nil => intro k x hx; simp at hx
  | cons y r ih =>
   intro k x hx
   cases k with
   | zero =>
    simp only [List.getElem?_cons_zero, Option.some.injEq] at hx
    subst hx
    constructor
    ·rw [Nat.zero_mul, List.drop_zero, List.flatMap_cons, List.take_append_of_le_length (by rw [hc]; exact Nat.le_refl _), List.take_of_length_le (by rw [hc]; exact Nat.le_refl _)]
    ·simp [hc]
   | succ k =>
    simp only [List.getElem?_cons_succ] at hx
    obtain ⟨k1, k2⟩ := ih k x hx
    constructor
    ·have e : (k + 1) * s = (c y).length + k * s := by rw [hc, Nat.add_mul]; omega
     rw [List.flatMap_cons, e, List.drop_append, List.drop_eq_nil_of_le (by omega)]
     have e2 : (c y).length + k * s - (c y).length = k * s := by omega
     rw [e2, List.nil_append]
     exact k1
    ·have e : (k + 1) * s = s + k * s := by rw [Nat.add_mul]; omega
     rw [List.flatMap_cons, List.length_append, hc]
     omega
 obtain ⟨k1, k2⟩ := key l i.toNat x h2
 have hlt : i.toNat < n := by omega
 have hno : natOf (iv i) = some i.toNat := by simp [natOf, h1]
 simp only [evOp, getOpd, List.getElem?_cons_zero, List.getElem?_cons_succ, hno, hlt, if_true, k2, k1]
theorem mov_b [GlobT] {tm : List AV} {x : AOpd} {b r : Bool} (hx : getOpd tm x = .lit (.bool b)) (h : b = r) : evOp P cf fl (.mov x) tm H = some (.lit (.bool r), H) := by
 subst h
 simp only [evOp, hx]
theorem next_t [GlobT] {id : Nat} {p : Nat} (hH : H[id]? = some (.raw (.stringIter s p))) (hf : fl ≤ id) (hp : decide (p < s.size) = true) :
  evOp P cf fl (.nextStr (.tmp 0)) [.it id] H = some (.tup [.lit (.bool true), .lit (.int .i64 p), .lit (.int .i32 (Utf8.decode s p).1)], H.set id (.raw (.stringIter s (p + (Utf8.decode s p).2)))) := by
 have hp' : p < s.size := of_decide_eq_true hp
 simp [evOp, getOpd, hf, hH, hp']
theorem next_f [GlobT] {id : Nat} {p : Nat} (hH : H[id]? = some (.raw (.stringIter s p))) (hf : fl ≤ id) (hp : decide (p < s.size) = false) :
  evOp P cf fl (.nextStr (.tmp 0)) [.it id] H = some (.tup [.lit (.bool false)], H) := by
 have hp' : ¬ p < s.size := of_decide_eq_false hp
 simp [evOp, getOpd, hf, hH, hp']
end
end Go.Proofs.YtmflphfmefakfaaGreatDoor.Av
namespace Go.Proofs.YtmflphfmefakfaaGreatDoor.Av
open Go
section
variable {P : Program} {cf cf' : Nat → Nat → List AV → Heap → Option (AV × Heap)}
def Le (cf cf' : Nat → Nat → List AV → Heap → Option (AV × Heap)) : Prop := ∀ fl vi args H x, cf fl vi args H = some x → cf' fl vi args H = some x
theorem callA_mono (h : Le cf cf') {fl vi : Nat} {pu : Bool} {args : List AV} {H : Heap} {x : AV × Heap} (hx : callA cf fl pu vi args H = some x) : callA cf' fl pu vi args H = some x := by
 unfold callA at hx ⊢
 cases pu with
 | true =>
  simp only at hx ⊢
  cases hp : plainAll args with
  | true =>
   rw [hp] at hx
   simp only at hx ⊢
   split at hx
   ·rename_i r H' he; rw [h _ _ _ _ _ he]; exact hx
   ·cases hx
  | false =>
   rw [hp] at hx
   simp only at hx ⊢
   split at hx
   ·rename_i r H' he; rw [h _ _ _ _ _ he]; exact hx
   ·cases hx
 | false => exact h _ _ _ _ _ hx
theorem evOp_mono [GlobT] (h : Le cf cf') {fl : Nat} {op : AOp} {tm : List AV} {H : Heap} {x : AV × Heap} (hx : evOp P cf fl op tm H = some x) : evOp P cf' fl op tm H = some x := by
 cases op with
 | call pu vi args => exact callA_mono h hx
 | callv pu y args =>
  simp only [evOp] at hx ⊢
  split at hx
  ·rename_i vi caps he
   exact callA_mono h hx
  ·cases hx
 | callF vi args => exact h _ _ _ _ _ hx
 | callS vi args =>
  simp only [evOp] at hx ⊢
  split at hx
  ·rename_i r H1 he
   rw [h _ _ _ _ _ he]; exact hx
  ·cases hx
 | _ => exact hx
theorem evOper_mono [GlobT] (h : Le cf cf') {fl : Nat} {o : AOper} {st st' : St} (hx : evOper P cf fl o st = some st') : evOper P cf' fl o st = some st' := by
 unfold evOper at hx ⊢
 split at hx
 ·split at hx
  ·rename_i v H he
   rw [evOp_mono h he]; exact hx
  ·cases hx
 ·exact hx
 ·cases hx
theorem evOps_mono [GlobT] (h : Le cf cf') {fl : Nat} : ∀ (l : List AOper) {st st' : St}, evOps P cf fl l st = some st' → evOps P cf' fl l st = some st'
 | [], _, _, hx => hx
 | o :: r, st, st', hx => by
  simp only [evOps] at hx ⊢
  split at hx
  ·rename_i s1 he
   rw [evOper_mono h he]; exact evOps_mono h r hx
  ·cases hx
theorem evOpsL_mono [GlobT] (h : Le cf cf') {fl : Nat} : ∀ (l : List AOper) {st : St} {q : List St}, evOpsL P cf fl l st = some q → evOpsL P cf' fl l st = some q
 | [], _, _, hx => hx
 | o :: r, st, q, hx => by
  simp only [evOpsL] at hx ⊢
  split at hx
  ·rename_i s1 he
   rw [evOper_mono h he]
   simp only
   split at hx
   ·rename_i l1 h1
    rw [evOpsL_mono h r h1]; exact hx
   ·cases hx
  ·cases hx
theorem evReg_mono [GlobT] (h : Le cf cf') {fl : Nat} {ck : List (Nat × Nat)} {ops : List AOper} {st st' : St} (hx : evReg P cf fl ck ops st = some st') : evReg P cf' fl ck ops st = some st' := by
 cases ck with
 | nil => exact evOps_mono h ops hx
 | cons c r =>
  simp only [evReg] at hx ⊢
  split at hx
  ·rename_i l he
   rw [evOpsL_mono h ops he]; exact hx
  ·cases hx
theorem evLoop_mono [GlobT] {head : St → St} {step step' : St → Option (AExit × St)} (hs : ∀ st x, step st = some x → step' st = some x) : ∀ (n m : Nat) (st : St) (x : AExit × St), n ≤ m → evLoop head step n st = some x → evLoop head step' m st = some x
 | 0, _, _, _, _, hx => by cases hx
 | n + 1, m, st, x, hnm, hx => by
  obtain ⟨m, rfl⟩ : ∃ q, m = q + 1 := ⟨m - 1, by omega⟩
  simp only [evLoop] at hx ⊢
  cases he : step (head st) with
  | none => rw [he] at hx; cases hx
  | some r =>
   rw [he] at hx
   rw [hs _ _ he]
   obtain ⟨y, s⟩ := r
   cases y with
   | normal => exact evLoop_mono hs n m s x (by omega) hx
   | exit i => exact hx
   | ret => exact hx
theorem maskR_mono {lx lr : List Bool} {tr : Bool} {fl n : Nat} {r r' : Option (AExit × St)} {x : AExit × St} (h : ∀ y, r = some y → r' = some y) (hx : maskR lx lr tr fl n r = some x) : maskR lx lr tr fl n r' = some x := by
 cases r with
 | none => cases hx
 | some y => rw [h y rfl]; exact hx
theorem maskV_mono [GlobT] {lx lr : List Bool} {t fl n : Nat} {r r' : Option (AExit × St)} {x : AExit × St} (h : ∀ y, r = some y → r' = some y) (hx : maskV lx lr t fl n r = some x) : maskV lx lr t fl n r' = some x := by
 cases r with
 | none => cases hx
 | some y => rw [h y rfl]; exact hx
theorem evC_mono [GlobT] (h : Le cf cf') {lf lf' fl : Nat} (hl : lf ≤ lf') : ∀ (c : ACode) (st : St) (x : AExit × St), evC P cf lf fl c st = some x → evC P cf' lf' fl c st = some x
 | .skip, _, _, hx => hx
 | .exit _, _, _, hx => hx
 | .ret, _, _, hx => hx
 | .stop, _, _, hx => hx
 | .region _ ck ops, st, x, hx => by
  simp only [evC] at hx ⊢
  split at hx
  ·rename_i s1 he
   rw [evReg_mono h he]; exact hx
  ·cases hx
 | .seq a b, st, x, hx => by
  simp only [evC] at hx ⊢
  cases he : evC P cf lf fl a st with
  | none => rw [he] at hx; cases hx
  | some r =>
   rw [he] at hx
   rw [evC_mono h hl a st r he]
   obtain ⟨y, s⟩ := r
   cases y with
   | normal => exact evC_mono h hl b s x hx
   | exit i => exact hx
   | ret => exact hx
 | .cond c a b, st, x, hx => by
  simp only [evC] at hx ⊢
  split at hx
  ·exact evC_mono h hl a st x hx
  ·exact evC_mono h hl b st x hx
  ·cases hx
 | .block id c, st, x, hx => by
  simp only [evC] at hx ⊢
  cases he : evC P cf lf fl c st with
  | none => rw [he] at hx; cases hx
  | some r =>
   rw [he] at hx
   rw [evC_mono h hl c st r he]
   exact hx
 | .loop live tr c, st, x, hx => by
  simp only [evC] at hx ⊢
  exact evLoop_mono (fun st x hs => evC_mono h hl c st x hs) lf lf' st x hl hx
 | .frz t c, st, x, hx => by
  simp only [evC] at hx ⊢
  split at hx
  ·rename_i v H he
   rw [evOp_mono h he]
   exact evC_mono h hl c _ x hx
  ·cases hx
 | .mask lx lr tr c, st, x, hx => by
  simp only [evC] at hx ⊢
  exact maskR_mono (fun y hy => evC_mono h hl c st y hy) hx
 | .scope c, st, x, hx => by
  simp only [evC] at hx ⊢
  exact evC_mono h hl c st x hx
 | .nilIf t d0 d1 a b, st, x, hx => by
  simp only [evC] at hx ⊢
  split at hx
  ·split at hx
   ·cases he : evC P cf lf fl a ⟨nilTm st.tmps t d0 d1 true, st.heap⟩ with
    | none => rw [he] at hx; cases hx
    | some r => rw [he] at hx; rw [evC_mono h hl a _ r he]; exact hx
   ·exact evC_mono h hl b _ x hx
   ·split at hx
    ·cases he : evC P cf lf fl a ⟨nilTm st.tmps t d0 d1 true, st.heap⟩ with
     | none => rw [he] at hx; cases hx
     | some r =>
      cases he2 : evC P cf lf fl b ⟨nilTm st.tmps t d0 d1 false, st.heap⟩ with
      | none => rw [he, he2] at hx; obtain ⟨y, s⟩ := r; cases y <;> cases hx
      | some r2 => rw [he, he2] at hx; rw [evC_mono h hl a _ r he, evC_mono h hl b _ r2 he2]; exact hx
    ·cases hx
   ·cases hx
  ·cases hx
 | .loopV live lx lr t c, st, x, hx => by
  simp only [evC] at hx ⊢
  split at hx
  ·rename_i s1 he
   exact maskV_mono (fun y hy => evLoop_mono (fun st x hs => evC_mono h hl c st x hs) lf lf' s1 y hl hy) hx
  ·cases hx
end
theorem evF_le [GlobT] (P : Program) (T : List AFun) : ∀ n, Le (evF P T n) (evF P T (n + 1))
 | 0 => fun _ _ _ _ _ h => by cases h
 | n + 1 => fun fl vi args H x hx => by
  rw [evF] at hx ⊢
  split at hx
  ·exact hx
  split at hx
  ·cases hx
  ·rename_i F hF
   cases he : evC P (evF P T n) n fl F.body ⟨args ++ List.replicate (F.nt - args.length) (.lit undefV), H⟩ with
   | none => rw [he] at hx; cases hx
   | some r =>
    rw [he] at hx
    rw [evC_mono (evF_le P T n) (Nat.le_succ n) F.body _ r he]
    exact hx
theorem evF_mono [GlobT] {P : Program} {T : List AFun} {n m fl vi : Nat} {args : List AV} {H : Heap} {x : AV × Heap} (hnm : n ≤ m) (hx : evF P T n fl vi args H = some x) : evF P T m fl vi args H = some x := by
 induction hnm with
 | refl => exact hx
 | step _ ih => exact evF_le P T _ _ _ _ _ _ ih
theorem pv_mono [GlobT] {P : Program} {T : List AFun} {n m vi : Nat} {args : List AV} {r : AV} (hnm : n ≤ m) (hx : pv P T n vi args = some r) : pv P T m vi args = some r := by
 unfold pv at hx ⊢
 split at hx
 ·rename_i r' H' he
  rw [evF_mono hnm he]; exact hx
 ·cases hx
def eqVal : Value → Value → Bool
 | .int k a, .int k' b => k == k' && (match Int.decEq a b with | .isTrue _ => true | .isFalse _ => false)
 | .bool a, .bool b => a == b
 | .string a, .string b => decide (a = b)
 | .slice none 0 0, .slice none 0 0 => true
 | .pointer none, .pointer none => true
 | .map none, .map none => true
 | _, _ => false
theorem eqVal_eq {v u : Value} (h : eqVal v u = true) : v = u := by
 unfold eqVal at h
 split at h
 ·rename_i k a k' b
  simp only [Bool.and_eq_true, beq_iff_eq] at h
  obtain ⟨rfl, h2⟩ := h
  split at h2
  ·rename_i e _; rw [e]
  ·cases h2
 ·rename_i a b; simp only [beq_iff_eq] at h; rw [h]
 ·rename_i a b; rw [of_decide_eq_true h]
 ·rfl
 ·rfl
 ·rfl
 ·cases h
def eqL {α : Type} (f : α → α → Bool) : List α → List α → Bool
 | [], [] => true
 | x :: r, y :: s => match f x y with
  | true => eqL f r s
  | false => false
 | _, _ => false
theorem eqL_eq [GlobT] {α : Type} {f : α → α → Bool} (hf : ∀ x y, f x y = true → x = y) : ∀ (l m : List α), eqL f l m = true → l = m
 | [], [], _ => rfl
 | x :: r, y :: s, h => by
  simp only [eqL] at h
  split at h
  ·rename_i he
   rw [hf x y he, eqL_eq hf r s h]
  ·cases h
 | [], _ :: _, h => by cases h
 | _ :: _, [], h => by cases h
def eqAV : Nat → AV → AV → Bool
 | 0, _, _ => false
 | d + 1, x, y => match x with
  | .lit v => match y with
   | .lit u => eqVal v u
   | _ => false
  | .sl f es => match y with
   | .sl g fs => f == g && eqL (eqL (eqAV d)) es fs
   | _ => false
  | .agg cs => match y with
   | .agg ds => eqL (eqAV d) cs ds
   | _ => false
  | .fn v [] => match y with
   | .fn u [] => Nat.beq v u
   | _ => false
  | .undef => match y with
   | .undef => true
   | _ => false
  | _ => false
theorem eqAV_eq [GlobT] : ∀ (d : Nat) (x y : AV), eqAV d x y = true → x = y
 | 0, _, _, h => by cases h
 | d + 1, x, y, h => by
  have ih := eqAV_eq d
  unfold eqAV at h
  split at h
  ·split at h
   ·rw [eqVal_eq h]
   ·cases h
  ·split at h
   ·simp only [Bool.and_eq_true, beq_iff_eq] at h
    rw [h.1, eqL_eq (eqL_eq ih) _ _ h.2]
   ·cases h
  ·split at h
   ·rw [eqL_eq ih _ _ h]
   ·cases h
  ·split at h
   ·rw [Nat.eq_of_beq_eq_true h]
   ·cases h
  ·split at h
   ·rfl
   ·cases h
  ·cases h
abbrev Memo := List (Nat × Nat × List AV × AV)
def lookM (n vi : Nat) (args : List AV) : Memo → Option AV
 | [] => none
 | (b, w, as, r) :: m => match Nat.beq vi w with
  | true => match Nat.ble b n with
   | true => match eqL (eqAV 9) args as with
    | true => some r
    | false => lookM n vi args m
   | false => lookM n vi args m
  | false => lookM n vi args m
def MemoOK [GlobT] (P : Program) (T : List AFun) : Memo → Prop
 | [] => True
 | (b, w, as, r) :: m => pv P T b w as = some r ∧ MemoOK P T m
theorem lookM_pv [GlobT] {P : Program} {T : List AFun} {n vi : Nat} {args : List AV} {r : AV} : ∀ (M : Memo), MemoOK P T M → lookM n vi args M = some r → pv P T n vi args = some r
 | [], _, h => by cases h
 | (b, w, as, r') :: m, hM, h => by
  simp only [lookM] at h
  split at h
  ·rename_i h1
   split at h
   ·rename_i h2
    split at h
    ·rename_i h3
     cases h
     have e1 := Nat.eq_of_beq_eq_true h1
     have e2 := eqL_eq (eqAV_eq 9) _ _ h3
     subst e1 e2
     exact pv_mono (Nat.le_of_ble_eq_true h2) hM.1
    ·exact lookM_pv m hM.2 h
   ·exact lookM_pv m hM.2 h
  ·exact lookM_pv m hM.2 h
end Go.Proofs.YtmflphfmefakfaaGreatDoor.Av
