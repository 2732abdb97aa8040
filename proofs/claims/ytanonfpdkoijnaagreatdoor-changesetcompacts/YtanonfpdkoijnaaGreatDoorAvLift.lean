/- A part of the proof of ChangesetCompactsCardSaid: an evaluator of the program, proved sound, and what it says. -/
import Derived.Test.YtanonfpdkoijnaaGreatDoorAvOrc
namespace Go.Proofs.YtanonfpdkoijnaaGreatDoor.Av
open Go

abbrev iv (n : Int) : AV := .lit (.int .i64 n)
abbrev bv (b : Bool) : AV := .lit (.bool b)
abbrev sv (s : ByteArray) : AV := .lit (.string s)

def bnd {α β : Type} (x : Option α) (f : α → Option β) : Option β := match x with
  | some a => f a
  | none => none
theorem bnd_some {α β : Type} {x : Option α} {f : α → Option β} {r : β} (h : bnd x f = some r) : ∃ a, x = some a ∧ f a = some r := by
  cases x with
  | none => cases h
  | some a => exact ⟨a, rfl, h⟩
theorem bnd_of {α β : Type} {x : Option α} {f : α → Option β} {a : α} (h : x = some a) : bnd x f = f a := by rw [h]; rfl

def bnd2 {α β γ : Type} (x : Option (α ⊕ β)) (f : α → Option γ) (g : β → Option γ) : Option γ := match x with
  | some (.inl a) => f a
  | some (.inr b) => g b
  | none => none
theorem bnd2_some {α β γ : Type} {x : Option (α ⊕ β)} {f : α → Option γ} {g : β → Option γ} {r : γ} (h : bnd2 x f g = some r) : (∃ a, x = some (.inl a) ∧ f a = some r) ∨ (∃ a, x = some (.inr a) ∧ g a = some r) := by
  match x, h with
  | some (.inl a), h => exact .inl ⟨a, rfl, h⟩
  | some (.inr a), h => exact .inr ⟨a, rfl, h⟩

def cnd {α : Type} (b : Bool) (x y : α) : α := match b with
  | true => x
  | false => y
theorem cnd_t {α : Type} {b : Bool} {x y : α} (h : b = true) : x = cnd b x y := by rw [h]; rfl
theorem cnd_f {α : Type} {b : Bool} {x y : α} (h : b = false) : y = cnd b x y := by rw [h]; rfl
theorem cnd_ite {α : Type} {b : Bool} {x y : α} : cnd b x y = if b then x else y := by cases b <;> rfl

theorem bool_eq {e b : Bool} (h : e = b) : some (AV.lit (.bool e)) = some (AV.lit (.bool b)) := by rw [h]

theorem pv_evF [GlobT] {P : Program} {T : List AFun} {n vi : Nat} {args : List AV} {r r' : AV} {H' : Heap} (h : evF P T n 0 vi args [] = some (r, H')) (hs : seal3 H' 0 r = r') : pv P T n vi args = some r' := by
  unfold pv; rw [h, ← hs]

def imax (a b : Int) : Int := if a < b then b else a
def imin (a b : Int) : Int := if b < a then b else a

theorem str_beq (a b : ByteArray) : (a.toList == b.toList) = decide (a = b) := by
  by_cases h : a = b
  · subst h; simp
  · rw [decide_eq_false h]
    simp only [beq_eq_false_iff_ne, ne_eq]
    intro e
    apply h
    simp only [ByteArray.toList_eq] at e
    exact ByteArray.ext (Array.toList_inj.1 e)
section
variable {P : Program} {cf : Nat → Nat → List AV → Heap → Option (AV × Heap)} {fl : Nat} {H : Heap} {t : TypeId} {a b : ByteArray} {r : Bool}
theorem c_str_eql [GlobT] (h : decide (a = b) = r) : evOp P cf fl (.bin .eql t (.tmp 0) (.tmp 1)) [sv a, sv b] H = some (bv r, H) := by
  simp only [evOp, getOpd, List.getElem?_cons_zero, List.getElem?_cons_succ, lits, notNil, if_true, pr_gs, pr_seq, str_beq, h]
theorem c_str_neq [GlobT] (h : decide (a = b) = r) : evOp P cf fl (.bin .neq t (.tmp 0) (.tmp 1)) [sv a, sv b] H = some (bv (!r), H) := by
  simp only [evOp, getOpd, List.getElem?_cons_zero, List.getElem?_cons_succ, lits, notNil, if_true, pr_gs, pr_sne, str_beq, h]
end

/-- An element by its index. -/
def idx {α : Type} (l : List α) (i : Int) : Option α := if 0 ≤ i then l[i.toNat]? else none
theorem idx_nat {α : Type} (l : List α) (i : Nat) : idx l (i : Int) = l[i]? := by simp [idx]
theorem idx_some {α : Type} {l : List α} {i : Int} {x : α} (h : idx l i = some x) : 0 ≤ i ∧ l[i.toNat]? = some x ∧ i.toNat < l.length := by
  unfold idx at h
  split at h
  · rename_i hi
    refine ⟨hi, h, ?_⟩
    rcases Nat.lt_or_ge i.toNat l.length with h1 | h1
    · exact h1
    · rw [List.getElem?_eq_none h1] at h; cases h
  · cases h

section
variable {α : Type} {c : α → List AV} {H : Heap} {fl id s : Nat} {l l' m : List α} {i : Int} {x : α} {f : Bool}

theorem idxl [GlobT] (h : idx l i = some x) (hs : (c x).length = s) : idxA H s (.sl f (l.map c)) (.lit (.int .i64 i)) = some (.rptr (c x)) := by
  obtain ⟨h1, h2, _⟩ := idx_some h
  simp [idxA, natOf, h1, h2, hs]

/-- An element of the first k. -/
def idxK {α : Type} (l : List α) (k : Nat) (i : Int) : Option α := if 0 ≤ i ∧ i.toNat < k then l[i.toNat]? else none
theorem idxK_some {k : Nat} (h : idxK l k i = some x) : 0 ≤ i ∧ i.toNat < k ∧ l[i.toNat]? = some x ∧ i.toNat < l.length := by
  unfold idxK at h
  split at h
  · rename_i hi
    refine ⟨hi.1, hi.2, h, ?_⟩
    rcases Nat.lt_or_ge i.toNat l.length with h1 | h1
    · exact h1
    · rw [List.getElem?_eq_none h1] at h; cases h
  · cases h

theorem idx_ms [GlobT] {k : Nat} (h : idxK l k i = some x) (hH : H[id]? = some (.blk s (l.map c))) : idxA H s (.ms id l.length 0 k) (.lit (.int .i64 i)) = some (.ptr id l.length (0 + i.toNat) 0) := by
  obtain ⟨h1, h2, _, _⟩ := idxK_some h
  simp [idxA, natOf, h1, hH, h2]

theorem len_sl [GlobT] {P : Program} {cf : Nat → Nat → List AV → Heap → Option (AV × Heap)} : evOp P cf fl (.lenS (.tmp 0)) [.sl f (l.map c)] H = some (iv l.length, H) := by
  show some (AV.lit (.int .i64 ((l.map c).length : Nat)), H) = _
  rw [List.length_map]

/-- What is appended; lists of more than a million elements are not followed. -/
def app {α : Type} (l m : List α) : Option (List α) := if l.length + m.length ≤ 1000000 then some (l ++ m) else none
theorem app_some (h : app l m = some l') : l' = l ++ m ∧ l.length + m.length ≤ 1000000 := by
  unfold app at h
  split at h
  · cases h; exact ⟨rfl, by assumption⟩
  · cases h
theorem app_of (h : l.length + m.length ≤ 1000000) : app l m = some (l ++ m) := by simp [app, h]

theorem allLen_map (hc : ∀ x, (c x).length = s) : allLen s (l.map c) = true := by
  simp [allLen, hc]

theorem app_ms [GlobT] {bytes : Nat} (h : app l m = some l') (hH : H[id]? = some (.blk s (l.map c))) (hc : ∀ x, (c x).length = s) (hs : 0 < s) (hb : bytes ≤ 100000) (hfl : fl ≤ id) :
    appendA fl H s bytes (.ms id l.length 0 l.length) (m.map c) = some (.ms id l'.length 0 l'.length, H.set id (.blk s (l'.map c))) := by
  obtain ⟨rfl, hl⟩ := app_some h
  have hmul : ∀ a, a ≤ 1000000 → a * bytes ≤ 2 ^ 40 := by
    intro a ha
    have := Nat.mul_le_mul ha hb
    omega
  have h1 := appendA_ms (fl := fl) (bytes := bytes) (tot := l.length) (ys := m.map c) hH (by simp) (allLen_map hc) hs (by simp [room]; exact ⟨hmul _ (by omega), by omega⟩) (by simp [room]; exact ⟨hmul _ (by omega), by omega⟩) hfl
  rw [h1]
  simp

theorem app_new [GlobT] {bytes : Nat} (h : app l m = some l') (hm : m ≠ []) (hc : ∀ x, (c x).length = s) (hs : 0 < s) (hb : bytes ≤ 100000) :
    appendA fl H s bytes (.sl true (l.map c)) (m.map c) = some (.ms H.length l'.length 0 l'.length, H ++ [.blk s (l'.map c)]) := by
  obtain ⟨rfl, hl⟩ := app_some h
  have hmul : ∀ a, a ≤ 1000000 → a * bytes ≤ 2 ^ 40 := by
    intro a ha
    have := Nat.mul_le_mul ha hb
    omega
  have h0 : (m.map c).length ≠ 0 := by simpa using hm
  unfold appendA
  have r1 : room (m.map c).length bytes = true := by simp [room]; exact ⟨hmul _ (by omega), by omega⟩
  have r2 : room ((l.map c).length + (m.map c).length) bytes = true := by simp [room]; exact ⟨hmul _ (by omega), by omega⟩
  simp only [allLen_map hc, hs, r1, r2, h0, and_self, if_true, if_false]
  simp

/-- What is appended behind the first k elements of a list's memory. -/
def appK {α : Type} (l : List α) (k : Nat) (m : List α) : Option (List α) :=
  if k = l.length then app l m else if k + m.length ≤ l.length ∧ l.length ≤ 500000 then some (l.take k ++ (m ++ l.drop (k + m.length))) else none

theorem app_msK [GlobT] {bytes k : Nat} (h : appK l k m = some l') (hH : H[id]? = some (.blk s (l.map c))) (hc : ∀ x, (c x).length = s) (hs : 0 < s) (hb : bytes ≤ 100000) (hfl : fl ≤ id) :
    appendA fl H s bytes (.ms id l.length 0 k) (m.map c) = some (.ms id l'.length 0 (k + m.length), H.set id (.blk s (l'.map c))) := by
  unfold appK at h
  split at h
  · rename_i hk
    subst hk
    have := app_ms h hH hc hs hb hfl
    rw [this, (app_some h).1]
    simp
  · rename_i hk
    split at h
    · rename_i hl
      cases h
      have hlt : id < H.length := by
        rcases Nat.lt_or_ge id H.length with h | h
        · exact h
        · rw [List.getElem?_eq_none h] at hH; cases hH
      have hmul : ∀ a, a ≤ 1000000 → a * bytes ≤ 2 ^ 40 := by
        intro a ha
        have := Nat.mul_le_mul ha hb
        omega
      have r1 : room m.length bytes = true := by simp [room]; exact ⟨hmul _ (by omega), by omega⟩
      have r2 : room (l.length + m.length) bytes = true := by simp [room]; exact ⟨hmul _ (by omega), by omega⟩
      have hll : (l.take k ++ (m ++ l.drop (k + m.length))).length = l.length := by simp; omega
      unfold appendA
      simp only [allLen_map hc, hs, r1, r2, hH, List.length_map, hfl, and_self, if_true]
      by_cases h0 : m.length = 0
      · have : m = [] := List.length_eq_zero_iff.1 h0
        subst this
        simp only [List.length_nil, Nat.add_zero] at r1 r2
        simp only [List.length_nil, Nat.add_zero, List.nil_append, List.take_append_drop, if_true, Option.some.injEq, Prod.mk.injEq, true_and]
        apply List.ext_getElem?
        intro i
        rw [List.getElem?_set]
        split
        · rename_i hi; subst hi; first | exact hH | (rw [if_pos hlt]; exact hH)
        · rfl
      · rw [hll]
        have h1 : ¬ (0 = 0 ∧ k = l.length) := by omega
        have h2 : 0 + k + m.length ≤ l.length := by omega
        simp only [h0, h1, h2, if_true, if_false, splice, List.length_map, List.map_append, List.map_take, List.map_drop, Nat.zero_add, and_false, true_and, hk]
        rw [if_pos hl.1]
    · cases h

theorem app_e {bytes : Nat} {x : AV} (h : List.isEmpty m = true) (hc : ∀ x, (c x).length = s) (hs : 0 < s) (hx : x = .lit nilS ∨ x = .sl true []) : appendA fl H s bytes x (m.map c) = some (x, H) := by
  have : m = [] := List.isEmpty_iff.1 h
  subst this
  rcases hx with rfl | rfl <;> simp [appendA, allLen, hs, room, nilS]

theorem app_n [GlobT] {bytes : Nat} {x : AV} (h : app ([] : List α) m = some l') (he : List.isEmpty m = false) (hc : ∀ x, (c x).length = s) (hs : 0 < s) (hb : bytes ≤ 100000) (hx : x = .lit nilS ∨ x = .sl true []) :
    appendA fl H s bytes x (m.map c) = some (.ms H.length l'.length 0 l'.length, H ++ [.blk s (l'.map c)]) := by
  obtain ⟨e, hl⟩ := app_some h
  rw [List.nil_append] at e
  subst e
  have h0 : (l'.map c).length ≠ 0 := by
    intro h1
    have : l' = [] := by simpa using h1
    rw [this] at he
    simp at he
  have hmul : ∀ a, a ≤ 1000000 → a * bytes ≤ 2 ^ 40 := by
    intro a ha
    have := Nat.mul_le_mul ha hb
    omega
  simp only [List.length_nil, Nat.zero_add] at hl
  have r1 : room (l'.map c).length bytes = true := by simp [room]; exact ⟨hmul _ (by omega), by omega⟩
  rcases hx with rfl | rfl
  · unfold appendA nilS
    simp only [allLen_map hc, hs, r1, h0, and_self, if_true, if_false]
    simp only [List.length_map]
  · unfold appendA
    have ha : allLen s ([] : List (List AV)) = true := rfl
    simp only [allLen_map hc, hs, r1, h0, ha, and_self, if_true, if_false, List.length_nil, Nat.zero_add, List.nil_append]
    simp only [List.length_map]

theorem rd_ms (hH : H[id]? = some (.blk s (l.map c))) : rd H (.ms id l.length 0 l.length) = some (l.map c) := by
  have h1 : (l.map c).length = l.length := by simp
  simp only [rd, hH, h1, if_true, List.drop_zero]
  rw [List.take_of_length_le (by omega)]
theorem rd_msK {k : Nat} (hH : H[id]? = some (.blk s (l.map c))) : rd H (.ms id l.length 0 k) = some ((l.take k).map c) := by
  simp [rd, hH, List.map_take]
theorem rd_app {y : AV} {ys : List (List AV)} {bytes : Nat} {x : AV} {r : AV × Heap} (h : rd H y = some ys) (k : appendA fl H s bytes x ys = some r) : (match rd H y with | some ys => appendA fl H s bytes x ys | none => none) = some r := by
  rw [h]; exact k

/-- A store into an element. -/
theorem st_ms [GlobT] {P : Program} {cf : Nat → Nat → List AV → Heap → Option (AV × Heap)} {off n k : Nat} {x' : α} {v : AV} {cs : List AV} (h : idxK l k i = some x) (hH : H[id]? = some (.blk s (l.map c))) (hfl : fl ≤ id) (hv : cellsOf v = some cs) (hx : splice (c x) off (cs.map nrm) = c x') (hn : cs.length = n ∧ off + cs.length ≤ (c x).length) (hnrm : cs.map nrm = cs) :
    evOp P cf fl (.store n (.tmp 0) (.tmp 1)) [.ptr id l.length (0 + i.toNat) off, v] H = some (.lit undefV, H.set id (.blk s ((l.set i.toNat x').map c))) := by
  obtain ⟨h1, h2, h3, h4⟩ := idxK_some h
  have h5 : (l.map c)[0 + i.toNat]? = some (c x) := by simp [h3]
  rw [hnrm] at hx
  simp only [evOp, getOpd, List.getElem?_cons_zero, List.getElem?_cons_succ, hv, hn.1, if_true, stCells, hfl, hH, List.length_map, h5, hn.2, hx]
  have : (l.map c).set (0 + i.toNat) (c x') = (l.set i.toNat x').map c := by rw [Nat.zero_add, List.map_set]
  have h6 : off + n ≤ (c x).length := by have := hn.2; rw [hn.1] at this; exact this
  rw [this, if_pos h6]

def grd (b : Bool) : Option Unit := match b with
  | true => some ()
  | false => none
theorem grd_some {b : Bool} {u : Unit} (h : grd b = some u) : b = true := by cases b <;> first | rfl | cases h
def prd (n : Nat) : Option Nat := match n with
  | 0 => none
  | k + 1 => some k
theorem prd_eq {n k : Nat} (h : prd n = some k) : n = k + 1 := by
  cases n with
  | zero => cases h
  | succ n => cases h; rfl

/-- A part of a list. -/
def cut {α : Type} (l : List α) (lo hi : Int) : Option (List α) := if 0 ≤ lo ∧ lo ≤ hi ∧ hi ≤ l.length then some ((l.take hi.toNat).drop lo.toNat) else none

theorem headLen_map (hc : ∀ x, (c x).length = s) : headLen s (l.map c) = true := by
  cases l with
  | nil => rfl
  | cons x r => simp [headLen, hc]

theorem slice_sl_gen [GlobT] {lo hi : Option Nat} {L Hh : Nat} (hl : lo.getD 0 = L) (hh : hi.getD l.length = Hh) (h1 : L ≤ Hh) (h2 : Hh ≤ l.length) (hc : ∀ x, (c x).length = s) : sliceA H s (.sl false (l.map c)) lo hi none = some (.sl false (((l.take Hh).drop L).map c)) := by
  unfold sliceA
  simp only [List.length_map, hl, hh, h1, h2, headLen_map hc, and_self, if_true, Bool.false_and, List.map_drop, List.map_take]

section
variable {P : Program} {cf : Nat → Nat → List AV → Heap → Option (AV × Heap)} {lo hi : Int} {w y z : AV}
theorem slice_sl11 [GlobT] (h : cut l lo hi = some l') (hc : ∀ x, (c x).length = s) : evOp P cf fl (.slice s (.tmp 0) (some (.tmp 1)) (some (.tmp 2)) none) [.sl false (l.map c), iv lo, iv hi, z] H = some (.sl false (l'.map c), H) := by
  unfold cut at h
  split at h
  · rename_i hb
    cases h
    have h1 : (0 : Int) ≤ hi := by omega
    simp only [evOp, getOpd, natOpt, natOf, List.getElem?_cons_zero, List.getElem?_cons_succ, hb.1, h1, if_true]
    rw [slice_sl_gen (L := lo.toNat) (Hh := hi.toNat) rfl rfl (by omega) (by omega) hc]
  · cases h
theorem slice_sl10 [GlobT] (h : cut l lo ((l.length : Nat) : Int) = some l') (hc : ∀ x, (c x).length = s) : evOp P cf fl (.slice s (.tmp 0) (some (.tmp 1)) none none) [.sl false (l.map c), iv lo, y, z] H = some (.sl false (l'.map c), H) := by
  unfold cut at h
  split at h
  · rename_i hb
    cases h
    simp only [evOp, getOpd, natOpt, natOf, List.getElem?_cons_zero, List.getElem?_cons_succ, hb.1, if_true]
    rw [slice_sl_gen (L := lo.toNat) (Hh := l.length) rfl rfl (by omega) (by omega) hc]
    simp
  · cases h
theorem slice_sl01 [GlobT] (h : cut l 0 hi = some l') (hc : ∀ x, (c x).length = s) : evOp P cf fl (.slice s (.tmp 0) none (some (.tmp 2)) none) [.sl false (l.map c), w, iv hi, z] H = some (.sl false (l'.map c), H) := by
  unfold cut at h
  split at h
  · rename_i hb
    cases h
    have h1 : (0 : Int) ≤ hi := by omega
    simp only [evOp, getOpd, natOpt, natOf, List.getElem?_cons_zero, List.getElem?_cons_succ, h1, if_true]
    rw [slice_sl_gen (L := 0) (Hh := hi.toNat) rfl rfl (by omega) (by omega) hc]
    simp
  · cases h
theorem slice_sl00 [GlobT] (h : cut l 0 ((l.length : Nat) : Int) = some l') (hc : ∀ x, (c x).length = s) : evOp P cf fl (.slice s (.tmp 0) none none none) [.sl false (l.map c), w, y, z] H = some (.sl false (l'.map c), H) := by
  unfold cut at h
  split at h
  · cases h
    simp only [evOp, getOpd, natOpt, List.getElem?_cons_zero]
    rw [slice_sl_gen (L := 0) (Hh := l.length) rfl rfl (by omega) (by omega) hc]
    simp
  · cases h
theorem slice_00 [GlobT] {q : Option AOpd} (hc : ∀ x, (c x).length = s) (hq : q = none ∨ q = some (.tmp 1) := by first | exact .inl rfl | exact .inr rfl) (hw : q = some (.tmp 1) → w = iv 0 := by intro _; rfl) : evOp P cf fl (.slice s (.tmp 0) q (some (.tmp 2)) (some (.tmp 3))) [.sl f (l.map c), w, iv 0, iv 0] H = some (.sl true [], H) := by
  have e : ∀ o : Option Nat, o.getD 0 = 0 → sliceA H s (.sl f (l.map c)) o (some 0) (some 0) = some (.sl true []) := by
    intro o ho
    simp [sliceA, ho, headLen_map hc]
  rcases hq with rfl | rfl
  · simp [evOp, getOpd, natOpt, natOf, e]
  · have := hw rfl
    subst this
    simp [evOp, getOpd, natOpt, natOf, e]
theorem slice_ms [GlobT] {es : List (List AV)} {tot k : Nat} {h : Int} {u : Unit} (hg : grd (decide (0 ≤ h ∧ h.toNat ≤ k)) = some u) (hH : H[id]? = some (.blk s es)) : evOp P cf fl (.slice s (.tmp 0) none (some (.tmp 2)) none) [.ms id tot 0 k, w, iv h, z] H = some (.ms id tot 0 h.toNat, H) := by
  have hb := of_decide_eq_true (grd_some hg)
  simp [evOp, getOpd, natOpt, natOf, hb.1, sliceA, hH, hb.2]
theorem op_max [GlobT] {a b : Int} : evOp P cf fl (.minmax true [.tmp 0, .tmp 1]) [iv a, iv b] H = some (iv (imax a b), H) := by
  simp [evOp, getOpd, litL, pr_max, imax]
theorem op_min [GlobT] {a b : Int} : evOp P cf fl (.minmax false [.tmp 0, .tmp 1]) [iv a, iv b] H = some (iv (imin a b), H) := by
  have : pureRun P (Builtin.min_ #[] 0 #[.int .i64 a, .int .i64 b]) = some (.int .i64 (if b < a then b else a)) := by
    by_cases h : b < a <;> simp [Builtin.min_, Builtin.min2, h] <;> rfl
  simp [evOp, getOpd, litL, this, imin]
end

theorem frz_msK [GlobT] {P : Program} {cf : Nat → Nat → List AV → Heap → Option (AV × Heap)} {k : Nat} (hH : H[id]? = some (.blk s (l.map c))) (hfl : fl ≤ id) (hp : ∀ x, (c x).map toP = c x) :
    evOp P cf fl (.freeze (.tmp 0)) [.ms id l.length 0 k] H = some (.sl false ((l.take k).map c), H.set id (.blk s (l.map c ++ [List.replicate s .undef]))) := by
  simp only [evOp, getOpd, List.getElem?_cons_zero, hfl, if_true, hH, List.length_map, List.drop_zero]
  have : ((l.map c).take k).map (fun e => e.map toP) = (l.take k).map c := by
    rw [← List.map_take, List.map_map]
    exact List.map_congr_left fun x _ => hp x
  rw [this]

theorem seal1_msK {k : Nat} (hH : H[id]? = some (.blk s (l.map c))) (hp : ∀ x, (c x).map (sealC H 0 5) = c x) : seal1 H 0 (.ms id l.length 0 k) = .sl false ((l.take k).map c) := by
  simp only [seal1, Nat.not_lt_zero, if_false, sealDepth, sealC, Nat.zero_le, if_true, rd, hH, List.length_map, List.drop_zero]
  congr 1
  rw [← List.map_take, List.map_map]
  exact List.map_congr_left fun x _ => hp x

theorem frz_ms [GlobT] {P : Program} {cf : Nat → Nat → List AV → Heap → Option (AV × Heap)} (hH : H[id]? = some (.blk s (l.map c))) (hfl : fl ≤ id) (hp : ∀ x, (c x).map toP = c x) :
    evOp P cf fl (.freeze (.tmp 0)) [.ms id l.length 0 l.length] H = some (.sl false (l.map c), H.set id (.blk s (l.map c ++ [List.replicate s .undef]))) := by
  have h1 : (l.map c).length = l.length := by simp
  simp only [evOp, getOpd, List.getElem?_cons_zero, hfl, if_true, hH, h1, List.drop_zero]
  rw [List.take_of_length_le (by omega)]
  have : (l.map c).map (fun e => e.map toP) = l.map c := by
    rw [List.map_map]
    exact List.map_congr_left fun x _ => hp x
  rw [this]

theorem seal1_ms (hH : H[id]? = some (.blk s (l.map c))) (hp : ∀ x, (c x).map (sealC H 0 5) = c x) : seal1 H 0 (.ms id l.length 0 l.length) = .sl false (l.map c) := by
  have h1 : (l.map c).length = l.length := by simp
  simp only [seal1, Nat.not_lt_zero, if_false, sealDepth, sealC, Nat.zero_le, if_true, rd, hH, h1, List.drop_zero]
  rw [List.take_of_length_le (by omega)]
  congr 1
  rw [List.map_map]
  exact List.map_congr_left fun x _ => hp x

theorem clean_map {n : Nat} (hp : ∀ x, (c x).map (clean1 n) = c x) : (l.map c).map (fun e => e.map (clean1 n)) = l.map c := by
  rw [List.map_map]
  exact List.map_congr_left fun x _ => hp x

/-- An element through a pointer. -/
theorem ld_ms [GlobT] {P : Program} {cf : Nat → Nat → List AV → Heap → Option (AV × Heap)} {off n k : Nat} {agg : Bool} {v : AV} (h : idxK l k i = some x) (hH : H[id]? = some (.blk s (l.map c))) (ho : off + n ≤ (c x).length)
    (hv : (if agg then some (AV.agg (((c x).drop off).take n)) else match ((c x).drop off).take n with | [y] => some y | _ => none) = some v) :
    evOp P cf fl (.load agg n (.tmp 0)) [.ptr id l.length (0 + i.toNat) off] H = some (v, H) := by
  obtain ⟨h1, h2, h3, h5⟩ := idxK_some h
  have h4 : (l.map c)[0 + i.toNat]? = some (c x) := by simp [h3]
  simp only [evOp, getOpd, List.getElem?_cons_zero, ldCells, hH, List.length_map, if_true, h4, ho]
  cases agg with
  | true => simp only [if_true] at hv ⊢; cases hv; rfl
  | false =>
    simp only [Bool.false_eq_true, if_false] at hv ⊢
    split at hv
    · rename_i y hy
      cases hv
      rw [hy]
    · cases hv
end
end Go.Proofs.YtanonfpdkoijnaaGreatDoor.Av
