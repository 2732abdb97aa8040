/- A part of the proof of ChangesetCompactsCardSaid: an evaluator of the program, proved sound, and what it says. -/
import Derived.Test.YtanonfpdkoijnaaGreatDoorAvDefs
namespace Go.Proofs.YtanonfpdkoijnaaGreatDoor.Av
open Go

structure Ctx where
  w : World
  X : Nat → Prop
  β : Nat → Option Nat
  H : Heap

def Imm (c : Ctx) (b : Nat) : Prop := ¬ c.X b ∧ ∀ id, c.β id ≠ some b

def cellE (es : List (List AV)) (i j : Nat) : Option AV := (es[i]?).bind fun e => e[j]?

def shp (H : Heap) (id : Nat) : Option (Nat × Nat) :=
  match H[id]? with
  | some (.blk s es) => some (s, es.length)
  | _ => none

def notBlk : AObj → Prop
  | .blk _ _ => False
  | _ => True

/-- Objects that are no blocks: maps, and others as they stand. -/
def isMap (H : Heap) (id : Nat) : Prop := ∃ o, H[id]? = some o ∧ notBlk o

/-- A value in memory that is never written again. -/
inductive RP (w : World) (I : Nat → Prop) : AV → Value → Prop
  | undef (v : Value) : RP w I .undef v
  | lit (v : Value) : RP w I (.lit v) v
  | nil (f : Bool) (a : Option Addr) (cap : Nat) : (f = true → cap = 0) → RP w I (.sl f []) (.slice a 0 cap)
  | sl (f : Bool) (es : List (List AV)) (b off cap : Nat) (c : Array Value) (T : TypeId) (fz : Nat × Nat) (s : Nat) (vals : Nat → Nat → Value) :
      es ≠ [] → I b → w.heap[b]? = some (.cells c T fz) → (∀ e ∈ es, e.length = s) → es.length ≤ cap → (f = true → cap = es.length) →
      (∀ i j x, cellE es i j = some x → c[off + (i * s + j)]? = some (vals i j) ∧ scalarB (vals i j) = true) →
      (∀ i j x, cellE es i j = some x → RP w I x (vals i j)) →
      RP w I (.sl f es) (.slice (some ⟨b, off, none⟩) es.length cap)

theorem RP.mono {w w' : World} {I I' : Nat → Prop} (h : ∀ b o, I b → w.heap[b]? = some o → I' b ∧ w'.heap[b]? = some o) {x : AV} {v : Value}
    (hr : RP w I x v) : RP w' I' x v := by
  induction hr with
  | undef v => exact .undef v
  | lit v => exact .lit v
  | nil f a cap hf => exact .nil f a cap hf
  | sl f es b off cap c T fz s vals hne hi hb hlen hcap hf hv _ ih =>
    obtain ⟨hi', hb'⟩ := h b _ hi hb
    exact .sl f es b off cap c T fz s vals hne hi' hb' hlen hcap hf hv ih

theorem nrmV_rp {w : World} {I : Nat → Prop} (v : Value) : RP w I (nrmV v) v := by
  unfold nrmV
  split
  · split
    · split
      · split
        · exact .nil false none 0 (by simp)
        · exact .lit _
      · exact .lit _
    · exact .lit _
  · exact .lit _

theorem nrm_rp [GlobT] {w : World} {I : Nat → Prop} {x : AV} {v : Value} (h : RP w I x v) : RP w I (nrm x) v := by
  cases h with
  | undef v => exact .undef v
  | lit v => exact nrmV_rp v
  | nil f a cap hf => exact .nil false a cap (by simp)
  | sl f es b off cap c T fz s vals h1 h2 h3 h4 h5 h6 h7 h8 => exact .sl false es b off cap c T fz s vals h1 h2 h3 h4 h5 (by simp) h7 h8

def MsOk (c : Ctx) (id tot off len : Nat) (a : Option Addr) (cap s : Nat) : Prop :=
  off + len ≤ tot ∧
  ((c.β id = none ∧ tot = 0 ∧ a = none ∧ cap = 0) ∨
   ∃ b cs T a', c.β id = some b ∧ c.w.heap[b]? = some (.cells cs T (0, 0)) ∧ (off + cap) * s = cs.size ∧ a = some a' ∧
     (cap ≠ 0 → a' = ⟨b, off * s, none⟩))

inductive RV (FT : Nat → Option Nat) (c : Ctx) : AV → Value → Prop
  | pure (x : AV) (v : Value) : RP c.w (Imm c) x v → RV FT c x v
  | ms (id tot off len : Nat) (a : Option Addr) (cap s n : Nat) : shp c.H id = some (s, n) → tot ≤ n → len ≤ cap →
      (tot = n → MsOk c id tot off len a cap s) → RV FT c (.ms id tot off len) (.slice a len cap)
  | ptr (id tot idx off : Nat) (a : Addr) (s n : Nat) : shp c.H id = some (s, n) → tot ≤ n →
      (tot = n → ∃ b, c.β id = some b ∧ a = ⟨b, idx * s + off, none⟩) → RV FT c (.ptr id tot idx off) (.pointer (some a))
  | rptr (cs : List AV) (b off : Nat) (cc : Array Value) (T : TypeId) (fz : Nat × Nat) (vals : Nat → Value) :
      Imm c b → c.w.heap[b]? = some (.cells cc T fz) →
      (∀ j x, cs[j]? = some x → cc[off + j]? = some (vals j) ∧ scalarB (vals j) = true) →
      (∀ j x, cs[j]? = some x → RP c.w (Imm c) x (vals j)) → RV FT c (.rptr cs) (.pointer (some ⟨b, off, none⟩))
  | mp (id b : Nat) : isMap c.H id → c.β id = some b → RV FT c (.mp id) (.map (some b))
  | it (id b : Nat) : isMap c.H id → c.β id = some b → RV FT c (.it id) (.pointer (some ⟨b, 0, none⟩))
  | fn (vi f : Nat) (caps : List AV) (cv : Array Value) (vals : Nat → Value) : FT vi = some f → cv.size = caps.length →
      (∀ i x, caps[i]? = some x → cv[i]? = some (vals i)) → (∀ i x, caps[i]? = some x → RV FT c x (vals i)) →
      RV FT c (.fn vi caps) (.func (.func f) #[] cv)
  | agg (cs : List AV) (cv : Array Value) (vals : Nat → Value) : cv.size = cs.length →
      (∀ i x, cs[i]? = some x → cv[i]? = some (vals i) ∧ scalarB (vals i) = true) →
      (∀ i x, cs[i]? = some x → RV FT c x (vals i)) → RV FT c (.agg cs) (.agg cv)
  | tup (cs : List AV) (cv : Array Value) (vals : Nat → Value) : cv.size = cs.length →
      (∀ i x, cs[i]? = some x → cv[i]? = some (vals i)) →
      (∀ i x, cs[i]? = some x → RV FT c x (vals i)) → RV FT c (.tup cs) (.tuple cv)

structure Step (fl : Nat) (c c' : Ctx) : Prop where
  X : c'.X = c.X
  os : c'.w.os = c.w.os
  tape : c'.w.tape = c.w.tape
  output : c'.w.output = c.w.output
  size : c.w.heap.size ≤ c'.w.heap.size
  len : c.H.length ≤ c'.H.length
  frame : ∀ k, k < c.w.heap.size → (∀ id, c.β id ≠ some k) → c'.w.heap[k]? = c.w.heap[k]?
  img : ∀ id b, c'.β id = some b → c.w.heap.size ≤ b ∨ ∃ i, c.β i = some b
  blkS : ∀ id s n, shp c.H id = some (s, n) → ∃ n', shp c'.H id = some (s, n') ∧ n ≤ n' ∧
    (n = n' → c'.β id = c.β id ∧ ∀ b cs T, c.β id = some b → c.w.heap[b]? = some (.cells cs T (0, 0)) →
      ∃ cs', c'.w.heap[b]? = some (.cells cs' T (0, 0)) ∧ cs'.size = cs.size)
  mpS : ∀ id, isMap c.H id → isMap c'.H id ∧ c'.β id = c.β id
  floor : ∀ id, id < fl → c'.H[id]? = c.H[id]? ∧ c'.β id = c.β id ∧ ∀ b, c.β id = some b → c'.w.heap[b]? = c.w.heap[b]?

theorem Step.refl (fl : Nat) (c : Ctx) : Step fl c c where
  X := rfl
  os := rfl
  tape := rfl
  output := rfl
  size := Nat.le_refl _
  len := Nat.le_refl _
  frame := fun _ _ _ => rfl
  img := fun i _ h => .inr ⟨i, h⟩
  blkS := fun _ _ n h => ⟨n, h, Nat.le_refl _, fun _ => ⟨rfl, fun _ cs _ _ hb => ⟨cs, hb, rfl⟩⟩⟩
  mpS := fun _ h => ⟨h, rfl⟩
  floor := fun _ _ => ⟨rfl, rfl, fun _ _ => rfl⟩

theorem Step.trans {fl : Nat} {a b c : Ctx} (h : Step fl a b) (k : Step fl b c) : Step fl a c where
  X := k.X.trans h.X
  os := k.os.trans h.os
  tape := k.tape.trans h.tape
  output := k.output.trans h.output
  size := Nat.le_trans h.size k.size
  len := Nat.le_trans h.len k.len
  frame := fun i hi hn => (k.frame i (Nat.lt_of_lt_of_le hi h.size) (fun id hid => by
    rcases h.img id i hid with hh | ⟨j, hh⟩
    · omega
    · exact hn j hh)).trans (h.frame i hi hn)
  img := fun id x hx => by
    rcases k.img id x hx with hh | ⟨j, hh⟩
    · exact .inl (Nat.le_trans h.size hh)
    · exact h.img j x hh
  blkS := fun id s n hs => by
    obtain ⟨n', hs', hn', he'⟩ := h.blkS id s n hs
    obtain ⟨n'', hs'', hn'', he''⟩ := k.blkS id s n' hs'
    refine ⟨n'', hs'', Nat.le_trans hn' hn'', fun e => ?_⟩
    have e1 : n = n' := by omega
    have e2 : n' = n'' := by omega
    obtain ⟨hb1, hc1⟩ := he' e1
    obtain ⟨hb2, hc2⟩ := he'' e2
    refine ⟨hb2.trans hb1, fun x cs T hx hcs => ?_⟩
    obtain ⟨cs', h1, h2⟩ := hc1 x cs T hx hcs
    obtain ⟨cs'', h3, h4⟩ := hc2 x cs' T (hb1.trans hx) h1
    exact ⟨cs'', h3, h4.trans h2⟩
  mpS := fun id hm => by
    obtain ⟨h1, h2⟩ := h.mpS id hm
    obtain ⟨h3, h4⟩ := k.mpS id h1
    exact ⟨h3, h4.trans h2⟩
  floor := fun id hid => by
    obtain ⟨h1, h2, h3⟩ := h.floor id hid
    obtain ⟨k1, k2, k3⟩ := k.floor id hid
    exact ⟨k1.trans h1, k2.trans h2, fun x hx => (k3 x (h2.trans hx)).trans (h3 x hx)⟩

theorem Step.mono {fl fl' : Nat} {a b : Ctx} (h : Step fl a b) (hl : fl' ≤ fl) : Step fl' a b :=
  { h with floor := fun id hid => h.floor id (Nat.lt_of_lt_of_le hid hl) }

theorem Step.imm {fl : Nat} {c c' : Ctx} (h : Step fl c c') {b : Nat} {o : Obj} (hi : Imm c b) (hb : c.w.heap[b]? = some o) :
    Imm c' b ∧ c'.w.heap[b]? = some o := by
  have hlt : b < c.w.heap.size := by
    rcases Nat.lt_or_ge b c.w.heap.size with h | h
    · exact h
    · rw [Array.getElem?_eq_none h] at hb; cases hb
  refine ⟨⟨by rw [h.X]; exact hi.1, fun id hid => ?_⟩, by rw [h.frame b hlt hi.2]; exact hb⟩
  rcases h.img id b hid with hh | ⟨j, hh⟩
  · omega
  · exact hi.2 j hh

theorem MsOk.step {fl : Nat} {c c' : Ctx} (h : Step fl c c') {id tot off len cap s : Nat} {a : Option Addr} (hs : shp c.H id = some (s, tot))
    (hs' : shp c'.H id = some (s, tot)) (hm : MsOk c id tot off len a cap s) : MsOk c' id tot off len a cap s := by
  obtain ⟨n', h1, h2, h3⟩ := h.blkS id s tot hs
  have e : tot = n' := by rw [hs'] at h1; simpa using h1
  obtain ⟨hb, hc⟩ := h3 e
  obtain ⟨ho, hm⟩ := hm
  refine ⟨ho, ?_⟩
  rcases hm with ⟨h4, h5, h6, h7⟩ | ⟨b, cs, T, a', h4, h5, h6, h7, h8⟩
  · exact .inl ⟨hb.trans h4, h5, h6, h7⟩
  · obtain ⟨cs', h9, h10⟩ := hc b cs T h4 h5
    exact .inr ⟨b, cs', T, a', hb.trans h4, h9, by rw [h10]; exact h6, h7, h8⟩

theorem RV.step [GlobT] {FT : Nat → Option Nat} {fl : Nat} {c c' : Ctx} (h : Step fl c c') {x : AV} {v : Value} (hr : RV FT c x v) : RV FT c' x v := by
  induction hr with
  | pure x v hp => exact .pure x v (hp.mono fun b o hi hb => h.imm hi hb)
  | ms id tot off len a cap s n hs ht hl hm =>
    obtain ⟨n', h1, h2, h3⟩ := h.blkS id s n hs
    refine .ms id tot off len a cap s n' h1 (Nat.le_trans ht h2) hl fun e => ?_
    have e1 : tot = n := by omega
    subst e1
    exact (hm rfl).step h hs (by rw [h1, e])
  | ptr id tot idx off a s n hs ht hm =>
    obtain ⟨n', h1, h2, h3⟩ := h.blkS id s n hs
    refine .ptr id tot idx off a s n' h1 (Nat.le_trans ht h2) fun e => ?_
    have e1 : tot = n := by omega
    obtain ⟨b, hb, ha⟩ := hm e1
    exact ⟨b, ((h3 (by omega)).1).trans hb, ha⟩
  | rptr cs b off cc T fz vals hi hb hv hp =>
    obtain ⟨hi', hb'⟩ := h.imm hi hb
    exact .rptr cs b off cc T fz vals hi' hb' hv fun j x hx => (hp j x hx).mono fun b o hi hb => h.imm hi hb
  | mp id b hm hb =>
    obtain ⟨h1, h2⟩ := h.mpS id hm
    exact .mp id b h1 (h2.trans hb)
  | it id b hm hb =>
    obtain ⟨h1, h2⟩ := h.mpS id hm
    exact .it id b h1 (h2.trans hb)
  | fn vi f caps cv vals hf hs hv _ ih => exact .fn vi f caps cv vals hf hs hv ih
  | agg cs cv vals hs hv _ ih => exact .agg cs cv vals hs hv ih
  | tup cs cv vals hs hv _ ih => exact .tup cs cv vals hs hv ih

/-- The package variables lie as told, in memory that is never written. -/
def GlobInv [GlobT] (c : Ctx) : Prop := ∀ g cs, GlobT.tab g = some cs → ∃ (cc : Array Value) (T : TypeId) (fz : Nat × Nat) (vals : Nat → Value), Imm c g ∧ c.w.heap[g]? = some (.cells cc T fz) ∧
  (∀ j x, cs[j]? = some x → cc[0 + j]? = some (vals j) ∧ scalarB (vals j) = true) ∧ ∀ j x, cs[j]? = some x → RP c.w (Imm c) x (vals j)

theorem GlobInv.step [GlobT] {fl : Nat} {c c' : Ctx} (hg : GlobInv c) (h : Step fl c c') : GlobInv c' := by
  intro g cs hcs
  obtain ⟨cc, T, fz, vals, h1, h2, h3, h4⟩ := hg g cs hcs
  obtain ⟨k1, k2⟩ := h.imm h1 h2
  exact ⟨cc, T, fz, vals, k1, k2, h3, fun j x hx => (h4 j x hx).mono fun b o hi hb => h.imm hi hb⟩

theorem GlobInv.rv [GlobT] {FT : Nat → Option Nat} {c : Ctx} (hg : GlobInv c) {g : Nat} {cs : List AV} (h : GlobT.tab g = some cs) : RV FT c (.rptr cs) (.pointer (some ⟨g, 0, none⟩)) := by
  obtain ⟨cc, T, fz, vals, h1, h2, h3, h4⟩ := hg g cs h
  exact .rptr cs g 0 cc T fz vals h1 h2 h3 h4

structure Sim [GlobT] (FT : Nat → Option Nat) (c : Ctx) : Prop where
  gl : GlobInv c
  inj : ∀ (i j b : Nat), c.β i = some b → c.β j = some b → i = j
  dom : ∀ (id b : Nat), c.β id = some b → id < c.H.length
  nx : ∀ (id b : Nat), c.β id = some b → ¬ c.X b
  fresh : ∀ k : Nat, c.w.heap.size ≤ k → ¬ c.X k
  lens : ∀ (id s : Nat) (es : List (List AV)), c.H[id]? = some (.blk s es) → ∀ e ∈ es, e.length = s
  blk : ∀ (id s : Nat) (es : List (List AV)) (b : Nat), c.H[id]? = some (.blk s es) → c.β id = some b → ∃ cs T, c.w.heap[b]? = some (.cells cs T (0, 0)) ∧ es.length * s ≤ cs.size ∧
    ∀ i j x, cellE es i j = some x → ∃ v, cs[i * s + j]? = some v ∧ scalarB v = true ∧ RV FT c x v
  map : ∀ (id : Nat) (ents : List (Value × AV)) (b : Nat), c.H[id]? = some (.mp ents) → c.β id = some b → ∃ (es : Array MapEntry) (clk : Nat), c.w.heap[b]? = some (.map es clk) ∧ es.size = ents.length ∧
    ∀ (i : Nat) (k : Value) (x : AV), ents[i]? = some (k, x) → ∃ e, es[i]? = some e ∧ e.key = k ∧ RV FT c x e.val
  raw : ∀ (id : Nat) (ob : Obj) (b : Nat), c.H[id]? = some (.raw ob) → c.β id = some b → c.w.heap[b]? = some ob

/-- Temporaries. -/
def TR (FT : Nat → Option Nat) (c : Ctx) (tm : List AV) (tv : Array Value) : Prop :=
  tm.length = tv.size ∧ ∀ (t : Nat) (x : AV), tm[t]? = some x → ∃ v, tv[t]? = some v ∧ RV FT c x v

theorem TR.step [GlobT] {FT : Nat → Option Nat} {fl : Nat} {c c' : Ctx} (h : Step fl c c') {tm : List AV} {tv : Array Value} (hr : TR FT c tm tv) : TR FT c' tm tv :=
  ⟨hr.1, fun t x hx => let ⟨v, h1, h2⟩ := hr.2 t x hx; ⟨v, h1, h2.step h⟩⟩

theorem RV.lit_inv {FT : Nat → Option Nat} {c : Ctx} {u v : Value} (h : RV FT c (.lit u) v) : v = u := by
  cases h with
  | pure _ _ hp => cases hp; rfl

theorem RV.lit {FT : Nat → Option Nat} {c : Ctx} (u : Value) : RV FT c (.lit u) u := .pure _ _ (.lit u)
theorem RV.undef {FT : Nat → Option Nat} {c : Ctx} (u : Value) : RV FT c .undef u := .pure _ _ (.undef u)

end Go.Proofs.YtanonfpdkoijnaaGreatDoor.Av
