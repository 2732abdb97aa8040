/- A part of the proof of EditChecksCardSaid. -/
import Derived.Test.YtmflphfmefakfaaGreatDoorAvFun
import Derived.WalkKit
import Derived.ProofKit
import Derived.OpenShut
set_option linter.all false
namespace Go.Proofs.YtmflphfmefakfaaGreatDoor.Av
open Go Go.RowKit
def Shape (P : Program) : Nat → TypeId → List AV → Prop
 | 0, _, _ => False
 | n + 1, t, xs =>
  match P.underlying t with
  | some .bool => ∃ b, xs = [.lit (.bool b)]
  | some (.int k) => ∃ z, (Lit.int k z).wf = true ∧ xs = [.lit (.int k z)]
  | some .string => ∃ s : ByteArray, s.size ≤ maxLen ∧ xs = [.lit (.string s)]
  | some (.slice e) => ∃ es : List (List AV), xs = [.sl false es] ∧ es.length ≤ maxLen ∧ ∀ x ∈ es, Shape P n e x
  | some (.struct fs) => ∃ ps : List (List AV), xs = ps.flatten ∧ ps.length = fs.size ∧ ∀ (i : Nat) (f : Field) (p : List AV), fs[i]? = some f → ps[i]? = some p → Shape P n f.type p
  | some (.array m e) => ∃ ps : List (List AV), xs = ps.flatten ∧ ps.length = m ∧ ∀ p ∈ ps, Shape P n e p
  | _ => False
def contig (P : Program) : Nat → List Field → Nat → Bool
 | o, [], tot => o == tot
 | o, f :: r, tot => f.offset == o && contig P (o + P.cellsOf f.type) r tot
def okT (P : Program) : Nat → TypeId → Bool
 | 0, _ => false
 | n + 1, t =>
  match P.underlying t with
  | some .bool => true
  | some (.int _) => true
  | some .string => true
  | some (.slice e) => decide (0 < P.cellsOf e) && okT P n e
  | some (.struct fs) => contig P 0 fs.toList (P.cellsOf t) && fs.toList.all fun f => okT P n f.type
  | some (.array m e) => P.cellsOf t == m * P.cellsOf e && okT P n e
  | _ => false
def CR (w : World) (xs : List AV) (cs : List Value) : Prop :=
 xs.length = cs.length ∧ ∀ (j : Nat) (x : AV), xs[j]? = some x → ∃ v, cs[j]? = some v ∧ scalarB v = true ∧ RP w (fun _ => True) x v
theorem CR.nil {w : World} : CR w [] [] := ⟨rfl, fun j x h => by simp at h⟩
theorem CR.one {w : World} {x : AV} {v : Value} (hs : scalarB v = true) (h : RP w (fun _ => True) x v) : CR w [x] [v] :=
 ⟨rfl, fun j y hy => by
  cases j with
  | zero => simp only [List.getElem?_cons_zero, Option.some.injEq] at hy; subst hy; exact ⟨v, by simp, hs, h⟩
  | succ j => simp at hy⟩
theorem CR.append {w : World} {xs ys : List AV} {cs ds : List Value} (h : CR w xs cs) (k : CR w ys ds) : CR w (xs ++ ys) (cs ++ ds) :=
 ⟨by simp [h.1, k.1], fun j x hx => by
  rw [List.getElem?_append] at hx ⊢
  rw [h.1] at hx
  split at hx
  ·rename_i hlt; rw [if_pos hlt]; exact h.2 j x hx
  ·rename_i hlt; rw [if_neg hlt]; exact k.2 _ x hx⟩
theorem CR.flatten [GlobT] {w : World} : ∀ {ps : List (List AV)} {qs : List (List Value)}, ps.length = qs.length → (∀ (i : Nat) p q, ps[i]? = some p → qs[i]? = some q → CR w p q) → CR w ps.flatten qs.flatten
 | [], [], _, _ => CR.nil
 | [], _ :: _, h, _ => by simp at h
 | _ :: _, [], h, _ => by simp at h
 | p :: ps, q :: qs, h, k => by
  simp only [List.flatten_cons]
  exact (k 0 p q rfl rfl).append (CR.flatten (by simpa using h) fun i p' q' h1 h2 => k (i + 1) p' q' (by simpa using h1) (by simpa using h2))
theorem exists_list [GlobT] {α : Type} {Q : Nat → α → Prop} : ∀ n, (∀ i, i < n → ∃ x, Q i x) → ∃ l : List α, l.length = n ∧ ∀ i x, l[i]? = some x → Q i x
 | 0, _ => ⟨[], rfl, fun i x h => by simp at h⟩
 | n + 1, h => by
  obtain ⟨l, h1, h2⟩ := exists_list n fun i hi => h i (by omega)
  obtain ⟨x, hx⟩ := h n (by omega)
  refine ⟨l ++ [x], by simp [h1], fun i y hy => ?_⟩
  rw [List.getElem?_append] at hy
  split at hy
  ·exact h2 i y hy
  ·have : i = n := by
    rcases Nat.lt_or_ge (i - l.length) 1 with h | h
    ·omega
    ·rw [List.getElem?_eq_none (by simpa using h)] at hy; cases hy
   subst this
   rw [h1] at hy
   simp at hy
   subst hy
   exact hx
theorem contig_flat [GlobT] {P : Program} {α : Type} (cs : List α) {tot : Nat} (hl : cs.length = tot) : ∀ (fs : List Field) (o : Nat), contig P o fs tot = true →
  cs.drop o = (fs.map fun f => (cs.drop f.offset).take (P.cellsOf f.type)).flatten
 | [], o, h => by
  simp only [contig, beq_iff_eq] at h
  simp only [List.map_nil, List.flatten_nil, List.drop_eq_nil_iff]
  omega
 | f :: r, o, h => by
  simp only [contig, Bool.and_eq_true, beq_iff_eq] at h
  obtain ⟨h1, h2⟩ := h
  have ih := contig_flat cs hl r _ h2
  simp only [List.map_cons, List.flatten_cons, ← ih, h1]
  rw [← List.drop_drop, List.take_append_drop]
theorem array_flat [GlobT] {α : Type} (s : Nat) : ∀ (m o : Nat) (cs : List α), cs.length = o + m * s →
  cs.drop o = ((List.range m).map fun i => (cs.drop (o + i * s)).take s).flatten
 | 0, o, cs, h => by simp [List.drop_eq_nil_iff]; omega
 | m + 1, o, cs, h => by
  have ih := array_flat s m (o + s) cs (by rw [h, Nat.succ_mul]; omega)
  rw [List.range_succ_eq_map]
  simp only [List.map_cons, List.map_map, List.flatten_cons]
  have e : ((List.range m).map ((fun i => (cs.drop (o + i * s)).take s) ∘ Nat.succ)) = (List.range m).map fun i => (cs.drop (o + s + i * s)).take s := by
   refine List.map_congr_left fun i _ => ?_
   simp only [Function.comp, Nat.succ_mul]
   congr 2
   omega
  rw [e, ← ih, Nat.zero_mul, Nat.add_zero, ← List.drop_drop, List.take_append_drop]
section
variable {H : Type} {enc : TypeId × Value → H} {P : Program} {w : World} {base : Nat} {spare : Nat → Bool} {held : Bool}
theorem cells?_get {a : Addr} {n : Nat} {l : List Value} (h : w.cells? base a n = some l) : l.length = n ∧ ∀ i, i < n → w.cell? (a.add i) = l[i]? := by
 unfold World.cells? at h
 split at h
 ·exact ⟨by simpa using mapM_some_length h, fun i hi => mapM_some_get h i i (by simp [hi])⟩
 ·cases h
theorem cell?_inv {a : Addr} {v : Value} (h : w.cell? a = some v) : ∃ c T fz, w.heap[a.block]? = some (.cells c T fz) ∧ a.spot = none ∧ c[a.off]? = some v := by
 unfold World.cell? at h
 split at h
 ·rename_i c T fz hb
  split at h
  ·cases h
  ·rename_i hs
   exact ⟨c, T, fz, hb, by simpa using hs, h⟩
 ·cases h
theorem add_off (a : Addr) (n : Nat) : (a.add n).off = a.off + n := by
 unfold Addr.add; split
 ·rename_i h; simp [h]
 ·rfl
theorem trod_shape [GlobT] : ∀ (n : Nat) (t : TypeId) (cs : List Value) (x : DataW H × List MemPlace) (fuel : Nat), okT P n t = true → DataW.trod enc P w base spare held fuel t cs = some x → ∃ xs, Shape P n t xs ∧ CR w xs cs
 | 0, t, cs, x, fuel, hk, _ => by simp [okT] at hk
 | n + 1, t, cs, x, fuel, hk, h => by
  unfold okT at hk
  unfold Shape
  split at hk
  ·rename_i ht
   obtain ⟨b, rfl, _⟩ := DataW.trod_bool ht h
   exact ⟨_, ⟨b, rfl⟩, CR.one rfl (.lit _)⟩
  ·rename_i k ht
   obtain ⟨z, rfl, _, hw⟩ := DataW.trod_int ht h
   exact ⟨_, ⟨z, hw, rfl⟩, CR.one rfl (.lit _)⟩
  ·rename_i ht
   obtain ⟨z, rfl, _, hw⟩ := DataW.trod_string ht h
   exact ⟨_, ⟨z, hw, rfl⟩, CR.one rfl (.lit _)⟩
  ·rename_i e ht
   simp only [Bool.and_eq_true, decide_eq_true_eq] at hk
   obtain ⟨hpos, hk⟩ := hk
   rcases DataW.trod_slice ht h with ⟨rfl, _⟩ | ⟨a, len, cap, elems, rest, m, _, rfl, _, _, hlc, hcm, hel, hat, _, _⟩
   ·exact ⟨_, ⟨[], rfl, by simp, fun x hx => by cases hx⟩, CR.one rfl (.nil _ _ _ (by simp))⟩
   ·have hall : ∀ i, i < len → ∃ y : List AV, Shape P n e y ∧ ∃ l, w.cells? base (a.add (i * P.cellsOf e)) (P.cellsOf e) = some l ∧ CR w y l := by
     intro i hi
     have h1 := hat i hi
     have h2 : elems[i]? = some elems[i] := List.getElem?_eq_getElem (by omega)
     rw [h2] at h1
     cases hc : w.cells? base (a.add (i * P.cellsOf e)) (P.cellsOf e) with
     | none => rw [hc] at h1; simp at h1
     | some l =>
      rw [hc] at h1
      obtain ⟨y, k1, k2⟩ := trod_shape n e l _ m hk (by simpa using h1)
      exact ⟨y, k1, l, rfl, k2⟩
    obtain ⟨es, hlen, hes⟩ := exists_list len hall
    refine ⟨[.sl false es], ⟨es, rfl, by omega, fun y hy => ?_⟩, CR.one rfl ?_⟩
    ·obtain ⟨i, hi, rfl⟩ := List.mem_iff_getElem.1 hy
     exact (hes i _ (List.getElem?_eq_getElem hi)).1
    ·by_cases h0 : es = []
     ·subst h0
      simp at hlen
      subst hlen
      exact .nil _ _ _ (by simp)
     ·have hpl : 0 < len := by
       rcases Nat.eq_zero_or_pos len with h | h
       ·rw [h] at hlen; exact absurd (List.length_eq_zero_iff.1 hlen) h0
       ·exact h
      have hcell : ∀ i j x, cellE es i j = some x → ∃ v, w.cell? ((a.add (i * P.cellsOf e)).add j) = some v ∧ scalarB v = true ∧ RP w (fun _ => True) x v ∧ j < P.cellsOf e := by
       intro i j x hx
       unfold cellE at hx
       cases hi : es[i]? with
       | none => rw [hi] at hx; cases hx
       | some y =>
        rw [hi] at hx
        obtain ⟨_, l, k1, k2⟩ := hes i y hi
        obtain ⟨v, g1, g2, g3⟩ := k2.2 j x hx
        obtain ⟨c1, c2⟩ := cells?_get k1
        have hj : j < P.cellsOf e := by
         rcases Nat.lt_or_ge j (P.cellsOf e) with h | h
         ·exact h
         ·rw [List.getElem?_eq_none (by omega)] at g1; cases g1
        exact ⟨v, (c2 j hj).trans g1, g2, g3, hj⟩
      have helen : ∀ y ∈ es, y.length = P.cellsOf e := by
       intro y hy
       obtain ⟨i, hi, rfl⟩ := List.mem_iff_getElem.1 hy
       obtain ⟨_, l, k1, k2⟩ := hes i _ (List.getElem?_eq_getElem hi)
       rw [k2.1]; exact (cells?_get k1).1
      have hx0 : ∃ x, cellE es 0 0 = some x := by
       cases es with
       | nil => exact absurd rfl h0
       | cons y r =>
        have := helen y (by simp)
        exact ⟨y[0], by simp [cellE]⟩
      obtain ⟨x0, hx0⟩ := hx0
      obtain ⟨v0, g1, _, _, _⟩ := hcell 0 0 x0 hx0
      obtain ⟨c, T, fz, hb, hsp, _⟩ := cell?_inv g1
      simp only [Nat.zero_mul, Addr.add, if_true] at hb hsp
      obtain ⟨ab, ao, asp⟩ := a
      simp only at hb hsp
      subst hsp
      have hoff : ∀ i j x, cellE es i j = some x → ∃ v, c[ao + (i * P.cellsOf e + j)]? = some v ∧ scalarB v = true ∧ RP w (fun _ => True) x v := by
       intro i j x hx
       obtain ⟨v, g1, g2, g3, _⟩ := hcell i j x hx
       obtain ⟨c', T', fz', k1, _, k3⟩ := cell?_inv g1
       rw [ChangeShapes.block_add, ChangeShapes.block_add] at k1
       rw [hb] at k1
       cases k1
       rw [add_off, add_off, Nat.add_assoc] at k3
       exact ⟨v, k3, g2, g3⟩
      have hr : RP w (fun _ => True) (.sl false es) (.slice (some ⟨ab, ao, none⟩) es.length cap) := by
       refine .sl false es ab ao cap c T fz (P.cellsOf e) (fun i j => (c[ao + (i * P.cellsOf e + j)]?).getD undef) h0 trivial hb helen (by omega) (by simp) ?_ ?_
       ·intro i j x hx
        obtain ⟨v, g1, g2, g3⟩ := hoff i j x hx
        exact ⟨by rw [g1]; rfl, by rw [g1]; exact g2⟩
       ·intro i j x hx
        obtain ⟨v, g1, g2, g3⟩ := hoff i j x hx
        show RP w _ x ((c[ao + (i * P.cellsOf e + j)]?).getD undef)
        rw [g1]; exact g3
      rw [hlen] at hr
      exact hr
  ·rename_i fs ht
   simp only [Bool.and_eq_true, List.all_eq_true] at hk
   obtain ⟨hcon, hk⟩ := hk
   obtain ⟨ys, m, _, _, hl, hyl, hat⟩ := DataW.trod_struct ht h
   have hall : ∀ i, i < fs.size → ∃ y : List AV, ∃ f, fs[i]? = some f ∧ Shape P n f.type y ∧ CR w y ((cs.drop f.offset).take (P.cellsOf f.type)) := by
    intro i hi
    have hf : fs[i]? = some fs[i] := by simp [hi]
    have h1 := hat i _ hf
    rw [List.getElem?_eq_getElem (by omega)] at h1
    obtain ⟨y, k1, k2⟩ := trod_shape n _ _ _ m (hk fs[i] (by simp)) h1
    exact ⟨y, _, hf, k1, k2⟩
   obtain ⟨ps, hlen, hps⟩ := exists_list fs.size hall
   refine ⟨ps.flatten, ⟨ps, rfl, hlen, fun i f p hf hp => ?_⟩, ?_⟩
   ·obtain ⟨f', g1, g2, _⟩ := hps i p hp
    rw [hf] at g1
    cases g1
    exact g2
   ·have e := contig_flat (P := P) cs hl fs.toList 0 hcon
    rw [List.drop_zero] at e
    rw [e]
    refine CR.flatten (by simp [hlen]) fun i p q hp hq => ?_
    obtain ⟨f, g1, _, g3⟩ := hps i p hp
    rw [List.getElem?_map] at hq
    have : fs.toList[i]? = some f := by simpa using g1
    rw [this] at hq
    simp only [Option.map_some, Option.some.injEq] at hq
    subst hq
    exact g3
  ·rename_i m e ht
   simp only [Bool.and_eq_true, beq_iff_eq] at hk
   obtain ⟨hcon, hk⟩ := hk
   obtain ⟨ys, m', _, _, hl, hyl, hat⟩ := DataW.trod_array ht h
   have hall : ∀ i, i < m → ∃ y : List AV, Shape P n e y ∧ CR w y ((cs.drop (i * P.cellsOf e)).take (P.cellsOf e)) := by
    intro i hi
    have h1 := hat i hi
    rw [List.getElem?_eq_getElem (by omega)] at h1
    obtain ⟨y, k1, k2⟩ := trod_shape n _ _ _ m' hk h1
    exact ⟨y, k1, k2⟩
   obtain ⟨ps, hlen, hps⟩ := exists_list m hall
   refine ⟨ps.flatten, ⟨ps, rfl, hlen, fun p hp => ?_⟩, ?_⟩
   ·obtain ⟨i, hi, rfl⟩ := List.mem_iff_getElem.1 hp
    exact (hps i _ (List.getElem?_eq_getElem hi)).1
   ·have e' := array_flat (P.cellsOf e) m 0 cs (by rw [hl, hcon]; omega)
    rw [List.drop_zero] at e'
    rw [e']
    refine CR.flatten (by simp [hlen]) fun i p q hp hq => ?_
    obtain ⟨_, g3⟩ := hps i p hp
    rw [List.getElem?_map] at hq
    have hi : i < m := by
     rcases Nat.lt_or_ge i m with h | h
     ·exact h
     ·rw [List.getElem?_eq_none (by omega)] at hp; cases hp
    rw [List.getElem?_range hi] at hq
    simp only [Option.map_some, Option.some.injEq, Nat.zero_add] at hq
    subst hq
    exact g3
  ·cases hk
def isAgg (P : Program) (t : TypeId) : Bool :=
 match P.underlying t with
 | some (.struct _) => true
 | some (.array _ _) => true
 | _ => false
def argOf (P : Program) (t : TypeId) (xs : List AV) : AV :=
 match isAgg P t with
 | true => .agg xs
 | false => xs.headD .undef
def ShapeAll (P : Program) (n : Nat) : List TypeId → List AV → Prop
 | [], [] => True
 | t :: ts, x :: xs => (∃ ys, Shape P n t ys ∧ x = argOf P t ys) ∧ ShapeAll P n ts xs
 | _, _ => False
def top (W : World) : Ctx := ⟨W, fun _ => False, fun _ => none, []⟩
theorem top_imm (W : World) (b : Nat) : Imm (top W) b := ⟨fun h => h, fun id h => by cases h⟩
theorem top_sim [GlobT] (FT : Nat → Option Nat) (W : World) (hg : GlobInv (top W)) : Sim FT (top W) where
 gl := hg
 inj := fun _ _ _ h => by cases h
 dom := fun _ _ h => by cases h
 nx := fun _ _ h => by cases h
 fresh := fun _ _ h => h
 lens := fun id s es h => by simp [top] at h
 blk := fun id s es b h => by simp [top] at h
 map := fun id es b h => by simp [top] at h
 raw := fun id q b h => by simp [top] at h
theorem rv_arg [GlobT] {FT : Nat → Option Nat} {n base' : Nat} {t : TypeId} {v : Value} {d : DataW H} {ps : List MemPlace} (hok : Value.okWide P w .any base' t v) (hT : okT P n t = true)
  (h : DataW.Trod enc P w base spare held t v d ps) : ∃ ys, Shape P n t ys ∧ RV FT (top w) (argOf P t ys) v := by
 obtain ⟨fuel, h⟩ := h
 obtain ⟨ys, h1, h2⟩ := trod_shape n t _ _ fuel hT h
 refine ⟨ys, h1, ?_⟩
 have hup : ∀ {x : AV} {u : Value}, RP w (fun _ => True) x u → RP (top w).w (Imm (top w)) x u := fun hr => hr.mono fun b o _ hb => ⟨top_imm w b, hb⟩
 have hagg : ∀ cs : Array Value, v = .agg cs → RV FT (top w) (.agg ys) v := by
  intro cs e
  subst e
  simp only [Value.cells] at h2
  refine .agg ys cs (fun i => (cs[i]?).getD undef) (by have := h2.1; simpa using this.symm) (fun i x hx => ?_) (fun i x hx => ?_)
  ·obtain ⟨u, g1, g2, g3⟩ := h2.2 i x hx
   have : cs[i]? = some u := by simpa using g1
   exact ⟨by rw [this]; rfl, by rw [this]; exact g2⟩
  ·obtain ⟨u, g1, g2, g3⟩ := h2.2 i x hx
   have : cs[i]? = some u := by simpa using g1
   show RV FT (top w) x ((cs[i]?).getD undef)
   rw [this]
   exact .pure _ _ (hup g3)
 unfold Value.okWide at hok
 unfold argOf isAgg
 split at hok
 ·rename_i fs ht
  obtain ⟨cs, rfl, _⟩ := hok
  simp only [ht]
  exact hagg cs rfl
 ·rename_i m e ht
  obtain ⟨cs, rfl, _⟩ := hok
  simp only [ht]
  exact hagg cs rfl
 ·rename_i hn1 hn2
  have hne : ∀ cs, v ≠ .agg cs := by
   intro cs e
   subst e
   unfold Cell.okWide Cell.ok at hok
   revert hok
   cases P.underlying t with
   | none => simp
   | some u => cases u <;> simp
  have hcells : v.cells = #[v] := by
   cases v <;> first | rfl | exact absurd rfl (hne _)
  rw [hcells] at h2
  have : (match P.underlying t with | some (.struct _) => true | some (.array _ _) => true | _ => false) = false := by
   split
   ·rename_i ht; exact absurd ht (hn1 _)
   ·rename_i ht; exact absurd ht (hn2 _ _)
   ·rfl
  rw [this]
  obtain ⟨g0, g⟩ := h2
  match ys, g0, g with
  | [], g0, _ => simp at g0
  | y :: r, _, g =>
   obtain ⟨u, g1, _, g3⟩ := g 0 y rfl
   simp at g1
   subst g1
   exact .pure _ _ (hup g3)
theorem rv_args [GlobT] {FT : Nat → Option Nat} {n base' : Nat} : ∀ (ts : List TypeId) (vs : List Value) (ds : List (DataW H)) (ps : List MemPlace),
  (∀ (j : Nat) t v, ts[j]? = some t → vs[j]? = some v → Value.okWide P w .any base' t v) → ts.all (okT P n) = true → DataW.TrodAll enc P w base spare held ts vs ds ps →
  ∃ xs, ShapeAll P n ts xs ∧ xs.length = vs.length ∧ ∀ (i : Nat) x, xs[i]? = some x → ∃ v, vs[i]? = some v ∧ RV FT (top w) x v
 | [], [], [], _, _, _, _ => ⟨[], trivial, rfl, fun i x hx => by simp at hx⟩
 | t :: ts, v :: vs, d :: ds, ps, hok, hT, h => by
  obtain ⟨p, q, h1, h2, _⟩ := h
  simp only [List.all_cons, Bool.and_eq_true] at hT
  obtain ⟨ys, k1, k2⟩ := rv_arg (FT := FT) (hok 0 t v rfl rfl) hT.1 h1
  obtain ⟨xs, g1, g2, g3⟩ := rv_args ts vs ds q (fun j t' v' e1 e2 => hok (j + 1) t' v' (by simpa using e1) (by simpa using e2)) hT.2 h2
  refine ⟨argOf P t ys :: xs, ⟨⟨ys, k1, rfl⟩, g1⟩, by simp [g2], fun i x hx => ?_⟩
  cases i with
  | zero =>
   simp only [List.getElem?_cons_zero, Option.some.injEq] at hx
   subst hx
   exact ⟨v, rfl, k2⟩
  | succ i =>
   simp only [List.getElem?_cons_succ] at hx ⊢
   exact g3 i x hx
 | [], [], _ :: _, _, _, _, h => h.elim
 | [], _ :: _, _, _, _, _, h => h.elim
 | _ :: _, [], _, _, _, _, h => h.elim
 | _ :: _, _ :: _, [], _, _, _, h => h.elim
theorem trodAll_below [GlobT] {ts : List TypeId} (hl : laidOutB P = true) {W W' : World} (hb : Below W.heap.size W W') : ∀ (ts : List TypeId) (vs : List Value) (ds : List (DataW H)) (ps : List MemPlace),
  (∀ t ∈ ts, P.readableRec t = true ∧ t < P.types.size) → (∀ x ∈ ps, x.block < W.heap.size) → DataW.TrodAll enc P W 0 (fun _ => true) true ts vs ds ps →
  DataW.TrodAll enc P W' 0 (fun b => decide (b < W.heap.size)) true ts vs ds ps
 | [], [], [], _, _, _, h => h
 | t :: ts, v :: vs, d :: ds, ps, hr, hlt, h => by
  obtain ⟨p, q, h1, h2, rfl⟩ := h
  exact ⟨p, q, Below.trod hl (hr t (by simp)).1 (hr t (by simp)).2 h1 hb fun x hx => hlt x (by simp [hx]),
   trodAll_below (ts := ts) hl hb ts vs ds q (fun t' ht' => hr t' (by simp [ht'])) (fun x hx => hlt x (by simp [hx])) h2, rfl⟩
 | [], [], _ :: _, _, _, _, h => h.elim
 | [], _ :: _, _, _, _, _, h => h.elim
 | _ :: _, [], _, _, _, _, h => h.elim
 | _ :: _, _ :: _, [], _, _, _, h => h.elim
theorem law_contract [GlobT] {T : List AFun} (hm : P.follows .mixedOrders = true) (hT : Checked P T) (hPr : PrimOK P T) {vi f n : Nat} {fn : Func} (hvi : ftOf T vi = some f) {s : ChangeSpec} (hvars : s.vars = []) {tb : TypeId} (hrt : fn.resultTypes = #[tb]) (htb : P.underlying tb = some .bool)
  (hl : laidOutB P = true) (hts : ∀ t ∈ fn.params.toList, P.readableRec t = true ∧ t < P.types.size) (hok : fn.params.toList.all (okT P n) = true)
  (hev : ∀ xs, ShapeAll P n fn.params.toList xs → ∃ k H', evF P T k 0 vi xs [] = some (.lit (.bool true), H'))
  {W : World} {base' : Nat} {args : Array Value} {ds gs : List (DataW H)} {before : List MemPlace} {fresh handsOn : Bool} (hgl : GlobInv (top W))
  (hfn : (s.fn H (ds ++ gs)).results = [.lit (.bool true)] ∧ (s.fn H (ds ++ gs)).args = ds ∧ (s.fn H (ds ++ gs)).vars = [])
  (hval : ∀ (j : Nat) t v, fn.params[j]? = some t → args[j]? = some v → Value.okWide P W .any base' t v)
  (hW : DataW.Whole enc P fn.params.toList s.vars false W args.toList ds gs before) :
  Calls P f args W fun e W' => ∃ v, e = .returned v ∧ s.post enc P fn false fresh handsOn false W args v W' := by
 have hW' := hW
 obtain ⟨p, q, hA, hV, rfl, hfz, hnd⟩ := hW
 obtain ⟨xs, g1, g2, g3⟩ := rv_args (FT := ftOf T) (n := n) fn.params.toList args.toList ds p (fun j t v e1 e2 => hval j t v (by simpa using e1) (by simpa using e2)) hok hA
 obtain ⟨k, H', he⟩ := hev xs g1
 have hargs : ArgsR (ftOf T) (top W) xs args := ⟨by simpa using g2.symm, fun i x hx => by
  obtain ⟨v, h1, h2⟩ := g3 i x hx
  exact ⟨v, by simpa using h1, h2⟩⟩
 refine (evF_sound hm hT hPr k 0 vi f xs _ H' (top W) args he hvi (top_sim _ W hgl) (Nat.zero_le _) hargs).mono fun e W' hq => ?_
 obtain ⟨v, c', rfl, rfl, _, _, hst, _, hrv⟩ := hq
 have hv : v = .bool true := hrv.lit_inv
 subst hv
 have hb : Below W.heap.size W c'.w := ⟨hst.os, hst.tape, hst.output, hst.size, fun i hi => hst.frame i hi (fun id h => by cases h)⟩
 have hq0 : gs = [] ∧ q = [] := by
  rw [hvars] at hV
  cases gs with
  | nil => exact ⟨rfl, hV⟩
  | cons _ _ => exact hV.elim
 obtain ⟨rfl, rfl⟩ := hq0
 have hlt : ∀ x ∈ p, x.block < W.heap.size := fun x hx => hW'.lt x (by simpa using hx)
 have hA' := trodAll_below (ts := []) hl hb fn.params.toList args.toList ds p hts hlt hA
 refine ⟨_, rfl, ds, [], p ++ [], [], p, [], hW', ?_, ?_, ?_, hb.frame _, fun h => by cases h⟩
 ·rw [hfn.1, hrt]
  exact ⟨[], [], shut_bool htb _, rfl, rfl⟩
 ·rw [hfn.2.1]
  exact hA'
 ·rw [hvars, hfn.2.2]
  rfl
end
end Go.Proofs.YtmflphfmefakfaaGreatDoor.Av
namespace Go.Proofs.YtmflphfmefakfaaGreatDoor.Av
open Go
def pv [GlobT] (P : Program) (T : List AFun) (n vi : Nat) (args : List AV) : Option AV :=
 match evF P T n 0 vi args [] with
 | some (r, H') => some (seal3 H' 0 r)
 | none => none
theorem callA_pv [GlobT] {P : Program} {T : List AFun} {n fl vi : Nat} {args : List AV} {H : Heap} :
  callA (evF P T n) fl true vi args H = match plainAll args with
   | true => (match pv P T n vi (args.map nrm2) with | some r => some (r, H) | none => none)
   | false => (match evF P T n H.length vi (args.map nrm2) H with | some (r, H') => some (seal3 H' H.length r, H) | none => none) := by
 unfold callA pv
 cases plainAll args with
 | false => rfl
 | true =>
  simp only
  cases evF P T n 0 vi (args.map nrm2) [] with
  | none => rfl
  | some x => rfl
theorem callA_im [GlobT] {P : Program} {T : List AFun} {n fl vi : Nat} {args : List AV} {H : Heap} : callA (evF P T n) fl false vi args H = evF P T n fl vi args H := rfl
def finA [GlobT] (F : AFun) : Option (AExit × St) → Option (AV × Heap)
 | some (.normal, st) => match retsA st F.rets with
  | some vs => some (packA vs, st.heap)
  | none => none
 | some (.ret, st) => match retsA st F.rets with
  | some vs => some (packA vs, st.heap)
  | none => none
 | _ => none
theorem evF_at [GlobT] {P : Program} {T : List AFun} {n fl vi : Nat} {args : List AV} {H : Heap} (F : AFun) (h : getF T vi = some F) :
  evF P T (n + 1) fl vi args H = finA F (evC P (evF P T n) n fl F.body ⟨args ++ List.replicate (F.nt - args.length) (.lit undefV), H⟩) := by
 have hp : GlobT.prim vi = none := by
  unfold getF at h
  split at h
  ·cases h
  ·assumption
 have h' : T[vi]? = some F := by simpa only [getF, hp] using h
 simp only [evF, hp, h', finA]
 split <;> split <;> simp_all
def sealO : Option (AV × Heap) → Option AV
 | some (r, H') => some (seal3 H' 0 r)
 | none => none
theorem pv_at [GlobT] {P : Program} {T : List AFun} {n vi : Nat} {args : List AV} (F : AFun) (h : getF T vi = some F) :
  pv P T (n + 1) vi args = sealO (finA F (evC P (evF P T n) n 0 F.body ⟨args ++ List.replicate (F.nt - args.length) (.lit undefV), []⟩)) := by
 unfold pv
 rw [evF_at F h]
 rfl
theorem evF_of_pv [GlobT] {P : Program} {T : List AFun} {n vi : Nat} {args : List AV} {b : Bool} (h : pv P T n vi args = some (.lit (.bool b))) : ∃ H', evF P T n 0 vi args [] = some (.lit (.bool b), H') := by
 unfold pv at h
 split at h
 ·rename_i r H' he
  simp only [Option.some.injEq] at h
  refine ⟨H', ?_⟩
  rw [he]
  cases r with
  | lit v =>
   simp only [seal3, seal2, seal1, nrmV] at h
   revert h
   split
   ·split
    ·split
     ·split
      ·intro h; cases h
      ·intro h; cases h
     ·intro h; cases h
    ·intro h; cases h
   ·intro h; simp only [AV.lit.injEq] at h; rw [h]
  | agg cs => simp [seal3, seal2] at h
  | tup cs => simp [seal3] at h
  | fn vi caps => cases caps <;> simp [seal3, seal2, seal1] at h
  | ms id tot off len =>
   simp only [seal3, seal2, seal1, Nat.not_lt_zero, if_false, sealDepth, sealC, Nat.zero_le, if_true] at h
   split at h <;> cases h
  | ptr => simp [seal3, seal2, seal1] at h
  | mp => simp [seal3, seal2, seal1] at h
  | it => simp [seal3, seal2, seal1] at h
  | _ => simp [seal3, seal2, seal1] at h
 ·cases h
theorem evLoop_run [GlobT] {head : St → St} {step : St → Option (AExit × St)} {x : AExit} {stx : St} (hx : x ≠ .normal) (S : Nat → St) : ∀ (k : Nat) (n : Nat) (st : St), head st = S 0 → k < n →
  (∀ i, i < k → ∃ st', step (S i) = some (.normal, st') ∧ head st' = S (i + 1)) → step (S k) = some (x, stx) → evLoop head step n st = some (x, stx)
 | 0, n, st, h0, hn, _, hend => by
  obtain ⟨m, rfl⟩ : ∃ m, n = m + 1 := ⟨n - 1, by omega⟩
  simp only [evLoop, h0, hend]
  cases x with
  | normal => exact (hx rfl).elim
  | exit => rfl
  | ret => rfl
 | k + 1, n, st, h0, hn, hstep, hend => by
  obtain ⟨m, rfl⟩ : ∃ m, n = m + 1 := ⟨n - 1, by omega⟩
  obtain ⟨st', h1, h2⟩ := hstep 0 (by omega)
  simp only [evLoop, h0, h1]
  exact evLoop_run hx (fun i => S (i + 1)) k m st' h2 (by omega) (fun i hi => hstep (i + 1) (by omega)) hend
def nextIs (head : St → St) : Option (AExit × St) → St → Prop
 | some (.normal, st), s => head st = s
 | _, _ => False
theorem nextIs_ex {head : St → St} {r : Option (AExit × St)} {s : St} (h : nextIs head r s) : ∃ st', r = some (.normal, st') ∧ head st' = s := by
 unfold nextIs at h
 split at h
 ·exact ⟨_, rfl, h⟩
 ·exact h.elim
theorem evLoop_eq [GlobT] {head : St → St} {step : St → Option (AExit × St)} {x : AExit} {stx : St} {n k : Nat} {st : St} (S : Nat → St) (hx : x ≠ .normal) (h0 : head st = S 0) (hn : k < n)
  (hstep : ∀ i, i < k → nextIs head (step (S i)) (S (i + 1))) (hend : step (S k) = some (x, stx)) : evLoop head step n st = some (x, stx) :=
 evLoop_run hx S k n st h0 hn (fun i hi => nextIs_ex (hstep i hi)) hend
section
variable {P : Program} {cf : Nat → Nat → List AV → Heap → Option (AV × Heap)} {lf fl : Nat} {st : St}
theorem evC_skip [GlobT] : evC P cf lf fl .skip st = some (.normal, st) := rfl
theorem evC_region [GlobT] {d : Bool} {ops : List AOper} : evC P cf lf fl (.region d [] ops) st = (match evOps P cf fl ops st with | some st => some (.normal, st) | none => none) := rfl
theorem evC_seq [GlobT] {a b : ACode} : evC P cf lf fl (.seq a b) st = (match evC P cf lf fl a st with | some (.normal, st) => evC P cf lf fl b st | r => r) := rfl
theorem evC_cond [GlobT] {c : AOpd} {a b : ACode} : evC P cf lf fl (.cond c a b) st = (match getOpd st.tmps c with | .lit (.bool true) => evC P cf lf fl a st | .lit (.bool false) => evC P cf lf fl b st | _ => none) := rfl
theorem evC_block [GlobT] {id : Nat} {c : ACode} : evC P cf lf fl (.block id c) st = (match evC P cf lf fl c st with | some (.exit i, st) => if i = id then some (.normal, st) else some (.exit i, st) | r => r) := rfl
theorem evC_loop [GlobT] {live : Option (List Bool)} {tr : Bool} {c : ACode} : evC P cf lf fl (.loop live tr c) st = evLoop (headSt live tr fl st.heap.length) (evC P cf lf fl c) lf st := rfl
theorem evC_exit [GlobT] {id : Nat} : evC P cf lf fl (.exit id) st = some (.exit id, st) := rfl
theorem evC_ret [GlobT] : evC P cf lf fl .ret st = some (.ret, st) := rfl
theorem evC_frz [GlobT] {t : Nat} {c : ACode} : evC P cf lf fl (.frz t c) st = (match evOp P cf fl (.freeze (.tmp t)) st.tmps st.heap with | some (v, H) => evC P cf lf fl c ⟨st.tmps.set t v, H⟩ | none => none) := rfl
end
theorem beq_tf : (true == false) = false := rfl
theorem beq_ft : (false == true) = false := rfl
theorem beq_tt : (true == true) = true := rfl
theorem beq_ff : (false == false) = true := rfl
theorem pr_not {P : Program} (b : Bool) : pureRun P (Op.unary .not (.bool b)) = some (.bool (!b)) := rfl
theorem pr_neg {P : Program} (k : IntKind) (n : Int) : pureRun P (Op.unary .neg (.int k n)) = some (.int k (k.wrap (0 - n))) := rfl
theorem pr_max {P : Program} (a b : Int) : pureRun P (Builtin.max_ #[] 0 #[.int .i64 a, .int .i64 b]) = some (.int .i64 (if a < b then b else a)) := by
 by_cases h : a < b <;> simp [Builtin.max_, Builtin.max2, h] <;> rfl
theorem pr_seq {P : Program} {t : TypeId} (a b : ByteArray) : pureRun P (binOp .eql t (.string a) (.string b)) = some (.bool (a.toList == b.toList)) := rfl
theorem pr_sne {P : Program} {t : TypeId} (a b : ByteArray) : pureRun P (binOp .neq t (.string a) (.string b)) = some (.bool (!(a.toList == b.toList))) := rfl
theorem pr_gs {P : Program} {t : TypeId} {op : BinOp} (x y : Operand) (a b : ByteArray) : pureRun P (eqGuard op t x y (.string a) (.string b)) = some () := by cases op <;> rfl
theorem pr_gb {P : Program} {t : TypeId} {op : BinOp} (x y : Operand) (a b : Bool) : pureRun P (eqGuard op t x y (.bool a) (.bool b)) = some () := by cases op <;> rfl
theorem appendA_ms {fl id s bytes tot : Nat} {H : Heap} {es ys : List (List AV)} (hid : H[id]? = some (.blk s es)) (hes : es.length = tot) (hys : allLen s ys = true) (hs : 0 < s) (hr : room ys.length bytes = true)
  (hr2 : room (tot + ys.length) bytes = true) (hfl : fl ≤ id) :
  appendA fl H s bytes (.ms id tot 0 tot) ys = some (.ms id (tot + ys.length) 0 (tot + ys.length), H.set id (.blk s (es ++ ys))) := by
 have hlt : id < H.length := by
  rcases Nat.lt_or_ge id H.length with h | h
  ·exact h
  ·rw [List.getElem?_eq_none h] at hid; cases hid
 unfold appendA
 simp only [hys, hs, hr, hid, hes, hr2, hfl, and_self, if_true]
 by_cases h0 : ys.length = 0
 ·have : ys = [] := List.length_eq_zero_iff.1 h0
  subst this
  simp only [List.length_nil, Nat.add_zero, List.append_nil, if_true, Option.some.injEq, Prod.mk.injEq, true_and]
  apply List.ext_getElem?
  intro i
  rw [List.getElem?_set]
  split
  ·rename_i hi; subst hi; first | exact hid | (rw [if_pos hlt]; exact hid)
  ·rfl
 ·simp only [h0, if_false]
end Go.Proofs.YtmflphfmefakfaaGreatDoor.Av
namespace Go.Proofs.YtmflphfmefakfaaGreatDoor.Av
open Go
abbrev PropOf {p : Prop} (_ : p) : Prop := p
def AllP : List Prop → Prop
 | [] => True
 | p :: r => p ∧ AllP r
structure Orc where
 O : List (Nat × AV × Option Heap)
 B : List (Nat × Bool)
structure OSt where
 st : St
 L : List (AExit × St)
 M : List (Option Heap)
 ps : List Prop
def look {α : Type} (t : Nat) : List (Nat × α) → Option α
 | [] => none
 | (u, a) :: r => match Nat.beq u t with | true => some a | false => look t r
def isB (x : AV) (b : Bool) : Prop := match x with
 | .lit (.bool y) => y = b
 | _ => False
theorem isB_eq {x : AV} {b : Bool} (h : isB x b) : x = .lit (.bool b) := by
 unfold isB at h
 split at h
 ·rw [h]
 ·exact h.elim
def pvc (cf : Nat → Nat → List AV → Heap → Option (AV × Heap)) (vi : Nat) (args : List AV) : Option AV :=
 match cf 0 vi args [] with
 | some (r, H') => some (seal3 H' 0 r)
 | none => none
def idxA (H : Heap) (s : Nat) (x i : AV) : Option AV :=
 match natOf i with
 | some i => match x with
  | .sl _ es => match es[i]? with
   | some e => if e.length = s then some (.rptr e) else none
   | none => none
  | .ms id tot off len => match H[id]? with
   | some (.blk s' es) => if s' = s ∧ es.length = tot ∧ i < len then some (.ptr id tot (off + i) 0) else none
   | _ => none
  | _ => none
 | none => none
def ibA (op : BinOp) (x y : AV) : Option AV :=
 match x, y with
 | .lit (.int k a), .lit (.int k' b) => if k = k' then match ibinV op k a b with
   | some v => some (.lit v)
   | none => none
  else none
 | _, _ => none
section
variable (P : Program) (cf : Nat → Nat → List AV → Heap → Option (AV × Heap)) (fl : Nat)
def getO [GlobT] (tm : List AV) : Option AOpd → AV
 | none => .undef
 | some x => getOpd tm x
def stk [GlobT] (op : AOp) (tm : List AV) (H : Heap) (v : AV) (h : Option Heap) : Prop :=
 match op with
 | .call pu vi args =>
  match pu with
  | true => match plainAll (args.map (getOpd tm)) with
   | true => match h with
    | none => pvc cf vi ((args.map (getOpd tm)).map nrm2) = some v
    | some _ => False
   | false => callA cf fl true vi (args.map (getOpd tm)) H = some (v, h.getD H)
  | false => cf fl vi (args.map (getOpd tm)) H = some (v, h.getD H)
 | .callv pu x args => match getOpd tm x with
  | .fn vi caps => callA cf fl pu vi (args.map (getOpd tm) ++ caps) H = some (v, h.getD H)
  | _ => False
 | .idxAddr s x i => match h with
  | none => idxA H s (getOpd tm x) (getOpd tm i) = some v
  | some _ => False
 | .ibin op x y => match h with
  | none => ibA op (getOpd tm x) (getOpd tm y) = some v
  | some _ => False
 | .append s bytes x y => (match rd H (getOpd tm y) with | some ys => appendA fl H s bytes (getOpd tm x) ys | none => none) = some (v, h.getD H)
 | .lenS x => evOp P cf fl (.lenS (.tmp 0)) [getOpd tm x] H = some (v, h.getD H)
 | .un op x => evOp P cf fl (.un op (.tmp 0)) [getOpd tm x] H = some (v, h.getD H)
 | .bin op t x y => evOp P cf fl (.bin op t (.tmp 0) (.tmp 1)) [getOpd tm x, getOpd tm y] H = some (v, h.getD H)
 | .lookup kt z m k ok => evOp P cf fl (.lookup kt (.tmp 2) (.tmp 0) (.tmp 1) ok) [getOpd tm m, getOpd tm k, getOpd tm z] H = some (v, h.getD H)
 | .load agg n x => evOp P cf fl (.load agg n (.tmp 0)) [getOpd tm x] H = some (v, h.getD H)
 | .appendZ s b z x n => evOp P cf fl (.appendZ s b z (.tmp 0) (.tmp 1)) [getOpd tm x, getOpd tm n] H = some (v, h.getD H)
 | .mkSlice s z b x n => evOp P cf fl (.mkSlice s z b (.tmp 0) (.tmp 1)) [getOpd tm x, getOpd tm n] H = some (v, h.getD H)
 | .minmax mx xs => evOp P cf fl (.minmax mx ((List.range xs.length).map .tmp)) (xs.map (getOpd tm)) H = some (v, h.getD H)
 | .slice s x lo hi mx => evOp P cf fl (.slice s (.tmp 0) (lo.map fun _ => .tmp 1) (hi.map fun _ => .tmp 2) (mx.map fun _ => .tmp 3)) [getOpd tm x, getO tm lo, getO tm hi, getO tm mx] H = some (v, h.getD H)
 | .strSlice t x lo hi => evOp P cf fl (.strSlice t (.tmp 0) (lo.map fun _ => .tmp 1) (hi.map fun _ => .tmp 2)) [getOpd tm x, getO tm lo, getO tm hi] H = some (v, h.getD H)
 | .strIdx t x i => evOp P cf fl (.strIdx t (.tmp 0) (.tmp 1)) [getOpd tm x, getOpd tm i] H = some (v, h.getD H)
 | .lenStr t x => evOp P cf fl (.lenStr t (.tmp 0)) [getOpd tm x] H = some (v, h.getD H)
 | .conv a b x => evOp P cf fl (.conv a b (.tmp 0)) [getOpd tm x] H = some (v, h.getD H)
 | .lenM x => evOp P cf fl (.lenM (.tmp 0)) [getOpd tm x] H = some (v, h.getD H)
 | .copy s x y => evOp P cf fl (.copy s (.tmp 0) (.tmp 1)) [getOpd tm x, getOpd tm y] H = some (v, h.getD H)
 | .index agg s n x i => evOp P cf fl (.index agg s n (.tmp 0) (.tmp 1)) [getOpd tm x, getOpd tm i] H = some (v, h.getD H)
 | .nextStr x => evOp P cf fl (.nextStr (.tmp 0)) [getOpd tm x] H = some (v, h.getD H)
 | op => evOp P cf fl op tm H = some (v, h.getD H)
def stn [GlobT] (op : AOp) (tm : List AV) (H H' : Heap) : Prop :=
 match op with
 | .mapUpd kt m k v => evOp P cf fl (.mapUpd kt (.tmp 0) (.tmp 1) (.tmp 2)) [getOpd tm m, getOpd tm k, getOpd tm v] H = some (.lit undefV, H')
 | .store n x v => evOp P cf fl (.store n (.tmp 0) (.tmp 1)) [getOpd tm x, getOpd tm v] H = some (.lit undefV, H')
 | .call pu vi args => ∃ v, callA cf fl pu vi (args.map (getOpd tm)) H = some (v, H')
 | .callv pu x args => match getOpd tm x with
  | .fn vi caps => ∃ v, callA cf fl pu vi (args.map (getOpd tm) ++ caps) H = some (v, H')
  | _ => False
 | op => ∃ v, evOp P cf fl op tm H = some (v, H')
theorem stn_ok [GlobT] {op : AOp} {tm : List AV} {H H' : Heap} (k : stn P cf fl op tm H H') : ∃ v, evOp P cf fl op tm H = some (v, H') := by
 unfold stn at k
 split at k
 ·exact ⟨_, k⟩
 ·exact ⟨_, k⟩
 ·exact k
 ·rename_i pu x args
  split at k
  ·rename_i vi caps hx
   simp only [evOp, hx]
   exact k
  ·exact k.elim
 ·exact k
theorem getOpd_range [GlobT] (xs : List AV) : ((List.range xs.length).map AOpd.tmp).map (getOpd xs) = xs := by
 apply List.ext_getElem?
 intro i
 simp only [List.getElem?_map]
 rcases Nat.lt_or_ge i xs.length with h | h
 ·rw [List.getElem?_range h, List.getElem?_eq_getElem h]
  simp [getOpd, List.getElem?_eq_getElem h]
 ·rw [List.getElem?_eq_none (by simpa using h), List.getElem?_eq_none h]
  rfl
theorem stk_ok [GlobT] {op : AOp} {tm : List AV} {H : Heap} {v : AV} {h : Option Heap} (k : stk P cf fl op tm H v h) : evOp P cf fl op tm H = some (v, h.getD H) := by
 unfold stk at k
 split at k
 ·rename_i pu vi args
  show callA cf fl pu vi (args.map (getOpd tm)) H = _
  split at k
  ·split at k
   ·rename_i hp
    split at k
    ·unfold pvc at k
     unfold callA
     simp only [hp]
     split at k
     ·rename_i r H' he
      rw [he]
      simp only [Option.some.injEq] at k
      simp [k]
     ·cases k
    ·exact k.elim
   ·exact k
  ·exact k
 ·rename_i pu x args
  split at k
  ·rename_i vi caps hx
   simp only [evOp, hx]
   exact k
  ·exact k.elim
 ·rename_i s x i
  split at k
  ·unfold idxA at k
   simp only [evOp]
   split at k
   ·rename_i j hj
    simp only [hj]
    split at k
    ·rename_i es hx
     simp only [hx]
     split at k
     ·rename_i e he
      simp only [he]
      split at k
      ·rename_i hl
       simp only [hl, if_true]
       cases k
       rfl
      ·cases k
     ·cases k
    ·rename_i id tot off len hx
     simp only [hx]
     split at k
     ·rename_i s' es he
      simp only [he]
      split at k
      ·rename_i hl
       rw [if_pos hl]
       cases k
       rfl
      ·cases k
     ·cases k
    ·cases k
   ·cases k
  ·exact k.elim
 ·rename_i op x y
  split at k
  ·unfold ibA at k
   simp only [evOp]
   split at k
   ·rename_i k1 a k2 b h1 h2
    simp only [h1, h2]
    split at k
    ·rename_i hk
     rw [if_pos hk]
     split at k
     ·rename_i u hu
      simp only [hu]
      cases k
      rfl
     ·cases k
    ·cases k
   ·cases k
  ·exact k.elim
 ·simp only [evOp]
  split at k
  ·rename_i ys hy
   simp only [hy]
   exact k
  ·cases k
 ·exact k
 ·exact k
 ·exact k
 ·exact k
 ·exact k
 ·exact k
 ·exact k
 ·rename_i mx xs
  simp only [evOp] at k ⊢
  have := getOpd_range (xs.map (getOpd tm))
  rw [List.length_map] at this
  rw [this] at k
  exact k
 ·rename_i s x lo hi mx
  cases lo <;> cases hi <;> cases mx <;> exact k
 ·rename_i t x lo hi
  cases lo <;> cases hi <;> exact k
 ·exact k
 ·exact k
 ·exact k
 ·exact k
 ·exact k
 ·exact k
 ·exact k
 ·exact k
def evLoopH (head : St → St) (step : St → Option (AExit × St)) : Nat → St → Option (AExit × St)
 | 0, _ => none
 | n + 1, st => match step st with
  | some (.normal, st) => evLoop head step n st
  | r => r
theorem evLoopH_eq {head : St → St} {step : St → Option (AExit × St)} (n : Nat) (st : St) : evLoop head step n st = evLoopH head step n (head st) := by
 cases n <;> rfl
def cleanQ (tr : Bool) (fl n : Nat) (H : Heap) : Prop := match tr with
 | true => (H.drop fl).map (cleanObj n) = H.drop fl
 | false => True
def headO (live : Option (List Bool)) (tr : Bool) (n : Nat) (st : St) : St := match tr with
 | true => ⟨(maskO live st.tmps).map (clean3 n), st.heap.take n⟩
 | false => ⟨maskO live st.tmps, st.heap⟩
theorem headO_eq {live : Option (List Bool)} {tr : Bool} {fl n : Nat} {st : St} (hn : Nat.ble fl n = true) (h : cleanQ tr fl n (headO live tr n st).heap) : headSt live tr fl n st = headO live tr n st := by
 cases tr with
 | false => rfl
 | true =>
  simp only [cleanQ, headO] at h
  simp only [headSt, headO, if_true, h]
  congr 1
  have : st.heap.take fl = (st.heap.take n).take fl := by rw [List.take_take, Nat.min_eq_left (Nat.le_of_ble_eq_true hn)]
  rw [this, List.take_append_drop]
def maskO2 (lx lr : List Bool) (tr : Bool) (n : Nat) (x : AExit) (st : St) : St := match x with
 | .ret => ⟨maskL lr st.tmps, st.heap⟩
 | .normal => headO (some lx) tr n st
 | .exit _ => headO (some lx) tr n st
def cleanX (tr : Bool) (fl n : Nat) (x : AExit) (H : Heap) : Prop := match x with
 | .ret => True
 | .normal => cleanQ tr fl n H
 | .exit _ => cleanQ tr fl n H
theorem maskO2_eq [GlobT] {lx lr : List Bool} {tr : Bool} {fl n : Nat} {x : AExit} {st : St} (hn : Nat.ble fl n = true) (h : cleanX tr fl n x (maskO2 lx lr tr n x st).heap) : maskR lx lr tr fl n (some (x, st)) = some (x, maskO2 lx lr tr n x st) := by
 cases x with
 | ret => rfl
 | normal => simp only [maskR, maskO2]; rw [headO_eq hn h]
 | exit i => simp only [maskR, maskO2]; rw [headO_eq hn h]
def headVO [GlobT] (live : List Bool) (t n : Nat) (st : St) : St :=
 match getOpd st.tmps (.tmp t) with
 | .ms id tot off len => match Nat.ble n id with
  | true => match st.heap[id]? with
   | some (.blk s es) => ⟨((maskL live st.tmps).map (clean3 n)).set t (.ms n tot off len), st.heap.take n ++ [.blk s es]⟩
   | _ => headO (some live) true n st
  | false => headO (some live) true n st
 | _ => headO (some live) true n st
theorem headVO_eq [GlobT] {live : List Bool} {t fl n : Nat} {st : St} (hn : Nat.ble fl n = true) (h : cleanQ true fl n (headVO live t n st).heap) : headV live t fl n st = headVO live t n st := by
 have hfn := Nat.le_of_ble_eq_true hn
 unfold headVO at h ⊢
 unfold headV
 split
 ·rename_i id tot off len hx
  simp only [hx] at h ⊢
  split
  ·rename_i hid
   rw [Nat.ble_eq_true_of_le hid] at h ⊢
   simp only at h ⊢
   split
   ·rename_i s es hob
    simp only [hob, cleanQ] at h
    have hlt : id < st.heap.length := (List.getElem?_eq_some_iff.1 hob).1
    have hl : (st.heap.take n).length = n := by simp; omega
    rw [List.drop_append_of_le_length (by omega), List.map_append] at h
    have h1 := List.append_inj_left' h (by simp)
    have h2 := List.append_inj_right' h (by simp)
    simp only [List.map_cons, List.map_nil, List.cons.injEq, and_true] at h2
    have hh : st.heap.take fl ++ (st.heap.take n).drop fl = st.heap.take n := by
     have : st.heap.take fl = (st.heap.take n).take fl := by rw [List.take_take, Nat.min_eq_left hfn]
     rw [this, List.take_append_drop]
    simp only [hob, h1, h2, hh]
   ·rename_i hob
    split at h
    ·rename_i s es hob'
     exact (hob s es hob').elim
    ·exact headO_eq hn h
  ·rename_i hid
   have : Nat.ble n id = false := by
    cases hb : Nat.ble n id with
    | false => rfl
    | true => exact (hid (Nat.le_of_ble_eq_true hb)).elim
   rw [this] at h ⊢
   exact headO_eq hn h
 ·rename_i hx
  split at h
  ·rename_i id tot off len hx'
   exact (hx id tot off len hx').elim
  ·exact headO_eq hn h
def maskVO [GlobT] (lx lr : List Bool) (t n : Nat) (x : AExit) (st : St) : St := match x with
 | .ret => ⟨maskL lr st.tmps, st.heap⟩
 | .normal => headVO lx t n st
 | .exit _ => headVO lx t n st
theorem maskVO_eq [GlobT] {lx lr : List Bool} {t fl n : Nat} {x : AExit} {st : St} (hn : Nat.ble fl n = true) (h : cleanX true fl n x (maskVO lx lr t n x st).heap) : maskV lx lr t fl n (some (x, st)) = some (x, maskVO lx lr t n x st) := by
 cases x with
 | ret => rfl
 | normal => simp only [maskV, maskVO]; rw [headVO_eq hn h]
 | exit i => simp only [maskV, maskVO]; rw [headVO_eq hn h]
def loopOf : ACode → Option (Option (List Bool) × Bool × ACode)
 | .loop live tr c => some (live, tr, c)
 | _ => none
theorem loopOf_eq {c : ACode} {live : Option (List Bool)} {tr : Bool} {b : ACode} (h : loopOf c = some (live, tr, b)) : c = .loop live tr b := by
 cases c <;> simp [loopOf] at h
 obtain ⟨rfl, rfl, rfl⟩ := h
 rfl
variable (o : Orc)
def oRun [GlobT] (a : AOper) (s : OSt) : Option OSt :=
 match a.dst with
 | some d => match look d o.O with
  | some (v, h) => some ⟨⟨s.st.tmps.set d v, h.getD s.st.heap⟩, s.L, s.M, stk P cf fl a.op s.st.tmps s.st.heap v h :: s.ps⟩
  | none => match evOp P cf fl a.op s.st.tmps s.st.heap with
   | some (v, H) => some ⟨⟨s.st.tmps.set d v, H⟩, s.L, s.M, s.ps⟩
   | none => none
 | none => match s.M with
  | some H' :: M => some ⟨⟨s.st.tmps, H'⟩, s.L, M, stn P cf fl a.op s.st.tmps s.st.heap H' :: s.ps⟩
  | none :: M => match evOp P cf fl a.op s.st.tmps s.st.heap with
   | some (_, H) => some ⟨⟨s.st.tmps, H⟩, s.L, M, s.ps⟩
   | none => none
  | [] => match evOp P cf fl a.op s.st.tmps s.st.heap with
   | some (_, H) => some ⟨⟨s.st.tmps, H⟩, s.L, [], s.ps⟩
   | none => none
def oOper [GlobT] (a : AOper) (s : OSt) : Option OSt :=
 match a.guard with
 | none => oRun P cf fl o a s
 | some (t, want) => match look t o.B with
  | some b => match b == want with
   | true => oRun P cf fl o a ⟨s.st, s.L, s.M, isB (getOpd s.st.tmps (.tmp t)) b :: s.ps⟩
   | false => some ⟨⟨putA s.st.tmps a.dst (.lit undefV), s.st.heap⟩, s.L, s.M, isB (getOpd s.st.tmps (.tmp t)) b :: s.ps⟩
  | none => match wantA s.st.tmps (some (t, want)) with
   | some true => oRun P cf fl o a s
   | some false => some ⟨⟨putA s.st.tmps a.dst (.lit undefV), s.st.heap⟩, s.L, s.M, s.ps⟩
   | none => none
def oOps [GlobT] : List AOper → OSt → Option OSt
 | [], s => some s
 | a :: r, s => match oOper P cf fl o a s with
  | some s => oOps r s
  | none => none
def oOpsL [GlobT] : List AOper → OSt → Option (List OSt)
 | [], s => some [s]
 | a :: r, s => match oOper P cf fl o a s with
  | some s1 => match oOpsL r s1 with
   | some l => some (s :: l)
   | none => none
  | none => none
def stsOf : List OSt → List St
 | [] => []
 | s :: r => s.st :: stsOf r
def oReg [GlobT] (ck : List (Nat × Nat)) (ops : List AOper) (s : OSt) : Option OSt := match ck with
 | [] => oOps P cf fl o ops s
 | c :: r => match oOpsL P cf fl o ops s with
  | some l => match ckAll ops (stsOf l) (c :: r) with
   | true => l.getLast?
   | false => none
  | none => none
def condB (c : AOpd) : Option Bool := match c with
 | .tmp t => look t o.B
 | _ => none
def oC [GlobT] (lf : Nat) : ACode → OSt → Option (AExit × OSt)
 | .skip, s => some (.normal, s)
 | .region _ ck ops, s => match oReg P cf fl o ck ops s with
  | some s => some (.normal, s)
  | none => none
 | .seq a b, s => match oC lf a s with
  | some (.normal, s) => oC lf b s
  | r => r
 | .cond c a b, s => match condB o c with
  | some true => oC lf a ⟨s.st, s.L, s.M, isB (getOpd s.st.tmps c) true :: s.ps⟩
  | some false => oC lf b ⟨s.st, s.L, s.M, isB (getOpd s.st.tmps c) false :: s.ps⟩
  | none => match getOpd s.st.tmps c with
   | .lit (.bool true) => oC lf a s
   | .lit (.bool false) => oC lf b s
   | _ => none
 | .block id c, s => match oC lf c s with
  | some (.exit i, s) => if i = id then some (.normal, s) else some (.exit i, s)
  | r => r
 | .loop live tr c, s => match s.L with
  | (x, st) :: L => some (x, ⟨st, L, s.M, (evLoopH (headSt live tr fl s.st.heap.length) (evC P cf lf fl c) lf (headSt live tr fl s.st.heap.length s.st) = some (x, st)) :: s.ps⟩)
  | [] => none
 | .exit id, s => some (.exit id, s)
 | .ret, s => some (.ret, s)
 | .frz t c, s => match look (t + 100000) o.O with
  | some (v, h) => oC lf c ⟨⟨s.st.tmps.set t v, h.getD s.st.heap⟩, s.L, s.M, (evOp P cf fl (.freeze (.tmp 0)) [getOpd s.st.tmps (.tmp t)] s.st.heap = some (v, h.getD s.st.heap)) :: s.ps⟩
  | none => match evOp P cf fl (.freeze (.tmp t)) s.st.tmps s.st.heap with
   | some (v, H) => oC lf c ⟨⟨s.st.tmps.set t v, H⟩, s.L, s.M, s.ps⟩
   | none => none
 | .mask lx lr tr c, s => match Nat.ble fl s.st.heap.length with
  | true => match loopOf c with
   | some (live, tr', b) => match s.L with
    | (x, st) :: L => some (x, ⟨st, L, s.M, (maskR lx lr tr fl s.st.heap.length (evLoopH (headSt live tr' fl s.st.heap.length) (evC P cf lf fl b) lf (headO live tr' s.st.heap.length s.st)) = some (x, st)) :: cleanQ tr' fl s.st.heap.length (headO live tr' s.st.heap.length s.st).heap :: s.ps⟩)
    | [] => none
   | none => match oC lf c s with
    | some (x, s') => some (x, ⟨maskO2 lx lr tr s.st.heap.length x s'.st, s'.L, s'.M, cleanX tr fl s.st.heap.length x (maskO2 lx lr tr s.st.heap.length x s'.st).heap :: s'.ps⟩)
    | none => none
  | false => none
 | .scope c, s => oC lf c s
 | .nilIf _ _ _ _ _, _ => none
 | .loopV live lx lr t c, s => match Nat.ble fl s.st.heap.length with
  | true => match s.L with
   | (_, st1) :: (x, st) :: L => some (x, ⟨st, L, s.M, (maskV lx lr t fl s.st.heap.length (evLoopH (headV live t fl s.st.heap.length) (evC P cf lf fl c) lf (headVO live t s.st.heap.length st1)) = some (x, st)) :: cleanQ true fl s.st.heap.length (headVO live t s.st.heap.length st1).heap :: (ownSt fl t s.st = some st1) :: s.ps⟩)
   | _ => none
  | false => none
 | .stop, _ => none
theorem oRun_ok [GlobT] {a : AOper} {s s' : OSt} (h : oRun P cf fl o a s = some s') (hp : AllP s'.ps) : (match evOp P cf fl a.op s.st.tmps s.st.heap with
   | some (v, H) => some (⟨putA s.st.tmps a.dst v, H⟩ : St)
   | none => none) = some s'.st ∧ AllP s.ps := by
 unfold oRun at h
 split at h
 ·rename_i d hd
  split at h
  ·rename_i v h' hl
   cases h
   obtain ⟨h1, h2⟩ := hp
   rw [stk_ok P cf fl h1]
   simp only [putA, hd]
   exact ⟨trivial, h2⟩
  ·split at h
   ·rename_i v H he
    cases h
    simp only [putA, hd]
    exact ⟨trivial, hp⟩
   ·cases h
 ·rename_i hd
  simp only [putA, hd]
  split at h
  ·rename_i H' M hM
   cases h
   obtain ⟨h1, h2⟩ := hp
   obtain ⟨v, h3⟩ := stn_ok P cf fl h1
   rw [h3]
   exact ⟨rfl, h2⟩
  ·split at h
   ·rename_i u H he
    cases h
    simp only
    exact ⟨trivial, hp⟩
   ·cases h
  ·split at h
   ·rename_i u H he
    cases h
    simp only
    exact ⟨trivial, hp⟩
   ·cases h
theorem oOper_ok [GlobT] {a : AOper} {s s' : OSt} (h : oOper P cf fl o a s = some s') (hp : AllP s'.ps) : evOper P cf fl a s.st = some s'.st ∧ AllP s.ps := by
 unfold oOper at h
 unfold evOper
 split at h
 ·rename_i hg
  rw [hg]
  simp only [wantA]
  exact oRun_ok P cf fl o h hp
 ·rename_i t want hg
  rw [hg]
  split at h
  ·rename_i b hb
   split at h
   ·rename_i hw
    obtain ⟨h1, h2⟩ := oRun_ok P cf fl o h hp
    obtain ⟨h3, h4⟩ := h2
    have h5 := isB_eq h3
    simp only [wantA, h5, hw]
    exact ⟨h1, h4⟩
   ·rename_i hw
    cases h
    obtain ⟨h3, h4⟩ := hp
    have h5 := isB_eq h3
    simp only [wantA, h5, hw]
    exact ⟨trivial, h4⟩
  ·split at h
   ·rename_i hw
    rw [hw]
    exact oRun_ok P cf fl o h hp
   ·rename_i hw
    rw [hw]
    cases h
    exact ⟨rfl, hp⟩
   ·cases h
theorem oOps_ok [GlobT] : ∀ (l : List AOper) (s s' : OSt), oOps P cf fl o l s = some s' → AllP s'.ps → evOps P cf fl l s.st = some s'.st ∧ AllP s.ps
 | [], s, s', h, hp => by cases h; exact ⟨rfl, hp⟩
 | a :: r, s, s', h, hp => by
  simp only [oOps] at h
  split at h
  ·rename_i s1 h1
   obtain ⟨k1, k2⟩ := oOps_ok r s1 s' h hp
   obtain ⟨k3, k4⟩ := oOper_ok P cf fl o h1 k2
   simp only [evOps, k3]
   exact ⟨k1, k4⟩
  ·cases h
theorem oOpsL_ok [GlobT] : ∀ (l : List AOper) (s : OSt) (q : List OSt) (s' : OSt), oOpsL P cf fl o l s = some q → q.getLast? = some s' → AllP s'.ps → evOpsL P cf fl l s.st = some (stsOf q) ∧ (stsOf q).getLast? = some s'.st ∧ AllP s.ps
 | [], s, q, s', h, hl, hp => by
  simp only [oOpsL, Option.some.injEq] at h
  subst h
  simp only [List.getLast?_singleton, Option.some.injEq] at hl
  subst hl
  exact ⟨rfl, rfl, hp⟩
 | a :: r, s, q, s', h, hl, hp => by
  simp only [oOpsL] at h
  split at h
  ·rename_i s1 h1
   split at h
   ·rename_i l1 h2
    cases h
    have hne : l1 ≠ [] := by
     intro e
     subst e
     cases r with
     | nil => simp [oOpsL] at h2
     | cons b r =>
      simp only [oOpsL] at h2
      split at h2
      ·split at h2 <;> cases h2
      ·cases h2
    rw [List.getLast?_cons_of_ne_nil hne] at hl
    obtain ⟨k1, k2, k3⟩ := oOpsL_ok r s1 l1 s' h2 hl hp
    obtain ⟨k4, k5⟩ := oOper_ok P cf fl o h1 k3
    have hne2 : stsOf l1 ≠ [] := by
     cases l1 with
     | nil => exact (hne rfl).elim
     | cons b r => simp [stsOf]
    refine ⟨by simp only [evOpsL, k4, k1]; rfl, ?_, k5⟩
    show (s.st :: stsOf l1).getLast? = _
    rw [List.getLast?_cons_of_ne_nil hne2]
    exact k2
   ·cases h
  ·cases h
theorem oReg_ok [GlobT] {ck : List (Nat × Nat)} {ops : List AOper} {s s' : OSt} (h : oReg P cf fl o ck ops s = some s') (hp : AllP s'.ps) : evReg P cf fl ck ops s.st = some s'.st ∧ AllP s.ps := by
 unfold oReg at h
 unfold evReg
 split at h
 ·exact oOps_ok P cf fl o ops s s' h hp
 ·split at h
  ·rename_i l hl
   split at h
   ·rename_i hck
    obtain ⟨k1, k2, k3⟩ := oOpsL_ok P cf fl o ops s l s' hl h hp
    simp only [k1, hck]
    exact ⟨k2, k3⟩
   ·cases h
  ·cases h
theorem oC_ok [GlobT] (lf : Nat) : ∀ (c : ACode) (s : OSt) (x : AExit) (s' : OSt), oC P cf fl o lf c s = some (x, s') → AllP s'.ps → evC P cf lf fl c s.st = some (x, s'.st) ∧ AllP s.ps
 | .skip, s, x, s', h, hp => by cases h; exact ⟨rfl, hp⟩
 | .region _ ck ops, s, x, s', h, hp => by
  simp only [oC] at h
  split at h
  ·rename_i s1 h1
   cases h
   obtain ⟨k1, k2⟩ := oReg_ok P cf fl o h1 hp
   simp only [evC, k1]
   exact ⟨trivial, k2⟩
  ·cases h
 | .seq a b, s, x, s', h, hp => by
  simp only [oC] at h
  split at h
  ·rename_i s1 h1
   obtain ⟨k1, k2⟩ := oC_ok lf b s1 x s' h hp
   obtain ⟨k3, k4⟩ := oC_ok lf a s _ s1 h1 k2
   simp only [evC, k3]
   exact ⟨k1, k4⟩
  ·rename_i hn
   obtain ⟨k3, k4⟩ := oC_ok lf a s x s' h hp
   simp only [evC, k3]
   cases x with
   | normal => exact (hn _ h).elim
   | exit => exact ⟨rfl, k4⟩
   | ret => exact ⟨rfl, k4⟩
 | .cond c a b, s, x, s', h, hp => by
  simp only [oC] at h
  split at h
  ·obtain ⟨k1, k2, k3⟩ := oC_ok lf a _ x s' h hp
   simp only [evC, isB_eq k2]
   exact ⟨k1, k3⟩
  ·obtain ⟨k1, k2, k3⟩ := oC_ok lf b _ x s' h hp
   simp only [evC, isB_eq k2]
   exact ⟨k1, k3⟩
  ·split at h
   ·rename_i hg
    obtain ⟨k1, k2⟩ := oC_ok lf a _ x s' h hp
    simp only [evC, hg]
    exact ⟨k1, k2⟩
   ·rename_i hg
    obtain ⟨k1, k2⟩ := oC_ok lf b _ x s' h hp
    simp only [evC, hg]
    exact ⟨k1, k2⟩
   ·cases h
 | .block id c, s, x, s', h, hp => by
  simp only [oC] at h
  split at h
  ·rename_i i s1 h1
   have hs : s1 = s' := by
    split at h
    ·cases h; rfl
    ·cases h; rfl
   subst hs
   obtain ⟨k1, k2⟩ := oC_ok lf c s _ s1 h1 hp
   simp only [evC, k1]
   split at h
   ·rename_i hi; cases h; rw [if_pos hi]; exact ⟨rfl, k2⟩
   ·rename_i hi; cases h; rw [if_neg hi]; exact ⟨rfl, k2⟩
  ·rename_i hn
   obtain ⟨k3, k4⟩ := oC_ok lf c s x s' h hp
   simp only [evC, k3]
   cases x with
   | normal => exact ⟨rfl, k4⟩
   | exit i => exact (hn _ _ h).elim
   | ret => exact ⟨rfl, k4⟩
 | .loop live tr c, s, x, s', h, hp => by
  simp only [oC] at h
  split at h
  ·rename_i y st L hL
   cases h
   obtain ⟨h1, h2⟩ := hp
   exact ⟨by simp only [evC]; rw [evLoopH_eq]; exact h1, h2⟩
  ·cases h
 | .exit id, s, x, s', h, hp => by cases h; exact ⟨rfl, hp⟩
 | .ret, s, x, s', h, hp => by cases h; exact ⟨rfl, hp⟩
 | .frz t c, s, x, s', h, hp => by
  simp only [oC] at h
  split at h
  ·rename_i v h' hl
   obtain ⟨k1, k2, k3⟩ := oC_ok lf c _ x s' h hp
   have k2' : evOp P cf fl (.freeze (.tmp t)) s.st.tmps s.st.heap = some (v, h'.getD s.st.heap) := k2
   simp only [evC, k2']
   exact ⟨k1, k3⟩
  ·split at h
   ·rename_i v H he
    obtain ⟨k1, k2⟩ := oC_ok lf c _ x s' h hp
    simp only [evC, he]
    exact ⟨k1, k2⟩
   ·cases h
 | .mask lx lr tr c, s, x, s', h, hp => by
  simp only [oC] at h
  split at h
  ·rename_i hn
   split at h
   ·rename_i live tr' b hl
    have := loopOf_eq hl
    subst this
    split at h
    ·rename_i y st L hL
     cases h
     obtain ⟨h1, h2, h3⟩ := hp
     refine ⟨?_, h3⟩
     simp only [evC]
     rw [evLoopH_eq, headO_eq hn h2]
     exact h1
    ·cases h
   ·split at h
    ·rename_i y s1 h1
     cases h
     obtain ⟨h2, h3⟩ := hp
     obtain ⟨k1, k2⟩ := oC_ok lf c s _ s1 h1 h3
     simp only [evC, k1]
     exact ⟨maskO2_eq hn h2, k2⟩
    ·cases h
  ·cases h
 | .nilIf _ _ _ _ _, s, x, s', h, hp => by simp only [oC] at h; cases h
 | .scope c, s, x, s', h, hp => by
  simp only [oC] at h
  simp only [evC]
  exact oC_ok lf c s x s' h hp
 | .loopV live lx lr t c, s, x, s', h, hp => by
  simp only [oC] at h
  split at h
  ·rename_i hn
   split at h
   ·rename_i y0 st1 y st L hL
    cases h
    obtain ⟨h1, h2, h3, h4⟩ := hp
    refine ⟨?_, h4⟩
    simp only [evC, h3]
    rw [evLoopH_eq, headVO_eq hn h2]
    exact h1
   ·cases h
  ·cases h
 | .stop, s, x, s', h, hp => by simp only [oC] at h; cases h
end
def oF [GlobT] (P : Program) (T : List AFun) (n : Nat) (o : Orc) (L : List (AExit × St)) (M : List (Option Heap)) (F : AFun) (args : List AV) : Option (AV × List Prop) :=
 match oC P (evF P T n) 0 o n F.body ⟨⟨args ++ List.replicate (F.nt - args.length) (.lit undefV), []⟩, L, M, []⟩ with
 | some (x, s) => match sealO (finA F (some (x, s.st))) with
  | some r => some (r, s.ps)
  | none => none
 | none => none
theorem pv_o [GlobT] {P : Program} {T : List AFun} {n vi : Nat} {args : List AV} {r : AV} {ps : List Prop} {F : AFun} (o : Orc) (L : List (AExit × St)) (M : List (Option Heap)) (hF : getF T vi = some F) (h : oF P T n o L M F args = some (r, ps)) (hp : AllP ps) : pv P T (n + 1) vi args = some r := by
 rw [pv_at F hF]
 unfold oF at h
 split at h
 ·rename_i x s hs
  split at h
  ·rename_i r' hr
   cases h
   obtain ⟨k, _⟩ := oC_ok P (evF P T n) 0 o n F.body _ x s hs hp
   rw [k]
   exact hr
  ·cases h
 ·cases h
def oE [GlobT] (P : Program) (T : List AFun) (n : Nat) (o : Orc) (L : List (AExit × St)) (M : List (Option Heap)) (F : AFun) (fl : Nat) (args : List AV) (H : Heap) : Option (AV × Heap × List Prop) :=
 match oC P (evF P T n) fl o n F.body ⟨⟨args ++ List.replicate (F.nt - args.length) (.lit undefV), H⟩, L, M, []⟩ with
 | some (x, s) => match finA F (some (x, s.st)) with
  | some (r, H') => some (r, H', s.ps)
  | none => none
 | none => none
theorem evF_o [GlobT] {P : Program} {T : List AFun} {n fl vi : Nat} {args : List AV} {H H' : Heap} {r : AV} {ps : List Prop} {F : AFun} (o : Orc) (L : List (AExit × St)) (M : List (Option Heap)) (hF : getF T vi = some F) (h : oE P T n o L M F fl args H = some (r, H', ps)) (hp : AllP ps) : evF P T (n + 1) fl vi args H = some (r, H') := by
 rw [evF_at F hF]
 unfold oE at h
 split at h
 ·rename_i x s hs
  split at h
  ·rename_i r' H'' hr
   cases h
   obtain ⟨k, _⟩ := oC_ok P (evF P T n) fl o n F.body _ x s hs hp
   rw [k]
   exact hr
  ·cases h
 ·cases h
def oB [GlobT] (P : Program) (cf : Nat → Nat → List AV → Heap → Option (AV × Heap)) (lf fl : Nat) (head : St → St) (o : Orc) (L : List (AExit × St)) (M : List (Option Heap)) (c : ACode) (st : St) : Option (AExit × St × List Prop) :=
 match oC P cf fl o lf c ⟨st, L, M, []⟩ with
 | some (.normal, s) => some (.normal, head s.st, s.ps)
 | some (x, s) => some (x, s.st, s.ps)
 | none => none
theorem next_o [GlobT] {P : Program} {cf : Nat → Nat → List AV → Heap → Option (AV × Heap)} {lf fl : Nat} {head : St → St} {c : ACode} {st st' : St} {ps : List Prop} (o : Orc) (L : List (AExit × St)) (M : List (Option Heap)) (h : oB P cf lf fl head o L M c st = some (.normal, st', ps)) (hp : AllP ps) : nextIs head (evC P cf lf fl c st) st' := by
 unfold oB at h
 split at h
 ·rename_i s hs
  cases h
  obtain ⟨k, _⟩ := oC_ok P cf fl o lf c _ _ s hs hp
  rw [k]
  rfl
 ·rename_i x s hn hs
  cases h
  exact (hn rfl).elim
 ·cases h
theorem exit_o [GlobT] {P : Program} {cf : Nat → Nat → List AV → Heap → Option (AV × Heap)} {lf fl : Nat} {x : AExit} {c : ACode} {st st' : St} {ps : List Prop} (hx : x ≠ .normal) (o : Orc) (L : List (AExit × St)) (M : List (Option Heap)) (h : oB P cf lf fl id o L M c st = some (x, st', ps)) (hp : AllP ps) : evC P cf lf fl c st = some (x, st') := by
 unfold oB at h
 split at h
 ·cases h; exact (hx rfl).elim
 ·rename_i x' s hn hs
  cases h
  exact (oC_ok P cf fl o lf c _ _ s hs hp).1
 ·cases h
theorem evLoopH_run [GlobT] {head : St → St} {step : St → Option (AExit × St)} {x : AExit} {stx : St} {n k : Nat} (S : Nat → St) (hx : x ≠ .normal) (hn : k < n)
  (hstep : ∀ i, i < k → nextIs head (step (S i)) (S (i + 1))) (hend : step (S k) = some (x, stx)) : evLoopH head step n (S 0) = some (x, stx) := by
 obtain ⟨m, rfl⟩ : ∃ m, n = m + 1 := ⟨n - 1, by omega⟩
 cases k with
 | zero =>
  simp only [evLoopH, hend]
  cases x with
  | normal => exact (hx rfl).elim
  | exit => rfl
  | ret => rfl
 | succ k =>
  obtain ⟨st', h1, h2⟩ := nextIs_ex (hstep 0 (by omega))
  simp only [evLoopH, h1]
  exact evLoop_eq (k := k) (fun i => S (i + 1)) hx h2 (by omega) (fun i hi => hstep (i + 1) (by omega)) hend
theorem next_m [GlobT] {P : Program} {cf : Nat → Nat → List AV → Heap → Option (AV × Heap)} {lf fl n m : Nat} {live : Option (List Bool)} {tr : Bool} {c : ACode} {st st' : St} {ps : List Prop} {r : Option (AExit × St)} (o : Orc) (L : List (AExit × St)) (M : List (Option Heap)) (hn : Nat.ble fl n = true) (h : oB P cf lf fl (headO live tr n) o L M c st = some (.normal, st', ps)) (hp : AllP ps)
  (hc : cleanQ tr fl n st'.heap) (hr : evLoopH (headSt live tr fl n) (evC P cf lf fl c) m st' = r) : evLoopH (headSt live tr fl n) (evC P cf lf fl c) (m + 1) st = r := by
 have := next_o o L M h hp
 obtain ⟨s, e1, e2⟩ := nextIs_ex this
 subst e2
 simp only [evLoopH, e1]
 rw [evLoopH_eq, headO_eq hn hc]
 exact hr
def oX [GlobT] (P : Program) (cf : Nat → Nat → List AV → Heap → Option (AV × Heap)) (lf fl n : Nat) (lx lr : List Bool) (tr : Bool) (o : Orc) (L : List (AExit × St)) (M : List (Option Heap)) (c : ACode) (st : St) : Option (AExit × St × List Prop) :=
 match oC P cf fl o lf c ⟨st, L, M, []⟩ with
 | some (x, s) => match x with
  | .normal => none
  | x => some (x, maskO2 lx lr tr n x s.st, s.ps)
 | none => none
theorem last_m [GlobT] {P : Program} {cf : Nat → Nat → List AV → Heap → Option (AV × Heap)} {lf fl n m : Nat} {live : Option (List Bool)} {tr tr' : Bool} {lx lr : List Bool} {c : ACode} {st st' : St} {x : AExit} {ps : List Prop} (o : Orc) (L : List (AExit × St)) (M : List (Option Heap)) (hn : Nat.ble fl n = true) (h : oX P cf lf fl n lx lr tr o L M c st = some (x, st', ps)) (hp : AllP ps)
  (hc : cleanX tr fl n x st'.heap) : maskR lx lr tr fl n (evLoopH (headSt live tr' fl n) (evC P cf lf fl c) (m + 1) st) = some (x, st') := by
 unfold oX at h
 split at h
 ·rename_i y s hs
  have hk := (oC_ok P cf fl o lf c _ _ s hs (by
   split at h
   ·cases h
   ·cases h; exact hp)).1
  split at h
  ·cases h
  ·rename_i hne
   cases h
   have : evLoopH (headSt live tr' fl n) (evC P cf lf fl c) (m + 1) st = some (x, s.st) := by
    simp only [evLoopH, hk]
    cases x with
    | normal => exact (hne rfl).elim
    | exit i => rfl
    | ret => rfl
   rw [this]
   exact maskO2_eq hn hc
 ·cases h
theorem next_mV [GlobT] {P : Program} {cf : Nat → Nat → List AV → Heap → Option (AV × Heap)} {lf fl n m t : Nat} {live : List Bool} {c : ACode} {st st' : St} {ps : List Prop} {r : Option (AExit × St)} (o : Orc) (L : List (AExit × St)) (M : List (Option Heap)) (hn : Nat.ble fl n = true) (h : oB P cf lf fl (headVO live t n) o L M c st = some (.normal, st', ps)) (hp : AllP ps)
  (hc : cleanQ true fl n st'.heap) (hr : evLoopH (headV live t fl n) (evC P cf lf fl c) m st' = r) : evLoopH (headV live t fl n) (evC P cf lf fl c) (m + 1) st = r := by
 have := next_o o L M h hp
 obtain ⟨s, e1, e2⟩ := nextIs_ex this
 subst e2
 simp only [evLoopH, e1]
 rw [evLoopH_eq, headVO_eq hn hc]
 exact hr
def oXV [GlobT] (P : Program) (cf : Nat → Nat → List AV → Heap → Option (AV × Heap)) (lf fl n : Nat) (lx lr : List Bool) (t : Nat) (o : Orc) (L : List (AExit × St)) (M : List (Option Heap)) (c : ACode) (st : St) : Option (AExit × St × List Prop) :=
 match oC P cf fl o lf c ⟨st, L, M, []⟩ with
 | some (x, s) => match x with
  | .normal => none
  | x => some (x, maskVO lx lr t n x s.st, s.ps)
 | none => none
theorem last_mV [GlobT] {P : Program} {cf : Nat → Nat → List AV → Heap → Option (AV × Heap)} {lf fl n m t : Nat} {live : List Bool} {lx lr : List Bool} {c : ACode} {st st' : St} {x : AExit} {ps : List Prop} (o : Orc) (L : List (AExit × St)) (M : List (Option Heap)) (hn : Nat.ble fl n = true) (h : oXV P cf lf fl n lx lr t o L M c st = some (x, st', ps)) (hp : AllP ps)
  (hc : cleanX true fl n x st'.heap) : maskV lx lr t fl n (evLoopH (headV live t fl n) (evC P cf lf fl c) (m + 1) st) = some (x, st') := by
 unfold oXV at h
 split at h
 ·rename_i y s hs
  have hk := (oC_ok P cf fl o lf c _ _ s hs (by
   split at h
   ·cases h
   ·cases h; exact hp)).1
  split at h
  ·cases h
  ·rename_i hne
   cases h
   have : evLoopH (headV live t fl n) (evC P cf lf fl c) (m + 1) st = some (x, s.st) := by
    simp only [evLoopH, hk]
    cases x with
    | normal => exact (hne rfl).elim
    | exit i => rfl
    | ret => rfl
   rw [this]
   exact maskVO_eq hn hc
 ·cases h
theorem own_ok [GlobT] {fl t id s k : Nat} {tm : List AV} {H : Heap} {α : Type} {l : List α} {c : α → List AV} (ht : getOpd tm (.tmp t) = .ms id l.length 0 k) (hfl : fl ≤ id) (hH : H[id]? = some (.blk s (l.map c))) :
  ownSt fl t ⟨tm, H⟩ = some ⟨tm.set t (.ms H.length l.length 0 k), H.set id (.blk s (l.map c ++ [List.replicate s .undef])) ++ [.blk s (l.map c)]⟩ := by
 have e : (l.map c).length = l.length := by simp
 simp only [ownSt, ht, hfl, if_true, hH, e]
theorem idx_sl {H : Heap} {s : Nat} {f : Bool} {es : List (List AV)} {i : Int} {j : Nat} {e : List AV} (hi : i = j) (he : es[j]? = some e) (hl : e.length = s) : idxA H s (.sl f es) (.lit (.int .i64 i)) = some (.rptr e) := by
 subst hi
 simp [idxA, natOf, he, hl]
theorem lit_eq {a b : Int} (h : a = b) : some (AV.lit (.int .i64 a)) = some (AV.lit (.int .i64 b)) := by rw [h]
end Go.Proofs.YtmflphfmefakfaaGreatDoor.Av
