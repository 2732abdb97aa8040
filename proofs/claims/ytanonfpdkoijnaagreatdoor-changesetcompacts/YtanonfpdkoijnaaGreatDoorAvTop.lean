/- A part of the proof of ChangesetCompactsCardSaid: an evaluator of the program, proved sound, and what it says. -/
import Derived.Test.YtanonfpdkoijnaaGreatDoorAvFun
import Derived.WalkKit
import Derived.ProofKit
import Derived.OpenShut
namespace Go.Proofs.YtanonfpdkoijnaaGreatDoor.Av
open Go Go.RowKit

/-- What a type's cells may be. -/
def Shape (P : Program) : Nat → TypeId → List AV → Prop
  | 0, _, _ => False
  | n + 1, t, xs =>
    match P.underlying t with
    | some .bool => ∃ b, xs = [.lit (.bool b)]
    | some (.int k) => ∃ z, (Lit.int k z).wf = true ∧ xs = [.lit (.int k z)]
    | some .string => ∃ s : ByteArray, s.size ≤ maxLen ∧ xs = [.lit (.string s)]
    | some (.slice e) => ∃ es : List (List AV), xs = [.sl false es] ∧ es.length ≤ maxLen ∧ ∀ x ∈ es, Shape P n e x
    | some (.struct fs) => ∃ ps : List (List AV), xs = ps.flatten ∧ ps.length = fs.size ∧ ∀ (i : Nat) (f : Field) (p : List AV), fs[i]? = some f → ps[i]? = some p → Shape P n f.type p
    | some (.array m e) => ∃ ps : List (List AV), xs = ps.flatten ∧ ps.length = m ∧ ∀ p ∈ ps, Shape P n e p
    | _ => False

def contig (P : Program) : Nat → List Field → Nat → Bool
  | o, [], tot => o == tot
  | o, f :: r, tot => f.offset == o && contig P (o + P.cellsOf f.type) r tot

def okT (P : Program) : Nat → TypeId → Bool
  | 0, _ => false
  | n + 1, t =>
    match P.underlying t with
    | some .bool => true
    | some (.int _) => true
    | some .string => true
    | some (.slice e) => decide (0 < P.cellsOf e) && okT P n e
    | some (.struct fs) => contig P 0 fs.toList (P.cellsOf t) && fs.toList.all fun f => okT P n f.type
    | some (.array m e) => P.cellsOf t == m * P.cellsOf e && okT P n e
    | _ => false

def CR (w : World) (xs : List AV) (cs : List Value) : Prop :=
  xs.length = cs.length ∧ ∀ (j : Nat) (x : AV), xs[j]? = some x → ∃ v, cs[j]? = some v ∧ scalarB v = true ∧ RP w (fun _ => True) x v

theorem CR.nil {w : World} : CR w [] [] := ⟨rfl, fun j x h => by simp at h⟩

theorem CR.one {w : World} {x : AV} {v : Value} (hs : scalarB v = true) (h : RP w (fun _ => True) x v) : CR w [x] [v] :=
  ⟨rfl, fun j y hy => by
    cases j with
    | zero => simp only [List.getElem?_cons_zero, Option.some.injEq] at hy; subst hy; exact ⟨v, by simp, hs, h⟩
    | succ j => simp at hy⟩

theorem CR.append {w : World} {xs ys : List AV} {cs ds : List Value} (h : CR w xs cs) (k : CR w ys ds) : CR w (xs ++ ys) (cs ++ ds) :=
  ⟨by simp [h.1, k.1], fun j x hx => by
    rw [List.getElem?_append] at hx ⊢
    rw [h.1] at hx
    split at hx
    · rename_i hlt; rw [if_pos hlt]; exact h.2 j x hx
    · rename_i hlt; rw [if_neg hlt]; exact k.2 _ x hx⟩

theorem CR.flatten [GlobT] {w : World} : ∀ {ps : List (List AV)} {qs : List (List Value)}, ps.length = qs.length → (∀ (i : Nat) p q, ps[i]? = some p → qs[i]? = some q → CR w p q) → CR w ps.flatten qs.flatten
  | [], [], _, _ => CR.nil
  | [], _ :: _, h, _ => by simp at h
  | _ :: _, [], h, _ => by simp at h
  | p :: ps, q :: qs, h, k => by
    simp only [List.flatten_cons]
    exact (k 0 p q rfl rfl).append (CR.flatten (by simpa using h) fun i p' q' h1 h2 => k (i + 1) p' q' (by simpa using h1) (by simpa using h2))

theorem exists_list [GlobT] {α : Type} {Q : Nat → α → Prop} : ∀ n, (∀ i, i < n → ∃ x, Q i x) → ∃ l : List α, l.length = n ∧ ∀ i x, l[i]? = some x → Q i x
  | 0, _ => ⟨[], rfl, fun i x h => by simp at h⟩
  | n + 1, h => by
    obtain ⟨l, h1, h2⟩ := exists_list n fun i hi => h i (by omega)
    obtain ⟨x, hx⟩ := h n (by omega)
    refine ⟨l ++ [x], by simp [h1], fun i y hy => ?_⟩
    rw [List.getElem?_append] at hy
    split at hy
    · exact h2 i y hy
    · have : i = n := by
        rcases Nat.lt_or_ge (i - l.length) 1 with h | h
        · omega
        · rw [List.getElem?_eq_none (by simpa using h)] at hy; cases hy
      subst this
      rw [h1] at hy
      simp at hy
      subst hy
      exact hx

theorem contig_flat [GlobT] {P : Program} {α : Type} (cs : List α) {tot : Nat} (hl : cs.length = tot) : ∀ (fs : List Field) (o : Nat), contig P o fs tot = true →
    cs.drop o = (fs.map fun f => (cs.drop f.offset).take (P.cellsOf f.type)).flatten
  | [], o, h => by
    simp only [contig, beq_iff_eq] at h
    simp only [List.map_nil, List.flatten_nil, List.drop_eq_nil_iff]
    omega
  | f :: r, o, h => by
    simp only [contig, Bool.and_eq_true, beq_iff_eq] at h
    obtain ⟨h1, h2⟩ := h
    have ih := contig_flat cs hl r _ h2
    simp only [List.map_cons, List.flatten_cons, ← ih, h1]
    rw [← List.drop_drop, List.take_append_drop]

theorem array_flat [GlobT] {α : Type} (s : Nat) : ∀ (m o : Nat) (cs : List α), cs.length = o + m * s →
    cs.drop o = ((List.range m).map fun i => (cs.drop (o + i * s)).take s).flatten
  | 0, o, cs, h => by simp [List.drop_eq_nil_iff]; omega
  | m + 1, o, cs, h => by
    have ih := array_flat s m (o + s) cs (by rw [h, Nat.succ_mul]; omega)
    rw [List.range_succ_eq_map]
    simp only [List.map_cons, List.map_map, List.flatten_cons]
    have e : ((List.range m).map ((fun i => (cs.drop (o + i * s)).take s) ∘ Nat.succ)) = (List.range m).map fun i => (cs.drop (o + s + i * s)).take s := by
      refine List.map_congr_left fun i _ => ?_
      simp only [Function.comp, Nat.succ_mul]
      congr 2
      omega
    rw [e, ← ih, Nat.zero_mul, Nat.add_zero, ← List.drop_drop, List.take_append_drop]

section
variable {H : Type} {enc : TypeId × Value → H} {P : Program} {w : World} {base : Nat} {spare : Nat → Bool} {held : Bool}

theorem cells?_get {a : Addr} {n : Nat} {l : List Value} (h : w.cells? base a n = some l) : l.length = n ∧ ∀ i, i < n → w.cell? (a.add i) = l[i]? := by
  unfold World.cells? at h
  split at h
  · exact ⟨by simpa using mapM_some_length h, fun i hi => mapM_some_get h i i (by simp [hi])⟩
  · cases h

theorem cell?_inv {a : Addr} {v : Value} (h : w.cell? a = some v) : ∃ c T fz, w.heap[a.block]? = some (.cells c T fz) ∧ a.spot = none ∧ c[a.off]? = some v := by
  unfold World.cell? at h
  split at h
  · rename_i c T fz hb
    split at h
    · cases h
    · rename_i hs
      exact ⟨c, T, fz, hb, by simpa using hs, h⟩
  · cases h

theorem add_off (a : Addr) (n : Nat) : (a.add n).off = a.off + n := by
  unfold Addr.add; split
  · rename_i h; simp [h]
  · rfl

theorem trod_shape [GlobT] : ∀ (n : Nat) (t : TypeId) (cs : List Value) (x : DataW H × List MemPlace) (fuel : Nat), okT P n t = true → DataW.trod enc P w base spare held fuel t cs = some x → ∃ xs, Shape P n t xs ∧ CR w xs cs
  | 0, t, cs, x, fuel, hk, _ => by simp [okT] at hk
  | n + 1, t, cs, x, fuel, hk, h => by
    unfold okT at hk
    unfold Shape
    split at hk
    · rename_i ht
      obtain ⟨b, rfl, _⟩ := DataW.trod_bool ht h
      exact ⟨_, ⟨b, rfl⟩, CR.one rfl (.lit _)⟩
    · rename_i k ht
      obtain ⟨z, rfl, _, hw⟩ := DataW.trod_int ht h
      exact ⟨_, ⟨z, hw, rfl⟩, CR.one rfl (.lit _)⟩
    · rename_i ht
      obtain ⟨z, rfl, _, hw⟩ := DataW.trod_string ht h
      exact ⟨_, ⟨z, hw, rfl⟩, CR.one rfl (.lit _)⟩
    · rename_i e ht
      simp only [Bool.and_eq_true, decide_eq_true_eq] at hk
      obtain ⟨hpos, hk⟩ := hk
      rcases DataW.trod_slice ht h with ⟨rfl, _⟩ | ⟨a, len, cap, elems, rest, m, _, rfl, _, _, hlc, hcm, hel, hat, _, _⟩
      · exact ⟨_, ⟨[], rfl, by simp, fun x hx => by cases hx⟩, CR.one rfl (.nil _ _ _ (by simp))⟩
      · have hall : ∀ i, i < len → ∃ y : List AV, Shape P n e y ∧ ∃ l, w.cells? base (a.add (i * P.cellsOf e)) (P.cellsOf e) = some l ∧ CR w y l := by
          intro i hi
          have h1 := hat i hi
          have h2 : elems[i]? = some elems[i] := List.getElem?_eq_getElem (by omega)
          rw [h2] at h1
          cases hc : w.cells? base (a.add (i * P.cellsOf e)) (P.cellsOf e) with
          | none => rw [hc] at h1; simp at h1
          | some l =>
            rw [hc] at h1
            obtain ⟨y, k1, k2⟩ := trod_shape n e l _ m hk (by simpa using h1)
            exact ⟨y, k1, l, rfl, k2⟩
        obtain ⟨es, hlen, hes⟩ := exists_list len hall
        refine ⟨[.sl false es], ⟨es, rfl, by omega, fun y hy => ?_⟩, CR.one rfl ?_⟩
        · obtain ⟨i, hi, rfl⟩ := List.mem_iff_getElem.1 hy
          exact (hes i _ (List.getElem?_eq_getElem hi)).1
        · by_cases h0 : es = []
          · subst h0
            simp at hlen
            subst hlen
            exact .nil _ _ _ (by simp)
          · have hpl : 0 < len := by
              rcases Nat.eq_zero_or_pos len with h | h
              · rw [h] at hlen; exact absurd (List.length_eq_zero_iff.1 hlen) h0
              · exact h
            have hcell : ∀ i j x, cellE es i j = some x → ∃ v, w.cell? ((a.add (i * P.cellsOf e)).add j) = some v ∧ scalarB v = true ∧ RP w (fun _ => True) x v ∧ j < P.cellsOf e := by
              intro i j x hx
              unfold cellE at hx
              cases hi : es[i]? with
              | none => rw [hi] at hx; cases hx
              | some y =>
                rw [hi] at hx
                obtain ⟨_, l, k1, k2⟩ := hes i y hi
                obtain ⟨v, g1, g2, g3⟩ := k2.2 j x hx
                obtain ⟨c1, c2⟩ := cells?_get k1
                have hj : j < P.cellsOf e := by
                  rcases Nat.lt_or_ge j (P.cellsOf e) with h | h
                  · exact h
                  · rw [List.getElem?_eq_none (by omega)] at g1; cases g1
                exact ⟨v, (c2 j hj).trans g1, g2, g3, hj⟩
            have helen : ∀ y ∈ es, y.length = P.cellsOf e := by
              intro y hy
              obtain ⟨i, hi, rfl⟩ := List.mem_iff_getElem.1 hy
              obtain ⟨_, l, k1, k2⟩ := hes i _ (List.getElem?_eq_getElem hi)
              rw [k2.1]; exact (cells?_get k1).1
            have hx0 : ∃ x, cellE es 0 0 = some x := by
              cases es with
              | nil => exact absurd rfl h0
              | cons y r =>
                have := helen y (by simp)
                exact ⟨y[0], by simp [cellE]⟩
            obtain ⟨x0, hx0⟩ := hx0
            obtain ⟨v0, g1, _, _, _⟩ := hcell 0 0 x0 hx0
            obtain ⟨c, T, fz, hb, hsp, _⟩ := cell?_inv g1
            simp only [Nat.zero_mul, Addr.add, if_true] at hb hsp
            obtain ⟨ab, ao, asp⟩ := a
            simp only at hb hsp
            subst hsp
            have hoff : ∀ i j x, cellE es i j = some x → ∃ v, c[ao + (i * P.cellsOf e + j)]? = some v ∧ scalarB v = true ∧ RP w (fun _ => True) x v := by
              intro i j x hx
              obtain ⟨v, g1, g2, g3, _⟩ := hcell i j x hx
              obtain ⟨c', T', fz', k1, _, k3⟩ := cell?_inv g1
              rw [ChangeShapes.block_add, ChangeShapes.block_add] at k1
              rw [hb] at k1
              cases k1
              rw [add_off, add_off, Nat.add_assoc] at k3
              exact ⟨v, k3, g2, g3⟩
            have hr : RP w (fun _ => True) (.sl false es) (.slice (some ⟨ab, ao, none⟩) es.length cap) := by
              refine .sl false es ab ao cap c T fz (P.cellsOf e) (fun i j => (c[ao + (i * P.cellsOf e + j)]?).getD undef) h0 trivial hb helen (by omega) (by simp) ?_ ?_
              · intro i j x hx
                obtain ⟨v, g1, g2, g3⟩ := hoff i j x hx
                exact ⟨by rw [g1]; rfl, by rw [g1]; exact g2⟩
              · intro i j x hx
                obtain ⟨v, g1, g2, g3⟩ := hoff i j x hx
                show RP w _ x ((c[ao + (i * P.cellsOf e + j)]?).getD undef)
                rw [g1]; exact g3
            rw [hlen] at hr
            exact hr
    · rename_i fs ht
      simp only [Bool.and_eq_true, List.all_eq_true] at hk
      obtain ⟨hcon, hk⟩ := hk
      obtain ⟨ys, m, _, _, hl, hyl, hat⟩ := DataW.trod_struct ht h
      have hall : ∀ i, i < fs.size → ∃ y : List AV, ∃ f, fs[i]? = some f ∧ Shape P n f.type y ∧ CR w y ((cs.drop f.offset).take (P.cellsOf f.type)) := by
        intro i hi
        have hf : fs[i]? = some fs[i] := by simp [hi]
        have h1 := hat i _ hf
        rw [List.getElem?_eq_getElem (by omega)] at h1
        obtain ⟨y, k1, k2⟩ := trod_shape n _ _ _ m (hk fs[i] (by simp)) h1
        exact ⟨y, _, hf, k1, k2⟩
      obtain ⟨ps, hlen, hps⟩ := exists_list fs.size hall
      refine ⟨ps.flatten, ⟨ps, rfl, hlen, fun i f p hf hp => ?_⟩, ?_⟩
      · obtain ⟨f', g1, g2, _⟩ := hps i p hp
        rw [hf] at g1
        cases g1
        exact g2
      · have e := contig_flat (P := P) cs hl fs.toList 0 hcon
        rw [List.drop_zero] at e
        rw [e]
        refine CR.flatten (by simp [hlen]) fun i p q hp hq => ?_
        obtain ⟨f, g1, _, g3⟩ := hps i p hp
        rw [List.getElem?_map] at hq
        have : fs.toList[i]? = some f := by simpa using g1
        rw [this] at hq
        simp only [Option.map_some, Option.some.injEq] at hq
        subst hq
        exact g3
    · rename_i m e ht
      simp only [Bool.and_eq_true, beq_iff_eq] at hk
      obtain ⟨hcon, hk⟩ := hk
      obtain ⟨ys, m', _, _, hl, hyl, hat⟩ := DataW.trod_array ht h
      have hall : ∀ i, i < m → ∃ y : List AV, Shape P n e y ∧ CR w y ((cs.drop (i * P.cellsOf e)).take (P.cellsOf e)) := by
        intro i hi
        have h1 := hat i hi
        rw [List.getElem?_eq_getElem (by omega)] at h1
        obtain ⟨y, k1, k2⟩ := trod_shape n _ _ _ m' hk h1
        exact ⟨y, k1, k2⟩
      obtain ⟨ps, hlen, hps⟩ := exists_list m hall
      refine ⟨ps.flatten, ⟨ps, rfl, hlen, fun p hp => ?_⟩, ?_⟩
      · obtain ⟨i, hi, rfl⟩ := List.mem_iff_getElem.1 hp
        exact (hps i _ (List.getElem?_eq_getElem hi)).1
      · have e' := array_flat (P.cellsOf e) m 0 cs (by rw [hl, hcon]; omega)
        rw [List.drop_zero] at e'
        rw [e']
        refine CR.flatten (by simp [hlen]) fun i p q hp hq => ?_
        obtain ⟨_, g3⟩ := hps i p hp
        rw [List.getElem?_map] at hq
        have hi : i < m := by
          rcases Nat.lt_or_ge i m with h | h
          · exact h
          · rw [List.getElem?_eq_none (by omega)] at hp; cases hp
        rw [List.getElem?_range hi] at hq
        simp only [Option.map_some, Option.some.injEq, Nat.zero_add] at hq
        subst hq
        exact g3
    · cases hk


def isAgg (P : Program) (t : TypeId) : Bool :=
  match P.underlying t with
  | some (.struct _) => true
  | some (.array _ _) => true
  | _ => false

/-- An argument: its cells as one value. -/
def argOf (P : Program) (t : TypeId) (xs : List AV) : AV :=
  match isAgg P t with
  | true => .agg xs
  | false => xs.headD .undef

/-- Arguments of given types. -/
def ShapeAll (P : Program) (n : Nat) : List TypeId → List AV → Prop
  | [], [] => True
  | t :: ts, x :: xs => (∃ ys, Shape P n t ys ∧ x = argOf P t ys) ∧ ShapeAll P n ts xs
  | _, _ => False

def top (W : World) : Ctx := ⟨W, fun _ => False, fun _ => none, []⟩

theorem top_imm (W : World) (b : Nat) : Imm (top W) b := ⟨fun h => h, fun id h => by cases h⟩

theorem top_sim [GlobT] (FT : Nat → Option Nat) (W : World) (hg : GlobInv (top W)) : Sim FT (top W) where
  gl := hg
  inj := fun _ _ _ h => by cases h
  dom := fun _ _ h => by cases h
  nx := fun _ _ h => by cases h
  fresh := fun _ _ h => h
  lens := fun id s es h => by simp [top] at h
  blk := fun id s es b h => by simp [top] at h
  map := fun id es b h => by simp [top] at h
  raw := fun id q b h => by simp [top] at h

theorem rv_arg [GlobT] {FT : Nat → Option Nat} {n base' : Nat} {t : TypeId} {v : Value} {d : DataW H} {ps : List MemPlace} (hok : Value.okWide P w .any base' t v) (hT : okT P n t = true)
    (h : DataW.Trod enc P w base spare held t v d ps) : ∃ ys, Shape P n t ys ∧ RV FT (top w) (argOf P t ys) v := by
  obtain ⟨fuel, h⟩ := h
  obtain ⟨ys, h1, h2⟩ := trod_shape n t _ _ fuel hT h
  refine ⟨ys, h1, ?_⟩
  have hup : ∀ {x : AV} {u : Value}, RP w (fun _ => True) x u → RP (top w).w (Imm (top w)) x u := fun hr => hr.mono fun b o _ hb => ⟨top_imm w b, hb⟩
  have hagg : ∀ cs : Array Value, v = .agg cs → RV FT (top w) (.agg ys) v := by
    intro cs e
    subst e
    simp only [Value.cells] at h2
    refine .agg ys cs (fun i => (cs[i]?).getD undef) (by have := h2.1; simpa using this.symm) (fun i x hx => ?_) (fun i x hx => ?_)
    · obtain ⟨u, g1, g2, g3⟩ := h2.2 i x hx
      have : cs[i]? = some u := by simpa using g1
      exact ⟨by rw [this]; rfl, by rw [this]; exact g2⟩
    · obtain ⟨u, g1, g2, g3⟩ := h2.2 i x hx
      have : cs[i]? = some u := by simpa using g1
      show RV FT (top w) x ((cs[i]?).getD undef)
      rw [this]
      exact .pure _ _ (hup g3)
  unfold Value.okWide at hok
  unfold argOf isAgg
  split at hok
  · rename_i fs ht
    obtain ⟨cs, rfl, _⟩ := hok
    simp only [ht]
    exact hagg cs rfl
  · rename_i m e ht
    obtain ⟨cs, rfl, _⟩ := hok
    simp only [ht]
    exact hagg cs rfl
  · rename_i hn1 hn2
    have hne : ∀ cs, v ≠ .agg cs := by
      intro cs e
      subst e
      unfold Cell.okWide Cell.ok at hok
      revert hok
      cases P.underlying t with
      | none => simp
      | some u => cases u <;> simp
    have hcells : v.cells = #[v] := by
      cases v <;> first | rfl | exact absurd rfl (hne _)
    rw [hcells] at h2
    have : (match P.underlying t with | some (.struct _) => true | some (.array _ _) => true | _ => false) = false := by
      split
      · rename_i ht; exact absurd ht (hn1 _)
      · rename_i ht; exact absurd ht (hn2 _ _)
      · rfl
    rw [this]
    obtain ⟨g0, g⟩ := h2
    match ys, g0, g with
    | [], g0, _ => simp at g0
    | y :: r, _, g =>
      obtain ⟨u, g1, _, g3⟩ := g 0 y rfl
      simp at g1
      subst g1
      exact .pure _ _ (hup g3)

theorem rv_args [GlobT] {FT : Nat → Option Nat} {n base' : Nat} : ∀ (ts : List TypeId) (vs : List Value) (ds : List (DataW H)) (ps : List MemPlace),
    (∀ (j : Nat) t v, ts[j]? = some t → vs[j]? = some v → Value.okWide P w .any base' t v) → ts.all (okT P n) = true → DataW.TrodAll enc P w base spare held ts vs ds ps →
    ∃ xs, ShapeAll P n ts xs ∧ xs.length = vs.length ∧ ∀ (i : Nat) x, xs[i]? = some x → ∃ v, vs[i]? = some v ∧ RV FT (top w) x v
  | [], [], [], _, _, _, _ => ⟨[], trivial, rfl, fun i x hx => by simp at hx⟩
  | t :: ts, v :: vs, d :: ds, ps, hok, hT, h => by
    obtain ⟨p, q, h1, h2, _⟩ := h
    simp only [List.all_cons, Bool.and_eq_true] at hT
    obtain ⟨ys, k1, k2⟩ := rv_arg (FT := FT) (hok 0 t v rfl rfl) hT.1 h1
    obtain ⟨xs, g1, g2, g3⟩ := rv_args ts vs ds q (fun j t' v' e1 e2 => hok (j + 1) t' v' (by simpa using e1) (by simpa using e2)) hT.2 h2
    refine ⟨argOf P t ys :: xs, ⟨⟨ys, k1, rfl⟩, g1⟩, by simp [g2], fun i x hx => ?_⟩
    cases i with
    | zero =>
      simp only [List.getElem?_cons_zero, Option.some.injEq] at hx
      subst hx
      exact ⟨v, rfl, k2⟩
    | succ i =>
      simp only [List.getElem?_cons_succ] at hx ⊢
      exact g3 i x hx
  | [], [], _ :: _, _, _, _, h => h.elim
  | [], _ :: _, _, _, _, _, h => h.elim
  | _ :: _, [], _, _, _, _, h => h.elim
  | _ :: _, _ :: _, [], _, _, _, h => h.elim

theorem trodAll_below [GlobT] {ts : List TypeId} (hl : laidOutB P = true) {W W' : World} (hb : Below W.heap.size W W') : ∀ (ts : List TypeId) (vs : List Value) (ds : List (DataW H)) (ps : List MemPlace),
    (∀ t ∈ ts, P.readableRec t = true ∧ t < P.types.size) → (∀ x ∈ ps, x.block < W.heap.size) → DataW.TrodAll enc P W 0 (fun _ => true) true ts vs ds ps →
    DataW.TrodAll enc P W' 0 (fun b => decide (b < W.heap.size)) true ts vs ds ps
  | [], [], [], _, _, _, h => h
  | t :: ts, v :: vs, d :: ds, ps, hr, hlt, h => by
    obtain ⟨p, q, h1, h2, rfl⟩ := h
    exact ⟨p, q, Below.trod hl (hr t (by simp)).1 (hr t (by simp)).2 h1 hb fun x hx => hlt x (by simp [hx]),
      trodAll_below (ts := ts) hl hb ts vs ds q (fun t' ht' => hr t' (by simp [ht'])) (fun x hx => hlt x (by simp [hx])) h2, rfl⟩
  | [], [], _ :: _, _, _, _, h => h.elim
  | [], _ :: _, _, _, _, _, h => h.elim
  | _ :: _, [], _, _, _, _, h => h.elim
  | _ :: _, _ :: _, [], _, _, _, h => h.elim

/-- From the evaluator's answer to the row's contract. -/
theorem law_contract [GlobT] {T : List AFun} (hm : P.follows .mixedOrders = true) (hT : Checked P T) {vi f n : Nat} {fn : Func} (hvi : ftOf T vi = some f) {s : ChangeSpec} (hvars : s.vars = []) {tb : TypeId} (hrt : fn.resultTypes = #[tb]) (htb : P.underlying tb = some .bool)
    (hl : laidOutB P = true) (hts : ∀ t ∈ fn.params.toList, P.readableRec t = true ∧ t < P.types.size) (hok : fn.params.toList.all (okT P n) = true)
    (hev : ∀ xs, ShapeAll P n fn.params.toList xs → ∃ k H', evF P T k 0 vi xs [] = some (.lit (.bool true), H'))
    {W : World} {base' : Nat} {args : Array Value} {ds gs : List (DataW H)} {before : List MemPlace} {fresh handsOn : Bool} (hgl : GlobInv (top W))
    (hfn : (s.fn H (ds ++ gs)).results = [.lit (.bool true)] ∧ (s.fn H (ds ++ gs)).args = ds ∧ (s.fn H (ds ++ gs)).vars = [])
    (hval : ∀ (j : Nat) t v, fn.params[j]? = some t → args[j]? = some v → Value.okWide P W .any base' t v)
    (hW : DataW.Whole enc P fn.params.toList s.vars false W args.toList ds gs before) :
    Calls P f args W fun e W' => ∃ v, e = .returned v ∧ s.post enc P fn false fresh handsOn false W args v W' := by
  have hW' := hW
  obtain ⟨p, q, hA, hV, rfl, hfz, hnd⟩ := hW
  obtain ⟨xs, g1, g2, g3⟩ := rv_args (FT := ftOf T) (n := n) fn.params.toList args.toList ds p (fun j t v e1 e2 => hval j t v (by simpa using e1) (by simpa using e2)) hok hA
  obtain ⟨k, H', he⟩ := hev xs g1
  have hargs : ArgsR (ftOf T) (top W) xs args := ⟨by simpa using g2.symm, fun i x hx => by
    obtain ⟨v, h1, h2⟩ := g3 i x hx
    exact ⟨v, by simpa using h1, h2⟩⟩
  refine (evF_sound hm hT k 0 vi f xs _ H' (top W) args he hvi (top_sim _ W hgl) (Nat.zero_le _) hargs).mono fun e W' hq => ?_
  obtain ⟨v, c', rfl, rfl, _, _, hst, _, hrv⟩ := hq
  have hv : v = .bool true := hrv.lit_inv
  subst hv
  have hb : Below W.heap.size W c'.w := ⟨hst.os, hst.tape, hst.output, hst.size, fun i hi => hst.frame i hi (fun id h => by cases h)⟩
  have hq0 : gs = [] ∧ q = [] := by
    rw [hvars] at hV
    cases gs with
    | nil => exact ⟨rfl, hV⟩
    | cons _ _ => exact hV.elim
  obtain ⟨rfl, rfl⟩ := hq0
  have hlt : ∀ x ∈ p, x.block < W.heap.size := fun x hx => hW'.lt x (by simpa using hx)
  have hA' := trodAll_below (ts := []) hl hb fn.params.toList args.toList ds p hts hlt hA
  refine ⟨_, rfl, ds, [], p ++ [], [], p, [], hW', ?_, ?_, ?_, hb.frame _, fun h => by cases h⟩
  · rw [hfn.1, hrt]
    exact ⟨[], [], shut_bool htb _, rfl, rfl⟩
  · rw [hfn.2.1]
    exact hA'
  · rw [hvars, hfn.2.2]
    rfl

end
end Go.Proofs.YtanonfpdkoijnaaGreatDoor.Av
