/- A part of the proof of ChangesetCompactsCardSaid: an evaluator of the program, proved sound, and what it says. -/
import Derived.Test.YtanonfpdkoijnaaGreatDoorAvOps3
import Derived.Great.BuildSlice
import Derived.Laws.Tables
namespace Go.Proofs.YtanonfpdkoijnaaGreatDoor.Av
open Go

section
variable {P : Program} {T : List AFun} {c : Ctx} {fl : Nat} {o : Oper} {a : Act} {tm : List AV}

def CellsR (FT : Nat → Option Nat) (c : Ctx) (cs : List AV) (cv : Array Value) : Prop :=
  cv.size = cs.length ∧ ∀ (j : Nat) (x : AV), cs[j]? = some x → ∃ v, cv[j]? = some v ∧ scalarB v = true ∧ RV FT c x v

theorem foldl_put (off : Nat) (v cells : Array Value) : (v.zipIdx.foldl (fun cs (x : Value × Nat) => cs.setIfInBounds (off + x.2) x.1) cells).size = cells.size ∧
    ∀ k, (v.zipIdx.foldl (fun cs (x : Value × Nat) => cs.setIfInBounds (off + x.2) x.1) cells)[k]? = if off ≤ k ∧ k < off + v.size ∧ k < cells.size then v[k - off]? else cells[k]? := by
  have e : v.zipIdx.foldl (fun cs (x : Value × Nat) => cs.setIfInBounds (off + x.2) x.1) cells = (v.toList.zipIdx 0).foldl (fun cs (x : Value × Nat) => cs.setIfInBounds (off + x.2) x.1) cells := by
    rw [← Array.foldl_toList]; simp
  rw [e]
  have h := Great.foldl_set off v.toList 0 cells
  simpa using h

theorem fill_cons {place : Nat → Option (Nat × Nat)} {cells : Array Value} {i off size : Nat} {v : Value} {rest : List (Nat × Value)} (hp : place i = some (off, size)) (h1 : v.cells.size = size) (h2 : off + size ≤ cells.size) :
    Instr.fill place cells ((i, v) :: rest) = Instr.fill place (v.cells.zipIdx.foldl (fun cs (x : Value × Nat) => cs.setIfInBounds (off + x.2) x.1) cells) rest := by
  rw [Instr.fill]
  simp only [hp, h1]
  rw [if_neg (by simp; omega)]

theorem fill_rv [GlobT] (hs : Sim (ftOf T) c) (htr : TR (ftOf T) c tm a.tmps) {place : Nat → Option (Nat × Nat)} : ∀ (ps : List (Nat × Nat × AOpd)) (qs : List (Nat × Operand)) (cells cs : List AV) (cv : Array Value),
    chkParts T place ps qs = true → CellsR (ftOf T) c cells cv → fillA cells (ps.map fun (o, s, x) => (o, s, getOpd tm x)) = some cs →
    ∃ r, Instr.fill place cv (qs.map fun (i, x) => (i, a.eval x)) = some r ∧ CellsR (ftOf T) c cs r
  | [], [], cells, cs, cv, _, hc, hf => by
    simp only [List.map_nil, fillA, Option.some.injEq] at hf
    subst hf
    exact ⟨cv, rfl, hc⟩
  | (off, s, x) :: ps, (i, y) :: qs, cells, cs, cv, hk, hc, hf => by
    simp only [chkParts, Bool.and_eq_true] at hk
    obtain ⟨⟨hp, hx⟩, hrest⟩ := hk
    have hp' : place i = some (off, s) := by simpa using hp
    simp only [List.map_cons, fillA] at hf
    split at hf
    · cases hf
    · rename_i ys hy
      split at hf
      · rename_i hcond
        obtain ⟨v1, v2⟩ := cellsOf_rv (getOpd_rv hs htr hx) hy
        have hvs : (a.eval y).cells.size = s := v1.trans hcond.1
        obtain ⟨g1, g2⟩ := foldl_put off (a.eval y).cells cv
        have hnew : CellsR (ftOf T) c (splice cells off ys) ((a.eval y).cells.zipIdx.foldl (fun cs (x : Value × Nat) => cs.setIfInBounds (off + x.2) x.1) cv) := by
          refine ⟨by rw [g1, splice_length (by omega)]; exact hc.1, fun j z hz => ?_⟩
          rw [g2 j]
          rw [splice_get (by omega)] at hz
          have hsz := hc.1
          split at hz
          · rename_i hj
            rw [if_neg (by omega)]
            exact hc.2 j z hz
          · rename_i hj
            split at hz
            · rename_i hj2
              rw [if_pos (by omega)]
              exact v2 _ z hz
            · rename_i hj2
              rw [if_neg (by omega)]
              exact hc.2 j z hz
        obtain ⟨r, k1, k2⟩ := fill_rv hs htr ps qs _ cs _ hrest hnew hf
        refine ⟨r, ?_, k2⟩
        simp only [List.map_cons]
        rw [fill_cons hp' hvs (by rw [hc.1]; exact hcond.2)]
        exact k1
      · cases hf
  | [], _ :: _, _, _, _, hk, _, _ => by cases hk
  | (_, _, _) :: _, [], _, _, _, hk, _, _ => by cases hk

theorem lits_cellsR [GlobT] {FT : Nat → Option Nat} {z : List Value} (hsc : ∀ u ∈ z, scalarB u = true) : CellsR FT c (z.map .lit) z.toArray := by
  refine ⟨by simp, fun j x hx => ?_⟩
  simp only [List.getElem?_map, Option.map_eq_some_iff] at hx
  obtain ⟨u, hu, rfl⟩ := hx
  exact ⟨u, by simpa using hu, hsc u (List.mem_of_getElem? hu), RV.lit u⟩

theorem cellsR_agg {FT : Nat → Option Nat} {cs : List AV} {cv : Array Value} (h : CellsR FT c cs cv) : RV FT c (.agg cs) (.agg cv) := by
  refine .agg cs cv (fun i => (cv[i]?).getD undefV) h.1 ?_ ?_
  · intro i x hx
    obtain ⟨v, g1, g2, _⟩ := h.2 i x hx
    simp [g1, g2]
  · intro i x hx
    obtain ⟨v, g1, _, g3⟩ := h.2 i x hx
    simpa [g1] using g3

theorem mapM_places {fs : List Field} (h : allSized P fs = true) : ∃ places, fs.mapM (fun f => (P.info? f.type).map fun i => (f.offset, i.size)) = some places ∧
    ∀ i, places[i]? = fieldPl P fs.toArray i := by
  induction fs with
  | nil => exact ⟨[], by simp, fun i => by simp [fieldPl]⟩
  | cons f fs ih =>
    simp only [allSized, List.all_cons, Bool.and_eq_true] at h
    obtain ⟨pl, h1, h2⟩ := ih h.2
    obtain ⟨n, hn⟩ := Option.isSome_iff_exists.1 h.1
    refine ⟨(f.offset, n.size) :: pl, by simp [List.mapM_cons, hn, h1], fun i => ?_⟩
    cases i with
    | zero => simp [fieldPl, hn]
    | succ i =>
      have := h2 i
      simp only [List.getElem?_cons_succ, this]
      simp [fieldPl]

theorem op_build [GlobT] (hs : Sim (ftOf T) c) (htr : TR (ftOf T) c tm a.tmps) {z : List Value} {ps : List (Nat × Nat × AOpd)} {qs : Array (Nat × Operand)} {t : TypeId} {cs : List AV} (ho : o.op = .build t qs)
    (hz : zeroIs P t z = true) (hc : chkOp P T (.build z ps) (.build t qs) = true) (hf : fillA (z.map .lit) (ps.map fun (o, s, x) => (o, s, getOpd tm x)) = some cs) :
    OpOK P (ftOf T) c fl o a (.agg cs) c.H := by
  obtain ⟨i, v, hi, hv, hvc, hsc⟩ := zeroIs_spec hz
  simp only [chkOp, hz, Bool.true_and] at hc
  have hbuilt : ∃ r, P.built t (qs.map fun (i, x) => (i, a.eval x)).toList = some r ∧ CellsR (ftOf T) c cs r := by
    have hql : (qs.map fun (i, x) => (i, a.eval x)).toList = qs.toList.map fun (i, x) => (i, a.eval x) := by simp
    rw [hql]
    split at hc
    · rename_i fs hu
      simp only [Bool.and_eq_true] at hc
      obtain ⟨pl, h1, h2⟩ := mapM_places hc.1
      have hpl : (fun i => pl.toArray[i]?) = fieldPl P fs := by
        funext i
        have := h2 i
        simpa using this
      obtain ⟨r, k1, k2⟩ := fill_rv hs htr ps qs.toList _ cs _ hc.2 (lits_cellsR hsc) hf
      refine ⟨r, ?_, k2⟩
      unfold Program.built
      simp only [hi, hu, hv, h1, hpl, hvc]
      exact k1
    · rename_i n e hu
      split at hc
      · rename_i ie hie
        obtain ⟨r, k1, k2⟩ := fill_rv hs htr ps qs.toList _ cs _ hc (lits_cellsR hsc) hf
        refine ⟨r, ?_, k2⟩
        unfold Program.built
        simp only [hi, hu, hv, hie, hvc]
        exact k1
      · cases hc
    · cases hc
  obtain ⟨r, k1, k2⟩ := hbuilt
  refine ok_same (cv := .agg r) hs ?_ (cellsR_agg k2)
  simp only [execOp, ho, Sem.run_bind, run_build c.w t _ r k1, Result.andThen_ok, Sem.run_pure]

/-- Elements side by side. -/
def RowsR (FT : Nat → Option Nat) (c : Ctx) (s : Nat) (es : List (List AV)) (cv : Array Value) : Prop :=
  cv.size = es.length * s ∧ (∀ e ∈ es, e.length = s) ∧ ∀ i j x, cellE es i j = some x → ∃ v, cv[i * s + j]? = some v ∧ scalarB v = true ∧ RV FT c x v

theorem fillE_rv [GlobT] (hs : Sim (ftOf T) c) (htr : TR (ftOf T) c tm a.tmps) {s : Nat} : ∀ (ps : List (Nat × AOpd)) (qs : List (Nat × Operand)) (es es' : List (List AV)) (cv : Array Value),
    chkElems T ps qs = true → RowsR (ftOf T) c s es cv → fillE s es (ps.map fun (i, x) => (i, getOpd tm x)) = some es' →
    es'.length = es.length ∧ ∃ r, Instr.fill (fun i => some (i * s, s)) cv (qs.map fun (i, x) => (i, a.eval x)) = some r ∧ RowsR (ftOf T) c s es' r
  | [], [], es, es', cv, _, hc, hf => by
    simp only [List.map_nil, fillE, Option.some.injEq] at hf
    subst hf
    exact ⟨rfl, cv, rfl, hc⟩
  | (i, x) :: ps, (i', y) :: qs, es, es', cv, hk, hc, hf => by
    simp only [chkElems, Bool.and_eq_true, beq_iff_eq] at hk
    obtain ⟨⟨rfl, hx⟩, hrest⟩ := hk
    simp only [List.map_cons, fillE] at hf
    split at hf
    · cases hf
    · rename_i ys hy
      split at hf
      · rename_i hcond
        obtain ⟨v1, v2⟩ := cellsOf_rv (getOpd_rv hs htr hx) hy
        have hvs : (a.eval y).cells.size = s := v1.trans hcond.1
        have hlt : (i + 1) * s ≤ es.length * s := Nat.mul_le_mul_right s hcond.2
        rw [Nat.add_mul] at hlt
        obtain ⟨g1, g2⟩ := foldl_put (i * s) (a.eval y).cells cv
        have hnew : RowsR (ftOf T) c s (es.set i ys) ((a.eval y).cells.zipIdx.foldl (fun cs (x : Value × Nat) => cs.setIfInBounds (i * s + x.2) x.1) cv) := by
          refine ⟨by rw [g1]; simpa using hc.1, ?_, ?_⟩
          · intro e he
            rcases List.mem_or_eq_of_mem_set he with h | h
            · exact hc.2.1 e h
            · rw [h]; exact hcond.1
          · intro k j z hz
            rw [g2]
            obtain ⟨e1, h1, h2⟩ := cellE_some hz
            by_cases ek : k = i
            · subst ek
              have : e1 = ys := by
                rw [List.getElem?_set] at h1
                simp only [hcond.2, if_true] at h1
                exact (Option.some.inj h1).symm
              subst this
              have hj : j < s := by rw [← hcond.1]; exact (List.getElem?_eq_some_iff.1 h2).1
              have hsz := hc.1
              rw [if_pos (by omega)]
              obtain ⟨u, w1, w2, w3⟩ := v2 j z h2
              refine ⟨u, ?_, w2, w3⟩
              rw [← w1]; congr 1; omega
            · rw [getElem?_set_ne' ek] at h1
              have hj : j < s := by rw [← hc.2.1 e1 (List.mem_of_getElem? h1)]; exact (List.getElem?_eq_some_iff.1 h2).1
              have hout : ¬ (i * s ≤ k * s + j ∧ k * s + j < i * s + (a.eval y).cells.size ∧ k * s + j < cv.size) := by
                rcases Nat.lt_or_gt_of_ne ek with h | h
                · have : (k + 1) * s ≤ i * s := Nat.mul_le_mul_right s h
                  rw [Nat.add_mul] at this; omega
                · have : (i + 1) * s ≤ k * s := Nat.mul_le_mul_right s h
                  rw [Nat.add_mul] at this; omega
              rw [if_neg hout]
              exact hc.2.2 k j z (by simp [cellE, h1, h2])
        obtain ⟨hl, r, k1, k2⟩ := fillE_rv hs htr ps qs _ es' _ hrest hnew hf
        refine ⟨by simpa using hl, r, ?_, k2⟩
        simp only [List.map_cons]
        rw [fill_cons (off := i * s) (size := s) rfl hvs (by rw [hc.1]; omega)]
        exact k1
      · cases hf
  | [], _ :: _, _, _, _, hk, _, _ => by cases hk
  | (_, _) :: _, [], _, _, _, hk, _, _ => by cases hk

theorem cellE_replicate [GlobT] {n i j : Nat} {e : List AV} {x : AV} (h : cellE (List.replicate n e) i j = some x) : i < n ∧ e[j]? = some x := by
  obtain ⟨e1, h1, h2⟩ := cellE_some h
  rw [List.getElem?_replicate] at h1
  split at h1
  · cases h1; exact ⟨by assumption, h2⟩
  · cases h1

theorem rowsR_zero [GlobT] {FT : Nat → Option Nat} {s n m : Nat} {z : List Value} {cv : Array Value} (hz : z.length = s) (hsc : ∀ u ∈ z, scalarB u = true) (hv : cv.toList = z) (hnm : n ≤ m) :
    (∀ e ∈ List.replicate n (z.map AV.lit), e.length = s) ∧ ∀ i j x, cellE (List.replicate n (z.map AV.lit)) i j = some x →
      ∃ v, ((Array.range (m * s)).map (cv[· % cv.size]!))[i * s + j]? = some v ∧ scalarB v = true ∧ RV FT c x v := by
  refine ⟨fun e he => by rw [List.mem_replicate] at he; rw [he.2]; simpa using hz, fun i j x hx => ?_⟩
  obtain ⟨hi, hj⟩ := cellE_replicate hx
  simp only [List.getElem?_map, Option.map_eq_some_iff] at hj
  obtain ⟨u, hu, rfl⟩ := hj
  have hjs : j < s := by rw [← hz]; exact (List.getElem?_eq_some_iff.1 hu).1
  have hcs : cv.size = s := by rw [← Array.length_toList, hv, hz]
  have hlt : i * s + j < m * s := row_lt (by omega) hjs
  have hmod : (i * s + j) % cv.size = j := by rw [hcs, Nat.mul_comm, Nat.mul_add_mod, Nat.mod_eq_of_lt hjs]
  refine ⟨u, ?_, hsc u (List.mem_of_getElem? hu), RV.lit u⟩
  have hcu : cv[j]? = some u := by rw [← Array.getElem?_toList, hv]; exact hu
  simp only [Array.getElem?_map, Array.getElem?_range, hlt, if_true, Option.map_some, hmod]
  rw [getElem!_def, hcu]

end
end Go.Proofs.YtanonfpdkoijnaaGreatDoor.Av
