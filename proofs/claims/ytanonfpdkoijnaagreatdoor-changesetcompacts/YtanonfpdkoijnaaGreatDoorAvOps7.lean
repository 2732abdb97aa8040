/- A part of the proof of ChangesetCompactsCardSaid: an evaluator of the program, proved sound, and what it says. -/
import Derived.Test.YtanonfpdkoijnaaGreatDoorAvOps6
namespace Go.Proofs.YtanonfpdkoijnaaGreatDoor.Av
open Go

section
variable {P : Program} {T : List AFun} {c : Ctx} {fl : Nat} {o : Oper} {a : Act} {tm : List AV}

/-- Elements, written out as cells. -/
def ElemsR (FT : Nat → Option Nat) (c : Ctx) (s : Nat) (ys : List (List AV)) (news : List Value) : Prop :=
  news.length = ys.length * s ∧ ∀ i j x, cellE ys i j = some x → ∃ u, news[i * s + j]? = some u ∧ scalarB u = true ∧ RV FT c x u

theorem allLen_spec {s : Nat} {ys : List (List AV)} (h : allLen s ys = true) : ∀ e ∈ ys, e.length = s := by
  intro e he
  have := List.all_eq_true.1 h e he
  simpa using this

theorem elemsR_scalar [GlobT] {FT : Nat → Option Nat} {s : Nat} {ys : List (List AV)} {news : List Value} (hl : ∀ e ∈ ys, e.length = s) (h : ElemsR FT c s ys news) : ∀ u ∈ news, u.oneCell' = true := by
  intro u hu
  obtain ⟨p, hp⟩ := List.mem_iff_getElem?.1 hu
  have hlt : p < ys.length * s := by rw [← h.1]; exact (List.getElem?_eq_some_iff.1 hp).1
  have hs : 0 < s := by
    rcases Nat.eq_zero_or_pos s with h0 | h0
    · subst h0; simp at hlt
    · exact h0
  have hi : p / s < ys.length := Nat.div_lt_of_lt_mul (by rw [Nat.mul_comm]; exact hlt)
  have hj : p % s < s := Nat.mod_lt _ hs
  have he : (ys[p / s]).length = s := hl _ (List.getElem_mem hi)
  obtain ⟨u', h1, h2, _⟩ := h.2 (p / s) (p % s) ((ys[p / s])[p % s]'(by omega)) (by simp [cellE, hi, he, hj])
  rw [Nat.mul_comm, Nat.div_add_mod] at h1
  rw [hp] at h1
  cases h1
  rw [← scalar_one]; exact h2

theorem rows_list [GlobT] {FT : Nat → Option Nat} {s k b n : Nat} {cc : Array Value} {Ty : TypeId} {fz : Nat × Nat} {ys : List (List AV)} (hb : c.w.heap[b]? = some (.cells cc Ty fz)) (hs : 0 < s) (hn : ys.length = n) (hl : ∀ e ∈ ys, e.length = s)
    (h : ∀ i j x, cellE ys i j = some x → ∃ u, cc[k + (i * s + j)]? = some u ∧ scalarB u = true ∧ RV FT c x u) :
    ∃ news, ElemsR FT c s ys news ∧ ∀ (j : Nat) (v : Value), news[j]? = some v → c.w.cell? ((⟨b, k, none⟩ : Addr).add j) = some v := by
  refine ⟨(cc.toList.drop k).take (n * s), ⟨?_, ?_⟩, ?_⟩
  · simp only [List.length_take, List.length_drop, Array.length_toList, hn]
    cases n with
    | zero => simp
    | succ m =>
      have hm : m < ys.length := by omega
      have he : (ys[m]).length = s := hl _ (List.getElem_mem hm)
      obtain ⟨u, hu, _⟩ := h m (s - 1) ((ys[m])[s - 1]'(by omega)) (by simp [cellE, hm])
      have : k + (m * s + (s - 1)) < cc.size := (Array.getElem?_eq_some_iff.1 hu).1
      rw [Nat.add_mul]; omega
  · intro i j x hx
    obtain ⟨u, h1, h2, h3⟩ := h i j x hx
    refine ⟨u, ?_, h2, h3⟩
    obtain ⟨e, he, hj⟩ := cellE_some hx
    have hjs : j < s := by rw [← hl e (List.mem_of_getElem? he)]; exact (List.getElem?_eq_some_iff.1 hj).1
    have hi : i < n := by rw [← hn]; exact (List.getElem?_eq_some_iff.1 he).1
    rw [List.getElem?_take, if_pos (row_lt hi hjs), List.getElem?_drop]
    simpa using h1
  · intro j v hv
    rw [addr_add, cell_of_row c.w b (k + j) cc Ty fz hb]
    rw [List.getElem?_take] at hv
    split at hv
    · simpa using hv
    · cases hv

/-- A slice that is read. -/
theorem rd_rv [GlobT] {FT : Nat → Option Nat} (hs : Sim FT c) {y : AV} {v : Value} {ys : List (List AV)} {s : Nat} (hr : RV FT c y v) (h : rd c.H y = some ys) (hl : ∀ e ∈ ys, e.length = s) (hs0 : 0 < s) :
    ∃ xa xc news, v = .slice xa ys.length xc ∧ ys.length ≤ xc ∧ ElemsR FT c s ys news ∧ ∀ w', Drawn c.w w' → (Builtin.firstCells s ys.length v).run P w' = .ok news.toArray w' := by
  have fin : ∀ (b k xc : Nat) (news : List Value), ElemsR FT c s ys news → (∀ (j : Nat) (v : Value), news[j]? = some v → c.w.cell? ((⟨b, k, none⟩ : Addr).add j) = some v) →
      ∀ w', Drawn c.w w' → (Builtin.firstCells s ys.length (.slice (some ⟨b, k, none⟩) ys.length xc)).run P w' = .ok news.toArray w' := by
    intro b k xc news h1 h2 w' hd
    refine run_firstCells_some w' s ys.length ⟨b, k, none⟩ ys.length xc news h1.1 ?_
    intro j v hv
    rw [World.cell?_of_block (w := c.w) (by rw [hd.heap])]
    exact h2 j v hv
  have finE : ∀ (xa : Option Addr) (xc : Nat), ys = [] → ∀ w', Drawn c.w w' → (Builtin.firstCells s ys.length (.slice xa ys.length xc)).run P w' = .ok (#[] : Array Value) w' := by
    intro xa xc he w' _
    subst he
    cases xa <;> simp [Builtin.firstCells, loadCells, loadCellsFrom]
  have emp : ys = [] → ElemsR FT c s ys [] := by
    intro he; subst he; exact ⟨by simp, fun i j x hx => by simp [cellE] at hx⟩
  unfold rd at h
  split at h
  · cases h
    exact ⟨none, 0, [], hr.lit_inv, Nat.zero_le _, emp rfl, by rw [hr.lit_inv]; exact finE none 0 rfl⟩
  · rename_i f es
    cases h
    have hp := hr.sl_inv
    cases hp with
    | nil _ ad cap hf => exact ⟨ad, cap, [], rfl, Nat.zero_le _, emp rfl, finE ad cap rfl⟩
    | sl _ _ b off cap cc Ty fz s' vals g1 g2 g3 g4 g5 g6 g7 g8 =>
      have e : s' = s := by
        cases ys with
        | nil => exact (g1 rfl).elim
        | cons e r => rw [← g4 e (by simp), hl e (by simp)]
      subst e
      obtain ⟨news, k1, k2⟩ := rows_list (k := off) g3 hs0 rfl hl (fun i j x hx => ⟨vals i j, (g7 i j x hx).1, (g7 i j x hx).2, .pure _ _ (g8 i j x hx)⟩)
      exact ⟨_, cap, news, rfl, g5, k1, fin b off cap news k1 k2⟩
  · rename_i id tot off len
    split at h
    · rename_i s' es hob
      split at h
      · rename_i htot
        cases h
        obtain ⟨ad, cap, s0, n0, hv, g1, g2, g3, g4⟩ := hr.ms_inv
        rw [shp_of hob] at g1
        cases g1
        obtain ⟨m1, m2⟩ := g4 htot.symm
        have hlen : ((es.drop off).take len).length = len := by simp; omega
        rw [hlen]
        rcases m2 with ⟨_, m3, m4, m5⟩ | ⟨b, cc, Ty, a', m3, m4, m5, m6, m7⟩
        · subst m5
          have hl0 : len = 0 := by omega
          subst hl0
          have he : (es.drop off).take 0 = [] := by simp
          have k2 := finE ad 0 he
          simp only [hlen] at k2
          exact ⟨ad, 0, [], hv, Nat.le_refl _, emp he, by rw [hv]; exact k2⟩
        · by_cases hl0 : len = 0
          · subst hl0
            have he : (es.drop off).take 0 = [] := by simp
            have k2 := finE ad cap he
            simp only [hlen] at k2
            exact ⟨ad, cap, [], hv, Nat.zero_le _, emp he, by rw [hv]; exact k2⟩
          · have ha := m7 (by omega)
            subst m6
            subst ha
            obtain ⟨cc', Ty', q1, q2, q3⟩ := hs.blk id s' es b hob m3
            rw [m4] at q1
            cases q1
            have es0 : s' = s := by
              have hne : 0 < es.length := by omega
              have hm : off < es.length := by omega
              have h1 := hs.lens id s' es hob (es[off]) (List.getElem_mem hm)
              have h2 := hl (es[off]) (by
                rw [List.mem_iff_getElem?]
                exact ⟨0, by rw [List.getElem?_take, if_pos (by omega), List.getElem?_drop]; simp [hm]⟩)
              omega
            subst es0
            obtain ⟨news, k1, k2⟩ := rows_list (FT := FT) (k := off * s') m4 hs0 rfl hl (fun i j x hx => by
              obtain ⟨e, he, hj⟩ := cellE_some hx
              rw [List.getElem?_take] at he
              split at he
              · rw [List.getElem?_drop] at he
                obtain ⟨u, w1, w2, w3⟩ := q3 (off + i) j x (by simp [cellE, he, hj])
                exact ⟨u, by rw [← w1]; congr 1; rw [Nat.add_mul]; omega, w2, w3⟩
              · cases he)
            have k3 := fin b (off * s') cap news k1 k2
            simp only [hlen] at k3
            exact ⟨_, cap, news, hv, by omega, k1, by rw [hv]; exact k3⟩
      · cases h
    · cases h
  · cases h

end
end Go.Proofs.YtanonfpdkoijnaaGreatDoor.Av
