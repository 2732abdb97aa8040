/- A part of the proof of ChangesetCompactsCardSaid: an evaluator of the program, proved sound, and what it says. -/
import Derived.Test.YtanonfpdkoijnaaGreatDoorAvRel
import Derived.Laws.CopyRow
import Derived.Laws.AppendOwn
namespace Go.Proofs.YtanonfpdkoijnaaGreatDoor.Av
open Go

variable {FT : Nat → Option Nat}

def upd (β : Nat → Option Nat) (id b : Nat) : Nat → Option Nat := fun i => if i = id then some b else β i

theorem upd_same (β : Nat → Option Nat) (id b : Nat) : upd β id b id = some b := by simp [upd]
theorem upd_other {β : Nat → Option Nat} {id b i : Nat} (h : i ≠ id) : upd β id b i = β i := by simp [upd, h]

/-- Worlds that differ by draws alone. -/
structure Drawn (w w' : World) : Prop where
  heap : w'.heap = w.heap
  os : w'.os = w.os
  tape : w'.tape = w.tape
  output : w'.output = w.output

theorem Drawn.refl (w : World) : Drawn w w := ⟨rfl, rfl, rfl, rfl⟩

theorem step_drawn {fl : Nat} {c : Ctx} {w' : World} (h : Drawn c.w w') : Step fl c ⟨w', c.X, c.β, c.H⟩ where
  X := rfl
  os := h.os
  tape := h.tape
  output := h.output
  size := by simp [h.heap]
  len := Nat.le_refl _
  frame := fun k _ _ => by simp [h.heap]
  img := fun i _ hb => .inr ⟨i, hb⟩
  blkS := fun _ _ n hs => ⟨n, hs, Nat.le_refl _, fun _ => ⟨rfl, fun _ cs _ _ hb => ⟨cs, by simpa [h.heap] using hb, rfl⟩⟩⟩
  mpS := fun _ hm => ⟨hm, rfl⟩
  floor := fun _ _ => ⟨rfl, rfl, fun _ _ => by simp [h.heap]⟩

theorem Sim.drawn [GlobT] {c : Ctx} {w' : World} (hs : Sim FT c) (h : Drawn c.w w') : Sim FT ⟨w', c.X, c.β, c.H⟩ where
  gl := hs.gl.step (step_drawn (fl := 0) h)
  inj := hs.inj
  dom := hs.dom
  nx := hs.nx
  fresh := fun k hk => hs.fresh k (by simpa [h.heap] using hk)
  lens := hs.lens
  blk := fun id s es b ho hb => by
    obtain ⟨cs, T, h1, h2, h3⟩ := hs.blk id s es b ho hb
    exact ⟨cs, T, by simpa [h.heap] using h1, h2, fun i j x hx => let ⟨v, g1, g2, g3⟩ := h3 i j x hx; ⟨v, g1, g2, g3.step (step_drawn (fl := 0) h)⟩⟩
  map := fun id ents b ho hb => by
    obtain ⟨es, clk, h1, h2, h3⟩ := hs.map id ents b ho hb
    exact ⟨es, clk, by simpa [h.heap] using h1, h2, fun i k x hx => let ⟨e, g1, g2, g3⟩ := h3 i k x hx; ⟨e, g1, g2, g3.step (step_drawn (fl := 0) h)⟩⟩
  raw := fun id ob b ho hb => by simpa [h.heap] using hs.raw id ob b ho hb

theorem shp_append {H : Heap} {o : AObj} {id : Nat} {r : Nat × Nat} (h : shp H id = some r) : shp (H ++ [o]) id = some r := by
  have hlt : id < H.length := by
    rcases Nat.lt_or_ge id H.length with h' | h'
    · exact h'
    · simp [shp, List.getElem?_eq_none h'] at h
  simpa [shp, List.getElem?_append_left hlt] using h

theorem isMap_append {H : Heap} {o : AObj} {id : Nat} (h : isMap H id) : isMap (H ++ [o]) id := by
  obtain ⟨ents, he, hn⟩ := h
  have hlt : id < H.length := by
    rcases Nat.lt_or_ge id H.length with h' | h'
    · exact h'
    · simp [List.getElem?_eq_none h'] at he
  exact ⟨ents, by simpa [List.getElem?_append_left hlt] using he, hn⟩

/-- One more object, in a new block. -/
theorem step_new [GlobT] {fl : Nat} {c : Ctx} {w' : World} {o : AObj} {ob : Obj} (hfl : fl ≤ c.H.length)
    (hh : w'.heap = c.w.heap.push ob) (h1 : w'.os = c.w.os) (h2 : w'.tape = c.w.tape) (h3 : w'.output = c.w.output)
    (hlt : ∀ id b, c.β id = some b → b < c.w.heap.size) :
    Step fl c ⟨w', c.X, upd c.β c.H.length c.w.heap.size, c.H ++ [o]⟩ where
  X := rfl
  os := h1
  tape := h2
  output := h3
  size := by simp [hh]
  len := by simp
  frame := fun k hk _ => by simp only [hh, Array.getElem?_push]; rw [if_neg (by omega)]
  img := fun id b hb => by
    by_cases e : id = c.H.length
    · subst e; simp only [upd_same] at hb; cases hb; exact .inl (Nat.le_refl _)
    · simp only [upd_other e] at hb; exact .inr ⟨_, hb⟩
  blkS := fun id s n hs => ⟨n, shp_append hs, Nat.le_refl _, fun _ => by
    have hne : id ≠ c.H.length := by
      intro e; subst e; simp [shp] at hs
    refine ⟨upd_other hne, fun b cs T hb hcs => ⟨cs, ?_, rfl⟩⟩
    have := hlt id b hb
    simp only [hh, Array.getElem?_push]; rw [if_neg (by omega)]; exact hcs⟩
  mpS := fun id hm => ⟨isMap_append hm, by
    have hne : id ≠ c.H.length := by
      intro e; subst e; obtain ⟨_, he, _⟩ := hm; simp at he
    exact upd_other hne⟩
  floor := fun id hid => by
    have hne : id ≠ c.H.length := by omega
    refine ⟨List.getElem?_append_left (by omega), upd_other hne, fun b hb => ?_⟩
    have := hlt id b hb
    simp only [hh, Array.getElem?_push]; rw [if_neg (by omega)]

theorem Sim.lt [GlobT] {c : Ctx} (hs : Sim FT c) {id b : Nat} (h : c.β id = some b) : b < c.w.heap.size := by
  have hid := hs.dom id b h
  cases ho : c.H[id]? with
  | none => rw [List.getElem?_eq_none_iff] at ho; omega
  | some o =>
    cases o with
    | blk s es =>
      obtain ⟨cs, T, h1, _⟩ := hs.blk id s es b ho h
      rcases Nat.lt_or_ge b c.w.heap.size with hh | hh
      · exact hh
      · rw [Array.getElem?_eq_none hh] at h1; cases h1
    | mp ents =>
      obtain ⟨es, clk, h1, _⟩ := hs.map id ents b ho h
      rcases Nat.lt_or_ge b c.w.heap.size with hh | hh
      · exact hh
      · rw [Array.getElem?_eq_none hh] at h1; cases h1
    | raw ob =>
      have h1 := hs.raw id ob b ho h
      rcases Nat.lt_or_ge b c.w.heap.size with hh | hh
      · exact hh
      · rw [Array.getElem?_eq_none hh] at h1; cases h1

theorem sim_new [GlobT] {c : Ctx} {w' : World} {o : AObj} {ob : Obj} (hs : Sim FT c)
    (hh : w'.heap = c.w.heap.push ob) (h1 : w'.os = c.w.os) (h2 : w'.tape = c.w.tape) (h3 : w'.output = c.w.output)
    (hl : ∀ s es, o = .blk s es → ∀ e ∈ es, e.length = s)
    (ho : ∀ s es, o = .blk s es → ∃ cs T, ob = .cells cs T (0, 0) ∧ es.length * s ≤ cs.size ∧
      ∀ i j x, cellE es i j = some x → ∃ v, cs[i * s + j]? = some v ∧ scalarB v = true ∧ RV FT c x v)
    (hm : ∀ ents, o = .mp ents → ents = [] ∧ ∃ clk, ob = .map #[] clk) (hw : ∀ q, o = .raw q → ob = q) :
    Sim FT ⟨w', c.X, upd c.β c.H.length c.w.heap.size, c.H ++ [o]⟩ := by
  have hst := step_new (fl := 0) (o := o) (Nat.zero_le _) hh h1 h2 h3 (fun id b hb => hs.lt hb)
  have hnew : w'.heap[c.w.heap.size]? = some ob := by simp [hh]
  refine ⟨hs.gl.step hst, ?_, ?_, ?_, fun k hk => hs.fresh k (by simp only [hh, Array.size_push] at hk; omega), ?_, ?_, ?_, ?_⟩
  · intro i j b hi hj
    by_cases ei : i = c.H.length
    · by_cases ej : j = c.H.length
      · rw [ei, ej]
      · subst ei
        simp only [upd_same] at hi
        simp only [upd_other ej] at hj
        cases hi
        have := hs.lt hj
        omega
    · simp only [upd_other ei] at hi
      by_cases ej : j = c.H.length
      · subst ej
        simp only [upd_same] at hj
        cases hj
        have := hs.lt hi
        omega
      · simp only [upd_other ej] at hj
        exact hs.inj i j b hi hj
  · intro id b hb
    by_cases e : id = c.H.length
    · simp [e]
    · simp only [upd_other e] at hb
      have := hs.dom id b hb
      simp only [List.length_append, List.length_singleton]; omega
  · intro id b hb
    by_cases e : id = c.H.length
    · subst e
      simp only [upd_same] at hb
      cases hb
      exact hs.fresh _ (Nat.le_refl _)
    · simp only [upd_other e] at hb
      exact hs.nx id b hb
  · intro id s es ho'
    simp only at ho'
    rw [List.getElem?_append] at ho'
    split at ho'
    · exact hs.lens id s es ho'
    · have : o = .blk s es := by
        have h0 := ho'
        rw [List.getElem?_singleton] at h0
        split at h0
        · exact Option.some.inj h0
        · cases h0
      exact hl s es this
  · intro id s es b ho' hb
    simp only at ho' hb ⊢
    by_cases e : id = c.H.length
    · subst e
      simp only [upd_same] at hb
      cases hb
      have h0 : o = .blk s es := by simpa using ho'
      obtain ⟨cs, T, g1, g2, g3⟩ := ho s es h0
      refine ⟨cs, T, by rw [hnew, g1], g2, fun i j x hx => ?_⟩
      obtain ⟨v, k1, k2, k3⟩ := g3 i j x hx
      exact ⟨v, k1, k2, k3.step hst⟩
    · simp only [upd_other e] at hb
      have hlt := hs.dom id b hb
      rw [List.getElem?_append_left hlt] at ho'
      obtain ⟨cs, T, g1, g2, g3⟩ := hs.blk id s es b ho' hb
      have hbl := hs.lt hb
      refine ⟨cs, T, ?_, g2, fun i j x hx => ?_⟩
      · simp only [hh, Array.getElem?_push]; rw [if_neg (by omega)]; exact g1
      · obtain ⟨v, k1, k2, k3⟩ := g3 i j x hx
        exact ⟨v, k1, k2, k3.step hst⟩
  · intro id ents b ho' hb
    simp only at ho' hb ⊢
    by_cases e : id = c.H.length
    · subst e
      simp only [upd_same] at hb
      cases hb
      have h0 : o = .mp ents := by simpa using ho'
      obtain ⟨g1, clk, g2⟩ := hm ents h0
      subst g1
      exact ⟨#[], clk, by rw [hnew, g2], rfl, fun i k x hx => by simp at hx⟩
    · simp only [upd_other e] at hb
      have hlt := hs.dom id b hb
      rw [List.getElem?_append_left hlt] at ho'
      obtain ⟨es, clk, g1, g2, g3⟩ := hs.map id ents b ho' hb
      have hbl := hs.lt hb
      refine ⟨es, clk, ?_, g2, fun i k x hx => ?_⟩
      · simp only [hh, Array.getElem?_push]; rw [if_neg (by omega)]; exact g1
      · obtain ⟨en, k1, k2, k3⟩ := g3 i k x hx
        exact ⟨en, k1, k2, k3.step hst⟩
  · intro id q b ho' hb
    simp only at ho' hb ⊢
    by_cases e : id = c.H.length
    · subst e
      simp only [upd_same] at hb
      cases hb
      have h0 : o = .raw q := by simpa using ho'
      rw [hnew, hw q h0]
    · simp only [upd_other e] at hb
      have hlt := hs.dom id b hb
      rw [List.getElem?_append_left hlt] at ho'
      have g1 := hs.raw id q b ho' hb
      have hbl := hs.lt hb
      simp only [hh, Array.getElem?_push]; rw [if_neg (by omega)]; exact g1

/-- A new block that belongs to no object. -/
theorem step_push [GlobT] {fl : Nat} {c : Ctx} {w' : World} {ob : Obj} (hs : Sim FT c) (hh : w'.heap = c.w.heap.push ob) (h1 : w'.os = c.w.os) (h2 : w'.tape = c.w.tape) (h3 : w'.output = c.w.output) :
    Step fl c ⟨w', c.X, c.β, c.H⟩ where
  X := rfl
  os := h1
  tape := h2
  output := h3
  size := by simp [hh]
  len := Nat.le_refl _
  frame := fun k hk _ => by simp only [hh, Array.getElem?_push]; rw [if_neg (by omega)]
  img := fun i _ hb => .inr ⟨i, hb⟩
  blkS := fun id s n hs' => ⟨n, hs', Nat.le_refl _, fun _ => ⟨rfl, fun b cs T hb hcs => ⟨cs, by
    have := hs.lt hb
    simp only [hh, Array.getElem?_push]; rw [if_neg (by omega)]; exact hcs, rfl⟩⟩⟩
  mpS := fun id hm => ⟨hm, rfl⟩
  floor := fun id hid => ⟨rfl, rfl, fun b hb => by
    have := hs.lt hb
    simp only [hh, Array.getElem?_push]; rw [if_neg (by omega)]⟩

theorem sim_push [GlobT] {c : Ctx} {w' : World} {ob : Obj} (hs : Sim FT c) (hh : w'.heap = c.w.heap.push ob) (h1 : w'.os = c.w.os) (h2 : w'.tape = c.w.tape) (h3 : w'.output = c.w.output) :
    Sim FT ⟨w', c.X, c.β, c.H⟩ := by
  have hst := step_push (fl := 0) hs hh h1 h2 h3
  refine ⟨hs.gl.step hst, hs.inj, hs.dom, hs.nx, fun k hk => hs.fresh k (by simp only [hh, Array.size_push] at hk; omega), hs.lens, ?_, ?_, fun id q b ho' hb => by
    have g1 := hs.raw id q b ho' hb
    have := hs.lt hb
    simp only [hh, Array.getElem?_push]; rw [if_neg (by omega)]; exact g1⟩
  · intro id s' es b ho' hb
    obtain ⟨cs, T, g1, g2, g3⟩ := hs.blk id s' es b ho' hb
    refine ⟨cs, T, ?_, g2, fun i j x hx => let ⟨v, k1, k2, k3⟩ := g3 i j x hx; ⟨v, k1, k2, k3.step hst⟩⟩
    have := hs.lt hb
    simp only [hh, Array.getElem?_push]; rw [if_neg (by omega)]; exact g1
  · intro id ents b ho' hb
    obtain ⟨es, clk, g1, g2, g3⟩ := hs.map id ents b ho' hb
    refine ⟨es, clk, ?_, g2, fun i k x hx => let ⟨e, k1, k2, k3⟩ := g3 i k x hx; ⟨e, k1, k2, k3.step hst⟩⟩
    have := hs.lt hb
    simp only [hh, Array.getElem?_push]; rw [if_neg (by omega)]; exact g1

/-- An empty slice that has no block yet. -/
theorem step_claim [GlobT] {fl : Nat} {c : Ctx} {s : Nat} (hfl : fl ≤ c.H.length) : Step fl c ⟨c.w, c.X, c.β, c.H ++ [.blk s []]⟩ where
  X := rfl
  os := rfl
  tape := rfl
  output := rfl
  size := Nat.le_refl _
  len := by simp
  frame := fun _ _ _ => rfl
  img := fun i _ hb => .inr ⟨i, hb⟩
  blkS := fun id s n hs => ⟨n, shp_append hs, Nat.le_refl _, fun _ => ⟨rfl, fun b cs T _ hcs => ⟨cs, hcs, rfl⟩⟩⟩
  mpS := fun id hm => ⟨isMap_append hm, rfl⟩
  floor := fun id hid => ⟨List.getElem?_append_left (by omega), rfl, fun _ _ => rfl⟩

theorem sim_claim [GlobT] {c : Ctx} {s : Nat} (hs : Sim FT c) : Sim FT ⟨c.w, c.X, c.β, c.H ++ [.blk s []]⟩ := by
  have hst := step_claim (fl := 0) (c := c) (s := s) (Nat.zero_le _)
  refine ⟨hs.gl.step hst, hs.inj, ?_, hs.nx, hs.fresh, ?_, ?_, ?_, fun id q b ho' hb => by
    simp only at ho' hb ⊢
    have hlt := hs.dom id b hb
    rw [List.getElem?_append_left hlt] at ho'
    exact hs.raw id q b ho' hb⟩
  · intro id b hb
    have := hs.dom id b hb
    simp only [List.length_append, List.length_singleton]; omega
  · intro id s' es ho'
    simp only at ho'
    rw [List.getElem?_append] at ho'
    split at ho'
    · exact hs.lens id s' es ho'
    · rw [List.getElem?_singleton] at ho'
      split at ho'
      · cases ho'; simp
      · cases ho'
  · intro id s' es b ho' hb
    simp only at ho' hb ⊢
    have hlt := hs.dom id b hb
    rw [List.getElem?_append_left hlt] at ho'
    obtain ⟨cs, T, g1, g2, g3⟩ := hs.blk id s' es b ho' hb
    exact ⟨cs, T, g1, g2, fun i j x hx => let ⟨v, k1, k2, k3⟩ := g3 i j x hx; ⟨v, k1, k2, k3.step hst⟩⟩
  · intro id ents b ho' hb
    simp only at ho' hb ⊢
    have hlt := hs.dom id b hb
    rw [List.getElem?_append_left hlt] at ho'
    obtain ⟨es, clk, g1, g2, g3⟩ := hs.map id ents b ho' hb
    exact ⟨es, clk, g1, g2, fun i k x hx => let ⟨e, k1, k2, k3⟩ := g3 i k x hx; ⟨e, k1, k2, k3.step hst⟩⟩

theorem getElem?_set_ne' {α : Type} {l : List α} {i j : Nat} {a : α} (h : j ≠ i) : (l.set i a)[j]? = l[j]? := by
  rw [List.getElem?_set]; rw [if_neg (fun e => h e.symm)]

theorem getElem?_set_eq' {α : Type} {l : List α} {i : Nat} {a b : α} (h : l[i]? = some b) : (l.set i a)[i]? = some a := by
  have hlt : i < l.length := by
    rcases Nat.lt_or_ge i l.length with h' | h'
    · exact h'
    · rw [List.getElem?_eq_none h'] at h; cases h
  rw [List.getElem?_set]; simp [hlt]

theorem shp_set [GlobT] {H : Heap} {id s s' : Nat} {es es' : List (List AV)} (h : H[id]? = some (.blk s es)) (i : Nat) :
    shp (H.set id (.blk s' es')) i = if i = id then some (s', es'.length) else shp H i := by
  by_cases e : i = id
  · subst e; simp [shp, getElem?_set_eq' h]
  · simp [shp, getElem?_set_ne' e, e]

/-- A block of cells is written in place. -/
theorem step_set [GlobT] {fl : Nat} {c : Ctx} {w' : World} {id b s : Nat} {es es' : List (List AV)} {cs cs' : Array Value} {T : TypeId}
    (hs : Sim FT c) (hfl : fl ≤ id) (ho : c.H[id]? = some (.blk s es)) (hb : c.β id = some b) (hcs : c.w.heap[b]? = some (.cells cs T (0, 0)))
    (hlen : es.length ≤ es'.length) (hsz : cs'.size = cs.size)
    (h0 : w'.heap[b]? = some (.cells cs' T (0, 0))) (hn : ∀ k, k ≠ b → w'.heap[k]? = c.w.heap[k]?) (hz : w'.heap.size = c.w.heap.size)
    (h1 : w'.os = c.w.os) (h2 : w'.tape = c.w.tape) (h3 : w'.output = c.w.output) :
    Step fl c ⟨w', c.X, c.β, c.H.set id (.blk s es')⟩ where
  X := rfl
  os := h1
  tape := h2
  output := h3
  size := by simp [hz]
  len := by simp
  frame := fun k _ hk => hn k (fun e => hk id (by rw [e]; exact hb))
  img := fun i _ h => .inr ⟨i, h⟩
  blkS := fun i s' n hs' => by
    have hsh := shp_set (s' := s) (es' := es') ho i
    by_cases e : i = id
    · subst e
      have hs0 : s' = s ∧ n = es.length := by
        simp only [shp, ho, Option.some.injEq, Prod.mk.injEq] at hs'; exact ⟨hs'.1.symm, hs'.2.symm⟩
      obtain ⟨rfl, rfl⟩ := hs0
      refine ⟨es'.length, by rw [hsh]; simp, hlen, fun _ => ⟨rfl, fun b' cs0 T0 hb' hc0 => ?_⟩⟩
      rw [hb] at hb'; cases hb'
      rw [hcs] at hc0; cases hc0
      exact ⟨cs', h0, hsz⟩
    · refine ⟨n, by rw [hsh, if_neg e]; exact hs', Nat.le_refl _, fun _ => ⟨rfl, fun b' cs0 T0 hb' hc0 => ⟨cs0, ?_, rfl⟩⟩⟩
      rw [hn b' (fun eb => e (hs.inj i id b (by rw [← eb]; exact hb') hb))]; exact hc0
  mpS := fun i hm => ⟨by
    obtain ⟨ents, he, hnb⟩ := hm
    have e : i ≠ id := by intro e; subst e; rw [ho] at he; cases he; exact hnb
    exact ⟨ents, by simpa [getElem?_set_ne' e] using he, hnb⟩, rfl⟩
  floor := fun i hi => by
    have e : i ≠ id := by omega
    exact ⟨getElem?_set_ne' e, rfl, fun b' hb' => hn b' (fun eb => e (hs.inj i id b (by rw [← eb]; exact hb') hb))⟩

theorem sim_set [GlobT] {c : Ctx} {w' : World} {id b s : Nat} {es es' : List (List AV)} {cs cs' : Array Value} {T : TypeId}
    (hs : Sim FT c) (ho : c.H[id]? = some (.blk s es)) (hb : c.β id = some b) (hcs : c.w.heap[b]? = some (.cells cs T (0, 0)))
    (hlen : es.length ≤ es'.length) (hsz : cs'.size = cs.size)
    (h0 : w'.heap[b]? = some (.cells cs' T (0, 0))) (hn : ∀ k, k ≠ b → w'.heap[k]? = c.w.heap[k]?) (hz : w'.heap.size = c.w.heap.size)
    (h1 : w'.os = c.w.os) (h2 : w'.tape = c.w.tape) (h3 : w'.output = c.w.output)
    (hl : ∀ e ∈ es', e.length = s) (hfit : es'.length * s ≤ cs'.size)
    (hc : ∀ i j x, cellE es' i j = some x → ∃ v, cs'[i * s + j]? = some v ∧ scalarB v = true ∧ RV FT c x v) :
    Sim FT ⟨w', c.X, c.β, c.H.set id (.blk s es')⟩ := by
  have hst := step_set (fl := 0) hs (Nat.zero_le _) ho hb hcs hlen hsz h0 hn hz h1 h2 h3
  refine ⟨hs.gl.step hst, hs.inj, ?_, hs.nx, fun k hk => hs.fresh k (by simpa [hz] using hk), ?_, ?_, ?_, fun i q b' ho' hb' => by
    simp only at ho' hb' ⊢
    have e : i ≠ id := by intro e; subst e; rw [getElem?_set_eq' ho] at ho'; cases ho'
    rw [getElem?_set_ne' e] at ho'
    have g1 := hs.raw i q b' ho' hb'
    rw [hn b' (fun eb => e (hs.inj i id b (by rw [← eb]; exact hb') hb))]; exact g1⟩
  · intro i b' hb'
    have := hs.dom i b' hb'
    simpa using this
  · intro i s' es0 ho'
    simp only at ho'
    by_cases e : i = id
    · subst e
      rw [getElem?_set_eq' ho] at ho'
      cases ho'
      exact hl
    · rw [getElem?_set_ne' e] at ho'
      exact hs.lens i s' es0 ho'
  · intro i s' es0 b' ho' hb'
    simp only at ho' hb' ⊢
    by_cases e : i = id
    · subst e
      rw [getElem?_set_eq' ho] at ho'
      cases ho'
      rw [hb] at hb'; cases hb'
      exact ⟨cs', T, h0, hfit, fun a d x hx => let ⟨v, k1, k2, k3⟩ := hc a d x hx; ⟨v, k1, k2, k3.step hst⟩⟩
    · rw [getElem?_set_ne' e] at ho'
      obtain ⟨cs0, T0, g1, g2, g3⟩ := hs.blk i s' es0 b' ho' hb'
      refine ⟨cs0, T0, ?_, g2, fun a d x hx => let ⟨v, k1, k2, k3⟩ := g3 a d x hx; ⟨v, k1, k2, k3.step hst⟩⟩
      rw [hn b' (fun eb => e (hs.inj i id b (by rw [← eb]; exact hb') hb))]; exact g1
  · intro i ents b' ho' hb'
    simp only at ho' hb' ⊢
    have e : i ≠ id := by intro e; subst e; rw [getElem?_set_eq' ho] at ho'; cases ho'
    rw [getElem?_set_ne' e] at ho'
    obtain ⟨es0, clk, g1, g2, g3⟩ := hs.map i ents b' ho' hb'
    refine ⟨es0, clk, ?_, g2, fun a k x hx => let ⟨en, k1, k2, k3⟩ := g3 a k x hx; ⟨en, k1, k2, k3.step hst⟩⟩
    rw [hn b' (fun eb => e (hs.inj i id b (by rw [← eb]; exact hb') hb))]; exact g1

/-- A block of cells moves to a new place, longer than before. -/
theorem step_grow [GlobT] {fl : Nat} {c : Ctx} {w' : World} {id s : Nat} {es es' : List (List AV)} {ob : Obj}
    (hs : Sim FT c) (hfl : fl ≤ id) (ho : c.H[id]? = some (.blk s es))
    (hlen : es.length < es'.length) (hh : w'.heap = c.w.heap.push ob)
    (h1 : w'.os = c.w.os) (h2 : w'.tape = c.w.tape) (h3 : w'.output = c.w.output) :
    Step fl c ⟨w', c.X, upd c.β id c.w.heap.size, c.H.set id (.blk s es')⟩ where
  X := rfl
  os := h1
  tape := h2
  output := h3
  size := by simp [hh]
  len := by simp
  frame := fun k hk _ => by simp only [hh, Array.getElem?_push]; rw [if_neg (by omega)]
  img := fun i b h => by
    by_cases e : i = id
    · subst e; simp only [upd_same] at h; cases h; exact .inl (Nat.le_refl _)
    · simp only [upd_other e] at h; exact .inr ⟨_, h⟩
  blkS := fun i s' n hs' => by
    have hsh := shp_set (s' := s) (es' := es') ho i
    by_cases e : i = id
    · subst e
      have hs0 : s' = s ∧ n = es.length := by
        simp only [shp, ho, Option.some.injEq, Prod.mk.injEq] at hs'; exact ⟨hs'.1.symm, hs'.2.symm⟩
      obtain ⟨rfl, rfl⟩ := hs0
      exact ⟨es'.length, by rw [hsh]; simp, Nat.le_of_lt hlen, fun e => by omega⟩
    · refine ⟨n, by rw [hsh, if_neg e]; exact hs', Nat.le_refl _, fun _ => ⟨upd_other e, fun b' cs0 T0 hb' hc0 => ⟨cs0, ?_, rfl⟩⟩⟩
      have := hs.lt hb'
      simp only [hh, Array.getElem?_push]; rw [if_neg (by omega)]; exact hc0
  mpS := fun i hm => by
    obtain ⟨ents, he, hnb⟩ := hm
    have e : i ≠ id := by intro e; subst e; rw [ho] at he; cases he; exact hnb
    exact ⟨⟨ents, by simpa [getElem?_set_ne' e] using he, hnb⟩, upd_other e⟩
  floor := fun i hi => by
    have e : i ≠ id := by omega
    refine ⟨getElem?_set_ne' e, upd_other e, fun b' hb' => ?_⟩
    have := hs.lt hb'
    simp only [hh, Array.getElem?_push]; rw [if_neg (by omega)]

theorem sim_grow [GlobT] {c : Ctx} {w' : World} {id s : Nat} {es es' : List (List AV)} {cs' : Array Value} {T : TypeId}
    (hs : Sim FT c) (ho : c.H[id]? = some (.blk s es))
    (hlen : es.length < es'.length) (hh : w'.heap = c.w.heap.push (.cells cs' T (0, 0)))
    (h1 : w'.os = c.w.os) (h2 : w'.tape = c.w.tape) (h3 : w'.output = c.w.output)
    (hl : ∀ e ∈ es', e.length = s) (hfit : es'.length * s ≤ cs'.size)
    (hc : ∀ i j x, cellE es' i j = some x → ∃ v, cs'[i * s + j]? = some v ∧ scalarB v = true ∧ RV FT c x v) :
    Sim FT ⟨w', c.X, upd c.β id c.w.heap.size, c.H.set id (.blk s es')⟩ := by
  have hst := step_grow (fl := 0) hs (Nat.zero_le _) ho hlen hh h1 h2 h3
  have hid : id < c.H.length := by
    rcases Nat.lt_or_ge id c.H.length with h | h
    · exact h
    · rw [List.getElem?_eq_none h] at ho; cases ho
  refine ⟨hs.gl.step hst, ?_, ?_, ?_, fun k hk => hs.fresh k (by simp only [hh, Array.size_push] at hk; omega), ?_, ?_, ?_, fun i q b' ho' hb' => by
    simp only at ho' hb' ⊢
    have e : i ≠ id := by intro e; subst e; rw [getElem?_set_eq' ho] at ho'; cases ho'
    rw [getElem?_set_ne' e] at ho'
    simp only [upd_other e] at hb'
    have g1 := hs.raw i q b' ho' hb'
    have := hs.lt hb'
    simp only [hh, Array.getElem?_push]; rw [if_neg (by omega)]; exact g1⟩
  · intro i j b hi hj
    by_cases ei : i = id
    · by_cases ej : j = id
      · rw [ei, ej]
      · subst ei
        simp only [upd_same] at hi
        simp only [upd_other ej] at hj
        cases hi
        have := hs.lt hj
        omega
    · simp only [upd_other ei] at hi
      by_cases ej : j = id
      · subst ej
        simp only [upd_same] at hj
        cases hj
        have := hs.lt hi
        omega
      · simp only [upd_other ej] at hj
        exact hs.inj i j b hi hj
  · intro i b' hb'
    by_cases e : i = id
    · subst e; simpa using hid
    · simp only [upd_other e] at hb'
      have := hs.dom i b' hb'
      simpa using this
  · intro i b hb
    by_cases e : i = id
    · subst e
      simp only [upd_same] at hb
      cases hb
      exact hs.fresh _ (Nat.le_refl _)
    · simp only [upd_other e] at hb
      exact hs.nx i b hb
  · intro i s' es0 ho'
    simp only at ho'
    by_cases e : i = id
    · subst e
      rw [getElem?_set_eq' ho] at ho'
      cases ho'
      exact hl
    · rw [getElem?_set_ne' e] at ho'
      exact hs.lens i s' es0 ho'
  · intro i s' es0 b' ho' hb'
    simp only at ho' hb' ⊢
    by_cases e : i = id
    · subst e
      rw [getElem?_set_eq' ho] at ho'
      cases ho'
      simp only [upd_same] at hb'
      cases hb'
      exact ⟨cs', T, by simp [hh], hfit, fun a d x hx => let ⟨v, k1, k2, k3⟩ := hc a d x hx; ⟨v, k1, k2, k3.step hst⟩⟩
    · rw [getElem?_set_ne' e] at ho'
      simp only [upd_other e] at hb'
      obtain ⟨cs0, T0, g1, g2, g3⟩ := hs.blk i s' es0 b' ho' hb'
      refine ⟨cs0, T0, ?_, g2, fun a d x hx => let ⟨v, k1, k2, k3⟩ := g3 a d x hx; ⟨v, k1, k2, k3.step hst⟩⟩
      have := hs.lt hb'
      simp only [hh, Array.getElem?_push]; rw [if_neg (by omega)]; exact g1
  · intro i ents b' ho' hb'
    simp only at ho' hb' ⊢
    have e : i ≠ id := by intro e; subst e; rw [getElem?_set_eq' ho] at ho'; cases ho'
    rw [getElem?_set_ne' e] at ho'
    simp only [upd_other e] at hb'
    obtain ⟨es0, clk, g1, g2, g3⟩ := hs.map i ents b' ho' hb'
    refine ⟨es0, clk, ?_, g2, fun a k x hx => let ⟨en, k1, k2, k3⟩ := g3 a k x hx; ⟨en, k1, k2, k3.step hst⟩⟩
    have := hs.lt hb'
    simp only [hh, Array.getElem?_push]; rw [if_neg (by omega)]; exact g1

/-- A map is written. -/
theorem step_setMap [GlobT] {fl : Nat} {c : Ctx} {w' : World} {id b : Nat} {ents ents' : List (Value × AV)} {ob : Obj}
    (hs : Sim FT c) (hfl : fl ≤ id) (ho : c.H[id]? = some (.mp ents)) (hb : c.β id = some b)
    (hh : w'.heap = c.w.heap.setIfInBounds b ob) (h1 : w'.os = c.w.os) (h2 : w'.tape = c.w.tape) (h3 : w'.output = c.w.output) :
    Step fl c ⟨w', c.X, c.β, c.H.set id (.mp ents')⟩ := by
  have hn : ∀ k, k ≠ b → w'.heap[k]? = c.w.heap[k]? := fun k hk => by
    rw [hh, Array.getElem?_setIfInBounds_ne (Ne.symm hk)]
  refine ⟨rfl, h1, h2, h3, by simp [hh], by simp, fun k _ hk => hn k (fun e => hk id (by rw [e]; exact hb)), fun i _ h => .inr ⟨i, h⟩, ?_, ?_, ?_⟩
  · intro i s n hs'
    have e : i ≠ id := by intro e; subst e; simp [shp, ho] at hs'
    refine ⟨n, by simpa [shp, getElem?_set_ne' e] using hs', Nat.le_refl _, fun _ => ⟨rfl, fun b' cs0 T0 hb' hc0 => ⟨cs0, ?_, rfl⟩⟩⟩
    exact (hn b' (fun eb => e (hs.inj i id b (by rw [← eb]; exact hb') hb))).trans hc0
  · intro i hm
    refine ⟨?_, rfl⟩
    by_cases e : i = id
    · subst e; exact ⟨.mp ents', getElem?_set_eq' ho, trivial⟩
    · obtain ⟨en, he, hnb⟩ := hm
      exact ⟨en, by simpa [getElem?_set_ne' e] using he, hnb⟩
  · intro i hi
    have e : i ≠ id := by omega
    exact ⟨getElem?_set_ne' e, rfl, fun b' hb' => hn b' (fun eb => e (hs.inj i id b (by rw [← eb]; exact hb') hb))⟩

theorem sim_setMap [GlobT] {c : Ctx} {w' : World} {id b : Nat} {ents ents' : List (Value × AV)} {es : Array MapEntry} {clk : Nat}
    (hs : Sim FT c) (ho : c.H[id]? = some (.mp ents)) (hb : c.β id = some b)
    (hh : w'.heap = c.w.heap.setIfInBounds b (.map es clk)) (h1 : w'.os = c.w.os) (h2 : w'.tape = c.w.tape) (h3 : w'.output = c.w.output)
    (hsz : es.size = ents'.length)
    (hc : ∀ (i : Nat) (k : Value) (x : AV), ents'[i]? = some (k, x) → ∃ e, es[i]? = some e ∧ e.key = k ∧ RV FT c x e.val) :
    Sim FT ⟨w', c.X, c.β, c.H.set id (.mp ents')⟩ := by
  have hst := step_setMap (fl := 0) (ents' := ents') hs (Nat.zero_le _) ho hb hh h1 h2 h3
  have hn : ∀ k, k ≠ b → w'.heap[k]? = c.w.heap[k]? := fun k hk => by
    rw [hh, Array.getElem?_setIfInBounds_ne (Ne.symm hk)]
  have hbl := hs.lt hb
  refine ⟨hs.gl.step hst, hs.inj, ?_, hs.nx, fun k hk => hs.fresh k (by simpa [hh] using hk), ?_, ?_, ?_, fun i q b' ho' hb' => by
    simp only at ho' hb' ⊢
    have e : i ≠ id := by intro e; subst e; rw [getElem?_set_eq' ho] at ho'; cases ho'
    rw [getElem?_set_ne' e] at ho'
    have g1 := hs.raw i q b' ho' hb'
    rw [hn b' (fun eb => e (hs.inj i id b (by rw [← eb]; exact hb') hb))]; exact g1⟩
  · intro i b' hb'
    have := hs.dom i b' hb'
    simpa using this
  · intro i s' es0 ho'
    simp only at ho'
    have e : i ≠ id := by intro e; subst e; rw [getElem?_set_eq' ho] at ho'; cases ho'
    rw [getElem?_set_ne' e] at ho'
    exact hs.lens i s' es0 ho'
  · intro i s' es0 b' ho' hb'
    simp only at ho' hb' ⊢
    have e : i ≠ id := by intro e; subst e; rw [getElem?_set_eq' ho] at ho'; cases ho'
    rw [getElem?_set_ne' e] at ho'
    obtain ⟨cs0, T0, g1, g2, g3⟩ := hs.blk i s' es0 b' ho' hb'
    refine ⟨cs0, T0, ?_, g2, fun a d x hx => let ⟨v, k1, k2, k3⟩ := g3 a d x hx; ⟨v, k1, k2, k3.step hst⟩⟩
    rw [hn b' (fun eb => e (hs.inj i id b (by rw [← eb]; exact hb') hb))]; exact g1
  · intro i en b' ho' hb'
    simp only at ho' hb' ⊢
    by_cases e : i = id
    · subst e
      rw [getElem?_set_eq' ho] at ho'
      cases ho'
      rw [hb] at hb'; cases hb'
      refine ⟨es, clk, by rw [hh]; simp [hbl], hsz, fun a k x hx => let ⟨e, k1, k2, k3⟩ := hc a k x hx; ⟨e, k1, k2, k3.step hst⟩⟩
    · rw [getElem?_set_ne' e] at ho'
      obtain ⟨es0, clk0, g1, g2, g3⟩ := hs.map i en b' ho' hb'
      refine ⟨es0, clk0, ?_, g2, fun a k x hx => let ⟨en, k1, k2, k3⟩ := g3 a k x hx; ⟨en, k1, k2, k3.step hst⟩⟩
      rw [hn b' (fun eb => e (hs.inj i id b (by rw [← eb]; exact hb') hb))]; exact g1

/-- An object that stands as it is gets another content. -/
theorem step_setRaw [GlobT] {fl : Nat} {c : Ctx} {w' : World} {id b : Nat} {q q' : Obj}
    (hs : Sim FT c) (hfl : fl ≤ id) (ho : c.H[id]? = some (.raw q)) (hb : c.β id = some b)
    (hh : w'.heap = c.w.heap.setIfInBounds b q') (h1 : w'.os = c.w.os) (h2 : w'.tape = c.w.tape) (h3 : w'.output = c.w.output) :
    Step fl c ⟨w', c.X, c.β, c.H.set id (.raw q')⟩ := by
  have hn : ∀ k, k ≠ b → w'.heap[k]? = c.w.heap[k]? := fun k hk => by
    rw [hh, Array.getElem?_setIfInBounds_ne (Ne.symm hk)]
  refine ⟨rfl, h1, h2, h3, by simp [hh], by simp, fun k _ hk => hn k (fun e => hk id (by rw [e]; exact hb)), fun i _ h => .inr ⟨i, h⟩, ?_, ?_, ?_⟩
  · intro i s n hs'
    have e : i ≠ id := by intro e; subst e; simp [shp, ho] at hs'
    refine ⟨n, by simpa [shp, getElem?_set_ne' e] using hs', Nat.le_refl _, fun _ => ⟨rfl, fun b' cs0 T0 hb' hc0 => ⟨cs0, ?_, rfl⟩⟩⟩
    exact (hn b' (fun eb => e (hs.inj i id b (by rw [← eb]; exact hb') hb))).trans hc0
  · intro i hm
    refine ⟨?_, rfl⟩
    by_cases e : i = id
    · subst e; exact ⟨.raw q', getElem?_set_eq' ho, trivial⟩
    · obtain ⟨en, he, hnb⟩ := hm
      exact ⟨en, by simpa [getElem?_set_ne' e] using he, hnb⟩
  · intro i hi
    have e : i ≠ id := by omega
    exact ⟨getElem?_set_ne' e, rfl, fun b' hb' => hn b' (fun eb => e (hs.inj i id b (by rw [← eb]; exact hb') hb))⟩

theorem sim_setRaw [GlobT] {c : Ctx} {w' : World} {id b : Nat} {q q' : Obj}
    (hs : Sim FT c) (ho : c.H[id]? = some (.raw q)) (hb : c.β id = some b)
    (hh : w'.heap = c.w.heap.setIfInBounds b q') (h1 : w'.os = c.w.os) (h2 : w'.tape = c.w.tape) (h3 : w'.output = c.w.output) :
    Sim FT ⟨w', c.X, c.β, c.H.set id (.raw q')⟩ := by
  have hst := step_setRaw (fl := 0) (q' := q') hs (Nat.zero_le _) ho hb hh h1 h2 h3
  have hn : ∀ k, k ≠ b → w'.heap[k]? = c.w.heap[k]? := fun k hk => by
    rw [hh, Array.getElem?_setIfInBounds_ne (Ne.symm hk)]
  have hbl := hs.lt hb
  refine ⟨hs.gl.step hst, hs.inj, ?_, hs.nx, fun k hk => hs.fresh k (by simpa [hh] using hk), ?_, ?_, ?_, ?_⟩
  · intro i b' hb'
    have := hs.dom i b' hb'
    simpa using this
  · intro i s' es0 ho'
    simp only at ho'
    have e : i ≠ id := by intro e; subst e; rw [getElem?_set_eq' ho] at ho'; cases ho'
    rw [getElem?_set_ne' e] at ho'
    exact hs.lens i s' es0 ho'
  · intro i s' es0 b' ho' hb'
    simp only at ho' hb' ⊢
    have e : i ≠ id := by intro e; subst e; rw [getElem?_set_eq' ho] at ho'; cases ho'
    rw [getElem?_set_ne' e] at ho'
    obtain ⟨cs0, T0, g1, g2, g3⟩ := hs.blk i s' es0 b' ho' hb'
    refine ⟨cs0, T0, ?_, g2, fun a d x hx => let ⟨v, k1, k2, k3⟩ := g3 a d x hx; ⟨v, k1, k2, k3.step hst⟩⟩
    rw [hn b' (fun eb => e (hs.inj i id b (by rw [← eb]; exact hb') hb))]; exact g1
  · intro i en b' ho' hb'
    simp only at ho' hb' ⊢
    have e : i ≠ id := by intro e; subst e; rw [getElem?_set_eq' ho] at ho'; cases ho'
    rw [getElem?_set_ne' e] at ho'
    obtain ⟨es0, clk0, g1, g2, g3⟩ := hs.map i en b' ho' hb'
    refine ⟨es0, clk0, ?_, g2, fun a k x hx => let ⟨en, k1, k2, k3⟩ := g3 a k x hx; ⟨en, k1, k2, k3.step hst⟩⟩
    rw [hn b' (fun eb => e (hs.inj i id b (by rw [← eb]; exact hb') hb))]; exact g1
  · intro i q0 b' ho' hb'
    simp only at ho' hb' ⊢
    by_cases e : i = id
    · subst e
      rw [getElem?_set_eq' ho] at ho'
      cases ho'
      rw [hb] at hb'; cases hb'
      rw [hh]; simp [hbl]
    · rw [getElem?_set_ne' e] at ho'
      have g1 := hs.raw i q0 b' ho' hb'
      rw [hn b' (fun eb => e (hs.inj i id b (by rw [← eb]; exact hb') hb))]; exact g1

end Go.Proofs.YtanonfpdkoijnaaGreatDoor.Av
