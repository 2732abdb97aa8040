/- A part of the proof of ChangesetCompactsCardSaid: an evaluator of the program, proved sound, and what it says. -/
import Derived.Test.YtanonfpdkoijnaaGreatDoorAvSeal
namespace Go.Proofs.YtanonfpdkoijnaaGreatDoor.Av
open Go

section
variable {FT : Nat → Option Nat} {c : Ctx}

/-- A slice that is not written again: its block is given up. -/
def frz (c : Ctx) (id s : Nat) (es : List (List AV)) : Ctx := ⟨c.w, c.X, fun i => if i = id then none else c.β i, c.H.set id (.blk s (es ++ [List.replicate s .undef]))⟩

theorem frz_get {id s i : Nat} {es : List (List AV)} (h : i ≠ id) : (frz c id s es).H[i]? = c.H[i]? := by
  simp only [frz]
  rw [List.getElem?_set_ne (Ne.symm h)]

theorem frz_same {id s : Nat} {es es' : List (List AV)} (ho : c.H[id]? = some (.blk s es')) : (frz c id s es).H[id]? = some (.blk s (es ++ [List.replicate s .undef])) := by
  have hlt : id < c.H.length := by
    rcases Nat.lt_or_ge id c.H.length with h | h
    · exact h
    · rw [List.getElem?_eq_none h] at ho; cases ho
  simp only [frz]
  rw [List.getElem?_set_self hlt]

theorem step_frz [GlobT] {fl id s : Nat} {es : List (List AV)} (hfl : fl ≤ id) (ho : c.H[id]? = some (.blk s es)) : Step fl c (frz c id s es) where
  X := rfl
  os := rfl
  tape := rfl
  output := rfl
  size := Nat.le_refl _
  len := by simp [frz]
  frame := fun _ _ _ => rfl
  img := fun i b hb => by
    simp only [frz] at hb
    split at hb
    · cases hb
    · exact .inr ⟨_, hb⟩
  blkS := fun i s' n hs => by
    by_cases hi : i = id
    · subst hi
      simp only [shp, ho, Option.some.injEq, Prod.mk.injEq] at hs
      obtain ⟨rfl, rfl⟩ := hs
      exact ⟨es.length + 1, by simp [shp, frz_same ho], by omega, fun h => by omega⟩
    · refine ⟨n, by simp only [shp, frz_get hi]; exact hs, Nat.le_refl _, fun _ => ⟨by simp [frz, hi], fun b cs T _ hcs => ⟨cs, hcs, rfl⟩⟩⟩
  mpS := fun i hm => by
    obtain ⟨e, he, hnb⟩ := hm
    have hi : i ≠ id := by
      intro h
      subst h
      rw [ho] at he
      cases he
      exact hnb
    exact ⟨⟨e, by rw [frz_get hi]; exact he, hnb⟩, by simp [frz, hi]⟩
  floor := fun i hi => by
    have : i ≠ id := by omega
    exact ⟨frz_get this, by simp [frz, this], fun _ _ => rfl⟩

theorem sim_frz [GlobT] {id s : Nat} {es : List (List AV)} (hs : Sim FT c) (ho : c.H[id]? = some (.blk s es)) : Sim FT (frz c id s es) := by
  have hst := step_frz (fl := 0) (Nat.zero_le _) ho
  have hβ : ∀ i b, (frz c id s es).β i = some b → i ≠ id ∧ c.β i = some b := by
    intro i b hb
    simp only [frz] at hb
    split at hb
    · cases hb
    · rename_i h; exact ⟨h, hb⟩
  refine ⟨hs.gl.step hst, fun i j b hi hj => hs.inj i j b (hβ i b hi).2 (hβ j b hj).2, fun i b hi => ?_, fun i b hi => hs.nx i b (hβ i b hi).2, hs.fresh, ?_, ?_, ?_, fun i q b h hb => by
    obtain ⟨hi, hb⟩ := hβ i b hb
    rw [frz_get hi] at h
    exact hs.raw i q b h hb⟩
  · have := hs.dom i b (hβ i b hi).2
    simpa [frz] using this
  · intro i s' es' h e he
    by_cases hi : i = id
    · subst hi
      rw [frz_same ho] at h
      cases h
      rcases List.mem_append.1 he with he | he
      · exact hs.lens i s es ho e he
      · simp at he; subst he; simp
    · rw [frz_get hi] at h
      exact hs.lens i s' es' h e he
  · intro i s' es' b h hb
    obtain ⟨hi, hb⟩ := hβ i b hb
    rw [frz_get hi] at h
    obtain ⟨cs, T, g1, g2, g3⟩ := hs.blk i s' es' b h hb
    exact ⟨cs, T, g1, g2, fun i j x hx => let ⟨v, k1, k2, k3⟩ := g3 i j x hx; ⟨v, k1, k2, k3.step hst⟩⟩
  · intro i ents b h hb
    obtain ⟨hi, hb⟩ := hβ i b hb
    rw [frz_get hi] at h
    obtain ⟨cs, T, g1, g2, g3⟩ := hs.map i ents b h hb
    exact ⟨cs, T, g1, g2, fun i j x hx => let ⟨v, k1, k2, k3⟩ := g3 i j x hx; ⟨v, k1, k2, k3.step hst⟩⟩

theorem rv_frz [GlobT] {id s tot off len : Nat} {es : List (List AV)} {v : Value} (hs : Sim FT c) (ho : c.H[id]? = some (.blk s es)) (htot : es.length = tot) (h : RV FT c (.ms id tot off len) v) :
    RV FT (frz c id s es) (.sl false (((es.drop off).take len).map fun e => e.map toP)) v := by
  obtain ⟨ad, cap, s0, n0, hv, g1, g2, g3, g4⟩ := h.ms_inv
  rw [shp_of ho] at g1
  cases g1
  obtain ⟨m1, m2⟩ := g4 htot.symm
  have hlen : ((es.drop off).take len).length = len := by simp; omega
  subst hv
  refine .pure _ _ ?_
  by_cases hl0 : len = 0
  · subst hl0
    simp only [List.take_zero, List.map_nil]
    exact .nil false _ _ (fun h => by cases h)
  · rcases m2 with ⟨_, m3, m4, m5⟩ | ⟨b, cc, Ty, a', m3, m4, m5, m6, m7⟩
    · omega
    · have ha := m7 (by omega)
      subst m6
      subst ha
      obtain ⟨cc', Ty', q1, q2, q3⟩ := hs.blk id s es b ho m3
      rw [m4] at q1
      cases q1
      have hlens := hs.lens id s es ho
      have himm : ∀ b', Imm c b' → Imm (frz c id s es) b' := fun b' hi => ⟨hi.1, fun i hb => by
        simp only [frz] at hb
        split at hb
        · cases hb
        · exact hi.2 i hb⟩
      have hcell : ∀ i j x, cellE (((es.drop off).take len).map fun e => e.map toP) i j = some x →
          ∃ y u, x = toP y ∧ cc[off * s + (i * s + j)]? = some u ∧ scalarB u = true ∧ RV FT c y u := by
        intro i j x hx
        obtain ⟨y, hy, rfl⟩ := cellE_map hx
        obtain ⟨e, he, hj⟩ := cellE_some hy
        rw [List.getElem?_take] at he
        split at he
        · rw [List.getElem?_drop] at he
          obtain ⟨u, w1, w2, w3⟩ := q3 (off + i) j y (by simp [cellE, he, hj])
          exact ⟨y, u, rfl, by rw [← w1]; congr 1; rw [Nat.add_mul]; omega, w2, w3⟩
        · cases he
      have hres := RP.sl (w := c.w) (I := Imm (frz c id s es)) false (((es.drop off).take len).map fun e => e.map toP) b (off * s) cap cc Ty (0, 0) s
        (fun i j => (cc[off * s + (i * s + j)]?).getD undefV)
        (by intro e; have := congrArg List.length e; simp at this; omega)
        ⟨hs.nx id b m3, fun i hb => by
          simp only [frz] at hb
          split at hb
          · cases hb
          · rename_i hne; exact hne (hs.inj i id b hb m3)⟩ m4
        (fun e he => by
          simp only [List.mem_map] at he
          obtain ⟨e0, h0, rfl⟩ := he
          simpa using hlens e0 (List.mem_of_mem_drop (List.mem_of_mem_take h0)))
        (by simp only [List.length_map, hlen]; exact g3) (fun h => by cases h)
        (fun i j x hx => by
          obtain ⟨y, u, _, w1, w2, _⟩ := hcell i j x hx
          simp [w1, w2])
        (fun i j x hx => by
          obtain ⟨y, u, hxy, w1, _, w3⟩ := hcell i j x hx
          rw [hxy]
          simp only [w1, Option.getD_some]
          cases y with
          | lit q => rw [w3.lit_inv]; exact nrmV_rp _
          | sl f es => exact nrm_rp (w3.sl_inv.mono fun b o hi hb => ⟨himm b hi, hb⟩)
          | _ => exact .undef _)
      simp only [List.length_map, hlen] at hres
      exact hres

end

section
variable {P : Program} {T : List AFun} {c : Ctx} {fl : Nat} {o : Oper} {a : Act} {tm : List AV}

theorem op_freeze [GlobT] (hs : Sim (ftOf T) c) (htr : TR (ftOf T) c tm a.tmps) {x : AOpd} {y : Operand} {id s tot off len : Nat} {es : List (List AV)} (ho : o.op = .move y ∨ o.op = .assign y) (h : chkOpd T x y = true)
    (hx : getOpd tm x = .ms id tot off len) (hfl : fl ≤ id) (hid : c.H[id]? = some (.blk s es)) (htot : es.length = tot) :
    OpOK P (ftOf T) c fl o a (.sl false (((es.drop off).take len).map fun e => e.map toP)) (c.H.set id (.blk s (es ++ [List.replicate s .undef]))) := by
  have hr := getOpd_rv hs htr h
  rw [hx] at hr
  refine ok_value (cv := a.eval y) (w' := c.w) (β' := fun i => if i = id then none else c.β i) ?_ (step_frz hfl hid) (sim_frz hs hid) (rv_frz hs hid htot hr)
  rcases ho with ho | ho <;> simp [execOp, ho]

end
end Go.Proofs.YtanonfpdkoijnaaGreatDoor.Av
