/- A part of the proof of ChangesetCompactsCardSaid: an evaluator of the program, proved sound, and what it says. -/
import Derived.Test.YtanonfpdkoijnaaGreatDoorAvOps9
namespace Go.Proofs.YtanonfpdkoijnaaGreatDoor.Av
open Go

section
variable {FT : Nat → Option Nat} {c c' : Ctx}

theorem seal_rp [GlobT] {n : Nat} {I : Nat → Prop} (hs : Sim FT c') (himp : ∀ b, Imm c' b → I b) (hnew : ∀ id b, n ≤ id → c'.β id = some b → I b) :
    ∀ (d : Nat) (x : AV) (v : Value), RV FT c' x v → RP c'.w I (sealC c'.H n d x) v
  | d, .lit u, v, h => by
    have : sealC c'.H n d (.lit u) = nrmV u := by cases d <;> rfl
    rw [this, h.lit_inv]; exact nrmV_rp u
  | d, .sl f es, v, h => by
    have : sealC c'.H n d (.sl f es) = .sl false es := by cases d <;> rfl
    rw [this]
    exact nrm_rp (h.sl_inv.mono fun b o hi hb => ⟨himp b hi, hb⟩)
  | 0, .ms id tot off len, v, _ => .undef v
  | d + 1, .ms id tot off len, v, h => by
    simp only [sealC]
    split
    · rename_i hn
      split
      · rename_i es hrd
        obtain ⟨ad, cap, s0, n0, hv, g1, g2, g3, g4⟩ := h.ms_inv
        unfold rd at hrd
        simp only at hrd
        split at hrd
        · rename_i s' es0 hob
          split at hrd
          · rename_i htot
            cases hrd
            rw [shp_of hob] at g1
            cases g1
            obtain ⟨m1, m2⟩ := g4 htot.symm
            have hlen : ((es0.drop off).take len).length = len := by simp; omega
            subst hv
            by_cases hl0 : len = 0
            · subst hl0
              simp only [List.take_zero, List.map_nil]
              exact .nil false _ _ (fun h => by cases h)
            · rcases m2 with ⟨_, m3, m4, m5⟩ | ⟨b, cc, Ty, a', m3, m4, m5, m6, m7⟩
              · omega
              · have ha := m7 (by omega)
                subst m6
                subst ha
                obtain ⟨cc', Ty', q1, q2, q3⟩ := hs.blk id s0 es0 b hob m3
                rw [m4] at q1
                cases q1
                have hlens := hs.lens id s0 es0 hob
                have hcell : ∀ i j x, cellE (((es0.drop off).take len).map fun e => e.map (sealC c'.H n d)) i j = some x →
                    ∃ y u, x = sealC c'.H n d y ∧ cc[off * s0 + (i * s0 + j)]? = some u ∧ scalarB u = true ∧ RV FT c' y u := by
                  intro i j x hx
                  obtain ⟨y, hy, rfl⟩ := cellE_map hx
                  obtain ⟨e, he, hj⟩ := cellE_some hy
                  rw [List.getElem?_take] at he
                  split at he
                  · rw [List.getElem?_drop] at he
                    obtain ⟨u, w1, w2, w3⟩ := q3 (off + i) j y (by simp [cellE, he, hj])
                    exact ⟨y, u, rfl, by rw [← w1]; congr 1; rw [Nat.add_mul]; omega, w2, w3⟩
                  · cases he
                have hres := RP.sl (w := c'.w) (I := I) false (((es0.drop off).take len).map fun e => e.map (sealC c'.H n d)) b (off * s0) cap cc Ty (0, 0) s0
                  (fun i j => (cc[off * s0 + (i * s0 + j)]?).getD undefV)
                  (by intro e; have := congrArg List.length e; simp at this; omega) (hnew id b hn m3) m4
                  (fun e he => by
                    simp only [List.mem_map] at he
                    obtain ⟨e0, h0, rfl⟩ := he
                    simpa using hlens e0 (List.mem_of_mem_drop (List.mem_of_mem_take h0)))
                  (by simp only [List.length_map, hlen]; exact g3) (fun h => by cases h)
                  (fun i j x hx => by
                    obtain ⟨y, u, _, w1, w2, _⟩ := hcell i j x hx
                    simp [w1, w2])
                  (fun i j x hx => by
                    obtain ⟨y, u, hxy, w1, _, w3⟩ := hcell i j x hx
                    rw [hxy]
                    simp only [w1, Option.getD_some]
                    exact seal_rp hs himp hnew d y u w3)
                simp only [List.length_map, hlen] at hres
                exact hres
          · cases hrd
        · cases hrd
      · exact .undef v
    · exact .undef v
  | d, .undef, v, _ => by
    have : sealC c'.H n d .undef = .undef := by cases d <;> rfl
    rw [this]; exact .undef v
  | d, .ptr .., v, _ => by cases d <;> exact .undef v
  | d, .rptr .., v, _ => by cases d <;> exact .undef v
  | d, .mp .., v, _ => by cases d <;> exact .undef v
  | d, .it .., v, _ => by cases d <;> exact .undef v
  | d, .fn .., v, _ => by cases d <;> exact .undef v
  | d, .agg .., v, _ => by cases d <;> exact .undef v
  | d, .tup .., v, _ => by cases d <;> exact .undef v

/-- What a call leaves that may not write what is there. -/
def back (c c' : Ctx) : Ctx := ⟨c'.w, c.X, c.β, c.H⟩

theorem step_back [GlobT] {fl : Nat} (hs : Sim FT c) (h : Step c.H.length c c') : Step fl c (back c c') where
  X := rfl
  os := h.os
  tape := h.tape
  output := h.output
  size := h.size
  len := Nat.le_refl _
  frame := h.frame
  img := fun i _ hb => .inr ⟨i, hb⟩
  blkS := fun id s n hs' => ⟨n, hs', Nat.le_refl _, fun _ => ⟨rfl, fun b cs T hb hcs => ⟨cs, by
    have := (h.floor id (hs.dom id b hb)).2.2 b hb
    rw [← hcs]; exact this, rfl⟩⟩⟩
  mpS := fun _ hm => ⟨hm, rfl⟩
  floor := fun id _ => ⟨rfl, rfl, fun b hb => (h.floor id (hs.dom id b hb)).2.2 b hb⟩

theorem sim_back [GlobT] (hs : Sim FT c) (h : Step c.H.length c c') : Sim FT (back c c') := by
  have hst := step_back (fl := 0) hs h
  have hblk : ∀ id b, c.β id = some b → c'.w.heap[b]? = c.w.heap[b]? := fun id b hb => (h.floor id (hs.dom id b hb)).2.2 b hb
  refine ⟨hs.gl.step hst, hs.inj, hs.dom, hs.nx, fun k hk => hs.fresh k (Nat.le_trans h.size hk), hs.lens, ?_, ?_, fun id q b ho hb => (hblk id b hb).trans (hs.raw id q b ho hb)⟩
  · intro id s es b ho hb
    obtain ⟨cs, T, g1, g2, g3⟩ := hs.blk id s es b ho hb
    exact ⟨cs, T, (hblk id b hb).trans g1, g2, fun i j x hx => let ⟨v, k1, k2, k3⟩ := g3 i j x hx; ⟨v, k1, k2, k3.step hst⟩⟩
  · intro id ents b ho hb
    obtain ⟨es, clk, g1, g2, g3⟩ := hs.map id ents b ho hb
    exact ⟨es, clk, (hblk id b hb).trans g1, g2, fun i k x hx => let ⟨e, k1, k2, k3⟩ := g3 i k x hx; ⟨e, k1, k2, k3.step hst⟩⟩

structure Fl (c c' : Ctx) : Prop where
  X : c'.X = c.X
  floor : ∀ id, id < c.H.length → c'.H[id]? = c.H[id]? ∧ c'.β id = c.β id

theorem Step.fl (h : Step c.H.length c c') : Fl c c' := ⟨h.X, fun id hid => ⟨(h.floor id hid).1, (h.floor id hid).2.1⟩⟩

theorem seal1_rv [GlobT] (hs : Sim FT c) (hs' : Sim FT c') (h : Fl c c') {x : AV} {v : Value} (hr : RV FT c' x v) : RV FT (back c c') (seal1 c'.H c.H.length x) v := by
  have himp : ∀ b, Imm c' b → Imm (back c c') b := by
    intro b hi
    refine ⟨by have := hi.1; rw [h.X] at this; exact this, fun id hid => hi.2 id ?_⟩
    have hid' : c.β id = some b := hid
    rw [(h.floor id (hs.dom id b hid')).2]; exact hid'
  have hnew : ∀ id b, c.H.length ≤ id → c'.β id = some b → Imm (back c c') b := by
    intro id b hn hb
    refine ⟨by have := hs'.nx id b hb; rwa [h.X] at this, fun id' hid' => ?_⟩
    have hid'' : c.β id' = some b := hid'
    have hlt := hs.dom id' b hid''
    have : c'.β id' = some b := by rw [(h.floor id' hlt).2]; exact hid''
    have := hs'.inj id id' b hb this
    omega
  have hshp : ∀ id, id < c.H.length → shp c.H id = shp c'.H id := fun id hid => by simp [shp, (h.floor id hid).1]
  cases hr with
  | pure _ _ hp =>
    have hp' := hp.mono (w' := (back c c').w) (I' := Imm (back c c')) fun b o hi hb => ⟨himp b hi, hb⟩
    have hn := nrm_rp hp'
    cases hp' with
    | undef v => exact .pure _ _ (.undef v)
    | lit v => exact .pure _ _ hn
    | nil f a cap hf => exact .pure _ _ hn
    | sl f es b off cap cc T fz s vals h1 h2 h3 h4 h5 h6 h7 h8 => exact .pure _ _ hn
  | ms id tot off len a cap s n g1 g2 g3 g4 =>
    simp only [seal1]
    split
    · rename_i hid
      refine .ms id tot off len a cap s n (by show shp c.H id = _; rw [hshp id hid]; exact g1) g2 g3 fun e => ?_
      obtain ⟨m1, m2⟩ := g4 e
      have hβ := (h.floor id hid).2
      refine ⟨m1, ?_⟩
      rcases m2 with ⟨m3, m4, m5, m6⟩ | ⟨b, cs, T, a', m3, m4, m5, m6, m7⟩
      · exact .inl ⟨hβ.symm.trans m3, m4, m5, m6⟩
      · exact .inr ⟨b, cs, T, a', hβ.symm.trans m3, m4, m5, m6, m7⟩
    · exact .pure _ _ (seal_rp hs' himp hnew sealDepth _ _ (.ms id tot off len a cap s n g1 g2 g3 g4))
  | ptr id tot idx off a s n g1 g2 g3 =>
    simp only [seal1]
    split
    · rename_i hid
      refine .ptr id tot idx off a s n (by show shp c.H id = _; rw [hshp id hid]; exact g1) g2 fun e => ?_
      obtain ⟨b, hb, ha⟩ := g3 e
      exact ⟨b, ((h.floor id hid).2).symm.trans hb, ha⟩
    · exact RV.undef _
  | rptr cs b off cc T fz vals g1 g2 g3 g4 =>
    exact .rptr cs b off cc T fz vals (himp b g1) g2 g3 fun j x hx => (g4 j x hx).mono fun b o hi hb => ⟨himp b hi, hb⟩
  | mp id b g1 g2 =>
    simp only [seal1]
    split
    · rename_i hid
      obtain ⟨ents, he, hnb⟩ := g1
      exact .mp id b ⟨ents, by rw [← he]; exact ((h.floor id hid).1).symm, hnb⟩ (((h.floor id hid).2).symm.trans g2)
    · exact RV.undef _
  | it => exact RV.undef _
  | fn vi f caps cv vals g1 g2 g3 g4 =>
    cases caps with
    | nil => exact .fn vi f [] cv vals g1 g2 g3 (fun i x hx => by simp at hx)
    | cons _ _ => exact RV.undef _
  | agg => exact RV.undef _
  | tup => exact RV.undef _

theorem seal2_rv [GlobT] (hs : Sim FT c) (hs' : Sim FT c') (h : Fl c c') {x : AV} {v : Value} (hr : RV FT c' x v) : RV FT (back c c') (seal2 c'.H c.H.length x) v := by
  unfold seal2
  split
  · rename_i cs
    obtain ⟨cv, vals, rfl, g1, g2, g3⟩ := hr.agg_inv
    refine .agg _ cv vals (by simpa using g1) ?_ ?_
    · intro i x hx
      simp only [List.getElem?_map, Option.map_eq_some_iff] at hx
      obtain ⟨y, hy, rfl⟩ := hx
      exact g2 i y hy
    · intro i x hx
      simp only [List.getElem?_map, Option.map_eq_some_iff] at hx
      obtain ⟨y, hy, rfl⟩ := hx
      exact seal1_rv hs hs' h (g3 i y hy)
  · exact seal1_rv hs hs' h hr

theorem seal3_rv [GlobT] (hs : Sim FT c) (hs' : Sim FT c') (h : Fl c c') {x : AV} {v : Value} (hr : RV FT c' x v) : RV FT (back c c') (seal3 c'.H c.H.length x) v := by
  unfold seal3
  split
  · rename_i cs
    obtain ⟨cv, vals, rfl, g1, g2, g3⟩ := hr.tup_inv
    refine .tup _ cv vals (by simpa using g1) ?_ ?_
    · intro i x hx
      simp only [List.getElem?_map, Option.map_eq_some_iff] at hx
      obtain ⟨y, hy, rfl⟩ := hx
      exact g2 i y hy
    · intro i x hx
      simp only [List.getElem?_map, Option.map_eq_some_iff] at hx
      obtain ⟨y, hy, rfl⟩ := hx
      exact seal2_rv hs hs' h (g3 i y hy)
  · exact seal2_rv hs hs' h hr

end
end Go.Proofs.YtanonfpdkoijnaaGreatDoor.Av
