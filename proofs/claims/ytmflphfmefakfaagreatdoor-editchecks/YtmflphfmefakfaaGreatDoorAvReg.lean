/- A part of the proof of EditChecksCardSaid. -/
import Derived.Test.YtmflphfmefakfaaGreatDoorAvOps9
set_option linter.all false
namespace Go.Proofs.YtmflphfmefakfaaGreatDoor.Av
open Go
section
variable {FT : Nat → Option Nat} {c c' : Ctx}
theorem seal_rp [GlobT] {n : Nat} {I : Nat → Prop} (hs : Sim FT c') (himp : ∀ b, Imm c' b → I b) (hnew : ∀ id b, n ≤ id → c'.β id = some b → I b) :
  ∀ (d : Nat) (x : AV) (v : Value), RV FT c' x v → RP c'.w I (sealC c'.H n d x) v
 | d, .lit u, v, h => by
  have : sealC c'.H n d (.lit u) = nrmV u := by cases d <;> rfl
  rw [this, h.lit_inv]; exact nrmV_rp u
 | d, .sl f es, v, h => by
  have : sealC c'.H n d (.sl f es) = .sl false es := by cases d <;> rfl
  rw [this]
  exact nrm_rp (h.sl_inv.mono fun b o hi hb => ⟨himp b hi, hb⟩)
 | 0, .ms id tot off len, v, _ => .undef v
 | d + 1, .ms id tot off len, v, h => by
  simp only [sealC]
  split
  ·rename_i hn
   split
   ·rename_i es hrd
    obtain ⟨ad, cap, s0, n0, hv, g1, g2, g3, g4⟩ := h.ms_inv
    unfold rd at hrd
    simp only at hrd
    split at hrd
    ·rename_i s' es0 hob
     split at hrd
     ·rename_i htot
      cases hrd
      rw [shp_of hob] at g1
      cases g1
      obtain ⟨m1, m2⟩ := g4 htot.symm
      have hlen : ((es0.drop off).take len).length = len := by simp; omega
      subst hv
      by_cases hl0 : len = 0
      ·subst hl0
       simp only [List.take_zero, List.map_nil]
       exact .nil false _ _ (fun h => by cases h)
      ·rcases m2 with ⟨_, m3, m4, m5⟩ | ⟨b, cc, Ty, a', m3, m4, m5, m6, m7⟩
       ·omega
       ·have ha := m7 (by omega)
        subst m6
        subst ha
        obtain ⟨cc', Ty', q1, q2, q3⟩ := hs.blk id s0 es0 b hob m3
        rw [m4] at q1
        cases q1
        have hlens := hs.lens id s0 es0 hob
        have hcell : ∀ i j x, cellE (((es0.drop off).take len).map fun e => e.map (sealC c'.H n d)) i j = some x →
          ∃ y u, x = sealC c'.H n d y ∧ cc[off * s0 + (i * s0 + j)]? = some u ∧ scalarB u = true ∧ RV FT c' y u := by
         intro i j x hx
         obtain ⟨y, hy, rfl⟩ := cellE_map hx
         obtain ⟨e, he, hj⟩ := cellE_some hy
         rw [List.getElem?_take] at he
         split at he
         ·rw [List.getElem?_drop] at he
          obtain ⟨u, w1, w2, w3⟩ := q3 (off + i) j y (by simp [cellE, he, hj])
          exact ⟨y, u, rfl, by rw [← w1]; congr 1; rw [Nat.add_mul]; omega, w2, w3⟩
         ·cases he
        have hres := RP.sl (w := c'.w) (I := I) false (((es0.drop off).take len).map fun e => e.map (sealC c'.H n d)) b (off * s0) cap cc Ty (0, 0) s0
         (fun i j => (cc[off * s0 + (i * s0 + j)]?).getD undefV)
         (by intro e; have := congrArg List.length e; simp at this; omega) (hnew id b hn m3) m4
         (fun e he => by
          simp only [List.mem_map] at he
          obtain ⟨e0, h0, rfl⟩ := he
          simpa using hlens e0 (List.mem_of_mem_drop (List.mem_of_mem_take h0)))
         (by simp only [List.length_map, hlen]; exact g3) (fun h => by cases h)
         (fun i j x hx => by
          obtain ⟨y, u, _, w1, w2, _⟩ := hcell i j x hx
          simp [w1, w2])
         (fun i j x hx => by
          obtain ⟨y, u, hxy, w1, _, w3⟩ := hcell i j x hx
          rw [hxy]
          simp only [w1, Option.getD_some]
          exact seal_rp hs himp hnew d y u w3)
        simp only [List.length_map, hlen] at hres
        exact hres
     ·cases hrd
    ·cases hrd
   ·exact .undef v
  ·exact .undef v
 | d, .undef, v, _ => by
  have : sealC c'.H n d .undef = .undef := by cases d <;> rfl
  rw [this]; exact .undef v
 | d, .ptr .., v, _ => by cases d <;> exact .undef v
 | d, .rptr .., v, _ => by cases d <;> exact .undef v
 | d, .mp .., v, _ => by cases d <;> exact .undef v
 | d, .it .., v, _ => by cases d <;> exact .undef v
 | d, .fn .., v, _ => by cases d <;> exact .undef v
 | d, .agg .., v, _ => by cases d <;> exact .undef v
 | d, .tup .., v, _ => by cases d <;> exact .undef v
def back (c c' : Ctx) : Ctx := ⟨c'.w, c.X, c.β, c.H⟩
theorem step_back [GlobT] {fl : Nat} (hs : Sim FT c) (h : Step c.H.length c c') : Step fl c (back c c') where
 X := rfl
 os := h.os
 tape := h.tape
 output := h.output
 size := h.size
 len := Nat.le_refl _
 frame := h.frame
 img := fun i _ hb => .inr ⟨i, hb⟩
 blkS := fun id s n hs' => ⟨n, hs', Nat.le_refl _, fun _ => ⟨rfl, fun b cs T hb hcs => ⟨cs, by
  have := (h.floor id (hs.dom id b hb)).2.2 b hb
  rw [← hcs]; exact this, rfl⟩⟩⟩
 mpS := fun _ hm => ⟨hm, rfl⟩
 floor := fun id _ => ⟨rfl, rfl, fun b hb => (h.floor id (hs.dom id b hb)).2.2 b hb⟩
theorem sim_back [GlobT] (hs : Sim FT c) (h : Step c.H.length c c') : Sim FT (back c c') := by
 have hst := step_back (fl := 0) hs h
 have hblk : ∀ id b, c.β id = some b → c'.w.heap[b]? = c.w.heap[b]? := fun id b hb => (h.floor id (hs.dom id b hb)).2.2 b hb
 refine ⟨hs.gl.step hst, hs.inj, hs.dom, hs.nx, fun k hk => hs.fresh k (Nat.le_trans h.size hk), hs.lens, ?_, ?_, fun id q b ho hb => (hblk id b hb).trans (hs.raw id q b ho hb)⟩
 ·intro id s es b ho hb
  obtain ⟨cs, T, g1, g2, g3⟩ := hs.blk id s es b ho hb
  exact ⟨cs, T, (hblk id b hb).trans g1, g2, fun i j x hx => let ⟨v, k1, k2, k3⟩ := g3 i j x hx; ⟨v, k1, k2, k3.step hst⟩⟩
 ·intro id ents b ho hb
  obtain ⟨es, clk, g1, g2, g3⟩ := hs.map id ents b ho hb
  exact ⟨es, clk, (hblk id b hb).trans g1, g2, fun i k x hx => let ⟨e, k1, k2, k3⟩ := g3 i k x hx; ⟨e, k1, k2, k3.step hst⟩⟩
structure Fl (c c' : Ctx) : Prop where
 X : c'.X = c.X
 floor : ∀ id, id < c.H.length → c'.H[id]? = c.H[id]? ∧ c'.β id = c.β id
theorem Step.fl (h : Step c.H.length c c') : Fl c c' := ⟨h.X, fun id hid => ⟨(h.floor id hid).1, (h.floor id hid).2.1⟩⟩
theorem seal1_rv [GlobT] (hs : Sim FT c) (hs' : Sim FT c') (h : Fl c c') {x : AV} {v : Value} (hr : RV FT c' x v) : RV FT (back c c') (seal1 c'.H c.H.length x) v := by
 have himp : ∀ b, Imm c' b → Imm (back c c') b := by
  intro b hi
  refine ⟨by have := hi.1; rw [h.X] at this; exact this, fun id hid => hi.2 id ?_⟩
  have hid' : c.β id = some b := hid
  rw [(h.floor id (hs.dom id b hid')).2]; exact hid'
 have hnew : ∀ id b, c.H.length ≤ id → c'.β id = some b → Imm (back c c') b := by
  intro id b hn hb
  refine ⟨by have := hs'.nx id b hb; rwa [h.X] at this, fun id' hid' => ?_⟩
  have hid'' : c.β id' = some b := hid'
  have hlt := hs.dom id' b hid''
  have : c'.β id' = some b := by rw [(h.floor id' hlt).2]; exact hid''
  have := hs'.inj id id' b hb this
  omega
 have hshp : ∀ id, id < c.H.length → shp c.H id = shp c'.H id := fun id hid => by simp [shp, (h.floor id hid).1]
 cases hr with
 | pure _ _ hp =>
  have hp' := hp.mono (w' := (back c c').w) (I' := Imm (back c c')) fun b o hi hb => ⟨himp b hi, hb⟩
  have hn := nrm_rp hp'
  cases hp' with
  | undef v => exact .pure _ _ (.undef v)
  | lit v => exact .pure _ _ hn
  | nil f a cap hf => exact .pure _ _ hn
  | sl f es b off cap cc T fz s vals h1 h2 h3 h4 h5 h6 h7 h8 => exact .pure _ _ hn
 | ms id tot off len a cap s n g1 g2 g3 g4 =>
  simp only [seal1]
  split
  ·rename_i hid
   refine .ms id tot off len a cap s n (by show shp c.H id = _; rw [hshp id hid]; exact g1) g2 g3 fun e => ?_
   obtain ⟨m1, m2⟩ := g4 e
   have hβ := (h.floor id hid).2
   refine ⟨m1, ?_⟩
   rcases m2 with ⟨m3, m4, m5, m6⟩ | ⟨b, cs, T, a', m3, m4, m5, m6, m7⟩
   ·exact .inl ⟨hβ.symm.trans m3, m4, m5, m6⟩
   ·exact .inr ⟨b, cs, T, a', hβ.symm.trans m3, m4, m5, m6, m7⟩
  ·exact .pure _ _ (seal_rp hs' himp hnew sealDepth _ _ (.ms id tot off len a cap s n g1 g2 g3 g4))
 | ptr id tot idx off a s n g1 g2 g3 =>
  simp only [seal1]
  split
  ·rename_i hid
   refine .ptr id tot idx off a s n (by show shp c.H id = _; rw [hshp id hid]; exact g1) g2 fun e => ?_
   obtain ⟨b, hb, ha⟩ := g3 e
   exact ⟨b, ((h.floor id hid).2).symm.trans hb, ha⟩
  ·exact RV.undef _
 | rptr cs b off cc T fz vals g1 g2 g3 g4 =>
  exact .rptr cs b off cc T fz vals (himp b g1) g2 g3 fun j x hx => (g4 j x hx).mono fun b o hi hb => ⟨himp b hi, hb⟩
 | mp id b g1 g2 =>
  simp only [seal1]
  split
  ·rename_i hid
   obtain ⟨ents, he, hnb⟩ := g1
   exact .mp id b ⟨ents, by rw [← he]; exact ((h.floor id hid).1).symm, hnb⟩ (((h.floor id hid).2).symm.trans g2)
  ·exact RV.undef _
 | it => exact RV.undef _
 | fn vi f caps cv vals g1 g2 g3 g4 =>
  cases caps with
  | nil => exact .fn vi f [] cv vals g1 g2 g3 (fun i x hx => by simp at hx)
  | cons _ _ => exact RV.undef _
 | agg => exact RV.undef _
 | tup => exact RV.undef _
theorem seal2_rv [GlobT] (hs : Sim FT c) (hs' : Sim FT c') (h : Fl c c') {x : AV} {v : Value} (hr : RV FT c' x v) : RV FT (back c c') (seal2 c'.H c.H.length x) v := by
 unfold seal2
 split
 ·rename_i cs
  obtain ⟨cv, vals, rfl, g1, g2, g3⟩ := hr.agg_inv
  refine .agg _ cv vals (by simpa using g1) ?_ ?_
  ·intro i x hx
   simp only [List.getElem?_map, Option.map_eq_some_iff] at hx
   obtain ⟨y, hy, rfl⟩ := hx
   exact g2 i y hy
  ·intro i x hx
   simp only [List.getElem?_map, Option.map_eq_some_iff] at hx
   obtain ⟨y, hy, rfl⟩ := hx
   exact seal1_rv hs hs' h (g3 i y hy)
 ·exact seal1_rv hs hs' h hr
theorem seal3_rv [GlobT] (hs : Sim FT c) (hs' : Sim FT c') (h : Fl c c') {x : AV} {v : Value} (hr : RV FT c' x v) : RV FT (back c c') (seal3 c'.H c.H.length x) v := by
 unfold seal3
 split
 ·rename_i cs
  obtain ⟨cv, vals, rfl, g1, g2, g3⟩ := hr.tup_inv
  refine .tup _ cv vals (by simpa using g1) ?_ ?_
  ·intro i x hx
   simp only [List.getElem?_map, Option.map_eq_some_iff] at hx
   obtain ⟨y, hy, rfl⟩ := hx
   exact g2 i y hy
  ·intro i x hx
   simp only [List.getElem?_map, Option.map_eq_some_iff] at hx
   obtain ⟨y, hy, rfl⟩ := hx
   exact seal2_rv hs hs' h (g3 i y hy)
 ·exact seal2_rv hs hs' h hr
end
end Go.Proofs.YtmflphfmefakfaaGreatDoor.Av
namespace Go.Proofs.YtmflphfmefakfaaGreatDoor.Av
open Go
section
variable {FT : Nat → Option Nat} {c : Ctx}
def frz (c : Ctx) (id s : Nat) (es : List (List AV)) : Ctx := ⟨c.w, c.X, fun i => if i = id then none else c.β i, c.H.set id (.blk s (es ++ [List.replicate s .undef]))⟩
theorem frz_get {id s i : Nat} {es : List (List AV)} (h : i ≠ id) : (frz c id s es).H[i]? = c.H[i]? := by
 simp only [frz]
 rw [List.getElem?_set_ne (Ne.symm h)]
theorem frz_same {id s : Nat} {es es' : List (List AV)} (ho : c.H[id]? = some (.blk s es')) : (frz c id s es).H[id]? = some (.blk s (es ++ [List.replicate s .undef])) := by
 have hlt : id < c.H.length := by
  rcases Nat.lt_or_ge id c.H.length with h | h
  ·exact h
  ·rw [List.getElem?_eq_none h] at ho; cases ho
 simp only [frz]
 rw [List.getElem?_set_self hlt]
theorem step_frz [GlobT] {fl id s : Nat} {es : List (List AV)} (hfl : fl ≤ id) (ho : c.H[id]? = some (.blk s es)) : Step fl c (frz c id s es) where
 X := rfl
 os := rfl
 tape := rfl
 output := rfl
 size := Nat.le_refl _
 len := by simp [frz]
 frame := fun _ _ _ => rfl
 img := fun i b hb => by
  simp only [frz] at hb
  split at hb
  ·cases hb
  ·exact .inr ⟨_, hb⟩
 blkS := fun i s' n hs => by
  by_cases hi : i = id
  ·subst hi
   simp only [shp, ho, Option.some.injEq, Prod.mk.injEq] at hs
   obtain ⟨rfl, rfl⟩ := hs
   exact ⟨es.length + 1, by simp [shp, frz_same ho], by omega, fun h => by omega⟩
  ·refine ⟨n, by simp only [shp, frz_get hi]; exact hs, Nat.le_refl _, fun _ => ⟨by simp [frz, hi], fun b cs T _ hcs => ⟨cs, hcs, rfl⟩⟩⟩
 mpS := fun i hm => by
  obtain ⟨e, he, hnb⟩ := hm
  have hi : i ≠ id := by
   intro h
   subst h
   rw [ho] at he
   cases he
   exact hnb
  exact ⟨⟨e, by rw [frz_get hi]; exact he, hnb⟩, by simp [frz, hi]⟩
 floor := fun i hi => by
  have : i ≠ id := by omega
  exact ⟨frz_get this, by simp [frz, this], fun _ _ => rfl⟩
theorem sim_frz [GlobT] {id s : Nat} {es : List (List AV)} (hs : Sim FT c) (ho : c.H[id]? = some (.blk s es)) : Sim FT (frz c id s es) := by
 have hst := step_frz (fl := 0) (Nat.zero_le _) ho
 have hβ : ∀ i b, (frz c id s es).β i = some b → i ≠ id ∧ c.β i = some b := by
  intro i b hb
  simp only [frz] at hb
  split at hb
  ·cases hb
  ·rename_i h; exact ⟨h, hb⟩
 refine ⟨hs.gl.step hst, fun i j b hi hj => hs.inj i j b (hβ i b hi).2 (hβ j b hj).2, fun i b hi => ?_, fun i b hi => hs.nx i b (hβ i b hi).2, hs.fresh, ?_, ?_, ?_, fun i q b h hb => by
  obtain ⟨hi, hb⟩ := hβ i b hb
  rw [frz_get hi] at h
  exact hs.raw i q b h hb⟩
 ·have := hs.dom i b (hβ i b hi).2
  simpa [frz] using this
 ·intro i s' es' h e he
  by_cases hi : i = id
  ·subst hi
   rw [frz_same ho] at h
   cases h
   rcases List.mem_append.1 he with he | he
   ·exact hs.lens i s es ho e he
   ·simp at he; subst he; simp
  ·rw [frz_get hi] at h
   exact hs.lens i s' es' h e he
 ·intro i s' es' b h hb
  obtain ⟨hi, hb⟩ := hβ i b hb
  rw [frz_get hi] at h
  obtain ⟨cs, T, g1, g2, g3⟩ := hs.blk i s' es' b h hb
  exact ⟨cs, T, g1, g2, fun i j x hx => let ⟨v, k1, k2, k3⟩ := g3 i j x hx; ⟨v, k1, k2, k3.step hst⟩⟩
 ·intro i ents b h hb
  obtain ⟨hi, hb⟩ := hβ i b hb
  rw [frz_get hi] at h
  obtain ⟨cs, T, g1, g2, g3⟩ := hs.map i ents b h hb
  exact ⟨cs, T, g1, g2, fun i j x hx => let ⟨v, k1, k2, k3⟩ := g3 i j x hx; ⟨v, k1, k2, k3.step hst⟩⟩
theorem rv_frz [GlobT] {id s tot off len : Nat} {es : List (List AV)} {v : Value} (hs : Sim FT c) (ho : c.H[id]? = some (.blk s es)) (htot : es.length = tot) (h : RV FT c (.ms id tot off len) v) :
  RV FT (frz c id s es) (.sl false (((es.drop off).take len).map fun e => e.map toP)) v := by
 obtain ⟨ad, cap, s0, n0, hv, g1, g2, g3, g4⟩ := h.ms_inv
 rw [shp_of ho] at g1
 cases g1
 obtain ⟨m1, m2⟩ := g4 htot.symm
 have hlen : ((es.drop off).take len).length = len := by simp; omega
 subst hv
 refine .pure _ _ ?_
 by_cases hl0 : len = 0
 ·subst hl0
  simp only [List.take_zero, List.map_nil]
  exact .nil false _ _ (fun h => by cases h)
 ·rcases m2 with ⟨_, m3, m4, m5⟩ | ⟨b, cc, Ty, a', m3, m4, m5, m6, m7⟩
  ·omega
  ·have ha := m7 (by omega)
   subst m6
   subst ha
   obtain ⟨cc', Ty', q1, q2, q3⟩ := hs.blk id s es b ho m3
   rw [m4] at q1
   cases q1
   have hlens := hs.lens id s es ho
   have himm : ∀ b', Imm c b' → Imm (frz c id s es) b' := fun b' hi => ⟨hi.1, fun i hb => by
    simp only [frz] at hb
    split at hb
    ·cases hb
    ·exact hi.2 i hb⟩
   have hcell : ∀ i j x, cellE (((es.drop off).take len).map fun e => e.map toP) i j = some x →
     ∃ y u, x = toP y ∧ cc[off * s + (i * s + j)]? = some u ∧ scalarB u = true ∧ RV FT c y u := by
    intro i j x hx
    obtain ⟨y, hy, rfl⟩ := cellE_map hx
    obtain ⟨e, he, hj⟩ := cellE_some hy
    rw [List.getElem?_take] at he
    split at he
    ·rw [List.getElem?_drop] at he
     obtain ⟨u, w1, w2, w3⟩ := q3 (off + i) j y (by simp [cellE, he, hj])
     exact ⟨y, u, rfl, by rw [← w1]; congr 1; rw [Nat.add_mul]; omega, w2, w3⟩
    ·cases he
   have hres := RP.sl (w := c.w) (I := Imm (frz c id s es)) false (((es.drop off).take len).map fun e => e.map toP) b (off * s) cap cc Ty (0, 0) s
    (fun i j => (cc[off * s + (i * s + j)]?).getD undefV)
    (by intro e; have := congrArg List.length e; simp at this; omega)
    ⟨hs.nx id b m3, fun i hb => by
     simp only [frz] at hb
     split at hb
     ·cases hb
     ·rename_i hne; exact hne (hs.inj i id b hb m3)⟩ m4
    (fun e he => by
     simp only [List.mem_map] at he
     obtain ⟨e0, h0, rfl⟩ := he
     simpa using hlens e0 (List.mem_of_mem_drop (List.mem_of_mem_take h0)))
    (by simp only [List.length_map, hlen]; exact g3) (fun h => by cases h)
    (fun i j x hx => by
     obtain ⟨y, u, _, w1, w2, _⟩ := hcell i j x hx
     simp [w1, w2])
    (fun i j x hx => by
     obtain ⟨y, u, hxy, w1, _, w3⟩ := hcell i j x hx
     rw [hxy]
     simp only [w1, Option.getD_some]
     cases y with
     | lit q => rw [w3.lit_inv]; exact nrmV_rp _
     | sl f es => exact nrm_rp (w3.sl_inv.mono fun b o hi hb => ⟨himm b hi, hb⟩)
     | _ => exact .undef _)
   simp only [List.length_map, hlen] at hres
   exact hres
end
section
variable {P : Program} {T : List AFun} {c : Ctx} {fl : Nat} {o : Oper} {a : Act} {tm : List AV}
theorem op_freeze [GlobT] (hs : Sim (ftOf T) c) (htr : TR (ftOf T) c tm a.tmps) {x : AOpd} {y : Operand} {id s tot off len : Nat} {es : List (List AV)} (ho : o.op = .move y ∨ o.op = .assign y) (h : chkOpd T x y = true)
  (hx : getOpd tm x = .ms id tot off len) (hfl : fl ≤ id) (hid : c.H[id]? = some (.blk s es)) (htot : es.length = tot) :
  OpOK P (ftOf T) c fl o a (.sl false (((es.drop off).take len).map fun e => e.map toP)) (c.H.set id (.blk s (es ++ [List.replicate s .undef]))) := by
 have hr := getOpd_rv hs htr h
 rw [hx] at hr
 refine ok_value (cv := a.eval y) (w' := c.w) (β' := fun i => if i = id then none else c.β i) ?_ (step_frz hfl hid) (sim_frz hs hid) (rv_frz hs hid htot hr)
 rcases ho with ho | ho <;> simp [execOp, ho]
end
end Go.Proofs.YtmflphfmefakfaaGreatDoor.Av
namespace Go.Proofs.YtmflphfmefakfaaGreatDoor.Av
open Go
section
variable {P : Program} {T : List AFun}
def ArgsR (FT : Nat → Option Nat) (c : Ctx) (args : List AV) (vs : Array Value) : Prop :=
 vs.size = args.length ∧ ∀ (i : Nat) (x : AV), args[i]? = some x → ∃ v, vs[i]? = some v ∧ RV FT c x v
def CfOK [GlobT] (P : Program) (T : List AFun) (cf : Nat → Nat → List AV → Heap → Option (AV × Heap)) : Prop :=
 ∀ (fl vi f : Nat) (args : List AV) (r : AV) (H' : Heap) (c : Ctx) (vs : Array Value), cf fl vi args c.H = some (r, H') → ftOf T vi = some f → Sim (ftOf T) c → fl ≤ c.H.length → ArgsR (ftOf T) c args vs →
  Calls P f vs c.w fun e w' => ∃ v c', e = .returned v ∧ c'.w = w' ∧ c'.H = H' ∧ c'.X = c.X ∧ Step fl c c' ∧ Sim (ftOf T) c' ∧ RV (ftOf T) c' r v
def FnsOK (P : Program) (T : List AFun) : Prop :=
 ∀ vi f, ftOf T vi = some f → ∃ fn, P.funcs[f]? = some fn ∧ fn.body.isSome = true ∧ (fn.name == "runtime.NumGoroutine") = false
variable {cf : Nat → Nat → List AV → Heap → Option (AV × Heap)} {c : Ctx} {fl : Nat} {o : Oper} {a : Act} {tm : List AV}
def bare (c : Ctx) : Ctx := ⟨c.w, fun b => c.X b ∨ ∃ id, c.β id = some b, fun _ => none, []⟩
theorem bare_imm {c : Ctx} {b : Nat} : Imm (bare c) b ↔ Imm c b :=
 ⟨fun h => ⟨fun hx => h.1 (.inl hx), fun id hid => h.1 (.inr ⟨id, hid⟩)⟩, fun h => ⟨fun hx => by
  rcases hx with hx | ⟨id, hid⟩
  ·exact h.1 hx
  ·exact h.2 id hid, fun id hid => by cases hid⟩⟩
theorem beta_lt [GlobT] {FT : Nat → Option Nat} {c : Ctx} (hs : Sim FT c) {id b : Nat} (h : c.β id = some b) : b < c.w.heap.size := by
 have hd := hs.dom id b h
 have key : ∀ o : Obj, c.w.heap[b]? = some o → b < c.w.heap.size := by
  intro o ho
  rcases Nat.lt_or_ge b c.w.heap.size with h | h
  ·exact h
  ·rw [Array.getElem?_eq_none h] at ho; cases ho
 cases ho : c.H[id] with
 | blk s es =>
  obtain ⟨cs, T, g, _⟩ := hs.blk id s es b (by rw [List.getElem?_eq_getElem hd, ho]) h
  exact key _ g
 | mp es =>
  obtain ⟨cs, T, g, _⟩ := hs.map id es b (by rw [List.getElem?_eq_getElem hd, ho]) h
  exact key _ g
 | raw q => exact key _ (hs.raw id q b (by rw [List.getElem?_eq_getElem hd, ho]) h)
theorem bare_sim [GlobT] {FT : Nat → Option Nat} {c : Ctx} (hs : Sim FT c) : Sim FT (bare c) where
 gl := fun g cs hcs => let ⟨cc, T, fz, vals, h1, h2, h0, h3, h4⟩ := hs.gl g cs hcs; ⟨cc, T, fz, vals, bare_imm.2 h1, h2, h0, h3, fun j x hx => (h4 j x hx).mono fun b o hi hb => ⟨bare_imm.2 hi, hb⟩⟩
 inj := fun _ _ _ h => by cases h
 dom := fun _ _ h => by cases h
 nx := fun _ _ h => by cases h
 fresh := fun k hk h => by
  rcases h with h | ⟨id, hid⟩
  ·exact hs.fresh k hk h
  ·have := beta_lt hs hid
   have hk' : c.w.heap.size ≤ k := hk
   omega
 lens := fun id s es h => by simp [bare] at h
 blk := fun id s es b h => by simp [bare] at h
 map := fun id es b h => by simp [bare] at h
 raw := fun id q b h => by simp [bare] at h
theorem plain1_rv [GlobT] {FT : Nat → Option Nat} {c : Ctx} {x : AV} {v : Value} (hp : plain1 x = true) (h : RV FT c x v) : RV FT (bare c) x v := by
 cases h with
 | pure _ _ hr => exact .pure _ _ (hr.mono fun b o hi hb => ⟨bare_imm.2 hi, hb⟩)
 | ms => cases hp
 | ptr => cases hp
 | rptr cs b off cc T fz vals g1 g2 g3 g4 => exact .rptr cs b off cc T fz vals (bare_imm.2 g1) g2 g3 fun j x hx => (g4 j x hx).mono fun b o hi hb => ⟨bare_imm.2 hi, hb⟩
 | mp => cases hp
 | it => cases hp
 | fn vi f caps cv vals g1 g2 g3 g4 =>
  cases caps with
  | nil => exact .fn vi f [] cv vals g1 g2 g3 fun i x hx => by simp at hx
  | cons _ _ => cases hp
 | agg => cases hp
 | tup => cases hp
theorem plainL_mem [GlobT] : ∀ {cs : List AV}, plainL cs = true → ∀ x ∈ cs, plain1 x = true
 | [], _, x, hx => by cases hx
 | y :: r, h, x, hx => by
  simp only [plainL] at h
  split at h
  ·rename_i hy
   rcases List.mem_cons.1 hx with rfl | hx
   ·exact hy
   ·exact plainL_mem h x hx
  ·cases h
theorem plainAll_mem [GlobT] : ∀ {cs : List AV}, plainAll cs = true → ∀ x ∈ cs, plain2 x = true
 | [], _, x, hx => by cases hx
 | y :: r, h, x, hx => by
  simp only [plainAll] at h
  split at h
  ·rename_i hy
   rcases List.mem_cons.1 hx with rfl | hx
   ·exact hy
   ·exact plainAll_mem h x hx
  ·cases h
theorem plain2_rv [GlobT] {FT : Nat → Option Nat} {c : Ctx} {x : AV} {v : Value} (hp : plain2 x = true) (h : RV FT c x v) : RV FT (bare c) x v := by
 unfold plain2 at hp
 split at hp
 ·rename_i cs
  obtain ⟨cv, vals, rfl, g1, g2, g3⟩ := h.agg_inv
  exact .agg cs cv vals g1 g2 fun i x hx => plain1_rv (plainL_mem hp x (List.mem_of_getElem? hx)) (g3 i x hx)
 ·exact plain1_rv hp h
theorem bare_args [GlobT] {FT : Nat → Option Nat} {c : Ctx} {args : List AV} {vs : Array Value} (hp : plainAll args = true) (h : ArgsR FT c args vs) : ArgsR FT (bare c) args vs :=
 ⟨h.1, fun i x hx => let ⟨v, h1, h2⟩ := h.2 i x hx; ⟨v, h1, plain2_rv (plainAll_mem hp x (List.mem_of_getElem? hx)) h2⟩⟩
theorem bare_heap {c c' : Ctx} (h : Step 0 (bare c) c') {k : Nat} (hk : k < c.w.heap.size) : c'.w.heap[k]? = c.w.heap[k]? := h.frame k hk fun id hid => by cases hid
theorem bare_step [GlobT] {FT : Nat → Option Nat} {c c' : Ctx} {fl : Nat} (hs : Sim FT c) (h : Step 0 (bare c) c') : Step fl c (back c c') where
 X := rfl
 os := h.os
 tape := h.tape
 output := h.output
 size := h.size
 len := Nat.le_refl _
 frame := fun k hk _ => bare_heap h hk
 img := fun i _ hb => .inr ⟨i, hb⟩
 blkS := fun id s n hs' => ⟨n, hs', Nat.le_refl _, fun _ => ⟨rfl, fun b cs T hb hcs => ⟨cs, (bare_heap h (beta_lt hs hb)).trans hcs, rfl⟩⟩⟩
 mpS := fun _ hm => ⟨hm, rfl⟩
 floor := fun id _ => ⟨rfl, rfl, fun b hb => bare_heap h (beta_lt hs hb)⟩
theorem bare_back [GlobT] {FT : Nat → Option Nat} {c c' : Ctx} (hs : Sim FT c) (h : Step 0 (bare c) c') : Sim FT (back c c') := by
 have hst := bare_step (fl := 0) hs h
 refine ⟨hs.gl.step hst, hs.inj, hs.dom, hs.nx, fun k hk => hs.fresh k (Nat.le_trans h.size hk), hs.lens, ?_, ?_, fun id q b ho hb => (bare_heap h (beta_lt hs hb)).trans (hs.raw id q b ho hb)⟩
 ·intro id s es b ho hb
  obtain ⟨cs, T, g1, g2, g3⟩ := hs.blk id s es b ho hb
  exact ⟨cs, T, (bare_heap h (beta_lt hs hb)).trans g1, g2, fun i j x hx => let ⟨v, k1, k2, k3⟩ := g3 i j x hx; ⟨v, k1, k2, k3.step hst⟩⟩
 ·intro id ents b ho hb
  obtain ⟨es, clk, g1, g2, g3⟩ := hs.map id ents b ho hb
  exact ⟨es, clk, (bare_heap h (beta_lt hs hb)).trans g1, g2, fun i k x hx => let ⟨e, k1, k2, k3⟩ := g3 i k x hx; ⟨e, k1, k2, k3.step hst⟩⟩
theorem bare_out [GlobT] {FT : Nat → Option Nat} {c c' : Ctx} {x : AV} {v : Value} (h : RV FT (back (bare c) c') x v) : RV FT (back c c') x v := by
 have him : ∀ b, Imm (back (bare c) c') b → Imm (back c c') b := fun b hi => ⟨fun hx => hi.1 (.inl hx), fun id hid => hi.1 (.inr ⟨id, hid⟩)⟩
 induction h with
 | pure x v hp => exact .pure x v (hp.mono fun b o hi hb => ⟨him b hi, hb⟩)
 | ms id tot off len a cap s n g1 => simp [back, bare, shp] at g1
 | ptr id tot idx off a s n g1 => simp [back, bare, shp] at g1
 | rptr cs b off cc T fz vals g1 g2 g3 g4 => exact .rptr cs b off cc T fz vals (him b g1) g2 g3 fun j x hx => (g4 j x hx).mono fun b o hi hb => ⟨him b hi, hb⟩
 | mp id b g1 => obtain ⟨e, he, _⟩ := g1; simp [back, bare] at he
 | it id b g1 => obtain ⟨e, he, _⟩ := g1; simp [back, bare] at he
 | fn vi f caps cv vals hf hs hv _ ih => exact .fn vi f caps cv vals hf hs hv ih
 | agg cs cv vals hs hv _ ih => exact .agg cs cv vals hs hv ih
 | tup cs cv vals hs hv _ ih => exact .tup cs cv vals hs hv ih
theorem callFunc_run {f : Nat} {fn : Func} {args : Array Value} (h1 : P.funcs[f]? = some fn) (h2 : fn.body.isSome = true) (h3 : (fn.name == "runtime.NumGoroutine") = false) (w : World) :
  (callFunc f args).run P w = .ok (.enter f args) w := by
 obtain ⟨b, hb⟩ := Option.isSome_iff_exists.1 h2
 have h5 : ¬ fn.name = "runtime.NumGoroutine" := by simpa using h3
 simp [callFunc, h1, hb, h5]
theorem nrm_rv [GlobT] {FT : Nat → Option Nat} {c : Ctx} {x : AV} {v : Value} (h : RV FT c x v) : RV FT c (nrm x) v := by
 cases h with
 | pure _ _ hp => exact .pure _ _ (nrm_rp hp)
 | ms id tot off len a cap s n g1 g2 g3 g4 => exact .ms id tot off len a cap s n g1 g2 g3 g4
 | ptr id tot idx off a s n g1 g2 g3 => exact .ptr id tot idx off a s n g1 g2 g3
 | rptr cs b off cc T fz vals g1 g2 g3 g4 => exact .rptr cs b off cc T fz vals g1 g2 g3 g4
 | mp id b g1 g2 => exact .mp id b g1 g2
 | it id b g1 g2 => exact .it id b g1 g2
 | fn vi f caps cv vals g1 g2 g3 g4 => exact .fn vi f caps cv vals g1 g2 g3 g4
 | agg cs cv vals g1 g2 g3 => exact .agg cs cv vals g1 g2 g3
 | tup cs cv vals g1 g2 g3 => exact .tup cs cv vals g1 g2 g3
theorem nrm2_rv [GlobT] {FT : Nat → Option Nat} {c : Ctx} {x : AV} {v : Value} (h : RV FT c x v) : RV FT c (nrm2 x) v := by
 unfold nrm2
 split
 ·rename_i cs
  obtain ⟨cv, vals, rfl, g1, g2, g3⟩ := h.agg_inv
  refine .agg _ cv vals (by simpa using g1) ?_ ?_
  ·intro i x hx
   simp only [List.getElem?_map, Option.map_eq_some_iff] at hx
   obtain ⟨y, hy, rfl⟩ := hx
   exact g2 i y hy
  ·intro i x hx
   simp only [List.getElem?_map, Option.map_eq_some_iff] at hx
   obtain ⟨y, hy, rfl⟩ := hx
   exact nrm_rv (g3 i y hy)
 ·exact nrm_rv h
theorem op_movN [GlobT] (hs : Sim (ftOf T) c) (htr : TR (ftOf T) c tm a.tmps) {x : AOpd} {y : Operand} (ho : o.op = .move y ∨ o.op = .assign y) (h : chkOpd T x y = true) :
  OpOK P (ftOf T) c fl o a (nrm2 (getOpd tm x)) c.H := by
 refine ok_same (cv := a.eval y) hs ?_ (nrm2_rv (getOpd_rv hs htr h))
 rcases ho with ho | ho <;> simp [execOp, ho]
theorem args_nrm [GlobT] {FT : Nat → Option Nat} {c : Ctx} {args : List AV} {vs : Array Value} (h : ArgsR FT c args vs) : ArgsR FT c (args.map nrm2) vs := by
 refine ⟨by simpa using h.1, fun i x hx => ?_⟩
 simp only [List.getElem?_map, Option.map_eq_some_iff] at hx
 obtain ⟨y, hy, rfl⟩ := hx
 obtain ⟨v, g1, g2⟩ := h.2 i y hy
 exact ⟨v, g1, nrm2_rv g2⟩
theorem ok_call [GlobT] (hcf : CfOK P T cf) (hfn : FnsOK P T) (hs : Sim (ftOf T) c) (hfl : fl ≤ c.H.length) {pu : Bool} {vi f : Nat} {args : List AV} {vs : Array Value} {r : AV} {H' : Heap}
  (hev : callA cf fl pu vi args c.H = some (r, H')) (hf : ftOf T vi = some f) (hargs : ArgsR (ftOf T) c args vs)
  (hrun : (execOp a.eval o).run P c.w = (callFunc f vs).run P c.w) : OpOK P (ftOf T) c fl o a r H' := by
 obtain ⟨fn, h1, h2, h3⟩ := hfn vi f hf
 intro K Q hK
 unfold Oper.wp
 rw [hrun, callFunc_run h1 h2 h3]
 simp only [Oper.upon]
 unfold callA at hev
 split at hev
 ·split at hev
  ·rename_i hpl
   split at hev
   ·rename_i r' H'' hc
    cases hev
    refine (hcf 0 vi f (args.map nrm2) r' H'' (bare c) vs hc hf (bare_sim hs) (Nat.le_refl _) (args_nrm (bare_args hpl hargs))).mono ?_
    rintro e w' ⟨v, c', rfl, rfl, rfl, hX, hst, hs', hv⟩
    exact hK v (back c c') rfl (bare_step hs hst) (bare_back hs hst) (bare_out (seal3_rv (bare_sim hs) hs' ⟨hst.X, fun id hid => absurd hid (Nat.not_lt_zero _)⟩ hv))
   ·cases hev
  ·split at hev
   ·rename_i r' H'' hc
    cases hev
    refine (hcf _ vi f (args.map nrm2) r' H'' c vs hc hf hs (Nat.le_refl _) (args_nrm hargs)).mono ?_
    rintro e w' ⟨v, c', rfl, rfl, rfl, hX, hst, hs', hv⟩
    exact hK v (back c c') rfl (step_back hs hst) (sim_back hs hst) (seal3_rv hs hs' hst.fl hv)
   ·cases hev
 ·refine (hcf fl vi f args r H' c vs hev hf hs hfl hargs).mono ?_
  rintro e w' ⟨v, c', rfl, rfl, rfl, hX, hst, hs', hv⟩
  exact hK v c' rfl hst hs' hv
theorem argsR_of [GlobT] (hs : Sim (ftOf T) c) (htr : TR (ftOf T) c tm a.tmps) {xs : List AOpd} {ys : List Operand} (h : chkOpds T xs ys = true) : ArgsR (ftOf T) c (xs.map (getOpd tm)) (ys.map a.eval).toArray := by
 obtain ⟨h1, h2⟩ := opds_rv hs htr h
 refine ⟨by simp [h1], fun i x hx => ?_⟩
 obtain ⟨v, g1, g2⟩ := h2 i x hx
 exact ⟨v, by simpa using g1, g2⟩
theorem op_call [GlobT] (hcf : CfOK P T cf) (hfn : FnsOK P T) (hs : Sim (ftOf T) c) (htr : TR (ftOf T) c tm a.tmps) (hfl : fl ≤ c.H.length) {pu : Bool} {vi f : Nat} {args : List AOpd} {as : Array Operand} {ts : Array TypeId} {r : AV} {H' : Heap}
  (ho : o.op = .call ⟨.value (.func f), as, ts⟩) (hf : ftOf T vi = some f) (h : chkOpds T args as.toList = true) (hev : callA cf fl pu vi (args.map (getOpd tm)) c.H = some (r, H')) : OpOK P (ftOf T) c fl o a r H' := by
 refine ok_call hcf hfn hs hfl hev hf (argsR_of hs htr h) ?_
 have e : (as.toList.map a.eval).toArray = as.map a.eval := by apply Array.ext'; simp
 rw [e]
 simp [execOp, ho, resolve, Act.eval, Deferred.ofValue, invoke]
theorem OpOK.mono [GlobT] {FT : Nat → Option Nat} {fl' : Nat} {r : AV} {H' : Heap} (h : OpOK P FT c fl' o a r H') (hl : fl ≤ fl') : OpOK P FT c fl o a r H' :=
 fun K Q hK => h K Q fun cv c' h1 h2 h3 h4 => hK cv c' h1 (h2.mono hl) h3 h4
theorem op_callF [GlobT] (hcf : CfOK P T cf) (hfn : FnsOK P T) (hs : Sim (ftOf T) c) (htr : TR (ftOf T) c tm a.tmps) (hfl : fl ≤ c.H.length) {vi f : Nat} {args : List AOpd} {as : Array Operand} {ts : Array TypeId} {r : AV} {H' : Heap}
  (ho : o.op = .call ⟨.value (.func f), as, ts⟩) (hf : ftOf T vi = some f) (h : chkOpds T args as.toList = true) (hev : cf c.H.length vi (args.map (getOpd tm)) c.H = some (r, H')) : OpOK P (ftOf T) c fl o a r H' :=
 (op_call (fl := c.H.length) (pu := false) hcf hfn hs htr (Nat.le_refl _) ho hf h hev).mono hfl
def snapC (c : Ctx) : Ctx := ⟨c.w, c.X, fun _ => none, []⟩
theorem snap_imm {c : Ctx} {b : Nat} (h : Imm c b) : Imm (snapC c) b := ⟨h.1, fun id hid => by cases hid⟩
theorem snap_sim [GlobT] {FT : Nat → Option Nat} {c : Ctx} (hs : Sim FT c) : Sim FT (snapC c) where
 gl := fun g cs hcs => let ⟨cc, T, fz, vals, h1, h2, h0, h3, h4⟩ := hs.gl g cs hcs; ⟨cc, T, fz, vals, snap_imm h1, h2, h0, h3, fun j x hx => (h4 j x hx).mono fun b o hi hb => ⟨snap_imm hi, hb⟩⟩
 inj := fun _ _ _ h => by cases h
 dom := fun _ _ h => by cases h
 nx := fun _ _ h => by cases h
 fresh := hs.fresh
 lens := fun id s es h => by simp [snapC] at h
 blk := fun id s es b h => by simp [snapC] at h
 map := fun id es b h => by simp [snapC] at h
 raw := fun id q b h => by simp [snapC] at h
theorem snap_heap {c c' : Ctx} (h : Step 0 (snapC c) c') {k : Nat} (hk : k < c.w.heap.size) : c'.w.heap[k]? = c.w.heap[k]? := h.frame k hk fun id hid => by cases hid
theorem snap_step [GlobT] {FT : Nat → Option Nat} {c c' : Ctx} {fl : Nat} (hs : Sim FT c) (h : Step 0 (snapC c) c') : Step fl c (back c c') where
 X := rfl
 os := h.os
 tape := h.tape
 output := h.output
 size := h.size
 len := Nat.le_refl _
 frame := fun k hk _ => snap_heap h hk
 img := fun i _ hb => .inr ⟨i, hb⟩
 blkS := fun id s n hs' => ⟨n, hs', Nat.le_refl _, fun _ => ⟨rfl, fun b cs T hb hcs => ⟨cs, (snap_heap h (beta_lt hs hb)).trans hcs, rfl⟩⟩⟩
 mpS := fun _ hm => ⟨hm, rfl⟩
 floor := fun id _ => ⟨rfl, rfl, fun b hb => snap_heap h (beta_lt hs hb)⟩
theorem snap_back [GlobT] {FT : Nat → Option Nat} {c c' : Ctx} (hs : Sim FT c) (h : Step 0 (snapC c) c') : Sim FT (back c c') := by
 have hst := snap_step (fl := 0) hs h
 refine ⟨hs.gl.step hst, hs.inj, hs.dom, hs.nx, fun k hk => hs.fresh k (Nat.le_trans h.size hk), hs.lens, ?_, ?_, fun id q b ho hb => (snap_heap h (beta_lt hs hb)).trans (hs.raw id q b ho hb)⟩
 ·intro id s es b ho hb
  obtain ⟨cs, T, g1, g2, g3⟩ := hs.blk id s es b ho hb
  exact ⟨cs, T, (snap_heap h (beta_lt hs hb)).trans g1, g2, fun i j x hx => let ⟨v, k1, k2, k3⟩ := g3 i j x hx; ⟨v, k1, k2, k3.step hst⟩⟩
 ·intro id ents b ho hb
  obtain ⟨es, clk, g1, g2, g3⟩ := hs.map id ents b ho hb
  exact ⟨es, clk, (snap_heap h (beta_lt hs hb)).trans g1, g2, fun i k x hx => let ⟨e, k1, k2, k3⟩ := g3 i k x hx; ⟨e, k1, k2, k3.step hst⟩⟩
theorem snap1_rv [GlobT] {c : Ctx} (hs : Sim (ftOf T) c) {x : AV} {v : Value} (hr : RV (ftOf T) c x v) : RV (ftOf T) (snapC c) (seal1 c.H 0 x) v := by
 have hp : ∀ d y u, RV (ftOf T) c y u → RP (snapC c).w (Imm (snapC c)) (sealC c.H 0 d y) u := fun d y u h =>
  seal_rp hs (fun b hb => snap_imm hb) (fun id b _ hb => ⟨hs.nx id b hb, fun i hi => by cases hi⟩) d y u h
 cases hr with
 | pure _ _ hpr =>
  have := hp 0 x v (.pure _ _ hpr)
  cases hpr with
  | undef => exact RV.undef _
  | lit => exact .pure _ _ (nrmV_rp _)
  | nil f a cap hf => exact .pure _ _ (.nil false a cap (by simp))
  | sl f es b off cap cc Ty fz s vals h1 h2 h3 h4 h5 h6 h7 h8 => exact .pure _ _ this
 | ms id tot off len a cap s n g1 g2 g3 g4 =>
  simp only [seal1, Nat.not_lt_zero, if_false]
  exact .pure _ _ (hp _ _ _ (.ms id tot off len a cap s n g1 g2 g3 g4))
 | ptr id tot idx off a s n g1 g2 g3 => simp only [seal1, Nat.not_lt_zero, if_false]; exact RV.undef _
 | rptr cs b off cc Ty fz vals g1 g2 g3 g4 =>
  exact .rptr cs b off cc Ty fz vals (snap_imm g1) g2 g3 fun j x hx => (g4 j x hx).mono fun b o hi hb => ⟨snap_imm hi, hb⟩
 | mp id b g1 g2 => simp only [seal1, Nat.not_lt_zero, if_false]; exact RV.undef _
 | it id b g1 g2 => exact RV.undef _
 | fn vi f caps cv vals g1 g2 g3 g4 =>
  cases caps with
  | nil => exact .fn vi f [] cv vals g1 g2 g3 (fun i x hx => by simp at hx)
  | cons _ _ => exact RV.undef _
 | agg => exact RV.undef _
 | tup => exact RV.undef _
theorem snap2_rv [GlobT] {c : Ctx} (hs : Sim (ftOf T) c) {x : AV} {v : Value} (hr : RV (ftOf T) c x v) : RV (ftOf T) (snapC c) (seal2 c.H 0 x) v := by
 unfold seal2
 split
 ·rename_i cs
  obtain ⟨cv, vals, rfl, g1, g2, g3⟩ := hr.agg_inv
  refine .agg _ cv vals (by simpa using g1) ?_ ?_
  ·intro i x hx
   simp only [List.getElem?_map, Option.map_eq_some_iff] at hx
   obtain ⟨y, hy, rfl⟩ := hx
   exact g2 i y hy
  ·intro i x hx
   simp only [List.getElem?_map, Option.map_eq_some_iff] at hx
   obtain ⟨y, hy, rfl⟩ := hx
   exact snap1_rv hs (g3 i y hy)
 ·exact snap1_rv hs hr
theorem scalT_rv [GlobT] {FT : Nat → Option Nat} {c c' : Ctx} {x : AV} {v : Value} (hs : scalT x = true) (h : RV FT c x v) : RV FT c' x v := by
 unfold scalT at hs
 split at hs
 ·rw [h.lit_inv]; exact RV.lit _
 ·rename_i vs
  obtain ⟨cv, vals, rfl, g1, g2, g3⟩ := h.tup_inv
  refine .tup _ cv vals g1 g2 fun i y hy => ?_
  have := List.all_eq_true.1 hs y (List.mem_of_getElem? hy)
  split at this
  ·rw [(g3 i _ hy).lit_inv]; exact RV.lit _
  ·cases this
 ·cases hs
theorem op_callS [GlobT] (hcf : CfOK P T cf) (hfn : FnsOK P T) (hs : Sim (ftOf T) c) (htr : TR (ftOf T) c tm a.tmps) {vi f : Nat} {args : List AOpd} {as : Array Operand} {ts : Array TypeId} {r : AV} {H' : Heap}
  (ho : o.op = .call ⟨.value (.func f), as, ts⟩) (hf : ftOf T vi = some f) (h : chkOpds T args as.toList = true) (hev : cf 0 vi ((args.map (getOpd tm)).map (seal2 c.H 0)) [] = some (r, H')) (hr : scalT (seal3 H' 0 r) = true) : OpOK P (ftOf T) c fl o a (seal3 H' 0 r) c.H := by
 have hargs := argsR_of hs htr h
 have e : (as.toList.map a.eval).toArray = as.map a.eval := by apply Array.ext'; simp
 have hrun : (execOp a.eval o).run P c.w = (callFunc f (as.toList.map a.eval).toArray).run P c.w := by
  rw [e]
  simp [execOp, ho, resolve, Act.eval, Deferred.ofValue, invoke]
 obtain ⟨fn, h1, h2, h3⟩ := hfn vi f hf
 intro K Q hK
 unfold Oper.wp
 rw [hrun, callFunc_run h1 h2 h3]
 simp only [Oper.upon]
 have hargs2 : ArgsR (ftOf T) (snapC c) ((args.map (getOpd tm)).map (seal2 c.H 0)) (as.toList.map a.eval).toArray := by
  refine ⟨by simpa using hargs.1, fun i x hx => ?_⟩
  rw [List.getElem?_map, Option.map_eq_some_iff] at hx
  obtain ⟨y, hy, rfl⟩ := hx
  obtain ⟨v, g1, g2⟩ := hargs.2 i y hy
  exact ⟨v, g1, snap2_rv hs g2⟩
 refine (hcf 0 vi f _ r H' (snapC c) _ hev hf (snap_sim hs) (Nat.le_refl _) hargs2).mono ?_
 rintro e w' ⟨v, c', rfl, rfl, rfl, hX, hst, hs', hv⟩
 exact hK v (back c c') rfl (snap_step hs hst) (snap_back hs hst) (scalT_rv hr (seal3_rv (snap_sim hs) hs' ⟨hst.X, fun id hid => absurd hid (Nat.not_lt_zero _)⟩ hv))
theorem op_callv [GlobT] (hcf : CfOK P T cf) (hfn : FnsOK P T) (hs : Sim (ftOf T) c) (htr : TR (ftOf T) c tm a.tmps) (hfl : fl ≤ c.H.length) {pu : Bool} {vi : Nat} {x : AOpd} {y : Operand} {caps : List AV} {args : List AOpd} {as : Array Operand} {ts : Array TypeId} {r : AV} {H' : Heap}
  (ho : o.op = .call ⟨.value y, as, ts⟩) (hx : chkOpd T x y = true) (hxe : getOpd tm x = .fn vi caps) (h : chkOpds T args as.toList = true) (hev : callA cf fl pu vi (args.map (getOpd tm) ++ caps) c.H = some (r, H')) : OpOK P (ftOf T) c fl o a r H' := by
 have hr := getOpd_rv hs htr hx
 rw [hxe] at hr
 obtain ⟨f, cv, vals, hv, hf, g1, g2, g3⟩ := hr.fn_inv
 have ha := argsR_of hs htr h
 refine ok_call hcf hfn hs hfl hev hf (vs := (as.toList.map a.eval).toArray ++ cv) ⟨by simp [g1]; simpa using ha.1, ?_⟩ ?_
 ·intro i z hz
  rw [List.getElem?_append] at hz
  rw [Array.getElem?_append]
  have hsz : ((as.toList.map a.eval).toArray).size = (args.map (getOpd tm)).length := ha.1
  rw [hsz]
  split at hz
  ·rename_i hi; rw [if_pos hi]; exact ha.2 i z hz
  ·rename_i hi; rw [if_neg hi]; exact ⟨_, g2 _ z hz, g3 _ z hz⟩
 ·have e : (as.toList.map a.eval).toArray = as.map a.eval := by apply Array.ext'; simp
  rw [e]
  simp [execOp, ho, resolve, hv, Deferred.ofValue, invoke]
theorem step_claims [GlobT] : ∀ (cl : List (Nat × Nat)) (c : Ctx), Sim (ftOf T) c → fl ≤ c.H.length → Step fl c ⟨c.w, c.X, c.β, c.H ++ cl.map fun x => .blk x.2 []⟩ ∧ Sim (ftOf T) ⟨c.w, c.X, c.β, c.H ++ cl.map fun x => .blk x.2 []⟩
 | [], c, hs, _ => by simpa using ⟨Step.refl fl c, hs⟩
 | x :: r, c, hs, hfl => by
  have h1 := step_claim (fl := fl) (c := c) (s := x.2) hfl
  have h2 := sim_claim (c := c) (s := x.2) hs
  obtain ⟨h3, h4⟩ := step_claims r ⟨c.w, c.X, c.β, c.H ++ [.blk x.2 []]⟩ h2 (by simp only [List.length_append, List.length_singleton]; omega)
  have e : (c.H ++ [AObj.blk x.2 []]) ++ r.map (fun x => AObj.blk x.2 []) = c.H ++ (x :: r).map fun x => .blk x.2 [] := by simp
  simp only [e] at h3 h4
  exact ⟨h1.trans h3, h4⟩
theorem claimCells_R [GlobT] {FT : Nat → Option Nat} {z : List Value} : ∀ (cl : List (Nat × Nat)) (n : Nat) (cs : List AV), CellsR FT c cs z.toArray → (∀ x ∈ cl, z[x.1]? = some nilS) →
  (∀ i, i < cl.length → RV FT c (.ms (n + i) 0 0 0) nilS) → CellsR FT c (claimCells n cs cl) z.toArray
 | [], _, cs, h, _, _ => h
 | (o, s) :: r, n, cs, h, hz, hn => by
  simp only [claimCells]
  refine claimCells_R r (n + 1) _ ?_ (fun x hx => hz x (by simp [hx])) (fun i hi => by have := hn (i + 1) (by simp; omega); rwa [show n + (i + 1) = n + 1 + i by omega] at this)
  refine ⟨by simpa using h.1, fun j x hx => ?_⟩
  rw [List.getElem?_set] at hx
  split at hx
  ·rename_i hoj
   subst hoj
   split at hx
   ·cases hx
    exact ⟨nilS, by simpa using hz (o, s) (by simp), rfl, hn 0 (by simp)⟩
   ·cases hx
  ·exact h.2 j x hx
theorem op_allocC [GlobT] (hs : Sim (ftOf T) c) (hfl : fl ≤ c.H.length) {z : List Value} {cl : List (Nat × Nat)} {t : TypeId} (ho : o.op = .alloc t) (h : zeroIs P t z = true) (hcl : ∀ x ∈ cl, z[x.1]? = some nilS) :
  OpOK P (ftOf T) c fl o a (.ptr (c.H.length + cl.length) 1 0 0) ((c.H ++ cl.map fun c => .blk c.2 []) ++ [.blk z.length [claimCells c.H.length (z.map .lit) cl]]) := by
 obtain ⟨i, v, hi, hv, hc, hsc⟩ := zeroIs_spec h
 obtain ⟨h1, h2⟩ := step_claims (fl := fl) cl c hs hfl
 generalize hH1 : (c.H ++ cl.map fun c => AObj.blk c.2 []) = H1 at h1 h2
 have hlen : H1.length = c.H.length + cl.length := by rw [← hH1]; simp
 have hR : CellsR (ftOf T) ⟨c.w, c.X, c.β, H1⟩ (claimCells c.H.length (z.map .lit) cl) z.toArray := by
  refine claimCells_R cl c.H.length _ (lits_cellsR hsc) hcl ?_
  intro k hk
  refine .ms _ 0 0 0 none 0 (cl[k].2) 0 ?_ (Nat.le_refl _) (Nat.le_refl _) fun _ => ⟨Nat.le_refl _, .inl ⟨?_, rfl, rfl, rfl⟩⟩
  ·show shp H1 _ = _
   rw [← hH1]
   simp [shp, hk]
  ·show c.β _ = none
   cases hb : c.β (c.H.length + k) with
   | none => rfl
   | some b => have := hs.dom _ b hb; omega
 have hop := op_newVar (P := P) (T := T) (c := ⟨c.w, c.X, c.β, H1⟩) (fl := fl) (o := o) (a := a) (cs := claimCells c.H.length (z.map .lit) cl) (cv := z.toArray) (t := t) h2 (by simp only [hlen]; omega) ?_ hR.1 hR.2
 ·have hcl' : (claimCells c.H.length (z.map AV.lit) cl).length = z.length := by have := hR.1; simpa using this.symm
  rw [hcl'] at hop
  simp only [hlen] at hop
  intro K Q hK
  refine hop K Q ?_
  intro cv c' e1 e2 e3 e4
  exact hK cv c' e1 (h1.trans e2) e3 e4
 ·simp [execOp, ho, Instr.alloc, zeroValue, typeInfo, hi, hv, newVar, newRow, hc]
end
end Go.Proofs.YtmflphfmefakfaaGreatDoor.Av
namespace Go.Proofs.YtmflphfmefakfaaGreatDoor.Av
open Go
section
variable {P : Program} {T : List AFun} {cf : Nat → Nat → List AV → Heap → Option (AV × Heap)} {c : Ctx} {fl : Nat} {o : Oper} {a : Act} {tm : List AV}
theorem two_list {α : Type} {as : Array α} {x y : α} (h : as.toList = [x, y]) : as = #[x, y] := by apply Array.ext'; simpa using h
theorem one_list {α : Type} {as : Array α} {x : α} (h : as.toList = [x]) : as = #[x] := by apply Array.ext'; simpa using h
set_option maxHeartbeats 1000000 in
theorem evOp_sound [GlobT] (hcf : CfOK P T cf) (hfn : FnsOK P T) (hs : Sim (ftOf T) c) (htr : TR (ftOf T) c tm a.tmps) (hfl : fl ≤ c.H.length) {ao : AOp} {v : AV} {H' : Heap}
  (hchk : chkOp P T ao o.op = true) (hev : evOp P cf fl ao tm c.H = some (v, H')) : OpOK P (ftOf T) c fl o a v H' := by
 generalize hop : o.op = op at hchk
 cases ao with
 | mov x =>
  simp only [evOp, Option.some.injEq, Prod.mk.injEq] at hev
  obtain ⟨rfl, rfl⟩ := hev
  simp only [chkOp] at hchk
  split at hchk
  ·exact op_mov hs htr (.inl hop) hchk
  ·exact op_mov hs htr (.inr hop) hchk
  ·cases hchk
 | movN x =>
  simp only [evOp, Option.some.injEq, Prod.mk.injEq] at hev
  obtain ⟨rfl, rfl⟩ := hev
  simp only [chkOp] at hchk
  split at hchk
  ·exact op_movN hs htr (.inl hop) hchk
  ·exact op_movN hs htr (.inr hop) hchk
  ·cases hchk
 | rangeStr x =>
  simp only [chkOp] at hchk
  split at hchk
  ·rename_i t y
   simp only [Bool.and_eq_true] at hchk
   simp only [evOp] at hev
   split at hev
   ·rename_i s hx
    cases hev
    exact op_rangeStr hs htr hfl hop hchk.1 (by
     have := hchk.2
     split at this
     ·assumption
     ·cases this) hx
   ·cases hev
  ·cases hchk
 | nextStr x =>
  simp only [chkOp] at hchk
  split at hchk
  ·rename_i y b
   simp only [Bool.and_eq_true] at hchk
   obtain ⟨hy, rfl⟩ := hchk
   simp only [evOp] at hev
   split at hev
   ·rename_i id hx
    split at hev
    ·rename_i hle
     split at hev
     ·rename_i s pos hob
      split at hev
      ·rename_i hp
       cases hev
       exact op_nextStr hs htr hop hy hx hle hob hp
      ·rename_i hp
       cases hev
       exact op_overStr hs htr hop hy hx hob hp
     ·cases hev
    ·cases hev
   ·cases hev
  ·cases hchk
 | freeze x =>
  simp only [chkOp] at hchk
  have hmv : ∃ y, (o.op = .move y ∨ o.op = .assign y) ∧ chkOpd T x y = true := by
   split at hchk
   ·exact ⟨_, .inl hop, hchk⟩
   ·exact ⟨_, .inr hop, hchk⟩
   ·cases hchk
  obtain ⟨y, ho, hy⟩ := hmv
  simp only [evOp] at hev
  split at hev
  ·rename_i id tot off len hx
   split at hev
   ·rename_i hle
    split at hev
    ·rename_i s es hob
     split at hev
     ·rename_i htot
      cases hev
      exact op_freeze hs htr ho hy hx hle hob htot
     ·cases hev
    ·cases hev
   ·cases hev
  ·cases hev
   exact op_mov hs htr ho hy
 | pick x y z =>
  simp only [chkOp] at hchk
  split at hchk
  ·simp only [Bool.and_eq_true] at hchk
   simp only [evOp] at hev
   split at hev
   ·rename_i t ht
    simp only [Option.some.injEq, Prod.mk.injEq] at hev
    obtain ⟨rfl, rfl⟩ := hev
    exact op_pick hs htr hop hchk.1.1 hchk.1.2 hchk.2 ht
   ·cases hev
  ·cases hchk
 | alloc z =>
  simp only [evOp, Option.some.injEq, Prod.mk.injEq] at hev
  obtain ⟨rfl, rfl⟩ := hev
  simp only [chkOp] at hchk
  split at hchk
  ·exact op_alloc hs hfl hop hchk
  ·cases hchk
 | claim s =>
  simp only [evOp, Option.some.injEq, Prod.mk.injEq] at hev
  obtain ⟨rfl, rfl⟩ := hev
  simp only [chkOp] at hchk
  split at hchk
  ·exact op_claim hs hfl (.inl hop)
  ·exact op_claim hs hfl (.inr hop)
  ·cases hchk
 | allocC z cl =>
  simp only [evOp, Option.some.injEq, Prod.mk.injEq] at hev
  obtain ⟨rfl, rfl⟩ := hev
  simp only [chkOp] at hchk
  split at hchk
  ·simp only [Bool.and_eq_true] at hchk
   refine op_allocC hs hfl hop hchk.1 fun x hx => ?_
   have := List.all_eq_true.1 hchk.2 x hx
   split at this
   ·rename_i h; exact h
   ·cases this
  ·cases hchk
 | box x =>
  simp only [chkOp] at hchk
  split at hchk
  ·simp only [evOp] at hev
   split at hev
   ·rename_i cs hcs
    simp only [Option.some.injEq, Prod.mk.injEq] at hev
    obtain ⟨rfl, rfl⟩ := hev
    exact op_box hs htr hfl hop hchk hcs
   ·cases hev
  ·cases hchk
 | build z ps =>
  have hchk0 := hchk
  simp only [chkOp] at hchk
  split at hchk
  ·simp only [Bool.and_eq_true] at hchk
   simp only [evOp] at hev
   split at hev
   ·rename_i cs hcs
    simp only [Option.some.injEq, Prod.mk.injEq] at hev
    obtain ⟨rfl, rfl⟩ := hev
    exact op_build hs htr hop hchk.1 hchk0 hcs
   ·cases hev
  ·cases hchk
 | buildSl pu s n z ps =>
  simp only [chkOp] at hchk
  split at hchk
  ·rename_i t m qs
   simp only [Bool.and_eq_true, beq_iff_eq] at hchk
   obtain ⟨rfl, hchk⟩ := hchk
   split at hchk
   ·rename_i e hu
    simp only [Bool.and_eq_true, beq_iff_eq, decide_eq_true_eq] at hchk
    obtain ⟨⟨⟨⟨⟨h1, h2⟩, h3⟩, h4⟩, h5⟩, h6⟩ := hchk
    simp only [evOp] at hev
    split at hev
    ·rename_i es hes
     have key := op_buildSl (pu := pu) hs htr hfl hop hu h1 h2 h3 h4 h5 h6 hes
     cases pu with
     | true =>
      simp only [if_true, Option.some.injEq, Prod.mk.injEq] at hev
      obtain ⟨rfl, rfl⟩ := hev
      simpa using key
     | false =>
      simp only [Bool.false_eq_true, if_false, Option.some.injEq, Prod.mk.injEq] at hev
      obtain ⟨rfl, rfl⟩ := hev
      simpa using key
    ·cases hev
   ·cases hchk
  ·cases hchk
 | load agg n x =>
  simp only [chkOp] at hchk
  split at hchk
  ·simp only [Bool.and_eq_true] at hchk
   obtain ⟨⟨⟨h1, h2⟩, h3⟩, h4⟩ := hchk
   simp only [evOp] at hev
   split at hev
   ·rename_i cs hcs
    cases agg with
    | true =>
     simp only [if_true, Option.some.injEq, Prod.mk.injEq] at hev
     obtain ⟨rfl, rfl⟩ := hev
     exact op_load hs htr hop h4 h1 h2 hcs (by simp)
    | false =>
     simp only [Bool.false_eq_true, if_false] at hev
     split at hev
     ·simp only [Option.some.injEq, Prod.mk.injEq] at hev
      obtain ⟨rfl, rfl⟩ := hev
      exact op_load hs htr hop h4 h1 h2 hcs (by simp)
     ·cases hev
   ·cases hev
  ·cases hchk
 | store n x u =>
  simp only [chkOp] at hchk
  split at hchk
  ·simp only [Bool.and_eq_true] at hchk
   obtain ⟨⟨h1, h2⟩, h3⟩ := hchk
   simp only [evOp] at hev
   split at hev
   ·rename_i cs hcs
    split at hev
    ·rename_i hn
     split at hev
     ·rename_i H1 hst
      simp only [Option.some.injEq, Prod.mk.injEq] at hev
      obtain ⟨rfl, rfl⟩ := hev
      exact op_store hs htr hop h2 h3 h1 hcs hn hst
     ·cases hev
    ·cases hev
   ·cases hev
  ·cases hchk
 | nilCheck x =>
  simp only [chkOp] at hchk
  split at hchk
  ·simp only [evOp] at hev
   split at hev
   ·rename_i id tot idx off hx
    simp only [Option.some.injEq, Prod.mk.injEq] at hev
    obtain ⟨rfl, rfl⟩ := hev
    exact op_nilCheck hs htr hop hchk (.inl ⟨_, _, _, _, hx⟩)
   ·rename_i cs hx
    simp only [Option.some.injEq, Prod.mk.injEq] at hev
    obtain ⟨rfl, rfl⟩ := hev
    exact op_nilCheck hs htr hop hchk (.inr (.inl ⟨_, hx⟩))
   ·rename_i vi caps hx
    simp only [Option.some.injEq, Prod.mk.injEq] at hev
    obtain ⟨rfl, rfl⟩ := hev
    exact op_nilCheck hs htr hop hchk (.inr (.inr ⟨_, _, hx⟩))
   ·cases hev
  ·cases hchk
 | ibin op x y =>
  simp only [chkOp] at hchk
  split at hchk
  ·simp only [Bool.and_eq_true, decide_eq_true_eq] at hchk
   obtain ⟨⟨rfl, h1⟩, h2⟩ := hchk
   simp only [evOp] at hev
   split at hev
   ·rename_i k n k' m e1 e2
    split at hev
    ·rename_i hk
     subst hk
     split at hev
     ·rename_i r hr
      simp only [Option.some.injEq, Prod.mk.injEq] at hev
      obtain ⟨rfl, rfl⟩ := hev
      exact op_ibin hs htr hop h1 h2 e1 e2 hr
     ·cases hev
    ·cases hev
   ·cases hev
  ·cases hchk
 | bin op t x y =>
  simp only [chkOp] at hchk
  split at hchk
  ·simp only [Bool.and_eq_true, decide_eq_true_eq, beq_iff_eq] at hchk
   obtain ⟨⟨⟨rfl, rfl⟩, h1⟩, h2⟩ := hchk
   simp only [evOp] at hev
   split at hev
   ·rename_i v1 v2 e1 e2
    split at hev
    ·rename_i g hg
     split at hev
     ·rename_i r hr
      simp only [Option.some.injEq, Prod.mk.injEq] at hev
      obtain ⟨rfl, rfl⟩ := hev
      split at hg
      ·rename_i hn
       exact op_bin hs htr hop h1 h2 e1 e2 hn hg hr
      ·cases hg
     ·cases hev
    ·cases hev
   ·cases hev
  ·cases hchk
 | un op x =>
  simp only [chkOp] at hchk
  split at hchk
  ·simp only [Bool.and_eq_true, decide_eq_true_eq] at hchk
   obtain ⟨rfl, h1⟩ := hchk
   simp only [evOp] at hev
   split at hev
   ·rename_i v1 e1
    split at hev
    ·rename_i r hr
     simp only [Option.some.injEq, Prod.mk.injEq] at hev
     obtain ⟨rfl, rfl⟩ := hev
     exact op_un hs htr hop h1 e1 hr
    ·cases hev
   ·cases hev
  ·cases hchk
 | conv s d x =>
  simp only [chkOp] at hchk
  split at hchk
  ·simp only [Bool.and_eq_true, beq_iff_eq] at hchk
   obtain ⟨⟨rfl, rfl⟩, h1⟩ := hchk
   simp only [evOp] at hev
   split at hev
   ·rename_i v1 e1
    split at hev
    ·rename_i r hr
     simp only [Option.some.injEq, Prod.mk.injEq] at hev
     obtain ⟨rfl, rfl⟩ := hev
     exact op_conv hs htr hop h1 e1 hr
    ·cases hev
   ·rename_i f es e1
    split at hev
    ·rename_i hb
     split at hev
     ·rename_i ns hns
      simp only [Option.some.injEq, Prod.mk.injEq] at hev
      obtain ⟨rfl, rfl⟩ := hev
      exact op_convB hs htr hop h1 e1 hb hns
     ·cases hev
    ·cases hev
   ·cases hev
  ·cases hchk
 | fieldAddr off x =>
  simp only [chkOp] at hchk
  split at hchk
  ·simp only [Bool.and_eq_true] at hchk
   obtain ⟨h1, hchk⟩ := hchk
   split at hchk
   ·rename_i fs hu
    split at hchk
    ·rename_i fd hf
     simp only [Bool.and_eq_true, beq_iff_eq] at hchk
     obtain ⟨hof, hchk⟩ := hchk
     split at hchk
     ·rename_i i hi
      have hsz : i.size ≠ 0 := by simpa using hchk
      simp only [evOp] at hev
      split at hev
      ·rename_i id tot idx k hx
       simp only [Option.some.injEq, Prod.mk.injEq] at hev
       obtain ⟨rfl, rfl⟩ := hev
       exact op_fieldAddr hs htr hop h1 hu hf hof hi hsz (.inl ⟨_, _, _, _, hx, rfl⟩)
      ·rename_i cs hx
       simp only [Option.some.injEq, Prod.mk.injEq] at hev
       obtain ⟨rfl, rfl⟩ := hev
       exact op_fieldAddr hs htr hop h1 hu hf hof hi hsz (.inr ⟨_, hx, rfl⟩)
      ·cases hev
     ·cases hchk
    ·cases hchk
   ·cases hchk
  ·cases hchk
 | field agg n off x =>
  simp only [chkOp] at hchk
  split at hchk
  ·simp only [Bool.and_eq_true] at hchk
   obtain ⟨h1, hchk⟩ := hchk
   split at hchk
   ·rename_i fs hu
    split at hchk
    ·rename_i fd hf
     simp only [Bool.and_eq_true, beq_iff_eq] at hchk
     obtain ⟨⟨⟨hof, h2⟩, h3⟩, h4⟩ := hchk
     have h4' : agg = true ∨ n = 1 := by simpa using h4
     simp only [evOp] at hev
     split at hev
     ·rename_i cs hx
      split at hev
      ·rename_i hle
       cases agg with
       | true =>
        simp only [if_true, Option.some.injEq, Prod.mk.injEq] at hev
        obtain ⟨rfl, rfl⟩ := hev
        exact op_field hs htr hop h1 hu hf hof h2 h3 h4' hx hle (by simp)
       | false =>
        simp only [Bool.false_eq_true, if_false] at hev
        split at hev
        ·rename_i c0 hc0
         simp only [Option.some.injEq, Prod.mk.injEq] at hev
         obtain ⟨rfl, rfl⟩ := hev
         exact op_field hs htr hop h1 hu hf hof h2 h3 h4' hx hle (by simpa using hc0)
        ·cases hev
      ·cases hev
     ·cases hev
    ·cases hchk
   ·cases hchk
  ·cases hchk
 | idxAddr s x i =>
  simp only [chkOp] at hchk
  split at hchk
  ·simp only [Bool.and_eq_true] at hchk
   obtain ⟨⟨h1, h2⟩, hchk⟩ := hchk
   split at hchk
   ·rename_i e hu
    simp only [evOp] at hev
    split at hev
    ·rename_i n hn
     split at hev
     ·rename_i f es hx
      split at hev
      ·rename_i cs hcs
       split at hev
       ·rename_i hl
        simp only [Option.some.injEq, Prod.mk.injEq] at hev
        obtain ⟨rfl, rfl⟩ := hev
        exact op_idxAddr hs htr hop h1 h2 hu hchk hn (.inl ⟨_, _, _, hx, hcs, hl, rfl⟩)
       ·cases hev
      ·cases hev
     ·rename_i id tot off len hx
      split at hev
      ·rename_i s' es hob
       split at hev
       ·rename_i hc
        obtain ⟨rfl, hc1, hc2⟩ := hc
        simp only [Option.some.injEq, Prod.mk.injEq] at hev
        obtain ⟨rfl, rfl⟩ := hev
        exact op_idxAddr hs htr hop h1 h2 hu hchk hn (.inr ⟨_, _, _, _, _, hx, hob, hc1, hc2, rfl⟩)
       ·cases hev
      ·cases hev
     ·cases hev
    ·cases hev
   ·cases hchk
  ·cases hchk
 | idxArr s n x i =>
  simp only [chkOp] at hchk
  split at hchk
  ·simp only [Bool.and_eq_true] at hchk
   obtain ⟨⟨h1, h2⟩, hchk⟩ := hchk
   split at hchk
   ·rename_i m e hu
    simp only [Bool.and_eq_true, beq_iff_eq] at hchk
    obtain ⟨rfl, h3⟩ := hchk
    simp only [evOp] at hev
    split at hev
    ·rename_i k hn
     split at hev
     ·rename_i hlt
      split at hev
      ·rename_i id tot idx off hx
       simp only [Option.some.injEq, Prod.mk.injEq] at hev
       obtain ⟨rfl, rfl⟩ := hev
       exact op_idxArr hs htr hop h1 h2 hu h3 hn hlt (.inl ⟨_, _, _, _, hx, rfl⟩)
      ·rename_i cs hx
       simp only [Option.some.injEq, Prod.mk.injEq] at hev
       obtain ⟨rfl, rfl⟩ := hev
       exact op_idxArr hs htr hop h1 h2 hu h3 hn hlt (.inr ⟨_, hx, rfl⟩)
      ·cases hev
     ·cases hev
    ·cases hev
   ·cases hchk
  ·cases hchk
 | index agg s n x i =>
  simp only [chkOp] at hchk
  split at hchk
  ·simp only [Bool.and_eq_true] at hchk
   obtain ⟨⟨h1, h2⟩, hchk⟩ := hchk
   split at hchk
   ·rename_i m e hu
    simp only [Bool.and_eq_true, beq_iff_eq] at hchk
    obtain ⟨⟨⟨rfl, h3⟩, h4⟩, h5⟩ := hchk
    have h5' : agg = true ∨ s = 1 := by simpa using h5
    simp only [evOp] at hev
    split at hev
    ·rename_i k hn
     split at hev
     ·rename_i hlt
      split at hev
      ·rename_i cs hx
       split at hev
       ·rename_i hle
        cases agg with
        | true =>
         simp only [if_true, Option.some.injEq, Prod.mk.injEq] at hev
         obtain ⟨rfl, rfl⟩ := hev
         exact op_index hs htr hop h1 h2 hu h3 h4 h5' hn hlt hx hle (by simp)
        | false =>
         simp only [Bool.false_eq_true, if_false] at hev
         split at hev
         ·rename_i c0 hc0
          simp only [Option.some.injEq, Prod.mk.injEq] at hev
          obtain ⟨rfl, rfl⟩ := hev
          exact op_index hs htr hop h1 h2 hu h3 h4 h5' hn hlt hx hle (by simpa using hc0)
         ·cases hev
       ·cases hev
      ·cases hev
     ·cases hev
    ·cases hev
   ·cases hchk
  ·cases hchk
 | strIdx t x i =>
  simp only [chkOp] at hchk
  split at hchk
  ·simp only [Bool.and_eq_true, beq_iff_eq] at hchk
   obtain ⟨⟨rfl, h1⟩, h2⟩ := hchk
   simp only [evOp] at hev
   split at hev
   ·rename_i v1 v2 e1 e2
    split at hev
    ·rename_i r hr
     simp only [Option.some.injEq, Prod.mk.injEq] at hev
     obtain ⟨rfl, rfl⟩ := hev
     exact op_strIdx hs htr hop h1 h2 e1 e2 hr
    ·cases hev
   ·cases hev
  ·cases hchk
 | slice s x lo hi mx =>
  simp only [chkOp] at hchk
  split at hchk
  ·simp only [Bool.and_eq_true] at hchk
   obtain ⟨⟨⟨⟨h1, h2⟩, h3⟩, h4⟩, hchk⟩ := hchk
   split at hchk
   ·rename_i e hu
    simp only [evOp] at hev
    split at hev
    ·rename_i nlo nhi nmx n1 n2 n3
     split at hev
     ·rename_i r hr
      simp only [Option.some.injEq, Prod.mk.injEq] at hev
      obtain ⟨rfl, rfl⟩ := hev
      exact op_slice hs htr hop h1 h2 h3 h4 hu hchk n1 n2 n3 hr
     ·cases hev
    ·cases hev
   ·cases hchk
  ·cases hchk
 | strSlice t x lo hi =>
  simp only [chkOp] at hchk
  split at hchk
  ·simp only [Bool.and_eq_true, beq_iff_eq] at hchk
   obtain ⟨⟨⟨⟨rfl, h1⟩, h2⟩, h3⟩, hchk⟩ := hchk
   split at hchk
   ·rename_i hu
    simp only [evOp] at hev
    split at hev
    ·rename_i s nlo nhi e1 n1 n2
     split at hev
     ·rename_i hc
      simp only [Option.some.injEq, Prod.mk.injEq] at hev
      obtain ⟨rfl, rfl⟩ := hev
      exact op_strSlice hs htr hop h1 h2 h3 hu n1 n2 e1 hc
     ·cases hev
    ·cases hev
   ·cases hchk
  ·cases hchk
 | mkSlice s z bytes l k =>
  simp only [chkOp] at hchk
  split at hchk
  ·simp only [Bool.and_eq_true] at hchk
   obtain ⟨⟨h1, h2⟩, hchk⟩ := hchk
   split at hchk
   ·rename_i e hu
    simp only [Bool.and_eq_true, decide_eq_true_eq] at hchk
    obtain ⟨⟨⟨h3, h4⟩, h5⟩, h6⟩ := hchk
    simp only [evOp] at hev
    split at hev
    ·rename_i nl nk e1 e2
     split at hev
     ·rename_i hc
      simp only [Option.some.injEq, Prod.mk.injEq] at hev
      obtain ⟨rfl, rfl⟩ := hev
      exact op_mkSlice hs htr hfl hop h1 h2 hu h3 h4 h5 h6 e1 e2 hc.1 hc.2.1 hc.2.2.1 hc.2.2.2
     ·cases hev
    ·cases hev
   ·cases hchk
  ·cases hchk
 | mkMap =>
  simp only [evOp, Option.some.injEq, Prod.mk.injEq] at hev
  obtain ⟨rfl, rfl⟩ := hev
  simp only [chkOp] at hchk
  split at hchk
  ·exact op_mkMap hs hfl hop
  ·cases hchk
 | lookup kt z m k ok =>
  simp only [chkOp] at hchk
  split at hchk
  ·simp only [Bool.and_eq_true, beq_iff_eq] at hchk
   obtain ⟨⟨⟨rfl, h1⟩, h2⟩, hchk⟩ := hchk
   split at hchk
   ·rename_i kt' e hu
    simp only [Bool.and_eq_true, beq_iff_eq] at hchk
    obtain ⟨rfl, hchk⟩ := hchk
    split at hchk
    ·rename_i i hi
     have hz : ∃ zv, i.zero = some zv ∧ RV (ftOf T) c (getOpd tm z) zv := by
      split at hchk
      ·rename_i u v hz
       exact ⟨u, hz, by rw [← veq_eq hchk]; exact RV.lit _⟩
      ·rename_i us vs hz
       refine ⟨.agg us, hz, ?_⟩
       have : us = vs.toArray := by rw [veqL_eq hchk]
       rw [this]
       exact rv_agg_lits vs (veqL_scalar hchk)
      ·cases hchk
     obtain ⟨zv, hz1, hz2⟩ := hz
     simp only [evOp] at hev
     split at hev
     ·rename_i kv hk
      have fin : ∀ ents : List (Value × AV), ((getOpd tm m = .lit (.map none) ∧ ents = []) ∨ ∃ id, getOpd tm m = .mp id ∧ c.H[id]? = some (.mp ents)) →
        (match pureRun P (Instr.checkKey ents.isEmpty 10000 kt kv), findA P kt kv ents with
         | some _, some (some i) => match ents[i]? with
          | some e => some (if ok then AV.tup [e.2, .lit (.bool true)] else e.2, c.H)
          | none => none
         | some _, some none => some (if ok then AV.tup [getOpd tm z, .lit (.bool false)] else getOpd tm z, c.H)
         | _, _ => none) = some (v, H') → OpOK P (ftOf T) c fl o a v H' := by
       intro ents hm hr
       split at hr
       ·rename_i u i0 hck hf
        split at hr
        ·rename_i en hen
         simp only [Option.some.injEq, Prod.mk.injEq] at hr
         obtain ⟨rfl, rfl⟩ := hr
         exact op_lookup hs htr hop h1 h2 hu hi hz1 hz2 hk hck hm (.inl ⟨_, _, hf, hen, rfl, rfl⟩)
        ·cases hr
       ·rename_i u hck hf
        simp only [Option.some.injEq, Prod.mk.injEq] at hr
        obtain ⟨rfl, rfl⟩ := hr
        exact op_lookup hs htr hop h1 h2 hu hi hz1 hz2 hk hck hm (.inr ⟨hf, rfl, rfl⟩)
       ·cases hr
      split at hev
      ·rename_i hm
       exact fin [] (.inl ⟨hm, rfl⟩) hev
      ·rename_i id hm
       split at hev
       ·rename_i ents hob
        exact fin ents (.inr ⟨id, hm, hob⟩) hev
       ·cases hev
      ·cases hev
     ·cases hev
    ·cases hchk
   ·cases hchk
  ·cases hchk
 | mapUpd kt m k x =>
  have fin : ∀ (t : TypeId) (m' k' x' : Operand) (e : TypeId), (o.op = .mapUpdate t m' k' x' ∨ o.op = .insert t m' k' x') → chkOpd T m m' = true → chkOpd T k k' = true → chkOpd T x x' = true →
    P.underlying t = some (.map kt e) → OpOK P (ftOf T) c fl o a v H' := by
   intro t m' k' x' e ho h1 h2 h3 hu
   simp only [evOp] at hev
   split at hev
   ·rename_i kv id hk hm
    split at hev
    ·rename_i hflid
     split at hev
     ·rename_i ents hob
      split at hev
      ·rename_i u i0 hck hf
       split at hev
       ·rename_i en hen
        split at hev
        ·rename_i hsb
         simp only [Option.some.injEq, Prod.mk.injEq] at hev
         obtain ⟨rfl, rfl⟩ := hev
         exact op_mapUpd hs htr ho h1 h2 h3 hu hk hck hflid hm hob (.inl ⟨_, _, hf, hen, hsb, rfl⟩)
        ·cases hev
       ·cases hev
      ·rename_i u hck hf
       simp only [Option.some.injEq, Prod.mk.injEq] at hev
       obtain ⟨rfl, rfl⟩ := hev
       exact op_mapUpd hs htr ho h1 h2 h3 hu hk hck hflid hm hob (.inr ⟨hf, rfl⟩)
      ·cases hev
     ·cases hev
    ·cases hev
   ·cases hev
  simp only [chkOp] at hchk
  split at hchk
  ·simp only [Bool.and_eq_true] at hchk
   obtain ⟨⟨⟨h1, h2⟩, h3⟩, hchk⟩ := hchk
   split at hchk
   ·rename_i kt' e hu
    have : kt = kt' := by simpa using hchk
    subst this
    exact fin _ _ _ _ e (.inl hop) h1 h2 h3 hu
   ·cases hchk
  ·simp only [Bool.and_eq_true] at hchk
   obtain ⟨⟨⟨h1, h2⟩, h3⟩, hchk⟩ := hchk
   split at hchk
   ·rename_i kt' e hu
    have : kt = kt' := by simpa using hchk
    subst this
    exact fin _ _ _ _ e (.inr hop) h1 h2 h3 hu
   ·cases hchk
  ·cases hchk
 | lenS x =>
  simp only [chkOp] at hchk
  split at hchk
  ·rename_i as ts
   split at hchk
   ·rename_i y t ha ht
    simp only [Bool.and_eq_true] at hchk
    obtain ⟨h1, hchk⟩ := hchk
    split at hchk
    ·rename_i e hu
     rw [one_list ha, one_list ht] at hop
     simp only [evOp] at hev
     split at hev
     ·rename_i hx
      simp only [Option.some.injEq, Prod.mk.injEq] at hev
      obtain ⟨rfl, rfl⟩ := hev
      exact op_lenS (n := 0) hs htr hop h1 hu (.inl ⟨hx, rfl⟩)
     ·rename_i f es hx
      simp only [Option.some.injEq, Prod.mk.injEq] at hev
      obtain ⟨rfl, rfl⟩ := hev
      exact op_lenS hs htr hop h1 hu (.inr (.inl ⟨_, _, hx, rfl⟩))
     ·rename_i id tot off len hx
      simp only [Option.some.injEq, Prod.mk.injEq] at hev
      obtain ⟨rfl, rfl⟩ := hev
      exact op_lenS hs htr hop h1 hu (.inr (.inr ⟨_, _, _, hx⟩))
     ·cases hev
    ·cases hchk
   ·cases hchk
  ·cases hchk
 | lenM x =>
  simp only [chkOp] at hchk
  split at hchk
  ·rename_i as ts
   split at hchk
   ·rename_i y t ha ht
    simp only [Bool.and_eq_true] at hchk
    obtain ⟨h1, hchk⟩ := hchk
    split at hchk
    ·rename_i k e hu
     rw [one_list ha, one_list ht] at hop
     simp only [evOp] at hev
     split at hev
     ·rename_i hx
      simp only [Option.some.injEq, Prod.mk.injEq] at hev
      obtain ⟨rfl, rfl⟩ := hev
      exact op_lenM (n := 0) hs htr hop h1 hu (.inl ⟨hx, rfl⟩)
     ·rename_i id hx
      split at hev
      ·rename_i ents hob
       simp only [Option.some.injEq, Prod.mk.injEq] at hev
       obtain ⟨rfl, rfl⟩ := hev
       exact op_lenM hs htr hop h1 hu (.inr ⟨_, _, hx, hob, rfl⟩)
      ·cases hev
     ·cases hev
    ·cases hchk
   ·cases hchk
  ·cases hchk
 | lenStr t x =>
  simp only [chkOp] at hchk
  split at hchk
  ·rename_i as ts
   split at hchk
   ·rename_i y t' ha ht
    simp only [Bool.and_eq_true, beq_iff_eq] at hchk
    obtain ⟨rfl, h1⟩ := hchk
    rw [one_list ha, one_list ht] at hop
    simp only [evOp] at hev
    split at hev
    ·rename_i v1 hx
     split at hev
     ·rename_i r hr
      simp only [Option.some.injEq, Prod.mk.injEq] at hev
      obtain ⟨rfl, rfl⟩ := hev
      exact op_lenStr hs htr hop h1 hx hr
     ·cases hev
    ·cases hev
   ·cases hchk
  ·cases hchk
 | lenC n =>
  simp only [evOp, Option.some.injEq, Prod.mk.injEq] at hev
  obtain ⟨rfl, rfl⟩ := hev
  simp only [chkOp] at hchk
  split at hchk
  ·rename_i as ts
   split at hchk
   ·rename_i y t ha ht
    split at hchk
    ·rename_i m e hu
     have : m = n := by simpa using hchk
     subst this
     rw [one_list ha, one_list ht] at hop
     exact op_lenC hs hop hu
    ·cases hchk
   ·cases hchk
  ·cases hchk
 | append s bytes x y =>
  simp only [chkOp] at hchk
  split at hchk
  ·rename_i as ts
   split at hchk
   ·rename_i x' y' t t' ha ht
    simp only [Bool.and_eq_true] at hchk
    obtain ⟨⟨⟨h1, h2⟩, h3⟩, hchk⟩ := hchk
    split at h3
    ·rename_i e' hu'
     split at hchk
     ·rename_i e hu
      simp only [Bool.and_eq_true] at hchk
      obtain ⟨⟨h4, h5⟩, hchk⟩ := hchk
      split at hchk
      ·rename_i i hi
       split at hchk
       ·rename_i z hz
        have hzs : z.cells.size = s := by simpa using hchk
        have hsz : i.size = s := by simpa [sizeIs, hi] using h4
        have hby : i.bytes = bytes := by simpa [bytesIs, hi] using h5
        rw [two_list ha, two_list ht] at hop
        simp only [evOp] at hev
        split at hev
        ·rename_i ys hys
         exact op_append hs htr hfl hop h1 h2 hu hu' hi hsz hby hz hzs hys hev
        ·cases hev
       ·cases hchk
      ·cases hchk
     ·cases hchk
    ·cases h3
   ·cases hchk
  ·cases hchk
 | appendZ s bytes z x y =>
  simp only [chkOp] at hchk
  split at hchk
  ·rename_i as ts
   split at hchk
   ·rename_i x' y' t t' ha ht
    simp only [Bool.and_eq_true] at hchk
    obtain ⟨⟨⟨h1, h2⟩, h3⟩, hchk⟩ := hchk
    split at h3
    ·rename_i k hu'
     split at hchk
     ·rename_i e hu
      simp only [Bool.and_eq_true] at hchk
      obtain ⟨⟨h4, h5⟩, h6⟩ := hchk
      rw [two_list ha, two_list ht] at hop
      simp only [evOp] at hev
      split at hev
      ·rename_i n hn
       split at hev
       ·rename_i hc
        exact op_appendZ hs htr hfl hop h1 h2 hu hu' h4 h5 h6 hc.1 hn hc.2.1 hc.2.2 hev
       ·cases hev
      ·cases hev
     ·cases hchk
    ·cases h3
   ·cases hchk
  ·cases hchk
 | copy s x y =>
  simp only [chkOp] at hchk
  split at hchk
  ·rename_i as ts
   split at hchk
   ·rename_i x' y' t t' ha ht
    simp only [Bool.and_eq_true] at hchk
    obtain ⟨⟨h1, h2⟩, hchk⟩ := hchk
    split at hchk
    ·rename_i e hu
     obtain ⟨i, hi, hsz⟩ := sizeIs_spec hchk
     rw [two_list ha, two_list ht] at hop
     simp only [evOp] at hev
     split at hev
     ·rename_i ys hrd
      split at hev
      ·rename_i hal
       split at hev
       ·rename_i id tot off len hx
        split at hev
        ·rename_i s' es hob
         split at hev
         ·rename_i hc
          obtain ⟨rfl, c2, c3, c4⟩ := hc
          exact op_copy hs htr hop h1 h2 hu hi hsz hrd hal.1 hal.2 hx hob c2 c3 c4 hev
         ·cases hev
        ·cases hev
       ·cases hev
      ·cases hev
     ·cases hev
    ·cases hchk
   ·cases hchk
  ·cases hchk
 | delete kt m k =>
  simp only [chkOp] at hchk
  split at hchk
  ·rename_i as ts
   split at hchk
   ·rename_i m' k' t ts' ha ht
    simp only [Bool.and_eq_true] at hchk
    obtain ⟨⟨h1, h2⟩, hchk⟩ := hchk
    split at hchk
    ·rename_i kt' e hu
     have : kt = kt' := by simpa using hchk
     subst this
     have ht0 : ts[0]? = some t := by rw [← Array.getElem?_toList, ht]; rfl
     rw [two_list ha] at hop
     simp only [evOp] at hev
     split at hev
     ·rename_i kv id hk hm
      split at hev
      ·rename_i hflid
       split at hev
       ·rename_i ents hob
        split at hev
        ·rename_i u i0 hck hf
         simp only [Option.some.injEq, Prod.mk.injEq] at hev
         obtain ⟨rfl, rfl⟩ := hev
         exact op_delete hs htr hop ht0 h1 h2 hu hk hck hflid hm hob (.inl ⟨_, hf, rfl⟩)
        ·rename_i u hck hf
         simp only [Option.some.injEq, Prod.mk.injEq] at hev
         obtain ⟨rfl, rfl⟩ := hev
         have key := op_delete hs htr hop ht0 h1 h2 hu hk hck hflid hm hob (.inr ⟨hf, rfl⟩)
         have e0 : c.H.set id (.mp ents) = c.H := by
          apply List.ext_getElem?
          intro j
          by_cases hj : j = id
          ·subst hj; rw [getElem?_set_eq' hob, hob]
          ·rw [getElem?_set_ne' hj]
         rw [e0] at key
         exact key
        ·cases hev
       ·cases hev
      ·cases hev
     ·cases hev
    ·cases hchk
   ·cases hchk
  ·cases hchk
 | minmax mx xs =>
  simp only [evOp] at hev
  split at hev
  ·rename_i vs hvs
   split at hev
   ·rename_i r hr
    simp only [Option.some.injEq, Prod.mk.injEq] at hev
    obtain ⟨rfl, rfl⟩ := hev
    simp only [chkOp] at hchk
    split at hchk
    ·simp only [Bool.and_eq_true] at hchk
     obtain ⟨rfl, h1⟩ := hchk
     exact op_minmax hs htr hop (.inl rfl) h1 hvs (by simpa using hr)
    ·simp only [Bool.and_eq_true, Bool.not_eq_true'] at hchk
     obtain ⟨rfl, h1⟩ := hchk
     exact op_minmax hs htr hop (.inr rfl) h1 hvs (by simpa using hr)
    ·cases hchk
   ·cases hev
  ·cases hev
 | mkFn vi caps =>
  simp only [evOp, Option.some.injEq, Prod.mk.injEq] at hev
  obtain ⟨rfl, rfl⟩ := hev
  simp only [chkOp] at hchk
  split at hchk
  ·rename_i f first cs
   simp only [Bool.and_eq_true, beq_iff_eq] at hchk
   obtain ⟨⟨h1, h2⟩, h3⟩ := hchk
   have : first = #[] := by simpa using h1
   subst this
   exact op_mkFn hs htr hop h2 h3
  ·cases hchk
 | call pu vi args =>
  simp only [chkOp] at hchk
  split at hchk
  ·simp only [Bool.and_eq_true, beq_iff_eq] at hchk
   simp only [evOp] at hev
   exact op_call hcf hfn hs htr hfl hop hchk.1 hchk.2 hev
  ·cases hchk
 | callS vi args =>
  simp only [chkOp] at hchk
  split at hchk
  ·simp only [Bool.and_eq_true, beq_iff_eq] at hchk
   simp only [evOp] at hev
   split at hev
   ·rename_i r H1 he
    split at hev
    ·rename_i hr
     cases hev
     exact op_callS hcf hfn hs htr hop hchk.1 hchk.2 he hr
    ·cases hev
   ·cases hev
  ·cases hchk
 | callF vi args =>
  simp only [chkOp] at hchk
  split at hchk
  ·simp only [Bool.and_eq_true, beq_iff_eq] at hchk
   simp only [evOp] at hev
   exact op_callF hcf hfn hs htr hfl hop hchk.1 hchk.2 hev
  ·cases hchk
 | capS x =>
  simp only [chkOp] at hchk
  split at hchk
  ·rename_i as ts
   split at hchk
   ·rename_i y t ha ht
    simp only [Bool.and_eq_true] at hchk
    obtain ⟨h1, hchk⟩ := hchk
    split at hchk
    ·rename_i e hu
     rw [one_list ha, one_list ht] at hop
     simp only [evOp] at hev
     split at hev
     ·rename_i hx
      simp only [Option.some.injEq, Prod.mk.injEq] at hev
      obtain ⟨rfl, rfl⟩ := hev
      exact op_capS (n := 0) hs htr hop h1 hu (.inl ⟨hx, rfl⟩)
     ·rename_i es hx
      simp only [Option.some.injEq, Prod.mk.injEq] at hev
      obtain ⟨rfl, rfl⟩ := hev
      exact op_capS hs htr hop h1 hu (.inr ⟨_, hx, rfl⟩)
     ·cases hev
    ·cases hchk
   ·cases hchk
  ·cases hchk
 | callv pu x args =>
  simp only [chkOp] at hchk
  split at hchk
  ·simp only [Bool.and_eq_true] at hchk
   simp only [evOp] at hev
   split at hev
   ·rename_i vi caps hx
    exact op_callv hcf hfn hs htr hfl hop hchk.1 hx hchk.2 hev
   ·cases hev
  ·cases hchk
 | extract x i =>
  simp only [chkOp] at hchk
  split at hchk
  ·simp only [Bool.and_eq_true, beq_iff_eq] at hchk
   obtain ⟨rfl, h1⟩ := hchk
   simp only [evOp] at hev
   split at hev
   ·rename_i vs hx
    split at hev
    ·rename_i u hu
     simp only [Option.some.injEq, Prod.mk.injEq] at hev
     obtain ⟨rfl, rfl⟩ := hev
     exact op_extract hs htr hop h1 hx hu
    ·cases hev
   ·cases hev
  ·cases hchk
end
end Go.Proofs.YtmflphfmefakfaaGreatDoor.Av
namespace Go.Proofs.YtmflphfmefakfaaGreatDoor.Av
open Go
section
variable {P : Program} {T : List AFun} {cf : Nat → Nat → List AV → Heap → Option (AV × Heap)} {fl : Nat}
theorem TR.put {FT : Nat → Option Nat} {c : Ctx} {tm : List AV} {a : Act} {d : Option Nat} {x : AV} {v : Value} (h : TR FT c tm a.tmps) (hr : RV FT c x v) : TR FT c (putA tm d x) (a.put d v).tmps := by
 cases d with
 | none => exact h
 | some d =>
  simp only [putA, Act.put]
  refine ⟨by simpa using h.1, fun t y hy => ?_⟩
  rw [List.getElem?_set] at hy
  split at hy
  ·rename_i hdt
   subst hdt
   split at hy
   ·rename_i hlt
    cases hy
    exact ⟨v, by simp [← h.1, hlt], hr⟩
   ·cases hy
  ·rename_i hdt
   obtain ⟨u, g1, g2⟩ := h.2 t y hy
   exact ⟨u, by rw [Array.getElem?_setIfInBounds_ne hdt]; exact g1, g2⟩
theorem put_defers (a : Act) (d : Option Nat) (v : Value) : (a.put d v).defers = a.defers := by cases d <;> rfl
theorem wantA_spec [GlobT] {c : Ctx} {tm : List AV} {a : Act} {ops : Array Oper} {g : Option (Nat × Bool)} {o : Oper} {b : Bool} (htr : TR (ftOf T) c tm a.tmps) (hg : chkGuard ops g o.guard = true) (hw : wantA tm g = some b) :
  Region.wanted o (yielded ops a.tmps) = b := by
 unfold Region.wanted
 cases g with
 | none =>
  cases ho : o.guard with
  | none =>
   simp only [wantA, Option.some.injEq] at hw
   exact hw
  | some q => rw [ho] at hg; simp [chkGuard] at hg
 | some q =>
  obtain ⟨t, b0⟩ := q
  cases ho : o.guard with
  | none => rw [ho] at hg; simp [chkGuard] at hg
  | some q =>
   obtain ⟨j, b1⟩ := q
   rw [ho] at hg
   simp only [chkGuard, Bool.and_eq_true, beq_iff_eq] at hg
   obtain ⟨rfl, hg⟩ := hg
   split at hg
   ·rename_i p hp
    have hd : p.dst = some t := by simpa using hg
    simp only [wantA] at hw
    have hy : yielded ops a.tmps j = match a.tmps[t]? with | some (.bool b) => some b | _ => none := by
     unfold yielded
     simp only [hp, Option.bind_some, hd]
     cases a.tmps[t]? with
     | none => rfl
     | some v => cases v <;> rfl
    simp only [hy]
    simp only [getOpd] at hw
    cases ht : tm[t]? with
    | none =>
     rw [ht] at hw
     simp only [undefV] at hw
     have hn : a.tmps[t]? = none := by
      rw [Array.getElem?_eq_none_iff, ← htr.1]
      simpa using ht
     rw [hn]
     cases hw
     rfl
    | some x =>
     rw [ht] at hw
     obtain ⟨v, g1, g2⟩ := htr.2 t x ht
     rw [g1]
     simp only at hw
     split at hw
     ·rename_i bb
      rw [g2.lit_inv]
      cases hw
      cases bb <;> cases b0 <;> rfl
     ·rename_i u hnb
      rw [g2.lit_inv]
      cases hw
      split
      ·rename_i bb hbb
       cases hbb
       exact (hnb bb rfl).elim
      ·rfl
     ·cases hw
   ·cases hg
theorem oper_sound [GlobT] (hcf : CfOK P T cf) (hfn : FnsOK P T) {c : Ctx} {a : Act} {tm : List AV} {ops : Array Oper} {i : Nat} {ao : AOper} {o : Oper} {st' : St} {K : Act → World → Prop} {Q : Exit → Act → World → Prop}
  (hs : Sim (ftOf T) c) (htr : TR (ftOf T) c tm a.tmps) (hfl : fl ≤ c.H.length) (hi : ops[i]? = some o) (hchk : chkOper P T ops ao o = true) (hev : evOper P cf fl ao ⟨tm, c.H⟩ = some st')
  (hK : ∀ a' c', c'.H = st'.heap → Step fl c c' → Sim (ftOf T) c' → TR (ftOf T) c' st'.tmps a'.tmps → a'.defers = a.defers → (∃ x v, st'.tmps = putA tm o.dst x ∧ a' = a.put o.dst v ∧ RV (ftOf T) c' x v) → K a' c'.w) :
  wpOp P ops Q i K a c.w := by
 simp only [chkOper, Bool.and_eq_true, beq_iff_eq] at hchk
 obtain ⟨⟨hd, hg⟩, hop⟩ := hchk
 unfold wpOp
 rw [hi]
 simp only
 unfold evOper at hev
 rw [hd] at hev
 split at hev
 ·rename_i hw
  rw [wantA_spec htr hg hw]
  simp only [if_true]
  split at hev
  ·rename_i v H he
   cases hev
   left
   refine evOp_sound hcf hfn hs htr hfl hop he K Q ?_
   intro cv c' h1 h2 h3 h4
   exact hK _ c' h1 h2 h3 ((htr.step h2).put h4) (put_defers _ _ _) ⟨v, cv, rfl, rfl, h4⟩
  ·cases hev
 ·rename_i hw
  rw [wantA_spec htr hg hw]
  simp only [Bool.false_eq_true, if_false]
  cases hev
  exact hK _ c rfl (Step.refl _ _) hs (htr.put (RV.lit _)) (put_defers _ _ _) ⟨_, _, rfl, rfl, RV.lit _⟩
 ·cases hev
theorem ops_seq [GlobT] (hcf : CfOK P T cf) (hfn : FnsOK P T) {ops : Array Oper} {Q : Exit → Act → World → Prop} : ∀ (aops : List AOper) (os : List Oper) (k : Nat) (c : Ctx) (a : Act) (tm : List AV) (st' : St),
  chkOpers P T ops aops os = true → (∀ j o, os[j]? = some o → ops[k + j]? = some o) → Sim (ftOf T) c → TR (ftOf T) c tm a.tmps → fl ≤ c.H.length → evOps P cf fl aops ⟨tm, c.H⟩ = some st' →
  (∀ a' c', c'.H = st'.heap → Step fl c c' → Sim (ftOf T) c' → TR (ftOf T) c' st'.tmps a'.tmps → a'.defers = a.defers → Q .normal a' c'.w) → wpOps P ops Q (List.range' k aops.length) a c.w
 | [], [], k, c, a, tm, st', _, _, hs, htr, _, hev, hQ => by
  simp only [evOps, Option.some.injEq] at hev
  subst hev
  exact hQ a c rfl (Step.refl _ _) hs htr rfl
 | ao :: r, o :: os, k, c, a, tm, st', hchk, hops, hs, htr, hfl, hev, hQ => by
  simp only [chkOpers, Bool.and_eq_true] at hchk
  simp only [evOps] at hev
  split at hev
  ·rename_i st1 h1
   simp only [List.length_cons, List.range'_succ, wpOps_cons]
   refine oper_sound hcf hfn hs htr hfl (hops 0 o (by simp)) hchk.1 h1 ?_
   intro a' c' e1 e2 e3 e4 e5 _
   have : (⟨st1.tmps, c'.H⟩ : St) = st1 := by rw [e1]
   refine ops_seq hcf hfn r os (k + 1) c' a' st1.tmps st' hchk.2 (fun j p hp => ?_) e3 e4 (Nat.le_trans hfl e2.len) (by rw [this]; exact hev) ?_
   ·have := hops (j + 1) p (by simpa using hp)
    rwa [show k + (j + 1) = k + 1 + j by omega] at this
   ·intro a'' c'' f1 f2 f3 f4 f5
    exact hQ a'' c'' f1 (e2.trans f2) f3 f4 (f5.trans e5)
  ·cases hev
 | [], _ :: _, _, _, _, _, _, hchk, _, _, _, _, _, _ => by cases hchk
 | _ :: _, [], _, _, _, _, _, hchk, _, _, _, _, _, _ => by cases hchk
end
end Go.Proofs.YtmflphfmefakfaaGreatDoor.Av
