/- A part of the proof of ChangesetCompactsCardSaid: an evaluator of the program, proved sound, and what it says. -/
import Derived.Test.YtanonfpdkoijnaaGreatDoorAvOps8
namespace Go.Proofs.YtanonfpdkoijnaaGreatDoor.Av
open Go

section
variable {P : Program} {T : List AFun} {c : Ctx} {fl : Nat} {o : Oper} {a : Act} {tm : List AV}

theorem cellE_append [GlobT] {es ys : List (List AV)} {i j : Nat} {x : AV} (h : cellE (es ++ ys) i j = some x) : (i < es.length ∧ cellE es i j = some x) ∨ (es.length ≤ i ∧ cellE ys (i - es.length) j = some x) := by
  obtain ⟨e, h1, h2⟩ := cellE_some h
  rw [List.getElem?_append] at h1
  split at h1
  · exact .inl ⟨by assumption, by simp [cellE, h1, h2]⟩
  · exact .inr ⟨by omega, by simp [cellE, h1, h2]⟩

theorem rows_append [GlobT] {FT : Nat → Option Nat} {s : Nat} {es ys : List (List AV)} {olds news rest : List Value} (h1 : ElemsR FT c s es olds) (h2 : ElemsR FT c s ys news) :
    ∀ i j x, cellE (es ++ ys) i j = some x → ∃ u, (olds ++ news ++ rest)[i * s + j]? = some u ∧ scalarB u = true ∧ RV FT c x u := by
  intro i j x hx
  rcases cellE_append hx with ⟨hi, hc⟩ | ⟨hi, hc⟩
  · obtain ⟨u, g1, g2, g3⟩ := h1.2 i j x hc
    refine ⟨u, ?_, g2, g3⟩
    have hlt := (List.getElem?_eq_some_iff.1 g1).1
    rw [List.append_assoc, List.getElem?_append_left hlt]; exact g1
  · obtain ⟨u, g1, g2, g3⟩ := h2.2 _ j x hc
    refine ⟨u, ?_, g2, g3⟩
    have hlt := (List.getElem?_eq_some_iff.1 g1).1
    have e : i * s + j = olds.length + ((i - es.length) * s + j) := by
      rw [h1.1, ← Nat.add_assoc, ← Nat.add_mul]; congr 2; omega
    rw [e, List.append_assoc, List.getElem?_append_right (by omega), Nat.add_sub_cancel_left, List.getElem?_append_left hlt]
    exact g1

theorem room_spec {n bytes : Nat} (h : room n bytes = true) : n * bytes ≤ 2 ^ 40 ∧ n ≤ 2 ^ 40 := by
  simpa [room] using h

theorem grow_fits [GlobT] {n m bytes cap : Nat} (h : room (n + m) bytes = true) (hc : cap < n + m) : Builtin.nextslicecap (n + m) cap * bytes ≤ 281474976710656 ∧ ((n + m : Nat) : Int) ≤ 9223372036854775807 := by
  obtain ⟨h1, h2⟩ := room_spec h
  exact ⟨growslice_fits hc (by omega), by omega⟩

theorem elems_self [GlobT] (hs : Sim (ftOf T) c) {id s : Nat} {es : List (List AV)} {b : Nat} (hob : c.H[id]? = some (.blk s es)) (hb : c.β id = some b) :
    ∃ cc Ty, c.w.heap[b]? = some (.cells cc Ty (0, 0)) ∧ es.length * s ≤ cc.size ∧ (∀ i j x, cellE es i j = some x → ∃ v, cc[i * s + j]? = some v ∧ scalarB v = true ∧ RV (ftOf T) c x v) := by
  obtain ⟨cc, Ty, h1, h2, h3⟩ := hs.blk id s es b hob hb
  exact ⟨cc, Ty, h1, h2, h3⟩

/-- A run of elements of a block is overwritten, or lengthened within its array. -/
theorem blk_write [GlobT] {FT : Nat → Option Nat} {s k : Nat} {es ys : List (List AV)} {news : List Value} {cc : Array Value}
    (hl : ∀ e ∈ es, e.length = s) (hly : ∀ e ∈ ys, e.length = s) (hk : k ≤ es.length) (hE : ElemsR FT c s ys news) (hfit : k * s + news.length ≤ cc.size)
    (hold : ∀ i j x, cellE es i j = some x → ∃ v, cc[i * s + j]? = some v ∧ scalarB v = true ∧ RV FT c x v) :
    (∀ e ∈ splice es k ys, e.length = s) ∧
    ∀ i j x, cellE (splice es k ys) i j = some x → ∃ v, ((splice cc.toList (k * s) news).toArray)[i * s + j]? = some v ∧ scalarB v = true ∧ RV FT c x v := by
  refine ⟨?_, ?_⟩
  · intro e he
    simp only [splice, List.mem_append] at he
    rcases he with h | h | h
    · exact hl e (List.mem_of_mem_take h)
    · exact hly e h
    · exact hl e (List.mem_of_mem_drop h)
  · intro i j x hx
    have hfit2 : k * s + news.length ≤ cc.toList.length := by simpa using hfit
    simp only [List.getElem?_toArray, splice_get hfit2]
    obtain ⟨e, h1, h2⟩ := cellE_some hx
    unfold splice at h1
    rw [List.getElem?_append] at h1
    simp only [List.length_take, Nat.min_eq_left hk] at h1
    have hjs : ∀ e' : List AV, (e' ∈ es ∨ e' ∈ ys) → e = e' → j < s := by
      intro e' hm he
      have : e'.length = s := hm.elim (hl e') (hly e')
      rw [← this, ← he]; exact (List.getElem?_eq_some_iff.1 h2).1
    split at h1
    · rename_i hi
      rw [List.getElem?_take, if_pos hi] at h1
      have hj := hjs e (.inl (List.mem_of_getElem? h1)) rfl
      have : i * s + j < k * s := row_lt hi hj
      rw [if_pos this]
      simpa using hold i j x (by simp [cellE, h1, h2])
    · rename_i hi
      rw [List.getElem?_append] at h1
      split at h1
      · rename_i hi2
        have hj := hjs e (.inr (List.mem_of_getElem? h1)) rfl
        have hge : k * s ≤ i * s := Nat.mul_le_mul_right s (by omega)
        have e1 : i * s + j - k * s = (i - k) * s + j := by rw [Nat.sub_mul]; omega
        have hlt : (i - k) * s + j < ys.length * s := row_lt hi2 hj
        rw [if_neg (by omega), if_pos (by rw [hE.1]; omega), e1]
        exact hE.2 _ j x (by simp [cellE, h1, h2])
      · rename_i hi2
        rw [List.getElem?_drop] at h1
        have e0 : k + ys.length + (i - k - ys.length) = i := by omega
        rw [e0] at h1
        have hge : (k + ys.length) * s ≤ i * s := Nat.mul_le_mul_right s (by omega)
        rw [Nat.add_mul] at hge
        rw [if_neg (by omega), if_neg (by rw [hE.1]; omega)]
        simpa using hold i j x (by simp [cellE, h1, h2])

theorem firstCells_of_rv [GlobT] {FT : Nat → Option Nat} (hs : Sim FT c) {x : AV} {v : Value} {xs : List (List AV)} {s : Nat} (hr : RV FT c x v) (h : rd c.H x = some xs) (hl : ∀ e ∈ xs, e.length = s) (hs0 : 0 < s) :
    ∃ xa xc olds, v = .slice xa xs.length xc ∧ ElemsR FT c s xs olds ∧ (Builtin.firstCells s xs.length (.slice xa xs.length xc)).run P c.w.drew = .ok olds.toArray c.w.drew := by
  obtain ⟨xa, xc, news, h1, _, h2, h3⟩ := rd_rv (P := P) hs hr h hl hs0
  exact ⟨xa, xc, news, h1, h2, by rw [← h1]; exact h3 _ (drawn_drew _)⟩

theorem ok_append [GlobT] (hs : Sim (ftOf T) c) (hfl : fl ≤ c.H.length) {x r : AV} {xv yv z : Value} {t t' e : TypeId} {i : TypeInfo} {s bytes m : Nat} {ys : List (List AV)} {news : List Value} {H' : Heap}
    (hx : RV (ftOf T) c x xv) (hsrc : Src P c.w t t' e i yv m news) (hE : ElemsR (ftOf T) c s ys news) (hm : ys.length = m) (hsize : i.size = s) (hby : i.bytes = bytes) (hz : i.zero = some z) (hzs : z.cells.size = s)
    (happ : appendA fl c.H s bytes x ys = some (r, H'))
    (hexec : ∀ cv w', (Builtin.append_ #[t, t'] o.type #[xv, yv]).run P c.w = .ok cv w' → (execOp a.eval o).run P c.w = .ok (.value cv) w') : OpOK P (ftOf T) c fl o a r H' := by
  subst hsize hby hm
  unfold appendA at happ
  split at happ
  · rename_i hcond
    obtain ⟨hal, hs0, hroomy⟩ := hcond
    have hly := allLen_spec hal
    -- nothing is appended
    have nothing : ys.length = 0 → (∃ xa n cap, xv = .slice xa n cap ∧ n ≤ cap) → OpOK P (ftOf T) c fl o a x c.H := by
      rintro h0 ⟨xa, n, cap, rfl, hle⟩
      have hnil : news = [] := List.eq_nil_of_length_eq_zero (by rw [hE.1, h0, Nat.zero_mul])
      have := hsrc.run o.type xa n cap (by omega) c.w (by intro ad _; rw [hnil]; simp [storeCells]) (fun _ => rfl)
      rw [h0] at this
      exact ok_same hs (hexec _ _ this) hx
    -- a new array
    have fresh : ∀ (es : List (List AV)) (xa : Option Addr) (cap : Nat) (olds : List Value), xv = .slice xa es.length cap → (∀ e ∈ es, e.length = i.size) → ElemsR (ftOf T) c i.size es olds →
        (Builtin.firstCells i.size es.length (.slice xa es.length cap)).run P c.w.drew = .ok olds.toArray c.w.drew → cap < es.length + ys.length → room (es.length + ys.length) i.bytes = true →
        ∃ cells : Array Value, ∃ ncap, es.length + ys.length ≤ ncap ∧ cells.size = ncap * i.size ∧
          (execOp a.eval o).run P c.w = .ok (.value (.slice (some ⟨c.w.heap.size, 0, none⟩) (es.length + ys.length) ncap)) (c.w.drew.alloc (.cells cells e (0, 0))) ∧
          (∀ f ∈ es ++ ys, f.length = i.size) ∧ ∀ k j x, cellE (es ++ ys) k j = some x → ∃ v, cells[k * i.size + j]? = some v ∧ scalarB v = true ∧ RV (ftOf T) c x v := by
      intro es xa cap olds hxv hle hO hfo hcap hroom
      obtain ⟨f1, f2⟩ := grow_fits hroom hcap
      obtain ⟨cells, g1, g2⟩ := hsrc.grow o.type z xa es.length cap olds hz hcap f2 f1 hfo
      have hge := grownCap_ge c.w (es.length + ys.length) cap e
      refine ⟨cells, grownCap c.w (es.length + ys.length) cap e, hge, ?_, ?_, ?_, ?_⟩
      · have := congrArg List.length g1
        simp only [Array.length_toList, List.length_append, hO.1, hE.1, size_zeroCells, hzs] at this
        rw [this, ← Nat.add_mul, ← Nat.add_mul]; congr 1; omega
      · exact hexec _ _ (by rw [hxv]; exact g2)
      · intro f hf
        rcases List.mem_append.1 hf with h | h
        · exact hle f h
        · exact hly f h
      · intro k j x hx
        obtain ⟨u, k1, k2, k3⟩ := rows_append (rest := (Builtin.zeroCells z.cells (grownCap c.w (es.length + ys.length) cap e - (es.length + ys.length))).toList) hO hE k j x hx
        refine ⟨u, ?_, k2, k3⟩
        rw [← g1] at k1
        simpa using k1
    -- a new object
    have newobj : ∀ (es : List (List AV)) (xa : Option Addr) (cap : Nat) (olds : List Value), xv = .slice xa es.length cap → (∀ e ∈ es, e.length = i.size) → ElemsR (ftOf T) c i.size es olds →
        (Builtin.firstCells i.size es.length (.slice xa es.length cap)).run P c.w.drew = .ok olds.toArray c.w.drew → cap < es.length + ys.length → room (es.length + ys.length) i.bytes = true →
        OpOK P (ftOf T) c fl o a (.ms c.H.length (es.length + ys.length) 0 (es.length + ys.length)) (c.H ++ [.blk i.size (es ++ ys)]) := by
      intro es xa cap olds h1 h2 h3 h4 h5 h6
      obtain ⟨cells, ncap, q1, q2, q3, q4, q5⟩ := fresh es xa cap olds h1 h2 h3 h4 h5 h6
      have := ok_newSlice (P := P) (o := o) (a := a) hs hfl false (es := es ++ ys) (n := es.length + ys.length) (cap := ncap) (cv := cells) (t := e) (s := i.size) (w' := c.w.drew.alloc (.cells cells e (0, 0)))
        (by simp) q1 (by simp) rfl rfl rfl rfl q3 q2 q4 q5
      simpa using this
    split at happ
    · -- nil
      have hv := hx.lit_inv
      split at happ
      · rename_i h0
        cases happ
        exact nothing h0 ⟨none, 0, 0, hv, Nat.le_refl _⟩
      · rename_i h0
        cases happ
        have := newobj [] none 0 [] hv (by simp) ⟨by simp, fun i j x hx => by simp [cellE] at hx⟩ (by simp [Builtin.firstCells]) (by simp; omega) (by simpa using hroomy)
        simpa using this
    · rename_i f es
      obtain ⟨xa, cap, hv, hle, hfull⟩ := rp_cap hx.sl_inv
      split at happ
      · rename_i h0
        cases happ
        exact nothing h0 ⟨xa, _, cap, hv, hle⟩
      · rename_i h0
        split at happ
        · rename_i hc
          cases happ
          have hle' := allLen_spec hc.2.1
          obtain ⟨xa', xc', olds, k1, k2, k3⟩ := firstCells_of_rv (P := P) hs hx (by simp [rd] : rd c.H (.sl f es) = some es) hle' hs0
          rw [hv] at k1
          cases k1
          exact newobj es xa cap olds hv hle' k2 k3 (by rw [hfull hc.1]; omega) hc.2.2
        · cases happ
    · rename_i id tot off len
      obtain ⟨ad, cap, s0, n0, hv, g1, g2, g3, g4⟩ := hx.ms_inv
      split at happ
      · rename_i s' es hob
        split at happ
        · rename_i hc
          obtain ⟨rfl, htot, hroom⟩ := hc
          rw [shp_of hob] at g1
          cases g1
          obtain ⟨m1, m2⟩ := g4 htot.symm
          have hlens := hs.lens id i.size es hob
          split at happ
          · rename_i h0
            cases happ
            exact nothing h0 ⟨ad, len, cap, hv, g3⟩
          · rename_i h0
            split at happ
            · rename_i hflid
              split at happ
              · rename_i htip
                obtain ⟨rfl, rfl⟩ := htip
                cases happ
                subst htot
                -- it moves
                have moves : cap < es.length + ys.length → OpOK P (ftOf T) c fl o a (.ms id (es.length + ys.length) 0 (es.length + ys.length)) (c.H.set id (.blk i.size (es ++ ys))) := by
                  intro hcap
                  obtain ⟨xa', xc', olds, k1, k2, k3⟩ := firstCells_of_rv (P := P) hs hx (by simp [rd, hob] : rd c.H (.ms id es.length 0 es.length) = some es) hlens hs0
                  rw [hv] at k1
                  cases k1
                  obtain ⟨cells, ncap, q1, q2, q3, q4, q5⟩ := fresh es ad cap olds hv hlens k2 k3 hcap hroom
                  have hgt : es.length < (es ++ ys).length := by simp; omega
                  refine ok_value (β' := upd c.β id c.w.heap.size) q3 (step_grow (ob := .cells cells e (0, 0)) hs hflid hob hgt rfl rfl rfl rfl)
                    (sim_grow (cs' := cells) (T := e) hs hob hgt rfl rfl rfl rfl q4 (by rw [q2]; exact Nat.mul_le_mul_right _ (by simpa using q1)) q5) ?_
                  refine .ms id _ 0 _ _ ncap i.size _ (by rw [shp_set hob]; simp) (Nat.le_refl _) q1 fun _ => ⟨by omega, .inr ⟨c.w.heap.size, cells, e, _, upd_same _ _ _, ?_, by simpa using q2.symm, rfl, fun _ => by simp⟩⟩
                  exact heap_alloc_new c.w.drew _
                rcases m2 with ⟨_, m3, m4, m5⟩ | ⟨b, cc, Ty, a', m3, m4, m5, m6, m7⟩
                · exact moves (by omega)
                · by_cases hcap : cap < es.length + ys.length
                  · exact moves hcap
                  · -- it stays
                    have hne : cap ≠ 0 := by omega
                    have ha := m7 hne
                    subst m6
                    subst ha
                    obtain ⟨cc', Ty', q1, q2, q3⟩ := hs.blk id i.size es b hob m3
                    rw [m4] at q1
                    cases q1
                    have hfit : es.length * i.size + news.length ≤ cc.size := by
                      rw [hE.1, ← m5, ← Nat.add_mul]; exact Nat.mul_le_mul_right _ (by omega)
                    obtain ⟨p1, p2⟩ := blk_write (k := es.length) hlens hly (Nat.le_refl _) hE hfit q3
                    have hsp : splice es es.length ys = es ++ ys := by simp [splice]
                    rw [hsp] at p1 p2
                    have hst := run_storeCells_at P b (es.length * i.size) Ty news 0 cc c.w m4 (by simpa using hfit) (elemsR_scalar hly hE)
                    rw [setRow_splice] at hst
                    have hsplen := splice_length (l := cc.toList) (vs := news) (k := es.length * i.size) (by simpa using hfit)
                    have hrun := hsrc.run o.type (some ⟨b, 0 * i.size, none⟩) es.length cap (by omega) _ (fun ad' h => by cases h; rw [addr_add]; simpa using hst) (fun h => by cases h)
                    rw [← hv] at hrun
                    refine ok_value (β' := c.β) (hexec _ _ hrun)
                      (step_set (cs' := (splice cc.toList (es.length * i.size) news).toArray) hs hflid hob m3 m4 (by simp) (by simpa using hsplen) (setRow_heap c.w b cc _ Ty _ m4) (fun k hk => setRow_other c.w b k _ hk) (by simp) rfl rfl rfl)
                      (sim_set (cs' := (splice cc.toList (es.length * i.size) news).toArray) hs hob m3 m4 (by simp) (by simpa using hsplen) (setRow_heap c.w b cc _ Ty _ m4) (fun k hk => setRow_other c.w b k _ hk) (by simp) rfl rfl rfl p1 ?_ p2) ?_
                    · simp only [List.length_append, List.size_toArray, hsplen, Array.length_toList]
                      rw [Nat.add_mul, ← hE.1]; exact hfit
                    · refine .ms id _ 0 _ _ cap i.size _ (by rw [shp_set hob]; simp) (Nat.le_refl _) (by omega) fun _ => ⟨by omega, .inr ⟨b, _, Ty, _, m3, setRow_heap c.w b cc _ Ty _ m4, ?_, rfl, fun _ => rfl⟩⟩
                      simpa [hsplen] using m5
              · rename_i htip
                split at happ
                · rename_i hin
                  cases happ
                  subst htot
                  rcases m2 with ⟨_, m3, m4, m5⟩ | ⟨b, cc, Ty, a', m3, m4, m5, m6, m7⟩
                  · omega
                  · obtain ⟨cc', Ty', q1, q2, q3⟩ := hs.blk id i.size es b hob m3
                    rw [m4] at q1
                    cases q1
                    have hcap : es.length ≤ off + cap := by
                      rcases Nat.lt_or_ge (off + cap) es.length with h | h
                      · have : (off + cap + 1) * i.size ≤ es.length * i.size := Nat.mul_le_mul_right _ h
                        rw [Nat.add_mul] at this; omega
                      · exact h
                    have hne : cap ≠ 0 := by omega
                    have ha := m7 hne
                    subst m6
                    subst ha
                    have hfit : (off + len) * i.size + news.length ≤ cc.size := by
                      rw [hE.1, ← Nat.add_mul]; exact Nat.le_trans (Nat.mul_le_mul_right _ hin) q2
                    obtain ⟨p1, p2⟩ := blk_write (k := off + len) hlens hly (by omega) hE hfit q3
                    have hst := run_storeCells_at P b ((off + len) * i.size) Ty news 0 cc c.w m4 (by simpa using hfit) (elemsR_scalar hly hE)
                    rw [setRow_splice] at hst
                    have hsplen := splice_length (l := cc.toList) (vs := news) (k := (off + len) * i.size) (by simpa using hfit)
                    have hspes := splice_length (l := es) (vs := ys) (k := off + len) hin
                    have hrun := hsrc.run o.type (some ⟨b, off * i.size, none⟩) len cap (by omega) _ (fun ad' h => by cases h; rw [addr_add, ← Nat.add_mul]; exact hst) (fun h => by cases h)
                    rw [← hv] at hrun
                    refine ok_value (β' := c.β) (hexec _ _ hrun)
                      (step_set (cs' := (splice cc.toList ((off + len) * i.size) news).toArray) hs hflid hob m3 m4 (by omega) (by simpa using hsplen) (setRow_heap c.w b cc _ Ty _ m4) (fun k hk => setRow_other c.w b k _ hk) (by simp) rfl rfl rfl)
                      (sim_set (cs' := (splice cc.toList ((off + len) * i.size) news).toArray) hs hob m3 m4 (by omega) (by simpa using hsplen) (setRow_heap c.w b cc _ Ty _ m4) (fun k hk => setRow_other c.w b k _ hk) (by simp) rfl rfl rfl p1 ?_ p2) ?_
                    · simp only [List.size_toArray, hsplen, Array.length_toList, hspes]; exact q2
                    · refine .ms id _ off _ _ cap i.size _ (by rw [shp_set hob]; simp [hspes]) (Nat.le_refl _) (by omega) fun _ => ⟨by omega, .inr ⟨b, _, Ty, _, m3, setRow_heap c.w b cc _ Ty _ m4, ?_, rfl, fun _ => rfl⟩⟩
                      simpa [hsplen] using m5
                · cases happ
            · cases happ
        · cases happ
      · cases happ
    · cases happ
  · cases happ

theorem op_append [GlobT] (hs : Sim (ftOf T) c) (htr : TR (ftOf T) c tm a.tmps) (hfl : fl ≤ c.H.length) {x y : AOpd} {x' y' : Operand} {t t' e e' : TypeId} {i : TypeInfo} {z : Value} {s bytes : Nat} {ys : List (List AV)} {r : AV} {H' : Heap}
    (ho : o.op = .call ⟨.builtin .append, #[x', y'], #[t, t']⟩) (h1 : chkOpd T x x' = true) (h2 : chkOpd T y y' = true) (hu : P.underlying t = some (.slice e)) (hu' : P.underlying t' = some (.slice e'))
    (hi : P.info? e = some i) (hsz : i.size = s) (hby : i.bytes = bytes) (hz : i.zero = some z) (hzs : z.cells.size = s) (hrd : rd c.H (getOpd tm y) = some ys)
    (happ : appendA fl c.H s bytes (getOpd tm x) ys = some (r, H')) : OpOK P (ftOf T) c fl o a r H' := by
  have hal : allLen s ys = true ∧ 0 < s := by
    unfold appendA at happ
    split at happ
    · rename_i h; exact ⟨h.1, h.2.1⟩
    · cases happ
  obtain ⟨xa, xc, news, hv, _, hE, hfc⟩ := rd_rv (P := P) hs (getOpd_rv hs htr h2) hrd (allLen_spec hal.1) hal.2
  have hsrc : Src P c.w t t' e i (a.eval y') ys.length news := by
    rw [hv]
    exact src_slice hu hu' hi (by rw [hsz, ← hv]; exact hfc)
  refine ok_append hs hfl (getOpd_rv hs htr h1) hsrc hE rfl hsz hby hz hzs happ ?_
  intro cv w' hr
  simp [execOp, ho, resolve, invoke, builtin, hr]

theorem zeroCells_elems [GlobT] {FT : Nat → Option Nat} {s n : Nat} {z : List Value} {v : Value} (hz : z.length = s) (hsc : ∀ u ∈ z, scalarB u = true) (hv : v.cells = z.toArray) :
    ElemsR FT c s (List.replicate n (z.map AV.lit)) (Builtin.zeroCells v.cells n).toList := by
  have hcs : v.cells.size = s := by rw [hv]; simpa using hz
  obtain ⟨_, h2⟩ := rowsR_zero (FT := FT) (c := c) (n := n) (m := n) (cv := v.cells) hz hsc (by rw [hv]) (Nat.le_refl _)
  refine ⟨by simp [size_zeroCells, hcs], fun i j x hx => ?_⟩
  obtain ⟨u, g1, g2, g3⟩ := h2 i j x hx
  refine ⟨u, ?_, g2, g3⟩
  rw [← g1]
  simp only [Builtin.zeroCells, hcs, Array.getElem?_toList]

theorem op_appendZ [GlobT] (hs : Sim (ftOf T) c) (htr : TR (ftOf T) c tm a.tmps) (hfl : fl ≤ c.H.length) {x y : AOpd} {x' y' : Operand} {t t' e : TypeId} {k : IntKind} {z : List Value} {s bytes n : Nat} {r : AV} {H' : Heap}
    (ho : o.op = .call ⟨.builtin .append, #[x', y'], #[t, t']⟩) (h1 : chkOpd T x x' = true) (h2 : chkOpd T y y' = true) (hu : P.underlying t = some (.slice e)) (hu' : P.underlying t' = some (.int k))
    (hsz : sizeIs P e s = true) (hby : bytesIs P e bytes = true) (hz : zeroIs P e z = true) (hzl : z.length = s) (hn : natOf (getOpd tm y) = some n) (hn20 : n ≤ 2 ^ 20) (hnb : n * bytes ≤ 2 ^ 40)
    (happ : appendA fl c.H s bytes (getOpd tm x) (List.replicate n (z.map .lit)) = some (r, H')) : OpOK P (ftOf T) c fl o a r H' := by
  have hs0 : 0 < s := by
    unfold appendA at happ
    split at happ
    · rename_i h; exact h.2.1
    · cases happ
  obtain ⟨i, hi, his⟩ := sizeIs_spec hsz
  obtain ⟨i', v, hi', hv, hvc, hsc⟩ := zeroIs_spec hz
  rw [hi] at hi'
  cases hi'
  have hbytes : i.bytes = bytes := by simpa [bytesIs, hi] using hby
  have hcs : v.cells.size = s := by rw [hvc]; simpa using hzl
  obtain ⟨k', hyv⟩ := natOf_inv (getOpd_rv hs htr h2) hn
  have hsrc : Src P c.w t t' e i (a.eval y') n (Builtin.zeroCells v.cells n).toList := by
    rw [hyv]
    exact src_zeros hu hu' hi hv hn20 (by rw [hbytes]; exact hnb) (by omega) (by omega)
  refine ok_append hs hfl (getOpd_rv hs htr h1) hsrc (zeroCells_elems hzl hsc hvc) (by simp) his hbytes hv hcs happ ?_
  intro cv w' hr
  simp [execOp, ho, resolve, invoke, builtin, hr]

theorem op_copy [GlobT] (hs : Sim (ftOf T) c) (htr : TR (ftOf T) c tm a.tmps) {x y : AOpd} {x' y' : Operand} {t t' e : TypeId} {i : TypeInfo} {s id tot off len : Nat} {es ys : List (List AV)}
    (ho : o.op = .call ⟨.builtin .copy, #[x', y'], #[t, t']⟩) (h1 : chkOpd T x x' = true) (h2 : chkOpd T y y' = true) (hu : P.underlying t = some (.slice e))
    (hi : P.info? e = some i) (hsz : i.size = s) (hrd : rd c.H (getOpd tm y) = some ys) (hal : allLen s ys = true) (hs0 : 0 < s) (hx : getOpd tm x = .ms id tot off len)
    (hob : c.H[id]? = some (.blk s es)) (htot : es.length = tot) (hle : ys.length ≤ len) (hflid : fl ≤ id) {r : AV} {H' : Heap}
    (hr : (if ys.length = 0 then some (AV.lit (.int .i64 0), c.H) else some (AV.lit (.int .i64 ys.length), c.H.set id (.blk s (splice es off ys)))) = some (r, H')) : OpOK P (ftOf T) c fl o a r H' := by
  have hly := allLen_spec hal
  obtain ⟨xa, xc, news, hv, _, hE, hfc⟩ := rd_rv (P := P) hs (getOpd_rv hs htr h2) hrd hly hs0
  have hxr := getOpd_rv hs htr h1
  rw [hx] at hxr
  obtain ⟨ad, cap, s0, n0, hxv, g1, g2, g3, g4⟩ := hxr.ms_inv
  rw [shp_of hob] at g1
  cases g1
  obtain ⟨m1, m2⟩ := g4 htot.symm
  have hf := hfc c.w (Drawn.refl _)
  have hmin : Nat.min ys.length len = ys.length := Nat.min_eq_left hle
  subst hsz
  rw [hv] at hf
  split at hr
  · rename_i h0
    cases hr
    have hnil : news = [] := List.eq_nil_of_length_eq_zero (by rw [hE.1, h0, Nat.zero_mul])
    subst hnil
    refine ok_same (cv := .int .i64 0) hs ?_ (RV.lit _)
    have h0' : Nat.min ys.length len = 0 := by rw [hmin, h0]
    rw [h0] at hf
    cases ad <;> simp [execOp, ho, resolve, invoke, builtin, Builtin.copy_, run_underlying hu, sizeOf, typeInfo, hi, Builtin.lenOf, hv, hxv, h0, hf, storeCells, goInt]
  · rename_i h0
    cases hr
    rcases m2 with ⟨_, m3, m4, m5⟩ | ⟨b, cc, Ty, a', m3, m4, m5, m6, m7⟩
    · omega
    · have ha := m7 (by omega)
      subst m6
      subst ha
      obtain ⟨cc', Ty', q1, q2, q3⟩ := hs.blk id i.size es b hob m3
      rw [m4] at q1
      cases q1
      have hin : off + ys.length ≤ es.length := by omega
      have hfit : off * i.size + news.length ≤ cc.size := by
        rw [hE.1, ← Nat.add_mul]; exact Nat.le_trans (Nat.mul_le_mul_right _ hin) q2
      obtain ⟨p1, p2⟩ := blk_write (k := off) (hs.lens id _ es hob) hly (by omega) hE hfit q3
      have hst := run_storeCells_at P b (off * i.size) Ty news 0 cc c.w m4 (by simpa using hfit) (elemsR_scalar hly hE)
      rw [setRow_splice] at hst
      have hsplen := splice_length (l := cc.toList) (vs := news) (k := off * i.size) (by simpa using hfit)
      have hspes := splice_length (l := es) (vs := ys) (k := off) hin
      refine ok_value (β' := c.β) (cv := .int .i64 ys.length) ?_
        (step_set (cs' := (splice cc.toList (off * i.size) news).toArray) hs hflid hob m3 m4 (by omega) (by simpa using hsplen) (setRow_heap c.w b cc _ Ty _ m4) (fun k hk => setRow_other c.w b k _ hk) (by simp) rfl rfl rfl)
        (sim_set (cs' := (splice cc.toList (off * i.size) news).toArray) hs hob m3 m4 (by omega) (by simpa using hsplen) (setRow_heap c.w b cc _ Ty _ m4) (fun k hk => setRow_other c.w b k _ hk) (by simp) rfl rfl rfl p1 ?_ p2) (RV.lit _)
      · simp [execOp, ho, resolve, invoke, builtin, Builtin.copy_, run_underlying hu, sizeOf, typeInfo, hi, Builtin.lenOf, hv, hxv, hmin, hf, hst, goInt]
      · simp only [List.size_toArray, hsplen, Array.length_toList, hspes]; exact q2

end
end Go.Proofs.YtanonfpdkoijnaaGreatDoor.Av
