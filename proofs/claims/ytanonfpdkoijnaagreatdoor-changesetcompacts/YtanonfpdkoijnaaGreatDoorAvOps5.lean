/- A part of the proof of ChangesetCompactsCardSaid: an evaluator of the program, proved sound, and what it says. -/
import Derived.Test.YtanonfpdkoijnaaGreatDoorAvOps4
import Derived.IntWalk
namespace Go.Proofs.YtanonfpdkoijnaaGreatDoor.Av
open Go

section
variable {P : Program} {T : List AFun} {c : Ctx} {fl : Nat} {o : Oper} {a : Act} {tm : List AV}

theorem toP_rp [GlobT] {FT : Nat → Option Nat} {x : AV} {v : Value} (h : RV FT c x v) : RP c.w (Imm c) (toP x) v := by
  cases h with
  | pure _ _ hp =>
    have := nrm_rp hp
    cases hp with
    | undef v => exact .undef v
    | lit v => exact this
    | nil f a' cap hf => exact this
    | sl f es b off cap cc T fz s vals h1 h2 h3 h4 h5 h6 h7 h8 => exact this
  | _ => exact .undef _

theorem cellE_map [GlobT] {f : AV → AV} {es : List (List AV)} {i j : Nat} {x : AV} (h : cellE (es.map fun e => e.map f) i j = some x) : ∃ y, cellE es i j = some y ∧ x = f y := by
  obtain ⟨e1, h1, h2⟩ := cellE_some h
  simp only [List.getElem?_map, Option.map_eq_some_iff] at h1
  obtain ⟨e, he, rfl⟩ := h1
  simp only [List.getElem?_map, Option.map_eq_some_iff] at h2
  obtain ⟨y, hy, rfl⟩ := h2
  exact ⟨y, by simp [cellE, he, hy], rfl⟩

/-- A new slice, from its cells: as one that can be written, or as one that is never written. -/
theorem ok_newSlice [GlobT] (hs : Sim (ftOf T) c) (hfl : fl ≤ c.H.length) {s n cap : Nat} {es : List (List AV)} {cv : Array Value} {t : TypeId} {w' : World} (pu : Bool)
    (hn : es.length = n) (hle : n ≤ cap) (hpu : pu = true → cap = n) (hh : w'.heap = c.w.heap.push (.cells cv t (0, 0))) (h1 : w'.os = c.w.os) (h2 : w'.tape = c.w.tape) (h3 : w'.output = c.w.output)
    (hr : (execOp a.eval o).run P c.w = .ok (.value (.slice (some ⟨c.w.heap.size, 0, none⟩) n cap)) w')
    (hsz : cv.size = cap * s) (hl : ∀ e ∈ es, e.length = s) (hc : ∀ i j x, cellE es i j = some x → ∃ v, cv[i * s + j]? = some v ∧ scalarB v = true ∧ RV (ftOf T) c x v) :
    OpOK P (ftOf T) c fl o a (if pu then .sl true (es.map fun e => e.map toP) else .ms c.H.length n 0 n) (if pu then c.H else c.H ++ [.blk s es]) := by
  cases pu with
  | true =>
    have hcap := hpu rfl
    subst hcap
    simp only [if_true]
    have hst := step_push (fl := fl) hs hh h1 h2 h3
    refine ok_value (β' := c.β) hr hst (sim_push hs hh h1 h2 h3) (.pure _ _ ?_)
    have himm : Imm ⟨w', c.X, c.β, c.H⟩ c.w.heap.size := ⟨hs.fresh _ (Nat.le_refl _), fun id hid => by have := hs.lt hid; omega⟩
    by_cases he : es = []
    · subst he
      simp only [List.length_nil] at hn
      subst hn
      exact .nil true _ 0 (fun _ => rfl)
    · have hlen : (es.map fun e => e.map toP).length = cap := by simpa using hn
      have := RP.sl (w := w') (I := Imm ⟨w', c.X, c.β, c.H⟩) true (es.map fun e => e.map toP) c.w.heap.size 0 cap cv t (0, 0) s (fun i j => (cv[i * s + j]?).getD undefV) (by simpa using he) himm
        (by simp [hh]) (fun e he => by simp only [List.mem_map] at he; obtain ⟨e0, h0, rfl⟩ := he; simpa using hl e0 h0) (by omega) (fun _ => hlen.symm)
        (fun i j x hx => by
          obtain ⟨y, hy, rfl⟩ := cellE_map hx
          obtain ⟨v, g1, g2, g3⟩ := hc i j y hy
          simp [g1, g2])
        (fun i j x hx => by
          obtain ⟨y, hy, rfl⟩ := cellE_map hx
          obtain ⟨v, g1, g2, g3⟩ := hc i j y hy
          simp only [g1, Option.getD_some]
          exact toP_rp (g3.step hst))
      rw [hlen] at this
      exact this
  | false =>
    simp only [Bool.false_eq_true, if_false]
    refine ok_value (β' := upd c.β c.H.length c.w.heap.size) hr (step_new hfl hh h1 h2 h3 (fun id b hb => hs.lt hb))
      (sim_new hs hh h1 h2 h3 ?_ ?_ ?_ (fun _ h => by cases h)) ?_
    · intro s' es' he; cases he; exact hl
    · intro s' es' he; cases he
      exact ⟨cv, t, rfl, by rw [hsz, hn]; exact Nat.mul_le_mul_right s hle, hc⟩
    · intro ents he; cases he
    · refine .ms _ n 0 n _ cap s n (by simp [shp, hn]) (Nat.le_refl _) hle fun _ => ⟨by omega, .inr ⟨c.w.heap.size, cv, t, ⟨c.w.heap.size, 0, none⟩, upd_same _ _ _, by simp [hh], by simp [hsz], rfl, fun _ => by simp⟩⟩

theorem op_buildSl [GlobT] (hs : Sim (ftOf T) c) (htr : TR (ftOf T) c tm a.tmps) (hfl : fl ≤ c.H.length) {pu : Bool} {s n : Nat} {z : List Value} {ps : List (Nat × AOpd)} {qs : Array (Nat × Operand)} {t e : TypeId} {es : List (List AV)}
    (ho : o.op = .buildSlice t n qs) (hu : P.underlying t = some (.slice e)) (hsz : sizeIs P e s = true) (hz : zeroIs P e z = true) (hzl : z.length = s) (hs0 : 0 < s) (hsm : n * s ≤ 2 ^ 24)
    (hk : chkElems T ps qs.toList = true) (hf : fillE s (List.replicate n (z.map .lit)) (ps.map fun (i, x) => (i, getOpd tm x)) = some es) :
    OpOK P (ftOf T) c fl o a (if pu then .sl true (es.map fun e => e.map toP) else .ms c.H.length n 0 n) (if pu then c.H else c.H ++ [.blk s es]) := by
  obtain ⟨i, hi, his⟩ := sizeIs_spec hsz
  obtain ⟨i', v, hi', hv, hvc, hsc⟩ := zeroIs_spec hz
  rw [hi] at hi'
  cases hi'
  have hvl : v.cells.toList = z := by rw [hvc]
  have hzr := rowsR_zero (FT := ftOf T) (c := c) (n := n) (m := n) hzl hsc hvl (Nat.le_refl _)
  have hrow : RowsR (ftOf T) c s (List.replicate n (z.map AV.lit)) ((Array.range (n * s)).map (v.cells[· % v.cells.size]!)) := ⟨by simp, hzr.1, hzr.2⟩
  obtain ⟨hl, r, k1, k2⟩ := fillE_rv hs htr ps qs.toList _ es _ hk hrow hf
  have hen : es.length = n := by simpa using hl
  have hql : (qs.map fun (i, x) => (i, a.eval x)).toList = qs.toList.map fun (i, x) => (i, a.eval x) := by simp
  by_cases hn0 : n = 0
  · subst hn0
    have he : es = [] := List.eq_nil_of_length_eq_zero hen
    subst he
    have hr : r = #[] := Array.eq_empty_of_size_eq_zero (by simpa using k2.1)
    subst hr
    refine ok_newSlice hs hfl pu (cap := 0) (cv := #[]) (t := e) (w' := c.w.alloc (.cells #[] e (0, 0))) rfl (Nat.le_refl _) (fun _ => rfl) rfl rfl rfl rfl ?_ (by simp) (by simp) (fun i j x hx => by simp [cellE] at hx)
    have e0 : Array.range 0 = #[] := rfl
    have k1' : Instr.fill (fun i => some (i * s, s)) #[] (qs.toList.map fun x => (x.fst, a.eval x.snd)) = some #[] := by simpa [e0] using k1
    simp [execOp, ho, Instr.buildSlice, run_underlying hu, sizeOf, typeInfo, hi, his, k1', newRow, e0]
  · refine ok_newSlice hs hfl pu (cap := n) (cv := r) (t := e) (w' := c.w.alloc (.cells r e (0, 0))) hen (Nat.le_refl _) (fun _ => rfl) rfl rfl rfl rfl ?_ (by rw [k2.1, hen]) k2.2.1 k2.2.2
    have hrun := run_buildSlice (P := P) c.w t e n (qs.map fun (i, x) => (i, a.eval x)) r i v hu hi hv (by rw [his]; omega)
      (by rw [his]; exact Nat.ne_of_gt (Nat.mul_pos (Nat.pos_of_ne_zero hn0) hs0)) (by rw [hql, his]; exact k1)
    simp only [execOp, ho, Sem.run_bind, hrun, Result.andThen_ok, Sem.run_pure]

theorem wrap_small {n : Nat} (h : n ≤ 2 ^ 40) : IntKind.i64.wrap (n : Int) = n := by
  exact IntWalk.i64_in _ (by omega)

theorem op_mkSlice [GlobT] (hs : Sim (ftOf T) c) (htr : TR (ftOf T) c tm a.tmps) (hfl : fl ≤ c.H.length) {s bytes l k : Nat} {z : List Value} {x y : AOpd} {x' y' : Operand} {t e : TypeId}
    (ho : o.op = .makeSlice t x' y') (h1 : chkOpd T x x' = true) (h2 : chkOpd T y y' = true) (hu : P.underlying t = some (.slice e)) (hsz : sizeIs P e s = true) (hby : bytesIs P e bytes = true) (hz : zeroIs P e z = true)
    (hs0 : 0 < s) (hl : natOf (getOpd tm x) = some l) (hk : natOf (getOpd tm y) = some k) (hle : l ≤ k) (hroom : k * bytes ≤ 2 ^ 40) (hk40 : k ≤ 2 ^ 40) (hzl : z.length = s) :
    OpOK P (ftOf T) c fl o a (.ms c.H.length l 0 l) (c.H ++ [.blk s (List.replicate l (z.map .lit))]) := by
  obtain ⟨i, hi, his⟩ := sizeIs_spec hsz
  obtain ⟨i', v, hi', hv, hvc, hsc⟩ := zeroIs_spec hz
  rw [hi] at hi'
  cases hi'
  have hvl : v.cells.toList = z := by rw [hvc]
  have hbytes : i.bytes = bytes := by simpa [bytesIs, hi] using hby
  obtain ⟨k1, e1⟩ := natOf_inv (getOpd_rv hs htr h1) hl
  obtain ⟨k2, e2⟩ := natOf_inv (getOpd_rv hs htr h2) hk
  obtain ⟨p1, p2⟩ := rowsR_zero (FT := ftOf T) (c := c) (n := l) (m := k) hzl hsc hvl hle
  have := ok_newSlice (P := P) (o := o) (a := a) hs hfl false (cap := k) (cv := (Array.range (k * s)).map (v.cells[· % v.cells.size]!)) (t := e) (es := List.replicate l (z.map AV.lit))
    (w' := c.w.alloc (.cells ((Array.range (k * s)).map (v.cells[· % v.cells.size]!)) e (0, 0))) (n := l) (s := s) (by simp) hle (by simp) rfl rfl rfl rfl ?_ (by simp) p1 p2
  · simpa using this
  · have w1 := wrap_small (n := l) (by omega)
    have w2 := wrap_small (n := k) hk40
    have hb1 : ¬ (281474976710656 : Int) < (bytes : Int) * (k : Int) := by
      rw [← Int.natCast_mul, Nat.mul_comm]; omega
    have hlk : ¬ (k : Int) < (l : Int) := by omega
    have hl0 : ¬ (l : Int) < 0 := by omega
    have hk0 : ¬ (k : Int) < 0 := by omega
    simp [hl0, hk0, execOp, ho, Instr.makeSlice, run_underlying hu, asInt, asIntOf, e1, e2, typeInfo, hi, hbytes, w1, w2, hb1, hlk]
    by_cases hk1 : k = 0
    · subst hk1
      have e0 : Array.range 0 = #[] := rfl
      simp [sizeOf, typeInfo, hi, his, e0, newRow]
    · simp [sizeOf, typeInfo, hi, his, zeroValue, hv, newRow]
      intro h0
      have := Nat.mul_pos (Nat.pos_of_ne_zero hk1) hs0
      omega

def OptN (v : Option Value) (n : Option Nat) : Prop := (v = none ∧ n = none) ∨ ∃ k m, v = some (.int k (m : Nat)) ∧ n = some m

theorem natOpt_inv [GlobT] (hs : Sim (ftOf T) c) (htr : TR (ftOf T) c tm a.tmps) {x : Option AOpd} {y : Option Operand} {n : Option Nat} (h : chkOpt T x y = true) (hn : natOpt tm x = some n) : OptN (y.map a.eval) n := by
  unfold chkOpt at h
  split at h
  · simp only [natOpt, Option.some.injEq] at hn
    subst hn
    exact .inl ⟨rfl, rfl⟩
  · rename_i x y
    simp only [natOpt] at hn
    split at hn
    · rename_i m hm
      cases hn
      obtain ⟨k, hk⟩ := natOf_inv (getOpd_rv hs htr h) hm
      exact .inr ⟨k, m, by simp [hk], rfl⟩
    · cases hn
  · cases h

theorem sliceBound_run {k : IntKind} {m y : Nat} {code : BoundsCode} (h : m ≤ y) (w : World) : (Instr.sliceBound (.int k (m : Nat)) y code).run P w = .ok m w := by
  have h1 : (m : Int) ≤ (y : Int) := by omega
  simp [Instr.sliceBound, asIntOf, h1]

theorem sliceBounds_run [GlobT] {isS : Bool} {len cap : Nat} {vlo vhi vmx : Option Value} {lo hi mx : Option Nat} (h1 : OptN vlo lo) (h2 : OptN vhi hi) (h3 : OptN vmx mx)
    (hm : mx.getD cap ≤ cap) (hh : hi.getD len ≤ mx.getD cap) (hl : lo.getD 0 ≤ hi.getD len) (hx : mx.isSome = true → hi.isSome = true) (w : World) :
    (Instr.sliceBounds isS len cap vlo vhi vmx).run P w = .ok (lo.getD 0, hi.getD len, mx.getD cap) w := by
  unfold Instr.sliceBounds
  rcases h3 with ⟨rfl, rfl⟩ | ⟨k3, m3, rfl, rfl⟩ <;> rcases h2 with ⟨rfl, rfl⟩ | ⟨k2, m2, rfl, rfl⟩ <;> rcases h1 with ⟨rfl, rfl⟩ | ⟨k1, m1, rfl, rfl⟩ <;> simp at hm hh hl hx ⊢ <;>
    simp [sliceBound_run, hm, hh, hl]

theorem slice_run [GlobT] {t e : TypeId} {s len cap : Nat} {ad : Option Addr} {vlo vhi vmx : Option Value} {lo hi mx : Option Nat} (hu : P.underlying t = some (.slice e)) (hsz : sizeIs P e s = true)
    (h1 : OptN vlo lo) (h2 : OptN vhi hi) (h3 : OptN vmx mx)
    (hm : mx.getD cap ≤ cap) (hh : hi.getD len ≤ mx.getD cap) (hl : lo.getD 0 ≤ hi.getD len) (hx : mx.isSome = true → hi.isSome = true) (w : World) :
    (Instr.sliceAt t (.slice ad len cap) vlo vhi vmx).run P w =
      .ok (.slice (if mx.getD cap = lo.getD 0 then ad else ad.map (·.add (lo.getD 0 * s))) (hi.getD len - lo.getD 0) (mx.getD cap - lo.getD 0)) w := by
  obtain ⟨i, hi', his⟩ := sizeIs_spec hsz
  simp [Instr.sliceAt, Instr.slice, run_underlying hu, sliceBounds_run h1 h2 h3 hm hh hl hx, sizeOf, typeInfo, hi', his]

theorem headLen_eq {s s' : Nat} {es : List (List AV)} (h : headLen s es = true) (hl : ∀ e ∈ es, e.length = s') (hne : es ≠ []) : s' = s := by
  cases es with
  | nil => exact (hne rfl).elim
  | cons e r =>
    simp only [headLen, beq_iff_eq] at h
    rw [← hl e (by simp), h]

theorem cellE_sub [GlobT] {es : List (List AV)} {h l i j : Nat} {x : AV} (hx : cellE ((es.take h).drop l) i j = some x) : cellE es (l + i) j = some x := by
  obtain ⟨e, h1, h2⟩ := cellE_some hx
  rw [List.getElem?_drop, List.getElem?_take] at h1
  split at h1
  · simp [cellE, h1, h2]
  · cases h1

/-- A part of a slice in memory that is never written. -/
theorem rp_sub [GlobT] {w : World} {I : Nat → Prop} {f f' : Bool} {es : List (List AV)} {s l h m len cap : Nat} {ad : Option Addr} (hp : RP w I (.sl f es) (.slice ad len cap)) (hs : headLen s es = true)
    (hlh : l ≤ h) (hhm : h ≤ m) (hle : h ≤ es.length) (hf : f' = true → m = h) :
    RP w I (.sl f' ((es.take h).drop l)) (.slice (if m = l then ad else ad.map (·.add (l * s))) (h - l) (m - l)) := by
  by_cases he : h = l
  · subst he
    have : (es.take h).drop h = [] := List.drop_eq_nil_of_le (by simp; omega)
    rw [this, Nat.sub_self]
    exact .nil f' _ _ (fun e => by have := hf e; omega)
  · cases hp with
    | nil => simp at hle; omega
    | sl _ _ b off _ cc T fz s' vals g1 g2 g3 g4 g5 g6 g7 g8 =>
      have es' : s' = s := headLen_eq hs g4 g1
      subst es'
      have hlen : ((es.take h).drop l).length = h - l := by simp; omega
      rw [if_neg (by omega), ← hlen]
      simp only [Option.map_some, addr_add]
      refine .sl f' _ b (off + l * s') (m - l) cc T fz s' (fun i j => vals (l + i) j) ?_ g2 g3 ?_ (by omega) (fun e => by have := hf e; omega) ?_ ?_
      · intro e; rw [e] at hlen; simp at hlen; omega
      · intro e he'; exact g4 e (List.mem_of_mem_take (List.mem_of_mem_drop he'))
      · intro i j x hx
        have := g7 _ _ x (cellE_sub hx)
        rwa [show off + ((l + i) * s' + j) = off + l * s' + (i * s' + j) by rw [Nat.add_mul]; omega] at this
      · intro i j x hx
        exact g8 _ _ x (cellE_sub hx)

theorem rp_cap {w : World} {I : Nat → Prop} {f : Bool} {es : List (List AV)} {v : Value} (hp : RP w I (.sl f es) v) : ∃ ad cap, v = .slice ad es.length cap ∧ es.length ≤ cap ∧ (f = true → cap = es.length) := by
  cases hp with
  | nil _ ad cap hf => exact ⟨ad, cap, rfl, Nat.zero_le _, hf⟩
  | sl _ _ b off cap cc T fz s' vals g1 g2 g3 g4 g5 g6 g7 g8 => exact ⟨_, cap, rfl, g5, g6⟩

theorem op_slice [GlobT] (hs : Sim (ftOf T) c) (htr : TR (ftOf T) c tm a.tmps) {x : AOpd} {y : Operand} {lo hi mx : Option AOpd} {lo' hi' mx' : Option Operand} {t e : TypeId} {s : Nat} {nlo nhi nmx : Option Nat} {v : AV}
    (ho : o.op = .slice t y lo' hi' mx') (h0 : chkOpd T x y = true) (h1 : chkOpt T lo lo' = true) (h2 : chkOpt T hi hi' = true) (h3 : chkOpt T mx mx' = true)
    (hu : P.underlying t = some (.slice e)) (hsz : sizeIs P e s = true) (n1 : natOpt tm lo = some nlo) (n2 : natOpt tm hi = some nhi) (n3 : natOpt tm mx = some nmx)
    (hv : sliceA c.H s (getOpd tm x) nlo nhi nmx = some v) : OpOK P (ftOf T) c fl o a v c.H := by
  have hx := getOpd_rv hs htr h0
  have o1 := natOpt_inv hs htr h1 n1
  have o2 := natOpt_inv hs htr h2 n2
  have o3 := natOpt_inv hs htr h3 n3
  have hexec : ∀ (u r : Value), a.eval y = u → (Instr.sliceAt t u (lo'.map a.eval) (hi'.map a.eval) (mx'.map a.eval)).run P c.w = .ok r c.w → (execOp a.eval o).run P c.w = .ok (.value r) c.w := by
    intro u r hu' hr
    subst hu'
    simp only [execOp, ho, Sem.run_bind, hr, Result.andThen_ok, Sem.run_pure]
  unfold sliceA at hv
  split at hv
  · rename_i hxe
    rw [hxe] at hx
    split at hv
    · rename_i hc
      cases hv
      obtain ⟨c1, c2, c3, c4⟩ := hc
      refine ok_same (cv := nilS) hs ?_ (RV.lit _)
      have := slice_run (P := P) (ad := none) (len := 0) (cap := 0) hu hsz o1 o2 o3 (by omega) (by omega) (by omega) (by simpa using c4) c.w
      simp only [execOp, ho, hx.lit_inv, Sem.run_bind, this, Result.andThen_ok, Sem.run_pure, c1, c2, c3]
      rfl
    · cases hv
  · rename_i f es hxe
    rw [hxe] at hx
    have hp := hx.sl_inv
    obtain ⟨ad, cap, hav, hcap, hfull⟩ := rp_cap hp
    rw [hav] at hp
    split at hv
    · simp only [] at hv
      split at hv
      · rename_i hc
        cases hv
        have hrun := slice_run (P := P) (ad := ad) (len := es.length) (cap := cap) hu hsz o1 o2 o3 (by simp) (by simp; omega) (by simpa using hc.1) (by simp) c.w
        refine ok_same hs (hexec _ _ hav hrun) (.pure _ _ (rp_sub (m := cap) hp hc.2.2 hc.1 (by omega) hc.2.1 ?_))
        intro e
        simp only [Bool.and_eq_true, beq_iff_eq] at e
        rw [hfull e.1, e.2]
      · cases hv
    · rename_i m
      split at hv
      · cases hv
      · rename_i h
        simp only [] at hv
        split at hv
        · rename_i hc
          cases hv
          have hrun := slice_run (P := P) (ad := ad) (len := es.length) (cap := cap) hu hsz o1 o2 o3 (by simp; omega) (by simp; omega) (by simpa using hc.1) (by simp) c.w
          refine ok_same hs (hexec _ _ hav hrun) (.pure _ _ ?_)
          simp only [Option.getD_some]
          refine rp_sub hp hc.2.2.2 hc.1 hc.2.1 (by omega) ?_
          intro e
          simpa using (beq_iff_eq.1 e).symm
        · cases hv
  · rename_i id tot off len hxe
    rw [hxe] at hx
    obtain ⟨ad, cap, s0, n0, hav, g1, g2, g3, g4⟩ := hx.ms_inv
    split at hv
    · simp only [] at hv
      split at hv
      · rename_i s' es hob
        split at hv
        · rename_i hc
          cases hv
          obtain ⟨c1, c2, rfl⟩ := hc
          rw [shp_of hob] at g1
          cases g1
          have hrun := slice_run (P := P) (ad := ad) (len := len) (cap := cap) hu hsz o1 o2 o3 (by simp) (by simp; omega) (by simpa using c1) (by simp) c.w
          refine ok_same hs (hexec _ _ hav hrun) ?_
          simp only [Option.getD_none]
          refine .ms id tot _ _ _ _ s0 _ (shp_of hob) g2 (by omega) fun et => ?_
          obtain ⟨m1, m2⟩ := g4 et
          refine ⟨by omega, ?_⟩
          rcases m2 with ⟨m3, m4, m5, m6⟩ | ⟨b, cc, Ty, a', m3, m4, m5, m6, m7⟩
          · subst m5
            exact .inl ⟨m3, m4, by split <;> rfl, by omega⟩
          · refine .inr ⟨b, cc, Ty, if cap = nlo.getD 0 then a' else a'.add (nlo.getD 0 * s0), m3, m4, ?_, ?_, ?_⟩
            · rw [← m5]; congr 1; omega
            · subst m6; split <;> rfl
            · intro hne
              rw [if_neg (by omega), m7 (by omega), addr_add, Nat.add_mul]
        · cases hv
      · cases hv
    · rename_i m
      split at hv
      · cases hv
      · rename_i h
        simp only [] at hv
        split at hv
        · rename_i hc
          cases hv
          obtain ⟨c1, c2, c3⟩ := hc
          have hrun := slice_run (P := P) (ad := ad) (len := len) (cap := cap) hu hsz o1 o2 o3 (by simp; omega) (by simp; omega) (by simp; omega) (by simp) c.w
          refine ok_same hs (hexec _ _ hav hrun) ?_
          simp only [Option.getD_some]
          have e1 : h - nlo.getD 0 = 0 := by omega
          have e2 : m - nlo.getD 0 = 0 := by omega
          rw [e1, e2]
          exact .pure _ _ (.nil true _ 0 (fun _ => rfl))
        · cases hv
  · cases hv

end
end Go.Proofs.YtanonfpdkoijnaaGreatDoor.Av
