/- A part of the proof of EditChecksCardSaid. -/
import Derived.Test.YtmflphfmefakfaaGreatDoorAvOps4
import Derived.IntWalk
import Derived.Laws.BytesString
set_option linter.all false
namespace Go.Proofs.YtmflphfmefakfaaGreatDoor.Av
open Go
section
variable {P : Program} {T : List AFun} {c : Ctx} {fl : Nat} {o : Oper} {a : Act} {tm : List AV}
theorem toP_rp [GlobT] {FT : Nat → Option Nat} {x : AV} {v : Value} (h : RV FT c x v) : RP c.w (Imm c) (toP x) v := by
 cases h with
 | pure _ _ hp =>
  have := nrm_rp hp
  cases hp with
  | undef v => exact .undef v
  | lit v => exact this
  | nil f a' cap hf => exact this
  | sl f es b off cap cc T fz s vals h1 h2 h3 h4 h5 h6 h7 h8 => exact this
 | _ => exact .undef _
theorem cellE_map [GlobT] {f : AV → AV} {es : List (List AV)} {i j : Nat} {x : AV} (h : cellE (es.map fun e => e.map f) i j = some x) : ∃ y, cellE es i j = some y ∧ x = f y := by
 obtain ⟨e1, h1, h2⟩ := cellE_some h
 simp only [List.getElem?_map, Option.map_eq_some_iff] at h1
 obtain ⟨e, he, rfl⟩ := h1
 simp only [List.getElem?_map, Option.map_eq_some_iff] at h2
 obtain ⟨y, hy, rfl⟩ := h2
 exact ⟨y, by simp [cellE, he, hy], rfl⟩
theorem ok_newSlice [GlobT] (hs : Sim (ftOf T) c) (hfl : fl ≤ c.H.length) {s n cap : Nat} {es : List (List AV)} {cv : Array Value} {t : TypeId} {w' : World} (pu : Bool)
  (hn : es.length = n) (hle : n ≤ cap) (hpu : pu = true → cap = n) (hh : w'.heap = c.w.heap.push (.cells cv t (0, 0))) (h1 : w'.os = c.w.os) (h2 : w'.tape = c.w.tape) (h3 : w'.output = c.w.output)
  (hr : (execOp a.eval o).run P c.w = .ok (.value (.slice (some ⟨c.w.heap.size, 0, none⟩) n cap)) w')
  (hsz : cv.size = cap * s) (hl : ∀ e ∈ es, e.length = s) (hc : ∀ i j x, cellE es i j = some x → ∃ v, cv[i * s + j]? = some v ∧ scalarB v = true ∧ RV (ftOf T) c x v) :
  OpOK P (ftOf T) c fl o a (if pu then .sl true (es.map fun e => e.map toP) else .ms c.H.length n 0 n) (if pu then c.H else c.H ++ [.blk s es]) := by
 cases pu with
 | true =>
  have hcap := hpu rfl
  subst hcap
  simp only [if_true]
  have hst := step_push (fl := fl) hs hh h1 h2 h3
  refine ok_value (β' := c.β) hr hst (sim_push hs hh h1 h2 h3) (.pure _ _ ?_)
  have himm : Imm ⟨w', c.X, c.β, c.H⟩ c.w.heap.size := ⟨hs.fresh _ (Nat.le_refl _), fun id hid => by have := hs.lt hid; omega⟩
  by_cases he : es = []
  ·subst he
   simp only [List.length_nil] at hn
   subst hn
   exact .nil true _ 0 (fun _ => rfl)
  ·have hlen : (es.map fun e => e.map toP).length = cap := by simpa using hn
   have := RP.sl (w := w') (I := Imm ⟨w', c.X, c.β, c.H⟩) true (es.map fun e => e.map toP) c.w.heap.size 0 cap cv t (0, 0) s (fun i j => (cv[i * s + j]?).getD undefV) (by simpa using he) himm
    (by simp [hh]) (fun e he => by simp only [List.mem_map] at he; obtain ⟨e0, h0, rfl⟩ := he; simpa using hl e0 h0) (by omega) (fun _ => hlen.symm)
    (fun i j x hx => by
     obtain ⟨y, hy, rfl⟩ := cellE_map hx
     obtain ⟨v, g1, g2, g3⟩ := hc i j y hy
     simp [g1, g2])
    (fun i j x hx => by
     obtain ⟨y, hy, rfl⟩ := cellE_map hx
     obtain ⟨v, g1, g2, g3⟩ := hc i j y hy
     simp only [g1, Option.getD_some]
     exact toP_rp (g3.step hst))
   rw [hlen] at this
   exact this
 | false =>
  simp only [Bool.false_eq_true, if_false]
  refine ok_value (β' := upd c.β c.H.length c.w.heap.size) hr (step_new hfl hh h1 h2 h3 (fun id b hb => hs.lt hb))
   (sim_new hs hh h1 h2 h3 ?_ ?_ ?_ (fun _ h => by cases h)) ?_
  ·intro s' es' he; cases he; exact hl
  ·intro s' es' he; cases he
   exact ⟨cv, t, rfl, by rw [hsz, hn]; exact Nat.mul_le_mul_right s hle, hc⟩
  ·intro ents he; cases he
  ·refine .ms _ n 0 n _ cap s n (by simp [shp, hn]) (Nat.le_refl _) hle fun _ => ⟨by omega, .inr ⟨c.w.heap.size, cv, t, ⟨c.w.heap.size, 0, none⟩, upd_same _ _ _, by simp [hh], by simp [hsz], rfl, fun _ => by simp⟩⟩
theorem op_buildSl [GlobT] (hs : Sim (ftOf T) c) (htr : TR (ftOf T) c tm a.tmps) (hfl : fl ≤ c.H.length) {pu : Bool} {s n : Nat} {z : List Value} {ps : List (Nat × AOpd)} {qs : Array (Nat × Operand)} {t e : TypeId} {es : List (List AV)}
  (ho : o.op = .buildSlice t n qs) (hu : P.underlying t = some (.slice e)) (hsz : sizeIs P e s = true) (hz : zeroIs P e z = true) (hzl : z.length = s) (hs0 : 0 < s) (hsm : n * s ≤ 2 ^ 24)
  (hk : chkElems T ps qs.toList = true) (hf : fillE s (List.replicate n (z.map .lit)) (ps.map fun (i, x) => (i, getOpd tm x)) = some es) :
  OpOK P (ftOf T) c fl o a (if pu then .sl true (es.map fun e => e.map toP) else .ms c.H.length n 0 n) (if pu then c.H else c.H ++ [.blk s es]) := by
 obtain ⟨i, hi, his⟩ := sizeIs_spec hsz
 obtain ⟨i', v, hi', hv, hvc, hsc⟩ := zeroIs_spec hz
 rw [hi] at hi'
 cases hi'
 have hvl : v.cells.toList = z := by rw [hvc]
 have hzr := rowsR_zero (FT := ftOf T) (c := c) (n := n) (m := n) hzl hsc hvl (Nat.le_refl _)
 have hrow : RowsR (ftOf T) c s (List.replicate n (z.map AV.lit)) ((Array.range (n * s)).map (v.cells[· % v.cells.size]!)) := ⟨by simp, hzr.1, hzr.2⟩
 obtain ⟨hl, r, k1, k2⟩ := fillE_rv hs htr ps qs.toList _ es _ hk hrow hf
 have hen : es.length = n := by simpa using hl
 have hql : (qs.map fun (i, x) => (i, a.eval x)).toList = qs.toList.map fun (i, x) => (i, a.eval x) := by simp
 by_cases hn0 : n = 0
 ·subst hn0
  have he : es = [] := List.eq_nil_of_length_eq_zero hen
  subst he
  have hr : r = #[] := Array.eq_empty_of_size_eq_zero (by simpa using k2.1)
  subst hr
  refine ok_newSlice hs hfl pu (cap := 0) (cv := #[]) (t := e) (w' := c.w.alloc (.cells #[] e (0, 0))) rfl (Nat.le_refl _) (fun _ => rfl) rfl rfl rfl rfl ?_ (by simp) (by simp) (fun i j x hx => by simp [cellE] at hx)
  have e0 : Array.range 0 = #[] := rfl
  have k1' : Instr.fill (fun i => some (i * s, s)) #[] (qs.toList.map fun x => (x.fst, a.eval x.snd)) = some #[] := by simpa [e0] using k1
  simp [execOp, ho, Instr.buildSlice, run_underlying hu, sizeOf, typeInfo, hi, his, k1', newRow, e0]
 ·refine ok_newSlice hs hfl pu (cap := n) (cv := r) (t := e) (w' := c.w.alloc (.cells r e (0, 0))) hen (Nat.le_refl _) (fun _ => rfl) rfl rfl rfl rfl ?_ (by rw [k2.1, hen]) k2.2.1 k2.2.2
  have hrun := run_buildSlice (P := P) c.w t e n (qs.map fun (i, x) => (i, a.eval x)) r i v hu hi hv (by rw [his]; omega)
   (by rw [his]; exact Nat.ne_of_gt (Nat.mul_pos (Nat.pos_of_ne_zero hn0) hs0)) (by rw [hql, his]; exact k1)
  simp only [execOp, ho, Sem.run_bind, hrun, Result.andThen_ok, Sem.run_pure]
theorem wrap_small {n : Nat} (h : n ≤ 2 ^ 40) : IntKind.i64.wrap (n : Int) = n := by
 exact IntWalk.i64_in _ (by omega)
theorem op_mkSlice [GlobT] (hs : Sim (ftOf T) c) (htr : TR (ftOf T) c tm a.tmps) (hfl : fl ≤ c.H.length) {s bytes l k : Nat} {z : List Value} {x y : AOpd} {x' y' : Operand} {t e : TypeId}
  (ho : o.op = .makeSlice t x' y') (h1 : chkOpd T x x' = true) (h2 : chkOpd T y y' = true) (hu : P.underlying t = some (.slice e)) (hsz : sizeIs P e s = true) (hby : bytesIs P e bytes = true) (hz : zeroIs P e z = true)
  (hs0 : 0 < s) (hl : natOf (getOpd tm x) = some l) (hk : natOf (getOpd tm y) = some k) (hle : l ≤ k) (hroom : k * bytes ≤ 2 ^ 40) (hk40 : k ≤ 2 ^ 40) (hzl : z.length = s) :
  OpOK P (ftOf T) c fl o a (.ms c.H.length l 0 l) (c.H ++ [.blk s (List.replicate l (z.map .lit))]) := by
 obtain ⟨i, hi, his⟩ := sizeIs_spec hsz
 obtain ⟨i', v, hi', hv, hvc, hsc⟩ := zeroIs_spec hz
 rw [hi] at hi'
 cases hi'
 have hvl : v.cells.toList = z := by rw [hvc]
 have hbytes : i.bytes = bytes := by simpa [bytesIs, hi] using hby
 obtain ⟨k1, e1⟩ := natOf_inv (getOpd_rv hs htr h1) hl
 obtain ⟨k2, e2⟩ := natOf_inv (getOpd_rv hs htr h2) hk
 obtain ⟨p1, p2⟩ := rowsR_zero (FT := ftOf T) (c := c) (n := l) (m := k) hzl hsc hvl hle
 have := ok_newSlice (P := P) (o := o) (a := a) hs hfl false (cap := k) (cv := (Array.range (k * s)).map (v.cells[· % v.cells.size]!)) (t := e) (es := List.replicate l (z.map AV.lit))
  (w' := c.w.alloc (.cells ((Array.range (k * s)).map (v.cells[· % v.cells.size]!)) e (0, 0))) (n := l) (s := s) (by simp) hle (by simp) rfl rfl rfl rfl ?_ (by simp) p1 p2
 ·simpa using this
 ·have w1 := wrap_small (n := l) (by omega)
  have w2 := wrap_small (n := k) hk40
  have hb1 : ¬ (281474976710656 : Int) < (bytes : Int) * (k : Int) := by
   rw [← Int.natCast_mul, Nat.mul_comm]; omega
  have hlk : ¬ (k : Int) < (l : Int) := by omega
  have hl0 : ¬ (l : Int) < 0 := by omega
  have hk0 : ¬ (k : Int) < 0 := by omega
  simp [hl0, hk0, execOp, ho, Instr.makeSlice, run_underlying hu, asInt, asIntOf, e1, e2, typeInfo, hi, hbytes, w1, w2, hb1, hlk]
  by_cases hk1 : k = 0
  ·subst hk1
   have e0 : Array.range 0 = #[] := rfl
   simp [sizeOf, typeInfo, hi, his, e0, newRow]
  ·simp [sizeOf, typeInfo, hi, his, zeroValue, hv, newRow]
   intro h0
   have := Nat.mul_pos (Nat.pos_of_ne_zero hk1) hs0
   omega
def OptN (v : Option Value) (n : Option Nat) : Prop := (v = none ∧ n = none) ∨ ∃ k m, v = some (.int k (m : Nat)) ∧ n = some m
theorem natOpt_inv [GlobT] (hs : Sim (ftOf T) c) (htr : TR (ftOf T) c tm a.tmps) {x : Option AOpd} {y : Option Operand} {n : Option Nat} (h : chkOpt T x y = true) (hn : natOpt tm x = some n) : OptN (y.map a.eval) n := by
 unfold chkOpt at h
 split at h
 ·simp only [natOpt, Option.some.injEq] at hn
  subst hn
  exact .inl ⟨rfl, rfl⟩
 ·rename_i x y
  simp only [natOpt] at hn
  split at hn
  ·rename_i m hm
   cases hn
   obtain ⟨k, hk⟩ := natOf_inv (getOpd_rv hs htr h) hm
   exact .inr ⟨k, m, by simp [hk], rfl⟩
  ·cases hn
 ·cases h
theorem sliceBound_run {k : IntKind} {m y : Nat} {code : BoundsCode} (h : m ≤ y) (w : World) : (Instr.sliceBound (.int k (m : Nat)) y code).run P w = .ok m w := by
 have h1 : (m : Int) ≤ (y : Int) := by omega
 simp [Instr.sliceBound, asIntOf, h1]
theorem sliceBounds_run [GlobT] {isS : Bool} {len cap : Nat} {vlo vhi vmx : Option Value} {lo hi mx : Option Nat} (h1 : OptN vlo lo) (h2 : OptN vhi hi) (h3 : OptN vmx mx)
  (hm : mx.getD cap ≤ cap) (hh : hi.getD len ≤ mx.getD cap) (hl : lo.getD 0 ≤ hi.getD len) (hx : mx.isSome = true → hi.isSome = true) (w : World) :
  (Instr.sliceBounds isS len cap vlo vhi vmx).run P w = .ok (lo.getD 0, hi.getD len, mx.getD cap) w := by
 unfold Instr.sliceBounds
 rcases h3 with ⟨rfl, rfl⟩ | ⟨k3, m3, rfl, rfl⟩ <;> rcases h2 with ⟨rfl, rfl⟩ | ⟨k2, m2, rfl, rfl⟩ <;> rcases h1 with ⟨rfl, rfl⟩ | ⟨k1, m1, rfl, rfl⟩ <;> simp at hm hh hl hx ⊢ <;>
  simp [sliceBound_run, hm, hh, hl]
theorem slice_run [GlobT] {t e : TypeId} {s len cap : Nat} {ad : Option Addr} {vlo vhi vmx : Option Value} {lo hi mx : Option Nat} (hu : P.underlying t = some (.slice e)) (hsz : sizeIs P e s = true)
  (h1 : OptN vlo lo) (h2 : OptN vhi hi) (h3 : OptN vmx mx)
  (hm : mx.getD cap ≤ cap) (hh : hi.getD len ≤ mx.getD cap) (hl : lo.getD 0 ≤ hi.getD len) (hx : mx.isSome = true → hi.isSome = true) (w : World) :
  (Instr.sliceAt t (.slice ad len cap) vlo vhi vmx).run P w =
   .ok (.slice (if mx.getD cap = lo.getD 0 then ad else ad.map (·.add (lo.getD 0 * s))) (hi.getD len - lo.getD 0) (mx.getD cap - lo.getD 0)) w := by
 obtain ⟨i, hi', his⟩ := sizeIs_spec hsz
 simp [Instr.sliceAt, Instr.slice, run_underlying hu, sliceBounds_run h1 h2 h3 hm hh hl hx, sizeOf, typeInfo, hi', his]
theorem headLen_eq {s s' : Nat} {es : List (List AV)} (h : headLen s es = true) (hl : ∀ e ∈ es, e.length = s') (hne : es ≠ []) : s' = s := by
 cases es with
 | nil => exact (hne rfl).elim
 | cons e r =>
  simp only [headLen, beq_iff_eq] at h
  rw [← hl e (by simp), h]
theorem cellE_sub [GlobT] {es : List (List AV)} {h l i j : Nat} {x : AV} (hx : cellE ((es.take h).drop l) i j = some x) : cellE es (l + i) j = some x := by
 obtain ⟨e, h1, h2⟩ := cellE_some hx
 rw [List.getElem?_drop, List.getElem?_take] at h1
 split at h1
 ·simp [cellE, h1, h2]
 ·cases h1
theorem rp_sub [GlobT] {w : World} {I : Nat → Prop} {f f' : Bool} {es : List (List AV)} {s l h m len cap : Nat} {ad : Option Addr} (hp : RP w I (.sl f es) (.slice ad len cap)) (hs : headLen s es = true)
  (hlh : l ≤ h) (hhm : h ≤ m) (hle : h ≤ es.length) (hf : f' = true → m = h) :
  RP w I (.sl f' ((es.take h).drop l)) (.slice (if m = l then ad else ad.map (·.add (l * s))) (h - l) (m - l)) := by
 by_cases he : h = l
 ·subst he
  have : (es.take h).drop h = [] := List.drop_eq_nil_of_le (by simp; omega)
  rw [this, Nat.sub_self]
  exact .nil f' _ _ (fun e => by have := hf e; omega)
 ·cases hp with
  | nil => simp at hle; omega
  | sl _ _ b off _ cc T fz s' vals g1 g2 g3 g4 g5 g6 g7 g8 =>
   have es' : s' = s := headLen_eq hs g4 g1
   subst es'
   have hlen : ((es.take h).drop l).length = h - l := by simp; omega
   rw [if_neg (by omega), ← hlen]
   simp only [Option.map_some, addr_add]
   refine .sl f' _ b (off + l * s') (m - l) cc T fz s' (fun i j => vals (l + i) j) ?_ g2 g3 ?_ (by omega) (fun e => by have := hf e; omega) ?_ ?_
   ·intro e; rw [e] at hlen; simp at hlen; omega
   ·intro e he'; exact g4 e (List.mem_of_mem_take (List.mem_of_mem_drop he'))
   ·intro i j x hx
    have := g7 _ _ x (cellE_sub hx)
    rwa [show off + ((l + i) * s' + j) = off + l * s' + (i * s' + j) by rw [Nat.add_mul]; omega] at this
   ·intro i j x hx
    exact g8 _ _ x (cellE_sub hx)
theorem rp_cap {w : World} {I : Nat → Prop} {f : Bool} {es : List (List AV)} {v : Value} (hp : RP w I (.sl f es) v) : ∃ ad cap, v = .slice ad es.length cap ∧ es.length ≤ cap ∧ (f = true → cap = es.length) := by
 cases hp with
 | nil _ ad cap hf => exact ⟨ad, cap, rfl, Nat.zero_le _, hf⟩
 | sl _ _ b off cap cc T fz s' vals g1 g2 g3 g4 g5 g6 g7 g8 => exact ⟨_, cap, rfl, g5, g6⟩
theorem op_slice [GlobT] (hs : Sim (ftOf T) c) (htr : TR (ftOf T) c tm a.tmps) {x : AOpd} {y : Operand} {lo hi mx : Option AOpd} {lo' hi' mx' : Option Operand} {t e : TypeId} {s : Nat} {nlo nhi nmx : Option Nat} {v : AV}
  (ho : o.op = .slice t y lo' hi' mx') (h0 : chkOpd T x y = true) (h1 : chkOpt T lo lo' = true) (h2 : chkOpt T hi hi' = true) (h3 : chkOpt T mx mx' = true)
  (hu : P.underlying t = some (.slice e)) (hsz : sizeIs P e s = true) (n1 : natOpt tm lo = some nlo) (n2 : natOpt tm hi = some nhi) (n3 : natOpt tm mx = some nmx)
  (hv : sliceA c.H s (getOpd tm x) nlo nhi nmx = some v) : OpOK P (ftOf T) c fl o a v c.H := by
 have hx := getOpd_rv hs htr h0
 have o1 := natOpt_inv hs htr h1 n1
 have o2 := natOpt_inv hs htr h2 n2
 have o3 := natOpt_inv hs htr h3 n3
 have hexec : ∀ (u r : Value), a.eval y = u → (Instr.sliceAt t u (lo'.map a.eval) (hi'.map a.eval) (mx'.map a.eval)).run P c.w = .ok r c.w → (execOp a.eval o).run P c.w = .ok (.value r) c.w := by
  intro u r hu' hr
  subst hu'
  simp only [execOp, ho, Sem.run_bind, hr, Result.andThen_ok, Sem.run_pure]
 unfold sliceA at hv
 split at hv
 ·rename_i hxe
  rw [hxe] at hx
  split at hv
  ·rename_i hc
   cases hv
   obtain ⟨c1, c2, c3, c4⟩ := hc
   refine ok_same (cv := nilS) hs ?_ (RV.lit _)
   have := slice_run (P := P) (ad := none) (len := 0) (cap := 0) hu hsz o1 o2 o3 (by omega) (by omega) (by omega) (by simpa using c4) c.w
   simp only [execOp, ho, hx.lit_inv, Sem.run_bind, this, Result.andThen_ok, Sem.run_pure, c1, c2, c3]
   rfl
  ·cases hv
 ·rename_i f es hxe
  rw [hxe] at hx
  have hp := hx.sl_inv
  obtain ⟨ad, cap, hav, hcap, hfull⟩ := rp_cap hp
  rw [hav] at hp
  split at hv
  ·simp only [] at hv
   split at hv
   ·rename_i hc
    cases hv
    have hrun := slice_run (P := P) (ad := ad) (len := es.length) (cap := cap) hu hsz o1 o2 o3 (by simp) (by simp; omega) (by simpa using hc.1) (by simp) c.w
    refine ok_same hs (hexec _ _ hav hrun) (.pure _ _ (rp_sub (m := cap) hp hc.2.2 hc.1 (by omega) hc.2.1 ?_))
    intro e
    simp only [Bool.and_eq_true, beq_iff_eq] at e
    rw [hfull e.1, e.2]
   ·cases hv
  ·rename_i m
   split at hv
   ·cases hv
   ·rename_i h
    simp only [] at hv
    split at hv
    ·rename_i hc
     cases hv
     have hrun := slice_run (P := P) (ad := ad) (len := es.length) (cap := cap) hu hsz o1 o2 o3 (by simp; omega) (by simp; omega) (by simpa using hc.1) (by simp) c.w
     refine ok_same hs (hexec _ _ hav hrun) (.pure _ _ ?_)
     simp only [Option.getD_some]
     refine rp_sub hp hc.2.2.2 hc.1 hc.2.1 (by omega) ?_
     intro e
     simpa using (beq_iff_eq.1 e).symm
    ·cases hv
 ·rename_i id tot off len hxe
  rw [hxe] at hx
  obtain ⟨ad, cap, s0, n0, hav, g1, g2, g3, g4⟩ := hx.ms_inv
  split at hv
  ·simp only [] at hv
   split at hv
   ·rename_i s' es hob
    split at hv
    ·rename_i hc
     cases hv
     obtain ⟨c1, c2, rfl⟩ := hc
     rw [shp_of hob] at g1
     cases g1
     have hrun := slice_run (P := P) (ad := ad) (len := len) (cap := cap) hu hsz o1 o2 o3 (by simp) (by simp; omega) (by simpa using c1) (by simp) c.w
     refine ok_same hs (hexec _ _ hav hrun) ?_
     simp only [Option.getD_none]
     refine .ms id tot _ _ _ _ s0 _ (shp_of hob) g2 (by omega) fun et => ?_
     obtain ⟨m1, m2⟩ := g4 et
     refine ⟨by omega, ?_⟩
     rcases m2 with ⟨m3, m4, m5, m6⟩ | ⟨b, cc, Ty, a', m3, m4, m5, m6, m7⟩
     ·subst m5
      exact .inl ⟨m3, m4, by split <;> rfl, by omega⟩
     ·refine .inr ⟨b, cc, Ty, if cap = nlo.getD 0 then a' else a'.add (nlo.getD 0 * s0), m3, m4, ?_, ?_, ?_⟩
      ·rw [← m5]; congr 1; omega
      ·subst m6; split <;> rfl
      ·intro hne
       rw [if_neg (by omega), m7 (by omega), addr_add, Nat.add_mul]
    ·cases hv
   ·cases hv
  ·rename_i m
   split at hv
   ·cases hv
   ·rename_i h
    simp only [] at hv
    split at hv
    ·rename_i hc
     cases hv
     obtain ⟨c1, c2, c3⟩ := hc
     have hrun := slice_run (P := P) (ad := ad) (len := len) (cap := cap) hu hsz o1 o2 o3 (by simp; omega) (by simp; omega) (by simp; omega) (by simp) c.w
     refine ok_same hs (hexec _ _ hav hrun) ?_
     simp only [Option.getD_some]
     have e1 : h - nlo.getD 0 = 0 := by omega
     have e2 : m - nlo.getD 0 = 0 := by omega
     rw [e1, e2]
     exact .pure _ _ (.nil true _ 0 (fun _ => rfl))
    ·cases hv
 ·cases hv
end
end Go.Proofs.YtmflphfmefakfaaGreatDoor.Av
namespace Go.Proofs.YtmflphfmefakfaaGreatDoor.Av
open Go
section
variable {P : Program} {T : List AFun} {c : Ctx} {fl : Nat} {o : Oper} {a : Act} {tm : List AV}
theorem op_strSlice [GlobT] (hs : Sim (ftOf T) c) (htr : TR (ftOf T) c tm a.tmps) {x : AOpd} {y : Operand} {lo hi : Option AOpd} {lo' hi' : Option Operand} {t : TypeId} {nlo nhi : Option Nat} {s : ByteArray}
  (ho : o.op = .slice t y lo' hi' none) (h0 : chkOpd T x y = true) (h1 : chkOpt T lo lo' = true) (h2 : chkOpt T hi hi' = true) (hu : P.underlying t = some .string)
  (n1 : natOpt tm lo = some nlo) (n2 : natOpt tm hi = some nhi) (hx : getOpd tm x = .lit (.string s)) (hc : nlo.getD 0 ≤ nhi.getD s.size ∧ nhi.getD s.size ≤ s.size) :
  OpOK P (ftOf T) c fl o a (.lit (.string (s.extract (nlo.getD 0) (nhi.getD s.size)))) c.H := by
 have hv := getOpd_rv hs htr h0
 rw [hx] at hv
 have o1 := natOpt_inv hs htr h1 n1
 have o2 := natOpt_inv hs htr h2 n2
 refine ok_same (cv := .string (s.extract (nlo.getD 0) (nhi.getD s.size))) hs ?_ (RV.lit _)
 have := sliceBounds_run (P := P) (isS := false) (len := s.size) (cap := s.size) (vmx := none) (mx := none) o1 o2 (.inl ⟨rfl, rfl⟩) (by simp) (by simpa using hc.2) hc.1 (by simp) c.w
 simp [execOp, ho, hv.lit_inv, Instr.sliceAt, Instr.slice, run_underlying hu, this]
theorem pureRun_bind' {α β : Type} (x : Sem α) (f : α → Sem β) : pureRun P (x.bind f) = (pureRun P x).bind fun a => pureRun P (f a) := by
 induction x with
 | pure a => rfl
 | program k ih => simp only [Sem.bind, pureRun]; exact ih P
 | mark m k ih => simp only [Sem.bind, pureRun]; exact ih
 | _ => rfl
theorem pureRun_bind [GlobT] {α β : Type} (x : Sem α) (f : α → Sem β) : pureRun P (x >>= f) = (pureRun P x).bind fun a => pureRun P (f a) := pureRun_bind' x f
theorem pureRun_pure {α : Type} (x : α) : pureRun P (pure x : Sem α) = some x := rfl
theorem pureRun_ite {α : Type} {p : Prop} [Decidable p] (x y : Sem α) : pureRun P (if p then x else y) = if p then pureRun P x else pureRun P y := by split <;> rfl
theorem findNow_rel [GlobT] {kind : TypeDesc} {k : Value} : ∀ (es1 es2 : List MapEntry) (i : Nat), es1.map (·.key) = es2.map (·.key) →
  (Instr.findNow kind k es1 i).map (·.map (·.1)) = (Instr.findNow kind k es2 i).map (·.map (·.1))
 | [], [], _, _ => rfl
 | e1 :: r1, e2 :: r2, i, h => by
  simp only [List.map_cons, List.cons.injEq] at h
  simp only [Instr.findNow, h.1]
  split
  ·rfl
  ·exact findNow_rel r1 r2 (i + 1) h.2
  ·rfl
 | [], _ :: _, _, h => by cases h
 | _ :: _, [], _, h => by cases h
theorem findNow_val [GlobT] {kind : TypeDesc} {k v : Value} {j : Nat} : ∀ (es : List MapEntry) (i : Nat), Instr.findNow kind k es i = some (some (j, v)) → i ≤ j ∧ ∃ e, es[j - i]? = some e ∧ v = e.val
 | [], _, h => by cases h
 | e :: r, i, h => by
  simp only [Instr.findNow] at h
  split at h
  ·cases h; exact ⟨Nat.le_refl _, e, by simp, rfl⟩
  ·obtain ⟨h1, e', h2, h3⟩ := findNow_val r (i + 1) h
   refine ⟨by omega, e', ?_, h3⟩
   have : j - i = (j - (i + 1)) + 1 := by omega
   rw [this, List.getElem?_cons_succ]; exact h2
  ·cases h
theorem findAsking_rel [GlobT] {kt : TypeId} {k : Value} : ∀ (es1 es2 : List MapEntry) (i : Nat), es1.map (·.key) = es2.map (·.key) →
  (pureRun P (Instr.findAsking kt k es1 i)).map (·.map (·.1)) = (pureRun P (Instr.findAsking kt k es2 i)).map (·.map (·.1))
 | [], [], _, _ => rfl
 | e1 :: r1, e2 :: r2, i, h => by
  simp only [List.map_cons, List.cons.injEq] at h
  simp only [Instr.findAsking, h.1, pureRun_bind, pureRun_ite, pureRun_pure]
  cases pureRun P (Op.equal kt k e2.key) with
  | none => rfl
  | some b =>
   simp only [Option.bind_some]
   split
   ·rfl
   ·exact findAsking_rel r1 r2 (i + 1) h.2
 | [], _ :: _, _, h => by cases h
 | _ :: _, [], _, h => by cases h
theorem findAsking_val [GlobT] {kt : TypeId} {k v : Value} {j : Nat} : ∀ (es : List MapEntry) (i : Nat), pureRun P (Instr.findAsking kt k es i) = some (some (j, v)) → i ≤ j ∧ ∃ e, es[j - i]? = some e ∧ v = e.val
 | [], _, h => by simp [Instr.findAsking, pureRun_pure] at h
 | e :: r, i, h => by
  simp only [Instr.findAsking, pureRun_bind, pureRun_ite, pureRun_pure] at h
  cases hq : pureRun P (Op.equal kt k e.key) with
  | none => rw [hq] at h; cases h
  | some b =>
   rw [hq] at h
   simp only [Option.bind_some] at h
   split at h
   ·cases h; exact ⟨Nat.le_refl _, e, by simp, rfl⟩
   ·obtain ⟨h1, e', h2, h3⟩ := findAsking_val r (i + 1) h
    refine ⟨by omega, e', ?_, h3⟩
    have : j - i = (j - (i + 1)) + 1 := by omega
    rw [this, List.getElem?_cons_succ]; exact h2
theorem pureRun_underlying [GlobT] {t : TypeId} : pureRun P (underlying t) = P.underlying t := by
 unfold underlying
 rw [pureRun_bind]
 have : pureRun P program = some P := rfl
 rw [this]
 simp only [Option.bind_some]
 split
 ·rename_i h; rw [h]; rfl
 ·rename_i h; rw [h]; rfl
theorem findKey_rel [GlobT] {kt : TypeId} {k : Value} {es1 es2 : List MapEntry} (h : es1.map (·.key) = es2.map (·.key)) :
  (pureRun P (Instr.findKey kt k es1)).map (·.map (·.1)) = (pureRun P (Instr.findKey kt k es2)).map (·.map (·.1)) := by
 simp only [Instr.findKey, pureRun_bind, pureRun_underlying]
 cases P.underlying kt with
 | none => rfl
 | some d =>
  simp only [Option.bind_some]
  have hn := findNow_rel (kind := d) (k := k) es1 es2 0 h
  cases h1 : Instr.findNow d k es1 0 with
  | none =>
   cases h2 : Instr.findNow d k es2 0 with
   | none => exact findAsking_rel es1 es2 0 h
   | some r2 => rw [h1, h2] at hn; cases hn
  | some r1 =>
   cases h2 : Instr.findNow d k es2 0 with
   | none => rw [h1, h2] at hn; cases hn
   | some r2 => rw [h1, h2] at hn; exact hn
theorem findKey_val [GlobT] {kt : TypeId} {k v : Value} {j : Nat} {es : List MapEntry} (h : pureRun P (Instr.findKey kt k es) = some (some (j, v))) : ∃ e, es[j]? = some e ∧ v = e.val := by
 simp only [Instr.findKey, pureRun_bind, pureRun_underlying] at h
 cases hu : P.underlying kt with
 | none => rw [hu] at h; cases h
 | some d =>
  rw [hu] at h
  simp only [Option.bind_some] at h
  split at h
  ·rename_i r hr
   simp only [pureRun_pure, Option.some.injEq] at h
   subst h
   obtain ⟨_, e, h1, h2⟩ := findNow_val es 0 hr
   exact ⟨e, by simpa using h1, h2⟩
  ·obtain ⟨_, e, h1, h2⟩ := findAsking_val es 0 h
   exact ⟨e, by simpa using h1, h2⟩
def EntsR (FT : Nat → Option Nat) (c : Ctx) (ents : List (Value × AV)) (es : Array MapEntry) : Prop :=
 es.size = ents.length ∧ ∀ (i : Nat) (k : Value) (x : AV), ents[i]? = some (k, x) → ∃ e, es[i]? = some e ∧ e.key = k ∧ RV FT c x e.val
theorem entsR_keys {FT : Nat → Option Nat} {ents : List (Value × AV)} {es : Array MapEntry} (h : EntsR FT c ents es) :
  (ents.map fun e => ({ key := e.1, val := .bool false, born := 0 } : MapEntry)).map (·.key) = es.toList.map (·.key) := by
 apply List.ext_getElem?
 intro i
 simp only [List.map_map, List.getElem?_map]
 cases he : ents[i]? with
 | none =>
  have : es.toList[i]? = none := by
   rw [List.getElem?_eq_none_iff] at he ⊢
   simp only [Array.length_toList, h.1]; exact he
  rw [this]; rfl
 | some p =>
  obtain ⟨k, x⟩ := p
  obtain ⟨e, h1, h2, _⟩ := h.2 i k x he
  have : es.toList[i]? = some e := by simpa using h1
  rw [this]
  simp [h2]
theorem findA_some [GlobT] {FT : Nat → Option Nat} {kt : TypeId} {k : Value} {ents : List (Value × AV)} {es : Array MapEntry} {i : Nat} (h : EntsR FT c ents es) (hf : findA P kt k ents = some (some i)) (w : World) :
  ∃ e, es[i]? = some e ∧ (Instr.findKey kt k es.toList).run P w = .ok (some (i, e.val)) w := by
 have hr := findKey_rel (P := P) (kt := kt) (k := k) (entsR_keys h)
 unfold findA at hf
 split at hf
 ·rename_i j v hj
  cases hf
  rw [hj] at hr
  cases hq : pureRun P (Instr.findKey kt k es.toList) with
  | none => rw [hq] at hr; cases hr
  | some r =>
   rw [hq] at hr
   cases r with
   | none => cases hr
   | some p =>
    obtain ⟨j', v'⟩ := p
    have : i = j' := by simpa using hr
    subst this
    obtain ⟨e, h1, h2⟩ := findKey_val hq
    exact ⟨e, by simpa using h1, by rw [run_of_pureRun hq, h2]⟩
 ·cases hf
 ·cases hf
theorem findA_none [GlobT] {FT : Nat → Option Nat} {kt : TypeId} {k : Value} {ents : List (Value × AV)} {es : Array MapEntry} (h : EntsR FT c ents es) (hf : findA P kt k ents = some none) (w : World) :
  (Instr.findKey kt k es.toList).run P w = .ok none w := by
 have hr := findKey_rel (P := P) (kt := kt) (k := k) (entsR_keys h)
 unfold findA at hf
 split at hf
 ·cases hf
 ·rename_i hj
  rw [hj] at hr
  cases hq : pureRun P (Instr.findKey kt k es.toList) with
  | none => rw [hq] at hr; cases hr
  | some r =>
   rw [hq] at hr
   cases r with
   | none => exact run_of_pureRun hq
   | some p => cases hr
 ·cases hf
theorem entsR_of [GlobT] (hs : Sim (ftOf T) c) {id b : Nat} {ents : List (Value × AV)} (ho : c.H[id]? = some (.mp ents)) (hb : c.β id = some b) :
  ∃ es clk, c.w.heap[b]? = some (.map es clk) ∧ EntsR (ftOf T) c ents es := by
 obtain ⟨es, clk, h1, h2, h3⟩ := hs.map id ents b ho hb
 exact ⟨es, clk, h1, h2, h3⟩
theorem run_getObj_map {w : World} {b : Nat} {es : Array MapEntry} {clk : Nat} (h : w.heap[b]? = some (.map es clk)) : (getObj b).run P w = .ok (.map es clk) w := by
 simp [getObj, Sem.run, h]
theorem isEmpty_eq {FT : Nat → Option Nat} {ents : List (Value × AV)} {es : Array MapEntry} (h : EntsR FT c ents es) : es.isEmpty = ents.isEmpty := by
 have := h.1
 cases ents with
 | nil => simp at this; simp [this]
 | cons e r =>
  have : es ≠ #[] := by intro e; subst e; simp at this
  simp [this]
theorem op_lookup [GlobT] (hs : Sim (ftOf T) c) (htr : TR (ftOf T) c tm a.tmps) {kt e t : TypeId} {z m k : AOpd} {m' k' : Operand} {ok : Bool} {ents : List (Value × AV)} {kv : Value} {r v : AV} {i : TypeInfo} {zv : Value}
  (ho : o.op = .lookup t m' k' ok) (h1 : chkOpd T m m' = true) (h2 : chkOpd T k k' = true) (hu : P.underlying t = some (.map kt e)) (hi : P.info? e = some i) (hz : i.zero = some zv) (hzr : RV (ftOf T) c (getOpd tm z) zv)
  (hk : lits (getOpd tm k) = some kv) (hck : pureRun P (Instr.checkKey ents.isEmpty 10000 kt kv) = some ())
  (hm : (getOpd tm m = .lit (.map none) ∧ ents = []) ∨ ∃ id, getOpd tm m = .mp id ∧ c.H[id]? = some (.mp ents))
  (hr : (∃ i e, findA P kt kv ents = some (some i) ∧ ents[i]? = some e ∧ r = e.2 ∧ v = .lit (.bool true)) ∨ (findA P kt kv ents = some none ∧ r = getOpd tm z ∧ v = .lit (.bool false))) :
  OpOK P (ftOf T) c fl o a (if ok then .tup [r, v] else r) c.H := by
 have hm' := getOpd_rv hs htr h1
 have hkv := lits_rv (getOpd_rv hs htr h2) hk
 have hes : ∃ es : Array MapEntry, EntsR (ftOf T) c ents es ∧ ((a.eval m' = .map none ∧ es = #[]) ∨ ∃ b clk, a.eval m' = .map (some b) ∧ c.w.heap[b]? = some (.map es clk)) := by
  rcases hm with ⟨hm, rfl⟩ | ⟨id, hm, hob⟩ <;> rw [hm] at hm'
  ·exact ⟨#[], ⟨rfl, fun i k x hx => by simp at hx⟩, .inl ⟨hm'.lit_inv, rfl⟩⟩
  ·obtain ⟨b, hv, _, hb⟩ := hm'.mp_inv
   obtain ⟨es, clk, g1, g2⟩ := entsR_of hs hob hb
   exact ⟨es, g2, .inr ⟨b, clk, hv, g1⟩⟩
 obtain ⟨es, hE, hK⟩ := hes
 have hck' : (Instr.checkKey es.isEmpty 10000 kt kv).run P c.w = .ok () c.w := by rw [isEmpty_eq hE]; exact run_of_pureRun hck
 have hres : ∃ (cr : Value) (b : Bool), RV (ftOf T) c r cr ∧ v = .lit (.bool b) ∧ (Instr.lookup t (a.eval m') kv ok).run P c.w = .ok (if ok then .tuple #[cr, .bool b] else cr) c.w := by
  rcases hr with ⟨i0, en, hf, hen, rfl, rfl⟩ | ⟨hf, rfl, rfl⟩
  ·obtain ⟨e', g1, g2⟩ := findA_some hE hf c.w
   obtain ⟨k0, x0⟩ := en
   obtain ⟨e'', g3, _, g4⟩ := hE.2 i0 k0 x0 hen
   rw [g1] at g3
   cases g3
   refine ⟨e'.val, true, g4, rfl, ?_⟩
   rcases hK with ⟨hv, rfl⟩ | ⟨b, clk, hv, hb⟩
   ·simp at g1
   ·simp [Instr.lookup, run_underlying hu, hv, run_getObj_map hb, hck', g2]
  ·have g2 := findA_none hE hf c.w
   refine ⟨zv, false, hzr, rfl, ?_⟩
   rcases hK with ⟨hv, rfl⟩ | ⟨b, clk, hv, hb⟩
   ·simp only [Array.isEmpty_empty] at hck'
    simp [Instr.lookup, run_underlying hu, hv, hck', g2, zeroValue, typeInfo, hi, hz]
   ·simp [Instr.lookup, run_underlying hu, hv, run_getObj_map hb, hck', g2, zeroValue, typeInfo, hi, hz]
 obtain ⟨cr, b, k1, rfl, k3⟩ := hres
 refine ok_same (cv := if ok then .tuple #[cr, .bool b] else cr) hs (by simp [execOp, ho, hkv, k3]) ?_
 cases ok with
 | false => simpa using k1
 | true =>
  simp only [if_true]
  refine .tup _ _ (fun i => if i = 0 then cr else .bool b) rfl ?_ ?_
  ·intro i x hx
   match i with
   | 0 => rfl
   | 1 => rfl
   | n + 2 => simp at hx
  ·intro i x hx
   match i with
   | 0 => simp at hx; subst hx; simpa using k1
   | 1 => simp at hx; subst hx; exact RV.lit _
   | n + 2 => simp at hx
theorem entsR_set {FT : Nat → Option Nat} {ents : List (Value × AV)} {es : Array MapEntry} {i : Nat} {k : Value} {x : AV} {v : Value} {e : MapEntry} (h : EntsR FT c ents es) (he : es[i]? = some e) (hr : RV FT c x v) :
  EntsR FT c (ents.set i (k, x)) (es.modify i fun e => { e with key := k, val := v }) := by
 refine ⟨by simpa using h.1, fun j k' x' hx => ?_⟩
 rw [List.getElem?_set] at hx
 split at hx
 ·rename_i hij
  subst hij
  split at hx
  ·cases hx
   refine ⟨{ e with key := k, val := v }, ?_, rfl, hr⟩
   rw [Array.getElem?_modify]; simp [he]
  ·cases hx
 ·rename_i hij
  obtain ⟨e', g1, g2, g3⟩ := h.2 j k' x' hx
  refine ⟨e', ?_, g2, g3⟩
  rw [Array.getElem?_modify]; simp [hij, g1]
theorem entsR_push {FT : Nat → Option Nat} {ents : List (Value × AV)} {es : Array MapEntry} {k : Value} {x : AV} {v : Value} {n : Nat} (h : EntsR FT c ents es) (hr : RV FT c x v) :
  EntsR FT c (ents ++ [(k, x)]) (es.push { key := k, val := v, born := n }) := by
 refine ⟨by simp [h.1], fun j k' x' hx => ?_⟩
 rw [List.getElem?_append] at hx
 split at hx
 ·rename_i hj
  obtain ⟨e', g1, g2, g3⟩ := h.2 j k' x' hx
  refine ⟨e', ?_, g2, g3⟩
  rw [Array.getElem?_push, if_neg (by rw [h.1]; omega)]; exact g1
 ·rename_i hj
  rw [List.getElem?_singleton] at hx
  split at hx
  ·rename_i h0
   cases hx
   refine ⟨{ key := k, val := v, born := n }, ?_, rfl, hr⟩
   rw [Array.getElem?_push, if_pos (by rw [h.1]; omega)]
  ·cases hx
theorem op_mapUpd [GlobT] (hs : Sim (ftOf T) c) (htr : TR (ftOf T) c tm a.tmps) {kt e t : TypeId} {m k x : AOpd} {m' k' x' : Operand} {ents ents' : List (Value × AV)} {kv : Value} {id : Nat}
  (ho : o.op = .mapUpdate t m' k' x' ∨ o.op = .insert t m' k' x') (h1 : chkOpd T m m' = true) (h2 : chkOpd T k k' = true) (h3 : chkOpd T x x' = true) (hu : P.underlying t = some (.map kt e))
  (hk : lits (getOpd tm k) = some kv) (hck : pureRun P (Instr.checkKey false 10000 kt kv) = some ()) (hfl : fl ≤ id)
  (hm : getOpd tm m = .mp id) (hob : c.H[id]? = some (.mp ents))
  (hr : (∃ i en, findA P kt kv ents = some (some i) ∧ ents[i]? = some en ∧ Instr.sameBits 10000 en.1 kv = true ∧ ents' = ents.set i (kv, getOpd tm x)) ∨ (findA P kt kv ents = some none ∧ ents' = ents ++ [(kv, getOpd tm x)])) :
  OpOK P (ftOf T) c fl o a (.lit undefV) (c.H.set id (.mp ents')) := by
 have hm' := getOpd_rv hs htr h1
 rw [hm] at hm'
 have hkv := lits_rv (getOpd_rv hs htr h2) hk
 have hx := getOpd_rv hs htr h3
 obtain ⟨b, hv, _, hb⟩ := hm'.mp_inv
 obtain ⟨es, clk, g1, hE⟩ := entsR_of hs hob hb
 have hck' := run_of_pureRun (w := c.w) hck
 have hset : ∀ ob, (setObj b ob).run P c.w = .ok () { c.w with heap := c.w.heap.setIfInBounds b ob } := by
  intro ob; simp [setObj, Sem.run, g1]
 have hrun : ∃ es' clk', EntsR (ftOf T) c ents' es' ∧ (Instr.mapUpdate t (a.eval m') kv (a.eval x')).run P c.w = .ok () { c.w with heap := c.w.heap.setIfInBounds b (.map es' clk') } := by
  rcases hr with ⟨i0, en, hf, hen, hsb, rfl⟩ | ⟨hf, rfl⟩
  ·obtain ⟨e', k1, k2⟩ := findA_some hE hf c.w
   obtain ⟨k0, x0⟩ := en
   obtain ⟨e'', k3, k4, _⟩ := hE.2 i0 k0 x0 hen
   rw [k1] at k3
   cases k3
   refine ⟨es.modify i0 fun e => { e with key := kv, val := a.eval x' }, clk, entsR_set hE k1 hx, ?_⟩
   have hks : (Instr.keyThatStays e'.key kv).run P c.w = .ok kv c.w := by
    simp only at hsb
    simp [Instr.keyThatStays, k4, hsb]
   simp [Instr.mapUpdate, run_underlying hu, hv, run_getObj_map g1, hck', k2, k1, hks, hset]
  ·have k2 := findA_none hE hf c.w
   refine ⟨es.push { key := kv, val := a.eval x', born := clk }, clk + 1, entsR_push hE hx, ?_⟩
   simp [Instr.mapUpdate, run_underlying hu, hv, run_getObj_map g1, hck', k2, hset]
 obtain ⟨es', clk', hE', hrun⟩ := hrun
 refine ok_skip (β' := c.β) (w' := { c.w with heap := c.w.heap.setIfInBounds b (.map es' clk') }) ?_ (step_setMap (ob := .map es' clk') hs hfl hob hb rfl rfl rfl rfl) (sim_setMap hs hob hb rfl rfl rfl rfl hE'.1 hE'.2)
 rcases ho with ho | ho <;> simp [execOp, ho, hkv, hrun]
theorem op_delete [GlobT] (hs : Sim (ftOf T) c) (htr : TR (ftOf T) c tm a.tmps) {kt e t : TypeId} {m k : AOpd} {m' k' : Operand} {ts : Array TypeId} {ents ents' : List (Value × AV)} {kv : Value} {id : Nat}
  (ho : o.op = .call ⟨.builtin .delete, #[m', k'], ts⟩) (ht : ts[0]? = some t) (h1 : chkOpd T m m' = true) (h2 : chkOpd T k k' = true) (hu : P.underlying t = some (.map kt e))
  (hk : lits (getOpd tm k) = some kv) (hck : pureRun P (Instr.checkKey ents.isEmpty 10000 kt kv) = some ()) (hfl : fl ≤ id)
  (hm : getOpd tm m = .mp id) (hob : c.H[id]? = some (.mp ents))
  (hr : (∃ i, findA P kt kv ents = some (some i) ∧ ents' = ents.eraseIdx i) ∨ (findA P kt kv ents = some none ∧ ents' = ents)) :
  OpOK P (ftOf T) c fl o a (.lit undefV) (c.H.set id (.mp ents')) := by
 have hm' := getOpd_rv hs htr h1
 rw [hm] at hm'
 have hkv := lits_rv (getOpd_rv hs htr h2) hk
 obtain ⟨b, hv, _, hb⟩ := hm'.mp_inv
 obtain ⟨es, clk, g1, hE⟩ := entsR_of hs hob hb
 have hck' : (Instr.checkKey es.isEmpty 10000 kt kv).run P c.w = .ok () c.w := by rw [isEmpty_eq hE]; exact run_of_pureRun hck
 have hset : ∀ ob, (setObj b ob).run P c.w = .ok () { c.w with heap := c.w.heap.setIfInBounds b ob } := by
  intro ob; simp [setObj, Sem.run, g1]
 have hrun : ∃ es' clk', EntsR (ftOf T) c ents' es' ∧ (Builtin.delete_ ts o.type #[a.eval m', kv]).run P c.w = .ok (.tuple #[]) { c.w with heap := c.w.heap.setIfInBounds b (.map es' clk') } := by
  rcases hr with ⟨i0, hf, rfl⟩ | ⟨hf, rfl⟩
  ·obtain ⟨e', k1, k2⟩ := findA_some hE hf c.w
   have hlt : i0 < es.size := (Array.getElem?_eq_some_iff.1 k1).1
   refine ⟨es.eraseIdxIfInBounds i0, clk, ⟨?_, ?_⟩, ?_⟩
   ·simp only [Array.eraseIdxIfInBounds, hlt, dif_pos]
    rw [Array.size_eraseIdx, List.length_eraseIdx, hE.1]
    rw [if_pos (by rw [← hE.1]; exact hlt)]
   ·intro j k0 x0 hx
    simp only [Array.eraseIdxIfInBounds, hlt, dif_pos]
    rw [List.getElem?_eraseIdx] at hx
    rw [Array.getElem?_eraseIdx]
    split at hx
    ·rename_i hj
     rw [if_pos hj]; exact hE.2 j k0 x0 hx
    ·rename_i hj
     rw [if_neg hj]; exact hE.2 _ k0 x0 hx
   ·simp [Builtin.delete_, ht, run_underlying hu, hv, run_getObj_map g1, hck', k2, hset]
  ·have k2 := findA_none hE hf c.w
   refine ⟨es, clk, hE, ?_⟩
   simp [Builtin.delete_, ht, run_underlying hu, hv, run_getObj_map g1, hck', k2, hset]
 obtain ⟨es', clk', hE', hrun⟩ := hrun
 refine ok_value (cv := .tuple #[]) (β' := c.β) (w' := { c.w with heap := c.w.heap.setIfInBounds b (.map es' clk') }) ?_ (step_setMap (ob := .map es' clk') hs hfl hob hb rfl rfl rfl rfl) (sim_setMap hs hob hb rfl rfl rfl rfl hE'.1 hE'.2) (RV.lit _)
 simp [execOp, ho, resolve, invoke, builtin, hkv, hrun]
end
end Go.Proofs.YtmflphfmefakfaaGreatDoor.Av
namespace Go.Proofs.YtmflphfmefakfaaGreatDoor.Av
open Go
section
variable {P : Program} {T : List AFun} {c : Ctx} {fl : Nat} {o : Oper} {a : Act} {tm : List AV}
def ElemsR (FT : Nat → Option Nat) (c : Ctx) (s : Nat) (ys : List (List AV)) (news : List Value) : Prop :=
 news.length = ys.length * s ∧ ∀ i j x, cellE ys i j = some x → ∃ u, news[i * s + j]? = some u ∧ scalarB u = true ∧ RV FT c x u
theorem allLen_spec {s : Nat} {ys : List (List AV)} (h : allLen s ys = true) : ∀ e ∈ ys, e.length = s := by
 intro e he
 have := List.all_eq_true.1 h e he
 simpa using this
theorem elemsR_scalar [GlobT] {FT : Nat → Option Nat} {s : Nat} {ys : List (List AV)} {news : List Value} (hl : ∀ e ∈ ys, e.length = s) (h : ElemsR FT c s ys news) : ∀ u ∈ news, u.oneCell' = true := by
 intro u hu
 obtain ⟨p, hp⟩ := List.mem_iff_getElem?.1 hu
 have hlt : p < ys.length * s := by rw [← h.1]; exact (List.getElem?_eq_some_iff.1 hp).1
 have hs : 0 < s := by
  rcases Nat.eq_zero_or_pos s with h0 | h0
  ·subst h0; simp at hlt
  ·exact h0
 have hi : p / s < ys.length := Nat.div_lt_of_lt_mul (by rw [Nat.mul_comm]; exact hlt)
 have hj : p % s < s := Nat.mod_lt _ hs
 have he : (ys[p / s]).length = s := hl _ (List.getElem_mem hi)
 obtain ⟨u', h1, h2, _⟩ := h.2 (p / s) (p % s) ((ys[p / s])[p % s]'(by omega)) (by simp [cellE, hi, he, hj])
 rw [Nat.mul_comm, Nat.div_add_mod] at h1
 rw [hp] at h1
 cases h1
 rw [← scalar_one]; exact h2
theorem rows_list [GlobT] {FT : Nat → Option Nat} {s k b n : Nat} {cc : Array Value} {Ty : TypeId} {fz : Nat × Nat} {ys : List (List AV)} (hb : c.w.heap[b]? = some (.cells cc Ty fz)) (hs : 0 < s) (hn : ys.length = n) (hl : ∀ e ∈ ys, e.length = s)
  (h : ∀ i j x, cellE ys i j = some x → ∃ u, cc[k + (i * s + j)]? = some u ∧ scalarB u = true ∧ RV FT c x u) :
  ∃ news, ElemsR FT c s ys news ∧ ∀ (j : Nat) (v : Value), news[j]? = some v → c.w.cell? ((⟨b, k, none⟩ : Addr).add j) = some v := by
 refine ⟨(cc.toList.drop k).take (n * s), ⟨?_, ?_⟩, ?_⟩
 ·simp only [List.length_take, List.length_drop, Array.length_toList, hn]
  cases n with
  | zero => simp
  | succ m =>
   have hm : m < ys.length := by omega
   have he : (ys[m]).length = s := hl _ (List.getElem_mem hm)
   obtain ⟨u, hu, _⟩ := h m (s - 1) ((ys[m])[s - 1]'(by omega)) (by simp [cellE, hm])
   have : k + (m * s + (s - 1)) < cc.size := (Array.getElem?_eq_some_iff.1 hu).1
   rw [Nat.add_mul]; omega
 ·intro i j x hx
  obtain ⟨u, h1, h2, h3⟩ := h i j x hx
  refine ⟨u, ?_, h2, h3⟩
  obtain ⟨e, he, hj⟩ := cellE_some hx
  have hjs : j < s := by rw [← hl e (List.mem_of_getElem? he)]; exact (List.getElem?_eq_some_iff.1 hj).1
  have hi : i < n := by rw [← hn]; exact (List.getElem?_eq_some_iff.1 he).1
  rw [List.getElem?_take, if_pos (row_lt hi hjs), List.getElem?_drop]
  simpa using h1
 ·intro j v hv
  rw [addr_add, cell_of_row c.w b (k + j) cc Ty fz hb]
  rw [List.getElem?_take] at hv
  split at hv
  ·simpa using hv
  ·cases hv
theorem rd_rv [GlobT] {FT : Nat → Option Nat} (hs : Sim FT c) {y : AV} {v : Value} {ys : List (List AV)} {s : Nat} (hr : RV FT c y v) (h : rd c.H y = some ys) (hl : ∀ e ∈ ys, e.length = s) (hs0 : 0 < s) :
  ∃ xa xc news, v = .slice xa ys.length xc ∧ ys.length ≤ xc ∧ ElemsR FT c s ys news ∧ ∀ w', Drawn c.w w' → (Builtin.firstCells s ys.length v).run P w' = .ok news.toArray w' := by
 have fin : ∀ (b k xc : Nat) (news : List Value), ElemsR FT c s ys news → (∀ (j : Nat) (v : Value), news[j]? = some v → c.w.cell? ((⟨b, k, none⟩ : Addr).add j) = some v) →
   ∀ w', Drawn c.w w' → (Builtin.firstCells s ys.length (.slice (some ⟨b, k, none⟩) ys.length xc)).run P w' = .ok news.toArray w' := by
  intro b k xc news h1 h2 w' hd
  refine run_firstCells_some w' s ys.length ⟨b, k, none⟩ ys.length xc news h1.1 ?_
  intro j v hv
  rw [World.cell?_of_block (w := c.w) (by rw [hd.heap])]
  exact h2 j v hv
 have finE : ∀ (xa : Option Addr) (xc : Nat), ys = [] → ∀ w', Drawn c.w w' → (Builtin.firstCells s ys.length (.slice xa ys.length xc)).run P w' = .ok (#[] : Array Value) w' := by
  intro xa xc he w' _
  subst he
  cases xa <;> simp [Builtin.firstCells, loadCells, loadCellsFrom]
 have emp : ys = [] → ElemsR FT c s ys [] := by
  intro he; subst he; exact ⟨by simp, fun i j x hx => by simp [cellE] at hx⟩
 unfold rd at h
 split at h
 ·cases h
  exact ⟨none, 0, [], hr.lit_inv, Nat.zero_le _, emp rfl, by rw [hr.lit_inv]; exact finE none 0 rfl⟩
 ·rename_i f es
  cases h
  have hp := hr.sl_inv
  cases hp with
  | nil _ ad cap hf => exact ⟨ad, cap, [], rfl, Nat.zero_le _, emp rfl, finE ad cap rfl⟩
  | sl _ _ b off cap cc Ty fz s' vals g1 g2 g3 g4 g5 g6 g7 g8 =>
   have e : s' = s := by
    cases ys with
    | nil => exact (g1 rfl).elim
    | cons e r => rw [← g4 e (by simp), hl e (by simp)]
   subst e
   obtain ⟨news, k1, k2⟩ := rows_list (k := off) g3 hs0 rfl hl (fun i j x hx => ⟨vals i j, (g7 i j x hx).1, (g7 i j x hx).2, .pure _ _ (g8 i j x hx)⟩)
   exact ⟨_, cap, news, rfl, g5, k1, fin b off cap news k1 k2⟩
 ·rename_i id tot off len
  split at h
  ·rename_i s' es hob
   split at h
   ·rename_i htot
    cases h
    obtain ⟨ad, cap, s0, n0, hv, g1, g2, g3, g4⟩ := hr.ms_inv
    rw [shp_of hob] at g1
    cases g1
    obtain ⟨m1, m2⟩ := g4 htot.symm
    have hlen : ((es.drop off).take len).length = len := by simp; omega
    rw [hlen]
    rcases m2 with ⟨_, m3, m4, m5⟩ | ⟨b, cc, Ty, a', m3, m4, m5, m6, m7⟩
    ·subst m5
     have hl0 : len = 0 := by omega
     subst hl0
     have he : (es.drop off).take 0 = [] := by simp
     have k2 := finE ad 0 he
     simp only [hlen] at k2
     exact ⟨ad, 0, [], hv, Nat.le_refl _, emp he, by rw [hv]; exact k2⟩
    ·by_cases hl0 : len = 0
     ·subst hl0
      have he : (es.drop off).take 0 = [] := by simp
      have k2 := finE ad cap he
      simp only [hlen] at k2
      exact ⟨ad, cap, [], hv, Nat.zero_le _, emp he, by rw [hv]; exact k2⟩
     ·have ha := m7 (by omega)
      subst m6
      subst ha
      obtain ⟨cc', Ty', q1, q2, q3⟩ := hs.blk id s' es b hob m3
      rw [m4] at q1
      cases q1
      have es0 : s' = s := by
       have hne : 0 < es.length := by omega
       have hm : off < es.length := by omega
       have h1 := hs.lens id s' es hob (es[off]) (List.getElem_mem hm)
       have h2 := hl (es[off]) (by
        rw [List.mem_iff_getElem?]
        exact ⟨0, by rw [List.getElem?_take, if_pos (by omega), List.getElem?_drop]; simp [hm]⟩)
       omega
      subst es0
      obtain ⟨news, k1, k2⟩ := rows_list (FT := FT) (k := off * s') m4 hs0 rfl hl (fun i j x hx => by
       obtain ⟨e, he, hj⟩ := cellE_some hx
       rw [List.getElem?_take] at he
       split at he
       ·rw [List.getElem?_drop] at he
        obtain ⟨u, w1, w2, w3⟩ := q3 (off + i) j x (by simp [cellE, he, hj])
        exact ⟨u, by rw [← w1]; congr 1; rw [Nat.add_mul]; omega, w2, w3⟩
       ·cases he)
      have k3 := fin b (off * s') cap news k1 k2
      simp only [hlen] at k3
      exact ⟨_, cap, news, hv, by omega, k1, by rw [hv]; exact k3⟩
   ·cases h
  ·cases h
 ·cases h
end
end Go.Proofs.YtmflphfmefakfaaGreatDoor.Av
namespace Go.Proofs.YtmflphfmefakfaaGreatDoor.Av
open Go
section
variable {P : Program} {T : List AFun} {c : Ctx} {fl : Nat} {o : Oper} {a : Act} {tm : List AV}
theorem drawn_drew (w : World) : Drawn w w.drew := ⟨rfl, rfl, rfl, rfl⟩
structure Src (P : Program) (w : World) (t t' e : TypeId) (i : TypeInfo) (xv : Value) (m : Nat) (news : List Value) : Prop where
 ht : P.underlying t = some (.slice e)
 hi : P.info? e = some i
 run : ∀ (ty : TypeId) (base : Option Addr) (sLen sCap : Nat), sLen + m ≤ sCap → ∀ (w' : World),
  (∀ ad, base = some ad → (storeCells (ad.add (sLen * i.size)) news).run P w = .ok () w') → (base = none → w' = w) →
  (Builtin.append_ #[t, t'] ty #[.slice base sLen sCap, xv]).run P w = .ok (.slice base (sLen + m) sCap) w'
 grow : ∀ (ty : TypeId) (z : Value) (base : Option Addr) (sLen sCap : Nat) (olds : List Value), i.zero = some z → sCap < sLen + m → ((sLen + m : Nat) : Int) ≤ 9223372036854775807 →
  Builtin.nextslicecap (sLen + m) sCap * i.bytes ≤ 281474976710656 → (Builtin.firstCells i.size sLen (.slice base sLen sCap)).run P w.drew = .ok olds.toArray w.drew →
  ∃ cells : Array Value, cells.toList = olds ++ news ++ (Builtin.zeroCells z.cells (grownCap w (sLen + m) sCap e - (sLen + m))).toList ∧
  (Builtin.append_ #[t, t'] ty #[.slice base sLen sCap, xv]).run P w =
   .ok (.slice (some ⟨w.heap.size, 0, none⟩) (sLen + m) (grownCap w (sLen + m) sCap e)) (w.drew.alloc (.cells cells e))
theorem src_slice [GlobT] {w : World} {t t' e e' : TypeId} {i : TypeInfo} {xa : Option Addr} {xc m : Nat} {news : List Value} (ht : P.underlying t = some (.slice e)) (ht' : P.underlying t' = some (.slice e')) (hi : P.info? e = some i)
  (hf : ∀ w', Drawn w w' → (Builtin.firstCells i.size m (.slice xa m xc)).run P w' = .ok news.toArray w') : Src P w t t' e i (.slice xa m xc) m news where
 ht := ht
 hi := hi
 run := by
  intro ty base sLen sCap hroom w' hst hn
  have hf0 := hf w (Drawn.refl w)
  cases base with
  | none => simp [Builtin.append_, run_underlying ht, run_underlying ht', sizeOf, typeInfo, hi, Builtin.lenOf, hroom, hf0, hn rfl]
  | some ad => simp [Builtin.append_, run_underlying ht, run_underlying ht', sizeOf, typeInfo, hi, Builtin.lenOf, hroom, hf0, hst ad rfl]
 grow := by
  intro ty z base sLen sCap olds hz hg h63 hfit ho
  have hf0 := hf w.drew (drawn_drew w)
  have hn : ¬ (sLen + m ≤ sCap) := by omega
  have h63' : ¬ (9223372036854775807 < ((sLen : Int) + (m : Int))) := by omega
  have h48' : ¬ (281474976710656 < Builtin.nextslicecap (sLen + m) sCap * i.bytes) := by omega
  refine ⟨olds.toArray ++ news.toArray ++ Builtin.zeroCells z.cells (grownCap w (sLen + m) sCap e - (sLen + m)), by simp, ?_⟩
  simp [Builtin.append_, run_underlying ht, run_underlying ht', sizeOf, typeInfo, zeroValue, hi, hz, Builtin.lenOf, hn, h63', h48', Question.forced, hf0, ho, newRow, grownCap]
  congr 2
  apply Array.ext'
  simp [List.append_assoc]
theorem src_zeros [GlobT] {w : World} {t t' e : TypeId} {i : TypeInfo} {k k' : IntKind} {z : Value} {m : Nat} (ht : P.underlying t = some (.slice e)) (ht' : P.underlying t' = some (.int k)) (hi : P.info? e = some i) (hz : i.zero = some z)
  (hm : m ≤ 2 ^ 20) (hb : m * i.bytes ≤ 2 ^ 40) (hs0 : 0 < i.size) (hzs : z.cells.size = i.size) : Src P w t t' e i (.int k' (m : Nat)) m (Builtin.zeroCells z.cells m).toList where
 ht := ht
 hi := hi
 run := by
  intro ty base sLen sCap hroom w' hst hn
  have w1 := wrap_small (n := m) (by omega)
  have hneg : ¬ ((m : Int) < 0) := by omega
  have hbig : ¬ ((281474976710656 : Int) < (m : Int) * (i.bytes : Int)) := by rw [← Int.natCast_mul]; omega
  by_cases hm0 : m * i.size = 0
  ·have hmz : m = 0 := by
    rcases Nat.mul_eq_zero.1 hm0 with h | h
    ·exact h
    ·omega
   subst hmz
   have hz0 : (Builtin.zeroCells z.cells 0).toList = [] := by simp [Builtin.zeroCells]
   rw [hz0] at hst
   have hr0 : sLen ≤ sCap := by omega
   have w0 : IntKind.i64.wrap 0 = 0 := IntWalk.i64_in _ (by omega)
   cases base with
   | none => simp [Builtin.append_, run_underlying ht, run_underlying ht', sizeOf, typeInfo, hi, asInt, asIntOf, hr0, hn rfl, w0]
   | some ad => simp [Builtin.append_, run_underlying ht, run_underlying ht', sizeOf, typeInfo, hi, asInt, asIntOf, hr0, hst ad rfl, w0]
  ·cases base with
   | none => simp [Builtin.append_, run_underlying ht, run_underlying ht', sizeOf, typeInfo, zeroValue, hz, hi, asInt, asIntOf, w1, hneg, hbig, hm0, hroom, hn rfl]
   | some ad => simp [Builtin.append_, run_underlying ht, run_underlying ht', sizeOf, typeInfo, zeroValue, hz, hi, asInt, asIntOf, w1, hneg, hbig, hm0, hroom, hst ad rfl]
 grow := by
  intro ty z' base sLen sCap olds hz' hg h63 hfit ho
  rw [hz] at hz'
  cases hz'
  have w1 := wrap_small (n := m) (by omega)
  have hneg : ¬ ((m : Int) < 0) := by omega
  have hbig : ¬ ((281474976710656 : Int) < (m : Int) * (i.bytes : Int)) := by rw [← Int.natCast_mul]; omega
  have hn : ¬ (sLen + m ≤ sCap) := by omega
  have h63' : ¬ (9223372036854775807 < ((sLen : Int) + (m : Int))) := by omega
  have h48' : ¬ (281474976710656 < Builtin.nextslicecap (sLen + m) sCap * i.bytes) := by omega
  refine ⟨olds.toArray ++ (Builtin.zeroCells z.cells m) ++ Builtin.zeroCells z.cells (grownCap w (sLen + m) sCap e - (sLen + m)), by simp, ?_⟩
  by_cases hm0 : m * i.size = 0
  ·have hmz : m = 0 := by
    rcases Nat.mul_eq_zero.1 hm0 with h | h
    ·exact h
    ·omega
   subst hmz
   have hz0 : Builtin.zeroCells z.cells 0 = #[] := by simp [Builtin.zeroCells]
   have w0 : IntKind.i64.wrap 0 = 0 := IntWalk.i64_in _ (by omega)
   have hn0 : ¬ (sLen ≤ sCap) := by omega
   have h630 : ¬ (9223372036854775807 < (sLen : Int)) := by omega
   have h480 : ¬ (281474976710656 < Builtin.nextslicecap sLen sCap * i.bytes) := by simpa using h48'
   simp [Builtin.append_, run_underlying ht, run_underlying ht', sizeOf, typeInfo, zeroValue, hi, hz, asInt, asIntOf, hn0, h630, h480, Question.forced, ho, newRow, grownCap, w0, hz0]
  ·simp [Builtin.append_, run_underlying ht, run_underlying ht', sizeOf, typeInfo, zeroValue, hi, hz, asInt, asIntOf, w1, hneg, hbig, hm0, hn, h63', h48', Question.forced, ho, newRow, grownCap]
end
end Go.Proofs.YtmflphfmefakfaaGreatDoor.Av
namespace Go.Proofs.YtmflphfmefakfaaGreatDoor.Av
open Go
section
variable {P : Program} {T : List AFun} {c : Ctx} {fl : Nat} {o : Oper} {a : Act} {tm : List AV}
theorem cellE_append [GlobT] {es ys : List (List AV)} {i j : Nat} {x : AV} (h : cellE (es ++ ys) i j = some x) : (i < es.length ∧ cellE es i j = some x) ∨ (es.length ≤ i ∧ cellE ys (i - es.length) j = some x) := by
 obtain ⟨e, h1, h2⟩ := cellE_some h
 rw [List.getElem?_append] at h1
 split at h1
 ·exact .inl ⟨by assumption, by simp [cellE, h1, h2]⟩
 ·exact .inr ⟨by omega, by simp [cellE, h1, h2]⟩
theorem rows_append [GlobT] {FT : Nat → Option Nat} {s : Nat} {es ys : List (List AV)} {olds news rest : List Value} (h1 : ElemsR FT c s es olds) (h2 : ElemsR FT c s ys news) :
  ∀ i j x, cellE (es ++ ys) i j = some x → ∃ u, (olds ++ news ++ rest)[i * s + j]? = some u ∧ scalarB u = true ∧ RV FT c x u := by
 intro i j x hx
 rcases cellE_append hx with ⟨hi, hc⟩ | ⟨hi, hc⟩
 ·obtain ⟨u, g1, g2, g3⟩ := h1.2 i j x hc
  refine ⟨u, ?_, g2, g3⟩
  have hlt := (List.getElem?_eq_some_iff.1 g1).1
  rw [List.append_assoc, List.getElem?_append_left hlt]; exact g1
 ·obtain ⟨u, g1, g2, g3⟩ := h2.2 _ j x hc
  refine ⟨u, ?_, g2, g3⟩
  have hlt := (List.getElem?_eq_some_iff.1 g1).1
  have e : i * s + j = olds.length + ((i - es.length) * s + j) := by
   rw [h1.1, ← Nat.add_assoc, ← Nat.add_mul]; congr 2; omega
  rw [e, List.append_assoc, List.getElem?_append_right (by omega), Nat.add_sub_cancel_left, List.getElem?_append_left hlt]
  exact g1
theorem room_spec {n bytes : Nat} (h : room n bytes = true) : n * bytes ≤ 2 ^ 40 ∧ n ≤ 2 ^ 40 := by
 simpa [room] using h
theorem grow_fits [GlobT] {n m bytes cap : Nat} (h : room (n + m) bytes = true) (hc : cap < n + m) : Builtin.nextslicecap (n + m) cap * bytes ≤ 281474976710656 ∧ ((n + m : Nat) : Int) ≤ 9223372036854775807 := by
 obtain ⟨h1, h2⟩ := room_spec h
 exact ⟨growslice_fits hc (by omega), by omega⟩
theorem elems_self [GlobT] (hs : Sim (ftOf T) c) {id s : Nat} {es : List (List AV)} {b : Nat} (hob : c.H[id]? = some (.blk s es)) (hb : c.β id = some b) :
  ∃ cc Ty, c.w.heap[b]? = some (.cells cc Ty (0, 0)) ∧ es.length * s ≤ cc.size ∧ (∀ i j x, cellE es i j = some x → ∃ v, cc[i * s + j]? = some v ∧ scalarB v = true ∧ RV (ftOf T) c x v) := by
 obtain ⟨cc, Ty, h1, h2, h3⟩ := hs.blk id s es b hob hb
 exact ⟨cc, Ty, h1, h2, h3⟩
theorem blk_write [GlobT] {FT : Nat → Option Nat} {s k : Nat} {es ys : List (List AV)} {news : List Value} {cc : Array Value}
  (hl : ∀ e ∈ es, e.length = s) (hly : ∀ e ∈ ys, e.length = s) (hk : k ≤ es.length) (hE : ElemsR FT c s ys news) (hfit : k * s + news.length ≤ cc.size)
  (hold : ∀ i j x, cellE es i j = some x → ∃ v, cc[i * s + j]? = some v ∧ scalarB v = true ∧ RV FT c x v) :
  (∀ e ∈ splice es k ys, e.length = s) ∧
  ∀ i j x, cellE (splice es k ys) i j = some x → ∃ v, ((splice cc.toList (k * s) news).toArray)[i * s + j]? = some v ∧ scalarB v = true ∧ RV FT c x v := by
 refine ⟨?_, ?_⟩
 ·intro e he
  simp only [splice, List.mem_append] at he
  rcases he with h | h | h
  ·exact hl e (List.mem_of_mem_take h)
  ·exact hly e h
  ·exact hl e (List.mem_of_mem_drop h)
 ·intro i j x hx
  have hfit2 : k * s + news.length ≤ cc.toList.length := by simpa using hfit
  simp only [List.getElem?_toArray, splice_get hfit2]
  obtain ⟨e, h1, h2⟩ := cellE_some hx
  unfold splice at h1
  rw [List.getElem?_append] at h1
  simp only [List.length_take, Nat.min_eq_left hk] at h1
  have hjs : ∀ e' : List AV, (e' ∈ es ∨ e' ∈ ys) → e = e' → j < s := by
   intro e' hm he
   have : e'.length = s := hm.elim (hl e') (hly e')
   rw [← this, ← he]; exact (List.getElem?_eq_some_iff.1 h2).1
  split at h1
  ·rename_i hi
   rw [List.getElem?_take, if_pos hi] at h1
   have hj := hjs e (.inl (List.mem_of_getElem? h1)) rfl
   have : i * s + j < k * s := row_lt hi hj
   rw [if_pos this]
   simpa using hold i j x (by simp [cellE, h1, h2])
  ·rename_i hi
   rw [List.getElem?_append] at h1
   split at h1
   ·rename_i hi2
    have hj := hjs e (.inr (List.mem_of_getElem? h1)) rfl
    have hge : k * s ≤ i * s := Nat.mul_le_mul_right s (by omega)
    have e1 : i * s + j - k * s = (i - k) * s + j := by rw [Nat.sub_mul]; omega
    have hlt : (i - k) * s + j < ys.length * s := row_lt hi2 hj
    rw [if_neg (by omega), if_pos (by rw [hE.1]; omega), e1]
    exact hE.2 _ j x (by simp [cellE, h1, h2])
   ·rename_i hi2
    rw [List.getElem?_drop] at h1
    have e0 : k + ys.length + (i - k - ys.length) = i := by omega
    rw [e0] at h1
    have hge : (k + ys.length) * s ≤ i * s := Nat.mul_le_mul_right s (by omega)
    rw [Nat.add_mul] at hge
    rw [if_neg (by omega), if_neg (by rw [hE.1]; omega)]
    simpa using hold i j x (by simp [cellE, h1, h2])
theorem firstCells_of_rv [GlobT] {FT : Nat → Option Nat} (hs : Sim FT c) {x : AV} {v : Value} {xs : List (List AV)} {s : Nat} (hr : RV FT c x v) (h : rd c.H x = some xs) (hl : ∀ e ∈ xs, e.length = s) (hs0 : 0 < s) :
  ∃ xa xc olds, v = .slice xa xs.length xc ∧ ElemsR FT c s xs olds ∧ (Builtin.firstCells s xs.length (.slice xa xs.length xc)).run P c.w.drew = .ok olds.toArray c.w.drew := by
 obtain ⟨xa, xc, news, h1, _, h2, h3⟩ := rd_rv (P := P) hs hr h hl hs0
 exact ⟨xa, xc, news, h1, h2, by rw [← h1]; exact h3 _ (drawn_drew _)⟩
theorem ok_append [GlobT] (hs : Sim (ftOf T) c) (hfl : fl ≤ c.H.length) {x r : AV} {xv yv z : Value} {t t' e : TypeId} {i : TypeInfo} {s bytes m : Nat} {ys : List (List AV)} {news : List Value} {H' : Heap}
  (hx : RV (ftOf T) c x xv) (hsrc : Src P c.w t t' e i yv m news) (hE : ElemsR (ftOf T) c s ys news) (hm : ys.length = m) (hsize : i.size = s) (hby : i.bytes = bytes) (hz : i.zero = some z) (hzs : z.cells.size = s)
  (happ : appendA fl c.H s bytes x ys = some (r, H'))
  (hexec : ∀ cv w', (Builtin.append_ #[t, t'] o.type #[xv, yv]).run P c.w = .ok cv w' → (execOp a.eval o).run P c.w = .ok (.value cv) w') : OpOK P (ftOf T) c fl o a r H' := by
 subst hsize hby hm
 unfold appendA at happ
 split at happ
 ·rename_i hcond
  obtain ⟨hal, hs0, hroomy⟩ := hcond
  have hly := allLen_spec hal
  have nothing : ys.length = 0 → (∃ xa n cap, xv = .slice xa n cap ∧ n ≤ cap) → OpOK P (ftOf T) c fl o a x c.H := by
   rintro h0 ⟨xa, n, cap, rfl, hle⟩
   have hnil : news = [] := List.eq_nil_of_length_eq_zero (by rw [hE.1, h0, Nat.zero_mul])
   have := hsrc.run o.type xa n cap (by omega) c.w (by intro ad _; rw [hnil]; simp [storeCells]) (fun _ => rfl)
   rw [h0] at this
   exact ok_same hs (hexec _ _ this) hx
  have fresh : ∀ (es : List (List AV)) (xa : Option Addr) (cap : Nat) (olds : List Value), xv = .slice xa es.length cap → (∀ e ∈ es, e.length = i.size) → ElemsR (ftOf T) c i.size es olds →
    (Builtin.firstCells i.size es.length (.slice xa es.length cap)).run P c.w.drew = .ok olds.toArray c.w.drew → cap < es.length + ys.length → room (es.length + ys.length) i.bytes = true →
    ∃ cells : Array Value, ∃ ncap, es.length + ys.length ≤ ncap ∧ cells.size = ncap * i.size ∧
     (execOp a.eval o).run P c.w = .ok (.value (.slice (some ⟨c.w.heap.size, 0, none⟩) (es.length + ys.length) ncap)) (c.w.drew.alloc (.cells cells e (0, 0))) ∧
     (∀ f ∈ es ++ ys, f.length = i.size) ∧ ∀ k j x, cellE (es ++ ys) k j = some x → ∃ v, cells[k * i.size + j]? = some v ∧ scalarB v = true ∧ RV (ftOf T) c x v := by
   intro es xa cap olds hxv hle hO hfo hcap hroom
   obtain ⟨f1, f2⟩ := grow_fits hroom hcap
   obtain ⟨cells, g1, g2⟩ := hsrc.grow o.type z xa es.length cap olds hz hcap f2 f1 hfo
   have hge := grownCap_ge c.w (es.length + ys.length) cap e
   refine ⟨cells, grownCap c.w (es.length + ys.length) cap e, hge, ?_, ?_, ?_, ?_⟩
   ·have := congrArg List.length g1
    simp only [Array.length_toList, List.length_append, hO.1, hE.1, size_zeroCells, hzs] at this
    rw [this, ← Nat.add_mul, ← Nat.add_mul]; congr 1; omega
   ·exact hexec _ _ (by rw [hxv]; exact g2)
   ·intro f hf
    rcases List.mem_append.1 hf with h | h
    ·exact hle f h
    ·exact hly f h
   ·intro k j x hx
    obtain ⟨u, k1, k2, k3⟩ := rows_append (rest := (Builtin.zeroCells z.cells (grownCap c.w (es.length + ys.length) cap e - (es.length + ys.length))).toList) hO hE k j x hx
    refine ⟨u, ?_, k2, k3⟩
    rw [← g1] at k1
    simpa using k1
  have newobj : ∀ (es : List (List AV)) (xa : Option Addr) (cap : Nat) (olds : List Value), xv = .slice xa es.length cap → (∀ e ∈ es, e.length = i.size) → ElemsR (ftOf T) c i.size es olds →
    (Builtin.firstCells i.size es.length (.slice xa es.length cap)).run P c.w.drew = .ok olds.toArray c.w.drew → cap < es.length + ys.length → room (es.length + ys.length) i.bytes = true →
    OpOK P (ftOf T) c fl o a (.ms c.H.length (es.length + ys.length) 0 (es.length + ys.length)) (c.H ++ [.blk i.size (es ++ ys)]) := by
   intro es xa cap olds h1 h2 h3 h4 h5 h6
   obtain ⟨cells, ncap, q1, q2, q3, q4, q5⟩ := fresh es xa cap olds h1 h2 h3 h4 h5 h6
   have := ok_newSlice (P := P) (o := o) (a := a) hs hfl false (es := es ++ ys) (n := es.length + ys.length) (cap := ncap) (cv := cells) (t := e) (s := i.size) (w' := c.w.drew.alloc (.cells cells e (0, 0)))
    (by simp) q1 (by simp) rfl rfl rfl rfl q3 q2 q4 q5
   simpa using this
  split at happ
  · -- nil
   have hv := hx.lit_inv
   split at happ
   ·rename_i h0
    cases happ
    exact nothing h0 ⟨none, 0, 0, hv, Nat.le_refl _⟩
   ·rename_i h0
    cases happ
    have := newobj [] none 0 [] hv (by simp) ⟨by simp, fun i j x hx => by simp [cellE] at hx⟩ (by simp [Builtin.firstCells]) (by simp; omega) (by simpa using hroomy)
    simpa using this
  ·rename_i f es
   obtain ⟨xa, cap, hv, hle, hfull⟩ := rp_cap hx.sl_inv
   split at happ
   ·rename_i h0
    cases happ
    exact nothing h0 ⟨xa, _, cap, hv, hle⟩
   ·rename_i h0
    split at happ
    ·rename_i hc
     cases happ
     have hle' := allLen_spec hc.2.1
     obtain ⟨xa', xc', olds, k1, k2, k3⟩ := firstCells_of_rv (P := P) hs hx (by simp [rd] : rd c.H (.sl f es) = some es) hle' hs0
     rw [hv] at k1
     cases k1
     exact newobj es xa cap olds hv hle' k2 k3 (by rw [hfull hc.1]; omega) hc.2.2
    ·cases happ
  ·rename_i id tot off len
   obtain ⟨ad, cap, s0, n0, hv, g1, g2, g3, g4⟩ := hx.ms_inv
   split at happ
   ·rename_i s' es hob
    split at happ
    ·rename_i hc
     obtain ⟨rfl, htot, hroom⟩ := hc
     rw [shp_of hob] at g1
     cases g1
     obtain ⟨m1, m2⟩ := g4 htot.symm
     have hlens := hs.lens id i.size es hob
     split at happ
     ·rename_i h0
      cases happ
      exact nothing h0 ⟨ad, len, cap, hv, g3⟩
     ·rename_i h0
      split at happ
      ·rename_i hflid
       split at happ
       ·rename_i htip
        obtain ⟨rfl, rfl⟩ := htip
        cases happ
        subst htot
        have moves : cap < es.length + ys.length → OpOK P (ftOf T) c fl o a (.ms id (es.length + ys.length) 0 (es.length + ys.length)) (c.H.set id (.blk i.size (es ++ ys))) := by
         intro hcap
         obtain ⟨xa', xc', olds, k1, k2, k3⟩ := firstCells_of_rv (P := P) hs hx (by simp [rd, hob] : rd c.H (.ms id es.length 0 es.length) = some es) hlens hs0
         rw [hv] at k1
         cases k1
         obtain ⟨cells, ncap, q1, q2, q3, q4, q5⟩ := fresh es ad cap olds hv hlens k2 k3 hcap hroom
         have hgt : es.length < (es ++ ys).length := by simp; omega
         refine ok_value (β' := upd c.β id c.w.heap.size) q3 (step_grow (ob := .cells cells e (0, 0)) hs hflid hob hgt rfl rfl rfl rfl)
          (sim_grow (cs' := cells) (T := e) hs hob hgt rfl rfl rfl rfl q4 (by rw [q2]; exact Nat.mul_le_mul_right _ (by simpa using q1)) q5) ?_
         refine .ms id _ 0 _ _ ncap i.size _ (by rw [shp_set hob]; simp) (Nat.le_refl _) q1 fun _ => ⟨by omega, .inr ⟨c.w.heap.size, cells, e, _, upd_same _ _ _, ?_, by simpa using q2.symm, rfl, fun _ => by simp⟩⟩
         exact heap_alloc_new c.w.drew _
        rcases m2 with ⟨_, m3, m4, m5⟩ | ⟨b, cc, Ty, a', m3, m4, m5, m6, m7⟩
        ·exact moves (by omega)
        ·by_cases hcap : cap < es.length + ys.length
         ·exact moves hcap
         · -- it stays
          have hne : cap ≠ 0 := by omega
          have ha := m7 hne
          subst m6
          subst ha
          obtain ⟨cc', Ty', q1, q2, q3⟩ := hs.blk id i.size es b hob m3
          rw [m4] at q1
          cases q1
          have hfit : es.length * i.size + news.length ≤ cc.size := by
           rw [hE.1, ← m5, ← Nat.add_mul]; exact Nat.mul_le_mul_right _ (by omega)
          obtain ⟨p1, p2⟩ := blk_write (k := es.length) hlens hly (Nat.le_refl _) hE hfit q3
          have hsp : splice es es.length ys = es ++ ys := by simp [splice]
          rw [hsp] at p1 p2
          have hst := run_storeCells_at P b (es.length * i.size) Ty news 0 cc c.w m4 (by simpa using hfit) (elemsR_scalar hly hE)
          rw [setRow_splice] at hst
          have hsplen := splice_length (l := cc.toList) (vs := news) (k := es.length * i.size) (by simpa using hfit)
          have hrun := hsrc.run o.type (some ⟨b, 0 * i.size, none⟩) es.length cap (by omega) _ (fun ad' h => by cases h; rw [addr_add]; simpa using hst) (fun h => by cases h)
          rw [← hv] at hrun
          refine ok_value (β' := c.β) (hexec _ _ hrun)
           (step_set (cs' := (splice cc.toList (es.length * i.size) news).toArray) hs hflid hob m3 m4 (by simp) (by simpa using hsplen) (setRow_heap c.w b cc _ Ty _ m4) (fun k hk => setRow_other c.w b k _ hk) (by simp) rfl rfl rfl)
           (sim_set (cs' := (splice cc.toList (es.length * i.size) news).toArray) hs hob m3 m4 (by simp) (by simpa using hsplen) (setRow_heap c.w b cc _ Ty _ m4) (fun k hk => setRow_other c.w b k _ hk) (by simp) rfl rfl rfl p1 ?_ p2) ?_
          ·simp only [List.length_append, List.size_toArray, hsplen, Array.length_toList]
           rw [Nat.add_mul, ← hE.1]; exact hfit
          ·refine .ms id _ 0 _ _ cap i.size _ (by rw [shp_set hob]; simp) (Nat.le_refl _) (by omega) fun _ => ⟨by omega, .inr ⟨b, _, Ty, _, m3, setRow_heap c.w b cc _ Ty _ m4, ?_, rfl, fun _ => rfl⟩⟩
           simpa [hsplen] using m5
       ·rename_i htip
        split at happ
        ·rename_i hin
         cases happ
         subst htot
         rcases m2 with ⟨_, m3, m4, m5⟩ | ⟨b, cc, Ty, a', m3, m4, m5, m6, m7⟩
         ·omega
         ·obtain ⟨cc', Ty', q1, q2, q3⟩ := hs.blk id i.size es b hob m3
          rw [m4] at q1
          cases q1
          have hcap : es.length ≤ off + cap := by
           rcases Nat.lt_or_ge (off + cap) es.length with h | h
           ·have : (off + cap + 1) * i.size ≤ es.length * i.size := Nat.mul_le_mul_right _ h
            rw [Nat.add_mul] at this; omega
           ·exact h
          have hne : cap ≠ 0 := by omega
          have ha := m7 hne
          subst m6
          subst ha
          have hfit : (off + len) * i.size + news.length ≤ cc.size := by
           rw [hE.1, ← Nat.add_mul]; exact Nat.le_trans (Nat.mul_le_mul_right _ hin) q2
          obtain ⟨p1, p2⟩ := blk_write (k := off + len) hlens hly (by omega) hE hfit q3
          have hst := run_storeCells_at P b ((off + len) * i.size) Ty news 0 cc c.w m4 (by simpa using hfit) (elemsR_scalar hly hE)
          rw [setRow_splice] at hst
          have hsplen := splice_length (l := cc.toList) (vs := news) (k := (off + len) * i.size) (by simpa using hfit)
          have hspes := splice_length (l := es) (vs := ys) (k := off + len) hin
          have hrun := hsrc.run o.type (some ⟨b, off * i.size, none⟩) len cap (by omega) _ (fun ad' h => by cases h; rw [addr_add, ← Nat.add_mul]; exact hst) (fun h => by cases h)
          rw [← hv] at hrun
          refine ok_value (β' := c.β) (hexec _ _ hrun)
           (step_set (cs' := (splice cc.toList ((off + len) * i.size) news).toArray) hs hflid hob m3 m4 (by omega) (by simpa using hsplen) (setRow_heap c.w b cc _ Ty _ m4) (fun k hk => setRow_other c.w b k _ hk) (by simp) rfl rfl rfl)
           (sim_set (cs' := (splice cc.toList ((off + len) * i.size) news).toArray) hs hob m3 m4 (by omega) (by simpa using hsplen) (setRow_heap c.w b cc _ Ty _ m4) (fun k hk => setRow_other c.w b k _ hk) (by simp) rfl rfl rfl p1 ?_ p2) ?_
          ·simp only [List.size_toArray, hsplen, Array.length_toList, hspes]; exact q2
          ·refine .ms id _ off _ _ cap i.size _ (by rw [shp_set hob]; simp [hspes]) (Nat.le_refl _) (by omega) fun _ => ⟨by omega, .inr ⟨b, _, Ty, _, m3, setRow_heap c.w b cc _ Ty _ m4, ?_, rfl, fun _ => rfl⟩⟩
           simpa [hsplen] using m5
        ·cases happ
      ·cases happ
    ·cases happ
   ·cases happ
  ·cases happ
 ·cases happ
theorem op_append [GlobT] (hs : Sim (ftOf T) c) (htr : TR (ftOf T) c tm a.tmps) (hfl : fl ≤ c.H.length) {x y : AOpd} {x' y' : Operand} {t t' e e' : TypeId} {i : TypeInfo} {z : Value} {s bytes : Nat} {ys : List (List AV)} {r : AV} {H' : Heap}
  (ho : o.op = .call ⟨.builtin .append, #[x', y'], #[t, t']⟩) (h1 : chkOpd T x x' = true) (h2 : chkOpd T y y' = true) (hu : P.underlying t = some (.slice e)) (hu' : P.underlying t' = some (.slice e'))
  (hi : P.info? e = some i) (hsz : i.size = s) (hby : i.bytes = bytes) (hz : i.zero = some z) (hzs : z.cells.size = s) (hrd : rd c.H (getOpd tm y) = some ys)
  (happ : appendA fl c.H s bytes (getOpd tm x) ys = some (r, H')) : OpOK P (ftOf T) c fl o a r H' := by
 have hal : allLen s ys = true ∧ 0 < s := by
  unfold appendA at happ
  split at happ
  ·rename_i h; exact ⟨h.1, h.2.1⟩
  ·cases happ
 obtain ⟨xa, xc, news, hv, _, hE, hfc⟩ := rd_rv (P := P) hs (getOpd_rv hs htr h2) hrd (allLen_spec hal.1) hal.2
 have hsrc : Src P c.w t t' e i (a.eval y') ys.length news := by
  rw [hv]
  exact src_slice hu hu' hi (by rw [hsz, ← hv]; exact hfc)
 refine ok_append hs hfl (getOpd_rv hs htr h1) hsrc hE rfl hsz hby hz hzs happ ?_
 intro cv w' hr
 simp [execOp, ho, resolve, invoke, builtin, hr]
theorem zeroCells_elems [GlobT] {FT : Nat → Option Nat} {s n : Nat} {z : List Value} {v : Value} (hz : z.length = s) (hsc : ∀ u ∈ z, scalarB u = true) (hv : v.cells = z.toArray) :
  ElemsR FT c s (List.replicate n (z.map AV.lit)) (Builtin.zeroCells v.cells n).toList := by
 have hcs : v.cells.size = s := by rw [hv]; simpa using hz
 obtain ⟨_, h2⟩ := rowsR_zero (FT := FT) (c := c) (n := n) (m := n) (cv := v.cells) hz hsc (by rw [hv]) (Nat.le_refl _)
 refine ⟨by simp [size_zeroCells, hcs], fun i j x hx => ?_⟩
 obtain ⟨u, g1, g2, g3⟩ := h2 i j x hx
 refine ⟨u, ?_, g2, g3⟩
 rw [← g1]
 simp only [Builtin.zeroCells, hcs, Array.getElem?_toList]
theorem op_appendZ [GlobT] (hs : Sim (ftOf T) c) (htr : TR (ftOf T) c tm a.tmps) (hfl : fl ≤ c.H.length) {x y : AOpd} {x' y' : Operand} {t t' e : TypeId} {k : IntKind} {z : List Value} {s bytes n : Nat} {r : AV} {H' : Heap}
  (ho : o.op = .call ⟨.builtin .append, #[x', y'], #[t, t']⟩) (h1 : chkOpd T x x' = true) (h2 : chkOpd T y y' = true) (hu : P.underlying t = some (.slice e)) (hu' : P.underlying t' = some (.int k))
  (hsz : sizeIs P e s = true) (hby : bytesIs P e bytes = true) (hz : zeroIs P e z = true) (hzl : z.length = s) (hn : natOf (getOpd tm y) = some n) (hn20 : n ≤ 2 ^ 20) (hnb : n * bytes ≤ 2 ^ 40)
  (happ : appendA fl c.H s bytes (getOpd tm x) (List.replicate n (z.map .lit)) = some (r, H')) : OpOK P (ftOf T) c fl o a r H' := by
 have hs0 : 0 < s := by
  unfold appendA at happ
  split at happ
  ·rename_i h; exact h.2.1
  ·cases happ
 obtain ⟨i, hi, his⟩ := sizeIs_spec hsz
 obtain ⟨i', v, hi', hv, hvc, hsc⟩ := zeroIs_spec hz
 rw [hi] at hi'
 cases hi'
 have hbytes : i.bytes = bytes := by simpa [bytesIs, hi] using hby
 have hcs : v.cells.size = s := by rw [hvc]; simpa using hzl
 obtain ⟨k', hyv⟩ := natOf_inv (getOpd_rv hs htr h2) hn
 have hsrc : Src P c.w t t' e i (a.eval y') n (Builtin.zeroCells v.cells n).toList := by
  rw [hyv]
  exact src_zeros hu hu' hi hv hn20 (by rw [hbytes]; exact hnb) (by omega) (by omega)
 refine ok_append hs hfl (getOpd_rv hs htr h1) hsrc (zeroCells_elems hzl hsc hvc) (by simp) his hbytes hv hcs happ ?_
 intro cv w' hr
 simp [execOp, ho, resolve, invoke, builtin, hr]
theorem op_copy [GlobT] (hs : Sim (ftOf T) c) (htr : TR (ftOf T) c tm a.tmps) {x y : AOpd} {x' y' : Operand} {t t' e : TypeId} {i : TypeInfo} {s id tot off len : Nat} {es ys : List (List AV)}
  (ho : o.op = .call ⟨.builtin .copy, #[x', y'], #[t, t']⟩) (h1 : chkOpd T x x' = true) (h2 : chkOpd T y y' = true) (hu : P.underlying t = some (.slice e))
  (hi : P.info? e = some i) (hsz : i.size = s) (hrd : rd c.H (getOpd tm y) = some ys) (hal : allLen s ys = true) (hs0 : 0 < s) (hx : getOpd tm x = .ms id tot off len)
  (hob : c.H[id]? = some (.blk s es)) (htot : es.length = tot) (hle : ys.length ≤ len) (hflid : fl ≤ id) {r : AV} {H' : Heap}
  (hr : (if ys.length = 0 then some (AV.lit (.int .i64 0), c.H) else some (AV.lit (.int .i64 ys.length), c.H.set id (.blk s (splice es off ys)))) = some (r, H')) : OpOK P (ftOf T) c fl o a r H' := by
 have hly := allLen_spec hal
 obtain ⟨xa, xc, news, hv, _, hE, hfc⟩ := rd_rv (P := P) hs (getOpd_rv hs htr h2) hrd hly hs0
 have hxr := getOpd_rv hs htr h1
 rw [hx] at hxr
 obtain ⟨ad, cap, s0, n0, hxv, g1, g2, g3, g4⟩ := hxr.ms_inv
 rw [shp_of hob] at g1
 cases g1
 obtain ⟨m1, m2⟩ := g4 htot.symm
 have hf := hfc c.w (Drawn.refl _)
 have hmin : Nat.min ys.length len = ys.length := Nat.min_eq_left hle
 subst hsz
 rw [hv] at hf
 split at hr
 ·rename_i h0
  cases hr
  have hnil : news = [] := List.eq_nil_of_length_eq_zero (by rw [hE.1, h0, Nat.zero_mul])
  subst hnil
  refine ok_same (cv := .int .i64 0) hs ?_ (RV.lit _)
  have h0' : Nat.min ys.length len = 0 := by rw [hmin, h0]
  rw [h0] at hf
  cases ad <;> simp [execOp, ho, resolve, invoke, builtin, Builtin.copy_, run_underlying hu, sizeOf, typeInfo, hi, Builtin.lenOf, hv, hxv, h0, hf, storeCells, goInt]
 ·rename_i h0
  cases hr
  rcases m2 with ⟨_, m3, m4, m5⟩ | ⟨b, cc, Ty, a', m3, m4, m5, m6, m7⟩
  ·omega
  ·have ha := m7 (by omega)
   subst m6
   subst ha
   obtain ⟨cc', Ty', q1, q2, q3⟩ := hs.blk id i.size es b hob m3
   rw [m4] at q1
   cases q1
   have hin : off + ys.length ≤ es.length := by omega
   have hfit : off * i.size + news.length ≤ cc.size := by
    rw [hE.1, ← Nat.add_mul]; exact Nat.le_trans (Nat.mul_le_mul_right _ hin) q2
   obtain ⟨p1, p2⟩ := blk_write (k := off) (hs.lens id _ es hob) hly (by omega) hE hfit q3
   have hst := run_storeCells_at P b (off * i.size) Ty news 0 cc c.w m4 (by simpa using hfit) (elemsR_scalar hly hE)
   rw [setRow_splice] at hst
   have hsplen := splice_length (l := cc.toList) (vs := news) (k := off * i.size) (by simpa using hfit)
   have hspes := splice_length (l := es) (vs := ys) (k := off) hin
   refine ok_value (β' := c.β) (cv := .int .i64 ys.length) ?_
    (step_set (cs' := (splice cc.toList (off * i.size) news).toArray) hs hflid hob m3 m4 (by omega) (by simpa using hsplen) (setRow_heap c.w b cc _ Ty _ m4) (fun k hk => setRow_other c.w b k _ hk) (by simp) rfl rfl rfl)
    (sim_set (cs' := (splice cc.toList (off * i.size) news).toArray) hs hob m3 m4 (by omega) (by simpa using hsplen) (setRow_heap c.w b cc _ Ty _ m4) (fun k hk => setRow_other c.w b k _ hk) (by simp) rfl rfl rfl p1 ?_ p2) (RV.lit _)
   ·simp [execOp, ho, resolve, invoke, builtin, Builtin.copy_, run_underlying hu, sizeOf, typeInfo, hi, Builtin.lenOf, hv, hxv, hmin, hf, hst, goInt]
   ·simp only [List.size_toArray, hsplen, Array.length_toList, hspes]; exact q2
theorem bytesE_spec {FT : Nat → Option Nat} : ∀ (es : List (List AV)) (ns : List Int) (news : List Value), bytesE es = some ns → ElemsR FT c 1 es news → news = ns.map (Value.int .u8) ∧ ∀ e ∈ es, e.length = 1
 | [], ns, news, h, hE => by
  simp only [bytesE, Option.some.injEq] at h
  subst h
  exact ⟨List.eq_nil_of_length_eq_zero (by simpa using hE.1), by simp⟩
 | e :: r, ns, news, h, hE => by
  simp only [bytesE] at h
  split at h
  ·rename_i n
   split at h
   ·rename_i l hl
    cases h
    obtain ⟨hl1, hl2⟩ := hE
    cases news with
    | nil => simp at hl1
    | cons v vs =>
     obtain ⟨u, h1, _, h3⟩ := hl2 0 0 (.lit (.int .u8 n)) rfl
     simp only [Nat.zero_mul, Nat.zero_add, List.getElem?_cons_zero, Option.some.injEq] at h1
     subst h1
     have hE' : ElemsR FT c 1 r vs := ⟨by simpa using hl1, fun i j x hx => by
      obtain ⟨u, k1, k2, k3⟩ := hl2 (i + 1) j x (by simpa [cellE] using hx)
      have e1 : (i + 1) * 1 + j = (i * 1 + j) + 1 := by omega
      rw [e1, List.getElem?_cons_succ] at k1
      exact ⟨u, k1, k2, k3⟩⟩
     obtain ⟨k1, k2⟩ := bytesE_spec r l vs hl hE'
     refine ⟨by rw [h3.lit_inv, k1]; rfl, fun e he => ?_⟩
     rcases List.mem_cons.1 he with rfl | he
     ·rfl
     ·exact k2 e he
   ·cases h
  ·cases h
theorem bytesE_len : ∀ (es : List (List AV)) (ns : List Int), bytesE es = some ns → ns.length = es.length ∧ ∀ e ∈ es, e.length = 1
 | [], ns, h => by
  simp only [bytesE, Option.some.injEq] at h
  subst h
  exact ⟨rfl, by simp⟩
 | e :: r, ns, h => by
  simp only [bytesE] at h
  split at h
  ·split at h
   ·rename_i l hl
    cases h
    obtain ⟨k1, k2⟩ := bytesE_len r l hl
    refine ⟨by simp [k1], fun e he => ?_⟩
    rcases List.mem_cons.1 he with rfl | he
    ·rfl
    ·exact k2 e he
   ·cases h
  ·cases h
theorem op_convB [GlobT] (hs : Sim (ftOf T) c) (htr : TR (ftOf T) c tm a.tmps) {x : AOpd} {x' : Operand} {s d : TypeId} {f : Bool} {es : List (List AV)} {ns : List Int} (ho : o.op = .convert s d x')
  (h1 : chkOpd T x x' = true) (e1 : getOpd tm x = .sl f es) (hb : isBytes P s d = true) (hns : bytesE es = some ns) : OpOK P (ftOf T) c fl o a (.lit (.string (strOfB ns))) c.H := by
 have hx := getOpd_rv hs htr h1
 rw [e1] at hx
 obtain ⟨hl1, hl2⟩ := bytesE_len es ns hns
 obtain ⟨xa, xc, news, hv, _, hE, hfc⟩ := rd_rv (P := P) hs hx (show rd c.H (.sl f es) = some es from rfl) hl2 (by omega)
 obtain ⟨rfl, _⟩ := bytesE_spec es ns news hns hE
 have hf := hfc c.w (Drawn.refl _)
 unfold isBytes at hb
 split at hb
 ·rename_i e hu
  split at hb
  ·rename_i he
   split at hb
   ·rename_i hd
    refine ok_same (cv := .string (strOfB ns)) hs ?_ (RV.lit _)
    rw [hv] at hf
    have hconv : (convert s d (.slice xa es.length xc)).run P c.w = .ok (.string (strOfB ns)) c.w := by
     cases xa with
     | none =>
      have h0 : ns = [] := by
       have : (ns.map (Value.int .u8)).toArray = #[] := by
        have := hf
        simp [Builtin.firstCells] at this
        simpa using this.symm
       simpa using this
      subst h0
      simp [convert, run_underlying hu, run_underlying hd, run_underlying he, Conv.bytesToString, strOfB]
     | some ad =>
      have h2 : (loadCells ad es.length).run P c.w = .ok (ns.map (Value.int .u8)).toArray c.w := by
       simpa [Builtin.firstCells] using hf
      simp [convert, run_underlying hu, run_underlying hd, run_underlying he, run_bytesToString c.w ad es.length xc ns h2, strOfB]
    simp [execOp, ho, hv, hconv]
   ·cases hb
  ·cases hb
 ·cases hb
end
end Go.Proofs.YtmflphfmefakfaaGreatDoor.Av
