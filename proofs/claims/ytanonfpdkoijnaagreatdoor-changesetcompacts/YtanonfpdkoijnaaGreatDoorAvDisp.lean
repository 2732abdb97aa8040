/- A part of the proof of ChangesetCompactsCardSaid: an evaluator of the program, proved sound, and what it says. -/
import Derived.Test.YtanonfpdkoijnaaGreatDoorAvFrz
namespace Go.Proofs.YtanonfpdkoijnaaGreatDoor.Av
open Go

section
variable {P : Program} {T : List AFun}

/-- Arguments. -/
def ArgsR (FT : Nat → Option Nat) (c : Ctx) (args : List AV) (vs : Array Value) : Prop :=
  vs.size = args.length ∧ ∀ (i : Nat) (x : AV), args[i]? = some x → ∃ v, vs[i]? = some v ∧ RV FT c x v

/-- What a call may rest on: the evaluation of the callee is sound. -/
def CfOK [GlobT] (P : Program) (T : List AFun) (cf : Nat → Nat → List AV → Heap → Option (AV × Heap)) : Prop :=
  ∀ (fl vi f : Nat) (args : List AV) (r : AV) (H' : Heap) (c : Ctx) (vs : Array Value), cf fl vi args c.H = some (r, H') → ftOf T vi = some f → Sim (ftOf T) c → fl ≤ c.H.length → ArgsR (ftOf T) c args vs →
    Calls P f vs c.w fun e w' => ∃ v c', e = .returned v ∧ c'.w = w' ∧ c'.H = H' ∧ c'.X = c.X ∧ Step fl c c' ∧ Sim (ftOf T) c' ∧ RV (ftOf T) c' r v

/-- Every variant is a function with a body of its own. -/
def FnsOK (P : Program) (T : List AFun) : Prop :=
  ∀ vi f, ftOf T vi = some f → ∃ fn, P.funcs[f]? = some fn ∧ fn.body.isSome = true ∧ (fn.name == "runtime.NumGoroutine") = false

variable {cf : Nat → Nat → List AV → Heap → Option (AV × Heap)} {c : Ctx} {fl : Nat} {o : Oper} {a : Act} {tm : List AV}

/-- The context of a call that is handed nothing of the objects. -/
def bare (c : Ctx) : Ctx := ⟨c.w, fun b => c.X b ∨ ∃ id, c.β id = some b, fun _ => none, []⟩

theorem bare_imm {c : Ctx} {b : Nat} : Imm (bare c) b ↔ Imm c b :=
  ⟨fun h => ⟨fun hx => h.1 (.inl hx), fun id hid => h.1 (.inr ⟨id, hid⟩)⟩, fun h => ⟨fun hx => by
    rcases hx with hx | ⟨id, hid⟩
    · exact h.1 hx
    · exact h.2 id hid, fun id hid => by cases hid⟩⟩

theorem beta_lt [GlobT] {FT : Nat → Option Nat} {c : Ctx} (hs : Sim FT c) {id b : Nat} (h : c.β id = some b) : b < c.w.heap.size := by
  have hd := hs.dom id b h
  have key : ∀ o : Obj, c.w.heap[b]? = some o → b < c.w.heap.size := by
    intro o ho
    rcases Nat.lt_or_ge b c.w.heap.size with h | h
    · exact h
    · rw [Array.getElem?_eq_none h] at ho; cases ho
  cases ho : c.H[id] with
  | blk s es =>
    obtain ⟨cs, T, g, _⟩ := hs.blk id s es b (by rw [List.getElem?_eq_getElem hd, ho]) h
    exact key _ g
  | mp es =>
    obtain ⟨cs, T, g, _⟩ := hs.map id es b (by rw [List.getElem?_eq_getElem hd, ho]) h
    exact key _ g
  | raw q => exact key _ (hs.raw id q b (by rw [List.getElem?_eq_getElem hd, ho]) h)

theorem bare_sim [GlobT] {FT : Nat → Option Nat} {c : Ctx} (hs : Sim FT c) : Sim FT (bare c) where
  gl := fun g cs hcs => let ⟨cc, T, fz, vals, h1, h2, h3, h4⟩ := hs.gl g cs hcs; ⟨cc, T, fz, vals, bare_imm.2 h1, h2, h3, fun j x hx => (h4 j x hx).mono fun b o hi hb => ⟨bare_imm.2 hi, hb⟩⟩
  inj := fun _ _ _ h => by cases h
  dom := fun _ _ h => by cases h
  nx := fun _ _ h => by cases h
  fresh := fun k hk h => by
    rcases h with h | ⟨id, hid⟩
    · exact hs.fresh k hk h
    · have := beta_lt hs hid
      have hk' : c.w.heap.size ≤ k := hk
      omega
  lens := fun id s es h => by simp [bare] at h
  blk := fun id s es b h => by simp [bare] at h
  map := fun id es b h => by simp [bare] at h
  raw := fun id q b h => by simp [bare] at h

theorem plain1_rv [GlobT] {FT : Nat → Option Nat} {c : Ctx} {x : AV} {v : Value} (hp : plain1 x = true) (h : RV FT c x v) : RV FT (bare c) x v := by
  cases h with
  | pure _ _ hr => exact .pure _ _ (hr.mono fun b o hi hb => ⟨bare_imm.2 hi, hb⟩)
  | ms => cases hp
  | ptr => cases hp
  | rptr cs b off cc T fz vals g1 g2 g3 g4 => exact .rptr cs b off cc T fz vals (bare_imm.2 g1) g2 g3 fun j x hx => (g4 j x hx).mono fun b o hi hb => ⟨bare_imm.2 hi, hb⟩
  | mp => cases hp
  | it => cases hp
  | fn vi f caps cv vals g1 g2 g3 g4 =>
    cases caps with
    | nil => exact .fn vi f [] cv vals g1 g2 g3 fun i x hx => by simp at hx
    | cons _ _ => cases hp
  | agg => cases hp
  | tup => cases hp

theorem plainL_mem [GlobT] : ∀ {cs : List AV}, plainL cs = true → ∀ x ∈ cs, plain1 x = true
  | [], _, x, hx => by cases hx
  | y :: r, h, x, hx => by
    simp only [plainL] at h
    split at h
    · rename_i hy
      rcases List.mem_cons.1 hx with rfl | hx
      · exact hy
      · exact plainL_mem h x hx
    · cases h

theorem plainAll_mem [GlobT] : ∀ {cs : List AV}, plainAll cs = true → ∀ x ∈ cs, plain2 x = true
  | [], _, x, hx => by cases hx
  | y :: r, h, x, hx => by
    simp only [plainAll] at h
    split at h
    · rename_i hy
      rcases List.mem_cons.1 hx with rfl | hx
      · exact hy
      · exact plainAll_mem h x hx
    · cases h

theorem plain2_rv [GlobT] {FT : Nat → Option Nat} {c : Ctx} {x : AV} {v : Value} (hp : plain2 x = true) (h : RV FT c x v) : RV FT (bare c) x v := by
  unfold plain2 at hp
  split at hp
  · rename_i cs
    obtain ⟨cv, vals, rfl, g1, g2, g3⟩ := h.agg_inv
    exact .agg cs cv vals g1 g2 fun i x hx => plain1_rv (plainL_mem hp x (List.mem_of_getElem? hx)) (g3 i x hx)
  · exact plain1_rv hp h

theorem bare_args [GlobT] {FT : Nat → Option Nat} {c : Ctx} {args : List AV} {vs : Array Value} (hp : plainAll args = true) (h : ArgsR FT c args vs) : ArgsR FT (bare c) args vs :=
  ⟨h.1, fun i x hx => let ⟨v, h1, h2⟩ := h.2 i x hx; ⟨v, h1, plain2_rv (plainAll_mem hp x (List.mem_of_getElem? hx)) h2⟩⟩

theorem bare_heap {c c' : Ctx} (h : Step 0 (bare c) c') {k : Nat} (hk : k < c.w.heap.size) : c'.w.heap[k]? = c.w.heap[k]? := h.frame k hk fun id hid => by cases hid

theorem bare_step [GlobT] {FT : Nat → Option Nat} {c c' : Ctx} {fl : Nat} (hs : Sim FT c) (h : Step 0 (bare c) c') : Step fl c (back c c') where
  X := rfl
  os := h.os
  tape := h.tape
  output := h.output
  size := h.size
  len := Nat.le_refl _
  frame := fun k hk _ => bare_heap h hk
  img := fun i _ hb => .inr ⟨i, hb⟩
  blkS := fun id s n hs' => ⟨n, hs', Nat.le_refl _, fun _ => ⟨rfl, fun b cs T hb hcs => ⟨cs, (bare_heap h (beta_lt hs hb)).trans hcs, rfl⟩⟩⟩
  mpS := fun _ hm => ⟨hm, rfl⟩
  floor := fun id _ => ⟨rfl, rfl, fun b hb => bare_heap h (beta_lt hs hb)⟩

theorem bare_back [GlobT] {FT : Nat → Option Nat} {c c' : Ctx} (hs : Sim FT c) (h : Step 0 (bare c) c') : Sim FT (back c c') := by
  have hst := bare_step (fl := 0) hs h
  refine ⟨hs.gl.step hst, hs.inj, hs.dom, hs.nx, fun k hk => hs.fresh k (Nat.le_trans h.size hk), hs.lens, ?_, ?_, fun id q b ho hb => (bare_heap h (beta_lt hs hb)).trans (hs.raw id q b ho hb)⟩
  · intro id s es b ho hb
    obtain ⟨cs, T, g1, g2, g3⟩ := hs.blk id s es b ho hb
    exact ⟨cs, T, (bare_heap h (beta_lt hs hb)).trans g1, g2, fun i j x hx => let ⟨v, k1, k2, k3⟩ := g3 i j x hx; ⟨v, k1, k2, k3.step hst⟩⟩
  · intro id ents b ho hb
    obtain ⟨es, clk, g1, g2, g3⟩ := hs.map id ents b ho hb
    exact ⟨es, clk, (bare_heap h (beta_lt hs hb)).trans g1, g2, fun i k x hx => let ⟨e, k1, k2, k3⟩ := g3 i k x hx; ⟨e, k1, k2, k3.step hst⟩⟩

theorem bare_out [GlobT] {FT : Nat → Option Nat} {c c' : Ctx} {x : AV} {v : Value} (h : RV FT (back (bare c) c') x v) : RV FT (back c c') x v := by
  have him : ∀ b, Imm (back (bare c) c') b → Imm (back c c') b := fun b hi => ⟨fun hx => hi.1 (.inl hx), fun id hid => hi.1 (.inr ⟨id, hid⟩)⟩
  induction h with
  | pure x v hp => exact .pure x v (hp.mono fun b o hi hb => ⟨him b hi, hb⟩)
  | ms id tot off len a cap s n g1 => simp [back, bare, shp] at g1
  | ptr id tot idx off a s n g1 => simp [back, bare, shp] at g1
  | rptr cs b off cc T fz vals g1 g2 g3 g4 => exact .rptr cs b off cc T fz vals (him b g1) g2 g3 fun j x hx => (g4 j x hx).mono fun b o hi hb => ⟨him b hi, hb⟩
  | mp id b g1 => obtain ⟨e, he, _⟩ := g1; simp [back, bare] at he
  | it id b g1 => obtain ⟨e, he, _⟩ := g1; simp [back, bare] at he
  | fn vi f caps cv vals hf hs hv _ ih => exact .fn vi f caps cv vals hf hs hv ih
  | agg cs cv vals hs hv _ ih => exact .agg cs cv vals hs hv ih
  | tup cs cv vals hs hv _ ih => exact .tup cs cv vals hs hv ih

theorem callFunc_run {f : Nat} {fn : Func} {args : Array Value} (h1 : P.funcs[f]? = some fn) (h2 : fn.body.isSome = true) (h3 : (fn.name == "runtime.NumGoroutine") = false) (w : World) :
    (callFunc f args).run P w = .ok (.enter f args) w := by
  obtain ⟨b, hb⟩ := Option.isSome_iff_exists.1 h2
  have h5 : ¬ fn.name = "runtime.NumGoroutine" := by simpa using h3
  simp [callFunc, h1, hb, h5]

theorem nrm_rv [GlobT] {FT : Nat → Option Nat} {c : Ctx} {x : AV} {v : Value} (h : RV FT c x v) : RV FT c (nrm x) v := by
  cases h with
  | pure _ _ hp => exact .pure _ _ (nrm_rp hp)
  | ms id tot off len a cap s n g1 g2 g3 g4 => exact .ms id tot off len a cap s n g1 g2 g3 g4
  | ptr id tot idx off a s n g1 g2 g3 => exact .ptr id tot idx off a s n g1 g2 g3
  | rptr cs b off cc T fz vals g1 g2 g3 g4 => exact .rptr cs b off cc T fz vals g1 g2 g3 g4
  | mp id b g1 g2 => exact .mp id b g1 g2
  | it id b g1 g2 => exact .it id b g1 g2
  | fn vi f caps cv vals g1 g2 g3 g4 => exact .fn vi f caps cv vals g1 g2 g3 g4
  | agg cs cv vals g1 g2 g3 => exact .agg cs cv vals g1 g2 g3
  | tup cs cv vals g1 g2 g3 => exact .tup cs cv vals g1 g2 g3

theorem nrm2_rv [GlobT] {FT : Nat → Option Nat} {c : Ctx} {x : AV} {v : Value} (h : RV FT c x v) : RV FT c (nrm2 x) v := by
  unfold nrm2
  split
  · rename_i cs
    obtain ⟨cv, vals, rfl, g1, g2, g3⟩ := h.agg_inv
    refine .agg _ cv vals (by simpa using g1) ?_ ?_
    · intro i x hx
      simp only [List.getElem?_map, Option.map_eq_some_iff] at hx
      obtain ⟨y, hy, rfl⟩ := hx
      exact g2 i y hy
    · intro i x hx
      simp only [List.getElem?_map, Option.map_eq_some_iff] at hx
      obtain ⟨y, hy, rfl⟩ := hx
      exact nrm_rv (g3 i y hy)
  · exact nrm_rv h

theorem op_movN [GlobT] (hs : Sim (ftOf T) c) (htr : TR (ftOf T) c tm a.tmps) {x : AOpd} {y : Operand} (ho : o.op = .move y ∨ o.op = .assign y) (h : chkOpd T x y = true) :
    OpOK P (ftOf T) c fl o a (nrm2 (getOpd tm x)) c.H := by
  refine ok_same (cv := a.eval y) hs ?_ (nrm2_rv (getOpd_rv hs htr h))
  rcases ho with ho | ho <;> simp [execOp, ho]

theorem args_nrm [GlobT] {FT : Nat → Option Nat} {c : Ctx} {args : List AV} {vs : Array Value} (h : ArgsR FT c args vs) : ArgsR FT c (args.map nrm2) vs := by
  refine ⟨by simpa using h.1, fun i x hx => ?_⟩
  simp only [List.getElem?_map, Option.map_eq_some_iff] at hx
  obtain ⟨y, hy, rfl⟩ := hx
  obtain ⟨v, g1, g2⟩ := h.2 i y hy
  exact ⟨v, g1, nrm2_rv g2⟩

theorem ok_call [GlobT] (hcf : CfOK P T cf) (hfn : FnsOK P T) (hs : Sim (ftOf T) c) (hfl : fl ≤ c.H.length) {pu : Bool} {vi f : Nat} {args : List AV} {vs : Array Value} {r : AV} {H' : Heap}
    (hev : callA cf fl pu vi args c.H = some (r, H')) (hf : ftOf T vi = some f) (hargs : ArgsR (ftOf T) c args vs)
    (hrun : (execOp a.eval o).run P c.w = (callFunc f vs).run P c.w) : OpOK P (ftOf T) c fl o a r H' := by
  obtain ⟨fn, h1, h2, h3⟩ := hfn vi f hf
  intro K Q hK
  unfold Oper.wp
  rw [hrun, callFunc_run h1 h2 h3]
  simp only [Oper.upon]
  unfold callA at hev
  split at hev
  · split at hev
    · rename_i hpl
      split at hev
      · rename_i r' H'' hc
        cases hev
        refine (hcf 0 vi f (args.map nrm2) r' H'' (bare c) vs hc hf (bare_sim hs) (Nat.le_refl _) (args_nrm (bare_args hpl hargs))).mono ?_
        rintro e w' ⟨v, c', rfl, rfl, rfl, hX, hst, hs', hv⟩
        exact hK v (back c c') rfl (bare_step hs hst) (bare_back hs hst) (bare_out (seal3_rv (bare_sim hs) hs' ⟨hst.X, fun id hid => absurd hid (Nat.not_lt_zero _)⟩ hv))
      · cases hev
    · split at hev
      · rename_i r' H'' hc
        cases hev
        refine (hcf _ vi f (args.map nrm2) r' H'' c vs hc hf hs (Nat.le_refl _) (args_nrm hargs)).mono ?_
        rintro e w' ⟨v, c', rfl, rfl, rfl, hX, hst, hs', hv⟩
        exact hK v (back c c') rfl (step_back hs hst) (sim_back hs hst) (seal3_rv hs hs' hst.fl hv)
      · cases hev
  · refine (hcf fl vi f args r H' c vs hev hf hs hfl hargs).mono ?_
    rintro e w' ⟨v, c', rfl, rfl, rfl, hX, hst, hs', hv⟩
    exact hK v c' rfl hst hs' hv

theorem argsR_of [GlobT] (hs : Sim (ftOf T) c) (htr : TR (ftOf T) c tm a.tmps) {xs : List AOpd} {ys : List Operand} (h : chkOpds T xs ys = true) : ArgsR (ftOf T) c (xs.map (getOpd tm)) (ys.map a.eval).toArray := by
  obtain ⟨h1, h2⟩ := opds_rv hs htr h
  refine ⟨by simp [h1], fun i x hx => ?_⟩
  obtain ⟨v, g1, g2⟩ := h2 i x hx
  exact ⟨v, by simpa using g1, g2⟩

theorem op_call [GlobT] (hcf : CfOK P T cf) (hfn : FnsOK P T) (hs : Sim (ftOf T) c) (htr : TR (ftOf T) c tm a.tmps) (hfl : fl ≤ c.H.length) {pu : Bool} {vi f : Nat} {args : List AOpd} {as : Array Operand} {ts : Array TypeId} {r : AV} {H' : Heap}
    (ho : o.op = .call ⟨.value (.func f), as, ts⟩) (hf : ftOf T vi = some f) (h : chkOpds T args as.toList = true) (hev : callA cf fl pu vi (args.map (getOpd tm)) c.H = some (r, H')) : OpOK P (ftOf T) c fl o a r H' := by
  refine ok_call hcf hfn hs hfl hev hf (argsR_of hs htr h) ?_
  have e : (as.toList.map a.eval).toArray = as.map a.eval := by apply Array.ext'; simp
  rw [e]
  simp [execOp, ho, resolve, Act.eval, Deferred.ofValue, invoke]

theorem OpOK.mono [GlobT] {FT : Nat → Option Nat} {fl' : Nat} {r : AV} {H' : Heap} (h : OpOK P FT c fl' o a r H') (hl : fl ≤ fl') : OpOK P FT c fl o a r H' :=
  fun K Q hK => h K Q fun cv c' h1 h2 h3 h4 => hK cv c' h1 (h2.mono hl) h3 h4

theorem op_callF [GlobT] (hcf : CfOK P T cf) (hfn : FnsOK P T) (hs : Sim (ftOf T) c) (htr : TR (ftOf T) c tm a.tmps) (hfl : fl ≤ c.H.length) {vi f : Nat} {args : List AOpd} {as : Array Operand} {ts : Array TypeId} {r : AV} {H' : Heap}
    (ho : o.op = .call ⟨.value (.func f), as, ts⟩) (hf : ftOf T vi = some f) (h : chkOpds T args as.toList = true) (hev : cf c.H.length vi (args.map (getOpd tm)) c.H = some (r, H')) : OpOK P (ftOf T) c fl o a r H' :=
  (op_call (fl := c.H.length) (pu := false) hcf hfn hs htr (Nat.le_refl _) ho hf h hev).mono hfl

/-- The context of a call that looks at the objects as they are. -/
def snapC (c : Ctx) : Ctx := ⟨c.w, c.X, fun _ => none, []⟩

theorem snap_imm {c : Ctx} {b : Nat} (h : Imm c b) : Imm (snapC c) b := ⟨h.1, fun id hid => by cases hid⟩

theorem snap_sim [GlobT] {FT : Nat → Option Nat} {c : Ctx} (hs : Sim FT c) : Sim FT (snapC c) where
  gl := fun g cs hcs => let ⟨cc, T, fz, vals, h1, h2, h3, h4⟩ := hs.gl g cs hcs; ⟨cc, T, fz, vals, snap_imm h1, h2, h3, fun j x hx => (h4 j x hx).mono fun b o hi hb => ⟨snap_imm hi, hb⟩⟩
  inj := fun _ _ _ h => by cases h
  dom := fun _ _ h => by cases h
  nx := fun _ _ h => by cases h
  fresh := hs.fresh
  lens := fun id s es h => by simp [snapC] at h
  blk := fun id s es b h => by simp [snapC] at h
  map := fun id es b h => by simp [snapC] at h
  raw := fun id q b h => by simp [snapC] at h

theorem snap_heap {c c' : Ctx} (h : Step 0 (snapC c) c') {k : Nat} (hk : k < c.w.heap.size) : c'.w.heap[k]? = c.w.heap[k]? := h.frame k hk fun id hid => by cases hid

theorem snap_step [GlobT] {FT : Nat → Option Nat} {c c' : Ctx} {fl : Nat} (hs : Sim FT c) (h : Step 0 (snapC c) c') : Step fl c (back c c') where
  X := rfl
  os := h.os
  tape := h.tape
  output := h.output
  size := h.size
  len := Nat.le_refl _
  frame := fun k hk _ => snap_heap h hk
  img := fun i _ hb => .inr ⟨i, hb⟩
  blkS := fun id s n hs' => ⟨n, hs', Nat.le_refl _, fun _ => ⟨rfl, fun b cs T hb hcs => ⟨cs, (snap_heap h (beta_lt hs hb)).trans hcs, rfl⟩⟩⟩
  mpS := fun _ hm => ⟨hm, rfl⟩
  floor := fun id _ => ⟨rfl, rfl, fun b hb => snap_heap h (beta_lt hs hb)⟩

theorem snap_back [GlobT] {FT : Nat → Option Nat} {c c' : Ctx} (hs : Sim FT c) (h : Step 0 (snapC c) c') : Sim FT (back c c') := by
  have hst := snap_step (fl := 0) hs h
  refine ⟨hs.gl.step hst, hs.inj, hs.dom, hs.nx, fun k hk => hs.fresh k (Nat.le_trans h.size hk), hs.lens, ?_, ?_, fun id q b ho hb => (snap_heap h (beta_lt hs hb)).trans (hs.raw id q b ho hb)⟩
  · intro id s es b ho hb
    obtain ⟨cs, T, g1, g2, g3⟩ := hs.blk id s es b ho hb
    exact ⟨cs, T, (snap_heap h (beta_lt hs hb)).trans g1, g2, fun i j x hx => let ⟨v, k1, k2, k3⟩ := g3 i j x hx; ⟨v, k1, k2, k3.step hst⟩⟩
  · intro id ents b ho hb
    obtain ⟨es, clk, g1, g2, g3⟩ := hs.map id ents b ho hb
    exact ⟨es, clk, (snap_heap h (beta_lt hs hb)).trans g1, g2, fun i k x hx => let ⟨e, k1, k2, k3⟩ := g3 i k x hx; ⟨e, k1, k2, k3.step hst⟩⟩

theorem snap1_rv [GlobT] {c : Ctx} (hs : Sim (ftOf T) c) {x : AV} {v : Value} (hr : RV (ftOf T) c x v) : RV (ftOf T) (snapC c) (seal1 c.H 0 x) v := by
  have hp : ∀ d y u, RV (ftOf T) c y u → RP (snapC c).w (Imm (snapC c)) (sealC c.H 0 d y) u := fun d y u h =>
    seal_rp hs (fun b hb => snap_imm hb) (fun id b _ hb => ⟨hs.nx id b hb, fun i hi => by cases hi⟩) d y u h
  cases hr with
  | pure _ _ hpr =>
    have := hp 0 x v (.pure _ _ hpr)
    cases hpr with
    | undef => exact RV.undef _
    | lit => exact .pure _ _ (nrmV_rp _)
    | nil f a cap hf => exact .pure _ _ (.nil false a cap (by simp))
    | sl f es b off cap cc Ty fz s vals h1 h2 h3 h4 h5 h6 h7 h8 => exact .pure _ _ this
  | ms id tot off len a cap s n g1 g2 g3 g4 =>
    simp only [seal1, Nat.not_lt_zero, if_false]
    exact .pure _ _ (hp _ _ _ (.ms id tot off len a cap s n g1 g2 g3 g4))
  | ptr id tot idx off a s n g1 g2 g3 => simp only [seal1, Nat.not_lt_zero, if_false]; exact RV.undef _
  | rptr cs b off cc Ty fz vals g1 g2 g3 g4 =>
    exact .rptr cs b off cc Ty fz vals (snap_imm g1) g2 g3 fun j x hx => (g4 j x hx).mono fun b o hi hb => ⟨snap_imm hi, hb⟩
  | mp id b g1 g2 => simp only [seal1, Nat.not_lt_zero, if_false]; exact RV.undef _
  | it id b g1 g2 => exact RV.undef _
  | fn vi f caps cv vals g1 g2 g3 g4 =>
    cases caps with
    | nil => exact .fn vi f [] cv vals g1 g2 g3 (fun i x hx => by simp at hx)
    | cons _ _ => exact RV.undef _
  | agg => exact RV.undef _
  | tup => exact RV.undef _

theorem snap2_rv [GlobT] {c : Ctx} (hs : Sim (ftOf T) c) {x : AV} {v : Value} (hr : RV (ftOf T) c x v) : RV (ftOf T) (snapC c) (seal2 c.H 0 x) v := by
  unfold seal2
  split
  · rename_i cs
    obtain ⟨cv, vals, rfl, g1, g2, g3⟩ := hr.agg_inv
    refine .agg _ cv vals (by simpa using g1) ?_ ?_
    · intro i x hx
      simp only [List.getElem?_map, Option.map_eq_some_iff] at hx
      obtain ⟨y, hy, rfl⟩ := hx
      exact g2 i y hy
    · intro i x hx
      simp only [List.getElem?_map, Option.map_eq_some_iff] at hx
      obtain ⟨y, hy, rfl⟩ := hx
      exact snap1_rv hs (g3 i y hy)
  · exact snap1_rv hs hr

theorem scalT_rv [GlobT] {FT : Nat → Option Nat} {c c' : Ctx} {x : AV} {v : Value} (hs : scalT x = true) (h : RV FT c x v) : RV FT c' x v := by
  unfold scalT at hs
  split at hs
  · rw [h.lit_inv]; exact RV.lit _
  · rename_i vs
    obtain ⟨cv, vals, rfl, g1, g2, g3⟩ := h.tup_inv
    refine .tup _ cv vals g1 g2 fun i y hy => ?_
    have := List.all_eq_true.1 hs y (List.mem_of_getElem? hy)
    split at this
    · rw [(g3 i _ hy).lit_inv]; exact RV.lit _
    · cases this
  · cases hs

theorem op_callS [GlobT] (hcf : CfOK P T cf) (hfn : FnsOK P T) (hs : Sim (ftOf T) c) (htr : TR (ftOf T) c tm a.tmps) {vi f : Nat} {args : List AOpd} {as : Array Operand} {ts : Array TypeId} {r : AV} {H' : Heap}
    (ho : o.op = .call ⟨.value (.func f), as, ts⟩) (hf : ftOf T vi = some f) (h : chkOpds T args as.toList = true) (hev : cf 0 vi ((args.map (getOpd tm)).map (seal2 c.H 0)) [] = some (r, H')) (hr : scalT (seal3 H' 0 r) = true) : OpOK P (ftOf T) c fl o a (seal3 H' 0 r) c.H := by
  have hargs := argsR_of hs htr h
  have e : (as.toList.map a.eval).toArray = as.map a.eval := by apply Array.ext'; simp
  have hrun : (execOp a.eval o).run P c.w = (callFunc f (as.toList.map a.eval).toArray).run P c.w := by
    rw [e]
    simp [execOp, ho, resolve, Act.eval, Deferred.ofValue, invoke]
  obtain ⟨fn, h1, h2, h3⟩ := hfn vi f hf
  intro K Q hK
  unfold Oper.wp
  rw [hrun, callFunc_run h1 h2 h3]
  simp only [Oper.upon]
  have hargs2 : ArgsR (ftOf T) (snapC c) ((args.map (getOpd tm)).map (seal2 c.H 0)) (as.toList.map a.eval).toArray := by
    refine ⟨by simpa using hargs.1, fun i x hx => ?_⟩
    rw [List.getElem?_map, Option.map_eq_some_iff] at hx
    obtain ⟨y, hy, rfl⟩ := hx
    obtain ⟨v, g1, g2⟩ := hargs.2 i y hy
    exact ⟨v, g1, snap2_rv hs g2⟩
  refine (hcf 0 vi f _ r H' (snapC c) _ hev hf (snap_sim hs) (Nat.le_refl _) hargs2).mono ?_
  rintro e w' ⟨v, c', rfl, rfl, rfl, hX, hst, hs', hv⟩
  exact hK v (back c c') rfl (snap_step hs hst) (snap_back hs hst) (scalT_rv hr (seal3_rv (snap_sim hs) hs' ⟨hst.X, fun id hid => absurd hid (Nat.not_lt_zero _)⟩ hv))

theorem op_callv [GlobT] (hcf : CfOK P T cf) (hfn : FnsOK P T) (hs : Sim (ftOf T) c) (htr : TR (ftOf T) c tm a.tmps) (hfl : fl ≤ c.H.length) {pu : Bool} {vi : Nat} {x : AOpd} {y : Operand} {caps : List AV} {args : List AOpd} {as : Array Operand} {ts : Array TypeId} {r : AV} {H' : Heap}
    (ho : o.op = .call ⟨.value y, as, ts⟩) (hx : chkOpd T x y = true) (hxe : getOpd tm x = .fn vi caps) (h : chkOpds T args as.toList = true) (hev : callA cf fl pu vi (args.map (getOpd tm) ++ caps) c.H = some (r, H')) : OpOK P (ftOf T) c fl o a r H' := by
  have hr := getOpd_rv hs htr hx
  rw [hxe] at hr
  obtain ⟨f, cv, vals, hv, hf, g1, g2, g3⟩ := hr.fn_inv
  have ha := argsR_of hs htr h
  refine ok_call hcf hfn hs hfl hev hf (vs := (as.toList.map a.eval).toArray ++ cv) ⟨by simp [g1]; simpa using ha.1, ?_⟩ ?_
  · intro i z hz
    rw [List.getElem?_append] at hz
    rw [Array.getElem?_append]
    have hsz : ((as.toList.map a.eval).toArray).size = (args.map (getOpd tm)).length := ha.1
    rw [hsz]
    split at hz
    · rename_i hi; rw [if_pos hi]; exact ha.2 i z hz
    · rename_i hi; rw [if_neg hi]; exact ⟨_, g2 _ z hz, g3 _ z hz⟩
  · have e : (as.toList.map a.eval).toArray = as.map a.eval := by apply Array.ext'; simp
    rw [e]
    simp [execOp, ho, resolve, hv, Deferred.ofValue, invoke]

theorem step_claims [GlobT] : ∀ (cl : List (Nat × Nat)) (c : Ctx), Sim (ftOf T) c → fl ≤ c.H.length → Step fl c ⟨c.w, c.X, c.β, c.H ++ cl.map fun x => .blk x.2 []⟩ ∧ Sim (ftOf T) ⟨c.w, c.X, c.β, c.H ++ cl.map fun x => .blk x.2 []⟩
  | [], c, hs, _ => by simpa using ⟨Step.refl fl c, hs⟩
  | x :: r, c, hs, hfl => by
    have h1 := step_claim (fl := fl) (c := c) (s := x.2) hfl
    have h2 := sim_claim (c := c) (s := x.2) hs
    obtain ⟨h3, h4⟩ := step_claims r ⟨c.w, c.X, c.β, c.H ++ [.blk x.2 []]⟩ h2 (by simp only [List.length_append, List.length_singleton]; omega)
    have e : (c.H ++ [AObj.blk x.2 []]) ++ r.map (fun x => AObj.blk x.2 []) = c.H ++ (x :: r).map fun x => .blk x.2 [] := by simp
    simp only [e] at h3 h4
    exact ⟨h1.trans h3, h4⟩

theorem claimCells_R [GlobT] {FT : Nat → Option Nat} {z : List Value} : ∀ (cl : List (Nat × Nat)) (n : Nat) (cs : List AV), CellsR FT c cs z.toArray → (∀ x ∈ cl, z[x.1]? = some nilS) →
    (∀ i, i < cl.length → RV FT c (.ms (n + i) 0 0 0) nilS) → CellsR FT c (claimCells n cs cl) z.toArray
  | [], _, cs, h, _, _ => h
  | (o, s) :: r, n, cs, h, hz, hn => by
    simp only [claimCells]
    refine claimCells_R r (n + 1) _ ?_ (fun x hx => hz x (by simp [hx])) (fun i hi => by have := hn (i + 1) (by simp; omega); rwa [show n + (i + 1) = n + 1 + i by omega] at this)
    refine ⟨by simpa using h.1, fun j x hx => ?_⟩
    rw [List.getElem?_set] at hx
    split at hx
    · rename_i hoj
      subst hoj
      split at hx
      · cases hx
        exact ⟨nilS, by simpa using hz (o, s) (by simp), rfl, hn 0 (by simp)⟩
      · cases hx
    · exact h.2 j x hx

theorem op_allocC [GlobT] (hs : Sim (ftOf T) c) (hfl : fl ≤ c.H.length) {z : List Value} {cl : List (Nat × Nat)} {t : TypeId} (ho : o.op = .alloc t) (h : zeroIs P t z = true) (hcl : ∀ x ∈ cl, z[x.1]? = some nilS) :
    OpOK P (ftOf T) c fl o a (.ptr (c.H.length + cl.length) 1 0 0) ((c.H ++ cl.map fun c => .blk c.2 []) ++ [.blk z.length [claimCells c.H.length (z.map .lit) cl]]) := by
  obtain ⟨i, v, hi, hv, hc, hsc⟩ := zeroIs_spec h
  obtain ⟨h1, h2⟩ := step_claims (fl := fl) cl c hs hfl
  generalize hH1 : (c.H ++ cl.map fun c => AObj.blk c.2 []) = H1 at h1 h2
  have hlen : H1.length = c.H.length + cl.length := by rw [← hH1]; simp
  have hR : CellsR (ftOf T) ⟨c.w, c.X, c.β, H1⟩ (claimCells c.H.length (z.map .lit) cl) z.toArray := by
    refine claimCells_R cl c.H.length _ (lits_cellsR hsc) hcl ?_
    intro k hk
    refine .ms _ 0 0 0 none 0 (cl[k].2) 0 ?_ (Nat.le_refl _) (Nat.le_refl _) fun _ => ⟨Nat.le_refl _, .inl ⟨?_, rfl, rfl, rfl⟩⟩
    · show shp H1 _ = _
      rw [← hH1]
      simp [shp, hk]
    · show c.β _ = none
      cases hb : c.β (c.H.length + k) with
      | none => rfl
      | some b => have := hs.dom _ b hb; omega
  have hop := op_newVar (P := P) (T := T) (c := ⟨c.w, c.X, c.β, H1⟩) (fl := fl) (o := o) (a := a) (cs := claimCells c.H.length (z.map .lit) cl) (cv := z.toArray) (t := t) h2 (by simp only [hlen]; omega) ?_ hR.1 hR.2
  · have hcl' : (claimCells c.H.length (z.map AV.lit) cl).length = z.length := by have := hR.1; simpa using this.symm
    rw [hcl'] at hop
    simp only [hlen] at hop
    intro K Q hK
    refine hop K Q ?_
    intro cv c' e1 e2 e3 e4
    exact hK cv c' e1 (h1.trans e2) e3 e4
  · simp [execOp, ho, Instr.alloc, zeroValue, typeInfo, hi, hv, newVar, newRow, hc]

end
end Go.Proofs.YtanonfpdkoijnaaGreatDoor.Av
