/- A part of the proof of ChangesetCompactsCardSaid: an evaluator of the program, proved sound, and what it says. -/
import Derived.Test.YtanonfpdkoijnaaGreatDoorAvOps2
namespace Go.Proofs.YtanonfpdkoijnaaGreatDoor.Av
open Go

section
variable {P : Program} {T : List AFun} {c : Ctx} {fl : Nat} {o : Oper} {a : Act} {tm : List AV}

theorem op_idxArr [GlobT] (hs : Sim (ftOf T) c) (htr : TR (ftOf T) c tm a.tmps) {x i : AOpd} {y j : Operand} {t e : TypeId} {s n m : Nat} {v : AV} (ho : o.op = .indexAddr t y j)
    (h1 : chkOpd T x y = true) (h2 : chkOpd T i j = true) (hu : P.underlying t = some (.array m e)) (hsz : sizeIs P e s = true) (hn : natOf (getOpd tm i) = some n) (hlt : n < m)
    (hk : (∃ id tot idx k, getOpd tm x = .ptr id tot idx k ∧ v = .ptr id tot idx (k + n * s)) ∨ (∃ cs, getOpd tm x = .rptr cs ∧ v = .rptr (cs.drop (n * s)))) :
    OpOK P (ftOf T) c fl o a v c.H := by
  have hx := getOpd_rv hs htr h1
  obtain ⟨k, hj⟩ := natOf_inv (getOpd_rv hs htr h2) hn
  obtain ⟨ei, hei, hes⟩ := sizeIs_spec hsz
  have run : ∀ ad : Addr, a.eval y = .pointer (some ad) → (execOp a.eval o).run P c.w = .ok (.value (.pointer (some (ad.add (n * s))))) c.w := by
    intro ad hv
    simp [execOp, ho, hv, hj, Instr.indexAt, Instr.sureAddr, asIntOf, run_underlying hu, sizeOf, typeInfo, hei, hes, hlt]
  rcases hk with ⟨id, tot, idx, k', hk, rfl⟩ | ⟨cs, hk, rfl⟩ <;> rw [hk] at hx
  · obtain ⟨ad, s', n', hv, g1, g2, g3⟩ := hx.ptr_inv
    refine ok_same hs (run ad hv) ?_
    refine .ptr id tot idx (k' + n * s) _ s' n' g1 g2 fun e => ?_
    obtain ⟨b, hb, rfl⟩ := g3 e
    exact ⟨b, hb, by rw [addr_add]; simp [Nat.add_assoc]⟩
  · obtain ⟨b, k', cc, Ty, fz, vals, hv, g1, g2, g3, g4⟩ := hx.rptr_inv
    refine ok_same hs (run _ hv) ?_
    rw [addr_add]
    refine .rptr _ b (k' + n * s) cc Ty fz (fun j => vals (n * s + j)) g1 g2 ?_ ?_
    · intro j x hx
      rw [List.getElem?_drop] at hx
      have := g3 _ x hx
      rwa [← Nat.add_assoc] at this
    · intro j x hx
      rw [List.getElem?_drop] at hx
      exact g4 _ x hx

theorem op_index [GlobT] (hs : Sim (ftOf T) c) (htr : TR (ftOf T) c tm a.tmps) {x i : AOpd} {y j : Operand} {t e : TypeId} {s n m : Nat} {agg : Bool} {cs : List AV} {v : AV} (ho : o.op = .index t y j)
    (h1 : chkOpd T x y = true) (h2 : chkOpd T i j = true) (hu : P.underlying t = some (.array m e)) (hsz : sizeIs P e s = true) (hag : aggIs P e agg = true) (h3 : agg = true ∨ s = 1)
    (hn : natOf (getOpd tm i) = some n) (hlt : n < m) (hx : getOpd tm x = .agg cs) (hle : n * s + s ≤ cs.length)
    (hv : if agg then v = .agg ((cs.drop (n * s)).take s) else (cs.drop (n * s)).take s = [v]) : OpOK P (ftOf T) c fl o a v c.H := by
  have hr := getOpd_rv hs htr h1
  rw [hx] at hr
  obtain ⟨k, hj⟩ := natOf_inv (getOpd_rv hs htr h2) hn
  obtain ⟨ei, hei, hes⟩ := sizeIs_spec hsz
  obtain ⟨cv, vals, e', _⟩ := hr.agg_inv
  rw [e'] at hr
  obtain ⟨r, k1, k2⟩ := part_rv (P := P) hr hag hsz hle hv h3
  refine ok_same (cv := r) hs ?_ k2
  simp [execOp, ho, e', hj, Instr.index, asIntOf, run_underlying hu, sizeOf, typeInfo, hei, hes, hlt, k1]

theorem op_extract [GlobT] (hs : Sim (ftOf T) c) (htr : TR (ftOf T) c tm a.tmps) {x : AOpd} {y : Operand} {i : Nat} {vs : List AV} {v : AV} (ho : o.op = .extract y i)
    (h : chkOpd T x y = true) (hx : getOpd tm x = .tup vs) (hv : vs[i]? = some v) : OpOK P (ftOf T) c fl o a v c.H := by
  have hr := getOpd_rv hs htr h
  rw [hx] at hr
  obtain ⟨cv, vals, e, g1, g2, g3⟩ := hr.tup_inv
  refine ok_same (cv := vals i) hs ?_ (g3 i v hv)
  simp [execOp, ho, e, Instr.extract, g2 i v hv]

theorem opds_rv [GlobT] (hs : Sim (ftOf T) c) (htr : TR (ftOf T) c tm a.tmps) : ∀ {xs : List AOpd} {ys : List Operand}, chkOpds T xs ys = true →
    xs.length = ys.length ∧ ∀ (i : Nat) (x : AV), (xs.map (getOpd tm))[i]? = some x → ∃ v, (ys.map a.eval)[i]? = some v ∧ RV (ftOf T) c x v
  | [], [], _ => ⟨rfl, fun i x hx => by simp at hx⟩
  | x :: r, y :: s, h => by
    simp only [chkOpds, Bool.and_eq_true] at h
    obtain ⟨h1, h2⟩ := opds_rv hs htr h.2
    refine ⟨by simp [h1], fun i z hz => ?_⟩
    cases i with
    | zero =>
      simp only [List.map_cons, List.getElem?_cons_zero, Option.some.injEq] at hz
      subst hz
      exact ⟨a.eval y, by simp, getOpd_rv hs htr h.1⟩
    | succ i =>
      simp only [List.map_cons, List.getElem?_cons_succ] at hz ⊢
      exact h2 i z hz
  | [], _ :: _, h => by cases h
  | _ :: _, [], h => by cases h

theorem op_mkFn [GlobT] (hs : Sim (ftOf T) c) (htr : TR (ftOf T) c tm a.tmps) {vi f : Nat} {caps : List AOpd} {cs : Array Operand} (ho : o.op = .makeFunc (.func f) #[] cs)
    (hf : ftOf T vi = some f) (h : chkOpds T caps cs.toList = true) : OpOK P (ftOf T) c fl o a (.fn vi (caps.map (getOpd tm))) c.H := by
  obtain ⟨h1, h2⟩ := opds_rv hs htr h
  refine ok_same (cv := .func (.func f) #[] (cs.map a.eval)) hs (by simp [execOp, ho, Instr.makeFunc]) ?_
  refine .fn vi f _ _ (fun i => ((cs.toList.map a.eval)[i]?).getD undefV) hf (by simpa using h1.symm) ?_ ?_
  · intro i x hx
    obtain ⟨v, g1, g2⟩ := h2 i x hx
    simp only [g1, Option.getD_some]
    simpa using g1
  · intro i x hx
    obtain ⟨v, g1, g2⟩ := h2 i x hx
    simpa only [g1, Option.getD_some] using g2

theorem op_mkMap [GlobT] (hs : Sim (ftOf T) c) (hfl : fl ≤ c.H.length) {t : TypeId} (ho : o.op = .makeMap t none) : OpOK P (ftOf T) c fl o a (.mp c.H.length) (c.H ++ [.mp []]) := by
  refine ok_value (cv := .map (some c.w.heap.size)) (w' := c.w.alloc (.map #[] 0)) (β' := upd c.β c.H.length c.w.heap.size) ?_
    (step_new (ob := .map #[] 0) hfl rfl rfl rfl rfl (fun id b hb => hs.lt hb)) (sim_new (ob := .map #[] 0) hs rfl rfl rfl rfl ?_ ?_ ?_ (fun _ h => by cases h)) ?_
  · simp [execOp, ho, Instr.makeMap]
  · intro s es he; cases he
  · intro s es he; cases he
  · intro ents he; cases he; exact ⟨rfl, 0, rfl⟩
  · exact .mp _ _ ⟨.mp [], by simp, trivial⟩ (upd_same _ _ _)

theorem op_rangeStr [GlobT] (hs : Sim (ftOf T) c) (htr : TR (ftOf T) c tm a.tmps) (hfl : fl ≤ c.H.length) {x : AOpd} {y : Operand} {t : TypeId} {s : ByteArray} (ho : o.op = .range t y) (h : chkOpd T x y = true) (hu : P.underlying t = some .string) (hx : getOpd tm x = .lit (.string s)) :
    OpOK P (ftOf T) c fl o a (.it c.H.length) (c.H ++ [.raw (.stringIter s 0)]) := by
  have hr := getOpd_rv hs htr h
  rw [hx] at hr
  have hv := hr.lit_inv
  refine ok_value (cv := .pointer (some ⟨c.w.heap.size, 0, none⟩)) (w' := c.w.alloc (.stringIter s 0)) (β' := upd c.β c.H.length c.w.heap.size) ?_
    (step_new (ob := .stringIter s 0) hfl rfl rfl rfl rfl (fun id b hb => hs.lt hb)) (sim_new (ob := .stringIter s 0) hs rfl rfl rfl rfl ?_ ?_ ?_ ?_) ?_
  · simp [execOp, ho, Instr.range, run_underlying hu, hv]
  · intro s es he; cases he
  · intro s es he; cases he
  · intro ents he; cases he
  · intro q he; cases he; rfl
  · exact .it _ _ ⟨.raw (.stringIter s 0), by simp, trivial⟩ (upd_same _ _ _)

theorem op_nextStr [GlobT] (hs : Sim (ftOf T) c) (htr : TR (ftOf T) c tm a.tmps) {x : AOpd} {y : Operand} {id pos : Nat} {s : ByteArray} (ho : o.op = .next y true) (h : chkOpd T x y = true) (hx : getOpd tm x = .it id) (hfl : fl ≤ id) (hob : c.H[id]? = some (.raw (.stringIter s pos))) (hp : pos < s.size) :
    OpOK P (ftOf T) c fl o a (.tup [.lit (.bool true), .lit (.int .i64 pos), .lit (.int .i32 (Utf8.decode s pos).1)]) (c.H.set id (.raw (.stringIter s (pos + (Utf8.decode s pos).2)))) := by
  have hr := getOpd_rv hs htr h
  rw [hx] at hr
  obtain ⟨b, hv, _, hb⟩ := hr.it_inv
  have g1 := hs.raw id _ b hob hb
  have hget : (getObj b).run P c.w = .ok (.stringIter s pos) c.w := by simp [getObj, Sem.run, g1]
  have hset : ∀ ob, (setObj b ob).run P c.w = .ok () { c.w with heap := c.w.heap.setIfInBounds b ob } := by
    intro ob; simp [setObj, Sem.run, g1]
  refine ok_value (cv := .tuple #[.bool true, .int .i64 pos, .int .i32 (Utf8.decode s pos).1]) (β' := c.β) (w' := { c.w with heap := c.w.heap.setIfInBounds b (.stringIter s (pos + (Utf8.decode s pos).2)) }) ?_
    (step_setRaw (q' := .stringIter s (pos + (Utf8.decode s pos).2)) hs hfl hob hb rfl rfl rfl rfl) (sim_setRaw hs hob hb rfl rfl rfl rfl) ?_
  · simp [execOp, ho, hv, Instr.next, hget, hset, hp, goInt]
  · refine .tup _ _ (fun i => if i = 0 then .bool true else if i = 1 then .int .i64 pos else .int .i32 (Utf8.decode s pos).1) rfl ?_ ?_
    · intro i x hx
      match i with
      | 0 => rfl
      | 1 => rfl
      | 2 => rfl
      | n + 3 => simp at hx
    · intro i x hx
      match i with
      | 0 => simp at hx; subst hx; exact RV.lit _
      | 1 => simp at hx; subst hx; exact RV.lit _
      | 2 => simp at hx; subst hx; exact RV.lit _
      | n + 3 => simp at hx

theorem op_overStr [GlobT] (hs : Sim (ftOf T) c) (htr : TR (ftOf T) c tm a.tmps) {x : AOpd} {y : Operand} {id pos : Nat} {s : ByteArray} (ho : o.op = .next y true) (h : chkOpd T x y = true) (hx : getOpd tm x = .it id) (hob : c.H[id]? = some (.raw (.stringIter s pos))) (hp : ¬ pos < s.size) :
    OpOK P (ftOf T) c fl o a (.tup [.lit (.bool false)]) c.H := by
  have hr := getOpd_rv hs htr h
  rw [hx] at hr
  obtain ⟨b, hv, _, hb⟩ := hr.it_inv
  have g1 := hs.raw id _ b hob hb
  have hget : (getObj b).run P c.w = .ok (.stringIter s pos) c.w := by simp [getObj, Sem.run, g1]
  refine ok_same (cv := .tuple #[.bool false]) hs ?_ ?_
  · simp [execOp, ho, hv, Instr.next, hget, hp]
  · refine .tup _ _ (fun _ => .bool false) rfl ?_ ?_
    · intro i x hx
      match i with
      | 0 => rfl
      | n + 1 => simp at hx
    · intro i x hx
      match i with
      | 0 => simp at hx; subst hx; exact RV.lit _
      | n + 1 => simp at hx

theorem op_lenS [GlobT] (hs : Sim (ftOf T) c) (htr : TR (ftOf T) c tm a.tmps) {x : AOpd} {y : Operand} {t e : TypeId} {n : Nat} (ho : o.op = .call ⟨.builtin .len, #[y], #[t]⟩)
    (h : chkOpd T x y = true) (hu : P.underlying t = some (.slice e))
    (hk : (getOpd tm x = .lit (.slice none 0 0) ∧ n = 0) ∨ (∃ f es, getOpd tm x = .sl f es ∧ n = es.length) ∨ ∃ id tot off, getOpd tm x = .ms id tot off n) :
    OpOK P (ftOf T) c fl o a (.lit (.int .i64 n)) c.H := by
  have hx := getOpd_rv hs htr h
  have hv : ∃ ad cap, a.eval y = .slice ad n cap := by
    rcases hk with ⟨hk, rfl⟩ | ⟨f, es, hk, rfl⟩ | ⟨id, tot, off, hk⟩ <;> rw [hk] at hx
    · exact ⟨none, 0, hx.lit_inv⟩
    · have hp := hx.sl_inv
      generalize a.eval y = w at hp
      cases hp with
      | nil _ ad cap => exact ⟨ad, cap, rfl⟩
      | sl _ _ b off cap => exact ⟨_, cap, rfl⟩
    · obtain ⟨ad, cap, s, n', hv, _⟩ := hx.ms_inv
      exact ⟨ad, cap, hv⟩
  obtain ⟨ad, cap, hv⟩ := hv
  refine ok_same (cv := .int .i64 n) hs ?_ (RV.lit _)
  simp [execOp, ho, resolve, invoke, builtin, Builtin.len_, run_underlying hu, hv, goInt]

theorem op_capS [GlobT] (hs : Sim (ftOf T) c) (htr : TR (ftOf T) c tm a.tmps) {x : AOpd} {y : Operand} {t e : TypeId} {n : Nat} (ho : o.op = .call ⟨.builtin .cap, #[y], #[t]⟩)
    (h : chkOpd T x y = true) (hu : P.underlying t = some (.slice e))
    (hk : (getOpd tm x = .lit (.slice none 0 0) ∧ n = 0) ∨ (∃ es, getOpd tm x = .sl true es ∧ n = es.length)) :
    OpOK P (ftOf T) c fl o a (.lit (.int .i64 n)) c.H := by
  have hx := getOpd_rv hs htr h
  have hv : ∃ ad len, a.eval y = .slice ad len n := by
    rcases hk with ⟨hk, rfl⟩ | ⟨es, hk, rfl⟩ <;> rw [hk] at hx
    · exact ⟨none, 0, hx.lit_inv⟩
    · have hp := hx.sl_inv
      generalize a.eval y = w at hp
      cases hp with
      | nil _ ad cap hf => exact ⟨ad, 0, by rw [hf rfl]; rfl⟩
      | sl _ _ b off cap cc Ty fz s vals g1 g2 g3 g4 g5 g6 g7 g8 => exact ⟨_, _, by rw [g6 rfl]⟩
  obtain ⟨ad, len, hv⟩ := hv
  refine ok_same (cv := .int .i64 n) hs ?_ (RV.lit _)
  simp [execOp, ho, resolve, invoke, builtin, Builtin.cap_, run_underlying hu, hv, goInt]

theorem op_lenM [GlobT] (hs : Sim (ftOf T) c) (htr : TR (ftOf T) c tm a.tmps) {x : AOpd} {y : Operand} {t k e : TypeId} {n : Nat} (ho : o.op = .call ⟨.builtin .len, #[y], #[t]⟩)
    (h : chkOpd T x y = true) (hu : P.underlying t = some (.map k e))
    (hk : (getOpd tm x = .lit (.map none) ∧ n = 0) ∨ (∃ id ents, getOpd tm x = .mp id ∧ c.H[id]? = some (.mp ents) ∧ n = ents.length)) :
    OpOK P (ftOf T) c fl o a (.lit (.int .i64 n)) c.H := by
  have hx := getOpd_rv hs htr h
  refine ok_same (cv := .int .i64 n) hs ?_ (RV.lit _)
  rcases hk with ⟨hk, rfl⟩ | ⟨id, ents, hk, hob, rfl⟩ <;> rw [hk] at hx
  · simp [execOp, ho, resolve, invoke, builtin, Builtin.len_, run_underlying hu, hx.lit_inv, goInt]
  · obtain ⟨b, hv, _, hb⟩ := hx.mp_inv
    obtain ⟨es, clk, g1, g2, _⟩ := hs.map id ents b hob hb
    simp [execOp, ho, resolve, invoke, builtin, Builtin.len_, run_underlying hu, hv, goInt, getObj, Sem.run, g1, g2]

theorem op_lenStr [GlobT] (hs : Sim (ftOf T) c) (htr : TR (ftOf T) c tm a.tmps) {x : AOpd} {y : Operand} {t : TypeId} {v r : Value} (ho : o.op = .call ⟨.builtin .len, #[y], #[t]⟩)
    (h : chkOpd T x y = true) (hx : getOpd tm x = .lit v) (hr : pureRun P (Builtin.len_ #[t] 0 #[v]) = some r) : OpOK P (ftOf T) c fl o a (.lit r) c.H := by
  have hrv := getOpd_rv hs htr h
  rw [hx] at hrv
  refine ok_same (cv := r) hs ?_ (RV.lit _)
  have h0 := run_of_pureRun (w := c.w) hr
  have e : Builtin.len_ #[t] o.type #[v] = Builtin.len_ #[t] 0 #[v] := rfl
  simp [execOp, ho, resolve, invoke, builtin, hrv.lit_inv, e, h0]

theorem op_lenC [GlobT] (hs : Sim (ftOf T) c) {y : Operand} {t e : TypeId} {n : Nat} (ho : o.op = .call ⟨.builtin .len, #[y], #[t]⟩)
    (hu : P.underlying t = some (.array n e)) : OpOK P (ftOf T) c fl o a (.lit (.int .i64 n)) c.H := by
  refine ok_same (cv := .int .i64 n) hs ?_ (RV.lit _)
  simp [execOp, ho, resolve, invoke, builtin, Builtin.len_, run_underlying hu, goInt]

theorem op_minmax [GlobT] (hs : Sim (ftOf T) c) (htr : TR (ftOf T) c tm a.tmps) {xs : List AOpd} {ys : Array Operand} {ts : Array TypeId} {vs : List Value} {r : Value} {b : Builtin} (ho : o.op = .call ⟨.builtin b, ys, ts⟩)
    (hb : b = .max ∨ b = .min) (h : chkOpds T xs ys.toList = true) (hv : litL (xs.map (getOpd tm)) = some vs)
    (hr : pureRun P (if b = .max then Builtin.max_ #[] 0 vs.toArray else Builtin.min_ #[] 0 vs.toArray) = some r) : OpOK P (ftOf T) c fl o a (.lit r) c.H := by
  obtain ⟨h1, h2⟩ := opds_rv hs htr h
  have e := litL_rv hv
  have hvs : ys.map a.eval = vs.toArray := by
    apply Array.ext_getElem?
    intro i
    have hl : vs.length = xs.length := by have := congrArg List.length e; simpa using this.symm
    by_cases hi : i < vs.length
    · have hx : (xs.map (getOpd tm))[i]? = some (.lit vs[i]) := by rw [e]; simp [hi]
      obtain ⟨v, g1, g2⟩ := h2 i _ hx
      have := g2.lit_inv
      subst this
      have : (ys.map a.eval)[i]? = some vs[i] := by simpa using g1
      rw [this]; simp [hi]
    · have hy : ys.size = vs.length := by simpa [hl] using h1.symm
      rw [Array.getElem?_eq_none (by simp; omega), Array.getElem?_eq_none (by simp; omega)]
  refine ok_same (cv := r) hs ?_ (RV.lit _)
  have h0 := run_of_pureRun (w := c.w) hr
  rcases hb with rfl | rfl
  · simp only [if_true] at h0
    have e2 : ∀ (as : Array Value) (ty : TypeId), Builtin.max_ ts ty as = Builtin.max_ #[] 0 as := fun _ _ => rfl
    simp [execOp, ho, resolve, invoke, builtin, hvs, e2, h0]
  · rw [if_neg (by simp)] at h0
    have e2 : ∀ (as : Array Value) (ty : TypeId), Builtin.min_ ts ty as = Builtin.min_ #[] 0 as := fun _ _ => rfl
    simp [execOp, ho, resolve, invoke, builtin, hvs, e2, h0]

end
end Go.Proofs.YtanonfpdkoijnaaGreatDoor.Av
