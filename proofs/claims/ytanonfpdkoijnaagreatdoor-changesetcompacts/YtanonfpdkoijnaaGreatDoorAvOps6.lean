/- A part of the proof of ChangesetCompactsCardSaid: an evaluator of the program, proved sound, and what it says. -/
import Derived.Test.YtanonfpdkoijnaaGreatDoorAvOps5
namespace Go.Proofs.YtanonfpdkoijnaaGreatDoor.Av
open Go

section
variable {P : Program} {T : List AFun} {c : Ctx} {fl : Nat} {o : Oper} {a : Act} {tm : List AV}

theorem op_strSlice [GlobT] (hs : Sim (ftOf T) c) (htr : TR (ftOf T) c tm a.tmps) {x : AOpd} {y : Operand} {lo hi : Option AOpd} {lo' hi' : Option Operand} {t : TypeId} {nlo nhi : Option Nat} {s : ByteArray}
    (ho : o.op = .slice t y lo' hi' none) (h0 : chkOpd T x y = true) (h1 : chkOpt T lo lo' = true) (h2 : chkOpt T hi hi' = true) (hu : P.underlying t = some .string)
    (n1 : natOpt tm lo = some nlo) (n2 : natOpt tm hi = some nhi) (hx : getOpd tm x = .lit (.string s)) (hc : nlo.getD 0 ≤ nhi.getD s.size ∧ nhi.getD s.size ≤ s.size) :
    OpOK P (ftOf T) c fl o a (.lit (.string (s.extract (nlo.getD 0) (nhi.getD s.size)))) c.H := by
  have hv := getOpd_rv hs htr h0
  rw [hx] at hv
  have o1 := natOpt_inv hs htr h1 n1
  have o2 := natOpt_inv hs htr h2 n2
  refine ok_same (cv := .string (s.extract (nlo.getD 0) (nhi.getD s.size))) hs ?_ (RV.lit _)
  have := sliceBounds_run (P := P) (isS := false) (len := s.size) (cap := s.size) (vmx := none) (mx := none) o1 o2 (.inl ⟨rfl, rfl⟩) (by simp) (by simpa using hc.2) hc.1 (by simp) c.w
  simp [execOp, ho, hv.lit_inv, Instr.sliceAt, Instr.slice, run_underlying hu, this]

theorem pureRun_bind' {α β : Type} (x : Sem α) (f : α → Sem β) : pureRun P (x.bind f) = (pureRun P x).bind fun a => pureRun P (f a) := by
  induction x with
  | pure a => rfl
  | program k ih => simp only [Sem.bind, pureRun]; exact ih P
  | mark m k ih => simp only [Sem.bind, pureRun]; exact ih
  | _ => rfl

theorem pureRun_bind [GlobT] {α β : Type} (x : Sem α) (f : α → Sem β) : pureRun P (x >>= f) = (pureRun P x).bind fun a => pureRun P (f a) := pureRun_bind' x f
theorem pureRun_pure {α : Type} (x : α) : pureRun P (pure x : Sem α) = some x := rfl
theorem pureRun_ite {α : Type} {p : Prop} [Decidable p] (x y : Sem α) : pureRun P (if p then x else y) = if p then pureRun P x else pureRun P y := by split <;> rfl

theorem findNow_rel [GlobT] {kind : TypeDesc} {k : Value} : ∀ (es1 es2 : List MapEntry) (i : Nat), es1.map (·.key) = es2.map (·.key) →
    (Instr.findNow kind k es1 i).map (·.map (·.1)) = (Instr.findNow kind k es2 i).map (·.map (·.1))
  | [], [], _, _ => rfl
  | e1 :: r1, e2 :: r2, i, h => by
    simp only [List.map_cons, List.cons.injEq] at h
    simp only [Instr.findNow, h.1]
    split
    · rfl
    · exact findNow_rel r1 r2 (i + 1) h.2
    · rfl
  | [], _ :: _, _, h => by cases h
  | _ :: _, [], _, h => by cases h

theorem findNow_val [GlobT] {kind : TypeDesc} {k v : Value} {j : Nat} : ∀ (es : List MapEntry) (i : Nat), Instr.findNow kind k es i = some (some (j, v)) → i ≤ j ∧ ∃ e, es[j - i]? = some e ∧ v = e.val
  | [], _, h => by cases h
  | e :: r, i, h => by
    simp only [Instr.findNow] at h
    split at h
    · cases h; exact ⟨Nat.le_refl _, e, by simp, rfl⟩
    · obtain ⟨h1, e', h2, h3⟩ := findNow_val r (i + 1) h
      refine ⟨by omega, e', ?_, h3⟩
      have : j - i = (j - (i + 1)) + 1 := by omega
      rw [this, List.getElem?_cons_succ]; exact h2
    · cases h

theorem findAsking_rel [GlobT] {kt : TypeId} {k : Value} : ∀ (es1 es2 : List MapEntry) (i : Nat), es1.map (·.key) = es2.map (·.key) →
    (pureRun P (Instr.findAsking kt k es1 i)).map (·.map (·.1)) = (pureRun P (Instr.findAsking kt k es2 i)).map (·.map (·.1))
  | [], [], _, _ => rfl
  | e1 :: r1, e2 :: r2, i, h => by
    simp only [List.map_cons, List.cons.injEq] at h
    simp only [Instr.findAsking, h.1, pureRun_bind, pureRun_ite, pureRun_pure]
    cases pureRun P (Op.equal kt k e2.key) with
    | none => rfl
    | some b =>
      simp only [Option.bind_some]
      split
      · rfl
      · exact findAsking_rel r1 r2 (i + 1) h.2
  | [], _ :: _, _, h => by cases h
  | _ :: _, [], _, h => by cases h

theorem findAsking_val [GlobT] {kt : TypeId} {k v : Value} {j : Nat} : ∀ (es : List MapEntry) (i : Nat), pureRun P (Instr.findAsking kt k es i) = some (some (j, v)) → i ≤ j ∧ ∃ e, es[j - i]? = some e ∧ v = e.val
  | [], _, h => by simp [Instr.findAsking, pureRun_pure] at h
  | e :: r, i, h => by
    simp only [Instr.findAsking, pureRun_bind, pureRun_ite, pureRun_pure] at h
    cases hq : pureRun P (Op.equal kt k e.key) with
    | none => rw [hq] at h; cases h
    | some b =>
      rw [hq] at h
      simp only [Option.bind_some] at h
      split at h
      · cases h; exact ⟨Nat.le_refl _, e, by simp, rfl⟩
      · obtain ⟨h1, e', h2, h3⟩ := findAsking_val r (i + 1) h
        refine ⟨by omega, e', ?_, h3⟩
        have : j - i = (j - (i + 1)) + 1 := by omega
        rw [this, List.getElem?_cons_succ]; exact h2

theorem pureRun_underlying [GlobT] {t : TypeId} : pureRun P (underlying t) = P.underlying t := by
  unfold underlying
  rw [pureRun_bind]
  have : pureRun P program = some P := rfl
  rw [this]
  simp only [Option.bind_some]
  split
  · rename_i h; rw [h]; rfl
  · rename_i h; rw [h]; rfl

theorem findKey_rel [GlobT] {kt : TypeId} {k : Value} {es1 es2 : List MapEntry} (h : es1.map (·.key) = es2.map (·.key)) :
    (pureRun P (Instr.findKey kt k es1)).map (·.map (·.1)) = (pureRun P (Instr.findKey kt k es2)).map (·.map (·.1)) := by
  simp only [Instr.findKey, pureRun_bind, pureRun_underlying]
  cases P.underlying kt with
  | none => rfl
  | some d =>
    simp only [Option.bind_some]
    have hn := findNow_rel (kind := d) (k := k) es1 es2 0 h
    cases h1 : Instr.findNow d k es1 0 with
    | none =>
      cases h2 : Instr.findNow d k es2 0 with
      | none => exact findAsking_rel es1 es2 0 h
      | some r2 => rw [h1, h2] at hn; cases hn
    | some r1 =>
      cases h2 : Instr.findNow d k es2 0 with
      | none => rw [h1, h2] at hn; cases hn
      | some r2 => rw [h1, h2] at hn; exact hn

theorem findKey_val [GlobT] {kt : TypeId} {k v : Value} {j : Nat} {es : List MapEntry} (h : pureRun P (Instr.findKey kt k es) = some (some (j, v))) : ∃ e, es[j]? = some e ∧ v = e.val := by
  simp only [Instr.findKey, pureRun_bind, pureRun_underlying] at h
  cases hu : P.underlying kt with
  | none => rw [hu] at h; cases h
  | some d =>
    rw [hu] at h
    simp only [Option.bind_some] at h
    split at h
    · rename_i r hr
      simp only [pureRun_pure, Option.some.injEq] at h
      subst h
      obtain ⟨_, e, h1, h2⟩ := findNow_val es 0 hr
      exact ⟨e, by simpa using h1, h2⟩
    · obtain ⟨_, e, h1, h2⟩ := findAsking_val es 0 h
      exact ⟨e, by simpa using h1, h2⟩

/-- The entries of a map in memory, as the abstract map has them. -/
def EntsR (FT : Nat → Option Nat) (c : Ctx) (ents : List (Value × AV)) (es : Array MapEntry) : Prop :=
  es.size = ents.length ∧ ∀ (i : Nat) (k : Value) (x : AV), ents[i]? = some (k, x) → ∃ e, es[i]? = some e ∧ e.key = k ∧ RV FT c x e.val

theorem entsR_keys {FT : Nat → Option Nat} {ents : List (Value × AV)} {es : Array MapEntry} (h : EntsR FT c ents es) :
    (ents.map fun e => ({ key := e.1, val := .bool false, born := 0 } : MapEntry)).map (·.key) = es.toList.map (·.key) := by
  apply List.ext_getElem?
  intro i
  simp only [List.map_map, List.getElem?_map]
  cases he : ents[i]? with
  | none =>
    have : es.toList[i]? = none := by
      rw [List.getElem?_eq_none_iff] at he ⊢
      simp only [Array.length_toList, h.1]; exact he
    rw [this]; rfl
  | some p =>
    obtain ⟨k, x⟩ := p
    obtain ⟨e, h1, h2, _⟩ := h.2 i k x he
    have : es.toList[i]? = some e := by simpa using h1
    rw [this]
    simp [h2]

theorem findA_some [GlobT] {FT : Nat → Option Nat} {kt : TypeId} {k : Value} {ents : List (Value × AV)} {es : Array MapEntry} {i : Nat} (h : EntsR FT c ents es) (hf : findA P kt k ents = some (some i)) (w : World) :
    ∃ e, es[i]? = some e ∧ (Instr.findKey kt k es.toList).run P w = .ok (some (i, e.val)) w := by
  have hr := findKey_rel (P := P) (kt := kt) (k := k) (entsR_keys h)
  unfold findA at hf
  split at hf
  · rename_i j v hj
    cases hf
    rw [hj] at hr
    cases hq : pureRun P (Instr.findKey kt k es.toList) with
    | none => rw [hq] at hr; cases hr
    | some r =>
      rw [hq] at hr
      cases r with
      | none => cases hr
      | some p =>
        obtain ⟨j', v'⟩ := p
        have : i = j' := by simpa using hr
        subst this
        obtain ⟨e, h1, h2⟩ := findKey_val hq
        exact ⟨e, by simpa using h1, by rw [run_of_pureRun hq, h2]⟩
  · cases hf
  · cases hf

theorem findA_none [GlobT] {FT : Nat → Option Nat} {kt : TypeId} {k : Value} {ents : List (Value × AV)} {es : Array MapEntry} (h : EntsR FT c ents es) (hf : findA P kt k ents = some none) (w : World) :
    (Instr.findKey kt k es.toList).run P w = .ok none w := by
  have hr := findKey_rel (P := P) (kt := kt) (k := k) (entsR_keys h)
  unfold findA at hf
  split at hf
  · cases hf
  · rename_i hj
    rw [hj] at hr
    cases hq : pureRun P (Instr.findKey kt k es.toList) with
    | none => rw [hq] at hr; cases hr
    | some r =>
      rw [hq] at hr
      cases r with
      | none => exact run_of_pureRun hq
      | some p => cases hr
  · cases hf

theorem entsR_of [GlobT] (hs : Sim (ftOf T) c) {id b : Nat} {ents : List (Value × AV)} (ho : c.H[id]? = some (.mp ents)) (hb : c.β id = some b) :
    ∃ es clk, c.w.heap[b]? = some (.map es clk) ∧ EntsR (ftOf T) c ents es := by
  obtain ⟨es, clk, h1, h2, h3⟩ := hs.map id ents b ho hb
  exact ⟨es, clk, h1, h2, h3⟩

theorem run_getObj_map {w : World} {b : Nat} {es : Array MapEntry} {clk : Nat} (h : w.heap[b]? = some (.map es clk)) : (getObj b).run P w = .ok (.map es clk) w := by
  simp [getObj, Sem.run, h]

theorem isEmpty_eq {FT : Nat → Option Nat} {ents : List (Value × AV)} {es : Array MapEntry} (h : EntsR FT c ents es) : es.isEmpty = ents.isEmpty := by
  have := h.1
  cases ents with
  | nil => simp at this; simp [this]
  | cons e r =>
    have : es ≠ #[] := by intro e; subst e; simp at this
    simp [this]

theorem op_lookup [GlobT] (hs : Sim (ftOf T) c) (htr : TR (ftOf T) c tm a.tmps) {kt e t : TypeId} {z m k : AOpd} {m' k' : Operand} {ok : Bool} {ents : List (Value × AV)} {kv : Value} {r v : AV} {i : TypeInfo} {zv : Value}
    (ho : o.op = .lookup t m' k' ok) (h1 : chkOpd T m m' = true) (h2 : chkOpd T k k' = true) (hu : P.underlying t = some (.map kt e)) (hi : P.info? e = some i) (hz : i.zero = some zv) (hzr : RV (ftOf T) c (getOpd tm z) zv)
    (hk : lits (getOpd tm k) = some kv) (hck : pureRun P (Instr.checkKey ents.isEmpty 10000 kt kv) = some ())
    (hm : (getOpd tm m = .lit (.map none) ∧ ents = []) ∨ ∃ id, getOpd tm m = .mp id ∧ c.H[id]? = some (.mp ents))
    (hr : (∃ i e, findA P kt kv ents = some (some i) ∧ ents[i]? = some e ∧ r = e.2 ∧ v = .lit (.bool true)) ∨ (findA P kt kv ents = some none ∧ r = getOpd tm z ∧ v = .lit (.bool false))) :
    OpOK P (ftOf T) c fl o a (if ok then .tup [r, v] else r) c.H := by
  have hm' := getOpd_rv hs htr h1
  have hkv := lits_rv (getOpd_rv hs htr h2) hk
  have hes : ∃ es : Array MapEntry, EntsR (ftOf T) c ents es ∧ ((a.eval m' = .map none ∧ es = #[]) ∨ ∃ b clk, a.eval m' = .map (some b) ∧ c.w.heap[b]? = some (.map es clk)) := by
    rcases hm with ⟨hm, rfl⟩ | ⟨id, hm, hob⟩ <;> rw [hm] at hm'
    · exact ⟨#[], ⟨rfl, fun i k x hx => by simp at hx⟩, .inl ⟨hm'.lit_inv, rfl⟩⟩
    · obtain ⟨b, hv, _, hb⟩ := hm'.mp_inv
      obtain ⟨es, clk, g1, g2⟩ := entsR_of hs hob hb
      exact ⟨es, g2, .inr ⟨b, clk, hv, g1⟩⟩
  obtain ⟨es, hE, hK⟩ := hes
  have hck' : (Instr.checkKey es.isEmpty 10000 kt kv).run P c.w = .ok () c.w := by rw [isEmpty_eq hE]; exact run_of_pureRun hck
  have hres : ∃ (cr : Value) (b : Bool), RV (ftOf T) c r cr ∧ v = .lit (.bool b) ∧ (Instr.lookup t (a.eval m') kv ok).run P c.w = .ok (if ok then .tuple #[cr, .bool b] else cr) c.w := by
    rcases hr with ⟨i0, en, hf, hen, rfl, rfl⟩ | ⟨hf, rfl, rfl⟩
    · obtain ⟨e', g1, g2⟩ := findA_some hE hf c.w
      obtain ⟨k0, x0⟩ := en
      obtain ⟨e'', g3, _, g4⟩ := hE.2 i0 k0 x0 hen
      rw [g1] at g3
      cases g3
      refine ⟨e'.val, true, g4, rfl, ?_⟩
      rcases hK with ⟨hv, rfl⟩ | ⟨b, clk, hv, hb⟩
      · simp at g1
      · simp [Instr.lookup, run_underlying hu, hv, run_getObj_map hb, hck', g2]
    · have g2 := findA_none hE hf c.w
      refine ⟨zv, false, hzr, rfl, ?_⟩
      rcases hK with ⟨hv, rfl⟩ | ⟨b, clk, hv, hb⟩
      · simp only [Array.isEmpty_empty] at hck'
        simp [Instr.lookup, run_underlying hu, hv, hck', g2, zeroValue, typeInfo, hi, hz]
      · simp [Instr.lookup, run_underlying hu, hv, run_getObj_map hb, hck', g2, zeroValue, typeInfo, hi, hz]
  obtain ⟨cr, b, k1, rfl, k3⟩ := hres
  refine ok_same (cv := if ok then .tuple #[cr, .bool b] else cr) hs (by simp [execOp, ho, hkv, k3]) ?_
  cases ok with
  | false => simpa using k1
  | true =>
    simp only [if_true]
    refine .tup _ _ (fun i => if i = 0 then cr else .bool b) rfl ?_ ?_
    · intro i x hx
      match i with
      | 0 => rfl
      | 1 => rfl
      | n + 2 => simp at hx
    · intro i x hx
      match i with
      | 0 => simp at hx; subst hx; simpa using k1
      | 1 => simp at hx; subst hx; exact RV.lit _
      | n + 2 => simp at hx

theorem entsR_set {FT : Nat → Option Nat} {ents : List (Value × AV)} {es : Array MapEntry} {i : Nat} {k : Value} {x : AV} {v : Value} {e : MapEntry} (h : EntsR FT c ents es) (he : es[i]? = some e) (hr : RV FT c x v) :
    EntsR FT c (ents.set i (k, x)) (es.modify i fun e => { e with key := k, val := v }) := by
  refine ⟨by simpa using h.1, fun j k' x' hx => ?_⟩
  rw [List.getElem?_set] at hx
  split at hx
  · rename_i hij
    subst hij
    split at hx
    · cases hx
      refine ⟨{ e with key := k, val := v }, ?_, rfl, hr⟩
      rw [Array.getElem?_modify]; simp [he]
    · cases hx
  · rename_i hij
    obtain ⟨e', g1, g2, g3⟩ := h.2 j k' x' hx
    refine ⟨e', ?_, g2, g3⟩
    rw [Array.getElem?_modify]; simp [hij, g1]

theorem entsR_push {FT : Nat → Option Nat} {ents : List (Value × AV)} {es : Array MapEntry} {k : Value} {x : AV} {v : Value} {n : Nat} (h : EntsR FT c ents es) (hr : RV FT c x v) :
    EntsR FT c (ents ++ [(k, x)]) (es.push { key := k, val := v, born := n }) := by
  refine ⟨by simp [h.1], fun j k' x' hx => ?_⟩
  rw [List.getElem?_append] at hx
  split at hx
  · rename_i hj
    obtain ⟨e', g1, g2, g3⟩ := h.2 j k' x' hx
    refine ⟨e', ?_, g2, g3⟩
    rw [Array.getElem?_push, if_neg (by rw [h.1]; omega)]; exact g1
  · rename_i hj
    rw [List.getElem?_singleton] at hx
    split at hx
    · rename_i h0
      cases hx
      refine ⟨{ key := k, val := v, born := n }, ?_, rfl, hr⟩
      rw [Array.getElem?_push, if_pos (by rw [h.1]; omega)]
    · cases hx

theorem op_mapUpd [GlobT] (hs : Sim (ftOf T) c) (htr : TR (ftOf T) c tm a.tmps) {kt e t : TypeId} {m k x : AOpd} {m' k' x' : Operand} {ents ents' : List (Value × AV)} {kv : Value} {id : Nat}
    (ho : o.op = .mapUpdate t m' k' x' ∨ o.op = .insert t m' k' x') (h1 : chkOpd T m m' = true) (h2 : chkOpd T k k' = true) (h3 : chkOpd T x x' = true) (hu : P.underlying t = some (.map kt e))
    (hk : lits (getOpd tm k) = some kv) (hck : pureRun P (Instr.checkKey false 10000 kt kv) = some ()) (hfl : fl ≤ id)
    (hm : getOpd tm m = .mp id) (hob : c.H[id]? = some (.mp ents))
    (hr : (∃ i en, findA P kt kv ents = some (some i) ∧ ents[i]? = some en ∧ Instr.sameBits 10000 en.1 kv = true ∧ ents' = ents.set i (kv, getOpd tm x)) ∨ (findA P kt kv ents = some none ∧ ents' = ents ++ [(kv, getOpd tm x)])) :
    OpOK P (ftOf T) c fl o a (.lit undefV) (c.H.set id (.mp ents')) := by
  have hm' := getOpd_rv hs htr h1
  rw [hm] at hm'
  have hkv := lits_rv (getOpd_rv hs htr h2) hk
  have hx := getOpd_rv hs htr h3
  obtain ⟨b, hv, _, hb⟩ := hm'.mp_inv
  obtain ⟨es, clk, g1, hE⟩ := entsR_of hs hob hb
  have hck' := run_of_pureRun (w := c.w) hck
  have hset : ∀ ob, (setObj b ob).run P c.w = .ok () { c.w with heap := c.w.heap.setIfInBounds b ob } := by
    intro ob; simp [setObj, Sem.run, g1]
  have hrun : ∃ es' clk', EntsR (ftOf T) c ents' es' ∧ (Instr.mapUpdate t (a.eval m') kv (a.eval x')).run P c.w = .ok () { c.w with heap := c.w.heap.setIfInBounds b (.map es' clk') } := by
    rcases hr with ⟨i0, en, hf, hen, hsb, rfl⟩ | ⟨hf, rfl⟩
    · obtain ⟨e', k1, k2⟩ := findA_some hE hf c.w
      obtain ⟨k0, x0⟩ := en
      obtain ⟨e'', k3, k4, _⟩ := hE.2 i0 k0 x0 hen
      rw [k1] at k3
      cases k3
      refine ⟨es.modify i0 fun e => { e with key := kv, val := a.eval x' }, clk, entsR_set hE k1 hx, ?_⟩
      have hks : (Instr.keyThatStays e'.key kv).run P c.w = .ok kv c.w := by
        simp only at hsb
        simp [Instr.keyThatStays, k4, hsb]
      simp [Instr.mapUpdate, run_underlying hu, hv, run_getObj_map g1, hck', k2, k1, hks, hset]
    · have k2 := findA_none hE hf c.w
      refine ⟨es.push { key := kv, val := a.eval x', born := clk }, clk + 1, entsR_push hE hx, ?_⟩
      simp [Instr.mapUpdate, run_underlying hu, hv, run_getObj_map g1, hck', k2, hset]
  obtain ⟨es', clk', hE', hrun⟩ := hrun
  refine ok_skip (β' := c.β) (w' := { c.w with heap := c.w.heap.setIfInBounds b (.map es' clk') }) ?_ (step_setMap (ob := .map es' clk') hs hfl hob hb rfl rfl rfl rfl) (sim_setMap hs hob hb rfl rfl rfl rfl hE'.1 hE'.2)
  rcases ho with ho | ho <;> simp [execOp, ho, hkv, hrun]

theorem op_delete [GlobT] (hs : Sim (ftOf T) c) (htr : TR (ftOf T) c tm a.tmps) {kt e t : TypeId} {m k : AOpd} {m' k' : Operand} {ts : Array TypeId} {ents ents' : List (Value × AV)} {kv : Value} {id : Nat}
    (ho : o.op = .call ⟨.builtin .delete, #[m', k'], ts⟩) (ht : ts[0]? = some t) (h1 : chkOpd T m m' = true) (h2 : chkOpd T k k' = true) (hu : P.underlying t = some (.map kt e))
    (hk : lits (getOpd tm k) = some kv) (hck : pureRun P (Instr.checkKey ents.isEmpty 10000 kt kv) = some ()) (hfl : fl ≤ id)
    (hm : getOpd tm m = .mp id) (hob : c.H[id]? = some (.mp ents))
    (hr : (∃ i, findA P kt kv ents = some (some i) ∧ ents' = ents.eraseIdx i) ∨ (findA P kt kv ents = some none ∧ ents' = ents)) :
    OpOK P (ftOf T) c fl o a (.lit undefV) (c.H.set id (.mp ents')) := by
  have hm' := getOpd_rv hs htr h1
  rw [hm] at hm'
  have hkv := lits_rv (getOpd_rv hs htr h2) hk
  obtain ⟨b, hv, _, hb⟩ := hm'.mp_inv
  obtain ⟨es, clk, g1, hE⟩ := entsR_of hs hob hb
  have hck' : (Instr.checkKey es.isEmpty 10000 kt kv).run P c.w = .ok () c.w := by rw [isEmpty_eq hE]; exact run_of_pureRun hck
  have hset : ∀ ob, (setObj b ob).run P c.w = .ok () { c.w with heap := c.w.heap.setIfInBounds b ob } := by
    intro ob; simp [setObj, Sem.run, g1]
  have hrun : ∃ es' clk', EntsR (ftOf T) c ents' es' ∧ (Builtin.delete_ ts o.type #[a.eval m', kv]).run P c.w = .ok (.tuple #[]) { c.w with heap := c.w.heap.setIfInBounds b (.map es' clk') } := by
    rcases hr with ⟨i0, hf, rfl⟩ | ⟨hf, rfl⟩
    · obtain ⟨e', k1, k2⟩ := findA_some hE hf c.w
      have hlt : i0 < es.size := (Array.getElem?_eq_some_iff.1 k1).1
      refine ⟨es.eraseIdxIfInBounds i0, clk, ⟨?_, ?_⟩, ?_⟩
      · simp only [Array.eraseIdxIfInBounds, hlt, dif_pos]
        rw [Array.size_eraseIdx, List.length_eraseIdx, hE.1]
        rw [if_pos (by rw [← hE.1]; exact hlt)]
      · intro j k0 x0 hx
        simp only [Array.eraseIdxIfInBounds, hlt, dif_pos]
        rw [List.getElem?_eraseIdx] at hx
        rw [Array.getElem?_eraseIdx]
        split at hx
        · rename_i hj
          rw [if_pos hj]; exact hE.2 j k0 x0 hx
        · rename_i hj
          rw [if_neg hj]; exact hE.2 _ k0 x0 hx
      · simp [Builtin.delete_, ht, run_underlying hu, hv, run_getObj_map g1, hck', k2, hset]
    · have k2 := findA_none hE hf c.w
      refine ⟨es, clk, hE, ?_⟩
      simp [Builtin.delete_, ht, run_underlying hu, hv, run_getObj_map g1, hck', k2, hset]
  obtain ⟨es', clk', hE', hrun⟩ := hrun
  refine ok_value (cv := .tuple #[]) (β' := c.β) (w' := { c.w with heap := c.w.heap.setIfInBounds b (.map es' clk') }) ?_ (step_setMap (ob := .map es' clk') hs hfl hob hb rfl rfl rfl rfl) (sim_setMap hs hob hb rfl rfl rfl rfl hE'.1 hE'.2) (RV.lit _)
  simp [execOp, ho, resolve, invoke, builtin, hkv, hrun]

end
end Go.Proofs.YtanonfpdkoijnaaGreatDoor.Av
