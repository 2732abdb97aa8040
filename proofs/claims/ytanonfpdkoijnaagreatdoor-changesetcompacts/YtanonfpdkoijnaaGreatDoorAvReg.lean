/- A part of the proof of ChangesetCompactsCardSaid: an evaluator of the program, proved sound, and what it says. -/
import Derived.Test.YtanonfpdkoijnaaGreatDoorAvEv
namespace Go.Proofs.YtanonfpdkoijnaaGreatDoor.Av
open Go

section
variable {P : Program} {T : List AFun} {cf : Nat → Nat → List AV → Heap → Option (AV × Heap)} {fl : Nat}

theorem TR.put {FT : Nat → Option Nat} {c : Ctx} {tm : List AV} {a : Act} {d : Option Nat} {x : AV} {v : Value} (h : TR FT c tm a.tmps) (hr : RV FT c x v) : TR FT c (putA tm d x) (a.put d v).tmps := by
  cases d with
  | none => exact h
  | some d =>
    simp only [putA, Act.put]
    refine ⟨by simpa using h.1, fun t y hy => ?_⟩
    rw [List.getElem?_set] at hy
    split at hy
    · rename_i hdt
      subst hdt
      split at hy
      · rename_i hlt
        cases hy
        exact ⟨v, by simp [← h.1, hlt], hr⟩
      · cases hy
    · rename_i hdt
      obtain ⟨u, g1, g2⟩ := h.2 t y hy
      exact ⟨u, by rw [Array.getElem?_setIfInBounds_ne hdt]; exact g1, g2⟩

theorem put_defers (a : Act) (d : Option Nat) (v : Value) : (a.put d v).defers = a.defers := by cases d <;> rfl

theorem wantA_spec [GlobT] {c : Ctx} {tm : List AV} {a : Act} {ops : Array Oper} {g : Option (Nat × Bool)} {o : Oper} {b : Bool} (htr : TR (ftOf T) c tm a.tmps) (hg : chkGuard ops g o.guard = true) (hw : wantA tm g = some b) :
    Region.wanted o (yielded ops a.tmps) = b := by
  unfold Region.wanted
  cases g with
  | none =>
    cases ho : o.guard with
    | none =>
      simp only [wantA, Option.some.injEq] at hw
      exact hw
    | some q => rw [ho] at hg; simp [chkGuard] at hg
  | some q =>
    obtain ⟨t, b0⟩ := q
    cases ho : o.guard with
    | none => rw [ho] at hg; simp [chkGuard] at hg
    | some q =>
      obtain ⟨j, b1⟩ := q
      rw [ho] at hg
      simp only [chkGuard, Bool.and_eq_true, beq_iff_eq] at hg
      obtain ⟨rfl, hg⟩ := hg
      split at hg
      · rename_i p hp
        have hd : p.dst = some t := by simpa using hg
        simp only [wantA] at hw
        have hy : yielded ops a.tmps j = match a.tmps[t]? with | some (.bool b) => some b | _ => none := by
          unfold yielded
          simp only [hp, Option.bind_some, hd]
          cases a.tmps[t]? with
          | none => rfl
          | some v => cases v <;> rfl
        simp only [hy]
        simp only [getOpd] at hw
        cases ht : tm[t]? with
        | none =>
          rw [ht] at hw
          simp only [undefV] at hw
          have hn : a.tmps[t]? = none := by
            rw [Array.getElem?_eq_none_iff, ← htr.1]
            simpa using ht
          rw [hn]
          cases hw
          rfl
        | some x =>
          rw [ht] at hw
          obtain ⟨v, g1, g2⟩ := htr.2 t x ht
          rw [g1]
          simp only at hw
          split at hw
          · rename_i bb
            rw [g2.lit_inv]
            cases hw
            cases bb <;> cases b0 <;> rfl
          · rename_i u hnb
            rw [g2.lit_inv]
            cases hw
            split
            · rename_i bb hbb
              cases hbb
              exact (hnb bb rfl).elim
            · rfl
          · cases hw
      · cases hg

/-- One operation of a region. -/
theorem oper_sound [GlobT] (hcf : CfOK P T cf) (hfn : FnsOK P T) {c : Ctx} {a : Act} {tm : List AV} {ops : Array Oper} {i : Nat} {ao : AOper} {o : Oper} {st' : St} {K : Act → World → Prop} {Q : Exit → Act → World → Prop}
    (hs : Sim (ftOf T) c) (htr : TR (ftOf T) c tm a.tmps) (hfl : fl ≤ c.H.length) (hi : ops[i]? = some o) (hchk : chkOper P T ops ao o = true) (hev : evOper P cf fl ao ⟨tm, c.H⟩ = some st')
    (hK : ∀ a' c', c'.H = st'.heap → Step fl c c' → Sim (ftOf T) c' → TR (ftOf T) c' st'.tmps a'.tmps → a'.defers = a.defers → (∃ x v, st'.tmps = putA tm o.dst x ∧ a' = a.put o.dst v ∧ RV (ftOf T) c' x v) → K a' c'.w) :
    wpOp P ops Q i K a c.w := by
  simp only [chkOper, Bool.and_eq_true, beq_iff_eq] at hchk
  obtain ⟨⟨hd, hg⟩, hop⟩ := hchk
  unfold wpOp
  rw [hi]
  simp only
  unfold evOper at hev
  rw [hd] at hev
  split at hev
  · rename_i hw
    rw [wantA_spec htr hg hw]
    simp only [if_true]
    split at hev
    · rename_i v H he
      cases hev
      left
      refine evOp_sound hcf hfn hs htr hfl hop he K Q ?_
      intro cv c' h1 h2 h3 h4
      exact hK _ c' h1 h2 h3 ((htr.step h2).put h4) (put_defers _ _ _) ⟨v, cv, rfl, rfl, h4⟩
    · cases hev
  · rename_i hw
    rw [wantA_spec htr hg hw]
    simp only [Bool.false_eq_true, if_false]
    cases hev
    exact hK _ c rfl (Step.refl _ _) hs (htr.put (RV.lit _)) (put_defers _ _ _) ⟨_, _, rfl, rfl, RV.lit _⟩
  · cases hev

/-- The operations in the order of the text. -/
theorem ops_seq [GlobT] (hcf : CfOK P T cf) (hfn : FnsOK P T) {ops : Array Oper} {Q : Exit → Act → World → Prop} : ∀ (aops : List AOper) (os : List Oper) (k : Nat) (c : Ctx) (a : Act) (tm : List AV) (st' : St),
    chkOpers P T ops aops os = true → (∀ j o, os[j]? = some o → ops[k + j]? = some o) → Sim (ftOf T) c → TR (ftOf T) c tm a.tmps → fl ≤ c.H.length → evOps P cf fl aops ⟨tm, c.H⟩ = some st' →
    (∀ a' c', c'.H = st'.heap → Step fl c c' → Sim (ftOf T) c' → TR (ftOf T) c' st'.tmps a'.tmps → a'.defers = a.defers → Q .normal a' c'.w) → wpOps P ops Q (List.range' k aops.length) a c.w
  | [], [], k, c, a, tm, st', _, _, hs, htr, _, hev, hQ => by
    simp only [evOps, Option.some.injEq] at hev
    subst hev
    exact hQ a c rfl (Step.refl _ _) hs htr rfl
  | ao :: r, o :: os, k, c, a, tm, st', hchk, hops, hs, htr, hfl, hev, hQ => by
    simp only [chkOpers, Bool.and_eq_true] at hchk
    simp only [evOps] at hev
    split at hev
    · rename_i st1 h1
      simp only [List.length_cons, List.range'_succ, wpOps_cons]
      refine oper_sound hcf hfn hs htr hfl (hops 0 o (by simp)) hchk.1 h1 ?_
      intro a' c' e1 e2 e3 e4 e5 _
      have : (⟨st1.tmps, c'.H⟩ : St) = st1 := by rw [e1]
      refine ops_seq hcf hfn r os (k + 1) c' a' st1.tmps st' hchk.2 (fun j p hp => ?_) e3 e4 (Nat.le_trans hfl e2.len) (by rw [this]; exact hev) ?_
      · have := hops (j + 1) p (by simpa using hp)
        rwa [show k + (j + 1) = k + 1 + j by omega] at this
      · intro a'' c'' f1 f2 f3 f4 f5
        exact hQ a'' c'' f1 (e2.trans f2) f3 f4 (f5.trans e5)
    · cases hev
  | [], _ :: _, _, _, _, _, _, hchk, _, _, _, _, _, _ => by cases hchk
  | _ :: _, [], _, _, _, _, _, hchk, _, _, _, _, _, _ => by cases hchk

end
end Go.Proofs.YtanonfpdkoijnaaGreatDoor.Av
