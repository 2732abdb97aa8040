/- A part of the proof of ChangesetCompactsCardSaid: an evaluator of the program, proved sound, and what it says. -/
import Derived.Test.YtanonfpdkoijnaaGreatDoorAvFlo
namespace Go.Proofs.YtanonfpdkoijnaaGreatDoor.Av
open Go

section
variable {P : Program} {T : List AFun}

theorem retsA_run [GlobT] {c : Ctx} {tv : Array Value} {st : St} (hs : Sim (ftOf T) c) (hH : c.H = st.heap) (htr : TR (ftOf T) c st.tmps tv) : ∀ (rs : List ARes) (qs : List ResultVar) (vs : List AV), chkRes P rs qs = true → retsA st rs = some vs →
    ∃ us : List Value, us.length = vs.length ∧ (∀ (i : Nat) (x : AV), vs[i]? = some x → ∃ u, us[i]? = some u ∧ RV (ftOf T) c x u) ∧
      (qs.mapM (fun
        | .tmp t => pure (tv.getD t undef)
        | .cell a t => do loadVar t (← asAddr (tv.getD a undef)) : ResultVar → Sem Value)).run P c.w = .ok us c.w
  | [], [], vs, _, h => by
    simp only [retsA, Option.some.injEq] at h
    subst h
    exact ⟨[], rfl, fun i x hx => by simp at hx, by simp⟩
  | .tmp t :: r, q :: s, vs, hc, h => by
    cases q with
    | cell a ty => simp [chkRes] at hc
    | tmp u =>
      simp only [chkRes, Bool.and_eq_true, beq_iff_eq] at hc
      obtain ⟨rfl, hc⟩ := hc
      simp only [retsA, evRet] at h
      split at h
      · rename_i vs' hvs
        cases h
        obtain ⟨us, h1, h2, h3⟩ := retsA_run hs hH htr r s vs' hc hvs
        have hr := getOpd_rv (a := ⟨tv, []⟩) hs htr (x := .tmp t) (y := .tmp t) (by simp [chkOpd])
        refine ⟨tv.getD t undef :: us, by simp [h1], fun i x hx => ?_, ?_⟩
        · cases i with
          | zero =>
            simp only [List.getElem?_cons_zero, Option.some.injEq] at hx
            subst hx
            exact ⟨tv.getD t undef, by rw [List.getElem?_cons_zero], hr⟩
          | succ i =>
            simp only [List.getElem?_cons_succ] at hx ⊢
            exact h2 i x hx
        · rw [List.mapM_cons]
          simp only [Sem.run_bind, Sem.run_pure, Result.andThen_ok, h3]
      · cases h
  | .cell t n agg :: r, q :: s, vs, hc, h => by
    cases q with
    | tmp u => simp [chkRes] at hc
    | cell u ty =>
      simp only [chkRes, Bool.and_eq_true, beq_iff_eq] at hc
      obtain ⟨⟨⟨⟨rfl, c1⟩, c2⟩, c3⟩, hc⟩ := hc
      simp only [retsA] at h
      split at h
      · rename_i v hv
        split at h
        · rename_i vs' hvs
          cases h
          obtain ⟨us, h1, h2, h3⟩ := retsA_run hs hH htr r s vs' hc hvs
          have hr := getOpd_rv (a := ⟨tv, []⟩) hs htr (x := .tmp t) (y := .tmp t) (by simp [chkOpd])
          have hload : ∃ u, (do loadVar ty (← asAddr (tv.getD t undef)) : Sem Value).run P c.w = .ok u c.w ∧ RV (ftOf T) c v u := by
            simp only [evRet] at hv
            split at hv
            · rename_i cs hcs
              rw [← hH] at hcs
              obtain ⟨ad, ws, hp, hn, hca⟩ := ldCells_rv hs hr hcs
              have hp' : tv.getD t undef = .pointer (some ad) := hp
              cases agg with
              | true =>
                simp only [if_true, Option.some.injEq] at hv
                subst hv
                exact ⟨_, by simp only [hp', asAddr, Sem.run_bind, Sem.run_pure, Result.andThen_ok, run_loadVar_at hca hn c2 c1 rfl], rv_agg_cells hca⟩
              | false =>
                simp only [Bool.false_eq_true, if_false] at hv
                split at hv
                · cases hv
                  obtain ⟨u, g1, g2, g3⟩ := hca.2.2 0 v (by simp)
                  have hcell := hca.2.1 0 u g1
                  have e0 : ad.add 0 = ad := by simp [Addr.add]
                  rw [e0] at hcell
                  exact ⟨u, by simp only [hp', asAddr, Sem.run_bind, Sem.run_pure, Result.andThen_ok, run_loadVar_one hcell c2], g3⟩
                · cases hv
            · cases hv
          obtain ⟨u, k1, k2⟩ := hload
          refine ⟨u :: us, by simp [h1], fun i x hx => ?_, ?_⟩
          · cases i with
            | zero =>
              simp only [List.getElem?_cons_zero, Option.some.injEq] at hx
              subst hx
              exact ⟨u, by simp, k2⟩
            | succ i =>
              simp only [List.getElem?_cons_succ] at hx ⊢
              exact h2 i x hx
          · rw [List.mapM_cons]
            simp only [Sem.run_bind, Sem.run_pure, Result.andThen_ok, h3] at k1 ⊢
            rw [k1]
            simp only [Result.andThen_ok, h3]
        · cases h
      · cases h
  | [], _ :: _, _, hc, _ => by cases hc
  | .tmp _ :: _, [], _, hc, _ => by cases hc
  | .cell _ _ _ :: _, [], _, hc, _ => by cases hc

theorem results_run [GlobT] {c : Ctx} {tv : Array Value} {st : St} {fn : Func} {rs : List ARes} {vs : List AV} (hs : Sim (ftOf T) c) (hH : c.H = st.heap) (htr : TR (ftOf T) c st.tmps tv) (hc : chkRes P rs fn.results.toList = true) (h : retsA st rs = some vs) :
    ∃ v, (results fn tv).run P c.w = .ok v c.w ∧ RV (ftOf T) c (packA vs) v := by
  obtain ⟨us, h1, h2, h3⟩ := retsA_run hs hH htr rs fn.results.toList vs hc h
  refine ⟨if hh : us.toArray.size = 1 then us.toArray[0] else .tuple us.toArray, ?_, ?_⟩
  · unfold results
    rw [Array.mapM_eq_mapM_toList]
    simp only [Sem.run_bind, Sem.run_map, Sem.run_pure]
    refine Eq.trans (congrArg (fun r => (Result.andThen (Result.andThen r _) _)) (Eq.trans ?_ h3)) rfl
    congr 2
  · unfold packA
    split
    · rename_i v
      have hl : us.length = 1 := by simpa using h1
      obtain ⟨u, g1, g2⟩ := h2 0 v (by simp)
      have hsz : us.toArray.size = 1 := by simpa using hl
      rw [dif_pos hsz]
      have : us.toArray[0] = u := by
        have : us.toArray[0]? = some u := by simpa using g1
        rw [Array.getElem?_eq_getElem (by omega)] at this
        exact Option.some.inj this
      rw [this]; exact g2
    · rename_i hne
      have hsz : ¬ us.toArray.size = 1 := by
        intro e
        have hl : vs.length = 1 := by rw [← h1]; simpa using e
        match vs, hl with
        | [v], _ => exact hne v rfl
      rw [dif_neg hsz]
      refine .tup vs us.toArray (fun i => (us[i]?).getD undefV) (by simpa using h1) ?_ ?_
      · intro i x hx
        obtain ⟨u, g1, _⟩ := h2 i x hx
        simp [g1]
      · intro i x hx
        obtain ⟨u, g1, g2⟩ := h2 i x hx
        simpa [g1] using g2

theorem chkAll_get [GlobT] : ∀ {L : List AFun}, chkAll P T L = true → ∀ F ∈ L, chkFun P T F = true
  | [], _, F, h => by cases h
  | G :: r, hc, F, h => by
    simp only [chkAll, Bool.and_eq_true] at hc
    rcases List.mem_cons.1 h with rfl | h
    · exact hc.1
    · exact chkAll_get hc.2 F h

theorem chkFun_spec {F : AFun} (h : chkFun P T F = true) : ∃ fn code, P.funcs[F.fid]? = some fn ∧ fn.body = some code ∧ chkC P T F.body code = true ∧ fn.ntmps = F.nt ∧ chkRes P F.rets fn.results.toList = true ∧ (fn.name == "runtime.NumGoroutine") = false := by
  unfold chkFun at h
  split at h
  · rename_i fn hf
    split at h
    · rename_i code hb
      simp only [Bool.and_eq_true, beq_iff_eq, Bool.not_eq_true'] at h
      exact ⟨fn, code, hf, hb, h.1.1.1, h.1.1.2, h.1.2, h.2⟩
    · cases h
  · cases h

/-- Every function of the table is checked. -/
def Checked (P : Program) (T : List AFun) : Prop := ∀ F ∈ T, chkFun P T F = true

theorem fnsOK_of [GlobT] (h : Checked P T) : FnsOK P T := by
  intro vi f hf
  unfold ftOf at hf
  split at hf
  · rename_i F hF
    cases hf
    obtain ⟨fn, code, h1, h2, _, _, _, h6⟩ := chkFun_spec (h F (List.mem_of_getElem? hF))
    exact ⟨fn, h1, by simp [h2], h6⟩
  · cases hf

theorem evF_sound [GlobT] (hm : P.follows .mixedOrders = true) (hT : Checked P T) : ∀ n, CfOK P T (evF P T n)
  | 0 => by
    intro fl vi f args r H' c vs hev
    cases hev
  | n + 1 => by
    have ih := evF_sound hm hT n
    intro fl vi f args r H' c vs hev hf hs hfl hargs
    simp only [evF] at hev
    split at hev
    · cases hev
    · rename_i F hF
      have hff : f = F.fid := by
        unfold ftOf at hf
        rw [hF] at hf
        exact (Option.some.inj hf).symm
      subst hff
      obtain ⟨fn, code, h1, h2, h3, h4, h5, _⟩ := chkFun_spec (hT F (List.mem_of_getElem? hF))
      refine calls_of_wp h1 h2 ?_
      have htr : TR (ftOf T) c (args ++ List.replicate (F.nt - args.length) (.lit undefV)) (vs ++ Array.replicate (fn.ntmps - vs.size) undef) := by
        refine ⟨by simp [hargs.1, h4], fun t x hx => ?_⟩
        rw [List.getElem?_append] at hx
        rw [Array.getElem?_append, hargs.1]
        split at hx
        · rename_i ht
          rw [if_pos ht]
          exact hargs.2 t x hx
        · rename_i ht
          rw [if_neg ht]
          rw [List.getElem?_replicate] at hx
          split at hx
          · rename_i hlt
            cases hx
            refine ⟨undef, ?_, RV.lit _⟩
            rw [Array.getElem?_replicate, if_pos (by rw [h4]; exact hlt)]
          · cases hx
      have hbody := code_sound (fl := fl) (lf := n) hm (evF_fl P T n) ih (fnsOK_of hT) F.body code h3
      have fin : ∀ (x : AExit) (st : St), (x = .normal ∨ x = .ret) → evC P (evF P T n) n fl F.body ⟨args ++ List.replicate (F.nt - args.length) (.lit undefV), c.H⟩ = some (x, st) →
          (match retsA st F.rets with | some us => some (packA us, st.heap) | none => none) = some (r, H') →
          code.wp P (bodyPost P fn fun e w' => ∃ v c', e = .returned v ∧ c'.w = w' ∧ c'.H = H' ∧ c'.X = c.X ∧ Step fl c c' ∧ Sim (ftOf T) c' ∧ RV (ftOf T) c' r v)
            { tmps := vs ++ Array.replicate (fn.ntmps - vs.size) undef, defers := [] } c.w := by
        intro x st hx he hr
        split at hr
        · rename_i us hus
          simp only [Option.some.injEq, Prod.mk.injEq] at hr
          obtain ⟨rfl, rfl⟩ := hr
          refine hbody c _ _ x st _ hs htr hfl he ?_
          intro a' c' e1 e2 e3 e4 e5
          obtain ⟨v, k1, k2⟩ := results_run (fn := fn) e3 e1 e4 h5 hus
          rcases hx with rfl | rfl
          · exact ⟨e5, v, k1, v, c', rfl, rfl, e1, e2.X, e2, e3, k2⟩
          · exact ⟨e5, v, k1, v, c', rfl, rfl, e1, e2.X, e2, e3, k2⟩
        · cases hr
      split at hev
      · rename_i st he
        exact fin .normal st (.inl rfl) he hev
      · rename_i st he
        exact fin .ret st (.inr rfl) he hev
      · cases hev

end
end Go.Proofs.YtanonfpdkoijnaaGreatDoor.Av
