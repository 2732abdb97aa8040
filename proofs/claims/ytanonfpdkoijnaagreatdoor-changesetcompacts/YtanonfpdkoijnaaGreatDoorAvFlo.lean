/- A part of the proof of ChangesetCompactsCardSaid: an evaluator of the program, proved sound, and what it says. -/
import Derived.Test.YtanonfpdkoijnaaGreatDoorAvCode
namespace Go.Proofs.YtanonfpdkoijnaaGreatDoor.Av
open Go

section
variable {P : Program} {T : List AFun} {cf : Nat → Nat → List AV → Heap → Option (AV × Heap)} {fl lf : Nat}

theorem evOps_fr [GlobT] (hfo : FlOK cf) : ∀ (l : List AOper) (st st' : St), fl ≤ st.heap.length → evOps P cf fl l st = some st' → Fr fl st.heap st'.heap
  | [], st, st', h, hev => by simp only [evOps] at hev; cases hev; exact .refl h
  | o :: r, st, st', h, hev => by
    simp only [evOps] at hev
    split at hev
    · rename_i st1 h1
      have k := evOper_fr hfo h h1
      exact k.trans (evOps_fr hfo r st1 st' k.2 hev)
    · cases hev

theorem headSt_fr [GlobT] {live : Option (List Bool)} {tr : Bool} {n : Nat} {st : St} (h : fl ≤ st.heap.length) (hn : fl ≤ n) : Fr fl st.heap (headSt live tr fl n st).heap := by
  cases tr with
  | false => exact .refl h
  | true =>
    simp only [headSt, if_true]
    refine ⟨?_, by simp; omega⟩
    rw [List.take_append_of_le_length (by simp; omega), List.take_take, Nat.min_self]

theorem headV_fr [GlobT] {live : List Bool} {t n : Nat} {st : St} (h : fl ≤ st.heap.length) (hn : fl ≤ n) : Fr fl st.heap (headV live t fl n st).heap := by
  have hd := headSt_fr (live := some live) (tr := true) h hn
  unfold headV
  split
  · split
    · split
      · refine ⟨?_, by simp; omega⟩
        simp only
        rw [List.append_assoc, List.take_append_of_le_length (by simp; omega), List.take_take, Nat.min_self]
      · exact hd
    · exact hd
  · exact hd

theorem evLoop_fr [GlobT] {head : St → St} {step : St → Option (AExit × St)} (hh : ∀ st, fl ≤ st.heap.length → Fr fl st.heap (head st).heap) (hs : ∀ st x st', fl ≤ st.heap.length → step st = some (x, st') → Fr fl st.heap st'.heap) :
    ∀ (n : Nat) (st : St) (x : AExit) (st' : St), fl ≤ st.heap.length → evLoop head step n st = some (x, st') → Fr fl st.heap st'.heap
  | 0, _, _, _, _, h => by cases h
  | n + 1, st, x, st', h, hev => by
    simp only [evLoop] at hev
    have k1 := hh st h
    split at hev
    · rename_i st2 he
      have k2 := hs _ _ _ k1.2 he
      exact (k1.trans k2).trans (evLoop_fr hh hs n st2 x st' k2.2 hev)
    · exact k1.trans (hs _ _ _ k1.2 hev)

theorem evC_fr [GlobT] (hfo : FlOK cf) : ∀ (c : ACode) (st : St) (x : AExit) (st' : St), fl ≤ st.heap.length → evC P cf lf fl c st = some (x, st') → Fr fl st.heap st'.heap
  | .skip, st, x, st', h, hev => by simp only [evC] at hev; cases hev; exact .refl h
  | .exit _, st, x, st', h, hev => by simp only [evC] at hev; cases hev; exact .refl h
  | .ret, st, x, st', h, hev => by simp only [evC] at hev; cases hev; exact .refl h
  | .stop, st, x, st', h, hev => by simp only [evC] at hev; cases hev
  | .region _ ck ops, st, x, st', h, hev => by
    simp only [evC] at hev
    split at hev
    · rename_i st1 he
      cases hev
      exact evOps_fr hfo ops st _ h (evReg_ops he)
    · cases hev
  | .seq a b, st, x, st', h, hev => by
    simp only [evC] at hev
    split at hev
    · rename_i st1 he
      have k := evC_fr hfo a st _ st1 h he
      exact k.trans (evC_fr hfo b st1 x st' k.2 hev)
    · exact evC_fr hfo a st x st' h hev
  | .cond c a b, st, x, st', h, hev => by
    simp only [evC] at hev
    split at hev
    · exact evC_fr hfo a st x st' h hev
    · exact evC_fr hfo b st x st' h hev
    · cases hev
  | .block id c, st, x, st', h, hev => by
    simp only [evC] at hev
    split at hev
    · rename_i i st1 he
      have k := evC_fr hfo c st _ st1 h he
      split at hev <;> cases hev <;> exact k
    · exact evC_fr hfo c st x st' h hev
  | .loop live tr c, st, x, st', h, hev => by
    simp only [evC] at hev
    exact evLoop_fr (fun st k => headSt_fr k h) (fun st x st' k he => evC_fr hfo c st x st' k he) lf st x st' h hev
  | .frz t c, st, x, st', h, hev => by
    simp only [evC] at hev
    split at hev
    · rename_i v H he
      have k := evOp_fr hfo h he
      exact k.trans (evC_fr hfo c _ x st' k.2 hev)
    · cases hev
  | .mask lx lr tr c, st, x, st', h, hev => by
    simp only [evC, maskR] at hev
    split at hev
    · rename_i x1 st1 he
      have k := evC_fr hfo c st _ st1 h he
      split at hev
      · cases hev; exact k
      · cases hev; exact k.trans (headSt_fr k.2 h)
      · cases hev; exact k.trans (headSt_fr k.2 h)
    · cases hev
  | .scope c, st, x, st', h, hev => by
    simp only [evC] at hev
    exact evC_fr hfo c st x st' h hev
  | .nilIf t d0 d1 a b, st, x, st', h, hev => by
    simp only [evC] at hev
    split at hev
    · split at hev
      · unfold notNormal at hev
        split at hev
        · rename_i x1 s1 he
          split at hev
          · cases hev
          · cases hev
            exact evC_fr hfo a ⟨nilTm st.tmps t d0 d1 true, st.heap⟩ _ _ h he
        · cases hev
      · exact evC_fr hfo b ⟨nilTm st.tmps t d0 d1 false, st.heap⟩ _ _ h hev
      · split at hev
        · unfold joinR at hev
          split at hev
          · split at hev
            · cases hev; exact .refl h
            · cases hev
          · cases hev
        · cases hev
      · cases hev
    · cases hev
  | .loopV live lx lr t c, st, x, st', h, hev => by
    simp only [evC] at hev
    split at hev
    · rename_i st1 hown
      have k1 : Fr fl st.heap st1.heap := by
        unfold ownSt at hown
        split at hown
        · split at hown
          · rename_i hi
            split at hown
            · split at hown
              · cases hown
                exact (Fr.set h hi).trans (.app (Fr.set h hi).2)
              · cases hown
            · cases hown
          · cases hown
        · cases hown
      unfold maskV at hev
      split at hev
      · rename_i x1 st2 he
        have k2 := evLoop_fr (fun st k => headV_fr k h) (fun st x st' k he => evC_fr hfo c st x st' k he) lf st1 _ st2 k1.2 he
        have k := k1.trans k2
        split at hev
        · cases hev; exact k
        · cases hev; exact k.trans (headV_fr k.2 h)
        · cases hev; exact k.trans (headV_fr k.2 h)
      · cases hev
    · cases hev
end

theorem evF_fl [GlobT] (P : Program) (T : List AFun) : ∀ n, FlOK (evF P T n)
  | 0 => fun _ _ _ _ _ _ _ h => by cases h
  | n + 1 => fun fl vi args H r H' h hev => by
    simp only [evF] at hev
    split at hev
    · cases hev
    · split at hev
      · rename_i st he
        split at hev
        · cases hev; exact evC_fr (evF_fl P T n) _ _ _ _ h he
        · cases hev
      · rename_i st he
        split at hev
        · cases hev; exact evC_fr (evF_fl P T n) _ _ _ _ h he
        · cases hev
      · cases hev
end Go.Proofs.YtanonfpdkoijnaaGreatDoor.Av
