/- A part of the proof of ChangesetCompactsCardSaid: an evaluator of the program, proved sound, and what it says. -/
import Derived.Test.YtanonfpdkoijnaaGreatDoorAvDisp
namespace Go.Proofs.YtanonfpdkoijnaaGreatDoor.Av
open Go

section
variable {P : Program} {T : List AFun} {cf : Nat → Nat → List AV → Heap → Option (AV × Heap)} {c : Ctx} {fl : Nat} {o : Oper} {a : Act} {tm : List AV}

theorem two_list {α : Type} {as : Array α} {x y : α} (h : as.toList = [x, y]) : as = #[x, y] := by apply Array.ext'; simpa using h
theorem one_list {α : Type} {as : Array α} {x : α} (h : as.toList = [x]) : as = #[x] := by apply Array.ext'; simpa using h

set_option maxHeartbeats 1000000 in
theorem evOp_sound [GlobT] (hcf : CfOK P T cf) (hfn : FnsOK P T) (hs : Sim (ftOf T) c) (htr : TR (ftOf T) c tm a.tmps) (hfl : fl ≤ c.H.length) {ao : AOp} {v : AV} {H' : Heap}
    (hchk : chkOp P T ao o.op = true) (hev : evOp P cf fl ao tm c.H = some (v, H')) : OpOK P (ftOf T) c fl o a v H' := by
  generalize hop : o.op = op at hchk
  cases ao with
  | mov x =>
    simp only [evOp, Option.some.injEq, Prod.mk.injEq] at hev
    obtain ⟨rfl, rfl⟩ := hev
    simp only [chkOp] at hchk
    split at hchk
    · exact op_mov hs htr (.inl hop) hchk
    · exact op_mov hs htr (.inr hop) hchk
    · cases hchk
  | movN x =>
    simp only [evOp, Option.some.injEq, Prod.mk.injEq] at hev
    obtain ⟨rfl, rfl⟩ := hev
    simp only [chkOp] at hchk
    split at hchk
    · exact op_movN hs htr (.inl hop) hchk
    · exact op_movN hs htr (.inr hop) hchk
    · cases hchk
  | rangeStr x =>
    simp only [chkOp] at hchk
    split at hchk
    · rename_i t y
      simp only [Bool.and_eq_true] at hchk
      simp only [evOp] at hev
      split at hev
      · rename_i s hx
        cases hev
        exact op_rangeStr hs htr hfl hop hchk.1 (by
          have := hchk.2
          split at this
          · assumption
          · cases this) hx
      · cases hev
    · cases hchk
  | nextStr x =>
    simp only [chkOp] at hchk
    split at hchk
    · rename_i y b
      simp only [Bool.and_eq_true] at hchk
      obtain ⟨hy, rfl⟩ := hchk
      simp only [evOp] at hev
      split at hev
      · rename_i id hx
        split at hev
        · rename_i hle
          split at hev
          · rename_i s pos hob
            split at hev
            · rename_i hp
              cases hev
              exact op_nextStr hs htr hop hy hx hle hob hp
            · rename_i hp
              cases hev
              exact op_overStr hs htr hop hy hx hob hp
          · cases hev
        · cases hev
      · cases hev
    · cases hchk
  | freeze x =>
    simp only [chkOp] at hchk
    have hmv : ∃ y, (o.op = .move y ∨ o.op = .assign y) ∧ chkOpd T x y = true := by
      split at hchk
      · exact ⟨_, .inl hop, hchk⟩
      · exact ⟨_, .inr hop, hchk⟩
      · cases hchk
    obtain ⟨y, ho, hy⟩ := hmv
    simp only [evOp] at hev
    split at hev
    · rename_i id tot off len hx
      split at hev
      · rename_i hle
        split at hev
        · rename_i s es hob
          split at hev
          · rename_i htot
            cases hev
            exact op_freeze hs htr ho hy hx hle hob htot
          · cases hev
        · cases hev
      · cases hev
    · cases hev
      exact op_mov hs htr ho hy
  | pick x y z =>
    simp only [chkOp] at hchk
    split at hchk
    · simp only [Bool.and_eq_true] at hchk
      simp only [evOp] at hev
      split at hev
      · rename_i t ht
        simp only [Option.some.injEq, Prod.mk.injEq] at hev
        obtain ⟨rfl, rfl⟩ := hev
        exact op_pick hs htr hop hchk.1.1 hchk.1.2 hchk.2 ht
      · cases hev
    · cases hchk
  | alloc z =>
    simp only [evOp, Option.some.injEq, Prod.mk.injEq] at hev
    obtain ⟨rfl, rfl⟩ := hev
    simp only [chkOp] at hchk
    split at hchk
    · exact op_alloc hs hfl hop hchk
    · cases hchk
  | claim s =>
    simp only [evOp, Option.some.injEq, Prod.mk.injEq] at hev
    obtain ⟨rfl, rfl⟩ := hev
    simp only [chkOp] at hchk
    split at hchk
    · exact op_claim hs hfl (.inl hop)
    · exact op_claim hs hfl (.inr hop)
    · cases hchk
  | allocC z cl =>
    simp only [evOp, Option.some.injEq, Prod.mk.injEq] at hev
    obtain ⟨rfl, rfl⟩ := hev
    simp only [chkOp] at hchk
    split at hchk
    · simp only [Bool.and_eq_true] at hchk
      refine op_allocC hs hfl hop hchk.1 fun x hx => ?_
      have := List.all_eq_true.1 hchk.2 x hx
      split at this
      · rename_i h; exact h
      · cases this
    · cases hchk
  | box x =>
    simp only [chkOp] at hchk
    split at hchk
    · simp only [evOp] at hev
      split at hev
      · rename_i cs hcs
        simp only [Option.some.injEq, Prod.mk.injEq] at hev
        obtain ⟨rfl, rfl⟩ := hev
        exact op_box hs htr hfl hop hchk hcs
      · cases hev
    · cases hchk
  | build z ps =>
    have hchk0 := hchk
    simp only [chkOp] at hchk
    split at hchk
    · simp only [Bool.and_eq_true] at hchk
      simp only [evOp] at hev
      split at hev
      · rename_i cs hcs
        simp only [Option.some.injEq, Prod.mk.injEq] at hev
        obtain ⟨rfl, rfl⟩ := hev
        exact op_build hs htr hop hchk.1 hchk0 hcs
      · cases hev
    · cases hchk
  | buildSl pu s n z ps =>
    simp only [chkOp] at hchk
    split at hchk
    · rename_i t m qs
      simp only [Bool.and_eq_true, beq_iff_eq] at hchk
      obtain ⟨rfl, hchk⟩ := hchk
      split at hchk
      · rename_i e hu
        simp only [Bool.and_eq_true, beq_iff_eq, decide_eq_true_eq] at hchk
        obtain ⟨⟨⟨⟨⟨h1, h2⟩, h3⟩, h4⟩, h5⟩, h6⟩ := hchk
        simp only [evOp] at hev
        split at hev
        · rename_i es hes
          have key := op_buildSl (pu := pu) hs htr hfl hop hu h1 h2 h3 h4 h5 h6 hes
          cases pu with
          | true =>
            simp only [if_true, Option.some.injEq, Prod.mk.injEq] at hev
            obtain ⟨rfl, rfl⟩ := hev
            simpa using key
          | false =>
            simp only [Bool.false_eq_true, if_false, Option.some.injEq, Prod.mk.injEq] at hev
            obtain ⟨rfl, rfl⟩ := hev
            simpa using key
        · cases hev
      · cases hchk
    · cases hchk
  | load agg n x =>
    simp only [chkOp] at hchk
    split at hchk
    · simp only [Bool.and_eq_true] at hchk
      obtain ⟨⟨⟨h1, h2⟩, h3⟩, h4⟩ := hchk
      simp only [evOp] at hev
      split at hev
      · rename_i cs hcs
        cases agg with
        | true =>
          simp only [if_true, Option.some.injEq, Prod.mk.injEq] at hev
          obtain ⟨rfl, rfl⟩ := hev
          exact op_load hs htr hop h4 h1 h2 hcs (by simp)
        | false =>
          simp only [Bool.false_eq_true, if_false] at hev
          split at hev
          · simp only [Option.some.injEq, Prod.mk.injEq] at hev
            obtain ⟨rfl, rfl⟩ := hev
            exact op_load hs htr hop h4 h1 h2 hcs (by simp)
          · cases hev
      · cases hev
    · cases hchk
  | store n x u =>
    simp only [chkOp] at hchk
    split at hchk
    · simp only [Bool.and_eq_true] at hchk
      obtain ⟨⟨h1, h2⟩, h3⟩ := hchk
      simp only [evOp] at hev
      split at hev
      · rename_i cs hcs
        split at hev
        · rename_i hn
          split at hev
          · rename_i H1 hst
            simp only [Option.some.injEq, Prod.mk.injEq] at hev
            obtain ⟨rfl, rfl⟩ := hev
            exact op_store hs htr hop h2 h3 h1 hcs hn hst
          · cases hev
        · cases hev
      · cases hev
    · cases hchk
  | nilCheck x =>
    simp only [chkOp] at hchk
    split at hchk
    · simp only [evOp] at hev
      split at hev
      · rename_i id tot idx off hx
        simp only [Option.some.injEq, Prod.mk.injEq] at hev
        obtain ⟨rfl, rfl⟩ := hev
        exact op_nilCheck hs htr hop hchk (.inl ⟨_, _, _, _, hx⟩)
      · rename_i cs hx
        simp only [Option.some.injEq, Prod.mk.injEq] at hev
        obtain ⟨rfl, rfl⟩ := hev
        exact op_nilCheck hs htr hop hchk (.inr (.inl ⟨_, hx⟩))
      · rename_i vi caps hx
        simp only [Option.some.injEq, Prod.mk.injEq] at hev
        obtain ⟨rfl, rfl⟩ := hev
        exact op_nilCheck hs htr hop hchk (.inr (.inr ⟨_, _, hx⟩))
      · cases hev
    · cases hchk
  | ibin op x y =>
    simp only [chkOp] at hchk
    split at hchk
    · simp only [Bool.and_eq_true, decide_eq_true_eq] at hchk
      obtain ⟨⟨rfl, h1⟩, h2⟩ := hchk
      simp only [evOp] at hev
      split at hev
      · rename_i k n k' m e1 e2
        split at hev
        · rename_i hk
          subst hk
          split at hev
          · rename_i r hr
            simp only [Option.some.injEq, Prod.mk.injEq] at hev
            obtain ⟨rfl, rfl⟩ := hev
            exact op_ibin hs htr hop h1 h2 e1 e2 hr
          · cases hev
        · cases hev
      · cases hev
    · cases hchk
  | bin op t x y =>
    simp only [chkOp] at hchk
    split at hchk
    · simp only [Bool.and_eq_true, decide_eq_true_eq, beq_iff_eq] at hchk
      obtain ⟨⟨⟨rfl, rfl⟩, h1⟩, h2⟩ := hchk
      simp only [evOp] at hev
      split at hev
      · rename_i v1 v2 e1 e2
        split at hev
        · rename_i g hg
          split at hev
          · rename_i r hr
            simp only [Option.some.injEq, Prod.mk.injEq] at hev
            obtain ⟨rfl, rfl⟩ := hev
            split at hg
            · rename_i hn
              exact op_bin hs htr hop h1 h2 e1 e2 hn hg hr
            · cases hg
          · cases hev
        · cases hev
      · cases hev
    · cases hchk
  | un op x =>
    simp only [chkOp] at hchk
    split at hchk
    · simp only [Bool.and_eq_true, decide_eq_true_eq] at hchk
      obtain ⟨rfl, h1⟩ := hchk
      simp only [evOp] at hev
      split at hev
      · rename_i v1 e1
        split at hev
        · rename_i r hr
          simp only [Option.some.injEq, Prod.mk.injEq] at hev
          obtain ⟨rfl, rfl⟩ := hev
          exact op_un hs htr hop h1 e1 hr
        · cases hev
      · cases hev
    · cases hchk
  | conv s d x =>
    simp only [chkOp] at hchk
    split at hchk
    · simp only [Bool.and_eq_true, beq_iff_eq] at hchk
      obtain ⟨⟨rfl, rfl⟩, h1⟩ := hchk
      simp only [evOp] at hev
      split at hev
      · rename_i v1 e1
        split at hev
        · rename_i r hr
          simp only [Option.some.injEq, Prod.mk.injEq] at hev
          obtain ⟨rfl, rfl⟩ := hev
          exact op_conv hs htr hop h1 e1 hr
        · cases hev
      · cases hev
    · cases hchk
  | fieldAddr off x =>
    simp only [chkOp] at hchk
    split at hchk
    · simp only [Bool.and_eq_true] at hchk
      obtain ⟨h1, hchk⟩ := hchk
      split at hchk
      · rename_i fs hu
        split at hchk
        · rename_i fd hf
          simp only [Bool.and_eq_true, beq_iff_eq] at hchk
          obtain ⟨hof, hchk⟩ := hchk
          split at hchk
          · rename_i i hi
            have hsz : i.size ≠ 0 := by simpa using hchk
            simp only [evOp] at hev
            split at hev
            · rename_i id tot idx k hx
              simp only [Option.some.injEq, Prod.mk.injEq] at hev
              obtain ⟨rfl, rfl⟩ := hev
              exact op_fieldAddr hs htr hop h1 hu hf hof hi hsz (.inl ⟨_, _, _, _, hx, rfl⟩)
            · rename_i cs hx
              simp only [Option.some.injEq, Prod.mk.injEq] at hev
              obtain ⟨rfl, rfl⟩ := hev
              exact op_fieldAddr hs htr hop h1 hu hf hof hi hsz (.inr ⟨_, hx, rfl⟩)
            · cases hev
          · cases hchk
        · cases hchk
      · cases hchk
    · cases hchk
  | field agg n off x =>
    simp only [chkOp] at hchk
    split at hchk
    · simp only [Bool.and_eq_true] at hchk
      obtain ⟨h1, hchk⟩ := hchk
      split at hchk
      · rename_i fs hu
        split at hchk
        · rename_i fd hf
          simp only [Bool.and_eq_true, beq_iff_eq] at hchk
          obtain ⟨⟨⟨hof, h2⟩, h3⟩, h4⟩ := hchk
          have h4' : agg = true ∨ n = 1 := by simpa using h4
          simp only [evOp] at hev
          split at hev
          · rename_i cs hx
            split at hev
            · rename_i hle
              cases agg with
              | true =>
                simp only [if_true, Option.some.injEq, Prod.mk.injEq] at hev
                obtain ⟨rfl, rfl⟩ := hev
                exact op_field hs htr hop h1 hu hf hof h2 h3 h4' hx hle (by simp)
              | false =>
                simp only [Bool.false_eq_true, if_false] at hev
                split at hev
                · rename_i c0 hc0
                  simp only [Option.some.injEq, Prod.mk.injEq] at hev
                  obtain ⟨rfl, rfl⟩ := hev
                  exact op_field hs htr hop h1 hu hf hof h2 h3 h4' hx hle (by simpa using hc0)
                · cases hev
            · cases hev
          · cases hev
        · cases hchk
      · cases hchk
    · cases hchk
  | idxAddr s x i =>
    simp only [chkOp] at hchk
    split at hchk
    · simp only [Bool.and_eq_true] at hchk
      obtain ⟨⟨h1, h2⟩, hchk⟩ := hchk
      split at hchk
      · rename_i e hu
        simp only [evOp] at hev
        split at hev
        · rename_i n hn
          split at hev
          · rename_i f es hx
            split at hev
            · rename_i cs hcs
              split at hev
              · rename_i hl
                simp only [Option.some.injEq, Prod.mk.injEq] at hev
                obtain ⟨rfl, rfl⟩ := hev
                exact op_idxAddr hs htr hop h1 h2 hu hchk hn (.inl ⟨_, _, _, hx, hcs, hl, rfl⟩)
              · cases hev
            · cases hev
          · rename_i id tot off len hx
            split at hev
            · rename_i s' es hob
              split at hev
              · rename_i hc
                obtain ⟨rfl, hc1, hc2⟩ := hc
                simp only [Option.some.injEq, Prod.mk.injEq] at hev
                obtain ⟨rfl, rfl⟩ := hev
                exact op_idxAddr hs htr hop h1 h2 hu hchk hn (.inr ⟨_, _, _, _, _, hx, hob, hc1, hc2, rfl⟩)
              · cases hev
            · cases hev
          · cases hev
        · cases hev
      · cases hchk
    · cases hchk
  | idxArr s n x i =>
    simp only [chkOp] at hchk
    split at hchk
    · simp only [Bool.and_eq_true] at hchk
      obtain ⟨⟨h1, h2⟩, hchk⟩ := hchk
      split at hchk
      · rename_i m e hu
        simp only [Bool.and_eq_true, beq_iff_eq] at hchk
        obtain ⟨rfl, h3⟩ := hchk
        simp only [evOp] at hev
        split at hev
        · rename_i k hn
          split at hev
          · rename_i hlt
            split at hev
            · rename_i id tot idx off hx
              simp only [Option.some.injEq, Prod.mk.injEq] at hev
              obtain ⟨rfl, rfl⟩ := hev
              exact op_idxArr hs htr hop h1 h2 hu h3 hn hlt (.inl ⟨_, _, _, _, hx, rfl⟩)
            · rename_i cs hx
              simp only [Option.some.injEq, Prod.mk.injEq] at hev
              obtain ⟨rfl, rfl⟩ := hev
              exact op_idxArr hs htr hop h1 h2 hu h3 hn hlt (.inr ⟨_, hx, rfl⟩)
            · cases hev
          · cases hev
        · cases hev
      · cases hchk
    · cases hchk
  | index agg s n x i =>
    simp only [chkOp] at hchk
    split at hchk
    · simp only [Bool.and_eq_true] at hchk
      obtain ⟨⟨h1, h2⟩, hchk⟩ := hchk
      split at hchk
      · rename_i m e hu
        simp only [Bool.and_eq_true, beq_iff_eq] at hchk
        obtain ⟨⟨⟨rfl, h3⟩, h4⟩, h5⟩ := hchk
        have h5' : agg = true ∨ s = 1 := by simpa using h5
        simp only [evOp] at hev
        split at hev
        · rename_i k hn
          split at hev
          · rename_i hlt
            split at hev
            · rename_i cs hx
              split at hev
              · rename_i hle
                cases agg with
                | true =>
                  simp only [if_true, Option.some.injEq, Prod.mk.injEq] at hev
                  obtain ⟨rfl, rfl⟩ := hev
                  exact op_index hs htr hop h1 h2 hu h3 h4 h5' hn hlt hx hle (by simp)
                | false =>
                  simp only [Bool.false_eq_true, if_false] at hev
                  split at hev
                  · rename_i c0 hc0
                    simp only [Option.some.injEq, Prod.mk.injEq] at hev
                    obtain ⟨rfl, rfl⟩ := hev
                    exact op_index hs htr hop h1 h2 hu h3 h4 h5' hn hlt hx hle (by simpa using hc0)
                  · cases hev
              · cases hev
            · cases hev
          · cases hev
        · cases hev
      · cases hchk
    · cases hchk
  | strIdx t x i =>
    simp only [chkOp] at hchk
    split at hchk
    · simp only [Bool.and_eq_true, beq_iff_eq] at hchk
      obtain ⟨⟨rfl, h1⟩, h2⟩ := hchk
      simp only [evOp] at hev
      split at hev
      · rename_i v1 v2 e1 e2
        split at hev
        · rename_i r hr
          simp only [Option.some.injEq, Prod.mk.injEq] at hev
          obtain ⟨rfl, rfl⟩ := hev
          exact op_strIdx hs htr hop h1 h2 e1 e2 hr
        · cases hev
      · cases hev
    · cases hchk
  | slice s x lo hi mx =>
    simp only [chkOp] at hchk
    split at hchk
    · simp only [Bool.and_eq_true] at hchk
      obtain ⟨⟨⟨⟨h1, h2⟩, h3⟩, h4⟩, hchk⟩ := hchk
      split at hchk
      · rename_i e hu
        simp only [evOp] at hev
        split at hev
        · rename_i nlo nhi nmx n1 n2 n3
          split at hev
          · rename_i r hr
            simp only [Option.some.injEq, Prod.mk.injEq] at hev
            obtain ⟨rfl, rfl⟩ := hev
            exact op_slice hs htr hop h1 h2 h3 h4 hu hchk n1 n2 n3 hr
          · cases hev
        · cases hev
      · cases hchk
    · cases hchk
  | strSlice t x lo hi =>
    simp only [chkOp] at hchk
    split at hchk
    · simp only [Bool.and_eq_true, beq_iff_eq] at hchk
      obtain ⟨⟨⟨⟨rfl, h1⟩, h2⟩, h3⟩, hchk⟩ := hchk
      split at hchk
      · rename_i hu
        simp only [evOp] at hev
        split at hev
        · rename_i s nlo nhi e1 n1 n2
          split at hev
          · rename_i hc
            simp only [Option.some.injEq, Prod.mk.injEq] at hev
            obtain ⟨rfl, rfl⟩ := hev
            exact op_strSlice hs htr hop h1 h2 h3 hu n1 n2 e1 hc
          · cases hev
        · cases hev
      · cases hchk
    · cases hchk
  | mkSlice s z bytes l k =>
    simp only [chkOp] at hchk
    split at hchk
    · simp only [Bool.and_eq_true] at hchk
      obtain ⟨⟨h1, h2⟩, hchk⟩ := hchk
      split at hchk
      · rename_i e hu
        simp only [Bool.and_eq_true, decide_eq_true_eq] at hchk
        obtain ⟨⟨⟨h3, h4⟩, h5⟩, h6⟩ := hchk
        simp only [evOp] at hev
        split at hev
        · rename_i nl nk e1 e2
          split at hev
          · rename_i hc
            simp only [Option.some.injEq, Prod.mk.injEq] at hev
            obtain ⟨rfl, rfl⟩ := hev
            exact op_mkSlice hs htr hfl hop h1 h2 hu h3 h4 h5 h6 e1 e2 hc.1 hc.2.1 hc.2.2.1 hc.2.2.2
          · cases hev
        · cases hev
      · cases hchk
    · cases hchk
  | mkMap =>
    simp only [evOp, Option.some.injEq, Prod.mk.injEq] at hev
    obtain ⟨rfl, rfl⟩ := hev
    simp only [chkOp] at hchk
    split at hchk
    · exact op_mkMap hs hfl hop
    · cases hchk
  | lookup kt z m k ok =>
    simp only [chkOp] at hchk
    split at hchk
    · simp only [Bool.and_eq_true, beq_iff_eq] at hchk
      obtain ⟨⟨⟨rfl, h1⟩, h2⟩, hchk⟩ := hchk
      split at hchk
      · rename_i kt' e hu
        simp only [Bool.and_eq_true, beq_iff_eq] at hchk
        obtain ⟨rfl, hchk⟩ := hchk
        split at hchk
        · rename_i i hi
          have hz : ∃ zv, i.zero = some zv ∧ RV (ftOf T) c (getOpd tm z) zv := by
            split at hchk
            · rename_i u v hz
              exact ⟨u, hz, by rw [← veq_eq hchk]; exact RV.lit _⟩
            · rename_i us vs hz
              refine ⟨.agg us, hz, ?_⟩
              have : us = vs.toArray := by rw [veqL_eq hchk]
              rw [this]
              exact rv_agg_lits vs (veqL_scalar hchk)
            · cases hchk
          obtain ⟨zv, hz1, hz2⟩ := hz
          simp only [evOp] at hev
          split at hev
          · rename_i kv hk
            have fin : ∀ ents : List (Value × AV), ((getOpd tm m = .lit (.map none) ∧ ents = []) ∨ ∃ id, getOpd tm m = .mp id ∧ c.H[id]? = some (.mp ents)) →
                (match pureRun P (Instr.checkKey ents.isEmpty 10000 kt kv), findA P kt kv ents with
                  | some _, some (some i) => match ents[i]? with
                    | some e => some (if ok then AV.tup [e.2, .lit (.bool true)] else e.2, c.H)
                    | none => none
                  | some _, some none => some (if ok then AV.tup [getOpd tm z, .lit (.bool false)] else getOpd tm z, c.H)
                  | _, _ => none) = some (v, H') → OpOK P (ftOf T) c fl o a v H' := by
              intro ents hm hr
              split at hr
              · rename_i u i0 hck hf
                split at hr
                · rename_i en hen
                  simp only [Option.some.injEq, Prod.mk.injEq] at hr
                  obtain ⟨rfl, rfl⟩ := hr
                  exact op_lookup hs htr hop h1 h2 hu hi hz1 hz2 hk hck hm (.inl ⟨_, _, hf, hen, rfl, rfl⟩)
                · cases hr
              · rename_i u hck hf
                simp only [Option.some.injEq, Prod.mk.injEq] at hr
                obtain ⟨rfl, rfl⟩ := hr
                exact op_lookup hs htr hop h1 h2 hu hi hz1 hz2 hk hck hm (.inr ⟨hf, rfl, rfl⟩)
              · cases hr
            split at hev
            · rename_i hm
              exact fin [] (.inl ⟨hm, rfl⟩) hev
            · rename_i id hm
              split at hev
              · rename_i ents hob
                exact fin ents (.inr ⟨id, hm, hob⟩) hev
              · cases hev
            · cases hev
          · cases hev
        · cases hchk
      · cases hchk
    · cases hchk
  | mapUpd kt m k x =>
    have fin : ∀ (t : TypeId) (m' k' x' : Operand) (e : TypeId), (o.op = .mapUpdate t m' k' x' ∨ o.op = .insert t m' k' x') → chkOpd T m m' = true → chkOpd T k k' = true → chkOpd T x x' = true →
        P.underlying t = some (.map kt e) → OpOK P (ftOf T) c fl o a v H' := by
      intro t m' k' x' e ho h1 h2 h3 hu
      simp only [evOp] at hev
      split at hev
      · rename_i kv id hk hm
        split at hev
        · rename_i hflid
          split at hev
          · rename_i ents hob
            split at hev
            · rename_i u i0 hck hf
              split at hev
              · rename_i en hen
                split at hev
                · rename_i hsb
                  simp only [Option.some.injEq, Prod.mk.injEq] at hev
                  obtain ⟨rfl, rfl⟩ := hev
                  exact op_mapUpd hs htr ho h1 h2 h3 hu hk hck hflid hm hob (.inl ⟨_, _, hf, hen, hsb, rfl⟩)
                · cases hev
              · cases hev
            · rename_i u hck hf
              simp only [Option.some.injEq, Prod.mk.injEq] at hev
              obtain ⟨rfl, rfl⟩ := hev
              exact op_mapUpd hs htr ho h1 h2 h3 hu hk hck hflid hm hob (.inr ⟨hf, rfl⟩)
            · cases hev
          · cases hev
        · cases hev
      · cases hev
    simp only [chkOp] at hchk
    split at hchk
    · simp only [Bool.and_eq_true] at hchk
      obtain ⟨⟨⟨h1, h2⟩, h3⟩, hchk⟩ := hchk
      split at hchk
      · rename_i kt' e hu
        have : kt = kt' := by simpa using hchk
        subst this
        exact fin _ _ _ _ e (.inl hop) h1 h2 h3 hu
      · cases hchk
    · simp only [Bool.and_eq_true] at hchk
      obtain ⟨⟨⟨h1, h2⟩, h3⟩, hchk⟩ := hchk
      split at hchk
      · rename_i kt' e hu
        have : kt = kt' := by simpa using hchk
        subst this
        exact fin _ _ _ _ e (.inr hop) h1 h2 h3 hu
      · cases hchk
    · cases hchk
  | lenS x =>
    simp only [chkOp] at hchk
    split at hchk
    · rename_i as ts
      split at hchk
      · rename_i y t ha ht
        simp only [Bool.and_eq_true] at hchk
        obtain ⟨h1, hchk⟩ := hchk
        split at hchk
        · rename_i e hu
          rw [one_list ha, one_list ht] at hop
          simp only [evOp] at hev
          split at hev
          · rename_i hx
            simp only [Option.some.injEq, Prod.mk.injEq] at hev
            obtain ⟨rfl, rfl⟩ := hev
            exact op_lenS (n := 0) hs htr hop h1 hu (.inl ⟨hx, rfl⟩)
          · rename_i f es hx
            simp only [Option.some.injEq, Prod.mk.injEq] at hev
            obtain ⟨rfl, rfl⟩ := hev
            exact op_lenS hs htr hop h1 hu (.inr (.inl ⟨_, _, hx, rfl⟩))
          · rename_i id tot off len hx
            simp only [Option.some.injEq, Prod.mk.injEq] at hev
            obtain ⟨rfl, rfl⟩ := hev
            exact op_lenS hs htr hop h1 hu (.inr (.inr ⟨_, _, _, hx⟩))
          · cases hev
        · cases hchk
      · cases hchk
    · cases hchk
  | lenM x =>
    simp only [chkOp] at hchk
    split at hchk
    · rename_i as ts
      split at hchk
      · rename_i y t ha ht
        simp only [Bool.and_eq_true] at hchk
        obtain ⟨h1, hchk⟩ := hchk
        split at hchk
        · rename_i k e hu
          rw [one_list ha, one_list ht] at hop
          simp only [evOp] at hev
          split at hev
          · rename_i hx
            simp only [Option.some.injEq, Prod.mk.injEq] at hev
            obtain ⟨rfl, rfl⟩ := hev
            exact op_lenM (n := 0) hs htr hop h1 hu (.inl ⟨hx, rfl⟩)
          · rename_i id hx
            split at hev
            · rename_i ents hob
              simp only [Option.some.injEq, Prod.mk.injEq] at hev
              obtain ⟨rfl, rfl⟩ := hev
              exact op_lenM hs htr hop h1 hu (.inr ⟨_, _, hx, hob, rfl⟩)
            · cases hev
          · cases hev
        · cases hchk
      · cases hchk
    · cases hchk
  | lenStr t x =>
    simp only [chkOp] at hchk
    split at hchk
    · rename_i as ts
      split at hchk
      · rename_i y t' ha ht
        simp only [Bool.and_eq_true, beq_iff_eq] at hchk
        obtain ⟨rfl, h1⟩ := hchk
        rw [one_list ha, one_list ht] at hop
        simp only [evOp] at hev
        split at hev
        · rename_i v1 hx
          split at hev
          · rename_i r hr
            simp only [Option.some.injEq, Prod.mk.injEq] at hev
            obtain ⟨rfl, rfl⟩ := hev
            exact op_lenStr hs htr hop h1 hx hr
          · cases hev
        · cases hev
      · cases hchk
    · cases hchk
  | lenC n =>
    simp only [evOp, Option.some.injEq, Prod.mk.injEq] at hev
    obtain ⟨rfl, rfl⟩ := hev
    simp only [chkOp] at hchk
    split at hchk
    · rename_i as ts
      split at hchk
      · rename_i y t ha ht
        split at hchk
        · rename_i m e hu
          have : m = n := by simpa using hchk
          subst this
          rw [one_list ha, one_list ht] at hop
          exact op_lenC hs hop hu
        · cases hchk
      · cases hchk
    · cases hchk
  | append s bytes x y =>
    simp only [chkOp] at hchk
    split at hchk
    · rename_i as ts
      split at hchk
      · rename_i x' y' t t' ha ht
        simp only [Bool.and_eq_true] at hchk
        obtain ⟨⟨⟨h1, h2⟩, h3⟩, hchk⟩ := hchk
        split at h3
        · rename_i e' hu'
          split at hchk
          · rename_i e hu
            simp only [Bool.and_eq_true] at hchk
            obtain ⟨⟨h4, h5⟩, hchk⟩ := hchk
            split at hchk
            · rename_i i hi
              split at hchk
              · rename_i z hz
                have hzs : z.cells.size = s := by simpa using hchk
                have hsz : i.size = s := by simpa [sizeIs, hi] using h4
                have hby : i.bytes = bytes := by simpa [bytesIs, hi] using h5
                rw [two_list ha, two_list ht] at hop
                simp only [evOp] at hev
                split at hev
                · rename_i ys hys
                  exact op_append hs htr hfl hop h1 h2 hu hu' hi hsz hby hz hzs hys hev
                · cases hev
              · cases hchk
            · cases hchk
          · cases hchk
        · cases h3
      · cases hchk
    · cases hchk
  | appendZ s bytes z x y =>
    simp only [chkOp] at hchk
    split at hchk
    · rename_i as ts
      split at hchk
      · rename_i x' y' t t' ha ht
        simp only [Bool.and_eq_true] at hchk
        obtain ⟨⟨⟨h1, h2⟩, h3⟩, hchk⟩ := hchk
        split at h3
        · rename_i k hu'
          split at hchk
          · rename_i e hu
            simp only [Bool.and_eq_true] at hchk
            obtain ⟨⟨h4, h5⟩, h6⟩ := hchk
            rw [two_list ha, two_list ht] at hop
            simp only [evOp] at hev
            split at hev
            · rename_i n hn
              split at hev
              · rename_i hc
                exact op_appendZ hs htr hfl hop h1 h2 hu hu' h4 h5 h6 hc.1 hn hc.2.1 hc.2.2 hev
              · cases hev
            · cases hev
          · cases hchk
        · cases h3
      · cases hchk
    · cases hchk
  | copy s x y =>
    simp only [chkOp] at hchk
    split at hchk
    · rename_i as ts
      split at hchk
      · rename_i x' y' t t' ha ht
        simp only [Bool.and_eq_true] at hchk
        obtain ⟨⟨h1, h2⟩, hchk⟩ := hchk
        split at hchk
        · rename_i e hu
          obtain ⟨i, hi, hsz⟩ := sizeIs_spec hchk
          rw [two_list ha, two_list ht] at hop
          simp only [evOp] at hev
          split at hev
          · rename_i ys hrd
            split at hev
            · rename_i hal
              split at hev
              · rename_i id tot off len hx
                split at hev
                · rename_i s' es hob
                  split at hev
                  · rename_i hc
                    obtain ⟨rfl, c2, c3, c4⟩ := hc
                    exact op_copy hs htr hop h1 h2 hu hi hsz hrd hal.1 hal.2 hx hob c2 c3 c4 hev
                  · cases hev
                · cases hev
              · cases hev
            · cases hev
          · cases hev
        · cases hchk
      · cases hchk
    · cases hchk
  | delete kt m k =>
    simp only [chkOp] at hchk
    split at hchk
    · rename_i as ts
      split at hchk
      · rename_i m' k' t ts' ha ht
        simp only [Bool.and_eq_true] at hchk
        obtain ⟨⟨h1, h2⟩, hchk⟩ := hchk
        split at hchk
        · rename_i kt' e hu
          have : kt = kt' := by simpa using hchk
          subst this
          have ht0 : ts[0]? = some t := by rw [← Array.getElem?_toList, ht]; rfl
          rw [two_list ha] at hop
          simp only [evOp] at hev
          split at hev
          · rename_i kv id hk hm
            split at hev
            · rename_i hflid
              split at hev
              · rename_i ents hob
                split at hev
                · rename_i u i0 hck hf
                  simp only [Option.some.injEq, Prod.mk.injEq] at hev
                  obtain ⟨rfl, rfl⟩ := hev
                  exact op_delete hs htr hop ht0 h1 h2 hu hk hck hflid hm hob (.inl ⟨_, hf, rfl⟩)
                · rename_i u hck hf
                  simp only [Option.some.injEq, Prod.mk.injEq] at hev
                  obtain ⟨rfl, rfl⟩ := hev
                  have key := op_delete hs htr hop ht0 h1 h2 hu hk hck hflid hm hob (.inr ⟨hf, rfl⟩)
                  have e0 : c.H.set id (.mp ents) = c.H := by
                    apply List.ext_getElem?
                    intro j
                    by_cases hj : j = id
                    · subst hj; rw [getElem?_set_eq' hob, hob]
                    · rw [getElem?_set_ne' hj]
                  rw [e0] at key
                  exact key
                · cases hev
              · cases hev
            · cases hev
          · cases hev
        · cases hchk
      · cases hchk
    · cases hchk
  | minmax mx xs =>
    simp only [evOp] at hev
    split at hev
    · rename_i vs hvs
      split at hev
      · rename_i r hr
        simp only [Option.some.injEq, Prod.mk.injEq] at hev
        obtain ⟨rfl, rfl⟩ := hev
        simp only [chkOp] at hchk
        split at hchk
        · simp only [Bool.and_eq_true] at hchk
          obtain ⟨rfl, h1⟩ := hchk
          exact op_minmax hs htr hop (.inl rfl) h1 hvs (by simpa using hr)
        · simp only [Bool.and_eq_true, Bool.not_eq_true'] at hchk
          obtain ⟨rfl, h1⟩ := hchk
          exact op_minmax hs htr hop (.inr rfl) h1 hvs (by simpa using hr)
        · cases hchk
      · cases hev
    · cases hev
  | mkFn vi caps =>
    simp only [evOp, Option.some.injEq, Prod.mk.injEq] at hev
    obtain ⟨rfl, rfl⟩ := hev
    simp only [chkOp] at hchk
    split at hchk
    · rename_i f first cs
      simp only [Bool.and_eq_true, beq_iff_eq] at hchk
      obtain ⟨⟨h1, h2⟩, h3⟩ := hchk
      have : first = #[] := by simpa using h1
      subst this
      exact op_mkFn hs htr hop h2 h3
    · cases hchk
  | call pu vi args =>
    simp only [chkOp] at hchk
    split at hchk
    · simp only [Bool.and_eq_true, beq_iff_eq] at hchk
      simp only [evOp] at hev
      exact op_call hcf hfn hs htr hfl hop hchk.1 hchk.2 hev
    · cases hchk
  | callS vi args =>
    simp only [chkOp] at hchk
    split at hchk
    · simp only [Bool.and_eq_true, beq_iff_eq] at hchk
      simp only [evOp] at hev
      split at hev
      · rename_i r H1 he
        split at hev
        · rename_i hr
          cases hev
          exact op_callS hcf hfn hs htr hop hchk.1 hchk.2 he hr
        · cases hev
      · cases hev
    · cases hchk
  | callF vi args =>
    simp only [chkOp] at hchk
    split at hchk
    · simp only [Bool.and_eq_true, beq_iff_eq] at hchk
      simp only [evOp] at hev
      exact op_callF hcf hfn hs htr hfl hop hchk.1 hchk.2 hev
    · cases hchk
  | capS x =>
    simp only [chkOp] at hchk
    split at hchk
    · rename_i as ts
      split at hchk
      · rename_i y t ha ht
        simp only [Bool.and_eq_true] at hchk
        obtain ⟨h1, hchk⟩ := hchk
        split at hchk
        · rename_i e hu
          rw [one_list ha, one_list ht] at hop
          simp only [evOp] at hev
          split at hev
          · rename_i hx
            simp only [Option.some.injEq, Prod.mk.injEq] at hev
            obtain ⟨rfl, rfl⟩ := hev
            exact op_capS (n := 0) hs htr hop h1 hu (.inl ⟨hx, rfl⟩)
          · rename_i es hx
            simp only [Option.some.injEq, Prod.mk.injEq] at hev
            obtain ⟨rfl, rfl⟩ := hev
            exact op_capS hs htr hop h1 hu (.inr ⟨_, hx, rfl⟩)
          · cases hev
        · cases hchk
      · cases hchk
    · cases hchk
  | callv pu x args =>
    simp only [chkOp] at hchk
    split at hchk
    · simp only [Bool.and_eq_true] at hchk
      simp only [evOp] at hev
      split at hev
      · rename_i vi caps hx
        exact op_callv hcf hfn hs htr hfl hop hchk.1 hx hchk.2 hev
      · cases hev
    · cases hchk
  | extract x i =>
    simp only [chkOp] at hchk
    split at hchk
    · simp only [Bool.and_eq_true, beq_iff_eq] at hchk
      obtain ⟨rfl, h1⟩ := hchk
      simp only [evOp] at hev
      split at hev
      · rename_i vs hx
        split at hev
        · rename_i u hu
          simp only [Option.some.injEq, Prod.mk.injEq] at hev
          obtain ⟨rfl, rfl⟩ := hev
          exact op_extract hs htr hop h1 hx hu
        · cases hev
      · cases hev
    · cases hchk

end
end Go.Proofs.YtanonfpdkoijnaaGreatDoor.Av
