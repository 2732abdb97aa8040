/- A part of the proof of TxnChecksCardSaid: an evaluator of the program, proved sound, and what it says. -/
import Derived.Test.YtmflphfmefakfaaGreatDoorVtTchk
import Derived.Test.YtmflphfmefakfaaGreatDoorAvOrc
import Derived.Test.YtmflphfmefakfaaGreatDoorAvClone
import Derived.Test.YtmflphfmefakfaaGreatDoorAvMono
import Derived.Maps.RangeRun
set_option linter.all false
namespace Go.Proofs.YtmflphfmefakfaaGreatDoor.Av
open Go Go.Proofs
set_option maxRecDepth 100000
structure Grown (w w' : World) : Prop where
 os : w'.os = w.os
 tape : w'.tape = w.tape
 output : w'.output = w.output
 drawn : w.drawn ≤ w'.drawn
 size : w.heap.size ≤ w'.heap.size
 frame : ∀ k, k < w.heap.size → w'.heap[k]? = w.heap[k]?
theorem Grown.trans {a b c : World} (h : Grown a b) (k : Grown b c) : Grown a c :=
 ⟨k.os.trans h.os, k.tape.trans h.tape, k.output.trans h.output, Nat.le_trans h.drawn k.drawn, Nat.le_trans h.size k.size, fun i hi => (k.frame i (Nat.lt_of_lt_of_le hi h.size)).trans (h.frame i hi)⟩
theorem Grown.refl (a : World) : Grown a a := ⟨rfl, rfl, rfl, Nat.le_refl _, Nat.le_refl _, fun _ _ => rfl⟩
theorem grown_step {fl : Nat} {c c' : Ctx} (h : Step fl c c') (hb : ∀ id, c.β id = none) : Grown c.w c'.w :=
 ⟨h.os, h.tape, h.output, h.drawn, h.size, fun k hk => h.frame k hk fun id hid => by rw [hb id] at hid; cases hid⟩
def sL : Code → Code
 | .seq a _ => a
 | c => c
def sR : Code → Code
 | .seq _ b => b
 | c => c
def opsOf : Code → Array Oper
 | .region _ ops _ => ops
 | _ => #[]
def inB : Code → Code
 | .block _ c => c
 | .loop c => c
 | c => c
def opAt (c : Code) (i : Nat) : Oper := match (opsOf c)[i]? with
 | some o => o
 | none => default
noncomputable def sB : Code := match Tryz.f151.body with
 | some c => c
 | none => .skip
noncomputable def Rg0 : Code := sL sB
noncomputable def Rg1 : Code := sL (sR sB)
noncomputable def Rg2 : Code := sL (sL (sR (sR sB)))
noncomputable def BD : Code := inB (inB (sR (sL (sR (sR sB)))))
noncomputable def RgE : Code := sR (sR (sR sB))
noncomputable def Rg3 : Code := sL BD
noncomputable def B4 : Code := inB (sR (sR BD))
noncomputable def Rg4 : Code := sL B4
noncomputable def Rg5 : Code := sR B4
theorem sB_eq : Tryz.f151.body = some (.seq Rg0 (.seq (.region 1 (opsOf Rg1) false) (.seq (.seq (.region 2 (opsOf Rg2) false) (.block 0 (.loop BD))) RgE))) := by kernel_rfl
theorem BD_eq : BD = .seq (.region 3 (opsOf Rg3) false) (.seq (.cond (.tmp 16) .skip (.exit 0)) (.block 1 (.seq (.region 4 (opsOf Rg4) false) Rg5))) := by kernel_rfl
abbrev pc (x : Int) : List AV := [.sl false [[Vi 1, Vi x, Vi 0]], .sl false [], .sl false []]
abbrev plA (x : Int) : AV := .agg (pc x)
abbrev hmO (x : Int) : Heap := [.blk 3 [pc x], .mp [(.int .i64 1, Vi 0)], .blk 4 [[Vi 0, .sl false [], .sl false [], .sl false [[Vi 1]]]]]
abbrev HA : Heap := [.blk 3 [pc 0], .blk 3 [pc 4]]
abbrev HB : Heap := HA ++ hmO 0
abbrev HC : Heap := HB ++ hmO 4
abbrev UV : AV := .lit undefV
theorem wp_val {P : Program} {ops : Array Oper} {Q : Exit → Act → World → Prop} {i : Nat} {K : Act → World → Prop} {a : Act} {w w' : World} {o : Oper} {v : Value} (hi : ops[i]? = some o) (hg : o.guard = none)
  (hr : (execOp a.eval o).run P w = .ok (.value v) w') (hK : K (a.put o.dst v) w') : wpOp P ops Q i K a w := by
 unfold wpOp
 rw [hi]
 simp only [Region.wanted, hg, if_true]
 left
 unfold Oper.wp
 rw [hr]
 exact hK
theorem tr_args {FT : Nat → Option Nat} {c : Ctx} {args : List AV} {vs : Array Value} (n : Nat) (hargs : ArgsR FT c args vs) : TR FT c (args ++ List.replicate (n - args.length) UV) (vs ++ Array.replicate (n - vs.size) undef) := by
 refine ⟨by simp [hargs.1], fun t x hx => ?_⟩
 rw [List.getElem?_append] at hx
 rw [Array.getElem?_append, hargs.1]
 split at hx
 ·rename_i ht
  rw [if_pos ht]
  exact hargs.2 t x hx
 ·rename_i ht
  rw [if_neg ht]
  rw [List.getElem?_replicate] at hx
  split at hx
  ·rename_i hlt
   cases hx
   refine ⟨undef, ?_, RV.lit _⟩
   rw [Array.getElem?_replicate, if_pos hlt]
  ·cases hx
theorem TR.less {FT : Nat → Option Nat} {c c' : Ctx} {tm tm' : List AV} {tv : Array Value} (h : TR FT c tm tv) (hl : tm'.length = tm.length) (hk : ∀ (t : Nat) (x : AV), tm'[t]? = some x → x = .undef ∨ ∃ v, x = .lit v ∧ tm[t]? = some (.lit v)) : TR FT c' tm' tv := by
 refine ⟨hl.trans h.1, fun t x hx => ?_⟩
 rcases hk t x hx with rfl | ⟨v, rfl, h2⟩
 ·have hlt : t < tv.size := by
   have : t < tm'.length := by
    rcases Nat.lt_or_ge t tm'.length with h | h
    ·exact h
    ·rw [List.getElem?_eq_none h] at hx; cases hx
   rw [← h.1, ← hl]; exact this
  exact ⟨tv[t], by simp [hlt], .pure _ _ (.undef _)⟩
 ·obtain ⟨u, g1, g2⟩ := h.2 t _ h2
  rw [g2.lit_inv] at g1
  exact ⟨v, g1, RV.lit _⟩
def acR0 : ACode := .region false [] [Uo 3 (.box (Ut 0)), Uo 4 (.box (Ut 1)), Uo 6 (.mov (.lit (.bool false)))]
abbrev tm0 : List AV := [plA 0, plA 4, Vi 1] ++ List.replicate 27 UV
abbrev tm1 : List AV := ((tm0.set 3 (.ptr 0 1 0 0)).set 4 (.ptr 1 1 0 0)).set 6 bf
abbrev tm2 : List AV := tm1.set 10 (plA 0)
abbrev tm3 : List AV := tm2.set 11 (.mp 3)
abbrev tm4 : List AV := tm3.set 7 (.mp 3)
abbrev tm5 : List AV := tm4.set 12 (plA 4)
abbrev tm6 : List AV := tm5.set 13 (.mp 6)
abbrev tmL (r : Nat) : List AV := [U, U, Vi 1, U, U, U, U, U, U, U, U, U, U, U, .lit (.pointer (some ⟨r, 0, none⟩)), U, U, U, U, U, U, U, U, U, U, U, U, U, U, U]
section
variable {cf : Nat → Nat → List AV → Heap → Option (AV × Heap)}
theorem stray_fst [I : GlobT] (hm : PP.follows .mixedOrders = true) (hfo : FlOK cf) (hcf : CfOK PP T cf) (hfn : FnsOK PP T) (h0 : cf 0 131 [plA 0] HA = some (.mp 3, HB)) (h4 : cf 0 131 [plA 4] HB = some (.mp 6, HC))
  {c : Ctx} (hs : Sim (ftOf T) c) (hH : c.H = []) {a : Act} (htr : TR (ftOf T) c tm0 a.tmps) {Q : Exit → Act → World → Prop}
  (hK : ∀ a' c', c'.H = HC → Step 0 c c' → Sim (ftOf T) c' → TR (ftOf T) c' tm6 a'.tmps → a'.defers = a.defers → wpOps PP (opsOf Rg2) (Exit.then ((Code.block 0 (.loop BD)).wp PP (Exit.then (RgE.wp PP Q) Q)) (Exit.then (RgE.wp PP Q) Q)) [2] a' c'.w) :
  (Code.seq Rg0 (.seq (.region 1 (opsOf Rg1) false) (.seq (.seq (.region 2 (opsOf Rg2) false) (.block 0 (.loop BD))) RgE))).wp PP Q a c.w := by
 refine wp_seq ?_
 refine code_sound (lf := 0) (fl := 0) hm hfo hcf hfn acR0 Rg0 (by kernel_rfl) c a tm0 .normal ⟨tm1, HA⟩ _ hs htr (Nat.zero_le _) (by rw [hH]; kernel_rfl) ?_
 intro a1 c1 e1 s1 hs1 htr1 d1
 refine wp_seq ?_
 refine wp_region ?_
 show wpOps PP (opsOf Rg1) _ [0, 1, 2] a1 c1.w
 rw [wpOps_cons]
 refine oper_sound (fl := 0) (o := opAt Rg1 0) (ao := Uo 10 (.load true 3 (Ut 3))) (st' := ⟨tm2, HA⟩) hcf hfn hs1 htr1 (Nat.zero_le _) (by kernel_rfl) (by kernel_rfl) (by rw [e1]; kernel_rfl) ?_
 intro a2 c2 e2 s2 hs2 htr2 d2 _
 rw [wpOps_cons]
 refine oper_sound (fl := 0) (o := opAt Rg1 1) (ao := Uo 11 (.call false 131 [Ut 10])) (st' := ⟨tm3, HB⟩) hcf hfn hs2 htr2 (Nat.zero_le _) (by kernel_rfl) (by kernel_rfl) (by
  rw [e2]
  show (match cf 0 131 [plA 0] HA with | some (v, H) => some (⟨putA tm2 (some 11) v, H⟩ : St) | none => none) = _
  rw [h0]
  rfl) ?_
 intro a3 c3 e3 s3 hs3 htr3 d3 _
 rw [wpOps_cons]
 refine oper_sound (fl := 0) (o := opAt Rg1 2) (ao := Um 7 11) (st' := ⟨tm4, HB⟩) hcf hfn hs3 htr3 (Nat.zero_le _) (by kernel_rfl) (by kernel_rfl) (by rw [e3]; kernel_rfl) ?_
 intro a4 c4 e4 s4 hs4 htr4 d4 _
 show ((Code.seq (.seq (.region 2 (opsOf Rg2) false) (.block 0 (.loop BD))) RgE)).wp PP Q a4 c4.w
 refine wp_seq ?_
 refine wp_seq ?_
 refine wp_region ?_
 show wpOps PP (opsOf Rg2) _ [0, 1, 2] a4 c4.w
 rw [wpOps_cons]
 refine oper_sound (fl := 0) (o := opAt Rg2 0) (ao := Uo 12 (.load true 3 (Ut 4))) (st' := ⟨tm5, HB⟩) hcf hfn hs4 htr4 (Nat.zero_le _) (by kernel_rfl) (by kernel_rfl) (by rw [e4]; kernel_rfl) ?_
 intro a5 c5 e5 s5 hs5 htr5 d5 _
 rw [wpOps_cons]
 refine oper_sound (fl := 0) (o := opAt Rg2 1) (ao := Uo 13 (.call false 131 [Ut 12])) (st' := ⟨tm6, HC⟩) hcf hfn hs5 htr5 (Nat.zero_le _) (by kernel_rfl) (by kernel_rfl) (by
  rw [e5]
  show (match cf 0 131 [plA 4] HB with | some (v, H) => some (⟨putA tm5 (some 13) v, H⟩ : St) | none => none) = _
  rw [h4]
  rfl) ?_
 intro a6 c6 e6 s6 hs6 htr6 d6 _
 exact hK a6 c6 e6 (s1.trans (s2.trans (s3.trans (s4.trans (s5.trans s6))))) hs6 htr6 (d6.trans (d5.trans (d4.trans (d3.trans (d2.trans d1)))))
end
end Go.Proofs.YtmflphfmefakfaaGreatDoor.Av
namespace Go.Proofs.YtmflphfmefakfaaGreatDoor.Av
open Go Go.Proofs
open Go.ChangeMaps (setBlock)
set_option maxRecDepth 100000
theorem rv_tup_lit {FT : Nat → Option Nat} {c : Ctx} (l : List Value) : RV FT c (.tup (l.map .lit)) (.tuple l.toArray) := by
 refine .tup _ _ (fun i => (l[i]?).getD undefV) (by simp) ?_ ?_
 ·intro i x hx
  rw [List.getElem?_map, Option.map_eq_some_iff] at hx
  obtain ⟨v, h1, rfl⟩ := hx
  simp [h1]
 ·intro i x hx
  rw [List.getElem?_map, Option.map_eq_some_iff] at hx
  obtain ⟨v, h1, rfl⟩ := hx
  show RV FT c (.lit v) ((l[i]?).getD undefV)
  rw [h1]
  exact RV.lit _
theorem tr_lit {FT : Nat → Option Nat} {c : Ctx} {tm : List AV} {a : Act} {t : Nat} {v : Value} (h : TR FT c tm a.tmps) (ht : tm[t]? = some (.lit v)) : a.eval (.tmp t) = v := by
 obtain ⟨u, g1, g2⟩ := h.2 t _ ht
 rw [g2.lit_inv] at g1
 simp [Act.eval, Array.getD_eq_getD_getElem?, g1]
structure But (r : Nat) (w w' : World) : Prop where
 os : w'.os = w.os
 tape : w'.tape = w.tape
 output : w'.output = w.output
 drawn : w.drawn ≤ w'.drawn
 size : w.heap.size ≤ w'.heap.size
 frame : ∀ k, k < w.heap.size → k ≠ r → w'.heap[k]? = w.heap[k]?
theorem But.trans {r : Nat} {a b c : World} (h : But r a b) (k : But r b c) : But r a c :=
 ⟨k.os.trans h.os, k.tape.trans h.tape, k.output.trans h.output, Nat.le_trans h.drawn k.drawn, Nat.le_trans h.size k.size, fun i hi hn => (k.frame i (Nat.lt_of_lt_of_le hi h.size) hn).trans (h.frame i hi hn)⟩
theorem Grown.but {r : Nat} {a b : World} (h : Grown a b) : But r a b := ⟨h.os, h.tape, h.output, h.drawn, h.size, fun k hk _ => h.frame k hk⟩
theorem But.grown {r : Nat} {a b : World} {w : World} (h : But r a b) (hw : Grown w a) (hr : w.heap.size ≤ r) : Grown w b :=
 ⟨h.os.trans hw.os, h.tape.trans hw.tape, h.output.trans hw.output, Nat.le_trans hw.drawn h.drawn, Nat.le_trans hw.size h.size, fun k hk => (h.frame k (Nat.lt_of_lt_of_le hk hw.size) (by omega)).trans (hw.frame k hk)⟩
theorem lt_of_get {w : World} {k : Nat} {o : Obj} (h : w.heap[k]? = some o) : k < w.heap.size := by
 rcases Nat.lt_or_ge k w.heap.size with h' | h'
 ·exact h'
 ·rw [Array.getElem?_eq_none h'] at h; cases h
theorem grown_alloc (w : World) (o : Obj) : Grown w (w.alloc o) :=
 ⟨rfl, rfl, rfl, Nat.le_refl _, by show _ ≤ (w.heap.push o).size; rw [Array.size_push]; exact Nat.le_succ _, fun k hk => by show (w.heap.push o)[k]? = _; rw [Array.getElem?_push, if_neg (by omega)]⟩
theorem top_beta (W : World) : ∀ id, (top W).β id = none := fun _ => rfl
def acR5 : ACode := .seq (.region false [] [Um 20 8, Um 21 2, Uo 22 (.ibin .neq (Ut 20) (Ut 21)), Um 23 22, Un 24 7 23 true, Un 25 8 23 true, Ug 26 23 true (.lookup 3 (Uk 0) (Ut 24) (Ut 25) false), Un 27 9 23 true, Ug 28 23 true (.ibin .neq (Ut 26) (Ut 27)), Uo 29 (.pick (Ut 23) (Ut 28) (.lit (.bool false)))])
 (.cond (Ut 29) (.seq (.region false [] [Uo 6 (.mov (.lit (.bool true)))]) .ret) .skip)
def acRE : ACode := .seq (.region false [] [Uo 6 (.mov (.lit (.bool false)))]) .ret
def tn1 (r : Nat) : List AV := (tmL r).set 15 (.tup [bt, Vi 1, Vi 0])
def tn2 (r : Nat) : List AV := (tn1 r).set 16 bt
def tn3 (r : Nat) : List AV := (tn2 r).set 17 (.tup [Vi 1, Vi 0])
def tn4 (r : Nat) : List AV := ((((tn3 r).set 18 (Vi 1)).set 19 (Vi 0)).set 8 (Vi 1)).set 9 (Vi 0)
def tn5 (r : Nat) : List AV := ((((((((((tn4 r).set 20 (Vi 1)).set 21 (Vi 1)).set 22 bf).set 23 bf).set 24 UV).set 25 UV).set 26 UV).set 27 UV).set 28 UV).set 29 bf
theorem less_self (r : Nat) : ∀ (t : Nat) (x : AV), (tmL r)[t]? = some x → x = .undef ∨ ∃ v, x = .lit v ∧ (tmL r)[t]? = some (.lit v) := by
 intro t x hx
 have : ∀ x ∈ tmL r, x = .undef ∨ ∃ v, x = .lit v := by
  intro x hx
  simp only [tmL, U, Vi, List.mem_cons, List.not_mem_nil, or_false] at hx
  rcases hx with rfl | rfl | rfl | rfl | rfl | rfl | rfl | rfl | rfl | rfl | rfl | rfl | rfl | rfl | rfl | rfl | rfl | rfl | rfl | rfl | rfl | rfl | rfl | rfl | rfl | rfl | rfl | rfl | rfl | rfl
  all_goals first
   | exact .inl rfl
   | exact .inr ⟨_, rfl⟩
 rcases this x (List.mem_of_getElem? hx) with h | ⟨v, rfl⟩
 ·exact .inl h
 ·exact .inr ⟨v, rfl, hx⟩
theorem less_of (r : Nat) {tm : List AV} (h2 : tm[2]? = some (Vi 1)) (h14 : tm[14]? = some (.lit (.pointer (some ⟨r, 0, none⟩)))) : ∀ (t : Nat) (x : AV), (tmL r)[t]? = some x → x = .undef ∨ ∃ v, x = .lit v ∧ tm[t]? = some (.lit v) := by
 intro t x hx
 by_cases e2 : t = 2
 ·subst e2
  have : x = Vi 1 := (Option.some.inj hx).symm
  subst this
  exact .inr ⟨_, rfl, h2⟩
 by_cases e14 : t = 14
 ·subst e14
  have : x = .lit (.pointer (some ⟨r, 0, none⟩)) := (Option.some.inj hx).symm
  subst this
  exact .inr ⟨_, rfl, h14⟩
 left
 have hlt : t < 30 := by
  rcases Nat.lt_or_ge t 30 with h | h
  ·exact h
  ·rw [List.getElem?_eq_none h] at hx; cases hx
 match t, hlt with
 | 0, _ | 1, _ | 3, _ | 4, _ | 5, _ | 6, _ | 7, _ | 8, _ | 9, _ | 10, _ | 11, _ | 12, _ | 13, _ | 15, _ | 16, _ | 17, _ | 18, _ | 19, _ | 20, _ | 21, _ | 22, _ | 23, _ | 24, _ | 25, _ | 26, _ | 27, _ | 28, _ | 29, _ => exact (Option.some.inj hx).symm
 | 2, _ => exact (e2 rfl).elim
 | 14, _ => exact (e14 rfl).elim
theorem Rg4_ops : ∀ (j : Nat) (o : Oper), [opAt Rg4 1, opAt Rg4 2, opAt Rg4 3, opAt Rg4 4][j]? = some o → (opsOf Rg4)[1 + j]? = some o := by
 have e : (opsOf Rg4).toList.drop 1 = [opAt Rg4 1, opAt Rg4 2, opAt Rg4 3, opAt Rg4 4] := by kernel_rfl
 intro j o h
 rw [← e, List.getElem?_drop, Array.getElem?_toList] at h
 exact h
section
variable {cf : Nat → Nat → List AV → Heap → Option (AV × Heap)} {r b clk : Nat} {e0 : MapEntry}
set_option maxHeartbeats 1000000 in
theorem stray_one [I : GlobT] (hm : PP.follows .mixedOrders = true) (hfo : FlOK cf) (hcf : CfOK PP T cf) (hfn : FnsOK PP T) (hg : ∀ W, GlobInv (top W)) (hk : e0.key = .int .i64 1) (hv : e0.val = .int .i64 0) (hy : e0.born < clk) (hrb : b ≠ r)
  {W : World} {a : Act} (htr : TR (ftOf T) (top W) (tmL r) a.tmps) (hr : W.heap[r]? = some (.mapIter (some b) clk #[] clk)) (hb : W.heap[b]? = some (.map #[e0] clk)) {Q : Exit → Act → World → Prop}
  (hK : ∀ a' W', TR (ftOf T) (top W') (tmL r) a'.tmps → W'.heap[r]? = some (.mapIter (some b) clk #[e0.born] clk) → W'.heap[b]? = some (.map #[e0] clk) → But r W W' → a'.defers = a.defers → Q .normal a' W') :
  BD.wp PP Q a W := by
 rw [BD_eq]
 refine wp_seq ?_
 refine wp_region ?_
 show wpOps PP (opsOf Rg3) _ [0, 1] a W
 rw [wpOps_cons]
 rcases run_next_at (P := PP) W (opAt Rg3 0).type r b clk clk #[] #[e0] clk hr hb (fun x hx => by simp at hx; subst hx; exact hy) (Nat.le_refl _) with ⟨h, _⟩ | ⟨e, he, w1, hw1, hrun⟩
 ·simp [leftOf] at h
 have hee : e = e0 := by simp [leftOf] at he; exact he
 subst hee
 have ho : (opAt Rg3 0).op = .next (.tmp 14) false := by kernel_rfl
 refine wp_val (o := opAt Rg3 0) (v := .tuple #[.bool true, e.key, e.val]) (w' := setBlock w1 r (.mapIter (some b) clk (#[].push e.born) clk)) (by kernel_rfl) (by kernel_rfl) (by simp [execOp, ho, tr_lit htr (t := 14) rfl, hrun]) ?_
 have hbut : But r W (setBlock w1 r (.mapIter (some b) clk (#[].push e.born) clk)) := by
  have hf : w1.heap = W.heap := by rcases hw1 with rfl | rfl <;> rfl
  refine ⟨by rcases hw1 with rfl | rfl <;> rfl, by rcases hw1 with rfl | rfl <;> rfl, by rcases hw1 with rfl | rfl <;> rfl, (by rcases hw1 with rfl | rfl <;> first | exact Nat.le_refl _ | exact Nat.le_succ _), by simp [setBlock, hf], fun k _ hk => ?_⟩
  simp only [setBlock, hf]
  rw [Array.getElem?_setIfInBounds_ne (Ne.symm hk)]
 generalize hW1 : setBlock w1 r (.mapIter (some b) clk (#[].push e.born) clk) = W1 at hbut
 have hr1 : W1.heap[r]? = some (.mapIter (some b) clk #[e.born] clk) := by
  have hf : w1.heap = W.heap := by rcases hw1 with rfl | rfl <;> rfl
  rw [← hW1]
  simp only [setBlock, hf]
  rw [Array.getElem?_setIfInBounds_self_of_lt (lt_of_get hr)]
  rfl
 have hb1 : W1.heap[b]? = some (.map #[e] clk) := (hbut.frame b (lt_of_get hb) hrb).trans hb
 have hd0 : (opAt Rg3 0).dst = some 15 := by kernel_rfl
 have htr1 : TR (ftOf T) (top W1) (tn1 r) (a.put (opAt Rg3 0).dst (.tuple #[.bool true, e.key, e.val])).tmps := by
  rw [hd0, hk, hv]
  exact TR.put (d := some 15) (x := .tup [bt, Vi 1, Vi 0]) (htr.less rfl (less_self r)) (rv_tup_lit [.bool true, .int .i64 1, .int .i64 0])
 have hdf1 : (a.put (opAt Rg3 0).dst (.tuple #[.bool true, e.key, e.val])).defers = a.defers := put_defers _ _ _
 generalize a.put (opAt Rg3 0).dst (.tuple #[.bool true, e.key, e.val]) = a1 at htr1 hdf1
 rw [wpOps_cons]
 refine oper_sound (fl := 0) (c := top W1) (o := opAt Rg3 1) (ao := Uo 16 (.extract (Ut 15) 0)) (st' := ⟨tn2 r, []⟩) hcf hfn (top_sim _ W1 (hg W1)) htr1 (Nat.zero_le _) (by kernel_rfl) (by kernel_rfl) (by kernel_rfl) ?_
 intro a2 c2 e2 s2 hs2 htr2 d2 _
 have hg2 := grown_step s2 (top_beta W1)
 show ((Code.seq (.cond (.tmp 16) .skip (.exit 0)) (.block 1 (.seq (.region 4 (opsOf Rg4) false) Rg5)))).wp PP Q a2 c2.w
 refine wp_seq ?_
 refine wp_cond_true (tr_lit htr2 (t := 16) (by kernel_rfl)) ?_
 refine wp_skip ?_
 show (Code.block 1 (.seq (.region 4 (opsOf Rg4) false) Rg5)).wp PP Q a2 c2.w
 refine wp_block ?_
 refine wp_seq ?_
 refine wp_region ?_
 show wpOps PP (opsOf Rg4) _ [0, 1, 2, 3, 4] a2 c2.w
 rw [wpOps_cons]
 have hr2 : c2.w.heap[r]? = some (.mapIter (some b) clk (#[].push e.born) clk) := (hg2.frame r (lt_of_get hr1)).trans hr1
 have hb2 : c2.w.heap[b]? = some (.map #[e] clk) := (hg2.frame b (lt_of_get hb1)).trans hb1
 have hen := run_entry_at (P := PP) c2.w r b clk #[] #[e] clk e hr2 hb2 (by simp) (by simp)
 have ho4 : (opAt Rg4 0).op = .entry (.tmp 14) := by kernel_rfl
 have hev2 : a2.eval (.tmp 14) = .pointer (some ⟨r, 0, none⟩) := tr_lit htr2 (t := 14) (by kernel_rfl)
 refine wp_val (o := opAt Rg4 0) (v := .tuple #[e.key, e.val]) (w' := c2.w) (by kernel_rfl) (by kernel_rfl) (by simp [execOp, ho4, hev2, hen]) ?_
 have hd4 : (opAt Rg4 0).dst = some 17 := by kernel_rfl
 have htr3 : TR (ftOf T) c2 (tn3 r) (a2.put (opAt Rg4 0).dst (.tuple #[e.key, e.val])).tmps := by
  rw [hd4, hk, hv]
  exact TR.put (d := some 17) (x := .tup [Vi 1, Vi 0]) htr2 (rv_tup_lit [.int .i64 1, .int .i64 0])
 have hdf3 : (a2.put (opAt Rg4 0).dst (.tuple #[e.key, e.val])).defers = a2.defers := put_defers _ _ _
 generalize a2.put (opAt Rg4 0).dst (.tuple #[e.key, e.val]) = a3 at htr3 hdf3
 show wpOps PP (opsOf Rg4) _ (List.range' 1 4) a3 c2.w
 refine ops_seq (ops := opsOf Rg4) (fl := 0) hcf hfn [Uo 18 (.extract (Ut 17) 0), Uo 19 (.extract (Ut 17) 1), Um 8 18, Um 9 19] [opAt Rg4 1, opAt Rg4 2, opAt Rg4 3, opAt Rg4 4] 1 c2 a3 (tn3 r) ⟨tn4 r, []⟩ (by kernel_rfl) Rg4_ops hs2 htr3 (Nat.zero_le _) (by rw [e2]; kernel_rfl) ?_
 intro a4 c4 e4 s4 hs4 htr4 d4
 show Rg5.wp PP (Exit.inBlock 1 Q) a4 c4.w
 refine code_sound (lf := 0) (fl := 0) hm hfo hcf hfn acR5 Rg5 (by kernel_rfl) c4 a4 (tn4 r) .normal ⟨tn5 r, []⟩ _ hs4 htr4 (Nat.zero_le _) (by rw [e4]; kernel_rfl) ?_
 intro a5 c5 e5 s5 hs5 htr5 d5
 have hs' := s2.trans (s4.trans s5)
 have hg5 := grown_step hs' (top_beta W1)
 have htr5' : TR (ftOf T) c5 (tn5 r) a5.tmps := htr5
 have h5 : TR (ftOf T) (top c5.w) (tmL r) a5.tmps := TR.less htr5' (by kernel_rfl) (less_of r (by kernel_rfl) (by kernel_rfl))
 have hr5 := (hg5.frame r (lt_of_get hr1)).trans hr1
 have hb5 := (hg5.frame b (lt_of_get hb1)).trans hb1
 have hbu5 : But r W c5.w := hbut.trans hg5.but
 have hd5 : a5.defers = a.defers := d5.trans (d4.trans (hdf3.trans (d2.trans hdf1)))
 exact hK a5 c5.w h5 hr5 hb5 hbu5 hd5
theorem stray_end [I : GlobT] (hcf : CfOK PP T cf) (hfn : FnsOK PP T) (hg : ∀ W, GlobInv (top W)) (hy : e0.born < clk)
  {W : World} {a : Act} (htr : TR (ftOf T) (top W) (tmL r) a.tmps) (hr : W.heap[r]? = some (.mapIter (some b) clk #[e0.born] clk)) (hb : W.heap[b]? = some (.map #[e0] clk)) {Q : Exit → Act → World → Prop}
  (hK : ∀ a' W', TR (ftOf T) (top W') (tmL r) a'.tmps → Grown W W' → a'.defers = a.defers → Q (.exit 0) a' W') :
  BD.wp PP Q a W := by
 rw [BD_eq]
 refine wp_seq ?_
 refine wp_region ?_
 show wpOps PP (opsOf Rg3) _ [0, 1] a W
 rw [wpOps_cons]
 rcases run_next_at (P := PP) W (opAt Rg3 0).type r b clk clk #[e0.born] #[e0] clk hr hb (fun x hx => by simp at hx; subst hx; exact hy) (Nat.le_refl _) with ⟨_, hrun⟩ | ⟨e, he, _⟩
 ·have ho : (opAt Rg3 0).op = .next (.tmp 14) false := by kernel_rfl
  refine wp_val (o := opAt Rg3 0) (v := .tuple #[.bool false]) (w' := W) (by kernel_rfl) (by kernel_rfl) (by simp [execOp, ho, tr_lit htr (t := 14) rfl, hrun]) ?_
  have hd0 : (opAt Rg3 0).dst = some 15 := by kernel_rfl
  have htr1 : TR (ftOf T) (top W) ((tmL r).set 15 (.tup [bf])) (a.put (opAt Rg3 0).dst (.tuple #[.bool false])).tmps := by
   rw [hd0]
   exact TR.put (d := some 15) htr (rv_tup_lit [.bool false])
  have hdf1 : (a.put (opAt Rg3 0).dst (.tuple #[.bool false])).defers = a.defers := put_defers _ _ _
  generalize a.put (opAt Rg3 0).dst (.tuple #[.bool false]) = a1 at htr1 hdf1
  rw [wpOps_cons]
  refine oper_sound (fl := 0) (c := top W) (o := opAt Rg3 1) (ao := Uo 16 (.extract (Ut 15) 0)) (st' := ⟨((tmL r).set 15 (.tup [bf])).set 16 bf, []⟩) hcf hfn (top_sim _ W (hg W)) htr1 (Nat.zero_le _) (by kernel_rfl) (by kernel_rfl) (by kernel_rfl) ?_
  intro a2 c2 e2 s2 hs2 htr2 d2 _
  show ((Code.seq (.cond (.tmp 16) .skip (.exit 0)) (.block 1 (.seq (.region 4 (opsOf Rg4) false) Rg5)))).wp PP Q a2 c2.w
  refine wp_seq ?_
  refine wp_cond_false (tr_lit htr2 (t := 16) (by kernel_rfl)) ?_
  refine wp_exit ?_
  exact hK a2 c2.w (htr2.less (by kernel_rfl) (less_of r (by kernel_rfl) (by kernel_rfl))) (grown_step s2 (top_beta W)) (d2.trans hdf1)
 ·simp [leftOf] at he
set_option maxHeartbeats 1000000 in
theorem stray_any [I : GlobT] (hm : PP.follows .mixedOrders = true) (hfo : FlOK cf) (hcf : CfOK PP T cf) (hfn : FnsOK PP T) (hg : ∀ W, GlobInv (top W)) (h0 : cf 0 131 [plA 0] HA = some (.mp 3, HB)) (h4 : cf 0 131 [plA 4] HB = some (.mp 6, HC))
  {W : World} {vs : Array Value} (hargs : ArgsR (ftOf T) (top W) [plA 0, plA 4, Vi 1] vs) :
  Calls PP 151 vs W fun e w' => e = .returned (.bool false) ∧ Grown W w' := by
 refine calls_of_wp (fn := Tryz.f151) Tryz.func151 sB_eq ?_
 have htr := tr_args 30 hargs
 refine stray_fst (c := top W) hm hfo hcf hfn h0 h4 (top_sim _ W (hg W)) rfl htr ?_
 intro a c e1 s1 hs1 htr1 d1
 have hg1 := grown_step s1 (top_beta W)
 obtain ⟨u, k1, k2⟩ := htr1.2 13 (.mp 6) rfl
 obtain ⟨b, rfl, _, hb⟩ := k2.mp_inv
 have ho1 : c.H[6]? = some (.mp [(.int .i64 1, Vi 0)]) := by rw [e1]; rfl
 obtain ⟨es, clk, g1, ⟨g2, g3⟩, g4⟩ := hs1.map 6 _ b ho1 hb
 obtain ⟨e0, j1, j2, j3⟩ := g4 0 _ _ rfl
 have hes : es = #[e0] := by
  apply Array.ext'
  have hl : es.toList.length = 1 := by simpa using g2
  match hx : es.toList, hl with
  | [x], _ =>
   have : es[0]? = some x := by rw [← Array.getElem?_toList, hx]; rfl
   rw [j1] at this
   cases this
   rfl
 subst hes
 rw [wpOps_cons]
 have ho : (opAt Rg2 2).op = .range 215 (.tmp 13) := by kernel_rfl
 have hev : a.eval (.tmp 13) = .map (some b) := by simp [Act.eval, Array.getD_eq_getD_getElem?, k1]
 refine wp_val (o := opAt Rg2 2) (w' := c.w.alloc (.mapIter (some b) clk #[] clk)) (v := .pointer (some ⟨c.w.heap.size, 0, none⟩)) (by kernel_rfl) (by kernel_rfl) (by
  simp [execOp, ho, hev, run_range_map (P := PP) c.w 215 3 3 b #[e0] clk (by kernel_rfl) g1]) ?_
 have hd2 : (opAt Rg2 2).dst = some 14 := by kernel_rfl
 generalize hr : c.w.heap.size = r
 generalize hW : c.w.alloc (.mapIter (some b) clk #[] clk) = W2
 have hgW : Grown W W2 := by
  refine hg1.trans ?_
  rw [← hW]
  exact grown_alloc c.w _
 have hr2 : W2.heap[r]? = some (.mapIter (some b) clk #[] clk) := by rw [← hW, ← hr]; exact heap_alloc_new c.w _
 have hbr : b < r := by rw [← hr]; exact lt_of_get g1
 have hb2 : W2.heap[b]? = some (.map #[e0] clk) := by
  rw [← hW]
  exact ((grown_alloc c.w _).frame b (lt_of_get g1)).trans g1
 have htr2 : TR (ftOf T) (top W2) (tmL r) (a.put (opAt Rg2 2).dst (.pointer (some ⟨r, 0, none⟩))).tmps := by
  rw [hd2]
  exact TR.less (TR.put (d := some 14) htr1 (RV.lit (.pointer (some ⟨r, 0, none⟩)))) (by kernel_rfl) (less_of r (by kernel_rfl) (by kernel_rfl))
 have hdf2 : (a.put (opAt Rg2 2).dst (.pointer (some ⟨r, 0, none⟩))).defers = a.defers := put_defers _ _ _
 generalize a.put (opAt Rg2 2).dst (.pointer (some ⟨r, 0, none⟩)) = a2 at htr2 hdf2
 show (Code.block 0 (.loop BD)).wp PP _ a2 W2
 refine wp_block ?_
 refine wp_loop_rounds 2 ?_
 rw [rounds_succ]
 refine stray_one hm hfo hcf hfn hg j2 j3.lit_inv (g3 e0 (by simp)) (by omega) htr2 hr2 hb2 ?_
 intro a3 W3 htr3 hr3 hb3 hbut d3
 show Code.rounds PP BD _ 1 a3 W3
 rw [rounds_succ]
 refine stray_end hcf hfn hg (g3 e0 (by simp)) htr3 hr3 hb3 ?_
 intro a4 W4 htr4 hg4 d4
 show RgE.wp PP _ a4 W4
 refine code_sound (lf := 0) (fl := 0) hm hfo hcf hfn acRE RgE (by kernel_rfl) (top W4) a4 (tmL r) .ret ⟨(tmL r).set 6 bf, []⟩ _ (top_sim _ W4 (hg W4)) htr4 (Nat.zero_le _) (by kernel_rfl) ?_
 intro a5 c5 e5 s5 hs5 htr5 d5
 obtain ⟨v, q1, q2⟩ := results_run (P := PP) (fn := Tryz.f151) (rs := [.tmp 6]) (vs := [bf]) (st := ⟨(tmL r).set 6 bf, []⟩) hs5 e5 htr5 (by kernel_rfl) (by kernel_rfl)
 refine ⟨(d5.trans (d4.trans (d3.trans (hdf2.trans d1)))), v, q1, ?_, ?_⟩
 ·rw [q2.lit_inv]
 ·have hg5 := grown_step s5 (top_beta W4)
  exact ((hbut.grown hgW (by rw [← hr]; exact hg1.size)).trans hg4).trans hg5
end
end Go.Proofs.YtmflphfmefakfaaGreatDoor.Av
