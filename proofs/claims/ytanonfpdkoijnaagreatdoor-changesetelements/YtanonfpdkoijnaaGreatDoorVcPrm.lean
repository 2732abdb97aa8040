/- A part of the proof of ChangesetElementsCardSaid: an evaluator of the program, proved sound, and what it says. -/
import Derived.Test.YtanonfpdkoijnaaGreatDoorVcCp
import Derived.Test.YtanonfpdkoijnaaGreatDoorVcTchk
import Derived.Test.YtanonfpdkoijnaaGreatDoorAvOrc
set_option linter.all false
namespace Go.Proofs.YtanonfpdkoijnaaGreatDoor.Av
open Go Go.Proofs Go.RowKit Go.Shelf Go.Sort
set_option maxRecDepth 100000
set_option linter.unusedVariables false
theorem mixed : PP.follows .mixedOrders = true := by kernel_rfl
def srtLR : Ren where
 f := fun x => match x with
  | 6 => 17
  | 15 => 42
  | 14 => 41
  | 28 => 78
  | 29 => 79
  | 20 => 70
  | 21 => 71
  | 22 => 72
  | 23 => 73
  | 24 => 74
  | 25 => 75
  | 26 => 76
  | 27 => 77
  | 46 => 94
  | 47 => 95
  | 48 => 96
  | 49 => 97
  | 50 => 98
  | 57 => 110
  | n => n
 t := fun x => match x with
  | 22 => 25
  | 24 => 51
  | 25 => 56
  | 39 => 82
  | 53 => 120
  | 55 => 122
  | 46 => 113
  | 45 => 112
  | 50 => 117
  | 66 => 140
  | 70 => 144
  | 76 => 157
  | 77 => 158
  | n => n
 g := fun x => match x with
  | n => n
theorem srtL : SlLaysF0.n6 PP srtLR where
 mixed := by kernel_rfl
 f6 := ⟨ "slices.SortFunc[[]mapsheets/api.Conflict,mapsheets/api.Conflict]", by decide, Tryz.func17.trans (congrArg some (by kernel_rfl))⟩
 f14 := ⟨ "slices.pdqsortCmpFunc[mapsheets/api.Conflict]", by decide, Tryz.func41.trans (congrArg some (by kernel_rfl))⟩
 f15 := Tryz.func42.trans (congrArg some (by kernel_rfl))
 f20 := ⟨ "slices.insertionSortCmpFunc[mapsheets/api.Conflict]", by decide, Tryz.func70.trans (congrArg some (by kernel_rfl))⟩
 f21 := ⟨ "slices.heapSortCmpFunc[mapsheets/api.Conflict]", by decide, Tryz.func71.trans (congrArg some (by kernel_rfl))⟩
 f22 := ⟨ "slices.breakPatternsCmpFunc[mapsheets/api.Conflict]", by decide, Tryz.func72.trans (congrArg some (by kernel_rfl))⟩
 f23 := ⟨ "slices.choosePivotCmpFunc[mapsheets/api.Conflict]", by decide, Tryz.func73.trans (congrArg some (by kernel_rfl))⟩
 f24 := ⟨ "slices.reverseRangeCmpFunc[mapsheets/api.Conflict]", by decide, Tryz.func74.trans (congrArg some (by kernel_rfl))⟩
 f25 := ⟨ "slices.partialInsertionSortCmpFunc[mapsheets/api.Conflict]", by decide, Tryz.func75.trans (congrArg some (by kernel_rfl))⟩
 f26 := ⟨ "slices.partitionEqualCmpFunc[mapsheets/api.Conflict]", by decide, Tryz.func76.trans (congrArg some (by kernel_rfl))⟩
 f27 := ⟨ "slices.partitionCmpFunc[mapsheets/api.Conflict]", by decide, Tryz.func77.trans (congrArg some (by kernel_rfl))⟩
 f28 := Tryz.func78.trans (congrArg some (by kernel_rfl))
 f29 := Tryz.func79.trans (congrArg some (by kernel_rfl))
 f46 := ⟨ "slices.siftDownCmpFunc[mapsheets/api.Conflict]", by decide, Tryz.func94.trans (congrArg some (by kernel_rfl))⟩
 f47 := Tryz.func95.trans (congrArg some (by kernel_rfl))
 f48 := Tryz.func96.trans (congrArg some (by kernel_rfl))
 f49 := ⟨ "slices.medianAdjacentCmpFunc[mapsheets/api.Conflict]", by decide, Tryz.func97.trans (congrArg some (by kernel_rfl))⟩
 f50 := ⟨ "slices.medianCmpFunc[mapsheets/api.Conflict]", by decide, Tryz.func98.trans (congrArg some (by kernel_rfl))⟩
 f57 := ⟨ "slices.order2CmpFunc[mapsheets/api.Conflict]", by decide, Tryz.func110.trans (congrArg some (by kernel_rfl))⟩
 t0 := Tryz.underlying0
 a0 := Tryz.isAgg0
 z0 := Tryz.sizeOf0
 v0 := Tryz.zeroValue0
 t3 := Tryz.underlying3
 a3 := Tryz.isAgg3
 z3 := Tryz.sizeOf3
 v3 := Tryz.zeroValue3
 t4 := Tryz.underlying4
 a4 := Tryz.isAgg4
 z4 := Tryz.sizeOf4
 v4 := Tryz.zeroValue4
 t5 := Tryz.underlying5
 a5 := Tryz.isAgg5
 z5 := Tryz.sizeOf5
 v5 := Tryz.zeroValue5
 t9 := Tryz.underlying9
 a9 := Tryz.isAgg9
 z9 := Tryz.sizeOf9
 v9 := Tryz.zeroValue9
 t22 := Tryz.underlying25
 a22 := Tryz.isAgg25
 z22 := Tryz.sizeOf25
 v22 := Tryz.zeroValue25
 t25 := Tryz.underlying56
 a25 := Tryz.isAgg56
 z25 := Tryz.sizeOf56
 v25 := Tryz.zeroValue56
 t39 := Tryz.underlying82
 a39 := Tryz.isAgg82
 z39 := Tryz.sizeOf82
 v39 := Tryz.zeroValue82
 t45 := Tryz.underlying112
 a45 := Tryz.isAgg112
 z45 := Tryz.sizeOf112
 v45 := Tryz.zeroValue112
 t46 := Tryz.underlying113
 a46 := Tryz.isAgg113
 z46 := Tryz.sizeOf113
 v46 := Tryz.zeroValue113
 t50 := Tryz.underlying117
 a50 := Tryz.isAgg117
 z50 := Tryz.sizeOf117
 v50 := Tryz.zeroValue117
 t53 := Tryz.underlying120
 a53 := Tryz.isAgg120
 z53 := Tryz.sizeOf120
 v53 := Tryz.zeroValue120
 t55 := Tryz.underlying122
 a55 := Tryz.isAgg122
 z55 := Tryz.sizeOf122
 v55 := Tryz.zeroValue122
 t66 := Tryz.underlying140
 a66 := Tryz.isAgg140
 z66 := Tryz.sizeOf140
 v66 := Tryz.zeroValue140
 t70 := Tryz.underlying144
 a70 := Tryz.isAgg144
 z70 := Tryz.sizeOf144
 v70 := Tryz.zeroValue144
 t76 := Tryz.underlying157
 a76 := Tryz.isAgg157
 z76 := Tryz.sizeOf157
 v76 := Tryz.zeroValue157
 t77 := Tryz.underlying158
 a77 := Tryz.isAgg158
 z77 := Tryz.sizeOf158
 v77 := Tryz.zeroValue158
theorem cndq {α : Type} {b : Bool} {x y r : α} (h1 : b = true → x = r) (h2 : b = false → y = r) : cnd b x y = r := by
 cases b with
 | true => exact h1 rfl
 | false => exact h2 rfl
theorem q30_eq (n : Nat) (a b : Int) : q30 (n + 2) a b = some (if a < b then -1 else if a > b then 1 else 0) := by
 have h51 : ∀ x : Int, q51 (n + 1) x = some false := fun x => by rw [q51, bne_self_eq_false]; rfl
 rw [q30]
 simp only [h51, bnd, cnd]
 by_cases h : a < b
 ·rw [decide_eq_true h, if_pos h]
 ·rw [decide_eq_false h, if_neg h]
  by_cases h1 : a > b
  ·rw [decide_eq_true h1, if_pos h1]
  ·rw [decide_eq_false h1, if_neg h1]
theorem q31_eq (n : Nat) (a b : Int) : q31 (n + 4) [a, b] = some (if a = 0 then b else a) := by
 have w1 : IntKind.i64.wrap (0 + 1) = 1 := by rw [IntKind.wrap_i64]; omega
 have w2 : IntKind.i64.wrap (1 + 1) = 2 := by rw [IntKind.wrap_i64]; omega
 have i0 : idx [a, b] 0 = some a := rfl
 have i1 : idx [a, b] 1 = some b := rfl
 have hl : (([a, b] : List Int).length : Int) = 2 := rfl
 rw [q31, q31_L0]
 by_cases ha : a = 0
 ·subst ha
  rw [if_pos rfl]
  by_cases hb : b = 0
  ·subst hb
   rfl
  ·have : (b != 0) = true := bne_iff_ne.2 hb
   rw [q31_L0]
   simp only [i0, i1, hl, w1, bnd, bne_self_eq_false, this]
   rfl
 ·have : (a != 0) = true := bne_iff_ne.2 ha
  rw [if_neg ha]
  simp only [i0, hl, bnd, this]
  rfl
theorem q12_eq (n : Nat) (x y : Int × Int) : q12 (n + 5) ⟨x.1, x.2⟩ ⟨y.1, y.2⟩ = some (cmpP x y) := by
 have h1 := q30_eq (n + 2) x.1 y.1
 have h2 := q30_eq (n + 2) x.2 y.2
 rw [q12]
 simp only [h1, h2, bnd, q31_eq]
 congr 1
 unfold cmpP
 repeat' split
 all_goals omega
theorem seal1_lit {H : Heap} {r : AV} {k : IntKind} {z : Int} (h : seal1 H 0 r = .lit (.int k z)) : r = .lit (.int k z) := by
 cases r with
 | lit v =>
  simp only [seal1] at h
  unfold nrmV at h
  repeat' split at h
  all_goals first
   | exact h
   | cases h
 | ms id tot off len =>
  simp only [seal1, Nat.not_lt_zero, if_false, sealDepth, sealC, Nat.zero_le, if_true] at h
  split at h <;> cases h
 | sl f es => cases h
 | ptr id tot idx off => simp [seal1] at h
 | mp id => simp [seal1] at h
 | fn vi caps => cases caps <;> simp [seal1] at h
 | undef => cases h
 | rptr cs => cases h
 | it id => cases h
 | agg cs => cases h
 | tup vs => cases h
theorem cmp_ev (x y : Int × Int) : ∃ H', @evF gT0 PP T 300 0 12 [.agg (encA x), .agg (encA y)] [] = some (.lit (.int .i64 (cmpP x y)), H') := by
 have h := q12_ok 300 ⟨x.1, x.2⟩ ⟨y.1, y.2⟩ _ (q12_eq 295 x y)
 unfold pv at h
 have e : ∀ x : Int × Int, c_GConflict ⟨x.1, x.2⟩ = encA x := fun _ => rfl
 rw [e, e] at h
 split at h
 ·rename_i r H' he
  have h := Option.some.inj h
  refine ⟨H', ?_⟩
  rw [he]
  congr 2
  cases r with
  | tup vs => cases h
  | agg cs => cases h
  | lit v => exact seal1_lit (H := H') h
  | ms id tot off len => exact seal1_lit (H := H') h
  | sl f es => exact seal1_lit (H := H') h
  | ptr id tot idx off => exact seal1_lit (H := H') h
  | mp id => exact seal1_lit (H := H') h
  | fn vi caps => exact seal1_lit (H := H') h
  | undef => exact seal1_lit (H := H') h
  | rptr cs => exact seal1_lit (H := H') h
  | it id => exact seal1_lit (H := H') h
 ·cases h
theorem prim0 : @PrimOK gT0 PP T := @primOK_none PP T gT0 (fun _ => rfl)
theorem cf0 (n : Nat) : @CfOK gT0 PP T (@evF gT0 PP T n) := @evF_sound PP T gT0 mixed checked prim0 n
theorem cmp_lay (blk off size : Nat) (w : World) : CmpLays PP 18 #[] encP 2 cmpP blk off size w :=
 @cmp_lays PP T gT0 (@evF gT0 PP T 300) (cf0 300) (fun W g cs h => by cases h) 12 18 (by kernel_rfl) cmp_ev blk off size w
theorem empty_ev : @evF gT0 PP T 100 0 185 [.sl false [], .fn 12 []] [] = some (.tup [], []) := by kernel_rfl
theorem sim_cv {A B : GlobT} {FT : Nat → Option Nat} {c : Ctx} (hb : ∀ g, B.tab g = none) (h : @Sim A FT c) : @Sim B FT c :=
 @Sim.mk B FT c (fun g cs hc => by rw [hb g] at hc; cases hc) (@Sim.inj A FT c h) (@Sim.dom A FT c h) (@Sim.nx A FT c h) (@Sim.fresh A FT c h) (@Sim.lens A FT c h) (@Sim.blk A FT c h) (@Sim.map A FT c h) (@Sim.raw A FT c h)
theorem primF_inv {fl vi : Nat} {args : List AV} {H H' : Heap} {r : AV} (h : @primF gT fl vi args H = some (r, H')) : vi = 11 ∧ sortA 12 fl args H = some (r, H') := by
 unfold primF at h
 have e : (gT.prim vi : Option _) = (match Nat.beq vi 11 with | true => some (sortA 12) | false => none) := rfl
 rw [e] at h
 cases hb : Nat.beq vi 11 with
 | true => rw [hb] at h; exact ⟨Nat.eq_of_beq_eq_true hb, h⟩
 | false => rw [hb] at h; cases h
theorem prim_fl : @FlOK (@primF gT) := fun fl vi args H r H' hle hev => by
  obtain ⟨_, h⟩ := primF_inv hev
  obtain ⟨id, l, _, h1, h2, _, _, rfl⟩ := sortA_inv h
  exact ⟨by rw [List.take_set_of_le (by omega)], by rw [List.length_set]; exact hle⟩
theorem prim_cf : @CfOK gT PP T (@primF gT) := fun fl vi f args r H' c vs hev hf hs hfl hargs => by
  obtain ⟨rfl, h⟩ := primF_inv hev
  obtain ⟨id, l, rfl, h1, h2, h3, rfl, rfl⟩ := sortA_inv h
  obtain rfl : 17 = f := Option.some.inj ((show ftOf T 11 = some 17 by kernel_rfl).symm.trans hf)
  by_cases hl : l = []
  ·subst hl
   have hargs' : ArgsR (ftOf T) (bare c) [.sl false [], .fn 12 []] vs := by
    obtain ⟨u0, k0, r0⟩ := hargs.2 0 _ rfl
    obtain ⟨u1, k1, r1⟩ := hargs.2 1 _ rfl
    obtain ⟨a, cap, s, n, rfl, _⟩ := r0.ms_inv
    refine ⟨hargs.1, fun i x hx => ?_⟩
    match i, hx with
    | 0, hx =>
     obtain rfl := Option.some.inj hx
     exact ⟨_, k0, .pure _ _ (.nil false a cap (by simp))⟩
    | 1, hx =>
     obtain rfl := Option.some.inj hx
     exact ⟨_, k1, @plain1_rv gT0 _ _ _ _ (by rfl) r1⟩
    | n + 2, hx => simp at hx
   have hs0 : @Sim gT0 (ftOf T) c := @sim_cv gT gT0 _ _ (fun _ => rfl) hs
   refine (cf0 100 0 185 17 [.sl false [], .fn 12 []] _ _ (bare c) vs empty_ev (by kernel_rfl) (@bare_sim gT0 _ _ hs0) (Nat.zero_le _) hargs').mono fun e w' hq => ?_
   obtain ⟨v, c', rfl, rfl, _, _, hst, _, hr⟩ := hq
   have hset : c.H.set id (.blk 2 ((sortP []).map encA)) = c.H := by
    have e1 : (sortP []).map encA = ([] : List (Int × Int)).map encA := by
     have := sortP_len []
     rw [List.length_eq_zero_iff.1 this]
    rw [e1]
    apply List.ext_getElem?
    intro j
    by_cases hj : j = id
    ·subst hj; rw [getElem?_set_eq' h2, h2]
    ·rw [getElem?_set_ne' hj]
   refine ⟨v, back c c', rfl, rfl, hset.symm, rfl, @bare_step gT _ _ _ _ hs hst, @bare_back gT _ _ _ hs hst, ?_⟩
   cases hr with
   | pure _ _ hp => cases hp
   | tup cs cv vals g1 g2 g3 => exact .tup [] cv vals g1 (fun i x hx => by simp at hx) (fun i x hx => by simp at hx)
  ·exact @sortA_ok PP T srtLR gT srtL (fun w => Tryz.isAgg51 w) (fun w => Tryz.sizeOf51 w) (@fnsOK_of PP T gT checked) 12 18 (by kernel_rfl) cmp_lay fl id l c vs hs h1 h2 h3 hl hargs
theorem prim_ok : @PrimOK gT PP T := @PrimOK.mk gT PP T prim_fl prim_cf
instance gTz : GlobT := gT
end Go.Proofs.YtanonfpdkoijnaaGreatDoor.Av
