/- A part of the proof of ChangesetElementsCardSaid: an evaluator of the program, proved sound, and what it says. -/
import Derived.Test.YtanonfpdkoijnaaGreatDoorAvOrc
import Derived.Shelf.SlSortCmp.WholeK
import Derived.Test.YtanonfpdkoijnaaGreatDoorAvClone
import Derived.Sort.AssemblyPlain
set_option linter.all false
namespace Go.Proofs.YtanonfpdkoijnaaGreatDoor.Av
open Go Go.Proofs Go.RowKit Go.Shelf Go.Sort
def encP (x : Int × Int) : List Value := [.int .i64 x.1, .int .i64 x.2]
def encA (x : Int × Int) : List AV := [.lit (.int .i64 x.1), .lit (.int .i64 x.2)]
theorem encP_len : ∀ x, (encP x).length = 2 := fun _ => rfl
theorem encP_one : ∀ x, ∀ v ∈ encP x, v.oneCell' = true := by
 intro x v hv
 simp only [encP, List.mem_cons, List.not_mem_nil, or_false] at hv
 rcases hv with rfl | rfl <;> rfl
def decP : List (List AV) → Option (List (Int × Int))
 | [] => some []
 | e :: r => match e with
  | [.lit (.int .i64 a), .lit (.int .i64 b)] => match decP r with
   | some l => some ((a, b) :: l)
   | none => none
  | _ => none
theorem decP_map : ∀ (es : List (List AV)) (l : List (Int × Int)), decP es = some l → es = l.map encA
 | [], l, h => by simp only [decP, Option.some.injEq] at h; subst h; rfl
 | e :: r, l, h => by
  unfold decP at h
  split at h
  ·split at h
   ·rename_i l' hl
    cases h
    rw [decP_map r l' hl]
    rfl
   ·cases h
  ·cases h
theorem decP_enc : ∀ l : List (Int × Int), decP (l.map encA) = some l
 | [] => rfl
 | x :: r => by simp only [List.map_cons, encA, decP, decP_enc r]
def cmpP (x y : Int × Int) : Int := if x.1 < y.1 then -1 else if x.1 > y.1 then 1 else if x.2 < y.2 then -1 else if x.2 > y.2 then 1 else 0
theorem cmpP_lt (x y : Int × Int) : ltOf cmpP x y = true ↔ x.1 < y.1 ∨ (x.1 = y.1 ∧ x.2 < y.2) := by
 unfold ltOf cmpP
 rw [decide_eq_true_eq]
 repeat' split
 all_goals omega
theorem cmpP_nlt (x y : Int × Int) : ltOf cmpP x y = false ↔ ¬ (x.1 < y.1 ∨ (x.1 = y.1 ∧ x.2 < y.2)) := by
 rw [← cmpP_lt]
 cases ltOf cmpP x y <;> simp
theorem cmpP_swo : SWO (ltOf cmpP) := by
 refine ⟨fun x => ?_, fun x y z h1 h2 => ?_, fun x y z h1 h2 => ?_⟩
 ·rw [cmpP_nlt]; omega
 ·rw [cmpP_lt] at *; omega
 ·rw [cmpP_nlt] at *; omega
def sortP (l : List (Int × Int)) : List (Int × Int) := (pdq (ltOf cmpP) l.toArray 0 l.length (Lib.bitLen l.length) true true).toList
theorem grow_of {c c' : Ctx} {fl : Nat} (h : Step fl c c') (hb : ∀ id, c.β id = none) : ∃ q os, c'.w = grow (c.w.drewN q) os := by
 refine ⟨c'.w.drawn - c.w.drawn, c'.w.heap.extract c.w.heap.size c'.w.heap.size, ?_⟩
 have e1 := h.os
 have e2 := h.tape
 have e3 := h.output
 have e4 : c.w.drawn + (c'.w.drawn - c.w.drawn) = c'.w.drawn := by have := h.drawn; omega
 have e5 : c'.w.heap = c.w.heap ++ c'.w.heap.extract c.w.heap.size c'.w.heap.size := by
  apply Array.ext_getElem?
  intro i
  rcases Nat.lt_or_ge i c.w.heap.size with hi | hi
  ·rw [Array.getElem?_append_left hi]
   exact h.frame i hi fun id hid => by rw [hb id] at hid; cases hid
  ·rw [Array.getElem?_append_right hi, Array.getElem?_extract]
   have hs := h.size
   by_cases hlt : i < c'.w.heap.size
   ·rw [if_pos (by omega)]
    congr 1
    omega
   ·rw [if_neg (by omega), Array.getElem?_eq_none (by omega)]
 unfold grow World.drewN
 cases hw : c'.w with
 | mk heap tape drawn os output =>
  rw [hw] at e1 e2 e3 e4 e5
  simp only at e1 e2 e3 e4 e5
  simp only [e4, ← e5, ← e1, ← e2, ← e3]
end Go.Proofs.YtanonfpdkoijnaaGreatDoor.Av
namespace Go.Proofs.YtanonfpdkoijnaaGreatDoor.Av
open Go Go.Proofs Go.RowKit Go.Shelf Go.Sort
def sortA (vc : Nat) (fl : Nat) (args : List AV) (H : Heap) : Option (AV × Heap) := match args with
 | [] => none
 | x :: r => match r with
  | [] => none
  | y :: q => match q with
   | _ :: _ => none
   | [] => match y with
    | .fn vi caps => match caps with
     | _ :: _ => none
     | [] => match Nat.beq vi vc with
      | false => none
      | true => match x with
       | .ms id tot off len => match Nat.ble fl id with
        | false => none
        | true => match H[id]? with
         | some o => match o with
          | .blk s es => match (Nat.beq s 2 && Nat.beq off 0 && Nat.beq len tot && Nat.beq es.length tot && Nat.ble tot 1000000) with
           | true => match decP es with
            | some l => some (.tup [], H.set id (.blk 2 ((sortP l).map encA)))
            | none => none
           | false => none
          | _ => none
         | none => none
       | _ => none
    | _ => none
theorem sortA_inv {vc fl : Nat} {args : List AV} {H H' : Heap} {r : AV} (h : sortA vc fl args H = some (r, H')) :
  ∃ id l, args = [.ms id l.length 0 l.length, .fn vc []] ∧ fl ≤ id ∧ H[id]? = some (.blk 2 (l.map encA)) ∧ l.length ≤ 1000000 ∧ r = .tup [] ∧ H' = H.set id (.blk 2 ((sortP l).map encA)) := by
 unfold sortA at h
 repeat' split at h
 all_goals first
  | (cases h; done)
  | skip
 rename_i hvc _ id tot off len _ hfl _ _ s es hob _ hc _ l hd
 cases h
 simp only [Bool.and_eq_true] at hc
 obtain ⟨⟨⟨⟨h1, h2⟩, h3⟩, h4⟩, h5⟩ := hc
 have e1 := Nat.eq_of_beq_eq_true h1
 have e2 := Nat.eq_of_beq_eq_true h2
 have e3 := Nat.eq_of_beq_eq_true h3
 have e4 := Nat.eq_of_beq_eq_true h4
 have e5 := Nat.le_of_ble_eq_true h5
 have e6 := Nat.eq_of_beq_eq_true hvc
 have e7 := decP_map _ _ hd
 have e8 := Nat.le_of_ble_eq_true hfl
 subst e1 e2 e3 e6 e7
 rw [List.length_map] at e4
 subst e4
 exact ⟨_, _, rfl, e8, hob, e5, rfl, rfl⟩
theorem sortP_len (l : List (Int × Int)) : (sortP l).length = l.length := by
 have h := (pdq_sorts (ltOf cmpP) cmpP_swo l.toArray 0 l.length (Lib.bitLen l.length) true true (Nat.zero_le _) (by simp) (Or.inl rfl)).1.1
 simpa [sortP] using h
theorem stepB {c : Ctx} {q : Nat} {os : Array Obj} : Step 0 (bare c) ⟨grow (Sort.ahead c.w q) os, (bare c).X, fun _ => none, []⟩ where
 X := rfl
 os := rfl
 tape := rfl
 output := rfl
 drawn := Nat.le_add_right _ _
 size := by show c.w.heap.size ≤ (c.w.heap ++ os).size; rw [Array.size_append]; exact Nat.le_add_right _ _
 len := Nat.le_refl _
 frame := fun k hk _ => by
  have hk' : k < c.w.heap.size := hk
  show (c.w.heap ++ os)[k]? = c.w.heap[k]?
  rw [Array.getElem?_append_left hk']
 img := fun id b h => by cases h
 blkS := fun id s n h => by simp [bare, shp] at h
 mpS := fun id h => by obtain ⟨e, he, _⟩ := h; simp [bare] at he
 floor := fun id h => by omega
section
variable {P : Program} {T : List AFun} {ρ : Ren}
theorem cmp_lays [I : GlobT] {cf : Nat → Nat → List AV → Heap → Option (AV × Heap)} (hcf : CfOK P T cf) (hg : ∀ W, GlobInv (top W)) {vc g : Nat} (hvc : ftOf T vc = some g)
  (hev : ∀ x y : Int × Int, ∃ H', cf 0 vc [.agg (encA x), .agg (encA y)] [] = some (.lit (.int .i64 (cmpP x y)), H')) (blk off size : Nat) (w : World) : CmpLays P g #[] encP 2 cmpP blk off size w := by
 intro m os dk _ x y
 obtain ⟨H', he⟩ := hev x y
 have hrv : ∀ x : Int × Int, RV (ftOf T) (top (sortWorldK encP 2 w blk off m dk os)) (.agg (encA x)) (.agg (encP x).toArray) := by
  intro x
  refine .agg _ _ (fun i => ((encP x)[i]?).getD undefV) rfl ?_ ?_
  ·intro i z hz
   match i, hz with
   | 0, _ => exact ⟨rfl, rfl⟩
   | 1, _ => exact ⟨rfl, rfl⟩
   | n + 2, hz => simp [encA] at hz
  ·intro i z hz
   match i, hz with
   | 0, hz => obtain rfl := Option.some.inj hz; exact RV.lit _
   | 1, hz => obtain rfl := Option.some.inj hz; exact RV.lit _
   | n + 2, hz => simp [encA] at hz
 have hargs : ArgsR (ftOf T) (top (sortWorldK encP 2 w blk off m dk os)) [.agg (encA x), .agg (encA y)] (#[.agg (encP x).toArray, .agg (encP y).toArray] ++ #[]) := by
  refine ⟨rfl, fun i z hz => ?_⟩
  match i, hz with
  | 0, hz => obtain rfl := Option.some.inj hz; exact ⟨_, rfl, hrv x⟩
  | 1, hz => obtain rfl := Option.some.inj hz; exact ⟨_, rfl, hrv y⟩
  | n + 2, hz => simp at hz
 refine (hcf 0 vc g _ _ H' (top _) _ he hvc (top_sim _ _ (hg _)) (Nat.zero_le _) hargs).mono fun e w' hq => ?_
 obtain ⟨v, c', rfl, rfl, _, _, hst, _, hr⟩ := hq
 refine ⟨by rw [hr.lit_inv], ?_⟩
 exact grow_of hst (fun _ => rfl)
theorem sortA_ok [J : GlobT] (L : SlLaysF0.n6 P ρ) (aE : ∀ w, (Go.isAgg (ρ.t 24)).run P w = .ok true w) (zE : ∀ w, (Go.sizeOf (ρ.t 24)).run P w = .ok 2 w) (hfn : FnsOK P T) {vc g : Nat} (hvc : ftOf T vc = some g)
  (hcmp : ∀ blk off size w, CmpLays P g #[] encP 2 cmpP blk off size w)
  {fl id : Nat} {l : List (Int × Int)} {c : Ctx} {vs : Array Value} (hs : Sim (ftOf T) c) (hfl : fl ≤ id) (hob : c.H[id]? = some (.blk 2 (l.map encA))) (hl : l.length ≤ 1000000) (hne : l ≠ [])
  (hargs : ArgsR (ftOf T) c [.ms id l.length 0 l.length, .fn vc []] vs) :
  Calls P (ρ.f 6) vs c.w fun e w' => ∃ v c', e = .returned v ∧ c'.w = w' ∧ c'.H = c.H.set id (.blk 2 ((sortP l).map encA)) ∧ c'.X = c.X ∧ Step fl c c' ∧ Sim (ftOf T) c' ∧ RV (ftOf T) c' (.tup []) v := by
 have hpos : 0 < l.length := List.length_pos_iff.2 hne
 obtain ⟨u0, k0, r0⟩ := hargs.2 0 _ rfl
 obtain ⟨u1, k1, r1⟩ := hargs.2 1 _ rfl
 obtain ⟨a, cap, s, n, rfl, g1, g2, g3, g4⟩ := r0.ms_inv
 have hsh : s = 2 ∧ n = l.length := by
  simp only [shp, hob] at g1
  simpa [eq_comm] using g1
 obtain ⟨rfl, rfl⟩ := hsh
 obtain ⟨_, hms⟩ := g4 rfl
 rcases hms with ⟨_, h0, _⟩ | ⟨b, cs, ty, a', hb, hcs, hsz, rfl, hadr⟩
 ·omega
 have hcap : cap ≠ 0 := by omega
 obtain rfl := hadr hcap
 have hu1 : u1 = .func (.func g) #[] #[] := by
  cases r1 with
  | pure _ _ h => cases h
  | fn vi f caps cv vals hf hcv _ _ =>
   rw [hvc] at hf
   cases hf
   have : cv = #[] := Array.eq_empty_of_size_eq_zero (by simpa using hcv)
   rw [this]
 subst hu1
 have hvs : vs = #[.slice (some ⟨b, 0, none⟩) l.length cap, .func (.func g) #[] #[]] := by
  apply Array.ext
  ·exact hargs.1
  ·intro i hi1 hi2
   have hi3 : i < 2 := by simpa using hi2
   match i, hi3 with
   | 0, _ => exact Option.some.inj ((Array.getElem?_eq_getElem hi1).symm.trans (by simpa using k0))
   | 1, _ => exact Option.some.inj ((Array.getElem?_eq_getElem hi1).symm.trans (by simpa using k1))
 subst hvs
 obtain ⟨fn, hf1, hf2, hf3⟩ := hfn vc g hvc
 obtain ⟨code, hcode⟩ := Option.isSome_iff_exists.1 hf2
 obtain ⟨cs2, ty2, hc2, hfit, hcell⟩ := hs.blk id 2 _ b hob hb
 rw [hcs] at hc2
 cases hc2
 have hget : ∀ (i : Nat) (x : Int × Int), l[i]? = some x → ∀ j, j < 2 → cs[i * 2 + j]? = some ((encP x)[j]!) := by
  intro i x hx j hj
  have hce : cellE (l.map encA) i j = some ((encA x)[j]!) := by
   unfold cellE
   rw [List.getElem?_map, hx]
   match j, hj with
   | 0, _ => rfl
   | 1, _ => rfl
  obtain ⟨v, h1, _, h3⟩ := hcell i j _ hce
  rw [h1]
  match j, hj with
  | 0, _ => rw [h3.lit_inv]; rfl
  | 1, _ => rw [h3.lit_inv]; rfl
 have hH : HoldsK encP 2 c.w b 0 l.toArray := by
  intro t ht
  rw [size_flatK] at ht
  rw [get_flatK _ _ _ _ ht]
  have hlt : t / 2 < l.length := by simp at ht; omega
  have hx : l[t / 2]? = some (l.toArray[t / 2]!) := by simp [hlt]
  have h1 := hget (t / 2) _ hx (t % 2) (Nat.mod_lt _ (by omega))
  have e : t / 2 * 2 + t % 2 = t := by omega
  rw [e] at h1
  refine ⟨by simp only [World.cell?, hcs, Nat.zero_add]; simpa using h1, by simp [World.frozen?, hcs]⟩
 have hblk : b < c.w.heap.size := hs.lt hb
 have hsw : l.toArray.size < 4611686018427387904 := by simp; omega
 have main := AnyQ.slices_SortFunc_eq L 2 aE zE encP encP_len encP_one cmpP cmpP_swo g #[] b 0 cap l.toArray c.w (enters_of hf1 hf3 hcode) (hcmp b 0 _ c.w) hH hblk hsw
 rw [show l.toArray.size = l.length by simp] at main
 refine main.mono fun e w' ⟨he, q, os, hw⟩ => ?_
 generalize hd : pdq (ltOf cmpP) l.toArray 0 l.length (Lib.bitLen l.length) true true = d at hw
 have hsd : (sortP l) = d.toList := by rw [← hd]; rfl
 have hlen : d.size = l.length := by have := sortP_len l; rw [hsd] at this; simpa using this
 have hw1 : (putRowK encP 2 (Sort.ahead c.w q) b 0 d).heap[b]? = some (.cells (putCells _root_.id 0 (flatK encP 2 d) cs) ty (0, 0)) := by
  unfold putRowK putRow mapBlock
  simp [Array.getElem?_modify, Sort.ahead, hcs, onCells]
 have hother : ∀ k, k ≠ b → (putRowK encP 2 (Sort.ahead c.w q) b 0 d).heap[k]? = c.w.heap[k]? := by
  intro k hk
  unfold putRowK putRow mapBlock
  rw [Array.getElem?_modify, if_neg (Ne.symm hk)]
  rfl
 have hsize : (putRowK encP 2 (Sort.ahead c.w q) b 0 d).heap.size = c.w.heap.size := by
  unfold putRowK putRow mapBlock
  simp [Sort.ahead]
 have hcsz : (putCells _root_.id 0 (flatK encP 2 d) cs).size = cs.size := by simp [putCells]
 have hcells : ∀ i j x, cellE ((sortP l).map encA) i j = some x → ∃ v, (putCells _root_.id 0 (flatK encP 2 d) cs)[i * 2 + j]? = some v ∧ scalarB v = true ∧ RV (ftOf T) c x v := by
  intro i j x hx
  unfold cellE at hx
  rw [List.getElem?_map, hsd] at hx
  cases hi : d.toList[i]? with
  | none => rw [hi] at hx; cases hx
  | some y =>
   rw [hi] at hx
   simp only [Option.map_some, Option.bind_some] at hx
   have hilt : i < d.size := by
    rcases Nat.lt_or_ge i d.size with h | h
    ·exact h
    ·rw [List.getElem?_eq_none (by simpa using h)] at hi; cases hi
   have hj : j < 2 := by
    rcases Nat.lt_or_ge j 2 with h | h
    ·exact h
    ·rw [List.getElem?_eq_none (by simpa [encA] using h)] at hx; cases hx
   have hfitd : i * 2 + j < cs.size := by
    have : l.length * 2 ≤ cs.size := by simpa using hfit
    omega
   have hy : d[i]! = y := by
    rw [Array.getElem?_toList] at hi
    simp [hilt] at hi ⊢
    exact hi
   have hv : (putCells _root_.id 0 (flatK encP 2 d) cs)[i * 2 + j]? = some ((encP y)[j]!) := by
    unfold putCells
    rw [Array.getElem?_mapIdx, Array.getElem?_eq_getElem hfitd]
    simp only [Option.map_some, Nat.zero_le, true_and, Nat.zero_add, size_flatK, Nat.sub_zero]
    rw [if_pos (by omega)]
    show some ((flatK encP 2 d)[i * 2 + j]!) = _
    rw [get_flatK _ _ _ _ (by omega)]
    have e1 : (i * 2 + j) / 2 = i := by omega
    have e2 : (i * 2 + j) % 2 = j := by omega
    rw [e1, e2, hy]
   match j, hj with
   | 0, _ =>
    obtain rfl : AV.lit (.int .i64 y.1) = x := Option.some.inj hx
    exact ⟨_, hv, rfl, RV.lit _⟩
   | 1, _ =>
    obtain rfl : AV.lit (.int .i64 y.2) = x := Option.some.inj hx
    exact ⟨_, hv, rfl, RV.lit _⟩
 have hlens : ∀ e ∈ (sortP l).map encA, e.length = 2 := by
  intro e he
  obtain ⟨y, _, rfl⟩ := List.mem_map.1 he
  rfl
 have hst1 := step_set (w' := putRowK encP 2 (Sort.ahead c.w q) b 0 d) (es' := (sortP l).map encA) hs hfl hob hb hcs (by simp [sortP_len]) hcsz hw1 hother hsize rfl rfl rfl (Nat.le_add_right _ _)
 have hsim1 := sim_set (w' := putRowK encP 2 (Sort.ahead c.w q) b 0 d) (es' := (sortP l).map encA) hs hob hb hcs (by simp [sortP_len]) hcsz hw1 hother hsize rfl rfl rfl hlens (by rw [hcsz]; simpa [sortP_len] using hfit) hcells (Nat.le_add_right _ _)
 generalize hc1 : (⟨putRowK encP 2 (Sort.ahead c.w q) b 0 d, c.X, c.β, c.H.set id (.blk 2 ((sortP l).map encA))⟩ : Ctx) = c1 at hst1 hsim1
 have hst2 := stepB (c := c1) (q := 0) (os := os)
 refine ⟨.tuple #[], back c1 ⟨grow (Sort.ahead c1.w 0) os, (bare c1).X, fun _ => none, []⟩, he, ?_, ?_, ?_, hst1.trans (bare_step hsim1 hst2), bare_back hsim1 hst2, ?_⟩
 ·rw [hw, ← hc1]
  rfl
 ·rw [← hc1]; rfl
 ·rw [← hc1]; rfl
 ·exact .tup [] #[] (fun _ => undefV) rfl (fun i x hx => by simp at hx) (fun i x hx => by simp at hx)
end
end Go.Proofs.YtanonfpdkoijnaaGreatDoor.Av
