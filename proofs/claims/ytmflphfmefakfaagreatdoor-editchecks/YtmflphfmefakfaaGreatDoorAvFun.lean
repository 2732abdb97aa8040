/- A part of the proof of EditChecksCardSaid. -/
import Derived.Test.YtmflphfmefakfaaGreatDoorAvDraw2
import Derived.Scope
import Derived.Control
set_option linter.all false
namespace Go.Proofs.YtmflphfmefakfaaGreatDoor.Av
open Go
section
variable {FT : Nat → Option Nat}
theorem mask_tr [GlobT] {c : Ctx} : ∀ (l : List Bool) (tm : List AV) (tv : Array Value), TR FT c tm tv → TR FT c (maskL l tm) tv := by
 intro l tm tv h
 have key : ∀ (l : List Bool) (tm : List AV), (maskL l tm).length = tm.length ∧ ∀ (t : Nat) (x : AV), (maskL l tm)[t]? = some x → x = .undef ∨ tm[t]? = some x := by
  intro l
  induction l with
  | nil =>
   intro tm
   cases tm with
   | nil => exact ⟨rfl, fun t x hx => by simp [maskL] at hx⟩
   | cons v vs =>
    refine ⟨by simp [maskL], fun t x hx => ?_⟩
    simp only [maskL, List.getElem?_map, Option.map_eq_some_iff] at hx
    obtain ⟨_, _, rfl⟩ := hx
    exact .inl rfl
  | cons b bs ih =>
   intro tm
   cases tm with
   | nil => exact ⟨rfl, fun t x hx => by simp [maskL] at hx⟩
   | cons v vs =>
    obtain ⟨h1, h2⟩ := ih vs
    refine ⟨by simp [maskL, h1], fun t x hx => ?_⟩
    cases t with
    | zero =>
     simp only [maskL, List.getElem?_cons_zero, Option.some.injEq] at hx ⊢
     split at hx
     ·exact .inr hx
     ·exact .inl hx.symm
    | succ t =>
     simp only [maskL, List.getElem?_cons_succ] at hx ⊢
     exact h2 t x hx
 obtain ⟨h1, h2⟩ := key l tm
 refine ⟨h1.trans h.1, fun t x hx => ?_⟩
 rcases h2 t x hx with rfl | h3
 ·have hlt : t < tv.size := by rw [← h.1, ← h1]; exact (List.getElem?_eq_some_iff.1 hx).1
  exact ⟨tv[t], by simp, RV.undef _⟩
 ·exact h.2 t x h3
structure Sub (n : Nat) (c c' : Ctx) : Prop where
 w : c'.w = c.w
 X : c'.X = c.X
 lo : ∀ id, id < n → c'.β id = c.β id
 img : ∀ id b, c'.β id = some b → ∃ i, c.β i = some b
 shp : ∀ id, id < n → shp c'.H id = shp c.H id
 mp : ∀ id, id < n → isMap c.H id → isMap c'.H id
theorem Sub.imm {n : Nat} {c c' : Ctx} (h : Sub n c c') {b : Nat} (hi : Imm c b) : Imm c' b := by
 refine ⟨by rw [h.X]; exact hi.1, fun id hid => ?_⟩
 obtain ⟨i, hi'⟩ := h.img id b hid
 exact hi.2 i hi'
theorem Sub.rp [GlobT] {n : Nat} {c c' : Ctx} (h : Sub n c c') {x : AV} {v : Value} (hr : RP c.w (Imm c) x v) : RP c'.w (Imm c') x v :=
 hr.mono fun b o hi hb => ⟨h.imm hi, by rw [h.w]; exact hb⟩
theorem clean1_rv [GlobT] {n : Nat} {c c' : Ctx} (h : Sub n c c') {x : AV} {v : Value} (hr : RV FT c x v) : RV FT c' (clean1 n x) v := by
 cases hr with
 | pure _ _ hp =>
  have hp' := h.rp hp
  cases hp' with
  | undef v => exact .pure _ _ (.undef v)
  | lit v => exact .pure _ _ (.lit v)
  | nil f a cap hf => exact .pure _ _ (.nil f a cap hf)
  | sl f es b off cap cc T fz s vals h1 h2 h3 h4 h5 h6 h7 h8 => exact .pure _ _ (.sl f es b off cap cc T fz s vals h1 h2 h3 h4 h5 h6 h7 h8)
 | ms id tot off len a cap s m g1 g2 g3 g4 =>
  simp only [clean1]
  split
  ·rename_i hid
   refine .ms id tot off len a cap s m ((h.shp id hid).trans g1) g2 g3 fun e => ?_
   obtain ⟨m1, m2⟩ := g4 e
   refine ⟨m1, ?_⟩
   rcases m2 with ⟨m3, m4, m5, m6⟩ | ⟨b, cs, T, a', m3, m4, m5, m6, m7⟩
   ·exact .inl ⟨(h.lo id hid).trans m3, m4, m5, m6⟩
   ·exact .inr ⟨b, cs, T, a', (h.lo id hid).trans m3, by rw [h.w]; exact m4, m5, m6, m7⟩
  ·exact RV.undef _
 | ptr id tot idx off a s m g1 g2 g3 =>
  simp only [clean1]
  split
  ·rename_i hid
   refine .ptr id tot idx off a s m ((h.shp id hid).trans g1) g2 fun e => ?_
   obtain ⟨b, hb, ha⟩ := g3 e
   exact ⟨b, (h.lo id hid).trans hb, ha⟩
  ·exact RV.undef _
 | rptr cs b off cc T fz vals g1 g2 g3 g4 =>
  exact .rptr cs b off cc T fz vals (h.imm g1) (by rw [h.w]; exact g2) g3 fun j x hx => h.rp (g4 j x hx)
 | mp id b g1 g2 =>
  simp only [clean1]
  split
  ·rename_i hid
   exact .mp id b (h.mp id hid g1) ((h.lo id hid).trans g2)
  ·exact RV.undef _
 | it id b g1 g2 =>
  simp only [clean1]
  split
  ·rename_i hid
   exact .it id b (h.mp id hid g1) ((h.lo id hid).trans g2)
  ·exact RV.undef _
 | fn vi f caps cv vals g1 g2 g3 g4 =>
  cases caps with
  | nil => exact .fn vi f [] cv vals g1 g2 g3 (fun i x hx => by simp at hx)
  | cons _ _ => exact RV.undef _
 | agg => exact RV.undef _
 | tup => exact RV.undef _
theorem clean2_rv [GlobT] {n : Nat} {c c' : Ctx} (h : Sub n c c') {x : AV} {v : Value} (hr : RV FT c x v) : RV FT c' (clean2 n x) v := by
 unfold clean2
 split
 ·rename_i cs
  obtain ⟨cv, vals, rfl, g1, g2, g3⟩ := hr.agg_inv
  refine .agg _ cv vals (by simpa using g1) ?_ ?_
  ·intro i x hx
   simp only [List.getElem?_map, Option.map_eq_some_iff] at hx
   obtain ⟨y, hy, rfl⟩ := hx
   exact g2 i y hy
  ·intro i x hx
   simp only [List.getElem?_map, Option.map_eq_some_iff] at hx
   obtain ⟨y, hy, rfl⟩ := hx
   exact clean1_rv h (g3 i y hy)
 ·exact clean1_rv h hr
theorem clean3_rv [GlobT] {n : Nat} {c c' : Ctx} (h : Sub n c c') {x : AV} {v : Value} (hr : RV FT c x v) : RV FT c' (clean3 n x) v := by
 unfold clean3
 split
 ·rename_i cs
  obtain ⟨cv, vals, rfl, g1, g2, g3⟩ := hr.tup_inv
  refine .tup _ cv vals (by simpa using g1) ?_ ?_
  ·intro i x hx
   simp only [List.getElem?_map, Option.map_eq_some_iff] at hx
   obtain ⟨y, hy, rfl⟩ := hx
   exact g2 i y hy
  ·intro i x hx
   simp only [List.getElem?_map, Option.map_eq_some_iff] at hx
   obtain ⟨y, hy, rfl⟩ := hx
   exact clean2_rv h (g3 i y hy)
 ·exact clean2_rv h hr
def truncC (fl n : Nat) (c : Ctx) : Ctx :=
 ⟨c.w, c.X, fun id => if id < n then c.β id else none, c.H.take fl ++ ((c.H.take n).drop fl).map (cleanObj n)⟩
theorem trunc_get {fl n : Nat} {c : Ctx} (hfn : fl ≤ n) (hn : n ≤ c.H.length) (id : Nat) :
  (truncC fl n c).H[id]? = if id < fl then c.H[id]? else if id < n then (c.H[id]?).map (cleanObj n) else none := by
 simp only [truncC]
 rw [List.getElem?_append]
 simp only [List.length_take, Nat.min_eq_left (Nat.le_trans hfn hn)]
 split
 ·rename_i h
  rw [List.getElem?_take, if_pos h]
 ·rename_i h
  rw [List.getElem?_map, List.getElem?_drop, List.getElem?_take]
  have e : fl + (id - fl) = id := by omega
  rw [e]
  split <;> rfl
theorem trunc_length {fl n : Nat} {c : Ctx} (hfn : fl ≤ n) (hn : n ≤ c.H.length) : (truncC fl n c).H.length = n := by
 simp only [truncC, List.length_append, List.length_take, List.length_map, List.length_drop]; omega
theorem trunc_sub [GlobT] {fl n : Nat} {c : Ctx} (hfn : fl ≤ n) (hn : n ≤ c.H.length) : Sub n c (truncC fl n c) where
 w := rfl
 X := rfl
 lo := fun id hid => by simp [truncC, hid]
 img := fun id b hb => by
  simp only [truncC] at hb
  split at hb
  ·exact ⟨id, hb⟩
  ·cases hb
 shp := fun id hid => by
  have hg := trunc_get hfn hn id
  unfold shp
  rw [hg]
  by_cases h : id < fl
  ·rw [if_pos h]
  ·rw [if_neg h, if_pos hid]
   cases c.H[id]? with
   | none => rfl
   | some o => cases o <;> simp [cleanObj]
 mp := fun id hid hm => by
  obtain ⟨ents, he, hnb⟩ := hm
  simp only [isMap, trunc_get hfn hn, he]
  split
  ·exact ⟨ents, rfl, hnb⟩
  ·refine ⟨cleanObj n ents, by simp [hid], ?_⟩
   cases ents with
   | blk => exact hnb
   | mp => trivial
   | raw => trivial
theorem trunc_step [GlobT] {fl : Nat} {c0 c : Ctx} (hs0 : Sim FT c0) (h : Step fl c0 c) (hfl : fl ≤ c0.H.length) : Step fl c0 (truncC fl c0.H.length c) := by
 have hsub := trunc_sub hfl h.len
 have hget := trunc_get hfl h.len
 have hlt : ∀ id r, shp c0.H id = some r → id < c0.H.length := fun id r hr => by
  rcases Nat.lt_or_ge id c0.H.length with h' | h'
  ·exact h'
  ·simp [shp, List.getElem?_eq_none h'] at hr
 refine ⟨h.X, h.os, h.tape, h.output, h.size, by rw [trunc_length hfl h.len]; exact Nat.le_refl _, h.frame, ?_, ?_, ?_, ?_⟩
 ·intro id b hb
  simp only [truncC] at hb
  split at hb
  ·exact h.img id b hb
  ·cases hb
 ·intro id s n hs
  obtain ⟨n', h1, h2, h3⟩ := h.blkS id s n hs
  have hid := hlt id _ hs
  exact ⟨n', (hsub.shp id hid).trans h1, h2, fun e => ⟨(hsub.lo id hid).trans (h3 e).1, (h3 e).2⟩⟩
 ·intro id hm
  have hid : id < c0.H.length := by
   obtain ⟨ents, he, _⟩ := hm
   rcases Nat.lt_or_ge id c0.H.length with h' | h'
   ·exact h'
   ·rw [List.getElem?_eq_none h'] at he; cases he
  obtain ⟨h1, h2⟩ := h.mpS id hm
  exact ⟨hsub.mp id hid h1, (hsub.lo id hid).trans h2⟩
 ·intro id hid
  obtain ⟨h1, h2, h3⟩ := h.floor id hid
  exact ⟨by rw [hget, if_pos hid]; exact h1, (hsub.lo id (by omega)).trans h2, h3⟩
theorem trunc_sim [GlobT] {fl : Nat} {c0 c : Ctx} (hs0 : Sim FT c0) (hs : Sim FT c) (h : Step fl c0 c) (hfl : fl ≤ c0.H.length) : Sim FT (truncC fl c0.H.length c) := by
 have hsub := trunc_sub hfl h.len
 have hget := trunc_get hfl h.len
 have hst := trunc_step hs0 h hfl
 have hβ : ∀ id b, (truncC fl c0.H.length c).β id = some b → id < c0.H.length ∧ c.β id = some b := by
  intro id b hb
  simp only [truncC] at hb
  split at hb
  ·exact ⟨by assumption, hb⟩
  ·cases hb
 refine ⟨hs0.gl.step hst, ?_, ?_, ?_, hs.fresh, ?_, ?_, ?_, ?_⟩
 ·intro i j b hi hj
  exact hs.inj i j b (hβ i b hi).2 (hβ j b hj).2
 ·intro id b hb
  rw [trunc_length hfl h.len]; exact (hβ id b hb).1
 ·intro id b hb
  exact hs.nx id b (hβ id b hb).2
 ·intro id s es ho
  rw [hget] at ho
  split at ho
  ·exact hs.lens id s es ho
  ·split at ho
   ·simp only [Option.map_eq_some_iff] at ho
    obtain ⟨o, ho1, ho2⟩ := ho
    cases o with
    | blk s' es' =>
     simp only [cleanObj, AObj.blk.injEq] at ho2
     obtain ⟨rfl, rfl⟩ := ho2
     intro e he
     simp only [List.mem_map] at he
     obtain ⟨e0, h0, rfl⟩ := he
     simpa using hs.lens id s' es' ho1 e0 h0
    | mp ents => simp [cleanObj] at ho2
    | raw q => simp [cleanObj] at ho2
   ·cases ho
 ·intro id s es b ho hb
  obtain ⟨hid, hb'⟩ := hβ id b hb
  rw [hget] at ho
  split at ho
  ·rename_i hlo
   obtain ⟨f1, f2, f3⟩ := h.floor id hlo
   rw [f1] at ho
   rw [f2] at hb'
   obtain ⟨cs, T, g1, g2, g3⟩ := hs0.blk id s es b ho hb'
   exact ⟨cs, T, (f3 b hb').trans g1, g2, fun i j x hx => let ⟨v, k1, k2, k3⟩ := g3 i j x hx; ⟨v, k1, k2, k3.step hst⟩⟩
  ·simp only [Option.map_eq_some_iff] at ho
   obtain ⟨o, ho1, ho2⟩ := ho
   cases o with
   | blk s' es' =>
    simp only [cleanObj, AObj.blk.injEq] at ho2
    obtain ⟨rfl, rfl⟩ := ho2
    obtain ⟨cs, T, g1, g2, g3⟩ := hs.blk id s' es' b ho1 hb'
    refine ⟨cs, T, g1, by simpa using g2, fun i j x hx => ?_⟩
    obtain ⟨y, hy, rfl⟩ := cellE_map hx
    obtain ⟨v, k1, k2, k3⟩ := g3 i j y hy
    exact ⟨v, k1, k2, clean1_rv hsub k3⟩
   | mp ents => simp [cleanObj] at ho2
   | raw q => simp [cleanObj] at ho2
 ·intro id ents b ho hb
  obtain ⟨hid, hb'⟩ := hβ id b hb
  rw [hget] at ho
  split at ho
  ·rename_i hlo
   obtain ⟨f1, f2, f3⟩ := h.floor id hlo
   rw [f1] at ho
   rw [f2] at hb'
   obtain ⟨es, clk, g1, g2, g3⟩ := hs0.map id ents b ho hb'
   exact ⟨es, clk, (f3 b hb').trans g1, g2, fun i k x hx => let ⟨e, k1, k2, k3⟩ := g3 i k x hx; ⟨e, k1, k2, k3.step hst⟩⟩
  ·simp only [Option.map_eq_some_iff] at ho
   obtain ⟨o, ho1, ho2⟩ := ho
   cases o with
   | blk s' es' => simp [cleanObj] at ho2
   | mp ents' =>
    simp only [cleanObj, AObj.mp.injEq] at ho2
    subst ho2
    obtain ⟨es, clk, g1, g2, g3⟩ := hs.map id ents' b ho1 hb'
    refine ⟨es, clk, g1, by simpa using g2, fun i k x hx => ?_⟩
    simp only [List.getElem?_map, Option.map_eq_some_iff] at hx
    obtain ⟨⟨k0, y⟩, hy, he⟩ := hx
    simp only [Prod.mk.injEq] at he
    obtain ⟨rfl, rfl⟩ := he
    obtain ⟨e, k1, k2, k3⟩ := g3 i k0 y hy
    exact ⟨e, k1, k2, clean2_rv hsub k3⟩
   | raw q => simp [cleanObj] at ho2
 ·intro id q b ho hb
  obtain ⟨hid, hb'⟩ := hβ id b hb
  rw [hget] at ho
  split at ho
  ·rename_i hlo
   obtain ⟨f1, f2, f3⟩ := h.floor id hlo
   rw [f1] at ho
   rw [f2] at hb'
   exact (f3 b hb').trans (hs0.raw id q b ho hb')
  ·simp only [Option.map_eq_some_iff] at ho
   obtain ⟨o, ho1, ho2⟩ := ho
   cases o with
   | blk s' es' => simp [cleanObj] at ho2
   | mp ents' => simp [cleanObj] at ho2
   | raw q' =>
    simp only [cleanObj, AObj.raw.injEq] at ho2
    subst ho2
    exact hs.raw id q' b ho1 hb'
theorem head_sound [GlobT] {fl : Nat} {live : Option (List Bool)} {tr : Bool} {c0 c : Ctx} {tm : List AV} {tv : Array Value} (hs0 : Sim FT c0) (hs : Sim FT c) (h : Step fl c0 c) (hfl : fl ≤ c0.H.length) (htr : TR FT c tm tv) :
  ∃ c', c'.w = c.w ∧ c'.H = (headSt live tr fl c0.H.length ⟨tm, c.H⟩).heap ∧ Step fl c0 c' ∧ Sim FT c' ∧ TR FT c' (headSt live tr fl c0.H.length ⟨tm, c.H⟩).tmps tv := by
 have htm : TR FT c (maskO live tm) tv := by
  cases live with
  | none => exact htr
  | some l => exact mask_tr l tm tv htr
 cases tr with
 | false => exact ⟨c, rfl, by simp [headSt], h, hs, by simpa [headSt] using htm⟩
 | true =>
  refine ⟨truncC fl c0.H.length c, rfl, by simp [headSt, truncC], trunc_step hs0 h hfl, trunc_sim hs0 hs h hfl, ?_⟩
  simp only [headSt, if_true]
  refine ⟨by simpa using htm.1, fun t x hx => ?_⟩
  simp only [List.getElem?_map, Option.map_eq_some_iff] at hx
  obtain ⟨y, hy, rfl⟩ := hx
  obtain ⟨v, g1, g2⟩ := htm.2 t y hy
  exact ⟨v, g1, clean3_rv (trunc_sub hfl h.len) g2⟩
def ownC (c : Ctx) (id s : Nat) (es : List (List AV)) : Ctx :=
 ⟨c.w, c.X, fun i => if i = c.H.length then c.β id else if i = id then none else c.β i, c.H.set id (.blk s (es ++ [List.replicate s .undef])) ++ [.blk s es]⟩
theorem own_get {c : Ctx} {id s : Nat} {es : List (List AV)} (hob : c.H[id]? = some (.blk s es)) (i : Nat) :
  (ownC c id s es).H[i]? = if i = c.H.length then some (.blk s es) else if i = id then some (.blk s (es ++ [List.replicate s .undef])) else c.H[i]? := by
 have hlt : id < c.H.length := (List.getElem?_eq_some_iff.1 hob).1
 simp only [ownC]
 rw [List.getElem?_append]
 simp only [List.length_set]
 by_cases h1 : i < c.H.length
 ·rw [if_pos h1, if_neg (by omega), List.getElem?_set]
  by_cases h2 : id = i
  ·subst h2; simp [hlt]
  ·rw [if_neg h2, if_neg (fun h => h2 h.symm)]
 ·rw [if_neg h1]
  by_cases h2 : i = c.H.length
  ·subst h2; simp
  ·rw [if_neg h2, if_neg (by omega), List.getElem?_eq_none (by simp; omega), List.getElem?_eq_none (by omega)]
theorem own_step [GlobT] {fl : Nat} {c : Ctx} {id s : Nat} {es : List (List AV)} (hfl : fl ≤ id) (hob : c.H[id]? = some (.blk s es)) : Step fl c (ownC c id s es) := by
 have hlt : id < c.H.length := (List.getElem?_eq_some_iff.1 hob).1
 have hg := own_get hob
 have hlo : ∀ i o, c.H[i]? = some o → i < c.H.length := fun i o h => (List.getElem?_eq_some_iff.1 h).1
 refine ⟨rfl, rfl, rfl, rfl, Nat.le_refl _, by simp [ownC], fun _ _ _ => rfl, ?_, ?_, ?_, ?_⟩
 ·intro i b hb
  simp only [ownC] at hb
  split at hb
  ·exact .inr ⟨_, hb⟩
  ·split at hb
   ·cases hb
   ·exact .inr ⟨_, hb⟩
 ·intro i s' n hs
  have hi : i < c.H.length := by
   rcases Nat.lt_or_ge i c.H.length with h' | h'
   ·exact h'
   ·simp [shp, List.getElem?_eq_none h'] at hs
  by_cases h2 : i = id
  ·subst h2
   have e : s' = s ∧ n = es.length := by simp [shp, hob] at hs; omega
   obtain ⟨rfl, rfl⟩ := e
   refine ⟨es.length + 1, ?_, by omega, fun e => by omega⟩
   unfold shp
   rw [hg, if_neg (by omega), if_pos rfl]
   simp
  ·refine ⟨n, ?_, Nat.le_refl _, fun _ => ⟨?_, fun b cs T _ hb => ⟨cs, hb, rfl⟩⟩⟩
   ·unfold shp
    rw [hg, if_neg (by omega), if_neg h2]
    exact hs
   ·simp only [ownC]
    rw [if_neg (by omega), if_neg h2]
 ·intro i hm
  obtain ⟨o, ho, hnb⟩ := hm
  have hi := hlo i o ho
  have h2 : i ≠ id := by
   intro e
   subst e
   rw [hob] at ho
   cases ho
   exact hnb
  refine ⟨⟨o, by rw [hg, if_neg (by omega), if_neg h2]; exact ho, hnb⟩, ?_⟩
  simp only [ownC]
  rw [if_neg (by omega), if_neg h2]
 ·intro i hi
  refine ⟨by rw [hg, if_neg (by omega), if_neg (by omega)], ?_, fun _ _ => rfl⟩
  simp only [ownC]
  rw [if_neg (by omega), if_neg (by omega)]
theorem own_sim [GlobT] {c : Ctx} {id s : Nat} {es : List (List AV)} (hs : Sim FT c) (hob : c.H[id]? = some (.blk s es)) : Sim FT (ownC c id s es) := by
 have hlt : id < c.H.length := (List.getElem?_eq_some_iff.1 hob).1
 have hg := own_get hob
 have hst := own_step (fl := 0) (Nat.zero_le _) hob
 have hβ : ∀ i b, (ownC c id s es).β i = some b → (i = c.H.length ∧ c.β id = some b) ∨ (i ≠ c.H.length ∧ i ≠ id ∧ c.β i = some b) := by
  intro i b hb
  simp only [ownC] at hb
  split at hb
  ·exact .inl ⟨by assumption, hb⟩
  ·split at hb
   ·cases hb
   ·exact .inr ⟨by assumption, by assumption, hb⟩
 refine ⟨hs.gl.step hst, ?_, ?_, ?_, hs.fresh, ?_, ?_, ?_, ?_⟩
 ·intro i j b hi hj
  rcases hβ i b hi with ⟨h1, h2⟩ | ⟨h1, h2, h3⟩ <;> rcases hβ j b hj with ⟨k1, k2⟩ | ⟨k1, k2, k3⟩
  ·omega
  ·exact (k2 (hs.inj _ _ b k3 h2)).elim
  ·exact (h2 (hs.inj _ _ b h3 k2)).elim
  ·exact hs.inj _ _ b h3 k3
 ·intro i b hb
  simp only [ownC, List.length_append, List.length_set, List.length_singleton]
  rcases hβ i b hb with ⟨h1, h2⟩ | ⟨h1, h2, h3⟩
  ·omega
  ·have := hs.dom i b h3; omega
 ·intro i b hb
  rcases hβ i b hb with ⟨h1, h2⟩ | ⟨h1, h2, h3⟩
  ·exact hs.nx _ b h2
  ·exact hs.nx _ b h3
 ·intro i s' es' ho
  rw [hg] at ho
  split at ho
  ·cases ho; exact hs.lens id s es hob
  ·split at ho
   ·cases ho
    intro e he
    rcases List.mem_append.1 he with h | h
    ·exact hs.lens id s es hob e h
    ·simp only [List.mem_singleton] at h; subst h; simp
   ·exact hs.lens i s' es' ho
 ·intro i s' es' b ho hb
  rcases hβ i b hb with ⟨h1, h2⟩ | ⟨h1, h2, h3⟩
  ·rw [hg, if_pos h1] at ho
   cases ho
   obtain ⟨cs, T, g1, g2, g3⟩ := hs.blk id s es b hob h2
   exact ⟨cs, T, g1, g2, fun i j x hx => let ⟨v, k1, k2, k3⟩ := g3 i j x hx; ⟨v, k1, k2, k3.step hst⟩⟩
  ·rw [hg, if_neg h1, if_neg h2] at ho
   obtain ⟨cs, T, g1, g2, g3⟩ := hs.blk i s' es' b ho h3
   exact ⟨cs, T, g1, g2, fun i j x hx => let ⟨v, k1, k2, k3⟩ := g3 i j x hx; ⟨v, k1, k2, k3.step hst⟩⟩
 ·intro i ents b ho hb
  rcases hβ i b hb with ⟨h1, h2⟩ | ⟨h1, h2, h3⟩
  ·rw [hg, if_pos h1] at ho
   cases ho
  ·rw [hg, if_neg h1, if_neg h2] at ho
   obtain ⟨es, clk, g1, g2, g3⟩ := hs.map i ents b ho h3
   exact ⟨es, clk, g1, g2, fun i k x hx => let ⟨e, k1, k2, k3⟩ := g3 i k x hx; ⟨e, k1, k2, k3.step hst⟩⟩
 ·intro i q b ho hb
  rcases hβ i b hb with ⟨h1, h2⟩ | ⟨h1, h2, h3⟩
  ·rw [hg, if_pos h1] at ho
   cases ho
  ·rw [hg, if_neg h1, if_neg h2] at ho
   exact hs.raw i q b ho h3
theorem ms_move {c c' : Ctx} {id m s tot off len : Nat} {es es' : List (List AV)} (hob : c.H[id]? = some (.blk s es)) (hob' : c'.H[m]? = some (.blk s es')) (hl : es'.length = es.length) (hw : c'.w = c.w) (hβ : c'.β m = c.β id) {v : Value}
  (hr : RV FT c (.ms id tot off len) v) : RV FT c' (.ms m tot off len) v := by
 cases hr with
 | pure _ _ hp => cases hp
 | ms _ _ _ _ a cap s' n g1 g2 g3 g4 =>
  have e : s' = s ∧ n = es.length := by simp [shp, hob] at g1; omega
  obtain ⟨rfl, rfl⟩ := e
  refine .ms m tot off len a cap s' es'.length (by simp [shp, hob']) (by omega) g3 fun e => ?_
  obtain ⟨m1, m2⟩ := g4 (by omega)
  refine ⟨m1, ?_⟩
  rcases m2 with ⟨m3, m4, m5, m6⟩ | ⟨b, cs, T, a', m3, m4, m5, m6, m7⟩
  ·exact .inl ⟨hβ.trans m3, m4, m5, m6⟩
  ·exact .inr ⟨b, cs, T, a', hβ.trans m3, by rw [hw]; exact m4, m5, m6, m7⟩
theorem own_sound [GlobT] {fl t : Nat} {c : Ctx} {tm : List AV} {tv : Array Value} {st1 : St} (hs : Sim FT c) (htr : TR FT c tm tv) (h : ownSt fl t ⟨tm, c.H⟩ = some st1) :
  ∃ c', c'.w = c.w ∧ c'.H = st1.heap ∧ Step fl c c' ∧ Sim FT c' ∧ TR FT c' st1.tmps tv := by
 unfold ownSt at h
 simp only at h
 split at h
 ·rename_i id tot off len hx
  split at h
  ·rename_i hfl
   split at h
   ·rename_i s es hob
    split at h
    ·rename_i htot
     cases h
     have hst := own_step hfl hob
     refine ⟨ownC c id s es, rfl, rfl, hst, own_sim hs hob, ?_⟩
     refine ⟨by simpa using htr.1, fun u y hy => ?_⟩
     simp only at hy
     rw [List.getElem?_set] at hy
     split at hy
     ·rename_i hut
      subst hut
      split at hy
      ·rename_i hlt
       cases hy
       obtain ⟨cv, g1, g2⟩ := htr.2 t tm[t] (List.getElem?_eq_getElem hlt)
       have e : tm[t] = .ms id tot off len := by
        simp only [getOpd, List.getElem?_eq_getElem hlt] at hx
        exact hx
       rw [e] at g2
       refine ⟨cv, g1, ms_move (c' := ownC c id s es) (m := c.H.length) (es' := es) hob (by rw [own_get hob, if_pos rfl]) rfl rfl (by simp [ownC]) g2⟩
      ·cases hy
     ·obtain ⟨cv, g1, g2⟩ := htr.2 u y hy
      exact ⟨cv, g1, g2.step hst⟩
    ·cases h
   ·cases h
  ·cases h
 ·cases h
def moveC (fl n id s : Nat) (es : List (List AV)) (c : Ctx) : Ctx :=
 ⟨c.w, c.X, fun i => if i < n then c.β i else if i = n then c.β id else none, (truncC fl n c).H ++ [cleanObj n (.blk s es)]⟩
theorem move_get [GlobT] {fl n id s : Nat} {es : List (List AV)} {c : Ctx} (hfn : fl ≤ n) (hn : n ≤ c.H.length) (i : Nat) :
  (moveC fl n id s es c).H[i]? = if i < n then (truncC fl n c).H[i]? else if i = n then some (cleanObj n (.blk s es)) else none := by
 simp only [moveC]
 rw [List.getElem?_append]
 rw [trunc_length hfn hn]
 by_cases h : i < n
 ·rw [if_pos h, if_pos h]
 ·rw [if_neg h, if_neg h]
  by_cases h2 : i = n
  ·subst h2; simp
  ·rw [if_neg h2, List.getElem?_eq_none (by simp; omega)]
theorem move_sub [GlobT] {fl n id s : Nat} {es : List (List AV)} {c : Ctx} (hfn : fl ≤ n) (hn : n ≤ c.H.length) : Sub n c (moveC fl n id s es c) where
 w := rfl
 X := rfl
 lo := fun i hi => by simp [moveC, hi]
 img := fun i b hb => by
  simp only [moveC] at hb
  split at hb
  ·exact ⟨i, hb⟩
  ·split at hb
   ·exact ⟨_, hb⟩
   ·cases hb
 shp := fun i hi => by
  have := (trunc_sub (c := c) hfn hn).shp i hi
  unfold shp at this ⊢
  rw [move_get hfn hn, if_pos hi]
  exact this
 mp := fun i hi hm => by
  have := (trunc_sub (c := c) hfn hn).mp i hi hm
  unfold isMap at this ⊢
  rw [move_get hfn hn, if_pos hi]
  exact this
theorem move_step [GlobT] {fl id s : Nat} {es : List (List AV)} {c0 c : Ctx} (hs0 : Sim FT c0) (h : Step fl c0 c) (hfl : fl ≤ c0.H.length) : Step fl c0 (moveC fl c0.H.length id s es c) := by
 have hsub := move_sub (id := id) (s := s) (es := es) hfl h.len
 have ht := trunc_step hs0 h hfl
 have hget := move_get (id := id) (s := s) (es := es) hfl h.len
 have hlen : (moveC fl c0.H.length id s es c).H.length = c0.H.length + 1 := by
  simp only [moveC, List.length_append, trunc_length hfl h.len, List.length_singleton]
 refine ⟨h.X, h.os, h.tape, h.output, h.size, by rw [hlen]; omega, h.frame, ?_, ?_, ?_, ?_⟩
 ·intro i b hb
  simp only [moveC] at hb
  split at hb
  ·exact h.img i b hb
  ·split at hb
   ·exact h.img id b hb
   ·cases hb
 ·intro i s' n hs
  have hid : i < c0.H.length := by
   rcases Nat.lt_or_ge i c0.H.length with h' | h'
   ·exact h'
   ·simp [shp, List.getElem?_eq_none h'] at hs
  obtain ⟨n', h1, h2, h3⟩ := h.blkS i s' n hs
  exact ⟨n', (hsub.shp i hid).trans h1, h2, fun e => ⟨(hsub.lo i hid).trans (h3 e).1, (h3 e).2⟩⟩
 ·intro i hm
  have hid : i < c0.H.length := by
   obtain ⟨ents, he, _⟩ := hm
   exact (List.getElem?_eq_some_iff.1 he).1
  obtain ⟨h1, h2⟩ := h.mpS i hm
  exact ⟨hsub.mp i hid h1, (hsub.lo i hid).trans h2⟩
 ·intro i hi
  obtain ⟨h1, h2, h3⟩ := ht.floor i hi
  exact ⟨by rw [hget, if_pos (by omega)]; exact h1, (hsub.lo i (by omega)).trans (h.floor i hi).2.1, h3⟩
theorem move_sim [GlobT] {fl id s : Nat} {es : List (List AV)} {c0 c : Ctx} (hs0 : Sim FT c0) (hs : Sim FT c) (h : Step fl c0 c) (hfl : fl ≤ c0.H.length) (hid : c0.H.length ≤ id) (hob : c.H[id]? = some (.blk s es)) : Sim FT (moveC fl c0.H.length id s es c) := by
 have hsub := move_sub (id := id) (s := s) (es := es) hfl h.len
 have hst := move_step (id := id) (s := s) (es := es) hs0 h hfl
 have ht := trunc_sim hs0 hs h hfl
 have hget := move_get (id := id) (s := s) (es := es) hfl h.len
 have htg := trunc_get hfl h.len
 have hlen : (moveC fl c0.H.length id s es c).H.length = c0.H.length + 1 := by
  simp only [moveC, List.length_append, trunc_length hfl h.len, List.length_singleton]
 have hβ : ∀ i b, (moveC fl c0.H.length id s es c).β i = some b → (i < c0.H.length ∧ c.β i = some b) ∨ (i = c0.H.length ∧ c.β id = some b) := by
  intro i b hb
  simp only [moveC] at hb
  split at hb
  ·exact .inl ⟨by assumption, hb⟩
  ·split at hb
   ·exact .inr ⟨by assumption, hb⟩
   ·cases hb
 refine ⟨hs0.gl.step hst, ?_, ?_, ?_, hs.fresh, ?_, ?_, ?_, ?_⟩
 ·intro i j b hi hj
  rcases hβ i b hi with ⟨h1, h2⟩ | ⟨h1, h2⟩ <;> rcases hβ j b hj with ⟨k1, k2⟩ | ⟨k1, k2⟩
  ·exact hs.inj _ _ b h2 k2
  ·have := hs.inj _ _ b h2 k2; omega
  ·have := hs.inj _ _ b h2 k2; omega
  ·omega
 ·intro i b hb
  rw [hlen]
  rcases hβ i b hb with ⟨h1, h2⟩ | ⟨h1, h2⟩ <;> omega
 ·intro i b hb
  rcases hβ i b hb with ⟨h1, h2⟩ | ⟨h1, h2⟩
  ·exact hs.nx _ b h2
  ·exact hs.nx _ b h2
 ·intro i s' es' ho
  rw [hget] at ho
  split at ho
  ·exact ht.lens i s' es' ho
  ·split at ho
   ·simp only [cleanObj, Option.some.injEq, AObj.blk.injEq] at ho
    obtain ⟨rfl, rfl⟩ := ho
    intro e he
    simp only [List.mem_map] at he
    obtain ⟨e0, h0, rfl⟩ := he
    simpa using hs.lens id s es hob e0 h0
   ·cases ho
 ·intro i s' es' b ho hb
  rcases hβ i b hb with ⟨hi, hb'⟩ | ⟨hi, hb'⟩
  ·rw [hget, if_pos hi, htg] at ho
   split at ho
   ·rename_i hlo
    obtain ⟨f1, f2, f3⟩ := h.floor i hlo
    rw [f1] at ho
    rw [f2] at hb'
    obtain ⟨cs, T, g1, g2, g3⟩ := hs0.blk i s' es' b ho hb'
    exact ⟨cs, T, (f3 b hb').trans g1, g2, fun i j x hx => let ⟨v, k1, k2, k3⟩ := g3 i j x hx; ⟨v, k1, k2, k3.step hst⟩⟩
   ·try rw [if_pos hi] at ho
    simp only [Option.map_eq_some_iff] at ho
    obtain ⟨o, ho1, ho2⟩ := ho
    cases o with
    | blk s2 es2 =>
     simp only [cleanObj, AObj.blk.injEq] at ho2
     obtain ⟨rfl, rfl⟩ := ho2
     obtain ⟨cs, T, g1, g2, g3⟩ := hs.blk i s2 es2 b ho1 hb'
     refine ⟨cs, T, g1, by simpa using g2, fun i j x hx => ?_⟩
     obtain ⟨y, hy, rfl⟩ := cellE_map hx
     obtain ⟨v, k1, k2, k3⟩ := g3 i j y hy
     exact ⟨v, k1, k2, clean1_rv hsub k3⟩
    | mp ents => simp [cleanObj] at ho2
    | raw q => simp [cleanObj] at ho2
  ·rw [hget, if_neg (by omega), if_pos hi] at ho
   simp only [cleanObj, Option.some.injEq, AObj.blk.injEq] at ho
   obtain ⟨rfl, rfl⟩ := ho
   obtain ⟨cs, T, g1, g2, g3⟩ := hs.blk id s es b hob hb'
   refine ⟨cs, T, g1, by simpa using g2, fun i j x hx => ?_⟩
   obtain ⟨y, hy, rfl⟩ := cellE_map hx
   obtain ⟨v, k1, k2, k3⟩ := g3 i j y hy
   exact ⟨v, k1, k2, clean1_rv hsub k3⟩
 ·intro i ents b ho hb
  rcases hβ i b hb with ⟨hi, hb'⟩ | ⟨hi, hb'⟩
  ·rw [hget, if_pos hi, htg] at ho
   split at ho
   ·rename_i hlo
    obtain ⟨f1, f2, f3⟩ := h.floor i hlo
    rw [f1] at ho
    rw [f2] at hb'
    obtain ⟨es, clk, g1, g2, g3⟩ := hs0.map i ents b ho hb'
    exact ⟨es, clk, (f3 b hb').trans g1, g2, fun i k x hx => let ⟨e, k1, k2, k3⟩ := g3 i k x hx; ⟨e, k1, k2, k3.step hst⟩⟩
   ·try rw [if_pos hi] at ho
    simp only [Option.map_eq_some_iff] at ho
    obtain ⟨o, ho1, ho2⟩ := ho
    cases o with
    | blk s' es' => simp [cleanObj] at ho2
    | mp ents' =>
     simp only [cleanObj, AObj.mp.injEq] at ho2
     subst ho2
     obtain ⟨es, clk, g1, g2, g3⟩ := hs.map i ents' b ho1 hb'
     refine ⟨es, clk, g1, by simpa using g2, fun i k x hx => ?_⟩
     simp only [List.getElem?_map, Option.map_eq_some_iff] at hx
     obtain ⟨⟨k0, y⟩, hy, he⟩ := hx
     simp only [Prod.mk.injEq] at he
     obtain ⟨rfl, rfl⟩ := he
     obtain ⟨e, k1, k2, k3⟩ := g3 i k0 y hy
     exact ⟨e, k1, k2, clean2_rv hsub k3⟩
    | raw q => simp [cleanObj] at ho2
  ·rw [hget, if_neg (by omega), if_pos hi] at ho
   simp [cleanObj] at ho
 ·intro i q b ho hb
  rcases hβ i b hb with ⟨hi, hb'⟩ | ⟨hi, hb'⟩
  ·rw [hget, if_pos hi, htg] at ho
   split at ho
   ·rename_i hlo
    obtain ⟨f1, f2, f3⟩ := h.floor i hlo
    rw [f1] at ho
    rw [f2] at hb'
    exact (f3 b hb').trans (hs0.raw i q b ho hb')
   ·try rw [if_pos hi] at ho
    simp only [Option.map_eq_some_iff] at ho
    obtain ⟨o, ho1, ho2⟩ := ho
    cases o with
    | blk s' es' => simp [cleanObj] at ho2
    | mp ents' => simp [cleanObj] at ho2
    | raw q' =>
     simp only [cleanObj, AObj.raw.injEq] at ho2
     subst ho2
     exact hs.raw i q' b ho1 hb'
  ·rw [hget, if_neg (by omega), if_pos hi] at ho
   simp [cleanObj] at ho
theorem headV_sound [GlobT] {fl t : Nat} {live : List Bool} {c0 c : Ctx} {tm : List AV} {tv : Array Value} (hs0 : Sim FT c0) (hs : Sim FT c) (h : Step fl c0 c) (hfl : fl ≤ c0.H.length) (htr : TR FT c tm tv) :
  ∃ c', c'.w = c.w ∧ c'.H = (headV live t fl c0.H.length ⟨tm, c.H⟩).heap ∧ Step fl c0 c' ∧ Sim FT c' ∧ TR FT c' (headV live t fl c0.H.length ⟨tm, c.H⟩).tmps tv := by
 have hdef := head_sound (live := some live) (tr := true) hs0 hs h hfl htr
 unfold headV
 simp only
 split
 ·rename_i id tot off len hx
  split
  ·rename_i hid
   split
   ·rename_i s es hob
    have htm : TR FT c (maskL live tm) tv := mask_tr live tm tv htr
    have hsub := move_sub (id := id) (s := s) (es := es) hfl h.len
    refine ⟨moveC fl c0.H.length id s es c, rfl, by simp [moveC, truncC], move_step hs0 h hfl, move_sim hs0 hs h hfl hid hob, ?_⟩
    refine ⟨by simpa using htm.1, fun u y hy => ?_⟩
    simp only at hy
    rw [List.getElem?_set] at hy
    split at hy
    ·rename_i hut
     subst hut
     split at hy
     ·rename_i hlt
      cases hy
      have hlt' : t < tm.length := by
       have e1 := htm.1
       have e2 := htr.1
       simp only [List.length_map] at hlt
       omega
      obtain ⟨cv, g1, g2⟩ := htr.2 t tm[t] (List.getElem?_eq_getElem hlt')
      have e : tm[t] = .ms id tot off len := by
       simp only [getOpd, List.getElem?_eq_getElem hlt'] at hx
       exact hx
      rw [e] at g2
      refine ⟨cv, g1, ms_move (c' := moveC fl c0.H.length id s es c) (m := c0.H.length) (es' := es.map fun e => e.map (clean1 c0.H.length)) hob ?_ (by simp) rfl (by simp [moveC]) g2⟩
      rw [move_get hfl h.len, if_neg (by omega), if_pos rfl]
      rfl
     ·cases hy
    ·simp only [List.getElem?_map, Option.map_eq_some_iff] at hy
     obtain ⟨z, hz, rfl⟩ := hy
     obtain ⟨v, g1, g2⟩ := htm.2 u z hz
     exact ⟨v, g1, clean3_rv hsub g2⟩
   ·exact hdef
  ·exact hdef
 ·exact hdef
end
section
variable {P : Program} {T : List AFun} {cf : Nat → Nat → List AV → Heap → Option (AV × Heap)} {fl lf : Nat}
def exitOf : AExit → Exit
 | .normal => .normal
 | .exit id => .exit id
 | .ret => .ret
def CodeOK [GlobT] (P : Program) (T : List AFun) (fl : Nat) (ev : St → Option (AExit × St)) (code : Code) : Prop :=
 ∀ (c : Ctx) (a : Act) (tm : List AV) (x : AExit) (st' : St) (Q : Exit → Act → World → Prop), Sim (ftOf T) c → TR (ftOf T) c tm a.tmps → fl ≤ c.H.length → ev ⟨tm, c.H⟩ = some (x, st') →
  (∀ a' c', c'.H = st'.heap → Step fl c c' → Sim (ftOf T) c' → TR (ftOf T) c' st'.tmps a'.tmps → a'.defers = a.defers → Q (exitOf x) a' c'.w) → code.wp P Q a c.w
theorem loop_sound [GlobT] {code : Code} {step : St → Option (AExit × St)} {live : Option (List Bool)} {tr : Bool} (hstep : CodeOK P T fl step code) {c0 : Ctx} (hs0 : Sim (ftOf T) c0) (hfl : fl ≤ c0.H.length) {ds : List Deferred} {x : AExit} {st' : St} {Q : Exit → Act → World → Prop}
  (hQ : ∀ a' c', c'.H = st'.heap → Step fl c0 c' → Sim (ftOf T) c' → TR (ftOf T) c' st'.tmps a'.tmps → a'.defers = ds → Q (exitOf x) a' c'.w) :
  ∀ (n : Nat) (c : Ctx) (a : Act) (tm : List AV), Sim (ftOf T) c → Step fl c0 c → TR (ftOf T) c tm a.tmps → a.defers = ds → evLoop (headSt live tr fl c0.H.length) step n ⟨tm, c.H⟩ = some (x, st') → Code.rounds P code Q n a c.w
 | 0, c, a, tm, _, _, _, _, hev => by cases hev
 | n + 1, c, a, tm, hs, hst, htr, hd, hev => by
  rw [rounds_succ]
  simp only [evLoop] at hev
  obtain ⟨c1, h1, h2, h3, h4, h5⟩ := head_sound (live := live) (tr := tr) hs0 hs hst hfl htr
  rw [← h1]
  have hst1 : (headSt live tr fl c0.H.length ⟨tm, c.H⟩) = ⟨(headSt live tr fl c0.H.length ⟨tm, c.H⟩).tmps, c1.H⟩ := by rw [h2]
  rw [hst1] at hev
  split at hev
  ·rename_i st2 he
   refine hstep c1 a _ .normal st2 _ h4 h5 (Nat.le_trans hfl h3.len) he ?_
   intro a' c' e1 e2 e3 e4 e5
   show Code.rounds P code Q n a' c'.w
   refine loop_sound (live := live) (tr := tr) hstep hs0 hfl hQ n c' a' st2.tmps e3 (h3.trans e2) e4 (e5.trans hd) ?_
   rw [e1]; exact hev
  ·rename_i r hne
   have key : ∀ y, exitOf x = y → y ≠ .normal → code.wp P (Exit.then (Code.rounds P code Q n) Q) a c1.w := by
    intro y hy hyn
    refine hstep c1 a _ x st' _ h4 h5 (Nat.le_trans hfl h3.len) hev ?_
    intro a' c' e1 e2 e3 e4 e5
    have := hQ a' c' e1 (h3.trans e2) e3 e4 (e5.trans hd)
    rw [hy] at this ⊢
    cases y <;> first | exact (hyn rfl).elim | exact this
   cases x with
   | normal => exact (hne st' hev).elim
   | exit id => exact key _ rfl (by simp [exitOf])
   | ret => exact key _ rfl (by simp [exitOf])
theorem loop_soundH [GlobT] {code : Code} {step : St → Option (AExit × St)} {head : St → St} (hstep : CodeOK P T fl step code) {c0 : Ctx} (hfl : fl ≤ c0.H.length)
  (hhead : ∀ (c : Ctx) (tm : List AV) (tv : Array Value), Sim (ftOf T) c → Step fl c0 c → TR (ftOf T) c tm tv → ∃ c', c'.w = c.w ∧ c'.H = (head ⟨tm, c.H⟩).heap ∧ Step fl c0 c' ∧ Sim (ftOf T) c' ∧ TR (ftOf T) c' (head ⟨tm, c.H⟩).tmps tv)
  {ds : List Deferred} {x : AExit} {st' : St} {Q : Exit → Act → World → Prop}
  (hQ : ∀ a' c', c'.H = st'.heap → Step fl c0 c' → Sim (ftOf T) c' → TR (ftOf T) c' st'.tmps a'.tmps → a'.defers = ds → Q (exitOf x) a' c'.w) :
  ∀ (n : Nat) (c : Ctx) (a : Act) (tm : List AV), Sim (ftOf T) c → Step fl c0 c → TR (ftOf T) c tm a.tmps → a.defers = ds → evLoop head step n ⟨tm, c.H⟩ = some (x, st') → Code.rounds P code Q n a c.w
 | 0, c, a, tm, _, _, _, _, hev => by cases hev
 | n + 1, c, a, tm, hs, hst, htr, hd, hev => by
  rw [rounds_succ]
  simp only [evLoop] at hev
  obtain ⟨c1, h1, h2, h3, h4, h5⟩ := hhead c tm a.tmps hs hst htr
  rw [← h1]
  have hst1 : (head ⟨tm, c.H⟩) = ⟨(head ⟨tm, c.H⟩).tmps, c1.H⟩ := by rw [h2]
  rw [hst1] at hev
  split at hev
  ·rename_i st2 he
   refine hstep c1 a _ .normal st2 _ h4 h5 (Nat.le_trans hfl h3.len) he ?_
   intro a' c' e1 e2 e3 e4 e5
   show Code.rounds P code Q n a' c'.w
   refine loop_soundH hstep hfl hhead hQ n c' a' st2.tmps e3 (h3.trans e2) e4 (e5.trans hd) ?_
   rw [e1]; exact hev
  ·rename_i r hne
   have key : ∀ y, exitOf x = y → y ≠ .normal → code.wp P (Exit.then (Code.rounds P code Q n) Q) a c1.w := by
    intro y hy hyn
    refine hstep c1 a _ x st' _ h4 h5 (Nat.le_trans hfl h3.len) hev ?_
    intro a' c' e1 e2 e3 e4 e5
    have := hQ a' c' e1 (h3.trans e2) e3 e4 (e5.trans hd)
    rw [hy] at this ⊢
    cases y <;> first | exact (hyn rfl).elim | exact this
   cases x with
   | normal => exact (hne st' hev).elim
   | exit id => exact key _ rfl (by simp [exitOf])
   | ret => exact key _ rfl (by simp [exitOf])
theorem nilK_spec [GlobT] {c : Ctx} {x : AV} {u : Value} (hr : RV (ftOf T) c x u) (h3 : nilK c.H x ≠ 3) : ∃ ad n cap, u = .slice ad n cap ∧ (nilK c.H x = 0 → ad = none) ∧ (nilK c.H x = 1 → ad.isNone = false) := by
 unfold nilK at h3 ⊢
 split at h3
 ·rename_i v
  have := hr.lit_inv
  subst this
  split at h3
  ·split at h3
   ·split at h3
    ·split at h3
     ·exact ⟨none, 0, 0, rfl, fun _ => rfl, fun h => by simp at h⟩
     ·exact (h3 rfl).elim
    ·exact (h3 rfl).elim
   ·exact (h3 rfl).elim
  ·exact (h3 rfl).elim
 ·rename_i f es
  have hp := hr.sl_inv
  cases hp with
  | nil _ ad cap hf => exact ⟨ad, 0, cap, rfl, fun h => by simp at h, fun h => by simp at h⟩
  | sl _ _ b off cap cc Ty fz s vals g1 g2 g3 g4 g5 g6 g7 g8 => exact ⟨_, _, _, rfl, fun h => by cases es <;> simp at h, fun _ => rfl⟩
 ·rename_i id tot off len
  split at h3
  ·exact (h3 rfl).elim
  ·rename_i len'
   split at h3
   ·rename_i s es hob
    split at h3
    ·rename_i hbe
     obtain ⟨ad, cap, s0, n0, hv, g1, g2, g3, g4⟩ := hr.ms_inv
     rw [shp_of hob] at g1
     cases g1
     obtain ⟨m1, m2⟩ := g4 (Nat.eq_of_beq_eq_true hbe).symm
     refine ⟨ad, _, cap, hv, fun h => by simp [hob, hbe] at h, fun _ => ?_⟩
     rcases m2 with ⟨_, m3, m4, m5⟩ | ⟨b, cc, Ty, a', m3, m4, m5, m6, m7⟩
     ·omega
     ·subst m6; rfl
    ·exact (h3 rfl).elim
   ·exact (h3 rfl).elim
 ·exact (h3 rfl).elim
theorem nilRegion [GlobT] (hcf : CfOK P T cf) (hfn : FnsOK P T) {c : Ctx} {a : Act} {tm : List AV} {ops : Array Oper} {o1 o2 : Oper} {id t d0 d1 : Nat} {Q : Exit → Act → World → Prop}
  (hops : ops.toList = [o1, o2]) (hc1 : chkOper P T ops ⟨some d0, .mov (.tmp t), none⟩ o1 = true) (hc2 : isEqNil P d0 d1 o2 = true) (hs : Sim (ftOf T) c) (htr : TR (ftOf T) c tm a.tmps) (hfl : fl ≤ c.H.length)
  (hd0 : d0 < tm.length) (h3 : nilK c.H (getOpd tm (.tmp t)) ≠ 3)
  (hQ : ∀ b a' c', (nilK c.H (getOpd tm (.tmp t)) = 0 → b = true) → (nilK c.H (getOpd tm (.tmp t)) = 1 → b = false) → c'.H = c.H → Step fl c c' → Sim (ftOf T) c' → TR (ftOf T) c' (nilTm tm t d0 d1 b) a'.tmps → a'.defers = a.defers → Q .normal a' c'.w) :
  (Code.region id ops false).wp P Q a c.w := by
 have e1 : ops[0]? = some o1 := by rw [← Array.getElem?_toList, hops]; rfl
 have e2 : ops[1]? = some o2 := by rw [← Array.getElem?_toList, hops]; rfl
 have hsz : ops.size = 2 := by rw [← Array.length_toList, hops]; rfl
 refine wp_region ?_
 rw [hsz]
 show wpOps P ops Q [0, 1] a c.w
 rw [wpOps_cons]
 have hev1 : evOper P cf fl ⟨some d0, .mov (.tmp t), none⟩ ⟨tm, c.H⟩ = some ⟨tm.set d0 (getOpd tm (.tmp t)), c.H⟩ := rfl
 refine oper_sound hcf hfn hs htr hfl e1 hc1 hev1 ?_
 intro a1 c1 f1 f2 f3 f4 f5 _
 rw [wpOps_cons]
 unfold isEqNil at hc2
 simp only [Bool.and_eq_true] at hc2
 obtain ⟨⟨h1, h2⟩, h4⟩ := hc2
 have hdst : o2.dst = some d1 := by
  split at h1
  ·rename_i d hd; rw [hd]; simpa using h1
  ·cases h1
 have hguard : o2.guard = none := by simpa using h2
 split at h4
 ·rename_i ty x' ty' hop
  simp only [Bool.and_eq_true, beq_iff_eq] at h4
  obtain ⟨rfl, h4⟩ := h4
  split at h4
  ·rename_i e hu
   unfold wpOp
   rw [e2]
   simp only
   have hw : Region.wanted o2 (yielded ops a1.tmps) = true := by simp [Region.wanted, hguard]
   rw [hw]
   simp only [if_true]
   left
   obtain ⟨u, k1, k2⟩ := f4.2 x' (getOpd tm (.tmp t)) (by simp [hd0])
   obtain ⟨ad, n, cap, hu', z0, z1⟩ := nilK_spec k2 (by rw [f1]; exact h3)
   rw [f1] at z0 z1
   have hev : a1.eval (.tmp x') = .slice ad n cap := by
    simp only [Act.eval, Array.getD_eq_getD_getElem?, k1, Option.getD_some, hu']
   have hrun : (execOp a1.eval o2).run P c1.w = .ok (.value (.bool ad.isNone)) c1.w := by
    have heq : ∀ w : World, (Op.equalIn Op.maxDepth ty (.slice ad n cap) (.slice none 0 0)).run P w = .ok ad.isNone w := by
     intro w
     have hm : Op.maxDepth = (Op.maxDepth - 1) + 1 := by decide
     rw [hm, Op.equalIn]
     cases ad <;> simp [run_underlying hu]
    simp [execOp, hop, Act.eval, k1, hu', eqGuard, binOp, Op.equal, heq]
   refine (ok_same (fl := fl) (v := .lit (.bool ad.isNone)) f3 hrun (RV.lit _)) _ _ ?_
   intro cv c2 q1 q2 q3 q4
   show Q .normal _ _
   rw [hdst]
   have hcv := q4.lit_inv
   subst hcv
   refine hQ ad.isNone _ c2 (fun h => by rw [z0 h]; rfl) z1 (q1.trans f1) (f2.trans q2) q3 ?_ ((put_defers _ _ _).trans f5)
   exact TR.put (d := some d1) (f4.step q2) q4
  ·cases h4
 ·cases h4
theorem empA_rv [GlobT] {c c' : Ctx} {x : AV} {v : Value} (h : empA x = true) (hr : RV (ftOf T) c x v) : RV (ftOf T) c' (.sl false []) v := by
 unfold empA at h
 split at h
 ·rename_i u
  have := hr.lit_inv
  subst this
  split at h
  ·split at h
   ·split at h
    ·split at h
     ·exact .pure _ _ (.nil false none 0 (by simp))
     ·cases h
    ·cases h
   ·cases h
  ·cases h
 ·split at h
  ·have hp := hr.sl_inv
   cases hp with
   | nil _ ad cap hf => exact .pure _ _ (.nil false ad cap (by simp))
   | sl _ _ b off cap cc Ty fz s vals g1 g2 g3 g4 g5 g6 g7 g8 => exact (g1 rfl).elim
  ·cases h
 ·cases h
theorem joinL_get [GlobT] : ∀ (xs ys : List AV), xs.length = ys.length → (joinL xs ys).length = xs.length ∧ ∀ (t : Nat) (z : AV), (joinL xs ys)[t]? = some z → ∃ x y, xs[t]? = some x ∧ ys[t]? = some y ∧ z = join1 x y
 | [], [], _ => ⟨rfl, fun t z h => by simp [joinL] at h⟩
 | x :: r, y :: s, h => by
  obtain ⟨h1, h2⟩ := joinL_get r s (by simpa using h)
  refine ⟨by simp [joinL, h1], fun t z hz => ?_⟩
  cases t with
  | zero =>
   simp only [joinL, List.getElem?_cons_zero, Option.some.injEq] at hz
   exact ⟨x, y, rfl, rfl, hz.symm⟩
  | succ t =>
   simp only [joinL, List.getElem?_cons_succ] at hz ⊢
   exact h2 t z hz
 | [], _ :: _, h => by simp at h
 | _ :: _, [], h => by simp at h
theorem join_tr [GlobT] {c c' : Ctx} {xs ys : List AV} {tv : Array Value} (hl : xs.length = ys.length) (h : TR (ftOf T) c xs tv ∨ TR (ftOf T) c ys tv) : TR (ftOf T) c' (joinL xs ys) tv := by
 obtain ⟨h1, h2⟩ := joinL_get xs ys hl
 have hsz : xs.length = tv.size := by rcases h with h | h; exact h.1; rw [hl]; exact h.1
 refine ⟨h1.trans hsz, fun t z hz => ?_⟩
 obtain ⟨x, y, g1, g2, rfl⟩ := h2 t z hz
 have hv : ∃ v, tv[t]? = some v ∧ (RV (ftOf T) c x v ∨ RV (ftOf T) c y v) := by
  rcases h with h | h
  ·obtain ⟨v, k1, k2⟩ := h.2 t x g1; exact ⟨v, k1, .inl k2⟩
  ·obtain ⟨v, k1, k2⟩ := h.2 t y g2; exact ⟨v, k1, .inr k2⟩
 obtain ⟨v, k1, k2⟩ := hv
 refine ⟨v, k1, ?_⟩
 unfold join1
 split
 ·rename_i hx
  split
  ·rename_i hy
   rcases k2 with k2 | k2
   ·exact empA_rv hx k2
   ·exact empA_rv hy k2
  ·exact RV.undef _
 ·exact RV.undef _
theorem floor_ctx [GlobT] {FT : Nat → Option Nat} {c c1 : Ctx} (hs : Sim FT c) (hs1 : Sim FT c1) (h : Step c.H.length c c1) : ∃ c2, c2.w = c1.w ∧ c2.H = c.H ∧ Step c.H.length c c2 ∧ Sim FT c2 := by
 obtain ⟨c2, g1, g2, g3, g4, _⟩ := head_sound (live := none) (tr := true) (tm := []) (tv := #[]) hs hs1 h (Nat.le_refl _) ⟨rfl, fun t x hx => by simp at hx⟩
 refine ⟨c2, g1, ?_, g3, g4⟩
 rw [g2]
 simp only [headSt, if_true]
 apply List.ext_getElem?
 intro i
 have hl := h.len
 have e : (c1.H.take c.H.length).drop c.H.length = [] := List.drop_eq_nil_of_le (by simp; omega)
 rw [e, List.map_nil, List.append_nil, List.getElem?_take]
 split
 ·rename_i hi
  exact (h.floor i hi).1
 ·rename_i hi
  exact (List.getElem?_eq_none (by omega)).symm
theorem code_sound [GlobT] (hm : P.follows .mixedOrders = true) (hfo : FlOK cf) (hcf : CfOK P T cf) (hfn : FnsOK P T) : ∀ (ac : ACode) (code : Code), chkC P T ac code = true → CodeOK P T fl (evC P cf lf fl ac) code
 | .skip, code, hchk => by
  cases code <;> simp only [chkC, Bool.false_eq_true] at hchk
  ·intro c a tm x st' Q hs htr hfl hev hQ
   simp only [evC, Option.some.injEq, Prod.mk.injEq] at hev
   obtain ⟨rfl, rfl⟩ := hev
   exact wp_skip (hQ a c rfl (Step.refl _ _) hs htr rfl)
  ·intro c a tm x st' Q hs htr hfl hev hQ
   simp only [evC, Option.some.injEq, Prod.mk.injEq] at hev
   obtain ⟨rfl, rfl⟩ := hev
   exact wp_label (hQ a c rfl (Step.refl _ _) hs htr rfl)
 | .scope p, code, hchk => by
  cases code <;> try (simp only [chkC, Bool.false_eq_true] at hchk; done)
  rename_i p'
  simp only [chkC] at hchk
  have hp := code_sound hm hfo hcf hfn p p' hchk
  intro c a tm x st' Q hs htr hfl hev hQ
  simp only [evC] at hev
  refine wp_scope_straight (hp c a tm x st' _ hs htr hfl hev ?_)
  intro a' c' e1 e2 e3 e4 e5
  have := hQ a' c' e1 e2 e3 e4 e5
  cases x <;> exact this
 | .nilIf t d0 d1 p q, code, hchk => by
  cases code <;> try (simp only [chkC, Bool.false_eq_true] at hchk; done)
  rename_i l q'
  cases l <;> try (simp only [chkC, Bool.false_eq_true] at hchk; done)
  rename_i r cd
  cases r <;> try (simp only [chkC, Bool.false_eq_true] at hchk; done)
  rename_i id ops draw
  cases cd <;> try (simp only [chkC, Bool.false_eq_true] at hchk; done)
  rename_i k p' sk
  cases k <;> try (simp only [chkC, Bool.false_eq_true] at hchk; done)
  rename_i e
  cases sk <;> try (simp only [chkC, Bool.false_eq_true] at hchk; done)
  simp only [chkC, Bool.and_eq_true, Bool.not_eq_true', beq_iff_eq] at hchk
  obtain ⟨⟨⟨⟨rfl, rfl⟩, ho⟩, hcp⟩, hcq⟩ := hchk
  have hp := code_sound hm hfo hcf hfn p p' hcp
  have hq := code_sound hm hfo hcf hfn q q' hcq
  split at ho
  ·rename_i o1 o2 hops
   simp only [Bool.and_eq_true] at ho
   intro c a tm x st' Q hs htr hfl hev hQ
   simp only [evC] at hev
   split at hev
   ·rename_i hd0
    simp only [Bool.and_eq_true] at hd0
    have hd0' : d0 < tm.length := Nat.le_of_ble_eq_true hd0.1
    have hd1' : e < tm.length := Nat.le_of_ble_eq_true hd0.2
    have h3 : nilK c.H (getOpd tm (.tmp t)) ≠ 3 := by
     intro h
     rw [h] at hev
     cases hev
    refine wp_seq (wp_seq (nilRegion hcf hfn hops ho.1 ho.2 hs htr hfl hd0' h3 ?_))
    intro b a' c' hb0 hb1 e1 e2 e3 e4 e5
    have hval : a'.eval (.tmp e) = .bool b := by
     obtain ⟨v, k1, k2⟩ := e4.2 e (.lit (.bool b)) (by simp [nilTm, hd1'])
     simp only [Act.eval, Array.getD_eq_getD_getElem?, k1, Option.getD_some, k2.lit_inv]
    have e6 : ∀ tm' : List AV, (⟨tm', c'.H⟩ : St) = ⟨tm', c.H⟩ := fun tm' => by rw [e1]
    have joined : ∀ (pc : ACode) (tm' : List AV) (sa sb : St) (code : Code) (Q' : Exit → Act → World → Prop), CodeOK P T fl (evC P cf lf fl pc) code → fl = c.H.length → sa.tmps.length = sb.tmps.length →
      (evC P cf lf fl pc ⟨tm', c.H⟩ = some (.ret, sa) ∨ evC P cf lf fl pc ⟨tm', c.H⟩ = some (.ret, sb)) → TR (ftOf T) c' tm' a'.tmps → x = .ret → st' = ⟨joinL sa.tmps sb.tmps, c.H⟩ → (∀ a w, Q .ret a w → Q' .ret a w) → code.wp P Q' a' c'.w := by
     intro pc tm' sa sb code Q' hok hflc hlen hor htr' hx hst hQ'
     subst hx hst
     have key : ∀ (s : St), evC P cf lf fl pc ⟨tm', c.H⟩ = some (.ret, s) → (s = sa ∨ s = sb) → code.wp P Q' a' c'.w := by
      intro s hes hss
      refine hok c' a' tm' .ret s Q' e3 htr' (Nat.le_trans hfl e2.len) (by rw [e6]; exact hes) ?_
      intro a'' c'' k1 k2 k3 k4 k5
      have hst2 := e2.trans k2
      rw [hflc] at hst2
      obtain ⟨c2, m1, m2, m3, m4⟩ := floor_ctx hs k3 hst2
      rw [← hflc] at m3
      have := hQ a'' c2 m2 m3 m4 (join_tr hlen (by rcases hss with rfl | rfl; exact .inl k4; exact .inr k4)) (k5.trans e5)
      rw [m1] at this
      exact hQ' _ _ this
     rcases hor with h | h
     ·exact key sa h (.inl rfl)
     ·exact key sb h (.inr rfl)
    show (Code.cond (.tmp e) p' .skip).wp P _ a' c'.w
    cases b with
    | true =>
     refine wp_cond_true hval ?_
     split at hev
     ·rename_i hk
      unfold notNormal at hev
      split at hev
      ·rename_i x1 s1 he
       split at hev
       ·cases hev
       ·rename_i hne
        cases hev
        refine hp c' a' _ x st' _ e3 e4 (Nat.le_trans hfl e2.len) (by rw [e6]; exact he) ?_
        intro a'' c'' k1 k2 k3 k4 k5
        have := hQ a'' c'' k1 (e2.trans k2) k3 k4 (k5.trans e5)
        cases x with
        | normal => exact (hne rfl).elim
        | exit i => exact this
        | ret => exact this
      ·cases hev
     ·rename_i hk
      have := hb1 hk
      cases this
     ·rename_i hk
      split at hev
      ·rename_i hb
       unfold joinR at hev
       split at hev
       ·rename_i sa sb h1 h2
        split at hev
        ·rename_i hl
         cases hev
         exact joined p _ sa sb p' _ hp (Nat.eq_of_beq_eq_true hb) (Nat.eq_of_beq_eq_true hl) (.inl h1) e4 rfl rfl (fun a w h => h)
        ·cases hev
       ·cases hev
      ·cases hev
     ·cases hev
    | false =>
     refine wp_cond_false hval (wp_skip ?_)
     show q'.wp P Q a' c'.w
     split at hev
     ·rename_i hk
      have := hb0 hk
      cases this
     ·rename_i hk
      refine hq c' a' _ x st' _ e3 e4 (Nat.le_trans hfl e2.len) (by rw [e6]; exact hev) ?_
      intro a'' c'' k1 k2 k3 k4 k5
      exact hQ a'' c'' k1 (e2.trans k2) k3 k4 (k5.trans e5)
     ·rename_i hk
      split at hev
      ·rename_i hb
       unfold joinR at hev
       split at hev
       ·rename_i sa sb h1 h2
        split at hev
        ·rename_i hl
         cases hev
         exact joined q _ sa sb q' _ hq (Nat.eq_of_beq_eq_true hb) (Nat.eq_of_beq_eq_true hl) (.inr h2) e4 rfl rfl (fun a w h => h)
        ·cases hev
       ·cases hev
      ·cases hev
     ·cases hev
   ·cases hev
  ·cases ho
 | .frz t q, code, hchk => by
  have hq := code_sound hm hfo hcf hfn q code (by cases code <;> (simp only [chkC] at hchk; exact hchk))
  intro c a tm x st' Q hs htr hfl hev hQ
  simp only [evC] at hev
  split at hev
  ·rename_i v H' he
   have key : ∃ c', c'.w = c.w ∧ c'.H = H' ∧ Step fl c c' ∧ Sim (ftOf T) c' ∧ ∀ cv, RV (ftOf T) c (getOpd tm (.tmp t)) cv → RV (ftOf T) c' v cv := by
    simp only [evOp] at he
    split at he
    ·rename_i id tot off len hx
     split at he
     ·rename_i hle
      split at he
      ·rename_i s es hob
       split at he
       ·rename_i htot
        cases he
        exact ⟨frz c id s es, rfl, rfl, step_frz hle hob, sim_frz hs hob, fun cv hcv => rv_frz hs hob htot (by rw [hx] at hcv; exact hcv)⟩
       ·cases he
      ·cases he
     ·cases he
    ·cases he
     exact ⟨c, rfl, rfl, Step.refl _ _, hs, fun _ h => h⟩
   obtain ⟨c', k1, k2, k3, k4, k5⟩ := key
   have htr' : TR (ftOf T) c' (tm.set t v) a.tmps := by
    refine ⟨by simpa using htr.1, fun u y hy => ?_⟩
    rw [List.getElem?_set] at hy
    split at hy
    ·rename_i hut
     subst hut
     split at hy
     ·rename_i hlt
      cases hy
      obtain ⟨cv, g1, g2⟩ := htr.2 t tm[t] (List.getElem?_eq_getElem hlt)
      refine ⟨cv, g1, k5 cv ?_⟩
      simp only [getOpd, List.getElem?_eq_getElem hlt]
      exact g2
     ·cases hy
    ·obtain ⟨cv, g1, g2⟩ := htr.2 u y hy
     exact ⟨cv, g1, g2.step k3⟩
   have := hq c' a (tm.set t v) x st' Q k4 htr' (Nat.le_trans hfl k3.len) (by rw [k2]; exact hev) (fun a' c'' e1 e2 e3 e4 e5 => hQ a' c'' e1 (k3.trans e2) e3 e4 e5)
   rwa [k1] at this
  ·cases hev
 | .stop, code, hchk => by
  intro c a tm x st' Q hs htr hfl hev hQ
  simp only [evC] at hev
  cases hev
 | .mask lx lr tr q, code, hchk => by
  have hq := code_sound hm hfo hcf hfn q code (by cases code <;> (simp only [chkC] at hchk; exact hchk))
  intro c a tm x st' Q hs htr hfl hev hQ
  simp only [evC, maskR] at hev
  split at hev
  ·rename_i x1 st1 he
   have key : ∀ y, st' = headSt (some lx) tr fl c.H.length st1 → evC P cf lf fl q ⟨tm, c.H⟩ = some (y, st1) → x = y → code.wp P Q a c.w := by
    intro y e he e'
    subst e e'
    refine hq c a tm x st1 Q hs htr hfl he ?_
    intro a' c' e1 e2 e3 e4 e5
    obtain ⟨c2, h1, h2, h3, h4, h5⟩ := head_sound (live := some lx) (tr := tr) hs e3 e2 hfl e4
    have e6 : (⟨st1.tmps, c'.H⟩ : St) = st1 := by rw [e1]
    rw [e6] at h2 h5
    have := hQ a' c2 h2 h3 h4 h5 e5
    rwa [h1] at this
   split at hev
   ·simp only [Option.some.injEq, Prod.mk.injEq] at hev
    obtain ⟨rfl, rfl⟩ := hev
    refine hq c a tm .ret st1 Q hs htr hfl he ?_
    intro a' c' e1 e2 e3 e4 e5
    exact hQ a' c' e1 e2 e3 (mask_tr lr _ _ e4) e5
   ·simp only [Option.some.injEq, Prod.mk.injEq] at hev
    obtain ⟨rfl, rfl⟩ := hev
    exact key .normal rfl he rfl
   ·rename_i i
    simp only [Option.some.injEq, Prod.mk.injEq] at hev
    obtain ⟨rfl, rfl⟩ := hev
    exact key (.exit i) rfl he rfl
  ·cases hev
 | .region draw ck aops, code, hchk => by
  cases code <;> try (simp only [chkC, Bool.false_eq_true] at hchk; done)
  rename_i id ops draw'
  have hd : draw = draw' := by simp only [chkC, Bool.and_eq_true, beq_iff_eq] at hchk; exact hchk.1.1
  subst hd
  intro c a tm x st' Q hs htr hfl hev hQ
  simp only [evC] at hev
  split at hev
  ·rename_i st1 he
   simp only [Option.some.injEq, Prod.mk.injEq] at hev
   obtain ⟨rfl, rfl⟩ := hev
   exact region_sound hm hfo hcf hfn hchk hs htr hfl he hQ
  ·cases hev
 | .seq p q, code, hchk => by
  cases code <;> try (simp only [chkC, Bool.false_eq_true] at hchk; done)
  rename_i p' q'
  simp only [chkC, Bool.and_eq_true] at hchk
  have hp := code_sound hm hfo hcf hfn p p' hchk.1
  have hq := code_sound hm hfo hcf hfn q q' hchk.2
  intro c a tm x st' Q hs htr hfl hev hQ
  simp only [evC] at hev
  refine wp_seq ?_
  split at hev
  ·rename_i st1 he
   refine hp c a tm .normal st1 _ hs htr hfl he ?_
   intro a' c' e1 e2 e3 e4 e5
   show q'.wp P Q a' c'.w
   refine hq c' a' st1.tmps x st' Q e3 e4 (Nat.le_trans hfl e2.len) (by rw [e1]; exact hev) ?_
   intro a'' c'' f1 f2 f3 f4 f5
   exact hQ a'' c'' f1 (e2.trans f2) f3 f4 (f5.trans e5)
  ·rename_i r hne
   refine hp c a tm x st' _ hs htr hfl hev ?_
   intro a' c' e1 e2 e3 e4 e5
   have := hQ a' c' e1 e2 e3 e4 e5
   cases x with
   | normal => exact (hne st' hev).elim
   | exit id => exact this
   | ret => exact this
 | .cond k p q, code, hchk => by
  cases code <;> try (simp only [chkC, Bool.false_eq_true] at hchk; done)
  rename_i k' p' q'
  simp only [chkC, Bool.and_eq_true] at hchk
  have hp := code_sound hm hfo hcf hfn p p' hchk.1.2
  have hq := code_sound hm hfo hcf hfn q q' hchk.2
  intro c a tm x st' Q hs htr hfl hev hQ
  have hk := getOpd_rv hs htr hchk.1.1
  simp only [evC] at hev
  split at hev
  ·rename_i hb
   rw [hb] at hk
   exact wp_cond_true hk.lit_inv (hp c a tm x st' Q hs htr hfl hev hQ)
  ·rename_i hb
   rw [hb] at hk
   exact wp_cond_false hk.lit_inv (hq c a tm x st' Q hs htr hfl hev hQ)
  ·cases hev
 | .block i p, code, hchk => by
  cases code <;> try (simp only [chkC, Bool.false_eq_true] at hchk; done)
  rename_i i' p'
  simp only [chkC, Bool.and_eq_true, beq_iff_eq] at hchk
  obtain ⟨rfl, hchk⟩ := hchk
  have hp := code_sound hm hfo hcf hfn p p' hchk
  intro c a tm x st' Q hs htr hfl hev hQ
  simp only [evC] at hev
  refine wp_block ?_
  split at hev
  ·rename_i j st1 he
   refine hp c a tm (.exit j) st1 _ hs htr hfl he ?_
   intro a' c' e1 e2 e3 e4 e5
   simp only [exitOf, Exit.inBlock]
   split at hev
   ·rename_i hj
    simp only [Option.some.injEq, Prod.mk.injEq] at hev
    obtain ⟨rfl, rfl⟩ := hev
    rw [if_pos hj]
    exact hQ a' c' e1 e2 e3 e4 e5
   ·rename_i hj
    simp only [Option.some.injEq, Prod.mk.injEq] at hev
    obtain ⟨rfl, rfl⟩ := hev
    rw [if_neg hj]
    exact hQ a' c' e1 e2 e3 e4 e5
  ·rename_i r hne
   refine hp c a tm x st' _ hs htr hfl hev ?_
   intro a' c' e1 e2 e3 e4 e5
   have := hQ a' c' e1 e2 e3 e4 e5
   cases x with
   | normal => exact this
   | exit id => exact (hne id st' hev).elim
   | ret => exact this
 | .loop live tr p, code, hchk => by
  cases code <;> try (simp only [chkC, Bool.false_eq_true] at hchk; done)
  rename_i p'
  simp only [chkC] at hchk
  have hp := code_sound hm hfo hcf hfn p p' hchk
  intro c a tm x st' Q hs htr hfl hev hQ
  simp only [evC] at hev
  exact wp_loop_rounds lf (loop_sound hp hs hfl hQ lf c a tm hs (Step.refl _ _) htr rfl hev)
 | .loopV live lx lr t p, code, hchk => by
  cases code <;> try (simp only [chkC, Bool.false_eq_true] at hchk; done)
  rename_i p'
  simp only [chkC] at hchk
  have hp := code_sound hm hfo hcf hfn p p' hchk
  intro c a tm x st' Q hs htr hfl hev hQ
  simp only [evC] at hev
  split at hev
  ·rename_i st1 hown
   obtain ⟨c1, h1, h2, h3, h4, h5⟩ := own_sound hs htr hown
   unfold maskV at hev
   split at hev
   ·rename_i x1 st2 he
    have e6 : st1 = ⟨st1.tmps, c1.H⟩ := by rw [h2]
    rw [e6] at he
    have key : ∀ y, st' = headV lx t fl c.H.length st2 → x1 = y → x = y → (Code.loop p').wp P Q a c.w := by
     intro y e e1 e'
     subst e e1 e'
     rw [← h1]
     refine wp_loop_rounds lf (loop_soundH hp (c0 := c) hfl (fun d tm tv k1 k2 k3 => headV_sound hs k1 k2 hfl k3) ?_ lf c1 a _ h4 h3 h5 rfl he)
     intro a' c' e1 e2 e3 e4 e5
     obtain ⟨c2, g1, g2, g3, g4, g5⟩ := headV_sound (live := lx) (t := t) hs e3 e2 hfl e4
     have e7 : (⟨st2.tmps, c'.H⟩ : St) = st2 := by rw [e1]
     rw [e7] at g2 g5
     have := hQ a' c2 g2 g3 g4 g5 e5
     rwa [g1] at this
    split at hev
    ·simp only [Option.some.injEq, Prod.mk.injEq] at hev
     obtain ⟨rfl, rfl⟩ := hev
     rw [← h1]
     refine wp_loop_rounds lf (loop_soundH hp (c0 := c) hfl (fun d tm tv k1 k2 k3 => headV_sound hs k1 k2 hfl k3) ?_ lf c1 a _ h4 h3 h5 rfl he)
     intro a' c' e1 e2 e3 e4 e5
     exact hQ a' c' e1 e2 e3 (mask_tr lr _ _ e4) e5
    ·simp only [Option.some.injEq, Prod.mk.injEq] at hev
     obtain ⟨rfl, rfl⟩ := hev
     exact key .normal rfl rfl rfl
    ·rename_i i
     simp only [Option.some.injEq, Prod.mk.injEq] at hev
     obtain ⟨rfl, rfl⟩ := hev
     exact key (.exit i) rfl rfl rfl
   ·cases hev
  ·cases hev
 | .exit i, code, hchk => by
  cases code <;> try (simp only [chkC, Bool.false_eq_true] at hchk; done)
  rename_i i'
  simp only [chkC, beq_iff_eq] at hchk
  subst hchk
  intro c a tm x st' Q hs htr hfl hev hQ
  simp only [evC, Option.some.injEq, Prod.mk.injEq] at hev
  obtain ⟨rfl, rfl⟩ := hev
  exact wp_exit (hQ a c rfl (Step.refl _ _) hs htr rfl)
 | .ret, code, hchk => by
  cases code <;> try (simp only [chkC, Bool.false_eq_true] at hchk; done)
  intro c a tm x st' Q hs htr hfl hev hQ
  simp only [evC, Option.some.injEq, Prod.mk.injEq] at hev
  obtain ⟨rfl, rfl⟩ := hev
  exact wp_ret (hQ a c rfl (Step.refl _ _) hs htr rfl)
end
end Go.Proofs.YtmflphfmefakfaaGreatDoor.Av
namespace Go.Proofs.YtmflphfmefakfaaGreatDoor.Av
open Go
section
variable {P : Program} {T : List AFun} {cf : Nat → Nat → List AV → Heap → Option (AV × Heap)} {fl lf : Nat}
theorem evOps_fr [GlobT] (hfo : FlOK cf) : ∀ (l : List AOper) (st st' : St), fl ≤ st.heap.length → evOps P cf fl l st = some st' → Fr fl st.heap st'.heap
 | [], st, st', h, hev => by simp only [evOps] at hev; cases hev; exact .refl h
 | o :: r, st, st', h, hev => by
  simp only [evOps] at hev
  split at hev
  ·rename_i st1 h1
   have k := evOper_fr hfo h h1
   exact k.trans (evOps_fr hfo r st1 st' k.2 hev)
  ·cases hev
theorem headSt_fr [GlobT] {live : Option (List Bool)} {tr : Bool} {n : Nat} {st : St} (h : fl ≤ st.heap.length) (hn : fl ≤ n) : Fr fl st.heap (headSt live tr fl n st).heap := by
 cases tr with
 | false => exact .refl h
 | true =>
  simp only [headSt, if_true]
  refine ⟨?_, by simp; omega⟩
  rw [List.take_append_of_le_length (by simp; omega), List.take_take, Nat.min_self]
theorem headV_fr [GlobT] {live : List Bool} {t n : Nat} {st : St} (h : fl ≤ st.heap.length) (hn : fl ≤ n) : Fr fl st.heap (headV live t fl n st).heap := by
 have hd := headSt_fr (live := some live) (tr := true) h hn
 unfold headV
 split
 ·split
  ·split
   ·refine ⟨?_, by simp; omega⟩
    simp only
    rw [List.append_assoc, List.take_append_of_le_length (by simp; omega), List.take_take, Nat.min_self]
   ·exact hd
  ·exact hd
 ·exact hd
theorem evLoop_fr [GlobT] {head : St → St} {step : St → Option (AExit × St)} (hh : ∀ st, fl ≤ st.heap.length → Fr fl st.heap (head st).heap) (hs : ∀ st x st', fl ≤ st.heap.length → step st = some (x, st') → Fr fl st.heap st'.heap) :
  ∀ (n : Nat) (st : St) (x : AExit) (st' : St), fl ≤ st.heap.length → evLoop head step n st = some (x, st') → Fr fl st.heap st'.heap
 | 0, _, _, _, _, h => by cases h
 | n + 1, st, x, st', h, hev => by
  simp only [evLoop] at hev
  have k1 := hh st h
  split at hev
  ·rename_i st2 he
   have k2 := hs _ _ _ k1.2 he
   exact (k1.trans k2).trans (evLoop_fr hh hs n st2 x st' k2.2 hev)
  ·exact k1.trans (hs _ _ _ k1.2 hev)
theorem evC_fr [GlobT] (hfo : FlOK cf) : ∀ (c : ACode) (st : St) (x : AExit) (st' : St), fl ≤ st.heap.length → evC P cf lf fl c st = some (x, st') → Fr fl st.heap st'.heap
 | .skip, st, x, st', h, hev => by simp only [evC] at hev; cases hev; exact .refl h
 | .exit _, st, x, st', h, hev => by simp only [evC] at hev; cases hev; exact .refl h
 | .ret, st, x, st', h, hev => by simp only [evC] at hev; cases hev; exact .refl h
 | .stop, st, x, st', h, hev => by simp only [evC] at hev; cases hev
 | .region _ ck ops, st, x, st', h, hev => by
  simp only [evC] at hev
  split at hev
  ·rename_i st1 he
   cases hev
   exact evOps_fr hfo ops st _ h (evReg_ops he)
  ·cases hev
 | .seq a b, st, x, st', h, hev => by
  simp only [evC] at hev
  split at hev
  ·rename_i st1 he
   have k := evC_fr hfo a st _ st1 h he
   exact k.trans (evC_fr hfo b st1 x st' k.2 hev)
  ·exact evC_fr hfo a st x st' h hev
 | .cond c a b, st, x, st', h, hev => by
  simp only [evC] at hev
  split at hev
  ·exact evC_fr hfo a st x st' h hev
  ·exact evC_fr hfo b st x st' h hev
  ·cases hev
 | .block id c, st, x, st', h, hev => by
  simp only [evC] at hev
  split at hev
  ·rename_i i st1 he
   have k := evC_fr hfo c st _ st1 h he
   split at hev <;> cases hev <;> exact k
  ·exact evC_fr hfo c st x st' h hev
 | .loop live tr c, st, x, st', h, hev => by
  simp only [evC] at hev
  exact evLoop_fr (fun st k => headSt_fr k h) (fun st x st' k he => evC_fr hfo c st x st' k he) lf st x st' h hev
 | .frz t c, st, x, st', h, hev => by
  simp only [evC] at hev
  split at hev
  ·rename_i v H he
   have k := evOp_fr hfo h he
   exact k.trans (evC_fr hfo c _ x st' k.2 hev)
  ·cases hev
 | .mask lx lr tr c, st, x, st', h, hev => by
  simp only [evC, maskR] at hev
  split at hev
  ·rename_i x1 st1 he
   have k := evC_fr hfo c st _ st1 h he
   split at hev
   ·cases hev; exact k
   ·cases hev; exact k.trans (headSt_fr k.2 h)
   ·cases hev; exact k.trans (headSt_fr k.2 h)
  ·cases hev
 | .scope c, st, x, st', h, hev => by
  simp only [evC] at hev
  exact evC_fr hfo c st x st' h hev
 | .nilIf t d0 d1 a b, st, x, st', h, hev => by
  simp only [evC] at hev
  split at hev
  ·split at hev
   ·unfold notNormal at hev
    split at hev
    ·rename_i x1 s1 he
     split at hev
     ·cases hev
     ·cases hev
      exact evC_fr hfo a ⟨nilTm st.tmps t d0 d1 true, st.heap⟩ _ _ h he
    ·cases hev
   ·exact evC_fr hfo b ⟨nilTm st.tmps t d0 d1 false, st.heap⟩ _ _ h hev
   ·split at hev
    ·unfold joinR at hev
     split at hev
     ·split at hev
      ·cases hev; exact .refl h
      ·cases hev
     ·cases hev
    ·cases hev
   ·cases hev
  ·cases hev
 | .loopV live lx lr t c, st, x, st', h, hev => by
  simp only [evC] at hev
  split at hev
  ·rename_i st1 hown
   have k1 : Fr fl st.heap st1.heap := by
    unfold ownSt at hown
    split at hown
    ·split at hown
     ·rename_i hi
      split at hown
      ·split at hown
       ·cases hown
        exact (Fr.set h hi).trans (.app (Fr.set h hi).2)
       ·cases hown
      ·cases hown
     ·cases hown
    ·cases hown
   unfold maskV at hev
   split at hev
   ·rename_i x1 st2 he
    have k2 := evLoop_fr (fun st k => headV_fr k h) (fun st x st' k he => evC_fr hfo c st x st' k he) lf st1 _ st2 k1.2 he
    have k := k1.trans k2
    split at hev
    ·cases hev; exact k
    ·cases hev; exact k.trans (headV_fr k.2 h)
    ·cases hev; exact k.trans (headV_fr k.2 h)
   ·cases hev
  ·cases hev
end
theorem evF_fl [GlobT] (P : Program) (T : List AFun) (hp : FlOK primF) : ∀ n, FlOK (evF P T n)
 | 0 => fun _ _ _ _ _ _ _ h => by cases h
 | n + 1 => fun fl vi args H r H' h hev => by
  simp only [evF] at hev
  split at hev
  ·rename_i g hg
   exact hp fl vi args H r H' h (by simp only [primF, hg]; exact hev)
  ·split at hev
   ·cases hev
   split at hev
   ·rename_i st he
    split at hev
    ·cases hev; exact evC_fr (evF_fl P T hp n) _ _ _ _ h he
    ·cases hev
   ·rename_i st he
    split at hev
    ·cases hev; exact evC_fr (evF_fl P T hp n) _ _ _ _ h he
    ·cases hev
   ·cases hev
end Go.Proofs.YtmflphfmefakfaaGreatDoor.Av
namespace Go.Proofs.YtmflphfmefakfaaGreatDoor.Av
open Go
section
variable {P : Program} {T : List AFun}
theorem retsA_run [GlobT] {c : Ctx} {tv : Array Value} {st : St} (hs : Sim (ftOf T) c) (hH : c.H = st.heap) (htr : TR (ftOf T) c st.tmps tv) : ∀ (rs : List ARes) (qs : List ResultVar) (vs : List AV), chkRes P rs qs = true → retsA st rs = some vs →
  ∃ us : List Value, us.length = vs.length ∧ (∀ (i : Nat) (x : AV), vs[i]? = some x → ∃ u, us[i]? = some u ∧ RV (ftOf T) c x u) ∧
   (qs.mapM (fun
    | .tmp t => pure (tv.getD t undef)
    | .cell a t => do loadVar t (← asAddr (tv.getD a undef)) : ResultVar → Sem Value)).run P c.w = .ok us c.w
 | [], [], vs, _, h => by
  simp only [retsA, Option.some.injEq] at h
  subst h
  exact ⟨[], rfl, fun i x hx => by simp at hx, by simp⟩
 | .tmp t :: r, q :: s, vs, hc, h => by
  cases q with
  | cell a ty => simp [chkRes] at hc
  | tmp u =>
   simp only [chkRes, Bool.and_eq_true, beq_iff_eq] at hc
   obtain ⟨rfl, hc⟩ := hc
   simp only [retsA, evRet] at h
   split at h
   ·rename_i vs' hvs
    cases h
    obtain ⟨us, h1, h2, h3⟩ := retsA_run hs hH htr r s vs' hc hvs
    have hr := getOpd_rv (a := ⟨tv, []⟩) hs htr (x := .tmp t) (y := .tmp t) (by simp [chkOpd])
    refine ⟨tv.getD t undef :: us, by simp [h1], fun i x hx => ?_, ?_⟩
    ·cases i with
     | zero =>
      simp only [List.getElem?_cons_zero, Option.some.injEq] at hx
      subst hx
      exact ⟨tv.getD t undef, by rw [List.getElem?_cons_zero], hr⟩
     | succ i =>
      simp only [List.getElem?_cons_succ] at hx ⊢
      exact h2 i x hx
    ·rw [List.mapM_cons]
     simp only [Sem.run_bind, Sem.run_pure, Result.andThen_ok, h3]
   ·cases h
 | .cell t n agg :: r, q :: s, vs, hc, h => by
  cases q with
  | tmp u => simp [chkRes] at hc
  | cell u ty =>
   simp only [chkRes, Bool.and_eq_true, beq_iff_eq] at hc
   obtain ⟨⟨⟨⟨rfl, c1⟩, c2⟩, c3⟩, hc⟩ := hc
   simp only [retsA] at h
   split at h
   ·rename_i v hv
    split at h
    ·rename_i vs' hvs
     cases h
     obtain ⟨us, h1, h2, h3⟩ := retsA_run hs hH htr r s vs' hc hvs
     have hr := getOpd_rv (a := ⟨tv, []⟩) hs htr (x := .tmp t) (y := .tmp t) (by simp [chkOpd])
     have hload : ∃ u, (do loadVar ty (← asAddr (tv.getD t undef)) : Sem Value).run P c.w = .ok u c.w ∧ RV (ftOf T) c v u := by
      simp only [evRet] at hv
      split at hv
      ·rename_i cs hcs
       rw [← hH] at hcs
       obtain ⟨ad, ws, hp, hn, hca⟩ := ldCells_rv hs hr hcs
       have hp' : tv.getD t undef = .pointer (some ad) := hp
       cases agg with
       | true =>
        simp only [if_true, Option.some.injEq] at hv
        subst hv
        exact ⟨_, by simp only [hp', asAddr, Sem.run_bind, Sem.run_pure, Result.andThen_ok, run_loadVar_at hca hn c2 c1 rfl], rv_agg_cells hca⟩
       | false =>
        simp only [Bool.false_eq_true, if_false] at hv
        split at hv
        ·cases hv
         obtain ⟨u, g1, g2, g3⟩ := hca.2.2 0 v (by simp)
         have hcell := hca.2.1 0 u g1
         have e0 : ad.add 0 = ad := by simp [Addr.add]
         rw [e0] at hcell
         exact ⟨u, by simp only [hp', asAddr, Sem.run_bind, Sem.run_pure, Result.andThen_ok, run_loadVar_one hcell c2], g3⟩
        ·cases hv
      ·cases hv
     obtain ⟨u, k1, k2⟩ := hload
     refine ⟨u :: us, by simp [h1], fun i x hx => ?_, ?_⟩
     ·cases i with
      | zero =>
       simp only [List.getElem?_cons_zero, Option.some.injEq] at hx
       subst hx
       exact ⟨u, by simp, k2⟩
      | succ i =>
       simp only [List.getElem?_cons_succ] at hx ⊢
       exact h2 i x hx
     ·rw [List.mapM_cons]
      simp only [Sem.run_bind, Sem.run_pure, Result.andThen_ok, h3] at k1 ⊢
      rw [k1]
      simp only [Result.andThen_ok, h3]
    ·cases h
   ·cases h
 | [], _ :: _, _, hc, _ => by cases hc
 | .tmp _ :: _, [], _, hc, _ => by cases hc
 | .cell _ _ _ :: _, [], _, hc, _ => by cases hc
theorem results_run [GlobT] {c : Ctx} {tv : Array Value} {st : St} {fn : Func} {rs : List ARes} {vs : List AV} (hs : Sim (ftOf T) c) (hH : c.H = st.heap) (htr : TR (ftOf T) c st.tmps tv) (hc : chkRes P rs fn.results.toList = true) (h : retsA st rs = some vs) :
  ∃ v, (results fn tv).run P c.w = .ok v c.w ∧ RV (ftOf T) c (packA vs) v := by
 obtain ⟨us, h1, h2, h3⟩ := retsA_run hs hH htr rs fn.results.toList vs hc h
 refine ⟨if hh : us.toArray.size = 1 then us.toArray[0] else .tuple us.toArray, ?_, ?_⟩
 ·unfold results
  rw [Array.mapM_eq_mapM_toList]
  simp only [Sem.run_bind, Sem.run_map, Sem.run_pure]
  refine Eq.trans (congrArg (fun r => (Result.andThen (Result.andThen r _) _)) (Eq.trans ?_ h3)) rfl
  congr 2
 ·unfold packA
  split
  ·rename_i v
   have hl : us.length = 1 := by simpa using h1
   obtain ⟨u, g1, g2⟩ := h2 0 v (by simp)
   have hsz : us.toArray.size = 1 := by simpa using hl
   rw [dif_pos hsz]
   have : us.toArray[0] = u := by
    have : us.toArray[0]? = some u := by simpa using g1
    rw [Array.getElem?_eq_getElem (by omega)] at this
    exact Option.some.inj this
   rw [this]; exact g2
  ·rename_i hne
   have hsz : ¬ us.toArray.size = 1 := by
    intro e
    have hl : vs.length = 1 := by rw [← h1]; simpa using e
    match vs, hl with
    | [v], _ => exact hne v rfl
   rw [dif_neg hsz]
   refine .tup vs us.toArray (fun i => (us[i]?).getD undefV) (by simpa using h1) ?_ ?_
   ·intro i x hx
    obtain ⟨u, g1, _⟩ := h2 i x hx
    simp [g1]
   ·intro i x hx
    obtain ⟨u, g1, g2⟩ := h2 i x hx
    simpa [g1] using g2
theorem chkAll_get [GlobT] : ∀ {L : List AFun}, chkAll P T L = true → ∀ F ∈ L, chkFun P T F = true
 | [], _, F, h => by cases h
 | G :: r, hc, F, h => by
  simp only [chkAll, Bool.and_eq_true] at hc
  rcases List.mem_cons.1 h with rfl | h
  ·exact hc.1
  ·exact chkAll_get hc.2 F h
theorem chkFun_spec {F : AFun} (h : chkFun P T F = true) : ∃ fn code, P.funcs[F.fid]? = some fn ∧ fn.body = some code ∧ chkC P T F.body code = true ∧ fn.ntmps = F.nt ∧ chkRes P F.rets fn.results.toList = true ∧ (fn.name == "runtime.NumGoroutine") = false := by
 unfold chkFun at h
 split at h
 ·rename_i fn hf
  split at h
  ·rename_i code hb
   simp only [Bool.and_eq_true, beq_iff_eq, Bool.not_eq_true'] at h
   exact ⟨fn, code, hf, hb, h.1.1.1, h.1.1.2, h.1.2, h.2⟩
  ·cases h
 ·cases h
def Checked (P : Program) (T : List AFun) : Prop := ∀ F ∈ T, chkFun P T F = true
theorem fnsOK_of [GlobT] (h : Checked P T) : FnsOK P T := by
 intro vi f hf
 unfold ftOf at hf
 split at hf
 ·rename_i F hF
  cases hf
  obtain ⟨fn, code, h1, h2, _, _, _, h6⟩ := chkFun_spec (h F (List.mem_of_getElem? hF))
  exact ⟨fn, h1, by simp [h2], h6⟩
 ·cases hf
structure PrimOK [GlobT] (P : Program) (T : List AFun) : Prop where
 fl : FlOK primF
 ok : CfOK P T primF
theorem primOK_none [GlobT] (h : ∀ vi, GlobT.prim vi = none) : PrimOK P T where
 fl := fun fl vi args H r H' _ hev => by simp only [primF, h vi] at hev; cases hev
 ok := fun fl vi f args r H' c vs hev => by simp only [primF, h vi] at hev; cases hev
theorem evF_sound [GlobT] (hm : P.follows .mixedOrders = true) (hT : Checked P T) (hp : PrimOK P T) : ∀ n, CfOK P T (evF P T n)
 | 0 => by
  intro fl vi f args r H' c vs hev
  cases hev
 | n + 1 => by
  have ih := evF_sound hm hT hp n
  intro fl vi f args r H' c vs hev hf hs hfl hargs
  simp only [evF] at hev
  split at hev
  ·rename_i g hg
   exact hp.ok fl vi f args r H' c vs (by simp only [primF, hg]; exact hev) hf hs hfl hargs
  split at hev
  ·cases hev
  ·rename_i F hF
   have hff : f = F.fid := by
    unfold ftOf at hf
    rw [hF] at hf
    exact (Option.some.inj hf).symm
   subst hff
   obtain ⟨fn, code, h1, h2, h3, h4, h5, _⟩ := chkFun_spec (hT F (List.mem_of_getElem? hF))
   refine calls_of_wp h1 h2 ?_
   have htr : TR (ftOf T) c (args ++ List.replicate (F.nt - args.length) (.lit undefV)) (vs ++ Array.replicate (fn.ntmps - vs.size) undef) := by
    refine ⟨by simp [hargs.1, h4], fun t x hx => ?_⟩
    rw [List.getElem?_append] at hx
    rw [Array.getElem?_append, hargs.1]
    split at hx
    ·rename_i ht
     rw [if_pos ht]
     exact hargs.2 t x hx
    ·rename_i ht
     rw [if_neg ht]
     rw [List.getElem?_replicate] at hx
     split at hx
     ·rename_i hlt
      cases hx
      refine ⟨undef, ?_, RV.lit _⟩
      rw [Array.getElem?_replicate, if_pos (by rw [h4]; exact hlt)]
     ·cases hx
   have hbody := code_sound (fl := fl) (lf := n) hm (evF_fl P T hp.fl n) ih (fnsOK_of hT) F.body code h3
   have fin : ∀ (x : AExit) (st : St), (x = .normal ∨ x = .ret) → evC P (evF P T n) n fl F.body ⟨args ++ List.replicate (F.nt - args.length) (.lit undefV), c.H⟩ = some (x, st) →
     (match retsA st F.rets with | some us => some (packA us, st.heap) | none => none) = some (r, H') →
     code.wp P (bodyPost P fn fun e w' => ∃ v c', e = .returned v ∧ c'.w = w' ∧ c'.H = H' ∧ c'.X = c.X ∧ Step fl c c' ∧ Sim (ftOf T) c' ∧ RV (ftOf T) c' r v)
      { tmps := vs ++ Array.replicate (fn.ntmps - vs.size) undef, defers := [] } c.w := by
    intro x st hx he hr
    split at hr
    ·rename_i us hus
     simp only [Option.some.injEq, Prod.mk.injEq] at hr
     obtain ⟨rfl, rfl⟩ := hr
     refine hbody c _ _ x st _ hs htr hfl he ?_
     intro a' c' e1 e2 e3 e4 e5
     obtain ⟨v, k1, k2⟩ := results_run (fn := fn) e3 e1 e4 h5 hus
     rcases hx with rfl | rfl
     ·exact ⟨e5, v, k1, v, c', rfl, rfl, e1, e2.X, e2, e3, k2⟩
     ·exact ⟨e5, v, k1, v, c', rfl, rfl, e1, e2.X, e2, e3, k2⟩
    ·cases hr
   split at hev
   ·rename_i st he
    exact fin .normal st (.inl rfl) he hev
   ·rename_i st he
    exact fin .ret st (.inr rfl) he hev
   ·cases hev
end
end Go.Proofs.YtmflphfmefakfaaGreatDoor.Av
