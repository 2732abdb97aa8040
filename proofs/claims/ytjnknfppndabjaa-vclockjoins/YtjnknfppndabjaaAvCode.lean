/- A part of the proof of VclockJoinsSaid: an evaluator of the program, proved sound, and what it says. -/
import Derived.Test.YtjnknfppndabjaaAvDraw2
namespace Go.Proofs.Ytjnknfppndabjaa.Av
open Go

section
variable {FT : Nat → Option Nat}

theorem mask_tr {c : Ctx} : ∀ (l : List Bool) (tm : List AV) (tv : Array Value), TR FT c tm tv → TR FT c (maskL l tm) tv := by
  intro l tm tv h
  have key : ∀ (l : List Bool) (tm : List AV), (maskL l tm).length = tm.length ∧ ∀ (t : Nat) (x : AV), (maskL l tm)[t]? = some x → x = .undef ∨ tm[t]? = some x := by
    intro l
    induction l with
    | nil =>
      intro tm
      cases tm with
      | nil => exact ⟨rfl, fun t x hx => by simp [maskL] at hx⟩
      | cons v vs =>
        refine ⟨by simp [maskL], fun t x hx => ?_⟩
        simp only [maskL, List.getElem?_map, Option.map_eq_some_iff] at hx
        obtain ⟨_, _, rfl⟩ := hx
        exact .inl rfl
    | cons b bs ih =>
      intro tm
      cases tm with
      | nil => exact ⟨rfl, fun t x hx => by simp [maskL] at hx⟩
      | cons v vs =>
        obtain ⟨h1, h2⟩ := ih vs
        refine ⟨by simp [maskL, h1], fun t x hx => ?_⟩
        cases t with
        | zero =>
          simp only [maskL, List.getElem?_cons_zero, Option.some.injEq] at hx ⊢
          split at hx
          · exact .inr hx
          · exact .inl hx.symm
        | succ t =>
          simp only [maskL, List.getElem?_cons_succ] at hx ⊢
          exact h2 t x hx
  obtain ⟨h1, h2⟩ := key l tm
  refine ⟨h1.trans h.1, fun t x hx => ?_⟩
  rcases h2 t x hx with rfl | h3
  · have hlt : t < tv.size := by rw [← h.1, ← h1]; exact (List.getElem?_eq_some_iff.1 hx).1
    exact ⟨tv[t], by simp, RV.undef _⟩
  · exact h.2 t x h3

/-- The context behind a truncation. -/
structure Sub (n : Nat) (c c' : Ctx) : Prop where
  w : c'.w = c.w
  X : c'.X = c.X
  lo : ∀ id, id < n → c'.β id = c.β id
  hi : ∀ id, n ≤ id → c'.β id = none
  shp : ∀ id, id < n → shp c'.H id = shp c.H id
  mp : ∀ id, id < n → isMap c.H id → isMap c'.H id

theorem Sub.imm {n : Nat} {c c' : Ctx} (h : Sub n c c') {b : Nat} (hi : Imm c b) : Imm c' b := by
  refine ⟨by rw [h.X]; exact hi.1, fun id hid => ?_⟩
  by_cases hn : id < n
  · rw [h.lo id hn] at hid; exact hi.2 id hid
  · rw [h.hi id (by omega)] at hid; cases hid

theorem Sub.rp {n : Nat} {c c' : Ctx} (h : Sub n c c') {x : AV} {v : Value} (hr : RP c.w (Imm c) x v) : RP c'.w (Imm c') x v :=
  hr.mono fun b o hi hb => ⟨h.imm hi, by rw [h.w]; exact hb⟩

theorem clean1_rv {n : Nat} {c c' : Ctx} (h : Sub n c c') {x : AV} {v : Value} (hr : RV FT c x v) : RV FT c' (clean1 n x) v := by
  cases hr with
  | pure _ _ hp =>
    have hp' := h.rp hp
    cases hp' with
    | undef v => exact .pure _ _ (.undef v)
    | lit v => exact .pure _ _ (.lit v)
    | nil f a cap hf => exact .pure _ _ (.nil f a cap hf)
    | sl f es b off cap cc T fz s vals h1 h2 h3 h4 h5 h6 h7 h8 => exact .pure _ _ (.sl f es b off cap cc T fz s vals h1 h2 h3 h4 h5 h6 h7 h8)
  | ms id tot off len a cap s m g1 g2 g3 g4 =>
    simp only [clean1]
    split
    · rename_i hid
      refine .ms id tot off len a cap s m ((h.shp id hid).trans g1) g2 g3 fun e => ?_
      obtain ⟨m1, m2⟩ := g4 e
      refine ⟨m1, ?_⟩
      rcases m2 with ⟨m3, m4, m5, m6⟩ | ⟨b, cs, T, a', m3, m4, m5, m6, m7⟩
      · exact .inl ⟨(h.lo id hid).trans m3, m4, m5, m6⟩
      · exact .inr ⟨b, cs, T, a', (h.lo id hid).trans m3, by rw [h.w]; exact m4, m5, m6, m7⟩
    · exact RV.undef _
  | ptr id tot idx off a s m g1 g2 g3 =>
    simp only [clean1]
    split
    · rename_i hid
      refine .ptr id tot idx off a s m ((h.shp id hid).trans g1) g2 fun e => ?_
      obtain ⟨b, hb, ha⟩ := g3 e
      exact ⟨b, (h.lo id hid).trans hb, ha⟩
    · exact RV.undef _
  | rptr cs b off cc T fz vals g1 g2 g3 g4 =>
    exact .rptr cs b off cc T fz vals (h.imm g1) (by rw [h.w]; exact g2) g3 fun j x hx => h.rp (g4 j x hx)
  | mp id b g1 g2 =>
    simp only [clean1]
    split
    · rename_i hid
      exact .mp id b (h.mp id hid g1) ((h.lo id hid).trans g2)
    · exact RV.undef _
  | fn vi f caps cv vals g1 g2 g3 g4 =>
    cases caps with
    | nil => exact .fn vi f [] cv vals g1 g2 g3 (fun i x hx => by simp at hx)
    | cons _ _ => exact RV.undef _
  | agg => exact RV.undef _
  | tup => exact RV.undef _

theorem clean2_rv {n : Nat} {c c' : Ctx} (h : Sub n c c') {x : AV} {v : Value} (hr : RV FT c x v) : RV FT c' (clean2 n x) v := by
  unfold clean2
  split
  · rename_i cs
    obtain ⟨cv, vals, rfl, g1, g2, g3⟩ := hr.agg_inv
    refine .agg _ cv vals (by simpa using g1) ?_ ?_
    · intro i x hx
      simp only [List.getElem?_map, Option.map_eq_some_iff] at hx
      obtain ⟨y, hy, rfl⟩ := hx
      exact g2 i y hy
    · intro i x hx
      simp only [List.getElem?_map, Option.map_eq_some_iff] at hx
      obtain ⟨y, hy, rfl⟩ := hx
      exact clean1_rv h (g3 i y hy)
  · exact clean1_rv h hr

theorem clean3_rv {n : Nat} {c c' : Ctx} (h : Sub n c c') {x : AV} {v : Value} (hr : RV FT c x v) : RV FT c' (clean3 n x) v := by
  unfold clean3
  split
  · rename_i cs
    obtain ⟨cv, vals, rfl, g1, g2, g3⟩ := hr.tup_inv
    refine .tup _ cv vals (by simpa using g1) ?_ ?_
    · intro i x hx
      simp only [List.getElem?_map, Option.map_eq_some_iff] at hx
      obtain ⟨y, hy, rfl⟩ := hx
      exact g2 i y hy
    · intro i x hx
      simp only [List.getElem?_map, Option.map_eq_some_iff] at hx
      obtain ⟨y, hy, rfl⟩ := hx
      exact clean2_rv h (g3 i y hy)
  · exact clean2_rv h hr

def truncC (fl n : Nat) (c : Ctx) : Ctx :=
  ⟨c.w, c.X, fun id => if id < n then c.β id else none, c.H.take fl ++ ((c.H.take n).drop fl).map (cleanObj n)⟩

theorem trunc_get {fl n : Nat} {c : Ctx} (hfn : fl ≤ n) (hn : n ≤ c.H.length) (id : Nat) :
    (truncC fl n c).H[id]? = if id < fl then c.H[id]? else if id < n then (c.H[id]?).map (cleanObj n) else none := by
  simp only [truncC]
  rw [List.getElem?_append]
  simp only [List.length_take, Nat.min_eq_left (Nat.le_trans hfn hn)]
  split
  · rename_i h
    rw [List.getElem?_take, if_pos h]
  · rename_i h
    rw [List.getElem?_map, List.getElem?_drop, List.getElem?_take]
    have e : fl + (id - fl) = id := by omega
    rw [e]
    split <;> rfl

theorem trunc_length {fl n : Nat} {c : Ctx} (hfn : fl ≤ n) (hn : n ≤ c.H.length) : (truncC fl n c).H.length = n := by
  simp only [truncC, List.length_append, List.length_take, List.length_map, List.length_drop]; omega

theorem trunc_sub {fl n : Nat} {c : Ctx} (hfn : fl ≤ n) (hn : n ≤ c.H.length) : Sub n c (truncC fl n c) where
  w := rfl
  X := rfl
  lo := fun id hid => by simp [truncC, hid]
  hi := fun id hid => by simp only [truncC]; rw [if_neg (by omega)]
  shp := fun id hid => by
    have hg := trunc_get hfn hn id
    unfold shp
    rw [hg]
    by_cases h : id < fl
    · rw [if_pos h]
    · rw [if_neg h, if_pos hid]
      cases c.H[id]? with
      | none => rfl
      | some o => cases o <;> simp [cleanObj]
  mp := fun id hid hm => by
    obtain ⟨ents, he⟩ := hm
    simp only [isMap, trunc_get hfn hn, he]
    split
    · exact ⟨ents, rfl⟩
    · exact ⟨ents.map fun e => (e.1, clean2 n e.2), by simp [hid, cleanObj]⟩

theorem trunc_step {fl : Nat} {c0 c : Ctx} (hs0 : Sim FT c0) (h : Step fl c0 c) (hfl : fl ≤ c0.H.length) : Step fl c0 (truncC fl c0.H.length c) := by
  have hsub := trunc_sub hfl h.len
  have hget := trunc_get hfl h.len
  have hlt : ∀ id r, shp c0.H id = some r → id < c0.H.length := fun id r hr => by
    rcases Nat.lt_or_ge id c0.H.length with h' | h'
    · exact h'
    · simp [shp, List.getElem?_eq_none h'] at hr
  refine ⟨h.X, h.os, h.tape, h.output, h.size, by rw [trunc_length hfl h.len]; exact Nat.le_refl _, h.frame, ?_, ?_, ?_, ?_⟩
  · intro id b hb
    simp only [truncC] at hb
    split at hb
    · exact h.img id b hb
    · cases hb
  · intro id s n hs
    obtain ⟨n', h1, h2, h3⟩ := h.blkS id s n hs
    have hid := hlt id _ hs
    exact ⟨n', (hsub.shp id hid).trans h1, h2, fun e => ⟨(hsub.lo id hid).trans (h3 e).1, (h3 e).2⟩⟩
  · intro id hm
    have hid : id < c0.H.length := by
      obtain ⟨ents, he⟩ := hm
      rcases Nat.lt_or_ge id c0.H.length with h' | h'
      · exact h'
      · rw [List.getElem?_eq_none h'] at he; cases he
    obtain ⟨h1, h2⟩ := h.mpS id hm
    exact ⟨hsub.mp id hid h1, (hsub.lo id hid).trans h2⟩
  · intro id hid
    obtain ⟨h1, h2, h3⟩ := h.floor id hid
    exact ⟨by rw [hget, if_pos hid]; exact h1, (hsub.lo id (by omega)).trans h2, h3⟩

theorem trunc_sim {fl : Nat} {c0 c : Ctx} (hs0 : Sim FT c0) (hs : Sim FT c) (h : Step fl c0 c) (hfl : fl ≤ c0.H.length) : Sim FT (truncC fl c0.H.length c) := by
  have hsub := trunc_sub hfl h.len
  have hget := trunc_get hfl h.len
  have hst := trunc_step hs0 h hfl
  have hβ : ∀ id b, (truncC fl c0.H.length c).β id = some b → id < c0.H.length ∧ c.β id = some b := by
    intro id b hb
    simp only [truncC] at hb
    split at hb
    · exact ⟨by assumption, hb⟩
    · cases hb
  refine ⟨?_, ?_, ?_, hs.fresh, ?_, ?_, ?_⟩
  · intro i j b hi hj
    exact hs.inj i j b (hβ i b hi).2 (hβ j b hj).2
  · intro id b hb
    rw [trunc_length hfl h.len]; exact (hβ id b hb).1
  · intro id b hb
    exact hs.nx id b (hβ id b hb).2
  · intro id s es ho
    rw [hget] at ho
    split at ho
    · exact hs.lens id s es ho
    · split at ho
      · simp only [Option.map_eq_some_iff] at ho
        obtain ⟨o, ho1, ho2⟩ := ho
        cases o with
        | blk s' es' =>
          simp only [cleanObj, AObj.blk.injEq] at ho2
          obtain ⟨rfl, rfl⟩ := ho2
          intro e he
          simp only [List.mem_map] at he
          obtain ⟨e0, h0, rfl⟩ := he
          simpa using hs.lens id s' es' ho1 e0 h0
        | mp ents => simp [cleanObj] at ho2
      · cases ho
  · intro id s es b ho hb
    obtain ⟨hid, hb'⟩ := hβ id b hb
    rw [hget] at ho
    split at ho
    · rename_i hlo
      obtain ⟨f1, f2, f3⟩ := h.floor id hlo
      rw [f1] at ho
      rw [f2] at hb'
      obtain ⟨cs, T, g1, g2, g3⟩ := hs0.blk id s es b ho hb'
      exact ⟨cs, T, (f3 b hb').trans g1, g2, fun i j x hx => let ⟨v, k1, k2, k3⟩ := g3 i j x hx; ⟨v, k1, k2, k3.step hst⟩⟩
    · simp only [Option.map_eq_some_iff] at ho
      obtain ⟨o, ho1, ho2⟩ := ho
      cases o with
      | blk s' es' =>
        simp only [cleanObj, AObj.blk.injEq] at ho2
        obtain ⟨rfl, rfl⟩ := ho2
        obtain ⟨cs, T, g1, g2, g3⟩ := hs.blk id s' es' b ho1 hb'
        refine ⟨cs, T, g1, by simpa using g2, fun i j x hx => ?_⟩
        obtain ⟨y, hy, rfl⟩ := cellE_map hx
        obtain ⟨v, k1, k2, k3⟩ := g3 i j y hy
        exact ⟨v, k1, k2, clean1_rv hsub k3⟩
      | mp ents => simp [cleanObj] at ho2
  · intro id ents b ho hb
    obtain ⟨hid, hb'⟩ := hβ id b hb
    rw [hget] at ho
    split at ho
    · rename_i hlo
      obtain ⟨f1, f2, f3⟩ := h.floor id hlo
      rw [f1] at ho
      rw [f2] at hb'
      obtain ⟨es, clk, g1, g2, g3⟩ := hs0.map id ents b ho hb'
      exact ⟨es, clk, (f3 b hb').trans g1, g2, fun i k x hx => let ⟨e, k1, k2, k3⟩ := g3 i k x hx; ⟨e, k1, k2, k3.step hst⟩⟩
    · simp only [Option.map_eq_some_iff] at ho
      obtain ⟨o, ho1, ho2⟩ := ho
      cases o with
      | blk s' es' => simp [cleanObj] at ho2
      | mp ents' =>
        simp only [cleanObj, AObj.mp.injEq] at ho2
        subst ho2
        obtain ⟨es, clk, g1, g2, g3⟩ := hs.map id ents' b ho1 hb'
        refine ⟨es, clk, g1, by simpa using g2, fun i k x hx => ?_⟩
        simp only [List.getElem?_map, Option.map_eq_some_iff] at hx
        obtain ⟨⟨k0, y⟩, hy, he⟩ := hx
        simp only [Prod.mk.injEq] at he
        obtain ⟨rfl, rfl⟩ := he
        obtain ⟨e, k1, k2, k3⟩ := g3 i k0 y hy
        exact ⟨e, k1, k2, clean2_rv hsub k3⟩

/-- The head of a round. -/
theorem head_sound {fl : Nat} {live : Option (List Bool)} {tr : Bool} {c0 c : Ctx} {tm : List AV} {tv : Array Value} (hs0 : Sim FT c0) (hs : Sim FT c) (h : Step fl c0 c) (hfl : fl ≤ c0.H.length) (htr : TR FT c tm tv) :
    ∃ c', c'.w = c.w ∧ c'.H = (headSt live tr fl c0.H.length ⟨tm, c.H⟩).heap ∧ Step fl c0 c' ∧ Sim FT c' ∧ TR FT c' (headSt live tr fl c0.H.length ⟨tm, c.H⟩).tmps tv := by
  have htm : TR FT c (maskO live tm) tv := by
    cases live with
    | none => exact htr
    | some l => exact mask_tr l tm tv htr
  cases tr with
  | false => exact ⟨c, rfl, by simp [headSt], h, hs, by simpa [headSt] using htm⟩
  | true =>
    refine ⟨truncC fl c0.H.length c, rfl, by simp [headSt, truncC], trunc_step hs0 h hfl, trunc_sim hs0 hs h hfl, ?_⟩
    simp only [headSt, if_true]
    refine ⟨by simpa using htm.1, fun t x hx => ?_⟩
    simp only [List.getElem?_map, Option.map_eq_some_iff] at hx
    obtain ⟨y, hy, rfl⟩ := hx
    obtain ⟨v, g1, g2⟩ := htm.2 t y hy
    exact ⟨v, g1, clean3_rv (trunc_sub hfl h.len) g2⟩

end

section
variable {P : Program} {T : List AFun} {cf : Nat → Nat → List AV → Heap → Option (AV × Heap)} {fl lf : Nat}

def exitOf : AExit → Exit
  | .normal => .normal
  | .exit id => .exit id
  | .ret => .ret

def CodeOK (P : Program) (T : List AFun) (fl : Nat) (ev : St → Option (AExit × St)) (code : Code) : Prop :=
  ∀ (c : Ctx) (a : Act) (tm : List AV) (x : AExit) (st' : St) (Q : Exit → Act → World → Prop), Sim (ftOf T) c → TR (ftOf T) c tm a.tmps → fl ≤ c.H.length → ev ⟨tm, c.H⟩ = some (x, st') →
    (∀ a' c', c'.H = st'.heap → Step fl c c' → Sim (ftOf T) c' → TR (ftOf T) c' st'.tmps a'.tmps → a'.defers = a.defers → Q (exitOf x) a' c'.w) → code.wp P Q a c.w

theorem loop_sound {code : Code} {step : St → Option (AExit × St)} {live : Option (List Bool)} {tr : Bool} (hstep : CodeOK P T fl step code) {c0 : Ctx} (hs0 : Sim (ftOf T) c0) (hfl : fl ≤ c0.H.length) {ds : List Deferred} {x : AExit} {st' : St} {Q : Exit → Act → World → Prop}
    (hQ : ∀ a' c', c'.H = st'.heap → Step fl c0 c' → Sim (ftOf T) c' → TR (ftOf T) c' st'.tmps a'.tmps → a'.defers = ds → Q (exitOf x) a' c'.w) :
    ∀ (n : Nat) (c : Ctx) (a : Act) (tm : List AV), Sim (ftOf T) c → Step fl c0 c → TR (ftOf T) c tm a.tmps → a.defers = ds → evLoop (headSt live tr fl c0.H.length) step n ⟨tm, c.H⟩ = some (x, st') → Code.rounds P code Q n a c.w
  | 0, c, a, tm, _, _, _, _, hev => by cases hev
  | n + 1, c, a, tm, hs, hst, htr, hd, hev => by
    rw [rounds_succ]
    simp only [evLoop] at hev
    obtain ⟨c1, h1, h2, h3, h4, h5⟩ := head_sound (live := live) (tr := tr) hs0 hs hst hfl htr
    rw [← h1]
    have hst1 : (headSt live tr fl c0.H.length ⟨tm, c.H⟩) = ⟨(headSt live tr fl c0.H.length ⟨tm, c.H⟩).tmps, c1.H⟩ := by rw [h2]
    rw [hst1] at hev
    split at hev
    · rename_i st2 he
      refine hstep c1 a _ .normal st2 _ h4 h5 (Nat.le_trans hfl h3.len) he ?_
      intro a' c' e1 e2 e3 e4 e5
      show Code.rounds P code Q n a' c'.w
      refine loop_sound (live := live) (tr := tr) hstep hs0 hfl hQ n c' a' st2.tmps e3 (h3.trans e2) e4 (e5.trans hd) ?_
      rw [e1]; exact hev
    · rename_i r hne
      have key : ∀ y, exitOf x = y → y ≠ .normal → code.wp P (Exit.then (Code.rounds P code Q n) Q) a c1.w := by
        intro y hy hyn
        refine hstep c1 a _ x st' _ h4 h5 (Nat.le_trans hfl h3.len) hev ?_
        intro a' c' e1 e2 e3 e4 e5
        have := hQ a' c' e1 (h3.trans e2) e3 e4 (e5.trans hd)
        rw [hy] at this ⊢
        cases y <;> first | exact (hyn rfl).elim | exact this
      cases x with
      | normal => exact (hne st' hev).elim
      | exit id => exact key _ rfl (by simp [exitOf])
      | ret => exact key _ rfl (by simp [exitOf])

theorem code_sound (hm : P.follows .mixedOrders = true) (hcf : CfOK P T cf) (hfn : FnsOK P T) : ∀ (ac : ACode) (code : Code), chkC P T ac code = true → CodeOK P T fl (evC P cf lf fl ac) code
  | .skip, code, hchk => by
    cases code <;> simp only [chkC, Bool.false_eq_true] at hchk
    intro c a tm x st' Q hs htr hfl hev hQ
    simp only [evC, Option.some.injEq, Prod.mk.injEq] at hev
    obtain ⟨rfl, rfl⟩ := hev
    exact wp_skip (hQ a c rfl (Step.refl _ _) hs htr rfl)
  | .frz t q, code, hchk => by
    have hq := code_sound hm hcf hfn q code (by cases code <;> (simp only [chkC] at hchk; exact hchk))
    intro c a tm x st' Q hs htr hfl hev hQ
    simp only [evC] at hev
    split at hev
    · rename_i v H' he
      have key : ∃ c', c'.w = c.w ∧ c'.H = H' ∧ Step fl c c' ∧ Sim (ftOf T) c' ∧ ∀ cv, RV (ftOf T) c (getOpd tm (.tmp t)) cv → RV (ftOf T) c' v cv := by
        simp only [evOp] at he
        split at he
        · rename_i id tot off len hx
          split at he
          · rename_i hle
            split at he
            · rename_i s es hob
              split at he
              · rename_i htot
                cases he
                exact ⟨frz c id s es, rfl, rfl, step_frz hle hob, sim_frz hs hob, fun cv hcv => rv_frz hs hob htot (by rw [hx] at hcv; exact hcv)⟩
              · cases he
            · cases he
          · cases he
        · cases he
          exact ⟨c, rfl, rfl, Step.refl _ _, hs, fun _ h => h⟩
      obtain ⟨c', k1, k2, k3, k4, k5⟩ := key
      have htr' : TR (ftOf T) c' (tm.set t v) a.tmps := by
        refine ⟨by simpa using htr.1, fun u y hy => ?_⟩
        rw [List.getElem?_set] at hy
        split at hy
        · rename_i hut
          subst hut
          split at hy
          · rename_i hlt
            cases hy
            obtain ⟨cv, g1, g2⟩ := htr.2 t tm[t] (List.getElem?_eq_getElem hlt)
            refine ⟨cv, g1, k5 cv ?_⟩
            simp only [getOpd, List.getElem?_eq_getElem hlt]
            exact g2
          · cases hy
        · obtain ⟨cv, g1, g2⟩ := htr.2 u y hy
          exact ⟨cv, g1, g2.step k3⟩
      have := hq c' a (tm.set t v) x st' Q k4 htr' (Nat.le_trans hfl k3.len) (by rw [k2]; exact hev) (fun a' c'' e1 e2 e3 e4 e5 => hQ a' c'' e1 (k3.trans e2) e3 e4 e5)
      rwa [k1] at this
    · cases hev
  | .region draw na aops, code, hchk => by
    cases code <;> try (simp only [chkC, Bool.false_eq_true] at hchk; done)
    rename_i id ops draw'
    have hd : draw = draw' := by simp only [chkC, Bool.and_eq_true, beq_iff_eq] at hchk; exact hchk.1.1
    subst hd
    intro c a tm x st' Q hs htr hfl hev hQ
    simp only [evC] at hev
    split at hev
    · rename_i st1 he
      simp only [Option.some.injEq, Prod.mk.injEq] at hev
      obtain ⟨rfl, rfl⟩ := hev
      exact region_sound hm hcf hfn hchk hs htr hfl he hQ
    · cases hev
  | .seq p q, code, hchk => by
    cases code <;> try (simp only [chkC, Bool.false_eq_true] at hchk; done)
    rename_i p' q'
    simp only [chkC, Bool.and_eq_true] at hchk
    have hp := code_sound hm hcf hfn p p' hchk.1
    have hq := code_sound hm hcf hfn q q' hchk.2
    intro c a tm x st' Q hs htr hfl hev hQ
    simp only [evC] at hev
    refine wp_seq ?_
    split at hev
    · rename_i st1 he
      refine hp c a tm .normal st1 _ hs htr hfl he ?_
      intro a' c' e1 e2 e3 e4 e5
      show q'.wp P Q a' c'.w
      refine hq c' a' st1.tmps x st' Q e3 e4 (Nat.le_trans hfl e2.len) (by rw [e1]; exact hev) ?_
      intro a'' c'' f1 f2 f3 f4 f5
      exact hQ a'' c'' f1 (e2.trans f2) f3 f4 (f5.trans e5)
    · rename_i r hne
      refine hp c a tm x st' _ hs htr hfl hev ?_
      intro a' c' e1 e2 e3 e4 e5
      have := hQ a' c' e1 e2 e3 e4 e5
      cases x with
      | normal => exact (hne st' hev).elim
      | exit id => exact this
      | ret => exact this
  | .cond k p q, code, hchk => by
    cases code <;> try (simp only [chkC, Bool.false_eq_true] at hchk; done)
    rename_i k' p' q'
    simp only [chkC, Bool.and_eq_true] at hchk
    have hp := code_sound hm hcf hfn p p' hchk.1.2
    have hq := code_sound hm hcf hfn q q' hchk.2
    intro c a tm x st' Q hs htr hfl hev hQ
    have hk := getOpd_rv htr hchk.1.1
    simp only [evC] at hev
    split at hev
    · rename_i hb
      rw [hb] at hk
      exact wp_cond_true hk.lit_inv (hp c a tm x st' Q hs htr hfl hev hQ)
    · rename_i hb
      rw [hb] at hk
      exact wp_cond_false hk.lit_inv (hq c a tm x st' Q hs htr hfl hev hQ)
    · cases hev
  | .block i p, code, hchk => by
    cases code <;> try (simp only [chkC, Bool.false_eq_true] at hchk; done)
    rename_i i' p'
    simp only [chkC, Bool.and_eq_true, beq_iff_eq] at hchk
    obtain ⟨rfl, hchk⟩ := hchk
    have hp := code_sound hm hcf hfn p p' hchk
    intro c a tm x st' Q hs htr hfl hev hQ
    simp only [evC] at hev
    refine wp_block ?_
    split at hev
    · rename_i j st1 he
      refine hp c a tm (.exit j) st1 _ hs htr hfl he ?_
      intro a' c' e1 e2 e3 e4 e5
      simp only [exitOf, Exit.inBlock]
      split at hev
      · rename_i hj
        simp only [Option.some.injEq, Prod.mk.injEq] at hev
        obtain ⟨rfl, rfl⟩ := hev
        rw [if_pos hj]
        exact hQ a' c' e1 e2 e3 e4 e5
      · rename_i hj
        simp only [Option.some.injEq, Prod.mk.injEq] at hev
        obtain ⟨rfl, rfl⟩ := hev
        rw [if_neg hj]
        exact hQ a' c' e1 e2 e3 e4 e5
    · rename_i r hne
      refine hp c a tm x st' _ hs htr hfl hev ?_
      intro a' c' e1 e2 e3 e4 e5
      have := hQ a' c' e1 e2 e3 e4 e5
      cases x with
      | normal => exact this
      | exit id => exact (hne id st' hev).elim
      | ret => exact this
  | .loop live tr p, code, hchk => by
    cases code <;> try (simp only [chkC, Bool.false_eq_true] at hchk; done)
    rename_i p'
    simp only [chkC] at hchk
    have hp := code_sound hm hcf hfn p p' hchk
    intro c a tm x st' Q hs htr hfl hev hQ
    simp only [evC] at hev
    exact wp_loop_rounds lf (loop_sound hp hs hfl hQ lf c a tm hs (Step.refl _ _) htr rfl hev)
  | .exit i, code, hchk => by
    cases code <;> try (simp only [chkC, Bool.false_eq_true] at hchk; done)
    rename_i i'
    simp only [chkC, beq_iff_eq] at hchk
    subst hchk
    intro c a tm x st' Q hs htr hfl hev hQ
    simp only [evC, Option.some.injEq, Prod.mk.injEq] at hev
    obtain ⟨rfl, rfl⟩ := hev
    exact wp_exit (hQ a c rfl (Step.refl _ _) hs htr rfl)
  | .ret, code, hchk => by
    cases code <;> try (simp only [chkC, Bool.false_eq_true] at hchk; done)
    intro c a tm x st' Q hs htr hfl hev hQ
    simp only [evC, Option.some.injEq, Prod.mk.injEq] at hev
    obtain ⟨rfl, rfl⟩ := hev
    exact wp_ret (hQ a c rfl (Step.refl _ _) hs htr rfl)

end
end Go.Proofs.Ytjnknfppndabjaa.Av
