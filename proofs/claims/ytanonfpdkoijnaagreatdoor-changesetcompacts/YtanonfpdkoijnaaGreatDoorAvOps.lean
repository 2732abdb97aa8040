/- A part of the proof of ChangesetCompactsCardSaid: an evaluator of the program, proved sound, and what it says. -/
import Derived.Test.YtanonfpdkoijnaaGreatDoorAvChk
import Derived.Laws.Entries
namespace Go.Proofs.YtanonfpdkoijnaaGreatDoor.Av
open Go

theorem run_of_pureRun [GlobT] {α : Type} {P : Program} {a : α} {w : World} : ∀ {s : Sem α}, pureRun P s = some a → s.run P w = .ok a w
  | .pure _, h => by simp only [pureRun, Option.some.injEq] at h; subst h; rfl
  | .program k, h => by
    simp only [pureRun] at h
    simp only [Sem.run]
    exact run_of_pureRun h
  | .mark _ k, h => by
    simp only [pureRun] at h
    simp only [Sem.run]
    exact run_of_pureRun h
  | .load .., h => by simp [pureRun] at h
  | .store .., h => by simp [pureRun] at h
  | .new .., h => by simp [pureRun] at h
  | .shape .., h => by simp [pureRun] at h
  | .freeze .., h => by simp [pureRun] at h
  | .frozen .., h => by simp [pureRun] at h
  | .getObj .., h => by simp [pureRun] at h
  | .setObj .., h => by simp [pureRun] at h
  | .choose .., h => by simp [pureRun] at h
  | .sys .., h => by simp [pureRun] at h
  | .halt .., h => by simp [pureRun] at h

section inv
variable {FT : Nat → Option Nat} {c : Ctx} {v : Value}

theorem RV.ptr_inv {id tot idx off : Nat} (h : RV FT c (.ptr id tot idx off) v) : ∃ a s n, v = .pointer (some a) ∧ shp c.H id = some (s, n) ∧ tot ≤ n ∧
    (tot = n → ∃ b, c.β id = some b ∧ a = ⟨b, idx * s + off, none⟩) := by
  cases h with
  | pure _ _ hp => cases hp
  | ptr _ _ _ _ a s n h1 h2 h3 => exact ⟨a, s, n, rfl, h1, h2, h3⟩

theorem RV.ms_inv {id tot off len : Nat} (h : RV FT c (.ms id tot off len) v) : ∃ a cap s n, v = .slice a len cap ∧ shp c.H id = some (s, n) ∧ tot ≤ n ∧ len ≤ cap ∧
    (tot = n → MsOk c id tot off len a cap s) := by
  cases h with
  | pure _ _ hp => cases hp
  | ms _ _ _ _ a cap s n h1 h2 h3 h4 => exact ⟨a, cap, s, n, rfl, h1, h2, h3, h4⟩

theorem RV.sl_inv {f : Bool} {es : List (List AV)} (h : RV FT c (.sl f es) v) : RP c.w (Imm c) (.sl f es) v := by
  cases h with
  | pure _ _ hp => exact hp

theorem RV.rptr_inv {cs : List AV} (h : RV FT c (.rptr cs) v) : ∃ (b off : Nat) (cc : Array Value) (T : TypeId) (fz : Nat × Nat) (vals : Nat → Value), v = .pointer (some ⟨b, off, none⟩) ∧ Imm c b ∧
    c.w.heap[b]? = some (.cells cc T fz) ∧ (∀ (j : Nat) (x : AV), cs[j]? = some x → cc[off + j]? = some (vals j) ∧ scalarB (vals j) = true) ∧
    (∀ (j : Nat) (x : AV), cs[j]? = some x → RP c.w (Imm c) x (vals j)) := by
  cases h with
  | pure _ _ hp => cases hp
  | rptr _ b off cc T fz vals h1 h2 h3 h4 => exact ⟨b, off, cc, T, fz, vals, rfl, h1, h2, h3, h4⟩

theorem RV.mp_inv {id : Nat} (h : RV FT c (.mp id) v) : ∃ b, v = .map (some b) ∧ isMap c.H id ∧ c.β id = some b := by
  cases h with
  | pure _ _ hp => cases hp
  | mp _ b h1 h2 => exact ⟨b, rfl, h1, h2⟩

theorem RV.it_inv {id : Nat} (h : RV FT c (.it id) v) : ∃ b, v = .pointer (some ⟨b, 0, none⟩) ∧ isMap c.H id ∧ c.β id = some b := by
  cases h with
  | pure _ _ hp => cases hp
  | it _ b h1 h2 => exact ⟨b, rfl, h1, h2⟩

theorem RV.fn_inv {vi : Nat} {caps : List AV} (h : RV FT c (.fn vi caps) v) : ∃ (f : Nat) (cv : Array Value) (vals : Nat → Value), v = .func (.func f) #[] cv ∧ FT vi = some f ∧ cv.size = caps.length ∧
    (∀ (i : Nat) (x : AV), caps[i]? = some x → cv[i]? = some (vals i)) ∧ (∀ (i : Nat) (x : AV), caps[i]? = some x → RV FT c x (vals i)) := by
  cases h with
  | pure _ _ hp => cases hp
  | fn _ f _ cv vals h1 h2 h3 h4 => exact ⟨f, cv, vals, rfl, h1, h2, h3, h4⟩

theorem RV.agg_inv {cs : List AV} (h : RV FT c (.agg cs) v) : ∃ (cv : Array Value) (vals : Nat → Value), v = .agg cv ∧ cv.size = cs.length ∧
    (∀ (i : Nat) (x : AV), cs[i]? = some x → cv[i]? = some (vals i) ∧ scalarB (vals i) = true) ∧ (∀ (i : Nat) (x : AV), cs[i]? = some x → RV FT c x (vals i)) := by
  cases h with
  | pure _ _ hp => cases hp
  | agg _ cv vals h1 h2 h3 => exact ⟨cv, vals, rfl, h1, h2, h3⟩

theorem RV.tup_inv {cs : List AV} (h : RV FT c (.tup cs) v) : ∃ (cv : Array Value) (vals : Nat → Value), v = .tuple cv ∧ cv.size = cs.length ∧
    (∀ (i : Nat) (x : AV), cs[i]? = some x → cv[i]? = some (vals i)) ∧ (∀ (i : Nat) (x : AV), cs[i]? = some x → RV FT c x (vals i)) := by
  cases h with
  | pure _ _ hp => cases hp
  | tup _ cv vals h1 h2 h3 => exact ⟨cv, vals, rfl, h1, h2, h3⟩
end inv

theorem scalar_one (v : Value) : scalarB v = v.oneCell' := by cases v <;> rfl

section
variable {P : Program} {T : List AFun} {c : Ctx} {fl : Nat} {o : Oper} {a : Act} {tm : List AV}

def OpOK [GlobT] (P : Program) (FT : Nat → Option Nat) (c : Ctx) (fl : Nat) (o : Oper) (a : Act) (v : AV) (H' : Heap) : Prop :=
  ∀ (K : Act → World → Prop) (Q : Exit → Act → World → Prop),
    (∀ cv c', c'.H = H' → Step fl c c' → Sim FT c' → RV FT c' v cv → K (a.put o.dst cv) c'.w) → o.wp P a c.w K Q

theorem ok_value [GlobT] {FT : Nat → Option Nat} {v : AV} {H' : Heap} {cv : Value} {w' : World} {β' : Nat → Option Nat}
    (hr : (execOp a.eval o).run P c.w = .ok (.value cv) w') (hst : Step fl c ⟨w', c.X, β', H'⟩) (hs : Sim FT ⟨w', c.X, β', H'⟩)
    (hv : RV FT ⟨w', c.X, β', H'⟩ v cv) : OpOK P FT c fl o a v H' := by
  intro K Q hK
  unfold Oper.wp
  rw [hr]
  exact hK cv ⟨w', c.X, β', H'⟩ rfl hst hs hv

theorem ok_skip [GlobT] {FT : Nat → Option Nat} {H' : Heap} {w' : World} {β' : Nat → Option Nat}
    (hr : (execOp a.eval o).run P c.w = .ok .skip w') (hst : Step fl c ⟨w', c.X, β', H'⟩) (hs : Sim FT ⟨w', c.X, β', H'⟩) :
    OpOK P FT c fl o a (.lit undefV) H' := by
  intro K Q hK
  unfold Oper.wp
  rw [hr]
  exact hK undefV ⟨w', c.X, β', H'⟩ rfl hst hs (RV.lit _)

theorem ok_same [GlobT] {FT : Nat → Option Nat} {v : AV} {cv : Value} (hs : Sim FT c)
    (hr : (execOp a.eval o).run P c.w = .ok (.value cv) c.w) (hv : RV FT c v cv) : OpOK P FT c fl o a v c.H :=
  ok_value (β' := c.β) hr (Step.refl _ _) hs hv

theorem rv_agg_lits [GlobT] {FT : Nat → Option Nat} (vs : List Value) (hsc : ∀ v ∈ vs, scalarB v = true) : RV FT c (.agg (vs.map .lit)) (.agg vs.toArray) := by
  refine .agg _ _ (fun i => vs.getD i undefV) (by simp) ?_ ?_
  · intro i x hx
    simp only [List.getElem?_map, Option.map_eq_some_iff] at hx
    obtain ⟨v, hv, rfl⟩ := hx
    refine ⟨by simp [hv], ?_⟩
    simp only [List.getD_eq_getElem?_getD, hv, Option.getD_some]
    exact hsc v (List.mem_of_getElem? hv)
  · intro i x hx
    simp only [List.getElem?_map, Option.map_eq_some_iff] at hx
    obtain ⟨v, hv, rfl⟩ := hx
    simp only [List.getD_eq_getElem?_getD, hv, Option.getD_some]
    exact RV.lit v

theorem getOpd_rv [GlobT] (hs : Sim (ftOf T) c) (htr : TR (ftOf T) c tm a.tmps) {x : AOpd} {y : Operand} (h : chkOpd T x y = true) : RV (ftOf T) c (getOpd tm x) (a.eval y) := by
  unfold chkOpd at h
  split at h
  · rename_i t u
    have : t = u := by simpa using h
    subst this
    simp only [getOpd, Act.eval]
    cases ht : tm[t]? with
    | none =>
      have hlt : a.tmps.size ≤ t := by rw [← htr.1]; simpa using ht
      have : a.tmps[t]? = none := Array.getElem?_eq_none hlt
      simp only [Array.getD_eq_getD_getElem?, this, Option.getD_none]
      exact RV.lit _
    | some x =>
      obtain ⟨v, hv, hr⟩ := htr.2 t x ht
      simpa [Array.getD_eq_getD_getElem?, hv] using hr
  · rw [veq_eq h]; exact RV.lit _
  · rename_i vs us
    have e := veqL_eq h
    simp only [getOpd, Act.eval]
    have : us = vs.toArray := by rw [e]
    rw [this]
    exact rv_agg_lits vs (veqL_scalar h)
  · rename_i vi f
    simp only [getOpd, Act.eval]
    refine .fn vi f [] #[] (fun _ => undefV) (by simpa using h) rfl ?_ ?_ <;> intro i x hx <;> simp at hx
  · rename_i g g'
    have : g = g' := by simpa using h
    subst this
    simp only [getOpd, Act.eval]
    split
    · rename_i cs hcs
      exact hs.gl.rv hcs
    · exact RV.undef _
  · cases h

theorem op_mov [GlobT] (hs : Sim (ftOf T) c) (htr : TR (ftOf T) c tm a.tmps) {x : AOpd} {y : Operand} (ho : o.op = .move y ∨ o.op = .assign y) (h : chkOpd T x y = true) :
    OpOK P (ftOf T) c fl o a (getOpd tm x) c.H := by
  refine ok_same (cv := a.eval y) hs ?_ (getOpd_rv hs htr h)
  rcases ho with ho | ho <;> simp [execOp, ho]

theorem op_pick [GlobT] (hs : Sim (ftOf T) c) (htr : TR (ftOf T) c tm a.tmps) {x y z : AOpd} {x' y' z' : Operand} {t : Bool} (ho : o.op = .pick x' y' z')
    (h1 : chkOpd T x x' = true) (h2 : chkOpd T y y' = true) (h3 : chkOpd T z z' = true) (ht : getOpd tm x = .lit (.bool t)) :
    OpOK P (ftOf T) c fl o a (if t then getOpd tm y else getOpd tm z) c.H := by
  have hx := getOpd_rv hs htr h1
  rw [ht] at hx
  have ex := hx.lit_inv
  refine ok_same (cv := if t then a.eval y' else a.eval z') hs ?_ ?_
  · simp [execOp, ho, ex, asBool]
  · cases t
    · exact getOpd_rv hs htr h3
    · exact getOpd_rv hs htr h2

theorem zeroIs_spec [GlobT] {t : TypeId} {z : List Value} (h : zeroIs P t z = true) : ∃ i v, P.info? t = some i ∧ i.zero = some v ∧ v.cells = z.toArray ∧ ∀ u ∈ z, scalarB u = true := by
  unfold zeroIs at h
  split at h
  · rename_i i hi
    split at h
    · rename_i v hv
      refine ⟨i, v, hi, hv, ?_, veqL_scalar h⟩
      have := veqL_eq h
      rw [this]
    · cases h
  · cases h

theorem cellE_one {cs : List AV} {i j : Nat} {x : AV} (h : cellE [cs] i j = some x) : i = 0 ∧ cs[j]? = some x := by
  unfold cellE at h
  cases i with
  | zero => simpa using h
  | succ i => simp at h

theorem rv_new_ptr {FT : Nat → Option Nat} {w' : World} {X : Nat → Prop} {s : Nat} {cs : List AV} {L : List AObj} (β : Nat → Option Nat) (H : Heap) (b : Nat)
    (hb : β H.length = some b) : RV FT ⟨w', X, β, H ++ .blk s [cs] :: L⟩ (.ptr H.length 1 0 0) (.pointer (some ⟨b, 0, none⟩)) :=
  .ptr H.length 1 0 0 _ s 1 (by simp [shp]) (Nat.le_refl _) fun _ => ⟨b, hb, by simp⟩

/-- A new variable. -/
theorem op_newVar [GlobT] (hs : Sim (ftOf T) c) (hfl : fl ≤ c.H.length) {cs : List AV} {cv : Array Value} {t : TypeId}
    (hr : (execOp a.eval o).run P c.w = .ok (.value (.pointer (some ⟨c.w.heap.size, 0, none⟩))) (c.w.alloc (.cells cv t (0, 0))))
    (hsz : cv.size = cs.length) (hcs : ∀ (j : Nat) (x : AV), cs[j]? = some x → ∃ v, cv[j]? = some v ∧ scalarB v = true ∧ RV (ftOf T) c x v) :
    OpOK P (ftOf T) c fl o a (.ptr c.H.length 1 0 0) (c.H ++ [.blk cs.length [cs]]) := by
  refine ok_value (β' := upd c.β c.H.length c.w.heap.size) hr (step_new (ob := .cells cv t (0, 0)) hfl rfl rfl rfl rfl (fun id b hb => hs.lt hb))
    (sim_new (ob := .cells cv t (0, 0)) hs rfl rfl rfl rfl ?_ ?_ ?_ (fun _ h => by cases h)) (rv_new_ptr (L := []) _ _ _ (upd_same _ _ _))
  · intro s es he e hm
    cases he
    simp only [List.mem_singleton] at hm
    rw [hm]
  · intro s es he
    cases he
    refine ⟨cv, t, rfl, by simp [hsz], ?_⟩
    intro i j x hx
    obtain ⟨rfl, hj⟩ := cellE_one hx
    obtain ⟨v, h1, h2, h3⟩ := hcs j x hj
    exact ⟨v, by simpa using h1, h2, h3⟩
  · intro ents he; cases he

theorem op_alloc [GlobT] (hs : Sim (ftOf T) c) (hfl : fl ≤ c.H.length) {z : List Value} {t : TypeId} (ho : o.op = .alloc t) (h : zeroIs P t z = true) :
    OpOK P (ftOf T) c fl o a (.ptr c.H.length 1 0 0) (c.H ++ [.blk z.length [z.map .lit]]) := by
  obtain ⟨i, v, hi, hv, hc, hsc⟩ := zeroIs_spec h
  have := op_newVar (P := P) (o := o) (a := a) (cs := z.map AV.lit) (cv := z.toArray) (t := t) hs hfl ?_ (by simp) ?_
  · simpa using this
  · simp [execOp, ho, Instr.alloc, zeroValue, typeInfo, hi, hv, newVar, newRow, hc]
  · intro j x hx
    simp only [List.getElem?_map, Option.map_eq_some_iff] at hx
    obtain ⟨u, hu, rfl⟩ := hx
    exact ⟨u, by simpa using hu, hsc u (List.mem_of_getElem? hu), RV.lit u⟩

theorem cellsOf_rv [GlobT] {FT : Nat → Option Nat} {x : AV} {v : Value} {cs : List AV} (hr : RV FT c x v) (h : cellsOf x = some cs) :
    v.cells.size = cs.length ∧ ∀ (j : Nat) (y : AV), cs[j]? = some y → ∃ u, v.cells[j]? = some u ∧ scalarB u = true ∧ RV FT c y u := by
  have one : ∀ {x : AV} {v : Value}, RV FT c x v → scalarB v = true → cs = [x] →
      v.cells.size = cs.length ∧ ∀ (j : Nat) (y : AV), cs[j]? = some y → ∃ u, v.cells[j]? = some u ∧ scalarB u = true ∧ RV FT c y u := by
    intro x v hr hsc e
    have hv : v.cells = #[v] := by cases v <;> first | rfl | (simp [scalarB] at hsc)
    subst e
    rw [hv]
    refine ⟨rfl, fun j y hy => ?_⟩
    cases j with
    | zero => simp at hy; subst hy; exact ⟨v, by simp, hsc, hr⟩
    | succ j => simp at hy
  cases hr with
  | pure _ _ hp =>
    cases hp with
    | undef => simp [cellsOf] at h
    | lit v =>
      simp only [cellsOf] at h
      split at h
      · rename_i hsc
        cases h
        exact one (RV.lit v) hsc rfl
      · cases h
    | nil f a' cap hf =>
      simp only [cellsOf, Option.some.injEq] at h
      exact one (.pure _ _ (.nil f a' cap hf)) rfl h.symm
    | sl f es b off cap cc T fz s vals h1 h2 h3 h4 h5 h6 h7 h8 =>
      simp only [cellsOf, Option.some.injEq] at h
      exact one (.pure _ _ (.sl f es b off cap cc T fz s vals h1 h2 h3 h4 h5 h6 h7 h8)) rfl h.symm
  | ms id tot off len a' cap s n h1 h2 h3 h4 =>
    simp only [cellsOf, Option.some.injEq] at h
    exact one (.ms id tot off len a' cap s n h1 h2 h3 h4) rfl h.symm
  | ptr id tot idx off a' s n h1 h2 h3 =>
    simp only [cellsOf, Option.some.injEq] at h
    exact one (.ptr id tot idx off a' s n h1 h2 h3) rfl h.symm
  | rptr cs' b off cc T fz vals h1 h2 h3 h4 =>
    simp only [cellsOf, Option.some.injEq] at h
    exact one (.rptr cs' b off cc T fz vals h1 h2 h3 h4) rfl h.symm
  | mp id b h1 h2 =>
    simp only [cellsOf, Option.some.injEq] at h
    exact one (.mp id b h1 h2) rfl h.symm
  | it id b h1 h2 =>
    simp only [cellsOf, Option.some.injEq] at h
    exact one (.it id b h1 h2) rfl h.symm
  | fn vi f caps cv vals h1 h2 h3 h4 =>
    simp only [cellsOf, Option.some.injEq] at h
    exact one (.fn vi f caps cv vals h1 h2 h3 h4) rfl h.symm
  | agg cs' cv vals h1 h2 h3 =>
    simp only [cellsOf, Option.some.injEq] at h
    subst h
    exact ⟨h1, fun j y hy => ⟨vals j, (h2 j y hy).1, (h2 j y hy).2, h3 j y hy⟩⟩
  | tup => simp [cellsOf] at h

theorem op_box [GlobT] (hs : Sim (ftOf T) c) (htr : TR (ftOf T) c tm a.tmps) (hfl : fl ≤ c.H.length) {x : AOpd} {y : Operand} {t : TypeId} {cs : List AV} (ho : o.op = .box t y)
    (h : chkOpd T x y = true) (hc : cellsOf (getOpd tm x) = some cs) :
    OpOK P (ftOf T) c fl o a (.ptr c.H.length 1 0 0) (c.H ++ [.blk cs.length [cs]]) := by
  obtain ⟨h1, h2⟩ := cellsOf_rv (getOpd_rv hs htr h) hc
  refine op_newVar (cv := (a.eval y).cells) (t := t) hs hfl ?_ h1 h2
  simp [execOp, ho, Instr.box, newVar, newRow]

theorem op_claim [GlobT] (hs : Sim (ftOf T) c) (hfl : fl ≤ c.H.length) {s : Nat} (ho : o.op = .move (.const nilS) ∨ o.op = .assign (.const nilS)) :
    OpOK P (ftOf T) c fl o a (.ms c.H.length 0 0 0) (c.H ++ [.blk s []]) := by
  refine ok_value (cv := nilS) (β' := c.β) ?_ (step_claim hfl) (sim_claim hs) ?_
  · rcases ho with ho | ho <;> simp [execOp, ho, Act.eval]
  · refine .ms _ 0 0 0 none 0 s 0 (by simp [shp]) (Nat.le_refl _) (Nat.le_refl _) fun _ => ⟨Nat.le_refl _, .inl ⟨?_, rfl, rfl, rfl⟩⟩
    cases hb : c.β c.H.length with
    | none => rfl
    | some b => have := hs.dom _ b hb; omega

theorem addr_add (b k j : Nat) : (⟨b, k, none⟩ : Addr).add j = ⟨b, k + j, none⟩ := by unfold Addr.add; split <;> simp_all

/-- Cells that lie one behind the other. -/
def CellsAt (FT : Nat → Option Nat) (c : Ctx) (ad : Addr) (cs : List AV) (vs : List Value) : Prop :=
  vs.length = cs.length ∧ (∀ (j : Nat) (u : Value), vs[j]? = some u → c.w.cell? (ad.add j) = some u) ∧
  ∀ (j : Nat) (x : AV), cs[j]? = some x → ∃ u, vs[j]? = some u ∧ scalarB u = true ∧ RV FT c x u

theorem shp_of {H : Heap} {id s : Nat} {es : List (List AV)} (h : H[id]? = some (.blk s es)) : shp H id = some (s, es.length) := by simp [shp, h]

theorem cellsAt_row [GlobT] {FT : Nat → Option Nat} {b k n : Nat} {cc : Array Value} {T : TypeId} {fz : Nat × Nat} {cs : List AV} (hb : c.w.heap[b]? = some (.cells cc T fz)) (hn : cs.length = n)
    (h : ∀ (j : Nat) (x : AV), cs[j]? = some x → ∃ u, cc[k + j]? = some u ∧ scalarB u = true ∧ RV FT c x u) :
    CellsAt FT c ⟨b, k, none⟩ cs ((cc.toList.drop k).take n) := by
  refine ⟨?_, ?_, ?_⟩
  · simp only [List.length_take, List.length_drop, Array.length_toList, hn]
    cases n with
    | zero => simp
    | succ m =>
      obtain ⟨u, hu, _⟩ := h m (cs[m]'(by omega)) (by simp)
      have : k + m < cc.size := (Array.getElem?_eq_some_iff.1 hu).1
      omega
  · intro j u hu
    rw [addr_add, cell_of_row c.w b (k + j) cc T fz hb]
    rw [List.getElem?_take] at hu
    split at hu
    · simpa using hu
    · cases hu
  · intro j x hx
    obtain ⟨u, h1, h2, h3⟩ := h j x hx
    have hj : j < n := by rw [← hn]; exact (List.getElem?_eq_some_iff.1 hx).1
    refine ⟨u, ?_, h2, h3⟩
    rw [List.getElem?_take, if_pos hj]
    simpa using h1

theorem ldCells_rv [GlobT] {FT : Nat → Option Nat} (hs : Sim FT c) {x : AV} {v : Value} {n : Nat} {cs : List AV} (hr : RV FT c x v) (h : ldCells c.H x n = some cs) :
    ∃ (ad : Addr) (vs : List Value), v = .pointer (some ad) ∧ cs.length = n ∧ CellsAt FT c ad cs vs := by
  unfold ldCells at h
  split at h
  · rename_i id tot idx off
    split at h
    · rename_i s es ho
      split at h
      · rename_i ht
        split at h
        · rename_i e he
          split at h
          · rename_i hle
            cases h
            cases hr with
            | pure _ _ hp => cases hp
            | ptr _ _ _ _ ad s' n' h1 h2 h3 =>
              rw [shp_of ho] at h1
              cases h1
              obtain ⟨b, hb, rfl⟩ := h3 ht.symm
              obtain ⟨cc, T, g1, g2, g3⟩ := hs.blk id s es b ho hb
              have hel := hs.lens id s es ho e (List.mem_of_getElem? he)
              have hcl : ((e.drop off).take n).length = n := by simp; omega
              refine ⟨_, _, rfl, hcl, cellsAt_row (n := n) g1 hcl ?_⟩
              intro j x hx
              rw [List.getElem?_take] at hx
              split at hx
              · rw [List.getElem?_drop] at hx
                have := g3 idx (off + j) x (by simp [cellE, he, hx])
                simpa [Nat.add_assoc] using this
              · cases hx
          · cases h
        · cases h
      · cases h
    · cases h
  · rename_i cs0
    split at h
    · rename_i hle
      cases h
      cases hr with
      | pure _ _ hp => cases hp
      | rptr _ b off cc T fz vals h1 h2 h3 h4 =>
        have hcl : (cs0.take n).length = n := by simp; omega
        refine ⟨_, _, rfl, hcl, cellsAt_row (n := n) h2 hcl ?_⟩
        intro j x hx
        rw [List.getElem?_take] at hx
        split at hx
        · exact ⟨vals j, (h3 j x hx).1, (h3 j x hx).2, .pure _ _ (h4 j x hx)⟩
        · cases hx
    · cases h
  · cases h

theorem rv_agg_cells {FT : Nat → Option Nat} {ad : Addr} {cs : List AV} {vs : List Value} (h : CellsAt FT c ad cs vs) : RV FT c (.agg cs) (.agg vs.toArray) := by
  refine .agg cs vs.toArray (fun i => vs.getD i undefV) (by simp [h.1]) ?_ ?_
  · intro i x hx
    obtain ⟨u, h1, h2, _⟩ := h.2.2 i x hx
    simp [List.getD_eq_getElem?_getD, h1, h2]
  · intro i x hx
    obtain ⟨u, h1, _, h3⟩ := h.2.2 i x hx
    simpa [List.getD_eq_getElem?_getD, h1] using h3

theorem sizeIs_spec {t : TypeId} {n : Nat} (h : sizeIs P t n = true) : ∃ i, P.info? t = some i ∧ i.size = n := by
  unfold sizeIs at h
  split at h
  · rename_i i hi; exact ⟨i, hi, by simpa using h⟩
  · cases h

theorem aggIs_run {t : TypeId} {b : Bool} (h : aggIs P t b = true) (w : World) : (isAgg t).run P w = .ok b w := by
  unfold aggIs at h
  unfold isAgg
  split at h
  · rename_i hu; simp [run_underlying hu, h]
  · rename_i hu; simp [run_underlying hu, h]
  · rename_i d h1 h2 hu
    rw [Sem.run_bind, run_underlying hu]
    simp only [Result.andThen_ok]
    have hb : b = false := by simpa using h
    subst hb
    cases d with
    | struct fs => exact (h1 fs rfl).elim
    | array n e => exact (h2 n e rfl).elim
    | _ => rfl
  · cases h

theorem run_loadVar_at [GlobT] {FT : Nat → Option Nat} {ad : Addr} {cs : List AV} {vs : List Value} {t : TypeId} {n : Nat} {agg : Bool} (hc : CellsAt FT c ad cs vs) (hn : cs.length = n)
    (h1 : aggIs P t agg = true) (h2 : sizeIs P t n = true) :
    agg = true → (loadVar t ad).run P c.w = .ok (.agg vs.toArray) c.w := by
  intro e
  subst e
  obtain ⟨i, hi, hsz⟩ := sizeIs_spec h2
  have hl := run_loadCells_list (P := P) c.w ad vs hc.2.1
  have e : vs.length = n := hc.1.trans hn
  simp [loadVar, aggIs_run h1, sizeOf, typeInfo, hi, hsz, ← e, hl]

theorem run_loadVar_one [GlobT] {ad : Addr} {u : Value} {t : TypeId} (hc : c.w.cell? ad = some u) (h1 : aggIs P t false = true) :
    (loadVar t ad).run P c.w = .ok u c.w := by
  simp [loadVar, aggIs_run h1, hc]

theorem op_load [GlobT] (hs : Sim (ftOf T) c) (htr : TR (ftOf T) c tm a.tmps) {x : AOpd} {y : Operand} {t : TypeId} {n : Nat} {agg : Bool} {cs : List AV} {v : AV} (ho : o.op = .load t y)
    (h : chkOpd T x y = true) (h1 : aggIs P t agg = true) (h2 : sizeIs P t n = true) (hl : ldCells c.H (getOpd tm x) n = some cs)
    (hv : if agg then v = .agg cs else cs = [v]) : OpOK P (ftOf T) c fl o a v c.H := by
  obtain ⟨ad, vs, hp, hn, hc⟩ := ldCells_rv hs (getOpd_rv hs htr h) hl
  cases agg with
  | true =>
    simp only [if_true] at hv
    subst hv
    refine ok_same (cv := .agg vs.toArray) hs ?_ (rv_agg_cells hc)
    simp [execOp, ho, Instr.loadAt, Instr.sureAddr, hp, run_loadVar_at hc hn h1 h2 rfl]
  | false =>
    simp only [Bool.false_eq_true, if_false] at hv
    subst hv
    obtain ⟨u, g1, g2, g3⟩ := hc.2.2 0 v (by simp)
    have hcell := hc.2.1 0 u g1
    have e0 : ad.add 0 = ad := by simp [Addr.add]
    rw [e0] at hcell
    refine ok_same (cv := u) hs ?_ g3
    simp [execOp, ho, Instr.loadAt, Instr.sureAddr, hp, run_loadVar_one hcell h1]

theorem splice_length {α : Type} {l vs : List α} {k : Nat} (h : k + vs.length ≤ l.length) : (splice l k vs).length = l.length := by
  simp only [splice, List.length_append, List.length_take, List.length_drop]; omega

theorem splice_get {α : Type} {l vs : List α} {k : Nat} (h : k + vs.length ≤ l.length) (p : Nat) :
    (splice l k vs)[p]? = if p < k then l[p]? else if p < k + vs.length then vs[p - k]? else l[p]? := by
  unfold splice
  rw [List.getElem?_append]
  simp only [List.length_take]
  have hk : min k l.length = k := by omega
  rw [hk]
  split
  · rename_i hp
    rw [List.getElem?_take, if_pos hp]
  · rename_i hp
    rw [List.getElem?_append]
    split
    · rename_i hq
      rw [if_pos (by omega)]
    · rename_i hq
      rw [if_neg (by omega), List.getElem?_drop]
      congr 1
      omega

theorem row_ne {s i i' j j' : Nat} (hi : i ≠ i') (hj : j < s) (hj' : j' < s) : i * s + j ≠ i' * s + j' := by
  intro e
  rcases Nat.lt_or_gt_of_ne hi with h | h
  · have : (i + 1) * s ≤ i' * s := Nat.mul_le_mul_right s h
    rw [Nat.add_mul] at this; omega
  · have : (i' + 1) * s ≤ i * s := Nat.mul_le_mul_right s h
    rw [Nat.add_mul] at this; omega

theorem row_lt {s i n j : Nat} (hi : i < n) (hj : j < s) : i * s + j < n * s := by
  have : (i + 1) * s ≤ n * s := Nat.mul_le_mul_right s hi
  rw [Nat.add_mul] at this; omega

theorem cellE_some {es : List (List AV)} {i j : Nat} {x : AV} (h : cellE es i j = some x) : ∃ e, es[i]? = some e ∧ e[j]? = some x := by
  unfold cellE at h
  cases he : es[i]? with
  | none => simp [he] at h
  | some e => exact ⟨e, rfl, by simpa [he] using h⟩

/-- Cells of an element are written in place. -/
theorem blk_put [GlobT] {FT : Nat → Option Nat} {s idx off : Nat} {es : List (List AV)} {e cs : List AV} {vs : List Value} {cc : Array Value}
    (hl : ∀ e ∈ es, e.length = s) (he : es[idx]? = some e) (hfit : off + cs.length ≤ e.length) (hsz : es.length * s ≤ cc.size) (hvs : vs.length = cs.length)
    (hold : ∀ i j x, cellE es i j = some x → ∃ v, cc[i * s + j]? = some v ∧ scalarB v = true ∧ RV FT c x v)
    (hnew : ∀ (j : Nat) (x : AV), cs[j]? = some x → ∃ u, vs[j]? = some u ∧ scalarB u = true ∧ RV FT c x u) :
    (∀ e' ∈ es.set idx (splice e off cs), e'.length = s) ∧
    ∀ i j x, cellE (es.set idx (splice e off cs)) i j = some x →
      ∃ v, ((splice cc.toList (idx * s + off) vs).toArray)[i * s + j]? = some v ∧ scalarB v = true ∧ RV FT c x v := by
  have hes : e.length = s := hl e (List.mem_of_getElem? he)
  have hidx : idx < es.length := (List.getElem?_eq_some_iff.1 he).1
  have hlt : (idx + 1) * s ≤ es.length * s := Nat.mul_le_mul_right s hidx
  rw [Nat.add_mul] at hlt
  have hfit2 : idx * s + off + vs.length ≤ cc.toList.length := by simp only [Array.length_toList]; omega
  refine ⟨?_, ?_⟩
  · intro e' he'
    rcases List.mem_or_eq_of_mem_set he' with h | h
    · exact hl e' h
    · rw [h, splice_length hfit, hes]
  · intro i j x hx
    simp only [List.getElem?_toArray, splice_get hfit2]
    obtain ⟨e1, h1, h2⟩ := cellE_some hx
    by_cases ei : i = idx
    · subst ei
      rw [getElem?_set_eq' he] at h1
      cases h1
      rw [splice_get hfit] at h2
      split at h2
      · rename_i hj
        rw [if_pos (by omega)]
        have := hold i j x (by simp [cellE, he, h2])
        simpa using this
      · rename_i hj
        split at h2
        · rename_i hj2
          rw [if_neg (by omega), if_pos (by omega)]
          obtain ⟨u, g1, g2, g3⟩ := hnew _ x h2
          refine ⟨u, ?_, g2, g3⟩
          rw [← g1]
          congr 1
          omega
        · rename_i hj2
          rw [if_neg (by omega), if_neg (by omega)]
          have := hold i j x (by simp [cellE, he, h2])
          simpa using this
    · rw [getElem?_set_ne' ei] at h1
      have hj : j < s := by
        rw [← hl e1 (List.mem_of_getElem? h1)]; exact (List.getElem?_eq_some_iff.1 h2).1
      have hout : i * s + j < idx * s + off ∨ idx * s + off + vs.length ≤ i * s + j := by
        rcases Nat.lt_or_gt_of_ne ei with h | h
        · have : (i + 1) * s ≤ idx * s := Nat.mul_le_mul_right s h
          rw [Nat.add_mul] at this; omega
        · have : (idx + 1) * s ≤ i * s := Nat.mul_le_mul_right s h
          rw [Nat.add_mul] at this; omega
      have key := hold i j x (by simp [cellE, h1, h2])
      rcases hout with h | h
      · rw [if_pos h]; simpa using key
      · rw [if_neg (by omega), if_neg (by omega)]; simpa using key

theorem setRow_splice (w : World) (g k : Nat) (cc : Array Value) (vs : List Value) :
    w.setRow g (cc.toList.take (k + 0) ++ vs ++ cc.toList.drop (k + 0 + vs.length)).toArray = w.setRow g (splice cc.toList k vs).toArray := by
  simp [splice]

theorem op_store [GlobT] (hs : Sim (ftOf T) c) (htr : TR (ftOf T) c tm a.tmps) {x v : AOpd} {y u : Operand} {t : TypeId} {n : Nat} {cs : List AV} {H' : Heap} (ho : o.op = .store t y u)
    (h1 : chkOpd T x y = true) (h2 : chkOpd T v u = true) (h3 : sizeIs P t n = true) (hc : cellsOf (getOpd tm v) = some cs) (hn : cs.length = n)
    (hst : stCells fl c.H (getOpd tm x) cs = some H') : OpOK P (ftOf T) c fl o a (.lit undefV) H' := by
  obtain ⟨i, hi, hsz⟩ := sizeIs_spec h3
  obtain ⟨hvs, hvr⟩ := cellsOf_rv (getOpd_rv hs htr h2) hc
  have hx := getOpd_rv hs htr h1
  unfold stCells at hst
  split at hst
  · rename_i id tot idx off hxe
    rw [hxe] at hx
    split at hst
    · rename_i hfl
      split at hst
      · rename_i s es hob
        split at hst
        · rename_i htot
          split at hst
          · rename_i e he
            split at hst
            · rename_i hfit
              cases hst
              · obtain ⟨ad, s', n', hxa, g1, g2, g3⟩ := hx.ptr_inv
                rw [shp_of hob] at g1
                cases g1
                obtain ⟨b, hb, rfl⟩ := g3 htot.symm
                obtain ⟨cc, Ty, k1, k2, k3⟩ := hs.blk id s es b hob hb
                have hlens := hs.lens id s es hob
                have hes : e.length = s := hlens e (List.mem_of_getElem? he)
                have hidx : idx < es.length := (List.getElem?_eq_some_iff.1 he).1
                have hlt : (idx + 1) * s ≤ es.length * s := Nat.mul_le_mul_right s hidx
                rw [Nat.add_mul] at hlt
                have hvl : (a.eval u).cells.toList.length = cs.length := by simpa using hvs
                obtain ⟨p1, p2⟩ := blk_put (vs := (a.eval u).cells.toList) (cc := cc) hlens he hfit k2 hvl k3 (fun j x hx => by simpa using hvr j x hx)
                have hfit2 : idx * s + off + (a.eval u).cells.toList.length ≤ cc.toList.length := by simp only [Array.length_toList] at hvl ⊢; omega
                have hone : ∀ v ∈ (a.eval u).cells.toList, v.oneCell' = true := by
                  intro v hv
                  obtain ⟨j, hj⟩ := List.mem_iff_getElem?.1 hv
                  have hjl : j < cs.length := by rw [← hvl]; exact (List.getElem?_eq_some_iff.1 hj).1
                  obtain ⟨u', w1, w2, _⟩ := hvr j cs[j] (by simp)
                  have : u' = v := by
                    have hj' : (a.eval u).cells[j]? = some v := by simpa using hj
                    rw [w1] at hj'; exact Option.some.inj hj'
                  rw [← scalar_one, ← this]; exact w2
                have hrun := run_storeCells_at P b (idx * s + off) Ty (a.eval u).cells.toList 0 cc c.w k1 (by simpa using hfit2) hone
                rw [setRow_splice] at hrun
                have hsplen := splice_length hfit2
                refine ok_skip (w' := c.w.setRow b (splice cc.toList (idx * s + off) (a.eval u).cells.toList).toArray) (β' := c.β) ?_
                  (step_set (cs' := (splice cc.toList (idx * s + off) (a.eval u).cells.toList).toArray) hs hfl hob hb k1 (by simp) ?_ (setRow_heap c.w b cc _ Ty _ k1) (fun k hk => setRow_other c.w b k _ hk) (by simp) rfl rfl rfl)
                  (sim_set (cs' := (splice cc.toList (idx * s + off) (a.eval u).cells.toList).toArray) hs hob hb k1 (by simp) ?_ (setRow_heap c.w b cc _ Ty _ k1) (fun k hk => setRow_other c.w b k _ hk) (by simp) rfl rfl rfl p1 ?_ p2)
                · have hne : ¬ (a.eval u).cells.size ≠ i.size := by rw [hvs, hn, hsz]; simp
                  simp [execOp, ho, Instr.storeAt, Instr.sureAddr, storeVar, sizeOf, typeInfo, hxa, hi, hvs, hn, hsz, hrun]
                · simpa using hsplen
                · simpa using hsplen
                · simp only [List.length_set, List.size_toArray, hsplen, Array.length_toList]; exact k2
            · cases hst
          · cases hst
        · cases hst
      · cases hst
    · cases hst
  · cases hst

end
end Go.Proofs.YtanonfpdkoijnaaGreatDoor.Av
