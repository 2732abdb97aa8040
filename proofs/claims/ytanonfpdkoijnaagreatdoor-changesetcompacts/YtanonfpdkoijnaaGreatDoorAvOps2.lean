/- A part of the proof of ChangesetCompactsCardSaid: an evaluator of the program, proved sound, and what it says. -/
import Derived.Test.YtanonfpdkoijnaaGreatDoorAvOps
namespace Go.Proofs.YtanonfpdkoijnaaGreatDoor.Av
open Go

section
variable {P : Program} {T : List AFun} {c : Ctx} {fl : Nat} {o : Oper} {a : Act} {tm : List AV}

theorem op_nilCheck [GlobT] (hs : Sim (ftOf T) c) (htr : TR (ftOf T) c tm a.tmps) {x : AOpd} {y : Operand} (ho : o.op = .nilCheck y) (h : chkOpd T x y = true)
    (hk : (∃ id tot idx off, getOpd tm x = .ptr id tot idx off) ∨ (∃ cs, getOpd tm x = .rptr cs) ∨ ∃ vi caps, getOpd tm x = .fn vi caps) :
    OpOK P (ftOf T) c fl o a (getOpd tm x) c.H := by
  have hx := getOpd_rv hs htr h
  refine ok_same (cv := a.eval y) hs ?_ hx
  rcases hk with ⟨id, tot, idx, off, hk⟩ | ⟨cs, hk⟩ | ⟨vi, caps, hk⟩ <;> rw [hk] at hx
  · obtain ⟨ad, s, n, hv, _⟩ := hx.ptr_inv
    simp [execOp, ho, hv]
  · obtain ⟨b, off, cc, Ty, fz, vals, hv, _⟩ := hx.rptr_inv
    simp [execOp, ho, hv]
  · obtain ⟨f, cv, vals, hv, _⟩ := hx.fn_inv
    simp [execOp, ho, hv]

theorem ibinV_run {op : BinOp} {k : IntKind} {x y : Int} {t : TypeId} {r : Value} (h : ibinV op k x y = some r) (w : World) : (binOp op t (.int k x) (.int k y)).run P w = .ok r w := by
  cases op <;> simp [ibinV] at h <;> subst h <;> simp [binOp, Op.intArith, Op.intCmp]

theorem eqGuard_int {op : BinOp} {k k' : IntKind} {x y : Int} {t : TypeId} {p q : Operand} (w : World) : (eqGuard op t p q (.int k x) (.int k' y)).run P w = .ok () w := by
  unfold eqGuard
  split <;> simp

theorem op_ibin [GlobT] (hs : Sim (ftOf T) c) (htr : TR (ftOf T) c tm a.tmps) {op : BinOp} {x y : AOpd} {x' y' : Operand} {t t' : TypeId} {k : IntKind} {n m : Int} {r : Value} (ho : o.op = .binOp op t x' y' t')
    (h1 : chkOpd T x x' = true) (h2 : chkOpd T y y' = true) (e1 : getOpd tm x = .lit (.int k n)) (e2 : getOpd tm y = .lit (.int k m)) (hr : ibinV op k n m = some r) :
    OpOK P (ftOf T) c fl o a (.lit r) c.H := by
  have hx := getOpd_rv hs htr h1
  have hy := getOpd_rv hs htr h2
  rw [e1] at hx
  rw [e2] at hy
  refine ok_same (cv := r) hs ?_ (RV.lit r)
  simp [execOp, ho, hx.lit_inv, hy.lit_inv, eqGuard_int, ibinV_run hr]

theorem litL_rv [GlobT] : ∀ {cs : List AV} {l : List Value}, litL cs = some l → cs = l.map .lit
  | [], l, h => by simp [litL] at h; subst h; rfl
  | .lit v :: r, l, h => by
    simp only [litL] at h
    split at h
    · rename_i l' hl
      cases h
      rw [litL_rv hl]; rfl
    · cases h
  | .undef :: _, _, h => by simp [litL] at h
  | .sl .. :: _, _, h => by simp [litL] at h
  | .ms .. :: _, _, h => by simp [litL] at h
  | .ptr .. :: _, _, h => by simp [litL] at h
  | .rptr .. :: _, _, h => by simp [litL] at h
  | .mp .. :: _, _, h => by simp [litL] at h
  | .fn .. :: _, _, h => by simp [litL] at h
  | .agg .. :: _, _, h => by simp [litL] at h
  | .tup .. :: _, _, h => by simp [litL] at h

theorem lits_rv [GlobT] {FT : Nat → Option Nat} {x : AV} {v u : Value} (hr : RV FT c x v) (h : lits x = some u) : v = u := by
  unfold lits at h
  split at h
  · cases h; exact hr.lit_inv
  · rename_i cs
    split at h
    · rename_i l hl
      cases h
      have e := litL_rv hl
      subst e
      obtain ⟨cv, vals, rfl, h1, h2, h3⟩ := hr.agg_inv
      congr 1
      apply Array.ext_getElem?
      intro i
      by_cases hi : i < l.length
      · have hx : (l.map AV.lit)[i]? = some (.lit l[i]) := by simp [hi]
        have := (h3 i _ hx).lit_inv
        rw [(h2 i _ hx).1, this]
        simp [hi]
      · rw [Array.getElem?_eq_none (by simp at h1; omega), Array.getElem?_eq_none (by simp; omega)]
    · cases h
  · cases h

theorem eqGuard_congr {op : BinOp} {t : TypeId} {v u : Value} {p q p' q' : Operand} (hn : notNil v = true) : eqGuard op t p q v u = eqGuard op t p' q' v u := by
  unfold eqGuard
  cases v <;> first | rfl | (cases u <;> rfl) | (simp [notNil] at hn)

theorem eqGuard_run [GlobT] {op : BinOp} {t : TypeId} {v u : Value} {p q : Operand} (hn : notNil v = true) (h : pureRun P (eqGuard op t (.tmp 0) (.tmp 0) v u) = some ()) (w : World) :
    (eqGuard op t p q v u).run P w = .ok () w := by
  rw [eqGuard_congr (p' := .tmp 0) (q' := .tmp 0) hn]
  exact run_of_pureRun h

theorem op_bin [GlobT] (hs : Sim (ftOf T) c) (htr : TR (ftOf T) c tm a.tmps) {op : BinOp} {x y : AOpd} {x' y' : Operand} {t t' : TypeId} {v u r : Value} (ho : o.op = .binOp op t x' y' t')
    (h1 : chkOpd T x x' = true) (h2 : chkOpd T y y' = true) (e1 : lits (getOpd tm x) = some v) (e2 : lits (getOpd tm y) = some u)
    (hn : notNil v = true) (hg : pureRun P (eqGuard op t (.tmp 0) (.tmp 0) v u) = some ()) (hr : pureRun P (binOp op t v u) = some r) :
    OpOK P (ftOf T) c fl o a (.lit r) c.H := by
  have hx := lits_rv (getOpd_rv hs htr h1) e1
  have hy := lits_rv (getOpd_rv hs htr h2) e2
  refine ok_same (cv := r) hs ?_ (RV.lit r)
  simp [execOp, ho, hx, hy, eqGuard_run hn hg, run_of_pureRun hr]

theorem op_un [GlobT] (hs : Sim (ftOf T) c) (htr : TR (ftOf T) c tm a.tmps) {op : UnOp} {x : AOpd} {x' : Operand} {t : TypeId} {v r : Value} (ho : o.op = .unOp op t x')
    (h1 : chkOpd T x x' = true) (e1 : getOpd tm x = .lit v) (hr : pureRun P (Op.unary op v) = some r) : OpOK P (ftOf T) c fl o a (.lit r) c.H := by
  have hx := getOpd_rv hs htr h1
  rw [e1] at hx
  refine ok_same (cv := r) hs ?_ (RV.lit r)
  simp [execOp, ho, hx.lit_inv, run_of_pureRun hr]

theorem op_conv [GlobT] (hs : Sim (ftOf T) c) (htr : TR (ftOf T) c tm a.tmps) {x : AOpd} {x' : Operand} {s d : TypeId} {v r : Value} (ho : o.op = .convert s d x')
    (h1 : chkOpd T x x' = true) (e1 : getOpd tm x = .lit v) (hr : pureRun P (convert s d v) = some r) : OpOK P (ftOf T) c fl o a (.lit r) c.H := by
  have hx := getOpd_rv hs htr h1
  rw [e1] at hx
  refine ok_same (cv := r) hs ?_ (RV.lit r)
  simp [execOp, ho, hx.lit_inv, run_of_pureRun hr]

theorem op_strIdx [GlobT] (hs : Sim (ftOf T) c) (htr : TR (ftOf T) c tm a.tmps) {x i : AOpd} {x' i' : Operand} {t : TypeId} {v u r : Value} (ho : o.op = .index t x' i')
    (h1 : chkOpd T x x' = true) (h2 : chkOpd T i i' = true) (e1 : getOpd tm x = .lit v) (e2 : getOpd tm i = .lit u) (hr : pureRun P (Instr.index t v u) = some r) :
    OpOK P (ftOf T) c fl o a (.lit r) c.H := by
  have hx := getOpd_rv hs htr h1
  rw [e1] at hx
  have hi := getOpd_rv hs htr h2
  rw [e2] at hi
  refine ok_same (cv := r) hs ?_ (RV.lit r)
  simp [execOp, ho, hx.lit_inv, hi.lit_inv, run_of_pureRun hr]

theorem fieldAt_run {t : TypeId} {f off : Nat} {fs : Array Field} {fd : Field} {i : TypeInfo} {ad : Addr} (hu : P.underlying t = some (.struct fs)) (hf : fs[f]? = some fd)
    (hof : fd.offset = off) (hi : P.info? fd.type = some i) (hsz : i.size ≠ 0) (w : World) :
    (Instr.fieldAt t (.pointer (some ad)) f).run P w = .ok (.pointer (some (ad.add off))) w := by
  simp [Instr.fieldAt, run_underlying hu, hf, Instr.sureAddr, fieldPlace, sizeOf, typeInfo, hi, hsz, hof]

theorem op_fieldAddr [GlobT] (hs : Sim (ftOf T) c) (htr : TR (ftOf T) c tm a.tmps) {x : AOpd} {y : Operand} {t : TypeId} {f off : Nat} {fs : Array Field} {fd : Field} {i : TypeInfo} {v : AV} (ho : o.op = .fieldAddr t y f)
    (h : chkOpd T x y = true) (hu : P.underlying t = some (.struct fs)) (hf : fs[f]? = some fd) (hof : fd.offset = off) (hi : P.info? fd.type = some i) (hsz : i.size ≠ 0)
    (hk : (∃ id tot idx k, getOpd tm x = .ptr id tot idx k ∧ v = .ptr id tot idx (k + off)) ∨ (∃ cs, getOpd tm x = .rptr cs ∧ v = .rptr (cs.drop off))) :
    OpOK P (ftOf T) c fl o a v c.H := by
  have hx := getOpd_rv hs htr h
  rcases hk with ⟨id, tot, idx, k, hk, rfl⟩ | ⟨cs, hk, rfl⟩ <;> rw [hk] at hx
  · obtain ⟨ad, s, n, hv, g1, g2, g3⟩ := hx.ptr_inv
    refine ok_same (cv := .pointer (some (ad.add off))) hs (by simp [execOp, ho, hv, fieldAt_run hu hf hof hi hsz]) ?_
    refine .ptr id tot idx (k + off) _ s n g1 g2 fun e => ?_
    obtain ⟨b, hb, rfl⟩ := g3 e
    exact ⟨b, hb, by rw [addr_add]; simp [Nat.add_assoc]⟩
  · obtain ⟨b, k, cc, Ty, fz, vals, hv, g1, g2, g3, g4⟩ := hx.rptr_inv
    refine ok_same (cv := .pointer (some ⟨b, k + off, none⟩)) hs (by simp [execOp, ho, hv, fieldAt_run hu hf hof hi hsz, addr_add]) ?_
    refine .rptr _ b (k + off) cc Ty fz (fun j => vals (off + j)) g1 g2 ?_ ?_
    · intro j x hx
      rw [List.getElem?_drop] at hx
      have := g3 _ x hx
      rwa [← Nat.add_assoc] at this
    · intro j x hx
      rw [List.getElem?_drop] at hx
      exact g4 _ x hx

/-- A part of an aggregate. -/
theorem part_rv [GlobT] {FT : Nat → Option Nat} {cs : List AV} {cv : Array Value} {t : TypeId} {n off : Nat} {agg : Bool} {v : AV} (hr : RV FT c (.agg cs) (.agg cv))
    (h1 : aggIs P t agg = true) (h2 : sizeIs P t n = true) (hle : off + n ≤ cs.length) (hv : if agg then v = .agg ((cs.drop off).take n) else (cs.drop off).take n = [v]) (h3 : agg = true ∨ n = 1) :
    ∃ r, (part t cv off).run P c.w = .ok r c.w ∧ RV FT c v r := by
  obtain ⟨cv', vals, e, g1, g2, g3⟩ := hr.agg_inv
  cases e
  obtain ⟨i, hi, hsz⟩ := sizeIs_spec h2
  cases agg with
  | true =>
    simp only [if_true] at hv
    subst hv
    refine ⟨.agg (cv.extract off (off + n)), ?_, ?_⟩
    · simp [part, aggIs_run h1, sizeOf, typeInfo, hi, hsz]
    · refine .agg _ _ (fun j => vals (off + j)) (by simp; omega) ?_ ?_
      · intro j x hx
        rw [List.getElem?_take] at hx
        split at hx
        · rename_i hj
          rw [List.getElem?_drop] at hx
          obtain ⟨k1, k2⟩ := g2 _ x hx
          refine ⟨?_, k2⟩
          rw [Array.getElem?_extract]
          rw [if_pos (by omega)]
          exact k1
        · cases hx
      · intro j x hx
        rw [List.getElem?_take] at hx
        split at hx
        · rw [List.getElem?_drop] at hx
          exact g3 _ x hx
        · cases hx
  | false =>
    simp only [Bool.false_eq_true, if_false] at hv
    have hn : n = 1 := by simpa using h3
    subst hn
    have hx : cs[off]? = some v := by
      have : ((cs.drop off).take 1)[0]? = some v := by rw [hv]; rfl
      rw [List.getElem?_take, if_pos (by omega), List.getElem?_drop] at this
      simpa using this
    refine ⟨vals off, ?_, g3 off v hx⟩
    simp [part, aggIs_run h1, (g2 off v hx).1]

theorem op_field [GlobT] (hs : Sim (ftOf T) c) (htr : TR (ftOf T) c tm a.tmps) {x : AOpd} {y : Operand} {t : TypeId} {f off n : Nat} {agg : Bool} {fs : Array Field} {fd : Field} {cs : List AV} {v : AV} (ho : o.op = .field t y f)
    (h : chkOpd T x y = true) (hu : P.underlying t = some (.struct fs)) (hf : fs[f]? = some fd) (hof : fd.offset = off) (h1 : aggIs P fd.type agg = true) (h2 : sizeIs P fd.type n = true) (h3 : agg = true ∨ n = 1)
    (hx : getOpd tm x = .agg cs) (hle : off + n ≤ cs.length) (hv : if agg then v = .agg ((cs.drop off).take n) else (cs.drop off).take n = [v]) :
    OpOK P (ftOf T) c fl o a v c.H := by
  have hr := getOpd_rv hs htr h
  rw [hx] at hr
  obtain ⟨cv, vals, e, _⟩ := hr.agg_inv
  rw [e] at hr
  obtain ⟨r, k1, k2⟩ := part_rv (P := P) hr h1 h2 hle hv h3
  refine ok_same (cv := r) hs ?_ k2
  simp [execOp, ho, e, Instr.field, run_underlying hu, hf, asAgg, hof, k1]

theorem natOf_inv [GlobT] {FT : Nat → Option Nat} {x : AV} {v : Value} {n : Nat} (hr : RV FT c x v) (h : natOf x = some n) : ∃ k, v = .int k n := by
  unfold natOf at h
  split at h
  · rename_i k m
    split at h
    · rename_i hm
      cases h
      exact ⟨k, by rw [hr.lit_inv, Int.toNat_of_nonneg hm]⟩
    · cases h
  · cases h

theorem op_idxAddr [GlobT] (hs : Sim (ftOf T) c) (htr : TR (ftOf T) c tm a.tmps) {x i : AOpd} {y j : Operand} {t e : TypeId} {s n : Nat} {v : AV} (ho : o.op = .indexAddr t y j)
    (h1 : chkOpd T x y = true) (h2 : chkOpd T i j = true) (hu : P.underlying t = some (.slice e)) (hsz : sizeIs P e s = true) (hn : natOf (getOpd tm i) = some n)
    (hk : (∃ f es cs, getOpd tm x = .sl f es ∧ es[n]? = some cs ∧ cs.length = s ∧ v = .rptr cs) ∨
      (∃ id tot off len es, getOpd tm x = .ms id tot off len ∧ c.H[id]? = some (.blk s es) ∧ es.length = tot ∧ n < len ∧ v = .ptr id tot (off + n) 0)) :
    OpOK P (ftOf T) c fl o a v c.H := by
  have hx := getOpd_rv hs htr h1
  obtain ⟨k, hj⟩ := natOf_inv (getOpd_rv hs htr h2) hn
  obtain ⟨ei, hei, hes⟩ := sizeIs_spec hsz
  rcases hk with ⟨f, es, cs, hk, hcs, hlen, rfl⟩ | ⟨id, tot, off, len, es, hk, hob, htot, hlt, rfl⟩ <;> rw [hk] at hx
  · have hp := hx.sl_inv
    generalize hw : a.eval y = w at hp
    cases hp with
    | nil => simp at hcs
    | sl _ _ b off cap cc Ty fz s' vals g1 g2 g3 g4 g5 g6 g7 g8 =>
      have hs' : s' = s := by rw [← hlen, g4 cs (List.mem_of_getElem? hcs)]
      subst hs'
      have hnl : n < es.length := (List.getElem?_eq_some_iff.1 hcs).1
      refine ok_same (cv := .pointer (some ⟨b, off + n * s', none⟩)) hs ?_ ?_
      · simp [execOp, ho, hw, hj, Instr.indexAt, asIntOf, run_underlying hu, sizeOf, typeInfo, hei, hes, hnl, addr_add]
      · refine .rptr cs b (off + n * s') cc Ty fz (fun j => vals n j) g2 g3 ?_ ?_
        · intro j x hx
          have := g7 n j x (by simp [cellE, hcs, hx])
          rwa [← Nat.add_assoc] at this
        · intro j x hx
          exact g8 n j x (by simp [cellE, hcs, hx])
  · obtain ⟨ad, cap, s', n', hv, g1, g2, g3, g4⟩ := hx.ms_inv
    rw [shp_of hob] at g1
    cases g1
    obtain ⟨m1, m2⟩ := g4 htot.symm
    rcases m2 with ⟨_, _, _, m3⟩ | ⟨b, cc, Ty, a', m3, m4, m5, m6, m7⟩
    · omega
    · have ha := m7 (by omega)
      subst ha
      subst m6
      refine ok_same (cv := .pointer (some ⟨b, off * s + n * s, none⟩)) hs ?_ ?_
      · simp [execOp, ho, hv, hj, Instr.indexAt, asIntOf, run_underlying hu, sizeOf, typeInfo, hei, hes, hlt, addr_add]
      · refine .ptr id tot (off + n) 0 _ s _ (shp_of hob) (by omega) fun _ => ⟨b, m3, by simp [Nat.add_mul]⟩

end
end Go.Proofs.YtanonfpdkoijnaaGreatDoor.Av
