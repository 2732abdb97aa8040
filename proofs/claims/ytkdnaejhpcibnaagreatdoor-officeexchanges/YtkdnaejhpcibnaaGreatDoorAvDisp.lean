/- A part of the proofs of laws of the chapter office: an evaluator of the program, proved sound, and what it says. -/
import Derived.Test.YtkdnaejhpcibnaaGreatDoorAvOps3
import Derived.Great.BuildSlice
import Derived.Laws.Tables
import Derived.IntWalk
import Derived.Laws.BytesString
set_option linter.unusedVariables false
set_option linter.unusedSimpArgs false
namespace Go.Proofs.YtkdnaejhpcibnaaGreatDoor.Av
open Go
section
variable {P : Program} {T : List AFun} {c : Ctx} {fl : Nat} {o : Oper} {a : Act} {tm : List AV}
def xP (FT : Nat → Option Nat) (c : Ctx) (cs : List AV) (cv : Array Value) : Prop :=
 cv.size = cs.length ∧ ∀ (j : Nat) (x : AV),cs[j]? = some x → ∃ v,cv[j]? = some v ∧ lB v = true ∧ RV FT c x v
theorem aGk (off : Nat) (v cells : Array Value) : (v.zipIdx.foldl (fun cs (x : Value × Nat) => cs.setIfInBounds (off + x.2) x.1) cells).size = cells.size ∧
  ∀ k,(v.zipIdx.foldl (fun cs (x : Value × Nat) => cs.setIfInBounds (off + x.2) x.1) cells)[k]? = if off ≤ k ∧ k < off + v.size ∧ k < cells.size then v[k - off]? else cells[k]?:=by
 have e : v.zipIdx.foldl (fun cs (x : Value × Nat) => cs.setIfInBounds (off + x.2) x.1) cells = (v.toList.zipIdx 0).foldl (fun cs (x : Value × Nat) => cs.setIfInBounds (off + x.2) x.1) cells:=by
  rw [← Array.foldl_toList]; simp
 rw [e]
 have h:=Great.foldl_set off v.toList 0 cells
 simpa using h
theorem aGm {place : Nat → Option (Nat × Nat)} {cells : Array Value} {i off size : Nat} {v : Value} {rest : List (Nat × Value)} (hp : place i = some (off,size)) (h1 : v.cells.size = size) (h2 : off + size ≤ cells.size) :
  Instr.fill place cells ((i,v) :: rest) = Instr.fill place (v.cells.zipIdx.foldl (fun cs (x : Value × Nat) => cs.setIfInBounds (off + x.2) x.1) cells) rest:=by
 rw [Instr.fill]
 simp only [hp,h1]
 rw [if_neg (by simp; omega)]
theorem aIw [GlobT] (hs : Sim (ftOf T) c) (htr : TR (ftOf T) c tm a.tmps) {place : Nat → Option (Nat × Nat)} : ∀ (ps : List (Nat × Nat × AOpd)) (qs : List (Nat × Operand)) (cells cs : List AV) (cv : Array Value),
  xF T place ps qs = true → xP (ftOf T) c cells cv → aIx cells (ps.map fun (o,s,x) => (o,s,kG tm x)) = some cs →
  ∃ r,Instr.fill place cv (qs.map fun (i,x) => (i,a.eval x)) = some r ∧ xP (ftOf T) c cs r
 | [],[],cells,cs,cv,_,hc,hf => by
  simp only [List.map_nil,aIx,Option.some.injEq] at hf
  subst hf
  exact ⟨cv,rfl,hc⟩
 | (off,s,x) :: ps,(i,y) :: qs,cells,cs,cv,hk,hc,hf => by
  simp only [xF,Bool.and_eq_true] at hk
  obtain ⟨⟨hp,hx⟩,hrest⟩:=hk
  have hp' : place i = some (off,s):=by simpa using hp
  simp only [List.map_cons,aIx] at hf
  split at hf
  ·cases hf
  ·rename_i ys hy
   split at hf
   ·rename_i hcond
    obtain ⟨v1,v2⟩:=uI (kO hs htr hx) hy
    have hvs : (a.eval y).cells.size = s:=v1.trans hcond.1
    obtain ⟨g1,g2⟩:=aGk off (a.eval y).cells cv
    have hnew : xP (ftOf T) c (lG cells off ys) ((a.eval y).cells.zipIdx.foldl (fun cs (x : Value × Nat) => cs.setIfInBounds (off + x.2) x.1) cv):=by
     refine ⟨by rw [g1,lR (by omega)]; exact hc.1,fun j z hz => ?_⟩
     rw [g2 j]
     rw [uA (by omega)] at hz
     have hsz:=hc.1
     split at hz
     ·rename_i hj
      rw [if_neg (by omega)]
      exact hc.2 j z hz
     ·rename_i hj
      split at hz
      ·rename_i hj2
       rw [if_pos (by omega)]
       exact v2 _ z hz
      ·rename_i hj2
       rw [if_neg (by omega)]
       exact hc.2 j z hz
    obtain ⟨r,k1,k2⟩:=aIw hs htr ps qs _ cs _ hrest hnew hf
    refine ⟨r,?_,k2⟩
    simp only [List.map_cons]
    rw [aGm hp' hvs (by rw [hc.1]; exact hcond.2)]
    exact k1
   ·cases hf
 | [],_ :: _,_,_,_,hk,_,_ => by cases hk
 | (_,_,_) :: _,[],_,_,_,hk,_,_ => by cases hk
theorem vG [GlobT] {FT : Nat → Option Nat} {z : List Value} (hsc : ∀ u ∈ z,lB u = true) : xP FT c (z.map .lit) z.toArray:=by
 refine ⟨by simp,fun j x hx => ?_⟩
 simp only [List.getElem?_map,Option.map_eq_some_iff] at hx
 obtain ⟨u,hu,rfl⟩:=hx
 exact ⟨u,by simpa using hu,hsc u (List.mem_of_getElem? hu),RV.lit u⟩
theorem aL9 {FT : Nat → Option Nat} {cs : List AV} {cv : Array Value} (h : xP FT c cs cv) : RV FT c (.agg cs) (.agg cv):=by
 refine .agg cs cv (fun i => (cv[i]?).getD lI) h.1 ?_ ?_
 ·intro i x hx
  obtain ⟨v,g1,g2,_⟩:=h.2 i x hx
  simp [g1,g2]
 ·intro i x hx
  obtain ⟨v,g1,_,g3⟩:=h.2 i x hx
  simpa [g1] using g3
theorem aIb {fs : List Field} (h : aFn P fs = true) : ∃ places,fs.mapM (fun f => (P.info? f.type).map fun i => (f.offset,i.size)) = some places ∧
  ∀ i,places[i]? = yD P fs.toArray i:=by
 induction fs with
 | nil => exact ⟨[],by simp,fun i => by simp [yD]⟩
 | cons f fs ih =>
  simp only [aFn,List.all_cons,Bool.and_eq_true] at h
  obtain ⟨pl,h1,h2⟩:=ih h.2
  obtain ⟨n,hn⟩:=Option.isSome_iff_exists.1 h.1
  refine ⟨(f.offset,n.size) :: pl,by simp [List.mapM_cons,hn,h1],fun i => ?_⟩
  cases i with
  | zero => simp [yD,hn]
  | succ i =>
   have:=h2 i
   simp only [List.getElem?_cons_succ,this]
   simp [yD]
theorem aQp [GlobT] (hs : Sim (ftOf T) c) (htr : TR (ftOf T) c tm a.tmps) {z : List Value} {ps : List (Nat × Nat × AOpd)} {qs : Array (Nat × Operand)} {t : TypeId} {cs : List AV} (ho : o.op = .build t qs)
  (hz : qC P t z = true) (hc : mH P T (.build z ps) (.build t qs) = true) (hf : aIx (z.map .lit) (ps.map fun (o,s,x) => (o,s,kG tm x)) = some cs) :
  OpOK P (ftOf T) c fl o a (.agg cs) c.H:=by
 obtain ⟨i,v,hi,hv,hvc,hsc⟩:=oA hz
 simp only [mH,hz,Bool.true_and] at hc
 have hbuilt : ∃ r,P.built t (qs.map fun (i,x) => (i,a.eval x)).toList = some r ∧ xP (ftOf T) c cs r:=by
  have hql : (qs.map fun (i,x) => (i,a.eval x)).toList = qs.toList.map fun (i,x) => (i,a.eval x):=by simp
  rw [hql]
  split at hc
  ·rename_i fs hu
   simp only [Bool.and_eq_true] at hc
   obtain ⟨pl,h1,h2⟩:=aIb hc.1
   have hpl : (fun i => pl.toArray[i]?) = yD P fs:=by
    funext i
    have:=h2 i
    simpa using this
   obtain ⟨r,k1,k2⟩:=aIw hs htr ps qs.toList _ cs _ hc.2 (vG hsc) hf
   refine ⟨r,?_,k2⟩
   unfold Program.built
   simp only [hi,hu,hv,h1,hpl,hvc]
   exact k1
  ·rename_i n e hu
   split at hc
   ·rename_i ie hie
    obtain ⟨r,k1,k2⟩:=aIw hs htr ps qs.toList _ cs _ hc (vG hsc) hf
    refine ⟨r,?_,k2⟩
    unfold Program.built
    simp only [hi,hu,hv,hie,hvc]
    exact k1
   ·cases hc
  ·cases hc
 obtain ⟨r,k1,k2⟩:=hbuilt
 refine lK (cv:=.agg r) hs ?_ (aL9 k2)
 simp only [execOp,ho,Sem.run_bind,run_build c.w t _ r k1,Result.andThen_ok,Sem.run_pure]
def aR1 (FT : Nat → Option Nat) (c : Ctx) (s : Nat) (es : List (List AV)) (cv : Array Value) : Prop :=
 cv.size = es.length * s ∧ (∀ e ∈ es,e.length = s) ∧ ∀ i j x,mA es i j = some x → ∃ v,cv[i * s + j]? = some v ∧ lB v = true ∧ RV FT c x v
theorem aJ0 [GlobT] (hs : Sim (ftOf T) c) (htr : TR (ftOf T) c tm a.tmps) {s : Nat} : ∀ (ps : List (Nat × AOpd)) (qs : List (Nat × Operand)) (es es' : List (List AV)) (cv : Array Value),
  xH T ps qs = true → aR1 (ftOf T) c s es cv → aA2 s es (ps.map fun (i,x) => (i,kG tm x)) = some es' →
  es'.length = es.length ∧ ∃ r,Instr.fill (fun i => some (i * s,s)) cv (qs.map fun (i,x) => (i,a.eval x)) = some r ∧ aR1 (ftOf T) c s es' r
 | [],[],es,es',cv,_,hc,hf => by
  simp only [List.map_nil,aA2,Option.some.injEq] at hf
  subst hf
  exact ⟨rfl,cv,rfl,hc⟩
 | (i,x) :: ps,(i',y) :: qs,es,es',cv,hk,hc,hf => by
  simp only [xH,Bool.and_eq_true,beq_iff_eq] at hk
  obtain ⟨⟨rfl,hx⟩,hrest⟩:=hk
  simp only [List.map_cons,aA2] at hf
  split at hf
  ·cases hf
  ·rename_i ys hy
   split at hf
   ·rename_i hcond
    obtain ⟨v1,v2⟩:=uI (kO hs htr hx) hy
    have hvs : (a.eval y).cells.size = s:=v1.trans hcond.1
    have hlt : (i + 1) * s ≤ es.length * s:=Nat.mul_le_mul_right s hcond.2
    rw [Nat.add_mul] at hlt
    obtain ⟨g1,g2⟩:=aGk (i * s) (a.eval y).cells cv
    have hnew : aR1 (ftOf T) c s (es.set i ys) ((a.eval y).cells.zipIdx.foldl (fun cs (x : Value × Nat) => cs.setIfInBounds (i * s + x.2) x.1) cv):=by
     refine ⟨by rw [g1]; simpa using hc.1,?_,?_⟩
     ·intro e he
      rcases List.mem_or_eq_of_mem_set he with h | h
      ·exact hc.2.1 e h
      ·rw [h]; exact hcond.1
     ·intro k j z hz
      rw [g2]
      obtain ⟨e1,h1,h2⟩:=mL hz
      by_cases ek : k = i
      ·subst ek
       have : e1 = ys:=by
        rw [List.getElem?_set] at h1
        simp only [hcond.2,if_true] at h1
        exact (Option.some.inj h1).symm
       subst this
       have hj : j < s:=by rw [← hcond.1]; exact (List.getElem?_eq_some_iff.1 h2).1
       have hsz:=hc.1
       rw [if_pos (by omega)]
       obtain ⟨u,w1,w2,w3⟩:=v2 j z h2
       refine ⟨u,?_,w2,w3⟩
       rw [← w1]; congr 1; omega
      ·rw [getElem?_set_ne' ek] at h1
       have hj : j < s:=by rw [← hc.2.1 e1 (List.mem_of_getElem? h1)]; exact (List.getElem?_eq_some_iff.1 h2).1
       have hout : ¬ (i * s ≤ k * s + j ∧ k * s + j < i * s + (a.eval y).cells.size ∧ k * s + j < cv.size):=by
        rcases Nat.lt_or_gt_of_ne ek with h | h
        ·have : (k + 1) * s ≤ i * s:=Nat.mul_le_mul_right s h
         rw [Nat.add_mul] at this; omega
        ·have : (i + 1) * s ≤ k * s:=Nat.mul_le_mul_right s h
         rw [Nat.add_mul] at this; omega
       rw [if_neg hout]
       exact hc.2.2 k j z (by simp [mA,h1,h2])
    obtain ⟨hl,r,k1,k2⟩:=aJ0 hs htr ps qs _ es' _ hrest hnew hf
    refine ⟨by simpa using hl,r,?_,k2⟩
    simp only [List.map_cons]
    rw [aGm (off:=i * s) (size:=s) rfl hvs (by rw [hc.1]; omega)]
    exact k1
   ·cases hf
 | [],_ :: _,_,_,_,hk,_,_ => by cases hk
 | (_,_) :: _,[],_,_,_,hk,_,_ => by cases hk
theorem aCx [GlobT] {n i j : Nat} {e : List AV} {x : AV} (h : mA (List.replicate n e) i j = some x) : i < n ∧ e[j]? = some x:=by
 obtain ⟨e1,h1,h2⟩:=mL h
 rw [List.getElem?_replicate] at h1
 split at h1
 ·cases h1; exact ⟨by assumption,h2⟩
 ·cases h1
theorem xT [GlobT] {FT : Nat → Option Nat} {s n m : Nat} {z : List Value} {cv : Array Value} (hz : z.length = s) (hsc : ∀ u ∈ z,lB u = true) (hv : cv.toList = z) (hnm : n ≤ m) :
  (∀ e ∈ List.replicate n (z.map AV.lit),e.length = s) ∧ ∀ i j x,mA (List.replicate n (z.map AV.lit)) i j = some x →
   ∃ v,((Array.range (m * s)).map (cv[· % cv.size]!))[i * s + j]? = some v ∧ lB v = true ∧ RV FT c x v:=by
 refine ⟨fun e he => by rw [List.mem_replicate] at he; rw [he.2]; simpa using hz,fun i j x hx => ?_⟩
 obtain ⟨hi,hj⟩:=aCx hx
 simp only [List.getElem?_map,Option.map_eq_some_iff] at hj
 obtain ⟨u,hu,rfl⟩:=hj
 have hjs : j < s:=by rw [← hz]; exact (List.getElem?_eq_some_iff.1 hu).1
 have hcs : cv.size = s:=by rw [← Array.length_toList,hv,hz]
 have hlt : i * s + j < m * s:=aDe (by omega) hjs
 have hmod : (i * s + j) % cv.size = j:=by rw [hcs,Nat.mul_comm,Nat.mul_add_mod,Nat.mod_eq_of_lt hjs]
 refine ⟨u,?_,hsc u (List.mem_of_getElem? hu),RV.lit u⟩
 have hcu : cv[j]? = some u:=by rw [← Array.getElem?_toList,hv]; exact hu
 simp only [Array.getElem?_map,Array.getElem?_range,hlt,if_true,Option.map_some,hmod]
 rw [getElem!_def,hcu]
end
end Go.Proofs.YtkdnaejhpcibnaaGreatDoor.Av
namespace Go.Proofs.YtkdnaejhpcibnaaGreatDoor.Av
open Go
section
variable {P : Program} {T : List AFun} {c : Ctx} {fl : Nat} {o : Oper} {a : Act} {tm : List AV}
theorem aV0 [GlobT] {FT : Nat → Option Nat} {x : AV} {v : Value} (h : RV FT c x v) : RP c.w (Imm c) (toP x) v:=by
 cases h with
 | pure _ _ hp =>
  have:=aGa hp
  cases hp with
  | undef v => exact .undef v
  | lit v => exact this
  | nil f a' cap hf => exact this
  | sl f es b off cap cc T fz s vals h1 h2 h3 h4 h5 h6 h7 h8 => exact this
 | _ => exact .undef _
theorem pY [GlobT] {f : AV → AV} {es : List (List AV)} {i j : Nat} {x : AV} (h : mA (es.map fun e => e.map f) i j = some x) : ∃ y,mA es i j = some y ∧ x = f y:=by
 obtain ⟨e1,h1,h2⟩:=mL h
 simp only [List.getElem?_map,Option.map_eq_some_iff] at h1
 obtain ⟨e,he,rfl⟩:=h1
 simp only [List.getElem?_map,Option.map_eq_some_iff] at h2
 obtain ⟨y,hy,rfl⟩:=h2
 exact ⟨y,by simp [mA,he,hy],rfl⟩
theorem rN [GlobT] (hs : Sim (ftOf T) c) (hfl : fl ≤ c.H.length) {s n cap : Nat} {es : List (List AV)} {cv : Array Value} {t : TypeId} {w' : World} (pu : Bool)
  (hn : es.length = n) (hle : n ≤ cap) (hpu : pu = true → cap = n) (hh : w'.heap = c.w.heap.push (.cells cv t (0,0))) (h1 : w'.os = c.w.os) (h2 : w'.tape = c.w.tape) (h3 : w'.output = c.w.output)
  (hr : (execOp a.eval o).run P c.w = .ok (.value (.slice (some ⟨c.w.heap.size,0,none⟩) n cap)) w')
  (hsz : cv.size = cap * s) (hl : ∀ e ∈ es,e.length = s) (hc : ∀ i j x,mA es i j = some x → ∃ v,cv[i * s + j]? = some v ∧ lB v = true ∧ RV (ftOf T) c x v) (hd : c.w.drawn ≤ w'.drawn:=by first | exact Nat.le_refl _ | exact Nat.le_succ _ | exact Nat.le_add_right _ _ | assumption) :
  OpOK P (ftOf T) c fl o a (if pu then .sl true (es.map fun e => e.map toP) else .ms c.H.length n 0 n) (if pu then c.H else c.H ++ [.blk s es]):=by
 cases pu with
 | true =>
  have hcap:=hpu rfl
  subst hcap
  simp only [if_true]
  have hst:=aFr (fl:=fl) hs hh h1 h2 h3
  refine mX (β':=c.β) hr hst (aP5 hs hh h1 h2 h3) (.pure _ _ ?_)
  have himm : Imm ⟨w',c.X,c.β,c.H⟩ c.w.heap.size:=⟨hs.fresh _ (Nat.le_refl _),fun id hid => by have:=hs.lt hid; omega⟩
  by_cases he : es = []
  ·subst he
   simp only [List.length_nil] at hn
   subst hn
   exact .nil true _ 0 (fun _ => rfl)
  ·have hlen : (es.map fun e => e.map toP).length = cap:=by simpa using hn
   have:=RP.sl (w:=w') (I:=Imm ⟨w',c.X,c.β,c.H⟩) true (es.map fun e => e.map toP) c.w.heap.size 0 cap cv t (0,0) s (fun i j => (cv[i * s + j]?).getD lI) (by simpa using he) himm
    (by simp [hh]) (fun e he => by simp only [List.mem_map] at he; obtain ⟨e0,h0,rfl⟩:=he; simpa using hl e0 h0) (by omega) (fun _ => hlen.symm)
    (fun i j x hx => by
     obtain ⟨y,hy,rfl⟩:=pY hx
     obtain ⟨v,g1,g2,g3⟩:=hc i j y hy
     simp [g1,g2])
    (fun i j x hx => by
     obtain ⟨y,hy,rfl⟩:=pY hx
     obtain ⟨v,g1,g2,g3⟩:=hc i j y hy
     simp only [g1,Option.getD_some]
     exact aV0 (g3.step hst))
   rw [hlen] at this
   exact this
 | false =>
  simp only [Bool.false_eq_true,if_false]
  refine mX (β':=upd c.β c.H.length c.w.heap.size) hr (vV hfl hh h1 h2 h3 (fun id b hb => hs.lt hb))
   (aD7 hs hh h1 h2 h3 ?_ ?_ ?_ (fun _ h => by cases h)) ?_
  ·intro s' es' he; cases he; exact hl
  ·intro s' es' he; cases he
   exact ⟨cv,t,rfl,by rw [hsz,hn]; exact Nat.mul_le_mul_right s hle,hc⟩
  ·intro ents he; cases he
  ·refine .ms _ n 0 n _ cap s n (by simp [shp,hn]) (Nat.le_refl _) hle fun _ => ⟨by omega,.inr ⟨c.w.heap.size,cv,t,⟨c.w.heap.size,0,none⟩,mK _ _ _,by simp [hh],by simp [hsz],rfl,fun _ => by simp⟩⟩
theorem aLl [GlobT] (hs : Sim (ftOf T) c) (htr : TR (ftOf T) c tm a.tmps) (hfl : fl ≤ c.H.length) {pu : Bool} {s n : Nat} {z : List Value} {ps : List (Nat × AOpd)} {qs : Array (Nat × Operand)} {t e : TypeId} {es : List (List AV)}
  (ho : o.op = .buildSlice t n qs) (hu : P.underlying t = some (.slice e)) (hsz : mM P e s = true) (hz : qC P e z = true) (hzl : z.length = s) (hs0 : 0 < s) (hsm : n * s ≤ 2 ^ 24)
  (hk : xH T ps qs.toList = true) (hf : aA2 s (List.replicate n (z.map .lit)) (ps.map fun (i,x) => (i,kG tm x)) = some es) :
  OpOK P (ftOf T) c fl o a (if pu then .sl true (es.map fun e => e.map toP) else .ms c.H.length n 0 n) (if pu then c.H else c.H ++ [.blk s es]):=by
 obtain ⟨i,hi,his⟩:=mO hsz
 obtain ⟨i',v,hi',hv,hvc,hsc⟩:=oA hz
 rw [hi] at hi'
 cases hi'
 have hvl : v.cells.toList = z:=by rw [hvc]
 have hzr:=xT (FT:=ftOf T) (c:=c) (n:=n) (m:=n) hzl hsc hvl (Nat.le_refl _)
 have hrow : aR1 (ftOf T) c s (List.replicate n (z.map AV.lit)) ((Array.range (n * s)).map (v.cells[· % v.cells.size]!)):=⟨by simp,hzr.1,hzr.2⟩
 obtain ⟨hl,r,k1,k2⟩:=aJ0 hs htr ps qs.toList _ es _ hk hrow hf
 have hen : es.length = n:=by simpa using hl
 have hql : (qs.map fun (i,x) => (i,a.eval x)).toList = qs.toList.map fun (i,x) => (i,a.eval x):=by simp
 by_cases hn0 : n = 0
 ·subst hn0
  have he : es = []:=List.eq_nil_of_length_eq_zero hen
  subst he
  have hr : r = #[]:=Array.eq_empty_of_size_eq_zero (by simpa using k2.1)
  subst hr
  refine rN hs hfl pu (cap:=0) (cv:=#[]) (t:=e) (w':=c.w.alloc (.cells #[] e (0,0))) rfl (Nat.le_refl _) (fun _ => rfl) rfl rfl rfl rfl ?_ (by simp) (by simp) (fun i j x hx => by simp [mA] at hx)
  have e0 : Array.range 0 = #[]:=rfl
  have k1' : Instr.fill (fun i => some (i * s,s)) #[] (qs.toList.map fun x => (x.fst,a.eval x.snd)) = some #[]:=by simpa [e0] using k1
  simp [execOp,ho,Instr.buildSlice,run_underlying hu,sizeOf,typeInfo,hi,his,k1',newRow,e0]
 ·refine rN hs hfl pu (cap:=n) (cv:=r) (t:=e) (w':=c.w.alloc (.cells r e (0,0))) hen (Nat.le_refl _) (fun _ => rfl) rfl rfl rfl rfl ?_ (by rw [k2.1,hen]) k2.2.1 k2.2.2
  have hrun:=run_buildSlice (P:=P) c.w t e n (qs.map fun (i,x) => (i,a.eval x)) r i v hu hi hv (by rw [his]; omega)
   (by rw [his]; exact Nat.ne_of_gt (Nat.mul_pos (Nat.pos_of_ne_zero hn0) hs0)) (by rw [hql,his]; exact k1)
  simp only [execOp,ho,Sem.run_bind,hrun,Result.andThen_ok,Sem.run_pure]
theorem tV {n : Nat} (h : n ≤ 2 ^ 40) : IntKind.i64.wrap (n : Int) = n:=by
 exact IntWalk.i64_in _ (by omega)
theorem aLj [GlobT] (hs : Sim (ftOf T) c) (htr : TR (ftOf T) c tm a.tmps) (hfl : fl ≤ c.H.length) {s bytes l k : Nat} {z : List Value} {x y : AOpd} {x' y' : Operand} {t e : TypeId}
  (ho : o.op = .makeSlice t x' y') (h1 : kN T x x' = true) (h2 : kN T y y' = true) (hu : P.underlying t = some (.slice e)) (hsz : mM P e s = true) (hby : qP P e bytes = true) (hz : qC P e z = true)
  (hs0 : 0 < s) (hl : oI (kG tm x) = some l) (hk : oI (kG tm y) = some k) (hle : l ≤ k) (hroom : k * bytes ≤ 2 ^ 40) (hk40 : k ≤ 2 ^ 40) (hzl : z.length = s) :
  OpOK P (ftOf T) c fl o a (.ms c.H.length l 0 l) (c.H ++ [.blk s (List.replicate l (z.map .lit))]):=by
 obtain ⟨i,hi,his⟩:=mO hsz
 obtain ⟨i',v,hi',hv,hvc,hsc⟩:=oA hz
 rw [hi] at hi'
 cases hi'
 have hvl : v.cells.toList = z:=by rw [hvc]
 have hbytes : i.bytes = bytes:=by simpa [qP,hi] using hby
 obtain ⟨k1,e1⟩:=pR (kO hs htr h1) hl
 obtain ⟨k2,e2⟩:=pR (kO hs htr h2) hk
 obtain ⟨p1,p2⟩:=xT (FT:=ftOf T) (c:=c) (n:=l) (m:=k) hzl hsc hvl hle
 have:=rN (P:=P) (o:=o) (a:=a) hs hfl false (cap:=k) (cv:=(Array.range (k * s)).map (v.cells[· % v.cells.size]!)) (t:=e) (es:=List.replicate l (z.map AV.lit))
  (w':=c.w.alloc (.cells ((Array.range (k * s)).map (v.cells[· % v.cells.size]!)) e (0,0))) (n:=l) (s:=s) (by simp) hle (by simp) rfl rfl rfl rfl ?_ (by simp) p1 p2
 ·simpa using this
 ·have w1:=tV (n:=l) (by omega)
  have w2:=tV (n:=k) hk40
  have hb1 : ¬ (281474976710656 : Int) < (bytes : Int) * (k : Int):=by
   rw [← Int.natCast_mul,Nat.mul_comm]; omega
  have hlk : ¬ (k : Int) < (l : Int):=by omega
  have hl0 : ¬ (l : Int) < 0:=by omega
  have hk0 : ¬ (k : Int) < 0:=by omega
  simp [hl0,hk0,execOp,ho,Instr.makeSlice,run_underlying hu,asInt,asIntOf,e1,e2,typeInfo,hi,hbytes,w1,w2,hb1,hlk]
  by_cases hk1 : k = 0
  ·subst hk1
   have e0 : Array.range 0 = #[]:=rfl
   simp [sizeOf,typeInfo,hi,his,e0,newRow]
  ·simp [sizeOf,typeInfo,hi,his,zeroValue,hv,newRow]
   intro h0
   have:=Nat.mul_pos (Nat.pos_of_ne_zero hk1) hs0
   omega
def OptN (v : Option Value) (n : Option Nat) : Prop:=(v = none ∧ n = none) ∨ ∃ k m,v = some (.int k (m : Nat)) ∧ n = some m
theorem qU [GlobT] (hs : Sim (ftOf T) c) (htr : TR (ftOf T) c tm a.tmps) {x : Option AOpd} {y : Option Operand} {n : Option Nat} (h : sL T x y = true) (hn : nY tm x = some n) : OptN (y.map a.eval) n:=by
 unfold sL at h
 split at h
 ·simp only [nY,Option.some.injEq] at hn
  subst hn
  exact .inl ⟨rfl,rfl⟩
 ·rename_i x y
  simp only [nY] at hn
  split at hn
  ·rename_i m hm
   cases hn
   obtain ⟨k,hk⟩:=pR (kO hs htr h) hm
   exact .inr ⟨k,m,by simp [hk],rfl⟩
  ·cases hn
 ·cases h
theorem aC1 {k : IntKind} {m y : Nat} {code : BoundsCode} (h : m ≤ y) (w : World) : (Instr.sliceBound (.int k (m : Nat)) y code).run P w = .ok m w:=by
 have h1 : (m : Int) ≤ (y : Int):=by omega
 simp [Instr.sliceBound,asIntOf,h1]
theorem sX [GlobT] {isS : Bool} {len cap : Nat} {vlo vhi vmx : Option Value} {lo hi mx : Option Nat} (h1 : OptN vlo lo) (h2 : OptN vhi hi) (h3 : OptN vmx mx)
  (hm : mx.getD cap ≤ cap) (hh : hi.getD len ≤ mx.getD cap) (hl : lo.getD 0 ≤ hi.getD len) (hx : mx.isSome = true → hi.isSome = true) (w : World) :
  (Instr.sliceBounds isS len cap vlo vhi vmx).run P w = .ok (lo.getD 0,hi.getD len,mx.getD cap) w:=by
 unfold Instr.sliceBounds
 rcases h3 with ⟨rfl,rfl⟩ | ⟨k3,m3,rfl,rfl⟩ <;> rcases h2 with ⟨rfl,rfl⟩ | ⟨k2,m2,rfl,rfl⟩ <;> rcases h1 with ⟨rfl,rfl⟩ | ⟨k1,m1,rfl,rfl⟩ <;> simp at hm hh hl hx ⊢ <;>
  simp [aC1,hm,hh,hl]
theorem sW [GlobT] {t e : TypeId} {s len cap : Nat} {ad : Option Addr} {vlo vhi vmx : Option Value} {lo hi mx : Option Nat} (hu : P.underlying t = some (.slice e)) (hsz : mM P e s = true)
  (h1 : OptN vlo lo) (h2 : OptN vhi hi) (h3 : OptN vmx mx)
  (hm : mx.getD cap ≤ cap) (hh : hi.getD len ≤ mx.getD cap) (hl : lo.getD 0 ≤ hi.getD len) (hx : mx.isSome = true → hi.isSome = true) (w : World) :
  (Instr.sliceAt t (.slice ad len cap) vlo vhi vmx).run P w =
   .ok (.slice (if mx.getD cap = lo.getD 0 then ad else ad.map (·.add (lo.getD 0 * s))) (hi.getD len - lo.getD 0) (mx.getD cap - lo.getD 0)) w:=by
 obtain ⟨i,hi',his⟩:=mO hsz
 simp [Instr.sliceAt,Instr.slice,run_underlying hu,sX h1 h2 h3 hm hh hl hx,sizeOf,typeInfo,hi',his]
theorem aLu {s s' : Nat} {es : List (List AV)} (h : vL s es = true) (hl : ∀ e ∈ es,e.length = s') (hne : es ≠ []) : s' = s:=by
 cases es with
 | nil => exact (hne rfl).elim
 | cons e r =>
  simp only [vL,beq_iff_eq] at h
  rw [← hl e (by simp),h]
theorem aHc [GlobT] {es : List (List AV)} {h l i j : Nat} {x : AV} (hx : mA ((es.take h).drop l) i j = some x) : mA es (l + i) j = some x:=by
 obtain ⟨e,h1,h2⟩:=mL hx
 rw [List.getElem?_drop,List.getElem?_take] at h1
 split at h1
 ·simp [mA,h1,h2]
 ·cases h1
theorem aR7 [GlobT] {w : World} {I : Nat → Prop} {f f' : Bool} {es : List (List AV)} {s l h m len cap : Nat} {ad : Option Addr} (hp : RP w I (.sl f es) (.slice ad len cap)) (hs : vL s es = true)
  (hlh : l ≤ h) (hhm : h ≤ m) (hle : h ≤ es.length) (hf : f' = true → m = h) :
  RP w I (.sl f' ((es.take h).drop l)) (.slice (if m = l then ad else ad.map (·.add (l * s))) (h - l) (m - l)):=by
 by_cases he : h = l
 ·subst he
  have : (es.take h).drop h = []:=List.drop_eq_nil_of_le (by simp; omega)
  rw [this,Nat.sub_self]
  exact .nil f' _ _ (fun e => by have:=hf e; omega)
 ·cases hp with
  | nil => simp at hle; omega
  | sl _ _ b off _ cc T fz s' vals g1 g2 g3 g4 g5 g6 g7 g8 =>
   have es' : s' = s:=aLu hs g4 g1
   subst es'
   have hlen : ((es.take h).drop l).length = h - l:=by simp; omega
   rw [if_neg (by omega),← hlen]
   simp only [Option.map_some,nU]
   refine .sl f' _ b (off + l * s') (m - l) cc T fz s' (fun i j => vals (l + i) j) ?_ g2 g3 ?_ (by omega) (fun e => by have:=hf e; omega) ?_ ?_
   ·intro e; rw [e] at hlen; simp at hlen; omega
   ·intro e he'; exact g4 e (List.mem_of_mem_take (List.mem_of_mem_drop he'))
   ·intro i j x hx
    have:=g7 _ _ x (aHc hx)
    rwa [show off + ((l + i) * s' + j) = off + l * s' + (i * s' + j) by rw [Nat.add_mul]; omega] at this
   ·intro i j x hx
    exact g8 _ _ x (aHc hx)
theorem aR8 {w : World} {I : Nat → Prop} {f : Bool} {es : List (List AV)} {v : Value} (hp : RP w I (.sl f es) v) : ∃ ad cap,v = .slice ad es.length cap ∧ es.length ≤ cap ∧ (f = true → cap = es.length):=by
 cases hp with
 | nil _ ad cap hf => exact ⟨ad,cap,rfl,Nat.zero_le _,hf⟩
 | sl _ _ b off cap cc T fz s' vals g1 g2 g3 g4 g5 g6 g7 g8 => exact ⟨_,cap,rfl,g5,g6⟩
theorem aQi [GlobT] (hs : Sim (ftOf T) c) (htr : TR (ftOf T) c tm a.tmps) {x : AOpd} {y : Operand} {lo hi mx : Option AOpd} {lo' hi' mx' : Option Operand} {t e : TypeId} {s : Nat} {nlo nhi nmx : Option Nat} {v : AV}
  (ho : o.op = .slice t y lo' hi' mx') (h0 : kN T x y = true) (h1 : sL T lo lo' = true) (h2 : sL T hi hi' = true) (h3 : sL T mx mx' = true)
  (hu : P.underlying t = some (.slice e)) (hsz : mM P e s = true) (n1 : nY tm lo = some nlo) (n2 : nY tm hi = some nhi) (n3 : nY tm mx = some nmx)
  (hv : uN c.H s (kG tm x) nlo nhi nmx = some v) : OpOK P (ftOf T) c fl o a v c.H:=by
 have hx:=kO hs htr h0
 have o1:=qU hs htr h1 n1
 have o2:=qU hs htr h2 n2
 have o3:=qU hs htr h3 n3
 have hexec : ∀ (u r : Value),a.eval y = u → (Instr.sliceAt t u (lo'.map a.eval) (hi'.map a.eval) (mx'.map a.eval)).run P c.w = .ok r c.w → (execOp a.eval o).run P c.w = .ok (.value r) c.w:=by
  intro u r hu' hr
  subst hu'
  simp only [execOp,ho,Sem.run_bind,hr,Result.andThen_ok,Sem.run_pure]
 unfold uN at hv
 split at hv
 ·rename_i hxe
  rw [hxe] at hx
  split at hv
  ·rename_i hc
   cases hv
   obtain ⟨c1,c2,c3,c4⟩:=hc
   refine lK (cv:=nilS) hs ?_ (RV.lit _)
   have:=sW (P:=P) (ad:=none) (len:=0) (cap:=0) hu hsz o1 o2 o3 (by omega) (by omega) (by omega) (by simpa using c4) c.w
   simp only [execOp,ho,hx.lit_inv,Sem.run_bind,this,Result.andThen_ok,Sem.run_pure,c1,c2,c3]
   rfl
  ·cases hv
 ·rename_i f es hxe
  rw [hxe] at hx
  have hp:=hx.sl_inv
  obtain ⟨ad,cap,hav,hcap,hfull⟩:=aR8 hp
  rw [hav] at hp
  split at hv
  ·simp only [] at hv
   split at hv
   ·rename_i hc
    cases hv
    have hrun:=sW (P:=P) (ad:=ad) (len:=es.length) (cap:=cap) hu hsz o1 o2 o3 (by simp) (by simp; omega) (by simpa using hc.1) (by simp) c.w
    refine lK hs (hexec _ _ hav hrun) (.pure _ _ (aR7 (m:=cap) hp hc.2.2 hc.1 (by omega) hc.2.1 ?_))
    intro e
    simp only [Bool.and_eq_true,beq_iff_eq] at e
    rw [hfull e.1,e.2]
   ·cases hv
  ·rename_i m
   split at hv
   ·cases hv
   ·rename_i h
    simp only [] at hv
    split at hv
    ·rename_i hc
     cases hv
     have hrun:=sW (P:=P) (ad:=ad) (len:=es.length) (cap:=cap) hu hsz o1 o2 o3 (by simp; omega) (by simp; omega) (by simpa using hc.1) (by simp) c.w
     refine lK hs (hexec _ _ hav hrun) (.pure _ _ ?_)
     simp only [Option.getD_some]
     refine aR7 hp hc.2.2.2 hc.1 hc.2.1 (by omega) ?_
     intro e
     simpa using (beq_iff_eq.1 e).symm
    ·cases hv
 ·rename_i id tot off len hxe
  rw [hxe] at hx
  obtain ⟨ad,cap,s0,n0,hav,g1,g2,g3,g4⟩:=hx.ms_inv
  split at hv
  ·simp only [] at hv
   split at hv
   ·rename_i s' es hob
    split at hv
    ·rename_i hc
     cases hv
     obtain ⟨c1,c2,rfl⟩:=hc
     rw [pQ hob] at g1
     cases g1
     have hrun:=sW (P:=P) (ad:=ad) (len:=len) (cap:=cap) hu hsz o1 o2 o3 (by simp) (by simp; omega) (by simpa using c1) (by simp) c.w
     refine lK hs (hexec _ _ hav hrun) ?_
     simp only [Option.getD_none]
     refine .ms id tot _ _ _ _ s0 _ (pQ hob) g2 (by omega) fun et => ?_
     obtain ⟨m1,m2⟩:=g4 et
     refine ⟨by omega,?_⟩
     rcases m2 with ⟨m3,m4,m5,m6⟩ | ⟨b,cc,Ty,a',m3,m4,m5,m6,m7⟩
     ·subst m5
      exact .inl ⟨m3,m4,by split <;> rfl,by omega⟩
     ·refine .inr ⟨b,cc,Ty,if cap = nlo.getD 0 then a' else a'.add (nlo.getD 0 * s0),m3,m4,?_,?_,?_⟩
      ·rw [← m5]; congr 1; omega
      ·subst m6; split <;> rfl
      ·intro hne
       rw [if_neg (by omega),m7 (by omega),nU,Nat.add_mul]
    ·cases hv
   ·cases hv
  ·rename_i m
   split at hv
   ·cases hv
   ·rename_i h
    simp only [] at hv
    split at hv
    ·rename_i hc
     cases hv
     obtain ⟨c1,c2,c3⟩:=hc
     have hrun:=sW (P:=P) (ad:=ad) (len:=len) (cap:=cap) hu hsz o1 o2 o3 (by simp; omega) (by simp; omega) (by simp; omega) (by simp) c.w
     refine lK hs (hexec _ _ hav hrun) ?_
     simp only [Option.getD_some]
     have e1 : h - nlo.getD 0 = 0:=by omega
     have e2 : m - nlo.getD 0 = 0:=by omega
     rw [e1,e2]
     exact .pure _ _ (.nil true _ 0 (fun _ => rfl))
    ·cases hv
 ·cases hv
end
end Go.Proofs.YtkdnaejhpcibnaaGreatDoor.Av
namespace Go.Proofs.YtkdnaejhpcibnaaGreatDoor.Av
open Go
section
variable {P : Program} {T : List AFun} {c : Ctx} {fl : Nat} {o : Oper} {a : Act} {tm : List AV}
theorem aH3 [GlobT] (hs : Sim (ftOf T) c) (htr : TR (ftOf T) c tm a.tmps) {x : AOpd} {y : Operand} {lo hi : Option AOpd} {lo' hi' : Option Operand} {t : TypeId} {nlo nhi : Option Nat} {s : ByteArray}
  (ho : o.op = .slice t y lo' hi' none) (h0 : kN T x y = true) (h1 : sL T lo lo' = true) (h2 : sL T hi hi' = true) (hu : P.underlying t = some .string)
  (n1 : nY tm lo = some nlo) (n2 : nY tm hi = some nhi) (hx : kG tm x = .lit (.string s)) (hc : nlo.getD 0 ≤ nhi.getD s.size ∧ nhi.getD s.size ≤ s.size) :
  OpOK P (ftOf T) c fl o a (.lit (.string (s.extract (nlo.getD 0) (nhi.getD s.size)))) c.H:=by
 have hv:=kO hs htr h0
 rw [hx] at hv
 have o1:=qU hs htr h1 n1
 have o2:=qU hs htr h2 n2
 refine lK (cv:=.string (s.extract (nlo.getD 0) (nhi.getD s.size))) hs ?_ (RV.lit _)
 have:=sX (P:=P) (isS:=false) (len:=s.size) (cap:=s.size) (vmx:=none) (mx:=none) o1 o2 (.inl ⟨rfl,rfl⟩) (by simp) (by simpa using hc.2) hc.1 (by simp) c.w
 simp [execOp,ho,hv.lit_inv,Instr.sliceAt,Instr.slice,run_underlying hu,this]
theorem aEd {α β : Type} (x : Sem α) (f : α → Sem β) : kM P (x.bind f) = (kM P x).bind fun a => kM P (f a):=by
 induction x with
 | pure a => rfl
 | program k ih => simp only [Sem.bind,kM]; exact ih P
 | mark m k ih => simp only [Sem.bind,kM]; exact ih
 | _ => rfl
theorem mC [GlobT] {α β : Type} (x : Sem α) (f : α → Sem β) : kM P (x >>= f) = (kM P x).bind fun a => kM P (f a):=aEd x f
theorem mI {α : Type} (x : α) : kM P (pure x : Sem α) = some x:=rfl
theorem aAf {α : Type} {p : Prop} [Decidable p] (x y : Sem α) : kM P (if p then x else y) = if p then kM P x else kM P y:=by split <;> rfl
theorem aA0 [GlobT] {kind : TypeDesc} {k : Value} : ∀ (es1 es2 : List MapEntry) (i : Nat),es1.map (·.key) = es2.map (·.key) →
  (Instr.findNow kind k es1 i).map (·.map (·.1)) = (Instr.findNow kind k es2 i).map (·.map (·.1))
 | [],[],_,_ => rfl
 | e1 :: r1,e2 :: r2,i,h => by
  simp only [List.map_cons,List.cons.injEq] at h
  simp only [Instr.findNow,h.1]
  split
  ·rfl
  ·exact aA0 r1 r2 (i + 1) h.2
  ·rfl
 | [],_ :: _,_,h => by cases h
 | _ :: _,[],_,h => by cases h
theorem aAz [GlobT] {kind : TypeDesc} {k v : Value} {j : Nat} : ∀ (es : List MapEntry) (i : Nat),Instr.findNow kind k es i = some (some (j,v)) → i ≤ j ∧ ∃ e,es[j - i]? = some e ∧ v = e.val
 | [],_,h => by cases h
 | e :: r,i,h => by
  simp only [Instr.findNow] at h
  split at h
  ·cases h; exact ⟨Nat.le_refl _,e,by simp,rfl⟩
  ·obtain ⟨h1,e',h2,h3⟩:=aAz r (i + 1) h
   refine ⟨by omega,e',?_,h3⟩
   have : j - i = (j - (i + 1)) + 1:=by omega
   rw [this,List.getElem?_cons_succ]; exact h2
  ·cases h
theorem uR [GlobT] {kt : TypeId} {k : Value} : ∀ (es1 es2 : List MapEntry) (i : Nat),es1.map (·.key) = es2.map (·.key) →
  (kM P (Instr.findAsking kt k es1 i)).map (·.map (·.1)) = (kM P (Instr.findAsking kt k es2 i)).map (·.map (·.1))
 | [],[],_,_ => rfl
 | e1 :: r1,e2 :: r2,i,h => by
  simp only [List.map_cons,List.cons.injEq] at h
  simp only [Instr.findAsking,h.1,mC,aAf,mI]
  cases kM P (Op.equal kt k e2.key) with
  | none => rfl
  | some b =>
   simp only [Option.bind_some]
   split
   ·rfl
   ·exact uR r1 r2 (i + 1) h.2
 | [],_ :: _,_,h => by cases h
 | _ :: _,[],_,h => by cases h
theorem uQ [GlobT] {kt : TypeId} {k v : Value} {j : Nat} : ∀ (es : List MapEntry) (i : Nat),kM P (Instr.findAsking kt k es i) = some (some (j,v)) → i ≤ j ∧ ∃ e,es[j - i]? = some e ∧ v = e.val
 | [],_,h => by simp [Instr.findAsking,mI] at h
 | e :: r,i,h => by
  simp only [Instr.findAsking,mC,aAf,mI] at h
  cases hq : kM P (Op.equal kt k e.key) with
  | none => rw [hq] at h; cases h
  | some b =>
   rw [hq] at h
   simp only [Option.bind_some] at h
   split at h
   ·cases h; exact ⟨Nat.le_refl _,e,by simp,rfl⟩
   ·obtain ⟨h1,e',h2,h3⟩:=uQ r (i + 1) h
    refine ⟨by omega,e',?_,h3⟩
    have : j - i = (j - (i + 1)) + 1:=by omega
    rw [this,List.getElem?_cons_succ]; exact h2
theorem qE [GlobT] {t : TypeId} : kM P (underlying t) = P.underlying t:=by
 unfold underlying
 rw [mC]
 have : kM P program = some P:=rfl
 rw [this]
 simp only [Option.bind_some]
 split
 ·rename_i h; rw [h]; rfl
 ·rename_i h; rw [h]; rfl
theorem aA1 [GlobT] {kt : TypeId} {k : Value} {es1 es2 : List MapEntry} (h : es1.map (·.key) = es2.map (·.key)) :
  (kM P (Instr.findKey kt k es1)).map (·.map (·.1)) = (kM P (Instr.findKey kt k es2)).map (·.map (·.1)):=by
 simp only [Instr.findKey,mC,qE]
 cases P.underlying kt with
 | none => rfl
 | some d =>
  simp only [Option.bind_some]
  have hn:=aA0 (kind:=d) (k:=k) es1 es2 0 h
  cases h1 : Instr.findNow d k es1 0 with
  | none =>
   cases h2 : Instr.findNow d k es2 0 with
   | none => exact uR es1 es2 0 h
   | some r2 => rw [h1,h2] at hn; cases hn
  | some r1 =>
   cases h2 : Instr.findNow d k es2 0 with
   | none => rw [h1,h2] at hn; cases hn
   | some r2 => rw [h1,h2] at hn; exact hn
theorem aIv [GlobT] {kt : TypeId} {k v : Value} {j : Nat} {es : List MapEntry} (h : kM P (Instr.findKey kt k es) = some (some (j,v))) : ∃ e,es[j]? = some e ∧ v = e.val:=by
 simp only [Instr.findKey,mC,qE] at h
 cases hu : P.underlying kt with
 | none => rw [hu] at h; cases h
 | some d =>
  rw [hu] at h
  simp only [Option.bind_some] at h
  split at h
  ·rename_i r hr
   simp only [mI,Option.some.injEq] at h
   subst h
   obtain ⟨_,e,h1,h2⟩:=aAz es 0 hr
   exact ⟨e,by simpa using h1,h2⟩
  ·obtain ⟨_,e,h1,h2⟩:=uQ es 0 h
   exact ⟨e,by simpa using h1,h2⟩
def yK (FT : Nat → Option Nat) (c : Ctx) (ents : List (Value × AV)) (es : Array MapEntry) : Prop :=
 es.size = ents.length ∧ ∀ (i : Nat) (k : Value) (x : AV),ents[i]? = some (k,x) → ∃ e,es[i]? = some e ∧ e.key = k ∧ RV FT c x e.val
theorem aDx {FT : Nat → Option Nat} {ents : List (Value × AV)} {es : Array MapEntry} (h : yK FT c ents es) :
  (ents.map fun e => ({ key:=e.1,val:=.bool false,born:=0 } : MapEntry)).map (·.key) = es.toList.map (·.key):=by
 apply List.ext_getElem?
 intro i
 simp only [List.map_map,List.getElem?_map]
 cases he : ents[i]? with
 | none =>
  have : es.toList[i]? = none:=by
   rw [List.getElem?_eq_none_iff] at he ⊢
   simp only [Array.length_toList,h.1]; exact he
  rw [this]; rfl
 | some p =>
  obtain ⟨k,x⟩:=p
  obtain ⟨e,h1,h2,_⟩:=h.2 i k x he
  have : es.toList[i]? = some e:=by simpa using h1
  rw [this]
  simp [h2]
theorem yB [GlobT] {FT : Nat → Option Nat} {kt : TypeId} {k : Value} {ents : List (Value × AV)} {es : Array MapEntry} {i : Nat} (h : yK FT c ents es) (hf : pT P kt k ents = some (some i)) (w : World) :
  ∃ e,es[i]? = some e ∧ (Instr.findKey kt k es.toList).run P w = .ok (some (i,e.val)) w:=by
 have hr:=aA1 (P:=P) (kt:=kt) (k:=k) (aDx h)
 unfold pT at hf
 split at hf
 ·rename_i j v hj
  cases hf
  rw [hj] at hr
  cases hq : kM P (Instr.findKey kt k es.toList) with
  | none => rw [hq] at hr; cases hr
  | some r =>
   rw [hq] at hr
   cases r with
   | none => cases hr
   | some p =>
    obtain ⟨j',v'⟩:=p
    have : i = j':=by simpa using hr
    subst this
    obtain ⟨e,h1,h2⟩:=aIv hq
    exact ⟨e,by simpa using h1,by rw [lJ hq,h2]⟩
 ·cases hf
 ·cases hf
theorem yC [GlobT] {FT : Nat → Option Nat} {kt : TypeId} {k : Value} {ents : List (Value × AV)} {es : Array MapEntry} (h : yK FT c ents es) (hf : pT P kt k ents = some none) (w : World) :
  (Instr.findKey kt k es.toList).run P w = .ok none w:=by
 have hr:=aA1 (P:=P) (kt:=kt) (k:=k) (aDx h)
 unfold pT at hf
 split at hf
 ·cases hf
 ·rename_i hj
  rw [hj] at hr
  cases hq : kM P (Instr.findKey kt k es.toList) with
  | none => rw [hq] at hr; cases hr
  | some r =>
   rw [hq] at hr
   cases r with
   | none => exact lJ hq
   | some p => cases hr
 ·cases hf
theorem aRn [GlobT] (hs : Sim (ftOf T) c) {id b : Nat} {ents : List (Value × AV)} (ho : c.H[id]? = some (.mp ents)) (hb : c.β id = some b) :
  ∃ es clk,c.w.heap[b]? = some (.map es clk) ∧ yK (ftOf T) c ents es:=by
 obtain ⟨es,clk,h1,h2,h3⟩:=hs.map id ents b ho hb
 exact ⟨es,clk,h1,h2.1,h3⟩
theorem aKy [GlobT] (hs : Sim (ftOf T) c) {id b : Nat} {ents : List (Value × AV)} (ho : c.H[id]? = some (.mp ents)) (hb : c.β id = some b) :
  ∃ es clk,c.w.heap[b]? = some (.map es clk) ∧ yK (ftOf T) c ents es ∧ ∀ e ∈ es.toList,e.born < clk:=by
 obtain ⟨es,clk,h1,h2,h3⟩:=hs.map id ents b ho hb
 exact ⟨es,clk,h1,⟨h2.1,h3⟩,h2.2⟩
theorem nG {w : World} {b : Nat} {es : Array MapEntry} {clk : Nat} (h : w.heap[b]? = some (.map es clk)) : (getObj b).run P w = .ok (.map es clk) w:=by
 simp [getObj,Sem.run,h]
theorem aDl {FT : Nat → Option Nat} {ents : List (Value × AV)} {es : Array MapEntry} (h : yK FT c ents es) : es.isEmpty = ents.isEmpty:=by
 have:=h.1
 cases ents with
 | nil => simp at this; simp [this]
 | cons e r =>
  have : es ≠ #[]:=by intro e; subst e; simp at this
  simp [this]
theorem aF6 [GlobT] (hs : Sim (ftOf T) c) (htr : TR (ftOf T) c tm a.tmps) {kt e t : TypeId} {z m k : AOpd} {m' k' : Operand} {ok : Bool} {ents : List (Value × AV)} {kv : Value} {r v : AV} {i : TypeInfo} {zv : Value}
  (ho : o.op = .lookup t m' k' ok) (h1 : kN T m m' = true) (h2 : kN T k k' = true) (hu : P.underlying t = some (.map kt e)) (hi : P.info? e = some i) (hz : i.zero = some zv) (hzr : RV (ftOf T) c (kG tm z) zv)
  (hk : lits (kG tm k) = some kv) (hck : kM P (Instr.checkKey ents.isEmpty 10000 kt kv) = some ())
  (hm : (kG tm m = .lit (.map none) ∧ ents = []) ∨ ∃ id,kG tm m = .mp id ∧ c.H[id]? = some (.mp ents))
  (hr : (∃ i e,pT P kt kv ents = some (some i) ∧ ents[i]? = some e ∧ r = e.2 ∧ v = .lit (.bool true)) ∨ (pT P kt kv ents = some none ∧ r = kG tm z ∧ v = .lit (.bool false))) :
  OpOK P (ftOf T) c fl o a (if ok then .tup [r,v] else r) c.H:=by
 have hm':=kO hs htr h1
 have hkv:=aAn (kO hs htr h2) hk
 have hes : ∃ es : Array MapEntry,yK (ftOf T) c ents es ∧ ((a.eval m' = .map none ∧ es = #[]) ∨ ∃ b clk,a.eval m' = .map (some b) ∧ c.w.heap[b]? = some (.map es clk)):=by
  rcases hm with ⟨hm,rfl⟩ | ⟨id,hm,hob⟩ <;> rw [hm] at hm'
  ·exact ⟨#[],⟨rfl,fun i k x hx => by simp at hx⟩,.inl ⟨hm'.lit_inv,rfl⟩⟩
  ·obtain ⟨b,hv,_,hb⟩:=hm'.mp_inv
   obtain ⟨es,clk,g1,g2⟩:=aRn hs hob hb
   exact ⟨es,g2,.inr ⟨b,clk,hv,g1⟩⟩
 obtain ⟨es,hE,hK⟩:=hes
 have hck' : (Instr.checkKey es.isEmpty 10000 kt kv).run P c.w = .ok () c.w:=by rw [aDl hE]; exact lJ hck
 have hres : ∃ (cr : Value) (b : Bool),RV (ftOf T) c r cr ∧ v = .lit (.bool b) ∧ (Instr.lookup t (a.eval m') kv ok).run P c.w = .ok (if ok then .tuple #[cr,.bool b] else cr) c.w:=by
  rcases hr with ⟨i0,en,hf,hen,rfl,rfl⟩ | ⟨hf,rfl,rfl⟩
  ·obtain ⟨e',g1,g2⟩:=yB hE hf c.w
   obtain ⟨k0,x0⟩:=en
   obtain ⟨e'',g3,_,g4⟩:=hE.2 i0 k0 x0 hen
   rw [g1] at g3
   cases g3
   refine ⟨e'.val,true,g4,rfl,?_⟩
   rcases hK with ⟨hv,rfl⟩ | ⟨b,clk,hv,hb⟩
   ·simp at g1
   ·simp [Instr.lookup,run_underlying hu,hv,nG hb,hck',g2]
  ·have g2:=yC hE hf c.w
   refine ⟨zv,false,hzr,rfl,?_⟩
   rcases hK with ⟨hv,rfl⟩ | ⟨b,clk,hv,hb⟩
   ·simp only [Array.isEmpty_empty] at hck'
    simp [Instr.lookup,run_underlying hu,hv,hck',g2,zeroValue,typeInfo,hi,hz]
   ·simp [Instr.lookup,run_underlying hu,hv,nG hb,hck',g2,zeroValue,typeInfo,hi,hz]
 obtain ⟨cr,b,k1,rfl,k3⟩:=hres
 refine lK (cv:=if ok then .tuple #[cr,.bool b] else cr) hs (by simp [execOp,ho,hkv,k3]) ?_
 cases ok with
 | false => simpa using k1
 | true =>
  simp only [if_true]
  refine .tup _ _ (fun i => if i = 0 then cr else .bool b) rfl ?_ ?_
  ·intro i x hx
   match i with
   | 0 => rfl
   | 1 => rfl
   | n + 2 => simp at hx
  ·intro i x hx
   match i with
   | 0 => simp at hx; subst hx; simpa using k1
   | 1 => simp at hx; subst hx; exact RV.lit _
   | n + 2 => simp at hx
theorem aPg {FT : Nat → Option Nat} {ents : List (Value × AV)} {es : Array MapEntry} {i : Nat} {k : Value} {x : AV} {v : Value} {e : MapEntry} (h : yK FT c ents es) (he : es[i]? = some e) (hr : RV FT c x v) :
  yK FT c (ents.set i (k,x)) (es.modify i fun e => { e with key:=k,val:=v }):=by
 refine ⟨by simpa using h.1,fun j k' x' hx => ?_⟩
 rw [List.getElem?_set] at hx
 split at hx
 ·rename_i hij
  subst hij
  split at hx
  ·cases hx
   refine ⟨{ e with key:=k,val:=v },?_,rfl,hr⟩
   rw [Array.getElem?_modify]; simp [he]
  ·cases hx
 ·rename_i hij
  obtain ⟨e',g1,g2,g3⟩:=h.2 j k' x' hx
  refine ⟨e',?_,g2,g3⟩
  rw [Array.getElem?_modify]; simp [hij,g1]
theorem aL7 {FT : Nat → Option Nat} {ents : List (Value × AV)} {es : Array MapEntry} {k : Value} {x : AV} {v : Value} {n : Nat} (h : yK FT c ents es) (hr : RV FT c x v) :
  yK FT c (ents ++ [(k,x)]) (es.push { key:=k,val:=v,born:=n }):=by
 refine ⟨by simp [h.1],fun j k' x' hx => ?_⟩
 rw [List.getElem?_append] at hx
 split at hx
 ·rename_i hj
  obtain ⟨e',g1,g2,g3⟩:=h.2 j k' x' hx
  refine ⟨e',?_,g2,g3⟩
  rw [Array.getElem?_push,if_neg (by rw [h.1]; omega)]; exact g1
 ·rename_i hj
  rw [List.getElem?_singleton] at hx
  split at hx
  ·rename_i h0
   cases hx
   refine ⟨{ key:=k,val:=v,born:=n },?_,rfl,hr⟩
   rw [Array.getElem?_push,if_pos (by rw [h.1]; omega)]
  ·cases hx
theorem aFp {es : Array MapEntry} {clk i : Nat} {f : MapEntry → MapEntry} (h : ∀ e ∈ es.toList,e.born < clk) (hf : ∀ e,(f e).born = e.born) : ∀ e ∈ (es.modify i f).toList,e.born < clk:=by
 intro e he
 obtain ⟨j,hj,rfl⟩:=List.mem_iff_getElem.1 he
 simp only [Array.getElem_toList,Array.getElem_modify]
 have hj' : j < es.size:=by simpa using hj
 have:=h es[j] (by simp)
 split
 ·rw [hf]; exact this
 ·exact this
theorem aK6 {es : Array MapEntry} {clk : Nat} {k v : Value} (h : ∀ e ∈ es.toList,e.born < clk) : ∀ e ∈ (es.push { key:=k,val:=v,born:=clk }).toList,e.born < clk + 1:=by
 intro e he
 simp only [Array.toList_push,List.mem_append,List.mem_singleton] at he
 rcases he with he | rfl
 ·exact Nat.lt_succ_of_lt (h e he)
 ·exact Nat.lt_succ_self _
theorem aHm {es : Array MapEntry} {clk i : Nat} (h : ∀ e ∈ es.toList,e.born < clk) (hi : i < es.size) : ∀ e ∈ (es.eraseIdxIfInBounds i).toList,e.born < clk:=by
 intro e he
 simp only [Array.eraseIdxIfInBounds,hi,dif_pos,Array.toList_eraseIdx] at he
 exact h e (List.mem_of_mem_eraseIdx he)
theorem aF5 [GlobT] (hs : Sim (ftOf T) c) (htr : TR (ftOf T) c tm a.tmps) {kt e t : TypeId} {m k x : AOpd} {m' k' x' : Operand} {ents ents' : List (Value × AV)} {kv : Value} {id : Nat}
  (ho : o.op = .mapUpdate t m' k' x' ∨ o.op = .insert t m' k' x') (h1 : kN T m m' = true) (h2 : kN T k k' = true) (h3 : kN T x x' = true) (hu : P.underlying t = some (.map kt e))
  (hk : lits (kG tm k) = some kv) (hck : kM P (Instr.checkKey false 10000 kt kv) = some ()) (hfl : fl ≤ id)
  (hm : kG tm m = .mp id) (hob : c.H[id]? = some (.mp ents))
  (hr : (∃ i en,pT P kt kv ents = some (some i) ∧ ents[i]? = some en ∧ Instr.sameBits 10000 en.1 kv = true ∧ ents' = ents.set i (kv,kG tm x)) ∨ (pT P kt kv ents = some none ∧ ents' = ents ++ [(kv,kG tm x)])) :
  OpOK P (ftOf T) c fl o a (.lit lI) (c.H.set id (.mp ents')):=by
 have hm':=kO hs htr h1
 rw [hm] at hm'
 have hkv:=aAn (kO hs htr h2) hk
 have hx:=kO hs htr h3
 obtain ⟨b,hv,_,hb⟩:=hm'.mp_inv
 obtain ⟨es,clk,g1,hE,hY⟩:=aKy hs hob hb
 have hck':=lJ (w:=c.w) hck
 have hset : ∀ ob,(setObj b ob).run P c.w = .ok () { c.w with heap:=c.w.heap.setIfInBounds b ob }:=by
  intro ob; simp [setObj,Sem.run,g1]
 have hrun : ∃ es' clk',(yK (ftOf T) c ents' es' ∧ ∀ e ∈ es'.toList,e.born < clk') ∧ (Instr.mapUpdate t (a.eval m') kv (a.eval x')).run P c.w = .ok () { c.w with heap:=c.w.heap.setIfInBounds b (.map es' clk') }:=by
  rcases hr with ⟨i0,en,hf,hen,hsb,rfl⟩ | ⟨hf,rfl⟩
  ·obtain ⟨e',k1,k2⟩:=yB hE hf c.w
   obtain ⟨k0,x0⟩:=en
   obtain ⟨e'',k3,k4,_⟩:=hE.2 i0 k0 x0 hen
   rw [k1] at k3
   cases k3
   refine ⟨es.modify i0 fun e => { e with key:=kv,val:=a.eval x' },clk,⟨aPg hE k1 hx,aFp hY fun _ => rfl⟩,?_⟩
   have hks : (Instr.keyThatStays e'.key kv).run P c.w = .ok kv c.w:=by
    simp only at hsb
    simp [Instr.keyThatStays,k4,hsb]
   simp [Instr.mapUpdate,run_underlying hu,hv,nG g1,hck',k2,k1,hks,hset]
  ·have k2:=yC hE hf c.w
   refine ⟨es.push { key:=kv,val:=a.eval x',born:=clk },clk + 1,⟨aL7 hE hx,aK6 hY⟩,?_⟩
   simp [Instr.mapUpdate,run_underlying hu,hv,nG g1,hck',k2,hset]
 obtain ⟨es',clk',hE',hrun⟩:=hrun
 refine aNd (β':=c.β) (w':={ c.w with heap:=c.w.heap.setIfInBounds b (.map es' clk') }) ?_ (uZ (ob:=.map es' clk') hs hfl hob hb rfl rfl rfl rfl) (aDb hs hob hb rfl rfl rfl rfl ⟨hE'.1.1,hE'.2⟩ hE'.1.2)
 rcases ho with ho | ho <;> simp [execOp,ho,hkv,hrun]
theorem aF8 [GlobT] (hs : Sim (ftOf T) c) (htr : TR (ftOf T) c tm a.tmps) {kt e t : TypeId} {m k : AOpd} {m' k' : Operand} {ts : Array TypeId} {ents ents' : List (Value × AV)} {kv : Value} {id : Nat}
  (ho : o.op = .call ⟨.builtin .delete,#[m',k'],ts⟩) (ht : ts[0]? = some t) (h1 : kN T m m' = true) (h2 : kN T k k' = true) (hu : P.underlying t = some (.map kt e))
  (hk : lits (kG tm k) = some kv) (hck : kM P (Instr.checkKey ents.isEmpty 10000 kt kv) = some ()) (hfl : fl ≤ id)
  (hm : kG tm m = .mp id) (hob : c.H[id]? = some (.mp ents))
  (hr : (∃ i,pT P kt kv ents = some (some i) ∧ ents' = ents.eraseIdx i) ∨ (pT P kt kv ents = some none ∧ ents' = ents)) :
  OpOK P (ftOf T) c fl o a (.lit lI) (c.H.set id (.mp ents')):=by
 have hm':=kO hs htr h1
 rw [hm] at hm'
 have hkv:=aAn (kO hs htr h2) hk
 obtain ⟨b,hv,_,hb⟩:=hm'.mp_inv
 obtain ⟨es,clk,g1,hE,hY⟩:=aKy hs hob hb
 have hck' : (Instr.checkKey es.isEmpty 10000 kt kv).run P c.w = .ok () c.w:=by rw [aDl hE]; exact lJ hck
 have hset : ∀ ob,(setObj b ob).run P c.w = .ok () { c.w with heap:=c.w.heap.setIfInBounds b ob }:=by
  intro ob; simp [setObj,Sem.run,g1]
 have hrun : ∃ es' clk',(yK (ftOf T) c ents' es' ∧ ∀ e ∈ es'.toList,e.born < clk') ∧ (Builtin.delete_ ts o.type #[a.eval m',kv]).run P c.w = .ok (.tuple #[]) { c.w with heap:=c.w.heap.setIfInBounds b (.map es' clk') }:=by
  rcases hr with ⟨i0,hf,rfl⟩ | ⟨hf,rfl⟩
  ·obtain ⟨e',k1,k2⟩:=yB hE hf c.w
   have hlt : i0 < es.size:=(Array.getElem?_eq_some_iff.1 k1).1
   refine ⟨es.eraseIdxIfInBounds i0,clk,⟨⟨?_,?_⟩,aHm hY hlt⟩,?_⟩
   ·simp only [Array.eraseIdxIfInBounds,hlt,dif_pos]
    rw [Array.size_eraseIdx,List.length_eraseIdx,hE.1]
    rw [if_pos (by rw [← hE.1]; exact hlt)]
   ·intro j k0 x0 hx
    simp only [Array.eraseIdxIfInBounds,hlt,dif_pos]
    rw [List.getElem?_eraseIdx] at hx
    rw [Array.getElem?_eraseIdx]
    split at hx
    ·rename_i hj
     rw [if_pos hj]; exact hE.2 j k0 x0 hx
    ·rename_i hj
     rw [if_neg hj]; exact hE.2 _ k0 x0 hx
   ·simp [Builtin.delete_,ht,run_underlying hu,hv,nG g1,hck',k2,hset]
  ·have k2:=yC hE hf c.w
   refine ⟨es,clk,⟨hE,hY⟩,?_⟩
   simp [Builtin.delete_,ht,run_underlying hu,hv,nG g1,hck',k2,hset]
 obtain ⟨es',clk',hE',hrun⟩:=hrun
 refine mX (cv:=.tuple #[]) (β':=c.β) (w':={ c.w with heap:=c.w.heap.setIfInBounds b (.map es' clk') }) ?_ (uZ (ob:=.map es' clk') hs hfl hob hb rfl rfl rfl rfl) (aDb hs hob hb rfl rfl rfl rfl ⟨hE'.1.1,hE'.2⟩ hE'.1.2) (RV.lit _)
 simp [execOp,ho,resolve,invoke,builtin,hkv,hrun]
end
end Go.Proofs.YtkdnaejhpcibnaaGreatDoor.Av
namespace Go.Proofs.YtkdnaejhpcibnaaGreatDoor.Av
open Go
section
variable {P : Program} {T : List AFun} {c : Ctx} {fl : Nat} {o : Oper} {a : Act} {tm : List AV}
def nF (FT : Nat → Option Nat) (c : Ctx) (s : Nat) (ys : List (List AV)) (news : List Value) : Prop :=
 news.length = ys.length * s ∧ ∀ i j x,mA ys i j = some x → ∃ u,news[i * s + j]? = some u ∧ lB u = true ∧ RV FT c x u
theorem sH {s : Nat} {ys : List (List AV)} (h : pG s ys = true) : ∀ e ∈ ys,e.length = s:=by
 intro e he
 have:=List.all_eq_true.1 h e he
 simpa using this
theorem nS [GlobT] {FT : Nat → Option Nat} {s : Nat} {ys : List (List AV)} {news : List Value} (hl : ∀ e ∈ ys,e.length = s) (h : nF FT c s ys news) : ∀ u ∈ news,u.oneCell' = true:=by
 intro u hu
 obtain ⟨p,hp⟩:=List.mem_iff_getElem?.1 hu
 have hlt : p < ys.length * s:=by rw [← h.1]; exact (List.getElem?_eq_some_iff.1 hp).1
 have hs : 0 < s:=by
  rcases Nat.eq_zero_or_pos s with h0 | h0
  ·subst h0; simp at hlt
  ·exact h0
 have hi : p / s < ys.length:=Nat.div_lt_of_lt_mul (by rw [Nat.mul_comm]; exact hlt)
 have hj : p % s < s:=Nat.mod_lt _ hs
 have he : (ys[p / s]).length = s:=hl _ (List.getElem_mem hi)
 obtain ⟨u',h1,h2,_⟩:=h.2 (p / s) (p % s) ((ys[p / s])[p % s]'(by omega)) (by simp [mA,hi,he,hj])
 rw [Nat.mul_comm,Nat.div_add_mod] at h1
 rw [hp] at h1
 cases h1
 rw [← aDd]; exact h2
theorem aFy [GlobT] {FT : Nat → Option Nat} {s k b n : Nat} {cc : Array Value} {Ty : TypeId} {fz : Nat × Nat} {ys : List (List AV)} (hb : c.w.heap[b]? = some (.cells cc Ty fz)) (hs : 0 < s) (hn : ys.length = n) (hl : ∀ e ∈ ys,e.length = s)
  (h : ∀ i j x,mA ys i j = some x → ∃ u,cc[k + (i * s + j)]? = some u ∧ lB u = true ∧ RV FT c x u) :
  ∃ news,nF FT c s ys news ∧ ∀ (j : Nat) (v : Value),news[j]? = some v → c.w.cell? ((⟨b,k,none⟩ : Addr).add j) = some v:=by
 refine ⟨(cc.toList.drop k).take (n * s),⟨?_,?_⟩,?_⟩
 ·simp only [List.length_take,List.length_drop,Array.length_toList,hn]
  cases n with
  | zero => simp
  | succ m =>
   have hm : m < ys.length:=by omega
   have he : (ys[m]).length = s:=hl _ (List.getElem_mem hm)
   obtain ⟨u,hu,_⟩:=h m (s - 1) ((ys[m])[s - 1]'(by omega)) (by simp [mA,hm])
   have : k + (m * s + (s - 1)) < cc.size:=(Array.getElem?_eq_some_iff.1 hu).1
   rw [Nat.add_mul]; omega
 ·intro i j x hx
  obtain ⟨u,h1,h2,h3⟩:=h i j x hx
  refine ⟨u,?_,h2,h3⟩
  obtain ⟨e,he,hj⟩:=mL hx
  have hjs : j < s:=by rw [← hl e (List.mem_of_getElem? he)]; exact (List.getElem?_eq_some_iff.1 hj).1
  have hi : i < n:=by rw [← hn]; exact (List.getElem?_eq_some_iff.1 he).1
  rw [List.getElem?_take,if_pos (aDe hi hjs),List.getElem?_drop]
  simpa using h1
 ·intro j v hv
  rw [nU,cell_of_row c.w b (k + j) cc Ty fz hb]
  rw [List.getElem?_take] at hv
  split at hv
  ·simpa using hv
  ·cases hv
theorem aMv [GlobT] {FT : Nat → Option Nat} (hs : Sim FT c) {y : AV} {v : Value} {ys : List (List AV)} {s : Nat} (hr : RV FT c y v) (h : rd c.H y = some ys) (hl : ∀ e ∈ ys,e.length = s) (hs0 : 0 < s) :
  ∃ xa xc news,v = .slice xa ys.length xc ∧ ys.length ≤ xc ∧ nF FT c s ys news ∧ ∀ w',Drawn c.w w' → (Builtin.firstCells s ys.length v).run P w' = .ok news.toArray w':=by
 have fin : ∀ (b k xc : Nat) (news : List Value),nF FT c s ys news → (∀ (j : Nat) (v : Value),news[j]? = some v → c.w.cell? ((⟨b,k,none⟩ : Addr).add j) = some v) →
   ∀ w',Drawn c.w w' → (Builtin.firstCells s ys.length (.slice (some ⟨b,k,none⟩) ys.length xc)).run P w' = .ok news.toArray w':=by
  intro b k xc news h1 h2 w' hd
  refine run_firstCells_some w' s ys.length ⟨b,k,none⟩ ys.length xc news h1.1 ?_
  intro j v hv
  rw [World.cell?_of_block (w:=c.w) (by rw [hd.heap])]
  exact h2 j v hv
 have finE : ∀ (xa : Option Addr) (xc : Nat),ys = [] → ∀ w',Drawn c.w w' → (Builtin.firstCells s ys.length (.slice xa ys.length xc)).run P w' = .ok (#[] : Array Value) w':=by
  intro xa xc he w' _
  subst he
  cases xa <;> simp [Builtin.firstCells,loadCells,loadCellsFrom]
 have emp : ys = [] → nF FT c s ys []:=by
  intro he; subst he; exact ⟨by simp,fun i j x hx => by simp [mA] at hx⟩
 unfold rd at h
 split at h
 ·cases h
  exact ⟨none,0,[],hr.lit_inv,Nat.zero_le _,emp rfl,by rw [hr.lit_inv]; exact finE none 0 rfl⟩
 ·rename_i f es
  cases h
  have hp:=hr.sl_inv
  cases hp with
  | nil _ ad cap hf => exact ⟨ad,cap,[],rfl,Nat.zero_le _,emp rfl,finE ad cap rfl⟩
  | sl _ _ b off cap cc Ty fz s' vals g1 g2 g3 g4 g5 g6 g7 g8 =>
   have e : s' = s:=by
    cases ys with
    | nil => exact (g1 rfl).elim
    | cons e r => rw [← g4 e (by simp),hl e (by simp)]
   subst e
   obtain ⟨news,k1,k2⟩:=aFy (k:=off) g3 hs0 rfl hl (fun i j x hx => ⟨vals i j,(g7 i j x hx).1,(g7 i j x hx).2,.pure _ _ (g8 i j x hx)⟩)
   exact ⟨_,cap,news,rfl,g5,k1,fin b off cap news k1 k2⟩
 ·rename_i id tot off len
  split at h
  ·rename_i s' es hob
   split at h
   ·rename_i htot
    cases h
    obtain ⟨ad,cap,s0,n0,hv,g1,g2,g3,g4⟩:=hr.ms_inv
    rw [pQ hob] at g1
    cases g1
    obtain ⟨m1,m2⟩:=g4 htot.symm
    have hlen : ((es.drop off).take len).length = len:=by simp; omega
    rw [hlen]
    rcases m2 with ⟨_,m3,m4,m5⟩ | ⟨b,cc,Ty,a',m3,m4,m5,m6,m7⟩
    ·subst m5
     have hl0 : len = 0:=by omega
     subst hl0
     have he : (es.drop off).take 0 = []:=by simp
     have k2:=finE ad 0 he
     simp only [hlen] at k2
     exact ⟨ad,0,[],hv,Nat.le_refl _,emp he,by rw [hv]; exact k2⟩
    ·by_cases hl0 : len = 0
     ·subst hl0
      have he : (es.drop off).take 0 = []:=by simp
      have k2:=finE ad cap he
      simp only [hlen] at k2
      exact ⟨ad,cap,[],hv,Nat.zero_le _,emp he,by rw [hv]; exact k2⟩
     ·have ha:=m7 (by omega)
      subst m6
      subst ha
      obtain ⟨cc',Ty',q1,q2,q3⟩:=hs.blk id s' es b hob m3
      rw [m4] at q1
      cases q1
      have es0 : s' = s:=by
       have hne : 0 < es.length:=by omega
       have hm : off < es.length:=by omega
       have h1:=hs.lens id s' es hob (es[off]) (List.getElem_mem hm)
       have h2:=hl (es[off]) (by
        rw [List.mem_iff_getElem?]
        exact ⟨0,by rw [List.getElem?_take,if_pos (by omega),List.getElem?_drop]; simp [hm]⟩)
       omega
      subst es0
      obtain ⟨news,k1,k2⟩:=aFy (FT:=FT) (k:=off * s') m4 hs0 rfl hl (fun i j x hx => by
       obtain ⟨e,he,hj⟩:=mL hx
       rw [List.getElem?_take] at he
       split at he
       ·rw [List.getElem?_drop] at he
        obtain ⟨u,w1,w2,w3⟩:=q3 (off + i) j x (by simp [mA,he,hj])
        exact ⟨u,by rw [← w1]; congr 1; rw [Nat.add_mul]; omega,w2,w3⟩
       ·cases he)
      have k3:=fin b (off * s') cap news k1 k2
      simp only [hlen] at k3
      exact ⟨_,cap,news,hv,by omega,k1,by rw [hv]; exact k3⟩
   ·cases h
  ·cases h
 ·cases h
end
end Go.Proofs.YtkdnaejhpcibnaaGreatDoor.Av
namespace Go.Proofs.YtkdnaejhpcibnaaGreatDoor.Av
open Go
section
variable {P : Program} {T : List AFun} {c : Ctx} {fl : Nat} {o : Oper} {a : Act} {tm : List AV}
theorem aD0 (w : World) : Drawn w w.drew:=⟨rfl,rfl,rfl,rfl,Nat.le_succ _⟩
structure Src (P : Program) (w : World) (t t' e : TypeId) (i : TypeInfo) (xv : Value) (m : Nat) (news : List Value) : Prop where
 ht : P.underlying t = some (.slice e)
 hi : P.info? e = some i
 run : ∀ (ty : TypeId) (base : Option Addr) (sLen sCap : Nat),sLen + m ≤ sCap → ∀ (w' : World),
  (∀ ad,base = some ad → (storeCells (ad.add (sLen * i.size)) news).run P w = .ok () w') → (base = none → w' = w) →
  (Builtin.append_ #[t,t'] ty #[.slice base sLen sCap,xv]).run P w = .ok (.slice base (sLen + m) sCap) w'
 grow : ∀ (ty : TypeId) (z : Value) (base : Option Addr) (sLen sCap : Nat) (olds : List Value),i.zero = some z → sCap < sLen + m → ((sLen + m : Nat) : Int) ≤ 9223372036854775807 →
  Builtin.nextslicecap (sLen + m) sCap * i.bytes ≤ 281474976710656 → (Builtin.firstCells i.size sLen (.slice base sLen sCap)).run P w.drew = .ok olds.toArray w.drew →
  ∃ cells : Array Value,cells.toList = olds ++ news ++ (Builtin.zeroCells z.cells (grownCap w (sLen + m) sCap e - (sLen + m))).toList ∧
  (Builtin.append_ #[t,t'] ty #[.slice base sLen sCap,xv]).run P w =
   .ok (.slice (some ⟨w.heap.size,0,none⟩) (sLen + m) (grownCap w (sLen + m) sCap e)) (w.drew.alloc (.cells cells e))
theorem aFs [GlobT] {w : World} {t t' e e' : TypeId} {i : TypeInfo} {xa : Option Addr} {xc m : Nat} {news : List Value} (ht : P.underlying t = some (.slice e)) (ht' : P.underlying t' = some (.slice e')) (hi : P.info? e = some i)
  (hf : ∀ w',Drawn w w' → (Builtin.firstCells i.size m (.slice xa m xc)).run P w' = .ok news.toArray w') : Src P w t t' e i (.slice xa m xc) m news where
 ht:=ht
 hi:=hi
 run:=by
  intro ty base sLen sCap hroom w' hst hn
  have hf0:=hf w (Drawn.refl w)
  cases base with
  | none => simp [Builtin.append_,run_underlying ht,run_underlying ht',sizeOf,typeInfo,hi,Builtin.lenOf,hroom,hf0,hn rfl]
  | some ad => simp [Builtin.append_,run_underlying ht,run_underlying ht',sizeOf,typeInfo,hi,Builtin.lenOf,hroom,hf0,hst ad rfl]
 grow:=by
  intro ty z base sLen sCap olds hz hg h63 hfit ho
  have hf0:=hf w.drew (aD0 w)
  have hn : ¬ (sLen + m ≤ sCap):=by omega
  have h63' : ¬ (9223372036854775807 < ((sLen : Int) + (m : Int))):=by omega
  have h48' : ¬ (281474976710656 < Builtin.nextslicecap (sLen + m) sCap * i.bytes):=by omega
  refine ⟨olds.toArray ++ news.toArray ++ Builtin.zeroCells z.cells (grownCap w (sLen + m) sCap e - (sLen + m)),by simp,?_⟩
  simp [Builtin.append_,run_underlying ht,run_underlying ht',sizeOf,typeInfo,zeroValue,hi,hz,Builtin.lenOf,hn,h63',h48',Question.forced,hf0,ho,newRow,grownCap]
  congr 2
  apply Array.ext'
  simp [List.append_assoc]
theorem aMl [GlobT] {w : World} {t t' e : TypeId} {i : TypeInfo} {k k' : IntKind} {z : Value} {m : Nat} (ht : P.underlying t = some (.slice e)) (ht' : P.underlying t' = some (.int k)) (hi : P.info? e = some i) (hz : i.zero = some z)
  (hm : m ≤ 2 ^ 20) (hb : m * i.bytes ≤ 2 ^ 40) (hs0 : 0 < i.size) (hzs : z.cells.size = i.size) : Src P w t t' e i (.int k' (m : Nat)) m (Builtin.zeroCells z.cells m).toList where
 ht:=ht
 hi:=hi
 run:=by
  intro ty base sLen sCap hroom w' hst hn
  have w1:=tV (n:=m) (by omega)
  have hneg : ¬ ((m : Int) < 0):=by omega
  have hbig : ¬ ((281474976710656 : Int) < (m : Int) * (i.bytes : Int)):=by rw [← Int.natCast_mul]; omega
  by_cases hm0 : m * i.size = 0
  ·have hmz : m = 0:=by
    rcases Nat.mul_eq_zero.1 hm0 with h | h
    ·exact h
    ·omega
   subst hmz
   have hz0 : (Builtin.zeroCells z.cells 0).toList = []:=by simp [Builtin.zeroCells]
   rw [hz0] at hst
   have hr0 : sLen ≤ sCap:=by omega
   have w0 : IntKind.i64.wrap 0 = 0:=IntWalk.i64_in _ (by omega)
   cases base with
   | none => simp [Builtin.append_,run_underlying ht,run_underlying ht',sizeOf,typeInfo,hi,asInt,asIntOf,hr0,hn rfl,w0]
   | some ad => simp [Builtin.append_,run_underlying ht,run_underlying ht',sizeOf,typeInfo,hi,asInt,asIntOf,hr0,hst ad rfl,w0]
  ·cases base with
   | none => simp [Builtin.append_,run_underlying ht,run_underlying ht',sizeOf,typeInfo,zeroValue,hz,hi,asInt,asIntOf,w1,hneg,hbig,hm0,hroom,hn rfl]
   | some ad => simp [Builtin.append_,run_underlying ht,run_underlying ht',sizeOf,typeInfo,zeroValue,hz,hi,asInt,asIntOf,w1,hneg,hbig,hm0,hroom,hst ad rfl]
 grow:=by
  intro ty z' base sLen sCap olds hz' hg h63 hfit ho
  rw [hz] at hz'
  cases hz'
  have w1:=tV (n:=m) (by omega)
  have hneg : ¬ ((m : Int) < 0):=by omega
  have hbig : ¬ ((281474976710656 : Int) < (m : Int) * (i.bytes : Int)):=by rw [← Int.natCast_mul]; omega
  have hn : ¬ (sLen + m ≤ sCap):=by omega
  have h63' : ¬ (9223372036854775807 < ((sLen : Int) + (m : Int))):=by omega
  have h48' : ¬ (281474976710656 < Builtin.nextslicecap (sLen + m) sCap * i.bytes):=by omega
  refine ⟨olds.toArray ++ (Builtin.zeroCells z.cells m) ++ Builtin.zeroCells z.cells (grownCap w (sLen + m) sCap e - (sLen + m)),by simp,?_⟩
  by_cases hm0 : m * i.size = 0
  ·have hmz : m = 0:=by
    rcases Nat.mul_eq_zero.1 hm0 with h | h
    ·exact h
    ·omega
   subst hmz
   have hz0 : Builtin.zeroCells z.cells 0 = #[]:=by simp [Builtin.zeroCells]
   have w0 : IntKind.i64.wrap 0 = 0:=IntWalk.i64_in _ (by omega)
   have hn0 : ¬ (sLen ≤ sCap):=by omega
   have h630 : ¬ (9223372036854775807 < (sLen : Int)):=by omega
   have h480 : ¬ (281474976710656 < Builtin.nextslicecap sLen sCap * i.bytes):=by simpa using h48'
   simp [Builtin.append_,run_underlying ht,run_underlying ht',sizeOf,typeInfo,zeroValue,hi,hz,asInt,asIntOf,hn0,h630,h480,Question.forced,ho,newRow,grownCap,w0,hz0]
  ·simp [Builtin.append_,run_underlying ht,run_underlying ht',sizeOf,typeInfo,zeroValue,hi,hz,asInt,asIntOf,w1,hneg,hbig,hm0,hn,h63',h48',Question.forced,ho,newRow,grownCap]
end
end Go.Proofs.YtkdnaejhpcibnaaGreatDoor.Av
namespace Go.Proofs.YtkdnaejhpcibnaaGreatDoor.Av
open Go
section
variable {P : Program} {T : List AFun} {c : Ctx} {fl : Nat} {o : Oper} {a : Act} {tm : List AV}
theorem aHe [GlobT] {es ys : List (List AV)} {i j : Nat} {x : AV} (h : mA (es ++ ys) i j = some x) : (i < es.length ∧ mA es i j = some x) ∨ (es.length ≤ i ∧ mA ys (i - es.length) j = some x):=by
 obtain ⟨e,h1,h2⟩:=mL h
 rw [List.getElem?_append] at h1
 split at h1
 ·exact .inl ⟨by assumption,by simp [mA,h1,h2]⟩
 ·exact .inr ⟨by omega,by simp [mA,h1,h2]⟩
theorem vC [GlobT] {FT : Nat → Option Nat} {s : Nat} {es ys : List (List AV)} {olds news rest : List Value} (h1 : nF FT c s es olds) (h2 : nF FT c s ys news) :
  ∀ i j x,mA (es ++ ys) i j = some x → ∃ u,(olds ++ news ++ rest)[i * s + j]? = some u ∧ lB u = true ∧ RV FT c x u:=by
 intro i j x hx
 rcases aHe hx with ⟨hi,hc⟩ | ⟨hi,hc⟩
 ·obtain ⟨u,g1,g2,g3⟩:=h1.2 i j x hc
  refine ⟨u,?_,g2,g3⟩
  have hlt:=(List.getElem?_eq_some_iff.1 g1).1
  rw [List.append_assoc,List.getElem?_append_left hlt]; exact g1
 ·obtain ⟨u,g1,g2,g3⟩:=h2.2 _ j x hc
  refine ⟨u,?_,g2,g3⟩
  have hlt:=(List.getElem?_eq_some_iff.1 g1).1
  have e : i * s + j = olds.length + ((i - es.length) * s + j):=by
   rw [h1.1,← Nat.add_assoc,← Nat.add_mul]; congr 2; omega
  rw [e,List.append_assoc,List.getElem?_append_right (by omega),Nat.add_sub_cancel_left,List.getElem?_append_left hlt]
  exact g1
theorem aFz {n bytes : Nat} (h : room n bytes = true) : n * bytes ≤ 2 ^ 40 ∧ n ≤ 2 ^ 40:=by
 simpa [room] using h
theorem aGh [GlobT] {n m bytes cap : Nat} (h : room (n + m) bytes = true) (hc : cap < n + m) : Builtin.nextslicecap (n + m) cap * bytes ≤ 281474976710656 ∧ ((n + m : Nat) : Int) ≤ 9223372036854775807:=by
 obtain ⟨h1,h2⟩:=aFz h
 exact ⟨growslice_fits hc (by omega),by omega⟩
theorem xK [GlobT] {FT : Nat → Option Nat} {s k : Nat} {es ys : List (List AV)} {news : List Value} {cc : Array Value}
  (hl : ∀ e ∈ es,e.length = s) (hly : ∀ e ∈ ys,e.length = s) (hk : k ≤ es.length) (hE : nF FT c s ys news) (hfit : k * s + news.length ≤ cc.size)
  (hold : ∀ i j x,mA es i j = some x → ∃ v,cc[i * s + j]? = some v ∧ lB v = true ∧ RV FT c x v) :
  (∀ e ∈ lG es k ys,e.length = s) ∧
  ∀ i j x,mA (lG es k ys) i j = some x → ∃ v,((lG cc.toList (k * s) news).toArray)[i * s + j]? = some v ∧ lB v = true ∧ RV FT c x v:=by
 refine ⟨?_,?_⟩
 ·intro e he
  simp only [lG,List.mem_append] at he
  rcases he with h | h | h
  ·exact hl e (List.mem_of_mem_take h)
  ·exact hly e h
  ·exact hl e (List.mem_of_mem_drop h)
 ·intro i j x hx
  have hfit2 : k * s + news.length ≤ cc.toList.length:=by simpa using hfit
  simp only [List.getElem?_toArray,uA hfit2]
  obtain ⟨e,h1,h2⟩:=mL hx
  unfold lG at h1
  rw [List.getElem?_append] at h1
  simp only [List.length_take,Nat.min_eq_left hk] at h1
  have hjs : ∀ e' : List AV,(e' ∈ es ∨ e' ∈ ys) → e = e' → j < s:=by
   intro e' hm he
   have : e'.length = s:=hm.elim (hl e') (hly e')
   rw [← this,← he]; exact (List.getElem?_eq_some_iff.1 h2).1
  split at h1
  ·rename_i hi
   rw [List.getElem?_take,if_pos hi] at h1
   have hj:=hjs e (.inl (List.mem_of_getElem? h1)) rfl
   have : i * s + j < k * s:=aDe hi hj
   rw [if_pos this]
   simpa using hold i j x (by simp [mA,h1,h2])
  ·rename_i hi
   rw [List.getElem?_append] at h1
   split at h1
   ·rename_i hi2
    have hj:=hjs e (.inr (List.mem_of_getElem? h1)) rfl
    have hge : k * s ≤ i * s:=Nat.mul_le_mul_right s (by omega)
    have e1 : i * s + j - k * s = (i - k) * s + j:=by rw [Nat.sub_mul]; omega
    have hlt : (i - k) * s + j < ys.length * s:=aDe hi2 hj
    rw [if_neg (by omega),if_pos (by rw [hE.1]; omega),e1]
    exact hE.2 _ j x (by simp [mA,h1,h2])
   ·rename_i hi2
    rw [List.getElem?_drop] at h1
    have e0 : k + ys.length + (i - k - ys.length) = i:=by omega
    rw [e0] at h1
    have hge : (k + ys.length) * s ≤ i * s:=Nat.mul_le_mul_right s (by omega)
    rw [Nat.add_mul] at hge
    rw [if_neg (by omega),if_neg (by rw [hE.1]; omega)]
    simpa using hold i j x (by simp [mA,h1,h2])
theorem pB [GlobT] {FT : Nat → Option Nat} (hs : Sim FT c) {x : AV} {v : Value} {xs : List (List AV)} {s : Nat} (hr : RV FT c x v) (h : rd c.H x = some xs) (hl : ∀ e ∈ xs,e.length = s) (hs0 : 0 < s) :
  ∃ xa xc olds,v = .slice xa xs.length xc ∧ nF FT c s xs olds ∧ (Builtin.firstCells s xs.length (.slice xa xs.length xc)).run P c.w.drew = .ok olds.toArray c.w.drew:=by
 obtain ⟨xa,xc,news,h1,_,h2,h3⟩:=aMv (P:=P) hs hr h hl hs0
 exact ⟨xa,xc,news,h1,h2,by rw [← h1]; exact h3 _ (aD0 _)⟩
theorem aF9 [GlobT] (hs : Sim (ftOf T) c) (hfl : fl ≤ c.H.length) {x r : AV} {xv yv z : Value} {t t' e : TypeId} {i : TypeInfo} {s bytes m : Nat} {ys : List (List AV)} {news : List Value} {H' : Heap}
  (hx : RV (ftOf T) c x xv) (hsrc : Src P c.w t t' e i yv m news) (hE : nF (ftOf T) c s ys news) (hm : ys.length = m) (hsize : i.size = s) (hby : i.bytes = bytes) (hz : i.zero = some z) (hzs : z.cells.size = s)
  (happ : lW fl c.H s bytes x ys = some (r,H'))
  (hexec : ∀ cv w',(Builtin.append_ #[t,t'] o.type #[xv,yv]).run P c.w = .ok cv w' → (execOp a.eval o).run P c.w = .ok (.value cv) w') : OpOK P (ftOf T) c fl o a r H':=by
 subst hsize hby hm
 unfold lW at happ
 split at happ
 ·rename_i hcond
  obtain ⟨hal,hs0,hroomy⟩:=hcond
  have hly:=sH hal
  have nothing : ys.length = 0 → (∃ xa n cap,xv = .slice xa n cap ∧ n ≤ cap) → OpOK P (ftOf T) c fl o a x c.H:=by
   rintro h0 ⟨xa,n,cap,rfl,hle⟩
   have hnil : news = []:=List.eq_nil_of_length_eq_zero (by rw [hE.1,h0,Nat.zero_mul])
   have:=hsrc.run o.type xa n cap (by omega) c.w (by intro ad _; rw [hnil]; simp [storeCells]) (fun _ => rfl)
   rw [h0] at this
   exact lK hs (hexec _ _ this) hx
  have fresh : ∀ (es : List (List AV)) (xa : Option Addr) (cap : Nat) (olds : List Value),xv = .slice xa es.length cap → (∀ e ∈ es,e.length = i.size) → nF (ftOf T) c i.size es olds →
    (Builtin.firstCells i.size es.length (.slice xa es.length cap)).run P c.w.drew = .ok olds.toArray c.w.drew → cap < es.length + ys.length → room (es.length + ys.length) i.bytes = true →
    ∃ cells : Array Value,∃ ncap,es.length + ys.length ≤ ncap ∧ cells.size = ncap * i.size ∧
     (execOp a.eval o).run P c.w = .ok (.value (.slice (some ⟨c.w.heap.size,0,none⟩) (es.length + ys.length) ncap)) (c.w.drew.alloc (.cells cells e (0,0))) ∧
     (∀ f ∈ es ++ ys,f.length = i.size) ∧ ∀ k j x,mA (es ++ ys) k j = some x → ∃ v,cells[k * i.size + j]? = some v ∧ lB v = true ∧ RV (ftOf T) c x v:=by
   intro es xa cap olds hxv hle hO hfo hcap hroom
   obtain ⟨f1,f2⟩:=aGh hroom hcap
   obtain ⟨cells,g1,g2⟩:=hsrc.grow o.type z xa es.length cap olds hz hcap f2 f1 hfo
   have hge:=grownCap_ge c.w (es.length + ys.length) cap e
   refine ⟨cells,grownCap c.w (es.length + ys.length) cap e,hge,?_,?_,?_,?_⟩
   ·have:=congrArg List.length g1
    simp only [Array.length_toList,List.length_append,hO.1,hE.1,size_zeroCells,hzs] at this
    rw [this,← Nat.add_mul,← Nat.add_mul]; congr 1; omega
   ·exact hexec _ _ (by rw [hxv]; exact g2)
   ·intro f hf
    rcases List.mem_append.1 hf with h | h
    ·exact hle f h
    ·exact hly f h
   ·intro k j x hx
    obtain ⟨u,k1,k2,k3⟩:=vC (rest:=(Builtin.zeroCells z.cells (grownCap c.w (es.length + ys.length) cap e - (es.length + ys.length))).toList) hO hE k j x hx
    refine ⟨u,?_,k2,k3⟩
    rw [← g1] at k1
    simpa using k1
  have newobj : ∀ (es : List (List AV)) (xa : Option Addr) (cap : Nat) (olds : List Value),xv = .slice xa es.length cap → (∀ e ∈ es,e.length = i.size) → nF (ftOf T) c i.size es olds →
    (Builtin.firstCells i.size es.length (.slice xa es.length cap)).run P c.w.drew = .ok olds.toArray c.w.drew → cap < es.length + ys.length → room (es.length + ys.length) i.bytes = true →
    OpOK P (ftOf T) c fl o a (.ms c.H.length (es.length + ys.length) 0 (es.length + ys.length)) (c.H ++ [.blk i.size (es ++ ys)]):=by
   intro es xa cap olds h1 h2 h3 h4 h5 h6
   obtain ⟨cells,ncap,q1,q2,q3,q4,q5⟩:=fresh es xa cap olds h1 h2 h3 h4 h5 h6
   have:=rN (P:=P) (o:=o) (a:=a) hs hfl false (es:=es ++ ys) (n:=es.length + ys.length) (cap:=ncap) (cv:=cells) (t:=e) (s:=i.size) (w':=c.w.drew.alloc (.cells cells e (0,0)))
    (by simp) q1 (by simp) rfl rfl rfl rfl q3 q2 q4 q5
   simpa using this
  split at happ
  · -- nil
   have hv:=hx.lit_inv
   split at happ
   ·rename_i h0
    cases happ
    exact nothing h0 ⟨none,0,0,hv,Nat.le_refl _⟩
   ·rename_i h0
    cases happ
    have:=newobj [] none 0 [] hv (by simp) ⟨by simp,fun i j x hx => by simp [mA] at hx⟩ (by simp [Builtin.firstCells]) (by simp; omega) (by simpa using hroomy)
    simpa using this
  ·rename_i f es
   obtain ⟨xa,cap,hv,hle,hfull⟩:=aR8 hx.sl_inv
   split at happ
   ·rename_i h0
    cases happ
    exact nothing h0 ⟨xa,_,cap,hv,hle⟩
   ·rename_i h0
    split at happ
    ·rename_i hc
     cases happ
     have hle':=sH hc.2.1
     obtain ⟨xa',xc',olds,k1,k2,k3⟩:=pB (P:=P) hs hx (by simp [rd] : rd c.H (.sl f es) = some es) hle' hs0
     rw [hv] at k1
     cases k1
     exact newobj es xa cap olds hv hle' k2 k3 (by rw [hfull hc.1]; omega) hc.2.2
    ·cases happ
  ·rename_i id tot off len
   obtain ⟨ad,cap,s0,n0,hv,g1,g2,g3,g4⟩:=hx.ms_inv
   split at happ
   ·rename_i s' es hob
    split at happ
    ·rename_i hc
     obtain ⟨rfl,htot,hroom⟩:=hc
     rw [pQ hob] at g1
     cases g1
     obtain ⟨m1,m2⟩:=g4 htot.symm
     have hlens:=hs.lens id i.size es hob
     split at happ
     ·rename_i h0
      cases happ
      exact nothing h0 ⟨ad,len,cap,hv,g3⟩
     ·rename_i h0
      split at happ
      ·rename_i hflid
       split at happ
       ·rename_i htip
        obtain ⟨rfl,rfl⟩:=htip
        cases happ
        subst htot
        have moves : cap < es.length + ys.length → OpOK P (ftOf T) c fl o a (.ms id (es.length + ys.length) 0 (es.length + ys.length)) (c.H.set id (.blk i.size (es ++ ys))):=by
         intro hcap
         obtain ⟨xa',xc',olds,k1,k2,k3⟩:=pB (P:=P) hs hx (by simp [rd,hob] : rd c.H (.ms id es.length 0 es.length) = some es) hlens hs0
         rw [hv] at k1
         cases k1
         obtain ⟨cells,ncap,q1,q2,q3,q4,q5⟩:=fresh es ad cap olds hv hlens k2 k3 hcap hroom
         have hgt : es.length < (es ++ ys).length:=by simp; omega
         refine mX (β':=upd c.β id c.w.heap.size) q3 (sV (ob:=.cells cells e (0,0)) hs hflid hob hgt rfl rfl rfl rfl)
          (zK (cs':=cells) (T:=e) hs hob hgt rfl rfl rfl rfl q4 (by rw [q2]; exact Nat.mul_le_mul_right _ (by simpa using q1)) q5) ?_
         refine .ms id _ 0 _ _ ncap i.size _ (by rw [qL hob]; simp) (Nat.le_refl _) q1 fun _ => ⟨by omega,.inr ⟨c.w.heap.size,cells,e,_,mK _ _ _,?_,by simpa using q2.symm,rfl,fun _ => by simp⟩⟩
         exact heap_alloc_new c.w.drew _
        rcases m2 with ⟨_,m3,m4,m5⟩ | ⟨b,cc,Ty,a',m3,m4,m5,m6,m7⟩
        ·exact moves (by omega)
        ·by_cases hcap : cap < es.length + ys.length
         ·exact moves hcap
         · -- it stays
          have hne : cap ≠ 0:=by omega
          have ha:=m7 hne
          subst m6
          subst ha
          obtain ⟨cc',Ty',q1,q2,q3⟩:=hs.blk id i.size es b hob m3
          rw [m4] at q1
          cases q1
          have hfit : es.length * i.size + news.length ≤ cc.size:=by
           rw [hE.1,← m5,← Nat.add_mul]; exact Nat.mul_le_mul_right _ (by omega)
          obtain ⟨p1,p2⟩:=xK (k:=es.length) hlens hly (Nat.le_refl _) hE hfit q3
          have hsp : lG es es.length ys = es ++ ys:=by simp [lG]
          rw [hsp] at p1 p2
          have hst:=run_storeCells_at P b (es.length * i.size) Ty news 0 cc c.w m4 (by simpa using hfit) (nS hly hE)
          rw [nN] at hst
          have hsplen:=lR (l:=cc.toList) (vs:=news) (k:=es.length * i.size) (by simpa using hfit)
          have hrun:=hsrc.run o.type (some ⟨b,0 * i.size,none⟩) es.length cap (by omega) _ (fun ad' h => by cases h; rw [nU]; simpa using hst) (fun h => by cases h)
          rw [← hv] at hrun
          refine mX (β':=c.β) (hexec _ _ hrun)
           (rI (cs':=(lG cc.toList (es.length * i.size) news).toArray) hs hflid hob m3 m4 (by simp) (by simpa using hsplen) (setRow_heap c.w b cc _ Ty _ m4) (fun k hk => setRow_other c.w b k _ hk) (by simp) rfl rfl rfl)
           (xS (cs':=(lG cc.toList (es.length * i.size) news).toArray) hs hob m3 m4 (by simp) (by simpa using hsplen) (setRow_heap c.w b cc _ Ty _ m4) (fun k hk => setRow_other c.w b k _ hk) (by simp) rfl rfl rfl p1 ?_ p2) ?_
          ·simp only [List.length_append,List.size_toArray,hsplen,Array.length_toList]
           rw [Nat.add_mul,← hE.1]; exact hfit
          ·refine .ms id _ 0 _ _ cap i.size _ (by rw [qL hob]; simp) (Nat.le_refl _) (by omega) fun _ => ⟨by omega,.inr ⟨b,_,Ty,_,m3,setRow_heap c.w b cc _ Ty _ m4,?_,rfl,fun _ => rfl⟩⟩
           simpa [hsplen] using m5
       ·rename_i htip
        split at happ
        ·rename_i hin
         cases happ
         subst htot
         rcases m2 with ⟨_,m3,m4,m5⟩ | ⟨b,cc,Ty,a',m3,m4,m5,m6,m7⟩
         ·omega
         ·obtain ⟨cc',Ty',q1,q2,q3⟩:=hs.blk id i.size es b hob m3
          rw [m4] at q1
          cases q1
          have hcap : es.length ≤ off + cap:=by
           rcases Nat.lt_or_ge (off + cap) es.length with h | h
           ·have : (off + cap + 1) * i.size ≤ es.length * i.size:=Nat.mul_le_mul_right _ h
            rw [Nat.add_mul] at this; omega
           ·exact h
          have hne : cap ≠ 0:=by omega
          have ha:=m7 hne
          subst m6
          subst ha
          have hfit : (off + len) * i.size + news.length ≤ cc.size:=by
           rw [hE.1,← Nat.add_mul]; exact Nat.le_trans (Nat.mul_le_mul_right _ hin) q2
          obtain ⟨p1,p2⟩:=xK (k:=off + len) hlens hly (by omega) hE hfit q3
          have hst:=run_storeCells_at P b ((off + len) * i.size) Ty news 0 cc c.w m4 (by simpa using hfit) (nS hly hE)
          rw [nN] at hst
          have hsplen:=lR (l:=cc.toList) (vs:=news) (k:=(off + len) * i.size) (by simpa using hfit)
          have hspes:=lR (l:=es) (vs:=ys) (k:=off + len) hin
          have hrun:=hsrc.run o.type (some ⟨b,off * i.size,none⟩) len cap (by omega) _ (fun ad' h => by cases h; rw [nU,← Nat.add_mul]; exact hst) (fun h => by cases h)
          rw [← hv] at hrun
          refine mX (β':=c.β) (hexec _ _ hrun)
           (rI (cs':=(lG cc.toList ((off + len) * i.size) news).toArray) hs hflid hob m3 m4 (by omega) (by simpa using hsplen) (setRow_heap c.w b cc _ Ty _ m4) (fun k hk => setRow_other c.w b k _ hk) (by simp) rfl rfl rfl)
           (xS (cs':=(lG cc.toList ((off + len) * i.size) news).toArray) hs hob m3 m4 (by omega) (by simpa using hsplen) (setRow_heap c.w b cc _ Ty _ m4) (fun k hk => setRow_other c.w b k _ hk) (by simp) rfl rfl rfl p1 ?_ p2) ?_
          ·simp only [List.size_toArray,hsplen,Array.length_toList,hspes]; exact q2
          ·refine .ms id _ off _ _ cap i.size _ (by rw [qL hob]; simp [hspes]) (Nat.le_refl _) (by omega) fun _ => ⟨by omega,.inr ⟨b,_,Ty,_,m3,setRow_heap c.w b cc _ Ty _ m4,?_,rfl,fun _ => rfl⟩⟩
           simpa [hsplen] using m5
        ·cases happ
      ·cases happ
    ·cases happ
   ·cases happ
  ·cases happ
 ·cases happ
theorem aAk [GlobT] (hs : Sim (ftOf T) c) (htr : TR (ftOf T) c tm a.tmps) (hfl : fl ≤ c.H.length) {x y : AOpd} {x' y' : Operand} {t t' e e' : TypeId} {i : TypeInfo} {z : Value} {s bytes : Nat} {ys : List (List AV)} {r : AV} {H' : Heap}
  (ho : o.op = .call ⟨.builtin .append,#[x',y'],#[t,t']⟩) (h1 : kN T x x' = true) (h2 : kN T y y' = true) (hu : P.underlying t = some (.slice e)) (hu' : P.underlying t' = some (.slice e'))
  (hi : P.info? e = some i) (hsz : i.size = s) (hby : i.bytes = bytes) (hz : i.zero = some z) (hzs : z.cells.size = s) (hrd : rd c.H (kG tm y) = some ys)
  (happ : lW fl c.H s bytes (kG tm x) ys = some (r,H')) : OpOK P (ftOf T) c fl o a r H':=by
 have hal : pG s ys = true ∧ 0 < s:=by
  unfold lW at happ
  split at happ
  ·rename_i h; exact ⟨h.1,h.2.1⟩
  ·cases happ
 obtain ⟨xa,xc,news,hv,_,hE,hfc⟩:=aMv (P:=P) hs (kO hs htr h2) hrd (sH hal.1) hal.2
 have hsrc : Src P c.w t t' e i (a.eval y') ys.length news:=by
  rw [hv]
  exact aFs hu hu' hi (by rw [hsz,← hv]; exact hfc)
 refine aF9 hs hfl (kO hs htr h1) hsrc hE rfl hsz hby hz hzs happ ?_
 intro cv w' hr
 simp [execOp,ho,resolve,invoke,builtin,hr]
theorem zT [GlobT] {FT : Nat → Option Nat} {s n : Nat} {z : List Value} {v : Value} (hz : z.length = s) (hsc : ∀ u ∈ z,lB u = true) (hv : v.cells = z.toArray) :
  nF FT c s (List.replicate n (z.map AV.lit)) (Builtin.zeroCells v.cells n).toList:=by
 have hcs : v.cells.size = s:=by rw [hv]; simpa using hz
 obtain ⟨_,h2⟩:=xT (FT:=FT) (c:=c) (n:=n) (m:=n) (cv:=v.cells) hz hsc (by rw [hv]) (Nat.le_refl _)
 refine ⟨by simp [size_zeroCells,hcs],fun i j x hx => ?_⟩
 obtain ⟨u,g1,g2,g3⟩:=h2 i j x hx
 refine ⟨u,?_,g2,g3⟩
 rw [← g1]
 simp only [Builtin.zeroCells,hcs,Array.getElem?_toList]
theorem aLm [GlobT] (hs : Sim (ftOf T) c) (htr : TR (ftOf T) c tm a.tmps) (hfl : fl ≤ c.H.length) {x y : AOpd} {x' y' : Operand} {t t' e : TypeId} {k : IntKind} {z : List Value} {s bytes n : Nat} {r : AV} {H' : Heap}
  (ho : o.op = .call ⟨.builtin .append,#[x',y'],#[t,t']⟩) (h1 : kN T x x' = true) (h2 : kN T y y' = true) (hu : P.underlying t = some (.slice e)) (hu' : P.underlying t' = some (.int k))
  (hsz : mM P e s = true) (hby : qP P e bytes = true) (hz : qC P e z = true) (hzl : z.length = s) (hn : oI (kG tm y) = some n) (hn20 : n ≤ 2 ^ 20) (hnb : n * bytes ≤ 2 ^ 40)
  (happ : lW fl c.H s bytes (kG tm x) (List.replicate n (z.map .lit)) = some (r,H')) : OpOK P (ftOf T) c fl o a r H':=by
 have hs0 : 0 < s:=by
  unfold lW at happ
  split at happ
  ·rename_i h; exact h.2.1
  ·cases happ
 obtain ⟨i,hi,his⟩:=mO hsz
 obtain ⟨i',v,hi',hv,hvc,hsc⟩:=oA hz
 rw [hi] at hi'
 cases hi'
 have hbytes : i.bytes = bytes:=by simpa [qP,hi] using hby
 have hcs : v.cells.size = s:=by rw [hvc]; simpa using hzl
 obtain ⟨k',hyv⟩:=pR (kO hs htr h2) hn
 have hsrc : Src P c.w t t' e i (a.eval y') n (Builtin.zeroCells v.cells n).toList:=by
  rw [hyv]
  exact aMl hu hu' hi hv hn20 (by rw [hbytes]; exact hnb) (by omega) (by omega)
 refine aF9 hs hfl (kO hs htr h1) hsrc (zT hzl hsc hvc) (by simp) his hbytes hv hcs happ ?_
 intro cv w' hr
 simp [execOp,ho,resolve,invoke,builtin,hr]
theorem aUg [GlobT] (hs : Sim (ftOf T) c) (htr : TR (ftOf T) c tm a.tmps) {x y : AOpd} {x' y' : Operand} {t t' e : TypeId} {i : TypeInfo} {s id tot off len : Nat} {es ys : List (List AV)}
  (ho : o.op = .call ⟨.builtin .copy,#[x',y'],#[t,t']⟩) (h1 : kN T x x' = true) (h2 : kN T y y' = true) (hu : P.underlying t = some (.slice e))
  (hi : P.info? e = some i) (hsz : i.size = s) (hrd : rd c.H (kG tm y) = some ys) (hal : pG s ys = true) (hs0 : 0 < s) (hx : kG tm x = .ms id tot off len)
  (hob : c.H[id]? = some (.blk s es)) (htot : es.length = tot) (hle : ys.length ≤ len) (hflid : fl ≤ id) {r : AV} {H' : Heap}
  (hr : (if ys.length = 0 then some (AV.lit (.int .i64 0),c.H) else some (AV.lit (.int .i64 ys.length),c.H.set id (.blk s (lG es off ys)))) = some (r,H')) : OpOK P (ftOf T) c fl o a r H':=by
 have hly:=sH hal
 obtain ⟨xa,xc,news,hv,_,hE,hfc⟩:=aMv (P:=P) hs (kO hs htr h2) hrd hly hs0
 have hxr:=kO hs htr h1
 rw [hx] at hxr
 obtain ⟨ad,cap,s0,n0,hxv,g1,g2,g3,g4⟩:=hxr.ms_inv
 rw [pQ hob] at g1
 cases g1
 obtain ⟨m1,m2⟩:=g4 htot.symm
 have hf:=hfc c.w (Drawn.refl _)
 have hmin : Nat.min ys.length len = ys.length:=Nat.min_eq_left hle
 subst hsz
 rw [hv] at hf
 split at hr
 ·rename_i h0
  cases hr
  have hnil : news = []:=List.eq_nil_of_length_eq_zero (by rw [hE.1,h0,Nat.zero_mul])
  subst hnil
  refine lK (cv:=.int .i64 0) hs ?_ (RV.lit _)
  have h0' : Nat.min ys.length len = 0:=by rw [hmin,h0]
  rw [h0] at hf
  cases ad <;> simp [execOp,ho,resolve,invoke,builtin,Builtin.copy_,run_underlying hu,sizeOf,typeInfo,hi,Builtin.lenOf,hv,hxv,h0,hf,storeCells,goInt]
 ·rename_i h0
  cases hr
  rcases m2 with ⟨_,m3,m4,m5⟩ | ⟨b,cc,Ty,a',m3,m4,m5,m6,m7⟩
  ·omega
  ·have ha:=m7 (by omega)
   subst m6
   subst ha
   obtain ⟨cc',Ty',q1,q2,q3⟩:=hs.blk id i.size es b hob m3
   rw [m4] at q1
   cases q1
   have hin : off + ys.length ≤ es.length:=by omega
   have hfit : off * i.size + news.length ≤ cc.size:=by
    rw [hE.1,← Nat.add_mul]; exact Nat.le_trans (Nat.mul_le_mul_right _ hin) q2
   obtain ⟨p1,p2⟩:=xK (k:=off) (hs.lens id _ es hob) hly (by omega) hE hfit q3
   have hst:=run_storeCells_at P b (off * i.size) Ty news 0 cc c.w m4 (by simpa using hfit) (nS hly hE)
   rw [nN] at hst
   have hsplen:=lR (l:=cc.toList) (vs:=news) (k:=off * i.size) (by simpa using hfit)
   have hspes:=lR (l:=es) (vs:=ys) (k:=off) hin
   refine mX (β':=c.β) (cv:=.int .i64 ys.length) ?_
    (rI (cs':=(lG cc.toList (off * i.size) news).toArray) hs hflid hob m3 m4 (by omega) (by simpa using hsplen) (setRow_heap c.w b cc _ Ty _ m4) (fun k hk => setRow_other c.w b k _ hk) (by simp) rfl rfl rfl)
    (xS (cs':=(lG cc.toList (off * i.size) news).toArray) hs hob m3 m4 (by omega) (by simpa using hsplen) (setRow_heap c.w b cc _ Ty _ m4) (fun k hk => setRow_other c.w b k _ hk) (by simp) rfl rfl rfl p1 ?_ p2) (RV.lit _)
   ·simp [execOp,ho,resolve,invoke,builtin,Builtin.copy_,run_underlying hu,sizeOf,typeInfo,hi,Builtin.lenOf,hv,hxv,hmin,hf,hst,goInt]
   ·simp only [List.size_toArray,hsplen,Array.length_toList,hspes]; exact q2
theorem aC0 {FT : Nat → Option Nat} : ∀ (es : List (List AV)) (ns : List Int) (news : List Value),uY es = some ns → nF FT c 1 es news → news = ns.map (Value.int .u8) ∧ ∀ e ∈ es,e.length = 1
 | [],ns,news,h,hE => by
  simp only [uY,Option.some.injEq] at h
  subst h
  exact ⟨List.eq_nil_of_length_eq_zero (by simpa using hE.1),by simp⟩
 | e :: r,ns,news,h,hE => by
  simp only [uY] at h
  split at h
  ·rename_i n
   split at h
   ·rename_i l hl
    cases h
    obtain ⟨hl1,hl2⟩:=hE
    cases news with
    | nil => simp at hl1
    | cons v vs =>
     obtain ⟨u,h1,_,h3⟩:=hl2 0 0 (.lit (.int .u8 n)) rfl
     simp only [Nat.zero_mul,Nat.zero_add,List.getElem?_cons_zero,Option.some.injEq] at h1
     subst h1
     have hE' : nF FT c 1 r vs:=⟨by simpa using hl1,fun i j x hx => by
      obtain ⟨u,k1,k2,k3⟩:=hl2 (i + 1) j x (by simpa [mA] using hx)
      have e1 : (i + 1) * 1 + j = (i * 1 + j) + 1:=by omega
      rw [e1,List.getElem?_cons_succ] at k1
      exact ⟨u,k1,k2,k3⟩⟩
     obtain ⟨k1,k2⟩:=aC0 r l vs hl hE'
     refine ⟨by rw [h3.lit_inv,k1]; rfl,fun e he => ?_⟩
     rcases List.mem_cons.1 he with rfl | he
     ·rfl
     ·exact k2 e he
   ·cases h
  ·cases h
theorem aD3 : ∀ (es : List (List AV)) (ns : List Int),uY es = some ns → ns.length = es.length ∧ ∀ e ∈ es,e.length = 1
 | [],ns,h => by
  simp only [uY,Option.some.injEq] at h
  subst h
  exact ⟨rfl,by simp⟩
 | e :: r,ns,h => by
  simp only [uY] at h
  split at h
  ·split at h
   ·rename_i l hl
    cases h
    obtain ⟨k1,k2⟩:=aD3 r l hl
    refine ⟨by simp [k1],fun e he => ?_⟩
    rcases List.mem_cons.1 he with rfl | he
    ·rfl
    ·exact k2 e he
   ·cases h
  ·cases h
theorem aQl [GlobT] (hs : Sim (ftOf T) c) (htr : TR (ftOf T) c tm a.tmps) {x : AOpd} {x' : Operand} {s d : TypeId} {f : Bool} {es : List (List AV)} {ns : List Int} (ho : o.op = .convert s d x')
  (h1 : kN T x x' = true) (e1 : kG tm x = .sl f es) (hb : aEx P s d = true) (hns : uY es = some ns) : OpOK P (ftOf T) c fl o a (.lit (.string (uM ns))) c.H:=by
 have hx:=kO hs htr h1
 rw [e1] at hx
 obtain ⟨hl1,hl2⟩:=aD3 es ns hns
 obtain ⟨xa,xc,news,hv,_,hE,hfc⟩:=aMv (P:=P) hs hx (show rd c.H (.sl f es) = some es from rfl) hl2 (by omega)
 obtain ⟨rfl,_⟩:=aC0 es ns news hns hE
 have hf:=hfc c.w (Drawn.refl _)
 unfold aEx at hb
 split at hb
 ·rename_i e hu
  split at hb
  ·rename_i he
   split at hb
   ·rename_i hd
    refine lK (cv:=.string (uM ns)) hs ?_ (RV.lit _)
    rw [hv] at hf
    have hconv : (convert s d (.slice xa es.length xc)).run P c.w = .ok (.string (uM ns)) c.w:=by
     cases xa with
     | none =>
      have h0 : ns = []:=by
       have : (ns.map (Value.int .u8)).toArray = #[]:=by
        have:=hf
        simp [Builtin.firstCells] at this
        simpa using this.symm
       simpa using this
      subst h0
      simp [convert,run_underlying hu,run_underlying hd,run_underlying he,Conv.bytesToString,uM]
     | some ad =>
      have h2 : (loadCells ad es.length).run P c.w = .ok (ns.map (Value.int .u8)).toArray c.w:=by
       simpa [Builtin.firstCells] using hf
      simp [convert,run_underlying hu,run_underlying hd,run_underlying he,run_bytesToString c.w ad es.length xc ns h2,uM]
    simp [execOp,ho,hv,hconv]
   ·cases hb
  ·cases hb
 ·cases hb
end
end Go.Proofs.YtkdnaejhpcibnaaGreatDoor.Av
namespace Go.Proofs.YtkdnaejhpcibnaaGreatDoor.Av
open Go
section
variable {FT : Nat → Option Nat} {c c' : Ctx}
theorem aHv [GlobT] {n : Nat} {I : Nat → Prop} (hs : Sim FT c') (himp : ∀ b,Imm c' b → I b) (hnew : ∀ id b,n ≤ id → c'.β id = some b → I b) :
  ∀ (d : Nat) (x : AV) (v : Value),RV FT c' x v → RP c'.w I (rJ c'.H n d x) v
 | d,.lit u,v,h => by
  have : rJ c'.H n d (.lit u) = nrmV u:=by cases d <;> rfl
  rw [this,h.lit_inv]; exact aEg u
 | d,.sl f es,v,h => by
  have : rJ c'.H n d (.sl f es) = .sl false es:=by cases d <;> rfl
  rw [this]
  exact aGa (h.sl_inv.mono fun b o hi hb => ⟨himp b hi,hb⟩)
 | 0,.ms id tot off len,v,_ => .undef v
 | d + 1,.ms id tot off len,v,h => by
  simp only [rJ]
  split
  ·rename_i hn
   split
   ·rename_i es hrd
    obtain ⟨ad,cap,s0,n0,hv,g1,g2,g3,g4⟩:=h.ms_inv
    unfold rd at hrd
    simp only at hrd
    split at hrd
    ·rename_i s' es0 hob
     split at hrd
     ·rename_i htot
      cases hrd
      rw [pQ hob] at g1
      cases g1
      obtain ⟨m1,m2⟩:=g4 htot.symm
      have hlen : ((es0.drop off).take len).length = len:=by simp; omega
      subst hv
      by_cases hl0 : len = 0
      ·subst hl0
       simp only [List.take_zero,List.map_nil]
       exact .nil false _ _ (fun h => by cases h)
      ·rcases m2 with ⟨_,m3,m4,m5⟩ | ⟨b,cc,Ty,a',m3,m4,m5,m6,m7⟩
       ·omega
       ·have ha:=m7 (by omega)
        subst m6
        subst ha
        obtain ⟨cc',Ty',q1,q2,q3⟩:=hs.blk id s0 es0 b hob m3
        rw [m4] at q1
        cases q1
        have hlens:=hs.lens id s0 es0 hob
        have hcell : ∀ i j x,mA (((es0.drop off).take len).map fun e => e.map (rJ c'.H n d)) i j = some x →
          ∃ y u,x = rJ c'.H n d y ∧ cc[off * s0 + (i * s0 + j)]? = some u ∧ lB u = true ∧ RV FT c' y u:=by
         intro i j x hx
         obtain ⟨y,hy,rfl⟩:=pY hx
         obtain ⟨e,he,hj⟩:=mL hy
         rw [List.getElem?_take] at he
         split at he
         ·rw [List.getElem?_drop] at he
          obtain ⟨u,w1,w2,w3⟩:=q3 (off + i) j y (by simp [mA,he,hj])
          exact ⟨y,u,rfl,by rw [← w1]; congr 1; rw [Nat.add_mul]; omega,w2,w3⟩
         ·cases he
        have hres:=RP.sl (w:=c'.w) (I:=I) false (((es0.drop off).take len).map fun e => e.map (rJ c'.H n d)) b (off * s0) cap cc Ty (0,0) s0
         (fun i j => (cc[off * s0 + (i * s0 + j)]?).getD lI)
         (by intro e; have:=congrArg List.length e; simp at this; omega) (hnew id b hn m3) m4
         (fun e he => by
          simp only [List.mem_map] at he
          obtain ⟨e0,h0,rfl⟩:=he
          simpa using hlens e0 (List.mem_of_mem_drop (List.mem_of_mem_take h0)))
         (by simp only [List.length_map,hlen]; exact g3) (fun h => by cases h)
         (fun i j x hx => by
          obtain ⟨y,u,_,w1,w2,_⟩:=hcell i j x hx
          simp [w1,w2])
         (fun i j x hx => by
          obtain ⟨y,u,hxy,w1,_,w3⟩:=hcell i j x hx
          rw [hxy]
          simp only [w1,Option.getD_some]
          exact aHv hs himp hnew d y u w3)
        simp only [List.length_map,hlen] at hres
        exact hres
     ·cases hrd
    ·cases hrd
   ·exact .undef v
  ·exact .undef v
 | d,.undef,v,_ => by
  have : rJ c'.H n d .undef = .undef:=by cases d <;> rfl
  rw [this]; exact .undef v
 | d,.ptr ..,v,_ => by cases d <;> exact .undef v
 | d,.rptr ..,v,_ => by cases d <;> exact .undef v
 | d,.mp ..,v,_ => by cases d <;> exact .undef v
 | d,.it ..,v,_ => by cases d <;> exact .undef v
 | d,.fn ..,v,_ => by cases d <;> exact .undef v
 | d,.agg ..,v,_ => by cases d <;> exact .undef v
 | d,.tup ..,v,_ => by cases d <;> exact .undef v
def back (c c' : Ctx) : Ctx:=⟨c'.w,c.X,c.β,c.H⟩
theorem vW [GlobT] {fl : Nat} (hs : Sim FT c) (h : Step c.H.length c c') : Step fl c (back c c') where
 X:=rfl
 os:=h.os
 tape:=h.tape
 output:=h.output
 drawn:=h.drawn
 size:=h.size
 len:=Nat.le_refl _
 frame:=h.frame
 img:=fun i _ hb => .inr ⟨i,hb⟩
 blkS:=fun id s n hs' => ⟨n,hs',Nat.le_refl _,fun _ => ⟨rfl,fun b cs T hb hcs => ⟨cs,by
  have:=(h.floor id (hs.dom id b hb)).2.2 b hb
  rw [← hcs]; exact this,rfl⟩⟩⟩
 mpS:=fun _ hm => ⟨hm,rfl⟩
 floor:=fun id _ => ⟨rfl,rfl,fun b hb => (h.floor id (hs.dom id b hb)).2.2 b hb⟩
theorem aD9 [GlobT] (hs : Sim FT c) (h : Step c.H.length c c') : Sim FT (back c c'):=by
 have hst:=vW (fl:=0) hs h
 have hblk : ∀ id b,c.β id = some b → c'.w.heap[b]? = c.w.heap[b]?:=fun id b hb => (h.floor id (hs.dom id b hb)).2.2 b hb
 refine ⟨hs.gl.step hst,hs.inj,hs.dom,hs.nx,fun k hk => hs.fresh k (Nat.le_trans h.size hk),hs.lens,?_,?_,fun id q b ho hb => (hblk id b hb).trans (hs.raw id q b ho hb)⟩
 ·intro id s es b ho hb
  obtain ⟨cs,T,g1,g2,g3⟩:=hs.blk id s es b ho hb
  exact ⟨cs,T,(hblk id b hb).trans g1,g2,fun i j x hx => let ⟨v,k1,k2,k3⟩:=g3 i j x hx; ⟨v,k1,k2,k3.step hst⟩⟩
 ·intro id ents b ho hb
  obtain ⟨es,clk,g1,g2,g3⟩:=hs.map id ents b ho hb
  exact ⟨es,clk,(hblk id b hb).trans g1,g2,fun i k x hx => let ⟨e,k1,k2,k3⟩:=g3 i k x hx; ⟨e,k1,k2,k3.step hst⟩⟩
structure Fl (c c' : Ctx) : Prop where
 X : c'.X = c.X
 floor : ∀ id,id < c.H.length → c'.H[id]? = c.H[id]? ∧ c'.β id = c.β id
theorem Step.fl (h : Step c.H.length c c') : Fl c c':=⟨h.X,fun id hid => ⟨(h.floor id hid).1,(h.floor id hid).2.1⟩⟩
theorem zL [GlobT] (hs : Sim FT c) (hs' : Sim FT c') (h : Fl c c') {x : AV} {v : Value} (hr : RV FT c' x v) : RV FT (back c c') (mV c'.H c.H.length x) v:=by
 have himp : ∀ b,Imm c' b → Imm (back c c') b:=by
  intro b hi
  refine ⟨by have:=hi.1; rw [h.X] at this; exact this,fun id hid => hi.2 id ?_⟩
  have hid' : c.β id = some b:=hid
  rw [(h.floor id (hs.dom id b hid')).2]; exact hid'
 have hnew : ∀ id b,c.H.length ≤ id → c'.β id = some b → Imm (back c c') b:=by
  intro id b hn hb
  refine ⟨by have:=hs'.nx id b hb; rwa [h.X] at this,fun id' hid' => ?_⟩
  have hid'' : c.β id' = some b:=hid'
  have hlt:=hs.dom id' b hid''
  have : c'.β id' = some b:=by rw [(h.floor id' hlt).2]; exact hid''
  have:=hs'.inj id id' b hb this
  omega
 have hshp : ∀ id,id < c.H.length → shp c.H id = shp c'.H id:=fun id hid => by simp [shp,(h.floor id hid).1]
 cases hr with
 | pure _ _ hp =>
  have hp':=hp.mono (w':=(back c c').w) (I':=Imm (back c c')) fun b o hi hb => ⟨himp b hi,hb⟩
  have hn:=aGa hp'
  cases hp' with
  | undef v => exact .pure _ _ (.undef v)
  | lit v => exact .pure _ _ hn
  | nil f a cap hf => exact .pure _ _ hn
  | sl f es b off cap cc T fz s vals h1 h2 h3 h4 h5 h6 h7 h8 => exact .pure _ _ hn
 | ms id tot off len a cap s n g1 g2 g3 g4 =>
  simp only [mV]
  split
  ·rename_i hid
   refine .ms id tot off len a cap s n (by show shp c.H id = _; rw [hshp id hid]; exact g1) g2 g3 fun e => ?_
   obtain ⟨m1,m2⟩:=g4 e
   have hβ:=(h.floor id hid).2
   refine ⟨m1,?_⟩
   rcases m2 with ⟨m3,m4,m5,m6⟩ | ⟨b,cs,T,a',m3,m4,m5,m6,m7⟩
   ·exact .inl ⟨hβ.symm.trans m3,m4,m5,m6⟩
   ·exact .inr ⟨b,cs,T,a',hβ.symm.trans m3,m4,m5,m6,m7⟩
  ·exact .pure _ _ (aHv hs' himp hnew vY _ _ (.ms id tot off len a cap s n g1 g2 g3 g4))
 | ptr id tot idx off a s n g1 g2 g3 =>
  simp only [mV]
  split
  ·rename_i hid
   refine .ptr id tot idx off a s n (by show shp c.H id = _; rw [hshp id hid]; exact g1) g2 fun e => ?_
   obtain ⟨b,hb,ha⟩:=g3 e
   exact ⟨b,((h.floor id hid).2).symm.trans hb,ha⟩
  ·exact RV.undef _
 | rptr cs b off cc T fz vals g1 g2 g3 g4 =>
  exact .rptr cs b off cc T fz vals (himp b g1) g2 g3 fun j x hx => (g4 j x hx).mono fun b o hi hb => ⟨himp b hi,hb⟩
 | mp id b g1 g2 =>
  simp only [mV]
  split
  ·rename_i hid
   obtain ⟨ents,he,hnb⟩:=g1
   exact .mp id b ⟨ents,by rw [← he]; exact ((h.floor id hid).1).symm,hnb⟩ (((h.floor id hid).2).symm.trans g2)
  ·exact RV.undef _
 | it => exact RV.undef _
 | fn vi f caps cv vals g1 g2 g3 g4 =>
  cases caps with
  | nil => exact .fn vi f [] cv vals g1 g2 g3 (fun i x hx => by simp at hx)
  | cons _ _ => exact RV.undef _
 | agg => exact RV.undef _
 | tup => exact RV.undef _
theorem aJe [GlobT] (hs : Sim FT c) (hs' : Sim FT c') (h : Fl c c') {x : AV} {v : Value} (hr : RV FT c' x v) : RV FT (back c c') (pA c'.H c.H.length x) v:=by
 unfold pA
 split
 ·rename_i cs
  obtain ⟨cv,vals,rfl,g1,g2,g3⟩:=hr.agg_inv
  refine .agg _ cv vals (by simpa using g1) ?_ ?_
  ·intro i x hx
   simp only [List.getElem?_map,Option.map_eq_some_iff] at hx
   obtain ⟨y,hy,rfl⟩:=hx
   exact g2 i y hy
  ·intro i x hx
   simp only [List.getElem?_map,Option.map_eq_some_iff] at hx
   obtain ⟨y,hy,rfl⟩:=hx
   exact zL hs hs' h (g3 i y hy)
 ·exact zL hs hs' h hr
theorem aEa [GlobT] (hs : Sim FT c) (hs' : Sim FT c') (h : Fl c c') {x : AV} {v : Value} (hr : RV FT c' x v) : RV FT (back c c') (nW c'.H c.H.length x) v:=by
 unfold nW
 split
 ·rename_i cs
  obtain ⟨cv,vals,rfl,g1,g2,g3⟩:=hr.tup_inv
  refine .tup _ cv vals (by simpa using g1) ?_ ?_
  ·intro i x hx
   simp only [List.getElem?_map,Option.map_eq_some_iff] at hx
   obtain ⟨y,hy,rfl⟩:=hx
   exact g2 i y hy
  ·intro i x hx
   simp only [List.getElem?_map,Option.map_eq_some_iff] at hx
   obtain ⟨y,hy,rfl⟩:=hx
   exact aJe hs hs' h (g3 i y hy)
 ·exact aJe hs hs' h hr
end
end Go.Proofs.YtkdnaejhpcibnaaGreatDoor.Av
namespace Go.Proofs.YtkdnaejhpcibnaaGreatDoor.Av
open Go
section
variable {FT : Nat → Option Nat} {c : Ctx}
def frz (c : Ctx) (id s : Nat) (es : List (List AV)) : Ctx:=⟨c.w,c.X,fun i => if i = id then none else c.β i,c.H.set id (.blk s (es ++ [List.replicate s .undef]))⟩
theorem vM {id s i : Nat} {es : List (List AV)} (h : i ≠ id) : (frz c id s es).H[i]? = c.H[i]?:=by
 simp only [frz]
 rw [List.getElem?_set_ne (Ne.symm h)]
theorem aJx {id s : Nat} {es es' : List (List AV)} (ho : c.H[id]? = some (.blk s es')) : (frz c id s es).H[id]? = some (.blk s (es ++ [List.replicate s .undef])):=by
 have hlt : id < c.H.length:=by
  rcases Nat.lt_or_ge id c.H.length with h | h
  ·exact h
  ·rw [List.getElem?_eq_none h] at ho; cases ho
 simp only [frz]
 rw [List.getElem?_set_self hlt]
theorem tX [GlobT] {fl id s : Nat} {es : List (List AV)} (hfl : fl ≤ id) (ho : c.H[id]? = some (.blk s es)) : Step fl c (frz c id s es) where
 X:=rfl
 os:=rfl
 tape:=rfl
 output:=rfl
 drawn:=Nat.le_refl _
 size:=Nat.le_refl _
 len:=by simp [frz]
 frame:=fun _ _ _ => rfl
 img:=fun i b hb => by
  simp only [frz] at hb
  split at hb
  ·cases hb
  ·exact .inr ⟨_,hb⟩
 blkS:=fun i s' n hs => by
  by_cases hi : i = id
  ·subst hi
   simp only [shp,ho,Option.some.injEq,Prod.mk.injEq] at hs
   obtain ⟨rfl,rfl⟩:=hs
   exact ⟨es.length + 1,by simp [shp,aJx ho],by omega,fun h => by omega⟩
  ·refine ⟨n,by simp only [shp,vM hi]; exact hs,Nat.le_refl _,fun _ => ⟨by simp [frz,hi],fun b cs T _ hcs => ⟨cs,hcs,rfl⟩⟩⟩
 mpS:=fun i hm => by
  obtain ⟨e,he,hnb⟩:=hm
  have hi : i ≠ id:=by
   intro h
   subst h
   rw [ho] at he
   cases he
   exact hnb
  exact ⟨⟨e,by rw [vM hi]; exact he,hnb⟩,by simp [frz,hi]⟩
 floor:=fun i hi => by
  have : i ≠ id:=by omega
  exact ⟨vM this,by simp [frz,this],fun _ _ => rfl⟩
theorem aD8 [GlobT] {id s : Nat} {es : List (List AV)} (hs : Sim FT c) (ho : c.H[id]? = some (.blk s es)) : Sim FT (frz c id s es):=by
 have hst:=tX (fl:=0) (Nat.zero_le _) ho
 have hβ : ∀ i b,(frz c id s es).β i = some b → i ≠ id ∧ c.β i = some b:=by
  intro i b hb
  simp only [frz] at hb
  split at hb
  ·cases hb
  ·rename_i h; exact ⟨h,hb⟩
 refine ⟨hs.gl.step hst,fun i j b hi hj => hs.inj i j b (hβ i b hi).2 (hβ j b hj).2,fun i b hi => ?_,fun i b hi => hs.nx i b (hβ i b hi).2,hs.fresh,?_,?_,?_,fun i q b h hb => by
  obtain ⟨hi,hb⟩:=hβ i b hb
  rw [vM hi] at h
  exact hs.raw i q b h hb⟩
 ·have:=hs.dom i b (hβ i b hi).2
  simpa [frz] using this
 ·intro i s' es' h e he
  by_cases hi : i = id
  ·subst hi
   rw [aJx ho] at h
   cases h
   rcases List.mem_append.1 he with he | he
   ·exact hs.lens i s es ho e he
   ·simp at he; subst he; simp
  ·rw [vM hi] at h
   exact hs.lens i s' es' h e he
 ·intro i s' es' b h hb
  obtain ⟨hi,hb⟩:=hβ i b hb
  rw [vM hi] at h
  obtain ⟨cs,T,g1,g2,g3⟩:=hs.blk i s' es' b h hb
  exact ⟨cs,T,g1,g2,fun i j x hx => let ⟨v,k1,k2,k3⟩:=g3 i j x hx; ⟨v,k1,k2,k3.step hst⟩⟩
 ·intro i ents b h hb
  obtain ⟨hi,hb⟩:=hβ i b hb
  rw [vM hi] at h
  obtain ⟨cs,T,g1,g2,g3⟩:=hs.map i ents b h hb
  exact ⟨cs,T,g1,g2,fun i j x hx => let ⟨v,k1,k2,k3⟩:=g3 i j x hx; ⟨v,k1,k2,k3.step hst⟩⟩
theorem aJf [GlobT] {id s tot off len : Nat} {es : List (List AV)} {v : Value} (hs : Sim FT c) (ho : c.H[id]? = some (.blk s es)) (htot : es.length = tot) (h : RV FT c (.ms id tot off len) v) :
  RV FT (frz c id s es) (.sl false (((es.drop off).take len).map fun e => e.map toP)) v:=by
 obtain ⟨ad,cap,s0,n0,hv,g1,g2,g3,g4⟩:=h.ms_inv
 rw [pQ ho] at g1
 cases g1
 obtain ⟨m1,m2⟩:=g4 htot.symm
 have hlen : ((es.drop off).take len).length = len:=by simp; omega
 subst hv
 refine .pure _ _ ?_
 by_cases hl0 : len = 0
 ·subst hl0
  simp only [List.take_zero,List.map_nil]
  exact .nil false _ _ (fun h => by cases h)
 ·rcases m2 with ⟨_,m3,m4,m5⟩ | ⟨b,cc,Ty,a',m3,m4,m5,m6,m7⟩
  ·omega
  ·have ha:=m7 (by omega)
   subst m6
   subst ha
   obtain ⟨cc',Ty',q1,q2,q3⟩:=hs.blk id s es b ho m3
   rw [m4] at q1
   cases q1
   have hlens:=hs.lens id s es ho
   have himm : ∀ b',Imm c b' → Imm (frz c id s es) b':=fun b' hi => ⟨hi.1,fun i hb => by
    simp only [frz] at hb
    split at hb
    ·cases hb
    ·exact hi.2 i hb⟩
   have hcell : ∀ i j x,mA (((es.drop off).take len).map fun e => e.map toP) i j = some x →
     ∃ y u,x = toP y ∧ cc[off * s + (i * s + j)]? = some u ∧ lB u = true ∧ RV FT c y u:=by
    intro i j x hx
    obtain ⟨y,hy,rfl⟩:=pY hx
    obtain ⟨e,he,hj⟩:=mL hy
    rw [List.getElem?_take] at he
    split at he
    ·rw [List.getElem?_drop] at he
     obtain ⟨u,w1,w2,w3⟩:=q3 (off + i) j y (by simp [mA,he,hj])
     exact ⟨y,u,rfl,by rw [← w1]; congr 1; rw [Nat.add_mul]; omega,w2,w3⟩
    ·cases he
   have hres:=RP.sl (w:=c.w) (I:=Imm (frz c id s es)) false (((es.drop off).take len).map fun e => e.map toP) b (off * s) cap cc Ty (0,0) s
    (fun i j => (cc[off * s + (i * s + j)]?).getD lI)
    (by intro e; have:=congrArg List.length e; simp at this; omega)
    ⟨hs.nx id b m3,fun i hb => by
     simp only [frz] at hb
     split at hb
     ·cases hb
     ·rename_i hne; exact hne (hs.inj i id b hb m3)⟩ m4
    (fun e he => by
     simp only [List.mem_map] at he
     obtain ⟨e0,h0,rfl⟩:=he
     simpa using hlens e0 (List.mem_of_mem_drop (List.mem_of_mem_take h0)))
    (by simp only [List.length_map,hlen]; exact g3) (fun h => by cases h)
    (fun i j x hx => by
     obtain ⟨y,u,_,w1,w2,_⟩:=hcell i j x hx
     simp [w1,w2])
    (fun i j x hx => by
     obtain ⟨y,u,hxy,w1,_,w3⟩:=hcell i j x hx
     rw [hxy]
     simp only [w1,Option.getD_some]
     cases y with
     | lit q => rw [w3.lit_inv]; exact aEg _
     | sl f es => exact aGa (w3.sl_inv.mono fun b o hi hb => ⟨himm b hi,hb⟩)
     | _ => exact .undef _)
   simp only [List.length_map,hlen] at hres
   exact hres
end
section
variable {P : Program} {T : List AFun} {c : Ctx} {fl : Nat} {o : Oper} {a : Act} {tm : List AV}
theorem aM9 [GlobT] (hs : Sim (ftOf T) c) (htr : TR (ftOf T) c tm a.tmps) {x : AOpd} {y : Operand} {id s tot off len : Nat} {es : List (List AV)} (ho : o.op = .move y ∨ o.op = .assign y) (h : kN T x y = true)
  (hx : kG tm x = .ms id tot off len) (hfl : fl ≤ id) (hid : c.H[id]? = some (.blk s es)) (htot : es.length = tot) :
  OpOK P (ftOf T) c fl o a (.sl false (((es.drop off).take len).map fun e => e.map toP)) (c.H.set id (.blk s (es ++ [List.replicate s .undef]))):=by
 have hr:=kO hs htr h
 rw [hx] at hr
 refine mX (cv:=a.eval y) (w':=c.w) (β':=fun i => if i = id then none else c.β i) ?_ (tX hfl hid) (aD8 hs hid) (aJf hs hid htot hr)
 rcases ho with ho | ho <;> simp [execOp,ho]
theorem aLf [GlobT] {id s tot off len k : Nat} {es : List (List AV)} {cs : List AV} {v : Value} (hs : Sim (ftOf T) c) (ho : c.H[id]? = some (.blk s es)) (htot : es.length = tot)
  (hk : cs[k]? = some (.ms id tot off len)) (h : RV (ftOf T) c (.agg cs) v) : RV (ftOf T) (frz c id s es) (.agg (cs.set k (.sl false (((es.drop off).take len).map fun e => e.map toP)))) v:=by
 have hst:=tX (fl:=0) (Nat.zero_le _) ho
 obtain ⟨cv,vals,rfl,g1,g2,g3⟩:=h.agg_inv
 have key : ∀ (i : Nat) (x : AV),(cs.set k (.sl false (((es.drop off).take len).map fun e => e.map toP)))[i]? = some x → (i = k ∧ x = .sl false (((es.drop off).take len).map fun e => e.map toP)) ∨ cs[i]? = some x:=by
  intro i x hx
  rw [List.getElem?_set] at hx
  split at hx
  ·split at hx
   ·rename_i h1 _; cases hx; exact .inl ⟨h1.symm,rfl⟩
   ·cases hx
  ·exact .inr hx
 refine .agg _ cv vals (by simpa using g1) (fun i x hx => ?_) (fun i x hx => ?_)
 ·rcases key i x hx with ⟨rfl,rfl⟩ | h1
  ·exact g2 _ _ hk
  ·exact g2 i x h1
 ·rcases key i x hx with ⟨rfl,rfl⟩ | h1
  ·exact aJf hs ho htot (g3 _ _ hk)
  ·exact (g3 i x h1).step hst
theorem aQk [GlobT] (hs : Sim (ftOf T) c) (htr : TR (ftOf T) c tm a.tmps) {x : AOpd} {y : Operand} {t : TypeId} {n k : Nat} {cs : List AV} {id s tot off len : Nat} {es : List (List AV)} (ho : o.op = .load t y)
  (h : kN T x y = true) (h1 : xO P t true = true) (h2 : mM P t n = true) (hl : oD c.H (kG tm x) n = some cs)
  (hk : cs[k]? = some (.ms id tot off len)) (hfl : fl ≤ id) (hid : c.H[id]? = some (.blk s es)) (htot : es.length = tot) :
  OpOK P (ftOf T) c fl o a (.agg (cs.set k (.sl false (((es.drop off).take len).map fun e => e.map toP)))) (c.H.set id (.blk s (es ++ [List.replicate s .undef]))):=by
 obtain ⟨ad,vs,hp,hn,hc⟩:=xW hs (kO hs htr h) hl
 refine mX (cv:=.agg vs.toArray) (w':=c.w) (β':=fun i => if i = id then none else c.β i) ?_ (tX hfl hid) (aD8 hs hid) (aLf hs hid htot hk (sY hc))
 simp [execOp,ho,Instr.loadAt,Instr.sureAddr,hp,qM hc hn h1 h2 rfl]
theorem aQd {H : Heap} {v : AV} {ys : List (List AV)} (h : aQe v = some ys) : rd H v = some ys:=by
 unfold aQe at h
 split at h
 ·exact h
 ·exact h
 ·cases h
theorem aLn [GlobT] (hs : Sim (ftOf T) c) (htr : TR (ftOf T) c tm a.tmps) {x y : AOpd} {x' y' : Operand} {t t' e e' : TypeId} {i : TypeInfo} {z : Value} {s bytes : Nat} {r : AV}
  (ho : o.op = .call ⟨.builtin .append,#[x',y'],#[t,t']⟩) (h1 : kN T x x' = true) (h2 : kN T y y' = true) (hu : P.underlying t = some (.slice e)) (hu' : P.underlying t' = some (.slice e'))
  (hi : P.info? e = some i) (hsz : i.size = s) (hby : i.bytes = bytes) (hz : i.zero = some z) (hzs : z.cells.size = s) (hr : appP s bytes (kG tm x) (kG tm y) = some r) :
  OpOK P (ftOf T) c fl o a r c.H:=by
 unfold appP at hr
 split at hr
 ·rename_i f es hx
  split at hr
  ·split at hr
   ·split at hr
    ·rename_i ys hys
     split at hr
     ·rename_i hcond
      cases hr
      have hrd : rd c.H (kG tm y) = some ys:=aQd hys
      intro K Q hK
      by_cases h0 : ys.length = 0
      ·have h00 : ys = []:=List.length_eq_zero_iff.1 h0
       have happ : lW c.H.length c.H s bytes (kG tm x) ys = some (.sl true [],c.H):=by
        unfold lW
        rw [if_pos hcond,hx]
        simp [h0]
       refine aAk hs htr (fl:=c.H.length) (Nat.le_refl _) ho h1 h2 hu hu' hi hsz hby hz hzs hrd happ K Q (fun cv c' hH hst hsim hrv => ?_)
       exact hK cv (back c c') rfl (vW hs hst) (aD9 hs hst) (by have:=zL hs hsim hst.fl hrv; rw [h00]; exact this)
      ·have happ : lW c.H.length c.H s bytes (kG tm x) ys = some (.ms c.H.length ys.length 0 ys.length,c.H ++ [.blk s ys]):=by
        unfold lW
        rw [if_pos hcond,hx]
        have hcond2 : room (0 + ys.length) bytes = true:=by rw [Nat.zero_add]; exact hcond.2.2
        simp [h0,pG,hcond2,hcond.2.2]
       refine aAk hs htr (fl:=c.H.length) (Nat.le_refl _) ho h1 h2 hu hu' hi hsz hby hz hzs hrd happ K Q (fun cv c' hH hst hsim hrv => ?_)
       have hob : c'.H[c.H.length]? = some (.blk s ys):=by rw [hH]; simp
       have hst2 : Step c.H.length c (frz c' c.H.length s ys):=hst.trans (tX (Nat.le_refl _) hob)
       have hsim2:=aD8 hsim hob
       have hrv2:=aJf hsim hob rfl hrv
       have hrv3:=zL hs hsim2 hst2.fl hrv2
       refine hK cv (back c (frz c' c.H.length s ys)) rfl (vW hs hst2) (aD9 hs hst2) ?_
       simpa [mV] using hrv3
     ·cases hr
    ·cases hr
   ·cases hr
  ·cases hr
 ·cases hr
end
end Go.Proofs.YtkdnaejhpcibnaaGreatDoor.Av
namespace Go.Proofs.YtkdnaejhpcibnaaGreatDoor.Av
open Go
section
variable {P : Program} {T : List AFun}
def aC8 (FT : Nat → Option Nat) (c : Ctx) (args : List AV) (vs : Array Value) : Prop :=
 vs.size = args.length ∧ ∀ (i : Nat) (x : AV),args[i]? = some x → ∃ v,vs[i]? = some v ∧ RV FT c x v
def CfOK [GlobT] (P : Program) (T : List AFun) (cf : Nat → Nat → List AV → Heap → Option (AV × Heap)) : Prop :=
 ∀ (fl vi f : Nat) (args : List AV) (r : AV) (H' : Heap) (c : Ctx) (vs : Array Value),cf fl vi args c.H = some (r,H') → ftOf T vi = some f → Sim (ftOf T) c → fl ≤ c.H.length → aC8 (ftOf T) c args vs →
  Calls P f vs c.w fun e w' => ∃ v c',e = .returned v ∧ c'.w = w' ∧ c'.H = H' ∧ c'.X = c.X ∧ Step fl c c' ∧ Sim (ftOf T) c' ∧ RV (ftOf T) c' r v
def yJ (P : Program) (T : List AFun) : Prop :=
 ∀ vi f, ftOf T vi = some f → ∃ fn, P.funcs[f]? = some fn ∧ fn.body.isSome = true ∧ (fn.name == "runtime.NumGoroutine") = false
variable {cf : Nat → Nat → List AV → Heap → Option (AV × Heap)} {c : Ctx} {fl : Nat} {o : Oper} {a : Act} {tm : List AV}
def bare (c : Ctx) : Ctx:=⟨c.w,fun b => c.X b ∨ ∃ id,c.β id = some b,fun _ => none,[]⟩
theorem bare_imm {c : Ctx} {b : Nat} : Imm (bare c) b ↔ Imm c b :=
 ⟨fun h => ⟨fun hx => h.1 (.inl hx),fun id hid => h.1 (.inr ⟨id,hid⟩)⟩,fun h => ⟨fun hx => by
  rcases hx with hx | ⟨id,hid⟩
  ·exact h.1 hx
  ·exact h.2 id hid,fun id hid => by cases hid⟩⟩
theorem qB [GlobT] {FT : Nat → Option Nat} {c : Ctx} (hs : Sim FT c) {id b : Nat} (h : c.β id = some b) : b < c.w.heap.size:=by
 have hd:=hs.dom id b h
 have key : ∀ o : Obj,c.w.heap[b]? = some o → b < c.w.heap.size:=by
  intro o ho
  rcases Nat.lt_or_ge b c.w.heap.size with h | h
  ·exact h
  ·rw [Array.getElem?_eq_none h] at ho; cases ho
 cases ho : c.H[id] with
 | blk s es =>
  obtain ⟨cs,T,g,_⟩:=hs.blk id s es b (by rw [List.getElem?_eq_getElem hd,ho]) h
  exact key _ g
 | mp es =>
  obtain ⟨cs,T,g,_⟩:=hs.map id es b (by rw [List.getElem?_eq_getElem hd,ho]) h
  exact key _ g
 | raw q => exact key _ (hs.raw id q b (by rw [List.getElem?_eq_getElem hd,ho]) h)
theorem aK1 [GlobT] {FT : Nat → Option Nat} {c : Ctx} (hs : Sim FT c) : Sim FT (bare c) where
 gl:=fun g cs hcs => let ⟨cc,T,fz,vals,h1,h2,h0,h3,h4⟩:=hs.gl g cs hcs; ⟨cc,T,fz,vals,bare_imm.2 h1,h2,h0,h3,fun j x hx => (h4 j x hx).mono fun b o hi hb => ⟨bare_imm.2 hi,hb⟩⟩
 inj:=fun _ _ _ h => by cases h
 dom:=fun _ _ h => by cases h
 nx:=fun _ _ h => by cases h
 fresh:=fun k hk h => by
  rcases h with h | ⟨id,hid⟩
  ·exact hs.fresh k hk h
  ·have:=qB hs hid
   have hk' : c.w.heap.size ≤ k:=hk
   omega
 lens:=fun id s es h => by simp [bare] at h
 blk:=fun id s es b h => by simp [bare] at h
 map:=fun id es b h => by simp [bare] at h
 raw:=fun id q b h => by simp [bare] at h
theorem aF2 [GlobT] {FT : Nat → Option Nat} {c : Ctx} {x : AV} {v : Value} (hp : aDf x = true) (h : RV FT c x v) : RV FT (bare c) x v:=by
 cases h with
 | pure _ _ hr => exact .pure _ _ (hr.mono fun b o hi hb => ⟨bare_imm.2 hi,hb⟩)
 | ms => cases hp
 | ptr => cases hp
 | rptr cs b off cc T fz vals g1 g2 g3 g4 => exact .rptr cs b off cc T fz vals (bare_imm.2 g1) g2 g3 fun j x hx => (g4 j x hx).mono fun b o hi hb => ⟨bare_imm.2 hi,hb⟩
 | mp => cases hp
 | it => cases hp
 | fn vi f caps cv vals g1 g2 g3 g4 =>
  cases caps with
  | nil => exact .fn vi f [] cv vals g1 g2 g3 fun i x hx => by simp at hx
  | cons _ _ => cases hp
 | agg => cases hp
 | tup => cases hp
theorem xU [GlobT] : ∀ {cs : List AV},aJh cs = true → ∀ x ∈ cs,aDf x = true
 | [],_,x,hx => by cases hx
 | y :: r,h,x,hx => by
  simp only [aJh] at h
  split at h
  ·rename_i hy
   rcases List.mem_cons.1 hx with rfl | hx
   ·exact hy
   ·exact xU h x hx
  ·cases h
theorem tA [GlobT] : ∀ {cs : List AV},mW cs = true → ∀ x ∈ cs,aAh x = true
 | [],_,x,hx => by cases hx
 | y :: r,h,x,hx => by
  simp only [mW] at h
  split at h
  ·rename_i hy
   rcases List.mem_cons.1 hx with rfl | hx
   ·exact hy
   ·exact tA h x hx
  ·cases h
theorem aMz [GlobT] {FT : Nat → Option Nat} {c : Ctx} {x : AV} {v : Value} (hp : aAh x = true) (h : RV FT c x v) : RV FT (bare c) x v:=by
 unfold aAh at hp
 split at hp
 ·rename_i cs
  obtain ⟨cv,vals,rfl,g1,g2,g3⟩:=h.agg_inv
  exact .agg cs cv vals g1 g2 fun i x hx => aF2 (xU hp x (List.mem_of_getElem? hx)) (g3 i x hx)
 ·exact aF2 hp h
theorem aPv [GlobT] {FT : Nat → Option Nat} {c : Ctx} {args : List AV} {vs : Array Value} (hp : mW args = true) (h : aC8 FT c args vs) : aC8 FT (bare c) args vs :=
 ⟨h.1,fun i x hx => let ⟨v,h1,h2⟩:=h.2 i x hx; ⟨v,h1,aMz (tA hp x (List.mem_of_getElem? hx)) h2⟩⟩
theorem rF {c c' : Ctx} (h : Step 0 (bare c) c') {k : Nat} (hk : k < c.w.heap.size) : c'.w.heap[k]? = c.w.heap[k]?:=h.frame k hk fun id hid => by cases hid
theorem aHh [GlobT] {FT : Nat → Option Nat} {c c' : Ctx} {fl : Nat} (hs : Sim FT c) (h : Step 0 (bare c) c') : Step fl c (back c c') where
 X:=rfl
 os:=h.os
 tape:=h.tape
 output:=h.output
 drawn:=h.drawn
 size:=h.size
 len:=Nat.le_refl _
 frame:=fun k hk _ => rF h hk
 img:=fun i _ hb => .inr ⟨i,hb⟩
 blkS:=fun id s n hs' => ⟨n,hs',Nat.le_refl _,fun _ => ⟨rfl,fun b cs T hb hcs => ⟨cs,(rF h (qB hs hb)).trans hcs,rfl⟩⟩⟩
 mpS:=fun _ hm => ⟨hm,rfl⟩
 floor:=fun id _ => ⟨rfl,rfl,fun b hb => rF h (qB hs hb)⟩
theorem aPu [GlobT] {FT : Nat → Option Nat} {c c' : Ctx} (hs : Sim FT c) (h : Step 0 (bare c) c') : Sim FT (back c c'):=by
 have hst:=aHh (fl:=0) hs h
 refine ⟨hs.gl.step hst,hs.inj,hs.dom,hs.nx,fun k hk => hs.fresh k (Nat.le_trans h.size hk),hs.lens,?_,?_,fun id q b ho hb => (rF h (qB hs hb)).trans (hs.raw id q b ho hb)⟩
 ·intro id s es b ho hb
  obtain ⟨cs,T,g1,g2,g3⟩:=hs.blk id s es b ho hb
  exact ⟨cs,T,(rF h (qB hs hb)).trans g1,g2,fun i j x hx => let ⟨v,k1,k2,k3⟩:=g3 i j x hx; ⟨v,k1,k2,k3.step hst⟩⟩
 ·intro id ents b ho hb
  obtain ⟨es,clk,g1,g2,g3⟩:=hs.map id ents b ho hb
  exact ⟨es,clk,(rF h (qB hs hb)).trans g1,g2,fun i k x hx => let ⟨e,k1,k2,k3⟩:=g3 i k x hx; ⟨e,k1,k2,k3.step hst⟩⟩
theorem aRv [GlobT] {FT : Nat → Option Nat} {c c' : Ctx} {x : AV} {v : Value} (h : RV FT (back (bare c) c') x v) : RV FT (back c c') x v:=by
 have him : ∀ b,Imm (back (bare c) c') b → Imm (back c c') b:=fun b hi => ⟨fun hx => hi.1 (.inl hx),fun id hid => hi.1 (.inr ⟨id,hid⟩)⟩
 induction h with
 | pure x v hp => exact .pure x v (hp.mono fun b o hi hb => ⟨him b hi,hb⟩)
 | ms id tot off len a cap s n g1 => simp [back,bare,shp] at g1
 | ptr id tot idx off a s n g1 => simp [back,bare,shp] at g1
 | rptr cs b off cc T fz vals g1 g2 g3 g4 => exact .rptr cs b off cc T fz vals (him b g1) g2 g3 fun j x hx => (g4 j x hx).mono fun b o hi hb => ⟨him b hi,hb⟩
 | mp id b g1 => obtain ⟨e,he,_⟩:=g1; simp [back,bare] at he
 | it id b g1 => obtain ⟨e,he,_⟩:=g1; simp [back,bare] at he
 | fn vi f caps cv vals hf hs hv _ ih => exact .fn vi f caps cv vals hf hs hv ih
 | agg cs cv vals hs hv _ ih => exact .agg cs cv vals hs hv ih
 | tup cs cv vals hs hv _ ih => exact .tup cs cv vals hs hv ih
theorem zC {f : Nat} {fn : Func} {args : Array Value} (h1 : P.funcs[f]? = some fn) (h2 : fn.body.isSome = true) (h3 : (fn.name == "runtime.NumGoroutine") = false) (w : World) :
  (callFunc f args).run P w = .ok (.enter f args) w:=by
 obtain ⟨b,hb⟩:=Option.isSome_iff_exists.1 h2
 have h5 : ¬ fn.name = "runtime.NumGoroutine" := by simpa using h3
 simp [callFunc,h1,hb,h5]
theorem aSa [GlobT] {FT : Nat → Option Nat} {c : Ctx} {x : AV} {v : Value} (h : RV FT c x v) : RV FT c (nrm x) v:=by
 cases h with
 | pure _ _ hp => exact .pure _ _ (aGa hp)
 | ms id tot off len a cap s n g1 g2 g3 g4 => exact .ms id tot off len a cap s n g1 g2 g3 g4
 | ptr id tot idx off a s n g1 g2 g3 => exact .ptr id tot idx off a s n g1 g2 g3
 | rptr cs b off cc T fz vals g1 g2 g3 g4 => exact .rptr cs b off cc T fz vals g1 g2 g3 g4
 | mp id b g1 g2 => exact .mp id b g1 g2
 | it id b g1 g2 => exact .it id b g1 g2
 | fn vi f caps cv vals g1 g2 g3 g4 => exact .fn vi f caps cv vals g1 g2 g3 g4
 | agg cs cv vals g1 g2 g3 => exact .agg cs cv vals g1 g2 g3
 | tup cs cv vals g1 g2 g3 => exact .tup cs cv vals g1 g2 g3
theorem aNg [GlobT] {FT : Nat → Option Nat} {c : Ctx} {x : AV} {v : Value} (h : RV FT c x v) : RV FT c (nrm2 x) v:=by
 unfold nrm2
 split
 ·rename_i cs
  obtain ⟨cv,vals,rfl,g1,g2,g3⟩:=h.agg_inv
  refine .agg _ cv vals (by simpa using g1) ?_ ?_
  ·intro i x hx
   simp only [List.getElem?_map,Option.map_eq_some_iff] at hx
   obtain ⟨y,hy,rfl⟩:=hx
   exact g2 i y hy
  ·intro i x hx
   simp only [List.getElem?_map,Option.map_eq_some_iff] at hx
   obtain ⟨y,hy,rfl⟩:=hx
   exact aSa (g3 i y hy)
 ·exact aSa h
theorem aM5 [GlobT] (hs : Sim (ftOf T) c) (htr : TR (ftOf T) c tm a.tmps) {x : AOpd} {y : Operand} (ho : o.op = .move y ∨ o.op = .assign y) (h : kN T x y = true) :
  OpOK P (ftOf T) c fl o a (nrm2 (kG tm x)) c.H:=by
 refine lK (cv:=a.eval y) hs ?_ (aNg (kO hs htr h))
 rcases ho with ho | ho <;> simp [execOp,ho]
theorem aK2 [GlobT] {FT : Nat → Option Nat} {c : Ctx} {args : List AV} {vs : Array Value} (h : aC8 FT c args vs) : aC8 FT c (args.map nrm2) vs:=by
 refine ⟨by simpa using h.1,fun i x hx => ?_⟩
 simp only [List.getElem?_map,Option.map_eq_some_iff] at hx
 obtain ⟨y,hy,rfl⟩:=hx
 obtain ⟨v,g1,g2⟩:=h.2 i y hy
 exact ⟨v,g1,aNg g2⟩
theorem aNe [GlobT] (hcf : CfOK P T cf) (hfn : yJ P T) (hs : Sim (ftOf T) c) (hfl : fl ≤ c.H.length) {pu : Bool} {vi f : Nat} {args : List AV} {vs : Array Value} {r : AV} {H' : Heap}
  (hev : nH cf fl pu vi args c.H = some (r,H')) (hf : ftOf T vi = some f) (hargs : aC8 (ftOf T) c args vs)
  (hrun : (execOp a.eval o).run P c.w = (callFunc f vs).run P c.w) : OpOK P (ftOf T) c fl o a r H':=by
 obtain ⟨fn,h1,h2,h3⟩:=hfn vi f hf
 intro K Q hK
 unfold Oper.wp
 rw [hrun,zC h1 h2 h3]
 simp only [Oper.upon]
 unfold nH at hev
 split at hev
 ·split at hev
  ·rename_i hpl
   split at hev
   ·rename_i r' H'' hc
    cases hev
    refine (hcf 0 vi f (args.map nrm2) r' H'' (bare c) vs hc hf (aK1 hs) (Nat.le_refl _) (aK2 (aPv hpl hargs))).mono ?_
    rintro e w' ⟨v,c',rfl,rfl,rfl,hX,hst,hs',hv⟩
    exact hK v (back c c') rfl (aHh hs hst) (aPu hs hst) (aRv (aEa (aK1 hs) hs' ⟨hst.X,fun id hid => absurd hid (Nat.not_lt_zero _)⟩ hv))
   ·cases hev
  ·split at hev
   ·rename_i r' H'' hc
    cases hev
    refine (hcf _ vi f (args.map nrm2) r' H'' c vs hc hf hs (Nat.le_refl _) (aK2 hargs)).mono ?_
    rintro e w' ⟨v,c',rfl,rfl,rfl,hX,hst,hs',hv⟩
    exact hK v (back c c') rfl (vW hs hst) (aD9 hs hst) (aEa hs hs' hst.fl hv)
   ·cases hev
 ·refine (hcf fl vi f args r H' c vs hev hf hs hfl hargs).mono ?_
  rintro e w' ⟨v,c',rfl,rfl,rfl,hX,hst,hs',hv⟩
  exact hK v c' rfl hst hs' hv
theorem aFk [GlobT] (hs : Sim (ftOf T) c) (htr : TR (ftOf T) c tm a.tmps) {xs : List AOpd} {ys : List Operand} (h : nM T xs ys = true) : aC8 (ftOf T) c (xs.map (kG tm)) (ys.map a.eval).toArray:=by
 obtain ⟨h1,h2⟩:=aEf hs htr h
 refine ⟨by simp [h1],fun i x hx => ?_⟩
 obtain ⟨v,g1,g2⟩:=h2 i x hx
 exact ⟨v,by simpa using g1,g2⟩
theorem aNb [GlobT] (hcf : CfOK P T cf) (hfn : yJ P T) (hs : Sim (ftOf T) c) (htr : TR (ftOf T) c tm a.tmps) (hfl : fl ≤ c.H.length) {pu : Bool} {vi f : Nat} {args : List AOpd} {as : Array Operand} {ts : Array TypeId} {r : AV} {H' : Heap}
  (ho : o.op = .call ⟨.value (.func f),as,ts⟩) (hf : ftOf T vi = some f) (h : nM T args as.toList = true) (hev : nH cf fl pu vi (args.map (kG tm)) c.H = some (r,H')) : OpOK P (ftOf T) c fl o a r H':=by
 refine aNe hcf hfn hs hfl hev hf (aFk hs htr h) ?_
 have e : (as.toList.map a.eval).toArray = as.map a.eval:=by apply Array.ext'; simp
 rw [e]
 simp [execOp,ho,resolve,Act.eval,Deferred.ofValue,invoke]
theorem OpOK.mono [GlobT] {FT : Nat → Option Nat} {fl' : Nat} {r : AV} {H' : Heap} (h : OpOK P FT c fl' o a r H') (hl : fl ≤ fl') : OpOK P FT c fl o a r H' :=
 fun K Q hK => h K Q fun cv c' h1 h2 h3 h4 => hK cv c' h1 (h2.mono hl) h3 h4
theorem aQo [GlobT] (hcf : CfOK P T cf) (hfn : yJ P T) (hs : Sim (ftOf T) c) (htr : TR (ftOf T) c tm a.tmps) (hfl : fl ≤ c.H.length) {vi f : Nat} {args : List AOpd} {as : Array Operand} {ts : Array TypeId} {r : AV} {H' : Heap}
  (ho : o.op = .call ⟨.value (.func f),as,ts⟩) (hf : ftOf T vi = some f) (h : nM T args as.toList = true) (hev : cf c.H.length vi (args.map (kG tm)) c.H = some (r,H')) : OpOK P (ftOf T) c fl o a r H' :=
 (aNb (fl:=c.H.length) (pu:=false) hcf hfn hs htr (Nat.le_refl _) ho hf h hev).mono hfl
def vB (c : Ctx) : Ctx:=⟨c.w,c.X,fun _ => none,[]⟩
theorem vX {c : Ctx} {b : Nat} (h : Imm c b) : Imm (vB c) b:=⟨h.1,fun id hid => by cases hid⟩
theorem aJb [GlobT] {FT : Nat → Option Nat} {c : Ctx} (hs : Sim FT c) : Sim FT (vB c) where
 gl:=fun g cs hcs => let ⟨cc,T,fz,vals,h1,h2,h0,h3,h4⟩:=hs.gl g cs hcs; ⟨cc,T,fz,vals,vX h1,h2,h0,h3,fun j x hx => (h4 j x hx).mono fun b o hi hb => ⟨vX hi,hb⟩⟩
 inj:=fun _ _ _ h => by cases h
 dom:=fun _ _ h => by cases h
 nx:=fun _ _ h => by cases h
 fresh:=hs.fresh
 lens:=fun id s es h => by simp [vB] at h
 blk:=fun id s es b h => by simp [vB] at h
 map:=fun id es b h => by simp [vB] at h
 raw:=fun id q b h => by simp [vB] at h
theorem qR {c c' : Ctx} (h : Step 0 (vB c) c') {k : Nat} (hk : k < c.w.heap.size) : c'.w.heap[k]? = c.w.heap[k]?:=h.frame k hk fun id hid => by cases hid
theorem aFt [GlobT] {FT : Nat → Option Nat} {c c' : Ctx} {fl : Nat} (hs : Sim FT c) (h : Step 0 (vB c) c') : Step fl c (back c c') where
 X:=rfl
 os:=h.os
 tape:=h.tape
 output:=h.output
 drawn:=h.drawn
 size:=h.size
 len:=Nat.le_refl _
 frame:=fun k hk _ => qR h hk
 img:=fun i _ hb => .inr ⟨i,hb⟩
 blkS:=fun id s n hs' => ⟨n,hs',Nat.le_refl _,fun _ => ⟨rfl,fun b cs T hb hcs => ⟨cs,(qR h (qB hs hb)).trans hcs,rfl⟩⟩⟩
 mpS:=fun _ hm => ⟨hm,rfl⟩
 floor:=fun id _ => ⟨rfl,rfl,fun b hb => qR h (qB hs hb)⟩
theorem aMm [GlobT] {FT : Nat → Option Nat} {c c' : Ctx} (hs : Sim FT c) (h : Step 0 (vB c) c') : Sim FT (back c c'):=by
 have hst:=aFt (fl:=0) hs h
 refine ⟨hs.gl.step hst,hs.inj,hs.dom,hs.nx,fun k hk => hs.fresh k (Nat.le_trans h.size hk),hs.lens,?_,?_,fun id q b ho hb => (qR h (qB hs hb)).trans (hs.raw id q b ho hb)⟩
 ·intro id s es b ho hb
  obtain ⟨cs,T,g1,g2,g3⟩:=hs.blk id s es b ho hb
  exact ⟨cs,T,(qR h (qB hs hb)).trans g1,g2,fun i j x hx => let ⟨v,k1,k2,k3⟩:=g3 i j x hx; ⟨v,k1,k2,k3.step hst⟩⟩
 ·intro id ents b ho hb
  obtain ⟨es,clk,g1,g2,g3⟩:=hs.map id ents b ho hb
  exact ⟨es,clk,(qR h (qB hs hb)).trans g1,g2,fun i k x hx => let ⟨e,k1,k2,k3⟩:=g3 i k x hx; ⟨e,k1,k2,k3.step hst⟩⟩
theorem aJc [GlobT] {c : Ctx} (hs : Sim (ftOf T) c) {x : AV} {v : Value} (hr : RV (ftOf T) c x v) : RV (ftOf T) (vB c) (mV c.H 0 x) v:=by
 have hp : ∀ d y u,RV (ftOf T) c y u → RP (vB c).w (Imm (vB c)) (rJ c.H 0 d y) u:=fun d y u h =>
  aHv hs (fun b hb => vX hb) (fun id b _ hb => ⟨hs.nx id b hb,fun i hi => by cases hi⟩) d y u h
 cases hr with
 | pure _ _ hpr =>
  have:=hp 0 x v (.pure _ _ hpr)
  cases hpr with
  | undef => exact RV.undef _
  | lit => exact .pure _ _ (aEg _)
  | nil f a cap hf => exact .pure _ _ (.nil false a cap (by simp))
  | sl f es b off cap cc Ty fz s vals h1 h2 h3 h4 h5 h6 h7 h8 => exact .pure _ _ this
 | ms id tot off len a cap s n g1 g2 g3 g4 =>
  simp only [mV,Nat.not_lt_zero,if_false]
  exact .pure _ _ (hp _ _ _ (.ms id tot off len a cap s n g1 g2 g3 g4))
 | ptr id tot idx off a s n g1 g2 g3 => simp only [mV,Nat.not_lt_zero,if_false]; exact RV.undef _
 | rptr cs b off cc Ty fz vals g1 g2 g3 g4 =>
  exact .rptr cs b off cc Ty fz vals (vX g1) g2 g3 fun j x hx => (g4 j x hx).mono fun b o hi hb => ⟨vX hi,hb⟩
 | mp id b g1 g2 => simp only [mV,Nat.not_lt_zero,if_false]; exact RV.undef _
 | it id b g1 g2 => exact RV.undef _
 | fn vi f caps cv vals g1 g2 g3 g4 =>
  cases caps with
  | nil => exact .fn vi f [] cv vals g1 g2 g3 (fun i x hx => by simp at hx)
  | cons _ _ => exact RV.undef _
 | agg => exact RV.undef _
 | tup => exact RV.undef _
theorem aP4 [GlobT] {c : Ctx} (hs : Sim (ftOf T) c) {x : AV} {v : Value} (hr : RV (ftOf T) c x v) : RV (ftOf T) (vB c) (pA c.H 0 x) v:=by
 unfold pA
 split
 ·rename_i cs
  obtain ⟨cv,vals,rfl,g1,g2,g3⟩:=hr.agg_inv
  refine .agg _ cv vals (by simpa using g1) ?_ ?_
  ·intro i x hx
   simp only [List.getElem?_map,Option.map_eq_some_iff] at hx
   obtain ⟨y,hy,rfl⟩:=hx
   exact g2 i y hy
  ·intro i x hx
   simp only [List.getElem?_map,Option.map_eq_some_iff] at hx
   obtain ⟨y,hy,rfl⟩:=hx
   exact aJc hs (g3 i y hy)
 ·exact aJc hs hr
theorem aP7 [GlobT] {FT : Nat → Option Nat} {c c' : Ctx} {x : AV} {v : Value} (hs : aHx x = true) (h : RV FT c x v) : RV FT c' x v:=by
 unfold aHx at hs
 split at hs
 ·rw [h.lit_inv]; exact RV.lit _
 ·rename_i vs
  obtain ⟨cv,vals,rfl,g1,g2,g3⟩:=h.tup_inv
  refine .tup _ cv vals g1 g2 fun i y hy => ?_
  have:=List.all_eq_true.1 hs y (List.mem_of_getElem? hy)
  split at this
  ·rw [(g3 i _ hy).lit_inv]; exact RV.lit _
  ·cases this
 ·cases hs
theorem aQn [GlobT] (hcf : CfOK P T cf) (hfn : yJ P T) (hs : Sim (ftOf T) c) (htr : TR (ftOf T) c tm a.tmps) {vi f : Nat} {args : List AOpd} {as : Array Operand} {ts : Array TypeId} {r : AV} {H' : Heap}
  (ho : o.op = .call ⟨.value (.func f),as,ts⟩) (hf : ftOf T vi = some f) (h : nM T args as.toList = true) (hev : cf 0 vi ((args.map (kG tm)).map (pA c.H 0)) [] = some (r,H')) (hr : aHx (nW H' 0 r) = true) : OpOK P (ftOf T) c fl o a (nW H' 0 r) c.H:=by
 have hargs:=aFk hs htr h
 have e : (as.toList.map a.eval).toArray = as.map a.eval:=by apply Array.ext'; simp
 have hrun : (execOp a.eval o).run P c.w = (callFunc f (as.toList.map a.eval).toArray).run P c.w:=by
  rw [e]
  simp [execOp,ho,resolve,Act.eval,Deferred.ofValue,invoke]
 obtain ⟨fn,h1,h2,h3⟩:=hfn vi f hf
 intro K Q hK
 unfold Oper.wp
 rw [hrun,zC h1 h2 h3]
 simp only [Oper.upon]
 have hargs2 : aC8 (ftOf T) (vB c) ((args.map (kG tm)).map (pA c.H 0)) (as.toList.map a.eval).toArray:=by
  refine ⟨by simpa using hargs.1,fun i x hx => ?_⟩
  rw [List.getElem?_map,Option.map_eq_some_iff] at hx
  obtain ⟨y,hy,rfl⟩:=hx
  obtain ⟨v,g1,g2⟩:=hargs.2 i y hy
  exact ⟨v,g1,aP4 hs g2⟩
 refine (hcf 0 vi f _ r H' (vB c) _ hev hf (aJb hs) (Nat.le_refl _) hargs2).mono ?_
 rintro e w' ⟨v,c',rfl,rfl,rfl,hX,hst,hs',hv⟩
 exact hK v (back c c') rfl (aFt hs hst) (aMm hs hst) (aP7 hr (aEa (aJb hs) hs' ⟨hst.X,fun id hid => absurd hid (Nat.not_lt_zero _)⟩ hv))
theorem aQm [GlobT] (hcf : CfOK P T cf) (hfn : yJ P T) (hs : Sim (ftOf T) c) (htr : TR (ftOf T) c tm a.tmps) (hfl : fl ≤ c.H.length) {pu : Bool} {vi : Nat} {x : AOpd} {y : Operand} {caps : List AV} {args : List AOpd} {as : Array Operand} {ts : Array TypeId} {r : AV} {H' : Heap}
  (ho : o.op = .call ⟨.value y,as,ts⟩) (hx : kN T x y = true) (hxe : kG tm x = .fn vi caps) (h : nM T args as.toList = true) (hev : nH cf fl pu vi (args.map (kG tm) ++ caps) c.H = some (r,H')) : OpOK P (ftOf T) c fl o a r H':=by
 have hr:=kO hs htr hx
 rw [hxe] at hr
 obtain ⟨f,cv,vals,hv,hf,g1,g2,g3⟩:=hr.fn_inv
 have ha:=aFk hs htr h
 refine aNe hcf hfn hs hfl hev hf (vs:=(as.toList.map a.eval).toArray ++ cv) ⟨by simp [g1]; simpa using ha.1,?_⟩ ?_
 ·intro i z hz
  rw [List.getElem?_append] at hz
  rw [Array.getElem?_append]
  have hsz : ((as.toList.map a.eval).toArray).size = (args.map (kG tm)).length:=ha.1
  rw [hsz]
  split at hz
  ·rename_i hi; rw [if_pos hi]; exact ha.2 i z hz
  ·rename_i hi; rw [if_neg hi]; exact ⟨_,g2 _ z hz,g3 _ z hz⟩
 ·have e : (as.toList.map a.eval).toArray = as.map a.eval:=by apply Array.ext'; simp
  rw [e]
  simp [execOp,ho,resolve,hv,Deferred.ofValue,invoke]
theorem zW [GlobT] : ∀ (cl : List (Nat × Nat)) (c : Ctx),Sim (ftOf T) c → fl ≤ c.H.length → Step fl c ⟨c.w,c.X,c.β,c.H ++ cl.map fun x => .blk x.2 []⟩ ∧ Sim (ftOf T) ⟨c.w,c.X,c.β,c.H ++ cl.map fun x => .blk x.2 []⟩
 | [],c,hs,_ => by simpa using ⟨Step.refl fl c,hs⟩
 | x :: r,c,hs,hfl => by
  have h1:=tZ (fl:=fl) (c:=c) (s:=x.2) hfl
  have h2:=zY (c:=c) (s:=x.2) hs
  obtain ⟨h3,h4⟩:=zW r ⟨c.w,c.X,c.β,c.H ++ [.blk x.2 []]⟩ h2 (by simp only [List.length_append,List.length_singleton]; omega)
  have e : (c.H ++ [AObj.blk x.2 []]) ++ r.map (fun x => AObj.blk x.2 []) = c.H ++ (x :: r).map fun x => .blk x.2 []:=by simp
  simp only [e] at h3 h4
  exact ⟨h1.trans h3,h4⟩
theorem zB [GlobT] {FT : Nat → Option Nat} {z : List Value} : ∀ (cl : List (Nat × Nat)) (n : Nat) (cs : List AV),xP FT c cs z.toArray → (∀ x ∈ cl,z[x.1]? = some nilS) →
  (∀ i,i < cl.length → RV FT c (.ms (n + i) 0 0 0) nilS) → xP FT c (nT n cs cl) z.toArray
 | [],_,cs,h,_,_ => h
 | (o,s) :: r,n,cs,h,hz,hn => by
  simp only [nT]
  refine zB r (n + 1) _ ?_ (fun x hx => hz x (by simp [hx])) (fun i hi => by have:=hn (i + 1) (by simp; omega); rwa [show n + (i + 1) = n + 1 + i by omega] at this)
  refine ⟨by simpa using h.1,fun j x hx => ?_⟩
  rw [List.getElem?_set] at hx
  split at hx
  ·rename_i hoj
   subst hoj
   split at hx
   ·cases hx
    exact ⟨nilS,by simpa using hz (o,s) (by simp),rfl,hn 0 (by simp)⟩
   ·cases hx
  ·exact h.2 j x hx
theorem aNc [GlobT] (hs : Sim (ftOf T) c) (hfl : fl ≤ c.H.length) {z : List Value} {cl : List (Nat × Nat)} {t : TypeId} (ho : o.op = .alloc t) (h : qC P t z = true) (hcl : ∀ x ∈ cl,z[x.1]? = some nilS) :
  OpOK P (ftOf T) c fl o a (.ptr (c.H.length + cl.length) 1 0 0) ((c.H ++ cl.map fun c => .blk c.2 []) ++ [.blk z.length [nT c.H.length (z.map .lit) cl]]):=by
 obtain ⟨i,v,hi,hv,hc,hsc⟩:=oA h
 obtain ⟨h1,h2⟩:=zW (fl:=fl) cl c hs hfl
 generalize hH1 : (c.H ++ cl.map fun c => AObj.blk c.2 []) = H1 at h1 h2
 have hlen : H1.length = c.H.length + cl.length:=by rw [← hH1]; simp
 have hR : xP (ftOf T) ⟨c.w,c.X,c.β,H1⟩ (nT c.H.length (z.map .lit) cl) z.toArray:=by
  refine zB cl c.H.length _ (vG hsc) hcl ?_
  intro k hk
  refine .ms _ 0 0 0 none 0 (cl[k].2) 0 ?_ (Nat.le_refl _) (Nat.le_refl _) fun _ => ⟨Nat.le_refl _,.inl ⟨?_,rfl,rfl,rfl⟩⟩
  ·show shp H1 _ = _
   rw [← hH1]
   simp [shp,hk]
  ·show c.β _ = none
   cases hb : c.β (c.H.length + k) with
   | none => rfl
   | some b => have:=hs.dom _ b hb; omega
 have hop:=aAj (P:=P) (T:=T) (c:=⟨c.w,c.X,c.β,H1⟩) (fl:=fl) (o:=o) (a:=a) (cs:=nT c.H.length (z.map .lit) cl) (cv:=z.toArray) (t:=t) h2 (by simp only [hlen]; omega) ?_ hR.1 hR.2
 ·have hcl' : (nT c.H.length (z.map AV.lit) cl).length = z.length:=by have:=hR.1; simpa using this.symm
  rw [hcl'] at hop
  simp only [hlen] at hop
  intro K Q hK
  refine hop K Q ?_
  intro cv c' e1 e2 e3 e4
  exact hK cv c' e1 (h1.trans e2) e3 e4
 ·simp [execOp,ho,Instr.alloc,zeroValue,typeInfo,hi,hv,newVar,newRow,hc]
end
end Go.Proofs.YtkdnaejhpcibnaaGreatDoor.Av
