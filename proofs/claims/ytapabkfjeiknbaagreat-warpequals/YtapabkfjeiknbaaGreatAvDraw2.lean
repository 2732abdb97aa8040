/- A part of the proof of a law of the chapter warp: an evaluator of the program, proved sound, and what it says. -/
import Derived.Test.YtapabkfjeiknbaaGreatAvFrz
set_option linter.unusedVariables false
set_option linter.unusedSimpArgs false
namespace Go.Proofs.YtapabkfjeiknbaaGreat.Av
open Go
section
variable {P : Program} {T : List AFun}
def aGh (FT : Nat→Option Nat) (c : Ctx) (args : List AV) (vs : Array Value) : Prop :=
 vs.size=args.length∧∀ (i : Nat) (x : AV),args[i]? = some x→∃ v,vs[i]? = some v∧RV FT c x v
def CfOK [GlobT] (P : Program) (T : List AFun) (cf : Nat→Nat→List AV→Heap→Option (AV × Heap)) : Prop :=
 ∀ (fl vi f : Nat) (args : List AV) (r : AV) (H' : Heap) (c : Ctx) (vs : Array Value),cf fl vi args c.H=some (r,H')→ftOf T vi=some f→Sim (ftOf T) c→fl ≤ c.H.length→aGh (ftOf T) c args vs →
  Calls P f vs c.w fun e w'=>∃ v c',e=.returned v∧c'.w=w'∧c'.H=H'∧c'.X=c.X∧Step fl c c'∧Sim (ftOf T) c'∧RV (ftOf T) c' r v
def aEj (P : Program) (T : List AFun) : Prop :=
 ∀ vi f, ftOf T vi = some f → ∃ fn, P.funcs[f]? = some fn ∧ fn.body.isSome = true ∧ (fn.name == "runtime.NumGoroutine") = false
variable {cf : Nat→Nat→List AV→Heap→Option (AV × Heap)} {c : Ctx} {fl : Nat} {o : Oper} {a : Act} {tm : List AV}
def bare (c : Ctx) : Ctx:=⟨c.w,fun b=>c.X b ∨ ∃ id,c.β id=some b,fun _=>none,[]⟩
theorem bare_imm {c : Ctx} {b : Nat} : Imm (bare c) b ↔ Imm c b :=
 ⟨fun h=>⟨fun hx=>h.1 (.inl hx),fun id hid=>h.1 (.inr ⟨id,hid⟩)⟩,fun h=>⟨fun hx=>by
  rcases hx with hx | ⟨id,hid⟩
  ·exact h.1 hx
  ·exact h.2 id hid,fun id hid=>by cases hid⟩⟩
theorem pM [GlobT] {FT : Nat→Option Nat} {c : Ctx} (hs : Sim FT c) {id b : Nat} (h : c.β id=some b) : b < c.w.heap.size:=by
 have hd:=hs.dom id b h
 have key : ∀ o : Obj,c.w.heap[b]? = some o→b < c.w.heap.size:=by
  intro o ho
  rcases Nat.lt_or_ge b c.w.heap.size with h | h
  ·exact h
  ·rw [Array.getElem?_eq_none h] at ho; cases ho
 cases ho : c.H[id] with
 | blk s es =>
  obtain ⟨cs,T,g,_⟩:=hs.blk id s es b (by rw [List.getElem?_eq_getElem hd,ho]) h
  exact key _ g
 | mp es =>
  obtain ⟨cs,T,g,_⟩:=hs.map id es b (by rw [List.getElem?_eq_getElem hd,ho]) h
  exact key _ g
 | raw q=>exact key _ (hs.raw id q b (by rw [List.getElem?_eq_getElem hd,ho]) h)
theorem aHb [GlobT] {FT : Nat→Option Nat} {c : Ctx} (hs : Sim FT c) : Sim FT (bare c) where
 gl:=fun g cs hcs=>let ⟨cc,T,fz,vals,h1,h2,h0,h3,h4⟩:=hs.gl g cs hcs; ⟨cc,T,fz,vals,bare_imm.2 h1,h2,h0,h3,fun j x hx=>(h4 j x hx).mono fun b o hi hb=>⟨bare_imm.2 hi,hb⟩⟩
 inj:=fun _ _ _ h=>by cases h
 dom:=fun _ _ h=>by cases h
 nx:=fun _ _ h=>by cases h
 fresh:=fun k hk h=>by
  rcases h with h | ⟨id,hid⟩
  ·exact hs.fresh k hk h
  ·have:=pM hs hid
   have hk' : c.w.heap.size ≤ k:=hk
   omega
 lens:=fun id s es h=>by simp [bare] at h
 blk:=fun id s es b h=>by simp [bare] at h
 map:=fun id es b h=>by simp [bare] at h
 raw:=fun id q b h=>by simp [bare] at h
theorem aPc [GlobT] {FT : Nat→Option Nat} {c : Ctx} {x : AV} {v : Value} (hp : aMe x=true) (h : RV FT c x v) : RV FT (bare c) x v:=by
 cases h with
 | pure _ _ hr=>exact .pure _ _ (hr.mono fun b o hi hb=>⟨bare_imm.2 hi,hb⟩)
 | ms=>cases hp
 | ptr=>cases hp
 | rptr cs b off cc T fz vals g1 g2 g3 g4=>exact .rptr cs b off cc T fz vals (fun id h=>by cases h) g2 g3 fun j x hx=>(g4 j x hx).mono fun b o hi hb=>⟨bare_imm.2 hi,hb⟩
 | vnil=>cases hp
 | vw=>cases hp
 | mp=>cases hp
 | it=>cases hp
 | fn vi f caps cv vals g1 g2 g3 g4 =>
  cases caps with
  | nil=>exact .fn vi f [] cv vals g1 g2 g3 fun i x hx=>by simp at hx
  | cons _ _=>cases hp
 | agg=>cases hp
 | tup=>cases hp
theorem aH1 [GlobT] : ∀ {cs : List AV},aS6 cs=true→∀ x ∈ cs,aMe x=true
 | [],_,x,hx=>by cases hx
 | y :: r,h,x,hx=>by
  simp only [aS6] at h
  split at h
  ·rename_i hy
   rcases List.mem_cons.1 hx with rfl | hx
   ·exact hy
   ·exact aH1 h x hx
  ·cases h
theorem aD3 [GlobT] : ∀ {cs : List AV},pJ cs=true→∀ x ∈ cs,aKl x=true
 | [],_,x,hx=>by cases hx
 | y :: r,h,x,hx=>by
  simp only [pJ] at h
  split at h
  ·rename_i hy
   rcases List.mem_cons.1 hx with rfl | hx
   ·exact hy
   ·exact aD3 h x hx
  ·cases h
theorem aWe [GlobT] {FT : Nat→Option Nat} {c : Ctx} {x : AV} {v : Value} (hp : aKl x=true) (h : RV FT c x v) : RV FT (bare c) x v:=by
 unfold aKl at hp
 split at hp
 ·rename_i cs
  obtain ⟨cv,vals,rfl,g1,g2,g3⟩:=h.agg_inv
  exact .agg cs cv vals g1 g2 fun i x hx=>aPc (aH1 hp x (List.mem_of_getElem? hx)) (g3 i x hx)
 ·exact aPc hp h
theorem aY2 [GlobT] {FT : Nat→Option Nat} {c : Ctx} {args : List AV} {vs : Array Value} (hp : pJ args=true) (h : aGh FT c args vs) : aGh FT (bare c) args vs :=
 ⟨h.1,fun i x hx=>let ⟨v,h1,h2⟩:=h.2 i x hx; ⟨v,h1,aWe (aD3 hp x (List.mem_of_getElem? hx)) h2⟩⟩
theorem pT {c c' : Ctx} (h : Step 0 (bare c) c') {k : Nat} (hk : k < c.w.heap.size) : c'.w.heap[k]? = c.w.heap[k]?:=h.frame k hk fun id hid=>by cases hid
theorem aEf [GlobT] {FT : Nat→Option Nat} {c c' : Ctx} {fl : Nat} (hs : Sim FT c) (h : Step 0 (bare c) c') : Step fl c (back c c') where
 X:=rfl
 os:=h.os
 tape:=h.tape
 output:=h.output
 drawn:=h.drawn
 size:=h.size
 len:=Nat.le_refl _
 frame:=fun k hk _=>pT h hk
 img:=fun i _ hb=>.inr ⟨i,hb⟩
 blkS:=fun id s n hs'=>⟨n,hs',Nat.le_refl _,fun _=>⟨rfl,fun b cs T hb hcs=>⟨cs,(pT h (pM hs hb)).trans hcs,rfl⟩⟩⟩
 mpS:=fun _ hm=>⟨hm,rfl⟩
 floor:=fun id _=>⟨rfl,rfl,fun b hb=>pT h (pM hs hb)⟩
theorem aHc [GlobT] {FT : Nat→Option Nat} {c c' : Ctx} (hs : Sim FT c) (h : Step 0 (bare c) c') : Sim FT (back c c'):=by
 have hst:=aEf (fl:=0) hs h
 refine ⟨hs.gl.step hst,hs.inj,hs.dom,hs.nx,fun k hk=>hs.fresh k (Nat.le_trans h.size hk),hs.lens,?_,?_,fun id q b ho hb=>(pT h (pM hs hb)).trans (hs.raw id q b ho hb)⟩
 ·intro id s es b ho hb
  obtain ⟨cs,T,g1,g2,g3⟩:=hs.blk id s es b ho hb
  exact ⟨cs,T,(pT h (pM hs hb)).trans g1,g2,fun i j x hx=>let ⟨v,k1,k2,k3⟩:=g3 i j x hx; ⟨v,k1,k2,k3.step hst⟩⟩
 ·intro id ents b ho hb
  obtain ⟨es,clk,g1,g2,g3⟩:=hs.map id ents b ho hb
  exact ⟨es,clk,(pT h (pM hs hb)).trans g1,g2,fun i k x hx=>let ⟨e,k1,k2,k3⟩:=g3 i k x hx; ⟨e,k1,k2,k3.step hst⟩⟩
def out1 : AV→Bool
 | .undef=>true
 | .lit _=>true
 | .sl _ _=>true
 | .sptr _=>true
 | .rmp _=>true
 | .fn _ []=>true
 | _=>false
def out2 : AV→Bool
 | .agg cs=>cs.all out1
 | v=>out1 v
def out3 : AV→Bool
 | .tup cs=>cs.all out2
 | v=>out2 v
theorem aO3 (H : Heap) (n : Nat) : ∀ (d : Nat) (x : AV),out1 (lD H n d x)=true:=by
 intro d x
 cases x with
 | lit v =>
  have : lD H n d (.lit v)=nrmV v:=by cases d <;> rfl
  rw [this]
  unfold nrmV
  repeat' split
  all_goals rfl
 | ms id tot off len =>
  cases d with
  | zero=>rfl
  | succ d =>
   simp only [lD]
   repeat' split
   all_goals rfl
 | mp id =>
  cases d with
  | zero=>rfl
  | succ d =>
   simp only [lD]
   repeat' split
   all_goals rfl
 | _=>cases d <;> rfl
theorem aO6 (H : Heap) (x : AV) : out1 (jX H 0 x)=true:=by
 cases x with
 | lit v =>
  show out1 (nrmV v)=true
  unfold nrmV
  repeat' split
  all_goals rfl
 | ms id tot off len =>
  simp only [jX,Nat.not_lt_zero,if_false]
  exact aO3 _ _ _ _
 | mp id =>
  simp only [jX,Nat.not_lt_zero,if_false]
  exact aO3 _ _ _ _
 | ptr id tot idx off =>
  simp only [jX,Nat.not_lt_zero,if_false]
  rfl
 | fn vi caps=>cases caps <;> rfl
 | _=>rfl
theorem aO5 (H : Heap) (x : AV) : out2 (qM H 0 x)=true:=by
 unfold qM
 split
 ·simp only [out2,List.all_map,List.all_eq_true]
  intro y _
  exact aO6 H y
 ·have:=aO6 H x
  revert this
  cases jX H 0 x <;> intro h <;> first | exact h | cases h
theorem aO4 (H : Heap) (x : AV) : out3 (mI H 0 x)=true:=by
 unfold mI
 split
 ·simp only [out3,List.all_map,List.all_eq_true]
  intro y _
  exact aO5 H y
 ·have:=aO5 H x
  revert this
  cases qM H 0 x <;> intro h <;> first | exact h | cases h
theorem aQp {c c' : Ctx} {b : Nat} (hi : Imm (back (bare c) c') b) : Imm (back c c') b:=⟨fun hx=>hi.1 (.inl hx),fun id hid=>hi.1 (.inr ⟨id,hid⟩)⟩
theorem aWo [GlobT] {FT : Nat→Option Nat} {c c' : Ctx} {x : AV} {v : Value} (ho : out1 x=true) (h : RV FT (back (bare c) c') x v) : RV FT (back c c') x v:=by
 cases h with
 | pure x v hp=>exact .pure x v (hp.mono fun b o hi hb=>⟨aQp hi,hb⟩)
 | fn vi f caps cv vals g1 g2 g3 g4 =>
  cases caps with
  | nil=>exact .fn vi f [] cv vals g1 g2 g3 fun i x hx=>by simp at hx
  | cons _ _=>cases ho
 | _=>cases ho
theorem aWn [GlobT] {FT : Nat→Option Nat} {c c' : Ctx} {x : AV} {v : Value} (ho : out2 x=true) (h : RV FT (back (bare c) c') x v) : RV FT (back c c') x v:=by
 cases x with
 | agg cs =>
  obtain ⟨cv,vals,rfl,g1,g2,g3⟩:=h.agg_inv
  simp only [out2,List.all_eq_true] at ho
  exact .agg cs cv vals g1 g2 fun i x hx=>aWo (ho x (List.mem_of_getElem? hx)) (g3 i x hx)
 | _=>exact aWo ho h
theorem aUa [GlobT] {FT : Nat→Option Nat} {c c' : Ctx} {x : AV} {v : Value} (ho : out3 x=true) (h : RV FT (back (bare c) c') x v) : RV FT (back c c') x v:=by
 cases x with
 | tup cs =>
  cases h with
  | pure _ _ hp=>cases hp
  | tup _ cv vals g1 g2 g3 =>
   simp only [out3,List.all_eq_true] at ho
   exact .tup cs cv vals g1 g2 fun i x hx=>aWn (ho x (List.mem_of_getElem? hx)) (g3 i x hx)
 | _=>exact aWn ho h
theorem aA8 {f : Nat} {fn : Func} {args : Array Value} (h1 : P.funcs[f]? = some fn) (h2 : fn.body.isSome = true) (h3 : (fn.name == "runtime.NumGoroutine") = false) (w : World) :
  (callFunc f args).run P w=.ok (.enter f args) w:=by
 obtain ⟨b,hb⟩:=Option.isSome_iff_exists.1 h2
 have h5 : ¬ fn.name = "runtime.NumGoroutine" := by simpa using h3
 simp [callFunc,h1,hb,h5]
theorem bBo [GlobT] {FT : Nat→Option Nat} {c : Ctx} {x : AV} {v : Value} (h : RV FT c x v) : RV FT c (nrm x) v:=by
 cases h with
 | pure _ _ hp=>exact .pure _ _ (aTe hp)
 | ms id tot off len a cap s n g1 g2 g3 g4=>exact .ms id tot off len a cap s n g1 g2 g3 g4
 | ptr id tot idx off a s n g1 g2 g3=>exact .ptr id tot idx off a s n g1 g2 g3
 | rptr cs b off cc T fz vals g1 g2 g3 g4=>exact .rptr cs b off cc T fz vals g1 g2 g3 g4
 | vnil a cap=>exact .vnil a cap
 | vw es b off cap cc T fz s vals h1 h2 h3 h4 h5 h6 h7=>exact .vw es b off cap cc T fz s vals h1 h2 h3 h4 h5 h6 h7
 | mp id b g1 g2=>exact .mp id b g1 g2
 | it id b g1 g2=>exact .it id b g1 g2
 | fn vi f caps cv vals g1 g2 g3 g4=>exact .fn vi f caps cv vals g1 g2 g3 g4
 | agg cs cv vals g1 g2 g3=>exact .agg cs cv vals g1 g2 g3
 | tup cs cv vals g1 g2 g3=>exact .tup cs cv vals g1 g2 g3
theorem aW3 [GlobT] {FT : Nat→Option Nat} {c : Ctx} {x : AV} {v : Value} (h : RV FT c x v) : RV FT c (nrm2 x) v:=by
 unfold nrm2
 split
 ·rename_i cs
  obtain ⟨cv,vals,rfl,g1,g2,g3⟩:=h.agg_inv
  refine .agg _ cv vals (by simpa using g1) ?_ ?_
  ·intro i x hx
   simp only [List.getElem?_map,Option.map_eq_some_iff] at hx
   obtain ⟨y,hy,rfl⟩:=hx
   exact g2 i y hy
  ·intro i x hx
   simp only [List.getElem?_map,Option.map_eq_some_iff] at hx
   obtain ⟨y,hy,rfl⟩:=hx
   exact bBo (g3 i y hy)
 ·exact bBo h
theorem aWs [GlobT] (hs : Sim (ftOf T) c) (htr : TR (ftOf T) c tm a.tmps) {x : AOpd} {y : Operand} (ho : o.op=.move y ∨ o.op=.assign y) (h : eC T x y=true) :
  OpOK P (ftOf T) c fl o a (nrm2 (dU tm x)) c.H:=by
 refine gL (cv:=a.eval y) hs ?_ (aW3 (eE hs htr h))
 rcases ho with ho | ho <;> simp [execOp,ho]
theorem aUc [GlobT] {FT : Nat→Option Nat} {c : Ctx} {args : List AV} {vs : Array Value} (h : aGh FT c args vs) : aGh FT c (args.map nrm2) vs:=by
 refine ⟨by simpa using h.1,fun i x hx=>?_⟩
 simp only [List.getElem?_map,Option.map_eq_some_iff] at hx
 obtain ⟨y,hy,rfl⟩:=hx
 obtain ⟨v,g1,g2⟩:=h.2 i y hy
 exact ⟨v,g1,aW3 g2⟩
theorem aW1 [GlobT] (hcf : CfOK P T cf) (hfn : aEj P T) (hs : Sim (ftOf T) c) (hfl : fl ≤ c.H.length) {pu : Bool} {vi f : Nat} {args : List AV} {vs : Array Value} {r : AV} {H' : Heap}
  (hev : yM cf fl pu vi args c.H=some (r,H')) (hf : ftOf T vi=some f) (hargs : aGh (ftOf T) c args vs)
  (hrun : (execOp a.eval o).run P c.w=(callFunc f vs).run P c.w) : OpOK P (ftOf T) c fl o a r H':=by
 obtain ⟨fn,h1,h2,h3⟩:=hfn vi f hf
 intro K Q hK
 unfold Oper.wp
 rw [hrun,aA8 h1 h2 h3]
 simp only [Oper.upon]
 unfold yM at hev
 split at hev
 ·split at hev
  ·rename_i hpl
   split at hev
   ·rename_i r' H'' hc
    cases hev
    refine (hcf 0 vi f (args.map nrm2) r' H'' (bare c) vs hc hf (aHb hs) (Nat.le_refl _) (aUc (aY2 hpl hargs))).mono ?_
    rintro e w' ⟨v,c',rfl,rfl,rfl,hX,hst,hs',hv⟩
    exact hK v (back c c') rfl (aEf hs hst) (aHc hs hst) (aUa (aO4 _ _) (aJn (aHb hs) hs' ⟨hst.X,fun id hid=>absurd hid (Nat.not_lt_zero _)⟩ hv))
   ·cases hev
  ·split at hev
   ·rename_i r' H'' hc
    cases hev
    refine (hcf _ vi f (args.map nrm2) r' H'' c vs hc hf hs (Nat.le_refl _) (aUc hargs)).mono ?_
    rintro e w' ⟨v,c',rfl,rfl,rfl,hX,hst,hs',hv⟩
    exact hK v (back c c') rfl (aGm hs hst) (aNe hs hst) (aJn hs hs' hst.fl hv)
   ·cases hev
 ·refine (hcf fl vi f args r H' c vs hev hf hs hfl hargs).mono ?_
  rintro e w' ⟨v,c',rfl,rfl,rfl,hX,hst,hs',hv⟩
  exact hK v c' rfl hst hs' hv
theorem aHd [GlobT] (hs : Sim (ftOf T) c) (htr : TR (ftOf T) c tm a.tmps) {xs : List AOpd} {ys : List Operand} (h : nN T xs ys=true) : aGh (ftOf T) c (xs.map (dU tm)) (ys.map a.eval).toArray:=by
 obtain ⟨h1,h2⟩:=aNm hs htr h
 refine ⟨by simp [h1],fun i x hx=>?_⟩
 obtain ⟨v,g1,g2⟩:=h2 i x hx
 exact ⟨v,by simpa using g1,g2⟩
theorem aWy [GlobT] (hcf : CfOK P T cf) (hfn : aEj P T) (hs : Sim (ftOf T) c) (htr : TR (ftOf T) c tm a.tmps) (hfl : fl ≤ c.H.length) {pu : Bool} {vi f : Nat} {args : List AOpd} {as : Array Operand} {ts : Array TypeId} {r : AV} {H' : Heap}
  (ho : o.op=.call ⟨.value (.func f),as,ts⟩) (hf : ftOf T vi=some f) (h : nN T args as.toList=true) (hev : yM cf fl pu vi (args.map (dU tm)) c.H=some (r,H')) : OpOK P (ftOf T) c fl o a r H':=by
 refine aW1 hcf hfn hs hfl hev hf (aHd hs htr h) ?_
 have e : (as.toList.map a.eval).toArray=as.map a.eval:=by apply Array.ext'; simp
 rw [e]
 simp [execOp,ho,resolve,Act.eval,Deferred.ofValue,invoke]
theorem OpOK.mono [GlobT] {FT : Nat→Option Nat} {fl' : Nat} {r : AV} {H' : Heap} (h : OpOK P FT c fl' o a r H') (hl : fl ≤ fl') : OpOK P FT c fl o a r H' :=
 fun K Q hK=>h K Q fun cv c' h1 h2 h3 h4=>hK cv c' h1 (h2.mono hl) h3 h4
theorem bAh [GlobT] (hcf : CfOK P T cf) (hfn : aEj P T) (hs : Sim (ftOf T) c) (htr : TR (ftOf T) c tm a.tmps) (hfl : fl ≤ c.H.length) {vi f : Nat} {args : List AOpd} {as : Array Operand} {ts : Array TypeId} {r : AV} {H' : Heap}
  (ho : o.op=.call ⟨.value (.func f),as,ts⟩) (hf : ftOf T vi=some f) (h : nN T args as.toList=true) (hev : cf c.H.length vi (args.map (dU tm)) c.H=some (r,H')) : OpOK P (ftOf T) c fl o a r H' :=
 (aWy (fl:=c.H.length) (pu:=false) hcf hfn hs htr (Nat.le_refl _) ho hf h hev).mono hfl
theorem aVr [GlobT] {c : Ctx} {FT : Nat→Option Nat} (hs : Sim FT c) {x : AV} {v : Value} (h : RV FT c x v) : RV FT (bare c) (aLw c.H x) v:=by
 have hvis : ∀ b,Vis (bare c) b:=fun b id h=>by cases h
 have hrp : ∀ {x v},RP c.w (Imm c) x v→RP (bare c).w (Imm (bare c)) x v:=fun hr=>hr.mono fun b o hi hb=>⟨bare_imm.2 hi,hb⟩
 cases h with
 | pure _ _ hp =>
  cases hp with
  | undef v=>exact RV.undef _
  | lit v =>
   have hor : nrmV v=.lit v ∨ (v=.slice none 0 0∧nrmV v=.sl false []):=by
    unfold nrmV
    repeat' split
    all_goals first
     | exact .inl rfl
     | exact .inr ⟨rfl,rfl⟩
   simp only [aLw]
   rcases hor with e | ⟨rfl,e⟩ <;> rw [e]
   ·exact RV.lit _
   ·exact .vnil none 0
  | nil f a cap hf=>exact .vnil a cap
  | sl f es b off cap cc T fz s vals h1 h2 h3 h4 h5 h6 h7 h8=>exact .vw es b off cap cc T fz s vals h1 (hvis b) h3 h4 h5 h7 fun i j x hx=>hrp (h8 i j x hx)
  | sptr cs b off cc T fz vals h1 h2 h3 h4=>exact .pure _ _ (hrp (.sptr cs b off cc T fz vals h1 h2 h3 h4))
  | rmp ents b es clk vals h1 h2 h3 h4 h5 h6=>exact .pure _ _ (hrp (.rmp ents b es clk vals h1 h2 h3 h4 h5 h6))
 | ms id tot off len a cap s n g1 g2 g3 g4 =>
  simp only [aLw]
  split
  ·rename_i es hrd
   unfold rd at hrd
   simp only at hrd
   split at hrd
   ·rename_i s' es0 hob
    split at hrd
    ·rename_i htot
     cases hrd
     rw [qP hob] at g1
     cases g1
     obtain ⟨m1,m2⟩:=g4 htot.symm
     have hlen : ((es0.drop off).take len).length=len:=by simp; omega
     by_cases hl0 : len=0
     ·subst hl0
      simp only [List.take_zero,List.map_nil]
      exact .vnil _ _
     ·rcases m2 with ⟨_,m3,m4,m5⟩ | ⟨b,cc,Ty,a',m3,m4,m5,m6,m7⟩
      ·omega
      ·have ha:=m7 (by omega)
       subst m6
       subst ha
       obtain ⟨cc',Ty',q1,q2,q3⟩:=hs.blk id s es0 b hob m3
       rw [m4] at q1
       cases q1
       have hlens:=hs.lens id s es0 hob
       have hcell : ∀ i j x,hZ (((es0.drop off).take len).map fun e=>e.map toP) i j=some x →
         ∃ y u,x=toP y∧cc[off * s + (i * s + j)]? = some u∧gA u=true∧RV FT c y u:=by
        intro i j x hx
        obtain ⟨y,hy,rfl⟩:=tO hx
        obtain ⟨e,he,hj⟩:=jJ hy
        rw [List.getElem?_take] at he
        split at he
        ·rw [List.getElem?_drop] at he
         obtain ⟨u,w1,w2,w3⟩:=q3 (off + i) j y (by simp [hZ,he,hj])
         exact ⟨y,u,rfl,by rw [← w1]; congr 1; rw [Nat.add_mul]; omega,w2,w3⟩
        ·cases he
       have hres:=RV.vw (FT:=FT) (c:=bare c) (((es0.drop off).take len).map fun e=>e.map toP) b (off * s) cap cc Ty (0,0) s
        (fun i j=>(cc[off * s + (i * s + j)]?).getD gD)
        (by intro e; have:=congrArg List.length e; simp at this; omega) (hvis b) m4
        (fun e he=>by
         simp only [List.mem_map] at he
         obtain ⟨e0,h0,rfl⟩:=he
         simpa using hlens e0 (List.mem_of_mem_drop (List.mem_of_mem_take h0)))
        (by simp only [List.length_map,hlen]; exact g3)
        (fun i j x hx=>by
         obtain ⟨y,u,_,w1,w2,_⟩:=hcell i j x hx
         simp [w1,w2])
        (fun i j x hx=>by
         obtain ⟨y,u,hxy,w1,_,w3⟩:=hcell i j x hx
         rw [hxy]
         simp only [w1,Option.getD_some]
         exact hrp (aOs w3))
       simp only [List.length_map,hlen] at hres
       exact hres
    ·cases hrd
   ·cases hrd
  ·exact RV.undef _
 | ptr=>exact RV.undef _
 | rptr cs b off cc T fz vals g1 g2 g3 g4=>exact .rptr cs b off cc T fz vals (hvis b) g2 g3 fun j x hx=>hrp (g4 j x hx)
 | vnil a cap=>exact .vnil a cap
 | vw es b off cap cc T fz s vals h1 h2 h3 h4 h5 h6 h7=>exact .vw es b off cap cc T fz s vals h1 (hvis b) h3 h4 h5 h6 fun i j x hx=>hrp (h7 i j x hx)
 | mp=>exact RV.undef _
 | it=>exact RV.undef _
 | fn vi f caps cv vals g1 g2 g3 g4 =>
  cases caps with
  | nil=>exact .fn vi f [] cv vals g1 g2 g3 fun i x hx=>by simp at hx
  | cons _ _=>exact RV.undef _
 | agg=>exact RV.undef _
 | tup=>exact RV.undef _
theorem aSq [GlobT] {c : Ctx} {FT : Nat→Option Nat} (hs : Sim FT c) {x : AV} {v : Value} (h : RV FT c x v) : RV FT (bare c) (nO c.H x) v:=by
 unfold nO
 split
 ·rename_i cs
  obtain ⟨cv,vals,rfl,g1,g2,g3⟩:=h.agg_inv
  refine .agg _ cv vals (by simpa using g1) ?_ ?_
  ·intro i x hx
   simp only [List.getElem?_map,Option.map_eq_some_iff] at hx
   obtain ⟨y,hy,rfl⟩:=hx
   exact g2 i y hy
  ·intro i x hx
   simp only [List.getElem?_map,Option.map_eq_some_iff] at hx
   obtain ⟨y,hy,rfl⟩:=hx
   exact aVr hs (g3 i y hy)
 ·exact aVr hs h
theorem bAi [GlobT] (hcf : CfOK P T cf) (hfn : aEj P T) (hs : Sim (ftOf T) c) (htr : TR (ftOf T) c tm a.tmps) {vi f : Nat} {args : List AOpd} {as : Array Operand} {ts : Array TypeId} {r : AV} {H1 : Heap}
  (ho : o.op=.call ⟨.value (.func f),as,ts⟩) (hf : ftOf T vi=some f) (h : nN T args as.toList=true) (hev : cf 0 vi ((args.map (dU tm)).map (nO c.H)) []=some (r,H1)) : OpOK P (ftOf T) c fl o a (mI H1 0 r) c.H:=by
 obtain ⟨fn,h1,h2,h3⟩:=hfn vi f hf
 intro K Q hK
 unfold Oper.wp
 have e : (execOp a.eval o).run P c.w=(callFunc f ((as.toList.map a.eval).toArray)).run P c.w:=by
  have e : (as.toList.map a.eval).toArray=as.map a.eval:=by apply Array.ext'; simp
  rw [e]
  simp [execOp,ho,resolve,Act.eval,Deferred.ofValue,invoke]
 rw [e,aA8 h1 h2 h3]
 simp only [Oper.upon]
 have hargs:=aHd hs htr h
 have hargs' : aGh (ftOf T) (bare c) ((args.map (dU tm)).map (nO c.H)) ((as.toList.map a.eval).toArray):=by
  refine ⟨by rw [List.length_map]; exact hargs.1,fun i x hx=>?_⟩
  rw [List.getElem?_map,Option.map_eq_some_iff] at hx
  obtain ⟨y,hy,rfl⟩:=hx
  obtain ⟨v,g1,g2⟩:=hargs.2 i y hy
  exact ⟨v,g1,aSq hs g2⟩
 refine (hcf 0 vi f _ r H1 (bare c) _ hev hf (aHb hs) (Nat.le_refl _) hargs').mono ?_
 rintro e w' ⟨v,c',rfl,rfl,rfl,hX,hst,hs',hv⟩
 exact hK v (back c c') rfl (aEf hs hst) (aHc hs hst) (aUa (aO4 _ _) (aJn (aHb hs) hs' ⟨hst.X,fun id hid=>absurd hid (Nat.not_lt_zero _)⟩ hv))
def kctx (c : Ctx) (w' : World) (ob : Option Nat) (s : Nat) (rows : List (List AV)) : Ctx:=⟨w',c.X,fun i=>if i=c.H.length then ob else c.β i,c.H++[.blk s rows]⟩
section
variable {FT : Nat→Option Nat} {c' : Ctx} {ob : Option Nat} {s : Nat} {rows : List (List AV)}
theorem vT [GlobT] (hs : Sim FT c) {w' : World} {i b : Nat} (hb : (kctx c w' ob s rows).β i=some b) : (i=c.H.length∧ob=some b) ∨ (i < c.H.length∧c.β i=some b):=by
 simp only [kctx] at hb
 split at hb
 ·exact .inl ⟨by assumption,hb⟩
 ·exact .inr ⟨hs.dom i b hb,hb⟩
theorem aJq {w' : World} {i : Nat} (hi : i < c.H.length) : (kctx c w' ob s rows).H[i]? = c.H[i]?:=List.getElem?_append_left hi
theorem aKw [GlobT] {fl : Nat} (hs : Sim FT c) (h : Step 0 (bare c) c') (hfl : fl ≤ c.H.length) (hnew : ∀ b,ob=some b→c.w.heap.size ≤ b) : Step fl c (kctx c c'.w ob s rows) where
 X:=rfl
 os:=h.os
 tape:=h.tape
 output:=h.output
 drawn:=h.drawn
 size:=h.size
 len:=by simp [kctx]
 frame:=fun k hk _=>pT h hk
 img:=fun i b hb=>by
  rcases vT hs hb with ⟨_,h2⟩ | ⟨_,h2⟩
  ·exact .inl (hnew b h2)
  ·exact .inr ⟨_,h2⟩
 blkS:=fun i s' n hsh=>by
  have hlt : i < c.H.length:=by
   rcases Nat.lt_or_ge i c.H.length with hh | hh
   ·exact hh
   ·simp [shp,List.getElem?_eq_none hh] at hsh
  exact ⟨n,by simp only [shp,aJq hlt]; exact hsh,Nat.le_refl _,fun _=>⟨by simp [kctx,Nat.ne_of_lt hlt],fun b cs T hb hcs=>⟨cs,(pT h (pM hs hb)).trans hcs,rfl⟩⟩⟩
 mpS:=fun i hm=>by
  obtain ⟨e,he,hnb⟩:=hm
  have hlt : i < c.H.length:=by
   rcases Nat.lt_or_ge i c.H.length with hh | hh
   ·exact hh
   ·rw [List.getElem?_eq_none hh] at he; cases he
  exact ⟨⟨e,by rw [aJq hlt]; exact he,hnb⟩,by simp [kctx,Nat.ne_of_lt hlt]⟩
 floor:=fun i hi=>by
  have hlt : i < c.H.length:=by omega
  exact ⟨aJq hlt,by simp [kctx,Nat.ne_of_lt hlt],fun b hb=>pT h (pM hs hb)⟩
theorem aNq [GlobT] (hs : Sim FT c) (h : Step 0 (bare c) c') {b : Nat} (hX : ¬ c'.X b) (ho : ob ≠ some b) : Imm (kctx c c'.w ob s rows) b:=by
 rw [h.X] at hX
 refine ⟨fun hx=>hX (.inl hx),fun i hb=>?_⟩
 rcases vT hs hb with ⟨_,h2⟩ | ⟨_,h2⟩
 ·exact ho h2
 ·exact hX (.inr ⟨i,h2⟩)
theorem aTj [GlobT] (hs : Sim FT c) (hs' : Sim FT c') (h : Step 0 (bare c) c') (hnew : ∀ b,ob=some b→c.w.heap.size ≤ b∧∃ i,c'.β i=some b) (hlen : ∀ e ∈ rows,e.length=s)
  (hcell : ∀ b,ob=some b→∃ cs T,c'.w.heap[b]? = some (.cells cs T (0,0))∧rows.length * s ≤ cs.size∧∀ i j x,hZ rows i j=some x→∃ v,cs[i * s + j]? = some v∧gA v=true∧RP c'.w (Imm (kctx c c'.w ob s rows)) x v) :
  Sim FT (kctx c c'.w ob s rows):=by
 have hst:=aKw (fl:=c.H.length) (s:=s) (rows:=rows) hs h (Nat.le_refl _) fun b hb=>(hnew b hb).1
 have himm : ∀ b,Imm c' b→Imm (kctx c c'.w ob s rows) b:=fun b hi=>aNq hs h hi.1 fun e=>by
  obtain ⟨_,i,hi'⟩:=hnew b e
  exact hi.2 i hi'
 have hlast : (kctx c c'.w ob s rows).H[c.H.length]? = some (.blk s rows):=by simp [kctx]
 have hold : ∀ i o,(kctx c c'.w ob s rows).H[i]? = some o→i ≠ c.H.length→i < c.H.length∧c.H[i]? = some o:=by
  intro i o ho hi
  have hlt : i < c.H.length:=by
   rcases Nat.lt_or_ge i c.H.length with hh | hh
   ·exact hh
   ·have : (kctx c c'.w ob s rows).H[i]? = none:=List.getElem?_eq_none (by simp [kctx]; omega)
    rw [this] at ho; cases ho
  exact ⟨hlt,by rw [aJq hlt] at ho; exact ho⟩
 refine ⟨?_,?_,?_,?_,fun k hk=>hs.fresh k (Nat.le_trans h.size hk),?_,?_,?_,?_⟩
 ·intro g cs hcs
  obtain ⟨cc,T,fz,vals,h1,h2,h0,h3,h4⟩:=hs'.gl g cs hcs
  exact ⟨cc,T,fz,vals,himm g h1,h2,h0,h3,fun j x hx=>(h4 j x hx).mono fun b o hi hb=>⟨himm b hi,hb⟩⟩
 ·intro i j b hi hj
  rcases vT hs hi with ⟨e1,k1⟩ | ⟨l1,k1⟩ <;> rcases vT hs hj with ⟨e2,k2⟩ | ⟨l2,k2⟩
  ·omega
  ·have:=(hnew b k1).1; have:=pM hs k2; omega
  ·have:=(hnew b k2).1; have:=pM hs k1; omega
  ·exact hs.inj i j b k1 k2
 ·intro i b hi
  show i < (c.H++[_]).length
  simp only [List.length_append,List.length_singleton]
  rcases vT hs hi with ⟨e1,_⟩ | ⟨l1,_⟩ <;> omega
 ·intro i b hi
  rcases vT hs hi with ⟨e1,k1⟩ | ⟨l1,k1⟩
  ·exact hs.fresh b (hnew b k1).1
  ·exact hs.nx i b k1
 ·intro i s' es' ho' e he
  by_cases hi : i=c.H.length
  ·subst hi
   rw [hlast] at ho'
   cases ho'
   exact hlen e he
  ·exact hs.lens i s' es' (hold i _ ho' hi).2 e he
 ·intro i s' es' b ho' hb
  rcases vT hs hb with ⟨rfl,k1⟩ | ⟨l1,k1⟩
  ·rw [hlast] at ho'
   cases ho'
   obtain ⟨cs,T,g1,g2,g3⟩:=hcell b k1
   exact ⟨cs,T,g1,g2,fun i j x hx=>let ⟨v,w1,w2,w3⟩:=g3 i j x hx; ⟨v,w1,w2,.pure _ _ w3⟩⟩
  ·obtain ⟨_,ho''⟩:=hold i _ ho' (Nat.ne_of_lt l1)
   obtain ⟨cs,T,g1,g2,g3⟩:=hs.blk i s' es' b ho'' k1
   exact ⟨cs,T,(pT h (pM hs k1)).trans g1,g2,fun i j x hx=>let ⟨v,k1,k2,k3⟩:=g3 i j x hx; ⟨v,k1,k2,k3.step hst⟩⟩
 ·intro i ents b ho' hb
  rcases vT hs hb with ⟨rfl,k1⟩ | ⟨l1,k1⟩
  ·rw [hlast] at ho'; cases ho'
  ·obtain ⟨_,ho''⟩:=hold i _ ho' (Nat.ne_of_lt l1)
   obtain ⟨es',clk,g1,g2,g3⟩:=hs.map i ents b ho'' k1
   exact ⟨es',clk,(pT h (pM hs k1)).trans g1,g2,fun i k x hx=>let ⟨e,k1,k2,k3⟩:=g3 i k x hx; ⟨e,k1,k2,k3.step hst⟩⟩
 ·intro i q b ho' hb
  rcases vT hs hb with ⟨rfl,k1⟩ | ⟨l1,k1⟩
  ·rw [hlast] at ho'; cases ho'
  ·obtain ⟨_,ho''⟩:=hold i _ ho' (Nat.ne_of_lt l1)
   exact (pT h (pM hs k1)).trans (hs.raw i q b ho'' k1)
theorem aS3 [GlobT] (hs : Sim FT c) (hs' : Sim FT c') (h : Step 0 (bare c) c') {r : AV} {v : Value} (hv : RV FT c' r v) (hr : aO8 s c'.H r=some rows) :
  ∃ ob,(∀ b,ob=some b→c.w.heap.size ≤ b)∧Sim FT (kctx c c'.w ob s rows)∧RV FT (kctx c c'.w ob s rows) (.ms c.H.length rows.length 0 rows.length) v:=by
 unfold aO8 at hr
 split at hr
 ·rename_i id tot off len
  split at hr
  ·cases hr
  rename_i hwin
  split at hr
  ·cases hr
  rename_i o hob
  split at hr
  ·rename_i s' es
   split at hr
   ·rename_i htot
    simp only [Bool.and_eq_true] at hwin htot
    have e1:=Nat.eq_of_beq_eq_true hwin.1
    have e2:=Nat.eq_of_beq_eq_true hwin.2
    have e3:=Nat.eq_of_beq_eq_true htot.1
    have e4:=Nat.eq_of_beq_eq_true htot.2
    subst e1 e2 e3 e4
    have hrows:=Option.some.inj hr
    have hrl : rows.length=es.length:=by rw [← hrows]; simp
    have hnew : ∀ b,c'.β id=some b→c.w.heap.size ≤ b∧∃ i,c'.β i=some b:=by
     intro b hb
     rcases h.img id b hb with hh | ⟨i,hi⟩
     ·exact ⟨hh,id,hb⟩
     ·cases hi
    refine ⟨c'.β id,fun b hb=>(hnew b hb).1,aTj hs hs' h hnew ?_ ?_,?_⟩
    ·intro e he
     rw [← hrows] at he
     obtain ⟨e0,h0,rfl⟩:=List.mem_map.1 he
     simpa using hs'.lens id s' es hob e0 h0
    ·intro b hb
     obtain ⟨cs,T,g1,g2,g3⟩:=hs'.blk id s' es b hob hb
     refine ⟨cs,T,g1,by rw [hrl]; exact g2,fun i j x hx=>?_⟩
     rw [← hrows] at hx
     obtain ⟨y,hy,rfl⟩:=tO hx
     obtain ⟨v,w1,w2,w3⟩:=g3 i j y hy
     refine ⟨v,w1,w2,aHn (c':=det c' id s' es) (bDj hs' hob) (fun b' hi=>?_) ?_ _ _ _ (aV5 hob w3)⟩
     ·have hi':=det_imm.1 hi
      exact aNq hs h hi'.1 (hi'.2 id)
     ·intro i' b' _ hb'
      have hb2 : i' ≠ id∧c'.β i'=some b':=by
       simp only [det] at hb'
       split at hb'
       ·cases hb'
       ·exact ⟨by assumption,hb'⟩
      exact aNq hs h (hs'.nx i' b' hb2.2) fun e=>hb2.1 (hs'.inj _ _ b' hb2.2 e)
    ·obtain ⟨ad,cap,s0,n0,rfl,g1,g2,g3,g4⟩:=hv.ms_inv
     rw [qP hob] at g1
     cases g1
     obtain ⟨m1,m2⟩:=g4 rfl
     rw [hrl]
     refine .ms _ _ _ _ ad cap s' es.length (by simp [shp,kctx,hrl]) (Nat.le_refl _) g3 fun _=>⟨m1,?_⟩
     have : (kctx c c'.w (c'.β id) s' rows).β c.H.length=c'.β id:=by simp [kctx]
     rw [this]
     exact m2
   ·cases hr
  ·cases hr
 ·rename_i u
  split at hr
  ·rename_i a len cap
   split at hr
   ·split at hr
    ·rename_i hz
     cases hr
     simp only [Bool.and_eq_true] at hz
     have e1:=Nat.eq_of_beq_eq_true hz.1
     have e2:=Nat.eq_of_beq_eq_true hz.2
     subst e1 e2
     obtain rfl:=hv.lit_inv
     refine ⟨none,(fun b hb=>by cases hb),aTj hs hs' h (fun b hb=>by cases hb) (fun e he=>by cases he) (fun b hb=>by cases hb),?_⟩
     refine .ms _ _ _ _ none 0 s 0 (by simp [shp,kctx]) (Nat.le_refl _) (Nat.le_refl _) fun _=>⟨Nat.le_refl _,.inl ⟨by simp [kctx],rfl,rfl,rfl⟩⟩
    ·cases hr
   ·cases hr
  ·cases hr
 ·cases hr
end
theorem bAf [GlobT] (hcf : CfOK P T cf) (hfn : aEj P T) (hs : Sim (ftOf T) c) (htr : TR (ftOf T) c tm a.tmps) (hfl : fl ≤ c.H.length) {s vi f : Nat} {args : List AOpd} {as : Array Operand} {ts : Array TypeId} {r : AV} {H' : Heap}
  (ho : o.op=.call ⟨.value (.func f),as,ts⟩) (hf : ftOf T vi=some f) (h : nN T args as.toList=true) (hev : aKv s c.H (cf 0 vi ((args.map (dU tm)).map (nO c.H)) [])=some (r,H')) : OpOK P (ftOf T) c fl o a r H':=by
 obtain ⟨fn,h1,h2,h3⟩:=hfn vi f hf
 intro K Q hK
 unfold Oper.wp
 have e : (execOp a.eval o).run P c.w=(callFunc f ((as.toList.map a.eval).toArray)).run P c.w:=by
  have e : (as.toList.map a.eval).toArray=as.map a.eval:=by apply Array.ext'; simp
  rw [e]
  simp [execOp,ho,resolve,Act.eval,Deferred.ofValue,invoke]
 rw [e,aA8 h1 h2 h3]
 simp only [Oper.upon]
 have hargs:=aHd hs htr h
 have hargs' : aGh (ftOf T) (bare c) ((args.map (dU tm)).map (nO c.H)) ((as.toList.map a.eval).toArray):=by
  refine ⟨by rw [List.length_map]; exact hargs.1,fun i x hx=>?_⟩
  rw [List.getElem?_map,Option.map_eq_some_iff] at hx
  obtain ⟨y,hy,rfl⟩:=hx
  obtain ⟨v,g1,g2⟩:=hargs.2 i y hy
  exact ⟨v,g1,aSq hs g2⟩
 unfold aKv at hev
 split at hev
 ·cases hev
 rename_i p hp
 obtain ⟨r0,H0⟩:=p
 refine (hcf 0 vi f _ r0 H0 (bare c) _ hp hf (aHb hs) (Nat.le_refl _) hargs').mono ?_
 rintro e w' ⟨v,c',rfl,rfl,rfl,hX,hst,hs',hv⟩
 simp only at hev
 split at hev
 ·split at hev
  ·cases hev
  rename_i x l
  split at hev
  ·cases hev
  rename_i hlit
  split at hev
  ·cases hev
  rename_i rows hrk
  cases hev
  obtain ⟨cv,vals,rfl,q1,q2,q3⟩ : ∃ cv,∃ vals : Nat→Value,v=.tuple cv∧cv.size=(x :: l).length∧(∀ (i : Nat) y,(x :: l)[i]? = some y→cv[i]? = some (vals i))∧∀ (i : Nat) y,(x :: l)[i]? = some y→RV (ftOf T) c' y (vals i):=by
   cases hv with
   | pure _ _ h=>cases h
   | tup cs cv vals h1 h2 h3=>exact ⟨cv,vals,rfl,h1,h2,h3⟩
  obtain ⟨ob,hnew,hsk,hvk⟩:=aS3 hs hs' hst (q3 0 x rfl) hrk
  refine hK _ (kctx c c'.w ob s rows) rfl (aKw hs hst hfl hnew) hsk (.tup _ cv vals (by simpa using q1) (fun i y hy=>?_) fun i y hy=>?_)
  ·match i,hy with
   | 0,_=>exact q2 0 x rfl
   | i + 1,hy=>exact q2 (i + 1) y (by simpa using hy)
  ·match i,hy with
   | 0,hy=>cases hy; exact hvk
   | i + 1,hy =>
    have hy' : l[i]? = some y:=by simpa using hy
    have hl:=List.all_eq_true.1 hlit y (List.mem_of_getElem? hy')
    have hr:=q3 (i + 1) y (by simpa using hy)
    cases y with
    | lit u=>rw [hr.lit_inv]; exact RV.lit u
    | _=>cases hl
 ·split at hev
  ·cases hev
  rename_i rows hrk
  cases hev
  obtain ⟨ob,hnew,hsk,hvk⟩:=aS3 hs hs' hst hv hrk
  exact hK v (kctx c c'.w ob s rows) rfl (aKw hs hst hfl hnew) hsk hvk
def aFs (c : Ctx) : Ctx:=⟨c.w,c.X,fun _=>none,[]⟩
theorem aNc {c : Ctx} {b : Nat} (h : Imm c b) : Imm (aFs c) b:=⟨h.1,fun id hid=>by cases hid⟩
theorem aSu [GlobT] {FT : Nat→Option Nat} {c : Ctx} (hs : Sim FT c) : Sim FT (aFs c) where
 gl:=fun g cs hcs=>let ⟨cc,T,fz,vals,h1,h2,h0,h3,h4⟩:=hs.gl g cs hcs; ⟨cc,T,fz,vals,aNc h1,h2,h0,h3,fun j x hx=>(h4 j x hx).mono fun b o hi hb=>⟨aNc hi,hb⟩⟩
 inj:=fun _ _ _ h=>by cases h
 dom:=fun _ _ h=>by cases h
 nx:=fun _ _ h=>by cases h
 fresh:=hs.fresh
 lens:=fun id s es h=>by simp [aFs] at h
 blk:=fun id s es b h=>by simp [aFs] at h
 map:=fun id es b h=>by simp [aFs] at h
 raw:=fun id q b h=>by simp [aFs] at h
theorem aBx {c c' : Ctx} (h : Step 0 (aFs c) c') {k : Nat} (hk : k < c.w.heap.size) : c'.w.heap[k]? = c.w.heap[k]?:=h.frame k hk fun id hid=>by cases hid
theorem aOv [GlobT] {FT : Nat→Option Nat} {c c' : Ctx} {fl : Nat} (hs : Sim FT c) (h : Step 0 (aFs c) c') : Step fl c (back c c') where
 X:=rfl
 os:=h.os
 tape:=h.tape
 output:=h.output
 drawn:=h.drawn
 size:=h.size
 len:=Nat.le_refl _
 frame:=fun k hk _=>aBx h hk
 img:=fun i _ hb=>.inr ⟨i,hb⟩
 blkS:=fun id s n hs'=>⟨n,hs',Nat.le_refl _,fun _=>⟨rfl,fun b cs T hb hcs=>⟨cs,(aBx h (pM hs hb)).trans hcs,rfl⟩⟩⟩
 mpS:=fun _ hm=>⟨hm,rfl⟩
 floor:=fun id _=>⟨rfl,rfl,fun b hb=>aBx h (pM hs hb)⟩
theorem aVz [GlobT] {FT : Nat→Option Nat} {c c' : Ctx} (hs : Sim FT c) (h : Step 0 (aFs c) c') : Sim FT (back c c'):=by
 have hst:=aOv (fl:=0) hs h
 refine ⟨hs.gl.step hst,hs.inj,hs.dom,hs.nx,fun k hk=>hs.fresh k (Nat.le_trans h.size hk),hs.lens,?_,?_,fun id q b ho hb=>(aBx h (pM hs hb)).trans (hs.raw id q b ho hb)⟩
 ·intro id s es b ho hb
  obtain ⟨cs,T,g1,g2,g3⟩:=hs.blk id s es b ho hb
  exact ⟨cs,T,(aBx h (pM hs hb)).trans g1,g2,fun i j x hx=>let ⟨v,k1,k2,k3⟩:=g3 i j x hx; ⟨v,k1,k2,k3.step hst⟩⟩
 ·intro id ents b ho hb
  obtain ⟨es,clk,g1,g2,g3⟩:=hs.map id ents b ho hb
  exact ⟨es,clk,(aBx h (pM hs hb)).trans g1,g2,fun i k x hx=>let ⟨e,k1,k2,k3⟩:=g3 i k x hx; ⟨e,k1,k2,k3.step hst⟩⟩
theorem aSv [GlobT] {c : Ctx} (hs : Sim (ftOf T) c) {x : AV} {v : Value} (hr : RV (ftOf T) c x v) : RV (ftOf T) (aFs c) (jX c.H 0 x) v:=by
 have hp : ∀ d y u,RV (ftOf T) c y u→RP (aFs c).w (Imm (aFs c)) (lD c.H 0 d y) u:=fun d y u h =>
  aHn hs (fun b hb=>aNc hb) (fun id b _ hb=>⟨hs.nx id b hb,fun i hi=>by cases hi⟩) d y u h
 cases hr with
 | pure _ _ hpr =>
  have:=hp 0 x v (.pure _ _ hpr)
  cases hpr with
  | undef=>exact RV.undef _
  | lit=>exact .pure _ _ (aRo _)
  | nil f a cap hf=>exact .pure _ _ (.nil false a cap (by simp))
  | sl f es b off cap cc Ty fz s vals h1 h2 h3 h4 h5 h6 h7 h8=>exact .pure _ _ this
  | sptr cs b off cc Ty fz vals h1 h2 h3 h4=>exact .pure _ _ this
  | rmp ents b es clk vals h1 h2 h3 h4 h5 h6=>exact .pure _ _ this
 | ms id tot off len a cap s n g1 g2 g3 g4 =>
  simp only [jX,Nat.not_lt_zero,if_false]
  exact .pure _ _ (hp _ _ _ (.ms id tot off len a cap s n g1 g2 g3 g4))
 | ptr id tot idx off a s n g1 g2 g3=>simp only [jX,Nat.not_lt_zero,if_false]; exact RV.undef _
 | rptr=>exact RV.undef _
 | vnil=>exact RV.undef _
 | vw=>exact RV.undef _
 | mp id b g1 g2 =>
  simp only [jX,Nat.not_lt_zero,if_false]
  exact .pure _ _ (hp _ _ _ (.mp id b g1 g2))
 | it id b g1 g2=>exact RV.undef _
 | fn vi f caps cv vals g1 g2 g3 g4 =>
  cases caps with
  | nil=>exact .fn vi f [] cv vals g1 g2 g3 (fun i x hx=>by simp at hx)
  | cons _ _=>exact RV.undef _
 | agg=>exact RV.undef _
 | tup=>exact RV.undef _
theorem aZp [GlobT] {c : Ctx} (hs : Sim (ftOf T) c) {x : AV} {v : Value} (hr : RV (ftOf T) c x v) : RV (ftOf T) (aFs c) (qM c.H 0 x) v:=by
 unfold qM
 split
 ·rename_i cs
  obtain ⟨cv,vals,rfl,g1,g2,g3⟩:=hr.agg_inv
  refine .agg _ cv vals (by simpa using g1) ?_ ?_
  ·intro i x hx
   simp only [List.getElem?_map,Option.map_eq_some_iff] at hx
   obtain ⟨y,hy,rfl⟩:=hx
   exact g2 i y hy
  ·intro i x hx
   simp only [List.getElem?_map,Option.map_eq_some_iff] at hx
   obtain ⟨y,hy,rfl⟩:=hx
   exact aSv hs (g3 i y hy)
 ·exact aSv hs hr
theorem aZw [GlobT] {FT : Nat→Option Nat} {c c' : Ctx} {x : AV} {v : Value} (hs : aQ8 x=true) (h : RV FT c x v) : RV FT c' x v:=by
 unfold aQ8 at hs
 split at hs
 ·rw [h.lit_inv]; exact RV.lit _
 ·rename_i vs
  obtain ⟨cv,vals,rfl,g1,g2,g3⟩:=h.tup_inv
  refine .tup _ cv vals g1 g2 fun i y hy=>?_
  have:=List.all_eq_true.1 hs y (List.mem_of_getElem? hy)
  split at this
  ·rw [(g3 i _ hy).lit_inv]; exact RV.lit _
  ·cases this
 ·cases hs
theorem bAg [GlobT] (hcf : CfOK P T cf) (hfn : aEj P T) (hs : Sim (ftOf T) c) (htr : TR (ftOf T) c tm a.tmps) {vi f : Nat} {args : List AOpd} {as : Array Operand} {ts : Array TypeId} {r : AV} {H' : Heap}
  (ho : o.op=.call ⟨.value (.func f),as,ts⟩) (hf : ftOf T vi=some f) (h : nN T args as.toList=true) (hev : cf 0 vi ((args.map (dU tm)).map (qM c.H 0)) []=some (r,H')) (hr : aQ8 (mI H' 0 r)=true) : OpOK P (ftOf T) c fl o a (mI H' 0 r) c.H:=by
 have hargs:=aHd hs htr h
 have e : (as.toList.map a.eval).toArray=as.map a.eval:=by apply Array.ext'; simp
 have hrun : (execOp a.eval o).run P c.w=(callFunc f (as.toList.map a.eval).toArray).run P c.w:=by
  rw [e]
  simp [execOp,ho,resolve,Act.eval,Deferred.ofValue,invoke]
 obtain ⟨fn,h1,h2,h3⟩:=hfn vi f hf
 intro K Q hK
 unfold Oper.wp
 rw [hrun,aA8 h1 h2 h3]
 simp only [Oper.upon]
 have hargs2 : aGh (ftOf T) (aFs c) ((args.map (dU tm)).map (qM c.H 0)) (as.toList.map a.eval).toArray:=by
  refine ⟨by simpa using hargs.1,fun i x hx=>?_⟩
  rw [List.getElem?_map,Option.map_eq_some_iff] at hx
  obtain ⟨y,hy,rfl⟩:=hx
  obtain ⟨v,g1,g2⟩:=hargs.2 i y hy
  exact ⟨v,g1,aZp hs g2⟩
 refine (hcf 0 vi f _ r H' (aFs c) _ hev hf (aSu hs) (Nat.le_refl _) hargs2).mono ?_
 rintro e w' ⟨v,c',rfl,rfl,rfl,hX,hst,hs',hv⟩
 exact hK v (back c c') rfl (aOv hs hst) (aVz hs hst) (aZw hr (aJn (aSu hs) hs' ⟨hst.X,fun id hid=>absurd hid (Nat.not_lt_zero _)⟩ hv))
theorem bAe [GlobT] (hcf : CfOK P T cf) (hfn : aEj P T) (hs : Sim (ftOf T) c) (htr : TR (ftOf T) c tm a.tmps) (hfl : fl ≤ c.H.length) {pu : Bool} {vi : Nat} {x : AOpd} {y : Operand} {caps : List AV} {args : List AOpd} {as : Array Operand} {ts : Array TypeId} {r : AV} {H' : Heap}
  (ho : o.op=.call ⟨.value y,as,ts⟩) (hx : eC T x y=true) (hxe : dU tm x=.fn vi caps) (h : nN T args as.toList=true) (hev : yM cf fl pu vi (args.map (dU tm)++caps) c.H=some (r,H')) : OpOK P (ftOf T) c fl o a r H':=by
 have hr:=eE hs htr hx
 rw [hxe] at hr
 obtain ⟨f,cv,vals,hv,hf,g1,g2,g3⟩:=hr.fn_inv
 have ha:=aHd hs htr h
 refine aW1 hcf hfn hs hfl hev hf (vs:=(as.toList.map a.eval).toArray++cv) ⟨by simp [g1]; simpa using ha.1,?_⟩ ?_
 ·intro i z hz
  rw [List.getElem?_append] at hz
  rw [Array.getElem?_append]
  have hsz : ((as.toList.map a.eval).toArray).size=(args.map (dU tm)).length:=ha.1
  rw [hsz]
  split at hz
  ·rename_i hi; rw [if_pos hi]; exact ha.2 i z hz
  ·rename_i hi; rw [if_neg hi]; exact ⟨_,g2 _ z hz,g3 _ z hz⟩
 ·have e : (as.toList.map a.eval).toArray=as.map a.eval:=by apply Array.ext'; simp
  rw [e]
  simp [execOp,ho,resolve,hv,Deferred.ofValue,invoke]
theorem aJ0 [GlobT] : ∀ (cl : List (Nat × Nat)) (c : Ctx),Sim (ftOf T) c→fl ≤ c.H.length→Step fl c ⟨c.w,c.X,c.β,c.H++cl.map fun x=>.blk x.2 []⟩∧Sim (ftOf T) ⟨c.w,c.X,c.β,c.H++cl.map fun x=>.blk x.2 []⟩
 | [],c,hs,_=>by simpa using ⟨Step.refl fl c,hs⟩
 | x :: r,c,hs,hfl=>by
  have h1:=aEo (fl:=fl) (c:=c) (s:=x.2) hfl
  have h2:=aJ7 (c:=c) (s:=x.2) hs
  obtain ⟨h3,h4⟩:=aJ0 r ⟨c.w,c.X,c.β,c.H++[.blk x.2 []]⟩ h2 (by simp only [List.length_append,List.length_singleton]; omega)
  have e : (c.H++[AObj.blk x.2 []])++r.map (fun x=>AObj.blk x.2 [])=c.H++(x :: r).map fun x=>.blk x.2 []:=by simp
  simp only [e] at h3 h4
  exact ⟨h1.trans h3,h4⟩
theorem aIy [GlobT] {FT : Nat→Option Nat} {z : List Value} : ∀ (cl : List (Nat × Nat)) (n : Nat) (cs : List AV),aHh FT c cs z.toArray→(∀ x ∈ cl,z[x.1]? = some nilS) →
  (∀ i,i < cl.length→RV FT c (.ms (n + i) 0 0 0) nilS)→aHh FT c (rN n cs cl) z.toArray
 | [],_,cs,h,_,_=>h
 | (o,s) :: r,n,cs,h,hz,hn=>by
  simp only [rN]
  refine aIy r (n + 1) _ ?_ (fun x hx=>hz x (by simp [hx])) (fun i hi=>by have:=hn (i + 1) (by simp; omega); rwa [show n + (i + 1)=n + 1 + i by omega] at this)
  refine ⟨by simpa using h.1,fun j x hx=>?_⟩
  rw [List.getElem?_set] at hx
  split at hx
  ·rename_i hoj
   subst hoj
   split at hx
   ·cases hx
    exact ⟨nilS,by simpa using hz (o,s) (by simp),rfl,hn 0 (by simp)⟩
   ·cases hx
  ·exact h.2 j x hx
theorem aWz [GlobT] (hs : Sim (ftOf T) c) (hfl : fl ≤ c.H.length) {z : List Value} {cl : List (Nat × Nat)} {t : TypeId} (ho : o.op=.alloc t) (h : yY P t z=true) (hcl : ∀ x ∈ cl,z[x.1]? = some nilS) :
  OpOK P (ftOf T) c fl o a (.ptr (c.H.length + cl.length) 1 0 0) ((c.H++cl.map fun c=>.blk c.2 [])++[.blk z.length [rN c.H.length (z.map .lit) cl]]):=by
 obtain ⟨i,v,hi,hv,hc,hsc⟩:=qN h
 obtain ⟨h1,h2⟩:=aJ0 (fl:=fl) cl c hs hfl
 generalize hH1 : (c.H++cl.map fun c=>AObj.blk c.2 [])=H1 at h1 h2
 have hlen : H1.length=c.H.length + cl.length:=by rw [← hH1]; simp
 have hR : aHh (ftOf T) ⟨c.w,c.X,c.β,H1⟩ (rN c.H.length (z.map .lit) cl) z.toArray:=by
  refine aIy cl c.H.length _ (aF6 hsc) hcl ?_
  intro k hk
  refine .ms _ 0 0 0 none 0 (cl[k].2) 0 ?_ (Nat.le_refl _) (Nat.le_refl _) fun _=>⟨Nat.le_refl _,.inl ⟨?_,rfl,rfl,rfl⟩⟩
  ·show shp H1 _=_
   rw [← hH1]
   simp [shp,hk]
  ·show c.β _=none
   cases hb : c.β (c.H.length + k) with
   | none=>rfl
   | some b=>have:=hs.dom _ b hb; omega
 have hop:=aKp (P:=P) (T:=T) (c:=⟨c.w,c.X,c.β,H1⟩) (fl:=fl) (o:=o) (a:=a) (cs:=rN c.H.length (z.map .lit) cl) (cv:=z.toArray) (t:=t) h2 (by simp only [hlen]; omega) ?_ hR.1 hR.2
 ·have hcl' : (rN c.H.length (z.map AV.lit) cl).length=z.length:=by have:=hR.1; simpa using this.symm
  rw [hcl'] at hop
  simp only [hlen] at hop
  intro K Q hK
  refine hop K Q ?_
  intro cv c' e1 e2 e3 e4
  exact hK cv c' e1 (h1.trans e2) e3 e4
 ·simp [execOp,ho,Instr.alloc,zeroValue,typeInfo,hi,hv,newVar,newRow,hc]
end
end Go.Proofs.YtapabkfjeiknbaaGreat.Av
namespace Go.Proofs.YtapabkfjeiknbaaGreat.Av
open Go
section
variable {P : Program} {T : List AFun} {cf : Nat→Nat→List AV→Heap→Option (AV × Heap)} {c : Ctx} {fl : Nat} {o : Oper} {a : Act} {tm : List AV}
theorem zM {α : Type} {as : Array α} {x y : α} (h : as.toList=[x,y]) : as=#[x,y]:=by apply Array.ext'; simpa using h
theorem uA {α : Type} {as : Array α} {x : α} (h : as.toList=[x]) : as=#[x]:=by apply Array.ext'; simpa using h
set_option maxHeartbeats 1000000 in
theorem aVf [GlobT] (hcf : CfOK P T cf) (hfn : aEj P T) (hs : Sim (ftOf T) c) (htr : TR (ftOf T) c tm a.tmps) (hfl : fl ≤ c.H.length) {ao : AOp} {v : AV} {H' : Heap}
  (hchk : jY P T ao o.op=true) (hev : evOp P cf fl ao tm c.H=some (v,H')) : OpOK P (ftOf T) c fl o a v H':=by
 generalize hop : o.op=op at hchk
 cases ao with
 | mov x =>
  simp only [evOp,Option.some.injEq,Prod.mk.injEq] at hev
  obtain ⟨rfl,rfl⟩:=hev
  simp only [jY] at hchk
  split at hchk
  ·exact aWt hs htr (.inl hop) hchk
  ·exact aWt hs htr (.inr hop) hchk
  ·cases hchk
 | movN x =>
  simp only [evOp,Option.some.injEq,Prod.mk.injEq] at hev
  obtain ⟨rfl,rfl⟩:=hev
  simp only [jY] at hchk
  split at hchk
  ·exact aWs hs htr (.inl hop) hchk
  ·exact aWs hs htr (.inr hop) hchk
  ·cases hchk
 | rangeStr x =>
  simp only [jY] at hchk
  split at hchk
  ·rename_i t y
   simp only [Bool.and_eq_true] at hchk
   simp only [evOp] at hev
   split at hev
   ·rename_i s hx
    cases hev
    exact aRi hs htr hfl hop hchk.1 (by
     have:=hchk.2
     split at this
     ·assumption
     ·cases this) hx
   ·cases hev
  ·cases hchk
 | nextStr x =>
  simp only [jY] at hchk
  split at hchk
  ·rename_i y b
   simp only [Bool.and_eq_true] at hchk
   obtain ⟨hy,rfl⟩:=hchk
   simp only [evOp] at hev
   split at hev
   ·rename_i id hx
    split at hev
    ·rename_i hle
     split at hev
     ·rename_i s pos hob
      split at hev
      ·rename_i hp
       cases hev
       exact aUw hs htr hop hy hx hle hob hp
      ·rename_i hp
       cases hev
       exact aUv hs htr hop hy hx hob hp
     ·cases hev
    ·cases hev
   ·cases hev
  ·cases hchk
 | freeze x =>
  simp only [jY] at hchk
  have hmv : ∃ y,(o.op=.move y ∨ o.op=.assign y)∧eC T x y=true:=by
   split at hchk
   ·exact ⟨_,.inl hop,hchk⟩
   ·exact ⟨_,.inr hop,hchk⟩
   ·cases hchk
  obtain ⟨y,ho,hy⟩:=hmv
  simp only [evOp] at hev
  split at hev
  ·rename_i id tot off len hx
   split at hev
   ·rename_i hle
    split at hev
    ·rename_i s es hob
     split at hev
     ·rename_i htot
      cases hev
      exact aWw hs htr ho hy hx hle hob htot
     ·cases hev
    ·cases hev
   ·cases hev
  ·rename_i id tot idx off hx
   split at hev
   ·rename_i hle
    split at hev
    ·rename_i s es hob
     split at hev
     ·rename_i htot
      split at hev
      ·rename_i e he
       cases hev
       exact aUy hs htr ho hy hx hle hob htot he
      ·cases hev
     ·cases hev
    ·cases hev
   ·cases hev
  ·cases hev
   exact aWt hs htr ho hy
 | loadF n k x =>
  simp only [jY] at hchk
  split at hchk
  ·simp only [Bool.and_eq_true] at hchk
   obtain ⟨⟨h1,h2⟩,h4⟩:=hchk
   simp only [evOp] at hev
   split at hev
   ·rename_i cs hcs
    split at hev
    ·rename_i id tot off len hk
     split at hev
     ·rename_i hle
      split at hev
      ·rename_i s es hob
       split at hev
       ·rename_i htot
        cases hev
        exact bAb hs htr hop h4 h1 h2 hcs hk hle hob htot
       ·cases hev
      ·cases hev
     ·cases hev
    ·cases hev
     exact aRj hs htr hop h4 h1 h2 hcs (by simp)
    ·cases hev
   ·cases hev
  ·cases hchk
 | pick x y z =>
  simp only [jY] at hchk
  split at hchk
  ·simp only [Bool.and_eq_true] at hchk
   simp only [evOp] at hev
   split at hev
   ·rename_i t ht
    simp only [Option.some.injEq,Prod.mk.injEq] at hev
    obtain ⟨rfl,rfl⟩:=hev
    exact bD0 hs htr hop hchk.1.1 hchk.1.2 hchk.2 ht
   ·cases hev
  ·cases hchk
 | alloc z =>
  simp only [evOp,Option.some.injEq,Prod.mk.injEq] at hev
  obtain ⟨rfl,rfl⟩:=hev
  simp only [jY] at hchk
  split at hchk
  ·exact bAk hs hfl hop hchk
  ·cases hchk
 | claim s =>
  simp only [evOp,Option.some.injEq,Prod.mk.injEq] at hev
  obtain ⟨rfl,rfl⟩:=hev
  simp only [jY] at hchk
  split at hchk
  ·exact aTa hs hfl (.inl hop)
  ·exact aTa hs hfl (.inr hop)
  ·cases hchk
 | allocC z cl =>
  simp only [evOp,Option.some.injEq,Prod.mk.injEq] at hev
  obtain ⟨rfl,rfl⟩:=hev
  simp only [jY] at hchk
  split at hchk
  ·simp only [Bool.and_eq_true] at hchk
   refine aWz hs hfl hop hchk.1 fun x hx=>?_
   have:=List.all_eq_true.1 hchk.2 x hx
   split at this
   ·rename_i h; exact h
   ·cases this
  ·cases hchk
 | box x =>
  simp only [jY] at hchk
  split at hchk
  ·simp only [evOp] at hev
   split at hev
   ·rename_i cs hcs
    simp only [Option.some.injEq,Prod.mk.injEq] at hev
    obtain ⟨rfl,rfl⟩:=hev
    exact bFp hs htr hfl hop hchk hcs
   ·cases hev
  ·cases hchk
 | build z ps =>
  have hchk0:=hchk
  simp only [jY] at hchk
  split at hchk
  ·simp only [Bool.and_eq_true] at hchk
   simp only [evOp] at hev
   split at hev
   ·rename_i cs hcs
    simp only [Option.some.injEq,Prod.mk.injEq] at hev
    obtain ⟨rfl,rfl⟩:=hev
    exact bAj hs htr hop hchk.1 hchk0 hcs
   ·cases hev
  ·cases hchk
 | buildSl pu s n z ps =>
  simp only [jY] at hchk
  split at hchk
  ·rename_i t m qs
   simp only [Bool.and_eq_true,beq_iff_eq] at hchk
   obtain ⟨rfl,hchk⟩:=hchk
   split at hchk
   ·rename_i e hu
    simp only [Bool.and_eq_true,beq_iff_eq,decide_eq_true_eq] at hchk
    obtain ⟨⟨⟨⟨⟨h1,h2⟩,h3⟩,h4⟩,h5⟩,h6⟩:=hchk
    simp only [evOp] at hev
    split at hev
    ·rename_i es hes
     have key:=aU0 (pu:=pu) hs htr hfl hop hu h1 h2 h3 h4 h5 h6 hes
     cases pu with
     | true =>
      simp only [if_true,Option.some.injEq,Prod.mk.injEq] at hev
      obtain ⟨rfl,rfl⟩:=hev
      simpa using key
     | false =>
      simp only [Bool.false_eq_true,if_false,Option.some.injEq,Prod.mk.injEq] at hev
      obtain ⟨rfl,rfl⟩:=hev
      simpa using key
    ·cases hev
   ·cases hchk
  ·cases hchk
 | load agg n x =>
  simp only [jY] at hchk
  split at hchk
  ·simp only [Bool.and_eq_true] at hchk
   obtain ⟨⟨⟨h1,h2⟩,h3⟩,h4⟩:=hchk
   simp only [evOp] at hev
   split at hev
   ·rename_i cs hcs
    cases agg with
    | true =>
     simp only [if_true,Option.some.injEq,Prod.mk.injEq] at hev
     obtain ⟨rfl,rfl⟩:=hev
     exact aRj hs htr hop h4 h1 h2 hcs (by simp)
    | false =>
     simp only [Bool.false_eq_true,if_false] at hev
     split at hev
     ·simp only [Option.some.injEq,Prod.mk.injEq] at hev
      obtain ⟨rfl,rfl⟩:=hev
      exact aRj hs htr hop h4 h1 h2 hcs (by simp)
     ·cases hev
   ·cases hev
  ·cases hchk
 | store n x u =>
  simp only [jY] at hchk
  split at hchk
  ·simp only [Bool.and_eq_true] at hchk
   obtain ⟨⟨h1,h2⟩,h3⟩:=hchk
   simp only [evOp] at hev
   split at hev
   ·rename_i cs hcs
    split at hev
    ·rename_i hn
     split at hev
     ·rename_i H1 hst
      simp only [Option.some.injEq,Prod.mk.injEq] at hev
      obtain ⟨rfl,rfl⟩:=hev
      exact aZ8 hs htr hop h2 h3 h1 hcs hn hst
     ·cases hev
    ·cases hev
   ·cases hev
  ·cases hchk
 | nilCheck x =>
  simp only [jY] at hchk
  split at hchk
  ·simp only [evOp] at hev
   split at hev
   ·rename_i id tot idx off hx
    simp only [Option.some.injEq,Prod.mk.injEq] at hev
    obtain ⟨rfl,rfl⟩:=hev
    exact aCq hs htr hop hchk (.inl ⟨_,_,_,_,hx⟩)
   ·rename_i cs hx
    simp only [Option.some.injEq,Prod.mk.injEq] at hev
    obtain ⟨rfl,rfl⟩:=hev
    exact aCq hs htr hop hchk (.inr (.inl ⟨_,hx⟩))
   ·rename_i cs hx
    simp only [Option.some.injEq,Prod.mk.injEq] at hev
    obtain ⟨rfl,rfl⟩:=hev
    exact aCq hs htr hop hchk (.inr (.inr (.inl ⟨_,hx⟩)))
   ·rename_i vi caps hx
    simp only [Option.some.injEq,Prod.mk.injEq] at hev
    obtain ⟨rfl,rfl⟩:=hev
    exact aCq hs htr hop hchk (.inr (.inr (.inr ⟨_,_,hx⟩)))
   ·cases hev
  ·cases hchk
 | ibin op x y =>
  simp only [jY] at hchk
  split at hchk
  ·simp only [Bool.and_eq_true,decide_eq_true_eq] at hchk
   obtain ⟨⟨rfl,h1⟩,h2⟩:=hchk
   simp only [evOp] at hev
   split at hev
   ·rename_i k n k' m e1 e2
    split at hev
    ·rename_i hk
     subst hk
     split at hev
     ·rename_i r hr
      simp only [Option.some.injEq,Prod.mk.injEq] at hev
      obtain ⟨rfl,rfl⟩:=hev
      exact bD3 hs htr hop h1 h2 e1 e2 hr
     ·cases hev
    ·cases hev
   ·cases hev
  ·cases hchk
 | bin op t x y =>
  simp only [jY] at hchk
  split at hchk
  ·simp only [Bool.and_eq_true,decide_eq_true_eq,beq_iff_eq] at hchk
   obtain ⟨⟨⟨rfl,rfl⟩,h1⟩,h2⟩:=hchk
   simp only [evOp] at hev
   split at hev
   ·rename_i v1 v2 e1 e2
    split at hev
    ·rename_i g hg
     split at hev
     ·rename_i r hr
      simp only [Option.some.injEq,Prod.mk.injEq] at hev
      obtain ⟨rfl,rfl⟩:=hev
      split at hg
      ·rename_i hn
       exact bFq hs htr hop h1 h2 e1 e2 hn hg hr
      ·cases hg
     ·cases hev
    ·cases hev
   ·cases hev
  ·cases hchk
 | un op x =>
  simp only [jY] at hchk
  split at hchk
  ·simp only [Bool.and_eq_true,decide_eq_true_eq] at hchk
   obtain ⟨rfl,h1⟩:=hchk
   simp only [evOp] at hev
   split at hev
   ·rename_i v1 e1
    split at hev
    ·rename_i r hr
     simp only [Option.some.injEq,Prod.mk.injEq] at hev
     obtain ⟨rfl,rfl⟩:=hev
     exact bIv hs htr hop h1 e1 hr
    ·cases hev
   ·cases hev
  ·cases hchk
 | conv s d x =>
  simp only [jY] at hchk
  split at hchk
  ·simp only [Bool.and_eq_true,beq_iff_eq] at hchk
   obtain ⟨⟨rfl,rfl⟩,h1⟩:=hchk
   simp only [evOp] at hev
   split at hev
   ·rename_i v1 e1
    split at hev
    ·rename_i r hr
     simp only [Option.some.injEq,Prod.mk.injEq] at hev
     obtain ⟨rfl,rfl⟩:=hev
     exact bD5 hs htr hop h1 e1 hr
    ·cases hev
   ·rename_i f es e1
    split at hev
    ·rename_i hb
     split at hev
     ·rename_i ns hns
      simp only [Option.some.injEq,Prod.mk.injEq] at hev
      obtain ⟨rfl,rfl⟩:=hev
      exact bAc hs htr hop h1 e1 hb hns
     ·cases hev
    ·cases hev
   ·cases hev
  ·cases hchk
 | fieldAddr off x =>
  simp only [jY] at hchk
  split at hchk
  ·simp only [Bool.and_eq_true] at hchk
   obtain ⟨h1,hchk⟩:=hchk
   split at hchk
   ·rename_i fs hu
    split at hchk
    ·rename_i fd hf
     simp only [Bool.and_eq_true,beq_iff_eq] at hchk
     obtain ⟨hof,hchk⟩:=hchk
     split at hchk
     ·rename_i i hi
      have hsz : i.size ≠ 0:=by simpa using hchk
      simp only [evOp] at hev
      split at hev
      ·rename_i id tot idx k hx
       simp only [Option.some.injEq,Prod.mk.injEq] at hev
       obtain ⟨rfl,rfl⟩:=hev
       exact aD4 hs htr hop h1 hu hf hof hi hsz (.inl ⟨_,_,_,_,hx,rfl⟩)
      ·rename_i cs hx
       simp only [Option.some.injEq,Prod.mk.injEq] at hev
       obtain ⟨rfl,rfl⟩:=hev
       exact aD4 hs htr hop h1 hu hf hof hi hsz (.inr ⟨_,.inl hx,rfl⟩)
      ·rename_i cs hx
       simp only [Option.some.injEq,Prod.mk.injEq] at hev
       obtain ⟨rfl,rfl⟩:=hev
       exact aD4 hs htr hop h1 hu hf hof hi hsz (.inr ⟨_,.inr hx,rfl⟩)
      ·cases hev
     ·cases hchk
    ·cases hchk
   ·cases hchk
  ·cases hchk
 | field agg n off x =>
  simp only [jY] at hchk
  split at hchk
  ·simp only [Bool.and_eq_true] at hchk
   obtain ⟨h1,hchk⟩:=hchk
   split at hchk
   ·rename_i fs hu
    split at hchk
    ·rename_i fd hf
     simp only [Bool.and_eq_true,beq_iff_eq] at hchk
     obtain ⟨⟨⟨hof,h2⟩,h3⟩,h4⟩:=hchk
     have h4' : agg=true ∨ n=1:=by simpa using h4
     simp only [evOp] at hev
     split at hev
     ·rename_i cs hx
      split at hev
      ·rename_i hle
       cases agg with
       | true =>
        simp only [if_true,Option.some.injEq,Prod.mk.injEq] at hev
        obtain ⟨rfl,rfl⟩:=hev
        exact aS9 hs htr hop h1 hu hf hof h2 h3 h4' hx hle (by simp)
       | false =>
        simp only [Bool.false_eq_true,if_false] at hev
        split at hev
        ·rename_i c0 hc0
         simp only [Option.some.injEq,Prod.mk.injEq] at hev
         obtain ⟨rfl,rfl⟩:=hev
         exact aS9 hs htr hop h1 hu hf hof h2 h3 h4' hx hle (by simpa using hc0)
        ·cases hev
      ·cases hev
     ·cases hev
    ·cases hchk
   ·cases hchk
  ·cases hchk
 | idxAddr s x i =>
  simp only [jY] at hchk
  split at hchk
  ·simp only [Bool.and_eq_true] at hchk
   obtain ⟨⟨h1,h2⟩,hchk⟩:=hchk
   split at hchk
   ·rename_i e hu
    simp only [evOp] at hev
    split at hev
    ·rename_i n hn
     split at hev
     ·rename_i f es hx
      split at hev
      ·rename_i cs hcs
       split at hev
       ·rename_i hl
        simp only [Option.some.injEq,Prod.mk.injEq] at hev
        obtain ⟨rfl,rfl⟩:=hev
        exact aH3 hs htr hop h1 h2 hu hchk hn (.inl ⟨_,_,_,hx,hcs,hl,rfl⟩)
       ·cases hev
      ·cases hev
     ·rename_i es hx
      split at hev
      ·rename_i cs hcs
       split at hev
       ·rename_i hl
        simp only [Option.some.injEq,Prod.mk.injEq] at hev
        obtain ⟨rfl,rfl⟩:=hev
        exact aH3 hs htr hop h1 h2 hu hchk hn (.inr (.inl ⟨_,_,hx,hcs,hl,rfl⟩))
       ·cases hev
      ·cases hev
     ·rename_i id tot off len hx
      split at hev
      ·rename_i s' es hob
       split at hev
       ·rename_i hc
        obtain ⟨rfl,hc1,hc2⟩:=hc
        simp only [Option.some.injEq,Prod.mk.injEq] at hev
        obtain ⟨rfl,rfl⟩:=hev
        exact aH3 hs htr hop h1 h2 hu hchk hn (.inr (.inr ⟨_,_,_,_,_,hx,hob,hc1,hc2,rfl⟩))
       ·cases hev
      ·cases hev
     ·cases hev
    ·cases hev
   ·cases hchk
  ·cases hchk
 | idxArr s n x i =>
  simp only [jY] at hchk
  split at hchk
  ·simp only [Bool.and_eq_true] at hchk
   obtain ⟨⟨h1,h2⟩,hchk⟩:=hchk
   split at hchk
   ·rename_i m e hu
    simp only [Bool.and_eq_true,beq_iff_eq] at hchk
    obtain ⟨rfl,h3⟩:=hchk
    simp only [evOp] at hev
    split at hev
    ·rename_i k hn
     split at hev
     ·rename_i hlt
      split at hev
      ·rename_i id tot idx off hx
       simp only [Option.some.injEq,Prod.mk.injEq] at hev
       obtain ⟨rfl,rfl⟩:=hev
       exact aPh hs htr hop h1 h2 hu h3 hn hlt (.inl ⟨_,_,_,_,hx,rfl⟩)
      ·rename_i cs hx
       simp only [Option.some.injEq,Prod.mk.injEq] at hev
       obtain ⟨rfl,rfl⟩:=hev
       exact aPh hs htr hop h1 h2 hu h3 hn hlt (.inr ⟨_,hx,rfl⟩)
      ·cases hev
     ·cases hev
    ·cases hev
   ·cases hchk
  ·cases hchk
 | index agg s n x i =>
  simp only [jY] at hchk
  split at hchk
  ·simp only [Bool.and_eq_true] at hchk
   obtain ⟨⟨h1,h2⟩,hchk⟩:=hchk
   split at hchk
   ·rename_i m e hu
    simp only [Bool.and_eq_true,beq_iff_eq] at hchk
    obtain ⟨⟨⟨rfl,h3⟩,h4⟩,h5⟩:=hchk
    have h5' : agg=true ∨ s=1:=by simpa using h5
    simp only [evOp] at hev
    split at hev
    ·rename_i k hn
     split at hev
     ·rename_i hlt
      split at hev
      ·rename_i cs hx
       split at hev
       ·rename_i hle
        cases agg with
        | true =>
         simp only [if_true,Option.some.injEq,Prod.mk.injEq] at hev
         obtain ⟨rfl,rfl⟩:=hev
         exact aS8 hs htr hop h1 h2 hu h3 h4 h5' hn hlt hx hle (by simp)
        | false =>
         simp only [Bool.false_eq_true,if_false] at hev
         split at hev
         ·rename_i c0 hc0
          simp only [Option.some.injEq,Prod.mk.injEq] at hev
          obtain ⟨rfl,rfl⟩:=hev
          exact aS8 hs htr hop h1 h2 hu h3 h4 h5' hn hlt hx hle (by simpa using hc0)
         ·cases hev
       ·cases hev
      ·cases hev
     ·cases hev
    ·cases hev
   ·cases hchk
  ·cases hchk
 | strIdx t x i =>
  simp only [jY] at hchk
  split at hchk
  ·simp only [Bool.and_eq_true,beq_iff_eq] at hchk
   obtain ⟨⟨rfl,h1⟩,h2⟩:=hchk
   simp only [evOp] at hev
   split at hev
   ·rename_i v1 v2 e1 e2
    split at hev
    ·rename_i r hr
     simp only [Option.some.injEq,Prod.mk.injEq] at hev
     obtain ⟨rfl,rfl⟩:=hev
     exact aWr hs htr hop h1 h2 e1 e2 hr
    ·cases hev
   ·cases hev
  ·cases hchk
 | slice s x lo hi mx =>
  simp only [jY] at hchk
  split at hchk
  ·simp only [Bool.and_eq_true] at hchk
   obtain ⟨⟨⟨⟨h1,h2⟩,h3⟩,h4⟩,hchk⟩:=hchk
   split at hchk
   ·rename_i e hu
    simp only [evOp] at hev
    split at hev
    ·rename_i nlo nhi nmx n1 n2 n3
     split at hev
     ·rename_i r hr
      simp only [Option.some.injEq,Prod.mk.injEq] at hev
      obtain ⟨rfl,rfl⟩:=hev
      exact aZ9 hs htr hop h1 h2 h3 h4 hu hchk n1 n2 n3 hr
     ·cases hev
    ·cases hev
   ·cases hchk
  ·cases hchk
 | strSlice t x lo hi =>
  simp only [jY] at hchk
  split at hchk
  ·simp only [Bool.and_eq_true,beq_iff_eq] at hchk
   obtain ⟨⟨⟨⟨rfl,h1⟩,h2⟩,h3⟩,hchk⟩:=hchk
   split at hchk
   ·rename_i hu
    simp only [evOp] at hev
    split at hev
    ·rename_i s nlo nhi e1 n1 n2
     split at hev
     ·rename_i hc
      simp only [Option.some.injEq,Prod.mk.injEq] at hev
      obtain ⟨rfl,rfl⟩:=hev
      exact aRh hs htr hop h1 h2 h3 hu n1 n2 e1 hc
     ·cases hev
    ·cases hev
   ·cases hchk
  ·cases hchk
 | mkSlice s z bytes l k =>
  simp only [jY] at hchk
  split at hchk
  ·simp only [Bool.and_eq_true] at hchk
   obtain ⟨⟨h1,h2⟩,hchk⟩:=hchk
   split at hchk
   ·rename_i e hu
    simp only [Bool.and_eq_true,decide_eq_true_eq] at hchk
    obtain ⟨⟨⟨h3,h4⟩,h5⟩,h6⟩:=hchk
    simp only [evOp] at hev
    split at hev
    ·rename_i nl nk e1 e2
     split at hev
     ·rename_i hc
      simp only [Option.some.injEq,Prod.mk.injEq] at hev
      obtain ⟨rfl,rfl⟩:=hev
      exact aUx hs htr hfl hop h1 h2 hu h3 h4 h5 h6 e1 e2 hc.1 hc.2.1 hc.2.2.1 hc.2.2.2
     ·cases hev
    ·cases hev
   ·cases hchk
  ·cases hchk
 | mkMap =>
  simp only [evOp,Option.some.injEq,Prod.mk.injEq] at hev
  obtain ⟨rfl,rfl⟩:=hev
  simp only [jY] at hchk
  split at hchk
  ·exact bAa hs hfl hop
  ·cases hchk
 | lookup kt z m k ok =>
  simp only [jY] at hchk
  split at hchk
  ·simp only [Bool.and_eq_true,beq_iff_eq] at hchk
   obtain ⟨⟨⟨rfl,h1⟩,h2⟩,hchk⟩:=hchk
   split at hchk
   ·rename_i kt' e hu
    simp only [Bool.and_eq_true,beq_iff_eq] at hchk
    obtain ⟨rfl,hchk⟩:=hchk
    split at hchk
    ·rename_i i hi
     have hz : ∃ zv,i.zero=some zv∧RV (ftOf T) c (dU tm z) zv:=by
      split at hchk
      ·rename_i u v hz
       exact ⟨u,hz,by rw [← aVs hchk]; exact RV.lit _⟩
      ·rename_i us vs hz
       refine ⟨.agg us,hz,?_⟩
       have : us=vs.toArray:=by rw [aM7 hchk]
       rw [this]
       exact aKa vs (aCi hchk)
      ·cases hchk
     obtain ⟨zv,hz1,hz2⟩:=hz
     simp only [evOp] at hev
     split at hev
     ·rename_i kv hk
      have fin : ∀ ents : List (Value × AV),((dU tm m=.lit (.map none)∧ents=[]) ∨ (∃ id,dU tm m=.mp id∧c.H[id]? = some (.mp ents)) ∨ dU tm m=.rmp ents) →
        (match eD P (Instr.checkKey ents.isEmpty 10000 kt kv),aAr P kt kv ents with
         | some _,some (some i)=>match ents[i]? with
          | some e=>some (if ok then AV.tup [e.2,.lit (.bool true)] else e.2,c.H)
          | none=>none
         | some _,some none=>some (if ok then AV.tup [dU tm z,.lit (.bool false)] else dU tm z,c.H)
         | _,_=>none)=some (v,H')→OpOK P (ftOf T) c fl o a v H':=by
       intro ents hm hr
       split at hr
       ·rename_i u i0 hck hf
        split at hr
        ·rename_i en hen
         simp only [Option.some.injEq,Prod.mk.injEq] at hr
         obtain ⟨rfl,rfl⟩:=hr
         exact aPg hs htr hop h1 h2 hu hi hz1 hz2 hk hck hm (.inl ⟨_,_,hf,hen,rfl,rfl⟩)
        ·cases hr
       ·rename_i u hck hf
        simp only [Option.some.injEq,Prod.mk.injEq] at hr
        obtain ⟨rfl,rfl⟩:=hr
        exact aPg hs htr hop h1 h2 hu hi hz1 hz2 hk hck hm (.inr ⟨hf,rfl,rfl⟩)
       ·cases hr
      split at hev
      ·rename_i hm
       exact fin [] (.inl ⟨hm,rfl⟩) hev
      ·rename_i id hm
       split at hev
       ·rename_i ents hob
        exact fin ents (.inr (.inl ⟨id,hm,hob⟩)) hev
       ·cases hev
      ·rename_i ents hm
       exact fin ents (.inr (.inr hm)) hev
      ·cases hev
     ·cases hev
    ·cases hchk
   ·cases hchk
  ·cases hchk
 | mapUpd kt m k x =>
  have fin : ∀ (t : TypeId) (m' k' x' : Operand) (e : TypeId),(o.op=.mapUpdate t m' k' x' ∨ o.op=.insert t m' k' x')→eC T m m'=true→eC T k k'=true→eC T x x'=true →
    P.underlying t=some (.map kt e)→OpOK P (ftOf T) c fl o a v H':=by
   intro t m' k' x' e ho h1 h2 h3 hu
   simp only [evOp] at hev
   split at hev
   ·rename_i kv id hk hm
    split at hev
    ·rename_i hflid
     split at hev
     ·rename_i ents hob
      split at hev
      ·rename_i u i0 hck hf
       split at hev
       ·rename_i en hen
        split at hev
        ·rename_i hsb
         simp only [Option.some.injEq,Prod.mk.injEq] at hev
         obtain ⟨rfl,rfl⟩:=hev
         exact aPf hs htr ho h1 h2 h3 hu hk hck hflid hm hob (.inl ⟨_,_,hf,hen,hsb,rfl⟩)
        ·cases hev
       ·cases hev
      ·rename_i u hck hf
       simp only [Option.some.injEq,Prod.mk.injEq] at hev
       obtain ⟨rfl,rfl⟩:=hev
       exact aPf hs htr ho h1 h2 h3 hu hk hck hflid hm hob (.inr ⟨hf,rfl⟩)
      ·cases hev
     ·cases hev
    ·cases hev
   ·cases hev
  simp only [jY] at hchk
  split at hchk
  ·simp only [Bool.and_eq_true] at hchk
   obtain ⟨⟨⟨h1,h2⟩,h3⟩,hchk⟩:=hchk
   split at hchk
   ·rename_i kt' e hu
    have : kt=kt':=by simpa using hchk
    subst this
    exact fin _ _ _ _ e (.inl hop) h1 h2 h3 hu
   ·cases hchk
  ·simp only [Bool.and_eq_true] at hchk
   obtain ⟨⟨⟨h1,h2⟩,h3⟩,hchk⟩:=hchk
   split at hchk
   ·rename_i kt' e hu
    have : kt=kt':=by simpa using hchk
    subst this
    exact fin _ _ _ _ e (.inr hop) h1 h2 h3 hu
   ·cases hchk
  ·cases hchk
 | lenS x =>
  simp only [jY] at hchk
  split at hchk
  ·rename_i as ts
   split at hchk
   ·rename_i y t ha ht
    simp only [Bool.and_eq_true] at hchk
    obtain ⟨h1,hchk⟩:=hchk
    split at hchk
    ·rename_i e hu
     rw [uA ha,uA ht] at hop
     simp only [evOp] at hev
     split at hev
     ·rename_i hx
      simp only [Option.some.injEq,Prod.mk.injEq] at hev
      obtain ⟨rfl,rfl⟩:=hev
      exact aNn (n:=0) hs htr hop h1 hu (.inl ⟨hx,rfl⟩)
     ·rename_i f es hx
      simp only [Option.some.injEq,Prod.mk.injEq] at hev
      obtain ⟨rfl,rfl⟩:=hev
      exact aNn hs htr hop h1 hu (.inr (.inl ⟨_,_,hx,rfl⟩))
     ·rename_i es hx
      simp only [Option.some.injEq,Prod.mk.injEq] at hev
      obtain ⟨rfl,rfl⟩:=hev
      exact aNn hs htr hop h1 hu (.inr (.inr (.inr ⟨_,hx,rfl⟩)))
     ·rename_i id tot off len hx
      simp only [Option.some.injEq,Prod.mk.injEq] at hev
      obtain ⟨rfl,rfl⟩:=hev
      exact aNn hs htr hop h1 hu (.inr (.inr (.inl ⟨_,_,_,hx⟩)))
     ·cases hev
    ·cases hchk
   ·cases hchk
  ·cases hchk
 | lenM x =>
  simp only [jY] at hchk
  split at hchk
  ·rename_i as ts
   split at hchk
   ·rename_i y t ha ht
    simp only [Bool.and_eq_true] at hchk
    obtain ⟨h1,hchk⟩:=hchk
    split at hchk
    ·rename_i k e hu
     rw [uA ha,uA ht] at hop
     simp only [evOp] at hev
     split at hev
     ·rename_i hx
      simp only [Option.some.injEq,Prod.mk.injEq] at hev
      obtain ⟨rfl,rfl⟩:=hev
      exact aRk (n:=0) hs htr hop h1 hu (.inl ⟨hx,rfl⟩)
     ·rename_i id hx
      split at hev
      ·rename_i ents hob
       simp only [Option.some.injEq,Prod.mk.injEq] at hev
       obtain ⟨rfl,rfl⟩:=hev
       exact aRk hs htr hop h1 hu (.inr (.inl ⟨_,_,hx,hob,rfl⟩))
      ·cases hev
     ·rename_i ents hx
      simp only [Option.some.injEq,Prod.mk.injEq] at hev
      obtain ⟨rfl,rfl⟩:=hev
      exact aRk hs htr hop h1 hu (.inr (.inr ⟨_,hx,rfl⟩))
     ·cases hev
    ·cases hchk
   ·cases hchk
  ·cases hchk
 | lenStr t x =>
  simp only [jY] at hchk
  split at hchk
  ·rename_i as ts
   split at hchk
   ·rename_i y t' ha ht
    simp only [Bool.and_eq_true,beq_iff_eq] at hchk
    obtain ⟨rfl,h1⟩:=hchk
    rw [uA ha,uA ht] at hop
    simp only [evOp] at hev
    split at hev
    ·rename_i v1 hx
     split at hev
     ·rename_i r hr
      simp only [Option.some.injEq,Prod.mk.injEq] at hev
      obtain ⟨rfl,rfl⟩:=hev
      exact aWv hs htr hop h1 hx hr
     ·cases hev
    ·cases hev
   ·cases hchk
  ·cases hchk
 | lenC n =>
  simp only [evOp,Option.some.injEq,Prod.mk.injEq] at hev
  obtain ⟨rfl,rfl⟩:=hev
  simp only [jY] at hchk
  split at hchk
  ·rename_i as ts
   split at hchk
   ·rename_i y t ha ht
    split at hchk
    ·rename_i m e hu
     have : m=n:=by simpa using hchk
     subst this
     rw [uA ha,uA ht] at hop
     exact bD2 hs hop hu
    ·cases hchk
   ·cases hchk
  ·cases hchk
 | append s bytes x y =>
  simp only [jY] at hchk
  split at hchk
  ·rename_i as ts
   split at hchk
   ·rename_i x' y' t t' ha ht
    simp only [Bool.and_eq_true] at hchk
    obtain ⟨⟨⟨h1,h2⟩,h3⟩,hchk⟩:=hchk
    split at h3
    ·rename_i e' hu'
     split at hchk
     ·rename_i e hu
      simp only [Bool.and_eq_true] at hchk
      obtain ⟨⟨h4,h5⟩,hchk⟩:=hchk
      split at hchk
      ·rename_i i hi
       split at hchk
       ·rename_i z hz
        have hzs : z.cells.size=s:=by simpa using hchk
        have hsz : i.size=s:=by simpa [kL,hi] using h4
        have hby : i.bytes=bytes:=by simpa [aBr,hi] using h5
        rw [zM ha,zM ht] at hop
        simp only [evOp] at hev
        split at hev
        ·rename_i ys hys
         exact aKr hs htr hfl hop h1 h2 hu hu' hi hsz hby hz hzs hys hev
        ·cases hev
       ·cases hchk
      ·cases hchk
     ·cases hchk
    ·cases h3
   ·cases hchk
  ·cases hchk
 | appendP s bytes x y =>
  simp only [jY] at hchk
  split at hchk
  ·rename_i as ts
   split at hchk
   ·rename_i x' y' t t' ha ht
    simp only [Bool.and_eq_true] at hchk
    obtain ⟨⟨⟨h1,h2⟩,h3⟩,hchk⟩:=hchk
    split at h3
    ·rename_i e' hu'
     split at hchk
     ·rename_i e hu
      simp only [Bool.and_eq_true] at hchk
      obtain ⟨⟨h4,h5⟩,hchk⟩:=hchk
      split at hchk
      ·rename_i i hi
       split at hchk
       ·rename_i z hz
        have hzs : z.cells.size=s:=by simpa using hchk
        have hsz : i.size=s:=by simpa [kL,hi] using h4
        have hby : i.bytes=bytes:=by simpa [aBr,hi] using h5
        rw [zM ha,zM ht] at hop
        simp only [evOp] at hev
        split at hev
        ·rename_i r hr
         cases hev
         exact aU2 hs htr hop h1 h2 hu hu' hi hsz hby hz hzs hr
        ·cases hev
       ·cases hchk
      ·cases hchk
     ·cases hchk
    ·cases h3
   ·cases hchk
  ·cases hchk
 | appendZ s bytes z x y =>
  simp only [jY] at hchk
  split at hchk
  ·rename_i as ts
   split at hchk
   ·rename_i x' y' t t' ha ht
    simp only [Bool.and_eq_true] at hchk
    obtain ⟨⟨⟨h1,h2⟩,h3⟩,hchk⟩:=hchk
    split at h3
    ·rename_i k hu'
     split at hchk
     ·rename_i e hu
      simp only [Bool.and_eq_true] at hchk
      obtain ⟨⟨h4,h5⟩,h6⟩:=hchk
      rw [zM ha,zM ht] at hop
      simp only [evOp] at hev
      split at hev
      ·rename_i n hn
       split at hev
       ·rename_i hc
        exact aU1 hs htr hfl hop h1 h2 hu hu' h4 h5 h6 hc.1 hn hc.2.1 hc.2.2 hev
       ·cases hev
      ·cases hev
     ·cases hchk
    ·cases h3
   ·cases hchk
  ·cases hchk
 | copy s x y =>
  simp only [jY] at hchk
  split at hchk
  ·rename_i as ts
   split at hchk
   ·rename_i x' y' t t' ha ht
    simp only [Bool.and_eq_true] at hchk
    obtain ⟨⟨h1,h2⟩,hchk⟩:=hchk
    split at hchk
    ·rename_i e hu
     obtain ⟨i,hi,hsz⟩:=kV hchk
     rw [zM ha,zM ht] at hop
     simp only [evOp] at hev
     split at hev
     ·rename_i ys hrd
      split at hev
      ·rename_i hal
       split at hev
       ·rename_i id tot off len hx
        split at hev
        ·rename_i s' es hob
         split at hev
         ·rename_i hc
          obtain ⟨rfl,c2,c3,c4⟩:=hc
          exact bD4 hs htr hop h1 h2 hu hi hsz hrd hal.1 hal.2 hx hob c2 c3 c4 hev
         ·cases hev
        ·cases hev
       ·cases hev
      ·cases hev
     ·cases hev
    ·cases hchk
   ·cases hchk
  ·cases hchk
 | clear s z x =>
  simp only [jY] at hchk
  split at hchk
  ·rename_i as ts
   split at hchk
   ·rename_i x' t ha ht
    simp only [Bool.and_eq_true] at hchk
    obtain ⟨h1,hchk⟩:=hchk
    split at hchk
    ·rename_i e hu
     simp only [Bool.and_eq_true] at hchk
     rw [uA ha,uA ht] at hop
     refine bAd hs htr hop h1 hu hchk.1 hchk.2 ?_
     simp only [evOp] at hev
     split at hev
     ·rename_i hx
      cases hev
      exact .inl ⟨hx,rfl,rfl⟩
     ·rename_i f hx
      cases hev
      exact .inr (.inl ⟨f,hx,rfl,rfl⟩)
     ·rename_i id tot off len hx
      split at hev
      ·rename_i s' es hob
       split at hev
       ·rename_i hc
        obtain ⟨rfl,c2,c3,c4,c5,c6⟩:=hc
        exact .inr (.inr ⟨id,tot,off,len,es,hx,hob,c2,c3,c4,c5,c6,hev⟩)
       ·cases hev
      ·cases hev
     ·cases hev
    ·cases hchk
   ·cases hchk
  ·cases hchk
 | delete kt m k =>
  simp only [jY] at hchk
  split at hchk
  ·rename_i as ts
   split at hchk
   ·rename_i m' k' t ts' ha ht
    simp only [Bool.and_eq_true] at hchk
    obtain ⟨⟨h1,h2⟩,hchk⟩:=hchk
    split at hchk
    ·rename_i kt' e hu
     have : kt=kt':=by simpa using hchk
     subst this
     have ht0 : ts[0]? = some t:=by rw [← Array.getElem?_toList,ht]; rfl
     rw [zM ha] at hop
     simp only [evOp] at hev
     split at hev
     ·rename_i kv id hk hm
      split at hev
      ·rename_i hflid
       split at hev
       ·rename_i ents hob
        split at hev
        ·rename_i u i0 hck hf
         simp only [Option.some.injEq,Prod.mk.injEq] at hev
         obtain ⟨rfl,rfl⟩:=hev
         exact aPi hs htr hop ht0 h1 h2 hu hk hck hflid hm hob (.inl ⟨_,hf,rfl⟩)
        ·rename_i u hck hf
         simp only [Option.some.injEq,Prod.mk.injEq] at hev
         obtain ⟨rfl,rfl⟩:=hev
         have key:=aPi hs htr hop ht0 h1 h2 hu hk hck hflid hm hob (.inr ⟨hf,rfl⟩)
         have e0 : c.H.set id (.mp ents)=c.H:=by
          apply List.ext_getElem?
          intro j
          by_cases hj : j=id
          ·subst hj; rw [getElem?_set_eq' hob,hob]
          ·rw [getElem?_set_ne' hj]
         rw [e0] at key
         exact key
        ·cases hev
       ·cases hev
      ·cases hev
     ·cases hev
    ·cases hchk
   ·cases hchk
  ·cases hchk
 | minmax mx xs =>
  simp only [evOp] at hev
  split at hev
  ·rename_i vs hvs
   split at hev
   ·rename_i r hr
    simp only [Option.some.injEq,Prod.mk.injEq] at hev
    obtain ⟨rfl,rfl⟩:=hev
    simp only [jY] at hchk
    split at hchk
    ·simp only [Bool.and_eq_true] at hchk
     obtain ⟨rfl,h1⟩:=hchk
     exact aPe hs htr hop (.inl rfl) h1 hvs (by simpa using hr)
    ·simp only [Bool.and_eq_true,Bool.not_eq_true'] at hchk
     obtain ⟨rfl,h1⟩:=hchk
     exact aPe hs htr hop (.inr rfl) h1 hvs (by simpa using hr)
    ·cases hchk
   ·cases hev
  ·cases hev
 | mkFn vi caps =>
  simp only [evOp,Option.some.injEq,Prod.mk.injEq] at hev
  obtain ⟨rfl,rfl⟩:=hev
  simp only [jY] at hchk
  split at hchk
  ·rename_i f first cs
   simp only [Bool.and_eq_true,beq_iff_eq] at hchk
   obtain ⟨⟨h1,h2⟩,h3⟩:=hchk
   have : first=#[]:=by simpa using h1
   subst this
   exact bD1 hs htr hop h2 h3
  ·cases hchk
 | call pu vi args =>
  simp only [jY] at hchk
  split at hchk
  ·simp only [Bool.and_eq_true,beq_iff_eq] at hchk
   simp only [evOp] at hev
   exact aWy hcf hfn hs htr hfl hop hchk.1 hchk.2 hev
  ·cases hchk
 | callS vi args =>
  simp only [jY] at hchk
  split at hchk
  ·simp only [Bool.and_eq_true,beq_iff_eq] at hchk
   simp only [evOp] at hev
   split at hev
   ·rename_i r H1 he
    split at hev
    ·rename_i hr
     cases hev
     exact bAg hcf hfn hs htr hop hchk.1 hchk.2 he hr
    ·cases hev
   ·cases hev
  ·cases hchk
 | callF vi args =>
  simp only [jY] at hchk
  split at hchk
  ·simp only [Bool.and_eq_true,beq_iff_eq] at hchk
   simp only [evOp] at hev
   exact bAh hcf hfn hs htr hfl hop hchk.1 hchk.2 hev
  ·cases hchk
 | callB vi args =>
  simp only [jY] at hchk
  split at hchk
  ·simp only [Bool.and_eq_true,beq_iff_eq] at hchk
   simp only [evOp] at hev
   split at hev
   ·rename_i r H1 he
    cases hev
    exact bAi hcf hfn hs htr hop hchk.1 hchk.2 he
   ·cases hev
  ·cases hchk
 | callT s vi args =>
  simp only [jY] at hchk
  split at hchk
  ·simp only [Bool.and_eq_true,beq_iff_eq] at hchk
   simp only [evOp] at hev
   exact bAf hcf hfn hs htr hfl hop hchk.1 hchk.2 hev
  ·cases hchk
 | capS x =>
  simp only [jY] at hchk
  split at hchk
  ·rename_i as ts
   split at hchk
   ·rename_i y t ha ht
    simp only [Bool.and_eq_true] at hchk
    obtain ⟨h1,hchk⟩:=hchk
    split at hchk
    ·rename_i e hu
     rw [uA ha,uA ht] at hop
     simp only [evOp] at hev
     split at hev
     ·rename_i hx
      simp only [Option.some.injEq,Prod.mk.injEq] at hev
      obtain ⟨rfl,rfl⟩:=hev
      exact aWx (n:=0) hs htr hop h1 hu (.inl ⟨hx,rfl⟩)
     ·rename_i es hx
      simp only [Option.some.injEq,Prod.mk.injEq] at hev
      obtain ⟨rfl,rfl⟩:=hev
      exact aWx hs htr hop h1 hu (.inr ⟨_,hx,rfl⟩)
     ·cases hev
    ·cases hchk
   ·cases hchk
  ·cases hchk
 | callv pu x args =>
  simp only [jY] at hchk
  split at hchk
  ·simp only [Bool.and_eq_true] at hchk
   simp only [evOp] at hev
   split at hev
   ·rename_i vi caps hx
    exact bAe hcf hfn hs htr hfl hop hchk.1 hx hchk.2 hev
   ·cases hev
  ·cases hchk
 | extract x i =>
  simp only [jY] at hchk
  split at hchk
  ·simp only [Bool.and_eq_true,beq_iff_eq] at hchk
   obtain ⟨rfl,h1⟩:=hchk
   simp only [evOp] at hev
   split at hev
   ·rename_i vs hx
    split at hev
    ·rename_i u hu
     simp only [Option.some.injEq,Prod.mk.injEq] at hev
     obtain ⟨rfl,rfl⟩:=hev
     exact aUz hs htr hop h1 hx hu
    ·cases hev
   ·cases hev
  ·cases hchk
end
end Go.Proofs.YtapabkfjeiknbaaGreat.Av
namespace Go.Proofs.YtapabkfjeiknbaaGreat.Av
open Go
section
variable {P : Program} {T : List AFun} {cf : Nat→Nat→List AV→Heap→Option (AV × Heap)} {fl : Nat}
theorem TR.put {FT : Nat→Option Nat} {c : Ctx} {tm : List AV} {a : Act} {d : Option Nat} {x : AV} {v : Value} (h : TR FT c tm a.tmps) (hr : RV FT c x v) : TR FT c (putA tm d x) (a.put d v).tmps:=by
 cases d with
 | none=>exact h
 | some d =>
  simp only [putA,Act.put]
  refine ⟨by simpa using h.1,fun t y hy=>?_⟩
  rw [List.getElem?_set] at hy
  split at hy
  ·rename_i hdt
   subst hdt
   split at hy
   ·rename_i hlt
    cases hy
    exact ⟨v,by simp [← h.1,hlt],hr⟩
   ·cases hy
  ·rename_i hdt
   obtain ⟨u,g1,g2⟩:=h.2 t y hy
   exact ⟨u,by rw [Array.getElem?_setIfInBounds_ne hdt]; exact g1,g2⟩
theorem aEs (a : Act) (d : Option Nat) (v : Value) : (a.put d v).defers=a.defers:=by cases d <;> rfl
theorem aHi [GlobT] {c : Ctx} {tm : List AV} {a : Act} {ops : Array Oper} {g : Option (Nat × Bool)} {o : Oper} {b : Bool} (htr : TR (ftOf T) c tm a.tmps) (hg : aG6 ops g o.guard=true) (hw : xP tm g=some b) :
  Region.wanted o (yielded ops a.tmps)=b:=by
 unfold Region.wanted
 cases g with
 | none =>
  cases ho : o.guard with
  | none =>
   simp only [xP,Option.some.injEq] at hw
   exact hw
  | some q=>rw [ho] at hg; simp [aG6] at hg
 | some q =>
  obtain ⟨t,b0⟩:=q
  cases ho : o.guard with
  | none=>rw [ho] at hg; simp [aG6] at hg
  | some q =>
   obtain ⟨j,b1⟩:=q
   rw [ho] at hg
   simp only [aG6,Bool.and_eq_true,beq_iff_eq] at hg
   obtain ⟨rfl,hg⟩:=hg
   split at hg
   ·rename_i p hp
    have hd : p.dst=some t:=by simpa using hg
    simp only [xP] at hw
    have hy : yielded ops a.tmps j=match a.tmps[t]? with | some (.bool b)=>some b | _=>none:=by
     unfold yielded
     simp only [hp,Option.bind_some,hd]
     cases a.tmps[t]? with
     | none=>rfl
     | some v=>cases v <;> rfl
    simp only [hy]
    simp only [dU] at hw
    cases ht : tm[t]? with
    | none =>
     rw [ht] at hw
     simp only [gD] at hw
     have hn : a.tmps[t]? = none:=by
      rw [Array.getElem?_eq_none_iff,← htr.1]
      simpa using ht
     rw [hn]
     cases hw
     rfl
    | some x =>
     rw [ht] at hw
     obtain ⟨v,g1,g2⟩:=htr.2 t x ht
     rw [g1]
     simp only at hw
     split at hw
     ·rename_i bb
      rw [g2.lit_inv]
      cases hw
      cases bb <;> cases b0 <;> rfl
     ·rename_i u hnb
      rw [g2.lit_inv]
      cases hw
      split
      ·rename_i bb hbb
       cases hbb
       exact (hnb bb rfl).elim
      ·rfl
     ·cases hw
   ·cases hg
theorem aH2 [GlobT] (hcf : CfOK P T cf) (hfn : aEj P T) {c : Ctx} {a : Act} {tm : List AV} {ops : Array Oper} {i : Nat} {ao : AOper} {o : Oper} {st' : St} {K : Act→World→Prop} {Q : Exit→Act→World→Prop}
  (hs : Sim (ftOf T) c) (htr : TR (ftOf T) c tm a.tmps) (hfl : fl ≤ c.H.length) (hi : ops[i]? = some o) (hchk : aEd P T ops ao o=true) (hev : jK P cf fl ao ⟨tm,c.H⟩=some st')
  (hK : ∀ a' c',c'.H=st'.heap→Step fl c c'→Sim (ftOf T) c'→TR (ftOf T) c' st'.tmps a'.tmps→a'.defers=a.defers→(∃ x v,st'.tmps=putA tm o.dst x∧a'=a.put o.dst v∧RV (ftOf T) c' x v)→K a' c'.w) :
  wpOp P ops Q i K a c.w:=by
 simp only [aEd,Bool.and_eq_true,beq_iff_eq] at hchk
 obtain ⟨⟨hd,hg⟩,hop⟩:=hchk
 unfold wpOp
 rw [hi]
 simp only
 unfold jK at hev
 rw [hd] at hev
 split at hev
 ·rename_i hw
  rw [aHi htr hg hw]
  simp only [if_true]
  split at hev
  ·rename_i v H he
   cases hev
   left
   refine aVf hcf hfn hs htr hfl hop he K Q ?_
   intro cv c' h1 h2 h3 h4
   exact hK _ c' h1 h2 h3 ((htr.step h2).put h4) (aEs _ _ _) ⟨v,cv,rfl,rfl,h4⟩
  ·cases hev
 ·rename_i hw
  rw [aHi htr hg hw]
  simp only [Bool.false_eq_true,if_false]
  cases hev
  exact hK _ c rfl (Step.refl _ _) hs (htr.put (RV.lit _)) (aEs _ _ _) ⟨_,_,rfl,rfl,RV.lit _⟩
 ·cases hev
theorem aWp [GlobT] (hcf : CfOK P T cf) (hfn : aEj P T) {ops : Array Oper} {Q : Exit→Act→World→Prop} : ∀ (aops : List AOper) (os : List Oper) (k : Nat) (c : Ctx) (a : Act) (tm : List AV) (st' : St),
  aC1 P T ops aops os=true→(∀ j o,os[j]? = some o→ops[k + j]? = some o)→Sim (ftOf T) c→TR (ftOf T) c tm a.tmps→fl ≤ c.H.length→yW P cf fl aops ⟨tm,c.H⟩=some st' →
  (∀ a' c',c'.H=st'.heap→Step fl c c'→Sim (ftOf T) c'→TR (ftOf T) c' st'.tmps a'.tmps→a'.defers=a.defers→Q .normal a' c'.w)→wpOps P ops Q (List.range' k aops.length) a c.w
 | [],[],k,c,a,tm,st',_,_,hs,htr,_,hev,hQ=>by
  simp only [yW,Option.some.injEq] at hev
  subst hev
  exact hQ a c rfl (Step.refl _ _) hs htr rfl
 | ao :: r,o :: os,k,c,a,tm,st',hchk,hops,hs,htr,hfl,hev,hQ=>by
  simp only [aC1,Bool.and_eq_true] at hchk
  simp only [yW] at hev
  split at hev
  ·rename_i st1 h1
   simp only [List.length_cons,List.range'_succ,wpOps_cons]
   refine aH2 hcf hfn hs htr hfl (hops 0 o (by simp)) hchk.1 h1 ?_
   intro a' c' e1 e2 e3 e4 e5 _
   have : (⟨st1.tmps,c'.H⟩ : St)=st1:=by rw [e1]
   refine aWp hcf hfn r os (k + 1) c' a' st1.tmps st' hchk.2 (fun j p hp=>?_) e3 e4 (Nat.le_trans hfl e2.len) (by rw [this]; exact hev) ?_
   ·have:=hops (j + 1) p (by simpa using hp)
    rwa [show k + (j + 1)=k + 1 + j by omega] at this
   ·intro a'' c'' f1 f2 f3 f4 f5
    exact hQ a'' c'' f1 (e2.trans f2) f3 f4 (f5.trans e5)
  ·cases hev
 | [],_ :: _,_,_,_,_,_,hchk,_,_,_,_,_,_=>by cases hchk
 | _ :: _,[],_,_,_,_,_,hchk,_,_,_,_,_,_=>by cases hchk
end
end Go.Proofs.YtapabkfjeiknbaaGreat.Av
namespace Go.Proofs.YtapabkfjeiknbaaGreat.Av
open Go
section
variable {P : Program} {T : List AFun} {cf : Nat→Nat→List AV→Heap→Option (AV × Heap)} {fl : Nat}
theorem aMg [GlobT] {t : Nat} : ∀ {xs : List AOpd},AOpd.tmp t ∈ xs→t ∈ aIn xs
 | x :: r,h=>by
  rcases List.mem_cons.1 h with e | h'
  ·subst e; simp [aIn]
  ·have ih:=aMg h'
   cases x <;> simp [aIn,ih]
theorem aPt [GlobT] {tm tm' : List AV} {xs : List AOpd} (h : ∀ t ∈ aIn xs,tm[t]? = tm'[t]?) : ∀ x ∈ xs,dU tm x=dU tm' x:=by
 intro x hx
 cases x with
 | tmp t=>simp only [dU,h t (aMg hx)]
 | _=>rfl
theorem yE [GlobT] {tm tm' : List AV} {x : Option AOpd} (h : ∀ y ∈ optL x,dU tm y=dU tm' y) : tH tm x=tH tm' x:=by
 cases x with
 | none=>rfl
 | some y=>simp only [tH,h y (by simp [optL])]
theorem aVh [GlobT] {tm tm' : List AV} {H : Heap} {op : AOp} (h : ∀ x ∈ aFa op,dU tm x=dU tm' x) : evOp P cf fl op tm H=evOp P cf fl op tm' H:=by
 cases op with
 | build z ps =>
  have e : (ps.map fun (p : Nat × Nat × AOpd)=>(p.1,p.2.1,dU tm p.2.2))=ps.map fun (p : Nat × Nat × AOpd)=>(p.1,p.2.1,dU tm' p.2.2):=by
   apply List.map_congr_left
   intro p hp
   rw [h p.2.2 (by simp only [aFa,List.mem_map]; exact ⟨p,hp,rfl⟩)]
  simp only [evOp]
  have e' : (ps.map fun (o,s,x)=>(o,s,dU tm x))=ps.map fun (o,s,x)=>(o,s,dU tm' x):=e
  rw [e']
 | buildSl pu s n z ps =>
  have e' : (ps.map fun (i,x)=>(i,dU tm x))=ps.map fun (i,x)=>(i,dU tm' x):=by
   apply List.map_congr_left
   intro p hp
   show (p.1,dU tm p.2)=(p.1,dU tm' p.2)
   rw [h p.2 (by simp only [aFa,List.mem_map]; exact ⟨p,hp,rfl⟩)]
  simp only [evOp]
  rw [e']
 | slice s x lo hi mx =>
  simp only [aFa] at h
  simp only [evOp]
  rw [h x (by simp),yE (fun y hy=>h y (by simp [hy])),yE (x:=hi) (fun y hy=>h y (by simp [hy])),yE (x:=mx) (fun y hy=>h y (by simp [hy]))]
 | strSlice t x lo hi =>
  simp only [aFa] at h
  simp only [evOp]
  rw [h x (by simp),yE (fun y hy=>h y (by simp [hy])),yE (x:=hi) (fun y hy=>h y (by simp [hy]))]
 | minmax mx xs =>
  simp only [aFa] at h
  simp only [evOp]
  rw [List.map_congr_left h]
 | mkFn vi xs =>
  simp only [aFa] at h
  simp only [evOp]
  rw [List.map_congr_left h]
 | call pu vi xs =>
  simp only [aFa] at h
  simp only [evOp]
  rw [List.map_congr_left h]
 | callF vi xs =>
  simp only [aFa] at h
  simp only [evOp]
  rw [List.map_congr_left h]
 | callT s vi xs =>
  simp only [aFa] at h
  simp only [evOp]
  rw [List.map_congr_left h]
 | callB vi xs =>
  simp only [aFa] at h
  simp only [evOp]
  rw [List.map_congr_left h]
 | callS vi xs =>
  simp only [aFa] at h
  simp only [evOp]
  rw [List.map_congr_left h]
 | callv pu x xs =>
  simp only [aFa] at h
  simp only [evOp]
  rw [h x (by simp),List.map_congr_left (fun y hy=>h y (by simp [hy]))]
 | _ =>
  simp only [aFa,List.mem_cons,List.not_mem_nil,or_false,forall_eq_or_imp,forall_eq,false_imp_iff,implies_true] at h
  simp [evOp,h]
theorem aQx [GlobT] {tm tm' : List AV} {g : Option (Nat × Bool)} (h : ∀ t b,g=some (t,b)→tm[t]? = tm'[t]?) : xP tm g=xP tm' g:=by
 cases g with
 | none=>rfl
 | some q =>
  obtain ⟨t,b⟩:=q
  simp only [xP,dU,h t b rfl]
theorem aIt [GlobT] {tm tm' : List AV} {H : Heap} {o : AOper} {st' : St} (h : ∀ t ∈ aKt o,tm[t]? = tm'[t]?) (hev : jK P cf fl o ⟨tm',H⟩=some st') :
  ∃ x,st'.tmps=putA tm' o.dst x∧jK P cf fl o ⟨tm,H⟩=some ⟨putA tm o.dst x,st'.heap⟩:=by
 have h1 : xP tm o.guard=xP tm' o.guard:=aQx fun t b hg=>h t (by simp [aKt,hg])
 have h2 : evOp P cf fl o.op tm H=evOp P cf fl o.op tm' H:=aVh (aPt fun t ht=>h t (by
  unfold aKt
  split
  ·simp [ht]
  ·exact ht))
 unfold jK at hev ⊢
 simp only [h1,h2] at hev ⊢
 split at hev
 ·split at hev
  ·rename_i v H1 he
   cases hev
   exact ⟨v,rfl,rfl⟩
  ·cases hev
 ·cases hev
  exact ⟨_,rfl,rfl⟩
 ·cases hev
theorem aMt [GlobT] {tm : List AV} {H H' : Heap} {op : AOp} {v : AV} (hq : pD op=true) (hev : evOp P cf fl op tm H=some (v,H')) : H'=H:=by
 cases op with
 | call pu vi xs =>
  simp only [pD] at hq
  subst hq
  simp only [evOp,yM] at hev
  split at hev <;> split at hev <;> cases hev <;> rfl
 | callv pu x xs =>
  simp only [pD] at hq
  subst hq
  simp only [evOp,yM] at hev
  split at hev
  ·split at hev <;> split at hev <;> cases hev <;> rfl
  ·cases hev
 | buildSl pu s n z ps =>
  simp only [pD] at hq
  subst hq
  simp only [evOp,if_true] at hev
  split at hev <;> cases hev
  rfl
 | lookup kt z m k ok =>
  simp only [evOp] at hev
  split at hev
  ·split at hev
   ·split at hev
    ·split at hev <;> cases hev
     rfl
    ·cases hev; rfl
    ·cases hev
   ·split at hev
    ·split at hev
     ·split at hev <;> cases hev
      rfl
     ·cases hev; rfl
     ·cases hev
    ·cases hev
   ·split at hev
    ·split at hev <;> cases hev
     rfl
    ·cases hev; rfl
    ·cases hev
   ·cases hev
  ·cases hev
 | _ =>
  first
  | (simp [pD] at hq; done)
  | (simp only [evOp] at hev; (repeat' split at hev) <;> first | (cases hev; rfl) | cases hev)
theorem aIs [GlobT] {st st' : St} {o : AOper} (hq : pD o.op=true) (hev : jK P cf fl o st=some st') : st'.heap=st.heap:=by
 unfold jK at hev
 split at hev
 ·split at hev
  ·rename_i v H he
   cases hev
   exact aMt hq he
  ·cases hev
 ·cases hev; rfl
 ·cases hev
theorem aSs [GlobT] : ∀ (aops : List AOper) (st st' : St),yW P cf fl aops st=some st' →
  ∃ S : Nat→St,S 0=st∧S aops.length=st'∧∀ k ao,aops[k]? = some ao→jK P cf fl ao (S k)=some (S (k + 1))
 | [],st,st',h=>by
  simp only [yW,Option.some.injEq] at h
  exact ⟨fun _=>st,rfl,h,fun k ao hk=>by simp at hk⟩
 | o :: r,st,st',h=>by
  simp only [yW] at h
  split at h
  ·rename_i st1 h1
   obtain ⟨S,e1,e2,e3⟩:=aSs r st1 st' h
   refine ⟨fun k=>match k with | 0=>st | k + 1=>S k,rfl,by simpa using e2,fun k ao hk=>?_⟩
   cases k with
   | zero =>
    simp only [List.getElem?_cons_zero,Option.some.injEq] at hk
    subst hk
    rw [h1,← e1]
   | succ k =>
    simp only [List.getElem?_cons_succ] at hk
    exact e3 k ao hk
  ·cases h
def dstA (aops : List AOper) (k : Nat) : Option Nat:=match aops[k]? with | some o=>o.dst | none=>none
def zT (aops : List AOper) (tm : List AV) (val : Nat→AV) (D : Nat→Bool) : Nat→List AV
 | 0=>tm
 | n + 1=>if D n then putA (zT aops tm val D n) (dstA aops n) (val n) else zT aops tm val D n
theorem aKd (tm : List AV) (d : Option Nat) (x : AV) : (putA tm d x).length=tm.length:=by cases d <;> simp [putA]
theorem nI [GlobT] {aops : List AOper} {tm : List AV} {val : Nat→AV} {D : Nat→Bool} : ∀ n,(zT aops tm val D n).length=tm.length
 | 0=>rfl
 | n + 1=>by
  simp only [zT]
  split
  ·rw [aKd,nI n]
  ·exact nI n
theorem aCj {tm : List AV} {d : Option Nat} {x : AV} {t : Nat} : (putA tm d x)[t]? = if d=some t then (if t < tm.length then some x else none) else tm[t]?:=by
 cases d with
 | none=>simp [putA]
 | some d =>
  simp only [putA,List.getElem?_set,Option.some.injEq]
  by_cases e : d=t
  ·subst e; rfl
  ·simp [e]
theorem aGc [GlobT] {aops : List AOper} {tm : List AV} {val : Nat→AV} {D D' : Nat→Bool} {t : Nat} : ∀ n,(∀ j,j < n→dstA aops j=some t→D j=D' j)→(zT aops tm val D n)[t]? = (zT aops tm val D' n)[t]?
 | 0,_=>rfl
 | n + 1,h=>by
  have ih:=aGc (val:=val) (tm:=tm) n fun j hj hd=>h j (by omega) hd
  simp only [zT]
  by_cases hd : dstA aops n=some t
  ·rw [h n (by omega) hd]
   split
   ·simp only [aCj,hd,if_true,nI]
   ·exact ih
  ·have hne : ∀ l : List AV,(putA l (dstA aops n) (val n))[t]? = l[t]?:=fun l=>by rw [aCj,if_neg hd]
   split <;> split <;> (try simp only [hne]) <;> exact ih
theorem aK9 [GlobT] {aops : List AOper} {tm : List AV} {val : Nat→AV} {D D' : Nat→Bool} : ∀ n,(∀ j,j < n→D j=D' j)→zT aops tm val D n=zT aops tm val D' n
 | 0,_=>rfl
 | n + 1,h=>by
  simp only [zT,h n (by omega),aK9 n fun j hj=>h j (by omega)]
theorem aMo [GlobT] {aops : List AOper} {tm : List AV} {val : Nat→AV} {D : Nat→Bool} {t k : Nat} (hD : D k=true) (hd : dstA aops k=some t) : ∀ n,k < n→(∀ j,k < j→j < n→dstA aops j=some t→D j=false) →
  (zT aops tm val D n)[t]? = if t < tm.length then some (val k) else none
 | 0,h,_=>by omega
 | n + 1,hk,h=>by
  simp only [zT]
  by_cases e : k=n
  ·subst e
   rw [if_pos hD,aCj,if_pos hd,nI]
  ·have ih:=aMo (tm:=tm) (val:=val) hD hd n (by omega) fun j h1 h2 h3=>h j h1 (by omega) h3
   by_cases hdn : dstA aops n=some t
   ·rw [h n (by omega) (by omega) hdn]
    simpa using ih
   ·split
    ·rw [aCj,if_neg hdn]; exact ih
    ·exact ih
theorem aG3 [GlobT] {aops : List AOper} {tm : List AV} {val : Nat→AV} {S : Nat→St} (h0 : (S 0).tmps=tm) (hS : ∀ k ao,aops[k]? = some ao→(S (k + 1)).tmps=putA (S k).tmps ao.dst (val k)) :
  ∀ n,n ≤ aops.length→zT aops tm val (fun _=>true) n=(S n).tmps
 | 0,_=>h0.symm
 | n + 1,h=>by
  have hn : n < aops.length:=by omega
  simp only [zT,if_true,aG3 h0 hS n (by omega)]
  rw [hS n aops[n] (by simp)]
  simp [dstA,hn]
theorem aGb [GlobT] {aops : List AOper} {tm : List AV} {val : Nat→AV} {D : Nat→Bool} {k : Nat} : ∀ n,k ≤ n→(∀ j,k ≤ j→j < n→D j=false)→zT aops tm val D n=zT aops tm val D k
 | 0,h,_=>by have : k=0:=(by omega); rw [this]
 | n + 1,h,hD=>by
  by_cases e : k=n + 1
  ·rw [e]
  ·simp only [zT,hD n (by omega) (by omega)]
   simpa using aGb n (by omega) fun j h1 h2=>hD j h1 (by omega)
theorem aIr [GlobT] {aops : List AOper} {tm : List AV} {val : Nat→AV} {S : Nat→St} {D : Nat→Bool} {k n : Nat} (h0 : (S 0).tmps=tm) (hS : ∀ k ao,aops[k]? = some ao→(S (k + 1)).tmps=putA (S k).tmps ao.dst (val k))
  (hk : k ≤ n) (hn : n ≤ aops.length) (h1 : ∀ j,j < k→D j=true) (h2 : ∀ j,k ≤ j→j < n→D j=false) : zT aops tm val D n=(S k).tmps:=by
 rw [aGb n hk h2,aK9 (D':=fun _=>true) k h1]
 exact aG3 h0 hS k (by omega)
theorem aPd [GlobT] {acc : List Nat} {i : Nat} : ∀ {ds : List Nat},(aNl acc ds).testBit i=true→∃ d ∈ ds,i=d ∨ (acc.getD d 0).testBit i=true
 | [],h=>by simp [aNl] at h
 | d :: r,h=>by
  simp only [aNl,Nat.testBit_or,Bool.or_eq_true] at h
  rcases h with (h | h) | h
  ·have : d=i:=by simpa [Nat.testBit_two_pow] using h
   exact ⟨d,by simp,.inl this.symm⟩
  ·exact ⟨d,by simp,.inr h⟩
  ·obtain ⟨e,h1,h2⟩:=aPd h
   exact ⟨e,by simp [h1],h2⟩
def dsOf (ops : List Oper) (k : Nat) : List Nat:=match ops[k]? with
 | some o=>(o.after.toList.filter fun e=>Region.binds .any e && decide (e.on < k)).map fun (e : Edge)=>e.on
 | none=>[]
theorem aQr [GlobT] {ops : List Oper} : ∀ (n : Nat) (acc : List Nat),(∃ L,ancs ops n acc=acc++L∧L.length=n) ∧
  ∀ k,acc.length ≤ k→k < acc.length + n→(ancs ops n acc).getD k 0=aNl ((ancs ops n acc).take k) (dsOf ops k)
 | 0,acc=>⟨⟨[],by simp [ancs],rfl⟩,fun k h1 h2=>by omega⟩
 | n + 1,acc=>by
  obtain ⟨⟨L,h1,h2⟩,h3⟩:=aQr (ops:=ops) n (acc++[aNl acc (dsOf ops acc.length)])
  have e : ancs ops (n + 1) acc=ancs ops n (acc++[aNl acc (dsOf ops acc.length)]):=rfl
  rw [e]
  refine ⟨⟨aNl acc (dsOf ops acc.length) :: L,by rw [h1]; simp,by simp [h2]⟩,fun k hk1 hk2=>?_⟩
  by_cases ek : k=acc.length
  ·subst ek
   rw [h1]
   simp [List.getD_eq_getElem?_getD]
  ·exact h3 k (by simp; omega) (by simp; omega)
theorem aUf [GlobT] {ops : List Oper} {k i : Nat} (hk : k < ops.length) (h : ((ancs ops ops.length []).getD k 0).testBit i=true) :
  ∃ o,ops[k]? = some o∧∃ e ∈ o.after,Region.binds .any e=true∧e.on < k∧(i=e.on ∨ ((ancs ops ops.length []).getD e.on 0).testBit i=true):=by
 obtain ⟨_,h3⟩:=aQr (ops:=ops) ops.length []
 rw [h3 k (by simp) (by simpa using hk)] at h
 obtain ⟨d,hd,hi⟩:=aPd h
 unfold dsOf at hd
 rw [List.getElem?_eq_getElem hk] at hd
 simp only [List.mem_map,List.mem_filter,Bool.and_eq_true,decide_eq_true_eq] at hd
 obtain ⟨e,⟨he,hb,hlt⟩,rfl⟩:=hd
 refine ⟨ops[k],List.getElem?_eq_getElem hk,e,by simpa using he,hb,hlt,?_⟩
 rcases hi with hi | hi
 ·exact .inl hi
 ·right
  rw [← hi]
  congr 1
  simp only [List.getD_eq_getElem?_getD]
  rw [List.getElem?_take,if_pos hlt]
theorem oV [GlobT] {sw : Nat} {aops : List AOper} {an : List Nat} : ∀ n,aKo sw aops an n=true→∀ i j,i < j→j < n→(an.getD j 0).testBit i=true ∨
  (((gR aops i=true ∨ gR aops j=true) ∨ (i=sw∧j=sw + 1∧pN aops i=true∧pN aops j=true))∧∃ x y,aops[i]? = some x∧aops[j]? = some y∧aL8 x y=false∧aL8 y x=false)
 | 0,_,i,j,_,h=>by omega
 | n + 1,h,i,j,hij,hj=>by
  simp only [aKo,Bool.and_eq_true] at h
  by_cases e : j=n
  ·subst e
   have:=List.all_eq_true.1 h.2 i (by simpa using hij)
   simp only [Bool.or_eq_true,Bool.and_eq_true,beq_iff_eq] at this
   rcases this with h1 | ⟨h1,h2⟩
   ·exact .inl h1
   ·right
    refine ⟨by rcases h1 with h1 | ⟨⟨⟨h1,h3⟩,h4⟩,h5⟩; exact .inl h1; exact .inr ⟨h1,h3,h4,h5⟩,?_⟩
    split at h2
    ·rename_i x y hx hy
     simp only [Bool.and_eq_true,Bool.not_eq_true'] at h2
     exact ⟨x,y,hx,hy,h2.1,h2.2⟩
    ·cases h2
  ·exact oV n h.1 i j hij (by omega)
theorem aJ1 {aops : List AOper} {ck : List (Nat × Nat)} {an : List Nat} {n k m : Nat} (h : aVv aops ck an n=true) (hk : k < n) (hm : m < n) (hkq : gR aops k=true) (hmq : gR aops m=false) :
  tG aops k=true ∨ (an.getD k 0).testBit m=true ∨ (an.getD m 0).testBit k=true ∨ (k,m) ∈ ck:=by
 have h1:=List.all_eq_true.1 h k (by simpa using hk)
 simp only [Bool.or_eq_true,hkq,Bool.not_true,Bool.false_eq_true,or_false] at h1
 rcases h1 with h1 | h1
 ·exact .inl h1
 ·have h2:=List.all_eq_true.1 h1 m (by simpa using hm)
  simp only [Bool.or_eq_true,hmq,Bool.false_eq_true,false_or] at h2
  rcases h2 with (h2 | h2) | h2
  ·exact .inr (.inl h2)
  ·exact .inr (.inr (.inl h2))
  ·exact .inr (.inr (.inr (by simpa using h2)))
theorem aIu [GlobT] {tm : List AV} {H H' : Heap} {op : AOp} {v : AV} {H1 : Heap} (hq : aB8 op=true) (hev : evOp P cf fl op tm H=some (v,H1)) : evOp P cf fl op tm H'=some (v,H'):=by
 cases op with
 | buildSl pu s n z ps =>
  simp only [aB8] at hq
  subst hq
  simp only [evOp,if_true] at hev ⊢
  split at hev <;> cases hev
  rfl
 | _ =>
  first
  | (simp [aB8] at hq; done)
  | (simp only [evOp] at hev ⊢; (repeat' split at hev) <;> first | (cases hev; rfl) | (cases hev; simp_all) | cases hev)
theorem aNp {H H' : Heap} {x : AV} {n : Nat} (h : ∀ id,aRl x=some id→H'[id]? = H[id]?) : uT H' x n=uT H x n:=by
 cases x <;> try rfl
 rename_i id tot idx off
 simp only [uT,h id rfl]
theorem aOy {H H' : Heap} {s : Nat} {x : AV} {lo hi mx : Option Nat} (h : ∀ id,aRl x=some id→H'[id]? = H[id]?) : aBy H' s x lo hi mx=aBy H s x lo hi mx:=by
 cases x with
 | ms id tot off len=>simp only [aBy,h id rfl]
 | lit v=>unfold aBy; split <;> rename_i h1 <;> first | rfl | cases h1
 | _=>rfl
theorem aJ8 {H H' : Heap} {x : AV} (h : aMe x=true) : jX H 0 x=jX H' 0 x:=by
 cases x with
 | fn v caps=>cases caps <;> rfl
 | _=>first | rfl | (simp [aMe] at h)
theorem aQ7 [GlobT] {H H' : Heap} {x : AV} (h : aKl x=true) : qM H 0 x=qM H' 0 x:=by
 cases x with
 | agg cs =>
  simp only [aKl] at h
  simp only [qM]
  congr 1
  exact List.map_congr_left fun y hy=>aJ8 (aH1 h y hy)
 | _=>exact aJ8 (H:=H) (H':=H') (by simpa [aKl] using h)
theorem aC0 [GlobT] {tm : List AV} {H H' : Heap} {op : AOp} {v : AV} {H1 : Heap} {r : Option Nat} (hq : mT op tm=some r) (hr : ∀ id,r=some id→H'[id]? = H[id]?) (hev : evOp P cf fl op tm H=some (v,H1)) : evOp P cf fl op tm H'=some (v,H'):=by
 cases op with
 | load agg n x =>
  simp only [mT,Option.some.injEq] at hq
  simp only [evOp,aNp (H:=H) (H':=H') (x:=dU tm x) (fun id h=>hr id (by rw [← hq]; exact h))] at hev ⊢
  split at hev
  ·split at hev
   ·cases hev; simp_all
   ·split at hev
    ·cases hev; simp_all
    ·cases hev
  ·cases hev
 | idxAddr s x i =>
  simp only [mT,Option.some.injEq] at hq
  simp only [evOp] at hev ⊢
  split at hev
  ·split at hev
   ·split at hev
    ·split at hev
     ·cases hev; simp_all
     ·cases hev
    ·cases hev
   ·split at hev
    ·split at hev
     ·cases hev; simp_all
     ·cases hev
    ·cases hev
   ·rename_i id tot off len hx
    rw [hr id (by rw [← hq,hx]; rfl)]
    split at hev
    ·split at hev
     ·cases hev; simp_all
     ·cases hev
    ·cases hev
   ·cases hev
  ·cases hev
 | slice s x lo hi mx =>
  simp only [mT,Option.some.injEq] at hq
  simp only [evOp,aOy (H:=H) (H':=H') (x:=dU tm x) (fun id h=>hr id (by rw [← hq]; exact h))] at hev ⊢
  split at hev
  ·split at hev
   ·cases hev; simp_all
   ·cases hev
  ·cases hev
 | lookup kt z m k ok =>
  simp only [mT,Option.some.injEq] at hq
  simp only [evOp] at hev ⊢
  split at hev
  ·rename_i kv hkv
   split at hev
   ·rename_i hm
    split at hev
    ·split at hev <;> cases hev
     simp_all
    ·cases hev; simp_all
    ·cases hev
   ·rename_i id hm
    rw [hr id (by rw [← hq,hm]; rfl)]
    split at hev
    ·rename_i ents hob
     split at hev
     ·split at hev <;> cases hev
      simp_all
     ·cases hev; simp_all
     ·cases hev
    ·cases hev
   ·rename_i hm
    split at hev
    ·split at hev <;> cases hev
     simp_all
    ·cases hev; simp_all
    ·cases hev
   ·cases hev
  ·cases hev
 | lenM x =>
  simp only [mT,Option.some.injEq] at hq
  simp only [evOp] at hev ⊢
  split at hev
  ·cases hev; simp_all
  ·rename_i id hx
   rw [hr id (by rw [← hq,hx]; rfl)]
   split at hev
   ·cases hev; simp_all
   ·cases hev
  ·cases hev; simp_all
  ·cases hev
 | call pu vi args =>
  cases pu with
  | false=>simp [mT] at hq
  | true =>
   simp only [mT] at hq
   split at hq
   ·rename_i hp
    simp only [evOp,yM,hp] at hev ⊢
    split at hev <;> cases hev
    simp_all
   ·cases hq
 | callS vi args =>
  simp only [mT] at hq
  split at hq
  ·rename_i hp
   have e : (args.map (dU tm)).map (qM H' 0)=(args.map (dU tm)).map (qM H 0):=List.map_congr_left fun y hy=>aQ7 (aD3 hp y hy)
   simp only [evOp,e] at hev ⊢
   split at hev
   ·rename_i r H2 he
    split at hev
    ·rename_i hr
     cases hev
     simp [he,hr]
    ·cases hev
   ·cases hev
  ·cases hq
 | callv pu x args =>
  cases pu with
  | false=>simp [mT] at hq
  | true =>
   simp only [mT] at hq
   split at hq
   ·rename_i vi caps hx
    split at hq
    ·rename_i hp
     simp only [evOp,hx,yM,hp] at hev ⊢
     split at hev <;> cases hev
     simp_all
    ·cases hq
   ·cases hq
 | _=>simp [mT] at hq
theorem aMm {s : Nat} {H H' : Heap} {r : AV} {q : Option (AV × Heap)} (h : aKv s H q=some (r,H')) : ∃ o,H'=H++[o]:=by
 unfold aKv at h
 repeat' split at h
 all_goals first
  | (cases h; done)
  | (cases h; exact ⟨_,rfl⟩)
theorem aY1 {a b : Nat} (h : Nat.blt a b=true) : a < b:=Nat.le_of_ble_eq_true h
theorem aCw [GlobT] {H : Heap} {L : List AObj} {id : Nat} (h : Nat.blt id H.length=true) : (H++L)[id]? = H[id]?:=List.getElem?_append_left (aY1 h)
theorem aK7 {H : Heap} {o : AObj} {i id : Nat} (h : (!Nat.beq i id)=true) : (H.set i o)[id]? = H[id]?:=by
 have : i ≠ id:=by
  intro e
  subst e
  simp at h
 rw [List.getElem?_set_ne this]
theorem aOf [GlobT] {H H' : Heap} {s bytes id : Nat} {x r : AV} {ys : List (List AV)} (hk : (match x with | .ms i _ _ _=>!Nat.beq i id | _=>Nat.blt id H.length)=true) (hev : iE fl H s bytes x ys=some (r,H')) : H'[id]? = H[id]?:=by
 unfold iE at hev
 split at hev
 ·split at hev
  ·split at hev <;> cases hev
   ·rfl
   ·exact aCw hk
  ·split at hev
   ·cases hev; rfl
   ·split at hev <;> cases hev
    exact aCw hk
  ·split at hev
   ·split at hev
    ·split at hev
     ·cases hev; rfl
     ·split at hev
      ·split at hev
       ·cases hev; exact aK7 hk
       ·split at hev
        ·cases hev; exact aK7 hk
        ·cases hev
      ·cases hev
    ·cases hev
   ·cases hev
  ·cases hev
 ·cases hev
def FlOK (cf : Nat→Nat→List AV→Heap→Option (AV × Heap)) : Prop:=∀ fl vi args H r H',fl ≤ H.length→cf fl vi args H=some (r,H')→H'.take fl=H.take fl∧fl ≤ H'.length
theorem aVg [GlobT] (hfo : FlOK cf) {tm : List AV} {H H' : Heap} {op : AOp} {v : AV} {id : Nat} (hk : aMl op tm H.length id=true) (hev : evOp P cf fl op tm H=some (v,H')) : H'[id]? = H[id]?:=by
 cases op with
 | alloc z=>simp only [evOp] at hev; cases hev; exact aCw hk
 | claim s=>simp only [evOp] at hev; cases hev; exact aCw hk
 | allocC z cl=>simp only [evOp] at hev; cases hev; rw [List.append_assoc]; exact aCw hk
 | box x =>
  simp only [evOp] at hev
  split at hev <;> cases hev
  exact aCw hk
 | buildSl pu s n z ps =>
  simp only [evOp] at hev
  split at hev
  ·split at hev <;> cases hev
   ·rfl
   ·exact aCw hk
  ·cases hev
 | mkSlice s z b l c =>
  simp only [evOp] at hev
  split at hev
  ·split at hev <;> cases hev
   exact aCw hk
  ·cases hev
 | mkMap=>simp only [evOp] at hev; cases hev; exact aCw hk
 | callT s vi args =>
  simp only [evOp] at hev
  obtain ⟨o,rfl⟩:=aMm hev
  exact List.getElem?_append_left (aY1 hk)
 | callF vi args =>
  simp only [evOp] at hev
  obtain ⟨h1,h2⟩:=hfo _ _ _ _ _ _ (Nat.le_refl _) hev
  have hlt:=aY1 hk
  have : (H'.take H.length)[id]? = (H.take H.length)[id]?:=by rw [h1]
  rw [List.getElem?_take,List.getElem?_take,if_pos hlt,if_pos hlt] at this
  exact this
 | store n x u =>
  simp only [aMl] at hk
  simp only [evOp] at hev
  split at hev
  ·split at hev
   ·split at hev
    ·rename_i H2 hst
     cases hev
     unfold aDs at hst
     split at hst
     ·rename_i i tot idx off hx
      rw [hx] at hk
      split at hst
      ·split at hst
       ·split at hst
        ·split at hst
         ·split at hst <;> cases hst
          exact aK7 hk
         ·cases hst
        ·cases hst
       ·cases hst
      ·cases hst
     ·cases hst
    ·cases hev
   ·cases hev
  ·cases hev
 | append s b x y =>
  simp only [aMl] at hk
  simp only [evOp] at hev
  split at hev
  ·exact aOf hk hev
  ·cases hev
 | mapUpd kt m k x =>
  simp only [aMl] at hk
  simp only [evOp] at hev
  split at hev
  ·rename_i kv i h1 h2
   rw [h2] at hk
   split at hev
   ·split at hev
    ·split at hev
     ·split at hev
      ·split at hev <;> cases hev
       exact aK7 hk
      ·cases hev
     ·cases hev; exact aK7 hk
     ·cases hev
    ·cases hev
   ·cases hev
  ·cases hev
 | _=>simp [aMl] at hk
theorem aGe {x y : AOper} {d : Nat} (h : aL8 x y=false) (hd : x.dst=some d) : d ∉ aKt y∧y.dst ≠ some d:=by
 unfold aL8 at h
 rw [hd] at h
 simp only [Bool.or_eq_false_iff,beq_eq_false_iff_ne,ne_eq] at h
 refine ⟨fun hm=>?_,h.2⟩
 have : (aKt y).contains d=true:=by simpa using hm
 rw [this] at h
 cases h.1
def Fr (fl : Nat) (H H' : Heap) : Prop:=H'.take fl=H.take fl∧fl ≤ H'.length
theorem Fr.refl {H : Heap} (h : fl ≤ H.length) : Fr fl H H:=⟨rfl,h⟩
theorem Fr.trans {a b c : Heap} (h : Fr fl a b) (k : Fr fl b c) : Fr fl a c:=⟨k.1.trans h.1,k.2⟩
theorem Fr.app {H L : Heap} (h : fl ≤ H.length) : Fr fl H (H++L):=⟨List.take_append_of_le_length h,by simp; omega⟩
theorem Fr.set {H : Heap} {i : Nat} {o : AObj} (h : fl ≤ H.length) (hi : fl ≤ i) : Fr fl H (H.set i o):=⟨List.take_set_of_le hi,by simpa using h⟩
theorem aM1 [GlobT] {H H' : Heap} {s bytes : Nat} {x r : AV} {ys : List (List AV)} (h : fl ≤ H.length) (hev : iE fl H s bytes x ys=some (r,H')) : Fr fl H H':=by
 unfold iE at hev
 split at hev
 ·split at hev
  ·split at hev <;> cases hev
   ·exact .refl h
   ·exact .app h
  ·split at hev
   ·cases hev; exact .refl h
   ·split at hev <;> cases hev
    exact .app h
  ·split at hev
   ·split at hev
    ·split at hev
     ·cases hev; exact .refl h
     ·split at hev
      ·rename_i hi
       split at hev
       ·cases hev; exact .set h hi
       ·split at hev
        ·cases hev; exact .set h hi
        ·cases hev
      ·cases hev
    ·cases hev
   ·cases hev
  ·cases hev
 ·cases hev
theorem aYa [GlobT] (hfo : FlOK cf) {tm : List AV} {H H' : Heap} {op : AOp} {v : AV} (h : fl ≤ H.length) (hev : evOp P cf fl op tm H=some (v,H')) : Fr fl H H':=by
 by_cases hq : pD op=true
 ·rw [aMt hq hev]; exact .refl h
 ·cases op with
  | alloc z=>simp only [evOp] at hev; cases hev; exact .app h
  | claim s=>simp only [evOp] at hev; cases hev; exact .app h
  | allocC z cl=>simp only [evOp] at hev; cases hev; rw [List.append_assoc]; exact .app h
  | box x=>simp only [evOp] at hev; split at hev <;> cases hev; exact .app h
  | buildSl pu s n z ps =>
   simp only [evOp] at hev
   split at hev
   ·split at hev <;> cases hev
    ·exact .refl h
    ·exact .app h
   ·cases hev
  | mkSlice s z b l c =>
   simp only [evOp] at hev
   split at hev
   ·split at hev <;> cases hev
    exact .app h
   ·cases hev
  | mkMap=>simp only [evOp] at hev; cases hev; exact .app h
  | rangeStr x=>simp only [evOp] at hev; split at hev <;> cases hev; exact .app h
  | nextStr x =>
   simp only [evOp] at hev
   split at hev
   ·split at hev
    ·rename_i hi
     split at hev
     ·split at hev <;> cases hev
      ·exact .set h hi
      ·exact .refl h
     ·cases hev
    ·cases hev
   ·cases hev
  | store n x u =>
   simp only [evOp] at hev
   split at hev
   ·split at hev
    ·split at hev
     ·rename_i H2 hst
      cases hev
      unfold aDs at hst
      split at hst
      ·split at hst
       ·rename_i hi
        split at hst
        ·split at hst
         ·split at hst
          ·split at hst <;> cases hst
           exact .set h hi
          ·cases hst
         ·cases hst
        ·cases hst
       ·cases hst
      ·cases hst
     ·cases hev
    ·cases hev
   ·cases hev
  | append s b x y =>
   simp only [evOp] at hev
   split at hev
   ·exact aM1 h hev
   ·cases hev
  | appendZ s b z x n =>
   simp only [evOp] at hev
   split at hev
   ·split at hev
    ·exact aM1 h hev
    ·cases hev
   ·cases hev
  | mapUpd kt m k x =>
   simp only [evOp] at hev
   split at hev
   ·split at hev
    ·rename_i hi
     split at hev
     ·split at hev
      ·split at hev
       ·split at hev <;> cases hev
        exact .set h hi
       ·cases hev
      ·cases hev; exact .set h hi
      ·cases hev
     ·cases hev
    ·cases hev
   ·cases hev
  | delete kt m k =>
   simp only [evOp] at hev
   split at hev
   ·split at hev
    ·rename_i hi
     split at hev
     ·split at hev
      ·cases hev; exact .set h hi
      ·cases hev; exact .refl h
      ·cases hev
     ·cases hev
    ·cases hev
   ·cases hev
  | copy s x y =>
   simp only [evOp] at hev
   split at hev
   ·split at hev
    ·split at hev
     ·split at hev
      ·split at hev
       ·rename_i hi
        split at hev <;> cases hev
        ·exact .refl h
        ·exact .set h hi.2.2.2
       ·cases hev
      ·cases hev
     ·cases hev
    ·cases hev
   ·cases hev
  | clear s z x =>
   simp only [evOp] at hev
   split at hev
   ·cases hev; exact .refl h
   ·cases hev; exact .refl h
   ·split at hev
    ·split at hev
     ·rename_i hi
      split at hev <;> cases hev
      ·exact .refl h
      ·exact .set h hi.2.2.2.1
     ·cases hev
    ·cases hev
   ·cases hev
  | loadF n k x =>
   simp only [evOp] at hev
   split at hev
   ·split at hev
    ·split at hev
     ·rename_i hi
      split at hev
      ·split at hev <;> cases hev
       exact .set h hi
      ·cases hev
     ·cases hev
    ·cases hev; exact .refl h
    ·cases hev
   ·cases hev
  | freeze x =>
   simp only [evOp] at hev
   split at hev
   ·split at hev
    ·rename_i hi
     split at hev
     ·split at hev <;> cases hev
      exact .set h hi
     ·cases hev
    ·cases hev
   ·split at hev
    ·rename_i hi
     split at hev
     ·split at hev
      ·split at hev <;> cases hev
       exact .set h hi
      ·cases hev
     ·cases hev
    ·cases hev
   ·cases hev; exact .refl h
  | call pu vi args =>
   cases pu with
   | true=>simp [pD] at hq
   | false=>exact hfo _ _ _ _ _ _ h hev
  | callv pu x args =>
   cases pu with
   | true=>simp [pD] at hq
   | false =>
    simp only [evOp] at hev
    split at hev
    ·exact hfo _ _ _ _ _ _ h hev
    ·cases hev
  | callT s vi args =>
   simp only [evOp] at hev
   obtain ⟨o,rfl⟩:=aMm hev
   exact .app h
  | callF vi args =>
   simp only [evOp] at hev
   obtain ⟨h1,h2⟩:=hfo _ _ _ _ _ _ (Nat.le_refl _) hev
   refine ⟨?_,Nat.le_trans h h2⟩
   have : (H'.take H.length).take fl=(H.take H.length).take fl:=by rw [h1]
   rwa [List.take_take,List.take_take,Nat.min_eq_left h] at this
  | _=>simp [pD] at hq
theorem aP2 [GlobT] (hfo : FlOK cf) {o : AOper} {st st' : St} (h : fl ≤ st.heap.length) (hev : jK P cf fl o st=some st') : Fr fl st.heap st'.heap:=by
 unfold jK at hev
 split at hev
 ·split at hev
  ·rename_i v H he
   cases hev
   exact aYa hfo h he
  ·cases hev
 ·cases hev; exact .refl h
 ·cases hev
end
end Go.Proofs.YtapabkfjeiknbaaGreat.Av
namespace Go.Proofs.YtapabkfjeiknbaaGreat.Av
open Go
section
variable {P : Program} {T : List AFun} {cf : Nat→Nat→List AV→Heap→Option (AV × Heap)} {fl : Nat}
theorem aEc [GlobT] {ops : Array Oper} : ∀ {aops : List AOper} {os : List Oper},aC1 P T ops aops os=true→aops.length=os.length∧∀ (k : Nat) (o : Oper),os[k]? = some o→∃ ao,aops[k]? = some ao∧aEd P T ops ao o=true
 | [],[],_=>⟨rfl,fun k o h=>by simp at h⟩
 | a :: r,o :: s,h=>by
  simp only [aC1,Bool.and_eq_true] at h
  obtain ⟨h1,h2⟩:=aEc h.2
  refine ⟨by simp [h1],fun k p hp=>?_⟩
  cases k with
  | zero =>
   simp only [List.getElem?_cons_zero,Option.some.injEq] at hp
   subst hp
   exact ⟨a,by simp,h.1⟩
  | succ k =>
   simp only [List.getElem?_cons_succ] at hp ⊢
   exact h2 k p hp
 | [],_ :: _,h=>by cases h
 | _ :: _,[],h=>by cases h
theorem aMz [GlobT] {ops : List Oper} : ∀ {n : Nat},aQq ops n=true→∀ k o,k < n→ops[k]? = some o→∀ e ∈ o.after,Region.binds .any e=true→e.on < k
 | 0,_,k,_,h,_,_,_,_=>by omega
 | n + 1,h,k,o,hlt,hk,e,he,hb=>by
  simp only [aQq,Bool.and_eq_true] at h
  by_cases ek : k=n
  ·subst ek
   rw [hk] at h
   have:=List.all_eq_true.1 h.2 e (by simpa using he)
   simpa [hb] using this
  ·exact aMz h.1 k o (by omega) hk e he hb
def unl (N : Nat) (listed : Array Bool) : Nat:=((List.range N).filter fun i=>!listed.getD i true).length
theorem bFd {N k : Nat} {listed : Array Bool} (hk : k < N) (h : listed.getD k true=false) (hsz : listed.size=N) : unl N (listed.setIfInBounds k true) < unl N listed:=by
 unfold unl
 have e : ((List.range N).filter fun i=>!(listed.setIfInBounds k true).getD i true)=(((List.range N).filter fun i=>!listed.getD i true).filter fun i=>decide (i ≠ k)):=by
  rw [List.filter_filter]
  apply List.filter_congr
  intro i hi
  by_cases ei : i=k
  ·subst ei
   simp [hsz,hk]
  ·rw [getD_set_ne true (fun e=>ei e.symm)]
   simp [ei]
 rw [e]
 refine List.length_filter_lt_length_iff_exists.2 ⟨k,?_,by simp⟩
 simp only [List.mem_filter,List.mem_range,Bool.not_eq_true']
 exact ⟨hk,h⟩
theorem aA2 {listed : Array Bool} {k : Nat} (hk : k < listed.size) : listed.getD k true=listed.getD k false:=by
 simp [Array.getD,hk]
def xH (aops : List AOper) (D : Nat→Bool) : Nat→Nat
 | 0=>0
 | n + 1=>if D n && !gR aops n then n + 1 else xH aops D n
theorem aAm [GlobT] {aops : List AOper} {D D' : Nat→Bool} : ∀ n,(∀ j,j < n→gR aops j=false→D j=D' j)→xH aops D n=xH aops D' n
 | 0,_=>rfl
 | n + 1,h=>by
  have ih:=aAm n fun j hj=>h j (by omega)
  simp only [xH]
  cases hq : gR aops n with
  | true=>simpa using ih
  | false=>rw [h n (by omega) hq,ih]
theorem xG [GlobT] {aops : List AOper} {D : Nat→Bool} {k : Nat} : ∀ n,k ≤ n→(∀ j,k ≤ j→j < n→gR aops j=false→D j=false)→xH aops D n=xH aops D k
 | 0,h,_=>by have : k=0:=(by omega); rw [this]
 | n + 1,h,hD=>by
  by_cases e : k=n + 1
  ·rw [e]
  ·have ih:=xG (k:=k) n (by omega) fun j h1 h2=>hD j h1 (by omega)
   simp only [xH]
   cases hq : gR aops n with
   | true=>simpa using ih
   | false=>rw [hD n (by omega) (by omega) hq]; simpa using ih
theorem aTg [GlobT] {aops : List AOper} {D : Nat→Bool} : ∀ n,xH aops D n ≤ n
 | 0=>Nat.le_refl _
 | n + 1=>by
  simp only [xH]
  split
  ·exact Nat.le_refl _
  ·exact Nat.le_succ_of_le (aTg n)
theorem aTh [GlobT] {aops : List AOper} {D : Nat→Bool} {p : Nat} : ∀ n,xH aops D n=p + 1→p < n∧D p=true∧gR aops p=false
 | 0,h=>by cases h
 | n + 1,h=>by
  simp only [xH] at h
  split at h
  ·rename_i hc
   simp only [Bool.and_eq_true,Bool.not_eq_true'] at hc
   have : p=n:=by omega
   subst this
   exact ⟨by omega,hc.1,hc.2⟩
  ·obtain ⟨h1,h2⟩:=aTh n h
   exact ⟨by omega,h2⟩
theorem aTi [GlobT] {aops : List AOper} {D : Nat→Bool} {m : Nat} : ∀ n,m < n→D m=true→gR aops m=false→m + 1 ≤ xH aops D n
 | 0,h,_,_=>by omega
 | n + 1,h,hD,hq=>by
  simp only [xH]
  split
  ·omega
  ·rename_i hc
   by_cases e : m=n
   ·subst e
    simp [hD,hq] at hc
   ·exact aTi n (by omega) hD hq
theorem aEg {aops : List AOper} {k : Nat} (h : pN aops k=true) : ∃ d z,aops[k]? = some ⟨some d,.alloc z,none⟩:=by
 unfold pN at h
 split at h
 ·rename_i o ho
  split at h
  ·rename_i d hd
   split at h
   ·rename_i z hz
    split at h
    ·rename_i hg
     obtain ⟨dst,op,guard⟩:=o
     simp only at hd hz hg
     subst hd hz hg
     exact ⟨d,z,ho⟩
    ·cases h
   ·cases h
  ·cases h
 ·cases h
def zAt (aops : List AOper) (k : Nat) : List Value:=match aops[k]? with
 | some ⟨_,.alloc z,_⟩=>z
 | _=>[]
def oddH (aops : List AOper) (S : Nat→St) (sw : Nat) : Heap:=(S sw).heap++[.blk (zAt aops sw).length [],.blk (zAt aops (sw + 1)).length [(zAt aops (sw + 1)).map .lit]]
def oddD (D : Nat→Bool) (sw : Nat) : Bool:=D (sw + 1) && !D sw
def hpH (aops : List AOper) (S : Nat→St) (sw N : Nat) (D : Nat→Bool) : Heap:=if oddD D sw=true then oddH aops S sw else (S (xH aops D N)).heap
theorem aQs [GlobT] {c : Ctx} {a : Act} {tm : List AV} {ops : Array Oper} {i id d : Nat} {z : List Value} {o : Oper} {K : Act→World→Prop} {Q : Exit→Act→World→Prop}
  (hs : Sim (ftOf T) c) (htr : TR (ftOf T) c tm a.tmps) (hi : ops[i]? = some o) (hchk : aEd P T ops ⟨some d,.alloc z,none⟩ o=true) (hob : c.H[id]? = some (.blk z.length [])) (hfl : fl ≤ id)
  (hK : ∀ a' c',c'.H=c.H.set id (.blk z.length [z.map .lit])→Step fl c c'→Sim (ftOf T) c'→TR (ftOf T) c' (putA tm (some d) (.ptr id 1 0 0)) a'.tmps→a'.defers=a.defers→K a' c'.w) :
  wpOp P ops Q i K a c.w:=by
 simp only [aEd,Bool.and_eq_true,beq_iff_eq] at hchk
 obtain ⟨⟨hd,hg⟩,hop⟩:=hchk
 unfold wpOp
 rw [hi]
 simp only
 have hw : Region.wanted o (yielded ops a.tmps)=true:=aHi (tm:=tm) htr hg rfl
 rw [hw]
 simp only [if_true]
 left
 simp only [jY] at hop
 split at hop
 ·rename_i t ho
  obtain ⟨ii,v,hii,hv,hc,hsc⟩:=qN hop
  have hrun : (execOp a.eval o).run P c.w=.ok (.value (.pointer (some ⟨c.w.heap.size,0,none⟩))) (c.w.alloc (.cells z.toArray t (0,0))):=by
   have e : z.toArray=v.cells:=hc.symm
   rw [e]
   simp [execOp,ho,Instr.alloc,zeroValue,typeInfo,hii,hv,newVar,newRow]
  have hst:=aJz (fl:=fl) (es':=[z.map AV.lit]) (ob:=.cells z.toArray t (0,0)) (w':=c.w.alloc (.cells z.toArray t (0,0))) hs hfl hob (by simp) rfl rfl rfl rfl
  have hsim : Sim (ftOf T) ⟨c.w.alloc (.cells z.toArray t (0,0)),c.X,upd c.β id c.w.heap.size,c.H.set id (.blk z.length [z.map AV.lit])⟩:=by
   refine aSw (cs':=z.toArray) (T:=t) hs hob (by simp) rfl rfl rfl rfl (by intro e he; simp only [List.mem_singleton] at he; subst he; simp) (by simp) ?_
   intro i j x hx
   obtain ⟨rfl,hj⟩:=aQh hx
   simp only [List.getElem?_map,Option.map_eq_some_iff] at hj
   obtain ⟨u,hu,rfl⟩:=hj
   exact ⟨u,by simpa using hu,hsc u (List.mem_of_getElem? hu),RV.lit _⟩
  refine (mH (β':=upd c.β id c.w.heap.size) (v:=.ptr id 1 0 0) hrun hst hsim ?_) _ _ ?_
  ·refine .ptr id 1 0 0 _ z.length 1 ?_ (Nat.le_refl _) fun _=>⟨c.w.heap.size,mG _ _ _,by simp⟩
   rw [aHm hob]; simp
  ·intro cv c' q1 q2 q3 q4
   rw [← hd]
   exact hK _ c' q1 q2 q3 ((htr.step q2).put q4) (aEs _ _ _)
 ·cases hop
structure RInv [GlobT] (P : Program) (T : List AFun) (fl N sw : Nat) (aops : List AOper) (an : List Nat) (tm : List AV) (val : Nat→AV) (S : Nat→St) (c0 : Ctx) (ds : List Deferred) (listed : Array Bool) (a : Act) (c : Ctx) : Prop where
 size : listed.size=N
 sim : Sim (ftOf T) c
 step : Step fl c0 c
 defers : a.defers=ds
 closed : ∀ i j,j < N→listed.getD j false=true→(an.getD j 0).testBit i=true→listed.getD i false=true
 tr : TR (ftOf T) c (zT aops tm val (fun j=>listed.getD j false) N) a.tmps
 heap : c.H=hpH aops S sw N (fun j=>listed.getD j false)
theorem aMb [GlobT] {aops : List AOper} {an : List Nat} : ∀ (n i : Nat),aDr aops an n i=aops.length ∨ (pN aops (aDr aops an n i)=true∧pN aops (aDr aops an n i + 1)=true)
 | 0,_=>.inl rfl
 | n + 1,i=>by
  simp only [aDr]
  split
  ·rename_i h
   simp only [Bool.and_eq_true] at h
   exact .inr ⟨h.1.1,h.1.2⟩
  ·exact aMb n (i + 1)
theorem aQz [GlobT] {aops : List AOper} {an : List Nat} {n i N : Nat} (hN : aops.length=N) : aDr aops an n i + 1 < N→pN aops (aDr aops an n i)=true∧pN aops (aDr aops an n i + 1)=true:=by
 intro h
 rcases aMb (aops:=aops) (an:=an) n i with e | e
 ·omega
 ·exact e
theorem aUm {sw : Nat} {aops : List AOper} {ck : List (Nat × Nat)} {an : List Nat} {n : Nat} (h : aQ1 sw aops ck an n=true) : sw + 1 < n→∀ k,k < n→gR aops k=true→tG aops k=true ∨ (an.getD k 0).testBit sw=true ∨ (k,sw) ∈ ck:=by
 intro hs k hk hq
 simp only [aQ1,hs,decide_true,Bool.not_true,Bool.false_or] at h
 have:=List.all_eq_true.1 h k (by simpa using hk)
 simp only [hq,Bool.not_true,Bool.false_or,Bool.or_eq_true] at this
 rcases this with (h1 | h1) | h1
 ·exact .inl h1
 ·exact .inr (.inl h1)
 ·exact .inr (.inr (by simpa using h1))
theorem aY5 [GlobT] (hcf : CfOK P T cf) (hfn : aEj P T) {ops : Array Oper} {aops : List AOper} {sw : Nat} {ck : List (Nat × Nat)} {tm : List AV} {c0 : Ctx} {ds : List Deferred} {val : Nat→AV} {S : Nat→St} {Q : Exit→Act→World→Prop}
  (hchk : aC1 P T ops aops ops.toList=true) (hord : aKo sw aops (ancs ops.toList ops.size []) ops.size=true) (hstab : aVv aops ck (ancs ops.toList ops.size []) ops.size=true) (hback : aQq ops.toList ops.size=true)
  (h0 : S 0=⟨tm,c0.H⟩) (hS : ∀ k ao,aops[k]? = some ao→jK P cf fl ao (S k)=some (S (k + 1))) (hval : ∀ k ao,aops[k]? = some ao→(S (k + 1)).tmps=putA (S k).tmps ao.dst (val k))
  (hck : ∀ k m,(k,m) ∈ ck→∀ ao,aops[k]? = some ao→xP (S k).tmps ao.guard=some false ∨ mT ao.op (S k).tmps=some none ∨ ∃ id,mT ao.op (S k).tmps=some (some id)∧(S (m + 1)).heap[id]? = (S m).heap[id]?)
  (hsw : sw + 1 < ops.size→pN aops sw=true∧pN aops (sw + 1)=true) (hstab2 : sw + 1 < ops.size→∀ k,k < ops.size→gR aops k=true→tG aops k=true ∨ ((ancs ops.toList ops.size []).getD k 0).testBit sw=true ∨ (k,sw) ∈ ck) (hfo : FlOK cf)
  (hfl : fl ≤ c0.H.length)
  (hQ : ∀ a' c',c'.H=(S ops.size).heap→Step fl c0 c'→Sim (ftOf T) c'→TR (ftOf T) c' (S ops.size).tmps a'.tmps→a'.defers=ds→Q .normal a' c'.w) :
  ∀ (fuel : Nat) (listed : Array Bool) (a : Act) (c : Ctx),unl ops.size listed ≤ fuel→RInv P T fl ops.size sw aops (ancs ops.toList ops.size []) tm val S c0 ds listed a c→wpAny P .any ops Q fuel listed a c.w:=by
 obtain ⟨hlen,hget⟩:=aEc hchk
 have hlen' : aops.length=ops.size:=by simpa using hlen
 have hquiet : ∀ k,k < ops.size→gR aops k=true→(S (k + 1)).heap=(S k).heap:=by
  intro k hk hq
  have hao : aops[k]? = some (aops[k]'(by omega)):=by simp
  simp only [gR,hao] at hq
  exact aIs hq (hS k _ hao)
 have hheapA : ∀ k,k ≤ ops.size→(S (xH aops (fun _=>true) k)).heap=(S k).heap:=by
  intro k
  induction k with
  | zero=>intro _; rfl
  | succ k ih =>
   intro hk
   simp only [xH,Bool.true_and]
   cases hq : gR aops k with
   | false=>rfl
   | true =>
    rw [hquiet k (by omega) hq]
    simpa using ih (by omega)
 have hkeep : ∀ (id a b : Nat),a ≤ b→b ≤ ops.size→(∀ m,a ≤ m→m < b→gR aops m=false→(S (m + 1)).heap[id]? = (S m).heap[id]?)→(S b).heap[id]? = (S a).heap[id]?:=by
  intro id a b
  induction b with
  | zero=>intro h1 _ _; have : a=0:=(by omega); rw [this]
  | succ b ih =>
   intro h1 h2 h3
   by_cases e : a=b + 1
   ·rw [e]
   ·have h4 : (S (b + 1)).heap[id]? = (S b).heap[id]?:=by
     cases hq : gR aops b with
     | true=>rw [hquiet b (by omega) hq]
     | false=>exact h3 b (by omega) (by omega) hq
    rw [h4]
    exact ih (by omega) (by omega) fun m g1 g2=>h3 m g1 (by omega)
 have h0t : (S 0).tmps=tm:=by rw [h0]
 have hlenS : ∀ k,k ≤ ops.size→fl ≤ (S k).heap.length:=by
  intro k
  induction k with
  | zero=>intro _; rw [h0]; exact hfl
  | succ k ih =>
   intro hk
   exact (aP2 hfo (ih (by omega)) (hS k (aops[k]'(by omega)) (by simp))).2
 have done : ∀ (listed : Array Bool) (a : Act) (c : Ctx),(∀ j,j < ops.size→listed.getD j false=true)→RInv P T fl ops.size sw aops (ancs ops.toList ops.size []) tm val S c0 ds listed a c→Q .normal a c.w:=by
  intro listed a c hall hI
  have hfold : zT aops tm val (fun j=>listed.getD j false) ops.size=(S ops.size).tmps :=
   aIr h0t hval (Nat.le_refl _) (by omega) hall (fun j h1 h2=>by omega)
  have hH : c.H=(S ops.size).heap:=by
   have hodd : oddD (fun j=>listed.getD j false) sw=false:=by
    unfold oddD
    by_cases h : sw < ops.size
    ·simp [hall sw h]
    ·have : listed.getD (sw + 1) false=false:=by
      rw [Array.getD_eq_getD_getElem?,Array.getElem?_eq_none (by rw [hI.size]; omega)]; rfl
     simp only [this,Bool.false_and]
   rw [hI.heap,hpH,if_neg (by rw [hodd]; exact Bool.false_ne_true),aAm (D':=fun _=>true) ops.size (fun j hj _=>hall j hj),hheapA _ (Nat.le_refl _)]
  refine hQ a c hH hI.step hI.sim ?_ hI.defers
  rw [← hfold]
  exact hI.tr
 have noready : ∀ (listed : Array Bool),listed.size=ops.size→Region.ready .any ops listed=[]→∀ j,j < ops.size→listed.getD j false=true:=by
  intro listed hsz hr j
  induction j using Nat.strongRecOn with
  | _ j ih =>
   intro hj
   cases hd : listed.getD j false with
   | true=>rfl
   | false =>
    exfalso
    have hmem : j ∈ Region.ready .any ops listed:=by
     rw [mem_ready]
     refine ⟨by rw [aA2 (by omega)]; exact hd,ops[j],by simp,fun e he hb=>?_⟩
     have hlt:=aMz hback j ops[j] hj (by simp) e he hb
     exact ih e.on hlt (by omega)
    rw [hr] at hmem
    cases hmem
 intro fuel
 induction fuel with
 | zero =>
  intro listed a c hu hI
  have hall : ∀ j,j < ops.size→listed.getD j false=true:=by
   intro j hj
   cases hd : listed.getD j false with
   | true=>rfl
   | false =>
    exfalso
    have : j ∈ (List.range ops.size).filter fun i=>!listed.getD i true:=by
     simp only [List.mem_filter,List.mem_range,Bool.not_eq_true']
     exact ⟨hj,by rw [aA2 (by rw [hI.size]; exact hj)]; exact hd⟩
    unfold unl at hu
    have h2:=List.eq_nil_of_length_eq_zero (Nat.le_zero.1 hu)
    rw [h2] at this
    cases this
  refine ⟨?_,done listed a c hall hI⟩
  cases hr : Region.ready .any ops listed with
  | nil=>rfl
  | cons i r =>
   exfalso
   have : i ∈ Region.ready .any ops listed:=by rw [hr]; simp
   rw [mem_ready] at this
   obtain ⟨h1,o,ho,_⟩:=this
   have hi : i < ops.size:=(Array.getElem?_eq_some_iff.1 ho).1
   rw [aA2 (by rw [hI.size]; exact hi),hall i hi] at h1
   cases h1
 | succ fuel ih =>
  intro listed a c hu hI
  refine ⟨fun hr=>done listed a c (noready listed hI.size hr) hI,fun k hk=>?_⟩
  rw [mem_ready] at hk
  obtain ⟨hk1,o,ho,hedges⟩:=hk
  have hkN : k < ops.size:=(Array.getElem?_eq_some_iff.1 ho).1
  have hkD : listed.getD k false=false:=by rw [← aA2 (by rw [hI.size]; exact hkN)]; exact hk1
  obtain ⟨ao,hao,hok⟩:=hget k o (by simpa using ho)
  have hol : ops.toList[k]? = some o:=by simpa using ho
  have hanc : ∀ i,((ancs ops.toList ops.size []).getD k 0).testBit i=true→listed.getD i false=true:=by
   intro i hi
   have hi' : ((ancs ops.toList ops.toList.length []).getD k 0).testBit i=true:=by simpa using hi
   obtain ⟨o',ho',e,he,hb,hlt,hh⟩:=aUf (by simpa using hkN) hi'
   rw [hol] at ho'
   cases ho'
   have hde:=hedges e he hb
   rcases hh with rfl | hh
   ·exact hde
   ·exact hI.closed i e.on (by omega) hde (by simpa using hh)
  have later : ∀ j,k < j→j < ops.size→listed.getD j false=true→((gR aops k=true ∨ gR aops j=true) ∨ (k=sw∧j=sw + 1∧pN aops k=true∧pN aops j=true))∧∃ x y,aops[k]? = some x∧aops[j]? = some y∧aL8 x y=false∧aL8 y x=false:=by
   intro j hkj hj hD
   rcases oV _ hord k j hkj hj with h | h
   ·have:=hI.closed k j hj hD h
    rw [hkD] at this; cases this
   ·exact h
  have earlier : ∀ j,j < k→listed.getD j false=true ∨ (((gR aops j=true ∨ gR aops k=true) ∨ (j=sw∧k=sw + 1∧pN aops j=true∧pN aops k=true))∧∃ x y,aops[j]? = some x∧aops[k]? = some y∧aL8 x y=false∧aL8 y x=false):=by
   intro j hj
   rcases oV _ hord j k hj hkN with h | h
   ·exact .inl (hanc j h)
   ·exact .inr h
  have hdst : dstA aops k=ao.dst:=by simp [dstA,hao]
  have hlook : ∀ t ∈ aKt ao,(zT aops tm val (fun j=>listed.getD j false) ops.size)[t]? = (S k).tmps[t]?:=by
   intro t ht
   rw [← aIr (D:=fun j=>decide (j < k)) (n:=ops.size) h0t hval (Nat.le_of_lt hkN) (by omega) (fun j hj=>by simpa using hj) (fun j h1 _=>by simp; omega)]
   apply aGc
   intro j hj hd
   by_cases hjk : j < k
   ·have : decide (j < k)=true:=by simpa using hjk
    rw [this]
    rcases earlier j hjk with h | ⟨_,x,y,hx,hy,hc1,hc2⟩
    ·exact h
    ·exfalso
     rw [hao] at hy
     cases hy
     have hdx : x.dst=some t:=by simpa [dstA,hx] using hd
     exact (aGe hc1 hdx).1 ht
   ·have : decide (j < k)=false:=by simpa using hjk
    rw [this]
    by_cases ej : j=k
    ·subst ej; exact hkD
    ·cases hDj : listed.getD j false with
     | false=>rfl
     | true =>
      exfalso
      obtain ⟨_,x,y,hx,hy,hc1,hc2⟩:=later j (by omega) hj hDj
      rw [hao] at hx
      cases hx
      have hdy : y.dst=some t:=by simpa [dstA,hy] using hd
      exact (aGe hc2 hdy).1 ht
  have hset : ∀ j,(listed.setIfInBounds k true).getD j false=if j=k then true else listed.getD j false:=by
   intro j
   by_cases ej : j=k
   ·subst ej
    simp [hI.size,hkN]
   ·rw [getD_set_ne false (fun e=>ej e.symm),if_neg ej]
  have ancLt : ∀ q m,q < ops.size→((ancs ops.toList ops.size []).getD q 0).testBit m=true→m < q:=by
   intro q m
   induction q using Nat.strongRecOn with
   | _ q ihq =>
    intro hqN hqb
    have hqb' : ((ancs ops.toList ops.toList.length []).getD q 0).testBit m=true:=by simpa using hqb
    obtain ⟨o',ho',e,he,hb',hlt',hh⟩:=aUf (by simpa using hqN) hqb'
    rcases hh with rfl | hh
    ·exact hlt'
    ·have:=ihq e.on hlt' (by omega) (by simpa using hh)
     omega
  have fin : ∀ (x : AV) a' c',(S (k + 1)).tmps=putA (S k).tmps ao.dst x→c'.H=hpH aops S sw ops.size (fun j=>(listed.setIfInBounds k true).getD j false)→Step fl c c'→Sim (ftOf T) c'→TR (ftOf T) c' (putA (zT aops tm val (fun j=>listed.getD j false) ops.size) ao.dst x) a'.tmps→a'.defers=a.defers→wpAny P .any ops Q fuel (listed.setIfInBounds k true) a' c'.w:=by
   intro x a' c' hx1 e1 e2 e3 e4 e5
   refine ih (listed.setIfInBounds k true) a' c' (by have:=bFd hkN hk1 hI.size; omega) ?_
   refine ⟨by simpa using hI.size,e3,hI.step.trans e2,e5.trans hI.defers,?_,?_,e1⟩
   ·intro i j hj hD hb
    rw [hset] at hD ⊢
    split
    ·rfl
    ·by_cases ej : j=k
     ·subst ej; exact hanc i hb
     ·rw [if_neg ej] at hD
      exact hI.closed i j hj hD hb
   ·refine ⟨by rw [nI,← e4.1,aKd,nI],fun t y hy=>?_⟩
    refine e4.2 t y ?_
    rw [← hy,aCj]
    split
    ·rename_i hd
     have hdk : dstA aops k=some t:=by rw [hdst]; exact hd
     rw [nI]
     rw [aMo (k:=k) (by simp [hset]) hdk ops.size hkN]
     ·split
      ·rename_i hlt
       congr 1
       have h1 : (S (k + 1)).tmps[t]? = some x:=by rw [hx1,aCj,if_pos hd,if_pos (by rw [← aG3 h0t hval k (by omega),nI]; exact hlt)]
       have h2 : (S (k + 1)).tmps[t]? = some (val k):=by rw [hval k ao hao,aCj,if_pos hd,if_pos (by rw [← aG3 h0t hval k (by omega),nI]; exact hlt)]
       rw [h1] at h2
       exact Option.some.inj h2
      ·rfl
     ·intro j h1 h2 h3
      rw [hset,if_neg (by omega)]
      cases hDj : listed.getD j false with
      | false=>rfl
      | true =>
       exfalso
       obtain ⟨_,x',y',hx',hy',hc1,hc2⟩:=later j h1 h2 hDj
       rw [hao] at hx'
       cases hx'
       have hdy : y'.dst=some t:=by simpa [dstA,hy'] using h3
       exact (aGe hc1 hd).2 hdy
    ·rename_i hd
     apply aGc
     intro j hj hdj
     rw [hset]
     by_cases ej : j=k
     ·subst ej
      rw [hdst] at hdj
      exact (hd hdj).elim
     ·rw [if_neg ej]
  have byOp : ∀ c1 : Ctx,c1.w=c.w→Step fl c c1→Sim (ftOf T) c1→(∃ st',jK P cf fl ao ⟨(S k).tmps,c1.H⟩=some st'∧st'.tmps=(S (k + 1)).tmps∧st'.heap=hpH aops S sw ops.size (fun j=>(listed.setIfInBounds k true).getD j false))→wpOp P ops Q k (fun a' w'=>wpAny P .any ops Q fuel (listed.setIfInBounds k true) a' w') a c.w:=by
   intro c1 hw hst hs1 ⟨stk',hevk',hstt,hsth⟩
   obtain ⟨x,hx1,hx2⟩:=aIt (tm:=zT aops tm val (fun j=>listed.getD j false) ops.size) hlook hevk'
   rw [hstt] at hx1
   rw [← hw]
   refine aH2 hcf hfn hs1 (hI.tr.step hst) (Nat.le_trans hfl (hI.step.trans hst).len) ho hok hx2 ?_
   intro a' c' e1 e2 e3 e4 e5 _
   exact fin x a' c' hx1 (e1.trans hsth) (hst.trans e2) e3 e4 e5
  have hmutA : ∀ m,pN aops m=true→gR aops m=false:=by
   intro m hm
   obtain ⟨d,z,hz⟩:=aEg hm
   simp [gR,hz,pD]
  have pairF : sw + 1 < ops.size→∃ d1 z1 d2 z2,aops[sw]? = some ⟨some d1,.alloc z1,none⟩∧aops[sw + 1]? = some ⟨some d2,.alloc z2,none⟩∧zAt aops sw=z1∧zAt aops (sw + 1)=z2 ∧
    S (sw + 1)=⟨(S sw).tmps.set d1 (.ptr (S sw).heap.length 1 0 0),(S sw).heap++[.blk z1.length [z1.map .lit]]⟩ ∧
    S (sw + 2)=⟨(S (sw + 1)).tmps.set d2 (.ptr ((S sw).heap.length + 1) 1 0 0),(S sw).heap++[.blk z1.length [z1.map .lit],.blk z2.length [z2.map .lit]]⟩:=by
   intro h
   obtain ⟨h1,h2⟩:=hsw h
   obtain ⟨d1,z1,e1⟩:=aEg h1
   obtain ⟨d2,z2,e2⟩:=aEg h2
   have t1:=hS sw _ e1
   have t2:=hS (sw + 1) _ e2
   simp only [jK,xP,evOp,putA,Option.some.injEq] at t1 t2
   refine ⟨d1,z1,d2,z2,e1,e2,by simp [zAt,e1],by simp [zAt,e2],t1.symm,?_⟩
   rw [← t2,← t1]
   simp
  by_cases hodd : oddD (fun j=>listed.getD j false) sw=true
  · -- the second of two new variables is there,the first is not
   have ho2 : listed.getD (sw + 1) false=true∧listed.getD sw false=false:=by
    simp only [oddD,Bool.and_eq_true,Bool.not_eq_true'] at hodd; exact hodd
   have hswN : sw + 1 < ops.size:=by
    rcases Nat.lt_or_ge (sw + 1) ops.size with h | h
    ·exact h
    ·have:=ho2.1
     rw [Array.getD_eq_getD_getElem?,Array.getElem?_eq_none (by rw [hI.size]; exact h)] at this
     cases this
   obtain ⟨hal1,hal2⟩:=hsw hswN
   obtain ⟨d1,z1,d2,z2,p1,p2,p3,p4,p5,p6⟩:=pairF hswN
   have hcH : c.H=(S sw).heap++[.blk z1.length [],.blk z2.length [z2.map .lit]]:=by
    rw [hI.heap,hpH,if_pos hodd,oddH,p3,p4]
   have hbehind : ∀ j,sw + 1 < j→j < ops.size→gR aops j=false→listed.getD j false=false:=by
    intro j h1 h2 h3
    cases hd : listed.getD j false with
    | false=>rfl
    | true =>
     rcases oV _ hord sw j (by omega) h2 with h | ⟨(h | h) | h,_⟩
     ·have:=hI.closed sw j h2 hd h
      rw [ho2.2] at this; cases this
     ·rw [hmutA sw hal1] at h; cases h
     ·rw [h3] at h; cases h
     ·omega
   by_cases hksw : k=sw
   ·subst hksw
    rw [hao] at p1
    cases p1
    have hid : c.H[(S k).heap.length]? = some (.blk z1.length []):=by rw [hcH]; simp
    refine aQs (id:=(S k).heap.length) hI.sim hI.tr ho hok hid (hlenS k (by omega)) ?_
    intro a' c' e1 e2 e3 e4 e5
    refine fin (.ptr (S k).heap.length 1 0 0) a' c' (by rw [p5]; rfl) ?_ e2 e3 e4 e5
    have hnod : oddD (fun j=>(listed.setIfInBounds k true).getD j false) k=false:=by simp [oddD,hset]
    rw [e1,hpH,if_neg (by rw [hnod]; exact Bool.false_ne_true),xG (k:=k + 2) ops.size (by omega) (fun j h1 h2 h3=>by
     rw [hset,if_neg (by omega)]; exact hbehind j (by omega) h2 h3)]
    have hl2 : xH aops (fun j=>(listed.setIfInBounds k true).getD j false) (k + 2)=k + 2:=by
     have e : (listed.setIfInBounds k true).getD (k + 1) false=true:=by rw [hset,if_neg (by omega)]; exact ho2.1
     show (if ((listed.setIfInBounds k true).getD (k + 1) false && !gR aops (k + 1))=true then k + 1 + 1 else _)=_
     rw [e,hmutA _ hal2]
     rfl
    rw [hl2,p6,hcH]
    simp
   · -- it leaves the objects alone
    have hq : gR aops k=true:=by
     cases hq : gR aops k with
     | true=>rfl
     | false =>
      exfalso
      rcases Nat.lt_or_ge k sw with h | h
      ·rcases oV _ hord k (sw + 1) (by omega) hswN with g | ⟨(g | g) | g,_⟩
       ·have:=hI.closed k (sw + 1) hswN ho2.1 g
        rw [hkD] at this; cases this
       ·rw [hq] at g; cases g
       ·rw [hmutA _ hal2] at g; cases g
       ·omega
      ·by_cases h' : k=sw + 1
       ·subst h'; rw [hkD] at ho2; cases ho2.1
       ·rcases oV _ hord sw k (by omega) hkN with g | ⟨(g | g) | g,_⟩
        ·have:=hanc sw g
         rw [ho2.2] at this; cases this
        ·rw [hmutA _ hal1] at g; cases g
        ·rw [hq] at g; cases g
        ·omega
    have hD' : oddD (fun j=>(listed.setIfInBounds k true).getD j false) sw=true:=by
     have q1 : (listed.setIfInBounds k true).getD sw false=false:=by rw [hset,if_neg (fun e=>hksw e.symm)]; exact ho2.2
     have q2 : (listed.setIfInBounds k true).getD (sw + 1) false=true:=by
      rw [hset]
      split
      ·rfl
      ·exact ho2.1
     simp only [oddD,q1,q2]
     rfl
    refine byOp c rfl (Step.refl _ _) hI.sim ?_
    have hpe : hpH aops S sw ops.size (fun j=>(listed.setIfInBounds k true).getD j false)=c.H:=by
     rw [hpH,if_pos hD',hI.heap,hpH,if_pos hodd]
    rw [hpe]
    have hev:=hS k ao hao
    have hqo : pD ao.op=true:=by simpa [gR,hao] using hq
    have hwant : ∀ (hop : ∀ v H1,evOp P cf fl ao.op (S k).tmps (S k).heap=some (v,H1)→evOp P cf fl ao.op (S k).tmps c.H=some (v,c.H)),∃ st',jK P cf fl ao ⟨(S k).tmps,c.H⟩=some st'∧st'.tmps=(S (k + 1)).tmps∧st'.heap=c.H:=by
     intro hop
     unfold jK at hev ⊢
     simp only at hev ⊢
     split at hev
     ·rename_i hw
      split at hev
      ·rename_i v H1 he
       simp only [Option.some.injEq] at hev
       rw [hop v H1 he]
       exact ⟨_,rfl,by rw [← hev],rfl⟩
      ·cases hev
     ·rename_i hw
      simp only [Option.some.injEq] at hev
      exact ⟨_,rfl,by rw [← hev],rfl⟩
     ·cases hev
    by_cases hn : tG aops k=true
    ·have hno : aB8 ao.op=true:=by simpa [tG,hao] using hn
     exact hwant fun v H1 he=>aIu hno he
    by_cases hg : xP (S k).tmps ao.guard=some false
    ·unfold jK at hev ⊢
     simp only [hg] at hev ⊢
     simp only [Option.some.injEq] at hev
     exact ⟨_,rfl,by rw [← hev],rfl⟩
    have hks : (k,sw) ∈ ck:=by
     rcases hstab2 hswN k hkN hq with h | h | h
     ·exact (hn h).elim
     ·have:=hanc sw h
      rw [ho2.2] at this; cases this
     ·exact h
    have hmid : ∀ m,m < ops.size→gR aops m=false→((sw + 2 ≤ m∧m < k) ∨ (k ≤ m∧m < sw + 2))→(k,m) ∈ ck:=by
     intro m hm hmq hb
     by_cases em : m=sw
     ·subst em; exact hks
     have hmD : m ≤ sw + 1→listed.getD m false=true:=by
      intro hle
      by_cases e : m=sw + 1
      ·subst e; exact ho2.1
      ·rcases oV _ hord m (sw + 1) (by omega) hswN with g | ⟨(g | g) | g,_⟩
       ·exact hI.closed m (sw + 1) hswN ho2.1 g
       ·rw [hmq] at g; cases g
       ·rw [hmutA _ hal2] at g; cases g
       ·omega
     rcases aJ1 hstab hkN hm hq hmq with h | h | h | h
     ·exact (hn h).elim
     · -- m is an ancestor of k
      have hlt:=ancLt k m hkN h
      have hml:=hanc m h
      rcases hb with ⟨b1,b2⟩ | ⟨b1,b2⟩
      ·rw [hbehind m (by omega) hm hmq] at hml; cases hml
      ·omega
     ·have hlt:=ancLt m k hm h
      rcases hb with ⟨b1,b2⟩ | ⟨b1,b2⟩
      ·omega
      ·have:=hI.closed k m hm (hmD (by omega)) h
       rw [hkD] at this; cases this
     ·exact h
    rcases hck k sw hks ao hao with h | h | ⟨id,h,hkp⟩
    ·exact (hg h).elim
    ·exact hwant fun v H1 he=>aC0 h (fun id hid=>by cases hid) he
    ·refine hwant fun v H1 he=>aC0 h (fun id' hid=>?_) he
     cases hid
     have hidn : id ≠ (S sw).heap.length:=by
      intro e
      rw [p5] at hkp
      simp only [e] at hkp
      rw [List.getElem?_append_right (Nat.le_refl _),List.getElem?_eq_none (Nat.le_refl _)] at hkp
      simp at hkp
     have hbase : c.H[id]? = (S (sw + 2)).heap[id]?:=by
      rw [hcH,p6]
      simp only
      rcases Nat.lt_or_ge id (S sw).heap.length with hl | hl
      ·rw [List.getElem?_append_left hl,List.getElem?_append_left hl]
      ·rw [List.getElem?_append_right hl,List.getElem?_append_right hl]
       obtain ⟨q,hq'⟩ : ∃ q,id - (S sw).heap.length=q + 1:=⟨id - (S sw).heap.length - 1,by omega⟩
       rw [hq']
       rfl
     have hsts : ∀ m,m < ops.size→gR aops m=false→((sw + 2 ≤ m∧m < k) ∨ (k ≤ m∧m < sw + 2))→(S (m + 1)).heap[id]? = (S m).heap[id]?:=by
      intro m h1 h2 h3
      rcases hck k m (hmid m h1 h2 h3) ao hao with g | g | ⟨id2,g,g2⟩
      ·exact (hg g).elim
      ·rw [h] at g; cases g
      ·rw [h] at g; cases g; exact g2
     rw [hbase]
     rcases Nat.le_total (sw + 2) k with hle | hle
     ·exact (hkeep id (sw + 2) k hle (by omega) fun m g1 g2 g3=>hsts m (by omega) g3 (.inl ⟨g1,g2⟩)).symm
     ·exact hkeep id k (sw + 2) hle (by omega) fun m g1 g2 g3=>hsts m (by omega) g3 (.inr ⟨g1,g2⟩)
  · -- the usual case
   have hcH : c.H=(S (xH aops (fun j=>listed.getD j false) ops.size)).heap:=by rw [hI.heap,hpH,if_neg hodd]
   by_cases hI1 : k=sw + 1∧listed.getD sw false=false
   · -- the second of the two,before the first
    obtain ⟨hk',hD1⟩:=hI1
    subst hk'
    obtain ⟨hal1,hal2⟩:=hsw hkN
    obtain ⟨d1,z1,d2,z2,p1,p2,p3,p4,p5,p6⟩:=pairF hkN
    have hL : xH aops (fun j=>listed.getD j false) ops.size=xH aops (fun _=>true) sw:=by
     rw [xG (k:=sw) ops.size (by omega) (fun j h1 h2 h3=>by
      by_cases e : j=sw
      ·subst e; exact hD1
      ·by_cases e' : j=sw + 1
       ·subst e'; exact hkD
       ·cases hd : listed.getD j false with
        | false=>rfl
        | true =>
         rcases (later j (by omega) h2 hd).1 with (h | h) | h
         ·rw [hmutA _ hal2] at h; cases h
         ·rw [h3] at h; cases h
         ·omega)]
     refine aAm sw fun j hj hjq=>?_
     rcases earlier j (by omega) with h | ⟨(h | h) | h,_⟩
     ·exact h
     ·rw [hjq] at h; cases h
     ·rw [hmutA _ hal2] at h; cases h
     ·omega
    have hH : c.H=(S sw).heap:=by rw [hcH,hL,hheapA sw (by omega)]
    rw [hao] at p2
    cases p2
    refine byOp ⟨c.w,c.X,c.β,c.H++[.blk z1.length []]⟩ rfl (aEo (Nat.le_trans hfl hI.step.len)) (aJ7 hI.sim) ?_
    refine ⟨⟨(S (sw + 1)).tmps.set d2 (.ptr (c.H++[AObj.blk z1.length []]).length 1 0 0),(c.H++[.blk z1.length []])++[.blk z2.length [z2.map .lit]]⟩,rfl,?_,?_⟩
    ·rw [p6,hH]; simp
    ·have hD' : oddD (fun j=>(listed.setIfInBounds (sw + 1) true).getD j false) sw=true:=by
      have q1 : (listed.setIfInBounds (sw + 1) true).getD sw false=false:=by rw [hset,if_neg (by omega)]; exact hD1
      have q2 : (listed.setIfInBounds (sw + 1) true).getD (sw + 1) false=true:=by rw [hset,if_pos rfl]
      simp only [oddD,q1,q2]
      rfl
     rw [hpH,if_pos hD',oddH,p3,p4,hH]
     simp
   · -- none of the two stands alone
    have hnodd' : oddD (fun j=>(listed.setIfInBounds k true).getD j false) sw=false:=by
     cases h : oddD (fun j=>(listed.setIfInBounds k true).getD j false) sw with
     | false=>rfl
     | true =>
      exfalso
      simp only [oddD,hset,Bool.and_eq_true,Bool.not_eq_true'] at h
      obtain ⟨h1,h2⟩:=h
      split at h2
      ·cases h2
      ·rename_i hks
       split at h1
       ·rename_i e; exact hI1 ⟨e.symm,h2⟩
       ·exact hodd (by simp [oddD,h1,h2])
    refine byOp c rfl (Step.refl _ _) hI.sim ?_
    rw [hpH,if_neg (by rw [hnodd']; exact Bool.false_ne_true)]
    cases hq : gR aops k with
    | false =>
     have hlat : ∀ j,k < j→j < ops.size→gR aops j=false→listed.getD j false=false:=by
      intro j h1 h2 h3
      cases hd : listed.getD j false with
      | false=>rfl
      | true =>
       rcases (later j h1 h2 hd).1 with (h | h) | ⟨e1,e2,_⟩
       ·rw [hq] at h; cases h
       ·rw [h3] at h; cases h
       ·exfalso
        subst e1 e2
        exact hodd (by simp [oddD,hd,hkD])
     have hL : xH aops (fun j=>listed.getD j false) ops.size=xH aops (fun _=>true) k:=by
      rw [xG (k:=k) ops.size (by omega) (fun j h1 h2 h3=>by
       by_cases e : j=k
       ·subst e; exact hkD
       ·exact hlat j (by omega) h2 h3)]
      refine aAm k fun j hj hjq=>?_
      rcases earlier j hj with h | ⟨(h | h) | ⟨e1,e2,_⟩,_⟩
      ·exact h
      ·rw [hjq] at h; cases h
      ·rw [hq] at h; cases h
      ·cases hd : listed.getD j false with
       | true=>rfl
       | false=>exact (hI1 ⟨e2,by rw [← e1]; exact hd⟩).elim
     have hH : c.H=(S k).heap:=by rw [hcH,hL,hheapA k (by omega)]
     refine ⟨S (k + 1),by rw [hH]; exact hS k ao hao,rfl,?_⟩
     rw [xG (k:=k + 1) ops.size (by omega) (fun j h1 h2 h3=>by
      rw [hset,if_neg (by omega)]
      exact hlat j (by omega) h2 h3)]
     simp only [xH,hset,if_true,hq]
     rfl
    | true =>
     have hL : xH aops (fun j=>(listed.setIfInBounds k true).getD j false) ops.size=xH aops (fun j=>listed.getD j false) ops.size:=by
      refine aAm ops.size fun j hj hjq=>?_
      rw [hset,if_neg (by intro e; subst e; rw [hq] at hjq; cases hjq)]
     rw [hL,← hcH]
     have hqo : pD ao.op=true:=by simpa [gR,hao] using hq
     have hev:=hS k ao hao
     have hpl:=aTg (aops:=aops) (D:=fun j=>listed.getD j false) ops.size
     generalize hp : xH aops (fun j=>listed.getD j false) ops.size=p at *
     have hbetween : ∀ m,m < ops.size→gR aops m=false→((p ≤ m∧m < k) ∨ (k ≤ m∧m < p))→tG aops k=true ∨ (k,m) ∈ ck:=by
      intro m hm hmq hb
      rcases aJ1 hstab hkN hm hq hmq with h | h | h | h
      ·exact .inl h
      ·exfalso
       have hml:=hanc m h
       have:=aTi (aops:=aops) (D:=fun j=>listed.getD j false) ops.size hm hml hmq
       rw [hp] at this
       have hlt:=ancLt k m hkN h
       omega
      ·exfalso
       have hlt:=ancLt m k hm h
       rcases hb with ⟨h1,h2⟩ | ⟨h1,h2⟩
       ·omega
       · -- m is listed,for the last one is
        obtain ⟨p',rfl⟩ : ∃ p',p=p' + 1:=⟨p - 1,by omega⟩
        obtain ⟨g1,g2,g3⟩:=aTh ops.size hp
        have hmD : listed.getD m false=true:=by
         by_cases e : m=p'
         ·subst e; exact g2
         ·rcases oV _ hord m p' (by omega) g1 with h' | ⟨(h' | h') | ⟨e1,e2,_⟩,_⟩
          ·exact hI.closed m p' g1 g2 h'
          ·rw [hmq] at h'; cases h'
          ·rw [g3] at h'; cases h'
          ·cases hd : listed.getD m false with
           | true=>rfl
           | false =>
            exfalso
            subst e1 e2
            exact hodd (by simp [oddD,g2,hd])
        have:=hI.closed k m hm hmD h
        rw [hkD] at this
        cases this
      ·exact .inr h
     have hsame : c.H=(S k).heap→∃ st',jK P cf fl ao ⟨(S k).tmps,c.H⟩=some st'∧st'.tmps=(S (k + 1)).tmps∧st'.heap=c.H:=by
      intro e
      refine ⟨S (k + 1),by rw [e]; exact hev,rfl,?_⟩
      rw [e]
      exact aIs hqo hev
     have hwant : ∀ (hop : ∀ v H1,evOp P cf fl ao.op (S k).tmps (S k).heap=some (v,H1)→evOp P cf fl ao.op (S k).tmps c.H=some (v,c.H)),∃ st',jK P cf fl ao ⟨(S k).tmps,c.H⟩=some st'∧st'.tmps=(S (k + 1)).tmps∧st'.heap=c.H:=by
      intro hop
      unfold jK at hev ⊢
      simp only at hev ⊢
      split at hev
      ·rename_i hw
       split at hev
       ·rename_i v H1 he
        simp only [Option.some.injEq] at hev
        rw [hop v H1 he]
        exact ⟨_,rfl,by rw [← hev],rfl⟩
       ·cases hev
      ·rename_i hw
       simp only [Option.some.injEq] at hev
       exact ⟨_,rfl,by rw [← hev],rfl⟩
      ·cases hev
     by_cases hn : tG aops k=true
     ·have hno : aB8 ao.op=true:=by simpa [tG,hao] using hn
      exact hwant fun v H1 he=>aIu hno he
     · -- every mutator between is listed in ck
      have hmid : ∀ m,m < ops.size→gR aops m=false→((p ≤ m∧m < k) ∨ (k ≤ m∧m < p))→(k,m) ∈ ck:=by
       intro m h1 h2 h3
       rcases hbetween m h1 h2 h3 with h | h
       ·exact (hn h).elim
       ·exact h
      by_cases hg : xP (S k).tmps ao.guard=some false
      · -- it is not carried out
       unfold jK at hev ⊢
       simp only [hg] at hev ⊢
       simp only [Option.some.injEq] at hev
       exact ⟨_,rfl,by rw [← hev],rfl⟩
      by_cases hex : ∃ m,m < ops.size∧gR aops m=false∧((p ≤ m∧m < k) ∨ (k ≤ m∧m < p))
      ·obtain ⟨m0,q1,q2,q3⟩:=hex
       rcases hck k m0 (hmid m0 q1 q2 q3) ao hao with h | h | ⟨id,h,_⟩
       ·exact (hg h).elim
       ·exact hwant fun v H1 he=>aC0 h (fun id hid=>by cases hid) he
       ·refine hwant fun v H1 he=>aC0 h (fun id' hid=>?_) he
        cases hid
        have hsts : ∀ m,m < ops.size→gR aops m=false→((p ≤ m∧m < k) ∨ (k ≤ m∧m < p))→(S (m + 1)).heap[id]? = (S m).heap[id]?:=by
         intro m h1 h2 h3
         rcases hck k m (hmid m h1 h2 h3) ao hao with g | g | ⟨id2,g,g2⟩
         ·exact (hg g).elim
         ·rw [h] at g; cases g
         ·rw [h] at g; cases g; exact g2
        rw [hcH]
        rcases Nat.le_total p k with hle | hle
        ·exact (hkeep id p k hle (by omega) fun m g1 g2 g3=>hsts m (by omega) g3 (.inl ⟨g1,g2⟩)).symm
        ·exact hkeep id k p hle hpl fun m g1 g2 g3=>hsts m (by omega) g3 (.inr ⟨g1,g2⟩)
      · -- no mutator lies between
       refine hsame ?_
       rw [hcH]
       apply List.ext_getElem?
       intro id
       rcases Nat.le_total p k with hle | hle
       ·exact (hkeep id p k hle (by omega) fun m g1 g2 g3=>(hex ⟨m,by omega,g3,.inl ⟨g1,g2⟩⟩).elim).symm
       ·exact hkeep id k p hle hpl fun m g1 g2 g3=>(hex ⟨m,by omega,g3,.inr ⟨g1,g2⟩⟩).elim
theorem aJw [GlobT] : ∀ (aops : List AOper) (st : St) (l : List St),aAs P cf fl aops st=some l →
  ∃ S : Nat→St,S 0=st∧l.getLast? = some (S aops.length)∧(∀ k,k ≤ aops.length→l[k]? = some (S k))∧∀ k ao,aops[k]? = some ao→jK P cf fl ao (S k)=some (S (k + 1))
 | [],st,l,h=>by
  simp only [aAs,Option.some.injEq] at h
  subst h
  exact ⟨fun _=>st,rfl,rfl,fun k hk=>by have : k=0:=(by simpa using hk); subst this; rfl,fun k ao hk=>by simp at hk⟩
 | o :: r,st,l,h=>by
  simp only [aAs] at h
  split at h
  ·rename_i st1 h1
   split at h
   ·rename_i l1 h2
    cases h
    obtain ⟨S,e1,e2,e3,e4⟩:=aJw r st1 l1 h2
    refine ⟨fun k=>match k with | 0=>st | k + 1=>S k,rfl,?_,?_,fun k ao hk=>?_⟩
    ·have hne : l1 ≠ []:=by
      intro e
      subst e
      have:=e3 0 (by omega)
      simp at this
     rw [List.getLast?_cons_of_ne_nil hne,e2]
     simp
    ·intro k hk
     cases k with
     | zero=>rfl
     | succ k=>simpa using e3 k (by simpa using hk)
    ·cases k with
     | zero =>
      simp only [List.getElem?_cons_zero,Option.some.injEq] at hk
      subst hk
      rw [h1,← e1]
     | succ k =>
      simp only [List.getElem?_cons_succ] at hk
      exact e4 k ao hk
   ·cases h
  ·cases h
theorem aQf [GlobT] {ops : List AOper} {l : List St} : ∀ {ck : List (Nat × Nat)},aVk ops l ck=true→∀ k m,(k,m) ∈ ck→bEu ops l k m=true
 | [],_,k,m,h=>by cases h
 | (a,b) :: r,h,k,m,hm=>by
  simp only [aVk] at h
  split at h
  ·rename_i h1
   rcases List.mem_cons.1 hm with e | e
   ·cases e; exact h1
   ·exact aQf h k m e
  ·cases h
theorem aWb [GlobT] (hfo : FlOK cf) {ck : List (Nat × Nat)} {aops : List AOper} {st st' : St} (h : aFb P cf fl ck aops st=some st') :
  ∃ S : Nat→St,S 0=st∧S aops.length=st'∧(∀ k ao,aops[k]? = some ao→jK P cf fl ao (S k)=some (S (k + 1))) ∧
   ∀ k m,(k,m) ∈ ck→∀ ao,aops[k]? = some ao→xP (S k).tmps ao.guard=some false ∨ mT ao.op (S k).tmps=some none ∨ ∃ id,mT ao.op (S k).tmps=some (some id)∧(S (m + 1)).heap[id]? = (S m).heap[id]?:=by
 unfold aFb at h
 split at h
 ·obtain ⟨S,e1,e2,e3⟩:=aSs aops st st' h
  exact ⟨S,e1,e2,e3,fun k m hm=>by cases hm⟩
 ·rename_i c r
  split at h
  ·rename_i l hl
   split at h
   ·rename_i hck
    obtain ⟨S,e1,e2,e3,e4⟩:=aJw aops st l hl
    rw [e2] at h
    cases h
    refine ⟨S,e1,rfl,e4,fun k m hm ao hao=>?_⟩
    have:=aQf hck k m hm
    unfold bEu at this
    have hk : k < aops.length:=(List.getElem?_eq_some_iff.1 hao).1
    simp only [hao,e3 k (by omega)] at this
    split at this
    ·rename_i hw; exact .inl hw
    ·split at this
     ·rename_i hs; exact .inr (.inl hs)
     ·rename_i id hs
      refine .inr (.inr ⟨id,hs,?_⟩)
      split at this
      ·rename_i om hom
       have hm' : m < aops.length:=(List.getElem?_eq_some_iff.1 hom).1
       simp only [e3 m (by omega)] at this
       have hev:=e4 m om hom
       unfold jK at hev
       split at this
       ·rename_i hw
        simp only [hw,Option.some.injEq] at hev
        rw [← hev]
       ·rename_i hw
        split at hev
        ·split at hev
         ·rename_i v H1 he
          simp only [Option.some.injEq] at hev
          rw [← hev]
          exact aVg hfo this he
         ·cases hev
        ·rename_i hw'; exact (hw hw').elim
        ·cases hev
      ·cases this
     ·cases this
   ·cases h
  ·cases h
theorem aMq [GlobT] : ∀ (aops : List AOper) (st : St) (l : List St),aAs P cf fl aops st=some l→yW P cf fl aops st=l.getLast?
 | [],st,l,h=>by
  simp only [aAs,Option.some.injEq] at h
  subst h
  rfl
 | o :: r,st,l,h=>by
  simp only [aAs] at h
  split at h
  ·rename_i st1 h1
   split at h
   ·rename_i l1 h2
    cases h
    have ih:=aMq r st1 l1 h2
    have hne : l1 ≠ []:=by
     intro e
     subst e
     obtain ⟨S,_,g,_⟩:=aJw r st1 [] h2
     simp at g
    simp only [yW,h1,ih]
    rw [List.getLast?_cons_of_ne_nil hne]
   ·cases h
  ·cases h
theorem aPz [GlobT] {ck : List (Nat × Nat)} {aops : List AOper} {st st' : St} (h : aFb P cf fl ck aops st=some st') : yW P cf fl aops st=some st':=by
 unfold aFb at h
 split at h
 ·exact h
 ·split at h
  ·rename_i l hl
   split at h
   ·rw [aMq aops st l hl]; exact h
   ·cases h
  ·cases h
theorem aO9 [GlobT] (hm : P.follows .mixedOrders=true) (hfo : FlOK cf) (hcf : CfOK P T cf) (hfn : aEj P T) {id : Nat} {ck : List (Nat × Nat)} {draw : Bool} {ops : Array Oper} {aops : List AOper} {tm : List AV} {c : Ctx} {a : Act} {st' : St} {Q : Exit→Act→World→Prop}
  (hchk : chkC P T (.region draw ck aops) (.region id ops draw)=true) (hs : Sim (ftOf T) c) (htr : TR (ftOf T) c tm a.tmps) (hfl : fl ≤ c.H.length) (hev : aFb P cf fl ck aops ⟨tm,c.H⟩=some st')
  (hQ : ∀ a' c',c'.H=st'.heap→Step fl c c'→Sim (ftOf T) c'→TR (ftOf T) c' st'.tmps a'.tmps→a'.defers=a.defers→Q .normal a' c'.w) : (Code.region id ops draw).wp P Q a c.w:=by
 simp only [chkC,Bool.and_eq_true] at hchk
 obtain ⟨⟨_,hc⟩,ho⟩:=hchk
 obtain ⟨hlen,_⟩:=aEc hc
 cases draw with
 | false =>
  refine wp_region ?_
  have hev:=aPz hev
  have:=aWp hcf hfn (ops:=ops) (Q:=Q) aops ops.toList 0 c a tm st' hc (fun j o hj=>by simpa using hj) hs htr hfl hev hQ
  rw [List.range_eq_range']
  rw [hlen] at this
  simpa using this
 | true =>
  simp only [Bool.not_true,Bool.false_or,Bool.and_eq_true,decide_eq_true_eq] at ho
  obtain ⟨⟨h1,h2⟩,h4⟩:=ho
  obtain ⟨S,e1,e2,e3,eck⟩:=aWb hfo hev
  have hval : ∃ val : Nat→AV,∀ k ao,aops[k]? = some ao→(S (k + 1)).tmps=putA (S k).tmps ao.dst (val k):=by
   have : ∀ k,∃ x,∀ ao,aops[k]? = some ao→(S (k + 1)).tmps=putA (S k).tmps ao.dst x:=by
    intro k
    cases hk : aops[k]? with
    | none=>exact ⟨.undef,fun ao h=>by cases h⟩
    | some ao =>
     obtain ⟨x,g1,_⟩:=aIt (tm:=(S k).tmps) (fun _ _=>rfl) (e3 k ao hk)
     exact ⟨x,fun ao' h=>by cases h; exact g1⟩
   exact ⟨fun k=>Classical.choose (this k),fun k=>Classical.choose_spec (this k)⟩
  obtain ⟨val,hval⟩:=hval
  have hlen' : aops.length=ops.size:=by simpa using hlen
  refine wp_region_any hm ?_
  have hd : Drawn c.w { c.w with drawn:=c.w.drawn + 1 }:=⟨rfl,rfl,rfl,rfl,Nat.le_succ _⟩
  have hst0:=aEn (fl:=fl) hd
  refine aY5 (c0:=⟨{ c.w with drawn:=c.w.drawn + 1 },c.X,c.β,c.H⟩) (ds:=a.defers) hcf hfn hc h1 h2.1 h4 e1 e3 hval eck (aQz hlen') (aUm h2.2) hfo hfl ?_ ops.size (Array.replicate ops.size false) a ⟨{ c.w with drawn:=c.w.drawn + 1 },c.X,c.β,c.H⟩ ?_ ?_
  ·intro a' c' f1 f2 f3 f4 f5
   rw [← hlen',e2] at f1 f4
   exact hQ a' c' f1 (hst0.trans f2) f3 f4 f5
  ·unfold unl
   exact Nat.le_trans (List.length_filter_le _ _) (by simp)
  ·have hF : ∀ j,(Array.replicate ops.size false).getD j false=false:=by
    intro j
    simp only [Array.getD_eq_getD_getElem?,Array.getElem?_replicate]
    split <;> rfl
   refine ⟨by simp,hs.drawn hd,Step.refl _ _,rfl,(fun i j _ hD _=>by rw [hF] at hD; cases hD),?_,?_⟩
   have hfd : zT aops tm val (fun j=>(Array.replicate ops.size false).getD j false) ops.size=tm :=
    aGb ops.size (Nat.zero_le _) fun j _ _=>hF j
   ·rw [hfd]
    exact htr.step hst0
   ·have hodd : oddD (fun j=>(Array.replicate ops.size false).getD j false) (aDr aops (ancs ops.toList ops.size []) ops.size 0)=false:=by simp only [oddD,hF,Bool.false_and]
    rw [hpH,if_neg (by rw [hodd]; exact Bool.false_ne_true),xG (k:=0) ops.size (Nat.zero_le _) fun j _ _ _=>hF j]
    simp only [xH,e1]
end
end Go.Proofs.YtapabkfjeiknbaaGreat.Av
